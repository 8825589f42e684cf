/- The proof, part 6. -/
import Derived.Test.YtmhfhiofcoggbaaGreatqT1m4
set_option maxRecDepth 100000
set_option maxHeartbeats 2000000
set_option linter.unusedVariables false
set_option linter.unusedSimpArgs false
namespace Go.Proofs.YtmhfhiofcoggbaaGreat.Vs
open Go.RowKit
noncomputable section
noncomputable def Za5 : List PK := [PK.mk .bool false none false none]
noncomputable def Zto : List PK := [PK.mk (.pair I6 (.pair I6 (.slice 76 P6))) true none false none, PK.mk (.pair I6 (.pair I6 (.slice 76 P6))) true none false none]
noncomputable def Zjp (r : Bool) : Tup Za5 × OutD := ((r, ()), none)
noncomputable def Zjr : Tup Za5 × OutD → Option (Bool)
 | (a, none) => some (a.1)
 | _ => none
theorem ZkN : ∀ b r, Zjr b = some r → Zjp r = b := by
 rintro ⟨a, _ | _⟩ r h <;> cases h; rfl
noncomputable def Z7L : Nat → Int → Int → List (Int × Int) → Int → Int → List (Int × Int) → Int → Int → Option (LR Unit Bool)
 | 0, _, _, _, _, _, _, _, _ => none
 | k + 1, b1_0, b1_1, b1_2, b2_0, b2_1, b2_2, v29, v30 =>
  if decide (v30 < v29) = true then if (0 : Int) ≤ v30 then if v30 < (↑(List.length b1_2) : Int) then if (0 : Int) ≤ v30 then if v30 < (↑(List.length b2_2) : Int) then if (!(decide (Prod.fst (List.getD b1_2 (Int.toNat v30) ((0 : Int), (0 : Int))) = Prod.fst (List.getD b2_2 (Int.toNat v30) ((0 : Int), (0 : Int)))) && (decide (Prod.snd (List.getD b1_2 (Int.toNat v30) ((0 : Int), (0 : Int))) = Prod.snd (List.getD b2_2 (Int.toNat v30) ((0 : Int), (0 : Int)))) && true))) = true then some (LR.ret false) else Z7L k b1_0 b1_1 b1_2 b2_0 b2_1 b2_2 v29 (wrap64 (v30 + 1)) else none else none else none else none else some (LR.go ())
noncomputable def Zgu : Spec := Spec.mk [.ro, O0, O0] [(2, .at (.ptr 1 0)), (3, .at (.ptr 2 0)), (29, .at (.int .i64)), (30, .at (.int .i64))]
noncomputable def ZB8 : Spec := Spec.mk [.ro] []
noncomputable def Z6k : LoopDef (Tup Za5 × OutD) := .rets Zgu ZB8 (Unit) (Bool) (fun k x => Z7L k x.1.2.1.1 x.1.2.1.2.1 x.1.2.1.2.2.1 x.1.2.2.1.1 x.1.2.2.1.2.1 x.1.2.2.1.2.2.1 x.2.2.2.1 x.2.2.2.2.1) (fun z => (((), ()), (()))) (fun y => ()) (fun _ => rfl) Zjp Zjr ZkN
noncomputable def ZcZ : Nat → Int × Int × List (Int × Int) → Int × Int × List (Int × Int) → Option Bool
 | 0, _, _ => none
 | k + 1, p0, p1 =>
  if decide (p0.1 ≠ p1.1) = true then some false else if decide (p0.2.1 ≠ p1.2.1) = true then some false else if decide ((↑(List.length p0.2.2) : Int) ≠ (↑(List.length p1.2.2) : Int)) = true then some false else Option.bind (Z7L k p0.1 p0.2.1 p0.2.2 p1.1 p1.2.1 p1.2.2 (↑(List.length p0.2.2) : Int) (0 : Int)) fun z0 => LR.on z0 (fun y0 => some true) fun r0 => some r0
noncomputable def Z5K : FnDef := .of Zto Za5 (Bool) (fun k x => ZcZ k x.1 x.2.1) Zjp Zjr ZkN
noncomputable def ZfS : Code := Tryz.f7.body.getD .skip
noncomputable def Z89 : Ctx (Tup Za5 × OutD) := { T := T, G := [], mvs := [], no := 0, n := 45, res := resOf T Zto Za5 Tryz.f7.results.toList, loops := [(0, Z6k.E)], regs := [], conds := [], cuts := [] }
theorem Zu3 (k : Nat) : EnvOK Tryz.prog k Z89.G := (EnvOK.nil mixed)
noncomputable def Zch : Code := (findLoop 0 ZfS).getD .skip
theorem ZBh (k : Nat) (x : Zgu.D) : Z6k.lp (k + 1) x = loopK Z89 Z6k 0 Zch k x := by kernel_rfl
theorem ZAE (k : Nat) : LOK Tryz.prog Z89 k Zch := LOK.by [] (by kernel_rfl) AllOK.nil
theorem ZCJ (x : Zgu.D) : Z6k.lp 0 x = none := by kernel_rfl
theorem ZyT (k : Nat) : EOK Tryz.prog Z89 k Z6k.E (.block 0 (.loop Zch)) := Z2 T_ok Zu3 ZCJ ZBh ZAE k
theorem ZGO (k : Nat) (x : Tup Z5K.ps) : Z5K.f (k + 1) x = fnK Z5K Z89 ZfS k x := by kernel_rfl
theorem ZHP (x : Tup Z5K.ps) : Z5K.f 0 x = none := by kernel_rfl
theorem ZHS (k : Nat) : LOK Tryz.prog Z89 k ZfS := LOK.by [(Z6k.E, .block 0 (.loop Zch))] (by kernel_rfl) (AllOK.cons (ZyT k) AllOK.nil)
theorem ZHa (k : Nat) : SoundAt Tryz.prog k 7 Z5K.E := @Z0 Tryz.prog Z5K Z89 7 Tryz.f7 ZfS (by kernel_rfl) (by kernel_rfl) (by kernel_rfl) Tryz.func7 (by kernel_rfl) (by kernel_rfl) (by kernel_rfl) T_ok Zu3 ZHS ZHP ZGO k
noncomputable def Zbw : List PK := [PK.mk .bool false none false none]
noncomputable def Zx1 : List PK := [PK.mk (.slice 3 I6) false none false none, PK.mk (.slice 3 I6) false none false none]
noncomputable def Zkm (r : Bool) : Tup Zbw × OutD := ((r, ()), none)
noncomputable def Zky : Tup Zbw × OutD → Option (Bool)
 | (a, none) => some (a.1)
 | _ => none
theorem Zm2 : ∀ b r, Zky b = some r → Zkm r = b := by
 rintro ⟨a, _ | _⟩ r h <;> cases h; rfl
noncomputable def Z94 : Nat → List Int → List Int → Int → Int → Option (LR Unit Bool)
 | 0, _, _, _, _ => none
 | k + 1, v0, v1, v12, v13 =>
  if decide (v13 < v12) = true then if (0 : Int) ≤ v13 then if v13 < (↑(List.length v0) : Int) then if (0 : Int) ≤ v13 then if v13 < (↑(List.length v1) : Int) then if decide (List.getD v0 (Int.toNat v13) (0 : Int) ≠ List.getD v1 (Int.toNat v13) (0 : Int)) = true then some (LR.ret false) else Z94 k v0 v1 v12 (wrap64 (v13 + 1)) else none else none else none else none else some (LR.go ())
noncomputable def ZhG : Spec := Spec.mk [.ro] [(0, .at (.snap 0 I6)), (1, .at (.snap 0 I6)), (12, .at (.int .i64)), (13, .at (.int .i64))]
noncomputable def ZCV : Spec := Spec.mk [.ro] []
noncomputable def Z81 : LoopDef (Tup Zbw × OutD) := .rets ZhG ZCV (Unit) (Bool) (fun k x => Z94 k x.2.1 x.2.2.1 x.2.2.2.1 x.2.2.2.2.1) (fun z => (((), ()), (()))) (fun y => ()) (fun _ => rfl) Zkm Zky Zm2
noncomputable def Zeb : Nat → List Int → List Int → Option Bool
 | 0, _, _ => none
 | k + 1, p0, p1 =>
  if decide ((↑(List.length p0) : Int) ≠ (↑(List.length p1) : Int)) = true then some false else Option.bind (Z94 k p0 p1 (↑(List.length p0) : Int) (0 : Int)) fun z0 => LR.on z0 (fun y0 => some true) fun r0 => some r0
noncomputable def Z59 : FnDef := .of Zx1 Zbw (Bool) (fun k x => Zeb k x.1 x.2.1) Zkm Zky Zm2
noncomputable def Zia : Code := Tryz.f19.body.getD .skip
noncomputable def Z9g : Ctx (Tup Zbw × OutD) := { T := T, G := [], mvs := [], no := 0, n := 26, res := resOf T Zx1 Zbw Tryz.f19.results.toList, loops := [(0, Z81.E)], regs := [], conds := [], cuts := [] }
theorem Zwp (k : Nat) : EnvOK Tryz.prog k Z9g.G := (EnvOK.nil mixed)
noncomputable def Zdy : Code := (findLoop 0 Zia).getD .skip
theorem ZD7 (k : Nat) (x : ZhG.D) : Z81.lp (k + 1) x = loopK Z9g Z81 0 Zdy k x := by kernel_rfl
theorem ZCO (k : Nat) : LOK Tryz.prog Z9g k Zdy := LOK.by [] (by kernel_rfl) AllOK.nil
theorem ZDq (x : ZhG.D) : Z81.lp 0 x = none := by kernel_rfl
theorem ZC7 (k : Nat) : EOK Tryz.prog Z9g k Z81.E (.block 0 (.loop Zdy)) := Z2 T_ok Zwp ZDq ZD7 ZCO k
theorem ZIF (k : Nat) (x : Tup Z59.ps) : Z59.f (k + 1) x = fnK Z59 Z9g Zia k x := by kernel_rfl
theorem ZIn (x : Tup Z59.ps) : Z59.f 0 x = none := by kernel_rfl
theorem ZIc (k : Nat) : LOK Tryz.prog Z9g k Zia := LOK.by [(Z81.E, .block 0 (.loop Zdy))] (by kernel_rfl) (AllOK.cons (ZC7 k) AllOK.nil)
theorem Zxj (k : Nat) : SoundAt Tryz.prog k 19 Z59.E := @Z0 Tryz.prog Z59 Z9g 19 Tryz.f19 Zia (by kernel_rfl) (by kernel_rfl) (by kernel_rfl) Tryz.func19 (by kernel_rfl) (by kernel_rfl) (by kernel_rfl) T_ok Zwp ZIc ZIn ZIF k
noncomputable def Zdc : List PK := [PK.mk I6 false none false none]
noncomputable def ZAb : List PK := [PK.mk (.slice 3 I6) false none false none]
noncomputable def Zxc (r : Int) : Tup Zdc × OutD := ((r, ()), none)
noncomputable def Zwy : Tup Zdc × OutD → Option (Int)
 | (a, none) => some (a.1)
 | _ => none
theorem ZDj : ∀ b r, Zwy b = some r → Zxc r = b := by
 rintro ⟨a, _ | _⟩ r h <;> cases h; rfl
noncomputable def Za0 : Nat → Int → List Int → Int → Int → Option Int
 | 0, _, _, _, _ => none
 | k + 1, v3, v6, v7, v8 =>
  if decide (v8 < v7) = true then if (0 : Int) ≤ v8 then if v8 < (↑(List.length v6) : Int) then Za0 k (wrap64 (v3 + List.getD v6 (Int.toNat v8) (0 : Int))) v6 v7 (wrap64 (v8 + 1)) else none else none else some v3
noncomputable def Zje : Spec := Spec.mk [.ro] [(3, .at (.int .i64)), (6, .at (.snap 0 I6)), (7, .at (.int .i64)), (8, .at (.int .i64))]
noncomputable def ZEr : Spec := Spec.mk [.ro] [(3, .at (.int .i64))]
noncomputable def Z95 : LoopDef (Tup Zdc × OutD) := .plain Zje ZEr (Int) (fun k x => Za0 k x.2.1 x.2.2.1 x.2.2.2.1 x.2.2.2.2.1) (fun z => (((), ()), (z, ()))) (fun y => (y.2.1)) (fun _ => rfl)
noncomputable def ZjK : Nat → List Int → Option Int
 | 0, _ => none
 | k + 1, p0 =>
  Option.bind (Za0 k (0 : Int) p0 (↑(List.length p0) : Int) (0 : Int)) fun z0 => some z0
noncomputable def Z8N : FnDef := .of ZAb Zdc (Int) (fun k x => ZjK k x.1) Zxc Zwy ZDj
noncomputable def ZjF : Code := Tryz.f20.body.getD .skip
noncomputable def ZaP : Ctx (Tup Zdc × OutD) := { T := T, G := [], mvs := [], no := 0, n := 17, res := resOf T ZAb Zdc Tryz.f20.results.toList, loops := [(0, Z95.E)], regs := [], conds := [], cuts := [] }
theorem ZAq (k : Nat) : EnvOK Tryz.prog k ZaP.G := (EnvOK.nil mixed)
noncomputable def ZeR : Code := (findLoop 0 ZjF).getD .skip
theorem ZFj (k : Nat) (x : Zje.D) : Z95.lp (k + 1) x = loopK ZaP Z95 0 ZeR k x := by kernel_rfl
theorem ZEx (k : Nat) : LOK Tryz.prog ZaP k ZeR := LOK.by [] (by kernel_rfl) AllOK.nil
theorem ZEI (x : Zje.D) : Z95.lp 0 x = none := by kernel_rfl
theorem ZDJ (k : Nat) : EOK Tryz.prog ZaP k Z95.E (.block 0 (.loop ZeR)) := Z2 T_ok ZAq ZEI ZFj ZEx k
theorem ZJo (k : Nat) (x : Tup Z8N.ps) : Z8N.f (k + 1) x = fnK Z8N ZaP ZjF k x := by kernel_rfl
theorem ZJb (x : Tup Z8N.ps) : Z8N.f 0 x = none := by kernel_rfl
theorem ZJ1 (k : Nat) : LOK Tryz.prog ZaP k ZjF := LOK.by [(Z95.E, .block 0 (.loop ZeR))] (by kernel_rfl) (AllOK.cons (ZDJ k) AllOK.nil)
theorem ZJK (k : Nat) : SoundAt Tryz.prog k 20 Z8N.E := @Z0 Tryz.prog Z8N ZaP 20 Tryz.f20 ZjF (by kernel_rfl) (by kernel_rfl) (by kernel_rfl) Tryz.func20 (by kernel_rfl) (by kernel_rfl) (by kernel_rfl) T_ok ZAq ZJ1 ZJb ZJo k
noncomputable def Z99 : List PK := [PK.mk .bool false none false none]
noncomputable def ZpR : List PK := [PK.mk (.slice 58 T6) false none false none, PK.mk (.slice 58 T6) false none false none]
noncomputable def Zho (r : Bool) : Tup Z99 × OutD := ((r, ()), none)
noncomputable def Zib : Tup Z99 × OutD → Option (Bool)
 | (a, none) => some (a.1)
 | _ => none
theorem Zkh : ∀ b r, Zib b = some r → Zho r = b := by
 rintro ⟨a, _ | _⟩ r h <;> cases h; rfl
noncomputable def Z6M : Nat → List (Int × Int × Int) → List (Int × Int × Int) → Int → Int → Option (LR Unit Bool)
 | 0, _, _, _, _ => none
 | k + 1, v0, v1, v12, v13 =>
  if decide (v13 < v12) = true then if (0 : Int) ≤ v13 then if v13 < (↑(List.length v0) : Int) then if (0 : Int) ≤ v13 then if v13 < (↑(List.length v1) : Int) then if (!(decide (Prod.fst (List.getD v0 (Int.toNat v13) ((0 : Int), (0 : Int), (0 : Int))) = Prod.fst (List.getD v1 (Int.toNat v13) ((0 : Int), (0 : Int), (0 : Int)))) && (decide (Prod.fst (Prod.snd (List.getD v0 (Int.toNat v13) ((0 : Int), (0 : Int), (0 : Int)))) = Prod.fst (Prod.snd (List.getD v1 (Int.toNat v13) ((0 : Int), (0 : Int), (0 : Int))))) && (decide (Prod.snd (Prod.snd (List.getD v0 (Int.toNat v13) ((0 : Int), (0 : Int), (0 : Int)))) = Prod.snd (Prod.snd (List.getD v1 (Int.toNat v13) ((0 : Int), (0 : Int), (0 : Int))))) && true)))) = true then some (LR.ret false) else Z6M k v0 v1 v12 (wrap64 (v13 + 1)) else none else none else none else none else some (LR.go ())
noncomputable def Zf3 : Spec := Spec.mk [.ro] [(0, .at (.snap 0 T6)), (1, .at (.snap 0 T6)), (12, .at (.int .i64)), (13, .at (.int .i64))]
noncomputable def Zzg : Spec := Spec.mk [.ro] []
noncomputable def Z5j : LoopDef (Tup Z99 × OutD) := .rets Zf3 Zzg (Unit) (Bool) (fun k x => Z6M k x.2.1 x.2.2.1 x.2.2.2.1 x.2.2.2.2.1) (fun z => (((), ()), (()))) (fun y => ()) (fun _ => rfl) Zho Zib Zkh
noncomputable def ZeQ : Nat → List (Int × Int × Int) → List (Int × Int × Int) → Option Bool
 | 0, _, _ => none
 | k + 1, p0, p1 =>
  if decide ((↑(List.length p0) : Int) ≠ (↑(List.length p1) : Int)) = true then some false else Option.bind (Z6M k p0 p1 (↑(List.length p0) : Int) (0 : Int)) fun z0 => LR.on z0 (fun y0 => some true) fun r0 => some r0
noncomputable def Z4A : FnDef := .of ZpR Z99 (Bool) (fun k x => ZeQ k x.1 x.2.1) Zho Zib Zkh
noncomputable def Zeq : Code := Tryz.f23.body.getD .skip
noncomputable def Z6D : Ctx (Tup Z99 × OutD) := { T := T, G := [], mvs := [], no := 0, n := 26, res := resOf T ZpR Z99 Tryz.f23.results.toList, loops := [(0, Z5j.E)], regs := [], conds := [], cuts := [] }
theorem ZrO (k : Nat) : EnvOK Tryz.prog k Z6D.G := (EnvOK.nil mixed)
noncomputable def Zb7 : Code := (findLoop 0 Zeq).getD .skip
theorem ZzH (k : Nat) (x : Zf3.D) : Z5j.lp (k + 1) x = loopK Z6D Z5j 0 Zb7 k x := by kernel_rfl
theorem Zyn (k : Nat) : LOK Tryz.prog Z6D k Zb7 := LOK.by [] (by kernel_rfl) AllOK.nil
theorem ZA2 (x : Zf3.D) : Z5j.lp 0 x = none := by kernel_rfl
theorem ZwS (k : Nat) : EOK Tryz.prog Z6D k Z5j.E (.block 0 (.loop Zb7)) := Z2 T_ok ZrO ZA2 ZzH Zyn k
theorem ZEV (k : Nat) (x : Tup Z4A.ps) : Z4A.f (k + 1) x = fnK Z4A Z6D Zeq k x := by kernel_rfl
theorem ZFH (x : Tup Z4A.ps) : Z4A.f 0 x = none := by kernel_rfl
theorem ZFL (k : Nat) : LOK Tryz.prog Z6D k Zeq := LOK.by [(Z5j.E, .block 0 (.loop Zb7))] (by kernel_rfl) (AllOK.cons (ZwS k) AllOK.nil)
theorem ZEQ (k : Nat) : SoundAt Tryz.prog k 23 Z4A.E := @Z0 Tryz.prog Z4A Z6D 23 Tryz.f23 Zeq (by kernel_rfl) (by kernel_rfl) (by kernel_rfl) Tryz.func23 (by kernel_rfl) (by kernel_rfl) (by kernel_rfl) T_ok ZrO ZFL ZFH ZEV k
noncomputable def Zad : List PK := [PK.mk .bool false none false none]
noncomputable def Zuo : List PK := [PK.mk (.slice 40 T6) false none false none, PK.mk (.slice 40 T6) false none false none]
noncomputable def Zj7 (r : Bool) : Tup Zad × OutD := ((r, ()), none)
noncomputable def Zjj : Tup Zad × OutD → Option (Bool)
 | (a, none) => some (a.1)
 | _ => none
theorem Zl2 : ∀ b r, Zjj b = some r → Zj7 r = b := by
 rintro ⟨a, _ | _⟩ r h <;> cases h; rfl
noncomputable def Z7M : Nat → List (Int × Int × Int) → List (Int × Int × Int) → Int → Int → Option (LR Unit Bool)
 | 0, _, _, _, _ => none
 | k + 1, v0, v1, v12, v13 =>
  if decide (v13 < v12) = true then if (0 : Int) ≤ v13 then if v13 < (↑(List.length v0) : Int) then if (0 : Int) ≤ v13 then if v13 < (↑(List.length v1) : Int) then if (!(decide (Prod.fst (List.getD v0 (Int.toNat v13) ((0 : Int), (0 : Int), (0 : Int))) = Prod.fst (List.getD v1 (Int.toNat v13) ((0 : Int), (0 : Int), (0 : Int)))) && (decide (Prod.fst (Prod.snd (List.getD v0 (Int.toNat v13) ((0 : Int), (0 : Int), (0 : Int)))) = Prod.fst (Prod.snd (List.getD v1 (Int.toNat v13) ((0 : Int), (0 : Int), (0 : Int))))) && (decide (Prod.snd (Prod.snd (List.getD v0 (Int.toNat v13) ((0 : Int), (0 : Int), (0 : Int)))) = Prod.snd (Prod.snd (List.getD v1 (Int.toNat v13) ((0 : Int), (0 : Int), (0 : Int))))) && true)))) = true then some (LR.ret false) else Z7M k v0 v1 v12 (wrap64 (v13 + 1)) else none else none else none else none else some (LR.go ())
noncomputable def ZgB : Spec := Spec.mk [.ro] [(0, .at (.snap 0 T6)), (1, .at (.snap 0 T6)), (12, .at (.int .i64)), (13, .at (.int .i64))]
noncomputable def ZAL : Spec := Spec.mk [.ro] []
noncomputable def Z6q : LoopDef (Tup Zad × OutD) := .rets ZgB ZAL (Unit) (Bool) (fun k x => Z7M k x.2.1 x.2.2.1 x.2.2.2.1 x.2.2.2.2.1) (fun z => (((), ()), (()))) (fun y => ()) (fun _ => rfl) Zj7 Zjj Zl2
noncomputable def ZfQ : Nat → List (Int × Int × Int) → List (Int × Int × Int) → Option Bool
 | 0, _, _ => none
 | k + 1, p0, p1 =>
  if decide ((↑(List.length p0) : Int) ≠ (↑(List.length p1) : Int)) = true then some false else Option.bind (Z7M k p0 p1 (↑(List.length p0) : Int) (0 : Int)) fun z0 => LR.on z0 (fun y0 => some true) fun r0 => some r0
noncomputable def Z5y : FnDef := .of Zuo Zad (Bool) (fun k x => ZfQ k x.1 x.2.1) Zj7 Zjj Zl2
noncomputable def ZfU : Code := Tryz.f26.body.getD .skip
noncomputable def Z8c : Ctx (Tup Zad × OutD) := { T := T, G := [], mvs := [], no := 0, n := 26, res := resOf T Zuo Zad Tryz.f26.results.toList, loops := [(0, Z6q.E)], regs := [], conds := [], cuts := [] }
theorem Zuh (k : Nat) : EnvOK Tryz.prog k Z8c.G := (EnvOK.nil mixed)
noncomputable def Zc7 : Code := (findLoop 0 ZfU).getD .skip
theorem ZBR (k : Nat) (x : ZgB.D) : Z6q.lp (k + 1) x = loopK Z8c Z6q 0 Zc7 k x := by kernel_rfl
theorem ZAI (k : Nat) : LOK Tryz.prog Z8c k Zc7 := LOK.by [] (by kernel_rfl) AllOK.nil
theorem ZB4 (x : ZgB.D) : Z6q.lp 0 x = none := by kernel_rfl
theorem ZzL (k : Nat) : EOK Tryz.prog Z8c k Z6q.E (.block 0 (.loop Zc7)) := Z2 T_ok Zuh ZB4 ZBR ZAI k
theorem ZGu (k : Nat) (x : Tup Z5y.ps) : Z5y.f (k + 1) x = fnK Z5y Z8c ZfU k x := by kernel_rfl
theorem ZHi (x : Tup Z5y.ps) : Z5y.f 0 x = none := by kernel_rfl
theorem ZGg (k : Nat) : LOK Tryz.prog Z8c k ZfU := LOK.by [(Z6q.E, .block 0 (.loop Zc7))] (by kernel_rfl) (AllOK.cons (ZzL k) AllOK.nil)
theorem ZHm (k : Nat) : SoundAt Tryz.prog k 26 Z5y.E := @Z0 Tryz.prog Z5y Z8c 26 Tryz.f26 ZfU (by kernel_rfl) (by kernel_rfl) (by kernel_rfl) Tryz.func26 (by kernel_rfl) (by kernel_rfl) (by kernel_rfl) T_ok Zuh ZGg ZHi ZGu k
noncomputable def Z3Y : List PK := [PK.mk (.slice 3 I6) false none false none]
noncomputable def Ziu : List PK := [PK.mk (.slice 3 I6) false none false none, PK.mk (.pair I6 (.slice 3 I6)) true none false none]
noncomputable def ZhD (r : List Int) : Tup Z3Y × OutD := ((r, ()), none)
noncomputable def Zio : Tup Z3Y × OutD → Option (List Int)
 | (a, none) => some (a.1)
 | _ => none
theorem Znl : ∀ b r, Zio b = some r → ZhD r = b := by
 rintro ⟨a, _ | _⟩ r h <;> cases h; rfl
noncomputable def Z1P : Nat → Int → List Int → List Int → List Int → Int → Int → Option (List Int)
 | 0, _, _, _, _, _, _ => none
 | k + 1, b1_0, b1_1, o2, v9, v10, v11 =>
  if decide (v11 < v10) = true then if (0 : Int) ≤ v11 then if v11 < (↑(List.length v9) : Int) then if (0 : Int) ≤ v11 then if v11 < (↑(List.length b1_1) : Int) then if decide (List.getD v9 (Int.toNat v11) (0 : Int) ≠ List.getD b1_1 (Int.toNat v11) (0 : Int)) = true then if List.length o2 + List.length [v11] ≤ (140737488355328 / 8 : Nat) then Z1P k b1_0 b1_1 (o2 ++ [v11]) v9 v10 (wrap64 (v11 + 1)) else none else Z1P k b1_0 b1_1 o2 v9 v10 (wrap64 (v11 + 1)) else none else none else none else none else some o2
noncomputable def ZaL : Spec := Spec.mk [.ro, Og, O4] [(3, .at (.ptr 1 0)), (5, .at (.sl 2)), (9, .at (.snap 0 I6)), (10, .at (.int .i64)), (11, .at (.int .i64))]
noncomputable def Zpx : Spec := Spec.mk [.ro, O4] [(5, .at (.sl 1))]
noncomputable def Z2m : LoopDef (Tup Z3Y × OutD) := .plain ZaL Zpx (List Int) (fun k x => Z1P k x.1.2.1.1 x.1.2.1.2.1 x.1.2.2.1 x.2.2.2.1 x.2.2.2.2.1 x.2.2.2.2.2.1) (fun z => (((), z, ()), ((), ()))) (fun y => (y.1.2.1)) (fun _ => rfl)
noncomputable def Zdn : Nat → List Int → Int × List Int → Option (List Int)
 | 0, _, _ => none
 | k + 1, p0, p1 =>
  Option.bind (Z1P k p1.1 p1.2 [] p0 (↑(List.length p0) : Int) (0 : Int)) fun z0 => some z0
noncomputable def Z1x : FnDef := .of Ziu Z3Y (List Int) (fun k x => Zdn k x.1 x.2.1) ZhD Zio Znl
noncomputable def Z9P : Code := Tryz.f36.body.getD .skip
noncomputable def Z2I : Ctx (Tup Z3Y × OutD) := { T := T, G := [], mvs := [], no := 0, n := 29, res := resOf T Ziu Z3Y Tryz.f36.results.toList, loops := [(0, Z2m.E)], regs := [], conds := [], cuts := [] }
theorem ZiF (k : Nat) : EnvOK Tryz.prog k Z2I.G := (EnvOK.nil mixed)
noncomputable def Z76 : Code := (findLoop 0 Z9P).getD .skip
theorem Zpu (k : Nat) (x : ZaL.D) : Z2m.lp (k + 1) x = loopK Z2I Z2m 0 Z76 k x := by kernel_rfl
theorem Zp0 (k : Nat) : LOK Tryz.prog Z2I k Z76 := LOK.by [] (by kernel_rfl) AllOK.nil
theorem Zpn (x : ZaL.D) : Z2m.lp 0 x = none := by kernel_rfl
theorem Znk (k : Nat) : EOK Tryz.prog Z2I k Z2m.E (.block 0 (.loop Z76)) := Z2 T_ok ZiF Zpn Zpu Zp0 k
theorem ZvO (k : Nat) (x : Tup Z1x.ps) : Z1x.f (k + 1) x = fnK Z1x Z2I Z9P k x := by kernel_rfl
theorem ZvA (x : Tup Z1x.ps) : Z1x.f 0 x = none := by kernel_rfl
theorem ZuA (k : Nat) : LOK Tryz.prog Z2I k Z9P := LOK.by [(Z2m.E, .block 0 (.loop Z76))] (by kernel_rfl) (AllOK.cons (Znk k) AllOK.nil)
theorem Zvq (k : Nat) : SoundAt Tryz.prog k 36 Z1x.E := @Z0 Tryz.prog Z1x Z2I 36 Tryz.f36 Z9P (by kernel_rfl) (by kernel_rfl) (by kernel_rfl) Tryz.func36 (by kernel_rfl) (by kernel_rfl) (by kernel_rfl) T_ok ZiF ZuA ZvA ZvO k
noncomputable def Z6a : List PK := [PK.mk (.pair I6 (.pair I6 (.slice 76 P6))) true none false none]
noncomputable def ZlE : List PK := [PK.mk (.pair I6 (.pair I6 (.slice 76 P6))) true none false none]
noncomputable def ZkR (r : Int × Int × List (Int × Int)) : Tup Z6a × OutD := ((r, ()), none)
noncomputable def ZkV : Tup Z6a × OutD → Option (Int × Int × List (Int × Int))
 | (a, none) => some (a.1)
 | _ => none
theorem ZsG : ∀ b r, ZkV b = some r → ZkR r = b := by
 rintro ⟨a, _ | _⟩ r h <;> cases h; rfl
noncomputable def Z46 : Nat → Int → Int → List (Int × Int) → Int → Int → List (Int × Int) → Option (Int × Int × List (Int × Int)) := fun k b1_0 b1_1 b1_2 b2_0 b2_1 o3 =>
  if (0 : Nat) + List.length b1_2 ≤ (140737488355328 / 16 : Nat) then some (b1_0, b1_1, b1_2) else none
noncomputable def Z8v : Nat → Int → Int → List (Int × Int) → Int → Int → List (Int × Int) → Option (List (Int × Int × List (Int × Int))) := fun k b1_0 b1_1 b1_2 b2_0 b2_1 o3 =>
  joinL (joinL (if (0 : Nat) + List.length b1_2 ≤ (140737488355328 / 16 : Nat) then some [(b1_0, b1_1, b1_2)] else none) (joinL (if (0 : Nat) + List.length b1_2 ≤ (140737488355328 / 16 : Nat) then some [(b1_0, b1_1, b1_2)] else none) (if (0 : Nat) + List.length b1_2 ≤ (140737488355328 / 16 : Nat) then some [(b1_0, b1_1, b1_2)] else none))) (joinL (joinL (if (0 : Nat) + List.length b1_2 ≤ (140737488355328 / 16 : Nat) then some [(b1_0, b1_1, b1_2)] else none) (joinL (if (0 : Nat) + List.length b1_2 ≤ (140737488355328 / 16 : Nat) then some [(b1_0, b1_1, b1_2)] else none) (if (0 : Nat) + List.length b1_2 ≤ (140737488355328 / 16 : Nat) then some [(b1_0, b1_1, b1_2)] else none))) (joinL (joinL (if (0 : Nat) + List.length b1_2 ≤ (140737488355328 / 16 : Nat) then some [(b1_0, b1_1, b1_2)] else none) (if (0 : Nat) + List.length b1_2 ≤ (140737488355328 / 16 : Nat) then some [(b1_0, b1_1, b1_2)] else none)) (joinL (joinL (if (0 : Nat) + List.length b1_2 ≤ (140737488355328 / 16 : Nat) then some [(b1_0, b1_1, b1_2)] else none) (if (0 : Nat) + List.length b1_2 ≤ (140737488355328 / 16 : Nat) then some [(b1_0, b1_1, b1_2)] else none)) (if (0 : Nat) + List.length b1_2 ≤ (140737488355328 / 16 : Nat) then joinL (some [(b1_0, b1_1, b1_2)]) (some [(b1_0, b1_1, b1_2)]) else none))))
noncomputable def Zid : Spec := Spec.mk [.ro, O0, O5, O2] [(1, .at (.ptr 1 0)), (2, .at (.ptr 2 0))]
noncomputable def Zss : Spec := Spec.mk [.ro, O7, O2] [(2, .at (.ptr 1 0))]
noncomputable def Z3w : LoopDef (Tup Z6a × OutD) := .plain Zid Zss (Int × Int × List (Int × Int)) (fun k x => Z46 k x.1.2.1.1 x.1.2.1.2.1 x.1.2.1.2.2.1 x.1.2.2.1.1 x.1.2.2.1.2.1 x.1.2.2.2.1) (fun z => (((), (z.1, z.2.1, (), ()), z.2.2, ()), ((), ()))) (fun y => (y.1.2.1.1, y.1.2.1.2.1, y.1.2.2.1)) (fun _ => rfl)
theorem ZsV (k : Nat) (b1_0 : Int) (b1_1 : Int) (b1_2 : List (Int × Int)) (b2_0 : Int) (b2_1 : Int) (o3 : List (Int × Int)) : Z8v k b1_0 b1_1 b1_2 b2_0 b2_1 o3 = repl 12 (Z46 k b1_0 b1_1 b1_2 b2_0 b2_1 o3) := by
 first
 | (simp only [Z8v, Z46, Zj, Zv, Zl, Zi, Zk, Z4, if_true]; done)
 | (simp only [Z8v, Z46, Zj, Zv, Zl, Zi, Zk, Z4, if_true]; simp only [Z28, Z2b, Z4s, Z4]; simp only [Z6A]; exact Z3b ⟨fun h => by simp only [h, and_self], fun h => by simp only [h, and_self]⟩)
noncomputable def Z37 : Nat → Int × Int × List (Int × Int) → Option (Int × Int × List (Int × Int))
 | 0, _ => none
 | k + 1, p0 =>
  Option.bind (Z46 k p0.1 p0.2.1 p0.2.2 (0 : Int) (0 : Int) []) fun z0 => some (z0.1, z0.2.1, z0.2.2)
noncomputable def Z1p : FnDef := .of ZlE Z6a (Int × Int × List (Int × Int)) (fun k x => Z37 k x.1) ZkR ZkV ZsG
noncomputable def ZcK : Code := Tryz.f41.body.getD .skip
noncomputable def Z1s : Ctx (Tup Z6a × OutD) := { T := T, G := [], mvs := [], no := 0, n := 12, res := resOf T ZlE Z6a Tryz.f41.results.toList, loops := [], regs := [(1, Z3w.E)], conds := [], cuts := [] }
theorem ZlI (k : Nat) : EnvOK Tryz.prog k Z1s.G := (EnvOK.nil mixed)
noncomputable def ZcH : Array Oper := (findReg 1 ZcK).getD #[]
theorem Zsu (k : Nat) (x : Zid.D) : execD Z1s.T Z1s.G Z1s.mvs k ZcH (Z3w.inp.st Z1s.n x) (outK Z1s Z3w) = Z8v k x.1.2.1.1 x.1.2.1.2.1 x.1.2.1.2.2.1 x.1.2.2.1.1 x.1.2.2.1.2.1 x.1.2.2.2.1 := by kernel_rfl
theorem Zrq (k : Nat) : EOK Tryz.prog Z1s k Z3w.E (.region 1 ZcH true) := Z8o (D := Z3w) (m := 12) T_ok (ZlI k) (fun x => (Zsu k x).trans (ZsV k x.1.2.1.1 x.1.2.1.2.1 x.1.2.1.2.2.1 x.1.2.2.1.1 x.1.2.2.1.2.1 x.1.2.2.2.1))
theorem ZCH (k : Nat) (x : Tup Z1p.ps) : Z1p.f (k + 1) x = fnK Z1p Z1s ZcK k x := by kernel_rfl
theorem ZBw (x : Tup Z1p.ps) : Z1p.f 0 x = none := by kernel_rfl
theorem ZC0 (k : Nat) : LOK Tryz.prog Z1s k ZcK := LOK.by [(Z3w.E, .region 1 ZcH true)] (by kernel_rfl) (AllOK.cons (Zrq k) AllOK.nil)
theorem ZgF (k : Nat) : SoundAt Tryz.prog k 41 Z1p.E := @Z0 Tryz.prog Z1p Z1s 41 Tryz.f41 ZcK (by kernel_rfl) (by kernel_rfl) (by kernel_rfl) Tryz.func41 (by kernel_rfl) (by kernel_rfl) (by kernel_rfl) T_ok ZlI ZC0 ZBw ZCH k
noncomputable def Z6T : List PK := [PK.mk (.pair I6 (.pair I6 (.slice 76 P6))) true none false none]
noncomputable def Zr4 : List PK := [PK.mk (.pair I6 (.pair I6 (.pair (.slice 76 P6) (.pair (.slice 3 I6) (.slice 3 I6))))) true none false none, PK.mk I6 false none false none]
noncomputable def Znt (r : Int × Int × List (Int × Int)) : Tup Z6T × OutD := ((r, ()), none)
noncomputable def ZnY : Tup Z6T × OutD → Option (Int × Int × List (Int × Int))
 | (a, none) => some (a.1)
 | _ => none
theorem Zxm : ∀ b r, ZnY b = some r → Znt r = b := by
 rintro ⟨a, _ | _⟩ r h <;> cases h; rfl
noncomputable def Z5i : Nat → Int → Int → List (Int × Int) → List Int → List Int → Int → Int → List (Int × Int) → Int → Option (Int × Int × List (Int × Int) × List Int × List Int × Int × Int × List (Int × Int) × Int × Int × List (Int × Int) × Int) := fun k b1_0 b1_1 b1_2 b1_3 b1_4 b2_0 b2_1 o3 v1 =>
  if (0 : Int) ≤ wrap64 (b1_0 * b1_1) then if Int.toNat (wrap64 (b1_0 * b1_1)) * (16 : Nat) ≤ (281474976710656 : Nat) then some (b1_0, b1_1, b1_2, b1_3, b1_4, b2_0, b2_1, o3, b1_0, b1_1, List.replicate (Int.toNat (wrap64 (b1_0 * b1_1))) ((0 : Int), (0 : Int)), v1) else none else none
noncomputable def Zah : Nat → Int → Int → List (Int × Int) → List Int → List Int → Int → Int → List (Int × Int) → Int → Option (List (Int × Int × List (Int × Int) × List Int × List Int × Int × Int × List (Int × Int) × Int × Int × List (Int × Int) × Int)) := fun k b1_0 b1_1 b1_2 b1_3 b1_4 b2_0 b2_1 o3 v1 =>
  joinL (if (0 : Int) ≤ wrap64 (b1_0 * b1_1) then if Int.toNat (wrap64 (b1_0 * b1_1)) * (16 : Nat) ≤ (281474976710656 : Nat) then some [(b1_0, b1_1, b1_2, b1_3, b1_4, b2_0, b2_1, o3, b1_0, b1_1, List.replicate (Int.toNat (wrap64 (b1_0 * b1_1))) ((0 : Int), (0 : Int)), v1)] else none else none) (if (0 : Int) ≤ wrap64 (b1_0 * b1_1) then if Int.toNat (wrap64 (b1_0 * b1_1)) * (16 : Nat) ≤ (281474976710656 : Nat) then some [(b1_0, b1_1, b1_2, b1_3, b1_4, b2_0, b2_1, o3, b1_0, b1_1, List.replicate (Int.toNat (wrap64 (b1_0 * b1_1))) ((0 : Int), (0 : Int)), v1)] else none else none)
noncomputable def Zk1 : Spec := Spec.mk [.ro, O1, O5, O2] [(1, .at (.int .i64)), (2, .at (.ptr 1 0)), (4, .at (.ptr 2 0))]
noncomputable def ZwB : Spec := Spec.mk [.ro, O1, O5, O2, O9, O2] [(1, .at (.int .i64)), (2, .at (.ptr 1 0)), (4, .at (.ptr 2 0)), (5, .at (.ptr 4 0))]
noncomputable def Z4W : LoopDef (Tup Z6T × OutD) := .plain Zk1 ZwB (Int × Int × List (Int × Int) × List Int × List Int × Int × Int × List (Int × Int) × Int × Int × List (Int × Int) × Int) (fun k x => Z5i k x.1.2.1.1 x.1.2.1.2.1 x.1.2.1.2.2.1 x.1.2.1.2.2.2.1 x.1.2.1.2.2.2.2.1 x.1.2.2.1.1 x.1.2.2.1.2.1 x.1.2.2.2.1 x.2.1) (fun z => (((), (z.1, z.2.1, z.2.2.1, z.2.2.2.1, z.2.2.2.2.1, ()), (z.2.2.2.2.2.1, z.2.2.2.2.2.2.1, (), ()), z.2.2.2.2.2.2.2.1, (z.2.2.2.2.2.2.2.2.1, z.2.2.2.2.2.2.2.2.2.1, (), ()), z.2.2.2.2.2.2.2.2.2.2.1, ()), (z.2.2.2.2.2.2.2.2.2.2.2, (), (), (), ()))) (fun y => (y.1.2.1.1, y.1.2.1.2.1, y.1.2.1.2.2.1, y.1.2.1.2.2.2.1, y.1.2.1.2.2.2.2.1, y.1.2.2.1.1, y.1.2.2.1.2.1, y.1.2.2.2.1, y.1.2.2.2.2.1.1, y.1.2.2.2.2.1.2.1, y.1.2.2.2.2.2.1, y.2.1)) (fun _ => rfl)
theorem Zxo (k : Nat) (b1_0 : Int) (b1_1 : Int) (b1_2 : List (Int × Int)) (b1_3 : List Int) (b1_4 : List Int) (b2_0 : Int) (b2_1 : Int) (o3 : List (Int × Int)) (v1 : Int) : Zah k b1_0 b1_1 b1_2 b1_3 b1_4 b2_0 b2_1 o3 v1 = repl 2 (Z5i k b1_0 b1_1 b1_2 b1_3 b1_4 b2_0 b2_1 o3 v1) := by
 first
 | (simp only [Zah, Z5i, Zj, Zv, Zl, Zi, Zk, Z4, if_true]; done)
 | (simp only [Zah, Z5i, Zj, Zv, Zl, Zi, Zk, Z4, if_true]; simp only [Z28, Z2b, Z4s, Z4]; simp only [Z6A]; exact Z3b ⟨fun h => by simp only [h, and_self], fun h => by simp only [h, and_self]⟩)
noncomputable def Z4p : Nat → Int → Int → List (Int × Int) → List Int → List Int → Int → Int → List (Int × Int) → Int → Int → List (Int × Int) → Int → Int → Option (Int × Int × List (Int × Int) × Int × Int × List (Int × Int))
 | 0, _, _, _, _, _, _, _, _, _, _, _, _, _ => none
 | k + 1, b1_0, b1_1, b1_2, b1_3, b1_4, b2_0, b2_1, o3, b4_0, b4_1, o5, v1, v6 =>
  if decide (v6 ≥ 0) = true then if addS (↑(List.length b1_2) : Int) (1 : Int) = 0 then none else if decide (Int.tmod v1 (addS (↑(List.length b1_2) : Int) (1 : Int)) > 0) = true then if (0 : Int) ≤ wrap64 (Int.tmod v1 (addS (↑(List.length b1_2) : Int) (1 : Int)) - 1) then if wrap64 (Int.tmod v1 (addS (↑(List.length b1_2) : Int) (1 : Int)) - 1) < (↑(List.length b1_2) : Int) then if (0 : Int) ≤ v6 then if v6 < (↑(List.length o5) : Int) then if addS (↑(List.length b1_2) : Int) (1 : Int) = 0 then none else Z4p k b1_0 b1_1 b1_2 b1_3 b1_4 b2_0 b2_1 o3 b4_0 b4_1 (List.set o5 (Int.toNat v6) (Prod.fst (List.getD b1_2 (Int.toNat (wrap64 (Int.tmod v1 (addS (↑(List.length b1_2) : Int) (1 : Int)) - 1))) ((0 : Int), (0 : Int))), Prod.snd (List.getD b1_2 (Int.toNat (wrap64 (Int.tmod v1 (addS (↑(List.length b1_2) : Int) (1 : Int)) - 1))) ((0 : Int), (0 : Int))))) (wrap64 (Int.tdiv v1 (addS (↑(List.length b1_2) : Int) (1 : Int)))) (wrap64 (v6 - 1)) else none else none else none else none else if addS (↑(List.length b1_2) : Int) (1 : Int) = 0 then none else Z4p k b1_0 b1_1 b1_2 b1_3 b1_4 b2_0 b2_1 o3 b4_0 b4_1 o5 (wrap64 (Int.tdiv v1 (addS (↑(List.length b1_2) : Int) (1 : Int)))) (wrap64 (v6 - 1)) else some (b2_0, b2_1, o3, b4_0, b4_1, o5)
noncomputable def Zfi : Spec := Spec.mk [.ro, O1, O5, O2, O9, O2] [(1, .at (.int .i64)), (2, .at (.ptr 1 0)), (4, .at (.ptr 2 0)), (5, .at (.ptr 4 0)), (6, .at (.int .i64))]
noncomputable def Zz9 : Spec := Spec.mk [.ro, O7, O2, O6, O2] [(4, .at (.ptr 1 0)), (5, .at (.ptr 3 0))]
noncomputable def Z5l : LoopDef (Tup Z6T × OutD) := .plain Zfi Zz9 (Int × Int × List (Int × Int) × Int × Int × List (Int × Int)) (fun k x => Z4p k x.1.2.1.1 x.1.2.1.2.1 x.1.2.1.2.2.1 x.1.2.1.2.2.2.1 x.1.2.1.2.2.2.2.1 x.1.2.2.1.1 x.1.2.2.1.2.1 x.1.2.2.2.1 x.1.2.2.2.2.1.1 x.1.2.2.2.2.1.2.1 x.1.2.2.2.2.2.1 x.2.1 x.2.2.2.2.2.1) (fun z => (((), (z.1, z.2.1, (), ()), z.2.2.1, (z.2.2.2.1, z.2.2.2.2.1, (), ()), z.2.2.2.2.2, ()), ((), (), ()))) (fun y => (y.1.2.1.1, y.1.2.1.2.1, y.1.2.2.1, y.1.2.2.2.1.1, y.1.2.2.2.1.2.1, y.1.2.2.2.2.1)) (fun _ => rfl)
noncomputable def Zbo : Nat → Int × Int × List (Int × Int) × List Int × List Int → Int → Option (Int × Int × List (Int × Int))
 | 0, _, _ => none
 | k + 1, p0, p1 =>
  Option.bind (Z5i k p0.1 p0.2.1 p0.2.2.1 p0.2.2.2.1 p0.2.2.2.2 (0 : Int) (0 : Int) [] p1) fun z0 => Option.bind (Z4p k z0.1 z0.2.1 z0.2.2.1 z0.2.2.2.1 z0.2.2.2.2.1 z0.2.2.2.2.2.1 z0.2.2.2.2.2.2.1 z0.2.2.2.2.2.2.2.1 z0.2.2.2.2.2.2.2.2.1 z0.2.2.2.2.2.2.2.2.2.1 z0.2.2.2.2.2.2.2.2.2.2.1 z0.2.2.2.2.2.2.2.2.2.2.2 (wrap64 ((↑(List.length z0.2.2.2.2.2.2.2.2.2.2.1) : Int) - 1))) fun z1 => some (z1.2.2.2.1, z1.2.2.2.2.1, z1.2.2.2.2.2)
noncomputable def Z3u : FnDef := .of Zr4 Z6T (Int × Int × List (Int × Int)) (fun k x => Zbo k x.1 x.2.1) Znt ZnY Zxm
noncomputable def ZbE : Code := Tryz.f47.body.getD .skip
noncomputable def Z12 : Ctx (Tup Z6T × OutD) := { T := T, G := [], mvs := [200031, 200049], no := 0, n := 52, res := resOf T Zr4 Z6T Tryz.f47.results.toList, loops := [(0, Z5l.E)], regs := [(1, Z4W.E)], conds := [], cuts := [] }
theorem Zjg (k : Nat) : EnvOK Tryz.prog k Z12.G := (EnvOK.nil mixed)
noncomputable def Ze0 : Array Oper := (findReg 1 ZbE).getD #[]
theorem Zxq (k : Nat) (x : Zk1.D) : execD Z12.T Z12.G Z12.mvs k Ze0 (Z4W.inp.st Z12.n x) (outK Z12 Z4W) = Zah k x.1.2.1.1 x.1.2.1.2.1 x.1.2.1.2.2.1 x.1.2.1.2.2.2.1 x.1.2.1.2.2.2.2.1 x.1.2.2.1.1 x.1.2.2.1.2.1 x.1.2.2.2.1 x.2.1 := by kernel_rfl
theorem ZuR (k : Nat) : EOK Tryz.prog Z12 k Z4W.E (.region 1 Ze0 true) := Z8o (D := Z4W) (m := 2) T_ok (Zjg k) (fun x => (Zxq k x).trans (Zxo k x.1.2.1.1 x.1.2.1.2.1 x.1.2.1.2.2.1 x.1.2.1.2.2.2.1 x.1.2.1.2.2.2.2.1 x.1.2.2.1.1 x.1.2.2.1.2.1 x.1.2.2.2.1 x.2.1))
noncomputable def Zb4 : Code := (findLoop 0 ZbE).getD .skip
theorem Zzn (k : Nat) (x : Zfi.D) : Z5l.lp (k + 1) x = loopK Z12 Z5l 0 Zb4 k x := by kernel_rfl
theorem Zyf (k : Nat) : LOK Tryz.prog Z12 k Zb4 := LOK.by [] (by kernel_rfl) AllOK.nil
theorem Zyi (x : Zfi.D) : Z5l.lp 0 x = none := by kernel_rfl
theorem Zxs (k : Nat) : EOK Tryz.prog Z12 k Z5l.E (.block 0 (.loop Zb4)) := Z2 T_ok Zjg Zyi Zzn Zyf k
theorem ZFy (k : Nat) (x : Tup Z3u.ps) : Z3u.f (k + 1) x = fnK Z3u Z12 ZbE k x := by kernel_rfl
theorem ZEN (x : Tup Z3u.ps) : Z3u.f 0 x = none := by kernel_rfl
theorem ZFl (k : Nat) : LOK Tryz.prog Z12 k ZbE := LOK.by [(Z4W.E, .region 1 Ze0 true), (Z5l.E, .block 0 (.loop Zb4))] (by kernel_rfl) (AllOK.cons (ZuR k) (AllOK.cons (Zxs k) AllOK.nil))
theorem ZrH (k : Nat) : SoundAt Tryz.prog k 47 Z3u.E := @Z0 Tryz.prog Z3u Z12 47 Tryz.f47 ZbE (by kernel_rfl) (by kernel_rfl) (by kernel_rfl) Tryz.func47 (by kernel_rfl) (by kernel_rfl) (by kernel_rfl) T_ok Zjg ZFl ZEN ZFy k
noncomputable def Z97 : List PK := [PK.mk I6 false none false none]
noncomputable def Zqn : List PK := [PK.mk (.pair I6 (.pair I6 (.slice 76 P6))) true none false none]
noncomputable def Zo3 (r : Int) : Tup Z97 × OutD := ((r, ()), none)
noncomputable def Zo7 : Tup Z97 × OutD → Option (Int)
 | (a, none) => some (a.1)
 | _ => none
theorem ZwJ : ∀ b r, Zo7 b = some r → Zo3 r = b := by
 rintro ⟨a, _ | _⟩ r h <;> cases h; rfl
noncomputable def Z4r : Nat → Int → List (Int × Int) → Int → Int → Option Int
 | 0, _, _, _, _ => none
 | k + 1, v3, v7, v8, v9 =>
  if decide (v9 < v8) = true then if (0 : Int) ≤ v9 then if v9 < (↑(List.length v7) : Int) then if decide (Prod.fst (List.getD v7 (Int.toNat v9) ((0 : Int), (0 : Int))) ≠ 0) = true then Z4r k (wrap64 (v3 + 1)) v7 v8 (wrap64 (v9 + 1)) else Z4r k v3 v7 v8 (wrap64 (v9 + 1)) else none else none else some v3
noncomputable def Zf9 : Spec := Spec.mk [.ro] [(3, .at (.int .i64)), (7, .at (.snap 0 P6)), (8, .at (.int .i64)), (9, .at (.int .i64))]
noncomputable def Zza : Spec := Spec.mk [.ro] [(3, .at (.int .i64))]
noncomputable def Z5x : LoopDef (Tup Z97 × OutD) := .plain Zf9 Zza (Int) (fun k x => Z4r k x.2.1 x.2.2.1 x.2.2.2.1 x.2.2.2.2.1) (fun z => (((), ()), (z, ()))) (fun y => (y.2.1)) (fun _ => rfl)
noncomputable def Z4D : Nat → Int × Int × List (Int × Int) → Option Int
 | 0, _ => none
 | k + 1, p0 =>
  Option.bind (Z4r k (0 : Int) p0.2.2 (↑(List.length p0.2.2) : Int) (0 : Int)) fun z0 => some z0
noncomputable def Z1R : FnDef := .of Zqn Z97 (Int) (fun k x => Z4D k x.1) Zo3 Zo7 ZwJ
noncomputable def ZeK : Code := Tryz.f51.body.getD .skip
noncomputable def Z6E : Ctx (Tup Z97 × OutD) := { T := T, G := [], mvs := [], no := 0, n := 20, res := resOf T Zqn Z97 Tryz.f51.results.toList, loops := [(0, Z5x.E)], regs := [], conds := [], cuts := [] }
theorem Zqw (k : Nat) : EnvOK Tryz.prog k Z6E.G := (EnvOK.nil mixed)
noncomputable def Zbc : Code := (findLoop 0 ZeK).getD .skip
theorem Zyd (k : Nat) (x : Zf9.D) : Z5x.lp (k + 1) x = loopK Z6E Z5x 0 Zbc k x := by kernel_rfl
theorem ZyE (k : Nat) : LOK Tryz.prog Z6E k Zbc := LOK.by [] (by kernel_rfl) AllOK.nil
theorem ZzB (x : Zf9.D) : Z5x.lp 0 x = none := by kernel_rfl
theorem ZxM (k : Nat) : EOK Tryz.prog Z6E k Z5x.E (.block 0 (.loop Zbc)) := Z2 T_ok Zqw ZzB Zyd ZyE k
theorem ZEO (k : Nat) (x : Tup Z1R.ps) : Z1R.f (k + 1) x = fnK Z1R Z6E ZeK k x := by kernel_rfl
theorem ZEA (x : Tup Z1R.ps) : Z1R.f 0 x = none := by kernel_rfl
theorem ZFM (k : Nat) : LOK Tryz.prog Z6E k ZeK := LOK.by [(Z5x.E, .block 0 (.loop Zbc))] (by kernel_rfl) (AllOK.cons (ZxM k) AllOK.nil)
theorem ZeN (k : Nat) : SoundAt Tryz.prog k 51 Z1R.E := @Z0 Tryz.prog Z1R Z6E 51 Tryz.f51 ZeK (by kernel_rfl) (by kernel_rfl) (by kernel_rfl) Tryz.func51 (by kernel_rfl) (by kernel_rfl) (by kernel_rfl) T_ok Zqw ZFM ZEA ZEO k
noncomputable def Z91 : List PK := [PK.mk .bool false none false none]
noncomputable def Zrs : List PK := [PK.mk (.slice 3 I6) false none false none]
noncomputable def Zhg (r : Bool) : Tup Z91 × OutD := ((r, ()), none)
noncomputable def ZhX : Tup Z91 × OutD → Option (Bool)
 | (a, none) => some (a.1)
 | _ => none
theorem Zk2 : ∀ b r, ZhX b = some r → Zhg r = b := by
 rintro ⟨a, _ | _⟩ r h <;> cases h; rfl
noncomputable def Z4x : Nat → List Int → Int → Int → Option (LR Unit Bool)
 | 0, _, _, _ => none
 | k + 1, v5, v6, v7 =>
  if decide (v7 < v6) = true then if (0 : Int) ≤ v7 then if v7 < (↑(List.length v5) : Int) then if decide (List.getD v5 (Int.toNat v7) (0 : Int) ≠ 0) = true then if decide (List.getD v5 (Int.toNat v7) (0 : Int) ≠ 1) = true then some (LR.ret false) else Z4x k v5 v6 (wrap64 (v7 + 1)) else Z4x k v5 v6 (wrap64 (v7 + 1)) else none else none else some (LR.go ())
noncomputable def Zf7 : Spec := Spec.mk [.ro] [(5, .at (.snap 0 I6)), (6, .at (.int .i64)), (7, .at (.int .i64))]
noncomputable def Zye : Spec := Spec.mk [.ro] []
noncomputable def Z5q : LoopDef (Tup Z91 × OutD) := .rets Zf7 Zye (Unit) (Bool) (fun k x => Z4x k x.2.1 x.2.2.1 x.2.2.2.1) (fun z => (((), ()), (()))) (fun y => ()) (fun _ => rfl) Zhg ZhX Zk2
noncomputable def ZeB : Nat → List Int → Option Bool
 | 0, _ => none
 | k + 1, p0 =>
  Option.bind (Z4x k p0 (↑(List.length p0) : Int) (0 : Int)) fun z0 => LR.on z0 (fun y0 => some true) fun r0 => some r0
noncomputable def Z4S : FnDef := .of Zrs Z91 (Bool) (fun k x => ZeB k x.1) Zhg ZhX Zk2
noncomputable def ZeA : Code := Tryz.f63.body.getD .skip
noncomputable def Z6B : Ctx (Tup Z91 × OutD) := { T := T, G := [], mvs := [], no := 0, n := 18, res := resOf T Zrs Z91 Tryz.f63.results.toList, loops := [(0, Z5q.E)], regs := [], conds := [], cuts := [] }
theorem Zr8 (k : Nat) : EnvOK Tryz.prog k Z6B.G := (EnvOK.nil mixed)
noncomputable def Zbl : Code := (findLoop 0 ZeA).getD .skip
theorem ZyL (k : Nat) (x : Zf7.D) : Z5q.lp (k + 1) x = loopK Z6B Z5q 0 Zbl k x := by kernel_rfl
theorem Zz1 (k : Nat) : LOK Tryz.prog Z6B k Zbl := LOK.by [] (by kernel_rfl) AllOK.nil
theorem Zzd (x : Zf7.D) : Z5q.lp 0 x = none := by kernel_rfl
theorem Zxd (k : Nat) : EOK Tryz.prog Z6B k Z5q.E (.block 0 (.loop Zbl)) := Z2 T_ok Zr8 Zzd ZyL Zz1 k
theorem ZDY (k : Nat) (x : Tup Z4S.ps) : Z4S.f (k + 1) x = fnK Z4S Z6B ZeA k x := by kernel_rfl
theorem ZE9 (x : Tup Z4S.ps) : Z4S.f 0 x = none := by kernel_rfl
theorem ZFJ (k : Nat) : LOK Tryz.prog Z6B k ZeA := LOK.by [(Z5q.E, .block 0 (.loop Zbl))] (by kernel_rfl) (AllOK.cons (Zxd k) AllOK.nil)
theorem ZFI (k : Nat) : SoundAt Tryz.prog k 63 Z4S.E := @Z0 Tryz.prog Z4S Z6B 63 Tryz.f63 ZeA (by kernel_rfl) (by kernel_rfl) (by kernel_rfl) Tryz.func63 (by kernel_rfl) (by kernel_rfl) (by kernel_rfl) T_ok Zr8 ZFJ ZE9 ZDY k
noncomputable def Z7Z : List PK := [PK.mk .bool false none false none]
noncomputable def Zo0 : List PK := [PK.mk (.slice 3 I6) false none false none]
noncomputable def Zgr (r : Bool) : Tup Z7Z × OutD := ((r, ()), none)
noncomputable def Zgm : Tup Z7Z × OutD → Option (Bool)
 | (a, none) => some (a.1)
 | _ => none
theorem ZiM : ∀ b r, Zgm b = some r → Zgr r = b := by
 rintro ⟨a, _ | _⟩ r h <;> cases h; rfl
noncomputable def Zfv : Nat → List Int → Int → Option (LR Unit Bool)
 | 0, _, _ => none
 | k + 1, v0, v3 =>
  if decide (v3 < (↑(List.length v0) : Int)) = true then if (0 : Int) ≤ v3 then if v3 < (↑(List.length v0) : Int) then if (0 : Int) ≤ wrap64 (v3 - 1) then if wrap64 (v3 - 1) < (↑(List.length v0) : Int) then if decide (List.getD v0 (Int.toNat v3) (0 : Int) < List.getD v0 (Int.toNat (wrap64 (v3 - 1))) (0 : Int)) = true then some (LR.ret false) else Zfv k v0 (wrap64 (v3 + 1)) else none else none else none else none else some (LR.go ())
noncomputable def Ze3 : Spec := Spec.mk [.ro] [(0, .at (.snap 0 I6)), (3, .at (.int .i64))]
noncomputable def Zwm : Spec := Spec.mk [.ro] []
noncomputable def Z4V : LoopDef (Tup Z7Z × OutD) := .rets Ze3 Zwm (Unit) (Bool) (fun k x => Zfv k x.2.1 x.2.2.1) (fun z => (((), ()), (()))) (fun y => ()) (fun _ => rfl) Zgr Zgm ZiM
noncomputable def ZnT : Nat → List Int → Option Bool
 | 0, _ => none
 | k + 1, p0 =>
  Option.bind (Zfv k p0 (1 : Int)) fun z0 => LR.on z0 (fun y0 => some true) fun r0 => some r0
noncomputable def Z3S : FnDef := .of Zo0 Z7Z (Bool) (fun k x => ZnT k x.1) Zgr Zgm ZiM
noncomputable def ZdI : Code := Tryz.f64.body.getD .skip
noncomputable def Z52 : Ctx (Tup Z7Z × OutD) := { T := T, G := [], mvs := [], no := 0, n := 20, res := resOf T Zo0 Z7Z Tryz.f64.results.toList, loops := [(0, Z4V.E)], regs := [], conds := [], cuts := [] }
theorem ZnX (k : Nat) : EnvOK Tryz.prog k Z52.G := (EnvOK.nil mixed)
noncomputable def ZaG : Code := (findLoop 0 ZdI).getD .skip
theorem Zwk (k : Nat) (x : Ze3.D) : Z4V.lp (k + 1) x = loopK Z52 Z4V 0 ZaG k x := by kernel_rfl
theorem Zwt (k : Nat) : LOK Tryz.prog Z52 k ZaG := LOK.by [] (by kernel_rfl) AllOK.nil
theorem Zwj (x : Ze3.D) : Z4V.lp 0 x = none := by kernel_rfl
theorem Zvj (k : Nat) : EOK Tryz.prog Z52 k Z4V.E (.block 0 (.loop ZaG)) := Z2 T_ok ZnX Zwj Zwk Zwt k
theorem ZDy (k : Nat) (x : Tup Z3S.ps) : Z3S.f (k + 1) x = fnK Z3S Z52 ZdI k x := by kernel_rfl
theorem ZDA (x : Tup Z3S.ps) : Z3S.f 0 x = none := by kernel_rfl
theorem ZDs (k : Nat) : LOK Tryz.prog Z52 k ZdI := LOK.by [(Z4V.E, .block 0 (.loop ZaG))] (by kernel_rfl) (AllOK.cons (Zvj k) AllOK.nil)
theorem ZD4 (k : Nat) : SoundAt Tryz.prog k 64 Z3S.E := @Z0 Tryz.prog Z3S Z52 64 Tryz.f64 ZdI (by kernel_rfl) (by kernel_rfl) (by kernel_rfl) Tryz.func64 (by kernel_rfl) (by kernel_rfl) (by kernel_rfl) T_ok ZnX ZDs ZDA ZDy k
noncomputable def Zae : List PK := [PK.mk (.slice 3 I6) false none false none]
noncomputable def Ztx : List PK := [PK.mk (.pair I6 (.slice 3 I6)) true none false none]
noncomputable def Zq5 (r : List Int) : Tup Zae × OutD := ((r, ()), none)
noncomputable def Zqa : Tup Zae × OutD → Option (List Int)
 | (a, none) => some (a.1)
 | _ => none
theorem Zz4 : ∀ b r, Zqa b = some r → Zq5 r = b := by
 rintro ⟨a, _ | _⟩ r h <;> cases h; rfl
noncomputable def ZdA : Nat → List Int → List Int → Int → Int → Option (List Int)
 | 0, _, _, _, _ => none
 | k + 1, o1, v7, v8, v9 =>
  if decide (v9 < v8) = true then if (0 : Int) ≤ v9 then if v9 < (↑(List.length v7) : Int) then if decide (List.getD v7 (Int.toNat v9) (0 : Int) = 1) = true then if List.length o1 + List.length [v9] ≤ (140737488355328 / 8 : Nat) then ZdA k (o1 ++ [v9]) v7 v8 (wrap64 (v9 + 1)) else none else ZdA k o1 v7 v8 (wrap64 (v9 + 1)) else none else none else some o1
noncomputable def Zgj : Spec := Spec.mk [.ro, O4] [(3, .at (.sl 1)), (7, .at (.snap 0 I6)), (8, .at (.int .i64)), (9, .at (.int .i64))]
noncomputable def ZB6 : Spec := Spec.mk [.ro, O4] [(3, .at (.sl 1))]
noncomputable def Z6i : LoopDef (Tup Zae × OutD) := .plain Zgj ZB6 (List Int) (fun k x => ZdA k x.1.2.1 x.2.2.1 x.2.2.2.1 x.2.2.2.2.1) (fun z => (((), z, ()), ((), ()))) (fun y => (y.1.2.1)) (fun _ => rfl)
noncomputable def ZtX : Nat → Int × List Int → Option (List Int)
 | 0, _ => none
 | k + 1, p0 =>
  Option.bind (ZdA k [] p0.2 (↑(List.length p0.2) : Int) (0 : Int)) fun z0 => some z0
noncomputable def Z5E : FnDef := .of Ztx Zae (List Int) (fun k x => ZtX k x.1) Zq5 Zqa Zz4
noncomputable def Zg1 : Code := Tryz.f67.body.getD .skip
noncomputable def Z88 : Ctx (Tup Zae × OutD) := { T := T, G := [], mvs := [], no := 0, n := 22, res := resOf T Ztx Zae Tryz.f67.results.toList, loops := [(0, Z6i.E)], regs := [], conds := [], cuts := [] }
theorem ZtC (k : Nat) : EnvOK Tryz.prog k Z88.G := (EnvOK.nil mixed)
noncomputable def ZcL : Code := (findLoop 0 Zg1).getD .skip
theorem ZCx (k : Nat) (x : Zgj.D) : Z6i.lp (k + 1) x = loopK Z88 Z6i 0 ZcL k x := by kernel_rfl
theorem ZCd (k : Nat) : LOK Tryz.prog Z88 k ZcL := LOK.by [] (by kernel_rfl) AllOK.nil
theorem ZAJ (x : Zgj.D) : Z6i.lp 0 x = none := by kernel_rfl
theorem ZyZ (k : Nat) : EOK Tryz.prog Z88 k Z6i.E (.block 0 (.loop ZcL)) := Z2 T_ok ZtC ZAJ ZCx ZCd k
theorem ZGE (k : Nat) (x : Tup Z5E.ps) : Z5E.f (k + 1) x = fnK Z5E Z88 Zg1 k x := by kernel_rfl
theorem ZGs (x : Tup Z5E.ps) : Z5E.f 0 x = none := by kernel_rfl
theorem ZH0 (k : Nat) : LOK Tryz.prog Z88 k Zg1 := LOK.by [(Z6i.E, .block 0 (.loop ZcL))] (by kernel_rfl) (AllOK.cons (ZyZ k) AllOK.nil)
theorem ZHg (k : Nat) : SoundAt Tryz.prog k 67 Z5E.E := @Z0 Tryz.prog Z5E Z88 67 Tryz.f67 Zg1 (by kernel_rfl) (by kernel_rfl) (by kernel_rfl) Tryz.func67 (by kernel_rfl) (by kernel_rfl) (by kernel_rfl) T_ok ZtC ZH0 ZGs ZGE k
noncomputable def Z6C : List PK := []
noncomputable def Zmy : List PK := [PK.mk (.pair I6 (.pair I6 (.slice 76 P6))) true (some (2, 76, .pair I6 I6)) false none, PK.mk (.slice 3 I6) false none false none, PK.mk I6 false none false none]
noncomputable def Zl3 (r : List (Int × Int)) : Tup Z6C × OutD := ((()), some ⟨Ty.pair (Ty.int .i64) (Ty.int .i64), r⟩)
noncomputable def Zfj : Tup Z6C × OutD → Option (List (Int × Int))
 | (a, some ⟨u, ys⟩) => if h : u = Ty.pair (Ty.int .i64) (Ty.int .i64) then some (castU h ys) else none
 | _ => none
theorem Zt4 : ∀ b r, Zfj b = some r → Zl3 r = b := by
 rintro ⟨a, o⟩ r h
 cases o with
 | none => cases h
 | some s =>
  obtain ⟨u, ys⟩ := s
  simp only [Zfj] at h
  split at h
  ·rename_i hu; subst hu; injection h with h; subst h; rfl
  ·cases h
noncomputable def Z1j : Nat → List (Int × Int) → Int → Int → List Int → Int → Int → Int → Option (List (Int × Int))
 | 0, _, _, _, _, _, _, _ => none
 | k + 1, o1, b2_0, b2_1, v1, v2, v9, v10 =>
  if decide (v10 < v9) = true then if (0 : Int) ≤ v10 then if v10 < (↑(List.length o1) : Int) then if decide (Prod.fst (List.getD o1 (Int.toNat v10) ((0 : Int), (0 : Int))) = 6) = true then if (0 : Int) ≤ v10 then if v10 < (↑(List.length v1) : Int) then if (0 : Int) ≤ v2 then if v2 < (↑(List.length v1) : Int) then if decide (List.getD v1 (Int.toNat v10) (0 : Int) = List.getD v1 (Int.toNat v2) (0 : Int)) = true then if (0 : Int) ≤ v10 then if v10 < (↑(List.length o1) : Int) then if (0 : Int) ≤ v10 then if v10 < (↑(List.length o1) : Int) then Z1j k (List.set o1 (Int.toNat v10) (Prod.fst (List.getD o1 (Int.toNat v10) ((0 : Int), (0 : Int))), wrap64 ((1 : Int) - Prod.snd (List.getD o1 (Int.toNat v10) ((0 : Int), (0 : Int)))))) b2_0 b2_1 v1 v2 v9 (wrap64 (v10 + 1)) else none else none else none else none else Z1j k o1 b2_0 b2_1 v1 v2 v9 (wrap64 (v10 + 1)) else none else none else none else none else Z1j k o1 b2_0 b2_1 v1 v2 v9 (wrap64 (v10 + 1)) else none else none else some o1
noncomputable def Zdq : Spec := Spec.mk [.ro, Oe, Obq] [(1, .at (.snap 0 I6)), (2, .at (.int .i64)), (3, .at (.ptr 2 0)), (9, .at (.int .i64)), (10, .at (.int .i64))]
noncomputable def Zux : Spec := Spec.mk [.ro, Oe] []
noncomputable def Z3Z : LoopDef (Tup Z6C × OutD) := .plain Zdq Zux (List (Int × Int)) (fun k x => Z1j k x.1.2.1 x.1.2.2.1.1 x.1.2.2.1.2.1 x.2.1 x.2.2.1 x.2.2.2.2.1 x.2.2.2.2.2.1) (fun z => (((), z, ()), (()))) (fun y => (y.1.2.1)) (fun _ => rfl)
noncomputable def Z9r : Nat → Int × Int × List (Int × Int) → List Int → Int → Option (List (Int × Int))
 | 0, _, _, _ => none
 | k + 1, p0, p1, p2 =>
  Option.bind (Z1j k p0.2.2 p0.1 p0.2.1 p1 p2 (↑(List.length p0.2.2) : Int) (0 : Int)) fun z0 => some z0
noncomputable def Z38 : FnDef := .of Zmy Z6C (List (Int × Int)) (fun k x => Z9r k x.1 x.2.1 x.2.2.1) Zl3 Zfj Zt4
noncomputable def Zcd : Code := Tryz.f71.body.getD .skip
noncomputable def Z4v : Ctx (Tup Z6C × OutD) := { T := T, G := [], mvs := [], no := 1, n := 44, res := resOf T Zmy Z6C Tryz.f71.results.toList, loops := [(0, Z3Z.E)], regs := [], conds := [], cuts := [] }
theorem ZlH (k : Nat) : EnvOK Tryz.prog k Z4v.G := (EnvOK.nil mixed)
noncomputable def Z9R : Code := (findLoop 0 Zcd).getD .skip
theorem ZuD (k : Nat) (x : Zdq.D) : Z3Z.lp (k + 1) x = loopK Z4v Z3Z 0 Z9R k x := by kernel_rfl
theorem ZvH (k : Nat) : LOK Tryz.prog Z4v k Z9R := LOK.by [] (by kernel_rfl) AllOK.nil
theorem ZuU (x : Zdq.D) : Z3Z.lp 0 x = none := by kernel_rfl
theorem ZsP (k : Nat) : EOK Tryz.prog Z4v k Z3Z.E (.block 0 (.loop Z9R)) := Z2 T_ok ZlH ZuU ZuD ZvH k
theorem ZBp (k : Nat) (x : Tup Z38.ps) : Z38.f (k + 1) x = fnK Z38 Z4v Zcd k x := by kernel_rfl
theorem ZAC (x : Tup Z38.ps) : Z38.f 0 x = none := by kernel_rfl
theorem ZBA (k : Nat) : LOK Tryz.prog Z4v k Zcd := LOK.by [(Z3Z.E, .block 0 (.loop Z9R))] (by kernel_rfl) (AllOK.cons (ZsP k) AllOK.nil)
theorem ZBr (k : Nat) : SoundAt Tryz.prog k 71 Z38.E := @Z0 Tryz.prog Z38 Z4v 71 Tryz.f71 Zcd (by kernel_rfl) (by kernel_rfl) (by kernel_rfl) Tryz.func71 (by kernel_rfl) (by kernel_rfl) (by kernel_rfl) T_ok ZlH ZBA ZAC ZBp k
noncomputable def Zaq : List PK := [PK.mk .bool false none false none]
noncomputable def Zoq : List PK := [PK.mk P6 true none false none]
noncomputable def Zmt (r : Bool) : Tup Zaq × OutD := ((r, ()), none)
noncomputable def ZlO : Tup Zaq × OutD → Option (Bool)
 | (a, none) => some (a.1)
 | _ => none
theorem ZvX : ∀ b r, ZlO b = some r → Zmt r = b := by
 rintro ⟨a, _ | _⟩ r h <;> cases h; rfl
noncomputable def Zas : Nat → Int × Int → Option Bool
 | 0, _ => none
 | k + 1, p0 =>
  if decide (p0.1 = (6 : Int)) = true then some true else some (decide (p0.1 = (7 : Int)))
noncomputable def Z3V : FnDef := .of Zoq Zaq (Bool) (fun k x => Zas k x.1) Zmt ZlO ZvX
noncomputable def Zij : Code := Tryz.f72.body.getD .skip
noncomputable def ZdE : Ctx (Tup Zaq × OutD) := { T := T, G := [], mvs := [], no := 0, n := 11, res := resOf T Zoq Zaq Tryz.f72.results.toList, loops := [], regs := [], conds := [], cuts := [] }
theorem ZDb (k : Nat) : EnvOK Tryz.prog k ZdE.G := (EnvOK.nil mixed)
theorem ZCX (k : Nat) (x : Tup Z3V.ps) : Z3V.f (k + 1) x = fnK Z3V ZdE Zij k x := by kernel_rfl
theorem ZDr (x : Tup Z3V.ps) : Z3V.f 0 x = none := by kernel_rfl
theorem ZDt (k : Nat) : LOK Tryz.prog ZdE k Zij := LOK.by [] (by kernel_rfl) AllOK.nil
theorem ZDa (k : Nat) : SoundAt Tryz.prog k 72 Z3V.E := @Z0 Tryz.prog Z3V ZdE 72 Tryz.f72 Zij (by kernel_rfl) (by kernel_rfl) (by kernel_rfl) Tryz.func72 (by kernel_rfl) (by kernel_rfl) (by kernel_rfl) T_ok ZDb ZDt ZDr ZCX k
noncomputable def Zay : List PK := [PK.mk (.slice 3 I6) false none false none]
noncomputable def Zo1 : List PK := [PK.mk (.pair I6 (.pair I6 (.slice 76 P6))) true none false none, PK.mk I6 false none false none]
noncomputable def Zmu (r : List Int) : Tup Zay × OutD := ((r, ()), none)
noncomputable def ZmO : Tup Zay × OutD → Option (List Int)
 | (a, none) => some (a.1)
 | _ => none
theorem Zvt : ∀ b r, ZmO b = some r → Zmu r = b := by
 rintro ⟨a, _ | _⟩ r h <;> cases h; rfl
noncomputable def ZdD : Nat → Int × Int × List (Int × Int) → Int → Option (List Int)
 | 0, _, _ => none
 | k + 1, p0, p1 =>
  if p0.2.1 = 0 then none else if p0.2.1 = 0 then none else if decide (wrap64 (Int.tdiv p1 p0.2.1) > 0) = true then if decide (Int.tmod p1 p0.2.1 > 0) = true then if decide (wrap64 (Int.tmod p1 p0.2.1 + 1) < p0.2.1) = true then if decide (wrap64 (wrap64 (Int.tdiv p1 p0.2.1) + 1) < p0.1) = true then some ([wrap64 (p1 - p0.2.1)] ++ [wrap64 (p1 - 1)] ++ [wrap64 (p1 + 1)] ++ [wrap64 (p1 + p0.2.1)]) else some ([wrap64 (p1 - p0.2.1)] ++ [wrap64 (p1 - 1)] ++ [wrap64 (p1 + 1)]) else if decide (wrap64 (wrap64 (Int.tdiv p1 p0.2.1) + 1) < p0.1) = true then some ([wrap64 (p1 - p0.2.1)] ++ [wrap64 (p1 - 1)] ++ [wrap64 (p1 + p0.2.1)]) else some ([wrap64 (p1 - p0.2.1)] ++ [wrap64 (p1 - 1)]) else if decide (wrap64 (Int.tmod p1 p0.2.1 + 1) < p0.2.1) = true then if decide (wrap64 (wrap64 (Int.tdiv p1 p0.2.1) + 1) < p0.1) = true then some ([wrap64 (p1 - p0.2.1)] ++ [wrap64 (p1 + 1)] ++ [wrap64 (p1 + p0.2.1)]) else some ([wrap64 (p1 - p0.2.1)] ++ [wrap64 (p1 + 1)]) else if decide (wrap64 (wrap64 (Int.tdiv p1 p0.2.1) + 1) < p0.1) = true then some ([wrap64 (p1 - p0.2.1)] ++ [wrap64 (p1 + p0.2.1)]) else some [wrap64 (p1 - p0.2.1)] else if decide (Int.tmod p1 p0.2.1 > 0) = true then if decide (wrap64 (Int.tmod p1 p0.2.1 + 1) < p0.2.1) = true then if decide (wrap64 (wrap64 (Int.tdiv p1 p0.2.1) + 1) < p0.1) = true then some ([wrap64 (p1 - 1)] ++ [wrap64 (p1 + 1)] ++ [wrap64 (p1 + p0.2.1)]) else some ([wrap64 (p1 - 1)] ++ [wrap64 (p1 + 1)]) else if decide (wrap64 (wrap64 (Int.tdiv p1 p0.2.1) + 1) < p0.1) = true then some ([wrap64 (p1 - 1)] ++ [wrap64 (p1 + p0.2.1)]) else some [wrap64 (p1 - 1)] else if decide (wrap64 (Int.tmod p1 p0.2.1 + 1) < p0.2.1) = true then if decide (wrap64 (wrap64 (Int.tdiv p1 p0.2.1) + 1) < p0.1) = true then some ([wrap64 (p1 + 1)] ++ [wrap64 (p1 + p0.2.1)]) else some [wrap64 (p1 + 1)] else if decide (wrap64 (wrap64 (Int.tdiv p1 p0.2.1) + 1) < p0.1) = true then some [wrap64 (p1 + p0.2.1)] else some []
noncomputable def Z3R : FnDef := .of Zo1 Zay (List Int) (fun k x => ZdD k x.1 x.2.1) Zmu ZmO Zvt
noncomputable def Zhz : Code := Tryz.f73.body.getD .skip
noncomputable def Zdv : Ctx (Tup Zay × OutD) := { T := T, G := [], mvs := [], no := 0, n := 56, res := resOf T Zo1 Zay Tryz.f73.results.toList, loops := [], regs := [], conds := [], cuts := [] }
theorem ZCP (k : Nat) : EnvOK Tryz.prog k Zdv.G := (EnvOK.nil mixed)
theorem ZDw (k : Nat) (x : Tup Z3R.ps) : Z3R.f (k + 1) x = fnK Z3R Zdv Zhz k x := by kernel_rfl
theorem ZDl (x : Tup Z3R.ps) : Z3R.f 0 x = none := by kernel_rfl
theorem ZD2 (k : Nat) : LOK Tryz.prog Zdv k Zhz := LOK.by [] (by kernel_rfl) AllOK.nil
theorem ZDF (k : Nat) : SoundAt Tryz.prog k 73 Z3R.E := @Z0 Tryz.prog Z3R Zdv 73 Tryz.f73 Zhz (by kernel_rfl) (by kernel_rfl) (by kernel_rfl) Tryz.func73 (by kernel_rfl) (by kernel_rfl) (by kernel_rfl) T_ok ZCP ZD2 ZDl ZDw k
noncomputable def ZcS : List PK := [PK.mk .bool false none false none]
noncomputable def ZtJ : List PK := [PK.mk P6 true none false none]
noncomputable def ZrQ (r : Bool) : Tup ZcS × OutD := ((r, ()), none)
noncomputable def Zrl : Tup ZcS × OutD → Option (Bool)
 | (a, none) => some (a.1)
 | _ => none
theorem ZzS : ∀ b r, Zrl b = some r → ZrQ r = b := by
 rintro ⟨a, _ | _⟩ r h <;> cases h; rfl
noncomputable def Z8a : Nat → Int × Int → Option Bool
 | 0, _ => none
 | k + 1, p0 =>
  if decide (p0.1 < (0 : Int)) = true then some false else if decide (p0.1 > (7 : Int)) = true then some false else if decide (p0.2 < (0 : Int)) = true then some false else if decide (p0.2 > (1 : Int)) = true then some false else if decide (p0.2 = (0 : Int)) = true then some true else if decide (p0.1 = (3 : Int)) = true then some true else some (decide (p0.1 = (6 : Int)))
noncomputable def Z2f : FnDef := .of ZtJ ZcS (Bool) (fun k x => Z8a k x.1) ZrQ Zrl ZzS
noncomputable def Zki : Code := Tryz.f74.body.getD .skip
noncomputable def Zg5 : Ctx (Tup ZcS × OutD) := { T := T, G := [], mvs := [], no := 0, n := 34, res := resOf T ZtJ ZcS Tryz.f74.results.toList, loops := [], regs := [], conds := [], cuts := [] }
theorem ZHy (k : Nat) : EnvOK Tryz.prog k Zg5.G := (EnvOK.nil mixed)
theorem ZHK (k : Nat) (x : Tup Z2f.ps) : Z2f.f (k + 1) x = fnK Z2f Zg5 Zki k x := by kernel_rfl
theorem ZHE (x : Tup Z2f.ps) : Z2f.f 0 x = none := by kernel_rfl
theorem ZHQ (k : Nat) : LOK Tryz.prog Zg5 k Zki := LOK.by [] (by kernel_rfl) AllOK.nil
theorem ZfO (k : Nat) : SoundAt Tryz.prog k 74 Z2f.E := @Z0 Tryz.prog Z2f Zg5 74 Tryz.f74 Zki (by kernel_rfl) (by kernel_rfl) (by kernel_rfl) Tryz.func74 (by kernel_rfl) (by kernel_rfl) (by kernel_rfl) T_ok ZHy ZHQ ZHE ZHK k
noncomputable def ZfI : List PK := [PK.mk .bool false none false none]
noncomputable def ZA4 : List PK := [PK.mk I6 false none false none, PK.mk I6 false none false none, PK.mk I6 false none false none]
noncomputable def ZwI (r : Bool) : Tup ZfI × OutD := ((r, ()), none)
noncomputable def ZwG : Tup ZfI × OutD → Option (Bool)
 | (a, none) => some (a.1)
 | _ => none
theorem ZDB : ∀ b r, ZwG b = some r → ZwI r = b := by
 rintro ⟨a, _ | _⟩ r h <;> cases h; rfl
noncomputable def ZW : Nat → Int → Int → Int → Option Bool
 | 0, _, _, _ => none
 | k + 1, p0, p1, p2 =>
  if decide (p0 ≥ p1) = true then some (decide (p0 ≤ p2)) else some false
noncomputable def Z1r : FnDef := .of ZA4 ZfI (Bool) (fun k x => ZW k x.1 x.2.1 x.2.2.1) ZwI ZwG ZDB
noncomputable def ZoZ : Code := Tryz.f76.body.getD .skip
noncomputable def ZjG : Ctx (Tup ZfI × OutD) := { T := T, G := [], mvs := [], no := 0, n := 15, res := resOf T ZA4 ZfI Tryz.f76.results.toList, loops := [], regs := [], conds := [], cuts := [] }
theorem ZJ6 (k : Nat) : EnvOK Tryz.prog k ZjG.G := (EnvOK.nil mixed)
theorem ZIZ (k : Nat) (x : Tup Z1r.ps) : Z1r.f (k + 1) x = fnK Z1r ZjG ZoZ k x := by kernel_rfl
theorem ZJr (x : Tup Z1r.ps) : Z1r.f 0 x = none := by kernel_rfl
theorem ZJ5 (k : Nat) : LOK Tryz.prog ZjG k ZoZ := LOK.by [] (by kernel_rfl) AllOK.nil
theorem Z8T (k : Nat) : SoundAt Tryz.prog k 76 Z1r.E := @Z0 Tryz.prog Z1r ZjG 76 Tryz.f76 ZoZ (by kernel_rfl) (by kernel_rfl) (by kernel_rfl) Tryz.func76 (by kernel_rfl) (by kernel_rfl) (by kernel_rfl) T_ok ZJ6 ZJ5 ZJr ZIZ k
noncomputable def ZB : List PK := [PK.mk I6 false none false none]
noncomputable def Z8u : List PK := [PK.mk (.slice 76 P6) false none false none, PK.mk P6 true none false none]
noncomputable def Z3A (r : Int) : Tup ZB × OutD := ((r, ()), none)
noncomputable def Z3s : Tup ZB × OutD → Option (Int)
 | (a, none) => some (a.1)
 | _ => none
theorem Z5R : ∀ b r, Z3s b = some r → Z3A r = b := by
 rintro ⟨a, _ | _⟩ r h <;> cases h; rfl
noncomputable def Zf : Nat → Int → Int → List (Int × Int) → Int → Int → Option (LR Unit Int)
 | 0, _, _, _, _, _ => none
 | k + 1, b1_0, b1_1, v0, v7, v8 =>
  if decide (v8 < v7) = true then if (0 : Int) ≤ v8 then if v8 < (↑(List.length v0) : Int) then if (decide (b1_0 = Prod.fst (List.getD v0 (Int.toNat v8) ((0 : Int), (0 : Int)))) && (decide (b1_1 = Prod.snd (List.getD v0 (Int.toNat v8) ((0 : Int), (0 : Int)))) && true)) = true then some (LR.ret v8) else Zf k b1_0 b1_1 v0 v7 (wrap64 (v8 + 1)) else none else none else some (LR.go ())
noncomputable def Z2O : Spec := Spec.mk [.ro, Of] [(0, .at (.snap 0 P6)), (3, .at (.ptr 1 0)), (7, .at (.int .i64)), (8, .at (.int .i64))]
noncomputable def ZdL : Spec := Spec.mk [.ro] []
noncomputable def Zq : LoopDef (Tup ZB × OutD) := .rets Z2O ZdL (Unit) (Int) (fun k x => Zf k x.1.2.1.1 x.1.2.1.2.1 x.2.1 x.2.2.2.1 x.2.2.2.2.1) (fun z => (((), ()), (()))) (fun y => ()) (fun _ => rfl) Z3A Z3s Z5R
noncomputable def Zy : Nat → List (Int × Int) → Int × Int → Option Int
 | 0, _, _ => none
 | k + 1, p0, p1 =>
  Option.bind (Zf k p1.1 p1.2 p0 (↑(List.length p0) : Int) (0 : Int)) fun z0 => LR.on z0 (fun y0 => some (-1 : Int)) fun r0 => some r0
noncomputable def Zc : FnDef := .of Z8u ZB (Int) (fun k x => Zy k x.1 x.2.1) Z3A Z3s Z5R
noncomputable def Z1M : Code := Tryz.f81.body.getD .skip
noncomputable def Zo : Ctx (Tup ZB × OutD) := { T := T, G := [], mvs := [], no := 0, n := 19, res := resOf T Z8u ZB Tryz.f81.results.toList, loops := [(0, Zq.E)], regs := [], conds := [], cuts := [] }
theorem Z8s (k : Nat) : EnvOK Tryz.prog k Zo.G := (EnvOK.nil mixed)
noncomputable def Z1d : Code := (findLoop 0 Z1M).getD .skip
theorem ZdM (k : Nat) (x : Z2O.D) : Zq.lp (k + 1) x = loopK Zo Zq 0 Z1d k x := by kernel_rfl
theorem ZdP (k : Nat) : LOK Tryz.prog Zo k Z1d := LOK.by [] (by kernel_rfl) AllOK.nil
theorem ZdT (x : Z2O.D) : Zq.lp 0 x = none := by kernel_rfl
theorem Zdt (k : Nat) : EOK Tryz.prog Zo k Zq.E (.block 0 (.loop Z1d)) := Z2 T_ok Z8s ZdT ZdM ZdP k
theorem Zfr (k : Nat) (x : Tup Zc.ps) : Zc.f (k + 1) x = fnK Zc Zo Z1M k x := by kernel_rfl
theorem Zfb (x : Tup Zc.ps) : Zc.f 0 x = none := by kernel_rfl
theorem Zfs (k : Nat) : LOK Tryz.prog Zo k Z1M := LOK.by [(Zq.E, .block 0 (.loop Z1d))] (by kernel_rfl) (AllOK.cons (Zdt k) AllOK.nil)
theorem Zf4 (k : Nat) : SoundAt Tryz.prog k 81 Zc.E := @Z0 Tryz.prog Zc Zo 81 Tryz.f81 Z1M (by kernel_rfl) (by kernel_rfl) (by kernel_rfl) Tryz.func81 (by kernel_rfl) (by kernel_rfl) (by kernel_rfl) T_ok Z8s Zfs Zfb Zfr k
noncomputable def Z9u : List PK := [PK.mk I6 false none false none]
noncomputable def Zmp : List PK := [PK.mk (.pair I6 (.pair I6 (.slice 76 P6))) true none false none, PK.mk T6 true none false none]
noncomputable def ZkY (r : Int) : Tup Z9u × OutD := ((r, ()), none)
noncomputable def Zl5 : Tup Z9u × OutD → Option (Int)
 | (a, none) => some (a.1)
 | _ => none
theorem Zsn : ∀ b r, Zl5 b = some r → ZkY r = b := by
 rintro ⟨a, _ | _⟩ r h <;> cases h; rfl
noncomputable def ZcM : Nat → Int × Int × List (Int × Int) → Int × Int × Int → Option Int
 | 0, _, _ => none
 | k + 1, p0, p1 =>
  if decide (p1.1 = 1) = true then some p1.2.2 else if decide (p1.1 = 2) = true then some p0.2.1 else some (wrap64 (p0.2.1 + 1))
noncomputable def Z36 : FnDef := .of Zmp Z9u (Int) (fun k x => ZcM k x.1 x.2.1) ZkY Zl5 Zsn
noncomputable def ZgA : Code := Tryz.f82.body.getD .skip
noncomputable def Zce : Ctx (Tup Z9u × OutD) := { T := T, G := [], mvs := [], no := 0, n := 18, res := resOf T Zmp Z9u Tryz.f82.results.toList, loops := [], regs := [], conds := [], cuts := [] }
theorem ZCk (k : Nat) : EnvOK Tryz.prog k Zce.G := (EnvOK.nil mixed)
theorem ZAG (k : Nat) (x : Tup Z36.ps) : Z36.f (k + 1) x = fnK Z36 Zce ZgA k x := by kernel_rfl
theorem ZCF (x : Tup Z36.ps) : Z36.f 0 x = none := by kernel_rfl
theorem ZBl (k : Nat) : LOK Tryz.prog Zce k ZgA := LOK.by [] (by kernel_rfl) AllOK.nil
theorem ZBZ (k : Nat) : SoundAt Tryz.prog k 82 Z36.E := @Z0 Tryz.prog Z36 Zce 82 Tryz.f82 ZgA (by kernel_rfl) (by kernel_rfl) (by kernel_rfl) Tryz.func82 (by kernel_rfl) (by kernel_rfl) (by kernel_rfl) T_ok ZCk ZBl ZCF ZAG k
noncomputable def Z4F : List PK := [PK.mk I6 false none false none]
noncomputable def Zke : List PK := [PK.mk (.pair I6 (.pair I6 (.pair (.slice 76 P6) (.pair (.slice 3 I6) (.slice 3 I6))))) true none false none]
noncomputable def ZiR (r : Int) : Tup Z4F × OutD := ((r, ()), none)
noncomputable def ZiN : Tup Z4F × OutD → Option (Int)
 | (a, none) => some (a.1)
 | _ => none
theorem Zpg : ∀ b r, ZiN b = some r → ZiR r = b := by
 rintro ⟨a, _ | _⟩ r h <;> cases h; rfl
noncomputable def Z3C : Nat → Int → Int → List (Int × Int) → List Int → List Int → Int → Int → Option Int
 | 0, _, _, _, _, _, _, _ => none
 | k + 1, b1_0, b1_1, b1_2, b1_3, b1_4, v3, v4 =>
  if decide (v4 < wrap64 (b1_0 * b1_1)) = true then Z3C k b1_0 b1_1 b1_2 b1_3 b1_4 (wrap64 (v3 * wrap64 ((↑(List.length b1_2) : Int) + 1))) (wrap64 (v4 + 1)) else some v3
noncomputable def ZbH : Spec := Spec.mk [.ro, O1] [(1, .at (.ptr 1 0)), (3, .at (.int .i64)), (4, .at (.int .i64))]
noncomputable def ZrV : Spec := Spec.mk [.ro] [(3, .at (.int .i64))]
noncomputable def Z2Q : LoopDef (Tup Z4F × OutD) := .plain ZbH ZrV (Int) (fun k x => Z3C k x.1.2.1.1 x.1.2.1.2.1 x.1.2.1.2.2.1 x.1.2.1.2.2.2.1 x.1.2.1.2.2.2.2.1 x.2.2.1 x.2.2.2.1) (fun z => (((), ()), (z, ()))) (fun y => (y.2.1)) (fun _ => rfl)
noncomputable def Zaw : Nat → Int × Int × List (Int × Int) × List Int × List Int → Option Int
 | 0, _ => none
 | k + 1, p0 =>
  Option.bind (Z3C k p0.1 p0.2.1 p0.2.2.1 p0.2.2.2.1 p0.2.2.2.2 (1 : Int) (0 : Int)) fun z0 => some z0
noncomputable def Z25 : FnDef := .of Zke Z4F (Int) (fun k x => Zaw k x.1) ZiR ZiN Zpg
noncomputable def Zag : Code := Tryz.f84.body.getD .skip
noncomputable def Z34 : Ctx (Tup Z4F × OutD) := { T := T, G := [], mvs := [], no := 0, n := 21, res := resOf T Zke Z4F Tryz.f84.results.toList, loops := [(0, Z2Q.E)], regs := [], conds := [], cuts := [] }
theorem Zk6 (k : Nat) : EnvOK Tryz.prog k Z34.G := (EnvOK.nil mixed)
noncomputable def Z7U : Code := (findLoop 0 Zag).getD .skip
theorem Zrx (k : Nat) (x : ZbH.D) : Z2Q.lp (k + 1) x = loopK Z34 Z2Q 0 Z7U k x := by kernel_rfl
theorem Zra (k : Nat) : LOK Tryz.prog Z34 k Z7U := LOK.by [] (by kernel_rfl) AllOK.nil
theorem ZpO (x : ZbH.D) : Z2Q.lp 0 x = none := by kernel_rfl
theorem ZpE (k : Nat) : EOK Tryz.prog Z34 k Z2Q.E (.block 0 (.loop Z7U)) := Z2 T_ok Zk6 ZpO Zrx Zra k
theorem Zw8 (k : Nat) (x : Tup Z25.ps) : Z25.f (k + 1) x = fnK Z25 Z34 Zag k x := by kernel_rfl
theorem ZxC (x : Tup Z25.ps) : Z25.f 0 x = none := by kernel_rfl
theorem Zwi (k : Nat) : LOK Tryz.prog Z34 k Zag := LOK.by [(Z2Q.E, .block 0 (.loop Z7U))] (by kernel_rfl) (AllOK.cons (ZpE k) AllOK.nil)
theorem ZxQ (k : Nat) : SoundAt Tryz.prog k 84 Z25.E := @Z0 Tryz.prog Z25 Z34 84 Tryz.f84 Zag (by kernel_rfl) (by kernel_rfl) (by kernel_rfl) Tryz.func84 (by kernel_rfl) (by kernel_rfl) (by kernel_rfl) T_ok Zk6 Zwi ZxC Zw8 k
noncomputable def Z6j : List PK := [PK.mk (.pair I6 (.pair I6 (.slice 76 P6))) true none false none]
noncomputable def ZqR : List PK := [PK.mk (.pair I6 (.pair I6 (.pair (.slice 76 P6) (.pair (.slice 3 I6) (.slice 3 I6))))) true none false none, PK.mk I6 false none false none]
noncomputable def Znr (r : Int × Int × List (Int × Int)) : Tup Z6j × OutD := ((r, ()), none)
noncomputable def Zos : Tup Z6j × OutD → Option (Int × Int × List (Int × Int))
 | (a, none) => some (a.1)
 | _ => none
theorem Zwz : ∀ b r, Zos b = some r → Znr r = b := by
 rintro ⟨a, _ | _⟩ r h <;> cases h; rfl
noncomputable def Z5g : Nat → Int → Int → List (Int × Int) → List Int → List Int → Int → Int → List (Int × Int) → Int → Option (Int × Int × List (Int × Int) × List Int × List Int × Int × Int × List (Int × Int) × Int × Int × List (Int × Int) × Int) := fun k b1_0 b1_1 b1_2 b1_3 b1_4 b2_0 b2_1 o3 v1 =>
  if (0 : Int) ≤ wrap64 (b1_0 * b1_1) then if Int.toNat (wrap64 (b1_0 * b1_1)) * (16 : Nat) ≤ (281474976710656 : Nat) then some (b1_0, b1_1, b1_2, b1_3, b1_4, b2_0, b2_1, o3, b1_0, b1_1, List.replicate (Int.toNat (wrap64 (b1_0 * b1_1))) ((0 : Int), (0 : Int)), v1) else none else none
noncomputable def Zao : Nat → Int → Int → List (Int × Int) → List Int → List Int → Int → Int → List (Int × Int) → Int → Option (List (Int × Int × List (Int × Int) × List Int × List Int × Int × Int × List (Int × Int) × Int × Int × List (Int × Int) × Int)) := fun k b1_0 b1_1 b1_2 b1_3 b1_4 b2_0 b2_1 o3 v1 =>
  joinL (if (0 : Int) ≤ wrap64 (b1_0 * b1_1) then if Int.toNat (wrap64 (b1_0 * b1_1)) * (16 : Nat) ≤ (281474976710656 : Nat) then some [(b1_0, b1_1, b1_2, b1_3, b1_4, b2_0, b2_1, o3, b1_0, b1_1, List.replicate (Int.toNat (wrap64 (b1_0 * b1_1))) ((0 : Int), (0 : Int)), v1)] else none else none) (if (0 : Int) ≤ wrap64 (b1_0 * b1_1) then if Int.toNat (wrap64 (b1_0 * b1_1)) * (16 : Nat) ≤ (281474976710656 : Nat) then some [(b1_0, b1_1, b1_2, b1_3, b1_4, b2_0, b2_1, o3, b1_0, b1_1, List.replicate (Int.toNat (wrap64 (b1_0 * b1_1))) ((0 : Int), (0 : Int)), v1)] else none else none)
noncomputable def ZjT : Spec := Spec.mk [.ro, O1, O5, O2] [(1, .at (.int .i64)), (2, .at (.ptr 1 0)), (4, .at (.ptr 2 0))]
noncomputable def Zxl : Spec := Spec.mk [.ro, O1, O5, O2, O9, O2] [(1, .at (.int .i64)), (2, .at (.ptr 1 0)), (4, .at (.ptr 2 0)), (5, .at (.ptr 4 0))]
noncomputable def Z4I : LoopDef (Tup Z6j × OutD) := .plain ZjT Zxl (Int × Int × List (Int × Int) × List Int × List Int × Int × Int × List (Int × Int) × Int × Int × List (Int × Int) × Int) (fun k x => Z5g k x.1.2.1.1 x.1.2.1.2.1 x.1.2.1.2.2.1 x.1.2.1.2.2.2.1 x.1.2.1.2.2.2.2.1 x.1.2.2.1.1 x.1.2.2.1.2.1 x.1.2.2.2.1 x.2.1) (fun z => (((), (z.1, z.2.1, z.2.2.1, z.2.2.2.1, z.2.2.2.2.1, ()), (z.2.2.2.2.2.1, z.2.2.2.2.2.2.1, (), ()), z.2.2.2.2.2.2.2.1, (z.2.2.2.2.2.2.2.2.1, z.2.2.2.2.2.2.2.2.2.1, (), ()), z.2.2.2.2.2.2.2.2.2.2.1, ()), (z.2.2.2.2.2.2.2.2.2.2.2, (), (), (), ()))) (fun y => (y.1.2.1.1, y.1.2.1.2.1, y.1.2.1.2.2.1, y.1.2.1.2.2.2.1, y.1.2.1.2.2.2.2.1, y.1.2.2.1.1, y.1.2.2.1.2.1, y.1.2.2.2.1, y.1.2.2.2.2.1.1, y.1.2.2.2.2.1.2.1, y.1.2.2.2.2.2.1, y.2.1)) (fun _ => rfl)
theorem ZxK (k : Nat) (b1_0 : Int) (b1_1 : Int) (b1_2 : List (Int × Int)) (b1_3 : List Int) (b1_4 : List Int) (b2_0 : Int) (b2_1 : Int) (o3 : List (Int × Int)) (v1 : Int) : Zao k b1_0 b1_1 b1_2 b1_3 b1_4 b2_0 b2_1 o3 v1 = repl 2 (Z5g k b1_0 b1_1 b1_2 b1_3 b1_4 b2_0 b2_1 o3 v1) := by
 first
 | (simp only [Zao, Z5g, Zj, Zv, Zl, Zi, Zk, Z4, if_true]; done)
 | (simp only [Zao, Z5g, Zj, Zv, Zl, Zi, Zk, Z4, if_true]; simp only [Z28, Z2b, Z4s, Z4]; simp only [Z6A]; exact Z3b ⟨fun h => by simp only [h, and_self], fun h => by simp only [h, and_self]⟩)
noncomputable def Z4q : Nat → Int → Int → List (Int × Int) → List Int → List Int → Int → Int → List (Int × Int) → Int → Int → List (Int × Int) → Int → Int → Option (Int × Int × List (Int × Int) × Int × Int × List (Int × Int))
 | 0, _, _, _, _, _, _, _, _, _, _, _, _, _ => none
 | k + 1, b1_0, b1_1, b1_2, b1_3, b1_4, b2_0, b2_1, o3, b4_0, b4_1, o5, v1, v6 =>
  if decide (v6 ≥ 0) = true then if addS (↑(List.length b1_2) : Int) (1 : Int) = 0 then none else if addS (↑(List.length b1_2) : Int) (1 : Int) = 0 then none else if decide (Int.tmod v1 (addS (↑(List.length b1_2) : Int) (1 : Int)) > 0) = true then if (0 : Int) ≤ wrap64 (Int.tmod v1 (addS (↑(List.length b1_2) : Int) (1 : Int)) - 1) then if wrap64 (Int.tmod v1 (addS (↑(List.length b1_2) : Int) (1 : Int)) - 1) < (↑(List.length b1_2) : Int) then if (0 : Int) ≤ v6 then if v6 < (↑(List.length o5) : Int) then Z4q k b1_0 b1_1 b1_2 b1_3 b1_4 b2_0 b2_1 o3 b4_0 b4_1 (List.set o5 (Int.toNat v6) (Prod.fst (List.getD b1_2 (Int.toNat (wrap64 (Int.tmod v1 (addS (↑(List.length b1_2) : Int) (1 : Int)) - 1))) ((0 : Int), (0 : Int))), Prod.snd (List.getD b1_2 (Int.toNat (wrap64 (Int.tmod v1 (addS (↑(List.length b1_2) : Int) (1 : Int)) - 1))) ((0 : Int), (0 : Int))))) (wrap64 (Int.tdiv v1 (addS (↑(List.length b1_2) : Int) (1 : Int)))) (wrap64 (v6 - 1)) else none else none else none else none else Z4q k b1_0 b1_1 b1_2 b1_3 b1_4 b2_0 b2_1 o3 b4_0 b4_1 o5 (wrap64 (Int.tdiv v1 (addS (↑(List.length b1_2) : Int) (1 : Int)))) (wrap64 (v6 - 1)) else some (b2_0, b2_1, o3, b4_0, b4_1, o5)
noncomputable def Zfq : Spec := Spec.mk [.ro, O1, O5, O2, O9, O2] [(1, .at (.int .i64)), (2, .at (.ptr 1 0)), (4, .at (.ptr 2 0)), (5, .at (.ptr 4 0)), (6, .at (.int .i64))]
noncomputable def Zym : Spec := Spec.mk [.ro, O7, O2, O6, O2] [(4, .at (.ptr 1 0)), (5, .at (.ptr 3 0))]
noncomputable def Z5m : LoopDef (Tup Z6j × OutD) := .plain Zfq Zym (Int × Int × List (Int × Int) × Int × Int × List (Int × Int)) (fun k x => Z4q k x.1.2.1.1 x.1.2.1.2.1 x.1.2.1.2.2.1 x.1.2.1.2.2.2.1 x.1.2.1.2.2.2.2.1 x.1.2.2.1.1 x.1.2.2.1.2.1 x.1.2.2.2.1 x.1.2.2.2.2.1.1 x.1.2.2.2.2.1.2.1 x.1.2.2.2.2.2.1 x.2.1 x.2.2.2.2.2.1) (fun z => (((), (z.1, z.2.1, (), ()), z.2.2.1, (z.2.2.2.1, z.2.2.2.2.1, (), ()), z.2.2.2.2.2, ()), ((), (), ()))) (fun y => (y.1.2.1.1, y.1.2.1.2.1, y.1.2.2.1, y.1.2.2.2.1.1, y.1.2.2.2.1.2.1, y.1.2.2.2.2.1)) (fun _ => rfl)
noncomputable def Zeo : Nat → Int × Int × List (Int × Int) × List Int × List Int → Int → Option (Int × Int × List (Int × Int))
 | 0, _, _ => none
 | k + 1, p0, p1 =>
  Option.bind (Z5g k p0.1 p0.2.1 p0.2.2.1 p0.2.2.2.1 p0.2.2.2.2 (0 : Int) (0 : Int) [] p1) fun z0 => Option.bind (Z4q k z0.1 z0.2.1 z0.2.2.1 z0.2.2.2.1 z0.2.2.2.2.1 z0.2.2.2.2.2.1 z0.2.2.2.2.2.2.1 z0.2.2.2.2.2.2.2.1 z0.2.2.2.2.2.2.2.2.1 z0.2.2.2.2.2.2.2.2.2.1 z0.2.2.2.2.2.2.2.2.2.2.1 z0.2.2.2.2.2.2.2.2.2.2.2 (wrap64 ((↑(List.length z0.2.2.2.2.2.2.2.2.2.2.1) : Int) - 1))) fun z1 => some (z1.2.2.2.1, z1.2.2.2.2.1, z1.2.2.2.2.2)
noncomputable def Z4J : FnDef := .of ZqR Z6j (Int × Int × List (Int × Int)) (fun k x => Zeo k x.1 x.2.1) Znr Zos Zwz
noncomputable def ZbC : Code := Tryz.f85.body.getD .skip
noncomputable def Z11 : Ctx (Tup Z6j × OutD) := { T := T, G := [], mvs := [200031, 200037], no := 0, n := 52, res := resOf T ZqR Z6j Tryz.f85.results.toList, loops := [(0, Z5m.E)], regs := [(1, Z4I.E)], conds := [], cuts := [] }
theorem Zjw (k : Nat) : EnvOK Tryz.prog k Z11.G := (EnvOK.nil mixed)
noncomputable def Zeg : Array Oper := (findReg 1 ZbC).getD #[]
theorem ZxP (k : Nat) (x : ZjT.D) : execD Z11.T Z11.G Z11.mvs k Zeg (Z4I.inp.st Z11.n x) (outK Z11 Z4I) = Zao k x.1.2.1.1 x.1.2.1.2.1 x.1.2.1.2.2.1 x.1.2.1.2.2.2.1 x.1.2.1.2.2.2.2.1 x.1.2.2.1.1 x.1.2.2.1.2.1 x.1.2.2.2.1 x.2.1 := by kernel_rfl
theorem ZuO (k : Nat) : EOK Tryz.prog Z11 k Z4I.E (.region 1 Zeg true) := Z8o (D := Z4I) (m := 2) T_ok (Zjw k) (fun x => (ZxP k x).trans (ZxK k x.1.2.1.1 x.1.2.1.2.1 x.1.2.1.2.2.1 x.1.2.1.2.2.2.1 x.1.2.1.2.2.2.2.1 x.1.2.2.1.1 x.1.2.2.1.2.1 x.1.2.2.2.1 x.2.1))
noncomputable def Zbh : Code := (findLoop 0 ZbC).getD .skip
theorem Zz7 (k : Nat) (x : Zfq.D) : Z5m.lp (k + 1) x = loopK Z11 Z5m 0 Zbh k x := by kernel_rfl
theorem Zyz (k : Nat) : LOK Tryz.prog Z11 k Zbh := LOK.by [] (by kernel_rfl) AllOK.nil
theorem Zzm (x : Zfq.D) : Z5m.lp 0 x = none := by kernel_rfl
theorem ZxR (k : Nat) : EOK Tryz.prog Z11 k Z5m.E (.block 0 (.loop Zbh)) := Z2 T_ok Zjw Zzm Zz7 Zyz k
theorem ZEt (k : Nat) (x : Tup Z4J.ps) : Z4J.f (k + 1) x = fnK Z4J Z11 ZbC k x := by kernel_rfl
theorem ZFt (x : Tup Z4J.ps) : Z4J.f 0 x = none := by kernel_rfl
theorem ZFh (k : Nat) : LOK Tryz.prog Z11 k ZbC := LOK.by [(Z4I.E, .region 1 Zeg true), (Z5m.E, .block 0 (.loop Zbh))] (by kernel_rfl) (AllOK.cons (ZuO k) (AllOK.cons (ZxR k) AllOK.nil))
theorem ZFK (k : Nat) : SoundAt Tryz.prog k 85 Z4J.E := @Z0 Tryz.prog Z4J Z11 85 Tryz.f85 ZbC (by kernel_rfl) (by kernel_rfl) (by kernel_rfl) Tryz.func85 (by kernel_rfl) (by kernel_rfl) (by kernel_rfl) T_ok Zjw ZFh ZFt ZEt k
noncomputable def Zz : List PK := [PK.mk .bool false none false none]
noncomputable def Z8r : List PK := [PK.mk (.slice 40 T6) false none false none, PK.mk (.slice 40 T6) false none false none]
noncomputable def Z3l (r : Bool) : Tup Zz × OutD := ((r, ()), none)
noncomputable def Z3x : Tup Zz × OutD → Option (Bool)
 | (a, none) => some (a.1)
 | _ => none
theorem Z64 : ∀ b r, Z3x b = some r → Z3l r = b := by
 rintro ⟨a, _ | _⟩ r h <;> cases h; rfl
noncomputable def Zu : Nat → List (Int × Int × Int) → List (Int × Int × Int) → Int → Int → Option (LR Unit Bool)
 | 0, _, _, _, _ => none
 | k + 1, v0, v1, v12, v13 =>
  if decide (v13 < v12) = true then if (0 : Int) ≤ v13 then if v13 < (↑(List.length v0) : Int) then if (0 : Int) ≤ v13 then if v13 < (↑(List.length v1) : Int) then if (!(decide (Prod.fst (List.getD v0 (Int.toNat v13) ((0 : Int), (0 : Int), (0 : Int))) = Prod.fst (List.getD v1 (Int.toNat v13) ((0 : Int), (0 : Int), (0 : Int)))) && (decide (Prod.fst (Prod.snd (List.getD v0 (Int.toNat v13) ((0 : Int), (0 : Int), (0 : Int)))) = Prod.fst (Prod.snd (List.getD v1 (Int.toNat v13) ((0 : Int), (0 : Int), (0 : Int))))) && (decide (Prod.snd (Prod.snd (List.getD v0 (Int.toNat v13) ((0 : Int), (0 : Int), (0 : Int)))) = Prod.snd (Prod.snd (List.getD v1 (Int.toNat v13) ((0 : Int), (0 : Int), (0 : Int))))) && true)))) = true then some (LR.ret false) else Zu k v0 v1 v12 (wrap64 (v13 + 1)) else none else none else none else none else some (LR.go ())
noncomputable def Z2P : Spec := Spec.mk [.ro] [(0, .at (.snap 0 T6)), (1, .at (.snap 0 T6)), (12, .at (.int .i64)), (13, .at (.int .i64))]
noncomputable def ZdS : Spec := Spec.mk [.ro] []
noncomputable def Zr : LoopDef (Tup Zz × OutD) := .rets Z2P ZdS (Unit) (Bool) (fun k x => Zu k x.2.1 x.2.2.1 x.2.2.2.1 x.2.2.2.2.1) (fun z => (((), ()), (()))) (fun y => ()) (fun _ => rfl) Z3l Z3x Z64
noncomputable def Z1I : Nat → List (Int × Int × Int) → List (Int × Int × Int) → Option Bool
 | 0, _, _ => none
 | k + 1, p0, p1 =>
  if decide ((↑(List.length p0) : Int) ≠ (↑(List.length p1) : Int)) = true then some false else Option.bind (Zu k p0 p1 (↑(List.length p0) : Int) (0 : Int)) fun z0 => LR.on z0 (fun y0 => some true) fun r0 => some r0
noncomputable def Zd : FnDef := .of Z8r Zz (Bool) (fun k x => Z1I k x.1 x.2.1) Z3l Z3x Z64
noncomputable def Z1K : Code := Tryz.f92.body.getD .skip
noncomputable def Zn : Ctx (Tup Zz × OutD) := { T := T, G := [], mvs := [], no := 0, n := 26, res := resOf T Z8r Zz Tryz.f92.results.toList, loops := [(0, Zr.E)], regs := [], conds := [], cuts := [] }
theorem Z8l (k : Nat) : EnvOK Tryz.prog k Zn.G := (EnvOK.nil mixed)
noncomputable def Z1e : Code := (findLoop 0 Z1K).getD .skip
theorem ZdU (k : Nat) (x : Z2P.D) : Zr.lp (k + 1) x = loopK Zn Zr 0 Z1e k x := by kernel_rfl
theorem ZdO (k : Nat) : LOK Tryz.prog Zn k Z1e := LOK.by [] (by kernel_rfl) AllOK.nil
theorem ZdN (x : Z2P.D) : Zr.lp 0 x = none := by kernel_rfl
theorem Zdi (k : Nat) : EOK Tryz.prog Zn k Zr.E (.block 0 (.loop Z1e)) := Z2 T_ok Z8l ZdN ZdU ZdO k
theorem Zf8 (k : Nat) (x : Tup Zd.ps) : Zd.f (k + 1) x = fnK Zd Zn Z1K k x := by kernel_rfl
theorem Zfg (x : Tup Zd.ps) : Zd.f 0 x = none := by kernel_rfl
theorem Zf6 (k : Nat) : LOK Tryz.prog Zn k Z1K := LOK.by [(Zr.E, .block 0 (.loop Z1e))] (by kernel_rfl) (AllOK.cons (Zdi k) AllOK.nil)
theorem Zfp (k : Nat) : SoundAt Tryz.prog k 92 Zd.E := @Z0 Tryz.prog Zd Zn 92 Tryz.f92 Z1K (by kernel_rfl) (by kernel_rfl) (by kernel_rfl) Tryz.func92 (by kernel_rfl) (by kernel_rfl) (by kernel_rfl) T_ok Z8l Zf6 Zfg Zf8 k
noncomputable def Z43 : List PK := [PK.mk (.slice 3 I6) false none false none]
noncomputable def ZiZ : List PK := [PK.mk (.pair I6 (.pair I6 (.slice 76 P6))) true none false none, PK.mk (.slice 58 T6) false none false none]
noncomputable def ZhC (r : List Int) : Tup Z43 × OutD := ((r, ()), none)
noncomputable def Zhj : Tup Z43 × OutD → Option (List Int)
 | (a, none) => some (a.1)
 | _ => none
theorem Zn3 : ∀ b r, Zhj b = some r → ZhC r = b := by
 rintro ⟨a, _ | _⟩ r h <;> cases h; rfl
noncomputable def Z2Y : Nat → Int → Int → List (Int × Int) → List Int → List (Int × Int × Int) → Int → Int → Option (List Int)
 | 0, _, _, _, _, _, _, _ => none
 | k + 1, b1_0, b1_1, b1_2, o2, v12, v13, v14 =>
  if decide (v14 < v13) = true then if (0 : Int) ≤ v14 then if v14 < (↑(List.length v12) : Int) then if (0 : Int) ≤ wrap64 (wrap64 (Prod.fst (Prod.snd (List.getD v12 (Int.toNat v14) ((0 : Int), (0 : Int), (0 : Int)))) * b1_1) + Prod.snd (Prod.snd (List.getD v12 (Int.toNat v14) ((0 : Int), (0 : Int), (0 : Int))))) then if wrap64 (wrap64 (Prod.fst (Prod.snd (List.getD v12 (Int.toNat v14) ((0 : Int), (0 : Int), (0 : Int)))) * b1_1) + Prod.snd (Prod.snd (List.getD v12 (Int.toNat v14) ((0 : Int), (0 : Int), (0 : Int))))) < (↑(List.length o2) : Int) then Z2Y k b1_0 b1_1 b1_2 (List.set o2 (Int.toNat (wrap64 (wrap64 (Prod.fst (Prod.snd (List.getD v12 (Int.toNat v14) ((0 : Int), (0 : Int), (0 : Int)))) * b1_1) + Prod.snd (Prod.snd (List.getD v12 (Int.toNat v14) ((0 : Int), (0 : Int), (0 : Int))))))) (Prod.fst (List.getD v12 (Int.toNat v14) ((0 : Int), (0 : Int), (0 : Int))))) v12 v13 (wrap64 (v14 + 1)) else none else none else none else none else some o2
noncomputable def ZaZ : Spec := Spec.mk [.ro, O0, O4] [(2, .at (.ptr 1 0)), (5, .at (.sl 2)), (12, .at (.snap 0 T6)), (13, .at (.int .i64)), (14, .at (.int .i64))]
noncomputable def Zoz : Spec := Spec.mk [.ro, O4] [(5, .at (.sl 1))]
noncomputable def Z2n : LoopDef (Tup Z43 × OutD) := .plain ZaZ Zoz (List Int) (fun k x => Z2Y k x.1.2.1.1 x.1.2.1.2.1 x.1.2.1.2.2.1 x.1.2.2.1 x.2.2.2.1 x.2.2.2.2.1 x.2.2.2.2.2.1) (fun z => (((), z, ()), ((), ()))) (fun y => (y.1.2.1)) (fun _ => rfl)
noncomputable def Z9F : Nat → Int × Int × List (Int × Int) → List (Int × Int × Int) → Option (List Int)
 | 0, _, _ => none
 | k + 1, p0, p1 =>
  if Int.toNat (↑(List.length p0.2.2) : Int) * (8 : Nat) ≤ (281474976710656 : Nat) then Option.bind (Z2Y k p0.1 p0.2.1 p0.2.2 (List.replicate (Int.toNat (↑(List.length p0.2.2) : Int)) (0 : Int)) p1 (↑(List.length p1) : Int) (0 : Int)) fun z0 => some z0 else none
noncomputable def Z1y : FnDef := .of ZiZ Z43 (List Int) (fun k x => Z9F k x.1 x.2.1) ZhC Zhj Zn3
noncomputable def Z9E : Code := Tryz.f93.body.getD .skip
noncomputable def Z2G : Ctx (Tup Z43 × OutD) := { T := T, G := [], mvs := [], no := 0, n := 32, res := resOf T ZiZ Z43 Tryz.f93.results.toList, loops := [(0, Z2n.E)], regs := [], conds := [], cuts := [] }
theorem Zip (k : Nat) : EnvOK Tryz.prog k Z2G.G := (EnvOK.nil mixed)
noncomputable def Z7h : Code := (findLoop 0 Z9E).getD .skip
theorem Zpf (k : Nat) (x : ZaZ.D) : Z2n.lp (k + 1) x = loopK Z2G Z2n 0 Z7h k x := by kernel_rfl
theorem ZoN (k : Nat) : LOK Tryz.prog Z2G k Z7h := LOK.by [] (by kernel_rfl) AllOK.nil
theorem ZpF (x : ZaZ.D) : Z2n.lp 0 x = none := by kernel_rfl
theorem ZmS (k : Nat) : EOK Tryz.prog Z2G k Z2n.E (.block 0 (.loop Z7h)) := Z2 T_ok Zip ZpF Zpf ZoN k
theorem ZvJ (k : Nat) (x : Tup Z1y.ps) : Z1y.f (k + 1) x = fnK Z1y Z2G Z9E k x := by kernel_rfl
theorem Zvp (x : Tup Z1y.ps) : Z1y.f 0 x = none := by kernel_rfl
theorem ZuY (k : Nat) : LOK Tryz.prog Z2G k Z9E := LOK.by [(Z2n.E, .block 0 (.loop Z7h))] (by kernel_rfl) (AllOK.cons (ZmS k) AllOK.nil)
theorem Zvx (k : Nat) : SoundAt Tryz.prog k 93 Z1y.E := @Z0 Tryz.prog Z1y Z2G 93 Tryz.f93 Z9E (by kernel_rfl) (by kernel_rfl) (by kernel_rfl) Tryz.func93 (by kernel_rfl) (by kernel_rfl) (by kernel_rfl) T_ok Zip ZuY Zvp ZvJ k
noncomputable def ZdZ : List PK := [PK.mk (.slice 3 I6) false none false none]
noncomputable def ZxX : List PK := [PK.mk (.slice 3 I6) false none false none]
noncomputable def Ztv (r : List Int) : Tup ZdZ × OutD := ((r, ()), none)
noncomputable def ZtA : Tup ZdZ × OutD → Option (List Int)
 | (a, none) => some (a.1)
 | _ => none
theorem ZCv : ∀ b r, ZtA b = some r → Ztv r = b := by
 rintro ⟨a, _ | _⟩ r h <;> cases h; rfl
noncomputable def ZwM : Nat → List Int → Option (List Int)
 | 0, _ => none
 | k + 1, p0 =>
  if (0 : Nat) + List.length p0 ≤ (140737488355328 / 8 : Nat) then some p0 else none
noncomputable def Z7y : FnDef := .of ZxX ZdZ (List Int) (fun k x => ZwM k x.1) Ztv ZtA ZCv
noncomputable def Zmb : Code := Tryz.f102.body.getD .skip
noncomputable def Zhi : Ctx (Tup ZdZ × OutD) := { T := T, G := [], mvs := [], no := 0, n := 6, res := resOf T ZxX ZdZ Tryz.f102.results.toList, loops := [], regs := [], conds := [], cuts := [] }
theorem ZIC (k : Nat) : EnvOK Tryz.prog k Zhi.G := (EnvOK.nil mixed)
theorem ZIs (k : Nat) (x : Tup Z7y.ps) : Z7y.f (k + 1) x = fnK Z7y Zhi Zmb k x := by kernel_rfl
theorem ZIK (x : Tup Z7y.ps) : Z7y.f 0 x = none := by kernel_rfl
theorem ZID (k : Nat) : LOK Tryz.prog Zhi k Zmb := LOK.by [] (by kernel_rfl) AllOK.nil
theorem ZIf (k : Nat) : SoundAt Tryz.prog k 102 Z7y.E := @Z0 Tryz.prog Z7y Zhi 102 Tryz.f102 Zmb (by kernel_rfl) (by kernel_rfl) (by kernel_rfl) Tryz.func102 (by kernel_rfl) (by kernel_rfl) (by kernel_rfl) T_ok ZIC ZID ZIK ZIs k
noncomputable def Z8F : BSig := BSig.mk (111 : Nat) [some ((3 : Nat), Ty.int .i64), some ((3 : Nat), Ty.int .i64), some ((76 : Nat), Ty.pair (Ty.int .i64) (Ty.int .i64)), none]
noncomputable def Z6Z : Nat → Int → List Int → List Int → List (Int × Int) → List (Int × Int) → Int → Option (Int × List Int × List Int × List (Int × Int) × List (Int × Int))
 | 0, _, _, _, _, _, _ => none
 | k + 1, b1_3, o2, o3, o4, o5, v3 =>
  if decide (wrap64 (v3 + 1) < (↑(List.length o2) : Int)) = true then if (0 : Int) ≤ v3 then if v3 < (↑(List.length o2) : Int) then if (0 : Int) ≤ wrap64 (v3 + 1) then if wrap64 (v3 + 1) < (↑(List.length o2) : Int) then if decide (List.getD o2 (Int.toNat v3) (0 : Int) ≤ List.getD o2 (Int.toNat (wrap64 (v3 + 1))) (0 : Int)) = true then Z6Z k b1_3 o2 o3 o4 o5 (wrap64 (v3 + 2)) else if (0 : Int) ≤ v3 then if v3 < (↑(List.length o5) : Int) then if (0 : Int) ≤ wrap64 (v3 + 1) then if wrap64 (v3 + 1) < (↑(List.length (List.set o5 (Int.toNat v3) ((2 : Int), (0 : Int)))) : Int) then if (0 : Int) ≤ v3 then if v3 < (↑(List.length o2) : Int) then if (0 : Int) ≤ wrap64 (v3 + 1) then if wrap64 (v3 + 1) < (↑(List.length (List.set o2 (Int.toNat v3) (0 : Int))) : Int) then if (0 : Int) ≤ v3 then if v3 < (↑(List.length o3) : Int) then if (0 : Int) ≤ wrap64 (v3 + 1) then if wrap64 (v3 + 1) < (↑(List.length o3) : Int) then if (0 : Int) ≤ v3 then if v3 < (↑(List.length o3) : Int) then if (0 : Int) ≤ wrap64 (v3 + 1) then if wrap64 (v3 + 1) < (↑(List.length (List.set o3 (Int.toNat v3) (List.getD o3 (Int.toNat (wrap64 (v3 + 1))) (0 : Int)))) : Int) then Z6Z k b1_3 (List.set (List.set o2 (Int.toNat v3) (0 : Int)) (Int.toNat (wrap64 (v3 + 1))) (1 : Int)) (List.set (List.set o3 (Int.toNat v3) (List.getD o3 (Int.toNat (wrap64 (v3 + 1))) (0 : Int))) (Int.toNat (wrap64 (v3 + 1))) (List.getD o3 (Int.toNat v3) (0 : Int))) o4 (List.set (List.set o5 (Int.toNat v3) ((2 : Int), (0 : Int))) (Int.toNat (wrap64 (v3 + 1))) ((1 : Int), (0 : Int))) (wrap64 (v3 + 2)) else none else none else none else none else none else none else none else none else none else none else none else none else none else none else none else none else none else none else none else none else some (b1_3, o2, o3, o4, o5)
noncomputable def Z9Y : Spec := Spec.mk [.ro, Oa, O4, O4, O2, O2] [(0, .at (.ptr 1 0)), (2, .at (.sl 5)), (3, .at (.int .i64))]
noncomputable def ZmT : Spec := Spec.mk [.ro, Oa, O4, O4, O2, O2] [(0, .at (.ptr 1 0)), (2, .at (.sl 5))]
noncomputable def Z27 : LoopDef (FD Z8F.fs × Bool) := .plain Z9Y ZmT (Int × List Int × List Int × List (Int × Int) × List (Int × Int)) (fun k x => Z6Z k x.1.2.1.2.2.2.1 x.1.2.2.1 x.1.2.2.2.1 x.1.2.2.2.2.1 x.1.2.2.2.2.2.1 x.2.2.2.1) (fun z => (((), ((), (), (), z.1, ()), z.2.1, z.2.2.1, z.2.2.2.1, z.2.2.2.2, ()), ((), (), ()))) (fun y => (y.1.2.1.2.2.2.1, y.1.2.2.1, y.1.2.2.2.1, y.1.2.2.2.2.1, y.1.2.2.2.2.2.1)) (fun _ => rfl)
noncomputable def Zsg : Nat → List Int → List Int → List (Int × Int) → Int → Option ((List Int × List Int × List (Int × Int) × Int × Unit) × Bool)
 | 0, _, _, _, _ => none
 | k + 1, p0, p1, p2, p3 =>
  if Int.toNat (↑(List.length p0) : Int) * (16 : Nat) ≤ (281474976710656 : Nat) then Option.bind (Z6Z k p3 p0 p1 p2 (List.replicate (Int.toNat (↑(List.length p0) : Int)) ((0 : Int), (0 : Int))) (Int.tmod p3 (2 : Int))) fun z0 => if List.length z0.2.2.2.1 + List.length z0.2.2.2.2 ≤ (140737488355328 / 16 : Nat) then some ((z0.2.1, z0.2.2.1, z0.2.2.2.1 ++ z0.2.2.2.2, wrap64 (z0.1 + 1), ()), false) else none else none
noncomputable def ZK : BDef := ⟨Z8F, none, fun k x => Zsg k x.1 x.2.1 x.2.2.1 x.2.2.2.1⟩
noncomputable def Z8C : Code := Tryz.f103.body.getD .skip
noncomputable def Z2d : Ctx (FD Z8F.fs × Bool) := { T := T, G := [], mvs := [], no := 1, n := 109, res := BSig.res Z8F (none), loops := [(0, Z27.E)], regs := [], conds := [], cuts := [] }
theorem ZhS (k : Nat) : EnvOK Tryz.prog k Z2d.G := (EnvOK.nil mixed)
noncomputable def Z5O : Code := (findLoop 0 Z8C).getD .skip
theorem Zng (k : Nat) (x : Z9Y.D) : Z27.lp (k + 1) x = loopK Z2d Z27 0 Z5O k x := by kernel_rfl
theorem Zn5 (k : Nat) : LOK Tryz.prog Z2d k Z5O := LOK.by [] (by kernel_rfl) AllOK.nil
theorem Zn0 (x : Z9Y.D) : Z27.lp 0 x = none := by kernel_rfl
theorem ZlS (k : Nat) : EOK Tryz.prog Z2d k Z27.E (.block 0 (.loop Z5O)) := Z2 T_ok ZhS Zn0 Zng Zn5 k
theorem Zsp (k : Nat) (x : FD ZK.q.fs) : ZK.f (k + 1) x = fnKB ZK Z2d Z8C k x := by kernel_rfl
theorem Zsc (x : FD ZK.q.fs) : ZK.f 0 x = none := by kernel_rfl
theorem Zs5 (k : Nat) : LOK Tryz.prog Z2d k Z8C := LOK.by [(Z27.E, .block 0 (.loop Z5O))] (by kernel_rfl) (AllOK.cons (ZlS k) AllOK.nil)
theorem Zt6 (k : Nat) : ClSound Tryz.prog k 103 ZK.E := @ZLl Tryz.prog ZK Z2d 103 Tryz.f103 Z8C (by kernel_rfl) (by kernel_rfl) (by kernel_rfl) (by kernel_rfl) Tryz.func103 (by kernel_rfl) (by kernel_rfl) (by kernel_rfl) T_ok ZhS Zs5 Zsc Zsp k
noncomputable def Z2U : BSig := BSig.mk (111 : Nat) [some ((3 : Nat), Ty.int .i64), some ((3 : Nat), Ty.int .i64), some ((76 : Nat), Ty.pair (Ty.int .i64) (Ty.int .i64)), none]
noncomputable def ZfG (r : (List Int × List Int × List (Int × Int) × Int × Unit) × Bool) : (FD Z2U.fs × Bool) := r
noncomputable def ZfK : (FD Z2U.fs × Bool) → Option ((List Int × List Int × List (Int × Int) × Int × Unit) × Bool) := fun b => some b
theorem Zlo : ∀ b r, ZfK b = some r → ZfG r = b := fun b r h => (Option.some.inj h).symm
noncomputable def Z9Z : Nat → Int → List Int → List Int → List (Int × Int) → Int → Option (LR (Int × List Int × List Int × List (Int × Int)) ((List Int × List Int × List (Int × Int) × Int × Unit) × Bool))
 | 0, _, _, _, _, _ => none
 | k + 1, b1_3, o2, o3, o4, v3 =>
  if decide (v3 < (↑(List.length o2) : Int)) = true then if (0 : Int) ≤ wrap64 (v3 - 1) then if wrap64 (v3 - 1) < (↑(List.length o2) : Int) then if (0 : Int) ≤ v3 then if v3 < (↑(List.length o2) : Int) then if decide (List.getD o2 (Int.toNat (wrap64 (v3 - 1))) (0 : Int) > List.getD o2 (Int.toNat v3) (0 : Int)) = true then some (LR.ret ((o2, o3, o4, b1_3, ()), false)) else Z9Z k b1_3 o2 o3 o4 (wrap64 (v3 + 1)) else none else none else none else none else some (LR.go (b1_3, o2, o3, o4))
noncomputable def Z9l : Spec := Spec.mk [.ro, Oa, O4, O4, O2] [(0, .at (.ptr 1 0)), (3, .at (.int .i64))]
noncomputable def Zly : Spec := Spec.mk [.ro, Oa, O4, O4, O2] []
noncomputable def Z1O : LoopDef (FD Z2U.fs × Bool) := .rets Z9l Zly (Int × List Int × List Int × List (Int × Int)) ((List Int × List Int × List (Int × Int) × Int × Unit) × Bool) (fun k x => Z9Z k x.1.2.1.2.2.2.1 x.1.2.2.1 x.1.2.2.2.1 x.1.2.2.2.2.1 x.2.2.1) (fun z => (((), ((), (), (), z.1, ()), z.2.1, z.2.2.1, z.2.2.2, ()), (()))) (fun y => (y.1.2.1.2.2.2.1, y.1.2.2.1, y.1.2.2.2.1, y.1.2.2.2.2.1)) (fun _ => rfl) ZfG ZfK Zlo
noncomputable def Zqm : Nat → List Int → List Int → List (Int × Int) → Int → Option ((List Int × List Int × List (Int × Int) × Int × Unit) × Bool)
 | 0, _, _, _, _ => none
 | k + 1, p0, p1, p2, p3 =>
  Option.bind (Z9Z k p3 p0 p1 p2 (1 : Int)) fun z0 => LR.on z0 (fun y0 => some ((y0.2.1, y0.2.2.1, y0.2.2.2, y0.1, ()), true)) fun r0 => some r0
noncomputable def ZU : BDef := ⟨Z2U, some (2 : Nat), fun k x => Zqm k x.1 x.2.1 x.2.2.1 x.2.2.2.1⟩
noncomputable def Z7X : Code := Tryz.f104.body.getD .skip
noncomputable def Z1V : Ctx (FD Z2U.fs × Bool) := { T := T, G := [], mvs := [], no := 1, n := 29, res := BSig.res Z2U (some (2 : Nat)), loops := [(0, Z1O.E)], regs := [], conds := [], cuts := [] }
theorem Zh3 (k : Nat) : EnvOK Tryz.prog k Z1V.G := (EnvOK.nil mixed)
noncomputable def Z5e : Code := (findLoop 0 Z7X).getD .skip
theorem ZmK (k : Nat) (x : Z9l.D) : Z1O.lp (k + 1) x = loopK Z1V Z1O 0 Z5e k x := by kernel_rfl
theorem ZlN (k : Nat) : LOK Tryz.prog Z1V k Z5e := LOK.by [] (by kernel_rfl) AllOK.nil
theorem Zmq (x : Z9l.D) : Z1O.lp 0 x = none := by kernel_rfl
theorem Zll (k : Nat) : EOK Tryz.prog Z1V k Z1O.E (.block 0 (.loop Z5e)) := Z2 T_ok Zh3 Zmq ZmK ZlN k
theorem ZqZ (k : Nat) (x : FD ZU.q.fs) : ZU.f (k + 1) x = fnKB ZU Z1V Z7X k x := by kernel_rfl
theorem ZqL (x : FD ZU.q.fs) : ZU.f 0 x = none := by kernel_rfl
theorem ZrJ (k : Nat) : LOK Tryz.prog Z1V k Z7X := LOK.by [(Z1O.E, .block 0 (.loop Z5e))] (by kernel_rfl) (AllOK.cons (Zll k) AllOK.nil)
theorem Zrk (k : Nat) : ClSound Tryz.prog k 104 ZU.E := @ZLl Tryz.prog ZU Z1V 104 Tryz.f104 Z7X (by kernel_rfl) (by kernel_rfl) (by kernel_rfl) (by kernel_rfl) Tryz.func104 (by kernel_rfl) (by kernel_rfl) (by kernel_rfl) T_ok Zh3 ZrJ ZqL ZqZ k
noncomputable def Z9f : List PK := [PK.mk .bool false none false none]
noncomputable def ZmG : List PK := [PK.mk P6 true none false none]
noncomputable def Zl0 (r : Bool) : Tup Z9f × OutD := ((r, ()), none)
noncomputable def ZkJ : Tup Z9f × OutD → Option (Bool)
 | (a, none) => some (a.1)
 | _ => none
theorem Zs7 : ∀ b r, ZkJ b = some r → Zl0 r = b := by
 rintro ⟨a, _ | _⟩ r h <;> cases h; rfl
noncomputable def Z6y : Nat → Int × Int → Option Bool
 | 0, _ => none
 | k + 1, p0 =>
  if decide (p0.1 = (3 : Int)) = true then some true else some (decide (p0.1 = (6 : Int)))
noncomputable def Z2a : FnDef := .of ZmG Z9f (Bool) (fun k x => Z6y k x.1) Zl0 ZkJ Zs7
noncomputable def ZgP : Code := Tryz.f105.body.getD .skip
noncomputable def Zco : Ctx (Tup Z9f × OutD) := { T := T, G := [], mvs := [], no := 0, n := 11, res := resOf T ZmG Z9f Tryz.f105.results.toList, loops := [], regs := [], conds := [], cuts := [] }
theorem ZCu (k : Nat) : EnvOK Tryz.prog k Zco.G := (EnvOK.nil mixed)
theorem ZBz (k : Nat) (x : Tup Z2a.ps) : Z2a.f (k + 1) x = fnK Z2a Zco ZgP k x := by kernel_rfl
theorem ZBO (x : Tup Z2a.ps) : Z2a.f 0 x = none := by kernel_rfl
theorem ZB1 (k : Nat) : LOK Tryz.prog Zco k ZgP := LOK.by [] (by kernel_rfl) AllOK.nil
theorem Zm5 (k : Nat) : SoundAt Tryz.prog k 105 Z2a.E := @Z0 Tryz.prog Z2a Zco 105 Tryz.f105 ZgP (by kernel_rfl) (by kernel_rfl) (by kernel_rfl) Tryz.func105 (by kernel_rfl) (by kernel_rfl) (by kernel_rfl) T_ok ZCu ZB1 ZBO ZBz k
noncomputable def Z98 : List PK := [PK.mk I6 false none false none]
noncomputable def ZqX : List PK := [PK.mk I6 false none false none, PK.mk I6 false none false none]
noncomputable def Zoh (r : Int) : Tup Z98 × OutD := ((r, ()), none)
noncomputable def Zo8 : Tup Z98 × OutD → Option (Int)
 | (a, none) => some (a.1)
 | _ => none
theorem Zwq : ∀ b r, Zo8 b = some r → Zoh r = b := by
 rintro ⟨a, _ | _⟩ r h <;> cases h; rfl
noncomputable def Z4w : Nat → Int → Int → Int → Option Int
 | 0, _, _, _ => none
 | k + 1, v0, v1, v5 =>
  if decide (v1 > 0) = true then if decide (v5 ≤ 7000) = true then Z4w k v0 (wrap64 (v1 - 1)) (wrap64 (v5 * v0)) else some v5 else some v5
noncomputable def Zft : Spec := Spec.mk [.ro] [(0, .at (.int .i64)), (1, .at (.int .i64)), (5, .at (.int .i64))]
noncomputable def Zyv : Spec := Spec.mk [.ro] [(5, .at (.int .i64))]
noncomputable def Z5r : LoopDef (Tup Z98 × OutD) := .plain Zft Zyv (Int) (fun k x => Z4w k x.2.1 x.2.2.1 x.2.2.2.1) (fun z => (((), ()), (z, ()))) (fun y => (y.2.1)) (fun _ => rfl)
noncomputable def Zjy : Nat → Int → Int → Option Int
 | 0, _, _ => none
 | k + 1, p0, p1 =>
  Option.bind (Z4w k p0 p1 (1 : Int)) fun z0 => some z0
noncomputable def Z4E : FnDef := .of ZqX Z98 (Int) (fun k x => Zjy k x.1 x.2.1) Zoh Zo8 Zwq
noncomputable def ZeJ : Code := Tryz.f106.body.getD .skip
noncomputable def Z68 : Ctx (Tup Z98 × OutD) := { T := T, G := [], mvs := [], no := 0, n := 18, res := resOf T ZqX Z98 Tryz.f106.results.toList, loops := [(0, Z5r.E)], regs := [], conds := [], cuts := [] }
theorem Zrz (k : Nat) : EnvOK Tryz.prog k Z68.G := (EnvOK.nil mixed)
noncomputable def Zb9 : Code := (findLoop 0 ZeJ).getD .skip
theorem ZyQ (k : Nat) (x : Zft.D) : Z5r.lp (k + 1) x = loopK Z68 Z5r 0 Zb9 k x := by kernel_rfl
theorem ZzY (k : Nat) : LOK Tryz.prog Z68 k Zb9 := LOK.by [] (by kernel_rfl) AllOK.nil
theorem Zzb (x : Zft.D) : Z5r.lp 0 x = none := by kernel_rfl
theorem Zw5 (k : Nat) : EOK Tryz.prog Z68 k Z5r.E (.block 0 (.loop Zb9)) := Z2 T_ok Zrz Zzb ZyQ ZzY k
theorem ZFi (k : Nat) (x : Tup Z4E.ps) : Z4E.f (k + 1) x = fnK Z4E Z68 ZeJ k x := by kernel_rfl
theorem ZE7 (x : Tup Z4E.ps) : Z4E.f 0 x = none := by kernel_rfl
theorem ZEU (k : Nat) : LOK Tryz.prog Z68 k ZeJ := LOK.by [(Z5r.E, .block 0 (.loop Zb9))] (by kernel_rfl) (AllOK.cons (Zw5 k) AllOK.nil)
theorem ZE2 (k : Nat) : SoundAt Tryz.prog k 106 Z4E.E := @Z0 Tryz.prog Z4E Z68 106 Tryz.f106 ZeJ (by kernel_rfl) (by kernel_rfl) (by kernel_rfl) Tryz.func106 (by kernel_rfl) (by kernel_rfl) (by kernel_rfl) T_ok Zrz ZEU ZE7 ZFi k
noncomputable def ZdW : List PK := [PK.mk I6 false none false none]
noncomputable def Zwo : List PK := [PK.mk (.pair I6 (.pair I6 (.slice 76 P6))) true none false none, PK.mk T6 true none false none]
noncomputable def Zts (r : Int) : Tup ZdW × OutD := ((r, ()), none)
noncomputable def ZtB : Tup ZdW × OutD → Option (Int)
 | (a, none) => some (a.1)
 | _ => none
theorem ZBt : ∀ b r, ZtB b = some r → Zts r = b := by
 rintro ⟨a, _ | _⟩ r h <;> cases h; rfl
noncomputable def Zic : Nat → Int × Int × List (Int × Int) → Int × Int × Int → Option Int
 | 0, _, _ => none
 | k + 1, p0, p1 =>
  if decide (p1.1 = 1) = true then some p1.2.2 else if decide (p1.1 = 2) = true then some p0.2.1 else some (wrap64 (p0.2.1 + 1))
noncomputable def Z7p : FnDef := .of Zwo ZdW (Int) (fun k x => Zic k x.1 x.2.1) Zts ZtB ZBt
noncomputable def Zmd : Code := Tryz.f108.body.getD .skip
noncomputable def Zhw : Ctx (Tup ZdW × OutD) := { T := T, G := [], mvs := [], no := 0, n := 18, res := resOf T Zwo ZdW Tryz.f108.results.toList, loops := [], regs := [], conds := [], cuts := [] }
theorem ZIQ (k : Nat) : EnvOK Tryz.prog k Zhw.G := (EnvOK.nil mixed)
theorem ZIr (k : Nat) (x : Tup Z7p.ps) : Z7p.f (k + 1) x = fnK Z7p Zhw Zmd k x := by kernel_rfl
theorem ZIx (x : Tup Z7p.ps) : Z7p.f 0 x = none := by kernel_rfl
theorem ZI2 (k : Nat) : LOK Tryz.prog Zhw k Zmd := LOK.by [] (by kernel_rfl) AllOK.nil
theorem ZIu (k : Nat) : SoundAt Tryz.prog k 108 Z7p.E := @Z0 Tryz.prog Z7p Zhw 108 Tryz.f108 Zmd (by kernel_rfl) (by kernel_rfl) (by kernel_rfl) Tryz.func108 (by kernel_rfl) (by kernel_rfl) (by kernel_rfl) T_ok ZIQ ZI2 ZIx ZIr k
noncomputable def Z9b : List PK := [PK.mk (.slice 3 I6) false none false none]
noncomputable def Zrb : List PK := [PK.mk (.pair I6 (.pair I6 (.slice 76 P6))) true none false none]
noncomputable def Zof (r : List Int) : Tup Z9b × OutD := ((r, ()), none)
noncomputable def Zoe : Tup Z9b × OutD → Option (List Int)
 | (a, none) => some (a.1)
 | _ => none
theorem Zxt : ∀ b r, Zoe b = some r → Zof r = b := by
 rintro ⟨a, _ | _⟩ r h <;> cases h; rfl
noncomputable def Z6I : Nat → List Int → List (Int × Int) → Int → Int → Option (List Int)
 | 0, _, _, _, _ => none
 | k + 1, o1, v8, v9, v10 =>
  if decide (v10 < v9) = true then if (0 : Int) ≤ v10 then if v10 < (↑(List.length v8) : Int) then if (0 : Int) ≤ Prod.fst (List.getD v8 (Int.toNat v10) ((0 : Int), (0 : Int))) then if Prod.fst (List.getD v8 (Int.toNat v10) ((0 : Int), (0 : Int))) < (↑(List.length o1) : Int) then if (0 : Int) ≤ Prod.fst (List.getD v8 (Int.toNat v10) ((0 : Int), (0 : Int))) then if Prod.fst (List.getD v8 (Int.toNat v10) ((0 : Int), (0 : Int))) < (↑(List.length o1) : Int) then Z6I k (List.set o1 (Int.toNat (Prod.fst (List.getD v8 (Int.toNat v10) ((0 : Int), (0 : Int))))) (wrap64 (List.getD o1 (Int.toNat (Prod.fst (List.getD v8 (Int.toNat v10) ((0 : Int), (0 : Int))))) (0 : Int) + 1))) v8 v9 (wrap64 (v10 + 1)) else none else none else none else none else none else none else some o1
noncomputable def Zfa : Spec := Spec.mk [.ro, O4] [(3, .at (.sl 1)), (8, .at (.snap 0 P6)), (9, .at (.int .i64)), (10, .at (.int .i64))]
noncomputable def Zyq : Spec := Spec.mk [.ro, O4] [(3, .at (.sl 1))]
noncomputable def Z5f : LoopDef (Tup Z9b × OutD) := .plain Zfa Zyq (List Int) (fun k x => Z6I k x.1.2.1 x.2.2.1 x.2.2.2.1 x.2.2.2.2.1) (fun z => (((), z, ()), ((), ()))) (fun y => (y.1.2.1)) (fun _ => rfl)
noncomputable def Zjc : Nat → Int × Int × List (Int × Int) → Option (List Int)
 | 0, _ => none
 | k + 1, p0 =>
  Option.bind (Z6I k (List.replicate (Int.toNat (8 : Int)) (0 : Int)) p0.2.2 (↑(List.length p0.2.2) : Int) (0 : Int)) fun z0 => some z0
noncomputable def Z4y : FnDef := .of Zrb Z9b (List Int) (fun k x => Zjc k x.1) Zof Zoe Zxt
noncomputable def ZeE : Code := Tryz.f109.body.getD .skip
noncomputable def Z6N : Ctx (Tup Z9b × OutD) := { T := T, G := [], mvs := [], no := 0, n := 23, res := resOf T Zrb Z9b Tryz.f109.results.toList, loops := [(0, Z5f.E)], regs := [], conds := [], cuts := [] }
theorem Zqh (k : Nat) : EnvOK Tryz.prog k Z6N.G := (EnvOK.nil mixed)
noncomputable def Zbg : Code := (findLoop 0 ZeE).getD .skip
theorem ZyA (k : Nat) (x : Zfa.D) : Z5f.lp (k + 1) x = loopK Z6N Z5f 0 Zbg k x := by kernel_rfl
theorem ZzV (k : Nat) : LOK Tryz.prog Z6N k Zbg := LOK.by [] (by kernel_rfl) AllOK.nil
theorem Zz8 (x : Zfa.D) : Z5f.lp 0 x = none := by kernel_rfl
theorem ZxV (k : Nat) : EOK Tryz.prog Z6N k Z5f.E (.block 0 (.loop Zbg)) := Z2 T_ok Zqh Zz8 ZyA ZzV k
theorem ZFB (k : Nat) (x : Tup Z4y.ps) : Z4y.f (k + 1) x = fnK Z4y Z6N ZeE k x := by kernel_rfl
theorem ZFu (x : Tup Z4y.ps) : Z4y.f 0 x = none := by kernel_rfl
theorem ZEv (k : Nat) : LOK Tryz.prog Z6N k ZeE := LOK.by [(Z5f.E, .block 0 (.loop Zbg))] (by kernel_rfl) (AllOK.cons (ZxV k) AllOK.nil)
theorem ZDZ (k : Nat) : SoundAt Tryz.prog k 109 Z4y.E := @Z0 Tryz.prog Z4y Z6N 109 Tryz.f109 ZeE (by kernel_rfl) (by kernel_rfl) (by kernel_rfl) Tryz.func109 (by kernel_rfl) (by kernel_rfl) (by kernel_rfl) T_ok Zqh ZEv ZFu ZFB k
noncomputable def Za2 : List PK := [PK.mk I6 false none false none]
noncomputable def Zuf : List PK := [PK.mk (.slice 40 T6) false none false none, PK.mk (.slice 40 T6) false none false none]
noncomputable def Zjx (r : Int) : Tup Za2 × OutD := ((r, ()), none)
noncomputable def Zjb : Tup Za2 × OutD → Option (Int)
 | (a, none) => some (a.1)
 | _ => none
theorem ZkL : ∀ b r, Zjb b = some r → Zjx r = b := by
 rintro ⟨a, _ | _⟩ r h <;> cases h; rfl
noncomputable def Z7J : Nat → List (Int × Int × Int) → List (Int × Int × Int) → Int → Int → Option (LR Unit Int)
 | 0, _, _, _, _ => none
 | k + 1, v1, v7, v8, v9 =>
  if decide (v9 < v8) = true then if (0 : Int) ≤ v9 then if v9 < (↑(List.length v7) : Int) then if (0 : Int) ≤ v9 then if v9 < (↑(List.length v1) : Int) then if (!(decide (Prod.fst (List.getD v7 (Int.toNat v9) ((0 : Int), (0 : Int), (0 : Int))) = Prod.fst (List.getD v1 (Int.toNat v9) ((0 : Int), (0 : Int), (0 : Int)))) && (decide (Prod.fst (Prod.snd (List.getD v7 (Int.toNat v9) ((0 : Int), (0 : Int), (0 : Int)))) = Prod.fst (Prod.snd (List.getD v1 (Int.toNat v9) ((0 : Int), (0 : Int), (0 : Int))))) && (decide (Prod.snd (Prod.snd (List.getD v7 (Int.toNat v9) ((0 : Int), (0 : Int), (0 : Int)))) = Prod.snd (Prod.snd (List.getD v1 (Int.toNat v9) ((0 : Int), (0 : Int), (0 : Int))))) && true)))) = true then some (LR.ret v9) else Z7J k v1 v7 v8 (wrap64 (v9 + 1)) else none else none else none else none else some (LR.go ())
noncomputable def ZgK : Spec := Spec.mk [.ro] [(1, .at (.snap 0 T6)), (7, .at (.snap 0 T6)), (8, .at (.int .i64)), (9, .at (.int .i64))]
noncomputable def ZBT : Spec := Spec.mk [.ro] []
noncomputable def Z6R : LoopDef (Tup Za2 × OutD) := .rets ZgK ZBT (Unit) (Int) (fun k x => Z7J k x.2.1 x.2.2.1 x.2.2.2.1 x.2.2.2.2.1) (fun z => (((), ()), (()))) (fun y => ()) (fun _ => rfl) Zjx Zjb ZkL
noncomputable def ZfY : Nat → List (Int × Int × Int) → List (Int × Int × Int) → Option Int
 | 0, _, _ => none
 | k + 1, p0, p1 =>
  Option.bind (Z7J k p1 p0 (↑(List.length p0) : Int) (0 : Int)) fun z0 => LR.on z0 (fun y0 => some (-1 : Int)) fun r0 => some r0
noncomputable def Z5N : FnDef := .of Zuf Za2 (Int) (fun k x => ZfY k x.1 x.2.1) Zjx Zjb ZkL
noncomputable def Zgc : Code := Tryz.f113.body.getD .skip
noncomputable def Z86 : Ctx (Tup Za2 × OutD) := { T := T, G := [], mvs := [], no := 0, n := 22, res := resOf T Zuf Za2 Tryz.f113.results.toList, loops := [(0, Z6R.E)], regs := [], conds := [], cuts := [] }
theorem Ztw (k : Nat) : EnvOK Tryz.prog k Z86.G := (EnvOK.nil mixed)
noncomputable def ZcI : Code := (findLoop 0 Zgc).getD .skip
theorem ZBX (k : Nat) (x : ZgK.D) : Z6R.lp (k + 1) x = loopK Z86 Z6R 0 ZcI k x := by kernel_rfl
theorem ZC8 (k : Nat) : LOK Tryz.prog Z86 k ZcI := LOK.by [] (by kernel_rfl) AllOK.nil
theorem ZAR (x : ZgK.D) : Z6R.lp 0 x = none := by kernel_rfl
theorem ZA0 (k : Nat) : EOK Tryz.prog Z86 k Z6R.E (.block 0 (.loop ZcI)) := Z2 T_ok Ztw ZAR ZBX ZC8 k
theorem ZH2 (k : Nat) (x : Tup Z5N.ps) : Z5N.f (k + 1) x = fnK Z5N Z86 Zgc k x := by kernel_rfl
theorem ZHu (x : Tup Z5N.ps) : Z5N.f 0 x = none := by kernel_rfl
theorem ZGM (k : Nat) : LOK Tryz.prog Z86 k Zgc := LOK.by [(Z6R.E, .block 0 (.loop ZcI))] (by kernel_rfl) (AllOK.cons (ZA0 k) AllOK.nil)
theorem ZHD (k : Nat) : SoundAt Tryz.prog k 113 Z5N.E := @Z0 Tryz.prog Z5N Z86 113 Tryz.f113 Zgc (by kernel_rfl) (by kernel_rfl) (by kernel_rfl) Tryz.func113 (by kernel_rfl) (by kernel_rfl) (by kernel_rfl) T_ok Ztw ZGM ZHu ZH2 k
noncomputable def Z5p : List PK := []
noncomputable def ZkI : List PK := [PK.mk (.pair I6 (.pair I6 (.slice 76 P6))) true (some (2, 76, .pair I6 I6)) false none, PK.mk (.slice 3 I6) false none false none, PK.mk (.slice 3 I6) false none false none, PK.mk I6 false none false none]
noncomputable def ZjZ (r : List (Int × Int)) : Tup Z5p × OutD := ((()), some ⟨Ty.pair (Ty.int .i64) (Ty.int .i64), r⟩)
noncomputable def Ze5 : Tup Z5p × OutD → Option (List (Int × Int))
 | (a, some ⟨u, ys⟩) => if h : u = Ty.pair (Ty.int .i64) (Ty.int .i64) then some (castU h ys) else none
 | _ => none
theorem ZrE : ∀ b r, Ze5 b = some r → ZjZ r = b := by
 rintro ⟨a, o⟩ r h
 cases o with
 | none => cases h
 | some s =>
  obtain ⟨u, ys⟩ := s
  simp only [Ze5] at h
  split at h
  ·rename_i hu; subst hu; injection h with h; subst h; rfl
  ·cases h
noncomputable def Zh : Nat → List (Int × Int) → Int → Int → List Int → List Int → Int → Int → Int → Option (List (Int × Int))
 | 0, _, _, _, _, _, _, _, _ => none
 | k + 1, o1, b2_0, b2_1, v1, v2, v3, v12, v13 =>
  if decide (v13 < v12) = true then if decide (v13 = v3) = true then if (0 : Int) ≤ v13 then if v13 < (↑(List.length v2) : Int) then if decide (List.getD v2 (Int.toNat v13) (0 : Int) ≠ 1) = true then if (0 : Int) ≤ v13 then if v13 < (↑(List.length o1) : Int) then if (0 : Int) ≤ v13 then if v13 < (↑(List.length o1) : Int) then Zh k (List.set o1 (Int.toNat v13) (Prod.fst (List.getD o1 (Int.toNat v13) ((0 : Int), (0 : Int))), wrap64 ((1 : Int) - Prod.snd (List.getD o1 (Int.toNat v13) ((0 : Int), (0 : Int)))))) b2_0 b2_1 v1 v2 v3 v12 (wrap64 (v13 + 1)) else none else none else none else none else Zh k o1 b2_0 b2_1 v1 v2 v3 v12 (wrap64 (v13 + 1)) else none else none else if (0 : Int) ≤ v3 then if v3 < (↑(List.length o1) : Int) then if decide (Prod.fst (List.getD o1 (Int.toNat v3) ((0 : Int), (0 : Int))) = 6) = true then if (0 : Int) ≤ v13 then if v13 < (↑(List.length o1) : Int) then if decide (Prod.fst (List.getD o1 (Int.toNat v13) ((0 : Int), (0 : Int))) = 6) = true then if (0 : Int) ≤ v13 then if v13 < (↑(List.length v1) : Int) then if (0 : Int) ≤ v3 then if v3 < (↑(List.length v1) : Int) then if decide (List.getD v1 (Int.toNat v13) (0 : Int) = List.getD v1 (Int.toNat v3) (0 : Int)) = true then if (0 : Int) ≤ v13 then if v13 < (↑(List.length v2) : Int) then if decide (List.getD v2 (Int.toNat v13) (0 : Int) ≠ 1) = true then if (0 : Int) ≤ v13 then if v13 < (↑(List.length o1) : Int) then if (0 : Int) ≤ v13 then if v13 < (↑(List.length o1) : Int) then Zh k (List.set o1 (Int.toNat v13) (Prod.fst (List.getD o1 (Int.toNat v13) ((0 : Int), (0 : Int))), wrap64 ((1 : Int) - Prod.snd (List.getD o1 (Int.toNat v13) ((0 : Int), (0 : Int)))))) b2_0 b2_1 v1 v2 v3 v12 (wrap64 (v13 + 1)) else none else none else none else none else Zh k o1 b2_0 b2_1 v1 v2 v3 v12 (wrap64 (v13 + 1)) else none else none else Zh k o1 b2_0 b2_1 v1 v2 v3 v12 (wrap64 (v13 + 1)) else none else none else none else none else Zh k o1 b2_0 b2_1 v1 v2 v3 v12 (wrap64 (v13 + 1)) else none else none else Zh k o1 b2_0 b2_1 v1 v2 v3 v12 (wrap64 (v13 + 1)) else none else none else some o1
noncomputable def Zcn : Spec := Spec.mk [.ro, Oe, Obq] [(1, .at (.snap 0 I6)), (2, .at (.snap 0 I6)), (3, .at (.int .i64)), (4, .at (.ptr 2 0)), (12, .at (.int .i64)), (13, .at (.int .i64))]
noncomputable def ZsR : Spec := Spec.mk [.ro, Oe] []
noncomputable def Z3B : LoopDef (Tup Z5p × OutD) := .plain Zcn ZsR (List (Int × Int)) (fun k x => Zh k x.1.2.1 x.1.2.2.1.1 x.1.2.2.1.2.1 x.2.1 x.2.2.1 x.2.2.2.1 x.2.2.2.2.2.1 x.2.2.2.2.2.2.1) (fun z => (((), z, ()), (()))) (fun y => (y.1.2.1)) (fun _ => rfl)
noncomputable def Z5t : Nat → Int × Int × List (Int × Int) → List Int → List Int → Int → Option (List (Int × Int))
 | 0, _, _, _, _ => none
 | k + 1, p0, p1, p2, p3 =>
  Option.bind (Zh k p0.2.2 p0.1 p0.2.1 p1 p2 p3 (↑(List.length p0.2.2) : Int) (0 : Int)) fun z0 => some z0
noncomputable def Z2B : FnDef := .of ZkI Z5p (List (Int × Int)) (fun k x => Z5t k x.1 x.2.1 x.2.2.1 x.2.2.2.1) ZjZ Ze5 ZrE
noncomputable def Zbb : Code := Tryz.f115.body.getD .skip
noncomputable def Z3I : Ctx (Tup Z5p × OutD) := { T := T, G := [], mvs := [], no := 1, n := 69, res := resOf T ZkI Z5p Tryz.f115.results.toList, loops := [(0, Z3B.E)], regs := [], conds := [], cuts := [] }
theorem ZkG (k : Nat) : EnvOK Tryz.prog k Z3I.G := (EnvOK.nil mixed)
noncomputable def Z8M : Code := (findLoop 0 Zbb).getD .skip
theorem Zsw (k : Nat) (x : Zcn.D) : Z3B.lp (k + 1) x = loopK Z3I Z3B 0 Z8M k x := by kernel_rfl
theorem Zsf (k : Nat) : LOK Tryz.prog Z3I k Z8M := LOK.by [] (by kernel_rfl) AllOK.nil
theorem Zsv (x : Zcn.D) : Z3B.lp 0 x = none := by kernel_rfl
theorem ZpV (k : Nat) : EOK Tryz.prog Z3I k Z3B.E (.block 0 (.loop Z8M)) := Z2 T_ok ZkG Zsv Zsw Zsf k
theorem ZyP (k : Nat) (x : Tup Z2B.ps) : Z2B.f (k + 1) x = fnK Z2B Z3I Zbb k x := by kernel_rfl
theorem Zzp (x : Tup Z2B.ps) : Z2B.f 0 x = none := by kernel_rfl
theorem Zzy (k : Nat) : LOK Tryz.prog Z3I k Zbb := LOK.by [(Z3B.E, .block 0 (.loop Z8M))] (by kernel_rfl) (AllOK.cons (ZpV k) AllOK.nil)
theorem ZyF (k : Nat) : SoundAt Tryz.prog k 115 Z2B.E := @Z0 Tryz.prog Z2B Z3I 115 Tryz.f115 Zbb (by kernel_rfl) (by kernel_rfl) (by kernel_rfl) Tryz.func115 (by kernel_rfl) (by kernel_rfl) (by kernel_rfl) T_ok ZkG Zzy Zzp ZyP k
noncomputable def ZbD : List PK := [PK.mk (.pair I6 (.pair I6 (.slice 76 P6))) true none false none]
noncomputable def Zw7 : List PK := [PK.mk (.pair I6 (.pair I6 (.slice 76 P6))) true none false none]
noncomputable def ZtM (r : Int × Int × List (Int × Int)) : Tup ZbD × OutD := ((r, ()), none)
noncomputable def Zu6 : Tup ZbD × OutD → Option (Int × Int × List (Int × Int))
 | (a, none) => some (a.1)
 | _ => none
theorem ZCz : ∀ b r, Zu6 b = some r → ZtM r = b := by
 rintro ⟨a, _ | _⟩ r h <;> cases h; rfl
noncomputable def Z7V : Nat → Int → Int → List (Int × Int) → Int → Int → List (Int × Int) → Option (Int × Int × List (Int × Int)) := fun k b1_0 b1_1 b1_2 b2_0 b2_1 o3 =>
  if (0 : Nat) + List.length b1_2 ≤ (140737488355328 / 16 : Nat) then some (b1_0, b1_1, b1_2) else none
noncomputable def Zc3 : Nat → Int → Int → List (Int × Int) → Int → Int → List (Int × Int) → Option (List (Int × Int × List (Int × Int))) := fun k b1_0 b1_1 b1_2 b2_0 b2_1 o3 =>
  joinL (joinL (if (0 : Nat) + List.length b1_2 ≤ (140737488355328 / 16 : Nat) then some [(b1_0, b1_1, b1_2)] else none) (joinL (if (0 : Nat) + List.length b1_2 ≤ (140737488355328 / 16 : Nat) then some [(b1_0, b1_1, b1_2)] else none) (if (0 : Nat) + List.length b1_2 ≤ (140737488355328 / 16 : Nat) then some [(b1_0, b1_1, b1_2)] else none))) (joinL (joinL (if (0 : Nat) + List.length b1_2 ≤ (140737488355328 / 16 : Nat) then some [(b1_0, b1_1, b1_2)] else none) (joinL (if (0 : Nat) + List.length b1_2 ≤ (140737488355328 / 16 : Nat) then some [(b1_0, b1_1, b1_2)] else none) (if (0 : Nat) + List.length b1_2 ≤ (140737488355328 / 16 : Nat) then some [(b1_0, b1_1, b1_2)] else none))) (joinL (joinL (if (0 : Nat) + List.length b1_2 ≤ (140737488355328 / 16 : Nat) then some [(b1_0, b1_1, b1_2)] else none) (if (0 : Nat) + List.length b1_2 ≤ (140737488355328 / 16 : Nat) then some [(b1_0, b1_1, b1_2)] else none)) (joinL (joinL (if (0 : Nat) + List.length b1_2 ≤ (140737488355328 / 16 : Nat) then some [(b1_0, b1_1, b1_2)] else none) (if (0 : Nat) + List.length b1_2 ≤ (140737488355328 / 16 : Nat) then some [(b1_0, b1_1, b1_2)] else none)) (if (0 : Nat) + List.length b1_2 ≤ (140737488355328 / 16 : Nat) then joinL (some [(b1_0, b1_1, b1_2)]) (some [(b1_0, b1_1, b1_2)]) else none))))
noncomputable def Zms : Spec := Spec.mk [.ro, O0, O5, O2] [(1, .at (.ptr 1 0)), (2, .at (.ptr 2 0))]
noncomputable def ZAT : Spec := Spec.mk [.ro, O7, O2] [(2, .at (.ptr 1 0))]
noncomputable def Z6o : LoopDef (Tup ZbD × OutD) := .plain Zms ZAT (Int × Int × List (Int × Int)) (fun k x => Z7V k x.1.2.1.1 x.1.2.1.2.1 x.1.2.1.2.2.1 x.1.2.2.1.1 x.1.2.2.1.2.1 x.1.2.2.2.1) (fun z => (((), (z.1, z.2.1, (), ()), z.2.2, ()), ((), ()))) (fun y => (y.1.2.1.1, y.1.2.1.2.1, y.1.2.2.1)) (fun _ => rfl)
theorem ZC4 (k : Nat) (b1_0 : Int) (b1_1 : Int) (b1_2 : List (Int × Int)) (b2_0 : Int) (b2_1 : Int) (o3 : List (Int × Int)) : Zc3 k b1_0 b1_1 b1_2 b2_0 b2_1 o3 = repl 12 (Z7V k b1_0 b1_1 b1_2 b2_0 b2_1 o3) := by
 first
 | (simp only [Zc3, Z7V, Zj, Zv, Zl, Zi, Zk, Z4, if_true]; done)
 | (simp only [Zc3, Z7V, Zj, Zv, Zl, Zi, Zk, Z4, if_true]; simp only [Z28, Z2b, Z4s, Z4]; simp only [Z6A]; exact Z3b ⟨fun h => by simp only [h, and_self], fun h => by simp only [h, and_self]⟩)
noncomputable def Z7u : Nat → Int × Int × List (Int × Int) → Option (Int × Int × List (Int × Int))
 | 0, _ => none
 | k + 1, p0 =>
  Option.bind (Z7V k p0.1 p0.2.1 p0.2.2 (0 : Int) (0 : Int) []) fun z0 => some (z0.1, z0.2.1, z0.2.2)
noncomputable def Z4b : FnDef := .of Zw7 ZbD (Int × Int × List (Int × Int)) (fun k x => Z7u k x.1) ZtM Zu6 ZCz
noncomputable def Zi0 : Code := Tryz.f126.body.getD .skip
noncomputable def Z49 : Ctx (Tup ZbD × OutD) := { T := T, G := [], mvs := [], no := 0, n := 12, res := resOf T Zw7 ZbD Tryz.f126.results.toList, loops := [], regs := [(1, Z6o.E)], conds := [], cuts := [] }
theorem ZxS (k : Nat) : EnvOK Tryz.prog k Z49.G := (EnvOK.nil mixed)
noncomputable def ZgE : Array Oper := (findReg 1 Zi0).getD #[]
theorem ZBV (k : Nat) (x : Zms.D) : execD Z49.T Z49.G Z49.mvs k ZgE (Z6o.inp.st Z49.n x) (outK Z49 Z6o) = Zc3 k x.1.2.1.1 x.1.2.1.2.1 x.1.2.1.2.2.1 x.1.2.2.1.1 x.1.2.2.1.2.1 x.1.2.2.2.1 := by kernel_rfl
theorem Zzr (k : Nat) : EOK Tryz.prog Z49 k Z6o.E (.region 1 ZgE true) := Z8o (D := Z6o) (m := 12) T_ok (ZxS k) (fun x => (ZBV k x).trans (ZC4 k x.1.2.1.1 x.1.2.1.2.1 x.1.2.1.2.2.1 x.1.2.2.1.1 x.1.2.2.1.2.1 x.1.2.2.2.1))
theorem ZIh (k : Nat) (x : Tup Z4b.ps) : Z4b.f (k + 1) x = fnK Z4b Z49 Zi0 k x := by kernel_rfl
theorem ZIP (x : Tup Z4b.ps) : Z4b.f 0 x = none := by kernel_rfl
theorem ZIw (k : Nat) : LOK Tryz.prog Z49 k Zi0 := LOK.by [(Z6o.E, .region 1 ZgE true)] (by kernel_rfl) (AllOK.cons (Zzr k) AllOK.nil)
theorem ZmB (k : Nat) : SoundAt Tryz.prog k 126 Z4b.E := @Z0 Tryz.prog Z4b Z49 126 Tryz.f126 Zi0 (by kernel_rfl) (by kernel_rfl) (by kernel_rfl) Tryz.func126 (by kernel_rfl) (by kernel_rfl) (by kernel_rfl) T_ok ZxS ZIw ZIP ZIh k
noncomputable def ZfH : List PK := [PK.mk P6 true none false none]
noncomputable def ZAl : List PK := [PK.mk (.pair I6 (.pair I6 (.slice 76 P6))) true none false none, PK.mk I6 false none false none, PK.mk I6 false none false none]
noncomputable def Zxa (r : Int × Int) : Tup ZfH × OutD := ((r, ()), none)
noncomputable def Zxf : Tup ZfH × OutD → Option (Int × Int)
 | (a, none) => some (a.1)
 | _ => none
theorem ZD9 : ∀ b r, Zxf b = some r → Zxa r = b := by
 rintro ⟨a, _ | _⟩ r h <;> cases h; rfl
noncomputable def Zfz : Nat → Int × Int × List (Int × Int) → Int → Int → Option (Int × Int)
 | 0, _, _, _ => none
 | k + 1, p0, p1, p2 =>
  if (0 : Int) ≤ wrap64 (wrap64 (p1 * p0.2.1) + p2) then if wrap64 (wrap64 (p1 * p0.2.1) + p2) < (↑(List.length p0.2.2) : Int) then some (Prod.fst (List.getD p0.2.2 (Int.toNat (wrap64 (wrap64 (p1 * p0.2.1) + p2))) ((0 : Int), (0 : Int))), Prod.snd (List.getD p0.2.2 (Int.toNat (wrap64 (wrap64 (p1 * p0.2.1) + p2))) ((0 : Int), (0 : Int)))) else none else none
noncomputable def Z7g : FnDef := .of ZAl ZfH (Int × Int) (fun k x => Zfz k x.1 x.2.1 x.2.2.1) Zxa Zxf ZD9
noncomputable def Zpq : Code := Tryz.f133.body.getD .skip
noncomputable def ZjB : Ctx (Tup ZfH × OutD) := { T := T, G := [], mvs := [], no := 0, n := 17, res := resOf T ZAl ZfH Tryz.f133.results.toList, loops := [], regs := [], conds := [], cuts := [] }
theorem ZJq (k : Nat) : EnvOK Tryz.prog k ZjB.G := (EnvOK.nil mixed)
theorem ZIU (k : Nat) (x : Tup Z7g.ps) : Z7g.f (k + 1) x = fnK Z7g ZjB Zpq k x := by kernel_rfl
theorem ZJc (x : Tup Z7g.ps) : Z7g.f 0 x = none := by kernel_rfl
theorem ZJz (k : Nat) : LOK Tryz.prog ZjB k Zpq := LOK.by [] (by kernel_rfl) AllOK.nil
theorem ZAr (k : Nat) : SoundAt Tryz.prog k 133 Z7g.E := @Z0 Tryz.prog Z7g ZjB 133 Tryz.f133 Zpq (by kernel_rfl) (by kernel_rfl) (by kernel_rfl) Tryz.func133 (by kernel_rfl) (by kernel_rfl) (by kernel_rfl) T_ok ZJq ZJz ZJc ZIU k
noncomputable def Zd7 : List PK := [PK.mk I6 false none false none]
noncomputable def ZtY : List PK := [PK.mk P6 true none false none, PK.mk I6 false none false none]
noncomputable def Zrc (r : Int) : Tup Zd7 × OutD := ((r, ()), none)
noncomputable def ZqT : Tup Zd7 × OutD → Option (Int)
 | (a, none) => some (a.1)
 | _ => none
theorem Zyx : ∀ b r, ZqT b = some r → Zrc r = b := by
 rintro ⟨a, _ | _⟩ r h <;> cases h; rfl
noncomputable def Za7 : Nat → Int × Int → Int → Option Int
 | 0, _, _ => none
 | k + 1, p0, p1 =>
  if decide (p0.1 = 1) = true then some (-1 : Int) else if decide (p0.1 = 2) = true then some (1 : Int) else if decide (p0.1 = 3) = true then some (wrap64 (wrap64 ((2 : Int) * p0.2) - 1)) else if decide (p0.1 = 6) = true then some (wrap64 (wrap64 ((2 : Int) * p0.2) - 1)) else if decide (p0.1 = 4) = true then some (wrap64 ((0 : Int) - p1)) else some (0 : Int)
noncomputable def Z4o : FnDef := .of ZtY Zd7 (Int) (fun k x => Za7 k x.1 x.2.1) Zrc ZqT Zyx
noncomputable def Zkp : Code := Tryz.f134.body.getD .skip
noncomputable def Zgf : Ctx (Tup Zd7 × OutD) := { T := T, G := [], mvs := [], no := 0, n := 22, res := resOf T ZtY Zd7 Tryz.f134.results.toList, loops := [], regs := [], conds := [], cuts := [] }
theorem ZGp (k : Nat) : EnvOK Tryz.prog k Zgf.G := (EnvOK.nil mixed)
theorem ZHb (k : Nat) (x : Tup Z4o.ps) : Z4o.f (k + 1) x = fnK Z4o Zgf Zkp k x := by kernel_rfl
theorem ZH1 (x : Tup Z4o.ps) : Z4o.f 0 x = none := by kernel_rfl
theorem ZGh (k : Nat) : LOK Tryz.prog Zgf k Zkp := LOK.by [] (by kernel_rfl) AllOK.nil
theorem Zun (k : Nat) : SoundAt Tryz.prog k 134 Z4o.E := @Z0 Tryz.prog Z4o Zgf 134 Tryz.f134 Zkp (by kernel_rfl) (by kernel_rfl) (by kernel_rfl) Tryz.func134 (by kernel_rfl) (by kernel_rfl) (by kernel_rfl) T_ok ZGp ZGh ZH1 ZHb k
noncomputable def Zd4 : List PK := [PK.mk .bool false none false none]
noncomputable def ZtI : List PK := [PK.mk P6 true none false none]
noncomputable def Zrt (r : Bool) : Tup Zd4 × OutD := ((r, ()), none)
noncomputable def ZqJ : Tup Zd4 × OutD → Option (Bool)
 | (a, none) => some (a.1)
 | _ => none
theorem ZyH : ∀ b r, ZqJ b = some r → Zrt r = b := by
 rintro ⟨a, _ | _⟩ r h <;> cases h; rfl
noncomputable def Zd6 : Nat → Int × Int → Option Bool
 | 0, _ => none
 | k + 1, p0 =>
  if decide (p0.1 = (6 : Int)) = true then some true else some (decide (p0.1 = (7 : Int)))
noncomputable def Z5G : FnDef := .of ZtI Zd4 (Bool) (fun k x => Zd6 k x.1) Zrt ZqJ ZyH
noncomputable def Zkk : Code := Tryz.f136.body.getD .skip
noncomputable def Zge : Ctx (Tup Zd4 × OutD) := { T := T, G := [], mvs := [], no := 0, n := 11, res := resOf T ZtI Zd4 Tryz.f136.results.toList, loops := [], regs := [], conds := [], cuts := [] }
theorem ZGV (k : Nat) : EnvOK Tryz.prog k Zge.G := (EnvOK.nil mixed)
theorem ZHp (k : Nat) (x : Tup Z5G.ps) : Z5G.f (k + 1) x = fnK Z5G Zge Zkk k x := by kernel_rfl
theorem ZHt (x : Tup Z5G.ps) : Z5G.f 0 x = none := by kernel_rfl
theorem ZGP (k : Nat) : LOK Tryz.prog Zge k Zkk := LOK.by [] (by kernel_rfl) AllOK.nil
theorem ZGC (k : Nat) : SoundAt Tryz.prog k 136 Z5G.E := @Z0 Tryz.prog Z5G Zge 136 Tryz.f136 Zkk (by kernel_rfl) (by kernel_rfl) (by kernel_rfl) Tryz.func136 (by kernel_rfl) (by kernel_rfl) (by kernel_rfl) T_ok ZGV ZGP ZHt ZHp k
noncomputable def Zd1 : List PK := [PK.mk (.slice 3 I6) false none false none]
noncomputable def ZtP : List PK := [PK.mk (.pair I6 (.pair I6 (.slice 76 P6))) true none false none, PK.mk I6 false none false none]
noncomputable def ZrW (r : List Int) : Tup Zd1 × OutD := ((r, ()), none)
noncomputable def ZqC : Tup Zd1 × OutD → Option (List Int)
 | (a, none) => some (a.1)
 | _ => none
theorem Zzs : ∀ b r, ZqC b = some r → ZrW r = b := by
 rintro ⟨a, _ | _⟩ r h <;> cases h; rfl
noncomputable def Zg0 : Nat → Int × Int × List (Int × Int) → Int → Option (List Int)
 | 0, _, _ => none
 | k + 1, p0, p1 =>
  if p0.2.1 = 0 then none else if p0.2.1 = 0 then none else if decide (wrap64 (Int.tdiv p1 p0.2.1) > 0) = true then if decide (Int.tmod p1 p0.2.1 > 0) = true then if decide (wrap64 (Int.tmod p1 p0.2.1 + 1) < p0.2.1) = true then if decide (wrap64 (wrap64 (Int.tdiv p1 p0.2.1) + 1) < p0.1) = true then some ([wrap64 (p1 - p0.2.1)] ++ [wrap64 (p1 - 1)] ++ [wrap64 (p1 + 1)] ++ [wrap64 (p1 + p0.2.1)]) else some ([wrap64 (p1 - p0.2.1)] ++ [wrap64 (p1 - 1)] ++ [wrap64 (p1 + 1)]) else if decide (wrap64 (wrap64 (Int.tdiv p1 p0.2.1) + 1) < p0.1) = true then some ([wrap64 (p1 - p0.2.1)] ++ [wrap64 (p1 - 1)] ++ [wrap64 (p1 + p0.2.1)]) else some ([wrap64 (p1 - p0.2.1)] ++ [wrap64 (p1 - 1)]) else if decide (wrap64 (Int.tmod p1 p0.2.1 + 1) < p0.2.1) = true then if decide (wrap64 (wrap64 (Int.tdiv p1 p0.2.1) + 1) < p0.1) = true then some ([wrap64 (p1 - p0.2.1)] ++ [wrap64 (p1 + 1)] ++ [wrap64 (p1 + p0.2.1)]) else some ([wrap64 (p1 - p0.2.1)] ++ [wrap64 (p1 + 1)]) else if decide (wrap64 (wrap64 (Int.tdiv p1 p0.2.1) + 1) < p0.1) = true then some ([wrap64 (p1 - p0.2.1)] ++ [wrap64 (p1 + p0.2.1)]) else some [wrap64 (p1 - p0.2.1)] else if decide (Int.tmod p1 p0.2.1 > 0) = true then if decide (wrap64 (Int.tmod p1 p0.2.1 + 1) < p0.2.1) = true then if decide (wrap64 (wrap64 (Int.tdiv p1 p0.2.1) + 1) < p0.1) = true then some ([wrap64 (p1 - 1)] ++ [wrap64 (p1 + 1)] ++ [wrap64 (p1 + p0.2.1)]) else some ([wrap64 (p1 - 1)] ++ [wrap64 (p1 + 1)]) else if decide (wrap64 (wrap64 (Int.tdiv p1 p0.2.1) + 1) < p0.1) = true then some ([wrap64 (p1 - 1)] ++ [wrap64 (p1 + p0.2.1)]) else some [wrap64 (p1 - 1)] else if decide (wrap64 (Int.tmod p1 p0.2.1 + 1) < p0.2.1) = true then if decide (wrap64 (wrap64 (Int.tdiv p1 p0.2.1) + 1) < p0.1) = true then some ([wrap64 (p1 + 1)] ++ [wrap64 (p1 + p0.2.1)]) else some [wrap64 (p1 + 1)] else if decide (wrap64 (wrap64 (Int.tdiv p1 p0.2.1) + 1) < p0.1) = true then some [wrap64 (p1 + p0.2.1)] else some []
noncomputable def Z5H : FnDef := .of ZtP Zd1 (List Int) (fun k x => Zg0 k x.1 x.2.1) ZrW ZqC Zzs
noncomputable def ZkD : Code := Tryz.f137.body.getD .skip
noncomputable def Zgh : Ctx (Tup Zd1 × OutD) := { T := T, G := [], mvs := [], no := 0, n := 55, res := resOf T ZtP Zd1 Tryz.f137.results.toList, loops := [], regs := [], conds := [], cuts := [] }
theorem ZGk (k : Nat) : EnvOK Tryz.prog k Zgh.G := (EnvOK.nil mixed)
theorem ZHI (k : Nat) (x : Tup Z5H.ps) : Z5H.f (k + 1) x = fnK Z5H Zgh ZkD k x := by kernel_rfl
theorem ZGJ (x : Tup Z5H.ps) : Z5H.f 0 x = none := by kernel_rfl
theorem ZGx (k : Nat) : LOK Tryz.prog Zgh k ZkD := LOK.by [] (by kernel_rfl) AllOK.nil
theorem ZGT (k : Nat) : SoundAt Tryz.prog k 137 Z5H.E := @Z0 Tryz.prog Z5H Zgh 137 Tryz.f137 ZkD (by kernel_rfl) (by kernel_rfl) (by kernel_rfl) Tryz.func137 (by kernel_rfl) (by kernel_rfl) (by kernel_rfl) T_ok ZGk ZGx ZGJ ZHI k
noncomputable def Zde : List PK := [PK.mk I6 false none false none]
noncomputable def ZAv : List PK := [PK.mk (.slice 58 T6) false none false none, PK.mk I6 false none false none, PK.mk I6 false none false none]
noncomputable def ZmM (r : Int) : Tup Zde × OutD := ((r, ()), none)
noncomputable def Zmv : Tup Zde × OutD → Option (Int)
 | (a, none) => some (a.1)
 | _ => none
theorem Znw : ∀ b r, Zmv b = some r → ZmM r = b := by
 rintro ⟨a, _ | _⟩ r h <;> cases h; rfl
noncomputable def Z5I : Nat → Int → Int → List (Int × Int × Int) → Int → Int → Option (LR Unit Int)
 | 0, _, _, _, _, _ => none
 | k + 1, v1, v2, v9, v10, v11 =>
  if decide (v11 < v10) = true then if (0 : Int) ≤ v11 then if v11 < (↑(List.length v9) : Int) then if decide (Prod.fst (Prod.snd (List.getD v9 (Int.toNat v11) ((0 : Int), (0 : Int), (0 : Int)))) = v1) = true then if decide (Prod.snd (Prod.snd (List.getD v9 (Int.toNat v11) ((0 : Int), (0 : Int), (0 : Int)))) = v2) = true then some (LR.ret (Prod.fst (List.getD v9 (Int.toNat v11) ((0 : Int), (0 : Int), (0 : Int))))) else Z5I k v1 v2 v9 v10 (wrap64 (v11 + 1)) else Z5I k v1 v2 v9 v10 (wrap64 (v11 + 1)) else none else none else some (LR.go ())
noncomputable def Zjk : Spec := Spec.mk [.ro] [(1, .at (.int .i64)), (2, .at (.int .i64)), (9, .at (.snap 0 T6)), (10, .at (.int .i64)), (11, .at (.int .i64))]
noncomputable def ZF4 : Spec := Spec.mk [.ro] []
noncomputable def Z8W : LoopDef (Tup Zde × OutD) := .rets Zjk ZF4 (Unit) (Int) (fun k x => Z5I k x.2.1 x.2.2.1 x.2.2.2.1 x.2.2.2.2.1 x.2.2.2.2.2.1) (fun z => (((), ()), (()))) (fun y => ()) (fun _ => rfl) ZmM Zmv Znw
noncomputable def ZjC : Nat → List (Int × Int × Int) → Int → Int → Option Int
 | 0, _, _, _ => none
 | k + 1, p0, p1, p2 =>
  Option.bind (Z5I k p1 p2 p0 (↑(List.length p0) : Int) (0 : Int)) fun z0 => LR.on z0 (fun y0 => some (0 : Int)) fun r0 => some r0
noncomputable def Z8O : FnDef := .of ZAv Zde (Int) (fun k x => ZjC k x.1 x.2.1 x.2.2.1) ZmM Zmv Znw
noncomputable def ZjL : Code := Tryz.f138.body.getD .skip
noncomputable def ZaY : Ctx (Tup Zde × OutD) := { T := T, G := [], mvs := [], no := 0, n := 28, res := resOf T ZAv Zde Tryz.f138.results.toList, loops := [(0, Z8W.E)], regs := [], conds := [], cuts := [] }
theorem ZAm (k : Nat) : EnvOK Tryz.prog k ZaY.G := (EnvOK.nil mixed)
noncomputable def ZeF : Code := (findLoop 0 ZjL).getD .skip
theorem ZEL (k : Nat) (x : Zjk.D) : Z8W.lp (k + 1) x = loopK ZaY Z8W 0 ZeF k x := by kernel_rfl
theorem ZF8 (k : Nat) : LOK Tryz.prog ZaY k ZeF := LOK.by [] (by kernel_rfl) AllOK.nil
theorem ZFo (x : Zjk.D) : Z8W.lp 0 x = none := by kernel_rfl
theorem ZDU (k : Nat) : EOK Tryz.prog ZaY k Z8W.E (.block 0 (.loop ZeF)) := Z2 T_ok ZAm ZFo ZEL ZF8 k
theorem ZJC (k : Nat) (x : Tup Z8O.ps) : Z8O.f (k + 1) x = fnK Z8O ZaY ZjL k x := by kernel_rfl
theorem ZJM (x : Tup Z8O.ps) : Z8O.f 0 x = none := by kernel_rfl
theorem ZIV (k : Nat) : LOK Tryz.prog ZaY k ZjL := LOK.by [(Z8W.E, .block 0 (.loop ZeF))] (by kernel_rfl) (AllOK.cons (ZDU k) AllOK.nil)
theorem ZJF (k : Nat) : SoundAt Tryz.prog k 138 Z8O.E := @Z0 Tryz.prog Z8O ZaY 138 Tryz.f138 ZjL (by kernel_rfl) (by kernel_rfl) (by kernel_rfl) Tryz.func138 (by kernel_rfl) (by kernel_rfl) (by kernel_rfl) T_ok ZAm ZIV ZJM ZJC k
noncomputable def ZcT : List PK := [PK.mk P6 true none false none]
noncomputable def Zum : List PK := [PK.mk P6 true none false none]
noncomputable def Zrd (r : Int × Int) : Tup ZcT × OutD := ((r, ()), none)
noncomputable def Zqi : Tup ZcT × OutD → Option (Int × Int)
 | (a, none) => some (a.1)
 | _ => none
theorem Zyp : ∀ b r, Zqi b = some r → Zrd r = b := by
 rintro ⟨a, _ | _⟩ r h <;> cases h; rfl
noncomputable def ZcR : Nat → Int × Int → Option (Int × Int)
 | 0, _ => none
 | k + 1, p0 =>
  some (p0.1, wrap64 ((1 : Int) - p0.2))
noncomputable def Z5z : FnDef := .of Zum ZcT (Int × Int) (fun k x => ZcR k x.1) Zrd Zqi Zyp
noncomputable def ZkA : Code := Tryz.f139.body.getD .skip
noncomputable def Zgd : Ctx (Tup ZcT × OutD) := { T := T, G := [], mvs := [], no := 0, n := 9, res := resOf T Zum ZcT Tryz.f139.results.toList, loops := [], regs := [], conds := [], cuts := [] }
theorem ZGG (k : Nat) : EnvOK Tryz.prog k Zgd.G := (EnvOK.nil mixed)
theorem ZH6 (k : Nat) (x : Tup Z5z.ps) : Z5z.f (k + 1) x = fnK Z5z Zgd ZkA k x := by kernel_rfl
theorem ZH8 (x : Tup Z5z.ps) : Z5z.f 0 x = none := by kernel_rfl
theorem ZGH (k : Nat) : LOK Tryz.prog Zgd k ZkA := LOK.by [] (by kernel_rfl) AllOK.nil
theorem ZHj (k : Nat) : SoundAt Tryz.prog k 139 Z5z.E := @Z0 Tryz.prog Z5z Zgd 139 Tryz.f139 ZkA (by kernel_rfl) (by kernel_rfl) (by kernel_rfl) Tryz.func139 (by kernel_rfl) (by kernel_rfl) (by kernel_rfl) T_ok ZGG ZGH ZH8 ZH6 k
end
end Go.Proofs.YtmhfhiofcoggbaaGreat.Vs
