/- The proof, part 5. -/
import Derived.Test.Ytgjmhbjdhihgaaaqgm3
set_option maxRecDepth 100000
set_option maxHeartbeats 2000000
set_option linter.unusedVariables false
set_option linter.unusedSimpArgs false
namespace Go.Proofs.Ytgjmhbjdhihgaaa.Vs
open Go.RowKit
noncomputable section
noncomputable def ZaM : List PK := [PK.mk Ty.bool false none false none]
noncomputable def ZuP : List PK := [PK.mk (Ty.slice (63 : Nat) (Ty.pair (Ty.int .i64) (Ty.pair (Ty.int .i64) (Ty.int .i64)))) false none false none, PK.mk (Ty.slice (63 : Nat) (Ty.pair (Ty.int .i64) (Ty.pair (Ty.int .i64) (Ty.int .i64)))) false none false none]
noncomputable def Zjc (r : Bool) : Tup ZaM × OutD := ((r, ()), none)
noncomputable def Zja : Tup ZaM × OutD → Option (Bool)
 | (a, none) => some (a.1)
 | _ => none
theorem ZlD : ∀ b r, Zja b = some r → Zjc r = b := by
 rintro ⟨a, o⟩ r h
 cases o with
 | none => injection h with h; subst h; rfl
 | some _ => cases h
noncomputable def Z8m : Nat → List (Int × Int × Int) → List (Int × Int × Int) → Int → Int → Option (LR Unit Bool)
 | 0, _, _, _, _ => none
 | k + 1, v0, v1, v12, v13 =>
  if decide (v13 < v12) = true then if (0 : Int) ≤ v13 then if v13 < (↑(List.length v0) : Int) then if (0 : Int) ≤ v13 then if v13 < (↑(List.length v1) : Int) then if (!(decide (Prod.fst (List.getD v0 (Int.toNat v13) ((0 : Int), (0 : Int), (0 : Int))) = Prod.fst (List.getD v1 (Int.toNat v13) ((0 : Int), (0 : Int), (0 : Int)))) && (decide (Prod.fst (Prod.snd (List.getD v0 (Int.toNat v13) ((0 : Int), (0 : Int), (0 : Int)))) = Prod.fst (Prod.snd (List.getD v1 (Int.toNat v13) ((0 : Int), (0 : Int), (0 : Int))))) && (decide (Prod.snd (Prod.snd (List.getD v0 (Int.toNat v13) ((0 : Int), (0 : Int), (0 : Int)))) = Prod.snd (Prod.snd (List.getD v1 (Int.toNat v13) ((0 : Int), (0 : Int), (0 : Int))))) && true)))) = true then some (LR.ret false) else Z8m k v0 v1 v12 (wrap64 (v13 + (1 : Int))) else none else none else none else none else some (LR.go ())
noncomputable def ZgJ : Spec := Spec.mk [OSh.ro] [((0 : Nat), TSh.at (Sh.snap (0 : Nat) (Ty.pair (Ty.int .i64) (Ty.pair (Ty.int .i64) (Ty.int .i64))))), ((1 : Nat), TSh.at (Sh.snap (0 : Nat) (Ty.pair (Ty.int .i64) (Ty.pair (Ty.int .i64) (Ty.int .i64))))), ((12 : Nat), TSh.at (Sh.int .i64)), ((13 : Nat), TSh.at (Sh.int .i64))]
noncomputable def ZBc : Spec := Spec.mk [OSh.ro] []
noncomputable def Z7v : LoopDef (Tup ZaM × OutD) := .rets ZgJ ZBc (Unit) (Bool) (fun k x => Z8m k x.2.1 x.2.2.1 x.2.2.2.1 x.2.2.2.2.1) (fun z => (((), ()), (()))) (fun y => ()) (fun _ => rfl) Zjc Zja ZlD
noncomputable def Zdj : Nat → List (Int × Int × Int) → List (Int × Int × Int) → Option Bool
 | 0, _, _ => none
 | k + 1, p0, p1 =>
  if decide ((↑(List.length p0) : Int) ≠ (↑(List.length p1) : Int)) = true then some false else Option.bind (Z8m k p0 p1 (↑(List.length p0) : Int) (0 : Int)) fun z0 => LR.on z0 (fun y0 => some true) fun r0 => some r0
noncomputable def Z56 : FnDef := .of ZuP ZaM (Bool) (fun k x => Zdj k x.1 x.2.1) Zjc Zja ZlD
noncomputable def Zg8 : Code := Try.f49.body.getD .skip
noncomputable def Z8C : Ctx (Tup ZaM × OutD) := { T := T, G := [], mvs := [], no := 0, n := 26, res := resOf T ZuP ZaM Try.f49.results.toList, loops := [(0, Z7v.E)], regs := [], conds := [] }
theorem Zua (k : Nat) : EnvOK Try.prog k Z8C.G := (EnvOK.nil mixed)
noncomputable def ZcS : Code := (findLoop 0 Zg8).getD .skip
theorem ZAY (k : Nat) (x : ZgJ.D) : Z7v.lp (k + 1) x = loopK Z8C Z7v 0 ZcS k x := by kernel_rfl
theorem ZC6 (k : Nat) : LOK Try.prog Z8C k ZcS := LOK.by [] (by kernel_rfl) AllOK.nil
theorem ZBW (x : ZgJ.D) : Z7v.lp 0 x = none := by kernel_rfl
theorem ZyU (k : Nat) : EOK Try.prog Z8C k Z7v.E (.block 0 (.loop ZcS)) := Z7 T_ok Zua ZBW ZAY ZC6 k
theorem ZG6 (k : Nat) (x : Tup Z56.ps) : Z56.f (k + 1) x = fnK Z56 Z8C Zg8 k x := by kernel_rfl
theorem ZGv (x : Tup Z56.ps) : Z56.f 0 x = none := by kernel_rfl
theorem ZGz (k : Nat) : LOK Try.prog Z8C k Zg8 := LOK.by [(Z7v.E, .block 0 (.loop ZcS))] (by kernel_rfl) (AllOK.cons (ZyU k) AllOK.nil)
theorem Zv0 (k : Nat) : SoundAt Try.prog k 49 Z56.E := @Z4 Try.prog Z56 Z8C 49 Try.f49 Zg8 (by kernel_rfl) (by kernel_rfl) (by kernel_rfl) Try.func49 (by kernel_rfl) (by kernel_rfl) (by kernel_rfl) T_ok Zua ZGz ZGv ZG6 k
noncomputable def Zc9 : List PK := [PK.mk Ty.bool false none false none]
noncomputable def Zyc : List PK := [PK.mk (Ty.slice (3 : Nat) (Ty.int .i64)) false none false none, PK.mk (Ty.slice (3 : Nat) (Ty.int .i64)) false none false none]
noncomputable def ZkB (r : Bool) : Tup Zc9 × OutD := ((r, ()), none)
noncomputable def ZkE : Tup Zc9 × OutD → Option (Bool)
 | (a, none) => some (a.1)
 | _ => none
theorem Zno : ∀ b r, ZkE b = some r → ZkB r = b := by
 rintro ⟨a, o⟩ r h
 cases o with
 | none => injection h with h; subst h; rfl
 | some _ => cases h
noncomputable def Z9z : Nat → List Int → List Int → Int → Int → Option (LR Unit Bool)
 | 0, _, _, _, _ => none
 | k + 1, v0, v1, v12, v13 =>
  if decide (v13 < v12) = true then if (0 : Int) ≤ v13 then if v13 < (↑(List.length v0) : Int) then if (0 : Int) ≤ v13 then if v13 < (↑(List.length v1) : Int) then if decide (List.getD v0 (Int.toNat v13) (0 : Int) ≠ List.getD v1 (Int.toNat v13) (0 : Int)) = true then some (LR.ret false) else Z9z k v0 v1 v12 (wrap64 (v13 + (1 : Int))) else none else none else none else none else some (LR.go ())
noncomputable def Zib : Spec := Spec.mk [OSh.ro] [((0 : Nat), TSh.at (Sh.snap (0 : Nat) (Ty.int .i64))), ((1 : Nat), TSh.at (Sh.snap (0 : Nat) (Ty.int .i64))), ((12 : Nat), TSh.at (Sh.int .i64)), ((13 : Nat), TSh.at (Sh.int .i64))]
noncomputable def ZDk : Spec := Spec.mk [OSh.ro] []
noncomputable def Z8d : LoopDef (Tup Zc9 × OutD) := .rets Zib ZDk (Unit) (Bool) (fun k x => Z9z k x.2.1 x.2.2.1 x.2.2.2.1 x.2.2.2.2.1) (fun z => (((), ()), (()))) (fun y => ()) (fun _ => rfl) ZkB ZkE Zno
noncomputable def Za9 : Nat → List Int → List Int → Option Bool
 | 0, _, _ => none
 | k + 1, p0, p1 =>
  if decide ((↑(List.length p0) : Int) ≠ (↑(List.length p1) : Int)) = true then some false else Option.bind (Z9z k p0 p1 (↑(List.length p0) : Int) (0 : Int)) fun z0 => LR.on z0 (fun y0 => some true) fun r0 => some r0
noncomputable def Z6b : FnDef := .of Zyc Zc9 (Bool) (fun k x => Za9 k x.1 x.2.1) ZkB ZkE Zno
noncomputable def ZhJ : Code := Try.f87.body.getD .skip
noncomputable def Za8 : Ctx (Tup Zc9 × OutD) := { T := T, G := [], mvs := [], no := 0, n := 26, res := resOf T Zyc Zc9 Try.f87.results.toList, loops := [(0, Z8d.E)], regs := [], conds := [] }
theorem Zxw (k : Nat) : EnvOK Try.prog k Za8.G := (EnvOK.nil mixed)
noncomputable def ZdS : Code := (findLoop 0 ZhJ).getD .skip
theorem ZD4 (k : Nat) (x : Zib.D) : Z8d.lp (k + 1) x = loopK Za8 Z8d 0 ZdS k x := by kernel_rfl
theorem ZCv (k : Nat) : LOK Try.prog Za8 k ZdS := LOK.by [] (by kernel_rfl) AllOK.nil
theorem ZDc (x : Zib.D) : Z8d.lp 0 x = none := by kernel_rfl
theorem ZBJ (k : Nat) : EOK Try.prog Za8 k Z8d.E (.block 0 (.loop ZdS)) := Z7 T_ok Zxw ZDc ZD4 ZCv k
theorem ZHo (k : Nat) (x : Tup Z6b.ps) : Z6b.f (k + 1) x = fnK Z6b Za8 ZhJ k x := by kernel_rfl
theorem ZGT (x : Tup Z6b.ps) : Z6b.f 0 x = none := by kernel_rfl
theorem ZHB (k : Nat) : LOK Try.prog Za8 k ZhJ := LOK.by [(Z8d.E, .block 0 (.loop ZdS))] (by kernel_rfl) (AllOK.cons (ZBJ k) AllOK.nil)
theorem ZxF (k : Nat) : SoundAt Try.prog k 87 Z6b.E := @Z4 Try.prog Z6b Za8 87 Try.f87 ZhJ (by kernel_rfl) (by kernel_rfl) (by kernel_rfl) Try.func87 (by kernel_rfl) (by kernel_rfl) (by kernel_rfl) T_ok Zxw ZHB ZGT ZHo k
noncomputable def Zdy : List PK := [PK.mk Ty.bool false none false none]
noncomputable def ZAn : List PK := [PK.mk (Ty.slice (3 : Nat) (Ty.int .i64)) false none false none, PK.mk (Ty.int .i64) false none false none]
noncomputable def Zo9 (r : Bool) : Tup Zdy × OutD := ((r, ()), none)
noncomputable def Zog : Tup Zdy × OutD → Option (Bool)
 | (a, none) => some (a.1)
 | _ => none
theorem Zpo : ∀ b r, Zog b = some r → Zo9 r = b := by
 rintro ⟨a, o⟩ r h
 cases o with
 | none => injection h with h; subst h; rfl
 | some _ => cases h
noncomputable def ZaP : Nat → Int → List Int → Int → Int → Option (LR Unit Bool)
 | 0, _, _, _, _ => none
 | k + 1, v1, v7, v8, v9 =>
  if decide (v9 < v8) = true then if (0 : Int) ≤ v9 then if v9 < (↑(List.length v7) : Int) then if decide (List.getD v7 (Int.toNat v9) (0 : Int) = v1) = true then some (LR.ret true) else ZaP k v1 v7 v8 (wrap64 (v9 + (1 : Int))) else none else none else some (LR.go ())
noncomputable def Zjn : Spec := Spec.mk [OSh.ro] [((1 : Nat), TSh.at (Sh.int .i64)), ((7 : Nat), TSh.at (Sh.snap (0 : Nat) (Ty.int .i64))), ((8 : Nat), TSh.at (Sh.int .i64)), ((9 : Nat), TSh.at (Sh.int .i64))]
noncomputable def ZEn : Spec := Spec.mk [OSh.ro] []
noncomputable def Z9N : LoopDef (Tup Zdy × OutD) := .rets Zjn ZEn (Unit) (Bool) (fun k x => ZaP k x.2.1 x.2.2.1 x.2.2.2.1 x.2.2.2.2.1) (fun z => (((), ()), (()))) (fun y => ()) (fun _ => rfl) Zo9 Zog Zpo
noncomputable def Zbi : Nat → List Int → Int → Option Bool
 | 0, _, _ => none
 | k + 1, p0, p1 =>
  Option.bind (ZaP k p1 p0 (↑(List.length p0) : Int) (0 : Int)) fun z0 => LR.on z0 (fun y0 => some false) fun r0 => some r0
noncomputable def Z9x : FnDef := .of ZAn Zdy (Bool) (fun k x => Zbi k x.1 x.2.1) Zo9 Zog Zpo
noncomputable def ZjC : Code := Try.f89.body.getD .skip
noncomputable def Zbj : Ctx (Tup Zdy × OutD) := { T := T, G := [], mvs := [], no := 0, n := 17, res := resOf T ZAn Zdy Try.f89.results.toList, loops := [(0, Z9N.E)], regs := [], conds := [] }
theorem ZAE (k : Nat) : EnvOK Try.prog k Zbj.G := (EnvOK.nil mixed)
noncomputable def Zfd : Code := (findLoop 0 ZjC).getD .skip
theorem ZEP (k : Nat) (x : Zjn.D) : Z9N.lp (k + 1) x = loopK Zbj Z9N 0 Zfd k x := by kernel_rfl
theorem ZEA (k : Nat) : LOK Try.prog Zbj k Zfd := LOK.by [] (by kernel_rfl) AllOK.nil
theorem ZEK (x : Zjn.D) : Z9N.lp 0 x = none := by kernel_rfl
theorem ZDW (k : Nat) : EOK Try.prog Zbj k Z9N.E (.block 0 (.loop Zfd)) := Z7 T_ok ZAE ZEK ZEP ZEA k
theorem ZIq (k : Nat) (x : Tup Z9x.ps) : Z9x.f (k + 1) x = fnK Z9x Zbj ZjC k x := by kernel_rfl
theorem ZHO (x : Tup Z9x.ps) : Z9x.f 0 x = none := by kernel_rfl
theorem ZHN (k : Nat) : LOK Try.prog Zbj k ZjC := LOK.by [(Z9N.E, .block 0 (.loop Zfd))] (by kernel_rfl) (AllOK.cons (ZDW k) AllOK.nil)
theorem ZI8 (k : Nat) : SoundAt Try.prog k 89 Z9x.E := @Z4 Try.prog Z9x Zbj 89 Try.f89 ZjC (by kernel_rfl) (by kernel_rfl) (by kernel_rfl) Try.func89 (by kernel_rfl) (by kernel_rfl) (by kernel_rfl) T_ok ZAE ZHN ZHO ZIq k
noncomputable def Zg0 : List PK := [PK.mk Ty.bool false none false none]
noncomputable def ZAq : List PK := [PK.mk (Ty.int .i64) false none false none, PK.mk (Ty.int .i64) false none false none, PK.mk (Ty.int .i64) false none false none]
noncomputable def ZxP (r : Bool) : Tup Zg0 × OutD := ((r, ()), none)
noncomputable def ZxV : Tup Zg0 × OutD → Option (Bool)
 | (a, none) => some (a.1)
 | _ => none
theorem ZDL : ∀ b r, ZxV b = some r → ZxP r = b := by
 rintro ⟨a, o⟩ r h
 cases o with
 | none => injection h with h; subst h; rfl
 | some _ => cases h
noncomputable def Z5Q : Nat → Int → Int → Int → Option Bool
 | 0, _, _, _ => none
 | k + 1, p0, p1, p2 =>
  if decide (p0 ≥ p1) = true then some (decide (p0 ≤ p2)) else some false
noncomputable def Z3K : FnDef := .of ZAq Zg0 (Bool) (fun k x => Z5Q k x.1 x.2.1 x.2.2.1) ZxP ZxV ZDL
noncomputable def Zq3 : Code := Try.f96.body.getD .skip
noncomputable def Zjv : Ctx (Tup Zg0 × OutD) := { T := T, G := [], mvs := [], no := 0, n := 15, res := resOf T ZAq Zg0 Try.f96.results.toList, loops := [], regs := [], conds := [] }
theorem ZHZ (k : Nat) : EnvOK Try.prog k Zjv.G := (EnvOK.nil mixed)
theorem ZIA (k : Nat) (x : Tup Z3K.ps) : Z3K.f (k + 1) x = fnK Z3K Zjv Zq3 k x := by kernel_rfl
theorem ZI5 (x : Tup Z3K.ps) : Z3K.f 0 x = none := by kernel_rfl
theorem ZIz (k : Nat) : LOK Try.prog Zjv k Zq3 := LOK.by [] (by kernel_rfl) AllOK.nil
theorem ZfU (k : Nat) : SoundAt Try.prog k 96 Z3K.E := @Z4 Try.prog Z3K Zjv 96 Try.f96 Zq3 (by kernel_rfl) (by kernel_rfl) (by kernel_rfl) Try.func96 (by kernel_rfl) (by kernel_rfl) (by kernel_rfl) T_ok ZHZ ZIz ZI5 ZIA k
noncomputable def Zds : List PK := [PK.mk (Ty.int .i64) false none false none]
noncomputable def ZuR : List PK := [PK.mk (Ty.int .i64) false none false none, PK.mk (Ty.int .i64) false none false none]
noncomputable def ZqB (r : Int) : Tup Zds × OutD := ((r, ()), none)
noncomputable def Zqw : Tup Zds × OutD → Option (Int)
 | (a, none) => some (a.1)
 | _ => none
theorem ZyO : ∀ b r, Zqw b = some r → ZqB r = b := by
 rintro ⟨a, o⟩ r h
 cases o with
 | none => injection h with h; subst h; rfl
 | some _ => cases h
noncomputable def ZaQ : Nat → Int → Int → Option Int
 | 0, _, _ => none
 | k + 1, p0, p1 =>
  if decide (p0 > p1) = true then some p0 else some p1
noncomputable def Z6C : FnDef := .of ZuR Zds (Int) (fun k x => ZaQ k x.1 x.2.1) ZqB Zqw ZyO
noncomputable def ZkF : Code := Try.f115.body.getD .skip
noncomputable def Zgn : Ctx (Tup Zds × OutD) := { T := T, G := [], mvs := [], no := 0, n := 10, res := resOf T ZuR Zds Try.f115.results.toList, loops := [], regs := [], conds := [] }
theorem ZGc (k : Nat) : EnvOK Try.prog k Zgn.G := (EnvOK.nil mixed)
theorem ZFQ (k : Nat) (x : Tup Z6C.ps) : Z6C.f (k + 1) x = fnK Z6C Zgn ZkF k x := by kernel_rfl
theorem ZGk (x : Tup Z6C.ps) : Z6C.f 0 x = none := by kernel_rfl
theorem ZGx (k : Nat) : LOK Try.prog Zgn k ZkF := LOK.by [] (by kernel_rfl) AllOK.nil
theorem ZGa (k : Nat) : SoundAt Try.prog k 115 Z6C.E := @Z4 Try.prog Z6C Zgn 115 Try.f115 ZkF (by kernel_rfl) (by kernel_rfl) (by kernel_rfl) Try.func115 (by kernel_rfl) (by kernel_rfl) (by kernel_rfl) T_ok ZGc ZGx ZGk ZFQ k
noncomputable def Z7c : List PK := [PK.mk (Ty.pair (Ty.int .i64) (Ty.pair (Ty.int .i64) (Ty.slice (79 : Nat) (Ty.pair (Ty.int .i64) (Ty.int .i64))))) true none false none]
noncomputable def Zn7 : List PK := [PK.mk (Ty.pair (Ty.int .i64) (Ty.pair (Ty.int .i64) (Ty.slice (79 : Nat) (Ty.pair (Ty.int .i64) (Ty.int .i64))))) true none false none]
noncomputable def ZlI (r : Int × Int × List (Int × Int)) : Tup Z7c × OutD := ((r, ()), none)
noncomputable def ZlS : Tup Z7c × OutD → Option (Int × Int × List (Int × Int))
 | (a, none) => some (a.1)
 | _ => none
theorem ZtI : ∀ b r, ZlS b = some r → ZlI r = b := by
 rintro ⟨a, o⟩ r h
 cases o with
 | none => injection h with h; subst h; rfl
 | some _ => cases h
noncomputable def Z4Q : Nat → Int → Int → List (Int × Int) → Int → Int → List (Int × Int) → Option (Int × Int × List (Int × Int)) := fun k b1_0 b1_1 b1_2 b2_0 b2_1 o3 =>
    if (0 : Nat) + List.length b1_2 ≤ (140737488355328 / 16 : Nat) then some (b1_0, b1_1, b1_2) else none
noncomputable def Z9h : Nat → Int → Int → List (Int × Int) → Int → Int → List (Int × Int) → Option (List (Int × Int × List (Int × Int))) := fun k b1_0 b1_1 b1_2 b2_0 b2_1 o3 =>
    joinL (joinL (if (0 : Nat) + List.length b1_2 ≤ (140737488355328 / 16 : Nat) then some [(b1_0, b1_1, b1_2)] else none) (joinL (if (0 : Nat) + List.length b1_2 ≤ (140737488355328 / 16 : Nat) then some [(b1_0, b1_1, b1_2)] else none) (if (0 : Nat) + List.length b1_2 ≤ (140737488355328 / 16 : Nat) then some [(b1_0, b1_1, b1_2)] else none))) (joinL (joinL (if (0 : Nat) + List.length b1_2 ≤ (140737488355328 / 16 : Nat) then some [(b1_0, b1_1, b1_2)] else none) (joinL (if (0 : Nat) + List.length b1_2 ≤ (140737488355328 / 16 : Nat) then some [(b1_0, b1_1, b1_2)] else none) (if (0 : Nat) + List.length b1_2 ≤ (140737488355328 / 16 : Nat) then some [(b1_0, b1_1, b1_2)] else none))) (joinL (joinL (if (0 : Nat) + List.length b1_2 ≤ (140737488355328 / 16 : Nat) then some [(b1_0, b1_1, b1_2)] else none) (if (0 : Nat) + List.length b1_2 ≤ (140737488355328 / 16 : Nat) then some [(b1_0, b1_1, b1_2)] else none)) (joinL (joinL (if (0 : Nat) + List.length b1_2 ≤ (140737488355328 / 16 : Nat) then some [(b1_0, b1_1, b1_2)] else none) (if (0 : Nat) + List.length b1_2 ≤ (140737488355328 / 16 : Nat) then some [(b1_0, b1_1, b1_2)] else none)) (if (0 : Nat) + List.length b1_2 ≤ (140737488355328 / 16 : Nat) then joinL (some [(b1_0, b1_1, b1_2)]) (some [(b1_0, b1_1, b1_2)]) else none))))
noncomputable def Zi1 : Spec := Spec.mk [OSh.ro, OSh.box (53 : Nat) [Sh.int .i64, Sh.int .i64, Sh.snap (0 : Nat) (Ty.pair (Ty.int .i64) (Ty.int .i64))], OSh.box (53 : Nat) [Sh.int .i64, Sh.int .i64, Sh.sl (3 : Nat)], OSh.row true (79 : Nat) (Ty.pair (Ty.int .i64) (Ty.int .i64))] [((1 : Nat), TSh.at (Sh.ptr (1 : Nat) (0 : Nat))), ((2 : Nat), TSh.at (Sh.ptr (2 : Nat) (0 : Nat)))]
noncomputable def Zsy : Spec := Spec.mk [OSh.ro, OSh.box (53 : Nat) [Sh.int .i64, Sh.int .i64, Sh.sl (2 : Nat)], OSh.row true (79 : Nat) (Ty.pair (Ty.int .i64) (Ty.int .i64))] [((2 : Nat), TSh.at (Sh.ptr (1 : Nat) (0 : Nat)))]
noncomputable def Z4b : LoopDef (Tup Z7c × OutD) := .plain Zi1 Zsy (Int × Int × List (Int × Int)) (fun k x => Z4Q k x.1.2.1.1 x.1.2.1.2.1 x.1.2.1.2.2.1 x.1.2.2.1.1 x.1.2.2.1.2.1 x.1.2.2.2.1) (fun z => (((), (z.1, z.2.1, (), ()), z.2.2, ()), ((), ()))) (fun y => (y.1.2.1.1, y.1.2.1.2.1, y.1.2.2.1)) (fun _ => rfl)
theorem Ztl (k : Nat) (b1_0 : Int) (b1_1 : Int) (b1_2 : List (Int × Int)) (b2_0 : Int) (b2_1 : Int) (o3 : List (Int × Int)) : Z9h k b1_0 b1_1 b1_2 b2_0 b2_1 o3 = repl 12 (Z4Q k b1_0 b1_1 b1_2 b2_0 b2_1 o3) := by
 first
 | (simp only [Z9h, Z4Q, Zz, ZT, Zx, Zy, Zw, Za, if_true]; done)
 | (simp only [Z9h, Z4Q, Zz, ZT, Zx, Zy, Zw, Za, if_true]; simp only [Z2E, Z2G, Z5g, Za]; simp only [Z72]; exact Z3w ⟨fun h => by simp only [h, and_self], fun h => by simp only [h, and_self]⟩)
noncomputable def ZcE : Nat → Int × Int × List (Int × Int) → Option (Int × Int × List (Int × Int))
 | 0, _ => none
 | k + 1, p0 =>
  Option.bind (Z4Q k p0.1 p0.2.1 p0.2.2 (0 : Int) (0 : Int) []) fun z0 => some (Prod.fst z0, Prod.fst z0.2, Prod.snd z0.2)
noncomputable def Z3F : FnDef := .of Zn7 Z7c (Int × Int × List (Int × Int)) (fun k x => ZcE k x.1) ZlI ZlS ZtI
noncomputable def Zd2 : Code := Try.f127.body.getD .skip
noncomputable def Z1V : Ctx (Tup Z7c × OutD) := { T := T, G := [], mvs := [], no := 0, n := 12, res := resOf T Zn7 Z7c Try.f127.results.toList, loops := [], regs := [(1, Z4b.E)], conds := [] }
theorem Zo5 (k : Nat) : EnvOK Try.prog k Z1V.G := (EnvOK.nil mixed)
noncomputable def Zd8 : Array Oper := (findReg 1 Zd2).getD #[]
theorem Zsw (k : Nat) (x : Zi1.D) : execD Z1V.T Z1V.G Z1V.mvs k Zd8 (Z4b.inp.st Z1V.n x) (outK Z1V Z4b) = Z9h k x.1.2.1.1 x.1.2.1.2.1 x.1.2.1.2.2.1 x.1.2.2.1.1 x.1.2.2.1.2.1 x.1.2.2.2.1 := by kernel_rfl
theorem Zqq (k : Nat) : EOK Try.prog Z1V k Z4b.E (.region 1 Zd8 true) := Z9Z (D := Z4b) (m := 12) T_ok (Zo5 k) (fun x => (Zsw k x).trans (Ztl k x.1.2.1.1 x.1.2.1.2.1 x.1.2.1.2.2.1 x.1.2.2.1.1 x.1.2.2.1.2.1 x.1.2.2.2.1))
theorem ZCb (k : Nat) (x : Tup Z3F.ps) : Z3F.f (k + 1) x = fnK Z3F Z1V Zd2 k x := by kernel_rfl
theorem ZBl (x : Tup Z3F.ps) : Z3F.f 0 x = none := by kernel_rfl
theorem ZCc (k : Nat) : LOK Try.prog Z1V k Zd2 := LOK.by [(Z4b.E, .region 1 Zd8 true)] (by kernel_rfl) (AllOK.cons (Zqq k) AllOK.nil)
theorem ZC4 (k : Nat) : SoundAt Try.prog k 127 Z3F.E := @Z4 Try.prog Z3F Z1V 127 Try.f127 Zd2 (by kernel_rfl) (by kernel_rfl) (by kernel_rfl) Try.func127 (by kernel_rfl) (by kernel_rfl) (by kernel_rfl) T_ok Zo5 ZCc ZBl ZCb k
noncomputable def Z4I : List PK := [PK.mk (Ty.slice (3 : Nat) (Ty.int .i64)) false none false none]
noncomputable def ZiV : List PK := [PK.mk (Ty.pair (Ty.int .i64) (Ty.pair (Ty.int .i64) (Ty.slice (79 : Nat) (Ty.pair (Ty.int .i64) (Ty.int .i64))))) true none false none, PK.mk (Ty.slice (77 : Nat) (Ty.pair (Ty.int .i64) (Ty.pair (Ty.int .i64) (Ty.int .i64)))) false none false none]
noncomputable def ZhK (r : List Int) : Tup Z4I × OutD := ((r, ()), none)
noncomputable def Zi4 : Tup Z4I × OutD → Option (List Int)
 | (a, none) => some (a.1)
 | _ => none
theorem Zov : ∀ b r, Zi4 b = some r → ZhK r = b := by
 rintro ⟨a, o⟩ r h
 cases o with
 | none => injection h with h; subst h; rfl
 | some _ => cases h
noncomputable def Z3m : Nat → Int → Int → List (Int × Int) → List Int → List (Int × Int × Int) → Int → Int → Option (List Int)
 | 0, _, _, _, _, _, _, _ => none
 | k + 1, b1_0, b1_1, b1_2, o2, v12, v13, v14 =>
  if decide (v14 < v13) = true then if (0 : Int) ≤ v14 then if v14 < (↑(List.length v12) : Int) then if (0 : Int) ≤ wrap64 (wrap64 (Prod.fst (Prod.snd (List.getD v12 (Int.toNat v14) ((0 : Int), (0 : Int), (0 : Int)))) * b1_1) + Prod.snd (Prod.snd (List.getD v12 (Int.toNat v14) ((0 : Int), (0 : Int), (0 : Int))))) then if wrap64 (wrap64 (Prod.fst (Prod.snd (List.getD v12 (Int.toNat v14) ((0 : Int), (0 : Int), (0 : Int)))) * b1_1) + Prod.snd (Prod.snd (List.getD v12 (Int.toNat v14) ((0 : Int), (0 : Int), (0 : Int))))) < (↑(List.length o2) : Int) then Z3m k b1_0 b1_1 b1_2 (List.set o2 (Int.toNat (wrap64 (wrap64 (Prod.fst (Prod.snd (List.getD v12 (Int.toNat v14) ((0 : Int), (0 : Int), (0 : Int)))) * b1_1) + Prod.snd (Prod.snd (List.getD v12 (Int.toNat v14) ((0 : Int), (0 : Int), (0 : Int))))))) (Prod.fst (List.getD v12 (Int.toNat v14) ((0 : Int), (0 : Int), (0 : Int))))) v12 v13 (wrap64 (v14 + (1 : Int))) else none else none else none else none else some o2
noncomputable def Zbt : Spec := Spec.mk [OSh.ro, OSh.box (53 : Nat) [Sh.int .i64, Sh.int .i64, Sh.snap (0 : Nat) (Ty.pair (Ty.int .i64) (Ty.int .i64))], OSh.row true (3 : Nat) (Ty.int .i64)] [((2 : Nat), TSh.at (Sh.ptr (1 : Nat) (0 : Nat))), ((5 : Nat), TSh.at (Sh.sl (2 : Nat))), ((12 : Nat), TSh.at (Sh.snap (0 : Nat) (Ty.pair (Ty.int .i64) (Ty.pair (Ty.int .i64) (Ty.int .i64))))), ((13 : Nat), TSh.at (Sh.int .i64)), ((14 : Nat), TSh.at (Sh.int .i64))]
noncomputable def Zqb : Spec := Spec.mk [OSh.ro, OSh.row true (3 : Nat) (Ty.int .i64)] [((5 : Nat), TSh.at (Sh.sl (1 : Nat)))]
noncomputable def Z2P : LoopDef (Tup Z4I × OutD) := .plain Zbt Zqb (List Int) (fun k x => Z3m k x.1.2.1.1 x.1.2.1.2.1 x.1.2.1.2.2.1 x.1.2.2.1 x.2.2.2.1 x.2.2.2.2.1 x.2.2.2.2.2.1) (fun z => (((), z, ()), ((), ()))) (fun y => (y.1.2.1)) (fun _ => rfl)
noncomputable def Zay : Nat → Int × Int × List (Int × Int) → List (Int × Int × Int) → Option (List Int)
 | 0, _, _ => none
 | k + 1, p0, p1 =>
  if Int.toNat (↑(List.length p0.2.2) : Int) * (8 : Nat) ≤ (281474976710656 : Nat) then Option.bind (Z3m k p0.1 p0.2.1 p0.2.2 (List.replicate (Int.toNat (↑(List.length p0.2.2) : Int)) (0 : Int)) p1 (↑(List.length p1) : Int) (0 : Int)) fun z0 => some z0 else none
noncomputable def Z27 : FnDef := .of ZiV Z4I (List Int) (fun k x => Zay k x.1 x.2.1) ZhK Zi4 Zov
noncomputable def Zar : Code := Try.f129.body.getD .skip
noncomputable def Z3c : Ctx (Tup Z4I × OutD) := { T := T, G := [], mvs := [], no := 0, n := 32, res := resOf T ZiV Z4I Try.f129.results.toList, loops := [(0, Z2P.E)], regs := [], conds := [] }
theorem ZiE (k : Nat) : EnvOK Try.prog k Z3c.G := (EnvOK.nil mixed)
noncomputable def Z7z : Code := (findLoop 0 Zar).getD .skip
theorem Zq4 (k : Nat) (x : Zbt.D) : Z2P.lp (k + 1) x = loopK Z3c Z2P 0 Z7z k x := by kernel_rfl
theorem Zqo (k : Nat) : LOK Try.prog Z3c k Z7z := LOK.by [] (by kernel_rfl) AllOK.nil
theorem ZpJ (x : Zbt.D) : Z2P.lp 0 x = none := by kernel_rfl
theorem ZoG (k : Nat) : EOK Try.prog Z3c k Z2P.E (.block 0 (.loop Z7z)) := Z7 T_ok ZiE ZpJ Zq4 Zqo k
theorem Zv8 (k : Nat) (x : Tup Z27.ps) : Z27.f (k + 1) x = fnK Z27 Z3c Zar k x := by kernel_rfl
theorem Zwq (x : Tup Z27.ps) : Z27.f 0 x = none := by kernel_rfl
theorem Zw9 (k : Nat) : LOK Try.prog Z3c k Zar := LOK.by [(Z2P.E, .block 0 (.loop Z7z))] (by kernel_rfl) (AllOK.cons (ZoG k) AllOK.nil)
theorem Zv4 (k : Nat) : SoundAt Try.prog k 129 Z27.E := @Z4 Try.prog Z27 Z3c 129 Try.f129 Zar (by kernel_rfl) (by kernel_rfl) (by kernel_rfl) Try.func129 (by kernel_rfl) (by kernel_rfl) (by kernel_rfl) T_ok ZiE Zw9 Zwq Zv8 k
noncomputable def Z6W : List PK := [PK.mk (Ty.slice (3 : Nat) (Ty.int .i64)) false none false none]
noncomputable def Zo8 : List PK := [PK.mk (Ty.slice (34 : Nat) (Ty.slice (3 : Nat) (Ty.int .i64))) false none false none]
noncomputable def Zlt (r : List Int) : Tup Z6W × OutD := ((r, ()), none)
noncomputable def Zlx : Tup Z6W × OutD → Option (List Int)
 | (a, none) => some (a.1)
 | _ => none
theorem ZsJ : ∀ b r, Zlx b = some r → Zlt r = b := by
 rintro ⟨a, o⟩ r h
 cases o with
 | none => injection h with h; subst h; rfl
 | some _ => cases h
noncomputable def Z5F : Nat → List Int → Int → Int → Option (List Int)
 | 0, _, _, _ => none
 | k + 1, o1, v7, v8 =>
  if decide (v8 < v7) = true then if List.length o1 + List.length [v8] ≤ (140737488355328 / 8 : Nat) then Z5F k (o1 ++ [v8]) v7 (wrap64 (v8 + (1 : Int))) else none else some o1
noncomputable def ZdN : Spec := Spec.mk [OSh.ro, OSh.row true (3 : Nat) (Ty.int .i64)] [((3 : Nat), TSh.at (Sh.sl (1 : Nat))), ((7 : Nat), TSh.at (Sh.int .i64)), ((8 : Nat), TSh.at (Sh.int .i64))]
noncomputable def ZvG : Spec := Spec.mk [OSh.ro, OSh.row true (3 : Nat) (Ty.int .i64)] [((3 : Nat), TSh.at (Sh.sl (1 : Nat)))]
noncomputable def Z4R : LoopDef (Tup Z6W × OutD) := .plain ZdN ZvG (List Int) (fun k x => Z5F k x.1.2.1 x.2.2.1 x.2.2.2.1) (fun z => (((), z, ()), ((), ()))) (fun y => (y.1.2.1)) (fun _ => rfl)
noncomputable def Za5 : Nat → List (List Int) → Option (List Int)
 | 0, _ => none
 | k + 1, p0 =>
  Option.bind (Z5F k [] (↑(List.length p0) : Int) (0 : Int)) fun z0 => some z0
noncomputable def Z2C : FnDef := .of Zo8 Z6W (List Int) (fun k x => Za5 k x.1) Zlt Zlx ZsJ
noncomputable def ZcL : Code := Try.f154.body.getD .skip
noncomputable def Z5d : Ctx (Tup Z6W × OutD) := { T := T, G := [], mvs := [], no := 0, n := 17, res := resOf T Zo8 Z6W Try.f154.results.toList, loops := [(0, Z4R.E)], regs := [], conds := [] }
theorem ZnJ (k : Nat) : EnvOK Try.prog k Z5d.G := (EnvOK.nil mixed)
noncomputable def Zan : Code := (findLoop 0 ZcL).getD .skip
theorem ZvM (k : Nat) (x : ZdN.D) : Z4R.lp (k + 1) x = loopK Z5d Z4R 0 Zan k x := by kernel_rfl
theorem Zwi (k : Nat) : LOK Try.prog Z5d k Zan := LOK.by [] (by kernel_rfl) AllOK.nil
theorem Zvr (x : ZdN.D) : Z4R.lp 0 x = none := by kernel_rfl
theorem ZsM (k : Nat) : EOK Try.prog Z5d k Z4R.E (.block 0 (.loop Zan)) := Z7 T_ok ZnJ Zvr ZvM Zwi k
theorem ZB4 (k : Nat) (x : Tup Z2C.ps) : Z2C.f (k + 1) x = fnK Z2C Z5d ZcL k x := by kernel_rfl
theorem ZAP (x : Tup Z2C.ps) : Z2C.f 0 x = none := by kernel_rfl
theorem ZBL (k : Nat) : LOK Try.prog Z5d k ZcL := LOK.by [(Z4R.E, .block 0 (.loop Zan))] (by kernel_rfl) (AllOK.cons (ZsM k) AllOK.nil)
theorem Zoe (k : Nat) : SoundAt Try.prog k 154 Z2C.E := @Z4 Try.prog Z2C Z5d 154 Try.f154 ZcL (by kernel_rfl) (by kernel_rfl) (by kernel_rfl) Try.func154 (by kernel_rfl) (by kernel_rfl) (by kernel_rfl) T_ok ZnJ ZBL ZAP ZB4 k
noncomputable def Z6X : List PK := [PK.mk (Ty.slice (34 : Nat) (Ty.slice (3 : Nat) (Ty.int .i64))) false none false none]
noncomputable def ZrO : List PK := [PK.mk (Ty.slice (3 : Nat) (Ty.int .i64)) false none false none]
noncomputable def Zpw (r : List (List Int)) : Tup Z6X × OutD := ((r, ()), none)
noncomputable def Zpb : Tup Z6X × OutD → Option (List (List Int))
 | (a, none) => some (a.1)
 | _ => none
theorem ZxI : ∀ b r, Zpb b = some r → Zpw r = b := by
 rintro ⟨a, o⟩ r h
 cases o with
 | none => injection h with h; subst h; rfl
 | some _ => cases h
noncomputable def Z5e : Nat → List (List Int) → List Int → List Int → Int → Int → Int → List Int → Int → Int → Option (List (List Int) × List Int × List Int × Int × Int)
 | 0, _, _, _, _, _, _, _, _, _ => none
 | k + 1, o1, o2, v0, v4, v9, v10, v13, v14, v15 =>
  if decide (v15 < v14) = true then if (0 : Int) ≤ v15 then if v15 < (↑(List.length v13) : Int) then if decide (List.getD v13 (Int.toNat v15) (0 : Int) = v4) = true then if List.length o2 + List.length [wrap64 (v15 - (1 : Int))] ≤ (140737488355328 / 8 : Nat) then Z5e k o1 (o2 ++ [wrap64 (v15 - (1 : Int))]) v0 v4 v9 v10 v13 v14 (wrap64 (v15 + (1 : Int))) else none else Z5e k o1 o2 v0 v4 v9 v10 v13 v14 (wrap64 (v15 + (1 : Int))) else none else none else some (o1, o2, v0, v9, v10)
noncomputable def ZfA : Spec := Spec.mk [OSh.ro, OSh.row true (34 : Nat) (Ty.slice (3 : Nat) (Ty.int .i64)), OSh.row true (3 : Nat) (Ty.int .i64)] [((0 : Nat), TSh.at (Sh.snap (0 : Nat) (Ty.int .i64))), ((3 : Nat), TSh.at (Sh.sl (1 : Nat))), ((4 : Nat), TSh.at (Sh.int .i64)), ((5 : Nat), TSh.at (Sh.sl (2 : Nat))), ((9 : Nat), TSh.at (Sh.int .i64)), ((10 : Nat), TSh.at (Sh.int .i64)), ((13 : Nat), TSh.at (Sh.snap (0 : Nat) (Ty.int .i64))), ((14 : Nat), TSh.at (Sh.int .i64)), ((15 : Nat), TSh.at (Sh.int .i64))]
noncomputable def Zza : Spec := Spec.mk [OSh.ro, OSh.row true (34 : Nat) (Ty.slice (3 : Nat) (Ty.int .i64)), OSh.row true (3 : Nat) (Ty.int .i64)] [((0 : Nat), TSh.at (Sh.snap (0 : Nat) (Ty.int .i64))), ((3 : Nat), TSh.at (Sh.sl (1 : Nat))), ((5 : Nat), TSh.at (Sh.sl (2 : Nat))), ((9 : Nat), TSh.at (Sh.int .i64)), ((10 : Nat), TSh.at (Sh.int .i64))]
noncomputable def Z6v : LoopDef (Tup Z6X × OutD) := .plain ZfA Zza (List (List Int) × List Int × List Int × Int × Int) (fun k x => Z5e k x.1.2.1 x.1.2.2.1 x.2.1 x.2.2.2.1 x.2.2.2.2.2.1 x.2.2.2.2.2.2.1 x.2.2.2.2.2.2.2.1 x.2.2.2.2.2.2.2.2.1 x.2.2.2.2.2.2.2.2.2.1) (fun z => (((), z.1, z.2.1, ()), (z.2.2.1, (), (), z.2.2.2.1, z.2.2.2.2, ()))) (fun y => (y.1.2.1, y.1.2.2.1, y.2.1, y.2.2.2.2.1, y.2.2.2.2.2.1)) (fun _ => rfl)
noncomputable def Z5f : Nat → List (List Int) → List Int → Int → Int → Option (List (List Int))
 | 0, _, _, _, _ => none
 | k + 1, o1, v0, v9, v10 =>
  if decide (v10 < v9) = true then Option.bind (Z5e k o1 [] v0 v10 v9 v10 v0 (↑(List.length v0) : Int) (0 : Int)) fun z0 => if decide ((↑(List.length z0.2.1) : Int) > (0 : Int)) = true then if List.length z0.1 + List.length [Prod.fst z0.2] ≤ (140737488355328 / 24 : Nat) then Z5f k (Prod.fst z0 ++ [Prod.fst z0.2]) z0.2.2.1 z0.2.2.2.1 (wrap64 (Prod.snd z0.2.2.2 + (1 : Int))) else none else Z5f k z0.1 z0.2.2.1 z0.2.2.2.1 (wrap64 (Prod.snd z0.2.2.2 + (1 : Int))) else some o1
noncomputable def Zfu : Spec := Spec.mk [OSh.ro, OSh.row true (34 : Nat) (Ty.slice (3 : Nat) (Ty.int .i64))] [((0 : Nat), TSh.at (Sh.snap (0 : Nat) (Ty.int .i64))), ((3 : Nat), TSh.at (Sh.sl (1 : Nat))), ((9 : Nat), TSh.at (Sh.int .i64)), ((10 : Nat), TSh.at (Sh.int .i64))]
noncomputable def Zz3 : Spec := Spec.mk [OSh.ro, OSh.row true (34 : Nat) (Ty.slice (3 : Nat) (Ty.int .i64))] [((3 : Nat), TSh.at (Sh.sl (1 : Nat)))]
noncomputable def Z6l : LoopDef (Tup Z6X × OutD) := .plain Zfu Zz3 (List (List Int)) (fun k x => Z5f k x.1.2.1 x.2.1 x.2.2.2.1 x.2.2.2.2.1) (fun z => (((), z, ()), ((), ()))) (fun y => (y.1.2.1)) (fun _ => rfl)
noncomputable def Zf0 : Nat → List Int → Option (List (List Int))
 | 0, _ => none
 | k + 1, p0 =>
  Option.bind (Z5f k [] p0 (↑(List.length p0) : Int) (0 : Int)) fun z1 => some z1
noncomputable def Z5v : FnDef := .of ZrO Z6X (List (List Int)) (fun k x => Zf0 k x.1) Zpw Zpb ZxI
noncomputable def Zci : Code := Try.f156.body.getD .skip
noncomputable def Z2T : Ctx (Tup Z6X × OutD) := { T := T, G := [], mvs := [], no := 0, n := 38, res := resOf T ZrO Z6X Try.f156.results.toList, loops := [(2, Z6v.E), (0, Z6l.E)], regs := [], conds := [] }
theorem Zjd (k : Nat) : EnvOK Try.prog k Z2T.G := (EnvOK.nil mixed)
noncomputable def ZbD : Code := (findLoop 2 Zci).getD .skip
theorem ZzS (k : Nat) (x : ZfA.D) : Z6v.lp (k + 1) x = loopK Z2T Z6v 2 ZbD k x := by kernel_rfl
theorem ZyC (k : Nat) : LOK Try.prog Z2T k ZbD := LOK.by [] (by kernel_rfl) AllOK.nil
theorem ZyQ (x : ZfA.D) : Z6v.lp 0 x = none := by kernel_rfl
theorem ZwQ (k : Nat) : EOK Try.prog Z2T k Z6v.E (.block 2 (.loop ZbD)) := Z7 T_ok Zjd ZyQ ZzS ZyC k
noncomputable def ZbI : Code := (findLoop 0 Zci).getD .skip
theorem ZA1 (k : Nat) (x : Zfu.D) : Z6l.lp (k + 1) x = loopK Z2T Z6l 0 ZbI k x := by kernel_rfl
theorem ZyA (k : Nat) : LOK Try.prog Z2T k ZbI := LOK.by [(Z6v.E, .block 2 (.loop ZbD))] (by kernel_rfl) (AllOK.cons (ZwQ k) AllOK.nil)
theorem ZyX (x : Zfu.D) : Z6l.lp 0 x = none := by kernel_rfl
theorem ZxM (k : Nat) : EOK Try.prog Z2T k Z6l.E (.block 0 (.loop ZbI)) := Z7 T_ok Zjd ZyX ZA1 ZyA k
theorem ZEZ (k : Nat) (x : Tup Z5v.ps) : Z5v.f (k + 1) x = fnK Z5v Z2T Zci k x := by kernel_rfl
theorem ZEO (x : Tup Z5v.ps) : Z5v.f 0 x = none := by kernel_rfl
theorem ZEs (k : Nat) : LOK Try.prog Z2T k Zci := LOK.by [(Z6l.E, .block 0 (.loop ZbI))] (by kernel_rfl) (AllOK.cons (ZxM k) AllOK.nil)
theorem ZEd (k : Nat) : SoundAt Try.prog k 156 Z5v.E := @Z4 Try.prog Z5v Z2T 156 Try.f156 Zci (by kernel_rfl) (by kernel_rfl) (by kernel_rfl) Try.func156 (by kernel_rfl) (by kernel_rfl) (by kernel_rfl) T_ok Zjd ZEs ZEO ZEZ k
noncomputable def Z3x : List PK := [PK.mk (Ty.slice (3 : Nat) (Ty.int .i64)) false none false none]
noncomputable def Zo6 : List PK := [PK.mk (Ty.slice (34 : Nat) (Ty.slice (3 : Nat) (Ty.int .i64))) false none false none, PK.mk (Ty.slice (3 : Nat) (Ty.int .i64)) false none false none]
noncomputable def ZlH (r : List Int) : Tup Z3x × OutD := ((r, ()), none)
noncomputable def ZlM : Tup Z3x × OutD → Option (List Int)
 | (a, none) => some (a.1)
 | _ => none
theorem ZsA : ∀ b r, ZlM b = some r → ZlH r = b := by
 rintro ⟨a, o⟩ r h
 cases o with
 | none => injection h with h; subst h; rfl
 | some _ => cases h
noncomputable def Z3D : Nat → List Int → List (List Int) → List Int → Int → List Int → Int → Bool → List (List Int) → Int → Int → List Int → Int → Int → Option (List Int × List (List Int) × List Int × Int × List Int × Int × Bool × List (List Int) × Int × Int)
 | 0, _, _, _, _, _, _, _, _, _, _, _, _, _ => none
 | k + 1, o1, v0, v1, v6, v7, v8, v9, v12, v13, v14, v22, v23, v24 =>
  if decide (v24 < v23) = true then if (0 : Int) ≤ v24 then if v24 < (↑(List.length v22) : Int) then if v9 = true then if (0 : Int) ≤ List.getD v22 (Int.toNat v24) (0 : Int) then if List.getD v22 (Int.toNat v24) (0 : Int) < (↑(List.length v7) : Int) then if (0 : Int) ≤ v8 then if v8 < (↑(List.length v0) : Int) then if (0 : Int) ≤ List.getD v22 (Int.toNat v24) (0 : Int) then if List.getD v22 (Int.toNat v24) (0 : Int) < (↑(List.length (List.getD v0 (Int.toNat v8) [])) : Int) then Z3D k o1 v0 v1 v6 v7 v8 (decide (List.getD v7 (Int.toNat (List.getD v22 (Int.toNat v24) (0 : Int))) (0 : Int) = List.getD (List.getD v0 (Int.toNat v8) []) (Int.toNat (List.getD v22 (Int.toNat v24) (0 : Int))) (0 : Int))) v12 v13 v14 v22 v23 (wrap64 (v24 + (1 : Int))) else none else none else none else none else none else none else Z3D k o1 v0 v1 v6 v7 v8 false v12 v13 v14 v22 v23 (wrap64 (v24 + (1 : Int))) else none else none else some (o1, v0, v1, v6, v7, v8, v9, v12, v13, v14)
noncomputable def ZdK : Spec := Spec.mk [OSh.ro, OSh.row true (3 : Nat) (Ty.int .i64)] [((0 : Nat), TSh.at (Sh.snap (0 : Nat) (Ty.slice (3 : Nat) (Ty.int .i64)))), ((1 : Nat), TSh.at (Sh.snap (0 : Nat) (Ty.int .i64))), ((5 : Nat), TSh.at (Sh.sl (1 : Nat))), ((6 : Nat), TSh.at (Sh.int .i64)), ((7 : Nat), TSh.at (Sh.snap (0 : Nat) (Ty.int .i64))), ((8 : Nat), TSh.at (Sh.int .i64)), ((9 : Nat), TSh.at Sh.bool), ((12 : Nat), TSh.at (Sh.snap (0 : Nat) (Ty.slice (3 : Nat) (Ty.int .i64)))), ((13 : Nat), TSh.at (Sh.int .i64)), ((14 : Nat), TSh.at (Sh.int .i64)), ((22 : Nat), TSh.at (Sh.snap (0 : Nat) (Ty.int .i64))), ((23 : Nat), TSh.at (Sh.int .i64)), ((24 : Nat), TSh.at (Sh.int .i64))]
noncomputable def Zw0 : Spec := Spec.mk [OSh.ro, OSh.row true (3 : Nat) (Ty.int .i64)] [((0 : Nat), TSh.at (Sh.snap (0 : Nat) (Ty.slice (3 : Nat) (Ty.int .i64)))), ((1 : Nat), TSh.at (Sh.snap (0 : Nat) (Ty.int .i64))), ((5 : Nat), TSh.at (Sh.sl (1 : Nat))), ((6 : Nat), TSh.at (Sh.int .i64)), ((7 : Nat), TSh.at (Sh.snap (0 : Nat) (Ty.int .i64))), ((8 : Nat), TSh.at (Sh.int .i64)), ((9 : Nat), TSh.at Sh.bool), ((12 : Nat), TSh.at (Sh.snap (0 : Nat) (Ty.slice (3 : Nat) (Ty.int .i64)))), ((13 : Nat), TSh.at (Sh.int .i64)), ((14 : Nat), TSh.at (Sh.int .i64))]
noncomputable def Z4W : LoopDef (Tup Z3x × OutD) := .plain ZdK Zw0 (List Int × List (List Int) × List Int × Int × List Int × Int × Bool × List (List Int) × Int × Int) (fun k x => Z3D k x.1.2.1 x.2.1 x.2.2.1 x.2.2.2.2.1 x.2.2.2.2.2.1 x.2.2.2.2.2.2.1 x.2.2.2.2.2.2.2.1 x.2.2.2.2.2.2.2.2.1 x.2.2.2.2.2.2.2.2.2.1 x.2.2.2.2.2.2.2.2.2.2.1 x.2.2.2.2.2.2.2.2.2.2.2.1 x.2.2.2.2.2.2.2.2.2.2.2.2.1 x.2.2.2.2.2.2.2.2.2.2.2.2.2.1) (fun z => (((), z.1, ()), (z.2.1, z.2.2.1, (), z.2.2.2.1, z.2.2.2.2.1, z.2.2.2.2.2.1, z.2.2.2.2.2.2.1, z.2.2.2.2.2.2.2.1, z.2.2.2.2.2.2.2.2.1, z.2.2.2.2.2.2.2.2.2, ()))) (fun y => (y.1.2.1, y.2.1, y.2.2.1, y.2.2.2.2.1, y.2.2.2.2.2.1, y.2.2.2.2.2.2.1, y.2.2.2.2.2.2.2.1, y.2.2.2.2.2.2.2.2.1, y.2.2.2.2.2.2.2.2.2.1, y.2.2.2.2.2.2.2.2.2.2.1)) (fun _ => rfl)
noncomputable def Z5s : Nat → List Int → List (List Int) → List Int → Int → List Int → Int → List (List Int) → Int → Int → Option (List Int × List (List Int) × List Int × Int × List (List Int) × Int × Int)
 | 0, _, _, _, _, _, _, _, _, _ => none
 | k + 1, o1, v0, v1, v6, v7, v8, v12, v13, v14 =>
  if decide (v8 < v6) = true then Option.bind (Z3D k o1 v0 v1 v6 v7 v8 true v12 v13 v14 v1 (↑(List.length v1) : Int) (0 : Int)) fun z0 => if Prod.fst z0.2.2.2.2.2.2 = true then some (Prod.fst z0, Prod.fst z0.2, Prod.fst z0.2.2, Prod.fst z0.2.2.2.2.2, Prod.fst z0.2.2.2.2.2.2.2, Prod.fst z0.2.2.2.2.2.2.2.2, Prod.snd z0.2.2.2.2.2.2.2.2) else Z5s k z0.1 z0.2.1 z0.2.2.1 z0.2.2.2.1 z0.2.2.2.2.1 (wrap64 (Prod.fst z0.2.2.2.2.2 + (1 : Int))) z0.2.2.2.2.2.2.2.1 z0.2.2.2.2.2.2.2.2.1 z0.2.2.2.2.2.2.2.2.2 else some (o1, v0, v1, v8, v12, v13, v14)
noncomputable def ZdB : Spec := Spec.mk [OSh.ro, OSh.row true (3 : Nat) (Ty.int .i64)] [((0 : Nat), TSh.at (Sh.snap (0 : Nat) (Ty.slice (3 : Nat) (Ty.int .i64)))), ((1 : Nat), TSh.at (Sh.snap (0 : Nat) (Ty.int .i64))), ((5 : Nat), TSh.at (Sh.sl (1 : Nat))), ((6 : Nat), TSh.at (Sh.int .i64)), ((7 : Nat), TSh.at (Sh.snap (0 : Nat) (Ty.int .i64))), ((8 : Nat), TSh.at (Sh.int .i64)), ((12 : Nat), TSh.at (Sh.snap (0 : Nat) (Ty.slice (3 : Nat) (Ty.int .i64)))), ((13 : Nat), TSh.at (Sh.int .i64)), ((14 : Nat), TSh.at (Sh.int .i64))]
noncomputable def Zvy : Spec := Spec.mk [OSh.ro, OSh.row true (3 : Nat) (Ty.int .i64)] [((0 : Nat), TSh.at (Sh.snap (0 : Nat) (Ty.slice (3 : Nat) (Ty.int .i64)))), ((1 : Nat), TSh.at (Sh.snap (0 : Nat) (Ty.int .i64))), ((5 : Nat), TSh.at (Sh.sl (1 : Nat))), ((8 : Nat), TSh.at (Sh.int .i64)), ((12 : Nat), TSh.at (Sh.snap (0 : Nat) (Ty.slice (3 : Nat) (Ty.int .i64)))), ((13 : Nat), TSh.at (Sh.int .i64)), ((14 : Nat), TSh.at (Sh.int .i64))]
noncomputable def Z4X : LoopDef (Tup Z3x × OutD) := .plain ZdB Zvy (List Int × List (List Int) × List Int × Int × List (List Int) × Int × Int) (fun k x => Z5s k x.1.2.1 x.2.1 x.2.2.1 x.2.2.2.2.1 x.2.2.2.2.2.1 x.2.2.2.2.2.2.1 x.2.2.2.2.2.2.2.1 x.2.2.2.2.2.2.2.2.1 x.2.2.2.2.2.2.2.2.2.1) (fun z => (((), z.1, ()), (z.2.1, z.2.2.1, (), z.2.2.2.1, z.2.2.2.2.1, z.2.2.2.2.2.1, z.2.2.2.2.2.2, ()))) (fun y => (y.1.2.1, y.2.1, y.2.2.1, y.2.2.2.2.1, y.2.2.2.2.2.1, y.2.2.2.2.2.2.1, y.2.2.2.2.2.2.2.1)) (fun _ => rfl)
noncomputable def Z5C : Nat → List Int → List (List Int) → List Int → List (List Int) → Int → Int → Option (List Int)
 | 0, _, _, _, _, _, _ => none
 | k + 1, o1, v0, v1, v12, v13, v14 =>
  if decide (v14 < v13) = true then if (0 : Int) ≤ v14 then if v14 < (↑(List.length v12) : Int) then Option.bind (Z5s k o1 v0 v1 v14 (List.getD v12 (Int.toNat v14) []) (0 : Int) v12 v13 v14) fun z1 => if List.length z1.1 + List.length [Prod.fst z1.2.2.2] ≤ (140737488355328 / 8 : Nat) then Z5C k (Prod.fst z1 ++ [Prod.fst z1.2.2.2]) z1.2.1 z1.2.2.1 z1.2.2.2.2.1 z1.2.2.2.2.2.1 (wrap64 (Prod.snd z1.2.2.2.2.2 + (1 : Int))) else none else none else none else some o1
noncomputable def ZdE : Spec := Spec.mk [OSh.ro, OSh.row true (3 : Nat) (Ty.int .i64)] [((0 : Nat), TSh.at (Sh.snap (0 : Nat) (Ty.slice (3 : Nat) (Ty.int .i64)))), ((1 : Nat), TSh.at (Sh.snap (0 : Nat) (Ty.int .i64))), ((5 : Nat), TSh.at (Sh.sl (1 : Nat))), ((12 : Nat), TSh.at (Sh.snap (0 : Nat) (Ty.slice (3 : Nat) (Ty.int .i64)))), ((13 : Nat), TSh.at (Sh.int .i64)), ((14 : Nat), TSh.at (Sh.int .i64))]
noncomputable def ZvR : Spec := Spec.mk [OSh.ro, OSh.row true (3 : Nat) (Ty.int .i64)] [((5 : Nat), TSh.at (Sh.sl (1 : Nat)))]
noncomputable def Z4U : LoopDef (Tup Z3x × OutD) := .plain ZdE ZvR (List Int) (fun k x => Z5C k x.1.2.1 x.2.1 x.2.2.1 x.2.2.2.2.1 x.2.2.2.2.2.1 x.2.2.2.2.2.2.1) (fun z => (((), z, ()), ((), ()))) (fun y => (y.1.2.1)) (fun _ => rfl)
noncomputable def Zcq : Nat → List (List Int) → List Int → Option (List Int)
 | 0, _, _ => none
 | k + 1, p0, p1 =>
  Option.bind (Z5C k [] p0 p1 p0 (↑(List.length p0) : Int) (0 : Int)) fun z2 => some z2
noncomputable def Z3A : FnDef := .of Zo6 Z3x (List Int) (fun k x => Zcq k x.1 x.2.1) ZlH ZlM ZsA
noncomputable def Z7s : Code := Try.f157.body.getD .skip
noncomputable def Z19 : Ctx (Tup Z3x × OutD) := { T := T, G := [], mvs := [], no := 0, n := 53, res := resOf T Zo6 Z3x Try.f157.results.toList, loops := [(4, Z4W.E), (2, Z4X.E), (0, Z4U.E)], regs := [], conds := [] }
theorem ZcH (k : Nat) : EnvOK Try.prog k Z19.G := (EnvOK.nil mixed)
noncomputable def Zah : Code := (findLoop 4 Z7s).getD .skip
theorem Zve (k : Nat) (x : ZdK.D) : Z4W.lp (k + 1) x = loopK Z19 Z4W 4 Zah k x := by kernel_rfl
theorem Zwa (k : Nat) : LOK Try.prog Z19 k Zah := LOK.by [] (by kernel_rfl) AllOK.nil
theorem Zvk (x : ZdK.D) : Z4W.lp 0 x = none := by kernel_rfl
theorem ZsB (k : Nat) : EOK Try.prog Z19 k Z4W.E (.block 4 (.loop Zah)) := Z7 T_ok ZcH Zvk Zve Zwa k
noncomputable def Zau : Code := (findLoop 2 Z7s).getD .skip
theorem Zw8 (k : Nat) (x : ZdB.D) : Z4X.lp (k + 1) x = loopK Z19 Z4X 2 Zau k x := by kernel_rfl
theorem Zvf (k : Nat) : LOK Try.prog Z19 k Zau := LOK.by [(Z4W.E, .block 4 (.loop Zah))] (by kernel_rfl) (AllOK.cons (ZsB k) AllOK.nil)
theorem ZvY (x : ZdB.D) : Z4X.lp 0 x = none := by kernel_rfl
theorem ZsF (k : Nat) : EOK Try.prog Z19 k Z4X.E (.block 2 (.loop Zau)) := Z7 T_ok ZcH ZvY Zw8 Zvf k
noncomputable def Zax : Code := (findLoop 0 Z7s).getD .skip
theorem ZvE (k : Nat) (x : ZdE.D) : Z4U.lp (k + 1) x = loopK Z19 Z4U 0 Zax k x := by kernel_rfl
theorem ZvJ (k : Nat) : LOK Try.prog Z19 k Zax := LOK.by [(Z4X.E, .block 2 (.loop Zau))] (by kernel_rfl) (AllOK.cons (ZsF k) AllOK.nil)
theorem Zvl (x : ZdE.D) : Z4U.lp 0 x = none := by kernel_rfl
theorem ZsN (k : Nat) : EOK Try.prog Z19 k Z4U.E (.block 0 (.loop Zax)) := Z7 T_ok ZcH Zvl ZvE ZvJ k
theorem ZCg (k : Nat) (x : Tup Z3A.ps) : Z3A.f (k + 1) x = fnK Z3A Z19 Z7s k x := by kernel_rfl
theorem ZC2 (x : Tup Z3A.ps) : Z3A.f 0 x = none := by kernel_rfl
theorem ZBM (k : Nat) : LOK Try.prog Z19 k Z7s := LOK.by [(Z4U.E, .block 0 (.loop Zax))] (by kernel_rfl) (AllOK.cons (ZsN k) AllOK.nil)
theorem ZAL (k : Nat) : SoundAt Try.prog k 157 Z3A.E := @Z4 Try.prog Z3A Z19 157 Try.f157 Z7s (by kernel_rfl) (by kernel_rfl) (by kernel_rfl) Try.func157 (by kernel_rfl) (by kernel_rfl) (by kernel_rfl) T_ok ZcH ZBM ZC2 ZCg k
noncomputable def Zcf : List PK := [PK.mk (Ty.slice (3 : Nat) (Ty.int .i64)) false none false none]
noncomputable def Zxi : List PK := [PK.mk (Ty.slice (34 : Nat) (Ty.slice (3 : Nat) (Ty.int .i64))) false none false none]
noncomputable def Zug (r : List Int) : Tup Zcf × OutD := ((r, ()), none)
noncomputable def ZuU : Tup Zcf × OutD → Option (List Int)
 | (a, none) => some (a.1)
 | _ => none
theorem ZCe : ∀ b r, ZuU b = some r → Zug r = b := by
 rintro ⟨a, o⟩ r h
 cases o with
 | none => injection h with h; subst h; rfl
 | some _ => cases h
noncomputable def Z9O : Nat → List Int → Int → Int → Option (List Int)
 | 0, _, _, _ => none
 | k + 1, o1, v6, v7 =>
  if decide (v7 < v6) = true then if List.length o1 + List.length [v7] ≤ (140737488355328 / 8 : Nat) then Z9O k (o1 ++ [v7]) v6 (wrap64 (v7 + (1 : Int))) else none else some o1
noncomputable def ZhX : Spec := Spec.mk [OSh.ro, OSh.row true (3 : Nat) (Ty.int .i64)] [((3 : Nat), TSh.at (Sh.sl (1 : Nat))), ((6 : Nat), TSh.at (Sh.int .i64)), ((7 : Nat), TSh.at (Sh.int .i64))]
noncomputable def ZD8 : Spec := Spec.mk [OSh.ro, OSh.row true (3 : Nat) (Ty.int .i64)] [((3 : Nat), TSh.at (Sh.sl (1 : Nat)))]
noncomputable def Z83 : LoopDef (Tup Zcf × OutD) := .plain ZhX ZD8 (List Int) (fun k x => Z9O k x.1.2.1 x.2.2.1 x.2.2.2.1) (fun z => (((), z, ()), ((), ()))) (fun y => (y.1.2.1)) (fun _ => rfl)
noncomputable def Zey : Nat → List (List Int) → Option (List Int)
 | 0, _ => none
 | k + 1, p0 =>
  Option.bind (Z9O k [] (↑(List.length p0) : Int) (0 : Int)) fun z0 => some z0
noncomputable def Z63 : FnDef := .of Zxi Zcf (List Int) (fun k x => Zey k x.1) Zug ZuU ZCe
noncomputable def ZhB : Code := Try.f159.body.getD .skip
noncomputable def Zaa : Ctx (Tup Zcf × OutD) := { T := T, G := [], mvs := [], no := 0, n := 16, res := resOf T Zxi Zcf Try.f159.results.toList, loops := [(0, Z83.E)], regs := [], conds := [] }
theorem Zyk (k : Nat) : EnvOK Try.prog k Zaa.G := (EnvOK.nil mixed)
noncomputable def ZdX : Code := (findLoop 0 ZhB).getD .skip
theorem ZDg (k : Nat) (x : ZhX.D) : Z83.lp (k + 1) x = loopK Zaa Z83 0 ZdX k x := by kernel_rfl
theorem ZDq (k : Nat) : LOK Try.prog Zaa k ZdX := LOK.by [] (by kernel_rfl) AllOK.nil
theorem ZCK (x : ZhX.D) : Z83.lp 0 x = none := by kernel_rfl
theorem ZBb (k : Nat) : EOK Try.prog Zaa k Z83.E (.block 0 (.loop ZdX)) := Z7 T_ok Zyk ZCK ZDg ZDq k
theorem ZHF (k : Nat) (x : Tup Z63.ps) : Z63.f (k + 1) x = fnK Z63 Zaa ZhB k x := by kernel_rfl
theorem ZHx (x : Tup Z63.ps) : Z63.f 0 x = none := by kernel_rfl
theorem ZHA (k : Nat) : LOK Try.prog Zaa k ZhB := LOK.by [(Z83.E, .block 0 (.loop ZdX))] (by kernel_rfl) (AllOK.cons (ZBb k) AllOK.nil)
theorem Zxq (k : Nat) : SoundAt Try.prog k 159 Z63.E := @Z4 Try.prog Z63 Zaa 159 Try.f159 ZhB (by kernel_rfl) (by kernel_rfl) (by kernel_rfl) Try.func159 (by kernel_rfl) (by kernel_rfl) (by kernel_rfl) T_ok Zyk ZHA ZHx ZHF k
noncomputable def ZZ : List PK := [PK.mk Ty.bool false none false none]
noncomputable def Z8X : List PK := [PK.mk (Ty.slice (63 : Nat) (Ty.pair (Ty.int .i64) (Ty.pair (Ty.int .i64) (Ty.int .i64)))) false none false none, PK.mk (Ty.slice (63 : Nat) (Ty.pair (Ty.int .i64) (Ty.pair (Ty.int .i64) (Ty.int .i64)))) false none false none]
noncomputable def Z3Z (r : Bool) : Tup ZZ × OutD := ((r, ()), none)
noncomputable def Z40 : Tup ZZ × OutD → Option (Bool)
 | (a, none) => some (a.1)
 | _ => none
theorem Z6R : ∀ b r, Z40 b = some r → Z3Z r = b := by
 rintro ⟨a, o⟩ r h
 cases o with
 | none => injection h with h; subst h; rfl
 | some _ => cases h
noncomputable def ZR : Nat → List (Int × Int × Int) → List (Int × Int × Int) → Int → Int → Option (LR Unit Bool)
 | 0, _, _, _, _ => none
 | k + 1, v0, v1, v12, v13 =>
  if decide (v13 < v12) = true then if (0 : Int) ≤ v13 then if v13 < (↑(List.length v0) : Int) then if (0 : Int) ≤ v13 then if v13 < (↑(List.length v1) : Int) then if (!(decide (Prod.fst (List.getD v0 (Int.toNat v13) ((0 : Int), (0 : Int), (0 : Int))) = Prod.fst (List.getD v1 (Int.toNat v13) ((0 : Int), (0 : Int), (0 : Int)))) && (decide (Prod.fst (Prod.snd (List.getD v0 (Int.toNat v13) ((0 : Int), (0 : Int), (0 : Int)))) = Prod.fst (Prod.snd (List.getD v1 (Int.toNat v13) ((0 : Int), (0 : Int), (0 : Int))))) && (decide (Prod.snd (Prod.snd (List.getD v0 (Int.toNat v13) ((0 : Int), (0 : Int), (0 : Int)))) = Prod.snd (Prod.snd (List.getD v1 (Int.toNat v13) ((0 : Int), (0 : Int), (0 : Int))))) && true)))) = true then some (LR.ret false) else ZR k v0 v1 v12 (wrap64 (v13 + (1 : Int))) else none else none else none else none else some (LR.go ())
noncomputable def Z3l : Spec := Spec.mk [OSh.ro] [((0 : Nat), TSh.at (Sh.snap (0 : Nat) (Ty.pair (Ty.int .i64) (Ty.pair (Ty.int .i64) (Ty.int .i64))))), ((1 : Nat), TSh.at (Sh.snap (0 : Nat) (Ty.pair (Ty.int .i64) (Ty.pair (Ty.int .i64) (Ty.int .i64))))), ((12 : Nat), TSh.at (Sh.int .i64)), ((13 : Nat), TSh.at (Sh.int .i64))]
noncomputable def Zeg : Spec := Spec.mk [OSh.ro] []
noncomputable def ZM : LoopDef (Tup ZZ × OutD) := .rets Z3l Zeg (Unit) (Bool) (fun k x => ZR k x.2.1 x.2.2.1 x.2.2.2.1 x.2.2.2.2.1) (fun z => (((), ()), (()))) (fun y => ()) (fun _ => rfl) Z3Z Z40 Z6R
noncomputable def Z10 : Nat → List (Int × Int × Int) → List (Int × Int × Int) → Option Bool
 | 0, _, _ => none
 | k + 1, p0, p1 =>
  if decide ((↑(List.length p0) : Int) ≠ (↑(List.length p1) : Int)) = true then some false else Option.bind (ZR k p0 p1 (↑(List.length p0) : Int) (0 : Int)) fun z0 => LR.on z0 (fun y0 => some true) fun r0 => some r0
noncomputable def Zf : FnDef := .of Z8X ZZ (Bool) (fun k x => Z10 k x.1 x.2.1) Z3Z Z40 Z6R
noncomputable def Z2d : Code := Try.f166.body.getD .skip
noncomputable def ZB : Ctx (Tup ZZ × OutD) := { T := T, G := [], mvs := [], no := 0, n := 26, res := resOf T Z8X ZZ Try.f166.results.toList, loops := [(0, ZM.E)], regs := [], conds := [] }
theorem Z8V (k : Nat) : EnvOK Try.prog k ZB.G := (EnvOK.nil mixed)
noncomputable def Z1K : Code := (findLoop 0 Z2d).getD .skip
theorem Zei (k : Nat) (x : Z3l.D) : ZM.lp (k + 1) x = loopK ZB ZM 0 Z1K k x := by kernel_rfl
theorem Zef (k : Nat) : LOK Try.prog ZB k Z1K := LOK.by [] (by kernel_rfl) AllOK.nil
theorem Zeh (x : Z3l.D) : ZM.lp 0 x = none := by kernel_rfl
theorem ZdG (k : Nat) : EOK Try.prog ZB k ZM.E (.block 0 (.loop Z1K)) := Z7 T_ok Z8V Zeh Zei Zef k
theorem Zfn (k : Nat) (x : Tup Zf.ps) : Zf.f (k + 1) x = fnK Zf ZB Z2d k x := by kernel_rfl
theorem ZfD (x : Tup Zf.ps) : Zf.f 0 x = none := by kernel_rfl
theorem Zfs (k : Nat) : LOK Try.prog ZB k Z2d := LOK.by [(ZM.E, .block 0 (.loop Z1K))] (by kernel_rfl) (AllOK.cons (ZdG k) AllOK.nil)
theorem Z4m (k : Nat) : SoundAt Try.prog k 166 Zf.E := @Z4 Try.prog Zf ZB 166 Try.f166 Z2d (by kernel_rfl) (by kernel_rfl) (by kernel_rfl) Try.func166 (by kernel_rfl) (by kernel_rfl) (by kernel_rfl) T_ok Z8V Zfs ZfD Zfn k
noncomputable def ZaO : List PK := [PK.mk (Ty.int .i64) false none false none]
noncomputable def ZuN : List PK := [PK.mk (Ty.slice (63 : Nat) (Ty.pair (Ty.int .i64) (Ty.pair (Ty.int .i64) (Ty.int .i64)))) false none false none, PK.mk (Ty.slice (63 : Nat) (Ty.pair (Ty.int .i64) (Ty.pair (Ty.int .i64) (Ty.int .i64)))) false none false none]
noncomputable def Zjl (r : Int) : Tup ZaO × OutD := ((r, ()), none)
noncomputable def Zjo : Tup ZaO × OutD → Option (Int)
 | (a, none) => some (a.1)
 | _ => none
theorem ZlP : ∀ b r, Zjo b = some r → Zjl r = b := by
 rintro ⟨a, o⟩ r h
 cases o with
 | none => injection h with h; subst h; rfl
 | some _ => cases h
noncomputable def Z8x : Nat → List (Int × Int × Int) → List (Int × Int × Int) → Int → Int → Option (LR Unit Int)
 | 0, _, _, _, _ => none
 | k + 1, v1, v7, v8, v9 =>
  if decide (v9 < v8) = true then if (0 : Int) ≤ v9 then if v9 < (↑(List.length v7) : Int) then if (0 : Int) ≤ v9 then if v9 < (↑(List.length v1) : Int) then if (!(decide (Prod.fst (List.getD v7 (Int.toNat v9) ((0 : Int), (0 : Int), (0 : Int))) = Prod.fst (List.getD v1 (Int.toNat v9) ((0 : Int), (0 : Int), (0 : Int)))) && (decide (Prod.fst (Prod.snd (List.getD v7 (Int.toNat v9) ((0 : Int), (0 : Int), (0 : Int)))) = Prod.fst (Prod.snd (List.getD v1 (Int.toNat v9) ((0 : Int), (0 : Int), (0 : Int))))) && (decide (Prod.snd (Prod.snd (List.getD v7 (Int.toNat v9) ((0 : Int), (0 : Int), (0 : Int)))) = Prod.snd (Prod.snd (List.getD v1 (Int.toNat v9) ((0 : Int), (0 : Int), (0 : Int))))) && true)))) = true then some (LR.ret v9) else Z8x k v1 v7 v8 (wrap64 (v9 + (1 : Int))) else none else none else none else none else some (LR.go ())
noncomputable def ZgM : Spec := Spec.mk [OSh.ro] [((1 : Nat), TSh.at (Sh.snap (0 : Nat) (Ty.pair (Ty.int .i64) (Ty.pair (Ty.int .i64) (Ty.int .i64))))), ((7 : Nat), TSh.at (Sh.snap (0 : Nat) (Ty.pair (Ty.int .i64) (Ty.pair (Ty.int .i64) (Ty.int .i64))))), ((8 : Nat), TSh.at (Sh.int .i64)), ((9 : Nat), TSh.at (Sh.int .i64))]
noncomputable def ZBs : Spec := Spec.mk [OSh.ro] []
noncomputable def Z7n : LoopDef (Tup ZaO × OutD) := .rets ZgM ZBs (Unit) (Int) (fun k x => Z8x k x.2.1 x.2.2.1 x.2.2.2.1 x.2.2.2.2.1) (fun z => (((), ()), (()))) (fun y => ()) (fun _ => rfl) Zjl Zjo ZlP
noncomputable def ZaH : Nat → List (Int × Int × Int) → List (Int × Int × Int) → Option Int
 | 0, _, _ => none
 | k + 1, p0, p1 =>
  Option.bind (Z8x k p1 p0 (↑(List.length p0) : Int) (0 : Int)) fun z0 => LR.on z0 (fun y0 => some (-1 : Int)) fun r0 => some r0
noncomputable def Z3G : FnDef := .of ZuN ZaO (Int) (fun k x => ZaH k x.1 x.2.1) Zjl Zjo ZlP
noncomputable def Zge : Code := Try.f168.body.getD .skip
noncomputable def Z8H : Ctx (Tup ZaO × OutD) := { T := T, G := [], mvs := [], no := 0, n := 22, res := resOf T ZuN ZaO Try.f168.results.toList, loops := [(0, Z7n.E)], regs := [], conds := [] }
theorem ZuD (k : Nat) : EnvOK Try.prog k Z8H.G := (EnvOK.nil mixed)
noncomputable def Zd1 : Code := (findLoop 0 Zge).getD .skip
theorem ZAK (k : Nat) (x : ZgM.D) : Z7n.lp (k + 1) x = loopK Z8H Z7n 0 Zd1 k x := by kernel_rfl
theorem ZAX (k : Nat) : LOK Try.prog Z8H k Zd1 := LOK.by [] (by kernel_rfl) AllOK.nil
theorem ZBo (x : ZgM.D) : Z7n.lp 0 x = none := by kernel_rfl
theorem ZA8 (k : Nat) : EOK Try.prog Z8H k Z7n.E (.block 0 (.loop Zd1)) := Z7 T_ok ZuD ZBo ZAK ZAX k
theorem ZGs (k : Nat) (x : Tup Z3G.ps) : Z3G.f (k + 1) x = fnK Z3G Z8H Zge k x := by kernel_rfl
theorem ZFs (x : Tup Z3G.ps) : Z3G.f 0 x = none := by kernel_rfl
theorem ZFA (k : Nat) : LOK Try.prog Z8H k Zge := LOK.by [(Z7n.E, .block 0 (.loop Zd1))] (by kernel_rfl) (AllOK.cons (ZA8 k) AllOK.nil)
theorem ZkK (k : Nat) : SoundAt Try.prog k 168 Z3G.E := @Z4 Try.prog Z3G Z8H 168 Try.f168 Zge (by kernel_rfl) (by kernel_rfl) (by kernel_rfl) Try.func168 (by kernel_rfl) (by kernel_rfl) (by kernel_rfl) T_ok ZuD ZFA ZFs ZGs k
noncomputable def Z8Z : List PK := [PK.mk (Ty.int .i64) false none false none]
noncomputable def ZlU : List PK := [PK.mk (Ty.pair (Ty.slice (5 : Nat) (Ty.int .u8)) (Ty.pair (Ty.int .i64) (Ty.int .u64))) false none false (some (114 : Nat))]
noncomputable def Zks (r : Int × Int × Int) : Tup Z8Z × OutD := ((r.1, ()), some ⟨Ty.pair (Ty.slice (5 : Nat) (Ty.int .u8)) (Ty.pair (Ty.int .i64) (Ty.int .u64)), [([], r.2)]⟩)
noncomputable def ZeH : Tup Z8Z × OutD → Option (Int × Int × Int)
 | (a, some ⟨u, ys⟩) => if h : u = Ty.pair (Ty.slice (5 : Nat) (Ty.int .u8)) (Ty.pair (Ty.int .i64) (Ty.int .u64)) then (match castU h ys with
  | [([], y)] => some (a.1, y)
  | _ => none) else none
 | _ => none
theorem Zqy : ∀ b r, ZeH b = some r → Zks r = b := by
 rintro ⟨a, o⟩ r h
 cases o with
 | none => cases h
 | some s =>
  obtain ⟨u, ys⟩ := s
  simp only [ZeH] at h
  split at h
  ·rename_i hu
   subst hu
   match ys, h with
   | [], h => cases (show (none : Option _) = some r from h)
   | [([], y)], h => injection (show some _ = some r from h) with h; subst h; rfl
   | [(_ :: _, y)], h => cases (show (none : Option _) = some r from h)
   | (h1, _) :: _ :: _, h => cases h1 <;> cases (show (none : Option _) = some r from h)
  ·cases h
noncomputable def Z6t : Nat → List Int × Int × Int → Option (Int × Int × Int)
 | 0, _ => none
 | k + 1, p0 =>
  if decide (Prod.fst p0.2 < (↑(List.length p0.1) : Int)) = true then if (0 : Int) ≤ Prod.fst p0.2 then if Prod.fst p0.2 < (↑(List.length p0.1) : Int) then if decide (wrap64 (Prod.fst p0.2 + (1 : Int)) ≤ (↑(List.length p0.1) : Int)) = true then some (wrap64 (List.getD p0.1 (Int.toNat p0.2.1) (0 : Int)), wrap64 (Prod.fst p0.2 + (1 : Int)), IntKind.wrap IntKind.u64 (IntKind.wrap IntKind.u64 (IntKind.wrap IntKind.u64 (Prod.snd p0.2 * (6364136223846793005 : Int)) + IntKind.wrap IntKind.u64 (wrap64 (List.getD p0.1 (Int.toNat p0.2.1) (0 : Int)))) + (1442695040888963407 : Int))) else some (wrap64 (bits BinOp.and IntKind.u64 (Int.fdiv (IntKind.wrap IntKind.u64 (IntKind.wrap IntKind.u64 (IntKind.wrap IntKind.u64 (Prod.snd p0.2 * (6364136223846793005 : Int)) + IntKind.wrap IntKind.u64 (wrap64 (List.getD p0.1 (Int.toNat p0.2.1) (0 : Int)))) + (1442695040888963407 : Int))) ((2 : Int) ^ min (Int.toNat (40 : Int)) (IntKind.bits IntKind.u64))) (255 : Int)), wrap64 (Prod.fst p0.2 + (1 : Int)), IntKind.wrap IntKind.u64 (IntKind.wrap IntKind.u64 (IntKind.wrap IntKind.u64 (Prod.snd p0.2 * (6364136223846793005 : Int)) + IntKind.wrap IntKind.u64 (wrap64 (List.getD p0.1 (Int.toNat p0.2.1) (0 : Int)))) + (1442695040888963407 : Int))) else none else none else if decide (wrap64 (Prod.fst p0.2 + (1 : Int)) ≤ (↑(List.length p0.1) : Int)) = true then some ((0 : Int), wrap64 (Prod.fst p0.2 + (1 : Int)), IntKind.wrap IntKind.u64 (IntKind.wrap IntKind.u64 (IntKind.wrap IntKind.u64 (Prod.snd p0.2 * (6364136223846793005 : Int)) + IntKind.wrap IntKind.u64 (0 : Int)) + (1442695040888963407 : Int))) else some (wrap64 (bits BinOp.and IntKind.u64 (Int.fdiv (IntKind.wrap IntKind.u64 (IntKind.wrap IntKind.u64 (IntKind.wrap IntKind.u64 (Prod.snd p0.2 * (6364136223846793005 : Int)) + IntKind.wrap IntKind.u64 (0 : Int)) + (1442695040888963407 : Int))) ((2 : Int) ^ min (Int.toNat (40 : Int)) (IntKind.bits IntKind.u64))) (255 : Int)), wrap64 (Prod.fst p0.2 + (1 : Int)), IntKind.wrap IntKind.u64 (IntKind.wrap IntKind.u64 (IntKind.wrap IntKind.u64 (Prod.snd p0.2 * (6364136223846793005 : Int)) + IntKind.wrap IntKind.u64 (0 : Int)) + (1442695040888963407 : Int)))
noncomputable def Z34 : FnDef := .of ZlU Z8Z (Int × Int × Int) (fun k x => Z6t k x.1) Zks ZeH Zqy
noncomputable def Zfo : Code := Try.f175.body.getD .skip
noncomputable def ZbP : Ctx (Tup Z8Z × OutD) := { T := T, G := [], mvs := [], no := 2, n := 62, res := resOf T ZlU Z8Z Try.f175.results.toList, loops := [], regs := [], conds := [] }
theorem Zzm (k : Nat) : EnvOK Try.prog k ZbP.G := (EnvOK.nil mixed)
theorem ZA6 (k : Nat) (x : Tup Z34.ps) : Z34.f (k + 1) x = fnK Z34 ZbP Zfo k x := by kernel_rfl
theorem Zzj (x : Tup Z34.ps) : Z34.f 0 x = none := by kernel_rfl
theorem Zzx (k : Nat) : LOK Try.prog ZbP k Zfo := LOK.by [] (by kernel_rfl) AllOK.nil
theorem ZAb (k : Nat) : SoundAt Try.prog k 175 Z34.E := @Z4 Try.prog Z34 ZbP 175 Try.f175 Zfo (by kernel_rfl) (by kernel_rfl) (by kernel_rfl) Try.func175 (by kernel_rfl) (by kernel_rfl) (by kernel_rfl) T_ok Zzm Zzx Zzj ZA6 k
noncomputable def ZfR : List PK := [PK.mk (Ty.pair (Ty.int .i64) (Ty.int .i64)) true none false none]
noncomputable def ZAC : List PK := [PK.mk (Ty.pair (Ty.int .i64) (Ty.pair (Ty.int .i64) (Ty.slice (79 : Nat) (Ty.pair (Ty.int .i64) (Ty.int .i64))))) true none false none, PK.mk (Ty.int .i64) false none false none, PK.mk (Ty.int .i64) false none false none]
noncomputable def ZwZ (r : Int × Int) : Tup ZfR × OutD := ((r, ()), none)
noncomputable def Zx9 : Tup ZfR × OutD → Option (Int × Int)
 | (a, none) => some (a.1)
 | _ => none
theorem ZE9 : ∀ b r, Zx9 b = some r → ZwZ r = b := by
 rintro ⟨a, o⟩ r h
 cases o with
 | none => injection h with h; subst h; rfl
 | some _ => cases h
noncomputable def Zbp : Nat → Int × Int × List (Int × Int) → Int → Int → Option (Int × Int)
 | 0, _, _, _ => none
 | k + 1, p0, p1, p2 =>
  if (0 : Int) ≤ wrap64 (wrap64 (p1 * Prod.fst p0.2) + p2) then if wrap64 (wrap64 (p1 * Prod.fst p0.2) + p2) < (↑(List.length p0.2.2) : Int) then some (Prod.fst (List.getD p0.2.2 (Int.toNat (wrap64 (wrap64 (p1 * Prod.fst p0.2) + p2))) ((0 : Int), (0 : Int))), Prod.snd (List.getD p0.2.2 (Int.toNat (wrap64 (wrap64 (p1 * Prod.fst p0.2) + p2))) ((0 : Int), (0 : Int)))) else none else none
noncomputable def Z7x : FnDef := .of ZAC ZfR (Int × Int) (fun k x => Zbp k x.1 x.2.1 x.2.2.1) ZwZ Zx9 ZE9
noncomputable def Zqi : Code := Try.f183.body.getD .skip
noncomputable def Zjw : Ctx (Tup ZfR × OutD) := { T := T, G := [], mvs := [], no := 0, n := 17, res := resOf T ZAC ZfR Try.f183.results.toList, loops := [], regs := [], conds := [] }
theorem ZId (k : Nat) : EnvOK Try.prog k Zjw.G := (EnvOK.nil mixed)
theorem ZIs (k : Nat) (x : Tup Z7x.ps) : Z7x.f (k + 1) x = fnK Z7x Zjw Zqi k x := by kernel_rfl
theorem ZIm (x : Tup Z7x.ps) : Z7x.f 0 x = none := by kernel_rfl
theorem ZHY (k : Nat) : LOK Try.prog Zjw k Zqi := LOK.by [] (by kernel_rfl) AllOK.nil
theorem ZAr (k : Nat) : SoundAt Try.prog k 183 Z7x.E := @Z4 Try.prog Z7x Zjw 183 Try.f183 Zqi (by kernel_rfl) (by kernel_rfl) (by kernel_rfl) Try.func183 (by kernel_rfl) (by kernel_rfl) (by kernel_rfl) T_ok ZId ZHY ZIm ZIs k
noncomputable def ZbV : List PK := [PK.mk (Ty.pair (Ty.int .i64) (Ty.pair (Ty.int .i64) (Ty.slice (79 : Nat) (Ty.pair (Ty.int .i64) (Ty.int .i64))))) true none false none]
noncomputable def Zwt : List PK := [PK.mk (Ty.pair (Ty.int .i64) (Ty.pair (Ty.int .i64) (Ty.slice (79 : Nat) (Ty.pair (Ty.int .i64) (Ty.int .i64))))) true none false none]
noncomputable def ZuC (r : Int × Int × List (Int × Int)) : Tup ZbV × OutD := ((r, ()), none)
noncomputable def Zuw : Tup ZbV × OutD → Option (Int × Int × List (Int × Int))
 | (a, none) => some (a.1)
 | _ => none
theorem ZAR : ∀ b r, Zuw b = some r → ZuC r = b := by
 rintro ⟨a, o⟩ r h
 cases o with
 | none => injection h with h; subst h; rfl
 | some _ => cases h
noncomputable def Z8p : Nat → Int → Int → List (Int × Int) → Int → Int → List (Int × Int) → Option (Int × Int × List (Int × Int)) := fun k b1_0 b1_1 b1_2 b2_0 b2_1 o3 =>
    if (0 : Nat) + List.length b1_2 ≤ (140737488355328 / 16 : Nat) then some (b1_0, b1_1, b1_2) else none
noncomputable def ZcF : Nat → Int → Int → List (Int × Int) → Int → Int → List (Int × Int) → Option (List (Int × Int × List (Int × Int))) := fun k b1_0 b1_1 b1_2 b2_0 b2_1 o3 =>
    joinL (joinL (if (0 : Nat) + List.length b1_2 ≤ (140737488355328 / 16 : Nat) then some [(b1_0, b1_1, b1_2)] else none) (joinL (if (0 : Nat) + List.length b1_2 ≤ (140737488355328 / 16 : Nat) then some [(b1_0, b1_1, b1_2)] else none) (if (0 : Nat) + List.length b1_2 ≤ (140737488355328 / 16 : Nat) then some [(b1_0, b1_1, b1_2)] else none))) (joinL (joinL (if (0 : Nat) + List.length b1_2 ≤ (140737488355328 / 16 : Nat) then some [(b1_0, b1_1, b1_2)] else none) (joinL (if (0 : Nat) + List.length b1_2 ≤ (140737488355328 / 16 : Nat) then some [(b1_0, b1_1, b1_2)] else none) (if (0 : Nat) + List.length b1_2 ≤ (140737488355328 / 16 : Nat) then some [(b1_0, b1_1, b1_2)] else none))) (joinL (joinL (if (0 : Nat) + List.length b1_2 ≤ (140737488355328 / 16 : Nat) then some [(b1_0, b1_1, b1_2)] else none) (if (0 : Nat) + List.length b1_2 ≤ (140737488355328 / 16 : Nat) then some [(b1_0, b1_1, b1_2)] else none)) (joinL (joinL (if (0 : Nat) + List.length b1_2 ≤ (140737488355328 / 16 : Nat) then some [(b1_0, b1_1, b1_2)] else none) (if (0 : Nat) + List.length b1_2 ≤ (140737488355328 / 16 : Nat) then some [(b1_0, b1_1, b1_2)] else none)) (if (0 : Nat) + List.length b1_2 ≤ (140737488355328 / 16 : Nat) then joinL (some [(b1_0, b1_1, b1_2)]) (some [(b1_0, b1_1, b1_2)]) else none))))
noncomputable def ZmN : Spec := Spec.mk [OSh.ro, OSh.box (53 : Nat) [Sh.int .i64, Sh.int .i64, Sh.snap (0 : Nat) (Ty.pair (Ty.int .i64) (Ty.int .i64))], OSh.box (53 : Nat) [Sh.int .i64, Sh.int .i64, Sh.sl (3 : Nat)], OSh.row true (79 : Nat) (Ty.pair (Ty.int .i64) (Ty.int .i64))] [((1 : Nat), TSh.at (Sh.ptr (1 : Nat) (0 : Nat))), ((2 : Nat), TSh.at (Sh.ptr (2 : Nat) (0 : Nat)))]
noncomputable def ZBI : Spec := Spec.mk [OSh.ro, OSh.box (53 : Nat) [Sh.int .i64, Sh.int .i64, Sh.sl (2 : Nat)], OSh.row true (79 : Nat) (Ty.pair (Ty.int .i64) (Ty.int .i64))] [((2 : Nat), TSh.at (Sh.ptr (1 : Nat) (0 : Nat)))]
noncomputable def Z7e : LoopDef (Tup ZbV × OutD) := .plain ZmN ZBI (Int × Int × List (Int × Int)) (fun k x => Z8p k x.1.2.1.1 x.1.2.1.2.1 x.1.2.1.2.2.1 x.1.2.2.1.1 x.1.2.2.1.2.1 x.1.2.2.2.1) (fun z => (((), (z.1, z.2.1, (), ()), z.2.2, ()), ((), ()))) (fun y => (y.1.2.1.1, y.1.2.1.2.1, y.1.2.2.1)) (fun _ => rfl)
theorem ZAI (k : Nat) (b1_0 : Int) (b1_1 : Int) (b1_2 : List (Int × Int)) (b2_0 : Int) (b2_1 : Int) (o3 : List (Int × Int)) : ZcF k b1_0 b1_1 b1_2 b2_0 b2_1 o3 = repl 12 (Z8p k b1_0 b1_1 b1_2 b2_0 b2_1 o3) := by
 first
 | (simp only [ZcF, Z8p, Zz, ZT, Zx, Zy, Zw, Za, if_true]; done)
 | (simp only [ZcF, Z8p, Zz, ZT, Zx, Zy, Zw, Za, if_true]; simp only [Z2E, Z2G, Z5g, Za]; simp only [Z72]; exact Z3w ⟨fun h => by simp only [h, and_self], fun h => by simp only [h, and_self]⟩)
noncomputable def Za2 : Nat → Int × Int × List (Int × Int) → Option (Int × Int × List (Int × Int))
 | 0, _ => none
 | k + 1, p0 =>
  Option.bind (Z8p k p0.1 p0.2.1 p0.2.2 (0 : Int) (0 : Int) []) fun z0 => some (Prod.fst z0, Prod.fst z0.2, Prod.snd z0.2)
noncomputable def Z61 : FnDef := .of Zwt ZbV (Int × Int × List (Int × Int)) (fun k x => Za2 k x.1) ZuC Zuw ZAR
noncomputable def ZhN : Code := Try.f184.body.getD .skip
noncomputable def Z4Y : Ctx (Tup ZbV × OutD) := { T := T, G := [], mvs := [], no := 0, n := 12, res := resOf T Zwt ZbV Try.f184.results.toList, loops := [], regs := [(1, Z7e.E)], conds := [] }
theorem ZxD (k : Nat) : EnvOK Try.prog k Z4Y.G := (EnvOK.nil mixed)
noncomputable def ZgA : Array Oper := (findReg 1 ZhN).getD #[]
theorem ZCa (k : Nat) (x : ZmN.D) : execD Z4Y.T Z4Y.G Z4Y.mvs k ZgA (Z7e.inp.st Z4Y.n x) (outK Z4Y Z7e) = ZcF k x.1.2.1.1 x.1.2.1.2.1 x.1.2.1.2.2.1 x.1.2.2.1.1 x.1.2.2.1.2.1 x.1.2.2.2.1 := by kernel_rfl
theorem Zz1 (k : Nat) : EOK Try.prog Z4Y k Z7e.E (.region 1 ZgA true) := Z9Z (D := Z7e) (m := 12) T_ok (ZxD k) (fun x => (ZCa k x).trans (ZAI k x.1.2.1.1 x.1.2.1.2.1 x.1.2.1.2.2.1 x.1.2.2.1.1 x.1.2.2.1.2.1 x.1.2.2.2.1))
theorem ZH0 (k : Nat) (x : Tup Z61.ps) : Z61.f (k + 1) x = fnK Z61 Z4Y ZhN k x := by kernel_rfl
theorem ZHm (x : Tup Z61.ps) : Z61.f 0 x = none := by kernel_rfl
theorem ZHy (k : Nat) : LOK Try.prog Z4Y k ZhN := LOK.by [(Z7e.E, .region 1 ZgA true)] (by kernel_rfl) (AllOK.cons (Zz1 k) AllOK.nil)
theorem ZwF (k : Nat) : SoundAt Try.prog k 184 Z61.E := @Z4 Try.prog Z61 Z4Y 184 Try.f184 ZhN (by kernel_rfl) (by kernel_rfl) (by kernel_rfl) Try.func184 (by kernel_rfl) (by kernel_rfl) (by kernel_rfl) T_ok ZxD ZHy ZHm ZH0 k
noncomputable def Z6s : List PK := []
noncomputable def Zln : List PK := [PK.mk (Ty.pair (Ty.int .i64) (Ty.pair (Ty.int .i64) (Ty.slice (79 : Nat) (Ty.pair (Ty.int .i64) (Ty.int .i64))))) true (some ((2 : Nat), (79 : Nat), Ty.pair (Ty.int .i64) (Ty.int .i64))) false none, PK.mk (Ty.slice (3 : Nat) (Ty.int .i64)) false none false none, PK.mk (Ty.slice (3 : Nat) (Ty.int .i64)) false none false none, PK.mk (Ty.int .i64) false none false none]
noncomputable def ZjX (r : List (Int × Int)) : Tup Z6s × OutD := ((()), some ⟨Ty.pair (Ty.int .i64) (Ty.int .i64), r⟩)
noncomputable def ZeF : Tup Z6s × OutD → Option (List (Int × Int))
 | (a, some ⟨u, ys⟩) => if h : u = Ty.pair (Ty.int .i64) (Ty.int .i64) then some (castU h ys) else none
 | _ => none
theorem ZqX : ∀ b r, ZeF b = some r → ZjX r = b := by
 rintro ⟨a, o⟩ r h
 cases o with
 | none => cases h
 | some s =>
  obtain ⟨u, ys⟩ := s
  simp only [ZeF] at h
  split at h
  ·rename_i hu; subst hu; injection h with h; subst h; rfl
  ·cases h
noncomputable def Zv : Nat → List (Int × Int) → Int → Int → List Int → List Int → Int → Int → Int → Option (List (Int × Int))
 | 0, _, _, _, _, _, _, _, _ => none
 | k + 1, o1, b2_0, b2_1, v1, v2, v3, v12, v13 =>
  if decide (v13 < v12) = true then if decide (v13 = v3) = true then if (0 : Int) ≤ v13 then if v13 < (↑(List.length v2) : Int) then if decide (List.getD v2 (Int.toNat v13) (0 : Int) ≠ (1 : Int)) = true then if (0 : Int) ≤ v13 then if v13 < (↑(List.length o1) : Int) then if (0 : Int) ≤ v13 then if v13 < (↑(List.length o1) : Int) then Zv k (List.set o1 (Int.toNat v13) (Prod.fst (List.getD o1 (Int.toNat v13) ((0 : Int), (0 : Int))), wrap64 ((1 : Int) - Prod.snd (List.getD o1 (Int.toNat v13) ((0 : Int), (0 : Int)))))) b2_0 b2_1 v1 v2 v3 v12 (wrap64 (v13 + (1 : Int))) else none else none else none else none else Zv k o1 b2_0 b2_1 v1 v2 v3 v12 (wrap64 (v13 + (1 : Int))) else none else none else if (0 : Int) ≤ v3 then if v3 < (↑(List.length o1) : Int) then if decide (Prod.fst (List.getD o1 (Int.toNat v3) ((0 : Int), (0 : Int))) = (6 : Int)) = true then if (0 : Int) ≤ v13 then if v13 < (↑(List.length o1) : Int) then if decide (Prod.fst (List.getD o1 (Int.toNat v13) ((0 : Int), (0 : Int))) = (6 : Int)) = true then if (0 : Int) ≤ v13 then if v13 < (↑(List.length v1) : Int) then if (0 : Int) ≤ v3 then if v3 < (↑(List.length v1) : Int) then if decide (List.getD v1 (Int.toNat v13) (0 : Int) = List.getD v1 (Int.toNat v3) (0 : Int)) = true then if (0 : Int) ≤ v13 then if v13 < (↑(List.length v2) : Int) then if decide (List.getD v2 (Int.toNat v13) (0 : Int) ≠ (1 : Int)) = true then if (0 : Int) ≤ v13 then if v13 < (↑(List.length o1) : Int) then if (0 : Int) ≤ v13 then if v13 < (↑(List.length o1) : Int) then Zv k (List.set o1 (Int.toNat v13) (Prod.fst (List.getD o1 (Int.toNat v13) ((0 : Int), (0 : Int))), wrap64 ((1 : Int) - Prod.snd (List.getD o1 (Int.toNat v13) ((0 : Int), (0 : Int)))))) b2_0 b2_1 v1 v2 v3 v12 (wrap64 (v13 + (1 : Int))) else none else none else none else none else Zv k o1 b2_0 b2_1 v1 v2 v3 v12 (wrap64 (v13 + (1 : Int))) else none else none else Zv k o1 b2_0 b2_1 v1 v2 v3 v12 (wrap64 (v13 + (1 : Int))) else none else none else none else none else Zv k o1 b2_0 b2_1 v1 v2 v3 v12 (wrap64 (v13 + (1 : Int))) else none else none else Zv k o1 b2_0 b2_1 v1 v2 v3 v12 (wrap64 (v13 + (1 : Int))) else none else none else some o1
noncomputable def Zcz : Spec := Spec.mk [OSh.ro, OSh.row false (79 : Nat) (Ty.pair (Ty.int .i64) (Ty.int .i64)), OSh.box (53 : Nat) [Sh.int .i64, Sh.int .i64, Sh.sl (1 : Nat)]] [((1 : Nat), TSh.at (Sh.snap (0 : Nat) (Ty.int .i64))), ((2 : Nat), TSh.at (Sh.snap (0 : Nat) (Ty.int .i64))), ((3 : Nat), TSh.at (Sh.int .i64)), ((4 : Nat), TSh.at (Sh.ptr (2 : Nat) (0 : Nat))), ((12 : Nat), TSh.at (Sh.int .i64)), ((13 : Nat), TSh.at (Sh.int .i64))]
noncomputable def Ztr : Spec := Spec.mk [OSh.ro, OSh.row false (79 : Nat) (Ty.pair (Ty.int .i64) (Ty.int .i64))] []
noncomputable def Z3T : LoopDef (Tup Z6s × OutD) := .plain Zcz Ztr (List (Int × Int)) (fun k x => Zv k x.1.2.1 x.1.2.2.1.1 x.1.2.2.1.2.1 x.2.1 x.2.2.1 x.2.2.2.1 x.2.2.2.2.2.1 x.2.2.2.2.2.2.1) (fun z => (((), z, ()), (()))) (fun y => (y.1.2.1)) (fun _ => rfl)
noncomputable def Z6o : Nat → Int × Int × List (Int × Int) → List Int → List Int → Int → Option (List (Int × Int))
 | 0, _, _, _, _ => none
 | k + 1, p0, p1, p2, p3 =>
  Option.bind (Zv k p0.2.2 p0.1 p0.2.1 p1 p2 p3 (↑(List.length p0.2.2) : Int) (0 : Int)) fun z0 => some z0
noncomputable def Z2V : FnDef := .of Zln Z6s (List (Int × Int)) (fun k x => Z6o k x.1 x.2.1 x.2.2.1 x.2.2.2.1) ZjX ZeF ZqX
noncomputable def Zbz : Code := Try.f189.body.getD .skip
noncomputable def Z4l : Ctx (Tup Z6s × OutD) := { T := T, G := [], mvs := [], no := 1, n := 69, res := resOf T Zln Z6s Try.f189.results.toList, loops := [(0, Z3T.E)], regs := [], conds := [] }
theorem ZlN (k : Nat) : EnvOK Try.prog k Z4l.G := (EnvOK.nil mixed)
noncomputable def Z98 : Code := (findLoop 0 Zbz).getD .skip
theorem ZsI (k : Nat) (x : Zcz.D) : Z3T.lp (k + 1) x = loopK Z4l Z3T 0 Z98 k x := by kernel_rfl
theorem Ztk (k : Nat) : LOK Try.prog Z4l k Z98 := LOK.by [] (by kernel_rfl) AllOK.nil
theorem ZsU (x : Zcz.D) : Z3T.lp 0 x = none := by kernel_rfl
theorem Zrk (k : Nat) : EOK Try.prog Z4l k Z3T.E (.block 0 (.loop Z98)) := Z7 T_ok ZlN ZsU ZsI Ztk k
theorem Zzl (k : Nat) (x : Tup Z2V.ps) : Z2V.f (k + 1) x = fnK Z2V Z4l Zbz k x := by kernel_rfl
theorem ZyY (x : Tup Z2V.ps) : Z2V.f 0 x = none := by kernel_rfl
theorem ZzG (k : Nat) : LOK Try.prog Z4l k Zbz := LOK.by [(Z3T.E, .block 0 (.loop Z98))] (by kernel_rfl) (AllOK.cons (Zrk k) AllOK.nil)
theorem Zzz (k : Nat) : SoundAt Try.prog k 189 Z2V.E := @Z4 Try.prog Z2V Z4l 189 Try.f189 Zbz (by kernel_rfl) (by kernel_rfl) (by kernel_rfl) Try.func189 (by kernel_rfl) (by kernel_rfl) (by kernel_rfl) T_ok ZlN ZzG ZyY Zzl k
noncomputable def Zb5 : List PK := [PK.mk Ty.bool false none false none]
noncomputable def Zp8 : List PK := [PK.mk (Ty.pair (Ty.int .i64) (Ty.int .i64)) true none false none]
noncomputable def ZmV (r : Bool) : Tup Zb5 × OutD := ((r, ()), none)
noncomputable def Znz : Tup Zb5 × OutD → Option (Bool)
 | (a, none) => some (a.1)
 | _ => none
theorem Zvi : ∀ b r, Znz b = some r → ZmV r = b := by
 rintro ⟨a, o⟩ r h
 cases o with
 | none => injection h with h; subst h; rfl
 | some _ => cases h
noncomputable def ZaY : Nat → Int × Int → Option Bool
 | 0, _ => none
 | k + 1, p0 =>
  if decide (Prod.fst p0 = (6 : Int)) = true then some true else some (decide (Prod.fst p0 = (7 : Int)))
noncomputable def Z4F : FnDef := .of Zp8 Zb5 (Bool) (fun k x => ZaY k x.1) ZmV Znz Zvi
noncomputable def ZhF : Code := Try.f190.body.getD .skip
noncomputable def Ze4 : Ctx (Tup Zb5 × OutD) := { T := T, G := [], mvs := [], no := 0, n := 11, res := resOf T Zp8 Zb5 Try.f190.results.toList, loops := [], regs := [], conds := [] }
theorem ZDP (k : Nat) : EnvOK Try.prog k Ze4.G := (EnvOK.nil mixed)
theorem ZCA (k : Nat) (x : Tup Z4F.ps) : Z4F.f (k + 1) x = fnK Z4F Ze4 ZhF k x := by kernel_rfl
theorem ZD7 (x : Tup Z4F.ps) : Z4F.f 0 x = none := by kernel_rfl
theorem ZDb (k : Nat) : LOK Try.prog Ze4 k ZhF := LOK.by [] (by kernel_rfl) AllOK.nil
theorem ZDt (k : Nat) : SoundAt Try.prog k 190 Z4F.E := @Z4 Try.prog Z4F Ze4 190 Try.f190 ZhF (by kernel_rfl) (by kernel_rfl) (by kernel_rfl) Try.func190 (by kernel_rfl) (by kernel_rfl) (by kernel_rfl) T_ok ZDP ZDb ZD7 ZCA k
noncomputable def Zb0 : List PK := [PK.mk (Ty.slice (3 : Nat) (Ty.int .i64)) false none false none]
noncomputable def Zp1 : List PK := [PK.mk (Ty.pair (Ty.int .i64) (Ty.pair (Ty.int .i64) (Ty.slice (79 : Nat) (Ty.pair (Ty.int .i64) (Ty.int .i64))))) true none false none, PK.mk (Ty.int .i64) false none false none]
noncomputable def Zn1 (r : List Int) : Tup Zb0 × OutD := ((r, ()), none)
noncomputable def ZnC : Tup Zb0 × OutD → Option (List Int)
 | (a, none) => some (a.1)
 | _ => none
theorem Zvu : ∀ b r, ZnC b = some r → Zn1 r = b := by
 rintro ⟨a, o⟩ r h
 cases o with
 | none => injection h with h; subst h; rfl
 | some _ => cases h
noncomputable def ZdR : Nat → Int × Int × List (Int × Int) → Int → Option (List Int)
 | 0, _, _ => none
 | k + 1, p0, p1 =>
  if Prod.fst p0.2 = (0 : Int) then none else if Prod.fst p0.2 = (0 : Int) then none else if decide (wrap64 (Int.tdiv p1 p0.2.1) > (0 : Int)) = true then if decide (Int.tmod p1 p0.2.1 > (0 : Int)) = true then if decide (wrap64 (Int.tmod p1 p0.2.1 + (1 : Int)) < Prod.fst p0.2) = true then if decide (wrap64 (wrap64 (Int.tdiv p1 p0.2.1) + (1 : Int)) < Prod.fst p0) = true then some ([wrap64 (p1 - Prod.fst p0.2)] ++ [wrap64 (p1 - (1 : Int))] ++ [wrap64 (p1 + (1 : Int))] ++ [wrap64 (p1 + Prod.fst p0.2)]) else some ([wrap64 (p1 - Prod.fst p0.2)] ++ [wrap64 (p1 - (1 : Int))] ++ [wrap64 (p1 + (1 : Int))]) else if decide (wrap64 (wrap64 (Int.tdiv p1 p0.2.1) + (1 : Int)) < Prod.fst p0) = true then some ([wrap64 (p1 - Prod.fst p0.2)] ++ [wrap64 (p1 - (1 : Int))] ++ [wrap64 (p1 + Prod.fst p0.2)]) else some ([wrap64 (p1 - Prod.fst p0.2)] ++ [wrap64 (p1 - (1 : Int))]) else if decide (wrap64 (Int.tmod p1 p0.2.1 + (1 : Int)) < Prod.fst p0.2) = true then if decide (wrap64 (wrap64 (Int.tdiv p1 p0.2.1) + (1 : Int)) < Prod.fst p0) = true then some ([wrap64 (p1 - Prod.fst p0.2)] ++ [wrap64 (p1 + (1 : Int))] ++ [wrap64 (p1 + Prod.fst p0.2)]) else some ([wrap64 (p1 - Prod.fst p0.2)] ++ [wrap64 (p1 + (1 : Int))]) else if decide (wrap64 (wrap64 (Int.tdiv p1 p0.2.1) + (1 : Int)) < Prod.fst p0) = true then some ([wrap64 (p1 - Prod.fst p0.2)] ++ [wrap64 (p1 + Prod.fst p0.2)]) else some [wrap64 (p1 - Prod.fst p0.2)] else if decide (Int.tmod p1 p0.2.1 > (0 : Int)) = true then if decide (wrap64 (Int.tmod p1 p0.2.1 + (1 : Int)) < Prod.fst p0.2) = true then if decide (wrap64 (wrap64 (Int.tdiv p1 p0.2.1) + (1 : Int)) < Prod.fst p0) = true then some ([wrap64 (p1 - (1 : Int))] ++ [wrap64 (p1 + (1 : Int))] ++ [wrap64 (p1 + Prod.fst p0.2)]) else some ([wrap64 (p1 - (1 : Int))] ++ [wrap64 (p1 + (1 : Int))]) else if decide (wrap64 (wrap64 (Int.tdiv p1 p0.2.1) + (1 : Int)) < Prod.fst p0) = true then some ([wrap64 (p1 - (1 : Int))] ++ [wrap64 (p1 + Prod.fst p0.2)]) else some [wrap64 (p1 - (1 : Int))] else if decide (wrap64 (Int.tmod p1 p0.2.1 + (1 : Int)) < Prod.fst p0.2) = true then if decide (wrap64 (wrap64 (Int.tdiv p1 p0.2.1) + (1 : Int)) < Prod.fst p0) = true then some ([wrap64 (p1 + (1 : Int))] ++ [wrap64 (p1 + Prod.fst p0.2)]) else some [wrap64 (p1 + (1 : Int))] else if decide (wrap64 (wrap64 (Int.tdiv p1 p0.2.1) + (1 : Int)) < Prod.fst p0) = true then some [wrap64 (p1 + Prod.fst p0.2)] else some []
noncomputable def Z4E : FnDef := .of Zp1 Zb0 (List Int) (fun k x => ZdR k x.1 x.2.1) Zn1 ZnC Zvu
noncomputable def Zhw : Code := Try.f191.body.getD .skip
noncomputable def Ze0 : Ctx (Tup Zb0 × OutD) := { T := T, G := [], mvs := [], no := 0, n := 56, res := resOf T Zp1 Zb0 Try.f191.results.toList, loops := [], regs := [], conds := [] }
theorem ZDj (k : Nat) : EnvOK Try.prog k Ze0.G := (EnvOK.nil mixed)
theorem ZCL (k : Nat) (x : Tup Z4E.ps) : Z4E.f (k + 1) x = fnK Z4E Ze0 Zhw k x := by kernel_rfl
theorem ZCZ (x : Tup Z4E.ps) : Z4E.f 0 x = none := by kernel_rfl
theorem ZDr (k : Nat) : LOK Try.prog Ze0 k Zhw := LOK.by [] (by kernel_rfl) AllOK.nil
theorem ZCz (k : Nat) : SoundAt Try.prog k 191 Z4E.E := @Z4 Try.prog Z4E Ze0 191 Try.f191 Zhw (by kernel_rfl) (by kernel_rfl) (by kernel_rfl) Try.func191 (by kernel_rfl) (by kernel_rfl) (by kernel_rfl) T_ok ZDj ZDr ZCZ ZCL k
noncomputable def ZbY : List PK := [PK.mk (Ty.slice (3 : Nat) (Ty.int .i64)) false none false none]
noncomputable def Zy4 : List PK := [PK.mk (Ty.slice (3 : Nat) (Ty.int .i64)) false (some ((0 : Nat), (3 : Nat), Ty.int .i64)) true none, PK.mk (Ty.int .i64) false none false none]
noncomputable def Zuj (r : List Int) : Tup ZbY × OutD := ((r, ()), none)
noncomputable def Zur : Tup ZbY × OutD → Option (List Int)
 | (a, none) => some (a.1)
 | _ => none
theorem ZBH : ∀ b r, Zur b = some r → Zuj r = b := by
 rintro ⟨a, o⟩ r h
 cases o with
 | none => injection h with h; subst h; rfl
 | some _ => cases h
noncomputable def Z77 : Nat → List Int → Int → Int → Option (List Int × Int × Int)
 | 0, _, _, _ => none
 | k + 1, o1, v1, v5 =>
  if decide (v5 < (↑(List.length o1) : Int)) = true then if (0 : Int) ≤ v5 then if v5 < (↑(List.length o1) : Int) then if decide (List.getD o1 (Int.toNat v5) (0 : Int) < v1) = true then Z77 k o1 v1 (wrap64 (v5 + (1 : Int))) else some (o1, v1, v5) else none else none else some (o1, v1, v5)
noncomputable def ZhD : Spec := Spec.mk [OSh.ro, OSh.row true (3 : Nat) (Ty.int .i64)] [((0 : Nat), TSh.at (Sh.sl (1 : Nat))), ((1 : Nat), TSh.at (Sh.int .i64)), ((5 : Nat), TSh.at (Sh.int .i64))]
noncomputable def ZDf : Spec := Spec.mk [OSh.ro, OSh.row true (3 : Nat) (Ty.int .i64)] [((0 : Nat), TSh.at (Sh.sl (1 : Nat))), ((1 : Nat), TSh.at (Sh.int .i64)), ((5 : Nat), TSh.at (Sh.int .i64))]
noncomputable def Z8s : LoopDef (Tup ZbY × OutD) := .plain ZhD ZDf (List Int × Int × Int) (fun k x => Z77 k x.1.2.1 x.2.2.1 x.2.2.2.1) (fun z => (((), z.1, ()), ((), z.2.1, z.2.2, ()))) (fun y => (y.1.2.1, y.2.2.1, y.2.2.2.1)) (fun _ => rfl)
noncomputable def ZhG : Nat → List Int → Int → Option (List Int)
 | 0, _, _ => none
 | k + 1, p0, p1 =>
  Option.bind (Z77 k p0 p1 (0 : Int)) fun z0 => if decide (Prod.snd z0.2 < (↑(List.length z0.1) : Int)) = true then if (0 : Int) ≤ Prod.snd z0.2 then if Prod.snd z0.2 < (↑(List.length z0.1) : Int) then if decide (List.getD z0.1 (Int.toNat z0.2.2) (0 : Int) = Prod.fst z0.2) = true then some z0.1 else if (0 : Int) ≤ Prod.snd z0.2 then if Prod.snd z0.2 ≤ (↑(List.length z0.1) : Int) then if (0 : Nat) + List.length (List.take (Int.toNat z0.2.2 - Int.toNat (0 : Int)) (List.drop (Int.toNat (0 : Int)) z0.1)) ≤ (140737488355328 / 8 : Nat) then if List.length (List.take (Int.toNat z0.2.2 - Int.toNat (0 : Int)) (List.drop (Int.toNat (0 : Int)) z0.1)) + List.length [Prod.fst z0.2] ≤ (140737488355328 / 8 : Nat) then if (0 : Int) ≤ Prod.snd z0.2 then if Prod.snd z0.2 ≤ (↑(List.length z0.1) : Int) then if (↑(List.length z0.1) : Int) ≤ (↑(List.length z0.1) : Int) then if List.length (List.take (Int.toNat z0.2.2 - Int.toNat (0 : Int)) (List.drop (Int.toNat (0 : Int)) z0.1) ++ [Prod.fst z0.2]) + List.length (List.take (Int.toNat (↑(List.length z0.1) : Int) - Int.toNat z0.2.2) (List.drop (Int.toNat z0.2.2) z0.1)) ≤ (140737488355328 / 8 : Nat) then some (List.take (Int.toNat z0.2.2 - Int.toNat (0 : Int)) (List.drop (Int.toNat (0 : Int)) z0.1) ++ [Prod.fst z0.2] ++ List.take (Int.toNat (↑(List.length z0.1) : Int) - Int.toNat z0.2.2) (List.drop (Int.toNat z0.2.2) z0.1)) else none else none else none else none else none else none else none else none else none else none else if (0 : Int) ≤ Prod.snd z0.2 then if Prod.snd z0.2 ≤ (↑(List.length z0.1) : Int) then if (0 : Nat) + List.length (List.take (Int.toNat z0.2.2 - Int.toNat (0 : Int)) (List.drop (Int.toNat (0 : Int)) z0.1)) ≤ (140737488355328 / 8 : Nat) then if List.length (List.take (Int.toNat z0.2.2 - Int.toNat (0 : Int)) (List.drop (Int.toNat (0 : Int)) z0.1)) + List.length [Prod.fst z0.2] ≤ (140737488355328 / 8 : Nat) then if (0 : Int) ≤ Prod.snd z0.2 then if Prod.snd z0.2 ≤ (↑(List.length z0.1) : Int) then if (↑(List.length z0.1) : Int) ≤ (↑(List.length z0.1) : Int) then if List.length (List.take (Int.toNat z0.2.2 - Int.toNat (0 : Int)) (List.drop (Int.toNat (0 : Int)) z0.1) ++ [Prod.fst z0.2]) + List.length (List.take (Int.toNat (↑(List.length z0.1) : Int) - Int.toNat z0.2.2) (List.drop (Int.toNat z0.2.2) z0.1)) ≤ (140737488355328 / 8 : Nat) then some (List.take (Int.toNat z0.2.2 - Int.toNat (0 : Int)) (List.drop (Int.toNat (0 : Int)) z0.1) ++ [Prod.fst z0.2] ++ List.take (Int.toNat (↑(List.length z0.1) : Int) - Int.toNat z0.2.2) (List.drop (Int.toNat z0.2.2) z0.1)) else none else none else none else none else none else none else none else none
noncomputable def Z7M : FnDef := .of Zy4 ZbY (List Int) (fun k x => ZhG k x.1 x.2.1) Zuj Zur ZBH
noncomputable def Zio : Code := Try.f199.body.getD .skip
noncomputable def Zab : Ctx (Tup ZbY × OutD) := { T := T, G := [], mvs := [], no := 1, n := 48, res := resOf T Zy4 ZbY Try.f199.results.toList, loops := [(0, Z8s.E)], regs := [], conds := [] }
theorem ZxE (k : Nat) : EnvOK Try.prog k Zab.G := (EnvOK.nil mixed)
noncomputable def ZdV : Code := (findLoop 0 Zio).getD .skip
theorem ZDO (k : Nat) (x : ZhD.D) : Z8s.lp (k + 1) x = loopK Zab Z8s 0 ZdV k x := by kernel_rfl
theorem ZDC (k : Nat) : LOK Try.prog Zab k ZdV := LOK.by [] (by kernel_rfl) AllOK.nil
theorem ZD3 (x : ZhD.D) : Z8s.lp 0 x = none := by kernel_rfl
theorem ZCd (k : Nat) : EOK Try.prog Zab k Z8s.E (.block 0 (.loop ZdV)) := Z7 T_ok ZxE ZD3 ZDO ZDC k
theorem ZGO (k : Nat) (x : Tup Z7M.ps) : Z7M.f (k + 1) x = fnK Z7M Zab Zio k x := by kernel_rfl
theorem ZH1 (x : Tup Z7M.ps) : Z7M.f 0 x = none := by kernel_rfl
theorem ZHL (k : Nat) : LOK Try.prog Zab k Zio := LOK.by [(Z8s.E, .block 0 (.loop ZdV))] (by kernel_rfl) (AllOK.cons (ZCd k) AllOK.nil)
theorem ZGZ (k : Nat) : SoundAt Try.prog k 199 Z7M.E := @Z4 Try.prog Z7M Zab 199 Try.f199 Zio (by kernel_rfl) (by kernel_rfl) (by kernel_rfl) Try.func199 (by kernel_rfl) (by kernel_rfl) (by kernel_rfl) T_ok ZxE ZHL ZH1 ZGO k
noncomputable def Za6 : List PK := [PK.mk Ty.bool false none false none]
noncomputable def Znl : List PK := [PK.mk (Ty.pair (Ty.int .i64) (Ty.int .i64)) true none false none]
noncomputable def Zls (r : Bool) : Tup Za6 × OutD := ((r, ()), none)
noncomputable def ZlB : Tup Za6 × OutD → Option (Bool)
 | (a, none) => some (a.1)
 | _ => none
theorem Ztt : ∀ b r, ZlB b = some r → Zls r = b := by
 rintro ⟨a, o⟩ r h
 cases o with
 | none => injection h with h; subst h; rfl
 | some _ => cases h
noncomputable def Z3C : Nat → Int × Int → Option Bool
 | 0, _ => none
 | k + 1, p0 =>
  if decide (Prod.fst p0 = (3 : Int)) = true then some true else some (decide (Prod.fst p0 = (6 : Int)))
noncomputable def Z1s : FnDef := .of Znl Za6 (Bool) (fun k x => Z3C k x.1) Zls ZlB Ztt
noncomputable def ZgI : Code := Try.f207.body.getD .skip
noncomputable def ZcB : Ctx (Tup Za6 × OutD) := { T := T, G := [], mvs := [], no := 0, n := 11, res := resOf T Znl Za6 Try.f207.results.toList, loops := [], regs := [], conds := [] }
theorem ZAT (k : Nat) : EnvOK Try.prog k ZcB.G := (EnvOK.nil mixed)
theorem ZAV (k : Nat) (x : Tup Z1s.ps) : Z1s.f (k + 1) x = fnK Z1s ZcB ZgI k x := by kernel_rfl
theorem ZC8 (x : Tup Z1s.ps) : Z1s.f 0 x = none := by kernel_rfl
theorem ZAU (k : Nat) : LOK Try.prog ZcB k ZgI := LOK.by [] (by kernel_rfl) AllOK.nil
theorem Zcy (k : Nat) : SoundAt Try.prog k 207 Z1s.E := @Z4 Try.prog Z1s ZcB 207 Try.f207 ZgI (by kernel_rfl) (by kernel_rfl) (by kernel_rfl) Try.func207 (by kernel_rfl) (by kernel_rfl) (by kernel_rfl) T_ok ZAT ZAU ZC8 ZAV k
noncomputable def Zdh : List PK := [PK.mk Ty.bool false none false none]
noncomputable def Zui : List PK := [PK.mk (Ty.pair (Ty.int .i64) (Ty.int .i64)) true none false none]
noncomputable def ZrX (r : Bool) : Tup Zdh × OutD := ((r, ()), none)
noncomputable def ZqC : Tup Zdh × OutD → Option (Bool)
 | (a, none) => some (a.1)
 | _ => none
theorem ZyF : ∀ b r, ZqC b = some r → ZrX r = b := by
 rintro ⟨a, o⟩ r h
 cases o with
 | none => injection h with h; subst h; rfl
 | some _ => cases h
noncomputable def Zdn : Nat → Int × Int → Option Bool
 | 0, _ => none
 | k + 1, p0 =>
  if decide (Prod.fst p0 = (6 : Int)) = true then some true else some (decide (Prod.fst p0 = (7 : Int)))
noncomputable def Z6J : FnDef := .of Zui Zdh (Bool) (fun k x => Zdn k x.1) ZrX ZqC ZyF
noncomputable def ZkV : Code := Try.f208.body.getD .skip
noncomputable def Zgs : Ctx (Tup Zdh × OutD) := { T := T, G := [], mvs := [], no := 0, n := 11, res := resOf T Zui Zdh Try.f208.results.toList, loops := [], regs := [], conds := [] }
theorem ZGe (k : Nat) : EnvOK Try.prog k Zgs.G := (EnvOK.nil mixed)
theorem ZGj (k : Nat) (x : Tup Z6J.ps) : Z6J.f (k + 1) x = fnK Z6J Zgs ZkV k x := by kernel_rfl
theorem ZGw (x : Tup Z6J.ps) : Z6J.f 0 x = none := by kernel_rfl
theorem ZFR (k : Nat) : LOK Try.prog Zgs k ZkV := LOK.by [] (by kernel_rfl) AllOK.nil
theorem ZFy (k : Nat) : SoundAt Try.prog k 208 Z6J.E := @Z4 Try.prog Z6J Zgs 208 Try.f208 ZkV (by kernel_rfl) (by kernel_rfl) (by kernel_rfl) Try.func208 (by kernel_rfl) (by kernel_rfl) (by kernel_rfl) T_ok ZGe ZFR ZGw ZGj k
noncomputable def Zdq : List PK := [PK.mk (Ty.slice (3 : Nat) (Ty.int .i64)) false none false none]
noncomputable def Zu9 : List PK := [PK.mk (Ty.pair (Ty.int .i64) (Ty.pair (Ty.int .i64) (Ty.slice (79 : Nat) (Ty.pair (Ty.int .i64) (Ty.int .i64))))) true none false none, PK.mk (Ty.int .i64) false none false none]
noncomputable def ZrN (r : List Int) : Tup Zdq × OutD := ((r, ()), none)
noncomputable def ZrT : Tup Zdq × OutD → Option (List Int)
 | (a, none) => some (a.1)
 | _ => none
theorem ZzQ : ∀ b r, ZrT b = some r → ZrN r = b := by
 rintro ⟨a, o⟩ r h
 cases o with
 | none => injection h with h; subst h; rfl
 | some _ => cases h
noncomputable def Zgb : Nat → Int × Int × List (Int × Int) → Int → Option (List Int)
 | 0, _, _ => none
 | k + 1, p0, p1 =>
  if Prod.fst p0.2 = (0 : Int) then none else if Prod.fst p0.2 = (0 : Int) then none else if decide (wrap64 (Int.tdiv p1 p0.2.1) > (0 : Int)) = true then if decide (Int.tmod p1 p0.2.1 > (0 : Int)) = true then if decide (wrap64 (Int.tmod p1 p0.2.1 + (1 : Int)) < Prod.fst p0.2) = true then if decide (wrap64 (wrap64 (Int.tdiv p1 p0.2.1) + (1 : Int)) < Prod.fst p0) = true then some ([wrap64 (p1 - Prod.fst p0.2)] ++ [wrap64 (p1 - (1 : Int))] ++ [wrap64 (p1 + (1 : Int))] ++ [wrap64 (p1 + Prod.fst p0.2)]) else some ([wrap64 (p1 - Prod.fst p0.2)] ++ [wrap64 (p1 - (1 : Int))] ++ [wrap64 (p1 + (1 : Int))]) else if decide (wrap64 (wrap64 (Int.tdiv p1 p0.2.1) + (1 : Int)) < Prod.fst p0) = true then some ([wrap64 (p1 - Prod.fst p0.2)] ++ [wrap64 (p1 - (1 : Int))] ++ [wrap64 (p1 + Prod.fst p0.2)]) else some ([wrap64 (p1 - Prod.fst p0.2)] ++ [wrap64 (p1 - (1 : Int))]) else if decide (wrap64 (Int.tmod p1 p0.2.1 + (1 : Int)) < Prod.fst p0.2) = true then if decide (wrap64 (wrap64 (Int.tdiv p1 p0.2.1) + (1 : Int)) < Prod.fst p0) = true then some ([wrap64 (p1 - Prod.fst p0.2)] ++ [wrap64 (p1 + (1 : Int))] ++ [wrap64 (p1 + Prod.fst p0.2)]) else some ([wrap64 (p1 - Prod.fst p0.2)] ++ [wrap64 (p1 + (1 : Int))]) else if decide (wrap64 (wrap64 (Int.tdiv p1 p0.2.1) + (1 : Int)) < Prod.fst p0) = true then some ([wrap64 (p1 - Prod.fst p0.2)] ++ [wrap64 (p1 + Prod.fst p0.2)]) else some [wrap64 (p1 - Prod.fst p0.2)] else if decide (Int.tmod p1 p0.2.1 > (0 : Int)) = true then if decide (wrap64 (Int.tmod p1 p0.2.1 + (1 : Int)) < Prod.fst p0.2) = true then if decide (wrap64 (wrap64 (Int.tdiv p1 p0.2.1) + (1 : Int)) < Prod.fst p0) = true then some ([wrap64 (p1 - (1 : Int))] ++ [wrap64 (p1 + (1 : Int))] ++ [wrap64 (p1 + Prod.fst p0.2)]) else some ([wrap64 (p1 - (1 : Int))] ++ [wrap64 (p1 + (1 : Int))]) else if decide (wrap64 (wrap64 (Int.tdiv p1 p0.2.1) + (1 : Int)) < Prod.fst p0) = true then some ([wrap64 (p1 - (1 : Int))] ++ [wrap64 (p1 + Prod.fst p0.2)]) else some [wrap64 (p1 - (1 : Int))] else if decide (wrap64 (Int.tmod p1 p0.2.1 + (1 : Int)) < Prod.fst p0.2) = true then if decide (wrap64 (wrap64 (Int.tdiv p1 p0.2.1) + (1 : Int)) < Prod.fst p0) = true then some ([wrap64 (p1 + (1 : Int))] ++ [wrap64 (p1 + Prod.fst p0.2)]) else some [wrap64 (p1 + (1 : Int))] else if decide (wrap64 (wrap64 (Int.tdiv p1 p0.2.1) + (1 : Int)) < Prod.fst p0) = true then some [wrap64 (p1 + Prod.fst p0.2)] else some []
noncomputable def Z6E : FnDef := .of Zu9 Zdq (List Int) (fun k x => Zgb k x.1 x.2.1) ZrN ZrT ZzQ
noncomputable def Zlk : Code := Try.f209.body.getD .skip
noncomputable def Zgc : Ctx (Tup Zdq × OutD) := { T := T, G := [], mvs := [], no := 0, n := 55, res := resOf T Zu9 Zdq Try.f209.results.toList, loops := [], regs := [], conds := [] }
theorem ZFW (k : Nat) : EnvOK Try.prog k Zgc.G := (EnvOK.nil mixed)
theorem ZFY (k : Nat) (x : Tup Z6E.ps) : Z6E.f (k + 1) x = fnK Z6E Zgc Zlk k x := by kernel_rfl
theorem ZGp (x : Tup Z6E.ps) : Z6E.f 0 x = none := by kernel_rfl
theorem ZFU (k : Nat) : LOK Try.prog Zgc k Zlk := LOK.by [] (by kernel_rfl) AllOK.nil
theorem ZFJ (k : Nat) : SoundAt Try.prog k 209 Z6E.E := @Z4 Try.prog Z6E Zgc 209 Try.f209 Zlk (by kernel_rfl) (by kernel_rfl) (by kernel_rfl) Try.func209 (by kernel_rfl) (by kernel_rfl) (by kernel_rfl) T_ok ZFW ZFU ZGp ZFY k
noncomputable def Zdz : List PK := [PK.mk (Ty.int .i64) false none false none]
noncomputable def ZAu : List PK := [PK.mk (Ty.slice (77 : Nat) (Ty.pair (Ty.int .i64) (Ty.pair (Ty.int .i64) (Ty.int .i64)))) false none false none, PK.mk (Ty.int .i64) false none false none, PK.mk (Ty.int .i64) false none false none]
noncomputable def ZnY (r : Int) : Tup Zdz × OutD := ((r, ()), none)
noncomputable def ZmS : Tup Zdz × OutD → Option (Int)
 | (a, none) => some (a.1)
 | _ => none
theorem ZoV : ∀ b r, ZmS b = some r → ZnY r = b := by
 rintro ⟨a, o⟩ r h
 cases o with
 | none => injection h with h; subst h; rfl
 | some _ => cases h
noncomputable def Z6G : Nat → Int → Int → List (Int × Int × Int) → Int → Int → Option (LR Unit Int)
 | 0, _, _, _, _, _ => none
 | k + 1, v1, v2, v9, v10, v11 =>
  if decide (v11 < v10) = true then if (0 : Int) ≤ v11 then if v11 < (↑(List.length v9) : Int) then if decide (Prod.fst (Prod.snd (List.getD v9 (Int.toNat v11) ((0 : Int), (0 : Int), (0 : Int)))) = v1) = true then if decide (Prod.snd (Prod.snd (List.getD v9 (Int.toNat v11) ((0 : Int), (0 : Int), (0 : Int)))) = v2) = true then some (LR.ret (Prod.fst (List.getD v9 (Int.toNat v11) ((0 : Int), (0 : Int), (0 : Int))))) else Z6G k v1 v2 v9 v10 (wrap64 (v11 + (1 : Int))) else Z6G k v1 v2 v9 v10 (wrap64 (v11 + (1 : Int))) else none else none else some (LR.go ())
noncomputable def ZiZ : Spec := Spec.mk [OSh.ro] [((1 : Nat), TSh.at (Sh.int .i64)), ((2 : Nat), TSh.at (Sh.int .i64)), ((9 : Nat), TSh.at (Sh.snap (0 : Nat) (Ty.pair (Ty.int .i64) (Ty.pair (Ty.int .i64) (Ty.int .i64))))), ((10 : Nat), TSh.at (Sh.int .i64)), ((11 : Nat), TSh.at (Sh.int .i64))]
noncomputable def ZEl : Spec := Spec.mk [OSh.ro] []
noncomputable def Z9G : LoopDef (Tup Zdz × OutD) := .rets ZiZ ZEl (Unit) (Int) (fun k x => Z6G k x.2.1 x.2.2.1 x.2.2.2.1 x.2.2.2.2.1 x.2.2.2.2.2.1) (fun z => (((), ()), (()))) (fun y => ()) (fun _ => rfl) ZnY ZmS ZoV
noncomputable def ZjB : Nat → List (Int × Int × Int) → Int → Int → Option Int
 | 0, _, _, _ => none
 | k + 1, p0, p1, p2 =>
  Option.bind (Z6G k p1 p2 p0 (↑(List.length p0) : Int) (0 : Int)) fun z0 => LR.on z0 (fun y0 => some (0 : Int)) fun r0 => some r0
noncomputable def Z9v : FnDef := .of ZAu Zdz (Int) (fun k x => ZjB k x.1 x.2.1 x.2.2.1) ZnY ZmS ZoV
noncomputable def Zjz : Code := Try.f210.body.getD .skip
noncomputable def Zbw : Ctx (Tup Zdz × OutD) := { T := T, G := [], mvs := [], no := 0, n := 28, res := resOf T ZAu Zdz Try.f210.results.toList, loops := [(0, Z9G.E)], regs := [], conds := [] }
theorem ZAo (k : Nat) : EnvOK Try.prog k Zbw.G := (EnvOK.nil mixed)
noncomputable def ZeX : Code := (findLoop 0 Zjz).getD .skip
theorem ZF7 (k : Nat) (x : ZiZ.D) : Z9G.lp (k + 1) x = loopK Zbw Z9G 0 ZeX k x := by kernel_rfl
theorem ZF5 (k : Nat) : LOK Try.prog Zbw k ZeX := LOK.by [] (by kernel_rfl) AllOK.nil
theorem ZEv (x : ZiZ.D) : Z9G.lp 0 x = none := by kernel_rfl
theorem ZDu (k : Nat) : EOK Try.prog Zbw k Z9G.E (.block 0 (.loop ZeX)) := Z7 T_ok ZAo ZEv ZF7 ZF5 k
theorem ZIB (k : Nat) (x : Tup Z9v.ps) : Z9v.f (k + 1) x = fnK Z9v Zbw Zjz k x := by kernel_rfl
theorem ZIC (x : Tup Z9v.ps) : Z9v.f 0 x = none := by kernel_rfl
theorem ZIr (k : Nat) : LOK Try.prog Zbw k Zjz := LOK.by [(Z9G.E, .block 0 (.loop ZeX))] (by kernel_rfl) (AllOK.cons (ZDu k) AllOK.nil)
theorem ZIg (k : Nat) : SoundAt Try.prog k 210 Z9v.E := @Z4 Try.prog Z9v Zbw 210 Try.f210 Zjz (by kernel_rfl) (by kernel_rfl) (by kernel_rfl) Try.func210 (by kernel_rfl) (by kernel_rfl) (by kernel_rfl) T_ok ZAo ZIr ZIC ZIB k
noncomputable def Zdu : List PK := [PK.mk (Ty.int .i64) false none false none]
noncomputable def Zuo : List PK := [PK.mk (Ty.pair (Ty.int .i64) (Ty.int .i64)) true none false none, PK.mk (Ty.int .i64) false none false none]
noncomputable def ZrS (r : Int) : Tup Zdu × OutD := ((r, ()), none)
noncomputable def ZrI : Tup Zdu × OutD → Option (Int)
 | (a, none) => some (a.1)
 | _ => none
theorem ZzY : ∀ b r, ZrI b = some r → ZrS r = b := by
 rintro ⟨a, o⟩ r h
 cases o with
 | none => injection h with h; subst h; rfl
 | some _ => cases h
noncomputable def Zgg : Nat → Int × Int → Int → Option Int
 | 0, _, _ => none
 | k + 1, p0, p1 =>
  if decide (Prod.fst p0 = (1 : Int)) = true then some (-1 : Int) else if decide (Prod.fst p0 = (2 : Int)) = true then some (1 : Int) else if decide (Prod.fst p0 = (3 : Int)) = true then some (wrap64 (wrap64 ((2 : Int) * Prod.snd p0) - (1 : Int))) else if decide (Prod.fst p0 = (6 : Int)) = true then some (wrap64 (wrap64 ((2 : Int) * Prod.snd p0) - (1 : Int))) else if decide (Prod.fst p0 = (4 : Int)) = true then some (wrap64 ((0 : Int) - p1)) else some (0 : Int)
noncomputable def Z6A : FnDef := .of Zuo Zdu (Int) (fun k x => Zgg k x.1 x.2.1) ZrS ZrI ZzY
noncomputable def Zla : Code := Try.f211.body.getD .skip
noncomputable def Zgq : Ctx (Tup Zdu × OutD) := { T := T, G := [], mvs := [], no := 0, n := 22, res := resOf T Zuo Zdu Try.f211.results.toList, loops := [], regs := [], conds := [] }
theorem ZGH (k : Nat) : EnvOK Try.prog k Zgq.G := (EnvOK.nil mixed)
theorem ZGb (k : Nat) (x : Tup Z6A.ps) : Z6A.f (k + 1) x = fnK Z6A Zgq Zla k x := by kernel_rfl
theorem ZFS (x : Tup Z6A.ps) : Z6A.f 0 x = none := by kernel_rfl
theorem ZGA (k : Nat) : LOK Try.prog Zgq k Zla := LOK.by [] (by kernel_rfl) AllOK.nil
theorem ZFz (k : Nat) : SoundAt Try.prog k 211 Z6A.E := @Z4 Try.prog Z6A Zgq 211 Try.f211 Zla (by kernel_rfl) (by kernel_rfl) (by kernel_rfl) Try.func211 (by kernel_rfl) (by kernel_rfl) (by kernel_rfl) T_ok ZGH ZGA ZFS ZGb k
noncomputable def Zdw : List PK := [PK.mk Ty.bool false none false none]
noncomputable def Zum : List PK := [PK.mk (Ty.pair (Ty.int .i64) (Ty.int .i64)) true none false none]
noncomputable def ZrA (r : Bool) : Tup Zdw × OutD := ((r, ()), none)
noncomputable def ZrU : Tup Zdw × OutD → Option (Bool)
 | (a, none) => some (a.1)
 | _ => none
theorem ZyW : ∀ b r, ZrU b = some r → ZrA r = b := by
 rintro ⟨a, o⟩ r h
 cases o with
 | none => injection h with h; subst h; rfl
 | some _ => cases h
noncomputable def ZaI : Nat → Int × Int → Option Bool
 | 0, _ => none
 | k + 1, p0 =>
  if decide (Prod.fst p0 < (0 : Int)) = true then some false else if decide (Prod.fst p0 > (7 : Int)) = true then some false else if decide (Prod.snd p0 < (0 : Int)) = true then some false else if decide (Prod.snd p0 > (1 : Int)) = true then some false else if decide (Prod.snd p0 = (0 : Int)) = true then some true else if decide (Prod.fst p0 = (3 : Int)) = true then some true else some (decide (Prod.fst p0 = (6 : Int)))
noncomputable def Z3J : FnDef := .of Zum Zdw (Bool) (fun k x => ZaI k x.1) ZrA ZrU ZyW
noncomputable def ZkT : Code := Try.f213.body.getD .skip
noncomputable def Zgi : Ctx (Tup Zdw × OutD) := { T := T, G := [], mvs := [], no := 0, n := 34, res := resOf T Zum Zdw Try.f213.results.toList, loops := [], regs := [], conds := [] }
theorem ZGt (k : Nat) : EnvOK Try.prog k Zgi.G := (EnvOK.nil mixed)
theorem ZG1 (k : Nat) (x : Tup Z3J.ps) : Z3J.f (k + 1) x = fnK Z3J Zgi ZkT k x := by kernel_rfl
theorem ZFM (x : Tup Z3J.ps) : Z3J.f 0 x = none := by kernel_rfl
theorem ZFD (k : Nat) : LOK Try.prog Zgi k ZkT := LOK.by [] (by kernel_rfl) AllOK.nil
theorem ZkX (k : Nat) : SoundAt Try.prog k 213 Z3J.E := @Z4 Try.prog Z3J Zgi 213 Try.f213 ZkT (by kernel_rfl) (by kernel_rfl) (by kernel_rfl) Try.func213 (by kernel_rfl) (by kernel_rfl) (by kernel_rfl) T_ok ZGt ZFD ZFM ZG1 k
noncomputable def ZeI : List PK := [PK.mk (Ty.int .i64) false none false none]
noncomputable def Zxr : List PK := [PK.mk (Ty.int .i64) false none false none, PK.mk (Ty.int .i64) false none false none]
noncomputable def ZuK (r : Int) : Tup ZeI × OutD := ((r, ()), none)
noncomputable def Zu8 : Tup ZeI × OutD → Option (Int)
 | (a, none) => some (a.1)
 | _ => none
theorem ZCs : ∀ b r, Zu8 b = some r → ZuK r = b := by
 rintro ⟨a, o⟩ r h
 cases o with
 | none => injection h with h; subst h; rfl
 | some _ => cases h
noncomputable def ZhO : Nat → Int → Int → Option Int
 | 0, _, _ => none
 | k + 1, p0, p1 =>
  if IntKind.wrap IntKind.u64 p1 < (0 : Int) then none else some (bits BinOp.and IntKind.i64 (Int.fdiv p0 ((2 : Int) ^ min (Int.toNat (IntKind.wrap IntKind.u64 p1)) (IntKind.bits IntKind.i64))) (1 : Int))
noncomputable def Z7L : FnDef := .of Zxr ZeI (Int) (fun k x => ZhO k x.1 x.2.1) ZuK Zu8 ZCs
noncomputable def Znc : Code := Try.f215.body.getD .skip
noncomputable def ZhC : Ctx (Tup ZeI × OutD) := { T := T, G := [], mvs := [], no := 0, n := 10, res := resOf T Zxr ZeI Try.f215.results.toList, loops := [], regs := [], conds := [] }
theorem ZGW (k : Nat) : EnvOK Try.prog k ZhC.G := (EnvOK.nil mixed)
theorem ZHj (k : Nat) (x : Tup Z7L.ps) : Z7L.f (k + 1) x = fnK Z7L ZhC Znc k x := by kernel_rfl
theorem ZHH (x : Tup Z7L.ps) : Z7L.f 0 x = none := by kernel_rfl
theorem ZHq (k : Nat) : LOK Try.prog ZhC k Znc := LOK.by [] (by kernel_rfl) AllOK.nil
theorem ZGQ (k : Nat) : SoundAt Try.prog k 215 Z7L.E := @Z4 Try.prog Z7L ZhC 215 Try.f215 Znc (by kernel_rfl) (by kernel_rfl) (by kernel_rfl) Try.func215 (by kernel_rfl) (by kernel_rfl) (by kernel_rfl) T_ok ZGW ZHq ZHH ZHj k
noncomputable def Zdx : List PK := [PK.mk (Ty.pair (Ty.int .i64) (Ty.int .i64)) true none false none]
noncomputable def ZuT : List PK := [PK.mk (Ty.pair (Ty.int .i64) (Ty.int .i64)) true none false none]
noncomputable def Zr9 (r : Int × Int) : Tup Zdx × OutD := ((r, ()), none)
noncomputable def ZrR : Tup Zdx × OutD → Option (Int × Int)
 | (a, none) => some (a.1)
 | _ => none
theorem ZzF : ∀ b r, ZrR b = some r → Zr9 r = b := by
 rintro ⟨a, o⟩ r h
 cases o with
 | none => injection h with h; subst h; rfl
 | some _ => cases h
noncomputable def Zdk : Nat → Int × Int → Option (Int × Int)
 | 0, _ => none
 | k + 1, p0 =>
  some (Prod.fst p0, wrap64 ((1 : Int) - Prod.snd p0))
noncomputable def Z6D : FnDef := .of ZuT Zdx (Int × Int) (fun k x => Zdk k x.1) Zr9 ZrR ZzF
noncomputable def Zl4 : Code := Try.f218.body.getD .skip
noncomputable def Zgu : Ctx (Tup Zdx × OutD) := { T := T, G := [], mvs := [], no := 0, n := 9, res := resOf T ZuT Zdx Try.f218.results.toList, loops := [], regs := [], conds := [] }
theorem ZGn (k : Nat) : EnvOK Try.prog k Zgu.G := (EnvOK.nil mixed)
theorem ZG8 (k : Nat) (x : Tup Z6D.ps) : Z6D.f (k + 1) x = fnK Z6D Zgu Zl4 k x := by kernel_rfl
theorem ZFT (x : Tup Z6D.ps) : Z6D.f 0 x = none := by kernel_rfl
theorem ZGo (k : Nat) : LOK Try.prog Zgu k Zl4 := LOK.by [] (by kernel_rfl) AllOK.nil
theorem ZFI (k : Nat) : SoundAt Try.prog k 218 Z6D.E := @Z4 Try.prog Z6D Zgu 218 Try.f218 Zl4 (by kernel_rfl) (by kernel_rfl) (by kernel_rfl) Try.func218 (by kernel_rfl) (by kernel_rfl) (by kernel_rfl) T_ok ZGn ZGo ZFT ZG8 k
end
end Go.Proofs.Ytgjmhbjdhihgaaa.Vs
