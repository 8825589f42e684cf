/- The proof, part 5. -/
import Derived.Test.Ytgjmhbjdhihgaaaqhm3
set_option maxRecDepth 100000
set_option maxHeartbeats 2000000
set_option linter.unusedVariables false
set_option linter.unusedSimpArgs false
namespace Go.Proofs.Ytgjmhbjdhihgaaa.Vs
open Go.RowKit
noncomputable section
noncomputable def ZeO : List PK := [PK.mk Ty.bool false none false none]
noncomputable def Zxp : List PK := [PK.mk (Ty.slice (5 : Nat) (Ty.int .u8)) false none false none, PK.mk (Ty.slice (5 : Nat) (Ty.int .u8)) false none false none]
noncomputable def Zvm (r : Bool) : Tup ZeO × OutD := ((r, ()), none)
noncomputable def Zvc : Tup ZeO × OutD → Option (Bool)
 | (a, none) => some (a.1)
 | _ => none
theorem ZyB : ∀ b r, Zvc b = some r → Zvm r = b := by
 rintro ⟨a, o⟩ r h
 cases o with
 | none => injection h with h; subst h; rfl
 | some _ => cases h
noncomputable def ZeN : Nat → List Int → List Int → Option Bool
 | 0, _, _ => none
 | k + 1, p0, p1 =>
  if gtS (↑(List.length p0) : Int) (1048576 : Int) = true then some true else some (decide ((↑(List.length p1) : Int) > wrap64 ((1048576 : Int) - (↑(List.length p0) : Int))))
noncomputable def Z9E : FnDef := .of Zxp ZeO (Bool) (fun k x => ZeN k x.1 x.2.1) Zvm Zvc ZyB
noncomputable def Zon : Code := Try.f8.body.getD .skip
noncomputable def ZiC : Ctx (Tup ZeO × OutD) := { T := T, G := [], mvs := [], no := 0, n := 16, res := resOf T Zxp ZeO Try.f8.results.toList, loops := [], regs := [], conds := [] }
theorem ZDm (k : Nat) : EnvOK Try.prog k ZiC.G := (EnvOK.nil mixed)
theorem ZDp (k : Nat) (x : Tup Z9E.ps) : Z9E.f (k + 1) x = fnK Z9E ZiC Zon k x := by kernel_rfl
theorem ZD4 (x : Tup Z9E.ps) : Z9E.f 0 x = none := by kernel_rfl
theorem ZDq (k : Nat) : LOK Try.prog ZiC k Zon := LOK.by [] (by kernel_rfl) AllOK.nil
theorem ZDj (k : Nat) : SoundAt Try.prog k 8 Z9E.E := @Ze Try.prog Z9E ZiC 8 Try.f8 Zon (by kernel_rfl) (by kernel_rfl) (by kernel_rfl) Try.func8 (by kernel_rfl) (by kernel_rfl) (by kernel_rfl) T_ok ZDm ZDq ZD4 ZDp k
noncomputable def Z73 : List PK := [PK.mk Ty.bool false none false none]
noncomputable def ZkU : List PK := [PK.mk (Ty.slice (3 : Nat) (Ty.int .i64)) false none false none, PK.mk (Ty.slice (3 : Nat) (Ty.int .i64)) false none false none]
noncomputable def Zeh (r : Bool) : Tup Z73 × OutD := ((r, ()), none)
noncomputable def Ze9 : Tup Z73 × OutD → Option (Bool)
 | (a, none) => some (a.1)
 | _ => none
theorem ZfK : ∀ b r, Ze9 b = some r → Zeh r = b := by
 rintro ⟨a, o⟩ r h
 cases o with
 | none => injection h with h; subst h; rfl
 | some _ => cases h
noncomputable def Z5y : Nat → List Int → List Int → Int → Int → Option (LR Unit Bool)
 | 0, _, _, _, _ => none
 | k + 1, v0, v1, v12, v13 =>
  if decide (v13 < v12) = true then if (0 : Int) ≤ v13 then if v13 < (↑(List.length v0) : Int) then if (0 : Int) ≤ v13 then if v13 < (↑(List.length v1) : Int) then if decide (List.getD v0 (Int.toNat v13) (0 : Int) ≠ List.getD v1 (Int.toNat v13) (0 : Int)) = true then some (LR.ret false) else Z5y k v0 v1 v12 (wrap64 (v13 + (1 : Int))) else none else none else none else none else some (LR.go ())
noncomputable def Zck : Spec := Spec.mk [OSh.ro] [((0 : Nat), TSh.at (Sh.snap (0 : Nat) (Ty.int .i64))), ((1 : Nat), TSh.at (Sh.snap (0 : Nat) (Ty.int .i64))), ((12 : Nat), TSh.at (Sh.int .i64)), ((13 : Nat), TSh.at (Sh.int .i64))]
noncomputable def ZsG : Spec := Spec.mk [OSh.ro] []
noncomputable def Z53 : LoopDef (Tup Z73 × OutD) := .rets Zck ZsG (Unit) (Bool) (fun k x => Z5y k x.2.1 x.2.2.1 x.2.2.2.1 x.2.2.2.2.1) (fun z => (((), ()), (()))) (fun y => ()) (fun _ => rfl) Zeh Ze9 ZfK
noncomputable def Z9B : Nat → List Int → List Int → Option Bool
 | 0, _, _ => none
 | k + 1, p0, p1 =>
  if decide ((↑(List.length p0) : Int) ≠ (↑(List.length p1) : Int)) = true then some false else Option.bind (Z5y k p0 p1 (↑(List.length p0) : Int) (0 : Int)) fun z0 => LR.on z0 (fun y0 => some true) fun r0 => some r0
noncomputable def Z3f : FnDef := .of ZkU Z73 (Bool) (fun k x => Z9B k x.1 x.2.1) Zeh Ze9 ZfK
noncomputable def Zc1 : Code := Try.f31.body.getD .skip
noncomputable def Z5j : Ctx (Tup Z73 × OutD) := { T := T, G := [], mvs := [], no := 0, n := 26, res := resOf T ZkU Z73 Try.f31.results.toList, loops := [(0, Z53.E)], regs := [], conds := [] }
theorem ZkN (k : Nat) : EnvOK Try.prog k Z5j.G := (EnvOK.nil mixed)
noncomputable def Z9K : Code := (findLoop 0 Zc1).getD .skip
theorem Zs7 (k : Nat) (x : Zck.D) : Z53.lp (k + 1) x = loopK Z5j Z53 0 Z9K k x := by kernel_rfl
theorem Ztl (k : Nat) : LOK Try.prog Z5j k Z9K := LOK.by [] (by kernel_rfl) AllOK.nil
theorem ZrC (x : Zck.D) : Z53.lp 0 x = none := by kernel_rfl
theorem Zri (k : Nat) : EOK Try.prog Z5j k Z53.E (.block 0 (.loop Z9K)) := Zp T_ok ZkN ZrC Zs7 Ztl k
theorem Zyg (k : Nat) (x : Tup Z3f.ps) : Z3f.f (k + 1) x = fnK Z3f Z5j Zc1 k x := by kernel_rfl
theorem Zyl (x : Tup Z3f.ps) : Z3f.f 0 x = none := by kernel_rfl
theorem ZxA (k : Nat) : LOK Try.prog Z5j k Zc1 := LOK.by [(Z53.E, .block 0 (.loop Z9K))] (by kernel_rfl) (AllOK.cons (Zri k) AllOK.nil)
theorem ZkP (k : Nat) : SoundAt Try.prog k 31 Z3f.E := @Ze Try.prog Z3f Z5j 31 Try.f31 Zc1 (by kernel_rfl) (by kernel_rfl) (by kernel_rfl) Try.func31 (by kernel_rfl) (by kernel_rfl) (by kernel_rfl) T_ok ZkN ZxA Zyl Zyg k
noncomputable def Z4I : List PK := [PK.mk Ty.bool false none false none]
noncomputable def Zh6 : List PK := [PK.mk (Ty.slice (77 : Nat) (Ty.pair (Ty.int .i64) (Ty.pair (Ty.int .i64) (Ty.int .i64)))) false none false none, PK.mk (Ty.slice (77 : Nat) (Ty.pair (Ty.int .i64) (Ty.pair (Ty.int .i64) (Ty.int .i64)))) false none false none]
noncomputable def ZbG (r : Bool) : Tup Z4I × OutD := ((r, ()), none)
noncomputable def ZbN : Tup Z4I × OutD → Option (Bool)
 | (a, none) => some (a.1)
 | _ => none
theorem ZdD : ∀ b r, ZbN b = some r → ZbG r = b := by
 rintro ⟨a, o⟩ r h
 cases o with
 | none => injection h with h; subst h; rfl
 | some _ => cases h
noncomputable def Z3L : Nat → List (Int × Int × Int) → List (Int × Int × Int) → Int → Int → Option (LR Unit Bool)
 | 0, _, _, _, _ => none
 | k + 1, v0, v1, v12, v13 =>
  if decide (v13 < v12) = true then if (0 : Int) ≤ v13 then if v13 < (↑(List.length v0) : Int) then if (0 : Int) ≤ v13 then if v13 < (↑(List.length v1) : Int) then if (!(decide (Prod.fst (List.getD v0 (Int.toNat v13) ((0 : Int), (0 : Int), (0 : Int))) = Prod.fst (List.getD v1 (Int.toNat v13) ((0 : Int), (0 : Int), (0 : Int)))) && (decide (Prod.fst (Prod.snd (List.getD v0 (Int.toNat v13) ((0 : Int), (0 : Int), (0 : Int)))) = Prod.fst (Prod.snd (List.getD v1 (Int.toNat v13) ((0 : Int), (0 : Int), (0 : Int))))) && (decide (Prod.snd (Prod.snd (List.getD v0 (Int.toNat v13) ((0 : Int), (0 : Int), (0 : Int)))) = Prod.snd (Prod.snd (List.getD v1 (Int.toNat v13) ((0 : Int), (0 : Int), (0 : Int))))) && true)))) = true then some (LR.ret false) else Z3L k v0 v1 v12 (wrap64 (v13 + (1 : Int))) else none else none else none else none else some (LR.go ())
noncomputable def Zaw : Spec := Spec.mk [OSh.ro] [((0 : Nat), TSh.at (Sh.snap (0 : Nat) (Ty.pair (Ty.int .i64) (Ty.pair (Ty.int .i64) (Ty.int .i64))))), ((1 : Nat), TSh.at (Sh.snap (0 : Nat) (Ty.pair (Ty.int .i64) (Ty.pair (Ty.int .i64) (Ty.int .i64))))), ((12 : Nat), TSh.at (Sh.int .i64)), ((13 : Nat), TSh.at (Sh.int .i64))]
noncomputable def Znw : Spec := Spec.mk [OSh.ro] []
noncomputable def Z3v : LoopDef (Tup Z4I × OutD) := .rets Zaw Znw (Unit) (Bool) (fun k x => Z3L k x.2.1 x.2.2.1 x.2.2.2.1 x.2.2.2.2.1) (fun z => (((), ()), (()))) (fun y => ()) (fun _ => rfl) ZbG ZbN ZdD
noncomputable def Z6I : Nat → List (Int × Int × Int) → List (Int × Int × Int) → Option Bool
 | 0, _, _ => none
 | k + 1, p0, p1 =>
  if decide ((↑(List.length p0) : Int) ≠ (↑(List.length p1) : Int)) = true then some false else Option.bind (Z3L k p0 p1 (↑(List.length p0) : Int) (0 : Int)) fun z0 => LR.on z0 (fun y0 => some true) fun r0 => some r0
noncomputable def Z2w : FnDef := .of Zh6 Z4I (Bool) (fun k x => Z6I k x.1 x.2.1) ZbG ZbN ZdD
noncomputable def Z9y : Code := Try.f62.body.getD .skip
noncomputable def Z3E : Ctx (Tup Z4I × OutD) := { T := T, G := [], mvs := [], no := 0, n := 26, res := resOf T Zh6 Z4I Try.f62.results.toList, loops := [(0, Z3v.E)], regs := [], conds := [] }
theorem Zhq (k : Nat) : EnvOK Try.prog k Z3E.G := (EnvOK.nil mixed)
noncomputable def Z7a : Code := (findLoop 0 Z9y).getD .skip
theorem ZnH (k : Nat) (x : Zaw.D) : Z3v.lp (k + 1) x = loopK Z3E Z3v 0 Z7a k x := by kernel_rfl
theorem ZmY (k : Nat) : LOK Try.prog Z3E k Z7a := LOK.by [] (by kernel_rfl) AllOK.nil
theorem Znp (x : Zaw.D) : Z3v.lp 0 x = none := by kernel_rfl
theorem ZlR (k : Nat) : EOK Try.prog Z3E k Z3v.E (.block 0 (.loop Z7a)) := Zp T_ok Zhq Znp ZnH ZmY k
theorem Zt8 (k : Nat) (x : Tup Z2w.ps) : Z2w.f (k + 1) x = fnK Z2w Z3E Z9y k x := by kernel_rfl
theorem ZrH (x : Tup Z2w.ps) : Z2w.f 0 x = none := by kernel_rfl
theorem Zsn (k : Nat) : LOK Try.prog Z3E k Z9y := LOK.by [(Z3v.E, .block 0 (.loop Z7a))] (by kernel_rfl) (AllOK.cons (ZlR k) AllOK.nil)
theorem Zrx (k : Nat) : SoundAt Try.prog k 62 Z2w.E := @Ze Try.prog Z2w Z3E 62 Try.f62 Z9y (by kernel_rfl) (by kernel_rfl) (by kernel_rfl) Try.func62 (by kernel_rfl) (by kernel_rfl) (by kernel_rfl) T_ok Zhq Zsn ZrH Zt8 k
noncomputable def ZdE : List PK := [PK.mk Ty.bool false none false none]
noncomputable def Zva : List PK := [PK.mk (Ty.int .i64) false none false none, PK.mk (Ty.int .i64) false none false none, PK.mk (Ty.int .i64) false none false none]
noncomputable def Zta (r : Bool) : Tup ZdE × OutD := ((r, ()), none)
noncomputable def Zsx : Tup ZdE × OutD → Option (Bool)
 | (a, none) => some (a.1)
 | _ => none
theorem Zxe : ∀ b r, Zsx b = some r → Zta r = b := by
 rintro ⟨a, o⟩ r h
 cases o with
 | none => injection h with h; subst h; rfl
 | some _ => cases h
noncomputable def Z21 : Nat → Int → Int → Int → Option Bool
 | 0, _, _, _ => none
 | k + 1, p0, p1, p2 =>
  if decide (p0 ≥ p1) = true then some (decide (p0 ≤ p2)) else some false
noncomputable def Z2s : FnDef := .of Zva ZdE (Bool) (fun k x => Z21 k x.1 x.2.1 x.2.2.1) Zta Zsx Zxe
noncomputable def Zlp : Code := Try.f96.body.getD .skip
noncomputable def ZgV : Ctx (Tup ZdE × OutD) := { T := T, G := [], mvs := [], no := 0, n := 15, res := resOf T Zva ZdE Try.f96.results.toList, loops := [], regs := [], conds := [] }
theorem ZCy (k : Nat) : EnvOK Try.prog k ZgV.G := (EnvOK.nil mixed)
theorem ZBW (k : Nat) (x : Tup Z2s.ps) : Z2s.f (k + 1) x = fnK Z2s ZgV Zlp k x := by kernel_rfl
theorem ZBY (x : Tup Z2s.ps) : Z2s.f 0 x = none := by kernel_rfl
theorem ZBQ (k : Nat) : LOK Try.prog ZgV k Zlp := LOK.by [] (by kernel_rfl) AllOK.nil
theorem Z9T (k : Nat) : SoundAt Try.prog k 96 Z2s.E := @Ze Try.prog Z2s ZgV 96 Try.f96 Zlp (by kernel_rfl) (by kernel_rfl) (by kernel_rfl) Try.func96 (by kernel_rfl) (by kernel_rfl) (by kernel_rfl) T_ok ZCy ZBQ ZBY ZBW k
noncomputable def Zbo : List PK := [PK.mk (Ty.int .i64) false none false none]
noncomputable def Zpj : List PK := [PK.mk (Ty.int .i64) false none false none, PK.mk (Ty.int .i64) false none false none]
noncomputable def ZmH (r : Int) : Tup Zbo × OutD := ((r, ()), none)
noncomputable def ZnO : Tup Zbo × OutD → Option (Int)
 | (a, none) => some (a.1)
 | _ => none
theorem Zu4 : ∀ b r, ZnO b = some r → ZmH r = b := by
 rintro ⟨a, o⟩ r h
 cases o with
 | none => injection h with h; subst h; rfl
 | some _ => cases h
noncomputable def Z9a : Nat → Int → Int → Option Int
 | 0, _, _ => none
 | k + 1, p0, p1 =>
  if decide (p0 > p1) = true then some p0 else some p1
noncomputable def Z5K : FnDef := .of Zpj Zbo (Int) (fun k x => Z9a k x.1 x.2.1) ZmH ZnO Zu4
noncomputable def ZhR : Code := Try.f115.body.getD .skip
noncomputable def ZdN : Ctx (Tup Zbo × OutD) := { T := T, G := [], mvs := [], no := 0, n := 10, res := resOf T Zpj Zbo Try.f115.results.toList, loops := [], regs := [], conds := [] }
theorem ZAj (k : Nat) : EnvOK Try.prog k ZdN.G := (EnvOK.nil mixed)
theorem ZAI (k : Nat) (x : Tup Z5K.ps) : Z5K.f (k + 1) x = fnK Z5K ZdN ZhR k x := by kernel_rfl
theorem ZAJ (x : Tup Z5K.ps) : Z5K.f 0 x = none := by kernel_rfl
theorem ZzQ (k : Nat) : LOK Try.prog ZdN k ZhR := LOK.by [] (by kernel_rfl) AllOK.nil
theorem ZzH (k : Nat) : SoundAt Try.prog k 115 Z5K.E := @Ze Try.prog Z5K ZdN 115 Try.f115 ZhR (by kernel_rfl) (by kernel_rfl) (by kernel_rfl) Try.func115 (by kernel_rfl) (by kernel_rfl) (by kernel_rfl) T_ok ZAj ZzQ ZAJ ZAI k
noncomputable def Z6m : List PK := [PK.mk (Ty.pair (Ty.int .i64) (Ty.pair (Ty.int .i64) (Ty.slice (79 : Nat) (Ty.pair (Ty.int .i64) (Ty.int .i64))))) true none false none]
noncomputable def Zjv : List PK := [PK.mk (Ty.pair (Ty.int .i64) (Ty.pair (Ty.int .i64) (Ty.slice (79 : Nat) (Ty.pair (Ty.int .i64) (Ty.int .i64))))) true none false none]
noncomputable def Zim (r : Int × Int × List (Int × Int)) : Tup Z6m × OutD := ((r, ()), none)
noncomputable def Zid : Tup Z6m × OutD → Option (Int × Int × List (Int × Int))
 | (a, none) => some (a.1)
 | _ => none
theorem ZoY : ∀ b r, Zid b = some r → Zim r = b := by
 rintro ⟨a, o⟩ r h
 cases o with
 | none => injection h with h; subst h; rfl
 | some _ => cases h
noncomputable def Z4l : Nat → Int → Int → List (Int × Int) → Int → Int → List (Int × Int) → Option (Int × Int × List (Int × Int)) := fun k b1_0 b1_1 b1_2 b2_0 b2_1 o3 =>
    if (0 : Nat) + List.length b1_2 ≤ (140737488355328 / 16 : Nat) then some (b1_0, b1_1, b1_2) else none
noncomputable def Z83 : Nat → Int → Int → List (Int × Int) → Int → Int → List (Int × Int) → Option (List (Int × Int × List (Int × Int))) := fun k b1_0 b1_1 b1_2 b2_0 b2_1 o3 =>
    joinL (joinL (if (0 : Nat) + List.length b1_2 ≤ (140737488355328 / 16 : Nat) then some [(b1_0, b1_1, b1_2)] else none) (joinL (if (0 : Nat) + List.length b1_2 ≤ (140737488355328 / 16 : Nat) then some [(b1_0, b1_1, b1_2)] else none) (if (0 : Nat) + List.length b1_2 ≤ (140737488355328 / 16 : Nat) then some [(b1_0, b1_1, b1_2)] else none))) (joinL (joinL (if (0 : Nat) + List.length b1_2 ≤ (140737488355328 / 16 : Nat) then some [(b1_0, b1_1, b1_2)] else none) (joinL (if (0 : Nat) + List.length b1_2 ≤ (140737488355328 / 16 : Nat) then some [(b1_0, b1_1, b1_2)] else none) (if (0 : Nat) + List.length b1_2 ≤ (140737488355328 / 16 : Nat) then some [(b1_0, b1_1, b1_2)] else none))) (joinL (joinL (if (0 : Nat) + List.length b1_2 ≤ (140737488355328 / 16 : Nat) then some [(b1_0, b1_1, b1_2)] else none) (if (0 : Nat) + List.length b1_2 ≤ (140737488355328 / 16 : Nat) then some [(b1_0, b1_1, b1_2)] else none)) (joinL (joinL (if (0 : Nat) + List.length b1_2 ≤ (140737488355328 / 16 : Nat) then some [(b1_0, b1_1, b1_2)] else none) (if (0 : Nat) + List.length b1_2 ≤ (140737488355328 / 16 : Nat) then some [(b1_0, b1_1, b1_2)] else none)) (if (0 : Nat) + List.length b1_2 ≤ (140737488355328 / 16 : Nat) then joinL (some [(b1_0, b1_1, b1_2)]) (some [(b1_0, b1_1, b1_2)]) else none))))
noncomputable def Zfu : Spec := Spec.mk [OSh.ro, OSh.box (53 : Nat) [Sh.int .i64, Sh.int .i64, Sh.snap (0 : Nat) (Ty.pair (Ty.int .i64) (Ty.int .i64))], OSh.box (53 : Nat) [Sh.int .i64, Sh.int .i64, Sh.sl (3 : Nat)], OSh.row true (79 : Nat) (Ty.pair (Ty.int .i64) (Ty.int .i64))] [((1 : Nat), TSh.at (Sh.ptr (1 : Nat) (0 : Nat))), ((2 : Nat), TSh.at (Sh.ptr (2 : Nat) (0 : Nat)))]
noncomputable def ZoD : Spec := Spec.mk [OSh.ro, OSh.box (53 : Nat) [Sh.int .i64, Sh.int .i64, Sh.sl (2 : Nat)], OSh.row true (79 : Nat) (Ty.pair (Ty.int .i64) (Ty.int .i64))] [((2 : Nat), TSh.at (Sh.ptr (1 : Nat) (0 : Nat)))]
noncomputable def Z3U : LoopDef (Tup Z6m × OutD) := .plain Zfu ZoD (Int × Int × List (Int × Int)) (fun k x => Z4l k x.1.2.1.1 x.1.2.1.2.1 x.1.2.1.2.2.1 x.1.2.2.1.1 x.1.2.2.1.2.1 x.1.2.2.2.1) (fun z => (((), (z.1, z.2.1, (), ()), z.2.2, ()), ((), ()))) (fun y => (y.1.2.1.1, y.1.2.1.2.1, y.1.2.2.1)) (fun _ => rfl)
theorem ZoL (k : Nat) (b1_0 : Int) (b1_1 : Int) (b1_2 : List (Int × Int)) (b2_0 : Int) (b2_1 : Int) (o3 : List (Int × Int)) : Z83 k b1_0 b1_1 b1_2 b2_0 b2_1 o3 = repl 12 (Z4l k b1_0 b1_1 b1_2 b2_0 b2_1 o3) := by
 first
 | (simp only [Z83, Z4l, Zc, Zf, Za, Z9, Zb, Z8, if_true]; done)
 | (simp only [Z83, Z4l, Zc, Zf, Za, Z9, Zb, Z8, if_true]; simp only [Z4r, Z4y, Z7x, Z8]; simp only [Z9e]; exact Z5I ⟨fun h => by simp only [h, and_self], fun h => by simp only [h, and_self]⟩)
noncomputable def Z8r : Nat → Int × Int × List (Int × Int) → Option (Int × Int × List (Int × Int))
 | 0, _ => none
 | k + 1, p0 =>
  Option.bind (Z4l k p0.1 p0.2.1 p0.2.2 (0 : Int) (0 : Int) []) fun z0 => some (Prod.fst z0, Prod.fst z0.2, Prod.snd z0.2)
noncomputable def Z2E : FnDef := .of Zjv Z6m (Int × Int × List (Int × Int)) (fun k x => Z8r k x.1) Zim Zid ZoY
noncomputable def Zb6 : Code := Try.f127.body.getD .skip
noncomputable def Z23 : Ctx (Tup Z6m × OutD) := { T := T, G := [], mvs := [], no := 0, n := 12, res := resOf T Zjv Z6m Try.f127.results.toList, loops := [], regs := [(1, Z3U.E)], conds := [] }
theorem Zk3 (k : Nat) : EnvOK Try.prog k Z23.G := (EnvOK.nil mixed)
noncomputable def ZaZ : Array Oper := (findReg 1 Zb6).getD #[]
theorem Zoh (k : Nat) (x : Zfu.D) : execD Z23.T Z23.G Z23.mvs k ZaZ (Z3U.inp.st Z23.n x) (outK Z23 Z3U) = Z83 k x.1.2.1.1 x.1.2.1.2.1 x.1.2.1.2.2.1 x.1.2.2.1.1 x.1.2.2.1.2.1 x.1.2.2.2.1 := by kernel_rfl
theorem ZnL (k : Nat) : EOK Try.prog Z23 k Z3U.E (.region 1 ZaZ true) := Zan (D := Z3U) (m := 12) T_ok (Zk3 k) (fun x => (Zoh k x).trans (ZoL k x.1.2.1.1 x.1.2.1.2.1 x.1.2.1.2.2.1 x.1.2.2.1.1 x.1.2.2.1.2.1 x.1.2.2.2.1))
theorem ZwU (k : Nat) (x : Tup Z2E.ps) : Z2E.f (k + 1) x = fnK Z2E Z23 Zb6 k x := by kernel_rfl
theorem ZwK (x : Tup Z2E.ps) : Z2E.f 0 x = none := by kernel_rfl
theorem ZvW (k : Nat) : LOK Try.prog Z23 k Zb6 := LOK.by [(Z3U.E, .region 1 ZaZ true)] (by kernel_rfl) (AllOK.cons (ZnL k) AllOK.nil)
theorem Zj4 (k : Nat) : SoundAt Try.prog k 127 Z2E.E := @Ze Try.prog Z2E Z23 127 Try.f127 Zb6 (by kernel_rfl) (by kernel_rfl) (by kernel_rfl) Try.func127 (by kernel_rfl) (by kernel_rfl) (by kernel_rfl) T_ok Zk3 ZvW ZwK ZwU k
noncomputable def Z4h : List PK := [PK.mk (Ty.slice (3 : Nat) (Ty.int .i64)) false none false none]
noncomputable def ZfM : List PK := [PK.mk (Ty.pair (Ty.int .i64) (Ty.pair (Ty.int .i64) (Ty.slice (79 : Nat) (Ty.pair (Ty.int .i64) (Ty.int .i64))))) true none false none, PK.mk (Ty.slice (77 : Nat) (Ty.pair (Ty.int .i64) (Ty.pair (Ty.int .i64) (Ty.int .i64)))) false none false none]
noncomputable def ZfH (r : List Int) : Tup Z4h × OutD := ((r, ()), none)
noncomputable def Zfp : Tup Z4h × OutD → Option (List Int)
 | (a, none) => some (a.1)
 | _ => none
theorem Zkf : ∀ b r, Zfp b = some r → ZfH r = b := by
 rintro ⟨a, o⟩ r h
 cases o with
 | none => injection h with h; subst h; rfl
 | some _ => cases h
noncomputable def Z3r : Nat → Int → Int → List (Int × Int) → List Int → List (Int × Int × Int) → Int → Int → Option (List Int)
 | 0, _, _, _, _, _, _, _ => none
 | k + 1, b1_0, b1_1, b1_2, o2, v12, v13, v14 =>
  if decide (v14 < v13) = true then if (0 : Int) ≤ v14 then if v14 < (↑(List.length v12) : Int) then if (0 : Int) ≤ wrap64 (wrap64 (Prod.fst (Prod.snd (List.getD v12 (Int.toNat v14) ((0 : Int), (0 : Int), (0 : Int)))) * b1_1) + Prod.snd (Prod.snd (List.getD v12 (Int.toNat v14) ((0 : Int), (0 : Int), (0 : Int))))) then if wrap64 (wrap64 (Prod.fst (Prod.snd (List.getD v12 (Int.toNat v14) ((0 : Int), (0 : Int), (0 : Int)))) * b1_1) + Prod.snd (Prod.snd (List.getD v12 (Int.toNat v14) ((0 : Int), (0 : Int), (0 : Int))))) < (↑(List.length o2) : Int) then Z3r k b1_0 b1_1 b1_2 (List.set o2 (Int.toNat (wrap64 (wrap64 (Prod.fst (Prod.snd (List.getD v12 (Int.toNat v14) ((0 : Int), (0 : Int), (0 : Int)))) * b1_1) + Prod.snd (Prod.snd (List.getD v12 (Int.toNat v14) ((0 : Int), (0 : Int), (0 : Int))))))) (Prod.fst (List.getD v12 (Int.toNat v14) ((0 : Int), (0 : Int), (0 : Int))))) v12 v13 (wrap64 (v14 + (1 : Int))) else none else none else none else none else some o2
noncomputable def Z9Q : Spec := Spec.mk [OSh.ro, OSh.box (53 : Nat) [Sh.int .i64, Sh.int .i64, Sh.snap (0 : Nat) (Ty.pair (Ty.int .i64) (Ty.int .i64))], OSh.row true (3 : Nat) (Ty.int .i64)] [((2 : Nat), TSh.at (Sh.ptr (1 : Nat) (0 : Nat))), ((5 : Nat), TSh.at (Sh.sl (2 : Nat))), ((12 : Nat), TSh.at (Sh.snap (0 : Nat) (Ty.pair (Ty.int .i64) (Ty.pair (Ty.int .i64) (Ty.int .i64))))), ((13 : Nat), TSh.at (Sh.int .i64)), ((14 : Nat), TSh.at (Sh.int .i64))]
noncomputable def ZlG : Spec := Spec.mk [OSh.ro, OSh.row true (3 : Nat) (Ty.int .i64)] [((5 : Nat), TSh.at (Sh.sl (1 : Nat)))]
noncomputable def Z2U : LoopDef (Tup Z4h × OutD) := .plain Z9Q ZlG (List Int) (fun k x => Z3r k x.1.2.1.1 x.1.2.1.2.1 x.1.2.1.2.2.1 x.1.2.2.1 x.2.2.2.1 x.2.2.2.2.1 x.2.2.2.2.2.1) (fun z => (((), z, ()), ((), ()))) (fun y => (y.1.2.1)) (fun _ => rfl)
noncomputable def Z8J : Nat → Int × Int × List (Int × Int) → List (Int × Int × Int) → Option (List Int)
 | 0, _, _ => none
 | k + 1, p0, p1 =>
  if Int.toNat (↑(List.length p0.2.2) : Int) * (8 : Nat) ≤ (281474976710656 : Nat) then Option.bind (Z3r k p0.1 p0.2.1 p0.2.2 (List.replicate (Int.toNat (↑(List.length p0.2.2) : Int)) (0 : Int)) p1 (↑(List.length p1) : Int) (0 : Int)) fun z0 => some z0 else none
noncomputable def Z2a : FnDef := .of ZfM Z4h (List Int) (fun k x => Z8J k x.1 x.2.1) ZfH Zfp Zkf
noncomputable def Z8P : Code := Try.f129.body.getD .skip
noncomputable def Z39 : Ctx (Tup Z4h × OutD) := { T := T, G := [], mvs := [], no := 0, n := 32, res := resOf T ZfM Z4h Try.f129.results.toList, loops := [(0, Z2U.E)], regs := [], conds := [] }
theorem Zg6 (k : Nat) : EnvOK Try.prog k Z39.G := (EnvOK.nil mixed)
noncomputable def Z6y : Code := (findLoop 0 Z8P).getD .skip
theorem Zlt (k : Nat) (x : Z9Q.D) : Z2U.lp (k + 1) x = loopK Z39 Z2U 0 Z6y k x := by kernel_rfl
theorem ZlO (k : Nat) : LOK Try.prog Z39 k Z6y := LOK.by [] (by kernel_rfl) AllOK.nil
theorem ZlJ (x : Z9Q.D) : Z2U.lp 0 x = none := by kernel_rfl
theorem Zkx (k : Nat) : EOK Try.prog Z39 k Z2U.E (.block 0 (.loop Z6y)) := Zp T_ok Zg6 ZlJ Zlt ZlO k
theorem Zqp (k : Nat) (x : Tup Z2a.ps) : Z2a.f (k + 1) x = fnK Z2a Z39 Z8P k x := by kernel_rfl
theorem Zrh (x : Tup Z2a.ps) : Z2a.f 0 x = none := by kernel_rfl
theorem Zra (k : Nat) : LOK Try.prog Z39 k Z8P := LOK.by [(Z2U.E, .block 0 (.loop Z6y))] (by kernel_rfl) (AllOK.cons (Zkx k) AllOK.nil)
theorem Zqi (k : Nat) : SoundAt Try.prog k 129 Z2a.E := @Ze Try.prog Z2a Z39 129 Try.f129 Z8P (by kernel_rfl) (by kernel_rfl) (by kernel_rfl) Try.func129 (by kernel_rfl) (by kernel_rfl) (by kernel_rfl) T_ok Zg6 Zra Zrh Zqp k
noncomputable def ZT : List PK := [PK.mk Ty.bool false none false none]
noncomputable def Z7K : List PK := [PK.mk (Ty.slice (63 : Nat) (Ty.pair (Ty.int .i64) (Ty.pair (Ty.int .i64) (Ty.int .i64)))) false none false none, PK.mk (Ty.slice (63 : Nat) (Ty.pair (Ty.int .i64) (Ty.pair (Ty.int .i64) (Ty.int .i64)))) false none false none]
noncomputable def Z3R (r : Bool) : Tup ZT × OutD := ((r, ()), none)
noncomputable def Z3O : Tup ZT × OutD → Option (Bool)
 | (a, none) => some (a.1)
 | _ => none
theorem Z5X : ∀ b r, Z3O b = some r → Z3R r = b := by
 rintro ⟨a, o⟩ r h
 cases o with
 | none => injection h with h; subst h; rfl
 | some _ => cases h
noncomputable def ZQ : Nat → List (Int × Int × Int) → List (Int × Int × Int) → Int → Int → Option (LR Unit Bool)
 | 0, _, _, _, _ => none
 | k + 1, v0, v1, v12, v13 =>
  if decide (v13 < v12) = true then if (0 : Int) ≤ v13 then if v13 < (↑(List.length v0) : Int) then if (0 : Int) ≤ v13 then if v13 < (↑(List.length v1) : Int) then if (!(decide (Prod.fst (List.getD v0 (Int.toNat v13) ((0 : Int), (0 : Int), (0 : Int))) = Prod.fst (List.getD v1 (Int.toNat v13) ((0 : Int), (0 : Int), (0 : Int)))) && (decide (Prod.fst (Prod.snd (List.getD v0 (Int.toNat v13) ((0 : Int), (0 : Int), (0 : Int)))) = Prod.fst (Prod.snd (List.getD v1 (Int.toNat v13) ((0 : Int), (0 : Int), (0 : Int))))) && (decide (Prod.snd (Prod.snd (List.getD v0 (Int.toNat v13) ((0 : Int), (0 : Int), (0 : Int)))) = Prod.snd (Prod.snd (List.getD v1 (Int.toNat v13) ((0 : Int), (0 : Int), (0 : Int))))) && true)))) = true then some (LR.ret false) else ZQ k v0 v1 v12 (wrap64 (v13 + (1 : Int))) else none else none else none else none else some (LR.go ())
noncomputable def Z3k : Spec := Spec.mk [OSh.ro] [((0 : Nat), TSh.at (Sh.snap (0 : Nat) (Ty.pair (Ty.int .i64) (Ty.pair (Ty.int .i64) (Ty.int .i64))))), ((1 : Nat), TSh.at (Sh.snap (0 : Nat) (Ty.pair (Ty.int .i64) (Ty.pair (Ty.int .i64) (Ty.int .i64))))), ((12 : Nat), TSh.at (Sh.int .i64)), ((13 : Nat), TSh.at (Sh.int .i64))]
noncomputable def Zc8 : Spec := Spec.mk [OSh.ro] []
noncomputable def ZM : LoopDef (Tup ZT × OutD) := .rets Z3k Zc8 (Unit) (Bool) (fun k x => ZQ k x.2.1 x.2.2.1 x.2.2.2.1 x.2.2.2.2.1) (fun z => (((), ()), (()))) (fun y => ()) (fun _ => rfl) Z3R Z3O Z5X
noncomputable def Z2h : Nat → List (Int × Int × Int) → List (Int × Int × Int) → Option Bool
 | 0, _, _ => none
 | k + 1, p0, p1 =>
  if decide ((↑(List.length p0) : Int) ≠ (↑(List.length p1) : Int)) = true then some false else Option.bind (ZQ k p0 p1 (↑(List.length p0) : Int) (0 : Int)) fun z0 => LR.on z0 (fun y0 => some true) fun r0 => some r0
noncomputable def Zy : FnDef := .of Z7K ZT (Bool) (fun k x => Z2h k x.1 x.2.1) Z3R Z3O Z5X
noncomputable def Z2f : Code := Try.f166.body.getD .skip
noncomputable def ZI : Ctx (Tup ZT × OutD) := { T := T, G := [], mvs := [], no := 0, n := 26, res := resOf T Z7K ZT Try.f166.results.toList, loops := [(0, ZM.E)], regs := [], conds := [] }
theorem Z7H (k : Nat) : EnvOK Try.prog k ZI.G := (EnvOK.nil mixed)
noncomputable def Z1O : Code := (findLoop 0 Z2f).getD .skip
theorem Zca (k : Nat) (x : Z3k.D) : ZM.lp (k + 1) x = loopK ZI ZM 0 Z1O k x := by kernel_rfl
theorem Zcb (k : Nat) : LOK Try.prog ZI k Z1O := LOK.by [] (by kernel_rfl) AllOK.nil
theorem Zc9 (x : Z3k.D) : ZM.lp 0 x = none := by kernel_rfl
theorem ZbP (k : Nat) : EOK Try.prog ZI k ZM.E (.block 0 (.loop Z1O)) := Zp T_ok Z7H Zc9 Zca Zcb k
theorem Zdu (k : Nat) (x : Tup Zy.ps) : Zy.f (k + 1) x = fnK Zy ZI Z2f k x := by kernel_rfl
theorem Zdg (x : Tup Zy.ps) : Zy.f 0 x = none := by kernel_rfl
theorem Zdk (k : Nat) : LOK Try.prog ZI k Z2f := LOK.by [(ZM.E, .block 0 (.loop Z1O))] (by kernel_rfl) (AllOK.cons (ZbP k) AllOK.nil)
theorem Zdd (k : Nat) : SoundAt Try.prog k 166 Zy.E := @Ze Try.prog Zy ZI 166 Try.f166 Z2f (by kernel_rfl) (by kernel_rfl) (by kernel_rfl) Try.func166 (by kernel_rfl) (by kernel_rfl) (by kernel_rfl) T_ok Z7H Zdk Zdg Zdu k
noncomputable def Z97 : List PK := [PK.mk (Ty.int .i64) false none false none]
noncomputable def Zpr : List PK := [PK.mk (Ty.slice (63 : Nat) (Ty.pair (Ty.int .i64) (Ty.pair (Ty.int .i64) (Ty.int .i64)))) false none false none, PK.mk (Ty.slice (63 : Nat) (Ty.pair (Ty.int .i64) (Ty.pair (Ty.int .i64) (Ty.int .i64)))) false none false none]
noncomputable def Zgk (r : Int) : Tup Z97 × OutD := ((r, ()), none)
noncomputable def ZgH : Tup Z97 × OutD → Option (Int)
 | (a, none) => some (a.1)
 | _ => none
theorem Zio : ∀ b r, ZgH b = some r → Zgk r = b := by
 rintro ⟨a, o⟩ r h
 cases o with
 | none => injection h with h; subst h; rfl
 | some _ => cases h
noncomputable def Z71 : Nat → List (Int × Int × Int) → List (Int × Int × Int) → Int → Int → Option (LR Unit Int)
 | 0, _, _, _, _ => none
 | k + 1, v1, v7, v8, v9 =>
  if decide (v9 < v8) = true then if (0 : Int) ≤ v9 then if v9 < (↑(List.length v7) : Int) then if (0 : Int) ≤ v9 then if v9 < (↑(List.length v1) : Int) then if (!(decide (Prod.fst (List.getD v7 (Int.toNat v9) ((0 : Int), (0 : Int), (0 : Int))) = Prod.fst (List.getD v1 (Int.toNat v9) ((0 : Int), (0 : Int), (0 : Int)))) && (decide (Prod.fst (Prod.snd (List.getD v7 (Int.toNat v9) ((0 : Int), (0 : Int), (0 : Int)))) = Prod.fst (Prod.snd (List.getD v1 (Int.toNat v9) ((0 : Int), (0 : Int), (0 : Int))))) && (decide (Prod.snd (Prod.snd (List.getD v7 (Int.toNat v9) ((0 : Int), (0 : Int), (0 : Int)))) = Prod.snd (Prod.snd (List.getD v1 (Int.toNat v9) ((0 : Int), (0 : Int), (0 : Int))))) && true)))) = true then some (LR.ret v9) else Z71 k v1 v7 v8 (wrap64 (v9 + (1 : Int))) else none else none else none else none else some (LR.go ())
noncomputable def Ze8 : Spec := Spec.mk [OSh.ro] [((1 : Nat), TSh.at (Sh.snap (0 : Nat) (Ty.pair (Ty.int .i64) (Ty.pair (Ty.int .i64) (Ty.int .i64))))), ((7 : Nat), TSh.at (Sh.snap (0 : Nat) (Ty.pair (Ty.int .i64) (Ty.pair (Ty.int .i64) (Ty.int .i64))))), ((8 : Nat), TSh.at (Sh.int .i64)), ((9 : Nat), TSh.at (Sh.int .i64))]
noncomputable def ZvJ : Spec := Spec.mk [OSh.ro] []
noncomputable def Z6q : LoopDef (Tup Z97 × OutD) := .rets Ze8 ZvJ (Unit) (Int) (fun k x => Z71 k x.2.1 x.2.2.1 x.2.2.2.1 x.2.2.2.2.1) (fun z => (((), ()), (()))) (fun y => ()) (fun _ => rfl) Zgk ZgH Zio
noncomputable def Ze2 : Nat → List (Int × Int × Int) → List (Int × Int × Int) → Option Int
 | 0, _, _ => none
 | k + 1, p0, p1 =>
  Option.bind (Z71 k p1 p0 (↑(List.length p0) : Int) (0 : Int)) fun z0 => LR.on z0 (fun y0 => some (-1 : Int)) fun r0 => some r0
noncomputable def Z5G : FnDef := .of Zpr Z97 (Int) (fun k x => Ze2 k x.1 x.2.1) Zgk ZgH Zio
noncomputable def ZdS : Code := Try.f168.body.getD .skip
noncomputable def Z7s : Ctx (Tup Z97 × OutD) := { T := T, G := [], mvs := [], no := 0, n := 22, res := resOf T Zpr Z97 Try.f168.results.toList, loops := [(0, Z6q.E)], regs := [], conds := [] }
theorem Zpo (k : Nat) : EnvOK Try.prog k Z7s.G := (EnvOK.nil mixed)
noncomputable def ZaN : Code := (findLoop 0 ZdS).getD .skip
theorem Zwy (k : Nat) (x : Ze8.D) : Z6q.lp (k + 1) x = loopK Z7s Z6q 0 ZaN k x := by kernel_rfl
theorem ZvR (k : Nat) : LOK Try.prog Z7s k ZaN := LOK.by [] (by kernel_rfl) AllOK.nil
theorem ZvS (x : Ze8.D) : Z6q.lp 0 x = none := by kernel_rfl
theorem Zuq (k : Nat) : EOK Try.prog Z7s k Z6q.E (.block 0 (.loop ZaN)) := Zp T_ok Zpo ZvS Zwy ZvR k
theorem ZzT (k : Nat) (x : Tup Z5G.ps) : Z5G.f (k + 1) x = fnK Z5G Z7s ZdS k x := by kernel_rfl
theorem ZAx (x : Tup Z5G.ps) : Z5G.f 0 x = none := by kernel_rfl
theorem ZzY (k : Nat) : LOK Try.prog Z7s k ZdS := LOK.by [(Z6q.E, .block 0 (.loop ZaN))] (by kernel_rfl) (AllOK.cons (Zuq k) AllOK.nil)
theorem ZAr (k : Nat) : SoundAt Try.prog k 168 Z5G.E := @Ze Try.prog Z5G Z7s 168 Try.f168 ZdS (by kernel_rfl) (by kernel_rfl) (by kernel_rfl) Try.func168 (by kernel_rfl) (by kernel_rfl) (by kernel_rfl) T_ok Zpo ZzY ZAx ZzT k
noncomputable def Z7J : List PK := [PK.mk (Ty.int .i64) false none false none]
noncomputable def Zi4 : List PK := [PK.mk (Ty.pair (Ty.slice (5 : Nat) (Ty.int .u8)) (Ty.pair (Ty.int .i64) (Ty.int .u64))) false none false (some (114 : Nat))]
noncomputable def ZgZ (r : Int × Int × Int) : Tup Z7J × OutD := ((r.1, ()), some ⟨Ty.pair (Ty.slice (5 : Nat) (Ty.int .u8)) (Ty.pair (Ty.int .i64) (Ty.int .u64)), [([], r.2)]⟩)
noncomputable def Zce : Tup Z7J × OutD → Option (Int × Int × Int)
 | (a, some ⟨u, ys⟩) => if h : u = Ty.pair (Ty.slice (5 : Nat) (Ty.int .u8)) (Ty.pair (Ty.int .i64) (Ty.int .u64)) then (match castU h ys with
  | [([], y)] => some (a.1, y)
  | _ => none) else none
 | _ => none
theorem ZnQ : ∀ b r, Zce b = some r → ZgZ r = b := by
 rintro ⟨a, o⟩ r h
 cases o with
 | none => cases h
 | some s =>
  obtain ⟨u, ys⟩ := s
  simp only [Zce] at h
  split at h
  ·rename_i hu
   subst hu
   match ys, h with
   | [], h => cases (show (none : Option _) = some r from h)
   | [([], y)], h => injection (show some _ = some r from h) with h; subst h; rfl
   | [(_ :: _, y)], h => cases (show (none : Option _) = some r from h)
   | (h1, _) :: _ :: _, h => cases h1 <;> cases (show (none : Option _) = some r from h)
  ·cases h
noncomputable def Z5A : Nat → List Int × Int × Int → Option (Int × Int × Int)
 | 0, _ => none
 | k + 1, p0 =>
  if decide (Prod.fst p0.2 < (↑(List.length p0.1) : Int)) = true then if (0 : Int) ≤ Prod.fst p0.2 then if Prod.fst p0.2 < (↑(List.length p0.1) : Int) then if decide (wrap64 (Prod.fst p0.2 + (1 : Int)) ≤ (↑(List.length p0.1) : Int)) = true then some (wrap64 (List.getD p0.1 (Int.toNat p0.2.1) (0 : Int)), wrap64 (Prod.fst p0.2 + (1 : Int)), IntKind.wrap IntKind.u64 (IntKind.wrap IntKind.u64 (IntKind.wrap IntKind.u64 (Prod.snd p0.2 * (6364136223846793005 : Int)) + IntKind.wrap IntKind.u64 (wrap64 (List.getD p0.1 (Int.toNat p0.2.1) (0 : Int)))) + (1442695040888963407 : Int))) else some (wrap64 (bits BinOp.and IntKind.u64 (Int.fdiv (IntKind.wrap IntKind.u64 (IntKind.wrap IntKind.u64 (IntKind.wrap IntKind.u64 (Prod.snd p0.2 * (6364136223846793005 : Int)) + IntKind.wrap IntKind.u64 (wrap64 (List.getD p0.1 (Int.toNat p0.2.1) (0 : Int)))) + (1442695040888963407 : Int))) ((2 : Int) ^ min (Int.toNat (40 : Int)) (IntKind.bits IntKind.u64))) (255 : Int)), wrap64 (Prod.fst p0.2 + (1 : Int)), IntKind.wrap IntKind.u64 (IntKind.wrap IntKind.u64 (IntKind.wrap IntKind.u64 (Prod.snd p0.2 * (6364136223846793005 : Int)) + IntKind.wrap IntKind.u64 (wrap64 (List.getD p0.1 (Int.toNat p0.2.1) (0 : Int)))) + (1442695040888963407 : Int))) else none else none else if decide (wrap64 (Prod.fst p0.2 + (1 : Int)) ≤ (↑(List.length p0.1) : Int)) = true then some ((0 : Int), wrap64 (Prod.fst p0.2 + (1 : Int)), IntKind.wrap IntKind.u64 (IntKind.wrap IntKind.u64 (IntKind.wrap IntKind.u64 (Prod.snd p0.2 * (6364136223846793005 : Int)) + IntKind.wrap IntKind.u64 (0 : Int)) + (1442695040888963407 : Int))) else some (wrap64 (bits BinOp.and IntKind.u64 (Int.fdiv (IntKind.wrap IntKind.u64 (IntKind.wrap IntKind.u64 (IntKind.wrap IntKind.u64 (Prod.snd p0.2 * (6364136223846793005 : Int)) + IntKind.wrap IntKind.u64 (0 : Int)) + (1442695040888963407 : Int))) ((2 : Int) ^ min (Int.toNat (40 : Int)) (IntKind.bits IntKind.u64))) (255 : Int)), wrap64 (Prod.fst p0.2 + (1 : Int)), IntKind.wrap IntKind.u64 (IntKind.wrap IntKind.u64 (IntKind.wrap IntKind.u64 (Prod.snd p0.2 * (6364136223846793005 : Int)) + IntKind.wrap IntKind.u64 (0 : Int)) + (1442695040888963407 : Int)))
noncomputable def Z37 : FnDef := .of Zi4 Z7J (Int × Int × Int) (fun k x => Z5A k x.1) ZgZ Zce ZnQ
noncomputable def Zdh : Code := Try.f175.body.getD .skip
noncomputable def Za0 : Ctx (Tup Z7J × OutD) := { T := T, G := [], mvs := [], no := 2, n := 62, res := resOf T Zi4 Z7J Try.f175.results.toList, loops := [], regs := [], conds := [] }
theorem ZtM (k : Nat) : EnvOK Try.prog k Za0.G := (EnvOK.nil mixed)
theorem ZtU (k : Nat) (x : Tup Z37.ps) : Z37.f (k + 1) x = fnK Z37 Za0 Zdh k x := by kernel_rfl
theorem ZtX (x : Tup Z37.ps) : Z37.f 0 x = none := by kernel_rfl
theorem ZtO (k : Nat) : LOK Try.prog Za0 k Zdh := LOK.by [] (by kernel_rfl) AllOK.nil
theorem Zv3 (k : Nat) : SoundAt Try.prog k 175 Z37.E := @Ze Try.prog Z37 Za0 175 Try.f175 Zdh (by kernel_rfl) (by kernel_rfl) (by kernel_rfl) Try.func175 (by kernel_rfl) (by kernel_rfl) (by kernel_rfl) T_ok ZtM ZtO ZtX ZtU k
noncomputable def ZdG : List PK := [PK.mk (Ty.pair (Ty.int .i64) (Ty.int .i64)) true none false none]
noncomputable def Zvn : List PK := [PK.mk (Ty.pair (Ty.int .i64) (Ty.pair (Ty.int .i64) (Ty.slice (79 : Nat) (Ty.pair (Ty.int .i64) (Ty.int .i64))))) true none false none, PK.mk (Ty.int .i64) false none false none, PK.mk (Ty.int .i64) false none false none]
noncomputable def ZrN (r : Int × Int) : Tup ZdG × OutD := ((r, ()), none)
noncomputable def ZrP : Tup ZdG × OutD → Option (Int × Int)
 | (a, none) => some (a.1)
 | _ => none
theorem Zxk : ∀ b r, ZrP b = some r → ZrN r = b := by
 rintro ⟨a, o⟩ r h
 cases o with
 | none => injection h with h; subst h; rfl
 | some _ => cases h
noncomputable def Z87 : Nat → Int × Int × List (Int × Int) → Int → Int → Option (Int × Int)
 | 0, _, _, _ => none
 | k + 1, p0, p1, p2 =>
  if (0 : Int) ≤ wrap64 (wrap64 (p1 * Prod.fst p0.2) + p2) then if wrap64 (wrap64 (p1 * Prod.fst p0.2) + p2) < (↑(List.length p0.2.2) : Int) then some (Prod.fst (List.getD p0.2.2 (Int.toNat (wrap64 (wrap64 (p1 * Prod.fst p0.2) + p2))) ((0 : Int), (0 : Int))), Prod.snd (List.getD p0.2.2 (Int.toNat (wrap64 (wrap64 (p1 * Prod.fst p0.2) + p2))) ((0 : Int), (0 : Int)))) else none else none
noncomputable def Z55 : FnDef := .of Zvn ZdG (Int × Int) (fun k x => Z87 k x.1 x.2.1 x.2.2.1) ZrN ZrP Zxk
noncomputable def Zls : Code := Try.f183.body.getD .skip
noncomputable def ZgN : Ctx (Tup ZdG × OutD) := { T := T, G := [], mvs := [], no := 0, n := 17, res := resOf T Zvn ZdG Try.f183.results.toList, loops := [], regs := [], conds := [] }
theorem ZCu (k : Nat) : EnvOK Try.prog k ZgN.G := (EnvOK.nil mixed)
theorem ZCo (k : Nat) (x : Tup Z55.ps) : Z55.f (k + 1) x = fnK Z55 ZgN Zls k x := by kernel_rfl
theorem ZC1 (x : Tup Z55.ps) : Z55.f 0 x = none := by kernel_rfl
theorem ZCx (k : Nat) : LOK Try.prog ZgN k Zls := LOK.by [] (by kernel_rfl) AllOK.nil
theorem Zm5 (k : Nat) : SoundAt Try.prog k 183 Z55.E := @Ze Try.prog Z55 ZgN 183 Try.f183 Zls (by kernel_rfl) (by kernel_rfl) (by kernel_rfl) Try.func183 (by kernel_rfl) (by kernel_rfl) (by kernel_rfl) T_ok ZCu ZCx ZC1 ZCo k
noncomputable def Zak : List PK := [PK.mk (Ty.pair (Ty.int .i64) (Ty.pair (Ty.int .i64) (Ty.slice (79 : Nat) (Ty.pair (Ty.int .i64) (Ty.int .i64))))) true none false none]
noncomputable def Zt4 : List PK := [PK.mk (Ty.pair (Ty.int .i64) (Ty.pair (Ty.int .i64) (Ty.slice (79 : Nat) (Ty.pair (Ty.int .i64) (Ty.int .i64))))) true none false none]
noncomputable def Zpm (r : Int × Int × List (Int × Int)) : Tup Zak × OutD := ((r, ()), none)
noncomputable def Zph : Tup Zak × OutD → Option (Int × Int × List (Int × Int))
 | (a, none) => some (a.1)
 | _ => none
theorem Zx0 : ∀ b r, Zph b = some r → Zpm r = b := by
 rintro ⟨a, o⟩ r h
 cases o with
 | none => injection h with h; subst h; rfl
 | some _ => cases h
noncomputable def Z7g : Nat → Int → Int → List (Int × Int) → Int → Int → List (Int × Int) → Option (Int × Int × List (Int × Int)) := fun k b1_0 b1_1 b1_2 b2_0 b2_1 o3 =>
    if (0 : Nat) + List.length b1_2 ≤ (140737488355328 / 16 : Nat) then some (b1_0, b1_1, b1_2) else none
noncomputable def Zbg : Nat → Int → Int → List (Int × Int) → Int → Int → List (Int × Int) → Option (List (Int × Int × List (Int × Int))) := fun k b1_0 b1_1 b1_2 b2_0 b2_1 o3 =>
    joinL (joinL (if (0 : Nat) + List.length b1_2 ≤ (140737488355328 / 16 : Nat) then some [(b1_0, b1_1, b1_2)] else none) (joinL (if (0 : Nat) + List.length b1_2 ≤ (140737488355328 / 16 : Nat) then some [(b1_0, b1_1, b1_2)] else none) (if (0 : Nat) + List.length b1_2 ≤ (140737488355328 / 16 : Nat) then some [(b1_0, b1_1, b1_2)] else none))) (joinL (joinL (if (0 : Nat) + List.length b1_2 ≤ (140737488355328 / 16 : Nat) then some [(b1_0, b1_1, b1_2)] else none) (joinL (if (0 : Nat) + List.length b1_2 ≤ (140737488355328 / 16 : Nat) then some [(b1_0, b1_1, b1_2)] else none) (if (0 : Nat) + List.length b1_2 ≤ (140737488355328 / 16 : Nat) then some [(b1_0, b1_1, b1_2)] else none))) (joinL (joinL (if (0 : Nat) + List.length b1_2 ≤ (140737488355328 / 16 : Nat) then some [(b1_0, b1_1, b1_2)] else none) (if (0 : Nat) + List.length b1_2 ≤ (140737488355328 / 16 : Nat) then some [(b1_0, b1_1, b1_2)] else none)) (joinL (joinL (if (0 : Nat) + List.length b1_2 ≤ (140737488355328 / 16 : Nat) then some [(b1_0, b1_1, b1_2)] else none) (if (0 : Nat) + List.length b1_2 ≤ (140737488355328 / 16 : Nat) then some [(b1_0, b1_1, b1_2)] else none)) (if (0 : Nat) + List.length b1_2 ≤ (140737488355328 / 16 : Nat) then joinL (some [(b1_0, b1_1, b1_2)]) (some [(b1_0, b1_1, b1_2)]) else none))))
noncomputable def Zjo : Spec := Spec.mk [OSh.ro, OSh.box (53 : Nat) [Sh.int .i64, Sh.int .i64, Sh.snap (0 : Nat) (Ty.pair (Ty.int .i64) (Ty.int .i64))], OSh.box (53 : Nat) [Sh.int .i64, Sh.int .i64, Sh.sl (3 : Nat)], OSh.row true (79 : Nat) (Ty.pair (Ty.int .i64) (Ty.int .i64))] [((1 : Nat), TSh.at (Sh.ptr (1 : Nat) (0 : Nat))), ((2 : Nat), TSh.at (Sh.ptr (2 : Nat) (0 : Nat)))]
noncomputable def Zwv : Spec := Spec.mk [OSh.ro, OSh.box (53 : Nat) [Sh.int .i64, Sh.int .i64, Sh.sl (2 : Nat)], OSh.row true (79 : Nat) (Ty.pair (Ty.int .i64) (Ty.int .i64))] [((2 : Nat), TSh.at (Sh.ptr (1 : Nat) (0 : Nat)))]
noncomputable def Z66 : LoopDef (Tup Zak × OutD) := .plain Zjo Zwv (Int × Int × List (Int × Int)) (fun k x => Z7g k x.1.2.1.1 x.1.2.1.2.1 x.1.2.1.2.2.1 x.1.2.2.1.1 x.1.2.2.1.2.1 x.1.2.2.2.1) (fun z => (((), (z.1, z.2.1, (), ()), z.2.2, ()), ((), ()))) (fun y => (y.1.2.1.1, y.1.2.1.2.1, y.1.2.2.1)) (fun _ => rfl)
theorem ZwO (k : Nat) (b1_0 : Int) (b1_1 : Int) (b1_2 : List (Int × Int)) (b2_0 : Int) (b2_1 : Int) (o3 : List (Int × Int)) : Zbg k b1_0 b1_1 b1_2 b2_0 b2_1 o3 = repl 12 (Z7g k b1_0 b1_1 b1_2 b2_0 b2_1 o3) := by
 first
 | (simp only [Zbg, Z7g, Zc, Zf, Za, Z9, Zb, Z8, if_true]; done)
 | (simp only [Zbg, Z7g, Zc, Zf, Za, Z9, Zb, Z8, if_true]; simp only [Z4r, Z4y, Z7x, Z8]; simp only [Z9e]; exact Z5I ⟨fun h => by simp only [h, and_self], fun h => by simp only [h, and_self]⟩)
noncomputable def Z3y : Nat → Int × Int × List (Int × Int) → Option (Int × Int × List (Int × Int))
 | 0, _ => none
 | k + 1, p0 =>
  Option.bind (Z7g k p0.1 p0.2.1 p0.2.2 (0 : Int) (0 : Int) []) fun z0 => some (Prod.fst z0, Prod.fst z0.2, Prod.snd z0.2)
noncomputable def Z3D : FnDef := .of Zt4 Zak (Int × Int × List (Int × Int)) (fun k x => Z3y k x.1) Zpm Zph Zx0
noncomputable def Zf5 : Code := Try.f184.body.getD .skip
noncomputable def Z4o : Ctx (Tup Zak × OutD) := { T := T, G := [], mvs := [], no := 0, n := 12, res := resOf T Zt4 Zak Try.f184.results.toList, loops := [], regs := [(1, Z66.E)], conds := [] }
theorem ZrZ (k : Nat) : EnvOK Try.prog k Z4o.G := (EnvOK.nil mixed)
noncomputable def Zea : Array Oper := (findReg 1 Zf5).getD #[]
theorem ZvX (k : Nat) (x : Zjo.D) : execD Z4o.T Z4o.G Z4o.mvs k Zea (Z66.inp.st Z4o.n x) (outK Z4o Z66) = Zbg k x.1.2.1.1 x.1.2.1.2.1 x.1.2.1.2.2.1 x.1.2.2.1.1 x.1.2.2.1.2.1 x.1.2.2.2.1 := by kernel_rfl
theorem ZtK (k : Nat) : EOK Try.prog Z4o k Z66.E (.region 1 Zea true) := Zan (D := Z66) (m := 12) T_ok (ZrZ k) (fun x => (ZvX k x).trans (ZwO k x.1.2.1.1 x.1.2.1.2.1 x.1.2.1.2.2.1 x.1.2.2.1.1 x.1.2.2.1.2.1 x.1.2.2.2.1))
theorem ZBp (k : Nat) (x : Tup Z3D.ps) : Z3D.f (k + 1) x = fnK Z3D Z4o Zf5 k x := by kernel_rfl
theorem ZBJ (x : Tup Z3D.ps) : Z3D.f 0 x = none := by kernel_rfl
theorem ZBi (k : Nat) : LOK Try.prog Z4o k Zf5 := LOK.by [(Z66.E, .region 1 Zea true)] (by kernel_rfl) (AllOK.cons (ZtK k) AllOK.nil)
theorem Zfb (k : Nat) : SoundAt Try.prog k 184 Z3D.E := @Ze Try.prog Z3D Z4o 184 Try.f184 Zf5 (by kernel_rfl) (by kernel_rfl) (by kernel_rfl) Try.func184 (by kernel_rfl) (by kernel_rfl) (by kernel_rfl) T_ok ZrZ ZBi ZBJ ZBp k
noncomputable def Z5t : List PK := []
noncomputable def ZhX : List PK := [PK.mk (Ty.pair (Ty.int .i64) (Ty.pair (Ty.int .i64) (Ty.slice (79 : Nat) (Ty.pair (Ty.int .i64) (Ty.int .i64))))) true (some ((2 : Nat), (79 : Nat), Ty.pair (Ty.int .i64) (Ty.int .i64))) false none, PK.mk (Ty.slice (3 : Nat) (Ty.int .i64)) false none false none, PK.mk (Ty.slice (3 : Nat) (Ty.int .i64)) false none false none, PK.mk (Ty.int .i64) false none false none]
noncomputable def Zhc (r : List (Int × Int)) : Tup Z5t × OutD := ((()), some ⟨Ty.pair (Ty.int .i64) (Ty.int .i64), r⟩)
noncomputable def ZcG : Tup Z5t × OutD → Option (List (Int × Int))
 | (a, some ⟨u, ys⟩) => if h : u = Ty.pair (Ty.int .i64) (Ty.int .i64) then some (castU h ys) else none
 | _ => none
theorem Znl : ∀ b r, ZcG b = some r → Zhc r = b := by
 rintro ⟨a, o⟩ r h
 cases o with
 | none => cases h
 | some s =>
  obtain ⟨u, ys⟩ := s
  simp only [ZcG] at h
  split at h
  ·rename_i hu; subst hu; injection h with h; subst h; rfl
  ·cases h
noncomputable def ZF : Nat → List (Int × Int) → Int → Int → List Int → List Int → Int → Int → Int → Option (List (Int × Int))
 | 0, _, _, _, _, _, _, _, _ => none
 | k + 1, o1, b2_0, b2_1, v1, v2, v3, v12, v13 =>
  if decide (v13 < v12) = true then if decide (v13 = v3) = true then if (0 : Int) ≤ v13 then if v13 < (↑(List.length v2) : Int) then if decide (List.getD v2 (Int.toNat v13) (0 : Int) ≠ (1 : Int)) = true then if (0 : Int) ≤ v13 then if v13 < (↑(List.length o1) : Int) then if (0 : Int) ≤ v13 then if v13 < (↑(List.length o1) : Int) then ZF k (List.set o1 (Int.toNat v13) (Prod.fst (List.getD o1 (Int.toNat v13) ((0 : Int), (0 : Int))), wrap64 ((1 : Int) - Prod.snd (List.getD o1 (Int.toNat v13) ((0 : Int), (0 : Int)))))) b2_0 b2_1 v1 v2 v3 v12 (wrap64 (v13 + (1 : Int))) else none else none else none else none else ZF k o1 b2_0 b2_1 v1 v2 v3 v12 (wrap64 (v13 + (1 : Int))) else none else none else if (0 : Int) ≤ v3 then if v3 < (↑(List.length o1) : Int) then if decide (Prod.fst (List.getD o1 (Int.toNat v3) ((0 : Int), (0 : Int))) = (6 : Int)) = true then if (0 : Int) ≤ v13 then if v13 < (↑(List.length o1) : Int) then if decide (Prod.fst (List.getD o1 (Int.toNat v13) ((0 : Int), (0 : Int))) = (6 : Int)) = true then if (0 : Int) ≤ v13 then if v13 < (↑(List.length v1) : Int) then if (0 : Int) ≤ v3 then if v3 < (↑(List.length v1) : Int) then if decide (List.getD v1 (Int.toNat v13) (0 : Int) = List.getD v1 (Int.toNat v3) (0 : Int)) = true then if (0 : Int) ≤ v13 then if v13 < (↑(List.length v2) : Int) then if decide (List.getD v2 (Int.toNat v13) (0 : Int) ≠ (1 : Int)) = true then if (0 : Int) ≤ v13 then if v13 < (↑(List.length o1) : Int) then if (0 : Int) ≤ v13 then if v13 < (↑(List.length o1) : Int) then ZF k (List.set o1 (Int.toNat v13) (Prod.fst (List.getD o1 (Int.toNat v13) ((0 : Int), (0 : Int))), wrap64 ((1 : Int) - Prod.snd (List.getD o1 (Int.toNat v13) ((0 : Int), (0 : Int)))))) b2_0 b2_1 v1 v2 v3 v12 (wrap64 (v13 + (1 : Int))) else none else none else none else none else ZF k o1 b2_0 b2_1 v1 v2 v3 v12 (wrap64 (v13 + (1 : Int))) else none else none else ZF k o1 b2_0 b2_1 v1 v2 v3 v12 (wrap64 (v13 + (1 : Int))) else none else none else none else none else ZF k o1 b2_0 b2_1 v1 v2 v3 v12 (wrap64 (v13 + (1 : Int))) else none else none else ZF k o1 b2_0 b2_1 v1 v2 v3 v12 (wrap64 (v13 + (1 : Int))) else none else none else some o1
noncomputable def Zbc : Spec := Spec.mk [OSh.ro, OSh.row false (79 : Nat) (Ty.pair (Ty.int .i64) (Ty.int .i64)), OSh.box (53 : Nat) [Sh.int .i64, Sh.int .i64, Sh.sl (1 : Nat)]] [((1 : Nat), TSh.at (Sh.snap (0 : Nat) (Ty.int .i64))), ((2 : Nat), TSh.at (Sh.snap (0 : Nat) (Ty.int .i64))), ((3 : Nat), TSh.at (Sh.int .i64)), ((4 : Nat), TSh.at (Sh.ptr (2 : Nat) (0 : Nat))), ((12 : Nat), TSh.at (Sh.int .i64)), ((13 : Nat), TSh.at (Sh.int .i64))]
noncomputable def Zo7 : Spec := Spec.mk [OSh.ro, OSh.row false (79 : Nat) (Ty.pair (Ty.int .i64) (Ty.int .i64))] []
noncomputable def Z3T : LoopDef (Tup Z5t × OutD) := .plain Zbc Zo7 (List (Int × Int)) (fun k x => ZF k x.1.2.1 x.1.2.2.1.1 x.1.2.2.1.2.1 x.2.1 x.2.2.1 x.2.2.2.1 x.2.2.2.2.2.1 x.2.2.2.2.2.2.1) (fun z => (((), z, ()), (()))) (fun y => (y.1.2.1)) (fun _ => rfl)
noncomputable def Z5o : Nat → Int × Int × List (Int × Int) → List Int → List Int → Int → Option (List (Int × Int))
 | 0, _, _, _, _ => none
 | k + 1, p0, p1, p2, p3 =>
  Option.bind (ZF k p0.2.2 p0.1 p0.2.1 p1 p2 p3 (↑(List.length p0.2.2) : Int) (0 : Int)) fun z0 => some z0
noncomputable def Z31 : FnDef := .of ZhX Z5t (List (Int × Int)) (fun k x => Z5o k x.1 x.2.1 x.2.2.1 x.2.2.2.1) Zhc ZcG Znl
noncomputable def Za6 : Code := Try.f189.body.getD .skip
noncomputable def Z49 : Ctx (Tup Z5t × OutD) := { T := T, G := [], mvs := [], no := 1, n := 69, res := resOf T ZhX Z5t Try.f189.results.toList, loops := [(0, Z3T.E)], regs := [], conds := [] }
theorem Zi5 (k : Nat) : EnvOK Try.prog k Z49.G := (EnvOK.nil mixed)
noncomputable def Z7Z : Code := (findLoop 0 Za6).getD .skip
theorem Zo6 (k : Nat) (x : Zbc.D) : Z3T.lp (k + 1) x = loopK Z49 Z3T 0 Z7Z k x := by kernel_rfl
theorem Zou (k : Nat) : LOK Try.prog Z49 k Z7Z := LOK.by [] (by kernel_rfl) AllOK.nil
theorem ZoT (x : Zbc.D) : Z3T.lp 0 x = none := by kernel_rfl
theorem Zn2 (k : Nat) : EOK Try.prog Z49 k Z3T.E (.block 0 (.loop Z7Z)) := Zp T_ok Zi5 ZoT Zo6 Zou k
theorem Zuf (k : Nat) (x : Tup Z31.ps) : Z31.f (k + 1) x = fnK Z31 Z49 Za6 k x := by kernel_rfl
theorem Zuw (x : Tup Z31.ps) : Z31.f 0 x = none := by kernel_rfl
theorem Zus (k : Nat) : LOK Try.prog Z49 k Za6 := LOK.by [(Z3T.E, .block 0 (.loop Z7Z))] (by kernel_rfl) (AllOK.cons (Zn2 k) AllOK.nil)
theorem Zu7 (k : Nat) : SoundAt Try.prog k 189 Z31.E := @Ze Try.prog Z31 Z49 189 Try.f189 Za6 (by kernel_rfl) (by kernel_rfl) (by kernel_rfl) Try.func189 (by kernel_rfl) (by kernel_rfl) (by kernel_rfl) T_ok Zi5 Zus Zuw Zuf k
noncomputable def Z9G : List PK := [PK.mk Ty.bool false none false none]
noncomputable def ZkM : List PK := [PK.mk (Ty.pair (Ty.int .i64) (Ty.int .i64)) true none false none]
noncomputable def Zjr (r : Bool) : Tup Z9G × OutD := ((r, ()), none)
noncomputable def Zk8 : Tup Z9G × OutD → Option (Bool)
 | (a, none) => some (a.1)
 | _ => none
theorem ZqN : ∀ b r, Zk8 b = some r → Zjr r = b := by
 rintro ⟨a, o⟩ r h
 cases o with
 | none => injection h with h; subst h; rfl
 | some _ => cases h
noncomputable def Z9p : Nat → Int × Int → Option Bool
 | 0, _ => none
 | k + 1, p0 =>
  if decide (Prod.fst p0 = (6 : Int)) = true then some true else some (decide (Prod.fst p0 = (7 : Int)))
noncomputable def Z4c : FnDef := .of ZkM Z9G (Bool) (fun k x => Z9p k x.1) Zjr Zk8 ZqN
noncomputable def Zfa : Code := Try.f190.body.getD .skip
noncomputable def ZbW : Ctx (Tup Z9G × OutD) := { T := T, G := [], mvs := [], no := 0, n := 11, res := resOf T ZkM Z9G Try.f190.results.toList, loops := [], regs := [], conds := [] }
theorem ZxK (k : Nat) : EnvOK Try.prog k ZbW.G := (EnvOK.nil mixed)
theorem Zy5 (k : Nat) (x : Tup Z4c.ps) : Z4c.f (k + 1) x = fnK Z4c ZbW Zfa k x := by kernel_rfl
theorem Zy9 (x : Tup Z4c.ps) : Z4c.f 0 x = none := by kernel_rfl
theorem ZxI (k : Nat) : LOK Try.prog ZbW k Zfa := LOK.by [] (by kernel_rfl) AllOK.nil
theorem Zy1 (k : Nat) : SoundAt Try.prog k 190 Z4c.E := @Ze Try.prog Z4c ZbW 190 Try.f190 Zfa (by kernel_rfl) (by kernel_rfl) (by kernel_rfl) Try.func190 (by kernel_rfl) (by kernel_rfl) (by kernel_rfl) T_ok ZxK ZxI Zy9 Zy5 k
noncomputable def Z9F : List PK := [PK.mk (Ty.slice (3 : Nat) (Ty.int .i64)) false none false none]
noncomputable def Zln : List PK := [PK.mk (Ty.pair (Ty.int .i64) (Ty.pair (Ty.int .i64) (Ty.slice (79 : Nat) (Ty.pair (Ty.int .i64) (Ty.int .i64))))) true none false none, PK.mk (Ty.int .i64) false none false none]
noncomputable def ZjQ (r : List Int) : Tup Z9F × OutD := ((r, ()), none)
noncomputable def ZjJ : Tup Z9F × OutD → Option (List Int)
 | (a, none) => some (a.1)
 | _ => none
theorem Zr4 : ∀ b r, ZjJ b = some r → ZjQ r = b := by
 rintro ⟨a, o⟩ r h
 cases o with
 | none => injection h with h; subst h; rfl
 | some _ => cases h
noncomputable def ZbY : Nat → Int × Int × List (Int × Int) → Int → Option (List Int)
 | 0, _, _ => none
 | k + 1, p0, p1 =>
  if Prod.fst p0.2 = (0 : Int) then none else if Prod.fst p0.2 = (0 : Int) then none else if decide (wrap64 (Int.tdiv p1 p0.2.1) > (0 : Int)) = true then if decide (Int.tmod p1 p0.2.1 > (0 : Int)) = true then if decide (wrap64 (Int.tmod p1 p0.2.1 + (1 : Int)) < Prod.fst p0.2) = true then if decide (wrap64 (wrap64 (Int.tdiv p1 p0.2.1) + (1 : Int)) < Prod.fst p0) = true then some ([wrap64 (p1 - Prod.fst p0.2)] ++ [wrap64 (p1 - (1 : Int))] ++ [wrap64 (p1 + (1 : Int))] ++ [wrap64 (p1 + Prod.fst p0.2)]) else some ([wrap64 (p1 - Prod.fst p0.2)] ++ [wrap64 (p1 - (1 : Int))] ++ [wrap64 (p1 + (1 : Int))]) else if decide (wrap64 (wrap64 (Int.tdiv p1 p0.2.1) + (1 : Int)) < Prod.fst p0) = true then some ([wrap64 (p1 - Prod.fst p0.2)] ++ [wrap64 (p1 - (1 : Int))] ++ [wrap64 (p1 + Prod.fst p0.2)]) else some ([wrap64 (p1 - Prod.fst p0.2)] ++ [wrap64 (p1 - (1 : Int))]) else if decide (wrap64 (Int.tmod p1 p0.2.1 + (1 : Int)) < Prod.fst p0.2) = true then if decide (wrap64 (wrap64 (Int.tdiv p1 p0.2.1) + (1 : Int)) < Prod.fst p0) = true then some ([wrap64 (p1 - Prod.fst p0.2)] ++ [wrap64 (p1 + (1 : Int))] ++ [wrap64 (p1 + Prod.fst p0.2)]) else some ([wrap64 (p1 - Prod.fst p0.2)] ++ [wrap64 (p1 + (1 : Int))]) else if decide (wrap64 (wrap64 (Int.tdiv p1 p0.2.1) + (1 : Int)) < Prod.fst p0) = true then some ([wrap64 (p1 - Prod.fst p0.2)] ++ [wrap64 (p1 + Prod.fst p0.2)]) else some [wrap64 (p1 - Prod.fst p0.2)] else if decide (Int.tmod p1 p0.2.1 > (0 : Int)) = true then if decide (wrap64 (Int.tmod p1 p0.2.1 + (1 : Int)) < Prod.fst p0.2) = true then if decide (wrap64 (wrap64 (Int.tdiv p1 p0.2.1) + (1 : Int)) < Prod.fst p0) = true then some ([wrap64 (p1 - (1 : Int))] ++ [wrap64 (p1 + (1 : Int))] ++ [wrap64 (p1 + Prod.fst p0.2)]) else some ([wrap64 (p1 - (1 : Int))] ++ [wrap64 (p1 + (1 : Int))]) else if decide (wrap64 (wrap64 (Int.tdiv p1 p0.2.1) + (1 : Int)) < Prod.fst p0) = true then some ([wrap64 (p1 - (1 : Int))] ++ [wrap64 (p1 + Prod.fst p0.2)]) else some [wrap64 (p1 - (1 : Int))] else if decide (wrap64 (Int.tmod p1 p0.2.1 + (1 : Int)) < Prod.fst p0.2) = true then if decide (wrap64 (wrap64 (Int.tdiv p1 p0.2.1) + (1 : Int)) < Prod.fst p0) = true then some ([wrap64 (p1 + (1 : Int))] ++ [wrap64 (p1 + Prod.fst p0.2)]) else some [wrap64 (p1 + (1 : Int))] else if decide (wrap64 (wrap64 (Int.tdiv p1 p0.2.1) + (1 : Int)) < Prod.fst p0) = true then some [wrap64 (p1 + Prod.fst p0.2)] else some []
noncomputable def Z4e : FnDef := .of Zln Z9F (List Int) (fun k x => ZbY k x.1 x.2.1) ZjQ ZjJ Zr4
noncomputable def ZeQ : Code := Try.f191.body.getD .skip
noncomputable def Zc7 : Ctx (Tup Z9F × OutD) := { T := T, G := [], mvs := [], no := 0, n := 56, res := resOf T Zln Z9F Try.f191.results.toList, loops := [], regs := [], conds := [] }
theorem ZxX (k : Nat) : EnvOK Try.prog k Zc7.G := (EnvOK.nil mixed)
theorem ZxC (k : Nat) (x : Tup Z4e.ps) : Z4e.f (k + 1) x = fnK Z4e Zc7 ZeQ k x := by kernel_rfl
theorem ZxW (x : Tup Z4e.ps) : Z4e.f 0 x = none := by kernel_rfl
theorem Zxt (k : Nat) : LOK Try.prog Zc7 k ZeQ := LOK.by [] (by kernel_rfl) AllOK.nil
theorem Zyu (k : Nat) : SoundAt Try.prog k 191 Z4e.E := @Ze Try.prog Z4e Zc7 191 Try.f191 ZeQ (by kernel_rfl) (by kernel_rfl) (by kernel_rfl) Try.func191 (by kernel_rfl) (by kernel_rfl) (by kernel_rfl) T_ok ZxX Zxt ZxW ZxC k
noncomputable def Z8s : List PK := [PK.mk Ty.bool false none false none]
noncomputable def Zj3 : List PK := [PK.mk (Ty.pair (Ty.int .i64) (Ty.int .i64)) true none false none]
noncomputable def Zih (r : Bool) : Tup Z8s × OutD := ((r, ()), none)
noncomputable def Zin : Tup Z8s × OutD → Option (Bool)
 | (a, none) => some (a.1)
 | _ => none
theorem Zo0 : ∀ b r, Zin b = some r → Zih r = b := by
 rintro ⟨a, o⟩ r h
 cases o with
 | none => injection h with h; subst h; rfl
 | some _ => cases h
noncomputable def Z4A : Nat → Int × Int → Option Bool
 | 0, _ => none
 | k + 1, p0 =>
  if decide (Prod.fst p0 = (3 : Int)) = true then some true else some (decide (Prod.fst p0 = (6 : Int)))
noncomputable def Z22 : FnDef := .of Zj3 Z8s (Bool) (fun k x => Z4A k x.1) Zih Zin Zo0
noncomputable def Zeg : Code := Try.f207.body.getD .skip
noncomputable def ZaV : Ctx (Tup Z8s × OutD) := { T := T, G := [], mvs := [], no := 0, n := 11, res := resOf T Zj3 Z8s Try.f207.results.toList, loops := [], regs := [], conds := [] }
theorem ZvU (k : Nat) : EnvOK Try.prog k ZaV.G := (EnvOK.nil mixed)
theorem Zx2 (k : Nat) (x : Tup Z22.ps) : Z22.f (k + 1) x = fnK Z22 ZaV Zeg k x := by kernel_rfl
theorem Zx1 (x : Tup Z22.ps) : Z22.f 0 x = none := by kernel_rfl
theorem Zx6 (k : Nat) : LOK Try.prog ZaV k Zeg := LOK.by [] (by kernel_rfl) AllOK.nil
theorem Zen (k : Nat) : SoundAt Try.prog k 207 Z22.E := @Ze Try.prog Z22 ZaV 207 Try.f207 Zeg (by kernel_rfl) (by kernel_rfl) (by kernel_rfl) Try.func207 (by kernel_rfl) (by kernel_rfl) (by kernel_rfl) T_ok ZvU Zx6 Zx1 Zx2 k
noncomputable def Zbx : List PK := [PK.mk Ty.bool false none false none]
noncomputable def ZpO : List PK := [PK.mk (Ty.pair (Ty.int .i64) (Ty.int .i64)) true none false none]
noncomputable def ZmV (r : Bool) : Tup Zbx × OutD := ((r, ()), none)
noncomputable def Zna : Tup Zbx × OutD → Option (Bool)
 | (a, none) => some (a.1)
 | _ => none
theorem Zv0 : ∀ b r, Zna b = some r → ZmV r = b := by
 rintro ⟨a, o⟩ r h
 cases o with
 | none => injection h with h; subst h; rfl
 | some _ => cases h
noncomputable def ZbB : Nat → Int × Int → Option Bool
 | 0, _ => none
 | k + 1, p0 =>
  if decide (Prod.fst p0 = (6 : Int)) = true then some true else some (decide (Prod.fst p0 = (7 : Int)))
noncomputable def Z5D : FnDef := .of ZpO Zbx (Bool) (fun k x => ZbB k x.1) ZmV Zna Zv0
noncomputable def ZhC : Code := Try.f208.body.getD .skip
noncomputable def ZdX : Ctx (Tup Zbx × OutD) := { T := T, G := [], mvs := [], no := 0, n := 11, res := resOf T ZpO Zbx Try.f208.results.toList, loops := [], regs := [], conds := [] }
theorem ZAb (k : Nat) : EnvOK Try.prog k ZdX.G := (EnvOK.nil mixed)
theorem ZAw (k : Nat) (x : Tup Z5D.ps) : Z5D.f (k + 1) x = fnK Z5D ZdX ZhC k x := by kernel_rfl
theorem ZAB (x : Tup Z5D.ps) : Z5D.f 0 x = none := by kernel_rfl
theorem ZzZ (k : Nat) : LOK Try.prog ZdX k ZhC := LOK.by [] (by kernel_rfl) AllOK.nil
theorem ZzX (k : Nat) : SoundAt Try.prog k 208 Z5D.E := @Ze Try.prog Z5D ZdX 208 Try.f208 ZhC (by kernel_rfl) (by kernel_rfl) (by kernel_rfl) Try.func208 (by kernel_rfl) (by kernel_rfl) (by kernel_rfl) T_ok ZAb ZzZ ZAB ZAw k
noncomputable def Zbt : List PK := [PK.mk (Ty.slice (3 : Nat) (Ty.int .i64)) false none false none]
noncomputable def ZpU : List PK := [PK.mk (Ty.pair (Ty.int .i64) (Ty.pair (Ty.int .i64) (Ty.slice (79 : Nat) (Ty.pair (Ty.int .i64) (Ty.int .i64))))) true none false none, PK.mk (Ty.int .i64) false none false none]
noncomputable def ZnK (r : List Int) : Tup Zbt × OutD := ((r, ()), none)
noncomputable def ZmK : Tup Zbt × OutD → Option (List Int)
 | (a, none) => some (a.1)
 | _ => none
theorem Zub : ∀ b r, ZmK b = some r → ZnK r = b := by
 rintro ⟨a, o⟩ r h
 cases o with
 | none => injection h with h; subst h; rfl
 | some _ => cases h
noncomputable def ZdW : Nat → Int × Int × List (Int × Int) → Int → Option (List Int)
 | 0, _, _ => none
 | k + 1, p0, p1 =>
  if Prod.fst p0.2 = (0 : Int) then none else if Prod.fst p0.2 = (0 : Int) then none else if decide (wrap64 (Int.tdiv p1 p0.2.1) > (0 : Int)) = true then if decide (Int.tmod p1 p0.2.1 > (0 : Int)) = true then if decide (wrap64 (Int.tmod p1 p0.2.1 + (1 : Int)) < Prod.fst p0.2) = true then if decide (wrap64 (wrap64 (Int.tdiv p1 p0.2.1) + (1 : Int)) < Prod.fst p0) = true then some ([wrap64 (p1 - Prod.fst p0.2)] ++ [wrap64 (p1 - (1 : Int))] ++ [wrap64 (p1 + (1 : Int))] ++ [wrap64 (p1 + Prod.fst p0.2)]) else some ([wrap64 (p1 - Prod.fst p0.2)] ++ [wrap64 (p1 - (1 : Int))] ++ [wrap64 (p1 + (1 : Int))]) else if decide (wrap64 (wrap64 (Int.tdiv p1 p0.2.1) + (1 : Int)) < Prod.fst p0) = true then some ([wrap64 (p1 - Prod.fst p0.2)] ++ [wrap64 (p1 - (1 : Int))] ++ [wrap64 (p1 + Prod.fst p0.2)]) else some ([wrap64 (p1 - Prod.fst p0.2)] ++ [wrap64 (p1 - (1 : Int))]) else if decide (wrap64 (Int.tmod p1 p0.2.1 + (1 : Int)) < Prod.fst p0.2) = true then if decide (wrap64 (wrap64 (Int.tdiv p1 p0.2.1) + (1 : Int)) < Prod.fst p0) = true then some ([wrap64 (p1 - Prod.fst p0.2)] ++ [wrap64 (p1 + (1 : Int))] ++ [wrap64 (p1 + Prod.fst p0.2)]) else some ([wrap64 (p1 - Prod.fst p0.2)] ++ [wrap64 (p1 + (1 : Int))]) else if decide (wrap64 (wrap64 (Int.tdiv p1 p0.2.1) + (1 : Int)) < Prod.fst p0) = true then some ([wrap64 (p1 - Prod.fst p0.2)] ++ [wrap64 (p1 + Prod.fst p0.2)]) else some [wrap64 (p1 - Prod.fst p0.2)] else if decide (Int.tmod p1 p0.2.1 > (0 : Int)) = true then if decide (wrap64 (Int.tmod p1 p0.2.1 + (1 : Int)) < Prod.fst p0.2) = true then if decide (wrap64 (wrap64 (Int.tdiv p1 p0.2.1) + (1 : Int)) < Prod.fst p0) = true then some ([wrap64 (p1 - (1 : Int))] ++ [wrap64 (p1 + (1 : Int))] ++ [wrap64 (p1 + Prod.fst p0.2)]) else some ([wrap64 (p1 - (1 : Int))] ++ [wrap64 (p1 + (1 : Int))]) else if decide (wrap64 (wrap64 (Int.tdiv p1 p0.2.1) + (1 : Int)) < Prod.fst p0) = true then some ([wrap64 (p1 - (1 : Int))] ++ [wrap64 (p1 + Prod.fst p0.2)]) else some [wrap64 (p1 - (1 : Int))] else if decide (wrap64 (Int.tmod p1 p0.2.1 + (1 : Int)) < Prod.fst p0.2) = true then if decide (wrap64 (wrap64 (Int.tdiv p1 p0.2.1) + (1 : Int)) < Prod.fst p0) = true then some ([wrap64 (p1 + (1 : Int))] ++ [wrap64 (p1 + Prod.fst p0.2)]) else some [wrap64 (p1 + (1 : Int))] else if decide (wrap64 (wrap64 (Int.tdiv p1 p0.2.1) + (1 : Int)) < Prod.fst p0) = true then some [wrap64 (p1 + Prod.fst p0.2)] else some []
noncomputable def Z5C : FnDef := .of ZpU Zbt (List Int) (fun k x => ZdW k x.1 x.2.1) ZnK ZmK Zub
noncomputable def ZhO : Code := Try.f209.body.getD .skip
noncomputable def ZdY : Ctx (Tup Zbt × OutD) := { T := T, G := [], mvs := [], no := 0, n := 55, res := resOf T ZpU Zbt Try.f209.results.toList, loops := [], regs := [], conds := [] }
theorem ZA1 (k : Nat) : EnvOK Try.prog k ZdY.G := (EnvOK.nil mixed)
theorem ZzU (k : Nat) (x : Tup Z5C.ps) : Z5C.f (k + 1) x = fnK Z5C ZdY ZhO k x := by kernel_rfl
theorem ZAz (x : Tup Z5C.ps) : Z5C.f 0 x = none := by kernel_rfl
theorem ZzJ (k : Nat) : LOK Try.prog ZdY k ZhO := LOK.by [] (by kernel_rfl) AllOK.nil
theorem ZA4 (k : Nat) : SoundAt Try.prog k 209 Z5C.E := @Ze Try.prog Z5C ZdY 209 Try.f209 ZhO (by kernel_rfl) (by kernel_rfl) (by kernel_rfl) Try.func209 (by kernel_rfl) (by kernel_rfl) (by kernel_rfl) T_ok ZA1 ZzJ ZAz ZzU k
noncomputable def ZbD : List PK := [PK.mk (Ty.int .i64) false none false none]
noncomputable def Zvs : List PK := [PK.mk (Ty.slice (77 : Nat) (Ty.pair (Ty.int .i64) (Ty.pair (Ty.int .i64) (Ty.int .i64)))) false none false none, PK.mk (Ty.int .i64) false none false none, PK.mk (Ty.int .i64) false none false none]
noncomputable def Zj5 (r : Int) : Tup ZbD × OutD := ((r, ()), none)
noncomputable def Zj6 : Tup ZbD × OutD → Option (Int)
 | (a, none) => some (a.1)
 | _ => none
theorem ZkI : ∀ b r, Zj6 b = some r → Zj5 r = b := by
 rintro ⟨a, o⟩ r h
 cases o with
 | none => injection h with h; subst h; rfl
 | some _ => cases h
noncomputable def Z5J : Nat → Int → Int → List (Int × Int × Int) → Int → Int → Option (LR Unit Int)
 | 0, _, _, _, _, _ => none
 | k + 1, v1, v2, v9, v10, v11 =>
  if decide (v11 < v10) = true then if (0 : Int) ≤ v11 then if v11 < (↑(List.length v9) : Int) then if decide (Prod.fst (Prod.snd (List.getD v9 (Int.toNat v11) ((0 : Int), (0 : Int), (0 : Int)))) = v1) = true then if decide (Prod.snd (Prod.snd (List.getD v9 (Int.toNat v11) ((0 : Int), (0 : Int), (0 : Int)))) = v2) = true then some (LR.ret (Prod.fst (List.getD v9 (Int.toNat v11) ((0 : Int), (0 : Int), (0 : Int))))) else Z5J k v1 v2 v9 v10 (wrap64 (v11 + (1 : Int))) else Z5J k v1 v2 v9 v10 (wrap64 (v11 + (1 : Int))) else none else none else some (LR.go ())
noncomputable def Zgp : Spec := Spec.mk [OSh.ro] [((1 : Nat), TSh.at (Sh.int .i64)), ((2 : Nat), TSh.at (Sh.int .i64)), ((9 : Nat), TSh.at (Sh.snap (0 : Nat) (Ty.pair (Ty.int .i64) (Ty.pair (Ty.int .i64) (Ty.int .i64))))), ((10 : Nat), TSh.at (Sh.int .i64)), ((11 : Nat), TSh.at (Sh.int .i64))]
noncomputable def Zzf : Spec := Spec.mk [OSh.ro] []
noncomputable def Z8m : LoopDef (Tup ZbD × OutD) := .rets Zgp Zzf (Unit) (Int) (fun k x => Z5J k x.2.1 x.2.2.1 x.2.2.2.1 x.2.2.2.2.1 x.2.2.2.2.2.1) (fun z => (((), ()), (()))) (fun y => ()) (fun _ => rfl) Zj5 Zj6 ZkI
noncomputable def ZgS : Nat → List (Int × Int × Int) → Int → Int → Option Int
 | 0, _, _, _ => none
 | k + 1, p0, p1, p2 =>
  Option.bind (Z5J k p1 p2 p0 (↑(List.length p0) : Int) (0 : Int)) fun z0 => LR.on z0 (fun y0 => some (0 : Int)) fun r0 => some r0
noncomputable def Z85 : FnDef := .of Zvs ZbD (Int) (fun k x => ZgS k x.1 x.2.1 x.2.2.1) Zj5 Zj6 ZkI
noncomputable def ZgT : Code := Try.f210.body.getD .skip
noncomputable def Z9P : Ctx (Tup ZbD × OutD) := { T := T, G := [], mvs := [], no := 0, n := 28, res := resOf T Zvs ZbD Try.f210.results.toList, loops := [(0, Z8m.E)], regs := [], conds := [] }
theorem Zvj (k : Nat) : EnvOK Try.prog k Z9P.G := (EnvOK.nil mixed)
noncomputable def ZcL : Code := (findLoop 0 ZgT).getD .skip
theorem Zzg (k : Nat) (x : Zgp.D) : Z8m.lp (k + 1) x = loopK Z9P Z8m 0 ZcL k x := by kernel_rfl
theorem ZyF (k : Nat) : LOK Try.prog Z9P k ZcL := LOK.by [] (by kernel_rfl) AllOK.nil
theorem Zzr (x : Zgp.D) : Z8m.lp 0 x = none := by kernel_rfl
theorem Zxg (k : Nat) : EOK Try.prog Z9P k Z8m.E (.block 0 (.loop ZcL)) := Zp T_ok Zvj Zzr Zzg ZyF k
theorem ZCq (k : Nat) (x : Tup Z85.ps) : Z85.f (k + 1) x = fnK Z85 Z9P ZgT k x := by kernel_rfl
theorem ZC0 (x : Tup Z85.ps) : Z85.f 0 x = none := by kernel_rfl
theorem ZC5 (k : Nat) : LOK Try.prog Z9P k ZgT := LOK.by [(Z8m.E, .block 0 (.loop ZcL))] (by kernel_rfl) (AllOK.cons (Zxg k) AllOK.nil)
theorem ZCA (k : Nat) : SoundAt Try.prog k 210 Z85.E := @Ze Try.prog Z85 Z9P 210 Try.f210 ZgT (by kernel_rfl) (by kernel_rfl) (by kernel_rfl) Try.func210 (by kernel_rfl) (by kernel_rfl) (by kernel_rfl) T_ok Zvj ZC5 ZC0 ZCq k
noncomputable def Zbs : List PK := [PK.mk (Ty.int .i64) false none false none]
noncomputable def ZpH : List PK := [PK.mk (Ty.pair (Ty.int .i64) (Ty.int .i64)) true none false none, PK.mk (Ty.int .i64) false none false none]
noncomputable def ZnV (r : Int) : Tup Zbs × OutD := ((r, ()), none)
noncomputable def Zmy : Tup Zbs × OutD → Option (Int)
 | (a, none) => some (a.1)
 | _ => none
theorem Zu8 : ∀ b r, Zmy b = some r → ZnV r = b := by
 rintro ⟨a, o⟩ r h
 cases o with
 | none => injection h with h; subst h; rfl
 | some _ => cases h
noncomputable def Z9c : Nat → Int × Int → Int → Option Int
 | 0, _, _ => none
 | k + 1, p0, p1 =>
  if decide (Prod.fst p0 = (1 : Int)) = true then some (-1 : Int) else if decide (Prod.fst p0 = (2 : Int)) = true then some (1 : Int) else if decide (Prod.fst p0 = (3 : Int)) = true then some (wrap64 (wrap64 ((2 : Int) * Prod.snd p0) - (1 : Int))) else if decide (Prod.fst p0 = (6 : Int)) = true then some (wrap64 (wrap64 ((2 : Int) * Prod.snd p0) - (1 : Int))) else if decide (Prod.fst p0 = (4 : Int)) = true then some (wrap64 ((0 : Int) - p1)) else some (0 : Int)
noncomputable def Z4u : FnDef := .of ZpH Zbs (Int) (fun k x => Z9c k x.1 x.2.1) ZnV Zmy Zu8
noncomputable def ZhI : Code := Try.f211.body.getD .skip
noncomputable def ZdP : Ctx (Tup Zbs × OutD) := { T := T, G := [], mvs := [], no := 0, n := 22, res := resOf T ZpH Zbs Try.f211.results.toList, loops := [], regs := [], conds := [] }
theorem ZAA (k : Nat) : EnvOK Try.prog k ZdP.G := (EnvOK.nil mixed)
theorem ZAy (k : Nat) (x : Tup Z4u.ps) : Z4u.f (k + 1) x = fnK Z4u ZdP ZhI k x := by kernel_rfl
theorem ZAE (x : Tup Z4u.ps) : Z4u.f 0 x = none := by kernel_rfl
theorem ZAD (k : Nat) : LOK Try.prog ZdP k ZhI := LOK.by [] (by kernel_rfl) AllOK.nil
theorem Zpf (k : Nat) : SoundAt Try.prog k 211 Z4u.E := @Ze Try.prog Z4u ZdP 211 Try.f211 ZhI (by kernel_rfl) (by kernel_rfl) (by kernel_rfl) Try.func211 (by kernel_rfl) (by kernel_rfl) (by kernel_rfl) T_ok ZAA ZAD ZAE ZAy k
noncomputable def ZbC : List PK := [PK.mk Ty.bool false none false none]
noncomputable def ZpD : List PK := [PK.mk (Ty.pair (Ty.int .i64) (Ty.int .i64)) true none false none]
noncomputable def Znv (r : Bool) : Tup ZbC × OutD := ((r, ()), none)
noncomputable def Znf : Tup ZbC × OutD → Option (Bool)
 | (a, none) => some (a.1)
 | _ => none
theorem ZuA : ∀ b r, Znf b = some r → Znv r = b := by
 rintro ⟨a, o⟩ r h
 cases o with
 | none => injection h with h; subst h; rfl
 | some _ => cases h
noncomputable def Z9d : Nat → Int × Int → Option Bool
 | 0, _ => none
 | k + 1, p0 =>
  if decide (Prod.fst p0 < (0 : Int)) = true then some false else if decide (Prod.fst p0 > (7 : Int)) = true then some false else if decide (Prod.snd p0 < (0 : Int)) = true then some false else if decide (Prod.snd p0 > (1 : Int)) = true then some false else if decide (Prod.snd p0 = (0 : Int)) = true then some true else if decide (Prod.fst p0 = (3 : Int)) = true then some true else some (decide (Prod.fst p0 = (6 : Int)))
noncomputable def Z3H : FnDef := .of ZpD ZbC (Bool) (fun k x => Z9d k x.1) Znv Znf ZuA
noncomputable def ZhK : Code := Try.f213.body.getD .skip
noncomputable def ZdM : Ctx (Tup ZbC × OutD) := { T := T, G := [], mvs := [], no := 0, n := 34, res := resOf T ZpD ZbC Try.f213.results.toList, loops := [], regs := [], conds := [] }
theorem ZAu (k : Nat) : EnvOK Try.prog k ZdM.G := (EnvOK.nil mixed)
theorem ZzV (k : Nat) (x : Tup Z3H.ps) : Z3H.f (k + 1) x = fnK Z3H ZdM ZhK k x := by kernel_rfl
theorem ZAk (x : Tup Z3H.ps) : Z3H.f 0 x = none := by kernel_rfl
theorem ZAl (k : Nat) : LOK Try.prog ZdM k ZhK := LOK.by [] (by kernel_rfl) AllOK.nil
theorem Zhz (k : Nat) : SoundAt Try.prog k 213 Z3H.E := @Ze Try.prog Z3H ZdM 213 Try.f213 ZhK (by kernel_rfl) (by kernel_rfl) (by kernel_rfl) Try.func213 (by kernel_rfl) (by kernel_rfl) (by kernel_rfl) T_ok ZAu ZAl ZAk ZzV k
noncomputable def Z6d : List PK := []
noncomputable def ZiV : List PK := [PK.mk (Ty.pair (Ty.int .i64) (Ty.pair (Ty.int .i64) (Ty.slice (79 : Nat) (Ty.pair (Ty.int .i64) (Ty.int .i64))))) true (some ((2 : Nat), (79 : Nat), Ty.pair (Ty.int .i64) (Ty.int .i64))) false none, PK.mk (Ty.slice (3 : Nat) (Ty.int .i64)) false none false none, PK.mk (Ty.int .i64) false none false none]
noncomputable def Ziq (r : List (Int × Int)) : Tup Z6d × OutD := ((()), some ⟨Ty.pair (Ty.int .i64) (Ty.int .i64), r⟩)
noncomputable def Zd9 : Tup Z6d × OutD → Option (List (Int × Int))
 | (a, some ⟨u, ys⟩) => if h : u = Ty.pair (Ty.int .i64) (Ty.int .i64) then some (castU h ys) else none
 | _ => none
theorem Zor : ∀ b r, Zd9 b = some r → Ziq r = b := by
 rintro ⟨a, o⟩ r h
 cases o with
 | none => cases h
 | some s =>
  obtain ⟨u, ys⟩ := s
  simp only [Zd9] at h
  split at h
  ·rename_i hu; subst hu; injection h with h; subst h; rfl
  ·cases h
noncomputable def Z1Y : Nat → List (Int × Int) → Int → Int → List Int → Int → Int → Int → Option (List (Int × Int))
 | 0, _, _, _, _, _, _, _ => none
 | k + 1, o1, b2_0, b2_1, v1, v2, v9, v10 =>
  if decide (v10 < v9) = true then if (0 : Int) ≤ v10 then if v10 < (↑(List.length o1) : Int) then if decide (Prod.fst (List.getD o1 (Int.toNat v10) ((0 : Int), (0 : Int))) = (6 : Int)) = true then if (0 : Int) ≤ v10 then if v10 < (↑(List.length v1) : Int) then if (0 : Int) ≤ v2 then if v2 < (↑(List.length v1) : Int) then if decide (List.getD v1 (Int.toNat v10) (0 : Int) = List.getD v1 (Int.toNat v2) (0 : Int)) = true then if (0 : Int) ≤ v10 then if v10 < (↑(List.length o1) : Int) then if (0 : Int) ≤ v10 then if v10 < (↑(List.length o1) : Int) then Z1Y k (List.set o1 (Int.toNat v10) (Prod.fst (List.getD o1 (Int.toNat v10) ((0 : Int), (0 : Int))), wrap64 ((1 : Int) - Prod.snd (List.getD o1 (Int.toNat v10) ((0 : Int), (0 : Int)))))) b2_0 b2_1 v1 v2 v9 (wrap64 (v10 + (1 : Int))) else none else none else none else none else Z1Y k o1 b2_0 b2_1 v1 v2 v9 (wrap64 (v10 + (1 : Int))) else none else none else none else none else Z1Y k o1 b2_0 b2_1 v1 v2 v9 (wrap64 (v10 + (1 : Int))) else none else none else some o1
noncomputable def ZbU : Spec := Spec.mk [OSh.ro, OSh.row false (79 : Nat) (Ty.pair (Ty.int .i64) (Ty.int .i64)), OSh.box (53 : Nat) [Sh.int .i64, Sh.int .i64, Sh.sl (1 : Nat)]] [((1 : Nat), TSh.at (Sh.snap (0 : Nat) (Ty.int .i64))), ((2 : Nat), TSh.at (Sh.int .i64)), ((3 : Nat), TSh.at (Sh.ptr (2 : Nat) (0 : Nat))), ((9 : Nat), TSh.at (Sh.int .i64)), ((10 : Nat), TSh.at (Sh.int .i64))]
noncomputable def Zr8 : Spec := Spec.mk [OSh.ro, OSh.row false (79 : Nat) (Ty.pair (Ty.int .i64) (Ty.int .i64))] []
noncomputable def Z4n : LoopDef (Tup Z6d × OutD) := .plain ZbU Zr8 (List (Int × Int)) (fun k x => Z1Y k x.1.2.1 x.1.2.2.1.1 x.1.2.2.1.2.1 x.2.1 x.2.2.1 x.2.2.2.2.1 x.2.2.2.2.2.1) (fun z => (((), z, ()), (()))) (fun y => (y.1.2.1)) (fun _ => rfl)
noncomputable def Z8q : Nat → Int × Int × List (Int × Int) → List Int → Int → Option (List (Int × Int))
 | 0, _, _, _ => none
 | k + 1, p0, p1, p2 =>
  Option.bind (Z1Y k p0.2.2 p0.1 p0.2.1 p1 p2 (↑(List.length p0.2.2) : Int) (0 : Int)) fun z0 => some z0
noncomputable def Z3A : FnDef := .of ZiV Z6d (List (Int × Int)) (fun k x => Z8q k x.1 x.2.1 x.2.2.1) Ziq Zd9 Zor
noncomputable def ZaH : Code := Try.f214.body.getD .skip
noncomputable def Z4F : Ctx (Tup Z6d × OutD) := { T := T, G := [], mvs := [], no := 1, n := 44, res := resOf T ZiV Z6d Try.f214.results.toList, loops := [(0, Z4n.E)], regs := [], conds := [] }
theorem Zjb (k : Nat) : EnvOK Try.prog k Z4F.G := (EnvOK.nil mixed)
noncomputable def Z8Q : Code := (findLoop 0 ZaH).getD .skip
theorem Zqh (k : Nat) (x : ZbU.D) : Z4n.lp (k + 1) x = loopK Z4F Z4n 0 Z8Q k x := by kernel_rfl
theorem ZqY (k : Nat) : LOK Try.prog Z4F k Z8Q := LOK.by [] (by kernel_rfl) AllOK.nil
theorem Zr1 (x : ZbU.D) : Z4n.lp 0 x = none := by kernel_rfl
theorem Zof (k : Nat) : EOK Try.prog Z4F k Z4n.E (.block 0 (.loop Z8Q)) := Zp T_ok Zjb Zr1 Zqh ZqY k
theorem ZvA (k : Nat) (x : Tup Z3A.ps) : Z3A.f (k + 1) x = fnK Z3A Z4F ZaH k x := by kernel_rfl
theorem Zw3 (x : Tup Z3A.ps) : Z3A.f 0 x = none := by kernel_rfl
theorem Zxc (k : Nat) : LOK Try.prog Z4F k ZaH := LOK.by [(Z4n.E, .block 0 (.loop Z8Q))] (by kernel_rfl) (AllOK.cons (Zof k) AllOK.nil)
theorem ZwR (k : Nat) : SoundAt Try.prog k 214 Z3A.E := @Ze Try.prog Z3A Z4F 214 Try.f214 ZaH (by kernel_rfl) (by kernel_rfl) (by kernel_rfl) Try.func214 (by kernel_rfl) (by kernel_rfl) (by kernel_rfl) T_ok Zjb Zxc Zw3 ZvA k
noncomputable def Zbr : List PK := [PK.mk (Ty.pair (Ty.int .i64) (Ty.int .i64)) true none false none]
noncomputable def Zq2 : List PK := [PK.mk (Ty.pair (Ty.int .i64) (Ty.int .i64)) true none false none]
noncomputable def Znh (r : Int × Int) : Tup Zbr × OutD := ((r, ()), none)
noncomputable def Znz : Tup Zbr × OutD → Option (Int × Int)
 | (a, none) => some (a.1)
 | _ => none
theorem ZtD : ∀ b r, Znz b = some r → Znh r = b := by
 rintro ⟨a, o⟩ r h
 cases o with
 | none => injection h with h; subst h; rfl
 | some _ => cases h
noncomputable def Zby : Nat → Int × Int → Option (Int × Int)
 | 0, _ => none
 | k + 1, p0 =>
  some (Prod.fst p0, wrap64 ((1 : Int) - Prod.snd p0))
noncomputable def Z5F : FnDef := .of Zq2 Zbr (Int × Int) (fun k x => Zby k x.1) Znh Znz ZtD
noncomputable def ZhG : Code := Try.f218.body.getD .skip
noncomputable def Ze3 : Ctx (Tup Zbr × OutD) := { T := T, G := [], mvs := [], no := 0, n := 9, res := resOf T Zq2 Zbr Try.f218.results.toList, loops := [], regs := [], conds := [] }
theorem ZzW (k : Nat) : EnvOK Try.prog k Ze3.G := (EnvOK.nil mixed)
theorem ZAa (k : Nat) (x : Tup Z5F.ps) : Z5F.f (k + 1) x = fnK Z5F Ze3 ZhG k x := by kernel_rfl
theorem ZAh (x : Tup Z5F.ps) : Z5F.f 0 x = none := by kernel_rfl
theorem ZzI (k : Nat) : LOK Try.prog Ze3 k ZhG := LOK.by [] (by kernel_rfl) AllOK.nil
theorem ZzN (k : Nat) : SoundAt Try.prog k 218 Z5F.E := @Ze Try.prog Z5F Ze3 218 Try.f218 ZhG (by kernel_rfl) (by kernel_rfl) (by kernel_rfl) Try.func218 (by kernel_rfl) (by kernel_rfl) (by kernel_rfl) T_ok ZzW ZzI ZAh ZAa k
end
end Go.Proofs.Ytgjmhbjdhihgaaa.Vs

set_option maxRecDepth 100000
set_option maxHeartbeats 2000000
set_option linter.unusedVariables false
set_option linter.unusedSimpArgs false
namespace Go.Proofs.Ytgjmhbjdhihgaaa.Vs
open Go.RowKit
noncomputable section
noncomputable def Z6a : List PK := [PK.mk Ty.bool false none false none]
noncomputable def Zjm : List PK := [PK.mk (Ty.slice (34 : Nat) (Ty.slice (3 : Nat) (Ty.int .i64))) false none false none, PK.mk (Ty.slice (34 : Nat) (Ty.slice (3 : Nat) (Ty.int .i64))) false none false none]
noncomputable def Zdi (r : Bool) : Tup Z6a × OutD := ((r, ()), none)
noncomputable def Zdf : Tup Z6a × OutD → Option (Bool)
 | (a, none) => some (a.1)
 | _ => none
theorem Zfi : ∀ b r, Zdf b = some r → Zdi r = b := by
 rintro ⟨a, o⟩ r h
 cases o with
 | none => injection h with h; subst h; rfl
 | some _ => cases h
noncomputable def Z4W : Nat → List (List Int) → List (List Int) → Int → Int → Option (LR Unit Bool)
 | 0, _, _, _, _ => none
 | k + 1, v0, v1, v12, v13 =>
  if decide (v13 < v12) = true then if (0 : Int) ≤ v13 then if v13 < (↑(List.length v0) : Int) then if (0 : Int) ≤ v13 then if v13 < (↑(List.length v1) : Int) then Option.bind (Z9B k (List.getD v0 (Int.toNat v13) []) (List.getD v1 (Int.toNat v13) [])) fun z0 => if (!z0) = true then some (LR.ret false) else Z4W k v0 v1 v12 (wrap64 (v13 + (1 : Int))) else none else none else none else none else some (LR.go ())
noncomputable def ZbO : Spec := Spec.mk [OSh.ro] [((0 : Nat), TSh.at (Sh.snap (0 : Nat) (Ty.slice (3 : Nat) (Ty.int .i64)))), ((1 : Nat), TSh.at (Sh.snap (0 : Nat) (Ty.slice (3 : Nat) (Ty.int .i64)))), ((12 : Nat), TSh.at (Sh.int .i64)), ((13 : Nat), TSh.at (Sh.int .i64))]
noncomputable def Zqs : Spec := Spec.mk [OSh.ro] []
noncomputable def Z4k : LoopDef (Tup Z6a × OutD) := .rets ZbO Zqs (Unit) (Bool) (fun k x => Z4W k x.2.1 x.2.2.1 x.2.2.2.1 x.2.2.2.2.1) (fun z => (((), ()), (()))) (fun y => ()) (fun _ => rfl) Zdi Zdf Zfi
noncomputable def Zbi : Nat → List (List Int) → List (List Int) → Option Bool
 | 0, _, _ => none
 | k + 1, p0, p1 =>
  if decide ((↑(List.length p0) : Int) ≠ (↑(List.length p1) : Int)) = true then some false else Option.bind (Z4W k p0 p1 (↑(List.length p0) : Int) (0 : Int)) fun z1 => LR.on z1 (fun y1 => some true) fun r1 => some r1
noncomputable def Z3F : FnDef := .of Zjm Z6a (Bool) (fun k x => Zbi k x.1 x.2.1) Zdi Zdf Zfi
noncomputable def ZaR : Code := Try.f63.body.getD .skip
noncomputable def Z4D : Ctx (Tup Z6a × OutD) := { T := T, G := [(31, Z3f.E)], mvs := [], no := 0, n := 27, res := resOf T Zjm Z6a Try.f63.results.toList, loops := [(0, Z4k.E)], regs := [], conds := [] }
theorem ZjV (k : Nat) : EnvOK Try.prog k Z4D.G := (EnvOK.cons (ZkP k) (EnvOK.nil mixed))
noncomputable def Z8T : Code := (findLoop 0 ZaR).getD .skip
theorem Zqq (k : Nat) (x : ZbO.D) : Z4k.lp (k + 1) x = loopK Z4D Z4k 0 Z8T k x := by kernel_rfl
theorem Zrk (k : Nat) : LOK Try.prog Z4D k Z8T := LOK.by [] (by kernel_rfl) AllOK.nil
theorem Zr5 (x : ZbO.D) : Z4k.lp 0 x = none := by kernel_rfl
theorem Zpb (k : Nat) : EOK Try.prog Z4D k Z4k.E (.block 0 (.loop Z8T)) := Zp T_ok ZjV Zr5 Zqq Zrk k
theorem ZwH (k : Nat) (x : Tup Z3F.ps) : Z3F.f (k + 1) x = fnK Z3F Z4D ZaR k x := by kernel_rfl
theorem ZwC (x : Tup Z3F.ps) : Z3F.f 0 x = none := by kernel_rfl
theorem Zws (k : Nat) : LOK Try.prog Z4D k ZaR := LOK.by [(Z4k.E, .block 0 (.loop Z8T))] (by kernel_rfl) (AllOK.cons (Zpb k) AllOK.nil)
theorem Zwt (k : Nat) : SoundAt Try.prog k 63 Z3F.E := @Ze Try.prog Z3F Z4D 63 Try.f63 ZaR (by kernel_rfl) (by kernel_rfl) (by kernel_rfl) Try.func63 (by kernel_rfl) (by kernel_rfl) (by kernel_rfl) T_ok ZjV Zws ZwC ZwH k
noncomputable def Z7A : List PK := [PK.mk (Ty.int .i64) false none false none]
noncomputable def Zik : List PK := [PK.mk (Ty.pair (Ty.slice (5 : Nat) (Ty.int .u8)) (Ty.pair (Ty.int .i64) (Ty.int .u64))) false none false (some (114 : Nat)), PK.mk (Ty.int .i64) false none false none]
noncomputable def Zhx (r : Int × Int × Int) : Tup Z7A × OutD := ((r.1, ()), some ⟨Ty.pair (Ty.slice (5 : Nat) (Ty.int .u8)) (Ty.pair (Ty.int .i64) (Ty.int .u64)), [([], r.2)]⟩)
noncomputable def Zcl : Tup Z7A × OutD → Option (Int × Int × Int)
 | (a, some ⟨u, ys⟩) => if h : u = Ty.pair (Ty.slice (5 : Nat) (Ty.int .u8)) (Ty.pair (Ty.int .i64) (Ty.int .u64)) then (match castU h ys with
  | [([], y)] => some (a.1, y)
  | _ => none) else none
 | _ => none
theorem Znn : ∀ b r, Zcl b = some r → Zhx r = b := by
 rintro ⟨a, o⟩ r h
 cases o with
 | none => cases h
 | some s =>
  obtain ⟨u, ys⟩ := s
  simp only [Zcl] at h
  split at h
  ·rename_i hu
   subst hu
   match ys, h with
   | [], h => cases (show (none : Option _) = some r from h)
   | [([], y)], h => injection (show some _ = some r from h) with h; subst h; rfl
   | [(_ :: _, y)], h => cases (show (none : Option _) = some r from h)
   | (h1, _) :: _ :: _, h => cases h1 <;> cases (show (none : Option _) = some r from h)
  ·cases h
noncomputable def Z2 : Nat → List Int × Int × Int → Int → Option (Int × Int × Int)
 | 0, _, _ => none
 | k + 1, p0, p1 =>
  if decide (p1 ≤ (1 : Int)) = true then some ((0 : Int), Prod.fst p0.2, Prod.snd p0.2) else Option.bind (Z5A k (Prod.fst p0, Prod.fst p0.2, Prod.snd p0.2)) fun z0 => if decide (p1 > (200 : Int)) = true then Option.bind (Z5A k (Prod.fst p0, Prod.fst z0.2, Prod.snd z0.2)) fun z1 => if p1 = (0 : Int) then none else some (Int.tmod (wrap64 (wrap64 (Prod.fst z0 * (256 : Int)) + Prod.fst z1)) p1, Prod.fst z1.2, Prod.snd z1.2) else if p1 = (0 : Int) then none else some (Int.tmod z0.1 p1, Prod.fst z0.2, Prod.snd z0.2)
noncomputable def ZJ : FnDef := .of Zik Z7A (Int × Int × Int) (fun k x => Z2 k x.1 x.2.1) Zhx Zcl Znn
noncomputable def Zdm : Code := Try.f111.body.getD .skip
noncomputable def Za1 : Ctx (Tup Z7A × OutD) := { T := T, G := [(175, Z37.E)], mvs := [], no := 2, n := 20, res := resOf T Zik Z7A Try.f111.results.toList, loops := [], regs := [], conds := [] }
theorem ZuS (k : Nat) : EnvOK Try.prog k Za1.G := (EnvOK.cons (Zv3 k) (EnvOK.nil mixed))
theorem Zur (k : Nat) (x : Tup ZJ.ps) : ZJ.f (k + 1) x = fnK ZJ Za1 Zdm k x := by kernel_rfl
theorem ZuL (x : Tup ZJ.ps) : ZJ.f 0 x = none := by kernel_rfl
theorem Zuh (k : Nat) : LOK Try.prog Za1 k Zdm := LOK.by [] (by kernel_rfl) AllOK.nil
theorem Z2Y (k : Nat) : SoundAt Try.prog k 111 ZJ.E := @Ze Try.prog ZJ Za1 111 Try.f111 Zdm (by kernel_rfl) (by kernel_rfl) (by kernel_rfl) Try.func111 (by kernel_rfl) (by kernel_rfl) (by kernel_rfl) T_ok ZuS Zuh ZuL Zur k
noncomputable def Zal : List PK := [PK.mk Ty.bool false none false none]
noncomputable def Zrn : List PK := [PK.mk (Ty.slice (3 : Nat) (Ty.int .i64)) false none false none, PK.mk (Ty.int .i64) false none false none, PK.mk (Ty.int .i64) false none false none]
noncomputable def ZhT (r : Bool) : Tup Zal × OutD := ((r, ()), none)
noncomputable def ZhF : Tup Zal × OutD → Option (Bool)
 | (a, none) => some (a.1)
 | _ => none
theorem Zk2 : ∀ b r, ZhF b = some r → ZhT r = b := by
 rintro ⟨a, o⟩ r h
 cases o with
 | none => injection h with h; subst h; rfl
 | some _ => cases h
noncomputable def Z8j : Nat → Int → Int → List Int → Int → Int → Option (LR Unit Bool)
 | 0, _, _, _, _, _ => none
 | k + 1, v1, v2, v9, v10, v11 =>
  if decide (v11 < v10) = true then if (0 : Int) ≤ v11 then if v11 < (↑(List.length v9) : Int) then Option.bind (Z21 k (List.getD v9 (Int.toNat v11) (0 : Int)) v1 v2) fun z0 => if (!z0) = true then some (LR.ret false) else Z8j k v1 v2 v9 v10 (wrap64 (v11 + (1 : Int))) else none else none else some (LR.go ())
noncomputable def Zfm : Spec := Spec.mk [OSh.ro] [((1 : Nat), TSh.at (Sh.int .i64)), ((2 : Nat), TSh.at (Sh.int .i64)), ((9 : Nat), TSh.at (Sh.snap (0 : Nat) (Ty.int .i64))), ((10 : Nat), TSh.at (Sh.int .i64)), ((11 : Nat), TSh.at (Sh.int .i64))]
noncomputable def ZxP : Spec := Spec.mk [OSh.ro] []
noncomputable def Z7e : LoopDef (Tup Zal × OutD) := .rets Zfm ZxP (Unit) (Bool) (fun k x => Z8j k x.2.1 x.2.2.1 x.2.2.2.1 x.2.2.2.2.1 x.2.2.2.2.2.1) (fun z => (((), ()), (()))) (fun y => ()) (fun _ => rfl) ZhT ZhF Zk2
noncomputable def Zfh : Nat → List Int → Int → Int → Option Bool
 | 0, _, _, _ => none
 | k + 1, p0, p1, p2 =>
  Option.bind (Z8j k p1 p2 p0 (↑(List.length p0) : Int) (0 : Int)) fun z1 => LR.on z1 (fun y1 => some true) fun r1 => some r1
noncomputable def Z6K : FnDef := .of Zrn Zal (Bool) (fun k x => Zfh k x.1 x.2.1 x.2.2.1) ZhT ZhF Zk2
noncomputable def Zf1 : Code := Try.f113.body.getD .skip
noncomputable def Z8o : Ctx (Tup Zal × OutD) := { T := T, G := [(96, Z2s.E)], mvs := [], no := 0, n := 21, res := resOf T Zrn Zal Try.f113.results.toList, loops := [(0, Z7e.E)], regs := [], conds := [] }
theorem Zs2 (k : Nat) : EnvOK Try.prog k Z8o.G := (EnvOK.cons (Z9T k) (EnvOK.nil mixed))
noncomputable def ZbZ : Code := (findLoop 0 Zf1).getD .skip
theorem Zy4 (k : Nat) (x : Zfm.D) : Z7e.lp (k + 1) x = loopK Z8o Z7e 0 ZbZ k x := by kernel_rfl
theorem ZxO (k : Nat) : LOK Try.prog Z8o k ZbZ := LOK.by [] (by kernel_rfl) AllOK.nil
theorem Zxm (x : Zfm.D) : Z7e.lp 0 x = none := by kernel_rfl
theorem ZwA (k : Nat) : EOK Try.prog Z8o k Z7e.E (.block 0 (.loop ZbZ)) := Zp T_ok Zs2 Zxm Zy4 ZxO k
theorem ZBC (k : Nat) (x : Tup Z6K.ps) : Z6K.f (k + 1) x = fnK Z6K Z8o Zf1 k x := by kernel_rfl
theorem ZBs (x : Tup Z6K.ps) : Z6K.f 0 x = none := by kernel_rfl
theorem ZBG (k : Nat) : LOK Try.prog Z8o k Zf1 := LOK.by [(Z7e.E, .block 0 (.loop ZbZ))] (by kernel_rfl) (AllOK.cons (ZwA k) AllOK.nil)
theorem ZAU (k : Nat) : SoundAt Try.prog k 113 Z6K.E := @Ze Try.prog Z6K Z8o 113 Try.f113 Zf1 (by kernel_rfl) (by kernel_rfl) (by kernel_rfl) Try.func113 (by kernel_rfl) (by kernel_rfl) (by kernel_rfl) T_ok Zs2 ZBG ZBs ZBC k
noncomputable def Z1F : List PK := [PK.mk (Ty.slice (3 : Nat) (Ty.int .i64)) false none false none]
noncomputable def Zgd : List PK := [PK.mk (Ty.pair (Ty.int .i64) (Ty.pair (Ty.int .i64) (Ty.slice (79 : Nat) (Ty.pair (Ty.int .i64) (Ty.int .i64))))) true none false none]
noncomputable def Zfk (r : List Int) : Tup Z1F × OutD := ((r, ()), none)
noncomputable def Zf8 : Tup Z1F × OutD → Option (List Int)
 | (a, none) => some (a.1)
 | _ => none
theorem Zkj : ∀ b r, Zf8 b = some r → Zfk r = b := by
 rintro ⟨a, o⟩ r h
 cases o with
 | none => injection h with h; subst h; rfl
 | some _ => cases h
noncomputable def Z3p : Nat → Int → Int → List (Int × Int) → List Int → Int → Int → Option (Int × Int × List (Int × Int) × List Int)
 | 0, _, _, _, _, _, _ => none
 | k + 1, b1_0, b1_1, b1_2, o2, v17, v18 =>
  if decide (v18 < v17) = true then if (0 : Int) ≤ v18 then if v18 < (↑(List.length o2) : Int) then Z3p k b1_0 b1_1 b1_2 (List.set o2 (Int.toNat v18) (-1 : Int)) v17 (wrap64 (v18 + (1 : Int))) else none else none else some (b1_0, b1_1, b1_2, o2)
noncomputable def Z9N : Spec := Spec.mk [OSh.ro, OSh.box (53 : Nat) [Sh.int .i64, Sh.int .i64, Sh.snap (0 : Nat) (Ty.pair (Ty.int .i64) (Ty.int .i64))], OSh.row true (3 : Nat) (Ty.int .i64)] [((1 : Nat), TSh.at (Sh.ptr (1 : Nat) (0 : Nat))), ((3 : Nat), TSh.at (Sh.sl (2 : Nat))), ((17 : Nat), TSh.at (Sh.int .i64)), ((18 : Nat), TSh.at (Sh.int .i64))]
noncomputable def Zlz : Spec := Spec.mk [OSh.ro, OSh.box (53 : Nat) [Sh.int .i64, Sh.int .i64, Sh.snap (0 : Nat) (Ty.pair (Ty.int .i64) (Ty.int .i64))], OSh.row true (3 : Nat) (Ty.int .i64)] [((1 : Nat), TSh.at (Sh.ptr (1 : Nat) (0 : Nat))), ((3 : Nat), TSh.at (Sh.sl (2 : Nat)))]
noncomputable def Z2P : LoopDef (Tup Z1F × OutD) := .plain Z9N Zlz (Int × Int × List (Int × Int) × List Int) (fun k x => Z3p k x.1.2.1.1 x.1.2.1.2.1 x.1.2.1.2.2.1 x.1.2.2.1 x.2.2.2.1 x.2.2.2.2.1) (fun z => (((), (z.1, z.2.1, z.2.2.1, ()), z.2.2.2, ()), ((), (), ()))) (fun y => (y.1.2.1.1, y.1.2.1.2.1, y.1.2.1.2.2.1, y.1.2.2.1)) (fun _ => rfl)
noncomputable def Z1H : Nat → Int → Int → List (Int × Int) → List Int → List Int → List Int → Int → List (Int × Int) → Int → Int → Int → Int → Option (Int × Int × List (Int × Int) × List Int × List Int × Int × List (Int × Int) × Int × Int)
 | 0, _, _, _, _, _, _, _, _, _, _, _, _ => none
 | k + 1, b1_0, b1_1, b1_2, o2, o3, o4, v5, v26, v27, v28, v60, v61 =>
  if decide (v61 < v60) = true then if (0 : Int) ≤ v61 then if v61 < (↑(List.length o4) : Int) then if (0 : Int) ≤ List.getD o4 (Int.toNat v61) (0 : Int) then if List.getD o4 (Int.toNat v61) (0 : Int) < (↑(List.length b1_2) : Int) then Option.bind (Z9p k (Prod.fst (List.getD b1_2 (Int.toNat (List.getD o4 (Int.toNat v61) (0 : Int))) ((0 : Int), (0 : Int))), Prod.snd (List.getD b1_2 (Int.toNat (List.getD o4 (Int.toNat v61) (0 : Int))) ((0 : Int), (0 : Int))))) fun z3 => if z3 = true then if (0 : Int) ≤ List.getD o4 (Int.toNat v61) (0 : Int) then if List.getD o4 (Int.toNat v61) (0 : Int) < (↑(List.length o2) : Int) then if decide (List.getD o2 (Int.toNat (List.getD o4 (Int.toNat v61) (0 : Int))) (0 : Int) < (0 : Int)) = true then if (0 : Int) ≤ List.getD o4 (Int.toNat v61) (0 : Int) then if List.getD o4 (Int.toNat v61) (0 : Int) < (↑(List.length o2) : Int) then if List.length o3 + List.length [List.getD o4 (Int.toNat v61) (0 : Int)] ≤ (140737488355328 / 8 : Nat) then Z1H k b1_0 b1_1 b1_2 (List.set o2 (Int.toNat (List.getD o4 (Int.toNat v61) (0 : Int))) v5) (o3 ++ [List.getD o4 (Int.toNat v61) (0 : Int)]) o4 v5 v26 v27 v28 v60 (wrap64 (v61 + (1 : Int))) else none else none else none else Z1H k b1_0 b1_1 b1_2 o2 o3 o4 v5 v26 v27 v28 v60 (wrap64 (v61 + (1 : Int))) else none else none else Z1H k b1_0 b1_1 b1_2 o2 o3 o4 v5 v26 v27 v28 v60 (wrap64 (v61 + (1 : Int))) else none else none else none else none else some (b1_0, b1_1, b1_2, o2, o3, v5, v26, v27, v28)
noncomputable def Z9M : Spec := Spec.mk [OSh.ro, OSh.box (53 : Nat) [Sh.int .i64, Sh.int .i64, Sh.snap (0 : Nat) (Ty.pair (Ty.int .i64) (Ty.int .i64))], OSh.row true (3 : Nat) (Ty.int .i64), OSh.row true (3 : Nat) (Ty.int .i64), OSh.row true (3 : Nat) (Ty.int .i64)] [((1 : Nat), TSh.at (Sh.ptr (1 : Nat) (0 : Nat))), ((3 : Nat), TSh.at (Sh.sl (2 : Nat))), ((5 : Nat), TSh.at (Sh.int .i64)), ((8 : Nat), TSh.at (Sh.sl (3 : Nat))), ((26 : Nat), TSh.at (Sh.snap (0 : Nat) (Ty.pair (Ty.int .i64) (Ty.int .i64)))), ((27 : Nat), TSh.at (Sh.int .i64)), ((28 : Nat), TSh.at (Sh.int .i64)), ((59 : Nat), TSh.at (Sh.sl (4 : Nat))), ((60 : Nat), TSh.at (Sh.int .i64)), ((61 : Nat), TSh.at (Sh.int .i64))]
noncomputable def ZlS : Spec := Spec.mk [OSh.ro, OSh.box (53 : Nat) [Sh.int .i64, Sh.int .i64, Sh.snap (0 : Nat) (Ty.pair (Ty.int .i64) (Ty.int .i64))], OSh.row true (3 : Nat) (Ty.int .i64), OSh.row true (3 : Nat) (Ty.int .i64)] [((1 : Nat), TSh.at (Sh.ptr (1 : Nat) (0 : Nat))), ((3 : Nat), TSh.at (Sh.sl (2 : Nat))), ((5 : Nat), TSh.at (Sh.int .i64)), ((8 : Nat), TSh.at (Sh.sl (3 : Nat))), ((26 : Nat), TSh.at (Sh.snap (0 : Nat) (Ty.pair (Ty.int .i64) (Ty.int .i64)))), ((27 : Nat), TSh.at (Sh.int .i64)), ((28 : Nat), TSh.at (Sh.int .i64))]
noncomputable def Z2R : LoopDef (Tup Z1F × OutD) := .plain Z9M ZlS (Int × Int × List (Int × Int) × List Int × List Int × Int × List (Int × Int) × Int × Int) (fun k x => Z1H k x.1.2.1.1 x.1.2.1.2.1 x.1.2.1.2.2.1 x.1.2.2.1 x.1.2.2.2.1 x.1.2.2.2.2.1 x.2.2.2.1 x.2.2.2.2.2.1 x.2.2.2.2.2.2.1 x.2.2.2.2.2.2.2.1 x.2.2.2.2.2.2.2.2.2.1 x.2.2.2.2.2.2.2.2.2.2.1) (fun z => (((), (z.1, z.2.1, z.2.2.1, ()), z.2.2.2.1, z.2.2.2.2.1, ()), ((), (), z.2.2.2.2.2.1, (), z.2.2.2.2.2.2.1, z.2.2.2.2.2.2.2.1, z.2.2.2.2.2.2.2.2, ()))) (fun y => (y.1.2.1.1, y.1.2.1.2.1, y.1.2.1.2.2.1, y.1.2.2.1, y.1.2.2.2.1, y.2.2.2.1, y.2.2.2.2.2.1, y.2.2.2.2.2.2.1, y.2.2.2.2.2.2.2.1)) (fun _ => rfl)
noncomputable def Z2o : Nat → Int → Int → List (Int × Int) → List Int → List Int → Int → List (Int × Int) → Int → Int → Option (Int × Int × List (Int × Int) × List Int × Int × List (Int × Int) × Int × Int)
 | 0, _, _, _, _, _, _, _, _, _ => none
 | k + 1, b1_0, b1_1, b1_2, o2, o3, v5, v26, v27, v28 =>
  if decide ((↑(List.length o3) : Int) > (0 : Int)) = true then if (0 : Int) < (↑(List.length o3) : Int) then if (1 : Int) ≤ (↑(List.length o3) : Int) then if (↑(List.length o3) : Int) ≤ (↑(List.length o3) : Int) then Option.bind (ZbY k (b1_0, b1_1, b1_2) (List.getD o3 (Int.toNat (0 : Int)) (0 : Int))) fun z2 => Option.bind (Z1H k b1_0 b1_1 b1_2 o2 (List.drop (Int.toNat (1 : Int)) o3) z2 v5 v26 v27 v28 (↑(List.length z2) : Int) (0 : Int)) fun z4 => Z2o k z4.1 z4.2.1 z4.2.2.1 z4.2.2.2.1 z4.2.2.2.2.1 z4.2.2.2.2.2.1 z4.2.2.2.2.2.2.1 z4.2.2.2.2.2.2.2.1 z4.2.2.2.2.2.2.2.2 else none else none else none else some (b1_0, b1_1, b1_2, o2, v5, v26, v27, v28)
noncomputable def Z9S : Spec := Spec.mk [OSh.ro, OSh.box (53 : Nat) [Sh.int .i64, Sh.int .i64, Sh.snap (0 : Nat) (Ty.pair (Ty.int .i64) (Ty.int .i64))], OSh.row true (3 : Nat) (Ty.int .i64), OSh.row true (3 : Nat) (Ty.int .i64)] [((1 : Nat), TSh.at (Sh.ptr (1 : Nat) (0 : Nat))), ((3 : Nat), TSh.at (Sh.sl (2 : Nat))), ((5 : Nat), TSh.at (Sh.int .i64)), ((8 : Nat), TSh.at (Sh.sl (3 : Nat))), ((26 : Nat), TSh.at (Sh.snap (0 : Nat) (Ty.pair (Ty.int .i64) (Ty.int .i64)))), ((27 : Nat), TSh.at (Sh.int .i64)), ((28 : Nat), TSh.at (Sh.int .i64))]
noncomputable def Zlq : Spec := Spec.mk [OSh.ro, OSh.box (53 : Nat) [Sh.int .i64, Sh.int .i64, Sh.snap (0 : Nat) (Ty.pair (Ty.int .i64) (Ty.int .i64))], OSh.row true (3 : Nat) (Ty.int .i64)] [((1 : Nat), TSh.at (Sh.ptr (1 : Nat) (0 : Nat))), ((3 : Nat), TSh.at (Sh.sl (2 : Nat))), ((5 : Nat), TSh.at (Sh.int .i64)), ((26 : Nat), TSh.at (Sh.snap (0 : Nat) (Ty.pair (Ty.int .i64) (Ty.int .i64)))), ((27 : Nat), TSh.at (Sh.int .i64)), ((28 : Nat), TSh.at (Sh.int .i64))]
noncomputable def Z2V : LoopDef (Tup Z1F × OutD) := .plain Z9S Zlq (Int × Int × List (Int × Int) × List Int × Int × List (Int × Int) × Int × Int) (fun k x => Z2o k x.1.2.1.1 x.1.2.1.2.1 x.1.2.1.2.2.1 x.1.2.2.1 x.1.2.2.2.1 x.2.2.2.1 x.2.2.2.2.2.1 x.2.2.2.2.2.2.1 x.2.2.2.2.2.2.2.1) (fun z => (((), (z.1, z.2.1, z.2.2.1, ()), z.2.2.2.1, ()), ((), (), z.2.2.2.2.1, z.2.2.2.2.2.1, z.2.2.2.2.2.2.1, z.2.2.2.2.2.2.2, ()))) (fun y => (y.1.2.1.1, y.1.2.1.2.1, y.1.2.1.2.2.1, y.1.2.2.1, y.2.2.2.1, y.2.2.2.2.1, y.2.2.2.2.2.1, y.2.2.2.2.2.2.1)) (fun _ => rfl)
noncomputable def Z1c : Nat → Int → Int → List (Int × Int) → List Int → Int → List (Int × Int) → Int → Int → Option (List Int)
 | 0, _, _, _, _, _, _, _, _ => none
 | k + 1, b1_0, b1_1, b1_2, o2, v5, v26, v27, v28 =>
  if decide (v28 < v27) = true then if (0 : Int) ≤ v28 then if v28 < (↑(List.length v26) : Int) then Option.bind (Z9p k (Prod.fst (List.getD v26 (Int.toNat v28) ((0 : Int), (0 : Int))), Prod.snd (List.getD v26 (Int.toNat v28) ((0 : Int), (0 : Int))))) fun z1 => if (!z1) = true then Z1c k b1_0 b1_1 b1_2 o2 v5 v26 v27 (wrap64 (v28 + (1 : Int))) else if (0 : Int) ≤ v28 then if v28 < (↑(List.length o2) : Int) then if decide (List.getD o2 (Int.toNat v28) (0 : Int) ≥ (0 : Int)) = true then Z1c k b1_0 b1_1 b1_2 o2 v5 v26 v27 (wrap64 (v28 + (1 : Int))) else if (0 : Int) ≤ v28 then if v28 < (↑(List.length o2) : Int) then Option.bind (Z2o k b1_0 b1_1 b1_2 (List.set o2 (Int.toNat v28) v5) [v28] v5 v26 v27 v28) fun z5 => Z1c k z5.1 z5.2.1 z5.2.2.1 z5.2.2.2.1 (wrap64 (Prod.fst z5.2.2.2.2 + (1 : Int))) z5.2.2.2.2.2.1 z5.2.2.2.2.2.2.1 (wrap64 (Prod.snd z5.2.2.2.2.2.2 + (1 : Int))) else none else none else none else none else none else none else some o2
noncomputable def Z9Y : Spec := Spec.mk [OSh.ro, OSh.box (53 : Nat) [Sh.int .i64, Sh.int .i64, Sh.snap (0 : Nat) (Ty.pair (Ty.int .i64) (Ty.int .i64))], OSh.row true (3 : Nat) (Ty.int .i64)] [((1 : Nat), TSh.at (Sh.ptr (1 : Nat) (0 : Nat))), ((3 : Nat), TSh.at (Sh.sl (2 : Nat))), ((5 : Nat), TSh.at (Sh.int .i64)), ((26 : Nat), TSh.at (Sh.snap (0 : Nat) (Ty.pair (Ty.int .i64) (Ty.int .i64)))), ((27 : Nat), TSh.at (Sh.int .i64)), ((28 : Nat), TSh.at (Sh.int .i64))]
noncomputable def ZlZ : Spec := Spec.mk [OSh.ro, OSh.row true (3 : Nat) (Ty.int .i64)] [((3 : Nat), TSh.at (Sh.sl (1 : Nat)))]
noncomputable def Z2S : LoopDef (Tup Z1F × OutD) := .plain Z9Y ZlZ (List Int) (fun k x => Z1c k x.1.2.1.1 x.1.2.1.2.1 x.1.2.1.2.2.1 x.1.2.2.1 x.2.2.2.1 x.2.2.2.2.1 x.2.2.2.2.2.1 x.2.2.2.2.2.2.1) (fun z => (((), z, ()), ((), ()))) (fun y => (y.1.2.1)) (fun _ => rfl)
noncomputable def Z5P : Nat → Int × Int × List (Int × Int) → Option (List Int)
 | 0, _ => none
 | k + 1, p0 =>
  if Int.toNat (↑(List.length p0.2.2) : Int) * (8 : Nat) ≤ (281474976710656 : Nat) then Option.bind (Z3p k p0.1 p0.2.1 p0.2.2 (List.replicate (Int.toNat (↑(List.length p0.2.2) : Int)) (0 : Int)) (↑(List.length (List.replicate (Int.toNat (↑(List.length p0.2.2) : Int)) (0 : Int))) : Int) (0 : Int)) fun z0 => Option.bind (Z1c k z0.1 z0.2.1 z0.2.2.1 z0.2.2.2 (0 : Int) z0.2.2.1 (↑(List.length z0.2.2.1) : Int) (0 : Int)) fun z6 => some z6 else none
noncomputable def Z1y : FnDef := .of Zgd Z1F (List Int) (fun k x => Z5P k x.1) Zfk Zf8 Zkj
noncomputable def Z3b : Code := Try.f128.body.getD .skip
noncomputable def Zv : Ctx (Tup Z1F × OutD) := { T := T, G := [(190, Z4c.E), (191, Z4e.E)], mvs := [56], no := 0, n := 91, res := resOf T Zgd Z1F Try.f128.results.toList, loops := [(0, Z2P.E), (6, Z2R.E), (4, Z2V.E), (2, Z2S.E)], regs := [], conds := [] }
theorem Z61 (k : Nat) : EnvOK Try.prog k Zv.G := (EnvOK.cons (Zy1 k) (EnvOK.cons (Zyu k) (EnvOK.nil mixed)))
noncomputable def Z6E : Code := (findLoop 0 Z3b).getD .skip
theorem Zlr (k : Nat) (x : Z9N.D) : Z2P.lp (k + 1) x = loopK Zv Z2P 0 Z6E k x := by kernel_rfl
theorem Zmf (k : Nat) : LOK Try.prog Zv k Z6E := LOK.by [] (by kernel_rfl) AllOK.nil
theorem Zmj (x : Z9N.D) : Z2P.lp 0 x = none := by kernel_rfl
theorem Zkw (k : Nat) : EOK Try.prog Zv k Z2P.E (.block 0 (.loop Z6E)) := Zp T_ok Z61 Zmj Zlr Zmf k
noncomputable def Z6x : Code := (findLoop 6 Z3b).getD .skip
theorem ZlD (k : Nat) (x : Z9M.D) : Z2R.lp (k + 1) x = loopK Zv Z2R 6 Z6x k x := by kernel_rfl
theorem ZlK (k : Nat) : LOK Try.prog Zv k Z6x := LOK.by [] (by kernel_rfl) AllOK.nil
theorem ZlH (x : Z9M.D) : Z2R.lp 0 x = none := by kernel_rfl
theorem Zkl (k : Nat) : EOK Try.prog Zv k Z2R.E (.block 6 (.loop Z6x)) := Zp T_ok Z61 ZlH ZlD ZlK k
noncomputable def Z6t : Code := (findLoop 4 Z3b).getD .skip
theorem Zmb (k : Nat) (x : Z9S.D) : Z2V.lp (k + 1) x = loopK Zv Z2V 4 Z6t k x := by kernel_rfl
theorem Zm9 (k : Nat) : LOK Try.prog Zv k Z6t := LOK.by [(Z2R.E, .block 6 (.loop Z6x))] (by kernel_rfl) (AllOK.cons (Zkl k) AllOK.nil)
theorem ZlU (x : Z9S.D) : Z2V.lp 0 x = none := by kernel_rfl
theorem Zkh (k : Nat) : EOK Try.prog Zv k Z2V.E (.block 4 (.loop Z6t)) := Zp T_ok Z61 ZlU Zmb Zm9 k
noncomputable def Z6D : Code := (findLoop 2 Z3b).getD .skip
theorem ZlF (k : Nat) (x : Z9Y.D) : Z2S.lp (k + 1) x = loopK Zv Z2S 2 Z6D k x := by kernel_rfl
theorem Zlx (k : Nat) : LOK Try.prog Zv k Z6D := LOK.by [(Z2V.E, .block 4 (.loop Z6t))] (by kernel_rfl) (AllOK.cons (Zkh k) AllOK.nil)
theorem ZlB (x : Z9Y.D) : Z2S.lp 0 x = none := by kernel_rfl
theorem Zkt (k : Nat) : EOK Try.prog Zv k Z2S.E (.block 2 (.loop Z6D)) := Zp T_ok Z61 ZlB ZlF Zlx k
theorem Zqt (k : Nat) (x : Tup Z1y.ps) : Z1y.f (k + 1) x = fnK Z1y Zv Z3b k x := by kernel_rfl
theorem Zrf (x : Tup Z1y.ps) : Z1y.f 0 x = none := by kernel_rfl
theorem Zqz (k : Nat) : LOK Try.prog Zv k Z3b := LOK.by [(Z2P.E, .block 0 (.loop Z6E)), (Z2S.E, .block 2 (.loop Z6D))] (by kernel_rfl) (AllOK.cons (Zkw k) (AllOK.cons (Zkt k) AllOK.nil))
theorem Zgg (k : Nat) : SoundAt Try.prog k 128 Z1y.E := @Ze Try.prog Z1y Zv 128 Try.f128 Z3b (by kernel_rfl) (by kernel_rfl) (by kernel_rfl) Try.func128 (by kernel_rfl) (by kernel_rfl) (by kernel_rfl) T_ok Z61 Zqz Zrf Zqt k
noncomputable def Zbu : List PK := [PK.mk Ty.bool false none false none]
noncomputable def Zps : List PK := [PK.mk (Ty.pair (Ty.int .i64) (Ty.int .i64)) true none false none, PK.mk (Ty.int .i64) false none false none]
noncomputable def Znd (r : Bool) : Tup Zbu × OutD := ((r, ()), none)
noncomputable def ZmE : Tup Zbu × OutD → Option (Bool)
 | (a, none) => some (a.1)
 | _ => none
theorem Zup : ∀ b r, ZmE b = some r → Znd r = b := by
 rintro ⟨a, o⟩ r h
 cases o with
 | none => injection h with h; subst h; rfl
 | some _ => cases h
noncomputable def Zbq : Nat → Int × Int → Int → Option Bool
 | 0, _, _ => none
 | k + 1, p0, p1 =>
  if decide (p1 = (1 : Int)) = true then Option.bind (Z4A k (Prod.fst p0, Prod.snd p0)) fun z0 => some z0 else if decide (p1 = (2 : Int)) = true then some true else if decide (p1 = (3 : Int)) = true then Option.bind (Z4A k (Prod.fst p0, Prod.snd p0)) fun z1 => if z1 = true then some true else if decide (Prod.fst p0 = (1 : Int)) = true then some true else some (decide (Prod.fst p0 = (2 : Int))) else some false
noncomputable def Z4x : FnDef := .of Zps Zbu (Bool) (fun k x => Zbq k x.1 x.2.1) Znd ZmE Zup
noncomputable def ZhJ : Code := Try.f182.body.getD .skip
noncomputable def ZdV : Ctx (Tup Zbu × OutD) := { T := T, G := [(207, Z22.E)], mvs := [], no := 0, n := 26, res := resOf T Zps Zbu Try.f182.results.toList, loops := [], regs := [], conds := [] }
theorem ZA9 (k : Nat) : EnvOK Try.prog k ZdV.G := (EnvOK.cons (Zen k) (EnvOK.nil mixed))
theorem ZAF (k : Nat) (x : Tup Z4x.ps) : Z4x.f (k + 1) x = fnK Z4x ZdV ZhJ k x := by kernel_rfl
theorem ZA0 (x : Tup Z4x.ps) : Z4x.f 0 x = none := by kernel_rfl
theorem ZzM (k : Nat) : LOK Try.prog ZdV k ZhJ := LOK.by [] (by kernel_rfl) AllOK.nil
theorem Zpk (k : Nat) : SoundAt Try.prog k 182 Z4x.E := @Ze Try.prog Z4x ZdV 182 Try.f182 ZhJ (by kernel_rfl) (by kernel_rfl) (by kernel_rfl) Try.func182 (by kernel_rfl) (by kernel_rfl) (by kernel_rfl) T_ok ZA9 ZzM ZA0 ZAF k
noncomputable def Z3g : List PK := [PK.mk (Ty.slice (3 : Nat) (Ty.int .i64)) false none false none]
noncomputable def ZkY : List PK := [PK.mk (Ty.pair (Ty.int .i64) (Ty.pair (Ty.int .i64) (Ty.slice (79 : Nat) (Ty.pair (Ty.int .i64) (Ty.int .i64))))) true none false none]
noncomputable def ZjK (r : List Int) : Tup Z3g × OutD := ((r, ()), none)
noncomputable def ZjY : Tup Z3g × OutD → Option (List Int)
 | (a, none) => some (a.1)
 | _ => none
theorem Zqy : ∀ b r, ZjY b = some r → ZjK r = b := by
 rintro ⟨a, o⟩ r h
 cases o with
 | none => injection h with h; subst h; rfl
 | some _ => cases h
noncomputable def Z5p : Nat → Int → Int → List (Int × Int) → List Int → Int → Int → Option (Int × Int × List (Int × Int) × List Int)
 | 0, _, _, _, _, _, _ => none
 | k + 1, b1_0, b1_1, b1_2, o2, v17, v18 =>
  if decide (v18 < v17) = true then if (0 : Int) ≤ v18 then if v18 < (↑(List.length o2) : Int) then Z5p k b1_0 b1_1 b1_2 (List.set o2 (Int.toNat v18) (-1 : Int)) v17 (wrap64 (v18 + (1 : Int))) else none else none else some (b1_0, b1_1, b1_2, o2)
noncomputable def Zcf : Spec := Spec.mk [OSh.ro, OSh.box (53 : Nat) [Sh.int .i64, Sh.int .i64, Sh.snap (0 : Nat) (Ty.pair (Ty.int .i64) (Ty.int .i64))], OSh.row true (3 : Nat) (Ty.int .i64)] [((1 : Nat), TSh.at (Sh.ptr (1 : Nat) (0 : Nat))), ((3 : Nat), TSh.at (Sh.sl (2 : Nat))), ((17 : Nat), TSh.at (Sh.int .i64)), ((18 : Nat), TSh.at (Sh.int .i64))]
noncomputable def Zt6 : Spec := Spec.mk [OSh.ro, OSh.box (53 : Nat) [Sh.int .i64, Sh.int .i64, Sh.snap (0 : Nat) (Ty.pair (Ty.int .i64) (Ty.int .i64))], OSh.row true (3 : Nat) (Ty.int .i64)] [((1 : Nat), TSh.at (Sh.ptr (1 : Nat) (0 : Nat))), ((3 : Nat), TSh.at (Sh.sl (2 : Nat)))]
noncomputable def Z4G : LoopDef (Tup Z3g × OutD) := .plain Zcf Zt6 (Int × Int × List (Int × Int) × List Int) (fun k x => Z5p k x.1.2.1.1 x.1.2.1.2.1 x.1.2.1.2.2.1 x.1.2.2.1 x.2.2.2.1 x.2.2.2.2.1) (fun z => (((), (z.1, z.2.1, z.2.2.1, ()), z.2.2.2, ()), ((), (), ()))) (fun y => (y.1.2.1.1, y.1.2.1.2.1, y.1.2.1.2.2.1, y.1.2.2.1)) (fun _ => rfl)
noncomputable def Z33 : Nat → Int → Int → List (Int × Int) → List Int → List Int → List Int → Int → Int → List (Int × Int) → Int → Int → Int → Int → Option (Int × Int × List (Int × Int) × List Int × List Int × Int × Int × List (Int × Int) × Int × Int)
 | 0, _, _, _, _, _, _, _, _, _, _, _, _, _ => none
 | k + 1, b1_0, b1_1, b1_2, o2, o3, o4, v5, v9, v26, v27, v28, v61, v62 =>
  if decide (v62 < v61) = true then if (0 : Int) ≤ v62 then if v62 < (↑(List.length o4) : Int) then if (0 : Int) ≤ List.getD o4 (Int.toNat v62) (0 : Int) then if List.getD o4 (Int.toNat v62) (0 : Int) < (↑(List.length b1_2) : Int) then Option.bind (ZbB k (Prod.fst (List.getD b1_2 (Int.toNat (List.getD o4 (Int.toNat v62) (0 : Int))) ((0 : Int), (0 : Int))), Prod.snd (List.getD b1_2 (Int.toNat (List.getD o4 (Int.toNat v62) (0 : Int))) ((0 : Int), (0 : Int))))) fun z3 => if z3 = true then if (0 : Int) ≤ List.getD o4 (Int.toNat v62) (0 : Int) then if List.getD o4 (Int.toNat v62) (0 : Int) < (↑(List.length o2) : Int) then if decide (List.getD o2 (Int.toNat (List.getD o4 (Int.toNat v62) (0 : Int))) (0 : Int) < (0 : Int)) = true then if (0 : Int) ≤ List.getD o4 (Int.toNat v62) (0 : Int) then if List.getD o4 (Int.toNat v62) (0 : Int) < (↑(List.length o2) : Int) then if List.length o3 + List.length [List.getD o4 (Int.toNat v62) (0 : Int)] ≤ (140737488355328 / 8 : Nat) then Z33 k b1_0 b1_1 b1_2 (List.set o2 (Int.toNat (List.getD o4 (Int.toNat v62) (0 : Int))) v5) (o3 ++ [List.getD o4 (Int.toNat v62) (0 : Int)]) o4 v5 v9 v26 v27 v28 v61 (wrap64 (v62 + (1 : Int))) else none else none else none else Z33 k b1_0 b1_1 b1_2 o2 o3 o4 v5 v9 v26 v27 v28 v61 (wrap64 (v62 + (1 : Int))) else none else none else Z33 k b1_0 b1_1 b1_2 o2 o3 o4 v5 v9 v26 v27 v28 v61 (wrap64 (v62 + (1 : Int))) else none else none else none else none else some (b1_0, b1_1, b1_2, o2, o3, v5, v9, v26, v27, v28)
noncomputable def Zcq : Spec := Spec.mk [OSh.ro, OSh.box (53 : Nat) [Sh.int .i64, Sh.int .i64, Sh.snap (0 : Nat) (Ty.pair (Ty.int .i64) (Ty.int .i64))], OSh.row true (3 : Nat) (Ty.int .i64), OSh.row true (3 : Nat) (Ty.int .i64), OSh.row true (3 : Nat) (Ty.int .i64)] [((1 : Nat), TSh.at (Sh.ptr (1 : Nat) (0 : Nat))), ((3 : Nat), TSh.at (Sh.sl (2 : Nat))), ((5 : Nat), TSh.at (Sh.int .i64)), ((8 : Nat), TSh.at (Sh.sl (3 : Nat))), ((9 : Nat), TSh.at (Sh.int .i64)), ((26 : Nat), TSh.at (Sh.snap (0 : Nat) (Ty.pair (Ty.int .i64) (Ty.int .i64)))), ((27 : Nat), TSh.at (Sh.int .i64)), ((28 : Nat), TSh.at (Sh.int .i64)), ((60 : Nat), TSh.at (Sh.sl (4 : Nat))), ((61 : Nat), TSh.at (Sh.int .i64)), ((62 : Nat), TSh.at (Sh.int .i64))]
noncomputable def Zsj : Spec := Spec.mk [OSh.ro, OSh.box (53 : Nat) [Sh.int .i64, Sh.int .i64, Sh.snap (0 : Nat) (Ty.pair (Ty.int .i64) (Ty.int .i64))], OSh.row true (3 : Nat) (Ty.int .i64), OSh.row true (3 : Nat) (Ty.int .i64)] [((1 : Nat), TSh.at (Sh.ptr (1 : Nat) (0 : Nat))), ((3 : Nat), TSh.at (Sh.sl (2 : Nat))), ((5 : Nat), TSh.at (Sh.int .i64)), ((8 : Nat), TSh.at (Sh.sl (3 : Nat))), ((9 : Nat), TSh.at (Sh.int .i64)), ((26 : Nat), TSh.at (Sh.snap (0 : Nat) (Ty.pair (Ty.int .i64) (Ty.int .i64)))), ((27 : Nat), TSh.at (Sh.int .i64)), ((28 : Nat), TSh.at (Sh.int .i64))]
noncomputable def Z4H : LoopDef (Tup Z3g × OutD) := .plain Zcq Zsj (Int × Int × List (Int × Int) × List Int × List Int × Int × Int × List (Int × Int) × Int × Int) (fun k x => Z33 k x.1.2.1.1 x.1.2.1.2.1 x.1.2.1.2.2.1 x.1.2.2.1 x.1.2.2.2.1 x.1.2.2.2.2.1 x.2.2.2.1 x.2.2.2.2.2.1 x.2.2.2.2.2.2.1 x.2.2.2.2.2.2.2.1 x.2.2.2.2.2.2.2.2.1 x.2.2.2.2.2.2.2.2.2.2.1 x.2.2.2.2.2.2.2.2.2.2.2.1) (fun z => (((), (z.1, z.2.1, z.2.2.1, ()), z.2.2.2.1, z.2.2.2.2.1, ()), ((), (), z.2.2.2.2.2.1, (), z.2.2.2.2.2.2.1, z.2.2.2.2.2.2.2.1, z.2.2.2.2.2.2.2.2.1, z.2.2.2.2.2.2.2.2.2, ()))) (fun y => (y.1.2.1.1, y.1.2.1.2.1, y.1.2.1.2.2.1, y.1.2.2.1, y.1.2.2.2.1, y.2.2.2.1, y.2.2.2.2.2.1, y.2.2.2.2.2.2.1, y.2.2.2.2.2.2.2.1, y.2.2.2.2.2.2.2.2.1)) (fun _ => rfl)
noncomputable def Z47 : Nat → Int → Int → List (Int × Int) → List Int → List Int → Int → Int → List (Int × Int) → Int → Int → Option (Int × Int × List (Int × Int) × List Int × Int × List (Int × Int) × Int × Int)
 | 0, _, _, _, _, _, _, _, _, _, _ => none
 | k + 1, b1_0, b1_1, b1_2, o2, o3, v5, v9, v26, v27, v28 =>
  if decide (v9 < (↑(List.length o3) : Int)) = true then if (0 : Int) ≤ v9 then if v9 < (↑(List.length o3) : Int) then Option.bind (ZdW k (b1_0, b1_1, b1_2) (List.getD o3 (Int.toNat v9) (0 : Int))) fun z2 => Option.bind (Z33 k b1_0 b1_1 b1_2 o2 o3 z2 v5 v9 v26 v27 v28 (↑(List.length z2) : Int) (0 : Int)) fun z4 => Z47 k z4.1 z4.2.1 z4.2.2.1 z4.2.2.2.1 z4.2.2.2.2.1 z4.2.2.2.2.2.1 (wrap64 (Prod.fst z4.2.2.2.2.2.2 + (1 : Int))) z4.2.2.2.2.2.2.2.1 z4.2.2.2.2.2.2.2.2.1 z4.2.2.2.2.2.2.2.2.2 else none else none else some (b1_0, b1_1, b1_2, o2, v5, v26, v27, v28)
noncomputable def Zcw : Spec := Spec.mk [OSh.ro, OSh.box (53 : Nat) [Sh.int .i64, Sh.int .i64, Sh.snap (0 : Nat) (Ty.pair (Ty.int .i64) (Ty.int .i64))], OSh.row true (3 : Nat) (Ty.int .i64), OSh.row true (3 : Nat) (Ty.int .i64)] [((1 : Nat), TSh.at (Sh.ptr (1 : Nat) (0 : Nat))), ((3 : Nat), TSh.at (Sh.sl (2 : Nat))), ((5 : Nat), TSh.at (Sh.int .i64)), ((8 : Nat), TSh.at (Sh.sl (3 : Nat))), ((9 : Nat), TSh.at (Sh.int .i64)), ((26 : Nat), TSh.at (Sh.snap (0 : Nat) (Ty.pair (Ty.int .i64) (Ty.int .i64)))), ((27 : Nat), TSh.at (Sh.int .i64)), ((28 : Nat), TSh.at (Sh.int .i64))]
noncomputable def ZsI : Spec := Spec.mk [OSh.ro, OSh.box (53 : Nat) [Sh.int .i64, Sh.int .i64, Sh.snap (0 : Nat) (Ty.pair (Ty.int .i64) (Ty.int .i64))], OSh.row true (3 : Nat) (Ty.int .i64)] [((1 : Nat), TSh.at (Sh.ptr (1 : Nat) (0 : Nat))), ((3 : Nat), TSh.at (Sh.sl (2 : Nat))), ((5 : Nat), TSh.at (Sh.int .i64)), ((26 : Nat), TSh.at (Sh.snap (0 : Nat) (Ty.pair (Ty.int .i64) (Ty.int .i64)))), ((27 : Nat), TSh.at (Sh.int .i64)), ((28 : Nat), TSh.at (Sh.int .i64))]
noncomputable def Z4P : LoopDef (Tup Z3g × OutD) := .plain Zcw ZsI (Int × Int × List (Int × Int) × List Int × Int × List (Int × Int) × Int × Int) (fun k x => Z47 k x.1.2.1.1 x.1.2.1.2.1 x.1.2.1.2.2.1 x.1.2.2.1 x.1.2.2.2.1 x.2.2.2.1 x.2.2.2.2.2.1 x.2.2.2.2.2.2.1 x.2.2.2.2.2.2.2.1 x.2.2.2.2.2.2.2.2.1) (fun z => (((), (z.1, z.2.1, z.2.2.1, ()), z.2.2.2.1, ()), ((), (), z.2.2.2.2.1, z.2.2.2.2.2.1, z.2.2.2.2.2.2.1, z.2.2.2.2.2.2.2, ()))) (fun y => (y.1.2.1.1, y.1.2.1.2.1, y.1.2.1.2.2.1, y.1.2.2.1, y.2.2.2.1, y.2.2.2.2.1, y.2.2.2.2.2.1, y.2.2.2.2.2.2.1)) (fun _ => rfl)
noncomputable def Z2d : Nat → Int → Int → List (Int × Int) → List Int → Int → List (Int × Int) → Int → Int → Option (List Int)
 | 0, _, _, _, _, _, _, _, _ => none
 | k + 1, b1_0, b1_1, b1_2, o2, v5, v26, v27, v28 =>
  if decide (v28 < v27) = true then if (0 : Int) ≤ v28 then if v28 < (↑(List.length v26) : Int) then Option.bind (ZbB k (Prod.fst (List.getD v26 (Int.toNat v28) ((0 : Int), (0 : Int))), Prod.snd (List.getD v26 (Int.toNat v28) ((0 : Int), (0 : Int))))) fun z1 => if (!z1) = true then Z2d k b1_0 b1_1 b1_2 o2 v5 v26 v27 (wrap64 (v28 + (1 : Int))) else if (0 : Int) ≤ v28 then if v28 < (↑(List.length o2) : Int) then if decide (List.getD o2 (Int.toNat v28) (0 : Int) ≥ (0 : Int)) = true then Z2d k b1_0 b1_1 b1_2 o2 v5 v26 v27 (wrap64 (v28 + (1 : Int))) else if (0 : Int) ≤ v28 then if v28 < (↑(List.length o2) : Int) then Option.bind (Z47 k b1_0 b1_1 b1_2 (List.set o2 (Int.toNat v28) v5) [v28] v5 (0 : Int) v26 v27 v28) fun z5 => Z2d k z5.1 z5.2.1 z5.2.2.1 z5.2.2.2.1 (wrap64 (Prod.fst z5.2.2.2.2 + (1 : Int))) z5.2.2.2.2.2.1 z5.2.2.2.2.2.2.1 (wrap64 (Prod.snd z5.2.2.2.2.2.2 + (1 : Int))) else none else none else none else none else none else none else some o2
noncomputable def Zcr : Spec := Spec.mk [OSh.ro, OSh.box (53 : Nat) [Sh.int .i64, Sh.int .i64, Sh.snap (0 : Nat) (Ty.pair (Ty.int .i64) (Ty.int .i64))], OSh.row true (3 : Nat) (Ty.int .i64)] [((1 : Nat), TSh.at (Sh.ptr (1 : Nat) (0 : Nat))), ((3 : Nat), TSh.at (Sh.sl (2 : Nat))), ((5 : Nat), TSh.at (Sh.int .i64)), ((26 : Nat), TSh.at (Sh.snap (0 : Nat) (Ty.pair (Ty.int .i64) (Ty.int .i64)))), ((27 : Nat), TSh.at (Sh.int .i64)), ((28 : Nat), TSh.at (Sh.int .i64))]
noncomputable def Ztm : Spec := Spec.mk [OSh.ro, OSh.row true (3 : Nat) (Ty.int .i64)] [((3 : Nat), TSh.at (Sh.sl (1 : Nat)))]
noncomputable def Z4T : LoopDef (Tup Z3g × OutD) := .plain Zcr Ztm (List Int) (fun k x => Z2d k x.1.2.1.1 x.1.2.1.2.1 x.1.2.1.2.2.1 x.1.2.2.1 x.2.2.2.1 x.2.2.2.2.1 x.2.2.2.2.2.1 x.2.2.2.2.2.2.1) (fun z => (((), z, ()), ((), ()))) (fun y => (y.1.2.1)) (fun _ => rfl)
noncomputable def Z20 : Nat → Int × Int × List (Int × Int) → Option (List Int)
 | 0, _ => none
 | k + 1, p0 =>
  if Int.toNat (↑(List.length p0.2.2) : Int) * (8 : Nat) ≤ (281474976710656 : Nat) then Option.bind (Z5p k p0.1 p0.2.1 p0.2.2 (List.replicate (Int.toNat (↑(List.length p0.2.2) : Int)) (0 : Int)) (↑(List.length (List.replicate (Int.toNat (↑(List.length p0.2.2) : Int)) (0 : Int))) : Int) (0 : Int)) fun z0 => Option.bind (Z2d k z0.1 z0.2.1 z0.2.2.1 z0.2.2.2 (0 : Int) z0.2.2.1 (↑(List.length z0.2.2.1) : Int) (0 : Int)) fun z6 => some z6 else none
noncomputable def Z3i : FnDef := .of ZkY Z3g (List Int) (fun k x => Z20 k x.1) ZjK ZjY Zqy
noncomputable def Z5c : Code := Try.f185.body.getD .skip
noncomputable def ZO : Ctx (Tup Z3g × OutD) := { T := T, G := [(208, Z5D.E), (209, Z5C.E)], mvs := [], no := 0, n := 92, res := resOf T ZkY Z3g Try.f185.results.toList, loops := [(0, Z4G.E), (6, Z4H.E), (4, Z4P.E), (2, Z4T.E)], regs := [], conds := [] }
theorem Z9v (k : Nat) : EnvOK Try.prog k ZO.G := (EnvOK.cons (ZzX k) (EnvOK.cons (ZA4 k) (EnvOK.nil mixed)))
noncomputable def Z9o : Code := (findLoop 0 Z5c).getD .skip
theorem ZsX (k : Nat) (x : Zcf.D) : Z4G.lp (k + 1) x = loopK ZO Z4G 0 Z9o k x := by kernel_rfl
theorem Ztc (k : Nat) : LOK Try.prog ZO k Z9o := LOK.by [] (by kernel_rfl) AllOK.nil
theorem ZrB (x : Zcf.D) : Z4G.lp 0 x = none := by kernel_rfl
theorem ZqK (k : Nat) : EOK Try.prog ZO k Z4G.E (.block 0 (.loop Z9o)) := Zp T_ok Z9v ZrB ZsX Ztc k
noncomputable def Z9h : Code := (findLoop 6 Z5c).getD .skip
theorem Zt9 (k : Nat) (x : Zcq.D) : Z4H.lp (k + 1) x = loopK ZO Z4H 6 Z9h k x := by kernel_rfl
theorem Zrm (k : Nat) : LOK Try.prog ZO k Z9h := LOK.by [] (by kernel_rfl) AllOK.nil
theorem Zt1 (x : Zcq.D) : Z4H.lp 0 x = none := by kernel_rfl
theorem Zqa (k : Nat) : EOK Try.prog ZO k Z4H.E (.block 6 (.loop Z9h)) := Zp T_ok Z9v Zt1 Zt9 Zrm k
noncomputable def Z9k : Code := (findLoop 4 Z5c).getD .skip
theorem Zsw (k : Nat) (x : Zcw.D) : Z4P.lp (k + 1) x = loopK ZO Z4P 4 Z9k k x := by kernel_rfl
theorem ZsN (k : Nat) : LOK Try.prog ZO k Z9k := LOK.by [(Z4H.E, .block 6 (.loop Z9h))] (by kernel_rfl) (AllOK.cons (Zqa k) AllOK.nil)
theorem ZsW (x : Zcw.D) : Z4P.lp 0 x = none := by kernel_rfl
theorem ZqJ (k : Nat) : EOK Try.prog ZO k Z4P.E (.block 4 (.loop Z9k)) := Zp T_ok Z9v ZsW Zsw ZsN k
noncomputable def Z9x : Code := (findLoop 2 Z5c).getD .skip
theorem Zs3 (k : Nat) (x : Zcr.D) : Z4T.lp (k + 1) x = loopK ZO Z4T 2 Z9x k x := by kernel_rfl
theorem Zsr (k : Nat) : LOK Try.prog ZO k Z9x := LOK.by [(Z4P.E, .block 4 (.loop Z9k))] (by kernel_rfl) (AllOK.cons (ZqJ k) AllOK.nil)
theorem Zrt (x : Zcr.D) : Z4T.lp 0 x = none := by kernel_rfl
theorem Zrb (k : Nat) : EOK Try.prog ZO k Z4T.E (.block 2 (.loop Z9x)) := Zp T_ok Z9v Zrt Zs3 Zsr k
theorem ZxF (k : Nat) (x : Tup Z3i.ps) : Z3i.f (k + 1) x = fnK Z3i ZO Z5c k x := by kernel_rfl
theorem ZxE (x : Tup Z3i.ps) : Z3i.f 0 x = none := by kernel_rfl
theorem Zxu (k : Nat) : LOK Try.prog ZO k Z5c := LOK.by [(Z4G.E, .block 0 (.loop Z9o)), (Z4T.E, .block 2 (.loop Z9x))] (by kernel_rfl) (AllOK.cons (ZqK k) (AllOK.cons (Zrb k) AllOK.nil))
theorem ZkO (k : Nat) : SoundAt Try.prog k 185 Z3i.E := @Ze Try.prog Z3i ZO 185 Try.f185 Z5c (by kernel_rfl) (by kernel_rfl) (by kernel_rfl) Try.func185 (by kernel_rfl) (by kernel_rfl) (by kernel_rfl) T_ok Z9v Zxu ZxE ZxF k
noncomputable def ZbA : List PK := [PK.mk (Ty.int .i64) false none false none, PK.mk Ty.bool false none false none]
noncomputable def Zpz : List PK := [PK.mk (Ty.pair (Ty.int .i64) (Ty.int .i64)) true none false none, PK.mk (Ty.int .i64) false none false none]
noncomputable def ZmT (r : Int × Bool) : Tup ZbA × OutD := ((r.1, r.2, ()), none)
noncomputable def ZmM : Tup ZbA × OutD → Option (Int × Bool)
 | (a, none) => some (a.1, a.2.1)
 | _ => none
theorem Zu9 : ∀ b r, ZmM b = some r → ZmT r = b := by
 rintro ⟨a, o⟩ r h
 cases o with
 | none => injection h with h; subst h; rfl
 | some _ => cases h
noncomputable def Zbv : Nat → Int × Int → Int → Option (Int × Bool)
 | 0, _, _ => none
 | k + 1, p0, p1 =>
  Option.bind (Z9d k (Prod.fst p0, Prod.snd p0)) fun z0 => if (!z0) = true then some ((0 : Int), false) else if decide (p1 < (-1 : Int)) = true then some ((0 : Int), false) else if decide (p1 > (1 : Int)) = true then some ((0 : Int), false) else if decide (Prod.fst p0 = (5 : Int)) = true then some ((0 : Int), false) else if decide (Prod.fst p0 = (1 : Int)) = true then some ((-1 : Int), true) else if decide (Prod.fst p0 = (2 : Int)) = true then some ((1 : Int), true) else if decide (Prod.fst p0 = (3 : Int)) = true then some (wrap64 (wrap64 ((2 : Int) * Prod.snd p0) - (1 : Int)), true) else if decide (Prod.fst p0 = (6 : Int)) = true then some (wrap64 (wrap64 ((2 : Int) * Prod.snd p0) - (1 : Int)), true) else if decide (Prod.fst p0 = (4 : Int)) = true then some (wrap64 ((0 : Int) - p1), true) else some ((0 : Int), true)
noncomputable def Z4v : FnDef := .of Zpz ZbA (Int × Bool) (fun k x => Zbv k x.1 x.2.1) ZmT ZmM Zu9
noncomputable def ZhD : Code := Try.f187.body.getD .skip
noncomputable def Ze4 : Ctx (Tup ZbA × OutD) := { T := T, G := [(213, Z3H.E)], mvs := [], no := 0, n := 39, res := resOf T Zpz ZbA Try.f187.results.toList, loops := [], regs := [], conds := [] }
theorem ZAv (k : Nat) : EnvOK Try.prog k Ze4.G := (EnvOK.cons (Zhz k) (EnvOK.nil mixed))
theorem ZAn (k : Nat) (x : Tup Z4v.ps) : Z4v.f (k + 1) x = fnK Z4v Ze4 ZhD k x := by kernel_rfl
theorem ZzK (x : Tup Z4v.ps) : Z4v.f 0 x = none := by kernel_rfl
theorem ZzO (k : Nat) : LOK Try.prog Ze4 k ZhD := LOK.by [] (by kernel_rfl) AllOK.nil
theorem Zq5 (k : Nat) : SoundAt Try.prog k 187 Z4v.E := @Ze Try.prog Z4v Ze4 187 Try.f187 ZhD (by kernel_rfl) (by kernel_rfl) (by kernel_rfl) Try.func187 (by kernel_rfl) (by kernel_rfl) (by kernel_rfl) T_ok ZAv ZzO ZzK ZAn k
noncomputable def Z8B : List PK := [PK.mk Ty.bool false none false none]
noncomputable def Zj9 : List PK := [PK.mk (Ty.pair (Ty.int .i64) (Ty.int .i64)) true none false none]
noncomputable def Zic (r : Bool) : Tup Z8B × OutD := ((r, ()), none)
noncomputable def Zia : Tup Z8B × OutD → Option (Bool)
 | (a, none) => some (a.1)
 | _ => none
theorem Zol : ∀ b r, Zia b = some r → Zic r = b := by
 rintro ⟨a, o⟩ r h
 cases o with
 | none => injection h with h; subst h; rfl
 | some _ => cases h
noncomputable def Z2I : Nat → Int × Int → Option Bool
 | 0, _ => none
 | k + 1, p0 =>
  Option.bind (Z9d k (Prod.fst p0, Prod.snd p0)) fun z0 => if z0 = true then if decide (Prod.fst p0 = (3 : Int)) = true then some true else some (decide (Prod.fst p0 = (6 : Int))) else some false
noncomputable def Z2G : FnDef := .of Zj9 Z8B (Bool) (fun k x => Z2I k x.1) Zic Zia Zol
noncomputable def Zej : Code := Try.f188.body.getD .skip
noncomputable def ZaL : Ctx (Tup Z8B × OutD) := { T := T, G := [(213, Z3H.E)], mvs := [], no := 0, n := 15, res := resOf T Zj9 Z8B Try.f188.results.toList, loops := [], regs := [], conds := [] }
theorem Zwm (k : Nat) : EnvOK Try.prog k ZaL.G := (EnvOK.cons (Zhz k) (EnvOK.nil mixed))
theorem ZvL (k : Nat) (x : Tup Z2G.ps) : Z2G.f (k + 1) x = fnK Z2G ZaL Zej k x := by kernel_rfl
theorem Zwk (x : Tup Z2G.ps) : Z2G.f 0 x = none := by kernel_rfl
theorem Zxd (k : Nat) : LOK Try.prog ZaL k Zej := LOK.by [] (by kernel_rfl) AllOK.nil
theorem Zjc (k : Nat) : SoundAt Try.prog k 188 Z2G.E := @Ze Try.prog Z2G ZaL 188 Try.f188 Zej (by kernel_rfl) (by kernel_rfl) (by kernel_rfl) Try.func188 (by kernel_rfl) (by kernel_rfl) (by kernel_rfl) T_ok Zwm Zxd Zwk ZvL k
noncomputable def Z5x : List PK := [PK.mk Ty.bool false none false none]
noncomputable def Zit : List PK := [PK.mk (Ty.slice (79 : Nat) (Ty.pair (Ty.int .i64) (Ty.int .i64))) false none false none]
noncomputable def Zcv (r : Bool) : Tup Z5x × OutD := ((r, ()), none)
noncomputable def ZcJ : Tup Z5x × OutD → Option (Bool)
 | (a, none) => some (a.1)
 | _ => none
theorem ZeG : ∀ b r, ZcJ b = some r → Zcv r = b := by
 rintro ⟨a, o⟩ r h
 cases o with
 | none => injection h with h; subst h; rfl
 | some _ => cases h
noncomputable def Z4m : Nat → List (Int × Int) → Int → Int → Option (LR Unit Bool)
 | 0, _, _, _ => none
 | k + 1, v8, v9, v10 =>
  if decide (v10 < v9) = true then if (0 : Int) ≤ v10 then if v10 < (↑(List.length v8) : Int) then Option.bind (Z9d k (Prod.fst (List.getD v8 (Int.toNat v10) ((0 : Int), (0 : Int))), Prod.snd (List.getD v8 (Int.toNat v10) ((0 : Int), (0 : Int))))) fun z0 => if (!z0) = true then some (LR.ret false) else Z4m k v8 v9 (wrap64 (v10 + (1 : Int))) else none else none else some (LR.go ())
noncomputable def ZaI : Spec := Spec.mk [OSh.ro] [((8 : Nat), TSh.at (Sh.snap (0 : Nat) (Ty.pair (Ty.int .i64) (Ty.int .i64)))), ((9 : Nat), TSh.at (Sh.int .i64)), ((10 : Nat), TSh.at (Sh.int .i64))]
noncomputable def Zoa : Spec := Spec.mk [OSh.ro] []
noncomputable def Z3X : LoopDef (Tup Z5x × OutD) := .rets ZaI Zoa (Unit) (Bool) (fun k x => Z4m k x.2.1 x.2.2.1 x.2.2.2.1) (fun z => (((), ()), (()))) (fun y => ()) (fun _ => rfl) Zcv ZcJ ZeG
noncomputable def Za8 : Nat → List (Int × Int) → Option Bool
 | 0, _ => none
 | k + 1, p0 =>
  if decide ((↑(List.length p0) : Int) > (90 : Int)) = true then some false else Option.bind (Z4m k p0 (↑(List.length p0) : Int) (0 : Int)) fun z1 => LR.on z1 (fun y1 => some true) fun r1 => some r1
noncomputable def Z36 : FnDef := .of Zit Z5x (Bool) (fun k x => Za8 k x.1) Zcv ZcJ ZeG
noncomputable def Za3 : Code := Try.f192.body.getD .skip
noncomputable def Z46 : Ctx (Tup Z5x × OutD) := { T := T, G := [(213, Z3H.E)], mvs := [], no := 0, n := 18, res := resOf T Zit Z5x Try.f192.results.toList, loops := [(0, Z3X.E)], regs := [], conds := [] }
theorem ZhY (k : Nat) : EnvOK Try.prog k Z46.G := (EnvOK.cons (Zhz k) (EnvOK.nil mixed))
noncomputable def Z84 : Code := (findLoop 0 Za3).getD .skip
theorem Zok (k : Nat) (x : ZaI.D) : Z3X.lp (k + 1) x = loopK Z46 Z3X 0 Z84 k x := by kernel_rfl
theorem Zpe (k : Nat) : LOK Try.prog Z46 k Z84 := LOK.by [] (by kernel_rfl) AllOK.nil
theorem Zo4 (x : ZaI.D) : Z3X.lp 0 x = none := by kernel_rfl
theorem ZmD (k : Nat) : EOK Try.prog Z46 k Z3X.E (.block 0 (.loop Z84)) := Zp T_ok ZhY Zo4 Zok Zpe k
theorem Zue (k : Nat) (x : Tup Z36.ps) : Z36.f (k + 1) x = fnK Z36 Z46 Za3 k x := by kernel_rfl
theorem ZuF (x : Tup Z36.ps) : Z36.f 0 x = none := by kernel_rfl
theorem ZuO (k : Nat) : LOK Try.prog Z46 k Za3 := LOK.by [(Z3X.E, .block 0 (.loop Z84))] (by kernel_rfl) (AllOK.cons (ZmD k) AllOK.nil)
theorem Zu2 (k : Nat) : SoundAt Try.prog k 192 Z36.E := @Ze Try.prog Z36 Z46 192 Try.f192 Za3 (by kernel_rfl) (by kernel_rfl) (by kernel_rfl) Try.func192 (by kernel_rfl) (by kernel_rfl) (by kernel_rfl) T_ok ZhY ZuO ZuF Zue k
noncomputable def Zbn : List PK := [PK.mk Ty.bool false none false none]
noncomputable def ZpC : List PK := [PK.mk (Ty.pair (Ty.int .i64) (Ty.int .i64)) true none false none]
noncomputable def ZmG (r : Bool) : Tup Zbn × OutD := ((r, ()), none)
noncomputable def Znc : Tup Zbn × OutD → Option (Bool)
 | (a, none) => some (a.1)
 | _ => none
theorem Zua : ∀ b r, Znc b = some r → ZmG r = b := by
 rintro ⟨a, o⟩ r h
 cases o with
 | none => injection h with h; subst h; rfl
 | some _ => cases h
noncomputable def Ze0 : Nat → Int × Int → Option Bool
 | 0, _ => none
 | k + 1, p0 =>
  Option.bind (Z21 k p0.1 (0 : Int) (7 : Int)) fun z0 => if z0 = true then if decide (Prod.snd p0 = (0 : Int)) = true then some true else if decide (Prod.snd p0 = (1 : Int)) = true then Option.bind (Z4A k (Prod.fst p0, Prod.snd p0)) fun z1 => some z1 else some false else some false
noncomputable def Z5H : FnDef := .of ZpC Zbn (Bool) (fun k x => Ze0 k x.1) ZmG Znc Zua
noncomputable def ZhQ : Code := Try.f193.body.getD .skip
noncomputable def ZdU : Ctx (Tup Zbn × OutD) := { T := T, G := [(96, Z2s.E), (207, Z22.E)], mvs := [], no := 0, n := 20, res := resOf T ZpC Zbn Try.f193.results.toList, loops := [], regs := [], conds := [] }
theorem ZAG (k : Nat) : EnvOK Try.prog k ZdU.G := (EnvOK.cons (Z9T k) (EnvOK.cons (Zen k) (EnvOK.nil mixed)))
theorem ZAm (k : Nat) (x : Tup Z5H.ps) : Z5H.f (k + 1) x = fnK Z5H ZdU ZhQ k x := by kernel_rfl
theorem ZzS (x : Tup Z5H.ps) : Z5H.f 0 x = none := by kernel_rfl
theorem ZAe (k : Nat) : LOK Try.prog ZdU k ZhQ := LOK.by [] (by kernel_rfl) AllOK.nil
theorem ZA7 (k : Nat) : SoundAt Try.prog k 193 Z5H.E := @Ze Try.prog Z5H ZdU 193 Try.f193 ZhQ (by kernel_rfl) (by kernel_rfl) (by kernel_rfl) Try.func193 (by kernel_rfl) (by kernel_rfl) (by kernel_rfl) T_ok ZAG ZAe ZzS ZAm k
noncomputable def Z9f : List PK := []
noncomputable def Zpi : List PK := [PK.mk (Ty.pair (Ty.int .i64) (Ty.pair (Ty.int .i64) (Ty.slice (79 : Nat) (Ty.pair (Ty.int .i64) (Ty.int .i64))))) true (some ((2 : Nat), (79 : Nat), Ty.pair (Ty.int .i64) (Ty.int .i64))) false none, PK.mk (Ty.slice (3 : Nat) (Ty.int .i64)) false none false none, PK.mk (Ty.int .i64) false none false none]
noncomputable def ZmU (r : List (Int × Int)) : Tup Z9f × OutD := ((()), some ⟨Ty.pair (Ty.int .i64) (Ty.int .i64), r⟩)
noncomputable def Zgu : Tup Z9f × OutD → Option (List (Int × Int))
 | (a, some ⟨u, ys⟩) => if h : u = Ty.pair (Ty.int .i64) (Ty.int .i64) then some (castU h ys) else none
 | _ => none
theorem Zuk : ∀ b r, Zgu b = some r → ZmU r = b := by
 rintro ⟨a, o⟩ r h
 cases o with
 | none => cases h
 | some s =>
  obtain ⟨u, ys⟩ := s
  simp only [Zgu] at h
  split at h
  ·rename_i hu; subst hu; injection h with h; subst h; rfl
  ·cases h
noncomputable def Z3h : Nat → List (Int × Int) → Int → Int → List Int → Int → Int → Int → Option (List (Int × Int))
 | 0, _, _, _, _, _, _, _ => none
 | k + 1, o1, b2_0, b2_1, v1, v2, v28, v29 =>
  if decide (v29 < v28) = true then if (0 : Int) ≤ v29 then if v29 < (↑(List.length o1) : Int) then if decide (Prod.fst (List.getD o1 (Int.toNat v29) ((0 : Int), (0 : Int))) = (6 : Int)) = true then if (0 : Int) ≤ v29 then if v29 < (↑(List.length v1) : Int) then if (0 : Int) ≤ v2 then if v2 < (↑(List.length v1) : Int) then if decide (List.getD v1 (Int.toNat v29) (0 : Int) = List.getD v1 (Int.toNat v2) (0 : Int)) = true then Option.bind (Zby k (Prod.fst (List.getD o1 (Int.toNat v29) ((0 : Int), (0 : Int))), Prod.snd (List.getD o1 (Int.toNat v29) ((0 : Int), (0 : Int))))) fun z1 => if (0 : Int) ≤ v29 then if v29 < (↑(List.length o1) : Int) then Z3h k (List.set o1 (Int.toNat v29) (Prod.fst z1, Prod.snd z1)) b2_0 b2_1 v1 v2 v28 (wrap64 (v29 + (1 : Int))) else none else none else Z3h k o1 b2_0 b2_1 v1 v2 v28 (wrap64 (v29 + (1 : Int))) else none else none else none else none else Z3h k o1 b2_0 b2_1 v1 v2 v28 (wrap64 (v29 + (1 : Int))) else none else none else some o1
noncomputable def Zel : Spec := Spec.mk [OSh.ro, OSh.row false (79 : Nat) (Ty.pair (Ty.int .i64) (Ty.int .i64)), OSh.box (53 : Nat) [Sh.int .i64, Sh.int .i64, Sh.sl (1 : Nat)]] [((1 : Nat), TSh.at (Sh.snap (0 : Nat) (Ty.int .i64))), ((2 : Nat), TSh.at (Sh.int .i64)), ((3 : Nat), TSh.at (Sh.ptr (2 : Nat) (0 : Nat))), ((27 : Nat), TSh.at (Sh.sl (1 : Nat))), ((28 : Nat), TSh.at (Sh.int .i64)), ((29 : Nat), TSh.at (Sh.int .i64))]
noncomputable def Zwr : Spec := Spec.mk [OSh.ro, OSh.row false (79 : Nat) (Ty.pair (Ty.int .i64) (Ty.int .i64))] []
noncomputable def Z6r : LoopDef (Tup Z9f × OutD) := .plain Zel Zwr (List (Int × Int)) (fun k x => Z3h k x.1.2.1 x.1.2.2.1.1 x.1.2.2.1.2.1 x.2.1 x.2.2.1 x.2.2.2.2.2.1 x.2.2.2.2.2.2.1) (fun z => (((), z, ()), (()))) (fun y => (y.1.2.1)) (fun _ => rfl)
noncomputable def Z99 : Nat → Int × Int × List (Int × Int) → List Int → Int → Option (List (Int × Int))
 | 0, _, _, _ => none
 | k + 1, p0, p1, p2 =>
  if (0 : Int) ≤ p2 then if p2 < (↑(List.length p0.2.2) : Int) then if decide (Prod.fst (List.getD p0.2.2 (Int.toNat p2) ((0 : Int), (0 : Int))) = (3 : Int)) = true then Option.bind (Zby k (Prod.fst (List.getD p0.2.2 (Int.toNat p2) ((0 : Int), (0 : Int))), Prod.snd (List.getD p0.2.2 (Int.toNat p2) ((0 : Int), (0 : Int))))) fun z0 => if (0 : Int) ≤ p2 then if p2 < (↑(List.length p0.2.2) : Int) then some (List.set p0.2.2 (Int.toNat p2) (Prod.fst z0, Prod.snd z0)) else none else none else if decide (Prod.fst (List.getD p0.2.2 (Int.toNat p2) ((0 : Int), (0 : Int))) = (6 : Int)) = true then Option.bind (Z3h k p0.2.2 p0.1 p0.2.1 p1 p2 (↑(List.length p0.2.2) : Int) (0 : Int)) fun z2 => some z2 else some p0.2.2 else none else none
noncomputable def Z4w : FnDef := .of Zpi Z9f (List (Int × Int)) (fun k x => Z99 k x.1 x.2.1 x.2.2.1) ZmU Zgu Zuk
noncomputable def ZdZ : Code := Try.f212.body.getD .skip
noncomputable def Z7t : Ctx (Tup Z9f × OutD) := { T := T, G := [(218, Z5F.E)], mvs := [], no := 1, n := 55, res := resOf T Zpi Z9f Try.f212.results.toList, loops := [(1, Z6r.E)], regs := [], conds := [] }
theorem ZpJ (k : Nat) : EnvOK Try.prog k Z7t.G := (EnvOK.cons (ZzN k) (EnvOK.nil mixed))
noncomputable def Zbf : Code := (findLoop 1 ZdZ).getD .skip
theorem Zwi (k : Nat) (x : Zel.D) : Z6r.lp (k + 1) x = loopK Z7t Z6r 1 Zbf k x := by kernel_rfl
theorem ZvN (k : Nat) : LOK Try.prog Z7t k Zbf := LOK.by [] (by kernel_rfl) AllOK.nil
theorem Zwx (x : Zel.D) : Z6r.lp 0 x = none := by kernel_rfl
theorem ZuY (k : Nat) : EOK Try.prog Z7t k Z6r.E (.block 1 (.loop Zbf)) := Zp T_ok ZpJ Zwx Zwi ZvN k
theorem ZAt (k : Nat) (x : Tup Z4w.ps) : Z4w.f (k + 1) x = fnK Z4w Z7t ZdZ k x := by kernel_rfl
theorem ZAC (x : Tup Z4w.ps) : Z4w.f 0 x = none := by kernel_rfl
theorem ZAH (k : Nat) : LOK Try.prog Z7t k ZdZ := LOK.by [(Z6r.E, .block 1 (.loop Zbf))] (by kernel_rfl) (AllOK.cons (ZuY k) AllOK.nil)
theorem ZpK (k : Nat) : SoundAt Try.prog k 212 Z4w.E := @Ze Try.prog Z4w Z7t 212 Try.f212 ZdZ (by kernel_rfl) (by kernel_rfl) (by kernel_rfl) Try.func212 (by kernel_rfl) (by kernel_rfl) (by kernel_rfl) T_ok ZpJ ZAH ZAC ZAt k
noncomputable def Zat : List PK := [PK.mk (Ty.slice (79 : Nat) (Ty.pair (Ty.int .i64) (Ty.int .i64))) false none false none]
noncomputable def Ztf : List PK := []
noncomputable def ZpQ (r : List (Int × Int)) : Tup Zat × OutD := ((r, ()), none)
noncomputable def ZpF : Tup Zat × OutD → Option (List (Int × Int))
 | (a, none) => some (a.1)
 | _ => none
theorem ZwY : ∀ b r, ZpF b = some r → ZpQ r = b := by
 rintro ⟨a, o⟩ r h
 cases o with
 | none => injection h with h; subst h; rfl
 | some _ => cases h
noncomputable def Z4Q : Nat → List (Int × Int) → Int → Option (List (Int × Int))
 | 0, _, _ => none
 | k + 1, o1, v2 =>
  if decide (v2 ≤ (7 : Int)) = true then if List.length o1 + List.length [(v2, (0 : Int))] ≤ (140737488355328 / 16 : Nat) then Option.bind (Z4A k (v2, (1 : Int))) fun z0 => if z0 = true then if List.length (o1 ++ [(v2, (0 : Int))]) + List.length [(v2, (1 : Int))] ≤ (140737488355328 / 16 : Nat) then Z4Q k (o1 ++ [(v2, (0 : Int))] ++ [(v2, (1 : Int))]) (wrap64 (v2 + (1 : Int))) else none else Z4Q k (o1 ++ [(v2, (0 : Int))]) (wrap64 (v2 + (1 : Int))) else none else some o1
noncomputable def Zfz : Spec := Spec.mk [OSh.ro, OSh.row true (79 : Nat) (Ty.pair (Ty.int .i64) (Ty.int .i64))] [((1 : Nat), TSh.at (Sh.sl (1 : Nat))), ((2 : Nat), TSh.at (Sh.int .i64))]
noncomputable def ZxD : Spec := Spec.mk [OSh.ro, OSh.row true (79 : Nat) (Ty.pair (Ty.int .i64) (Ty.int .i64))] [((1 : Nat), TSh.at (Sh.sl (1 : Nat)))]
noncomputable def Z7d : LoopDef (Tup Zat × OutD) := .plain Zfz ZxD (List (Int × Int)) (fun k x => Z4Q k x.1.2.1 x.2.2.1) (fun z => (((), z, ()), ((), ()))) (fun y => (y.1.2.1)) (fun _ => rfl)
noncomputable def Zfv : Nat → Option (List (Int × Int))
 | 0 => none
 | k + 1 =>
  Option.bind (Z4Q k [] (0 : Int)) fun z1 => some z1
noncomputable def Z6J : FnDef := .of Ztf Zat (List (Int × Int)) (fun k x => Zfv k) ZpQ ZpF ZwY
noncomputable def Zff : Code := Try.f216.body.getD .skip
noncomputable def Z8x : Ctx (Tup Zat × OutD) := { T := T, G := [(207, Z22.E)], mvs := [], no := 0, n := 22, res := resOf T Ztf Zat Try.f216.results.toList, loops := [(0, Z7d.E)], regs := [], conds := [] }
theorem Zt3 (k : Nat) : EnvOK Try.prog k Z8x.G := (EnvOK.cons (Zen k) (EnvOK.nil mixed))
noncomputable def Zc6 : Code := (findLoop 0 Zff).getD .skip
theorem Zym (k : Nat) (x : Zfz.D) : Z7d.lp (k + 1) x = loopK Z8x Z7d 0 Zc6 k x := by kernel_rfl
theorem Zys (k : Nat) : LOK Try.prog Z8x k Zc6 := LOK.by [] (by kernel_rfl) AllOK.nil
theorem Zxz (x : Zfz.D) : Z7d.lp 0 x = none := by kernel_rfl
theorem Zw8 (k : Nat) : EOK Try.prog Z8x k Z7d.E (.block 0 (.loop Zc6)) := Zp T_ok Zt3 Zxz Zym Zys k
theorem ZB1 (k : Nat) (x : Tup Z6J.ps) : Z6J.f (k + 1) x = fnK Z6J Z8x Zff k x := by kernel_rfl
theorem ZBh (x : Tup Z6J.ps) : Z6J.f 0 x = none := by kernel_rfl
theorem ZBt (k : Nat) : LOK Try.prog Z8x k Zff := LOK.by [(Z7d.E, .block 0 (.loop Zc6))] (by kernel_rfl) (AllOK.cons (Zw8 k) AllOK.nil)
theorem ZBr (k : Nat) : SoundAt Try.prog k 216 Z6J.E := @Ze Try.prog Z6J Z8x 216 Try.f216 Zff (by kernel_rfl) (by kernel_rfl) (by kernel_rfl) Try.func216 (by kernel_rfl) (by kernel_rfl) (by kernel_rfl) T_ok Zt3 ZBt ZBh ZB1 k
end
end Go.Proofs.Ytgjmhbjdhihgaaa.Vs
