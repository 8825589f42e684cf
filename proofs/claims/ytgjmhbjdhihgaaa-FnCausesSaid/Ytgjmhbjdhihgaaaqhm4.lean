/- The proof, part 5. -/
import Derived.Test.Ytgjmhbjdhihgaaaqhm3
set_option maxRecDepth 100000
set_option maxHeartbeats 2000000
set_option linter.unusedVariables false
set_option linter.unusedSimpArgs false
namespace Go.Proofs.Ytgjmhbjdhihgaaa.Vs
open Go.RowKit
noncomputable section
noncomputable def Zfz : List PK := [PK.mk Ty.bool false none false none]
noncomputable def Zy7 : List PK := [PK.mk (Ty.slice (5 : Nat) (Ty.int .u8)) false none false none, PK.mk (Ty.slice (5 : Nat) (Ty.int .u8)) false none false none]
noncomputable def Zvg (r : Bool) : Tup Zfz × OutD := ((r, ()), none)
noncomputable def Zvt : Tup Zfz × OutD → Option (Bool)
 | (a, none) => some (a.1)
 | _ => none
theorem Zzc : ∀ b r, Zvt b = some r → Zvg r = b := by
 rintro ⟨a, o⟩ r h
 cases o with
 | none => injection h with h; subst h; rfl
 | some _ => cases h
noncomputable def ZfH : Nat → List Int → List Int → Option Bool
 | 0, _, _ => none
 | k + 1, p0, p1 =>
  if gtS (↑(List.length p0) : Int) (1048576 : Int) = true then some true else some (decide ((↑(List.length p1) : Int) > wrap64 ((1048576 : Int) - (↑(List.length p0) : Int))))
noncomputable def Z9k : FnDef := .of Zy7 Zfz (Bool) (fun k x => ZfH k x.1 x.2.1) Zvg Zvt Zzc
noncomputable def Zpd : Code := Try.f8.body.getD .skip
noncomputable def ZiH : Ctx (Tup Zfz × OutD) := { T := T, G := [], mvs := [], no := 0, n := 16, res := resOf T Zy7 Zfz Try.f8.results.toList, loops := [], regs := [], conds := [] }
theorem ZD6 (k : Nat) : EnvOK Try.prog k ZiH.G := (EnvOK.nil mixed)
theorem ZD9 (k : Nat) (x : Tup Z9k.ps) : Z9k.f (k + 1) x = fnK Z9k ZiH Zpd k x := by kernel_rfl
theorem ZDn (x : Tup Z9k.ps) : Z9k.f 0 x = none := by kernel_rfl
theorem ZD7 (k : Nat) : LOK Try.prog ZiH k Zpd := LOK.by [] (by kernel_rfl) AllOK.nil
theorem ZDj (k : Nat) : SoundAt Try.prog k 8 Z9k.E := @Ze Try.prog Z9k ZiH 8 Try.f8 Zpd (by kernel_rfl) (by kernel_rfl) (by kernel_rfl) Try.func8 (by kernel_rfl) (by kernel_rfl) (by kernel_rfl) T_ok ZD6 ZD7 ZDn ZD9 k
noncomputable def Z6X : List PK := [PK.mk Ty.bool false none false none]
noncomputable def ZkM : List PK := [PK.mk (Ty.slice (3 : Nat) (Ty.int .i64)) false none false none, PK.mk (Ty.slice (3 : Nat) (Ty.int .i64)) false none false none]
noncomputable def Zel (r : Bool) : Tup Z6X × OutD := ((r, ()), none)
noncomputable def Zea : Tup Z6X × OutD → Option (Bool)
 | (a, none) => some (a.1)
 | _ => none
theorem Zgh : ∀ b r, Zea b = some r → Zel r = b := by
 rintro ⟨a, o⟩ r h
 cases o with
 | none => injection h with h; subst h; rfl
 | some _ => cases h
noncomputable def Z5w : Nat → List Int → List Int → Int → Int → Option (LR Unit Bool)
 | 0, _, _, _, _ => none
 | k + 1, v0, v1, v12, v13 =>
  if decide (v13 < v12) = true then if (0 : Int) ≤ v13 then if v13 < (↑(List.length v0) : Int) then if (0 : Int) ≤ v13 then if v13 < (↑(List.length v1) : Int) then if decide (List.getD v0 (Int.toNat v13) (0 : Int) ≠ List.getD v1 (Int.toNat v13) (0 : Int)) = true then some (LR.ret false) else Z5w k v0 v1 v12 (wrap64 (v13 + (1 : Int))) else none else none else none else none else some (LR.go ())
noncomputable def ZcC : Spec := Spec.mk [OSh.ro] [((0 : Nat), TSh.at (Sh.snap (0 : Nat) (Ty.int .i64))), ((1 : Nat), TSh.at (Sh.snap (0 : Nat) (Ty.int .i64))), ((12 : Nat), TSh.at (Sh.int .i64)), ((13 : Nat), TSh.at (Sh.int .i64))]
noncomputable def Zrt : Spec := Spec.mk [OSh.ro] []
noncomputable def Z4P : LoopDef (Tup Z6X × OutD) := .rets ZcC Zrt (Unit) (Bool) (fun k x => Z5w k x.2.1 x.2.2.1 x.2.2.2.1 x.2.2.2.2.1) (fun z => (((), ()), (()))) (fun y => ()) (fun _ => rfl) Zel Zea Zgh
noncomputable def Z9w : Nat → List Int → List Int → Option Bool
 | 0, _, _ => none
 | k + 1, p0, p1 =>
  if decide ((↑(List.length p0) : Int) ≠ (↑(List.length p1) : Int)) = true then some false else Option.bind (Z5w k p0 p1 (↑(List.length p0) : Int) (0 : Int)) fun z0 => LR.on z0 (fun y0 => some true) fun r0 => some r0
noncomputable def Z3i : FnDef := .of ZkM Z6X (Bool) (fun k x => Z9w k x.1 x.2.1) Zel Zea Zgh
noncomputable def Zc4 : Code := Try.f31.body.getD .skip
noncomputable def Z5e : Ctx (Tup Z6X × OutD) := { T := T, G := [], mvs := [], no := 0, n := 26, res := resOf T ZkM Z6X Try.f31.results.toList, loops := [(0, Z4P.E)], regs := [], conds := [] }
theorem Zl2 (k : Nat) : EnvOK Try.prog k Z5e.G := (EnvOK.nil mixed)
noncomputable def Z9B : Code := (findLoop 0 Zc4).getD .skip
theorem Zrq (k : Nat) (x : ZcC.D) : Z4P.lp (k + 1) x = loopK Z5e Z4P 0 Z9B k x := by kernel_rfl
theorem Zsc (k : Nat) : LOK Try.prog Z5e k Z9B := LOK.by [] (by kernel_rfl) AllOK.nil
theorem ZrP (x : ZcC.D) : Z4P.lp 0 x = none := by kernel_rfl
theorem Zqh (k : Nat) : EOK Try.prog Z5e k Z4P.E (.block 0 (.loop Z9B)) := Zp T_ok Zl2 ZrP Zrq Zsc k
theorem Zyc (k : Nat) (x : Tup Z3i.ps) : Z3i.f (k + 1) x = fnK Z3i Z5e Zc4 k x := by kernel_rfl
theorem Zxg (x : Tup Z3i.ps) : Z3i.f 0 x = none := by kernel_rfl
theorem ZxO (k : Nat) : LOK Try.prog Z5e k Zc4 := LOK.by [(Z4P.E, .block 0 (.loop Z9B))] (by kernel_rfl) (AllOK.cons (Zqh k) AllOK.nil)
theorem ZkZ (k : Nat) : SoundAt Try.prog k 31 Z3i.E := @Ze Try.prog Z3i Z5e 31 Try.f31 Zc4 (by kernel_rfl) (by kernel_rfl) (by kernel_rfl) Try.func31 (by kernel_rfl) (by kernel_rfl) (by kernel_rfl) T_ok Zl2 ZxO Zxg Zyc k
noncomputable def Z4G : List PK := [PK.mk Ty.bool false none false none]
noncomputable def Zhv : List PK := [PK.mk (Ty.slice (77 : Nat) (Ty.pair (Ty.int .i64) (Ty.pair (Ty.int .i64) (Ty.int .i64)))) false none false none, PK.mk (Ty.slice (77 : Nat) (Ty.pair (Ty.int .i64) (Ty.pair (Ty.int .i64) (Ty.int .i64)))) false none false none]
noncomputable def ZbO (r : Bool) : Tup Z4G × OutD := ((r, ()), none)
noncomputable def ZbN : Tup Z4G × OutD → Option (Bool)
 | (a, none) => some (a.1)
 | _ => none
theorem ZdH : ∀ b r, ZbN b = some r → ZbO r = b := by
 rintro ⟨a, o⟩ r h
 cases o with
 | none => injection h with h; subst h; rfl
 | some _ => cases h
noncomputable def Z3S : Nat → List (Int × Int × Int) → List (Int × Int × Int) → Int → Int → Option (LR Unit Bool)
 | 0, _, _, _, _ => none
 | k + 1, v0, v1, v12, v13 =>
  if decide (v13 < v12) = true then if (0 : Int) ≤ v13 then if v13 < (↑(List.length v0) : Int) then if (0 : Int) ≤ v13 then if v13 < (↑(List.length v1) : Int) then if (!(decide (Prod.fst (List.getD v0 (Int.toNat v13) ((0 : Int), (0 : Int), (0 : Int))) = Prod.fst (List.getD v1 (Int.toNat v13) ((0 : Int), (0 : Int), (0 : Int)))) && (decide (Prod.fst (Prod.snd (List.getD v0 (Int.toNat v13) ((0 : Int), (0 : Int), (0 : Int)))) = Prod.fst (Prod.snd (List.getD v1 (Int.toNat v13) ((0 : Int), (0 : Int), (0 : Int))))) && (decide (Prod.snd (Prod.snd (List.getD v0 (Int.toNat v13) ((0 : Int), (0 : Int), (0 : Int)))) = Prod.snd (Prod.snd (List.getD v1 (Int.toNat v13) ((0 : Int), (0 : Int), (0 : Int))))) && true)))) = true then some (LR.ret false) else Z3S k v0 v1 v12 (wrap64 (v13 + (1 : Int))) else none else none else none else none else some (LR.go ())
noncomputable def Zag : Spec := Spec.mk [OSh.ro] [((0 : Nat), TSh.at (Sh.snap (0 : Nat) (Ty.pair (Ty.int .i64) (Ty.pair (Ty.int .i64) (Ty.int .i64))))), ((1 : Nat), TSh.at (Sh.snap (0 : Nat) (Ty.pair (Ty.int .i64) (Ty.pair (Ty.int .i64) (Ty.int .i64))))), ((12 : Nat), TSh.at (Sh.int .i64)), ((13 : Nat), TSh.at (Sh.int .i64))]
noncomputable def Zn0 : Spec := Spec.mk [OSh.ro] []
noncomputable def Z3r : LoopDef (Tup Z4G × OutD) := .rets Zag Zn0 (Unit) (Bool) (fun k x => Z3S k x.2.1 x.2.2.1 x.2.2.2.1 x.2.2.2.2.1) (fun z => (((), ()), (()))) (fun y => ()) (fun _ => rfl) ZbO ZbN ZdH
noncomputable def Z6Q : Nat → List (Int × Int × Int) → List (Int × Int × Int) → Option Bool
 | 0, _, _ => none
 | k + 1, p0, p1 =>
  if decide ((↑(List.length p0) : Int) ≠ (↑(List.length p1) : Int)) = true then some false else Option.bind (Z3S k p0 p1 (↑(List.length p0) : Int) (0 : Int)) fun z0 => LR.on z0 (fun y0 => some true) fun r0 => some r0
noncomputable def Z2u : FnDef := .of Zhv Z4G (Bool) (fun k x => Z6Q k x.1 x.2.1) ZbO ZbN ZdH
noncomputable def Z9G : Code := Try.f62.body.getD .skip
noncomputable def Z3D : Ctx (Tup Z4G × OutD) := { T := T, G := [], mvs := [], no := 0, n := 26, res := resOf T Zhv Z4G Try.f62.results.toList, loops := [(0, Z3r.E)], regs := [], conds := [] }
theorem Zh9 (k : Nat) : EnvOK Try.prog k Z3D.G := (EnvOK.nil mixed)
noncomputable def Z7i : Code := (findLoop 0 Z9G).getD .skip
theorem Znn (k : Nat) (x : Zag.D) : Z3r.lp (k + 1) x = loopK Z3D Z3r 0 Z7i k x := by kernel_rfl
theorem Znu (k : Nat) : LOK Try.prog Z3D k Z7i := LOK.by [] (by kernel_rfl) AllOK.nil
theorem ZnL (x : Zag.D) : Z3r.lp 0 x = none := by kernel_rfl
theorem ZlT (k : Nat) : EOK Try.prog Z3D k Z3r.E (.block 0 (.loop Z7i)) := Zp T_ok Zh9 ZnL Znn Znu k
theorem ZsS (k : Nat) (x : Tup Z2u.ps) : Z2u.f (k + 1) x = fnK Z2u Z3D Z9G k x := by kernel_rfl
theorem ZsV (x : Tup Z2u.ps) : Z2u.f 0 x = none := by kernel_rfl
theorem Zs8 (k : Nat) : LOK Try.prog Z3D k Z9G := LOK.by [(Z3r.E, .block 0 (.loop Z7i))] (by kernel_rfl) (AllOK.cons (ZlT k) AllOK.nil)
theorem Zsi (k : Nat) : SoundAt Try.prog k 62 Z2u.E := @Ze Try.prog Z2u Z3D 62 Try.f62 Z9G (by kernel_rfl) (by kernel_rfl) (by kernel_rfl) Try.func62 (by kernel_rfl) (by kernel_rfl) (by kernel_rfl) T_ok Zh9 Zs8 ZsV ZsS k
noncomputable def ZdF : List PK := [PK.mk Ty.bool false none false none]
noncomputable def Zv9 : List PK := [PK.mk (Ty.int .i64) false none false none, PK.mk (Ty.int .i64) false none false none, PK.mk (Ty.int .i64) false none false none]
noncomputable def ZsR (r : Bool) : Tup ZdF × OutD := ((r, ()), none)
noncomputable def Ztd : Tup ZdF × OutD → Option (Bool)
 | (a, none) => some (a.1)
 | _ => none
theorem Zyf : ∀ b r, Ztd b = some r → ZsR r = b := by
 rintro ⟨a, o⟩ r h
 cases o with
 | none => injection h with h; subst h; rfl
 | some _ => cases h
noncomputable def Z21 : Nat → Int → Int → Int → Option Bool
 | 0, _, _, _ => none
 | k + 1, p0, p1, p2 =>
  if decide (p0 ≥ p1) = true then some (decide (p0 ≤ p2)) else some false
noncomputable def Z2t : FnDef := .of Zv9 ZdF (Bool) (fun k x => Z21 k x.1 x.2.1 x.2.2.1) ZsR Ztd Zyf
noncomputable def ZlQ : Code := Try.f96.body.getD .skip
noncomputable def ZgP : Ctx (Tup ZdF × OutD) := { T := T, G := [], mvs := [], no := 0, n := 15, res := resOf T Zv9 ZdF Try.f96.results.toList, loops := [], regs := [], conds := [] }
theorem ZC1 (k : Nat) : EnvOK Try.prog k ZgP.G := (EnvOK.nil mixed)
theorem ZCg (k : Nat) (x : Tup Z2t.ps) : Z2t.f (k + 1) x = fnK Z2t ZgP ZlQ k x := by kernel_rfl
theorem ZBX (x : Tup Z2t.ps) : Z2t.f 0 x = none := by kernel_rfl
theorem ZCu (k : Nat) : LOK Try.prog ZgP k ZlQ := LOK.by [] (by kernel_rfl) AllOK.nil
theorem Z9T (k : Nat) : SoundAt Try.prog k 96 Z2t.E := @Ze Try.prog Z2t ZgP 96 Try.f96 ZlQ (by kernel_rfl) (by kernel_rfl) (by kernel_rfl) Try.func96 (by kernel_rfl) (by kernel_rfl) (by kernel_rfl) T_ok ZC1 ZCu ZBX ZCg k
noncomputable def Zbs : List PK := [PK.mk (Ty.int .i64) false none false none]
noncomputable def ZpD : List PK := [PK.mk (Ty.int .i64) false none false none, PK.mk (Ty.int .i64) false none false none]
noncomputable def Zmw (r : Int) : Tup Zbs × OutD := ((r, ()), none)
noncomputable def ZnR : Tup Zbs × OutD → Option (Int)
 | (a, none) => some (a.1)
 | _ => none
theorem Zu7 : ∀ b r, ZnR b = some r → Zmw r = b := by
 rintro ⟨a, o⟩ r h
 cases o with
 | none => injection h with h; subst h; rfl
 | some _ => cases h
noncomputable def Z9e : Nat → Int → Int → Option Int
 | 0, _, _ => none
 | k + 1, p0, p1 =>
  if decide (p0 > p1) = true then some p0 else some p1
noncomputable def Z5H : FnDef := .of ZpD Zbs (Int) (fun k x => Z9e k x.1 x.2.1) Zmw ZnR Zu7
noncomputable def ZhE : Code := Try.f115.body.getD .skip
noncomputable def ZdR : Ctx (Tup Zbs × OutD) := { T := T, G := [], mvs := [], no := 0, n := 10, res := resOf T ZpD Zbs Try.f115.results.toList, loops := [], regs := [], conds := [] }
theorem ZzS (k : Nat) : EnvOK Try.prog k ZdR.G := (EnvOK.nil mixed)
theorem ZAx (k : Nat) (x : Tup Z5H.ps) : Z5H.f (k + 1) x = fnK Z5H ZdR ZhE k x := by kernel_rfl
theorem ZAG (x : Tup Z5H.ps) : Z5H.f 0 x = none := by kernel_rfl
theorem ZzZ (k : Nat) : LOK Try.prog ZdR k ZhE := LOK.by [] (by kernel_rfl) AllOK.nil
theorem ZzL (k : Nat) : SoundAt Try.prog k 115 Z5H.E := @Ze Try.prog Z5H ZdR 115 Try.f115 ZhE (by kernel_rfl) (by kernel_rfl) (by kernel_rfl) Try.func115 (by kernel_rfl) (by kernel_rfl) (by kernel_rfl) T_ok ZzS ZzZ ZAG ZAx k
noncomputable def Z6r : List PK := [PK.mk (Ty.pair (Ty.int .i64) (Ty.pair (Ty.int .i64) (Ty.slice (79 : Nat) (Ty.pair (Ty.int .i64) (Ty.int .i64))))) true none false none]
noncomputable def Zjc : List PK := [PK.mk (Ty.pair (Ty.int .i64) (Ty.pair (Ty.int .i64) (Ty.slice (79 : Nat) (Ty.pair (Ty.int .i64) (Ty.int .i64))))) true none false none]
noncomputable def Zi8 (r : Int × Int × List (Int × Int)) : Tup Z6r × OutD := ((r, ()), none)
noncomputable def Zi1 : Tup Z6r × OutD → Option (Int × Int × List (Int × Int))
 | (a, none) => some (a.1)
 | _ => none
theorem ZoP : ∀ b r, Zi1 b = some r → Zi8 r = b := by
 rintro ⟨a, o⟩ r h
 cases o with
 | none => injection h with h; subst h; rfl
 | some _ => cases h
noncomputable def Z4g : Nat → Int → Int → List (Int × Int) → Int → Int → List (Int × Int) → Option (Int × Int × List (Int × Int)) := fun k b1_0 b1_1 b1_2 b2_0 b2_1 o3 =>
    if (0 : Nat) + List.length b1_2 ≤ (140737488355328 / 16 : Nat) then some (b1_0, b1_1, b1_2) else none
noncomputable def Z7T : Nat → Int → Int → List (Int × Int) → Int → Int → List (Int × Int) → Option (List (Int × Int × List (Int × Int))) := fun k b1_0 b1_1 b1_2 b2_0 b2_1 o3 =>
    joinL (joinL (if (0 : Nat) + List.length b1_2 ≤ (140737488355328 / 16 : Nat) then some [(b1_0, b1_1, b1_2)] else none) (joinL (if (0 : Nat) + List.length b1_2 ≤ (140737488355328 / 16 : Nat) then some [(b1_0, b1_1, b1_2)] else none) (if (0 : Nat) + List.length b1_2 ≤ (140737488355328 / 16 : Nat) then some [(b1_0, b1_1, b1_2)] else none))) (joinL (joinL (if (0 : Nat) + List.length b1_2 ≤ (140737488355328 / 16 : Nat) then some [(b1_0, b1_1, b1_2)] else none) (joinL (if (0 : Nat) + List.length b1_2 ≤ (140737488355328 / 16 : Nat) then some [(b1_0, b1_1, b1_2)] else none) (if (0 : Nat) + List.length b1_2 ≤ (140737488355328 / 16 : Nat) then some [(b1_0, b1_1, b1_2)] else none))) (joinL (joinL (if (0 : Nat) + List.length b1_2 ≤ (140737488355328 / 16 : Nat) then some [(b1_0, b1_1, b1_2)] else none) (if (0 : Nat) + List.length b1_2 ≤ (140737488355328 / 16 : Nat) then some [(b1_0, b1_1, b1_2)] else none)) (joinL (joinL (if (0 : Nat) + List.length b1_2 ≤ (140737488355328 / 16 : Nat) then some [(b1_0, b1_1, b1_2)] else none) (if (0 : Nat) + List.length b1_2 ≤ (140737488355328 / 16 : Nat) then some [(b1_0, b1_1, b1_2)] else none)) (if (0 : Nat) + List.length b1_2 ≤ (140737488355328 / 16 : Nat) then joinL (some [(b1_0, b1_1, b1_2)]) (some [(b1_0, b1_1, b1_2)]) else none))))
noncomputable def ZfG : Spec := Spec.mk [OSh.ro, OSh.box (53 : Nat) [Sh.int .i64, Sh.int .i64, Sh.snap (0 : Nat) (Ty.pair (Ty.int .i64) (Ty.int .i64))], OSh.box (53 : Nat) [Sh.int .i64, Sh.int .i64, Sh.sl (3 : Nat)], OSh.row true (79 : Nat) (Ty.pair (Ty.int .i64) (Ty.int .i64))] [((1 : Nat), TSh.at (Sh.ptr (1 : Nat) (0 : Nat))), ((2 : Nat), TSh.at (Sh.ptr (2 : Nat) (0 : Nat)))]
noncomputable def ZoC : Spec := Spec.mk [OSh.ro, OSh.box (53 : Nat) [Sh.int .i64, Sh.int .i64, Sh.sl (2 : Nat)], OSh.row true (79 : Nat) (Ty.pair (Ty.int .i64) (Ty.int .i64))] [((2 : Nat), TSh.at (Sh.ptr (1 : Nat) (0 : Nat)))]
noncomputable def Z3L : LoopDef (Tup Z6r × OutD) := .plain ZfG ZoC (Int × Int × List (Int × Int)) (fun k x => Z4g k x.1.2.1.1 x.1.2.1.2.1 x.1.2.1.2.2.1 x.1.2.2.1.1 x.1.2.2.1.2.1 x.1.2.2.2.1) (fun z => (((), (z.1, z.2.1, (), ()), z.2.2, ()), ((), ()))) (fun y => (y.1.2.1.1, y.1.2.1.2.1, y.1.2.2.1)) (fun _ => rfl)
theorem ZoI (k : Nat) (b1_0 : Int) (b1_1 : Int) (b1_2 : List (Int × Int)) (b2_0 : Int) (b2_1 : Int) (o3 : List (Int × Int)) : Z7T k b1_0 b1_1 b1_2 b2_0 b2_1 o3 = repl 12 (Z4g k b1_0 b1_1 b1_2 b2_0 b2_1 o3) := by
 first
 | (simp only [Z7T, Z4g, Zb, Zg, Zc, Za, Z9, Z8, if_true]; done)
 | (simp only [Z7T, Z4g, Zb, Zg, Zc, Za, Z9, Z8, if_true]; simp only [Z4y, Z4u, Z7o, Z8]; simp only [Z9c]; exact Z5J ⟨fun h => by simp only [h, and_self], fun h => by simp only [h, and_self]⟩)
noncomputable def Z8u : Nat → Int × Int × List (Int × Int) → Option (Int × Int × List (Int × Int))
 | 0, _ => none
 | k + 1, p0 =>
  Option.bind (Z4g k p0.1 p0.2.1 p0.2.2 (0 : Int) (0 : Int) []) fun z0 => some (Prod.fst z0, Prod.fst z0.2, Prod.snd z0.2)
noncomputable def Z2F : FnDef := .of Zjc Z6r (Int × Int × List (Int × Int)) (fun k x => Z8u k x.1) Zi8 Zi1 ZoP
noncomputable def Zbi : Code := Try.f127.body.getD .skip
noncomputable def Z24 : Ctx (Tup Z6r × OutD) := { T := T, G := [], mvs := [], no := 0, n := 12, res := resOf T Zjc Z6r Try.f127.results.toList, loops := [], regs := [(1, Z3L.E)], conds := [] }
theorem Zji (k : Nat) : EnvOK Try.prog k Z24.G := (EnvOK.nil mixed)
noncomputable def Zbf : Array Oper := (findReg 1 Zbi).getD #[]
theorem Zp4 (k : Nat) (x : ZfG.D) : execD Z24.T Z24.G Z24.mvs k Zbf (Z3L.inp.st Z24.n x) (outK Z24 Z3L) = Z7T k x.1.2.1.1 x.1.2.1.2.1 x.1.2.1.2.2.1 x.1.2.2.1.1 x.1.2.2.1.2.1 x.1.2.2.2.1 := by kernel_rfl
theorem ZmP (k : Nat) : EOK Try.prog Z24 k Z3L.E (.region 1 Zbf true) := Zau (D := Z3L) (m := 12) T_ok (Zji k) (fun x => (Zp4 k x).trans (ZoI k x.1.2.1.1 x.1.2.1.2.1 x.1.2.1.2.2.1 x.1.2.2.1.1 x.1.2.2.1.2.1 x.1.2.2.2.1))
theorem Zws (k : Nat) (x : Tup Z2F.ps) : Z2F.f (k + 1) x = fnK Z2F Z24 Zbi k x := by kernel_rfl
theorem ZwN (x : Tup Z2F.ps) : Z2F.f 0 x = none := by kernel_rfl
theorem ZvS (k : Nat) : LOK Try.prog Z24 k Zbi := LOK.by [(Z3L.E, .region 1 Zbf true)] (by kernel_rfl) (AllOK.cons (ZmP k) AllOK.nil)
theorem ZjG (k : Nat) : SoundAt Try.prog k 127 Z2F.E := @Ze Try.prog Z2F Z24 127 Try.f127 Zbi (by kernel_rfl) (by kernel_rfl) (by kernel_rfl) Try.func127 (by kernel_rfl) (by kernel_rfl) (by kernel_rfl) T_ok Zji ZvS ZwN Zws k
noncomputable def Z4l : List PK := [PK.mk (Ty.slice (3 : Nat) (Ty.int .i64)) false none false none]
noncomputable def ZfR : List PK := [PK.mk (Ty.pair (Ty.int .i64) (Ty.pair (Ty.int .i64) (Ty.slice (79 : Nat) (Ty.pair (Ty.int .i64) (Ty.int .i64))))) true none false none, PK.mk (Ty.slice (77 : Nat) (Ty.pair (Ty.int .i64) (Ty.pair (Ty.int .i64) (Ty.int .i64)))) false none false none]
noncomputable def ZeV (r : List Int) : Tup Z4l × OutD := ((r, ()), none)
noncomputable def Zf2 : Tup Z4l × OutD → Option (List Int)
 | (a, none) => some (a.1)
 | _ => none
theorem ZkH : ∀ b r, Zf2 b = some r → ZeV r = b := by
 rintro ⟨a, o⟩ r h
 cases o with
 | none => injection h with h; subst h; rfl
 | some _ => cases h
noncomputable def Z3o : Nat → Int → Int → List (Int × Int) → List Int → List (Int × Int × Int) → Int → Int → Option (List Int)
 | 0, _, _, _, _, _, _, _ => none
 | k + 1, b1_0, b1_1, b1_2, o2, v12, v13, v14 =>
  if decide (v14 < v13) = true then if (0 : Int) ≤ v14 then if v14 < (↑(List.length v12) : Int) then if (0 : Int) ≤ wrap64 (wrap64 (Prod.fst (Prod.snd (List.getD v12 (Int.toNat v14) ((0 : Int), (0 : Int), (0 : Int)))) * b1_1) + Prod.snd (Prod.snd (List.getD v12 (Int.toNat v14) ((0 : Int), (0 : Int), (0 : Int))))) then if wrap64 (wrap64 (Prod.fst (Prod.snd (List.getD v12 (Int.toNat v14) ((0 : Int), (0 : Int), (0 : Int)))) * b1_1) + Prod.snd (Prod.snd (List.getD v12 (Int.toNat v14) ((0 : Int), (0 : Int), (0 : Int))))) < (↑(List.length o2) : Int) then Z3o k b1_0 b1_1 b1_2 (List.set o2 (Int.toNat (wrap64 (wrap64 (Prod.fst (Prod.snd (List.getD v12 (Int.toNat v14) ((0 : Int), (0 : Int), (0 : Int)))) * b1_1) + Prod.snd (Prod.snd (List.getD v12 (Int.toNat v14) ((0 : Int), (0 : Int), (0 : Int))))))) (Prod.fst (List.getD v12 (Int.toNat v14) ((0 : Int), (0 : Int), (0 : Int))))) v12 v13 (wrap64 (v14 + (1 : Int))) else none else none else none else none else some o2
noncomputable def Z9X : Spec := Spec.mk [OSh.ro, OSh.box (53 : Nat) [Sh.int .i64, Sh.int .i64, Sh.snap (0 : Nat) (Ty.pair (Ty.int .i64) (Ty.int .i64))], OSh.row true (3 : Nat) (Ty.int .i64)] [((2 : Nat), TSh.at (Sh.ptr (1 : Nat) (0 : Nat))), ((5 : Nat), TSh.at (Sh.sl (2 : Nat))), ((12 : Nat), TSh.at (Sh.snap (0 : Nat) (Ty.pair (Ty.int .i64) (Ty.pair (Ty.int .i64) (Ty.int .i64))))), ((13 : Nat), TSh.at (Sh.int .i64)), ((14 : Nat), TSh.at (Sh.int .i64))]
noncomputable def Zmh : Spec := Spec.mk [OSh.ro, OSh.row true (3 : Nat) (Ty.int .i64)] [((5 : Nat), TSh.at (Sh.sl (1 : Nat)))]
noncomputable def Z2N : LoopDef (Tup Z4l × OutD) := .plain Z9X Zmh (List Int) (fun k x => Z3o k x.1.2.1.1 x.1.2.1.2.1 x.1.2.1.2.2.1 x.1.2.2.1 x.2.2.2.1 x.2.2.2.2.1 x.2.2.2.2.2.1) (fun z => (((), z, ()), ((), ()))) (fun y => (y.1.2.1)) (fun _ => rfl)
noncomputable def Z8G : Nat → Int × Int × List (Int × Int) → List (Int × Int × Int) → Option (List Int)
 | 0, _, _ => none
 | k + 1, p0, p1 =>
  if Int.toNat (↑(List.length p0.2.2) : Int) * (8 : Nat) ≤ (281474976710656 : Nat) then Option.bind (Z3o k p0.1 p0.2.1 p0.2.2 (List.replicate (Int.toNat (↑(List.length p0.2.2) : Int)) (0 : Int)) p1 (↑(List.length p1) : Int) (0 : Int)) fun z0 => some z0 else none
noncomputable def Z27 : FnDef := .of ZfR Z4l (List Int) (fun k x => Z8G k x.1 x.2.1) ZeV Zf2 ZkH
noncomputable def Z8F : Code := Try.f129.body.getD .skip
noncomputable def Z3c : Ctx (Tup Z4l × OutD) := { T := T, G := [], mvs := [], no := 0, n := 32, res := resOf T ZfR Z4l Try.f129.results.toList, loops := [(0, Z2N.E)], regs := [], conds := [] }
theorem Zg5 (k : Nat) : EnvOK Try.prog k Z3c.G := (EnvOK.nil mixed)
noncomputable def Z6x : Code := (findLoop 0 Z8F).getD .skip
theorem Zm0 (k : Nat) (x : Z9X.D) : Z2N.lp (k + 1) x = loopK Z3c Z2N 0 Z6x k x := by kernel_rfl
theorem Zlu (k : Nat) : LOK Try.prog Z3c k Z6x := LOK.by [] (by kernel_rfl) AllOK.nil
theorem Zm2 (x : Z9X.D) : Z2N.lp 0 x = none := by kernel_rfl
theorem Zkx (k : Nat) : EOK Try.prog Z3c k Z2N.E (.block 0 (.loop Z6x)) := Zp T_ok Zg5 Zm2 Zm0 Zlu k
theorem ZqI (k : Nat) (x : Tup Z27.ps) : Z27.f (k + 1) x = fnK Z27 Z3c Z8F k x := by kernel_rfl
theorem ZqW (x : Tup Z27.ps) : Z27.f 0 x = none := by kernel_rfl
theorem Zrh (k : Nat) : LOK Try.prog Z3c k Z8F := LOK.by [(Z2N.E, .block 0 (.loop Z6x))] (by kernel_rfl) (AllOK.cons (Zkx k) AllOK.nil)
theorem Zqj (k : Nat) : SoundAt Try.prog k 129 Z27.E := @Ze Try.prog Z27 Z3c 129 Try.f129 Z8F (by kernel_rfl) (by kernel_rfl) (by kernel_rfl) Try.func129 (by kernel_rfl) (by kernel_rfl) (by kernel_rfl) T_ok Zg5 Zrh ZqW ZqI k
noncomputable def ZT : List PK := [PK.mk Ty.bool false none false none]
noncomputable def Z7B : List PK := [PK.mk (Ty.slice (63 : Nat) (Ty.pair (Ty.int .i64) (Ty.pair (Ty.int .i64) (Ty.int .i64)))) false none false none, PK.mk (Ty.slice (63 : Nat) (Ty.pair (Ty.int .i64) (Ty.pair (Ty.int .i64) (Ty.int .i64)))) false none false none]
noncomputable def Z3Y (r : Bool) : Tup ZT × OutD := ((r, ()), none)
noncomputable def Z41 : Tup ZT × OutD → Option (Bool)
 | (a, none) => some (a.1)
 | _ => none
theorem Z5S : ∀ b r, Z41 b = some r → Z3Y r = b := by
 rintro ⟨a, o⟩ r h
 cases o with
 | none => injection h with h; subst h; rfl
 | some _ => cases h
noncomputable def ZQ : Nat → List (Int × Int × Int) → List (Int × Int × Int) → Int → Int → Option (LR Unit Bool)
 | 0, _, _, _, _ => none
 | k + 1, v0, v1, v12, v13 =>
  if decide (v13 < v12) = true then if (0 : Int) ≤ v13 then if v13 < (↑(List.length v0) : Int) then if (0 : Int) ≤ v13 then if v13 < (↑(List.length v1) : Int) then if (!(decide (Prod.fst (List.getD v0 (Int.toNat v13) ((0 : Int), (0 : Int), (0 : Int))) = Prod.fst (List.getD v1 (Int.toNat v13) ((0 : Int), (0 : Int), (0 : Int)))) && (decide (Prod.fst (Prod.snd (List.getD v0 (Int.toNat v13) ((0 : Int), (0 : Int), (0 : Int)))) = Prod.fst (Prod.snd (List.getD v1 (Int.toNat v13) ((0 : Int), (0 : Int), (0 : Int))))) && (decide (Prod.snd (Prod.snd (List.getD v0 (Int.toNat v13) ((0 : Int), (0 : Int), (0 : Int)))) = Prod.snd (Prod.snd (List.getD v1 (Int.toNat v13) ((0 : Int), (0 : Int), (0 : Int))))) && true)))) = true then some (LR.ret false) else ZQ k v0 v1 v12 (wrap64 (v13 + (1 : Int))) else none else none else none else none else some (LR.go ())
noncomputable def Z3k : Spec := Spec.mk [OSh.ro] [((0 : Nat), TSh.at (Sh.snap (0 : Nat) (Ty.pair (Ty.int .i64) (Ty.pair (Ty.int .i64) (Ty.int .i64))))), ((1 : Nat), TSh.at (Sh.snap (0 : Nat) (Ty.pair (Ty.int .i64) (Ty.pair (Ty.int .i64) (Ty.int .i64))))), ((12 : Nat), TSh.at (Sh.int .i64)), ((13 : Nat), TSh.at (Sh.int .i64))]
noncomputable def Zcb : Spec := Spec.mk [OSh.ro] []
noncomputable def ZM : LoopDef (Tup ZT × OutD) := .rets Z3k Zcb (Unit) (Bool) (fun k x => ZQ k x.2.1 x.2.2.1 x.2.2.2.1 x.2.2.2.2.1) (fun z => (((), ()), (()))) (fun y => ()) (fun _ => rfl) Z3Y Z41 Z5S
noncomputable def Z2h : Nat → List (Int × Int × Int) → List (Int × Int × Int) → Option Bool
 | 0, _, _ => none
 | k + 1, p0, p1 =>
  if decide ((↑(List.length p0) : Int) ≠ (↑(List.length p1) : Int)) = true then some false else Option.bind (ZQ k p0 p1 (↑(List.length p0) : Int) (0 : Int)) fun z0 => LR.on z0 (fun y0 => some true) fun r0 => some r0
noncomputable def Zy : FnDef := .of Z7B ZT (Bool) (fun k x => Z2h k x.1 x.2.1) Z3Y Z41 Z5S
noncomputable def Z2f : Code := Try.f166.body.getD .skip
noncomputable def ZJ : Ctx (Tup ZT × OutD) := { T := T, G := [], mvs := [], no := 0, n := 26, res := resOf T Z7B ZT Try.f166.results.toList, loops := [(0, ZM.E)], regs := [], conds := [] }
theorem Z7y (k : Nat) : EnvOK Try.prog k ZJ.G := (EnvOK.nil mixed)
noncomputable def Z1O : Code := (findLoop 0 Z2f).getD .skip
theorem Zca (k : Nat) (x : Z3k.D) : ZM.lp (k + 1) x = loopK ZJ ZM 0 Z1O k x := by kernel_rfl
theorem Zc9 (k : Nat) : LOK Try.prog ZJ k Z1O := LOK.by [] (by kernel_rfl) AllOK.nil
theorem Zc8 (x : Z3k.D) : ZM.lp 0 x = none := by kernel_rfl
theorem ZbH (k : Nat) : EOK Try.prog ZJ k ZM.E (.block 0 (.loop Z1O)) := Zp T_ok Z7y Zc8 Zca Zc9 k
theorem Zde (k : Nat) (x : Tup Zy.ps) : Zy.f (k + 1) x = fnK Zy ZJ Z2f k x := by kernel_rfl
theorem Zdm (x : Tup Zy.ps) : Zy.f 0 x = none := by kernel_rfl
theorem Zdk (k : Nat) : LOK Try.prog ZJ k Z2f := LOK.by [(ZM.E, .block 0 (.loop Z1O))] (by kernel_rfl) (AllOK.cons (ZbH k) AllOK.nil)
theorem Zdl (k : Nat) : SoundAt Try.prog k 166 Zy.E := @Ze Try.prog Zy ZJ 166 Try.f166 Z2f (by kernel_rfl) (by kernel_rfl) (by kernel_rfl) Try.func166 (by kernel_rfl) (by kernel_rfl) (by kernel_rfl) T_ok Z7y Zdk Zdm Zde k
noncomputable def Z94 : List PK := [PK.mk (Ty.int .i64) false none false none]
noncomputable def Zpr : List PK := [PK.mk (Ty.slice (63 : Nat) (Ty.pair (Ty.int .i64) (Ty.pair (Ty.int .i64) (Ty.int .i64)))) false none false none, PK.mk (Ty.slice (63 : Nat) (Ty.pair (Ty.int .i64) (Ty.pair (Ty.int .i64) (Ty.int .i64)))) false none false none]
noncomputable def ZgB (r : Int) : Tup Z94 × OutD := ((r, ()), none)
noncomputable def Zgy : Tup Z94 × OutD → Option (Int)
 | (a, none) => some (a.1)
 | _ => none
theorem Zib : ∀ b r, Zgy b = some r → ZgB r = b := by
 rintro ⟨a, o⟩ r h
 cases o with
 | none => injection h with h; subst h; rfl
 | some _ => cases h
noncomputable def Z7c : Nat → List (Int × Int × Int) → List (Int × Int × Int) → Int → Int → Option (LR Unit Int)
 | 0, _, _, _, _ => none
 | k + 1, v1, v7, v8, v9 =>
  if decide (v9 < v8) = true then if (0 : Int) ≤ v9 then if v9 < (↑(List.length v7) : Int) then if (0 : Int) ≤ v9 then if v9 < (↑(List.length v1) : Int) then if (!(decide (Prod.fst (List.getD v7 (Int.toNat v9) ((0 : Int), (0 : Int), (0 : Int))) = Prod.fst (List.getD v1 (Int.toNat v9) ((0 : Int), (0 : Int), (0 : Int)))) && (decide (Prod.fst (Prod.snd (List.getD v7 (Int.toNat v9) ((0 : Int), (0 : Int), (0 : Int)))) = Prod.fst (Prod.snd (List.getD v1 (Int.toNat v9) ((0 : Int), (0 : Int), (0 : Int))))) && (decide (Prod.snd (Prod.snd (List.getD v7 (Int.toNat v9) ((0 : Int), (0 : Int), (0 : Int)))) = Prod.snd (Prod.snd (List.getD v1 (Int.toNat v9) ((0 : Int), (0 : Int), (0 : Int))))) && true)))) = true then some (LR.ret v9) else Z7c k v1 v7 v8 (wrap64 (v9 + (1 : Int))) else none else none else none else none else some (LR.go ())
noncomputable def Zem : Spec := Spec.mk [OSh.ro] [((1 : Nat), TSh.at (Sh.snap (0 : Nat) (Ty.pair (Ty.int .i64) (Ty.pair (Ty.int .i64) (Ty.int .i64))))), ((7 : Nat), TSh.at (Sh.snap (0 : Nat) (Ty.pair (Ty.int .i64) (Ty.pair (Ty.int .i64) (Ty.int .i64))))), ((8 : Nat), TSh.at (Sh.int .i64)), ((9 : Nat), TSh.at (Sh.int .i64))]
noncomputable def Zx4 : Spec := Spec.mk [OSh.ro] []
noncomputable def Z65 : LoopDef (Tup Z94 × OutD) := .rets Zem Zx4 (Unit) (Int) (fun k x => Z7c k x.2.1 x.2.2.1 x.2.2.2.1 x.2.2.2.2.1) (fun z => (((), ()), (()))) (fun y => ()) (fun _ => rfl) ZgB Zgy Zib
noncomputable def Ze4 : Nat → List (Int × Int × Int) → List (Int × Int × Int) → Option Int
 | 0, _, _ => none
 | k + 1, p0, p1 =>
  Option.bind (Z7c k p1 p0 (↑(List.length p0) : Int) (0 : Int)) fun z0 => LR.on z0 (fun y0 => some (-1 : Int)) fun r0 => some r0
noncomputable def Z5F : FnDef := .of Zpr Z94 (Int) (fun k x => Ze4 k x.1 x.2.1) ZgB Zgy Zib
noncomputable def ZdN : Code := Try.f168.body.getD .skip
noncomputable def Z7n : Ctx (Tup Z94 × OutD) := { T := T, G := [], mvs := [], no := 0, n := 22, res := resOf T Zpr Z94 Try.f168.results.toList, loops := [(0, Z65.E)], regs := [], conds := [] }
theorem ZpH (k : Nat) : EnvOK Try.prog k Z7n.G := (EnvOK.nil mixed)
noncomputable def Zb5 : Code := (findLoop 0 ZdN).getD .skip
theorem ZwC (k : Nat) (x : Zem.D) : Z65.lp (k + 1) x = loopK Z7n Z65 0 Zb5 k x := by kernel_rfl
theorem Zw0 (k : Nat) : LOK Try.prog Z7n k Zb5 := LOK.by [] (by kernel_rfl) AllOK.nil
theorem Zxc (x : Zem.D) : Z65.lp 0 x = none := by kernel_rfl
theorem Zv6 (k : Nat) : EOK Try.prog Z7n k Z65.E (.block 0 (.loop Zb5)) := Zp T_ok ZpH Zxc ZwC Zw0 k
theorem ZA0 (k : Nat) (x : Tup Z5F.ps) : Z5F.f (k + 1) x = fnK Z5F Z7n ZdN k x := by kernel_rfl
theorem ZzJ (x : Tup Z5F.ps) : Z5F.f 0 x = none := by kernel_rfl
theorem ZAA (k : Nat) : LOK Try.prog Z7n k ZdN := LOK.by [(Z65.E, .block 0 (.loop Zb5))] (by kernel_rfl) (AllOK.cons (Zv6 k) AllOK.nil)
theorem ZAt (k : Nat) : SoundAt Try.prog k 168 Z5F.E := @Ze Try.prog Z5F Z7n 168 Try.f168 ZdN (by kernel_rfl) (by kernel_rfl) (by kernel_rfl) Try.func168 (by kernel_rfl) (by kernel_rfl) (by kernel_rfl) T_ok ZpH ZAA ZzJ ZA0 k
noncomputable def Z7D : List PK := [PK.mk (Ty.int .i64) false none false none]
noncomputable def Zie : List PK := [PK.mk (Ty.pair (Ty.slice (5 : Nat) (Ty.int .u8)) (Ty.pair (Ty.int .i64) (Ty.int .u64))) false none false (some (114 : Nat))]
noncomputable def Zhq (r : Int × Int × Int) : Tup Z7D × OutD := ((r.1, ()), some ⟨Ty.pair (Ty.slice (5 : Nat) (Ty.int .u8)) (Ty.pair (Ty.int .i64) (Ty.int .u64)), [([], r.2)]⟩)
noncomputable def ZcD : Tup Z7D × OutD → Option (Int × Int × Int)
 | (a, some ⟨u, ys⟩) => if h : u = Ty.pair (Ty.slice (5 : Nat) (Ty.int .u8)) (Ty.pair (Ty.int .i64) (Ty.int .u64)) then (match castU h ys with
  | [([], y)] => some (a.1, y)
  | _ => none) else none
 | _ => none
theorem Zmz : ∀ b r, ZcD b = some r → Zhq r = b := by
 rintro ⟨a, o⟩ r h
 cases o with
 | none => cases h
 | some s =>
  obtain ⟨u, ys⟩ := s
  simp only [ZcD] at h
  split at h
  ·rename_i hu
   subst hu
   match ys, h with
   | [], h => cases (show (none : Option _) = some r from h)
   | [([], y)], h => injection (show some _ = some r from h) with h; subst h; rfl
   | [(_ :: _, y)], h => cases (show (none : Option _) = some r from h)
   | (h1, _) :: _ :: _, h => cases h1 <;> cases (show (none : Option _) = some r from h)
  ·cases h
noncomputable def Z5q : Nat → List Int × Int × Int → Option (Int × Int × Int)
 | 0, _ => none
 | k + 1, p0 =>
  if decide (Prod.fst p0.2 < (↑(List.length p0.1) : Int)) = true then if (0 : Int) ≤ Prod.fst p0.2 then if Prod.fst p0.2 < (↑(List.length p0.1) : Int) then if decide (wrap64 (Prod.fst p0.2 + (1 : Int)) ≤ (↑(List.length p0.1) : Int)) = true then some (wrap64 (List.getD p0.1 (Int.toNat p0.2.1) (0 : Int)), wrap64 (Prod.fst p0.2 + (1 : Int)), IntKind.wrap IntKind.u64 (IntKind.wrap IntKind.u64 (IntKind.wrap IntKind.u64 (Prod.snd p0.2 * (6364136223846793005 : Int)) + IntKind.wrap IntKind.u64 (wrap64 (List.getD p0.1 (Int.toNat p0.2.1) (0 : Int)))) + (1442695040888963407 : Int))) else some (wrap64 (bits BinOp.and IntKind.u64 (Int.fdiv (IntKind.wrap IntKind.u64 (IntKind.wrap IntKind.u64 (IntKind.wrap IntKind.u64 (Prod.snd p0.2 * (6364136223846793005 : Int)) + IntKind.wrap IntKind.u64 (wrap64 (List.getD p0.1 (Int.toNat p0.2.1) (0 : Int)))) + (1442695040888963407 : Int))) ((2 : Int) ^ min (Int.toNat (40 : Int)) (IntKind.bits IntKind.u64))) (255 : Int)), wrap64 (Prod.fst p0.2 + (1 : Int)), IntKind.wrap IntKind.u64 (IntKind.wrap IntKind.u64 (IntKind.wrap IntKind.u64 (Prod.snd p0.2 * (6364136223846793005 : Int)) + IntKind.wrap IntKind.u64 (wrap64 (List.getD p0.1 (Int.toNat p0.2.1) (0 : Int)))) + (1442695040888963407 : Int))) else none else none else if decide (wrap64 (Prod.fst p0.2 + (1 : Int)) ≤ (↑(List.length p0.1) : Int)) = true then some ((0 : Int), wrap64 (Prod.fst p0.2 + (1 : Int)), IntKind.wrap IntKind.u64 (IntKind.wrap IntKind.u64 (IntKind.wrap IntKind.u64 (Prod.snd p0.2 * (6364136223846793005 : Int)) + IntKind.wrap IntKind.u64 (0 : Int)) + (1442695040888963407 : Int))) else some (wrap64 (bits BinOp.and IntKind.u64 (Int.fdiv (IntKind.wrap IntKind.u64 (IntKind.wrap IntKind.u64 (IntKind.wrap IntKind.u64 (Prod.snd p0.2 * (6364136223846793005 : Int)) + IntKind.wrap IntKind.u64 (0 : Int)) + (1442695040888963407 : Int))) ((2 : Int) ^ min (Int.toNat (40 : Int)) (IntKind.bits IntKind.u64))) (255 : Int)), wrap64 (Prod.fst p0.2 + (1 : Int)), IntKind.wrap IntKind.u64 (IntKind.wrap IntKind.u64 (IntKind.wrap IntKind.u64 (Prod.snd p0.2 * (6364136223846793005 : Int)) + IntKind.wrap IntKind.u64 (0 : Int)) + (1442695040888963407 : Int)))
noncomputable def Z35 : FnDef := .of Zie Z7D (Int × Int × Int) (fun k x => Z5q k x.1) Zhq ZcD Zmz
noncomputable def Zdj : Code := Try.f175.body.getD .skip
noncomputable def Za8 : Ctx (Tup Z7D × OutD) := { T := T, G := [], mvs := [], no := 2, n := 62, res := resOf T Zie Z7D Try.f175.results.toList, loops := [], regs := [], conds := [] }
theorem Zut (k : Nat) : EnvOK Try.prog k Za8.G := (EnvOK.nil mixed)
theorem Zue (k : Nat) (x : Tup Z35.ps) : Z35.f (k + 1) x = fnK Z35 Za8 Zdj k x := by kernel_rfl
theorem ZtG (x : Tup Z35.ps) : Z35.f 0 x = none := by kernel_rfl
theorem Zus (k : Nat) : LOK Try.prog Za8 k Zdj := LOK.by [] (by kernel_rfl) AllOK.nil
theorem ZuP (k : Nat) : SoundAt Try.prog k 175 Z35.E := @Ze Try.prog Z35 Za8 175 Try.f175 Zdj (by kernel_rfl) (by kernel_rfl) (by kernel_rfl) Try.func175 (by kernel_rfl) (by kernel_rfl) (by kernel_rfl) T_ok Zut Zus ZtG Zue k
noncomputable def ZdD : List PK := [PK.mk (Ty.pair (Ty.int .i64) (Ty.int .i64)) true none false none]
noncomputable def Zvd : List PK := [PK.mk (Ty.pair (Ty.int .i64) (Ty.pair (Ty.int .i64) (Ty.slice (79 : Nat) (Ty.pair (Ty.int .i64) (Ty.int .i64))))) true none false none, PK.mk (Ty.int .i64) false none false none, PK.mk (Ty.int .i64) false none false none]
noncomputable def Ztr (r : Int × Int) : Tup ZdD × OutD := ((r, ()), none)
noncomputable def Zsq : Tup ZdD × OutD → Option (Int × Int)
 | (a, none) => some (a.1)
 | _ => none
theorem ZxI : ∀ b r, Zsq b = some r → Ztr r = b := by
 rintro ⟨a, o⟩ r h
 cases o with
 | none => injection h with h; subst h; rfl
 | some _ => cases h
noncomputable def Z88 : Nat → Int × Int × List (Int × Int) → Int → Int → Option (Int × Int)
 | 0, _, _, _ => none
 | k + 1, p0, p1, p2 =>
  if (0 : Int) ≤ wrap64 (wrap64 (p1 * Prod.fst p0.2) + p2) then if wrap64 (wrap64 (p1 * Prod.fst p0.2) + p2) < (↑(List.length p0.2.2) : Int) then some (Prod.fst (List.getD p0.2.2 (Int.toNat (wrap64 (wrap64 (p1 * Prod.fst p0.2) + p2))) ((0 : Int), (0 : Int))), Prod.snd (List.getD p0.2.2 (Int.toNat (wrap64 (wrap64 (p1 * Prod.fst p0.2) + p2))) ((0 : Int), (0 : Int)))) else none else none
noncomputable def Z55 : FnDef := .of Zvd ZdD (Int × Int) (fun k x => Z88 k x.1 x.2.1 x.2.2.1) Ztr Zsq ZxI
noncomputable def Zm4 : Code := Try.f183.body.getD .skip
noncomputable def ZgW : Ctx (Tup ZdD × OutD) := { T := T, G := [], mvs := [], no := 0, n := 17, res := resOf T Zvd ZdD Try.f183.results.toList, loops := [], regs := [], conds := [] }
theorem ZBR (k : Nat) : EnvOK Try.prog k ZgW.G := (EnvOK.nil mixed)
theorem ZC5 (k : Nat) (x : Tup Z55.ps) : Z55.f (k + 1) x = fnK Z55 ZgW Zm4 k x := by kernel_rfl
theorem ZCt (x : Tup Z55.ps) : Z55.f 0 x = none := by kernel_rfl
theorem ZBY (k : Nat) : LOK Try.prog ZgW k Zm4 := LOK.by [] (by kernel_rfl) AllOK.nil
theorem ZlC (k : Nat) : SoundAt Try.prog k 183 Z55.E := @Ze Try.prog Z55 ZgW 183 Try.f183 Zm4 (by kernel_rfl) (by kernel_rfl) (by kernel_rfl) Try.func183 (by kernel_rfl) (by kernel_rfl) (by kernel_rfl) T_ok ZBR ZBY ZCt ZC5 k
noncomputable def Zaw : List PK := [PK.mk (Ty.pair (Ty.int .i64) (Ty.pair (Ty.int .i64) (Ty.slice (79 : Nat) (Ty.pair (Ty.int .i64) (Ty.int .i64))))) true none false none]
noncomputable def ZrL : List PK := [PK.mk (Ty.pair (Ty.int .i64) (Ty.pair (Ty.int .i64) (Ty.slice (79 : Nat) (Ty.pair (Ty.int .i64) (Ty.int .i64))))) true none false none]
noncomputable def ZpE (r : Int × Int × List (Int × Int)) : Tup Zaw × OutD := ((r, ()), none)
noncomputable def Zq4 : Tup Zaw × OutD → Option (Int × Int × List (Int × Int))
 | (a, none) => some (a.1)
 | _ => none
theorem Zwj : ∀ b r, Zq4 b = some r → ZpE r = b := by
 rintro ⟨a, o⟩ r h
 cases o with
 | none => injection h with h; subst h; rfl
 | some _ => cases h
noncomputable def Z78 : Nat → Int → Int → List (Int × Int) → Int → Int → List (Int × Int) → Option (Int × Int × List (Int × Int)) := fun k b1_0 b1_1 b1_2 b2_0 b2_1 o3 =>
    if (0 : Nat) + List.length b1_2 ≤ (140737488355328 / 16 : Nat) then some (b1_0, b1_1, b1_2) else none
noncomputable def Zbm : Nat → Int → Int → List (Int × Int) → Int → Int → List (Int × Int) → Option (List (Int × Int × List (Int × Int))) := fun k b1_0 b1_1 b1_2 b2_0 b2_1 o3 =>
    joinL (joinL (if (0 : Nat) + List.length b1_2 ≤ (140737488355328 / 16 : Nat) then some [(b1_0, b1_1, b1_2)] else none) (joinL (if (0 : Nat) + List.length b1_2 ≤ (140737488355328 / 16 : Nat) then some [(b1_0, b1_1, b1_2)] else none) (if (0 : Nat) + List.length b1_2 ≤ (140737488355328 / 16 : Nat) then some [(b1_0, b1_1, b1_2)] else none))) (joinL (joinL (if (0 : Nat) + List.length b1_2 ≤ (140737488355328 / 16 : Nat) then some [(b1_0, b1_1, b1_2)] else none) (joinL (if (0 : Nat) + List.length b1_2 ≤ (140737488355328 / 16 : Nat) then some [(b1_0, b1_1, b1_2)] else none) (if (0 : Nat) + List.length b1_2 ≤ (140737488355328 / 16 : Nat) then some [(b1_0, b1_1, b1_2)] else none))) (joinL (joinL (if (0 : Nat) + List.length b1_2 ≤ (140737488355328 / 16 : Nat) then some [(b1_0, b1_1, b1_2)] else none) (if (0 : Nat) + List.length b1_2 ≤ (140737488355328 / 16 : Nat) then some [(b1_0, b1_1, b1_2)] else none)) (joinL (joinL (if (0 : Nat) + List.length b1_2 ≤ (140737488355328 / 16 : Nat) then some [(b1_0, b1_1, b1_2)] else none) (if (0 : Nat) + List.length b1_2 ≤ (140737488355328 / 16 : Nat) then some [(b1_0, b1_1, b1_2)] else none)) (if (0 : Nat) + List.length b1_2 ≤ (140737488355328 / 16 : Nat) then joinL (some [(b1_0, b1_1, b1_2)]) (some [(b1_0, b1_1, b1_2)]) else none))))
noncomputable def ZjX : Spec := Spec.mk [OSh.ro, OSh.box (53 : Nat) [Sh.int .i64, Sh.int .i64, Sh.snap (0 : Nat) (Ty.pair (Ty.int .i64) (Ty.int .i64))], OSh.box (53 : Nat) [Sh.int .i64, Sh.int .i64, Sh.sl (3 : Nat)], OSh.row true (79 : Nat) (Ty.pair (Ty.int .i64) (Ty.int .i64))] [((1 : Nat), TSh.at (Sh.ptr (1 : Nat) (0 : Nat))), ((2 : Nat), TSh.at (Sh.ptr (2 : Nat) (0 : Nat)))]
noncomputable def Zw5 : Spec := Spec.mk [OSh.ro, OSh.box (53 : Nat) [Sh.int .i64, Sh.int .i64, Sh.sl (2 : Nat)], OSh.row true (79 : Nat) (Ty.pair (Ty.int .i64) (Ty.int .i64))] [((2 : Nat), TSh.at (Sh.ptr (1 : Nat) (0 : Nat)))]
noncomputable def Z6f : LoopDef (Tup Zaw × OutD) := .plain ZjX Zw5 (Int × Int × List (Int × Int)) (fun k x => Z78 k x.1.2.1.1 x.1.2.1.2.1 x.1.2.1.2.2.1 x.1.2.2.1.1 x.1.2.2.1.2.1 x.1.2.2.2.1) (fun z => (((), (z.1, z.2.1, (), ()), z.2.2, ()), ((), ()))) (fun y => (y.1.2.1.1, y.1.2.1.2.1, y.1.2.2.1)) (fun _ => rfl)
theorem ZwR (k : Nat) (b1_0 : Int) (b1_1 : Int) (b1_2 : List (Int × Int)) (b2_0 : Int) (b2_1 : Int) (o3 : List (Int × Int)) : Zbm k b1_0 b1_1 b1_2 b2_0 b2_1 o3 = repl 12 (Z78 k b1_0 b1_1 b1_2 b2_0 b2_1 o3) := by
 first
 | (simp only [Zbm, Z78, Zb, Zg, Zc, Za, Z9, Z8, if_true]; done)
 | (simp only [Zbm, Z78, Zb, Zg, Zc, Za, Z9, Z8, if_true]; simp only [Z4y, Z4u, Z7o, Z8]; simp only [Z9c]; exact Z5J ⟨fun h => by simp only [h, and_self], fun h => by simp only [h, and_self]⟩)
noncomputable def Z3B : Nat → Int × Int × List (Int × Int) → Option (Int × Int × List (Int × Int))
 | 0, _ => none
 | k + 1, p0 =>
  Option.bind (Z78 k p0.1 p0.2.1 p0.2.2 (0 : Int) (0 : Int) []) fun z0 => some (Prod.fst z0, Prod.fst z0.2, Prod.snd z0.2)
noncomputable def Z3y : FnDef := .of ZrL Zaw (Int × Int × List (Int × Int)) (fun k x => Z3B k x.1) ZpE Zq4 Zwj
noncomputable def Zf1 : Code := Try.f184.body.getD .skip
noncomputable def Z4p : Ctx (Tup Zaw × OutD) := { T := T, G := [], mvs := [], no := 0, n := 12, res := resOf T ZrL Zaw Try.f184.results.toList, loops := [], regs := [(1, Z6f.E)], conds := [] }
theorem ZsD (k : Nat) : EnvOK Try.prog k Z4p.G := (EnvOK.nil mixed)
noncomputable def Zeg : Array Oper := (findReg 1 Zf1).getD #[]
theorem ZwU (k : Nat) (x : ZjX.D) : execD Z4p.T Z4p.G Z4p.mvs k Zeg (Z6f.inp.st Z4p.n x) (outK Z4p Z6f) = Zbm k x.1.2.1.1 x.1.2.1.2.1 x.1.2.1.2.2.1 x.1.2.2.1.1 x.1.2.2.1.2.1 x.1.2.2.2.1 := by kernel_rfl
theorem ZtE (k : Nat) : EOK Try.prog Z4p k Z6f.E (.region 1 Zeg true) := Zau (D := Z6f) (m := 12) T_ok (ZsD k) (fun x => (ZwU k x).trans (ZwR k x.1.2.1.1 x.1.2.1.2.1 x.1.2.1.2.2.1 x.1.2.2.1.1 x.1.2.2.1.2.1 x.1.2.2.2.1))
theorem ZBt (k : Nat) (x : Tup Z3y.ps) : Z3y.f (k + 1) x = fnK Z3y Z4p Zf1 k x := by kernel_rfl
theorem ZB5 (x : Tup Z3y.ps) : Z3y.f 0 x = none := by kernel_rfl
theorem ZAU (k : Nat) : LOK Try.prog Z4p k Zf1 := LOK.by [(Z6f.E, .region 1 Zeg true)] (by kernel_rfl) (AllOK.cons (ZtE k) AllOK.nil)
theorem ZeK (k : Nat) : SoundAt Try.prog k 184 Z3y.E := @Ze Try.prog Z3y Z4p 184 Try.f184 Zf1 (by kernel_rfl) (by kernel_rfl) (by kernel_rfl) Try.func184 (by kernel_rfl) (by kernel_rfl) (by kernel_rfl) T_ok ZsD ZAU ZB5 ZBt k
noncomputable def Z5v : List PK := []
noncomputable def Zi4 : List PK := [PK.mk (Ty.pair (Ty.int .i64) (Ty.pair (Ty.int .i64) (Ty.slice (79 : Nat) (Ty.pair (Ty.int .i64) (Ty.int .i64))))) true (some ((2 : Nat), (79 : Nat), Ty.pair (Ty.int .i64) (Ty.int .i64))) false none, PK.mk (Ty.slice (3 : Nat) (Ty.int .i64)) false none false none, PK.mk (Ty.slice (3 : Nat) (Ty.int .i64)) false none false none, PK.mk (Ty.int .i64) false none false none]
noncomputable def ZgY (r : List (Int × Int)) : Tup Z5v × OutD := ((()), some ⟨Ty.pair (Ty.int .i64) (Ty.int .i64), r⟩)
noncomputable def ZcE : Tup Z5v × OutD → Option (List (Int × Int))
 | (a, some ⟨u, ys⟩) => if h : u = Ty.pair (Ty.int .i64) (Ty.int .i64) then some (castU h ys) else none
 | _ => none
theorem Zn9 : ∀ b r, ZcE b = some r → ZgY r = b := by
 rintro ⟨a, o⟩ r h
 cases o with
 | none => cases h
 | some s =>
  obtain ⟨u, ys⟩ := s
  simp only [ZcE] at h
  split at h
  ·rename_i hu; subst hu; injection h with h; subst h; rfl
  ·cases h
noncomputable def ZF : Nat → List (Int × Int) → Int → Int → List Int → List Int → Int → Int → Int → Option (List (Int × Int))
 | 0, _, _, _, _, _, _, _, _ => none
 | k + 1, o1, b2_0, b2_1, v1, v2, v3, v12, v13 =>
  if decide (v13 < v12) = true then if decide (v13 = v3) = true then if (0 : Int) ≤ v13 then if v13 < (↑(List.length v2) : Int) then if decide (List.getD v2 (Int.toNat v13) (0 : Int) ≠ (1 : Int)) = true then if (0 : Int) ≤ v13 then if v13 < (↑(List.length o1) : Int) then if (0 : Int) ≤ v13 then if v13 < (↑(List.length o1) : Int) then ZF k (List.set o1 (Int.toNat v13) (Prod.fst (List.getD o1 (Int.toNat v13) ((0 : Int), (0 : Int))), wrap64 ((1 : Int) - Prod.snd (List.getD o1 (Int.toNat v13) ((0 : Int), (0 : Int)))))) b2_0 b2_1 v1 v2 v3 v12 (wrap64 (v13 + (1 : Int))) else none else none else none else none else ZF k o1 b2_0 b2_1 v1 v2 v3 v12 (wrap64 (v13 + (1 : Int))) else none else none else if (0 : Int) ≤ v3 then if v3 < (↑(List.length o1) : Int) then if decide (Prod.fst (List.getD o1 (Int.toNat v3) ((0 : Int), (0 : Int))) = (6 : Int)) = true then if (0 : Int) ≤ v13 then if v13 < (↑(List.length o1) : Int) then if decide (Prod.fst (List.getD o1 (Int.toNat v13) ((0 : Int), (0 : Int))) = (6 : Int)) = true then if (0 : Int) ≤ v13 then if v13 < (↑(List.length v1) : Int) then if (0 : Int) ≤ v3 then if v3 < (↑(List.length v1) : Int) then if decide (List.getD v1 (Int.toNat v13) (0 : Int) = List.getD v1 (Int.toNat v3) (0 : Int)) = true then if (0 : Int) ≤ v13 then if v13 < (↑(List.length v2) : Int) then if decide (List.getD v2 (Int.toNat v13) (0 : Int) ≠ (1 : Int)) = true then if (0 : Int) ≤ v13 then if v13 < (↑(List.length o1) : Int) then if (0 : Int) ≤ v13 then if v13 < (↑(List.length o1) : Int) then ZF k (List.set o1 (Int.toNat v13) (Prod.fst (List.getD o1 (Int.toNat v13) ((0 : Int), (0 : Int))), wrap64 ((1 : Int) - Prod.snd (List.getD o1 (Int.toNat v13) ((0 : Int), (0 : Int)))))) b2_0 b2_1 v1 v2 v3 v12 (wrap64 (v13 + (1 : Int))) else none else none else none else none else ZF k o1 b2_0 b2_1 v1 v2 v3 v12 (wrap64 (v13 + (1 : Int))) else none else none else ZF k o1 b2_0 b2_1 v1 v2 v3 v12 (wrap64 (v13 + (1 : Int))) else none else none else none else none else ZF k o1 b2_0 b2_1 v1 v2 v3 v12 (wrap64 (v13 + (1 : Int))) else none else none else ZF k o1 b2_0 b2_1 v1 v2 v3 v12 (wrap64 (v13 + (1 : Int))) else none else none else some o1
noncomputable def Zb3 : Spec := Spec.mk [OSh.ro, OSh.row false (79 : Nat) (Ty.pair (Ty.int .i64) (Ty.int .i64)), OSh.box (53 : Nat) [Sh.int .i64, Sh.int .i64, Sh.sl (1 : Nat)]] [((1 : Nat), TSh.at (Sh.snap (0 : Nat) (Ty.int .i64))), ((2 : Nat), TSh.at (Sh.snap (0 : Nat) (Ty.int .i64))), ((3 : Nat), TSh.at (Sh.int .i64)), ((4 : Nat), TSh.at (Sh.ptr (2 : Nat) (0 : Nat))), ((12 : Nat), TSh.at (Sh.int .i64)), ((13 : Nat), TSh.at (Sh.int .i64))]
noncomputable def ZoZ : Spec := Spec.mk [OSh.ro, OSh.row false (79 : Nat) (Ty.pair (Ty.int .i64) (Ty.int .i64))] []
noncomputable def Z3P : LoopDef (Tup Z5v × OutD) := .plain Zb3 ZoZ (List (Int × Int)) (fun k x => ZF k x.1.2.1 x.1.2.2.1.1 x.1.2.2.1.2.1 x.2.1 x.2.2.1 x.2.2.2.1 x.2.2.2.2.2.1 x.2.2.2.2.2.2.1) (fun z => (((), z, ()), (()))) (fun y => (y.1.2.1)) (fun _ => rfl)
noncomputable def Z5z : Nat → Int × Int × List (Int × Int) → List Int → List Int → Int → Option (List (Int × Int))
 | 0, _, _, _, _ => none
 | k + 1, p0, p1, p2, p3 =>
  Option.bind (ZF k p0.2.2 p0.1 p0.2.1 p1 p2 p3 (↑(List.length p0.2.2) : Int) (0 : Int)) fun z0 => some z0
noncomputable def Z36 : FnDef := .of Zi4 Z5v (List (Int × Int)) (fun k x => Z5z k x.1 x.2.1 x.2.2.1 x.2.2.2.1) ZgY ZcE Zn9
noncomputable def Za3 : Code := Try.f189.body.getD .skip
noncomputable def Z43 : Ctx (Tup Z5v × OutD) := { T := T, G := [], mvs := [], no := 1, n := 69, res := resOf T Zi4 Z5v Try.f189.results.toList, loops := [(0, Z3P.E)], regs := [], conds := [] }
theorem Zip (k : Nat) : EnvOK Try.prog k Z43.G := (EnvOK.nil mixed)
noncomputable def Z7O : Code := (findLoop 0 Za3).getD .skip
theorem Zom (k : Nat) (x : Zb3.D) : Z3P.lp (k + 1) x = loopK Z43 Z3P 0 Z7O k x := by kernel_rfl
theorem ZoE (k : Nat) : LOK Try.prog Z43 k Z7O := LOK.by [] (by kernel_rfl) AllOK.nil
theorem ZoR (x : Zb3.D) : Z3P.lp 0 x = none := by kernel_rfl
theorem ZnN (k : Nat) : EOK Try.prog Z43 k Z3P.E (.block 0 (.loop Z7O)) := Zp T_ok Zip ZoR Zom ZoE k
theorem ZuF (k : Nat) (x : Tup Z36.ps) : Z36.f (k + 1) x = fnK Z36 Z43 Za3 k x := by kernel_rfl
theorem ZuQ (x : Tup Z36.ps) : Z36.f 0 x = none := by kernel_rfl
theorem Zuw (k : Nat) : LOK Try.prog Z43 k Za3 := LOK.by [(Z3P.E, .block 0 (.loop Z7O))] (by kernel_rfl) (AllOK.cons (ZnN k) AllOK.nil)
theorem Zuy (k : Nat) : SoundAt Try.prog k 189 Z36.E := @Ze Try.prog Z36 Z43 189 Try.f189 Za3 (by kernel_rfl) (by kernel_rfl) (by kernel_rfl) Try.func189 (by kernel_rfl) (by kernel_rfl) (by kernel_rfl) T_ok Zip Zuw ZuQ ZuF k
noncomputable def Z9A : List PK := [PK.mk Ty.bool false none false none]
noncomputable def Zle : List PK := [PK.mk (Ty.pair (Ty.int .i64) (Ty.int .i64)) true none false none]
noncomputable def Zjv (r : Bool) : Tup Z9A × OutD := ((r, ()), none)
noncomputable def Zj9 : Tup Z9A × OutD → Option (Bool)
 | (a, none) => some (a.1)
 | _ => none
theorem Zqs : ∀ b r, Zj9 b = some r → Zjv r = b := by
 rintro ⟨a, o⟩ r h
 cases o with
 | none => injection h with h; subst h; rfl
 | some _ => cases h
noncomputable def Z9K : Nat → Int × Int → Option Bool
 | 0, _ => none
 | k + 1, p0 =>
  if decide (Prod.fst p0 = (6 : Int)) = true then some true else some (decide (Prod.fst p0 = (7 : Int)))
noncomputable def Z4d : FnDef := .of Zle Z9A (Bool) (fun k x => Z9K k x.1) Zjv Zj9 Zqs
noncomputable def Zfn : Code := Try.f190.body.getD .skip
noncomputable def ZbX : Ctx (Tup Z9A × OutD) := { T := T, G := [], mvs := [], no := 0, n := 11, res := resOf T Zle Z9A Try.f190.results.toList, loops := [], regs := [], conds := [] }
theorem Zxu (k : Nat) : EnvOK Try.prog k ZbX.G := (EnvOK.nil mixed)
theorem Zye (k : Nat) (x : Tup Z4d.ps) : Z4d.f (k + 1) x = fnK Z4d ZbX Zfn k x := by kernel_rfl
theorem Zyj (x : Tup Z4d.ps) : Z4d.f 0 x = none := by kernel_rfl
theorem Zyd (k : Nat) : LOK Try.prog ZbX k Zfn := LOK.by [] (by kernel_rfl) AllOK.nil
theorem Zyp (k : Nat) : SoundAt Try.prog k 190 Z4d.E := @Ze Try.prog Z4d ZbX 190 Try.f190 Zfn (by kernel_rfl) (by kernel_rfl) (by kernel_rfl) Try.func190 (by kernel_rfl) (by kernel_rfl) (by kernel_rfl) T_ok Zxu Zyd Zyj Zye k
noncomputable def Z9I : List PK := [PK.mk (Ty.slice (3 : Nat) (Ty.int .i64)) false none false none]
noncomputable def ZkQ : List PK := [PK.mk (Ty.pair (Ty.int .i64) (Ty.pair (Ty.int .i64) (Ty.slice (79 : Nat) (Ty.pair (Ty.int .i64) (Ty.int .i64))))) true none false none, PK.mk (Ty.int .i64) false none false none]
noncomputable def Zk2 (r : List Int) : Tup Z9I × OutD := ((r, ()), none)
noncomputable def Zjx : Tup Z9I × OutD → Option (List Int)
 | (a, none) => some (a.1)
 | _ => none
theorem ZqM : ∀ b r, Zjx b = some r → Zk2 r = b := by
 rintro ⟨a, o⟩ r h
 cases o with
 | none => injection h with h; subst h; rfl
 | some _ => cases h
noncomputable def Zc1 : Nat → Int × Int × List (Int × Int) → Int → Option (List Int)
 | 0, _, _ => none
 | k + 1, p0, p1 =>
  if Prod.fst p0.2 = (0 : Int) then none else if Prod.fst p0.2 = (0 : Int) then none else if decide (wrap64 (Int.tdiv p1 p0.2.1) > (0 : Int)) = true then if decide (Int.tmod p1 p0.2.1 > (0 : Int)) = true then if decide (wrap64 (Int.tmod p1 p0.2.1 + (1 : Int)) < Prod.fst p0.2) = true then if decide (wrap64 (wrap64 (Int.tdiv p1 p0.2.1) + (1 : Int)) < Prod.fst p0) = true then some ([wrap64 (p1 - Prod.fst p0.2)] ++ [wrap64 (p1 - (1 : Int))] ++ [wrap64 (p1 + (1 : Int))] ++ [wrap64 (p1 + Prod.fst p0.2)]) else some ([wrap64 (p1 - Prod.fst p0.2)] ++ [wrap64 (p1 - (1 : Int))] ++ [wrap64 (p1 + (1 : Int))]) else if decide (wrap64 (wrap64 (Int.tdiv p1 p0.2.1) + (1 : Int)) < Prod.fst p0) = true then some ([wrap64 (p1 - Prod.fst p0.2)] ++ [wrap64 (p1 - (1 : Int))] ++ [wrap64 (p1 + Prod.fst p0.2)]) else some ([wrap64 (p1 - Prod.fst p0.2)] ++ [wrap64 (p1 - (1 : Int))]) else if decide (wrap64 (Int.tmod p1 p0.2.1 + (1 : Int)) < Prod.fst p0.2) = true then if decide (wrap64 (wrap64 (Int.tdiv p1 p0.2.1) + (1 : Int)) < Prod.fst p0) = true then some ([wrap64 (p1 - Prod.fst p0.2)] ++ [wrap64 (p1 + (1 : Int))] ++ [wrap64 (p1 + Prod.fst p0.2)]) else some ([wrap64 (p1 - Prod.fst p0.2)] ++ [wrap64 (p1 + (1 : Int))]) else if decide (wrap64 (wrap64 (Int.tdiv p1 p0.2.1) + (1 : Int)) < Prod.fst p0) = true then some ([wrap64 (p1 - Prod.fst p0.2)] ++ [wrap64 (p1 + Prod.fst p0.2)]) else some [wrap64 (p1 - Prod.fst p0.2)] else if decide (Int.tmod p1 p0.2.1 > (0 : Int)) = true then if decide (wrap64 (Int.tmod p1 p0.2.1 + (1 : Int)) < Prod.fst p0.2) = true then if decide (wrap64 (wrap64 (Int.tdiv p1 p0.2.1) + (1 : Int)) < Prod.fst p0) = true then some ([wrap64 (p1 - (1 : Int))] ++ [wrap64 (p1 + (1 : Int))] ++ [wrap64 (p1 + Prod.fst p0.2)]) else some ([wrap64 (p1 - (1 : Int))] ++ [wrap64 (p1 + (1 : Int))]) else if decide (wrap64 (wrap64 (Int.tdiv p1 p0.2.1) + (1 : Int)) < Prod.fst p0) = true then some ([wrap64 (p1 - (1 : Int))] ++ [wrap64 (p1 + Prod.fst p0.2)]) else some [wrap64 (p1 - (1 : Int))] else if decide (wrap64 (Int.tmod p1 p0.2.1 + (1 : Int)) < Prod.fst p0.2) = true then if decide (wrap64 (wrap64 (Int.tdiv p1 p0.2.1) + (1 : Int)) < Prod.fst p0) = true then some ([wrap64 (p1 + (1 : Int))] ++ [wrap64 (p1 + Prod.fst p0.2)]) else some [wrap64 (p1 + (1 : Int))] else if decide (wrap64 (wrap64 (Int.tdiv p1 p0.2.1) + (1 : Int)) < Prod.fst p0) = true then some [wrap64 (p1 + Prod.fst p0.2)] else some []
noncomputable def Z4e : FnDef := .of ZkQ Z9I (List Int) (fun k x => Zc1 k x.1 x.2.1) Zk2 Zjx ZqM
noncomputable def Zf5 : Code := Try.f191.body.getD .skip
noncomputable def Zc7 : Ctx (Tup Z9I × OutD) := { T := T, G := [], mvs := [], no := 0, n := 56, res := resOf T ZkQ Z9I Try.f191.results.toList, loops := [], regs := [], conds := [] }
theorem Zxy (k : Nat) : EnvOK Try.prog k Zc7.G := (EnvOK.nil mixed)
theorem Zyv (k : Nat) (x : Tup Z4e.ps) : Z4e.f (k + 1) x = fnK Z4e Zc7 Zf5 k x := by kernel_rfl
theorem ZxS (x : Tup Z4e.ps) : Z4e.f 0 x = none := by kernel_rfl
theorem Zxs (k : Nat) : LOK Try.prog Zc7 k Zf5 := LOK.by [] (by kernel_rfl) AllOK.nil
theorem Zy5 (k : Nat) : SoundAt Try.prog k 191 Z4e.E := @Ze Try.prog Z4e Zc7 191 Try.f191 Zf5 (by kernel_rfl) (by kernel_rfl) (by kernel_rfl) Try.func191 (by kernel_rfl) (by kernel_rfl) (by kernel_rfl) T_ok Zxy Zxs ZxS Zyv k
noncomputable def Z8q : List PK := [PK.mk Ty.bool false none false none]
noncomputable def Zk3 : List PK := [PK.mk (Ty.pair (Ty.int .i64) (Ty.int .i64)) true none false none]
noncomputable def Zim (r : Bool) : Tup Z8q × OutD := ((r, ()), none)
noncomputable def Ziq : Tup Z8q × OutD → Option (Bool)
 | (a, none) => some (a.1)
 | _ => none
theorem Zou : ∀ b r, Ziq b = some r → Zim r = b := by
 rintro ⟨a, o⟩ r h
 cases o with
 | none => injection h with h; subst h; rfl
 | some _ => cases h
noncomputable def Z4B : Nat → Int × Int → Option Bool
 | 0, _ => none
 | k + 1, p0 =>
  if decide (Prod.fst p0 = (3 : Int)) = true then some true else some (decide (Prod.fst p0 = (6 : Int)))
noncomputable def Z23 : FnDef := .of Zk3 Z8q (Bool) (fun k x => Z4B k x.1) Zim Ziq Zou
noncomputable def Zee : Code := Try.f207.body.getD .skip
noncomputable def Zbh : Ctx (Tup Z8q × OutD) := { T := T, G := [], mvs := [], no := 0, n := 11, res := resOf T Zk3 Z8q Try.f207.results.toList, loops := [], regs := [], conds := [] }
theorem Zw2 (k : Nat) : EnvOK Try.prog k Zbh.G := (EnvOK.nil mixed)
theorem Zw7 (k : Nat) (x : Tup Z23.ps) : Z23.f (k + 1) x = fnK Z23 Zbh Zee k x := by kernel_rfl
theorem Zwv (x : Tup Z23.ps) : Z23.f 0 x = none := by kernel_rfl
theorem ZvB (k : Nat) : LOK Try.prog Zbh k Zee := LOK.by [] (by kernel_rfl) AllOK.nil
theorem Ze5 (k : Nat) : SoundAt Try.prog k 207 Z23.E := @Ze Try.prog Z23 Zbh 207 Try.f207 Zee (by kernel_rfl) (by kernel_rfl) (by kernel_rfl) Try.func207 (by kernel_rfl) (by kernel_rfl) (by kernel_rfl) T_ok Zw2 ZvB Zwv Zw7 k
noncomputable def ZbA : List PK := [PK.mk Ty.bool false none false none]
noncomputable def Zpw : List PK := [PK.mk (Ty.pair (Ty.int .i64) (Ty.int .i64)) true none false none]
noncomputable def ZnW (r : Bool) : Tup ZbA × OutD := ((r, ()), none)
noncomputable def ZmN : Tup ZbA × OutD → Option (Bool)
 | (a, none) => some (a.1)
 | _ => none
theorem ZtD : ∀ b r, ZmN b = some r → ZnW r = b := by
 rintro ⟨a, o⟩ r h
 cases o with
 | none => injection h with h; subst h; rfl
 | some _ => cases h
noncomputable def Zbx : Nat → Int × Int → Option Bool
 | 0, _ => none
 | k + 1, p0 =>
  if decide (Prod.fst p0 = (6 : Int)) = true then some true else some (decide (Prod.fst p0 = (7 : Int)))
noncomputable def Z5I : FnDef := .of Zpw ZbA (Bool) (fun k x => Zbx k x.1) ZnW ZmN ZtD
noncomputable def ZhG : Code := Try.f208.body.getD .skip
noncomputable def ZdP : Ctx (Tup ZbA × OutD) := { T := T, G := [], mvs := [], no := 0, n := 11, res := resOf T Zpw ZbA Try.f208.results.toList, loops := [], regs := [], conds := [] }
theorem ZzV (k : Nat) : EnvOK Try.prog k ZdP.G := (EnvOK.nil mixed)
theorem ZAe (k : Nat) (x : Tup Z5I.ps) : Z5I.f (k + 1) x = fnK Z5I ZdP ZhG k x := by kernel_rfl
theorem ZA5 (x : Tup Z5I.ps) : Z5I.f 0 x = none := by kernel_rfl
theorem ZAu (k : Nat) : LOK Try.prog ZdP k ZhG := LOK.by [] (by kernel_rfl) AllOK.nil
theorem ZAE (k : Nat) : SoundAt Try.prog k 208 Z5I.E := @Ze Try.prog Z5I ZdP 208 Try.f208 ZhG (by kernel_rfl) (by kernel_rfl) (by kernel_rfl) Try.func208 (by kernel_rfl) (by kernel_rfl) (by kernel_rfl) T_ok ZzV ZAu ZA5 ZAe k
noncomputable def ZbB : List PK := [PK.mk (Ty.slice (3 : Nat) (Ty.int .i64)) false none false none]
noncomputable def ZpL : List PK := [PK.mk (Ty.pair (Ty.int .i64) (Ty.pair (Ty.int .i64) (Ty.slice (79 : Nat) (Ty.pair (Ty.int .i64) (Ty.int .i64))))) true none false none, PK.mk (Ty.int .i64) false none false none]
noncomputable def Znw (r : List Int) : Tup ZbB × OutD := ((r, ()), none)
noncomputable def ZnX : Tup ZbB × OutD → Option (List Int)
 | (a, none) => some (a.1)
 | _ => none
theorem Zug : ∀ b r, ZnX b = some r → Znw r = b := by
 rintro ⟨a, o⟩ r h
 cases o with
 | none => injection h with h; subst h; rfl
 | some _ => cases h
noncomputable def Ze2 : Nat → Int × Int × List (Int × Int) → Int → Option (List Int)
 | 0, _, _ => none
 | k + 1, p0, p1 =>
  if Prod.fst p0.2 = (0 : Int) then none else if Prod.fst p0.2 = (0 : Int) then none else if decide (wrap64 (Int.tdiv p1 p0.2.1) > (0 : Int)) = true then if decide (Int.tmod p1 p0.2.1 > (0 : Int)) = true then if decide (wrap64 (Int.tmod p1 p0.2.1 + (1 : Int)) < Prod.fst p0.2) = true then if decide (wrap64 (wrap64 (Int.tdiv p1 p0.2.1) + (1 : Int)) < Prod.fst p0) = true then some ([wrap64 (p1 - Prod.fst p0.2)] ++ [wrap64 (p1 - (1 : Int))] ++ [wrap64 (p1 + (1 : Int))] ++ [wrap64 (p1 + Prod.fst p0.2)]) else some ([wrap64 (p1 - Prod.fst p0.2)] ++ [wrap64 (p1 - (1 : Int))] ++ [wrap64 (p1 + (1 : Int))]) else if decide (wrap64 (wrap64 (Int.tdiv p1 p0.2.1) + (1 : Int)) < Prod.fst p0) = true then some ([wrap64 (p1 - Prod.fst p0.2)] ++ [wrap64 (p1 - (1 : Int))] ++ [wrap64 (p1 + Prod.fst p0.2)]) else some ([wrap64 (p1 - Prod.fst p0.2)] ++ [wrap64 (p1 - (1 : Int))]) else if decide (wrap64 (Int.tmod p1 p0.2.1 + (1 : Int)) < Prod.fst p0.2) = true then if decide (wrap64 (wrap64 (Int.tdiv p1 p0.2.1) + (1 : Int)) < Prod.fst p0) = true then some ([wrap64 (p1 - Prod.fst p0.2)] ++ [wrap64 (p1 + (1 : Int))] ++ [wrap64 (p1 + Prod.fst p0.2)]) else some ([wrap64 (p1 - Prod.fst p0.2)] ++ [wrap64 (p1 + (1 : Int))]) else if decide (wrap64 (wrap64 (Int.tdiv p1 p0.2.1) + (1 : Int)) < Prod.fst p0) = true then some ([wrap64 (p1 - Prod.fst p0.2)] ++ [wrap64 (p1 + Prod.fst p0.2)]) else some [wrap64 (p1 - Prod.fst p0.2)] else if decide (Int.tmod p1 p0.2.1 > (0 : Int)) = true then if decide (wrap64 (Int.tmod p1 p0.2.1 + (1 : Int)) < Prod.fst p0.2) = true then if decide (wrap64 (wrap64 (Int.tdiv p1 p0.2.1) + (1 : Int)) < Prod.fst p0) = true then some ([wrap64 (p1 - (1 : Int))] ++ [wrap64 (p1 + (1 : Int))] ++ [wrap64 (p1 + Prod.fst p0.2)]) else some ([wrap64 (p1 - (1 : Int))] ++ [wrap64 (p1 + (1 : Int))]) else if decide (wrap64 (wrap64 (Int.tdiv p1 p0.2.1) + (1 : Int)) < Prod.fst p0) = true then some ([wrap64 (p1 - (1 : Int))] ++ [wrap64 (p1 + Prod.fst p0.2)]) else some [wrap64 (p1 - (1 : Int))] else if decide (wrap64 (Int.tmod p1 p0.2.1 + (1 : Int)) < Prod.fst p0.2) = true then if decide (wrap64 (wrap64 (Int.tdiv p1 p0.2.1) + (1 : Int)) < Prod.fst p0) = true then some ([wrap64 (p1 + (1 : Int))] ++ [wrap64 (p1 + Prod.fst p0.2)]) else some [wrap64 (p1 + (1 : Int))] else if decide (wrap64 (wrap64 (Int.tdiv p1 p0.2.1) + (1 : Int)) < Prod.fst p0) = true then some [wrap64 (p1 + Prod.fst p0.2)] else some []
noncomputable def Z5K : FnDef := .of ZpL ZbB (List Int) (fun k x => Ze2 k x.1 x.2.1) Znw ZnX Zug
noncomputable def ZhK : Code := Try.f209.body.getD .skip
noncomputable def Ze0 : Ctx (Tup ZbB × OutD) := { T := T, G := [], mvs := [], no := 0, n := 55, res := resOf T ZpL ZbB Try.f209.results.toList, loops := [], regs := [], conds := [] }
theorem ZA9 (k : Nat) : EnvOK Try.prog k Ze0.G := (EnvOK.nil mixed)
theorem ZAa (k : Nat) (x : Tup Z5K.ps) : Z5K.f (k + 1) x = fnK Z5K Ze0 ZhK k x := by kernel_rfl
theorem ZzO (x : Tup Z5K.ps) : Z5K.f 0 x = none := by kernel_rfl
theorem ZzY (k : Nat) : LOK Try.prog Ze0 k ZhK := LOK.by [] (by kernel_rfl) AllOK.nil
theorem ZzM (k : Nat) : SoundAt Try.prog k 209 Z5K.E := @Ze Try.prog Z5K Ze0 209 Try.f209 ZhK (by kernel_rfl) (by kernel_rfl) (by kernel_rfl) Try.func209 (by kernel_rfl) (by kernel_rfl) (by kernel_rfl) T_ok ZA9 ZzY ZzO ZAa k
noncomputable def ZbF : List PK := [PK.mk (Ty.int .i64) false none false none]
noncomputable def Zvb : List PK := [PK.mk (Ty.slice (77 : Nat) (Ty.pair (Ty.int .i64) (Ty.pair (Ty.int .i64) (Ty.int .i64)))) false none false none, PK.mk (Ty.int .i64) false none false none, PK.mk (Ty.int .i64) false none false none]
noncomputable def ZjO (r : Int) : Tup ZbF × OutD := ((r, ()), none)
noncomputable def ZiU : Tup ZbF × OutD → Option (Int)
 | (a, none) => some (a.1)
 | _ => none
theorem ZkY : ∀ b r, ZiU b = some r → ZjO r = b := by
 rintro ⟨a, o⟩ r h
 cases o with
 | none => injection h with h; subst h; rfl
 | some _ => cases h
noncomputable def Z5G : Nat → Int → Int → List (Int × Int × Int) → Int → Int → Option (LR Unit Int)
 | 0, _, _, _, _, _ => none
 | k + 1, v1, v2, v9, v10, v11 =>
  if decide (v11 < v10) = true then if (0 : Int) ≤ v11 then if v11 < (↑(List.length v9) : Int) then if decide (Prod.fst (Prod.snd (List.getD v9 (Int.toNat v11) ((0 : Int), (0 : Int), (0 : Int)))) = v1) = true then if decide (Prod.snd (Prod.snd (List.getD v9 (Int.toNat v11) ((0 : Int), (0 : Int), (0 : Int)))) = v2) = true then some (LR.ret (Prod.fst (List.getD v9 (Int.toNat v11) ((0 : Int), (0 : Int), (0 : Int))))) else Z5G k v1 v2 v9 v10 (wrap64 (v11 + (1 : Int))) else Z5G k v1 v2 v9 v10 (wrap64 (v11 + (1 : Int))) else none else none else some (LR.go ())
noncomputable def Zgq : Spec := Spec.mk [OSh.ro] [((1 : Nat), TSh.at (Sh.int .i64)), ((2 : Nat), TSh.at (Sh.int .i64)), ((9 : Nat), TSh.at (Sh.snap (0 : Nat) (Ty.pair (Ty.int .i64) (Ty.pair (Ty.int .i64) (Ty.int .i64))))), ((10 : Nat), TSh.at (Sh.int .i64)), ((11 : Nat), TSh.at (Sh.int .i64))]
noncomputable def Zz2 : Spec := Spec.mk [OSh.ro] []
noncomputable def Z8j : LoopDef (Tup ZbF × OutD) := .rets Zgq Zz2 (Unit) (Int) (fun k x => Z5G k x.2.1 x.2.2.1 x.2.2.2.1 x.2.2.2.2.1 x.2.2.2.2.2.1) (fun z => (((), ()), (()))) (fun y => ()) (fun _ => rfl) ZjO ZiU ZkY
noncomputable def ZgM : Nat → List (Int × Int × Int) → Int → Int → Option Int
 | 0, _, _, _ => none
 | k + 1, p0, p1, p2 =>
  Option.bind (Z5G k p1 p2 p0 (↑(List.length p0) : Int) (0 : Int)) fun z0 => LR.on z0 (fun y0 => some (0 : Int)) fun r0 => some r0
noncomputable def Z87 : FnDef := .of Zvb ZbF (Int) (fun k x => ZgM k x.1 x.2.1 x.2.2.1) ZjO ZiU ZkY
noncomputable def ZgV : Code := Try.f210.body.getD .skip
noncomputable def Z9M : Ctx (Tup ZbF × OutD) := { T := T, G := [], mvs := [], no := 0, n := 28, res := resOf T Zvb ZbF Try.f210.results.toList, loops := [(0, Z8j.E)], regs := [], conds := [] }
theorem Zvu (k : Nat) : EnvOK Try.prog k Z9M.G := (EnvOK.nil mixed)
noncomputable def ZcR : Code := (findLoop 0 ZgV).getD .skip
theorem Zzq (k : Nat) (x : Zgq.D) : Z8j.lp (k + 1) x = loopK Z9M Z8j 0 ZcR k x := by kernel_rfl
theorem ZyB (k : Nat) : LOK Try.prog Z9M k ZcR := LOK.by [] (by kernel_rfl) AllOK.nil
theorem Zzk (x : Zgq.D) : Z8j.lp 0 x = none := by kernel_rfl
theorem ZxY (k : Nat) : EOK Try.prog Z9M k Z8j.E (.block 0 (.loop ZcR)) := Zp T_ok Zvu Zzk Zzq ZyB k
theorem ZCk (k : Nat) (x : Tup Z87.ps) : Z87.f (k + 1) x = fnK Z87 Z9M ZgV k x := by kernel_rfl
theorem ZCf (x : Tup Z87.ps) : Z87.f 0 x = none := by kernel_rfl
theorem ZC0 (k : Nat) : LOK Try.prog Z9M k ZgV := LOK.by [(Z8j.E, .block 0 (.loop ZcR))] (by kernel_rfl) (AllOK.cons (ZxY k) AllOK.nil)
theorem ZCw (k : Nat) : SoundAt Try.prog k 210 Z87.E := @Ze Try.prog Z87 Z9M 210 Try.f210 ZgV (by kernel_rfl) (by kernel_rfl) (by kernel_rfl) Try.func210 (by kernel_rfl) (by kernel_rfl) (by kernel_rfl) T_ok Zvu ZC0 ZCf ZCk k
noncomputable def Zbq : List PK := [PK.mk (Ty.int .i64) false none false none]
noncomputable def Zpf : List PK := [PK.mk (Ty.pair (Ty.int .i64) (Ty.int .i64)) true none false none, PK.mk (Ty.int .i64) false none false none]
noncomputable def ZmL (r : Int) : Tup Zbq × OutD := ((r, ()), none)
noncomputable def ZnE : Tup Zbq × OutD → Option (Int)
 | (a, none) => some (a.1)
 | _ => none
theorem Zub : ∀ b r, ZnE b = some r → ZmL r = b := by
 rintro ⟨a, o⟩ r h
 cases o with
 | none => injection h with h; subst h; rfl
 | some _ => cases h
noncomputable def Z97 : Nat → Int × Int → Int → Option Int
 | 0, _, _ => none
 | k + 1, p0, p1 =>
  if decide (Prod.fst p0 = (1 : Int)) = true then some (-1 : Int) else if decide (Prod.fst p0 = (2 : Int)) = true then some (1 : Int) else if decide (Prod.fst p0 = (3 : Int)) = true then some (wrap64 (wrap64 ((2 : Int) * Prod.snd p0) - (1 : Int))) else if decide (Prod.fst p0 = (6 : Int)) = true then some (wrap64 (wrap64 ((2 : Int) * Prod.snd p0) - (1 : Int))) else if decide (Prod.fst p0 = (4 : Int)) = true then some (wrap64 ((0 : Int) - p1)) else some (0 : Int)
noncomputable def Z4z : FnDef := .of Zpf Zbq (Int) (fun k x => Z97 k x.1 x.2.1) ZmL ZnE Zub
noncomputable def ZhR : Code := Try.f211.body.getD .skip
noncomputable def Ze1 : Ctx (Tup Zbq × OutD) := { T := T, G := [], mvs := [], no := 0, n := 22, res := resOf T Zpf Zbq Try.f211.results.toList, loops := [], regs := [], conds := [] }
theorem ZzI (k : Nat) : EnvOK Try.prog k Ze1.G := (EnvOK.nil mixed)
theorem ZAw (k : Nat) (x : Tup Z4z.ps) : Z4z.f (k + 1) x = fnK Z4z Ze1 ZhR k x := by kernel_rfl
theorem ZAz (x : Tup Z4z.ps) : Z4z.f 0 x = none := by kernel_rfl
theorem ZzN (k : Nat) : LOK Try.prog Ze1 k ZhR := LOK.by [] (by kernel_rfl) AllOK.nil
theorem ZpM (k : Nat) : SoundAt Try.prog k 211 Z4z.E := @Ze Try.prog Z4z Ze1 211 Try.f211 ZhR (by kernel_rfl) (by kernel_rfl) (by kernel_rfl) Try.func211 (by kernel_rfl) (by kernel_rfl) (by kernel_rfl) T_ok ZzI ZzN ZAz ZAw k
noncomputable def ZbC : List PK := [PK.mk Ty.bool false none false none]
noncomputable def ZpO : List PK := [PK.mk (Ty.pair (Ty.int .i64) (Ty.int .i64)) true none false none]
noncomputable def ZmX (r : Bool) : Tup ZbC × OutD := ((r, ()), none)
noncomputable def Zmy : Tup ZbC × OutD → Option (Bool)
 | (a, none) => some (a.1)
 | _ => none
theorem ZuL : ∀ b r, Zmy b = some r → ZmX r = b := by
 rintro ⟨a, o⟩ r h
 cases o with
 | none => injection h with h; subst h; rfl
 | some _ => cases h
noncomputable def Z9g : Nat → Int × Int → Option Bool
 | 0, _ => none
 | k + 1, p0 =>
  if decide (Prod.fst p0 < (0 : Int)) = true then some false else if decide (Prod.fst p0 > (7 : Int)) = true then some false else if decide (Prod.snd p0 < (0 : Int)) = true then some false else if decide (Prod.snd p0 > (1 : Int)) = true then some false else if decide (Prod.snd p0 = (0 : Int)) = true then some true else if decide (Prod.fst p0 = (3 : Int)) = true then some true else some (decide (Prod.fst p0 = (6 : Int)))
noncomputable def Z3J : FnDef := .of ZpO ZbC (Bool) (fun k x => Z9g k x.1) ZmX Zmy ZuL
noncomputable def ZhF : Code := Try.f213.body.getD .skip
noncomputable def ZdS : Ctx (Tup ZbC × OutD) := { T := T, G := [], mvs := [], no := 0, n := 34, res := resOf T ZpO ZbC Try.f213.results.toList, loops := [], regs := [], conds := [] }
theorem ZzK (k : Nat) : EnvOK Try.prog k ZdS.G := (EnvOK.nil mixed)
theorem ZAc (k : Nat) (x : Tup Z3J.ps) : Z3J.f (k + 1) x = fnK Z3J ZdS ZhF k x := by kernel_rfl
theorem ZzW (x : Tup Z3J.ps) : Z3J.f 0 x = none := by kernel_rfl
theorem ZAv (k : Nat) : LOK Try.prog ZdS k ZhF := LOK.by [] (by kernel_rfl) AllOK.nil
theorem ZhM (k : Nat) : SoundAt Try.prog k 213 Z3J.E := @Ze Try.prog Z3J ZdS 213 Try.f213 ZhF (by kernel_rfl) (by kernel_rfl) (by kernel_rfl) Try.func213 (by kernel_rfl) (by kernel_rfl) (by kernel_rfl) T_ok ZzK ZAv ZzW ZAc k
noncomputable def Z6g : List PK := []
noncomputable def ZjP : List PK := [PK.mk (Ty.pair (Ty.int .i64) (Ty.pair (Ty.int .i64) (Ty.slice (79 : Nat) (Ty.pair (Ty.int .i64) (Ty.int .i64))))) true (some ((2 : Nat), (79 : Nat), Ty.pair (Ty.int .i64) (Ty.int .i64))) false none, PK.mk (Ty.slice (3 : Nat) (Ty.int .i64)) false none false none, PK.mk (Ty.int .i64) false none false none]
noncomputable def Zic (r : List (Int × Int)) : Tup Z6g × OutD := ((()), some ⟨Ty.pair (Ty.int .i64) (Ty.int .i64), r⟩)
noncomputable def Zdu : Tup Z6g × OutD → Option (List (Int × Int))
 | (a, some ⟨u, ys⟩) => if h : u = Ty.pair (Ty.int .i64) (Ty.int .i64) then some (castU h ys) else none
 | _ => none
theorem Zov : ∀ b r, Zdu b = some r → Zic r = b := by
 rintro ⟨a, o⟩ r h
 cases o with
 | none => cases h
 | some s =>
  obtain ⟨u, ys⟩ := s
  simp only [Zdu] at h
  split at h
  ·rename_i hu; subst hu; injection h with h; subst h; rfl
  ·cases h
noncomputable def Z1Y : Nat → List (Int × Int) → Int → Int → List Int → Int → Int → Int → Option (List (Int × Int))
 | 0, _, _, _, _, _, _, _ => none
 | k + 1, o1, b2_0, b2_1, v1, v2, v9, v10 =>
  if decide (v10 < v9) = true then if (0 : Int) ≤ v10 then if v10 < (↑(List.length o1) : Int) then if decide (Prod.fst (List.getD o1 (Int.toNat v10) ((0 : Int), (0 : Int))) = (6 : Int)) = true then if (0 : Int) ≤ v10 then if v10 < (↑(List.length v1) : Int) then if (0 : Int) ≤ v2 then if v2 < (↑(List.length v1) : Int) then if decide (List.getD v1 (Int.toNat v10) (0 : Int) = List.getD v1 (Int.toNat v2) (0 : Int)) = true then if (0 : Int) ≤ v10 then if v10 < (↑(List.length o1) : Int) then if (0 : Int) ≤ v10 then if v10 < (↑(List.length o1) : Int) then Z1Y k (List.set o1 (Int.toNat v10) (Prod.fst (List.getD o1 (Int.toNat v10) ((0 : Int), (0 : Int))), wrap64 ((1 : Int) - Prod.snd (List.getD o1 (Int.toNat v10) ((0 : Int), (0 : Int)))))) b2_0 b2_1 v1 v2 v9 (wrap64 (v10 + (1 : Int))) else none else none else none else none else Z1Y k o1 b2_0 b2_1 v1 v2 v9 (wrap64 (v10 + (1 : Int))) else none else none else none else none else Z1Y k o1 b2_0 b2_1 v1 v2 v9 (wrap64 (v10 + (1 : Int))) else none else none else some o1
noncomputable def ZbJ : Spec := Spec.mk [OSh.ro, OSh.row false (79 : Nat) (Ty.pair (Ty.int .i64) (Ty.int .i64)), OSh.box (53 : Nat) [Sh.int .i64, Sh.int .i64, Sh.sl (1 : Nat)]] [((1 : Nat), TSh.at (Sh.snap (0 : Nat) (Ty.int .i64))), ((2 : Nat), TSh.at (Sh.int .i64)), ((3 : Nat), TSh.at (Sh.ptr (2 : Nat) (0 : Nat))), ((9 : Nat), TSh.at (Sh.int .i64)), ((10 : Nat), TSh.at (Sh.int .i64))]
noncomputable def Zqq : Spec := Spec.mk [OSh.ro, OSh.row false (79 : Nat) (Ty.pair (Ty.int .i64) (Ty.int .i64))] []
noncomputable def Z4n : LoopDef (Tup Z6g × OutD) := .plain ZbJ Zqq (List (Int × Int)) (fun k x => Z1Y k x.1.2.1 x.1.2.2.1.1 x.1.2.2.1.2.1 x.2.1 x.2.2.1 x.2.2.2.2.1 x.2.2.2.2.2.1) (fun z => (((), z, ()), (()))) (fun y => (y.1.2.1)) (fun _ => rfl)
noncomputable def Z8t : Nat → Int × Int × List (Int × Int) → List Int → Int → Option (List (Int × Int))
 | 0, _, _, _ => none
 | k + 1, p0, p1, p2 =>
  Option.bind (Z1Y k p0.2.2 p0.1 p0.2.1 p1 p2 (↑(List.length p0.2.2) : Int) (0 : Int)) fun z0 => some z0
noncomputable def Z3z : FnDef := .of ZjP Z6g (List (Int × Int)) (fun k x => Z8t k x.1 x.2.1 x.2.2.1) Zic Zdu Zov
noncomputable def ZaH : Code := Try.f214.body.getD .skip
noncomputable def Z4A : Ctx (Tup Z6g × OutD) := { T := T, G := [], mvs := [], no := 1, n := 44, res := resOf T ZjP Z6g Try.f214.results.toList, loops := [(0, Z4n.E)], regs := [], conds := [] }
theorem Zjt (k : Nat) : EnvOK Try.prog k Z4A.G := (EnvOK.nil mixed)
noncomputable def Z8U : Code := (findLoop 0 ZaH).getD .skip
theorem ZqO (k : Nat) (x : ZbJ.D) : Z4n.lp (k + 1) x = loopK Z4A Z4n 0 Z8U k x := by kernel_rfl
theorem ZqG (k : Nat) : LOK Try.prog Z4A k Z8U := LOK.by [] (by kernel_rfl) AllOK.nil
theorem Zr9 (x : ZbJ.D) : Z4n.lp 0 x = none := by kernel_rfl
theorem Zo7 (k : Nat) : EOK Try.prog Z4A k Z4n.E (.block 0 (.loop Z8U)) := Zp T_ok Zjt Zr9 ZqO ZqG k
theorem ZvK (k : Nat) (x : Tup Z3z.ps) : Z3z.f (k + 1) x = fnK Z3z Z4A ZaH k x := by kernel_rfl
theorem ZwL (x : Tup Z3z.ps) : Z3z.f 0 x = none := by kernel_rfl
theorem ZvC (k : Nat) : LOK Try.prog Z4A k ZaH := LOK.by [(Z4n.E, .block 0 (.loop Z8U))] (by kernel_rfl) (AllOK.cons (Zo7 k) AllOK.nil)
theorem Zvz (k : Nat) : SoundAt Try.prog k 214 Z3z.E := @Ze Try.prog Z3z Z4A 214 Try.f214 ZaH (by kernel_rfl) (by kernel_rfl) (by kernel_rfl) Try.func214 (by kernel_rfl) (by kernel_rfl) (by kernel_rfl) T_ok Zjt ZvC ZwL ZvK k
noncomputable def Zbw : List PK := [PK.mk (Ty.pair (Ty.int .i64) (Ty.int .i64)) true none false none]
noncomputable def Zq5 : List PK := [PK.mk (Ty.pair (Ty.int .i64) (Ty.int .i64)) true none false none]
noncomputable def Zn1 (r : Int × Int) : Tup Zbw × OutD := ((r, ()), none)
noncomputable def Zno : Tup Zbw × OutD → Option (Int × Int)
 | (a, none) => some (a.1)
 | _ => none
theorem Zuo : ∀ b r, Zno b = some r → Zn1 r = b := by
 rintro ⟨a, o⟩ r h
 cases o with
 | none => injection h with h; subst h; rfl
 | some _ => cases h
noncomputable def Zbr : Nat → Int × Int → Option (Int × Int)
 | 0, _ => none
 | k + 1, p0 =>
  some (Prod.fst p0, wrap64 ((1 : Int) - Prod.snd p0))
noncomputable def Z5B : FnDef := .of Zq5 Zbw (Int × Int) (fun k x => Zbr k x.1) Zn1 Zno Zuo
noncomputable def ZhN : Code := Try.f218.body.getD .skip
noncomputable def ZdW : Ctx (Tup Zbw × OutD) := { T := T, G := [], mvs := [], no := 0, n := 9, res := resOf T Zq5 Zbw Try.f218.results.toList, loops := [], regs := [], conds := [] }
theorem ZAq (k : Nat) : EnvOK Try.prog k ZdW.G := (EnvOK.nil mixed)
theorem ZAo (k : Nat) (x : Tup Z5B.ps) : Z5B.f (k + 1) x = fnK Z5B ZdW ZhN k x := by kernel_rfl
theorem ZAl (x : Tup Z5B.ps) : Z5B.f 0 x = none := by kernel_rfl
theorem ZA3 (k : Nat) : LOK Try.prog ZdW k ZhN := LOK.by [] (by kernel_rfl) AllOK.nil
theorem ZAn (k : Nat) : SoundAt Try.prog k 218 Z5B.E := @Ze Try.prog Z5B ZdW 218 Try.f218 ZhN (by kernel_rfl) (by kernel_rfl) (by kernel_rfl) Try.func218 (by kernel_rfl) (by kernel_rfl) (by kernel_rfl) T_ok ZAq ZA3 ZAl ZAo k
end
end Go.Proofs.Ytgjmhbjdhihgaaa.Vs

set_option maxRecDepth 100000
set_option maxHeartbeats 2000000
set_option linter.unusedVariables false
set_option linter.unusedSimpArgs false
namespace Go.Proofs.Ytgjmhbjdhihgaaa.Vs
open Go.RowKit
noncomputable section
noncomputable def Z6c : List PK := [PK.mk Ty.bool false none false none]
noncomputable def Zjj : List PK := [PK.mk (Ty.slice (34 : Nat) (Ty.slice (3 : Nat) (Ty.int .i64))) false none false none, PK.mk (Ty.slice (34 : Nat) (Ty.slice (3 : Nat) (Ty.int .i64))) false none false none]
noncomputable def Zdn (r : Bool) : Tup Z6c × OutD := ((r, ()), none)
noncomputable def Zdq : Tup Z6c × OutD → Option (Bool)
 | (a, none) => some (a.1)
 | _ => none
theorem Zf0 : ∀ b r, Zdq b = some r → Zdn r = b := by
 rintro ⟨a, o⟩ r h
 cases o with
 | none => injection h with h; subst h; rfl
 | some _ => cases h
noncomputable def Z4M : Nat → List (List Int) → List (List Int) → Int → Int → Option (LR Unit Bool)
 | 0, _, _, _, _ => none
 | k + 1, v0, v1, v12, v13 =>
  if decide (v13 < v12) = true then if (0 : Int) ≤ v13 then if v13 < (↑(List.length v0) : Int) then if (0 : Int) ≤ v13 then if v13 < (↑(List.length v1) : Int) then Option.bind (Z9w k (List.getD v0 (Int.toNat v13) []) (List.getD v1 (Int.toNat v13) [])) fun z0 => if (!z0) = true then some (LR.ret false) else Z4M k v0 v1 v12 (wrap64 (v13 + (1 : Int))) else none else none else none else none else some (LR.go ())
noncomputable def ZbT : Spec := Spec.mk [OSh.ro] [((0 : Nat), TSh.at (Sh.snap (0 : Nat) (Ty.slice (3 : Nat) (Ty.int .i64)))), ((1 : Nat), TSh.at (Sh.snap (0 : Nat) (Ty.slice (3 : Nat) (Ty.int .i64)))), ((12 : Nat), TSh.at (Sh.int .i64)), ((13 : Nat), TSh.at (Sh.int .i64))]
noncomputable def Zrc : Spec := Spec.mk [OSh.ro] []
noncomputable def Z4k : LoopDef (Tup Z6c × OutD) := .rets ZbT Zrc (Unit) (Bool) (fun k x => Z4M k x.2.1 x.2.2.1 x.2.2.2.1 x.2.2.2.2.1) (fun z => (((), ()), (()))) (fun y => ()) (fun _ => rfl) Zdn Zdq Zf0
noncomputable def ZaX : Nat → List (List Int) → List (List Int) → Option Bool
 | 0, _, _ => none
 | k + 1, p0, p1 =>
  if decide ((↑(List.length p0) : Int) ≠ (↑(List.length p1) : Int)) = true then some false else Option.bind (Z4M k p0 p1 (↑(List.length p0) : Int) (0 : Int)) fun z1 => LR.on z1 (fun y1 => some true) fun r1 => some r1
noncomputable def Z3F : FnDef := .of Zjj Z6c (Bool) (fun k x => ZaX k x.1 x.2.1) Zdn Zdq Zf0
noncomputable def ZaK : Code := Try.f63.body.getD .skip
noncomputable def Z4F : Ctx (Tup Z6c × OutD) := { T := T, G := [(31, Z3i.E)], mvs := [], no := 0, n := 27, res := resOf T Zjj Z6c Try.f63.results.toList, loops := [(0, Z4k.E)], regs := [], conds := [] }
theorem Zjs (k : Nat) : EnvOK Try.prog k Z4F.G := (EnvOK.cons (ZkZ k) (EnvOK.nil mixed))
noncomputable def Z8E : Code := (findLoop 0 ZaK).getD .skip
theorem Zqe (k : Nat) (x : ZbT.D) : Z4k.lp (k + 1) x = loopK Z4F Z4k 0 Z8E k x := by kernel_rfl
theorem Zqo (k : Nat) : LOK Try.prog Z4F k Z8E := LOK.by [] (by kernel_rfl) AllOK.nil
theorem Zqt (x : ZbT.D) : Z4k.lp 0 x = none := by kernel_rfl
theorem ZoM (k : Nat) : EOK Try.prog Z4F k Z4k.E (.block 0 (.loop Z8E)) := Zp T_ok Zjs Zqt Zqe Zqo k
theorem ZvX (k : Nat) (x : Tup Z3F.ps) : Z3F.f (k + 1) x = fnK Z3F Z4F ZaK k x := by kernel_rfl
theorem ZwS (x : Tup Z3F.ps) : Z3F.f 0 x = none := by kernel_rfl
theorem ZwT (k : Nat) : LOK Try.prog Z4F k ZaK := LOK.by [(Z4k.E, .block 0 (.loop Z8E))] (by kernel_rfl) (AllOK.cons (ZoM k) AllOK.nil)
theorem Zxa (k : Nat) : SoundAt Try.prog k 63 Z3F.E := @Ze Try.prog Z3F Z4F 63 Try.f63 ZaK (by kernel_rfl) (by kernel_rfl) (by kernel_rfl) Try.func63 (by kernel_rfl) (by kernel_rfl) (by kernel_rfl) T_ok Zjs ZwT ZwS ZvX k
noncomputable def Z7C : List PK := [PK.mk (Ty.int .i64) false none false none]
noncomputable def Zi2 : List PK := [PK.mk (Ty.pair (Ty.slice (5 : Nat) (Ty.int .u8)) (Ty.pair (Ty.int .i64) (Ty.int .u64))) false none false (some (114 : Nat)), PK.mk (Ty.int .i64) false none false none]
noncomputable def Zh6 (r : Int × Int × Int) : Tup Z7C × OutD := ((r.1, ()), some ⟨Ty.pair (Ty.slice (5 : Nat) (Ty.int .u8)) (Ty.pair (Ty.int .i64) (Ty.int .u64)), [([], r.2)]⟩)
noncomputable def ZcB : Tup Z7C × OutD → Option (Int × Int × Int)
 | (a, some ⟨u, ys⟩) => if h : u = Ty.pair (Ty.slice (5 : Nat) (Ty.int .u8)) (Ty.pair (Ty.int .i64) (Ty.int .u64)) then (match castU h ys with
  | [([], y)] => some (a.1, y)
  | _ => none) else none
 | _ => none
theorem ZmR : ∀ b r, ZcB b = some r → Zh6 r = b := by
 rintro ⟨a, o⟩ r h
 cases o with
 | none => cases h
 | some s =>
  obtain ⟨u, ys⟩ := s
  simp only [ZcB] at h
  split at h
  ·rename_i hu
   subst hu
   match ys, h with
   | [], h => cases (show (none : Option _) = some r from h)
   | [([], y)], h => injection (show some _ = some r from h) with h; subst h; rfl
   | [(_ :: _, y)], h => cases (show (none : Option _) = some r from h)
   | (h1, _) :: _ :: _, h => cases h1 <;> cases (show (none : Option _) = some r from h)
  ·cases h
noncomputable def Z2 : Nat → List Int × Int × Int → Int → Option (Int × Int × Int)
 | 0, _, _ => none
 | k + 1, p0, p1 =>
  if decide (p1 ≤ (1 : Int)) = true then some ((0 : Int), Prod.fst p0.2, Prod.snd p0.2) else Option.bind (Z5q k (Prod.fst p0, Prod.fst p0.2, Prod.snd p0.2)) fun z0 => if decide (p1 > (200 : Int)) = true then Option.bind (Z5q k (Prod.fst p0, Prod.fst z0.2, Prod.snd z0.2)) fun z1 => if p1 = (0 : Int) then none else some (Int.tmod (wrap64 (wrap64 (Prod.fst z0 * (256 : Int)) + Prod.fst z1)) p1, Prod.fst z1.2, Prod.snd z1.2) else if p1 = (0 : Int) then none else some (Int.tmod z0.1 p1, Prod.fst z0.2, Prod.snd z0.2)
noncomputable def ZI : FnDef := .of Zi2 Z7C (Int × Int × Int) (fun k x => Z2 k x.1 x.2.1) Zh6 ZcB ZmR
noncomputable def Zdg : Code := Try.f111.body.getD .skip
noncomputable def Za0 : Ctx (Tup Z7C × OutD) := { T := T, G := [(175, Z35.E)], mvs := [], no := 2, n := 20, res := resOf T Zi2 Z7C Try.f111.results.toList, loops := [], regs := [], conds := [] }
theorem Zup (k : Nat) : EnvOK Try.prog k Za0.G := (EnvOK.cons (ZuP k) (EnvOK.nil mixed))
theorem Zuh (k : Nat) (x : Tup ZI.ps) : ZI.f (k + 1) x = fnK ZI Za0 Zdg k x := by kernel_rfl
theorem Zuu (x : Tup ZI.ps) : ZI.f 0 x = none := by kernel_rfl
theorem ZtY (k : Nat) : LOK Try.prog Za0 k Zdg := LOK.by [] (by kernel_rfl) AllOK.nil
theorem Z32 (k : Nat) : SoundAt Try.prog k 111 ZI.E := @Ze Try.prog ZI Za0 111 Try.f111 Zdg (by kernel_rfl) (by kernel_rfl) (by kernel_rfl) Try.func111 (by kernel_rfl) (by kernel_rfl) (by kernel_rfl) T_ok Zup ZtY Zuu Zuh k
noncomputable def Zal : List PK := [PK.mk Ty.bool false none false none]
noncomputable def Zrl : List PK := [PK.mk (Ty.slice (3 : Nat) (Ty.int .i64)) false none false none, PK.mk (Ty.int .i64) false none false none, PK.mk (Ty.int .i64) false none false none]
noncomputable def ZhL (r : Bool) : Tup Zal × OutD := ((r, ()), none)
noncomputable def ZhA : Tup Zal × OutD → Option (Bool)
 | (a, none) => some (a.1)
 | _ => none
theorem Zkb : ∀ b r, ZhA b = some r → ZhL r = b := by
 rintro ⟨a, o⟩ r h
 cases o with
 | none => injection h with h; subst h; rfl
 | some _ => cases h
noncomputable def Z8d : Nat → Int → Int → List Int → Int → Int → Option (LR Unit Bool)
 | 0, _, _, _, _, _ => none
 | k + 1, v1, v2, v9, v10, v11 =>
  if decide (v11 < v10) = true then if (0 : Int) ≤ v11 then if v11 < (↑(List.length v9) : Int) then Option.bind (Z21 k (List.getD v9 (Int.toNat v11) (0 : Int)) v1 v2) fun z0 => if (!z0) = true then some (LR.ret false) else Z8d k v1 v2 v9 v10 (wrap64 (v11 + (1 : Int))) else none else none else some (LR.go ())
noncomputable def Zf4 : Spec := Spec.mk [OSh.ro] [((1 : Nat), TSh.at (Sh.int .i64)), ((2 : Nat), TSh.at (Sh.int .i64)), ((9 : Nat), TSh.at (Sh.snap (0 : Nat) (Ty.int .i64))), ((10 : Nat), TSh.at (Sh.int .i64)), ((11 : Nat), TSh.at (Sh.int .i64))]
noncomputable def Zyh : Spec := Spec.mk [OSh.ro] []
noncomputable def Z7j : LoopDef (Tup Zal × OutD) := .rets Zf4 Zyh (Unit) (Bool) (fun k x => Z8d k x.2.1 x.2.2.1 x.2.2.2.1 x.2.2.2.2.1 x.2.2.2.2.2.1) (fun z => (((), ()), (()))) (fun y => ()) (fun _ => rfl) ZhL ZhA Zkb
noncomputable def Zfg : Nat → List Int → Int → Int → Option Bool
 | 0, _, _, _ => none
 | k + 1, p0, p1, p2 =>
  Option.bind (Z8d k p1 p2 p0 (↑(List.length p0) : Int) (0 : Int)) fun z1 => LR.on z1 (fun y1 => some true) fun r1 => some r1
noncomputable def Z6N : FnDef := .of Zrl Zal (Bool) (fun k x => Zfg k x.1 x.2.1 x.2.2.1) ZhL ZhA Zkb
noncomputable def ZeY : Code := Try.f113.body.getD .skip
noncomputable def Z8r : Ctx (Tup Zal × OutD) := { T := T, G := [(96, Z2t.E)], mvs := [], no := 0, n := 21, res := resOf T Zrl Zal Try.f113.results.toList, loops := [(0, Z7j.E)], regs := [], conds := [] }
theorem Zsu (k : Nat) : EnvOK Try.prog k Z8r.G := (EnvOK.cons (Z9T k) (EnvOK.nil mixed))
noncomputable def Zc0 : Code := (findLoop 0 ZeY).getD .skip
theorem Zyn (k : Nat) (x : Zf4.D) : Z7j.lp (k + 1) x = loopK Z8r Z7j 0 Zc0 k x := by kernel_rfl
theorem Zy9 (k : Nat) : LOK Try.prog Z8r k Zc0 := LOK.by [] (by kernel_rfl) AllOK.nil
theorem Zxm (x : Zf4.D) : Z7j.lp 0 x = none := by kernel_rfl
theorem Zwq (k : Nat) : EOK Try.prog Z8r k Z7j.E (.block 0 (.loop Zc0)) := Zp T_ok Zsu Zxm Zyn Zy9 k
theorem ZBs (k : Nat) (x : Tup Z6N.ps) : Z6N.f (k + 1) x = fnK Z6N Z8r ZeY k x := by kernel_rfl
theorem ZBq (x : Tup Z6N.ps) : Z6N.f 0 x = none := by kernel_rfl
theorem ZBI (k : Nat) : LOK Try.prog Z8r k ZeY := LOK.by [(Z7j.E, .block 0 (.loop Zc0))] (by kernel_rfl) (AllOK.cons (Zwq k) AllOK.nil)
theorem ZAP (k : Nat) : SoundAt Try.prog k 113 Z6N.E := @Ze Try.prog Z6N Z8r 113 Try.f113 ZeY (by kernel_rfl) (by kernel_rfl) (by kernel_rfl) Try.func113 (by kernel_rfl) (by kernel_rfl) (by kernel_rfl) T_ok Zsu ZBI ZBq ZBs k
noncomputable def Z1B : List PK := [PK.mk (Ty.slice (3 : Nat) (Ty.int .i64)) false none false none]
noncomputable def Zgb : List PK := [PK.mk (Ty.pair (Ty.int .i64) (Ty.pair (Ty.int .i64) (Ty.slice (79 : Nat) (Ty.pair (Ty.int .i64) (Ty.int .i64))))) true none false none]
noncomputable def ZeQ (r : List Int) : Tup Z1B × OutD := ((r, ()), none)
noncomputable def ZeT : Tup Z1B × OutD → Option (List Int)
 | (a, none) => some (a.1)
 | _ => none
theorem Zks : ∀ b r, ZeT b = some r → ZeQ r = b := by
 rintro ⟨a, o⟩ r h
 cases o with
 | none => injection h with h; subst h; rfl
 | some _ => cases h
noncomputable def Z3v : Nat → Int → Int → List (Int × Int) → List Int → Int → Int → Option (Int × Int × List (Int × Int) × List Int)
 | 0, _, _, _, _, _, _ => none
 | k + 1, b1_0, b1_1, b1_2, o2, v17, v18 =>
  if decide (v18 < v17) = true then if (0 : Int) ≤ v18 then if v18 < (↑(List.length o2) : Int) then Z3v k b1_0 b1_1 b1_2 (List.set o2 (Int.toNat v18) (-1 : Int)) v17 (wrap64 (v18 + (1 : Int))) else none else none else some (b1_0, b1_1, b1_2, o2)
noncomputable def Z9P : Spec := Spec.mk [OSh.ro, OSh.box (53 : Nat) [Sh.int .i64, Sh.int .i64, Sh.snap (0 : Nat) (Ty.pair (Ty.int .i64) (Ty.int .i64))], OSh.row true (3 : Nat) (Ty.int .i64)] [((1 : Nat), TSh.at (Sh.ptr (1 : Nat) (0 : Nat))), ((3 : Nat), TSh.at (Sh.sl (2 : Nat))), ((17 : Nat), TSh.at (Sh.int .i64)), ((18 : Nat), TSh.at (Sh.int .i64))]
noncomputable def ZlN : Spec := Spec.mk [OSh.ro, OSh.box (53 : Nat) [Sh.int .i64, Sh.int .i64, Sh.snap (0 : Nat) (Ty.pair (Ty.int .i64) (Ty.int .i64))], OSh.row true (3 : Nat) (Ty.int .i64)] [((1 : Nat), TSh.at (Sh.ptr (1 : Nat) (0 : Nat))), ((3 : Nat), TSh.at (Sh.sl (2 : Nat)))]
noncomputable def Z2U : LoopDef (Tup Z1B × OutD) := .plain Z9P ZlN (Int × Int × List (Int × Int) × List Int) (fun k x => Z3v k x.1.2.1.1 x.1.2.1.2.1 x.1.2.1.2.2.1 x.1.2.2.1 x.2.2.2.1 x.2.2.2.2.1) (fun z => (((), (z.1, z.2.1, z.2.2.1, ()), z.2.2.2, ()), ((), (), ()))) (fun y => (y.1.2.1.1, y.1.2.1.2.1, y.1.2.1.2.2.1, y.1.2.2.1)) (fun _ => rfl)
noncomputable def Z1L : Nat → Int → Int → List (Int × Int) → List Int → List Int → List Int → Int → List (Int × Int) → Int → Int → Int → Int → Option (Int × Int × List (Int × Int) × List Int × List Int × Int × List (Int × Int) × Int × Int)
 | 0, _, _, _, _, _, _, _, _, _, _, _, _ => none
 | k + 1, b1_0, b1_1, b1_2, o2, o3, o4, v5, v26, v27, v28, v60, v61 =>
  if decide (v61 < v60) = true then if (0 : Int) ≤ v61 then if v61 < (↑(List.length o4) : Int) then if (0 : Int) ≤ List.getD o4 (Int.toNat v61) (0 : Int) then if List.getD o4 (Int.toNat v61) (0 : Int) < (↑(List.length b1_2) : Int) then Option.bind (Z9K k (Prod.fst (List.getD b1_2 (Int.toNat (List.getD o4 (Int.toNat v61) (0 : Int))) ((0 : Int), (0 : Int))), Prod.snd (List.getD b1_2 (Int.toNat (List.getD o4 (Int.toNat v61) (0 : Int))) ((0 : Int), (0 : Int))))) fun z3 => if z3 = true then if (0 : Int) ≤ List.getD o4 (Int.toNat v61) (0 : Int) then if List.getD o4 (Int.toNat v61) (0 : Int) < (↑(List.length o2) : Int) then if decide (List.getD o2 (Int.toNat (List.getD o4 (Int.toNat v61) (0 : Int))) (0 : Int) < (0 : Int)) = true then if (0 : Int) ≤ List.getD o4 (Int.toNat v61) (0 : Int) then if List.getD o4 (Int.toNat v61) (0 : Int) < (↑(List.length o2) : Int) then if List.length o3 + List.length [List.getD o4 (Int.toNat v61) (0 : Int)] ≤ (140737488355328 / 8 : Nat) then Z1L k b1_0 b1_1 b1_2 (List.set o2 (Int.toNat (List.getD o4 (Int.toNat v61) (0 : Int))) v5) (o3 ++ [List.getD o4 (Int.toNat v61) (0 : Int)]) o4 v5 v26 v27 v28 v60 (wrap64 (v61 + (1 : Int))) else none else none else none else Z1L k b1_0 b1_1 b1_2 o2 o3 o4 v5 v26 v27 v28 v60 (wrap64 (v61 + (1 : Int))) else none else none else Z1L k b1_0 b1_1 b1_2 o2 o3 o4 v5 v26 v27 v28 v60 (wrap64 (v61 + (1 : Int))) else none else none else none else none else some (b1_0, b1_1, b1_2, o2, o3, v5, v26, v27, v28)
noncomputable def Z9R : Spec := Spec.mk [OSh.ro, OSh.box (53 : Nat) [Sh.int .i64, Sh.int .i64, Sh.snap (0 : Nat) (Ty.pair (Ty.int .i64) (Ty.int .i64))], OSh.row true (3 : Nat) (Ty.int .i64), OSh.row true (3 : Nat) (Ty.int .i64), OSh.row true (3 : Nat) (Ty.int .i64)] [((1 : Nat), TSh.at (Sh.ptr (1 : Nat) (0 : Nat))), ((3 : Nat), TSh.at (Sh.sl (2 : Nat))), ((5 : Nat), TSh.at (Sh.int .i64)), ((8 : Nat), TSh.at (Sh.sl (3 : Nat))), ((26 : Nat), TSh.at (Sh.snap (0 : Nat) (Ty.pair (Ty.int .i64) (Ty.int .i64)))), ((27 : Nat), TSh.at (Sh.int .i64)), ((28 : Nat), TSh.at (Sh.int .i64)), ((59 : Nat), TSh.at (Sh.sl (4 : Nat))), ((60 : Nat), TSh.at (Sh.int .i64)), ((61 : Nat), TSh.at (Sh.int .i64))]
noncomputable def ZlE : Spec := Spec.mk [OSh.ro, OSh.box (53 : Nat) [Sh.int .i64, Sh.int .i64, Sh.snap (0 : Nat) (Ty.pair (Ty.int .i64) (Ty.int .i64))], OSh.row true (3 : Nat) (Ty.int .i64), OSh.row true (3 : Nat) (Ty.int .i64)] [((1 : Nat), TSh.at (Sh.ptr (1 : Nat) (0 : Nat))), ((3 : Nat), TSh.at (Sh.sl (2 : Nat))), ((5 : Nat), TSh.at (Sh.int .i64)), ((8 : Nat), TSh.at (Sh.sl (3 : Nat))), ((26 : Nat), TSh.at (Sh.snap (0 : Nat) (Ty.pair (Ty.int .i64) (Ty.int .i64)))), ((27 : Nat), TSh.at (Sh.int .i64)), ((28 : Nat), TSh.at (Sh.int .i64))]
noncomputable def Z2W : LoopDef (Tup Z1B × OutD) := .plain Z9R ZlE (Int × Int × List (Int × Int) × List Int × List Int × Int × List (Int × Int) × Int × Int) (fun k x => Z1L k x.1.2.1.1 x.1.2.1.2.1 x.1.2.1.2.2.1 x.1.2.2.1 x.1.2.2.2.1 x.1.2.2.2.2.1 x.2.2.2.1 x.2.2.2.2.2.1 x.2.2.2.2.2.2.1 x.2.2.2.2.2.2.2.1 x.2.2.2.2.2.2.2.2.2.1 x.2.2.2.2.2.2.2.2.2.2.1) (fun z => (((), (z.1, z.2.1, z.2.2.1, ()), z.2.2.2.1, z.2.2.2.2.1, ()), ((), (), z.2.2.2.2.2.1, (), z.2.2.2.2.2.2.1, z.2.2.2.2.2.2.2.1, z.2.2.2.2.2.2.2.2, ()))) (fun y => (y.1.2.1.1, y.1.2.1.2.1, y.1.2.1.2.2.1, y.1.2.2.1, y.1.2.2.2.1, y.2.2.2.1, y.2.2.2.2.2.1, y.2.2.2.2.2.2.1, y.2.2.2.2.2.2.2.1)) (fun _ => rfl)
noncomputable def Z2k : Nat → Int → Int → List (Int × Int) → List Int → List Int → Int → List (Int × Int) → Int → Int → Option (Int × Int × List (Int × Int) × List Int × Int × List (Int × Int) × Int × Int)
 | 0, _, _, _, _, _, _, _, _, _ => none
 | k + 1, b1_0, b1_1, b1_2, o2, o3, v5, v26, v27, v28 =>
  if decide ((↑(List.length o3) : Int) > (0 : Int)) = true then if (0 : Int) < (↑(List.length o3) : Int) then if (1 : Int) ≤ (↑(List.length o3) : Int) then if (↑(List.length o3) : Int) ≤ (↑(List.length o3) : Int) then Option.bind (Zc1 k (b1_0, b1_1, b1_2) (List.getD o3 (Int.toNat (0 : Int)) (0 : Int))) fun z2 => Option.bind (Z1L k b1_0 b1_1 b1_2 o2 (List.drop (Int.toNat (1 : Int)) o3) z2 v5 v26 v27 v28 (↑(List.length z2) : Int) (0 : Int)) fun z4 => Z2k k z4.1 z4.2.1 z4.2.2.1 z4.2.2.2.1 z4.2.2.2.2.1 z4.2.2.2.2.2.1 z4.2.2.2.2.2.2.1 z4.2.2.2.2.2.2.2.1 z4.2.2.2.2.2.2.2.2 else none else none else none else some (b1_0, b1_1, b1_2, o2, v5, v26, v27, v28)
noncomputable def Z9W : Spec := Spec.mk [OSh.ro, OSh.box (53 : Nat) [Sh.int .i64, Sh.int .i64, Sh.snap (0 : Nat) (Ty.pair (Ty.int .i64) (Ty.int .i64))], OSh.row true (3 : Nat) (Ty.int .i64), OSh.row true (3 : Nat) (Ty.int .i64)] [((1 : Nat), TSh.at (Sh.ptr (1 : Nat) (0 : Nat))), ((3 : Nat), TSh.at (Sh.sl (2 : Nat))), ((5 : Nat), TSh.at (Sh.int .i64)), ((8 : Nat), TSh.at (Sh.sl (3 : Nat))), ((26 : Nat), TSh.at (Sh.snap (0 : Nat) (Ty.pair (Ty.int .i64) (Ty.int .i64)))), ((27 : Nat), TSh.at (Sh.int .i64)), ((28 : Nat), TSh.at (Sh.int .i64))]
noncomputable def ZlS : Spec := Spec.mk [OSh.ro, OSh.box (53 : Nat) [Sh.int .i64, Sh.int .i64, Sh.snap (0 : Nat) (Ty.pair (Ty.int .i64) (Ty.int .i64))], OSh.row true (3 : Nat) (Ty.int .i64)] [((1 : Nat), TSh.at (Sh.ptr (1 : Nat) (0 : Nat))), ((3 : Nat), TSh.at (Sh.sl (2 : Nat))), ((5 : Nat), TSh.at (Sh.int .i64)), ((26 : Nat), TSh.at (Sh.snap (0 : Nat) (Ty.pair (Ty.int .i64) (Ty.int .i64)))), ((27 : Nat), TSh.at (Sh.int .i64)), ((28 : Nat), TSh.at (Sh.int .i64))]
noncomputable def Z2Q : LoopDef (Tup Z1B × OutD) := .plain Z9W ZlS (Int × Int × List (Int × Int) × List Int × Int × List (Int × Int) × Int × Int) (fun k x => Z2k k x.1.2.1.1 x.1.2.1.2.1 x.1.2.1.2.2.1 x.1.2.2.1 x.1.2.2.2.1 x.2.2.2.1 x.2.2.2.2.2.1 x.2.2.2.2.2.2.1 x.2.2.2.2.2.2.2.1) (fun z => (((), (z.1, z.2.1, z.2.2.1, ()), z.2.2.2.1, ()), ((), (), z.2.2.2.2.1, z.2.2.2.2.2.1, z.2.2.2.2.2.2.1, z.2.2.2.2.2.2.2, ()))) (fun y => (y.1.2.1.1, y.1.2.1.2.1, y.1.2.1.2.2.1, y.1.2.2.1, y.2.2.2.1, y.2.2.2.2.1, y.2.2.2.2.2.1, y.2.2.2.2.2.2.1)) (fun _ => rfl)
noncomputable def Z1b : Nat → Int → Int → List (Int × Int) → List Int → Int → List (Int × Int) → Int → Int → Option (List Int)
 | 0, _, _, _, _, _, _, _, _ => none
 | k + 1, b1_0, b1_1, b1_2, o2, v5, v26, v27, v28 =>
  if decide (v28 < v27) = true then if (0 : Int) ≤ v28 then if v28 < (↑(List.length v26) : Int) then Option.bind (Z9K k (Prod.fst (List.getD v26 (Int.toNat v28) ((0 : Int), (0 : Int))), Prod.snd (List.getD v26 (Int.toNat v28) ((0 : Int), (0 : Int))))) fun z1 => if (!z1) = true then Z1b k b1_0 b1_1 b1_2 o2 v5 v26 v27 (wrap64 (v28 + (1 : Int))) else if (0 : Int) ≤ v28 then if v28 < (↑(List.length o2) : Int) then if decide (List.getD o2 (Int.toNat v28) (0 : Int) ≥ (0 : Int)) = true then Z1b k b1_0 b1_1 b1_2 o2 v5 v26 v27 (wrap64 (v28 + (1 : Int))) else if (0 : Int) ≤ v28 then if v28 < (↑(List.length o2) : Int) then Option.bind (Z2k k b1_0 b1_1 b1_2 (List.set o2 (Int.toNat v28) v5) [v28] v5 v26 v27 v28) fun z5 => Z1b k z5.1 z5.2.1 z5.2.2.1 z5.2.2.2.1 (wrap64 (Prod.fst z5.2.2.2.2 + (1 : Int))) z5.2.2.2.2.2.1 z5.2.2.2.2.2.2.1 (wrap64 (Prod.snd z5.2.2.2.2.2.2 + (1 : Int))) else none else none else none else none else none else none else some o2
noncomputable def Z9Y : Spec := Spec.mk [OSh.ro, OSh.box (53 : Nat) [Sh.int .i64, Sh.int .i64, Sh.snap (0 : Nat) (Ty.pair (Ty.int .i64) (Ty.int .i64))], OSh.row true (3 : Nat) (Ty.int .i64)] [((1 : Nat), TSh.at (Sh.ptr (1 : Nat) (0 : Nat))), ((3 : Nat), TSh.at (Sh.sl (2 : Nat))), ((5 : Nat), TSh.at (Sh.int .i64)), ((26 : Nat), TSh.at (Sh.snap (0 : Nat) (Ty.pair (Ty.int .i64) (Ty.int .i64)))), ((27 : Nat), TSh.at (Sh.int .i64)), ((28 : Nat), TSh.at (Sh.int .i64))]
noncomputable def Zm6 : Spec := Spec.mk [OSh.ro, OSh.row true (3 : Nat) (Ty.int .i64)] [((3 : Nat), TSh.at (Sh.sl (1 : Nat)))]
noncomputable def Z2R : LoopDef (Tup Z1B × OutD) := .plain Z9Y Zm6 (List Int) (fun k x => Z1b k x.1.2.1.1 x.1.2.1.2.1 x.1.2.1.2.2.1 x.1.2.2.1 x.2.2.2.1 x.2.2.2.2.1 x.2.2.2.2.2.1 x.2.2.2.2.2.2.1) (fun z => (((), z, ()), ((), ()))) (fun y => (y.1.2.1)) (fun _ => rfl)
noncomputable def Z61 : Nat → Int × Int × List (Int × Int) → Option (List Int)
 | 0, _ => none
 | k + 1, p0 =>
  if Int.toNat (↑(List.length p0.2.2) : Int) * (8 : Nat) ≤ (281474976710656 : Nat) then Option.bind (Z3v k p0.1 p0.2.1 p0.2.2 (List.replicate (Int.toNat (↑(List.length p0.2.2) : Int)) (0 : Int)) (↑(List.length (List.replicate (Int.toNat (↑(List.length p0.2.2) : Int)) (0 : Int))) : Int) (0 : Int)) fun z0 => Option.bind (Z1b k z0.1 z0.2.1 z0.2.2.1 z0.2.2.2 (0 : Int) z0.2.2.1 (↑(List.length z0.2.2.1) : Int) (0 : Int)) fun z6 => some z6 else none
noncomputable def Z1y : FnDef := .of Zgb Z1B (List Int) (fun k x => Z61 k x.1) ZeQ ZeT Zks
noncomputable def Z3d : Code := Try.f128.body.getD .skip
noncomputable def Zv : Ctx (Tup Z1B × OutD) := { T := T, G := [(190, Z4d.E), (191, Z4e.E)], mvs := [56], no := 0, n := 91, res := resOf T Zgb Z1B Try.f128.results.toList, loops := [(0, Z2U.E), (6, Z2W.E), (4, Z2Q.E), (2, Z2R.E)], regs := [], conds := [] }
theorem Z60 (k : Nat) : EnvOK Try.prog k Zv.G := (EnvOK.cons (Zyp k) (EnvOK.cons (Zy5 k) (EnvOK.nil mixed)))
noncomputable def Z6H : Code := (findLoop 0 Z3d).getD .skip
theorem ZlF (k : Nat) (x : Z9P.D) : Z2U.lp (k + 1) x = loopK Zv Z2U 0 Z6H k x := by kernel_rfl
theorem ZlI (k : Nat) : LOK Try.prog Zv k Z6H := LOK.by [] (by kernel_rfl) AllOK.nil
theorem Zlx (x : Z9P.D) : Z2U.lp 0 x = none := by kernel_rfl
theorem Zkq (k : Nat) : EOK Try.prog Zv k Z2U.E (.block 0 (.loop Z6H)) := Zp T_ok Z60 Zlx ZlF ZlI k
noncomputable def Z6t : Code := (findLoop 6 Z3d).getD .skip
theorem Zlv (k : Nat) (x : Z9R.D) : Z2W.lp (k + 1) x = loopK Zv Z2W 6 Z6t k x := by kernel_rfl
theorem Zlt (k : Nat) : LOK Try.prog Zv k Z6t := LOK.by [] (by kernel_rfl) AllOK.nil
theorem Zls (x : Z9R.D) : Z2W.lp 0 x = none := by kernel_rfl
theorem Zkd (k : Nat) : EOK Try.prog Zv k Z2W.E (.block 6 (.loop Z6t)) := Zp T_ok Z60 Zls Zlv Zlt k
noncomputable def Z6A : Code := (findLoop 4 Z3d).getD .skip
theorem Zmb (k : Nat) (x : Z9W.D) : Z2Q.lp (k + 1) x = loopK Zv Z2Q 4 Z6A k x := by kernel_rfl
theorem ZlV (k : Nat) : LOK Try.prog Zv k Z6A := LOK.by [(Z2W.E, .block 6 (.loop Z6t))] (by kernel_rfl) (AllOK.cons (Zkd k) AllOK.nil)
theorem Zmd (x : Z9W.D) : Z2Q.lp 0 x = none := by kernel_rfl
theorem Zkn (k : Nat) : EOK Try.prog Zv k Z2Q.E (.block 4 (.loop Z6A)) := Zp T_ok Z60 Zmd Zmb ZlV k
noncomputable def Z6u : Code := (findLoop 2 Z3d).getD .skip
theorem Zm9 (k : Nat) (x : Z9Y.D) : Z2R.lp (k + 1) x = loopK Zv Z2R 2 Z6u k x := by kernel_rfl
theorem ZlK (k : Nat) : LOK Try.prog Zv k Z6u := LOK.by [(Z2Q.E, .block 4 (.loop Z6A))] (by kernel_rfl) (AllOK.cons (Zkn k) AllOK.nil)
theorem ZlR (x : Z9Y.D) : Z2R.lp 0 x = none := by kernel_rfl
theorem Zky (k : Nat) : EOK Try.prog Zv k Z2R.E (.block 2 (.loop Z6u)) := Zp T_ok Z60 ZlR Zm9 ZlK k
theorem ZqD (k : Nat) (x : Tup Z1y.ps) : Z1y.f (k + 1) x = fnK Z1y Zv Z3d k x := by kernel_rfl
theorem Zrf (x : Tup Z1y.ps) : Z1y.f 0 x = none := by kernel_rfl
theorem Zr5 (k : Nat) : LOK Try.prog Zv k Z3d := LOK.by [(Z2U.E, .block 0 (.loop Z6H)), (Z2R.E, .block 2 (.loop Z6u))] (by kernel_rfl) (AllOK.cons (Zkq k) (AllOK.cons (Zky k) AllOK.nil))
theorem Zg2 (k : Nat) : SoundAt Try.prog k 128 Z1y.E := @Ze Try.prog Z1y Zv 128 Try.f128 Z3d (by kernel_rfl) (by kernel_rfl) (by kernel_rfl) Try.func128 (by kernel_rfl) (by kernel_rfl) (by kernel_rfl) T_ok Z60 Zr5 Zrf ZqD k
noncomputable def Zbt : List PK := [PK.mk Ty.bool false none false none]
noncomputable def ZpW : List PK := [PK.mk (Ty.pair (Ty.int .i64) (Ty.int .i64)) true none false none, PK.mk (Ty.int .i64) false none false none]
noncomputable def Zn5 (r : Bool) : Tup Zbt × OutD := ((r, ()), none)
noncomputable def Zn6 : Tup Zbt × OutD → Option (Bool)
 | (a, none) => some (a.1)
 | _ => none
theorem ZuZ : ∀ b r, Zn6 b = some r → Zn5 r = b := by
 rintro ⟨a, o⟩ r h
 cases o with
 | none => injection h with h; subst h; rfl
 | some _ => cases h
noncomputable def Zbn : Nat → Int × Int → Int → Option Bool
 | 0, _, _ => none
 | k + 1, p0, p1 =>
  if decide (p1 = (1 : Int)) = true then Option.bind (Z4B k (Prod.fst p0, Prod.snd p0)) fun z0 => some z0 else if decide (p1 = (2 : Int)) = true then some true else if decide (p1 = (3 : Int)) = true then Option.bind (Z4B k (Prod.fst p0, Prod.snd p0)) fun z1 => if z1 = true then some true else if decide (Prod.fst p0 = (1 : Int)) = true then some true else some (decide (Prod.fst p0 = (2 : Int))) else some false
noncomputable def Z4w : FnDef := .of ZpW Zbt (Bool) (fun k x => Zbn k x.1 x.2.1) Zn5 Zn6 ZuZ
noncomputable def ZhJ : Code := Try.f182.body.getD .skip
noncomputable def ZdV : Ctx (Tup Zbt × OutD) := { T := T, G := [(207, Z23.E)], mvs := [], no := 0, n := 26, res := resOf T ZpW Zbt Try.f182.results.toList, loops := [], regs := [], conds := [] }
theorem ZzQ (k : Nat) : EnvOK Try.prog k ZdV.G := (EnvOK.cons (Ze5 k) (EnvOK.nil mixed))
theorem ZzP (k : Nat) (x : Tup Z4w.ps) : Z4w.f (k + 1) x = fnK Z4w ZdV ZhJ k x := by kernel_rfl
theorem ZzT (x : Tup Z4w.ps) : Z4w.f 0 x = none := by kernel_rfl
theorem ZAk (k : Nat) : LOK Try.prog ZdV k ZhJ := LOK.by [] (by kernel_rfl) AllOK.nil
theorem ZpP (k : Nat) : SoundAt Try.prog k 182 Z4w.E := @Ze Try.prog Z4w ZdV 182 Try.f182 ZhJ (by kernel_rfl) (by kernel_rfl) (by kernel_rfl) Try.func182 (by kernel_rfl) (by kernel_rfl) (by kernel_rfl) T_ok ZzQ ZAk ZzT ZzP k
noncomputable def Z3j : List PK := [PK.mk (Ty.slice (3 : Nat) (Ty.int .i64)) false none false none]
noncomputable def Zlb : List PK := [PK.mk (Ty.pair (Ty.int .i64) (Ty.pair (Ty.int .i64) (Ty.slice (79 : Nat) (Ty.pair (Ty.int .i64) (Ty.int .i64))))) true none false none]
noncomputable def Zk7 (r : List Int) : Tup Z3j × OutD := ((r, ()), none)
noncomputable def Zju : Tup Z3j × OutD → Option (List Int)
 | (a, none) => some (a.1)
 | _ => none
theorem Zrj : ∀ b r, Zju b = some r → Zk7 r = b := by
 rintro ⟨a, o⟩ r h
 cases o with
 | none => injection h with h; subst h; rfl
 | some _ => cases h
noncomputable def Z5x : Nat → Int → Int → List (Int × Int) → List Int → Int → Int → Option (Int × Int × List (Int × Int) × List Int)
 | 0, _, _, _, _, _, _ => none
 | k + 1, b1_0, b1_1, b1_2, o2, v17, v18 =>
  if decide (v18 < v17) = true then if (0 : Int) ≤ v18 then if v18 < (↑(List.length o2) : Int) then Z5x k b1_0 b1_1 b1_2 (List.set o2 (Int.toNat v18) (-1 : Int)) v17 (wrap64 (v18 + (1 : Int))) else none else none else some (b1_0, b1_1, b1_2, o2)
noncomputable def ZcH : Spec := Spec.mk [OSh.ro, OSh.box (53 : Nat) [Sh.int .i64, Sh.int .i64, Sh.snap (0 : Nat) (Ty.pair (Ty.int .i64) (Ty.int .i64))], OSh.row true (3 : Nat) (Ty.int .i64)] [((1 : Nat), TSh.at (Sh.ptr (1 : Nat) (0 : Nat))), ((3 : Nat), TSh.at (Sh.sl (2 : Nat))), ((17 : Nat), TSh.at (Sh.int .i64)), ((18 : Nat), TSh.at (Sh.int .i64))]
noncomputable def Zs5 : Spec := Spec.mk [OSh.ro, OSh.box (53 : Nat) [Sh.int .i64, Sh.int .i64, Sh.snap (0 : Nat) (Ty.pair (Ty.int .i64) (Ty.int .i64))], OSh.row true (3 : Nat) (Ty.int .i64)] [((1 : Nat), TSh.at (Sh.ptr (1 : Nat) (0 : Nat))), ((3 : Nat), TSh.at (Sh.sl (2 : Nat)))]
noncomputable def Z4K : LoopDef (Tup Z3j × OutD) := .plain ZcH Zs5 (Int × Int × List (Int × Int) × List Int) (fun k x => Z5x k x.1.2.1.1 x.1.2.1.2.1 x.1.2.1.2.2.1 x.1.2.2.1 x.2.2.2.1 x.2.2.2.2.1) (fun z => (((), (z.1, z.2.1, z.2.2.1, ()), z.2.2.2, ()), ((), (), ()))) (fun y => (y.1.2.1.1, y.1.2.1.2.1, y.1.2.1.2.2.1, y.1.2.2.1)) (fun _ => rfl)
noncomputable def Z2Y : Nat → Int → Int → List (Int × Int) → List Int → List Int → List Int → Int → Int → List (Int × Int) → Int → Int → Int → Int → Option (Int × Int × List (Int × Int) × List Int × List Int × Int × Int × List (Int × Int) × Int × Int)
 | 0, _, _, _, _, _, _, _, _, _, _, _, _, _ => none
 | k + 1, b1_0, b1_1, b1_2, o2, o3, o4, v5, v9, v26, v27, v28, v61, v62 =>
  if decide (v62 < v61) = true then if (0 : Int) ≤ v62 then if v62 < (↑(List.length o4) : Int) then if (0 : Int) ≤ List.getD o4 (Int.toNat v62) (0 : Int) then if List.getD o4 (Int.toNat v62) (0 : Int) < (↑(List.length b1_2) : Int) then Option.bind (Zbx k (Prod.fst (List.getD b1_2 (Int.toNat (List.getD o4 (Int.toNat v62) (0 : Int))) ((0 : Int), (0 : Int))), Prod.snd (List.getD b1_2 (Int.toNat (List.getD o4 (Int.toNat v62) (0 : Int))) ((0 : Int), (0 : Int))))) fun z3 => if z3 = true then if (0 : Int) ≤ List.getD o4 (Int.toNat v62) (0 : Int) then if List.getD o4 (Int.toNat v62) (0 : Int) < (↑(List.length o2) : Int) then if decide (List.getD o2 (Int.toNat (List.getD o4 (Int.toNat v62) (0 : Int))) (0 : Int) < (0 : Int)) = true then if (0 : Int) ≤ List.getD o4 (Int.toNat v62) (0 : Int) then if List.getD o4 (Int.toNat v62) (0 : Int) < (↑(List.length o2) : Int) then if List.length o3 + List.length [List.getD o4 (Int.toNat v62) (0 : Int)] ≤ (140737488355328 / 8 : Nat) then Z2Y k b1_0 b1_1 b1_2 (List.set o2 (Int.toNat (List.getD o4 (Int.toNat v62) (0 : Int))) v5) (o3 ++ [List.getD o4 (Int.toNat v62) (0 : Int)]) o4 v5 v9 v26 v27 v28 v61 (wrap64 (v62 + (1 : Int))) else none else none else none else Z2Y k b1_0 b1_1 b1_2 o2 o3 o4 v5 v9 v26 v27 v28 v61 (wrap64 (v62 + (1 : Int))) else none else none else Z2Y k b1_0 b1_1 b1_2 o2 o3 o4 v5 v9 v26 v27 v28 v61 (wrap64 (v62 + (1 : Int))) else none else none else none else none else some (b1_0, b1_1, b1_2, o2, o3, v5, v9, v26, v27, v28)
noncomputable def Zcl : Spec := Spec.mk [OSh.ro, OSh.box (53 : Nat) [Sh.int .i64, Sh.int .i64, Sh.snap (0 : Nat) (Ty.pair (Ty.int .i64) (Ty.int .i64))], OSh.row true (3 : Nat) (Ty.int .i64), OSh.row true (3 : Nat) (Ty.int .i64), OSh.row true (3 : Nat) (Ty.int .i64)] [((1 : Nat), TSh.at (Sh.ptr (1 : Nat) (0 : Nat))), ((3 : Nat), TSh.at (Sh.sl (2 : Nat))), ((5 : Nat), TSh.at (Sh.int .i64)), ((8 : Nat), TSh.at (Sh.sl (3 : Nat))), ((9 : Nat), TSh.at (Sh.int .i64)), ((26 : Nat), TSh.at (Sh.snap (0 : Nat) (Ty.pair (Ty.int .i64) (Ty.int .i64)))), ((27 : Nat), TSh.at (Sh.int .i64)), ((28 : Nat), TSh.at (Sh.int .i64)), ((60 : Nat), TSh.at (Sh.sl (4 : Nat))), ((61 : Nat), TSh.at (Sh.int .i64)), ((62 : Nat), TSh.at (Sh.int .i64))]
noncomputable def Zsv : Spec := Spec.mk [OSh.ro, OSh.box (53 : Nat) [Sh.int .i64, Sh.int .i64, Sh.snap (0 : Nat) (Ty.pair (Ty.int .i64) (Ty.int .i64))], OSh.row true (3 : Nat) (Ty.int .i64), OSh.row true (3 : Nat) (Ty.int .i64)] [((1 : Nat), TSh.at (Sh.ptr (1 : Nat) (0 : Nat))), ((3 : Nat), TSh.at (Sh.sl (2 : Nat))), ((5 : Nat), TSh.at (Sh.int .i64)), ((8 : Nat), TSh.at (Sh.sl (3 : Nat))), ((9 : Nat), TSh.at (Sh.int .i64)), ((26 : Nat), TSh.at (Sh.snap (0 : Nat) (Ty.pair (Ty.int .i64) (Ty.int .i64)))), ((27 : Nat), TSh.at (Sh.int .i64)), ((28 : Nat), TSh.at (Sh.int .i64))]
noncomputable def Z4X : LoopDef (Tup Z3j × OutD) := .plain Zcl Zsv (Int × Int × List (Int × Int) × List Int × List Int × Int × Int × List (Int × Int) × Int × Int) (fun k x => Z2Y k x.1.2.1.1 x.1.2.1.2.1 x.1.2.1.2.2.1 x.1.2.2.1 x.1.2.2.2.1 x.1.2.2.2.2.1 x.2.2.2.1 x.2.2.2.2.2.1 x.2.2.2.2.2.2.1 x.2.2.2.2.2.2.2.1 x.2.2.2.2.2.2.2.2.1 x.2.2.2.2.2.2.2.2.2.2.1 x.2.2.2.2.2.2.2.2.2.2.2.1) (fun z => (((), (z.1, z.2.1, z.2.2.1, ()), z.2.2.2.1, z.2.2.2.2.1, ()), ((), (), z.2.2.2.2.2.1, (), z.2.2.2.2.2.2.1, z.2.2.2.2.2.2.2.1, z.2.2.2.2.2.2.2.2.1, z.2.2.2.2.2.2.2.2.2, ()))) (fun y => (y.1.2.1.1, y.1.2.1.2.1, y.1.2.1.2.2.1, y.1.2.2.1, y.1.2.2.2.1, y.2.2.2.1, y.2.2.2.2.2.1, y.2.2.2.2.2.2.1, y.2.2.2.2.2.2.2.1, y.2.2.2.2.2.2.2.2.1)) (fun _ => rfl)
noncomputable def Z4b : Nat → Int → Int → List (Int × Int) → List Int → List Int → Int → Int → List (Int × Int) → Int → Int → Option (Int × Int × List (Int × Int) × List Int × Int × List (Int × Int) × Int × Int)
 | 0, _, _, _, _, _, _, _, _, _, _ => none
 | k + 1, b1_0, b1_1, b1_2, o2, o3, v5, v9, v26, v27, v28 =>
  if decide (v9 < (↑(List.length o3) : Int)) = true then if (0 : Int) ≤ v9 then if v9 < (↑(List.length o3) : Int) then Option.bind (Ze2 k (b1_0, b1_1, b1_2) (List.getD o3 (Int.toNat v9) (0 : Int))) fun z2 => Option.bind (Z2Y k b1_0 b1_1 b1_2 o2 o3 z2 v5 v9 v26 v27 v28 (↑(List.length z2) : Int) (0 : Int)) fun z4 => Z4b k z4.1 z4.2.1 z4.2.2.1 z4.2.2.2.1 z4.2.2.2.2.1 z4.2.2.2.2.2.1 (wrap64 (Prod.fst z4.2.2.2.2.2.2 + (1 : Int))) z4.2.2.2.2.2.2.2.1 z4.2.2.2.2.2.2.2.2.1 z4.2.2.2.2.2.2.2.2.2 else none else none else some (b1_0, b1_1, b1_2, o2, v5, v26, v27, v28)
noncomputable def Zcu : Spec := Spec.mk [OSh.ro, OSh.box (53 : Nat) [Sh.int .i64, Sh.int .i64, Sh.snap (0 : Nat) (Ty.pair (Ty.int .i64) (Ty.int .i64))], OSh.row true (3 : Nat) (Ty.int .i64), OSh.row true (3 : Nat) (Ty.int .i64)] [((1 : Nat), TSh.at (Sh.ptr (1 : Nat) (0 : Nat))), ((3 : Nat), TSh.at (Sh.sl (2 : Nat))), ((5 : Nat), TSh.at (Sh.int .i64)), ((8 : Nat), TSh.at (Sh.sl (3 : Nat))), ((9 : Nat), TSh.at (Sh.int .i64)), ((26 : Nat), TSh.at (Sh.snap (0 : Nat) (Ty.pair (Ty.int .i64) (Ty.int .i64)))), ((27 : Nat), TSh.at (Sh.int .i64)), ((28 : Nat), TSh.at (Sh.int .i64))]
noncomputable def ZsP : Spec := Spec.mk [OSh.ro, OSh.box (53 : Nat) [Sh.int .i64, Sh.int .i64, Sh.snap (0 : Nat) (Ty.pair (Ty.int .i64) (Ty.int .i64))], OSh.row true (3 : Nat) (Ty.int .i64)] [((1 : Nat), TSh.at (Sh.ptr (1 : Nat) (0 : Nat))), ((3 : Nat), TSh.at (Sh.sl (2 : Nat))), ((5 : Nat), TSh.at (Sh.int .i64)), ((26 : Nat), TSh.at (Sh.snap (0 : Nat) (Ty.pair (Ty.int .i64) (Ty.int .i64)))), ((27 : Nat), TSh.at (Sh.int .i64)), ((28 : Nat), TSh.at (Sh.int .i64))]
noncomputable def Z4R : LoopDef (Tup Z3j × OutD) := .plain Zcu ZsP (Int × Int × List (Int × Int) × List Int × Int × List (Int × Int) × Int × Int) (fun k x => Z4b k x.1.2.1.1 x.1.2.1.2.1 x.1.2.1.2.2.1 x.1.2.2.1 x.1.2.2.2.1 x.2.2.2.1 x.2.2.2.2.2.1 x.2.2.2.2.2.2.1 x.2.2.2.2.2.2.2.1 x.2.2.2.2.2.2.2.2.1) (fun z => (((), (z.1, z.2.1, z.2.2.1, ()), z.2.2.2.1, ()), ((), (), z.2.2.2.2.1, z.2.2.2.2.2.1, z.2.2.2.2.2.2.1, z.2.2.2.2.2.2.2, ()))) (fun y => (y.1.2.1.1, y.1.2.1.2.1, y.1.2.1.2.2.1, y.1.2.2.1, y.2.2.2.1, y.2.2.2.2.1, y.2.2.2.2.2.1, y.2.2.2.2.2.2.1)) (fun _ => rfl)
noncomputable def Z2d : Nat → Int → Int → List (Int × Int) → List Int → Int → List (Int × Int) → Int → Int → Option (List Int)
 | 0, _, _, _, _, _, _, _, _ => none
 | k + 1, b1_0, b1_1, b1_2, o2, v5, v26, v27, v28 =>
  if decide (v28 < v27) = true then if (0 : Int) ≤ v28 then if v28 < (↑(List.length v26) : Int) then Option.bind (Zbx k (Prod.fst (List.getD v26 (Int.toNat v28) ((0 : Int), (0 : Int))), Prod.snd (List.getD v26 (Int.toNat v28) ((0 : Int), (0 : Int))))) fun z1 => if (!z1) = true then Z2d k b1_0 b1_1 b1_2 o2 v5 v26 v27 (wrap64 (v28 + (1 : Int))) else if (0 : Int) ≤ v28 then if v28 < (↑(List.length o2) : Int) then if decide (List.getD o2 (Int.toNat v28) (0 : Int) ≥ (0 : Int)) = true then Z2d k b1_0 b1_1 b1_2 o2 v5 v26 v27 (wrap64 (v28 + (1 : Int))) else if (0 : Int) ≤ v28 then if v28 < (↑(List.length o2) : Int) then Option.bind (Z4b k b1_0 b1_1 b1_2 (List.set o2 (Int.toNat v28) v5) [v28] v5 (0 : Int) v26 v27 v28) fun z5 => Z2d k z5.1 z5.2.1 z5.2.2.1 z5.2.2.2.1 (wrap64 (Prod.fst z5.2.2.2.2 + (1 : Int))) z5.2.2.2.2.2.1 z5.2.2.2.2.2.2.1 (wrap64 (Prod.snd z5.2.2.2.2.2.2 + (1 : Int))) else none else none else none else none else none else none else some o2
noncomputable def Zcy : Spec := Spec.mk [OSh.ro, OSh.box (53 : Nat) [Sh.int .i64, Sh.int .i64, Sh.snap (0 : Nat) (Ty.pair (Ty.int .i64) (Ty.int .i64))], OSh.row true (3 : Nat) (Ty.int .i64)] [((1 : Nat), TSh.at (Sh.ptr (1 : Nat) (0 : Nat))), ((3 : Nat), TSh.at (Sh.sl (2 : Nat))), ((5 : Nat), TSh.at (Sh.int .i64)), ((26 : Nat), TSh.at (Sh.snap (0 : Nat) (Ty.pair (Ty.int .i64) (Ty.int .i64)))), ((27 : Nat), TSh.at (Sh.int .i64)), ((28 : Nat), TSh.at (Sh.int .i64))]
noncomputable def Zsy : Spec := Spec.mk [OSh.ro, OSh.row true (3 : Nat) (Ty.int .i64)] [((3 : Nat), TSh.at (Sh.sl (1 : Nat)))]
noncomputable def Z4Y : LoopDef (Tup Z3j × OutD) := .plain Zcy Zsy (List Int) (fun k x => Z2d k x.1.2.1.1 x.1.2.1.2.1 x.1.2.1.2.2.1 x.1.2.2.1 x.2.2.2.1 x.2.2.2.2.1 x.2.2.2.2.2.1 x.2.2.2.2.2.2.1) (fun z => (((), z, ()), ((), ()))) (fun y => (y.1.2.1)) (fun _ => rfl)
noncomputable def Z1Z : Nat → Int × Int × List (Int × Int) → Option (List Int)
 | 0, _ => none
 | k + 1, p0 =>
  if Int.toNat (↑(List.length p0.2.2) : Int) * (8 : Nat) ≤ (281474976710656 : Nat) then Option.bind (Z5x k p0.1 p0.2.1 p0.2.2 (List.replicate (Int.toNat (↑(List.length p0.2.2) : Int)) (0 : Int)) (↑(List.length (List.replicate (Int.toNat (↑(List.length p0.2.2) : Int)) (0 : Int))) : Int) (0 : Int)) fun z0 => Option.bind (Z2d k z0.1 z0.2.1 z0.2.2.1 z0.2.2.2 (0 : Int) z0.2.2.1 (↑(List.length z0.2.2.1) : Int) (0 : Int)) fun z6 => some z6 else none
noncomputable def Z3g : FnDef := .of Zlb Z3j (List Int) (fun k x => Z1Z k x.1) Zk7 Zju Zrj
noncomputable def Z58 : Code := Try.f185.body.getD .skip
noncomputable def ZO : Ctx (Tup Z3j × OutD) := { T := T, G := [(208, Z5I.E), (209, Z5K.E)], mvs := [], no := 0, n := 92, res := resOf T Zlb Z3j Try.f185.results.toList, loops := [(0, Z4K.E), (6, Z4X.E), (4, Z4R.E), (2, Z4Y.E)], regs := [], conds := [] }
theorem Z9m (k : Nat) : EnvOK Try.prog k ZO.G := (EnvOK.cons (ZAE k) (EnvOK.cons (ZzM k) (EnvOK.nil mixed)))
noncomputable def Z9u : Code := (findLoop 0 Z58).getD .skip
theorem Zso (k : Nat) (x : ZcH.D) : Z4K.lp (k + 1) x = loopK ZO Z4K 0 Z9u k x := by kernel_rfl
theorem Zry (k : Nat) : LOK Try.prog ZO k Z9u := LOK.by [] (by kernel_rfl) AllOK.nil
theorem Ztt (x : ZcH.D) : Z4K.lp 0 x = none := by kernel_rfl
theorem Zqu (k : Nat) : EOK Try.prog ZO k Z4K.E (.block 0 (.loop Z9u)) := Zp T_ok Z9m Ztt Zso Zry k
noncomputable def Z9F : Code := (findLoop 6 Z58).getD .skip
theorem ZrT (k : Nat) (x : Zcl.D) : Z4X.lp (k + 1) x = loopK ZO Z4X 6 Z9F k x := by kernel_rfl
theorem Zrw (k : Nat) : LOK Try.prog ZO k Z9F := LOK.by [] (by kernel_rfl) AllOK.nil
theorem ZsN (x : Zcl.D) : Z4X.lp 0 x = none := by kernel_rfl
theorem Zqz (k : Nat) : EOK Try.prog ZO k Z4X.E (.block 6 (.loop Z9F)) := Zp T_ok Z9m ZsN ZrT Zrw k
noncomputable def Z9j : Code := (findLoop 4 Z58).getD .skip
theorem Zto (k : Nat) (x : Zcu.D) : Z4R.lp (k + 1) x = loopK ZO Z4R 4 Z9j k x := by kernel_rfl
theorem Zss (k : Nat) : LOK Try.prog ZO k Z9j := LOK.by [(Z4X.E, .block 6 (.loop Z9F))] (by kernel_rfl) (AllOK.cons (Zqz k) AllOK.nil)
theorem ZsA (x : Zcu.D) : Z4R.lp 0 x = none := by kernel_rfl
theorem Zqc (k : Nat) : EOK Try.prog ZO k Z4R.E (.block 4 (.loop Z9j)) := Zp T_ok Z9m ZsA Zto Zss k
noncomputable def Z9t : Code := (findLoop 2 Z58).getD .skip
theorem Zsg (k : Nat) (x : Zcy.D) : Z4Y.lp (k + 1) x = loopK ZO Z4Y 2 Z9t k x := by kernel_rfl
theorem Zrr (k : Nat) : LOK Try.prog ZO k Z9t := LOK.by [(Z4R.E, .block 4 (.loop Z9j))] (by kernel_rfl) (AllOK.cons (Zqc k) AllOK.nil)
theorem Zrz (x : Zcy.D) : Z4Y.lp 0 x = none := by kernel_rfl
theorem Zr0 (k : Nat) : EOK Try.prog ZO k Z4Y.E (.block 2 (.loop Z9t)) := Zp T_ok Z9m Zrz Zsg Zrr k
theorem Zxw (k : Nat) (x : Tup Z3g.ps) : Z3g.f (k + 1) x = fnK Z3g ZO Z58 k x := by kernel_rfl
theorem Zy0 (x : Tup Z3g.ps) : Z3g.f 0 x = none := by kernel_rfl
theorem Zy8 (k : Nat) : LOK Try.prog ZO k Z58 := LOK.by [(Z4K.E, .block 0 (.loop Z9u)), (Z4Y.E, .block 2 (.loop Z9t))] (by kernel_rfl) (AllOK.cons (Zqu k) (AllOK.cons (Zr0 k) AllOK.nil))
theorem Zl8 (k : Nat) : SoundAt Try.prog k 185 Z3g.E := @Ze Try.prog Z3g ZO 185 Try.f185 Z58 (by kernel_rfl) (by kernel_rfl) (by kernel_rfl) Try.func185 (by kernel_rfl) (by kernel_rfl) (by kernel_rfl) T_ok Z9m Zy8 Zy0 Zxw k
noncomputable def Zbo : List PK := [PK.mk (Ty.int .i64) false none false none, PK.mk Ty.bool false none false none]
noncomputable def Zpv : List PK := [PK.mk (Ty.pair (Ty.int .i64) (Ty.int .i64)) true none false none, PK.mk (Ty.int .i64) false none false none]
noncomputable def ZmO (r : Int × Bool) : Tup Zbo × OutD := ((r.1, r.2, ()), none)
noncomputable def Zmx : Tup Zbo × OutD → Option (Int × Bool)
 | (a, none) => some (a.1, a.2.1)
 | _ => none
theorem ZuN : ∀ b r, Zmx b = some r → ZmO r = b := by
 rintro ⟨a, o⟩ r h
 cases o with
 | none => injection h with h; subst h; rfl
 | some _ => cases h
noncomputable def Zby : Nat → Int × Int → Int → Option (Int × Bool)
 | 0, _, _ => none
 | k + 1, p0, p1 =>
  Option.bind (Z9g k (Prod.fst p0, Prod.snd p0)) fun z0 => if (!z0) = true then some ((0 : Int), false) else if decide (p1 < (-1 : Int)) = true then some ((0 : Int), false) else if decide (p1 > (1 : Int)) = true then some ((0 : Int), false) else if decide (Prod.fst p0 = (5 : Int)) = true then some ((0 : Int), false) else if decide (Prod.fst p0 = (1 : Int)) = true then some ((-1 : Int), true) else if decide (Prod.fst p0 = (2 : Int)) = true then some ((1 : Int), true) else if decide (Prod.fst p0 = (3 : Int)) = true then some (wrap64 (wrap64 ((2 : Int) * Prod.snd p0) - (1 : Int)), true) else if decide (Prod.fst p0 = (6 : Int)) = true then some (wrap64 (wrap64 ((2 : Int) * Prod.snd p0) - (1 : Int)), true) else if decide (Prod.fst p0 = (4 : Int)) = true then some (wrap64 ((0 : Int) - p1), true) else some ((0 : Int), true)
noncomputable def Z4v : FnDef := .of Zpv Zbo (Int × Bool) (fun k x => Zby k x.1 x.2.1) ZmO Zmx ZuN
noncomputable def ZhT : Code := Try.f187.body.getD .skip
noncomputable def ZdQ : Ctx (Tup Zbo × OutD) := { T := T, G := [(213, Z3J.E)], mvs := [], no := 0, n := 39, res := resOf T Zpv Zbo Try.f187.results.toList, loops := [], regs := [], conds := [] }
theorem ZzX (k : Nat) : EnvOK Try.prog k ZdQ.G := (EnvOK.cons (ZhM k) (EnvOK.nil mixed))
theorem ZAd (k : Nat) (x : Tup Z4v.ps) : Z4v.f (k + 1) x = fnK Z4v ZdQ ZhT k x := by kernel_rfl
theorem ZAg (x : Tup Z4v.ps) : Z4v.f 0 x = none := by kernel_rfl
theorem ZA4 (k : Nat) : LOK Try.prog ZdQ k ZhT := LOK.by [] (by kernel_rfl) AllOK.nil
theorem ZpI (k : Nat) : SoundAt Try.prog k 187 Z4v.E := @Ze Try.prog Z4v ZdQ 187 Try.f187 ZhT (by kernel_rfl) (by kernel_rfl) (by kernel_rfl) Try.func187 (by kernel_rfl) (by kernel_rfl) (by kernel_rfl) T_ok ZzX ZA4 ZAg ZAd k
noncomputable def Z8w : List PK := [PK.mk Ty.bool false none false none]
noncomputable def Zk4 : List PK := [PK.mk (Ty.pair (Ty.int .i64) (Ty.int .i64)) true none false none]
noncomputable def Zig (r : Bool) : Tup Z8w × OutD := ((r, ()), none)
noncomputable def Zij : Tup Z8w × OutD → Option (Bool)
 | (a, none) => some (a.1)
 | _ => none
theorem Zox : ∀ b r, Zij b = some r → Zig r = b := by
 rintro ⟨a, o⟩ r h
 cases o with
 | none => injection h with h; subst h; rfl
 | some _ => cases h
noncomputable def Z2J : Nat → Int × Int → Option Bool
 | 0, _ => none
 | k + 1, p0 =>
  Option.bind (Z9g k (Prod.fst p0, Prod.snd p0)) fun z0 => if z0 = true then if decide (Prod.fst p0 = (3 : Int)) = true then some true else some (decide (Prod.fst p0 = (6 : Int))) else some false
noncomputable def Z2D : FnDef := .of Zk4 Z8w (Bool) (fun k x => Z2J k x.1) Zig Zij Zox
noncomputable def Ze8 : Code := Try.f188.body.getD .skip
noncomputable def ZaT : Ctx (Tup Z8w × OutD) := { T := T, G := [(213, Z3J.E)], mvs := [], no := 0, n := 15, res := resOf T Zk4 Z8w Try.f188.results.toList, loops := [], regs := [], conds := [] }
theorem Zx9 (k : Nat) : EnvOK Try.prog k ZaT.G := (EnvOK.cons (ZhM k) (EnvOK.nil mixed))
theorem Zx0 (k : Nat) (x : Tup Z2D.ps) : Z2D.f (k + 1) x = fnK Z2D ZaT Ze8 k x := by kernel_rfl
theorem Zxd (x : Tup Z2D.ps) : Z2D.f 0 x = none := by kernel_rfl
theorem Zwi (k : Nat) : LOK Try.prog ZaT k Ze8 := LOK.by [] (by kernel_rfl) AllOK.nil
theorem ZjV (k : Nat) : SoundAt Try.prog k 188 Z2D.E := @Ze Try.prog Z2D ZaT 188 Try.f188 Ze8 (by kernel_rfl) (by kernel_rfl) (by kernel_rfl) Try.func188 (by kernel_rfl) (by kernel_rfl) (by kernel_rfl) T_ok Zx9 Zwi Zxd Zx0 k
noncomputable def Z5t : List PK := [PK.mk Ty.bool false none false none]
noncomputable def Zi3 : List PK := [PK.mk (Ty.slice (79 : Nat) (Ty.pair (Ty.int .i64) (Ty.int .i64))) false none false none]
noncomputable def Zcs (r : Bool) : Tup Z5t × OutD := ((r, ()), none)
noncomputable def Zck : Tup Z5t × OutD → Option (Bool)
 | (a, none) => some (a.1)
 | _ => none
theorem ZeH : ∀ b r, Zck b = some r → Zcs r = b := by
 rintro ⟨a, o⟩ r h
 cases o with
 | none => injection h with h; subst h; rfl
 | some _ => cases h
noncomputable def Z4h : Nat → List (Int × Int) → Int → Int → Option (LR Unit Bool)
 | 0, _, _, _ => none
 | k + 1, v8, v9, v10 =>
  if decide (v10 < v9) = true then if (0 : Int) ≤ v10 then if v10 < (↑(List.length v8) : Int) then Option.bind (Z9g k (Prod.fst (List.getD v8 (Int.toNat v10) ((0 : Int), (0 : Int))), Prod.snd (List.getD v8 (Int.toNat v10) ((0 : Int), (0 : Int))))) fun z0 => if (!z0) = true then some (LR.ret false) else Z4h k v8 v9 (wrap64 (v10 + (1 : Int))) else none else none else some (LR.go ())
noncomputable def Zbk : Spec := Spec.mk [OSh.ro] [((8 : Nat), TSh.at (Sh.snap (0 : Nat) (Ty.pair (Ty.int .i64) (Ty.int .i64)))), ((9 : Nat), TSh.at (Sh.int .i64)), ((10 : Nat), TSh.at (Sh.int .i64))]
noncomputable def Zoc : Spec := Spec.mk [OSh.ro] []
noncomputable def Z3W : LoopDef (Tup Z5t × OutD) := .rets Zbk Zoc (Unit) (Bool) (fun k x => Z4h k x.2.1 x.2.2.1 x.2.2.2.1) (fun z => (((), ()), (()))) (fun y => ()) (fun _ => rfl) Zcs Zck ZeH
noncomputable def Za4 : Nat → List (Int × Int) → Option Bool
 | 0, _ => none
 | k + 1, p0 =>
  if decide ((↑(List.length p0) : Int) > (90 : Int)) = true then some false else Option.bind (Z4h k p0 (↑(List.length p0) : Int) (0 : Int)) fun z1 => LR.on z1 (fun y1 => some true) fun r1 => some r1
noncomputable def Z30 : FnDef := .of Zi3 Z5t (Bool) (fun k x => Za4 k x.1) Zcs Zck ZeH
noncomputable def Z9Z : Code := Try.f192.body.getD .skip
noncomputable def Z46 : Ctx (Tup Z5t × OutD) := { T := T, G := [(213, Z3J.E)], mvs := [], no := 0, n := 18, res := resOf T Zi3 Z5t Try.f192.results.toList, loops := [(0, Z3W.E)], regs := [], conds := [] }
theorem Zir (k : Nat) : EnvOK Try.prog k Z46.G := (EnvOK.cons (ZhM k) (EnvOK.nil mixed))
noncomputable def Z7Z : Code := (findLoop 0 Z9Z).getD .skip
theorem Zos (k : Nat) (x : Zbk.D) : Z3W.lp (k + 1) x = loopK Z46 Z3W 0 Z7Z k x := by kernel_rfl
theorem ZoU (k : Nat) : LOK Try.prog Z46 k Z7Z := LOK.by [] (by kernel_rfl) AllOK.nil
theorem Zon (x : Zbk.D) : Z3W.lp 0 x = none := by kernel_rfl
theorem Znp (k : Nat) : EOK Try.prog Z46 k Z3W.E (.block 0 (.loop Z7Z)) := Zp T_ok Zir Zon Zos ZoU k
theorem Zur (k : Nat) (x : Tup Z30.ps) : Z30.f (k + 1) x = fnK Z30 Z46 Z9Z k x := by kernel_rfl
theorem ZtU (x : Tup Z30.ps) : Z30.f 0 x = none := by kernel_rfl
theorem ZuR (k : Nat) : LOK Try.prog Z46 k Z9Z := LOK.by [(Z3W.E, .block 0 (.loop Z7Z))] (by kernel_rfl) (AllOK.cons (Znp k) AllOK.nil)
theorem ZuY (k : Nat) : SoundAt Try.prog k 192 Z30.E := @Ze Try.prog Z30 Z46 192 Try.f192 Z9Z (by kernel_rfl) (by kernel_rfl) (by kernel_rfl) Try.func192 (by kernel_rfl) (by kernel_rfl) (by kernel_rfl) T_ok Zir ZuR ZtU Zur k
noncomputable def Zbp : List PK := [PK.mk Ty.bool false none false none]
noncomputable def Zpx : List PK := [PK.mk (Ty.pair (Ty.int .i64) (Ty.int .i64)) true none false none]
noncomputable def Zmp (r : Bool) : Tup Zbp × OutD := ((r, ()), none)
noncomputable def Zn7 : Tup Zbp × OutD → Option (Bool)
 | (a, none) => some (a.1)
 | _ => none
theorem Zux : ∀ b r, Zn7 b = some r → Zmp r = b := by
 rintro ⟨a, o⟩ r h
 cases o with
 | none => injection h with h; subst h; rfl
 | some _ => cases h
noncomputable def ZdX : Nat → Int × Int → Option Bool
 | 0, _ => none
 | k + 1, p0 =>
  Option.bind (Z21 k p0.1 (0 : Int) (7 : Int)) fun z0 => if z0 = true then if decide (Prod.snd p0 = (0 : Int)) = true then some true else if decide (Prod.snd p0 = (1 : Int)) = true then Option.bind (Z4B k (Prod.fst p0, Prod.snd p0)) fun z1 => some z1 else some false else some false
noncomputable def Z5C : FnDef := .of Zpx Zbp (Bool) (fun k x => ZdX k x.1) Zmp Zn7 Zux
noncomputable def ZhO : Code := Try.f193.body.getD .skip
noncomputable def Ze3 : Ctx (Tup Zbp × OutD) := { T := T, G := [(96, Z2t.E), (207, Z23.E)], mvs := [], no := 0, n := 20, res := resOf T Zpx Zbp Try.f193.results.toList, loops := [], regs := [], conds := [] }
theorem ZzH (k : Nat) : EnvOK Try.prog k Ze3.G := (EnvOK.cons (Z9T k) (EnvOK.cons (Ze5 k) (EnvOK.nil mixed)))
theorem ZAf (k : Nat) (x : Tup Z5C.ps) : Z5C.f (k + 1) x = fnK Z5C Ze3 ZhO k x := by kernel_rfl
theorem ZA1 (x : Tup Z5C.ps) : Z5C.f 0 x = none := by kernel_rfl
theorem ZAm (k : Nat) : LOK Try.prog Ze3 k ZhO := LOK.by [] (by kernel_rfl) AllOK.nil
theorem ZAB (k : Nat) : SoundAt Try.prog k 193 Z5C.E := @Ze Try.prog Z5C Ze3 193 Try.f193 ZhO (by kernel_rfl) (by kernel_rfl) (by kernel_rfl) Try.func193 (by kernel_rfl) (by kernel_rfl) (by kernel_rfl) T_ok ZzH ZAm ZA1 ZAf k
noncomputable def Z9f : List PK := []
noncomputable def ZpA : List PK := [PK.mk (Ty.pair (Ty.int .i64) (Ty.pair (Ty.int .i64) (Ty.slice (79 : Nat) (Ty.pair (Ty.int .i64) (Ty.int .i64))))) true (some ((2 : Nat), (79 : Nat), Ty.pair (Ty.int .i64) (Ty.int .i64))) false none, PK.mk (Ty.slice (3 : Nat) (Ty.int .i64)) false none false none, PK.mk (Ty.int .i64) false none false none]
noncomputable def Zmr (r : List (Int × Int)) : Tup Z9f × OutD := ((()), some ⟨Ty.pair (Ty.int .i64) (Ty.int .i64), r⟩)
noncomputable def ZgC : Tup Z9f × OutD → Option (List (Int × Int))
 | (a, some ⟨u, ys⟩) => if h : u = Ty.pair (Ty.int .i64) (Ty.int .i64) then some (castU h ys) else none
 | _ => none
theorem ZuM : ∀ b r, ZgC b = some r → Zmr r = b := by
 rintro ⟨a, o⟩ r h
 cases o with
 | none => cases h
 | some s =>
  obtain ⟨u, ys⟩ := s
  simp only [ZgC] at h
  split at h
  ·rename_i hu; subst hu; injection h with h; subst h; rfl
  ·cases h
noncomputable def Z3f : Nat → List (Int × Int) → Int → Int → List Int → Int → Int → Int → Option (List (Int × Int))
 | 0, _, _, _, _, _, _, _ => none
 | k + 1, o1, b2_0, b2_1, v1, v2, v28, v29 =>
  if decide (v29 < v28) = true then if (0 : Int) ≤ v29 then if v29 < (↑(List.length o1) : Int) then if decide (Prod.fst (List.getD o1 (Int.toNat v29) ((0 : Int), (0 : Int))) = (6 : Int)) = true then if (0 : Int) ≤ v29 then if v29 < (↑(List.length v1) : Int) then if (0 : Int) ≤ v2 then if v2 < (↑(List.length v1) : Int) then if decide (List.getD v1 (Int.toNat v29) (0 : Int) = List.getD v1 (Int.toNat v2) (0 : Int)) = true then Option.bind (Zbr k (Prod.fst (List.getD o1 (Int.toNat v29) ((0 : Int), (0 : Int))), Prod.snd (List.getD o1 (Int.toNat v29) ((0 : Int), (0 : Int))))) fun z1 => if (0 : Int) ≤ v29 then if v29 < (↑(List.length o1) : Int) then Z3f k (List.set o1 (Int.toNat v29) (Prod.fst z1, Prod.snd z1)) b2_0 b2_1 v1 v2 v28 (wrap64 (v29 + (1 : Int))) else none else none else Z3f k o1 b2_0 b2_1 v1 v2 v28 (wrap64 (v29 + (1 : Int))) else none else none else none else none else Z3f k o1 b2_0 b2_1 v1 v2 v28 (wrap64 (v29 + (1 : Int))) else none else none else some o1
noncomputable def Ze7 : Spec := Spec.mk [OSh.ro, OSh.row false (79 : Nat) (Ty.pair (Ty.int .i64) (Ty.int .i64)), OSh.box (53 : Nat) [Sh.int .i64, Sh.int .i64, Sh.sl (1 : Nat)]] [((1 : Nat), TSh.at (Sh.snap (0 : Nat) (Ty.int .i64))), ((2 : Nat), TSh.at (Sh.int .i64)), ((3 : Nat), TSh.at (Sh.ptr (2 : Nat) (0 : Nat))), ((27 : Nat), TSh.at (Sh.sl (1 : Nat))), ((28 : Nat), TSh.at (Sh.int .i64)), ((29 : Nat), TSh.at (Sh.int .i64))]
noncomputable def ZvI : Spec := Spec.mk [OSh.ro, OSh.row false (79 : Nat) (Ty.pair (Ty.int .i64) (Ty.int .i64))] []
noncomputable def Z6p : LoopDef (Tup Z9f × OutD) := .plain Ze7 ZvI (List (Int × Int)) (fun k x => Z3f k x.1.2.1 x.1.2.2.1.1 x.1.2.2.1.2.1 x.2.1 x.2.2.1 x.2.2.2.2.2.1 x.2.2.2.2.2.2.1) (fun z => (((), z, ()), (()))) (fun y => (y.1.2.1)) (fun _ => rfl)
noncomputable def Z9d : Nat → Int × Int × List (Int × Int) → List Int → Int → Option (List (Int × Int))
 | 0, _, _, _ => none
 | k + 1, p0, p1, p2 =>
  if (0 : Int) ≤ p2 then if p2 < (↑(List.length p0.2.2) : Int) then if decide (Prod.fst (List.getD p0.2.2 (Int.toNat p2) ((0 : Int), (0 : Int))) = (3 : Int)) = true then Option.bind (Zbr k (Prod.fst (List.getD p0.2.2 (Int.toNat p2) ((0 : Int), (0 : Int))), Prod.snd (List.getD p0.2.2 (Int.toNat p2) ((0 : Int), (0 : Int))))) fun z0 => if (0 : Int) ≤ p2 then if p2 < (↑(List.length p0.2.2) : Int) then some (List.set p0.2.2 (Int.toNat p2) (Prod.fst z0, Prod.snd z0)) else none else none else if decide (Prod.fst (List.getD p0.2.2 (Int.toNat p2) ((0 : Int), (0 : Int))) = (6 : Int)) = true then Option.bind (Z3f k p0.2.2 p0.1 p0.2.1 p1 p2 (↑(List.length p0.2.2) : Int) (0 : Int)) fun z2 => some z2 else some p0.2.2 else none else none
noncomputable def Z4x : FnDef := .of ZpA Z9f (List (Int × Int)) (fun k x => Z9d k x.1 x.2.1 x.2.2.1) Zmr ZgC ZuM
noncomputable def ZdY : Code := Try.f212.body.getD .skip
noncomputable def Z7w : Ctx (Tup Z9f × OutD) := { T := T, G := [(218, Z5B.E)], mvs := [], no := 1, n := 55, res := resOf T ZpA Z9f Try.f212.results.toList, loops := [(1, Z6p.E)], regs := [], conds := [] }
theorem ZpY (k : Nat) : EnvOK Try.prog k Z7w.G := (EnvOK.cons (ZAn k) (EnvOK.nil mixed))
noncomputable def Zbg : Code := (findLoop 1 ZdY).getD .skip
theorem Zx2 (k : Nat) (x : Ze7.D) : Z6p.lp (k + 1) x = loopK Z7w Z6p 1 Zbg k x := by kernel_rfl
theorem Zw9 (k : Nat) : LOK Try.prog Z7w k Zbg := LOK.by [] (by kernel_rfl) AllOK.nil
theorem Zwz (x : Ze7.D) : Z6p.lp 0 x = none := by kernel_rfl
theorem ZtL (k : Nat) : EOK Try.prog Z7w k Z6p.E (.block 1 (.loop Zbg)) := Zp T_ok ZpY Zwz Zx2 Zw9 k
theorem ZAh (k : Nat) (x : Tup Z4x.ps) : Z4x.f (k + 1) x = fnK Z4x Z7w ZdY k x := by kernel_rfl
theorem ZA6 (x : Tup Z4x.ps) : Z4x.f 0 x = none := by kernel_rfl
theorem ZA7 (k : Nat) : LOK Try.prog Z7w k ZdY := LOK.by [(Z6p.E, .block 1 (.loop Zbg))] (by kernel_rfl) (AllOK.cons (ZtL k) AllOK.nil)
theorem Zpk (k : Nat) : SoundAt Try.prog k 212 Z4x.E := @Ze Try.prog Z4x Z7w 212 Try.f212 ZdY (by kernel_rfl) (by kernel_rfl) (by kernel_rfl) Try.func212 (by kernel_rfl) (by kernel_rfl) (by kernel_rfl) T_ok ZpY ZA7 ZA6 ZAh k
noncomputable def Zap : List PK := [PK.mk (Ty.slice (79 : Nat) (Ty.pair (Ty.int .i64) (Ty.int .i64))) false none false none]
noncomputable def ZrG : List PK := []
noncomputable def ZpB (r : List (Int × Int)) : Tup Zap × OutD := ((r, ()), none)
noncomputable def Zpg : Tup Zap × OutD → Option (List (Int × Int))
 | (a, none) => some (a.1)
 | _ => none
theorem Zw8 : ∀ b r, Zpg b = some r → ZpB r = b := by
 rintro ⟨a, o⟩ r h
 cases o with
 | none => injection h with h; subst h; rfl
 | some _ => cases h
noncomputable def Z4U : Nat → List (Int × Int) → Int → Option (List (Int × Int))
 | 0, _, _ => none
 | k + 1, o1, v2 =>
  if decide (v2 ≤ (7 : Int)) = true then if List.length o1 + List.length [(v2, (0 : Int))] ≤ (140737488355328 / 16 : Nat) then Option.bind (Z4B k (v2, (1 : Int))) fun z0 => if z0 = true then if List.length (o1 ++ [(v2, (0 : Int))]) + List.length [(v2, (1 : Int))] ≤ (140737488355328 / 16 : Nat) then Z4U k (o1 ++ [(v2, (0 : Int))] ++ [(v2, (1 : Int))]) (wrap64 (v2 + (1 : Int))) else none else Z4U k (o1 ++ [(v2, (0 : Int))]) (wrap64 (v2 + (1 : Int))) else none else some o1
noncomputable def Zfh : Spec := Spec.mk [OSh.ro, OSh.row true (79 : Nat) (Ty.pair (Ty.int .i64) (Ty.int .i64))] [((1 : Nat), TSh.at (Sh.sl (1 : Nat))), ((2 : Nat), TSh.at (Sh.int .i64))]
noncomputable def Zxf : Spec := Spec.mk [OSh.ro, OSh.row true (79 : Nat) (Ty.pair (Ty.int .i64) (Ty.int .i64))] [((1 : Nat), TSh.at (Sh.sl (1 : Nat)))]
noncomputable def Z7b : LoopDef (Tup Zap × OutD) := .plain Zfh Zxf (List (Int × Int)) (fun k x => Z4U k x.1.2.1 x.2.2.1) (fun z => (((), z, ()), ((), ()))) (fun y => (y.1.2.1)) (fun _ => rfl)
noncomputable def Zfy : Nat → Option (List (Int × Int))
 | 0 => none
 | k + 1 =>
  Option.bind (Z4U k [] (0 : Int)) fun z1 => some z1
noncomputable def Z6S : FnDef := .of ZrG Zap (List (Int × Int)) (fun k x => Zfy k) ZpB Zpg Zw8
noncomputable def ZeI : Code := Try.f216.body.getD .skip
noncomputable def Z8B : Ctx (Tup Zap × OutD) := { T := T, G := [(207, Z23.E)], mvs := [], no := 0, n := 22, res := resOf T ZrG Zap Try.f216.results.toList, loops := [(0, Z7b.E)], regs := [], conds := [] }
theorem Zrm (k : Nat) : EnvOK Try.prog k Z8B.G := (EnvOK.cons (Ze5 k) (EnvOK.nil mixed))
noncomputable def Zc5 : Code := (findLoop 0 ZeI).getD .skip
theorem ZxR (k : Nat) (x : Zfh.D) : Z7b.lp (k + 1) x = loopK Z8B Z7b 0 Zc5 k x := by kernel_rfl
theorem Zyy (k : Nat) : LOK Try.prog Z8B k Zc5 := LOK.by [] (by kernel_rfl) AllOK.nil
theorem Zxp (x : Zfh.D) : Z7b.lp 0 x = none := by kernel_rfl
theorem ZwV (k : Nat) : EOK Try.prog Z8B k Z7b.E (.block 0 (.loop Zc5)) := Zp T_ok Zrm Zxp ZxR Zyy k
theorem ZAQ (k : Nat) (x : Tup Z6S.ps) : Z6S.f (k + 1) x = fnK Z6S Z8B ZeI k x := by kernel_rfl
theorem ZBb (x : Tup Z6S.ps) : Z6S.f 0 x = none := by kernel_rfl
theorem ZBg (k : Nat) : LOK Try.prog Z8B k ZeI := LOK.by [(Z7b.E, .block 0 (.loop Zc5))] (by kernel_rfl) (AllOK.cons (ZwV k) AllOK.nil)
theorem ZBF (k : Nat) : SoundAt Try.prog k 216 Z6S.E := @Ze Try.prog Z6S Z8B 216 Try.f216 ZeI (by kernel_rfl) (by kernel_rfl) (by kernel_rfl) Try.func216 (by kernel_rfl) (by kernel_rfl) (by kernel_rfl) T_ok Zrm ZBg ZBb ZAQ k
end
end Go.Proofs.Ytgjmhbjdhihgaaa.Vs
