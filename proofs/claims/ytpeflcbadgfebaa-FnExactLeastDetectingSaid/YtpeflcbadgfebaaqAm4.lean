/- The proof, part 5. -/
import Derived.Test.YtpeflcbadgfebaaqAm3
set_option maxRecDepth 100000
set_option maxHeartbeats 2000000
set_option linter.unusedVariables false
set_option linter.unusedSimpArgs false
namespace Go.Proofs.Ytpeflcbadgfebaa.Vs
open Go.RowKit
noncomputable section
noncomputable def Z7I : List PK := [PK.mk Ty.bool false none false none]
noncomputable def Zod : List PK := [PK.mk (Ty.slice (3 : Nat) (Ty.int .i64)) false none false none, PK.mk (Ty.slice (3 : Nat) (Ty.int .i64)) false none false none]
noncomputable def ZeN (r : Bool) : Tup Z7I × OutD := ((r, ()), none)
noncomputable def Zf0 : Tup Z7I × OutD → Option (Bool)
 | (a, none) => some (a.1)
 | _ => none
theorem Zga : ∀ b r, Zf0 b = some r → ZeN r = b := by
 rintro ⟨a, o⟩ r h
 cases o with
 | none => injection h with h; subst h; rfl
 | some _ => cases h
noncomputable def Z5W : Nat → List Int → List Int → Int → Option (LR Unit Bool)
 | 0, _, _, _ => none
 | k + 1, v0, v1, v5 =>
  if decide (v5 < (↑(List.length v0) : Int)) = true then if (0 : Int) ≤ v5 then if v5 < (↑(List.length v0) : Int) then if (0 : Int) ≤ v5 then if v5 < (↑(List.length v1) : Int) then if decide (List.getD v0 (Int.toNat v5) (0 : Int) ≠ List.getD v1 (Int.toNat v5) (0 : Int)) = true then some (LR.ret false) else Z5W k v0 v1 (wrap64 (v5 + (1 : Int))) else none else none else none else none else some (LR.go ())
noncomputable def ZcP : Spec := Spec.mk [OSh.ro] [((0 : Nat), TSh.at (Sh.snap (0 : Nat) (Ty.int .i64))), ((1 : Nat), TSh.at (Sh.snap (0 : Nat) (Ty.int .i64))), ((5 : Nat), TSh.at (Sh.int .i64))]
noncomputable def ZtF : Spec := Spec.mk [OSh.ro] []
noncomputable def Z4W : LoopDef (Tup Z7I × OutD) := .rets ZcP ZtF (Unit) (Bool) (fun k x => Z5W k x.2.1 x.2.2.1 x.2.2.2.1) (fun z => (((), ()), (()))) (fun y => ()) (fun _ => rfl) ZeN Zf0 Zga
noncomputable def Z2g : Nat → List Int → List Int → Option Bool
 | 0, _, _ => none
 | k + 1, p0, p1 =>
  if decide ((↑(List.length p0) : Int) ≠ (↑(List.length p1) : Int)) = true then some false else Option.bind (Z5W k p0 p1 (0 : Int)) fun z0 => LR.on z0 (fun y0 => some true) fun r0 => some r0
noncomputable def Z2f : FnDef := .of Zod Z7I (Bool) (fun k x => Z2g k x.1 x.2.1) ZeN Zf0 Zga
noncomputable def Zck : Code := Try.f12.body.getD .skip
noncomputable def Z6l : Ctx (Tup Z7I × OutD) := { T := T, G := [], mvs := [], no := 0, n := 26, res := resOf T Zod Z7I Try.f12.results.toList, loops := [(0, Z4W.E)], regs := [], conds := [], cuts := [] }
theorem Zo0 (k : Nat) : EnvOK Try.prog k Z6l.G := (EnvOK.nil mixed)
noncomputable def Z9g : Code := (findLoop 0 Zck).getD .skip
theorem Zv0 (k : Nat) (x : ZcP.D) : Z4W.lp (k + 1) x = loopK Z6l Z4W 0 Z9g k x := by kernel_rfl
theorem ZuB (k : Nat) : LOK Try.prog Z6l k Z9g := LOK.by [] (by kernel_rfl) AllOK.nil
theorem Zu4 (x : ZcP.D) : Z4W.lp 0 x = none := by kernel_rfl
theorem Zs3 (k : Nat) : EOK Try.prog Z6l k Z4W.E (.block 0 (.loop Z9g)) := Z2 T_ok Zo0 Zu4 Zv0 ZuB k
theorem Zzz (k : Nat) (x : Tup Z2f.ps) : Z2f.f (k + 1) x = fnK Z2f Z6l Zck k x := by kernel_rfl
theorem Zzl (x : Tup Z2f.ps) : Z2f.f 0 x = none := by kernel_rfl
theorem Zyr (k : Nat) : LOK Try.prog Z6l k Zck := LOK.by [(Z4W.E, .block 0 (.loop Z9g))] (by kernel_rfl) (AllOK.cons (Zs3 k) AllOK.nil)
theorem ZfU (k : Nat) : SoundAt Try.prog k 12 Z2f.E := @Z1 Try.prog Z2f Z6l 12 Try.f12 Zck (by kernel_rfl) (by kernel_rfl) (by kernel_rfl) Try.func12 (by kernel_rfl) (by kernel_rfl) (by kernel_rfl) T_ok Zo0 Zyr Zzl Zzz k
noncomputable def Z5Q : List PK := [PK.mk (Ty.int .i64) false none false none]
noncomputable def Zjd : List PK := [PK.mk (Ty.slice (3 : Nat) (Ty.int .i64)) false (some ((0 : Nat), (3 : Nat), Ty.int .i64)) false none, PK.mk (Ty.int .i64) false none false none]
noncomputable def Zhz (r : Int × List Int) : Tup Z5Q × OutD := ((r.1, ()), some ⟨Ty.int .i64, r.2⟩)
noncomputable def Zd1 : Tup Z5Q × OutD → Option (Int × List Int)
 | (a, some ⟨u, ys⟩) => if h : u = Ty.int .i64 then some (a.1, castU h ys) else none
 | _ => none
theorem Zpb : ∀ b r, Zd1 b = some r → Zhz r = b := by
 rintro ⟨a, o⟩ r h
 cases o with
 | none => cases h
 | some s =>
  obtain ⟨u, ys⟩ := s
  simp only [Zd1] at h
  split at h
  ·rename_i hu; subst hu; injection h with h; subst h; rfl
  ·cases h
noncomputable def Z4b : Nat → List Int → Int → Int → Option (List Int × Int)
 | 0, _, _, _ => none
 | k + 1, o1, v1, v5 =>
  if decide (v5 < (↑(List.length o1) : Int)) = true then if (0 : Int) ≤ v5 then if v5 < (↑(List.length o1) : Int) then Z4b k (List.set o1 (Int.toNat v5) v1) (wrap64 (v1 + (1 : Int))) (wrap64 (v5 + (1 : Int))) else none else none else some (o1, v1)
noncomputable def ZaH : Spec := Spec.mk [OSh.ro, OSh.row false (3 : Nat) (Ty.int .i64)] [((0 : Nat), TSh.at (Sh.sl (1 : Nat))), ((1 : Nat), TSh.at (Sh.int .i64)), ((5 : Nat), TSh.at (Sh.int .i64))]
noncomputable def ZqW : Spec := Spec.mk [OSh.ro, OSh.row false (3 : Nat) (Ty.int .i64)] [((1 : Nat), TSh.at (Sh.int .i64))]
noncomputable def Z3j : LoopDef (Tup Z5Q × OutD) := .plain ZaH ZqW (List Int × Int) (fun k x => Z4b k x.1.2.1 x.2.2.1 x.2.2.2.1) (fun z => (((), z.1, ()), (z.2, ()))) (fun y => (y.1.2.1, y.2.1)) (fun _ => rfl)
noncomputable def Z7Y : Nat → List Int → Int → Option (Int × List Int)
 | 0, _, _ => none
 | k + 1, p0, p1 =>
  Option.bind (Z4b k p0 p1 (0 : Int)) fun z0 => some (Prod.snd z0, Prod.fst z0)
noncomputable def ZM : FnDef := .of Zjd Z5Q (Int × List Int) (fun k x => Z7Y k x.1 x.2.1) Zhz Zd1 Zpb
noncomputable def Zas : Code := Try.f17.body.getD .skip
noncomputable def Z3P : Ctx (Tup Z5Q × OutD) := { T := T, G := [], mvs := [], no := 1, n := 19, res := resOf T Zjd Z5Q Try.f17.results.toList, loops := [(0, Z3j.E)], regs := [], conds := [], cuts := [] }
theorem Zjx (k : Nat) : EnvOK Try.prog k Z3P.G := (EnvOK.nil mixed)
noncomputable def Z7S : Code := (findLoop 0 Zas).getD .skip
theorem ZqP (k : Nat) (x : ZaH.D) : Z3j.lp (k + 1) x = loopK Z3P Z3j 0 Z7S k x := by kernel_rfl
theorem ZqM (k : Nat) : LOK Try.prog Z3P k Z7S := LOK.by [] (by kernel_rfl) AllOK.nil
theorem Zqw (x : ZaH.D) : Z3j.lp 0 x = none := by kernel_rfl
theorem Zpn (k : Nat) : EOK Try.prog Z3P k Z3j.E (.block 0 (.loop Z7S)) := Z2 T_ok Zjx Zqw ZqP ZqM k
theorem ZvH (k : Nat) (x : Tup ZM.ps) : ZM.f (k + 1) x = fnK ZM Z3P Zas k x := by kernel_rfl
theorem Zw5 (x : Tup ZM.ps) : ZM.f 0 x = none := by kernel_rfl
theorem ZvR (k : Nat) : LOK Try.prog Z3P k Zas := LOK.by [(Z3j.E, .block 0 (.loop Z7S))] (by kernel_rfl) (AllOK.cons (Zpn k) AllOK.nil)
theorem ZdY (k : Nat) : SoundAt Try.prog k 17 ZM.E := @Z1 Try.prog ZM Z3P 17 Try.f17 Zas (by kernel_rfl) (by kernel_rfl) (by kernel_rfl) Try.func17 (by kernel_rfl) (by kernel_rfl) (by kernel_rfl) T_ok Zjx ZvR Zw5 ZvH k
noncomputable def Z6c : List PK := [PK.mk (Ty.int .i64) false none false none]
noncomputable def ZiU : List PK := [PK.mk (Ty.slice (3 : Nat) (Ty.int .i64)) false none false none, PK.mk (Ty.int .i64) false none false none]
noncomputable def ZcL (r : Int) : Tup Z6c × OutD := ((r, ()), none)
noncomputable def Zd3 : Tup Z6c × OutD → Option (Int)
 | (a, none) => some (a.1)
 | _ => none
theorem Zeq : ∀ b r, Zd3 b = some r → ZcL r = b := by
 rintro ⟨a, o⟩ r h
 cases o with
 | none => injection h with h; subst h; rfl
 | some _ => cases h
noncomputable def Z4q : Nat → List Int → Int → Int → Option (LR Int Int)
 | 0, _, _, _ => none
 | k + 1, v0, v1, v5 =>
  if decide (v5 < (↑(List.length v0) : Int)) = true then if (0 : Int) ≤ v5 then if v5 < (↑(List.length v0) : Int) then if decide (List.getD v0 (Int.toNat v5) (0 : Int) ≠ v1) = true then some (LR.ret (-1 : Int)) else Z4q k v0 (wrap64 (v1 + (1 : Int))) (wrap64 (v5 + (1 : Int))) else none else none else some (LR.go v1)
noncomputable def ZaX : Spec := Spec.mk [OSh.ro] [((0 : Nat), TSh.at (Sh.snap (0 : Nat) (Ty.int .i64))), ((1 : Nat), TSh.at (Sh.int .i64)), ((5 : Nat), TSh.at (Sh.int .i64))]
noncomputable def Zqt : Spec := Spec.mk [OSh.ro] [((1 : Nat), TSh.at (Sh.int .i64))]
noncomputable def Z3B : LoopDef (Tup Z6c × OutD) := .rets ZaX Zqt (Int) (Int) (fun k x => Z4q k x.2.1 x.2.2.1 x.2.2.2.1) (fun z => (((), ()), (z, ()))) (fun y => (y.2.1)) (fun _ => rfl) ZcL Zd3 Zeq
noncomputable def Z60 : Nat → List Int → Int → Option Int
 | 0, _, _ => none
 | k + 1, p0, p1 =>
  Option.bind (Z4q k p0 p1 (0 : Int)) fun z0 => LR.on z0 (fun y0 => some y0) fun r0 => some r0
noncomputable def Z1Y : FnDef := .of ZiU Z6c (Int) (fun k x => Z60 k x.1 x.2.1) ZcL Zd3 Zeq
noncomputable def Zaq : Code := Try.f18.body.getD .skip
noncomputable def Z3Q : Ctx (Tup Z6c × OutD) := { T := T, G := [], mvs := [], no := 0, n := 21, res := resOf T ZiU Z6c Try.f18.results.toList, loops := [(0, Z3B.E)], regs := [], conds := [], cuts := [] }
theorem ZiL (k : Nat) : EnvOK Try.prog k Z3Q.G := (EnvOK.nil mixed)
noncomputable def Z7W : Code := (findLoop 0 Zaq).getD .skip
theorem ZpH (k : Nat) (x : ZaX.D) : Z3B.lp (k + 1) x = loopK Z3Q Z3B 0 Z7W k x := by kernel_rfl
theorem ZpU (k : Nat) : LOK Try.prog Z3Q k Z7W := LOK.by [] (by kernel_rfl) AllOK.nil
theorem Zrc (x : ZaX.D) : Z3B.lp 0 x = none := by kernel_rfl
theorem Zpm (k : Nat) : EOK Try.prog Z3Q k Z3B.E (.block 0 (.loop Z7W)) := Z2 T_ok ZiL Zrc ZpH ZpU k
theorem Zwa (k : Nat) (x : Tup Z1Y.ps) : Z1Y.f (k + 1) x = fnK Z1Y Z3Q Zaq k x := by kernel_rfl
theorem Zw0 (x : Tup Z1Y.ps) : Z1Y.f 0 x = none := by kernel_rfl
theorem Zvd (k : Nat) : LOK Try.prog Z3Q k Zaq := LOK.by [(Z3B.E, .block 0 (.loop Z7W))] (by kernel_rfl) (AllOK.cons (Zpm k) AllOK.nil)
theorem Zjk (k : Nat) : SoundAt Try.prog k 18 Z1Y.E := @Z1 Try.prog Z1Y Z3Q 18 Try.f18 Zaq (by kernel_rfl) (by kernel_rfl) (by kernel_rfl) Try.func18 (by kernel_rfl) (by kernel_rfl) (by kernel_rfl) T_ok ZiL Zvd Zw0 Zwa k
noncomputable def Z92 : List PK := [PK.mk (Ty.int .i64) false none false none]
noncomputable def Zm1 : List PK := [PK.mk (Ty.slice (75 : Nat) (Ty.pair (Ty.int .i64) (Ty.int .i64))) false none false none, PK.mk (Ty.int .i64) false none false none]
noncomputable def ZjB (r : Int) : Tup Z92 × OutD := ((r, ()), none)
noncomputable def Zj7 : Tup Z92 × OutD → Option (Int)
 | (a, none) => some (a.1)
 | _ => none
theorem Zqk : ∀ b r, Zj7 b = some r → ZjB r = b := by
 rintro ⟨a, o⟩ r h
 cases o with
 | none => injection h with h; subst h; rfl
 | some _ => cases h
noncomputable def Zb7 : Nat → List (Int × Int) → Int → Option Int
 | 0, _, _ => none
 | k + 1, p0, p1 =>
  if decide (wrap64 (p1 - (↑(List.length p0) : Int)) < (0 : Int)) = true then some (-1 : Int) else some (wrap64 (p1 - (↑(List.length p0) : Int)))
noncomputable def Z3s : FnDef := .of Zm1 Z92 (Int) (fun k x => Zb7 k x.1 x.2.1) ZjB Zj7 Zqk
noncomputable def ZeS : Code := Try.f30.body.getD .skip
noncomputable def Zb6 : Ctx (Tup Z92 × OutD) := { T := T, G := [], mvs := [], no := 0, n := 12, res := resOf T Zm1 Z92 Try.f30.results.toList, loops := [], regs := [], conds := [], cuts := [] }
theorem Zx9 (k : Nat) : EnvOK Try.prog k Zb6.G := (EnvOK.nil mixed)
theorem ZxI (k : Nat) (x : Tup Z3s.ps) : Z3s.f (k + 1) x = fnK Z3s Zb6 ZeS k x := by kernel_rfl
theorem ZxP (x : Tup Z3s.ps) : Z3s.f 0 x = none := by kernel_rfl
theorem Zxj (k : Nat) : LOK Try.prog Zb6 k ZeS := LOK.by [] (by kernel_rfl) AllOK.nil
theorem ZwG (k : Nat) : SoundAt Try.prog k 30 Z3s.E := @Z1 Try.prog Z3s Zb6 30 Try.f30 ZeS (by kernel_rfl) (by kernel_rfl) (by kernel_rfl) Try.func30 (by kernel_rfl) (by kernel_rfl) (by kernel_rfl) T_ok Zx9 Zxj ZxP ZxI k
noncomputable def Z9T : List PK := [PK.mk (Ty.int .i64) false none false none]
noncomputable def ZnB : List PK := [PK.mk (Ty.slice (3 : Nat) (Ty.int .i64)) false none false none, PK.mk (Ty.int .i64) false none false none]
noncomputable def ZkA (r : Int) : Tup Z9T × OutD := ((r, ()), none)
noncomputable def ZkY : Tup Z9T × OutD → Option (Int)
 | (a, none) => some (a.1)
 | _ => none
theorem ZsH : ∀ b r, ZkY b = some r → ZkA r = b := by
 rintro ⟨a, o⟩ r h
 cases o with
 | none => injection h with h; subst h; rfl
 | some _ => cases h
noncomputable def Zcl : Nat → List Int → Int → Option Int
 | 0, _, _ => none
 | k + 1, p0, p1 =>
  if decide (wrap64 (p1 - (↑(List.length p0) : Int)) < (0 : Int)) = true then some (-1 : Int) else some (wrap64 (p1 - (↑(List.length p0) : Int)))
noncomputable def Z4H : FnDef := .of ZnB Z9T (Int) (fun k x => Zcl k x.1 x.2.1) ZkA ZkY ZsH
noncomputable def ZfQ : Code := Try.f31.body.getD .skip
noncomputable def Zcw : Ctx (Tup Z9T × OutD) := { T := T, G := [], mvs := [], no := 0, n := 12, res := resOf T ZnB Z9T Try.f31.results.toList, loops := [], regs := [], conds := [], cuts := [] }
theorem ZyJ (k : Nat) : EnvOK Try.prog k Zcw.G := (EnvOK.nil mixed)
theorem Zzp (k : Nat) (x : Tup Z4H.ps) : Z4H.f (k + 1) x = fnK Z4H Zcw ZfQ k x := by kernel_rfl
theorem ZzH (x : Tup Z4H.ps) : Z4H.f 0 x = none := by kernel_rfl
theorem Zzf (k : Nat) : LOK Try.prog Zcw k ZfQ := LOK.by [] (by kernel_rfl) AllOK.nil
theorem Zzh (k : Nat) : SoundAt Try.prog k 31 Z4H.E := @Z1 Try.prog Z4H Zcw 31 Try.f31 ZfQ (by kernel_rfl) (by kernel_rfl) (by kernel_rfl) Try.func31 (by kernel_rfl) (by kernel_rfl) (by kernel_rfl) T_ok ZyJ Zzf ZzH Zzp k
noncomputable def Z90 : List PK := [PK.mk (Ty.slice (3 : Nat) (Ty.int .i64)) false none false none]
noncomputable def Zql : List PK := [PK.mk (Ty.slice (28 : Nat) (Ty.slice (3 : Nat) (Ty.int .i64))) false none false none]
noncomputable def Zo2 (r : List Int) : Tup Z90 × OutD := ((r, ()), none)
noncomputable def Zo4 : Tup Z90 × OutD → Option (List Int)
 | (a, none) => some (a.1)
 | _ => none
theorem ZuI : ∀ b r, Zo4 b = some r → Zo2 r = b := by
 rintro ⟨a, o⟩ r h
 cases o with
 | none => injection h with h; subst h; rfl
 | some _ => cases h
noncomputable def Z6U : Nat → List Int → Int → Int → Option (List Int)
 | 0, _, _, _ => none
 | k + 1, o1, v6, v7 =>
  if decide (v7 < v6) = true then if List.length o1 + List.length [v7] ≤ (140737488355328 / 8 : Nat) then Z6U k (o1 ++ [v7]) v6 (wrap64 (v7 + (1 : Int))) else none else some o1
noncomputable def ZdV : Spec := Spec.mk [OSh.ro, OSh.row true (3 : Nat) (Ty.int .i64)] [((3 : Nat), TSh.at (Sh.sl (1 : Nat))), ((6 : Nat), TSh.at (Sh.int .i64)), ((7 : Nat), TSh.at (Sh.int .i64))]
noncomputable def Zwt : Spec := Spec.mk [OSh.ro, OSh.row true (3 : Nat) (Ty.int .i64)] [((3 : Nat), TSh.at (Sh.sl (1 : Nat)))]
noncomputable def Z64 : LoopDef (Tup Z90 × OutD) := .plain ZdV Zwt (List Int) (fun k x => Z6U k x.1.2.1 x.2.2.1 x.2.2.2.1) (fun z => (((), z, ()), ((), ()))) (fun y => (y.1.2.1)) (fun _ => rfl)
noncomputable def ZaQ : Nat → List (List Int) → Option (List Int)
 | 0, _ => none
 | k + 1, p0 =>
  Option.bind (Z6U k [] (↑(List.length p0) : Int) (0 : Int)) fun z0 => some z0
noncomputable def Z3Z : FnDef := .of Zql Z90 (List Int) (fun k x => ZaQ k x.1) Zo2 Zo4 ZuI
noncomputable def ZdD : Code := Try.f34.body.getD .skip
noncomputable def Z7a : Ctx (Tup Z90 × OutD) := { T := T, G := [], mvs := [], no := 0, n := 16, res := resOf T Zql Z90 Try.f34.results.toList, loops := [(0, Z64.E)], regs := [], conds := [], cuts := [] }
theorem Zqs (k : Nat) : EnvOK Try.prog k Z7a.G := (EnvOK.nil mixed)
noncomputable def Zat : Code := (findLoop 0 ZdD).getD .skip
theorem ZvO (k : Nat) (x : ZdV.D) : Z64.lp (k + 1) x = loopK Z7a Z64 0 Zat k x := by kernel_rfl
theorem ZvW (k : Nat) : LOK Try.prog Z7a k Zat := LOK.by [] (by kernel_rfl) AllOK.nil
theorem ZvZ (x : ZdV.D) : Z64.lp 0 x = none := by kernel_rfl
theorem Zu5 (k : Nat) : EOK Try.prog Z7a k Z64.E (.block 0 (.loop Zat)) := Z2 T_ok Zqs ZvZ ZvO ZvW k
theorem ZAb (k : Nat) (x : Tup Z3Z.ps) : Z3Z.f (k + 1) x = fnK Z3Z Z7a ZdD k x := by kernel_rfl
theorem ZzY (x : Tup Z3Z.ps) : Z3Z.f 0 x = none := by kernel_rfl
theorem ZAl (k : Nat) : LOK Try.prog Z7a k ZdD := LOK.by [(Z64.E, .block 0 (.loop Zat))] (by kernel_rfl) (AllOK.cons (Zu5 k) AllOK.nil)
theorem ZpL (k : Nat) : SoundAt Try.prog k 34 Z3Z.E := @Z1 Try.prog Z3Z Z7a 34 Try.f34 ZdD (by kernel_rfl) (by kernel_rfl) (by kernel_rfl) Try.func34 (by kernel_rfl) (by kernel_rfl) (by kernel_rfl) T_ok Zqs ZAl ZzY ZAb k
noncomputable def Z29 : List PK := [PK.mk (Ty.slice (3 : Nat) (Ty.int .i64)) false none false none]
noncomputable def Zie : List PK := [PK.mk (Ty.slice (28 : Nat) (Ty.slice (3 : Nat) (Ty.int .i64))) false none false none, PK.mk (Ty.slice (3 : Nat) (Ty.int .i64)) false none false none]
noncomputable def Zgo (r : List Int) : Tup Z29 × OutD := ((r, ()), none)
noncomputable def Zgd : Tup Z29 × OutD → Option (List Int)
 | (a, none) => some (a.1)
 | _ => none
theorem Zn9 : ∀ b r, Zgd b = some r → Zgo r = b := by
 rintro ⟨a, o⟩ r h
 cases o with
 | none => injection h with h; subst h; rfl
 | some _ => cases h
noncomputable def Z26 : Nat → List Int → List (List Int) → List Int → Int → List Int → Int → Bool → List (List Int) → Int → Int → List Int → Int → Int → Option (List Int × List (List Int) × List Int × Int × List Int × Int × Bool × List (List Int) × Int × Int)
 | 0, _, _, _, _, _, _, _, _, _, _, _, _, _ => none
 | k + 1, o1, v0, v1, v6, v7, v8, v9, v12, v13, v14, v22, v23, v24 =>
  if decide (v24 < v23) = true then if (0 : Int) ≤ v24 then if v24 < (↑(List.length v22) : Int) then if v9 = true then if (0 : Int) ≤ List.getD v22 (Int.toNat v24) (0 : Int) then if List.getD v22 (Int.toNat v24) (0 : Int) < (↑(List.length v7) : Int) then if (0 : Int) ≤ v8 then if v8 < (↑(List.length v0) : Int) then if (0 : Int) ≤ List.getD v22 (Int.toNat v24) (0 : Int) then if List.getD v22 (Int.toNat v24) (0 : Int) < (↑(List.length (List.getD v0 (Int.toNat v8) [])) : Int) then Z26 k o1 v0 v1 v6 v7 v8 (decide (List.getD v7 (Int.toNat (List.getD v22 (Int.toNat v24) (0 : Int))) (0 : Int) = List.getD (List.getD v0 (Int.toNat v8) []) (Int.toNat (List.getD v22 (Int.toNat v24) (0 : Int))) (0 : Int))) v12 v13 v14 v22 v23 (wrap64 (v24 + (1 : Int))) else none else none else none else none else none else none else Z26 k o1 v0 v1 v6 v7 v8 false v12 v13 v14 v22 v23 (wrap64 (v24 + (1 : Int))) else none else none else some (o1, v0, v1, v6, v7, v8, v9, v12, v13, v14)
noncomputable def Zae : Spec := Spec.mk [OSh.ro, OSh.row true (3 : Nat) (Ty.int .i64)] [((0 : Nat), TSh.at (Sh.snap (0 : Nat) (Ty.slice (3 : Nat) (Ty.int .i64)))), ((1 : Nat), TSh.at (Sh.snap (0 : Nat) (Ty.int .i64))), ((5 : Nat), TSh.at (Sh.sl (1 : Nat))), ((6 : Nat), TSh.at (Sh.int .i64)), ((7 : Nat), TSh.at (Sh.snap (0 : Nat) (Ty.int .i64))), ((8 : Nat), TSh.at (Sh.int .i64)), ((9 : Nat), TSh.at Sh.bool), ((12 : Nat), TSh.at (Sh.snap (0 : Nat) (Ty.slice (3 : Nat) (Ty.int .i64)))), ((13 : Nat), TSh.at (Sh.int .i64)), ((14 : Nat), TSh.at (Sh.int .i64)), ((22 : Nat), TSh.at (Sh.snap (0 : Nat) (Ty.int .i64))), ((23 : Nat), TSh.at (Sh.int .i64)), ((24 : Nat), TSh.at (Sh.int .i64))]
noncomputable def ZoU : Spec := Spec.mk [OSh.ro, OSh.row true (3 : Nat) (Ty.int .i64)] [((0 : Nat), TSh.at (Sh.snap (0 : Nat) (Ty.slice (3 : Nat) (Ty.int .i64)))), ((1 : Nat), TSh.at (Sh.snap (0 : Nat) (Ty.int .i64))), ((5 : Nat), TSh.at (Sh.sl (1 : Nat))), ((6 : Nat), TSh.at (Sh.int .i64)), ((7 : Nat), TSh.at (Sh.snap (0 : Nat) (Ty.int .i64))), ((8 : Nat), TSh.at (Sh.int .i64)), ((9 : Nat), TSh.at Sh.bool), ((12 : Nat), TSh.at (Sh.snap (0 : Nat) (Ty.slice (3 : Nat) (Ty.int .i64)))), ((13 : Nat), TSh.at (Sh.int .i64)), ((14 : Nat), TSh.at (Sh.int .i64))]
noncomputable def Z32 : LoopDef (Tup Z29 × OutD) := .plain Zae ZoU (List Int × List (List Int) × List Int × Int × List Int × Int × Bool × List (List Int) × Int × Int) (fun k x => Z26 k x.1.2.1 x.2.1 x.2.2.1 x.2.2.2.2.1 x.2.2.2.2.2.1 x.2.2.2.2.2.2.1 x.2.2.2.2.2.2.2.1 x.2.2.2.2.2.2.2.2.1 x.2.2.2.2.2.2.2.2.2.1 x.2.2.2.2.2.2.2.2.2.2.1 x.2.2.2.2.2.2.2.2.2.2.2.1 x.2.2.2.2.2.2.2.2.2.2.2.2.1 x.2.2.2.2.2.2.2.2.2.2.2.2.2.1) (fun z => (((), z.1, ()), (z.2.1, z.2.2.1, (), z.2.2.2.1, z.2.2.2.2.1, z.2.2.2.2.2.1, z.2.2.2.2.2.2.1, z.2.2.2.2.2.2.2.1, z.2.2.2.2.2.2.2.2.1, z.2.2.2.2.2.2.2.2.2, ()))) (fun y => (y.1.2.1, y.2.1, y.2.2.1, y.2.2.2.2.1, y.2.2.2.2.2.1, y.2.2.2.2.2.2.1, y.2.2.2.2.2.2.2.1, y.2.2.2.2.2.2.2.2.1, y.2.2.2.2.2.2.2.2.2.1, y.2.2.2.2.2.2.2.2.2.2.1)) (fun _ => rfl)
noncomputable def Z3F : Nat → List Int → List (List Int) → List Int → Int → List Int → Int → List (List Int) → Int → Int → Option (List Int × List (List Int) × List Int × Int × List (List Int) × Int × Int)
 | 0, _, _, _, _, _, _, _, _, _ => none
 | k + 1, o1, v0, v1, v6, v7, v8, v12, v13, v14 =>
  if decide (v8 < v6) = true then Option.bind (Z26 k o1 v0 v1 v6 v7 v8 true v12 v13 v14 v1 (↑(List.length v1) : Int) (0 : Int)) fun z0 => if Prod.fst z0.2.2.2.2.2.2 = true then some (Prod.fst z0, Prod.fst z0.2, Prod.fst z0.2.2, Prod.fst z0.2.2.2.2.2, Prod.fst z0.2.2.2.2.2.2.2, Prod.fst z0.2.2.2.2.2.2.2.2, Prod.snd z0.2.2.2.2.2.2.2.2) else Z3F k z0.1 z0.2.1 z0.2.2.1 z0.2.2.2.1 z0.2.2.2.2.1 (wrap64 (Prod.fst z0.2.2.2.2.2 + (1 : Int))) z0.2.2.2.2.2.2.2.1 z0.2.2.2.2.2.2.2.2.1 z0.2.2.2.2.2.2.2.2.2 else some (o1, v0, v1, v8, v12, v13, v14)
noncomputable def Zad : Spec := Spec.mk [OSh.ro, OSh.row true (3 : Nat) (Ty.int .i64)] [((0 : Nat), TSh.at (Sh.snap (0 : Nat) (Ty.slice (3 : Nat) (Ty.int .i64)))), ((1 : Nat), TSh.at (Sh.snap (0 : Nat) (Ty.int .i64))), ((5 : Nat), TSh.at (Sh.sl (1 : Nat))), ((6 : Nat), TSh.at (Sh.int .i64)), ((7 : Nat), TSh.at (Sh.snap (0 : Nat) (Ty.int .i64))), ((8 : Nat), TSh.at (Sh.int .i64)), ((12 : Nat), TSh.at (Sh.snap (0 : Nat) (Ty.slice (3 : Nat) (Ty.int .i64)))), ((13 : Nat), TSh.at (Sh.int .i64)), ((14 : Nat), TSh.at (Sh.int .i64))]
noncomputable def Zp0 : Spec := Spec.mk [OSh.ro, OSh.row true (3 : Nat) (Ty.int .i64)] [((0 : Nat), TSh.at (Sh.snap (0 : Nat) (Ty.slice (3 : Nat) (Ty.int .i64)))), ((1 : Nat), TSh.at (Sh.snap (0 : Nat) (Ty.int .i64))), ((5 : Nat), TSh.at (Sh.sl (1 : Nat))), ((8 : Nat), TSh.at (Sh.int .i64)), ((12 : Nat), TSh.at (Sh.snap (0 : Nat) (Ty.slice (3 : Nat) (Ty.int .i64)))), ((13 : Nat), TSh.at (Sh.int .i64)), ((14 : Nat), TSh.at (Sh.int .i64))]
noncomputable def Z31 : LoopDef (Tup Z29 × OutD) := .plain Zad Zp0 (List Int × List (List Int) × List Int × Int × List (List Int) × Int × Int) (fun k x => Z3F k x.1.2.1 x.2.1 x.2.2.1 x.2.2.2.2.1 x.2.2.2.2.2.1 x.2.2.2.2.2.2.1 x.2.2.2.2.2.2.2.1 x.2.2.2.2.2.2.2.2.1 x.2.2.2.2.2.2.2.2.2.1) (fun z => (((), z.1, ()), (z.2.1, z.2.2.1, (), z.2.2.2.1, z.2.2.2.2.1, z.2.2.2.2.2.1, z.2.2.2.2.2.2, ()))) (fun y => (y.1.2.1, y.2.1, y.2.2.1, y.2.2.2.2.1, y.2.2.2.2.2.1, y.2.2.2.2.2.2.1, y.2.2.2.2.2.2.2.1)) (fun _ => rfl)
noncomputable def Z3z : Nat → List Int → List (List Int) → List Int → List (List Int) → Int → Int → Option (List Int)
 | 0, _, _, _, _, _, _ => none
 | k + 1, o1, v0, v1, v12, v13, v14 =>
  if decide (v14 < v13) = true then if (0 : Int) ≤ v14 then if v14 < (↑(List.length v12) : Int) then Option.bind (Z3F k o1 v0 v1 v14 (List.getD v12 (Int.toNat v14) []) (0 : Int) v12 v13 v14) fun z1 => if List.length z1.1 + List.length [Prod.fst z1.2.2.2] ≤ (140737488355328 / 8 : Nat) then Z3z k (Prod.fst z1 ++ [Prod.fst z1.2.2.2]) z1.2.1 z1.2.2.1 z1.2.2.2.2.1 z1.2.2.2.2.2.1 (wrap64 (Prod.snd z1.2.2.2.2.2 + (1 : Int))) else none else none else none else some o1
noncomputable def Zab : Spec := Spec.mk [OSh.ro, OSh.row true (3 : Nat) (Ty.int .i64)] [((0 : Nat), TSh.at (Sh.snap (0 : Nat) (Ty.slice (3 : Nat) (Ty.int .i64)))), ((1 : Nat), TSh.at (Sh.snap (0 : Nat) (Ty.int .i64))), ((5 : Nat), TSh.at (Sh.sl (1 : Nat))), ((12 : Nat), TSh.at (Sh.snap (0 : Nat) (Ty.slice (3 : Nat) (Ty.int .i64)))), ((13 : Nat), TSh.at (Sh.int .i64)), ((14 : Nat), TSh.at (Sh.int .i64))]
noncomputable def ZoY : Spec := Spec.mk [OSh.ro, OSh.row true (3 : Nat) (Ty.int .i64)] [((5 : Nat), TSh.at (Sh.sl (1 : Nat)))]
noncomputable def Z37 : LoopDef (Tup Z29 × OutD) := .plain Zab ZoY (List Int) (fun k x => Z3z k x.1.2.1 x.2.1 x.2.2.1 x.2.2.2.2.1 x.2.2.2.2.2.1 x.2.2.2.2.2.2.1) (fun z => (((), z, ()), ((), ()))) (fun y => (y.1.2.1)) (fun _ => rfl)
noncomputable def Z7d : Nat → List (List Int) → List Int → Option (List Int)
 | 0, _, _ => none
 | k + 1, p0, p1 =>
  Option.bind (Z3z k [] p0 p1 p0 (↑(List.length p0) : Int) (0 : Int)) fun z2 => some z2
noncomputable def Z2b : FnDef := .of Zie Z29 (List Int) (fun k x => Z7d k x.1 x.2.1) Zgo Zgd Zn9
noncomputable def Z4P : Code := Try.f35.body.getD .skip
noncomputable def Zr : Ctx (Tup Z29 × OutD) := { T := T, G := [], mvs := [], no := 0, n := 53, res := resOf T Zie Z29 Try.f35.results.toList, loops := [(4, Z32.E), (2, Z31.E), (0, Z37.E)], regs := [], conds := [], cuts := [] }
theorem Z9v (k : Nat) : EnvOK Try.prog k Zr.G := (EnvOK.nil mixed)
noncomputable def Z7u : Code := (findLoop 4 Z4P).getD .skip
theorem ZoX (k : Nat) (x : Zae.D) : Z32.lp (k + 1) x = loopK Zr Z32 4 Z7u k x := by kernel_rfl
theorem ZoG (k : Nat) : LOK Try.prog Zr k Z7u := LOK.by [] (by kernel_rfl) AllOK.nil
theorem ZoT (x : Zae.D) : Z32.lp 0 x = none := by kernel_rfl
theorem Zni (k : Nat) : EOK Try.prog Zr k Z32.E (.block 4 (.loop Z7u)) := Z2 T_ok Z9v ZoT ZoX ZoG k
noncomputable def Z7m : Code := (findLoop 2 Z4P).getD .skip
theorem ZoK (k : Nat) (x : Zad.D) : Z31.lp (k + 1) x = loopK Zr Z31 2 Z7m k x := by kernel_rfl
theorem ZoM (k : Nat) : LOK Try.prog Zr k Z7m := LOK.by [(Z32.E, .block 4 (.loop Z7u))] (by kernel_rfl) (AllOK.cons (Zni k) AllOK.nil)
theorem Zpk (x : Zad.D) : Z31.lp 0 x = none := by kernel_rfl
theorem Zno (k : Nat) : EOK Try.prog Zr k Z31.E (.block 2 (.loop Z7m)) := Z2 T_ok Z9v Zpk ZoK ZoM k
noncomputable def Z7i : Code := (findLoop 0 Z4P).getD .skip
theorem Zp9 (k : Nat) (x : Zab.D) : Z37.lp (k + 1) x = loopK Zr Z37 0 Z7i k x := by kernel_rfl
theorem Zp6 (k : Nat) : LOK Try.prog Zr k Z7i := LOK.by [(Z31.E, .block 2 (.loop Z7m))] (by kernel_rfl) (AllOK.cons (Zno k) AllOK.nil)
theorem Zoo (x : Zab.D) : Z37.lp 0 x = none := by kernel_rfl
theorem Zn4 (k : Nat) : EOK Try.prog Zr k Z37.E (.block 0 (.loop Z7i)) := Z2 T_ok Z9v Zoo Zp9 Zp6 k
theorem ZuU (k : Nat) (x : Tup Z2b.ps) : Z2b.f (k + 1) x = fnK Z2b Zr Z4P k x := by kernel_rfl
theorem ZuS (x : Tup Z2b.ps) : Z2b.f 0 x = none := by kernel_rfl
theorem ZuM (k : Nat) : LOK Try.prog Zr k Z4P := LOK.by [(Z37.E, .block 0 (.loop Z7i))] (by kernel_rfl) (AllOK.cons (Zn4 k) AllOK.nil)
theorem Zuu (k : Nat) : SoundAt Try.prog k 35 Z2b.E := @Z1 Try.prog Z2b Zr 35 Try.f35 Z4P (by kernel_rfl) (by kernel_rfl) (by kernel_rfl) Try.func35 (by kernel_rfl) (by kernel_rfl) (by kernel_rfl) T_ok Z9v ZuM ZuS ZuU k
noncomputable def Z69 : List PK := [PK.mk (Ty.slice (3 : Nat) (Ty.int .i64)) false none false none]
noncomputable def ZjG : List PK := [PK.mk (Ty.int .i64) false none false none, PK.mk (Ty.int .i64) false none false none]
noncomputable def ZhY (r : List Int) : Tup Z69 × OutD := ((r, ()), none)
noncomputable def Zhc : Tup Z69 × OutD → Option (List Int)
 | (a, none) => some (a.1)
 | _ => none
theorem Zph : ∀ b r, Zhc b = some r → ZhY r = b := by
 rintro ⟨a, o⟩ r h
 cases o with
 | none => injection h with h; subst h; rfl
 | some _ => cases h
noncomputable def Z2I : Nat → List Int → Int → Int → Int → Option (List Int)
 | 0, _, _, _, _ => none
 | k + 1, o1, v0, v1, v6 =>
  if decide (v6 < v1) = true then if IntKind.wrap IntKind.u64 v6 < (0 : Int) then none else if decide (bits BinOp.and IntKind.i64 (Int.fdiv v0 ((2 : Int) ^ min (Int.toNat (IntKind.wrap IntKind.u64 v6)) (IntKind.bits IntKind.i64))) (1 : Int) = (1 : Int)) = true then if List.length o1 + List.length [v6] ≤ (140737488355328 / 8 : Nat) then Z2I k (o1 ++ [v6]) v0 v1 (wrap64 (v6 + (1 : Int))) else none else Z2I k o1 v0 v1 (wrap64 (v6 + (1 : Int))) else some o1
noncomputable def ZaR : Spec := Spec.mk [OSh.ro, OSh.row true (3 : Nat) (Ty.int .i64)] [((0 : Nat), TSh.at (Sh.int .i64)), ((1 : Nat), TSh.at (Sh.int .i64)), ((5 : Nat), TSh.at (Sh.sl (1 : Nat))), ((6 : Nat), TSh.at (Sh.int .i64))]
noncomputable def Zrm : Spec := Spec.mk [OSh.ro, OSh.row true (3 : Nat) (Ty.int .i64)] [((5 : Nat), TSh.at (Sh.sl (1 : Nat)))]
noncomputable def Z3o : LoopDef (Tup Z69 × OutD) := .plain ZaR Zrm (List Int) (fun k x => Z2I k x.1.2.1 x.2.1 x.2.2.1 x.2.2.2.2.1) (fun z => (((), z, ()), ((), ()))) (fun y => (y.1.2.1)) (fun _ => rfl)
noncomputable def Z80 : Nat → Int → Int → Option (List Int)
 | 0, _, _ => none
 | k + 1, p0, p1 =>
  Option.bind (Z2I k [] p0 p1 (0 : Int)) fun z0 => some z0
noncomputable def Z1V : FnDef := .of ZjG Z69 (List Int) (fun k x => Z80 k x.1 x.2.1) ZhY Zhc Zph
noncomputable def Zao : Code := Try.f36.body.getD .skip
noncomputable def Z3Y : Ctx (Tup Z69 × OutD) := { T := T, G := [], mvs := [], no := 0, n := 23, res := resOf T ZjG Z69 Try.f36.results.toList, loops := [(0, Z3o.E)], regs := [], conds := [], cuts := [] }
theorem Zjb (k : Nat) : EnvOK Try.prog k Z3Y.G := (EnvOK.nil mixed)
noncomputable def Z7T : Code := (findLoop 0 Zao).getD .skip
theorem ZqG (k : Nat) (x : ZaR.D) : Z3o.lp (k + 1) x = loopK Z3Y Z3o 0 Z7T k x := by kernel_rfl
theorem Zqu (k : Nat) : LOK Try.prog Z3Y k Z7T := LOK.by [] (by kernel_rfl) AllOK.nil
theorem Zqy (x : ZaR.D) : Z3o.lp 0 x = none := by kernel_rfl
theorem Zow (k : Nat) : EOK Try.prog Z3Y k Z3o.E (.block 0 (.loop Z7T)) := Z2 T_ok Zjb Zqy ZqG Zqu k
theorem Zvc (k : Nat) (x : Tup Z1V.ps) : Z1V.f (k + 1) x = fnK Z1V Z3Y Zao k x := by kernel_rfl
theorem ZvU (x : Tup Z1V.ps) : Z1V.f 0 x = none := by kernel_rfl
theorem Zvf (k : Nat) : LOK Try.prog Z3Y k Zao := LOK.by [(Z3o.E, .block 0 (.loop Z7T))] (by kernel_rfl) (AllOK.cons (Zow k) AllOK.nil)
theorem Zj2 (k : Nat) : SoundAt Try.prog k 36 Z1V.E := @Z1 Try.prog Z1V Z3Y 36 Try.f36 Zao (by kernel_rfl) (by kernel_rfl) (by kernel_rfl) Try.func36 (by kernel_rfl) (by kernel_rfl) (by kernel_rfl) T_ok Zjb Zvf ZvU Zvc k
noncomputable def Z65 : List PK := [PK.mk Ty.bool false none false none]
noncomputable def ZiZ : List PK := [PK.mk (Ty.slice (3 : Nat) (Ty.int .i64)) false none false none, PK.mk (Ty.slice (3 : Nat) (Ty.int .i64)) false none false none]
noncomputable def ZcU (r : Bool) : Tup Z65 × OutD := ((r, ()), none)
noncomputable def Zd4 : Tup Z65 × OutD → Option (Bool)
 | (a, none) => some (a.1)
 | _ => none
theorem Zeu : ∀ b r, Zd4 b = some r → ZcU r = b := by
 rintro ⟨a, o⟩ r h
 cases o with
 | none => injection h with h; subst h; rfl
 | some _ => cases h
noncomputable def Z45 : Nat → List Int → List Int → Int → Int → Option (LR Unit Bool)
 | 0, _, _, _, _ => none
 | k + 1, v1, v17, v18, v19 =>
  if decide (v19 < v18) = true then if (0 : Int) ≤ v19 then if v19 < (↑(List.length v17) : Int) then if (0 : Int) ≤ v19 then if v19 < (↑(List.length v1) : Int) then if decide (List.getD v17 (Int.toNat v19) (0 : Int) ≠ List.getD v1 (Int.toNat v19) (0 : Int)) = true then if (0 : Int) ≤ v19 then if v19 < (↑(List.length v1) : Int) then some (LR.ret (decide (List.getD v17 (Int.toNat v19) (0 : Int) < List.getD v1 (Int.toNat v19) (0 : Int)))) else none else none else Z45 k v1 v17 v18 (wrap64 (v19 + (1 : Int))) else none else none else none else none else some (LR.go ())
noncomputable def ZaE : Spec := Spec.mk [OSh.ro] [((1 : Nat), TSh.at (Sh.snap (0 : Nat) (Ty.int .i64))), ((17 : Nat), TSh.at (Sh.snap (0 : Nat) (Ty.int .i64))), ((18 : Nat), TSh.at (Sh.int .i64)), ((19 : Nat), TSh.at (Sh.int .i64))]
noncomputable def Zqx : Spec := Spec.mk [OSh.ro] []
noncomputable def Z3J : LoopDef (Tup Z65 × OutD) := .rets ZaE Zqx (Unit) (Bool) (fun k x => Z45 k x.2.1 x.2.2.1 x.2.2.2.1 x.2.2.2.2.1) (fun z => (((), ()), (()))) (fun y => ()) (fun _ => rfl) ZcU Zd4 Zeu
noncomputable def Z84 : Nat → List Int → List Int → Option Bool
 | 0, _, _ => none
 | k + 1, p0, p1 =>
  if decide ((↑(List.length p0) : Int) ≠ (↑(List.length p1) : Int)) = true then some (decide ((↑(List.length p0) : Int) < (↑(List.length p1) : Int))) else Option.bind (Z45 k p1 p0 (↑(List.length p0) : Int) (0 : Int)) fun z0 => LR.on z0 (fun y0 => some false) fun r0 => some r0
noncomputable def Z1W : FnDef := .of ZiZ Z65 (Bool) (fun k x => Z84 k x.1 x.2.1) ZcU Zd4 Zeu
noncomputable def Zaz : Code := Try.f37.body.getD .skip
noncomputable def Z3U : Ctx (Tup Z65 × OutD) := { T := T, G := [], mvs := [], no := 0, n := 37, res := resOf T ZiZ Z65 Try.f37.results.toList, loops := [(0, Z3J.E)], regs := [], conds := [], cuts := [] }
theorem ZjJ (k : Nat) : EnvOK Try.prog k Z3U.G := (EnvOK.nil mixed)
noncomputable def Z7N : Code := (findLoop 0 Zaz).getD .skip
theorem Zq4 (k : Nat) (x : ZaE.D) : Z3J.lp (k + 1) x = loopK Z3U Z3J 0 Z7N k x := by kernel_rfl
theorem ZpY (k : Nat) : LOK Try.prog Z3U k Z7N := LOK.by [] (by kernel_rfl) AllOK.nil
theorem ZqX (x : ZaE.D) : Z3J.lp 0 x = none := by kernel_rfl
theorem Zpi (k : Nat) : EOK Try.prog Z3U k Z3J.E (.block 0 (.loop Z7N)) := Z2 T_ok ZjJ ZqX Zq4 ZpY k
theorem Zv4 (k : Nat) (x : Tup Z1W.ps) : Z1W.f (k + 1) x = fnK Z1W Z3U Zaz k x := by kernel_rfl
theorem Zvp (x : Tup Z1W.ps) : Z1W.f 0 x = none := by kernel_rfl
theorem Zvs (k : Nat) : LOK Try.prog Z3U k Zaz := LOK.by [(Z3J.E, .block 0 (.loop Z7N))] (by kernel_rfl) (AllOK.cons (Zpi k) AllOK.nil)
theorem ZiO (k : Nat) : SoundAt Try.prog k 37 Z1W.E := @Z1 Try.prog Z1W Z3U 37 Try.f37 Zaz (by kernel_rfl) (by kernel_rfl) (by kernel_rfl) Try.func37 (by kernel_rfl) (by kernel_rfl) (by kernel_rfl) T_ok ZjJ Zvs Zvp Zv4 k
noncomputable def Z7G : List PK := [PK.mk Ty.bool false none false none]
noncomputable def ZnY : List PK := [PK.mk (Ty.slice (3 : Nat) (Ty.int .i64)) false none false none, PK.mk (Ty.slice (3 : Nat) (Ty.int .i64)) false none false none]
noncomputable def ZeZ (r : Bool) : Tup Z7G × OutD := ((r, ()), none)
noncomputable def ZeR : Tup Z7G × OutD → Option (Bool)
 | (a, none) => some (a.1)
 | _ => none
theorem Zgv : ∀ b r, ZeR b = some r → ZeZ r = b := by
 rintro ⟨a, o⟩ r h
 cases o with
 | none => injection h with h; subst h; rfl
 | some _ => cases h
noncomputable def Z5N : Nat → List Int → List Int → Int → Int → Option (LR Unit Bool)
 | 0, _, _, _, _ => none
 | k + 1, v0, v1, v12, v13 =>
  if decide (v13 < v12) = true then if (0 : Int) ≤ v13 then if v13 < (↑(List.length v0) : Int) then if (0 : Int) ≤ v13 then if v13 < (↑(List.length v1) : Int) then if decide (List.getD v0 (Int.toNat v13) (0 : Int) ≠ List.getD v1 (Int.toNat v13) (0 : Int)) = true then some (LR.ret false) else Z5N k v0 v1 v12 (wrap64 (v13 + (1 : Int))) else none else none else none else none else some (LR.go ())
noncomputable def Zd5 : Spec := Spec.mk [OSh.ro] [((0 : Nat), TSh.at (Sh.snap (0 : Nat) (Ty.int .i64))), ((1 : Nat), TSh.at (Sh.snap (0 : Nat) (Ty.int .i64))), ((12 : Nat), TSh.at (Sh.int .i64)), ((13 : Nat), TSh.at (Sh.int .i64))]
noncomputable def ZtY : Spec := Spec.mk [OSh.ro] []
noncomputable def Z5u : LoopDef (Tup Z7G × OutD) := .rets Zd5 ZtY (Unit) (Bool) (fun k x => Z5N k x.2.1 x.2.2.1 x.2.2.2.1 x.2.2.2.2.1) (fun z => (((), ()), (()))) (fun y => ()) (fun _ => rfl) ZeZ ZeR Zgv
noncomputable def Z9O : Nat → List Int → List Int → Option Bool
 | 0, _, _ => none
 | k + 1, p0, p1 =>
  if decide ((↑(List.length p0) : Int) ≠ (↑(List.length p1) : Int)) = true then some false else Option.bind (Z5N k p0 p1 (↑(List.length p0) : Int) (0 : Int)) fun z0 => LR.on z0 (fun y0 => some true) fun r0 => some r0
noncomputable def Z3c : FnDef := .of ZnY Z7G (Bool) (fun k x => Z9O k x.1 x.2.1) ZeZ ZeR Zgv
noncomputable def Zci : Code := Try.f38.body.getD .skip
noncomputable def Z6e : Ctx (Tup Z7G × OutD) := { T := T, G := [], mvs := [], no := 0, n := 26, res := resOf T ZnY Z7G Try.f38.results.toList, loops := [(0, Z5u.E)], regs := [], conds := [], cuts := [] }
theorem ZnG (k : Nat) : EnvOK Try.prog k Z6e.G := (EnvOK.nil mixed)
noncomputable def Z9c : Code := (findLoop 0 Zci).getD .skip
theorem ZtN (k : Nat) (x : Zd5.D) : Z5u.lp (k + 1) x = loopK Z6e Z5u 0 Z9c k x := by kernel_rfl
theorem ZtS (k : Nat) : LOK Try.prog Z6e k Z9c := LOK.by [] (by kernel_rfl) AllOK.nil
theorem ZuR (x : Zd5.D) : Z5u.lp 0 x = none := by kernel_rfl
theorem Zsk (k : Nat) : EOK Try.prog Z6e k Z5u.E (.block 0 (.loop Z9c)) := Z2 T_ok ZnG ZuR ZtN ZtS k
theorem ZyP (k : Nat) (x : Tup Z3c.ps) : Z3c.f (k + 1) x = fnK Z3c Z6e Zci k x := by kernel_rfl
theorem Zzr (x : Tup Z3c.ps) : Z3c.f 0 x = none := by kernel_rfl
theorem Zzc (k : Nat) : LOK Try.prog Z6e k Zci := LOK.by [(Z5u.E, .block 0 (.loop Z9c))] (by kernel_rfl) (AllOK.cons (Zsk k) AllOK.nil)
theorem ZnR (k : Nat) : SoundAt Try.prog k 38 Z3c.E := @Z1 Try.prog Z3c Z6e 38 Try.f38 Zci (by kernel_rfl) (by kernel_rfl) (by kernel_rfl) Try.func38 (by kernel_rfl) (by kernel_rfl) (by kernel_rfl) T_ok ZnG Zzc Zzr ZyP k
noncomputable def Z7F : List PK := [PK.mk (Ty.slice (3 : Nat) (Ty.int .i64)) false none false none]
noncomputable def ZnW : List PK := [PK.mk (Ty.slice (3 : Nat) (Ty.int .i64)) false none false none]
noncomputable def ZkW (r : List Int) : Tup Z7F × OutD := ((r, ()), none)
noncomputable def ZlT : Tup Z7F × OutD → Option (List Int)
 | (a, none) => some (a.1)
 | _ => none
theorem Zss : ∀ b r, ZlT b = some r → ZkW r = b := by
 rintro ⟨a, o⟩ r h
 cases o with
 | none => injection h with h; subst h; rfl
 | some _ => cases h
noncomputable def Z5M : Nat → List Int → List Int → Int → Option (List Int)
 | 0, _, _, _ => none
 | k + 1, o1, v0, v4 =>
  if decide (v4 < (↑(List.length v0) : Int)) = true then if (0 : Int) ≤ v4 then if v4 < (↑(List.length v0) : Int) then if (0 : Int) ≤ v4 then if v4 < (↑(List.length o1) : Int) then Z5M k (List.set o1 (Int.toNat v4) (List.getD v0 (Int.toNat v4) (0 : Int))) v0 (wrap64 (v4 + (1 : Int))) else none else none else none else none else some o1
noncomputable def ZcY : Spec := Spec.mk [OSh.ro, OSh.row true (3 : Nat) (Ty.int .i64)] [((0 : Nat), TSh.at (Sh.snap (0 : Nat) (Ty.int .i64))), ((3 : Nat), TSh.at (Sh.sl (1 : Nat))), ((4 : Nat), TSh.at (Sh.int .i64))]
noncomputable def Zuo : Spec := Spec.mk [OSh.ro, OSh.row true (3 : Nat) (Ty.int .i64)] [((3 : Nat), TSh.at (Sh.sl (1 : Nat)))]
noncomputable def Z59 : LoopDef (Tup Z7F × OutD) := .plain ZcY Zuo (List Int) (fun k x => Z5M k x.1.2.1 x.2.1 x.2.2.2.1) (fun z => (((), z, ()), ((), ()))) (fun y => (y.1.2.1)) (fun _ => rfl)
noncomputable def Zcn : Nat → List Int → Option (List Int)
 | 0, _ => none
 | k + 1, p0 =>
  if Int.toNat (↑(List.length p0) : Int) * (8 : Nat) ≤ (281474976710656 : Nat) then Option.bind (Z5M k (List.replicate (Int.toNat (↑(List.length p0) : Int)) (0 : Int)) p0 (0 : Int)) fun z0 => some z0 else none
noncomputable def Z4s : FnDef := .of ZnW Z7F (List Int) (fun k x => Zcn k x.1) ZkW ZlT Zss
noncomputable def ZcC : Code := Try.f40.body.getD .skip
noncomputable def Z6i : Ctx (Tup Z7F × OutD) := { T := T, G := [], mvs := [], no := 0, n := 22, res := resOf T ZnW Z7F Try.f40.results.toList, loops := [(0, Z59.E)], regs := [], conds := [], cuts := [] }
theorem ZnU (k : Nat) : EnvOK Try.prog k Z6i.G := (EnvOK.nil mixed)
noncomputable def Z9F : Code := (findLoop 0 ZcC).getD .skip
theorem ZuD (k : Nat) (x : ZcY.D) : Z59.lp (k + 1) x = loopK Z6i Z59 0 Z9F k x := by kernel_rfl
theorem Zud (k : Nat) : LOK Try.prog Z6i k Z9F := LOK.by [] (by kernel_rfl) AllOK.nil
theorem ZtT (x : ZcY.D) : Z59.lp 0 x = none := by kernel_rfl
theorem ZsA (k : Nat) : EOK Try.prog Z6i k Z59.E (.block 0 (.loop Z9F)) := Z2 T_ok ZnU ZtT ZuD Zud k
theorem Zyx (k : Nat) (x : Tup Z4s.ps) : Z4s.f (k + 1) x = fnK Z4s Z6i ZcC k x := by kernel_rfl
theorem Zz8 (x : Tup Z4s.ps) : Z4s.f 0 x = none := by kernel_rfl
theorem ZyH (k : Nat) : LOK Try.prog Z6i k ZcC := LOK.by [(Z59.E, .block 0 (.loop Z9F))] (by kernel_rfl) (AllOK.cons (ZsA k) AllOK.nil)
theorem Zzs (k : Nat) : SoundAt Try.prog k 40 Z4s.E := @Z1 Try.prog Z4s Z6i 40 Try.f40 ZcC (by kernel_rfl) (by kernel_rfl) (by kernel_rfl) Try.func40 (by kernel_rfl) (by kernel_rfl) (by kernel_rfl) T_ok ZnU ZyH Zz8 Zyx k
noncomputable def Z5s : List PK := [PK.mk (Ty.slice (3 : Nat) (Ty.int .i64)) false none false none]
noncomputable def ZhQ : List PK := [PK.mk (Ty.slice (28 : Nat) (Ty.slice (3 : Nat) (Ty.int .i64))) false none false none]
noncomputable def ZgJ (r : List Int) : Tup Z5s × OutD := ((r, ()), none)
noncomputable def Zgb : Tup Z5s × OutD → Option (List Int)
 | (a, none) => some (a.1)
 | _ => none
theorem Znr : ∀ b r, Zgb b = some r → ZgJ r = b := by
 rintro ⟨a, o⟩ r h
 cases o with
 | none => injection h with h; subst h; rfl
 | some _ => cases h
noncomputable def Z3v : Nat → List Int → Int → Int → Option (List Int)
 | 0, _, _, _ => none
 | k + 1, o1, v7, v8 =>
  if decide (v8 < v7) = true then if List.length o1 + List.length [v8] ≤ (140737488355328 / 8 : Nat) then Z3v k (o1 ++ [v8]) v7 (wrap64 (v8 + (1 : Int))) else none else some o1
noncomputable def Zaa : Spec := Spec.mk [OSh.ro, OSh.row true (3 : Nat) (Ty.int .i64)] [((3 : Nat), TSh.at (Sh.sl (1 : Nat))), ((7 : Nat), TSh.at (Sh.int .i64)), ((8 : Nat), TSh.at (Sh.int .i64))]
noncomputable def ZoI : Spec := Spec.mk [OSh.ro, OSh.row true (3 : Nat) (Ty.int .i64)] [((3 : Nat), TSh.at (Sh.sl (1 : Nat)))]
noncomputable def Z35 : LoopDef (Tup Z5s × OutD) := .plain Zaa ZoI (List Int) (fun k x => Z3v k x.1.2.1 x.2.2.1 x.2.2.2.1) (fun z => (((), z, ()), ((), ()))) (fun y => (y.1.2.1)) (fun _ => rfl)
noncomputable def Z1l : Nat → List (List Int) → Option (List Int)
 | 0, _ => none
 | k + 1, p0 =>
  Option.bind (Z3v k [] (↑(List.length p0) : Int) (0 : Int)) fun z0 => some z0
noncomputable def Z1r : FnDef := .of ZhQ Z5s (List Int) (fun k x => Z1l k x.1) ZgJ Zgb Znr
noncomputable def Z9E : Code := Try.f44.body.getD .skip
noncomputable def Z3h : Ctx (Tup Z5s × OutD) := { T := T, G := [], mvs := [], no := 0, n := 17, res := resOf T ZhQ Z5s Try.f44.results.toList, loops := [(0, Z35.E)], regs := [], conds := [], cuts := [] }
theorem Zht (k : Nat) : EnvOK Try.prog k Z3h.G := (EnvOK.nil mixed)
noncomputable def Z7q : Code := (findLoop 0 Z9E).getD .skip
theorem Zpf (k : Nat) (x : Zaa.D) : Z35.lp (k + 1) x = loopK Z3h Z35 0 Z7q k x := by kernel_rfl
theorem Zpj (k : Nat) : LOK Try.prog Z3h k Z7q := LOK.by [] (by kernel_rfl) AllOK.nil
theorem ZoP (x : Zaa.D) : Z35.lp 0 x = none := by kernel_rfl
theorem Zns (k : Nat) : EOK Try.prog Z3h k Z35.E (.block 0 (.loop Z7q)) := Z2 T_ok Zht ZoP Zpf Zpj k
theorem Zuy (k : Nat) (x : Tup Z1r.ps) : Z1r.f (k + 1) x = fnK Z1r Z3h Z9E k x := by kernel_rfl
theorem ZuV (x : Tup Z1r.ps) : Z1r.f 0 x = none := by kernel_rfl
theorem Zui (k : Nat) : LOK Try.prog Z3h k Z9E := LOK.by [(Z35.E, .block 0 (.loop Z7q))] (by kernel_rfl) (AllOK.cons (Zns k) AllOK.nil)
theorem Zil (k : Nat) : SoundAt Try.prog k 44 Z1r.E := @Z1 Try.prog Z1r Z3h 44 Try.f44 Z9E (by kernel_rfl) (by kernel_rfl) (by kernel_rfl) Try.func44 (by kernel_rfl) (by kernel_rfl) (by kernel_rfl) T_ok Zht Zui ZuV Zuy k
noncomputable def Z5i : List PK := [PK.mk (Ty.int .i64) false none false none]
noncomputable def Zi1 : List PK := [PK.mk (Ty.slice (73 : Nat) (Ty.pair (Ty.int .i64) (Ty.int .i64))) false (some ((0 : Nat), (73 : Nat), Ty.pair (Ty.int .i64) (Ty.int .i64))) false none, PK.mk (Ty.int .i64) false none false none]
noncomputable def ZgI (r : Int × List (Int × Int)) : Tup Z5i × OutD := ((r.1, ()), some ⟨Ty.pair (Ty.int .i64) (Ty.int .i64), r.2⟩)
noncomputable def ZbD : Tup Z5i × OutD → Option (Int × List (Int × Int))
 | (a, some ⟨u, ys⟩) => if h : u = Ty.pair (Ty.int .i64) (Ty.int .i64) then some (a.1, castU h ys) else none
 | _ => none
theorem Zmw : ∀ b r, ZbD b = some r → ZgI r = b := by
 rintro ⟨a, o⟩ r h
 cases o with
 | none => cases h
 | some s =>
  obtain ⟨u, ys⟩ := s
  simp only [ZbD] at h
  split at h
  ·rename_i hu; subst hu; injection h with h; subst h; rfl
  ·cases h
noncomputable def Z3A : Nat → List (Int × Int) → Int → Int → Option (List (Int × Int) × Int)
 | 0, _, _, _ => none
 | k + 1, o1, v1, v5 =>
  if decide (v5 < (↑(List.length o1) : Int)) = true then if (0 : Int) ≤ v5 then if v5 < (↑(List.length o1) : Int) then if (0 : Int) ≤ v5 then if v5 < (↑(List.length (List.set o1 (Int.toNat v5) (v1, Prod.snd (List.getD o1 (Int.toNat v5) ((0 : Int), (0 : Int)))))) : Int) then Z3A k (List.set (List.set o1 (Int.toNat v5) (v1, Prod.snd (List.getD o1 (Int.toNat v5) ((0 : Int), (0 : Int))))) (Int.toNat v5) (Prod.fst (List.getD (List.set o1 (Int.toNat v5) (v1, Prod.snd (List.getD o1 (Int.toNat v5) ((0 : Int), (0 : Int))))) (Int.toNat v5) ((0 : Int), (0 : Int))), wrap64 (v1 + (1 : Int)))) (wrap64 (wrap64 (v1 + (1 : Int)) + (1 : Int))) (wrap64 (v5 + (1 : Int))) else none else none else none else none else some (o1, v1)
noncomputable def Za8 : Spec := Spec.mk [OSh.ro, OSh.row false (73 : Nat) (Ty.pair (Ty.int .i64) (Ty.int .i64))] [((0 : Nat), TSh.at (Sh.sl (1 : Nat))), ((1 : Nat), TSh.at (Sh.int .i64)), ((5 : Nat), TSh.at (Sh.int .i64))]
noncomputable def ZoQ : Spec := Spec.mk [OSh.ro, OSh.row false (73 : Nat) (Ty.pair (Ty.int .i64) (Ty.int .i64))] [((1 : Nat), TSh.at (Sh.int .i64))]
noncomputable def Z34 : LoopDef (Tup Z5i × OutD) := .plain Za8 ZoQ (List (Int × Int) × Int) (fun k x => Z3A k x.1.2.1 x.2.2.1 x.2.2.2.1) (fun z => (((), z.1, ()), (z.2, ()))) (fun y => (y.1.2.1, y.2.1)) (fun _ => rfl)
noncomputable def ZcM : Nat → List (Int × Int) → Int → Option (Int × List (Int × Int))
 | 0, _, _ => none
 | k + 1, p0, p1 =>
  Option.bind (Z3A k p0 p1 (0 : Int)) fun z0 => some (Prod.snd z0, Prod.fst z0)
noncomputable def Z2d : FnDef := .of Zi1 Z5i (Int × List (Int × Int)) (fun k x => ZcM k x.1 x.2.1) ZgI ZbD Zmw
noncomputable def Z9d : Code := Try.f48.body.getD .skip
noncomputable def Z3e : Ctx (Tup Z5i × OutD) := { T := T, G := [], mvs := [], no := 1, n := 27, res := resOf T Zi1 Z5i Try.f48.results.toList, loops := [(0, Z34.E)], regs := [], conds := [], cuts := [] }
theorem Zih (k : Nat) : EnvOK Try.prog k Z3e.G := (EnvOK.nil mixed)
noncomputable def Z7p : Code := (findLoop 0 Z9d).getD .skip
theorem Zp1 (k : Nat) (x : Za8.D) : Z34.lp (k + 1) x = loopK Z3e Z34 0 Z7p k x := by kernel_rfl
theorem Zp2 (k : Nat) : LOK Try.prog Z3e k Z7p := LOK.by [] (by kernel_rfl) AllOK.nil
theorem ZoO (x : Za8.D) : Z34.lp 0 x = none := by kernel_rfl
theorem Zn5 (k : Nat) : EOK Try.prog Z3e k Z34.E (.block 0 (.loop Z7p)) := Z2 T_ok Zih ZoO Zp1 Zp2 k
theorem ZtC (k : Nat) (x : Tup Z2d.ps) : Z2d.f (k + 1) x = fnK Z2d Z3e Z9d k x := by kernel_rfl
theorem ZuF (x : Tup Z2d.ps) : Z2d.f 0 x = none := by kernel_rfl
theorem Ztu (k : Nat) : LOK Try.prog Z3e k Z9d := LOK.by [(Z34.E, .block 0 (.loop Z7p))] (by kernel_rfl) (AllOK.cons (Zn5 k) AllOK.nil)
theorem Zuk (k : Nat) : SoundAt Try.prog k 48 Z2d.E := @Z1 Try.prog Z2d Z3e 48 Try.f48 Z9d (by kernel_rfl) (by kernel_rfl) (by kernel_rfl) Try.func48 (by kernel_rfl) (by kernel_rfl) (by kernel_rfl) T_ok Zih Ztu ZuF ZtC k
noncomputable def Z7H : List PK := [PK.mk (Ty.int .i64) false none false none]
noncomputable def ZnE : List PK := [PK.mk (Ty.slice (94 : Nat) (Ty.pair (Ty.int .i64) (Ty.pair (Ty.int .i64) (Ty.int .i64)))) false none false none, PK.mk (Ty.slice (94 : Nat) (Ty.pair (Ty.int .i64) (Ty.pair (Ty.int .i64) (Ty.int .i64)))) false none false none]
noncomputable def ZeJ (r : Int) : Tup Z7H × OutD := ((r, ()), none)
noncomputable def ZeK : Tup Z7H × OutD → Option (Int)
 | (a, none) => some (a.1)
 | _ => none
theorem Zgi : ∀ b r, ZeK b = some r → ZeJ r = b := by
 rintro ⟨a, o⟩ r h
 cases o with
 | none => injection h with h; subst h; rfl
 | some _ => cases h
noncomputable def Z63 : Nat → List (Int × Int × Int) → List (Int × Int × Int) → Int → Int → Option (LR Unit Int)
 | 0, _, _, _, _ => none
 | k + 1, v1, v7, v8, v9 =>
  if decide (v9 < v8) = true then if (0 : Int) ≤ v9 then if v9 < (↑(List.length v7) : Int) then if (0 : Int) ≤ v9 then if v9 < (↑(List.length v1) : Int) then if (!(decide (Prod.fst (List.getD v7 (Int.toNat v9) ((0 : Int), (0 : Int), (0 : Int))) = Prod.fst (List.getD v1 (Int.toNat v9) ((0 : Int), (0 : Int), (0 : Int)))) && (decide (Prod.fst (Prod.snd (List.getD v7 (Int.toNat v9) ((0 : Int), (0 : Int), (0 : Int)))) = Prod.fst (Prod.snd (List.getD v1 (Int.toNat v9) ((0 : Int), (0 : Int), (0 : Int))))) && (decide (Prod.snd (Prod.snd (List.getD v7 (Int.toNat v9) ((0 : Int), (0 : Int), (0 : Int)))) = Prod.snd (Prod.snd (List.getD v1 (Int.toNat v9) ((0 : Int), (0 : Int), (0 : Int))))) && true)))) = true then some (LR.ret v9) else Z63 k v1 v7 v8 (wrap64 (v9 + (1 : Int))) else none else none else none else none else some (LR.go ())
noncomputable def ZcV : Spec := Spec.mk [OSh.ro] [((1 : Nat), TSh.at (Sh.snap (0 : Nat) (Ty.pair (Ty.int .i64) (Ty.pair (Ty.int .i64) (Ty.int .i64))))), ((7 : Nat), TSh.at (Sh.snap (0 : Nat) (Ty.pair (Ty.int .i64) (Ty.pair (Ty.int .i64) (Ty.int .i64))))), ((8 : Nat), TSh.at (Sh.int .i64)), ((9 : Nat), TSh.at (Sh.int .i64))]
noncomputable def Zuj : Spec := Spec.mk [OSh.ro] []
noncomputable def Z58 : LoopDef (Tup Z7H × OutD) := .rets ZcV Zuj (Unit) (Int) (fun k x => Z63 k x.2.1 x.2.2.1 x.2.2.2.1 x.2.2.2.2.1) (fun z => (((), ()), (()))) (fun y => ()) (fun _ => rfl) ZeJ ZeK Zgi
noncomputable def Zcc : Nat → List (Int × Int × Int) → List (Int × Int × Int) → Option Int
 | 0, _, _ => none
 | k + 1, p0, p1 =>
  Option.bind (Z63 k p1 p0 (↑(List.length p0) : Int) (0 : Int)) fun z0 => LR.on z0 (fun y0 => some (-1 : Int)) fun r0 => some r0
noncomputable def Z4w : FnDef := .of ZnE Z7H (Int) (fun k x => Zcc k x.1 x.2.1) ZeJ ZeK Zgi
noncomputable def ZcG : Code := Try.f59.body.getD .skip
noncomputable def Z6f : Ctx (Tup Z7H × OutD) := { T := T, G := [], mvs := [], no := 0, n := 22, res := resOf T ZnE Z7H Try.f59.results.toList, loops := [(0, Z58.E)], regs := [], conds := [], cuts := [] }
theorem Zo6 (k : Nat) : EnvOK Try.prog k Z6f.G := (EnvOK.nil mixed)
noncomputable def Z9l : Code := (findLoop 0 ZcG).getD .skip
theorem Zur (k : Nat) (x : ZcV.D) : Z58.lp (k + 1) x = loopK Z6f Z58 0 Z9l k x := by kernel_rfl
theorem ZtA (k : Nat) : LOK Try.prog Z6f k Z9l := LOK.by [] (by kernel_rfl) AllOK.nil
theorem Zun (x : ZcV.D) : Z58.lp 0 x = none := by kernel_rfl
theorem Zsw (k : Nat) : EOK Try.prog Z6f k Z58.E (.block 0 (.loop Z9l)) := Z2 T_ok Zo6 Zun Zur ZtA k
theorem ZyM (k : Nat) (x : Tup Z4w.ps) : Z4w.f (k + 1) x = fnK Z4w Z6f ZcG k x := by kernel_rfl
theorem Zyu (x : Tup Z4w.ps) : Z4w.f 0 x = none := by kernel_rfl
theorem ZyF (k : Nat) : LOK Try.prog Z6f k ZcG := LOK.by [(Z58.E, .block 0 (.loop Z9l))] (by kernel_rfl) (AllOK.cons (Zsw k) AllOK.nil)
theorem Zyc (k : Nat) : SoundAt Try.prog k 59 Z4w.E := @Z1 Try.prog Z4w Z6f 59 Try.f59 ZcG (by kernel_rfl) (by kernel_rfl) (by kernel_rfl) Try.func59 (by kernel_rfl) (by kernel_rfl) (by kernel_rfl) T_ok Zo6 ZyF Zyu ZyM k
noncomputable def Z9V : List PK := [PK.mk (Ty.pair (Ty.int .i64) (Ty.int .i64)) true none false none]
noncomputable def Zoi : List PK := [PK.mk (Ty.pair (Ty.int .i64) (Ty.int .i64)) true none false none]
noncomputable def ZlM (r : Int × Int) : Tup Z9V × OutD := ((r, ()), none)
noncomputable def ZlD : Tup Z9V × OutD → Option (Int × Int)
 | (a, none) => some (a.1)
 | _ => none
theorem Zsf : ∀ b r, ZlD b = some r → ZlM r = b := by
 rintro ⟨a, o⟩ r h
 cases o with
 | none => injection h with h; subst h; rfl
 | some _ => cases h
noncomputable def ZfE : Nat → Int × Int → Option (Int × Int)
 | 0, _ => none
 | k + 1, p0 =>
  some (Prod.fst p0, Prod.snd p0)
noncomputable def Z4y : FnDef := .of Zoi Z9V (Int × Int) (fun k x => ZfE k x.1) ZlM ZlD Zsf
noncomputable def ZfJ : Code := Try.f60.body.getD .skip
noncomputable def ZcD : Ctx (Tup Z9V × OutD) := { T := T, G := [], mvs := [], no := 0, n := 11, res := resOf T Zoi Z9V Try.f60.results.toList, loops := [], regs := [], conds := [], cuts := [] }
theorem Zz4 (k : Nat) : EnvOK Try.prog k ZcD.G := (EnvOK.nil mixed)
theorem Zyh (k : Nat) (x : Tup Z4y.ps) : Z4y.f (k + 1) x = fnK Z4y ZcD ZfJ k x := by kernel_rfl
theorem Zzj (x : Tup Z4y.ps) : Z4y.f 0 x = none := by kernel_rfl
theorem Zze (k : Nat) : LOK Try.prog ZcD k ZfJ := LOK.by [] (by kernel_rfl) AllOK.nil
theorem Zyl (k : Nat) : SoundAt Try.prog k 60 Z4y.E := @Z1 Try.prog Z4y ZcD 60 Try.f60 ZfJ (by kernel_rfl) (by kernel_rfl) (by kernel_rfl) Try.func60 (by kernel_rfl) (by kernel_rfl) (by kernel_rfl) T_ok Zz4 Zze Zzj Zyh k
noncomputable def Z9Y : List PK := [PK.mk Ty.bool false none false none]
noncomputable def ZnS : List PK := [PK.mk (Ty.pair (Ty.int .i64) (Ty.int .i64)) true none false none, PK.mk (Ty.pair (Ty.int .i64) (Ty.int .i64)) true none false none]
noncomputable def ZkU (r : Bool) : Tup Z9Y × OutD := ((r, ()), none)
noncomputable def Zlo : Tup Z9Y × OutD → Option (Bool)
 | (a, none) => some (a.1)
 | _ => none
theorem Zsm : ∀ b r, Zlo b = some r → ZkU r = b := by
 rintro ⟨a, o⟩ r h
 cases o with
 | none => injection h with h; subst h; rfl
 | some _ => cases h
noncomputable def Zcq : Nat → Int × Int → Int × Int → Option Bool
 | 0, _, _ => none
 | k + 1, p0, p1 =>
  if decide (Prod.fst p0 ≠ Prod.fst p1) = true then some false else if decide (Prod.snd p0 ≠ Prod.snd p1) = true then some false else some true
noncomputable def Z4B : FnDef := .of ZnS Z9Y (Bool) (fun k x => Zcq k x.1 x.2.1) ZkU Zlo Zsm
noncomputable def ZfK : Code := Try.f67.body.getD .skip
noncomputable def Zcm : Ctx (Tup Z9Y × OutD) := { T := T, G := [], mvs := [], no := 0, n := 15, res := resOf T ZnS Z9Y Try.f67.results.toList, loops := [], regs := [], conds := [], cuts := [] }
theorem Zz0 (k : Nat) : EnvOK Try.prog k Zcm.G := (EnvOK.nil mixed)
theorem Zyj (k : Nat) (x : Tup Z4B.ps) : Z4B.f (k + 1) x = fnK Z4B Zcm ZfK k x := by kernel_rfl
theorem ZyC (x : Tup Z4B.ps) : Z4B.f 0 x = none := by kernel_rfl
theorem ZzG (k : Nat) : LOK Try.prog Zcm k ZfK := LOK.by [] (by kernel_rfl) AllOK.nil
theorem Zz3 (k : Nat) : SoundAt Try.prog k 67 Z4B.E := @Z1 Try.prog Z4B Zcm 67 Try.f67 ZfK (by kernel_rfl) (by kernel_rfl) (by kernel_rfl) Try.func67 (by kernel_rfl) (by kernel_rfl) (by kernel_rfl) T_ok Zz0 ZzG ZyC Zyj k
noncomputable def Z8X : List PK := [PK.mk (Ty.slice (3 : Nat) (Ty.int .i64)) false none false none]
noncomputable def Zr4 : List PK := [PK.mk (Ty.slice (3 : Nat) (Ty.int .i64)) false (some ((0 : Nat), (3 : Nat), Ty.int .i64)) true none, PK.mk (Ty.int .i64) false none false none]
noncomputable def ZnI (r : List Int) : Tup Z8X × OutD := ((r, ()), none)
noncomputable def Zo8 : Tup Z8X × OutD → Option (List Int)
 | (a, none) => some (a.1)
 | _ => none
theorem Zug : ∀ b r, Zo8 b = some r → ZnI r = b := by
 rintro ⟨a, o⟩ r h
 cases o with
 | none => injection h with h; subst h; rfl
 | some _ => cases h
noncomputable def Z5d : Nat → List Int → Int → Int → Option (List Int × Int × Int)
 | 0, _, _, _ => none
 | k + 1, o1, v1, v5 =>
  if decide (v5 < (↑(List.length o1) : Int)) = true then if (0 : Int) ≤ v5 then if v5 < (↑(List.length o1) : Int) then if decide (List.getD o1 (Int.toNat v5) (0 : Int) < v1) = true then Z5d k o1 v1 (wrap64 (v5 + (1 : Int))) else some (o1, v1, v5) else none else none else some (o1, v1, v5)
noncomputable def ZdL : Spec := Spec.mk [OSh.ro, OSh.row true (3 : Nat) (Ty.int .i64)] [((0 : Nat), TSh.at (Sh.sl (1 : Nat))), ((1 : Nat), TSh.at (Sh.int .i64)), ((5 : Nat), TSh.at (Sh.int .i64))]
noncomputable def Zvw : Spec := Spec.mk [OSh.ro, OSh.row true (3 : Nat) (Ty.int .i64)] [((0 : Nat), TSh.at (Sh.sl (1 : Nat))), ((1 : Nat), TSh.at (Sh.int .i64)), ((5 : Nat), TSh.at (Sh.int .i64))]
noncomputable def Z5U : LoopDef (Tup Z8X × OutD) := .plain ZdL Zvw (List Int × Int × Int) (fun k x => Z5d k x.1.2.1 x.2.2.1 x.2.2.2.1) (fun z => (((), z.1, ()), ((), z.2.1, z.2.2, ()))) (fun y => (y.1.2.1, y.2.2.1, y.2.2.2.1)) (fun _ => rfl)
noncomputable def Ze3 : Nat → List Int → Int → Option (List Int)
 | 0, _, _ => none
 | k + 1, p0, p1 =>
  Option.bind (Z5d k p0 p1 (0 : Int)) fun z0 => if decide (Prod.snd z0.2 < (↑(List.length z0.1) : Int)) = true then if (0 : Int) ≤ Prod.snd z0.2 then if Prod.snd z0.2 < (↑(List.length z0.1) : Int) then if decide (List.getD z0.1 (Int.toNat z0.2.2) (0 : Int) = Prod.fst z0.2) = true then some z0.1 else if (0 : Int) ≤ Prod.snd z0.2 then if Prod.snd z0.2 ≤ (↑(List.length z0.1) : Int) then if (0 : Nat) + List.length (List.take (Int.toNat z0.2.2 - Int.toNat (0 : Int)) (List.drop (Int.toNat (0 : Int)) z0.1)) ≤ (140737488355328 / 8 : Nat) then if List.length (List.take (Int.toNat z0.2.2 - Int.toNat (0 : Int)) (List.drop (Int.toNat (0 : Int)) z0.1)) + List.length [Prod.fst z0.2] ≤ (140737488355328 / 8 : Nat) then if (0 : Int) ≤ Prod.snd z0.2 then if Prod.snd z0.2 ≤ (↑(List.length z0.1) : Int) then if (↑(List.length z0.1) : Int) ≤ (↑(List.length z0.1) : Int) then if List.length (List.take (Int.toNat z0.2.2 - Int.toNat (0 : Int)) (List.drop (Int.toNat (0 : Int)) z0.1) ++ [Prod.fst z0.2]) + List.length (List.take (Int.toNat (↑(List.length z0.1) : Int) - Int.toNat z0.2.2) (List.drop (Int.toNat z0.2.2) z0.1)) ≤ (140737488355328 / 8 : Nat) then some (List.take (Int.toNat z0.2.2 - Int.toNat (0 : Int)) (List.drop (Int.toNat (0 : Int)) z0.1) ++ [Prod.fst z0.2] ++ List.take (Int.toNat (↑(List.length z0.1) : Int) - Int.toNat z0.2.2) (List.drop (Int.toNat z0.2.2) z0.1)) else none else none else none else none else none else none else none else none else none else none else if (0 : Int) ≤ Prod.snd z0.2 then if Prod.snd z0.2 ≤ (↑(List.length z0.1) : Int) then if (0 : Nat) + List.length (List.take (Int.toNat z0.2.2 - Int.toNat (0 : Int)) (List.drop (Int.toNat (0 : Int)) z0.1)) ≤ (140737488355328 / 8 : Nat) then if List.length (List.take (Int.toNat z0.2.2 - Int.toNat (0 : Int)) (List.drop (Int.toNat (0 : Int)) z0.1)) + List.length [Prod.fst z0.2] ≤ (140737488355328 / 8 : Nat) then if (0 : Int) ≤ Prod.snd z0.2 then if Prod.snd z0.2 ≤ (↑(List.length z0.1) : Int) then if (↑(List.length z0.1) : Int) ≤ (↑(List.length z0.1) : Int) then if List.length (List.take (Int.toNat z0.2.2 - Int.toNat (0 : Int)) (List.drop (Int.toNat (0 : Int)) z0.1) ++ [Prod.fst z0.2]) + List.length (List.take (Int.toNat (↑(List.length z0.1) : Int) - Int.toNat z0.2.2) (List.drop (Int.toNat z0.2.2) z0.1)) ≤ (140737488355328 / 8 : Nat) then some (List.take (Int.toNat z0.2.2 - Int.toNat (0 : Int)) (List.drop (Int.toNat (0 : Int)) z0.1) ++ [Prod.fst z0.2] ++ List.take (Int.toNat (↑(List.length z0.1) : Int) - Int.toNat z0.2.2) (List.drop (Int.toNat z0.2.2) z0.1)) else none else none else none else none else none else none else none else none
noncomputable def Z5K : FnDef := .of Zr4 Z8X (List Int) (fun k x => Ze3 k x.1 x.2.1) ZnI Zo8 Zug
noncomputable def ZdM : Code := Try.f68.body.getD .skip
noncomputable def Z79 : Ctx (Tup Z8X × OutD) := { T := T, G := [], mvs := [], no := 1, n := 48, res := resOf T Zr4 Z8X Try.f68.results.toList, loops := [(0, Z5U.E)], regs := [], conds := [], cuts := [] }
theorem Zrg (k : Nat) : EnvOK Try.prog k Z79.G := (EnvOK.nil mixed)
noncomputable def Zax : Code := (findLoop 0 ZdM).getD .skip
theorem Zv9 (k : Nat) (x : ZdL.D) : Z5U.lp (k + 1) x = loopK Z79 Z5U 0 Zax k x := by kernel_rfl
theorem ZvQ (k : Nat) : LOK Try.prog Z79 k Zax := LOK.by [] (by kernel_rfl) AllOK.nil
theorem Zw6 (x : ZdL.D) : Z5U.lp 0 x = none := by kernel_rfl
theorem Zu9 (k : Nat) : EOK Try.prog Z79 k Z5U.E (.block 0 (.loop Zax)) := Z2 T_ok Zrg Zw6 Zv9 ZvQ k
theorem ZAi (k : Nat) (x : Tup Z5K.ps) : Z5K.f (k + 1) x = fnK Z5K Z79 ZdM k x := by kernel_rfl
theorem ZAq (x : Tup Z5K.ps) : Z5K.f 0 x = none := by kernel_rfl
theorem ZAp (k : Nat) : LOK Try.prog Z79 k ZdM := LOK.by [(Z5U.E, .block 0 (.loop Zax))] (by kernel_rfl) (AllOK.cons (Zu9 k) AllOK.nil)
theorem ZzV (k : Nat) : SoundAt Try.prog k 68 Z5K.E := @Z1 Try.prog Z5K Z79 68 Try.f68 ZdM (by kernel_rfl) (by kernel_rfl) (by kernel_rfl) Try.func68 (by kernel_rfl) (by kernel_rfl) (by kernel_rfl) T_ok Zrg ZAp ZAq ZAi k
noncomputable def Zm : List PK := [PK.mk Ty.bool false none false none]
noncomputable def Z6p : List PK := [PK.mk (Ty.slice (94 : Nat) (Ty.pair (Ty.int .i64) (Ty.pair (Ty.int .i64) (Ty.int .i64)))) false none false none, PK.mk (Ty.slice (94 : Nat) (Ty.pair (Ty.int .i64) (Ty.pair (Ty.int .i64) (Ty.int .i64)))) false none false none]
noncomputable def Z2z (r : Bool) : Tup Zm × OutD := ((r, ()), none)
noncomputable def Z2F : Tup Zm × OutD → Option (Bool)
 | (a, none) => some (a.1)
 | _ => none
theorem Z4K : ∀ b r, Z2F b = some r → Z2z r = b := by
 rintro ⟨a, o⟩ r h
 cases o with
 | none => injection h with h; subst h; rfl
 | some _ => cases h
noncomputable def Zj : Nat → List (Int × Int × Int) → List (Int × Int × Int) → Int → Int → Option (LR Unit Bool)
 | 0, _, _, _, _ => none
 | k + 1, v0, v1, v12, v13 =>
  if decide (v13 < v12) = true then if (0 : Int) ≤ v13 then if v13 < (↑(List.length v0) : Int) then if (0 : Int) ≤ v13 then if v13 < (↑(List.length v1) : Int) then if (!(decide (Prod.fst (List.getD v0 (Int.toNat v13) ((0 : Int), (0 : Int), (0 : Int))) = Prod.fst (List.getD v1 (Int.toNat v13) ((0 : Int), (0 : Int), (0 : Int)))) && (decide (Prod.fst (Prod.snd (List.getD v0 (Int.toNat v13) ((0 : Int), (0 : Int), (0 : Int)))) = Prod.fst (Prod.snd (List.getD v1 (Int.toNat v13) ((0 : Int), (0 : Int), (0 : Int))))) && (decide (Prod.snd (Prod.snd (List.getD v0 (Int.toNat v13) ((0 : Int), (0 : Int), (0 : Int)))) = Prod.snd (Prod.snd (List.getD v1 (Int.toNat v13) ((0 : Int), (0 : Int), (0 : Int))))) && true)))) = true then some (LR.ret false) else Zj k v0 v1 v12 (wrap64 (v13 + (1 : Int))) else none else none else none else none else some (LR.go ())
noncomputable def Z1Z : Spec := Spec.mk [OSh.ro] [((0 : Nat), TSh.at (Sh.snap (0 : Nat) (Ty.pair (Ty.int .i64) (Ty.pair (Ty.int .i64) (Ty.int .i64))))), ((1 : Nat), TSh.at (Sh.snap (0 : Nat) (Ty.pair (Ty.int .i64) (Ty.pair (Ty.int .i64) (Ty.int .i64))))), ((12 : Nat), TSh.at (Sh.int .i64)), ((13 : Nat), TSh.at (Sh.int .i64))]
noncomputable def ZaB : Spec := Spec.mk [OSh.ro] []
noncomputable def Zh : LoopDef (Tup Zm × OutD) := .rets Z1Z ZaB (Unit) (Bool) (fun k x => Zj k x.2.1 x.2.2.1 x.2.2.2.1 x.2.2.2.2.1) (fun z => (((), ()), (()))) (fun y => ()) (fun _ => rfl) Z2z Z2F Z4K
noncomputable def Z12 : Nat → List (Int × Int × Int) → List (Int × Int × Int) → Option Bool
 | 0, _, _ => none
 | k + 1, p0, p1 =>
  if decide ((↑(List.length p0) : Int) ≠ (↑(List.length p1) : Int)) = true then some false else Option.bind (Zj k p0 p1 (↑(List.length p0) : Int) (0 : Int)) fun z0 => LR.on z0 (fun y0 => some true) fun r0 => some r0
noncomputable def Z9 : FnDef := .of Z6p Zm (Bool) (fun k x => Z12 k x.1 x.2.1) Z2z Z2F Z4K
noncomputable def Z14 : Code := Try.f78.body.getD .skip
noncomputable def Ze : Ctx (Tup Zm × OutD) := { T := T, G := [], mvs := [], no := 0, n := 26, res := resOf T Z6p Zm Try.f78.results.toList, loops := [(0, Zh.E)], regs := [], conds := [], cuts := [] }
theorem Z6q (k : Nat) : EnvOK Try.prog k Ze.G := (EnvOK.nil mixed)
noncomputable def ZJ : Code := (findLoop 0 Z14).getD .skip
theorem ZaD (k : Nat) (x : Z1Z.D) : Zh.lp (k + 1) x = loopK Ze Zh 0 ZJ k x := by kernel_rfl
theorem ZaA (k : Nat) : LOK Try.prog Ze k ZJ := LOK.by [] (by kernel_rfl) AllOK.nil
theorem ZaC (x : Z1Z.D) : Zh.lp 0 x = none := by kernel_rfl
theorem Zac (k : Nat) : EOK Try.prog Ze k Zh.E (.block 0 (.loop ZJ)) := Z2 T_ok Z6q ZaC ZaD ZaA k
theorem ZbO (k : Nat) (x : Tup Z9.ps) : Z9.f (k + 1) x = fnK Z9 Ze Z14 k x := by kernel_rfl
theorem ZbP (x : Tup Z9.ps) : Z9.f 0 x = none := by kernel_rfl
theorem ZbM (k : Nat) : LOK Try.prog Ze k Z14 := LOK.by [(Zh.E, .block 0 (.loop ZJ))] (by kernel_rfl) (AllOK.cons (Zac k) AllOK.nil)
theorem ZbQ (k : Nat) : SoundAt Try.prog k 78 Z9.E := @Z1 Try.prog Z9 Ze 78 Try.f78 Z14 (by kernel_rfl) (by kernel_rfl) (by kernel_rfl) Try.func78 (by kernel_rfl) (by kernel_rfl) (by kernel_rfl) T_ok Z6q ZbM ZbP ZbO k
noncomputable def Zc1 : List PK := [PK.mk Ty.bool false none false none]
noncomputable def Ztm : List PK := [PK.mk (Ty.int .i64) false none false none, PK.mk (Ty.int .i64) false none false none, PK.mk (Ty.int .i64) false none false none]
noncomputable def ZpT (r : Bool) : Tup Zc1 × OutD := ((r, ()), none)
noncomputable def ZqZ : Tup Zc1 × OutD → Option (Bool)
 | (a, none) => some (a.1)
 | _ => none
theorem ZvA : ∀ b r, ZqZ b = some r → ZpT r = b := by
 rintro ⟨a, o⟩ r h
 cases o with
 | none => injection h with h; subst h; rfl
 | some _ => cases h
noncomputable def Z6I : Nat → Int → Int → Int → Option Bool
 | 0, _, _, _ => none
 | k + 1, p0, p1, p2 =>
  if decide (p0 ≥ p1) = true then some (decide (p0 ≤ p2)) else some false
noncomputable def Z3a : FnDef := .of Ztm Zc1 (Bool) (fun k x => Z6I k x.1 x.2.1 x.2.2.1) ZpT ZqZ ZvA
noncomputable def Zk4 : Code := Try.f85.body.getD .skip
noncomputable def Zfa : Ctx (Tup Zc1 × OutD) := { T := T, G := [], mvs := [], no := 0, n := 15, res := resOf T Ztm Zc1 Try.f85.results.toList, loops := [], regs := [], conds := [], cuts := [] }
theorem ZAW (k : Nat) : EnvOK Try.prog k Zfa.G := (EnvOK.nil mixed)
theorem ZB0 (k : Nat) (x : Tup Z3a.ps) : Z3a.f (k + 1) x = fnK Z3a Zfa Zk4 k x := by kernel_rfl
theorem ZAG (x : Tup Z3a.ps) : Z3a.f 0 x = none := by kernel_rfl
theorem ZBp (k : Nat) : LOK Try.prog Zfa k Zk4 := LOK.by [] (by kernel_rfl) AllOK.nil
theorem Zf3 (k : Nat) : SoundAt Try.prog k 85 Z3a.E := @Z1 Try.prog Z3a Zfa 85 Try.f85 Zk4 (by kernel_rfl) (by kernel_rfl) (by kernel_rfl) Try.func85 (by kernel_rfl) (by kernel_rfl) (by kernel_rfl) T_ok ZAW ZBp ZAG ZB0 k
noncomputable def Z9N : List PK := [PK.mk Ty.bool false none false none]
noncomputable def ZnZ : List PK := [PK.mk (Ty.pair (Ty.int .i64) (Ty.int .i64)) true none false none]
noncomputable def Zl0 (r : Bool) : Tup Z9N × OutD := ((r, ()), none)
noncomputable def Zmk : Tup Z9N × OutD → Option (Bool)
 | (a, none) => some (a.1)
 | _ => none
theorem Zsg : ∀ b r, Zmk b = some r → Zl0 r = b := by
 rintro ⟨a, o⟩ r h
 cases o with
 | none => injection h with h; subst h; rfl
 | some _ => cases h
noncomputable def Z7L : Nat → Int × Int → Option Bool
 | 0, _ => none
 | k + 1, p0 =>
  if decide (Prod.fst p0 < (0 : Int)) = true then some false else if decide (Prod.fst p0 > (7 : Int)) = true then some false else if decide (Prod.snd p0 < (0 : Int)) = true then some false else if decide (Prod.snd p0 > (1 : Int)) = true then some false else if decide (Prod.snd p0 = (0 : Int)) = true then some true else if decide (Prod.fst p0 = (3 : Int)) = true then some true else some (decide (Prod.fst p0 = (6 : Int)))
noncomputable def Z2j : FnDef := .of ZnZ Z9N (Bool) (fun k x => Z7L k x.1) Zl0 Zmk Zsg
noncomputable def ZfS : Code := Try.f89.body.getD .skip
noncomputable def Zce : Ctx (Tup Z9N × OutD) := { T := T, G := [], mvs := [], no := 0, n := 34, res := resOf T ZnZ Z9N Try.f89.results.toList, loops := [], regs := [], conds := [], cuts := [] }
theorem Zz2 (k : Nat) : EnvOK Try.prog k Zce.G := (EnvOK.nil mixed)
theorem ZyY (k : Nat) (x : Tup Z2j.ps) : Z2j.f (k + 1) x = fnK Z2j Zce ZfS k x := by kernel_rfl
theorem ZyD (x : Tup Z2j.ps) : Z2j.f 0 x = none := by kernel_rfl
theorem ZyN (k : Nat) : LOK Try.prog Zce k ZfS := LOK.by [] (by kernel_rfl) AllOK.nil
theorem ZfO (k : Nat) : SoundAt Try.prog k 89 Z2j.E := @Z1 Try.prog Z2j Zce 89 Try.f89 ZfS (by kernel_rfl) (by kernel_rfl) (by kernel_rfl) Try.func89 (by kernel_rfl) (by kernel_rfl) (by kernel_rfl) T_ok Zz2 ZyN ZyD ZyY k
noncomputable def Z4N : List PK := [PK.mk (Ty.pair (Ty.int .i64) (Ty.pair (Ty.int .i64) (Ty.slice (73 : Nat) (Ty.pair (Ty.int .i64) (Ty.int .i64))))) true none false none]
noncomputable def ZhG : List PK := [PK.mk (Ty.pair (Ty.int .i64) (Ty.pair (Ty.int .i64) (Ty.slice (73 : Nat) (Ty.pair (Ty.int .i64) (Ty.int .i64))))) true none false none]
noncomputable def Zgf (r : Int × Int × List (Int × Int)) : Tup Z4N × OutD := ((r, ()), none)
noncomputable def Zgn : Tup Z4N × OutD → Option (Int × Int × List (Int × Int))
 | (a, none) => some (a.1)
 | _ => none
theorem Znc : ∀ b r, Zgn b = some r → Zgf r = b := by
 rintro ⟨a, o⟩ r h
 cases o with
 | none => injection h with h; subst h; rfl
 | some _ => cases h
noncomputable def Z33 : Nat → Int → Int → List (Int × Int) → Int → Int → List (Int × Int) → Option (Int × Int × List (Int × Int)) := fun k b1_0 b1_1 b1_2 b2_0 b2_1 o3 =>
    if (0 : Nat) + List.length b1_2 ≤ (140737488355328 / 16 : Nat) then some (b1_0, b1_1, b1_2) else none
noncomputable def Z6A : Nat → Int → Int → List (Int × Int) → Int → Int → List (Int × Int) → Option (List (Int × Int × List (Int × Int))) := fun k b1_0 b1_1 b1_2 b2_0 b2_1 o3 =>
    joinL (joinL (if (0 : Nat) + List.length b1_2 ≤ (140737488355328 / 16 : Nat) then some [(b1_0, b1_1, b1_2)] else none) (joinL (if (0 : Nat) + List.length b1_2 ≤ (140737488355328 / 16 : Nat) then some [(b1_0, b1_1, b1_2)] else none) (if (0 : Nat) + List.length b1_2 ≤ (140737488355328 / 16 : Nat) then some [(b1_0, b1_1, b1_2)] else none))) (joinL (joinL (if (0 : Nat) + List.length b1_2 ≤ (140737488355328 / 16 : Nat) then some [(b1_0, b1_1, b1_2)] else none) (joinL (if (0 : Nat) + List.length b1_2 ≤ (140737488355328 / 16 : Nat) then some [(b1_0, b1_1, b1_2)] else none) (if (0 : Nat) + List.length b1_2 ≤ (140737488355328 / 16 : Nat) then some [(b1_0, b1_1, b1_2)] else none))) (joinL (joinL (if (0 : Nat) + List.length b1_2 ≤ (140737488355328 / 16 : Nat) then some [(b1_0, b1_1, b1_2)] else none) (if (0 : Nat) + List.length b1_2 ≤ (140737488355328 / 16 : Nat) then some [(b1_0, b1_1, b1_2)] else none)) (joinL (joinL (if (0 : Nat) + List.length b1_2 ≤ (140737488355328 / 16 : Nat) then some [(b1_0, b1_1, b1_2)] else none) (if (0 : Nat) + List.length b1_2 ≤ (140737488355328 / 16 : Nat) then some [(b1_0, b1_1, b1_2)] else none)) (if (0 : Nat) + List.length b1_2 ≤ (140737488355328 / 16 : Nat) then joinL (some [(b1_0, b1_1, b1_2)]) (some [(b1_0, b1_1, b1_2)]) else none))))
noncomputable def ZdZ : Spec := Spec.mk [OSh.ro, OSh.box (33 : Nat) [Sh.int .i64, Sh.int .i64, Sh.snap (0 : Nat) (Ty.pair (Ty.int .i64) (Ty.int .i64))], OSh.box (33 : Nat) [Sh.int .i64, Sh.int .i64, Sh.sl (3 : Nat)], OSh.row true (73 : Nat) (Ty.pair (Ty.int .i64) (Ty.int .i64))] [((1 : Nat), TSh.at (Sh.ptr (1 : Nat) (0 : Nat))), ((2 : Nat), TSh.at (Sh.ptr (2 : Nat) (0 : Nat)))]
noncomputable def ZmP : Spec := Spec.mk [OSh.ro, OSh.box (33 : Nat) [Sh.int .i64, Sh.int .i64, Sh.sl (2 : Nat)], OSh.row true (73 : Nat) (Ty.pair (Ty.int .i64) (Ty.int .i64))] [((2 : Nat), TSh.at (Sh.ptr (1 : Nat) (0 : Nat)))]
noncomputable def Z2m : LoopDef (Tup Z4N × OutD) := .plain ZdZ ZmP (Int × Int × List (Int × Int)) (fun k x => Z33 k x.1.2.1.1 x.1.2.1.2.1 x.1.2.1.2.2.1 x.1.2.2.1.1 x.1.2.2.1.2.1 x.1.2.2.2.1) (fun z => (((), (z.1, z.2.1, (), ()), z.2.2, ()), ((), ()))) (fun y => (y.1.2.1.1, y.1.2.1.2.1, y.1.2.2.1)) (fun _ => rfl)
theorem ZmG (k : Nat) (b1_0 : Int) (b1_1 : Int) (b1_2 : List (Int × Int)) (b2_0 : Int) (b2_1 : Int) (o3 : List (Int × Int)) : Z6A k b1_0 b1_1 b1_2 b2_0 b2_1 o3 = repl 12 (Z33 k b1_0 b1_1 b1_2 b2_0 b2_1 o3) := by
 first
 | (simp only [Z6A, Z33, ZS, Z1Q, Z10, ZV, ZY, Zg, if_true]; done)
 | (simp only [Z6A, Z33, ZS, Z1Q, Z10, ZV, ZY, Zg, if_true]; simp only [Z9q, Z9o, ZcO, Zg]; simp only [ZeQ]; exact ZaK ⟨fun h => by simp only [h, and_self], fun h => by simp only [h, and_self]⟩)
noncomputable def Z9p : Nat → Int × Int × List (Int × Int) → Option (Int × Int × List (Int × Int))
 | 0, _ => none
 | k + 1, p0 =>
  Option.bind (Z33 k p0.1 p0.2.1 p0.2.2 (0 : Int) (0 : Int) []) fun z0 => some (Prod.fst z0, Prod.fst z0.2, Prod.snd z0.2)
noncomputable def Z2a : FnDef := .of ZhG Z4N (Int × Int × List (Int × Int)) (fun k x => Z9p k x.1) Zgf Zgn Znc
noncomputable def Z9L : Code := Try.f90.body.getD .skip
noncomputable def ZO : Ctx (Tup Z4N × OutD) := { T := T, G := [], mvs := [], no := 0, n := 12, res := resOf T ZhG Z4N Try.f90.results.toList, loops := [], regs := [(1, Z2m.E)], conds := [], cuts := [] }
theorem ZhF (k : Nat) : EnvOK Try.prog k ZO.G := (EnvOK.nil mixed)
noncomputable def Z9z : Array Oper := (findReg 1 Z9L).getD #[]
theorem ZmR (k : Nat) (x : ZdZ.D) : execD ZO.T ZO.G ZO.mvs k Z9z (Z2m.inp.st ZO.n x) (outK ZO Z2m) = Z6A k x.1.2.1.1 x.1.2.1.2.1 x.1.2.1.2.2.1 x.1.2.2.1.1 x.1.2.2.1.2.1 x.1.2.2.2.1 := by kernel_rfl
theorem ZlU (k : Nat) : EOK Try.prog ZO k Z2m.E (.region 1 Z9z true) := ZaY (D := Z2m) (m := 12) T_ok (ZhF k) (fun x => (ZmR k x).trans (ZmG k x.1.2.1.1 x.1.2.1.2.1 x.1.2.1.2.2.1 x.1.2.2.1.1 x.1.2.2.1.2.1 x.1.2.2.2.1))
theorem ZuY (k : Nat) (x : Tup Z2a.ps) : Z2a.f (k + 1) x = fnK Z2a ZO Z9L k x := by kernel_rfl
theorem ZuZ (x : Tup Z2a.ps) : Z2a.f 0 x = none := by kernel_rfl
theorem Zuq (k : Nat) : LOK Try.prog ZO k Z9L := LOK.by [(Z2m.E, .region 1 Z9z true)] (by kernel_rfl) (AllOK.cons (ZlU k) AllOK.nil)
theorem Zu2 (k : Nat) : SoundAt Try.prog k 90 Z2a.E := @Z1 Try.prog Z2a ZO 90 Try.f90 Z9L (by kernel_rfl) (by kernel_rfl) (by kernel_rfl) Try.func90 (by kernel_rfl) (by kernel_rfl) (by kernel_rfl) T_ok ZhF Zuq ZuZ ZuY k
noncomputable def Z30 : List PK := [PK.mk (Ty.slice (3 : Nat) (Ty.int .i64)) false none false none]
noncomputable def Zew : List PK := [PK.mk (Ty.pair (Ty.int .i64) (Ty.pair (Ty.int .i64) (Ty.slice (73 : Nat) (Ty.pair (Ty.int .i64) (Ty.int .i64))))) true none false none, PK.mk (Ty.slice (81 : Nat) (Ty.pair (Ty.int .i64) (Ty.pair (Ty.int .i64) (Ty.int .i64)))) false none false none]
noncomputable def ZdO (r : List Int) : Tup Z30 × OutD := ((r, ()), none)
noncomputable def Zdp : Tup Z30 × OutD → Option (List Int)
 | (a, none) => some (a.1)
 | _ => none
theorem ZiF : ∀ b r, Zdp b = some r → ZdO r = b := by
 rintro ⟨a, o⟩ r h
 cases o with
 | none => injection h with h; subst h; rfl
 | some _ => cases h
noncomputable def Z22 : Nat → Int → Int → List (Int × Int) → List Int → List (Int × Int × Int) → Int → Int → Option (List Int)
 | 0, _, _, _, _, _, _, _ => none
 | k + 1, b1_0, b1_1, b1_2, o2, v12, v13, v14 =>
  if decide (v14 < v13) = true then if (0 : Int) ≤ v14 then if v14 < (↑(List.length v12) : Int) then if (0 : Int) ≤ wrap64 (wrap64 (Prod.fst (Prod.snd (List.getD v12 (Int.toNat v14) ((0 : Int), (0 : Int), (0 : Int)))) * b1_1) + Prod.snd (Prod.snd (List.getD v12 (Int.toNat v14) ((0 : Int), (0 : Int), (0 : Int))))) then if wrap64 (wrap64 (Prod.fst (Prod.snd (List.getD v12 (Int.toNat v14) ((0 : Int), (0 : Int), (0 : Int)))) * b1_1) + Prod.snd (Prod.snd (List.getD v12 (Int.toNat v14) ((0 : Int), (0 : Int), (0 : Int))))) < (↑(List.length o2) : Int) then Z22 k b1_0 b1_1 b1_2 (List.set o2 (Int.toNat (wrap64 (wrap64 (Prod.fst (Prod.snd (List.getD v12 (Int.toNat v14) ((0 : Int), (0 : Int), (0 : Int)))) * b1_1) + Prod.snd (Prod.snd (List.getD v12 (Int.toNat v14) ((0 : Int), (0 : Int), (0 : Int))))))) (Prod.fst (List.getD v12 (Int.toNat v14) ((0 : Int), (0 : Int), (0 : Int))))) v12 v13 (wrap64 (v14 + (1 : Int))) else none else none else none else none else some o2
noncomputable def Z8g : Spec := Spec.mk [OSh.ro, OSh.box (33 : Nat) [Sh.int .i64, Sh.int .i64, Sh.snap (0 : Nat) (Ty.pair (Ty.int .i64) (Ty.int .i64))], OSh.row true (3 : Nat) (Ty.int .i64)] [((2 : Nat), TSh.at (Sh.ptr (1 : Nat) (0 : Nat))), ((5 : Nat), TSh.at (Sh.sl (2 : Nat))), ((12 : Nat), TSh.at (Sh.snap (0 : Nat) (Ty.pair (Ty.int .i64) (Ty.pair (Ty.int .i64) (Ty.int .i64))))), ((13 : Nat), TSh.at (Sh.int .i64)), ((14 : Nat), TSh.at (Sh.int .i64))]
noncomputable def Zkh : Spec := Spec.mk [OSh.ro, OSh.row true (3 : Nat) (Ty.int .i64)] [((5 : Nat), TSh.at (Sh.sl (1 : Nat)))]
noncomputable def Z1z : LoopDef (Tup Z30 × OutD) := .plain Z8g Zkh (List Int) (fun k x => Z22 k x.1.2.1.1 x.1.2.1.2.1 x.1.2.1.2.2.1 x.1.2.2.1 x.2.2.2.1 x.2.2.2.2.1 x.2.2.2.2.2.1) (fun z => (((), z, ()), ((), ()))) (fun y => (y.1.2.1)) (fun _ => rfl)
noncomputable def Z7k : Nat → Int × Int × List (Int × Int) → List (Int × Int × Int) → Option (List Int)
 | 0, _, _ => none
 | k + 1, p0, p1 =>
  if Int.toNat (↑(List.length p0.2.2) : Int) * (8 : Nat) ≤ (281474976710656 : Nat) then Option.bind (Z22 k p0.1 p0.2.1 p0.2.2 (List.replicate (Int.toNat (↑(List.length p0.2.2) : Int)) (0 : Int)) p1 (↑(List.length p1) : Int) (0 : Int)) fun z0 => some z0 else none
noncomputable def ZU : FnDef := .of Zew Z30 (List Int) (fun k x => Z7k k x.1 x.2.1) ZdO Zdp ZiF
noncomputable def Z7s : Code := Try.f92.body.getD .skip
noncomputable def Z1R : Ctx (Tup Z30 × OutD) := { T := T, G := [], mvs := [], no := 0, n := 32, res := resOf T Zew Z30 Try.f92.results.toList, loops := [(0, Z1z.E)], regs := [], conds := [], cuts := [] }
theorem Zem (k : Nat) : EnvOK Try.prog k Z1R.G := (EnvOK.nil mixed)
noncomputable def Z5E : Code := (findLoop 0 Z7s).getD .skip
theorem Zkr (k : Nat) (x : Z8g.D) : Z1z.lp (k + 1) x = loopK Z1R Z1z 0 Z5E k x := by kernel_rfl
theorem Zk1 (k : Nat) : LOK Try.prog Z1R k Z5E := LOK.by [] (by kernel_rfl) AllOK.nil
theorem Zkt (x : Z8g.D) : Z1z.lp 0 x = none := by kernel_rfl
theorem Zix (k : Nat) : EOK Try.prog Z1R k Z1z.E (.block 0 (.loop Z5E)) := Z2 T_ok Zem Zkt Zkr Zk1 k
theorem Zpd (k : Nat) (x : Tup ZU.ps) : ZU.f (k + 1) x = fnK ZU Z1R Z7s k x := by kernel_rfl
theorem ZoV (x : Tup ZU.ps) : ZU.f 0 x = none := by kernel_rfl
theorem Zop (k : Nat) : LOK Try.prog Z1R k Z7s := LOK.by [(Z1z.E, .block 0 (.loop Z5E))] (by kernel_rfl) (AllOK.cons (Zix k) AllOK.nil)
theorem Zpx (k : Nat) : SoundAt Try.prog k 92 ZU.E := @Z1 Try.prog ZU Z1R 92 Try.f92 Z7s (by kernel_rfl) (by kernel_rfl) (by kernel_rfl) Try.func92 (by kernel_rfl) (by kernel_rfl) (by kernel_rfl) T_ok Zem Zop ZoV Zpd k
noncomputable def Z74 : List PK := [PK.mk Ty.bool false none false none]
noncomputable def Zhn : List PK := [PK.mk (Ty.pair (Ty.int .i64) (Ty.int .i64)) true none false none]
noncomputable def Zgp (r : Bool) : Tup Z74 × OutD := ((r, ()), none)
noncomputable def ZgD : Tup Z74 × OutD → Option (Bool)
 | (a, none) => some (a.1)
 | _ => none
theorem ZmA : ∀ b r, ZgD b = some r → Zgp r = b := by
 rintro ⟨a, o⟩ r h
 cases o with
 | none => injection h with h; subst h; rfl
 | some _ => cases h
noncomputable def Z4Y : Nat → Int × Int → Option Bool
 | 0, _ => none
 | k + 1, p0 =>
  if decide (Prod.fst p0 = (3 : Int)) = true then some true else some (decide (Prod.fst p0 = (6 : Int)))
noncomputable def Z1m : FnDef := .of Zhn Z74 (Bool) (fun k x => Z4Y k x.1) Zgp ZgD ZmA
noncomputable def ZcH : Code := Try.f96.body.getD .skip
noncomputable def Z9D : Ctx (Tup Z74 × OutD) := { T := T, G := [], mvs := [], no := 0, n := 11, res := resOf T Zhn Z74 Try.f96.results.toList, loops := [], regs := [], conds := [], cuts := [] }
theorem ZtI (k : Nat) : EnvOK Try.prog k Z9D.G := (EnvOK.nil mixed)
theorem ZuL (k : Nat) (x : Tup Z1m.ps) : Z1m.f (k + 1) x = fnK Z1m Z9D ZcH k x := by kernel_rfl
theorem ZuG (x : Tup Z1m.ps) : Z1m.f 0 x = none := by kernel_rfl
theorem ZuP (k : Nat) : LOK Try.prog Z9D k ZcH := LOK.by [] (by kernel_rfl) AllOK.nil
theorem Zi6 (k : Nat) : SoundAt Try.prog k 96 Z1m.E := @Z1 Try.prog Z1m Z9D 96 Try.f96 ZcH (by kernel_rfl) (by kernel_rfl) (by kernel_rfl) Try.func96 (by kernel_rfl) (by kernel_rfl) (by kernel_rfl) T_ok ZtI ZuP ZuG ZuL k
noncomputable def Z8O : List PK := [PK.mk (Ty.pair (Ty.int .i64) (Ty.pair (Ty.int .i64) (Ty.slice (73 : Nat) (Ty.pair (Ty.int .i64) (Ty.int .i64))))) true none false none]
noncomputable def Zq7 : List PK := [PK.mk (Ty.pair (Ty.int .i64) (Ty.pair (Ty.int .i64) (Ty.slice (73 : Nat) (Ty.pair (Ty.int .i64) (Ty.int .i64))))) true none false none]
noncomputable def ZnV (r : Int × Int × List (Int × Int)) : Tup Z8O × OutD := ((r, ()), none)
noncomputable def ZnH : Tup Z8O × OutD → Option (Int × Int × List (Int × Int))
 | (a, none) => some (a.1)
 | _ => none
theorem Zuc : ∀ b r, ZnH b = some r → ZnV r = b := by
 rintro ⟨a, o⟩ r h
 cases o with
 | none => injection h with h; subst h; rfl
 | some _ => cases h
noncomputable def Z61 : Nat → Int → Int → List (Int × Int) → Int → Int → List (Int × Int) → Option (Int × Int × List (Int × Int)) := fun k b1_0 b1_1 b1_2 b2_0 b2_1 o3 =>
    if (0 : Nat) + List.length b1_2 ≤ (140737488355328 / 16 : Nat) then some (b1_0, b1_1, b1_2) else none
noncomputable def Z9I : Nat → Int → Int → List (Int × Int) → Int → Int → List (Int × Int) → Option (List (Int × Int × List (Int × Int))) := fun k b1_0 b1_1 b1_2 b2_0 b2_1 o3 =>
    joinL (joinL (if (0 : Nat) + List.length b1_2 ≤ (140737488355328 / 16 : Nat) then some [(b1_0, b1_1, b1_2)] else none) (joinL (if (0 : Nat) + List.length b1_2 ≤ (140737488355328 / 16 : Nat) then some [(b1_0, b1_1, b1_2)] else none) (if (0 : Nat) + List.length b1_2 ≤ (140737488355328 / 16 : Nat) then some [(b1_0, b1_1, b1_2)] else none))) (joinL (joinL (if (0 : Nat) + List.length b1_2 ≤ (140737488355328 / 16 : Nat) then some [(b1_0, b1_1, b1_2)] else none) (joinL (if (0 : Nat) + List.length b1_2 ≤ (140737488355328 / 16 : Nat) then some [(b1_0, b1_1, b1_2)] else none) (if (0 : Nat) + List.length b1_2 ≤ (140737488355328 / 16 : Nat) then some [(b1_0, b1_1, b1_2)] else none))) (joinL (joinL (if (0 : Nat) + List.length b1_2 ≤ (140737488355328 / 16 : Nat) then some [(b1_0, b1_1, b1_2)] else none) (if (0 : Nat) + List.length b1_2 ≤ (140737488355328 / 16 : Nat) then some [(b1_0, b1_1, b1_2)] else none)) (joinL (joinL (if (0 : Nat) + List.length b1_2 ≤ (140737488355328 / 16 : Nat) then some [(b1_0, b1_1, b1_2)] else none) (if (0 : Nat) + List.length b1_2 ≤ (140737488355328 / 16 : Nat) then some [(b1_0, b1_1, b1_2)] else none)) (if (0 : Nat) + List.length b1_2 ≤ (140737488355328 / 16 : Nat) then joinL (some [(b1_0, b1_1, b1_2)]) (some [(b1_0, b1_1, b1_2)]) else none))))
noncomputable def Zik : Spec := Spec.mk [OSh.ro, OSh.box (33 : Nat) [Sh.int .i64, Sh.int .i64, Sh.snap (0 : Nat) (Ty.pair (Ty.int .i64) (Ty.int .i64))], OSh.box (33 : Nat) [Sh.int .i64, Sh.int .i64, Sh.sl (3 : Nat)], OSh.row true (73 : Nat) (Ty.pair (Ty.int .i64) (Ty.int .i64))] [((1 : Nat), TSh.at (Sh.ptr (1 : Nat) (0 : Nat))), ((2 : Nat), TSh.at (Sh.ptr (2 : Nat) (0 : Nat)))]
noncomputable def ZuC : Spec := Spec.mk [OSh.ro, OSh.box (33 : Nat) [Sh.int .i64, Sh.int .i64, Sh.sl (2 : Nat)], OSh.row true (73 : Nat) (Ty.pair (Ty.int .i64) (Ty.int .i64))] [((2 : Nat), TSh.at (Sh.ptr (1 : Nat) (0 : Nat)))]
noncomputable def Z4Z : LoopDef (Tup Z8O × OutD) := .plain Zik ZuC (Int × Int × List (Int × Int)) (fun k x => Z61 k x.1.2.1.1 x.1.2.1.2.1 x.1.2.1.2.2.1 x.1.2.2.1.1 x.1.2.2.1.2.1 x.1.2.2.2.1) (fun z => (((), (z.1, z.2.1, (), ()), z.2.2, ()), ((), ()))) (fun y => (y.1.2.1.1, y.1.2.1.2.1, y.1.2.2.1)) (fun _ => rfl)
theorem Zup (k : Nat) (b1_0 : Int) (b1_1 : Int) (b1_2 : List (Int × Int)) (b2_0 : Int) (b2_1 : Int) (o3 : List (Int × Int)) : Z9I k b1_0 b1_1 b1_2 b2_0 b2_1 o3 = repl 12 (Z61 k b1_0 b1_1 b1_2 b2_0 b2_1 o3) := by
 first
 | (simp only [Z9I, Z61, ZS, Z1Q, Z10, ZV, ZY, Zg, if_true]; done)
 | (simp only [Z9I, Z61, ZS, Z1Q, Z10, ZV, ZY, Zg, if_true]; simp only [Z9q, Z9o, ZcO, Zg]; simp only [ZeQ]; exact ZaK ⟨fun h => by simp only [h, and_self], fun h => by simp only [h, and_self]⟩)
noncomputable def Z73 : Nat → Int × Int × List (Int × Int) → Option (Int × Int × List (Int × Int))
 | 0, _ => none
 | k + 1, p0 =>
  Option.bind (Z61 k p0.1 p0.2.1 p0.2.2 (0 : Int) (0 : Int) []) fun z0 => some (Prod.fst z0, Prod.fst z0.2, Prod.snd z0.2)
noncomputable def Z3X : FnDef := .of Zq7 Z8O (Int × Int × List (Int × Int)) (fun k x => Z73 k x.1) ZnV ZnH Zuc
noncomputable def Zds : Code := Try.f101.body.getD .skip
noncomputable def Z39 : Ctx (Tup Z8O × OutD) := { T := T, G := [], mvs := [], no := 0, n := 12, res := resOf T Zq7 Z8O Try.f101.results.toList, loops := [], regs := [(1, Z4Z.E)], conds := [], cuts := [] }
theorem ZqU (k : Nat) : EnvOK Try.prog k Z39.G := (EnvOK.nil mixed)
noncomputable def Zd6 : Array Oper := (findReg 1 Zds).getD #[]
theorem ZtW (k : Nat) (x : Zik.D) : execD Z39.T Z39.G Z39.mvs k Zd6 (Z4Z.inp.st Z39.n x) (outK Z39 Z4Z) = Z9I k x.1.2.1.1 x.1.2.1.2.1 x.1.2.1.2.2.1 x.1.2.2.1.1 x.1.2.2.1.2.1 x.1.2.2.2.1 := by kernel_rfl
theorem ZrX (k : Nat) : EOK Try.prog Z39 k Z4Z.E (.region 1 Zd6 true) := ZaY (D := Z4Z) (m := 12) T_ok (ZqU k) (fun x => (ZtW k x).trans (Zup k x.1.2.1.1 x.1.2.1.2.1 x.1.2.1.2.2.1 x.1.2.2.1.1 x.1.2.2.1.2.1 x.1.2.2.2.1))
theorem ZAE (k : Nat) (x : Tup Z3X.ps) : Z3X.f (k + 1) x = fnK Z3X Z39 Zds k x := by kernel_rfl
theorem ZAf (x : Tup Z3X.ps) : Z3X.f 0 x = none := by kernel_rfl
theorem ZAr (k : Nat) : LOK Try.prog Z39 k Zds := LOK.by [(Z4Z.E, .region 1 Zd6 true)] (by kernel_rfl) (AllOK.cons (ZrX k) AllOK.nil)
theorem ZpM (k : Nat) : SoundAt Try.prog k 101 Z3X.E := @Z1 Try.prog Z3X Z39 101 Try.f101 Zds (by kernel_rfl) (by kernel_rfl) (by kernel_rfl) Try.func101 (by kernel_rfl) (by kernel_rfl) (by kernel_rfl) T_ok ZqU ZAr ZAf ZAE k
noncomputable def Z85 : List PK := [PK.mk Ty.bool false none false none]
noncomputable def ZiQ : List PK := [PK.mk (Ty.pair (Ty.int .i64) (Ty.int .i64)) true none false none]
noncomputable def Zhj (r : Bool) : Tup Z85 × OutD := ((r, ()), none)
noncomputable def ZhX : Tup Z85 × OutD → Option (Bool)
 | (a, none) => some (a.1)
 | _ => none
theorem Zp8 : ∀ b r, ZhX b = some r → Zhj r = b := by
 rintro ⟨a, o⟩ r h
 cases o with
 | none => injection h with h; subst h; rfl
 | some _ => cases h
noncomputable def Z7O : Nat → Int × Int → Option Bool
 | 0, _ => none
 | k + 1, p0 =>
  if decide (Prod.fst p0 = (6 : Int)) = true then some true else some (decide (Prod.fst p0 = (7 : Int)))
noncomputable def Z2R : FnDef := .of ZiQ Z85 (Bool) (fun k x => Z7O k x.1) Zhj ZhX Zp8
noncomputable def ZdU : Code := Try.f104.body.getD .skip
noncomputable def Zaj : Ctx (Tup Z85 × OutD) := { T := T, G := [], mvs := [], no := 0, n := 11, res := resOf T ZiQ Z85 Try.f104.results.toList, loops := [], regs := [], conds := [], cuts := [] }
theorem Zvh (k : Nat) : EnvOK Try.prog k Zaj.G := (EnvOK.nil mixed)
theorem Zw7 (k : Nat) (x : Tup Z2R.ps) : Z2R.f (k + 1) x = fnK Z2R Zaj ZdU k x := by kernel_rfl
theorem Zv7 (x : Tup Z2R.ps) : Z2R.f 0 x = none := by kernel_rfl
theorem Zve (k : Nat) : LOK Try.prog Zaj k ZdU := LOK.by [] (by kernel_rfl) AllOK.nil
theorem Zvz (k : Nat) : SoundAt Try.prog k 104 Z2R.E := @Z1 Try.prog Z2R Zaj 104 Try.f104 ZdU (by kernel_rfl) (by kernel_rfl) (by kernel_rfl) Try.func104 (by kernel_rfl) (by kernel_rfl) (by kernel_rfl) T_ok Zvh Zve Zv7 Zw7 k
noncomputable def Z7R : List PK := [PK.mk (Ty.slice (3 : Nat) (Ty.int .i64)) false none false none]
noncomputable def ZiM : List PK := [PK.mk (Ty.pair (Ty.int .i64) (Ty.pair (Ty.int .i64) (Ty.slice (73 : Nat) (Ty.pair (Ty.int .i64) (Ty.int .i64))))) true none false none, PK.mk (Ty.int .i64) false none false none]
noncomputable def ZhT (r : List Int) : Tup Z7R × OutD := ((r, ()), none)
noncomputable def Zhm : Tup Z7R × OutD → Option (List Int)
 | (a, none) => some (a.1)
 | _ => none
theorem Zpz : ∀ b r, Zhm b = some r → ZhT r = b := by
 rintro ⟨a, o⟩ r h
 cases o with
 | none => injection h with h; subst h; rfl
 | some _ => cases h
noncomputable def Zar : Nat → Int × Int × List (Int × Int) → Int → Option (List Int)
 | 0, _, _ => none
 | k + 1, p0, p1 =>
  if Prod.fst p0.2 = (0 : Int) then none else if Prod.fst p0.2 = (0 : Int) then none else if decide (wrap64 (Int.tdiv p1 p0.2.1) > (0 : Int)) = true then if decide (Int.tmod p1 p0.2.1 > (0 : Int)) = true then if decide (wrap64 (Int.tmod p1 p0.2.1 + (1 : Int)) < Prod.fst p0.2) = true then if decide (wrap64 (wrap64 (Int.tdiv p1 p0.2.1) + (1 : Int)) < Prod.fst p0) = true then some ([wrap64 (p1 - Prod.fst p0.2)] ++ [wrap64 (p1 - (1 : Int))] ++ [wrap64 (p1 + (1 : Int))] ++ [wrap64 (p1 + Prod.fst p0.2)]) else some ([wrap64 (p1 - Prod.fst p0.2)] ++ [wrap64 (p1 - (1 : Int))] ++ [wrap64 (p1 + (1 : Int))]) else if decide (wrap64 (wrap64 (Int.tdiv p1 p0.2.1) + (1 : Int)) < Prod.fst p0) = true then some ([wrap64 (p1 - Prod.fst p0.2)] ++ [wrap64 (p1 - (1 : Int))] ++ [wrap64 (p1 + Prod.fst p0.2)]) else some ([wrap64 (p1 - Prod.fst p0.2)] ++ [wrap64 (p1 - (1 : Int))]) else if decide (wrap64 (Int.tmod p1 p0.2.1 + (1 : Int)) < Prod.fst p0.2) = true then if decide (wrap64 (wrap64 (Int.tdiv p1 p0.2.1) + (1 : Int)) < Prod.fst p0) = true then some ([wrap64 (p1 - Prod.fst p0.2)] ++ [wrap64 (p1 + (1 : Int))] ++ [wrap64 (p1 + Prod.fst p0.2)]) else some ([wrap64 (p1 - Prod.fst p0.2)] ++ [wrap64 (p1 + (1 : Int))]) else if decide (wrap64 (wrap64 (Int.tdiv p1 p0.2.1) + (1 : Int)) < Prod.fst p0) = true then some ([wrap64 (p1 - Prod.fst p0.2)] ++ [wrap64 (p1 + Prod.fst p0.2)]) else some [wrap64 (p1 - Prod.fst p0.2)] else if decide (Int.tmod p1 p0.2.1 > (0 : Int)) = true then if decide (wrap64 (Int.tmod p1 p0.2.1 + (1 : Int)) < Prod.fst p0.2) = true then if decide (wrap64 (wrap64 (Int.tdiv p1 p0.2.1) + (1 : Int)) < Prod.fst p0) = true then some ([wrap64 (p1 - (1 : Int))] ++ [wrap64 (p1 + (1 : Int))] ++ [wrap64 (p1 + Prod.fst p0.2)]) else some ([wrap64 (p1 - (1 : Int))] ++ [wrap64 (p1 + (1 : Int))]) else if decide (wrap64 (wrap64 (Int.tdiv p1 p0.2.1) + (1 : Int)) < Prod.fst p0) = true then some ([wrap64 (p1 - (1 : Int))] ++ [wrap64 (p1 + Prod.fst p0.2)]) else some [wrap64 (p1 - (1 : Int))] else if decide (wrap64 (Int.tmod p1 p0.2.1 + (1 : Int)) < Prod.fst p0.2) = true then if decide (wrap64 (wrap64 (Int.tdiv p1 p0.2.1) + (1 : Int)) < Prod.fst p0) = true then some ([wrap64 (p1 + (1 : Int))] ++ [wrap64 (p1 + Prod.fst p0.2)]) else some [wrap64 (p1 + (1 : Int))] else if decide (wrap64 (wrap64 (Int.tdiv p1 p0.2.1) + (1 : Int)) < Prod.fst p0) = true then some [wrap64 (p1 + Prod.fst p0.2)] else some []
noncomputable def Z2P : FnDef := .of ZiM Z7R (List Int) (fun k x => Zar k x.1 x.2.1) ZhT Zhm Zpz
noncomputable def Zed : Code := Try.f105.body.getD .skip
noncomputable def Zav : Ctx (Tup Z7R × OutD) := { T := T, G := [], mvs := [], no := 0, n := 56, res := resOf T ZiM Z7R Try.f105.results.toList, loops := [], regs := [], conds := [], cuts := [] }
theorem Zw1 (k : Nat) : EnvOK Try.prog k Zav.G := (EnvOK.nil mixed)
theorem Zwj (k : Nat) (x : Tup Z2P.ps) : Z2P.f (k + 1) x = fnK Z2P Zav Zed k x := by kernel_rfl
theorem Zwf (x : Tup Z2P.ps) : Z2P.f 0 x = none := by kernel_rfl
theorem Zvr (k : Nat) : LOK Try.prog Zav k Zed := LOK.by [] (by kernel_rfl) AllOK.nil
theorem ZvM (k : Nat) : SoundAt Try.prog k 105 Z2P.E := @Z1 Try.prog Z2P Zav 105 Try.f105 Zed (by kernel_rfl) (by kernel_rfl) (by kernel_rfl) Try.func105 (by kernel_rfl) (by kernel_rfl) (by kernel_rfl) T_ok Zw1 Zvr Zwf Zwj k
noncomputable def Z48 : List PK := []
noncomputable def Zgr : List PK := [PK.mk (Ty.pair (Ty.int .i64) (Ty.pair (Ty.int .i64) (Ty.slice (73 : Nat) (Ty.pair (Ty.int .i64) (Ty.int .i64))))) true (some ((2 : Nat), (73 : Nat), Ty.pair (Ty.int .i64) (Ty.int .i64))) false none, PK.mk (Ty.slice (3 : Nat) (Ty.int .i64)) false none false none, PK.mk (Ty.slice (3 : Nat) (Ty.int .i64)) false none false none, PK.mk (Ty.int .i64) false none false none]
noncomputable def Zfc (r : List (Int × Int)) : Tup Z48 × OutD := ((()), some ⟨Ty.pair (Ty.int .i64) (Ty.int .i64), r⟩)
noncomputable def ZaW : Tup Z48 × OutD → Option (List (Int × Int))
 | (a, some ⟨u, ys⟩) => if h : u = Ty.pair (Ty.int .i64) (Ty.int .i64) then some (castU h ys) else none
 | _ => none
theorem ZlX : ∀ b r, ZaW b = some r → Zfc r = b := by
 rintro ⟨a, o⟩ r h
 cases o with
 | none => cases h
 | some s =>
  obtain ⟨u, ys⟩ := s
  simp only [ZaW] at h
  split at h
  ·rename_i hu; subst hu; injection h with h; subst h; rfl
  ·cases h
noncomputable def Zb : Nat → List (Int × Int) → Int → Int → List Int → List Int → Int → Int → Int → Option (List (Int × Int))
 | 0, _, _, _, _, _, _, _, _ => none
 | k + 1, o1, b2_0, b2_1, v1, v2, v3, v12, v13 =>
  if decide (v13 < v12) = true then if decide (v13 = v3) = true then if (0 : Int) ≤ v13 then if v13 < (↑(List.length v2) : Int) then if decide (List.getD v2 (Int.toNat v13) (0 : Int) ≠ (1 : Int)) = true then if (0 : Int) ≤ v13 then if v13 < (↑(List.length o1) : Int) then if (0 : Int) ≤ v13 then if v13 < (↑(List.length o1) : Int) then Zb k (List.set o1 (Int.toNat v13) (Prod.fst (List.getD o1 (Int.toNat v13) ((0 : Int), (0 : Int))), wrap64 ((1 : Int) - Prod.snd (List.getD o1 (Int.toNat v13) ((0 : Int), (0 : Int)))))) b2_0 b2_1 v1 v2 v3 v12 (wrap64 (v13 + (1 : Int))) else none else none else none else none else Zb k o1 b2_0 b2_1 v1 v2 v3 v12 (wrap64 (v13 + (1 : Int))) else none else none else if (0 : Int) ≤ v3 then if v3 < (↑(List.length o1) : Int) then if decide (Prod.fst (List.getD o1 (Int.toNat v3) ((0 : Int), (0 : Int))) = (6 : Int)) = true then if (0 : Int) ≤ v13 then if v13 < (↑(List.length o1) : Int) then if decide (Prod.fst (List.getD o1 (Int.toNat v13) ((0 : Int), (0 : Int))) = (6 : Int)) = true then if (0 : Int) ≤ v13 then if v13 < (↑(List.length v1) : Int) then if (0 : Int) ≤ v3 then if v3 < (↑(List.length v1) : Int) then if decide (List.getD v1 (Int.toNat v13) (0 : Int) = List.getD v1 (Int.toNat v3) (0 : Int)) = true then if (0 : Int) ≤ v13 then if v13 < (↑(List.length v2) : Int) then if decide (List.getD v2 (Int.toNat v13) (0 : Int) ≠ (1 : Int)) = true then if (0 : Int) ≤ v13 then if v13 < (↑(List.length o1) : Int) then if (0 : Int) ≤ v13 then if v13 < (↑(List.length o1) : Int) then Zb k (List.set o1 (Int.toNat v13) (Prod.fst (List.getD o1 (Int.toNat v13) ((0 : Int), (0 : Int))), wrap64 ((1 : Int) - Prod.snd (List.getD o1 (Int.toNat v13) ((0 : Int), (0 : Int)))))) b2_0 b2_1 v1 v2 v3 v12 (wrap64 (v13 + (1 : Int))) else none else none else none else none else Zb k o1 b2_0 b2_1 v1 v2 v3 v12 (wrap64 (v13 + (1 : Int))) else none else none else Zb k o1 b2_0 b2_1 v1 v2 v3 v12 (wrap64 (v13 + (1 : Int))) else none else none else none else none else Zb k o1 b2_0 b2_1 v1 v2 v3 v12 (wrap64 (v13 + (1 : Int))) else none else none else Zb k o1 b2_0 b2_1 v1 v2 v3 v12 (wrap64 (v13 + (1 : Int))) else none else none else some o1
noncomputable def Z9i : Spec := Spec.mk [OSh.ro, OSh.row false (73 : Nat) (Ty.pair (Ty.int .i64) (Ty.int .i64)), OSh.box (33 : Nat) [Sh.int .i64, Sh.int .i64, Sh.sl (1 : Nat)]] [((1 : Nat), TSh.at (Sh.snap (0 : Nat) (Ty.int .i64))), ((2 : Nat), TSh.at (Sh.snap (0 : Nat) (Ty.int .i64))), ((3 : Nat), TSh.at (Sh.int .i64)), ((4 : Nat), TSh.at (Sh.ptr (2 : Nat) (0 : Nat))), ((12 : Nat), TSh.at (Sh.int .i64)), ((13 : Nat), TSh.at (Sh.int .i64))]
noncomputable def ZmW : Spec := Spec.mk [OSh.ro, OSh.row false (73 : Nat) (Ty.pair (Ty.int .i64) (Ty.int .i64))] []
noncomputable def Z2C : LoopDef (Tup Z48 × OutD) := .plain Z9i ZmW (List (Int × Int)) (fun k x => Zb k x.1.2.1 x.1.2.2.1.1 x.1.2.2.1.2.1 x.2.1 x.2.2.1 x.2.2.2.1 x.2.2.2.2.2.1 x.2.2.2.2.2.2.1) (fun z => (((), z, ()), (()))) (fun y => (y.1.2.1)) (fun _ => rfl)
noncomputable def Z4e : Nat → Int × Int × List (Int × Int) → List Int → List Int → Int → Option (List (Int × Int))
 | 0, _, _, _, _ => none
 | k + 1, p0, p1, p2, p3 =>
  Option.bind (Zb k p0.2.2 p0.1 p0.2.1 p1 p2 p3 (↑(List.length p0.2.2) : Int) (0 : Int)) fun z0 => some z0
noncomputable def Z1D : FnDef := .of Zgr Z48 (List (Int × Int)) (fun k x => Z4e k x.1 x.2.1 x.2.2.1 x.2.2.2.1) Zfc ZaW ZlX
noncomputable def Z8n : Code := Try.f107.body.getD .skip
noncomputable def Z2M : Ctx (Tup Z48 × OutD) := { T := T, G := [], mvs := [], no := 1, n := 69, res := resOf T Zgr Z48 Try.f107.results.toList, loops := [(0, Z2C.E)], regs := [], conds := [], cuts := [] }
theorem Zgh (k : Nat) : EnvOK Try.prog k Z2M.G := (EnvOK.nil mixed)
noncomputable def Z6C : Code := (findLoop 0 Z8n).getD .skip
theorem Zn2 (k : Nat) (x : Z9i.D) : Z2C.lp (k + 1) x = loopK Z2M Z2C 0 Z6C k x := by kernel_rfl
theorem ZmY (k : Nat) : LOK Try.prog Z2M k Z6C := LOK.by [] (by kernel_rfl) AllOK.nil
theorem ZmL (x : Z9i.D) : Z2C.lp 0 x = none := by kernel_rfl
theorem Zmn (k : Nat) : EOK Try.prog Z2M k Z2C.E (.block 0 (.loop Z6C)) := Z2 T_ok Zgh ZmL Zn2 ZmY k
theorem ZsY (k : Nat) (x : Tup Z1D.ps) : Z1D.f (k + 1) x = fnK Z1D Z2M Z8n k x := by kernel_rfl
theorem ZsO (x : Tup Z1D.ps) : Z1D.f 0 x = none := by kernel_rfl
theorem Zs8 (k : Nat) : LOK Try.prog Z2M k Z8n := LOK.by [(Z2C.E, .block 0 (.loop Z6C))] (by kernel_rfl) (AllOK.cons (Zmn k) AllOK.nil)
theorem ZsW (k : Nat) : SoundAt Try.prog k 107 Z1D.E := @Z1 Try.prog Z1D Z2M 107 Try.f107 Z8n (by kernel_rfl) (by kernel_rfl) (by kernel_rfl) Try.func107 (by kernel_rfl) (by kernel_rfl) (by kernel_rfl) T_ok Zgh Zs8 ZsO ZsY k
noncomputable def Z9P : List PK := [PK.mk Ty.bool false none false none]
noncomputable def ZnK : List PK := [PK.mk (Ty.pair (Ty.int .i64) (Ty.int .i64)) true none false none]
noncomputable def Zl7 (r : Bool) : Tup Z9P × OutD := ((r, ()), none)
noncomputable def Zmh : Tup Z9P × OutD → Option (Bool)
 | (a, none) => some (a.1)
 | _ => none
theorem Zsv : ∀ b r, Zmh b = some r → Zl7 r = b := by
 rintro ⟨a, o⟩ r h
 cases o with
 | none => injection h with h; subst h; rfl
 | some _ => cases h
noncomputable def Za1 : Nat → Int × Int → Option Bool
 | 0, _ => none
 | k + 1, p0 =>
  if decide (Prod.fst p0 = (6 : Int)) = true then some true else some (decide (Prod.fst p0 = (7 : Int)))
noncomputable def Z4I : FnDef := .of ZnK Z9P (Bool) (fun k x => Za1 k x.1) Zl7 Zmh Zsv
noncomputable def ZfM : Code := Try.f110.body.getD .skip
noncomputable def Zcg : Ctx (Tup Z9P × OutD) := { T := T, G := [], mvs := [], no := 0, n := 11, res := resOf T ZnK Z9P Try.f110.results.toList, loops := [], regs := [], conds := [], cuts := [] }
theorem ZzC (k : Nat) : EnvOK Try.prog k Zcg.G := (EnvOK.nil mixed)
theorem ZyE (k : Nat) (x : Tup Z4I.ps) : Z4I.f (k + 1) x = fnK Z4I Zcg ZfM k x := by kernel_rfl
theorem Zyd (x : Tup Z4I.ps) : Z4I.f 0 x = none := by kernel_rfl
theorem Zyp (k : Nat) : LOK Try.prog Zcg k ZfM := LOK.by [] (by kernel_rfl) AllOK.nil
theorem Zyq (k : Nat) : SoundAt Try.prog k 110 Z4I.E := @Z1 Try.prog Z4I Zcg 110 Try.f110 ZfM (by kernel_rfl) (by kernel_rfl) (by kernel_rfl) Try.func110 (by kernel_rfl) (by kernel_rfl) (by kernel_rfl) T_ok ZzC Zyp Zyd ZyE k
noncomputable def Z9X : List PK := [PK.mk (Ty.slice (3 : Nat) (Ty.int .i64)) false none false none]
noncomputable def Zo1 : List PK := [PK.mk (Ty.pair (Ty.int .i64) (Ty.pair (Ty.int .i64) (Ty.slice (73 : Nat) (Ty.pair (Ty.int .i64) (Ty.int .i64))))) true none false none, PK.mk (Ty.int .i64) false none false none]
noncomputable def ZlS (r : List Int) : Tup Z9X × OutD := ((r, ()), none)
noncomputable def Zmm : Tup Z9X × OutD → Option (List Int)
 | (a, none) => some (a.1)
 | _ => none
theorem Zrz : ∀ b r, Zmm b = some r → ZlS r = b := by
 rintro ⟨a, o⟩ r h
 cases o with
 | none => injection h with h; subst h; rfl
 | some _ => cases h
noncomputable def Zcr : Nat → Int × Int × List (Int × Int) → Int → Option (List Int)
 | 0, _, _ => none
 | k + 1, p0, p1 =>
  if Prod.fst p0.2 = (0 : Int) then none else if Prod.fst p0.2 = (0 : Int) then none else if decide (wrap64 (Int.tdiv p1 p0.2.1) > (0 : Int)) = true then if decide (Int.tmod p1 p0.2.1 > (0 : Int)) = true then if decide (wrap64 (Int.tmod p1 p0.2.1 + (1 : Int)) < Prod.fst p0.2) = true then if decide (wrap64 (wrap64 (Int.tdiv p1 p0.2.1) + (1 : Int)) < Prod.fst p0) = true then some ([wrap64 (p1 - Prod.fst p0.2)] ++ [wrap64 (p1 - (1 : Int))] ++ [wrap64 (p1 + (1 : Int))] ++ [wrap64 (p1 + Prod.fst p0.2)]) else some ([wrap64 (p1 - Prod.fst p0.2)] ++ [wrap64 (p1 - (1 : Int))] ++ [wrap64 (p1 + (1 : Int))]) else if decide (wrap64 (wrap64 (Int.tdiv p1 p0.2.1) + (1 : Int)) < Prod.fst p0) = true then some ([wrap64 (p1 - Prod.fst p0.2)] ++ [wrap64 (p1 - (1 : Int))] ++ [wrap64 (p1 + Prod.fst p0.2)]) else some ([wrap64 (p1 - Prod.fst p0.2)] ++ [wrap64 (p1 - (1 : Int))]) else if decide (wrap64 (Int.tmod p1 p0.2.1 + (1 : Int)) < Prod.fst p0.2) = true then if decide (wrap64 (wrap64 (Int.tdiv p1 p0.2.1) + (1 : Int)) < Prod.fst p0) = true then some ([wrap64 (p1 - Prod.fst p0.2)] ++ [wrap64 (p1 + (1 : Int))] ++ [wrap64 (p1 + Prod.fst p0.2)]) else some ([wrap64 (p1 - Prod.fst p0.2)] ++ [wrap64 (p1 + (1 : Int))]) else if decide (wrap64 (wrap64 (Int.tdiv p1 p0.2.1) + (1 : Int)) < Prod.fst p0) = true then some ([wrap64 (p1 - Prod.fst p0.2)] ++ [wrap64 (p1 + Prod.fst p0.2)]) else some [wrap64 (p1 - Prod.fst p0.2)] else if decide (Int.tmod p1 p0.2.1 > (0 : Int)) = true then if decide (wrap64 (Int.tmod p1 p0.2.1 + (1 : Int)) < Prod.fst p0.2) = true then if decide (wrap64 (wrap64 (Int.tdiv p1 p0.2.1) + (1 : Int)) < Prod.fst p0) = true then some ([wrap64 (p1 - (1 : Int))] ++ [wrap64 (p1 + (1 : Int))] ++ [wrap64 (p1 + Prod.fst p0.2)]) else some ([wrap64 (p1 - (1 : Int))] ++ [wrap64 (p1 + (1 : Int))]) else if decide (wrap64 (wrap64 (Int.tdiv p1 p0.2.1) + (1 : Int)) < Prod.fst p0) = true then some ([wrap64 (p1 - (1 : Int))] ++ [wrap64 (p1 + Prod.fst p0.2)]) else some [wrap64 (p1 - (1 : Int))] else if decide (wrap64 (Int.tmod p1 p0.2.1 + (1 : Int)) < Prod.fst p0.2) = true then if decide (wrap64 (wrap64 (Int.tdiv p1 p0.2.1) + (1 : Int)) < Prod.fst p0) = true then some ([wrap64 (p1 + (1 : Int))] ++ [wrap64 (p1 + Prod.fst p0.2)]) else some [wrap64 (p1 + (1 : Int))] else if decide (wrap64 (wrap64 (Int.tdiv p1 p0.2.1) + (1 : Int)) < Prod.fst p0) = true then some [wrap64 (p1 + Prod.fst p0.2)] else some []
noncomputable def Z4C : FnDef := .of Zo1 Z9X (List Int) (fun k x => Zcr k x.1 x.2.1) ZlS Zmm Zrz
noncomputable def ZfX : Code := Try.f111.body.getD .skip
noncomputable def Zcj : Ctx (Tup Z9X × OutD) := { T := T, G := [], mvs := [], no := 0, n := 55, res := resOf T Zo1 Z9X Try.f111.results.toList, loops := [], regs := [], conds := [], cuts := [] }
theorem Zyv (k : Nat) : EnvOK Try.prog k Zcj.G := (EnvOK.nil mixed)
theorem Zzm (k : Nat) (x : Tup Z4C.ps) : Z4C.f (k + 1) x = fnK Z4C Zcj ZfX k x := by kernel_rfl
theorem ZyO (x : Tup Z4C.ps) : Z4C.f 0 x = none := by kernel_rfl
theorem ZzO (k : Nat) : LOK Try.prog Zcj k ZfX := LOK.by [] (by kernel_rfl) AllOK.nil
theorem Zyn (k : Nat) : SoundAt Try.prog k 111 Z4C.E := @Z1 Try.prog Z4C Zcj 111 Try.f111 ZfX (by kernel_rfl) (by kernel_rfl) (by kernel_rfl) Try.func111 (by kernel_rfl) (by kernel_rfl) (by kernel_rfl) T_ok Zyv ZzO ZyO Zzm k
noncomputable def Zc9 : List PK := [PK.mk (Ty.pair (Ty.int .i64) (Ty.int .i64)) true none false none]
noncomputable def Ztg : List PK := [PK.mk (Ty.pair (Ty.int .i64) (Ty.pair (Ty.int .i64) (Ty.slice (73 : Nat) (Ty.pair (Ty.int .i64) (Ty.int .i64))))) true none false none, PK.mk (Ty.int .i64) false none false none, PK.mk (Ty.int .i64) false none false none]
noncomputable def Zrq (r : Int × Int) : Tup Zc9 × OutD := ((r, ()), none)
noncomputable def ZpI : Tup Zc9 × OutD → Option (Int × Int)
 | (a, none) => some (a.1)
 | _ => none
theorem Zwy : ∀ b r, ZpI b = some r → Zrq r = b := by
 rintro ⟨a, o⟩ r h
 cases o with
 | none => injection h with h; subst h; rfl
 | some _ => cases h
noncomputable def Zf8 : Nat → Int × Int × List (Int × Int) → Int → Int → Option (Int × Int)
 | 0, _, _, _ => none
 | k + 1, p0, p1, p2 =>
  if (0 : Int) ≤ wrap64 (wrap64 (p1 * Prod.fst p0.2) + p2) then if wrap64 (wrap64 (p1 * Prod.fst p0.2) + p2) < (↑(List.length p0.2.2) : Int) then some (Prod.fst (List.getD p0.2.2 (Int.toNat (wrap64 (wrap64 (p1 * Prod.fst p0.2) + p2))) ((0 : Int), (0 : Int))), Prod.snd (List.getD p0.2.2 (Int.toNat (wrap64 (wrap64 (p1 * Prod.fst p0.2) + p2))) ((0 : Int), (0 : Int)))) else none else none
noncomputable def Z6H : FnDef := .of Ztg Zc9 (Int × Int) (fun k x => Zf8 k x.1 x.2.1 x.2.2.1) Zrq ZpI Zwy
noncomputable def ZjW : Code := Try.f112.body.getD .skip
noncomputable def Zf1 : Ctx (Tup Zc9 × OutD) := { T := T, G := [], mvs := [], no := 0, n := 17, res := resOf T Ztg Zc9 Try.f112.results.toList, loops := [], regs := [], conds := [], cuts := [] }
theorem ZBd (k : Nat) : EnvOK Try.prog k Zf1.G := (EnvOK.nil mixed)
theorem ZBo (k : Nat) (x : Tup Z6H.ps) : Z6H.f (k + 1) x = fnK Z6H Zf1 ZjW k x := by kernel_rfl
theorem ZBr (x : Tup Z6H.ps) : Z6H.f 0 x = none := by kernel_rfl
theorem ZAO (k : Nat) : LOK Try.prog Zf1 k ZjW := LOK.by [] (by kernel_rfl) AllOK.nil
theorem ZAS (k : Nat) : SoundAt Try.prog k 112 Z6H.E := @Z1 Try.prog Z6H Zf1 112 Try.f112 ZjW (by kernel_rfl) (by kernel_rfl) (by kernel_rfl) Try.func112 (by kernel_rfl) (by kernel_rfl) (by kernel_rfl) T_ok ZBd ZAO ZBr ZBo k
noncomputable def Za7 : List PK := [PK.mk (Ty.int .i64) false none false none]
noncomputable def Zt7 : List PK := [PK.mk (Ty.slice (81 : Nat) (Ty.pair (Ty.int .i64) (Ty.pair (Ty.int .i64) (Ty.int .i64)))) false none false none, PK.mk (Ty.int .i64) false none false none, PK.mk (Ty.int .i64) false none false none]
noncomputable def ZhB (r : Int) : Tup Za7 × OutD := ((r, ()), none)
noncomputable def ZhD : Tup Za7 × OutD → Option (Int)
 | (a, none) => some (a.1)
 | _ => none
theorem ZjA : ∀ b r, ZhD b = some r → ZhB r = b := by
 rintro ⟨a, o⟩ r h
 cases o with
 | none => injection h with h; subst h; rfl
 | some _ => cases h
noncomputable def Z4u : Nat → Int → Int → List (Int × Int × Int) → Int → Int → Option (LR Unit Int)
 | 0, _, _, _, _, _ => none
 | k + 1, v1, v2, v9, v10, v11 =>
  if decide (v11 < v10) = true then if (0 : Int) ≤ v11 then if v11 < (↑(List.length v9) : Int) then if decide (Prod.fst (Prod.snd (List.getD v9 (Int.toNat v11) ((0 : Int), (0 : Int), (0 : Int)))) = v1) = true then if decide (Prod.snd (Prod.snd (List.getD v9 (Int.toNat v11) ((0 : Int), (0 : Int), (0 : Int)))) = v2) = true then some (LR.ret (Prod.fst (List.getD v9 (Int.toNat v11) ((0 : Int), (0 : Int), (0 : Int))))) else Z4u k v1 v2 v9 v10 (wrap64 (v11 + (1 : Int))) else Z4u k v1 v2 v9 v10 (wrap64 (v11 + (1 : Int))) else none else none else some (LR.go ())
noncomputable def ZeW : Spec := Spec.mk [OSh.ro] [((1 : Nat), TSh.at (Sh.int .i64)), ((2 : Nat), TSh.at (Sh.int .i64)), ((9 : Nat), TSh.at (Sh.snap (0 : Nat) (Ty.pair (Ty.int .i64) (Ty.pair (Ty.int .i64) (Ty.int .i64))))), ((10 : Nat), TSh.at (Sh.int .i64)), ((11 : Nat), TSh.at (Sh.int .i64))]
noncomputable def Zxs : Spec := Spec.mk [OSh.ro] []
noncomputable def Z6X : LoopDef (Tup Za7 × OutD) := .rets ZeW Zxs (Unit) (Int) (fun k x => Z4u k x.2.1 x.2.2.1 x.2.2.2.1 x.2.2.2.2.1 x.2.2.2.2.2.1) (fun z => (((), ()), (()))) (fun y => ()) (fun _ => rfl) ZhB ZhD ZjA
noncomputable def Zf4 : Nat → List (Int × Int × Int) → Int → Int → Option Int
 | 0, _, _, _ => none
 | k + 1, p0, p1, p2 =>
  Option.bind (Z4u k p1 p2 p0 (↑(List.length p0) : Int) (0 : Int)) fun z0 => LR.on z0 (fun y0 => some (0 : Int)) fun r0 => some r0
noncomputable def Z6G : FnDef := .of Zt7 Za7 (Int) (fun k x => Zf4 k x.1 x.2.1 x.2.2.1) ZhB ZhD ZjA
noncomputable def Zf5 : Code := Try.f113.body.getD .skip
noncomputable def Z8j : Ctx (Tup Za7 × OutD) := { T := T, G := [], mvs := [], no := 0, n := 28, res := resOf T Zt7 Za7 Try.f113.results.toList, loops := [(0, Z6X.E)], regs := [], conds := [], cuts := [] }
theorem Ztl (k : Nat) : EnvOK Try.prog k Z8j.G := (EnvOK.nil mixed)
noncomputable def Zbt : Code := (findLoop 0 Zf5).getD .skip
theorem ZwH (k : Nat) (x : ZeW.D) : Z6X.lp (k + 1) x = loopK Z8j Z6X 0 Zbt k x := by kernel_rfl
theorem ZwK (k : Nat) : LOK Try.prog Z8j k Zbt := LOK.by [] (by kernel_rfl) AllOK.nil
theorem Zx7 (x : ZeW.D) : Z6X.lp 0 x = none := by kernel_rfl
theorem ZvX (k : Nat) : EOK Try.prog Z8j k Z6X.E (.block 0 (.loop Zbt)) := Z2 T_ok Ztl Zx7 ZwH ZwK k
theorem ZAN (k : Nat) (x : Tup Z6G.ps) : Z6G.f (k + 1) x = fnK Z6G Z8j Zf5 k x := by kernel_rfl
theorem ZBs (x : Tup Z6G.ps) : Z6G.f 0 x = none := by kernel_rfl
theorem ZBb (k : Nat) : LOK Try.prog Z8j k Zf5 := LOK.by [(Z6X.E, .block 0 (.loop Zbt))] (by kernel_rfl) (AllOK.cons (ZvX k) AllOK.nil)
theorem ZAY (k : Nat) : SoundAt Try.prog k 113 Z6G.E := @Z1 Try.prog Z6G Z8j 113 Try.f113 Zf5 (by kernel_rfl) (by kernel_rfl) (by kernel_rfl) Try.func113 (by kernel_rfl) (by kernel_rfl) (by kernel_rfl) T_ok Ztl ZBb ZBs ZAN k
noncomputable def Za0 : List PK := [PK.mk (Ty.int .i64) false none false none]
noncomputable def Zo5 : List PK := [PK.mk (Ty.pair (Ty.int .i64) (Ty.int .i64)) true none false none, PK.mk (Ty.int .i64) false none false none]
noncomputable def ZlZ (r : Int) : Tup Za0 × OutD := ((r, ()), none)
noncomputable def Zlz : Tup Za0 × OutD → Option (Int)
 | (a, none) => some (a.1)
 | _ => none
theorem ZrA : ∀ b r, Zlz b = some r → ZlZ r = b := by
 rintro ⟨a, o⟩ r h
 cases o with
 | none => injection h with h; subst h; rfl
 | some _ => cases h
noncomputable def Zct : Nat → Int × Int → Int → Option Int
 | 0, _, _ => none
 | k + 1, p0, p1 =>
  if decide (Prod.fst p0 = (1 : Int)) = true then some (-1 : Int) else if decide (Prod.fst p0 = (2 : Int)) = true then some (1 : Int) else if decide (Prod.fst p0 = (3 : Int)) = true then some (wrap64 (wrap64 ((2 : Int) * Prod.snd p0) - (1 : Int))) else if decide (Prod.fst p0 = (6 : Int)) = true then some (wrap64 (wrap64 ((2 : Int) * Prod.snd p0) - (1 : Int))) else if decide (Prod.fst p0 = (4 : Int)) = true then some (wrap64 ((0 : Int) - p1)) else some (0 : Int)
noncomputable def Z4G : FnDef := .of Zo5 Za0 (Int) (fun k x => Zct k x.1 x.2.1) ZlZ Zlz ZrA
noncomputable def Zg3 : Code := Try.f114.body.getD .skip
noncomputable def ZcF : Ctx (Tup Za0 × OutD) := { T := T, G := [], mvs := [], no := 0, n := 22, res := resOf T Zo5 Za0 Try.f114.results.toList, loops := [], regs := [], conds := [], cuts := [] }
theorem ZzE (k : Nat) : EnvOK Try.prog k ZcF.G := (EnvOK.nil mixed)
theorem ZzB (k : Nat) (x : Tup Z4G.ps) : Z4G.f (k + 1) x = fnK Z4G ZcF Zg3 k x := by kernel_rfl
theorem Zzd (x : Tup Z4G.ps) : Z4G.f 0 x = none := by kernel_rfl
theorem Zzx (k : Nat) : LOK Try.prog ZcF k Zg3 := LOK.by [] (by kernel_rfl) AllOK.nil
theorem Zys (k : Nat) : SoundAt Try.prog k 114 Z4G.E := @Z1 Try.prog Z4G ZcF 114 Try.f114 Zg3 (by kernel_rfl) (by kernel_rfl) (by kernel_rfl) Try.func114 (by kernel_rfl) (by kernel_rfl) (by kernel_rfl) T_ok ZzE Zzx Zzd ZzB k
noncomputable def Z9Z : List PK := [PK.mk (Ty.pair (Ty.int .i64) (Ty.int .i64)) true none false none]
noncomputable def Zol : List PK := [PK.mk (Ty.pair (Ty.int .i64) (Ty.int .i64)) true none false none]
noncomputable def ZkX (r : Int × Int) : Tup Z9Z × OutD := ((r, ()), none)
noncomputable def ZkN : Tup Z9Z × OutD → Option (Int × Int)
 | (a, none) => some (a.1)
 | _ => none
theorem Zt1 : ∀ b r, ZkN b = some r → ZkX r = b := by
 rintro ⟨a, o⟩ r h
 cases o with
 | none => injection h with h; subst h; rfl
 | some _ => cases h
noncomputable def Z9R : Nat → Int × Int → Option (Int × Int)
 | 0, _ => none
 | k + 1, p0 =>
  some (Prod.fst p0, wrap64 ((1 : Int) - Prod.snd p0))
noncomputable def Z4v : FnDef := .of Zol Z9Z (Int × Int) (fun k x => Z9R k x.1) ZkX ZkN Zt1
noncomputable def ZfD : Code := Try.f116.body.getD .skip
noncomputable def Zcy : Ctx (Tup Z9Z × OutD) := { T := T, G := [], mvs := [], no := 0, n := 9, res := resOf T Zol Z9Z Try.f116.results.toList, loops := [], regs := [], conds := [], cuts := [] }
theorem ZzI (k : Nat) : EnvOK Try.prog k Zcy.G := (EnvOK.nil mixed)
theorem Zzb (k : Nat) (x : Tup Z4v.ps) : Z4v.f (k + 1) x = fnK Z4v Zcy ZfD k x := by kernel_rfl
theorem ZzK (x : Tup Z4v.ps) : Z4v.f 0 x = none := by kernel_rfl
theorem Zyw (k : Nat) : LOK Try.prog Zcy k ZfD := LOK.by [] (by kernel_rfl) AllOK.nil
theorem Zyt (k : Nat) : SoundAt Try.prog k 116 Z4v.E := @Z1 Try.prog Z4v Zcy 116 Try.f116 ZfD (by kernel_rfl) (by kernel_rfl) (by kernel_rfl) Try.func116 (by kernel_rfl) (by kernel_rfl) (by kernel_rfl) T_ok ZzI Zyw ZzK Zzb k
end
end Go.Proofs.Ytpeflcbadgfebaa.Vs
