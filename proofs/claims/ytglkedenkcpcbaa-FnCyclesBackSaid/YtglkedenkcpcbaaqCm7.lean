/- The proof, part 8. -/
import Derived.Test.YtglkedenkcpcbaaqCm6
set_option maxRecDepth 100000
set_option maxHeartbeats 2000000
set_option linter.unusedVariables false
set_option linter.unusedSimpArgs false
namespace Go.Proofs.Ytglkedenkcpcbaa.Vs
open Go.RowKit
noncomputable section
noncomputable def Z7t : List PK := [PK.mk (Ty.slice (3 : Nat) (Ty.int .i64)) false none false none, PK.mk Ty.bool false none false none]
noncomputable def Zi3 : List PK := [PK.mk (Ty.pair (Ty.int .i64) (Ty.pair (Ty.int .i64) (Ty.slice (71 : Nat) (Ty.pair (Ty.int .i64) (Ty.int .i64))))) true none false none, PK.mk (Ty.int .i64) false none false none]
noncomputable def ZgW (r : List Int × Bool) : Tup Z7t × OutD := ((r.1, r.2, ()), none)
noncomputable def ZgA : Tup Z7t × OutD → Option (List Int × Bool)
 | (a, none) => some (a.1, a.2.1)
 | _ => none
theorem ZmF : ∀ b r, ZgA b = some r → ZgW r = b := by
 rintro ⟨a, o⟩ r h
 cases o with
 | none => injection h with h; subst h; rfl
 | some _ => cases h
noncomputable def Z9C : Nat → Int × Int × List (Int × Int) → Int → Option (List Int × Bool)
 | 0, _, _ => none
 | k + 1, p0, p1 =>
  Option.bind (Z88 k (Prod.fst p0, Prod.fst p0.2, Prod.snd p0.2) p1) fun z0 => if (!z0) = true then some ([], false) else Option.bind (Z7l k (Prod.fst p0, Prod.fst p0.2, Prod.snd p0.2) p1) fun z1 => some (z1, true)
noncomputable def Z2T : FnDef := .of Zi3 Z7t (List Int × Bool) (fun k x => Z9C k x.1 x.2.1) ZgW ZgA ZmF
noncomputable def ZcQ : Code := Try.f28.body.getD .skip
noncomputable def Z9z : Ctx (Tup Z7t × OutD) := { T := T, G := [(44, Z3i.E), (46, Z2y.E)], mvs := [], no := 0, n := 13, res := resOf T Zi3 Z7t Try.f28.results.toList, loops := [], regs := [], conds := [], cuts := [] }
theorem Zu0 (k : Nat) : EnvOK Try.prog k Z9z.G := (EnvOK.cons (ZeX k) (EnvOK.cons (ZdI k) (EnvOK.nil mixed)))
theorem Ztm (k : Nat) (x : Tup Z2T.ps) : Z2T.f (k + 1) x = fnK Z2T Z9z ZcQ k x := by kernel_rfl
theorem ZsV (x : Tup Z2T.ps) : Z2T.f 0 x = none := by kernel_rfl
theorem Zub (k : Nat) : LOK Try.prog Z9z k ZcQ := LOK.by [] (by kernel_rfl) AllOK.nil
theorem Zta (k : Nat) : SoundAt Try.prog k 28 Z2T.E := @Z4 Try.prog Z2T Z9z 28 Try.f28 ZcQ (by kernel_rfl) (by kernel_rfl) (by kernel_rfl) Try.func28 (by kernel_rfl) (by kernel_rfl) (by kernel_rfl) T_ok Zu0 Zub ZsV Ztm k
noncomputable def Z80 : List PK := [PK.mk (Ty.int .i64) false none false none, PK.mk Ty.bool false none false none]
noncomputable def Zjt : List PK := [PK.mk (Ty.pair (Ty.int .i64) (Ty.pair (Ty.int .i64) (Ty.slice (71 : Nat) (Ty.pair (Ty.int .i64) (Ty.int .i64))))) true none false none, PK.mk (Ty.int .i64) false none false none]
noncomputable def Zi7 (r : Int × Bool) : Tup Z80 × OutD := ((r.1, r.2, ()), none)
noncomputable def Zi9 : Tup Z80 × OutD → Option (Int × Bool)
 | (a, none) => some (a.1, a.2.1)
 | _ => none
theorem Zon : ∀ b r, Zi9 b = some r → Zi7 r = b := by
 rintro ⟨a, o⟩ r h
 cases o with
 | none => injection h with h; subst h; rfl
 | some _ => cases h
noncomputable def Zao : Nat → Int × Int × List (Int × Int) → Int → Option (Int × Bool)
 | 0, _, _ => none
 | k + 1, p0, p1 =>
  Option.bind (Z88 k (Prod.fst p0, Prod.fst p0.2, Prod.snd p0.2) p1) fun z0 => if (!z0) = true then some ((0 : Int), false) else Option.bind (Z7l k (Prod.fst p0, Prod.fst p0.2, Prod.snd p0.2) p1) fun z1 => Option.bind (Z3P k (Prod.fst p0, Prod.fst p0.2, Prod.snd p0.2)) fun z2 => Option.bind (Za1 k z1 z2) fun z3 => some (z3, decide (z3 > (0 : Int)))
noncomputable def Z3p : FnDef := .of Zjt Z80 (Int × Bool) (fun k x => Zao k x.1 x.2.1) Zi7 Zi9 Zon
noncomputable def Ze1 : Code := Try.f30.body.getD .skip
noncomputable def Zau : Ctx (Tup Z80 × OutD) := { T := T, G := [(44, Z3i.E), (46, Z2y.E), (47, Z1J.E), (69, Z3x.E)], mvs := [], no := 0, n := 20, res := resOf T Zjt Z80 Try.f30.results.toList, loops := [], regs := [], conds := [], cuts := [] }
theorem ZvR (k : Nat) : EnvOK Try.prog k Zau.G := (EnvOK.cons (ZeX k) (EnvOK.cons (ZdI k) (EnvOK.cons (ZbA k) (EnvOK.cons (ZmO k) (EnvOK.nil mixed)))))
theorem Zwr (k : Nat) (x : Tup Z3p.ps) : Z3p.f (k + 1) x = fnK Z3p Zau Ze1 k x := by kernel_rfl
theorem Zwi (x : Tup Z3p.ps) : Z3p.f 0 x = none := by kernel_rfl
theorem Zwm (k : Nat) : LOK Try.prog Zau k Ze1 := LOK.by [] (by kernel_rfl) AllOK.nil
theorem Zvz (k : Nat) : SoundAt Try.prog k 30 Z3p.E := @Z4 Try.prog Z3p Zau 30 Try.f30 Ze1 (by kernel_rfl) (by kernel_rfl) (by kernel_rfl) Try.func30 (by kernel_rfl) (by kernel_rfl) (by kernel_rfl) T_ok ZvR Zwm Zwi Zwr k
noncomputable def Z36 : List PK := [PK.mk (Ty.slice (3 : Nat) (Ty.int .i64)) false none false none, PK.mk Ty.bool false none false none]
noncomputable def Zeq : List PK := [PK.mk (Ty.pair (Ty.int .i64) (Ty.pair (Ty.int .i64) (Ty.slice (71 : Nat) (Ty.pair (Ty.int .i64) (Ty.int .i64))))) true none false none, PK.mk (Ty.int .i64) false none false none]
noncomputable def Zdd (r : List Int × Bool) : Tup Z36 × OutD := ((r.1, r.2, ()), none)
noncomputable def Zdf : Tup Z36 × OutD → Option (List Int × Bool)
 | (a, none) => some (a.1, a.2.1)
 | _ => none
theorem Zih : ∀ b r, Zdf b = some r → Zdd r = b := by
 rintro ⟨a, o⟩ r h
 cases o with
 | none => injection h with h; subst h; rfl
 | some _ => cases h
noncomputable def Z1s : Nat → List Int → List Int → Int → Int → Option (List Int)
 | 0, _, _, _, _ => none
 | k + 1, o1, o2, v17, v18 =>
  if decide (v18 < v17) = true then Option.bind (Za1 k o1 v18) fun z2 => if decide (z2 > (0 : Int)) = true then if List.length o2 + List.length [v18] ≤ (140737488355328 / 8 : Nat) then Z1s k o1 (o2 ++ [v18]) v17 (wrap64 (v18 + (1 : Int))) else none else Z1s k o1 o2 v17 (wrap64 (v18 + (1 : Int))) else some o2
noncomputable def Z7Z : Spec := Spec.mk [OSh.ro, OSh.row true (3 : Nat) (Ty.int .i64), OSh.row true (3 : Nat) (Ty.int .i64)] [((6 : Nat), TSh.at (Sh.sl (1 : Nat))), ((7 : Nat), TSh.at (Sh.sl (2 : Nat))), ((17 : Nat), TSh.at (Sh.int .i64)), ((18 : Nat), TSh.at (Sh.int .i64))]
noncomputable def Zjd : Spec := Spec.mk [OSh.ro, OSh.row true (3 : Nat) (Ty.int .i64)] [((7 : Nat), TSh.at (Sh.sl (1 : Nat)))]
noncomputable def Z27 : LoopDef (Tup Z36 × OutD) := .plain Z7Z Zjd (List Int) (fun k x => Z1s k x.1.2.1 x.1.2.2.1 x.2.2.2.1 x.2.2.2.2.1) (fun z => (((), z, ()), ((), ()))) (fun y => (y.1.2.1)) (fun _ => rfl)
noncomputable def Z7a : Nat → Int × Int × List (Int × Int) → Int → Option (List Int × Bool)
 | 0, _, _ => none
 | k + 1, p0, p1 =>
  Option.bind (Z88 k (Prod.fst p0, Prod.fst p0.2, Prod.snd p0.2) p1) fun z0 => if (!z0) = true then some ([], false) else Option.bind (Z7l k (Prod.fst p0, Prod.fst p0.2, Prod.snd p0.2) p1) fun z1 => Option.bind (Z1s k z1 [] (↑(List.length z1) : Int) (0 : Int)) fun z3 => some (z3, true)
noncomputable def Z1n : FnDef := .of Zeq Z36 (List Int × Bool) (fun k x => Z7a k x.1 x.2.1) Zdd Zdf Zih
noncomputable def Z73 : Code := Try.f32.body.getD .skip
noncomputable def Z2c : Ctx (Tup Z36 × OutD) := { T := T, G := [(44, Z3i.E), (46, Z2y.E), (69, Z3x.E)], mvs := [], no := 0, n := 31, res := resOf T Zeq Z36 Try.f32.results.toList, loops := [(0, Z27.E)], regs := [], conds := [], cuts := [] }
theorem Zes (k : Nat) : EnvOK Try.prog k Z2c.G := (EnvOK.cons (ZeX k) (EnvOK.cons (ZdI k) (EnvOK.cons (ZmO k) (EnvOK.nil mixed))))
noncomputable def Z4T : Code := (findLoop 0 Z73).getD .skip
theorem Zkj (k : Nat) (x : Z7Z.D) : Z27.lp (k + 1) x = loopK Z2c Z27 0 Z4T k x := by kernel_rfl
theorem ZjV (k : Nat) : LOK Try.prog Z2c k Z4T := LOK.by [] (by kernel_rfl) AllOK.nil
theorem ZjB (x : Z7Z.D) : Z27.lp 0 x = none := by kernel_rfl
theorem Zie (k : Nat) : EOK Try.prog Z2c k Z27.E (.block 0 (.loop Z4T)) := Z8 T_ok Zes ZjB Zkj ZjV k
theorem Znb (k : Nat) (x : Tup Z1n.ps) : Z1n.f (k + 1) x = fnK Z1n Z2c Z73 k x := by kernel_rfl
theorem Zns (x : Tup Z1n.ps) : Z1n.f 0 x = none := by kernel_rfl
theorem Zn6 (k : Nat) : LOK Try.prog Z2c k Z73 := LOK.by [(Z27.E, .block 0 (.loop Z4T))] (by kernel_rfl) (AllOK.cons (Zie k) AllOK.nil)
theorem ZnN (k : Nat) : SoundAt Try.prog k 32 Z1n.E := @Z4 Try.prog Z1n Z2c 32 Try.f32 Z73 (by kernel_rfl) (by kernel_rfl) (by kernel_rfl) Try.func32 (by kernel_rfl) (by kernel_rfl) (by kernel_rfl) T_ok Zes Zn6 Zns Znb k
noncomputable def Z3z : List PK := [PK.mk (Ty.int .i64) false none false none, PK.mk Ty.bool false none false none]
noncomputable def Zfr : List PK := [PK.mk (Ty.pair (Ty.int .i64) (Ty.pair (Ty.int .i64) (Ty.slice (71 : Nat) (Ty.pair (Ty.int .i64) (Ty.int .i64))))) true none false none, PK.mk (Ty.pair (Ty.int .i64) (Ty.pair (Ty.int .i64) (Ty.slice (71 : Nat) (Ty.pair (Ty.int .i64) (Ty.int .i64))))) true none false none, PK.mk (Ty.int .i64) false none false none]
noncomputable def Zaa (r : Int × Bool) : Tup Z3z × OutD := ((r.1, r.2, ()), none)
noncomputable def Za0 : Tup Z3z × OutD → Option (Int × Bool)
 | (a, none) => some (a.1, a.2.1)
 | _ => none
theorem ZbN : ∀ b r, Za0 b = some r → Zaa r = b := by
 rintro ⟨a, o⟩ r h
 cases o with
 | none => injection h with h; subst h; rfl
 | some _ => cases h
noncomputable def Z2I : Nat → Int → Int → List (Int × Int) → List Int → Int → Int → Option (LR Unit (Int × Bool))
 | 0, _, _, _, _, _, _ => none
 | k + 1, b1_0, b1_1, b1_2, o2, v11, v12 =>
  if decide (v12 ≤ (↑(List.length o2) : Int)) = true then Option.bind (Z3P k (b1_0, b1_1, b1_2)) fun z5 => if decide (v11 = z5) = true then some (LR.ret (v12, true)) else if (0 : Int) ≤ v11 then if v11 < (↑(List.length o2) : Int) then Z2I k b1_0 b1_1 b1_2 o2 (List.getD o2 (Int.toNat v11) (0 : Int)) (wrap64 (v12 + (1 : Int))) else none else none else some (LR.go ())
noncomputable def Z8s : Spec := Spec.mk [OSh.ro, OSh.box (26 : Nat) [Sh.int .i64, Sh.int .i64, Sh.snap (0 : Nat) (Ty.pair (Ty.int .i64) (Ty.int .i64))], OSh.row true (3 : Nat) (Ty.int .i64)] [((4 : Nat), TSh.at (Sh.ptr (1 : Nat) (0 : Nat))), ((10 : Nat), TSh.at (Sh.sl (2 : Nat))), ((11 : Nat), TSh.at (Sh.int .i64)), ((12 : Nat), TSh.at (Sh.int .i64))]
noncomputable def Zkp : Spec := Spec.mk [OSh.ro] []
noncomputable def Z2o : LoopDef (Tup Z3z × OutD) := .rets Z8s Zkp (Unit) (Int × Bool) (fun k x => Z2I k x.1.2.1.1 x.1.2.1.2.1 x.1.2.1.2.2.1 x.1.2.2.1 x.2.2.2.1 x.2.2.2.2.1) (fun z => (((), ()), (()))) (fun y => ()) (fun _ => rfl) Zaa Za0 ZbN
noncomputable def Z7A : Nat → Int × Int × List (Int × Int) → Int × Int × List (Int × Int) → Int → Option (Int × Bool)
 | 0, _, _, _ => none
 | k + 1, p0, p1, p2 =>
  Option.bind (Z88 k (Prod.fst p0, Prod.fst p0.2, Prod.snd p0.2) p2) fun z0 => if (!z0) = true then some ((0 : Int), false) else Option.bind (ZdE k (Prod.fst p0, Prod.fst p0.2, Prod.snd p0.2) (Prod.fst p1, Prod.fst p1.2, Prod.snd p1.2)) fun z1 => if (!z1) = true then some ((0 : Int), false) else Option.bind (Zbz k (Prod.fst p0, Prod.fst p0.2, Prod.snd p0.2) (Prod.fst p1, Prod.fst p1.2, Prod.snd p1.2)) fun z2 => if (!Prod.snd z2) = true then some ((0 : Int), false) else Option.bind (Z7l k (Prod.fst p0, Prod.fst p0.2, Prod.snd p0.2) p2) fun z3 => Option.bind (Z3P k (Prod.fst p0, Prod.fst p0.2, Prod.snd p0.2)) fun z4 => Option.bind (Z2I k p1.1 p1.2.1 p1.2.2 z3 z4 (0 : Int)) fun z6 => LR.on z6 (fun y6 => some ((0 : Int), false)) fun r6 => some r6
noncomputable def Z1B : FnDef := .of Zfr Z3z (Int × Bool) (fun k x => Z7A k x.1 x.2.1 x.2.2.1) Zaa Za0 ZbN
noncomputable def Z7y : Code := Try.f36.body.getD .skip
noncomputable def Z2r : Ctx (Tup Z3z × OutD) := { T := T, G := [(44, Z3i.E), (75, Z5n.E), (76, Z3O.E), (46, Z2y.E), (47, Z1J.E)], mvs := [], no := 0, n := 51, res := resOf T Zfr Z3z Try.f36.results.toList, loops := [(0, Z2o.E)], regs := [], conds := [], cuts := [] }
theorem Zfo (k : Nat) : EnvOK Try.prog k Z2r.G := (EnvOK.cons (ZeX k) (EnvOK.cons (ZA4 k) (EnvOK.cons (Zxb k) (EnvOK.cons (ZdI k) (EnvOK.cons (ZbA k) (EnvOK.nil mixed))))))
noncomputable def Z5E : Code := (findLoop 0 Z7y).getD .skip
theorem ZkH (k : Nat) (x : Z8s.D) : Z2o.lp (k + 1) x = loopK Z2r Z2o 0 Z5E k x := by kernel_rfl
theorem Zky (k : Nat) : LOK Try.prog Z2r k Z5E := LOK.by [] (by kernel_rfl) AllOK.nil
theorem ZkI (x : Z8s.D) : Z2o.lp 0 x = none := by kernel_rfl
theorem Zk1 (k : Nat) : EOK Try.prog Z2r k Z2o.E (.block 0 (.loop Z5E)) := Z8 T_ok Zfo ZkI ZkH Zky k
theorem Zou (k : Nat) (x : Tup Z1B.ps) : Z1B.f (k + 1) x = fnK Z1B Z2r Z7y k x := by kernel_rfl
theorem Zot (x : Tup Z1B.ps) : Z1B.f 0 x = none := by kernel_rfl
theorem ZoN (k : Nat) : LOK Try.prog Z2r k Z7y := LOK.by [(Z2o.E, .block 0 (.loop Z5E))] (by kernel_rfl) (AllOK.cons (Zk1 k) AllOK.nil)
theorem Zoy (k : Nat) : SoundAt Try.prog k 36 Z1B.E := @Z4 Try.prog Z1B Z2r 36 Try.f36 Z7y (by kernel_rfl) (by kernel_rfl) (by kernel_rfl) Try.func36 (by kernel_rfl) (by kernel_rfl) (by kernel_rfl) T_ok Zfo ZoN Zot Zou k
noncomputable def Z22 : List PK := [PK.mk (Ty.pair (Ty.int .i64) (Ty.pair (Ty.int .i64) (Ty.slice (71 : Nat) (Ty.pair (Ty.int .i64) (Ty.int .i64))))) true none false none]
noncomputable def ZfG : List PK := [PK.mk (Ty.pair (Ty.slice (5 : Nat) (Ty.int .u8)) (Ty.pair (Ty.int .i64) (Ty.int .u64))) false none false (some (58 : Nat))]
noncomputable def Zfs (r : (Int × Int × List (Int × Int)) × Int × Int) : Tup Z22 × OutD := ((r.1, ()), some ⟨Ty.pair (Ty.slice (5 : Nat) (Ty.int .u8)) (Ty.pair (Ty.int .i64) (Ty.int .u64)), [([], r.2)]⟩)
noncomputable def ZaL : Tup Z22 × OutD → Option ((Int × Int × List (Int × Int)) × Int × Int)
 | (a, some ⟨u, ys⟩) => if h : u = Ty.pair (Ty.slice (5 : Nat) (Ty.int .u8)) (Ty.pair (Ty.int .i64) (Ty.int .u64)) then (match castU h ys with
  | [([], y)] => some (a.1, y)
  | _ => none) else none
 | _ => none
theorem ZkL : ∀ b r, ZaL b = some r → Zfs r = b := by
 rintro ⟨a, o⟩ r h
 cases o with
 | none => cases h
 | some s =>
  obtain ⟨u, ys⟩ := s
  simp only [ZaL] at h
  split at h
  ·rename_i hu
   subst hu
   match ys, h with
   | [], h => cases (show (none : Option _) = some r from h)
   | [([], y)], h => injection (show some _ = some r from h) with h; subst h; rfl
   | [(_ :: _, y)], h => cases (show (none : Option _) = some r from h)
   | (h1, _) :: _ :: _, h => cases h1 <;> cases (show (none : Option _) = some r from h)
  ·cases h
noncomputable def Z1Q : Nat → Int → Int → List Int → Int → Int → List (Int × Int) → Int → Int → List (Int × Int) → Int → Int → Int → Option (Int × Int × List Int × Int × Int × List (Int × Int) × Int × Int × List (Int × Int) × Int × Int × Int) := fun k b1_1 b1_2 o2 b3_0 b3_1 o4 b5_0 b5_1 o6 v4 v9 v10 =>
    Option.bind (Zb k (o2, b1_1, b1_2) [(6 : Int), (6 : Int), (7 : Int), (0 : Int)]) fun z2 => if (0 : Int) ≤ v4 then if v4 < (↑(List.length o6) : Int) then some (Prod.fst z2.2, Prod.snd z2.2, o2, b3_0, b3_1, o4, b5_0, b5_1, List.set o6 (Int.toNat v4) (Prod.fst z2, (0 : Int)), v4, v9, v10) else none else none
noncomputable def Z5A : Nat → Int → Int → List Int → Int → Int → List (Int × Int) → Int → Int → List (Int × Int) → Int → Int → Int → Option (List (Int × Int × List Int × Int × Int × List (Int × Int) × Int × Int × List (Int × Int) × Int × Int × Int)) := fun k b1_1 b1_2 o2 b3_0 b3_1 o4 b5_0 b5_1 o6 v4 v9 v10 =>
    joinL (Option.bind (Zb k (o2, b1_1, b1_2) [(6 : Int), (6 : Int), (7 : Int), (0 : Int)]) fun z3 => if (0 : Int) ≤ v4 then if v4 < (↑(List.length o6) : Int) then some [(Prod.fst z3.2, Prod.snd z3.2, o2, b3_0, b3_1, o4, b5_0, b5_1, List.set o6 (Int.toNat v4) (Prod.fst z3, (0 : Int)), v4, v9, v10)] else none else none) (joinL (Option.bind (Zb k (o2, b1_1, b1_2) [(6 : Int), (6 : Int), (7 : Int), (0 : Int)]) fun z4 => if (0 : Int) ≤ v4 then if v4 < (↑(List.length o6) : Int) then some [(Prod.fst z4.2, Prod.snd z4.2, o2, b3_0, b3_1, o4, b5_0, b5_1, List.set o6 (Int.toNat v4) (Prod.fst z4, (0 : Int)), v4, v9, v10)] else none else none) (Option.bind (Zb k (o2, b1_1, b1_2) [(6 : Int), (6 : Int), (7 : Int), (0 : Int)]) fun z5 => if (0 : Int) ≤ v4 then if v4 < (↑(List.length o6) : Int) then some [(Prod.fst z5.2, Prod.snd z5.2, o2, b3_0, b3_1, o4, b5_0, b5_1, List.set o6 (Int.toNat v4) (Prod.fst z5, (0 : Int)), v4, v9, v10)] else none else none))
noncomputable def ZcB : Spec := Spec.mk [OSh.ro, OSh.box (58 : Nat) [Sh.sl (2 : Nat), Sh.int .i64, Sh.int .u64], OSh.fx (Ty.int .u8), OSh.box (26 : Nat) [Sh.int .i64, Sh.int .i64, Sh.sl (4 : Nat)], OSh.row true (71 : Nat) (Ty.pair (Ty.int .i64) (Ty.int .i64)), OSh.box (26 : Nat) [Sh.int .i64, Sh.int .i64, Sh.sl (6 : Nat)], OSh.row true (71 : Nat) (Ty.pair (Ty.int .i64) (Ty.int .i64))] [((0 : Nat), TSh.at (Sh.ptr (1 : Nat) (0 : Nat))), ((2 : Nat), TSh.at (Sh.ptr (3 : Nat) (0 : Nat))), ((3 : Nat), TSh.at (Sh.ptr (5 : Nat) (0 : Nat))), ((4 : Nat), TSh.at (Sh.int .i64)), ((9 : Nat), TSh.at (Sh.int .i64)), ((10 : Nat), TSh.at (Sh.int .i64))]
noncomputable def ZkJ : Spec := Spec.mk [OSh.ro, OSh.box (58 : Nat) [Sh.sl (2 : Nat), Sh.int .i64, Sh.int .u64], OSh.fx (Ty.int .u8), OSh.box (26 : Nat) [Sh.int .i64, Sh.int .i64, Sh.sl (4 : Nat)], OSh.row true (71 : Nat) (Ty.pair (Ty.int .i64) (Ty.int .i64)), OSh.box (26 : Nat) [Sh.int .i64, Sh.int .i64, Sh.sl (6 : Nat)], OSh.row true (71 : Nat) (Ty.pair (Ty.int .i64) (Ty.int .i64))] [((0 : Nat), TSh.at (Sh.ptr (1 : Nat) (0 : Nat))), ((2 : Nat), TSh.at (Sh.ptr (3 : Nat) (0 : Nat))), ((3 : Nat), TSh.at (Sh.ptr (5 : Nat) (0 : Nat))), ((4 : Nat), TSh.at (Sh.int .i64)), ((9 : Nat), TSh.at (Sh.int .i64)), ((10 : Nat), TSh.at (Sh.int .i64))]
noncomputable def Z2n : LoopDef (Tup Z22 × OutD) := .plain ZcB ZkJ (Int × Int × List Int × Int × Int × List (Int × Int) × Int × Int × List (Int × Int) × Int × Int × Int) (fun k x => Z1Q k x.1.2.1.2.1 x.1.2.1.2.2.1 x.1.2.2.1 x.1.2.2.2.1.1 x.1.2.2.2.1.2.1 x.1.2.2.2.2.1 x.1.2.2.2.2.2.1.1 x.1.2.2.2.2.2.1.2.1 x.1.2.2.2.2.2.2.1 x.2.2.2.2.1 x.2.2.2.2.2.1 x.2.2.2.2.2.2.1) (fun z => (((), ((), z.1, z.2.1, ()), z.2.2.1, (z.2.2.2.1, z.2.2.2.2.1, (), ()), z.2.2.2.2.2.1, (z.2.2.2.2.2.2.1, z.2.2.2.2.2.2.2.1, (), ()), z.2.2.2.2.2.2.2.2.1, ()), ((), (), (), z.2.2.2.2.2.2.2.2.2.1, z.2.2.2.2.2.2.2.2.2.2.1, z.2.2.2.2.2.2.2.2.2.2.2, ()))) (fun y => (y.1.2.1.2.1, y.1.2.1.2.2.1, y.1.2.2.1, y.1.2.2.2.1.1, y.1.2.2.2.1.2.1, y.1.2.2.2.2.1, y.1.2.2.2.2.2.1.1, y.1.2.2.2.2.2.1.2.1, y.1.2.2.2.2.2.2.1, y.2.2.2.2.1, y.2.2.2.2.2.1, y.2.2.2.2.2.2.1)) (fun _ => rfl)
theorem ZkM (k : Nat) (b1_1 : Int) (b1_2 : Int) (o2 : List Int) (b3_0 : Int) (b3_1 : Int) (o4 : List (Int × Int)) (b5_0 : Int) (b5_1 : Int) (o6 : List (Int × Int)) (v4 : Int) (v9 : Int) (v10 : Int) : Z5A k b1_1 b1_2 o2 b3_0 b3_1 o4 b5_0 b5_1 o6 v4 v9 v10 = repl 3 (Z1Q k b1_1 b1_2 o2 b3_0 b3_1 o4 b5_0 b5_1 o6 v4 v9 v10) := by
 first
 | (simp only [Z5A, Z1Q, Zh, Zo, Zg, Zi, Ze, Z3, if_true]; done)
 | (simp only [Z5A, Z1Q, Zh, Zo, Zg, Zi, Ze, Z3, if_true]; simp only [Z1E, Z1D, Z3k, Z3]; simp only [Z4r]; exact Z2g ⟨fun h => by simp only [h, and_self], fun h => by simp only [h, and_self]⟩)
noncomputable def Z1L : Nat → Int → Int → List Int → Int → Int → List (Int × Int) → Int → Int → List (Int × Int) → Int → Int → Int → Option (Int × Int × List Int × Int × Int × List (Int × Int) × Int × Int × List (Int × Int) × Int × Int) := fun k b1_1 b1_2 o2 b3_0 b3_1 o4 b5_0 b5_1 o6 v4 v9 v10 =>
    Option.bind (Z0 k (o2, b1_1, b1_2) (2 : Int)) fun z7 => if (0 : Int) ≤ v4 then if v4 < (↑(List.length o6) : Int) then some (Prod.fst z7.2, Prod.snd z7.2, o2, b3_0, b3_1, o4, b5_0, b5_1, List.set o6 (Int.toNat v4) (Prod.fst (List.getD o6 (Int.toNat v4) ((0 : Int), (0 : Int))), Prod.fst z7), v9, v10) else none else none
noncomputable def Z5B : Nat → Int → Int → List Int → Int → Int → List (Int × Int) → Int → Int → List (Int × Int) → Int → Int → Int → Option (List (Int × Int × List Int × Int × Int × List (Int × Int) × Int × Int × List (Int × Int) × Int × Int)) := fun k b1_1 b1_2 o2 b3_0 b3_1 o4 b5_0 b5_1 o6 v4 v9 v10 =>
    joinL (Option.bind (Z0 k (o2, b1_1, b1_2) (2 : Int)) fun z8 => if (0 : Int) ≤ v4 then if v4 < (↑(List.length o6) : Int) then some [(Prod.fst z8.2, Prod.snd z8.2, o2, b3_0, b3_1, o4, b5_0, b5_1, List.set o6 (Int.toNat v4) (Prod.fst (List.getD o6 (Int.toNat v4) ((0 : Int), (0 : Int))), Prod.fst z8), v9, v10)] else none else none) (Option.bind (Z0 k (o2, b1_1, b1_2) (2 : Int)) fun z9 => if (0 : Int) ≤ v4 then if v4 < (↑(List.length o6) : Int) then some [(Prod.fst z9.2, Prod.snd z9.2, o2, b3_0, b3_1, o4, b5_0, b5_1, List.set o6 (Int.toNat v4) (Prod.fst (List.getD o6 (Int.toNat v4) ((0 : Int), (0 : Int))), Prod.fst z9), v9, v10)] else none else none)
noncomputable def ZcC : Spec := Spec.mk [OSh.ro, OSh.box (58 : Nat) [Sh.sl (2 : Nat), Sh.int .i64, Sh.int .u64], OSh.fx (Ty.int .u8), OSh.box (26 : Nat) [Sh.int .i64, Sh.int .i64, Sh.sl (4 : Nat)], OSh.row true (71 : Nat) (Ty.pair (Ty.int .i64) (Ty.int .i64)), OSh.box (26 : Nat) [Sh.int .i64, Sh.int .i64, Sh.sl (6 : Nat)], OSh.row true (71 : Nat) (Ty.pair (Ty.int .i64) (Ty.int .i64))] [((0 : Nat), TSh.at (Sh.ptr (1 : Nat) (0 : Nat))), ((2 : Nat), TSh.at (Sh.ptr (3 : Nat) (0 : Nat))), ((3 : Nat), TSh.at (Sh.ptr (5 : Nat) (0 : Nat))), ((4 : Nat), TSh.at (Sh.int .i64)), ((9 : Nat), TSh.at (Sh.int .i64)), ((10 : Nat), TSh.at (Sh.int .i64))]
noncomputable def ZkE : Spec := Spec.mk [OSh.ro, OSh.box (58 : Nat) [Sh.sl (2 : Nat), Sh.int .i64, Sh.int .u64], OSh.fx (Ty.int .u8), OSh.box (26 : Nat) [Sh.int .i64, Sh.int .i64, Sh.sl (4 : Nat)], OSh.row true (71 : Nat) (Ty.pair (Ty.int .i64) (Ty.int .i64)), OSh.box (26 : Nat) [Sh.int .i64, Sh.int .i64, Sh.sl (6 : Nat)], OSh.row true (71 : Nat) (Ty.pair (Ty.int .i64) (Ty.int .i64))] [((0 : Nat), TSh.at (Sh.ptr (1 : Nat) (0 : Nat))), ((2 : Nat), TSh.at (Sh.ptr (3 : Nat) (0 : Nat))), ((3 : Nat), TSh.at (Sh.ptr (5 : Nat) (0 : Nat))), ((9 : Nat), TSh.at (Sh.int .i64)), ((10 : Nat), TSh.at (Sh.int .i64))]
noncomputable def Z2p : LoopDef (Tup Z22 × OutD) := .plain ZcC ZkE (Int × Int × List Int × Int × Int × List (Int × Int) × Int × Int × List (Int × Int) × Int × Int) (fun k x => Z1L k x.1.2.1.2.1 x.1.2.1.2.2.1 x.1.2.2.1 x.1.2.2.2.1.1 x.1.2.2.2.1.2.1 x.1.2.2.2.2.1 x.1.2.2.2.2.2.1.1 x.1.2.2.2.2.2.1.2.1 x.1.2.2.2.2.2.2.1 x.2.2.2.2.1 x.2.2.2.2.2.1 x.2.2.2.2.2.2.1) (fun z => (((), ((), z.1, z.2.1, ()), z.2.2.1, (z.2.2.2.1, z.2.2.2.2.1, (), ()), z.2.2.2.2.2.1, (z.2.2.2.2.2.2.1, z.2.2.2.2.2.2.2.1, (), ()), z.2.2.2.2.2.2.2.2.1, ()), ((), (), (), z.2.2.2.2.2.2.2.2.2.1, z.2.2.2.2.2.2.2.2.2.2, ()))) (fun y => (y.1.2.1.2.1, y.1.2.1.2.2.1, y.1.2.2.1, y.1.2.2.2.1.1, y.1.2.2.2.1.2.1, y.1.2.2.2.2.1, y.1.2.2.2.2.2.1.1, y.1.2.2.2.2.2.1.2.1, y.1.2.2.2.2.2.2.1, y.2.2.2.2.1, y.2.2.2.2.2.1)) (fun _ => rfl)
theorem ZkN (k : Nat) (b1_1 : Int) (b1_2 : Int) (o2 : List Int) (b3_0 : Int) (b3_1 : Int) (o4 : List (Int × Int)) (b5_0 : Int) (b5_1 : Int) (o6 : List (Int × Int)) (v4 : Int) (v9 : Int) (v10 : Int) : Z5B k b1_1 b1_2 o2 b3_0 b3_1 o4 b5_0 b5_1 o6 v4 v9 v10 = repl 2 (Z1L k b1_1 b1_2 o2 b3_0 b3_1 o4 b5_0 b5_1 o6 v4 v9 v10) := by
 first
 | (simp only [Z5B, Z1L, Zh, Zo, Zg, Zi, Ze, Z3, if_true]; done)
 | (simp only [Z5B, Z1L, Zh, Zo, Zg, Zi, Ze, Z3, if_true]; simp only [Z1E, Z1D, Z3k, Z3]; simp only [Z4r]; exact Z2g ⟨fun h => by simp only [h, and_self], fun h => by simp only [h, and_self]⟩)
noncomputable def ZF : Nat → Int → Int → List Int → Int → Int → List (Int × Int) → Int → Int → List (Int × Int) → Int → Int → Option (Int × Int × List Int × Int × Int × List (Int × Int) × Int × Int × List (Int × Int))
 | 0, _, _, _, _, _, _, _, _, _, _, _ => none
 | k + 1, b1_1, b1_2, o2, b3_0, b3_1, o4, b5_0, b5_1, o6, v9, v10 =>
  if decide (v10 < v9) = true then Option.bind (Zm k (o2, b1_1, b1_2) (2 : Int)) fun z1 => if Prod.fst z1 = true then Option.bind (Z1Q k z1.2.1 z1.2.2 o2 b3_0 b3_1 o4 b5_0 b5_1 o6 v10 v9 v10) fun z6 => if (0 : Int) ≤ Prod.fst z6.2.2.2.2.2.2.2.2.2 then if Prod.fst z6.2.2.2.2.2.2.2.2.2 < (↑(List.length z6.2.2.2.2.2.2.2.2.1) : Int) then if decide (Prod.fst (List.getD z6.2.2.2.2.2.2.2.2.1 (Int.toNat z6.2.2.2.2.2.2.2.2.2.1) ((0 : Int), (0 : Int))) = (6 : Int)) = true then Option.bind (Z1L k z6.1 z6.2.1 z6.2.2.1 z6.2.2.2.1 z6.2.2.2.2.1 z6.2.2.2.2.2.1 z6.2.2.2.2.2.2.1 z6.2.2.2.2.2.2.2.1 z6.2.2.2.2.2.2.2.2.1 z6.2.2.2.2.2.2.2.2.2.1 z6.2.2.2.2.2.2.2.2.2.2.1 z6.2.2.2.2.2.2.2.2.2.2.2) fun z10 => ZF k z10.1 z10.2.1 z10.2.2.1 z10.2.2.2.1 z10.2.2.2.2.1 z10.2.2.2.2.2.1 z10.2.2.2.2.2.2.1 z10.2.2.2.2.2.2.2.1 z10.2.2.2.2.2.2.2.2.1 z10.2.2.2.2.2.2.2.2.2.1 (wrap64 (Prod.snd z10.2.2.2.2.2.2.2.2.2 + (1 : Int))) else ZF k z6.1 z6.2.1 z6.2.2.1 z6.2.2.2.1 z6.2.2.2.2.1 z6.2.2.2.2.2.1 z6.2.2.2.2.2.2.1 z6.2.2.2.2.2.2.2.1 z6.2.2.2.2.2.2.2.2.1 z6.2.2.2.2.2.2.2.2.2.2.1 (wrap64 (Prod.snd z6.2.2.2.2.2.2.2.2.2.2 + (1 : Int))) else none else none else ZF k z1.2.1 z1.2.2 o2 b3_0 b3_1 o4 b5_0 b5_1 o6 v9 (wrap64 (v10 + (1 : Int))) else some (b1_1, b1_2, o2, b3_0, b3_1, o4, b5_0, b5_1, o6)
noncomputable def Z9b : Spec := Spec.mk [OSh.ro, OSh.box (58 : Nat) [Sh.sl (2 : Nat), Sh.int .i64, Sh.int .u64], OSh.fx (Ty.int .u8), OSh.box (26 : Nat) [Sh.int .i64, Sh.int .i64, Sh.sl (4 : Nat)], OSh.row true (71 : Nat) (Ty.pair (Ty.int .i64) (Ty.int .i64)), OSh.box (26 : Nat) [Sh.int .i64, Sh.int .i64, Sh.sl (6 : Nat)], OSh.row true (71 : Nat) (Ty.pair (Ty.int .i64) (Ty.int .i64))] [((0 : Nat), TSh.at (Sh.ptr (1 : Nat) (0 : Nat))), ((2 : Nat), TSh.at (Sh.ptr (3 : Nat) (0 : Nat))), ((3 : Nat), TSh.at (Sh.ptr (5 : Nat) (0 : Nat))), ((9 : Nat), TSh.at (Sh.int .i64)), ((10 : Nat), TSh.at (Sh.int .i64))]
noncomputable def Zmu : Spec := Spec.mk [OSh.ro, OSh.box (58 : Nat) [Sh.sl (2 : Nat), Sh.int .i64, Sh.int .u64], OSh.fx (Ty.int .u8), OSh.box (26 : Nat) [Sh.int .i64, Sh.int .i64, Sh.sl (4 : Nat)], OSh.row true (71 : Nat) (Ty.pair (Ty.int .i64) (Ty.int .i64)), OSh.box (26 : Nat) [Sh.int .i64, Sh.int .i64, Sh.sl (6 : Nat)], OSh.row true (71 : Nat) (Ty.pair (Ty.int .i64) (Ty.int .i64))] [((2 : Nat), TSh.at (Sh.ptr (3 : Nat) (0 : Nat))), ((3 : Nat), TSh.at (Sh.ptr (5 : Nat) (0 : Nat)))]
noncomputable def Z2O : LoopDef (Tup Z22 × OutD) := .plain Z9b Zmu (Int × Int × List Int × Int × Int × List (Int × Int) × Int × Int × List (Int × Int)) (fun k x => ZF k x.1.2.1.2.1 x.1.2.1.2.2.1 x.1.2.2.1 x.1.2.2.2.1.1 x.1.2.2.2.1.2.1 x.1.2.2.2.2.1 x.1.2.2.2.2.2.1.1 x.1.2.2.2.2.2.1.2.1 x.1.2.2.2.2.2.2.1 x.2.2.2.2.1 x.2.2.2.2.2.1) (fun z => (((), ((), z.1, z.2.1, ()), z.2.2.1, (z.2.2.2.1, z.2.2.2.2.1, (), ()), z.2.2.2.2.2.1, (z.2.2.2.2.2.2.1, z.2.2.2.2.2.2.2.1, (), ()), z.2.2.2.2.2.2.2.2, ()), ((), (), ()))) (fun y => (y.1.2.1.2.1, y.1.2.1.2.2.1, y.1.2.2.1, y.1.2.2.2.1.1, y.1.2.2.2.1.2.1, y.1.2.2.2.2.1, y.1.2.2.2.2.2.1.1, y.1.2.2.2.2.2.1.2.1, y.1.2.2.2.2.2.2.1)) (fun _ => rfl)
noncomputable def Z5F : Nat → List Int × Int × Int → Option ((Int × Int × List (Int × Int)) × Int × Int)
 | 0, _ => none
 | k + 1, p0 =>
  Option.bind (Zf k (Prod.fst p0, Prod.fst p0.2, Prod.snd p0.2)) fun z0 => Option.bind (ZF k z0.2.1 z0.2.2 p0.1 (0 : Int) (0 : Int) [] z0.1.1 z0.1.2.1 z0.1.2.2 (↑(List.length z0.1.2.2) : Int) (0 : Int)) fun z11 => some ((Prod.fst z11.2.2.2.2.2.2, Prod.fst z11.2.2.2.2.2.2.2, Prod.snd z11.2.2.2.2.2.2.2), Prod.fst z11, Prod.fst z11.2)
noncomputable def Z20 : FnDef := .of ZfG Z22 ((Int × Int × List (Int × Int)) × Int × Int) (fun k x => Z5F k x.1) Zfs ZaL ZkL
noncomputable def Z3Z : Code := Try.f101.body.getD .skip
noncomputable def Z9 : Ctx (Tup Z22 × OutD) := { T := T, G := [(72, ZT.E), (58, ZJ.E), (60, Zv.E), (57, Zc.E)], mvs := [], no := 2, n := 39, res := resOf T ZfG Z22 Try.f101.results.toList, loops := [(0, Z2O.E)], regs := [(6, Z2n.E), (8, Z2p.E)], conds := [], cuts := [] }
theorem Z8g (k : Nat) : EnvOK Try.prog k Z9.G := (EnvOK.cons (ZeB k) (EnvOK.cons (Z5I k) (EnvOK.cons (Z4D k) (EnvOK.cons (ZK k) (EnvOK.nil mixed)))))
noncomputable def Z8r : Array Oper := (findReg 6 Z3Z).getD #[]
theorem Zkx (k : Nat) (x : ZcB.D) : execD Z9.T Z9.G Z9.mvs k Z8r (Z2n.inp.st Z9.n x) (outK Z9 Z2n) = Z5A k x.1.2.1.2.1 x.1.2.1.2.2.1 x.1.2.2.1 x.1.2.2.2.1.1 x.1.2.2.2.1.2.1 x.1.2.2.2.2.1 x.1.2.2.2.2.2.1.1 x.1.2.2.2.2.2.1.2.1 x.1.2.2.2.2.2.2.1 x.2.2.2.2.1 x.2.2.2.2.2.1 x.2.2.2.2.2.2.1 := by kernel_rfl
theorem Zj1 (k : Nat) : EOK Try.prog Z9 k Z2n.E (.region 6 Z8r true) := Z6K (D := Z2n) (m := 3) T_ok (Z8g k) (fun x => (Zkx k x).trans (ZkM k x.1.2.1.2.1 x.1.2.1.2.2.1 x.1.2.2.1 x.1.2.2.2.1.1 x.1.2.2.2.1.2.1 x.1.2.2.2.2.1 x.1.2.2.2.2.2.1.1 x.1.2.2.2.2.2.1.2.1 x.1.2.2.2.2.2.2.1 x.2.2.2.2.1 x.2.2.2.2.2.1 x.2.2.2.2.2.2.1))
noncomputable def Z8l : Array Oper := (findReg 8 Z3Z).getD #[]
theorem Zkr (k : Nat) (x : ZcC.D) : execD Z9.T Z9.G Z9.mvs k Z8l (Z2p.inp.st Z9.n x) (outK Z9 Z2p) = Z5B k x.1.2.1.2.1 x.1.2.1.2.2.1 x.1.2.2.1 x.1.2.2.2.1.1 x.1.2.2.2.1.2.1 x.1.2.2.2.2.1 x.1.2.2.2.2.2.1.1 x.1.2.2.2.2.2.1.2.1 x.1.2.2.2.2.2.2.1 x.2.2.2.2.1 x.2.2.2.2.2.1 x.2.2.2.2.2.2.1 := by kernel_rfl
theorem Zk6 (k : Nat) : EOK Try.prog Z9 k Z2p.E (.region 8 Z8l true) := Z6K (D := Z2p) (m := 2) T_ok (Z8g k) (fun x => (Zkr k x).trans (ZkN k x.1.2.1.2.1 x.1.2.1.2.2.1 x.1.2.2.1 x.1.2.2.2.1.1 x.1.2.2.2.1.2.1 x.1.2.2.2.2.1 x.1.2.2.2.2.2.1.1 x.1.2.2.2.2.2.1.2.1 x.1.2.2.2.2.2.2.1 x.2.2.2.2.1 x.2.2.2.2.2.1 x.2.2.2.2.2.2.1))
noncomputable def Z6v : Code := (findLoop 0 Z3Z).getD .skip
theorem Zmg (k : Nat) (x : Z9b.D) : Z2O.lp (k + 1) x = loopK Z9 Z2O 0 Z6v k x := by kernel_rfl
theorem Zmk (k : Nat) : LOK Try.prog Z9 k Z6v := LOK.by [(Z2n.E, .region 6 Z8r true), (Z2p.E, .region 8 Z8l true)] (by kernel_rfl) (AllOK.cons (Zj1 k) (AllOK.cons (Zk6 k) AllOK.nil))
theorem Zm1 (x : Z9b.D) : Z2O.lp 0 x = none := by kernel_rfl
theorem Zkv (k : Nat) : EOK Try.prog Z9 k Z2O.E (.block 0 (.loop Z6v)) := Z8 T_ok Z8g Zm1 Zmg Zmk k
theorem Zqd (k : Nat) (x : Tup Z20.ps) : Z20.f (k + 1) x = fnK Z20 Z9 Z3Z k x := by kernel_rfl
theorem Zqw (x : Tup Z20.ps) : Z20.f 0 x = none := by kernel_rfl
theorem ZqH (k : Nat) : LOK Try.prog Z9 k Z3Z := LOK.by [(Z2O.E, .block 0 (.loop Z6v))] (by kernel_rfl) (AllOK.cons (Zkv k) AllOK.nil)
theorem ZqD (k : Nat) : SoundAt Try.prog k 101 Z20.E := @Z4 Try.prog Z20 Z9 101 Try.f101 Z3Z (by kernel_rfl) (by kernel_rfl) (by kernel_rfl) Try.func101 (by kernel_rfl) (by kernel_rfl) (by kernel_rfl) T_ok Z8g ZqH Zqw Zqd k
end
end Go.Proofs.Ytglkedenkcpcbaa.Vs

set_option maxRecDepth 100000
set_option maxHeartbeats 2000000
set_option linter.unusedVariables false
set_option linter.unusedSimpArgs false
namespace Go.Proofs.Ytglkedenkcpcbaa.Vs
open Go.RowKit
noncomputable section
noncomputable def Z2L : List PK := [PK.mk (Ty.pair (Ty.int .i64) (Ty.pair (Ty.int .i64) (Ty.slice (71 : Nat) (Ty.pair (Ty.int .i64) (Ty.int .i64))))) true none false none]
noncomputable def Zd8 : List PK := [PK.mk (Ty.pair (Ty.slice (5 : Nat) (Ty.int .u8)) (Ty.pair (Ty.int .i64) (Ty.int .u64))) false none false (some (58 : Nat))]
noncomputable def Zcz (r : (Int × Int × List (Int × Int)) × Int × Int) : Tup Z2L × OutD := ((r.1, ()), some ⟨Ty.pair (Ty.slice (5 : Nat) (Ty.int .u8)) (Ty.pair (Ty.int .i64) (Ty.int .u64)), [([], r.2)]⟩)
noncomputable def Z8q : Tup Z2L × OutD → Option ((Int × Int × List (Int × Int)) × Int × Int)
 | (a, some ⟨u, ys⟩) => if h : u = Ty.pair (Ty.slice (5 : Nat) (Ty.int .u8)) (Ty.pair (Ty.int .i64) (Ty.int .u64)) then (match castU h ys with
  | [([], y)] => some (a.1, y)
  | _ => none) else none
 | _ => none
theorem Zht : ∀ b r, Z8q b = some r → Zcz r = b := by
 rintro ⟨a, o⟩ r h
 cases o with
 | none => cases h
 | some s =>
  obtain ⟨u, ys⟩ := s
  simp only [Z8q] at h
  split at h
  ·rename_i hu
   subst hu
   match ys, h with
   | [], h => cases (show (none : Option _) = some r from h)
   | [([], y)], h => injection (show some _ = some r from h) with h; subst h; rfl
   | [(_ :: _, y)], h => cases (show (none : Option _) = some r from h)
   | (h1, _) :: _ :: _, h => cases h1 <;> cases (show (none : Option _) = some r from h)
  ·cases h
noncomputable def ZP : Nat → Int → Int → List Int → Int → Int → List (Int × Int) → Int → Int → List (Int × Int) → Int → Option (Int × Int × List Int × Int × Int × List (Int × Int) × Int × Int × List (Int × Int))
 | 0, _, _, _, _, _, _, _, _, _, _ => none
 | k + 1, b1_1, b1_2, o2, b3_0, b3_1, o4, b5_0, b5_1, o6, v4 =>
  if decide ((↑(List.length o6) : Int) < (18 : Int)) = true then if decide ((↑(List.length o6) : Int) < v4) = true then Option.bind (Z0 k (o2, b1_1, b1_2) (2 : Int)) fun z2 => if List.length o6 + List.length [((3 : Int), Prod.fst z2)] ≤ (140737488355328 / 16 : Nat) then ZP k z2.2.1 z2.2.2 o2 b3_0 b3_1 o4 b5_0 b5_1 (o6 ++ [((3 : Int), Prod.fst z2)]) v4 else none else if List.length o6 + List.length [((0 : Int), (0 : Int))] ≤ (140737488355328 / 16 : Nat) then ZP k b1_1 b1_2 o2 b3_0 b3_1 o4 b5_0 b5_1 (o6 ++ [((0 : Int), (0 : Int))]) v4 else none else some (b1_1, b1_2, o2, b3_0, b3_1, o4, b5_0, b5_1, o6)
noncomputable def Z7E : Spec := Spec.mk [OSh.ro, OSh.box (58 : Nat) [Sh.sl (2 : Nat), Sh.int .i64, Sh.int .u64], OSh.fx (Ty.int .u8), OSh.box (26 : Nat) [Sh.int .i64, Sh.int .i64, Sh.sl (4 : Nat)], OSh.row true (71 : Nat) (Ty.pair (Ty.int .i64) (Ty.int .i64)), OSh.box (26 : Nat) [Sh.int .i64, Sh.int .i64, Sh.sl (6 : Nat)], OSh.row true (71 : Nat) (Ty.pair (Ty.int .i64) (Ty.int .i64))] [((0 : Nat), TSh.at (Sh.ptr (1 : Nat) (0 : Nat))), ((2 : Nat), TSh.at (Sh.ptr (3 : Nat) (0 : Nat))), ((3 : Nat), TSh.at (Sh.ptr (5 : Nat) (0 : Nat))), ((4 : Nat), TSh.at (Sh.int .i64))]
noncomputable def Ziv : Spec := Spec.mk [OSh.ro, OSh.box (58 : Nat) [Sh.sl (2 : Nat), Sh.int .i64, Sh.int .u64], OSh.fx (Ty.int .u8), OSh.box (26 : Nat) [Sh.int .i64, Sh.int .i64, Sh.sl (4 : Nat)], OSh.row true (71 : Nat) (Ty.pair (Ty.int .i64) (Ty.int .i64)), OSh.box (26 : Nat) [Sh.int .i64, Sh.int .i64, Sh.sl (6 : Nat)], OSh.row true (71 : Nat) (Ty.pair (Ty.int .i64) (Ty.int .i64))] [((2 : Nat), TSh.at (Sh.ptr (3 : Nat) (0 : Nat))), ((3 : Nat), TSh.at (Sh.ptr (5 : Nat) (0 : Nat)))]
noncomputable def Z1U : LoopDef (Tup Z2L × OutD) := .plain Z7E Ziv (Int × Int × List Int × Int × Int × List (Int × Int) × Int × Int × List (Int × Int)) (fun k x => ZP k x.1.2.1.2.1 x.1.2.1.2.2.1 x.1.2.2.1 x.1.2.2.2.1.1 x.1.2.2.2.1.2.1 x.1.2.2.2.2.1 x.1.2.2.2.2.2.1.1 x.1.2.2.2.2.2.1.2.1 x.1.2.2.2.2.2.2.1 x.2.2.2.2.1) (fun z => (((), ((), z.1, z.2.1, ()), z.2.2.1, (z.2.2.2.1, z.2.2.2.2.1, (), ()), z.2.2.2.2.2.1, (z.2.2.2.2.2.2.1, z.2.2.2.2.2.2.2.1, (), ()), z.2.2.2.2.2.2.2.2, ()), ((), (), ()))) (fun y => (y.1.2.1.2.1, y.1.2.1.2.2.1, y.1.2.2.1, y.1.2.2.2.1.1, y.1.2.2.2.1.2.1, y.1.2.2.2.2.1, y.1.2.2.2.2.2.1.1, y.1.2.2.2.2.2.1.2.1, y.1.2.2.2.2.2.2.1)) (fun _ => rfl)
noncomputable def Z6u : Nat → List Int × Int × Int → Option ((Int × Int × List (Int × Int)) × Int × Int)
 | 0, _ => none
 | k + 1, p0 =>
  Option.bind (Zm k (Prod.fst p0, Prod.fst p0.2, Prod.snd p0.2) (6 : Int)) fun z0 => if Prod.fst z0 = true then Option.bind (Z0 k (Prod.fst p0, Prod.fst z0.2, Prod.snd z0.2) (2 : Int)) fun z1 => Option.bind (ZP k z1.2.1 z1.2.2 p0.1 (0 : Int) (0 : Int) [] (3 : Int) (6 : Int) [] (wrap64 ((16 : Int) + Prod.fst z1))) fun z3 => some ((Prod.fst z3.2.2.2.2.2.2, Prod.fst z3.2.2.2.2.2.2.2, Prod.snd z3.2.2.2.2.2.2.2), Prod.fst z3, Prod.fst z3.2) else Option.bind (Z5F k (Prod.fst p0, Prod.fst z0.2, Prod.snd z0.2)) fun z4 => some ((Prod.fst z4.1, Prod.fst z4.1.2, Prod.snd z4.1.2), Prod.fst z4.2, Prod.snd z4.2)
noncomputable def Z1a : FnDef := .of Zd8 Z2L ((Int × Int × List (Int × Int)) × Int × Int) (fun k x => Z6u k x.1) Zcz Z8q Zht
noncomputable def Z6s : Code := Try.f77.body.getD .skip
noncomputable def Z1M : Ctx (Tup Z2L × OutD) := { T := T, G := [(58, ZJ.E), (57, Zc.E), (101, Z20.E)], mvs := [], no := 2, n := 34, res := resOf T Zd8 Z2L Try.f77.results.toList, loops := [(0, Z1U.E)], regs := [], conds := [], cuts := [] }
theorem Zde (k : Nat) : EnvOK Try.prog k Z1M.G := (EnvOK.cons (Z5I k) (EnvOK.cons (ZK k) (EnvOK.cons (ZqD k) (EnvOK.nil mixed))))
noncomputable def Z4J : Code := (findLoop 0 Z6s).getD .skip
theorem ZiD (k : Nat) (x : Z7E.D) : Z1U.lp (k + 1) x = loopK Z1M Z1U 0 Z4J k x := by kernel_rfl
theorem Zii (k : Nat) : LOK Try.prog Z1M k Z4J := LOK.by [] (by kernel_rfl) AllOK.nil
theorem ZiH (x : Z7E.D) : Z1U.lp 0 x = none := by kernel_rfl
theorem Zhp (k : Nat) : EOK Try.prog Z1M k Z1U.E (.block 0 (.loop Z4J)) := Z8 T_ok Zde ZiH ZiD Zii k
theorem Zmp (k : Nat) (x : Tup Z1a.ps) : Z1a.f (k + 1) x = fnK Z1a Z1M Z6s k x := by kernel_rfl
theorem ZlJ (x : Tup Z1a.ps) : Z1a.f 0 x = none := by kernel_rfl
theorem ZlF (k : Nat) : LOK Try.prog Z1M k Z6s := LOK.by [(Z1U.E, .block 0 (.loop Z4J))] (by kernel_rfl) (AllOK.cons (Zhp k) AllOK.nil)
theorem Zm6 (k : Nat) : SoundAt Try.prog k 77 Z1a.E := @Z4 Try.prog Z1a Z1M 77 Try.f77 Z6s (by kernel_rfl) (by kernel_rfl) (by kernel_rfl) Try.func77 (by kernel_rfl) (by kernel_rfl) (by kernel_rfl) T_ok Zde ZlF ZlJ Zmp k
end
end Go.Proofs.Ytglkedenkcpcbaa.Vs

set_option maxRecDepth 100000
set_option maxHeartbeats 2000000
set_option linter.unusedVariables false
set_option linter.unusedSimpArgs false
namespace Go.Proofs.Ytglkedenkcpcbaa.Vs
open Go.RowKit
noncomputable section
noncomputable def ZN : List PK := [PK.mk (Ty.pair (Ty.int .i64) (Ty.pair (Ty.int .i64) (Ty.slice (71 : Nat) (Ty.pair (Ty.int .i64) (Ty.int .i64))))) true none false none]
noncomputable def Zd6 : List PK := [PK.mk (Ty.pair (Ty.slice (5 : Nat) (Ty.int .u8)) (Ty.pair (Ty.int .i64) (Ty.int .u64))) false none false (some (58 : Nat))]
noncomputable def Zcy (r : (Int × Int × List (Int × Int)) × Int × Int) : Tup ZN × OutD := ((r.1, ()), some ⟨Ty.pair (Ty.slice (5 : Nat) (Ty.int .u8)) (Ty.pair (Ty.int .i64) (Ty.int .u64)), [([], r.2)]⟩)
noncomputable def Z8p : Tup ZN × OutD → Option ((Int × Int × List (Int × Int)) × Int × Int)
 | (a, some ⟨u, ys⟩) => if h : u = Ty.pair (Ty.slice (5 : Nat) (Ty.int .u8)) (Ty.pair (Ty.int .i64) (Ty.int .u64)) then (match castU h ys with
  | [([], y)] => some (a.1, y)
  | _ => none) else none
 | _ => none
theorem Zhv : ∀ b r, Z8p b = some r → Zcy r = b := by
 rintro ⟨a, o⟩ r h
 cases o with
 | none => cases h
 | some s =>
  obtain ⟨u, ys⟩ := s
  simp only [Z8p] at h
  split at h
  ·rename_i hu
   subst hu
   match ys, h with
   | [], h => cases (show (none : Option _) = some r from h)
   | [([], y)], h => injection (show some _ = some r from h) with h; subst h; rfl
   | [(_ :: _, y)], h => cases (show (none : Option _) = some r from h)
   | (h1, _) :: _ :: _, h => cases h1 <;> cases (show (none : Option _) = some r from h)
  ·cases h
noncomputable def Z1X : Nat → Int → Int → List Int → Int → Int → List (Int × Int) → Int → Int → List (Int × Int) → Int → Option (Int × Int × List Int × Int × Int × List (Int × Int) × Int × Int × List (Int × Int) × Int) := fun k b1_1 b1_2 o2 b3_0 b3_1 o4 b5_0 b5_1 o6 v4 =>
    Option.bind (Z0 k (o2, b1_1, b1_2) (2 : Int)) fun z2 => if (0 : Int) ≤ v4 then if v4 < (↑(List.length o6) : Int) then some (Prod.fst z2.2, Prod.snd z2.2, o2, b3_0, b3_1, o4, b5_0, b5_1, List.set o6 (Int.toNat v4) ((3 : Int), Prod.fst z2), v4) else none else none
noncomputable def Z4a : Nat → Int → Int → List Int → Int → Int → List (Int × Int) → Int → Int → List (Int × Int) → Int → Option (List (Int × Int × List Int × Int × Int × List (Int × Int) × Int × Int × List (Int × Int) × Int)) := fun k b1_1 b1_2 o2 b3_0 b3_1 o4 b5_0 b5_1 o6 v4 =>
    joinL (Option.bind (Z0 k (o2, b1_1, b1_2) (2 : Int)) fun z3 => if (0 : Int) ≤ v4 then if v4 < (↑(List.length o6) : Int) then some [(Prod.fst z3.2, Prod.snd z3.2, o2, b3_0, b3_1, o4, b5_0, b5_1, List.set o6 (Int.toNat v4) ((3 : Int), Prod.fst z3), v4)] else none else none) (Option.bind (Z0 k (o2, b1_1, b1_2) (2 : Int)) fun z4 => if (0 : Int) ≤ v4 then if v4 < (↑(List.length o6) : Int) then some [(Prod.fst z4.2, Prod.snd z4.2, o2, b3_0, b3_1, o4, b5_0, b5_1, List.set o6 (Int.toNat v4) ((3 : Int), Prod.fst z4), v4)] else none else none)
noncomputable def ZaW : Spec := Spec.mk [OSh.ro, OSh.box (58 : Nat) [Sh.sl (2 : Nat), Sh.int .i64, Sh.int .u64], OSh.fx (Ty.int .u8), OSh.box (26 : Nat) [Sh.int .i64, Sh.int .i64, Sh.sl (4 : Nat)], OSh.row true (71 : Nat) (Ty.pair (Ty.int .i64) (Ty.int .i64)), OSh.box (26 : Nat) [Sh.int .i64, Sh.int .i64, Sh.sl (6 : Nat)], OSh.row true (71 : Nat) (Ty.pair (Ty.int .i64) (Ty.int .i64))] [((0 : Nat), TSh.at (Sh.ptr (1 : Nat) (0 : Nat))), ((2 : Nat), TSh.at (Sh.ptr (3 : Nat) (0 : Nat))), ((3 : Nat), TSh.at (Sh.ptr (5 : Nat) (0 : Nat))), ((4 : Nat), TSh.at (Sh.int .i64))]
noncomputable def Zhn : Spec := Spec.mk [OSh.ro, OSh.box (58 : Nat) [Sh.sl (2 : Nat), Sh.int .i64, Sh.int .u64], OSh.fx (Ty.int .u8), OSh.box (26 : Nat) [Sh.int .i64, Sh.int .i64, Sh.sl (4 : Nat)], OSh.row true (71 : Nat) (Ty.pair (Ty.int .i64) (Ty.int .i64)), OSh.box (26 : Nat) [Sh.int .i64, Sh.int .i64, Sh.sl (6 : Nat)], OSh.row true (71 : Nat) (Ty.pair (Ty.int .i64) (Ty.int .i64))] [((0 : Nat), TSh.at (Sh.ptr (1 : Nat) (0 : Nat))), ((2 : Nat), TSh.at (Sh.ptr (3 : Nat) (0 : Nat))), ((3 : Nat), TSh.at (Sh.ptr (5 : Nat) (0 : Nat))), ((4 : Nat), TSh.at (Sh.int .i64))]
noncomputable def Z1u : LoopDef (Tup ZN × OutD) := .plain ZaW Zhn (Int × Int × List Int × Int × Int × List (Int × Int) × Int × Int × List (Int × Int) × Int) (fun k x => Z1X k x.1.2.1.2.1 x.1.2.1.2.2.1 x.1.2.2.1 x.1.2.2.2.1.1 x.1.2.2.2.1.2.1 x.1.2.2.2.2.1 x.1.2.2.2.2.2.1.1 x.1.2.2.2.2.2.1.2.1 x.1.2.2.2.2.2.2.1 x.2.2.2.2.1) (fun z => (((), ((), z.1, z.2.1, ()), z.2.2.1, (z.2.2.2.1, z.2.2.2.2.1, (), ()), z.2.2.2.2.2.1, (z.2.2.2.2.2.2.1, z.2.2.2.2.2.2.2.1, (), ()), z.2.2.2.2.2.2.2.2.1, ()), ((), (), (), z.2.2.2.2.2.2.2.2.2, ()))) (fun y => (y.1.2.1.2.1, y.1.2.1.2.2.1, y.1.2.2.1, y.1.2.2.2.1.1, y.1.2.2.2.1.2.1, y.1.2.2.2.2.1, y.1.2.2.2.2.2.1.1, y.1.2.2.2.2.2.1.2.1, y.1.2.2.2.2.2.2.1, y.2.2.2.2.1)) (fun _ => rfl)
theorem Zhm (k : Nat) (b1_1 : Int) (b1_2 : Int) (o2 : List Int) (b3_0 : Int) (b3_1 : Int) (o4 : List (Int × Int)) (b5_0 : Int) (b5_1 : Int) (o6 : List (Int × Int)) (v4 : Int) : Z4a k b1_1 b1_2 o2 b3_0 b3_1 o4 b5_0 b5_1 o6 v4 = repl 2 (Z1X k b1_1 b1_2 o2 b3_0 b3_1 o4 b5_0 b5_1 o6 v4) := by
 first
 | (simp only [Z4a, Z1X, Zh, Zo, Zg, Zi, Ze, Z3, if_true]; done)
 | (simp only [Z4a, Z1X, Zh, Zo, Zg, Zi, Ze, Z3, if_true]; simp only [Z1E, Z1D, Z3k, Z3]; simp only [Z4r]; exact Z2g ⟨fun h => by simp only [h, and_self], fun h => by simp only [h, and_self]⟩)
noncomputable def Z3h : Nat → Int → Int → List Int → Int → Int → List (Int × Int) → Int → Int → List (Int × Int) → Int → Option (Int × Int × List Int × Int × Int × List (Int × Int) × Int × Int × List (Int × Int))
 | 0, _, _, _, _, _, _, _, _, _, _ => none
 | k + 1, b1_1, b1_2, o2, b3_0, b3_1, o4, b5_0, b5_1, o6, v4 =>
  Option.bind (Z0 k (o2, b1_1, b1_2) (2 : Int)) fun z1 => if decide (v4 < wrap64 ((10 : Int) + Prod.fst z1)) = true then Option.bind (Z1X k z1.2.1 z1.2.2 o2 b3_0 b3_1 o4 b5_0 b5_1 o6 v4) fun z5 => Z3h k z5.1 z5.2.1 z5.2.2.1 z5.2.2.2.1 z5.2.2.2.2.1 z5.2.2.2.2.2.1 z5.2.2.2.2.2.2.1 z5.2.2.2.2.2.2.2.1 z5.2.2.2.2.2.2.2.2.1 (wrap64 (Prod.snd z5.2.2.2.2.2.2.2.2 + (1 : Int))) else some (Prod.fst z1.2, Prod.snd z1.2, o2, b3_0, b3_1, o4, b5_0, b5_1, o6)
noncomputable def Z7x : Spec := Spec.mk [OSh.ro, OSh.box (58 : Nat) [Sh.sl (2 : Nat), Sh.int .i64, Sh.int .u64], OSh.fx (Ty.int .u8), OSh.box (26 : Nat) [Sh.int .i64, Sh.int .i64, Sh.sl (4 : Nat)], OSh.row true (71 : Nat) (Ty.pair (Ty.int .i64) (Ty.int .i64)), OSh.box (26 : Nat) [Sh.int .i64, Sh.int .i64, Sh.sl (6 : Nat)], OSh.row true (71 : Nat) (Ty.pair (Ty.int .i64) (Ty.int .i64))] [((0 : Nat), TSh.at (Sh.ptr (1 : Nat) (0 : Nat))), ((2 : Nat), TSh.at (Sh.ptr (3 : Nat) (0 : Nat))), ((3 : Nat), TSh.at (Sh.ptr (5 : Nat) (0 : Nat))), ((4 : Nat), TSh.at (Sh.int .i64))]
noncomputable def Zit : Spec := Spec.mk [OSh.ro, OSh.box (58 : Nat) [Sh.sl (2 : Nat), Sh.int .i64, Sh.int .u64], OSh.fx (Ty.int .u8), OSh.box (26 : Nat) [Sh.int .i64, Sh.int .i64, Sh.sl (4 : Nat)], OSh.row true (71 : Nat) (Ty.pair (Ty.int .i64) (Ty.int .i64)), OSh.box (26 : Nat) [Sh.int .i64, Sh.int .i64, Sh.sl (6 : Nat)], OSh.row true (71 : Nat) (Ty.pair (Ty.int .i64) (Ty.int .i64))] [((2 : Nat), TSh.at (Sh.ptr (3 : Nat) (0 : Nat))), ((3 : Nat), TSh.at (Sh.ptr (5 : Nat) (0 : Nat)))]
noncomputable def Z1W : LoopDef (Tup ZN × OutD) := .plain Z7x Zit (Int × Int × List Int × Int × Int × List (Int × Int) × Int × Int × List (Int × Int)) (fun k x => Z3h k x.1.2.1.2.1 x.1.2.1.2.2.1 x.1.2.2.1 x.1.2.2.2.1.1 x.1.2.2.2.1.2.1 x.1.2.2.2.2.1 x.1.2.2.2.2.2.1.1 x.1.2.2.2.2.2.1.2.1 x.1.2.2.2.2.2.2.1 x.2.2.2.2.1) (fun z => (((), ((), z.1, z.2.1, ()), z.2.2.1, (z.2.2.2.1, z.2.2.2.2.1, (), ()), z.2.2.2.2.2.1, (z.2.2.2.2.2.2.1, z.2.2.2.2.2.2.2.1, (), ()), z.2.2.2.2.2.2.2.2, ()), ((), (), ()))) (fun y => (y.1.2.1.2.1, y.1.2.1.2.2.1, y.1.2.2.1, y.1.2.2.2.1.1, y.1.2.2.2.1.2.1, y.1.2.2.2.2.1, y.1.2.2.2.2.2.1.1, y.1.2.2.2.2.2.1.2.1, y.1.2.2.2.2.2.2.1)) (fun _ => rfl)
noncomputable def Z1w : Nat → Int → Int → List Int → Int → Int → List (Int × Int) → Int → Int → List (Int × Int) → Int → Int → Int → Option (Int × Int × List Int × Int × Int × List (Int × Int) × Int × Int × List (Int × Int) × Int × Int) := fun k b1_1 b1_2 o2 b3_0 b3_1 o4 b5_0 b5_1 o6 v6 v40 v41 =>
    Option.bind (Zb k (o2, b1_1, b1_2) [(6 : Int), (7 : Int), (3 : Int)]) fun z13 => if (0 : Int) ≤ v6 then if v6 < (↑(List.length o6) : Int) then some (Prod.fst z13.2, Prod.snd z13.2, o2, b3_0, b3_1, o4, b5_0, b5_1, List.set o6 (Int.toNat v6) (Prod.fst z13, (0 : Int)), v40, v41) else none else none
noncomputable def Z3K : Nat → Int → Int → List Int → Int → Int → List (Int × Int) → Int → Int → List (Int × Int) → Int → Int → Int → Option (List (Int × Int × List Int × Int × Int × List (Int × Int) × Int × Int × List (Int × Int) × Int × Int)) := fun k b1_1 b1_2 o2 b3_0 b3_1 o4 b5_0 b5_1 o6 v6 v40 v41 =>
    joinL (Option.bind (Zb k (o2, b1_1, b1_2) [(6 : Int), (7 : Int), (3 : Int)]) fun z14 => if (0 : Int) ≤ v6 then if v6 < (↑(List.length o6) : Int) then some [(Prod.fst z14.2, Prod.snd z14.2, o2, b3_0, b3_1, o4, b5_0, b5_1, List.set o6 (Int.toNat v6) (Prod.fst z14, (0 : Int)), v40, v41)] else none else none) (joinL (Option.bind (Zb k (o2, b1_1, b1_2) [(6 : Int), (7 : Int), (3 : Int)]) fun z15 => if (0 : Int) ≤ v6 then if v6 < (↑(List.length o6) : Int) then some [(Prod.fst z15.2, Prod.snd z15.2, o2, b3_0, b3_1, o4, b5_0, b5_1, List.set o6 (Int.toNat v6) (Prod.fst z15, (0 : Int)), v40, v41)] else none else none) (Option.bind (Zb k (o2, b1_1, b1_2) [(6 : Int), (7 : Int), (3 : Int)]) fun z16 => if (0 : Int) ≤ v6 then if v6 < (↑(List.length o6) : Int) then some [(Prod.fst z16.2, Prod.snd z16.2, o2, b3_0, b3_1, o4, b5_0, b5_1, List.set o6 (Int.toNat v6) (Prod.fst z16, (0 : Int)), v40, v41)] else none else none))
noncomputable def Zaf : Spec := Spec.mk [OSh.ro, OSh.box (58 : Nat) [Sh.sl (2 : Nat), Sh.int .i64, Sh.int .u64], OSh.fx (Ty.int .u8), OSh.box (26 : Nat) [Sh.int .i64, Sh.int .i64, Sh.sl (4 : Nat)], OSh.row true (71 : Nat) (Ty.pair (Ty.int .i64) (Ty.int .i64)), OSh.box (26 : Nat) [Sh.int .i64, Sh.int .i64, Sh.sl (6 : Nat)], OSh.row true (71 : Nat) (Ty.pair (Ty.int .i64) (Ty.int .i64))] [((0 : Nat), TSh.at (Sh.ptr (1 : Nat) (0 : Nat))), ((2 : Nat), TSh.at (Sh.ptr (3 : Nat) (0 : Nat))), ((5 : Nat), TSh.at (Sh.ptr (5 : Nat) (0 : Nat))), ((6 : Nat), TSh.at (Sh.int .i64)), ((40 : Nat), TSh.at (Sh.int .i64)), ((41 : Nat), TSh.at (Sh.int .i64))]
noncomputable def ZgN : Spec := Spec.mk [OSh.ro, OSh.box (58 : Nat) [Sh.sl (2 : Nat), Sh.int .i64, Sh.int .u64], OSh.fx (Ty.int .u8), OSh.box (26 : Nat) [Sh.int .i64, Sh.int .i64, Sh.sl (4 : Nat)], OSh.row true (71 : Nat) (Ty.pair (Ty.int .i64) (Ty.int .i64)), OSh.box (26 : Nat) [Sh.int .i64, Sh.int .i64, Sh.sl (6 : Nat)], OSh.row true (71 : Nat) (Ty.pair (Ty.int .i64) (Ty.int .i64))] [((0 : Nat), TSh.at (Sh.ptr (1 : Nat) (0 : Nat))), ((2 : Nat), TSh.at (Sh.ptr (3 : Nat) (0 : Nat))), ((5 : Nat), TSh.at (Sh.ptr (5 : Nat) (0 : Nat))), ((40 : Nat), TSh.at (Sh.int .i64)), ((41 : Nat), TSh.at (Sh.int .i64))]
noncomputable def Z1m : LoopDef (Tup ZN × OutD) := .plain Zaf ZgN (Int × Int × List Int × Int × Int × List (Int × Int) × Int × Int × List (Int × Int) × Int × Int) (fun k x => Z1w k x.1.2.1.2.1 x.1.2.1.2.2.1 x.1.2.2.1 x.1.2.2.2.1.1 x.1.2.2.2.1.2.1 x.1.2.2.2.2.1 x.1.2.2.2.2.2.1.1 x.1.2.2.2.2.2.1.2.1 x.1.2.2.2.2.2.2.1 x.2.2.2.2.1 x.2.2.2.2.2.1 x.2.2.2.2.2.2.1) (fun z => (((), ((), z.1, z.2.1, ()), z.2.2.1, (z.2.2.2.1, z.2.2.2.2.1, (), ()), z.2.2.2.2.2.1, (z.2.2.2.2.2.2.1, z.2.2.2.2.2.2.2.1, (), ()), z.2.2.2.2.2.2.2.2.1, ()), ((), (), (), z.2.2.2.2.2.2.2.2.2.1, z.2.2.2.2.2.2.2.2.2.2, ()))) (fun y => (y.1.2.1.2.1, y.1.2.1.2.2.1, y.1.2.2.1, y.1.2.2.2.1.1, y.1.2.2.2.1.2.1, y.1.2.2.2.2.1, y.1.2.2.2.2.2.1.1, y.1.2.2.2.2.2.1.2.1, y.1.2.2.2.2.2.2.1, y.2.2.2.2.1, y.2.2.2.2.2.1)) (fun _ => rfl)
theorem ZgR (k : Nat) (b1_1 : Int) (b1_2 : Int) (o2 : List Int) (b3_0 : Int) (b3_1 : Int) (o4 : List (Int × Int)) (b5_0 : Int) (b5_1 : Int) (o6 : List (Int × Int)) (v6 : Int) (v40 : Int) (v41 : Int) : Z3K k b1_1 b1_2 o2 b3_0 b3_1 o4 b5_0 b5_1 o6 v6 v40 v41 = repl 3 (Z1w k b1_1 b1_2 o2 b3_0 b3_1 o4 b5_0 b5_1 o6 v6 v40 v41) := by
 first
 | (simp only [Z3K, Z1w, Zh, Zo, Zg, Zi, Ze, Z3, if_true]; done)
 | (simp only [Z3K, Z1w, Zh, Zo, Zg, Zi, Ze, Z3, if_true]; simp only [Z1E, Z1D, Z3k, Z3]; simp only [Z4r]; exact Z2g ⟨fun h => by simp only [h, and_self], fun h => by simp only [h, and_self]⟩)
noncomputable def ZQ : Nat → Int → Int → List Int → Int → Int → List (Int × Int) → Int → Int → List (Int × Int) → Int → Int → Option (Int × Int × List Int × Int × Int × List (Int × Int) × Int × Int × List (Int × Int))
 | 0, _, _, _, _, _, _, _, _, _, _, _ => none
 | k + 1, b1_1, b1_2, o2, b3_0, b3_1, o4, b5_0, b5_1, o6, v40, v41 =>
  if decide (v41 < v40) = true then Option.bind (Zm k (o2, b1_1, b1_2) (4 : Int)) fun z12 => if Prod.fst z12 = true then Option.bind (Z1w k z12.2.1 z12.2.2 o2 b3_0 b3_1 o4 b5_0 b5_1 o6 v41 v40 v41) fun z17 => ZQ k z17.1 z17.2.1 z17.2.2.1 z17.2.2.2.1 z17.2.2.2.2.1 z17.2.2.2.2.2.1 z17.2.2.2.2.2.2.1 z17.2.2.2.2.2.2.2.1 z17.2.2.2.2.2.2.2.2.1 z17.2.2.2.2.2.2.2.2.2.1 (wrap64 (Prod.snd z17.2.2.2.2.2.2.2.2.2 + (1 : Int))) else ZQ k z12.2.1 z12.2.2 o2 b3_0 b3_1 o4 b5_0 b5_1 o6 v40 (wrap64 (v41 + (1 : Int))) else some (b1_1, b1_2, o2, b3_0, b3_1, o4, b5_0, b5_1, o6)
noncomputable def Z7I : Spec := Spec.mk [OSh.ro, OSh.box (58 : Nat) [Sh.sl (2 : Nat), Sh.int .i64, Sh.int .u64], OSh.fx (Ty.int .u8), OSh.box (26 : Nat) [Sh.int .i64, Sh.int .i64, Sh.sl (4 : Nat)], OSh.row true (71 : Nat) (Ty.pair (Ty.int .i64) (Ty.int .i64)), OSh.box (26 : Nat) [Sh.int .i64, Sh.int .i64, Sh.sl (6 : Nat)], OSh.row true (71 : Nat) (Ty.pair (Ty.int .i64) (Ty.int .i64))] [((0 : Nat), TSh.at (Sh.ptr (1 : Nat) (0 : Nat))), ((2 : Nat), TSh.at (Sh.ptr (3 : Nat) (0 : Nat))), ((5 : Nat), TSh.at (Sh.ptr (5 : Nat) (0 : Nat))), ((40 : Nat), TSh.at (Sh.int .i64)), ((41 : Nat), TSh.at (Sh.int .i64))]
noncomputable def ZiG : Spec := Spec.mk [OSh.ro, OSh.box (58 : Nat) [Sh.sl (2 : Nat), Sh.int .i64, Sh.int .u64], OSh.fx (Ty.int .u8), OSh.box (26 : Nat) [Sh.int .i64, Sh.int .i64, Sh.sl (4 : Nat)], OSh.row true (71 : Nat) (Ty.pair (Ty.int .i64) (Ty.int .i64)), OSh.box (26 : Nat) [Sh.int .i64, Sh.int .i64, Sh.sl (6 : Nat)], OSh.row true (71 : Nat) (Ty.pair (Ty.int .i64) (Ty.int .i64))] [((2 : Nat), TSh.at (Sh.ptr (3 : Nat) (0 : Nat))), ((5 : Nat), TSh.at (Sh.ptr (5 : Nat) (0 : Nat)))]
noncomputable def Z1V : LoopDef (Tup ZN × OutD) := .plain Z7I ZiG (Int × Int × List Int × Int × Int × List (Int × Int) × Int × Int × List (Int × Int)) (fun k x => ZQ k x.1.2.1.2.1 x.1.2.1.2.2.1 x.1.2.2.1 x.1.2.2.2.1.1 x.1.2.2.2.1.2.1 x.1.2.2.2.2.1 x.1.2.2.2.2.2.1.1 x.1.2.2.2.2.2.1.2.1 x.1.2.2.2.2.2.2.1 x.2.2.2.2.1 x.2.2.2.2.2.1) (fun z => (((), ((), z.1, z.2.1, ()), z.2.2.1, (z.2.2.2.1, z.2.2.2.2.1, (), ()), z.2.2.2.2.2.1, (z.2.2.2.2.2.2.1, z.2.2.2.2.2.2.2.1, (), ()), z.2.2.2.2.2.2.2.2, ()), ((), (), ()))) (fun y => (y.1.2.1.2.1, y.1.2.1.2.2.1, y.1.2.2.1, y.1.2.2.2.1.1, y.1.2.2.2.1.2.1, y.1.2.2.2.2.1, y.1.2.2.2.2.2.1.1, y.1.2.2.2.2.2.1.2.1, y.1.2.2.2.2.2.2.1)) (fun _ => rfl)
noncomputable def Z45 : Nat → List Int × Int × Int → Option ((Int × Int × List (Int × Int)) × Int × Int)
 | 0, _ => none
 | k + 1, p0 =>
  Option.bind (Zm k (Prod.fst p0, Prod.fst p0.2, Prod.snd p0.2) (20 : Int)) fun z0 => if Prod.fst z0 = true then Option.bind (Z3h k z0.2.1 z0.2.2 p0.1 (0 : Int) (0 : Int) [] (3 : Int) (4 : Int) (List.replicate (Int.toNat (12 : Int)) ((0 : Int), (0 : Int))) (0 : Int)) fun z6 => some ((Prod.fst z6.2.2.2.2.2.2, Prod.fst z6.2.2.2.2.2.2.2, Prod.snd z6.2.2.2.2.2.2.2), Prod.fst z6, Prod.fst z6.2) else Option.bind (Zm k (Prod.fst p0, Prod.fst z0.2, Prod.snd z0.2) (12 : Int)) fun z7 => if Prod.fst z7 = true then Option.bind (Z6u k (Prod.fst p0, Prod.fst z7.2, Prod.snd z7.2)) fun z8 => some ((Prod.fst z8.1, Prod.fst z8.1.2, Prod.snd z8.1.2), Prod.fst z8.2, Prod.snd z8.2) else Option.bind (Z0 k (Prod.fst p0, Prod.fst z7.2, Prod.snd z7.2) (4 : Int)) fun z9 => Option.bind (Z0 k (Prod.fst p0, Prod.fst z9.2, Prod.snd z9.2) (3 : Int)) fun z10 => Option.bind (Z2w k (Prod.fst p0, Prod.fst z10.2, Prod.snd z10.2) (wrap64 ((1 : Int) + Prod.fst z9)) (wrap64 ((1 : Int) + Prod.fst z10))) fun z11 => Option.bind (ZQ k z11.2.1 z11.2.2 p0.1 (0 : Int) (0 : Int) [] z11.1.1 z11.1.2.1 z11.1.2.2 (↑(List.length z11.1.2.2) : Int) (0 : Int)) fun z18 => some ((Prod.fst z18.2.2.2.2.2.2, Prod.fst z18.2.2.2.2.2.2.2, Prod.snd z18.2.2.2.2.2.2.2), Prod.fst z18, Prod.fst z18.2)
noncomputable def ZM : FnDef := .of Zd6 ZN ((Int × Int × List (Int × Int)) × Int × Int) (fun k x => Z45 k x.1) Zcy Z8p Zhv
noncomputable def Z1O : Code := Try.f37.body.getD .skip
noncomputable def Z5 : Ctx (Tup ZN × OutD) := { T := T, G := [(58, ZJ.E), (57, Zc.E), (77, Z1a.E), (78, Z15.E), (60, Zv.E)], mvs := [], no := 2, n := 56, res := resOf T Zd6 ZN Try.f37.results.toList, loops := [(0, Z1W.E), (2, Z1V.E)], regs := [(6, Z1u.E), (15, Z1m.E)], conds := [], cuts := [] }
theorem Z42 (k : Nat) : EnvOK Try.prog k Z5.G := (EnvOK.cons (Z5I k) (EnvOK.cons (ZK k) (EnvOK.cons (Zm6 k) (EnvOK.cons (Zff k) (EnvOK.cons (Z4D k) (EnvOK.nil mixed))))))
noncomputable def Z7e : Array Oper := (findReg 6 Z1O).getD #[]
theorem ZhD (k : Nat) (x : ZaW.D) : execD Z5.T Z5.G Z5.mvs k Z7e (Z1u.inp.st Z5.n x) (outK Z5 Z1u) = Z4a k x.1.2.1.2.1 x.1.2.1.2.2.1 x.1.2.2.1 x.1.2.2.2.1.1 x.1.2.2.2.1.2.1 x.1.2.2.2.2.1 x.1.2.2.2.2.2.1.1 x.1.2.2.2.2.2.1.2.1 x.1.2.2.2.2.2.2.1 x.2.2.2.2.1 := by kernel_rfl
theorem ZgV (k : Nat) : EOK Try.prog Z5 k Z1u.E (.region 6 Z7e true) := Z6K (D := Z1u) (m := 2) T_ok (Z42 k) (fun x => (ZhD k x).trans (Zhm k x.1.2.1.2.1 x.1.2.1.2.2.1 x.1.2.2.1 x.1.2.2.2.1.1 x.1.2.2.2.1.2.1 x.1.2.2.2.2.1 x.1.2.2.2.2.2.1.1 x.1.2.2.2.2.2.1.2.1 x.1.2.2.2.2.2.2.1 x.2.2.2.2.1))
noncomputable def Z6E : Array Oper := (findReg 15 Z1O).getD #[]
theorem ZgO (k : Nat) (x : Zaf.D) : execD Z5.T Z5.G Z5.mvs k Z6E (Z1m.inp.st Z5.n x) (outK Z5 Z1m) = Z3K k x.1.2.1.2.1 x.1.2.1.2.2.1 x.1.2.2.1 x.1.2.2.2.1.1 x.1.2.2.2.1.2.1 x.1.2.2.2.2.1 x.1.2.2.2.2.2.1.1 x.1.2.2.2.2.2.1.2.1 x.1.2.2.2.2.2.2.1 x.2.2.2.2.1 x.2.2.2.2.2.1 x.2.2.2.2.2.2.1 := by kernel_rfl
theorem Zg1 (k : Nat) : EOK Try.prog Z5 k Z1m.E (.region 15 Z6E true) := Z6K (D := Z1m) (m := 3) T_ok (Z42 k) (fun x => (ZgO k x).trans (ZgR k x.1.2.1.2.1 x.1.2.1.2.2.1 x.1.2.2.1 x.1.2.2.2.1.1 x.1.2.2.2.1.2.1 x.1.2.2.2.2.1 x.1.2.2.2.2.2.1.1 x.1.2.2.2.2.2.1.2.1 x.1.2.2.2.2.2.2.1 x.2.2.2.2.1 x.2.2.2.2.2.1 x.2.2.2.2.2.2.1))
noncomputable def Z4E : Code := (findLoop 0 Z1O).getD .skip
theorem Zis (k : Nat) (x : Z7x.D) : Z1W.lp (k + 1) x = loopK Z5 Z1W 0 Z4E k x := by kernel_rfl
theorem Zib (k : Nat) : LOK Try.prog Z5 k Z4E := LOK.by [(Z1u.E, .region 6 Z7e true)] (by kernel_rfl) (AllOK.cons (ZgV k) AllOK.nil)
theorem Zim (x : Z7x.D) : Z1W.lp 0 x = none := by kernel_rfl
theorem Zhw (k : Nat) : EOK Try.prog Z5 k Z1W.E (.block 0 (.loop Z4E)) := Z8 T_ok Z42 Zim Zis Zib k
noncomputable def Z4H : Code := (findLoop 2 Z1O).getD .skip
theorem Zio (k : Nat) (x : Z7I.D) : Z1V.lp (k + 1) x = loopK Z5 Z1V 2 Z4H k x := by kernel_rfl
theorem ZiI (k : Nat) : LOK Try.prog Z5 k Z4H := LOK.by [(Z1m.E, .region 15 Z6E true)] (by kernel_rfl) (AllOK.cons (Zg1 k) AllOK.nil)
theorem Zip (x : Z7I.D) : Z1V.lp 0 x = none := by kernel_rfl
theorem Zhz (k : Nat) : EOK Try.prog Z5 k Z1V.E (.block 2 (.loop Z4H)) := Z8 T_ok Z42 Zip Zio ZiI k
theorem Zma (k : Nat) (x : Tup ZM.ps) : ZM.f (k + 1) x = fnK ZM Z5 Z1O k x := by kernel_rfl
theorem ZlB (x : Tup ZM.ps) : ZM.f 0 x = none := by kernel_rfl
theorem ZlP (k : Nat) : LOK Try.prog Z5 k Z1O := LOK.by [(Z1W.E, .block 0 (.loop Z4E)), (Z1V.E, .block 2 (.loop Z4H))] (by kernel_rfl) (AllOK.cons (Zhw k) (AllOK.cons (Zhz k) AllOK.nil))
theorem Zdl (k : Nat) : SoundAt Try.prog k 37 ZM.E := @Z4 Try.prog ZM Z5 37 Try.f37 Z1O (by kernel_rfl) (by kernel_rfl) (by kernel_rfl) Try.func37 (by kernel_rfl) (by kernel_rfl) (by kernel_rfl) T_ok Z42 ZlP ZlB Zma k
end
end Go.Proofs.Ytglkedenkcpcbaa.Vs

set_option maxRecDepth 100000
set_option maxHeartbeats 2000000
set_option linter.unusedVariables false
set_option linter.unusedSimpArgs false
namespace Go.Proofs.Ytglkedenkcpcbaa.Vs
open Go.RowKit
noncomputable section
noncomputable def Z2q : List PK := [PK.mk (Ty.pair (Ty.int .i64) (Ty.pair (Ty.int .i64) (Ty.slice (71 : Nat) (Ty.pair (Ty.int .i64) (Ty.int .i64))))) true none false none, PK.mk (Ty.int .i64) false none false none]
noncomputable def ZcD : List PK := [PK.mk (Ty.slice (5 : Nat) (Ty.int .u8)) false none false none]
noncomputable def ZbH (r : (Int × Int × List (Int × Int)) × Int) : Tup Z2q × OutD := ((r.1, r.2, ()), none)
noncomputable def ZbY : Tup Z2q × OutD → Option ((Int × Int × List (Int × Int)) × Int)
 | (a, none) => some (a.1, a.2.1)
 | _ => none
theorem Zhb : ∀ b r, ZbY b = some r → ZbH r = b := by
 rintro ⟨a, o⟩ r h
 cases o with
 | none => injection h with h; subst h; rfl
 | some _ => cases h
noncomputable def Z1x : Nat → Int → Int → List (Int × Int) → List Int → Int → Int → Int → Int → List (Int × Int) → Option (Int × Int × List (Int × Int) × Int) := fun k b1_0 b1_1 o2 b3_0 b3_1 b3_2 b4_0 b4_1 o5 =>
    Option.bind (Z1o k (b3_0, b3_1, b3_2) (b4_0, b4_1, o5)) fun z1 => some (b4_0, b4_1, o5, Prod.fst z1)
noncomputable def Z3J : Nat → Int → Int → List (Int × Int) → List Int → Int → Int → Int → Int → List (Int × Int) → Option (List (Int × Int × List (Int × Int) × Int)) := fun k b1_0 b1_1 o2 b3_0 b3_1 b3_2 b4_0 b4_1 o5 =>
    joinL (Option.bind (Z1o k (b3_0, b3_1, b3_2) (b4_0, b4_1, o5)) fun z2 => some [(b4_0, b4_1, o5, Prod.fst z2)]) (Option.bind (Z1o k (b3_0, b3_1, b3_2) (b4_0, b4_1, o5)) fun z3 => some [(b4_0, b4_1, o5, Prod.fst z3)])
noncomputable def Zag : Spec := Spec.mk [OSh.ro, OSh.box (26 : Nat) [Sh.int .i64, Sh.int .i64, Sh.sl (2 : Nat)], OSh.row true (71 : Nat) (Ty.pair (Ty.int .i64) (Ty.int .i64)), OSh.box (58 : Nat) [Sh.snap (0 : Nat) (Ty.int .u8), Sh.int .i64, Sh.int .u64], OSh.box (26 : Nat) [Sh.int .i64, Sh.int .i64, Sh.sl (5 : Nat)], OSh.row true (71 : Nat) (Ty.pair (Ty.int .i64) (Ty.int .i64))] [((2 : Nat), TSh.at (Sh.ptr (1 : Nat) (0 : Nat))), ((4 : Nat), TSh.at (Sh.ptr (3 : Nat) (0 : Nat))), ((5 : Nat), TSh.at (Sh.ptr (4 : Nat) (0 : Nat)))]
noncomputable def ZgX : Spec := Spec.mk [OSh.ro, OSh.box (26 : Nat) [Sh.int .i64, Sh.int .i64, Sh.sl (2 : Nat)], OSh.row true (71 : Nat) (Ty.pair (Ty.int .i64) (Ty.int .i64))] [((2 : Nat), TSh.at (Sh.ptr (1 : Nat) (0 : Nat))), ((3 : Nat), TSh.at (Sh.int .i64))]
noncomputable def Z1j : LoopDef (Tup Z2q × OutD) := .plain Zag ZgX (Int × Int × List (Int × Int) × Int) (fun k x => Z1x k x.1.2.1.1 x.1.2.1.2.1 x.1.2.2.1 x.1.2.2.2.1.1 x.1.2.2.2.1.2.1 x.1.2.2.2.1.2.2.1 x.1.2.2.2.2.1.1 x.1.2.2.2.2.1.2.1 x.1.2.2.2.2.2.1) (fun z => (((), (z.1, z.2.1, (), ()), z.2.2.1, ()), ((), z.2.2.2, ()))) (fun y => (y.1.2.1.1, y.1.2.1.2.1, y.1.2.2.1, y.2.2.1)) (fun _ => rfl)
theorem ZgK (k : Nat) (b1_0 : Int) (b1_1 : Int) (o2 : List (Int × Int)) (b3_0 : List Int) (b3_1 : Int) (b3_2 : Int) (b4_0 : Int) (b4_1 : Int) (o5 : List (Int × Int)) : Z3J k b1_0 b1_1 o2 b3_0 b3_1 b3_2 b4_0 b4_1 o5 = repl 2 (Z1x k b1_0 b1_1 o2 b3_0 b3_1 b3_2 b4_0 b4_1 o5) := by
 first
 | (simp only [Z3J, Z1x, Zh, Zo, Zg, Zi, Ze, Z3, if_true]; done)
 | (simp only [Z3J, Z1x, Zh, Zo, Zg, Zi, Ze, Z3, if_true]; simp only [Z1E, Z1D, Z3k, Z3]; simp only [Z4r]; exact Z2g ⟨fun h => by simp only [h, and_self], fun h => by simp only [h, and_self]⟩)
noncomputable def Z5C : Nat → List Int → Option ((Int × Int × List (Int × Int)) × Int)
 | 0, _ => none
 | k + 1, p0 =>
  Option.bind (Z45 k (p0, (0 : Int), (0 : Int))) fun z0 => Option.bind (Z1x k (0 : Int) (0 : Int) [] p0 z0.2.1 z0.2.2 z0.1.1 z0.1.2.1 z0.1.2.2) fun z4 => some ((Prod.fst z4, Prod.fst z4.2, Prod.fst z4.2.2), Prod.snd z4.2.2)
noncomputable def ZZ : FnDef := .of ZcD Z2q ((Int × Int × List (Int × Int)) × Int) (fun k x => Z5C k x.1) ZbH ZbY Zhb
noncomputable def Z5D : Code := Try.f6.body.getD .skip
noncomputable def Zt : Ctx (Tup Z2q × OutD) := { T := T, G := [(37, ZM.E), (38, ZW.E)], mvs := [], no := 0, n := 15, res := resOf T ZcD Z2q Try.f6.results.toList, loops := [], regs := [(3, Z1j.E)], conds := [], cuts := [] }
theorem ZcA (k : Nat) : EnvOK Try.prog k Zt.G := (EnvOK.cons (Zdl k) (EnvOK.cons (ZeC k) (EnvOK.nil mixed)))
noncomputable def Z6I : Array Oper := (findReg 3 Z5D).getD #[]
theorem ZgJ (k : Nat) (x : Zag.D) : execD Zt.T Zt.G Zt.mvs k Z6I (Z1j.inp.st Zt.n x) (outK Zt Z1j) = Z3J k x.1.2.1.1 x.1.2.1.2.1 x.1.2.2.1 x.1.2.2.2.1.1 x.1.2.2.2.1.2.1 x.1.2.2.2.1.2.2.1 x.1.2.2.2.2.1.1 x.1.2.2.2.2.1.2.1 x.1.2.2.2.2.2.1 := by kernel_rfl
theorem Zg7 (k : Nat) : EOK Try.prog Zt k Z1j.E (.region 3 Z6I true) := Z6K (D := Z1j) (m := 2) T_ok (ZcA k) (fun x => (ZgJ k x).trans (ZgK k x.1.2.1.1 x.1.2.1.2.1 x.1.2.2.1 x.1.2.2.2.1.1 x.1.2.2.2.1.2.1 x.1.2.2.2.1.2.2.1 x.1.2.2.2.2.1.1 x.1.2.2.2.2.1.2.1 x.1.2.2.2.2.2.1))
theorem Zks (k : Nat) (x : Tup ZZ.ps) : ZZ.f (k + 1) x = fnK ZZ Zt Z5D k x := by kernel_rfl
theorem ZkG (x : Tup ZZ.ps) : ZZ.f 0 x = none := by kernel_rfl
theorem Zkq (k : Nat) : LOK Try.prog Zt k Z5D := LOK.by [(Z1j.E, .region 3 Z6I true)] (by kernel_rfl) (AllOK.cons (Zg7 k) AllOK.nil)
theorem Zko (k : Nat) : SoundAt Try.prog k 6 ZZ.E := @Z4 Try.prog ZZ Zt 6 Try.f6 Z5D (by kernel_rfl) (by kernel_rfl) (by kernel_rfl) Try.func6 (by kernel_rfl) (by kernel_rfl) (by kernel_rfl) T_ok ZcA Zkq ZkG Zks k
noncomputable def Zz : List PK := [PK.mk (Ty.pair (Ty.int .i64) (Ty.pair (Ty.int .i64) (Ty.slice (71 : Nat) (Ty.pair (Ty.int .i64) (Ty.int .i64))))) true none false none, PK.mk (Ty.pair (Ty.int .i64) (Ty.pair (Ty.int .i64) (Ty.slice (71 : Nat) (Ty.pair (Ty.int .i64) (Ty.int .i64))))) true none false none, PK.mk (Ty.int .i64) false none false none]
noncomputable def ZbR : List PK := [PK.mk (Ty.slice (5 : Nat) (Ty.int .u8)) false none false none]
noncomputable def ZbF (r : (Int × Int × List (Int × Int)) × (Int × Int × List (Int × Int)) × Int) : Tup Zz × OutD := ((r.1, r.2.1, r.2.2, ()), none)
noncomputable def ZbC : Tup Zz × OutD → Option ((Int × Int × List (Int × Int)) × (Int × Int × List (Int × Int)) × Int)
 | (a, none) => some (a.1, a.2.1, a.2.2.1)
 | _ => none
theorem Zg4 : ∀ b r, ZbC b = some r → ZbF r = b := by
 rintro ⟨a, o⟩ r h
 cases o with
 | none => injection h with h; subst h; rfl
 | some _ => cases h
noncomputable def Zy : Nat → Int → Int → List (Int × Int) → Int → Int → List (Int × Int) → List Int → Int → Int → Int → Int → List (Int × Int) → Int → Option (Int × Int × List (Int × Int) × Int × Int × List (Int × Int) × Int) := fun k b1_0 b1_1 o2 b3_0 b3_1 o4 b5_0 b5_1 b5_2 b6_0 b6_1 o7 v7 =>
    Option.bind (Zf k (b5_0, b5_1, b5_2)) fun z3 => some (b6_0, b6_1, o7, Prod.fst z3.1, Prod.fst z3.1.2, Prod.snd z3.1.2, v7)
noncomputable def Z3B : Nat → Int → Int → List (Int × Int) → Int → Int → List (Int × Int) → List Int → Int → Int → Int → Int → List (Int × Int) → Int → Option (List (Int × Int × List (Int × Int) × Int × Int × List (Int × Int) × Int)) := fun k b1_0 b1_1 o2 b3_0 b3_1 o4 b5_0 b5_1 b5_2 b6_0 b6_1 o7 v7 =>
    joinL (Option.bind (Zf k (b5_0, b5_1, b5_2)) fun z4 => some [(b6_0, b6_1, o7, Prod.fst z4.1, Prod.fst z4.1.2, Prod.snd z4.1.2, v7)]) (Option.bind (Zf k (b5_0, b5_1, b5_2)) fun z5 => some [(b6_0, b6_1, o7, Prod.fst z5.1, Prod.fst z5.1.2, Prod.snd z5.1.2, v7)])
noncomputable def Z9X : Spec := Spec.mk [OSh.ro, OSh.box (26 : Nat) [Sh.int .i64, Sh.int .i64, Sh.sl (2 : Nat)], OSh.row true (71 : Nat) (Ty.pair (Ty.int .i64) (Ty.int .i64)), OSh.box (26 : Nat) [Sh.int .i64, Sh.int .i64, Sh.sl (4 : Nat)], OSh.row true (71 : Nat) (Ty.pair (Ty.int .i64) (Ty.int .i64)), OSh.box (58 : Nat) [Sh.snap (0 : Nat) (Ty.int .u8), Sh.int .i64, Sh.int .u64], OSh.box (26 : Nat) [Sh.int .i64, Sh.int .i64, Sh.sl (7 : Nat)], OSh.row true (71 : Nat) (Ty.pair (Ty.int .i64) (Ty.int .i64))] [((2 : Nat), TSh.at (Sh.ptr (1 : Nat) (0 : Nat))), ((3 : Nat), TSh.at (Sh.ptr (3 : Nat) (0 : Nat))), ((5 : Nat), TSh.at (Sh.ptr (5 : Nat) (0 : Nat))), ((6 : Nat), TSh.at (Sh.ptr (6 : Nat) (0 : Nat))), ((7 : Nat), TSh.at (Sh.int .i64))]
noncomputable def ZfZ : Spec := Spec.mk [OSh.ro, OSh.box (26 : Nat) [Sh.int .i64, Sh.int .i64, Sh.sl (2 : Nat)], OSh.row true (71 : Nat) (Ty.pair (Ty.int .i64) (Ty.int .i64)), OSh.box (26 : Nat) [Sh.int .i64, Sh.int .i64, Sh.sl (4 : Nat)], OSh.row true (71 : Nat) (Ty.pair (Ty.int .i64) (Ty.int .i64))] [((2 : Nat), TSh.at (Sh.ptr (1 : Nat) (0 : Nat))), ((3 : Nat), TSh.at (Sh.ptr (3 : Nat) (0 : Nat))), ((4 : Nat), TSh.at (Sh.int .i64))]
noncomputable def Z1c : LoopDef (Tup Zz × OutD) := .plain Z9X ZfZ (Int × Int × List (Int × Int) × Int × Int × List (Int × Int) × Int) (fun k x => Zy k x.1.2.1.1 x.1.2.1.2.1 x.1.2.2.1 x.1.2.2.2.1.1 x.1.2.2.2.1.2.1 x.1.2.2.2.2.1 x.1.2.2.2.2.2.1.1 x.1.2.2.2.2.2.1.2.1 x.1.2.2.2.2.2.1.2.2.1 x.1.2.2.2.2.2.2.1.1 x.1.2.2.2.2.2.2.1.2.1 x.1.2.2.2.2.2.2.2.1 x.2.2.2.2.2.1) (fun z => (((), (z.1, z.2.1, (), ()), z.2.2.1, (z.2.2.2.1, z.2.2.2.2.1, (), ()), z.2.2.2.2.2.1, ()), ((), (), z.2.2.2.2.2.2, ()))) (fun y => (y.1.2.1.1, y.1.2.1.2.1, y.1.2.2.1, y.1.2.2.2.1.1, y.1.2.2.2.1.2.1, y.1.2.2.2.2.1, y.2.2.2.1)) (fun _ => rfl)
theorem Zg0 (k : Nat) (b1_0 : Int) (b1_1 : Int) (o2 : List (Int × Int)) (b3_0 : Int) (b3_1 : Int) (o4 : List (Int × Int)) (b5_0 : List Int) (b5_1 : Int) (b5_2 : Int) (b6_0 : Int) (b6_1 : Int) (o7 : List (Int × Int)) (v7 : Int) : Z3B k b1_0 b1_1 o2 b3_0 b3_1 o4 b5_0 b5_1 b5_2 b6_0 b6_1 o7 v7 = repl 2 (Zy k b1_0 b1_1 o2 b3_0 b3_1 o4 b5_0 b5_1 b5_2 b6_0 b6_1 o7 v7) := by
 first
 | (simp only [Z3B, Zy, Zh, Zo, Zg, Zi, Ze, Z3, if_true]; done)
 | (simp only [Z3B, Zy, Zh, Zo, Zg, Zi, Ze, Z3, if_true]; simp only [Z1E, Z1D, Z3k, Z3]; simp only [Z4r]; exact Z2g ⟨fun h => by simp only [h, and_self], fun h => by simp only [h, and_self]⟩)
noncomputable def Z1y : Nat → Int → Int → List (Int × Int) → Int → Int → List (Int × Int) → List Int → Int → Int → Int → Int → List (Int × Int) → Int → Int → List (Int × Int) → Int → Int → Option (Int × Int × List (Int × Int) × Int × Int × List (Int × Int) × List Int × Int × Int × Int × Int × List (Int × Int) × Int × Int × List (Int × Int) × Int)
 | 0, _, _, _, _, _, _, _, _, _, _, _, _, _, _, _, _, _ => none
 | k + 1, b1_0, b1_1, o2, b3_0, b3_1, o4, b5_0, b5_1, b5_2, b6_0, b6_1, o7, b8_0, b8_1, o9, v7, v9 =>
  if decide (v9 > (0 : Int)) = true then Option.bind (Z9N k (b8_0, b8_1, o9) v7) fun z11 => Z1y k b1_0 b1_1 o2 b3_0 b3_1 o4 b5_0 b5_1 b5_2 b6_0 b6_1 o7 z11.2.1 z11.2.2.1 z11.2.2.2 v7 (wrap64 (v9 - (1 : Int))) else some (b1_0, b1_1, o2, b3_0, b3_1, o4, b5_0, b5_1, b5_2, b6_0, b6_1, o7, b8_0, b8_1, o9, v7)
noncomputable def Z6C : Spec := Spec.mk [OSh.ro, OSh.box (26 : Nat) [Sh.int .i64, Sh.int .i64, Sh.sl (2 : Nat)], OSh.row true (71 : Nat) (Ty.pair (Ty.int .i64) (Ty.int .i64)), OSh.box (26 : Nat) [Sh.int .i64, Sh.int .i64, Sh.sl (4 : Nat)], OSh.row true (71 : Nat) (Ty.pair (Ty.int .i64) (Ty.int .i64)), OSh.box (58 : Nat) [Sh.snap (0 : Nat) (Ty.int .u8), Sh.int .i64, Sh.int .u64], OSh.box (26 : Nat) [Sh.int .i64, Sh.int .i64, Sh.sl (7 : Nat)], OSh.row true (71 : Nat) (Ty.pair (Ty.int .i64) (Ty.int .i64)), OSh.box (26 : Nat) [Sh.int .i64, Sh.int .i64, Sh.sl (9 : Nat)], OSh.row true (71 : Nat) (Ty.pair (Ty.int .i64) (Ty.int .i64))] [((2 : Nat), TSh.at (Sh.ptr (1 : Nat) (0 : Nat))), ((3 : Nat), TSh.at (Sh.ptr (3 : Nat) (0 : Nat))), ((5 : Nat), TSh.at (Sh.ptr (5 : Nat) (0 : Nat))), ((6 : Nat), TSh.at (Sh.ptr (6 : Nat) (0 : Nat))), ((7 : Nat), TSh.at (Sh.int .i64)), ((8 : Nat), TSh.at (Sh.ptr (8 : Nat) (0 : Nat))), ((9 : Nat), TSh.at (Sh.int .i64))]
noncomputable def Zha : Spec := Spec.mk [OSh.ro, OSh.box (26 : Nat) [Sh.int .i64, Sh.int .i64, Sh.sl (2 : Nat)], OSh.row true (71 : Nat) (Ty.pair (Ty.int .i64) (Ty.int .i64)), OSh.box (26 : Nat) [Sh.int .i64, Sh.int .i64, Sh.sl (4 : Nat)], OSh.row true (71 : Nat) (Ty.pair (Ty.int .i64) (Ty.int .i64)), OSh.box (58 : Nat) [Sh.snap (0 : Nat) (Ty.int .u8), Sh.int .i64, Sh.int .u64], OSh.box (26 : Nat) [Sh.int .i64, Sh.int .i64, Sh.sl (7 : Nat)], OSh.row true (71 : Nat) (Ty.pair (Ty.int .i64) (Ty.int .i64)), OSh.box (26 : Nat) [Sh.int .i64, Sh.int .i64, Sh.sl (9 : Nat)], OSh.row true (71 : Nat) (Ty.pair (Ty.int .i64) (Ty.int .i64))] [((2 : Nat), TSh.at (Sh.ptr (1 : Nat) (0 : Nat))), ((3 : Nat), TSh.at (Sh.ptr (3 : Nat) (0 : Nat))), ((5 : Nat), TSh.at (Sh.ptr (5 : Nat) (0 : Nat))), ((6 : Nat), TSh.at (Sh.ptr (6 : Nat) (0 : Nat))), ((7 : Nat), TSh.at (Sh.int .i64)), ((8 : Nat), TSh.at (Sh.ptr (8 : Nat) (0 : Nat)))]
noncomputable def Z1p : LoopDef (Tup Zz × OutD) := .plain Z6C Zha (Int × Int × List (Int × Int) × Int × Int × List (Int × Int) × List Int × Int × Int × Int × Int × List (Int × Int) × Int × Int × List (Int × Int) × Int) (fun k x => Z1y k x.1.2.1.1 x.1.2.1.2.1 x.1.2.2.1 x.1.2.2.2.1.1 x.1.2.2.2.1.2.1 x.1.2.2.2.2.1 x.1.2.2.2.2.2.1.1 x.1.2.2.2.2.2.1.2.1 x.1.2.2.2.2.2.1.2.2.1 x.1.2.2.2.2.2.2.1.1 x.1.2.2.2.2.2.2.1.2.1 x.1.2.2.2.2.2.2.2.1 x.1.2.2.2.2.2.2.2.2.1.1 x.1.2.2.2.2.2.2.2.2.1.2.1 x.1.2.2.2.2.2.2.2.2.2.1 x.2.2.2.2.2.1 x.2.2.2.2.2.2.2.1) (fun z => (((), (z.1, z.2.1, (), ()), z.2.2.1, (z.2.2.2.1, z.2.2.2.2.1, (), ()), z.2.2.2.2.2.1, (z.2.2.2.2.2.2.1, z.2.2.2.2.2.2.2.1, z.2.2.2.2.2.2.2.2.1, ()), (z.2.2.2.2.2.2.2.2.2.1, z.2.2.2.2.2.2.2.2.2.2.1, (), ()), z.2.2.2.2.2.2.2.2.2.2.2.1, (z.2.2.2.2.2.2.2.2.2.2.2.2.1, z.2.2.2.2.2.2.2.2.2.2.2.2.2.1, (), ()), z.2.2.2.2.2.2.2.2.2.2.2.2.2.2.1, ()), ((), (), (), (), z.2.2.2.2.2.2.2.2.2.2.2.2.2.2.2, (), ()))) (fun y => (y.1.2.1.1, y.1.2.1.2.1, y.1.2.2.1, y.1.2.2.2.1.1, y.1.2.2.2.1.2.1, y.1.2.2.2.2.1, y.1.2.2.2.2.2.1.1, y.1.2.2.2.2.2.1.2.1, y.1.2.2.2.2.2.1.2.2.1, y.1.2.2.2.2.2.2.1.1, y.1.2.2.2.2.2.2.1.2.1, y.1.2.2.2.2.2.2.2.1, y.1.2.2.2.2.2.2.2.2.1.1, y.1.2.2.2.2.2.2.2.2.1.2.1, y.1.2.2.2.2.2.2.2.2.2.1, y.2.2.2.2.2.1)) (fun _ => rfl)
noncomputable def Z1b : Nat → Int → Int → List (Int × Int) → Int → Int → List (Int × Int) → List Int → Int → Int → Int → Int → List (Int × Int) → Int → Int → List (Int × Int) → Int → Option (Int × Int × List (Int × Int) × Int × Int × List (Int × Int) × Int × Int × List (Int × Int) × Int × Int × List (Int × Int) × Int) := fun k b1_0 b1_1 o2 b3_0 b3_1 o4 b5_0 b5_1 b5_2 b6_0 b6_1 o7 b8_0 b8_1 o9 v7 =>
    Option.bind (Z0 k (b5_0, b5_1, b5_2) (↑(List.length o9) : Int)) fun z14 => Option.bind (ZL k (b5_0, Prod.fst z14.2, Prod.snd z14.2)) fun z15 => if (0 : Int) ≤ Prod.fst z14 then if Prod.fst z14 < (↑(List.length o9) : Int) then some (b1_0, b1_1, o2, b3_0, b3_1, o4, b6_0, b6_1, o7, b8_0, b8_1, List.set o9 (Int.toNat z14.1) (Prod.fst z15.1, Prod.snd z15.1), v7) else none else none
noncomputable def Z3f : Nat → Int → Int → List (Int × Int) → Int → Int → List (Int × Int) → List Int → Int → Int → Int → Int → List (Int × Int) → Int → Int → List (Int × Int) → Int → Option (List (Int × Int × List (Int × Int) × Int × Int × List (Int × Int) × Int × Int × List (Int × Int) × Int × Int × List (Int × Int) × Int)) := fun k b1_0 b1_1 o2 b3_0 b3_1 o4 b5_0 b5_1 b5_2 b6_0 b6_1 o7 b8_0 b8_1 o9 v7 =>
    joinL (Option.bind (Z0 k (b5_0, b5_1, b5_2) (↑(List.length o9) : Int)) fun z16 => Option.bind (ZL k (b5_0, Prod.fst z16.2, Prod.snd z16.2)) fun z17 => if (0 : Int) ≤ Prod.fst z16 then if Prod.fst z16 < (↑(List.length o9) : Int) then some [(b1_0, b1_1, o2, b3_0, b3_1, o4, b6_0, b6_1, o7, b8_0, b8_1, List.set o9 (Int.toNat z16.1) (Prod.fst z17.1, Prod.snd z17.1), v7)] else none else none) (Option.bind (Z0 k (b5_0, b5_1, b5_2) (↑(List.length o9) : Int)) fun z18 => joinL (Option.bind (ZL k (b5_0, Prod.fst z18.2, Prod.snd z18.2)) fun z19 => if (0 : Int) ≤ Prod.fst z18 then if Prod.fst z18 < (↑(List.length o9) : Int) then some [(b1_0, b1_1, o2, b3_0, b3_1, o4, b6_0, b6_1, o7, b8_0, b8_1, List.set o9 (Int.toNat z18.1) (Prod.fst z19.1, Prod.snd z19.1), v7)] else none else none) (Option.bind (ZL k (b5_0, Prod.fst z18.2, Prod.snd z18.2)) fun z20 => if (0 : Int) ≤ Prod.fst z18 then if Prod.fst z18 < (↑(List.length o9) : Int) then some [(b1_0, b1_1, o2, b3_0, b3_1, o4, b6_0, b6_1, o7, b8_0, b8_1, List.set o9 (Int.toNat z18.1) (Prod.fst z20.1, Prod.snd z20.1), v7)] else none else none))
noncomputable def Z9p : Spec := Spec.mk [OSh.ro, OSh.box (26 : Nat) [Sh.int .i64, Sh.int .i64, Sh.sl (2 : Nat)], OSh.row true (71 : Nat) (Ty.pair (Ty.int .i64) (Ty.int .i64)), OSh.box (26 : Nat) [Sh.int .i64, Sh.int .i64, Sh.sl (4 : Nat)], OSh.row true (71 : Nat) (Ty.pair (Ty.int .i64) (Ty.int .i64)), OSh.box (58 : Nat) [Sh.snap (0 : Nat) (Ty.int .u8), Sh.int .i64, Sh.int .u64], OSh.box (26 : Nat) [Sh.int .i64, Sh.int .i64, Sh.sl (7 : Nat)], OSh.row true (71 : Nat) (Ty.pair (Ty.int .i64) (Ty.int .i64)), OSh.box (26 : Nat) [Sh.int .i64, Sh.int .i64, Sh.sl (9 : Nat)], OSh.row true (71 : Nat) (Ty.pair (Ty.int .i64) (Ty.int .i64))] [((2 : Nat), TSh.at (Sh.ptr (1 : Nat) (0 : Nat))), ((3 : Nat), TSh.at (Sh.ptr (3 : Nat) (0 : Nat))), ((5 : Nat), TSh.at (Sh.ptr (5 : Nat) (0 : Nat))), ((6 : Nat), TSh.at (Sh.ptr (6 : Nat) (0 : Nat))), ((7 : Nat), TSh.at (Sh.int .i64)), ((8 : Nat), TSh.at (Sh.ptr (8 : Nat) (0 : Nat)))]
noncomputable def ZfC : Spec := Spec.mk [OSh.ro, OSh.box (26 : Nat) [Sh.int .i64, Sh.int .i64, Sh.sl (2 : Nat)], OSh.row true (71 : Nat) (Ty.pair (Ty.int .i64) (Ty.int .i64)), OSh.box (26 : Nat) [Sh.int .i64, Sh.int .i64, Sh.sl (4 : Nat)], OSh.row true (71 : Nat) (Ty.pair (Ty.int .i64) (Ty.int .i64)), OSh.box (26 : Nat) [Sh.int .i64, Sh.int .i64, Sh.sl (6 : Nat)], OSh.row true (71 : Nat) (Ty.pair (Ty.int .i64) (Ty.int .i64)), OSh.box (26 : Nat) [Sh.int .i64, Sh.int .i64, Sh.sl (8 : Nat)], OSh.row true (71 : Nat) (Ty.pair (Ty.int .i64) (Ty.int .i64))] [((2 : Nat), TSh.at (Sh.ptr (1 : Nat) (0 : Nat))), ((3 : Nat), TSh.at (Sh.ptr (3 : Nat) (0 : Nat))), ((6 : Nat), TSh.at (Sh.ptr (5 : Nat) (0 : Nat))), ((7 : Nat), TSh.at (Sh.int .i64)), ((8 : Nat), TSh.at (Sh.ptr (7 : Nat) (0 : Nat)))]
noncomputable def Z14 : LoopDef (Tup Zz × OutD) := .plain Z9p ZfC (Int × Int × List (Int × Int) × Int × Int × List (Int × Int) × Int × Int × List (Int × Int) × Int × Int × List (Int × Int) × Int) (fun k x => Z1b k x.1.2.1.1 x.1.2.1.2.1 x.1.2.2.1 x.1.2.2.2.1.1 x.1.2.2.2.1.2.1 x.1.2.2.2.2.1 x.1.2.2.2.2.2.1.1 x.1.2.2.2.2.2.1.2.1 x.1.2.2.2.2.2.1.2.2.1 x.1.2.2.2.2.2.2.1.1 x.1.2.2.2.2.2.2.1.2.1 x.1.2.2.2.2.2.2.2.1 x.1.2.2.2.2.2.2.2.2.1.1 x.1.2.2.2.2.2.2.2.2.1.2.1 x.1.2.2.2.2.2.2.2.2.2.1 x.2.2.2.2.2.1) (fun z => (((), (z.1, z.2.1, (), ()), z.2.2.1, (z.2.2.2.1, z.2.2.2.2.1, (), ()), z.2.2.2.2.2.1, (z.2.2.2.2.2.2.1, z.2.2.2.2.2.2.2.1, (), ()), z.2.2.2.2.2.2.2.2.1, (z.2.2.2.2.2.2.2.2.2.1, z.2.2.2.2.2.2.2.2.2.2.1, (), ()), z.2.2.2.2.2.2.2.2.2.2.2.1, ()), ((), (), (), z.2.2.2.2.2.2.2.2.2.2.2.2, (), ()))) (fun y => (y.1.2.1.1, y.1.2.1.2.1, y.1.2.2.1, y.1.2.2.2.1.1, y.1.2.2.2.1.2.1, y.1.2.2.2.2.1, y.1.2.2.2.2.2.1.1, y.1.2.2.2.2.2.1.2.1, y.1.2.2.2.2.2.2.1, y.1.2.2.2.2.2.2.2.1.1, y.1.2.2.2.2.2.2.2.1.2.1, y.1.2.2.2.2.2.2.2.2.1, y.2.2.2.2.1)) (fun _ => rfl)
theorem ZfB (k : Nat) (b1_0 : Int) (b1_1 : Int) (o2 : List (Int × Int)) (b3_0 : Int) (b3_1 : Int) (o4 : List (Int × Int)) (b5_0 : List Int) (b5_1 : Int) (b5_2 : Int) (b6_0 : Int) (b6_1 : Int) (o7 : List (Int × Int)) (b8_0 : Int) (b8_1 : Int) (o9 : List (Int × Int)) (v7 : Int) : Z3f k b1_0 b1_1 o2 b3_0 b3_1 o4 b5_0 b5_1 b5_2 b6_0 b6_1 o7 b8_0 b8_1 o9 v7 = repl 3 (Z1b k b1_0 b1_1 o2 b3_0 b3_1 o4 b5_0 b5_1 b5_2 b6_0 b6_1 o7 b8_0 b8_1 o9 v7) := by
 first
 | (simp only [Z3f, Z1b, Zh, Zo, Zg, Zi, Ze, Z3, if_true]; done)
 | (simp only [Z3f, Z1b, Zh, Zo, Zg, Zi, Ze, Z3, if_true]; simp only [Z1E, Z1D, Z3k, Z3]; simp only [Z4r]; exact Z2g ⟨fun h => by simp only [h, and_self], fun h => by simp only [h, and_self]⟩)
noncomputable def Zu : Nat → Int → Int → List (Int × Int) → Int → Int → List (Int × Int) → Int → Int → List (Int × Int) → Int → Int → List (Int × Int) → Int → Option (Int × Int × List (Int × Int) × Int × Int × List (Int × Int) × Int) := fun k b1_0 b1_1 o2 b3_0 b3_1 o4 b5_0 b5_1 o6 b7_0 b7_1 o8 v7 =>
    some (b5_0, b5_1, o6, b7_0, b7_1, o8, v7)
noncomputable def Z3e : Nat → Int → Int → List (Int × Int) → Int → Int → List (Int × Int) → Int → Int → List (Int × Int) → Int → Int → List (Int × Int) → Int → Option (List (Int × Int × List (Int × Int) × Int × Int × List (Int × Int) × Int)) := fun k b1_0 b1_1 o2 b3_0 b3_1 o4 b5_0 b5_1 o6 b7_0 b7_1 o8 v7 =>
    joinL (some [(b5_0, b5_1, o6, b7_0, b7_1, o8, v7)]) (some [(b5_0, b5_1, o6, b7_0, b7_1, o8, v7)])
noncomputable def Z9q : Spec := Spec.mk [OSh.ro, OSh.box (26 : Nat) [Sh.int .i64, Sh.int .i64, Sh.sl (2 : Nat)], OSh.row true (71 : Nat) (Ty.pair (Ty.int .i64) (Ty.int .i64)), OSh.box (26 : Nat) [Sh.int .i64, Sh.int .i64, Sh.sl (4 : Nat)], OSh.row true (71 : Nat) (Ty.pair (Ty.int .i64) (Ty.int .i64)), OSh.box (26 : Nat) [Sh.int .i64, Sh.int .i64, Sh.sl (6 : Nat)], OSh.row true (71 : Nat) (Ty.pair (Ty.int .i64) (Ty.int .i64)), OSh.box (26 : Nat) [Sh.int .i64, Sh.int .i64, Sh.sl (8 : Nat)], OSh.row true (71 : Nat) (Ty.pair (Ty.int .i64) (Ty.int .i64))] [((2 : Nat), TSh.at (Sh.ptr (1 : Nat) (0 : Nat))), ((3 : Nat), TSh.at (Sh.ptr (3 : Nat) (0 : Nat))), ((6 : Nat), TSh.at (Sh.ptr (5 : Nat) (0 : Nat))), ((7 : Nat), TSh.at (Sh.int .i64)), ((8 : Nat), TSh.at (Sh.ptr (7 : Nat) (0 : Nat)))]
noncomputable def Zfy : Spec := Spec.mk [OSh.ro, OSh.box (26 : Nat) [Sh.int .i64, Sh.int .i64, Sh.sl (2 : Nat)], OSh.row true (71 : Nat) (Ty.pair (Ty.int .i64) (Ty.int .i64)), OSh.box (26 : Nat) [Sh.int .i64, Sh.int .i64, Sh.sl (4 : Nat)], OSh.row true (71 : Nat) (Ty.pair (Ty.int .i64) (Ty.int .i64))] [((2 : Nat), TSh.at (Sh.ptr (1 : Nat) (0 : Nat))), ((3 : Nat), TSh.at (Sh.ptr (3 : Nat) (0 : Nat))), ((4 : Nat), TSh.at (Sh.int .i64))]
noncomputable def Z13 : LoopDef (Tup Zz × OutD) := .plain Z9q Zfy (Int × Int × List (Int × Int) × Int × Int × List (Int × Int) × Int) (fun k x => Zu k x.1.2.1.1 x.1.2.1.2.1 x.1.2.2.1 x.1.2.2.2.1.1 x.1.2.2.2.1.2.1 x.1.2.2.2.2.1 x.1.2.2.2.2.2.1.1 x.1.2.2.2.2.2.1.2.1 x.1.2.2.2.2.2.2.1 x.1.2.2.2.2.2.2.2.1.1 x.1.2.2.2.2.2.2.2.1.2.1 x.1.2.2.2.2.2.2.2.2.1 x.2.2.2.2.1) (fun z => (((), (z.1, z.2.1, (), ()), z.2.2.1, (z.2.2.2.1, z.2.2.2.2.1, (), ()), z.2.2.2.2.2.1, ()), ((), (), z.2.2.2.2.2.2, ()))) (fun y => (y.1.2.1.1, y.1.2.1.2.1, y.1.2.2.1, y.1.2.2.2.1.1, y.1.2.2.2.1.2.1, y.1.2.2.2.2.1, y.2.2.2.1)) (fun _ => rfl)
theorem ZfE (k : Nat) (b1_0 : Int) (b1_1 : Int) (o2 : List (Int × Int)) (b3_0 : Int) (b3_1 : Int) (o4 : List (Int × Int)) (b5_0 : Int) (b5_1 : Int) (o6 : List (Int × Int)) (b7_0 : Int) (b7_1 : Int) (o8 : List (Int × Int)) (v7 : Int) : Z3e k b1_0 b1_1 o2 b3_0 b3_1 o4 b5_0 b5_1 o6 b7_0 b7_1 o8 v7 = repl 2 (Zu k b1_0 b1_1 o2 b3_0 b3_1 o4 b5_0 b5_1 o6 b7_0 b7_1 o8 v7) := by
 first
 | (simp only [Z3e, Zu, Zh, Zo, Zg, Zi, Ze, Z3, if_true]; done)
 | (simp only [Z3e, Zu, Zh, Zo, Zg, Zi, Ze, Z3, if_true]; simp only [Z1E, Z1D, Z3k, Z3]; simp only [Z4r]; exact Z2g ⟨fun h => by simp only [h, and_self], fun h => by simp only [h, and_self]⟩)
noncomputable def Z53 : Nat → List Int → Option ((Int × Int × List (Int × Int)) × (Int × Int × List (Int × Int)) × Int)
 | 0, _ => none
 | k + 1, p0 =>
  Option.bind (Z45 k (p0, (0 : Int), (0 : Int))) fun z0 => Option.bind (Z1o k (p0, Prod.fst z0.2, Prod.snd z0.2) (Prod.fst z0.1, Prod.fst z0.1.2, Prod.snd z0.1.2)) fun z1 => Option.bind (Z9P k (Prod.fst z0.1, Prod.fst z0.1.2, Prod.snd z0.1.2) z1.1) fun z2 => if (!z2) = true then Option.bind (Zy k (0 : Int) (0 : Int) [] (0 : Int) (0 : Int) [] p0 z1.2.1 z1.2.2 z0.1.1 z0.1.2.1 z0.1.2.2 z1.1) fun z6 => some ((Prod.fst z6, Prod.fst z6.2, Prod.fst z6.2.2), (Prod.fst z6.2.2.2, Prod.fst z6.2.2.2.2, Prod.fst z6.2.2.2.2.2), Prod.snd z6.2.2.2.2.2) else Option.bind (Zm k (p0, Prod.fst z1.2, Prod.snd z1.2) (8 : Int)) fun z7 => if Prod.fst z7 = true then Option.bind (Zy k (0 : Int) (0 : Int) [] (0 : Int) (0 : Int) [] p0 z7.2.1 z7.2.2 z0.1.1 z0.1.2.1 z0.1.2.2 z1.1) fun z8 => some ((Prod.fst z8, Prod.fst z8.2, Prod.fst z8.2.2), (Prod.fst z8.2.2.2, Prod.fst z8.2.2.2.2, Prod.fst z8.2.2.2.2.2), Prod.snd z8.2.2.2.2.2) else Option.bind (Z84 k (Prod.fst z0.1, Prod.fst z0.1.2, Prod.snd z0.1.2)) fun z9 => Option.bind (Z0 k (p0, Prod.fst z7.2, Prod.snd z7.2) (9 : Int)) fun z10 => Option.bind (Z1y k (0 : Int) (0 : Int) [] (0 : Int) (0 : Int) [] p0 z10.2.1 z10.2.2 z0.1.1 z0.1.2.1 z0.1.2.2 z9.1 z9.2.1 z9.2.2 z1.1 z10.1) fun z12 => Option.bind (Zm k (Prod.fst z12.2.2.2.2.2.2, Prod.fst z12.2.2.2.2.2.2.2, Prod.fst z12.2.2.2.2.2.2.2.2) (6 : Int)) fun z13 => if Prod.fst z13 = true then Option.bind (Z1b k z12.1 z12.2.1 z12.2.2.1 z12.2.2.2.1 z12.2.2.2.2.1 z12.2.2.2.2.2.1 z12.2.2.2.2.2.2.1 z13.2.1 z13.2.2 z12.2.2.2.2.2.2.2.2.2.1 z12.2.2.2.2.2.2.2.2.2.2.1 z12.2.2.2.2.2.2.2.2.2.2.2.1 z12.2.2.2.2.2.2.2.2.2.2.2.2.1 z12.2.2.2.2.2.2.2.2.2.2.2.2.2.1 z12.2.2.2.2.2.2.2.2.2.2.2.2.2.2.1 z12.2.2.2.2.2.2.2.2.2.2.2.2.2.2.2) fun z21 => Option.bind (Zu k z21.1 z21.2.1 z21.2.2.1 z21.2.2.2.1 z21.2.2.2.2.1 z21.2.2.2.2.2.1 z21.2.2.2.2.2.2.1 z21.2.2.2.2.2.2.2.1 z21.2.2.2.2.2.2.2.2.1 z21.2.2.2.2.2.2.2.2.2.1 z21.2.2.2.2.2.2.2.2.2.2.1 z21.2.2.2.2.2.2.2.2.2.2.2.1 z21.2.2.2.2.2.2.2.2.2.2.2.2) fun z22 => some ((Prod.fst z22, Prod.fst z22.2, Prod.fst z22.2.2), (Prod.fst z22.2.2.2, Prod.fst z22.2.2.2.2, Prod.fst z22.2.2.2.2.2), Prod.snd z22.2.2.2.2.2) else Option.bind (Zu k z12.1 z12.2.1 z12.2.2.1 z12.2.2.2.1 z12.2.2.2.2.1 z12.2.2.2.2.2.1 z12.2.2.2.2.2.2.2.2.2.1 z12.2.2.2.2.2.2.2.2.2.2.1 z12.2.2.2.2.2.2.2.2.2.2.2.1 z12.2.2.2.2.2.2.2.2.2.2.2.2.1 z12.2.2.2.2.2.2.2.2.2.2.2.2.2.1 z12.2.2.2.2.2.2.2.2.2.2.2.2.2.2.1 z12.2.2.2.2.2.2.2.2.2.2.2.2.2.2.2) fun z23 => some ((Prod.fst z23, Prod.fst z23.2, Prod.fst z23.2.2), (Prod.fst z23.2.2.2, Prod.fst z23.2.2.2.2, Prod.fst z23.2.2.2.2.2), Prod.snd z23.2.2.2.2.2)
noncomputable def ZR : FnDef := .of ZbR Zz ((Int × Int × List (Int × Int)) × (Int × Int × List (Int × Int)) × Int) (fun k x => Z53 k x.1) ZbF ZbC Zg4
noncomputable def Z1e : Code := Try.f34.body.getD .skip
noncomputable def Z1 : Ctx (Tup Zz × OutD) := { T := T, G := [(37, ZM.E), (38, ZW.E), (70, Z44.E), (58, ZJ.E), (72, ZT.E), (65, Z3l.E), (57, Zc.E), (71, Z43.E), (73, Z1q.E)], mvs := [], no := 0, n := 62, res := resOf T ZbR Zz Try.f34.results.toList, loops := [(0, Z1p.E)], regs := [(5, Z1c.E), (13, Z14.E), (14, Z13.E)], conds := [], cuts := [] }
theorem Z3r (k : Nat) : EnvOK Try.prog k Z1.G := (EnvOK.cons (Zdl k) (EnvOK.cons (ZeC k) (EnvOK.cons (Zkg k) (EnvOK.cons (Z5I k) (EnvOK.cons (ZeB k) (EnvOK.cons (Zfh k) (EnvOK.cons (ZK k) (EnvOK.cons (Zje k) (EnvOK.cons (ZcI k) (EnvOK.nil mixed))))))))))
noncomputable def Z67 : Array Oper := (findReg 5 Z1e).getD #[]
theorem Zgd (k : Nat) (x : Z9X.D) : execD Z1.T Z1.G Z1.mvs k Z67 (Z1c.inp.st Z1.n x) (outK Z1 Z1c) = Z3B k x.1.2.1.1 x.1.2.1.2.1 x.1.2.2.1 x.1.2.2.2.1.1 x.1.2.2.2.1.2.1 x.1.2.2.2.2.1 x.1.2.2.2.2.2.1.1 x.1.2.2.2.2.2.1.2.1 x.1.2.2.2.2.2.1.2.2.1 x.1.2.2.2.2.2.2.1.1 x.1.2.2.2.2.2.2.1.2.1 x.1.2.2.2.2.2.2.2.1 x.2.2.2.2.2.1 := by kernel_rfl
theorem ZfD (k : Nat) : EOK Try.prog Z1 k Z1c.E (.region 5 Z67 true) := Z6K (D := Z1c) (m := 2) T_ok (Z3r k) (fun x => (Zgd k x).trans (Zg0 k x.1.2.1.1 x.1.2.1.2.1 x.1.2.2.1 x.1.2.2.2.1.1 x.1.2.2.2.1.2.1 x.1.2.2.2.2.1 x.1.2.2.2.2.2.1.1 x.1.2.2.2.2.2.1.2.1 x.1.2.2.2.2.2.1.2.2.1 x.1.2.2.2.2.2.2.1.1 x.1.2.2.2.2.2.2.1.2.1 x.1.2.2.2.2.2.2.2.1 x.2.2.2.2.2.1))
noncomputable def Z5x : Array Oper := (findReg 13 Z1e).getD #[]
theorem Zfz (k : Nat) (x : Z9p.D) : execD Z1.T Z1.G Z1.mvs k Z5x (Z14.inp.st Z1.n x) (outK Z1 Z14) = Z3f k x.1.2.1.1 x.1.2.1.2.1 x.1.2.2.1 x.1.2.2.2.1.1 x.1.2.2.2.1.2.1 x.1.2.2.2.2.1 x.1.2.2.2.2.2.1.1 x.1.2.2.2.2.2.1.2.1 x.1.2.2.2.2.2.1.2.2.1 x.1.2.2.2.2.2.2.1.1 x.1.2.2.2.2.2.2.1.2.1 x.1.2.2.2.2.2.2.2.1 x.1.2.2.2.2.2.2.2.2.1.1 x.1.2.2.2.2.2.2.2.2.1.2.1 x.1.2.2.2.2.2.2.2.2.2.1 x.2.2.2.2.2.1 := by kernel_rfl
theorem Zfg (k : Nat) : EOK Try.prog Z1 k Z14.E (.region 13 Z5x true) := Z6K (D := Z14) (m := 3) T_ok (Z3r k) (fun x => (Zfz k x).trans (ZfB k x.1.2.1.1 x.1.2.1.2.1 x.1.2.2.1 x.1.2.2.2.1.1 x.1.2.2.2.1.2.1 x.1.2.2.2.2.1 x.1.2.2.2.2.2.1.1 x.1.2.2.2.2.2.1.2.1 x.1.2.2.2.2.2.1.2.2.1 x.1.2.2.2.2.2.2.1.1 x.1.2.2.2.2.2.2.1.2.1 x.1.2.2.2.2.2.2.2.1 x.1.2.2.2.2.2.2.2.2.1.1 x.1.2.2.2.2.2.2.2.2.1.2.1 x.1.2.2.2.2.2.2.2.2.2.1 x.2.2.2.2.2.1))
noncomputable def Z5y : Array Oper := (findReg 14 Z1e).getD #[]
theorem ZfA (k : Nat) (x : Z9q.D) : execD Z1.T Z1.G Z1.mvs k Z5y (Z13.inp.st Z1.n x) (outK Z1 Z13) = Z3e k x.1.2.1.1 x.1.2.1.2.1 x.1.2.2.1 x.1.2.2.2.1.1 x.1.2.2.2.1.2.1 x.1.2.2.2.2.1 x.1.2.2.2.2.2.1.1 x.1.2.2.2.2.2.1.2.1 x.1.2.2.2.2.2.2.1 x.1.2.2.2.2.2.2.2.1.1 x.1.2.2.2.2.2.2.2.1.2.1 x.1.2.2.2.2.2.2.2.2.1 x.2.2.2.2.1 := by kernel_rfl
theorem ZeM (k : Nat) : EOK Try.prog Z1 k Z13.E (.region 14 Z5y true) := Z6K (D := Z13) (m := 2) T_ok (Z3r k) (fun x => (ZfA k x).trans (ZfE k x.1.2.1.1 x.1.2.1.2.1 x.1.2.2.1 x.1.2.2.2.1.1 x.1.2.2.2.1.2.1 x.1.2.2.2.2.1 x.1.2.2.2.2.2.1.1 x.1.2.2.2.2.2.1.2.1 x.1.2.2.2.2.2.2.1 x.1.2.2.2.2.2.2.2.1.1 x.1.2.2.2.2.2.2.2.1.2.1 x.1.2.2.2.2.2.2.2.2.1 x.2.2.2.2.1))
noncomputable def Z3N : Code := (findLoop 0 Z1e).getD .skip
theorem Zh8 (k : Nat) (x : Z6C.D) : Z1p.lp (k + 1) x = loopK Z1 Z1p 0 Z3N k x := by kernel_rfl
theorem Zh3 (k : Nat) : LOK Try.prog Z1 k Z3N := LOK.by [] (by kernel_rfl) AllOK.nil
theorem Zh4 (x : Z6C.D) : Z1p.lp 0 x = none := by kernel_rfl
theorem Zgg (k : Nat) : EOK Try.prog Z1 k Z1p.E (.block 0 (.loop Z3N)) := Z8 T_ok Z3r Zh4 Zh8 Zh3 k
theorem Zj7 (k : Nat) (x : Tup ZR.ps) : ZR.f (k + 1) x = fnK ZR Z1 Z1e k x := by kernel_rfl
theorem Zkh (x : Tup ZR.ps) : ZR.f 0 x = none := by kernel_rfl
theorem ZjL (k : Nat) : LOK Try.prog Z1 k Z1e := LOK.by [(Z1c.E, .region 5 Z67 true), (Z1p.E, .block 0 (.loop Z3N)), (Z14.E, .region 13 Z5x true), (Z13.E, .region 14 Z5y true)] (by kernel_rfl) (AllOK.cons (ZfD k) (AllOK.cons (Zgg k) (AllOK.cons (Zfg k) (AllOK.cons (ZeM k) AllOK.nil))))
theorem Zk2 (k : Nat) : SoundAt Try.prog k 34 ZR.E := @Z4 Try.prog ZR Z1 34 Try.f34 Z1e (by kernel_rfl) (by kernel_rfl) (by kernel_rfl) Try.func34 (by kernel_rfl) (by kernel_rfl) (by kernel_rfl) T_ok Z3r ZjL Zkh Zj7 k
end
end Go.Proofs.Ytglkedenkcpcbaa.Vs

set_option maxRecDepth 100000
set_option maxHeartbeats 2000000
set_option linter.unusedVariables false
set_option linter.unusedSimpArgs false
namespace Go.Proofs.Ytglkedenkcpcbaa.Vs
open Go.RowKit
noncomputable section
noncomputable def Z4l : List PK := [PK.mk (Ty.pair (Ty.int .i64) (Ty.pair (Ty.int .i64) (Ty.slice (71 : Nat) (Ty.pair (Ty.int .i64) (Ty.int .i64))))) true none false none, PK.mk (Ty.int .i64) false none false none]
noncomputable def ZeE : List PK := [PK.mk (Ty.slice (5 : Nat) (Ty.int .u8)) false none false none]
noncomputable def Zd7 (r : (Int × Int × List (Int × Int)) × Int) : Tup Z4l × OutD := ((r.1, r.2, ()), none)
noncomputable def Zdn : Tup Z4l × OutD → Option ((Int × Int × List (Int × Int)) × Int)
 | (a, none) => some (a.1, a.2.1)
 | _ => none
theorem ZiA : ∀ b r, Zdn b = some r → Zd7 r = b := by
 rintro ⟨a, o⟩ r h
 cases o with
 | none => injection h with h; subst h; rfl
 | some _ => cases h
noncomputable def Z6N : Nat → List Int → Option ((Int × Int × List (Int × Int)) × Int)
 | 0, _ => none
 | k + 1, p0 =>
  Option.bind (Z5C k p0) fun z0 => some ((Prod.fst z0.1, Prod.fst z0.1.2, Prod.snd z0.1.2), Prod.snd z0)
noncomputable def Z1l : FnDef := .of ZeE Z4l ((Int × Int × List (Int × Int)) × Int) (fun k x => Z6N k x.1) Zd7 Zdn ZiA
noncomputable def Za2 : Code := Try.f26.body.getD .skip
noncomputable def Z75 : Ctx (Tup Z4l × OutD) := { T := T, G := [(6, ZZ.E)], mvs := [], no := 0, n := 8, res := resOf T ZeE Z4l Try.f26.results.toList, loops := [], regs := [], conds := [], cuts := [] }
theorem Znx (k : Nat) : EnvOK Try.prog k Z75.G := (EnvOK.cons (Zko k) (EnvOK.nil mixed))
theorem ZmH (k : Nat) (x : Tup Z1l.ps) : Z1l.f (k + 1) x = fnK Z1l Z75 Za2 k x := by kernel_rfl
theorem ZnU (x : Tup Z1l.ps) : Z1l.f 0 x = none := by kernel_rfl
theorem ZnT (k : Nat) : LOK Try.prog Z75 k Za2 := LOK.by [] (by kernel_rfl) AllOK.nil
theorem ZmG (k : Nat) : SoundAt Try.prog k 26 Z1l.E := @Z4 Try.prog Z1l Z75 26 Try.f26 Za2 (by kernel_rfl) (by kernel_rfl) (by kernel_rfl) Try.func26 (by kernel_rfl) (by kernel_rfl) (by kernel_rfl) T_ok Znx ZnT ZnU ZmH k
end
end Go.Proofs.Ytglkedenkcpcbaa.Vs

set_option maxRecDepth 100000
set_option maxHeartbeats 2000000
set_option linter.unusedVariables false
set_option linter.unusedSimpArgs false
namespace Go.Proofs.Ytglkedenkcpcbaa.Vs
open Go.RowKit
noncomputable section
noncomputable def Z7u : List PK := [PK.mk (Ty.slice (3 : Nat) (Ty.int .i64)) false none false none, PK.mk Ty.bool false none false none]
noncomputable def ZhI : List PK := [PK.mk (Ty.pair (Ty.int .i64) (Ty.pair (Ty.int .i64) (Ty.slice (71 : Nat) (Ty.pair (Ty.int .i64) (Ty.int .i64))))) true none false none, PK.mk (Ty.int .i64) false none false none]
noncomputable def ZgT (r : List Int × Bool) : Tup Z7u × OutD := ((r.1, r.2, ()), none)
noncomputable def ZgE : Tup Z7u × OutD → Option (List Int × Bool)
 | (a, none) => some (a.1, a.2.1)
 | _ => none
theorem Znq : ∀ b r, ZgE b = some r → ZgT r = b := by
 rintro ⟨a, o⟩ r h
 cases o with
 | none => injection h with h; subst h; rfl
 | some _ => cases h
noncomputable def Z9s : Nat → Int × Int × List (Int × Int) → Int → Option (List Int × Bool)
 | 0, _, _ => none
 | k + 1, p0, p1 =>
  Option.bind (Z4S k (Prod.fst p0, Prod.fst p0.2, Prod.snd p0.2) p1) fun z0 => if (!z0) = true then some ([], false) else Option.bind (Z2Z k (Prod.fst p0, Prod.fst p0.2, Prod.snd p0.2) [p1]) fun z1 => if (0 : Int) < (↑(List.length z1) : Int) then some (List.getD z1 (Int.toNat (0 : Int)) [], true) else none
noncomputable def Z2U : FnDef := .of ZhI Z7u (List Int × Bool) (fun k x => Z9s k x.1 x.2.1) ZgT ZgE Znq
noncomputable def ZcZ : Code := Try.f27.body.getD .skip
noncomputable def Z9x : Ctx (Tup Z7u × OutD) := { T := T, G := [(39, Z1C.E), (42, ZH.E)], mvs := [15, 100015], no := 0, n := 16, res := resOf T ZhI Z7u Try.f27.results.toList, loops := [], regs := [], conds := [], cuts := [] }
theorem Zt8 (k : Nat) : EnvOK Try.prog k Z9x.G := (EnvOK.cons (Zbw k) (EnvOK.cons (Z8k k) (EnvOK.nil mixed)))
theorem ZtR (k : Nat) (x : Tup Z2U.ps) : Z2U.f (k + 1) x = fnK Z2U Z9x ZcZ k x := by kernel_rfl
theorem Zu4 (x : Tup Z2U.ps) : Z2U.f 0 x = none := by kernel_rfl
theorem ZsY (k : Nat) : LOK Try.prog Z9x k ZcZ := LOK.by [] (by kernel_rfl) AllOK.nil
theorem ZsJ (k : Nat) : SoundAt Try.prog k 27 Z2U.E := @Z4 Try.prog Z2U Z9x 27 Try.f27 ZcZ (by kernel_rfl) (by kernel_rfl) (by kernel_rfl) Try.func27 (by kernel_rfl) (by kernel_rfl) (by kernel_rfl) T_ok Zt8 ZsY Zu4 ZtR k
end
end Go.Proofs.Ytglkedenkcpcbaa.Vs

set_option maxRecDepth 100000
set_option maxHeartbeats 2000000
set_option linter.unusedVariables false
set_option linter.unusedSimpArgs false
namespace Go.Proofs.Ytglkedenkcpcbaa.Vs
open Go.RowKit
noncomputable section
noncomputable def Zw : List PK := [PK.mk Ty.bool false none false none]
noncomputable def Z5G : List PK := [PK.mk (Ty.slice (5 : Nat) (Ty.int .u8)) false none false none, PK.mk (Ty.slice (5 : Nat) (Ty.int .u8)) false none false none]
noncomputable def Z18 (r : Bool) : Tup Zw × OutD := ((r, ()), none)
noncomputable def Z17 : Tup Zw × OutD → Option (Bool)
 | (a, none) => some (a.1)
 | _ => none
theorem Z11 : ∀ b r, Z17 b = some r → Z18 r = b := by
 rintro ⟨a, o⟩ r h
 cases o with
 | none => injection h with h; subst h; rfl
 | some _ => cases h
noncomputable def Z34 : Nat → List Int → List Int → List Int → Int → Int → Int → Int → Option (LR (List Int × List Int × List Int) Bool)
 | 0, _, _, _, _, _, _, _ => none
 | k + 1, o1, o2, v1, v13, v21, v29, v30 =>
  if decide (v30 ≤ v13) = true then if (0 : Int) ≤ v29 then if v29 < (↑(List.length o1) : Int) then if (!decide (List.getD o1 (Int.toNat v29) (0 : Int) = v21) == decide (v30 = v13)) = true then some (LR.ret false) else Z34 k o1 o2 v1 v13 v21 (List.getD o1 (Int.toNat v29) (0 : Int)) (wrap64 (v30 + (1 : Int))) else none else none else some (LR.go (o1, o2, v1))
noncomputable def Z9h : Spec := Spec.mk [OSh.ro, OSh.row true (3 : Nat) (Ty.int .i64), OSh.row true (3 : Nat) (Ty.int .i64)] [((1 : Nat), TSh.at (Sh.snap (0 : Nat) (Ty.int .u8))), ((9 : Nat), TSh.at (Sh.sl (1 : Nat))), ((13 : Nat), TSh.at (Sh.int .i64)), ((17 : Nat), TSh.at (Sh.sl (2 : Nat))), ((21 : Nat), TSh.at (Sh.int .i64)), ((29 : Nat), TSh.at (Sh.int .i64)), ((30 : Nat), TSh.at (Sh.int .i64))]
noncomputable def ZmD : Spec := Spec.mk [OSh.ro, OSh.row true (3 : Nat) (Ty.int .i64), OSh.row true (3 : Nat) (Ty.int .i64)] [((1 : Nat), TSh.at (Sh.snap (0 : Nat) (Ty.int .u8))), ((9 : Nat), TSh.at (Sh.sl (1 : Nat))), ((17 : Nat), TSh.at (Sh.sl (2 : Nat)))]
noncomputable def Z2H : LoopDef (Tup Zw × OutD) := .rets Z9h ZmD (List Int × List Int × List Int) (Bool) (fun k x => Z34 k x.1.2.1 x.1.2.2.1 x.2.1 x.2.2.2.1 x.2.2.2.2.2.1 x.2.2.2.2.2.2.1 x.2.2.2.2.2.2.2.1) (fun z => (((), z.1, z.2.1, ()), (z.2.2, (), (), ()))) (fun y => (y.1.2.1, y.1.2.2.1, y.2.1)) (fun _ => rfl) Z18 Z17 Z11
noncomputable def Z2e : Nat → List Int → List Int → List Int → Int → Int → Bool → Option (LR (List Int × List Int × List Int) Bool) := fun k o1 o2 v1 v13 v21 v209 =>
    if v209 = true then Option.bind (Z34 k o1 o2 v1 v13 v21 v21 (1 : Int)) fun z17 => LR.on z17 (fun y17 => some (LR.go (Prod.fst y17, Prod.fst y17.2, Prod.snd y17.2))) fun r17 => some (LR.ret r17) else some (LR.go (o1, o2, v1))
noncomputable def Ziy : Spec := Spec.mk [OSh.ro, OSh.row true (3 : Nat) (Ty.int .i64), OSh.row true (3 : Nat) (Ty.int .i64)] [((1 : Nat), TSh.at (Sh.snap (0 : Nat) (Ty.int .u8))), ((9 : Nat), TSh.at (Sh.sl (1 : Nat))), ((13 : Nat), TSh.at (Sh.int .i64)), ((17 : Nat), TSh.at (Sh.sl (2 : Nat))), ((21 : Nat), TSh.at (Sh.int .i64)), ((209 : Nat), TSh.at Sh.bool)]
noncomputable def ZiF : Spec := Spec.mk [OSh.ro, OSh.row true (3 : Nat) (Ty.int .i64), OSh.row true (3 : Nat) (Ty.int .i64)] [((1 : Nat), TSh.at (Sh.snap (0 : Nat) (Ty.int .u8))), ((9 : Nat), TSh.at (Sh.sl (1 : Nat))), ((17 : Nat), TSh.at (Sh.sl (2 : Nat)))]
noncomputable def Zl : LoopDef (Tup Zw × OutD) := .rets Ziy ZiF (List Int × List Int × List Int) (Bool) (fun k x => Z2e k x.1.2.1 x.1.2.2.1 x.2.1 x.2.2.2.1 x.2.2.2.2.2.1 x.2.2.2.2.2.2.1) (fun z => (((), z.1, z.2.1, ()), (z.2.2, (), (), ()))) (fun y => (y.1.2.1, y.1.2.2.1, y.2.1)) (fun _ => rfl) Z18 Z17 Z11
noncomputable def Z26 : Nat → List Int → List Int → List Int → Int → Int → Option (LR (List Int) Bool)
 | 0, _, _, _, _, _ => none
 | k + 1, o1, o2, v1, v228, v229 =>
  if decide (v229 < v228) = true then if (0 : Int) ≤ v229 then if v229 < (↑(List.length o2) : Int) then if (0 : Int) ≤ List.getD o2 (Int.toNat v229) (0 : Int) then if List.getD o2 (Int.toNat v229) (0 : Int) < (↑(List.length o1) : Int) then Option.bind (Zcd k o2 (List.getD o1 (Int.toNat (List.getD o2 (Int.toNat v229) (0 : Int))) (0 : Int))) fun z19 => if (!z19) = true then some (LR.ret false) else Z26 k o1 o2 v1 v228 (wrap64 (v229 + (1 : Int))) else none else none else none else none else some (LR.go v1)
noncomputable def Z9c : Spec := Spec.mk [OSh.ro, OSh.row true (3 : Nat) (Ty.int .i64), OSh.row true (3 : Nat) (Ty.int .i64)] [((1 : Nat), TSh.at (Sh.snap (0 : Nat) (Ty.int .u8))), ((9 : Nat), TSh.at (Sh.sl (1 : Nat))), ((17 : Nat), TSh.at (Sh.sl (2 : Nat))), ((227 : Nat), TSh.at (Sh.sl (2 : Nat))), ((228 : Nat), TSh.at (Sh.int .i64)), ((229 : Nat), TSh.at (Sh.int .i64))]
noncomputable def ZlK : Spec := Spec.mk [OSh.ro] [((1 : Nat), TSh.at (Sh.snap (0 : Nat) (Ty.int .u8)))]
noncomputable def Z2G : LoopDef (Tup Zw × OutD) := .rets Z9c ZlK (List Int) (Bool) (fun k x => Z26 k x.1.2.1 x.1.2.2.1 x.2.1 x.2.2.2.2.2.1 x.2.2.2.2.2.2.1) (fun z => (((), ()), (z, ()))) (fun y => (y.2.1)) (fun _ => rfl) Z18 Z17 Z11
noncomputable def Z2b : Nat → Int → Int → List (Int × Int) → Int → Int → List (Int × Int) → Int → Int → Int → Option (LR (Int × Int × List (Int × Int) × Int × Int × List (Int × Int)) Bool)
 | 0, _, _, _, _, _, _, _, _, _ => none
 | k + 1, b1_0, b1_1, o2, b3_0, b3_1, o4, v35, v38, v41 =>
  if decide (v41 < v38) = true then Option.bind (Z25 k (b3_0, b3_1, o4) (b1_0, b1_1, o2)) fun z24 => if z24 = true then some (LR.ret false) else Option.bind (Z5k k (b3_0, b3_1, o4) v35) fun z25 => Option.bind (Z5j k (b3_0, b3_1, o4) v35) fun z26 => if (!Prod.snd z25) = true then some (LR.ret false) else if (!Prod.snd z26) = true then some (LR.ret false) else Option.bind (Z25 k (Prod.fst z25.1, Prod.fst z25.1.2, Prod.snd z25.1.2) (Prod.fst z26.1, Prod.fst z26.1.2, Prod.snd z26.1.2)) fun z27 => if (!z27) = true then some (LR.ret false) else Z2b k b1_0 b1_1 o2 z26.1.1 z26.1.2.1 z26.1.2.2 v35 v38 (wrap64 (v41 + (1 : Int))) else some (LR.go (b1_0, b1_1, o2, b3_0, b3_1, o4))
noncomputable def Z9a : Spec := Spec.mk [OSh.ro, OSh.box (26 : Nat) [Sh.int .i64, Sh.int .i64, Sh.sl (2 : Nat)], OSh.row true (71 : Nat) (Ty.pair (Ty.int .i64) (Ty.int .i64)), OSh.box (26 : Nat) [Sh.int .i64, Sh.int .i64, Sh.sl (4 : Nat)], OSh.row true (71 : Nat) (Ty.pair (Ty.int .i64) (Ty.int .i64))] [((34 : Nat), TSh.at (Sh.ptr (1 : Nat) (0 : Nat))), ((35 : Nat), TSh.at (Sh.int .i64)), ((38 : Nat), TSh.at (Sh.int .i64)), ((40 : Nat), TSh.at (Sh.ptr (3 : Nat) (0 : Nat))), ((41 : Nat), TSh.at (Sh.int .i64))]
noncomputable def Zmj : Spec := Spec.mk [OSh.ro, OSh.box (26 : Nat) [Sh.int .i64, Sh.int .i64, Sh.sl (2 : Nat)], OSh.row true (71 : Nat) (Ty.pair (Ty.int .i64) (Ty.int .i64)), OSh.box (26 : Nat) [Sh.int .i64, Sh.int .i64, Sh.sl (4 : Nat)], OSh.row true (71 : Nat) (Ty.pair (Ty.int .i64) (Ty.int .i64))] [((34 : Nat), TSh.at (Sh.ptr (1 : Nat) (0 : Nat))), ((40 : Nat), TSh.at (Sh.ptr (3 : Nat) (0 : Nat)))]
noncomputable def Z2F : LoopDef (Tup Zw × OutD) := .rets Z9a Zmj (Int × Int × List (Int × Int) × Int × Int × List (Int × Int)) (Bool) (fun k x => Z2b k x.1.2.1.1 x.1.2.1.2.1 x.1.2.2.1 x.1.2.2.2.1.1 x.1.2.2.2.1.2.1 x.1.2.2.2.2.1 x.2.2.1 x.2.2.2.1 x.2.2.2.2.2.1) (fun z => (((), (z.1, z.2.1, (), ()), z.2.2.1, (z.2.2.2.1, z.2.2.2.2.1, (), ()), z.2.2.2.2.2, ()), ((), (), ()))) (fun y => (y.1.2.1.1, y.1.2.1.2.1, y.1.2.2.1, y.1.2.2.2.1.1, y.1.2.2.2.1.2.1, y.1.2.2.2.2.1)) (fun _ => rfl) Z18 Z17 Z11
noncomputable def Z1t : Nat → Option Bool := fun k =>
    some true
noncomputable def Zj0 : Spec := Spec.mk [OSh.ro] []
noncomputable def ZD : LoopDef (Tup Zw × OutD) := .ends Zj0 (Bool) (fun k x => Z1t k) Z18 Z17 Z11
noncomputable def Z10 : Nat → List Int → Option Bool := fun k v1 =>
    Option.bind (Z53 k v1) fun z21 => Option.bind (Z7J k (Prod.fst z21.1, Prod.fst z21.1.2, Prod.snd z21.1.2) (Prod.fst z21.2.1, Prod.fst z21.2.1.2, Prod.snd z21.2.1.2) z21.2.2) fun z22 => Option.bind (Z7A k (Prod.fst z21.1, Prod.fst z21.1.2, Prod.snd z21.1.2) (Prod.fst z21.2.1, Prod.fst z21.2.1.2, Prod.snd z21.2.1.2) z21.2.2) fun z23 => if (!Prod.snd z22 == Prod.snd z23) = true then some false else if decide (Prod.fst z22 ≠ Prod.fst z23) = true then some false else if Prod.snd z22 = true then Option.bind (Z2b k z21.2.1.1 z21.2.1.2.1 z21.2.1.2.2 z21.1.1 z21.1.2.1 z21.1.2.2 z21.2.2 z23.1 (0 : Int)) fun z28 => LR.on z28 (fun y28 => Option.bind (Z25 k (Prod.fst y28.2.2.2, Prod.fst y28.2.2.2.2, Prod.snd y28.2.2.2.2) (Prod.fst y28, Prod.fst y28.2, Prod.fst y28.2.2)) fun z29 => if (!z29) = true then some false else Option.bind (Z1t k) fun z30 => some z30) fun r28 => some r28 else Option.bind (Z1t k) fun z31 => some z31
noncomputable def ZiX : Spec := Spec.mk [OSh.ro] [((1 : Nat), TSh.at (Sh.snap (0 : Nat) (Ty.int .u8)))]
noncomputable def ZB : LoopDef (Tup Zw × OutD) := .ends ZiX (Bool) (fun k x => Z10 k x.2.1) Z18 Z17 Z11
noncomputable def Z8o : Nat → Int → Int → List (Int × Int) → List Int → List Int → List Int → List Int → List Int → Int → Bool → Bool → Int → Bool → Int → Bool → Bool → Bool → Option Bool := fun k b1_0 b1_1 o2 o3 o4 o5 o6 v1 v6 v8 v10 v11 v12 v13 v14 v16 v18 =>
    if (!v8 == v10) = true then some false else Option.bind (Z96 k o3 o4) fun z8 => if (!z8) = true then some false else if (!v12 == v14) = true then some false else if decide (v11 ≠ v13) = true then some false else if (!v16 == v18) = true then some false else Option.bind (Z96 k o5 o6) fun z9 => if (!z9) = true then some false else if (!v16 == v8) = true then some false else if v12 = true then if (!v8) = true then some false else if v8 = true then Option.bind (Z3g k (b1_0, b1_1, o2)) fun z10 => Option.bind (Z6A k (b1_0, b1_1, o2)) fun z11 => Option.bind (Z5k k (b1_0, b1_1, o2) v6) fun z12 => Option.bind (Z5j k (b1_0, b1_1, o2) v6) fun z13 => Option.bind (Z3g k (Prod.fst z12.1, Prod.fst z12.1.2, Prod.snd z12.1.2)) fun z14 => if (!Prod.snd z10) = true then some false else if (!Prod.snd z11) = true then some false else if decide (Prod.fst z10 ≠ Prod.fst z11) = true then some false else if (!Prod.snd z12) = true then some false else if (!Prod.snd z13) = true then some false else Option.bind (Z25 k (Prod.fst z12.1, Prod.fst z12.1.2, Prod.snd z12.1.2) (Prod.fst z13.1, Prod.fst z13.1.2, Prod.snd z13.1.2)) fun z15 => if (!z15) = true then some false else if (!Prod.snd z14) = true then some false else if (0 : Int) ≤ Prod.fst z11 then if Prod.fst z11 < (↑(List.length o4) : Int) then if decide (Prod.fst z14 ≠ List.getD o4 (Int.toNat z11.1) (0 : Int)) = true then some false else Option.bind (Zcd k o6 z11.1) fun z16 => if (!v12 == z16) = true then some false else if decide ((↑(List.length o6) : Int) = (0 : Int)) = true then some false else Option.bind (Z2e k o4 o6 v1 v13 z11.1 v12) fun z18 => LR.on z18 (fun y18 => Option.bind (Z26 k y18.1 y18.2.1 y18.2.2 (↑(List.length y18.2.1) : Int) (0 : Int)) fun z20 => LR.on z20 (fun y20 => Option.bind (Z10 k y20) fun z32 => some z32) fun r20 => some r20) fun r18 => some r18 else none else none else Option.bind (Z10 k v1) fun z33 => some z33 else if v8 = true then Option.bind (Z3g k (b1_0, b1_1, o2)) fun z34 => Option.bind (Z6A k (b1_0, b1_1, o2)) fun z35 => Option.bind (Z5k k (b1_0, b1_1, o2) v6) fun z36 => Option.bind (Z5j k (b1_0, b1_1, o2) v6) fun z37 => Option.bind (Z3g k (Prod.fst z36.1, Prod.fst z36.1.2, Prod.snd z36.1.2)) fun z38 => if (!Prod.snd z34) = true then some false else if (!Prod.snd z35) = true then some false else if decide (Prod.fst z34 ≠ Prod.fst z35) = true then some false else if (!Prod.snd z36) = true then some false else if (!Prod.snd z37) = true then some false else Option.bind (Z25 k (Prod.fst z36.1, Prod.fst z36.1.2, Prod.snd z36.1.2) (Prod.fst z37.1, Prod.fst z37.1.2, Prod.snd z37.1.2)) fun z39 => if (!z39) = true then some false else if (!Prod.snd z38) = true then some false else if (0 : Int) ≤ Prod.fst z35 then if Prod.fst z35 < (↑(List.length o4) : Int) then if decide (Prod.fst z38 ≠ List.getD o4 (Int.toNat z35.1) (0 : Int)) = true then some false else Option.bind (Zcd k o6 z35.1) fun z40 => if (!v12 == z40) = true then some false else if decide ((↑(List.length o6) : Int) = (0 : Int)) = true then some false else Option.bind (Z2e k o4 o6 v1 v13 z35.1 v12) fun z41 => LR.on z41 (fun y41 => Option.bind (Z26 k y41.1 y41.2.1 y41.2.2 (↑(List.length y41.2.1) : Int) (0 : Int)) fun z42 => LR.on z42 (fun y42 => Option.bind (Z10 k y42) fun z43 => some z43) fun r42 => some r42) fun r41 => some r41 else none else none else Option.bind (Z10 k v1) fun z44 => some z44
noncomputable def Zj5 : Spec := Spec.mk [OSh.ro, OSh.box (26 : Nat) [Sh.int .i64, Sh.int .i64, Sh.sl (2 : Nat)], OSh.row true (71 : Nat) (Ty.pair (Ty.int .i64) (Ty.int .i64)), OSh.row true (3 : Nat) (Ty.int .i64), OSh.row true (3 : Nat) (Ty.int .i64), OSh.row true (3 : Nat) (Ty.int .i64), OSh.row true (3 : Nat) (Ty.int .i64)] [((1 : Nat), TSh.at (Sh.snap (0 : Nat) (Ty.int .u8))), ((5 : Nat), TSh.at (Sh.ptr (1 : Nat) (0 : Nat))), ((6 : Nat), TSh.at (Sh.int .i64)), ((7 : Nat), TSh.at (Sh.sl (3 : Nat))), ((8 : Nat), TSh.at Sh.bool), ((9 : Nat), TSh.at (Sh.sl (4 : Nat))), ((10 : Nat), TSh.at Sh.bool), ((11 : Nat), TSh.at (Sh.int .i64)), ((12 : Nat), TSh.at Sh.bool), ((13 : Nat), TSh.at (Sh.int .i64)), ((14 : Nat), TSh.at Sh.bool), ((15 : Nat), TSh.at (Sh.sl (5 : Nat))), ((16 : Nat), TSh.at Sh.bool), ((17 : Nat), TSh.at (Sh.sl (6 : Nat))), ((18 : Nat), TSh.at Sh.bool)]
noncomputable def ZC : LoopDef (Tup Zw × OutD) := .ends Zj5 (Bool) (fun k x => Z8o k x.1.2.1.1 x.1.2.1.2.1 x.1.2.2.1 x.1.2.2.2.1 x.1.2.2.2.2.1 x.1.2.2.2.2.2.1 x.1.2.2.2.2.2.2.1 x.2.1 x.2.2.2.1 x.2.2.2.2.2.1 x.2.2.2.2.2.2.2.1 x.2.2.2.2.2.2.2.2.1 x.2.2.2.2.2.2.2.2.2.1 x.2.2.2.2.2.2.2.2.2.2.1 x.2.2.2.2.2.2.2.2.2.2.2.1 x.2.2.2.2.2.2.2.2.2.2.2.2.2.1 x.2.2.2.2.2.2.2.2.2.2.2.2.2.2.2.1) Z18 Z17 Z11
noncomputable def Zbh : Nat → List Int → List Int → Option Bool
 | 0, _, _ => none
 | k + 1, p0, p1 =>
  Option.bind (ZeR k p0 p1) fun z0 => if z0 = true then some true else Option.bind (Z6N k p0) fun z1 => Option.bind (Z9s k (Prod.fst z1.1, Prod.fst z1.1.2, Prod.snd z1.1.2) z1.2) fun z2 => Option.bind (Z9C k (Prod.fst z1.1, Prod.fst z1.1.2, Prod.snd z1.1.2) z1.2) fun z3 => Option.bind (ZaF k (Prod.fst z1.1, Prod.fst z1.1.2, Prod.snd z1.1.2) z1.2) fun z4 => Option.bind (Zao k (Prod.fst z1.1, Prod.fst z1.1.2, Prod.snd z1.1.2) z1.2) fun z5 => Option.bind (Z6S k (Prod.fst z1.1, Prod.fst z1.1.2, Prod.snd z1.1.2) z1.2) fun z6 => Option.bind (Z7a k (Prod.fst z1.1, Prod.fst z1.1.2, Prod.snd z1.1.2) z1.2) fun z7 => Option.bind (Z8o k z1.1.1 z1.1.2.1 z1.1.2.2 z2.1 z3.1 z6.1 z7.1 p1 z1.2 z2.2 z3.2 z4.1 z4.2 z5.1 z5.2 z6.2 z7.2) fun z45 => some z45
noncomputable def Z1g : FnDef := .of Z5G Zw (Bool) (fun k x => Zbh k x.1 x.2.1) Z18 Z17 Z11
noncomputable def ZI : Code := Try.f4.body.getD .skip
noncomputable def Z2 : Ctx (Tup Zw × OutD) := { T := T, G := [(5, Z8J.E), (26, Z1l.E), (27, Z2U.E), (28, Z2T.E), (29, Z3q.E), (30, Z3p.E), (31, Z1k.E), (32, Z1n.E), (17, Z3H.E), (18, Z2j.E), (19, Z2k.E), (21, Z2V.E), (33, Z2W.E), (16, Z2R.E), (20, Z90.E), (34, ZR.E), (35, Z1H.E), (36, Z1B.E)], mvs := [], no := 0, n := 308, res := resOf T Z5G Zw Try.f4.results.toList, loops := [(0, Z2H.E), (2, Z2G.E), (4, Z2F.E)], regs := [], conds := [(209, Zl.E)], cuts := [(53, ZD.E), (34, ZB.E), (10, ZC.E)] }
theorem Z1Z (k : Nat) : EnvOK Try.prog k Z2.G := (EnvOK.cons (ZCD k) (EnvOK.cons (ZmG k) (EnvOK.cons (ZsJ k) (EnvOK.cons (Zta k) (EnvOK.cons (Zv5 k) (EnvOK.cons (Zvz k) (EnvOK.cons (Zng k) (EnvOK.cons (ZnN k) (EnvOK.cons (Zxs k) (EnvOK.cons (Zrc k) (EnvOK.cons (Zro k) (EnvOK.cons (Zt2 k) (EnvOK.cons (Ztw k) (EnvOK.cons (ZtS k) (EnvOK.cons (ZCf k) (EnvOK.cons (Zk2 k) (EnvOK.cons (Zoo k) (EnvOK.cons (Zoy k) (EnvOK.nil mixed)))))))))))))))))))
noncomputable def Z6x : Code := (findLoop 0 ZI).getD .skip
theorem Zmt (k : Nat) (x : Z9h.D) : Z2H.lp (k + 1) x = loopK Z2 Z2H 0 Z6x k x := by kernel_rfl
theorem Zmv (k : Nat) : LOK Try.prog Z2 k Z6x := LOK.by [] (by kernel_rfl) AllOK.nil
theorem Zml (x : Z9h.D) : Z2H.lp 0 x = none := by kernel_rfl
theorem Zkt (k : Nat) : EOK Try.prog Z2 k Z2H.E (.block 0 (.loop Z6x)) := Z8 T_ok Z1Z Zml Zmt Zmv k
noncomputable def Z4I : Code := ((findCond 209 ZI).map (·.1)).getD .skip
noncomputable def Z4F : Code := ((findCond 209 ZI).map (·.2)).getD .skip
theorem ZiL (k : Nat) (i : Zl.inp.D) : Zl.lp k i = branch (Zl.inp.st Z2.n i) (.tmp 209) (fun st => exec Z2 k Z4I st (outK Z2 Zl) (fun _ _ => none) Zl.mkB) (fun st => exec Z2 k Z4F st (outK Z2 Zl) (fun _ _ => none) Zl.mkB) := by kernel_rfl
theorem Zhu (k : Nat) : EOK Try.prog Z2 k Zl.E (.cond (.tmp 209) Z4I Z4F) := ZDw (D := Zl) T_ok (Z1Z k) (ZiL k) (@LOK.by _ _ _ _ Z4I [(Z2H.E, .block 0 (.loop Z6x))] (by kernel_rfl) (AllOK.cons (Zkt k) AllOK.nil)) (@LOK.by _ _ _ _ Z4F [] (by kernel_rfl) AllOK.nil)
noncomputable def Z6k : Code := (findLoop 2 ZI).getD .skip
theorem Zmc (k : Nat) (x : Z9c.D) : Z2G.lp (k + 1) x = loopK Z2 Z2G 2 Z6k k x := by kernel_rfl
theorem ZlI (k : Nat) : LOK Try.prog Z2 k Z6k := LOK.by [] (by kernel_rfl) AllOK.nil
theorem Zmb (x : Z9c.D) : Z2G.lp 0 x = none := by kernel_rfl
theorem Zkw (k : Nat) : EOK Try.prog Z2 k Z2G.E (.block 2 (.loop Z6k)) := Z8 T_ok Z1Z Zmb Zmc ZlI k
noncomputable def Z6j : Code := (findLoop 4 ZI).getD .skip
theorem ZlH (k : Nat) (x : Z9a.D) : Z2F.lp (k + 1) x = loopK Z2 Z2F 4 Z6j k x := by kernel_rfl
theorem Zmh (k : Nat) : LOK Try.prog Z2 k Z6j := LOK.by [] (by kernel_rfl) AllOK.nil
theorem ZlR (x : Z9a.D) : Z2F.lp 0 x = none := by kernel_rfl
theorem Zkm (k : Nat) : EOK Try.prog Z2 k Z2F.E (.block 4 (.loop Z6j)) := Z8 T_ok Z1Z ZlR ZlH Zmh k
noncomputable def Z4R : Code := (findCut 53 ZI).getD .skip
theorem ZjN (k : Nat) (i : ZD.inp.D) : ZD.lp k i = exec Z2 k Z4R (ZD.inp.st Z2.n i) (outK Z2 ZD) (fun _ _ => none) ZD.mkB := by kernel_rfl
theorem Zij (k : Nat) : EOK Try.prog Z2 k ZD.E Z4R := ZAp (D := ZD) T_ok (Z1Z k) (ZjN k) (@LOK.by _ _ _ _ Z4R [] (by kernel_rfl) AllOK.nil)
noncomputable def Z4M : Code := (findCut 34 ZI).getD .skip
theorem Zk8 (k : Nat) (i : ZB.inp.D) : ZB.lp k i = exec Z2 k Z4M (ZB.inp.st Z2.n i) (outK Z2 ZB) (fun _ _ => none) ZB.mkB := by kernel_rfl
theorem Zia (k : Nat) : EOK Try.prog Z2 k ZB.E Z4M := ZAp (D := ZB) T_ok (Z1Z k) (Zk8 k) (@LOK.by _ _ _ _ Z4M [(Z2F.E, .block 4 (.loop Z6j)), (ZD.E, Z4R)] (by kernel_rfl) (AllOK.cons (Zkm k) (AllOK.cons (Zij k) AllOK.nil)))
noncomputable def Z4P : Code := (findCut 10 ZI).getD .skip
theorem Zkf (k : Nat) (i : ZC.inp.D) : ZC.lp k i = exec Z2 k Z4P (ZC.inp.st Z2.n i) (outK Z2 ZC) (fun _ _ => none) ZC.mkB := by kernel_rfl
theorem Zil (k : Nat) : EOK Try.prog Z2 k ZC.E Z4P := ZAp (D := ZC) T_ok (Z1Z k) (Zkf k) (@LOK.by _ _ _ _ Z4P [(Zl.E, .cond (.tmp 209) Z4I Z4F), (Z2G.E, .block 2 (.loop Z6k)), (ZB.E, Z4M)] (by kernel_rfl) (AllOK.cons (Zhu k) (AllOK.cons (Zkw k) (AllOK.cons (Zia k) AllOK.nil))))
theorem ZpY (k : Nat) (x : Tup Z1g.ps) : Z1g.f (k + 1) x = fnK Z1g Z2 ZI k x := by kernel_rfl
theorem Zqy (x : Tup Z1g.ps) : Z1g.f 0 x = none := by kernel_rfl
theorem Zqr (k : Nat) : LOK Try.prog Z2 k ZI := LOK.by [(ZC.E, Z4P)] (by kernel_rfl) (AllOK.cons (Zil k) AllOK.nil)
theorem Zqz (k : Nat) : SoundAt Try.prog k 4 Z1g.E := @Z4 Try.prog Z1g Z2 4 Try.f4 ZI (by kernel_rfl) (by kernel_rfl) (by kernel_rfl) Try.func4 (by kernel_rfl) (by kernel_rfl) (by kernel_rfl) T_ok Z1Z Zqr Zqy ZpY k
end
end Go.Proofs.Ytglkedenkcpcbaa.Vs

set_option linter.unusedVariables false
set_option linter.unusedSimpArgs false
namespace Go.Proofs.Ytglkedenkcpcbaa.Vs
open Go.RowKit
theorem ZAH {l : List Int} (h : ∀ x ∈ l, Wf (.int .u8) x) : ∀ x ∈ l, 0 ≤ x ∧ x ≤ 255 := by
 intro x hx
 have h2 : (Lit.int .u8 x).wf = true := h x hx
 simp only [Lit.wf, Bool.and_eq_true, decide_eq_true_eq] at h2
 have e1 : IntKind.u8.min = 0 := by decide
 have e2 : IntKind.u8.max = 255 := by decide
 omega
def Cur (code : List Int) (at' n : Int) : Prop := (∀ x ∈ code, 0 ≤ x ∧ x ≤ 255) ∧ code.length ≤ 9223372036854775807 ∧ 0 ≤ at' ∧ at' + n ≤ 4611686018427387904
theorem Cur.to {code : List Int} {at' n at2 m : Int} (h : Cur code at' n) (h1 : at' ≤ at2) (h2 : at2 + m ≤ at' + n) : Cur code at2 m := ⟨h.1, h.2.1, by have := h.2.2.1; omega, by have := h.2.2.2; omega⟩
theorem ZBs (n : Int) (h0 : 0 ≤ n) (h1 : n < 2 ^ 64) : IntKind.u64.wrap n = n := by
 have : (2 : Int) ^ 64 = 18446744073709551616 := by decide
 simp [IntKind.wrap, IntKind.bits, IntKind.signed]
 omega
theorem and255 (x : Int) : 0 ≤ bits BinOp.and IntKind.u64 x 255 ∧ bits BinOp.and IntKind.u64 x 255 ≤ 255 := by
 unfold bits
 simp only
 have h : ((BitVec.ofInt IntKind.u64.bits x &&& BitVec.ofInt IntKind.u64.bits 255).toNat) ≤ 255 := by
  rw [BitVec.toNat_and]
  exact Nat.and_le_right
 have h2 : ((2 : Int) ^ 64) = 18446744073709551616 := by decide
 rw [ZBs _ (Int.natCast_nonneg _) (by omega)]
 omega
theorem ZyL {l : List Int} {i : Int} (h : i < (l.length : Int)) (h0 : 0 ≤ i) : List.getD l i.toNat 0 ∈ l := by
 have hi : i.toNat < l.length := by omega
 simp only [List.getD, List.getElem?_eq_getElem hi, Option.getD_some]
 exact List.getElem_mem hi
def seedN (s b : Int) : Int := IntKind.wrap IntKind.u64 (IntKind.wrap IntKind.u64 (IntKind.wrap IntKind.u64 (s * 6364136223846793005) + IntKind.wrap IntKind.u64 b) + 1442695040888963407)
theorem ZD9 {code : List Int} {at' : Int} (seed : Int) (h : Cur code at' 1) : ∃ v s, Ev (fun k => Z5d k (code, at', seed)) (v, at' + 1, s) ∧ 0 ≤ v ∧ v ≤ 255 := by
 obtain ⟨hb, hl, h0, h1⟩ := h
 have w1 : wrap64 (at' + 1) = at' + 1 := w64 (by omega) (by omega)
 have big : ∀ x : Int, 0 ≤ wrap64 (bits BinOp.and IntKind.u64 x 255) ∧ wrap64 (bits BinOp.and IntKind.u64 x 255) ≤ 255 := fun x => by
  have := and255 x
  rw [w64 (by omega) (by omega)]
  exact this
 by_cases hin : at' < (code.length : Int)
 ·have hx := hb _ (ZyL hin h0)
  have w2 : wrap64 (List.getD code at'.toNat 0) = List.getD code at'.toNat 0 := w64 (by omega) (by omega)
  have hle : at' + 1 ≤ (code.length : Int) := by omega
  refine ⟨List.getD code at'.toNat 0, seedN seed (List.getD code at'.toNat 0), Ev.succ ?_, hx.1, hx.2⟩
  simp only [Z5d, hin, h0, w1, hle, decide_true, if_true, w2]
  exact Ev.some _
 ·have hle : ¬ at' + 1 ≤ (code.length : Int) := by omega
  refine ⟨wrap64 (bits BinOp.and IntKind.u64 (Int.fdiv (seedN seed 0) (2 ^ min (Int.toNat 40) (IntKind.bits IntKind.u64))) 255), seedN seed 0, Ev.succ ?_, (big _).1, (big _).2⟩
  simp only [Z5d, hin, w1, hle, decide_false, Bool.false_eq_true, if_false]
  exact Ev.some _
theorem ZnS {code : List Int} {at' : Int} (seed n : Int) (h : Cur code at' 2) : ∃ v at2 s, Ev (fun k => Z0 k (code, at', seed) n) (v, at2, s) ∧ at' ≤ at2 ∧ at2 ≤ at' + 2 ∧ 0 ≤ v ∧ (n ≤ 1 → v = 0) ∧ (1 < n → v < n) := by
 by_cases hn : n ≤ 1
 ·refine ⟨0, at', seed, Ev.succ ?_, by omega, by omega, by omega, fun _ => rfl, fun h => by omega⟩
  simp only [Z0, hn, decide_true, if_true]
  exact Ev.some _
 ·obtain ⟨v1, s1, e1, b1, b2⟩ := ZD9 seed (h.to (at2 := at') (m := 1) (by omega) (by omega))
  by_cases hb : n > 200
  ·obtain ⟨v2, s2, e2, b3, b4⟩ := ZD9 s1 (h.to (at2 := at' + 1) (m := 1) (by omega) (by omega))
   have hp : 0 ≤ v1 * 256 + v2 := by omega
   refine ⟨Int.tmod (v1 * 256 + v2) n, at' + 1 + 1, s2, Ev.succ ?_, by omega, by omega, Int.tmod_nonneg _ hp, fun h => by omega, fun _ => Int.tmod_lt_of_pos _ (by omega)⟩
   have hn0 : ¬ n = 0 := by omega
   simp only [Z0, hn, decide_false, Bool.false_eq_true, if_false]
   refine Ev.bind e1 ?_
   simp only [hb, decide_true, if_true]
   refine Ev.bind e2 ?_
   simp only [hn0, if_false]
   rw [w64 (n := v1 * 256) (by omega) (by omega), w64 (n := v1 * 256 + v2) (by omega) (by omega)]
   exact Ev.some _
  ·refine ⟨Int.tmod v1 n, at' + 1, s1, Ev.succ ?_, by omega, by omega, Int.tmod_nonneg _ b1, fun h => by omega, fun _ => Int.tmod_lt_of_pos _ (by omega)⟩
   have hn0 : ¬ n = 0 := by omega
   simp only [Z0, hn, decide_false, Bool.false_eq_true, if_false]
   refine Ev.bind e1 ?_
   simp only [hb, decide_false, Bool.false_eq_true, if_false, hn0]
   exact Ev.some _
theorem Zch {code : List Int} {at' : Int} (seed : Int) (l : List Int) (hl : 0 < l.length) (h : Cur code at' 2) : ∃ v at2 s, Ev (fun k => Zb k (code, at', seed) l) (v, at2, s) ∧ at' ≤ at2 ∧ at2 ≤ at' + 2 ∧ v ∈ l := by
 obtain ⟨v, at2, s, e1, b1, b2, b3, b4, b5⟩ := ZnS seed (l.length : Int) h
 have hlt : v < (l.length : Int) := by
  by_cases h1 : (l.length : Int) ≤ 1
  ·rw [b4 h1]; omega
  ·exact b5 (by omega)
 refine ⟨List.getD l v.toNat 0, at2, s, Ev.succ ?_, b1, b2, ZyL hlt b3⟩
 simp only [Zb]
 refine Ev.bind e1 ?_
 simp only [b3, hlt, if_true]
 exact Ev.some _
end Go.Proofs.Ytglkedenkcpcbaa.Vs

set_option linter.unusedVariables false
set_option linter.unusedSimpArgs false
namespace Go.Proofs.Ytglkedenkcpcbaa.Vs
open Go.RowKit
theorem ZsG {code : List Int} {at' : Int} (seed n : Int) (h : Cur code at' 2) : ∃ b at2 s, Ev (fun k => Zm k (code, at', seed) n) (b, at2, s) ∧ at' ≤ at2 ∧ at2 ≤ at' + 2 := by
 obtain ⟨v, at2, s, e1, b1, b2, _⟩ := ZnS seed n h
 refine ⟨decide (v = 0), at2, s, Ev.succ ?_, b1, b2⟩
 simp only [Zm]
 exact Ev.bind e1 (Ev.some _)
theorem Zcg {code : List Int} {at' : Int} (seed n : Int) (h : Cur code at' 2) (hn : 0 < n) : ∃ v at2 s, Ev (fun k => Z0 k (code, at', seed) n) (v, at2, s) ∧ at' ≤ at2 ∧ at2 ≤ at' + 2 ∧ 0 ≤ v ∧ v < n := by
 obtain ⟨v, at2, s, e1, b1, b2, b3, b4, b5⟩ := ZnS seed n h
 refine ⟨v, at2, s, e1, b1, b2, b3, ?_⟩
 by_cases h1 : n ≤ 1
 ·rw [b4 h1]; exact hn
 ·exact b5 (by omega)
end Go.Proofs.Ytglkedenkcpcbaa.Vs

set_option linter.unusedVariables false
set_option linter.unusedSimpArgs false
namespace Go.Proofs.Ytglkedenkcpcbaa.Vs
open Go.RowKit
theorem Zb8 (a b c : Int) : Ev (fun k => Z6g k a b c) (decide (b ≤ a ∧ a ≤ c)) := by
 refine Ev.succ ?_
 simp only [Z6g]
 refine Ev.of ?_
 by_cases h1 : b ≤ a <;> by_cases h2 : a ≤ c <;> simp [h1, h2]
end Go.Proofs.Ytglkedenkcpcbaa.Vs

set_option linter.unusedVariables false
set_option linter.unusedSimpArgs false
namespace Go.Proofs.Ytglkedenkcpcbaa.Vs
open Go.RowKit
abbrev CellD := Int × Int
abbrev BoardD := Int × Int × List (Int × Int)
abbrev FaultD := Int × Int × Int
def turning (x : CellD) : Bool := decide (x.1 = 3 ∨ x.1 = 6)
def cellOK (x : CellD) : Bool := decide (0 ≤ x.1 ∧ x.1 ≤ 7 ∧ (x.2 = 0 ∨ (x.2 = 1 ∧ (x.1 = 3 ∨ x.1 = 6))))
def boardOK (b : BoardD) : Bool := decide (1 ≤ b.1 ∧ b.1 ≤ 10 ∧ 1 ≤ b.2.1 ∧ b.2.1 ≤ 9 ∧ (b.2.2.length : Int) = b.1 * b.2.1) && b.2.2.all cellOK
theorem Zjp (x : CellD) : Ev (fun k => Z8b k x) (turning x) := by
 refine Ev.succ ?_
 simp only [Z8b]
 refine Ev.of ?_
 by_cases h1 : x.1 = 3 <;> simp [turning, h1]
theorem ZpK (x : CellD) : Ev (fun k => ZaT k x) (cellOK x) := by
 refine Ev.succ ?_
 simp only [ZaT, decide_eq_true_eq]
 refine Ev.of ?_
 unfold cellOK
 repeat' split
 all_goals (congr 1; first | (symm; rw [decide_eq_true_eq]; omega) | (symm; rw [decide_eq_false_iff_not]; omega) | (apply decide_eq_decide.2; omega))
theorem ZzX (x : CellD) : Ev (fun k => ZdP k x) (cellOK x) := by
 refine Ev.succ ?_
 simp only [ZdP]
 refine Ev.bind (Zb8 _ _ _) ?_
 refine Ev.ite (fun h => ?_) (fun h => ?_)
 ·simp only [decide_eq_true_eq] at h
  refine Ev.ite (fun h2 => ?_) (fun h2 => ?_)
  ·simp only [decide_eq_true_eq] at h2
   refine Ev.of ?_
   congr 1; simp [cellOK]; omega
  ·simp only [decide_eq_true_eq] at h2
   refine Ev.ite (fun h3 => ?_) (fun h3 => ?_)
   ·simp only [decide_eq_true_eq] at h3
    refine Ev.bind (Zjp x) (Ev.of ?_)
    congr 1; unfold turning cellOK; by_cases h4 : x.1 = 3 ∨ x.1 = 6 <;> simp [h4] <;> omega
   ·simp only [decide_eq_true_eq] at h3
    refine Ev.of ?_
    congr 1; simp [cellOK]; omega
 ·simp only [decide_eq_true_eq] at h
  refine Ev.of ?_
  congr 1; simp [cellOK]; omega
theorem ZfK : ∀ (r pre : List CellD), (pre ++ r).length ≤ 9223372036854775806 → Ev (fun k => Z3S k (pre ++ r) ((pre ++ r).length : Int) (pre.length : Int)) (if r.all cellOK then LR.go () else LR.ret false)
 | [], pre, hl => by
  refine Ev.succ ?_
  simp only [Z3S, Zx, decide_false, Bool.false_eq_true, if_false, List.all_nil, if_true]
  exact Ev.some _
 | x :: r, pre, hl => by
  have ih := ZfK r (pre ++ [x]) (by simpa using hl)
  refine Ev.succ ?_
  simp only [Z3S, Zk, ZA, decide_true, if_true, Int.toNat_natCast, Za]
  rw [Zj pre x r (by omega)]
  rw [← Z6] at ih
  refine Ev.bind (ZpK x) ?_
  cases hx : cellOK x with
  | true => simp only [hx, List.all_cons, Bool.true_and, Bool.not_true, Bool.false_eq_true, if_false]; exact ih
  | false => simp only [hx, List.all_cons, Bool.false_and, Bool.not_false, if_true, Bool.false_eq_true, if_false]; exact Ev.some _
theorem ZtQ (l : List CellD) (hl : l.length ≤ 9223372036854775806) : Ev (fun k => Z9r k l) (decide (l.length ≤ 90) && l.all cellOK) := by
 refine Ev.succ ?_
 simp only [Z9r]
 refine Ev.ite (fun h => ?_) (fun h => ?_)
 ·simp only [decide_eq_true_eq] at h
  refine Ev.of ?_
  have : ¬ l.length ≤ 90 := by omega
  simp [this]
 ·simp only [decide_eq_true_eq] at h
  have h2 : l.length ≤ 90 := by omega
  refine Ev.bind (ZfK l [] (by simpa using hl)) ?_
  simp only [h2, decide_true, Bool.true_and]
  cases hx : l.all cellOK with
  | true => simp only [if_true]; exact Ev.go (Ev.some _)
  | false => simp only [Bool.false_eq_true, if_false]; exact Ev.ret (Ev.some _)
theorem ZU {a b : Int} (h1 : 1 ≤ a) (h2 : a ≤ 10) (h3 : 1 ≤ b) (h4 : b ≤ 9) : 1 ≤ a * b ∧ a * b ≤ 90 :=
 ⟨by have := Int.mul_le_mul h1 h3 (by omega) (by omega); omega, by have := Int.mul_le_mul h2 h4 (by omega) (by omega); omega⟩
theorem Zgf (b : BoardD) (hl : b.2.2.length ≤ 9223372036854775806) : Ev (fun k => Z7U k b) (boardOK b) := by
 refine Ev.succ ?_
 simp only [Z7U, ge_iff_le]
 have no : ∀ {c : Prop}, ¬ c → (boardOK b = true → c) → Option.some false = Option.some (boardOK b) := by
  intro c h1 h2
  cases hb : boardOK b with
  | true => exact absurd (h2 hb) h1
  | false => rfl
 have hb : boardOK b = true → 1 ≤ b.1 ∧ b.1 ≤ 10 ∧ 1 ≤ b.2.1 ∧ b.2.1 ≤ 9 ∧ (b.2.2.length : Int) = b.1 * b.2.1 := fun h => by
  unfold boardOK at h; simp only [Bool.and_eq_true, decide_eq_true_eq] at h; exact h.1
 refine Ev.ite (fun h1 => ?_) (fun h => Ev.of (no h (fun hh => by simpa using (hb hh).1)))
 refine Ev.ite (fun h2 => ?_) (fun h => Ev.of (no h (fun hh => by simpa using (hb hh).2.1)))
 refine Ev.ite (fun h3 => ?_) (fun h => Ev.of (no h (fun hh => by simpa using (hb hh).2.2.1)))
 refine Ev.ite (fun h4 => ?_) (fun h => Ev.of (no h (fun hh => by simpa using (hb hh).2.2.2.1)))
 simp only [decide_eq_true_eq] at h1 h2 h3 h4
 have hp := ZU h1 h2 h3 h4
 rw [w64 (by omega) (by omega)]
 refine Ev.ite (fun h5 => ?_) (fun h => Ev.of (no h (fun hh => by simpa using (hb hh).2.2.2.2)))
 simp only [decide_eq_true_eq] at h5
 refine Ev.bind (ZtQ _ hl) (Ev.of ?_)
 have h6 : b.2.2.length ≤ 90 := by omega
 congr 1
 simp only [boardOK, h1, h2, h3, h4, ← h5, h6, and_self, decide_true, Bool.true_and]
theorem ZkT : ∀ (r pre : List CellD), (pre ++ r).length ≤ 9223372036854775806 → Ev (fun k => Z74 k (pre ++ r) ((pre ++ r).length : Int) (pre.length : Int)) (if r.all cellOK then LR.go () else LR.ret false)
 | [], pre, hl => by
  refine Ev.succ ?_
  simp only [Z74, Zx, decide_false, Bool.false_eq_true, if_false, List.all_nil, if_true]
  exact Ev.some _
 | x :: r, pre, hl => by
  have ih := ZkT r (pre ++ [x]) (by simpa using hl)
  refine Ev.succ ?_
  simp only [Z74, Zk, ZA, decide_true, if_true, Int.toNat_natCast, Za]
  rw [Zj pre x r (by omega)]
  rw [← Z6] at ih
  refine Ev.bind (ZzX x) ?_
  cases hx : cellOK x with
  | true => simp only [hx, List.all_cons, Bool.true_and, Bool.not_true, Bool.false_eq_true, if_false]; exact ih
  | false => simp only [hx, List.all_cons, Bool.false_and, Bool.not_false, if_true, Bool.false_eq_true, if_false]; exact Ev.some _
theorem Zds (b : BoardD) (hl : b.2.2.length ≤ 9223372036854775806) : Ev (fun k => Z7f k b) (boardOK b) := by
 refine Ev.succ ?_
 simp only [Z7f]
 have no : ∀ {c : Prop}, ¬ c → (boardOK b = true → c) → Option.some false = Option.some (boardOK b) := by
  intro c h1 h2
  cases hb : boardOK b with
  | true => exact absurd (h2 hb) h1
  | false => rfl
 have hb : boardOK b = true → 1 ≤ b.1 ∧ b.1 ≤ 10 ∧ 1 ≤ b.2.1 ∧ b.2.1 ≤ 9 ∧ (b.2.2.length : Int) = b.1 * b.2.1 := fun h => by
  unfold boardOK at h; simp only [Bool.and_eq_true, decide_eq_true_eq] at h; exact h.1
 refine Ev.bind (Zb8 _ _ _) (Ev.ite (fun h => Ev.of (no (c := 1 ≤ b.1 ∧ b.1 ≤ 10) (nd h) (fun hh => ⟨(hb hh).1, (hb hh).2.1⟩))) (fun h1 => ?_))
 refine Ev.bind (Zb8 _ _ _) (Ev.ite (fun h => Ev.of (no (c := 1 ≤ b.2.1 ∧ b.2.1 ≤ 9) (nd h) (fun hh => ⟨(hb hh).2.2.1, (hb hh).2.2.2.1⟩))) (fun h2 => ?_))
 have h1' : 1 ≤ b.1 ∧ b.1 ≤ 10 := yd h1
 have h2' : 1 ≤ b.2.1 ∧ b.2.1 ≤ 9 := yd h2
 have hp := ZU h1'.1 h1'.2 h2'.1 h2'.2
 rw [w64 (by omega) (by omega)]
 refine Ev.ite (fun h => Ev.of (no (c := (b.2.2.length : Int) = b.1 * b.2.1) (by simpa using h) (fun hh => (hb hh).2.2.2.2))) (fun h3 => ?_)
 have h3' : (b.2.2.length : Int) = b.1 * b.2.1 := by simpa using h3
 refine Ev.bind (ZkT b.2.2 [] (by simpa using hl)) ?_
 have hx2 : boardOK b = b.2.2.all cellOK := by unfold boardOK; simp only [h1'.1, h1'.2, h2'.1, h2'.2, h3', and_self, decide_true, Bool.true_and]
 rw [hx2]
 cases hx : b.2.2.all cellOK with
 | true => simp only [if_true]; exact Ev.go (Ev.some _)
 | false => simp only [Bool.false_eq_true, if_false]; exact Ev.ret (Ev.some _)
theorem Zr {b : BoardD} (h : boardOK b = true) : 1 ≤ b.1 ∧ b.1 ≤ 10 ∧ 1 ≤ b.2.1 ∧ b.2.1 ≤ 9 ∧ (b.2.2.length : Int) = b.1 * b.2.1 ∧ ∀ x ∈ b.2.2, cellOK x = true := by
 unfold boardOK at h
 simp only [Bool.and_eq_true, decide_eq_true_eq] at h
 exact ⟨h.1.1, h.1.2.1, h.1.2.2.1, h.1.2.2.2.1, h.1.2.2.2.2, List.all_eq_true.1 h.2⟩
theorem Zgc {b : BoardD} (h : boardOK b = true) {r c : Int} (h1 : 0 ≤ r) (h2 : r < b.1) (h3 : 0 ≤ c) (h4 : c < b.2.1) : 0 ≤ r * b.2.1 + c ∧ r * b.2.1 + c < (b.2.2.length : Int) ∧ r * b.2.1 + c ≤ 90 ∧ 0 ≤ r * b.2.1 ∧ r * b.2.1 ≤ 90 := by
 obtain ⟨g1, g2, g3, g4, g5, _⟩ := Zr h
 have hp := ZU g1 g2 g3 g4
 have k1 : 0 ≤ r * b.2.1 := Int.mul_nonneg h1 (by omega)
 have k2 : (r + 1) * b.2.1 ≤ b.1 * b.2.1 := Int.mul_le_mul_of_nonneg_right (by omega) (by omega)
 rw [Int.add_mul, Int.one_mul] at k2
 omega
theorem Z8z {l : List CellD} {i : Int} (h0 : 0 ≤ i) (h1 : i < (l.length : Int)) (d : CellD) : List.getD l i.toNat d ∈ l := by
 have : i.toNat < l.length := by omega
 simp [List.getD, List.getElem?_eq_getElem this]

end Go.Proofs.Ytglkedenkcpcbaa.Vs
