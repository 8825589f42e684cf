/- The proof, part 8. -/
import Derived.Test.Ytgjmhbjdhihgaaaqgm6
set_option maxRecDepth 100000
set_option maxHeartbeats 2000000
set_option linter.unusedVariables false
set_option linter.unusedSimpArgs false
namespace Go.Proofs.Ytgjmhbjdhihgaaa.Vs
open Go.RowKit
noncomputable section
noncomputable def Z5m : List PK := [PK.mk (Ty.slice (77 : Nat) (Ty.pair (Ty.int .i64) (Ty.pair (Ty.int .i64) (Ty.int .i64)))) false none false none, PK.mk Ty.bool false none false none]
noncomputable def ZgW : List PK := [PK.mk (Ty.pair (Ty.int .i64) (Ty.pair (Ty.int .i64) (Ty.slice (79 : Nat) (Ty.pair (Ty.int .i64) (Ty.int .i64))))) true none false none]
noncomputable def ZfK (r : List (Int × Int × Int) × Bool) : Tup Z5m × OutD := ((r.1, r.2, ()), none)
noncomputable def Zg1 : Tup Z5m × OutD → Option (List (Int × Int × Int) × Bool)
 | (a, none) => some (a.1, a.2.1)
 | _ => none
theorem ZmD : ∀ b r, Zg1 b = some r → ZfK r = b := by
 rintro ⟨a, o⟩ r h
 cases o with
 | none => injection h with h; subst h; rfl
 | some _ => cases h
noncomputable def Z8e : Nat → Int × Int × List (Int × Int) → Option (List (Int × Int × Int) × Bool)
 | 0, _ => none
 | k + 1, p0 =>
  Option.bind (ZaJ k (Prod.fst p0, Prod.fst p0.2, Prod.snd p0.2)) fun z0 => if (!z0) = true then some ([], false) else Option.bind (Z6r k (Prod.fst p0, Prod.fst p0.2, Prod.snd p0.2)) fun z1 => some (z1, true)
noncomputable def Z1D : FnDef := .of ZgW Z5m (List (Int × Int × Int) × Bool) (fun k x => Z8e k x.1) ZfK Zg1 ZmD
noncomputable def Zcl : Code := Try.f66.body.getD .skip
noncomputable def Z81 : Ctx (Tup Z5m × OutD) := { T := T, G := [(133, Z3L.E), (148, Z1J.E)], mvs := [], no := 0, n := 9, res := resOf T ZgW Z5m Try.f66.results.toList, loops := [], regs := [], conds := [] }
theorem ZqK (k : Nat) : EnvOK Try.prog k Z81.G := (EnvOK.cons (Zlg k) (EnvOK.cons (ZfC k) (EnvOK.nil mixed)))
theorem Zrh (k : Nat) (x : Tup Z1D.ps) : Z1D.f (k + 1) x = fnK Z1D Z81 Zcl k x := by kernel_rfl
theorem ZrP (x : Tup Z1D.ps) : Z1D.f 0 x = none := by kernel_rfl
theorem ZrD (k : Nat) : LOK Try.prog Z81 k Zcl := LOK.by [] (by kernel_rfl) AllOK.nil
theorem ZrJ (k : Nat) : SoundAt Try.prog k 66 Z1D.E := @Z4 Try.prog Z1D Z81 66 Try.f66 Zcl (by kernel_rfl) (by kernel_rfl) (by kernel_rfl) Try.func66 (by kernel_rfl) (by kernel_rfl) (by kernel_rfl) T_ok ZqK ZrD ZrP Zrh k
noncomputable def Z4P : List PK := [PK.mk Ty.bool false none false none]
noncomputable def ZiM : List PK := [PK.mk (Ty.pair (Ty.int .i64) (Ty.pair (Ty.int .i64) (Ty.slice (79 : Nat) (Ty.pair (Ty.int .i64) (Ty.int .i64))))) true none false none, PK.mk (Ty.slice (3 : Nat) (Ty.int .i64)) false none false none]
noncomputable def ZcV (r : Bool) : Tup Z4P × OutD := ((r, ()), none)
noncomputable def ZcQ : Tup Z4P × OutD → Option (Bool)
 | (a, none) => some (a.1)
 | _ => none
theorem Zff : ∀ b r, ZcQ b = some r → ZcV r = b := by
 rintro ⟨a, o⟩ r h
 cases o with
 | none => injection h with h; subst h; rfl
 | some _ => cases h
noncomputable def Z3o : Nat → Int → Int → List (Int × Int) → List Int → Int → Int → Option (LR Unit Bool)
 | 0, _, _, _, _, _, _ => none
 | k + 1, b1_0, b1_1, b1_2, v15, v16, v17 =>
  if decide (v17 < v16) = true then if (0 : Int) ≤ v17 then if v17 < (↑(List.length v15) : Int) then if decide (List.getD v15 (Int.toNat v17) (0 : Int) < (0 : Int)) = true then some (LR.ret false) else if decide (List.getD v15 (Int.toNat v17) (0 : Int) ≥ b1_1) = true then some (LR.ret false) else Z3o k b1_0 b1_1 b1_2 v15 v16 (wrap64 (v17 + (1 : Int))) else none else none else some (LR.go ())
noncomputable def Zbu : Spec := Spec.mk [OSh.ro, OSh.box (53 : Nat) [Sh.int .i64, Sh.int .i64, Sh.snap (0 : Nat) (Ty.pair (Ty.int .i64) (Ty.int .i64))]] [((2 : Nat), TSh.at (Sh.ptr (1 : Nat) (0 : Nat))), ((15 : Nat), TSh.at (Sh.snap (0 : Nat) (Ty.int .i64))), ((16 : Nat), TSh.at (Sh.int .i64)), ((17 : Nat), TSh.at (Sh.int .i64))]
noncomputable def ZpZ : Spec := Spec.mk [OSh.ro] []
noncomputable def Z2L : LoopDef (Tup Z4P × OutD) := .rets Zbu ZpZ (Unit) (Bool) (fun k x => Z3o k x.1.2.1.1 x.1.2.1.2.1 x.1.2.1.2.2.1 x.2.2.1 x.2.2.2.1 x.2.2.2.2.1) (fun z => (((), ()), (()))) (fun y => ()) (fun _ => rfl) ZcV ZcQ Zff
noncomputable def Z6O : Nat → Int × Int × List (Int × Int) → List Int → Option Bool
 | 0, _, _ => none
 | k + 1, p0, p1 =>
  Option.bind (Z7d k (Prod.fst p0, Prod.fst p0.2, Prod.snd p0.2)) fun z0 => if (!z0) = true then some false else if decide ((↑(List.length p1) : Int) > (60 : Int)) = true then some false else Option.bind (Z3o k p0.1 p0.2.1 p0.2.2 p1 (↑(List.length p1) : Int) (0 : Int)) fun z1 => LR.on z1 (fun y1 => some true) fun r1 => some r1
noncomputable def Z1w : FnDef := .of ZiM Z4P (Bool) (fun k x => Z6O k x.1 x.2.1) ZcV ZcQ Zff
noncomputable def Zaj : Code := Try.f118.body.getD .skip
noncomputable def Z37 : Ctx (Tup Z4P × OutD) := { T := T, G := [(132, Z2n.E)], mvs := [], no := 0, n := 30, res := resOf T ZiM Z4P Try.f118.results.toList, loops := [(0, Z2L.E)], regs := [], conds := [] }
theorem Ziq (k : Nat) : EnvOK Try.prog k Z37.G := (EnvOK.cons (Zf9 k) (EnvOK.nil mixed))
noncomputable def Z7G : Code := (findLoop 0 Zaj).getD .skip
theorem ZpX (k : Nat) (x : Zbu.D) : Z2L.lp (k + 1) x = loopK Z37 Z2L 0 Z7G k x := by kernel_rfl
theorem Zq2 (k : Nat) : LOK Try.prog Z37 k Z7G := LOK.by [] (by kernel_rfl) AllOK.nil
theorem Zqh (x : Zbu.D) : Z2L.lp 0 x = none := by kernel_rfl
theorem ZoF (k : Nat) : EOK Try.prog Z37 k Z2L.E (.block 0 (.loop Z7G)) := Z7 T_ok Ziq Zqh ZpX Zq2 k
theorem Zws (k : Nat) (x : Tup Z1w.ps) : Z1w.f (k + 1) x = fnK Z1w Z37 Zaj k x := by kernel_rfl
theorem Zvx (x : Tup Z1w.ps) : Z1w.f 0 x = none := by kernel_rfl
theorem ZvL (k : Nat) : LOK Try.prog Z37 k Zaj := LOK.by [(Z2L.E, .block 0 (.loop Z7G))] (by kernel_rfl) (AllOK.cons (ZoF k) AllOK.nil)
theorem Zip (k : Nat) : SoundAt Try.prog k 118 Z1w.E := @Z4 Try.prog Z1w Z37 118 Try.f118 Zaj (by kernel_rfl) (by kernel_rfl) (by kernel_rfl) Try.func118 (by kernel_rfl) (by kernel_rfl) (by kernel_rfl) T_ok Ziq ZvL Zvx Zws k
noncomputable def Z5L : List PK := [PK.mk (Ty.slice (63 : Nat) (Ty.pair (Ty.int .i64) (Ty.pair (Ty.int .i64) (Ty.int .i64)))) false none false none, PK.mk (Ty.pair (Ty.int .i64) (Ty.pair (Ty.int .i64) (Ty.slice (79 : Nat) (Ty.pair (Ty.int .i64) (Ty.int .i64))))) true none false none]
noncomputable def ZjV : List PK := [PK.mk (Ty.pair (Ty.int .i64) (Ty.pair (Ty.int .i64) (Ty.slice (79 : Nat) (Ty.pair (Ty.int .i64) (Ty.int .i64))))) true none false none, PK.mk (Ty.slice (77 : Nat) (Ty.pair (Ty.int .i64) (Ty.pair (Ty.int .i64) (Ty.int .i64)))) false none false none, PK.mk (Ty.slice (3 : Nat) (Ty.int .i64)) false none false none]
noncomputable def ZiW (r : List (Int × Int × Int) × Int × Int × List (Int × Int)) : Tup Z5L × OutD := ((r.1, r.2, ()), none)
noncomputable def ZiA : Tup Z5L × OutD → Option (List (Int × Int × Int) × Int × Int × List (Int × Int))
 | (a, none) => some (a.1, a.2.1)
 | _ => none
theorem Zqe : ∀ b r, ZiA b = some r → ZiW r = b := by
 rintro ⟨a, o⟩ r h
 cases o with
 | none => injection h with h; subst h; rfl
 | some _ => cases h
noncomputable def Z3M : Nat → Int → Int → List (Int × Int) → Int → Int → List (Int × Int) → List Int → List Int → List (Int × Int × Int) → List Int → Int → Int → Option (Int × Int × List (Int × Int) × Int × Int × List (Int × Int) × List (Int × Int × Int))
 | 0, _, _, _, _, _, _, _, _, _, _, _, _ => none
 | k + 1, b1_0, b1_1, o2, b3_0, b3_1, o4, o5, o6, o7, v22, v23, v24 =>
  if decide (v24 < v23) = true then if (0 : Int) ≤ v24 then if v24 < (↑(List.length v22) : Int) then Option.bind (ZbB k (b3_0, b3_1, o4) o5 o6 (List.getD v22 (Int.toNat v24) (0 : Int))) fun z3 => if List.length o7 + List.length [(Prod.fst z3.1, Prod.fst z3.1.2, Prod.snd z3.1.2)] ≤ (140737488355328 / 24 : Nat) then Z3M k b1_0 b1_1 o2 b3_0 b3_1 z3.2 o5 o6 (o7 ++ [(Prod.fst z3.1, Prod.fst z3.1.2, Prod.snd z3.1.2)]) v22 v23 (wrap64 (v24 + (1 : Int))) else none else none else none else some (b1_0, b1_1, o2, b3_0, b3_1, o4, o7)
noncomputable def ZbU : Spec := Spec.mk [OSh.ro, OSh.box (53 : Nat) [Sh.int .i64, Sh.int .i64, Sh.sl (2 : Nat)], OSh.row true (79 : Nat) (Ty.pair (Ty.int .i64) (Ty.int .i64)), OSh.box (53 : Nat) [Sh.int .i64, Sh.int .i64, Sh.sl (4 : Nat)], OSh.row true (79 : Nat) (Ty.pair (Ty.int .i64) (Ty.int .i64)), OSh.row true (3 : Nat) (Ty.int .i64), OSh.row true (3 : Nat) (Ty.int .i64), OSh.row true (63 : Nat) (Ty.pair (Ty.int .i64) (Ty.pair (Ty.int .i64) (Ty.int .i64)))] [((7 : Nat), TSh.at (Sh.ptr (1 : Nat) (0 : Nat))), ((8 : Nat), TSh.at (Sh.ptr (3 : Nat) (0 : Nat))), ((9 : Nat), TSh.at (Sh.sl (5 : Nat))), ((10 : Nat), TSh.at (Sh.sl (6 : Nat))), ((11 : Nat), TSh.at (Sh.sl (7 : Nat))), ((22 : Nat), TSh.at (Sh.snap (0 : Nat) (Ty.int .i64))), ((23 : Nat), TSh.at (Sh.int .i64)), ((24 : Nat), TSh.at (Sh.int .i64))]
noncomputable def Zqr : Spec := Spec.mk [OSh.ro, OSh.box (53 : Nat) [Sh.int .i64, Sh.int .i64, Sh.sl (2 : Nat)], OSh.row true (79 : Nat) (Ty.pair (Ty.int .i64) (Ty.int .i64)), OSh.box (53 : Nat) [Sh.int .i64, Sh.int .i64, Sh.sl (4 : Nat)], OSh.row true (79 : Nat) (Ty.pair (Ty.int .i64) (Ty.int .i64)), OSh.row true (63 : Nat) (Ty.pair (Ty.int .i64) (Ty.pair (Ty.int .i64) (Ty.int .i64)))] [((7 : Nat), TSh.at (Sh.ptr (1 : Nat) (0 : Nat))), ((8 : Nat), TSh.at (Sh.ptr (3 : Nat) (0 : Nat))), ((11 : Nat), TSh.at (Sh.sl (5 : Nat)))]
noncomputable def Z3q : LoopDef (Tup Z5L × OutD) := .plain ZbU Zqr (Int × Int × List (Int × Int) × Int × Int × List (Int × Int) × List (Int × Int × Int)) (fun k x => Z3M k x.1.2.1.1 x.1.2.1.2.1 x.1.2.2.1 x.1.2.2.2.1.1 x.1.2.2.2.1.2.1 x.1.2.2.2.2.1 x.1.2.2.2.2.2.1 x.1.2.2.2.2.2.2.1 x.1.2.2.2.2.2.2.2.1 x.2.2.2.2.2.2.1 x.2.2.2.2.2.2.2.1 x.2.2.2.2.2.2.2.2.1) (fun z => (((), (z.1, z.2.1, (), ()), z.2.2.1, (z.2.2.2.1, z.2.2.2.2.1, (), ()), z.2.2.2.2.2.1, z.2.2.2.2.2.2, ()), ((), (), (), ()))) (fun y => (y.1.2.1.1, y.1.2.1.2.1, y.1.2.2.1, y.1.2.2.2.1.1, y.1.2.2.2.1.2.1, y.1.2.2.2.2.1, y.1.2.2.2.2.2.1)) (fun _ => rfl)
noncomputable def Z7T : Nat → Int × Int × List (Int × Int) → List (Int × Int × Int) → List Int → Option (List (Int × Int × Int) × Int × Int × List (Int × Int))
 | 0, _, _, _ => none
 | k + 1, p0, p1, p2 =>
  Option.bind (ZcE k (Prod.fst p0, Prod.fst p0.2, Prod.snd p0.2)) fun z0 => Option.bind (Zaq k (Prod.fst p0, Prod.fst p0.2, Prod.snd p0.2)) fun z1 => Option.bind (Zay k (Prod.fst p0, Prod.fst p0.2, Prod.snd p0.2) p1) fun z2 => Option.bind (Z3M k (0 : Int) (0 : Int) [] z0.1 z0.2.1 z0.2.2 z1 z2 [] p2 (↑(List.length p2) : Int) (0 : Int)) fun z4 => some (Prod.snd z4.2.2.2.2.2, Prod.fst z4.2.2.2, Prod.fst z4.2.2.2.2, Prod.fst z4.2.2.2.2.2)
noncomputable def Z1S : FnDef := .of ZjV Z5L (List (Int × Int × Int) × Int × Int × List (Int × Int)) (fun k x => Z7T k x.1 x.2.1 x.2.2.1) ZiW ZiA Zqe
noncomputable def ZaW : Code := Try.f120.body.getD .skip
noncomputable def Z3B : Ctx (Tup Z5L × OutD) := { T := T, G := [(127, Z3F.E), (128, Z29.E), (129, Z27.E), (126, Z32.E)], mvs := [], no := 0, n := 39, res := resOf T ZjV Z5L Try.f120.results.toList, loops := [(0, Z3q.E)], regs := [], conds := [] }
theorem ZjP (k : Nat) : EnvOK Try.prog k Z3B.G := (EnvOK.cons (ZC4 k) (EnvOK.cons (Zv6 k) (EnvOK.cons (Zv4 k) (EnvOK.cons (ZAg k) (EnvOK.nil mixed)))))
noncomputable def Z8g : Code := (findLoop 0 ZaW).getD .skip
theorem Zsf (k : Nat) (x : ZbU.D) : Z3q.lp (k + 1) x = loopK Z3B Z3q 0 Z8g k x := by kernel_rfl
theorem Zru (k : Nat) : LOK Try.prog Z3B k Z8g := LOK.by [] (by kernel_rfl) AllOK.nil
theorem Zrq (x : ZbU.D) : Z3q.lp 0 x = none := by kernel_rfl
theorem Zqc (k : Nat) : EOK Try.prog Z3B k Z3q.E (.block 0 (.loop Z8g)) := Z7 T_ok ZjP Zrq Zsf Zru k
theorem Zxc (k : Nat) (x : Tup Z1S.ps) : Z1S.f (k + 1) x = fnK Z1S Z3B ZaW k x := by kernel_rfl
theorem ZxT (x : Tup Z1S.ps) : Z1S.f 0 x = none := by kernel_rfl
theorem ZwD (k : Nat) : LOK Try.prog Z3B k ZaW := LOK.by [(Z3q.E, .block 0 (.loop Z8g))] (by kernel_rfl) (AllOK.cons (Zqc k) AllOK.nil)
theorem ZjY (k : Nat) : SoundAt Try.prog k 120 Z1S.E := @Z4 Try.prog Z1S Z3B 120 Try.f120 ZaW (by kernel_rfl) (by kernel_rfl) (by kernel_rfl) Try.func120 (by kernel_rfl) (by kernel_rfl) (by kernel_rfl) T_ok ZjP ZwD ZxT Zxc k
noncomputable def Za3 : List PK := [PK.mk (Ty.slice (63 : Nat) (Ty.pair (Ty.int .i64) (Ty.pair (Ty.int .i64) (Ty.int .i64)))) false none false none, PK.mk (Ty.pair (Ty.int .i64) (Ty.pair (Ty.int .i64) (Ty.slice (79 : Nat) (Ty.pair (Ty.int .i64) (Ty.int .i64))))) true none false none]
noncomputable def ZwK : List PK := [PK.mk (Ty.pair (Ty.int .i64) (Ty.pair (Ty.int .i64) (Ty.slice (79 : Nat) (Ty.pair (Ty.int .i64) (Ty.int .i64))))) true none false none, PK.mk (Ty.slice (77 : Nat) (Ty.pair (Ty.int .i64) (Ty.pair (Ty.int .i64) (Ty.int .i64)))) false none false none, PK.mk (Ty.slice (3 : Nat) (Ty.int .i64)) false none false none]
noncomputable def ZuH (r : List (Int × Int × Int) × Int × Int × List (Int × Int)) : Tup Za3 × OutD := ((r.1, r.2, ()), none)
noncomputable def Zu7 : Tup Za3 × OutD → Option (List (Int × Int × Int) × Int × Int × List (Int × Int))
 | (a, none) => some (a.1, a.2.1)
 | _ => none
theorem ZB5 : ∀ b r, Zu7 b = some r → ZuH r = b := by
 rintro ⟨a, o⟩ r h
 cases o with
 | none => injection h with h; subst h; rfl
 | some _ => cases h
noncomputable def Z5U : Nat → Int → Int → List (Int × Int) → Int → Int → List (Int × Int) → List (Int × Int × Int) → List Int → Option (Int × Int × List (Int × Int) × Int × Int × List (Int × Int) × List Int × List (Int × Int × Int) × List Int) := fun k b1_0 b1_1 b1_2 b2_0 b2_1 o3 v1 v2 =>
    Option.bind (Za2 k (b1_0, b1_1, b1_2)) fun z0 => Option.bind (Z67 k (b1_0, b1_1, b1_2)) fun z1 => some (b2_0, b2_1, o3, Prod.fst z0, Prod.fst z0.2, Prod.snd z0.2, z1, v1, v2)
noncomputable def ZcK : Nat → Int → Int → List (Int × Int) → Int → Int → List (Int × Int) → List (Int × Int × Int) → List Int → Option (List (Int × Int × List (Int × Int) × Int × Int × List (Int × Int) × List Int × List (Int × Int × Int) × List Int)) := fun k b1_0 b1_1 b1_2 b2_0 b2_1 o3 v1 v2 =>
    joinL (Option.bind (Za2 k (b1_0, b1_1, b1_2)) fun z2 => joinL (Option.bind (Z67 k (b1_0, b1_1, b1_2)) fun z3 => some [(b2_0, b2_1, o3, Prod.fst z2, Prod.fst z2.2, Prod.snd z2.2, z3, v1, v2)]) (Option.bind (Z67 k (b1_0, b1_1, b1_2)) fun z4 => some [(b2_0, b2_1, o3, Prod.fst z2, Prod.fst z2.2, Prod.snd z2.2, z4, v1, v2)])) (Option.bind (Za2 k (b1_0, b1_1, b1_2)) fun z5 => Option.bind (Z67 k (b1_0, b1_1, b1_2)) fun z6 => some [(b2_0, b2_1, o3, Prod.fst z5, Prod.fst z5.2, Prod.snd z5.2, z6, v1, v2)])
noncomputable def Znk : Spec := Spec.mk [OSh.ro, OSh.box (53 : Nat) [Sh.int .i64, Sh.int .i64, Sh.snap (0 : Nat) (Ty.pair (Ty.int .i64) (Ty.int .i64))], OSh.box (53 : Nat) [Sh.int .i64, Sh.int .i64, Sh.sl (3 : Nat)], OSh.row true (79 : Nat) (Ty.pair (Ty.int .i64) (Ty.int .i64))] [((1 : Nat), TSh.at (Sh.snap (0 : Nat) (Ty.pair (Ty.int .i64) (Ty.pair (Ty.int .i64) (Ty.int .i64))))), ((2 : Nat), TSh.at (Sh.snap (0 : Nat) (Ty.int .i64))), ((3 : Nat), TSh.at (Sh.ptr (1 : Nat) (0 : Nat))), ((7 : Nat), TSh.at (Sh.ptr (2 : Nat) (0 : Nat)))]
noncomputable def ZBe : Spec := Spec.mk [OSh.ro, OSh.box (53 : Nat) [Sh.int .i64, Sh.int .i64, Sh.sl (2 : Nat)], OSh.row true (79 : Nat) (Ty.pair (Ty.int .i64) (Ty.int .i64)), OSh.box (53 : Nat) [Sh.int .i64, Sh.int .i64, Sh.sl (4 : Nat)], OSh.row true (79 : Nat) (Ty.pair (Ty.int .i64) (Ty.int .i64)), OSh.row true (3 : Nat) (Ty.int .i64)] [((1 : Nat), TSh.at (Sh.snap (0 : Nat) (Ty.pair (Ty.int .i64) (Ty.pair (Ty.int .i64) (Ty.int .i64))))), ((2 : Nat), TSh.at (Sh.snap (0 : Nat) (Ty.int .i64))), ((7 : Nat), TSh.at (Sh.ptr (1 : Nat) (0 : Nat))), ((8 : Nat), TSh.at (Sh.ptr (3 : Nat) (0 : Nat))), ((9 : Nat), TSh.at (Sh.sl (5 : Nat)))]
noncomputable def Z6Z : LoopDef (Tup Za3 × OutD) := .plain Znk ZBe (Int × Int × List (Int × Int) × Int × Int × List (Int × Int) × List Int × List (Int × Int × Int) × List Int) (fun k x => Z5U k x.1.2.1.1 x.1.2.1.2.1 x.1.2.1.2.2.1 x.1.2.2.1.1 x.1.2.2.1.2.1 x.1.2.2.2.1 x.2.1 x.2.2.1) (fun z => (((), (z.1, z.2.1, (), ()), z.2.2.1, (z.2.2.2.1, z.2.2.2.2.1, (), ()), z.2.2.2.2.2.1, z.2.2.2.2.2.2.1, ()), (z.2.2.2.2.2.2.2.1, z.2.2.2.2.2.2.2.2, (), (), (), ()))) (fun y => (y.1.2.1.1, y.1.2.1.2.1, y.1.2.2.1, y.1.2.2.2.1.1, y.1.2.2.2.1.2.1, y.1.2.2.2.2.1, y.1.2.2.2.2.2.1, y.2.1, y.2.2.1)) (fun _ => rfl)
theorem ZBU (k : Nat) (b1_0 : Int) (b1_1 : Int) (b1_2 : List (Int × Int)) (b2_0 : Int) (b2_1 : Int) (o3 : List (Int × Int)) (v1 : List (Int × Int × Int)) (v2 : List Int) : ZcK k b1_0 b1_1 b1_2 b2_0 b2_1 o3 v1 v2 = repl 3 (Z5U k b1_0 b1_1 b1_2 b2_0 b2_1 o3 v1 v2) := by
 first
 | (simp only [ZcK, Z5U, Zz, ZT, Zx, Zy, Zw, Za, if_true]; done)
 | (simp only [ZcK, Z5U, Zz, ZT, Zx, Zy, Zw, Za, if_true]; simp only [Z2E, Z2G, Z5g, Za]; simp only [Z72]; exact Z3w ⟨fun h => by simp only [h, and_self], fun h => by simp only [h, and_self]⟩)
noncomputable def Z9L : Nat → Int → Int → List (Int × Int) → Int → Int → List (Int × Int) → List Int → List (Int × Int × Int) → List (Int × Int × Int) → List Int → Int → Int → Option (Int × Int × List (Int × Int) × Int × Int × List (Int × Int) × List (Int × Int × Int))
 | 0, _, _, _, _, _, _, _, _, _, _, _, _ => none
 | k + 1, b1_0, b1_1, o2, b3_0, b3_1, o4, o5, o6, v1, v19, v20, v21 =>
  if decide (v21 < v20) = true then if (0 : Int) ≤ v21 then if v21 < (↑(List.length v19) : Int) then Option.bind (Zjy k (b3_0, b3_1, o4) o5 v1 (List.getD v19 (Int.toNat v21) (0 : Int))) fun z8 => if List.length o6 + List.length [(Prod.fst z8.1, Prod.fst z8.1.2, Prod.snd z8.1.2)] ≤ (140737488355328 / 24 : Nat) then Z9L k b1_0 b1_1 o2 z8.2.1 z8.2.2.1 z8.2.2.2 o5 (o6 ++ [(Prod.fst z8.1, Prod.fst z8.1.2, Prod.snd z8.1.2)]) v1 v19 v20 (wrap64 (v21 + (1 : Int))) else none else none else none else some (b1_0, b1_1, o2, b3_0, b3_1, o4, o6)
noncomputable def Zhe : Spec := Spec.mk [OSh.ro, OSh.box (53 : Nat) [Sh.int .i64, Sh.int .i64, Sh.sl (2 : Nat)], OSh.row true (79 : Nat) (Ty.pair (Ty.int .i64) (Ty.int .i64)), OSh.box (53 : Nat) [Sh.int .i64, Sh.int .i64, Sh.sl (4 : Nat)], OSh.row true (79 : Nat) (Ty.pair (Ty.int .i64) (Ty.int .i64)), OSh.row true (3 : Nat) (Ty.int .i64), OSh.row true (63 : Nat) (Ty.pair (Ty.int .i64) (Ty.pair (Ty.int .i64) (Ty.int .i64)))] [((1 : Nat), TSh.at (Sh.snap (0 : Nat) (Ty.pair (Ty.int .i64) (Ty.pair (Ty.int .i64) (Ty.int .i64))))), ((7 : Nat), TSh.at (Sh.ptr (1 : Nat) (0 : Nat))), ((8 : Nat), TSh.at (Sh.ptr (3 : Nat) (0 : Nat))), ((9 : Nat), TSh.at (Sh.sl (5 : Nat))), ((10 : Nat), TSh.at (Sh.sl (6 : Nat))), ((19 : Nat), TSh.at (Sh.snap (0 : Nat) (Ty.int .i64))), ((20 : Nat), TSh.at (Sh.int .i64)), ((21 : Nat), TSh.at (Sh.int .i64))]
noncomputable def ZCG : Spec := Spec.mk [OSh.ro, OSh.box (53 : Nat) [Sh.int .i64, Sh.int .i64, Sh.sl (2 : Nat)], OSh.row true (79 : Nat) (Ty.pair (Ty.int .i64) (Ty.int .i64)), OSh.box (53 : Nat) [Sh.int .i64, Sh.int .i64, Sh.sl (4 : Nat)], OSh.row true (79 : Nat) (Ty.pair (Ty.int .i64) (Ty.int .i64)), OSh.row true (63 : Nat) (Ty.pair (Ty.int .i64) (Ty.pair (Ty.int .i64) (Ty.int .i64)))] [((7 : Nat), TSh.at (Sh.ptr (1 : Nat) (0 : Nat))), ((8 : Nat), TSh.at (Sh.ptr (3 : Nat) (0 : Nat))), ((10 : Nat), TSh.at (Sh.sl (5 : Nat)))]
noncomputable def Z8j : LoopDef (Tup Za3 × OutD) := .plain Zhe ZCG (Int × Int × List (Int × Int) × Int × Int × List (Int × Int) × List (Int × Int × Int)) (fun k x => Z9L k x.1.2.1.1 x.1.2.1.2.1 x.1.2.2.1 x.1.2.2.2.1.1 x.1.2.2.2.1.2.1 x.1.2.2.2.2.1 x.1.2.2.2.2.2.1 x.1.2.2.2.2.2.2.1 x.2.1 x.2.2.2.2.2.2.1 x.2.2.2.2.2.2.2.1 x.2.2.2.2.2.2.2.2.1) (fun z => (((), (z.1, z.2.1, (), ()), z.2.2.1, (z.2.2.2.1, z.2.2.2.2.1, (), ()), z.2.2.2.2.2.1, z.2.2.2.2.2.2, ()), ((), (), (), ()))) (fun y => (y.1.2.1.1, y.1.2.1.2.1, y.1.2.2.1, y.1.2.2.2.1.1, y.1.2.2.2.1.2.1, y.1.2.2.2.2.1, y.1.2.2.2.2.2.1)) (fun _ => rfl)
noncomputable def ZhP : Nat → Int × Int × List (Int × Int) → List (Int × Int × Int) → List Int → Option (List (Int × Int × Int) × Int × Int × List (Int × Int))
 | 0, _, _, _ => none
 | k + 1, p0, p1, p2 =>
  Option.bind (Z5U k p0.1 p0.2.1 p0.2.2 (0 : Int) (0 : Int) [] p1 p2) fun z7 => Option.bind (Z9L k z7.1 z7.2.1 z7.2.2.1 z7.2.2.2.1 z7.2.2.2.2.1 z7.2.2.2.2.2.1 z7.2.2.2.2.2.2.1 [] z7.2.2.2.2.2.2.2.1 z7.2.2.2.2.2.2.2.2 (↑(List.length z7.2.2.2.2.2.2.2.2) : Int) (0 : Int)) fun z9 => some (Prod.snd z9.2.2.2.2.2, Prod.fst z9.2.2.2, Prod.fst z9.2.2.2.2, Prod.fst z9.2.2.2.2.2)
noncomputable def Z7J : FnDef := .of ZwK Za3 (List (Int × Int × Int) × Int × Int × List (Int × Int)) (fun k x => ZhP k x.1 x.2.1 x.2.2.1) ZuH Zu7 ZB5
noncomputable def Zes : Code := Try.f123.body.getD .skip
noncomputable def Z2o : Ctx (Tup Za3 × OutD) := { T := T, G := [(184, Z61.E), (185, Z4s.E), (186, Z9w.E)], mvs := [], no := 0, n := 41, res := resOf T ZwK Za3 Try.f123.results.toList, loops := [(0, Z8j.E)], regs := [(1, Z6Z.E)], conds := [] }
theorem Zon (k : Nat) : EnvOK Try.prog k Z2o.G := (EnvOK.cons (ZwF k) (EnvOK.cons (ZDx k) (EnvOK.cons (ZI6 k) (EnvOK.nil mixed))))
noncomputable def ZgC : Array Oper := (findReg 1 Zes).getD #[]
theorem ZBk (k : Nat) (x : Znk.D) : execD Z2o.T Z2o.G Z2o.mvs k ZgC (Z6Z.inp.st Z2o.n x) (outK Z2o Z6Z) = ZcK k x.1.2.1.1 x.1.2.1.2.1 x.1.2.1.2.2.1 x.1.2.2.1.1 x.1.2.2.1.2.1 x.1.2.2.2.1 x.2.1 x.2.2.1 := by kernel_rfl
theorem Zzu (k : Nat) : EOK Try.prog Z2o k Z6Z.E (.region 1 ZgC true) := Z9Z (D := Z6Z) (m := 3) T_ok (Zon k) (fun x => (ZBk k x).trans (ZBU k x.1.2.1.1 x.1.2.1.2.1 x.1.2.1.2.2.1 x.1.2.2.1.1 x.1.2.2.1.2.1 x.1.2.2.2.1 x.2.1 x.2.2.1))
noncomputable def Ze8 : Code := (findLoop 0 Zes).getD .skip
theorem ZCN (k : Nat) (x : Zhe.D) : Z8j.lp (k + 1) x = loopK Z2o Z8j 0 Ze8 k x := by kernel_rfl
theorem ZDz (k : Nat) : LOK Try.prog Z2o k Ze8 := LOK.by [] (by kernel_rfl) AllOK.nil
theorem ZDZ (x : Zhe.D) : Z8j.lp 0 x = none := by kernel_rfl
theorem ZBE (k : Nat) : EOK Try.prog Z2o k Z8j.E (.block 0 (.loop Ze8)) := Z7 T_ok Zon ZDZ ZCN ZDz k
theorem ZHp (k : Nat) (x : Tup Z7J.ps) : Z7J.f (k + 1) x = fnK Z7J Z2o Zes k x := by kernel_rfl
theorem ZGM (x : Tup Z7J.ps) : Z7J.f 0 x = none := by kernel_rfl
theorem ZGS (k : Nat) : LOK Try.prog Z2o k Zes := LOK.by [(Z6Z.E, .region 1 ZgC true), (Z8j.E, .block 0 (.loop Ze8))] (by kernel_rfl) (AllOK.cons (Zzu k) (AllOK.cons (ZBE k) AllOK.nil))
theorem ZGL (k : Nat) : SoundAt Try.prog k 123 Z7J.E := @Z4 Try.prog Z7J Z2o 123 Try.f123 Zes (by kernel_rfl) (by kernel_rfl) (by kernel_rfl) Try.func123 (by kernel_rfl) (by kernel_rfl) (by kernel_rfl) T_ok Zon ZGS ZGM ZHp k
noncomputable def Z2f : List PK := [PK.mk (Ty.slice (77 : Nat) (Ty.pair (Ty.int .i64) (Ty.pair (Ty.int .i64) (Ty.int .i64)))) false none false none]
noncomputable def ZgP : List PK := [PK.mk (Ty.pair (Ty.int .i64) (Ty.pair (Ty.int .i64) (Ty.slice (79 : Nat) (Ty.pair (Ty.int .i64) (Ty.int .i64))))) true none false none]
noncomputable def ZfN (r : List (Int × Int × Int)) : Tup Z2f × OutD := ((r, ()), none)
noncomputable def ZfW : Tup Z2f × OutD → Option (List (Int × Int × Int))
 | (a, none) => some (a.1)
 | _ => none
theorem Zmx : ∀ b r, ZfW b = some r → ZfN r = b := by
 rintro ⟨a, o⟩ r h
 cases o with
 | none => injection h with h; subst h; rfl
 | some _ => cases h
noncomputable def Z16 : Nat → Int → Int → List (Int × Int) → List (Int × Int × Int) → Int → Int → Int → Int → List (Int × Int) → Int → Int → Option (Int × Int × List (Int × Int) × List (Int × Int × Int) × List (Int × Int) × Int × Int)
 | 0, _, _, _, _, _, _, _, _, _, _, _ => none
 | k + 1, b1_0, b1_1, b1_2, o2, b3_0, b3_1, v4, v6, v9, v10, v11 =>
  if decide (v6 ≤ (3 : Int)) = true then Option.bind (Zch k (b3_0, b3_1) v6) fun z0 => if z0 = true then if b1_1 = (0 : Int) then none else if b1_1 = (0 : Int) then none else if List.length o2 + List.length [(v6, wrap64 (Int.tdiv v4 b1_1), Int.tmod v4 b1_1)] ≤ (140737488355328 / 24 : Nat) then Z16 k b1_0 b1_1 b1_2 (o2 ++ [(v6, wrap64 (Int.tdiv v4 b1_1), Int.tmod v4 b1_1)]) b3_0 b3_1 v4 (wrap64 (v6 + (1 : Int))) v9 v10 v11 else none else Z16 k b1_0 b1_1 b1_2 o2 b3_0 b3_1 v4 (wrap64 (v6 + (1 : Int))) v9 v10 v11 else some (b1_0, b1_1, b1_2, o2, v9, v10, v11)
noncomputable def Z9Q : Spec := Spec.mk [OSh.ro, OSh.box (53 : Nat) [Sh.int .i64, Sh.int .i64, Sh.snap (0 : Nat) (Ty.pair (Ty.int .i64) (Ty.int .i64))], OSh.row true (77 : Nat) (Ty.pair (Ty.int .i64) (Ty.pair (Ty.int .i64) (Ty.int .i64))), OSh.box (79 : Nat) [Sh.int .i64, Sh.int .i64]] [((1 : Nat), TSh.at (Sh.ptr (1 : Nat) (0 : Nat))), ((3 : Nat), TSh.at (Sh.sl (2 : Nat))), ((4 : Nat), TSh.at (Sh.int .i64)), ((5 : Nat), TSh.at (Sh.ptr (3 : Nat) (0 : Nat))), ((6 : Nat), TSh.at (Sh.int .i64)), ((9 : Nat), TSh.at (Sh.snap (0 : Nat) (Ty.pair (Ty.int .i64) (Ty.int .i64)))), ((10 : Nat), TSh.at (Sh.int .i64)), ((11 : Nat), TSh.at (Sh.int .i64))]
noncomputable def ZmX : Spec := Spec.mk [OSh.ro, OSh.box (53 : Nat) [Sh.int .i64, Sh.int .i64, Sh.snap (0 : Nat) (Ty.pair (Ty.int .i64) (Ty.int .i64))], OSh.row true (77 : Nat) (Ty.pair (Ty.int .i64) (Ty.pair (Ty.int .i64) (Ty.int .i64)))] [((1 : Nat), TSh.at (Sh.ptr (1 : Nat) (0 : Nat))), ((3 : Nat), TSh.at (Sh.sl (2 : Nat))), ((9 : Nat), TSh.at (Sh.snap (0 : Nat) (Ty.pair (Ty.int .i64) (Ty.int .i64)))), ((10 : Nat), TSh.at (Sh.int .i64)), ((11 : Nat), TSh.at (Sh.int .i64))]
noncomputable def Z2i : LoopDef (Tup Z2f × OutD) := .plain Z9Q ZmX (Int × Int × List (Int × Int) × List (Int × Int × Int) × List (Int × Int) × Int × Int) (fun k x => Z16 k x.1.2.1.1 x.1.2.1.2.1 x.1.2.1.2.2.1 x.1.2.2.1 x.1.2.2.2.1.1 x.1.2.2.2.1.2.1 x.2.2.2.1 x.2.2.2.2.2.1 x.2.2.2.2.2.2.1 x.2.2.2.2.2.2.2.1 x.2.2.2.2.2.2.2.2.1) (fun z => (((), (z.1, z.2.1, z.2.2.1, ()), z.2.2.2.1, ()), ((), (), z.2.2.2.2.1, z.2.2.2.2.2.1, z.2.2.2.2.2.2, ()))) (fun y => (y.1.2.1.1, y.1.2.1.2.1, y.1.2.1.2.2.1, y.1.2.2.1, y.2.2.2.1, y.2.2.2.2.1, y.2.2.2.2.2.1)) (fun _ => rfl)
noncomputable def Z1L : Nat → Int → Int → List (Int × Int) → List (Int × Int × Int) → List (Int × Int) → Int → Int → Option (List (Int × Int × Int))
 | 0, _, _, _, _, _, _, _ => none
 | k + 1, b1_0, b1_1, b1_2, o2, v9, v10, v11 =>
  if decide (v11 < v10) = true then if (0 : Int) ≤ v11 then if v11 < (↑(List.length v9) : Int) then Option.bind (Z16 k b1_0 b1_1 b1_2 o2 (Prod.fst (List.getD v9 (Int.toNat v11) ((0 : Int), (0 : Int)))) (Prod.snd (List.getD v9 (Int.toNat v11) ((0 : Int), (0 : Int)))) v11 (1 : Int) v9 v10 v11) fun z1 => Z1L k z1.1 z1.2.1 z1.2.2.1 z1.2.2.2.1 z1.2.2.2.2.1 z1.2.2.2.2.2.1 (wrap64 (Prod.snd z1.2.2.2.2.2 + (1 : Int))) else none else none else some o2
noncomputable def Z9Y : Spec := Spec.mk [OSh.ro, OSh.box (53 : Nat) [Sh.int .i64, Sh.int .i64, Sh.snap (0 : Nat) (Ty.pair (Ty.int .i64) (Ty.int .i64))], OSh.row true (77 : Nat) (Ty.pair (Ty.int .i64) (Ty.pair (Ty.int .i64) (Ty.int .i64)))] [((1 : Nat), TSh.at (Sh.ptr (1 : Nat) (0 : Nat))), ((3 : Nat), TSh.at (Sh.sl (2 : Nat))), ((9 : Nat), TSh.at (Sh.snap (0 : Nat) (Ty.pair (Ty.int .i64) (Ty.int .i64)))), ((10 : Nat), TSh.at (Sh.int .i64)), ((11 : Nat), TSh.at (Sh.int .i64))]
noncomputable def Znm : Spec := Spec.mk [OSh.ro, OSh.row true (77 : Nat) (Ty.pair (Ty.int .i64) (Ty.pair (Ty.int .i64) (Ty.int .i64)))] [((3 : Nat), TSh.at (Sh.sl (1 : Nat)))]
noncomputable def Z2g : LoopDef (Tup Z2f × OutD) := .plain Z9Y Znm (List (Int × Int × Int)) (fun k x => Z1L k x.1.2.1.1 x.1.2.1.2.1 x.1.2.1.2.2.1 x.1.2.2.1 x.2.2.2.1 x.2.2.2.2.1 x.2.2.2.2.2.1) (fun z => (((), z, ()), ((), ()))) (fun y => (y.1.2.1)) (fun _ => rfl)
noncomputable def Z8r : Nat → Int × Int × List (Int × Int) → Option (List (Int × Int × Int))
 | 0, _ => none
 | k + 1, p0 =>
  Option.bind (Z1L k p0.1 p0.2.1 p0.2.2 [] p0.2.2 (↑(List.length p0.2.2) : Int) (0 : Int)) fun z2 => some z2
noncomputable def Z1A : FnDef := .of ZgP Z2f (List (Int × Int × Int)) (fun k x => Z8r k x.1) ZfN ZfW Zmx
noncomputable def Z5t : Code := Try.f147.body.getD .skip
noncomputable def Z12 : Ctx (Tup Z2f × OutD) := { T := T, G := [(181, Z42.E)], mvs := [], no := 0, n := 38, res := resOf T ZgP Z2f Try.f147.results.toList, loops := [(2, Z2i.E), (0, Z2g.E)], regs := [], conds := [] }
theorem Zcd (k : Nat) : EnvOK Try.prog k Z12.G := (EnvOK.cons (Zrn k) (EnvOK.nil mixed))
noncomputable def Z60 : Code := (findLoop 2 Z5t).getD .skip
theorem Zni (k : Nat) (x : Z9Q.D) : Z2i.lp (k + 1) x = loopK Z12 Z2i 2 Z60 k x := by kernel_rfl
theorem ZnA (k : Nat) : LOK Try.prog Z12 k Z60 := LOK.by [] (by kernel_rfl) AllOK.nil
theorem Zol (x : Z9Q.D) : Z2i.lp 0 x = none := by kernel_rfl
theorem Zms (k : Nat) : EOK Try.prog Z12 k Z2i.E (.block 2 (.loop Z60)) := Z7 T_ok Zcd Zol Zni ZnA k
noncomputable def Z5X : Code := (findLoop 0 Z5t).getD .skip
theorem ZnD (k : Nat) (x : Z9Y.D) : Z2g.lp (k + 1) x = loopK Z12 Z2g 0 Z5X k x := by kernel_rfl
theorem Znn (k : Nat) : LOK Try.prog Z12 k Z5X := LOK.by [(Z2i.E, .block 2 (.loop Z60))] (by kernel_rfl) (AllOK.cons (Zms k) AllOK.nil)
theorem Zn5 (x : Z9Y.D) : Z2g.lp 0 x = none := by kernel_rfl
theorem ZmA (k : Nat) : EOK Try.prog Z12 k Z2g.E (.block 0 (.loop Z5X)) := Z7 T_ok Zcd Zn5 ZnD Znn k
theorem ZqS (k : Nat) (x : Tup Z1A.ps) : Z1A.f (k + 1) x = fnK Z1A Z12 Z5t k x := by kernel_rfl
theorem Zrm (x : Tup Z1A.ps) : Z1A.f 0 x = none := by kernel_rfl
theorem Zqu (k : Nat) : LOK Try.prog Z12 k Z5t := LOK.by [(Z2g.E, .block 0 (.loop Z5X))] (by kernel_rfl) (AllOK.cons (ZmA k) AllOK.nil)
theorem ZqM (k : Nat) : SoundAt Try.prog k 147 Z1A.E := @Z4 Try.prog Z1A Z12 147 Try.f147 Z5t (by kernel_rfl) (by kernel_rfl) (by kernel_rfl) Try.func147 (by kernel_rfl) (by kernel_rfl) (by kernel_rfl) T_ok Zcd Zqu Zrm ZqS k
noncomputable def Z5H : List PK := [PK.mk (Ty.slice (77 : Nat) (Ty.pair (Ty.int .i64) (Ty.pair (Ty.int .i64) (Ty.int .i64)))) false none false none]
noncomputable def Zh9 : List PK := [PK.mk (Ty.pair (Ty.slice (5 : Nat) (Ty.int .u8)) (Ty.pair (Ty.int .i64) (Ty.int .u64))) false none false (some (114 : Nat)), PK.mk (Ty.pair (Ty.int .i64) (Ty.pair (Ty.int .i64) (Ty.slice (79 : Nat) (Ty.pair (Ty.int .i64) (Ty.int .i64))))) true none false none]
noncomputable def ZfZ (r : List (Int × Int × Int) × Int × Int) : Tup Z5H × OutD := ((r.1, ()), some ⟨Ty.pair (Ty.slice (5 : Nat) (Ty.int .u8)) (Ty.pair (Ty.int .i64) (Ty.int .u64)), [([], r.2)]⟩)
noncomputable def Zbs : Tup Z5H × OutD → Option (List (Int × Int × Int) × Int × Int)
 | (a, some ⟨u, ys⟩) => if h : u = Ty.pair (Ty.slice (5 : Nat) (Ty.int .u8)) (Ty.pair (Ty.int .i64) (Ty.int .u64)) then (match castU h ys with
  | [([], y)] => some (a.1, y)
  | _ => none) else none
 | _ => none
theorem Zmq : ∀ b r, Zbs b = some r → ZfZ r = b := by
 rintro ⟨a, o⟩ r h
 cases o with
 | none => cases h
 | some s =>
  obtain ⟨u, ys⟩ := s
  simp only [Zbs] at h
  split at h
  ·rename_i hu
   subst hu
   match ys, h with
   | [], h => cases (show (none : Option _) = some r from h)
   | [([], y)], h => injection (show some _ = some r from h) with h; subst h; rfl
   | [(_ :: _, y)], h => cases (show (none : Option _) = some r from h)
   | (h1, _) :: _ :: _, h => cases h1 <;> cases (show (none : Option _) = some r from h)
  ·cases h
noncomputable def Z8 : Nat → List Int × Int × Int → Int × Int × List (Int × Int) → Option (List (Int × Int × Int) × Int × Int)
 | 0, _, _ => none
 | k + 1, p0, p1 =>
  Option.bind (ZaJ k (Prod.fst p1, Prod.fst p1.2, Prod.snd p1.2)) fun z0 => if (!z0) = true then some ([], Prod.fst p0.2, Prod.snd p0.2) else Option.bind (Z6r k (Prod.fst p1, Prod.fst p1.2, Prod.snd p1.2)) fun z1 => Option.bind (Z1 k (Prod.fst p0, Prod.fst p0.2, Prod.snd p0.2) (6 : Int)) fun z2 => if decide (Prod.fst z2 = (0 : Int)) = true then some ([], Prod.fst z2.2, Prod.snd z2.2) else if decide (Prod.fst z2 = (1 : Int)) = true then Option.bind (Z1 k (Prod.fst p0, Prod.fst z2.2, Prod.snd z2.2) (↑(List.length z1) : Int)) fun z3 => if (0 : Int) ≤ Prod.fst z3 then if Prod.fst z3 < (↑(List.length z1) : Int) then Option.bind (Z1 k (Prod.fst p0, Prod.fst z3.2, Prod.snd z3.2) (↑(List.length z1) : Int)) fun z4 => if (0 : Int) ≤ Prod.fst z4 then if Prod.fst z4 < (↑(List.length z1) : Int) then some ([(Prod.fst (List.getD z1 (Int.toNat z3.1) ((0 : Int), (0 : Int), (0 : Int))), Prod.fst (Prod.snd (List.getD z1 (Int.toNat z3.1) ((0 : Int), (0 : Int), (0 : Int)))), Prod.snd (Prod.snd (List.getD z1 (Int.toNat z3.1) ((0 : Int), (0 : Int), (0 : Int))))), (Prod.fst (List.getD z1 (Int.toNat z4.1) ((0 : Int), (0 : Int), (0 : Int))), Prod.fst (Prod.snd (List.getD z1 (Int.toNat z4.1) ((0 : Int), (0 : Int), (0 : Int)))), Prod.snd (Prod.snd (List.getD z1 (Int.toNat z4.1) ((0 : Int), (0 : Int), (0 : Int)))))], Prod.fst z4.2, Prod.snd z4.2) else none else none else none else none else Option.bind (Z1 k (Prod.fst p0, Prod.fst z2.2, Prod.snd z2.2) (↑(List.length z1) : Int)) fun z5 => if (0 : Int) ≤ Prod.fst z5 then if Prod.fst z5 < (↑(List.length z1) : Int) then some ([(Prod.fst (List.getD z1 (Int.toNat z5.1) ((0 : Int), (0 : Int), (0 : Int))), Prod.fst (Prod.snd (List.getD z1 (Int.toNat z5.1) ((0 : Int), (0 : Int), (0 : Int)))), Prod.snd (Prod.snd (List.getD z1 (Int.toNat z5.1) ((0 : Int), (0 : Int), (0 : Int)))))], Prod.fst z5.2, Prod.snd z5.2) else none else none
noncomputable def Z15 : FnDef := .of Zh9 Z5H (List (Int × Int × Int) × Int × Int) (fun k x => Z8 k x.1 x.2.1) ZfZ Zbs Zmq
noncomputable def Zc6 : Code := Try.f163.body.getD .skip
noncomputable def Z8i : Ctx (Tup Z5H × OutD) := { T := T, G := [(133, Z3L.E), (148, Z1J.E), (111, Zm.E)], mvs := [], no := 2, n := 44, res := resOf T Zh9 Z5H Try.f163.results.toList, loops := [], regs := [], conds := [] }
theorem Zs7 (k : Nat) : EnvOK Try.prog k Z8i.G := (EnvOK.cons (Zlg k) (EnvOK.cons (ZfC k) (EnvOK.cons (Z1n k) (EnvOK.nil mixed))))
theorem Zr3 (k : Nat) (x : Tup Z15.ps) : Z15.f (k + 1) x = fnK Z15 Z8i Zc6 k x := by kernel_rfl
theorem ZqU (x : Tup Z15.ps) : Z15.f 0 x = none := by kernel_rfl
theorem ZqE (k : Nat) : LOK Try.prog Z8i k Zc6 := LOK.by [] (by kernel_rfl) AllOK.nil
theorem Zce (k : Nat) : SoundAt Try.prog k 163 Z15.E := @Z4 Try.prog Z15 Z8i 163 Try.f163 Zc6 (by kernel_rfl) (by kernel_rfl) (by kernel_rfl) Try.func163 (by kernel_rfl) (by kernel_rfl) (by kernel_rfl) T_ok Zs7 ZqE ZqU Zr3 k
noncomputable def Zdg : List PK := [PK.mk Ty.bool false none false none]
noncomputable def ZuO : List PK := [PK.mk (Ty.pair (Ty.int .i64) (Ty.pair (Ty.int .i64) (Ty.slice (79 : Nat) (Ty.pair (Ty.int .i64) (Ty.int .i64))))) true none false none]
noncomputable def Zsc (r : Bool) : Tup Zdg × OutD := ((r, ()), none)
noncomputable def Zrr : Tup Zdg × OutD → Option (Bool)
 | (a, none) => some (a.1)
 | _ => none
theorem ZA3 : ∀ b r, Zrr b = some r → Zsc r = b := by
 rintro ⟨a, o⟩ r h
 cases o with
 | none => injection h with h; subst h; rfl
 | some _ => cases h
noncomputable def Zdp : Nat → Int × Int × List (Int × Int) → Option Bool
 | 0, _ => none
 | k + 1, p0 =>
  Option.bind (ZaJ k (Prod.fst p0, Prod.fst p0.2, Prod.snd p0.2)) fun z0 => if z0 = true then some (decide ((↑(List.length p0.2.2) : Int) ≤ (30 : Int))) else some false
noncomputable def Z54 : FnDef := .of ZuO Zdg (Bool) (fun k x => Zdp k x.1) Zsc Zrr ZA3
noncomputable def ZkN : Code := Try.f169.body.getD .skip
noncomputable def Zg6 : Ctx (Tup Zdg × OutD) := { T := T, G := [(133, Z3L.E)], mvs := [], no := 0, n := 11, res := resOf T ZuO Zdg Try.f169.results.toList, loops := [], regs := [], conds := [] }
theorem ZG4 (k : Nat) : EnvOK Try.prog k Zg6.G := (EnvOK.cons (Zlg k) (EnvOK.nil mixed))
theorem ZFq (k : Nat) (x : Tup Z54.ps) : Z54.f (k + 1) x = fnK Z54 Zg6 ZkN k x := by kernel_rfl
theorem ZFr (x : Tup Z54.ps) : Z54.f 0 x = none := by kernel_rfl
theorem ZFO (k : Nat) : LOK Try.prog Zg6 k ZkN := LOK.by [] (by kernel_rfl) AllOK.nil
theorem Zus (k : Nat) : SoundAt Try.prog k 169 Z54.E := @Z4 Try.prog Z54 Zg6 169 Try.f169 ZkN (by kernel_rfl) (by kernel_rfl) (by kernel_rfl) Try.func169 (by kernel_rfl) (by kernel_rfl) (by kernel_rfl) T_ok ZG4 ZFO ZFr ZFq k
noncomputable def Zc2 : List PK := [PK.mk Ty.bool false none false none]
noncomputable def ZqD : List PK := [PK.mk (Ty.pair (Ty.int .i64) (Ty.pair (Ty.int .i64) (Ty.slice (79 : Nat) (Ty.pair (Ty.int .i64) (Ty.int .i64))))) true none false none, PK.mk (Ty.int .i64) false none false none, PK.mk (Ty.int .i64) false none false none]
noncomputable def Zp9 (r : Bool) : Tup Zc2 × OutD := ((r, ()), none)
noncomputable def ZoZ : Tup Zc2 × OutD → Option (Bool)
 | (a, none) => some (a.1)
 | _ => none
theorem ZxA : ∀ b r, ZoZ b = some r → Zp9 r = b := by
 rintro ⟨a, o⟩ r h
 cases o with
 | none => injection h with h; subst h; rfl
 | some _ => cases h
noncomputable def Zf8 : Nat → Int × Int × List (Int × Int) → Int → Int → Option Bool
 | 0, _, _, _ => none
 | k + 1, p0, p1, p2 =>
  Option.bind (Z7d k (Prod.fst p0, Prod.fst p0.2, Prod.snd p0.2)) fun z0 => if z0 = true then if decide (p1 ≥ (0 : Int)) = true then if decide (p1 < Prod.fst p0) = true then if decide (p2 ≥ (0 : Int)) = true then some (decide (p2 < Prod.fst p0.2)) else some false else some false else some false else some false
noncomputable def Z5u : FnDef := .of ZqD Zc2 (Bool) (fun k x => Zf8 k x.1 x.2.1 x.2.2.1) Zp9 ZoZ ZxA
noncomputable def Zj8 : Code := Try.f180.body.getD .skip
noncomputable def Zfa : Ctx (Tup Zc2 × OutD) := { T := T, G := [(132, Z2n.E)], mvs := [], no := 0, n := 29, res := resOf T ZqD Zc2 Try.f180.results.toList, loops := [], regs := [], conds := [] }
theorem ZEY (k : Nat) : EnvOK Try.prog k Zfa.G := (EnvOK.cons (Zf9 k) (EnvOK.nil mixed))
theorem ZF1 (k : Nat) (x : Tup Z5u.ps) : Z5u.f (k + 1) x = fnK Z5u Zfa Zj8 k x := by kernel_rfl
theorem ZEG (x : Tup Z5u.ps) : Z5u.f 0 x = none := by kernel_rfl
theorem ZEz (k : Nat) : LOK Try.prog Zfa k Zj8 := LOK.by [] (by kernel_rfl) AllOK.nil
theorem ZEV (k : Nat) : SoundAt Try.prog k 180 Z5u.E := @Z4 Try.prog Z5u Zfa 180 Try.f180 Zj8 (by kernel_rfl) (by kernel_rfl) (by kernel_rfl) Try.func180 (by kernel_rfl) (by kernel_rfl) (by kernel_rfl) T_ok ZEY ZEz ZEG ZF1 k
noncomputable def Z3X : List PK := [PK.mk (Ty.pair (Ty.int .i64) (Ty.pair (Ty.int .i64) (Ty.slice (79 : Nat) (Ty.pair (Ty.int .i64) (Ty.int .i64))))) true none false none]
noncomputable def Zhg : List PK := [PK.mk (Ty.pair (Ty.slice (5 : Nat) (Ty.int .u8)) (Ty.pair (Ty.int .i64) (Ty.int .u64))) false none false (some (114 : Nat)), PK.mk (Ty.int .i64) false none false none, PK.mk (Ty.int .i64) false none false none]
noncomputable def ZgT (r : (Int × Int × List (Int × Int)) × Int × Int) : Tup Z3X × OutD := ((r.1, ()), some ⟨Ty.pair (Ty.slice (5 : Nat) (Ty.int .u8)) (Ty.pair (Ty.int .i64) (Ty.int .u64)), [([], r.2)]⟩)
noncomputable def ZbW : Tup Z3X × OutD → Option ((Int × Int × List (Int × Int)) × Int × Int)
 | (a, some ⟨u, ys⟩) => if h : u = Ty.pair (Ty.slice (5 : Nat) (Ty.int .u8)) (Ty.pair (Ty.int .i64) (Ty.int .u64)) then (match castU h ys with
  | [([], y)] => some (a.1, y)
  | _ => none) else none
 | _ => none
theorem ZnQ : ∀ b r, ZbW b = some r → ZgT r = b := by
 rintro ⟨a, o⟩ r h
 cases o with
 | none => cases h
 | some s =>
  obtain ⟨u, ys⟩ := s
  simp only [ZbW] at h
  split at h
  ·rename_i hu
   subst hu
   match ys, h with
   | [], h => cases (show (none : Option _) = some r from h)
   | [([], y)], h => injection (show some _ = some r from h) with h; subst h; rfl
   | [(_ :: _, y)], h => cases (show (none : Option _) = some r from h)
   | (h1, _) :: _ :: _, h => cases h1 <;> cases (show (none : Option _) = some r from h)
  ·cases h
noncomputable def Zc : Nat → Int → Int → List Int → Int → Int → List (Int × Int) → Int → Int → List (Int × Int) → Int → Int → Int → Option (Int × Int × List Int × Int × Int × List (Int × Int) × Int × Int × List (Int × Int))
 | 0, _, _, _, _, _, _, _, _, _, _, _, _ => none
 | k + 1, b1_1, b1_2, o2, b3_0, b3_1, o4, b5_0, b5_1, o6, v1, v2, v8 =>
  if decide ((↑(List.length o6) : Int) < wrap64 (v1 * v2)) = true then Option.bind (ZO k (o2, b1_1, b1_2) v8) fun z1 => if Prod.fst z1 = true then Option.bind (Z4j k (o2, Prod.fst z1.2, Prod.snd z1.2)) fun z2 => if decide (Prod.fst z2.1 = (5 : Int)) = true then Option.bind (ZO k (o2, Prod.fst z2.2, Prod.snd z2.2) (3 : Int)) fun z3 => if (!Prod.fst z3) = true then Option.bind (Z1 k (o2, Prod.fst z3.2, Prod.snd z3.2) (2 : Int)) fun z4 => if List.length o6 + List.length [((3 : Int), Prod.fst z4)] ≤ (140737488355328 / 16 : Nat) then Zc k z4.2.1 z4.2.2 o2 b3_0 b3_1 o4 b5_0 b5_1 (o6 ++ [((3 : Int), Prod.fst z4)]) v1 v2 v8 else none else if List.length o6 + List.length [(Prod.fst z2.1, Prod.snd z2.1)] ≤ (140737488355328 / 16 : Nat) then Zc k z3.2.1 z3.2.2 o2 b3_0 b3_1 o4 b5_0 b5_1 (o6 ++ [(Prod.fst z2.1, Prod.snd z2.1)]) v1 v2 v8 else none else if List.length o6 + List.length [(Prod.fst z2.1, Prod.snd z2.1)] ≤ (140737488355328 / 16 : Nat) then Zc k z2.2.1 z2.2.2 o2 b3_0 b3_1 o4 b5_0 b5_1 (o6 ++ [(Prod.fst z2.1, Prod.snd z2.1)]) v1 v2 v8 else none else Option.bind (ZO k (o2, Prod.fst z1.2, Prod.snd z1.2) (3 : Int)) fun z5 => if Prod.fst z5 = true then Option.bind (Z4j k (o2, Prod.fst z5.2, Prod.snd z5.2)) fun z6 => if decide (Prod.fst z6.1 = (5 : Int)) = true then Option.bind (ZO k (o2, Prod.fst z6.2, Prod.snd z6.2) (3 : Int)) fun z7 => if (!Prod.fst z7) = true then Option.bind (Z1 k (o2, Prod.fst z7.2, Prod.snd z7.2) (2 : Int)) fun z8 => if List.length o6 + List.length [((3 : Int), Prod.fst z8)] ≤ (140737488355328 / 16 : Nat) then Zc k z8.2.1 z8.2.2 o2 b3_0 b3_1 o4 b5_0 b5_1 (o6 ++ [((3 : Int), Prod.fst z8)]) v1 v2 v8 else none else if List.length o6 + List.length [(Prod.fst z6.1, Prod.snd z6.1)] ≤ (140737488355328 / 16 : Nat) then Zc k z7.2.1 z7.2.2 o2 b3_0 b3_1 o4 b5_0 b5_1 (o6 ++ [(Prod.fst z6.1, Prod.snd z6.1)]) v1 v2 v8 else none else if List.length o6 + List.length [(Prod.fst z6.1, Prod.snd z6.1)] ≤ (140737488355328 / 16 : Nat) then Zc k z6.2.1 z6.2.2 o2 b3_0 b3_1 o4 b5_0 b5_1 (o6 ++ [(Prod.fst z6.1, Prod.snd z6.1)]) v1 v2 v8 else none else if List.length o6 + List.length [((0 : Int), (0 : Int))] ≤ (140737488355328 / 16 : Nat) then Zc k z5.2.1 z5.2.2 o2 b3_0 b3_1 o4 b5_0 b5_1 (o6 ++ [((0 : Int), (0 : Int))]) v1 v2 v8 else none else some (b1_1, b1_2, o2, b3_0, b3_1, o4, b5_0, b5_1, o6)
noncomputable def ZaA : Spec := Spec.mk [OSh.ro, OSh.box (114 : Nat) [Sh.sl (2 : Nat), Sh.int .i64, Sh.int .u64], OSh.fx (Ty.int .u8), OSh.box (53 : Nat) [Sh.int .i64, Sh.int .i64, Sh.sl (4 : Nat)], OSh.row true (79 : Nat) (Ty.pair (Ty.int .i64) (Ty.int .i64)), OSh.box (53 : Nat) [Sh.int .i64, Sh.int .i64, Sh.sl (6 : Nat)], OSh.row true (79 : Nat) (Ty.pair (Ty.int .i64) (Ty.int .i64))] [((0 : Nat), TSh.at (Sh.ptr (1 : Nat) (0 : Nat))), ((1 : Nat), TSh.at (Sh.int .i64)), ((2 : Nat), TSh.at (Sh.int .i64)), ((6 : Nat), TSh.at (Sh.ptr (3 : Nat) (0 : Nat))), ((7 : Nat), TSh.at (Sh.ptr (5 : Nat) (0 : Nat))), ((8 : Nat), TSh.at (Sh.int .i64))]
noncomputable def Zop : Spec := Spec.mk [OSh.ro, OSh.box (114 : Nat) [Sh.sl (2 : Nat), Sh.int .i64, Sh.int .u64], OSh.fx (Ty.int .u8), OSh.box (53 : Nat) [Sh.int .i64, Sh.int .i64, Sh.sl (4 : Nat)], OSh.row true (79 : Nat) (Ty.pair (Ty.int .i64) (Ty.int .i64)), OSh.box (53 : Nat) [Sh.int .i64, Sh.int .i64, Sh.sl (6 : Nat)], OSh.row true (79 : Nat) (Ty.pair (Ty.int .i64) (Ty.int .i64))] [((6 : Nat), TSh.at (Sh.ptr (3 : Nat) (0 : Nat))), ((7 : Nat), TSh.at (Sh.ptr (5 : Nat) (0 : Nat)))]
noncomputable def Z2w : LoopDef (Tup Z3X × OutD) := .plain ZaA Zop (Int × Int × List Int × Int × Int × List (Int × Int) × Int × Int × List (Int × Int)) (fun k x => Zc k x.1.2.1.2.1 x.1.2.1.2.2.1 x.1.2.2.1 x.1.2.2.2.1.1 x.1.2.2.2.1.2.1 x.1.2.2.2.2.1 x.1.2.2.2.2.2.1.1 x.1.2.2.2.2.2.1.2.1 x.1.2.2.2.2.2.2.1 x.2.2.1 x.2.2.2.1 x.2.2.2.2.2.2.1) (fun z => (((), ((), z.1, z.2.1, ()), z.2.2.1, (z.2.2.2.1, z.2.2.2.2.1, (), ()), z.2.2.2.2.2.1, (z.2.2.2.2.2.2.1, z.2.2.2.2.2.2.2.1, (), ()), z.2.2.2.2.2.2.2.2, ()), ((), (), ()))) (fun y => (y.1.2.1.2.1, y.1.2.1.2.2.1, y.1.2.2.1, y.1.2.2.2.1.1, y.1.2.2.2.1.2.1, y.1.2.2.2.2.1, y.1.2.2.2.2.2.1.1, y.1.2.2.2.2.2.1.2.1, y.1.2.2.2.2.2.2.1)) (fun _ => rfl)
noncomputable def Z1o : Nat → List Int × Int × Int → Int → Int → Option ((Int × Int × List (Int × Int)) × Int × Int)
 | 0, _, _, _ => none
 | k + 1, p0, p1, p2 =>
  Option.bind (Zh k (Prod.fst p0, Prod.fst p0.2, Prod.snd p0.2) [(1 : Int), (2 : Int), (2 : Int)]) fun z0 => Option.bind (Zc k z0.2.1 z0.2.2 p0.1 (0 : Int) (0 : Int) [] p1 p2 [] p1 p2 z0.1) fun z9 => some ((Prod.fst z9.2.2.2.2.2.2, Prod.fst z9.2.2.2.2.2.2.2, Prod.snd z9.2.2.2.2.2.2.2), Prod.fst z9, Prod.fst z9.2)
noncomputable def Z1d : FnDef := .of Zhg Z3X ((Int × Int × List (Int × Int)) × Int × Int) (fun k x => Z1o k x.1 x.2.1 x.2.2.1) ZgT ZbW ZnQ
noncomputable def Z9g : Code := Try.f197.body.getD .skip
noncomputable def Z2F : Ctx (Tup Z3X × OutD) := { T := T, G := [(90, ZQ.E), (150, Z1u.E), (205, Z2c.E), (111, Zm.E)], mvs := [], no := 2, n := 51, res := resOf T Zhg Z3X Try.f197.results.toList, loops := [(0, Z2w.E)], regs := [], conds := [] }
theorem ZhQ (k : Nat) : EnvOK Try.prog k Z2F.G := (EnvOK.cons (Z5D k) (EnvOK.cons (ZcG k) (EnvOK.cons (ZlQ k) (EnvOK.cons (Z1n k) (EnvOK.nil mixed)))))
noncomputable def Z6K : Code := (findLoop 0 Z9g).getD .skip
theorem Zow (k : Nat) (x : ZaA.D) : Z2w.lp (k + 1) x = loopK Z2F Z2w 0 Z6K k x := by kernel_rfl
theorem ZoK (k : Nat) : LOK Try.prog Z2F k Z6K := LOK.by [] (by kernel_rfl) AllOK.nil
theorem ZoB (x : ZaA.D) : Z2w.lp 0 x = none := by kernel_rfl
theorem ZmJ (k : Nat) : EOK Try.prog Z2F k Z2w.E (.block 0 (.loop Z6K)) := Z7 T_ok ZhQ ZoB Zow ZoK k
theorem Zu2 (k : Nat) (x : Tup Z1d.ps) : Z1d.f (k + 1) x = fnK Z1d Z2F Z9g k x := by kernel_rfl
theorem ZsW (x : Tup Z1d.ps) : Z1d.f 0 x = none := by kernel_rfl
theorem ZtS (k : Nat) : LOK Try.prog Z2F k Z9g := LOK.by [(Z2w.E, .block 0 (.loop Z6K))] (by kernel_rfl) (AllOK.cons (ZmJ k) AllOK.nil)
theorem Zdd (k : Nat) : SoundAt Try.prog k 197 Z1d.E := @Z4 Try.prog Z1d Z2F 197 Try.f197 Z9g (by kernel_rfl) (by kernel_rfl) (by kernel_rfl) Try.func197 (by kernel_rfl) (by kernel_rfl) (by kernel_rfl) T_ok ZhQ ZtS ZsW Zu2 k
noncomputable def Z69 : List PK := [PK.mk (Ty.pair (Ty.int .i64) (Ty.int .i64)) true none false none]
noncomputable def Zhs : List PK := [PK.mk (Ty.pair (Ty.slice (5 : Nat) (Ty.int .u8)) (Ty.pair (Ty.int .i64) (Ty.int .u64))) false none false (some (114 : Nat))]
noncomputable def Zh8 (r : (Int × Int) × Int × Int) : Tup Z69 × OutD := ((r.1, ()), some ⟨Ty.pair (Ty.slice (5 : Nat) (Ty.int .u8)) (Ty.pair (Ty.int .i64) (Ty.int .u64)), [([], r.2)]⟩)
noncomputable def Zcn : Tup Z69 × OutD → Option ((Int × Int) × Int × Int)
 | (a, some ⟨u, ys⟩) => if h : u = Ty.pair (Ty.slice (5 : Nat) (Ty.int .u8)) (Ty.pair (Ty.int .i64) (Ty.int .u64)) then (match castU h ys with
  | [([], y)] => some (a.1, y)
  | _ => none) else none
 | _ => none
theorem Zn3 : ∀ b r, Zcn b = some r → Zh8 r = b := by
 rintro ⟨a, o⟩ r h
 cases o with
 | none => cases h
 | some s =>
  obtain ⟨u, ys⟩ := s
  simp only [Zcn] at h
  split at h
  ·rename_i hu
   subst hu
   match ys, h with
   | [], h => cases (show (none : Option _) = some r from h)
   | [([], y)], h => injection (show some _ = some r from h) with h; subst h; rfl
   | [(_ :: _, y)], h => cases (show (none : Option _) = some r from h)
   | (h1, _) :: _ :: _, h => cases h1 <;> cases (show (none : Option _) = some r from h)
  ·cases h
noncomputable def Z1p : Nat → List Int × Int × Int → Option ((Int × Int) × Int × Int)
 | 0, _ => none
 | k + 1, p0 =>
  Option.bind (Z4j k (Prod.fst p0, Prod.fst p0.2, Prod.snd p0.2)) fun z0 => Option.bind (Z1 k (Prod.fst p0, Prod.fst z0.2, Prod.snd z0.2) (20 : Int)) fun z1 => if decide (Prod.fst z1 = (0 : Int)) = true then Option.bind (Zh k (Prod.fst p0, Prod.fst z1.2, Prod.snd z1.2) [(-1 : Int), (8 : Int)]) fun z2 => some ((Prod.fst z2, Prod.snd z0.1), Prod.fst z2.2, Prod.snd z2.2) else if decide (Prod.fst z1 = (1 : Int)) = true then Option.bind (Zh k (Prod.fst p0, Prod.fst z1.2, Prod.snd z1.2) [(-1 : Int), (1 : Int), (2 : Int)]) fun z3 => some ((Prod.fst z0.1, Prod.fst z3), Prod.fst z3.2, Prod.snd z3.2) else some ((Prod.fst z0.1, Prod.snd z0.1), Prod.fst z1.2, Prod.snd z1.2)
noncomputable def Z1T : FnDef := .of Zhs Z69 ((Int × Int) × Int × Int) (fun k x => Z1p k x.1) Zh8 Zcn Zn3
noncomputable def Zdb : Code := Try.f203.body.getD .skip
noncomputable def Z9m : Ctx (Tup Z69 × OutD) := { T := T, G := [(205, Z2c.E), (111, Zm.E), (90, ZQ.E)], mvs := [], no := 2, n := 21, res := resOf T Zhs Z69 Try.f203.results.toList, loops := [], regs := [], conds := [] }
theorem Zt4 (k : Nat) : EnvOK Try.prog k Z9m.G := (EnvOK.cons (ZlQ k) (EnvOK.cons (Z1n k) (EnvOK.cons (Z5D k) (EnvOK.nil mixed))))
theorem Zu5 (k : Nat) (x : Tup Z1T.ps) : Z1T.f (k + 1) x = fnK Z1T Z9m Zdb k x := by kernel_rfl
theorem ZtF (x : Tup Z1T.ps) : Z1T.f 0 x = none := by kernel_rfl
theorem Ztg (k : Nat) : LOK Try.prog Z9m k Zdb := LOK.by [] (by kernel_rfl) AllOK.nil
theorem Zu1 (k : Nat) : SoundAt Try.prog k 203 Z1T.E := @Z4 Try.prog Z1T Z9m 203 Try.f203 Zdb (by kernel_rfl) (by kernel_rfl) (by kernel_rfl) Try.func203 (by kernel_rfl) (by kernel_rfl) (by kernel_rfl) T_ok Zt4 Ztg ZtF Zu5 k
end
end Go.Proofs.Ytgjmhbjdhihgaaa.Vs

set_option maxRecDepth 100000
set_option maxHeartbeats 2000000
set_option linter.unusedVariables false
set_option linter.unusedSimpArgs false
namespace Go.Proofs.Ytgjmhbjdhihgaaa.Vs
open Go.RowKit
noncomputable section
noncomputable def Zb6 : List PK := [PK.mk Ty.bool false none false none, PK.mk Ty.bool false none false none]
noncomputable def Zpc : List PK := [PK.mk (Ty.pair (Ty.int .i64) (Ty.pair (Ty.int .i64) (Ty.slice (79 : Nat) (Ty.pair (Ty.int .i64) (Ty.int .i64))))) true none false none, PK.mk (Ty.slice (34 : Nat) (Ty.slice (3 : Nat) (Ty.int .i64))) false none false none]
noncomputable def Zo4 (r : Bool × Bool) : Tup Zb6 × OutD := ((r.1, r.2, ()), none)
noncomputable def Zod : Tup Zb6 × OutD → Option (Bool × Bool)
 | (a, none) => some (a.1, a.2.1)
 | _ => none
theorem Zvh : ∀ b r, Zod b = some r → Zo4 r = b := by
 rintro ⟨a, o⟩ r h
 cases o with
 | none => injection h with h; subst h; rfl
 | some _ => cases h
noncomputable def ZdY : Nat → Int × Int × List (Int × Int) → List (List Int) → Option (Bool × Bool)
 | 0, _, _ => none
 | k + 1, p0, p1 =>
  Option.bind (Zdp k (Prod.fst p0, Prod.fst p0.2, Prod.snd p0.2)) fun z0 => if (!z0) = true then some (false, false) else Option.bind (Zc8 k (Prod.fst p0, Prod.fst p0.2, Prod.snd p0.2) p1) fun z1 => some (z1, true)
noncomputable def Z4w : FnDef := .of Zpc Zb6 (Bool × Bool) (fun k x => ZdY k x.1 x.2.1) Zo4 Zod Zvh
noncomputable def Zhx : Code := Try.f85.body.getD .skip
noncomputable def Zeb : Ctx (Tup Zb6 × OutD) := { T := T, G := [(169, Z54.E), (170, Z46.E)], mvs := [], no := 0, n := 12, res := resOf T Zpc Zb6 Try.f85.results.toList, loops := [], regs := [], conds := [] }
theorem ZCy (k : Nat) : EnvOK Try.prog k Zeb.G := (EnvOK.cons (Zus k) (EnvOK.cons (Zsd k) (EnvOK.nil mixed)))
theorem ZE1 (k : Nat) (x : Tup Z4w.ps) : Z4w.f (k + 1) x = fnK Z4w Zeb Zhx k x := by kernel_rfl
theorem ZCw (x : Tup Z4w.ps) : Z4w.f 0 x = none := by kernel_rfl
theorem ZDm (k : Nat) : LOK Try.prog Zeb k Zhx := LOK.by [] (by kernel_rfl) AllOK.nil
theorem ZCQ (k : Nat) : SoundAt Try.prog k 85 Z4w.E := @Z4 Try.prog Z4w Zeb 85 Try.f85 Zhx (by kernel_rfl) (by kernel_rfl) (by kernel_rfl) Try.func85 (by kernel_rfl) (by kernel_rfl) (by kernel_rfl) T_ok ZCy ZDm ZCw ZE1 k
noncomputable def Z7i : List PK := [PK.mk Ty.bool false none false none]
noncomputable def ZnX : List PK := [PK.mk (Ty.pair (Ty.int .i64) (Ty.pair (Ty.int .i64) (Ty.slice (79 : Nat) (Ty.pair (Ty.int .i64) (Ty.int .i64))))) true none false none, PK.mk (Ty.slice (77 : Nat) (Ty.pair (Ty.int .i64) (Ty.pair (Ty.int .i64) (Ty.int .i64)))) false none false none]
noncomputable def ZfI (r : Bool) : Tup Z7i × OutD := ((r, ()), none)
noncomputable def Zft : Tup Z7i × OutD → Option (Bool)
 | (a, none) => some (a.1)
 | _ => none
theorem Zi2 : ∀ b r, Zft b = some r → ZfI r = b := by
 rintro ⟨a, o⟩ r h
 cases o with
 | none => injection h with h; subst h; rfl
 | some _ => cases h
noncomputable def Z5I : Nat → Int → Int → List (Int × Int) → Int → List (Int × Int × Int) → Int → Int → Option (LR Unit Bool)
 | 0, _, _, _, _, _, _, _ => none
 | k + 1, b1_0, b1_1, b1_2, v5, v12, v13, v14 =>
  if decide (v14 < v13) = true then if (0 : Int) ≤ v14 then if v14 < (↑(List.length v12) : Int) then Option.bind (Zf8 k (b1_0, b1_1, b1_2) (Prod.fst (Prod.snd (List.getD v12 (Int.toNat v14) ((0 : Int), (0 : Int), (0 : Int))))) (Prod.snd (Prod.snd (List.getD v12 (Int.toNat v14) ((0 : Int), (0 : Int), (0 : Int)))))) fun z0 => if (!z0) = true then some (LR.ret false) else if decide (wrap64 (wrap64 (Prod.fst (Prod.snd (List.getD v12 (Int.toNat v14) ((0 : Int), (0 : Int), (0 : Int)))) * b1_1) + Prod.snd (Prod.snd (List.getD v12 (Int.toNat v14) ((0 : Int), (0 : Int), (0 : Int))))) ≤ v5) = true then some (LR.ret false) else if (0 : Int) ≤ wrap64 (wrap64 (Prod.fst (Prod.snd (List.getD v12 (Int.toNat v14) ((0 : Int), (0 : Int), (0 : Int)))) * b1_1) + Prod.snd (Prod.snd (List.getD v12 (Int.toNat v14) ((0 : Int), (0 : Int), (0 : Int))))) then if wrap64 (wrap64 (Prod.fst (Prod.snd (List.getD v12 (Int.toNat v14) ((0 : Int), (0 : Int), (0 : Int)))) * b1_1) + Prod.snd (Prod.snd (List.getD v12 (Int.toNat v14) ((0 : Int), (0 : Int), (0 : Int))))) < (↑(List.length b1_2) : Int) then Option.bind (Zch k (Prod.fst (List.getD b1_2 (Int.toNat (wrap64 (wrap64 (Prod.fst (Prod.snd (List.getD v12 (Int.toNat v14) ((0 : Int), (0 : Int), (0 : Int)))) * b1_1) + Prod.snd (Prod.snd (List.getD v12 (Int.toNat v14) ((0 : Int), (0 : Int), (0 : Int))))))) ((0 : Int), (0 : Int))), Prod.snd (List.getD b1_2 (Int.toNat (wrap64 (wrap64 (Prod.fst (Prod.snd (List.getD v12 (Int.toNat v14) ((0 : Int), (0 : Int), (0 : Int)))) * b1_1) + Prod.snd (Prod.snd (List.getD v12 (Int.toNat v14) ((0 : Int), (0 : Int), (0 : Int))))))) ((0 : Int), (0 : Int)))) (Prod.fst (List.getD v12 (Int.toNat v14) ((0 : Int), (0 : Int), (0 : Int))))) fun z1 => if (!z1) = true then some (LR.ret false) else Z5I k b1_0 b1_1 b1_2 (wrap64 (wrap64 (Prod.fst (Prod.snd (List.getD v12 (Int.toNat v14) ((0 : Int), (0 : Int), (0 : Int)))) * b1_1) + Prod.snd (Prod.snd (List.getD v12 (Int.toNat v14) ((0 : Int), (0 : Int), (0 : Int)))))) v12 v13 (wrap64 (v14 + (1 : Int))) else none else none else none else none else some (LR.go ())
noncomputable def ZdP : Spec := Spec.mk [OSh.ro, OSh.box (53 : Nat) [Sh.int .i64, Sh.int .i64, Sh.snap (0 : Nat) (Ty.pair (Ty.int .i64) (Ty.int .i64))]] [((2 : Nat), TSh.at (Sh.ptr (1 : Nat) (0 : Nat))), ((5 : Nat), TSh.at (Sh.int .i64)), ((12 : Nat), TSh.at (Sh.snap (0 : Nat) (Ty.pair (Ty.int .i64) (Ty.pair (Ty.int .i64) (Ty.int .i64))))), ((13 : Nat), TSh.at (Sh.int .i64)), ((14 : Nat), TSh.at (Sh.int .i64))]
noncomputable def Zwe : Spec := Spec.mk [OSh.ro] []
noncomputable def Z4K : LoopDef (Tup Z7i × OutD) := .rets ZdP Zwe (Unit) (Bool) (fun k x => Z5I k x.1.2.1.1 x.1.2.1.2.1 x.1.2.1.2.2.1 x.2.2.1 x.2.2.2.1 x.2.2.2.2.1 x.2.2.2.2.2.1) (fun z => (((), ()), (()))) (fun y => ()) (fun _ => rfl) ZfI Zft Zi2
noncomputable def Z5c : Nat → Int × Int × List (Int × Int) → List (Int × Int × Int) → Option Bool
 | 0, _, _ => none
 | k + 1, p0, p1 =>
  if decide ((↑(List.length p1) : Int) > (4 : Int)) = true then some false else Option.bind (Z5I k p0.1 p0.2.1 p0.2.2 (-1 : Int) p1 (↑(List.length p1) : Int) (0 : Int)) fun z2 => LR.on z2 (fun y2 => some true) fun r2 => some r2
noncomputable def Z1W : FnDef := .of ZnX Z7i (Bool) (fun k x => Z5c k x.1 x.2.1) ZfI Zft Zi2
noncomputable def Zd5 : Code := Try.f119.body.getD .skip
noncomputable def Z5j : Ctx (Tup Z7i × OutD) := { T := T, G := [(180, Z5u.E), (181, Z42.E)], mvs := [], no := 0, n := 49, res := resOf T ZnX Z7i Try.f119.results.toList, loops := [(0, Z4K.E)], regs := [], conds := [] }
theorem Zoh (k : Nat) : EnvOK Try.prog k Z5j.G := (EnvOK.cons (ZEV k) (EnvOK.cons (Zrn k) (EnvOK.nil mixed)))
noncomputable def Zaz : Code := (findLoop 0 Zd5).getD .skip
theorem Zv1 (k : Nat) (x : ZdP.D) : Z4K.lp (k + 1) x = loopK Z5j Z4K 0 Zaz k x := by kernel_rfl
theorem Zwj (k : Nat) : LOK Try.prog Z5j k Zaz := LOK.by [] (by kernel_rfl) AllOK.nil
theorem Zwm (x : ZdP.D) : Z4K.lp 0 x = none := by kernel_rfl
theorem Zto (k : Nat) : EOK Try.prog Z5j k Z4K.E (.block 0 (.loop Zaz)) := Z7 T_ok Zoh Zwm Zv1 Zwj k
theorem ZBK (k : Nat) (x : Tup Z1W.ps) : Z1W.f (k + 1) x = fnK Z1W Z5j Zd5 k x := by kernel_rfl
theorem ZBi (x : Tup Z1W.ps) : Z1W.f 0 x = none := by kernel_rfl
theorem ZB9 (k : Nat) : LOK Try.prog Z5j k Zd5 := LOK.by [(Z4K.E, .block 0 (.loop Zaz))] (by kernel_rfl) (AllOK.cons (Zto k) AllOK.nil)
theorem Zgv (k : Nat) : SoundAt Try.prog k 119 Z1W.E := @Z4 Try.prog Z1W Z5j 119 Try.f119 Zd5 (by kernel_rfl) (by kernel_rfl) (by kernel_rfl) Try.func119 (by kernel_rfl) (by kernel_rfl) (by kernel_rfl) T_ok Zoh ZB9 ZBi ZBK k
noncomputable def Z7Y : List PK := [PK.mk Ty.bool false none false none]
noncomputable def ZoS : List PK := [PK.mk (Ty.pair (Ty.int .i64) (Ty.pair (Ty.int .i64) (Ty.slice (79 : Nat) (Ty.pair (Ty.int .i64) (Ty.int .i64))))) true none false none, PK.mk (Ty.slice (34 : Nat) (Ty.slice (3 : Nat) (Ty.int .i64))) false none false none]
noncomputable def ZgG (r : Bool) : Tup Z7Y × OutD := ((r, ()), none)
noncomputable def Zgz : Tup Z7Y × OutD → Option (Bool)
 | (a, none) => some (a.1)
 | _ => none
theorem Zir : ∀ b r, Zgz b = some r → ZgG r = b := by
 rintro ⟨a, o⟩ r h
 cases o with
 | none => injection h with h; subst h; rfl
 | some _ => cases h
noncomputable def Z6p : Nat → Int → Int → List (Int × Int) → List (List Int) → Int → Int → Option (LR Unit Bool)
 | 0, _, _, _, _, _, _ => none
 | k + 1, b1_0, b1_1, b1_2, v21, v22, v23 =>
  if decide (v23 < v22) = true then if (0 : Int) ≤ v23 then if v23 < (↑(List.length v21) : Int) then if decide ((↑(List.length (List.getD v21 (Int.toNat v23) [])) : Int) > (8 : Int)) = true then some (LR.ret false) else Option.bind (Z6O k (b1_0, b1_1, b1_2) (List.getD v21 (Int.toNat v23) [])) fun z1 => if (!z1) = true then some (LR.ret false) else Z6p k b1_0 b1_1 b1_2 v21 v22 (wrap64 (v23 + (1 : Int))) else none else none else some (LR.go ())
noncomputable def ZeO : Spec := Spec.mk [OSh.ro, OSh.box (53 : Nat) [Sh.int .i64, Sh.int .i64, Sh.snap (0 : Nat) (Ty.pair (Ty.int .i64) (Ty.int .i64))]] [((2 : Nat), TSh.at (Sh.ptr (1 : Nat) (0 : Nat))), ((21 : Nat), TSh.at (Sh.snap (0 : Nat) (Ty.slice (3 : Nat) (Ty.int .i64)))), ((22 : Nat), TSh.at (Sh.int .i64)), ((23 : Nat), TSh.at (Sh.int .i64))]
noncomputable def Zyg : Spec := Spec.mk [OSh.ro] []
noncomputable def Z5p : LoopDef (Tup Z7Y × OutD) := .rets ZeO Zyg (Unit) (Bool) (fun k x => Z6p k x.1.2.1.1 x.1.2.1.2.1 x.1.2.1.2.2.1 x.2.2.1 x.2.2.2.1 x.2.2.2.2.1) (fun z => (((), ()), (()))) (fun y => ()) (fun _ => rfl) ZgG Zgz Zir
noncomputable def Z3k : Nat → Int × Int × List (Int × Int) → List (List Int) → Option Bool
 | 0, _, _ => none
 | k + 1, p0, p1 =>
  Option.bind (Z7d k (Prod.fst p0, Prod.fst p0.2, Prod.snd p0.2)) fun z0 => if (!z0) = true then some false else if decide ((↑(List.length p0.2.2) : Int) > (30 : Int)) = true then some false else if decide ((↑(List.length p1) : Int) > (10 : Int)) = true then some false else Option.bind (Z6p k p0.1 p0.2.1 p0.2.2 p1 (↑(List.length p1) : Int) (0 : Int)) fun z2 => LR.on z2 (fun y2 => some true) fun r2 => some r2
noncomputable def Z1f : FnDef := .of ZoS Z7Y (Bool) (fun k x => Z3k k x.1 x.2.1) ZgG Zgz Zir
noncomputable def Zea : Code := Try.f151.body.getD .skip
noncomputable def Z5Y : Ctx (Tup Z7Y × OutD) := { T := T, G := [(132, Z2n.E), (118, Z1w.E)], mvs := [], no := 0, n := 37, res := resOf T ZoS Z7Y Try.f151.results.toList, loops := [(0, Z5p.E)], regs := [], conds := [] }
theorem Zpk (k : Nat) : EnvOK Try.prog k Z5Y.G := (EnvOK.cons (Zf9 k) (EnvOK.cons (Zip k) (EnvOK.nil mixed)))
noncomputable def ZaZ : Code := (findLoop 0 Zea).getD .skip
theorem Zyf (k : Nat) (x : ZeO.D) : Z5p.lp (k + 1) x = loopK Z5Y Z5p 0 ZaZ k x := by kernel_rfl
theorem Zx8 (k : Nat) : LOK Try.prog Z5Y k ZaZ := LOK.by [] (by kernel_rfl) AllOK.nil
theorem Zy6 (x : ZeO.D) : Z5p.lp 0 x = none := by kernel_rfl
theorem Zvg (k : Nat) : EOK Try.prog Z5Y k Z5p.E (.block 0 (.loop ZaZ)) := Z7 T_ok Zpk Zy6 Zyf Zx8 k
theorem ZE5 (k : Nat) (x : Tup Z1f.ps) : Z1f.f (k + 1) x = fnK Z1f Z5Y Zea k x := by kernel_rfl
theorem ZDe (x : Tup Z1f.ps) : Z1f.f 0 x = none := by kernel_rfl
theorem ZDF (k : Nat) : LOK Try.prog Z5Y k Zea := LOK.by [(Z5p.E, .block 0 (.loop ZaZ))] (by kernel_rfl) (AllOK.cons (Zvg k) AllOK.nil)
theorem Z8t (k : Nat) : SoundAt Try.prog k 151 Z1f.E := @Z4 Try.prog Z1f Z5Y 151 Try.f151 Zea (by kernel_rfl) (by kernel_rfl) (by kernel_rfl) Try.func151 (by kernel_rfl) (by kernel_rfl) (by kernel_rfl) T_ok Zpk ZDF ZDe ZE5 k
noncomputable def Zc7 : List PK := [PK.mk Ty.bool false none false none]
noncomputable def Zre : List PK := [PK.mk (Ty.pair (Ty.int .i64) (Ty.pair (Ty.int .i64) (Ty.slice (79 : Nat) (Ty.pair (Ty.int .i64) (Ty.int .i64))))) true none false none, PK.mk (Ty.slice (34 : Nat) (Ty.slice (3 : Nat) (Ty.int .i64))) false none false none]
noncomputable def Zpi (r : Bool) : Tup Zc7 × OutD := ((r, ()), none)
noncomputable def Zph : Tup Zc7 × OutD → Option (Bool)
 | (a, none) => some (a.1)
 | _ => none
theorem Zwx : ∀ b r, Zph b = some r → Zpi r = b := by
 rintro ⟨a, o⟩ r h
 cases o with
 | none => injection h with h; subst h; rfl
 | some _ => cases h
noncomputable def Z4a : Nat → Int × Int × List (Int × Int) → List (List Int) → Option Bool
 | 0, _, _ => none
 | k + 1, p0, p1 =>
  Option.bind (Zdp k (Prod.fst p0, Prod.fst p0.2, Prod.snd p0.2)) fun z0 => if z0 = true then Option.bind (Zc8 k (Prod.fst p0, Prod.fst p0.2, Prod.snd p0.2) p1) fun z1 => some z1 else some false
noncomputable def Z1q : FnDef := .of Zre Zc7 (Bool) (fun k x => Z4a k x.1 x.2.1) Zpi Zph Zwx
noncomputable def Zjm : Code := Try.f155.body.getD .skip
noncomputable def ZeZ : Ctx (Tup Zc7 × OutD) := { T := T, G := [(169, Z54.E), (170, Z46.E)], mvs := [], no := 0, n := 12, res := resOf T Zre Zc7 Try.f155.results.toList, loops := [], regs := [], conds := [] }
theorem ZEj (k : Nat) : EnvOK Try.prog k ZeZ.G := (EnvOK.cons (Zus k) (EnvOK.cons (Zsd k) (EnvOK.nil mixed)))
theorem ZEX (k : Nat) (x : Tup Z1q.ps) : Z1q.f (k + 1) x = fnK Z1q ZeZ Zjm k x := by kernel_rfl
theorem ZF2 (x : Tup Z1q.ps) : Z1q.f 0 x = none := by kernel_rfl
theorem ZEh (k : Nat) : LOK Try.prog ZeZ k Zjm := LOK.by [] (by kernel_rfl) AllOK.nil
theorem Z9H (k : Nat) : SoundAt Try.prog k 155 Z1q.E := @Z4 Try.prog Z1q ZeZ 155 Try.f155 Zjm (by kernel_rfl) (by kernel_rfl) (by kernel_rfl) Try.func155 (by kernel_rfl) (by kernel_rfl) (by kernel_rfl) T_ok ZEj ZEh ZF2 ZEX k
noncomputable def Z8a : List PK := [PK.mk (Ty.slice (57 : Nat) (Ty.slice (63 : Nat) (Ty.pair (Ty.int .i64) (Ty.pair (Ty.int .i64) (Ty.int .i64))))) false none false none]
noncomputable def Zpf : List PK := [PK.mk (Ty.pair (Ty.int .i64) (Ty.pair (Ty.int .i64) (Ty.slice (79 : Nat) (Ty.pair (Ty.int .i64) (Ty.int .i64))))) true none false none, PK.mk (Ty.slice (77 : Nat) (Ty.pair (Ty.int .i64) (Ty.pair (Ty.int .i64) (Ty.int .i64)))) false none false none, PK.mk (Ty.slice (34 : Nat) (Ty.slice (3 : Nat) (Ty.int .i64))) false none false none]
noncomputable def ZnP (r : List (List (Int × Int × Int))) : Tup Z8a × OutD := ((r, ()), none)
noncomputable def Zn4 : Tup Z8a × OutD → Option (List (List (Int × Int × Int)))
 | (a, none) => some (a.1)
 | _ => none
theorem Zvv : ∀ b r, Zn4 b = some r → ZnP r = b := by
 rintro ⟨a, o⟩ r h
 cases o with
 | none => injection h with h; subst h; rfl
 | some _ => cases h
noncomputable def Z6x : Nat → Int → Int → List (Int × Int) → List (List (Int × Int × Int)) → List (Int × Int × Int) → List (List Int) → Int → Int → Option (List (List (Int × Int × Int)))
 | 0, _, _, _, _, _, _, _, _ => none
 | k + 1, b1_0, b1_1, b1_2, o2, v1, v13, v14, v15 =>
  if decide (v15 < v14) = true then if (0 : Int) ≤ v15 then if v15 < (↑(List.length v13) : Int) then Option.bind (Z7T k (b1_0, b1_1, b1_2) v1 (List.getD v13 (Int.toNat v15) [])) fun z0 => if List.length o2 + List.length [Prod.fst z0] ≤ (140737488355328 / 24 : Nat) then Z6x k b1_0 b1_1 b1_2 (o2 ++ [Prod.fst z0]) v1 v13 v14 (wrap64 (v15 + (1 : Int))) else none else none else none else some o2
noncomputable def ZeG : Spec := Spec.mk [OSh.ro, OSh.box (53 : Nat) [Sh.int .i64, Sh.int .i64, Sh.snap (0 : Nat) (Ty.pair (Ty.int .i64) (Ty.int .i64))], OSh.row true (57 : Nat) (Ty.slice (63 : Nat) (Ty.pair (Ty.int .i64) (Ty.pair (Ty.int .i64) (Ty.int .i64))))] [((1 : Nat), TSh.at (Sh.snap (0 : Nat) (Ty.pair (Ty.int .i64) (Ty.pair (Ty.int .i64) (Ty.int .i64))))), ((3 : Nat), TSh.at (Sh.ptr (1 : Nat) (0 : Nat))), ((7 : Nat), TSh.at (Sh.sl (2 : Nat))), ((13 : Nat), TSh.at (Sh.snap (0 : Nat) (Ty.slice (3 : Nat) (Ty.int .i64)))), ((14 : Nat), TSh.at (Sh.int .i64)), ((15 : Nat), TSh.at (Sh.int .i64))]
noncomputable def ZxZ : Spec := Spec.mk [OSh.ro, OSh.row true (57 : Nat) (Ty.slice (63 : Nat) (Ty.pair (Ty.int .i64) (Ty.pair (Ty.int .i64) (Ty.int .i64))))] [((7 : Nat), TSh.at (Sh.sl (1 : Nat)))]
noncomputable def Z5z : LoopDef (Tup Z8a × OutD) := .plain ZeG ZxZ (List (List (Int × Int × Int))) (fun k x => Z6x k x.1.2.1.1 x.1.2.1.2.1 x.1.2.1.2.2.1 x.1.2.2.1 x.2.1 x.2.2.2.2.1 x.2.2.2.2.2.1 x.2.2.2.2.2.2.1) (fun z => (((), z, ()), ((), ()))) (fun y => (y.1.2.1)) (fun _ => rfl)
noncomputable def Z4t : Nat → Int × Int × List (Int × Int) → List (Int × Int × Int) → List (List Int) → Option (List (List (Int × Int × Int)))
 | 0, _, _, _ => none
 | k + 1, p0, p1, p2 =>
  Option.bind (Z6x k p0.1 p0.2.1 p0.2.2 [] p1 p2 (↑(List.length p2) : Int) (0 : Int)) fun z1 => some z1
noncomputable def Z2s : FnDef := .of Zpf Z8a (List (List (Int × Int × Int))) (fun k x => Z4t k x.1 x.2.1 x.2.2.1) ZnP Zn4 Zvv
noncomputable def ZdU : Code := Try.f164.body.getD .skip
noncomputable def Z62 : Ctx (Tup Z8a × OutD) := { T := T, G := [(120, Z1S.E)], mvs := [], no := 0, n := 32, res := resOf T Zpf Z8a Try.f164.results.toList, loops := [(0, Z5z.E)], regs := [], conds := [] }
theorem Zpd (k : Nat) : EnvOK Try.prog k Z62.G := (EnvOK.cons (ZjY k) (EnvOK.nil mixed))
noncomputable def Zb3 : Code := (findLoop 0 ZdU).getD .skip
theorem Zxa (k : Nat) (x : ZeG.D) : Z5z.lp (k + 1) x = loopK Z62 Z5z 0 Zb3 k x := by kernel_rfl
theorem Zx4 (k : Nat) : LOK Try.prog Z62 k Zb3 := LOK.by [] (by kernel_rfl) AllOK.nil
theorem ZwP (x : ZeG.D) : Z5z.lp 0 x = none := by kernel_rfl
theorem ZvZ (k : Nat) : EOK Try.prog Z62 k Z5z.E (.block 0 (.loop Zb3)) := Z7 T_ok Zpd ZwP Zxa Zx4 k
theorem ZDU (k : Nat) (x : Tup Z2s.ps) : Z2s.f (k + 1) x = fnK Z2s Z62 ZdU k x := by kernel_rfl
theorem ZDT (x : Tup Z2s.ps) : Z2s.f 0 x = none := by kernel_rfl
theorem ZDJ (k : Nat) : LOK Try.prog Z62 k ZdU := LOK.by [(Z5z.E, .block 0 (.loop Zb3))] (by kernel_rfl) (AllOK.cons (ZvZ k) AllOK.nil)
theorem Zid (k : Nat) : SoundAt Try.prog k 164 Z2s.E := @Z4 Try.prog Z2s Z62 164 Try.f164 ZdU (by kernel_rfl) (by kernel_rfl) (by kernel_rfl) Try.func164 (by kernel_rfl) (by kernel_rfl) (by kernel_rfl) T_ok Zpd ZDJ ZDT ZDU k
noncomputable def ZaK : List PK := [PK.mk (Ty.slice (57 : Nat) (Ty.slice (63 : Nat) (Ty.pair (Ty.int .i64) (Ty.pair (Ty.int .i64) (Ty.int .i64))))) false none false none]
noncomputable def Zu6 : List PK := [PK.mk (Ty.pair (Ty.int .i64) (Ty.pair (Ty.int .i64) (Ty.slice (79 : Nat) (Ty.pair (Ty.int .i64) (Ty.int .i64))))) true none false none, PK.mk (Ty.slice (77 : Nat) (Ty.pair (Ty.int .i64) (Ty.pair (Ty.int .i64) (Ty.int .i64)))) false none false none, PK.mk (Ty.slice (34 : Nat) (Ty.slice (3 : Nat) (Ty.int .i64))) false none false none]
noncomputable def Zsb (r : List (List (Int × Int × Int))) : Tup ZaK × OutD := ((r, ()), none)
noncomputable def Zr4 : Tup ZaK × OutD → Option (List (List (Int × Int × Int)))
 | (a, none) => some (a.1)
 | _ => none
theorem Zzf : ∀ b r, Zr4 b = some r → Zsb r = b := by
 rintro ⟨a, o⟩ r h
 cases o with
 | none => injection h with h; subst h; rfl
 | some _ => cases h
noncomputable def Z8l : Nat → Int → Int → List (Int × Int) → List (List (Int × Int × Int)) → List (Int × Int × Int) → List (List Int) → Int → Int → Option (List (List (Int × Int × Int)))
 | 0, _, _, _, _, _, _, _, _ => none
 | k + 1, b1_0, b1_1, b1_2, o2, v1, v12, v13, v14 =>
  if decide (v14 < v13) = true then if (0 : Int) ≤ v14 then if v14 < (↑(List.length v12) : Int) then Option.bind (ZhP k (b1_0, b1_1, b1_2) v1 (List.getD v12 (Int.toNat v14) [])) fun z0 => if List.length o2 + List.length [Prod.fst z0] ≤ (140737488355328 / 24 : Nat) then Z8l k b1_0 b1_1 b1_2 (o2 ++ [Prod.fst z0]) v1 v12 v13 (wrap64 (v14 + (1 : Int))) else none else none else none else some o2
noncomputable def Zgx : Spec := Spec.mk [OSh.ro, OSh.box (53 : Nat) [Sh.int .i64, Sh.int .i64, Sh.snap (0 : Nat) (Ty.pair (Ty.int .i64) (Ty.int .i64))], OSh.row true (57 : Nat) (Ty.slice (63 : Nat) (Ty.pair (Ty.int .i64) (Ty.pair (Ty.int .i64) (Ty.int .i64))))] [((1 : Nat), TSh.at (Sh.snap (0 : Nat) (Ty.pair (Ty.int .i64) (Ty.pair (Ty.int .i64) (Ty.int .i64))))), ((3 : Nat), TSh.at (Sh.ptr (1 : Nat) (0 : Nat))), ((7 : Nat), TSh.at (Sh.sl (2 : Nat))), ((12 : Nat), TSh.at (Sh.snap (0 : Nat) (Ty.slice (3 : Nat) (Ty.int .i64)))), ((13 : Nat), TSh.at (Sh.int .i64)), ((14 : Nat), TSh.at (Sh.int .i64))]
noncomputable def ZBd : Spec := Spec.mk [OSh.ro, OSh.row true (57 : Nat) (Ty.slice (63 : Nat) (Ty.pair (Ty.int .i64) (Ty.pair (Ty.int .i64) (Ty.int .i64))))] [((7 : Nat), TSh.at (Sh.sl (1 : Nat)))]
noncomputable def Z78 : LoopDef (Tup ZaK × OutD) := .plain Zgx ZBd (List (List (Int × Int × Int))) (fun k x => Z8l k x.1.2.1.1 x.1.2.1.2.1 x.1.2.1.2.2.1 x.1.2.2.1 x.2.1 x.2.2.2.2.1 x.2.2.2.2.2.1 x.2.2.2.2.2.2.1) (fun z => (((), z, ()), ((), ()))) (fun y => (y.1.2.1)) (fun _ => rfl)
noncomputable def Z52 : Nat → Int × Int × List (Int × Int) → List (Int × Int × Int) → List (List Int) → Option (List (List (Int × Int × Int)))
 | 0, _, _, _ => none
 | k + 1, p0, p1, p2 =>
  Option.bind (Z8l k p0.1 p0.2.1 p0.2.2 [] p1 p2 (↑(List.length p2) : Int) (0 : Int)) fun z1 => some z1
noncomputable def Z2J : FnDef := .of Zu6 ZaK (List (List (Int × Int × Int))) (fun k x => Z52 k x.1 x.2.1 x.2.2.1) Zsb Zr4 Zzf
noncomputable def Zgj : Code := Try.f165.body.getD .skip
noncomputable def Z8B : Ctx (Tup ZaK × OutD) := { T := T, G := [(123, Z7J.E)], mvs := [], no := 0, n := 31, res := resOf T Zu6 ZaK Try.f165.results.toList, loops := [(0, Z78.E)], regs := [], conds := [] }
theorem Zue (k : Nat) : EnvOK Try.prog k Z8B.G := (EnvOK.cons (ZGL k) (EnvOK.nil mixed))
noncomputable def ZcO : Code := (findLoop 0 Zgj).getD .skip
theorem ZBD (k : Nat) (x : Zgx.D) : Z78.lp (k + 1) x = loopK Z8B Z78 0 ZcO k x := by kernel_rfl
theorem ZBA (k : Nat) : LOK Try.prog Z8B k ZcO := LOK.by [] (by kernel_rfl) AllOK.nil
theorem ZBz (x : Zgx.D) : Z78.lp 0 x = none := by kernel_rfl
theorem Zzg (k : Nat) : EOK Try.prog Z8B k Z78.E (.block 0 (.loop ZcO)) := Z7 T_ok Zue ZBz ZBD ZBA k
theorem ZGG (k : Nat) (x : Tup Z2J.ps) : Z2J.f (k + 1) x = fnK Z2J Z8B Zgj k x := by kernel_rfl
theorem ZFx (x : Tup Z2J.ps) : Z2J.f 0 x = none := by kernel_rfl
theorem ZFH (k : Nat) : LOK Try.prog Z8B k Zgj := LOK.by [(Z78.E, .block 0 (.loop ZcO))] (by kernel_rfl) (AllOK.cons (Zzg k) AllOK.nil)
theorem Zgf (k : Nat) : SoundAt Try.prog k 165 Z2J.E := @Z4 Try.prog Z2J Z8B 165 Try.f165 Zgj (by kernel_rfl) (by kernel_rfl) (by kernel_rfl) Try.func165 (by kernel_rfl) (by kernel_rfl) (by kernel_rfl) T_ok Zue ZFH ZFx ZGG k
noncomputable def Z7V : List PK := [PK.mk (Ty.pair (Ty.int .i64) (Ty.pair (Ty.int .i64) (Ty.slice (79 : Nat) (Ty.pair (Ty.int .i64) (Ty.int .i64))))) true none false none]
noncomputable def Zky : List PK := [PK.mk (Ty.pair (Ty.slice (5 : Nat) (Ty.int .u8)) (Ty.pair (Ty.int .i64) (Ty.int .u64))) false none false (some (114 : Nat))]
noncomputable def ZiT (r : (Int × Int × List (Int × Int)) × Int × Int) : Tup Z7V × OutD := ((r.1, ()), some ⟨Ty.pair (Ty.slice (5 : Nat) (Ty.int .u8)) (Ty.pair (Ty.int .i64) (Ty.int .u64)), [([], r.2)]⟩)
noncomputable def ZdI : Tup Z7V × OutD → Option ((Int × Int × List (Int × Int)) × Int × Int)
 | (a, some ⟨u, ys⟩) => if h : u = Ty.pair (Ty.slice (5 : Nat) (Ty.int .u8)) (Ty.pair (Ty.int .i64) (Ty.int .u64)) then (match castU h ys with
  | [([], y)] => some (a.1, y)
  | _ => none) else none
 | _ => none
theorem ZpR : ∀ b r, ZdI b = some r → ZiT r = b := by
 rintro ⟨a, o⟩ r h
 cases o with
 | none => cases h
 | some s =>
  obtain ⟨u, ys⟩ := s
  simp only [ZdI] at h
  split at h
  ·rename_i hu
   subst hu
   match ys, h with
   | [], h => cases (show (none : Option _) = some r from h)
   | [([], y)], h => injection (show some _ = some r from h) with h; subst h; rfl
   | [(_ :: _, y)], h => cases (show (none : Option _) = some r from h)
   | (h1, _) :: _ :: _, h => cases h1 <;> cases (show (none : Option _) = some r from h)
  ·cases h
noncomputable def Z7K : Nat → List Int × Int × Int → Option ((Int × Int × List (Int × Int)) × Int × Int)
 | 0, _ => none
 | k + 1, p0 =>
  Option.bind (ZO k (Prod.fst p0, Prod.fst p0.2, Prod.snd p0.2) (20 : Int)) fun z0 => if Prod.fst z0 = true then Option.bind (Zh k (Prod.fst p0, Prod.fst z0.2, Prod.snd z0.2) [(1 : Int), (10 : Int)]) fun z1 => Option.bind (Zh k (Prod.fst p0, Prod.fst z1.2, Prod.snd z1.2) [(1 : Int), (9 : Int)]) fun z2 => Option.bind (Z1o k (Prod.fst p0, Prod.fst z2.2, Prod.snd z2.2) z1.1 z2.1) fun z3 => some ((Prod.fst z3.1, Prod.fst z3.1.2, Prod.snd z3.1.2), Prod.fst z3.2, Prod.snd z3.2) else Option.bind (Z1 k (Prod.fst p0, Prod.fst z0.2, Prod.snd z0.2) (5 : Int)) fun z4 => Option.bind (Z1 k (Prod.fst p0, Prod.fst z4.2, Prod.snd z4.2) (5 : Int)) fun z5 => Option.bind (Z1o k (Prod.fst p0, Prod.fst z5.2, Prod.snd z5.2) (wrap64 ((1 : Int) + Prod.fst z4)) (wrap64 ((1 : Int) + Prod.fst z5))) fun z6 => some ((Prod.fst z6.1, Prod.fst z6.1.2, Prod.snd z6.1.2), Prod.fst z6.2, Prod.snd z6.2)
noncomputable def Z2v : FnDef := .of Zky Z7V ((Int × Int × List (Int × Int)) × Int × Int) (fun k x => Z7K k x.1) ZiT ZdI ZpR
noncomputable def Zet : Code := Try.f202.body.getD .skip
noncomputable def Zba : Ctx (Tup Z7V × OutD) := { T := T, G := [(150, Z1u.E), (90, ZQ.E), (197, Z1d.E), (111, Zm.E)], mvs := [], no := 2, n := 21, res := resOf T Zky Z7V Try.f202.results.toList, loops := [], regs := [], conds := [] }
theorem ZxN (k : Nat) : EnvOK Try.prog k Zba.G := (EnvOK.cons (ZcG k) (EnvOK.cons (Z5D k) (EnvOK.cons (Zdd k) (EnvOK.cons (Z1n k) (EnvOK.nil mixed)))))
theorem Zxn (k : Nat) (x : Tup Z2v.ps) : Z2v.f (k + 1) x = fnK Z2v Zba Zet k x := by kernel_rfl
theorem Zxy (x : Tup Z2v.ps) : Z2v.f 0 x = none := by kernel_rfl
theorem Zxv (k : Nat) : LOK Try.prog Zba k Zet := LOK.by [] (by kernel_rfl) AllOK.nil
theorem ZwE (k : Nat) : SoundAt Try.prog k 202 Z2v.E := @Z4 Try.prog Z2v Zba 202 Try.f202 Zet (by kernel_rfl) (by kernel_rfl) (by kernel_rfl) Try.func202 (by kernel_rfl) (by kernel_rfl) (by kernel_rfl) T_ok ZxN Zxv Zxy Zxn k
end
end Go.Proofs.Ytgjmhbjdhihgaaa.Vs

set_option maxRecDepth 100000
set_option maxHeartbeats 2000000
set_option linter.unusedVariables false
set_option linter.unusedSimpArgs false
namespace Go.Proofs.Ytgjmhbjdhihgaaa.Vs
open Go.RowKit
noncomputable section
noncomputable def Z7Q : List PK := [PK.mk (Ty.slice (63 : Nat) (Ty.pair (Ty.int .i64) (Ty.pair (Ty.int .i64) (Ty.int .i64)))) false none false none, PK.mk (Ty.pair (Ty.int .i64) (Ty.pair (Ty.int .i64) (Ty.slice (79 : Nat) (Ty.pair (Ty.int .i64) (Ty.int .i64))))) true none false none, PK.mk Ty.bool false none false none]
noncomputable def Zk5 : List PK := [PK.mk (Ty.pair (Ty.int .i64) (Ty.pair (Ty.int .i64) (Ty.slice (79 : Nat) (Ty.pair (Ty.int .i64) (Ty.int .i64))))) true none false none, PK.mk (Ty.slice (77 : Nat) (Ty.pair (Ty.int .i64) (Ty.pair (Ty.int .i64) (Ty.int .i64)))) false none false none, PK.mk (Ty.slice (3 : Nat) (Ty.int .i64)) false none false none]
noncomputable def Ziz (r : List (Int × Int × Int) × (Int × Int × List (Int × Int)) × Bool) : Tup Z7Q × OutD := ((r.1, r.2.1, r.2.2, ()), none)
noncomputable def ZiR : Tup Z7Q × OutD → Option (List (Int × Int × Int) × (Int × Int × List (Int × Int)) × Bool)
 | (a, none) => some (a.1, a.2.1, a.2.2.1)
 | _ => none
theorem Zq5 : ∀ b r, ZiR b = some r → Ziz r = b := by
 rintro ⟨a, o⟩ r h
 cases o with
 | none => injection h with h; subst h; rfl
 | some _ => cases h
noncomputable def Zbf : Nat → Int × Int × List (Int × Int) → List (Int × Int × Int) → List Int → Option (List (Int × Int × Int) × (Int × Int × List (Int × Int)) × Bool)
 | 0, _, _, _ => none
 | k + 1, p0, p1, p2 =>
  Option.bind (Z6O k (Prod.fst p0, Prod.fst p0.2, Prod.snd p0.2) p2) fun z0 => if (!z0) = true then some ([], ((0 : Int), (0 : Int), []), false) else Option.bind (Z5c k (Prod.fst p0, Prod.fst p0.2, Prod.snd p0.2) p1) fun z1 => if (!z1) = true then some ([], ((0 : Int), (0 : Int), []), false) else Option.bind (Z7T k (Prod.fst p0, Prod.fst p0.2, Prod.snd p0.2) p1 p2) fun z2 => some (Prod.fst z2, (Prod.fst z2.2, Prod.fst z2.2.2, Prod.snd z2.2.2), true)
noncomputable def Z2u : FnDef := .of Zk5 Z7Q (List (Int × Int × Int) × (Int × Int × List (Int × Int)) × Bool) (fun k x => Zbf k x.1 x.2.1 x.2.2.1) Ziz ZiR Zq5
noncomputable def ZeB : Code := Try.f39.body.getD .skip
noncomputable def Zb8 : Ctx (Tup Z7Q × OutD) := { T := T, G := [(118, Z1w.E), (119, Z1W.E), (120, Z1S.E)], mvs := [], no := 0, n := 31, res := resOf T Zk5 Z7Q Try.f39.results.toList, loops := [], regs := [], conds := [] }
theorem Zye (k : Nat) : EnvOK Try.prog k Zb8.G := (EnvOK.cons (Zip k) (EnvOK.cons (Zgv k) (EnvOK.cons (ZjY k) (EnvOK.nil mixed))))
theorem ZxW (k : Nat) (x : Tup Z2u.ps) : Z2u.f (k + 1) x = fnK Z2u Zb8 ZeB k x := by kernel_rfl
theorem Zy9 (x : Tup Z2u.ps) : Z2u.f 0 x = none := by kernel_rfl
theorem Zx6 (k : Nat) : LOK Try.prog Zb8 k ZeB := LOK.by [] (by kernel_rfl) AllOK.nil
theorem Zx1 (k : Nat) : SoundAt Try.prog k 39 Z2u.E := @Z4 Try.prog Z2u Zb8 39 Try.f39 ZeB (by kernel_rfl) (by kernel_rfl) (by kernel_rfl) Try.func39 (by kernel_rfl) (by kernel_rfl) (by kernel_rfl) T_ok Zye Zx6 Zy9 ZxW k
noncomputable def Zb4 : List PK := [PK.mk (Ty.slice (57 : Nat) (Ty.slice (63 : Nat) (Ty.pair (Ty.int .i64) (Ty.pair (Ty.int .i64) (Ty.int .i64))))) false none false none, PK.mk Ty.bool false none false none]
noncomputable def Zpv : List PK := [PK.mk (Ty.pair (Ty.int .i64) (Ty.pair (Ty.int .i64) (Ty.slice (79 : Nat) (Ty.pair (Ty.int .i64) (Ty.int .i64))))) true none false none, PK.mk (Ty.slice (77 : Nat) (Ty.pair (Ty.int .i64) (Ty.pair (Ty.int .i64) (Ty.int .i64)))) false none false none, PK.mk (Ty.slice (34 : Nat) (Ty.slice (3 : Nat) (Ty.int .i64))) false none false none]
noncomputable def Zo0 (r : List (List (Int × Int × Int)) × Bool) : Tup Zb4 × OutD := ((r.1, r.2, ()), none)
noncomputable def ZnU : Tup Zb4 × OutD → Option (List (List (Int × Int × Int)) × Bool)
 | (a, none) => some (a.1, a.2.1)
 | _ => none
theorem Zvo : ∀ b r, ZnU b = some r → Zo0 r = b := by
 rintro ⟨a, o⟩ r h
 cases o with
 | none => injection h with h; subst h; rfl
 | some _ => cases h
noncomputable def Z4v : Nat → Int × Int × List (Int × Int) → List (Int × Int × Int) → List (List Int) → Option (List (List (Int × Int × Int)) × Bool)
 | 0, _, _, _ => none
 | k + 1, p0, p1, p2 =>
  Option.bind (Z3k k (Prod.fst p0, Prod.fst p0.2, Prod.snd p0.2) p2) fun z0 => if (!z0) = true then some ([], false) else Option.bind (Z5c k (Prod.fst p0, Prod.fst p0.2, Prod.snd p0.2) p1) fun z1 => if (!z1) = true then some ([], false) else Option.bind (Z4t k (Prod.fst p0, Prod.fst p0.2, Prod.snd p0.2) p1 p2) fun z2 => some (z2, true)
noncomputable def Z4u : FnDef := .of Zpv Zb4 (List (List (Int × Int × Int)) × Bool) (fun k x => Z4v k x.1 x.2.1 x.2.2.1) Zo0 ZnU Zvo
noncomputable def Zic : Code := Try.f75.body.getD .skip
noncomputable def ZdZ : Ctx (Tup Zb4 × OutD) := { T := T, G := [(151, Z1f.E), (119, Z1W.E), (164, Z2s.E)], mvs := [], no := 0, n := 22, res := resOf T Zpv Zb4 Try.f75.results.toList, loops := [], regs := [], conds := [] }
theorem ZD9 (k : Nat) : EnvOK Try.prog k ZdZ.G := (EnvOK.cons (Z8t k) (EnvOK.cons (Zgv k) (EnvOK.cons (Zid k) (EnvOK.nil mixed))))
theorem ZCI (k : Nat) (x : Tup Z4u.ps) : Z4u.f (k + 1) x = fnK Z4u ZdZ Zic k x := by kernel_rfl
theorem ZCE (x : Tup Z4u.ps) : Z4u.f 0 x = none := by kernel_rfl
theorem ZCJ (k : Nat) : LOK Try.prog ZdZ k Zic := LOK.by [] (by kernel_rfl) AllOK.nil
theorem ZDh (k : Nat) : SoundAt Try.prog k 75 Z4u.E := @Z4 Try.prog Z4u ZdZ 75 Try.f75 Zic (by kernel_rfl) (by kernel_rfl) (by kernel_rfl) Try.func75 (by kernel_rfl) (by kernel_rfl) (by kernel_rfl) T_ok ZD9 ZCJ ZCE ZCI k
noncomputable def Zb9 : List PK := [PK.mk (Ty.slice (57 : Nat) (Ty.slice (63 : Nat) (Ty.pair (Ty.int .i64) (Ty.pair (Ty.int .i64) (Ty.int .i64))))) false none false none, PK.mk Ty.bool false none false none]
noncomputable def Zpq : List PK := [PK.mk (Ty.pair (Ty.int .i64) (Ty.pair (Ty.int .i64) (Ty.slice (79 : Nat) (Ty.pair (Ty.int .i64) (Ty.int .i64))))) true none false none, PK.mk (Ty.slice (77 : Nat) (Ty.pair (Ty.int .i64) (Ty.pair (Ty.int .i64) (Ty.int .i64)))) false none false none, PK.mk (Ty.slice (34 : Nat) (Ty.slice (3 : Nat) (Ty.int .i64))) false none false none]
noncomputable def Zny (r : List (List (Int × Int × Int)) × Bool) : Tup Zb9 × OutD := ((r.1, r.2, ()), none)
noncomputable def Znq : Tup Zb9 × OutD → Option (List (List (Int × Int × Int)) × Bool)
 | (a, none) => some (a.1, a.2.1)
 | _ => none
theorem ZvB : ∀ b r, Znq b = some r → Zny r = b := by
 rintro ⟨a, o⟩ r h
 cases o with
 | none => injection h with h; subst h; rfl
 | some _ => cases h
noncomputable def Z4p : Nat → Int × Int × List (Int × Int) → List (Int × Int × Int) → List (List Int) → Option (List (List (Int × Int × Int)) × Bool)
 | 0, _, _, _ => none
 | k + 1, p0, p1, p2 =>
  Option.bind (Z4a k (Prod.fst p0, Prod.fst p0.2, Prod.snd p0.2) p2) fun z0 => if (!z0) = true then some ([], false) else Option.bind (Z8R k (Prod.fst p0, Prod.fst p0.2, Prod.snd p0.2) p1) fun z1 => if (!z1) = true then some ([], false) else Option.bind (Z52 k (Prod.fst p0, Prod.fst p0.2, Prod.snd p0.2) p1 p2) fun z2 => some (z2, true)
noncomputable def Z4o : FnDef := .of Zpq Zb9 (List (List (Int × Int × Int)) × Bool) (fun k x => Z4p k x.1 x.2.1 x.2.2.1) Zny Znq ZvB
noncomputable def ZhA : Code := Try.f76.body.getD .skip
noncomputable def Ze1 : Ctx (Tup Zb9 × OutD) := { T := T, G := [(155, Z1q.E), (122, Z3I.E), (165, Z2J.E)], mvs := [], no := 0, n := 22, res := resOf T Zpq Zb9 Try.f76.results.toList, loops := [], regs := [], conds := [] }
theorem ZDX (k : Nat) : EnvOK Try.prog k Ze1.G := (EnvOK.cons (Z9H k) (EnvOK.cons (ZkA k) (EnvOK.cons (Zgf k) (EnvOK.nil mixed))))
theorem ZDi (k : Nat) (x : Tup Z4o.ps) : Z4o.f (k + 1) x = fnK Z4o Ze1 ZhA k x := by kernel_rfl
theorem ZDI (x : Tup Z4o.ps) : Z4o.f 0 x = none := by kernel_rfl
theorem ZDd (k : Nat) : LOK Try.prog Ze1 k ZhA := LOK.by [] (by kernel_rfl) AllOK.nil
theorem ZEa (k : Nat) : SoundAt Try.prog k 76 Z4o.E := @Z4 Try.prog Z4o Ze1 76 Try.f76 ZhA (by kernel_rfl) (by kernel_rfl) (by kernel_rfl) Try.func76 (by kernel_rfl) (by kernel_rfl) (by kernel_rfl) T_ok ZDX ZDd ZDI ZDi k
noncomputable def Z7t : List PK := [PK.mk Ty.bool false none false none, PK.mk Ty.bool false none false none]
noncomputable def Zns : List PK := [PK.mk (Ty.pair (Ty.int .i64) (Ty.pair (Ty.int .i64) (Ty.slice (79 : Nat) (Ty.pair (Ty.int .i64) (Ty.int .i64))))) true none false none, PK.mk (Ty.slice (34 : Nat) (Ty.slice (3 : Nat) (Ty.int .i64))) false none false none, PK.mk (Ty.slice (77 : Nat) (Ty.pair (Ty.int .i64) (Ty.pair (Ty.int .i64) (Ty.int .i64)))) false none false none, PK.mk (Ty.slice (77 : Nat) (Ty.pair (Ty.int .i64) (Ty.pair (Ty.int .i64) (Ty.int .i64)))) false none false none]
noncomputable def Zfv (r : Bool × Bool) : Tup Z7t × OutD := ((r.1, r.2, ()), none)
noncomputable def Zfx : Tup Z7t × OutD → Option (Bool × Bool)
 | (a, none) => some (a.1, a.2.1)
 | _ => none
theorem Zhy : ∀ b r, Zfx b = some r → Zfv r = b := by
 rintro ⟨a, o⟩ r h
 cases o with
 | none => injection h with h; subst h; rfl
 | some _ => cases h
noncomputable def Z5x : Nat → List (List (Int × Int × Int)) → List (List (Int × Int × Int)) → Int → Int → Option (LR Unit (Bool × Bool))
 | 0, _, _, _, _ => none
 | k + 1, o1, o2, v38, v39 =>
  if decide (v39 < v38) = true then if (0 : Int) ≤ v39 then if v39 < (↑(List.length o1) : Int) then if (0 : Int) ≤ v39 then if v39 < (↑(List.length o2) : Int) then Option.bind (Z10 k (List.getD o1 (Int.toNat v39) []) (List.getD o2 (Int.toNat v39) [])) fun z5 => if (!z5) = true then some (LR.ret (true, true)) else Z5x k o1 o2 v38 (wrap64 (v39 + (1 : Int))) else none else none else none else none else some (LR.go ())
noncomputable def ZdC : Spec := Spec.mk [OSh.ro, OSh.row true (57 : Nat) (Ty.slice (63 : Nat) (Ty.pair (Ty.int .i64) (Ty.pair (Ty.int .i64) (Ty.int .i64)))), OSh.row true (57 : Nat) (Ty.slice (63 : Nat) (Ty.pair (Ty.int .i64) (Ty.pair (Ty.int .i64) (Ty.int .i64))))] [((10 : Nat), TSh.at (Sh.sl (1 : Nat))), ((11 : Nat), TSh.at (Sh.sl (2 : Nat))), ((38 : Nat), TSh.at (Sh.int .i64)), ((39 : Nat), TSh.at (Sh.int .i64))]
noncomputable def ZvF : Spec := Spec.mk [OSh.ro] []
noncomputable def Z4V : LoopDef (Tup Z7t × OutD) := .rets ZdC ZvF (Unit) (Bool × Bool) (fun k x => Z5x k x.1.2.1 x.1.2.2.1 x.2.2.2.1 x.2.2.2.2.1) (fun z => (((), ()), (()))) (fun y => ()) (fun _ => rfl) Zfv Zfx Zhy
noncomputable def Z9R : Nat → Int × Int × List (Int × Int) → List (List Int) → List (Int × Int × Int) → List (Int × Int × Int) → Option (Bool × Bool)
 | 0, _, _, _, _ => none
 | k + 1, p0, p1, p2, p3 =>
  Option.bind (Z3k k (Prod.fst p0, Prod.fst p0.2, Prod.snd p0.2) p1) fun z0 => if (!z0) = true then some (false, false) else Option.bind (Z5c k (Prod.fst p0, Prod.fst p0.2, Prod.snd p0.2) p2) fun z1 => if (!z1) = true then some (false, false) else Option.bind (Z5c k (Prod.fst p0, Prod.fst p0.2, Prod.snd p0.2) p3) fun z2 => if (!z2) = true then some (false, false) else Option.bind (Z4t k (Prod.fst p0, Prod.fst p0.2, Prod.snd p0.2) p2 p1) fun z3 => Option.bind (Z4t k (Prod.fst p0, Prod.fst p0.2, Prod.snd p0.2) p3 p1) fun z4 => Option.bind (Z5x k z3 z4 (↑(List.length z3) : Int) (0 : Int)) fun z6 => LR.on z6 (fun y6 => some (false, true)) fun r6 => some r6
noncomputable def Z3u : FnDef := .of Zns Z7t (Bool × Bool) (fun k x => Z9R k x.1 x.2.1 x.2.2.1 x.2.2.2.1) Zfv Zfx Zhy
noncomputable def Zde : Code := Try.f81.body.getD .skip
noncomputable def Z5i : Ctx (Tup Z7t × OutD) := { T := T, G := [(151, Z1f.E), (119, Z1W.E), (164, Z2s.E), (166, Zf.E)], mvs := [], no := 0, n := 53, res := resOf T Zns Z7t Try.f81.results.toList, loops := [(0, Z4V.E)], regs := [], conds := [] }
theorem Znv (k : Nat) : EnvOK Try.prog k Z5i.G := (EnvOK.cons (Z8t k) (EnvOK.cons (Zgv k) (EnvOK.cons (Zid k) (EnvOK.cons (Z4m k) (EnvOK.nil mixed)))))
noncomputable def Zaf : Code := (findLoop 0 Zde).getD .skip
theorem ZvK (k : Nat) (x : ZdC.D) : Z4V.lp (k + 1) x = loopK Z5i Z4V 0 Zaf k x := by kernel_rfl
theorem ZvC (k : Nat) : LOK Try.prog Z5i k Zaf := LOK.by [] (by kernel_rfl) AllOK.nil
theorem Zwl (x : ZdC.D) : Z4V.lp 0 x = none := by kernel_rfl
theorem Zt3 (k : Nat) : EOK Try.prog Z5i k Z4V.E (.block 0 (.loop Zaf)) := Z7 T_ok Znv Zwl ZvK ZvC k
theorem ZBh (k : Nat) (x : Tup Z3u.ps) : Z3u.f (k + 1) x = fnK Z3u Z5i Zde k x := by kernel_rfl
theorem ZC9 (x : Tup Z3u.ps) : Z3u.f 0 x = none := by kernel_rfl
theorem ZBx (k : Nat) : LOK Try.prog Z5i k Zde := LOK.by [(Z4V.E, .block 0 (.loop Zaf))] (by kernel_rfl) (AllOK.cons (Zt3 k) AllOK.nil)
theorem ZBf (k : Nat) : SoundAt Try.prog k 81 Z3u.E := @Z4 Try.prog Z3u Z5i 81 Try.f81 Zde (by kernel_rfl) (by kernel_rfl) (by kernel_rfl) Try.func81 (by kernel_rfl) (by kernel_rfl) (by kernel_rfl) T_ok Znv ZBx ZC9 ZBh k
noncomputable def Z7k : List PK := [PK.mk Ty.bool false none false none, PK.mk Ty.bool false none false none]
noncomputable def ZnE : List PK := [PK.mk (Ty.pair (Ty.int .i64) (Ty.pair (Ty.int .i64) (Ty.slice (79 : Nat) (Ty.pair (Ty.int .i64) (Ty.int .i64))))) true none false none, PK.mk (Ty.slice (34 : Nat) (Ty.slice (3 : Nat) (Ty.int .i64))) false none false none, PK.mk (Ty.slice (77 : Nat) (Ty.pair (Ty.int .i64) (Ty.pair (Ty.int .i64) (Ty.int .i64)))) false none false none, PK.mk (Ty.slice (77 : Nat) (Ty.pair (Ty.int .i64) (Ty.pair (Ty.int .i64) (Ty.int .i64)))) false none false none]
noncomputable def Zfw (r : Bool × Bool) : Tup Z7k × OutD := ((r.1, r.2, ()), none)
noncomputable def Zfm : Tup Z7k × OutD → Option (Bool × Bool)
 | (a, none) => some (a.1, a.2.1)
 | _ => none
theorem ZhT : ∀ b r, Zfm b = some r → Zfw r = b := by
 rintro ⟨a, o⟩ r h
 cases o with
 | none => injection h with h; subst h; rfl
 | some _ => cases h
noncomputable def Z5l : Nat → List (List (Int × Int × Int)) → List (List (Int × Int × Int)) → Int → Int → Option (LR Unit (Bool × Bool))
 | 0, _, _, _, _ => none
 | k + 1, o1, o2, v39, v40 =>
  if decide (v40 < v39) = true then if (0 : Int) ≤ v40 then if v40 < (↑(List.length o2) : Int) then if (0 : Int) ≤ v40 then if v40 < (↑(List.length o1) : Int) then Option.bind (ZaH k (List.getD o2 (Int.toNat v40) []) (List.getD o1 (Int.toNat v40) [])) fun z5 => if decide (z5 ≥ (0 : Int)) = true then some (LR.ret (true, true)) else Z5l k o1 o2 v39 (wrap64 (v40 + (1 : Int))) else none else none else none else none else some (LR.go ())
noncomputable def ZdL : Spec := Spec.mk [OSh.ro, OSh.row true (57 : Nat) (Ty.slice (63 : Nat) (Ty.pair (Ty.int .i64) (Ty.pair (Ty.int .i64) (Ty.int .i64)))), OSh.row true (57 : Nat) (Ty.slice (63 : Nat) (Ty.pair (Ty.int .i64) (Ty.pair (Ty.int .i64) (Ty.int .i64))))] [((11 : Nat), TSh.at (Sh.sl (1 : Nat))), ((38 : Nat), TSh.at (Sh.sl (2 : Nat))), ((39 : Nat), TSh.at (Sh.int .i64)), ((40 : Nat), TSh.at (Sh.int .i64))]
noncomputable def ZvH : Spec := Spec.mk [OSh.ro] []
noncomputable def Z4H : LoopDef (Tup Z7k × OutD) := .rets ZdL ZvH (Unit) (Bool × Bool) (fun k x => Z5l k x.1.2.1 x.1.2.2.1 x.2.2.2.1 x.2.2.2.2.1) (fun z => (((), ()), (()))) (fun y => ()) (fun _ => rfl) Zfw Zfm ZhT
noncomputable def Zcv : Nat → Int × Int × List (Int × Int) → List (List Int) → List (Int × Int × Int) → List (Int × Int × Int) → Option (Bool × Bool)
 | 0, _, _, _, _ => none
 | k + 1, p0, p1, p2, p3 =>
  Option.bind (Z4a k (Prod.fst p0, Prod.fst p0.2, Prod.snd p0.2) p1) fun z0 => if (!z0) = true then some (false, false) else Option.bind (Z8R k (Prod.fst p0, Prod.fst p0.2, Prod.snd p0.2) p2) fun z1 => if (!z1) = true then some (false, false) else Option.bind (Z8R k (Prod.fst p0, Prod.fst p0.2, Prod.snd p0.2) p3) fun z2 => if (!z2) = true then some (false, false) else Option.bind (Z52 k (Prod.fst p0, Prod.fst p0.2, Prod.snd p0.2) p2 p1) fun z3 => Option.bind (Z52 k (Prod.fst p0, Prod.fst p0.2, Prod.snd p0.2) p3 p1) fun z4 => Option.bind (Z5l k z4 z3 (↑(List.length z3) : Int) (0 : Int)) fun z6 => LR.on z6 (fun y6 => some (false, true)) fun r6 => some r6
noncomputable def Z3E : FnDef := .of ZnE Z7k (Bool × Bool) (fun k x => Zcv k x.1 x.2.1 x.2.2.1 x.2.2.2.1) Zfw Zfm ZhT
noncomputable def ZcX : Code := Try.f82.body.getD .skip
noncomputable def Z5h : Ctx (Tup Z7k × OutD) := { T := T, G := [(155, Z1q.E), (122, Z3I.E), (165, Z2J.E), (168, Z3G.E)], mvs := [], no := 0, n := 53, res := resOf T ZnE Z7k Try.f82.results.toList, loops := [(0, Z4H.E)], regs := [], conds := [] }
theorem ZmU (k : Nat) : EnvOK Try.prog k Z5h.G := (EnvOK.cons (Z9H k) (EnvOK.cons (ZkA k) (EnvOK.cons (Zgf k) (EnvOK.cons (ZkK k) (EnvOK.nil mixed)))))
noncomputable def Zap : Code := (findLoop 0 ZcX).getD .skip
theorem ZvV (k : Nat) (x : ZdL.D) : Z4H.lp (k + 1) x = loopK Z5h Z4H 0 Zap k x := by kernel_rfl
theorem Zvw (k : Nat) : LOK Try.prog Z5h k Zap := LOK.by [] (by kernel_rfl) AllOK.nil
theorem Zvj (x : ZdL.D) : Z4H.lp 0 x = none := by kernel_rfl
theorem ZtU (k : Nat) : EOK Try.prog Z5h k Z4H.E (.block 0 (.loop Zap)) := Z7 T_ok ZmU Zvj ZvV Zvw k
theorem ZBr (k : Nat) (x : Tup Z3E.ps) : Z3E.f (k + 1) x = fnK Z3E Z5h ZcX k x := by kernel_rfl
theorem ZCq (x : Tup Z3E.ps) : Z3E.f 0 x = none := by kernel_rfl
theorem ZAW (k : Nat) : LOK Try.prog Z5h k ZcX := LOK.by [(Z4H.E, .block 0 (.loop Zap))] (by kernel_rfl) (AllOK.cons (ZtU k) AllOK.nil)
theorem ZAZ (k : Nat) : SoundAt Try.prog k 82 Z3E.E := @Z4 Try.prog Z3E Z5h 82 Try.f82 ZcX (by kernel_rfl) (by kernel_rfl) (by kernel_rfl) Try.func82 (by kernel_rfl) (by kernel_rfl) (by kernel_rfl) T_ok ZmU ZAW ZCq ZBr k
noncomputable def ZaV : List PK := [PK.mk Ty.bool false none false none, PK.mk Ty.bool false none false none]
noncomputable def Zpl : List PK := [PK.mk (Ty.pair (Ty.int .i64) (Ty.pair (Ty.int .i64) (Ty.slice (79 : Nat) (Ty.pair (Ty.int .i64) (Ty.int .i64))))) true none false none, PK.mk (Ty.slice (34 : Nat) (Ty.slice (3 : Nat) (Ty.int .i64))) false none false none]
noncomputable def Zn9 (r : Bool × Bool) : Tup ZaV × OutD := ((r.1, r.2, ()), none)
noncomputable def Znb : Tup ZaV × OutD → Option (Bool × Bool)
 | (a, none) => some (a.1, a.2.1)
 | _ => none
theorem ZvP : ∀ b r, Znb b = some r → Zn9 r = b := by
 rintro ⟨a, o⟩ r h
 cases o with
 | none => injection h with h; subst h; rfl
 | some _ => cases h
noncomputable def ZdT : Nat → Int × Int × List (Int × Int) → List (List Int) → Option (Bool × Bool)
 | 0, _, _ => none
 | k + 1, p0, p1 =>
  Option.bind (Z7d k (Prod.fst p0, Prod.fst p0.2, Prod.snd p0.2)) fun z0 => if (!z0) = true then some (false, false) else if decide ((↑(List.length p0.2.2) : Int) > (30 : Int)) = true then some (false, false) else Option.bind (Z3k k (Prod.fst p0, Prod.fst p0.2, Prod.snd p0.2) p1) fun z1 => some (z1, true)
noncomputable def Z4B : FnDef := .of Zpl ZaV (Bool × Bool) (fun k x => ZdT k x.1 x.2.1) Zn9 Znb ZvP
noncomputable def ZhV : Code := Try.f84.body.getD .skip
noncomputable def Ze9 : Ctx (Tup ZaV × OutD) := { T := T, G := [(132, Z2n.E), (151, Z1f.E)], mvs := [], no := 0, n := 18, res := resOf T Zpl ZaV Try.f84.results.toList, loops := [], regs := [], conds := [] }
theorem ZCR (k : Nat) : EnvOK Try.prog k Ze9.G := (EnvOK.cons (Zf9 k) (EnvOK.cons (Z8t k) (EnvOK.nil mixed)))
theorem ZDv (k : Nat) (x : Tup Z4B.ps) : Z4B.f (k + 1) x = fnK Z4B Ze9 ZhV k x := by kernel_rfl
theorem ZDo (x : Tup Z4B.ps) : Z4B.f 0 x = none := by kernel_rfl
theorem ZDy (k : Nat) : LOK Try.prog Ze9 k ZhV := LOK.by [] (by kernel_rfl) AllOK.nil
theorem ZDV (k : Nat) : SoundAt Try.prog k 84 Z4B.E := @Z4 Try.prog Z4B Ze9 84 Try.f84 ZhV (by kernel_rfl) (by kernel_rfl) (by kernel_rfl) Try.func84 (by kernel_rfl) (by kernel_rfl) (by kernel_rfl) T_ok ZCR ZDy ZDo ZDv k
noncomputable def Z85 : List PK := [PK.mk (Ty.slice (100 : Nat) (Ty.slice (57 : Nat) (Ty.slice (63 : Nat) (Ty.pair (Ty.int .i64) (Ty.pair (Ty.int .i64) (Ty.int .i64)))))) false none false none]
noncomputable def Zp6 : List PK := [PK.mk (Ty.pair (Ty.int .i64) (Ty.pair (Ty.int .i64) (Ty.slice (79 : Nat) (Ty.pair (Ty.int .i64) (Ty.int .i64))))) true none false none, PK.mk (Ty.slice (34 : Nat) (Ty.slice (3 : Nat) (Ty.int .i64))) false none false none]
noncomputable def ZnW (r : List (List (List (Int × Int × Int)))) : Tup Z85 × OutD := ((r, ()), none)
noncomputable def ZmW : Tup Z85 × OutD → Option (List (List (List (Int × Int × Int))))
 | (a, none) => some (a.1)
 | _ => none
theorem Zvc : ∀ b r, ZmW b = some r → ZnW r = b := by
 rintro ⟨a, o⟩ r h
 cases o with
 | none => injection h with h; subst h; rfl
 | some _ => cases h
noncomputable def Z6z : Nat → Int → Int → List (Int × Int) → List (List (List (Int × Int × Int))) → List (Int × Int × Int) → List (List Int) → Int → Int → Option (List (List (List (Int × Int × Int))))
 | 0, _, _, _, _, _, _, _, _ => none
 | k + 1, b1_0, b1_1, b1_2, o2, o3, v1, v14, v15 =>
  if decide (v15 < v14) = true then if (0 : Int) ≤ v15 then if v15 < (↑(List.length o3) : Int) then Option.bind (Z4t k (b1_0, b1_1, b1_2) [(Prod.fst (List.getD o3 (Int.toNat v15) ((0 : Int), (0 : Int), (0 : Int))), Prod.fst (Prod.snd (List.getD o3 (Int.toNat v15) ((0 : Int), (0 : Int), (0 : Int)))), Prod.snd (Prod.snd (List.getD o3 (Int.toNat v15) ((0 : Int), (0 : Int), (0 : Int)))))] v1) fun z2 => if List.length o2 + List.length [z2] ≤ (140737488355328 / 24 : Nat) then Z6z k b1_0 b1_1 b1_2 (o2 ++ [z2]) o3 v1 v14 (wrap64 (v15 + (1 : Int))) else none else none else none else some o2
noncomputable def ZeP : Spec := Spec.mk [OSh.ro, OSh.box (53 : Nat) [Sh.int .i64, Sh.int .i64, Sh.snap (0 : Nat) (Ty.pair (Ty.int .i64) (Ty.int .i64))], OSh.row true (100 : Nat) (Ty.slice (57 : Nat) (Ty.slice (63 : Nat) (Ty.pair (Ty.int .i64) (Ty.pair (Ty.int .i64) (Ty.int .i64))))), OSh.row true (77 : Nat) (Ty.pair (Ty.int .i64) (Ty.pair (Ty.int .i64) (Ty.int .i64)))] [((1 : Nat), TSh.at (Sh.snap (0 : Nat) (Ty.slice (3 : Nat) (Ty.int .i64)))), ((2 : Nat), TSh.at (Sh.ptr (1 : Nat) (0 : Nat))), ((5 : Nat), TSh.at (Sh.sl (2 : Nat))), ((13 : Nat), TSh.at (Sh.sl (3 : Nat))), ((14 : Nat), TSh.at (Sh.int .i64)), ((15 : Nat), TSh.at (Sh.int .i64))]
noncomputable def Zxd : Spec := Spec.mk [OSh.ro, OSh.row true (100 : Nat) (Ty.slice (57 : Nat) (Ty.slice (63 : Nat) (Ty.pair (Ty.int .i64) (Ty.pair (Ty.int .i64) (Ty.int .i64)))))] [((5 : Nat), TSh.at (Sh.sl (1 : Nat)))]
noncomputable def Z5r : LoopDef (Tup Z85 × OutD) := .plain ZeP Zxd (List (List (List (Int × Int × Int)))) (fun k x => Z6z k x.1.2.1.1 x.1.2.1.2.1 x.1.2.1.2.2.1 x.1.2.2.1 x.1.2.2.2.1 x.2.1 x.2.2.2.2.2.1 x.2.2.2.2.2.2.1) (fun z => (((), z, ()), ((), ()))) (fun y => (y.1.2.1)) (fun _ => rfl)
noncomputable def Z8h : Nat → Int × Int × List (Int × Int) → List (List Int) → Option (List (List (List (Int × Int × Int))))
 | 0, _, _ => none
 | k + 1, p0, p1 =>
  Option.bind (Z4t k (Prod.fst p0, Prod.fst p0.2, Prod.snd p0.2) [] p1) fun z0 => Option.bind (Z8r k (Prod.fst p0, Prod.fst p0.2, Prod.snd p0.2)) fun z1 => Option.bind (Z6z k p0.1 p0.2.1 p0.2.2 [z0] z1 p1 (↑(List.length z1) : Int) (0 : Int)) fun z3 => some z3
noncomputable def Z2t : FnDef := .of Zp6 Z85 (List (List (List (Int × Int × Int)))) (fun k x => Z8h k x.1 x.2.1) ZnW ZmW Zvc
noncomputable def Ze5 : Code := Try.f153.body.getD .skip
noncomputable def Z65 : Ctx (Tup Z85 × OutD) := { T := T, G := [(164, Z2s.E), (147, Z1A.E)], mvs := [], no := 0, n := 29, res := resOf T Zp6 Z85 Try.f153.results.toList, loops := [(0, Z5r.E)], regs := [], conds := [] }
theorem Zps (k : Nat) : EnvOK Try.prog k Z65.G := (EnvOK.cons (Zid k) (EnvOK.cons (ZqM k) (EnvOK.nil mixed)))
noncomputable def ZaX : Code := (findLoop 0 Ze5).getD .skip
theorem Zwy (k : Nat) (x : ZeP.D) : Z5r.lp (k + 1) x = loopK Z65 Z5r 0 ZaX k x := by kernel_rfl
theorem Zyh (k : Nat) : LOK Try.prog Z65 k ZaX := LOK.by [] (by kernel_rfl) AllOK.nil
theorem Zww (x : ZeP.D) : Z5r.lp 0 x = none := by kernel_rfl
theorem ZvU (k : Nat) : EOK Try.prog Z65 k Z5r.E (.block 0 (.loop ZaX)) := Z7 T_ok Zps Zww Zwy Zyh k
theorem ZCU (k : Nat) (x : Tup Z2t.ps) : Z2t.f (k + 1) x = fnK Z2t Z65 Ze5 k x := by kernel_rfl
theorem ZCM (x : Tup Z2t.ps) : Z2t.f 0 x = none := by kernel_rfl
theorem ZDa (k : Nat) : LOK Try.prog Z65 k Ze5 := LOK.by [(Z5r.E, .block 0 (.loop ZaX))] (by kernel_rfl) (AllOK.cons (ZvU k) AllOK.nil)
theorem Zhp (k : Nat) : SoundAt Try.prog k 153 Z2t.E := @Z4 Try.prog Z2t Z65 153 Try.f153 Ze5 (by kernel_rfl) (by kernel_rfl) (by kernel_rfl) Try.func153 (by kernel_rfl) (by kernel_rfl) (by kernel_rfl) T_ok Zps ZDa ZCM ZCU k
noncomputable def Z9A : List PK := [PK.mk (Ty.slice (100 : Nat) (Ty.slice (57 : Nat) (Ty.slice (63 : Nat) (Ty.pair (Ty.int .i64) (Ty.pair (Ty.int .i64) (Ty.int .i64)))))) false none false none]
noncomputable def Zs4 : List PK := [PK.mk (Ty.pair (Ty.int .i64) (Ty.pair (Ty.int .i64) (Ty.slice (79 : Nat) (Ty.pair (Ty.int .i64) (Ty.int .i64))))) true none false none, PK.mk (Ty.slice (34 : Nat) (Ty.slice (3 : Nat) (Ty.int .i64))) false none false none]
noncomputable def Zpn (r : List (List (List (Int × Int × Int)))) : Tup Z9A × OutD := ((r, ()), none)
noncomputable def Zpy : Tup Z9A × OutD → Option (List (List (List (Int × Int × Int))))
 | (a, none) => some (a.1)
 | _ => none
theorem ZwW : ∀ b r, Zpy b = some r → Zpn r = b := by
 rintro ⟨a, o⟩ r h
 cases o with
 | none => injection h with h; subst h; rfl
 | some _ => cases h
noncomputable def Z7a : Nat → Int → Int → List (Int × Int) → List (List (List (Int × Int × Int))) → List (Int × Int × Int) → List (List Int) → Int → Int → Option (List (List (List (Int × Int × Int))))
 | 0, _, _, _, _, _, _, _, _ => none
 | k + 1, b1_0, b1_1, b1_2, o2, o3, v1, v14, v15 =>
  if decide (v15 < v14) = true then if (0 : Int) ≤ v15 then if v15 < (↑(List.length o3) : Int) then Option.bind (Z52 k (b1_0, b1_1, b1_2) [(Prod.fst (List.getD o3 (Int.toNat v15) ((0 : Int), (0 : Int), (0 : Int))), Prod.fst (Prod.snd (List.getD o3 (Int.toNat v15) ((0 : Int), (0 : Int), (0 : Int)))), Prod.snd (Prod.snd (List.getD o3 (Int.toNat v15) ((0 : Int), (0 : Int), (0 : Int)))))] v1) fun z2 => if List.length o2 + List.length [z2] ≤ (140737488355328 / 24 : Nat) then Z7a k b1_0 b1_1 b1_2 (o2 ++ [z2]) o3 v1 v14 (wrap64 (v15 + (1 : Int))) else none else none else none else some o2
noncomputable def ZfF : Spec := Spec.mk [OSh.ro, OSh.box (53 : Nat) [Sh.int .i64, Sh.int .i64, Sh.snap (0 : Nat) (Ty.pair (Ty.int .i64) (Ty.int .i64))], OSh.row true (100 : Nat) (Ty.slice (57 : Nat) (Ty.slice (63 : Nat) (Ty.pair (Ty.int .i64) (Ty.pair (Ty.int .i64) (Ty.int .i64))))), OSh.row true (77 : Nat) (Ty.pair (Ty.int .i64) (Ty.pair (Ty.int .i64) (Ty.int .i64)))] [((1 : Nat), TSh.at (Sh.snap (0 : Nat) (Ty.slice (3 : Nat) (Ty.int .i64)))), ((2 : Nat), TSh.at (Sh.ptr (1 : Nat) (0 : Nat))), ((5 : Nat), TSh.at (Sh.sl (2 : Nat))), ((13 : Nat), TSh.at (Sh.sl (3 : Nat))), ((14 : Nat), TSh.at (Sh.int .i64)), ((15 : Nat), TSh.at (Sh.int .i64))]
noncomputable def Zzn : Spec := Spec.mk [OSh.ro, OSh.row true (100 : Nat) (Ty.slice (57 : Nat) (Ty.slice (63 : Nat) (Ty.pair (Ty.int .i64) (Ty.pair (Ty.int .i64) (Ty.int .i64)))))] [((5 : Nat), TSh.at (Sh.sl (1 : Nat)))]
noncomputable def Z6m : LoopDef (Tup Z9A × OutD) := .plain ZfF Zzn (List (List (List (Int × Int × Int)))) (fun k x => Z7a k x.1.2.1.1 x.1.2.1.2.1 x.1.2.1.2.2.1 x.1.2.2.1 x.1.2.2.2.1 x.2.1 x.2.2.2.2.2.1 x.2.2.2.2.2.2.1) (fun z => (((), z, ()), ((), ()))) (fun y => (y.1.2.1)) (fun _ => rfl)
noncomputable def Zc5 : Nat → Int × Int × List (Int × Int) → List (List Int) → Option (List (List (List (Int × Int × Int))))
 | 0, _, _ => none
 | k + 1, p0, p1 =>
  Option.bind (Z52 k (Prod.fst p0, Prod.fst p0.2, Prod.snd p0.2) [] p1) fun z0 => Option.bind (Z6r k (Prod.fst p0, Prod.fst p0.2, Prod.snd p0.2)) fun z1 => Option.bind (Z7a k p0.1 p0.2.1 p0.2.2 [z0] z1 p1 (↑(List.length z1) : Int) (0 : Int)) fun z3 => some z3
noncomputable def Z3S : FnDef := .of Zs4 Z9A (List (List (List (Int × Int × Int)))) (fun k x => Zc5 k x.1 x.2.1) Zpn Zpy ZwW
noncomputable def ZeT : Code := Try.f167.body.getD .skip
noncomputable def Z7o : Ctx (Tup Z9A × OutD) := { T := T, G := [(165, Z2J.E), (148, Z1J.E)], mvs := [], no := 0, n := 29, res := resOf T Zs4 Z9A Try.f167.results.toList, loops := [(0, Z6m.E)], regs := [], conds := [] }
theorem Zrx (k : Nat) : EnvOK Try.prog k Z7o.G := (EnvOK.cons (Zgf k) (EnvOK.cons (ZfC k) (EnvOK.nil mixed)))
noncomputable def ZbQ : Code := (findLoop 0 ZeT).getD .skip
theorem Zyz (k : Nat) (x : ZfF.D) : Z6m.lp (k + 1) x = loopK Z7o Z6m 0 ZbQ k x := by kernel_rfl
theorem Zzr (k : Nat) : LOK Try.prog Z7o k ZbQ := LOK.by [] (by kernel_rfl) AllOK.nil
theorem Zzh (x : ZfF.D) : Z6m.lp 0 x = none := by kernel_rfl
theorem Zy3 (k : Nat) : EOK Try.prog Z7o k Z6m.E (.block 0 (.loop ZbQ)) := Z7 T_ok Zrx Zzh Zyz Zzr k
theorem ZED (k : Nat) (x : Tup Z3S.ps) : Z3S.f (k + 1) x = fnK Z3S Z7o ZeT k x := by kernel_rfl
theorem ZEe (x : Tup Z3S.ps) : Z3S.f 0 x = none := by kernel_rfl
theorem ZEH (k : Nat) : LOK Try.prog Z7o k ZeT := LOK.by [(Z6m.E, .block 0 (.loop ZbQ))] (by kernel_rfl) (AllOK.cons (Zy3 k) AllOK.nil)
theorem Zrd (k : Nat) : SoundAt Try.prog k 167 Z3S.E := @Z4 Try.prog Z3S Z7o 167 Try.f167 ZeT (by kernel_rfl) (by kernel_rfl) (by kernel_rfl) Try.func167 (by kernel_rfl) (by kernel_rfl) (by kernel_rfl) T_ok Zrx ZEH ZEe ZED k
noncomputable def Z3r : List PK := [PK.mk (Ty.pair (Ty.int .i64) (Ty.pair (Ty.int .i64) (Ty.slice (79 : Nat) (Ty.pair (Ty.int .i64) (Ty.int .i64))))) true none false none]
noncomputable def Zh3 : List PK := [PK.mk (Ty.pair (Ty.slice (5 : Nat) (Ty.int .u8)) (Ty.pair (Ty.int .i64) (Ty.int .u64))) false none false (some (114 : Nat))]
noncomputable def ZfS (r : (Int × Int × List (Int × Int)) × Int × Int) : Tup Z3r × OutD := ((r.1, ()), some ⟨Ty.pair (Ty.slice (5 : Nat) (Ty.int .u8)) (Ty.pair (Ty.int .i64) (Ty.int .u64)), [([], r.2)]⟩)
noncomputable def Zbv : Tup Z3r × OutD → Option ((Int × Int × List (Int × Int)) × Int × Int)
 | (a, some ⟨u, ys⟩) => if h : u = Ty.pair (Ty.slice (5 : Nat) (Ty.int .u8)) (Ty.pair (Ty.int .i64) (Ty.int .u64)) then (match castU h ys with
  | [([], y)] => some (a.1, y)
  | _ => none) else none
 | _ => none
theorem Zme : ∀ b r, Zbv b = some r → ZfS r = b := by
 rintro ⟨a, o⟩ r h
 cases o with
 | none => cases h
 | some s =>
  obtain ⟨u, ys⟩ := s
  simp only [Zbv] at h
  split at h
  ·rename_i hu
   subst hu
   match ys, h with
   | [], h => cases (show (none : Option _) = some r from h)
   | [([], y)], h => injection (show some _ = some r from h) with h; subst h; rfl
   | [(_ :: _, y)], h => cases (show (none : Option _) = some r from h)
   | (h1, _) :: _ :: _, h => cases h1 <;> cases (show (none : Option _) = some r from h)
  ·cases h
noncomputable def Z1v : Nat → Int → Int → List Int → Int → Int → List (Int × Int) → Int → Int → List (Int × Int) → Option (Int × Int × List Int × Int × Int × List (Int × Int) × Int × Int × List (Int × Int)) := fun k b1_1 b1_2 o2 b3_0 b3_1 o4 b5_0 b5_1 o6 =>
    Option.bind (Z1 k (o2, b1_1, b1_2) (↑(List.length o6) : Int)) fun z4 => Option.bind (Z1p k (o2, Prod.fst z4.2, Prod.snd z4.2)) fun z5 => if (0 : Int) ≤ Prod.fst z4 then if Prod.fst z4 < (↑(List.length o6) : Int) then some (Prod.fst z5.2, Prod.snd z5.2, o2, b3_0, b3_1, o4, b5_0, b5_1, List.set o6 (Int.toNat z4.1) (Prod.fst z5.1, Prod.snd z5.1)) else none else none
noncomputable def Z5P : Nat → Int → Int → List Int → Int → Int → List (Int × Int) → Int → Int → List (Int × Int) → Option (List (Int × Int × List Int × Int × Int × List (Int × Int) × Int × Int × List (Int × Int))) := fun k b1_1 b1_2 o2 b3_0 b3_1 o4 b5_0 b5_1 o6 =>
    joinL (Option.bind (Z1 k (o2, b1_1, b1_2) (↑(List.length o6) : Int)) fun z6 => Option.bind (Z1p k (o2, Prod.fst z6.2, Prod.snd z6.2)) fun z7 => if (0 : Int) ≤ Prod.fst z6 then if Prod.fst z6 < (↑(List.length o6) : Int) then some [(Prod.fst z7.2, Prod.snd z7.2, o2, b3_0, b3_1, o4, b5_0, b5_1, List.set o6 (Int.toNat z6.1) (Prod.fst z7.1, Prod.snd z7.1))] else none else none) (Option.bind (Z1 k (o2, b1_1, b1_2) (↑(List.length o6) : Int)) fun z8 => joinL (Option.bind (Z1p k (o2, Prod.fst z8.2, Prod.snd z8.2)) fun z9 => if (0 : Int) ≤ Prod.fst z8 then if Prod.fst z8 < (↑(List.length o6) : Int) then some [(Prod.fst z9.2, Prod.snd z9.2, o2, b3_0, b3_1, o4, b5_0, b5_1, List.set o6 (Int.toNat z8.1) (Prod.fst z9.1, Prod.snd z9.1))] else none else none) (Option.bind (Z1p k (o2, Prod.fst z8.2, Prod.snd z8.2)) fun z10 => if (0 : Int) ≤ Prod.fst z8 then if Prod.fst z8 < (↑(List.length o6) : Int) then some [(Prod.fst z10.2, Prod.snd z10.2, o2, b3_0, b3_1, o4, b5_0, b5_1, List.set o6 (Int.toNat z8.1) (Prod.fst z10.1, Prod.snd z10.1))] else none else none))
noncomputable def ZdW : Spec := Spec.mk [OSh.ro, OSh.box (114 : Nat) [Sh.sl (2 : Nat), Sh.int .i64, Sh.int .u64], OSh.fx (Ty.int .u8), OSh.box (53 : Nat) [Sh.int .i64, Sh.int .i64, Sh.sl (4 : Nat)], OSh.row true (79 : Nat) (Ty.pair (Ty.int .i64) (Ty.int .i64)), OSh.box (53 : Nat) [Sh.int .i64, Sh.int .i64, Sh.sl (6 : Nat)], OSh.row true (79 : Nat) (Ty.pair (Ty.int .i64) (Ty.int .i64))] [((0 : Nat), TSh.at (Sh.ptr (1 : Nat) (0 : Nat))), ((2 : Nat), TSh.at (Sh.ptr (3 : Nat) (0 : Nat))), ((3 : Nat), TSh.at (Sh.ptr (5 : Nat) (0 : Nat)))]
noncomputable def Zmd : Spec := Spec.mk [OSh.ro, OSh.box (114 : Nat) [Sh.sl (2 : Nat), Sh.int .i64, Sh.int .u64], OSh.fx (Ty.int .u8), OSh.box (53 : Nat) [Sh.int .i64, Sh.int .i64, Sh.sl (4 : Nat)], OSh.row true (79 : Nat) (Ty.pair (Ty.int .i64) (Ty.int .i64)), OSh.box (53 : Nat) [Sh.int .i64, Sh.int .i64, Sh.sl (6 : Nat)], OSh.row true (79 : Nat) (Ty.pair (Ty.int .i64) (Ty.int .i64))] [((2 : Nat), TSh.at (Sh.ptr (3 : Nat) (0 : Nat))), ((3 : Nat), TSh.at (Sh.ptr (5 : Nat) (0 : Nat)))]
noncomputable def Z1Z : LoopDef (Tup Z3r × OutD) := .plain ZdW Zmd (Int × Int × List Int × Int × Int × List (Int × Int) × Int × Int × List (Int × Int)) (fun k x => Z1v k x.1.2.1.2.1 x.1.2.1.2.2.1 x.1.2.2.1 x.1.2.2.2.1.1 x.1.2.2.2.1.2.1 x.1.2.2.2.2.1 x.1.2.2.2.2.2.1.1 x.1.2.2.2.2.2.1.2.1 x.1.2.2.2.2.2.2.1) (fun z => (((), ((), z.1, z.2.1, ()), z.2.2.1, (z.2.2.2.1, z.2.2.2.2.1, (), ()), z.2.2.2.2.2.1, (z.2.2.2.2.2.2.1, z.2.2.2.2.2.2.2.1, (), ()), z.2.2.2.2.2.2.2.2, ()), ((), (), ()))) (fun y => (y.1.2.1.2.1, y.1.2.1.2.2.1, y.1.2.2.1, y.1.2.2.2.1.1, y.1.2.2.2.1.2.1, y.1.2.2.2.2.1, y.1.2.2.2.2.2.1.1, y.1.2.2.2.2.2.1.2.1, y.1.2.2.2.2.2.2.1)) (fun _ => rfl)
theorem Zmp (k : Nat) (b1_1 : Int) (b1_2 : Int) (o2 : List Int) (b3_0 : Int) (b3_1 : Int) (o4 : List (Int × Int)) (b5_0 : Int) (b5_1 : Int) (o6 : List (Int × Int)) : Z5P k b1_1 b1_2 o2 b3_0 b3_1 o4 b5_0 b5_1 o6 = repl 3 (Z1v k b1_1 b1_2 o2 b3_0 b3_1 o4 b5_0 b5_1 o6) := by
 first
 | (simp only [Z5P, Z1v, Zz, ZT, Zx, Zy, Zw, Za, if_true]; done)
 | (simp only [Z5P, Z1v, Zz, ZT, Zx, Zy, Zw, Za, if_true]; simp only [Z2E, Z2G, Z5g, Za]; simp only [Z72]; exact Z3w ⟨fun h => by simp only [h, and_self], fun h => by simp only [h, and_self]⟩)
noncomputable def ZA : Nat → List Int × Int × Int → Option ((Int × Int × List (Int × Int)) × Int × Int)
 | 0, _ => none
 | k + 1, p0 =>
  Option.bind (Z7K k (Prod.fst p0, Prod.fst p0.2, Prod.snd p0.2)) fun z0 => Option.bind (Z1 k (Prod.fst p0, Prod.fst z0.2, Prod.snd z0.2) (36 : Int)) fun z1 => if decide (Prod.fst z1 = (0 : Int)) = true then Option.bind (Zh k (Prod.fst p0, Prod.fst z1.2, Prod.snd z1.2) [(0 : Int), wrap64 (Prod.fst z0.1 + (1 : Int)), (10 : Int), (11 : Int)]) fun z2 => some ((Prod.fst z2, Prod.fst z0.1.2, Prod.snd z0.1.2), Prod.fst z2.2, Prod.snd z2.2) else if decide (Prod.fst z1 = (1 : Int)) = true then Option.bind (Zh k (Prod.fst p0, Prod.fst z1.2, Prod.snd z1.2) [(0 : Int), wrap64 (Prod.fst z0.1.2 + (1 : Int)), (9 : Int), (10 : Int)]) fun z3 => some ((Prod.fst z0.1, Prod.fst z3, Prod.snd z0.1.2), Prod.fst z3.2, Prod.snd z3.2) else if decide (Prod.fst z1 = (2 : Int)) = true then Option.bind (Z1v k z1.2.1 z1.2.2 p0.1 (0 : Int) (0 : Int) [] z0.1.1 z0.1.2.1 z0.1.2.2) fun z11 => some ((Prod.fst z11.2.2.2.2.2.2, Prod.fst z11.2.2.2.2.2.2.2, Prod.snd z11.2.2.2.2.2.2.2), Prod.fst z11, Prod.fst z11.2) else if decide (Prod.fst z1 = (3 : Int)) = true then if (1 : Int) ≤ (↑(List.length z0.1.2.2) : Int) then if (↑(List.length z0.1.2.2) : Int) ≤ (↑(List.length z0.1.2.2) : Int) then some ((Prod.fst z0.1, Prod.fst z0.1.2, List.drop (Int.toNat (1 : Int)) z0.1.2.2), Prod.fst z1.2, Prod.snd z1.2) else none else none else if decide (Prod.fst z1 = (4 : Int)) = true then some (((11 : Int), (2 : Int), List.replicate (Int.toNat (22 : Int)) ((0 : Int), (0 : Int))), Prod.fst z1.2, Prod.snd z1.2) else if decide (Prod.fst z1 = (5 : Int)) = true then some (((2 : Int), (10 : Int), List.replicate (Int.toNat (20 : Int)) ((0 : Int), (0 : Int))), Prod.fst z1.2, Prod.snd z1.2) else some ((Prod.fst z0.1, Prod.fst z0.1.2, Prod.snd z0.1.2), Prod.fst z1.2, Prod.snd z1.2)
noncomputable def Z1e : FnDef := .of Zh3 Z3r ((Int × Int × List (Int × Int)) × Int × Int) (fun k x => ZA k x.1) ZfS Zbv Zme
noncomputable def Z8b : Code := Try.f177.body.getD .skip
noncomputable def Z11 : Ctx (Tup Z3r × OutD) := { T := T, G := [(202, Z2v.E), (111, Zm.E), (90, ZQ.E), (203, Z1T.E)], mvs := [42], no := 2, n := 53, res := resOf T Zh3 Z3r Try.f177.results.toList, loops := [], regs := [(8, Z1Z.E)], conds := [] }
theorem ZgS (k : Nat) : EnvOK Try.prog k Z11.G := (EnvOK.cons (ZwE k) (EnvOK.cons (Z1n k) (EnvOK.cons (Z5D k) (EnvOK.cons (Zu1 k) (EnvOK.nil mixed)))))
noncomputable def Z93 : Array Oper := (findReg 8 Z8b).getD #[]
theorem Zm3 (k : Nat) (x : ZdW.D) : execD Z11.T Z11.G Z11.mvs k Z93 (Z1Z.inp.st Z11.n x) (outK Z11 Z1Z) = Z5P k x.1.2.1.2.1 x.1.2.1.2.2.1 x.1.2.2.1 x.1.2.2.2.1.1 x.1.2.2.2.1.2.1 x.1.2.2.2.2.1 x.1.2.2.2.2.2.1.1 x.1.2.2.2.2.2.1.2.1 x.1.2.2.2.2.2.2.1 := by kernel_rfl
theorem Zle (k : Nat) : EOK Try.prog Z11 k Z1Z.E (.region 8 Z93 true) := Z9Z (D := Z1Z) (m := 3) T_ok (ZgS k) (fun x => (Zm3 k x).trans (Zmp k x.1.2.1.2.1 x.1.2.1.2.2.1 x.1.2.2.1 x.1.2.2.2.1.1 x.1.2.2.2.1.2.1 x.1.2.2.2.2.1 x.1.2.2.2.2.2.1.1 x.1.2.2.2.2.2.1.2.1 x.1.2.2.2.2.2.2.1))
theorem Zs9 (k : Nat) (x : Tup Z1e.ps) : Z1e.f (k + 1) x = fnK Z1e Z11 Z8b k x := by kernel_rfl
theorem ZrZ (x : Tup Z1e.ps) : Z1e.f 0 x = none := by kernel_rfl
theorem Zsi (k : Nat) : LOK Try.prog Z11 k Z8b := LOK.by [(Z1Z.E, .region 8 Z93 true)] (by kernel_rfl) (AllOK.cons (Zle k) AllOK.nil)
theorem ZgR (k : Nat) : SoundAt Try.prog k 177 Z1e.E := @Z4 Try.prog Z1e Z11 177 Try.f177 Z8b (by kernel_rfl) (by kernel_rfl) (by kernel_rfl) Try.func177 (by kernel_rfl) (by kernel_rfl) (by kernel_rfl) T_ok ZgS Zsi ZrZ Zs9 k
end
end Go.Proofs.Ytgjmhbjdhihgaaa.Vs
