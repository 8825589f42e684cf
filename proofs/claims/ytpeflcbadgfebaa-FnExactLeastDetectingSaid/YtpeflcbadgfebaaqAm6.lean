/- The proof, part 7. -/
import Derived.Test.YtpeflcbadgfebaaqAm5
set_option maxRecDepth 100000
set_option maxHeartbeats 2000000
set_option linter.unusedVariables false
set_option linter.unusedSimpArgs false
namespace Go.Proofs.Ytpeflcbadgfebaa.Vs
open Go.RowKit
noncomputable section
noncomputable def Z8R : List PK := [PK.mk (Ty.pair (Ty.int .i64) (Ty.pair (Ty.int .i64) (Ty.slice (73 : Nat) (Ty.pair (Ty.int .i64) (Ty.int .i64))))) true none false none]
noncomputable def Zl6 : List PK := [PK.mk (Ty.pair (Ty.int .i64) (Ty.pair (Ty.int .i64) (Ty.slice (75 : Nat) (Ty.pair (Ty.int .i64) (Ty.int .i64))))) true none false none]
noncomputable def Zjf (r : Int × Int × List (Int × Int)) : Tup Z8R × OutD := ((r, ()), none)
noncomputable def Zj8 : Tup Z8R × OutD → Option (Int × Int × List (Int × Int))
 | (a, none) => some (a.1)
 | _ => none
theorem Zqa : ∀ b r, Zj8 b = some r → Zjf r = b := by
 rintro ⟨a, o⟩ r h
 cases o with
 | none => injection h with h; subst h; rfl
 | some _ => cases h
noncomputable def Z16 : Nat → Int × Int × List (Int × Int) → Option (Int × Int × List (Int × Int))
 | 0, _ => none
 | k + 1, p0 =>
  Option.bind (Zbn k p0.2.2) fun z0 => some (Prod.fst p0, Prod.fst p0.2, z0)
noncomputable def Z2p : FnDef := .of Zl6 Z8R (Int × Int × List (Int × Int)) (fun k x => Z16 k x.1) Zjf Zj8 Zqa
noncomputable def ZeX : Code := Try.f9.body.getD .skip
noncomputable def Zb8 : Ctx (Tup Z8R × OutD) := { T := T, G := [(39, Z3D.E)], mvs := [], no := 0, n := 15, res := resOf T Zl6 Z8R Try.f9.results.toList, loops := [], regs := [], conds := [], cuts := [] }
theorem ZwF (k : Nat) : EnvOK Try.prog k Zb8.G := (EnvOK.cons (ZxT k) (EnvOK.nil mixed))
theorem Zxa (k : Nat) (x : Tup Z2p.ps) : Z2p.f (k + 1) x = fnK Z2p Zb8 ZeX k x := by kernel_rfl
theorem Zxi (x : Tup Z2p.ps) : Z2p.f 0 x = none := by kernel_rfl
theorem ZwN (k : Nat) : LOK Try.prog Zb8 k ZeX := LOK.by [] (by kernel_rfl) AllOK.nil
theorem Zkw (k : Nat) : SoundAt Try.prog k 9 Z2p.E := @Z1 Try.prog Z2p Zb8 9 Try.f9 ZeX (by kernel_rfl) (by kernel_rfl) (by kernel_rfl) Try.func9 (by kernel_rfl) (by kernel_rfl) (by kernel_rfl) T_ok ZwF ZwN Zxi Zxa k
noncomputable def Z8K : List PK := [PK.mk Ty.bool false none false none]
noncomputable def Zl4 : List PK := [PK.mk (Ty.pair (Ty.int .i64) (Ty.pair (Ty.int .i64) (Ty.slice (73 : Nat) (Ty.pair (Ty.int .i64) (Ty.int .i64))))) true none false none, PK.mk (Ty.pair (Ty.int .i64) (Ty.pair (Ty.int .i64) (Ty.slice (73 : Nat) (Ty.pair (Ty.int .i64) (Ty.int .i64))))) true none false none]
noncomputable def Zji (r : Bool) : Tup Z8K × OutD := ((r, ()), none)
noncomputable def Zjt : Tup Z8K × OutD → Option (Bool)
 | (a, none) => some (a.1)
 | _ => none
theorem Zq5 : ∀ b r, Zjt b = some r → Zji r = b := by
 rintro ⟨a, o⟩ r h
 cases o with
 | none => injection h with h; subst h; rfl
 | some _ => cases h
noncomputable def Z8S : Nat → Int × Int × List (Int × Int) → Int × Int × List (Int × Int) → Option Bool
 | 0, _, _ => none
 | k + 1, p0, p1 =>
  if decide (Prod.fst p0 ≠ Prod.fst p1) = true then some false else if decide (Prod.fst p0.2 ≠ Prod.fst p1.2) = true then some false else Option.bind (Zbu k p0.2.2 p1.2.2) fun z0 => if (!z0) = true then some false else some true
noncomputable def Z2l : FnDef := .of Zl4 Z8K (Bool) (fun k x => Z8S k x.1 x.2.1) Zji Zjt Zq5
noncomputable def ZeY : Code := Try.f13.body.getD .skip
noncomputable def Zbh : Ctx (Tup Z8K × OutD) := { T := T, G := [(47, Z3M.E)], mvs := [], no := 0, n := 21, res := resOf T Zl4 Z8K Try.f13.results.toList, loops := [], regs := [], conds := [], cuts := [] }
theorem ZxC (k : Nat) : EnvOK Try.prog k Zbh.G := (EnvOK.cons (ZwV k) (EnvOK.nil mixed))
theorem Zwz (k : Nat) (x : Tup Z2l.ps) : Z2l.f (k + 1) x = fnK Z2l Zbh ZeY k x := by kernel_rfl
theorem Zx3 (x : Tup Z2l.ps) : Z2l.f 0 x = none := by kernel_rfl
theorem Zxf (k : Nat) : LOK Try.prog Zbh k ZeY := LOK.by [] (by kernel_rfl) AllOK.nil
theorem ZkQ (k : Nat) : SoundAt Try.prog k 13 Z2l.E := @Z1 Try.prog Z2l Zbh 13 Try.f13 ZeY (by kernel_rfl) (by kernel_rfl) (by kernel_rfl) Try.func13 (by kernel_rfl) (by kernel_rfl) (by kernel_rfl) T_ok ZxC Zxf Zx3 Zwz k
noncomputable def Z3g : List PK := [PK.mk (Ty.slice (28 : Nat) (Ty.slice (3 : Nat) (Ty.int .i64))) false none false none]
noncomputable def Zi7 : List PK := [PK.mk (Ty.slice (69 : Nat) (Ty.slice (71 : Nat) (Ty.slice (94 : Nat) (Ty.pair (Ty.int .i64) (Ty.pair (Ty.int .i64) (Ty.int .i64)))))) false none false none, PK.mk (Ty.slice (3 : Nat) (Ty.int .i64)) false none false none]
noncomputable def Zgj (r : List (List Int)) : Tup Z3g × OutD := ((r, ()), none)
noncomputable def Zg8 : Tup Z3g × OutD → Option (List (List Int))
 | (a, none) => some (a.1)
 | _ => none
theorem Zn3 : ∀ b r, Zg8 b = some r → Zgj r = b := by
 rintro ⟨a, o⟩ r h
 cases o with
 | none => injection h with h; subst h; rfl
 | some _ => cases h
noncomputable def Z3q : Nat → List (List Int) → List (List (List (Int × Int × Int))) → List Int → Int → Int → Int → Int → Option (List (List Int) × List (List (List (Int × Int × Int))) × List Int × Int × Int × Int × Int)
 | 0, _, _, _, _, _, _, _ => none
 | k + 1, o1, v0, v1, v6, v7, v10, v11 =>
  if decide (v7 < (↑(List.length o1) : Int)) = true then if (0 : Int) ≤ v7 then if v7 < (↑(List.length o1) : Int) then if (0 : Int) < (↑(List.length (List.getD o1 (Int.toNat v7) [])) : Int) then if (0 : Int) ≤ wrap64 (List.getD (List.getD o1 (Int.toNat v7) []) (Int.toNat (0 : Int)) (0 : Int) + (1 : Int)) then if wrap64 (List.getD (List.getD o1 (Int.toNat v7) []) (Int.toNat (0 : Int)) (0 : Int) + (1 : Int)) < (↑(List.length v0) : Int) then if (0 : Int) ≤ v6 then if v6 < (↑(List.length v0) : Int) then Option.bind (Z8T k (List.getD v0 (Int.toNat (wrap64 (List.getD (List.getD o1 (Int.toNat v7) []) (Int.toNat (0 : Int)) (0 : Int) + (1 : Int)))) []) (List.getD v0 (Int.toNat v6) []) v1) fun z0 => if (!z0) = true then Z3q k o1 v0 v1 v6 (wrap64 (v7 + (1 : Int))) v10 v11 else some (o1, v0, v1, v6, v7, v10, v11) else none else none else none else none else none else none else none else some (o1, v0, v1, v6, v7, v10, v11)
noncomputable def Zag : Spec := Spec.mk [OSh.ro, OSh.row true (28 : Nat) (Ty.slice (3 : Nat) (Ty.int .i64))] [((0 : Nat), TSh.at (Sh.snap (0 : Nat) (Ty.slice (71 : Nat) (Ty.slice (94 : Nat) (Ty.pair (Ty.int .i64) (Ty.pair (Ty.int .i64) (Ty.int .i64))))))), ((1 : Nat), TSh.at (Sh.snap (0 : Nat) (Ty.int .i64))), ((5 : Nat), TSh.at (Sh.sl (1 : Nat))), ((6 : Nat), TSh.at (Sh.int .i64)), ((7 : Nat), TSh.at (Sh.int .i64)), ((10 : Nat), TSh.at (Sh.int .i64)), ((11 : Nat), TSh.at (Sh.int .i64))]
noncomputable def Zpg : Spec := Spec.mk [OSh.ro, OSh.row true (28 : Nat) (Ty.slice (3 : Nat) (Ty.int .i64))] [((0 : Nat), TSh.at (Sh.snap (0 : Nat) (Ty.slice (71 : Nat) (Ty.slice (94 : Nat) (Ty.pair (Ty.int .i64) (Ty.pair (Ty.int .i64) (Ty.int .i64))))))), ((1 : Nat), TSh.at (Sh.snap (0 : Nat) (Ty.int .i64))), ((5 : Nat), TSh.at (Sh.sl (1 : Nat))), ((6 : Nat), TSh.at (Sh.int .i64)), ((7 : Nat), TSh.at (Sh.int .i64)), ((10 : Nat), TSh.at (Sh.int .i64)), ((11 : Nat), TSh.at (Sh.int .i64))]
noncomputable def Z2Z : LoopDef (Tup Z3g × OutD) := .plain Zag Zpg (List (List Int) × List (List (List (Int × Int × Int))) × List Int × Int × Int × Int × Int) (fun k x => Z3q k x.1.2.1 x.2.1 x.2.2.1 x.2.2.2.2.1 x.2.2.2.2.2.1 x.2.2.2.2.2.2.1 x.2.2.2.2.2.2.2.1) (fun z => (((), z.1, ()), (z.2.1, z.2.2.1, (), z.2.2.2.1, z.2.2.2.2.1, z.2.2.2.2.2.1, z.2.2.2.2.2.2, ()))) (fun y => (y.1.2.1, y.2.1, y.2.2.1, y.2.2.2.2.1, y.2.2.2.2.2.1, y.2.2.2.2.2.2.1, y.2.2.2.2.2.2.2.1)) (fun _ => rfl)
noncomputable def Z27 : Nat → List (List Int) → List (List (List (Int × Int × Int))) → List Int → Int → Int → Option (List (List Int))
 | 0, _, _, _, _, _ => none
 | k + 1, o1, v0, v1, v10, v11 =>
  if decide (v11 < v10) = true then Option.bind (Z3q k o1 v0 v1 v11 (0 : Int) v10 v11) fun z1 => if decide (Prod.fst z1.2.2.2.2 = (↑(List.length z1.1) : Int)) = true then if List.length z1.1 + (1 : Nat) ≤ (140737488355328 / 24 : Nat) then if (0 : Int) ≤ Prod.fst z1.2.2.2.2 then if Prod.fst z1.2.2.2.2 < (↑(List.length (Prod.fst z1 ++ [[]])) : Int) then if List.length (List.getD (Prod.fst z1 ++ [[]]) (Int.toNat z1.2.2.2.2.1) []) + List.length [wrap64 (Prod.fst z1.2.2.2 - (1 : Int))] ≤ (140737488355328 / 8 : Nat) then if (0 : Int) ≤ Prod.fst z1.2.2.2.2 then if Prod.fst z1.2.2.2.2 < (↑(List.length (Prod.fst z1 ++ [[]])) : Int) then if Prod.fst z1.2.2.2.2 = Prod.fst z1.2.2.2.2 then Z27 k (List.set (Prod.fst z1 ++ [[]]) (Int.toNat z1.2.2.2.2.1) (List.getD (Prod.fst z1 ++ [[]]) (Int.toNat z1.2.2.2.2.1) [] ++ [wrap64 (Prod.fst z1.2.2.2 - (1 : Int))])) z1.2.1 z1.2.2.1 z1.2.2.2.2.2.1 (wrap64 (Prod.snd z1.2.2.2.2.2 + (1 : Int))) else none else none else none else none else none else none else none else if (0 : Int) ≤ Prod.fst z1.2.2.2.2 then if Prod.fst z1.2.2.2.2 < (↑(List.length z1.1) : Int) then if List.length (List.getD z1.1 (Int.toNat z1.2.2.2.2.1) []) + List.length [wrap64 (Prod.fst z1.2.2.2 - (1 : Int))] ≤ (140737488355328 / 8 : Nat) then if (0 : Int) ≤ Prod.fst z1.2.2.2.2 then if Prod.fst z1.2.2.2.2 < (↑(List.length z1.1) : Int) then if Prod.fst z1.2.2.2.2 = Prod.fst z1.2.2.2.2 then Z27 k (List.set z1.1 (Int.toNat z1.2.2.2.2.1) (List.getD z1.1 (Int.toNat z1.2.2.2.2.1) [] ++ [wrap64 (Prod.fst z1.2.2.2 - (1 : Int))])) z1.2.1 z1.2.2.1 z1.2.2.2.2.2.1 (wrap64 (Prod.snd z1.2.2.2.2.2 + (1 : Int))) else none else none else none else none else none else none else some o1
noncomputable def Zaf : Spec := Spec.mk [OSh.ro, OSh.row true (28 : Nat) (Ty.slice (3 : Nat) (Ty.int .i64))] [((0 : Nat), TSh.at (Sh.snap (0 : Nat) (Ty.slice (71 : Nat) (Ty.slice (94 : Nat) (Ty.pair (Ty.int .i64) (Ty.pair (Ty.int .i64) (Ty.int .i64))))))), ((1 : Nat), TSh.at (Sh.snap (0 : Nat) (Ty.int .i64))), ((5 : Nat), TSh.at (Sh.sl (1 : Nat))), ((10 : Nat), TSh.at (Sh.int .i64)), ((11 : Nat), TSh.at (Sh.int .i64))]
noncomputable def Zou : Spec := Spec.mk [OSh.ro, OSh.row true (28 : Nat) (Ty.slice (3 : Nat) (Ty.int .i64))] [((5 : Nat), TSh.at (Sh.sl (1 : Nat)))]
noncomputable def Z2U : LoopDef (Tup Z3g × OutD) := .plain Zaf Zou (List (List Int)) (fun k x => Z27 k x.1.2.1 x.2.1 x.2.2.1 x.2.2.2.2.1 x.2.2.2.2.2.1) (fun z => (((), z, ()), ((), ()))) (fun y => (y.1.2.1)) (fun _ => rfl)
noncomputable def Z28 : Nat → List (List (List (Int × Int × Int))) → List Int → Option (List (List Int))
 | 0, _, _ => none
 | k + 1, p0, p1 =>
  Option.bind (Z27 k [] p0 p1 (↑(List.length p0) : Int) (0 : Int)) fun z2 => some z2
noncomputable def Z1p : FnDef := .of Zi7 Z3g (List (List Int)) (fun k x => Z28 k x.1 x.2.1) Zgj Zg8 Zn3
noncomputable def Z77 : Code := Try.f43.body.getD .skip
noncomputable def ZN : Ctx (Tup Z3g × OutD) := { T := T, G := [(65, Z2G.E)], mvs := [], no := 0, n := 59, res := resOf T Zi7 Z3g Try.f43.results.toList, loops := [(2, Z2Z.E), (0, Z2U.E)], regs := [], conds := [], cuts := [] }
theorem ZcR (k : Nat) : EnvOK Try.prog k ZN.G := (EnvOK.cons (ZlJ k) (EnvOK.nil mixed))
noncomputable def Z7o : Code := (findLoop 2 Z77).getD .skip
theorem Zpr (k : Nat) (x : Zag.D) : Z2Z.lp (k + 1) x = loopK ZN Z2Z 2 Z7o k x := by kernel_rfl
theorem Zox (k : Nat) : LOK Try.prog ZN k Z7o := LOK.by [] (by kernel_rfl) AllOK.nil
theorem ZoW (x : Zag.D) : Z2Z.lp 0 x = none := by kernel_rfl
theorem ZmU (k : Nat) : EOK Try.prog ZN k Z2Z.E (.block 2 (.loop Z7o)) := Z2 T_ok ZcR ZoW Zpr Zox k
noncomputable def Z7l : Code := (findLoop 0 Z77).getD .skip
theorem Zp7 (k : Nat) (x : Zaf.D) : Z2U.lp (k + 1) x = loopK ZN Z2U 0 Z7l k x := by kernel_rfl
theorem Zpy (k : Nat) : LOK Try.prog ZN k Z7l := LOK.by [(Z2Z.E, .block 2 (.loop Z7o))] (by kernel_rfl) (AllOK.cons (ZmU k) AllOK.nil)
theorem Zpe (x : Zaf.D) : Z2U.lp 0 x = none := by kernel_rfl
theorem Znt (k : Nat) : EOK Try.prog ZN k Z2U.E (.block 0 (.loop Z7l)) := Z2 T_ok ZcR Zpe Zp7 Zpy k
theorem ZuN (k : Nat) (x : Tup Z1p.ps) : Z1p.f (k + 1) x = fnK Z1p ZN Z77 k x := by kernel_rfl
theorem Zut (x : Tup Z1p.ps) : Z1p.f 0 x = none := by kernel_rfl
theorem ZtJ (k : Nat) : LOK Try.prog ZN k Z77 := LOK.by [(Z2U.E, .block 0 (.loop Z7l))] (by kernel_rfl) (AllOK.cons (Znt k) AllOK.nil)
theorem Zhq (k : Nat) : SoundAt Try.prog k 43 Z1p.E := @Z1 Try.prog Z1p ZN 43 Try.f43 Z77 (by kernel_rfl) (by kernel_rfl) (by kernel_rfl) Try.func43 (by kernel_rfl) (by kernel_rfl) (by kernel_rfl) T_ok ZcR ZtJ Zut ZuN k
noncomputable def Z4c : List PK := [PK.mk (Ty.slice (3 : Nat) (Ty.int .i64)) false none false none]
noncomputable def Zgq : List PK := [PK.mk (Ty.slice (69 : Nat) (Ty.slice (71 : Nat) (Ty.slice (94 : Nat) (Ty.pair (Ty.int .i64) (Ty.pair (Ty.int .i64) (Ty.int .i64)))))) false none false none, PK.mk (Ty.slice (3 : Nat) (Ty.int .i64)) false none false none]
noncomputable def Zft (r : List Int) : Tup Z4c × OutD := ((r, ()), none)
noncomputable def Zfr : Tup Z4c × OutD → Option (List Int)
 | (a, none) => some (a.1)
 | _ => none
theorem ZkS : ∀ b r, Zfr b = some r → Zft r = b := by
 rintro ⟨a, o⟩ r h
 cases o with
 | none => injection h with h; subst h; rfl
 | some _ => cases h
noncomputable def Z1O : Nat → List Int → List (List (List (Int × Int × Int))) → List Int → Int → Option (List Int)
 | 0, _, _, _, _ => none
 | k + 1, o1, v0, v1, v6 =>
  if decide (v6 < (↑(List.length v0) : Int)) = true then if (0 : Int) < (↑(List.length v0) : Int) then if (0 : Int) ≤ v6 then if v6 < (↑(List.length v0) : Int) then Option.bind (Z8T k (List.getD v0 (Int.toNat (0 : Int)) []) (List.getD v0 (Int.toNat v6) []) v1) fun z0 => if (!z0) = true then if List.length o1 + List.length [wrap64 (v6 - (1 : Int))] ≤ (140737488355328 / 8 : Nat) then Z1O k (o1 ++ [wrap64 (v6 - (1 : Int))]) v0 v1 (wrap64 (v6 + (1 : Int))) else none else Z1O k o1 v0 v1 (wrap64 (v6 + (1 : Int))) else none else none else none else some o1
noncomputable def Z9b : Spec := Spec.mk [OSh.ro, OSh.row true (3 : Nat) (Ty.int .i64)] [((0 : Nat), TSh.at (Sh.snap (0 : Nat) (Ty.slice (71 : Nat) (Ty.slice (94 : Nat) (Ty.pair (Ty.int .i64) (Ty.pair (Ty.int .i64) (Ty.int .i64))))))), ((1 : Nat), TSh.at (Sh.snap (0 : Nat) (Ty.int .i64))), ((5 : Nat), TSh.at (Sh.sl (1 : Nat))), ((6 : Nat), TSh.at (Sh.int .i64))]
noncomputable def ZmZ : Spec := Spec.mk [OSh.ro, OSh.row true (3 : Nat) (Ty.int .i64)] [((5 : Nat), TSh.at (Sh.sl (1 : Nat)))]
noncomputable def Z2y : LoopDef (Tup Z4c × OutD) := .plain Z9b ZmZ (List Int) (fun k x => Z1O k x.1.2.1 x.2.1 x.2.2.1 x.2.2.2.2.1) (fun z => (((), z, ()), ((), ()))) (fun y => (y.1.2.1)) (fun _ => rfl)
noncomputable def Z1H : Nat → List (List (List (Int × Int × Int))) → List Int → Option (List Int)
 | 0, _, _ => none
 | k + 1, p0, p1 =>
  Option.bind (Z1O k [] p0 p1 (1 : Int)) fun z1 => some z1
noncomputable def Z11 : FnDef := .of Zgq Z4c (List Int) (fun k x => Z1H k x.1 x.2.1) Zft Zfr ZkS
noncomputable def Z8x : Code := Try.f50.body.getD .skip
noncomputable def Z2H : Ctx (Tup Z4c × OutD) := { T := T, G := [(65, Z2G.E)], mvs := [], no := 0, n := 30, res := resOf T Zgq Z4c Try.f50.results.toList, loops := [(0, Z2y.E)], regs := [], conds := [], cuts := [] }
theorem ZgM (k : Nat) : EnvOK Try.prog k Z2H.G := (EnvOK.cons (ZlJ k) (EnvOK.nil mixed))
noncomputable def Z6y : Code := (findLoop 0 Z8x).getD .skip
theorem Zmq (k : Nat) (x : Z9b.D) : Z2y.lp (k + 1) x = loopK Z2H Z2y 0 Z6y k x := by kernel_rfl
theorem Zmu (k : Nat) : LOK Try.prog Z2H k Z6y := LOK.by [] (by kernel_rfl) AllOK.nil
theorem Zn1 (x : Z9b.D) : Z2y.lp 0 x = none := by kernel_rfl
theorem Zls (k : Nat) : EOK Try.prog Z2H k Z2y.E (.block 0 (.loop Z6y)) := Z2 T_ok ZgM Zn1 Zmq Zmu k
theorem ZrV (k : Nat) (x : Tup Z11.ps) : Z11.f (k + 1) x = fnK Z11 Z2H Z8x k x := by kernel_rfl
theorem Zrx (x : Tup Z11.ps) : Z11.f 0 x = none := by kernel_rfl
theorem ZrG (k : Nat) : LOK Try.prog Z2H k Z8x := LOK.by [(Z2y.E, .block 0 (.loop Z6y))] (by kernel_rfl) (AllOK.cons (Zls k) AllOK.nil)
theorem ZgA (k : Nat) : SoundAt Try.prog k 50 Z11.E := @Z1 Try.prog Z11 Z2H 50 Try.f50 Z8x (by kernel_rfl) (by kernel_rfl) (by kernel_rfl) Try.func50 (by kernel_rfl) (by kernel_rfl) (by kernel_rfl) T_ok ZgM ZrG Zrx ZrV k
noncomputable def Z6Z : List PK := [PK.mk Ty.bool false none false none]
noncomputable def ZkT : List PK := [PK.mk (Ty.pair (Ty.int .i64) (Ty.pair (Ty.int .i64) (Ty.slice (73 : Nat) (Ty.pair (Ty.int .i64) (Ty.int .i64))))) true none false none, PK.mk (Ty.slice (28 : Nat) (Ty.slice (3 : Nat) (Ty.int .i64))) false none false none]
noncomputable def Zdy (r : Bool) : Tup Z6Z × OutD := ((r, ()), none)
noncomputable def Ze4 : Tup Z6Z × OutD → Option (Bool)
 | (a, none) => some (a.1)
 | _ => none
theorem Zfv : ∀ b r, Ze4 b = some r → Zdy r = b := by
 rintro ⟨a, o⟩ r h
 cases o with
 | none => injection h with h; subst h; rfl
 | some _ => cases h
noncomputable def Z54 : Nat → Int → Int → List (Int × Int) → List (List Int) → List (List Int) → Int → Int → Option (LR (List (List Int)) Bool)
 | 0, _, _, _, _, _, _, _ => none
 | k + 1, b1_0, b1_1, b1_2, v1, v7, v8, v9 =>
  if decide (v9 < v8) = true then if (0 : Int) ≤ v9 then if v9 < (↑(List.length v7) : Int) then if decide ((↑(List.length (List.getD v7 (Int.toNat v9) [])) : Int) > (8 : Int)) = true then some (LR.ret false) else Option.bind (Ze9 k (List.getD v7 (Int.toNat v9) []) (0 : Int) (wrap64 (b1_1 - (1 : Int)))) fun z0 => if (!z0) = true then some (LR.ret false) else Z54 k b1_0 b1_1 b1_2 v1 v7 v8 (wrap64 (v9 + (1 : Int))) else none else none else some (LR.go v1)
noncomputable def ZbL : Spec := Spec.mk [OSh.ro, OSh.box (33 : Nat) [Sh.int .i64, Sh.int .i64, Sh.snap (0 : Nat) (Ty.pair (Ty.int .i64) (Ty.int .i64))]] [((1 : Nat), TSh.at (Sh.snap (0 : Nat) (Ty.slice (3 : Nat) (Ty.int .i64)))), ((2 : Nat), TSh.at (Sh.ptr (1 : Nat) (0 : Nat))), ((7 : Nat), TSh.at (Sh.snap (0 : Nat) (Ty.slice (3 : Nat) (Ty.int .i64)))), ((8 : Nat), TSh.at (Sh.int .i64)), ((9 : Nat), TSh.at (Sh.int .i64))]
noncomputable def ZrH : Spec := Spec.mk [OSh.ro] [((1 : Nat), TSh.at (Sh.snap (0 : Nat) (Ty.slice (3 : Nat) (Ty.int .i64))))]
noncomputable def Z4f : LoopDef (Tup Z6Z × OutD) := .rets ZbL ZrH (List (List Int)) (Bool) (fun k x => Z54 k x.1.2.1.1 x.1.2.1.2.1 x.1.2.1.2.2.1 x.2.1 x.2.2.2.1 x.2.2.2.2.1 x.2.2.2.2.2.1) (fun z => (((), ()), (z, ()))) (fun y => (y.2.1)) (fun _ => rfl) Zdy Ze4 Zfv
noncomputable def Zbd : Nat → Int × Int × List (Int × Int) → List (List Int) → Option Bool
 | 0, _, _ => none
 | k + 1, p0, p1 =>
  Option.bind (Z54 k p0.1 p0.2.1 p0.2.2 p1 p1 (↑(List.length p1) : Int) (0 : Int)) fun z1 => LR.on z1 (fun y1 => some (decide ((↑(List.length y1) : Int) ≤ (10 : Int)))) fun r1 => some r1
noncomputable def Z3K : FnDef := .of ZkT Z6Z (Bool) (fun k x => Zbd k x.1 x.2.1) Zdy Ze4 Zfv
noncomputable def Zbi : Code := Try.f57.body.getD .skip
noncomputable def Z5q : Ctx (Tup Z6Z × OutD) := { T := T, G := [(72, Z5J.E)], mvs := [], no := 0, n := 28, res := resOf T ZkT Z6Z Try.f57.results.toList, loops := [(0, Z4f.E)], regs := [], conds := [], cuts := [] }
theorem Zmd (k : Nat) : EnvOK Try.prog k Z5q.G := (EnvOK.cons (ZAv k) (EnvOK.nil mixed))
noncomputable def Z8z : Code := (findLoop 0 Zbi).getD .skip
theorem Zst (k : Nat) (x : ZbL.D) : Z4f.lp (k + 1) x = loopK Z5q Z4f 0 Z8z k x := by kernel_rfl
theorem Zsh (k : Nat) : LOK Try.prog Z5q k Z8z := LOK.by [] (by kernel_rfl) AllOK.nil
theorem Zsu (x : ZbL.D) : Z4f.lp 0 x = none := by kernel_rfl
theorem ZpJ (k : Nat) : EOK Try.prog Z5q k Z4f.E (.block 0 (.loop Z8z)) := Z2 T_ok Zmd Zsu Zst Zsh k
theorem ZxJ (k : Nat) (x : Tup Z3K.ps) : Z3K.f (k + 1) x = fnK Z3K Z5q Zbi k x := by kernel_rfl
theorem Zx4 (x : Tup Z3K.ps) : Z3K.f 0 x = none := by kernel_rfl
theorem ZwJ (k : Nat) : LOK Try.prog Z5q k Zbi := LOK.by [(Z4f.E, .block 0 (.loop Z8z))] (by kernel_rfl) (AllOK.cons (ZpJ k) AllOK.nil)
theorem ZxB (k : Nat) : SoundAt Try.prog k 57 Z3K.E := @Z1 Try.prog Z3K Z5q 57 Try.f57 Zbi (by kernel_rfl) (by kernel_rfl) (by kernel_rfl) Try.func57 (by kernel_rfl) (by kernel_rfl) (by kernel_rfl) T_ok Zmd ZwJ Zx4 ZxJ k
noncomputable def Z8N : List PK := [PK.mk Ty.bool false none false none]
noncomputable def Zmb : List PK := [PK.mk (Ty.pair (Ty.int .i64) (Ty.pair (Ty.int .i64) (Ty.slice (73 : Nat) (Ty.pair (Ty.int .i64) (Ty.int .i64))))) true none false none]
noncomputable def ZiW (r : Bool) : Tup Z8N × OutD := ((r, ()), none)
noncomputable def ZiY : Tup Z8N × OutD → Option (Bool)
 | (a, none) => some (a.1)
 | _ => none
theorem Zrk : ∀ b r, ZiY b = some r → ZiW r = b := by
 rintro ⟨a, o⟩ r h
 cases o with
 | none => injection h with h; subst h; rfl
 | some _ => cases h
noncomputable def Z8H : Nat → Int × Int × List (Int × Int) → Option Bool
 | 0, _ => none
 | k + 1, p0 =>
  if decide (Prod.fst p0 ≥ (1 : Int)) = true then if decide (Prod.fst p0 ≤ (10 : Int)) = true then if decide (Prod.fst p0.2 ≥ (1 : Int)) = true then if decide (Prod.fst p0.2 ≤ (9 : Int)) = true then if decide ((↑(List.length p0.2.2) : Int) = wrap64 (Prod.fst p0 * Prod.fst p0.2)) = true then Option.bind (Z8t k p0.2.2) fun z0 => some z0 else some false else some false else some false else some false else some false
noncomputable def Z2k : FnDef := .of Zmb Z8N (Bool) (fun k x => Z8H k x.1) ZiW ZiY Zrk
noncomputable def ZeP : Code := Try.f61.body.getD .skip
noncomputable def Zbq : Ctx (Tup Z8N × OutD) := { T := T, G := [(75, Z1F.E)], mvs := [], no := 0, n := 37, res := resOf T Zmb Z8N Try.f61.results.toList, loops := [], regs := [], conds := [], cuts := [] }
theorem ZwA (k : Nat) : EnvOK Try.prog k Zbq.G := (EnvOK.cons (ZrF k) (EnvOK.nil mixed))
theorem Zxp (k : Nat) (x : Tup Z2k.ps) : Z2k.f (k + 1) x = fnK Z2k Zbq ZeP k x := by kernel_rfl
theorem ZwD (x : Tup Z2k.ps) : Z2k.f 0 x = none := by kernel_rfl
theorem Zxq (k : Nat) : LOK Try.prog Zbq k ZeP := LOK.by [] (by kernel_rfl) AllOK.nil
theorem ZlQ (k : Nat) : SoundAt Try.prog k 61 Z2k.E := @Z1 Try.prog Z2k Zbq 61 Try.f61 ZeP (by kernel_rfl) (by kernel_rfl) (by kernel_rfl) Try.func61 (by kernel_rfl) (by kernel_rfl) (by kernel_rfl) T_ok ZwA Zxq ZwD Zxp k
noncomputable def Z7E : List PK := [PK.mk Ty.bool false none false none]
noncomputable def ZnC : List PK := [PK.mk (Ty.pair (Ty.int .i64) (Ty.pair (Ty.int .i64) (Ty.slice (73 : Nat) (Ty.pair (Ty.int .i64) (Ty.int .i64))))) true none false none]
noncomputable def ZeT (r : Bool) : Tup Z7E × OutD := ((r, ()), none)
noncomputable def ZeC : Tup Z7E × OutD → Option (Bool)
 | (a, none) => some (a.1)
 | _ => none
theorem ZgK : ∀ b r, ZeC b = some r → ZeT r = b := by
 rintro ⟨a, o⟩ r h
 cases o with
 | none => injection h with h; subst h; rfl
 | some _ => cases h
noncomputable def Z66 : Nat → List (Int × Int) → Int → Int → Option (LR Unit Bool)
 | 0, _, _, _ => none
 | k + 1, v27, v28, v29 =>
  if decide (v29 < v28) = true then if (0 : Int) ≤ v29 then if v29 < (↑(List.length v27) : Int) then Option.bind (Zch k (Prod.fst (List.getD v27 (Int.toNat v29) ((0 : Int), (0 : Int))), Prod.snd (List.getD v27 (Int.toNat v29) ((0 : Int), (0 : Int))))) fun z2 => if (!z2) = true then some (LR.ret false) else Z66 k v27 v28 (wrap64 (v29 + (1 : Int))) else none else none else some (LR.go ())
noncomputable def ZcT : Spec := Spec.mk [OSh.ro] [((27 : Nat), TSh.at (Sh.snap (0 : Nat) (Ty.pair (Ty.int .i64) (Ty.int .i64)))), ((28 : Nat), TSh.at (Sh.int .i64)), ((29 : Nat), TSh.at (Sh.int .i64))]
noncomputable def Zv1 : Spec := Spec.mk [OSh.ro] []
noncomputable def Z4S : LoopDef (Tup Z7E × OutD) := .rets ZcT Zv1 (Unit) (Bool) (fun k x => Z66 k x.2.1 x.2.2.1 x.2.2.2.1) (fun z => (((), ()), (()))) (fun y => ()) (fun _ => rfl) ZeT ZeC ZgK
noncomputable def Zcf : Nat → Int × Int × List (Int × Int) → Option Bool
 | 0, _ => none
 | k + 1, p0 =>
  Option.bind (Z6I k p0.1 (1 : Int) (10 : Int)) fun z0 => if (!z0) = true then some false else Option.bind (Z6I k p0.2.1 (1 : Int) (9 : Int)) fun z1 => if (!z1) = true then some false else if decide ((↑(List.length p0.2.2) : Int) ≠ wrap64 (Prod.fst p0 * Prod.fst p0.2)) = true then some false else Option.bind (Z66 k p0.2.2 (↑(List.length p0.2.2) : Int) (0 : Int)) fun z3 => LR.on z3 (fun y3 => some true) fun r3 => some r3
noncomputable def Z4x : FnDef := .of ZnC Z7E (Bool) (fun k x => Zcf k x.1) ZeT ZeC ZgK
noncomputable def Zcu : Code := Try.f71.body.getD .skip
noncomputable def Z6m : Ctx (Tup Z7E × OutD) := { T := T, G := [(85, Z3a.E), (86, Z4z.E)], mvs := [], no := 0, n := 37, res := resOf T ZnC Z7E Try.f71.results.toList, loops := [(0, Z4S.E)], regs := [], conds := [], cuts := [] }
theorem ZnN (k : Nat) : EnvOK Try.prog k Z6m.G := (EnvOK.cons (Zf3 k) (EnvOK.cons (ZyA k) (EnvOK.nil mixed)))
noncomputable def Z9h : Code := (findLoop 0 Zcu).getD .skip
theorem Zu1 (k : Nat) (x : ZcT.D) : Z4S.lp (k + 1) x = loopK Z6m Z4S 0 Z9h k x := by kernel_rfl
theorem Zue (k : Nat) : LOK Try.prog Z6m k Z9h := LOK.by [] (by kernel_rfl) AllOK.nil
theorem Zuw (x : ZcT.D) : Z4S.lp 0 x = none := by kernel_rfl
theorem Zt4 (k : Nat) : EOK Try.prog Z6m k Z4S.E (.block 0 (.loop Z9h)) := Z2 T_ok ZnN Zuw Zu1 Zue k
theorem ZyB (k : Nat) (x : Tup Z4x.ps) : Z4x.f (k + 1) x = fnK Z4x Z6m Zcu k x := by kernel_rfl
theorem Zzo (x : Tup Z4x.ps) : Z4x.f 0 x = none := by kernel_rfl
theorem Zzg (k : Nat) : LOK Try.prog Z6m k Zcu := LOK.by [(Z4S.E, .block 0 (.loop Z9h))] (by kernel_rfl) (AllOK.cons (Zt4 k) AllOK.nil)
theorem Zye (k : Nat) : SoundAt Try.prog k 71 Z4x.E := @Z1 Try.prog Z4x Z6m 71 Try.f71 Zcu (by kernel_rfl) (by kernel_rfl) (by kernel_rfl) Try.func71 (by kernel_rfl) (by kernel_rfl) (by kernel_rfl) T_ok ZnN Zzg Zzo ZyB k
noncomputable def Z2J : List PK := [PK.mk (Ty.slice (81 : Nat) (Ty.pair (Ty.int .i64) (Ty.pair (Ty.int .i64) (Ty.int .i64)))) false none false none]
noncomputable def ZgG : List PK := [PK.mk (Ty.pair (Ty.int .i64) (Ty.pair (Ty.int .i64) (Ty.slice (73 : Nat) (Ty.pair (Ty.int .i64) (Ty.int .i64))))) true none false none]
noncomputable def Zfo (r : List (Int × Int × Int)) : Tup Z2J × OutD := ((r, ()), none)
noncomputable def Zfw : Tup Z2J × OutD → Option (List (Int × Int × Int))
 | (a, none) => some (a.1)
 | _ => none
theorem Zlu : ∀ b r, Zfw b = some r → Zfo r = b := by
 rintro ⟨a, o⟩ r h
 cases o with
 | none => injection h with h; subst h; rfl
 | some _ => cases h
noncomputable def ZB : Nat → Int → Int → List (Int × Int) → List (Int × Int × Int) → Int → Int → Int → Int → List (Int × Int) → Int → Int → Option (Int × Int × List (Int × Int) × List (Int × Int × Int) × List (Int × Int) × Int × Int)
 | 0, _, _, _, _, _, _, _, _, _, _, _ => none
 | k + 1, b1_0, b1_1, b1_2, o2, b3_0, b3_1, v4, v6, v8, v9, v10 =>
  if decide (v6 ≤ (3 : Int)) = true then Option.bind (ZcA k (b3_0, b3_1) v6) fun z0 => if z0 = true then if b1_1 = (0 : Int) then none else if b1_1 = (0 : Int) then none else if List.length o2 + List.length [(v6, wrap64 (Int.tdiv v4 b1_1), Int.tmod v4 b1_1)] ≤ (140737488355328 / 24 : Nat) then ZB k b1_0 b1_1 b1_2 (o2 ++ [(v6, wrap64 (Int.tdiv v4 b1_1), Int.tmod v4 b1_1)]) b3_0 b3_1 v4 (wrap64 (v6 + (1 : Int))) v8 v9 v10 else none else ZB k b1_0 b1_1 b1_2 o2 b3_0 b3_1 v4 (wrap64 (v6 + (1 : Int))) v8 v9 v10 else some (b1_0, b1_1, b1_2, o2, v8, v9, v10)
noncomputable def Z9m : Spec := Spec.mk [OSh.ro, OSh.box (33 : Nat) [Sh.int .i64, Sh.int .i64, Sh.snap (0 : Nat) (Ty.pair (Ty.int .i64) (Ty.int .i64))], OSh.row true (81 : Nat) (Ty.pair (Ty.int .i64) (Ty.pair (Ty.int .i64) (Ty.int .i64))), OSh.box (73 : Nat) [Sh.int .i64, Sh.int .i64]] [((1 : Nat), TSh.at (Sh.ptr (1 : Nat) (0 : Nat))), ((3 : Nat), TSh.at (Sh.sl (2 : Nat))), ((4 : Nat), TSh.at (Sh.int .i64)), ((5 : Nat), TSh.at (Sh.ptr (3 : Nat) (0 : Nat))), ((6 : Nat), TSh.at (Sh.int .i64)), ((8 : Nat), TSh.at (Sh.snap (0 : Nat) (Ty.pair (Ty.int .i64) (Ty.int .i64)))), ((9 : Nat), TSh.at (Sh.int .i64)), ((10 : Nat), TSh.at (Sh.int .i64))]
noncomputable def ZmK : Spec := Spec.mk [OSh.ro, OSh.box (33 : Nat) [Sh.int .i64, Sh.int .i64, Sh.snap (0 : Nat) (Ty.pair (Ty.int .i64) (Ty.int .i64))], OSh.row true (81 : Nat) (Ty.pair (Ty.int .i64) (Ty.pair (Ty.int .i64) (Ty.int .i64)))] [((1 : Nat), TSh.at (Sh.ptr (1 : Nat) (0 : Nat))), ((3 : Nat), TSh.at (Sh.sl (2 : Nat))), ((8 : Nat), TSh.at (Sh.snap (0 : Nat) (Ty.pair (Ty.int .i64) (Ty.int .i64)))), ((9 : Nat), TSh.at (Sh.int .i64)), ((10 : Nat), TSh.at (Sh.int .i64))]
noncomputable def Z2u : LoopDef (Tup Z2J × OutD) := .plain Z9m ZmK (Int × Int × List (Int × Int) × List (Int × Int × Int) × List (Int × Int) × Int × Int) (fun k x => ZB k x.1.2.1.1 x.1.2.1.2.1 x.1.2.1.2.2.1 x.1.2.2.1 x.1.2.2.2.1.1 x.1.2.2.2.1.2.1 x.2.2.2.1 x.2.2.2.2.2.1 x.2.2.2.2.2.2.1 x.2.2.2.2.2.2.2.1 x.2.2.2.2.2.2.2.2.1) (fun z => (((), (z.1, z.2.1, z.2.2.1, ()), z.2.2.2.1, ()), ((), (), z.2.2.2.2.1, z.2.2.2.2.2.1, z.2.2.2.2.2.2, ()))) (fun y => (y.1.2.1.1, y.1.2.1.2.1, y.1.2.1.2.2.1, y.1.2.2.1, y.2.2.2.1, y.2.2.2.2.1, y.2.2.2.2.2.1)) (fun _ => rfl)
noncomputable def Z1N : Nat → Int → Int → List (Int × Int) → List (Int × Int × Int) → List (Int × Int) → Int → Int → Option (List (Int × Int × Int))
 | 0, _, _, _, _, _, _, _ => none
 | k + 1, b1_0, b1_1, b1_2, o2, v8, v9, v10 =>
  if decide (v10 < v9) = true then if (0 : Int) ≤ v10 then if v10 < (↑(List.length v8) : Int) then Option.bind (ZB k b1_0 b1_1 b1_2 o2 (Prod.fst (List.getD v8 (Int.toNat v10) ((0 : Int), (0 : Int)))) (Prod.snd (List.getD v8 (Int.toNat v10) ((0 : Int), (0 : Int)))) v10 (1 : Int) v8 v9 v10) fun z1 => Z1N k z1.1 z1.2.1 z1.2.2.1 z1.2.2.2.1 z1.2.2.2.2.1 z1.2.2.2.2.2.1 (wrap64 (Prod.snd z1.2.2.2.2.2 + (1 : Int))) else none else none else some o2
noncomputable def Z9e : Spec := Spec.mk [OSh.ro, OSh.box (33 : Nat) [Sh.int .i64, Sh.int .i64, Sh.snap (0 : Nat) (Ty.pair (Ty.int .i64) (Ty.int .i64))], OSh.row true (81 : Nat) (Ty.pair (Ty.int .i64) (Ty.pair (Ty.int .i64) (Ty.int .i64)))] [((1 : Nat), TSh.at (Sh.ptr (1 : Nat) (0 : Nat))), ((3 : Nat), TSh.at (Sh.sl (2 : Nat))), ((8 : Nat), TSh.at (Sh.snap (0 : Nat) (Ty.pair (Ty.int .i64) (Ty.int .i64)))), ((9 : Nat), TSh.at (Sh.int .i64)), ((10 : Nat), TSh.at (Sh.int .i64))]
noncomputable def ZmF : Spec := Spec.mk [OSh.ro, OSh.row true (81 : Nat) (Ty.pair (Ty.int .i64) (Ty.pair (Ty.int .i64) (Ty.int .i64)))] [((3 : Nat), TSh.at (Sh.sl (1 : Nat)))]
noncomputable def Z2r : LoopDef (Tup Z2J × OutD) := .plain Z9e ZmF (List (Int × Int × Int)) (fun k x => Z1N k x.1.2.1.1 x.1.2.1.2.1 x.1.2.1.2.2.1 x.1.2.2.1 x.2.2.2.1 x.2.2.2.2.1 x.2.2.2.2.2.1) (fun z => (((), z, ()), ((), ()))) (fun y => (y.1.2.1)) (fun _ => rfl)
noncomputable def Z8s : Nat → Int × Int × List (Int × Int) → Option (List (Int × Int × Int))
 | 0, _ => none
 | k + 1, p0 =>
  Option.bind (Z1N k p0.1 p0.2.1 p0.2.2 [] p0.2.2 (↑(List.length p0.2.2) : Int) (0 : Int)) fun z2 => some z2
noncomputable def Z1E : FnDef := .of ZgG Z2J (List (Int × Int × Int)) (fun k x => Z8s k x.1) Zfo Zfw Zlu
noncomputable def Z6t : Code := Try.f74.body.getD .skip
noncomputable def ZH : Ctx (Tup Z2J × OutD) := { T := T, G := [(88, Z4r.E)], mvs := [], no := 0, n := 37, res := resOf T ZgG Z2J Try.f74.results.toList, loops := [(2, Z2u.E), (0, Z2r.E)], regs := [], conds := [], cuts := [] }
theorem ZbJ (k : Nat) : EnvOK Try.prog k ZH.G := (EnvOK.cons (ZzN k) (EnvOK.nil mixed))
noncomputable def Z6v : Code := (findLoop 2 Z6t).getD .skip
theorem Zmy (k : Nat) (x : Z9m.D) : Z2u.lp (k + 1) x = loopK ZH Z2u 2 Z6v k x := by kernel_rfl
theorem Zna (k : Nat) : LOK Try.prog ZH k Z6v := LOK.by [] (by kernel_rfl) AllOK.nil
theorem ZmC (x : Z9m.D) : Z2u.lp 0 x = none := by kernel_rfl
theorem Zlv (k : Nat) : EOK Try.prog ZH k Z2u.E (.block 2 (.loop Z6v)) := Z2 T_ok ZbJ ZmC Zmy Zna k
noncomputable def Z6D : Code := (findLoop 0 Z6t).getD .skip
theorem ZmX (k : Nat) (x : Z9e.D) : Z2r.lp (k + 1) x = loopK ZH Z2r 0 Z6D k x := by kernel_rfl
theorem Zng (k : Nat) : LOK Try.prog ZH k Z6D := LOK.by [(Z2u.E, .block 2 (.loop Z6v))] (by kernel_rfl) (AllOK.cons (Zlv k) AllOK.nil)
theorem ZmB (x : Z9e.D) : Z2r.lp 0 x = none := by kernel_rfl
theorem ZkE (k : Nat) : EOK Try.prog ZH k Z2r.E (.block 0 (.loop Z6D)) := Z2 T_ok ZbJ ZmB ZmX Zng k
theorem Zso (k : Nat) (x : Tup Z1E.ps) : Z1E.f (k + 1) x = fnK Z1E ZH Z6t k x := by kernel_rfl
theorem ZsQ (x : Tup Z1E.ps) : Z1E.f 0 x = none := by kernel_rfl
theorem Zse (k : Nat) : LOK Try.prog ZH k Z6t := LOK.by [(Z2r.E, .block 0 (.loop Z6D))] (by kernel_rfl) (AllOK.cons (ZkE k) AllOK.nil)
theorem ZrW (k : Nat) : SoundAt Try.prog k 74 Z1E.E := @Z1 Try.prog Z1E ZH 74 Try.f74 Z6t (by kernel_rfl) (by kernel_rfl) (by kernel_rfl) Try.func74 (by kernel_rfl) (by kernel_rfl) (by kernel_rfl) T_ok ZbJ Zse ZsQ Zso k
noncomputable def Z8P : List PK := [PK.mk Ty.bool false none false none]
noncomputable def Zm2 : List PK := [PK.mk (Ty.pair (Ty.int .i64) (Ty.int .i64)) true none false none, PK.mk (Ty.int .i64) false none false none]
noncomputable def ZiV (r : Bool) : Tup Z8P × OutD := ((r, ()), none)
noncomputable def ZjE : Tup Z8P × OutD → Option (Bool)
 | (a, none) => some (a.1)
 | _ => none
theorem Zqv : ∀ b r, ZjE b = some r → ZiV r = b := by
 rintro ⟨a, o⟩ r h
 cases o with
 | none => injection h with h; subst h; rfl
 | some _ => cases h
noncomputable def Zb3 : Nat → Int × Int → Int → Option Bool
 | 0, _, _ => none
 | k + 1, p0, p1 =>
  if decide (p1 = (1 : Int)) = true then Option.bind (Z1s k (Prod.fst p0, Prod.snd p0)) fun z0 => some z0 else if decide (p1 = (2 : Int)) = true then some true else if decide (p1 = (3 : Int)) = true then Option.bind (Z1s k (Prod.fst p0, Prod.snd p0)) fun z1 => if z1 = true then some true else if decide (Prod.fst p0 = (1 : Int)) = true then some true else some (decide (Prod.fst p0 = (2 : Int))) else some false
noncomputable def Z3n : FnDef := .of Zm2 Z8P (Bool) (fun k x => Zb3 k x.1 x.2.1) ZiV ZjE Zqv
noncomputable def ZeV : Code := Try.f77.body.getD .skip
noncomputable def Zbb : Ctx (Tup Z8P × OutD) := { T := T, G := [(94, Z1o.E)], mvs := [], no := 0, n := 26, res := resOf T Zm2 Z8P Try.f77.results.toList, loops := [], regs := [], conds := [], cuts := [] }
theorem ZxA (k : Nat) : EnvOK Try.prog k Zbb.G := (EnvOK.cons (Zhh k) (EnvOK.nil mixed))
theorem ZxF (k : Nat) (x : Tup Z3n.ps) : Z3n.f (k + 1) x = fnK Z3n Zbb ZeV k x := by kernel_rfl
theorem ZwW (x : Tup Z3n.ps) : Z3n.f 0 x = none := by kernel_rfl
theorem ZwS (k : Nat) : LOK Try.prog Zbb k ZeV := LOK.by [] (by kernel_rfl) AllOK.nil
theorem ZwO (k : Nat) : SoundAt Try.prog k 77 Z3n.E := @Z1 Try.prog Z3n Zbb 77 Try.f77 ZeV (by kernel_rfl) (by kernel_rfl) (by kernel_rfl) Try.func77 (by kernel_rfl) (by kernel_rfl) (by kernel_rfl) T_ok ZxA ZwS ZwW ZxF k
noncomputable def Z4i : List PK := [PK.mk (Ty.pair (Ty.int .i64) (Ty.pair (Ty.int .i64) (Ty.int .i64))) true none false none]
noncomputable def Zgm : List PK := [PK.mk (Ty.pair (Ty.int .i64) (Ty.pair (Ty.int .i64) (Ty.slice (73 : Nat) (Ty.pair (Ty.int .i64) (Ty.int .i64))))) true (some ((2 : Nat), (73 : Nat), Ty.pair (Ty.int .i64) (Ty.int .i64))) false none, PK.mk (Ty.slice (3 : Nat) (Ty.int .i64)) false none false none, PK.mk (Ty.slice (3 : Nat) (Ty.int .i64)) false none false none, PK.mk (Ty.int .i64) false none false none]
noncomputable def ZaP (r : (Int × Int × Int) × List (Int × Int)) : Tup Z4i × OutD := ((r.1, ()), some ⟨Ty.pair (Ty.int .i64) (Ty.int .i64), r.2⟩)
noncomputable def Z7V : Tup Z4i × OutD → Option ((Int × Int × Int) × List (Int × Int))
 | (a, some ⟨u, ys⟩) => if h : u = Ty.pair (Ty.int .i64) (Ty.int .i64) then some (a.1, castU h ys) else none
 | _ => none
theorem Zdf : ∀ b r, Z7V b = some r → ZaP r = b := by
 rintro ⟨a, o⟩ r h
 cases o with
 | none => cases h
 | some s =>
  obtain ⟨u, ys⟩ := s
  simp only [Z7V] at h
  split at h
  ·rename_i hu; subst hu; injection h with h; subst h; rfl
  ·cases h
noncomputable def Zk : Nat → List (Int × Int) → Int → Int → Int → Int → Int → List Int → List Int → Int → Int → Int → Option (LR (List (Int × Int) × Int × Int × Int × Int × Int × Int) ((Int × Int × Int) × List (Int × Int)))
 | 0, _, _, _, _, _, _, _, _, _, _, _ => none
 | k + 1, o1, b2_0, b2_1, b3_0, b3_1, b3_2, v1, v2, v3, v9, v10 =>
  if decide (v10 < b2_0) = true then if (0 : Int) ≤ wrap64 (wrap64 (v10 * b2_1) + v3) then if wrap64 (wrap64 (v10 * b2_1) + v3) < (↑(List.length v2) : Int) then if decide (List.getD v2 (Int.toNat (wrap64 (wrap64 (v10 * b2_1) + v3))) (0 : Int) = (2 : Int)) = true then some (LR.ret (((3 : Int), v10, v3), o1)) else if (0 : Int) ≤ wrap64 (wrap64 (v10 * b2_1) + v3) then if wrap64 (wrap64 (v10 * b2_1) + v3) < (↑(List.length o1) : Int) then Option.bind (Zcx k (Prod.fst (List.getD o1 (Int.toNat (wrap64 (wrap64 (v10 * b2_1) + v3))) ((0 : Int), (0 : Int))), Prod.snd (List.getD o1 (Int.toNat (wrap64 (wrap64 (v10 * b2_1) + v3))) ((0 : Int), (0 : Int)))) v9) fun z0 => if (!Prod.snd z0) = true then some (LR.ret (((2 : Int), v10, v3), o1)) else if (0 : Int) ≤ wrap64 (wrap64 (v10 * b2_1) + v3) then if wrap64 (wrap64 (v10 * b2_1) + v3) < (↑(List.length v2) : Int) then if decide (List.getD v2 (Int.toNat (wrap64 (wrap64 (v10 * b2_1) + v3))) (0 : Int) = (3 : Int)) = true then if (0 : Int) ≤ wrap64 (wrap64 (v10 * b2_1) + v3) then if wrap64 (wrap64 (v10 * b2_1) + v3) < (↑(List.length o1) : Int) then Option.bind (Z1s k (Prod.fst (List.getD o1 (Int.toNat (wrap64 (wrap64 (v10 * b2_1) + v3))) ((0 : Int), (0 : Int))), Prod.snd (List.getD o1 (Int.toNat (wrap64 (wrap64 (v10 * b2_1) + v3))) ((0 : Int), (0 : Int))))) fun z1 => if z1 = true then Option.bind (Z4e k (b2_0, b2_1, o1) v1 v2 (wrap64 (wrap64 (v10 * b2_1) + v3))) fun z2 => if decide (wrap64 (v3 + wrap64 ((0 : Int) - Prod.fst z0)) < (0 : Int)) = true then some (LR.ret (((3 : Int), v10, wrap64 (v3 + wrap64 ((0 : Int) - Prod.fst z0))), z2)) else if decide (wrap64 (v3 + wrap64 ((0 : Int) - Prod.fst z0)) ≥ b2_1) = true then some (LR.ret (((3 : Int), v10, wrap64 (v3 + wrap64 ((0 : Int) - Prod.fst z0))), z2)) else Zk k z2 b2_0 b2_1 b3_0 b3_1 b3_2 v1 v2 (wrap64 (v3 + wrap64 ((0 : Int) - Prod.fst z0))) (wrap64 ((0 : Int) - wrap64 ((0 : Int) - Prod.fst z0))) (wrap64 (v10 + (1 : Int))) else if decide (wrap64 (v3 + wrap64 ((0 : Int) - Prod.fst z0)) < (0 : Int)) = true then some (LR.ret (((3 : Int), v10, wrap64 (v3 + wrap64 ((0 : Int) - Prod.fst z0))), o1)) else if decide (wrap64 (v3 + wrap64 ((0 : Int) - Prod.fst z0)) ≥ b2_1) = true then some (LR.ret (((3 : Int), v10, wrap64 (v3 + wrap64 ((0 : Int) - Prod.fst z0))), o1)) else Zk k o1 b2_0 b2_1 b3_0 b3_1 b3_2 v1 v2 (wrap64 (v3 + wrap64 ((0 : Int) - Prod.fst z0))) (wrap64 ((0 : Int) - wrap64 ((0 : Int) - Prod.fst z0))) (wrap64 (v10 + (1 : Int))) else none else none else if (0 : Int) ≤ wrap64 (wrap64 (v10 * b2_1) + v3) then if wrap64 (wrap64 (v10 * b2_1) + v3) < (↑(List.length o1) : Int) then Option.bind (Z1s k (Prod.fst (List.getD o1 (Int.toNat (wrap64 (wrap64 (v10 * b2_1) + v3))) ((0 : Int), (0 : Int))), Prod.snd (List.getD o1 (Int.toNat (wrap64 (wrap64 (v10 * b2_1) + v3))) ((0 : Int), (0 : Int))))) fun z3 => if z3 = true then Option.bind (Z4e k (b2_0, b2_1, o1) v1 v2 (wrap64 (wrap64 (v10 * b2_1) + v3))) fun z4 => if decide (wrap64 (v3 + Prod.fst z0) < (0 : Int)) = true then some (LR.ret (((3 : Int), v10, wrap64 (v3 + Prod.fst z0)), z4)) else if decide (wrap64 (v3 + Prod.fst z0) ≥ b2_1) = true then some (LR.ret (((3 : Int), v10, wrap64 (v3 + Prod.fst z0)), z4)) else Zk k z4 b2_0 b2_1 b3_0 b3_1 b3_2 v1 v2 (wrap64 (v3 + Prod.fst z0)) (wrap64 ((0 : Int) - Prod.fst z0)) (wrap64 (v10 + (1 : Int))) else if decide (wrap64 (v3 + Prod.fst z0) < (0 : Int)) = true then some (LR.ret (((3 : Int), v10, wrap64 (v3 + Prod.fst z0)), o1)) else if decide (wrap64 (v3 + Prod.fst z0) ≥ b2_1) = true then some (LR.ret (((3 : Int), v10, wrap64 (v3 + Prod.fst z0)), o1)) else Zk k o1 b2_0 b2_1 b3_0 b3_1 b3_2 v1 v2 (wrap64 (v3 + Prod.fst z0)) (wrap64 ((0 : Int) - Prod.fst z0)) (wrap64 (v10 + (1 : Int))) else none else none else none else none else none else none else none else none else some (LR.go (o1, b2_0, b2_1, b3_0, b3_1, b3_2, v3))
noncomputable def Z9H : Spec := Spec.mk [OSh.ro, OSh.row false (73 : Nat) (Ty.pair (Ty.int .i64) (Ty.int .i64)), OSh.box (33 : Nat) [Sh.int .i64, Sh.int .i64, Sh.sl (1 : Nat)], OSh.box (94 : Nat) [Sh.int .i64, Sh.int .i64, Sh.int .i64]] [((1 : Nat), TSh.at (Sh.snap (0 : Nat) (Ty.int .i64))), ((2 : Nat), TSh.at (Sh.snap (0 : Nat) (Ty.int .i64))), ((3 : Nat), TSh.at (Sh.int .i64)), ((4 : Nat), TSh.at (Sh.ptr (2 : Nat) (0 : Nat))), ((8 : Nat), TSh.at (Sh.ptr (3 : Nat) (0 : Nat))), ((9 : Nat), TSh.at (Sh.int .i64)), ((10 : Nat), TSh.at (Sh.int .i64))]
noncomputable def Znn : Spec := Spec.mk [OSh.ro, OSh.row false (73 : Nat) (Ty.pair (Ty.int .i64) (Ty.int .i64)), OSh.box (33 : Nat) [Sh.int .i64, Sh.int .i64, Sh.sl (1 : Nat)], OSh.box (94 : Nat) [Sh.int .i64, Sh.int .i64, Sh.int .i64]] [((3 : Nat), TSh.at (Sh.int .i64)), ((4 : Nat), TSh.at (Sh.ptr (2 : Nat) (0 : Nat))), ((8 : Nat), TSh.at (Sh.ptr (3 : Nat) (0 : Nat)))]
noncomputable def Z2t : LoopDef (Tup Z4i × OutD) := .rets Z9H Znn (List (Int × Int) × Int × Int × Int × Int × Int × Int) ((Int × Int × Int) × List (Int × Int)) (fun k x => Zk k x.1.2.1 x.1.2.2.1.1 x.1.2.2.1.2.1 x.1.2.2.2.1.1 x.1.2.2.2.1.2.1 x.1.2.2.2.1.2.2.1 x.2.1 x.2.2.1 x.2.2.2.1 x.2.2.2.2.2.2.1 x.2.2.2.2.2.2.2.1) (fun z => (((), z.1, (z.2.1, z.2.2.1, (), ()), (z.2.2.2.1, z.2.2.2.2.1, z.2.2.2.2.2.1, ()), ()), (z.2.2.2.2.2.2, (), (), ()))) (fun y => (y.1.2.1, y.1.2.2.1.1, y.1.2.2.1.2.1, y.1.2.2.2.1.1, y.1.2.2.2.1.2.1, y.1.2.2.2.1.2.2.1, y.2.1)) (fun _ => rfl) ZaP Z7V Zdf
noncomputable def Z8q : Nat → Int × Int × List (Int × Int) → List Int → List Int → Int → Option ((Int × Int × Int) × List (Int × Int))
 | 0, _, _, _, _ => none
 | k + 1, p0, p1, p2, p3 =>
  Option.bind (Zk k p0.2.2 p0.1 p0.2.1 (0 : Int) (0 : Int) (0 : Int) p1 p2 p3 (0 : Int) (0 : Int)) fun z5 => LR.on z5 (fun y5 => some (((1 : Int), Prod.fst y5.2, Prod.snd y5.2.2.2.2.2), Prod.fst y5)) fun r5 => some r5
noncomputable def Z1J : FnDef := .of Zgm Z4i ((Int × Int × Int) × List (Int × Int)) (fun k x => Z8q k x.1 x.2.1 x.2.2.1 x.2.2.2.1) ZaP Z7V Zdf
noncomputable def Z8C : Code := Try.f93.body.getD .skip
noncomputable def Z2N : Ctx (Tup Z4i × OutD) := { T := T, G := [(106, Z4A.E), (94, Z1o.E), (107, Z1D.E)], mvs := [], no := 1, n := 87, res := resOf T Zgm Z4i Try.f93.results.toList, loops := [(0, Z2t.E)], regs := [], conds := [], cuts := [] }
theorem Zgt (k : Nat) : EnvOK Try.prog k Z2N.G := (EnvOK.cons (ZzL k) (EnvOK.cons (Zhh k) (EnvOK.cons (ZsW k) (EnvOK.nil mixed))))
noncomputable def Z6u : Code := (findLoop 0 Z8C).getD .skip
theorem Zn6 (k : Nat) (x : Z9H.D) : Z2t.lp (k + 1) x = loopK Z2N Z2t 0 Z6u k x := by kernel_rfl
theorem ZmO (k : Nat) : LOK Try.prog Z2N k Z6u := LOK.by [] (by kernel_rfl) AllOK.nil
theorem Znd (x : Z9H.D) : Z2t.lp 0 x = none := by kernel_rfl
theorem ZkF (k : Nat) : EOK Try.prog Z2N k Z2t.E (.block 0 (.loop Z6u)) := Z2 T_ok Zgt Znd Zn6 ZmO k
theorem Zt0 (k : Nat) (x : Tup Z1J.ps) : Z1J.f (k + 1) x = fnK Z1J Z2N Z8C k x := by kernel_rfl
theorem ZsC (x : Tup Z1J.ps) : Z1J.f 0 x = none := by kernel_rfl
theorem Zs0 (k : Nat) : LOK Try.prog Z2N k Z8C := LOK.by [(Z2t.E, .block 0 (.loop Z6u))] (by kernel_rfl) (AllOK.cons (ZkF k) AllOK.nil)
theorem Zsj (k : Nat) : SoundAt Try.prog k 93 Z1J.E := @Z1 Try.prog Z1J Z2N 93 Try.f93 Z8C (by kernel_rfl) (by kernel_rfl) (by kernel_rfl) Try.func93 (by kernel_rfl) (by kernel_rfl) (by kernel_rfl) T_ok Zgt Zs0 ZsC Zt0 k
noncomputable def Z2i : List PK := [PK.mk (Ty.pair (Ty.int .i64) (Ty.pair (Ty.int .i64) (Ty.int .i64))) true none false none, PK.mk (Ty.pair (Ty.int .i64) (Ty.pair (Ty.int .i64) (Ty.slice (73 : Nat) (Ty.pair (Ty.int .i64) (Ty.int .i64))))) true none false none]
noncomputable def Zte : List PK := [PK.mk (Ty.pair (Ty.int .i64) (Ty.pair (Ty.int .i64) (Ty.slice (73 : Nat) (Ty.pair (Ty.int .i64) (Ty.int .i64))))) true none false none, PK.mk (Ty.slice (3 : Nat) (Ty.int .i64)) false none false none, PK.mk (Ty.slice (81 : Nat) (Ty.pair (Ty.int .i64) (Ty.pair (Ty.int .i64) (Ty.int .i64)))) false none false none, PK.mk (Ty.int .i64) false none false none]
noncomputable def Zhk (r : (Int × Int × Int) × Int × Int × List (Int × Int)) : Tup Z2i × OutD := ((r.1, r.2, ()), none)
noncomputable def Zig : Tup Z2i × OutD → Option ((Int × Int × Int) × Int × Int × List (Int × Int))
 | (a, none) => some (a.1, a.2.1)
 | _ => none
theorem Zjs : ∀ b r, Zig b = some r → Zhk r = b := by
 rintro ⟨a, o⟩ r h
 cases o with
 | none => injection h with h; subst h; rfl
 | some _ => cases h
noncomputable def Z6Q : Nat → Int → Int → Int → Int → Int → List (Int × Int) → Int → Int → List (Int × Int) → Int → Int → Option (Int × Int × Int × Int × Int × List (Int × Int)) := fun k b1_0 b1_1 b1_2 b2_0 b2_1 o3 b4_0 b4_1 o5 v3 v12 =>
    some ((3 : Int), v12, v3, b4_0, b4_1, o5)
noncomputable def Zau : Nat → Int → Int → Int → Int → Int → List (Int × Int) → Int → Int → List (Int × Int) → Int → Int → Option (List (Int × Int × Int × Int × Int × List (Int × Int))) := fun k b1_0 b1_1 b1_2 b2_0 b2_1 o3 b4_0 b4_1 o5 v3 v12 =>
    joinL (some [((3 : Int), v12, v3, b4_0, b4_1, o5)]) (some [((3 : Int), v12, v3, b4_0, b4_1, o5)])
noncomputable def Zjj : Spec := Spec.mk [OSh.ro, OSh.box (94 : Nat) [Sh.int .i64, Sh.int .i64, Sh.int .i64], OSh.box (33 : Nat) [Sh.int .i64, Sh.int .i64, Sh.sl (3 : Nat)], OSh.row true (73 : Nat) (Ty.pair (Ty.int .i64) (Ty.int .i64)), OSh.box (33 : Nat) [Sh.int .i64, Sh.int .i64, Sh.sl (5 : Nat)], OSh.row true (73 : Nat) (Ty.pair (Ty.int .i64) (Ty.int .i64))] [((3 : Nat), TSh.at (Sh.int .i64)), ((8 : Nat), TSh.at (Sh.ptr (1 : Nat) (0 : Nat))), ((9 : Nat), TSh.at (Sh.ptr (2 : Nat) (0 : Nat))), ((10 : Nat), TSh.at (Sh.ptr (4 : Nat) (0 : Nat))), ((12 : Nat), TSh.at (Sh.int .i64))]
noncomputable def ZvP : Spec := Spec.mk [OSh.ro, OSh.box (94 : Nat) [Sh.int .i64, Sh.int .i64, Sh.int .i64], OSh.box (33 : Nat) [Sh.int .i64, Sh.int .i64, Sh.sl (3 : Nat)], OSh.row true (73 : Nat) (Ty.pair (Ty.int .i64) (Ty.int .i64))] [((8 : Nat), TSh.at (Sh.ptr (1 : Nat) (0 : Nat))), ((9 : Nat), TSh.at (Sh.ptr (2 : Nat) (0 : Nat)))]
noncomputable def Z5R : LoopDef (Tup Z2i × OutD) := .plain Zjj ZvP (Int × Int × Int × Int × Int × List (Int × Int)) (fun k x => Z6Q k x.1.2.1.1 x.1.2.1.2.1 x.1.2.1.2.2.1 x.1.2.2.1.1 x.1.2.2.1.2.1 x.1.2.2.2.1 x.1.2.2.2.2.1.1 x.1.2.2.2.2.1.2.1 x.1.2.2.2.2.2.1 x.2.1 x.2.2.2.2.2.1) (fun z => (((), (z.1, z.2.1, z.2.2.1, ()), (z.2.2.2.1, z.2.2.2.2.1, (), ()), z.2.2.2.2.2, ()), ((), (), ()))) (fun y => (y.1.2.1.1, y.1.2.1.2.1, y.1.2.1.2.2.1, y.1.2.2.1.1, y.1.2.2.1.2.1, y.1.2.2.2.1)) (fun _ => rfl)
theorem ZvV (k : Nat) (b1_0 : Int) (b1_1 : Int) (b1_2 : Int) (b2_0 : Int) (b2_1 : Int) (o3 : List (Int × Int)) (b4_0 : Int) (b4_1 : Int) (o5 : List (Int × Int)) (v3 : Int) (v12 : Int) : Zau k b1_0 b1_1 b1_2 b2_0 b2_1 o3 b4_0 b4_1 o5 v3 v12 = repl 2 (Z6Q k b1_0 b1_1 b1_2 b2_0 b2_1 o3 b4_0 b4_1 o5 v3 v12) := by
 first
 | (simp only [Zau, Z6Q, ZS, Z1Q, Z10, ZV, ZY, Zg, if_true]; done)
 | (simp only [Zau, Z6Q, ZS, Z1Q, Z10, ZV, ZY, Zg, if_true]; simp only [Z9q, Z9o, ZcO, Zg]; simp only [ZeQ]; exact ZaK ⟨fun h => by simp only [h, and_self], fun h => by simp only [h, and_self]⟩)
noncomputable def Z6b : Nat → Int → Int → Int → Int → Int → List (Int × Int) → Int → Int → List (Int × Int) → Int → Int → Option (Int × Int × Int × Int × Int × List (Int × Int)) := fun k b1_0 b1_1 b1_2 b2_0 b2_1 o3 b4_0 b4_1 o5 v3 v12 =>
    some ((2 : Int), v12, v3, b4_0, b4_1, o5)
noncomputable def Z9f : Nat → Int → Int → Int → Int → Int → List (Int × Int) → Int → Int → List (Int × Int) → Int → Int → Option (List (Int × Int × Int × Int × Int × List (Int × Int))) := fun k b1_0 b1_1 b1_2 b2_0 b2_1 o3 b4_0 b4_1 o5 v3 v12 =>
    joinL (some [((2 : Int), v12, v3, b4_0, b4_1, o5)]) (some [((2 : Int), v12, v3, b4_0, b4_1, o5)])
noncomputable def Zin : Spec := Spec.mk [OSh.ro, OSh.box (94 : Nat) [Sh.int .i64, Sh.int .i64, Sh.int .i64], OSh.box (33 : Nat) [Sh.int .i64, Sh.int .i64, Sh.sl (3 : Nat)], OSh.row true (73 : Nat) (Ty.pair (Ty.int .i64) (Ty.int .i64)), OSh.box (33 : Nat) [Sh.int .i64, Sh.int .i64, Sh.sl (5 : Nat)], OSh.row true (73 : Nat) (Ty.pair (Ty.int .i64) (Ty.int .i64))] [((3 : Nat), TSh.at (Sh.int .i64)), ((8 : Nat), TSh.at (Sh.ptr (1 : Nat) (0 : Nat))), ((9 : Nat), TSh.at (Sh.ptr (2 : Nat) (0 : Nat))), ((10 : Nat), TSh.at (Sh.ptr (4 : Nat) (0 : Nat))), ((12 : Nat), TSh.at (Sh.int .i64))]
noncomputable def ZuW : Spec := Spec.mk [OSh.ro, OSh.box (94 : Nat) [Sh.int .i64, Sh.int .i64, Sh.int .i64], OSh.box (33 : Nat) [Sh.int .i64, Sh.int .i64, Sh.sl (3 : Nat)], OSh.row true (73 : Nat) (Ty.pair (Ty.int .i64) (Ty.int .i64))] [((8 : Nat), TSh.at (Sh.ptr (1 : Nat) (0 : Nat))), ((9 : Nat), TSh.at (Sh.ptr (2 : Nat) (0 : Nat)))]
noncomputable def Z52 : LoopDef (Tup Z2i × OutD) := .plain Zin ZuW (Int × Int × Int × Int × Int × List (Int × Int)) (fun k x => Z6b k x.1.2.1.1 x.1.2.1.2.1 x.1.2.1.2.2.1 x.1.2.2.1.1 x.1.2.2.1.2.1 x.1.2.2.2.1 x.1.2.2.2.2.1.1 x.1.2.2.2.2.1.2.1 x.1.2.2.2.2.2.1 x.2.1 x.2.2.2.2.2.1) (fun z => (((), (z.1, z.2.1, z.2.2.1, ()), (z.2.2.2.1, z.2.2.2.2.1, (), ()), z.2.2.2.2.2, ()), ((), (), ()))) (fun y => (y.1.2.1.1, y.1.2.1.2.1, y.1.2.1.2.2.1, y.1.2.2.1.1, y.1.2.2.1.2.1, y.1.2.2.2.1)) (fun _ => rfl)
theorem ZuJ (k : Nat) (b1_0 : Int) (b1_1 : Int) (b1_2 : Int) (b2_0 : Int) (b2_1 : Int) (o3 : List (Int × Int)) (b4_0 : Int) (b4_1 : Int) (o5 : List (Int × Int)) (v3 : Int) (v12 : Int) : Z9f k b1_0 b1_1 b1_2 b2_0 b2_1 o3 b4_0 b4_1 o5 v3 v12 = repl 2 (Z6b k b1_0 b1_1 b1_2 b2_0 b2_1 o3 b4_0 b4_1 o5 v3 v12) := by
 first
 | (simp only [Z9f, Z6b, ZS, Z1Q, Z10, ZV, ZY, Zg, if_true]; done)
 | (simp only [Z9f, Z6b, ZS, Z1Q, Z10, ZV, ZY, Zg, if_true]; simp only [Z9q, Z9o, ZcO, Zg]; simp only [ZeQ]; exact ZaK ⟨fun h => by simp only [h, and_self], fun h => by simp only [h, and_self]⟩)
noncomputable def Zal : Nat → Int → Int → List (Int × Int) → Int → Int → Int → Int → Int → List (Int × Int) → Int → Int → List (Int × Int) → List Int → List (Int × Int × Int) → Int → Int → Int → Bool → Option (Int × Int × List (Int × Int) × Int × Int × Int × Int × Int × List (Int × Int) × Int × Int × List (Int × Int) × List Int × List (Int × Int × Int) × Int × Int × Int) := fun k b1_0 b1_1 b1_2 b2_0 b2_1 b2_2 b3_0 b3_1 o4 b5_0 b5_1 o6 v1 v2 v3 v12 v15 v52 =>
    if v52 = true then some (b1_0, b1_1, b1_2, b2_0, b2_1, b2_2, b3_0, b3_1, o4, b5_0, b5_1, o6, v1, v2, v3, v12, wrap64 ((0 : Int) - v15)) else some (b1_0, b1_1, b1_2, b2_0, b2_1, b2_2, b3_0, b3_1, o4, b5_0, b5_1, o6, v1, v2, v3, v12, v15)
noncomputable def ZtZ : Spec := Spec.mk [OSh.ro, OSh.box (33 : Nat) [Sh.int .i64, Sh.int .i64, Sh.snap (0 : Nat) (Ty.pair (Ty.int .i64) (Ty.int .i64))], OSh.box (94 : Nat) [Sh.int .i64, Sh.int .i64, Sh.int .i64], OSh.box (33 : Nat) [Sh.int .i64, Sh.int .i64, Sh.sl (4 : Nat)], OSh.row true (73 : Nat) (Ty.pair (Ty.int .i64) (Ty.int .i64)), OSh.box (33 : Nat) [Sh.int .i64, Sh.int .i64, Sh.sl (6 : Nat)], OSh.row true (73 : Nat) (Ty.pair (Ty.int .i64) (Ty.int .i64))] [((1 : Nat), TSh.at (Sh.snap (0 : Nat) (Ty.int .i64))), ((2 : Nat), TSh.at (Sh.snap (0 : Nat) (Ty.pair (Ty.int .i64) (Ty.pair (Ty.int .i64) (Ty.int .i64))))), ((3 : Nat), TSh.at (Sh.int .i64)), ((4 : Nat), TSh.at (Sh.ptr (1 : Nat) (0 : Nat))), ((8 : Nat), TSh.at (Sh.ptr (2 : Nat) (0 : Nat))), ((9 : Nat), TSh.at (Sh.ptr (3 : Nat) (0 : Nat))), ((10 : Nat), TSh.at (Sh.ptr (5 : Nat) (0 : Nat))), ((12 : Nat), TSh.at (Sh.int .i64)), ((15 : Nat), TSh.at (Sh.int .i64)), ((52 : Nat), TSh.at Sh.bool)]
noncomputable def Zus : Spec := Spec.mk [OSh.ro, OSh.box (33 : Nat) [Sh.int .i64, Sh.int .i64, Sh.snap (0 : Nat) (Ty.pair (Ty.int .i64) (Ty.int .i64))], OSh.box (94 : Nat) [Sh.int .i64, Sh.int .i64, Sh.int .i64], OSh.box (33 : Nat) [Sh.int .i64, Sh.int .i64, Sh.sl (4 : Nat)], OSh.row true (73 : Nat) (Ty.pair (Ty.int .i64) (Ty.int .i64)), OSh.box (33 : Nat) [Sh.int .i64, Sh.int .i64, Sh.sl (6 : Nat)], OSh.row true (73 : Nat) (Ty.pair (Ty.int .i64) (Ty.int .i64))] [((1 : Nat), TSh.at (Sh.snap (0 : Nat) (Ty.int .i64))), ((2 : Nat), TSh.at (Sh.snap (0 : Nat) (Ty.pair (Ty.int .i64) (Ty.pair (Ty.int .i64) (Ty.int .i64))))), ((3 : Nat), TSh.at (Sh.int .i64)), ((4 : Nat), TSh.at (Sh.ptr (1 : Nat) (0 : Nat))), ((8 : Nat), TSh.at (Sh.ptr (2 : Nat) (0 : Nat))), ((9 : Nat), TSh.at (Sh.ptr (3 : Nat) (0 : Nat))), ((10 : Nat), TSh.at (Sh.ptr (5 : Nat) (0 : Nat))), ((12 : Nat), TSh.at (Sh.int .i64)), ((15 : Nat), TSh.at (Sh.int .i64))]
noncomputable def Zz : LoopDef (Tup Z2i × OutD) := .plain ZtZ Zus (Int × Int × List (Int × Int) × Int × Int × Int × Int × Int × List (Int × Int) × Int × Int × List (Int × Int) × List Int × List (Int × Int × Int) × Int × Int × Int) (fun k x => Zal k x.1.2.1.1 x.1.2.1.2.1 x.1.2.1.2.2.1 x.1.2.2.1.1 x.1.2.2.1.2.1 x.1.2.2.1.2.2.1 x.1.2.2.2.1.1 x.1.2.2.2.1.2.1 x.1.2.2.2.2.1 x.1.2.2.2.2.2.1.1 x.1.2.2.2.2.2.1.2.1 x.1.2.2.2.2.2.2.1 x.2.1 x.2.2.1 x.2.2.2.1 x.2.2.2.2.2.2.2.2.1 x.2.2.2.2.2.2.2.2.2.1 x.2.2.2.2.2.2.2.2.2.2.1) (fun z => (((), (z.1, z.2.1, z.2.2.1, ()), (z.2.2.2.1, z.2.2.2.2.1, z.2.2.2.2.2.1, ()), (z.2.2.2.2.2.2.1, z.2.2.2.2.2.2.2.1, (), ()), z.2.2.2.2.2.2.2.2.1, (z.2.2.2.2.2.2.2.2.2.1, z.2.2.2.2.2.2.2.2.2.2.1, (), ()), z.2.2.2.2.2.2.2.2.2.2.2.1, ()), (z.2.2.2.2.2.2.2.2.2.2.2.2.1, z.2.2.2.2.2.2.2.2.2.2.2.2.2.1, z.2.2.2.2.2.2.2.2.2.2.2.2.2.2.1, (), (), (), (), z.2.2.2.2.2.2.2.2.2.2.2.2.2.2.2.1, z.2.2.2.2.2.2.2.2.2.2.2.2.2.2.2.2, ()))) (fun y => (y.1.2.1.1, y.1.2.1.2.1, y.1.2.1.2.2.1, y.1.2.2.1.1, y.1.2.2.1.2.1, y.1.2.2.1.2.2.1, y.1.2.2.2.1.1, y.1.2.2.2.1.2.1, y.1.2.2.2.2.1, y.1.2.2.2.2.2.1.1, y.1.2.2.2.2.2.1.2.1, y.1.2.2.2.2.2.2.1, y.2.1, y.2.2.1, y.2.2.2.1, y.2.2.2.2.2.2.2.2.1, y.2.2.2.2.2.2.2.2.2.1)) (fun _ => rfl)
noncomputable def Z6o : Nat → Int → Int → List (Int × Int) → Int → Int → Int → Int → Int → List (Int × Int) → Int → Int → List (Int × Int) → List Int → List (Int × Int × Int) → Int → Int → Int → List (Int × Int × Int) → Int → Int → Option (Int × Int × List (Int × Int) × Int × Int × Int × Int × Int × List (Int × Int) × Int × Int × List (Int × Int) × List Int × List (Int × Int × Int) × Int × Int × Int)
 | 0, _, _, _, _, _, _, _, _, _, _, _, _, _, _, _, _, _, _, _, _ => none
 | k + 1, b1_0, b1_1, b1_2, b2_0, b2_1, b2_2, b3_0, b3_1, o4, b5_0, b5_1, o6, v1, v2, v3, v12, v15, v64, v65, v66 =>
  if decide (v66 < v65) = true then if (0 : Int) ≤ v66 then if v66 < (↑(List.length v64) : Int) then if decide (Prod.fst (List.getD v64 (Int.toNat v66) ((0 : Int), (0 : Int), (0 : Int))) = (1 : Int)) = true then if (0 : Int) ≤ wrap64 (wrap64 (Prod.fst (Prod.snd (List.getD v64 (Int.toNat v66) ((0 : Int), (0 : Int), (0 : Int)))) * b1_1) + Prod.snd (Prod.snd (List.getD v64 (Int.toNat v66) ((0 : Int), (0 : Int), (0 : Int))))) then if wrap64 (wrap64 (Prod.fst (Prod.snd (List.getD v64 (Int.toNat v66) ((0 : Int), (0 : Int), (0 : Int)))) * b1_1) + Prod.snd (Prod.snd (List.getD v64 (Int.toNat v66) ((0 : Int), (0 : Int), (0 : Int))))) < (↑(List.length b1_2) : Int) then if (0 : Int) ≤ wrap64 (wrap64 (Prod.fst (Prod.snd (List.getD v64 (Int.toNat v66) ((0 : Int), (0 : Int), (0 : Int)))) * b1_1) + Prod.snd (Prod.snd (List.getD v64 (Int.toNat v66) ((0 : Int), (0 : Int), (0 : Int))))) then if wrap64 (wrap64 (Prod.fst (Prod.snd (List.getD v64 (Int.toNat v66) ((0 : Int), (0 : Int), (0 : Int)))) * b1_1) + Prod.snd (Prod.snd (List.getD v64 (Int.toNat v66) ((0 : Int), (0 : Int), (0 : Int))))) < (↑(List.length o6) : Int) then Z6o k b1_0 b1_1 b1_2 b2_0 b2_1 b2_2 b3_0 b3_1 o4 b5_0 b5_1 (List.set o6 (Int.toNat (wrap64 (wrap64 (Prod.fst (Prod.snd (List.getD v64 (Int.toNat v66) ((0 : Int), (0 : Int), (0 : Int)))) * b1_1) + Prod.snd (Prod.snd (List.getD v64 (Int.toNat v66) ((0 : Int), (0 : Int), (0 : Int))))))) (Prod.fst (List.getD b1_2 (Int.toNat (wrap64 (wrap64 (Prod.fst (Prod.snd (List.getD v64 (Int.toNat v66) ((0 : Int), (0 : Int), (0 : Int)))) * b1_1) + Prod.snd (Prod.snd (List.getD v64 (Int.toNat v66) ((0 : Int), (0 : Int), (0 : Int))))))) ((0 : Int), (0 : Int))), Prod.snd (List.getD b1_2 (Int.toNat (wrap64 (wrap64 (Prod.fst (Prod.snd (List.getD v64 (Int.toNat v66) ((0 : Int), (0 : Int), (0 : Int)))) * b1_1) + Prod.snd (Prod.snd (List.getD v64 (Int.toNat v66) ((0 : Int), (0 : Int), (0 : Int))))))) ((0 : Int), (0 : Int))))) v1 v2 v3 v12 v15 v64 v65 (wrap64 (v66 + (1 : Int))) else none else none else none else none else Z6o k b1_0 b1_1 b1_2 b2_0 b2_1 b2_2 b3_0 b3_1 o4 b5_0 b5_1 o6 v1 v2 v3 v12 v15 v64 v65 (wrap64 (v66 + (1 : Int))) else none else none else some (b1_0, b1_1, b1_2, b2_0, b2_1, b2_2, b3_0, b3_1, o4, b5_0, b5_1, o6, v1, v2, v3, v12, v15)
noncomputable def ZeG : Spec := Spec.mk [OSh.ro, OSh.box (33 : Nat) [Sh.int .i64, Sh.int .i64, Sh.snap (0 : Nat) (Ty.pair (Ty.int .i64) (Ty.int .i64))], OSh.box (94 : Nat) [Sh.int .i64, Sh.int .i64, Sh.int .i64], OSh.box (33 : Nat) [Sh.int .i64, Sh.int .i64, Sh.sl (4 : Nat)], OSh.row true (73 : Nat) (Ty.pair (Ty.int .i64) (Ty.int .i64)), OSh.box (33 : Nat) [Sh.int .i64, Sh.int .i64, Sh.sl (6 : Nat)], OSh.row true (73 : Nat) (Ty.pair (Ty.int .i64) (Ty.int .i64))] [((1 : Nat), TSh.at (Sh.snap (0 : Nat) (Ty.int .i64))), ((2 : Nat), TSh.at (Sh.snap (0 : Nat) (Ty.pair (Ty.int .i64) (Ty.pair (Ty.int .i64) (Ty.int .i64))))), ((3 : Nat), TSh.at (Sh.int .i64)), ((4 : Nat), TSh.at (Sh.ptr (1 : Nat) (0 : Nat))), ((8 : Nat), TSh.at (Sh.ptr (2 : Nat) (0 : Nat))), ((9 : Nat), TSh.at (Sh.ptr (3 : Nat) (0 : Nat))), ((10 : Nat), TSh.at (Sh.ptr (5 : Nat) (0 : Nat))), ((12 : Nat), TSh.at (Sh.int .i64)), ((15 : Nat), TSh.at (Sh.int .i64)), ((64 : Nat), TSh.at (Sh.snap (0 : Nat) (Ty.pair (Ty.int .i64) (Ty.pair (Ty.int .i64) (Ty.int .i64))))), ((65 : Nat), TSh.at (Sh.int .i64)), ((66 : Nat), TSh.at (Sh.int .i64))]
noncomputable def ZxO : Spec := Spec.mk [OSh.ro, OSh.box (33 : Nat) [Sh.int .i64, Sh.int .i64, Sh.snap (0 : Nat) (Ty.pair (Ty.int .i64) (Ty.int .i64))], OSh.box (94 : Nat) [Sh.int .i64, Sh.int .i64, Sh.int .i64], OSh.box (33 : Nat) [Sh.int .i64, Sh.int .i64, Sh.sl (4 : Nat)], OSh.row true (73 : Nat) (Ty.pair (Ty.int .i64) (Ty.int .i64)), OSh.box (33 : Nat) [Sh.int .i64, Sh.int .i64, Sh.sl (6 : Nat)], OSh.row true (73 : Nat) (Ty.pair (Ty.int .i64) (Ty.int .i64))] [((1 : Nat), TSh.at (Sh.snap (0 : Nat) (Ty.int .i64))), ((2 : Nat), TSh.at (Sh.snap (0 : Nat) (Ty.pair (Ty.int .i64) (Ty.pair (Ty.int .i64) (Ty.int .i64))))), ((3 : Nat), TSh.at (Sh.int .i64)), ((4 : Nat), TSh.at (Sh.ptr (1 : Nat) (0 : Nat))), ((8 : Nat), TSh.at (Sh.ptr (2 : Nat) (0 : Nat))), ((9 : Nat), TSh.at (Sh.ptr (3 : Nat) (0 : Nat))), ((10 : Nat), TSh.at (Sh.ptr (5 : Nat) (0 : Nat))), ((12 : Nat), TSh.at (Sh.int .i64)), ((15 : Nat), TSh.at (Sh.int .i64))]
noncomputable def Z6P : LoopDef (Tup Z2i × OutD) := .plain ZeG ZxO (Int × Int × List (Int × Int) × Int × Int × Int × Int × Int × List (Int × Int) × Int × Int × List (Int × Int) × List Int × List (Int × Int × Int) × Int × Int × Int) (fun k x => Z6o k x.1.2.1.1 x.1.2.1.2.1 x.1.2.1.2.2.1 x.1.2.2.1.1 x.1.2.2.1.2.1 x.1.2.2.1.2.2.1 x.1.2.2.2.1.1 x.1.2.2.2.1.2.1 x.1.2.2.2.2.1 x.1.2.2.2.2.2.1.1 x.1.2.2.2.2.2.1.2.1 x.1.2.2.2.2.2.2.1 x.2.1 x.2.2.1 x.2.2.2.1 x.2.2.2.2.2.2.2.2.1 x.2.2.2.2.2.2.2.2.2.1 x.2.2.2.2.2.2.2.2.2.2.1 x.2.2.2.2.2.2.2.2.2.2.2.1 x.2.2.2.2.2.2.2.2.2.2.2.2.1) (fun z => (((), (z.1, z.2.1, z.2.2.1, ()), (z.2.2.2.1, z.2.2.2.2.1, z.2.2.2.2.2.1, ()), (z.2.2.2.2.2.2.1, z.2.2.2.2.2.2.2.1, (), ()), z.2.2.2.2.2.2.2.2.1, (z.2.2.2.2.2.2.2.2.2.1, z.2.2.2.2.2.2.2.2.2.2.1, (), ()), z.2.2.2.2.2.2.2.2.2.2.2.1, ()), (z.2.2.2.2.2.2.2.2.2.2.2.2.1, z.2.2.2.2.2.2.2.2.2.2.2.2.2.1, z.2.2.2.2.2.2.2.2.2.2.2.2.2.2.1, (), (), (), (), z.2.2.2.2.2.2.2.2.2.2.2.2.2.2.2.1, z.2.2.2.2.2.2.2.2.2.2.2.2.2.2.2.2, ()))) (fun y => (y.1.2.1.1, y.1.2.1.2.1, y.1.2.1.2.2.1, y.1.2.2.1.1, y.1.2.2.1.2.1, y.1.2.2.1.2.2.1, y.1.2.2.2.1.1, y.1.2.2.2.1.2.1, y.1.2.2.2.2.1, y.1.2.2.2.2.2.1.1, y.1.2.2.2.2.2.1.2.1, y.1.2.2.2.2.2.2.1, y.2.1, y.2.2.1, y.2.2.2.1, y.2.2.2.2.2.2.2.2.1, y.2.2.2.2.2.2.2.2.2.1)) (fun _ => rfl)
noncomputable def Z5V : Nat → Int → Int → Int → Int → Int → List (Int × Int) → Int → Int → List (Int × Int) → Int → Int → Option (Int × Int × Int × Int × Int × List (Int × Int)) := fun k b1_0 b1_1 b1_2 b2_0 b2_1 o3 b4_0 b4_1 o5 v3 v12 =>
    some ((3 : Int), v12, v3, b4_0, b4_1, o5)
noncomputable def Z9u : Nat → Int → Int → Int → Int → Int → List (Int × Int) → Int → Int → List (Int × Int) → Int → Int → Option (List (Int × Int × Int × Int × Int × List (Int × Int))) := fun k b1_0 b1_1 b1_2 b2_0 b2_1 o3 b4_0 b4_1 o5 v3 v12 =>
    joinL (some [((3 : Int), v12, v3, b4_0, b4_1, o5)]) (some [((3 : Int), v12, v3, b4_0, b4_1, o5)])
noncomputable def ZhJ : Spec := Spec.mk [OSh.ro, OSh.box (94 : Nat) [Sh.int .i64, Sh.int .i64, Sh.int .i64], OSh.box (33 : Nat) [Sh.int .i64, Sh.int .i64, Sh.sl (3 : Nat)], OSh.row true (73 : Nat) (Ty.pair (Ty.int .i64) (Ty.int .i64)), OSh.box (33 : Nat) [Sh.int .i64, Sh.int .i64, Sh.sl (5 : Nat)], OSh.row true (73 : Nat) (Ty.pair (Ty.int .i64) (Ty.int .i64))] [((3 : Nat), TSh.at (Sh.int .i64)), ((8 : Nat), TSh.at (Sh.ptr (1 : Nat) (0 : Nat))), ((9 : Nat), TSh.at (Sh.ptr (2 : Nat) (0 : Nat))), ((10 : Nat), TSh.at (Sh.ptr (4 : Nat) (0 : Nat))), ((12 : Nat), TSh.at (Sh.int .i64))]
noncomputable def Zty : Spec := Spec.mk [OSh.ro, OSh.box (94 : Nat) [Sh.int .i64, Sh.int .i64, Sh.int .i64], OSh.box (33 : Nat) [Sh.int .i64, Sh.int .i64, Sh.sl (3 : Nat)], OSh.row true (73 : Nat) (Ty.pair (Ty.int .i64) (Ty.int .i64))] [((8 : Nat), TSh.at (Sh.ptr (1 : Nat) (0 : Nat))), ((9 : Nat), TSh.at (Sh.ptr (2 : Nat) (0 : Nat)))]
noncomputable def Z50 : LoopDef (Tup Z2i × OutD) := .plain ZhJ Zty (Int × Int × Int × Int × Int × List (Int × Int)) (fun k x => Z5V k x.1.2.1.1 x.1.2.1.2.1 x.1.2.1.2.2.1 x.1.2.2.1.1 x.1.2.2.1.2.1 x.1.2.2.2.1 x.1.2.2.2.2.1.1 x.1.2.2.2.2.1.2.1 x.1.2.2.2.2.2.1 x.2.1 x.2.2.2.2.2.1) (fun z => (((), (z.1, z.2.1, z.2.2.1, ()), (z.2.2.2.1, z.2.2.2.2.1, (), ()), z.2.2.2.2.2, ()), ((), (), ()))) (fun y => (y.1.2.1.1, y.1.2.1.2.1, y.1.2.1.2.2.1, y.1.2.2.1.1, y.1.2.2.1.2.1, y.1.2.2.2.1)) (fun _ => rfl)
theorem ZtU (k : Nat) (b1_0 : Int) (b1_1 : Int) (b1_2 : Int) (b2_0 : Int) (b2_1 : Int) (o3 : List (Int × Int)) (b4_0 : Int) (b4_1 : Int) (o5 : List (Int × Int)) (v3 : Int) (v12 : Int) : Z9u k b1_0 b1_1 b1_2 b2_0 b2_1 o3 b4_0 b4_1 o5 v3 v12 = repl 2 (Z5V k b1_0 b1_1 b1_2 b2_0 b2_1 o3 b4_0 b4_1 o5 v3 v12) := by
 first
 | (simp only [Z9u, Z5V, ZS, Z1Q, Z10, ZV, ZY, Zg, if_true]; done)
 | (simp only [Z9u, Z5V, ZS, Z1Q, Z10, ZV, ZY, Zg, if_true]; simp only [Z9q, Z9o, ZcO, Zg]; simp only [ZeQ]; exact ZaK ⟨fun h => by simp only [h, and_self], fun h => by simp only [h, and_self]⟩)
noncomputable def Z7C : Nat → Int → Int → List (Int × Int) → Int → Int → Int → Int → Int → List (Int × Int) → Int → Int → List (Int × Int) → List Int → List (Int × Int × Int) → Int → Int → Int → Option (LR (Int × Int × List (Int × Int) × Int × Int × Int × Int × Int × List (Int × Int) × Int × Int × List (Int × Int) × Int) ((Int × Int × Int) × Int × Int × List (Int × Int)))
 | 0, _, _, _, _, _, _, _, _, _, _, _, _, _, _, _, _, _ => none
 | k + 1, b1_0, b1_1, b1_2, b2_0, b2_1, b2_2, b3_0, b3_1, o4, b5_0, b5_1, o6, v1, v2, v3, v11, v12 =>
  if decide (v12 < b1_0) = true then Option.bind (Zf8 k (b5_0, b5_1, o6) v12 v3) fun z1 => Option.bind (Zf4 k v2 v12 v3) fun z2 => if decide (z2 = (2 : Int)) = true then Option.bind (Z6Q k b2_0 b2_1 b2_2 b3_0 b3_1 o4 b5_0 b5_1 o6 v3 v12) fun z3 => some (LR.ret ((Prod.fst z3, Prod.fst z3.2, Prod.fst z3.2.2), Prod.fst z3.2.2.2, Prod.fst z3.2.2.2.2, Prod.snd z3.2.2.2.2)) else if decide (Prod.fst z1 = (5 : Int)) = true then Option.bind (Z6b k b2_0 b2_1 b2_2 b3_0 b3_1 o4 b5_0 b5_1 o6 v3 v12) fun z4 => some (LR.ret ((Prod.fst z4, Prod.fst z4.2, Prod.fst z4.2.2), Prod.fst z4.2.2.2, Prod.fst z4.2.2.2.2, Prod.snd z4.2.2.2.2)) else Option.bind (Zct k (Prod.fst z1, Prod.snd z1) v11) fun z5 => Option.bind (Zal k b1_0 b1_1 b1_2 b2_0 b2_1 b2_2 b3_0 b3_1 o4 b5_0 b5_1 o6 v1 v2 v3 v12 z5 (decide (z2 = (3 : Int)))) fun z6 => Option.bind (Zcd k (Prod.fst z6.2.2.2.2.2.2.2.2.2, Prod.fst z6.2.2.2.2.2.2.2.2.2.2, Prod.fst z6.2.2.2.2.2.2.2.2.2.2.2) z6.2.2.2.2.2.2.2.2.2.2.2.2.1 (wrap64 (wrap64 (Prod.fst z6.2.2.2.2.2.2.2.2.2.2.2.2.2.2.2 * Prod.fst z6.2) + Prod.fst z6.2.2.2.2.2.2.2.2.2.2.2.2.2.2))) fun z7 => Option.bind (Z6o k z6.1 z6.2.1 z6.2.2.1 z6.2.2.2.1 z6.2.2.2.2.1 z6.2.2.2.2.2.1 z6.2.2.2.2.2.2.1 z6.2.2.2.2.2.2.2.1 z6.2.2.2.2.2.2.2.2.1 z6.2.2.2.2.2.2.2.2.2.1 z6.2.2.2.2.2.2.2.2.2.2.1 z7 z6.2.2.2.2.2.2.2.2.2.2.2.2.1 z6.2.2.2.2.2.2.2.2.2.2.2.2.2.1 z6.2.2.2.2.2.2.2.2.2.2.2.2.2.2.1 z6.2.2.2.2.2.2.2.2.2.2.2.2.2.2.2.1 z6.2.2.2.2.2.2.2.2.2.2.2.2.2.2.2.2 z6.2.2.2.2.2.2.2.2.2.2.2.2.2.1 (↑(List.length z6.2.2.2.2.2.2.2.2.2.2.2.2.2.1) : Int) (0 : Int)) fun z8 => Option.bind (Z6I k (wrap64 (Prod.fst z8.2.2.2.2.2.2.2.2.2.2.2.2.2.2 + Prod.snd z8.2.2.2.2.2.2.2.2.2.2.2.2.2.2.2)) (0 : Int) (wrap64 (Prod.fst z8.2 - (1 : Int)))) fun z9 => if (!z9) = true then Option.bind (Z5V k z8.2.2.2.1 z8.2.2.2.2.1 z8.2.2.2.2.2.1 z8.2.2.2.2.2.2.1 z8.2.2.2.2.2.2.2.1 z8.2.2.2.2.2.2.2.2.1 z8.2.2.2.2.2.2.2.2.2.1 z8.2.2.2.2.2.2.2.2.2.2.1 z8.2.2.2.2.2.2.2.2.2.2.2.1 (wrap64 (Prod.fst z8.2.2.2.2.2.2.2.2.2.2.2.2.2.2 + Prod.snd z8.2.2.2.2.2.2.2.2.2.2.2.2.2.2.2)) z8.2.2.2.2.2.2.2.2.2.2.2.2.2.2.2.1) fun z10 => some (LR.ret ((Prod.fst z10, Prod.fst z10.2, Prod.fst z10.2.2), Prod.fst z10.2.2.2, Prod.fst z10.2.2.2.2, Prod.snd z10.2.2.2.2)) else Z7C k z8.1 z8.2.1 z8.2.2.1 z8.2.2.2.1 z8.2.2.2.2.1 z8.2.2.2.2.2.1 z8.2.2.2.2.2.2.1 z8.2.2.2.2.2.2.2.1 z8.2.2.2.2.2.2.2.2.1 z8.2.2.2.2.2.2.2.2.2.1 z8.2.2.2.2.2.2.2.2.2.2.1 z8.2.2.2.2.2.2.2.2.2.2.2.1 z8.2.2.2.2.2.2.2.2.2.2.2.2.1 z8.2.2.2.2.2.2.2.2.2.2.2.2.2.1 (wrap64 (Prod.fst z8.2.2.2.2.2.2.2.2.2.2.2.2.2.2 + Prod.snd z8.2.2.2.2.2.2.2.2.2.2.2.2.2.2.2)) (wrap64 ((0 : Int) - Prod.snd z8.2.2.2.2.2.2.2.2.2.2.2.2.2.2.2)) (wrap64 (Prod.fst z8.2.2.2.2.2.2.2.2.2.2.2.2.2.2.2 + (1 : Int))) else some (LR.go (b1_0, b1_1, b1_2, b2_0, b2_1, b2_2, b3_0, b3_1, o4, b5_0, b5_1, o6, v3))
noncomputable def ZeM : Spec := Spec.mk [OSh.ro, OSh.box (33 : Nat) [Sh.int .i64, Sh.int .i64, Sh.snap (0 : Nat) (Ty.pair (Ty.int .i64) (Ty.int .i64))], OSh.box (94 : Nat) [Sh.int .i64, Sh.int .i64, Sh.int .i64], OSh.box (33 : Nat) [Sh.int .i64, Sh.int .i64, Sh.sl (4 : Nat)], OSh.row true (73 : Nat) (Ty.pair (Ty.int .i64) (Ty.int .i64)), OSh.box (33 : Nat) [Sh.int .i64, Sh.int .i64, Sh.sl (6 : Nat)], OSh.row true (73 : Nat) (Ty.pair (Ty.int .i64) (Ty.int .i64))] [((1 : Nat), TSh.at (Sh.snap (0 : Nat) (Ty.int .i64))), ((2 : Nat), TSh.at (Sh.snap (0 : Nat) (Ty.pair (Ty.int .i64) (Ty.pair (Ty.int .i64) (Ty.int .i64))))), ((3 : Nat), TSh.at (Sh.int .i64)), ((4 : Nat), TSh.at (Sh.ptr (1 : Nat) (0 : Nat))), ((8 : Nat), TSh.at (Sh.ptr (2 : Nat) (0 : Nat))), ((9 : Nat), TSh.at (Sh.ptr (3 : Nat) (0 : Nat))), ((10 : Nat), TSh.at (Sh.ptr (5 : Nat) (0 : Nat))), ((11 : Nat), TSh.at (Sh.int .i64)), ((12 : Nat), TSh.at (Sh.int .i64))]
noncomputable def Zxw : Spec := Spec.mk [OSh.ro, OSh.box (33 : Nat) [Sh.int .i64, Sh.int .i64, Sh.snap (0 : Nat) (Ty.pair (Ty.int .i64) (Ty.int .i64))], OSh.box (94 : Nat) [Sh.int .i64, Sh.int .i64, Sh.int .i64], OSh.box (33 : Nat) [Sh.int .i64, Sh.int .i64, Sh.sl (4 : Nat)], OSh.row true (73 : Nat) (Ty.pair (Ty.int .i64) (Ty.int .i64)), OSh.box (33 : Nat) [Sh.int .i64, Sh.int .i64, Sh.sl (6 : Nat)], OSh.row true (73 : Nat) (Ty.pair (Ty.int .i64) (Ty.int .i64))] [((3 : Nat), TSh.at (Sh.int .i64)), ((4 : Nat), TSh.at (Sh.ptr (1 : Nat) (0 : Nat))), ((8 : Nat), TSh.at (Sh.ptr (2 : Nat) (0 : Nat))), ((9 : Nat), TSh.at (Sh.ptr (3 : Nat) (0 : Nat))), ((10 : Nat), TSh.at (Sh.ptr (5 : Nat) (0 : Nat)))]
noncomputable def Z6M : LoopDef (Tup Z2i × OutD) := .rets ZeM Zxw (Int × Int × List (Int × Int) × Int × Int × Int × Int × Int × List (Int × Int) × Int × Int × List (Int × Int) × Int) ((Int × Int × Int) × Int × Int × List (Int × Int)) (fun k x => Z7C k x.1.2.1.1 x.1.2.1.2.1 x.1.2.1.2.2.1 x.1.2.2.1.1 x.1.2.2.1.2.1 x.1.2.2.1.2.2.1 x.1.2.2.2.1.1 x.1.2.2.2.1.2.1 x.1.2.2.2.2.1 x.1.2.2.2.2.2.1.1 x.1.2.2.2.2.2.1.2.1 x.1.2.2.2.2.2.2.1 x.2.1 x.2.2.1 x.2.2.2.1 x.2.2.2.2.2.2.2.2.1 x.2.2.2.2.2.2.2.2.2.1) (fun z => (((), (z.1, z.2.1, z.2.2.1, ()), (z.2.2.2.1, z.2.2.2.2.1, z.2.2.2.2.2.1, ()), (z.2.2.2.2.2.2.1, z.2.2.2.2.2.2.2.1, (), ()), z.2.2.2.2.2.2.2.2.1, (z.2.2.2.2.2.2.2.2.2.1, z.2.2.2.2.2.2.2.2.2.2.1, (), ()), z.2.2.2.2.2.2.2.2.2.2.2.1, ()), (z.2.2.2.2.2.2.2.2.2.2.2.2, (), (), (), (), ()))) (fun y => (y.1.2.1.1, y.1.2.1.2.1, y.1.2.1.2.2.1, y.1.2.2.1.1, y.1.2.2.1.2.1, y.1.2.2.1.2.2.1, y.1.2.2.2.1.1, y.1.2.2.2.1.2.1, y.1.2.2.2.2.1, y.1.2.2.2.2.2.1.1, y.1.2.2.2.2.2.1.2.1, y.1.2.2.2.2.2.2.1, y.2.1)) (fun _ => rfl) Zhk Zig Zjs
noncomputable def Z5Y : Nat → Int → Int → List (Int × Int) → Int → Int → Int → Int → Int → List (Int × Int) → Int → Int → List (Int × Int) → Int → Option (Int × Int × Int × Int × Int × List (Int × Int)) := fun k b1_0 b1_1 b1_2 b2_0 b2_1 b2_2 b3_0 b3_1 o4 b5_0 b5_1 o6 v3 =>
    some ((1 : Int), b1_0, v3, b5_0, b5_1, o6)
noncomputable def Z9r : Nat → Int → Int → List (Int × Int) → Int → Int → Int → Int → Int → List (Int × Int) → Int → Int → List (Int × Int) → Int → Option (List (Int × Int × Int × Int × Int × List (Int × Int))) := fun k b1_0 b1_1 b1_2 b2_0 b2_1 b2_2 b3_0 b3_1 o4 b5_0 b5_1 o6 v3 =>
    joinL (some [((1 : Int), b1_0, v3, b5_0, b5_1, o6)]) (some [((1 : Int), b1_0, v3, b5_0, b5_1, o6)])
noncomputable def Zhx : Spec := Spec.mk [OSh.ro, OSh.box (33 : Nat) [Sh.int .i64, Sh.int .i64, Sh.snap (0 : Nat) (Ty.pair (Ty.int .i64) (Ty.int .i64))], OSh.box (94 : Nat) [Sh.int .i64, Sh.int .i64, Sh.int .i64], OSh.box (33 : Nat) [Sh.int .i64, Sh.int .i64, Sh.sl (4 : Nat)], OSh.row true (73 : Nat) (Ty.pair (Ty.int .i64) (Ty.int .i64)), OSh.box (33 : Nat) [Sh.int .i64, Sh.int .i64, Sh.sl (6 : Nat)], OSh.row true (73 : Nat) (Ty.pair (Ty.int .i64) (Ty.int .i64))] [((3 : Nat), TSh.at (Sh.int .i64)), ((4 : Nat), TSh.at (Sh.ptr (1 : Nat) (0 : Nat))), ((8 : Nat), TSh.at (Sh.ptr (2 : Nat) (0 : Nat))), ((9 : Nat), TSh.at (Sh.ptr (3 : Nat) (0 : Nat))), ((10 : Nat), TSh.at (Sh.ptr (5 : Nat) (0 : Nat)))]
noncomputable def ZtM : Spec := Spec.mk [OSh.ro, OSh.box (94 : Nat) [Sh.int .i64, Sh.int .i64, Sh.int .i64], OSh.box (33 : Nat) [Sh.int .i64, Sh.int .i64, Sh.sl (3 : Nat)], OSh.row true (73 : Nat) (Ty.pair (Ty.int .i64) (Ty.int .i64))] [((8 : Nat), TSh.at (Sh.ptr (1 : Nat) (0 : Nat))), ((9 : Nat), TSh.at (Sh.ptr (2 : Nat) (0 : Nat)))]
noncomputable def Z55 : LoopDef (Tup Z2i × OutD) := .plain Zhx ZtM (Int × Int × Int × Int × Int × List (Int × Int)) (fun k x => Z5Y k x.1.2.1.1 x.1.2.1.2.1 x.1.2.1.2.2.1 x.1.2.2.1.1 x.1.2.2.1.2.1 x.1.2.2.1.2.2.1 x.1.2.2.2.1.1 x.1.2.2.2.1.2.1 x.1.2.2.2.2.1 x.1.2.2.2.2.2.1.1 x.1.2.2.2.2.2.1.2.1 x.1.2.2.2.2.2.2.1 x.2.1) (fun z => (((), (z.1, z.2.1, z.2.2.1, ()), (z.2.2.2.1, z.2.2.2.2.1, (), ()), z.2.2.2.2.2, ()), ((), (), ()))) (fun y => (y.1.2.1.1, y.1.2.1.2.1, y.1.2.1.2.2.1, y.1.2.2.1.1, y.1.2.2.1.2.1, y.1.2.2.2.1)) (fun _ => rfl)
theorem Zul (k : Nat) (b1_0 : Int) (b1_1 : Int) (b1_2 : List (Int × Int)) (b2_0 : Int) (b2_1 : Int) (b2_2 : Int) (b3_0 : Int) (b3_1 : Int) (o4 : List (Int × Int)) (b5_0 : Int) (b5_1 : Int) (o6 : List (Int × Int)) (v3 : Int) : Z9r k b1_0 b1_1 b1_2 b2_0 b2_1 b2_2 b3_0 b3_1 o4 b5_0 b5_1 o6 v3 = repl 2 (Z5Y k b1_0 b1_1 b1_2 b2_0 b2_1 b2_2 b3_0 b3_1 o4 b5_0 b5_1 o6 v3) := by
 first
 | (simp only [Z9r, Z5Y, ZS, Z1Q, Z10, ZV, ZY, Zg, if_true]; done)
 | (simp only [Z9r, Z5Y, ZS, Z1Q, Z10, ZV, ZY, Zg, if_true]; simp only [Z9q, Z9o, ZcO, Zg]; simp only [ZeQ]; exact ZaK ⟨fun h => by simp only [h, and_self], fun h => by simp only [h, and_self]⟩)
noncomputable def Zf7 : Nat → Int × Int × List (Int × Int) → List Int → List (Int × Int × Int) → Int → Option ((Int × Int × Int) × Int × Int × List (Int × Int))
 | 0, _, _, _, _ => none
 | k + 1, p0, p1, p2, p3 =>
  Option.bind (Z73 k (Prod.fst p0, Prod.fst p0.2, Prod.snd p0.2)) fun z0 => Option.bind (Z7C k p0.1 p0.2.1 p0.2.2 (0 : Int) (0 : Int) (0 : Int) (0 : Int) (0 : Int) [] z0.1 z0.2.1 z0.2.2 p1 p2 p3 (0 : Int) (0 : Int)) fun z11 => LR.on z11 (fun y11 => Option.bind (Z5Y k y11.1 y11.2.1 y11.2.2.1 y11.2.2.2.1 y11.2.2.2.2.1 y11.2.2.2.2.2.1 y11.2.2.2.2.2.2.1 y11.2.2.2.2.2.2.2.1 y11.2.2.2.2.2.2.2.2.1 y11.2.2.2.2.2.2.2.2.2.1 y11.2.2.2.2.2.2.2.2.2.2.1 y11.2.2.2.2.2.2.2.2.2.2.2.1 y11.2.2.2.2.2.2.2.2.2.2.2.2) fun z12 => some ((Prod.fst z12, Prod.fst z12.2, Prod.fst z12.2.2), Prod.fst z12.2.2.2, Prod.fst z12.2.2.2.2, Prod.snd z12.2.2.2.2)) fun r11 => some r11
noncomputable def Z6J : FnDef := .of Zte Z2i ((Int × Int × Int) × Int × Int × List (Int × Int)) (fun k x => Zf7 k x.1 x.2.1 x.2.2.1 x.2.2.2.1) Zhk Zig Zjs
noncomputable def Z3b : Code := Try.f103.body.getD .skip
noncomputable def Z3 : Ctx (Tup Z2i × OutD) := { T := T, G := [(101, Z3X.E), (112, Z6H.E), (113, Z6G.E), (114, Z4G.E), (115, Z4D.E), (85, Z3a.E)], mvs := [], no := 0, n := 111, res := resOf T Zte Z2i Try.f103.results.toList, loops := [(2, Z6P.E), (0, Z6M.E)], regs := [(9, Z5R.E), (11, Z52.E), (26, Z50.E), (27, Z55.E)], conds := [(52, Zz.E)], cuts := [] }
theorem Z6K (k : Nat) : EnvOK Try.prog k Z3.G := (EnvOK.cons (ZpM k) (EnvOK.cons (ZAS k) (EnvOK.cons (ZAY k) (EnvOK.cons (Zys k) (EnvOK.cons (Zzi k) (EnvOK.cons (Zf3 k) (EnvOK.nil mixed)))))))
noncomputable def Ze5 : Array Oper := (findReg 9 Z3b).getD #[]
theorem ZvS (k : Nat) (x : Zjj.D) : execD Z3.T Z3.G Z3.mvs k Ze5 (Z5R.inp.st Z3.n x) (outK Z3 Z5R) = Zau k x.1.2.1.1 x.1.2.1.2.1 x.1.2.1.2.2.1 x.1.2.2.1.1 x.1.2.2.1.2.1 x.1.2.2.2.1 x.1.2.2.2.2.1.1 x.1.2.2.2.2.1.2.1 x.1.2.2.2.2.2.1 x.2.1 x.2.2.2.2.2.1 := by kernel_rfl
theorem ZuA (k : Nat) : EOK Try.prog Z3 k Z5R.E (.region 9 Ze5 true) := ZaY (D := Z5R) (m := 2) T_ok (Z6K k) (fun x => (ZvS k x).trans (ZvV k x.1.2.1.1 x.1.2.1.2.1 x.1.2.1.2.2.1 x.1.2.2.1.1 x.1.2.2.1.2.1 x.1.2.2.2.1 x.1.2.2.2.2.1.1 x.1.2.2.2.2.1.2.1 x.1.2.2.2.2.2.1 x.2.1 x.2.2.2.2.2.1))
noncomputable def ZcJ : Array Oper := (findReg 11 Z3b).getD #[]
theorem Ztt (k : Nat) (x : Zin.D) : execD Z3.T Z3.G Z3.mvs k ZcJ (Z52.inp.st Z3.n x) (outK Z3 Z52) = Z9f k x.1.2.1.1 x.1.2.1.2.1 x.1.2.1.2.2.1 x.1.2.2.1.1 x.1.2.2.1.2.1 x.1.2.2.2.1 x.1.2.2.2.2.1.1 x.1.2.2.2.2.1.2.1 x.1.2.2.2.2.2.1 x.2.1 x.2.2.2.2.2.1 := by kernel_rfl
theorem ZrE (k : Nat) : EOK Try.prog Z3 k Z52.E (.region 11 ZcJ true) := ZaY (D := Z52) (m := 2) T_ok (Z6K k) (fun x => (Ztt k x).trans (ZuJ k x.1.2.1.1 x.1.2.1.2.1 x.1.2.1.2.2.1 x.1.2.2.1.1 x.1.2.2.1.2.1 x.1.2.2.2.1 x.1.2.2.2.2.1.1 x.1.2.2.2.2.1.2.1 x.1.2.2.2.2.2.1 x.2.1 x.2.2.2.2.2.1))
noncomputable def ZcI : Array Oper := (findReg 26 Z3b).getD #[]
theorem ZuT (k : Nat) (x : ZhJ.D) : execD Z3.T Z3.G Z3.mvs k ZcI (Z50.inp.st Z3.n x) (outK Z3 Z50) = Z9u k x.1.2.1.1 x.1.2.1.2.1 x.1.2.1.2.2.1 x.1.2.2.1.1 x.1.2.2.1.2.1 x.1.2.2.2.1 x.1.2.2.2.2.1.1 x.1.2.2.2.2.1.2.1 x.1.2.2.2.2.2.1 x.2.1 x.2.2.2.2.2.1 := by kernel_rfl
theorem ZrQ (k : Nat) : EOK Try.prog Z3 k Z50.E (.region 26 ZcI true) := ZaY (D := Z50) (m := 2) T_ok (Z6K k) (fun x => (ZuT k x).trans (ZtU k x.1.2.1.1 x.1.2.1.2.1 x.1.2.1.2.2.1 x.1.2.2.1.1 x.1.2.2.1.2.1 x.1.2.2.2.1 x.1.2.2.2.2.1.1 x.1.2.2.2.2.1.2.1 x.1.2.2.2.2.2.1 x.2.1 x.2.2.2.2.2.1))
noncomputable def ZcS : Array Oper := (findReg 27 Z3b).getD #[]
theorem Zu3 (k : Nat) (x : Zhx.D) : execD Z3.T Z3.G Z3.mvs k ZcS (Z55.inp.st Z3.n x) (outK Z3 Z55) = Z9r k x.1.2.1.1 x.1.2.1.2.1 x.1.2.1.2.2.1 x.1.2.2.1.1 x.1.2.2.1.2.1 x.1.2.2.1.2.2.1 x.1.2.2.2.1.1 x.1.2.2.2.1.2.1 x.1.2.2.2.2.1 x.1.2.2.2.2.2.1.1 x.1.2.2.2.2.2.1.2.1 x.1.2.2.2.2.2.2.1 x.2.1 := by kernel_rfl
theorem ZrK (k : Nat) : EOK Try.prog Z3 k Z55.E (.region 27 ZcS true) := ZaY (D := Z55) (m := 2) T_ok (Z6K k) (fun x => (Zu3 k x).trans (Zul k x.1.2.1.1 x.1.2.1.2.1 x.1.2.1.2.2.1 x.1.2.2.1.1 x.1.2.2.1.2.1 x.1.2.2.1.2.2.1 x.1.2.2.2.1.1 x.1.2.2.2.1.2.1 x.1.2.2.2.2.1 x.1.2.2.2.2.2.1.1 x.1.2.2.2.2.2.1.2.1 x.1.2.2.2.2.2.2.1 x.2.1))
noncomputable def Z9y : Code := ((findCond 52 Z3b).map (·.1)).getD .skip
noncomputable def Z98 : Code := ((findCond 52 Z3b).map (·.2)).getD .skip
theorem ZtP (k : Nat) (i : Zz.inp.D) : Zz.lp k i = branch (Zz.inp.st Z3.n i) (.tmp 52) (fun st => exec Z3 k Z9y st (outK Z3 Zz) (fun _ _ => none) Zz.mkB) (fun st => exec Z3 k Z98 st (outK Z3 Zz) (fun _ _ => none) Zz.mkB) := by kernel_rfl
theorem Zt2 (k : Nat) : EOK Try.prog Z3 k Zz.E (.cond (.tmp 52) Z9y Z98) := ZD3 (D := Zz) T_ok (Z6K k) (ZtP k) (@LOK.by _ _ _ _ Z9y [] (by kernel_rfl) AllOK.nil) (@LOK.by _ _ _ _ Z98 [] (by kernel_rfl) AllOK.nil)
noncomputable def Zbe : Code := (findLoop 2 Z3b).getD .skip
theorem ZwT (k : Nat) (x : ZeG.D) : Z6P.lp (k + 1) x = loopK Z3 Z6P 2 Zbe k x := by kernel_rfl
theorem ZxM (k : Nat) : LOK Try.prog Z3 k Zbe := LOK.by [] (by kernel_rfl) AllOK.nil
theorem ZwR (x : ZeG.D) : Z6P.lp 0 x = none := by kernel_rfl
theorem ZvB (k : Nat) : EOK Try.prog Z3 k Z6P.E (.block 2 (.loop Zbe)) := Z2 T_ok Z6K ZwR ZwT ZxM k
noncomputable def Zb4 : Code := (findLoop 0 Z3b).getD .skip
theorem ZxE (k : Nat) (x : ZeM.D) : Z6M.lp (k + 1) x = loopK Z3 Z6M 0 Zb4 k x := by kernel_rfl
theorem ZxV (k : Nat) : LOK Try.prog Z3 k Zb4 := LOK.by [(Z5R.E, .region 9 Ze5 true), (Z52.E, .region 11 ZcJ true), (Zz.E, .cond (.tmp 52) Z9y Z98), (Z6P.E, .block 2 (.loop Zbe)), (Z50.E, .region 26 ZcI true)] (by kernel_rfl) (AllOK.cons (ZuA k) (AllOK.cons (ZrE k) (AllOK.cons (Zt2 k) (AllOK.cons (ZvB k) (AllOK.cons (ZrQ k) AllOK.nil)))))
theorem Zx1 (x : ZeM.D) : Z6M.lp 0 x = none := by kernel_rfl
theorem Zwm (k : Nat) : EOK Try.prog Z3 k Z6M.E (.block 0 (.loop Zb4)) := Z2 T_ok Z6K Zx1 ZxE ZxV k
theorem ZBj (k : Nat) (x : Tup Z6J.ps) : Z6J.f (k + 1) x = fnK Z6J Z3 Z3b k x := by kernel_rfl
theorem ZB9 (x : Tup Z6J.ps) : Z6J.f 0 x = none := by kernel_rfl
theorem ZB8 (k : Nat) : LOK Try.prog Z3 k Z3b := LOK.by [(Z6M.E, .block 0 (.loop Zb4)), (Z55.E, .region 27 ZcS true)] (by kernel_rfl) (AllOK.cons (Zwm k) (AllOK.cons (ZrK k) AllOK.nil))
theorem ZBt (k : Nat) : SoundAt Try.prog k 103 Z6J.E := @Z1 Try.prog Z6J Z3 103 Try.f103 Z3b (by kernel_rfl) (by kernel_rfl) (by kernel_rfl) Try.func103 (by kernel_rfl) (by kernel_rfl) (by kernel_rfl) T_ok Z6K ZB8 ZB9 ZBj k
end
end Go.Proofs.Ytpeflcbadgfebaa.Vs

set_option maxRecDepth 100000
set_option maxHeartbeats 2000000
set_option linter.unusedVariables false
set_option linter.unusedSimpArgs false
namespace Go.Proofs.Ytpeflcbadgfebaa.Vs
open Go.RowKit
noncomputable section
noncomputable def Z9U : List PK := [PK.mk Ty.bool false none false none]
noncomputable def Zny : List PK := [PK.mk (Ty.pair (Ty.int .i64) (Ty.pair (Ty.int .i64) (Ty.slice (73 : Nat) (Ty.pair (Ty.int .i64) (Ty.int .i64))))) true none false none]
noncomputable def ZkL (r : Bool) : Tup Z9U × OutD := ((r, ()), none)
noncomputable def Zl3 : Tup Z9U × OutD → Option (Bool)
 | (a, none) => some (a.1)
 | _ => none
theorem Zs6 : ∀ b r, Zl3 b = some r → ZkL r = b := by
 rintro ⟨a, o⟩ r h
 cases o with
 | none => injection h with h; subst h; rfl
 | some _ => cases h
noncomputable def Zcs : Nat → Int × Int × List (Int × Int) → Option Bool
 | 0, _ => none
 | k + 1, p0 =>
  Option.bind (Zcf k (Prod.fst p0, Prod.fst p0.2, Prod.snd p0.2)) fun z0 => if z0 = true then some (decide ((↑(List.length p0.2.2) : Int) ≤ (30 : Int))) else some false
noncomputable def Z4t : FnDef := .of Zny Z9U (Bool) (fun k x => Zcs k x.1) ZkL Zl3 Zs6
noncomputable def ZfG : Code := Try.f56.body.getD .skip
noncomputable def Zco : Ctx (Tup Z9U × OutD) := { T := T, G := [(71, Z4x.E)], mvs := [], no := 0, n := 11, res := resOf T Zny Z9U Try.f56.results.toList, loops := [], regs := [], conds := [], cuts := [] }
theorem Zzv (k : Nat) : EnvOK Try.prog k Zco.G := (EnvOK.cons (Zye k) (EnvOK.nil mixed))
theorem ZyU (k : Nat) (x : Tup Z4t.ps) : Z4t.f (k + 1) x = fnK Z4t Zco ZfG k x := by kernel_rfl
theorem ZyV (x : Tup Z4t.ps) : Z4t.f 0 x = none := by kernel_rfl
theorem Zyz (k : Nat) : LOK Try.prog Zco k ZfG := LOK.by [] (by kernel_rfl) AllOK.nil
theorem Zza (k : Nat) : SoundAt Try.prog k 56 Z4t.E := @Z1 Try.prog Z4t Zco 56 Try.f56 ZfG (by kernel_rfl) (by kernel_rfl) (by kernel_rfl) Try.func56 (by kernel_rfl) (by kernel_rfl) (by kernel_rfl) T_ok Zzv Zyz ZyV ZyU k
noncomputable def Z2W : List PK := [PK.mk Ty.bool false none false none]
noncomputable def Zep : List PK := [PK.mk (Ty.pair (Ty.int .i64) (Ty.pair (Ty.int .i64) (Ty.slice (73 : Nat) (Ty.pair (Ty.int .i64) (Ty.int .i64))))) true none false none, PK.mk (Ty.slice (3 : Nat) (Ty.int .i64)) false none false none]
noncomputable def Z9j (r : Bool) : Tup Z2W × OutD := ((r, ()), none)
noncomputable def Z9J : Tup Z2W × OutD → Option (Bool)
 | (a, none) => some (a.1)
 | _ => none
theorem Zbx : ∀ b r, Z9J b = some r → Z9j r = b := by
 rintro ⟨a, o⟩ r h
 cases o with
 | none => injection h with h; subst h; rfl
 | some _ => cases h
noncomputable def Z21 : Nat → Int → Int → List (Int × Int) → List Int → Int → Int → Option (LR Unit Bool)
 | 0, _, _, _, _, _, _ => none
 | k + 1, b1_0, b1_1, b1_2, v15, v16, v17 =>
  if decide (v17 < v16) = true then if (0 : Int) ≤ v17 then if v17 < (↑(List.length v15) : Int) then if decide (List.getD v15 (Int.toNat v17) (0 : Int) < (0 : Int)) = true then some (LR.ret false) else if decide (List.getD v15 (Int.toNat v17) (0 : Int) ≥ b1_1) = true then some (LR.ret false) else Z21 k b1_0 b1_1 b1_2 v15 v16 (wrap64 (v17 + (1 : Int))) else none else none else some (LR.go ())
noncomputable def Z8e : Spec := Spec.mk [OSh.ro, OSh.box (33 : Nat) [Sh.int .i64, Sh.int .i64, Sh.snap (0 : Nat) (Ty.pair (Ty.int .i64) (Ty.int .i64))]] [((2 : Nat), TSh.at (Sh.ptr (1 : Nat) (0 : Nat))), ((15 : Nat), TSh.at (Sh.snap (0 : Nat) (Ty.int .i64))), ((16 : Nat), TSh.at (Sh.int .i64)), ((17 : Nat), TSh.at (Sh.int .i64))]
noncomputable def ZjV : Spec := Spec.mk [OSh.ro] []
noncomputable def Z1C : LoopDef (Tup Z2W × OutD) := .rets Z8e ZjV (Unit) (Bool) (fun k x => Z21 k x.1.2.1.1 x.1.2.1.2.1 x.1.2.1.2.2.1 x.2.2.1 x.2.2.2.1 x.2.2.2.2.1) (fun z => (((), ()), (()))) (fun y => ()) (fun _ => rfl) Z9j Z9J Zbx
noncomputable def Z7t : Nat → Int × Int × List (Int × Int) → List Int → Option Bool
 | 0, _, _ => none
 | k + 1, p0, p1 =>
  Option.bind (Z8H k (Prod.fst p0, Prod.fst p0.2, Prod.snd p0.2)) fun z0 => if (!z0) = true then some false else if decide ((↑(List.length p1) : Int) > (60 : Int)) = true then some false else Option.bind (Z21 k p0.1 p0.2.1 p0.2.2 p1 (↑(List.length p1) : Int) (0 : Int)) fun z1 => LR.on z1 (fun y1 => some true) fun r1 => some r1
noncomputable def ZT : FnDef := .of Zep Z2W (Bool) (fun k x => Z7t k x.1 x.2.1) Z9j Z9J Zbx
noncomputable def Z7w : Code := Try.f62.body.getD .skip
noncomputable def Z1M : Ctx (Tup Z2W × OutD) := { T := T, G := [(61, Z2k.E)], mvs := [], no := 0, n := 30, res := resOf T Zep Z2W Try.f62.results.toList, loops := [(0, Z1C.E)], regs := [], conds := [], cuts := [] }
theorem Zen (k : Nat) : EnvOK Try.prog k Z1M.G := (EnvOK.cons (ZlQ k) (EnvOK.nil mixed))
noncomputable def Z5B : Code := (findLoop 0 Z7w).getD .skip
theorem Zk8 (k : Nat) (x : Z8e.D) : Z1C.lp (k + 1) x = loopK Z1M Z1C 0 Z5B k x := by kernel_rfl
theorem Zkq (k : Nat) : LOK Try.prog Z1M k Z5B := LOK.by [] (by kernel_rfl) AllOK.nil
theorem Zk0 (x : Z8e.D) : Z1C.lp 0 x = none := by kernel_rfl
theorem ZiC (k : Nat) : EOK Try.prog Z1M k Z1C.E (.block 0 (.loop Z5B)) := Z2 T_ok Zen Zk0 Zk8 Zkq k
theorem Zpw (k : Nat) (x : Tup ZT.ps) : ZT.f (k + 1) x = fnK ZT Z1M Z7w k x := by kernel_rfl
theorem Zps (x : Tup ZT.ps) : ZT.f 0 x = none := by kernel_rfl
theorem Zon (k : Nat) : LOK Try.prog Z1M k Z7w := LOK.by [(Z1C.E, .block 0 (.loop Z5B))] (by kernel_rfl) (AllOK.cons (ZiC k) AllOK.nil)
theorem Zov (k : Nat) : SoundAt Try.prog k 62 ZT.E := @Z1 Try.prog ZT Z1M 62 Try.f62 Z7w (by kernel_rfl) (by kernel_rfl) (by kernel_rfl) Try.func62 (by kernel_rfl) (by kernel_rfl) (by kernel_rfl) T_ok Zen Zon Zps Zpw k
noncomputable def Z1d : List PK := [PK.mk (Ty.slice (81 : Nat) (Ty.pair (Ty.int .i64) (Ty.pair (Ty.int .i64) (Ty.int .i64)))) false none false none]
noncomputable def Zdh : List PK := [PK.mk (Ty.pair (Ty.int .i64) (Ty.pair (Ty.int .i64) (Ty.slice (73 : Nat) (Ty.pair (Ty.int .i64) (Ty.int .i64))))) true none false none]
noncomputable def ZbX (r : List (Int × Int × Int)) : Tup Z1d × OutD := ((r, ()), none)
noncomputable def Zca : Tup Z1d × OutD → Option (List (Int × Int × Int))
 | (a, none) => some (a.1)
 | _ => none
theorem ZgZ : ∀ b r, Zca b = some r → ZbX r = b := by
 rintro ⟨a, o⟩ r h
 cases o with
 | none => injection h with h; subst h; rfl
 | some _ => cases h
noncomputable def Zp : Nat → Int → Int → List (Int × Int) → List (Int × Int × Int) → Int → Int → Int → Int → List (Int × Int) → Int → Int → Option (Int × Int × List (Int × Int) × List (Int × Int × Int) × List (Int × Int) × Int × Int)
 | 0, _, _, _, _, _, _, _, _, _, _, _ => none
 | k + 1, b1_0, b1_1, b1_2, o2, b3_0, b3_1, v4, v6, v9, v10, v11 =>
  if decide (v6 ≤ (3 : Int)) = true then Option.bind (Zb3 k (b3_0, b3_1) v6) fun z0 => if z0 = true then if b1_1 = (0 : Int) then none else if b1_1 = (0 : Int) then none else if List.length o2 + List.length [(v6, wrap64 (Int.tdiv v4 b1_1), Int.tmod v4 b1_1)] ≤ (140737488355328 / 24 : Nat) then Zp k b1_0 b1_1 b1_2 (o2 ++ [(v6, wrap64 (Int.tdiv v4 b1_1), Int.tmod v4 b1_1)]) b3_0 b3_1 v4 (wrap64 (v6 + (1 : Int))) v9 v10 v11 else none else Zp k b1_0 b1_1 b1_2 o2 b3_0 b3_1 v4 (wrap64 (v6 + (1 : Int))) v9 v10 v11 else some (b1_0, b1_1, b1_2, o2, v9, v10, v11)
noncomputable def Z7g : Spec := Spec.mk [OSh.ro, OSh.box (33 : Nat) [Sh.int .i64, Sh.int .i64, Sh.snap (0 : Nat) (Ty.pair (Ty.int .i64) (Ty.int .i64))], OSh.row true (81 : Nat) (Ty.pair (Ty.int .i64) (Ty.pair (Ty.int .i64) (Ty.int .i64))), OSh.box (73 : Nat) [Sh.int .i64, Sh.int .i64]] [((1 : Nat), TSh.at (Sh.ptr (1 : Nat) (0 : Nat))), ((3 : Nat), TSh.at (Sh.sl (2 : Nat))), ((4 : Nat), TSh.at (Sh.int .i64)), ((5 : Nat), TSh.at (Sh.ptr (3 : Nat) (0 : Nat))), ((6 : Nat), TSh.at (Sh.int .i64)), ((9 : Nat), TSh.at (Sh.snap (0 : Nat) (Ty.pair (Ty.int .i64) (Ty.int .i64)))), ((10 : Nat), TSh.at (Sh.int .i64)), ((11 : Nat), TSh.at (Sh.int .i64))]
noncomputable def Zif : Spec := Spec.mk [OSh.ro, OSh.box (33 : Nat) [Sh.int .i64, Sh.int .i64, Sh.snap (0 : Nat) (Ty.pair (Ty.int .i64) (Ty.int .i64))], OSh.row true (81 : Nat) (Ty.pair (Ty.int .i64) (Ty.pair (Ty.int .i64) (Ty.int .i64)))] [((1 : Nat), TSh.at (Sh.ptr (1 : Nat) (0 : Nat))), ((3 : Nat), TSh.at (Sh.sl (2 : Nat))), ((9 : Nat), TSh.at (Sh.snap (0 : Nat) (Ty.pair (Ty.int .i64) (Ty.int .i64)))), ((10 : Nat), TSh.at (Sh.int .i64)), ((11 : Nat), TSh.at (Sh.int .i64))]
noncomputable def Z15 : LoopDef (Tup Z1d × OutD) := .plain Z7g Zif (Int × Int × List (Int × Int) × List (Int × Int × Int) × List (Int × Int) × Int × Int) (fun k x => Zp k x.1.2.1.1 x.1.2.1.2.1 x.1.2.1.2.2.1 x.1.2.2.1 x.1.2.2.2.1.1 x.1.2.2.2.1.2.1 x.2.2.2.1 x.2.2.2.2.2.1 x.2.2.2.2.2.2.1 x.2.2.2.2.2.2.2.1 x.2.2.2.2.2.2.2.2.1) (fun z => (((), (z.1, z.2.1, z.2.2.1, ()), z.2.2.2.1, ()), ((), (), z.2.2.2.2.1, z.2.2.2.2.2.1, z.2.2.2.2.2.2, ()))) (fun y => (y.1.2.1.1, y.1.2.1.2.1, y.1.2.1.2.2.1, y.1.2.2.1, y.2.2.2.1, y.2.2.2.2.1, y.2.2.2.2.2.1)) (fun _ => rfl)
noncomputable def ZK : Nat → Int → Int → List (Int × Int) → List (Int × Int × Int) → List (Int × Int) → Int → Int → Option (List (Int × Int × Int))
 | 0, _, _, _, _, _, _, _ => none
 | k + 1, b1_0, b1_1, b1_2, o2, v9, v10, v11 =>
  if decide (v11 < v10) = true then if (0 : Int) ≤ v11 then if v11 < (↑(List.length v9) : Int) then Option.bind (Zp k b1_0 b1_1 b1_2 o2 (Prod.fst (List.getD v9 (Int.toNat v11) ((0 : Int), (0 : Int)))) (Prod.snd (List.getD v9 (Int.toNat v11) ((0 : Int), (0 : Int)))) v11 (1 : Int) v9 v10 v11) fun z1 => ZK k z1.1 z1.2.1 z1.2.2.1 z1.2.2.2.1 z1.2.2.2.2.1 z1.2.2.2.2.2.1 (wrap64 (Prod.snd z1.2.2.2.2.2 + (1 : Int))) else none else none else some o2
noncomputable def Z7f : Spec := Spec.mk [OSh.ro, OSh.box (33 : Nat) [Sh.int .i64, Sh.int .i64, Sh.snap (0 : Nat) (Ty.pair (Ty.int .i64) (Ty.int .i64))], OSh.row true (81 : Nat) (Ty.pair (Ty.int .i64) (Ty.pair (Ty.int .i64) (Ty.int .i64)))] [((1 : Nat), TSh.at (Sh.ptr (1 : Nat) (0 : Nat))), ((3 : Nat), TSh.at (Sh.sl (2 : Nat))), ((9 : Nat), TSh.at (Sh.snap (0 : Nat) (Ty.pair (Ty.int .i64) (Ty.int .i64)))), ((10 : Nat), TSh.at (Sh.int .i64)), ((11 : Nat), TSh.at (Sh.int .i64))]
noncomputable def ZhU : Spec := Spec.mk [OSh.ro, OSh.row true (81 : Nat) (Ty.pair (Ty.int .i64) (Ty.pair (Ty.int .i64) (Ty.int .i64)))] [((3 : Nat), TSh.at (Sh.sl (1 : Nat)))]
noncomputable def Z18 : LoopDef (Tup Z1d × OutD) := .plain Z7f ZhU (List (Int × Int × Int)) (fun k x => ZK k x.1.2.1.1 x.1.2.1.2.1 x.1.2.1.2.2.1 x.1.2.2.1 x.2.2.2.1 x.2.2.2.2.1 x.2.2.2.2.2.1) (fun z => (((), z, ()), ((), ()))) (fun y => (y.1.2.1)) (fun _ => rfl)
noncomputable def Z5L : Nat → Int × Int × List (Int × Int) → Option (List (Int × Int × Int))
 | 0, _ => none
 | k + 1, p0 =>
  Option.bind (ZK k p0.1 p0.2.1 p0.2.2 [] p0.2.2 (↑(List.length p0.2.2) : Int) (0 : Int)) fun z2 => some z2
noncomputable def ZF : FnDef := .of Zdh Z1d (List (Int × Int × Int)) (fun k x => Z5L k x.1) ZbX Zca ZgZ
noncomputable def Z3r : Code := Try.f64.body.getD .skip
noncomputable def Zn : Ctx (Tup Z1d × OutD) := { T := T, G := [(77, Z3n.E)], mvs := [], no := 0, n := 38, res := resOf T Zdh Z1d Try.f64.results.toList, loops := [(2, Z15.E), (0, Z18.E)], regs := [], conds := [], cuts := [] }
theorem Z91 (k : Nat) : EnvOK Try.prog k Zn.G := (EnvOK.cons (ZwO k) (EnvOK.nil mixed))
noncomputable def Z43 : Code := (findLoop 2 Z3r).getD .skip
theorem Zho (k : Nat) (x : Z7g.D) : Z15.lp (k + 1) x = loopK Zn Z15 2 Z43 k x := by kernel_rfl
theorem ZhP (k : Nat) : LOK Try.prog Zn k Z43 := LOK.by [] (by kernel_rfl) AllOK.nil
theorem Zhd (x : Z7g.D) : Z15.lp 0 x = none := by kernel_rfl
theorem ZgS (k : Nat) : EOK Try.prog Zn k Z15.E (.block 2 (.loop Z43)) := Z2 T_ok Z91 Zhd Zho ZhP k
noncomputable def Z40 : Code := (findLoop 0 Z3r).getD .skip
theorem Zhb (k : Nat) (x : Z7f.D) : Z18.lp (k + 1) x = loopK Zn Z18 0 Z40 k x := by kernel_rfl
theorem ZhO (k : Nat) : LOK Try.prog Zn k Z40 := LOK.by [(Z15.E, .block 2 (.loop Z43))] (by kernel_rfl) (AllOK.cons (ZgS k) AllOK.nil)
theorem ZhV (x : Z7f.D) : Z18.lp 0 x = none := by kernel_rfl
theorem Zh3 (k : Nat) : EOK Try.prog Zn k Z18.E (.block 0 (.loop Z40)) := Z2 T_ok Z91 ZhV Zhb ZhO k
theorem Zlb (k : Nat) (x : Tup ZF.ps) : ZF.f (k + 1) x = fnK ZF Zn Z3r k x := by kernel_rfl
theorem Zmi (x : Tup ZF.ps) : ZF.f 0 x = none := by kernel_rfl
theorem Zly (k : Nat) : LOK Try.prog Zn k Z3r := LOK.by [(Z18.E, .block 0 (.loop Z40))] (by kernel_rfl) (AllOK.cons (Zh3 k) AllOK.nil)
theorem Zlq (k : Nat) : SoundAt Try.prog k 64 ZF.E := @Z1 Try.prog ZF Zn 64 Try.f64 Z3r (by kernel_rfl) (by kernel_rfl) (by kernel_rfl) Try.func64 (by kernel_rfl) (by kernel_rfl) (by kernel_rfl) T_ok Z91 Zly Zmi Zlb k
noncomputable def Z3G : List PK := [PK.mk (Ty.slice (94 : Nat) (Ty.pair (Ty.int .i64) (Ty.pair (Ty.int .i64) (Ty.int .i64)))) false none false none, PK.mk (Ty.pair (Ty.int .i64) (Ty.pair (Ty.int .i64) (Ty.slice (73 : Nat) (Ty.pair (Ty.int .i64) (Ty.int .i64))))) true none false none]
noncomputable def Zfn : List PK := [PK.mk (Ty.pair (Ty.int .i64) (Ty.pair (Ty.int .i64) (Ty.slice (73 : Nat) (Ty.pair (Ty.int .i64) (Ty.int .i64))))) true none false none, PK.mk (Ty.slice (81 : Nat) (Ty.pair (Ty.int .i64) (Ty.pair (Ty.int .i64) (Ty.int .i64)))) false none false none, PK.mk (Ty.slice (3 : Nat) (Ty.int .i64)) false none false none]
noncomputable def Zei (r : List (Int × Int × Int) × Int × Int × List (Int × Int)) : Tup Z3G × OutD := ((r.1, r.2, ()), none)
noncomputable def Zer : Tup Z3G × OutD → Option (List (Int × Int × Int) × Int × Int × List (Int × Int))
 | (a, none) => some (a.1, a.2.1)
 | _ => none
theorem ZjQ : ∀ b r, Zer b = some r → Zei r = b := by
 rintro ⟨a, o⟩ r h
 cases o with
 | none => injection h with h; subst h; rfl
 | some _ => cases h
noncomputable def Z2E : Nat → Int → Int → List (Int × Int) → Int → Int → List (Int × Int) → List Int → List Int → List (Int × Int × Int) → List Int → Int → Int → Option (Int × Int × List (Int × Int) × Int × Int × List (Int × Int) × List (Int × Int × Int))
 | 0, _, _, _, _, _, _, _, _, _, _, _, _ => none
 | k + 1, b1_0, b1_1, o2, b3_0, b3_1, o4, o5, o6, o7, v22, v23, v24 =>
  if decide (v24 < v23) = true then if (0 : Int) ≤ v24 then if v24 < (↑(List.length v22) : Int) then Option.bind (Z8q k (b3_0, b3_1, o4) o5 o6 (List.getD v22 (Int.toNat v24) (0 : Int))) fun z3 => if List.length o7 + List.length [(Prod.fst z3.1, Prod.fst z3.1.2, Prod.snd z3.1.2)] ≤ (140737488355328 / 24 : Nat) then Z2E k b1_0 b1_1 o2 b3_0 b3_1 z3.2 o5 o6 (o7 ++ [(Prod.fst z3.1, Prod.fst z3.1.2, Prod.snd z3.1.2)]) v22 v23 (wrap64 (v24 + (1 : Int))) else none else none else none else some (b1_0, b1_1, o2, b3_0, b3_1, o4, o7)
noncomputable def Z8Y : Spec := Spec.mk [OSh.ro, OSh.box (33 : Nat) [Sh.int .i64, Sh.int .i64, Sh.sl (2 : Nat)], OSh.row true (73 : Nat) (Ty.pair (Ty.int .i64) (Ty.int .i64)), OSh.box (33 : Nat) [Sh.int .i64, Sh.int .i64, Sh.sl (4 : Nat)], OSh.row true (73 : Nat) (Ty.pair (Ty.int .i64) (Ty.int .i64)), OSh.row true (3 : Nat) (Ty.int .i64), OSh.row true (3 : Nat) (Ty.int .i64), OSh.row true (94 : Nat) (Ty.pair (Ty.int .i64) (Ty.pair (Ty.int .i64) (Ty.int .i64)))] [((7 : Nat), TSh.at (Sh.ptr (1 : Nat) (0 : Nat))), ((8 : Nat), TSh.at (Sh.ptr (3 : Nat) (0 : Nat))), ((9 : Nat), TSh.at (Sh.sl (5 : Nat))), ((10 : Nat), TSh.at (Sh.sl (6 : Nat))), ((11 : Nat), TSh.at (Sh.sl (7 : Nat))), ((22 : Nat), TSh.at (Sh.snap (0 : Nat) (Ty.int .i64))), ((23 : Nat), TSh.at (Sh.int .i64)), ((24 : Nat), TSh.at (Sh.int .i64))]
noncomputable def ZlV : Spec := Spec.mk [OSh.ro, OSh.box (33 : Nat) [Sh.int .i64, Sh.int .i64, Sh.sl (2 : Nat)], OSh.row true (73 : Nat) (Ty.pair (Ty.int .i64) (Ty.int .i64)), OSh.box (33 : Nat) [Sh.int .i64, Sh.int .i64, Sh.sl (4 : Nat)], OSh.row true (73 : Nat) (Ty.pair (Ty.int .i64) (Ty.int .i64)), OSh.row true (94 : Nat) (Ty.pair (Ty.int .i64) (Ty.pair (Ty.int .i64) (Ty.int .i64)))] [((7 : Nat), TSh.at (Sh.ptr (1 : Nat) (0 : Nat))), ((8 : Nat), TSh.at (Sh.ptr (3 : Nat) (0 : Nat))), ((11 : Nat), TSh.at (Sh.sl (5 : Nat)))]
noncomputable def Z24 : LoopDef (Tup Z3G × OutD) := .plain Z8Y ZlV (Int × Int × List (Int × Int) × Int × Int × List (Int × Int) × List (Int × Int × Int)) (fun k x => Z2E k x.1.2.1.1 x.1.2.1.2.1 x.1.2.2.1 x.1.2.2.2.1.1 x.1.2.2.2.1.2.1 x.1.2.2.2.2.1 x.1.2.2.2.2.2.1 x.1.2.2.2.2.2.2.1 x.1.2.2.2.2.2.2.2.1 x.2.2.2.2.2.2.1 x.2.2.2.2.2.2.2.1 x.2.2.2.2.2.2.2.2.1) (fun z => (((), (z.1, z.2.1, (), ()), z.2.2.1, (z.2.2.2.1, z.2.2.2.2.1, (), ()), z.2.2.2.2.2.1, z.2.2.2.2.2.2, ()), ((), (), (), ()))) (fun y => (y.1.2.1.1, y.1.2.1.2.1, y.1.2.2.1, y.1.2.2.2.1.1, y.1.2.2.2.1.2.1, y.1.2.2.2.2.1, y.1.2.2.2.2.2.1)) (fun _ => rfl)
noncomputable def Z7U : Nat → Int × Int × List (Int × Int) → List (Int × Int × Int) → List Int → Option (List (Int × Int × Int) × Int × Int × List (Int × Int))
 | 0, _, _, _ => none
 | k + 1, p0, p1, p2 =>
  Option.bind (Z9p k (Prod.fst p0, Prod.fst p0.2, Prod.snd p0.2)) fun z0 => Option.bind (Z7j k (Prod.fst p0, Prod.fst p0.2, Prod.snd p0.2)) fun z1 => Option.bind (Z7k k (Prod.fst p0, Prod.fst p0.2, Prod.snd p0.2) p1) fun z2 => Option.bind (Z2E k (0 : Int) (0 : Int) [] z0.1 z0.2.1 z0.2.2 z1 z2 [] p2 (↑(List.length p2) : Int) (0 : Int)) fun z4 => some (Prod.snd z4.2.2.2.2.2, Prod.fst z4.2.2.2, Prod.fst z4.2.2.2.2, Prod.fst z4.2.2.2.2.2)
noncomputable def Z1j : FnDef := .of Zfn Z3G (List (Int × Int × Int) × Int × Int × List (Int × Int)) (fun k x => Z7U k x.1 x.2.1 x.2.2.1) Zei Zer ZjQ
noncomputable def Z7M : Code := Try.f76.body.getD .skip
noncomputable def Z2e : Ctx (Tup Z3G × OutD) := { T := T, G := [(90, Z2a.E), (91, ZZ.E), (92, ZU.E), (93, Z1J.E)], mvs := [], no := 0, n := 39, res := resOf T Zfn Z3G Try.f76.results.toList, loops := [(0, Z24.E)], regs := [], conds := [], cuts := [] }
theorem Zfz (k : Nat) : EnvOK Try.prog k Z2e.G := (EnvOK.cons (Zu2 k) (EnvOK.cons (Zpp k) (EnvOK.cons (Zpx k) (EnvOK.cons (Zsj k) (EnvOK.nil mixed)))))
noncomputable def Z62 : Code := (findLoop 0 Z7M).getD .skip
theorem ZkB (k : Nat) (x : Z8Y.D) : Z24.lp (k + 1) x = loopK Z2e Z24 0 Z62 k x := by kernel_rfl
theorem ZlN (k : Nat) : LOK Try.prog Z2e k Z62 := LOK.by [] (by kernel_rfl) AllOK.nil
theorem ZlP (x : Z8Y.D) : Z24.lp 0 x = none := by kernel_rfl
theorem Zkf (k : Nat) : EOK Try.prog Z2e k Z24.E (.block 0 (.loop Z62)) := Z2 T_ok Zfz ZlP ZkB ZlN k
theorem ZqN (k : Nat) (x : Tup Z1j.ps) : Z1j.f (k + 1) x = fnK Z1j Z2e Z7M k x := by kernel_rfl
theorem Zq8 (x : Tup Z1j.ps) : Z1j.f 0 x = none := by kernel_rfl
theorem Zqg (k : Nat) : LOK Try.prog Z2e k Z7M := LOK.by [(Z24.E, .block 0 (.loop Z62))] (by kernel_rfl) (AllOK.cons (Zkf k) AllOK.nil)
theorem ZqS (k : Nat) : SoundAt Try.prog k 76 Z1j.E := @Z1 Try.prog Z1j Z2e 76 Try.f76 Z7M (by kernel_rfl) (by kernel_rfl) (by kernel_rfl) Try.func76 (by kernel_rfl) (by kernel_rfl) (by kernel_rfl) T_ok Zfz Zqg Zq8 ZqN k
noncomputable def Z76 : List PK := [PK.mk (Ty.slice (94 : Nat) (Ty.pair (Ty.int .i64) (Ty.pair (Ty.int .i64) (Ty.int .i64)))) false none false none, PK.mk (Ty.pair (Ty.int .i64) (Ty.pair (Ty.int .i64) (Ty.slice (73 : Nat) (Ty.pair (Ty.int .i64) (Ty.int .i64))))) true none false none]
noncomputable def Zqo : List PK := [PK.mk (Ty.pair (Ty.int .i64) (Ty.pair (Ty.int .i64) (Ty.slice (73 : Nat) (Ty.pair (Ty.int .i64) (Ty.int .i64))))) true none false none, PK.mk (Ty.slice (81 : Nat) (Ty.pair (Ty.int .i64) (Ty.pair (Ty.int .i64) (Ty.int .i64)))) false none false none, PK.mk (Ty.slice (3 : Nat) (Ty.int .i64)) false none false none]
noncomputable def Zoj (r : List (Int × Int × Int) × Int × Int × List (Int × Int)) : Tup Z76 × OutD := ((r.1, r.2, ()), none)
noncomputable def Zoc : Tup Z76 × OutD → Option (List (Int × Int × Int) × Int × Int × List (Int × Int))
 | (a, none) => some (a.1, a.2.1)
 | _ => none
theorem ZtD : ∀ b r, Zoc b = some r → Zoj r = b := by
 rintro ⟨a, o⟩ r h
 cases o with
 | none => injection h with h; subst h; rfl
 | some _ => cases h
noncomputable def Z3W : Nat → Int → Int → List (Int × Int) → Int → Int → List (Int × Int) → List (Int × Int × Int) → List Int → Option (Int × Int × List (Int × Int) × Int × Int × List (Int × Int) × List Int × List (Int × Int × Int) × List Int) := fun k b1_0 b1_1 b1_2 b2_0 b2_1 o3 v1 v2 =>
    Option.bind (Z73 k (b1_0, b1_1, b1_2)) fun z0 => Option.bind (Z3T k (b1_0, b1_1, b1_2)) fun z1 => some (b2_0, b2_1, o3, Prod.fst z0, Prod.fst z0.2, Prod.snd z0.2, z1, v1, v2)
noncomputable def Z9M : Nat → Int → Int → List (Int × Int) → Int → Int → List (Int × Int) → List (Int × Int × Int) → List Int → Option (List (Int × Int × List (Int × Int) × Int × Int × List (Int × Int) × List Int × List (Int × Int × Int) × List Int)) := fun k b1_0 b1_1 b1_2 b2_0 b2_1 o3 v1 v2 =>
    joinL (Option.bind (Z73 k (b1_0, b1_1, b1_2)) fun z2 => joinL (Option.bind (Z3T k (b1_0, b1_1, b1_2)) fun z3 => some [(b2_0, b2_1, o3, Prod.fst z2, Prod.fst z2.2, Prod.snd z2.2, z3, v1, v2)]) (Option.bind (Z3T k (b1_0, b1_1, b1_2)) fun z4 => some [(b2_0, b2_1, o3, Prod.fst z2, Prod.fst z2.2, Prod.snd z2.2, z4, v1, v2)])) (Option.bind (Z73 k (b1_0, b1_1, b1_2)) fun z5 => Option.bind (Z3T k (b1_0, b1_1, b1_2)) fun z6 => some [(b2_0, b2_1, o3, Prod.fst z5, Prod.fst z5.2, Prod.snd z5.2, z6, v1, v2)])
noncomputable def Zi9 : Spec := Spec.mk [OSh.ro, OSh.box (33 : Nat) [Sh.int .i64, Sh.int .i64, Sh.snap (0 : Nat) (Ty.pair (Ty.int .i64) (Ty.int .i64))], OSh.box (33 : Nat) [Sh.int .i64, Sh.int .i64, Sh.sl (3 : Nat)], OSh.row true (73 : Nat) (Ty.pair (Ty.int .i64) (Ty.int .i64))] [((1 : Nat), TSh.at (Sh.snap (0 : Nat) (Ty.pair (Ty.int .i64) (Ty.pair (Ty.int .i64) (Ty.int .i64))))), ((2 : Nat), TSh.at (Sh.snap (0 : Nat) (Ty.int .i64))), ((3 : Nat), TSh.at (Sh.ptr (1 : Nat) (0 : Nat))), ((7 : Nat), TSh.at (Sh.ptr (2 : Nat) (0 : Nat)))]
noncomputable def Zuz : Spec := Spec.mk [OSh.ro, OSh.box (33 : Nat) [Sh.int .i64, Sh.int .i64, Sh.sl (2 : Nat)], OSh.row true (73 : Nat) (Ty.pair (Ty.int .i64) (Ty.int .i64)), OSh.box (33 : Nat) [Sh.int .i64, Sh.int .i64, Sh.sl (4 : Nat)], OSh.row true (73 : Nat) (Ty.pair (Ty.int .i64) (Ty.int .i64)), OSh.row true (3 : Nat) (Ty.int .i64)] [((1 : Nat), TSh.at (Sh.snap (0 : Nat) (Ty.pair (Ty.int .i64) (Ty.pair (Ty.int .i64) (Ty.int .i64))))), ((2 : Nat), TSh.at (Sh.snap (0 : Nat) (Ty.int .i64))), ((7 : Nat), TSh.at (Sh.ptr (1 : Nat) (0 : Nat))), ((8 : Nat), TSh.at (Sh.ptr (3 : Nat) (0 : Nat))), ((9 : Nat), TSh.at (Sh.sl (5 : Nat)))]
noncomputable def Z5e : LoopDef (Tup Z76 × OutD) := .plain Zi9 Zuz (Int × Int × List (Int × Int) × Int × Int × List (Int × Int) × List Int × List (Int × Int × Int) × List Int) (fun k x => Z3W k x.1.2.1.1 x.1.2.1.2.1 x.1.2.1.2.2.1 x.1.2.2.1.1 x.1.2.2.1.2.1 x.1.2.2.2.1 x.2.1 x.2.2.1) (fun z => (((), (z.1, z.2.1, (), ()), z.2.2.1, (z.2.2.2.1, z.2.2.2.2.1, (), ()), z.2.2.2.2.2.1, z.2.2.2.2.2.2.1, ()), (z.2.2.2.2.2.2.2.1, z.2.2.2.2.2.2.2.2, (), (), (), ()))) (fun y => (y.1.2.1.1, y.1.2.1.2.1, y.1.2.2.1, y.1.2.2.2.1.1, y.1.2.2.2.1.2.1, y.1.2.2.2.2.1, y.1.2.2.2.2.2.1, y.2.1, y.2.2.1)) (fun _ => rfl)
theorem ZuH (k : Nat) (b1_0 : Int) (b1_1 : Int) (b1_2 : List (Int × Int)) (b2_0 : Int) (b2_1 : Int) (o3 : List (Int × Int)) (v1 : List (Int × Int × Int)) (v2 : List Int) : Z9M k b1_0 b1_1 b1_2 b2_0 b2_1 o3 v1 v2 = repl 3 (Z3W k b1_0 b1_1 b1_2 b2_0 b2_1 o3 v1 v2) := by
 first
 | (simp only [Z9M, Z3W, ZS, Z1Q, Z10, ZV, ZY, Zg, if_true]; done)
 | (simp only [Z9M, Z3W, ZS, Z1Q, Z10, ZV, ZY, Zg, if_true]; simp only [Z9q, Z9o, ZcO, Zg]; simp only [ZeQ]; exact ZaK ⟨fun h => by simp only [h, and_self], fun h => by simp only [h, and_self]⟩)
noncomputable def Z6N : Nat → Int → Int → List (Int × Int) → Int → Int → List (Int × Int) → List Int → List (Int × Int × Int) → List (Int × Int × Int) → List Int → Int → Int → Option (Int × Int × List (Int × Int) × Int × Int × List (Int × Int) × List (Int × Int × Int))
 | 0, _, _, _, _, _, _, _, _, _, _, _, _ => none
 | k + 1, b1_0, b1_1, o2, b3_0, b3_1, o4, o5, o6, v1, v19, v20, v21 =>
  if decide (v21 < v20) = true then if (0 : Int) ≤ v21 then if v21 < (↑(List.length v19) : Int) then Option.bind (Zf7 k (b3_0, b3_1, o4) o5 v1 (List.getD v19 (Int.toNat v21) (0 : Int))) fun z8 => if List.length o6 + List.length [(Prod.fst z8.1, Prod.fst z8.1.2, Prod.snd z8.1.2)] ≤ (140737488355328 / 24 : Nat) then Z6N k b1_0 b1_1 o2 z8.2.1 z8.2.2.1 z8.2.2.2 o5 (o6 ++ [(Prod.fst z8.1, Prod.fst z8.1.2, Prod.snd z8.1.2)]) v1 v19 v20 (wrap64 (v21 + (1 : Int))) else none else none else none else some (b1_0, b1_1, o2, b3_0, b3_1, o4, o6)
noncomputable def ZdK : Spec := Spec.mk [OSh.ro, OSh.box (33 : Nat) [Sh.int .i64, Sh.int .i64, Sh.sl (2 : Nat)], OSh.row true (73 : Nat) (Ty.pair (Ty.int .i64) (Ty.int .i64)), OSh.box (33 : Nat) [Sh.int .i64, Sh.int .i64, Sh.sl (4 : Nat)], OSh.row true (73 : Nat) (Ty.pair (Ty.int .i64) (Ty.int .i64)), OSh.row true (3 : Nat) (Ty.int .i64), OSh.row true (94 : Nat) (Ty.pair (Ty.int .i64) (Ty.pair (Ty.int .i64) (Ty.int .i64)))] [((1 : Nat), TSh.at (Sh.snap (0 : Nat) (Ty.pair (Ty.int .i64) (Ty.pair (Ty.int .i64) (Ty.int .i64))))), ((7 : Nat), TSh.at (Sh.ptr (1 : Nat) (0 : Nat))), ((8 : Nat), TSh.at (Sh.ptr (3 : Nat) (0 : Nat))), ((9 : Nat), TSh.at (Sh.sl (5 : Nat))), ((10 : Nat), TSh.at (Sh.sl (6 : Nat))), ((19 : Nat), TSh.at (Sh.snap (0 : Nat) (Ty.int .i64))), ((20 : Nat), TSh.at (Sh.int .i64)), ((21 : Nat), TSh.at (Sh.int .i64))]
noncomputable def Zvo : Spec := Spec.mk [OSh.ro, OSh.box (33 : Nat) [Sh.int .i64, Sh.int .i64, Sh.sl (2 : Nat)], OSh.row true (73 : Nat) (Ty.pair (Ty.int .i64) (Ty.int .i64)), OSh.box (33 : Nat) [Sh.int .i64, Sh.int .i64, Sh.sl (4 : Nat)], OSh.row true (73 : Nat) (Ty.pair (Ty.int .i64) (Ty.int .i64)), OSh.row true (94 : Nat) (Ty.pair (Ty.int .i64) (Ty.pair (Ty.int .i64) (Ty.int .i64)))] [((7 : Nat), TSh.at (Sh.ptr (1 : Nat) (0 : Nat))), ((8 : Nat), TSh.at (Sh.ptr (3 : Nat) (0 : Nat))), ((10 : Nat), TSh.at (Sh.sl (5 : Nat)))]
noncomputable def Z6a : LoopDef (Tup Z76 × OutD) := .plain ZdK Zvo (Int × Int × List (Int × Int) × Int × Int × List (Int × Int) × List (Int × Int × Int)) (fun k x => Z6N k x.1.2.1.1 x.1.2.1.2.1 x.1.2.2.1 x.1.2.2.2.1.1 x.1.2.2.2.1.2.1 x.1.2.2.2.2.1 x.1.2.2.2.2.2.1 x.1.2.2.2.2.2.2.1 x.2.1 x.2.2.2.2.2.2.1 x.2.2.2.2.2.2.2.1 x.2.2.2.2.2.2.2.2.1) (fun z => (((), (z.1, z.2.1, (), ()), z.2.2.1, (z.2.2.2.1, z.2.2.2.2.1, (), ()), z.2.2.2.2.2.1, z.2.2.2.2.2.2, ()), ((), (), (), ()))) (fun y => (y.1.2.1.1, y.1.2.1.2.1, y.1.2.2.1, y.1.2.2.2.1.1, y.1.2.2.2.1.2.1, y.1.2.2.2.2.1, y.1.2.2.2.2.2.1)) (fun _ => rfl)
noncomputable def ZdS : Nat → Int × Int × List (Int × Int) → List (Int × Int × Int) → List Int → Option (List (Int × Int × Int) × Int × Int × List (Int × Int))
 | 0, _, _, _ => none
 | k + 1, p0, p1, p2 =>
  Option.bind (Z3W k p0.1 p0.2.1 p0.2.2 (0 : Int) (0 : Int) [] p1 p2) fun z7 => Option.bind (Z6N k z7.1 z7.2.1 z7.2.2.1 z7.2.2.2.1 z7.2.2.2.2.1 z7.2.2.2.2.2.1 z7.2.2.2.2.2.2.1 [] z7.2.2.2.2.2.2.2.1 z7.2.2.2.2.2.2.2.2 (↑(List.length z7.2.2.2.2.2.2.2.2) : Int) (0 : Int)) fun z9 => some (Prod.snd z9.2.2.2.2.2, Prod.fst z9.2.2.2, Prod.fst z9.2.2.2.2, Prod.fst z9.2.2.2.2.2)
noncomputable def Z5I : FnDef := .of Zqo Z76 (List (Int × Int × Int) × Int × Int × List (Int × Int)) (fun k x => ZdS k x.1 x.2.1 x.2.2.1) Zoj Zoc ZtD
noncomputable def ZaI : Code := Try.f87.body.getD .skip
noncomputable def Z19 : Ctx (Tup Z76 × OutD) := { T := T, G := [(101, Z3X.E), (102, Z2S.E), (103, Z6J.E)], mvs := [], no := 0, n := 41, res := resOf T Zqo Z76 Try.f87.results.toList, loops := [(0, Z6a.E)], regs := [(1, Z5e.E)], conds := [], cuts := [] }
theorem ZhC (k : Nat) : EnvOK Try.prog k Z19.G := (EnvOK.cons (ZpM k) (EnvOK.cons (Zw2 k) (EnvOK.cons (ZBt k) (EnvOK.nil mixed))))
noncomputable def ZcQ : Array Oper := (findReg 1 ZaI).getD #[]
theorem ZtQ (k : Nat) (x : Zi9.D) : execD Z19.T Z19.G Z19.mvs k ZcQ (Z5e.inp.st Z19.n x) (outK Z19 Z5e) = Z9M k x.1.2.1.1 x.1.2.1.2.1 x.1.2.1.2.2.1 x.1.2.2.1.1 x.1.2.2.1.2.1 x.1.2.2.2.1 x.2.1 x.2.2.1 := by kernel_rfl
theorem ZrJ (k : Nat) : EOK Try.prog Z19 k Z5e.E (.region 1 ZcQ true) := ZaY (D := Z5e) (m := 3) T_ok (ZhC k) (fun x => (ZtQ k x).trans (ZuH k x.1.2.1.1 x.1.2.1.2.1 x.1.2.1.2.2.1 x.1.2.2.1.1 x.1.2.2.1.2.1 x.1.2.2.2.1 x.2.1 x.2.2.1))
noncomputable def Zak : Code := (findLoop 0 ZaI).getD .skip
theorem ZvG (k : Nat) (x : ZdK.D) : Z6a.lp (k + 1) x = loopK Z19 Z6a 0 Zak k x := by kernel_rfl
theorem Zwl (k : Nat) : LOK Try.prog Z19 k Zak := LOK.by [] (by kernel_rfl) AllOK.nil
theorem Zwp (x : ZdK.D) : Z6a.lp 0 x = none := by kernel_rfl
theorem Zub (k : Nat) : EOK Try.prog Z19 k Z6a.E (.block 0 (.loop Zak)) := Z2 T_ok ZhC Zwp ZvG Zwl k
theorem ZzU (k : Nat) (x : Tup Z5I.ps) : Z5I.f (k + 1) x = fnK Z5I Z19 ZaI k x := by kernel_rfl
theorem ZAd (x : Tup Z5I.ps) : Z5I.f 0 x = none := by kernel_rfl
theorem ZAy (k : Nat) : LOK Try.prog Z19 k ZaI := LOK.by [(Z5e.E, .region 1 ZcQ true), (Z6a.E, .block 0 (.loop Zak))] (by kernel_rfl) (AllOK.cons (ZrJ k) (AllOK.cons (Zub k) AllOK.nil))
theorem ZA9 (k : Nat) : SoundAt Try.prog k 87 Z5I.E := @Z1 Try.prog Z5I Z19 87 Try.f87 ZaI (by kernel_rfl) (by kernel_rfl) (by kernel_rfl) Try.func87 (by kernel_rfl) (by kernel_rfl) (by kernel_rfl) T_ok ZhC ZAy ZAd ZzU k
end
end Go.Proofs.Ytpeflcbadgfebaa.Vs

set_option maxRecDepth 100000
set_option maxHeartbeats 2000000
set_option linter.unusedVariables false
set_option linter.unusedSimpArgs false
namespace Go.Proofs.Ytpeflcbadgfebaa.Vs
open Go.RowKit
noncomputable section
noncomputable def Z8I : List PK := [PK.mk Ty.bool false none false none]
noncomputable def ZlY : List PK := [PK.mk (Ty.pair (Ty.int .i64) (Ty.pair (Ty.int .i64) (Ty.slice (73 : Nat) (Ty.pair (Ty.int .i64) (Ty.int .i64))))) true none false none, PK.mk (Ty.slice (28 : Nat) (Ty.slice (3 : Nat) (Ty.int .i64))) false none false none]
noncomputable def Zjn (r : Bool) : Tup Z8I × OutD := ((r, ()), none)
noncomputable def ZjK : Tup Z8I × OutD → Option (Bool)
 | (a, none) => some (a.1)
 | _ => none
theorem ZpK : ∀ b r, ZjK b = some r → Zjn r = b := by
 rintro ⟨a, o⟩ r h
 cases o with
 | none => injection h with h; subst h; rfl
 | some _ => cases h
noncomputable def Z8U : Nat → Int × Int × List (Int × Int) → List (List Int) → Option Bool
 | 0, _, _ => none
 | k + 1, p0, p1 =>
  Option.bind (Zcs k (Prod.fst p0, Prod.fst p0.2, Prod.snd p0.2)) fun z0 => if z0 = true then Option.bind (Zbd k (Prod.fst p0, Prod.fst p0.2, Prod.snd p0.2) p1) fun z1 => some z1 else some false
noncomputable def Z2v : FnDef := .of ZlY Z8I (Bool) (fun k x => Z8U k x.1 x.2.1) Zjn ZjK ZpK
noncomputable def ZeU : Code := Try.f32.body.getD .skip
noncomputable def Zbf : Ctx (Tup Z8I × OutD) := { T := T, G := [(56, Z4t.E), (57, Z3K.E)], mvs := [], no := 0, n := 12, res := resOf T ZlY Z8I Try.f32.results.toList, loops := [], regs := [], conds := [], cuts := [] }
theorem Zxx (k : Nat) : EnvOK Try.prog k Zbf.G := (EnvOK.cons (Zza k) (EnvOK.cons (ZxB k) (EnvOK.nil mixed)))
theorem Zx0 (k : Nat) (x : Tup Z2v.ps) : Z2v.f (k + 1) x = fnK Z2v Zbf ZeU k x := by kernel_rfl
theorem Zx5 (x : Tup Z2v.ps) : Z2v.f 0 x = none := by kernel_rfl
theorem Zxv (k : Nat) : LOK Try.prog Zbf k ZeU := LOK.by [] (by kernel_rfl) AllOK.nil
theorem Zmf (k : Nat) : SoundAt Try.prog k 32 Z2v.E := @Z1 Try.prog Z2v Zbf 32 Try.f32 ZeU (by kernel_rfl) (by kernel_rfl) (by kernel_rfl) Try.func32 (by kernel_rfl) (by kernel_rfl) (by kernel_rfl) T_ok Zxx Zxv Zx5 Zx0 k
noncomputable def Z5X : List PK := [PK.mk Ty.bool false none false none]
noncomputable def Zjr : List PK := [PK.mk (Ty.pair (Ty.int .i64) (Ty.pair (Ty.int .i64) (Ty.slice (73 : Nat) (Ty.pair (Ty.int .i64) (Ty.int .i64))))) true none false none, PK.mk (Ty.slice (28 : Nat) (Ty.slice (3 : Nat) (Ty.int .i64))) false none false none]
noncomputable def Zd2 (r : Bool) : Tup Z5X × OutD := ((r, ()), none)
noncomputable def ZcN : Tup Z5X × OutD → Option (Bool)
 | (a, none) => some (a.1)
 | _ => none
theorem Zeg : ∀ b r, ZcN b = some r → Zd2 r = b := by
 rintro ⟨a, o⟩ r h
 cases o with
 | none => injection h with h; subst h; rfl
 | some _ => cases h
noncomputable def Z4m : Nat → Int → Int → List (Int × Int) → List (List Int) → Int → Int → Option (LR Unit Bool)
 | 0, _, _, _, _, _, _ => none
 | k + 1, b1_0, b1_1, b1_2, v21, v22, v23 =>
  if decide (v23 < v22) = true then if (0 : Int) ≤ v23 then if v23 < (↑(List.length v21) : Int) then if decide ((↑(List.length (List.getD v21 (Int.toNat v23) [])) : Int) > (8 : Int)) = true then some (LR.ret false) else Option.bind (Z7t k (b1_0, b1_1, b1_2) (List.getD v21 (Int.toNat v23) [])) fun z1 => if (!z1) = true then some (LR.ret false) else Z4m k b1_0 b1_1 b1_2 v21 v22 (wrap64 (v23 + (1 : Int))) else none else none else some (LR.go ())
noncomputable def ZaS : Spec := Spec.mk [OSh.ro, OSh.box (33 : Nat) [Sh.int .i64, Sh.int .i64, Sh.snap (0 : Nat) (Ty.pair (Ty.int .i64) (Ty.int .i64))]] [((2 : Nat), TSh.at (Sh.ptr (1 : Nat) (0 : Nat))), ((21 : Nat), TSh.at (Sh.snap (0 : Nat) (Ty.slice (3 : Nat) (Ty.int .i64)))), ((22 : Nat), TSh.at (Sh.int .i64)), ((23 : Nat), TSh.at (Sh.int .i64))]
noncomputable def Zqi : Spec := Spec.mk [OSh.ro] []
noncomputable def Z3L : LoopDef (Tup Z5X × OutD) := .rets ZaS Zqi (Unit) (Bool) (fun k x => Z4m k x.1.2.1.1 x.1.2.1.2.1 x.1.2.1.2.2.1 x.2.2.1 x.2.2.2.1 x.2.2.2.2.1) (fun z => (((), ()), (()))) (fun y => ()) (fun _ => rfl) Zd2 ZcN Zeg
noncomputable def Z7Z : Nat → Int × Int × List (Int × Int) → List (List Int) → Option Bool
 | 0, _, _ => none
 | k + 1, p0, p1 =>
  Option.bind (Z8H k (Prod.fst p0, Prod.fst p0.2, Prod.snd p0.2)) fun z0 => if (!z0) = true then some false else if decide ((↑(List.length p0.2.2) : Int) > (30 : Int)) = true then some false else if decide ((↑(List.length p1) : Int) > (10 : Int)) = true then some false else Option.bind (Z4m k p0.1 p0.2.1 p0.2.2 p1 (↑(List.length p1) : Int) (0 : Int)) fun z2 => LR.on z2 (fun y2 => some true) fun r2 => some r2
noncomputable def Z1S : FnDef := .of Zjr Z5X (Bool) (fun k x => Z7Z k x.1 x.2.1) Zd2 ZcN Zeg
noncomputable def Zam : Code := Try.f41.body.getD .skip
noncomputable def Z3V : Ctx (Tup Z5X × OutD) := { T := T, G := [(61, Z2k.E), (62, ZT.E)], mvs := [], no := 0, n := 37, res := resOf T Zjr Z5X Try.f41.results.toList, loops := [(0, Z3L.E)], regs := [], conds := [], cuts := [] }
theorem ZiN (k : Nat) : EnvOK Try.prog k Z3V.G := (EnvOK.cons (ZlQ k) (EnvOK.cons (Zov k) (EnvOK.nil mixed)))
noncomputable def Z82 : Code := (findLoop 0 Zam).getD .skip
theorem ZqH (k : Nat) (x : ZaS.D) : Z3L.lp (k + 1) x = loopK Z3V Z3L 0 Z82 k x := by kernel_rfl
theorem Zqh (k : Nat) : LOK Try.prog Z3V k Z82 := LOK.by [] (by kernel_rfl) AllOK.nil
theorem ZpR (x : ZaS.D) : Z3L.lp 0 x = none := by kernel_rfl
theorem ZoR (k : Nat) : EOK Try.prog Z3V k Z3L.E (.block 0 (.loop Z82)) := Z2 T_ok ZiN ZpR ZqH Zqh k
theorem ZvJ (k : Nat) (x : Tup Z1S.ps) : Z1S.f (k + 1) x = fnK Z1S Z3V Zam k x := by kernel_rfl
theorem Zwh (x : Tup Z1S.ps) : Z1S.f 0 x = none := by kernel_rfl
theorem Zwv (k : Nat) : LOK Try.prog Z3V k Zam := LOK.by [(Z3L.E, .block 0 (.loop Z82))] (by kernel_rfl) (AllOK.cons (ZoR k) AllOK.nil)
theorem Zjo (k : Nat) : SoundAt Try.prog k 41 Z1S.E := @Z1 Try.prog Z1S Z3V 41 Try.f41 Zam (by kernel_rfl) (by kernel_rfl) (by kernel_rfl) Try.func41 (by kernel_rfl) (by kernel_rfl) (by kernel_rfl) T_ok ZiN Zwv Zwh ZvJ k
noncomputable def Z5O : List PK := [PK.mk (Ty.slice (71 : Nat) (Ty.slice (94 : Nat) (Ty.pair (Ty.int .i64) (Ty.pair (Ty.int .i64) (Ty.int .i64))))) false none false none]
noncomputable def ZjL : List PK := [PK.mk (Ty.pair (Ty.int .i64) (Ty.pair (Ty.int .i64) (Ty.slice (73 : Nat) (Ty.pair (Ty.int .i64) (Ty.int .i64))))) true none false none, PK.mk (Ty.slice (81 : Nat) (Ty.pair (Ty.int .i64) (Ty.pair (Ty.int .i64) (Ty.int .i64)))) false none false none, PK.mk (Ty.slice (28 : Nat) (Ty.slice (3 : Nat) (Ty.int .i64))) false none false none]
noncomputable def Zia (r : List (List (Int × Int × Int))) : Tup Z5O × OutD := ((r, ()), none)
noncomputable def Zio : Tup Z5O × OutD → Option (List (List (Int × Int × Int)))
 | (a, none) => some (a.1)
 | _ => none
theorem ZoJ : ∀ b r, Zio b = some r → Zia r = b := by
 rintro ⟨a, o⟩ r h
 cases o with
 | none => injection h with h; subst h; rfl
 | some _ => cases h
noncomputable def Z4k : Nat → Int → Int → List (Int × Int) → List (List (Int × Int × Int)) → List (Int × Int × Int) → List (List Int) → Int → Int → Option (List (List (Int × Int × Int)))
 | 0, _, _, _, _, _, _, _, _ => none
 | k + 1, b1_0, b1_1, b1_2, o2, v1, v13, v14, v15 =>
  if decide (v15 < v14) = true then if (0 : Int) ≤ v15 then if v15 < (↑(List.length v13) : Int) then Option.bind (Z7U k (b1_0, b1_1, b1_2) v1 (List.getD v13 (Int.toNat v15) [])) fun z0 => if List.length o2 + List.length [Prod.fst z0] ≤ (140737488355328 / 24 : Nat) then Z4k k b1_0 b1_1 b1_2 (o2 ++ [Prod.fst z0]) v1 v13 v14 (wrap64 (v15 + (1 : Int))) else none else none else none else some o2
noncomputable def ZaN : Spec := Spec.mk [OSh.ro, OSh.box (33 : Nat) [Sh.int .i64, Sh.int .i64, Sh.snap (0 : Nat) (Ty.pair (Ty.int .i64) (Ty.int .i64))], OSh.row true (71 : Nat) (Ty.slice (94 : Nat) (Ty.pair (Ty.int .i64) (Ty.pair (Ty.int .i64) (Ty.int .i64))))] [((1 : Nat), TSh.at (Sh.snap (0 : Nat) (Ty.pair (Ty.int .i64) (Ty.pair (Ty.int .i64) (Ty.int .i64))))), ((3 : Nat), TSh.at (Sh.ptr (1 : Nat) (0 : Nat))), ((7 : Nat), TSh.at (Sh.sl (2 : Nat))), ((13 : Nat), TSh.at (Sh.snap (0 : Nat) (Ty.slice (3 : Nat) (Ty.int .i64)))), ((14 : Nat), TSh.at (Sh.int .i64)), ((15 : Nat), TSh.at (Sh.int .i64))]
noncomputable def Zqn : Spec := Spec.mk [OSh.ro, OSh.row true (71 : Nat) (Ty.slice (94 : Nat) (Ty.pair (Ty.int .i64) (Ty.pair (Ty.int .i64) (Ty.int .i64))))] [((7 : Nat), TSh.at (Sh.sl (1 : Nat)))]
noncomputable def Z3H : LoopDef (Tup Z5O × OutD) := .plain ZaN Zqn (List (List (Int × Int × Int))) (fun k x => Z4k k x.1.2.1.1 x.1.2.1.2.1 x.1.2.1.2.2.1 x.1.2.2.1 x.2.1 x.2.2.2.2.1 x.2.2.2.2.2.1 x.2.2.2.2.2.2.1) (fun z => (((), z, ()), ((), ()))) (fun y => (y.1.2.1)) (fun _ => rfl)
noncomputable def Z7Q : Nat → Int × Int × List (Int × Int) → List (Int × Int × Int) → List (List Int) → Option (List (List (Int × Int × Int)))
 | 0, _, _, _ => none
 | k + 1, p0, p1, p2 =>
  Option.bind (Z4k k p0.1 p0.2.1 p0.2.2 [] p1 p2 (↑(List.length p2) : Int) (0 : Int)) fun z1 => some z1
noncomputable def Z2Q : FnDef := .of ZjL Z5O (List (List (Int × Int × Int))) (fun k x => Z7Q k x.1 x.2.1 x.2.2.1) Zia Zio ZoJ
noncomputable def Zay : Code := Try.f63.body.getD .skip
noncomputable def Z3R : Ctx (Tup Z5O × OutD) := { T := T, G := [(76, Z1j.E)], mvs := [], no := 0, n := 32, res := resOf T ZjL Z5O Try.f63.results.toList, loops := [(0, Z3H.E)], regs := [], conds := [], cuts := [] }
theorem Zj5 (k : Nat) : EnvOK Try.prog k Z3R.G := (EnvOK.cons (ZqS k) (EnvOK.nil mixed))
noncomputable def Z89 : Code := (findLoop 0 Zay).getD .skip
theorem ZqF (k : Nat) (x : ZaN.D) : Z3H.lp (k + 1) x = loopK Z3R Z3H 0 Z89 k x := by kernel_rfl
theorem ZpX (k : Nat) : LOK Try.prog Z3R k Z89 := LOK.by [] (by kernel_rfl) AllOK.nil
theorem ZqJ (x : ZaN.D) : Z3H.lp 0 x = none := by kernel_rfl
theorem ZoD (k : Nat) : EOK Try.prog Z3R k Z3H.E (.block 0 (.loop Z89)) := Z2 T_ok Zj5 ZqJ ZqF ZpX k
theorem ZvD (k : Nat) (x : Tup Z2Q.ps) : Z2Q.f (k + 1) x = fnK Z2Q Z3R Zay k x := by kernel_rfl
theorem Zvx (x : Tup Z2Q.ps) : Z2Q.f 0 x = none := by kernel_rfl
theorem Zvm (k : Nat) : LOK Try.prog Z3R k Zay := LOK.by [(Z3H.E, .block 0 (.loop Z89))] (by kernel_rfl) (AllOK.cons (ZoD k) AllOK.nil)
theorem Zwx (k : Nat) : SoundAt Try.prog k 63 Z2Q.E := @Z1 Try.prog Z2Q Z3R 63 Try.f63 Zay (by kernel_rfl) (by kernel_rfl) (by kernel_rfl) Try.func63 (by kernel_rfl) (by kernel_rfl) (by kernel_rfl) T_ok Zj5 Zvm Zvx ZvD k
noncomputable def Z7J : List PK := [PK.mk (Ty.slice (71 : Nat) (Ty.slice (94 : Nat) (Ty.pair (Ty.int .i64) (Ty.pair (Ty.int .i64) (Ty.int .i64))))) false none false none]
noncomputable def Zok : List PK := [PK.mk (Ty.pair (Ty.int .i64) (Ty.pair (Ty.int .i64) (Ty.slice (73 : Nat) (Ty.pair (Ty.int .i64) (Ty.int .i64))))) true none false none, PK.mk (Ty.slice (81 : Nat) (Ty.pair (Ty.int .i64) (Ty.pair (Ty.int .i64) (Ty.int .i64)))) false none false none, PK.mk (Ty.slice (28 : Nat) (Ty.slice (3 : Nat) (Ty.int .i64))) false none false none]
noncomputable def Zll (r : List (List (Int × Int × Int))) : Tup Z7J × OutD := ((r, ()), none)
noncomputable def Zlf : Tup Z7J × OutD → Option (List (List (Int × Int × Int)))
 | (a, none) => some (a.1)
 | _ => none
theorem ZsP : ∀ b r, Zlf b = some r → Zll r = b := by
 rintro ⟨a, o⟩ r h
 cases o with
 | none => injection h with h; subst h; rfl
 | some _ => cases h
noncomputable def Z68 : Nat → Int → Int → List (Int × Int) → List (List (Int × Int × Int)) → List (Int × Int × Int) → List (List Int) → Int → Int → Option (List (List (Int × Int × Int)))
 | 0, _, _, _, _, _, _, _, _ => none
 | k + 1, b1_0, b1_1, b1_2, o2, v1, v12, v13, v14 =>
  if decide (v14 < v13) = true then if (0 : Int) ≤ v14 then if v14 < (↑(List.length v12) : Int) then Option.bind (ZdS k (b1_0, b1_1, b1_2) v1 (List.getD v12 (Int.toNat v14) [])) fun z0 => if List.length o2 + List.length [Prod.fst z0] ≤ (140737488355328 / 24 : Nat) then Z68 k b1_0 b1_1 b1_2 (o2 ++ [Prod.fst z0]) v1 v12 v13 (wrap64 (v14 + (1 : Int))) else none else none else none else some o2
noncomputable def Zd7 : Spec := Spec.mk [OSh.ro, OSh.box (33 : Nat) [Sh.int .i64, Sh.int .i64, Sh.snap (0 : Nat) (Ty.pair (Ty.int .i64) (Ty.int .i64))], OSh.row true (71 : Nat) (Ty.slice (94 : Nat) (Ty.pair (Ty.int .i64) (Ty.pair (Ty.int .i64) (Ty.int .i64))))] [((1 : Nat), TSh.at (Sh.snap (0 : Nat) (Ty.pair (Ty.int .i64) (Ty.pair (Ty.int .i64) (Ty.int .i64))))), ((3 : Nat), TSh.at (Sh.ptr (1 : Nat) (0 : Nat))), ((7 : Nat), TSh.at (Sh.sl (2 : Nat))), ((12 : Nat), TSh.at (Sh.snap (0 : Nat) (Ty.slice (3 : Nat) (Ty.int .i64)))), ((13 : Nat), TSh.at (Sh.int .i64)), ((14 : Nat), TSh.at (Sh.int .i64))]
noncomputable def Zu8 : Spec := Spec.mk [OSh.ro, OSh.row true (71 : Nat) (Ty.slice (94 : Nat) (Ty.pair (Ty.int .i64) (Ty.pair (Ty.int .i64) (Ty.int .i64))))] [((7 : Nat), TSh.at (Sh.sl (1 : Nat)))]
noncomputable def Z5r : LoopDef (Tup Z7J × OutD) := .plain Zd7 Zu8 (List (List (Int × Int × Int))) (fun k x => Z68 k x.1.2.1.1 x.1.2.1.2.1 x.1.2.1.2.2.1 x.1.2.2.1 x.2.1 x.2.2.2.2.1 x.2.2.2.2.2.1 x.2.2.2.2.2.2.1) (fun z => (((), z, ()), ((), ()))) (fun y => (y.1.2.1)) (fun _ => rfl)
noncomputable def Za3 : Nat → Int × Int × List (Int × Int) → List (Int × Int × Int) → List (List Int) → Option (List (List (Int × Int × Int)))
 | 0, _, _, _ => none
 | k + 1, p0, p1, p2 =>
  Option.bind (Z68 k p0.1 p0.2.1 p0.2.2 [] p1 p2 (↑(List.length p2) : Int) (0 : Int)) fun z1 => some z1
noncomputable def Z4F : FnDef := .of Zok Z7J (List (List (Int × Int × Int))) (fun k x => Za3 k x.1 x.2.1 x.2.2.1) Zll Zlf ZsP
noncomputable def ZcE : Code := Try.f73.body.getD .skip
noncomputable def Z6k : Ctx (Tup Z7J × OutD) := { T := T, G := [(87, Z5I.E)], mvs := [], no := 0, n := 31, res := resOf T Zok Z7J Try.f73.results.toList, loops := [(0, Z5r.E)], regs := [], conds := [], cuts := [] }
theorem ZnF (k : Nat) : EnvOK Try.prog k Z6k.G := (EnvOK.cons (ZA9 k) (EnvOK.nil mixed))
noncomputable def Z9t : Code := (findLoop 0 ZcE).getD .skip
theorem ZuX (k : Nat) (x : Zd7.D) : Z5r.lp (k + 1) x = loopK Z6k Z5r 0 Z9t k x := by kernel_rfl
theorem ZtE (k : Nat) : LOK Try.prog Z6k k Z9t := LOK.by [] (by kernel_rfl) AllOK.nil
theorem ZtX (x : Zd7.D) : Z5r.lp 0 x = none := by kernel_rfl
theorem Zt3 (k : Nat) : EOK Try.prog Z6k k Z5r.E (.block 0 (.loop Z9t)) := Z2 T_ok ZnF ZtX ZuX ZtE k
theorem ZyX (k : Nat) (x : Tup Z4F.ps) : Z4F.f (k + 1) x = fnK Z4F Z6k ZcE k x := by kernel_rfl
theorem Zyg (x : Tup Z4F.ps) : Z4F.f 0 x = none := by kernel_rfl
theorem Zzy (k : Nat) : LOK Try.prog Z6k k ZcE := LOK.by [(Z5r.E, .block 0 (.loop Z9t))] (by kernel_rfl) (AllOK.cons (Zt3 k) AllOK.nil)
theorem ZyZ (k : Nat) : SoundAt Try.prog k 73 Z4F.E := @Z1 Try.prog Z4F Z6k 73 Try.f73 ZcE (by kernel_rfl) (by kernel_rfl) (by kernel_rfl) Try.func73 (by kernel_rfl) (by kernel_rfl) (by kernel_rfl) T_ok ZnF Zzy Zyg ZyX k
end
end Go.Proofs.Ytpeflcbadgfebaa.Vs

set_option maxRecDepth 100000
set_option maxHeartbeats 2000000
set_option linter.unusedVariables false
set_option linter.unusedSimpArgs false
namespace Go.Proofs.Ytpeflcbadgfebaa.Vs
open Go.RowKit
noncomputable section
noncomputable def Z5P : List PK := [PK.mk (Ty.slice (69 : Nat) (Ty.slice (71 : Nat) (Ty.slice (94 : Nat) (Ty.pair (Ty.int .i64) (Ty.pair (Ty.int .i64) (Ty.int .i64)))))) false none false none]
noncomputable def ZjH : List PK := [PK.mk (Ty.pair (Ty.int .i64) (Ty.pair (Ty.int .i64) (Ty.slice (73 : Nat) (Ty.pair (Ty.int .i64) (Ty.int .i64))))) true none false none, PK.mk (Ty.slice (28 : Nat) (Ty.slice (3 : Nat) (Ty.int .i64))) false none false none]
noncomputable def ZhW (r : List (List (List (Int × Int × Int)))) : Tup Z5P × OutD := ((r, ()), none)
noncomputable def Zim : Tup Z5P × OutD → Option (List (List (List (Int × Int × Int))))
 | (a, none) => some (a.1)
 | _ => none
theorem ZoH : ∀ b r, Zim b = some r → ZhW r = b := by
 rintro ⟨a, o⟩ r h
 cases o with
 | none => injection h with h; subst h; rfl
 | some _ => cases h
noncomputable def Z4a : Nat → Int → Int → List (Int × Int) → List (List (List (Int × Int × Int))) → List (Int × Int × Int) → List (List Int) → Int → Int → Option (List (List (List (Int × Int × Int))))
 | 0, _, _, _, _, _, _, _, _ => none
 | k + 1, b1_0, b1_1, b1_2, o2, o3, v1, v14, v15 =>
  if decide (v15 < v14) = true then if (0 : Int) ≤ v15 then if v15 < (↑(List.length o3) : Int) then Option.bind (Z7Q k (b1_0, b1_1, b1_2) [(Prod.fst (List.getD o3 (Int.toNat v15) ((0 : Int), (0 : Int), (0 : Int))), Prod.fst (Prod.snd (List.getD o3 (Int.toNat v15) ((0 : Int), (0 : Int), (0 : Int)))), Prod.snd (Prod.snd (List.getD o3 (Int.toNat v15) ((0 : Int), (0 : Int), (0 : Int)))))] v1) fun z2 => if List.length o2 + List.length [z2] ≤ (140737488355328 / 24 : Nat) then Z4a k b1_0 b1_1 b1_2 (o2 ++ [z2]) o3 v1 v14 (wrap64 (v15 + (1 : Int))) else none else none else none else some o2
noncomputable def ZaG : Spec := Spec.mk [OSh.ro, OSh.box (33 : Nat) [Sh.int .i64, Sh.int .i64, Sh.snap (0 : Nat) (Ty.pair (Ty.int .i64) (Ty.int .i64))], OSh.row true (69 : Nat) (Ty.slice (71 : Nat) (Ty.slice (94 : Nat) (Ty.pair (Ty.int .i64) (Ty.pair (Ty.int .i64) (Ty.int .i64))))), OSh.row true (81 : Nat) (Ty.pair (Ty.int .i64) (Ty.pair (Ty.int .i64) (Ty.int .i64)))] [((1 : Nat), TSh.at (Sh.snap (0 : Nat) (Ty.slice (3 : Nat) (Ty.int .i64)))), ((2 : Nat), TSh.at (Sh.ptr (1 : Nat) (0 : Nat))), ((5 : Nat), TSh.at (Sh.sl (2 : Nat))), ((13 : Nat), TSh.at (Sh.sl (3 : Nat))), ((14 : Nat), TSh.at (Sh.int .i64)), ((15 : Nat), TSh.at (Sh.int .i64))]
noncomputable def Zqm : Spec := Spec.mk [OSh.ro, OSh.row true (69 : Nat) (Ty.slice (71 : Nat) (Ty.slice (94 : Nat) (Ty.pair (Ty.int .i64) (Ty.pair (Ty.int .i64) (Ty.int .i64)))))] [((5 : Nat), TSh.at (Sh.sl (1 : Nat)))]
noncomputable def Z3l : LoopDef (Tup Z5P × OutD) := .plain ZaG Zqm (List (List (List (Int × Int × Int)))) (fun k x => Z4a k x.1.2.1.1 x.1.2.1.2.1 x.1.2.1.2.2.1 x.1.2.2.1 x.1.2.2.2.1 x.2.1 x.2.2.2.2.2.1 x.2.2.2.2.2.2.1) (fun z => (((), z, ()), ((), ()))) (fun y => (y.1.2.1)) (fun _ => rfl)
noncomputable def Z88 : Nat → Int × Int × List (Int × Int) → List (List Int) → Option (List (List (List (Int × Int × Int))))
 | 0, _, _ => none
 | k + 1, p0, p1 =>
  Option.bind (Z7Q k (Prod.fst p0, Prod.fst p0.2, Prod.snd p0.2) [] p1) fun z0 => Option.bind (Z5L k (Prod.fst p0, Prod.fst p0.2, Prod.snd p0.2)) fun z1 => Option.bind (Z4a k p0.1 p0.2.1 p0.2.2 [z0] z1 p1 (↑(List.length z1) : Int) (0 : Int)) fun z3 => some z3
noncomputable def Z1U : FnDef := .of ZjH Z5P (List (List (List (Int × Int × Int)))) (fun k x => Z88 k x.1 x.2.1) ZhW Zim ZoH
noncomputable def Zaw : Code := Try.f42.body.getD .skip
noncomputable def Z3S : Ctx (Tup Z5P × OutD) := { T := T, G := [(63, Z2Q.E), (64, ZF.E)], mvs := [], no := 0, n := 29, res := resOf T ZjH Z5P Try.f42.results.toList, loops := [(0, Z3l.E)], regs := [], conds := [], cuts := [] }
theorem Zj6 (k : Nat) : EnvOK Try.prog k Z3S.G := (EnvOK.cons (Zwx k) (EnvOK.cons (Zlq k) (EnvOK.nil mixed)))
noncomputable def Z83 : Code := (findLoop 0 Zaw).getD .skip
theorem ZqY (k : Nat) (x : ZaG.D) : Z3l.lp (k + 1) x = loopK Z3S Z3l 0 Z83 k x := by kernel_rfl
theorem ZpO (k : Nat) : LOK Try.prog Z3S k Z83 := LOK.by [] (by kernel_rfl) AllOK.nil
theorem ZqB (x : ZaG.D) : Z3l.lp 0 x = none := by kernel_rfl
theorem Zpq (k : Nat) : EOK Try.prog Z3S k Z3l.E (.block 0 (.loop Z83)) := Z2 T_ok Zj6 ZqB ZqY ZpO k
theorem Zwr (k : Nat) (x : Tup Z1U.ps) : Z1U.f (k + 1) x = fnK Z1U Z3S Zaw k x := by kernel_rfl
theorem Zvu (x : Tup Z1U.ps) : Z1U.f 0 x = none := by kernel_rfl
theorem ZvE (k : Nat) : LOK Try.prog Z3S k Zaw := LOK.by [(Z3l.E, .block 0 (.loop Z83))] (by kernel_rfl) (AllOK.cons (Zpq k) AllOK.nil)
theorem Zjp (k : Nat) : SoundAt Try.prog k 42 Z1U.E := @Z1 Try.prog Z1U Z3S 42 Try.f42 Zaw (by kernel_rfl) (by kernel_rfl) (by kernel_rfl) Try.func42 (by kernel_rfl) (by kernel_rfl) (by kernel_rfl) T_ok Zj6 ZvE Zvu Zwr k
noncomputable def Z6O : List PK := [PK.mk (Ty.slice (69 : Nat) (Ty.slice (71 : Nat) (Ty.slice (94 : Nat) (Ty.pair (Ty.int .i64) (Ty.pair (Ty.int .i64) (Ty.int .i64)))))) false none false none]
noncomputable def ZlW : List PK := [PK.mk (Ty.pair (Ty.int .i64) (Ty.pair (Ty.int .i64) (Ty.slice (73 : Nat) (Ty.pair (Ty.int .i64) (Ty.int .i64))))) true none false none, PK.mk (Ty.slice (28 : Nat) (Ty.slice (3 : Nat) (Ty.int .i64))) false none false none]
noncomputable def Zja (r : List (List (List (Int × Int × Int)))) : Tup Z6O × OutD := ((r, ()), none)
noncomputable def Zj4 : Tup Z6O × OutD → Option (List (List (List (Int × Int × Int))))
 | (a, none) => some (a.1)
 | _ => none
theorem Zqc : ∀ b r, Zj4 b = some r → Zja r = b := by
 rintro ⟨a, o⟩ r h
 cases o with
 | none => injection h with h; subst h; rfl
 | some _ => cases h
noncomputable def Z4X : Nat → Int → Int → List (Int × Int) → List (List (List (Int × Int × Int))) → List (Int × Int × Int) → List (List Int) → Int → Int → Option (List (List (List (Int × Int × Int))))
 | 0, _, _, _, _, _, _, _, _ => none
 | k + 1, b1_0, b1_1, b1_2, o2, o3, v1, v14, v15 =>
  if decide (v15 < v14) = true then if (0 : Int) ≤ v15 then if v15 < (↑(List.length o3) : Int) then Option.bind (Za3 k (b1_0, b1_1, b1_2) [(Prod.fst (List.getD o3 (Int.toNat v15) ((0 : Int), (0 : Int), (0 : Int))), Prod.fst (Prod.snd (List.getD o3 (Int.toNat v15) ((0 : Int), (0 : Int), (0 : Int)))), Prod.snd (Prod.snd (List.getD o3 (Int.toNat v15) ((0 : Int), (0 : Int), (0 : Int)))))] v1) fun z2 => if List.length o2 + List.length [z2] ≤ (140737488355328 / 24 : Nat) then Z4X k b1_0 b1_1 b1_2 (o2 ++ [z2]) o3 v1 v14 (wrap64 (v15 + (1 : Int))) else none else none else none else some o2
noncomputable def ZbK : Spec := Spec.mk [OSh.ro, OSh.box (33 : Nat) [Sh.int .i64, Sh.int .i64, Sh.snap (0 : Nat) (Ty.pair (Ty.int .i64) (Ty.int .i64))], OSh.row true (69 : Nat) (Ty.slice (71 : Nat) (Ty.slice (94 : Nat) (Ty.pair (Ty.int .i64) (Ty.pair (Ty.int .i64) (Ty.int .i64))))), OSh.row true (81 : Nat) (Ty.pair (Ty.int .i64) (Ty.pair (Ty.int .i64) (Ty.int .i64)))] [((1 : Nat), TSh.at (Sh.snap (0 : Nat) (Ty.slice (3 : Nat) (Ty.int .i64)))), ((2 : Nat), TSh.at (Sh.ptr (1 : Nat) (0 : Nat))), ((5 : Nat), TSh.at (Sh.sl (2 : Nat))), ((13 : Nat), TSh.at (Sh.sl (3 : Nat))), ((14 : Nat), TSh.at (Sh.int .i64)), ((15 : Nat), TSh.at (Sh.int .i64))]
noncomputable def ZrI : Spec := Spec.mk [OSh.ro, OSh.row true (69 : Nat) (Ty.slice (71 : Nat) (Ty.slice (94 : Nat) (Ty.pair (Ty.int .i64) (Ty.pair (Ty.int .i64) (Ty.int .i64)))))] [((5 : Nat), TSh.at (Sh.sl (1 : Nat)))]
noncomputable def Z4l : LoopDef (Tup Z6O × OutD) := .plain ZbK ZrI (List (List (List (Int × Int × Int)))) (fun k x => Z4X k x.1.2.1.1 x.1.2.1.2.1 x.1.2.1.2.2.1 x.1.2.2.1 x.1.2.2.2.1 x.2.1 x.2.2.2.2.2.1 x.2.2.2.2.2.2.1) (fun z => (((), z, ()), ((), ()))) (fun y => (y.1.2.1)) (fun _ => rfl)
noncomputable def Zb5 : Nat → Int × Int × List (Int × Int) → List (List Int) → Option (List (List (List (Int × Int × Int))))
 | 0, _, _ => none
 | k + 1, p0, p1 =>
  Option.bind (Za3 k (Prod.fst p0, Prod.fst p0.2, Prod.snd p0.2) [] p1) fun z0 => Option.bind (Z8s k (Prod.fst p0, Prod.fst p0.2, Prod.snd p0.2)) fun z1 => Option.bind (Z4X k p0.1 p0.2.1 p0.2.2 [z0] z1 p1 (↑(List.length z1) : Int) (0 : Int)) fun z3 => some z3
noncomputable def Z3p : FnDef := .of ZlW Z6O (List (List (List (Int × Int × Int)))) (fun k x => Zb5 k x.1 x.2.1) Zja Zj4 Zqc
noncomputable def Zbl : Code := Try.f58.body.getD .skip
noncomputable def Z4R : Ctx (Tup Z6O × OutD) := { T := T, G := [(73, Z4F.E), (74, Z1E.E)], mvs := [], no := 0, n := 29, res := resOf T ZlW Z6O Try.f58.results.toList, loops := [(0, Z4l.E)], regs := [], conds := [], cuts := [] }
theorem ZkG (k : Nat) : EnvOK Try.prog k Z4R.G := (EnvOK.cons (ZyZ k) (EnvOK.cons (ZrW k) (EnvOK.nil mixed)))
noncomputable def Z8r : Code := (findLoop 0 Zbl).getD .skip
theorem ZrB (k : Nat) (x : ZbK.D) : Z4l.lp (k + 1) x = loopK Z4R Z4l 0 Z8r k x := by kernel_rfl
theorem Zs5 (k : Nat) : LOK Try.prog Z4R k Z8r := LOK.by [] (by kernel_rfl) AllOK.nil
theorem ZsJ (x : ZbK.D) : Z4l.lp 0 x = none := by kernel_rfl
theorem ZqC (k : Nat) : EOK Try.prog Z4R k Z4l.E (.block 0 (.loop Z8r)) := Z2 T_ok ZkG ZsJ ZrB Zs5 k
theorem Zxu (k : Nat) (x : Tup Z3p.ps) : Z3p.f (k + 1) x = fnK Z3p Z4R Zbl k x := by kernel_rfl
theorem ZwX (x : Tup Z3p.ps) : Z3p.f 0 x = none := by kernel_rfl
theorem ZwL (k : Nat) : LOK Try.prog Z4R k Zbl := LOK.by [(Z4l.E, .block 0 (.loop Z8r))] (by kernel_rfl) (AllOK.cons (ZqC k) AllOK.nil)
theorem Zxy (k : Nat) : SoundAt Try.prog k 58 Z3p.E := @Z1 Try.prog Z3p Z4R 58 Try.f58 Zbl (by kernel_rfl) (by kernel_rfl) (by kernel_rfl) Try.func58 (by kernel_rfl) (by kernel_rfl) (by kernel_rfl) T_ok ZkG ZwL ZwX Zxu k
end
end Go.Proofs.Ytpeflcbadgfebaa.Vs
