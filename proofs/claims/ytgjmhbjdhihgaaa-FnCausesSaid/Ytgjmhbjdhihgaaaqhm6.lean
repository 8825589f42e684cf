/- The proof, part 7. -/
import Derived.Test.Ytgjmhbjdhihgaaaqhm5
set_option maxRecDepth 100000
set_option maxHeartbeats 2000000
set_option linter.unusedVariables false
set_option linter.unusedSimpArgs false
namespace Go.Proofs.Ytgjmhbjdhihgaaa.Vs
open Go.RowKit
noncomputable section
noncomputable def Z4N : List PK := [PK.mk (Ty.slice (77 : Nat) (Ty.pair (Ty.int .i64) (Ty.pair (Ty.int .i64) (Ty.int .i64)))) false none false none, PK.mk Ty.bool false none false none]
noncomputable def ZeH : List PK := [PK.mk (Ty.pair (Ty.int .i64) (Ty.pair (Ty.int .i64) (Ty.slice (79 : Nat) (Ty.pair (Ty.int .i64) (Ty.int .i64))))) true none false none]
noncomputable def ZdJ (r : List (Int × Int × Int) × Bool) : Tup Z4N × OutD := ((r.1, r.2, ()), none)
noncomputable def ZdB : Tup Z4N × OutD → Option (List (Int × Int × Int) × Bool)
 | (a, none) => some (a.1, a.2.1)
 | _ => none
theorem ZiB : ∀ b r, ZdB b = some r → ZdJ r = b := by
 rintro ⟨a, o⟩ r h
 cases o with
 | none => injection h with h; subst h; rfl
 | some _ => cases h
noncomputable def Z7i : Nat → Int × Int × List (Int × Int) → Option (List (Int × Int × Int) × Bool)
 | 0, _ => none
 | k + 1, p0 =>
  Option.bind (Z7o k (Prod.fst p0, Prod.fst p0.2, Prod.snd p0.2)) fun z0 => if (!z0) = true then some ([], false) else Option.bind (Z30 k (Prod.fst p0, Prod.fst p0.2, Prod.snd p0.2)) fun z1 => some (z1, true)
noncomputable def Z1J : FnDef := .of ZeH Z4N (List (Int × Int × Int) × Bool) (fun k x => Z7i k x.1) ZdJ ZdB ZiB
noncomputable def ZaB : Code := Try.f66.body.getD .skip
noncomputable def Z79 : Ctx (Tup Z4N × OutD) := { T := T, G := [(133, Z2M.E), (148, Z1a.E)], mvs := [], no := 0, n := 9, res := resOf T ZeH Z4N Try.f66.results.toList, loops := [], regs := [], conds := [] }
theorem Zml (k : Nat) : EnvOK Try.prog k Z79.G := (EnvOK.cons (ZdT k) (EnvOK.cons (Z7B k) (EnvOK.nil mixed)))
theorem ZmW (k : Nat) (x : Tup Z1J.ps) : Z1J.f (k + 1) x = fnK Z1J Z79 ZaB k x := by kernel_rfl
theorem Zmx (x : Tup Z1J.ps) : Z1J.f 0 x = none := by kernel_rfl
theorem ZnB (k : Nat) : LOK Try.prog Z79 k ZaB := LOK.by [] (by kernel_rfl) AllOK.nil
theorem Zn8 (k : Nat) : SoundAt Try.prog k 66 Z1J.E := @Ze Try.prog Z1J Z79 66 Try.f66 ZaB (by kernel_rfl) (by kernel_rfl) (by kernel_rfl) Try.func66 (by kernel_rfl) (by kernel_rfl) (by kernel_rfl) T_ok Zml ZnB Zmx ZmW k
noncomputable def Z4f : List PK := [PK.mk Ty.bool false none false none]
noncomputable def Zgh : List PK := [PK.mk (Ty.pair (Ty.int .i64) (Ty.pair (Ty.int .i64) (Ty.slice (79 : Nat) (Ty.pair (Ty.int .i64) (Ty.int .i64))))) true none false none, PK.mk (Ty.slice (3 : Nat) (Ty.int .i64)) false none false none]
noncomputable def ZaK (r : Bool) : Tup Z4f × OutD := ((r, ()), none)
noncomputable def ZaJ : Tup Z4f × OutD → Option (Bool)
 | (a, none) => some (a.1)
 | _ => none
theorem Zd2 : ∀ b r, ZaJ b = some r → ZaK r = b := by
 rintro ⟨a, o⟩ r h
 cases o with
 | none => injection h with h; subst h; rfl
 | some _ => cases h
noncomputable def Z3s : Nat → Int → Int → List (Int × Int) → List Int → Int → Int → Option (LR Unit Bool)
 | 0, _, _, _, _, _, _ => none
 | k + 1, b1_0, b1_1, b1_2, v15, v16, v17 =>
  if decide (v17 < v16) = true then if (0 : Int) ≤ v17 then if v17 < (↑(List.length v15) : Int) then if decide (List.getD v15 (Int.toNat v17) (0 : Int) < (0 : Int)) = true then some (LR.ret false) else if decide (List.getD v15 (Int.toNat v17) (0 : Int) ≥ b1_1) = true then some (LR.ret false) else Z3s k b1_0 b1_1 b1_2 v15 v16 (wrap64 (v17 + (1 : Int))) else none else none else some (LR.go ())
noncomputable def Z9L : Spec := Spec.mk [OSh.ro, OSh.box (53 : Nat) [Sh.int .i64, Sh.int .i64, Sh.snap (0 : Nat) (Ty.pair (Ty.int .i64) (Ty.int .i64))]] [((2 : Nat), TSh.at (Sh.ptr (1 : Nat) (0 : Nat))), ((15 : Nat), TSh.at (Sh.snap (0 : Nat) (Ty.int .i64))), ((16 : Nat), TSh.at (Sh.int .i64)), ((17 : Nat), TSh.at (Sh.int .i64))]
noncomputable def Zm1 : Spec := Spec.mk [OSh.ro] []
noncomputable def Z2W : LoopDef (Tup Z4f × OutD) := .rets Z9L Zm1 (Unit) (Bool) (fun k x => Z3s k x.1.2.1.1 x.1.2.1.2.1 x.1.2.1.2.2.1 x.2.2.1 x.2.2.2.1 x.2.2.2.2.1) (fun z => (((), ()), (()))) (fun y => ()) (fun _ => rfl) ZaK ZaJ Zd2
noncomputable def Z8O : Nat → Int × Int × List (Int × Int) → List Int → Option Bool
 | 0, _, _ => none
 | k + 1, p0, p1 =>
  Option.bind (Z8h k (Prod.fst p0, Prod.fst p0.2, Prod.snd p0.2)) fun z0 => if (!z0) = true then some false else if decide ((↑(List.length p1) : Int) > (60 : Int)) = true then some false else Option.bind (Z3s k p0.1 p0.2.1 p0.2.2 p1 (↑(List.length p1) : Int) (0 : Int)) fun z1 => LR.on z1 (fun y1 => some true) fun r1 => some r1
noncomputable def Z28 : FnDef := .of Zgh Z4f (Bool) (fun k x => Z8O k x.1 x.2.1) ZaK ZaJ Zd2
noncomputable def Z8D : Code := Try.f118.body.getD .skip
noncomputable def Z3d : Ctx (Tup Z4f × OutD) := { T := T, G := [(132, Z2X.E)], mvs := [], no := 0, n := 30, res := resOf T Zgh Z4f Try.f118.results.toList, loops := [(0, Z2W.E)], regs := [], conds := [] }
theorem Zg4 (k : Nat) : EnvOK Try.prog k Z3d.G := (EnvOK.cons (ZgC k) (EnvOK.nil mixed))
noncomputable def Z6z : Code := (findLoop 0 Z8D).getD .skip
theorem Zlu (k : Nat) (x : Z9L.D) : Z2W.lp (k + 1) x = loopK Z3d Z2W 0 Z6z k x := by kernel_rfl
theorem Zm0 (k : Nat) : LOK Try.prog Z3d k Z6z := LOK.by [] (by kernel_rfl) AllOK.nil
theorem ZlL (x : Z9L.D) : Z2W.lp 0 x = none := by kernel_rfl
theorem Zkk (k : Nat) : EOK Try.prog Z3d k Z2W.E (.block 0 (.loop Z6z)) := Zp T_ok Zg4 ZlL Zlu Zm0 k
theorem ZqC (k : Nat) (x : Tup Z28.ps) : Z28.f (k + 1) x = fnK Z28 Z3d Z8D k x := by kernel_rfl
theorem Zqe (x : Tup Z28.ps) : Z28.f 0 x = none := by kernel_rfl
theorem ZqW (k : Nat) : LOK Try.prog Z3d k Z8D := LOK.by [(Z2W.E, .block 0 (.loop Z6z))] (by kernel_rfl) (AllOK.cons (Zkk k) AllOK.nil)
theorem Zre (k : Nat) : SoundAt Try.prog k 118 Z28.E := @Ze Try.prog Z28 Z3d 118 Try.f118 Z8D (by kernel_rfl) (by kernel_rfl) (by kernel_rfl) Try.func118 (by kernel_rfl) (by kernel_rfl) (by kernel_rfl) T_ok Zg4 ZqW Zqe ZqC k
noncomputable def Z4K : List PK := [PK.mk (Ty.slice (63 : Nat) (Ty.pair (Ty.int .i64) (Ty.pair (Ty.int .i64) (Ty.int .i64)))) false none false none, PK.mk (Ty.pair (Ty.int .i64) (Ty.pair (Ty.int .i64) (Ty.slice (79 : Nat) (Ty.pair (Ty.int .i64) (Ty.int .i64))))) true none false none]
noncomputable def Zhs : List PK := [PK.mk (Ty.pair (Ty.int .i64) (Ty.pair (Ty.int .i64) (Ty.slice (79 : Nat) (Ty.pair (Ty.int .i64) (Ty.int .i64))))) true none false none, PK.mk (Ty.slice (77 : Nat) (Ty.pair (Ty.int .i64) (Ty.pair (Ty.int .i64) (Ty.int .i64)))) false none false none, PK.mk (Ty.slice (3 : Nat) (Ty.int .i64)) false none false none]
noncomputable def Zg5 (r : List (Int × Int × Int) × Int × Int × List (Int × Int)) : Tup Z4K × OutD := ((r.1, r.2, ()), none)
noncomputable def Zgj : Tup Z4K × OutD → Option (List (Int × Int × Int) × Int × Int × List (Int × Int))
 | (a, none) => some (a.1, a.2.1)
 | _ => none
theorem ZlM : ∀ b r, Zgj b = some r → Zg5 r = b := by
 rintro ⟨a, o⟩ r h
 cases o with
 | none => injection h with h; subst h; rfl
 | some _ => cases h
noncomputable def Z3P : Nat → Int → Int → List (Int × Int) → Int → Int → List (Int × Int) → List Int → List Int → List (Int × Int × Int) → List Int → Int → Int → Option (Int × Int × List (Int × Int) × Int × Int × List (Int × Int) × List (Int × Int × Int))
 | 0, _, _, _, _, _, _, _, _, _, _, _, _ => none
 | k + 1, b1_0, b1_1, o2, b3_0, b3_1, o4, o5, o6, o7, v22, v23, v24 =>
  if decide (v24 < v23) = true then if (0 : Int) ≤ v24 then if v24 < (↑(List.length v22) : Int) then Option.bind (Zac k (b3_0, b3_1, o4) o5 o6 (List.getD v22 (Int.toNat v24) (0 : Int))) fun z3 => if List.length o7 + List.length [(Prod.fst z3.1, Prod.fst z3.1.2, Prod.snd z3.1.2)] ≤ (140737488355328 / 24 : Nat) then Z3P k b1_0 b1_1 o2 b3_0 b3_1 z3.2 o5 o6 (o7 ++ [(Prod.fst z3.1, Prod.fst z3.1.2, Prod.snd z3.1.2)]) v22 v23 (wrap64 (v24 + (1 : Int))) else none else none else none else some (b1_0, b1_1, o2, b3_0, b3_1, o4, o7)
noncomputable def ZaC : Spec := Spec.mk [OSh.ro, OSh.box (53 : Nat) [Sh.int .i64, Sh.int .i64, Sh.sl (2 : Nat)], OSh.row true (79 : Nat) (Ty.pair (Ty.int .i64) (Ty.int .i64)), OSh.box (53 : Nat) [Sh.int .i64, Sh.int .i64, Sh.sl (4 : Nat)], OSh.row true (79 : Nat) (Ty.pair (Ty.int .i64) (Ty.int .i64)), OSh.row true (3 : Nat) (Ty.int .i64), OSh.row true (3 : Nat) (Ty.int .i64), OSh.row true (63 : Nat) (Ty.pair (Ty.int .i64) (Ty.pair (Ty.int .i64) (Ty.int .i64)))] [((7 : Nat), TSh.at (Sh.ptr (1 : Nat) (0 : Nat))), ((8 : Nat), TSh.at (Sh.ptr (3 : Nat) (0 : Nat))), ((9 : Nat), TSh.at (Sh.sl (5 : Nat))), ((10 : Nat), TSh.at (Sh.sl (6 : Nat))), ((11 : Nat), TSh.at (Sh.sl (7 : Nat))), ((22 : Nat), TSh.at (Sh.snap (0 : Nat) (Ty.int .i64))), ((23 : Nat), TSh.at (Sh.int .i64)), ((24 : Nat), TSh.at (Sh.int .i64))]
noncomputable def ZnF : Spec := Spec.mk [OSh.ro, OSh.box (53 : Nat) [Sh.int .i64, Sh.int .i64, Sh.sl (2 : Nat)], OSh.row true (79 : Nat) (Ty.pair (Ty.int .i64) (Ty.int .i64)), OSh.box (53 : Nat) [Sh.int .i64, Sh.int .i64, Sh.sl (4 : Nat)], OSh.row true (79 : Nat) (Ty.pair (Ty.int .i64) (Ty.int .i64)), OSh.row true (63 : Nat) (Ty.pair (Ty.int .i64) (Ty.pair (Ty.int .i64) (Ty.int .i64)))] [((7 : Nat), TSh.at (Sh.ptr (1 : Nat) (0 : Nat))), ((8 : Nat), TSh.at (Sh.ptr (3 : Nat) (0 : Nat))), ((11 : Nat), TSh.at (Sh.sl (5 : Nat)))]
noncomputable def Z3q : LoopDef (Tup Z4K × OutD) := .plain ZaC ZnF (Int × Int × List (Int × Int) × Int × Int × List (Int × Int) × List (Int × Int × Int)) (fun k x => Z3P k x.1.2.1.1 x.1.2.1.2.1 x.1.2.2.1 x.1.2.2.2.1.1 x.1.2.2.2.1.2.1 x.1.2.2.2.2.1 x.1.2.2.2.2.2.1 x.1.2.2.2.2.2.2.1 x.1.2.2.2.2.2.2.2.1 x.2.2.2.2.2.2.1 x.2.2.2.2.2.2.2.1 x.2.2.2.2.2.2.2.2.1) (fun z => (((), (z.1, z.2.1, (), ()), z.2.2.1, (z.2.2.2.1, z.2.2.2.2.1, (), ()), z.2.2.2.2.2.1, z.2.2.2.2.2.2, ()), ((), (), (), ()))) (fun y => (y.1.2.1.1, y.1.2.1.2.1, y.1.2.2.1, y.1.2.2.2.1.1, y.1.2.2.2.1.2.1, y.1.2.2.2.2.1, y.1.2.2.2.2.2.1)) (fun _ => rfl)
noncomputable def Z9s : Nat → Int × Int × List (Int × Int) → List (Int × Int × Int) → List Int → Option (List (Int × Int × Int) × Int × Int × List (Int × Int))
 | 0, _, _, _ => none
 | k + 1, p0, p1, p2 =>
  Option.bind (Z8r k (Prod.fst p0, Prod.fst p0.2, Prod.snd p0.2)) fun z0 => Option.bind (Z5P k (Prod.fst p0, Prod.fst p0.2, Prod.snd p0.2)) fun z1 => Option.bind (Z8J k (Prod.fst p0, Prod.fst p0.2, Prod.snd p0.2) p1) fun z2 => Option.bind (Z3P k (0 : Int) (0 : Int) [] z0.1 z0.2.1 z0.2.2 z1 z2 [] p2 (↑(List.length p2) : Int) (0 : Int)) fun z4 => some (Prod.snd z4.2.2.2.2.2, Prod.fst z4.2.2.2, Prod.fst z4.2.2.2.2, Prod.fst z4.2.2.2.2.2)
noncomputable def Z2A : FnDef := .of Zhs Z4K (List (Int × Int × Int) × Int × Int × List (Int × Int)) (fun k x => Z9s k x.1 x.2.1 x.2.2.1) Zg5 Zgj ZlM
noncomputable def Z9q : Code := Try.f120.body.getD .skip
noncomputable def Z3x : Ctx (Tup Z4K × OutD) := { T := T, G := [(127, Z2E.E), (128, Z1y.E), (129, Z2a.E), (126, Z2Z.E)], mvs := [], no := 0, n := 39, res := resOf T Zhs Z4K Try.f120.results.toList, loops := [(0, Z3q.E)], regs := [], conds := [] }
theorem Zh0 (k : Nat) : EnvOK Try.prog k Z3x.G := (EnvOK.cons (Zj4 k) (EnvOK.cons (Zgg k) (EnvOK.cons (Zqi k) (EnvOK.cons (ZtY k) (EnvOK.nil mixed)))))
noncomputable def Z75 : Code := (findLoop 0 Z9q).getD .skip
theorem Zmm (k : Nat) (x : ZaC.D) : Z3q.lp (k + 1) x = loopK Z3x Z3q 0 Z75 k x := by kernel_rfl
theorem Zmk (k : Nat) : LOK Try.prog Z3x k Z75 := LOK.by [] (by kernel_rfl) AllOK.nil
theorem Zn4 (x : ZaC.D) : Z3q.lp 0 x = none := by kernel_rfl
theorem ZlN (k : Nat) : EOK Try.prog Z3x k Z3q.E (.block 0 (.loop Z75)) := Zp T_ok Zh0 Zn4 Zmm Zmk k
theorem ZrL (k : Nat) (x : Tup Z2A.ps) : Z2A.f (k + 1) x = fnK Z2A Z3x Z9q k x := by kernel_rfl
theorem ZrG (x : Tup Z2A.ps) : Z2A.f 0 x = none := by kernel_rfl
theorem Zrz (k : Nat) : LOK Try.prog Z3x k Z9q := LOK.by [(Z3q.E, .block 0 (.loop Z75))] (by kernel_rfl) (AllOK.cons (ZlN k) AllOK.nil)
theorem Zsi (k : Nat) : SoundAt Try.prog k 120 Z2A.E := @Ze Try.prog Z2A Z3x 120 Try.f120 Z9q (by kernel_rfl) (by kernel_rfl) (by kernel_rfl) Try.func120 (by kernel_rfl) (by kernel_rfl) (by kernel_rfl) T_ok Zh0 Zrz ZrG ZrL k
noncomputable def Z8C : List PK := [PK.mk (Ty.slice (63 : Nat) (Ty.pair (Ty.int .i64) (Ty.pair (Ty.int .i64) (Ty.int .i64)))) false none false none, PK.mk (Ty.pair (Ty.int .i64) (Ty.pair (Ty.int .i64) (Ty.slice (79 : Nat) (Ty.pair (Ty.int .i64) (Ty.int .i64))))) true none false none]
noncomputable def Zse : List PK := [PK.mk (Ty.pair (Ty.int .i64) (Ty.pair (Ty.int .i64) (Ty.slice (79 : Nat) (Ty.pair (Ty.int .i64) (Ty.int .i64))))) true none false none, PK.mk (Ty.slice (77 : Nat) (Ty.pair (Ty.int .i64) (Ty.pair (Ty.int .i64) (Ty.int .i64)))) false none false none, PK.mk (Ty.slice (3 : Nat) (Ty.int .i64)) false none false none]
noncomputable def Zq8 (r : List (Int × Int × Int) × Int × Int × List (Int × Int)) : Tup Z8C × OutD := ((r.1, r.2, ()), none)
noncomputable def Zpl : Tup Z8C × OutD → Option (List (Int × Int × Int) × Int × Int × List (Int × Int))
 | (a, none) => some (a.1, a.2.1)
 | _ => none
theorem Zwu : ∀ b r, Zpl b = some r → Zq8 r = b := by
 rintro ⟨a, o⟩ r h
 cases o with
 | none => injection h with h; subst h; rfl
 | some _ => cases h
noncomputable def Z58 : Nat → Int → Int → List (Int × Int) → Int → Int → List (Int × Int) → List (Int × Int × Int) → List Int → Option (Int × Int × List (Int × Int) × Int × Int × List (Int × Int) × List Int × List (Int × Int × Int) × List Int) := fun k b1_0 b1_1 b1_2 b2_0 b2_1 o3 v1 v2 =>
    Option.bind (Z3y k (b1_0, b1_1, b1_2)) fun z0 => Option.bind (Z20 k (b1_0, b1_1, b1_2)) fun z1 => some (b2_0, b2_1, o3, Prod.fst z0, Prod.fst z0.2, Prod.snd z0.2, z1, v1, v2)
noncomputable def ZaU : Nat → Int → Int → List (Int × Int) → Int → Int → List (Int × Int) → List (Int × Int × Int) → List Int → Option (List (Int × Int × List (Int × Int) × Int × Int × List (Int × Int) × List Int × List (Int × Int × Int) × List Int)) := fun k b1_0 b1_1 b1_2 b2_0 b2_1 o3 v1 v2 =>
    joinL (Option.bind (Z3y k (b1_0, b1_1, b1_2)) fun z2 => joinL (Option.bind (Z20 k (b1_0, b1_1, b1_2)) fun z3 => some [(b2_0, b2_1, o3, Prod.fst z2, Prod.fst z2.2, Prod.snd z2.2, z3, v1, v2)]) (Option.bind (Z20 k (b1_0, b1_1, b1_2)) fun z4 => some [(b2_0, b2_1, o3, Prod.fst z2, Prod.fst z2.2, Prod.snd z2.2, z4, v1, v2)])) (Option.bind (Z3y k (b1_0, b1_1, b1_2)) fun z5 => Option.bind (Z20 k (b1_0, b1_1, b1_2)) fun z6 => some [(b2_0, b2_1, o3, Prod.fst z5, Prod.fst z5.2, Prod.snd z5.2, z6, v1, v2)])
noncomputable def Zju : Spec := Spec.mk [OSh.ro, OSh.box (53 : Nat) [Sh.int .i64, Sh.int .i64, Sh.snap (0 : Nat) (Ty.pair (Ty.int .i64) (Ty.int .i64))], OSh.box (53 : Nat) [Sh.int .i64, Sh.int .i64, Sh.sl (3 : Nat)], OSh.row true (79 : Nat) (Ty.pair (Ty.int .i64) (Ty.int .i64))] [((1 : Nat), TSh.at (Sh.snap (0 : Nat) (Ty.pair (Ty.int .i64) (Ty.pair (Ty.int .i64) (Ty.int .i64))))), ((2 : Nat), TSh.at (Sh.snap (0 : Nat) (Ty.int .i64))), ((3 : Nat), TSh.at (Sh.ptr (1 : Nat) (0 : Nat))), ((7 : Nat), TSh.at (Sh.ptr (2 : Nat) (0 : Nat)))]
noncomputable def ZvD : Spec := Spec.mk [OSh.ro, OSh.box (53 : Nat) [Sh.int .i64, Sh.int .i64, Sh.sl (2 : Nat)], OSh.row true (79 : Nat) (Ty.pair (Ty.int .i64) (Ty.int .i64)), OSh.box (53 : Nat) [Sh.int .i64, Sh.int .i64, Sh.sl (4 : Nat)], OSh.row true (79 : Nat) (Ty.pair (Ty.int .i64) (Ty.int .i64)), OSh.row true (3 : Nat) (Ty.int .i64)] [((1 : Nat), TSh.at (Sh.snap (0 : Nat) (Ty.pair (Ty.int .i64) (Ty.pair (Ty.int .i64) (Ty.int .i64))))), ((2 : Nat), TSh.at (Sh.snap (0 : Nat) (Ty.int .i64))), ((7 : Nat), TSh.at (Sh.ptr (1 : Nat) (0 : Nat))), ((8 : Nat), TSh.at (Sh.ptr (3 : Nat) (0 : Nat))), ((9 : Nat), TSh.at (Sh.sl (5 : Nat)))]
noncomputable def Z68 : LoopDef (Tup Z8C × OutD) := .plain Zju ZvD (Int × Int × List (Int × Int) × Int × Int × List (Int × Int) × List Int × List (Int × Int × Int) × List Int) (fun k x => Z58 k x.1.2.1.1 x.1.2.1.2.1 x.1.2.1.2.2.1 x.1.2.2.1.1 x.1.2.2.1.2.1 x.1.2.2.2.1 x.2.1 x.2.2.1) (fun z => (((), (z.1, z.2.1, (), ()), z.2.2.1, (z.2.2.2.1, z.2.2.2.2.1, (), ()), z.2.2.2.2.2.1, z.2.2.2.2.2.2.1, ()), (z.2.2.2.2.2.2.2.1, z.2.2.2.2.2.2.2.2, (), (), (), ()))) (fun y => (y.1.2.1.1, y.1.2.1.2.1, y.1.2.2.1, y.1.2.2.2.1.1, y.1.2.2.2.1.2.1, y.1.2.2.2.2.1, y.1.2.2.2.2.2.1, y.2.1, y.2.2.1)) (fun _ => rfl)
theorem Zx4 (k : Nat) (b1_0 : Int) (b1_1 : Int) (b1_2 : List (Int × Int)) (b2_0 : Int) (b2_1 : Int) (o3 : List (Int × Int)) (v1 : List (Int × Int × Int)) (v2 : List Int) : ZaU k b1_0 b1_1 b1_2 b2_0 b2_1 o3 v1 v2 = repl 3 (Z58 k b1_0 b1_1 b1_2 b2_0 b2_1 o3 v1 v2) := by
 first
 | (simp only [ZaU, Z58, Zc, Zf, Za, Z9, Zb, Z8, if_true]; done)
 | (simp only [ZaU, Z58, Zc, Zf, Za, Z9, Zb, Z8, if_true]; simp only [Z4r, Z4y, Z7x, Z8]; simp only [Z9e]; exact Z5I ⟨fun h => by simp only [h, and_self], fun h => by simp only [h, and_self]⟩)
noncomputable def Z8e : Nat → Int → Int → List (Int × Int) → Int → Int → List (Int × Int) → List Int → List (Int × Int × Int) → List (Int × Int × Int) → List Int → Int → Int → Option (Int × Int × List (Int × Int) × Int × Int × List (Int × Int) × List (Int × Int × Int))
 | 0, _, _, _, _, _, _, _, _, _, _, _, _ => none
 | k + 1, b1_0, b1_1, o2, b3_0, b3_1, o4, o5, o6, v1, v19, v20, v21 =>
  if decide (v21 < v20) = true then if (0 : Int) ≤ v21 then if v21 < (↑(List.length v19) : Int) then Option.bind (ZgU k (b3_0, b3_1, o4) o5 v1 (List.getD v19 (Int.toNat v21) (0 : Int))) fun z8 => if List.length o6 + List.length [(Prod.fst z8.1, Prod.fst z8.1.2, Prod.snd z8.1.2)] ≤ (140737488355328 / 24 : Nat) then Z8e k b1_0 b1_1 o2 z8.2.1 z8.2.2.1 z8.2.2.2 o5 (o6 ++ [(Prod.fst z8.1, Prod.fst z8.1.2, Prod.snd z8.1.2)]) v1 v19 v20 (wrap64 (v21 + (1 : Int))) else none else none else none else some (b1_0, b1_1, o2, b3_0, b3_1, o4, o6)
noncomputable def ZeU : Spec := Spec.mk [OSh.ro, OSh.box (53 : Nat) [Sh.int .i64, Sh.int .i64, Sh.sl (2 : Nat)], OSh.row true (79 : Nat) (Ty.pair (Ty.int .i64) (Ty.int .i64)), OSh.box (53 : Nat) [Sh.int .i64, Sh.int .i64, Sh.sl (4 : Nat)], OSh.row true (79 : Nat) (Ty.pair (Ty.int .i64) (Ty.int .i64)), OSh.row true (3 : Nat) (Ty.int .i64), OSh.row true (63 : Nat) (Ty.pair (Ty.int .i64) (Ty.pair (Ty.int .i64) (Ty.int .i64)))] [((1 : Nat), TSh.at (Sh.snap (0 : Nat) (Ty.pair (Ty.int .i64) (Ty.pair (Ty.int .i64) (Ty.int .i64))))), ((7 : Nat), TSh.at (Sh.ptr (1 : Nat) (0 : Nat))), ((8 : Nat), TSh.at (Sh.ptr (3 : Nat) (0 : Nat))), ((9 : Nat), TSh.at (Sh.sl (5 : Nat))), ((10 : Nat), TSh.at (Sh.sl (6 : Nat))), ((19 : Nat), TSh.at (Sh.snap (0 : Nat) (Ty.int .i64))), ((20 : Nat), TSh.at (Sh.int .i64)), ((21 : Nat), TSh.at (Sh.int .i64))]
noncomputable def ZxG : Spec := Spec.mk [OSh.ro, OSh.box (53 : Nat) [Sh.int .i64, Sh.int .i64, Sh.sl (2 : Nat)], OSh.row true (79 : Nat) (Ty.pair (Ty.int .i64) (Ty.int .i64)), OSh.box (53 : Nat) [Sh.int .i64, Sh.int .i64, Sh.sl (4 : Nat)], OSh.row true (79 : Nat) (Ty.pair (Ty.int .i64) (Ty.int .i64)), OSh.row true (63 : Nat) (Ty.pair (Ty.int .i64) (Ty.pair (Ty.int .i64) (Ty.int .i64)))] [((7 : Nat), TSh.at (Sh.ptr (1 : Nat) (0 : Nat))), ((8 : Nat), TSh.at (Sh.ptr (3 : Nat) (0 : Nat))), ((10 : Nat), TSh.at (Sh.sl (5 : Nat)))]
noncomputable def Z72 : LoopDef (Tup Z8C × OutD) := .plain ZeU ZxG (Int × Int × List (Int × Int) × Int × Int × List (Int × Int) × List (Int × Int × Int)) (fun k x => Z8e k x.1.2.1.1 x.1.2.1.2.1 x.1.2.2.1 x.1.2.2.2.1.1 x.1.2.2.2.1.2.1 x.1.2.2.2.2.1 x.1.2.2.2.2.2.1 x.1.2.2.2.2.2.2.1 x.2.1 x.2.2.2.2.2.2.1 x.2.2.2.2.2.2.2.1 x.2.2.2.2.2.2.2.2.1) (fun z => (((), (z.1, z.2.1, (), ()), z.2.2.1, (z.2.2.2.1, z.2.2.2.2.1, (), ()), z.2.2.2.2.2.1, z.2.2.2.2.2.2, ()), ((), (), (), ()))) (fun y => (y.1.2.1.1, y.1.2.1.2.1, y.1.2.2.1, y.1.2.2.2.1.1, y.1.2.2.2.1.2.1, y.1.2.2.2.2.1, y.1.2.2.2.2.2.1)) (fun _ => rfl)
noncomputable def Z6Q : Nat → Int × Int × List (Int × Int) → List (Int × Int × Int) → List Int → Option (List (Int × Int × Int) × Int × Int × List (Int × Int))
 | 0, _, _, _ => none
 | k + 1, p0, p1, p2 =>
  Option.bind (Z58 k p0.1 p0.2.1 p0.2.2 (0 : Int) (0 : Int) [] p1 p2) fun z7 => Option.bind (Z8e k z7.1 z7.2.1 z7.2.2.1 z7.2.2.2.1 z7.2.2.2.2.1 z7.2.2.2.2.2.1 z7.2.2.2.2.2.2.1 [] z7.2.2.2.2.2.2.2.1 z7.2.2.2.2.2.2.2.2 (↑(List.length z7.2.2.2.2.2.2.2.2) : Int) (0 : Int)) fun z9 => some (Prod.snd z9.2.2.2.2.2, Prod.fst z9.2.2.2, Prod.fst z9.2.2.2.2, Prod.fst z9.2.2.2.2.2)
noncomputable def Z56 : FnDef := .of Zse Z8C (List (Int × Int × Int) × Int × Int × List (Int × Int)) (fun k x => Z6Q k x.1 x.2.1 x.2.2.1) Zq8 Zpl Zwu
noncomputable def ZcI : Code := Try.f123.body.getD .skip
noncomputable def Z2j : Ctx (Tup Z8C × OutD) := { T := T, G := [(184, Z3D.E), (185, Z3i.E), (186, Z88.E)], mvs := [], no := 0, n := 41, res := resOf T Zse Z8C Try.f123.results.toList, loops := [(0, Z72.E)], regs := [(1, Z68.E)], conds := [] }
theorem Zj7 (k : Nat) : EnvOK Try.prog k Z2j.G := (EnvOK.cons (Zfb k) (EnvOK.cons (ZkO k) (EnvOK.cons (ZCt k) (EnvOK.nil mixed))))
noncomputable def Zeb : Array Oper := (findReg 1 ZcI).getD #[]
theorem ZwJ (k : Nat) (x : Zju.D) : execD Z2j.T Z2j.G Z2j.mvs k Zeb (Z68.inp.st Z2j.n x) (outK Z2j Z68) = ZaU k x.1.2.1.1 x.1.2.1.2.1 x.1.2.1.2.2.1 x.1.2.2.1.1 x.1.2.2.1.2.1 x.1.2.2.2.1 x.2.1 x.2.2.1 := by kernel_rfl
theorem Zv7 (k : Nat) : EOK Try.prog Z2j k Z68.E (.region 1 Zeb true) := Zan (D := Z68) (m := 3) T_ok (Zj7 k) (fun x => (ZwJ k x).trans (Zx4 k x.1.2.1.1 x.1.2.1.2.1 x.1.2.1.2.2.1 x.1.2.2.1.1 x.1.2.2.1.2.1 x.1.2.2.2.1 x.2.1 x.2.2.1))
noncomputable def Zc2 : Code := (findLoop 0 ZcI).getD .skip
theorem Zxy (k : Nat) (x : ZeU.D) : Z72.lp (k + 1) x = loopK Z2j Z72 0 Zc2 k x := by kernel_rfl
theorem Zxj (k : Nat) : LOK Try.prog Z2j k Zc2 := LOK.by [] (by kernel_rfl) AllOK.nil
theorem Zy3 (x : ZeU.D) : Z72.lp 0 x = none := by kernel_rfl
theorem ZwG (k : Nat) : EOK Try.prog Z2j k Z72.E (.block 0 (.loop Zc2)) := Zp T_ok Zj7 Zy3 Zxy Zxj k
theorem ZB9 (k : Nat) (x : Tup Z56.ps) : Z56.f (k + 1) x = fnK Z56 Z2j ZcI k x := by kernel_rfl
theorem ZBI (x : Tup Z56.ps) : Z56.f 0 x = none := by kernel_rfl
theorem ZBa (k : Nat) : LOK Try.prog Z2j k ZcI := LOK.by [(Z68.E, .region 1 Zeb true), (Z72.E, .block 0 (.loop Zc2))] (by kernel_rfl) (AllOK.cons (Zv7 k) (AllOK.cons (ZwG k) AllOK.nil))
theorem Ztg (k : Nat) : SoundAt Try.prog k 123 Z56.E := @Ze Try.prog Z56 Z2j 123 Try.f123 ZcI (by kernel_rfl) (by kernel_rfl) (by kernel_rfl) Try.func123 (by kernel_rfl) (by kernel_rfl) (by kernel_rfl) T_ok Zj7 ZBa ZBI ZB9 k
noncomputable def Z8k : List PK := [PK.mk (Ty.slice (63 : Nat) (Ty.pair (Ty.int .i64) (Ty.pair (Ty.int .i64) (Ty.int .i64)))) false none false none, PK.mk (Ty.pair (Ty.int .i64) (Ty.pair (Ty.int .i64) (Ty.slice (79 : Nat) (Ty.pair (Ty.int .i64) (Ty.int .i64))))) true none false none]
noncomputable def Zmv : List PK := [PK.mk (Ty.pair (Ty.int .i64) (Ty.pair (Ty.int .i64) (Ty.slice (79 : Nat) (Ty.pair (Ty.int .i64) (Ty.int .i64))))) true none false none, PK.mk (Ty.slice (3 : Nat) (Ty.int .i64)) false none false none]
noncomputable def Zlb (r : List (Int × Int × Int) × Int × Int × List (Int × Int)) : Tup Z8k × OutD := ((r.1, r.2, ()), none)
noncomputable def Zl4 : Tup Z8k × OutD → Option (List (Int × Int × Int) × Int × Int × List (Int × Int))
 | (a, none) => some (a.1, a.2.1)
 | _ => none
theorem Zth : ∀ b r, Zl4 b = some r → Zlb r = b := by
 rintro ⟨a, o⟩ r h
 cases o with
 | none => injection h with h; subst h; rfl
 | some _ => cases h
noncomputable def Z6c : Nat → Int → Int → List (Int × Int) → Int → Int → List (Int × Int) → List Int → List (Int × Int × Int) → List Int → Int → Int → Option (Int × Int × List (Int × Int) × Int × Int × List (Int × Int) × List (Int × Int × Int))
 | 0, _, _, _, _, _, _, _, _, _, _, _ => none
 | k + 1, b1_0, b1_1, o2, b3_0, b3_1, o4, o5, o6, v18, v19, v20 =>
  if decide (v20 < v19) = true then if (0 : Int) ≤ v20 then if v20 < (↑(List.length v18) : Int) then Option.bind (ZgW k (b3_0, b3_1, o4) o5 (List.getD v18 (Int.toNat v20) (0 : Int))) fun z2 => if List.length o6 + List.length [(Prod.fst z2.1, Prod.fst z2.1.2, Prod.snd z2.1.2)] ≤ (140737488355328 / 24 : Nat) then Z6c k b1_0 b1_1 o2 b3_0 b3_1 z2.2.2 o5 (o6 ++ [(Prod.fst z2.1, Prod.fst z2.1.2, Prod.snd z2.1.2)]) v18 v19 (wrap64 (v20 + (1 : Int))) else none else none else none else some (b1_0, b1_1, o2, b3_0, b3_1, o4, o6)
noncomputable def Zde : Spec := Spec.mk [OSh.ro, OSh.box (53 : Nat) [Sh.int .i64, Sh.int .i64, Sh.sl (2 : Nat)], OSh.row true (79 : Nat) (Ty.pair (Ty.int .i64) (Ty.int .i64)), OSh.box (53 : Nat) [Sh.int .i64, Sh.int .i64, Sh.sl (4 : Nat)], OSh.row true (79 : Nat) (Ty.pair (Ty.int .i64) (Ty.int .i64)), OSh.row true (3 : Nat) (Ty.int .i64), OSh.row true (63 : Nat) (Ty.pair (Ty.int .i64) (Ty.pair (Ty.int .i64) (Ty.int .i64)))] [((5 : Nat), TSh.at (Sh.ptr (1 : Nat) (0 : Nat))), ((6 : Nat), TSh.at (Sh.ptr (3 : Nat) (0 : Nat))), ((7 : Nat), TSh.at (Sh.sl (5 : Nat))), ((8 : Nat), TSh.at (Sh.sl (6 : Nat))), ((18 : Nat), TSh.at (Sh.snap (0 : Nat) (Ty.int .i64))), ((19 : Nat), TSh.at (Sh.int .i64)), ((20 : Nat), TSh.at (Sh.int .i64))]
noncomputable def Zuo : Spec := Spec.mk [OSh.ro, OSh.box (53 : Nat) [Sh.int .i64, Sh.int .i64, Sh.sl (2 : Nat)], OSh.row true (79 : Nat) (Ty.pair (Ty.int .i64) (Ty.int .i64)), OSh.box (53 : Nat) [Sh.int .i64, Sh.int .i64, Sh.sl (4 : Nat)], OSh.row true (79 : Nat) (Ty.pair (Ty.int .i64) (Ty.int .i64)), OSh.row true (63 : Nat) (Ty.pair (Ty.int .i64) (Ty.pair (Ty.int .i64) (Ty.int .i64)))] [((5 : Nat), TSh.at (Sh.ptr (1 : Nat) (0 : Nat))), ((6 : Nat), TSh.at (Sh.ptr (3 : Nat) (0 : Nat))), ((8 : Nat), TSh.at (Sh.sl (5 : Nat)))]
noncomputable def Z5s : LoopDef (Tup Z8k × OutD) := .plain Zde Zuo (Int × Int × List (Int × Int) × Int × Int × List (Int × Int) × List (Int × Int × Int)) (fun k x => Z6c k x.1.2.1.1 x.1.2.1.2.1 x.1.2.2.1 x.1.2.2.2.1.1 x.1.2.2.2.1.2.1 x.1.2.2.2.2.1 x.1.2.2.2.2.2.1 x.1.2.2.2.2.2.2.1 x.2.2.2.2.2.1 x.2.2.2.2.2.2.1 x.2.2.2.2.2.2.2.1) (fun z => (((), (z.1, z.2.1, (), ()), z.2.2.1, (z.2.2.2.1, z.2.2.2.2.1, (), ()), z.2.2.2.2.2.1, z.2.2.2.2.2.2, ()), ((), (), (), ()))) (fun y => (y.1.2.1.1, y.1.2.1.2.1, y.1.2.2.1, y.1.2.2.2.1.1, y.1.2.2.2.1.2.1, y.1.2.2.2.2.1, y.1.2.2.2.2.2.1)) (fun _ => rfl)
noncomputable def ZcV : Nat → Int × Int × List (Int × Int) → List Int → Option (List (Int × Int × Int) × Int × Int × List (Int × Int))
 | 0, _, _ => none
 | k + 1, p0, p1 =>
  Option.bind (Z8r k (Prod.fst p0, Prod.fst p0.2, Prod.snd p0.2)) fun z0 => Option.bind (Z5P k (Prod.fst p0, Prod.fst p0.2, Prod.snd p0.2)) fun z1 => Option.bind (Z6c k (0 : Int) (0 : Int) [] z0.1 z0.2.1 z0.2.2 z1 [] p1 (↑(List.length p1) : Int) (0 : Int)) fun z3 => some (Prod.snd z3.2.2.2.2.2, Prod.fst z3.2.2.2, Prod.fst z3.2.2.2.2, Prod.fst z3.2.2.2.2.2)
noncomputable def Z4O : FnDef := .of Zmv Z8k (List (Int × Int × Int) × Int × Int × List (Int × Int)) (fun k x => ZcV k x.1 x.2.1) Zlb Zl4 Zth
noncomputable def ZcW : Code := Try.f145.body.getD .skip
noncomputable def Z65 : Ctx (Tup Z8k × OutD) := { T := T, G := [(127, Z2E.E), (128, Z1y.E), (196, Z86.E)], mvs := [], no := 0, n := 38, res := resOf T Zmv Z8k Try.f145.results.toList, loops := [(0, Z5s.E)], regs := [], conds := [] }
theorem ZnS (k : Nat) : EnvOK Try.prog k Z65.G := (EnvOK.cons (Zj4 k) (EnvOK.cons (Zgg k) (EnvOK.cons (ZCa k) (EnvOK.nil mixed))))
noncomputable def Zab : Code := (findLoop 0 ZcW).getD .skip
theorem Zv4 (k : Nat) (x : Zde.D) : Z5s.lp (k + 1) x = loopK Z65 Z5s 0 Zab k x := by kernel_rfl
theorem Zu3 (k : Nat) : LOK Try.prog Z65 k Zab := LOK.by [] (by kernel_rfl) AllOK.nil
theorem ZtN (x : Zde.D) : Z5s.lp 0 x = none := by kernel_rfl
theorem Ztb (k : Nat) : EOK Try.prog Z65 k Z5s.E (.block 0 (.loop Zab)) := Zp T_ok ZnS ZtN Zv4 Zu3 k
theorem ZyK (k : Nat) (x : Tup Z4O.ps) : Z4O.f (k + 1) x = fnK Z4O Z65 ZcW k x := by kernel_rfl
theorem Zz7 (x : Tup Z4O.ps) : Z4O.f 0 x = none := by kernel_rfl
theorem Zzq (k : Nat) : LOK Try.prog Z65 k ZcW := LOK.by [(Z5s.E, .block 0 (.loop Zab))] (by kernel_rfl) (AllOK.cons (Ztb k) AllOK.nil)
theorem Zz2 (k : Nat) : SoundAt Try.prog k 145 Z4O.E := @Ze Try.prog Z4O Z65 145 Try.f145 ZcW (by kernel_rfl) (by kernel_rfl) (by kernel_rfl) Try.func145 (by kernel_rfl) (by kernel_rfl) (by kernel_rfl) T_ok ZnS Zzq Zz7 ZyK k
noncomputable def Z8t : List PK := [PK.mk (Ty.slice (63 : Nat) (Ty.pair (Ty.int .i64) (Ty.pair (Ty.int .i64) (Ty.int .i64)))) false none false none, PK.mk (Ty.pair (Ty.int .i64) (Ty.pair (Ty.int .i64) (Ty.slice (79 : Nat) (Ty.pair (Ty.int .i64) (Ty.int .i64))))) true none false none]
noncomputable def ZrX : List PK := [PK.mk (Ty.pair (Ty.int .i64) (Ty.pair (Ty.int .i64) (Ty.slice (79 : Nat) (Ty.pair (Ty.int .i64) (Ty.int .i64))))) true none false none, PK.mk (Ty.slice (3 : Nat) (Ty.int .i64)) false none false none]
noncomputable def ZpM (r : List (Int × Int × Int) × Int × Int × List (Int × Int)) : Tup Z8t × OutD := ((r.1, r.2, ()), none)
noncomputable def Zpg : Tup Z8t × OutD → Option (List (Int × Int × Int) × Int × Int × List (Int × Int))
 | (a, none) => some (a.1, a.2.1)
 | _ => none
theorem ZvV : ∀ b r, Zpg b = some r → ZpM r = b := by
 rintro ⟨a, o⟩ r h
 cases o with
 | none => injection h with h; subst h; rfl
 | some _ => cases h
noncomputable def Z5f : Nat → Int → Int → List (Int × Int) → Int → Int → List (Int × Int) → List Int → Option (Int × Int × List (Int × Int) × Int × Int × List (Int × Int) × List Int × List Int) := fun k b1_0 b1_1 b1_2 b2_0 b2_1 o3 v1 =>
    Option.bind (Z3y k (b1_0, b1_1, b1_2)) fun z0 => Option.bind (Z20 k (b1_0, b1_1, b1_2)) fun z1 => some (b2_0, b2_1, o3, Prod.fst z0, Prod.fst z0.2, Prod.snd z0.2, z1, v1)
noncomputable def ZaO : Nat → Int → Int → List (Int × Int) → Int → Int → List (Int × Int) → List Int → Option (List (Int × Int × List (Int × Int) × Int × Int × List (Int × Int) × List Int × List Int)) := fun k b1_0 b1_1 b1_2 b2_0 b2_1 o3 v1 =>
    joinL (Option.bind (Z3y k (b1_0, b1_1, b1_2)) fun z2 => joinL (Option.bind (Z20 k (b1_0, b1_1, b1_2)) fun z3 => some [(b2_0, b2_1, o3, Prod.fst z2, Prod.fst z2.2, Prod.snd z2.2, z3, v1)]) (Option.bind (Z20 k (b1_0, b1_1, b1_2)) fun z4 => some [(b2_0, b2_1, o3, Prod.fst z2, Prod.fst z2.2, Prod.snd z2.2, z4, v1)])) (Option.bind (Z3y k (b1_0, b1_1, b1_2)) fun z5 => Option.bind (Z20 k (b1_0, b1_1, b1_2)) fun z6 => some [(b2_0, b2_1, o3, Prod.fst z5, Prod.fst z5.2, Prod.snd z5.2, z6, v1)])
noncomputable def ZjD : Spec := Spec.mk [OSh.ro, OSh.box (53 : Nat) [Sh.int .i64, Sh.int .i64, Sh.snap (0 : Nat) (Ty.pair (Ty.int .i64) (Ty.int .i64))], OSh.box (53 : Nat) [Sh.int .i64, Sh.int .i64, Sh.sl (3 : Nat)], OSh.row true (79 : Nat) (Ty.pair (Ty.int .i64) (Ty.int .i64))] [((1 : Nat), TSh.at (Sh.snap (0 : Nat) (Ty.int .i64))), ((2 : Nat), TSh.at (Sh.ptr (1 : Nat) (0 : Nat))), ((5 : Nat), TSh.at (Sh.ptr (2 : Nat) (0 : Nat)))]
noncomputable def Zww : Spec := Spec.mk [OSh.ro, OSh.box (53 : Nat) [Sh.int .i64, Sh.int .i64, Sh.sl (2 : Nat)], OSh.row true (79 : Nat) (Ty.pair (Ty.int .i64) (Ty.int .i64)), OSh.box (53 : Nat) [Sh.int .i64, Sh.int .i64, Sh.sl (4 : Nat)], OSh.row true (79 : Nat) (Ty.pair (Ty.int .i64) (Ty.int .i64)), OSh.row true (3 : Nat) (Ty.int .i64)] [((1 : Nat), TSh.at (Sh.snap (0 : Nat) (Ty.int .i64))), ((5 : Nat), TSh.at (Sh.ptr (1 : Nat) (0 : Nat))), ((6 : Nat), TSh.at (Sh.ptr (3 : Nat) (0 : Nat))), ((7 : Nat), TSh.at (Sh.sl (5 : Nat)))]
noncomputable def Z6l : LoopDef (Tup Z8t × OutD) := .plain ZjD Zww (Int × Int × List (Int × Int) × Int × Int × List (Int × Int) × List Int × List Int) (fun k x => Z5f k x.1.2.1.1 x.1.2.1.2.1 x.1.2.1.2.2.1 x.1.2.2.1.1 x.1.2.2.1.2.1 x.1.2.2.2.1 x.2.1) (fun z => (((), (z.1, z.2.1, (), ()), z.2.2.1, (z.2.2.2.1, z.2.2.2.2.1, (), ()), z.2.2.2.2.2.1, z.2.2.2.2.2.2.1, ()), (z.2.2.2.2.2.2.2, (), (), (), ()))) (fun y => (y.1.2.1.1, y.1.2.1.2.1, y.1.2.2.1, y.1.2.2.2.1.1, y.1.2.2.2.1.2.1, y.1.2.2.2.2.1, y.1.2.2.2.2.2.1, y.2.1)) (fun _ => rfl)
theorem Zx7 (k : Nat) (b1_0 : Int) (b1_1 : Int) (b1_2 : List (Int × Int)) (b2_0 : Int) (b2_1 : Int) (o3 : List (Int × Int)) (v1 : List Int) : ZaO k b1_0 b1_1 b1_2 b2_0 b2_1 o3 v1 = repl 3 (Z5f k b1_0 b1_1 b1_2 b2_0 b2_1 o3 v1) := by
 first
 | (simp only [ZaO, Z5f, Zc, Zf, Za, Z9, Zb, Z8, if_true]; done)
 | (simp only [ZaO, Z5f, Zc, Zf, Za, Z9, Zb, Z8, if_true]; simp only [Z4r, Z4y, Z7x, Z8]; simp only [Z9e]; exact Z5I ⟨fun h => by simp only [h, and_self], fun h => by simp only [h, and_self]⟩)
noncomputable def Z8c : Nat → Int → Int → List (Int × Int) → Int → Int → List (Int × Int) → List Int → List (Int × Int × Int) → List Int → Int → Int → Option (Int × Int × List (Int × Int) × Int × Int × List (Int × Int) × List (Int × Int × Int))
 | 0, _, _, _, _, _, _, _, _, _, _, _ => none
 | k + 1, b1_0, b1_1, o2, b3_0, b3_1, o4, o5, o6, v18, v19, v20 =>
  if decide (v20 < v19) = true then if (0 : Int) ≤ v20 then if v20 < (↑(List.length v18) : Int) then Option.bind (ZgM k (b3_0, b3_1, o4) o5 (List.getD v18 (Int.toNat v20) (0 : Int))) fun z8 => if List.length o6 + List.length [(Prod.fst z8.1, Prod.fst z8.1.2, Prod.snd z8.1.2)] ≤ (140737488355328 / 24 : Nat) then Z8c k b1_0 b1_1 o2 z8.2.1.1 z8.2.1.2.1 z8.2.1.2.2 o5 (o6 ++ [(Prod.fst z8.1, Prod.fst z8.1.2, Prod.snd z8.1.2)]) v18 v19 (wrap64 (v20 + (1 : Int))) else none else none else none else some (b1_0, b1_1, o2, b3_0, b3_1, o4, o6)
noncomputable def Zfr : Spec := Spec.mk [OSh.ro, OSh.box (53 : Nat) [Sh.int .i64, Sh.int .i64, Sh.sl (2 : Nat)], OSh.row true (79 : Nat) (Ty.pair (Ty.int .i64) (Ty.int .i64)), OSh.box (53 : Nat) [Sh.int .i64, Sh.int .i64, Sh.sl (4 : Nat)], OSh.row true (79 : Nat) (Ty.pair (Ty.int .i64) (Ty.int .i64)), OSh.row true (3 : Nat) (Ty.int .i64), OSh.row true (63 : Nat) (Ty.pair (Ty.int .i64) (Ty.pair (Ty.int .i64) (Ty.int .i64)))] [((5 : Nat), TSh.at (Sh.ptr (1 : Nat) (0 : Nat))), ((6 : Nat), TSh.at (Sh.ptr (3 : Nat) (0 : Nat))), ((7 : Nat), TSh.at (Sh.sl (5 : Nat))), ((8 : Nat), TSh.at (Sh.sl (6 : Nat))), ((18 : Nat), TSh.at (Sh.snap (0 : Nat) (Ty.int .i64))), ((19 : Nat), TSh.at (Sh.int .i64)), ((20 : Nat), TSh.at (Sh.int .i64))]
noncomputable def Zyk : Spec := Spec.mk [OSh.ro, OSh.box (53 : Nat) [Sh.int .i64, Sh.int .i64, Sh.sl (2 : Nat)], OSh.row true (79 : Nat) (Ty.pair (Ty.int .i64) (Ty.int .i64)), OSh.box (53 : Nat) [Sh.int .i64, Sh.int .i64, Sh.sl (4 : Nat)], OSh.row true (79 : Nat) (Ty.pair (Ty.int .i64) (Ty.int .i64)), OSh.row true (63 : Nat) (Ty.pair (Ty.int .i64) (Ty.pair (Ty.int .i64) (Ty.int .i64)))] [((5 : Nat), TSh.at (Sh.ptr (1 : Nat) (0 : Nat))), ((6 : Nat), TSh.at (Sh.ptr (3 : Nat) (0 : Nat))), ((8 : Nat), TSh.at (Sh.sl (5 : Nat)))]
noncomputable def Z7j : LoopDef (Tup Z8t × OutD) := .plain Zfr Zyk (Int × Int × List (Int × Int) × Int × Int × List (Int × Int) × List (Int × Int × Int)) (fun k x => Z8c k x.1.2.1.1 x.1.2.1.2.1 x.1.2.2.1 x.1.2.2.2.1.1 x.1.2.2.2.1.2.1 x.1.2.2.2.2.1 x.1.2.2.2.2.2.1 x.1.2.2.2.2.2.2.1 x.2.2.2.2.2.1 x.2.2.2.2.2.2.1 x.2.2.2.2.2.2.2.1) (fun z => (((), (z.1, z.2.1, (), ()), z.2.2.1, (z.2.2.2.1, z.2.2.2.2.1, (), ()), z.2.2.2.2.2.1, z.2.2.2.2.2.2, ()), ((), (), (), ()))) (fun y => (y.1.2.1.1, y.1.2.1.2.1, y.1.2.2.1, y.1.2.2.2.1.1, y.1.2.2.2.1.2.1, y.1.2.2.2.2.1, y.1.2.2.2.2.2.1)) (fun _ => rfl)
noncomputable def Zfl : Nat → Int × Int × List (Int × Int) → List Int → Option (List (Int × Int × Int) × Int × Int × List (Int × Int))
 | 0, _, _ => none
 | k + 1, p0, p1 =>
  Option.bind (Z5f k p0.1 p0.2.1 p0.2.2 (0 : Int) (0 : Int) [] p1) fun z7 => Option.bind (Z8c k z7.1 z7.2.1 z7.2.2.1 z7.2.2.2.1 z7.2.2.2.2.1 z7.2.2.2.2.2.1 z7.2.2.2.2.2.2.1 [] z7.2.2.2.2.2.2.2 (↑(List.length z7.2.2.2.2.2.2.2) : Int) (0 : Int)) fun z9 => some (Prod.snd z9.2.2.2.2.2, Prod.fst z9.2.2.2, Prod.fst z9.2.2.2.2, Prod.fst z9.2.2.2.2.2)
noncomputable def Z6O : FnDef := .of ZrX Z8t (List (Int × Int × Int) × Int × Int × List (Int × Int)) (fun k x => Zfl k x.1 x.2.1) ZpM Zpg ZvV
noncomputable def Zcu : Code := Try.f146.body.getD .skip
noncomputable def Z2q : Ctx (Tup Z8t × OutD) := { T := T, G := [(184, Z3D.E), (185, Z3i.E), (194, Z8b.E)], mvs := [], no := 0, n := 40, res := resOf T ZrX Z8t Try.f146.results.toList, loops := [(0, Z7j.E)], regs := [(1, Z6l.E)], conds := [] }
theorem Zj2 (k : Nat) : EnvOK Try.prog k Z2q.G := (EnvOK.cons (Zfb k) (EnvOK.cons (ZkO k) (EnvOK.cons (ZCD k) (EnvOK.nil mixed))))
noncomputable def Ze6 : Array Oper := (findReg 1 Zcu).getD #[]
theorem ZvE (k : Nat) (x : ZjD.D) : execD Z2q.T Z2q.G Z2q.mvs k Ze6 (Z6l.inp.st Z2q.n x) (outK Z2q Z6l) = ZaO k x.1.2.1.1 x.1.2.1.2.1 x.1.2.1.2.2.1 x.1.2.2.1.1 x.1.2.2.1.2.1 x.1.2.2.2.1 x.2.1 := by kernel_rfl
theorem Zul (k : Nat) : EOK Try.prog Z2q k Z6l.E (.region 1 Ze6 true) := Zan (D := Z6l) (m := 3) T_ok (Zj2 k) (fun x => (ZvE k x).trans (Zx7 k x.1.2.1.1 x.1.2.1.2.1 x.1.2.1.2.2.1 x.1.2.2.1.1 x.1.2.2.1.2.1 x.1.2.2.2.1 x.2.1))
noncomputable def Zc0 : Code := (findLoop 0 Zcu).getD .skip
theorem Zxl (k : Nat) (x : Zfr.D) : Z7j.lp (k + 1) x = loopK Z2q Z7j 0 Zc0 k x := by kernel_rfl
theorem Zxh (k : Nat) : LOK Try.prog Z2q k Zc0 := LOK.by [] (by kernel_rfl) AllOK.nil
theorem ZxS (x : Zfr.D) : Z7j.lp 0 x = none := by kernel_rfl
theorem Zwl (k : Nat) : EOK Try.prog Z2q k Z7j.E (.block 0 (.loop Zc0)) := Zp T_ok Zj2 ZxS Zxl Zxh k
theorem ZBg (k : Nat) (x : Tup Z6O.ps) : Z6O.f (k + 1) x = fnK Z6O Z2q Zcu k x := by kernel_rfl
theorem ZAT (x : Tup Z6O.ps) : Z6O.f 0 x = none := by kernel_rfl
theorem ZAQ (k : Nat) : LOK Try.prog Z2q k Zcu := LOK.by [(Z6l.E, .region 1 Ze6 true), (Z7j.E, .block 0 (.loop Zc0))] (by kernel_rfl) (AllOK.cons (Zul k) (AllOK.cons (Zwl k) AllOK.nil))
theorem ZB7 (k : Nat) : SoundAt Try.prog k 146 Z6O.E := @Ze Try.prog Z6O Z2q 146 Try.f146 Zcu (by kernel_rfl) (by kernel_rfl) (by kernel_rfl) Try.func146 (by kernel_rfl) (by kernel_rfl) (by kernel_rfl) T_ok Zj2 ZAQ ZAT ZBg k
noncomputable def Z2l : List PK := [PK.mk (Ty.slice (77 : Nat) (Ty.pair (Ty.int .i64) (Ty.pair (Ty.int .i64) (Ty.int .i64)))) false none false none]
noncomputable def Zew : List PK := [PK.mk (Ty.pair (Ty.int .i64) (Ty.pair (Ty.int .i64) (Ty.slice (79 : Nat) (Ty.pair (Ty.int .i64) (Ty.int .i64))))) true none false none]
noncomputable def Zdx (r : List (Int × Int × Int)) : Tup Z2l × OutD := ((r, ()), none)
noncomputable def ZdH : Tup Z2l × OutD → Option (List (Int × Int × Int))
 | (a, none) => some (a.1)
 | _ => none
theorem Ziw : ∀ b r, ZdH b = some r → Zdx r = b := by
 rintro ⟨a, o⟩ r h
 cases o with
 | none => injection h with h; subst h; rfl
 | some _ => cases h
noncomputable def Z16 : Nat → Int → Int → List (Int × Int) → List (Int × Int × Int) → Int → Int → Int → Int → List (Int × Int) → Int → Int → Option (Int × Int × List (Int × Int) × List (Int × Int × Int) × List (Int × Int) × Int × Int)
 | 0, _, _, _, _, _, _, _, _, _, _, _ => none
 | k + 1, b1_0, b1_1, b1_2, o2, b3_0, b3_1, v4, v6, v9, v10, v11 =>
  if decide (v6 ≤ (3 : Int)) = true then Option.bind (ZaE k (b3_0, b3_1) v6) fun z0 => if z0 = true then if b1_1 = (0 : Int) then none else if b1_1 = (0 : Int) then none else if List.length o2 + List.length [(v6, wrap64 (Int.tdiv v4 b1_1), Int.tmod v4 b1_1)] ≤ (140737488355328 / 24 : Nat) then Z16 k b1_0 b1_1 b1_2 (o2 ++ [(v6, wrap64 (Int.tdiv v4 b1_1), Int.tmod v4 b1_1)]) b3_0 b3_1 v4 (wrap64 (v6 + (1 : Int))) v9 v10 v11 else none else Z16 k b1_0 b1_1 b1_2 o2 b3_0 b3_1 v4 (wrap64 (v6 + (1 : Int))) v9 v10 v11 else some (b1_0, b1_1, b1_2, o2, v9, v10, v11)
noncomputable def Z8A : Spec := Spec.mk [OSh.ro, OSh.box (53 : Nat) [Sh.int .i64, Sh.int .i64, Sh.snap (0 : Nat) (Ty.pair (Ty.int .i64) (Ty.int .i64))], OSh.row true (77 : Nat) (Ty.pair (Ty.int .i64) (Ty.pair (Ty.int .i64) (Ty.int .i64))), OSh.box (79 : Nat) [Sh.int .i64, Sh.int .i64]] [((1 : Nat), TSh.at (Sh.ptr (1 : Nat) (0 : Nat))), ((3 : Nat), TSh.at (Sh.sl (2 : Nat))), ((4 : Nat), TSh.at (Sh.int .i64)), ((5 : Nat), TSh.at (Sh.ptr (3 : Nat) (0 : Nat))), ((6 : Nat), TSh.at (Sh.int .i64)), ((9 : Nat), TSh.at (Sh.snap (0 : Nat) (Ty.pair (Ty.int .i64) (Ty.int .i64)))), ((10 : Nat), TSh.at (Sh.int .i64)), ((11 : Nat), TSh.at (Sh.int .i64))]
noncomputable def ZiU : Spec := Spec.mk [OSh.ro, OSh.box (53 : Nat) [Sh.int .i64, Sh.int .i64, Sh.snap (0 : Nat) (Ty.pair (Ty.int .i64) (Ty.int .i64))], OSh.row true (77 : Nat) (Ty.pair (Ty.int .i64) (Ty.pair (Ty.int .i64) (Ty.int .i64)))] [((1 : Nat), TSh.at (Sh.ptr (1 : Nat) (0 : Nat))), ((3 : Nat), TSh.at (Sh.sl (2 : Nat))), ((9 : Nat), TSh.at (Sh.snap (0 : Nat) (Ty.pair (Ty.int .i64) (Ty.int .i64)))), ((10 : Nat), TSh.at (Sh.int .i64)), ((11 : Nat), TSh.at (Sh.int .i64))]
noncomputable def Z2m : LoopDef (Tup Z2l × OutD) := .plain Z8A ZiU (Int × Int × List (Int × Int) × List (Int × Int × Int) × List (Int × Int) × Int × Int) (fun k x => Z16 k x.1.2.1.1 x.1.2.1.2.1 x.1.2.1.2.2.1 x.1.2.2.1 x.1.2.2.2.1.1 x.1.2.2.2.1.2.1 x.2.2.2.1 x.2.2.2.2.2.1 x.2.2.2.2.2.2.1 x.2.2.2.2.2.2.2.1 x.2.2.2.2.2.2.2.2.1) (fun z => (((), (z.1, z.2.1, z.2.2.1, ()), z.2.2.2.1, ()), ((), (), z.2.2.2.2.1, z.2.2.2.2.2.1, z.2.2.2.2.2.2, ()))) (fun y => (y.1.2.1.1, y.1.2.1.2.1, y.1.2.1.2.2.1, y.1.2.2.1, y.2.2.2.1, y.2.2.2.2.1, y.2.2.2.2.2.1)) (fun _ => rfl)
noncomputable def Z1P : Nat → Int → Int → List (Int × Int) → List (Int × Int × Int) → List (Int × Int) → Int → Int → Option (List (Int × Int × Int))
 | 0, _, _, _, _, _, _, _ => none
 | k + 1, b1_0, b1_1, b1_2, o2, v9, v10, v11 =>
  if decide (v11 < v10) = true then if (0 : Int) ≤ v11 then if v11 < (↑(List.length v9) : Int) then Option.bind (Z16 k b1_0 b1_1 b1_2 o2 (Prod.fst (List.getD v9 (Int.toNat v11) ((0 : Int), (0 : Int)))) (Prod.snd (List.getD v9 (Int.toNat v11) ((0 : Int), (0 : Int)))) v11 (1 : Int) v9 v10 v11) fun z1 => Z1P k z1.1 z1.2.1 z1.2.2.1 z1.2.2.2.1 z1.2.2.2.2.1 z1.2.2.2.2.2.1 (wrap64 (Prod.snd z1.2.2.2.2.2 + (1 : Int))) else none else none else some o2
noncomputable def Z8z : Spec := Spec.mk [OSh.ro, OSh.box (53 : Nat) [Sh.int .i64, Sh.int .i64, Sh.snap (0 : Nat) (Ty.pair (Ty.int .i64) (Ty.int .i64))], OSh.row true (77 : Nat) (Ty.pair (Ty.int .i64) (Ty.pair (Ty.int .i64) (Ty.int .i64)))] [((1 : Nat), TSh.at (Sh.ptr (1 : Nat) (0 : Nat))), ((3 : Nat), TSh.at (Sh.sl (2 : Nat))), ((9 : Nat), TSh.at (Sh.snap (0 : Nat) (Ty.pair (Ty.int .i64) (Ty.int .i64)))), ((10 : Nat), TSh.at (Sh.int .i64)), ((11 : Nat), TSh.at (Sh.int .i64))]
noncomputable def ZiZ : Spec := Spec.mk [OSh.ro, OSh.row true (77 : Nat) (Ty.pair (Ty.int .i64) (Ty.pair (Ty.int .i64) (Ty.int .i64)))] [((3 : Nat), TSh.at (Sh.sl (1 : Nat)))]
noncomputable def Z2p : LoopDef (Tup Z2l × OutD) := .plain Z8z ZiZ (List (Int × Int × Int)) (fun k x => Z1P k x.1.2.1.1 x.1.2.1.2.1 x.1.2.1.2.2.1 x.1.2.2.1 x.2.2.2.1 x.2.2.2.2.1 x.2.2.2.2.2.1) (fun z => (((), z, ()), ((), ()))) (fun y => (y.1.2.1)) (fun _ => rfl)
noncomputable def Z3w : Nat → Int × Int × List (Int × Int) → Option (List (Int × Int × Int))
 | 0, _ => none
 | k + 1, p0 =>
  Option.bind (Z1P k p0.1 p0.2.1 p0.2.2 [] p0.2.2 (↑(List.length p0.2.2) : Int) (0 : Int)) fun z2 => some z2
noncomputable def Z13 : FnDef := .of Zew Z2l (List (Int × Int × Int)) (fun k x => Z3w k x.1) Zdx ZdH Ziw
noncomputable def Z4V : Code := Try.f147.body.getD .skip
noncomputable def Z14 : Ctx (Tup Z2l × OutD) := { T := T, G := [(181, Z3W.E)], mvs := [], no := 0, n := 38, res := resOf T Zew Z2l Try.f147.results.toList, loops := [(2, Z2m.E), (0, Z2p.E)], regs := [], conds := [] }
theorem Zax (k : Nat) : EnvOK Try.prog k Z14.G := (EnvOK.cons (ZmL k) (EnvOK.nil mixed))
noncomputable def Z5g : Code := (findLoop 2 Z4V).getD .skip
theorem Zjl (k : Nat) (x : Z8A.D) : Z2m.lp (k + 1) x = loopK Z14 Z2m 2 Z5g k x := by kernel_rfl
theorem ZjP (k : Nat) : LOK Try.prog Z14 k Z5g := LOK.by [] (by kernel_rfl) AllOK.nil
theorem ZjW (x : Z8A.D) : Z2m.lp 0 x = none := by kernel_rfl
theorem ZiM (k : Nat) : EOK Try.prog Z14 k Z2m.E (.block 2 (.loop Z5g)) := Zp T_ok Zax ZjW Zjl ZjP k
noncomputable def Z5k : Code := (findLoop 0 Z4V).getD .skip
theorem Zje (k : Nat) (x : Z8z.D) : Z2p.lp (k + 1) x = loopK Z14 Z2p 0 Z5k k x := by kernel_rfl
theorem Zjy (k : Nat) : LOK Try.prog Z14 k Z5k := LOK.by [(Z2m.E, .block 2 (.loop Z5g))] (by kernel_rfl) (AllOK.cons (ZiM k) AllOK.nil)
theorem Zk1 (x : Z8z.D) : Z2p.lp 0 x = none := by kernel_rfl
theorem ZiG (k : Nat) : EOK Try.prog Z14 k Z2p.E (.block 0 (.loop Z5k)) := Zp T_ok Zax Zk1 Zje Zjy k
theorem ZmB (k : Nat) (x : Tup Z13.ps) : Z13.f (k + 1) x = fnK Z13 Z14 Z4V k x := by kernel_rfl
theorem Znr (x : Tup Z13.ps) : Z13.f 0 x = none := by kernel_rfl
theorem ZnN (k : Nat) : LOK Try.prog Z14 k Z4V := LOK.by [(Z2p.E, .block 0 (.loop Z5k))] (by kernel_rfl) (AllOK.cons (ZiG k) AllOK.nil)
theorem Zau (k : Nat) : SoundAt Try.prog k 147 Z13.E := @Ze Try.prog Z13 Z14 147 Try.f147 Z4V (by kernel_rfl) (by kernel_rfl) (by kernel_rfl) Try.func147 (by kernel_rfl) (by kernel_rfl) (by kernel_rfl) T_ok Zax ZnN Znr ZmB k
noncomputable def Zaq : List PK := [PK.mk Ty.bool false none false none]
noncomputable def Znb : List PK := [PK.mk (Ty.pair (Ty.int .i64) (Ty.pair (Ty.int .i64) (Ty.slice (79 : Nat) (Ty.pair (Ty.int .i64) (Ty.int .i64))))) true none false none, PK.mk (Ty.int .i64) false none false none, PK.mk (Ty.int .i64) false none false none]
noncomputable def Zl6 (r : Bool) : Tup Zaq × OutD := ((r, ()), none)
noncomputable def ZkS : Tup Zaq × OutD → Option (Bool)
 | (a, none) => some (a.1)
 | _ => none
theorem ZrD : ∀ b r, ZkS b = some r → Zl6 r = b := by
 rintro ⟨a, o⟩ r h
 cases o with
 | none => injection h with h; subst h; rfl
 | some _ => cases h
noncomputable def ZcT : Nat → Int × Int × List (Int × Int) → Int → Int → Option Bool
 | 0, _, _, _ => none
 | k + 1, p0, p1, p2 =>
  Option.bind (Z8h k (Prod.fst p0, Prod.fst p0.2, Prod.snd p0.2)) fun z0 => if z0 = true then if decide (p1 ≥ (0 : Int)) = true then if decide (p1 < Prod.fst p0) = true then if decide (p2 ≥ (0 : Int)) = true then some (decide (p2 < Prod.fst p0.2)) else some false else some false else some false else some false
noncomputable def Z50 : FnDef := .of Znb Zaq (Bool) (fun k x => ZcT k x.1 x.2.1 x.2.2.1) Zl6 ZkS ZrD
noncomputable def Zgv : Code := Try.f180.body.getD .skip
noncomputable def ZcX : Ctx (Tup Zaq × OutD) := { T := T, G := [(132, Z2X.E)], mvs := [], no := 0, n := 29, res := resOf T Znb Zaq Try.f180.results.toList, loops := [], regs := [], conds := [] }
theorem Zzp (k : Nat) : EnvOK Try.prog k ZcX.G := (EnvOK.cons (ZgC k) (EnvOK.nil mixed))
theorem ZyR (k : Nat) (x : Tup Z50.ps) : Z50.f (k + 1) x = fnK Z50 ZcX Zgv k x := by kernel_rfl
theorem ZyT (x : Tup Z50.ps) : Z50.f 0 x = none := by kernel_rfl
theorem Zzb (k : Nat) : LOK Try.prog ZcX k Zgv := LOK.by [] (by kernel_rfl) AllOK.nil
theorem Zza (k : Nat) : SoundAt Try.prog k 180 Z50.E := @Ze Try.prog Z50 ZcX 180 Try.f180 Zgv (by kernel_rfl) (by kernel_rfl) (by kernel_rfl) Try.func180 (by kernel_rfl) (by kernel_rfl) (by kernel_rfl) T_ok Zzp Zzb ZyT ZyR k
noncomputable def Zas : List PK := [PK.mk Ty.bool false none false none]
noncomputable def ZnW : List PK := [PK.mk (Ty.pair (Ty.int .i64) (Ty.pair (Ty.int .i64) (Ty.slice (79 : Nat) (Ty.pair (Ty.int .i64) (Ty.int .i64))))) true none false none]
noncomputable def Zl8 (r : Bool) : Tup Zas × OutD := ((r, ()), none)
noncomputable def ZkK : Tup Zas × OutD → Option (Bool)
 | (a, none) => some (a.1)
 | _ => none
theorem Zsf : ∀ b r, ZkK b = some r → Zl8 r = b := by
 rintro ⟨a, o⟩ r h
 cases o with
 | none => injection h with h; subst h; rfl
 | some _ => cases h
noncomputable def Zd0 : Nat → Int × Int × List (Int × Int) → Option Bool
 | 0, _ => none
 | k + 1, p0 =>
  Option.bind (Z7o k (Prod.fst p0, Prod.fst p0.2, Prod.snd p0.2)) fun z0 => if z0 = true then some (decide ((↑(List.length p0.2.2) : Int) ≤ (24 : Int))) else some false
noncomputable def Z4R : FnDef := .of ZnW Zas (Bool) (fun k x => Zd0 k x.1) Zl8 ZkK Zsf
noncomputable def Zgs : Code := Try.f195.body.getD .skip
noncomputable def ZcZ : Ctx (Tup Zas × OutD) := { T := T, G := [(133, Z2M.E)], mvs := [], no := 0, n := 11, res := resOf T ZnW Zas Try.f195.results.toList, loops := [], regs := [], conds := [] }
theorem ZyV (k : Nat) : EnvOK Try.prog k ZcZ.G := (EnvOK.cons (ZdT k) (EnvOK.nil mixed))
theorem ZyM (k : Nat) (x : Tup Z4R.ps) : Z4R.f (k + 1) x = fnK Z4R ZcZ Zgs k x := by kernel_rfl
theorem ZyS (x : Tup Z4R.ps) : Z4R.f 0 x = none := by kernel_rfl
theorem ZyE (k : Nat) : LOK Try.prog ZcZ k Zgs := LOK.by [] (by kernel_rfl) AllOK.nil
theorem ZyH (k : Nat) : SoundAt Try.prog k 195 Z4R.E := @Ze Try.prog Z4R ZcZ 195 Try.f195 Zgs (by kernel_rfl) (by kernel_rfl) (by kernel_rfl) Try.func195 (by kernel_rfl) (by kernel_rfl) (by kernel_rfl) T_ok ZyV ZyE ZyS ZyM k
noncomputable def Z3Z : List PK := [PK.mk (Ty.pair (Ty.int .i64) (Ty.pair (Ty.int .i64) (Ty.slice (79 : Nat) (Ty.pair (Ty.int .i64) (Ty.int .i64))))) true none false none]
noncomputable def ZeX : List PK := [PK.mk (Ty.pair (Ty.slice (5 : Nat) (Ty.int .u8)) (Ty.pair (Ty.int .i64) (Ty.int .u64))) false none false (some (114 : Nat)), PK.mk (Ty.int .i64) false none false none, PK.mk (Ty.int .i64) false none false none]
noncomputable def ZeB (r : (Int × Int × List (Int × Int)) × Int × Int) : Tup Z3Z × OutD := ((r.1, ()), some ⟨Ty.pair (Ty.slice (5 : Nat) (Ty.int .u8)) (Ty.pair (Ty.int .i64) (Ty.int .u64)), [([], r.2)]⟩)
noncomputable def Zag : Tup Z3Z × OutD → Option ((Int × Int × List (Int × Int)) × Int × Int)
 | (a, some ⟨u, ys⟩) => if h : u = Ty.pair (Ty.slice (5 : Nat) (Ty.int .u8)) (Ty.pair (Ty.int .i64) (Ty.int .u64)) then (match castU h ys with
  | [([], y)] => some (a.1, y)
  | _ => none) else none
 | _ => none
theorem ZjN : ∀ b r, Zag b = some r → ZeB r = b := by
 rintro ⟨a, o⟩ r h
 cases o with
 | none => cases h
 | some s =>
  obtain ⟨u, ys⟩ := s
  simp only [Zag] at h
  split at h
  ·rename_i hu
   subst hu
   match ys, h with
   | [], h => cases (show (none : Option _) = some r from h)
   | [([], y)], h => injection (show some _ = some r from h) with h; subst h; rfl
   | [(_ :: _, y)], h => cases (show (none : Option _) = some r from h)
   | (h1, _) :: _ :: _, h => cases h1 <;> cases (show (none : Option _) = some r from h)
  ·cases h
noncomputable def Zk : Nat → Int → Int → List Int → Int → Int → List (Int × Int) → Int → Int → List (Int × Int) → Int → Int → Int → Option (Int × Int × List Int × Int × Int × List (Int × Int) × Int × Int × List (Int × Int))
 | 0, _, _, _, _, _, _, _, _, _, _, _, _ => none
 | k + 1, b1_1, b1_2, o2, b3_0, b3_1, o4, b5_0, b5_1, o6, v1, v2, v8 =>
  if decide ((↑(List.length o6) : Int) < wrap64 (v1 * v2)) = true then Option.bind (Z19 k (o2, b1_1, b1_2) v8) fun z1 => if Prod.fst z1 = true then Option.bind (Z4a k (o2, Prod.fst z1.2, Prod.snd z1.2)) fun z2 => if decide (Prod.fst z2.1 = (5 : Int)) = true then Option.bind (Z19 k (o2, Prod.fst z2.2, Prod.snd z2.2) (3 : Int)) fun z3 => if (!Prod.fst z3) = true then Option.bind (Z2 k (o2, Prod.fst z3.2, Prod.snd z3.2) (2 : Int)) fun z4 => if List.length o6 + List.length [((3 : Int), Prod.fst z4)] ≤ (140737488355328 / 16 : Nat) then Zk k z4.2.1 z4.2.2 o2 b3_0 b3_1 o4 b5_0 b5_1 (o6 ++ [((3 : Int), Prod.fst z4)]) v1 v2 v8 else none else if List.length o6 + List.length [(Prod.fst z2.1, Prod.snd z2.1)] ≤ (140737488355328 / 16 : Nat) then Zk k z3.2.1 z3.2.2 o2 b3_0 b3_1 o4 b5_0 b5_1 (o6 ++ [(Prod.fst z2.1, Prod.snd z2.1)]) v1 v2 v8 else none else if List.length o6 + List.length [(Prod.fst z2.1, Prod.snd z2.1)] ≤ (140737488355328 / 16 : Nat) then Zk k z2.2.1 z2.2.2 o2 b3_0 b3_1 o4 b5_0 b5_1 (o6 ++ [(Prod.fst z2.1, Prod.snd z2.1)]) v1 v2 v8 else none else Option.bind (Z19 k (o2, Prod.fst z1.2, Prod.snd z1.2) (3 : Int)) fun z5 => if Prod.fst z5 = true then Option.bind (Z4a k (o2, Prod.fst z5.2, Prod.snd z5.2)) fun z6 => if decide (Prod.fst z6.1 = (5 : Int)) = true then Option.bind (Z19 k (o2, Prod.fst z6.2, Prod.snd z6.2) (3 : Int)) fun z7 => if (!Prod.fst z7) = true then Option.bind (Z2 k (o2, Prod.fst z7.2, Prod.snd z7.2) (2 : Int)) fun z8 => if List.length o6 + List.length [((3 : Int), Prod.fst z8)] ≤ (140737488355328 / 16 : Nat) then Zk k z8.2.1 z8.2.2 o2 b3_0 b3_1 o4 b5_0 b5_1 (o6 ++ [((3 : Int), Prod.fst z8)]) v1 v2 v8 else none else if List.length o6 + List.length [(Prod.fst z6.1, Prod.snd z6.1)] ≤ (140737488355328 / 16 : Nat) then Zk k z7.2.1 z7.2.2 o2 b3_0 b3_1 o4 b5_0 b5_1 (o6 ++ [(Prod.fst z6.1, Prod.snd z6.1)]) v1 v2 v8 else none else if List.length o6 + List.length [(Prod.fst z6.1, Prod.snd z6.1)] ≤ (140737488355328 / 16 : Nat) then Zk k z6.2.1 z6.2.2 o2 b3_0 b3_1 o4 b5_0 b5_1 (o6 ++ [(Prod.fst z6.1, Prod.snd z6.1)]) v1 v2 v8 else none else if List.length o6 + List.length [((0 : Int), (0 : Int))] ≤ (140737488355328 / 16 : Nat) then Zk k z5.2.1 z5.2.2 o2 b3_0 b3_1 o4 b5_0 b5_1 (o6 ++ [((0 : Int), (0 : Int))]) v1 v2 v8 else none else some (b1_1, b1_2, o2, b3_0, b3_1, o4, b5_0, b5_1, o6)
noncomputable def Z90 : Spec := Spec.mk [OSh.ro, OSh.box (114 : Nat) [Sh.sl (2 : Nat), Sh.int .i64, Sh.int .u64], OSh.fx (Ty.int .u8), OSh.box (53 : Nat) [Sh.int .i64, Sh.int .i64, Sh.sl (4 : Nat)], OSh.row true (79 : Nat) (Ty.pair (Ty.int .i64) (Ty.int .i64)), OSh.box (53 : Nat) [Sh.int .i64, Sh.int .i64, Sh.sl (6 : Nat)], OSh.row true (79 : Nat) (Ty.pair (Ty.int .i64) (Ty.int .i64))] [((0 : Nat), TSh.at (Sh.ptr (1 : Nat) (0 : Nat))), ((1 : Nat), TSh.at (Sh.int .i64)), ((2 : Nat), TSh.at (Sh.int .i64)), ((6 : Nat), TSh.at (Sh.ptr (3 : Nat) (0 : Nat))), ((7 : Nat), TSh.at (Sh.ptr (5 : Nat) (0 : Nat))), ((8 : Nat), TSh.at (Sh.int .i64))]
noncomputable def Zkn : Spec := Spec.mk [OSh.ro, OSh.box (114 : Nat) [Sh.sl (2 : Nat), Sh.int .i64, Sh.int .u64], OSh.fx (Ty.int .u8), OSh.box (53 : Nat) [Sh.int .i64, Sh.int .i64, Sh.sl (4 : Nat)], OSh.row true (79 : Nat) (Ty.pair (Ty.int .i64) (Ty.int .i64)), OSh.box (53 : Nat) [Sh.int .i64, Sh.int .i64, Sh.sl (6 : Nat)], OSh.row true (79 : Nat) (Ty.pair (Ty.int .i64) (Ty.int .i64))] [((6 : Nat), TSh.at (Sh.ptr (3 : Nat) (0 : Nat))), ((7 : Nat), TSh.at (Sh.ptr (5 : Nat) (0 : Nat)))]
noncomputable def Z2C : LoopDef (Tup Z3Z × OutD) := .plain Z90 Zkn (Int × Int × List Int × Int × Int × List (Int × Int) × Int × Int × List (Int × Int)) (fun k x => Zk k x.1.2.1.2.1 x.1.2.1.2.2.1 x.1.2.2.1 x.1.2.2.2.1.1 x.1.2.2.2.1.2.1 x.1.2.2.2.2.1 x.1.2.2.2.2.2.1.1 x.1.2.2.2.2.2.1.2.1 x.1.2.2.2.2.2.2.1 x.2.2.1 x.2.2.2.1 x.2.2.2.2.2.2.1) (fun z => (((), ((), z.1, z.2.1, ()), z.2.2.1, (z.2.2.2.1, z.2.2.2.2.1, (), ()), z.2.2.2.2.2.1, (z.2.2.2.2.2.2.1, z.2.2.2.2.2.2.2.1, (), ()), z.2.2.2.2.2.2.2.2, ()), ((), (), ()))) (fun y => (y.1.2.1.2.1, y.1.2.1.2.2.1, y.1.2.2.1, y.1.2.2.2.1.1, y.1.2.2.2.1.2.1, y.1.2.2.2.2.1, y.1.2.2.2.2.2.1.1, y.1.2.2.2.2.2.1.2.1, y.1.2.2.2.2.2.2.1)) (fun _ => rfl)
noncomputable def Z1W : Nat → List Int × Int × Int → Int → Int → Option ((Int × Int × List (Int × Int)) × Int × Int)
 | 0, _, _, _ => none
 | k + 1, p0, p1, p2 =>
  Option.bind (Zg k (Prod.fst p0, Prod.fst p0.2, Prod.snd p0.2) [(1 : Int), (2 : Int), (2 : Int)]) fun z0 => Option.bind (Zk k z0.2.1 z0.2.2 p0.1 (0 : Int) (0 : Int) [] p1 p2 [] p1 p2 z0.1) fun z9 => some ((Prod.fst z9.2.2.2.2.2.2, Prod.fst z9.2.2.2.2.2.2.2, Prod.snd z9.2.2.2.2.2.2.2), Prod.fst z9, Prod.fst z9.2)
noncomputable def Z1l : FnDef := .of ZeX Z3Z ((Int × Int × List (Int × Int)) × Int × Int) (fun k x => Z1W k x.1 x.2.1 x.2.2.1) ZeB Zag ZjN
noncomputable def Z7Y : Code := Try.f197.body.getD .skip
noncomputable def Z2J : Ctx (Tup Z3Z × OutD) := { T := T, G := [(90, Z11.E), (150, Z1v.E), (205, Z2e.E), (111, ZJ.E)], mvs := [], no := 2, n := 51, res := resOf T ZeX Z3Z Try.f197.results.toList, loops := [(0, Z2C.E)], regs := [], conds := [] }
theorem Zf6 (k : Nat) : EnvOK Try.prog k Z2J.G := (EnvOK.cons (Z6M k) (EnvOK.cons (Zb3 k) (EnvOK.cons (Zi1 k) (EnvOK.cons (Z2Y k) (EnvOK.nil mixed)))))
noncomputable def Z5O : Code := (findLoop 0 Z7Y).getD .skip
theorem Zkd (k : Nat) (x : Z90.D) : Z2C.lp (k + 1) x = loopK Z2J Z2C 0 Z5O k x := by kernel_rfl
theorem ZkC (k : Nat) : LOK Try.prog Z2J k Z5O := LOK.by [] (by kernel_rfl) AllOK.nil
theorem ZkB (x : Z90.D) : Z2C.lp 0 x = none := by kernel_rfl
theorem Zjk (k : Nat) : EOK Try.prog Z2J k Z2C.E (.block 0 (.loop Z5O)) := Zp T_ok Zf6 ZkB Zkd ZkC k
theorem Zoi (k : Nat) (x : Tup Z1l.ps) : Z1l.f (k + 1) x = fnK Z1l Z2J Z7Y k x := by kernel_rfl
theorem ZoH (x : Tup Z1l.ps) : Z1l.f 0 x = none := by kernel_rfl
theorem Zoq (k : Nat) : LOK Try.prog Z2J k Z7Y := LOK.by [(Z2C.E, .block 0 (.loop Z5O))] (by kernel_rfl) (AllOK.cons (Zjk k) AllOK.nil)
theorem ZeL (k : Nat) : SoundAt Try.prog k 197 Z1l.E := @Ze Try.prog Z1l Z2J 197 Try.f197 Z7Y (by kernel_rfl) (by kernel_rfl) (by kernel_rfl) Try.func197 (by kernel_rfl) (by kernel_rfl) (by kernel_rfl) T_ok Zf6 Zoq ZoH Zoi k
noncomputable def Z5b : List PK := [PK.mk (Ty.pair (Ty.int .i64) (Ty.int .i64)) true none false none]
noncomputable def ZeP : List PK := [PK.mk (Ty.pair (Ty.slice (5 : Nat) (Ty.int .u8)) (Ty.pair (Ty.int .i64) (Ty.int .u64))) false none false (some (114 : Nat))]
noncomputable def ZeD (r : (Int × Int) × Int × Int) : Tup Z5b × OutD := ((r.1, ()), some ⟨Ty.pair (Ty.slice (5 : Nat) (Ty.int .u8)) (Ty.pair (Ty.int .i64) (Ty.int .u64)), [([], r.2)]⟩)
noncomputable def Zav : Tup Z5b × OutD → Option ((Int × Int) × Int × Int)
 | (a, some ⟨u, ys⟩) => if h : u = Ty.pair (Ty.slice (5 : Nat) (Ty.int .u8)) (Ty.pair (Ty.int .i64) (Ty.int .u64)) then (match castU h ys with
  | [([], y)] => some (a.1, y)
  | _ => none) else none
 | _ => none
theorem Zjs : ∀ b r, Zav b = some r → ZeD r = b := by
 rintro ⟨a, o⟩ r h
 cases o with
 | none => cases h
 | some s =>
  obtain ⟨u, ys⟩ := s
  simp only [Zav] at h
  split at h
  ·rename_i hu
   subst hu
   match ys, h with
   | [], h => cases (show (none : Option _) = some r from h)
   | [([], y)], h => injection (show some _ = some r from h) with h; subst h; rfl
   | [(_ :: _, y)], h => cases (show (none : Option _) = some r from h)
   | (h1, _) :: _ :: _, h => cases h1 <;> cases (show (none : Option _) = some r from h)
  ·cases h
noncomputable def Z1p : Nat → List Int × Int × Int → Option ((Int × Int) × Int × Int)
 | 0, _ => none
 | k + 1, p0 =>
  Option.bind (Z4a k (Prod.fst p0, Prod.fst p0.2, Prod.snd p0.2)) fun z0 => Option.bind (Z2 k (Prod.fst p0, Prod.fst z0.2, Prod.snd z0.2) (20 : Int)) fun z1 => if decide (Prod.fst z1 = (0 : Int)) = true then Option.bind (Zg k (Prod.fst p0, Prod.fst z1.2, Prod.snd z1.2) [(-1 : Int), (8 : Int)]) fun z2 => some ((Prod.fst z2, Prod.snd z0.1), Prod.fst z2.2, Prod.snd z2.2) else if decide (Prod.fst z1 = (1 : Int)) = true then Option.bind (Zg k (Prod.fst p0, Prod.fst z1.2, Prod.snd z1.2) [(-1 : Int), (1 : Int), (2 : Int)]) fun z3 => some ((Prod.fst z0.1, Prod.fst z3), Prod.fst z3.2, Prod.snd z3.2) else some ((Prod.fst z0.1, Prod.snd z0.1), Prod.fst z1.2, Prod.snd z1.2)
noncomputable def Z1X : FnDef := .of ZeP Z5b ((Int × Int) × Int × Int) (fun k x => Z1p k x.1) ZeD Zav Zjs
noncomputable def Zb5 : Code := Try.f203.body.getD .skip
noncomputable def Z7W : Ctx (Tup Z5b × OutD) := { T := T, G := [(205, Z2e.E), (111, ZJ.E), (90, Z11.E)], mvs := [], no := 2, n := 21, res := resOf T ZeP Z5b Try.f203.results.toList, loops := [], regs := [], conds := [] }
theorem ZoZ (k : Nat) : EnvOK Try.prog k Z7W.G := (EnvOK.cons (Zi1 k) (EnvOK.cons (Z2Y k) (EnvOK.cons (Z6M k) (EnvOK.nil mixed))))
theorem Zo2 (k : Nat) (x : Tup Z1X.ps) : Z1X.f (k + 1) x = fnK Z1X Z7W Zb5 k x := by kernel_rfl
theorem ZoQ (x : Tup Z1X.ps) : Z1X.f 0 x = none := by kernel_rfl
theorem Zoc (k : Nat) : LOK Try.prog Z7W k Zb5 := LOK.by [] (by kernel_rfl) AllOK.nil
theorem ZoB (k : Nat) : SoundAt Try.prog k 203 Z1X.E := @Ze Try.prog Z1X Z7W 203 Try.f203 Zb5 (by kernel_rfl) (by kernel_rfl) (by kernel_rfl) Try.func203 (by kernel_rfl) (by kernel_rfl) (by kernel_rfl) T_ok ZoZ Zoc ZoQ Zo2 k
end
end Go.Proofs.Ytgjmhbjdhihgaaa.Vs

set_option maxRecDepth 100000
set_option maxHeartbeats 2000000
set_option linter.unusedVariables false
set_option linter.unusedSimpArgs false
namespace Go.Proofs.Ytgjmhbjdhihgaaa.Vs
open Go.RowKit
noncomputable section
noncomputable def Z51 : List PK := [PK.mk (Ty.slice (77 : Nat) (Ty.pair (Ty.int .i64) (Ty.pair (Ty.int .i64) (Ty.int .i64)))) false none false none, PK.mk Ty.bool false none false none]
noncomputable def Zev : List PK := [PK.mk (Ty.pair (Ty.int .i64) (Ty.pair (Ty.int .i64) (Ty.slice (79 : Nat) (Ty.pair (Ty.int .i64) (Ty.int .i64))))) true none false none]
noncomputable def ZdF (r : List (Int × Int × Int) × Bool) : Tup Z51 × OutD := ((r.1, r.2, ()), none)
noncomputable def ZdK : Tup Z51 × OutD → Option (List (Int × Int × Int) × Bool)
 | (a, none) => some (a.1, a.2.1)
 | _ => none
theorem Ziu : ∀ b r, ZdK b = some r → ZdF r = b := by
 rintro ⟨a, o⟩ r h
 cases o with
 | none => injection h with h; subst h; rfl
 | some _ => cases h
noncomputable def Z74 : Nat → Int × Int × List (Int × Int) → Option (List (Int × Int × Int) × Bool)
 | 0, _ => none
 | k + 1, p0 =>
  Option.bind (Z8h k (Prod.fst p0, Prod.fst p0.2, Prod.snd p0.2)) fun z0 => if (!z0) = true then some ([], false) else Option.bind (Z3w k (Prod.fst p0, Prod.fst p0.2, Prod.snd p0.2)) fun z1 => some (z1, true)
noncomputable def Z1K : FnDef := .of Zev Z51 (List (Int × Int × Int) × Bool) (fun k x => Z74 k x.1) ZdF ZdK Ziu
noncomputable def Zaz : Code := Try.f65.body.getD .skip
noncomputable def Z7f : Ctx (Tup Z51 × OutD) := { T := T, G := [(132, Z2X.E), (147, Z13.E)], mvs := [], no := 0, n := 9, res := resOf T Zev Z51 Try.f65.results.toList, loops := [], regs := [], conds := [] }
theorem ZmJ (k : Nat) : EnvOK Try.prog k Z7f.G := (EnvOK.cons (ZgC k) (EnvOK.cons (Zau k) (EnvOK.nil mixed)))
theorem ZnI (k : Nat) (x : Tup Z1K.ps) : Z1K.f (k + 1) x = fnK Z1K Z7f Zaz k x := by kernel_rfl
theorem Zmu (x : Tup Z1K.ps) : Z1K.f 0 x = none := by kernel_rfl
theorem ZnD (k : Nat) : LOK Try.prog Z7f k Zaz := LOK.by [] (by kernel_rfl) AllOK.nil
theorem Zn9 (k : Nat) : SoundAt Try.prog k 65 Z1K.E := @Ze Try.prog Z1K Z7f 65 Try.f65 Zaz (by kernel_rfl) (by kernel_rfl) (by kernel_rfl) Try.func65 (by kernel_rfl) (by kernel_rfl) (by kernel_rfl) T_ok ZmJ ZnD Zmu ZnI k
noncomputable def Z6f : List PK := [PK.mk Ty.bool false none false none]
noncomputable def ZjB : List PK := [PK.mk (Ty.pair (Ty.int .i64) (Ty.pair (Ty.int .i64) (Ty.slice (79 : Nat) (Ty.pair (Ty.int .i64) (Ty.int .i64))))) true none false none, PK.mk (Ty.slice (77 : Nat) (Ty.pair (Ty.int .i64) (Ty.pair (Ty.int .i64) (Ty.int .i64)))) false none false none]
noncomputable def Zd8 (r : Bool) : Tup Z6f × OutD := ((r, ()), none)
noncomputable def Zdo : Tup Z6f × OutD → Option (Bool)
 | (a, none) => some (a.1)
 | _ => none
theorem ZeZ : ∀ b r, Zdo b = some r → Zd8 r = b := by
 rintro ⟨a, o⟩ r h
 cases o with
 | none => injection h with h; subst h; rfl
 | some _ => cases h
noncomputable def Z4L : Nat → Int → Int → List (Int × Int) → Int → List (Int × Int × Int) → Int → Int → Option (LR Unit Bool)
 | 0, _, _, _, _, _, _, _ => none
 | k + 1, b1_0, b1_1, b1_2, v5, v12, v13, v14 =>
  if decide (v14 < v13) = true then if (0 : Int) ≤ v14 then if v14 < (↑(List.length v12) : Int) then Option.bind (ZcT k (b1_0, b1_1, b1_2) (Prod.fst (Prod.snd (List.getD v12 (Int.toNat v14) ((0 : Int), (0 : Int), (0 : Int))))) (Prod.snd (Prod.snd (List.getD v12 (Int.toNat v14) ((0 : Int), (0 : Int), (0 : Int)))))) fun z0 => if (!z0) = true then some (LR.ret false) else if decide (wrap64 (wrap64 (Prod.fst (Prod.snd (List.getD v12 (Int.toNat v14) ((0 : Int), (0 : Int), (0 : Int)))) * b1_1) + Prod.snd (Prod.snd (List.getD v12 (Int.toNat v14) ((0 : Int), (0 : Int), (0 : Int))))) ≤ v5) = true then some (LR.ret false) else if (0 : Int) ≤ wrap64 (wrap64 (Prod.fst (Prod.snd (List.getD v12 (Int.toNat v14) ((0 : Int), (0 : Int), (0 : Int)))) * b1_1) + Prod.snd (Prod.snd (List.getD v12 (Int.toNat v14) ((0 : Int), (0 : Int), (0 : Int))))) then if wrap64 (wrap64 (Prod.fst (Prod.snd (List.getD v12 (Int.toNat v14) ((0 : Int), (0 : Int), (0 : Int)))) * b1_1) + Prod.snd (Prod.snd (List.getD v12 (Int.toNat v14) ((0 : Int), (0 : Int), (0 : Int))))) < (↑(List.length b1_2) : Int) then Option.bind (ZaE k (Prod.fst (List.getD b1_2 (Int.toNat (wrap64 (wrap64 (Prod.fst (Prod.snd (List.getD v12 (Int.toNat v14) ((0 : Int), (0 : Int), (0 : Int)))) * b1_1) + Prod.snd (Prod.snd (List.getD v12 (Int.toNat v14) ((0 : Int), (0 : Int), (0 : Int))))))) ((0 : Int), (0 : Int))), Prod.snd (List.getD b1_2 (Int.toNat (wrap64 (wrap64 (Prod.fst (Prod.snd (List.getD v12 (Int.toNat v14) ((0 : Int), (0 : Int), (0 : Int)))) * b1_1) + Prod.snd (Prod.snd (List.getD v12 (Int.toNat v14) ((0 : Int), (0 : Int), (0 : Int))))))) ((0 : Int), (0 : Int)))) (Prod.fst (List.getD v12 (Int.toNat v14) ((0 : Int), (0 : Int), (0 : Int))))) fun z1 => if (!z1) = true then some (LR.ret false) else Z4L k b1_0 b1_1 b1_2 (wrap64 (wrap64 (Prod.fst (Prod.snd (List.getD v12 (Int.toNat v14) ((0 : Int), (0 : Int), (0 : Int)))) * b1_1) + Prod.snd (Prod.snd (List.getD v12 (Int.toNat v14) ((0 : Int), (0 : Int), (0 : Int)))))) v12 v13 (wrap64 (v14 + (1 : Int))) else none else none else none else none else some (LR.go ())
noncomputable def ZbV : Spec := Spec.mk [OSh.ro, OSh.box (53 : Nat) [Sh.int .i64, Sh.int .i64, Sh.snap (0 : Nat) (Ty.pair (Ty.int .i64) (Ty.int .i64))]] [((2 : Nat), TSh.at (Sh.ptr (1 : Nat) (0 : Nat))), ((5 : Nat), TSh.at (Sh.int .i64)), ((12 : Nat), TSh.at (Sh.snap (0 : Nat) (Ty.pair (Ty.int .i64) (Ty.pair (Ty.int .i64) (Ty.int .i64))))), ((13 : Nat), TSh.at (Sh.int .i64)), ((14 : Nat), TSh.at (Sh.int .i64))]
noncomputable def ZqO : Spec := Spec.mk [OSh.ro] []
noncomputable def Z4g : LoopDef (Tup Z6f × OutD) := .rets ZbV ZqO (Unit) (Bool) (fun k x => Z4L k x.1.2.1.1 x.1.2.1.2.1 x.1.2.1.2.2.1 x.2.2.1 x.2.2.2.1 x.2.2.2.2.1 x.2.2.2.2.2.1) (fun z => (((), ()), (()))) (fun y => ()) (fun _ => rfl) Zd8 Zdo ZeZ
noncomputable def Zbk : Nat → Int × Int × List (Int × Int) → List (Int × Int × Int) → Option Bool
 | 0, _, _ => none
 | k + 1, p0, p1 =>
  if decide ((↑(List.length p1) : Int) > (4 : Int)) = true then some false else Option.bind (Z4L k p0.1 p0.2.1 p0.2.2 (-1 : Int) p1 (↑(List.length p1) : Int) (0 : Int)) fun z2 => LR.on z2 (fun y2 => some true) fun r2 => some r2
noncomputable def Z3C : FnDef := .of ZjB Z6f (Bool) (fun k x => Zbk k x.1 x.2.1) Zd8 Zdo ZeZ
noncomputable def Zbm : Code := Try.f119.body.getD .skip
noncomputable def Z4B : Ctx (Tup Z6f × OutD) := { T := T, G := [(180, Z50.E), (181, Z3W.E)], mvs := [], no := 0, n := 49, res := resOf T ZjB Z6f Try.f119.results.toList, loops := [(0, Z4g.E)], regs := [], conds := [] }
theorem Zjf (k : Nat) : EnvOK Try.prog k Z4B.G := (EnvOK.cons (Zza k) (EnvOK.cons (ZmL k) (EnvOK.nil mixed)))
noncomputable def Z8S : Code := (findLoop 0 Zbm).getD .skip
theorem ZqI (k : Nat) (x : ZbV.D) : Z4g.lp (k + 1) x = loopK Z4B Z4g 0 Z8S k x := by kernel_rfl
theorem ZqB (k : Nat) : LOK Try.prog Z4B k Z8S := LOK.by [] (by kernel_rfl) AllOK.nil
theorem Zr0 (x : ZbV.D) : Z4g.lp 0 x = none := by kernel_rfl
theorem Zp5 (k : Nat) : EOK Try.prog Z4B k Z4g.E (.block 0 (.loop Z8S)) := Zp T_ok Zjf Zr0 ZqI ZqB k
theorem Zwj (k : Nat) (x : Tup Z3C.ps) : Z3C.f (k + 1) x = fnK Z3C Z4B Zbm k x := by kernel_rfl
theorem Zxb (x : Tup Z3C.ps) : Z3C.f 0 x = none := by kernel_rfl
theorem Zwh (k : Nat) : LOK Try.prog Z4B k Zbm := LOK.by [(Z4g.E, .block 0 (.loop Z8S))] (by kernel_rfl) (AllOK.cons (Zp5 k) AllOK.nil)
theorem ZwT (k : Nat) : SoundAt Try.prog k 119 Z3C.E := @Ze Try.prog Z3C Z4B 119 Try.f119 Zbm (by kernel_rfl) (by kernel_rfl) (by kernel_rfl) Try.func119 (by kernel_rfl) (by kernel_rfl) (by kernel_rfl) T_ok Zjf Zwh Zxb Zwj k
noncomputable def Z96 : List PK := [PK.mk Ty.bool false none false none]
noncomputable def ZpI : List PK := [PK.mk (Ty.pair (Ty.int .i64) (Ty.pair (Ty.int .i64) (Ty.slice (79 : Nat) (Ty.pair (Ty.int .i64) (Ty.int .i64))))) true none false none, PK.mk (Ty.slice (3 : Nat) (Ty.int .i64)) false none false none, PK.mk (Ty.slice (63 : Nat) (Ty.pair (Ty.int .i64) (Ty.pair (Ty.int .i64) (Ty.int .i64)))) false none false none]
noncomputable def Zgy (r : Bool) : Tup Z96 × OutD := ((r, ()), none)
noncomputable def Zgn : Tup Z96 × OutD → Option (Bool)
 | (a, none) => some (a.1)
 | _ => none
theorem Zi7 : ∀ b r, Zgn b = some r → Zgy r = b := by
 rintro ⟨a, o⟩ r h
 cases o with
 | none => injection h with h; subst h; rfl
 | some _ => cases h
noncomputable def Z78 : Nat → Int → Int → List (Int × Int) → List (Int × Int × Int) → Int → Int → Option (LR Unit Bool)
 | 0, _, _, _, _, _, _ => none
 | k + 1, b1_0, b1_1, b1_2, v31, v32, v33 =>
  if decide (v33 < v32) = true then if (0 : Int) ≤ v33 then if v33 < (↑(List.length v31) : Int) then if decide (Prod.fst (List.getD v31 (Int.toNat v33) ((0 : Int), (0 : Int), (0 : Int))) < (1 : Int)) = true then some (LR.ret false) else if decide (Prod.fst (List.getD v31 (Int.toNat v33) ((0 : Int), (0 : Int), (0 : Int))) > (3 : Int)) = true then some (LR.ret false) else if decide (Prod.fst (Prod.snd (List.getD v31 (Int.toNat v33) ((0 : Int), (0 : Int), (0 : Int)))) < (0 : Int)) = true then some (LR.ret false) else if decide (Prod.fst (Prod.snd (List.getD v31 (Int.toNat v33) ((0 : Int), (0 : Int), (0 : Int)))) > b1_0) = true then some (LR.ret false) else if decide (Prod.snd (Prod.snd (List.getD v31 (Int.toNat v33) ((0 : Int), (0 : Int), (0 : Int)))) < (-1 : Int)) = true then some (LR.ret false) else if decide (Prod.snd (Prod.snd (List.getD v31 (Int.toNat v33) ((0 : Int), (0 : Int), (0 : Int)))) > b1_1) = true then some (LR.ret false) else Z78 k b1_0 b1_1 b1_2 v31 v32 (wrap64 (v33 + (1 : Int))) else none else none else some (LR.go ())
noncomputable def Zem : Spec := Spec.mk [OSh.ro, OSh.box (53 : Nat) [Sh.int .i64, Sh.int .i64, Sh.snap (0 : Nat) (Ty.pair (Ty.int .i64) (Ty.int .i64))]] [((3 : Nat), TSh.at (Sh.ptr (1 : Nat) (0 : Nat))), ((31 : Nat), TSh.at (Sh.snap (0 : Nat) (Ty.pair (Ty.int .i64) (Ty.pair (Ty.int .i64) (Ty.int .i64))))), ((32 : Nat), TSh.at (Sh.int .i64)), ((33 : Nat), TSh.at (Sh.int .i64))]
noncomputable def Zwq : Spec := Spec.mk [OSh.ro] []
noncomputable def Z6n : LoopDef (Tup Z96 × OutD) := .rets Zem Zwq (Unit) (Bool) (fun k x => Z78 k x.1.2.1.1 x.1.2.1.2.1 x.1.2.1.2.2.1 x.2.2.1 x.2.2.2.1 x.2.2.2.2.1) (fun z => (((), ()), (()))) (fun y => ()) (fun _ => rfl) Zgy Zgn Zi7
noncomputable def Z5B : Nat → Int × Int × List (Int × Int) → List Int → List (Int × Int × Int) → Option Bool
 | 0, _, _, _ => none
 | k + 1, p0, p1, p2 =>
  Option.bind (Z8O k (Prod.fst p0, Prod.fst p0.2, Prod.snd p0.2) p1) fun z0 => if (!z0) = true then some false else if decide ((↑(List.length p0.2.2) : Int) > (24 : Int)) = true then some false else if decide ((↑(List.length p1) : Int) > (20 : Int)) = true then some false else if decide ((↑(List.length p2) : Int) ≠ (↑(List.length p1) : Int)) = true then some false else Option.bind (Z78 k p0.1 p0.2.1 p0.2.2 p2 (↑(List.length p2) : Int) (0 : Int)) fun z1 => LR.on z1 (fun y1 => some true) fun r1 => some r1
noncomputable def Z2i : FnDef := .of ZpI Z96 (Bool) (fun k x => Z5B k x.1 x.2.1 x.2.2.1) Zgy Zgn Zi7
noncomputable def ZdL : Code := Try.f137.body.getD .skip
noncomputable def Z7q : Ctx (Tup Z96 × OutD) := { T := T, G := [(118, Z28.E)], mvs := [], no := 0, n := 70, res := resOf T ZpI Z96 Try.f137.results.toList, loops := [(0, Z6n.E)], regs := [], conds := [] }
theorem ZpW (k : Nat) : EnvOK Try.prog k Z7q.G := (EnvOK.cons (Zre k) (EnvOK.nil mixed))
noncomputable def Zb0 : Code := (findLoop 0 ZdL).getD .skip
theorem ZvO (k : Nat) (x : Zem.D) : Z6n.lp (k + 1) x = loopK Z7q Z6n 0 Zb0 k x := by kernel_rfl
theorem Zw1 (k : Nat) : LOK Try.prog Z7q k Zb0 := LOK.by [] (by kernel_rfl) AllOK.nil
theorem ZwB (x : Zem.D) : Z6n.lp 0 x = none := by kernel_rfl
theorem ZtG (k : Nat) : EOK Try.prog Z7q k Z6n.E (.block 0 (.loop Zb0)) := Zp T_ok ZpW ZwB ZvO Zw1 k
theorem ZA6 (k : Nat) (x : Tup Z2i.ps) : Z2i.f (k + 1) x = fnK Z2i Z7q ZdL k x := by kernel_rfl
theorem ZAo (x : Tup Z2i.ps) : Z2i.f 0 x = none := by kernel_rfl
theorem ZA2 (k : Nat) : LOK Try.prog Z7q k ZdL := LOK.by [(Z6n.E, .block 0 (.loop Zb0))] (by kernel_rfl) (AllOK.cons (ZtG k) AllOK.nil)
theorem Zbw (k : Nat) : SoundAt Try.prog k 137 Z2i.E := @Ze Try.prog Z2i Z7q 137 Try.f137 ZdL (by kernel_rfl) (by kernel_rfl) (by kernel_rfl) Try.func137 (by kernel_rfl) (by kernel_rfl) (by kernel_rfl) T_ok ZpW ZA2 ZAo ZA6 k
noncomputable def Z93 : List PK := [PK.mk Ty.bool false none false none]
noncomputable def ZpN : List PK := [PK.mk (Ty.pair (Ty.int .i64) (Ty.pair (Ty.int .i64) (Ty.slice (79 : Nat) (Ty.pair (Ty.int .i64) (Ty.int .i64))))) true none false none, PK.mk (Ty.slice (3 : Nat) (Ty.int .i64)) false none false none, PK.mk (Ty.slice (63 : Nat) (Ty.pair (Ty.int .i64) (Ty.pair (Ty.int .i64) (Ty.int .i64)))) false none false none]
noncomputable def Zgq (r : Bool) : Tup Z93 × OutD := ((r, ()), none)
noncomputable def ZgE : Tup Z93 × OutD → Option (Bool)
 | (a, none) => some (a.1)
 | _ => none
theorem Zis : ∀ b r, ZgE b = some r → Zgq r = b := by
 rintro ⟨a, o⟩ r h
 cases o with
 | none => injection h with h; subst h; rfl
 | some _ => cases h
noncomputable def Z6W : Nat → Int → Int → List (Int × Int) → List (Int × Int × Int) → Int → Int → Option (LR Unit Bool)
 | 0, _, _, _, _, _, _ => none
 | k + 1, b1_0, b1_1, b1_2, v32, v33, v34 =>
  if decide (v34 < v33) = true then if (0 : Int) ≤ v34 then if v34 < (↑(List.length v32) : Int) then Option.bind (Z21 k (Prod.fst (List.getD v32 (Int.toNat v34) ((0 : Int), (0 : Int), (0 : Int)))) (1 : Int) (3 : Int)) fun z2 => if (!z2) = true then some (LR.ret false) else Option.bind (Z21 k (Prod.fst (Prod.snd (List.getD v32 (Int.toNat v34) ((0 : Int), (0 : Int), (0 : Int))))) (0 : Int) b1_0) fun z3 => if (!z3) = true then some (LR.ret false) else Option.bind (Z21 k (Prod.snd (Prod.snd (List.getD v32 (Int.toNat v34) ((0 : Int), (0 : Int), (0 : Int))))) (-1 : Int) b1_1) fun z4 => if (!z4) = true then some (LR.ret false) else Z6W k b1_0 b1_1 b1_2 v32 v33 (wrap64 (v34 + (1 : Int))) else none else none else some (LR.go ())
noncomputable def Zek : Spec := Spec.mk [OSh.ro, OSh.box (53 : Nat) [Sh.int .i64, Sh.int .i64, Sh.snap (0 : Nat) (Ty.pair (Ty.int .i64) (Ty.int .i64))]] [((3 : Nat), TSh.at (Sh.ptr (1 : Nat) (0 : Nat))), ((32 : Nat), TSh.at (Sh.snap (0 : Nat) (Ty.pair (Ty.int .i64) (Ty.pair (Ty.int .i64) (Ty.int .i64))))), ((33 : Nat), TSh.at (Sh.int .i64)), ((34 : Nat), TSh.at (Sh.int .i64))]
noncomputable def ZvY : Spec := Spec.mk [OSh.ro] []
noncomputable def Z6o : LoopDef (Tup Z93 × OutD) := .rets Zek ZvY (Unit) (Bool) (fun k x => Z6W k x.1.2.1.1 x.1.2.1.2.1 x.1.2.1.2.2.1 x.2.2.1 x.2.2.2.1 x.2.2.2.2.1) (fun z => (((), ()), (()))) (fun y => ()) (fun _ => rfl) Zgq ZgE Zis
noncomputable def Z4t : Nat → Int × Int × List (Int × Int) → List Int → List (Int × Int × Int) → Option Bool
 | 0, _, _, _ => none
 | k + 1, p0, p1, p2 =>
  Option.bind (Zd0 k (Prod.fst p0, Prod.fst p0.2, Prod.snd p0.2)) fun z0 => if (!z0) = true then some false else if decide ((↑(List.length p1) : Int) > (20 : Int)) = true then some false else Option.bind (Zfh k p1 (0 : Int) (wrap64 (Prod.fst p0.2 - (1 : Int)))) fun z1 => if (!z1) = true then some false else if decide ((↑(List.length p2) : Int) ≠ (↑(List.length p1) : Int)) = true then some false else Option.bind (Z6W k p0.1 p0.2.1 p0.2.2 p2 (↑(List.length p2) : Int) (0 : Int)) fun z5 => LR.on z5 (fun y5 => some true) fun r5 => some r5
noncomputable def Z1S : FnDef := .of ZpN Z93 (Bool) (fun k x => Z4t k x.1 x.2.1 x.2.2.1) Zgq ZgE Zis
noncomputable def ZdO : Code := Try.f139.body.getD .skip
noncomputable def Z7u : Ctx (Tup Z93 × OutD) := { T := T, G := [(195, Z4R.E), (113, Z6K.E), (96, Z2s.E)], mvs := [], no := 0, n := 59, res := resOf T ZpN Z93 Try.f139.results.toList, loops := [(0, Z6o.E)], regs := [], conds := [] }
theorem ZpT (k : Nat) : EnvOK Try.prog k Z7u.G := (EnvOK.cons (ZyH k) (EnvOK.cons (ZAU k) (EnvOK.cons (Z9T k) (EnvOK.nil mixed))))
noncomputable def Zb2 : Code := (findLoop 0 ZdO).getD .skip
theorem ZvP (k : Nat) (x : Zek.D) : Z6o.lp (k + 1) x = loopK Z7u Z6o 0 Zb2 k x := by kernel_rfl
theorem ZvB (k : Nat) : LOK Try.prog Z7u k Zb2 := LOK.by [] (by kernel_rfl) AllOK.nil
theorem Zw9 (x : Zek.D) : Z6o.lp 0 x = none := by kernel_rfl
theorem ZtZ (k : Nat) : EOK Try.prog Z7u k Z6o.E (.block 0 (.loop Zb2)) := Zp T_ok ZpT Zw9 ZvP ZvB k
theorem ZzR (k : Nat) (x : Tup Z1S.ps) : Z1S.f (k + 1) x = fnK Z1S Z7u ZdO k x := by kernel_rfl
theorem ZAq (x : Tup Z1S.ps) : Z1S.f 0 x = none := by kernel_rfl
theorem ZAg (k : Nat) : LOK Try.prog Z7u k ZdO := LOK.by [(Z6o.E, .block 0 (.loop Zb2))] (by kernel_rfl) (AllOK.cons (ZtZ k) AllOK.nil)
theorem Z9g (k : Nat) : SoundAt Try.prog k 139 Z1S.E := @Ze Try.prog Z1S Z7u 139 Try.f139 ZdO (by kernel_rfl) (by kernel_rfl) (by kernel_rfl) Try.func139 (by kernel_rfl) (by kernel_rfl) (by kernel_rfl) T_ok ZpT ZAg ZAq ZzR k
noncomputable def Z60 : List PK := [PK.mk Ty.bool false none false none]
noncomputable def Zg3 : List PK := [PK.mk (Ty.pair (Ty.int .i64) (Ty.pair (Ty.int .i64) (Ty.slice (79 : Nat) (Ty.pair (Ty.int .i64) (Ty.int .i64))))) true none false none, PK.mk (Ty.slice (77 : Nat) (Ty.pair (Ty.int .i64) (Ty.pair (Ty.int .i64) (Ty.int .i64)))) false none false none, PK.mk (Ty.slice (3 : Nat) (Ty.int .i64)) false none false none, PK.mk (Ty.slice (63 : Nat) (Ty.pair (Ty.int .i64) (Ty.pair (Ty.int .i64) (Ty.int .i64)))) false none false none]
noncomputable def ZeS (r : Bool) : Tup Z60 × OutD := ((r, ()), none)
noncomputable def Zf4 : Tup Z60 × OutD → Option (Bool)
 | (a, none) => some (a.1)
 | _ => none
theorem Zku : ∀ b r, Zf4 b = some r → ZeS r = b := by
 rintro ⟨a, o⟩ r h
 cases o with
 | none => injection h with h; subst h; rfl
 | some _ => cases h
noncomputable def Z2b : Nat → Int × Int × List (Int × Int) → List (Int × Int × Int) → List Int → List (Int × Int × Int) → Option Bool
 | 0, _, _, _, _ => none
 | k + 1, p0, p1, p2, p3 =>
  Option.bind (Z9s k (Prod.fst p0, Prod.fst p0.2, Prod.snd p0.2) p1 p2) fun z0 => Option.bind (Z2h k z0.1 p3) fun z1 => some z1
noncomputable def Z17 : FnDef := .of Zg3 Z60 (Bool) (fun k x => Z2b k x.1 x.2.1 x.2.2.1 x.2.2.2.1) ZeS Zf4 Zku
noncomputable def ZbI : Code := Try.f143.body.getD .skip
noncomputable def Z8N : Ctx (Tup Z60 × OutD) := { T := T, G := [(120, Z2A.E), (166, Zy.E)], mvs := [], no := 0, n := 21, res := resOf T Zg3 Z60 Try.f143.results.toList, loops := [], regs := [], conds := [] }
theorem Zrc (k : Nat) : EnvOK Try.prog k Z8N.G := (EnvOK.cons (Zsi k) (EnvOK.cons (Zdd k) (EnvOK.nil mixed)))
theorem Zqu (k : Nat) (x : Tup Z17.ps) : Z17.f (k + 1) x = fnK Z17 Z8N ZbI k x := by kernel_rfl
theorem Zqc (x : Tup Z17.ps) : Z17.f 0 x = none := by kernel_rfl
theorem Zq9 (k : Nat) : LOK Try.prog Z8N k ZbI := LOK.by [] (by kernel_rfl) AllOK.nil
theorem Z8H (k : Nat) : SoundAt Try.prog k 143 Z17.E := @Ze Try.prog Z17 Z8N 143 Try.f143 ZbI (by kernel_rfl) (by kernel_rfl) (by kernel_rfl) Try.func143 (by kernel_rfl) (by kernel_rfl) (by kernel_rfl) T_ok Zrc Zq9 Zqc Zqu k
noncomputable def Z7y : List PK := [PK.mk Ty.bool false none false none]
noncomputable def ZhZ : List PK := [PK.mk (Ty.pair (Ty.int .i64) (Ty.pair (Ty.int .i64) (Ty.slice (79 : Nat) (Ty.pair (Ty.int .i64) (Ty.int .i64))))) true none false none, PK.mk (Ty.slice (77 : Nat) (Ty.pair (Ty.int .i64) (Ty.pair (Ty.int .i64) (Ty.int .i64)))) false none false none, PK.mk (Ty.slice (3 : Nat) (Ty.int .i64)) false none false none, PK.mk (Ty.slice (63 : Nat) (Ty.pair (Ty.int .i64) (Ty.pair (Ty.int .i64) (Ty.int .i64)))) false none false none]
noncomputable def ZgX (r : Bool) : Tup Z7y × OutD := ((r, ()), none)
noncomputable def Zhf : Tup Z7y × OutD → Option (Bool)
 | (a, none) => some (a.1)
 | _ => none
theorem Zny : ∀ b r, Zhf b = some r → ZgX r = b := by
 rintro ⟨a, o⟩ r h
 cases o with
 | none => injection h with h; subst h; rfl
 | some _ => cases h
noncomputable def Z34 : Nat → Int × Int × List (Int × Int) → List (Int × Int × Int) → List Int → List (Int × Int × Int) → Option Bool
 | 0, _, _, _, _ => none
 | k + 1, p0, p1, p2, p3 =>
  Option.bind (Z6Q k (Prod.fst p0, Prod.fst p0.2, Prod.snd p0.2) p1 p2) fun z0 => Option.bind (Ze2 k z0.1 p3) fun z1 => some (decide (z1 < (0 : Int)))
noncomputable def Z1i : FnDef := .of ZhZ Z7y (Bool) (fun k x => Z34 k x.1 x.2.1 x.2.2.1 x.2.2.2.1) ZgX Zhf Zny
noncomputable def Zds : Code := Try.f144.body.getD .skip
noncomputable def Za4 : Ctx (Tup Z7y × OutD) := { T := T, G := [(123, Z56.E), (168, Z5G.E)], mvs := [], no := 0, n := 22, res := resOf T ZhZ Z7y Try.f144.results.toList, loops := [], regs := [], conds := [] }
theorem Zv6 (k : Nat) : EnvOK Try.prog k Za4.G := (EnvOK.cons (Ztg k) (EnvOK.cons (ZAr k) (EnvOK.nil mixed)))
theorem ZuD (k : Nat) (x : Tup Z1i.ps) : Z1i.f (k + 1) x = fnK Z1i Za4 Zds k x := by kernel_rfl
theorem Zu0 (x : Tup Z1i.ps) : Z1i.f 0 x = none := by kernel_rfl
theorem Zuy (k : Nat) : LOK Try.prog Za4 k Zds := LOK.by [] (by kernel_rfl) AllOK.nil
theorem Zaa (k : Nat) : SoundAt Try.prog k 144 Z1i.E := @Ze Try.prog Z1i Za4 144 Try.f144 Zds (by kernel_rfl) (by kernel_rfl) (by kernel_rfl) Try.func144 (by kernel_rfl) (by kernel_rfl) (by kernel_rfl) T_ok Zv6 Zuy Zu0 ZuD k
noncomputable def Z6P : List PK := [PK.mk (Ty.pair (Ty.int .i64) (Ty.pair (Ty.int .i64) (Ty.slice (79 : Nat) (Ty.pair (Ty.int .i64) (Ty.int .i64))))) true none false none]
noncomputable def Zhl : List PK := [PK.mk (Ty.pair (Ty.slice (5 : Nat) (Ty.int .u8)) (Ty.pair (Ty.int .i64) (Ty.int .u64))) false none false (some (114 : Nat))]
noncomputable def ZfP (r : (Int × Int × List (Int × Int)) × Int × Int) : Tup Z6P × OutD := ((r.1, ()), some ⟨Ty.pair (Ty.slice (5 : Nat) (Ty.int .u8)) (Ty.pair (Ty.int .i64) (Ty.int .u64)), [([], r.2)]⟩)
noncomputable def ZbT : Tup Z6P × OutD → Option ((Int × Int × List (Int × Int)) × Int × Int)
 | (a, some ⟨u, ys⟩) => if h : u = Ty.pair (Ty.slice (5 : Nat) (Ty.int .u8)) (Ty.pair (Ty.int .i64) (Ty.int .u64)) then (match castU h ys with
  | [([], y)] => some (a.1, y)
  | _ => none) else none
 | _ => none
theorem Zm4 : ∀ b r, ZbT b = some r → ZfP r = b := by
 rintro ⟨a, o⟩ r h
 cases o with
 | none => cases h
 | some s =>
  obtain ⟨u, ys⟩ := s
  simp only [ZbT] at h
  split at h
  ·rename_i hu
   subst hu
   match ys, h with
   | [], h => cases (show (none : Option _) = some r from h)
   | [([], y)], h => injection (show some _ = some r from h) with h; subst h; rfl
   | [(_ :: _, y)], h => cases (show (none : Option _) = some r from h)
   | (h1, _) :: _ :: _, h => cases h1 <;> cases (show (none : Option _) = some r from h)
  ·cases h
noncomputable def Z6T : Nat → List Int × Int × Int → Option ((Int × Int × List (Int × Int)) × Int × Int)
 | 0, _ => none
 | k + 1, p0 =>
  Option.bind (Z19 k (Prod.fst p0, Prod.fst p0.2, Prod.snd p0.2) (20 : Int)) fun z0 => if Prod.fst z0 = true then Option.bind (Zg k (Prod.fst p0, Prod.fst z0.2, Prod.snd z0.2) [(1 : Int), (10 : Int)]) fun z1 => Option.bind (Zg k (Prod.fst p0, Prod.fst z1.2, Prod.snd z1.2) [(1 : Int), (9 : Int)]) fun z2 => Option.bind (Z1W k (Prod.fst p0, Prod.fst z2.2, Prod.snd z2.2) z1.1 z2.1) fun z3 => some ((Prod.fst z3.1, Prod.fst z3.1.2, Prod.snd z3.1.2), Prod.fst z3.2, Prod.snd z3.2) else Option.bind (Z2 k (Prod.fst p0, Prod.fst z0.2, Prod.snd z0.2) (5 : Int)) fun z4 => Option.bind (Z2 k (Prod.fst p0, Prod.fst z4.2, Prod.snd z4.2) (5 : Int)) fun z5 => Option.bind (Z1W k (Prod.fst p0, Prod.fst z5.2, Prod.snd z5.2) (wrap64 ((1 : Int) + Prod.fst z4)) (wrap64 ((1 : Int) + Prod.fst z5))) fun z6 => some ((Prod.fst z6.1, Prod.fst z6.1.2, Prod.snd z6.1.2), Prod.fst z6.2, Prod.snd z6.2)
noncomputable def Z2u : FnDef := .of Zhl Z6P ((Int × Int × List (Int × Int)) × Int × Int) (fun k x => Z6T k x.1) ZfP ZbT Zm4
noncomputable def Zcz : Code := Try.f202.body.getD .skip
noncomputable def Z9I : Ctx (Tup Z6P × OutD) := { T := T, G := [(150, Z1v.E), (90, Z11.E), (197, Z1l.E), (111, ZJ.E)], mvs := [], no := 2, n := 21, res := resOf T Zhl Z6P Try.f202.results.toList, loops := [], regs := [], conds := [] }
theorem Zsg (k : Nat) : EnvOK Try.prog k Z9I.G := (EnvOK.cons (Zb3 k) (EnvOK.cons (Z6M k) (EnvOK.cons (ZeL k) (EnvOK.cons (Z2Y k) (EnvOK.nil mixed)))))
theorem ZsR (k : Nat) (x : Tup Z2u.ps) : Z2u.f (k + 1) x = fnK Z2u Z9I Zcz k x := by kernel_rfl
theorem Zts (x : Tup Z2u.ps) : Z2u.f 0 x = none := by kernel_rfl
theorem Zto (k : Nat) : LOK Try.prog Z9I k Zcz := LOK.by [] (by kernel_rfl) AllOK.nil
theorem Zrv (k : Nat) : SoundAt Try.prog k 202 Z2u.E := @Ze Try.prog Z2u Z9I 202 Try.f202 Zcz (by kernel_rfl) (by kernel_rfl) (by kernel_rfl) Try.func202 (by kernel_rfl) (by kernel_rfl) (by kernel_rfl) T_ok Zsg Zto Zts ZsR k
end
end Go.Proofs.Ytgjmhbjdhihgaaa.Vs
