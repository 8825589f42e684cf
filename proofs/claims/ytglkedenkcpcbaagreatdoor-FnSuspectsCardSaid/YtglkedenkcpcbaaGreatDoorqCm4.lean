/- The proof, part 5. -/
import Derived.Test.YtglkedenkcpcbaaGreatDoorqCm3
set_option maxRecDepth 100000
set_option maxHeartbeats 2000000
set_option linter.unusedVariables false
set_option linter.unusedSimpArgs false
namespace Go.Proofs.YtglkedenkcpcbaaGreatDoor.Vs
open Go.RowKit
noncomputable section
noncomputable def ZfO : List PK := [PK.mk Ty.bool false none false none]
noncomputable def Zz7 : List PK := [PK.mk (Ty.slice (5 : Nat) (Ty.int .u8)) false none false none, PK.mk (Ty.slice (5 : Nat) (Ty.int .u8)) false none false none]
noncomputable def ZvE (r : Bool) : Tup ZfO × OutD := ((r, ()), none)
noncomputable def ZvG : Tup ZfO × OutD → Option (Bool)
 | (a, none) => some (a.1)
 | _ => none
theorem ZzI : ∀ b r, ZvG b = some r → ZvE r = b := by
 rintro ⟨a, o⟩ r h
 cases o with
 | none => injection h with h; subst h; rfl
 | some _ => cases h
noncomputable def ZfE : Nat → List Int → List Int → Option Bool
 | 0, _, _ => none
 | k + 1, p0, p1 =>
  if gtS (↑(List.length p0) : Int) (1048576 : Int) = true then some true else some (decide ((↑(List.length p1) : Int) > wrap64 ((1048576 : Int) - (↑(List.length p0) : Int))))
noncomputable def Z9J : FnDef := .of Zz7 ZfO (Bool) (fun k x => ZfE k x.1 x.2.1) ZvE ZvG ZzI
noncomputable def ZpK : Code := Tryz.f5.body.getD .skip
noncomputable def Zje : Ctx (Tup ZfO × OutD) := { T := T, G := [], mvs := [], no := 0, n := 16, res := resOf T Zz7 ZfO Tryz.f5.results.toList, loops := [], regs := [], conds := [], cuts := [] }
theorem ZGG (k : Nat) : EnvOK Tryz.prog k Zje.G := (EnvOK.nil mixed)
theorem ZGr (k : Nat) (x : Tup Z9J.ps) : Z9J.f (k + 1) x = fnK Z9J Zje ZpK k x := by kernel_rfl
theorem ZHj (x : Tup Z9J.ps) : Z9J.f 0 x = none := by kernel_rfl
theorem ZGo (k : Nat) : LOK Tryz.prog Zje k ZpK := LOK.by [] (by kernel_rfl) AllOK.nil
theorem ZGH (k : Nat) : SoundAt Tryz.prog k 5 Z9J.E := @Zk Tryz.prog Z9J Zje 5 Tryz.f5 ZpK (by kernel_rfl) (by kernel_rfl) (by kernel_rfl) Tryz.func5 (by kernel_rfl) (by kernel_rfl) (by kernel_rfl) T_ok ZGG ZGo ZHj ZGr k
noncomputable def Z76 : List PK := [PK.mk Ty.bool false none false none]
noncomputable def ZlX : List PK := [PK.mk (Ty.slice (3 : Nat) (Ty.int .i64)) false none false none, PK.mk (Ty.slice (3 : Nat) (Ty.int .i64)) false none false none]
noncomputable def Zen (r : Bool) : Tup Z76 × OutD := ((r, ()), none)
noncomputable def Zeo : Tup Z76 × OutD → Option (Bool)
 | (a, none) => some (a.1)
 | _ => none
theorem Zgk : ∀ b r, Zeo b = some r → Zen r = b := by
 rintro ⟨a, o⟩ r h
 cases o with
 | none => injection h with h; subst h; rfl
 | some _ => cases h
noncomputable def Z5I : Nat → List Int → List Int → Int → Int → Option (LR Unit Bool)
 | 0, _, _, _, _ => none
 | k + 1, v0, v1, v12, v13 =>
  if decide (v13 < v12) = true then if (0 : Int) ≤ v13 then if v13 < (↑(List.length v0) : Int) then if (0 : Int) ≤ v13 then if v13 < (↑(List.length v1) : Int) then if decide (List.getD v0 (Int.toNat v13) (0 : Int) ≠ List.getD v1 (Int.toNat v13) (0 : Int)) = true then some (LR.ret false) else Z5I k v0 v1 v12 (wrap64 (v13 + (1 : Int))) else none else none else none else none else some (LR.go ())
noncomputable def ZcD : Spec := Spec.mk [OSh.ro] [((0 : Nat), TSh.at (Sh.snap (0 : Nat) (Ty.int .i64))), ((1 : Nat), TSh.at (Sh.snap (0 : Nat) (Ty.int .i64))), ((12 : Nat), TSh.at (Sh.int .i64)), ((13 : Nat), TSh.at (Sh.int .i64))]
noncomputable def ZtF : Spec := Spec.mk [OSh.ro] []
noncomputable def Z5b : LoopDef (Tup Z76 × OutD) := .rets ZcD ZtF (Unit) (Bool) (fun k x => Z5I k x.2.1 x.2.2.1 x.2.2.2.1 x.2.2.2.2.1) (fun z => (((), ()), (()))) (fun y => ()) (fun _ => rfl) Zen Zeo Zgk
noncomputable def Z9A : Nat → List Int → List Int → Option Bool
 | 0, _, _ => none
 | k + 1, p0, p1 =>
  if decide ((↑(List.length p0) : Int) ≠ (↑(List.length p1) : Int)) = true then some false else Option.bind (Z5I k p0 p1 (↑(List.length p0) : Int) (0 : Int)) fun z0 => LR.on z0 (fun y0 => some true) fun r0 => some r0
noncomputable def Z4j : FnDef := .of ZlX Z76 (Bool) (fun k x => Z9A k x.1 x.2.1) Zen Zeo Zgk
noncomputable def Zck : Code := Tryz.f15.body.getD .skip
noncomputable def Z5p : Ctx (Tup Z76 × OutD) := { T := T, G := [], mvs := [], no := 0, n := 26, res := resOf T ZlX Z76 Tryz.f15.results.toList, loops := [(0, Z5b.E)], regs := [], conds := [], cuts := [] }
theorem ZlI (k : Nat) : EnvOK Tryz.prog k Z5p.G := (EnvOK.nil mixed)
noncomputable def Z9C : Code := (findLoop 0 Zck).getD .skip
theorem Ztv (k : Nat) (x : ZcD.D) : Z5b.lp (k + 1) x = loopK Z5p Z5b 0 Z9C k x := by kernel_rfl
theorem ZtQ (k : Nat) : LOK Tryz.prog Z5p k Z9C := LOK.by [] (by kernel_rfl) AllOK.nil
theorem ZtP (x : ZcD.D) : Z5b.lp 0 x = none := by kernel_rfl
theorem ZrH (k : Nat) : EOK Tryz.prog Z5p k Z5b.E (.block 0 (.loop Z9C)) := Zr T_ok ZlI ZtP Ztv ZtQ k
theorem ZxZ (k : Nat) (x : Tup Z4j.ps) : Z4j.f (k + 1) x = fnK Z4j Z5p Zck k x := by kernel_rfl
theorem Zyz (x : Tup Z4j.ps) : Z4j.f 0 x = none := by kernel_rfl
theorem Zy7 (k : Nat) : LOK Tryz.prog Z5p k Zck := LOK.by [(Z5b.E, .block 0 (.loop Z9C))] (by kernel_rfl) (AllOK.cons (ZrH k) AllOK.nil)
theorem ZyW (k : Nat) : SoundAt Tryz.prog k 15 Z4j.E := @Zk Tryz.prog Z4j Z5p 15 Tryz.f15 Zck (by kernel_rfl) (by kernel_rfl) (by kernel_rfl) Tryz.func15 (by kernel_rfl) (by kernel_rfl) (by kernel_rfl) T_ok ZlI Zy7 Zyz ZxZ k
noncomputable def Zd0 : List PK := [PK.mk Ty.bool false none false none]
noncomputable def ZxN : List PK := [PK.mk (Ty.slice (3 : Nat) (Ty.int .i64)) false none false none, PK.mk (Ty.int .i64) false none false none]
noncomputable def Zn5 (r : Bool) : Tup Zd0 × OutD := ((r, ()), none)
noncomputable def ZmC : Tup Zd0 × OutD → Option (Bool)
 | (a, none) => some (a.1)
 | _ => none
theorem ZnL : ∀ b r, ZmC b = some r → Zn5 r = b := by
 rintro ⟨a, o⟩ r h
 cases o with
 | none => injection h with h; subst h; rfl
 | some _ => cases h
noncomputable def Zax : Nat → Int → List Int → Int → Int → Option (LR Unit Bool)
 | 0, _, _, _, _ => none
 | k + 1, v1, v7, v8, v9 =>
  if decide (v9 < v8) = true then if (0 : Int) ≤ v9 then if v9 < (↑(List.length v7) : Int) then if decide (List.getD v7 (Int.toNat v9) (0 : Int) = v1) = true then some (LR.ret true) else Zax k v1 v7 v8 (wrap64 (v9 + (1 : Int))) else none else none else some (LR.go ())
noncomputable def ZhO : Spec := Spec.mk [OSh.ro] [((1 : Nat), TSh.at (Sh.int .i64)), ((7 : Nat), TSh.at (Sh.snap (0 : Nat) (Ty.int .i64))), ((8 : Nat), TSh.at (Sh.int .i64)), ((9 : Nat), TSh.at (Sh.int .i64))]
noncomputable def ZBC : Spec := Spec.mk [OSh.ro] []
noncomputable def Z9q : LoopDef (Tup Zd0 × OutD) := .rets ZhO ZBC (Unit) (Bool) (fun k x => Zax k x.2.1 x.2.2.1 x.2.2.2.1 x.2.2.2.2.1) (fun z => (((), ()), (()))) (fun y => ()) (fun _ => rfl) Zn5 ZmC ZnL
noncomputable def Zj3 : Nat → List Int → Int → Option Bool
 | 0, _, _ => none
 | k + 1, p0, p1 =>
  Option.bind (Zax k p1 p0 (↑(List.length p0) : Int) (0 : Int)) fun z0 => LR.on z0 (fun y0 => some false) fun r0 => some r0
noncomputable def Z9D : FnDef := .of ZxN Zd0 (Bool) (fun k x => Zj3 k x.1 x.2.1) Zn5 ZmC ZnL
noncomputable def Zjd : Code := Tryz.f19.body.getD .skip
noncomputable def Zbe : Ctx (Tup Zd0 × OutD) := { T := T, G := [], mvs := [], no := 0, n := 17, res := resOf T ZxN Zd0 Tryz.f19.results.toList, loops := [(0, Z9q.E)], regs := [], conds := [], cuts := [] }
theorem ZxK (k : Nat) : EnvOK Tryz.prog k Zbe.G := (EnvOK.nil mixed)
noncomputable def Zeh : Code := (findLoop 0 Zjd).getD .skip
theorem ZB6 (k : Nat) (x : ZhO.D) : Z9q.lp (k + 1) x = loopK Zbe Z9q 0 Zeh k x := by kernel_rfl
theorem ZAZ (k : Nat) : LOK Tryz.prog Zbe k Zeh := LOK.by [] (by kernel_rfl) AllOK.nil
theorem ZBy (x : ZhO.D) : Z9q.lp 0 x = none := by kernel_rfl
theorem ZzE (k : Nat) : EOK Tryz.prog Zbe k Z9q.E (.block 0 (.loop Zeh)) := Zr T_ok ZxK ZBy ZB6 ZAZ k
theorem ZGL (k : Nat) (x : Tup Z9D.ps) : Z9D.f (k + 1) x = fnK Z9D Zbe Zjd k x := by kernel_rfl
theorem ZGt (x : Tup Z9D.ps) : Z9D.f 0 x = none := by kernel_rfl
theorem ZGZ (k : Nat) : LOK Tryz.prog Zbe k Zjd := LOK.by [(Z9q.E, .block 0 (.loop Zeh))] (by kernel_rfl) (AllOK.cons (ZzE k) AllOK.nil)
theorem ZGK (k : Nat) : SoundAt Tryz.prog k 19 Z9D.E := @Zk Tryz.prog Z9D Zbe 19 Tryz.f19 Zjd (by kernel_rfl) (by kernel_rfl) (by kernel_rfl) Tryz.func19 (by kernel_rfl) (by kernel_rfl) (by kernel_rfl) T_ok ZxK ZGZ ZGt ZGL k
noncomputable def Z51 : List PK := [PK.mk Ty.bool false none false none]
noncomputable def Zhg : List PK := [PK.mk (Ty.slice (42 : Nat) (Ty.pair (Ty.int .i64) (Ty.pair (Ty.int .i64) (Ty.int .i64)))) false none false none, PK.mk (Ty.slice (42 : Nat) (Ty.pair (Ty.int .i64) (Ty.pair (Ty.int .i64) (Ty.int .i64)))) false none false none]
noncomputable def Zc4 (r : Bool) : Tup Z51 × OutD := ((r, ()), none)
noncomputable def ZbV : Tup Z51 × OutD → Option (Bool)
 | (a, none) => some (a.1)
 | _ => none
theorem ZdI : ∀ b r, ZbV b = some r → Zc4 r = b := by
 rintro ⟨a, o⟩ r h
 cases o with
 | none => injection h with h; subst h; rfl
 | some _ => cases h
noncomputable def Z3O : Nat → List (Int × Int × Int) → List (Int × Int × Int) → Int → Int → Option (LR Unit Bool)
 | 0, _, _, _, _ => none
 | k + 1, v0, v1, v12, v13 =>
  if decide (v13 < v12) = true then if (0 : Int) ≤ v13 then if v13 < (↑(List.length v0) : Int) then if (0 : Int) ≤ v13 then if v13 < (↑(List.length v1) : Int) then if (!(decide (Prod.fst (List.getD v0 (Int.toNat v13) ((0 : Int), (0 : Int), (0 : Int))) = Prod.fst (List.getD v1 (Int.toNat v13) ((0 : Int), (0 : Int), (0 : Int)))) && (decide (Prod.fst (Prod.snd (List.getD v0 (Int.toNat v13) ((0 : Int), (0 : Int), (0 : Int)))) = Prod.fst (Prod.snd (List.getD v1 (Int.toNat v13) ((0 : Int), (0 : Int), (0 : Int))))) && (decide (Prod.snd (Prod.snd (List.getD v0 (Int.toNat v13) ((0 : Int), (0 : Int), (0 : Int)))) = Prod.snd (Prod.snd (List.getD v1 (Int.toNat v13) ((0 : Int), (0 : Int), (0 : Int))))) && true)))) = true then some (LR.ret false) else Z3O k v0 v1 v12 (wrap64 (v13 + (1 : Int))) else none else none else none else none else some (LR.go ())
noncomputable def ZaM : Spec := Spec.mk [OSh.ro] [((0 : Nat), TSh.at (Sh.snap (0 : Nat) (Ty.pair (Ty.int .i64) (Ty.pair (Ty.int .i64) (Ty.int .i64))))), ((1 : Nat), TSh.at (Sh.snap (0 : Nat) (Ty.pair (Ty.int .i64) (Ty.pair (Ty.int .i64) (Ty.int .i64))))), ((12 : Nat), TSh.at (Sh.int .i64)), ((13 : Nat), TSh.at (Sh.int .i64))]
noncomputable def Zo2 : Spec := Spec.mk [OSh.ro] []
noncomputable def Z3y : LoopDef (Tup Z51 × OutD) := .rets ZaM Zo2 (Unit) (Bool) (fun k x => Z3O k x.2.1 x.2.2.1 x.2.2.2.1 x.2.2.2.2.1) (fun z => (((), ()), (()))) (fun y => ()) (fun _ => rfl) Zc4 ZbV ZdI
noncomputable def Z9K : Nat → List (Int × Int × Int) → List (Int × Int × Int) → Option Bool
 | 0, _, _ => none
 | k + 1, p0, p1 =>
  if decide ((↑(List.length p0) : Int) ≠ (↑(List.length p1) : Int)) = true then some false else Option.bind (Z3O k p0 p1 (↑(List.length p0) : Int) (0 : Int)) fun z0 => LR.on z0 (fun y0 => some true) fun r0 => some r0
noncomputable def Z2N : FnDef := .of Zhg Z51 (Bool) (fun k x => Z9K k x.1 x.2.1) Zc4 ZbV ZdI
noncomputable def Z9L : Code := Tryz.f20.body.getD .skip
noncomputable def Z3D : Ctx (Tup Z51 × OutD) := { T := T, G := [], mvs := [], no := 0, n := 26, res := resOf T Zhg Z51 Tryz.f20.results.toList, loops := [(0, Z3y.E)], regs := [], conds := [], cuts := [] }
theorem ZhF (k : Nat) : EnvOK Tryz.prog k Z3D.G := (EnvOK.nil mixed)
noncomputable def Z7b : Code := (findLoop 0 Z9L).getD .skip
theorem ZoF (k : Nat) (x : ZaM.D) : Z3y.lp (k + 1) x = loopK Z3D Z3y 0 Z7b k x := by kernel_rfl
theorem Zo4 (k : Nat) : LOK Tryz.prog Z3D k Z7b := LOK.by [] (by kernel_rfl) AllOK.nil
theorem Zos (x : ZaM.D) : Z3y.lp 0 x = none := by kernel_rfl
theorem ZmO (k : Nat) : EOK Tryz.prog Z3D k Z3y.E (.block 0 (.loop Z7b)) := Zr T_ok ZhF Zos ZoF Zo4 k
theorem ZsN (k : Nat) (x : Tup Z2N.ps) : Z2N.f (k + 1) x = fnK Z2N Z3D Z9L k x := by kernel_rfl
theorem Ztp (x : Tup Z2N.ps) : Z2N.f 0 x = none := by kernel_rfl
theorem Zte (k : Nat) : LOK Tryz.prog Z3D k Z9L := LOK.by [(Z3y.E, .block 0 (.loop Z7b))] (by kernel_rfl) (AllOK.cons (ZmO k) AllOK.nil)
theorem Ztm (k : Nat) : SoundAt Tryz.prog k 20 Z2N.E := @Zk Tryz.prog Z2N Z3D 20 Tryz.f20 Z9L (by kernel_rfl) (by kernel_rfl) (by kernel_rfl) Tryz.func20 (by kernel_rfl) (by kernel_rfl) (by kernel_rfl) T_ok ZhF Zte Ztp ZsN k
noncomputable def Z4O : List PK := [PK.mk (Ty.slice (3 : Nat) (Ty.int .i64)) false none false none]
noncomputable def ZjT : List PK := [PK.mk (Ty.pair (Ty.int .i64) (Ty.pair (Ty.int .i64) (Ty.slice (122 : Nat) (Ty.pair (Ty.int .i64) (Ty.int .i64))))) true none false none, PK.mk (Ty.slice (42 : Nat) (Ty.pair (Ty.int .i64) (Ty.pair (Ty.int .i64) (Ty.int .i64)))) false none false none, PK.mk Ty.bool false none false none]
noncomputable def ZiH (r : List Int) : Tup Z4O × OutD := ((r, ()), none)
noncomputable def Zin : Tup Z4O × OutD → Option (List Int)
 | (a, none) => some (a.1)
 | _ => none
theorem Zpn : ∀ b r, Zin b = some r → ZiH r = b := by
 rintro ⟨a, o⟩ r h
 cases o with
 | none => injection h with h; subst h; rfl
 | some _ => cases h
noncomputable def Z55 : Nat → Int → Int → List (Int × Int) → List Bool → Bool → List (Int × Int × Int) → Int → Int → Option (List Bool × Bool)
 | 0, _, _, _, _, _, _, _, _ => none
 | k + 1, b1_0, b1_1, b1_2, o2, v2, v17, v18, v19 =>
  if decide (v19 < v18) = true then if (0 : Int) ≤ v19 then if v19 < (↑(List.length v17) : Int) then if (0 : Int) ≤ wrap64 (wrap64 (Prod.fst (Prod.snd (List.getD v17 (Int.toNat v19) ((0 : Int), (0 : Int), (0 : Int)))) * b1_1) + Prod.snd (Prod.snd (List.getD v17 (Int.toNat v19) ((0 : Int), (0 : Int), (0 : Int))))) then if wrap64 (wrap64 (Prod.fst (Prod.snd (List.getD v17 (Int.toNat v19) ((0 : Int), (0 : Int), (0 : Int)))) * b1_1) + Prod.snd (Prod.snd (List.getD v17 (Int.toNat v19) ((0 : Int), (0 : Int), (0 : Int))))) < (↑(List.length o2) : Int) then Z55 k b1_0 b1_1 b1_2 (List.set o2 (Int.toNat (wrap64 (wrap64 (Prod.fst (Prod.snd (List.getD v17 (Int.toNat v19) ((0 : Int), (0 : Int), (0 : Int)))) * b1_1) + Prod.snd (Prod.snd (List.getD v17 (Int.toNat v19) ((0 : Int), (0 : Int), (0 : Int))))))) true) v2 v17 v18 (wrap64 (v19 + (1 : Int))) else none else none else none else none else some (o2, v2)
noncomputable def ZbU : Spec := Spec.mk [OSh.ro, OSh.box (26 : Nat) [Sh.int .i64, Sh.int .i64, Sh.snap (0 : Nat) (Ty.pair (Ty.int .i64) (Ty.int .i64))], OSh.row true (4 : Nat) Ty.bool] [((2 : Nat), TSh.at Sh.bool), ((3 : Nat), TSh.at (Sh.ptr (1 : Nat) (0 : Nat))), ((7 : Nat), TSh.at (Sh.sl (2 : Nat))), ((17 : Nat), TSh.at (Sh.snap (0 : Nat) (Ty.pair (Ty.int .i64) (Ty.pair (Ty.int .i64) (Ty.int .i64))))), ((18 : Nat), TSh.at (Sh.int .i64)), ((19 : Nat), TSh.at (Sh.int .i64))]
noncomputable def Zrg : Spec := Spec.mk [OSh.ro, OSh.row true (4 : Nat) Ty.bool] [((2 : Nat), TSh.at Sh.bool), ((7 : Nat), TSh.at (Sh.sl (1 : Nat)))]
noncomputable def Z4A : LoopDef (Tup Z4O × OutD) := .plain ZbU Zrg (List Bool × Bool) (fun k x => Z55 k x.1.2.1.1 x.1.2.1.2.1 x.1.2.1.2.2.1 x.1.2.2.1 x.2.1 x.2.2.2.2.1 x.2.2.2.2.2.1 x.2.2.2.2.2.2.1) (fun z => (((), z.1, ()), (z.2, (), ()))) (fun y => (y.1.2.1, y.2.1)) (fun _ => rfl)
noncomputable def Z3H : Nat → List Int → List Bool → Bool → Int → Int → Option (List Int)
 | 0, _, _, _, _, _ => none
 | k + 1, o1, o2, v2, v36, v37 =>
  if decide (v37 < v36) = true then if (0 : Int) ≤ v37 then if v37 < (↑(List.length o2) : Int) then if (List.getD o2 (Int.toNat v37) false == v2) = true then if List.length o1 + List.length [v37] ≤ (140737488355328 / 8 : Nat) then Z3H k (o1 ++ [v37]) o2 v2 v36 (wrap64 (v37 + (1 : Int))) else none else Z3H k o1 o2 v2 v36 (wrap64 (v37 + (1 : Int))) else none else none else some o1
noncomputable def ZbT : Spec := Spec.mk [OSh.ro, OSh.row true (3 : Nat) (Ty.int .i64), OSh.row true (4 : Nat) Ty.bool] [((2 : Nat), TSh.at Sh.bool), ((10 : Nat), TSh.at (Sh.sl (1 : Nat))), ((35 : Nat), TSh.at (Sh.sl (2 : Nat))), ((36 : Nat), TSh.at (Sh.int .i64)), ((37 : Nat), TSh.at (Sh.int .i64))]
noncomputable def ZrK : Spec := Spec.mk [OSh.ro, OSh.row true (3 : Nat) (Ty.int .i64)] [((10 : Nat), TSh.at (Sh.sl (1 : Nat)))]
noncomputable def Z4y : LoopDef (Tup Z4O × OutD) := .plain ZbT ZrK (List Int) (fun k x => Z3H k x.1.2.1 x.1.2.2.1 x.2.1 x.2.2.2.2.1 x.2.2.2.2.2.1) (fun z => (((), z, ()), ((), ()))) (fun y => (y.1.2.1)) (fun _ => rfl)
noncomputable def Z8n : Nat → Int × Int × List (Int × Int) → List (Int × Int × Int) → Bool → Option (List Int)
 | 0, _, _, _ => none
 | k + 1, p0, p1, p2 =>
  if Int.toNat (↑(List.length p0.2.2) : Int) * (1 : Nat) ≤ (281474976710656 : Nat) then Option.bind (Z55 k p0.1 p0.2.1 p0.2.2 (List.replicate (Int.toNat (↑(List.length p0.2.2) : Int)) false) p2 p1 (↑(List.length p1) : Int) (0 : Int)) fun z0 => Option.bind (Z3H k [] z0.1 z0.2 (↑(List.length z0.1) : Int) (0 : Int)) fun z1 => some z1 else none
noncomputable def Z2Q : FnDef := .of ZjT Z4O (List Int) (fun k x => Z8n k x.1 x.2.1 x.2.2.1) ZiH Zin Zpn
noncomputable def Z8p : Code := Tryz.f52.body.getD .skip
noncomputable def Z29 : Ctx (Tup Z4O × OutD) := { T := T, G := [], mvs := [], no := 0, n := 51, res := resOf T ZjT Z4O Tryz.f52.results.toList, loops := [(0, Z4A.E), (2, Z4y.E)], regs := [], conds := [], cuts := [] }
theorem Zeq (k : Nat) : EnvOK Tryz.prog k Z29.G := (EnvOK.nil mixed)
noncomputable def Z8M : Code := (findLoop 0 Z8p).getD .skip
theorem Zrq (k : Nat) (x : ZbU.D) : Z4A.lp (k + 1) x = loopK Z29 Z4A 0 Z8M k x := by kernel_rfl
theorem Zr2 (k : Nat) : LOK Tryz.prog Z29 k Z8M := LOK.by [] (by kernel_rfl) AllOK.nil
theorem Zs5 (x : ZbU.D) : Z4A.lp 0 x = none := by kernel_rfl
theorem ZpQ (k : Nat) : EOK Tryz.prog Z29 k Z4A.E (.block 0 (.loop Z8M)) := Zr T_ok Zeq Zs5 Zrq Zr2 k
noncomputable def Z8N : Code := (findLoop 2 Z8p).getD .skip
theorem ZrU (k : Nat) (x : ZbT.D) : Z4y.lp (k + 1) x = loopK Z29 Z4y 2 Z8N k x := by kernel_rfl
theorem Zr5 (k : Nat) : LOK Tryz.prog Z29 k Z8N := LOK.by [] (by kernel_rfl) AllOK.nil
theorem Zsl (x : ZbT.D) : Z4y.lp 0 x = none := by kernel_rfl
theorem Zp8 (k : Nat) : EOK Tryz.prog Z29 k Z4y.E (.block 2 (.loop Z8N)) := Zr T_ok Zeq Zsl ZrU Zr5 k
theorem Zx3 (k : Nat) (x : Tup Z2Q.ps) : Z2Q.f (k + 1) x = fnK Z2Q Z29 Z8p k x := by kernel_rfl
theorem Zwo (x : Tup Z2Q.ps) : Z2Q.f 0 x = none := by kernel_rfl
theorem Zw7 (k : Nat) : LOK Tryz.prog Z29 k Z8p := LOK.by [(Z4A.E, .block 0 (.loop Z8M)), (Z4y.E, .block 2 (.loop Z8N))] (by kernel_rfl) (AllOK.cons (ZpQ k) (AllOK.cons (Zp8 k) AllOK.nil))
theorem Zk1 (k : Nat) : SoundAt Tryz.prog k 52 Z2Q.E := @Zk Tryz.prog Z2Q Z29 52 Tryz.f52 Z8p (by kernel_rfl) (by kernel_rfl) (by kernel_rfl) Tryz.func52 (by kernel_rfl) (by kernel_rfl) (by kernel_rfl) T_ok Zeq Zw7 Zwo Zx3 k
noncomputable def ZaR : List PK := [PK.mk Ty.bool false none false none]
noncomputable def Ztc : List PK := [PK.mk (Ty.slice (3 : Nat) (Ty.int .i64)) false none false none, PK.mk (Ty.int .i64) false none false none]
noncomputable def Zi5 (r : Bool) : Tup ZaR × OutD := ((r, ()), none)
noncomputable def Zi2 : Tup ZaR × OutD → Option (Bool)
 | (a, none) => some (a.1)
 | _ => none
theorem ZkO : ∀ b r, Zi2 b = some r → Zi5 r = b := by
 rintro ⟨a, o⟩ r h
 cases o with
 | none => injection h with h; subst h; rfl
 | some _ => cases h
noncomputable def Z8f : Nat → Int → List Int → Int → Int → Option (LR Unit Bool)
 | 0, _, _, _, _ => none
 | k + 1, v1, v7, v8, v9 =>
  if decide (v9 < v8) = true then if (0 : Int) ≤ v9 then if v9 < (↑(List.length v7) : Int) then if decide (List.getD v7 (Int.toNat v9) (0 : Int) = v1) = true then some (LR.ret true) else Z8f k v1 v7 v8 (wrap64 (v9 + (1 : Int))) else none else none else some (LR.go ())
noncomputable def Zfk : Spec := Spec.mk [OSh.ro] [((1 : Nat), TSh.at (Sh.int .i64)), ((7 : Nat), TSh.at (Sh.snap (0 : Nat) (Ty.int .i64))), ((8 : Nat), TSh.at (Sh.int .i64)), ((9 : Nat), TSh.at (Sh.int .i64))]
noncomputable def Zzl : Spec := Spec.mk [OSh.ro] []
noncomputable def Z7a : LoopDef (Tup ZaR × OutD) := .rets Zfk Zzl (Unit) (Bool) (fun k x => Z8f k x.2.1 x.2.2.1 x.2.2.2.1 x.2.2.2.2.1) (fun z => (((), ()), (()))) (fun y => ()) (fun _ => rfl) Zi5 Zi2 ZkO
noncomputable def Zfu : Nat → List Int → Int → Option Bool
 | 0, _, _ => none
 | k + 1, p0, p1 =>
  Option.bind (Z8f k p1 p0 (↑(List.length p0) : Int) (0 : Int)) fun z0 => LR.on z0 (fun y0 => some false) fun r0 => some r0
noncomputable def Z6X : FnDef := .of Ztc ZaR (Bool) (fun k x => Zfu k x.1 x.2.1) Zi5 Zi2 ZkO
noncomputable def Zfp : Code := Tryz.f54.body.getD .skip
noncomputable def Z8G : Ctx (Tup ZaR × OutD) := { T := T, G := [], mvs := [], no := 0, n := 17, res := resOf T Ztc ZaR Tryz.f54.results.toList, loops := [(0, Z7a.E)], regs := [], conds := [], cuts := [] }
theorem ZsE (k : Nat) : EnvOK Tryz.prog k Z8G.G := (EnvOK.nil mixed)
noncomputable def Zc9 : Code := (findLoop 0 Zfp).getD .skip
theorem ZyK (k : Nat) (x : Zfk.D) : Z7a.lp (k + 1) x = loopK Z8G Z7a 0 Zc9 k x := by kernel_rfl
theorem ZxH (k : Nat) : LOK Tryz.prog Z8G k Zc9 := LOK.by [] (by kernel_rfl) AllOK.nil
theorem ZyG (x : Zfk.D) : Z7a.lp 0 x = none := by kernel_rfl
theorem ZwR (k : Nat) : EOK Tryz.prog Z8G k Z7a.E (.block 0 (.loop Zc9)) := Zr T_ok ZsE ZyG ZyK ZxH k
theorem ZDe (k : Nat) (x : Tup Z6X.ps) : Z6X.f (k + 1) x = fnK Z6X Z8G Zfp k x := by kernel_rfl
theorem ZCE (x : Tup Z6X.ps) : Z6X.f 0 x = none := by kernel_rfl
theorem ZDB (k : Nat) : LOK Tryz.prog Z8G k Zfp := LOK.by [(Z7a.E, .block 0 (.loop Zc9))] (by kernel_rfl) (AllOK.cons (ZwR k) AllOK.nil)
theorem ZD2 (k : Nat) : SoundAt Tryz.prog k 54 Z6X.E := @Zk Tryz.prog Z6X Z8G 54 Tryz.f54 Zfp (by kernel_rfl) (by kernel_rfl) (by kernel_rfl) Tryz.func54 (by kernel_rfl) (by kernel_rfl) (by kernel_rfl) T_ok ZsE ZDB ZCE ZDe k
noncomputable def ZdP : List PK := [PK.mk Ty.bool false none false none]
noncomputable def ZvH : List PK := [PK.mk (Ty.int .i64) false none false none, PK.mk (Ty.int .i64) false none false none, PK.mk (Ty.int .i64) false none false none]
noncomputable def ZsL (r : Bool) : Tup ZdP × OutD := ((r, ()), none)
noncomputable def Zt7 : Tup ZdP × OutD → Option (Bool)
 | (a, none) => some (a.1)
 | _ => none
theorem ZyA : ∀ b r, Zt7 b = some r → ZsL r = b := by
 rintro ⟨a, o⟩ r h
 cases o with
 | none => injection h with h; subst h; rfl
 | some _ => cases h
noncomputable def Z2L : Nat → Int → Int → Int → Option Bool
 | 0, _, _, _ => none
 | k + 1, p0, p1, p2 =>
  if decide (p0 ≥ p1) = true then some (decide (p0 ≤ p2)) else some false
noncomputable def Z2K : FnDef := .of ZvH ZdP (Bool) (fun k x => Z2L k x.1 x.2.1 x.2.2.1) ZsL Zt7 ZyA
noncomputable def Zmo : Code := Tryz.f59.body.getD .skip
noncomputable def Zhb : Ctx (Tup ZdP × OutD) := { T := T, G := [], mvs := [], no := 0, n := 15, res := resOf T ZvH ZdP Tryz.f59.results.toList, loops := [], regs := [], conds := [], cuts := [] }
theorem ZFc (k : Nat) : EnvOK Tryz.prog k Zhb.G := (EnvOK.nil mixed)
theorem ZFw (k : Nat) (x : Tup Z2K.ps) : Z2K.f (k + 1) x = fnK Z2K Zhb Zmo k x := by kernel_rfl
theorem ZFh (x : Tup Z2K.ps) : Z2K.f 0 x = none := by kernel_rfl
theorem ZFf (k : Nat) : LOK Tryz.prog Zhb k Zmo := LOK.by [] (by kernel_rfl) AllOK.nil
theorem Za5 (k : Nat) : SoundAt Tryz.prog k 59 Z2K.E := @Zk Tryz.prog Z2K Zhb 59 Tryz.f59 Zmo (by kernel_rfl) (by kernel_rfl) (by kernel_rfl) Tryz.func59 (by kernel_rfl) (by kernel_rfl) (by kernel_rfl) T_ok ZFc ZFf ZFh ZFw k
noncomputable def ZcR : List PK := [PK.mk Ty.str false none false none]
noncomputable def Zt9 : List PK := [PK.mk (Ty.int .i64) false none false none]
noncomputable def ZqV (r : ByteArray) : Tup ZcR × OutD := ((r, ()), none)
noncomputable def ZqF : Tup ZcR × OutD → Option (ByteArray)
 | (a, none) => some (a.1)
 | _ => none
theorem Zxk : ∀ b r, ZqF b = some r → ZqV r = b := by
 rintro ⟨a, o⟩ r h
 cases o with
 | none => injection h with h; subst h; rfl
 | some _ => cases h
noncomputable def Z8C : Nat → Int → Option ByteArray
 | 0, _ => none
 | k + 1, p0 =>
  if decide (p0 < (10 : Int)) = true then some (bytesOf [IntKind.wrap IntKind.u8 (wrap64 ((48 : Int) + p0))]) else none
noncomputable def Z6Y : FnDef := .of Zt9 ZcR (ByteArray) (fun k x => Z8C k x.1) ZqV ZqF Zxk
noncomputable def Zkf : Code := Tryz.f76.body.getD .skip
noncomputable def ZfD : Ctx (Tup ZcR × OutD) := { T := T, G := [], mvs := [], no := 0, n := 20, res := resOf T Zt9 ZcR Tryz.f76.results.toList, loops := [], regs := [], conds := [], cuts := [] }
theorem ZD3 (k : Nat) : EnvOK Tryz.prog k ZfD.G := (EnvOK.nil mixed)
theorem ZE9 (k : Nat) (x : Tup Z6Y.ps) : Z6Y.f (k + 1) x = fnK Z6Y ZfD Zkf k x := by kernel_rfl
theorem ZEc (x : Tup Z6Y.ps) : Z6Y.f 0 x = none := by kernel_rfl
theorem ZDS (k : Nat) : LOK Tryz.prog ZfD k Zkf := LOK.by [] (by kernel_rfl) AllOK.nil
theorem ZDN (k : Nat) : SoundAt Tryz.prog k 76 Z6Y.E := @Zk Tryz.prog Z6Y ZfD 76 Tryz.f76 Zkf (by kernel_rfl) (by kernel_rfl) (by kernel_rfl) Tryz.func76 (by kernel_rfl) (by kernel_rfl) (by kernel_rfl) T_ok ZD3 ZDS ZEc ZE9 k
noncomputable def ZaL : List PK := [PK.mk (Ty.slice (9 : Nat) Ty.str) false none false none]
noncomputable def ZoO : List PK := []
noncomputable def ZlG (r : List ByteArray) : Tup ZaL × OutD := ((r, ()), none)
noncomputable def ZlZ : Tup ZaL × OutD → Option (List ByteArray)
 | (a, none) => some (a.1)
 | _ => none
theorem ZtZ : ∀ b r, ZlZ b = some r → ZlG r = b := by
 rintro ⟨a, o⟩ r h
 cases o with
 | none => injection h with h; subst h; rfl
 | some _ => cases h
noncomputable def ZnI : Nat → Option (List ByteArray)
 | 0 => none
 | k + 1 =>
  some [ByteArray.mk #[], ByteArray.mk #[(115 : UInt8), (116 : UInt8), (117 : UInt8), (99 : UInt8), (107 : UInt8)], ByteArray.mk #[(104 : UInt8), (111 : UInt8), (108 : UInt8), (101 : UInt8)], ByteArray.mk #[(116 : UInt8), (117 : UInt8), (114 : UInt8), (110 : UInt8), (101 : UInt8), (100 : UInt8)]]
noncomputable def Z5a : FnDef := .of ZoO ZaL (List ByteArray) (fun k x => ZnI k) ZlG ZlZ ZtZ
noncomputable def ZgV : Code := Tryz.f81.body.getD .skip
noncomputable def Zdd : Ctx (Tup ZaL × OutD) := { T := T, G := [], mvs := [], no := 0, n := 2, res := resOf T ZoO ZaL Tryz.f81.results.toList, loops := [], regs := [], conds := [], cuts := [] }
theorem ZzY (k : Nat) : EnvOK Tryz.prog k Zdd.G := (EnvOK.nil mixed)
theorem ZzA (k : Nat) (x : Tup Z5a.ps) : Z5a.f (k + 1) x = fnK Z5a Zdd ZgV k x := by kernel_rfl
theorem ZzR (x : Tup Z5a.ps) : Z5a.f 0 x = none := by kernel_rfl
theorem Zzr (k : Nat) : LOK Tryz.prog Zdd k ZgV := LOK.by [] (by kernel_rfl) AllOK.nil
theorem ZzX (k : Nat) : SoundAt Tryz.prog k 81 Z5a.E := @Zk Tryz.prog Z5a Zdd 81 Tryz.f81 ZgV (by kernel_rfl) (by kernel_rfl) (by kernel_rfl) Tryz.func81 (by kernel_rfl) (by kernel_rfl) (by kernel_rfl) T_ok ZzY Zzr ZzR ZzA k
noncomputable def ZcC : List PK := [PK.mk (Ty.slice (3 : Nat) (Ty.int .i64)) false none false none]
noncomputable def ZtO : List PK := [PK.mk (Ty.slice (3 : Nat) (Ty.int .i64)) false none false none]
noncomputable def ZqR (r : List Int) : Tup ZcC × OutD := ((r, ()), none)
noncomputable def ZqD : Tup ZcC × OutD → Option (List Int)
 | (a, none) => some (a.1)
 | _ => none
theorem ZwY : ∀ b r, ZqD b = some r → ZqR r = b := by
 rintro ⟨a, o⟩ r h
 cases o with
 | none => injection h with h; subst h; rfl
 | some _ => cases h
noncomputable def Zi : Nat → List Int → Option (List Int)
 | 0, _ => none
 | k + 1, p0 =>
  if (0 : Nat) + List.length p0 ≤ (140737488355328 / 8 : Nat) then some p0 else none
noncomputable def Z72 : FnDef := .of ZtO ZcC (List Int) (fun k x => Zi k x.1) ZqR ZqD ZwY
noncomputable def Zkt : Code := Tryz.f92.body.getD .skip
noncomputable def Zff : Ctx (Tup ZcC × OutD) := { T := T, G := [], mvs := [], no := 0, n := 6, res := resOf T ZtO ZcC Tryz.f92.results.toList, loops := [], regs := [], conds := [], cuts := [] }
theorem ZCy (k : Nat) : EnvOK Tryz.prog k Zff.G := (EnvOK.nil mixed)
theorem ZDX (k : Nat) (x : Tup Z72.ps) : Z72.f (k + 1) x = fnK Z72 Zff Zkt k x := by kernel_rfl
theorem ZEg (x : Tup Z72.ps) : Z72.f 0 x = none := by kernel_rfl
theorem ZDK (k : Nat) : LOK Tryz.prog Zff k Zkt := LOK.by [] (by kernel_rfl) AllOK.nil
theorem ZEi (k : Nat) : SoundAt Tryz.prog k 92 Z72.E := @Zk Tryz.prog Z72 Zff 92 Tryz.f92 Zkt (by kernel_rfl) (by kernel_rfl) (by kernel_rfl) Tryz.func92 (by kernel_rfl) (by kernel_rfl) (by kernel_rfl) T_ok ZCy ZDK ZEg ZDX k
noncomputable def Zat : List PK := [PK.mk (Ty.slice (3 : Nat) (Ty.int .i64)) false none false none]
noncomputable def Zt1 : List PK := [PK.mk (Ty.slice (3 : Nat) (Ty.int .i64)) false (some ((0 : Nat), (3 : Nat), Ty.int .i64)) true none, PK.mk (Ty.int .i64) false none false none]
noncomputable def Zql (r : List Int) : Tup Zat × OutD := ((r, ()), none)
noncomputable def ZqT : Tup Zat × OutD → Option (List Int)
 | (a, none) => some (a.1)
 | _ => none
theorem Zwu : ∀ b r, ZqT b = some r → Zql r = b := by
 rintro ⟨a, o⟩ r h
 cases o with
 | none => injection h with h; subst h; rfl
 | some _ => cases h
noncomputable def Z6w : Nat → List Int → Int → Int → Option (List Int × Int × Int)
 | 0, _, _, _ => none
 | k + 1, o1, v1, v5 =>
  if decide (v5 < (↑(List.length o1) : Int)) = true then if (0 : Int) ≤ v5 then if v5 < (↑(List.length o1) : Int) then if decide (List.getD o1 (Int.toNat v5) (0 : Int) < v1) = true then Z6w k o1 v1 (wrap64 (v5 + (1 : Int))) else some (o1, v1, v5) else none else none else some (o1, v1, v5)
noncomputable def Zf2 : Spec := Spec.mk [OSh.ro, OSh.row true (3 : Nat) (Ty.int .i64)] [((0 : Nat), TSh.at (Sh.sl (1 : Nat))), ((1 : Nat), TSh.at (Sh.int .i64)), ((5 : Nat), TSh.at (Sh.int .i64))]
noncomputable def Zxy : Spec := Spec.mk [OSh.ro, OSh.row true (3 : Nat) (Ty.int .i64)] [((0 : Nat), TSh.at (Sh.sl (1 : Nat))), ((1 : Nat), TSh.at (Sh.int .i64)), ((5 : Nat), TSh.at (Sh.int .i64))]
noncomputable def Z7e : LoopDef (Tup Zat × OutD) := .plain Zf2 Zxy (List Int × Int × Int) (fun k x => Z6w k x.1.2.1 x.2.2.1 x.2.2.2.1) (fun z => (((), z.1, ()), ((), z.2.1, z.2.2, ()))) (fun y => (y.1.2.1, y.2.2.1, y.2.2.2.1)) (fun _ => rfl)
noncomputable def ZfU : Nat → List Int → Int → Option (List Int)
 | 0, _, _ => none
 | k + 1, p0, p1 =>
  Option.bind (Z6w k p0 p1 (0 : Int)) fun z0 => if decide (Prod.snd z0.2 < (↑(List.length z0.1) : Int)) = true then if (0 : Int) ≤ Prod.snd z0.2 then if Prod.snd z0.2 < (↑(List.length z0.1) : Int) then if decide (List.getD z0.1 (Int.toNat z0.2.2) (0 : Int) = Prod.fst z0.2) = true then some z0.1 else if (0 : Int) ≤ Prod.snd z0.2 then if Prod.snd z0.2 ≤ (↑(List.length z0.1) : Int) then if (0 : Nat) + List.length (List.take (Int.toNat z0.2.2 - Int.toNat (0 : Int)) (List.drop (Int.toNat (0 : Int)) z0.1)) ≤ (140737488355328 / 8 : Nat) then if List.length (List.take (Int.toNat z0.2.2 - Int.toNat (0 : Int)) (List.drop (Int.toNat (0 : Int)) z0.1)) + List.length [Prod.fst z0.2] ≤ (140737488355328 / 8 : Nat) then if (0 : Int) ≤ Prod.snd z0.2 then if Prod.snd z0.2 ≤ (↑(List.length z0.1) : Int) then if (↑(List.length z0.1) : Int) ≤ (↑(List.length z0.1) : Int) then if List.length (List.take (Int.toNat z0.2.2 - Int.toNat (0 : Int)) (List.drop (Int.toNat (0 : Int)) z0.1) ++ [Prod.fst z0.2]) + List.length (List.take (Int.toNat (↑(List.length z0.1) : Int) - Int.toNat z0.2.2) (List.drop (Int.toNat z0.2.2) z0.1)) ≤ (140737488355328 / 8 : Nat) then some (List.take (Int.toNat z0.2.2 - Int.toNat (0 : Int)) (List.drop (Int.toNat (0 : Int)) z0.1) ++ [Prod.fst z0.2] ++ List.take (Int.toNat (↑(List.length z0.1) : Int) - Int.toNat z0.2.2) (List.drop (Int.toNat z0.2.2) z0.1)) else none else none else none else none else none else none else none else none else none else none else if (0 : Int) ≤ Prod.snd z0.2 then if Prod.snd z0.2 ≤ (↑(List.length z0.1) : Int) then if (0 : Nat) + List.length (List.take (Int.toNat z0.2.2 - Int.toNat (0 : Int)) (List.drop (Int.toNat (0 : Int)) z0.1)) ≤ (140737488355328 / 8 : Nat) then if List.length (List.take (Int.toNat z0.2.2 - Int.toNat (0 : Int)) (List.drop (Int.toNat (0 : Int)) z0.1)) + List.length [Prod.fst z0.2] ≤ (140737488355328 / 8 : Nat) then if (0 : Int) ≤ Prod.snd z0.2 then if Prod.snd z0.2 ≤ (↑(List.length z0.1) : Int) then if (↑(List.length z0.1) : Int) ≤ (↑(List.length z0.1) : Int) then if List.length (List.take (Int.toNat z0.2.2 - Int.toNat (0 : Int)) (List.drop (Int.toNat (0 : Int)) z0.1) ++ [Prod.fst z0.2]) + List.length (List.take (Int.toNat (↑(List.length z0.1) : Int) - Int.toNat z0.2.2) (List.drop (Int.toNat z0.2.2) z0.1)) ≤ (140737488355328 / 8 : Nat) then some (List.take (Int.toNat z0.2.2 - Int.toNat (0 : Int)) (List.drop (Int.toNat (0 : Int)) z0.1) ++ [Prod.fst z0.2] ++ List.take (Int.toNat (↑(List.length z0.1) : Int) - Int.toNat z0.2.2) (List.drop (Int.toNat z0.2.2) z0.1)) else none else none else none else none else none else none else none else none
noncomputable def Z6Q : FnDef := .of Zt1 Zat (List Int) (fun k x => ZfU k x.1 x.2.1) Zql ZqT Zwu
noncomputable def Zfc : Code := Tryz.f93.body.getD .skip
noncomputable def Z8B : Ctx (Tup Zat × OutD) := { T := T, G := [], mvs := [], no := 1, n := 48, res := resOf T Zt1 Zat Tryz.f93.results.toList, loops := [(0, Z7e.E)], regs := [], conds := [], cuts := [] }
theorem Zt2 (k : Nat) : EnvOK Tryz.prog k Z8B.G := (EnvOK.nil mixed)
noncomputable def Zcf : Code := (findLoop 0 Zfc).getD .skip
theorem ZyJ (k : Nat) (x : Zf2.D) : Z7e.lp (k + 1) x = loopK Z8B Z7e 0 Zcf k x := by kernel_rfl
theorem Zz9 (k : Nat) : LOK Tryz.prog Z8B k Zcf := LOK.by [] (by kernel_rfl) AllOK.nil
theorem Zyc (x : Zf2.D) : Z7e.lp 0 x = none := by kernel_rfl
theorem ZwA (k : Nat) : EOK Tryz.prog Z8B k Z7e.E (.block 0 (.loop Zcf)) := Zr T_ok Zt2 Zyc ZyJ Zz9 k
theorem ZCN (k : Nat) (x : Tup Z6Q.ps) : Z6Q.f (k + 1) x = fnK Z6Q Z8B Zfc k x := by kernel_rfl
theorem ZCF (x : Tup Z6Q.ps) : Z6Q.f 0 x = none := by kernel_rfl
theorem ZDv (k : Nat) : LOK Tryz.prog Z8B k Zfc := LOK.by [(Z7e.E, .block 0 (.loop Zcf))] (by kernel_rfl) (AllOK.cons (ZwA k) AllOK.nil)
theorem ZEL (k : Nat) : SoundAt Tryz.prog k 93 Z6Q.E := @Zk Tryz.prog Z6Q Z8B 93 Tryz.f93 Zfc (by kernel_rfl) (by kernel_rfl) (by kernel_rfl) Tryz.func93 (by kernel_rfl) (by kernel_rfl) (by kernel_rfl) T_ok Zt2 ZDv ZCF ZCN k
noncomputable def ZbI : List PK := [PK.mk (Ty.int .i64) false none false none]
noncomputable def ZqS : List PK := [PK.mk (Ty.int .i64) false none false none, PK.mk (Ty.int .i64) false none false none]
noncomputable def ZoQ (r : Int) : Tup ZbI × OutD := ((r, ()), none)
noncomputable def Zol : Tup ZbI × OutD → Option (Int)
 | (a, none) => some (a.1)
 | _ => none
theorem Zvm : ∀ b r, Zol b = some r → ZoQ r = b := by
 rintro ⟨a, o⟩ r h
 cases o with
 | none => injection h with h; subst h; rfl
 | some _ => cases h
noncomputable def ZbL : Nat → Int → Int → Option Int
 | 0, _, _ => none
 | k + 1, p0, p1 =>
  if decide (p0 > p1) = true then some p0 else some p1
noncomputable def Z5Q : FnDef := .of ZqS ZbI (Int) (fun k x => ZbL k x.1 x.2.1) ZoQ Zol Zvm
noncomputable def ZhS : Code := Tryz.f98.body.getD .skip
noncomputable def Zec : Ctx (Tup ZbI × OutD) := { T := T, G := [], mvs := [], no := 0, n := 10, res := resOf T ZqS ZbI Tryz.f98.results.toList, loops := [], regs := [], conds := [], cuts := [] }
theorem ZBe (k : Nat) : EnvOK Tryz.prog k Zec.G := (EnvOK.nil mixed)
theorem ZBv (k : Nat) (x : Tup Z5Q.ps) : Z5Q.f (k + 1) x = fnK Z5Q Zec ZhS k x := by kernel_rfl
theorem ZBL (x : Tup Z5Q.ps) : Z5Q.f 0 x = none := by kernel_rfl
theorem ZBJ (k : Nat) : LOK Tryz.prog Zec k ZhS := LOK.by [] (by kernel_rfl) AllOK.nil
theorem ZAX (k : Nat) : SoundAt Tryz.prog k 98 Z5Q.E := @Zk Tryz.prog Z5Q Zec 98 Tryz.f98 ZhS (by kernel_rfl) (by kernel_rfl) (by kernel_rfl) Tryz.func98 (by kernel_rfl) (by kernel_rfl) (by kernel_rfl) T_ok ZBe ZBJ ZBL ZBv k
noncomputable def ZdH : List PK := [PK.mk (Ty.pair (Ty.int .i64) (Ty.int .i64)) true none false none]
noncomputable def ZvR : List PK := [PK.mk (Ty.pair (Ty.int .i64) (Ty.pair (Ty.int .i64) (Ty.slice (122 : Nat) (Ty.pair (Ty.int .i64) (Ty.int .i64))))) true none false none, PK.mk (Ty.int .i64) false none false none, PK.mk (Ty.int .i64) false none false none]
noncomputable def Ztd (r : Int × Int) : Tup ZdH × OutD := ((r, ()), none)
noncomputable def Zsu : Tup ZdH × OutD → Option (Int × Int)
 | (a, none) => some (a.1)
 | _ => none
theorem Zxp : ∀ b r, Zsu b = some r → Ztd r = b := by
 rintro ⟨a, o⟩ r h
 cases o with
 | none => injection h with h; subst h; rfl
 | some _ => cases h
noncomputable def Z9S : Nat → Int × Int × List (Int × Int) → Int → Int → Option (Int × Int)
 | 0, _, _, _ => none
 | k + 1, p0, p1, p2 =>
  if (0 : Int) ≤ wrap64 (wrap64 (p1 * Prod.fst p0.2) + p2) then if wrap64 (wrap64 (p1 * Prod.fst p0.2) + p2) < (↑(List.length p0.2.2) : Int) then some (Prod.fst (List.getD p0.2.2 (Int.toNat (wrap64 (wrap64 (p1 * Prod.fst p0.2) + p2))) ((0 : Int), (0 : Int))), Prod.snd (List.getD p0.2.2 (Int.toNat (wrap64 (wrap64 (p1 * Prod.fst p0.2) + p2))) ((0 : Int), (0 : Int)))) else none else none
noncomputable def Z6z : FnDef := .of ZvR ZdH (Int × Int) (fun k x => Z9S k x.1 x.2.1 x.2.2.1) Ztd Zsu Zxp
noncomputable def Zmf : Code := Tryz.f105.body.getD .skip
noncomputable def Zh4 : Ctx (Tup ZdH × OutD) := { T := T, G := [], mvs := [], no := 0, n := 17, res := resOf T ZvR ZdH Tryz.f105.results.toList, loops := [], regs := [], conds := [], cuts := [] }
theorem ZFd (k : Nat) : EnvOK Tryz.prog k Zh4.G := (EnvOK.nil mixed)
theorem ZFA (k : Nat) (x : Tup Z6z.ps) : Z6z.f (k + 1) x = fnK Z6z Zh4 Zmf k x := by kernel_rfl
theorem ZF6 (x : Tup Z6z.ps) : Z6z.f 0 x = none := by kernel_rfl
theorem ZFy (k : Nat) : LOK Tryz.prog Zh4 k Zmf := LOK.by [] (by kernel_rfl) AllOK.nil
theorem ZvD (k : Nat) : SoundAt Tryz.prog k 105 Z6z.E := @Zk Tryz.prog Z6z Zh4 105 Tryz.f105 Zmf (by kernel_rfl) (by kernel_rfl) (by kernel_rfl) Tryz.func105 (by kernel_rfl) (by kernel_rfl) (by kernel_rfl) T_ok ZFd ZFy ZF6 ZFA k
noncomputable def Z9j : List PK := [PK.mk (Ty.int .i64) false none false none]
noncomputable def ZqH : List PK := [PK.mk (Ty.slice (67 : Nat) (Ty.pair (Ty.int .i64) (Ty.pair (Ty.int .i64) (Ty.int .i64)))) false none false none, PK.mk (Ty.slice (67 : Nat) (Ty.pair (Ty.int .i64) (Ty.pair (Ty.int .i64) (Ty.int .i64)))) false none false none]
noncomputable def Zh2 (r : Int) : Tup Z9j × OutD := ((r, ()), none)
noncomputable def ZgB : Tup Z9j × OutD → Option (Int)
 | (a, none) => some (a.1)
 | _ => none
theorem ZiJ : ∀ b r, ZgB b = some r → Zh2 r = b := by
 rintro ⟨a, o⟩ r h
 cases o with
 | none => injection h with h; subst h; rfl
 | some _ => cases h
noncomputable def Z7i : Nat → List (Int × Int × Int) → List (Int × Int × Int) → Int → Int → Option (LR Unit Int)
 | 0, _, _, _, _ => none
 | k + 1, v1, v7, v8, v9 =>
  if decide (v9 < v8) = true then if (0 : Int) ≤ v9 then if v9 < (↑(List.length v7) : Int) then if (0 : Int) ≤ v9 then if v9 < (↑(List.length v1) : Int) then if (!(decide (Prod.fst (List.getD v7 (Int.toNat v9) ((0 : Int), (0 : Int), (0 : Int))) = Prod.fst (List.getD v1 (Int.toNat v9) ((0 : Int), (0 : Int), (0 : Int)))) && (decide (Prod.fst (Prod.snd (List.getD v7 (Int.toNat v9) ((0 : Int), (0 : Int), (0 : Int)))) = Prod.fst (Prod.snd (List.getD v1 (Int.toNat v9) ((0 : Int), (0 : Int), (0 : Int))))) && (decide (Prod.snd (Prod.snd (List.getD v7 (Int.toNat v9) ((0 : Int), (0 : Int), (0 : Int)))) = Prod.snd (Prod.snd (List.getD v1 (Int.toNat v9) ((0 : Int), (0 : Int), (0 : Int))))) && true)))) = true then some (LR.ret v9) else Z7i k v1 v7 v8 (wrap64 (v9 + (1 : Int))) else none else none else none else none else some (LR.go ())
noncomputable def Zez : Spec := Spec.mk [OSh.ro] [((1 : Nat), TSh.at (Sh.snap (0 : Nat) (Ty.pair (Ty.int .i64) (Ty.pair (Ty.int .i64) (Ty.int .i64))))), ((7 : Nat), TSh.at (Sh.snap (0 : Nat) (Ty.pair (Ty.int .i64) (Ty.pair (Ty.int .i64) (Ty.int .i64))))), ((8 : Nat), TSh.at (Sh.int .i64)), ((9 : Nat), TSh.at (Sh.int .i64))]
noncomputable def Zxa : Spec := Spec.mk [OSh.ro] []
noncomputable def Z6e : LoopDef (Tup Z9j × OutD) := .rets Zez Zxa (Unit) (Int) (fun k x => Z7i k x.2.1 x.2.2.1 x.2.2.2.1 x.2.2.2.2.1) (fun z => (((), ()), (()))) (fun y => ()) (fun _ => rfl) Zh2 ZgB ZiJ
noncomputable def Zej : Nat → List (Int × Int × Int) → List (Int × Int × Int) → Option Int
 | 0, _, _ => none
 | k + 1, p0, p1 =>
  Option.bind (Z7i k p1 p0 (↑(List.length p0) : Int) (0 : Int)) fun z0 => LR.on z0 (fun y0 => some (-1 : Int)) fun r0 => some r0
noncomputable def Z5P : FnDef := .of ZqH Z9j (Int) (fun k x => Zej k x.1 x.2.1) Zh2 ZgB ZiJ
noncomputable def Ze8 : Code := Tryz.f106.body.getD .skip
noncomputable def Z7w : Ctx (Tup Z9j × OutD) := { T := T, G := [], mvs := [], no := 0, n := 22, res := resOf T ZqH Z9j Tryz.f106.results.toList, loops := [(0, Z6e.E)], regs := [], conds := [], cuts := [] }
theorem ZqU (k : Nat) : EnvOK Tryz.prog k Z7w.G := (EnvOK.nil mixed)
noncomputable def Zb7 : Code := (findLoop 0 Ze8).getD .skip
theorem Zxf (k : Nat) (x : Zez.D) : Z6e.lp (k + 1) x = loopK Z7w Z6e 0 Zb7 k x := by kernel_rfl
theorem Zwv (k : Nat) : LOK Tryz.prog Z7w k Zb7 := LOK.by [] (by kernel_rfl) AllOK.nil
theorem Zwd (x : Zez.D) : Z6e.lp 0 x = none := by kernel_rfl
theorem Zvw (k : Nat) : EOK Tryz.prog Z7w k Z6e.E (.block 0 (.loop Zb7)) := Zr T_ok ZqU Zwd Zxf Zwv k
theorem ZB5 (k : Nat) (x : Tup Z5P.ps) : Z5P.f (k + 1) x = fnK Z5P Z7w Ze8 k x := by kernel_rfl
theorem ZBK (x : Tup Z5P.ps) : Z5P.f 0 x = none := by kernel_rfl
theorem ZAy (k : Nat) : LOK Tryz.prog Z7w k Ze8 := LOK.by [(Z6e.E, .block 0 (.loop Zb7))] (by kernel_rfl) (AllOK.cons (Zvw k) AllOK.nil)
theorem ZBH (k : Nat) : SoundAt Tryz.prog k 106 Z5P.E := @Zk Tryz.prog Z5P Z7w 106 Tryz.f106 Ze8 (by kernel_rfl) (by kernel_rfl) (by kernel_rfl) Tryz.func106 (by kernel_rfl) (by kernel_rfl) (by kernel_rfl) T_ok ZqU ZAy ZBK ZB5 k
noncomputable def Z7M : List PK := [PK.mk (Ty.int .i64) false none false none]
noncomputable def Zio : List PK := [PK.mk (Ty.pair (Ty.slice (5 : Nat) (Ty.int .u8)) (Ty.pair (Ty.int .i64) (Ty.int .u64))) false none false (some (82 : Nat))]
noncomputable def Zht (r : Int × Int × Int) : Tup Z7M × OutD := ((r.1, ()), some ⟨Ty.pair (Ty.slice (5 : Nat) (Ty.int .u8)) (Ty.pair (Ty.int .i64) (Ty.int .u64)), [([], r.2)]⟩)
noncomputable def Zcx : Tup Z7M × OutD → Option (Int × Int × Int)
 | (a, some ⟨u, ys⟩) => if h : u = Ty.pair (Ty.slice (5 : Nat) (Ty.int .u8)) (Ty.pair (Ty.int .i64) (Ty.int .u64)) then (match castU h ys with
  | [([], y)] => some (a.1, y)
  | _ => none) else none
 | _ => none
theorem Zou : ∀ b r, Zcx b = some r → Zht r = b := by
 rintro ⟨a, o⟩ r h
 cases o with
 | none => cases h
 | some s =>
  obtain ⟨u, ys⟩ := s
  simp only [Zcx] at h
  split at h
  ·rename_i hu
   subst hu
   match ys, h with
   | [], h => cases (show (none : Option _) = some r from h)
   | [([], y)], h => injection (show some _ = some r from h) with h; subst h; rfl
   | [(_ :: _, y)], h => cases (show (none : Option _) = some r from h)
   | (h1, _) :: _ :: _, h => cases h1 <;> cases (show (none : Option _) = some r from h)
  ·cases h
noncomputable def Z5G : Nat → List Int × Int × Int → Option (Int × Int × Int)
 | 0, _ => none
 | k + 1, p0 =>
  if decide (Prod.fst p0.2 < (↑(List.length p0.1) : Int)) = true then if (0 : Int) ≤ Prod.fst p0.2 then if Prod.fst p0.2 < (↑(List.length p0.1) : Int) then if decide (wrap64 (Prod.fst p0.2 + (1 : Int)) ≤ (↑(List.length p0.1) : Int)) = true then some (wrap64 (List.getD p0.1 (Int.toNat p0.2.1) (0 : Int)), wrap64 (Prod.fst p0.2 + (1 : Int)), IntKind.wrap IntKind.u64 (IntKind.wrap IntKind.u64 (IntKind.wrap IntKind.u64 (Prod.snd p0.2 * (6364136223846793005 : Int)) + IntKind.wrap IntKind.u64 (wrap64 (List.getD p0.1 (Int.toNat p0.2.1) (0 : Int)))) + (1442695040888963407 : Int))) else some (wrap64 (bits BinOp.and IntKind.u64 (Int.fdiv (IntKind.wrap IntKind.u64 (IntKind.wrap IntKind.u64 (IntKind.wrap IntKind.u64 (Prod.snd p0.2 * (6364136223846793005 : Int)) + IntKind.wrap IntKind.u64 (wrap64 (List.getD p0.1 (Int.toNat p0.2.1) (0 : Int)))) + (1442695040888963407 : Int))) ((2 : Int) ^ min (Int.toNat (40 : Int)) (IntKind.bits IntKind.u64))) (255 : Int)), wrap64 (Prod.fst p0.2 + (1 : Int)), IntKind.wrap IntKind.u64 (IntKind.wrap IntKind.u64 (IntKind.wrap IntKind.u64 (Prod.snd p0.2 * (6364136223846793005 : Int)) + IntKind.wrap IntKind.u64 (wrap64 (List.getD p0.1 (Int.toNat p0.2.1) (0 : Int)))) + (1442695040888963407 : Int))) else none else none else if decide (wrap64 (Prod.fst p0.2 + (1 : Int)) ≤ (↑(List.length p0.1) : Int)) = true then some ((0 : Int), wrap64 (Prod.fst p0.2 + (1 : Int)), IntKind.wrap IntKind.u64 (IntKind.wrap IntKind.u64 (IntKind.wrap IntKind.u64 (Prod.snd p0.2 * (6364136223846793005 : Int)) + IntKind.wrap IntKind.u64 (0 : Int)) + (1442695040888963407 : Int))) else some (wrap64 (bits BinOp.and IntKind.u64 (Int.fdiv (IntKind.wrap IntKind.u64 (IntKind.wrap IntKind.u64 (IntKind.wrap IntKind.u64 (Prod.snd p0.2 * (6364136223846793005 : Int)) + IntKind.wrap IntKind.u64 (0 : Int)) + (1442695040888963407 : Int))) ((2 : Int) ^ min (Int.toNat (40 : Int)) (IntKind.bits IntKind.u64))) (255 : Int)), wrap64 (Prod.fst p0.2 + (1 : Int)), IntKind.wrap IntKind.u64 (IntKind.wrap IntKind.u64 (IntKind.wrap IntKind.u64 (Prod.snd p0.2 * (6364136223846793005 : Int)) + IntKind.wrap IntKind.u64 (0 : Int)) + (1442695040888963407 : Int)))
noncomputable def Z3e : FnDef := .of Zio Z7M (Int × Int × Int) (fun k x => Z5G k x.1) Zht Zcx Zou
noncomputable def Zdx : Code := Tryz.f107.body.getD .skip
noncomputable def Zao : Ctx (Tup Z7M × OutD) := { T := T, G := [], mvs := [], no := 2, n := 62, res := resOf T Zio Z7M Tryz.f107.results.toList, loops := [], regs := [], conds := [], cuts := [] }
theorem Zv5 (k : Nat) : EnvOK Tryz.prog k Zao.G := (EnvOK.nil mixed)
theorem Zuh (k : Nat) (x : Tup Z3e.ps) : Z3e.f (k + 1) x = fnK Z3e Zao Zdx k x := by kernel_rfl
theorem ZuA (x : Tup Z3e.ps) : Z3e.f 0 x = none := by kernel_rfl
theorem Zvr (k : Nat) : LOK Tryz.prog Zao k Zdx := LOK.by [] (by kernel_rfl) AllOK.nil
theorem Zvx (k : Nat) : SoundAt Tryz.prog k 107 Z3e.E := @Zk Tryz.prog Z3e Zao 107 Tryz.f107 Zdx (by kernel_rfl) (by kernel_rfl) (by kernel_rfl) Tryz.func107 (by kernel_rfl) (by kernel_rfl) (by kernel_rfl) T_ok Zv5 Zvr ZuA Zuh k
noncomputable def ZaB : List PK := [PK.mk (Ty.pair (Ty.int .i64) (Ty.pair (Ty.int .i64) (Ty.slice (122 : Nat) (Ty.pair (Ty.int .i64) (Ty.int .i64))))) true none false none]
noncomputable def Zsw : List PK := [PK.mk (Ty.pair (Ty.int .i64) (Ty.pair (Ty.int .i64) (Ty.slice (122 : Nat) (Ty.pair (Ty.int .i64) (Ty.int .i64))))) true none false none]
noncomputable def Zqf (r : Int × Int × List (Int × Int)) : Tup ZaB × OutD := ((r, ()), none)
noncomputable def Zqg : Tup ZaB × OutD → Option (Int × Int × List (Int × Int))
 | (a, none) => some (a.1)
 | _ => none
theorem Zwq : ∀ b r, Zqg b = some r → Zqf r = b := by
 rintro ⟨a, o⟩ r h
 cases o with
 | none => injection h with h; subst h; rfl
 | some _ => cases h
noncomputable def Z7g : Nat → Int → Int → List (Int × Int) → Int → Int → List (Int × Int) → Option (Int × Int × List (Int × Int)) := fun k b1_0 b1_1 b1_2 b2_0 b2_1 o3 =>
    if (0 : Nat) + List.length b1_2 ≤ (140737488355328 / 16 : Nat) then some (b1_0, b1_1, b1_2) else none
noncomputable def Zbb : Nat → Int → Int → List (Int × Int) → Int → Int → List (Int × Int) → Option (List (Int × Int × List (Int × Int))) := fun k b1_0 b1_1 b1_2 b2_0 b2_1 o3 =>
    joinL (joinL (if (0 : Nat) + List.length b1_2 ≤ (140737488355328 / 16 : Nat) then some [(b1_0, b1_1, b1_2)] else none) (joinL (if (0 : Nat) + List.length b1_2 ≤ (140737488355328 / 16 : Nat) then some [(b1_0, b1_1, b1_2)] else none) (if (0 : Nat) + List.length b1_2 ≤ (140737488355328 / 16 : Nat) then some [(b1_0, b1_1, b1_2)] else none))) (joinL (joinL (if (0 : Nat) + List.length b1_2 ≤ (140737488355328 / 16 : Nat) then some [(b1_0, b1_1, b1_2)] else none) (joinL (if (0 : Nat) + List.length b1_2 ≤ (140737488355328 / 16 : Nat) then some [(b1_0, b1_1, b1_2)] else none) (if (0 : Nat) + List.length b1_2 ≤ (140737488355328 / 16 : Nat) then some [(b1_0, b1_1, b1_2)] else none))) (joinL (joinL (if (0 : Nat) + List.length b1_2 ≤ (140737488355328 / 16 : Nat) then some [(b1_0, b1_1, b1_2)] else none) (if (0 : Nat) + List.length b1_2 ≤ (140737488355328 / 16 : Nat) then some [(b1_0, b1_1, b1_2)] else none)) (joinL (joinL (if (0 : Nat) + List.length b1_2 ≤ (140737488355328 / 16 : Nat) then some [(b1_0, b1_1, b1_2)] else none) (if (0 : Nat) + List.length b1_2 ≤ (140737488355328 / 16 : Nat) then some [(b1_0, b1_1, b1_2)] else none)) (if (0 : Nat) + List.length b1_2 ≤ (140737488355328 / 16 : Nat) then joinL (some [(b1_0, b1_1, b1_2)]) (some [(b1_0, b1_1, b1_2)]) else none))))
noncomputable def ZkS : Spec := Spec.mk [OSh.ro, OSh.box (26 : Nat) [Sh.int .i64, Sh.int .i64, Sh.snap (0 : Nat) (Ty.pair (Ty.int .i64) (Ty.int .i64))], OSh.box (26 : Nat) [Sh.int .i64, Sh.int .i64, Sh.sl (3 : Nat)], OSh.row true (122 : Nat) (Ty.pair (Ty.int .i64) (Ty.int .i64))] [((1 : Nat), TSh.at (Sh.ptr (1 : Nat) (0 : Nat))), ((2 : Nat), TSh.at (Sh.ptr (2 : Nat) (0 : Nat)))]
noncomputable def ZwF : Spec := Spec.mk [OSh.ro, OSh.box (26 : Nat) [Sh.int .i64, Sh.int .i64, Sh.sl (2 : Nat)], OSh.row true (122 : Nat) (Ty.pair (Ty.int .i64) (Ty.int .i64))] [((2 : Nat), TSh.at (Sh.ptr (1 : Nat) (0 : Nat)))]
noncomputable def Z6k : LoopDef (Tup ZaB × OutD) := .plain ZkS ZwF (Int × Int × List (Int × Int)) (fun k x => Z7g k x.1.2.1.1 x.1.2.1.2.1 x.1.2.1.2.2.1 x.1.2.2.1.1 x.1.2.2.1.2.1 x.1.2.2.2.1) (fun z => (((), (z.1, z.2.1, (), ()), z.2.2, ()), ((), ()))) (fun y => (y.1.2.1.1, y.1.2.1.2.1, y.1.2.2.1)) (fun _ => rfl)
theorem Zxm (k : Nat) (b1_0 : Int) (b1_1 : Int) (b1_2 : List (Int × Int)) (b2_0 : Int) (b2_1 : Int) (o3 : List (Int × Int)) : Zbb k b1_0 b1_1 b1_2 b2_0 b2_1 o3 = repl 12 (Z7g k b1_0 b1_1 b1_2 b2_0 b2_1 o3) := by
 first
 | (simp only [Zbb, Z7g, Z5, Z6, Z2, Z3, Z4, Z1, if_true]; done)
 | (simp only [Zbb, Z7g, Z5, Z6, Z2, Z3, Z4, Z1, if_true]; simp only [Z87, Z84, ZaZ, Z1]; simp only [Zd6]; exact Z9Q ⟨fun h => by simp only [h, and_self], fun h => by simp only [h, and_self]⟩)
noncomputable def Z8s : Nat → Int × Int × List (Int × Int) → Option (Int × Int × List (Int × Int))
 | 0, _ => none
 | k + 1, p0 =>
  Option.bind (Z7g k p0.1 p0.2.1 p0.2.2 (0 : Int) (0 : Int) []) fun z0 => some (Prod.fst z0, Prod.fst z0.2, Prod.snd z0.2)
noncomputable def Z5x : FnDef := .of Zsw ZaB (Int × Int × List (Int × Int)) (fun k x => Z8s k x.1) Zqf Zqg Zwq
noncomputable def ZfR : Code := Tryz.f111.body.getD .skip
noncomputable def Z4G : Ctx (Tup ZaB × OutD) := { T := T, G := [], mvs := [], no := 0, n := 12, res := resOf T Zsw ZaB Tryz.f111.results.toList, loops := [], regs := [(1, Z6k.E)], conds := [], cuts := [] }
theorem ZtY (k : Nat) : EnvOK Tryz.prog k Z4G.G := (EnvOK.nil mixed)
noncomputable def Zel : Array Oper := (findReg 1 ZfR).getD #[]
theorem Zwj (k : Nat) (x : ZkS.D) : execD Z4G.T Z4G.G Z4G.mvs k Zel (Z6k.inp.st Z4G.n x) (outK Z4G Z6k) = Zbb k x.1.2.1.1 x.1.2.1.2.1 x.1.2.1.2.2.1 x.1.2.2.1.1 x.1.2.2.1.2.1 x.1.2.2.2.1 := by kernel_rfl
theorem Zur (k : Nat) : EOK Tryz.prog Z4G k Z6k.E (.region 1 Zel true) := ZcX (D := Z6k) (m := 12) T_ok (ZtY k) (fun x => (Zwj k x).trans (Zxm k x.1.2.1.1 x.1.2.1.2.1 x.1.2.1.2.2.1 x.1.2.2.1.1 x.1.2.2.1.2.1 x.1.2.2.2.1))
theorem ZDp (k : Nat) (x : Tup Z5x.ps) : Z5x.f (k + 1) x = fnK Z5x Z4G ZfR k x := by kernel_rfl
theorem ZCD (x : Tup Z5x.ps) : Z5x.f 0 x = none := by kernel_rfl
theorem ZEu (k : Nat) : LOK Tryz.prog Z4G k ZfR := LOK.by [(Z6k.E, .region 1 Zel true)] (by kernel_rfl) (AllOK.cons (Zur k) AllOK.nil)
theorem ZsU (k : Nat) : SoundAt Tryz.prog k 111 Z5x.E := @Zk Tryz.prog Z5x Z4G 111 Tryz.f111 ZfR (by kernel_rfl) (by kernel_rfl) (by kernel_rfl) Tryz.func111 (by kernel_rfl) (by kernel_rfl) (by kernel_rfl) T_ok ZtY ZEu ZCD ZDp k
noncomputable def Z11 : List PK := [PK.mk Ty.bool false none false none]
noncomputable def Z7N : List PK := [PK.mk (Ty.slice (67 : Nat) (Ty.pair (Ty.int .i64) (Ty.pair (Ty.int .i64) (Ty.int .i64)))) false none false none, PK.mk (Ty.slice (67 : Nat) (Ty.pair (Ty.int .i64) (Ty.pair (Ty.int .i64) (Ty.int .i64)))) false none false none]
noncomputable def Z3T (r : Bool) : Tup Z11 × OutD := ((r, ()), none)
noncomputable def Z3M : Tup Z11 × OutD → Option (Bool)
 | (a, none) => some (a.1)
 | _ => none
theorem Z6b : ∀ b r, Z3M b = some r → Z3T r = b := by
 rintro ⟨a, o⟩ r h
 cases o with
 | none => injection h with h; subst h; rfl
 | some _ => cases h
noncomputable def ZT : Nat → List (Int × Int × Int) → List (Int × Int × Int) → Int → Int → Option (LR Unit Bool)
 | 0, _, _, _, _ => none
 | k + 1, v0, v1, v12, v13 =>
  if decide (v13 < v12) = true then if (0 : Int) ≤ v13 then if v13 < (↑(List.length v0) : Int) then if (0 : Int) ≤ v13 then if v13 < (↑(List.length v1) : Int) then if (!(decide (Prod.fst (List.getD v0 (Int.toNat v13) ((0 : Int), (0 : Int), (0 : Int))) = Prod.fst (List.getD v1 (Int.toNat v13) ((0 : Int), (0 : Int), (0 : Int)))) && (decide (Prod.fst (Prod.snd (List.getD v0 (Int.toNat v13) ((0 : Int), (0 : Int), (0 : Int)))) = Prod.fst (Prod.snd (List.getD v1 (Int.toNat v13) ((0 : Int), (0 : Int), (0 : Int))))) && (decide (Prod.snd (Prod.snd (List.getD v0 (Int.toNat v13) ((0 : Int), (0 : Int), (0 : Int)))) = Prod.snd (Prod.snd (List.getD v1 (Int.toNat v13) ((0 : Int), (0 : Int), (0 : Int))))) && true)))) = true then some (LR.ret false) else ZT k v0 v1 v12 (wrap64 (v13 + (1 : Int))) else none else none else none else none else some (LR.go ())
noncomputable def Z3t : Spec := Spec.mk [OSh.ro] [((0 : Nat), TSh.at (Sh.snap (0 : Nat) (Ty.pair (Ty.int .i64) (Ty.pair (Ty.int .i64) (Ty.int .i64))))), ((1 : Nat), TSh.at (Sh.snap (0 : Nat) (Ty.pair (Ty.int .i64) (Ty.pair (Ty.int .i64) (Ty.int .i64))))), ((12 : Nat), TSh.at (Sh.int .i64)), ((13 : Nat), TSh.at (Sh.int .i64))]
noncomputable def Zcs : Spec := Spec.mk [OSh.ro] []
noncomputable def ZO : LoopDef (Tup Z11 × OutD) := .rets Z3t Zcs (Unit) (Bool) (fun k x => ZT k x.2.1 x.2.2.1 x.2.2.2.1 x.2.2.2.2.1) (fun z => (((), ()), (()))) (fun y => ()) (fun _ => rfl) Z3T Z3M Z6b
noncomputable def Z2p : Nat → List (Int × Int × Int) → List (Int × Int × Int) → Option Bool
 | 0, _, _ => none
 | k + 1, p0, p1 =>
  if decide ((↑(List.length p0) : Int) ≠ (↑(List.length p1) : Int)) = true then some false else Option.bind (ZT k p0 p1 (↑(List.length p0) : Int) (0 : Int)) fun z0 => LR.on z0 (fun y0 => some true) fun r0 => some r0
noncomputable def ZB : FnDef := .of Z7N Z11 (Bool) (fun k x => Z2p k x.1 x.2.1) Z3T Z3M Z6b
noncomputable def Z2q : Code := Tryz.f115.body.getD .skip
noncomputable def ZK : Ctx (Tup Z11 × OutD) := { T := T, G := [], mvs := [], no := 0, n := 26, res := resOf T Z7N Z11 Tryz.f115.results.toList, loops := [(0, ZO.E)], regs := [], conds := [], cuts := [] }
theorem Z7P (k : Nat) : EnvOK Tryz.prog k ZK.G := (EnvOK.nil mixed)
noncomputable def Z1T : Code := (findLoop 0 Z2q).getD .skip
theorem Zcq (k : Nat) (x : Z3t.D) : ZO.lp (k + 1) x = loopK ZK ZO 0 Z1T k x := by kernel_rfl
theorem Zcp (k : Nat) : LOK Tryz.prog ZK k Z1T := LOK.by [] (by kernel_rfl) AllOK.nil
theorem Zcr (x : Z3t.D) : ZO.lp 0 x = none := by kernel_rfl
theorem ZbZ (k : Nat) : EOK Tryz.prog ZK k ZO.E (.block 0 (.loop Z1T)) := Zr T_ok Z7P Zcr Zcq Zcp k
theorem Zds (k : Nat) (x : Tup ZB.ps) : ZB.f (k + 1) x = fnK ZB ZK Z2q k x := by kernel_rfl
theorem ZdC (x : Tup ZB.ps) : ZB.f 0 x = none := by kernel_rfl
theorem ZdE (k : Nat) : LOK Tryz.prog ZK k Z2q := LOK.by [(ZO.E, .block 0 (.loop Z1T))] (by kernel_rfl) (AllOK.cons (ZbZ k) AllOK.nil)
theorem ZdD (k : Nat) : SoundAt Tryz.prog k 115 ZB.E := @Zk Tryz.prog ZB ZK 115 Tryz.f115 Z2q (by kernel_rfl) (by kernel_rfl) (by kernel_rfl) Tryz.func115 (by kernel_rfl) (by kernel_rfl) (by kernel_rfl) T_ok Z7P ZdE ZdC Zds k
noncomputable def Z6h : List PK := [PK.mk (Ty.pair (Ty.int .i64) (Ty.pair (Ty.int .i64) (Ty.slice (122 : Nat) (Ty.pair (Ty.int .i64) (Ty.int .i64))))) true none false none]
noncomputable def Zk2 : List PK := [PK.mk (Ty.pair (Ty.int .i64) (Ty.pair (Ty.int .i64) (Ty.slice (122 : Nat) (Ty.pair (Ty.int .i64) (Ty.int .i64))))) true none false none]
noncomputable def Zib (r : Int × Int × List (Int × Int)) : Tup Z6h × OutD := ((r, ()), none)
noncomputable def ZiO : Tup Z6h × OutD → Option (Int × Int × List (Int × Int))
 | (a, none) => some (a.1)
 | _ => none
theorem ZoZ : ∀ b r, ZiO b = some r → Zib r = b := by
 rintro ⟨a, o⟩ r h
 cases o with
 | none => injection h with h; subst h; rfl
 | some _ => cases h
noncomputable def Z4w : Nat → Int → Int → List (Int × Int) → Int → Int → List (Int × Int) → Option (Int × Int × List (Int × Int)) := fun k b1_0 b1_1 b1_2 b2_0 b2_1 o3 =>
    if (0 : Nat) + List.length b1_2 ≤ (140737488355328 / 16 : Nat) then some (b1_0, b1_1, b1_2) else none
noncomputable def Z88 : Nat → Int → Int → List (Int × Int) → Int → Int → List (Int × Int) → Option (List (Int × Int × List (Int × Int))) := fun k b1_0 b1_1 b1_2 b2_0 b2_1 o3 =>
    joinL (joinL (if (0 : Nat) + List.length b1_2 ≤ (140737488355328 / 16 : Nat) then some [(b1_0, b1_1, b1_2)] else none) (joinL (if (0 : Nat) + List.length b1_2 ≤ (140737488355328 / 16 : Nat) then some [(b1_0, b1_1, b1_2)] else none) (if (0 : Nat) + List.length b1_2 ≤ (140737488355328 / 16 : Nat) then some [(b1_0, b1_1, b1_2)] else none))) (joinL (joinL (if (0 : Nat) + List.length b1_2 ≤ (140737488355328 / 16 : Nat) then some [(b1_0, b1_1, b1_2)] else none) (joinL (if (0 : Nat) + List.length b1_2 ≤ (140737488355328 / 16 : Nat) then some [(b1_0, b1_1, b1_2)] else none) (if (0 : Nat) + List.length b1_2 ≤ (140737488355328 / 16 : Nat) then some [(b1_0, b1_1, b1_2)] else none))) (joinL (joinL (if (0 : Nat) + List.length b1_2 ≤ (140737488355328 / 16 : Nat) then some [(b1_0, b1_1, b1_2)] else none) (if (0 : Nat) + List.length b1_2 ≤ (140737488355328 / 16 : Nat) then some [(b1_0, b1_1, b1_2)] else none)) (joinL (joinL (if (0 : Nat) + List.length b1_2 ≤ (140737488355328 / 16 : Nat) then some [(b1_0, b1_1, b1_2)] else none) (if (0 : Nat) + List.length b1_2 ≤ (140737488355328 / 16 : Nat) then some [(b1_0, b1_1, b1_2)] else none)) (if (0 : Nat) + List.length b1_2 ≤ (140737488355328 / 16 : Nat) then joinL (some [(b1_0, b1_1, b1_2)]) (some [(b1_0, b1_1, b1_2)]) else none))))
noncomputable def Zfs : Spec := Spec.mk [OSh.ro, OSh.box (26 : Nat) [Sh.int .i64, Sh.int .i64, Sh.snap (0 : Nat) (Ty.pair (Ty.int .i64) (Ty.int .i64))], OSh.box (26 : Nat) [Sh.int .i64, Sh.int .i64, Sh.sl (3 : Nat)], OSh.row true (122 : Nat) (Ty.pair (Ty.int .i64) (Ty.int .i64))] [((1 : Nat), TSh.at (Sh.ptr (1 : Nat) (0 : Nat))), ((2 : Nat), TSh.at (Sh.ptr (2 : Nat) (0 : Nat)))]
noncomputable def Zp4 : Spec := Spec.mk [OSh.ro, OSh.box (26 : Nat) [Sh.int .i64, Sh.int .i64, Sh.sl (2 : Nat)], OSh.row true (122 : Nat) (Ty.pair (Ty.int .i64) (Ty.int .i64))] [((2 : Nat), TSh.at (Sh.ptr (1 : Nat) (0 : Nat)))]
noncomputable def Z3V : LoopDef (Tup Z6h × OutD) := .plain Zfs Zp4 (Int × Int × List (Int × Int)) (fun k x => Z4w k x.1.2.1.1 x.1.2.1.2.1 x.1.2.1.2.2.1 x.1.2.2.1.1 x.1.2.2.1.2.1 x.1.2.2.2.1) (fun z => (((), (z.1, z.2.1, (), ()), z.2.2, ()), ((), ()))) (fun y => (y.1.2.1.1, y.1.2.1.2.1, y.1.2.2.1)) (fun _ => rfl)
theorem ZoV (k : Nat) (b1_0 : Int) (b1_1 : Int) (b1_2 : List (Int × Int)) (b2_0 : Int) (b2_1 : Int) (o3 : List (Int × Int)) : Z88 k b1_0 b1_1 b1_2 b2_0 b2_1 o3 = repl 12 (Z4w k b1_0 b1_1 b1_2 b2_0 b2_1 o3) := by
 first
 | (simp only [Z88, Z4w, Z5, Z6, Z2, Z3, Z4, Z1, if_true]; done)
 | (simp only [Z88, Z4w, Z5, Z6, Z2, Z3, Z4, Z1, if_true]; simp only [Z87, Z84, ZaZ, Z1]; simp only [Zd6]; exact Z9Q ⟨fun h => by simp only [h, and_self], fun h => by simp only [h, and_self]⟩)
noncomputable def Zbu : Nat → Int × Int × List (Int × Int) → Option (Int × Int × List (Int × Int))
 | 0, _ => none
 | k + 1, p0 =>
  Option.bind (Z4w k p0.1 p0.2.1 p0.2.2 (0 : Int) (0 : Int) []) fun z0 => some (Prod.fst z0, Prod.fst z0.2, Prod.snd z0.2)
noncomputable def Z3G : FnDef := .of Zk2 Z6h (Int × Int × List (Int × Int)) (fun k x => Zbu k x.1) Zib ZiO ZoZ
noncomputable def Zb6 : Code := Tryz.f116.body.getD .skip
noncomputable def Z27 : Ctx (Tup Z6h × OutD) := { T := T, G := [], mvs := [], no := 0, n := 12, res := resOf T Zk2 Z6h Tryz.f116.results.toList, loops := [], regs := [(1, Z3V.E)], conds := [], cuts := [] }
theorem Zkb (k : Nat) : EnvOK Tryz.prog k Z27.G := (EnvOK.nil mixed)
noncomputable def ZaU : Array Oper := (findReg 1 Zb6).getD #[]
theorem Zq2 (k : Nat) (x : Zfs.D) : execD Z27.T Z27.G Z27.mvs k ZaU (Z3V.inp.st Z27.n x) (outK Z27 Z3V) = Z88 k x.1.2.1.1 x.1.2.1.2.1 x.1.2.1.2.2.1 x.1.2.2.1.1 x.1.2.2.1.2.1 x.1.2.2.2.1 := by kernel_rfl
theorem Zot (k : Nat) : EOK Tryz.prog Z27 k Z3V.E (.region 1 ZaU true) := ZcX (D := Z3V) (m := 12) T_ok (Zkb k) (fun x => (Zq2 k x).trans (ZoV k x.1.2.1.1 x.1.2.1.2.1 x.1.2.1.2.2.1 x.1.2.2.1.1 x.1.2.2.1.2.1 x.1.2.2.2.1))
theorem ZwV (k : Nat) (x : Tup Z3G.ps) : Z3G.f (k + 1) x = fnK Z3G Z27 Zb6 k x := by kernel_rfl
theorem Zww (x : Tup Z3G.ps) : Z3G.f 0 x = none := by kernel_rfl
theorem Zw9 (k : Nat) : LOK Tryz.prog Z27 k Zb6 := LOK.by [(Z3V.E, .region 1 ZaU true)] (by kernel_rfl) (AllOK.cons (Zot k) AllOK.nil)
theorem ZwB (k : Nat) : SoundAt Tryz.prog k 116 Z3G.E := @Zk Tryz.prog Z3G Z27 116 Tryz.f116 Zb6 (by kernel_rfl) (by kernel_rfl) (by kernel_rfl) Tryz.func116 (by kernel_rfl) (by kernel_rfl) (by kernel_rfl) T_ok Zkb Zw9 Zww ZwV k
noncomputable def Z4t : List PK := [PK.mk (Ty.slice (3 : Nat) (Ty.int .i64)) false none false none]
noncomputable def Zga : List PK := [PK.mk (Ty.pair (Ty.int .i64) (Ty.pair (Ty.int .i64) (Ty.slice (122 : Nat) (Ty.pair (Ty.int .i64) (Ty.int .i64))))) true none false none, PK.mk (Ty.slice (42 : Nat) (Ty.pair (Ty.int .i64) (Ty.pair (Ty.int .i64) (Ty.int .i64)))) false none false none]
noncomputable def Zfm (r : List Int) : Tup Z4t × OutD := ((r, ()), none)
noncomputable def Zfe : Tup Z4t × OutD → Option (List Int)
 | (a, none) => some (a.1)
 | _ => none
theorem Zlr : ∀ b r, Zfe b = some r → Zfm r = b := by
 rintro ⟨a, o⟩ r h
 cases o with
 | none => injection h with h; subst h; rfl
 | some _ => cases h
noncomputable def Z3z : Nat → Int → Int → List (Int × Int) → List Int → List (Int × Int × Int) → Int → Int → Option (List Int)
 | 0, _, _, _, _, _, _, _ => none
 | k + 1, b1_0, b1_1, b1_2, o2, v12, v13, v14 =>
  if decide (v14 < v13) = true then if (0 : Int) ≤ v14 then if v14 < (↑(List.length v12) : Int) then if (0 : Int) ≤ wrap64 (wrap64 (Prod.fst (Prod.snd (List.getD v12 (Int.toNat v14) ((0 : Int), (0 : Int), (0 : Int)))) * b1_1) + Prod.snd (Prod.snd (List.getD v12 (Int.toNat v14) ((0 : Int), (0 : Int), (0 : Int))))) then if wrap64 (wrap64 (Prod.fst (Prod.snd (List.getD v12 (Int.toNat v14) ((0 : Int), (0 : Int), (0 : Int)))) * b1_1) + Prod.snd (Prod.snd (List.getD v12 (Int.toNat v14) ((0 : Int), (0 : Int), (0 : Int))))) < (↑(List.length o2) : Int) then Z3z k b1_0 b1_1 b1_2 (List.set o2 (Int.toNat (wrap64 (wrap64 (Prod.fst (Prod.snd (List.getD v12 (Int.toNat v14) ((0 : Int), (0 : Int), (0 : Int)))) * b1_1) + Prod.snd (Prod.snd (List.getD v12 (Int.toNat v14) ((0 : Int), (0 : Int), (0 : Int))))))) (Prod.fst (List.getD v12 (Int.toNat v14) ((0 : Int), (0 : Int), (0 : Int))))) v12 v13 (wrap64 (v14 + (1 : Int))) else none else none else none else none else some o2
noncomputable def Za0 : Spec := Spec.mk [OSh.ro, OSh.box (26 : Nat) [Sh.int .i64, Sh.int .i64, Sh.snap (0 : Nat) (Ty.pair (Ty.int .i64) (Ty.int .i64))], OSh.row true (3 : Nat) (Ty.int .i64)] [((2 : Nat), TSh.at (Sh.ptr (1 : Nat) (0 : Nat))), ((5 : Nat), TSh.at (Sh.sl (2 : Nat))), ((12 : Nat), TSh.at (Sh.snap (0 : Nat) (Ty.pair (Ty.int .i64) (Ty.pair (Ty.int .i64) (Ty.int .i64))))), ((13 : Nat), TSh.at (Sh.int .i64)), ((14 : Nat), TSh.at (Sh.int .i64))]
noncomputable def Zm9 : Spec := Spec.mk [OSh.ro, OSh.row true (3 : Nat) (Ty.int .i64)] [((5 : Nat), TSh.at (Sh.sl (1 : Nat)))]
noncomputable def Z2Z : LoopDef (Tup Z4t × OutD) := .plain Za0 Zm9 (List Int) (fun k x => Z3z k x.1.2.1.1 x.1.2.1.2.1 x.1.2.1.2.2.1 x.1.2.2.1 x.2.2.2.1 x.2.2.2.2.1 x.2.2.2.2.2.1) (fun z => (((), z, ()), ((), ()))) (fun y => (y.1.2.1)) (fun _ => rfl)
noncomputable def Z8T : Nat → Int × Int × List (Int × Int) → List (Int × Int × Int) → Option (List Int)
 | 0, _, _ => none
 | k + 1, p0, p1 =>
  if Int.toNat (↑(List.length p0.2.2) : Int) * (8 : Nat) ≤ (281474976710656 : Nat) then Option.bind (Z3z k p0.1 p0.2.1 p0.2.2 (List.replicate (Int.toNat (↑(List.length p0.2.2) : Int)) (0 : Int)) p1 (↑(List.length p1) : Int) (0 : Int)) fun z0 => some z0 else none
noncomputable def Z2f : FnDef := .of Zga Z4t (List Int) (fun k x => Z8T k x.1 x.2.1) Zfm Zfe Zlr
noncomputable def Z93 : Code := Tryz.f118.body.getD .skip
noncomputable def Z3h : Ctx (Tup Z4t × OutD) := { T := T, G := [], mvs := [], no := 0, n := 32, res := resOf T Zga Z4t Tryz.f118.results.toList, loops := [(0, Z2Z.E)], regs := [], conds := [], cuts := [] }
theorem Zg4 (k : Nat) : EnvOK Tryz.prog k Z3h.G := (EnvOK.nil mixed)
noncomputable def Z6x : Code := (findLoop 0 Z93).getD .skip
theorem ZmS (k : Nat) (x : Za0.D) : Z2Z.lp (k + 1) x = loopK Z3h Z2Z 0 Z6x k x := by kernel_rfl
theorem Zmk (k : Nat) : LOK Tryz.prog Z3h k Z6x := LOK.by [] (by kernel_rfl) AllOK.nil
theorem ZmH (x : Za0.D) : Z2Z.lp 0 x = none := by kernel_rfl
theorem Zlh (k : Nat) : EOK Tryz.prog Z3h k Z2Z.E (.block 0 (.loop Z6x)) := Zr T_ok Zg4 ZmH ZmS Zmk k
theorem Zr7 (k : Nat) (x : Tup Z2f.ps) : Z2f.f (k + 1) x = fnK Z2f Z3h Z93 k x := by kernel_rfl
theorem ZrJ (x : Tup Z2f.ps) : Z2f.f 0 x = none := by kernel_rfl
theorem Zrb (k : Nat) : LOK Tryz.prog Z3h k Z93 := LOK.by [(Z2Z.E, .block 0 (.loop Z6x))] (by kernel_rfl) (AllOK.cons (Zlh k) AllOK.nil)
theorem Zs9 (k : Nat) : SoundAt Tryz.prog k 118 Z2f.E := @Zk Tryz.prog Z2f Z3h 118 Tryz.f118 Z93 (by kernel_rfl) (by kernel_rfl) (by kernel_rfl) Tryz.func118 (by kernel_rfl) (by kernel_rfl) (by kernel_rfl) T_ok Zg4 Zrb ZrJ Zr7 k
noncomputable def Z8H : List PK := [PK.mk Ty.bool false none false none]
noncomputable def ZjG : List PK := [PK.mk (Ty.pair (Ty.int .i64) (Ty.int .i64)) true none false none]
noncomputable def ZiI (r : Bool) : Tup Z8H × OutD := ((r, ()), none)
noncomputable def ZiS : Tup Z8H × OutD → Option (Bool)
 | (a, none) => some (a.1)
 | _ => none
theorem ZpA : ∀ b r, ZiS b = some r → ZiI r = b := by
 rintro ⟨a, o⟩ r h
 cases o with
 | none => injection h with h; subst h; rfl
 | some _ => cases h
noncomputable def Z4N : Nat → Int × Int → Option Bool
 | 0, _ => none
 | k + 1, p0 =>
  if decide (Prod.fst p0 = (3 : Int)) = true then some true else some (decide (Prod.fst p0 = (6 : Int)))
noncomputable def Z26 : FnDef := .of ZjG Z8H (Bool) (fun k x => Z4N k x.1) ZiI ZiS ZpA
noncomputable def Zev : Code := Tryz.f128.body.getD .skip
noncomputable def Zb8 : Ctx (Tup Z8H × OutD) := { T := T, G := [], mvs := [], no := 0, n := 11, res := resOf T ZjG Z8H Tryz.f128.results.toList, loops := [], regs := [], conds := [], cuts := [] }
theorem ZwH (k : Nat) : EnvOK Tryz.prog k Zb8.G := (EnvOK.nil mixed)
theorem Zxh (k : Nat) (x : Tup Z26.ps) : Z26.f (k + 1) x = fnK Z26 Zb8 Zev k x := by kernel_rfl
theorem Zx9 (x : Tup Z26.ps) : Z26.f 0 x = none := by kernel_rfl
theorem Zxi (k : Nat) : LOK Tryz.prog Zb8 k Zev := LOK.by [] (by kernel_rfl) AllOK.nil
theorem Zex (k : Nat) : SoundAt Tryz.prog k 128 Z26.E := @Zk Tryz.prog Z26 Zb8 128 Tryz.f128 Zev (by kernel_rfl) (by kernel_rfl) (by kernel_rfl) Tryz.func128 (by kernel_rfl) (by kernel_rfl) (by kernel_rfl) T_ok ZwH Zxi Zx9 Zxh k
noncomputable def ZbE : List PK := [PK.mk Ty.bool false none false none]
noncomputable def ZqO : List PK := [PK.mk (Ty.pair (Ty.int .i64) (Ty.int .i64)) true none false none]
noncomputable def Znd (r : Bool) : Tup ZbE × OutD := ((r, ()), none)
noncomputable def Zoo : Tup ZbE × OutD → Option (Bool)
 | (a, none) => some (a.1)
 | _ => none
theorem Zuw : ∀ b r, Zoo b = some r → Znd r = b := by
 rintro ⟨a, o⟩ r h
 cases o with
 | none => injection h with h; subst h; rfl
 | some _ => cases h
noncomputable def Z9l : Nat → Int × Int → Option Bool
 | 0, _ => none
 | k + 1, p0 =>
  if decide (Prod.fst p0 < (0 : Int)) = true then some false else if decide (Prod.fst p0 > (7 : Int)) = true then some false else if decide (Prod.snd p0 < (0 : Int)) = true then some false else if decide (Prod.snd p0 > (1 : Int)) = true then some false else if decide (Prod.snd p0 = (0 : Int)) = true then some true else if decide (Prod.fst p0 = (3 : Int)) = true then some true else some (decide (Prod.fst p0 = (6 : Int)))
noncomputable def Z3J : FnDef := .of ZqO ZbE (Bool) (fun k x => Z9l k x.1) Znd Zoo Zuw
noncomputable def ZhN : Code := Tryz.f130.body.getD .skip
noncomputable def Zef : Ctx (Tup ZbE × OutD) := { T := T, G := [], mvs := [], no := 0, n := 34, res := resOf T ZqO ZbE Tryz.f130.results.toList, loops := [], regs := [], conds := [], cuts := [] }
theorem ZAB (k : Nat) : EnvOK Tryz.prog k Zef.G := (EnvOK.nil mixed)
theorem ZBA (k : Nat) (x : Tup Z3J.ps) : Z3J.f (k + 1) x = fnK Z3J Zef ZhN k x := by kernel_rfl
theorem ZBu (x : Tup Z3J.ps) : Z3J.f 0 x = none := by kernel_rfl
theorem ZBF (k : Nat) : LOK Tryz.prog Zef k ZhN := LOK.by [] (by kernel_rfl) AllOK.nil
theorem Zi9 (k : Nat) : SoundAt Tryz.prog k 130 Z3J.E := @Zk Tryz.prog Z3J Zef 130 Tryz.f130 ZhN (by kernel_rfl) (by kernel_rfl) (by kernel_rfl) Tryz.func130 (by kernel_rfl) (by kernel_rfl) (by kernel_rfl) T_ok ZAB ZBF ZBu ZBA k
noncomputable def ZbA : List PK := [PK.mk Ty.bool false none false none]
noncomputable def ZqC : List PK := [PK.mk (Ty.pair (Ty.int .i64) (Ty.int .i64)) true none false none]
noncomputable def ZoB (r : Bool) : Tup ZbA × OutD := ((r, ()), none)
noncomputable def Zow : Tup ZbA × OutD → Option (Bool)
 | (a, none) => some (a.1)
 | _ => none
theorem Zvv : ∀ b r, Zow b = some r → ZoB r = b := by
 rintro ⟨a, o⟩ r h
 cases o with
 | none => injection h with h; subst h; rfl
 | some _ => cases h
noncomputable def ZbJ : Nat → Int × Int → Option Bool
 | 0, _ => none
 | k + 1, p0 =>
  if decide (Prod.fst p0 = (6 : Int)) = true then some true else some (decide (Prod.fst p0 = (7 : Int)))
noncomputable def Z5M : FnDef := .of ZqC ZbA (Bool) (fun k x => ZbJ k x.1) ZoB Zow Zvv
noncomputable def ZhY : Code := Tryz.f131.body.getD .skip
noncomputable def Zeg : Ctx (Tup ZbA × OutD) := { T := T, G := [], mvs := [], no := 0, n := 11, res := resOf T ZqC ZbA Tryz.f131.results.toList, loops := [], regs := [], conds := [], cuts := [] }
theorem ZAD (k : Nat) : EnvOK Tryz.prog k Zeg.G := (EnvOK.nil mixed)
theorem ZBl (k : Nat) (x : Tup Z5M.ps) : Z5M.f (k + 1) x = fnK Z5M Zeg ZhY k x := by kernel_rfl
theorem ZBN (x : Tup Z5M.ps) : Z5M.f 0 x = none := by kernel_rfl
theorem ZB7 (k : Nat) : LOK Tryz.prog Zeg k ZhY := LOK.by [] (by kernel_rfl) AllOK.nil
theorem ZBn (k : Nat) : SoundAt Tryz.prog k 131 Z5M.E := @Zk Tryz.prog Z5M Zeg 131 Tryz.f131 ZhY (by kernel_rfl) (by kernel_rfl) (by kernel_rfl) Tryz.func131 (by kernel_rfl) (by kernel_rfl) (by kernel_rfl) T_ok ZAD ZB7 ZBN ZBl k
noncomputable def ZbN : List PK := [PK.mk (Ty.slice (3 : Nat) (Ty.int .i64)) false none false none]
noncomputable def Zq8 : List PK := [PK.mk (Ty.pair (Ty.int .i64) (Ty.pair (Ty.int .i64) (Ty.slice (122 : Nat) (Ty.pair (Ty.int .i64) (Ty.int .i64))))) true none false none, PK.mk (Ty.int .i64) false none false none]
noncomputable def ZoP (r : List Int) : Tup ZbN × OutD := ((r, ()), none)
noncomputable def ZoG : Tup ZbN × OutD → Option (List Int)
 | (a, none) => some (a.1)
 | _ => none
theorem ZuJ : ∀ b r, ZoG b = some r → ZoP r = b := by
 rintro ⟨a, o⟩ r h
 cases o with
 | none => injection h with h; subst h; rfl
 | some _ => cases h
noncomputable def Ze1 : Nat → Int × Int × List (Int × Int) → Int → Option (List Int)
 | 0, _, _ => none
 | k + 1, p0, p1 =>
  if Prod.fst p0.2 = (0 : Int) then none else if Prod.fst p0.2 = (0 : Int) then none else if decide (wrap64 (Int.tdiv p1 p0.2.1) > (0 : Int)) = true then if decide (Int.tmod p1 p0.2.1 > (0 : Int)) = true then if decide (wrap64 (Int.tmod p1 p0.2.1 + (1 : Int)) < Prod.fst p0.2) = true then if decide (wrap64 (wrap64 (Int.tdiv p1 p0.2.1) + (1 : Int)) < Prod.fst p0) = true then some ([wrap64 (p1 - Prod.fst p0.2)] ++ [wrap64 (p1 - (1 : Int))] ++ [wrap64 (p1 + (1 : Int))] ++ [wrap64 (p1 + Prod.fst p0.2)]) else some ([wrap64 (p1 - Prod.fst p0.2)] ++ [wrap64 (p1 - (1 : Int))] ++ [wrap64 (p1 + (1 : Int))]) else if decide (wrap64 (wrap64 (Int.tdiv p1 p0.2.1) + (1 : Int)) < Prod.fst p0) = true then some ([wrap64 (p1 - Prod.fst p0.2)] ++ [wrap64 (p1 - (1 : Int))] ++ [wrap64 (p1 + Prod.fst p0.2)]) else some ([wrap64 (p1 - Prod.fst p0.2)] ++ [wrap64 (p1 - (1 : Int))]) else if decide (wrap64 (Int.tmod p1 p0.2.1 + (1 : Int)) < Prod.fst p0.2) = true then if decide (wrap64 (wrap64 (Int.tdiv p1 p0.2.1) + (1 : Int)) < Prod.fst p0) = true then some ([wrap64 (p1 - Prod.fst p0.2)] ++ [wrap64 (p1 + (1 : Int))] ++ [wrap64 (p1 + Prod.fst p0.2)]) else some ([wrap64 (p1 - Prod.fst p0.2)] ++ [wrap64 (p1 + (1 : Int))]) else if decide (wrap64 (wrap64 (Int.tdiv p1 p0.2.1) + (1 : Int)) < Prod.fst p0) = true then some ([wrap64 (p1 - Prod.fst p0.2)] ++ [wrap64 (p1 + Prod.fst p0.2)]) else some [wrap64 (p1 - Prod.fst p0.2)] else if decide (Int.tmod p1 p0.2.1 > (0 : Int)) = true then if decide (wrap64 (Int.tmod p1 p0.2.1 + (1 : Int)) < Prod.fst p0.2) = true then if decide (wrap64 (wrap64 (Int.tdiv p1 p0.2.1) + (1 : Int)) < Prod.fst p0) = true then some ([wrap64 (p1 - (1 : Int))] ++ [wrap64 (p1 + (1 : Int))] ++ [wrap64 (p1 + Prod.fst p0.2)]) else some ([wrap64 (p1 - (1 : Int))] ++ [wrap64 (p1 + (1 : Int))]) else if decide (wrap64 (wrap64 (Int.tdiv p1 p0.2.1) + (1 : Int)) < Prod.fst p0) = true then some ([wrap64 (p1 - (1 : Int))] ++ [wrap64 (p1 + Prod.fst p0.2)]) else some [wrap64 (p1 - (1 : Int))] else if decide (wrap64 (Int.tmod p1 p0.2.1 + (1 : Int)) < Prod.fst p0.2) = true then if decide (wrap64 (wrap64 (Int.tdiv p1 p0.2.1) + (1 : Int)) < Prod.fst p0) = true then some ([wrap64 (p1 + (1 : Int))] ++ [wrap64 (p1 + Prod.fst p0.2)]) else some [wrap64 (p1 + (1 : Int))] else if decide (wrap64 (wrap64 (Int.tdiv p1 p0.2.1) + (1 : Int)) < Prod.fst p0) = true then some [wrap64 (p1 + Prod.fst p0.2)] else some []
noncomputable def Z5T : FnDef := .of Zq8 ZbN (List Int) (fun k x => Ze1 k x.1 x.2.1) ZoP ZoG ZuJ
noncomputable def ZhQ : Code := Tryz.f132.body.getD .skip
noncomputable def Zed : Ctx (Tup ZbN × OutD) := { T := T, G := [], mvs := [], no := 0, n := 55, res := resOf T Zq8 ZbN Tryz.f132.results.toList, loops := [], regs := [], conds := [], cuts := [] }
theorem ZBG (k : Nat) : EnvOK Tryz.prog k Zed.G := (EnvOK.nil mixed)
theorem ZBE (k : Nat) (x : Tup Z5T.ps) : Z5T.f (k + 1) x = fnK Z5T Zed ZhQ k x := by kernel_rfl
theorem ZAI (x : Tup Z5T.ps) : Z5T.f 0 x = none := by kernel_rfl
theorem ZBI (k : Nat) : LOK Tryz.prog Zed k ZhQ := LOK.by [] (by kernel_rfl) AllOK.nil
theorem ZBw (k : Nat) : SoundAt Tryz.prog k 132 Z5T.E := @Zk Tryz.prog Z5T Zed 132 Tryz.f132 ZhQ (by kernel_rfl) (by kernel_rfl) (by kernel_rfl) Tryz.func132 (by kernel_rfl) (by kernel_rfl) (by kernel_rfl) T_ok ZBG ZBI ZAI ZBE k
noncomputable def Zbz : List PK := [PK.mk (Ty.int .i64) false none false none]
noncomputable def Zqw : List PK := [PK.mk (Ty.pair (Ty.int .i64) (Ty.int .i64)) true none false none, PK.mk (Ty.int .i64) false none false none]
noncomputable def Zo8 (r : Int) : Tup Zbz × OutD := ((r, ()), none)
noncomputable def Znw : Tup Zbz × OutD → Option (Int)
 | (a, none) => some (a.1)
 | _ => none
theorem Zvj : ∀ b r, Znw b = some r → Zo8 r = b := by
 rintro ⟨a, o⟩ r h
 cases o with
 | none => injection h with h; subst h; rfl
 | some _ => cases h
noncomputable def Ze3 : Nat → Int × Int → Int → Option Int
 | 0, _, _ => none
 | k + 1, p0, p1 =>
  if decide (Prod.fst p0 = (1 : Int)) = true then some (-1 : Int) else if decide (Prod.fst p0 = (2 : Int)) = true then some (1 : Int) else if decide (Prod.fst p0 = (3 : Int)) = true then some (wrap64 (wrap64 ((2 : Int) * Prod.snd p0) - (1 : Int))) else if decide (Prod.fst p0 = (6 : Int)) = true then some (wrap64 (wrap64 ((2 : Int) * Prod.snd p0) - (1 : Int))) else if decide (Prod.fst p0 = (4 : Int)) = true then some (wrap64 ((0 : Int) - p1)) else some (0 : Int)
noncomputable def Z5L : FnDef := .of Zqw Zbz (Int) (fun k x => Ze3 k x.1 x.2.1) Zo8 Znw Zvj
noncomputable def ZhX : Code := Tryz.f133.body.getD .skip
noncomputable def Zek : Ctx (Tup Zbz × OutD) := { T := T, G := [], mvs := [], no := 0, n := 22, res := resOf T Zqw Zbz Tryz.f133.results.toList, loops := [], regs := [], conds := [], cuts := [] }
theorem ZAu (k : Nat) : EnvOK Tryz.prog k Zek.G := (EnvOK.nil mixed)
theorem ZBb (k : Nat) (x : Tup Z5L.ps) : Z5L.f (k + 1) x = fnK Z5L Zek ZhX k x := by kernel_rfl
theorem ZAR (x : Tup Z5L.ps) : Z5L.f 0 x = none := by kernel_rfl
theorem ZAO (k : Nat) : LOK Tryz.prog Zek k ZhX := LOK.by [] (by kernel_rfl) AllOK.nil
theorem ZAL (k : Nat) : SoundAt Tryz.prog k 133 Z5L.E := @Zk Tryz.prog Z5L Zek 133 Tryz.f133 ZhX (by kernel_rfl) (by kernel_rfl) (by kernel_rfl) Tryz.func133 (by kernel_rfl) (by kernel_rfl) (by kernel_rfl) T_ok ZAu ZAO ZAR ZBb k
noncomputable def ZbP : List PK := [PK.mk (Ty.int .i64) false none false none]
noncomputable def ZvP : List PK := [PK.mk (Ty.slice (42 : Nat) (Ty.pair (Ty.int .i64) (Ty.pair (Ty.int .i64) (Ty.int .i64)))) false none false none, PK.mk (Ty.int .i64) false none false none, PK.mk (Ty.int .i64) false none false none]
noncomputable def Zkl (r : Int) : Tup ZbP × OutD := ((r, ()), none)
noncomputable def Zk7 : Tup ZbP × OutD → Option (Int)
 | (a, none) => some (a.1)
 | _ => none
theorem Zlx : ∀ b r, Zk7 b = some r → Zkl r = b := by
 rintro ⟨a, o⟩ r h
 cases o with
 | none => injection h with h; subst h; rfl
 | some _ => cases h
noncomputable def Z5U : Nat → Int → Int → List (Int × Int × Int) → Int → Int → Option (LR Unit Int)
 | 0, _, _, _, _, _ => none
 | k + 1, v1, v2, v9, v10, v11 =>
  if decide (v11 < v10) = true then if (0 : Int) ≤ v11 then if v11 < (↑(List.length v9) : Int) then if decide (Prod.fst (Prod.snd (List.getD v9 (Int.toNat v11) ((0 : Int), (0 : Int), (0 : Int)))) = v1) = true then if decide (Prod.snd (Prod.snd (List.getD v9 (Int.toNat v11) ((0 : Int), (0 : Int), (0 : Int)))) = v2) = true then some (LR.ret (Prod.fst (List.getD v9 (Int.toNat v11) ((0 : Int), (0 : Int), (0 : Int))))) else Z5U k v1 v2 v9 v10 (wrap64 (v11 + (1 : Int))) else Z5U k v1 v2 v9 v10 (wrap64 (v11 + (1 : Int))) else none else none else some (LR.go ())
noncomputable def ZgH : Spec := Spec.mk [OSh.ro] [((1 : Nat), TSh.at (Sh.int .i64)), ((2 : Nat), TSh.at (Sh.int .i64)), ((9 : Nat), TSh.at (Sh.snap (0 : Nat) (Ty.pair (Ty.int .i64) (Ty.pair (Ty.int .i64) (Ty.int .i64))))), ((10 : Nat), TSh.at (Sh.int .i64)), ((11 : Nat), TSh.at (Sh.int .i64))]
noncomputable def ZA4 : Spec := Spec.mk [OSh.ro] []
noncomputable def Z8h : LoopDef (Tup ZbP × OutD) := .rets ZgH ZA4 (Unit) (Int) (fun k x => Z5U k x.2.1 x.2.2.1 x.2.2.2.1 x.2.2.2.2.1 x.2.2.2.2.2.1) (fun z => (((), ()), (()))) (fun y => ()) (fun _ => rfl) Zkl Zk7 Zlx
noncomputable def Zh6 : Nat → List (Int × Int × Int) → Int → Int → Option Int
 | 0, _, _, _ => none
 | k + 1, p0, p1, p2 =>
  Option.bind (Z5U k p1 p2 p0 (↑(List.length p0) : Int) (0 : Int)) fun z0 => LR.on z0 (fun y0 => some (0 : Int)) fun r0 => some r0
noncomputable def Z8a : FnDef := .of ZvP ZbP (Int) (fun k x => Zh6 k x.1 x.2.1 x.2.2.1) Zkl Zk7 Zlx
noncomputable def Zh9 : Code := Tryz.f135.body.getD .skip
noncomputable def Za6 : Ctx (Tup ZbP × OutD) := { T := T, G := [], mvs := [], no := 0, n := 28, res := resOf T ZvP ZbP Tryz.f135.results.toList, loops := [(0, Z8h.E)], regs := [], conds := [], cuts := [] }
theorem ZvS (k : Nat) : EnvOK Tryz.prog k Za6.G := (EnvOK.nil mixed)
noncomputable def Zd3 : Code := (findLoop 0 Zh9).getD .skip
theorem ZzH (k : Nat) (x : ZgH.D) : Z8h.lp (k + 1) x = loopK Za6 Z8h 0 Zd3 k x := by kernel_rfl
theorem Zzu (k : Nat) : LOK Tryz.prog Za6 k Zd3 := LOK.by [] (by kernel_rfl) AllOK.nil
theorem ZzD (x : ZgH.D) : Z8h.lp 0 x = none := by kernel_rfl
theorem ZxY (k : Nat) : EOK Tryz.prog Za6 k Z8h.E (.block 0 (.loop Zd3)) := Zr T_ok ZvS ZzD ZzH Zzu k
theorem ZEZ (k : Nat) (x : Tup Z8a.ps) : Z8a.f (k + 1) x = fnK Z8a Za6 Zh9 k x := by kernel_rfl
theorem ZF3 (x : Tup Z8a.ps) : Z8a.f 0 x = none := by kernel_rfl
theorem ZEY (k : Nat) : LOK Tryz.prog Za6 k Zh9 := LOK.by [(Z8h.E, .block 0 (.loop Zd3))] (by kernel_rfl) (AllOK.cons (ZxY k) AllOK.nil)
theorem ZF9 (k : Nat) : SoundAt Tryz.prog k 135 Z8a.E := @Zk Tryz.prog Z8a Za6 135 Tryz.f135 Zh9 (by kernel_rfl) (by kernel_rfl) (by kernel_rfl) Tryz.func135 (by kernel_rfl) (by kernel_rfl) (by kernel_rfl) T_ok ZvS ZEY ZF3 ZEZ k
noncomputable def Z9R : List PK := [PK.mk Ty.bool false none false none]
noncomputable def ZlO : List PK := [PK.mk (Ty.pair (Ty.int .i64) (Ty.int .i64)) true none false none]
noncomputable def Zkx (r : Bool) : Tup Z9R × OutD := ((r, ()), none)
noncomputable def ZkL : Tup Z9R × OutD → Option (Bool)
 | (a, none) => some (a.1)
 | _ => none
theorem ZrA : ∀ b r, ZkL b = some r → Zkx r = b := by
 rintro ⟨a, o⟩ r h
 cases o with
 | none => injection h with h; subst h; rfl
 | some _ => cases h
noncomputable def Z9x : Nat → Int × Int → Option Bool
 | 0, _ => none
 | k + 1, p0 =>
  if decide (Prod.fst p0 = (6 : Int)) = true then some true else some (decide (Prod.fst p0 = (7 : Int)))
noncomputable def Z4i : FnDef := .of ZlO Z9R (Bool) (fun k x => Z9x k x.1) Zkx ZkL ZrA
noncomputable def ZfV : Code := Tryz.f136.body.getD .skip
noncomputable def Zcm : Ctx (Tup Z9R × OutD) := { T := T, G := [], mvs := [], no := 0, n := 11, res := resOf T ZlO Z9R Tryz.f136.results.toList, loops := [], regs := [], conds := [], cuts := [] }
theorem ZxC (k : Nat) : EnvOK Tryz.prog k Zcm.G := (EnvOK.nil mixed)
theorem Zy0 (k : Nat) (x : Tup Z4i.ps) : Z4i.f (k + 1) x = fnK Z4i Zcm ZfV k x := by kernel_rfl
theorem Zxo (x : Tup Z4i.ps) : Z4i.f 0 x = none := by kernel_rfl
theorem Zzj (k : Nat) : LOK Tryz.prog Zcm k ZfV := LOK.by [] (by kernel_rfl) AllOK.nil
theorem Zzd (k : Nat) : SoundAt Tryz.prog k 136 Z4i.E := @Zk Tryz.prog Z4i Zcm 136 Tryz.f136 ZfV (by kernel_rfl) (by kernel_rfl) (by kernel_rfl) Tryz.func136 (by kernel_rfl) (by kernel_rfl) (by kernel_rfl) T_ok ZxC Zzj Zxo Zy0 k
noncomputable def Z9H : List PK := [PK.mk (Ty.slice (3 : Nat) (Ty.int .i64)) false none false none]
noncomputable def ZlF : List PK := [PK.mk (Ty.pair (Ty.int .i64) (Ty.pair (Ty.int .i64) (Ty.slice (122 : Nat) (Ty.pair (Ty.int .i64) (Ty.int .i64))))) true none false none, PK.mk (Ty.int .i64) false none false none]
noncomputable def ZkG (r : List Int) : Tup Z9H × OutD := ((r, ()), none)
noncomputable def Zkr : Tup Z9H × OutD → Option (List Int)
 | (a, none) => some (a.1)
 | _ => none
theorem Zsj : ∀ b r, Zkr b = some r → ZkG r = b := by
 rintro ⟨a, o⟩ r h
 cases o with
 | none => injection h with h; subst h; rfl
 | some _ => cases h
noncomputable def Zce : Nat → Int × Int × List (Int × Int) → Int → Option (List Int)
 | 0, _, _ => none
 | k + 1, p0, p1 =>
  if Prod.fst p0.2 = (0 : Int) then none else if Prod.fst p0.2 = (0 : Int) then none else if decide (wrap64 (Int.tdiv p1 p0.2.1) > (0 : Int)) = true then if decide (Int.tmod p1 p0.2.1 > (0 : Int)) = true then if decide (wrap64 (Int.tmod p1 p0.2.1 + (1 : Int)) < Prod.fst p0.2) = true then if decide (wrap64 (wrap64 (Int.tdiv p1 p0.2.1) + (1 : Int)) < Prod.fst p0) = true then some ([wrap64 (p1 - Prod.fst p0.2)] ++ [wrap64 (p1 - (1 : Int))] ++ [wrap64 (p1 + (1 : Int))] ++ [wrap64 (p1 + Prod.fst p0.2)]) else some ([wrap64 (p1 - Prod.fst p0.2)] ++ [wrap64 (p1 - (1 : Int))] ++ [wrap64 (p1 + (1 : Int))]) else if decide (wrap64 (wrap64 (Int.tdiv p1 p0.2.1) + (1 : Int)) < Prod.fst p0) = true then some ([wrap64 (p1 - Prod.fst p0.2)] ++ [wrap64 (p1 - (1 : Int))] ++ [wrap64 (p1 + Prod.fst p0.2)]) else some ([wrap64 (p1 - Prod.fst p0.2)] ++ [wrap64 (p1 - (1 : Int))]) else if decide (wrap64 (Int.tmod p1 p0.2.1 + (1 : Int)) < Prod.fst p0.2) = true then if decide (wrap64 (wrap64 (Int.tdiv p1 p0.2.1) + (1 : Int)) < Prod.fst p0) = true then some ([wrap64 (p1 - Prod.fst p0.2)] ++ [wrap64 (p1 + (1 : Int))] ++ [wrap64 (p1 + Prod.fst p0.2)]) else some ([wrap64 (p1 - Prod.fst p0.2)] ++ [wrap64 (p1 + (1 : Int))]) else if decide (wrap64 (wrap64 (Int.tdiv p1 p0.2.1) + (1 : Int)) < Prod.fst p0) = true then some ([wrap64 (p1 - Prod.fst p0.2)] ++ [wrap64 (p1 + Prod.fst p0.2)]) else some [wrap64 (p1 - Prod.fst p0.2)] else if decide (Int.tmod p1 p0.2.1 > (0 : Int)) = true then if decide (wrap64 (Int.tmod p1 p0.2.1 + (1 : Int)) < Prod.fst p0.2) = true then if decide (wrap64 (wrap64 (Int.tdiv p1 p0.2.1) + (1 : Int)) < Prod.fst p0) = true then some ([wrap64 (p1 - (1 : Int))] ++ [wrap64 (p1 + (1 : Int))] ++ [wrap64 (p1 + Prod.fst p0.2)]) else some ([wrap64 (p1 - (1 : Int))] ++ [wrap64 (p1 + (1 : Int))]) else if decide (wrap64 (wrap64 (Int.tdiv p1 p0.2.1) + (1 : Int)) < Prod.fst p0) = true then some ([wrap64 (p1 - (1 : Int))] ++ [wrap64 (p1 + Prod.fst p0.2)]) else some [wrap64 (p1 - (1 : Int))] else if decide (wrap64 (Int.tmod p1 p0.2.1 + (1 : Int)) < Prod.fst p0.2) = true then if decide (wrap64 (wrap64 (Int.tdiv p1 p0.2.1) + (1 : Int)) < Prod.fst p0) = true then some ([wrap64 (p1 + (1 : Int))] ++ [wrap64 (p1 + Prod.fst p0.2)]) else some [wrap64 (p1 + (1 : Int))] else if decide (wrap64 (wrap64 (Int.tdiv p1 p0.2.1) + (1 : Int)) < Prod.fst p0) = true then some [wrap64 (p1 + Prod.fst p0.2)] else some []
noncomputable def Z4h : FnDef := .of ZlF Z9H (List Int) (fun k x => Zce k x.1 x.2.1) ZkG Zkr Zsj
noncomputable def Zfr : Code := Tryz.f137.body.getD .skip
noncomputable def Zcb : Ctx (Tup Z9H × OutD) := { T := T, G := [], mvs := [], no := 0, n := 56, res := resOf T ZlF Z9H Tryz.f137.results.toList, loops := [], regs := [], conds := [], cuts := [] }
theorem ZyZ (k : Nat) : EnvOK Tryz.prog k Zcb.G := (EnvOK.nil mixed)
theorem Zyd (k : Nat) (x : Tup Z4h.ps) : Z4h.f (k + 1) x = fnK Z4h Zcb Zfr k x := by kernel_rfl
theorem Zy9 (x : Tup Z4h.ps) : Z4h.f 0 x = none := by kernel_rfl
theorem Zyb (k : Nat) : LOK Tryz.prog Zcb k Zfr := LOK.by [] (by kernel_rfl) AllOK.nil
theorem Zyx (k : Nat) : SoundAt Tryz.prog k 137 Z4h.E := @Zk Tryz.prog Z4h Zcb 137 Tryz.f137 Zfr (by kernel_rfl) (by kernel_rfl) (by kernel_rfl) Tryz.func137 (by kernel_rfl) (by kernel_rfl) (by kernel_rfl) T_ok ZyZ Zyb Zy9 Zyd k
noncomputable def Z5z : List PK := []
noncomputable def ZiU : List PK := [PK.mk (Ty.pair (Ty.int .i64) (Ty.pair (Ty.int .i64) (Ty.slice (122 : Nat) (Ty.pair (Ty.int .i64) (Ty.int .i64))))) true (some ((2 : Nat), (122 : Nat), Ty.pair (Ty.int .i64) (Ty.int .i64))) false none, PK.mk (Ty.slice (3 : Nat) (Ty.int .i64)) false none false none, PK.mk (Ty.slice (3 : Nat) (Ty.int .i64)) false none false none, PK.mk (Ty.int .i64) false none false none]
noncomputable def Zhs (r : List (Int × Int)) : Tup Z5z × OutD := ((()), some ⟨Ty.pair (Ty.int .i64) (Ty.int .i64), r⟩)
noncomputable def ZcS : Tup Z5z × OutD → Option (List (Int × Int))
 | (a, some ⟨u, ys⟩) => if h : u = Ty.pair (Ty.int .i64) (Ty.int .i64) then some (castU h ys) else none
 | _ => none
theorem ZoD : ∀ b r, ZcS b = some r → Zhs r = b := by
 rintro ⟨a, o⟩ r h
 cases o with
 | none => cases h
 | some s =>
  obtain ⟨u, ys⟩ := s
  simp only [ZcS] at h
  split at h
  ·rename_i hu; subst hu; injection h with h; subst h; rfl
  ·cases h
noncomputable def ZH : Nat → List (Int × Int) → Int → Int → List Int → List Int → Int → Int → Int → Option (List (Int × Int))
 | 0, _, _, _, _, _, _, _, _ => none
 | k + 1, o1, b2_0, b2_1, v1, v2, v3, v12, v13 =>
  if decide (v13 < v12) = true then if decide (v13 = v3) = true then if (0 : Int) ≤ v13 then if v13 < (↑(List.length v2) : Int) then if decide (List.getD v2 (Int.toNat v13) (0 : Int) ≠ (1 : Int)) = true then if (0 : Int) ≤ v13 then if v13 < (↑(List.length o1) : Int) then if (0 : Int) ≤ v13 then if v13 < (↑(List.length o1) : Int) then ZH k (List.set o1 (Int.toNat v13) (Prod.fst (List.getD o1 (Int.toNat v13) ((0 : Int), (0 : Int))), wrap64 ((1 : Int) - Prod.snd (List.getD o1 (Int.toNat v13) ((0 : Int), (0 : Int)))))) b2_0 b2_1 v1 v2 v3 v12 (wrap64 (v13 + (1 : Int))) else none else none else none else none else ZH k o1 b2_0 b2_1 v1 v2 v3 v12 (wrap64 (v13 + (1 : Int))) else none else none else if (0 : Int) ≤ v3 then if v3 < (↑(List.length o1) : Int) then if decide (Prod.fst (List.getD o1 (Int.toNat v3) ((0 : Int), (0 : Int))) = (6 : Int)) = true then if (0 : Int) ≤ v13 then if v13 < (↑(List.length o1) : Int) then if decide (Prod.fst (List.getD o1 (Int.toNat v13) ((0 : Int), (0 : Int))) = (6 : Int)) = true then if (0 : Int) ≤ v13 then if v13 < (↑(List.length v1) : Int) then if (0 : Int) ≤ v3 then if v3 < (↑(List.length v1) : Int) then if decide (List.getD v1 (Int.toNat v13) (0 : Int) = List.getD v1 (Int.toNat v3) (0 : Int)) = true then if (0 : Int) ≤ v13 then if v13 < (↑(List.length v2) : Int) then if decide (List.getD v2 (Int.toNat v13) (0 : Int) ≠ (1 : Int)) = true then if (0 : Int) ≤ v13 then if v13 < (↑(List.length o1) : Int) then if (0 : Int) ≤ v13 then if v13 < (↑(List.length o1) : Int) then ZH k (List.set o1 (Int.toNat v13) (Prod.fst (List.getD o1 (Int.toNat v13) ((0 : Int), (0 : Int))), wrap64 ((1 : Int) - Prod.snd (List.getD o1 (Int.toNat v13) ((0 : Int), (0 : Int)))))) b2_0 b2_1 v1 v2 v3 v12 (wrap64 (v13 + (1 : Int))) else none else none else none else none else ZH k o1 b2_0 b2_1 v1 v2 v3 v12 (wrap64 (v13 + (1 : Int))) else none else none else ZH k o1 b2_0 b2_1 v1 v2 v3 v12 (wrap64 (v13 + (1 : Int))) else none else none else none else none else ZH k o1 b2_0 b2_1 v1 v2 v3 v12 (wrap64 (v13 + (1 : Int))) else none else none else ZH k o1 b2_0 b2_1 v1 v2 v3 v12 (wrap64 (v13 + (1 : Int))) else none else none else some o1
noncomputable def Zbd : Spec := Spec.mk [OSh.ro, OSh.row false (122 : Nat) (Ty.pair (Ty.int .i64) (Ty.int .i64)), OSh.box (26 : Nat) [Sh.int .i64, Sh.int .i64, Sh.sl (1 : Nat)]] [((1 : Nat), TSh.at (Sh.snap (0 : Nat) (Ty.int .i64))), ((2 : Nat), TSh.at (Sh.snap (0 : Nat) (Ty.int .i64))), ((3 : Nat), TSh.at (Sh.int .i64)), ((4 : Nat), TSh.at (Sh.ptr (2 : Nat) (0 : Nat))), ((12 : Nat), TSh.at (Sh.int .i64)), ((13 : Nat), TSh.at (Sh.int .i64))]
noncomputable def ZpE : Spec := Spec.mk [OSh.ro, OSh.row false (122 : Nat) (Ty.pair (Ty.int .i64) (Ty.int .i64))] []
noncomputable def Z3P : LoopDef (Tup Z5z × OutD) := .plain Zbd ZpE (List (Int × Int)) (fun k x => ZH k x.1.2.1 x.1.2.2.1.1 x.1.2.2.1.2.1 x.2.1 x.2.2.1 x.2.2.2.1 x.2.2.2.2.2.1 x.2.2.2.2.2.2.1) (fun z => (((), z, ()), (()))) (fun y => (y.1.2.1)) (fun _ => rfl)
noncomputable def Z5B : Nat → Int × Int × List (Int × Int) → List Int → List Int → Int → Option (List (Int × Int))
 | 0, _, _, _, _ => none
 | k + 1, p0, p1, p2, p3 =>
  Option.bind (ZH k p0.2.2 p0.1 p0.2.1 p1 p2 p3 (↑(List.length p0.2.2) : Int) (0 : Int)) fun z0 => some z0
noncomputable def Z3f : FnDef := .of ZiU Z5z (List (Int × Int)) (fun k x => Z5B k x.1 x.2.1 x.2.2.1 x.2.2.2.1) Zhs ZcS ZoD
noncomputable def Zan : Code := Tryz.f139.body.getD .skip
noncomputable def Z47 : Ctx (Tup Z5z × OutD) := { T := T, G := [], mvs := [], no := 1, n := 69, res := resOf T ZiU Z5z Tryz.f139.results.toList, loops := [(0, Z3P.E)], regs := [], conds := [], cuts := [] }
theorem ZiP (k : Nat) : EnvOK Tryz.prog k Z47.G := (EnvOK.nil mixed)
noncomputable def Z81 : Code := (findLoop 0 Zan).getD .skip
theorem ZpH (k : Nat) (x : Zbd.D) : Z3P.lp (k + 1) x = loopK Z47 Z3P 0 Z81 k x := by kernel_rfl
theorem Zpu (k : Nat) : LOK Tryz.prog Z47 k Z81 := LOK.by [] (by kernel_rfl) AllOK.nil
theorem Zpr (x : Zbd.D) : Z3P.lp 0 x = none := by kernel_rfl
theorem Znx (k : Nat) : EOK Tryz.prog Z47 k Z3P.E (.block 0 (.loop Z81)) := Zr T_ok ZiP Zpr ZpH Zpu k
theorem ZuF (k : Nat) (x : Tup Z3f.ps) : Z3f.f (k + 1) x = fnK Z3f Z47 Zan k x := by kernel_rfl
theorem ZuU (x : Tup Z3f.ps) : Z3f.f 0 x = none := by kernel_rfl
theorem ZuX (k : Nat) : LOK Tryz.prog Z47 k Zan := LOK.by [(Z3P.E, .block 0 (.loop Z81))] (by kernel_rfl) (AllOK.cons (Znx k) AllOK.nil)
theorem Zuj (k : Nat) : SoundAt Tryz.prog k 139 Z3f.E := @Zk Tryz.prog Z3f Z47 139 Tryz.f139 Zan (by kernel_rfl) (by kernel_rfl) (by kernel_rfl) Tryz.func139 (by kernel_rfl) (by kernel_rfl) (by kernel_rfl) T_ok ZiP ZuX ZuU ZuF k
noncomputable def Z3E : List PK := [PK.mk Ty.str false none false none]
noncomputable def ZcT : List PK := [PK.mk (Ty.int .i64) false none false none]
noncomputable def Zch (r : ByteArray) : Tup Z3E × OutD := ((r, ()), none)
noncomputable def Zcl : Tup Z3E × OutD → Option (ByteArray)
 | (a, none) => some (a.1)
 | _ => none
theorem Zh1 : ∀ b r, Zcl b = some r → Zch r = b := by
 rintro ⟨a, o⟩ r h
 cases o with
 | none => injection h with h; subst h; rfl
 | some _ => cases h
noncomputable def Z8u : Nat → Int → Option ByteArray
 | 0, _ => none
 | k + 1, p0 =>
  if decide (p0 < (10 : Int)) = true then if (0 : Int) ≤ p0 then if p0 ≤ wrap64 (p0 + (1 : Int)) then if wrap64 (p0 + (1 : Int)) ≤ (↑(ByteArray.size (ByteArray.mk #[(48 : UInt8), (49 : UInt8), (50 : UInt8), (51 : UInt8), (52 : UInt8), (53 : UInt8), (54 : UInt8), (55 : UInt8), (56 : UInt8), (57 : UInt8), (97 : UInt8), (98 : UInt8), (99 : UInt8), (100 : UInt8), (101 : UInt8), (102 : UInt8), (103 : UInt8), (104 : UInt8), (105 : UInt8), (106 : UInt8), (107 : UInt8), (108 : UInt8), (109 : UInt8), (110 : UInt8), (111 : UInt8), (112 : UInt8), (113 : UInt8), (114 : UInt8), (115 : UInt8), (116 : UInt8), (117 : UInt8), (118 : UInt8), (119 : UInt8), (120 : UInt8), (121 : UInt8), (122 : UInt8)])) : Int) then some (subS (ByteArray.mk #[(48 : UInt8), (49 : UInt8), (50 : UInt8), (51 : UInt8), (52 : UInt8), (53 : UInt8), (54 : UInt8), (55 : UInt8), (56 : UInt8), (57 : UInt8), (97 : UInt8), (98 : UInt8), (99 : UInt8), (100 : UInt8), (101 : UInt8), (102 : UInt8), (103 : UInt8), (104 : UInt8), (105 : UInt8), (106 : UInt8), (107 : UInt8), (108 : UInt8), (109 : UInt8), (110 : UInt8), (111 : UInt8), (112 : UInt8), (113 : UInt8), (114 : UInt8), (115 : UInt8), (116 : UInt8), (117 : UInt8), (118 : UInt8), (119 : UInt8), (120 : UInt8), (121 : UInt8), (122 : UInt8)]) (Int.toNat p0) (Int.toNat (wrap64 (p0 + (1 : Int))))) else none else none else none else if (0 : Int) ≤ wrap64 (p0 * (2 : Int)) then if wrap64 (p0 * (2 : Int)) ≤ wrap64 (wrap64 (p0 * (2 : Int)) + (2 : Int)) then if wrap64 (wrap64 (p0 * (2 : Int)) + (2 : Int)) ≤ (↑(ByteArray.size (ByteArray.mk (List.toArray (List.append (List.append [(48 : UInt8), (48 : UInt8), (48 : UInt8), (49 : UInt8), (48 : UInt8), (50 : UInt8), (48 : UInt8), (51 : UInt8), (48 : UInt8), (52 : UInt8), (48 : UInt8), (53 : UInt8), (48 : UInt8), (54 : UInt8), (48 : UInt8), (55 : UInt8), (48 : UInt8), (56 : UInt8), (48 : UInt8), (57 : UInt8), (49 : UInt8), (48 : UInt8), (49 : UInt8), (49 : UInt8), (49 : UInt8), (50 : UInt8), (49 : UInt8), (51 : UInt8), (49 : UInt8), (52 : UInt8), (49 : UInt8), (53 : UInt8), (49 : UInt8), (54 : UInt8), (49 : UInt8), (55 : UInt8), (49 : UInt8), (56 : UInt8), (49 : UInt8), (57 : UInt8), (50 : UInt8), (48 : UInt8), (50 : UInt8), (49 : UInt8), (50 : UInt8), (50 : UInt8), (50 : UInt8), (51 : UInt8), (50 : UInt8), (52 : UInt8)] [(50 : UInt8), (53 : UInt8), (50 : UInt8), (54 : UInt8), (50 : UInt8), (55 : UInt8), (50 : UInt8), (56 : UInt8), (50 : UInt8), (57 : UInt8), (51 : UInt8), (48 : UInt8), (51 : UInt8), (49 : UInt8), (51 : UInt8), (50 : UInt8), (51 : UInt8), (51 : UInt8), (51 : UInt8), (52 : UInt8), (51 : UInt8), (53 : UInt8), (51 : UInt8), (54 : UInt8), (51 : UInt8), (55 : UInt8), (51 : UInt8), (56 : UInt8), (51 : UInt8), (57 : UInt8), (52 : UInt8), (48 : UInt8), (52 : UInt8), (49 : UInt8), (52 : UInt8), (50 : UInt8), (52 : UInt8), (51 : UInt8), (52 : UInt8), (52 : UInt8), (52 : UInt8), (53 : UInt8), (52 : UInt8), (54 : UInt8), (52 : UInt8), (55 : UInt8), (52 : UInt8), (56 : UInt8), (52 : UInt8), (57 : UInt8)]) (List.append [(53 : UInt8), (48 : UInt8), (53 : UInt8), (49 : UInt8), (53 : UInt8), (50 : UInt8), (53 : UInt8), (51 : UInt8), (53 : UInt8), (52 : UInt8), (53 : UInt8), (53 : UInt8), (53 : UInt8), (54 : UInt8), (53 : UInt8), (55 : UInt8), (53 : UInt8), (56 : UInt8), (53 : UInt8), (57 : UInt8), (54 : UInt8), (48 : UInt8), (54 : UInt8), (49 : UInt8), (54 : UInt8), (50 : UInt8), (54 : UInt8), (51 : UInt8), (54 : UInt8), (52 : UInt8), (54 : UInt8), (53 : UInt8), (54 : UInt8), (54 : UInt8), (54 : UInt8), (55 : UInt8), (54 : UInt8), (56 : UInt8), (54 : UInt8), (57 : UInt8), (55 : UInt8), (48 : UInt8), (55 : UInt8), (49 : UInt8), (55 : UInt8), (50 : UInt8), (55 : UInt8), (51 : UInt8), (55 : UInt8), (52 : UInt8)] [(55 : UInt8), (53 : UInt8), (55 : UInt8), (54 : UInt8), (55 : UInt8), (55 : UInt8), (55 : UInt8), (56 : UInt8), (55 : UInt8), (57 : UInt8), (56 : UInt8), (48 : UInt8), (56 : UInt8), (49 : UInt8), (56 : UInt8), (50 : UInt8), (56 : UInt8), (51 : UInt8), (56 : UInt8), (52 : UInt8), (56 : UInt8), (53 : UInt8), (56 : UInt8), (54 : UInt8), (56 : UInt8), (55 : UInt8), (56 : UInt8), (56 : UInt8), (56 : UInt8), (57 : UInt8), (57 : UInt8), (48 : UInt8), (57 : UInt8), (49 : UInt8), (57 : UInt8), (50 : UInt8), (57 : UInt8), (51 : UInt8), (57 : UInt8), (52 : UInt8), (57 : UInt8), (53 : UInt8), (57 : UInt8), (54 : UInt8), (57 : UInt8), (55 : UInt8), (57 : UInt8), (56 : UInt8), (57 : UInt8), (57 : UInt8)]))))) : Int) then some (subS (ByteArray.mk (List.toArray (List.append (List.append [(48 : UInt8), (48 : UInt8), (48 : UInt8), (49 : UInt8), (48 : UInt8), (50 : UInt8), (48 : UInt8), (51 : UInt8), (48 : UInt8), (52 : UInt8), (48 : UInt8), (53 : UInt8), (48 : UInt8), (54 : UInt8), (48 : UInt8), (55 : UInt8), (48 : UInt8), (56 : UInt8), (48 : UInt8), (57 : UInt8), (49 : UInt8), (48 : UInt8), (49 : UInt8), (49 : UInt8), (49 : UInt8), (50 : UInt8), (49 : UInt8), (51 : UInt8), (49 : UInt8), (52 : UInt8), (49 : UInt8), (53 : UInt8), (49 : UInt8), (54 : UInt8), (49 : UInt8), (55 : UInt8), (49 : UInt8), (56 : UInt8), (49 : UInt8), (57 : UInt8), (50 : UInt8), (48 : UInt8), (50 : UInt8), (49 : UInt8), (50 : UInt8), (50 : UInt8), (50 : UInt8), (51 : UInt8), (50 : UInt8), (52 : UInt8)] [(50 : UInt8), (53 : UInt8), (50 : UInt8), (54 : UInt8), (50 : UInt8), (55 : UInt8), (50 : UInt8), (56 : UInt8), (50 : UInt8), (57 : UInt8), (51 : UInt8), (48 : UInt8), (51 : UInt8), (49 : UInt8), (51 : UInt8), (50 : UInt8), (51 : UInt8), (51 : UInt8), (51 : UInt8), (52 : UInt8), (51 : UInt8), (53 : UInt8), (51 : UInt8), (54 : UInt8), (51 : UInt8), (55 : UInt8), (51 : UInt8), (56 : UInt8), (51 : UInt8), (57 : UInt8), (52 : UInt8), (48 : UInt8), (52 : UInt8), (49 : UInt8), (52 : UInt8), (50 : UInt8), (52 : UInt8), (51 : UInt8), (52 : UInt8), (52 : UInt8), (52 : UInt8), (53 : UInt8), (52 : UInt8), (54 : UInt8), (52 : UInt8), (55 : UInt8), (52 : UInt8), (56 : UInt8), (52 : UInt8), (57 : UInt8)]) (List.append [(53 : UInt8), (48 : UInt8), (53 : UInt8), (49 : UInt8), (53 : UInt8), (50 : UInt8), (53 : UInt8), (51 : UInt8), (53 : UInt8), (52 : UInt8), (53 : UInt8), (53 : UInt8), (53 : UInt8), (54 : UInt8), (53 : UInt8), (55 : UInt8), (53 : UInt8), (56 : UInt8), (53 : UInt8), (57 : UInt8), (54 : UInt8), (48 : UInt8), (54 : UInt8), (49 : UInt8), (54 : UInt8), (50 : UInt8), (54 : UInt8), (51 : UInt8), (54 : UInt8), (52 : UInt8), (54 : UInt8), (53 : UInt8), (54 : UInt8), (54 : UInt8), (54 : UInt8), (55 : UInt8), (54 : UInt8), (56 : UInt8), (54 : UInt8), (57 : UInt8), (55 : UInt8), (48 : UInt8), (55 : UInt8), (49 : UInt8), (55 : UInt8), (50 : UInt8), (55 : UInt8), (51 : UInt8), (55 : UInt8), (52 : UInt8)] [(55 : UInt8), (53 : UInt8), (55 : UInt8), (54 : UInt8), (55 : UInt8), (55 : UInt8), (55 : UInt8), (56 : UInt8), (55 : UInt8), (57 : UInt8), (56 : UInt8), (48 : UInt8), (56 : UInt8), (49 : UInt8), (56 : UInt8), (50 : UInt8), (56 : UInt8), (51 : UInt8), (56 : UInt8), (52 : UInt8), (56 : UInt8), (53 : UInt8), (56 : UInt8), (54 : UInt8), (56 : UInt8), (55 : UInt8), (56 : UInt8), (56 : UInt8), (56 : UInt8), (57 : UInt8), (57 : UInt8), (48 : UInt8), (57 : UInt8), (49 : UInt8), (57 : UInt8), (50 : UInt8), (57 : UInt8), (51 : UInt8), (57 : UInt8), (52 : UInt8), (57 : UInt8), (53 : UInt8), (57 : UInt8), (54 : UInt8), (57 : UInt8), (55 : UInt8), (57 : UInt8), (56 : UInt8), (57 : UInt8), (57 : UInt8)])))) (Int.toNat (wrap64 (p0 * (2 : Int)))) (Int.toNat (wrap64 (wrap64 (p0 * (2 : Int)) + (2 : Int))))) else none else none else none
noncomputable def Z1m : FnDef := .of ZcT Z3E (ByteArray) (fun k x => Z8u k x.1) Zch Zcl Zh1
noncomputable def Z8A : Code := Tryz.f140.body.getD .skip
noncomputable def Z5l : Ctx (Tup Z3E × OutD) := { T := T, G := [], mvs := [], no := 0, n := 15, res := resOf T ZcT Z3E Tryz.f140.results.toList, loops := [], regs := [], conds := [], cuts := [] }
theorem ZjC (k : Nat) : EnvOK Tryz.prog k Z5l.G := (EnvOK.nil mixed)
theorem ZjS (k : Nat) (x : Tup Z1m.ps) : Z1m.f (k + 1) x = fnK Z1m Z5l Z8A k x := by kernel_rfl
theorem ZkR (x : Tup Z1m.ps) : Z1m.f 0 x = none := by kernel_rfl
theorem Zke (k : Nat) : LOK Tryz.prog Z5l k Z8A := LOK.by [] (by kernel_rfl) AllOK.nil
theorem ZjJ (k : Nat) : SoundAt Tryz.prog k 140 Z1m.E := @Zk Tryz.prog Z1m Z5l 140 Tryz.f140 Z8A (by kernel_rfl) (by kernel_rfl) (by kernel_rfl) Tryz.func140 (by kernel_rfl) (by kernel_rfl) (by kernel_rfl) T_ok ZjC Zke ZkR ZjS k
noncomputable def ZbK : List PK := [PK.mk (Ty.pair (Ty.int .i64) (Ty.int .i64)) true none false none]
noncomputable def Zqx : List PK := [PK.mk (Ty.pair (Ty.int .i64) (Ty.int .i64)) true none false none]
noncomputable def Znf (r : Int × Int) : Tup ZbK × OutD := ((r, ()), none)
noncomputable def Zom : Tup ZbK × OutD → Option (Int × Int)
 | (a, none) => some (a.1)
 | _ => none
theorem Zv1 : ∀ b r, Zom b = some r → Znf r = b := by
 rintro ⟨a, o⟩ r h
 cases o with
 | none => injection h with h; subst h; rfl
 | some _ => cases h
noncomputable def ZbM : Nat → Int × Int → Option (Int × Int)
 | 0, _ => none
 | k + 1, p0 =>
  some (Prod.fst p0, wrap64 ((1 : Int) - Prod.snd p0))
noncomputable def Z5K : FnDef := .of Zqx ZbK (Int × Int) (fun k x => ZbM k x.1) Znf Zom Zv1
noncomputable def ZhT : Code := Tryz.f148.body.getD .skip
noncomputable def ZdZ : Ctx (Tup ZbK × OutD) := { T := T, G := [], mvs := [], no := 0, n := 9, res := resOf T Zqx ZbK Tryz.f148.results.toList, loops := [], regs := [], conds := [], cuts := [] }
theorem ZB8 (k : Nat) : EnvOK Tryz.prog k ZdZ.G := (EnvOK.nil mixed)
theorem ZB9 (k : Nat) (x : Tup Z5K.ps) : Z5K.f (k + 1) x = fnK Z5K ZdZ ZhT k x := by kernel_rfl
theorem ZAC (x : Tup Z5K.ps) : Z5K.f 0 x = none := by kernel_rfl
theorem ZBh (k : Nat) : LOK Tryz.prog ZdZ k ZhT := LOK.by [] (by kernel_rfl) AllOK.nil
theorem ZB3 (k : Nat) : SoundAt Tryz.prog k 148 Z5K.E := @Zk Tryz.prog Z5K ZdZ 148 Tryz.f148 ZhT (by kernel_rfl) (by kernel_rfl) (by kernel_rfl) Tryz.func148 (by kernel_rfl) (by kernel_rfl) (by kernel_rfl) T_ok ZB8 ZBh ZAC ZB9 k
end
end Go.Proofs.YtglkedenkcpcbaaGreatDoor.Vs
