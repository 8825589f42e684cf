/- The proof, part 6. -/
import Derived.Test.Ytgjmhbjdhihgaaaqgm4
set_option maxRecDepth 100000
set_option maxHeartbeats 2000000
set_option linter.unusedVariables false
set_option linter.unusedSimpArgs false
namespace Go.Proofs.Ytgjmhbjdhihgaaa.Vs
open Go.RowKit
noncomputable section
noncomputable def ZaL : List PK := [PK.mk Ty.bool false none false none]
noncomputable def ZuW : List PK := [PK.mk (Ty.slice (34 : Nat) (Ty.slice (3 : Nat) (Ty.int .i64))) false none false none, PK.mk (Ty.slice (34 : Nat) (Ty.slice (3 : Nat) (Ty.int .i64))) false none false none]
noncomputable def Zj3 (r : Bool) : Tup ZaL × OutD := ((r, ()), none)
noncomputable def Zji : Tup ZaL × OutD → Option (Bool)
 | (a, none) => some (a.1)
 | _ => none
theorem ZlJ : ∀ b r, Zji b = some r → Zj3 r = b := by
 rintro ⟨a, o⟩ r h
 cases o with
 | none => injection h with h; subst h; rfl
 | some _ => cases h
noncomputable def Z89 : Nat → List (List Int) → List (List Int) → Int → Int → Option (LR Unit Bool)
 | 0, _, _, _, _ => none
 | k + 1, v0, v1, v12, v13 =>
  if decide (v13 < v12) = true then if (0 : Int) ≤ v13 then if v13 < (↑(List.length v0) : Int) then if (0 : Int) ≤ v13 then if v13 < (↑(List.length v1) : Int) then Option.bind (Za9 k (List.getD v0 (Int.toNat v13) []) (List.getD v1 (Int.toNat v13) [])) fun z0 => if (!z0) = true then some (LR.ret false) else Z89 k v0 v1 v12 (wrap64 (v13 + (1 : Int))) else none else none else none else none else some (LR.go ())
noncomputable def ZgE : Spec := Spec.mk [OSh.ro] [((0 : Nat), TSh.at (Sh.snap (0 : Nat) (Ty.slice (3 : Nat) (Ty.int .i64)))), ((1 : Nat), TSh.at (Sh.snap (0 : Nat) (Ty.slice (3 : Nat) (Ty.int .i64)))), ((12 : Nat), TSh.at (Sh.int .i64)), ((13 : Nat), TSh.at (Sh.int .i64))]
noncomputable def ZBq : Spec := Spec.mk [OSh.ro] []
noncomputable def Z7u : LoopDef (Tup ZaL × OutD) := .rets ZgE ZBq (Unit) (Bool) (fun k x => Z89 k x.2.1 x.2.2.1 x.2.2.2.1 x.2.2.2.2.1) (fun z => (((), ()), (()))) (fun y => ()) (fun _ => rfl) Zj3 Zji ZlJ
noncomputable def Zgp : Nat → List (List Int) → List (List Int) → Option Bool
 | 0, _, _ => none
 | k + 1, p0, p1 =>
  if decide ((↑(List.length p0) : Int) ≠ (↑(List.length p1) : Int)) = true then some false else Option.bind (Z89 k p0 p1 (↑(List.length p0) : Int) (0 : Int)) fun z1 => LR.on z1 (fun y1 => some true) fun r1 => some r1
noncomputable def Z6F : FnDef := .of ZuW ZaL (Bool) (fun k x => Zgp k x.1 x.2.1) Zj3 Zji ZlJ
noncomputable def Zgk : Code := Try.f86.body.getD .skip
noncomputable def Z8S : Ctx (Tup ZaL × OutD) := { T := T, G := [(87, Z6b.E)], mvs := [], no := 0, n := 27, res := resOf T ZuW ZaL Try.f86.results.toList, loops := [(0, Z7u.E)], regs := [], conds := [] }
theorem ZuS (k : Nat) : EnvOK Try.prog k Z8S.G := (EnvOK.cons (ZxF k) (EnvOK.nil mixed))
noncomputable def Zd6 : Code := (findLoop 0 Zgk).getD .skip
theorem ZBp (k : Nat) (x : ZgE.D) : Z7u.lp (k + 1) x = loopK Z8S Z7u 0 Zd6 k x := by kernel_rfl
theorem ZBF (k : Nat) : LOK Try.prog Z8S k Zd6 := LOK.by [] (by kernel_rfl) AllOK.nil
theorem ZCk (x : ZgE.D) : Z7u.lp 0 x = none := by kernel_rfl
theorem ZyG (k : Nat) : EOK Try.prog Z8S k Z7u.E (.block 0 (.loop Zd6)) := Z7 T_ok ZuS ZCk ZBp ZBF k
theorem ZFv (k : Nat) (x : Tup Z6F.ps) : Z6F.f (k + 1) x = fnK Z6F Z8S Zgk k x := by kernel_rfl
theorem ZG2 (x : Tup Z6F.ps) : Z6F.f 0 x = none := by kernel_rfl
theorem ZGh (k : Nat) : LOK Try.prog Z8S k Zgk := LOK.by [(Z7u.E, .block 0 (.loop Zd6))] (by kernel_rfl) (AllOK.cons (ZyG k) AllOK.nil)
theorem ZGC (k : Nat) : SoundAt Try.prog k 86 Z6F.E := @Z4 Try.prog Z6F Z8S 86 Try.f86 Zgk (by kernel_rfl) (by kernel_rfl) (by kernel_rfl) Try.func86 (by kernel_rfl) (by kernel_rfl) (by kernel_rfl) T_ok ZuS ZGh ZG2 ZFv k
noncomputable def Zc4 : List PK := [PK.mk Ty.bool false none false none]
noncomputable def Zwv : List PK := [PK.mk (Ty.slice (57 : Nat) (Ty.slice (63 : Nat) (Ty.pair (Ty.int .i64) (Ty.pair (Ty.int .i64) (Ty.int .i64))))) false none false none, PK.mk (Ty.slice (57 : Nat) (Ty.slice (63 : Nat) (Ty.pair (Ty.int .i64) (Ty.pair (Ty.int .i64) (Ty.int .i64))))) false none false none]
noncomputable def Zlh (r : Bool) : Tup Zc4 × OutD := ((r, ()), none)
noncomputable def Zl0 : Tup Zc4 × OutD → Option (Bool)
 | (a, none) => some (a.1)
 | _ => none
theorem Zna : ∀ b r, Zl0 b = some r → Zlh r = b := by
 rintro ⟨a, o⟩ r h
 cases o with
 | none => injection h with h; subst h; rfl
 | some _ => cases h
noncomputable def Z9E : Nat → List (List (Int × Int × Int)) → List (List (Int × Int × Int)) → Int → Int → Option (LR Unit Bool)
 | 0, _, _, _, _ => none
 | k + 1, v0, v1, v12, v13 =>
  if decide (v13 < v12) = true then if (0 : Int) ≤ v13 then if v13 < (↑(List.length v0) : Int) then if (0 : Int) ≤ v13 then if v13 < (↑(List.length v1) : Int) then Option.bind (Zdj k (List.getD v0 (Int.toNat v13) []) (List.getD v1 (Int.toNat v13) [])) fun z0 => if (!z0) = true then some (LR.ret false) else Z9E k v0 v1 v12 (wrap64 (v13 + (1 : Int))) else none else none else none else none else some (LR.go ())
noncomputable def ZhH : Spec := Spec.mk [OSh.ro] [((0 : Nat), TSh.at (Sh.snap (0 : Nat) (Ty.slice (63 : Nat) (Ty.pair (Ty.int .i64) (Ty.pair (Ty.int .i64) (Ty.int .i64)))))), ((1 : Nat), TSh.at (Sh.snap (0 : Nat) (Ty.slice (63 : Nat) (Ty.pair (Ty.int .i64) (Ty.pair (Ty.int .i64) (Ty.int .i64)))))), ((12 : Nat), TSh.at (Sh.int .i64)), ((13 : Nat), TSh.at (Sh.int .i64))]
noncomputable def ZE4 : Spec := Spec.mk [OSh.ro] []
noncomputable def Z7Z : LoopDef (Tup Zc4 × OutD) := .rets ZhH ZE4 (Unit) (Bool) (fun k x => Z9E k x.2.1 x.2.2.1 x.2.2.2.1 x.2.2.2.2.1) (fun z => (((), ()), (()))) (fun y => ()) (fun _ => rfl) Zlh Zl0 Zna
noncomputable def Z3v : Nat → List (List (Int × Int × Int)) → List (List (Int × Int × Int)) → Option Bool
 | 0, _, _ => none
 | k + 1, p0, p1 =>
  if decide ((↑(List.length p0) : Int) ≠ (↑(List.length p1) : Int)) = true then some false else Option.bind (Z9E k p0 p1 (↑(List.length p0) : Int) (0 : Int)) fun z1 => LR.on z1 (fun y1 => some true) fun r1 => some r1
noncomputable def Z7I : FnDef := .of Zwv Zc4 (Bool) (fun k x => Z3v k x.1 x.2.1) Zlh Zl0 Zna
noncomputable def Zhq : Code := Try.f88.body.getD .skip
noncomputable def Za7 : Ctx (Tup Zc4 × OutD) := { T := T, G := [(49, Z56.E)], mvs := [], no := 0, n := 27, res := resOf T Zwv Zc4 Try.f88.results.toList, loops := [(0, Z7Z.E)], regs := [], conds := [] }
theorem Zxj (k : Nat) : EnvOK Try.prog k Za7.G := (EnvOK.cons (Zv0 k) (EnvOK.nil mixed))
noncomputable def Zee : Code := (findLoop 0 Zhq).getD .skip
theorem ZE7 (k : Nat) (x : ZhH.D) : Z7Z.lp (k + 1) x = loopK Za7 Z7Z 0 Zee k x := by kernel_rfl
theorem ZCD (k : Nat) : LOK Try.prog Za7 k Zee := LOK.by [] (by kernel_rfl) AllOK.nil
theorem ZD2 (x : ZhH.D) : Z7Z.lp 0 x = none := by kernel_rfl
theorem ZB2 (k : Nat) : EOK Try.prog Za7 k Z7Z.E (.block 0 (.loop Zee)) := Z7 T_ok Zxj ZD2 ZE7 ZCD k
theorem ZHe (k : Nat) (x : Tup Z7I.ps) : Z7I.f (k + 1) x = fnK Z7I Za7 Zhq k x := by kernel_rfl
theorem ZGN (x : Tup Z7I.ps) : Z7I.f 0 x = none := by kernel_rfl
theorem ZHf (k : Nat) : LOK Try.prog Za7 k Zhq := LOK.by [(Z7Z.E, .block 0 (.loop Zee))] (by kernel_rfl) (AllOK.cons (ZB2 k) AllOK.nil)
theorem ZH7 (k : Nat) : SoundAt Try.prog k 88 Z7I.E := @Z4 Try.prog Z7I Za7 88 Try.f88 Zhq (by kernel_rfl) (by kernel_rfl) (by kernel_rfl) Try.func88 (by kernel_rfl) (by kernel_rfl) (by kernel_rfl) T_ok Zxj ZHf ZGN ZHe k
noncomputable def Z8W : List PK := [PK.mk (Ty.int .i64) false none false none]
noncomputable def ZlC : List PK := [PK.mk (Ty.pair (Ty.slice (5 : Nat) (Ty.int .u8)) (Ty.pair (Ty.int .i64) (Ty.int .u64))) false none false (some (114 : Nat)), PK.mk (Ty.int .i64) false none false none]
noncomputable def ZjI (r : Int × Int × Int) : Tup Z8W × OutD := ((r.1, ()), some ⟨Ty.pair (Ty.slice (5 : Nat) (Ty.int .u8)) (Ty.pair (Ty.int .i64) (Ty.int .u64)), [([], r.2)]⟩)
noncomputable def Zew : Tup Z8W × OutD → Option (Int × Int × Int)
 | (a, some ⟨u, ys⟩) => if h : u = Ty.pair (Ty.slice (5 : Nat) (Ty.int .u8)) (Ty.pair (Ty.int .i64) (Ty.int .u64)) then (match castU h ys with
  | [([], y)] => some (a.1, y)
  | _ => none) else none
 | _ => none
theorem Zri : ∀ b r, Zew b = some r → ZjI r = b := by
 rintro ⟨a, o⟩ r h
 cases o with
 | none => cases h
 | some s =>
  obtain ⟨u, ys⟩ := s
  simp only [Zew] at h
  split at h
  ·rename_i hu
   subst hu
   match ys, h with
   | [], h => cases (show (none : Option _) = some r from h)
   | [([], y)], h => injection (show some _ = some r from h) with h; subst h; rfl
   | [(_ :: _, y)], h => cases (show (none : Option _) = some r from h)
   | (h1, _) :: _ :: _, h => cases h1 <;> cases (show (none : Option _) = some r from h)
  ·cases h
noncomputable def Z1 : Nat → List Int × Int × Int → Int → Option (Int × Int × Int)
 | 0, _, _ => none
 | k + 1, p0, p1 =>
  if decide (p1 ≤ (1 : Int)) = true then some ((0 : Int), Prod.fst p0.2, Prod.snd p0.2) else Option.bind (Z6t k (Prod.fst p0, Prod.fst p0.2, Prod.snd p0.2)) fun z0 => if decide (p1 > (200 : Int)) = true then Option.bind (Z6t k (Prod.fst p0, Prod.fst z0.2, Prod.snd z0.2)) fun z1 => if p1 = (0 : Int) then none else some (Int.tmod (wrap64 (wrap64 (Prod.fst z0 * (256 : Int)) + Prod.fst z1)) p1, Prod.fst z1.2, Prod.snd z1.2) else if p1 = (0 : Int) then none else some (Int.tmod z0.1 p1, Prod.fst z0.2, Prod.snd z0.2)
noncomputable def Zm : FnDef := .of ZlC Z8W (Int × Int × Int) (fun k x => Z1 k x.1 x.2.1) ZjI Zew Zri
noncomputable def ZfH : Code := Try.f111.body.getD .skip
noncomputable def ZbC : Ctx (Tup Z8W × OutD) := { T := T, G := [(175, Z34.E)], mvs := [], no := 2, n := 20, res := resOf T ZlC Z8W Try.f111.results.toList, loops := [], regs := [], conds := [] }
theorem Zzs (k : Nat) : EnvOK Try.prog k ZbC.G := (EnvOK.cons (ZAb k) (EnvOK.nil mixed))
theorem ZA2 (k : Nat) (x : Tup Zm.ps) : Zm.f (k + 1) x = fnK Zm ZbC ZfH k x := by kernel_rfl
theorem ZyJ (x : Tup Zm.ps) : Zm.f 0 x = none := by kernel_rfl
theorem Zz7 (k : Nat) : LOK Try.prog ZbC k ZfH := LOK.by [] (by kernel_rfl) AllOK.nil
theorem Z1n (k : Nat) : SoundAt Try.prog k 111 Zm.E := @Z4 Try.prog Zm ZbC 111 Try.f111 ZfH (by kernel_rfl) (by kernel_rfl) (by kernel_rfl) Try.func111 (by kernel_rfl) (by kernel_rfl) (by kernel_rfl) T_ok Zzs Zz7 ZyJ ZA2 k
noncomputable def Zca : List PK := [PK.mk Ty.bool false none false none]
noncomputable def ZwB : List PK := [PK.mk (Ty.slice (3 : Nat) (Ty.int .i64)) false none false none, PK.mk (Ty.int .i64) false none false none, PK.mk (Ty.int .i64) false none false none]
noncomputable def ZkJ (r : Bool) : Tup Zca × OutD := ((r, ()), none)
noncomputable def Zli : Tup Zca × OutD → Option (Bool)
 | (a, none) => some (a.1)
 | _ => none
theorem ZmI : ∀ b r, Zli b = some r → ZkJ r = b := by
 rintro ⟨a, o⟩ r h
 cases o with
 | none => injection h with h; subst h; rfl
 | some _ => cases h
noncomputable def Z9M : Nat → Int → Int → List Int → Int → Int → Option (LR Unit Bool)
 | 0, _, _, _, _, _ => none
 | k + 1, v1, v2, v9, v10, v11 =>
  if decide (v11 < v10) = true then if (0 : Int) ≤ v11 then if v11 < (↑(List.length v9) : Int) then Option.bind (Z5Q k (List.getD v9 (Int.toNat v11) (0 : Int)) v1 v2) fun z0 => if (!z0) = true then some (LR.ret false) else Z9M k v1 v2 v9 v10 (wrap64 (v11 + (1 : Int))) else none else none else some (LR.go ())
noncomputable def ZhU : Spec := Spec.mk [OSh.ro] [((1 : Nat), TSh.at (Sh.int .i64)), ((2 : Nat), TSh.at (Sh.int .i64)), ((9 : Nat), TSh.at (Sh.snap (0 : Nat) (Ty.int .i64))), ((10 : Nat), TSh.at (Sh.int .i64)), ((11 : Nat), TSh.at (Sh.int .i64))]
noncomputable def ZCH : Spec := Spec.mk [OSh.ro] []
noncomputable def Z8k : LoopDef (Tup Zca × OutD) := .rets ZhU ZCH (Unit) (Bool) (fun k x => Z9M k x.2.1 x.2.2.1 x.2.2.2.1 x.2.2.2.2.1 x.2.2.2.2.2.1) (fun z => (((), ()), (()))) (fun y => ()) (fun _ => rfl) ZkJ Zli ZmI
noncomputable def Zi6 : Nat → List Int → Int → Int → Option Bool
 | 0, _, _, _ => none
 | k + 1, p0, p1, p2 =>
  Option.bind (Z9M k p1 p2 p0 (↑(List.length p0) : Int) (0 : Int)) fun z1 => LR.on z1 (fun y1 => some true) fun r1 => some r1
noncomputable def Z7U : FnDef := .of ZwB Zca (Bool) (fun k x => Zi6 k x.1 x.2.1 x.2.2.1) ZkJ Zli ZmI
noncomputable def Zhr : Code := Try.f113.body.getD .skip
noncomputable def Z9V : Ctx (Tup Zca × OutD) := { T := T, G := [(96, Z3K.E)], mvs := [], no := 0, n := 21, res := resOf T ZwB Zca Try.f113.results.toList, loops := [(0, Z8k.E)], regs := [], conds := [] }
theorem ZwG (k : Nat) : EnvOK Try.prog k Z9V.G := (EnvOK.cons (ZfU k) (EnvOK.nil mixed))
noncomputable def Zec : Code := (findLoop 0 Zhr).getD .skip
theorem ZD0 (k : Nat) (x : ZhU.D) : Z8k.lp (k + 1) x = loopK Z9V Z8k 0 Zec k x := by kernel_rfl
theorem ZD6 (k : Nat) : LOK Try.prog Z9V k Zec := LOK.by [] (by kernel_rfl) AllOK.nil
theorem ZCF (x : ZhU.D) : Z8k.lp 0 x = none := by kernel_rfl
theorem ZBj (k : Nat) : EOK Try.prog Z9V k Z8k.E (.block 0 (.loop Zec)) := Z7 T_ok ZwG ZCF ZD0 ZD6 k
theorem ZHi (k : Nat) (x : Tup Z7U.ps) : Z7U.f (k + 1) x = fnK Z7U Z9V Zhr k x := by kernel_rfl
theorem ZGR (x : Tup Z7U.ps) : Z7U.f 0 x = none := by kernel_rfl
theorem ZHr (k : Nat) : LOK Try.prog Z9V k Zhr := LOK.by [(Z8k.E, .block 0 (.loop Zec))] (by kernel_rfl) (AllOK.cons (ZBj k) AllOK.nil)
theorem ZHC (k : Nat) : SoundAt Try.prog k 113 Z7U.E := @Z4 Try.prog Z7U Z9V 113 Try.f113 Zhr (by kernel_rfl) (by kernel_rfl) (by kernel_rfl) Try.func113 (by kernel_rfl) (by kernel_rfl) (by kernel_rfl) T_ok ZwG ZHr ZGR ZHi k
noncomputable def Z1x : List PK := [PK.mk (Ty.slice (3 : Nat) (Ty.int .i64)) false none false none]
noncomputable def ZiH : List PK := [PK.mk (Ty.pair (Ty.int .i64) (Ty.pair (Ty.int .i64) (Ty.slice (79 : Nat) (Ty.pair (Ty.int .i64) (Ty.int .i64))))) true none false none]
noncomputable def Zhz (r : List Int) : Tup Z1x × OutD := ((r, ()), none)
noncomputable def Zhh : Tup Z1x × OutD → Option (List Int)
 | (a, none) => some (a.1)
 | _ => none
theorem Zox : ∀ b r, Zhh b = some r → Zhz r = b := by
 rintro ⟨a, o⟩ r h
 cases o with
 | none => injection h with h; subst h; rfl
 | some _ => cases h
noncomputable def Z3n : Nat → Int → Int → List (Int × Int) → List Int → Int → Int → Option (Int × Int × List (Int × Int) × List Int)
 | 0, _, _, _, _, _, _ => none
 | k + 1, b1_0, b1_1, b1_2, o2, v17, v18 =>
  if decide (v18 < v17) = true then if (0 : Int) ≤ v18 then if v18 < (↑(List.length o2) : Int) then Z3n k b1_0 b1_1 b1_2 (List.set o2 (Int.toNat v18) (-1 : Int)) v17 (wrap64 (v18 + (1 : Int))) else none else none else some (b1_0, b1_1, b1_2, o2)
noncomputable def Zbh : Spec := Spec.mk [OSh.ro, OSh.box (53 : Nat) [Sh.int .i64, Sh.int .i64, Sh.snap (0 : Nat) (Ty.pair (Ty.int .i64) (Ty.int .i64))], OSh.row true (3 : Nat) (Ty.int .i64)] [((1 : Nat), TSh.at (Sh.ptr (1 : Nat) (0 : Nat))), ((3 : Nat), TSh.at (Sh.sl (2 : Nat))), ((17 : Nat), TSh.at (Sh.int .i64)), ((18 : Nat), TSh.at (Sh.int .i64))]
noncomputable def Zq7 : Spec := Spec.mk [OSh.ro, OSh.box (53 : Nat) [Sh.int .i64, Sh.int .i64, Sh.snap (0 : Nat) (Ty.pair (Ty.int .i64) (Ty.int .i64))], OSh.row true (3 : Nat) (Ty.int .i64)] [((1 : Nat), TSh.at (Sh.ptr (1 : Nat) (0 : Nat))), ((3 : Nat), TSh.at (Sh.sl (2 : Nat)))]
noncomputable def Z2Q : LoopDef (Tup Z1x × OutD) := .plain Zbh Zq7 (Int × Int × List (Int × Int) × List Int) (fun k x => Z3n k x.1.2.1.1 x.1.2.1.2.1 x.1.2.1.2.2.1 x.1.2.2.1 x.2.2.2.1 x.2.2.2.2.1) (fun z => (((), (z.1, z.2.1, z.2.2.1, ()), z.2.2.2, ()), ((), (), ()))) (fun y => (y.1.2.1.1, y.1.2.1.2.1, y.1.2.1.2.2.1, y.1.2.2.1)) (fun _ => rfl)
noncomputable def Z1F : Nat → Int → Int → List (Int × Int) → List Int → List Int → List Int → Int → List (Int × Int) → Int → Int → Int → Int → Option (Int × Int × List (Int × Int) × List Int × List Int × Int × List (Int × Int) × Int × Int)
 | 0, _, _, _, _, _, _, _, _, _, _, _, _ => none
 | k + 1, b1_0, b1_1, b1_2, o2, o3, o4, v5, v26, v27, v28, v60, v61 =>
  if decide (v61 < v60) = true then if (0 : Int) ≤ v61 then if v61 < (↑(List.length o4) : Int) then if (0 : Int) ≤ List.getD o4 (Int.toNat v61) (0 : Int) then if List.getD o4 (Int.toNat v61) (0 : Int) < (↑(List.length b1_2) : Int) then Option.bind (ZaY k (Prod.fst (List.getD b1_2 (Int.toNat (List.getD o4 (Int.toNat v61) (0 : Int))) ((0 : Int), (0 : Int))), Prod.snd (List.getD b1_2 (Int.toNat (List.getD o4 (Int.toNat v61) (0 : Int))) ((0 : Int), (0 : Int))))) fun z3 => if z3 = true then if (0 : Int) ≤ List.getD o4 (Int.toNat v61) (0 : Int) then if List.getD o4 (Int.toNat v61) (0 : Int) < (↑(List.length o2) : Int) then if decide (List.getD o2 (Int.toNat (List.getD o4 (Int.toNat v61) (0 : Int))) (0 : Int) < (0 : Int)) = true then if (0 : Int) ≤ List.getD o4 (Int.toNat v61) (0 : Int) then if List.getD o4 (Int.toNat v61) (0 : Int) < (↑(List.length o2) : Int) then if List.length o3 + List.length [List.getD o4 (Int.toNat v61) (0 : Int)] ≤ (140737488355328 / 8 : Nat) then Z1F k b1_0 b1_1 b1_2 (List.set o2 (Int.toNat (List.getD o4 (Int.toNat v61) (0 : Int))) v5) (o3 ++ [List.getD o4 (Int.toNat v61) (0 : Int)]) o4 v5 v26 v27 v28 v60 (wrap64 (v61 + (1 : Int))) else none else none else none else Z1F k b1_0 b1_1 b1_2 o2 o3 o4 v5 v26 v27 v28 v60 (wrap64 (v61 + (1 : Int))) else none else none else Z1F k b1_0 b1_1 b1_2 o2 o3 o4 v5 v26 v27 v28 v60 (wrap64 (v61 + (1 : Int))) else none else none else none else none else some (b1_0, b1_1, b1_2, o2, o3, v5, v26, v27, v28)
noncomputable def Zbn : Spec := Spec.mk [OSh.ro, OSh.box (53 : Nat) [Sh.int .i64, Sh.int .i64, Sh.snap (0 : Nat) (Ty.pair (Ty.int .i64) (Ty.int .i64))], OSh.row true (3 : Nat) (Ty.int .i64), OSh.row true (3 : Nat) (Ty.int .i64), OSh.row true (3 : Nat) (Ty.int .i64)] [((1 : Nat), TSh.at (Sh.ptr (1 : Nat) (0 : Nat))), ((3 : Nat), TSh.at (Sh.sl (2 : Nat))), ((5 : Nat), TSh.at (Sh.int .i64)), ((8 : Nat), TSh.at (Sh.sl (3 : Nat))), ((26 : Nat), TSh.at (Sh.snap (0 : Nat) (Ty.pair (Ty.int .i64) (Ty.int .i64)))), ((27 : Nat), TSh.at (Sh.int .i64)), ((28 : Nat), TSh.at (Sh.int .i64)), ((59 : Nat), TSh.at (Sh.sl (4 : Nat))), ((60 : Nat), TSh.at (Sh.int .i64)), ((61 : Nat), TSh.at (Sh.int .i64))]
noncomputable def ZpM : Spec := Spec.mk [OSh.ro, OSh.box (53 : Nat) [Sh.int .i64, Sh.int .i64, Sh.snap (0 : Nat) (Ty.pair (Ty.int .i64) (Ty.int .i64))], OSh.row true (3 : Nat) (Ty.int .i64), OSh.row true (3 : Nat) (Ty.int .i64)] [((1 : Nat), TSh.at (Sh.ptr (1 : Nat) (0 : Nat))), ((3 : Nat), TSh.at (Sh.sl (2 : Nat))), ((5 : Nat), TSh.at (Sh.int .i64)), ((8 : Nat), TSh.at (Sh.sl (3 : Nat))), ((26 : Nat), TSh.at (Sh.snap (0 : Nat) (Ty.pair (Ty.int .i64) (Ty.int .i64)))), ((27 : Nat), TSh.at (Sh.int .i64)), ((28 : Nat), TSh.at (Sh.int .i64))]
noncomputable def Z2M : LoopDef (Tup Z1x × OutD) := .plain Zbn ZpM (Int × Int × List (Int × Int) × List Int × List Int × Int × List (Int × Int) × Int × Int) (fun k x => Z1F k x.1.2.1.1 x.1.2.1.2.1 x.1.2.1.2.2.1 x.1.2.2.1 x.1.2.2.2.1 x.1.2.2.2.2.1 x.2.2.2.1 x.2.2.2.2.2.1 x.2.2.2.2.2.2.1 x.2.2.2.2.2.2.2.1 x.2.2.2.2.2.2.2.2.2.1 x.2.2.2.2.2.2.2.2.2.2.1) (fun z => (((), (z.1, z.2.1, z.2.2.1, ()), z.2.2.2.1, z.2.2.2.2.1, ()), ((), (), z.2.2.2.2.2.1, (), z.2.2.2.2.2.2.1, z.2.2.2.2.2.2.2.1, z.2.2.2.2.2.2.2.2, ()))) (fun y => (y.1.2.1.1, y.1.2.1.2.1, y.1.2.1.2.2.1, y.1.2.2.1, y.1.2.2.2.1, y.2.2.2.1, y.2.2.2.2.2.1, y.2.2.2.2.2.2.1, y.2.2.2.2.2.2.2.1)) (fun _ => rfl)
noncomputable def Z2h : Nat → Int → Int → List (Int × Int) → List Int → List Int → Int → List (Int × Int) → Int → Int → Option (Int × Int × List (Int × Int) × List Int × Int × List (Int × Int) × Int × Int)
 | 0, _, _, _, _, _, _, _, _, _ => none
 | k + 1, b1_0, b1_1, b1_2, o2, o3, v5, v26, v27, v28 =>
  if decide ((↑(List.length o3) : Int) > (0 : Int)) = true then if (0 : Int) < (↑(List.length o3) : Int) then if (1 : Int) ≤ (↑(List.length o3) : Int) then if (↑(List.length o3) : Int) ≤ (↑(List.length o3) : Int) then Option.bind (ZdR k (b1_0, b1_1, b1_2) (List.getD o3 (Int.toNat (0 : Int)) (0 : Int))) fun z2 => Option.bind (Z1F k b1_0 b1_1 b1_2 o2 (List.drop (Int.toNat (1 : Int)) o3) z2 v5 v26 v27 v28 (↑(List.length z2) : Int) (0 : Int)) fun z4 => Z2h k z4.1 z4.2.1 z4.2.2.1 z4.2.2.2.1 z4.2.2.2.2.1 z4.2.2.2.2.2.1 z4.2.2.2.2.2.2.1 z4.2.2.2.2.2.2.2.1 z4.2.2.2.2.2.2.2.2 else none else none else none else some (b1_0, b1_1, b1_2, o2, v5, v26, v27, v28)
noncomputable def Zbm : Spec := Spec.mk [OSh.ro, OSh.box (53 : Nat) [Sh.int .i64, Sh.int .i64, Sh.snap (0 : Nat) (Ty.pair (Ty.int .i64) (Ty.int .i64))], OSh.row true (3 : Nat) (Ty.int .i64), OSh.row true (3 : Nat) (Ty.int .i64)] [((1 : Nat), TSh.at (Sh.ptr (1 : Nat) (0 : Nat))), ((3 : Nat), TSh.at (Sh.sl (2 : Nat))), ((5 : Nat), TSh.at (Sh.int .i64)), ((8 : Nat), TSh.at (Sh.sl (3 : Nat))), ((26 : Nat), TSh.at (Sh.snap (0 : Nat) (Ty.pair (Ty.int .i64) (Ty.int .i64)))), ((27 : Nat), TSh.at (Sh.int .i64)), ((28 : Nat), TSh.at (Sh.int .i64))]
noncomputable def Zqd : Spec := Spec.mk [OSh.ro, OSh.box (53 : Nat) [Sh.int .i64, Sh.int .i64, Sh.snap (0 : Nat) (Ty.pair (Ty.int .i64) (Ty.int .i64))], OSh.row true (3 : Nat) (Ty.int .i64)] [((1 : Nat), TSh.at (Sh.ptr (1 : Nat) (0 : Nat))), ((3 : Nat), TSh.at (Sh.sl (2 : Nat))), ((5 : Nat), TSh.at (Sh.int .i64)), ((26 : Nat), TSh.at (Sh.snap (0 : Nat) (Ty.pair (Ty.int .i64) (Ty.int .i64)))), ((27 : Nat), TSh.at (Sh.int .i64)), ((28 : Nat), TSh.at (Sh.int .i64))]
noncomputable def Z2O : LoopDef (Tup Z1x × OutD) := .plain Zbm Zqd (Int × Int × List (Int × Int) × List Int × Int × List (Int × Int) × Int × Int) (fun k x => Z2h k x.1.2.1.1 x.1.2.1.2.1 x.1.2.1.2.2.1 x.1.2.2.1 x.1.2.2.2.1 x.2.2.2.1 x.2.2.2.2.2.1 x.2.2.2.2.2.2.1 x.2.2.2.2.2.2.2.1) (fun z => (((), (z.1, z.2.1, z.2.2.1, ()), z.2.2.2.1, ()), ((), (), z.2.2.2.2.1, z.2.2.2.2.2.1, z.2.2.2.2.2.2.1, z.2.2.2.2.2.2.2, ()))) (fun y => (y.1.2.1.1, y.1.2.1.2.1, y.1.2.1.2.2.1, y.1.2.2.1, y.2.2.2.1, y.2.2.2.2.1, y.2.2.2.2.2.1, y.2.2.2.2.2.2.1)) (fun _ => rfl)
noncomputable def Z1g : Nat → Int → Int → List (Int × Int) → List Int → Int → List (Int × Int) → Int → Int → Option (List Int)
 | 0, _, _, _, _, _, _, _, _ => none
 | k + 1, b1_0, b1_1, b1_2, o2, v5, v26, v27, v28 =>
  if decide (v28 < v27) = true then if (0 : Int) ≤ v28 then if v28 < (↑(List.length v26) : Int) then Option.bind (ZaY k (Prod.fst (List.getD v26 (Int.toNat v28) ((0 : Int), (0 : Int))), Prod.snd (List.getD v26 (Int.toNat v28) ((0 : Int), (0 : Int))))) fun z1 => if (!z1) = true then Z1g k b1_0 b1_1 b1_2 o2 v5 v26 v27 (wrap64 (v28 + (1 : Int))) else if (0 : Int) ≤ v28 then if v28 < (↑(List.length o2) : Int) then if decide (List.getD o2 (Int.toNat v28) (0 : Int) ≥ (0 : Int)) = true then Z1g k b1_0 b1_1 b1_2 o2 v5 v26 v27 (wrap64 (v28 + (1 : Int))) else if (0 : Int) ≤ v28 then if v28 < (↑(List.length o2) : Int) then Option.bind (Z2h k b1_0 b1_1 b1_2 (List.set o2 (Int.toNat v28) v5) [v28] v5 v26 v27 v28) fun z5 => Z1g k z5.1 z5.2.1 z5.2.2.1 z5.2.2.2.1 (wrap64 (Prod.fst z5.2.2.2.2 + (1 : Int))) z5.2.2.2.2.2.1 z5.2.2.2.2.2.2.1 (wrap64 (Prod.snd z5.2.2.2.2.2.2 + (1 : Int))) else none else none else none else none else none else none else some o2
noncomputable def Zbg : Spec := Spec.mk [OSh.ro, OSh.box (53 : Nat) [Sh.int .i64, Sh.int .i64, Sh.snap (0 : Nat) (Ty.pair (Ty.int .i64) (Ty.int .i64))], OSh.row true (3 : Nat) (Ty.int .i64)] [((1 : Nat), TSh.at (Sh.ptr (1 : Nat) (0 : Nat))), ((3 : Nat), TSh.at (Sh.sl (2 : Nat))), ((5 : Nat), TSh.at (Sh.int .i64)), ((26 : Nat), TSh.at (Sh.snap (0 : Nat) (Ty.pair (Ty.int .i64) (Ty.int .i64)))), ((27 : Nat), TSh.at (Sh.int .i64)), ((28 : Nat), TSh.at (Sh.int .i64))]
noncomputable def ZpG : Spec := Spec.mk [OSh.ro, OSh.row true (3 : Nat) (Ty.int .i64)] [((3 : Nat), TSh.at (Sh.sl (1 : Nat)))]
noncomputable def Z2N : LoopDef (Tup Z1x × OutD) := .plain Zbg ZpG (List Int) (fun k x => Z1g k x.1.2.1.1 x.1.2.1.2.1 x.1.2.1.2.2.1 x.1.2.2.1 x.2.2.2.1 x.2.2.2.2.1 x.2.2.2.2.2.1 x.2.2.2.2.2.2.1) (fun z => (((), z, ()), ((), ()))) (fun y => (y.1.2.1)) (fun _ => rfl)
noncomputable def Zaq : Nat → Int × Int × List (Int × Int) → Option (List Int)
 | 0, _ => none
 | k + 1, p0 =>
  if Int.toNat (↑(List.length p0.2.2) : Int) * (8 : Nat) ≤ (281474976710656 : Nat) then Option.bind (Z3n k p0.1 p0.2.1 p0.2.2 (List.replicate (Int.toNat (↑(List.length p0.2.2) : Int)) (0 : Int)) (↑(List.length (List.replicate (Int.toNat (↑(List.length p0.2.2) : Int)) (0 : Int))) : Int) (0 : Int)) fun z0 => Option.bind (Z1g k z0.1 z0.2.1 z0.2.2.1 z0.2.2.2 (0 : Int) z0.2.2.1 (↑(List.length z0.2.2.1) : Int) (0 : Int)) fun z6 => some z6 else none
noncomputable def Z29 : FnDef := .of ZiH Z1x (List Int) (fun k x => Zaq k x.1) Zhz Zhh Zox
noncomputable def Z3g : Code := Try.f128.body.getD .skip
noncomputable def Zn : Ctx (Tup Z1x × OutD) := { T := T, G := [(190, Z4F.E), (191, Z4E.E)], mvs := [56], no := 0, n := 91, res := resOf T ZiH Z1x Try.f128.results.toList, loops := [(0, Z2Q.E), (6, Z2M.E), (4, Z2O.E), (2, Z2N.E)], regs := [], conds := [] }
theorem Z6U (k : Nat) : EnvOK Try.prog k Zn.G := (EnvOK.cons (ZDt k) (EnvOK.cons (ZCz k) (EnvOK.nil mixed)))
noncomputable def Z7y : Code := (findLoop 0 Z3g).getD .skip
theorem Zql (k : Nat) (x : Zbh.D) : Z2Q.lp (k + 1) x = loopK Zn Z2Q 0 Z7y k x := by kernel_rfl
theorem Zqf (k : Nat) : LOK Try.prog Zn k Z7y := LOK.by [] (by kernel_rfl) AllOK.nil
theorem ZpK (x : Zbh.D) : Z2Q.lp 0 x = none := by kernel_rfl
theorem ZoO (k : Nat) : EOK Try.prog Zn k Z2Q.E (.block 0 (.loop Z7y)) := Z7 T_ok Z6U ZpK Zql Zqf k
noncomputable def Z7F : Code := (findLoop 6 Z3g).getD .skip
theorem ZpY (k : Nat) (x : Zbn.D) : Z2M.lp (k + 1) x = loopK Zn Z2M 6 Z7F k x := by kernel_rfl
theorem ZpW (k : Nat) : LOK Try.prog Zn k Z7F := LOK.by [] (by kernel_rfl) AllOK.nil
theorem ZpH (x : Zbn.D) : Z2M.lp 0 x = none := by kernel_rfl
theorem Zot (k : Nat) : EOK Try.prog Zn k Z2M.E (.block 6 (.loop Z7F)) := Z7 T_ok Z6U ZpH ZpY ZpW k
noncomputable def Z7w : Code := (findLoop 4 Z3g).getD .skip
theorem ZpI (k : Nat) (x : Zbm.D) : Z2O.lp (k + 1) x = loopK Zn Z2O 4 Z7w k x := by kernel_rfl
theorem ZpO (k : Nat) : LOK Try.prog Zn k Z7w := LOK.by [(Z2M.E, .block 6 (.loop Z7F))] (by kernel_rfl) (AllOK.cons (Zot k) AllOK.nil)
theorem Zq1 (x : Zbm.D) : Z2O.lp 0 x = none := by kernel_rfl
theorem ZoN (k : Nat) : EOK Try.prog Zn k Z2O.E (.block 4 (.loop Z7w)) := Z7 T_ok Z6U Zq1 ZpI ZpO k
noncomputable def Z7A : Code := (findLoop 2 Z3g).getD .skip
theorem Zqp (k : Nat) (x : Zbg.D) : Z2N.lp (k + 1) x = loopK Zn Z2N 2 Z7A k x := by kernel_rfl
theorem ZpL (k : Nat) : LOK Try.prog Zn k Z7A := LOK.by [(Z2O.E, .block 4 (.loop Z7w))] (by kernel_rfl) (AllOK.cons (ZoN k) AllOK.nil)
theorem Zqg (x : Zbg.D) : Z2N.lp 0 x = none := by kernel_rfl
theorem ZoI (k : Nat) : EOK Try.prog Zn k Z2N.E (.block 2 (.loop Z7A)) := Z7 T_ok Z6U Zqg Zqp ZpL k
theorem Zwp (k : Nat) (x : Tup Z29.ps) : Z29.f (k + 1) x = fnK Z29 Zn Z3g k x := by kernel_rfl
theorem Zw4 (x : Tup Z29.ps) : Z29.f 0 x = none := by kernel_rfl
theorem Zw5 (k : Nat) : LOK Try.prog Zn k Z3g := LOK.by [(Z2Q.E, .block 0 (.loop Z7y)), (Z2N.E, .block 2 (.loop Z7A))] (by kernel_rfl) (AllOK.cons (ZoO k) (AllOK.cons (ZoI k) AllOK.nil))
theorem Zv6 (k : Nat) : SoundAt Try.prog k 128 Z29.E := @Z4 Try.prog Z29 Zn 128 Try.f128 Z3g (by kernel_rfl) (by kernel_rfl) (by kernel_rfl) Try.func128 (by kernel_rfl) (by kernel_rfl) (by kernel_rfl) T_ok Z6U Zw5 Zw4 Zwp k
noncomputable def Z4i : List PK := [PK.mk (Ty.slice (3 : Nat) (Ty.int .i64)) false none false none]
noncomputable def Zlo : List PK := [PK.mk (Ty.slice (34 : Nat) (Ty.slice (3 : Nat) (Ty.int .i64))) false none false none, PK.mk (Ty.slice (3 : Nat) (Ty.int .i64)) false none false none]
noncomputable def ZjL (r : List Int) : Tup Z4i × OutD := ((r, ()), none)
noncomputable def Zkn : Tup Z4i × OutD → Option (List Int)
 | (a, none) => some (a.1)
 | _ => none
theorem Zsk : ∀ b r, Zkn b = some r → ZjL r = b := by
 rintro ⟨a, o⟩ r h
 cases o with
 | none => injection h with h; subst h; rfl
 | some _ => cases h
noncomputable def Z3b : Nat → List Int → List Int → Int → List Int → List (List Int) → Int → Int → List Int → Int → Int → Option (List Int × List Int × List (List Int) × Int × Int)
 | 0, _, _, _, _, _, _, _, _, _, _ => none
 | k + 1, o1, v1, v6, v7, v10, v11, v12, v17, v18, v19 =>
  if decide (v19 < v18) = true then if (0 : Int) ≤ v19 then if v19 < (↑(List.length v17) : Int) then if (0 : Int) ≤ List.getD v17 (Int.toNat v19) (0 : Int) then if List.getD v17 (Int.toNat v19) (0 : Int) < (↑(List.length v7) : Int) then if decide (List.getD v7 (Int.toNat (List.getD v17 (Int.toNat v19) (0 : Int))) (0 : Int) ≠ (0 : Int)) = true then Option.bind (ZhG k o1 (wrap64 (v6 - (1 : Int)))) fun z0 => Z3b k z0 v1 v6 v7 v10 v11 v12 v17 v18 (wrap64 (v19 + (1 : Int))) else Z3b k o1 v1 v6 v7 v10 v11 v12 v17 v18 (wrap64 (v19 + (1 : Int))) else none else none else none else none else some (o1, v1, v10, v11, v12)
noncomputable def ZcI : Spec := Spec.mk [OSh.ro, OSh.row true (3 : Nat) (Ty.int .i64)] [((1 : Nat), TSh.at (Sh.snap (0 : Nat) (Ty.int .i64))), ((5 : Nat), TSh.at (Sh.sl (1 : Nat))), ((6 : Nat), TSh.at (Sh.int .i64)), ((7 : Nat), TSh.at (Sh.snap (0 : Nat) (Ty.int .i64))), ((10 : Nat), TSh.at (Sh.snap (0 : Nat) (Ty.slice (3 : Nat) (Ty.int .i64)))), ((11 : Nat), TSh.at (Sh.int .i64)), ((12 : Nat), TSh.at (Sh.int .i64)), ((17 : Nat), TSh.at (Sh.snap (0 : Nat) (Ty.int .i64))), ((18 : Nat), TSh.at (Sh.int .i64)), ((19 : Nat), TSh.at (Sh.int .i64))]
noncomputable def ZtE : Spec := Spec.mk [OSh.ro, OSh.row true (3 : Nat) (Ty.int .i64)] [((1 : Nat), TSh.at (Sh.snap (0 : Nat) (Ty.int .i64))), ((5 : Nat), TSh.at (Sh.sl (1 : Nat))), ((10 : Nat), TSh.at (Sh.snap (0 : Nat) (Ty.slice (3 : Nat) (Ty.int .i64)))), ((11 : Nat), TSh.at (Sh.int .i64)), ((12 : Nat), TSh.at (Sh.int .i64))]
noncomputable def Z47 : LoopDef (Tup Z4i × OutD) := .plain ZcI ZtE (List Int × List Int × List (List Int) × Int × Int) (fun k x => Z3b k x.1.2.1 x.2.1 x.2.2.2.1 x.2.2.2.2.1 x.2.2.2.2.2.1 x.2.2.2.2.2.2.1 x.2.2.2.2.2.2.2.1 x.2.2.2.2.2.2.2.2.1 x.2.2.2.2.2.2.2.2.2.1 x.2.2.2.2.2.2.2.2.2.2.1) (fun z => (((), z.1, ()), (z.2.1, (), z.2.2.1, z.2.2.2.1, z.2.2.2.2, ()))) (fun y => (y.1.2.1, y.2.1, y.2.2.2.1, y.2.2.2.2.1, y.2.2.2.2.2.1)) (fun _ => rfl)
noncomputable def Z4J : Nat → List Int → List Int → List (List Int) → Int → Int → Option (List Int)
 | 0, _, _, _, _, _ => none
 | k + 1, o1, v1, v10, v11, v12 =>
  if decide (v12 < v11) = true then if (0 : Int) ≤ v12 then if v12 < (↑(List.length v10) : Int) then Option.bind (Z3b k o1 v1 v12 (List.getD v10 (Int.toNat v12) []) v10 v11 v12 v1 (↑(List.length v1) : Int) (0 : Int)) fun z1 => Z4J k z1.1 z1.2.1 z1.2.2.1 z1.2.2.2.1 (wrap64 (Prod.snd z1.2.2.2 + (1 : Int))) else none else none else some o1
noncomputable def ZcN : Spec := Spec.mk [OSh.ro, OSh.row true (3 : Nat) (Ty.int .i64)] [((1 : Nat), TSh.at (Sh.snap (0 : Nat) (Ty.int .i64))), ((5 : Nat), TSh.at (Sh.sl (1 : Nat))), ((10 : Nat), TSh.at (Sh.snap (0 : Nat) (Ty.slice (3 : Nat) (Ty.int .i64)))), ((11 : Nat), TSh.at (Sh.int .i64)), ((12 : Nat), TSh.at (Sh.int .i64))]
noncomputable def Zu3 : Spec := Spec.mk [OSh.ro, OSh.row true (3 : Nat) (Ty.int .i64)] [((5 : Nat), TSh.at (Sh.sl (1 : Nat)))]
noncomputable def Z3Q : LoopDef (Tup Z4i × OutD) := .plain ZcN Zu3 (List Int) (fun k x => Z4J k x.1.2.1 x.2.1 x.2.2.2.1 x.2.2.2.2.1 x.2.2.2.2.2.1) (fun z => (((), z, ()), ((), ()))) (fun y => (y.1.2.1)) (fun _ => rfl)
noncomputable def ZbO : Nat → List (List Int) → List Int → Option (List Int)
 | 0, _, _ => none
 | k + 1, p0, p1 =>
  Option.bind (Z4J k [] p1 p0 (↑(List.length p0) : Int) (0 : Int)) fun z2 => some z2
noncomputable def Z35 : FnDef := .of Zlo Z4i (List Int) (fun k x => ZbO k x.1 x.2.1) ZjL Zkn Zsk
noncomputable def Z8Y : Code := Try.f161.body.getD .skip
noncomputable def Z1H : Ctx (Tup Z4i × OutD) := { T := T, G := [(199, Z7M.E)], mvs := [], no := 0, n := 35, res := resOf T Zlo Z4i Try.f161.results.toList, loops := [(2, Z47.E), (0, Z3Q.E)], regs := [], conds := [] }
theorem Zfz (k : Nat) : EnvOK Try.prog k Z1H.G := (EnvOK.cons (ZGZ k) (EnvOK.nil mixed))
noncomputable def Z9i : Code := (findLoop 2 Z8Y).getD .skip
theorem ZtO (k : Nat) (x : ZcI.D) : Z47.lp (k + 1) x = loopK Z1H Z47 2 Z9i k x := by kernel_rfl
theorem Zsx (k : Nat) : LOK Try.prog Z1H k Z9i := LOK.by [] (by kernel_rfl) AllOK.nil
theorem ZtC (x : ZcI.D) : Z47.lp 0 x = none := by kernel_rfl
theorem Zqz (k : Nat) : EOK Try.prog Z1H k Z47.E (.block 2 (.loop Z9i)) := Z7 T_ok Zfz ZtC ZtO Zsx k
noncomputable def Z99 : Code := (findLoop 0 Z8Y).getD .skip
theorem ZtY (k : Nat) (x : ZcN.D) : Z3Q.lp (k + 1) x = loopK Z1H Z3Q 0 Z99 k x := by kernel_rfl
theorem Zu4 (k : Nat) : LOK Try.prog Z1H k Z99 := LOK.by [(Z47.E, .block 2 (.loop Z9i))] (by kernel_rfl) (AllOK.cons (Zqz k) AllOK.nil)
theorem Zt1 (x : ZcN.D) : Z3Q.lp 0 x = none := by kernel_rfl
theorem Zrv (k : Nat) : EOK Try.prog Z1H k Z3Q.E (.block 0 (.loop Z99)) := Z7 T_ok Zfz Zt1 ZtY Zu4 k
theorem Zzq (k : Nat) (x : Tup Z35.ps) : Z35.f (k + 1) x = fnK Z35 Z1H Z8Y k x := by kernel_rfl
theorem ZyK (x : Tup Z35.ps) : Z35.f 0 x = none := by kernel_rfl
theorem ZzB (k : Nat) : LOK Try.prog Z1H k Z8Y := LOK.by [(Z3Q.E, .block 0 (.loop Z99))] (by kernel_rfl) (AllOK.cons (Zrv k) AllOK.nil)
theorem Zze (k : Nat) : SoundAt Try.prog k 161 Z35.E := @Z4 Try.prog Z35 Z1H 161 Try.f161 Z8Y (by kernel_rfl) (by kernel_rfl) (by kernel_rfl) Try.func161 (by kernel_rfl) (by kernel_rfl) (by kernel_rfl) T_ok Zfz ZzB ZyK Zzq k
noncomputable def Zdf : List PK := [PK.mk Ty.bool false none false none]
noncomputable def Zub : List PK := [PK.mk (Ty.pair (Ty.int .i64) (Ty.int .i64)) true none false none, PK.mk (Ty.int .i64) false none false none]
noncomputable def ZrY (r : Bool) : Tup Zdf × OutD := ((r, ()), none)
noncomputable def Zr6 : Tup Zdf × OutD → Option (Bool)
 | (a, none) => some (a.1)
 | _ => none
theorem ZzD : ∀ b r, Zr6 b = some r → ZrY r = b := by
 rintro ⟨a, o⟩ r h
 cases o with
 | none => injection h with h; subst h; rfl
 | some _ => cases h
noncomputable def Zdr : Nat → Int × Int → Int → Option Bool
 | 0, _, _ => none
 | k + 1, p0, p1 =>
  if decide (p1 = (1 : Int)) = true then Option.bind (Z3C k (Prod.fst p0, Prod.snd p0)) fun z0 => some z0 else if decide (p1 = (2 : Int)) = true then some true else if decide (p1 = (3 : Int)) = true then Option.bind (Z3C k (Prod.fst p0, Prod.snd p0)) fun z1 => if z1 = true then some true else if decide (Prod.fst p0 = (1 : Int)) = true then some true else some (decide (Prod.fst p0 = (2 : Int))) else some false
noncomputable def Z55 : FnDef := .of Zub Zdf (Bool) (fun k x => Zdr k x.1 x.2.1) ZrY Zr6 ZzD
noncomputable def Zl9 : Code := Try.f182.body.getD .skip
noncomputable def Zga : Ctx (Tup Zdf × OutD) := { T := T, G := [(207, Z1s.E)], mvs := [], no := 0, n := 26, res := resOf T Zub Zdf Try.f182.results.toList, loops := [], regs := [], conds := [] }
theorem ZFG (k : Nat) : EnvOK Try.prog k Zga.G := (EnvOK.cons (Zcy k) (EnvOK.nil mixed))
theorem ZGB (k : Nat) (x : Tup Z55.ps) : Z55.f (k + 1) x = fnK Z55 Zga Zl9 k x := by kernel_rfl
theorem ZFP (x : Tup Z55.ps) : Z55.f 0 x = none := by kernel_rfl
theorem ZFX (k : Nat) : LOK Try.prog Zga k Zl9 := LOK.by [] (by kernel_rfl) AllOK.nil
theorem ZuL (k : Nat) : SoundAt Try.prog k 182 Z55.E := @Z4 Try.prog Z55 Zga 182 Try.f182 Zl9 (by kernel_rfl) (by kernel_rfl) (by kernel_rfl) Try.func182 (by kernel_rfl) (by kernel_rfl) (by kernel_rfl) T_ok ZFG ZFX ZFP ZGB k
noncomputable def Z3i : List PK := [PK.mk (Ty.slice (3 : Nat) (Ty.int .i64)) false none false none]
noncomputable def Zpe : List PK := [PK.mk (Ty.pair (Ty.int .i64) (Ty.pair (Ty.int .i64) (Ty.slice (79 : Nat) (Ty.pair (Ty.int .i64) (Ty.int .i64))))) true none false none]
noncomputable def Znj (r : List Int) : Tup Z3i × OutD := ((r, ()), none)
noncomputable def Zn6 : Tup Z3i × OutD → Option (List Int)
 | (a, none) => some (a.1)
 | _ => none
theorem Zvn : ∀ b r, Zn6 b = some r → Znj r = b := by
 rintro ⟨a, o⟩ r h
 cases o with
 | none => injection h with h; subst h; rfl
 | some _ => cases h
noncomputable def Z6w : Nat → Int → Int → List (Int × Int) → List Int → Int → Int → Option (Int × Int × List (Int × Int) × List Int)
 | 0, _, _, _, _, _, _ => none
 | k + 1, b1_0, b1_1, b1_2, o2, v17, v18 =>
  if decide (v18 < v17) = true then if (0 : Int) ≤ v18 then if v18 < (↑(List.length o2) : Int) then Z6w k b1_0 b1_1 b1_2 (List.set o2 (Int.toNat v18) (-1 : Int)) v17 (wrap64 (v18 + (1 : Int))) else none else none else some (b1_0, b1_1, b1_2, o2)
noncomputable def ZeN : Spec := Spec.mk [OSh.ro, OSh.box (53 : Nat) [Sh.int .i64, Sh.int .i64, Sh.snap (0 : Nat) (Ty.pair (Ty.int .i64) (Ty.int .i64))], OSh.row true (3 : Nat) (Ty.int .i64)] [((1 : Nat), TSh.at (Sh.ptr (1 : Nat) (0 : Nat))), ((3 : Nat), TSh.at (Sh.sl (2 : Nat))), ((17 : Nat), TSh.at (Sh.int .i64)), ((18 : Nat), TSh.at (Sh.int .i64))]
noncomputable def Zxk : Spec := Spec.mk [OSh.ro, OSh.box (53 : Nat) [Sh.int .i64, Sh.int .i64, Sh.snap (0 : Nat) (Ty.pair (Ty.int .i64) (Ty.int .i64))], OSh.row true (3 : Nat) (Ty.int .i64)] [((1 : Nat), TSh.at (Sh.ptr (1 : Nat) (0 : Nat))), ((3 : Nat), TSh.at (Sh.sl (2 : Nat)))]
noncomputable def Z5J : LoopDef (Tup Z3i × OutD) := .plain ZeN Zxk (Int × Int × List (Int × Int) × List Int) (fun k x => Z6w k x.1.2.1.1 x.1.2.1.2.1 x.1.2.1.2.2.1 x.1.2.2.1 x.2.2.2.1 x.2.2.2.2.1) (fun z => (((), (z.1, z.2.1, z.2.2.1, ()), z.2.2.2, ()), ((), (), ()))) (fun y => (y.1.2.1.1, y.1.2.1.2.1, y.1.2.1.2.2.1, y.1.2.2.1)) (fun _ => rfl)
noncomputable def Z2Y : Nat → Int → Int → List (Int × Int) → List Int → List Int → List Int → Int → Int → List (Int × Int) → Int → Int → Int → Int → Option (Int × Int × List (Int × Int) × List Int × List Int × Int × Int × List (Int × Int) × Int × Int)
 | 0, _, _, _, _, _, _, _, _, _, _, _, _, _ => none
 | k + 1, b1_0, b1_1, b1_2, o2, o3, o4, v5, v9, v26, v27, v28, v61, v62 =>
  if decide (v62 < v61) = true then if (0 : Int) ≤ v62 then if v62 < (↑(List.length o4) : Int) then if (0 : Int) ≤ List.getD o4 (Int.toNat v62) (0 : Int) then if List.getD o4 (Int.toNat v62) (0 : Int) < (↑(List.length b1_2) : Int) then Option.bind (Zdn k (Prod.fst (List.getD b1_2 (Int.toNat (List.getD o4 (Int.toNat v62) (0 : Int))) ((0 : Int), (0 : Int))), Prod.snd (List.getD b1_2 (Int.toNat (List.getD o4 (Int.toNat v62) (0 : Int))) ((0 : Int), (0 : Int))))) fun z3 => if z3 = true then if (0 : Int) ≤ List.getD o4 (Int.toNat v62) (0 : Int) then if List.getD o4 (Int.toNat v62) (0 : Int) < (↑(List.length o2) : Int) then if decide (List.getD o2 (Int.toNat (List.getD o4 (Int.toNat v62) (0 : Int))) (0 : Int) < (0 : Int)) = true then if (0 : Int) ≤ List.getD o4 (Int.toNat v62) (0 : Int) then if List.getD o4 (Int.toNat v62) (0 : Int) < (↑(List.length o2) : Int) then if List.length o3 + List.length [List.getD o4 (Int.toNat v62) (0 : Int)] ≤ (140737488355328 / 8 : Nat) then Z2Y k b1_0 b1_1 b1_2 (List.set o2 (Int.toNat (List.getD o4 (Int.toNat v62) (0 : Int))) v5) (o3 ++ [List.getD o4 (Int.toNat v62) (0 : Int)]) o4 v5 v9 v26 v27 v28 v61 (wrap64 (v62 + (1 : Int))) else none else none else none else Z2Y k b1_0 b1_1 b1_2 o2 o3 o4 v5 v9 v26 v27 v28 v61 (wrap64 (v62 + (1 : Int))) else none else none else Z2Y k b1_0 b1_1 b1_2 o2 o3 o4 v5 v9 v26 v27 v28 v61 (wrap64 (v62 + (1 : Int))) else none else none else none else none else some (b1_0, b1_1, b1_2, o2, o3, v5, v9, v26, v27, v28)
noncomputable def ZeE : Spec := Spec.mk [OSh.ro, OSh.box (53 : Nat) [Sh.int .i64, Sh.int .i64, Sh.snap (0 : Nat) (Ty.pair (Ty.int .i64) (Ty.int .i64))], OSh.row true (3 : Nat) (Ty.int .i64), OSh.row true (3 : Nat) (Ty.int .i64), OSh.row true (3 : Nat) (Ty.int .i64)] [((1 : Nat), TSh.at (Sh.ptr (1 : Nat) (0 : Nat))), ((3 : Nat), TSh.at (Sh.sl (2 : Nat))), ((5 : Nat), TSh.at (Sh.int .i64)), ((8 : Nat), TSh.at (Sh.sl (3 : Nat))), ((9 : Nat), TSh.at (Sh.int .i64)), ((26 : Nat), TSh.at (Sh.snap (0 : Nat) (Ty.pair (Ty.int .i64) (Ty.int .i64)))), ((27 : Nat), TSh.at (Sh.int .i64)), ((28 : Nat), TSh.at (Sh.int .i64)), ((60 : Nat), TSh.at (Sh.sl (4 : Nat))), ((61 : Nat), TSh.at (Sh.int .i64)), ((62 : Nat), TSh.at (Sh.int .i64))]
noncomputable def Zx0 : Spec := Spec.mk [OSh.ro, OSh.box (53 : Nat) [Sh.int .i64, Sh.int .i64, Sh.snap (0 : Nat) (Ty.pair (Ty.int .i64) (Ty.int .i64))], OSh.row true (3 : Nat) (Ty.int .i64), OSh.row true (3 : Nat) (Ty.int .i64)] [((1 : Nat), TSh.at (Sh.ptr (1 : Nat) (0 : Nat))), ((3 : Nat), TSh.at (Sh.sl (2 : Nat))), ((5 : Nat), TSh.at (Sh.int .i64)), ((8 : Nat), TSh.at (Sh.sl (3 : Nat))), ((9 : Nat), TSh.at (Sh.int .i64)), ((26 : Nat), TSh.at (Sh.snap (0 : Nat) (Ty.pair (Ty.int .i64) (Ty.int .i64)))), ((27 : Nat), TSh.at (Sh.int .i64)), ((28 : Nat), TSh.at (Sh.int .i64))]
noncomputable def Z5G : LoopDef (Tup Z3i × OutD) := .plain ZeE Zx0 (Int × Int × List (Int × Int) × List Int × List Int × Int × Int × List (Int × Int) × Int × Int) (fun k x => Z2Y k x.1.2.1.1 x.1.2.1.2.1 x.1.2.1.2.2.1 x.1.2.2.1 x.1.2.2.2.1 x.1.2.2.2.2.1 x.2.2.2.1 x.2.2.2.2.2.1 x.2.2.2.2.2.2.1 x.2.2.2.2.2.2.2.1 x.2.2.2.2.2.2.2.2.1 x.2.2.2.2.2.2.2.2.2.2.1 x.2.2.2.2.2.2.2.2.2.2.2.1) (fun z => (((), (z.1, z.2.1, z.2.2.1, ()), z.2.2.2.1, z.2.2.2.2.1, ()), ((), (), z.2.2.2.2.2.1, (), z.2.2.2.2.2.2.1, z.2.2.2.2.2.2.2.1, z.2.2.2.2.2.2.2.2.1, z.2.2.2.2.2.2.2.2.2, ()))) (fun y => (y.1.2.1.1, y.1.2.1.2.1, y.1.2.1.2.2.1, y.1.2.2.1, y.1.2.2.2.1, y.2.2.2.1, y.2.2.2.2.2.1, y.2.2.2.2.2.2.1, y.2.2.2.2.2.2.2.1, y.2.2.2.2.2.2.2.2.1)) (fun _ => rfl)
noncomputable def Z4f : Nat → Int → Int → List (Int × Int) → List Int → List Int → Int → Int → List (Int × Int) → Int → Int → Option (Int × Int × List (Int × Int) × List Int × Int × List (Int × Int) × Int × Int)
 | 0, _, _, _, _, _, _, _, _, _, _ => none
 | k + 1, b1_0, b1_1, b1_2, o2, o3, v5, v9, v26, v27, v28 =>
  if decide (v9 < (↑(List.length o3) : Int)) = true then if (0 : Int) ≤ v9 then if v9 < (↑(List.length o3) : Int) then Option.bind (Zgb k (b1_0, b1_1, b1_2) (List.getD o3 (Int.toNat v9) (0 : Int))) fun z2 => Option.bind (Z2Y k b1_0 b1_1 b1_2 o2 o3 z2 v5 v9 v26 v27 v28 (↑(List.length z2) : Int) (0 : Int)) fun z4 => Z4f k z4.1 z4.2.1 z4.2.2.1 z4.2.2.2.1 z4.2.2.2.2.1 z4.2.2.2.2.2.1 (wrap64 (Prod.fst z4.2.2.2.2.2.2 + (1 : Int))) z4.2.2.2.2.2.2.2.1 z4.2.2.2.2.2.2.2.2.1 z4.2.2.2.2.2.2.2.2.2 else none else none else some (b1_0, b1_1, b1_2, o2, v5, v26, v27, v28)
noncomputable def Zej : Spec := Spec.mk [OSh.ro, OSh.box (53 : Nat) [Sh.int .i64, Sh.int .i64, Sh.snap (0 : Nat) (Ty.pair (Ty.int .i64) (Ty.int .i64))], OSh.row true (3 : Nat) (Ty.int .i64), OSh.row true (3 : Nat) (Ty.int .i64)] [((1 : Nat), TSh.at (Sh.ptr (1 : Nat) (0 : Nat))), ((3 : Nat), TSh.at (Sh.sl (2 : Nat))), ((5 : Nat), TSh.at (Sh.int .i64)), ((8 : Nat), TSh.at (Sh.sl (3 : Nat))), ((9 : Nat), TSh.at (Sh.int .i64)), ((26 : Nat), TSh.at (Sh.snap (0 : Nat) (Ty.pair (Ty.int .i64) (Ty.int .i64)))), ((27 : Nat), TSh.at (Sh.int .i64)), ((28 : Nat), TSh.at (Sh.int .i64))]
noncomputable def ZxH : Spec := Spec.mk [OSh.ro, OSh.box (53 : Nat) [Sh.int .i64, Sh.int .i64, Sh.snap (0 : Nat) (Ty.pair (Ty.int .i64) (Ty.int .i64))], OSh.row true (3 : Nat) (Ty.int .i64)] [((1 : Nat), TSh.at (Sh.ptr (1 : Nat) (0 : Nat))), ((3 : Nat), TSh.at (Sh.sl (2 : Nat))), ((5 : Nat), TSh.at (Sh.int .i64)), ((26 : Nat), TSh.at (Sh.snap (0 : Nat) (Ty.pair (Ty.int .i64) (Ty.int .i64)))), ((27 : Nat), TSh.at (Sh.int .i64)), ((28 : Nat), TSh.at (Sh.int .i64))]
noncomputable def Z5A : LoopDef (Tup Z3i × OutD) := .plain Zej ZxH (Int × Int × List (Int × Int) × List Int × Int × List (Int × Int) × Int × Int) (fun k x => Z4f k x.1.2.1.1 x.1.2.1.2.1 x.1.2.1.2.2.1 x.1.2.2.1 x.1.2.2.2.1 x.2.2.2.1 x.2.2.2.2.2.1 x.2.2.2.2.2.2.1 x.2.2.2.2.2.2.2.1 x.2.2.2.2.2.2.2.2.1) (fun z => (((), (z.1, z.2.1, z.2.2.1, ()), z.2.2.2.1, ()), ((), (), z.2.2.2.2.1, z.2.2.2.2.2.1, z.2.2.2.2.2.2.1, z.2.2.2.2.2.2.2, ()))) (fun y => (y.1.2.1.1, y.1.2.1.2.1, y.1.2.1.2.2.1, y.1.2.2.1, y.2.2.2.1, y.2.2.2.2.1, y.2.2.2.2.2.1, y.2.2.2.2.2.2.1)) (fun _ => rfl)
noncomputable def Z2b : Nat → Int → Int → List (Int × Int) → List Int → Int → List (Int × Int) → Int → Int → Option (List Int)
 | 0, _, _, _, _, _, _, _, _ => none
 | k + 1, b1_0, b1_1, b1_2, o2, v5, v26, v27, v28 =>
  if decide (v28 < v27) = true then if (0 : Int) ≤ v28 then if v28 < (↑(List.length v26) : Int) then Option.bind (Zdn k (Prod.fst (List.getD v26 (Int.toNat v28) ((0 : Int), (0 : Int))), Prod.snd (List.getD v26 (Int.toNat v28) ((0 : Int), (0 : Int))))) fun z1 => if (!z1) = true then Z2b k b1_0 b1_1 b1_2 o2 v5 v26 v27 (wrap64 (v28 + (1 : Int))) else if (0 : Int) ≤ v28 then if v28 < (↑(List.length o2) : Int) then if decide (List.getD o2 (Int.toNat v28) (0 : Int) ≥ (0 : Int)) = true then Z2b k b1_0 b1_1 b1_2 o2 v5 v26 v27 (wrap64 (v28 + (1 : Int))) else if (0 : Int) ≤ v28 then if v28 < (↑(List.length o2) : Int) then Option.bind (Z4f k b1_0 b1_1 b1_2 (List.set o2 (Int.toNat v28) v5) [v28] v5 (0 : Int) v26 v27 v28) fun z5 => Z2b k z5.1 z5.2.1 z5.2.2.1 z5.2.2.2.1 (wrap64 (Prod.fst z5.2.2.2.2 + (1 : Int))) z5.2.2.2.2.2.1 z5.2.2.2.2.2.2.1 (wrap64 (Prod.snd z5.2.2.2.2.2.2 + (1 : Int))) else none else none else none else none else none else none else some o2
noncomputable def Zek : Spec := Spec.mk [OSh.ro, OSh.box (53 : Nat) [Sh.int .i64, Sh.int .i64, Sh.snap (0 : Nat) (Ty.pair (Ty.int .i64) (Ty.int .i64))], OSh.row true (3 : Nat) (Ty.int .i64)] [((1 : Nat), TSh.at (Sh.ptr (1 : Nat) (0 : Nat))), ((3 : Nat), TSh.at (Sh.sl (2 : Nat))), ((5 : Nat), TSh.at (Sh.int .i64)), ((26 : Nat), TSh.at (Sh.snap (0 : Nat) (Ty.pair (Ty.int .i64) (Ty.int .i64)))), ((27 : Nat), TSh.at (Sh.int .i64)), ((28 : Nat), TSh.at (Sh.int .i64))]
noncomputable def ZwO : Spec := Spec.mk [OSh.ro, OSh.row true (3 : Nat) (Ty.int .i64)] [((3 : Nat), TSh.at (Sh.sl (1 : Nat)))]
noncomputable def Z5y : LoopDef (Tup Z3i × OutD) := .plain Zek ZwO (List Int) (fun k x => Z2b k x.1.2.1.1 x.1.2.1.2.1 x.1.2.1.2.2.1 x.1.2.2.1 x.2.2.2.1 x.2.2.2.2.1 x.2.2.2.2.2.1 x.2.2.2.2.2.2.1) (fun z => (((), z, ()), ((), ()))) (fun y => (y.1.2.1)) (fun _ => rfl)
noncomputable def Z67 : Nat → Int × Int × List (Int × Int) → Option (List Int)
 | 0, _ => none
 | k + 1, p0 =>
  if Int.toNat (↑(List.length p0.2.2) : Int) * (8 : Nat) ≤ (281474976710656 : Nat) then Option.bind (Z6w k p0.1 p0.2.1 p0.2.2 (List.replicate (Int.toNat (↑(List.length p0.2.2) : Int)) (0 : Int)) (↑(List.length (List.replicate (Int.toNat (↑(List.length p0.2.2) : Int)) (0 : Int))) : Int) (0 : Int)) fun z0 => Option.bind (Z2b k z0.1 z0.2.1 z0.2.2.1 z0.2.2.2 (0 : Int) z0.2.2.1 (↑(List.length z0.2.2.1) : Int) (0 : Int)) fun z6 => some z6 else none
noncomputable def Z4s : FnDef := .of Zpe Z3i (List Int) (fun k x => Z67 k x.1) Znj Zn6 Zvn
noncomputable def Z6c : Code := Try.f185.body.getD .skip
noncomputable def ZP : Ctx (Tup Z3i × OutD) := { T := T, G := [(208, Z6J.E), (209, Z6E.E)], mvs := [], no := 0, n := 92, res := resOf T Zpe Z3i Try.f185.results.toList, loops := [(0, Z5J.E), (6, Z5G.E), (4, Z5A.E), (2, Z5y.E)], regs := [], conds := [] }
theorem Zbb (k : Nat) : EnvOK Try.prog k ZP.G := (EnvOK.cons (ZFy k) (EnvOK.cons (ZFJ k) (EnvOK.nil mixed)))
noncomputable def Zb7 : Code := (findLoop 0 Z6c).getD .skip
theorem Zyn (k : Nat) (x : ZeN.D) : Z5J.lp (k + 1) x = loopK ZP Z5J 0 Zb7 k x := by kernel_rfl
theorem ZwN (k : Nat) : LOK Try.prog ZP k Zb7 := LOK.by [] (by kernel_rfl) AllOK.nil
theorem Zyo (x : ZeN.D) : Z5J.lp 0 x = none := by kernel_rfl
theorem Zv9 (k : Nat) : EOK Try.prog ZP k Z5J.E (.block 0 (.loop Zb7)) := Z7 T_ok Zbb Zyo Zyn ZwN k
noncomputable def Zbe : Code := (findLoop 6 Z6c).getD .skip
theorem ZxX (k : Nat) (x : ZeE.D) : Z5G.lp (k + 1) x = loopK ZP Z5G 6 Zbe k x := by kernel_rfl
theorem Zym (k : Nat) : LOK Try.prog ZP k Zbe := LOK.by [] (by kernel_rfl) AllOK.nil
theorem ZwY (x : ZeE.D) : Z5G.lp 0 x = none := by kernel_rfl
theorem Zw7 (k : Nat) : EOK Try.prog ZP k Z5G.E (.block 6 (.loop Zbe)) := Z7 T_ok Zbb ZwY ZxX Zym k
noncomputable def ZaU : Code := (findLoop 4 Z6c).getD .skip
theorem ZxJ (k : Nat) (x : Zej.D) : Z5A.lp (k + 1) x = loopK ZP Z5A 4 ZaU k x := by kernel_rfl
theorem ZxL (k : Nat) : LOK Try.prog ZP k ZaU := LOK.by [(Z5G.E, .block 6 (.loop Zbe))] (by kernel_rfl) (AllOK.cons (Zw7 k) AllOK.nil)
theorem Zxt (x : Zej.D) : Z5A.lp 0 x = none := by kernel_rfl
theorem Zw6 (k : Nat) : EOK Try.prog ZP k Z5A.E (.block 4 (.loop ZaU)) := Z7 T_ok Zbb Zxt ZxJ ZxL k
noncomputable def Zbc : Code := (findLoop 2 Z6c).getD .skip
theorem Zxz (k : Nat) (x : Zek.D) : Z5y.lp (k + 1) x = loopK ZP Z5y 2 Zbc k x := by kernel_rfl
theorem ZwX (k : Nat) : LOK Try.prog ZP k Zbc := LOK.by [(Z5A.E, .block 4 (.loop ZaU))] (by kernel_rfl) (AllOK.cons (Zw6 k) AllOK.nil)
theorem Zx7 (x : Zek.D) : Z5y.lp 0 x = none := by kernel_rfl
theorem Zwr (k : Nat) : EOK Try.prog ZP k Z5y.E (.block 2 (.loop Zbc)) := Z7 T_ok Zbb Zx7 Zxz ZwX k
theorem ZCV (k : Nat) (x : Tup Z4s.ps) : Z4s.f (k + 1) x = fnK Z4s ZP Z6c k x := by kernel_rfl
theorem ZCS (x : Tup Z4s.ps) : Z4s.f 0 x = none := by kernel_rfl
theorem ZDR (k : Nat) : LOK Try.prog ZP k Z6c := LOK.by [(Z5J.E, .block 0 (.loop Zb7)), (Z5y.E, .block 2 (.loop Zbc))] (by kernel_rfl) (AllOK.cons (Zv9 k) (AllOK.cons (Zwr k) AllOK.nil))
theorem ZDx (k : Nat) : SoundAt Try.prog k 185 Z4s.E := @Z4 Try.prog Z4s ZP 185 Try.f185 Z6c (by kernel_rfl) (by kernel_rfl) (by kernel_rfl) Try.func185 (by kernel_rfl) (by kernel_rfl) (by kernel_rfl) T_ok Zbb ZDR ZCS ZCV k
noncomputable def Zdm : List PK := [PK.mk (Ty.int .i64) false none false none, PK.mk Ty.bool false none false none]
noncomputable def ZuX : List PK := [PK.mk (Ty.pair (Ty.int .i64) (Ty.int .i64)) true none false none, PK.mk (Ty.int .i64) false none false none]
noncomputable def Zr0 (r : Int × Bool) : Tup Zdm × OutD := ((r.1, r.2, ()), none)
noncomputable def ZrF : Tup Zdm × OutD → Option (Int × Bool)
 | (a, none) => some (a.1, a.2.1)
 | _ => none
theorem ZzW : ∀ b r, ZrF b = some r → Zr0 r = b := by
 rintro ⟨a, o⟩ r h
 cases o with
 | none => injection h with h; subst h; rfl
 | some _ => cases h
noncomputable def Zgr : Nat → Int × Int → Int → Option (Int × Bool)
 | 0, _, _ => none
 | k + 1, p0, p1 =>
  Option.bind (ZaI k (Prod.fst p0, Prod.snd p0)) fun z0 => if (!z0) = true then some ((0 : Int), false) else if decide (p1 < (-1 : Int)) = true then some ((0 : Int), false) else if decide (p1 > (1 : Int)) = true then some ((0 : Int), false) else if decide (Prod.fst p0 = (5 : Int)) = true then some ((0 : Int), false) else if decide (Prod.fst p0 = (1 : Int)) = true then some ((-1 : Int), true) else if decide (Prod.fst p0 = (2 : Int)) = true then some ((1 : Int), true) else if decide (Prod.fst p0 = (3 : Int)) = true then some (wrap64 (wrap64 ((2 : Int) * Prod.snd p0) - (1 : Int)), true) else if decide (Prod.fst p0 = (6 : Int)) = true then some (wrap64 (wrap64 ((2 : Int) * Prod.snd p0) - (1 : Int)), true) else if decide (Prod.fst p0 = (4 : Int)) = true then some (wrap64 ((0 : Int) - p1), true) else some ((0 : Int), true)
noncomputable def Z6H : FnDef := .of ZuX Zdm (Int × Bool) (fun k x => Zgr k x.1 x.2.1) Zr0 ZrF ZzW
noncomputable def Zl8 : Code := Try.f187.body.getD .skip
noncomputable def Zgh : Ctx (Tup Zdm × OutD) := { T := T, G := [(213, Z3J.E)], mvs := [], no := 0, n := 39, res := resOf T ZuX Zdm Try.f187.results.toList, loops := [], regs := [], conds := [] }
theorem ZFE (k : Nat) : EnvOK Try.prog k Zgh.G := (EnvOK.cons (ZkX k) (EnvOK.nil mixed))
theorem ZGq (k : Nat) (x : Tup Z6H.ps) : Z6H.f (k + 1) x = fnK Z6H Zgh Zl8 k x := by kernel_rfl
theorem ZGl (x : Tup Z6H.ps) : Z6H.f 0 x = none := by kernel_rfl
theorem ZFF (k : Nat) : LOK Try.prog Zgh k Zl8 := LOK.by [] (by kernel_rfl) AllOK.nil
theorem ZFt (k : Nat) : SoundAt Try.prog k 187 Z6H.E := @Z4 Try.prog Z6H Zgh 187 Try.f187 Zl8 (by kernel_rfl) (by kernel_rfl) (by kernel_rfl) Try.func187 (by kernel_rfl) (by kernel_rfl) (by kernel_rfl) T_ok ZFE ZFF ZGl ZGq k
noncomputable def Za4 : List PK := [PK.mk Ty.bool false none false none]
noncomputable def ZnL : List PK := [PK.mk (Ty.pair (Ty.int .i64) (Ty.int .i64)) true none false none]
noncomputable def Zlq (r : Bool) : Tup Za4 × OutD := ((r, ()), none)
noncomputable def ZlY : Tup Za4 × OutD → Option (Bool)
 | (a, none) => some (a.1)
 | _ => none
theorem Zty : ∀ b r, ZlY b = some r → Zlq r = b := by
 rintro ⟨a, o⟩ r h
 cases o with
 | none => injection h with h; subst h; rfl
 | some _ => cases h
noncomputable def Z2D : Nat → Int × Int → Option Bool
 | 0, _ => none
 | k + 1, p0 =>
  Option.bind (ZaI k (Prod.fst p0, Prod.snd p0)) fun z0 => if z0 = true then if decide (Prod.fst p0 = (3 : Int)) = true then some true else some (decide (Prod.fst p0 = (6 : Int))) else some false
noncomputable def Z2H : FnDef := .of ZnL Za4 (Bool) (fun k x => Z2D k x.1) Zlq ZlY Zty
noncomputable def ZgN : Code := Try.f188.body.getD .skip
noncomputable def ZcT : Ctx (Tup Za4 × OutD) := { T := T, G := [(213, Z3J.E)], mvs := [], no := 0, n := 15, res := resOf T ZnL Za4 Try.f188.results.toList, loops := [], regs := [], conds := [] }
theorem ZBa (k : Nat) : EnvOK Try.prog k ZcT.G := (EnvOK.cons (ZkX k) (EnvOK.nil mixed))
theorem ZCm (k : Nat) (x : Tup Z2H.ps) : Z2H.f (k + 1) x = fnK Z2H ZcT ZgN k x := by kernel_rfl
theorem ZCu (x : Tup Z2H.ps) : Z2H.f 0 x = none := by kernel_rfl
theorem ZBy (k : Nat) : LOK Try.prog ZcT k ZgN := LOK.by [] (by kernel_rfl) AllOK.nil
theorem ZnO (k : Nat) : SoundAt Try.prog k 188 Z2H.E := @Z4 Try.prog Z2H ZcT 188 Try.f188 ZgN (by kernel_rfl) (by kernel_rfl) (by kernel_rfl) Try.func188 (by kernel_rfl) (by kernel_rfl) (by kernel_rfl) T_ok ZBa ZBy ZCu ZCm k
noncomputable def Z6h : List PK := [PK.mk Ty.bool false none false none]
noncomputable def Zlw : List PK := [PK.mk (Ty.slice (79 : Nat) (Ty.pair (Ty.int .i64) (Ty.int .i64))) false none false none]
noncomputable def ZeC (r : Bool) : Tup Z6h × OutD := ((r, ()), none)
noncomputable def Zeq : Tup Z6h × OutD → Option (Bool)
 | (a, none) => some (a.1)
 | _ => none
theorem Zh6 : ∀ b r, Zeq b = some r → ZeC r = b := by
 rintro ⟨a, o⟩ r h
 cases o with
 | none => injection h with h; subst h; rfl
 | some _ => cases h
noncomputable def Z4N : Nat → List (Int × Int) → Int → Int → Option (LR Unit Bool)
 | 0, _, _, _ => none
 | k + 1, v8, v9, v10 =>
  if decide (v10 < v9) = true then if (0 : Int) ≤ v10 then if v10 < (↑(List.length v8) : Int) then Option.bind (ZaI k (Prod.fst (List.getD v8 (Int.toNat v10) ((0 : Int), (0 : Int))), Prod.snd (List.getD v8 (Int.toNat v10) ((0 : Int), (0 : Int))))) fun z0 => if (!z0) = true then some (LR.ret false) else Z4N k v8 v9 (wrap64 (v10 + (1 : Int))) else none else none else some (LR.go ())
noncomputable def ZcZ : Spec := Spec.mk [OSh.ro] [((8 : Nat), TSh.at (Sh.snap (0 : Nat) (Ty.pair (Ty.int .i64) (Ty.int .i64)))), ((9 : Nat), TSh.at (Sh.int .i64)), ((10 : Nat), TSh.at (Sh.int .i64))]
noncomputable def ZtL : Spec := Spec.mk [OSh.ro] []
noncomputable def Z44 : LoopDef (Tup Z6h × OutD) := .rets ZcZ ZtL (Unit) (Bool) (fun k x => Z4N k x.2.1 x.2.2.1 x.2.2.2.1) (fun z => (((), ()), (()))) (fun y => ()) (fun _ => rfl) ZeC Zeq Zh6
noncomputable def ZbR : Nat → List (Int × Int) → Option Bool
 | 0, _ => none
 | k + 1, p0 =>
  if decide ((↑(List.length p0) : Int) > (90 : Int)) = true then some false else Option.bind (Z4N k p0 (↑(List.length p0) : Int) (0 : Int)) fun z1 => LR.on z1 (fun y1 => some true) fun r1 => some r1
noncomputable def Z33 : FnDef := .of Zlw Z6h (Bool) (fun k x => ZbR k x.1) ZeC Zeq Zh6
noncomputable def ZbL : Code := Try.f192.body.getD .skip
noncomputable def Z4g : Ctx (Tup Z6h × OutD) := { T := T, G := [(213, Z3J.E)], mvs := [], no := 0, n := 18, res := resOf T Zlw Z6h Try.f192.results.toList, loops := [(0, Z44.E)], regs := [], conds := [] }
theorem Zlz (k : Nat) : EnvOK Try.prog k Z4g.G := (EnvOK.cons (ZkX k) (EnvOK.nil mixed))
noncomputable def Z9f : Code := (findLoop 0 ZbL).getD .skip
theorem Ztv (k : Nat) (x : ZcZ.D) : Z44.lp (k + 1) x = loopK Z4g Z44 0 Z9f k x := by kernel_rfl
theorem Ztc (k : Nat) : LOK Try.prog Z4g k Z9f := LOK.by [] (by kernel_rfl) AllOK.nil
theorem Zti (x : ZcZ.D) : Z44.lp 0 x = none := by kernel_rfl
theorem Zr5 (k : Nat) : EOK Try.prog Z4g k Z44.E (.block 0 (.loop Z9f)) := Z7 T_ok Zlz Zti Ztv Ztc k
theorem Zzb (k : Nat) (x : Tup Z33.ps) : Z33.f (k + 1) x = fnK Z33 Z4g ZbL k x := by kernel_rfl
theorem ZzX (x : Tup Z33.ps) : Z33.f 0 x = none := by kernel_rfl
theorem ZAc (k : Nat) : LOK Try.prog Z4g k ZbL := LOK.by [(Z44.E, .block 0 (.loop Z9f))] (by kernel_rfl) (AllOK.cons (Zr5 k) AllOK.nil)
theorem ZzA (k : Nat) : SoundAt Try.prog k 192 Z33.E := @Z4 Try.prog Z33 Z4g 192 Try.f192 ZbL (by kernel_rfl) (by kernel_rfl) (by kernel_rfl) Try.func192 (by kernel_rfl) (by kernel_rfl) (by kernel_rfl) T_ok Zlz ZAc ZzX Zzb k
noncomputable def Zdv : List PK := [PK.mk Ty.bool false none false none]
noncomputable def Zun : List PK := [PK.mk (Ty.pair (Ty.int .i64) (Ty.int .i64)) true none false none]
noncomputable def Zso (r : Bool) : Tup Zdv × OutD := ((r, ()), none)
noncomputable def ZrM : Tup Zdv × OutD → Option (Bool)
 | (a, none) => some (a.1)
 | _ => none
theorem ZA7 : ∀ b r, ZrM b = some r → Zso r = b := by
 rintro ⟨a, o⟩ r h
 cases o with
 | none => injection h with h; subst h; rfl
 | some _ => cases h
noncomputable def Zgm : Nat → Int × Int → Option Bool
 | 0, _ => none
 | k + 1, p0 =>
  Option.bind (Z5Q k p0.1 (0 : Int) (7 : Int)) fun z0 => if z0 = true then if decide (Prod.snd p0 = (0 : Int)) = true then some true else if decide (Prod.snd p0 = (1 : Int)) = true then Option.bind (Z3C k (Prod.fst p0, Prod.snd p0)) fun z1 => some z1 else some false else some false
noncomputable def Z6B : FnDef := .of Zun Zdv (Bool) (fun k x => Zgm k x.1) Zso ZrM ZA7
noncomputable def ZkG : Code := Try.f193.body.getD .skip
noncomputable def Zgl : Ctx (Tup Zdv × OutD) := { T := T, G := [(96, Z3K.E), (207, Z1s.E)], mvs := [], no := 0, n := 20, res := resOf T Zun Zdv Try.f193.results.toList, loops := [], regs := [], conds := [] }
theorem ZFL (k : Nat) : EnvOK Try.prog k Zgl.G := (EnvOK.cons (ZfU k) (EnvOK.cons (Zcy k) (EnvOK.nil mixed)))
theorem ZG3 (k : Nat) (x : Tup Z6B.ps) : Z6B.f (k + 1) x = fnK Z6B Zgl ZkG k x := by kernel_rfl
theorem ZFN (x : Tup Z6B.ps) : Z6B.f 0 x = none := by kernel_rfl
theorem ZFw (k : Nat) : LOK Try.prog Zgl k ZkG := LOK.by [] (by kernel_rfl) AllOK.nil
theorem ZG7 (k : Nat) : SoundAt Try.prog k 193 Z6B.E := @Z4 Try.prog Z6B Zgl 193 Try.f193 ZkG (by kernel_rfl) (by kernel_rfl) (by kernel_rfl) Try.func193 (by kernel_rfl) (by kernel_rfl) (by kernel_rfl) T_ok ZFL ZFw ZFN ZG3 k
noncomputable def Z9P : List PK := [PK.mk Ty.bool false none false none]
noncomputable def ZqW : List PK := [PK.mk (Ty.slice (57 : Nat) (Ty.slice (63 : Nat) (Ty.pair (Ty.int .i64) (Ty.pair (Ty.int .i64) (Ty.int .i64))))) false none false none, PK.mk (Ty.slice (57 : Nat) (Ty.slice (63 : Nat) (Ty.pair (Ty.int .i64) (Ty.pair (Ty.int .i64) (Ty.int .i64))))) false none false none, PK.mk (Ty.slice (3 : Nat) (Ty.int .i64)) false none false none]
noncomputable def Zi7 (r : Bool) : Tup Z9P × OutD := ((r, ()), none)
noncomputable def ZhL : Tup Z9P × OutD → Option (Bool)
 | (a, none) => some (a.1)
 | _ => none
theorem ZjH : ∀ b r, ZhL b = some r → Zi7 r = b := by
 rintro ⟨a, o⟩ r h
 cases o with
 | none => injection h with h; subst h; rfl
 | some _ => cases h
noncomputable def Z7j : Nat → List (List (Int × Int × Int)) → List (List (Int × Int × Int)) → List Int → Int → Int → Option (LR Unit Bool)
 | 0, _, _, _, _, _ => none
 | k + 1, v0, v1, v9, v10, v11 =>
  if decide (v11 < v10) = true then if (0 : Int) ≤ v11 then if v11 < (↑(List.length v9) : Int) then if (0 : Int) ≤ List.getD v9 (Int.toNat v11) (0 : Int) then if List.getD v9 (Int.toNat v11) (0 : Int) < (↑(List.length v0) : Int) then if (0 : Int) ≤ List.getD v9 (Int.toNat v11) (0 : Int) then if List.getD v9 (Int.toNat v11) (0 : Int) < (↑(List.length v1) : Int) then Option.bind (Z10 k (List.getD v0 (Int.toNat (List.getD v9 (Int.toNat v11) (0 : Int))) []) (List.getD v1 (Int.toNat (List.getD v9 (Int.toNat v11) (0 : Int))) [])) fun z0 => if (!z0) = true then some (LR.ret false) else Z7j k v0 v1 v9 v10 (wrap64 (v11 + (1 : Int))) else none else none else none else none else none else none else some (LR.go ())
noncomputable def Zfi : Spec := Spec.mk [OSh.ro] [((0 : Nat), TSh.at (Sh.snap (0 : Nat) (Ty.slice (63 : Nat) (Ty.pair (Ty.int .i64) (Ty.pair (Ty.int .i64) (Ty.int .i64)))))), ((1 : Nat), TSh.at (Sh.snap (0 : Nat) (Ty.slice (63 : Nat) (Ty.pair (Ty.int .i64) (Ty.pair (Ty.int .i64) (Ty.int .i64)))))), ((9 : Nat), TSh.at (Sh.snap (0 : Nat) (Ty.int .i64))), ((10 : Nat), TSh.at (Sh.int .i64)), ((11 : Nat), TSh.at (Sh.int .i64))]
noncomputable def ZyI : Spec := Spec.mk [OSh.ro] []
noncomputable def Z6n : LoopDef (Tup Z9P × OutD) := .rets Zfi ZyI (Unit) (Bool) (fun k x => Z7j k x.2.1 x.2.2.1 x.2.2.2.1 x.2.2.2.2.1 x.2.2.2.2.2.1) (fun z => (((), ()), (()))) (fun y => ()) (fun _ => rfl) Zi7 ZhL ZjH
noncomputable def Zc0 : Nat → List (List (Int × Int × Int)) → List (List (Int × Int × Int)) → List Int → Option Bool
 | 0, _, _, _ => none
 | k + 1, p0, p1, p2 =>
  Option.bind (Z7j k p0 p1 p2 (↑(List.length p2) : Int) (0 : Int)) fun z1 => LR.on z1 (fun y1 => some true) fun r1 => some r1
noncomputable def Z3P : FnDef := .of ZqW Z9P (Bool) (fun k x => Zc0 k x.1 x.2.1 x.2.2.1) Zi7 ZhL ZjH
noncomputable def ZeU : Code := Try.f198.body.getD .skip
noncomputable def Z6V : Ctx (Tup Z9P × OutD) := { T := T, G := [(166, Zf.E)], mvs := [], no := 0, n := 26, res := resOf T ZqW Z9P Try.f198.results.toList, loops := [(0, Z6n.E)], regs := [], conds := [] }
theorem Zsj (k : Nat) : EnvOK Try.prog k Z6V.G := (EnvOK.cons (Z4m k) (EnvOK.nil mixed))
noncomputable def ZbH : Code := (findLoop 0 ZeU).getD .skip
theorem ZzT (k : Nat) (x : Zfi.D) : Z6n.lp (k + 1) x = loopK Z6V Z6n 0 ZbH k x := by kernel_rfl
theorem ZyT (k : Nat) : LOK Try.prog Z6V k ZbH := LOK.by [] (by kernel_rfl) AllOK.nil
theorem ZAa (x : Zfi.D) : Z6n.lp 0 x = none := by kernel_rfl
theorem Zya (k : Nat) : EOK Try.prog Z6V k Z6n.E (.block 0 (.loop ZbH)) := Z7 T_ok Zsj ZAa ZzT ZyT k
theorem ZF0 (k : Nat) (x : Tup Z3P.ps) : Z3P.f (k + 1) x = fnK Z3P Z6V ZeU k x := by kernel_rfl
theorem ZEu (x : Tup Z3P.ps) : Z3P.f 0 x = none := by kernel_rfl
theorem ZF3 (k : Nat) : LOK Try.prog Z6V k ZeU := LOK.by [(Z6n.E, .block 0 (.loop ZbH))] (by kernel_rfl) (AllOK.cons (Zya k) AllOK.nil)
theorem Zqv (k : Nat) : SoundAt Try.prog k 198 Z3P.E := @Z4 Try.prog Z3P Z6V 198 Try.f198 ZeU (by kernel_rfl) (by kernel_rfl) (by kernel_rfl) Try.func198 (by kernel_rfl) (by kernel_rfl) (by kernel_rfl) T_ok Zsj ZF3 ZEu ZF0 k
noncomputable def Z9F : List PK := [PK.mk (Ty.pair (Ty.int .i64) (Ty.pair (Ty.int .i64) (Ty.slice (79 : Nat) (Ty.pair (Ty.int .i64) (Ty.int .i64))))) true none false none]
noncomputable def Zrj : List PK := [PK.mk (Ty.int .i64) false none false none, PK.mk (Ty.int .i64) false none false none]
noncomputable def ZpA (r : Int × Int × List (Int × Int)) : Tup Z9F × OutD := ((r, ()), none)
noncomputable def Zp3 : Tup Z9F × OutD → Option (Int × Int × List (Int × Int))
 | (a, none) => some (a.1)
 | _ => none
theorem Zy7 : ∀ b r, Zp3 b = some r → ZpA r = b := by
 rintro ⟨a, o⟩ r h
 cases o with
 | none => injection h with h; subst h; rfl
 | some _ => cases h
noncomputable def Z71 : Nat → Int → Int → List (Int × Int) → Int → Int → List (Int × Int) → Int → Int → Int → Option (Int × Int × List (Int × Int) × Int × Int × List (Int × Int))
 | 0, _, _, _, _, _, _, _, _, _ => none
 | k + 1, b1_0, b1_1, o2, b3_0, b3_1, o4, v0, v1, v6 =>
  if decide (v6 < v0) = true then Option.bind (ZhO k v1 v6) fun z0 => if (0 : Int) ≤ wrap64 (wrap64 ((6 : Int) * v6) + (1 : Int)) then if wrap64 (wrap64 ((6 : Int) * v6) + (1 : Int)) < (↑(List.length o4) : Int) then if (0 : Int) ≤ wrap64 (wrap64 ((6 : Int) * v6) + (5 : Int)) then if wrap64 (wrap64 ((6 : Int) * v6) + (5 : Int)) < (↑(List.length (List.set o4 (Int.toNat (wrap64 (wrap64 ((6 : Int) * v6) + (1 : Int)))) ((3 : Int), z0))) : Int) then Z71 k b1_0 b1_1 o2 b3_0 b3_1 (List.set (List.set o4 (Int.toNat (wrap64 (wrap64 ((6 : Int) * v6) + (1 : Int)))) ((3 : Int), z0)) (Int.toNat (wrap64 (wrap64 ((6 : Int) * v6) + (5 : Int)))) ((1 : Int), (0 : Int))) v0 v1 (wrap64 (v6 + (1 : Int))) else none else none else none else none else some (b1_0, b1_1, o2, b3_0, b3_1, o4)
noncomputable def ZfE : Spec := Spec.mk [OSh.ro, OSh.box (53 : Nat) [Sh.int .i64, Sh.int .i64, Sh.sl (2 : Nat)], OSh.row true (79 : Nat) (Ty.pair (Ty.int .i64) (Ty.int .i64)), OSh.box (53 : Nat) [Sh.int .i64, Sh.int .i64, Sh.sl (4 : Nat)], OSh.row true (79 : Nat) (Ty.pair (Ty.int .i64) (Ty.int .i64))] [((0 : Nat), TSh.at (Sh.int .i64)), ((1 : Nat), TSh.at (Sh.int .i64)), ((4 : Nat), TSh.at (Sh.ptr (1 : Nat) (0 : Nat))), ((5 : Nat), TSh.at (Sh.ptr (3 : Nat) (0 : Nat))), ((6 : Nat), TSh.at (Sh.int .i64))]
noncomputable def Zz4 : Spec := Spec.mk [OSh.ro, OSh.box (53 : Nat) [Sh.int .i64, Sh.int .i64, Sh.sl (2 : Nat)], OSh.row true (79 : Nat) (Ty.pair (Ty.int .i64) (Ty.int .i64)), OSh.box (53 : Nat) [Sh.int .i64, Sh.int .i64, Sh.sl (4 : Nat)], OSh.row true (79 : Nat) (Ty.pair (Ty.int .i64) (Ty.int .i64))] [((4 : Nat), TSh.at (Sh.ptr (1 : Nat) (0 : Nat))), ((5 : Nat), TSh.at (Sh.ptr (3 : Nat) (0 : Nat)))]
noncomputable def Z6e : LoopDef (Tup Z9F × OutD) := .plain ZfE Zz4 (Int × Int × List (Int × Int) × Int × Int × List (Int × Int)) (fun k x => Z71 k x.1.2.1.1 x.1.2.1.2.1 x.1.2.2.1 x.1.2.2.2.1.1 x.1.2.2.2.1.2.1 x.1.2.2.2.2.1 x.2.1 x.2.2.1 x.2.2.2.2.2.1) (fun z => (((), (z.1, z.2.1, (), ()), z.2.2.1, (z.2.2.2.1, z.2.2.2.2.1, (), ()), z.2.2.2.2.2, ()), ((), (), ()))) (fun y => (y.1.2.1.1, y.1.2.1.2.1, y.1.2.2.1, y.1.2.2.2.1.1, y.1.2.2.2.1.2.1, y.1.2.2.2.2.1)) (fun _ => rfl)
noncomputable def Zfb : Nat → Int → Int → Option (Int × Int × List (Int × Int))
 | 0, _, _ => none
 | k + 1, p0, p1 =>
  if (0 : Int) ≤ wrap64 ((6 : Int) * p0) then if Int.toNat (wrap64 ((6 : Int) * p0)) * (16 : Nat) ≤ (281474976710656 : Nat) then Option.bind (Z71 k (0 : Int) (0 : Int) [] (wrap64 ((2 : Int) * p0)) (3 : Int) (List.replicate (Int.toNat (wrap64 ((6 : Int) * p0))) ((0 : Int), (0 : Int))) p0 p1 (0 : Int)) fun z1 => some (Prod.fst z1.2.2.2, Prod.fst z1.2.2.2.2, Prod.snd z1.2.2.2.2) else none else none
noncomputable def Z5q : FnDef := .of Zrj Z9F (Int × Int × List (Int × Int)) (fun k x => Zfb k x.1 x.2.1) ZpA Zp3 Zy7
noncomputable def Zf5 : Code := Try.f204.body.getD .skip
noncomputable def Z74 : Ctx (Tup Z9F × OutD) := { T := T, G := [(215, Z7L.E)], mvs := [], no := 0, n := 36, res := resOf T Zrj Z9F Try.f204.results.toList, loops := [(0, Z6e.E)], regs := [], conds := [] }
theorem Zrl (k : Nat) : EnvOK Try.prog k Z74.G := (EnvOK.cons (ZGQ k) (EnvOK.nil mixed))
noncomputable def Zby : Code := (findLoop 0 Zf5).getD .skip
theorem ZzC (k : Nat) (x : ZfE.D) : Z6e.lp (k + 1) x = loopK Z74 Z6e 0 Zby k x := by kernel_rfl
theorem ZyE (k : Nat) : LOK Try.prog Z74 k Zby := LOK.by [] (by kernel_rfl) AllOK.nil
theorem Zyx (x : ZfE.D) : Z6e.lp 0 x = none := by kernel_rfl
theorem Zx5 (k : Nat) : EOK Try.prog Z74 k Z6e.E (.block 0 (.loop Zby)) := Z7 T_ok Zrl Zyx ZzC ZyE k
theorem ZEU (k : Nat) (x : Tup Z5q.ps) : Z5q.f (k + 1) x = fnK Z5q Z74 Zf5 k x := by kernel_rfl
theorem ZEp (x : Tup Z5q.ps) : Z5q.f 0 x = none := by kernel_rfl
theorem ZEN (k : Nat) : LOK Try.prog Z74 k Zf5 := LOK.by [(Z6e.E, .block 0 (.loop Zby))] (by kernel_rfl) (AllOK.cons (Zx5 k) AllOK.nil)
theorem ZEi (k : Nat) : SoundAt Try.prog k 204 Z5q.E := @Z4 Try.prog Z5q Z74 204 Try.f204 Zf5 (by kernel_rfl) (by kernel_rfl) (by kernel_rfl) Try.func204 (by kernel_rfl) (by kernel_rfl) (by kernel_rfl) T_ok Zrl ZEN ZEp ZEU k
noncomputable def ZaG : List PK := []
noncomputable def Zuz : List PK := [PK.mk (Ty.pair (Ty.int .i64) (Ty.pair (Ty.int .i64) (Ty.slice (79 : Nat) (Ty.pair (Ty.int .i64) (Ty.int .i64))))) true (some ((2 : Nat), (79 : Nat), Ty.pair (Ty.int .i64) (Ty.int .i64))) false none, PK.mk (Ty.slice (3 : Nat) (Ty.int .i64)) false none false none, PK.mk (Ty.int .i64) false none false none]
noncomputable def Zs0 (r : List (Int × Int)) : Tup ZaG × OutD := ((()), some ⟨Ty.pair (Ty.int .i64) (Ty.int .i64), r⟩)
noncomputable def Zj0 : Tup ZaG × OutD → Option (List (Int × Int))
 | (a, some ⟨u, ys⟩) => if h : u = Ty.pair (Ty.int .i64) (Ty.int .i64) then some (castU h ys) else none
 | _ => none
theorem ZzK : ∀ b r, Zj0 b = some r → Zs0 r = b := by
 rintro ⟨a, o⟩ r h
 cases o with
 | none => cases h
 | some s =>
  obtain ⟨u, ys⟩ := s
  simp only [Zj0] at h
  split at h
  ·rename_i hu; subst hu; injection h with h; subst h; rfl
  ·cases h
noncomputable def Z3j : Nat → List (Int × Int) → Int → Int → List Int → Int → Int → Int → Option (List (Int × Int))
 | 0, _, _, _, _, _, _, _ => none
 | k + 1, o1, b2_0, b2_1, v1, v2, v28, v29 =>
  if decide (v29 < v28) = true then if (0 : Int) ≤ v29 then if v29 < (↑(List.length o1) : Int) then if decide (Prod.fst (List.getD o1 (Int.toNat v29) ((0 : Int), (0 : Int))) = (6 : Int)) = true then if (0 : Int) ≤ v29 then if v29 < (↑(List.length v1) : Int) then if (0 : Int) ≤ v2 then if v2 < (↑(List.length v1) : Int) then if decide (List.getD v1 (Int.toNat v29) (0 : Int) = List.getD v1 (Int.toNat v2) (0 : Int)) = true then Option.bind (Zdk k (Prod.fst (List.getD o1 (Int.toNat v29) ((0 : Int), (0 : Int))), Prod.snd (List.getD o1 (Int.toNat v29) ((0 : Int), (0 : Int))))) fun z1 => if (0 : Int) ≤ v29 then if v29 < (↑(List.length o1) : Int) then Z3j k (List.set o1 (Int.toNat v29) (Prod.fst z1, Prod.snd z1)) b2_0 b2_1 v1 v2 v28 (wrap64 (v29 + (1 : Int))) else none else none else Z3j k o1 b2_0 b2_1 v1 v2 v28 (wrap64 (v29 + (1 : Int))) else none else none else none else none else Z3j k o1 b2_0 b2_1 v1 v2 v28 (wrap64 (v29 + (1 : Int))) else none else none else some o1
noncomputable def ZgF : Spec := Spec.mk [OSh.ro, OSh.row false (79 : Nat) (Ty.pair (Ty.int .i64) (Ty.int .i64)), OSh.box (53 : Nat) [Sh.int .i64, Sh.int .i64, Sh.sl (1 : Nat)]] [((1 : Nat), TSh.at (Sh.snap (0 : Nat) (Ty.int .i64))), ((2 : Nat), TSh.at (Sh.int .i64)), ((3 : Nat), TSh.at (Sh.ptr (2 : Nat) (0 : Nat))), ((27 : Nat), TSh.at (Sh.sl (1 : Nat))), ((28 : Nat), TSh.at (Sh.int .i64)), ((29 : Nat), TSh.at (Sh.int .i64))]
noncomputable def ZAM : Spec := Spec.mk [OSh.ro, OSh.row false (79 : Nat) (Ty.pair (Ty.int .i64) (Ty.int .i64))] []
noncomputable def Z70 : LoopDef (Tup ZaG × OutD) := .plain ZgF ZAM (List (Int × Int)) (fun k x => Z3j k x.1.2.1 x.1.2.2.1.1 x.1.2.2.1.2.1 x.2.1 x.2.2.1 x.2.2.2.2.2.1 x.2.2.2.2.2.2.1) (fun z => (((), z, ()), (()))) (fun y => (y.1.2.1)) (fun _ => rfl)
noncomputable def Zgd : Nat → Int × Int × List (Int × Int) → List Int → Int → Option (List (Int × Int))
 | 0, _, _, _ => none
 | k + 1, p0, p1, p2 =>
  if (0 : Int) ≤ p2 then if p2 < (↑(List.length p0.2.2) : Int) then if decide (Prod.fst (List.getD p0.2.2 (Int.toNat p2) ((0 : Int), (0 : Int))) = (3 : Int)) = true then Option.bind (Zdk k (Prod.fst (List.getD p0.2.2 (Int.toNat p2) ((0 : Int), (0 : Int))), Prod.snd (List.getD p0.2.2 (Int.toNat p2) ((0 : Int), (0 : Int))))) fun z0 => if (0 : Int) ≤ p2 then if p2 < (↑(List.length p0.2.2) : Int) then some (List.set p0.2.2 (Int.toNat p2) (Prod.fst z0, Prod.snd z0)) else none else none else if decide (Prod.fst (List.getD p0.2.2 (Int.toNat p2) ((0 : Int), (0 : Int))) = (6 : Int)) = true then Option.bind (Z3j k p0.2.2 p0.1 p0.2.1 p1 p2 (↑(List.length p0.2.2) : Int) (0 : Int)) fun z2 => some z2 else some p0.2.2 else none else none
noncomputable def Z6I : FnDef := .of Zuz ZaG (List (Int × Int)) (fun k x => Zgd k x.1 x.2.1 x.2.2.1) Zs0 Zj0 ZzK
noncomputable def Zg9 : Code := Try.f212.body.getD .skip
noncomputable def Z8F : Ctx (Tup ZaG × OutD) := { T := T, G := [(218, Z6D.E)], mvs := [], no := 1, n := 55, res := resOf T Zuz ZaG Try.f212.results.toList, loops := [(1, Z70.E)], regs := [], conds := [] }
theorem Zuc (k : Nat) : EnvOK Try.prog k Z8F.G := (EnvOK.cons (ZFI k) (EnvOK.nil mixed))
noncomputable def Zd0 : Code := (findLoop 1 Zg9).getD .skip
theorem ZAQ (k : Nat) (x : ZgF.D) : Z70.lp (k + 1) x = loopK Z8F Z70 1 Zd0 k x := by kernel_rfl
theorem ZBt (k : Nat) : LOK Try.prog Z8F k Zd0 := LOK.by [] (by kernel_rfl) AllOK.nil
theorem ZB7 (x : ZgF.D) : Z70.lp 0 x = none := by kernel_rfl
theorem Zzc (k : Nat) : EOK Try.prog Z8F k Z70.E (.block 1 (.loop Zd0)) := Z7 T_ok Zuc ZB7 ZAQ ZBt k
theorem ZGF (k : Nat) (x : Tup Z6I.ps) : Z6I.f (k + 1) x = fnK Z6I Z8F Zg9 k x := by kernel_rfl
theorem ZGf (x : Tup Z6I.ps) : Z6I.f 0 x = none := by kernel_rfl
theorem ZGi (k : Nat) : LOK Try.prog Z8F k Zg9 := LOK.by [(Z70.E, .block 1 (.loop Zd0))] (by kernel_rfl) (AllOK.cons (Zzc k) AllOK.nil)
theorem ZGm (k : Nat) : SoundAt Try.prog k 212 Z6I.E := @Z4 Try.prog Z6I Z8F 212 Try.f212 Zg9 (by kernel_rfl) (by kernel_rfl) (by kernel_rfl) Try.func212 (by kernel_rfl) (by kernel_rfl) (by kernel_rfl) T_ok Zuc ZGi ZGf ZGF k
noncomputable def Zcj : List PK := [PK.mk (Ty.slice (79 : Nat) (Ty.pair (Ty.int .i64) (Ty.int .i64))) false none false none]
noncomputable def ZwA : List PK := []
noncomputable def ZuF (r : List (Int × Int)) : Tup Zcj × OutD := ((r, ()), none)
noncomputable def Zut : Tup Zcj × OutD → Option (List (Int × Int))
 | (a, none) => some (a.1)
 | _ => none
theorem ZCp : ∀ b r, Zut b = some r → ZuF r = b := by
 rintro ⟨a, o⟩ r h
 cases o with
 | none => injection h with h; subst h; rfl
 | some _ => cases h
noncomputable def Z5E : Nat → List (Int × Int) → Int → Option (List (Int × Int))
 | 0, _, _ => none
 | k + 1, o1, v2 =>
  if decide (v2 ≤ (7 : Int)) = true then if List.length o1 + List.length [(v2, (0 : Int))] ≤ (140737488355328 / 16 : Nat) then Option.bind (Z3C k (v2, (1 : Int))) fun z0 => if z0 = true then if List.length (o1 ++ [(v2, (0 : Int))]) + List.length [(v2, (1 : Int))] ≤ (140737488355328 / 16 : Nat) then Z5E k (o1 ++ [(v2, (0 : Int))] ++ [(v2, (1 : Int))]) (wrap64 (v2 + (1 : Int))) else none else Z5E k (o1 ++ [(v2, (0 : Int))]) (wrap64 (v2 + (1 : Int))) else none else some o1
noncomputable def ZhE : Spec := Spec.mk [OSh.ro, OSh.row true (79 : Nat) (Ty.pair (Ty.int .i64) (Ty.int .i64))] [((1 : Nat), TSh.at (Sh.sl (1 : Nat))), ((2 : Nat), TSh.at (Sh.int .i64))]
noncomputable def ZEc : Spec := Spec.mk [OSh.ro, OSh.row true (79 : Nat) (Ty.pair (Ty.int .i64) (Ty.int .i64))] [((1 : Nat), TSh.at (Sh.sl (1 : Nat)))]
noncomputable def Z87 : LoopDef (Tup Zcj × OutD) := .plain ZhE ZEc (List (Int × Int)) (fun k x => Z5E k x.1.2.1 x.2.2.1) (fun z => (((), z, ()), ((), ()))) (fun y => (y.1.2.1)) (fun _ => rfl)
noncomputable def ZhI : Nat → Option (List (Int × Int))
 | 0 => none
 | k + 1 =>
  Option.bind (Z5E k [] (0 : Int)) fun z1 => some z1
noncomputable def Z7N : FnDef := .of ZwA Zcj (List (Int × Int)) (fun k x => ZhI k) ZuF Zut ZCp
noncomputable def Zhf : Code := Try.f216.body.getD .skip
noncomputable def Z9X : Ctx (Tup Zcj × OutD) := { T := T, G := [(207, Z1s.E)], mvs := [], no := 0, n := 22, res := resOf T ZwA Zcj Try.f216.results.toList, loops := [(0, Z87.E)], regs := [], conds := [] }
theorem Zxe (k : Nat) : EnvOK Try.prog k Z9X.G := (EnvOK.cons (Zcy k) (EnvOK.nil mixed))
noncomputable def Ze7 : Code := (findLoop 0 Zhf).getD .skip
theorem ZDH (k : Nat) (x : ZhE.D) : Z87.lp (k + 1) x = loopK Z9X Z87 0 Ze7 k x := by kernel_rfl
theorem ZE3 (k : Nat) : LOK Try.prog Z9X k Ze7 := LOK.by [] (by kernel_rfl) AllOK.nil
theorem ZDN (x : ZhE.D) : Z87.lp 0 x = none := by kernel_rfl
theorem ZBT (k : Nat) : EOK Try.prog Z9X k Z87.E (.block 0 (.loop Ze7)) := Z7 T_ok Zxe ZDN ZDH ZE3 k
theorem ZH4 (k : Nat) (x : Tup Z7N.ps) : Z7N.f (k + 1) x = fnK Z7N Z9X Zhf k x := by kernel_rfl
theorem ZHw (x : Tup Z7N.ps) : Z7N.f 0 x = none := by kernel_rfl
theorem ZHz (k : Nat) : LOK Try.prog Z9X k Zhf := LOK.by [(Z87.E, .block 0 (.loop Ze7))] (by kernel_rfl) (AllOK.cons (ZBT k) AllOK.nil)
theorem ZGP (k : Nat) : SoundAt Try.prog k 216 Z7N.E := @Z4 Try.prog Z7N Z9X 216 Try.f216 Zhf (by kernel_rfl) (by kernel_rfl) (by kernel_rfl) Try.func216 (by kernel_rfl) (by kernel_rfl) (by kernel_rfl) T_ok Zxe ZHz ZHw ZH4 k
end
end Go.Proofs.Ytgjmhbjdhihgaaa.Vs
