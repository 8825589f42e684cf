/- The proof, part 6. -/
import Derived.Test.YtpeflcbadgfebaaqAm4
set_option maxRecDepth 100000
set_option maxHeartbeats 2000000
set_option linter.unusedVariables false
set_option linter.unusedSimpArgs false
namespace Go.Proofs.Ytpeflcbadgfebaa.Vs
open Go.RowKit
noncomputable section
noncomputable def Z8F : List PK := [PK.mk (Ty.int .i64) false none false none]
noncomputable def Zm0 : List PK := [PK.mk (Ty.pair (Ty.int .i64) (Ty.pair (Ty.int .i64) (Ty.slice (75 : Nat) (Ty.pair (Ty.int .i64) (Ty.int .i64))))) true none false none, PK.mk (Ty.int .i64) false none false none]
noncomputable def ZjF (r : Int) : Tup Z8F × OutD := ((r, ()), none)
noncomputable def Zj0 : Tup Z8F × OutD → Option (Int)
 | (a, none) => some (a.1)
 | _ => none
theorem ZpE : ∀ b r, Zj0 b = some r → ZjF r = b := by
 rintro ⟨a, o⟩ r h
 cases o with
 | none => injection h with h; subst h; rfl
 | some _ => cases h
noncomputable def Z8E : Nat → Int × Int × List (Int × Int) → Int → Option Int
 | 0, _, _ => none
 | k + 1, p0, p1 =>
  Option.bind (Zb7 k p0.2.2 p1) fun z0 => if decide (z0 < (0 : Int)) = true then some (-1 : Int) else some z0
noncomputable def Z2n : FnDef := .of Zm0 Z8F (Int) (fun k x => Z8E k x.1 x.2.1) ZjF Zj0 ZpE
noncomputable def ZeO : Code := Try.f6.body.getD .skip
noncomputable def Zb1 : Ctx (Tup Z8F × OutD) := { T := T, G := [(30, Z3s.E)], mvs := [], no := 0, n := 12, res := resOf T Zm0 Z8F Try.f6.results.toList, loops := [], regs := [], conds := [], cuts := [] }
theorem Zx8 (k : Nat) : EnvOK Try.prog k Zb1.G := (EnvOK.cons (ZwG k) (EnvOK.nil mixed))
theorem Zxb (k : Nat) (x : Tup Z2n.ps) : Z2n.f (k + 1) x = fnK Z2n Zb1 ZeO k x := by kernel_rfl
theorem ZwE (x : Tup Z2n.ps) : Z2n.f 0 x = none := by kernel_rfl
theorem ZwY (k : Nat) : LOK Try.prog Zb1 k ZeO := LOK.by [] (by kernel_rfl) AllOK.nil
theorem Zmc (k : Nat) : SoundAt Try.prog k 6 Z2n.E := @Z1 Try.prog Z2n Zb1 6 Try.f6 ZeO (by kernel_rfl) (by kernel_rfl) (by kernel_rfl) Try.func6 (by kernel_rfl) (by kernel_rfl) (by kernel_rfl) T_ok Zx8 ZwY ZwE Zxb k
noncomputable def Z6Y : List PK := [PK.mk (Ty.int .i64) false none false none]
noncomputable def Zl2 : List PK := [PK.mk (Ty.slice (28 : Nat) (Ty.slice (3 : Nat) (Ty.int .i64))) false none false none, PK.mk (Ty.int .i64) false none false none]
noncomputable def Ze0 (r : Int) : Tup Z6Y × OutD := ((r, ()), none)
noncomputable def ZdR : Tup Z6Y × OutD → Option (Int)
 | (a, none) => some (a.1)
 | _ => none
theorem Zfi : ∀ b r, ZdR b = some r → Ze0 r = b := by
 rintro ⟨a, o⟩ r h
 cases o with
 | none => injection h with h; subst h; rfl
 | some _ => cases h
noncomputable def Z5h : Nat → List (List Int) → Int → Int → Option (LR Int Int)
 | 0, _, _, _ => none
 | k + 1, v0, v1, v5 =>
  if decide (v5 < (↑(List.length v0) : Int)) = true then if (0 : Int) ≤ v5 then if v5 < (↑(List.length v0) : Int) then Option.bind (Zcl k (List.getD v0 (Int.toNat v5) []) v1) fun z0 => if decide (z0 < (0 : Int)) = true then some (LR.ret (-1 : Int)) else Z5h k v0 z0 (wrap64 (v5 + (1 : Int))) else none else none else some (LR.go v1)
noncomputable def ZbU : Spec := Spec.mk [OSh.ro] [((0 : Nat), TSh.at (Sh.snap (0 : Nat) (Ty.slice (3 : Nat) (Ty.int .i64)))), ((1 : Nat), TSh.at (Sh.int .i64)), ((5 : Nat), TSh.at (Sh.int .i64))]
noncomputable def ZrD : Spec := Spec.mk [OSh.ro] [((1 : Nat), TSh.at (Sh.int .i64))]
noncomputable def Z4d : LoopDef (Tup Z6Y × OutD) := .rets ZbU ZrD (Int) (Int) (fun k x => Z5h k x.2.1 x.2.2.1 x.2.2.2.1) (fun z => (((), ()), (z, ()))) (fun y => (y.2.1)) (fun _ => rfl) Ze0 ZdR Zfi
noncomputable def Z93 : Nat → List (List Int) → Int → Option Int
 | 0, _, _ => none
 | k + 1, p0, p1 =>
  if decide (wrap64 (p1 - (↑(List.length p0) : Int)) < (0 : Int)) = true then some (-1 : Int) else Option.bind (Z5h k p0 (wrap64 (p1 - (↑(List.length p0) : Int))) (0 : Int)) fun z1 => LR.on z1 (fun y1 => some y1) fun r1 => some r1
noncomputable def Z2D : FnDef := .of Zl2 Z6Y (Int) (fun k x => Z93 k x.1 x.2.1) Ze0 ZdR Zfi
noncomputable def Zb2 : Code := Try.f7.body.getD .skip
noncomputable def Z5c : Ctx (Tup Z6Y × OutD) := { T := T, G := [(31, Z4H.E)], mvs := [], no := 0, n := 27, res := resOf T Zl2 Z6Y Try.f7.results.toList, loops := [(0, Z4d.E)], regs := [], conds := [], cuts := [] }
theorem Zky (k : Nat) : EnvOK Try.prog k Z5c.G := (EnvOK.cons (Zzh k) (EnvOK.nil mixed))
noncomputable def Z8p : Code := (findLoop 0 Zb2).getD .skip
theorem Zrw (k : Nat) (x : ZbU.D) : Z4d.lp (k + 1) x = loopK Z5c Z4d 0 Z8p k x := by kernel_rfl
theorem ZsD (k : Nat) : LOK Try.prog Z5c k Z8p := LOK.by [] (by kernel_rfl) AllOK.nil
theorem ZrT (x : ZbU.D) : Z4d.lp 0 x = none := by kernel_rfl
theorem Zq3 (k : Nat) : EOK Try.prog Z5c k Z4d.E (.block 0 (.loop Z8p)) := Z2 T_ok Zky ZrT Zrw ZsD k
theorem ZxU (k : Nat) (x : Tup Z2D.ps) : Z2D.f (k + 1) x = fnK Z2D Z5c Zb2 k x := by kernel_rfl
theorem Zx2 (x : Tup Z2D.ps) : Z2D.f 0 x = none := by kernel_rfl
theorem ZxR (k : Nat) : LOK Try.prog Z5c k Zb2 := LOK.by [(Z4d.E, .block 0 (.loop Z8p))] (by kernel_rfl) (AllOK.cons (Zq3 k) AllOK.nil)
theorem ZlH (k : Nat) : SoundAt Try.prog k 7 Z2D.E := @Z1 Try.prog Z2D Z5c 7 Try.f7 Zb2 (by kernel_rfl) (by kernel_rfl) (by kernel_rfl) Try.func7 (by kernel_rfl) (by kernel_rfl) (by kernel_rfl) T_ok Zky ZxR Zx2 ZxU k
noncomputable def Z6W : List PK := [PK.mk (Ty.slice (28 : Nat) (Ty.slice (3 : Nat) (Ty.int .i64))) false none false none]
noncomputable def Zm9 : List PK := [PK.mk (Ty.slice (28 : Nat) (Ty.slice (3 : Nat) (Ty.int .i64))) false none false none]
noncomputable def ZjI (r : List (List Int)) : Tup Z6W × OutD := ((r, ()), none)
noncomputable def Zj9 : Tup Z6W × OutD → Option (List (List Int))
 | (a, none) => some (a.1)
 | _ => none
theorem ZqI : ∀ b r, Zj9 b = some r → ZjI r = b := by
 rintro ⟨a, o⟩ r h
 cases o with
 | none => injection h with h; subst h; rfl
 | some _ => cases h
noncomputable def Z4O : Nat → List (List Int) → List (List Int) → Int → Option (List (List Int))
 | 0, _, _, _ => none
 | k + 1, o1, v0, v4 =>
  if decide (v4 < (↑(List.length v0) : Int)) = true then if (0 : Int) ≤ v4 then if v4 < (↑(List.length v0) : Int) then Option.bind (Zcn k (List.getD v0 (Int.toNat v4) [])) fun z0 => if (0 : Int) ≤ v4 then if v4 < (↑(List.length o1) : Int) then Z4O k (List.set o1 (Int.toNat v4) z0) v0 (wrap64 (v4 + (1 : Int))) else none else none else none else none else some o1
noncomputable def ZbI : Spec := Spec.mk [OSh.ro, OSh.row true (28 : Nat) (Ty.slice (3 : Nat) (Ty.int .i64))] [((0 : Nat), TSh.at (Sh.snap (0 : Nat) (Ty.slice (3 : Nat) (Ty.int .i64)))), ((3 : Nat), TSh.at (Sh.sl (1 : Nat))), ((4 : Nat), TSh.at (Sh.int .i64))]
noncomputable def ZsR : Spec := Spec.mk [OSh.ro, OSh.row true (28 : Nat) (Ty.slice (3 : Nat) (Ty.int .i64))] [((3 : Nat), TSh.at (Sh.sl (1 : Nat)))]
noncomputable def Z49 : LoopDef (Tup Z6W × OutD) := .plain ZbI ZsR (List (List Int)) (fun k x => Z4O k x.1.2.1 x.2.1 x.2.2.2.1) (fun z => (((), z, ()), ((), ()))) (fun y => (y.1.2.1)) (fun _ => rfl)
noncomputable def Z1a : Nat → List (List Int) → Option (List (List Int))
 | 0, _ => none
 | k + 1, p0 =>
  if Int.toNat (↑(List.length p0) : Int) * (24 : Nat) ≤ (281474976710656 : Nat) then Option.bind (Z4O k (List.replicate (Int.toNat (↑(List.length p0) : Int)) []) p0 (0 : Int)) fun z1 => some z1 else none
noncomputable def Z2s : FnDef := .of Zm9 Z6W (List (List Int)) (fun k x => Z1a k x.1) ZjI Zj9 ZqI
noncomputable def Zbg : Code := Try.f10.body.getD .skip
noncomputable def Z5g : Ctx (Tup Z6W × OutD) := { T := T, G := [(40, Z4s.E)], mvs := [], no := 0, n := 23, res := resOf T Zm9 Z6W Try.f10.results.toList, loops := [(0, Z49.E)], regs := [], conds := [], cuts := [] }
theorem ZlF (k : Nat) : EnvOK Try.prog k Z5g.G := (EnvOK.cons (Zzs k) (EnvOK.nil mixed))
noncomputable def Z8w : Code := (findLoop 0 Zbg).getD .skip
theorem ZrN (k : Nat) (x : ZbI.D) : Z49.lp (k + 1) x = loopK Z5g Z49 0 Z8w k x := by kernel_rfl
theorem ZsN (k : Nat) : LOK Try.prog Z5g k Z8w := LOK.by [] (by kernel_rfl) AllOK.nil
theorem Zsi (x : ZbI.D) : Z49.lp 0 x = none := by kernel_rfl
theorem Zqj (k : Nat) : EOK Try.prog Z5g k Z49.E (.block 0 (.loop Z8w)) := Z2 T_ok ZlF Zsi ZrN ZsN k
theorem Zxl (k : Nat) (x : Tup Z2s.ps) : Z2s.f (k + 1) x = fnK Z2s Z5g Zbg k x := by kernel_rfl
theorem ZxL (x : Tup Z2s.ps) : Z2s.f 0 x = none := by kernel_rfl
theorem ZxG (k : Nat) : LOK Try.prog Z5g k Zbg := LOK.by [(Z49.E, .block 0 (.loop Z8w))] (by kernel_rfl) (AllOK.cons (Zqj k) AllOK.nil)
theorem Zln (k : Nat) : SoundAt Try.prog k 10 Z2s.E := @Z1 Try.prog Z2s Z5g 10 Try.f10 Zbg (by kernel_rfl) (by kernel_rfl) (by kernel_rfl) Try.func10 (by kernel_rfl) (by kernel_rfl) (by kernel_rfl) T_ok ZlF ZxG ZxL Zxl k
noncomputable def Z6T : List PK := [PK.mk Ty.bool false none false none]
noncomputable def ZlK : List PK := [PK.mk (Ty.slice (28 : Nat) (Ty.slice (3 : Nat) (Ty.int .i64))) false none false none, PK.mk (Ty.slice (28 : Nat) (Ty.slice (3 : Nat) (Ty.int .i64))) false none false none]
noncomputable def Ze2 (r : Bool) : Tup Z6T × OutD := ((r, ()), none)
noncomputable def ZdG : Tup Z6T × OutD → Option (Bool)
 | (a, none) => some (a.1)
 | _ => none
theorem Zfd : ∀ b r, ZdG b = some r → Ze2 r = b := by
 rintro ⟨a, o⟩ r h
 cases o with
 | none => injection h with h; subst h; rfl
 | some _ => cases h
noncomputable def Z5m : Nat → List (List Int) → List (List Int) → Int → Option (LR Unit Bool)
 | 0, _, _, _ => none
 | k + 1, v0, v1, v5 =>
  if decide (v5 < (↑(List.length v0) : Int)) = true then if (0 : Int) ≤ v5 then if v5 < (↑(List.length v0) : Int) then if (0 : Int) ≤ v5 then if v5 < (↑(List.length v1) : Int) then Option.bind (Z2g k (List.getD v0 (Int.toNat v5) []) (List.getD v1 (Int.toNat v5) [])) fun z0 => if (!z0) = true then some (LR.ret false) else Z5m k v0 v1 (wrap64 (v5 + (1 : Int))) else none else none else none else none else some (LR.go ())
noncomputable def ZbH : Spec := Spec.mk [OSh.ro] [((0 : Nat), TSh.at (Sh.snap (0 : Nat) (Ty.slice (3 : Nat) (Ty.int .i64)))), ((1 : Nat), TSh.at (Sh.snap (0 : Nat) (Ty.slice (3 : Nat) (Ty.int .i64)))), ((5 : Nat), TSh.at (Sh.int .i64))]
noncomputable def Zru : Spec := Spec.mk [OSh.ro] []
noncomputable def Z4j : LoopDef (Tup Z6T × OutD) := .rets ZbH Zru (Unit) (Bool) (fun k x => Z5m k x.2.1 x.2.2.1 x.2.2.2.1) (fun z => (((), ()), (()))) (fun y => ()) (fun _ => rfl) Ze2 ZdG Zfd
noncomputable def Z8Z : Nat → List (List Int) → List (List Int) → Option Bool
 | 0, _, _ => none
 | k + 1, p0, p1 =>
  if decide ((↑(List.length p0) : Int) ≠ (↑(List.length p1) : Int)) = true then some false else Option.bind (Z5m k p0 p1 (0 : Int)) fun z1 => LR.on z1 (fun y1 => some true) fun r1 => some r1
noncomputable def Z2x : FnDef := .of ZlK Z6T (Bool) (fun k x => Z8Z k x.1 x.2.1) Ze2 ZdG Zfd
noncomputable def Zbj : Code := Try.f14.body.getD .skip
noncomputable def Z5f : Ctx (Tup Z6T × OutD) := { T := T, G := [(12, Z2f.E)], mvs := [], no := 0, n := 27, res := resOf T ZlK Z6T Try.f14.results.toList, loops := [(0, Z4j.E)], regs := [], conds := [], cuts := [] }
theorem ZlG (k : Nat) : EnvOK Try.prog k Z5f.G := (EnvOK.cons (ZfU k) (EnvOK.nil mixed))
noncomputable def Z8B : Code := (findLoop 0 Zbj).getD .skip
theorem Zsz (k : Nat) (x : ZbH.D) : Z4j.lp (k + 1) x = loopK Z5f Z4j 0 Z8B k x := by kernel_rfl
theorem ZsI (k : Nat) : LOK Try.prog Z5f k Z8B := LOK.by [] (by kernel_rfl) AllOK.nil
theorem ZrL (x : ZbH.D) : Z4j.lp 0 x = none := by kernel_rfl
theorem ZpP (k : Nat) : EOK Try.prog Z5f k Z4j.E (.block 0 (.loop Z8B)) := Z2 T_ok ZlG ZrL Zsz ZsI k
theorem ZxS (k : Nat) (x : Tup Z2x.ps) : Z2x.f (k + 1) x = fnK Z2x Z5f Zbj k x := by kernel_rfl
theorem ZxK (x : Tup Z2x.ps) : Z2x.f 0 x = none := by kernel_rfl
theorem ZwI (k : Nat) : LOK Try.prog Z5f k Zbj := LOK.by [(Z4j.E, .block 0 (.loop Z8B))] (by kernel_rfl) (AllOK.cons (ZpP k) AllOK.nil)
theorem ZkJ (k : Nat) : SoundAt Try.prog k 14 Z2x.E := @Z1 Try.prog Z2x Z5f 14 Try.f14 Zbj (by kernel_rfl) (by kernel_rfl) (by kernel_rfl) Try.func14 (by kernel_rfl) (by kernel_rfl) (by kernel_rfl) T_ok ZlG ZwI ZxK ZxS k
noncomputable def Z7h : List PK := [PK.mk (Ty.int .i64) false none false none]
noncomputable def Zha : List PK := [PK.mk (Ty.pair (Ty.int .i64) (Ty.pair (Ty.int .i64) (Ty.slice (73 : Nat) (Ty.pair (Ty.int .i64) (Ty.int .i64))))) true (some ((2 : Nat), (73 : Nat), Ty.pair (Ty.int .i64) (Ty.int .i64))) false none, PK.mk (Ty.int .i64) false none false none]
noncomputable def Zge (r : Int × List (Int × Int)) : Tup Z7h × OutD := ((r.1, ()), some ⟨Ty.pair (Ty.int .i64) (Ty.int .i64), r.2⟩)
noncomputable def ZbR : Tup Z7h × OutD → Option (Int × List (Int × Int))
 | (a, some ⟨u, ys⟩) => if h : u = Ty.pair (Ty.int .i64) (Ty.int .i64) then some (a.1, castU h ys) else none
 | _ => none
theorem Zms : ∀ b r, ZbR b = some r → Zge r = b := by
 rintro ⟨a, o⟩ r h
 cases o with
 | none => cases h
 | some s =>
  obtain ⟨u, ys⟩ := s
  simp only [ZbR] at h
  split at h
  ·rename_i hu; subst hu; injection h with h; subst h; rfl
  ·cases h
noncomputable def Z7e : Nat → Int × Int × List (Int × Int) → Int → Option (Int × List (Int × Int))
 | 0, _, _ => none
 | k + 1, p0, p1 =>
  Option.bind (ZcM k p0.2.2 p1) fun z0 => some (Prod.fst z0, Prod.snd z0)
noncomputable def Z1n : FnDef := .of Zha Z7h (Int × List (Int × Int)) (fun k x => Z7e k x.1 x.2.1) Zge ZbR Zms
noncomputable def ZcW : Code := Try.f15.body.getD .skip
noncomputable def Z9K : Ctx (Tup Z7h × OutD) := { T := T, G := [(48, Z2d.E)], mvs := [], no := 1, n := 10, res := resOf T Zha Z7h Try.f15.results.toList, loops := [], regs := [], conds := [], cuts := [] }
theorem Ztx (k : Nat) : EnvOK Try.prog k Z9K.G := (EnvOK.cons (Zuk k) (EnvOK.nil mixed))
theorem Zts (k : Nat) (x : Tup Z1n.ps) : Z1n.f (k + 1) x = fnK Z1n Z9K ZcW k x := by kernel_rfl
theorem ZtG (x : Tup Z1n.ps) : Z1n.f 0 x = none := by kernel_rfl
theorem ZtV (k : Nat) : LOK Try.prog Z9K k ZcW := LOK.by [] (by kernel_rfl) AllOK.nil
theorem ZhE (k : Nat) : SoundAt Try.prog k 15 Z1n.E := @Z1 Try.prog Z1n Z9K 15 Try.f15 ZcW (by kernel_rfl) (by kernel_rfl) (by kernel_rfl) Try.func15 (by kernel_rfl) (by kernel_rfl) (by kernel_rfl) T_ok Ztx ZtV ZtG Zts k
noncomputable def Z57 : List PK := [PK.mk (Ty.int .i64) false none false none]
noncomputable def Zir : List PK := [PK.mk (Ty.slice (28 : Nat) (Ty.slice (3 : Nat) (Ty.int .i64))) false (some ((0 : Nat), (28 : Nat), Ty.slice (3 : Nat) (Ty.int .i64))) false none, PK.mk (Ty.int .i64) false none false none]
noncomputable def Zgs (r : Int × List (List Int)) : Tup Z57 × OutD := ((r.1, ()), some ⟨Ty.slice (3 : Nat) (Ty.int .i64), r.2⟩)
noncomputable def ZbN : Tup Z57 × OutD → Option (Int × List (List Int))
 | (a, some ⟨u, ys⟩) => if h : u = Ty.slice (3 : Nat) (Ty.int .i64) then some (a.1, castU h ys) else none
 | _ => none
theorem Zmr : ∀ b r, ZbN b = some r → Zgs r = b := by
 rintro ⟨a, o⟩ r h
 cases o with
 | none => cases h
 | some s =>
  obtain ⟨u, ys⟩ := s
  simp only [ZbN] at h
  split at h
  ·rename_i hu; subst hu; injection h with h; subst h; rfl
  ·cases h
noncomputable def Z3u : Nat → List (List Int) → Int → Int → Option (List (List Int) × Int)
 | 0, _, _, _ => none
 | k + 1, o1, v1, v5 =>
  if decide (v5 < (↑(List.length o1) : Int)) = true then if (0 : Int) ≤ v5 then if v5 < (↑(List.length o1) : Int) then Option.bind (readArgsI (St.mk [TV.sv (SV.at (At.sl (1 : Nat))), TV.sv (SV.at (At.int IntKind.i64 v1)), TV.sv (SV.at At.un), TV.sv (SV.at At.un), TV.sv (SV.at At.un), TV.sv (SV.at (At.int IntKind.i64 v5)), TV.sv (SV.at (At.int IntKind.i64 v5)), TV.sv (SV.at (At.sl (1 : Nat))), TV.sv (SV.at (At.int IntKind.i64 (↑(List.length o1) : Int))), TV.sv (SV.at (At.bool true)), TV.sv (SV.at At.un), TV.sv (SV.at At.un), TV.sv (SV.at (At.sl (1 : Nat))), TV.sv (SV.at (At.int IntKind.i64 v5)), TV.sv (SV.at (At.ep (1 : Nat) (Ty.slice (3 : Nat) (Ty.int .i64)) v5 (0 : Nat))), TV.sv (SV.at (At.inn (1 : Nat) v5)), TV.sv (SV.at (At.int IntKind.i64 v1)), TV.sv (SV.at At.un), TV.sv (SV.at At.un)] [Ob.ro, Ob.row false (28 : Nat) (Ty.slice (3 : Nat) (Ty.int .i64)) o1]) (1 : Nat) v5 (3 : Nat) (Ty.int .i64) (CallE.ps (FnDef.E ZM)) (List.map (St.ev (St.mk [TV.sv (SV.at (At.sl (1 : Nat))), TV.sv (SV.at (At.int IntKind.i64 v1)), TV.sv (SV.at At.un), TV.sv (SV.at At.un), TV.sv (SV.at At.un), TV.sv (SV.at (At.int IntKind.i64 v5)), TV.sv (SV.at (At.int IntKind.i64 v5)), TV.sv (SV.at (At.sl (1 : Nat))), TV.sv (SV.at (At.int IntKind.i64 (↑(List.length o1) : Int))), TV.sv (SV.at (At.bool true)), TV.sv (SV.at At.un), TV.sv (SV.at At.un), TV.sv (SV.at (At.sl (1 : Nat))), TV.sv (SV.at (At.int IntKind.i64 v5)), TV.sv (SV.at (At.ep (1 : Nat) (Ty.slice (3 : Nat) (Ty.int .i64)) v5 (0 : Nat))), TV.sv (SV.at (At.inn (1 : Nat) v5)), TV.sv (SV.at (At.int IntKind.i64 v1)), TV.sv (SV.at At.un), TV.sv (SV.at At.un)] [Ob.ro, Ob.row false (28 : Nat) (Ty.slice (3 : Nat) (Ty.int .i64)) o1])) (Array.toList (Call.args (Call.mk (Callee.value (Operand.func (17 : Nat))) #[Operand.tmp (15 : Nat), Operand.tmp (16 : Nat)] #[(28 : Nat), (3 : Nat)]))))) fun z0 => Option.bind (Z7Y k z0.1 z0.2.1) fun z1 => Z3u k (List.set o1 (Int.toNat v5) z1.2) z1.1 (wrap64 (v5 + (1 : Int))) else none else none else some (o1, v1)
noncomputable def Za9 : Spec := Spec.mk [OSh.ro, OSh.row false (28 : Nat) (Ty.slice (3 : Nat) (Ty.int .i64))] [((0 : Nat), TSh.at (Sh.sl (1 : Nat))), ((1 : Nat), TSh.at (Sh.int .i64)), ((5 : Nat), TSh.at (Sh.int .i64))]
noncomputable def ZoE : Spec := Spec.mk [OSh.ro, OSh.row false (28 : Nat) (Ty.slice (3 : Nat) (Ty.int .i64))] [((1 : Nat), TSh.at (Sh.int .i64))]
noncomputable def Z2T : LoopDef (Tup Z57 × OutD) := .plain Za9 ZoE (List (List Int) × Int) (fun k x => Z3u k x.1.2.1 x.2.2.1 x.2.2.2.1) (fun z => (((), z.1, ()), (z.2, ()))) (fun y => (y.1.2.1, y.2.1)) (fun _ => rfl)
noncomputable def Z9n : Nat → List (List Int) → Int → Option (Int × List (List Int))
 | 0, _, _ => none
 | k + 1, p0, p1 =>
  Option.bind (Z3u k p0 p1 (0 : Int)) fun z2 => some (Prod.snd z2, Prod.fst z2)
noncomputable def Z1q : FnDef := .of Zir Z57 (Int × List (List Int)) (fun k x => Z9n k x.1 x.2.1) Zgs ZbN Zmr
noncomputable def Z9C : Code := Try.f16.body.getD .skip
noncomputable def Z3f : Ctx (Tup Z57 × OutD) := { T := T, G := [(17, ZM.E)], mvs := [], no := 1, n := 19, res := resOf T Zir Z57 Try.f16.results.toList, loops := [(0, Z2T.E)], regs := [], conds := [], cuts := [] }
theorem Zii (k : Nat) : EnvOK Try.prog k Z3f.G := (EnvOK.cons (ZdY k) (EnvOK.nil mixed))
noncomputable def Z7r : Code := (findLoop 0 Z9C).getD .skip
theorem Zpo (k : Nat) (x : Za9.D) : Z2T.lp (k + 1) x = loopK Z3f Z2T 0 Z7r k x := by kernel_rfl
theorem Zoy (k : Nat) : LOK Try.prog Z3f k Z7r := LOK.by [] (by kernel_rfl) AllOK.nil
theorem Zoq (x : Za9.D) : Z2T.lp 0 x = none := by kernel_rfl
theorem ZmI (k : Nat) : EOK Try.prog Z3f k Z2T.E (.block 0 (.loop Z7r)) := Z2 T_ok Zii Zoq Zpo Zoy k
theorem Ztz (k : Nat) (x : Tup Z1q.ps) : Z1q.f (k + 1) x = fnK Z1q Z3f Z9C k x := by kernel_rfl
theorem ZuO (x : Tup Z1q.ps) : Z1q.f 0 x = none := by kernel_rfl
theorem Ztw (k : Nat) : LOK Try.prog Z3f k Z9C := LOK.by [(Z2T.E, .block 0 (.loop Z7r))] (by kernel_rfl) (AllOK.cons (ZmI k) AllOK.nil)
theorem ZhN (k : Nat) : SoundAt Try.prog k 16 Z1q.E := @Z1 Try.prog Z1q Z3f 16 Try.f16 Z9C (by kernel_rfl) (by kernel_rfl) (by kernel_rfl) Try.func16 (by kernel_rfl) (by kernel_rfl) (by kernel_rfl) T_ok Zii Ztw ZuO Ztz k
noncomputable def Z71 : List PK := [PK.mk (Ty.slice (73 : Nat) (Ty.pair (Ty.int .i64) (Ty.int .i64))) false none false none]
noncomputable def Zl5 : List PK := [PK.mk (Ty.slice (75 : Nat) (Ty.pair (Ty.int .i64) (Ty.int .i64))) false none false none]
noncomputable def ZiK (r : List (Int × Int)) : Tup Z71 × OutD := ((r, ()), none)
noncomputable def Zju : Tup Z71 × OutD → Option (List (Int × Int))
 | (a, none) => some (a.1)
 | _ => none
theorem Zq6 : ∀ b r, Zju b = some r → ZiK r = b := by
 rintro ⟨a, o⟩ r h
 cases o with
 | none => injection h with h; subst h; rfl
 | some _ => cases h
noncomputable def Z4V : Nat → List (Int × Int) → List (Int × Int) → Int → Option (List (Int × Int))
 | 0, _, _, _ => none
 | k + 1, o1, v0, v4 =>
  if decide (v4 < (↑(List.length v0) : Int)) = true then if (0 : Int) ≤ v4 then if v4 < (↑(List.length v0) : Int) then Option.bind (ZfE k (Prod.fst (List.getD v0 (Int.toNat v4) ((0 : Int), (0 : Int))), Prod.snd (List.getD v0 (Int.toNat v4) ((0 : Int), (0 : Int))))) fun z0 => if (0 : Int) ≤ v4 then if v4 < (↑(List.length o1) : Int) then Z4V k (List.set o1 (Int.toNat v4) (Prod.fst z0, Prod.snd z0)) v0 (wrap64 (v4 + (1 : Int))) else none else none else none else none else some o1
noncomputable def ZbE : Spec := Spec.mk [OSh.ro, OSh.row true (73 : Nat) (Ty.pair (Ty.int .i64) (Ty.int .i64))] [((0 : Nat), TSh.at (Sh.snap (0 : Nat) (Ty.pair (Ty.int .i64) (Ty.int .i64)))), ((3 : Nat), TSh.at (Sh.sl (1 : Nat))), ((4 : Nat), TSh.at (Sh.int .i64))]
noncomputable def Zs4 : Spec := Spec.mk [OSh.ro, OSh.row true (73 : Nat) (Ty.pair (Ty.int .i64) (Ty.int .i64))] [((3 : Nat), TSh.at (Sh.sl (1 : Nat)))]
noncomputable def Z46 : LoopDef (Tup Z71 × OutD) := .plain ZbE Zs4 (List (Int × Int)) (fun k x => Z4V k x.1.2.1 x.2.1 x.2.2.2.1) (fun z => (((), z, ()), ((), ()))) (fun y => (y.1.2.1)) (fun _ => rfl)
noncomputable def Zbn : Nat → List (Int × Int) → Option (List (Int × Int))
 | 0, _ => none
 | k + 1, p0 =>
  if Int.toNat (↑(List.length p0) : Int) * (16 : Nat) ≤ (281474976710656 : Nat) then Option.bind (Z4V k (List.replicate (Int.toNat (↑(List.length p0) : Int)) ((0 : Int), (0 : Int))) p0 (0 : Int)) fun z1 => some z1 else none
noncomputable def Z3D : FnDef := .of Zl5 Z71 (List (Int × Int)) (fun k x => Zbn k x.1) ZiK Zju Zq6
noncomputable def Zb9 : Code := Try.f39.body.getD .skip
noncomputable def Z4T : Ctx (Tup Z71 × OutD) := { T := T, G := [(60, Z4y.E)], mvs := [], no := 0, n := 23, res := resOf T Zl5 Z71 Try.f39.results.toList, loops := [(0, Z46.E)], regs := [], conds := [], cuts := [] }
theorem ZkC (k : Nat) : EnvOK Try.prog k Z4T.G := (EnvOK.cons (Zyl k) (EnvOK.nil mixed))
noncomputable def Z8A : Code := (findLoop 0 Zb9).getD .skip
theorem ZsK (k : Nat) (x : ZbE.D) : Z46.lp (k + 1) x = loopK Z4T Z46 0 Z8A k x := by kernel_rfl
theorem ZsU (k : Nat) : LOK Try.prog Z4T k Z8A := LOK.by [] (by kernel_rfl) AllOK.nil
theorem Zs1 (x : ZbE.D) : Z46.lp 0 x = none := by kernel_rfl
theorem ZqT (k : Nat) : EOK Try.prog Z4T k Z46.E (.block 0 (.loop Z8A)) := Z2 T_ok ZkC Zs1 ZsK ZsU k
theorem Zxc (k : Nat) (x : Tup Z3D.ps) : Z3D.f (k + 1) x = fnK Z3D Z4T Zb9 k x := by kernel_rfl
theorem ZxN (x : Tup Z3D.ps) : Z3D.f 0 x = none := by kernel_rfl
theorem Zxm (k : Nat) : LOK Try.prog Z4T k Zb9 := LOK.by [(Z46.E, .block 0 (.loop Z8A))] (by kernel_rfl) (AllOK.cons (ZqT k) AllOK.nil)
theorem ZxT (k : Nat) : SoundAt Try.prog k 39 Z3D.E := @Z1 Try.prog Z3D Z4T 39 Try.f39 Zb9 (by kernel_rfl) (by kernel_rfl) (by kernel_rfl) Try.func39 (by kernel_rfl) (by kernel_rfl) (by kernel_rfl) T_ok ZkC Zxm ZxN Zxc k
noncomputable def Z6S : List PK := [PK.mk Ty.bool false none false none]
noncomputable def Zl9 : List PK := [PK.mk (Ty.slice (73 : Nat) (Ty.pair (Ty.int .i64) (Ty.int .i64))) false none false none, PK.mk (Ty.slice (73 : Nat) (Ty.pair (Ty.int .i64) (Ty.int .i64))) false none false none]
noncomputable def Zdr (r : Bool) : Tup Z6S × OutD := ((r, ()), none)
noncomputable def ZdH : Tup Z6S × OutD → Option (Bool)
 | (a, none) => some (a.1)
 | _ => none
theorem Zfx : ∀ b r, ZdH b = some r → Zdr r = b := by
 rintro ⟨a, o⟩ r h
 cases o with
 | none => injection h with h; subst h; rfl
 | some _ => cases h
noncomputable def Z4M : Nat → List (Int × Int) → List (Int × Int) → Int → Option (LR Unit Bool)
 | 0, _, _, _ => none
 | k + 1, v0, v1, v5 =>
  if decide (v5 < (↑(List.length v0) : Int)) = true then if (0 : Int) ≤ v5 then if v5 < (↑(List.length v0) : Int) then if (0 : Int) ≤ v5 then if v5 < (↑(List.length v1) : Int) then Option.bind (Zcq k (Prod.fst (List.getD v0 (Int.toNat v5) ((0 : Int), (0 : Int))), Prod.snd (List.getD v0 (Int.toNat v5) ((0 : Int), (0 : Int)))) (Prod.fst (List.getD v1 (Int.toNat v5) ((0 : Int), (0 : Int))), Prod.snd (List.getD v1 (Int.toNat v5) ((0 : Int), (0 : Int))))) fun z0 => if (!z0) = true then some (LR.ret false) else Z4M k v0 v1 (wrap64 (v5 + (1 : Int))) else none else none else none else none else some (LR.go ())
noncomputable def ZbW : Spec := Spec.mk [OSh.ro] [((0 : Nat), TSh.at (Sh.snap (0 : Nat) (Ty.pair (Ty.int .i64) (Ty.int .i64)))), ((1 : Nat), TSh.at (Sh.snap (0 : Nat) (Ty.pair (Ty.int .i64) (Ty.int .i64)))), ((5 : Nat), TSh.at (Sh.int .i64))]
noncomputable def Zsb : Spec := Spec.mk [OSh.ro] []
noncomputable def Z4o : LoopDef (Tup Z6S × OutD) := .rets ZbW Zsb (Unit) (Bool) (fun k x => Z4M k x.2.1 x.2.2.1 x.2.2.2.1) (fun z => (((), ()), (()))) (fun y => ()) (fun _ => rfl) Zdr ZdH Zfx
noncomputable def Zbu : Nat → List (Int × Int) → List (Int × Int) → Option Bool
 | 0, _, _ => none
 | k + 1, p0, p1 =>
  if decide ((↑(List.length p0) : Int) ≠ (↑(List.length p1) : Int)) = true then some false else Option.bind (Z4M k p0 p1 (0 : Int)) fun z1 => LR.on z1 (fun y1 => some true) fun r1 => some r1
noncomputable def Z3M : FnDef := .of Zl9 Z6S (Bool) (fun k x => Zbu k x.1 x.2.1) Zdr ZdH Zfx
noncomputable def Zbm : Code := Try.f47.body.getD .skip
noncomputable def Z4Q : Ctx (Tup Z6S × OutD) := { T := T, G := [(67, Z4B.E)], mvs := [], no := 0, n := 27, res := resOf T Zl9 Z6S Try.f47.results.toList, loops := [(0, Z4o.E)], regs := [], conds := [], cuts := [] }
theorem ZlR (k : Nat) : EnvOK Try.prog k Z4Q.G := (EnvOK.cons (Zz3 k) (EnvOK.nil mixed))
noncomputable def Z8o : Code := (findLoop 0 Zbm).getD .skip
theorem Zsd (k : Nat) (x : ZbW.D) : Z4o.lp (k + 1) x = loopK Z4Q Z4o 0 Z8o k x := by kernel_rfl
theorem ZrY (k : Nat) : LOK Try.prog Z4Q k Z8o := LOK.by [] (by kernel_rfl) AllOK.nil
theorem Zs2 (x : ZbW.D) : Z4o.lp 0 x = none := by kernel_rfl
theorem Zqd (k : Nat) : EOK Try.prog Z4Q k Z4o.E (.block 0 (.loop Z8o)) := Z2 T_ok ZlR Zs2 Zsd ZrY k
theorem ZwU (k : Nat) (x : Tup Z3M.ps) : Z3M.f (k + 1) x = fnK Z3M Z4Q Zbm k x := by kernel_rfl
theorem Zxz (x : Tup Z3M.ps) : Z3M.f 0 x = none := by kernel_rfl
theorem ZxQ (k : Nat) : LOK Try.prog Z4Q k Zbm := LOK.by [(Z4o.E, .block 0 (.loop Z8o))] (by kernel_rfl) (AllOK.cons (Zqd k) AllOK.nil)
theorem ZwV (k : Nat) : SoundAt Try.prog k 47 Z3M.E := @Z1 Try.prog Z3M Z4Q 47 Try.f47 Zbm (by kernel_rfl) (by kernel_rfl) (by kernel_rfl) Try.func47 (by kernel_rfl) (by kernel_rfl) (by kernel_rfl) T_ok ZlR ZxQ Zxz ZwU k
noncomputable def Z2L : List PK := [PK.mk (Ty.slice (3 : Nat) (Ty.int .i64)) false none false none]
noncomputable def Zgy : List PK := [PK.mk (Ty.slice (28 : Nat) (Ty.slice (3 : Nat) (Ty.int .i64))) false none false none, PK.mk (Ty.slice (3 : Nat) (Ty.int .i64)) false none false none]
noncomputable def Zfh (r : List Int) : Tup Z2L × OutD := ((r, ()), none)
noncomputable def Zfp : Tup Z2L × OutD → Option (List Int)
 | (a, none) => some (a.1)
 | _ => none
theorem ZlA : ∀ b r, Zfp b = some r → Zfh r = b := by
 rintro ⟨a, o⟩ r h
 cases o with
 | none => injection h with h; subst h; rfl
 | some _ => cases h
noncomputable def Z1P : Nat → List Int → List Int → Int → List Int → List (List Int) → Int → Int → List Int → Int → Int → Option (List Int × List Int × List (List Int) × Int × Int)
 | 0, _, _, _, _, _, _, _, _, _, _ => none
 | k + 1, o1, v1, v6, v7, v10, v11, v12, v17, v18, v19 =>
  if decide (v19 < v18) = true then if (0 : Int) ≤ v19 then if v19 < (↑(List.length v17) : Int) then if (0 : Int) ≤ List.getD v17 (Int.toNat v19) (0 : Int) then if List.getD v17 (Int.toNat v19) (0 : Int) < (↑(List.length v7) : Int) then if decide (List.getD v7 (Int.toNat (List.getD v17 (Int.toNat v19) (0 : Int))) (0 : Int) ≠ (0 : Int)) = true then Option.bind (Ze3 k o1 (wrap64 (v6 - (1 : Int)))) fun z0 => Z1P k z0 v1 v6 v7 v10 v11 v12 v17 v18 (wrap64 (v19 + (1 : Int))) else Z1P k o1 v1 v6 v7 v10 v11 v12 v17 v18 (wrap64 (v19 + (1 : Int))) else none else none else none else none else some (o1, v1, v10, v11, v12)
noncomputable def Z9B : Spec := Spec.mk [OSh.ro, OSh.row true (3 : Nat) (Ty.int .i64)] [((1 : Nat), TSh.at (Sh.snap (0 : Nat) (Ty.int .i64))), ((5 : Nat), TSh.at (Sh.sl (1 : Nat))), ((6 : Nat), TSh.at (Sh.int .i64)), ((7 : Nat), TSh.at (Sh.snap (0 : Nat) (Ty.int .i64))), ((10 : Nat), TSh.at (Sh.snap (0 : Nat) (Ty.slice (3 : Nat) (Ty.int .i64)))), ((11 : Nat), TSh.at (Sh.int .i64)), ((12 : Nat), TSh.at (Sh.int .i64)), ((17 : Nat), TSh.at (Sh.snap (0 : Nat) (Ty.int .i64))), ((18 : Nat), TSh.at (Sh.int .i64)), ((19 : Nat), TSh.at (Sh.int .i64))]
noncomputable def Znv : Spec := Spec.mk [OSh.ro, OSh.row true (3 : Nat) (Ty.int .i64)] [((1 : Nat), TSh.at (Sh.snap (0 : Nat) (Ty.int .i64))), ((5 : Nat), TSh.at (Sh.sl (1 : Nat))), ((10 : Nat), TSh.at (Sh.snap (0 : Nat) (Ty.slice (3 : Nat) (Ty.int .i64)))), ((11 : Nat), TSh.at (Sh.int .i64)), ((12 : Nat), TSh.at (Sh.int .i64))]
noncomputable def Z2B : LoopDef (Tup Z2L × OutD) := .plain Z9B Znv (List Int × List Int × List (List Int) × Int × Int) (fun k x => Z1P k x.1.2.1 x.2.1 x.2.2.2.1 x.2.2.2.2.1 x.2.2.2.2.2.1 x.2.2.2.2.2.2.1 x.2.2.2.2.2.2.2.1 x.2.2.2.2.2.2.2.2.1 x.2.2.2.2.2.2.2.2.2.1 x.2.2.2.2.2.2.2.2.2.2.1) (fun z => (((), z.1, ()), (z.2.1, (), z.2.2.1, z.2.2.2.1, z.2.2.2.2, ()))) (fun y => (y.1.2.1, y.2.1, y.2.2.2.1, y.2.2.2.2.1, y.2.2.2.2.2.1)) (fun _ => rfl)
noncomputable def Z2V : Nat → List Int → List Int → List (List Int) → Int → Int → Option (List Int)
 | 0, _, _, _, _, _ => none
 | k + 1, o1, v1, v10, v11, v12 =>
  if decide (v12 < v11) = true then if (0 : Int) ≤ v12 then if v12 < (↑(List.length v10) : Int) then Option.bind (Z1P k o1 v1 v12 (List.getD v10 (Int.toNat v12) []) v10 v11 v12 v1 (↑(List.length v1) : Int) (0 : Int)) fun z1 => Z2V k z1.1 z1.2.1 z1.2.2.1 z1.2.2.2.1 (wrap64 (Prod.snd z1.2.2.2 + (1 : Int))) else none else none else some o1
noncomputable def Z99 : Spec := Spec.mk [OSh.ro, OSh.row true (3 : Nat) (Ty.int .i64)] [((1 : Nat), TSh.at (Sh.snap (0 : Nat) (Ty.int .i64))), ((5 : Nat), TSh.at (Sh.sl (1 : Nat))), ((10 : Nat), TSh.at (Sh.snap (0 : Nat) (Ty.slice (3 : Nat) (Ty.int .i64)))), ((11 : Nat), TSh.at (Sh.int .i64)), ((12 : Nat), TSh.at (Sh.int .i64))]
noncomputable def Znh : Spec := Spec.mk [OSh.ro, OSh.row true (3 : Nat) (Ty.int .i64)] [((5 : Nat), TSh.at (Sh.sl (1 : Nat)))]
noncomputable def Z2w : LoopDef (Tup Z2L × OutD) := .plain Z99 Znh (List Int) (fun k x => Z2V k x.1.2.1 x.2.1 x.2.2.2.1 x.2.2.2.2.1 x.2.2.2.2.2.1) (fun z => (((), z, ()), ((), ()))) (fun y => (y.1.2.1)) (fun _ => rfl)
noncomputable def Z6s : Nat → List (List Int) → List Int → Option (List Int)
 | 0, _, _ => none
 | k + 1, p0, p1 =>
  Option.bind (Z2V k [] p1 p0 (↑(List.length p0) : Int) (0 : Int)) fun z2 => some z2
noncomputable def Z1G : FnDef := .of Zgy Z2L (List Int) (fun k x => Z6s k x.1 x.2.1) Zfh Zfp ZlA
noncomputable def Z6r : Code := Try.f49.body.getD .skip
noncomputable def ZI : Ctx (Tup Z2L × OutD) := { T := T, G := [(68, Z5K.E)], mvs := [], no := 0, n := 35, res := resOf T Zgy Z2L Try.f49.results.toList, loops := [(2, Z2B.E), (0, Z2w.E)], regs := [], conds := [], cuts := [] }
theorem ZbC (k : Nat) : EnvOK Try.prog k ZI.G := (EnvOK.cons (ZzV k) (EnvOK.nil mixed))
noncomputable def Z6x : Code := (findLoop 2 Z6r).getD .skip
theorem ZmJ (k : Nat) (x : Z9B.D) : Z2B.lp (k + 1) x = loopK ZI Z2B 2 Z6x k x := by kernel_rfl
theorem Znj (k : Nat) : LOK Try.prog ZI k Z6x := LOK.by [] (by kernel_rfl) AllOK.nil
theorem Znp (x : Z9B.D) : Z2B.lp 0 x = none := by kernel_rfl
theorem ZlB (k : Nat) : EOK Try.prog ZI k Z2B.E (.block 2 (.loop Z6x)) := Z2 T_ok ZbC Znp ZmJ Znj k
noncomputable def Z6z : Code := (findLoop 0 Z6r).getD .skip
theorem Znm (k : Nat) (x : Z99.D) : Z2w.lp (k + 1) x = loopK ZI Z2w 0 Z6z k x := by kernel_rfl
theorem ZmD (k : Nat) : LOK Try.prog ZI k Z6z := LOK.by [(Z2B.E, .block 2 (.loop Z6x))] (by kernel_rfl) (AllOK.cons (ZlB k) AllOK.nil)
theorem ZmN (x : Z99.D) : Z2w.lp 0 x = none := by kernel_rfl
theorem Zlj (k : Nat) : EOK Try.prog ZI k Z2w.E (.block 0 (.loop Z6z)) := Z2 T_ok ZbC ZmN Znm ZmD k
theorem ZrC (k : Nat) (x : Tup Z1G.ps) : Z1G.f (k + 1) x = fnK Z1G ZI Z6r k x := by kernel_rfl
theorem ZsX (x : Tup Z1G.ps) : Z1G.f 0 x = none := by kernel_rfl
theorem ZrM (k : Nat) : LOK Try.prog ZI k Z6r := LOK.by [(Z2w.E, .block 0 (.loop Z6z))] (by kernel_rfl) (AllOK.cons (Zlj k) AllOK.nil)
theorem Zsx (k : Nat) : SoundAt Try.prog k 49 Z1G.E := @Z1 Try.prog Z1G ZI 49 Try.f49 Z6r (by kernel_rfl) (by kernel_rfl) (by kernel_rfl) Try.func49 (by kernel_rfl) (by kernel_rfl) (by kernel_rfl) T_ok ZbC ZrM ZsX ZrC k
noncomputable def Z6L : List PK := [PK.mk Ty.bool false none false none]
noncomputable def Zm7 : List PK := [PK.mk (Ty.slice (71 : Nat) (Ty.slice (94 : Nat) (Ty.pair (Ty.int .i64) (Ty.pair (Ty.int .i64) (Ty.int .i64))))) false none false none, PK.mk (Ty.slice (71 : Nat) (Ty.slice (94 : Nat) (Ty.pair (Ty.int .i64) (Ty.pair (Ty.int .i64) (Ty.int .i64))))) false none false none, PK.mk (Ty.slice (3 : Nat) (Ty.int .i64)) false none false none]
noncomputable def ZdW (r : Bool) : Tup Z6L × OutD := ((r, ()), none)
noncomputable def Zec : Tup Z6L × OutD → Option (Bool)
 | (a, none) => some (a.1)
 | _ => none
theorem Zfm : ∀ b r, Zec b = some r → ZdW r = b := by
 rintro ⟨a, o⟩ r h
 cases o with
 | none => injection h with h; subst h; rfl
 | some _ => cases h
noncomputable def Z51 : Nat → List (List (Int × Int × Int)) → List (List (Int × Int × Int)) → List Int → Int → Int → Option (LR Unit Bool)
 | 0, _, _, _, _, _ => none
 | k + 1, v0, v1, v9, v10, v11 =>
  if decide (v11 < v10) = true then if (0 : Int) ≤ v11 then if v11 < (↑(List.length v9) : Int) then if (0 : Int) ≤ List.getD v9 (Int.toNat v11) (0 : Int) then if List.getD v9 (Int.toNat v11) (0 : Int) < (↑(List.length v0) : Int) then if (0 : Int) ≤ List.getD v9 (Int.toNat v11) (0 : Int) then if List.getD v9 (Int.toNat v11) (0 : Int) < (↑(List.length v1) : Int) then Option.bind (Z12 k (List.getD v0 (Int.toNat (List.getD v9 (Int.toNat v11) (0 : Int))) []) (List.getD v1 (Int.toNat (List.getD v9 (Int.toNat v11) (0 : Int))) [])) fun z0 => if (!z0) = true then some (LR.ret false) else Z51 k v0 v1 v9 v10 (wrap64 (v11 + (1 : Int))) else none else none else none else none else none else none else some (LR.go ())
noncomputable def ZbV : Spec := Spec.mk [OSh.ro] [((0 : Nat), TSh.at (Sh.snap (0 : Nat) (Ty.slice (94 : Nat) (Ty.pair (Ty.int .i64) (Ty.pair (Ty.int .i64) (Ty.int .i64)))))), ((1 : Nat), TSh.at (Sh.snap (0 : Nat) (Ty.slice (94 : Nat) (Ty.pair (Ty.int .i64) (Ty.pair (Ty.int .i64) (Ty.int .i64)))))), ((9 : Nat), TSh.at (Sh.snap (0 : Nat) (Ty.int .i64))), ((10 : Nat), TSh.at (Sh.int .i64)), ((11 : Nat), TSh.at (Sh.int .i64))]
noncomputable def ZsS : Spec := Spec.mk [OSh.ro] []
noncomputable def Z4h : LoopDef (Tup Z6L × OutD) := .rets ZbV ZsS (Unit) (Bool) (fun k x => Z51 k x.2.1 x.2.2.1 x.2.2.2.1 x.2.2.2.2.1 x.2.2.2.2.2.1) (fun z => (((), ()), (()))) (fun y => ()) (fun _ => rfl) ZdW Zec Zfm
noncomputable def Z8T : Nat → List (List (Int × Int × Int)) → List (List (Int × Int × Int)) → List Int → Option Bool
 | 0, _, _, _ => none
 | k + 1, p0, p1, p2 =>
  Option.bind (Z51 k p0 p1 p2 (↑(List.length p2) : Int) (0 : Int)) fun z1 => LR.on z1 (fun y1 => some true) fun r1 => some r1
noncomputable def Z2G : FnDef := .of Zm7 Z6L (Bool) (fun k x => Z8T k x.1 x.2.1 x.2.2.1) ZdW Zec Zfm
noncomputable def Zba : Code := Try.f65.body.getD .skip
noncomputable def Z5j : Ctx (Tup Z6L × OutD) := { T := T, G := [(78, Z9.E)], mvs := [], no := 0, n := 26, res := resOf T Zm7 Z6L Try.f65.results.toList, loops := [(0, Z4h.E)], regs := [], conds := [], cuts := [] }
theorem Zme (k : Nat) : EnvOK Try.prog k Z5j.G := (EnvOK.cons (ZbQ k) (EnvOK.nil mixed))
noncomputable def Z8u : Code := (findLoop 0 Zba).getD .skip
theorem Zs7 (k : Nat) (x : ZbV.D) : Z4h.lp (k + 1) x = loopK Z5j Z4h 0 Z8u k x := by kernel_rfl
theorem ZrZ (k : Nat) : LOK Try.prog Z5j k Z8u := LOK.by [] (by kernel_rfl) AllOK.nil
theorem Zsp (x : ZbV.D) : Z4h.lp 0 x = none := by kernel_rfl
theorem ZpQ (k : Nat) : EOK Try.prog Z5j k Z4h.E (.block 0 (.loop Z8u)) := Z2 T_ok Zme Zsp Zs7 ZrZ k
theorem ZwC (k : Nat) (x : Tup Z2G.ps) : Z2G.f (k + 1) x = fnK Z2G Z5j Zba k x := by kernel_rfl
theorem ZwQ (x : Tup Z2G.ps) : Z2G.f 0 x = none := by kernel_rfl
theorem ZxH (k : Nat) : LOK Try.prog Z5j k Zba := LOK.by [(Z4h.E, .block 0 (.loop Z8u))] (by kernel_rfl) (AllOK.cons (ZpQ k) AllOK.nil)
theorem ZlJ (k : Nat) : SoundAt Try.prog k 65 Z2G.E := @Z1 Try.prog Z2G Z5j 65 Try.f65 Zba (by kernel_rfl) (by kernel_rfl) (by kernel_rfl) Try.func65 (by kernel_rfl) (by kernel_rfl) (by kernel_rfl) T_ok Zme ZxH ZwQ ZwC k
noncomputable def Z8V : List PK := [PK.mk Ty.bool false none false none]
noncomputable def Zqe : List PK := [PK.mk (Ty.slice (3 : Nat) (Ty.int .i64)) false none false none, PK.mk (Ty.int .i64) false none false none, PK.mk (Ty.int .i64) false none false none]
noncomputable def ZfT (r : Bool) : Tup Z8V × OutD := ((r, ()), none)
noncomputable def ZfN : Tup Z8V × OutD → Option (Bool)
 | (a, none) => some (a.1)
 | _ => none
theorem Zhr : ∀ b r, ZfN b = some r → ZfT r = b := by
 rintro ⟨a, o⟩ r h
 cases o with
 | none => injection h with h; subst h; rfl
 | some _ => cases h
noncomputable def Z6R : Nat → Int → Int → List Int → Int → Int → Option (LR Unit Bool)
 | 0, _, _, _, _, _ => none
 | k + 1, v1, v2, v9, v10, v11 =>
  if decide (v11 < v10) = true then if (0 : Int) ≤ v11 then if v11 < (↑(List.length v9) : Int) then Option.bind (Z6I k (List.getD v9 (Int.toNat v11) (0 : Int)) v1 v2) fun z0 => if (!z0) = true then some (LR.ret false) else Z6R k v1 v2 v9 v10 (wrap64 (v11 + (1 : Int))) else none else none else some (LR.go ())
noncomputable def Ze8 : Spec := Spec.mk [OSh.ro] [((1 : Nat), TSh.at (Sh.int .i64)), ((2 : Nat), TSh.at (Sh.int .i64)), ((9 : Nat), TSh.at (Sh.snap (0 : Nat) (Ty.int .i64))), ((10 : Nat), TSh.at (Sh.int .i64)), ((11 : Nat), TSh.at (Sh.int .i64))]
noncomputable def Zvb : Spec := Spec.mk [OSh.ro] []
noncomputable def Z5Z : LoopDef (Tup Z8V × OutD) := .rets Ze8 Zvb (Unit) (Bool) (fun k x => Z6R k x.2.1 x.2.2.1 x.2.2.2.1 x.2.2.2.2.1 x.2.2.2.2.2.1) (fun z => (((), ()), (()))) (fun y => ()) (fun _ => rfl) ZfT ZfN Zhr
noncomputable def Ze9 : Nat → List Int → Int → Int → Option Bool
 | 0, _, _, _ => none
 | k + 1, p0, p1, p2 =>
  Option.bind (Z6R k p1 p2 p0 (↑(List.length p0) : Int) (0 : Int)) fun z1 => LR.on z1 (fun y1 => some true) fun r1 => some r1
noncomputable def Z5J : FnDef := .of Zqe Z8V (Bool) (fun k x => Ze9 k x.1 x.2.1 x.2.2.1) ZfT ZfN Zhr
noncomputable def ZdB : Code := Try.f72.body.getD .skip
noncomputable def Z72 : Ctx (Tup Z8V × OutD) := { T := T, G := [(85, Z3a.E)], mvs := [], no := 0, n := 21, res := resOf T Zqe Z8V Try.f72.results.toList, loops := [(0, Z5Z.E)], regs := [], conds := [], cuts := [] }
theorem Zr0 (k : Nat) : EnvOK Try.prog k Z72.G := (EnvOK.cons (Zf3 k) (EnvOK.nil mixed))
noncomputable def Zap : Code := (findLoop 0 ZdB).getD .skip
theorem Zvg (k : Nat) (x : Ze8.D) : Z5Z.lp (k + 1) x = loopK Z72 Z5Z 0 Zap k x := by kernel_rfl
theorem ZvY (k : Nat) : LOK Try.prog Z72 k Zap := LOK.by [] (by kernel_rfl) AllOK.nil
theorem Zwe (x : Ze8.D) : Z5Z.lp 0 x = none := by kernel_rfl
theorem ZtO (k : Nat) : EOK Try.prog Z72 k Z5Z.E (.block 0 (.loop Zap)) := Z2 T_ok Zr0 Zwe Zvg ZvY k
theorem ZAk (k : Nat) (x : Tup Z5J.ps) : Z5J.f (k + 1) x = fnK Z5J Z72 ZdB k x := by kernel_rfl
theorem ZA8 (x : Tup Z5J.ps) : Z5J.f 0 x = none := by kernel_rfl
theorem ZAA (k : Nat) : LOK Try.prog Z72 k ZdB := LOK.by [(Z5Z.E, .block 0 (.loop Zap))] (by kernel_rfl) (AllOK.cons (ZtO k) AllOK.nil)
theorem ZAv (k : Nat) : SoundAt Try.prog k 72 Z5J.E := @Z1 Try.prog Z5J Z72 72 Try.f72 ZdB (by kernel_rfl) (by kernel_rfl) (by kernel_rfl) Try.func72 (by kernel_rfl) (by kernel_rfl) (by kernel_rfl) T_ok Zr0 ZAA ZA8 ZAk k
noncomputable def Z44 : List PK := [PK.mk Ty.bool false none false none]
noncomputable def ZgL : List PK := [PK.mk (Ty.slice (73 : Nat) (Ty.pair (Ty.int .i64) (Ty.int .i64))) false none false none]
noncomputable def ZaL (r : Bool) : Tup Z44 × OutD := ((r, ()), none)
noncomputable def ZaU : Tup Z44 × OutD → Option (Bool)
 | (a, none) => some (a.1)
 | _ => none
theorem Zdg : ∀ b r, ZaU b = some r → ZaL r = b := by
 rintro ⟨a, o⟩ r h
 cases o with
 | none => injection h with h; subst h; rfl
 | some _ => cases h
noncomputable def Z2Y : Nat → List (Int × Int) → Int → Int → Option (LR Unit Bool)
 | 0, _, _, _ => none
 | k + 1, v8, v9, v10 =>
  if decide (v10 < v9) = true then if (0 : Int) ≤ v10 then if v10 < (↑(List.length v8) : Int) then Option.bind (Z7L k (Prod.fst (List.getD v8 (Int.toNat v10) ((0 : Int), (0 : Int))), Prod.snd (List.getD v8 (Int.toNat v10) ((0 : Int), (0 : Int))))) fun z0 => if (!z0) = true then some (LR.ret false) else Z2Y k v8 v9 (wrap64 (v10 + (1 : Int))) else none else none else some (LR.go ())
noncomputable def Z9k : Spec := Spec.mk [OSh.ro] [((8 : Nat), TSh.at (Sh.snap (0 : Nat) (Ty.pair (Ty.int .i64) (Ty.int .i64)))), ((9 : Nat), TSh.at (Sh.int .i64)), ((10 : Nat), TSh.at (Sh.int .i64))]
noncomputable def ZmH : Spec := Spec.mk [OSh.ro] []
noncomputable def Z2A : LoopDef (Tup Z44 × OutD) := .rets Z9k ZmH (Unit) (Bool) (fun k x => Z2Y k x.2.1 x.2.2.1 x.2.2.2.1) (fun z => (((), ()), (()))) (fun y => ()) (fun _ => rfl) ZaL ZaU Zdg
noncomputable def Z8t : Nat → List (Int × Int) → Option Bool
 | 0, _ => none
 | k + 1, p0 =>
  if decide ((↑(List.length p0) : Int) > (90 : Int)) = true then some false else Option.bind (Z2Y k p0 (↑(List.length p0) : Int) (0 : Int)) fun z1 => LR.on z1 (fun y1 => some true) fun r1 => some r1
noncomputable def Z1F : FnDef := .of ZgL Z44 (Bool) (fun k x => Z8t k x.1) ZaL ZaU Zdg
noncomputable def Z8m : Code := Try.f75.body.getD .skip
noncomputable def Z2O : Ctx (Tup Z44 × OutD) := { T := T, G := [(89, Z2j.E)], mvs := [], no := 0, n := 18, res := resOf T ZgL Z44 Try.f75.results.toList, loops := [(0, Z2A.E)], regs := [], conds := [], cuts := [] }
theorem ZgH (k : Nat) : EnvOK Try.prog k Z2O.G := (EnvOK.cons (ZfO k) (EnvOK.nil mixed))
noncomputable def Z6B : Code := (findLoop 0 Z8m).getD .skip
theorem Zmt (k : Nat) (x : Z9k.D) : Z2A.lp (k + 1) x = loopK Z2O Z2A 0 Z6B k x := by kernel_rfl
theorem Zmx (k : Nat) : LOK Try.prog Z2O k Z6B := LOK.by [] (by kernel_rfl) AllOK.nil
theorem Znw (x : Z9k.D) : Z2A.lp 0 x = none := by kernel_rfl
theorem Zlg (k : Nat) : EOK Try.prog Z2O k Z2A.E (.block 0 (.loop Z6B)) := Z2 T_ok ZgH Znw Zmt Zmx k
theorem ZsB (k : Nat) (x : Tup Z1F.ps) : Z1F.f (k + 1) x = fnK Z1F Z2O Z8m k x := by kernel_rfl
theorem ZrR (x : Tup Z1F.ps) : Z1F.f 0 x = none := by kernel_rfl
theorem Zsy (k : Nat) : LOK Try.prog Z2O k Z8m := LOK.by [(Z2A.E, .block 0 (.loop Z6B))] (by kernel_rfl) (AllOK.cons (Zlg k) AllOK.nil)
theorem ZrF (k : Nat) : SoundAt Try.prog k 75 Z1F.E := @Z1 Try.prog Z1F Z2O 75 Try.f75 Z8m (by kernel_rfl) (by kernel_rfl) (by kernel_rfl) Try.func75 (by kernel_rfl) (by kernel_rfl) (by kernel_rfl) T_ok ZgH Zsy ZrR ZsB k
noncomputable def Z9S : List PK := [PK.mk Ty.bool false none false none]
noncomputable def Znz : List PK := [PK.mk (Ty.pair (Ty.int .i64) (Ty.int .i64)) true none false none]
noncomputable def Zlt (r : Bool) : Tup Z9S × OutD := ((r, ()), none)
noncomputable def ZlO : Tup Z9S × OutD → Option (Bool)
 | (a, none) => some (a.1)
 | _ => none
theorem Zry : ∀ b r, ZlO b = some r → Zlt r = b := by
 rintro ⟨a, o⟩ r h
 cases o with
 | none => injection h with h; subst h; rfl
 | some _ => cases h
noncomputable def Zch : Nat → Int × Int → Option Bool
 | 0, _ => none
 | k + 1, p0 =>
  Option.bind (Z6I k p0.1 (0 : Int) (7 : Int)) fun z0 => if z0 = true then if decide (Prod.snd p0 = (0 : Int)) = true then some true else if decide (Prod.snd p0 = (1 : Int)) = true then Option.bind (Z4Y k (Prod.fst p0, Prod.snd p0)) fun z1 => some z1 else some false else some false
noncomputable def Z4z : FnDef := .of Znz Z9S (Bool) (fun k x => Zch k x.1) Zlt ZlO Zry
noncomputable def ZfL : Code := Try.f86.body.getD .skip
noncomputable def Zcp : Ctx (Tup Z9S × OutD) := { T := T, G := [(85, Z3a.E), (96, Z1m.E)], mvs := [], no := 0, n := 20, res := resOf T Znz Z9S Try.f86.results.toList, loops := [], regs := [], conds := [], cuts := [] }
theorem ZzM (k : Nat) : EnvOK Try.prog k Zcp.G := (EnvOK.cons (Zf3 k) (EnvOK.cons (Zi6 k) (EnvOK.nil mixed)))
theorem Zzn (k : Nat) (x : Tup Z4z.ps) : Z4z.f (k + 1) x = fnK Z4z Zcp ZfL k x := by kernel_rfl
theorem ZyT (x : Tup Z4z.ps) : Z4z.f 0 x = none := by kernel_rfl
theorem ZyS (k : Nat) : LOK Try.prog Zcp k ZfL := LOK.by [] (by kernel_rfl) AllOK.nil
theorem ZyA (k : Nat) : SoundAt Try.prog k 86 Z4z.E := @Z1 Try.prog Z4z Zcp 86 Try.f86 ZfL (by kernel_rfl) (by kernel_rfl) (by kernel_rfl) Try.func86 (by kernel_rfl) (by kernel_rfl) (by kernel_rfl) T_ok ZzM ZyS ZyT Zzn k
noncomputable def Z9W : List PK := [PK.mk Ty.bool false none false none]
noncomputable def ZnP : List PK := [PK.mk (Ty.pair (Ty.int .i64) (Ty.int .i64)) true none false none, PK.mk (Ty.int .i64) false none false none]
noncomputable def ZkK (r : Bool) : Tup Z9W × OutD := ((r, ()), none)
noncomputable def ZkR : Tup Z9W × OutD → Option (Bool)
 | (a, none) => some (a.1)
 | _ => none
theorem ZrS : ∀ b r, ZkR b = some r → ZkK r = b := by
 rintro ⟨a, o⟩ r h
 cases o with
 | none => injection h with h; subst h; rfl
 | some _ => cases h
noncomputable def ZcA : Nat → Int × Int → Int → Option Bool
 | 0, _, _ => none
 | k + 1, p0, p1 =>
  if decide (p1 = (1 : Int)) = true then Option.bind (Z4Y k (Prod.fst p0, Prod.snd p0)) fun z0 => some z0 else if decide (p1 = (2 : Int)) = true then some true else if decide (p1 = (3 : Int)) = true then Option.bind (Z4Y k (Prod.fst p0, Prod.snd p0)) fun z1 => if z1 = true then some true else if decide (Prod.fst p0 = (1 : Int)) = true then some true else some (decide (Prod.fst p0 = (2 : Int))) else some false
noncomputable def Z4r : FnDef := .of ZnP Z9W (Bool) (fun k x => ZcA k x.1 x.2.1) ZkK ZkR ZrS
noncomputable def ZfC : Code := Try.f88.body.getD .skip
noncomputable def ZcB : Ctx (Tup Z9W × OutD) := { T := T, G := [(96, Z1m.E)], mvs := [], no := 0, n := 26, res := resOf T ZnP Z9W Try.f88.results.toList, loops := [], regs := [], conds := [], cuts := [] }
theorem ZzA (k : Nat) : EnvOK Try.prog k ZcB.G := (EnvOK.cons (Zi6 k) (EnvOK.nil mixed))
theorem ZyK (k : Nat) (x : Tup Z4r.ps) : Z4r.f (k + 1) x = fnK Z4r ZcB ZfC k x := by kernel_rfl
theorem ZyG (x : Tup Z4r.ps) : Z4r.f 0 x = none := by kernel_rfl
theorem Zz7 (k : Nat) : LOK Try.prog ZcB k ZfC := LOK.by [] (by kernel_rfl) AllOK.nil
theorem ZzN (k : Nat) : SoundAt Try.prog k 88 Z4r.E := @Z1 Try.prog Z4r ZcB 88 Try.f88 ZfC (by kernel_rfl) (by kernel_rfl) (by kernel_rfl) Try.func88 (by kernel_rfl) (by kernel_rfl) (by kernel_rfl) T_ok ZzA Zz7 ZyG ZyK k
noncomputable def ZA : List PK := [PK.mk (Ty.slice (3 : Nat) (Ty.int .i64)) false none false none]
noncomputable def Zef : List PK := [PK.mk (Ty.pair (Ty.int .i64) (Ty.pair (Ty.int .i64) (Ty.slice (73 : Nat) (Ty.pair (Ty.int .i64) (Ty.int .i64))))) true none false none]
noncomputable def ZdI (r : List Int) : Tup ZA × OutD := ((r, ()), none)
noncomputable def ZdJ : Tup ZA × OutD → Option (List Int)
 | (a, none) => some (a.1)
 | _ => none
theorem Ziy : ∀ b r, ZdJ b = some r → ZdI r = b := by
 rintro ⟨a, o⟩ r h
 cases o with
 | none => injection h with h; subst h; rfl
 | some _ => cases h
noncomputable def Z23 : Nat → Int → Int → List (Int × Int) → List Int → Int → Int → Option (Int × Int × List (Int × Int) × List Int)
 | 0, _, _, _, _, _, _ => none
 | k + 1, b1_0, b1_1, b1_2, o2, v17, v18 =>
  if decide (v18 < v17) = true then if (0 : Int) ≤ v18 then if v18 < (↑(List.length o2) : Int) then Z23 k b1_0 b1_1 b1_2 (List.set o2 (Int.toNat v18) (-1 : Int)) v17 (wrap64 (v18 + (1 : Int))) else none else none else some (b1_0, b1_1, b1_2, o2)
noncomputable def Z8c : Spec := Spec.mk [OSh.ro, OSh.box (33 : Nat) [Sh.int .i64, Sh.int .i64, Sh.snap (0 : Nat) (Ty.pair (Ty.int .i64) (Ty.int .i64))], OSh.row true (3 : Nat) (Ty.int .i64)] [((1 : Nat), TSh.at (Sh.ptr (1 : Nat) (0 : Nat))), ((3 : Nat), TSh.at (Sh.sl (2 : Nat))), ((17 : Nat), TSh.at (Sh.int .i64)), ((18 : Nat), TSh.at (Sh.int .i64))]
noncomputable def Zka : Spec := Spec.mk [OSh.ro, OSh.box (33 : Nat) [Sh.int .i64, Sh.int .i64, Sh.snap (0 : Nat) (Ty.pair (Ty.int .i64) (Ty.int .i64))], OSh.row true (3 : Nat) (Ty.int .i64)] [((1 : Nat), TSh.at (Sh.ptr (1 : Nat) (0 : Nat))), ((3 : Nat), TSh.at (Sh.sl (2 : Nat)))]
noncomputable def Z1x : LoopDef (Tup ZA × OutD) := .plain Z8c Zka (Int × Int × List (Int × Int) × List Int) (fun k x => Z23 k x.1.2.1.1 x.1.2.1.2.1 x.1.2.1.2.2.1 x.1.2.2.1 x.2.2.2.1 x.2.2.2.2.1) (fun z => (((), (z.1, z.2.1, z.2.2.1, ()), z.2.2.2, ()), ((), (), ()))) (fun y => (y.1.2.1.1, y.1.2.1.2.1, y.1.2.1.2.2.1, y.1.2.2.1)) (fun _ => rfl)
noncomputable def ZD : Nat → Int → Int → List (Int × Int) → List Int → List Int → List Int → Int → List (Int × Int) → Int → Int → Int → Int → Option (Int × Int × List (Int × Int) × List Int × List Int × Int × List (Int × Int) × Int × Int)
 | 0, _, _, _, _, _, _, _, _, _, _, _, _ => none
 | k + 1, b1_0, b1_1, b1_2, o2, o3, o4, v5, v26, v27, v28, v60, v61 =>
  if decide (v61 < v60) = true then if (0 : Int) ≤ v61 then if v61 < (↑(List.length o4) : Int) then if (0 : Int) ≤ List.getD o4 (Int.toNat v61) (0 : Int) then if List.getD o4 (Int.toNat v61) (0 : Int) < (↑(List.length b1_2) : Int) then Option.bind (Z7O k (Prod.fst (List.getD b1_2 (Int.toNat (List.getD o4 (Int.toNat v61) (0 : Int))) ((0 : Int), (0 : Int))), Prod.snd (List.getD b1_2 (Int.toNat (List.getD o4 (Int.toNat v61) (0 : Int))) ((0 : Int), (0 : Int))))) fun z3 => if z3 = true then if (0 : Int) ≤ List.getD o4 (Int.toNat v61) (0 : Int) then if List.getD o4 (Int.toNat v61) (0 : Int) < (↑(List.length o2) : Int) then if decide (List.getD o2 (Int.toNat (List.getD o4 (Int.toNat v61) (0 : Int))) (0 : Int) < (0 : Int)) = true then if (0 : Int) ≤ List.getD o4 (Int.toNat v61) (0 : Int) then if List.getD o4 (Int.toNat v61) (0 : Int) < (↑(List.length o2) : Int) then if List.length o3 + List.length [List.getD o4 (Int.toNat v61) (0 : Int)] ≤ (140737488355328 / 8 : Nat) then ZD k b1_0 b1_1 b1_2 (List.set o2 (Int.toNat (List.getD o4 (Int.toNat v61) (0 : Int))) v5) (o3 ++ [List.getD o4 (Int.toNat v61) (0 : Int)]) o4 v5 v26 v27 v28 v60 (wrap64 (v61 + (1 : Int))) else none else none else none else ZD k b1_0 b1_1 b1_2 o2 o3 o4 v5 v26 v27 v28 v60 (wrap64 (v61 + (1 : Int))) else none else none else ZD k b1_0 b1_1 b1_2 o2 o3 o4 v5 v26 v27 v28 v60 (wrap64 (v61 + (1 : Int))) else none else none else none else none else some (b1_0, b1_1, b1_2, o2, o3, v5, v26, v27, v28)
noncomputable def Z8h : Spec := Spec.mk [OSh.ro, OSh.box (33 : Nat) [Sh.int .i64, Sh.int .i64, Sh.snap (0 : Nat) (Ty.pair (Ty.int .i64) (Ty.int .i64))], OSh.row true (3 : Nat) (Ty.int .i64), OSh.row true (3 : Nat) (Ty.int .i64), OSh.row true (3 : Nat) (Ty.int .i64)] [((1 : Nat), TSh.at (Sh.ptr (1 : Nat) (0 : Nat))), ((3 : Nat), TSh.at (Sh.sl (2 : Nat))), ((5 : Nat), TSh.at (Sh.int .i64)), ((8 : Nat), TSh.at (Sh.sl (3 : Nat))), ((26 : Nat), TSh.at (Sh.snap (0 : Nat) (Ty.pair (Ty.int .i64) (Ty.int .i64)))), ((27 : Nat), TSh.at (Sh.int .i64)), ((28 : Nat), TSh.at (Sh.int .i64)), ((59 : Nat), TSh.at (Sh.sl (4 : Nat))), ((60 : Nat), TSh.at (Sh.int .i64)), ((61 : Nat), TSh.at (Sh.int .i64))]
noncomputable def Zkk : Spec := Spec.mk [OSh.ro, OSh.box (33 : Nat) [Sh.int .i64, Sh.int .i64, Sh.snap (0 : Nat) (Ty.pair (Ty.int .i64) (Ty.int .i64))], OSh.row true (3 : Nat) (Ty.int .i64), OSh.row true (3 : Nat) (Ty.int .i64)] [((1 : Nat), TSh.at (Sh.ptr (1 : Nat) (0 : Nat))), ((3 : Nat), TSh.at (Sh.sl (2 : Nat))), ((5 : Nat), TSh.at (Sh.int .i64)), ((8 : Nat), TSh.at (Sh.sl (3 : Nat))), ((26 : Nat), TSh.at (Sh.snap (0 : Nat) (Ty.pair (Ty.int .i64) (Ty.int .i64)))), ((27 : Nat), TSh.at (Sh.int .i64)), ((28 : Nat), TSh.at (Sh.int .i64))]
noncomputable def Z1A : LoopDef (Tup ZA × OutD) := .plain Z8h Zkk (Int × Int × List (Int × Int) × List Int × List Int × Int × List (Int × Int) × Int × Int) (fun k x => ZD k x.1.2.1.1 x.1.2.1.2.1 x.1.2.1.2.2.1 x.1.2.2.1 x.1.2.2.2.1 x.1.2.2.2.2.1 x.2.2.2.1 x.2.2.2.2.2.1 x.2.2.2.2.2.2.1 x.2.2.2.2.2.2.2.1 x.2.2.2.2.2.2.2.2.2.1 x.2.2.2.2.2.2.2.2.2.2.1) (fun z => (((), (z.1, z.2.1, z.2.2.1, ()), z.2.2.2.1, z.2.2.2.2.1, ()), ((), (), z.2.2.2.2.2.1, (), z.2.2.2.2.2.2.1, z.2.2.2.2.2.2.2.1, z.2.2.2.2.2.2.2.2, ()))) (fun y => (y.1.2.1.1, y.1.2.1.2.1, y.1.2.1.2.2.1, y.1.2.2.1, y.1.2.2.2.1, y.2.2.2.1, y.2.2.2.2.2.1, y.2.2.2.2.2.2.1, y.2.2.2.2.2.2.2.1)) (fun _ => rfl)
noncomputable def Z17 : Nat → Int → Int → List (Int × Int) → List Int → List Int → Int → List (Int × Int) → Int → Int → Option (Int × Int × List (Int × Int) × List Int × Int × List (Int × Int) × Int × Int)
 | 0, _, _, _, _, _, _, _, _, _ => none
 | k + 1, b1_0, b1_1, b1_2, o2, o3, v5, v26, v27, v28 =>
  if decide ((↑(List.length o3) : Int) > (0 : Int)) = true then if (0 : Int) < (↑(List.length o3) : Int) then if (1 : Int) ≤ (↑(List.length o3) : Int) then if (↑(List.length o3) : Int) ≤ (↑(List.length o3) : Int) then Option.bind (Zar k (b1_0, b1_1, b1_2) (List.getD o3 (Int.toNat (0 : Int)) (0 : Int))) fun z2 => Option.bind (ZD k b1_0 b1_1 b1_2 o2 (List.drop (Int.toNat (1 : Int)) o3) z2 v5 v26 v27 v28 (↑(List.length z2) : Int) (0 : Int)) fun z4 => Z17 k z4.1 z4.2.1 z4.2.2.1 z4.2.2.2.1 z4.2.2.2.2.1 z4.2.2.2.2.2.1 z4.2.2.2.2.2.2.1 z4.2.2.2.2.2.2.2.1 z4.2.2.2.2.2.2.2.2 else none else none else none else some (b1_0, b1_1, b1_2, o2, v5, v26, v27, v28)
noncomputable def Z8d : Spec := Spec.mk [OSh.ro, OSh.box (33 : Nat) [Sh.int .i64, Sh.int .i64, Sh.snap (0 : Nat) (Ty.pair (Ty.int .i64) (Ty.int .i64))], OSh.row true (3 : Nat) (Ty.int .i64), OSh.row true (3 : Nat) (Ty.int .i64)] [((1 : Nat), TSh.at (Sh.ptr (1 : Nat) (0 : Nat))), ((3 : Nat), TSh.at (Sh.sl (2 : Nat))), ((5 : Nat), TSh.at (Sh.int .i64)), ((8 : Nat), TSh.at (Sh.sl (3 : Nat))), ((26 : Nat), TSh.at (Sh.snap (0 : Nat) (Ty.pair (Ty.int .i64) (Ty.int .i64)))), ((27 : Nat), TSh.at (Sh.int .i64)), ((28 : Nat), TSh.at (Sh.int .i64))]
noncomputable def Zkm : Spec := Spec.mk [OSh.ro, OSh.box (33 : Nat) [Sh.int .i64, Sh.int .i64, Sh.snap (0 : Nat) (Ty.pair (Ty.int .i64) (Ty.int .i64))], OSh.row true (3 : Nat) (Ty.int .i64)] [((1 : Nat), TSh.at (Sh.ptr (1 : Nat) (0 : Nat))), ((3 : Nat), TSh.at (Sh.sl (2 : Nat))), ((5 : Nat), TSh.at (Sh.int .i64)), ((26 : Nat), TSh.at (Sh.snap (0 : Nat) (Ty.pair (Ty.int .i64) (Ty.int .i64)))), ((27 : Nat), TSh.at (Sh.int .i64)), ((28 : Nat), TSh.at (Sh.int .i64))]
noncomputable def Z1y : LoopDef (Tup ZA × OutD) := .plain Z8d Zkm (Int × Int × List (Int × Int) × List Int × Int × List (Int × Int) × Int × Int) (fun k x => Z17 k x.1.2.1.1 x.1.2.1.2.1 x.1.2.1.2.2.1 x.1.2.2.1 x.1.2.2.2.1 x.2.2.2.1 x.2.2.2.2.2.1 x.2.2.2.2.2.2.1 x.2.2.2.2.2.2.2.1) (fun z => (((), (z.1, z.2.1, z.2.2.1, ()), z.2.2.2.1, ()), ((), (), z.2.2.2.2.1, z.2.2.2.2.2.1, z.2.2.2.2.2.2.1, z.2.2.2.2.2.2.2, ()))) (fun y => (y.1.2.1.1, y.1.2.1.2.1, y.1.2.1.2.2.1, y.1.2.2.1, y.2.2.2.1, y.2.2.2.2.1, y.2.2.2.2.2.1, y.2.2.2.2.2.2.1)) (fun _ => rfl)
noncomputable def Zt : Nat → Int → Int → List (Int × Int) → List Int → Int → List (Int × Int) → Int → Int → Option (List Int)
 | 0, _, _, _, _, _, _, _, _ => none
 | k + 1, b1_0, b1_1, b1_2, o2, v5, v26, v27, v28 =>
  if decide (v28 < v27) = true then if (0 : Int) ≤ v28 then if v28 < (↑(List.length v26) : Int) then Option.bind (Z7O k (Prod.fst (List.getD v26 (Int.toNat v28) ((0 : Int), (0 : Int))), Prod.snd (List.getD v26 (Int.toNat v28) ((0 : Int), (0 : Int))))) fun z1 => if (!z1) = true then Zt k b1_0 b1_1 b1_2 o2 v5 v26 v27 (wrap64 (v28 + (1 : Int))) else if (0 : Int) ≤ v28 then if v28 < (↑(List.length o2) : Int) then if decide (List.getD o2 (Int.toNat v28) (0 : Int) ≥ (0 : Int)) = true then Zt k b1_0 b1_1 b1_2 o2 v5 v26 v27 (wrap64 (v28 + (1 : Int))) else if (0 : Int) ≤ v28 then if v28 < (↑(List.length o2) : Int) then Option.bind (Z17 k b1_0 b1_1 b1_2 (List.set o2 (Int.toNat v28) v5) [v28] v5 v26 v27 v28) fun z5 => Zt k z5.1 z5.2.1 z5.2.2.1 z5.2.2.2.1 (wrap64 (Prod.fst z5.2.2.2.2 + (1 : Int))) z5.2.2.2.2.2.1 z5.2.2.2.2.2.2.1 (wrap64 (Prod.snd z5.2.2.2.2.2.2 + (1 : Int))) else none else none else none else none else none else none else some o2
noncomputable def Z8b : Spec := Spec.mk [OSh.ro, OSh.box (33 : Nat) [Sh.int .i64, Sh.int .i64, Sh.snap (0 : Nat) (Ty.pair (Ty.int .i64) (Ty.int .i64))], OSh.row true (3 : Nat) (Ty.int .i64)] [((1 : Nat), TSh.at (Sh.ptr (1 : Nat) (0 : Nat))), ((3 : Nat), TSh.at (Sh.sl (2 : Nat))), ((5 : Nat), TSh.at (Sh.int .i64)), ((26 : Nat), TSh.at (Sh.snap (0 : Nat) (Ty.pair (Ty.int .i64) (Ty.int .i64)))), ((27 : Nat), TSh.at (Sh.int .i64)), ((28 : Nat), TSh.at (Sh.int .i64))]
noncomputable def Zkd : Spec := Spec.mk [OSh.ro, OSh.row true (3 : Nat) (Ty.int .i64)] [((3 : Nat), TSh.at (Sh.sl (1 : Nat)))]
noncomputable def Z1B : LoopDef (Tup ZA × OutD) := .plain Z8b Zkd (List Int) (fun k x => Zt k x.1.2.1.1 x.1.2.1.2.1 x.1.2.1.2.2.1 x.1.2.2.1 x.2.2.2.1 x.2.2.2.2.1 x.2.2.2.2.2.1 x.2.2.2.2.2.2.1) (fun z => (((), z, ()), ((), ()))) (fun y => (y.1.2.1)) (fun _ => rfl)
noncomputable def Z7j : Nat → Int × Int × List (Int × Int) → Option (List Int)
 | 0, _ => none
 | k + 1, p0 =>
  if Int.toNat (↑(List.length p0.2.2) : Int) * (8 : Nat) ≤ (281474976710656 : Nat) then Option.bind (Z23 k p0.1 p0.2.1 p0.2.2 (List.replicate (Int.toNat (↑(List.length p0.2.2) : Int)) (0 : Int)) (↑(List.length (List.replicate (Int.toNat (↑(List.length p0.2.2) : Int)) (0 : Int))) : Int) (0 : Int)) fun z0 => Option.bind (Zt k z0.1 z0.2.1 z0.2.2.1 z0.2.2.2 (0 : Int) z0.2.2.1 (↑(List.length z0.2.2.1) : Int) (0 : Int)) fun z6 => some z6 else none
noncomputable def ZZ : FnDef := .of Zef ZA (List Int) (fun k x => Z7j k x.1) ZdI ZdJ Ziy
noncomputable def Z1K : Code := Try.f91.body.getD .skip
noncomputable def Z8 : Ctx (Tup ZA × OutD) := { T := T, G := [(104, Z2R.E), (105, Z2P.E)], mvs := [56], no := 0, n := 91, res := resOf T Zef ZA Try.f91.results.toList, loops := [(0, Z1x.E), (6, Z1A.E), (4, Z1y.E), (2, Z1B.E)], regs := [], conds := [], cuts := [] }
theorem Z4L (k : Nat) : EnvOK Try.prog k Z8.G := (EnvOK.cons (Zvz k) (EnvOK.cons (ZvM k) (EnvOK.nil mixed)))
noncomputable def Z5F : Code := (findLoop 0 Z1K).getD .skip
theorem ZjY (k : Nat) (x : Z8c.D) : Z1x.lp (k + 1) x = loopK Z8 Z1x 0 Z5F k x := by kernel_rfl
theorem ZjU (k : Nat) : LOK Try.prog Z8 k Z5F := LOK.by [] (by kernel_rfl) AllOK.nil
theorem ZjT (x : Z8c.D) : Z1x.lp 0 x = none := by kernel_rfl
theorem ZiG (k : Nat) : EOK Try.prog Z8 k Z1x.E (.block 0 (.loop Z5F)) := Z2 T_ok Z4L ZjT ZjY ZjU k
noncomputable def Z5y : Code := (findLoop 6 Z1K).getD .skip
theorem Zks (k : Nat) (x : Z8h.D) : Z1A.lp (k + 1) x = loopK Z8 Z1A 6 Z5y k x := by kernel_rfl
theorem Zkl (k : Nat) : LOK Try.prog Z8 k Z5y := LOK.by [] (by kernel_rfl) AllOK.nil
theorem Zkg (x : Z8h.D) : Z1A.lp 0 x = none := by kernel_rfl
theorem ZiB (k : Nat) : EOK Try.prog Z8 k Z1A.E (.block 6 (.loop Z5y)) := Z2 T_ok Z4L Zkg Zks Zkl k
noncomputable def Z5C : Code := (findLoop 4 Z1K).getD .skip
theorem ZjP (k : Nat) (x : Z8d.D) : Z1y.lp (k + 1) x = loopK Z8 Z1y 4 Z5C k x := by kernel_rfl
theorem Zke (k : Nat) : LOK Try.prog Z8 k Z5C := LOK.by [(Z1A.E, .block 6 (.loop Z5y))] (by kernel_rfl) (AllOK.cons (ZiB k) AllOK.nil)
theorem Zk5 (x : Z8d.D) : Z1y.lp 0 x = none := by kernel_rfl
theorem ZiE (k : Nat) : EOK Try.prog Z8 k Z1y.E (.block 4 (.loop Z5C)) := Z2 T_ok Z4L Zk5 ZjP Zke k
noncomputable def Z5z : Code := (findLoop 2 Z1K).getD .skip
theorem Zkb (k : Nat) (x : Z8b.D) : Z1B.lp (k + 1) x = loopK Z8 Z1B 2 Z5z k x := by kernel_rfl
theorem Zkn (k : Nat) : LOK Try.prog Z8 k Z5z := LOK.by [(Z1y.E, .block 4 (.loop Z5C))] (by kernel_rfl) (AllOK.cons (ZiE k) AllOK.nil)
theorem ZjN (x : Z8b.D) : Z1B.lp 0 x = none := by kernel_rfl
theorem ZiA (k : Nat) : EOK Try.prog Z8 k Z1B.E (.block 2 (.loop Z5z)) := Z2 T_ok Z4L ZjN Zkb Zkn k
theorem Zos (k : Nat) (x : Tup ZZ.ps) : ZZ.f (k + 1) x = fnK ZZ Z8 Z1K k x := by kernel_rfl
theorem Zp3 (x : Tup ZZ.ps) : ZZ.f 0 x = none := by kernel_rfl
theorem ZoF (k : Nat) : LOK Try.prog Z8 k Z1K := LOK.by [(Z1x.E, .block 0 (.loop Z5F)), (Z1B.E, .block 2 (.loop Z5z))] (by kernel_rfl) (AllOK.cons (ZiG k) (AllOK.cons (ZiA k) AllOK.nil))
theorem Zpp (k : Nat) : SoundAt Try.prog k 91 ZZ.E := @Z1 Try.prog ZZ Z8 91 Try.f91 Z1K (by kernel_rfl) (by kernel_rfl) (by kernel_rfl) Try.func91 (by kernel_rfl) (by kernel_rfl) (by kernel_rfl) T_ok Z4L ZoF Zp3 Zos k
noncomputable def Z75 : List PK := [PK.mk Ty.bool false none false none]
noncomputable def Zhw : List PK := [PK.mk (Ty.pair (Ty.int .i64) (Ty.int .i64)) true none false none]
noncomputable def ZgB (r : Bool) : Tup Z75 × OutD := ((r, ()), none)
noncomputable def Zgc : Tup Z75 × OutD → Option (Bool)
 | (a, none) => some (a.1)
 | _ => none
theorem ZmM : ∀ b r, Zgc b = some r → ZgB r = b := by
 rintro ⟨a, o⟩ r h
 cases o with
 | none => injection h with h; subst h; rfl
 | some _ => cases h
noncomputable def Z1s : Nat → Int × Int → Option Bool
 | 0, _ => none
 | k + 1, p0 =>
  Option.bind (Z7L k (Prod.fst p0, Prod.snd p0)) fun z0 => if z0 = true then if decide (Prod.fst p0 = (3 : Int)) = true then some true else some (decide (Prod.fst p0 = (6 : Int))) else some false
noncomputable def Z1o : FnDef := .of Zhw Z75 (Bool) (fun k x => Z1s k x.1) ZgB Zgc ZmM
noncomputable def Zd0 : Code := Try.f94.body.getD .skip
noncomputable def Z9a : Ctx (Tup Z75 × OutD) := { T := T, G := [(89, Z2j.E)], mvs := [], no := 0, n := 15, res := resOf T Zhw Z75 Try.f94.results.toList, loops := [], regs := [], conds := [], cuts := [] }
theorem ZuE (k : Nat) : EnvOK Try.prog k Z9a.G := (EnvOK.cons (ZfO k) (EnvOK.nil mixed))
theorem ZtH (k : Nat) (x : Tup Z1o.ps) : Z1o.f (k + 1) x = fnK Z1o Z9a Zd0 k x := by kernel_rfl
theorem ZtK (x : Tup Z1o.ps) : Z1o.f 0 x = none := by kernel_rfl
theorem Zua (k : Nat) : LOK Try.prog Z9a k Zd0 := LOK.by [] (by kernel_rfl) AllOK.nil
theorem Zhh (k : Nat) : SoundAt Try.prog k 94 Z1o.E := @Z1 Try.prog Z1o Z9a 94 Try.f94 Zd0 (by kernel_rfl) (by kernel_rfl) (by kernel_rfl) Try.func94 (by kernel_rfl) (by kernel_rfl) (by kernel_rfl) T_ok ZuE Zua ZtK ZtH k
noncomputable def Z1X : List PK := [PK.mk (Ty.slice (3 : Nat) (Ty.int .i64)) false none false none]
noncomputable def ZjD : List PK := [PK.mk (Ty.pair (Ty.int .i64) (Ty.pair (Ty.int .i64) (Ty.slice (73 : Nat) (Ty.pair (Ty.int .i64) (Ty.int .i64))))) true none false none]
noncomputable def Zi0 (r : List Int) : Tup Z1X × OutD := ((r, ()), none)
noncomputable def Zib : Tup Z1X × OutD → Option (List Int)
 | (a, none) => some (a.1)
 | _ => none
theorem Zp5 : ∀ b r, Zib b = some r → Zi0 r = b := by
 rintro ⟨a, o⟩ r h
 cases o with
 | none => injection h with h; subst h; rfl
 | some _ => cases h
noncomputable def Z47 : Nat → Int → Int → List (Int × Int) → List Int → Int → Int → Option (Int × Int × List (Int × Int) × List Int)
 | 0, _, _, _, _, _, _ => none
 | k + 1, b1_0, b1_1, b1_2, o2, v17, v18 =>
  if decide (v18 < v17) = true then if (0 : Int) ≤ v18 then if v18 < (↑(List.length o2) : Int) then Z47 k b1_0 b1_1 b1_2 (List.set o2 (Int.toNat v18) (-1 : Int)) v17 (wrap64 (v18 + (1 : Int))) else none else none else some (b1_0, b1_1, b1_2, o2)
noncomputable def ZaM : Spec := Spec.mk [OSh.ro, OSh.box (33 : Nat) [Sh.int .i64, Sh.int .i64, Sh.snap (0 : Nat) (Ty.pair (Ty.int .i64) (Ty.int .i64))], OSh.row true (3 : Nat) (Ty.int .i64)] [((1 : Nat), TSh.at (Sh.ptr (1 : Nat) (0 : Nat))), ((3 : Nat), TSh.at (Sh.sl (2 : Nat))), ((17 : Nat), TSh.at (Sh.int .i64)), ((18 : Nat), TSh.at (Sh.int .i64))]
noncomputable def Zr9 : Spec := Spec.mk [OSh.ro, OSh.box (33 : Nat) [Sh.int .i64, Sh.int .i64, Sh.snap (0 : Nat) (Ty.pair (Ty.int .i64) (Ty.int .i64))], OSh.row true (3 : Nat) (Ty.int .i64)] [((1 : Nat), TSh.at (Sh.ptr (1 : Nat) (0 : Nat))), ((3 : Nat), TSh.at (Sh.sl (2 : Nat)))]
noncomputable def Z3y : LoopDef (Tup Z1X × OutD) := .plain ZaM Zr9 (Int × Int × List (Int × Int) × List Int) (fun k x => Z47 k x.1.2.1.1 x.1.2.1.2.1 x.1.2.1.2.2.1 x.1.2.2.1 x.2.2.2.1 x.2.2.2.2.1) (fun z => (((), (z.1, z.2.1, z.2.2.1, ()), z.2.2.2, ()), ((), (), ()))) (fun y => (y.1.2.1.1, y.1.2.1.2.1, y.1.2.1.2.2.1, y.1.2.2.1)) (fun _ => rfl)
noncomputable def Z1I : Nat → Int → Int → List (Int × Int) → List Int → List Int → List Int → Int → Int → List (Int × Int) → Int → Int → Int → Int → Option (Int × Int × List (Int × Int) × List Int × List Int × Int × Int × List (Int × Int) × Int × Int)
 | 0, _, _, _, _, _, _, _, _, _, _, _, _, _ => none
 | k + 1, b1_0, b1_1, b1_2, o2, o3, o4, v5, v9, v26, v27, v28, v61, v62 =>
  if decide (v62 < v61) = true then if (0 : Int) ≤ v62 then if v62 < (↑(List.length o4) : Int) then if (0 : Int) ≤ List.getD o4 (Int.toNat v62) (0 : Int) then if List.getD o4 (Int.toNat v62) (0 : Int) < (↑(List.length b1_2) : Int) then Option.bind (Za1 k (Prod.fst (List.getD b1_2 (Int.toNat (List.getD o4 (Int.toNat v62) (0 : Int))) ((0 : Int), (0 : Int))), Prod.snd (List.getD b1_2 (Int.toNat (List.getD o4 (Int.toNat v62) (0 : Int))) ((0 : Int), (0 : Int))))) fun z3 => if z3 = true then if (0 : Int) ≤ List.getD o4 (Int.toNat v62) (0 : Int) then if List.getD o4 (Int.toNat v62) (0 : Int) < (↑(List.length o2) : Int) then if decide (List.getD o2 (Int.toNat (List.getD o4 (Int.toNat v62) (0 : Int))) (0 : Int) < (0 : Int)) = true then if (0 : Int) ≤ List.getD o4 (Int.toNat v62) (0 : Int) then if List.getD o4 (Int.toNat v62) (0 : Int) < (↑(List.length o2) : Int) then if List.length o3 + List.length [List.getD o4 (Int.toNat v62) (0 : Int)] ≤ (140737488355328 / 8 : Nat) then Z1I k b1_0 b1_1 b1_2 (List.set o2 (Int.toNat (List.getD o4 (Int.toNat v62) (0 : Int))) v5) (o3 ++ [List.getD o4 (Int.toNat v62) (0 : Int)]) o4 v5 v9 v26 v27 v28 v61 (wrap64 (v62 + (1 : Int))) else none else none else none else Z1I k b1_0 b1_1 b1_2 o2 o3 o4 v5 v9 v26 v27 v28 v61 (wrap64 (v62 + (1 : Int))) else none else none else Z1I k b1_0 b1_1 b1_2 o2 o3 o4 v5 v9 v26 v27 v28 v61 (wrap64 (v62 + (1 : Int))) else none else none else none else none else some (b1_0, b1_1, b1_2, o2, o3, v5, v9, v26, v27, v28)
noncomputable def Zb0 : Spec := Spec.mk [OSh.ro, OSh.box (33 : Nat) [Sh.int .i64, Sh.int .i64, Sh.snap (0 : Nat) (Ty.pair (Ty.int .i64) (Ty.int .i64))], OSh.row true (3 : Nat) (Ty.int .i64), OSh.row true (3 : Nat) (Ty.int .i64), OSh.row true (3 : Nat) (Ty.int .i64)] [((1 : Nat), TSh.at (Sh.ptr (1 : Nat) (0 : Nat))), ((3 : Nat), TSh.at (Sh.sl (2 : Nat))), ((5 : Nat), TSh.at (Sh.int .i64)), ((8 : Nat), TSh.at (Sh.sl (3 : Nat))), ((9 : Nat), TSh.at (Sh.int .i64)), ((26 : Nat), TSh.at (Sh.snap (0 : Nat) (Ty.pair (Ty.int .i64) (Ty.int .i64)))), ((27 : Nat), TSh.at (Sh.int .i64)), ((28 : Nat), TSh.at (Sh.int .i64)), ((60 : Nat), TSh.at (Sh.sl (4 : Nat))), ((61 : Nat), TSh.at (Sh.int .i64)), ((62 : Nat), TSh.at (Sh.int .i64))]
noncomputable def ZpC : Spec := Spec.mk [OSh.ro, OSh.box (33 : Nat) [Sh.int .i64, Sh.int .i64, Sh.snap (0 : Nat) (Ty.pair (Ty.int .i64) (Ty.int .i64))], OSh.row true (3 : Nat) (Ty.int .i64), OSh.row true (3 : Nat) (Ty.int .i64)] [((1 : Nat), TSh.at (Sh.ptr (1 : Nat) (0 : Nat))), ((3 : Nat), TSh.at (Sh.sl (2 : Nat))), ((5 : Nat), TSh.at (Sh.int .i64)), ((8 : Nat), TSh.at (Sh.sl (3 : Nat))), ((9 : Nat), TSh.at (Sh.int .i64)), ((26 : Nat), TSh.at (Sh.snap (0 : Nat) (Ty.pair (Ty.int .i64) (Ty.int .i64)))), ((27 : Nat), TSh.at (Sh.int .i64)), ((28 : Nat), TSh.at (Sh.int .i64))]
noncomputable def Z3w : LoopDef (Tup Z1X × OutD) := .plain Zb0 ZpC (Int × Int × List (Int × Int) × List Int × List Int × Int × Int × List (Int × Int) × Int × Int) (fun k x => Z1I k x.1.2.1.1 x.1.2.1.2.1 x.1.2.1.2.2.1 x.1.2.2.1 x.1.2.2.2.1 x.1.2.2.2.2.1 x.2.2.2.1 x.2.2.2.2.2.1 x.2.2.2.2.2.2.1 x.2.2.2.2.2.2.2.1 x.2.2.2.2.2.2.2.2.1 x.2.2.2.2.2.2.2.2.2.2.1 x.2.2.2.2.2.2.2.2.2.2.2.1) (fun z => (((), (z.1, z.2.1, z.2.2.1, ()), z.2.2.2.1, z.2.2.2.2.1, ()), ((), (), z.2.2.2.2.2.1, (), z.2.2.2.2.2.2.1, z.2.2.2.2.2.2.2.1, z.2.2.2.2.2.2.2.2.1, z.2.2.2.2.2.2.2.2.2, ()))) (fun y => (y.1.2.1.1, y.1.2.1.2.1, y.1.2.1.2.2.1, y.1.2.2.1, y.1.2.2.2.1, y.2.2.2.1, y.2.2.2.2.2.1, y.2.2.2.2.2.2.1, y.2.2.2.2.2.2.2.1, y.2.2.2.2.2.2.2.2.1)) (fun _ => rfl)
noncomputable def Z2K : Nat → Int → Int → List (Int × Int) → List Int → List Int → Int → Int → List (Int × Int) → Int → Int → Option (Int × Int × List (Int × Int) × List Int × Int × List (Int × Int) × Int × Int)
 | 0, _, _, _, _, _, _, _, _, _, _ => none
 | k + 1, b1_0, b1_1, b1_2, o2, o3, v5, v9, v26, v27, v28 =>
  if decide (v9 < (↑(List.length o3) : Int)) = true then if (0 : Int) ≤ v9 then if v9 < (↑(List.length o3) : Int) then Option.bind (Zcr k (b1_0, b1_1, b1_2) (List.getD o3 (Int.toNat v9) (0 : Int))) fun z2 => Option.bind (Z1I k b1_0 b1_1 b1_2 o2 o3 z2 v5 v9 v26 v27 v28 (↑(List.length z2) : Int) (0 : Int)) fun z4 => Z2K k z4.1 z4.2.1 z4.2.2.1 z4.2.2.2.1 z4.2.2.2.2.1 z4.2.2.2.2.2.1 (wrap64 (Prod.fst z4.2.2.2.2.2.2 + (1 : Int))) z4.2.2.2.2.2.2.2.1 z4.2.2.2.2.2.2.2.2.1 z4.2.2.2.2.2.2.2.2.2 else none else none else some (b1_0, b1_1, b1_2, o2, v5, v26, v27, v28)
noncomputable def ZaO : Spec := Spec.mk [OSh.ro, OSh.box (33 : Nat) [Sh.int .i64, Sh.int .i64, Sh.snap (0 : Nat) (Ty.pair (Ty.int .i64) (Ty.int .i64))], OSh.row true (3 : Nat) (Ty.int .i64), OSh.row true (3 : Nat) (Ty.int .i64)] [((1 : Nat), TSh.at (Sh.ptr (1 : Nat) (0 : Nat))), ((3 : Nat), TSh.at (Sh.sl (2 : Nat))), ((5 : Nat), TSh.at (Sh.int .i64)), ((8 : Nat), TSh.at (Sh.sl (3 : Nat))), ((9 : Nat), TSh.at (Sh.int .i64)), ((26 : Nat), TSh.at (Sh.snap (0 : Nat) (Ty.pair (Ty.int .i64) (Ty.int .i64)))), ((27 : Nat), TSh.at (Sh.int .i64)), ((28 : Nat), TSh.at (Sh.int .i64))]
noncomputable def Zq0 : Spec := Spec.mk [OSh.ro, OSh.box (33 : Nat) [Sh.int .i64, Sh.int .i64, Sh.snap (0 : Nat) (Ty.pair (Ty.int .i64) (Ty.int .i64))], OSh.row true (3 : Nat) (Ty.int .i64)] [((1 : Nat), TSh.at (Sh.ptr (1 : Nat) (0 : Nat))), ((3 : Nat), TSh.at (Sh.sl (2 : Nat))), ((5 : Nat), TSh.at (Sh.int .i64)), ((26 : Nat), TSh.at (Sh.snap (0 : Nat) (Ty.pair (Ty.int .i64) (Ty.int .i64)))), ((27 : Nat), TSh.at (Sh.int .i64)), ((28 : Nat), TSh.at (Sh.int .i64))]
noncomputable def Z3m : LoopDef (Tup Z1X × OutD) := .plain ZaO Zq0 (Int × Int × List (Int × Int) × List Int × Int × List (Int × Int) × Int × Int) (fun k x => Z2K k x.1.2.1.1 x.1.2.1.2.1 x.1.2.1.2.2.1 x.1.2.2.1 x.1.2.2.2.1 x.2.2.2.1 x.2.2.2.2.2.1 x.2.2.2.2.2.2.1 x.2.2.2.2.2.2.2.1 x.2.2.2.2.2.2.2.2.1) (fun z => (((), (z.1, z.2.1, z.2.2.1, ()), z.2.2.2.1, ()), ((), (), z.2.2.2.2.1, z.2.2.2.2.2.1, z.2.2.2.2.2.2.1, z.2.2.2.2.2.2.2, ()))) (fun y => (y.1.2.1.1, y.1.2.1.2.1, y.1.2.1.2.2.1, y.1.2.2.1, y.2.2.2.1, y.2.2.2.2.1, y.2.2.2.2.2.1, y.2.2.2.2.2.2.1)) (fun _ => rfl)
noncomputable def Z13 : Nat → Int → Int → List (Int × Int) → List Int → Int → List (Int × Int) → Int → Int → Option (List Int)
 | 0, _, _, _, _, _, _, _, _ => none
 | k + 1, b1_0, b1_1, b1_2, o2, v5, v26, v27, v28 =>
  if decide (v28 < v27) = true then if (0 : Int) ≤ v28 then if v28 < (↑(List.length v26) : Int) then Option.bind (Za1 k (Prod.fst (List.getD v26 (Int.toNat v28) ((0 : Int), (0 : Int))), Prod.snd (List.getD v26 (Int.toNat v28) ((0 : Int), (0 : Int))))) fun z1 => if (!z1) = true then Z13 k b1_0 b1_1 b1_2 o2 v5 v26 v27 (wrap64 (v28 + (1 : Int))) else if (0 : Int) ≤ v28 then if v28 < (↑(List.length o2) : Int) then if decide (List.getD o2 (Int.toNat v28) (0 : Int) ≥ (0 : Int)) = true then Z13 k b1_0 b1_1 b1_2 o2 v5 v26 v27 (wrap64 (v28 + (1 : Int))) else if (0 : Int) ≤ v28 then if v28 < (↑(List.length o2) : Int) then Option.bind (Z2K k b1_0 b1_1 b1_2 (List.set o2 (Int.toNat v28) v5) [v28] v5 (0 : Int) v26 v27 v28) fun z5 => Z13 k z5.1 z5.2.1 z5.2.2.1 z5.2.2.2.1 (wrap64 (Prod.fst z5.2.2.2.2 + (1 : Int))) z5.2.2.2.2.2.1 z5.2.2.2.2.2.2.1 (wrap64 (Prod.snd z5.2.2.2.2.2.2 + (1 : Int))) else none else none else none else none else none else none else some o2
noncomputable def ZaF : Spec := Spec.mk [OSh.ro, OSh.box (33 : Nat) [Sh.int .i64, Sh.int .i64, Sh.snap (0 : Nat) (Ty.pair (Ty.int .i64) (Ty.int .i64))], OSh.row true (3 : Nat) (Ty.int .i64)] [((1 : Nat), TSh.at (Sh.ptr (1 : Nat) (0 : Nat))), ((3 : Nat), TSh.at (Sh.sl (2 : Nat))), ((5 : Nat), TSh.at (Sh.int .i64)), ((26 : Nat), TSh.at (Sh.snap (0 : Nat) (Ty.pair (Ty.int .i64) (Ty.int .i64)))), ((27 : Nat), TSh.at (Sh.int .i64)), ((28 : Nat), TSh.at (Sh.int .i64))]
noncomputable def Zqf : Spec := Spec.mk [OSh.ro, OSh.row true (3 : Nat) (Ty.int .i64)] [((3 : Nat), TSh.at (Sh.sl (1 : Nat)))]
noncomputable def Z3E : LoopDef (Tup Z1X × OutD) := .plain ZaF Zqf (List Int) (fun k x => Z13 k x.1.2.1.1 x.1.2.1.2.1 x.1.2.1.2.2.1 x.1.2.2.1 x.2.2.2.1 x.2.2.2.2.1 x.2.2.2.2.2.1 x.2.2.2.2.2.2.1) (fun z => (((), z, ()), ((), ()))) (fun y => (y.1.2.1)) (fun _ => rfl)
noncomputable def Z3T : Nat → Int × Int × List (Int × Int) → Option (List Int)
 | 0, _ => none
 | k + 1, p0 =>
  if Int.toNat (↑(List.length p0.2.2) : Int) * (8 : Nat) ≤ (281474976710656 : Nat) then Option.bind (Z47 k p0.1 p0.2.1 p0.2.2 (List.replicate (Int.toNat (↑(List.length p0.2.2) : Int)) (0 : Int)) (↑(List.length (List.replicate (Int.toNat (↑(List.length p0.2.2) : Int)) (0 : Int))) : Int) (0 : Int)) fun z0 => Option.bind (Z13 k z0.1 z0.2.1 z0.2.2.1 z0.2.2.2 (0 : Int) z0.2.2.1 (↑(List.length z0.2.2.1) : Int) (0 : Int)) fun z6 => some z6 else none
noncomputable def Z2S : FnDef := .of ZjD Z1X (List Int) (fun k x => Z3T k x.1) Zi0 Zib Zp5
noncomputable def Z41 : Code := Try.f102.body.getD .skip
noncomputable def Zi : Ctx (Tup Z1X × OutD) := { T := T, G := [(110, Z4I.E), (111, Z4C.E)], mvs := [], no := 0, n := 92, res := resOf T ZjD Z1X Try.f102.results.toList, loops := [(0, Z3y.E), (6, Z3w.E), (4, Z3m.E), (2, Z3E.E)], regs := [], conds := [], cuts := [] }
theorem Z81 (k : Nat) : EnvOK Try.prog k Zi.G := (EnvOK.cons (Zyq k) (EnvOK.cons (Zyn k) (EnvOK.nil mixed)))
noncomputable def Z86 : Code := (findLoop 0 Z41).getD .skip
theorem Zrj (k : Nat) (x : ZaM.D) : Z3y.lp (k + 1) x = loopK Zi Z3y 0 Z86 k x := by kernel_rfl
theorem ZqD (k : Nat) : LOK Try.prog Zi k Z86 := LOK.by [] (by kernel_rfl) AllOK.nil
theorem ZqQ (x : ZaM.D) : Z3y.lp 0 x = none := by kernel_rfl
theorem ZoL (k : Nat) : EOK Try.prog Zi k Z3y.E (.block 0 (.loop Z86)) := Z2 T_ok Z81 ZqQ Zrj ZqD k
noncomputable def Z7P : Code := (findLoop 6 Z41).getD .skip
theorem Zra (k : Nat) (x : Zb0.D) : Z3w.lp (k + 1) x = loopK Zi Z3w 6 Z7P k x := by kernel_rfl
theorem Zr3 (k : Nat) : LOK Try.prog Zi k Z7P := LOK.by [] (by kernel_rfl) AllOK.nil
theorem ZpV (x : Zb0.D) : Z3w.lp 0 x = none := by kernel_rfl
theorem ZoB (k : Nat) : EOK Try.prog Zi k Z3w.E (.block 6 (.loop Z7P)) := Z2 T_ok Z81 ZpV Zra Zr3 k
noncomputable def Z7X : Code := (findLoop 4 Z41).getD .skip
theorem ZpZ (k : Nat) (x : ZaO.D) : Z3m.lp (k + 1) x = loopK Zi Z3m 4 Z7X k x := by kernel_rfl
theorem Zq9 (k : Nat) : LOK Try.prog Zi k Z7X := LOK.by [(Z3w.E, .block 6 (.loop Z7P))] (by kernel_rfl) (AllOK.cons (ZoB k) AllOK.nil)
theorem Zrh (x : ZaO.D) : Z3m.lp 0 x = none := by kernel_rfl
theorem Zpa (k : Nat) : EOK Try.prog Zi k Z3m.E (.block 4 (.loop Z7X)) := Z2 T_ok Z81 Zrh ZpZ Zq9 k
noncomputable def Z8a : Code := (findLoop 2 Z41).getD .skip
theorem ZqL (k : Nat) (x : ZaF.D) : Z3E.lp (k + 1) x = loopK Zi Z3E 2 Z8a k x := by kernel_rfl
theorem Zrd (k : Nat) : LOK Try.prog Zi k Z8a := LOK.by [(Z3m.E, .block 4 (.loop Z7X))] (by kernel_rfl) (AllOK.cons (Zpa k) AllOK.nil)
theorem Zqz (x : ZaF.D) : Z3E.lp 0 x = none := by kernel_rfl
theorem Zpt (k : Nat) : EOK Try.prog Zi k Z3E.E (.block 2 (.loop Z8a)) := Z2 T_ok Z81 Zqz ZqL Zrd k
theorem Zww (k : Nat) (x : Tup Z2S.ps) : Z2S.f (k + 1) x = fnK Z2S Zi Z41 k x := by kernel_rfl
theorem ZvN (x : Tup Z2S.ps) : Z2S.f 0 x = none := by kernel_rfl
theorem Zwg (k : Nat) : LOK Try.prog Zi k Z41 := LOK.by [(Z3y.E, .block 0 (.loop Z86)), (Z3E.E, .block 2 (.loop Z8a))] (by kernel_rfl) (AllOK.cons (ZoL k) (AllOK.cons (Zpt k) AllOK.nil))
theorem Zw2 (k : Nat) : SoundAt Try.prog k 102 Z2S.E := @Z1 Try.prog Z2S Zi 102 Try.f102 Z41 (by kernel_rfl) (by kernel_rfl) (by kernel_rfl) Try.func102 (by kernel_rfl) (by kernel_rfl) (by kernel_rfl) T_ok Z81 Zwg ZvN Zww k
noncomputable def Z9Q : List PK := [PK.mk (Ty.int .i64) false none false none, PK.mk Ty.bool false none false none]
noncomputable def ZnO : List PK := [PK.mk (Ty.pair (Ty.int .i64) (Ty.int .i64)) true none false none, PK.mk (Ty.int .i64) false none false none]
noncomputable def ZkD (r : Int × Bool) : Tup Z9Q × OutD := ((r.1, r.2, ()), none)
noncomputable def Zlw : Tup Z9Q × OutD → Option (Int × Bool)
 | (a, none) => some (a.1, a.2.1)
 | _ => none
theorem ZsZ : ∀ b r, Zlw b = some r → ZkD r = b := by
 rintro ⟨a, o⟩ r h
 cases o with
 | none => injection h with h; subst h; rfl
 | some _ => cases h
noncomputable def Zcx : Nat → Int × Int → Int → Option (Int × Bool)
 | 0, _, _ => none
 | k + 1, p0, p1 =>
  Option.bind (Z7L k (Prod.fst p0, Prod.snd p0)) fun z0 => if (!z0) = true then some ((0 : Int), false) else if decide (p1 < (-1 : Int)) = true then some ((0 : Int), false) else if decide (p1 > (1 : Int)) = true then some ((0 : Int), false) else if decide (Prod.fst p0 = (5 : Int)) = true then some ((0 : Int), false) else if decide (Prod.fst p0 = (1 : Int)) = true then some ((-1 : Int), true) else if decide (Prod.fst p0 = (2 : Int)) = true then some ((1 : Int), true) else if decide (Prod.fst p0 = (3 : Int)) = true then some (wrap64 (wrap64 ((2 : Int) * Prod.snd p0) - (1 : Int)), true) else if decide (Prod.fst p0 = (6 : Int)) = true then some (wrap64 (wrap64 ((2 : Int) * Prod.snd p0) - (1 : Int)), true) else if decide (Prod.fst p0 = (4 : Int)) = true then some (wrap64 ((0 : Int) - p1), true) else some ((0 : Int), true)
noncomputable def Z4A : FnDef := .of ZnO Z9Q (Int × Bool) (fun k x => Zcx k x.1 x.2.1) ZkD Zlw ZsZ
noncomputable def Zg7 : Code := Try.f106.body.getD .skip
noncomputable def Zcz : Ctx (Tup Z9Q × OutD) := { T := T, G := [(89, Z2j.E)], mvs := [], no := 0, n := 39, res := resOf T ZnO Z9Q Try.f106.results.toList, loops := [], regs := [], conds := [], cuts := [] }
theorem Zzu (k : Nat) : EnvOK Try.prog k Zcz.G := (EnvOK.cons (ZfO k) (EnvOK.nil mixed))
theorem Zzq (k : Nat) (x : Tup Z4A.ps) : Z4A.f (k + 1) x = fnK Z4A Zcz Zg7 k x := by kernel_rfl
theorem Zz5 (x : Tup Z4A.ps) : Z4A.f 0 x = none := by kernel_rfl
theorem Zyy (k : Nat) : LOK Try.prog Zcz k Zg7 := LOK.by [] (by kernel_rfl) AllOK.nil
theorem ZzL (k : Nat) : SoundAt Try.prog k 106 Z4A.E := @Z1 Try.prog Z4A Zcz 106 Try.f106 Zg7 (by kernel_rfl) (by kernel_rfl) (by kernel_rfl) Try.func106 (by kernel_rfl) (by kernel_rfl) (by kernel_rfl) T_ok Zzu Zyy Zz5 Zzq k
noncomputable def Z7D : List PK := []
noncomputable def Zog : List PK := [PK.mk (Ty.pair (Ty.int .i64) (Ty.pair (Ty.int .i64) (Ty.slice (73 : Nat) (Ty.pair (Ty.int .i64) (Ty.int .i64))))) true (some ((2 : Nat), (73 : Nat), Ty.pair (Ty.int .i64) (Ty.int .i64))) false none, PK.mk (Ty.slice (3 : Nat) (Ty.int .i64)) false none false none, PK.mk (Ty.int .i64) false none false none]
noncomputable def Zlr (r : List (Int × Int)) : Tup Z7D × OutD := ((()), some ⟨Ty.pair (Ty.int .i64) (Ty.int .i64), r⟩)
noncomputable def Zey : Tup Z7D × OutD → Option (List (Int × Int))
 | (a, some ⟨u, ys⟩) => if h : u = Ty.pair (Ty.int .i64) (Ty.int .i64) then some (castU h ys) else none
 | _ => none
theorem ZsG : ∀ b r, Zey b = some r → Zlr r = b := by
 rintro ⟨a, o⟩ r h
 cases o with
 | none => cases h
 | some s =>
  obtain ⟨u, ys⟩ := s
  simp only [Zey] at h
  split at h
  ·rename_i hu; subst hu; injection h with h; subst h; rfl
  ·cases h
noncomputable def Z1T : Nat → List (Int × Int) → Int → Int → List Int → Int → Int → Int → Option (List (Int × Int))
 | 0, _, _, _, _, _, _, _ => none
 | k + 1, o1, b2_0, b2_1, v1, v2, v28, v29 =>
  if decide (v29 < v28) = true then if (0 : Int) ≤ v29 then if v29 < (↑(List.length o1) : Int) then if decide (Prod.fst (List.getD o1 (Int.toNat v29) ((0 : Int), (0 : Int))) = (6 : Int)) = true then if (0 : Int) ≤ v29 then if v29 < (↑(List.length v1) : Int) then if (0 : Int) ≤ v2 then if v2 < (↑(List.length v1) : Int) then if decide (List.getD v1 (Int.toNat v29) (0 : Int) = List.getD v1 (Int.toNat v2) (0 : Int)) = true then Option.bind (Z9R k (Prod.fst (List.getD o1 (Int.toNat v29) ((0 : Int), (0 : Int))), Prod.snd (List.getD o1 (Int.toNat v29) ((0 : Int), (0 : Int))))) fun z1 => if (0 : Int) ≤ v29 then if v29 < (↑(List.length o1) : Int) then Z1T k (List.set o1 (Int.toNat v29) (Prod.fst z1, Prod.snd z1)) b2_0 b2_1 v1 v2 v28 (wrap64 (v29 + (1 : Int))) else none else none else Z1T k o1 b2_0 b2_1 v1 v2 v28 (wrap64 (v29 + (1 : Int))) else none else none else none else none else Z1T k o1 b2_0 b2_1 v1 v2 v28 (wrap64 (v29 + (1 : Int))) else none else none else some o1
noncomputable def ZcX : Spec := Spec.mk [OSh.ro, OSh.row false (73 : Nat) (Ty.pair (Ty.int .i64) (Ty.int .i64)), OSh.box (33 : Nat) [Sh.int .i64, Sh.int .i64, Sh.sl (1 : Nat)]] [((1 : Nat), TSh.at (Sh.snap (0 : Nat) (Ty.int .i64))), ((2 : Nat), TSh.at (Sh.int .i64)), ((3 : Nat), TSh.at (Sh.ptr (2 : Nat) (0 : Nat))), ((27 : Nat), TSh.at (Sh.sl (1 : Nat))), ((28 : Nat), TSh.at (Sh.int .i64)), ((29 : Nat), TSh.at (Sh.int .i64))]
noncomputable def Zu0 : Spec := Spec.mk [OSh.ro, OSh.row false (73 : Nat) (Ty.pair (Ty.int .i64) (Ty.int .i64))] []
noncomputable def Z5l : LoopDef (Tup Z7D × OutD) := .plain ZcX Zu0 (List (Int × Int)) (fun k x => Z1T k x.1.2.1 x.1.2.2.1.1 x.1.2.2.1.2.1 x.2.1 x.2.2.1 x.2.2.2.2.2.1 x.2.2.2.2.2.2.1) (fun z => (((), z, ()), (()))) (fun y => (y.1.2.1)) (fun _ => rfl)
noncomputable def Zcd : Nat → Int × Int × List (Int × Int) → List Int → Int → Option (List (Int × Int))
 | 0, _, _, _ => none
 | k + 1, p0, p1, p2 =>
  if (0 : Int) ≤ p2 then if p2 < (↑(List.length p0.2.2) : Int) then if decide (Prod.fst (List.getD p0.2.2 (Int.toNat p2) ((0 : Int), (0 : Int))) = (3 : Int)) = true then Option.bind (Z9R k (Prod.fst (List.getD p0.2.2 (Int.toNat p2) ((0 : Int), (0 : Int))), Prod.snd (List.getD p0.2.2 (Int.toNat p2) ((0 : Int), (0 : Int))))) fun z0 => if (0 : Int) ≤ p2 then if p2 < (↑(List.length p0.2.2) : Int) then some (List.set p0.2.2 (Int.toNat p2) (Prod.fst z0, Prod.snd z0)) else none else none else if decide (Prod.fst (List.getD p0.2.2 (Int.toNat p2) ((0 : Int), (0 : Int))) = (6 : Int)) = true then Option.bind (Z1T k p0.2.2 p0.1 p0.2.1 p1 p2 (↑(List.length p0.2.2) : Int) (0 : Int)) fun z2 => some z2 else some p0.2.2 else none else none
noncomputable def Z4D : FnDef := .of Zog Z7D (List (Int × Int)) (fun k x => Zcd k x.1 x.2.1 x.2.2.1) Zlr Zey ZsG
noncomputable def Zcv : Code := Try.f115.body.getD .skip
noncomputable def Z6h : Ctx (Tup Z7D × OutD) := { T := T, G := [(116, Z4v.E)], mvs := [], no := 1, n := 55, res := resOf T Zog Z7D Try.f115.results.toList, loops := [(1, Z5l.E)], regs := [], conds := [], cuts := [] }
theorem Zo7 (k : Nat) : EnvOK Try.prog k Z6h.G := (EnvOK.cons (Zyt k) (EnvOK.nil mixed))
noncomputable def Z9A : Code := (findLoop 1 Zcv).getD .skip
theorem ZtR (k : Nat) (x : ZcX.D) : Z5l.lp (k + 1) x = loopK Z6h Z5l 1 Z9A k x := by kernel_rfl
theorem Zum (k : Nat) : LOK Try.prog Z6h k Z9A := LOK.by [] (by kernel_rfl) AllOK.nil
theorem ZuK (x : ZcX.D) : Z5l.lp 0 x = none := by kernel_rfl
theorem ZrU (k : Nat) : EOK Try.prog Z6h k Z5l.E (.block 1 (.loop Z9A)) := Z2 T_ok Zo7 ZuK ZtR Zum k
theorem ZyR (k : Nat) (x : Tup Z4D.ps) : Z4D.f (k + 1) x = fnK Z4D Z6h Zcv k x := by kernel_rfl
theorem Zz9 (x : Tup Z4D.ps) : Z4D.f 0 x = none := by kernel_rfl
theorem ZyL (k : Nat) : LOK Try.prog Z6h k Zcv := LOK.by [(Z5l.E, .block 1 (.loop Z9A))] (by kernel_rfl) (AllOK.cons (ZrU k) AllOK.nil)
theorem Zzi (k : Nat) : SoundAt Try.prog k 115 Z4D.E := @Z1 Try.prog Z4D Z6h 115 Try.f115 Zcv (by kernel_rfl) (by kernel_rfl) (by kernel_rfl) Try.func115 (by kernel_rfl) (by kernel_rfl) (by kernel_rfl) T_ok Zo7 ZyL Zz9 ZyR k
end
end Go.Proofs.Ytpeflcbadgfebaa.Vs
