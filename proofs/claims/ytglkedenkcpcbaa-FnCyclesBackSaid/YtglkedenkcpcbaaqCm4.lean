/- The proof, part 5. -/
import Derived.Test.YtglkedenkcpcbaaqCm3
set_option maxRecDepth 100000
set_option maxHeartbeats 2000000
set_option linter.unusedVariables false
set_option linter.unusedSimpArgs false
namespace Go.Proofs.Ytglkedenkcpcbaa.Vs
open Go.RowKit
noncomputable section
noncomputable def ZeS : List PK := [PK.mk Ty.bool false none false none]
noncomputable def Zxl : List PK := [PK.mk (Ty.slice (5 : Nat) (Ty.int .u8)) false none false none, PK.mk (Ty.slice (5 : Nat) (Ty.int .u8)) false none false none]
noncomputable def Zuz (r : Bool) : Tup ZeS × OutD := ((r, ()), none)
noncomputable def ZuP : Tup ZeS × OutD → Option (Bool)
 | (a, none) => some (a.1)
 | _ => none
theorem Zyp : ∀ b r, ZuP b = some r → Zuz r = b := by
 rintro ⟨a, o⟩ r h
 cases o with
 | none => injection h with h; subst h; rfl
 | some _ => cases h
noncomputable def ZeR : Nat → List Int → List Int → Option Bool
 | 0, _, _ => none
 | k + 1, p0, p1 =>
  if gtS (↑(List.length p0) : Int) (1048576 : Int) = true then some true else some (decide ((↑(List.length p1) : Int) > wrap64 ((1048576 : Int) - (↑(List.length p0) : Int))))
noncomputable def Z8J : FnDef := .of Zxl ZeS (Bool) (fun k x => ZeR k x.1 x.2.1) Zuz ZuP Zyp
noncomputable def Zov : Code := Try.f5.body.getD .skip
noncomputable def ZiB : Ctx (Tup ZeS × OutD) := { T := T, G := [], mvs := [], no := 0, n := 16, res := resOf T Zxl ZeS Try.f5.results.toList, loops := [], regs := [], conds := [], cuts := [] }
theorem ZCi (k : Nat) : EnvOK Try.prog k ZiB.G := (EnvOK.nil mixed)
theorem ZCF (k : Nat) (x : Tup Z8J.ps) : Z8J.f (k + 1) x = fnK Z8J ZiB Zov k x := by kernel_rfl
theorem ZCE (x : Tup Z8J.ps) : Z8J.f 0 x = none := by kernel_rfl
theorem ZCq (k : Nat) : LOK Try.prog ZiB k Zov := LOK.by [] (by kernel_rfl) AllOK.nil
theorem ZCD (k : Nat) : SoundAt Try.prog k 5 Z8J.E := @Z4 Try.prog Z8J ZiB 5 Try.f5 Zov (by kernel_rfl) (by kernel_rfl) (by kernel_rfl) Try.func5 (by kernel_rfl) (by kernel_rfl) (by kernel_rfl) T_ok ZCi ZCq ZCE ZCF k
noncomputable def Z5b : List PK := [PK.mk Ty.bool false none false none]
noncomputable def ZhZ : List PK := [PK.mk (Ty.pair (Ty.int .i64) (Ty.pair (Ty.int .i64) (Ty.slice (71 : Nat) (Ty.pair (Ty.int .i64) (Ty.int .i64))))) true none false none, PK.mk (Ty.pair (Ty.int .i64) (Ty.pair (Ty.int .i64) (Ty.slice (71 : Nat) (Ty.pair (Ty.int .i64) (Ty.int .i64))))) true none false none]
noncomputable def ZbL (r : Bool) : Tup Z5b × OutD := ((r, ()), none)
noncomputable def ZbQ : Tup Z5b × OutD → Option (Bool)
 | (a, none) => some (a.1)
 | _ => none
theorem ZeF : ∀ b r, ZbQ b = some r → ZbL r = b := by
 rintro ⟨a, o⟩ r h
 cases o with
 | none => injection h with h; subst h; rfl
 | some _ => cases h
noncomputable def Z3W : Nat → Int → Int → List (Int × Int) → Int → Int → List (Int × Int) → Int → Int → Option (LR Unit Bool)
 | 0, _, _, _, _, _, _, _, _ => none
 | k + 1, b1_0, b1_1, b1_2, b2_0, b2_1, b2_2, v29, v30 =>
  if decide (v30 < v29) = true then if (0 : Int) ≤ v30 then if v30 < (↑(List.length b1_2) : Int) then if (0 : Int) ≤ v30 then if v30 < (↑(List.length b2_2) : Int) then if (!(decide (Prod.fst (List.getD b1_2 (Int.toNat v30) ((0 : Int), (0 : Int))) = Prod.fst (List.getD b2_2 (Int.toNat v30) ((0 : Int), (0 : Int)))) && (decide (Prod.snd (List.getD b1_2 (Int.toNat v30) ((0 : Int), (0 : Int))) = Prod.snd (List.getD b2_2 (Int.toNat v30) ((0 : Int), (0 : Int)))) && true))) = true then some (LR.ret false) else Z3W k b1_0 b1_1 b1_2 b2_0 b2_1 b2_2 v29 (wrap64 (v30 + (1 : Int))) else none else none else none else none else some (LR.go ())
noncomputable def ZaK : Spec := Spec.mk [OSh.ro, OSh.box (26 : Nat) [Sh.int .i64, Sh.int .i64, Sh.snap (0 : Nat) (Ty.pair (Ty.int .i64) (Ty.int .i64))], OSh.box (26 : Nat) [Sh.int .i64, Sh.int .i64, Sh.snap (0 : Nat) (Ty.pair (Ty.int .i64) (Ty.int .i64))]] [((2 : Nat), TSh.at (Sh.ptr (1 : Nat) (0 : Nat))), ((3 : Nat), TSh.at (Sh.ptr (2 : Nat) (0 : Nat))), ((29 : Nat), TSh.at (Sh.int .i64)), ((30 : Nat), TSh.at (Sh.int .i64))]
noncomputable def ZoY : Spec := Spec.mk [OSh.ro] []
noncomputable def Z3C : LoopDef (Tup Z5b × OutD) := .rets ZaK ZoY (Unit) (Bool) (fun k x => Z3W k x.1.2.1.1 x.1.2.1.2.1 x.1.2.1.2.2.1 x.1.2.2.1.1 x.1.2.2.1.2.1 x.1.2.2.1.2.2.1 x.2.2.2.1 x.2.2.2.2.1) (fun z => (((), ()), (()))) (fun y => ()) (fun _ => rfl) ZbL ZbQ ZeF
noncomputable def Z25 : Nat → Int × Int × List (Int × Int) → Int × Int × List (Int × Int) → Option Bool
 | 0, _, _ => none
 | k + 1, p0, p1 =>
  if decide (Prod.fst p0 ≠ Prod.fst p1) = true then some false else if decide (Prod.fst p0.2 ≠ Prod.fst p1.2) = true then some false else if decide ((↑(List.length p0.2.2) : Int) ≠ (↑(List.length p1.2.2) : Int)) = true then some false else Option.bind (Z3W k p0.1 p0.2.1 p0.2.2 p1.1 p1.2.1 p1.2.2 (↑(List.length p0.2.2) : Int) (0 : Int)) fun z0 => LR.on z0 (fun y0 => some true) fun r0 => some r0
noncomputable def Z2R : FnDef := .of ZhZ Z5b (Bool) (fun k x => Z25 k x.1 x.2.1) ZbL ZbQ ZeF
noncomputable def Z9L : Code := Try.f16.body.getD .skip
noncomputable def Z3F : Ctx (Tup Z5b × OutD) := { T := T, G := [], mvs := [], no := 0, n := 45, res := resOf T ZhZ Z5b Try.f16.results.toList, loops := [(0, Z3C.E)], regs := [], conds := [], cuts := [] }
theorem ZhR (k : Nat) : EnvOK Try.prog k Z3F.G := (EnvOK.nil mixed)
noncomputable def Z7F : Code := (findLoop 0 Z9L).getD .skip
theorem ZoE (k : Nat) (x : ZaK.D) : Z3C.lp (k + 1) x = loopK Z3F Z3C 0 Z7F k x := by kernel_rfl
theorem ZoB (k : Nat) : LOK Try.prog Z3F k Z7F := LOK.by [] (by kernel_rfl) AllOK.nil
theorem ZoP (x : ZaK.D) : Z3C.lp 0 x = none := by kernel_rfl
theorem Zn0 (k : Nat) : EOK Try.prog Z3F k Z3C.E (.block 0 (.loop Z7F)) := Z8 T_ok ZhR ZoP ZoE ZoB k
theorem Zu5 (k : Nat) (x : Tup Z2R.ps) : Z2R.f (k + 1) x = fnK Z2R Z3F Z9L k x := by kernel_rfl
theorem ZsO (x : Tup Z2R.ps) : Z2R.f 0 x = none := by kernel_rfl
theorem ZtG (k : Nat) : LOK Try.prog Z3F k Z9L := LOK.by [(Z3C.E, .block 0 (.loop Z7F))] (by kernel_rfl) (AllOK.cons (Zn0 k) AllOK.nil)
theorem ZtS (k : Nat) : SoundAt Try.prog k 16 Z2R.E := @Z4 Try.prog Z2R Z3F 16 Try.f16 Z9L (by kernel_rfl) (by kernel_rfl) (by kernel_rfl) Try.func16 (by kernel_rfl) (by kernel_rfl) (by kernel_rfl) T_ok ZhR ZtG ZsO Zu5 k
noncomputable def Z6W : List PK := [PK.mk Ty.bool false none false none]
noncomputable def ZkX : List PK := [PK.mk (Ty.slice (3 : Nat) (Ty.int .i64)) false none false none, PK.mk (Ty.slice (3 : Nat) (Ty.int .i64)) false none false none]
noncomputable def Ze3 (r : Bool) : Tup Z6W × OutD := ((r, ()), none)
noncomputable def Ze5 : Tup Z6W × OutD → Option (Bool)
 | (a, none) => some (a.1)
 | _ => none
theorem ZfT : ∀ b r, Ze5 b = some r → Ze3 r = b := by
 rintro ⟨a, o⟩ r h
 cases o with
 | none => injection h with h; subst h; rfl
 | some _ => cases h
noncomputable def Z57 : Nat → List Int → List Int → Int → Int → Option (LR Unit Bool)
 | 0, _, _, _, _ => none
 | k + 1, v0, v1, v12, v13 =>
  if decide (v13 < v12) = true then if (0 : Int) ≤ v13 then if v13 < (↑(List.length v0) : Int) then if (0 : Int) ≤ v13 then if v13 < (↑(List.length v1) : Int) then if decide (List.getD v0 (Int.toNat v13) (0 : Int) ≠ List.getD v1 (Int.toNat v13) (0 : Int)) = true then some (LR.ret false) else Z57 k v0 v1 v12 (wrap64 (v13 + (1 : Int))) else none else none else none else none else some (LR.go ())
noncomputable def ZbI : Spec := Spec.mk [OSh.ro] [((0 : Nat), TSh.at (Sh.snap (0 : Nat) (Ty.int .i64))), ((1 : Nat), TSh.at (Sh.snap (0 : Nat) (Ty.int .i64))), ((12 : Nat), TSh.at (Sh.int .i64)), ((13 : Nat), TSh.at (Sh.int .i64))]
noncomputable def ZrX : Spec := Spec.mk [OSh.ro] []
noncomputable def Z4x : LoopDef (Tup Z6W × OutD) := .rets ZbI ZrX (Unit) (Bool) (fun k x => Z57 k x.2.1 x.2.2.1 x.2.2.2.1 x.2.2.2.2.1) (fun z => (((), ()), (()))) (fun y => ()) (fun _ => rfl) Ze3 Ze5 ZfT
noncomputable def Z96 : Nat → List Int → List Int → Option Bool
 | 0, _, _ => none
 | k + 1, p0, p1 =>
  if decide ((↑(List.length p0) : Int) ≠ (↑(List.length p1) : Int)) = true then some false else Option.bind (Z57 k p0 p1 (↑(List.length p0) : Int) (0 : Int)) fun z0 => LR.on z0 (fun y0 => some true) fun r0 => some r0
noncomputable def Z3H : FnDef := .of ZkX Z6W (Bool) (fun k x => Z96 k x.1 x.2.1) Ze3 Ze5 ZfT
noncomputable def Zbm : Code := Try.f17.body.getD .skip
noncomputable def Z4O : Ctx (Tup Z6W × OutD) := { T := T, G := [], mvs := [], no := 0, n := 26, res := resOf T ZkX Z6W Try.f17.results.toList, loops := [(0, Z4x.E)], regs := [], conds := [], cuts := [] }
theorem Zl6 (k : Nat) : EnvOK Try.prog k Z4O.G := (EnvOK.nil mixed)
noncomputable def Z8V : Code := (findLoop 0 Zbm).getD .skip
theorem Zrq (k : Nat) (x : ZbI.D) : Z4x.lp (k + 1) x = loopK Z4O Z4x 0 Z8V k x := by kernel_rfl
theorem Zrv (k : Nat) : LOK Try.prog Z4O k Z8V := LOK.by [] (by kernel_rfl) AllOK.nil
theorem Zs4 (x : ZbI.D) : Z4x.lp 0 x = none := by kernel_rfl
theorem Zq7 (k : Nat) : EOK Try.prog Z4O k Z4x.E (.block 0 (.loop Z8V)) := Z8 T_ok Zl6 Zs4 Zrq Zrv k
theorem ZwE (k : Nat) (x : Tup Z3H.ps) : Z3H.f (k + 1) x = fnK Z3H Z4O Zbm k x := by kernel_rfl
theorem ZwY (x : Tup Z3H.ps) : Z3H.f 0 x = none := by kernel_rfl
theorem ZwA (k : Nat) : LOK Try.prog Z4O k Zbm := LOK.by [(Z4x.E, .block 0 (.loop Z8V))] (by kernel_rfl) (AllOK.cons (Zq7 k) AllOK.nil)
theorem Zxs (k : Nat) : SoundAt Try.prog k 17 Z3H.E := @Z4 Try.prog Z3H Z4O 17 Try.f17 Zbm (by kernel_rfl) (by kernel_rfl) (by kernel_rfl) Try.func17 (by kernel_rfl) (by kernel_rfl) (by kernel_rfl) T_ok Zl6 ZwA ZwY ZwE k
noncomputable def Zct : List PK := [PK.mk Ty.bool false none false none]
noncomputable def ZwS : List PK := [PK.mk (Ty.slice (3 : Nat) (Ty.int .i64)) false none false none, PK.mk (Ty.int .i64) false none false none]
noncomputable def Zm4 (r : Bool) : Tup Zct × OutD := ((r, ()), none)
noncomputable def Zmf : Tup Zct × OutD → Option (Bool)
 | (a, none) => some (a.1)
 | _ => none
theorem ZnG : ∀ b r, Zmf b = some r → Zm4 r = b := by
 rintro ⟨a, o⟩ r h
 cases o with
 | none => injection h with h; subst h; rfl
 | some _ => cases h
noncomputable def Za5 : Nat → Int → List Int → Int → Int → Option (LR Unit Bool)
 | 0, _, _, _, _ => none
 | k + 1, v1, v7, v8, v9 =>
  if decide (v9 < v8) = true then if (0 : Int) ≤ v9 then if v9 < (↑(List.length v7) : Int) then if decide (List.getD v7 (Int.toNat v9) (0 : Int) = v1) = true then some (LR.ret true) else Za5 k v1 v7 v8 (wrap64 (v9 + (1 : Int))) else none else none else some (LR.go ())
noncomputable def Zhl : Spec := Spec.mk [OSh.ro] [((1 : Nat), TSh.at (Sh.int .i64)), ((7 : Nat), TSh.at (Sh.snap (0 : Nat) (Ty.int .i64))), ((8 : Nat), TSh.at (Sh.int .i64)), ((9 : Nat), TSh.at (Sh.int .i64))]
noncomputable def Zz8 : Spec := Spec.mk [OSh.ro] []
noncomputable def Z8E : LoopDef (Tup Zct × OutD) := .rets Zhl Zz8 (Unit) (Bool) (fun k x => Za5 k x.2.1 x.2.2.1 x.2.2.2.1 x.2.2.2.2.1) (fun z => (((), ()), (()))) (fun y => ()) (fun _ => rfl) Zm4 Zmf ZnG
noncomputable def Zcd : Nat → List Int → Int → Option Bool
 | 0, _, _ => none
 | k + 1, p0, p1 =>
  Option.bind (Za5 k p1 p0 (↑(List.length p0) : Int) (0 : Int)) fun z0 => LR.on z0 (fun y0 => some false) fun r0 => some r0
noncomputable def Z90 : FnDef := .of ZwS Zct (Bool) (fun k x => Zcd k x.1 x.2.1) Zm4 Zmf ZnG
noncomputable def ZiM : Code := Try.f20.body.getD .skip
noncomputable def Zas : Ctx (Tup Zct × OutD) := { T := T, G := [], mvs := [], no := 0, n := 17, res := resOf T ZwS Zct Try.f20.results.toList, loops := [(0, Z8E.E)], regs := [], conds := [], cuts := [] }
theorem Zxr (k : Nat) : EnvOK Try.prog k Zas.G := (EnvOK.nil mixed)
noncomputable def Zdz : Code := (findLoop 0 ZiM).getD .skip
theorem ZzW (k : Nat) (x : Zhl.D) : Z8E.lp (k + 1) x = loopK Zas Z8E 0 Zdz k x := by kernel_rfl
theorem ZAf (k : Nat) : LOK Try.prog Zas k Zdz := LOK.by [] (by kernel_rfl) AllOK.nil
theorem Zz6 (x : Zhl.D) : Z8E.lp 0 x = none := by kernel_rfl
theorem ZxS (k : Nat) : EOK Try.prog Zas k Z8E.E (.block 0 (.loop Zdz)) := Z8 T_ok Zxr Zz6 ZzW ZAf k
theorem ZCH (k : Nat) (x : Tup Z90.ps) : Z90.f (k + 1) x = fnK Z90 Zas ZiM k x := by kernel_rfl
theorem ZCp (x : Tup Z90.ps) : Z90.f 0 x = none := by kernel_rfl
theorem ZCA (k : Nat) : LOK Try.prog Zas k ZiM := LOK.by [(Z8E.E, .block 0 (.loop Zdz))] (by kernel_rfl) (AllOK.cons (ZxS k) AllOK.nil)
theorem ZCf (k : Nat) : SoundAt Try.prog k 20 Z90.E := @Z4 Try.prog Z90 Zas 20 Try.f20 ZiM (by kernel_rfl) (by kernel_rfl) (by kernel_rfl) Try.func20 (by kernel_rfl) (by kernel_rfl) (by kernel_rfl) T_ok Zxr ZCA ZCp ZCH k
noncomputable def Z6Y : List PK := [PK.mk (Ty.int .i64) false none false none]
noncomputable def Zlj : List PK := [PK.mk (Ty.slice (3 : Nat) (Ty.int .i64)) false none false none]
noncomputable def Zjw (r : Int) : Tup Z6Y × OutD := ((r, ()), none)
noncomputable def ZjP : Tup Z6Y × OutD → Option (Int)
 | (a, none) => some (a.1)
 | _ => none
theorem Zqh : ∀ b r, ZjP b = some r → Zjw r = b := by
 rintro ⟨a, o⟩ r h
 cases o with
 | none => injection h with h; subst h; rfl
 | some _ => cases h
noncomputable def Z5e : Nat → Int → List Int → Int → Int → Option Int
 | 0, _, _, _, _ => none
 | k + 1, v3, v6, v7, v8 =>
  if decide (v8 < v7) = true then if (0 : Int) ≤ v8 then if v8 < (↑(List.length v6) : Int) then if v8 < (0 : Int) then none else Z5e k (bits BinOp.or IntKind.i64 v3 (shlS (List.getD v6 (Int.toNat v8) (0 : Int)) v8)) v6 v7 (wrap64 (v8 + (1 : Int))) else none else none else some v3
noncomputable def Zc9 : Spec := Spec.mk [OSh.ro] [((3 : Nat), TSh.at (Sh.int .i64)), ((6 : Nat), TSh.at (Sh.snap (0 : Nat) (Ty.int .i64))), ((7 : Nat), TSh.at (Sh.int .i64)), ((8 : Nat), TSh.at (Sh.int .i64))]
noncomputable def ZqR : Spec := Spec.mk [OSh.ro] [((3 : Nat), TSh.at (Sh.int .i64))]
noncomputable def Z4m : LoopDef (Tup Z6Y × OutD) := .plain Zc9 ZqR (Int) (fun k x => Z5e k x.2.1 x.2.2.1 x.2.2.2.1 x.2.2.2.2.1) (fun z => (((), ()), (z, ()))) (fun y => (y.2.1)) (fun _ => rfl)
noncomputable def Z3R : Nat → List Int → Option Int
 | 0, _ => none
 | k + 1, p0 =>
  Option.bind (Z5e k (0 : Int) p0 (↑(List.length p0) : Int) (0 : Int)) fun z0 => some z0
noncomputable def Z1G : FnDef := .of Zlj Z6Y (Int) (fun k x => Z3R k x.1) Zjw ZjP Zqh
noncomputable def Zbo : Code := Try.f40.body.getD .skip
noncomputable def Z51 : Ctx (Tup Z6Y × OutD) := { T := T, G := [], mvs := [], no := 0, n := 20, res := resOf T Zlj Z6Y Try.f40.results.toList, loops := [(0, Z4m.E)], regs := [], conds := [], cuts := [] }
theorem Zll (k : Nat) : EnvOK Try.prog k Z51.G := (EnvOK.nil mixed)
noncomputable def Z91 : Code := (findLoop 0 Zbo).getD .skip
theorem Zrx (k : Nat) (x : Zc9.D) : Z4m.lp (k + 1) x = loopK Z51 Z4m 0 Z91 k x := by kernel_rfl
theorem Zsv (k : Nat) : LOK Try.prog Z51 k Z91 := LOK.by [] (by kernel_rfl) AllOK.nil
theorem ZrO (x : Zc9.D) : Z4m.lp 0 x = none := by kernel_rfl
theorem Zq9 (k : Nat) : EOK Try.prog Z51 k Z4m.E (.block 0 (.loop Z91)) := Z8 T_ok Zll ZrO Zrx Zsv k
theorem ZxG (k : Nat) (x : Tup Z1G.ps) : Z1G.f (k + 1) x = fnK Z1G Z51 Zbo k x := by kernel_rfl
theorem Zxj (x : Tup Z1G.ps) : Z1G.f 0 x = none := by kernel_rfl
theorem ZwH (k : Nat) : LOK Try.prog Z51 k Zbo := LOK.by [(Z4m.E, .block 0 (.loop Z91))] (by kernel_rfl) (AllOK.cons (Zq9 k) AllOK.nil)
theorem Zbn (k : Nat) : SoundAt Try.prog k 40 Z1G.E := @Z4 Try.prog Z1G Z51 40 Try.f40 Zbo (by kernel_rfl) (by kernel_rfl) (by kernel_rfl) Try.func40 (by kernel_rfl) (by kernel_rfl) (by kernel_rfl) T_ok Zll ZwH Zxj ZxG k
noncomputable def Z5U : List PK := [PK.mk (Ty.pair (Ty.int .i64) (Ty.pair (Ty.int .i64) (Ty.slice (71 : Nat) (Ty.pair (Ty.int .i64) (Ty.int .i64))))) true none false none]
noncomputable def Zjn : List PK := [PK.mk (Ty.pair (Ty.int .i64) (Ty.pair (Ty.int .i64) (Ty.slice (71 : Nat) (Ty.pair (Ty.int .i64) (Ty.int .i64))))) true none false none]
noncomputable def ZhQ (r : Int × Int × List (Int × Int)) : Tup Z5U × OutD := ((r, ()), none)
noncomputable def Zi5 : Tup Z5U × OutD → Option (Int × Int × List (Int × Int))
 | (a, none) => some (a.1)
 | _ => none
theorem Zoe : ∀ b r, Zi5 b = some r → ZhQ r = b := by
 rintro ⟨a, o⟩ r h
 cases o with
 | none => injection h with h; subst h; rfl
 | some _ => cases h
noncomputable def Z40 : Nat → Int → Int → List (Int × Int) → Int → Int → List (Int × Int) → Option (Int × Int × List (Int × Int)) := fun k b1_0 b1_1 b1_2 b2_0 b2_1 o3 =>
    if (0 : Nat) + List.length b1_2 ≤ (140737488355328 / 16 : Nat) then some (b1_0, b1_1, b1_2) else none
noncomputable def Z7K : Nat → Int → Int → List (Int × Int) → Int → Int → List (Int × Int) → Option (List (Int × Int × List (Int × Int))) := fun k b1_0 b1_1 b1_2 b2_0 b2_1 o3 =>
    joinL (joinL (if (0 : Nat) + List.length b1_2 ≤ (140737488355328 / 16 : Nat) then some [(b1_0, b1_1, b1_2)] else none) (joinL (if (0 : Nat) + List.length b1_2 ≤ (140737488355328 / 16 : Nat) then some [(b1_0, b1_1, b1_2)] else none) (if (0 : Nat) + List.length b1_2 ≤ (140737488355328 / 16 : Nat) then some [(b1_0, b1_1, b1_2)] else none))) (joinL (joinL (if (0 : Nat) + List.length b1_2 ≤ (140737488355328 / 16 : Nat) then some [(b1_0, b1_1, b1_2)] else none) (joinL (if (0 : Nat) + List.length b1_2 ≤ (140737488355328 / 16 : Nat) then some [(b1_0, b1_1, b1_2)] else none) (if (0 : Nat) + List.length b1_2 ≤ (140737488355328 / 16 : Nat) then some [(b1_0, b1_1, b1_2)] else none))) (joinL (joinL (if (0 : Nat) + List.length b1_2 ≤ (140737488355328 / 16 : Nat) then some [(b1_0, b1_1, b1_2)] else none) (if (0 : Nat) + List.length b1_2 ≤ (140737488355328 / 16 : Nat) then some [(b1_0, b1_1, b1_2)] else none)) (joinL (joinL (if (0 : Nat) + List.length b1_2 ≤ (140737488355328 / 16 : Nat) then some [(b1_0, b1_1, b1_2)] else none) (if (0 : Nat) + List.length b1_2 ≤ (140737488355328 / 16 : Nat) then some [(b1_0, b1_1, b1_2)] else none)) (if (0 : Nat) + List.length b1_2 ≤ (140737488355328 / 16 : Nat) then joinL (some [(b1_0, b1_1, b1_2)]) (some [(b1_0, b1_1, b1_2)]) else none))))
noncomputable def Zf3 : Spec := Spec.mk [OSh.ro, OSh.box (26 : Nat) [Sh.int .i64, Sh.int .i64, Sh.snap (0 : Nat) (Ty.pair (Ty.int .i64) (Ty.int .i64))], OSh.box (26 : Nat) [Sh.int .i64, Sh.int .i64, Sh.sl (3 : Nat)], OSh.row true (71 : Nat) (Ty.pair (Ty.int .i64) (Ty.int .i64))] [((1 : Nat), TSh.at (Sh.ptr (1 : Nat) (0 : Nat))), ((2 : Nat), TSh.at (Sh.ptr (2 : Nat) (0 : Nat)))]
noncomputable def Zok : Spec := Spec.mk [OSh.ro, OSh.box (26 : Nat) [Sh.int .i64, Sh.int .i64, Sh.sl (2 : Nat)], OSh.row true (71 : Nat) (Ty.pair (Ty.int .i64) (Ty.int .i64))] [((2 : Nat), TSh.at (Sh.ptr (1 : Nat) (0 : Nat)))]
noncomputable def Z3w : LoopDef (Tup Z5U × OutD) := .plain Zf3 Zok (Int × Int × List (Int × Int)) (fun k x => Z40 k x.1.2.1.1 x.1.2.1.2.1 x.1.2.1.2.2.1 x.1.2.2.1.1 x.1.2.2.1.2.1 x.1.2.2.2.1) (fun z => (((), (z.1, z.2.1, (), ()), z.2.2, ()), ((), ()))) (fun y => (y.1.2.1.1, y.1.2.1.2.1, y.1.2.2.1)) (fun _ => rfl)
theorem Zom (k : Nat) (b1_0 : Int) (b1_1 : Int) (b1_2 : List (Int × Int)) (b2_0 : Int) (b2_1 : Int) (o3 : List (Int × Int)) : Z7K k b1_0 b1_1 b1_2 b2_0 b2_1 o3 = repl 12 (Z40 k b1_0 b1_1 b1_2 b2_0 b2_1 o3) := by
 first
 | (simp only [Z7K, Z40, Zh, Zo, Zg, Zi, Ze, Z3, if_true]; done)
 | (simp only [Z7K, Z40, Zh, Zo, Zg, Zi, Ze, Z3, if_true]; simp only [Z1E, Z1D, Z3k, Z3]; simp only [Z4r]; exact Z2g ⟨fun h => by simp only [h, and_self], fun h => by simp only [h, and_self]⟩)
noncomputable def Z68 : Nat → Int × Int × List (Int × Int) → Option (Int × Int × List (Int × Int))
 | 0, _ => none
 | k + 1, p0 =>
  Option.bind (Z40 k p0.1 p0.2.1 p0.2.2 (0 : Int) (0 : Int) []) fun z0 => some (Prod.fst z0, Prod.fst z0.2, Prod.snd z0.2)
noncomputable def Z1P : FnDef := .of Zjn Z5U (Int × Int × List (Int × Int)) (fun k x => Z68 k x.1) ZhQ Zi5 Zoe
noncomputable def ZaI : Code := Try.f54.body.getD .skip
noncomputable def Z1S : Ctx (Tup Z5U × OutD) := { T := T, G := [], mvs := [], no := 0, n := 12, res := resOf T Zjn Z5U Try.f54.results.toList, loops := [], regs := [(1, Z3w.E)], conds := [], cuts := [] }
theorem Zjz (k : Nat) : EnvOK Try.prog k Z1S.G := (EnvOK.nil mixed)
noncomputable def Zah : Array Oper := (findReg 1 ZaI).getD #[]
theorem ZoK (k : Nat) (x : Zf3.D) : execD Z1S.T Z1S.G Z1S.mvs k Zah (Z3w.inp.st Z1S.n x) (outK Z1S Z3w) = Z7K k x.1.2.1.1 x.1.2.1.2.1 x.1.2.1.2.2.1 x.1.2.2.1.1 x.1.2.2.1.2.1 x.1.2.2.2.1 := by kernel_rfl
theorem ZnB (k : Nat) : EOK Try.prog Z1S k Z3w.E (.region 1 Zah true) := Z6K (D := Z3w) (m := 12) T_ok (Zjz k) (fun x => (ZoK k x).trans (Zom k x.1.2.1.1 x.1.2.1.2.1 x.1.2.1.2.2.1 x.1.2.2.1.1 x.1.2.2.1.2.1 x.1.2.2.2.1))
theorem Zw6 (k : Nat) (x : Tup Z1P.ps) : Z1P.f (k + 1) x = fnK Z1P Z1S ZaI k x := by kernel_rfl
theorem Zvd (x : Tup Z1P.ps) : Z1P.f 0 x = none := by kernel_rfl
theorem Zvv (k : Nat) : LOK Try.prog Z1S k ZaI := LOK.by [(Z3w.E, .region 1 Zah true)] (by kernel_rfl) (AllOK.cons (ZnB k) AllOK.nil)
theorem Ze7 (k : Nat) : SoundAt Try.prog k 54 Z1P.E := @Z4 Try.prog Z1P Z1S 54 Try.f54 ZaI (by kernel_rfl) (by kernel_rfl) (by kernel_rfl) Try.func54 (by kernel_rfl) (by kernel_rfl) (by kernel_rfl) T_ok Zjz Zvv Zvd Zw6 k
noncomputable def Zb3 : List PK := [PK.mk (Ty.int .i64) false none false none]
noncomputable def Zpx : List PK := [PK.mk (Ty.int .i64) false none false none, PK.mk (Ty.int .i64) false none false none]
noncomputable def ZnR (r : Int) : Tup Zb3 × OutD := ((r, ()), none)
noncomputable def Znt : Tup Zb3 × OutD → Option (Int)
 | (a, none) => some (a.1)
 | _ => none
theorem ZtV : ∀ b r, Znt b = some r → ZnR r = b := by
 rintro ⟨a, o⟩ r h
 cases o with
 | none => injection h with h; subst h; rfl
 | some _ => cases h
noncomputable def Zb1 : Nat → Int → Int → Option Int
 | 0, _, _ => none
 | k + 1, p0, p1 =>
  if decide (p0 > p1) = true then some p0 else some p1
noncomputable def Z5s : FnDef := .of Zpx Zb3 (Int) (fun k x => Zb1 k x.1 x.2.1) ZnR Znt ZtV
noncomputable def Zhk : Code := Try.f59.body.getD .skip
noncomputable def ZdJ : Ctx (Tup Zb3 × OutD) := { T := T, G := [], mvs := [], no := 0, n := 10, res := resOf T Zpx Zb3 Try.f59.results.toList, loops := [], regs := [], conds := [], cuts := [] }
theorem ZzG (k : Nat) : EnvOK Try.prog k ZdJ.G := (EnvOK.nil mixed)
theorem ZA2 (k : Nat) (x : Tup Z5s.ps) : Z5s.f (k + 1) x = fnK Z5s ZdJ Zhk k x := by kernel_rfl
theorem ZA9 (x : Tup Z5s.ps) : Z5s.f 0 x = none := by kernel_rfl
theorem Zze (k : Nat) : LOK Try.prog ZdJ k Zhk := LOK.by [] (by kernel_rfl) AllOK.nil
theorem Zz7 (k : Nat) : SoundAt Try.prog k 59 Z5s.E := @Z4 Try.prog Z5s ZdJ 59 Try.f59 Zhk (by kernel_rfl) (by kernel_rfl) (by kernel_rfl) Try.func59 (by kernel_rfl) (by kernel_rfl) (by kernel_rfl) T_ok ZzG Zze ZA9 ZA2 k
noncomputable def Za9 : List PK := [PK.mk (Ty.pair (Ty.int .i64) (Ty.pair (Ty.int .i64) (Ty.slice (71 : Nat) (Ty.pair (Ty.int .i64) (Ty.int .i64))))) true none false none]
noncomputable def ZrC : List PK := [PK.mk (Ty.pair (Ty.int .i64) (Ty.pair (Ty.int .i64) (Ty.slice (71 : Nat) (Ty.pair (Ty.int .i64) (Ty.int .i64))))) true none false none]
noncomputable def ZpA (r : Int × Int × List (Int × Int)) : Tup Za9 × OutD := ((r, ()), none)
noncomputable def Zpf : Tup Za9 × OutD → Option (Int × Int × List (Int × Int))
 | (a, none) => some (a.1)
 | _ => none
theorem Zvg : ∀ b r, Zpf b = some r → ZpA r = b := by
 rintro ⟨a, o⟩ r h
 cases o with
 | none => injection h with h; subst h; rfl
 | some _ => cases h
noncomputable def Z78 : Nat → Int → Int → List (Int × Int) → Int → Int → List (Int × Int) → Option (Int × Int × List (Int × Int)) := fun k b1_0 b1_1 b1_2 b2_0 b2_1 o3 =>
    if (0 : Nat) + List.length b1_2 ≤ (140737488355328 / 16 : Nat) then some (b1_0, b1_1, b1_2) else none
noncomputable def ZaC : Nat → Int → Int → List (Int × Int) → Int → Int → List (Int × Int) → Option (List (Int × Int × List (Int × Int))) := fun k b1_0 b1_1 b1_2 b2_0 b2_1 o3 =>
    joinL (joinL (if (0 : Nat) + List.length b1_2 ≤ (140737488355328 / 16 : Nat) then some [(b1_0, b1_1, b1_2)] else none) (joinL (if (0 : Nat) + List.length b1_2 ≤ (140737488355328 / 16 : Nat) then some [(b1_0, b1_1, b1_2)] else none) (if (0 : Nat) + List.length b1_2 ≤ (140737488355328 / 16 : Nat) then some [(b1_0, b1_1, b1_2)] else none))) (joinL (joinL (if (0 : Nat) + List.length b1_2 ≤ (140737488355328 / 16 : Nat) then some [(b1_0, b1_1, b1_2)] else none) (joinL (if (0 : Nat) + List.length b1_2 ≤ (140737488355328 / 16 : Nat) then some [(b1_0, b1_1, b1_2)] else none) (if (0 : Nat) + List.length b1_2 ≤ (140737488355328 / 16 : Nat) then some [(b1_0, b1_1, b1_2)] else none))) (joinL (joinL (if (0 : Nat) + List.length b1_2 ≤ (140737488355328 / 16 : Nat) then some [(b1_0, b1_1, b1_2)] else none) (if (0 : Nat) + List.length b1_2 ≤ (140737488355328 / 16 : Nat) then some [(b1_0, b1_1, b1_2)] else none)) (joinL (joinL (if (0 : Nat) + List.length b1_2 ≤ (140737488355328 / 16 : Nat) then some [(b1_0, b1_1, b1_2)] else none) (if (0 : Nat) + List.length b1_2 ≤ (140737488355328 / 16 : Nat) then some [(b1_0, b1_1, b1_2)] else none)) (if (0 : Nat) + List.length b1_2 ≤ (140737488355328 / 16 : Nat) then joinL (some [(b1_0, b1_1, b1_2)]) (some [(b1_0, b1_1, b1_2)]) else none))))
noncomputable def ZjE : Spec := Spec.mk [OSh.ro, OSh.box (26 : Nat) [Sh.int .i64, Sh.int .i64, Sh.snap (0 : Nat) (Ty.pair (Ty.int .i64) (Ty.int .i64))], OSh.box (26 : Nat) [Sh.int .i64, Sh.int .i64, Sh.sl (3 : Nat)], OSh.row true (71 : Nat) (Ty.pair (Ty.int .i64) (Ty.int .i64))] [((1 : Nat), TSh.at (Sh.ptr (1 : Nat) (0 : Nat))), ((2 : Nat), TSh.at (Sh.ptr (2 : Nat) (0 : Nat)))]
noncomputable def Zwg : Spec := Spec.mk [OSh.ro, OSh.box (26 : Nat) [Sh.int .i64, Sh.int .i64, Sh.sl (2 : Nat)], OSh.row true (71 : Nat) (Ty.pair (Ty.int .i64) (Ty.int .i64))] [((2 : Nat), TSh.at (Sh.ptr (1 : Nat) (0 : Nat)))]
noncomputable def Z6d : LoopDef (Tup Za9 × OutD) := .plain ZjE Zwg (Int × Int × List (Int × Int)) (fun k x => Z78 k x.1.2.1.1 x.1.2.1.2.1 x.1.2.1.2.2.1 x.1.2.2.1.1 x.1.2.2.1.2.1 x.1.2.2.2.1) (fun z => (((), (z.1, z.2.1, (), ()), z.2.2, ()), ((), ()))) (fun y => (y.1.2.1.1, y.1.2.1.2.1, y.1.2.2.1)) (fun _ => rfl)
theorem Zvm (k : Nat) (b1_0 : Int) (b1_1 : Int) (b1_2 : List (Int × Int)) (b2_0 : Int) (b2_1 : Int) (o3 : List (Int × Int)) : ZaC k b1_0 b1_1 b1_2 b2_0 b2_1 o3 = repl 12 (Z78 k b1_0 b1_1 b1_2 b2_0 b2_1 o3) := by
 first
 | (simp only [ZaC, Z78, Zh, Zo, Zg, Zi, Ze, Z3, if_true]; done)
 | (simp only [ZaC, Z78, Zh, Zo, Zg, Zi, Ze, Z3, if_true]; simp only [Z1E, Z1D, Z3k, Z3]; simp only [Z4r]; exact Z2g ⟨fun h => by simp only [h, and_self], fun h => by simp only [h, and_self]⟩)
noncomputable def Z84 : Nat → Int × Int × List (Int × Int) → Option (Int × Int × List (Int × Int))
 | 0, _ => none
 | k + 1, p0 =>
  Option.bind (Z78 k p0.1 p0.2.1 p0.2.2 (0 : Int) (0 : Int) []) fun z0 => some (Prod.fst z0, Prod.fst z0.2, Prod.snd z0.2)
noncomputable def Z3l : FnDef := .of ZrC Za9 (Int × Int × List (Int × Int)) (fun k x => Z84 k x.1) ZpA Zpf Zvg
noncomputable def Zf2 : Code := Try.f65.body.getD .skip
noncomputable def Z46 : Ctx (Tup Za9 × OutD) := { T := T, G := [], mvs := [], no := 0, n := 12, res := resOf T ZrC Za9 Try.f65.results.toList, loops := [], regs := [(1, Z6d.E)], conds := [], cuts := [] }
theorem ZqP (k : Nat) : EnvOK Try.prog k Z46.G := (EnvOK.nil mixed)
noncomputable def Zeg : Array Oper := (findReg 1 Zf2).getD #[]
theorem ZvV (k : Nat) (x : ZjE.D) : execD Z46.T Z46.G Z46.mvs k Zeg (Z6d.inp.st Z46.n x) (outK Z46 Z6d) = ZaC k x.1.2.1.1 x.1.2.1.2.1 x.1.2.1.2.2.1 x.1.2.2.1.1 x.1.2.2.1.2.1 x.1.2.2.2.1 := by kernel_rfl
theorem Zte (k : Nat) : EOK Try.prog Z46 k Z6d.E (.region 1 Zeg true) := Z6K (D := Z6d) (m := 12) T_ok (ZqP k) (fun x => (ZvV k x).trans (Zvm k x.1.2.1.1 x.1.2.1.2.1 x.1.2.1.2.2.1 x.1.2.2.1.1 x.1.2.2.1.2.1 x.1.2.2.2.1))
theorem ZB2 (k : Nat) (x : Tup Z3l.ps) : Z3l.f (k + 1) x = fnK Z3l Z46 Zf2 k x := by kernel_rfl
theorem ZAE (x : Tup Z3l.ps) : Z3l.f 0 x = none := by kernel_rfl
theorem ZAB (k : Nat) : LOK Try.prog Z46 k Zf2 := LOK.by [(Z6d.E, .region 1 Zeg true)] (by kernel_rfl) (AllOK.cons (Zte k) AllOK.nil)
theorem Zfh (k : Nat) : SoundAt Try.prog k 65 Z3l.E := @Z4 Try.prog Z3l Z46 65 Try.f65 Zf2 (by kernel_rfl) (by kernel_rfl) (by kernel_rfl) Try.func65 (by kernel_rfl) (by kernel_rfl) (by kernel_rfl) T_ok ZqP ZAB ZAE ZB2 k
noncomputable def Z5S : List PK := [PK.mk (Ty.int .i64) false none false none, PK.mk Ty.bool false none false none]
noncomputable def Zjg : List PK := [PK.mk (Ty.slice (3 : Nat) (Ty.int .i64)) false none false none, PK.mk (Ty.int .i64) false none false none, PK.mk (Ty.int .i64) false none false none]
noncomputable def Zd1 (r : Int × Bool) : Tup Z5S × OutD := ((r.1, r.2, ()), none)
noncomputable def ZcU : Tup Z5S × OutD → Option (Int × Bool)
 | (a, none) => some (a.1, a.2.1)
 | _ => none
theorem Zfw : ∀ b r, ZcU b = some r → Zd1 r = b := by
 rintro ⟨a, o⟩ r h
 cases o with
 | none => injection h with h; subst h; rfl
 | some _ => cases h
noncomputable def Z4w : Nat → List Int → Int → Int → Int → Option (LR Unit (Int × Bool))
 | 0, _, _, _, _ => none
 | k + 1, v0, v2, v8, v9 =>
  if decide (v9 ≤ (↑(List.length v0) : Int)) = true then if (0 : Int) ≤ v8 then if v8 < (↑(List.length v0) : Int) then if decide (List.getD v0 (Int.toNat v8) (0 : Int) = v2) = true then some (LR.ret (v9, true)) else Z4w k v0 v2 (List.getD v0 (Int.toNat v8) (0 : Int)) (wrap64 (v9 + (1 : Int))) else none else none else some (LR.go ())
noncomputable def Zbk : Spec := Spec.mk [OSh.ro] [((0 : Nat), TSh.at (Sh.snap (0 : Nat) (Ty.int .i64))), ((2 : Nat), TSh.at (Sh.int .i64)), ((8 : Nat), TSh.at (Sh.int .i64)), ((9 : Nat), TSh.at (Sh.int .i64))]
noncomputable def Zqg : Spec := Spec.mk [OSh.ro] []
noncomputable def Z3T : LoopDef (Tup Z5S × OutD) := .rets Zbk Zqg (Unit) (Int × Bool) (fun k x => Z4w k x.2.1 x.2.2.1 x.2.2.2.1 x.2.2.2.2.1) (fun z => (((), ()), (()))) (fun y => ()) (fun _ => rfl) Zd1 ZcU Zfw
noncomputable def Z5L : Nat → List Int → Int → Int → Option (Int × Bool)
 | 0, _, _, _ => none
 | k + 1, p0, p1, p2 =>
  Option.bind (Z4w k p0 p2 p1 (1 : Int)) fun z0 => LR.on z0 (fun y0 => some ((0 : Int), false)) fun r0 => some r0
noncomputable def Z1N : FnDef := .of Zjg Z5S (Int × Bool) (fun k x => Z5L k x.1 x.2.1 x.2.2.1) Zd1 ZcU Zfw
noncomputable def ZaD : Code := Try.f68.body.getD .skip
noncomputable def Z4f : Ctx (Tup Z5S × OutD) := { T := T, G := [], mvs := [], no := 0, n := 25, res := resOf T Zjg Z5S Try.f68.results.toList, loops := [(0, Z3T.E)], regs := [], conds := [], cuts := [] }
theorem Zkd (k : Nat) : EnvOK Try.prog k Z4f.G := (EnvOK.nil mixed)
noncomputable def Z8h : Code := (findLoop 0 ZaD).getD .skip
theorem Zq6 (k : Nat) (x : Zbk.D) : Z3T.lp (k + 1) x = loopK Z4f Z3T 0 Z8h k x := by kernel_rfl
theorem Zqn (k : Nat) : LOK Try.prog Z4f k Z8h := LOK.by [] (by kernel_rfl) AllOK.nil
theorem Zqs (x : Zbk.D) : Z3T.lp 0 x = none := by kernel_rfl
theorem ZoT (k : Nat) : EOK Try.prog Z4f k Z3T.E (.block 0 (.loop Z8h)) := Z8 T_ok Zkd Zqs Zq6 Zqn k
theorem ZvN (k : Nat) (x : Tup Z1N.ps) : Z1N.f (k + 1) x = fnK Z1N Z4f ZaD k x := by kernel_rfl
theorem Zv7 (x : Tup Z1N.ps) : Z1N.f 0 x = none := by kernel_rfl
theorem Zvh (k : Nat) : LOK Try.prog Z4f k ZaD := LOK.by [(Z3T.E, .block 0 (.loop Z8h))] (by kernel_rfl) (AllOK.cons (ZoT k) AllOK.nil)
theorem Zeb (k : Nat) : SoundAt Try.prog k 68 Z1N.E := @Z4 Try.prog Z1N Z4f 68 Try.f68 ZaD (by kernel_rfl) (by kernel_rfl) (by kernel_rfl) Try.func68 (by kernel_rfl) (by kernel_rfl) (by kernel_rfl) T_ok Zkd Zvh Zv7 ZvN k
noncomputable def Z7V : List PK := [PK.mk (Ty.int .i64) false none false none]
noncomputable def Zo9 : List PK := [PK.mk (Ty.slice (3 : Nat) (Ty.int .i64)) false none false none, PK.mk (Ty.int .i64) false none false none]
noncomputable def Zfv (r : Int) : Tup Z7V × OutD := ((r, ()), none)
noncomputable def Zfc : Tup Z7V × OutD → Option (Int)
 | (a, none) => some (a.1)
 | _ => none
theorem Zh6 : ∀ b r, Zfc b = some r → Zfv r = b := by
 rintro ⟨a, o⟩ r h
 cases o with
 | none => injection h with h; subst h; rfl
 | some _ => cases h
noncomputable def Z5J : Nat → List Int → Int → Int → Int → Option (LR Unit Int)
 | 0, _, _, _, _ => none
 | k + 1, v0, v1, v5, v6 =>
  if decide (v6 ≤ (↑(List.length v0) : Int)) = true then if (0 : Int) ≤ v5 then if v5 < (↑(List.length v0) : Int) then if decide (List.getD v0 (Int.toNat v5) (0 : Int) = v1) = true then some (LR.ret v6) else Z5J k v0 v1 (List.getD v0 (Int.toNat v5) (0 : Int)) (wrap64 (v6 + (1 : Int))) else none else none else some (LR.go ())
noncomputable def ZcK : Spec := Spec.mk [OSh.ro] [((0 : Nat), TSh.at (Sh.snap (0 : Nat) (Ty.int .i64))), ((1 : Nat), TSh.at (Sh.int .i64)), ((5 : Nat), TSh.at (Sh.int .i64)), ((6 : Nat), TSh.at (Sh.int .i64))]
noncomputable def ZtZ : Spec := Spec.mk [OSh.ro] []
noncomputable def Z5a : LoopDef (Tup Z7V × OutD) := .rets ZcK ZtZ (Unit) (Int) (fun k x => Z5J k x.2.1 x.2.2.1 x.2.2.2.1 x.2.2.2.2.1) (fun z => (((), ()), (()))) (fun y => ()) (fun _ => rfl) Zfv Zfc Zh6
noncomputable def Za1 : Nat → List Int → Int → Option Int
 | 0, _, _ => none
 | k + 1, p0, p1 =>
  Option.bind (Z5J k p0 p1 p1 (1 : Int)) fun z0 => LR.on z0 (fun y0 => some (0 : Int)) fun r0 => some r0
noncomputable def Z3x : FnDef := .of Zo9 Z7V (Int) (fun k x => Za1 k x.1 x.2.1) Zfv Zfc Zh6
noncomputable def Zce : Code := Try.f69.body.getD .skip
noncomputable def Z5O : Ctx (Tup Z7V × OutD) := { T := T, G := [], mvs := [], no := 0, n := 22, res := resOf T Zo9 Z7V Try.f69.results.toList, loops := [(0, Z5a.E)], regs := [], conds := [], cuts := [] }
theorem ZmZ (k : Nat) : EnvOK Try.prog k Z5O.G := (EnvOK.nil mixed)
noncomputable def Z9E : Code := (findLoop 0 Zce).getD .skip
theorem Zt9 (k : Nat) (x : ZcK.D) : Z5a.lp (k + 1) x = loopK Z5O Z5a 0 Z9E k x := by kernel_rfl
theorem Ztx (k : Nat) : LOK Try.prog Z5O k Z9E := LOK.by [] (by kernel_rfl) AllOK.nil
theorem Ztf (x : ZcK.D) : Z5a.lp 0 x = none := by kernel_rfl
theorem ZqS (k : Nat) : EOK Try.prog Z5O k Z5a.E (.block 0 (.loop Z9E)) := Z8 T_ok ZmZ Ztf Zt9 Ztx k
theorem ZxO (k : Nat) (x : Tup Z3x.ps) : Z3x.f (k + 1) x = fnK Z3x Z5O Zce k x := by kernel_rfl
theorem Zym (x : Tup Z3x.ps) : Z3x.f 0 x = none := by kernel_rfl
theorem Zyx (k : Nat) : LOK Try.prog Z5O k Zce := LOK.by [(Z5a.E, .block 0 (.loop Z9E))] (by kernel_rfl) (AllOK.cons (ZqS k) AllOK.nil)
theorem ZmO (k : Nat) : SoundAt Try.prog k 69 Z3x.E := @Z4 Try.prog Z3x Z5O 69 Try.f69 Zce (by kernel_rfl) (by kernel_rfl) (by kernel_rfl) Try.func69 (by kernel_rfl) (by kernel_rfl) (by kernel_rfl) T_ok ZmZ Zyx Zym ZxO k
noncomputable def Z63 : List PK := []
noncomputable def Znr : List PK := [PK.mk (Ty.pair (Ty.int .i64) (Ty.pair (Ty.int .i64) (Ty.slice (71 : Nat) (Ty.pair (Ty.int .i64) (Ty.int .i64))))) true (some ((2 : Nat), (71 : Nat), Ty.pair (Ty.int .i64) (Ty.int .i64))) false none, PK.mk (Ty.slice (36 : Nat) (Ty.slice (3 : Nat) (Ty.int .i64))) false none false none, PK.mk (Ty.slice (3 : Nat) (Ty.int .i64)) false none false none]
noncomputable def ZkY (r : List (Int × Int)) : Tup Z63 × OutD := ((()), some ⟨Ty.pair (Ty.int .i64) (Ty.int .i64), r⟩)
noncomputable def Zf9 : Tup Z63 × OutD → Option (List (Int × Int))
 | (a, some ⟨u, ys⟩) => if h : u = Ty.pair (Ty.int .i64) (Ty.int .i64) then some (castU h ys) else none
 | _ => none
theorem ZqX : ∀ b r, Zf9 b = some r → ZkY r = b := by
 rintro ⟨a, o⟩ r h
 cases o with
 | none => cases h
 | some s =>
  obtain ⟨u, ys⟩ := s
  simp only [Zf9] at h
  split at h
  ·rename_i hu; subst hu; injection h with h; subst h; rfl
  ·cases h
noncomputable def Z62 : Nat → List (Int × Int) → Int → Int → List Int → List (List Int) → Int → Int → List Int → Int → Int → Option (List (Int × Int) × Int × Int × List Int × List (List Int) × Int × Int)
 | 0, _, _, _, _, _, _, _, _, _, _ => none
 | k + 1, o1, b2_0, b2_1, v2, v10, v11, v12, v30, v31, v32 =>
  if decide (v32 < v31) = true then if (0 : Int) ≤ v32 then if v32 < (↑(List.length v30) : Int) then if (0 : Int) ≤ List.getD v30 (Int.toNat v32) (0 : Int) then if List.getD v30 (Int.toNat v32) (0 : Int) < (↑(List.length o1) : Int) then if (0 : Int) ≤ List.getD v30 (Int.toNat v32) (0 : Int) then if List.getD v30 (Int.toNat v32) (0 : Int) < (↑(List.length o1) : Int) then Z62 k (List.set o1 (Int.toNat (List.getD v30 (Int.toNat v32) (0 : Int))) (Prod.fst (List.getD o1 (Int.toNat (List.getD v30 (Int.toNat v32) (0 : Int))) ((0 : Int), (0 : Int))), wrap64 ((1 : Int) - Prod.snd (List.getD o1 (Int.toNat (List.getD v30 (Int.toNat v32) (0 : Int))) ((0 : Int), (0 : Int)))))) b2_0 b2_1 v2 v10 v11 v12 v30 v31 (wrap64 (v32 + (1 : Int))) else none else none else none else none else none else none else some (o1, b2_0, b2_1, v2, v10, v11, v12)
noncomputable def Zd2 : Spec := Spec.mk [OSh.ro, OSh.row false (71 : Nat) (Ty.pair (Ty.int .i64) (Ty.int .i64)), OSh.box (26 : Nat) [Sh.int .i64, Sh.int .i64, Sh.sl (1 : Nat)]] [((2 : Nat), TSh.at (Sh.snap (0 : Nat) (Ty.int .i64))), ((3 : Nat), TSh.at (Sh.ptr (2 : Nat) (0 : Nat))), ((10 : Nat), TSh.at (Sh.snap (0 : Nat) (Ty.slice (3 : Nat) (Ty.int .i64)))), ((11 : Nat), TSh.at (Sh.int .i64)), ((12 : Nat), TSh.at (Sh.int .i64)), ((30 : Nat), TSh.at (Sh.snap (0 : Nat) (Ty.int .i64))), ((31 : Nat), TSh.at (Sh.int .i64)), ((32 : Nat), TSh.at (Sh.int .i64))]
noncomputable def Zu6 : Spec := Spec.mk [OSh.ro, OSh.row false (71 : Nat) (Ty.pair (Ty.int .i64) (Ty.int .i64)), OSh.box (26 : Nat) [Sh.int .i64, Sh.int .i64, Sh.sl (1 : Nat)]] [((2 : Nat), TSh.at (Sh.snap (0 : Nat) (Ty.int .i64))), ((3 : Nat), TSh.at (Sh.ptr (2 : Nat) (0 : Nat))), ((10 : Nat), TSh.at (Sh.snap (0 : Nat) (Ty.slice (3 : Nat) (Ty.int .i64)))), ((11 : Nat), TSh.at (Sh.int .i64)), ((12 : Nat), TSh.at (Sh.int .i64))]
noncomputable def Z55 : LoopDef (Tup Z63 × OutD) := .plain Zd2 Zu6 (List (Int × Int) × Int × Int × List Int × List (List Int) × Int × Int) (fun k x => Z62 k x.1.2.1 x.1.2.2.1.1 x.1.2.2.1.2.1 x.2.1 x.2.2.2.1 x.2.2.2.2.1 x.2.2.2.2.2.1 x.2.2.2.2.2.2.1 x.2.2.2.2.2.2.2.1 x.2.2.2.2.2.2.2.2.1) (fun z => (((), z.1, (z.2.1, z.2.2.1, (), ()), ()), (z.2.2.2.1, (), z.2.2.2.2.1, z.2.2.2.2.2.1, z.2.2.2.2.2.2, ()))) (fun y => (y.1.2.1, y.1.2.2.1.1, y.1.2.2.1.2.1, y.2.1, y.2.2.2.1, y.2.2.2.2.1, y.2.2.2.2.2.1)) (fun _ => rfl)
noncomputable def Z4e : Nat → List (Int × Int) → Int → Int → List Int → List (List Int) → Int → Int → Option (List (Int × Int))
 | 0, _, _, _, _, _, _, _ => none
 | k + 1, o1, b2_0, b2_1, v2, v10, v11, v12 =>
  if decide (v12 < v11) = true then if (0 : Int) ≤ v12 then if v12 < (↑(List.length v10) : Int) then if (0 : Int) < (↑(List.length (List.getD v10 (Int.toNat v12) [])) : Int) then if (0 : Int) ≤ List.getD (List.getD v10 (Int.toNat v12) []) (Int.toNat (0 : Int)) (0 : Int) then if List.getD (List.getD v10 (Int.toNat v12) []) (Int.toNat (0 : Int)) (0 : Int) < (↑(List.length o1) : Int) then if (0 : Int) ≤ v12 then if v12 < (↑(List.length v2) : Int) then if decide (Prod.snd (List.getD o1 (Int.toNat (List.getD (List.getD v10 (Int.toNat v12) []) (Int.toNat (0 : Int)) (0 : Int))) ((0 : Int), (0 : Int))) = List.getD v2 (Int.toNat v12) (0 : Int)) = true then Z4e k o1 b2_0 b2_1 v2 v10 v11 (wrap64 (v12 + (1 : Int))) else Option.bind (Z62 k o1 b2_0 b2_1 v2 v10 v11 v12 (List.getD v10 (Int.toNat v12) []) (↑(List.length (List.getD v10 (Int.toNat v12) [])) : Int) (0 : Int)) fun z0 => Z4e k z0.1 z0.2.1 z0.2.2.1 z0.2.2.2.1 z0.2.2.2.2.1 z0.2.2.2.2.2.1 (wrap64 (Prod.snd z0.2.2.2.2.2 + (1 : Int))) else none else none else none else none else none else none else none else some o1
noncomputable def ZcN : Spec := Spec.mk [OSh.ro, OSh.row false (71 : Nat) (Ty.pair (Ty.int .i64) (Ty.int .i64)), OSh.box (26 : Nat) [Sh.int .i64, Sh.int .i64, Sh.sl (1 : Nat)]] [((2 : Nat), TSh.at (Sh.snap (0 : Nat) (Ty.int .i64))), ((3 : Nat), TSh.at (Sh.ptr (2 : Nat) (0 : Nat))), ((10 : Nat), TSh.at (Sh.snap (0 : Nat) (Ty.slice (3 : Nat) (Ty.int .i64)))), ((11 : Nat), TSh.at (Sh.int .i64)), ((12 : Nat), TSh.at (Sh.int .i64))]
noncomputable def Zti : Spec := Spec.mk [OSh.ro, OSh.row false (71 : Nat) (Ty.pair (Ty.int .i64) (Ty.int .i64))] []
noncomputable def Z56 : LoopDef (Tup Z63 × OutD) := .plain ZcN Zti (List (Int × Int)) (fun k x => Z4e k x.1.2.1 x.1.2.2.1.1 x.1.2.2.1.2.1 x.2.1 x.2.2.2.1 x.2.2.2.2.1 x.2.2.2.2.2.1) (fun z => (((), z, ()), (()))) (fun y => (y.1.2.1)) (fun _ => rfl)
noncomputable def Zcq : Nat → Int × Int × List (Int × Int) → List (List Int) → List Int → Option (List (Int × Int))
 | 0, _, _, _ => none
 | k + 1, p0, p1, p2 =>
  Option.bind (Z4e k p0.2.2 p0.1 p0.2.1 p2 p1 (↑(List.length p1) : Int) (0 : Int)) fun z1 => some z1
noncomputable def Z4k : FnDef := .of Znr Z63 (List (Int × Int)) (fun k x => Zcq k x.1 x.2.1 x.2.2.1) ZkY Zf9 ZqX
noncomputable def Zab : Code := Try.f79.body.getD .skip
noncomputable def Z2A : Ctx (Tup Z63 × OutD) := { T := T, G := [], mvs := [], no := 1, n := 50, res := resOf T Znr Z63 Try.f79.results.toList, loops := [(2, Z55.E), (0, Z56.E)], regs := [], conds := [], cuts := [] }
theorem Zg8 (k : Nat) : EnvOK Try.prog k Z2A.G := (EnvOK.nil mixed)
noncomputable def Z9G : Code := (findLoop 2 Zab).getD .skip
theorem ZtP (k : Nat) (x : Zd2.D) : Z55.lp (k + 1) x = loopK Z2A Z55 2 Z9G k x := by kernel_rfl
theorem Ztk (k : Nat) : LOK Try.prog Z2A k Z9G := LOK.by [] (by kernel_rfl) AllOK.nil
theorem Zui (x : Zd2.D) : Z55.lp 0 x = none := by kernel_rfl
theorem Zs8 (k : Nat) : EOK Try.prog Z2A k Z55.E (.block 2 (.loop Z9G)) := Z8 T_ok Zg8 Zui ZtP Ztk k
noncomputable def Z9J : Code := (findLoop 0 Zab).getD .skip
theorem Ztc (k : Nat) (x : ZcN.D) : Z56.lp (k + 1) x = loopK Z2A Z56 0 Z9J k x := by kernel_rfl
theorem ZtB (k : Nat) : LOK Try.prog Z2A k Z9J := LOK.by [(Z55.E, .block 2 (.loop Z9G))] (by kernel_rfl) (AllOK.cons (Zs8 k) AllOK.nil)
theorem ZtH (x : ZcN.D) : Z56.lp 0 x = none := by kernel_rfl
theorem ZqU (k : Nat) : EOK Try.prog Z2A k Z56.E (.block 0 (.loop Z9J)) := Z8 T_ok Zg8 ZtH Ztc ZtB k
theorem Zys (k : Nat) (x : Tup Z4k.ps) : Z4k.f (k + 1) x = fnK Z4k Z2A Zab k x := by kernel_rfl
theorem Zyw (x : Tup Z4k.ps) : Z4k.f 0 x = none := by kernel_rfl
theorem Zy0 (k : Nat) : LOK Try.prog Z2A k Zab := LOK.by [(Z56.E, .block 0 (.loop Z9J))] (by kernel_rfl) (AllOK.cons (ZqU k) AllOK.nil)
theorem Zy9 (k : Nat) : SoundAt Try.prog k 79 Z4k.E := @Z4 Try.prog Z4k Z2A 79 Try.f79 Zab (by kernel_rfl) (by kernel_rfl) (by kernel_rfl) Try.func79 (by kernel_rfl) (by kernel_rfl) (by kernel_rfl) T_ok Zg8 Zy0 Zyw Zys k
noncomputable def Z7Y : List PK := [PK.mk (Ty.slice (3 : Nat) (Ty.int .i64)) false none false none]
noncomputable def Zo2 : List PK := [PK.mk (Ty.int .i64) false none false none, PK.mk (Ty.int .i64) false none false none]
noncomputable def Zlo (r : List Int) : Tup Z7Y × OutD := ((r, ()), none)
noncomputable def Zl0 : Tup Z7Y × OutD → Option (List Int)
 | (a, none) => some (a.1)
 | _ => none
theorem ZrI : ∀ b r, Zl0 b = some r → Zlo r = b := by
 rintro ⟨a, o⟩ r h
 cases o with
 | none => injection h with h; subst h; rfl
 | some _ => cases h
noncomputable def Z5M : Nat → List Int → Int → Int → Int → Option (List Int)
 | 0, _, _, _, _ => none
 | k + 1, o1, v0, v10, v11 =>
  if decide (v11 < v10) = true then if v11 < (0 : Int) then none else if (0 : Int) ≤ v11 then if v11 < (↑(List.length o1) : Int) then Z5M k (List.set o1 (Int.toNat v11) (bits BinOp.and IntKind.i64 (Int.fdiv v0 ((2 : Int) ^ min (Int.toNat v11) (IntKind.bits IntKind.i64))) (1 : Int))) v0 v10 (wrap64 (v11 + (1 : Int))) else none else none else some o1
noncomputable def ZcJ : Spec := Spec.mk [OSh.ro, OSh.row true (3 : Nat) (Ty.int .i64)] [((0 : Nat), TSh.at (Sh.int .i64)), ((5 : Nat), TSh.at (Sh.sl (1 : Nat))), ((10 : Nat), TSh.at (Sh.int .i64)), ((11 : Nat), TSh.at (Sh.int .i64))]
noncomputable def ZtX : Spec := Spec.mk [OSh.ro, OSh.row true (3 : Nat) (Ty.int .i64)] [((5 : Nat), TSh.at (Sh.sl (1 : Nat)))]
noncomputable def Z5c : LoopDef (Tup Z7Y × OutD) := .plain ZcJ ZtX (List Int) (fun k x => Z5M k x.1.2.1 x.2.1 x.2.2.2.1 x.2.2.2.2.1) (fun z => (((), z, ()), ((), ()))) (fun y => (y.1.2.1)) (fun _ => rfl)
noncomputable def Zcw : Nat → Int → Int → Option (List Int)
 | 0, _, _ => none
 | k + 1, p0, p1 =>
  if (0 : Int) ≤ p1 then if Int.toNat p1 * (8 : Nat) ≤ (281474976710656 : Nat) then Option.bind (Z5M k (List.replicate (Int.toNat p1) (0 : Int)) p0 (↑(List.length (List.replicate (Int.toNat p1) (0 : Int))) : Int) (0 : Int)) fun z0 => some z0 else none else none
noncomputable def Z4j : FnDef := .of Zo2 Z7Y (List Int) (fun k x => Zcw k x.1 x.2.1) Zlo Zl0 ZrI
noncomputable def Zcr : Code := Try.f80.body.getD .skip
noncomputable def Z5K : Ctx (Tup Z7Y × OutD) := { T := T, G := [], mvs := [], no := 0, n := 23, res := resOf T Zo2 Z7Y Try.f80.results.toList, loops := [(0, Z5c.E)], regs := [], conds := [], cuts := [] }
theorem Zo5 (k : Nat) : EnvOK Try.prog k Z5K.G := (EnvOK.nil mixed)
noncomputable def Z9H : Code := (findLoop 0 Zcr).getD .skip
theorem ZsT (k : Nat) (x : ZcJ.D) : Z5c.lp (k + 1) x = loopK Z5K Z5c 0 Z9H k x := by kernel_rfl
theorem ZsZ (k : Nat) : LOK Try.prog Z5K k Z9H := LOK.by [] (by kernel_rfl) AllOK.nil
theorem Ztd (x : ZcJ.D) : Z5c.lp 0 x = none := by kernel_rfl
theorem ZrB (k : Nat) : EOK Try.prog Z5K k Z5c.E (.block 0 (.loop Z9H)) := Z8 T_ok Zo5 Ztd ZsT ZsZ k
theorem ZxV (k : Nat) (x : Tup Z4j.ps) : Z4j.f (k + 1) x = fnK Z4j Z5K Zcr k x := by kernel_rfl
theorem Zyf (x : Tup Z4j.ps) : Z4j.f 0 x = none := by kernel_rfl
theorem Zyh (k : Nat) : LOK Try.prog Z5K k Zcr := LOK.by [(Z5c.E, .block 0 (.loop Z9H))] (by kernel_rfl) (AllOK.cons (ZrB k) AllOK.nil)
theorem Zyr (k : Nat) : SoundAt Try.prog k 80 Z4j.E := @Z4 Try.prog Z4j Z5K 80 Try.f80 Zcr (by kernel_rfl) (by kernel_rfl) (by kernel_rfl) Try.func80 (by kernel_rfl) (by kernel_rfl) (by kernel_rfl) T_ok Zo5 Zyh Zyf ZxV k
noncomputable def Z69 : List PK := []
noncomputable def ZjG : List PK := [PK.mk (Ty.pair (Ty.int .i64) (Ty.pair (Ty.int .i64) (Ty.slice (71 : Nat) (Ty.pair (Ty.int .i64) (Ty.int .i64))))) true (some ((2 : Nat), (71 : Nat), Ty.pair (Ty.int .i64) (Ty.int .i64))) false none, PK.mk (Ty.slice (3 : Nat) (Ty.int .i64)) false none false none, PK.mk (Ty.int .i64) false none false none]
noncomputable def Zi8 (r : List (Int × Int)) : Tup Z69 × OutD := ((()), some ⟨Ty.pair (Ty.int .i64) (Ty.int .i64), r⟩)
noncomputable def Zd0 : Tup Z69 × OutD → Option (List (Int × Int))
 | (a, some ⟨u, ys⟩) => if h : u = Ty.pair (Ty.int .i64) (Ty.int .i64) then some (castU h ys) else none
 | _ => none
theorem Zoz : ∀ b r, Zd0 b = some r → Zi8 r = b := by
 rintro ⟨a, o⟩ r h
 cases o with
 | none => cases h
 | some s =>
  obtain ⟨u, ys⟩ := s
  simp only [Zd0] at h
  split at h
  ·rename_i hu; subst hu; injection h with h; subst h; rfl
  ·cases h
noncomputable def Z1I : Nat → List (Int × Int) → Int → Int → List Int → Int → Int → Int → Option (List (Int × Int))
 | 0, _, _, _, _, _, _, _ => none
 | k + 1, o1, b2_0, b2_1, v1, v2, v9, v10 =>
  if decide (v10 < v9) = true then if (0 : Int) ≤ v10 then if v10 < (↑(List.length o1) : Int) then if decide (Prod.fst (List.getD o1 (Int.toNat v10) ((0 : Int), (0 : Int))) = (6 : Int)) = true then if (0 : Int) ≤ v10 then if v10 < (↑(List.length v1) : Int) then if (0 : Int) ≤ v2 then if v2 < (↑(List.length v1) : Int) then if decide (List.getD v1 (Int.toNat v10) (0 : Int) = List.getD v1 (Int.toNat v2) (0 : Int)) = true then if (0 : Int) ≤ v10 then if v10 < (↑(List.length o1) : Int) then if (0 : Int) ≤ v10 then if v10 < (↑(List.length o1) : Int) then Z1I k (List.set o1 (Int.toNat v10) (Prod.fst (List.getD o1 (Int.toNat v10) ((0 : Int), (0 : Int))), wrap64 ((1 : Int) - Prod.snd (List.getD o1 (Int.toNat v10) ((0 : Int), (0 : Int)))))) b2_0 b2_1 v1 v2 v9 (wrap64 (v10 + (1 : Int))) else none else none else none else none else Z1I k o1 b2_0 b2_1 v1 v2 v9 (wrap64 (v10 + (1 : Int))) else none else none else none else none else Z1I k o1 b2_0 b2_1 v1 v2 v9 (wrap64 (v10 + (1 : Int))) else none else none else some o1
noncomputable def Zbf : Spec := Spec.mk [OSh.ro, OSh.row false (71 : Nat) (Ty.pair (Ty.int .i64) (Ty.int .i64)), OSh.box (26 : Nat) [Sh.int .i64, Sh.int .i64, Sh.sl (1 : Nat)]] [((1 : Nat), TSh.at (Sh.snap (0 : Nat) (Ty.int .i64))), ((2 : Nat), TSh.at (Sh.int .i64)), ((3 : Nat), TSh.at (Sh.ptr (2 : Nat) (0 : Nat))), ((9 : Nat), TSh.at (Sh.int .i64)), ((10 : Nat), TSh.at (Sh.int .i64))]
noncomputable def Zqu : Spec := Spec.mk [OSh.ro, OSh.row false (71 : Nat) (Ty.pair (Ty.int .i64) (Ty.int .i64))] []
noncomputable def Z3U : LoopDef (Tup Z69 × OutD) := .plain Zbf Zqu (List (Int × Int)) (fun k x => Z1I k x.1.2.1 x.1.2.2.1.1 x.1.2.2.1.2.1 x.2.1 x.2.2.1 x.2.2.2.2.1 x.2.2.2.2.2.1) (fun z => (((), z, ()), (()))) (fun y => (y.1.2.1)) (fun _ => rfl)
noncomputable def Z85 : Nat → Int × Int × List (Int × Int) → List Int → Int → Option (List (Int × Int))
 | 0, _, _, _ => none
 | k + 1, p0, p1, p2 =>
  Option.bind (Z1I k p0.2.2 p0.1 p0.2.1 p1 p2 (↑(List.length p0.2.2) : Int) (0 : Int)) fun z0 => some z0
noncomputable def Z3n : FnDef := .of ZjG Z69 (List (Int × Int)) (fun k x => Z85 k x.1 x.2.1 x.2.2.1) Zi8 Zd0 Zoz
noncomputable def ZaN : Code := Try.f88.body.getD .skip
noncomputable def Z4h : Ctx (Tup Z69 × OutD) := { T := T, G := [], mvs := [], no := 1, n := 44, res := resOf T ZjG Z69 Try.f88.results.toList, loops := [(0, Z3U.E)], regs := [], conds := [], cuts := [] }
theorem ZjF (k : Nat) : EnvOK Try.prog k Z4h.G := (EnvOK.nil mixed)
noncomputable def Z8j : Code := (findLoop 0 ZaN).getD .skip
theorem Zqa (k : Nat) (x : Zbf.D) : Z3U.lp (k + 1) x = loopK Z4h Z3U 0 Z8j k x := by kernel_rfl
theorem Zqc (k : Nat) : LOK Try.prog Z4h k Z8j := LOK.by [] (by kernel_rfl) AllOK.nil
theorem ZpZ (x : Zbf.D) : Z3U.lp 0 x = none := by kernel_rfl
theorem Zoi (k : Nat) : EOK Try.prog Z4h k Z3U.E (.block 0 (.loop Z8j)) := Z8 T_ok ZjF ZpZ Zqa Zqc k
theorem Zvj (k : Nat) (x : Tup Z3n.ps) : Z3n.f (k + 1) x = fnK Z3n Z4h ZaN k x := by kernel_rfl
theorem ZvE (x : Tup Z3n.ps) : Z3n.f 0 x = none := by kernel_rfl
theorem Zwe (k : Nat) : LOK Try.prog Z4h k ZaN := LOK.by [(Z3U.E, .block 0 (.loop Z8j))] (by kernel_rfl) (AllOK.cons (Zoi k) AllOK.nil)
theorem Zv0 (k : Nat) : SoundAt Try.prog k 88 Z3n.E := @Z4 Try.prog Z3n Z4h 88 Try.f88 ZaN (by kernel_rfl) (by kernel_rfl) (by kernel_rfl) Try.func88 (by kernel_rfl) (by kernel_rfl) (by kernel_rfl) T_ok ZjF Zwe ZvE Zvj k
noncomputable def Z8W : List PK := [PK.mk Ty.bool false none false none]
noncomputable def Zlb : List PK := [PK.mk (Ty.pair (Ty.int .i64) (Ty.int .i64)) true none false none]
noncomputable def Zka (r : Bool) : Tup Z8W × OutD := ((r, ()), none)
noncomputable def Zk5 : Tup Z8W × OutD → Option (Bool)
 | (a, none) => some (a.1)
 | _ => none
theorem Zqv : ∀ b r, Zk5 b = some r → Zka r = b := by
 rintro ⟨a, o⟩ r h
 cases o with
 | none => injection h with h; subst h; rfl
 | some _ => cases h
noncomputable def Z97 : Nat → Int × Int → Option Bool
 | 0, _ => none
 | k + 1, p0 =>
  if decide (Prod.fst p0 = (6 : Int)) = true then some true else some (decide (Prod.fst p0 = (7 : Int)))
noncomputable def Z3Q : FnDef := .of Zlb Z8W (Bool) (fun k x => Z97 k x.1) Zka Zk5 Zqv
noncomputable def ZeH : Code := Try.f89.body.getD .skip
noncomputable def ZbB : Ctx (Tup Z8W × OutD) := { T := T, G := [], mvs := [], no := 0, n := 11, res := resOf T Zlb Z8W Try.f89.results.toList, loops := [], regs := [], conds := [], cuts := [] }
theorem Zxm (k : Nat) : EnvOK Try.prog k ZbB.G := (EnvOK.nil mixed)
theorem Zxo (k : Nat) (x : Tup Z3Q.ps) : Z3Q.f (k + 1) x = fnK Z3Q ZbB ZeH k x := by kernel_rfl
theorem Zx0 (x : Tup Z3Q.ps) : Z3Q.f 0 x = none := by kernel_rfl
theorem ZxD (k : Nat) : LOK Try.prog ZbB k ZeH := LOK.by [] (by kernel_rfl) AllOK.nil
theorem ZwL (k : Nat) : SoundAt Try.prog k 89 Z3Q.E := @Z4 Try.prog Z3Q ZbB 89 Try.f89 ZeH (by kernel_rfl) (by kernel_rfl) (by kernel_rfl) Try.func89 (by kernel_rfl) (by kernel_rfl) (by kernel_rfl) T_ok Zxm ZxD Zx0 Zxo k
noncomputable def Z8R : List PK := [PK.mk (Ty.slice (3 : Nat) (Ty.int .i64)) false none false none]
noncomputable def Zlk : List PK := [PK.mk (Ty.pair (Ty.int .i64) (Ty.pair (Ty.int .i64) (Ty.slice (71 : Nat) (Ty.pair (Ty.int .i64) (Ty.int .i64))))) true none false none, PK.mk (Ty.int .i64) false none false none]
noncomputable def ZjD (r : List Int) : Tup Z8R × OutD := ((r, ()), none)
noncomputable def ZiY : Tup Z8R × OutD → Option (List Int)
 | (a, none) => some (a.1)
 | _ => none
theorem Zqt : ∀ b r, ZiY b = some r → ZjD r = b := by
 rintro ⟨a, o⟩ r h
 cases o with
 | none => injection h with h; subst h; rfl
 | some _ => cases h
noncomputable def Zbr : Nat → Int × Int × List (Int × Int) → Int → Option (List Int)
 | 0, _, _ => none
 | k + 1, p0, p1 =>
  if Prod.fst p0.2 = (0 : Int) then none else if Prod.fst p0.2 = (0 : Int) then none else if decide (wrap64 (Int.tdiv p1 p0.2.1) > (0 : Int)) = true then if decide (Int.tmod p1 p0.2.1 > (0 : Int)) = true then if decide (wrap64 (Int.tmod p1 p0.2.1 + (1 : Int)) < Prod.fst p0.2) = true then if decide (wrap64 (wrap64 (Int.tdiv p1 p0.2.1) + (1 : Int)) < Prod.fst p0) = true then some ([wrap64 (p1 - Prod.fst p0.2)] ++ [wrap64 (p1 - (1 : Int))] ++ [wrap64 (p1 + (1 : Int))] ++ [wrap64 (p1 + Prod.fst p0.2)]) else some ([wrap64 (p1 - Prod.fst p0.2)] ++ [wrap64 (p1 - (1 : Int))] ++ [wrap64 (p1 + (1 : Int))]) else if decide (wrap64 (wrap64 (Int.tdiv p1 p0.2.1) + (1 : Int)) < Prod.fst p0) = true then some ([wrap64 (p1 - Prod.fst p0.2)] ++ [wrap64 (p1 - (1 : Int))] ++ [wrap64 (p1 + Prod.fst p0.2)]) else some ([wrap64 (p1 - Prod.fst p0.2)] ++ [wrap64 (p1 - (1 : Int))]) else if decide (wrap64 (Int.tmod p1 p0.2.1 + (1 : Int)) < Prod.fst p0.2) = true then if decide (wrap64 (wrap64 (Int.tdiv p1 p0.2.1) + (1 : Int)) < Prod.fst p0) = true then some ([wrap64 (p1 - Prod.fst p0.2)] ++ [wrap64 (p1 + (1 : Int))] ++ [wrap64 (p1 + Prod.fst p0.2)]) else some ([wrap64 (p1 - Prod.fst p0.2)] ++ [wrap64 (p1 + (1 : Int))]) else if decide (wrap64 (wrap64 (Int.tdiv p1 p0.2.1) + (1 : Int)) < Prod.fst p0) = true then some ([wrap64 (p1 - Prod.fst p0.2)] ++ [wrap64 (p1 + Prod.fst p0.2)]) else some [wrap64 (p1 - Prod.fst p0.2)] else if decide (Int.tmod p1 p0.2.1 > (0 : Int)) = true then if decide (wrap64 (Int.tmod p1 p0.2.1 + (1 : Int)) < Prod.fst p0.2) = true then if decide (wrap64 (wrap64 (Int.tdiv p1 p0.2.1) + (1 : Int)) < Prod.fst p0) = true then some ([wrap64 (p1 - (1 : Int))] ++ [wrap64 (p1 + (1 : Int))] ++ [wrap64 (p1 + Prod.fst p0.2)]) else some ([wrap64 (p1 - (1 : Int))] ++ [wrap64 (p1 + (1 : Int))]) else if decide (wrap64 (wrap64 (Int.tdiv p1 p0.2.1) + (1 : Int)) < Prod.fst p0) = true then some ([wrap64 (p1 - (1 : Int))] ++ [wrap64 (p1 + Prod.fst p0.2)]) else some [wrap64 (p1 - (1 : Int))] else if decide (wrap64 (Int.tmod p1 p0.2.1 + (1 : Int)) < Prod.fst p0.2) = true then if decide (wrap64 (wrap64 (Int.tdiv p1 p0.2.1) + (1 : Int)) < Prod.fst p0) = true then some ([wrap64 (p1 + (1 : Int))] ++ [wrap64 (p1 + Prod.fst p0.2)]) else some [wrap64 (p1 + (1 : Int))] else if decide (wrap64 (wrap64 (Int.tdiv p1 p0.2.1) + (1 : Int)) < Prod.fst p0) = true then some [wrap64 (p1 + Prod.fst p0.2)] else some []
noncomputable def Z3M : FnDef := .of Zlk Z8R (List Int) (fun k x => Zbr k x.1 x.2.1) ZjD ZiY Zqt
noncomputable def ZeL : Code := Try.f90.body.getD .skip
noncomputable def Zbv : Ctx (Tup Z8R × OutD) := { T := T, G := [], mvs := [], no := 0, n := 56, res := resOf T Zlk Z8R Try.f90.results.toList, loops := [], regs := [], conds := [], cuts := [] }
theorem Zwz (k : Nat) : EnvOK Try.prog k Zbv.G := (EnvOK.nil mixed)
theorem Zww (k : Nat) (x : Tup Z3M.ps) : Z3M.f (k + 1) x = fnK Z3M Zbv ZeL k x := by kernel_rfl
theorem Zxi (x : Tup Z3M.ps) : Z3M.f 0 x = none := by kernel_rfl
theorem ZxF (k : Nat) : LOK Try.prog Zbv k ZeL := LOK.by [] (by kernel_rfl) AllOK.nil
theorem Zxv (k : Nat) : SoundAt Try.prog k 90 Z3M.E := @Z4 Try.prog Z3M Zbv 90 Try.f90 ZeL (by kernel_rfl) (by kernel_rfl) (by kernel_rfl) Try.func90 (by kernel_rfl) (by kernel_rfl) (by kernel_rfl) T_ok Zwz ZxF Zxi Zww k
noncomputable def Z7w : List PK := [PK.mk (Ty.int .i64) false none false none]
noncomputable def ZhW : List PK := [PK.mk (Ty.pair (Ty.slice (5 : Nat) (Ty.int .u8)) (Ty.pair (Ty.int .i64) (Ty.int .u64))) false none false (some (58 : Nat))]
noncomputable def ZgI (r : Int × Int × Int) : Tup Z7w × OutD := ((r.1, ()), some ⟨Ty.pair (Ty.slice (5 : Nat) (Ty.int .u8)) (Ty.pair (Ty.int .i64) (Ty.int .u64)), [([], r.2)]⟩)
noncomputable def Zc1 : Tup Z7w × OutD → Option (Int × Int × Int)
 | (a, some ⟨u, ys⟩) => if h : u = Ty.pair (Ty.slice (5 : Nat) (Ty.int .u8)) (Ty.pair (Ty.int .i64) (Ty.int .u64)) then (match castU h ys with
  | [([], y)] => some (a.1, y)
  | _ => none) else none
 | _ => none
theorem ZnD : ∀ b r, Zc1 b = some r → ZgI r = b := by
 rintro ⟨a, o⟩ r h
 cases o with
 | none => cases h
 | some s =>
  obtain ⟨u, ys⟩ := s
  simp only [Zc1] at h
  split at h
  ·rename_i hu
   subst hu
   match ys, h with
   | [], h => cases (show (none : Option _) = some r from h)
   | [([], y)], h => injection (show some _ = some r from h) with h; subst h; rfl
   | [(_ :: _, y)], h => cases (show (none : Option _) = some r from h)
   | (h1, _) :: _ :: _, h => cases h1 <;> cases (show (none : Option _) = some r from h)
  ·cases h
noncomputable def Z5d : Nat → List Int × Int × Int → Option (Int × Int × Int)
 | 0, _ => none
 | k + 1, p0 =>
  if decide (Prod.fst p0.2 < (↑(List.length p0.1) : Int)) = true then if (0 : Int) ≤ Prod.fst p0.2 then if Prod.fst p0.2 < (↑(List.length p0.1) : Int) then if decide (wrap64 (Prod.fst p0.2 + (1 : Int)) ≤ (↑(List.length p0.1) : Int)) = true then some (wrap64 (List.getD p0.1 (Int.toNat p0.2.1) (0 : Int)), wrap64 (Prod.fst p0.2 + (1 : Int)), IntKind.wrap IntKind.u64 (IntKind.wrap IntKind.u64 (IntKind.wrap IntKind.u64 (Prod.snd p0.2 * (6364136223846793005 : Int)) + IntKind.wrap IntKind.u64 (wrap64 (List.getD p0.1 (Int.toNat p0.2.1) (0 : Int)))) + (1442695040888963407 : Int))) else some (wrap64 (bits BinOp.and IntKind.u64 (Int.fdiv (IntKind.wrap IntKind.u64 (IntKind.wrap IntKind.u64 (IntKind.wrap IntKind.u64 (Prod.snd p0.2 * (6364136223846793005 : Int)) + IntKind.wrap IntKind.u64 (wrap64 (List.getD p0.1 (Int.toNat p0.2.1) (0 : Int)))) + (1442695040888963407 : Int))) ((2 : Int) ^ min (Int.toNat (40 : Int)) (IntKind.bits IntKind.u64))) (255 : Int)), wrap64 (Prod.fst p0.2 + (1 : Int)), IntKind.wrap IntKind.u64 (IntKind.wrap IntKind.u64 (IntKind.wrap IntKind.u64 (Prod.snd p0.2 * (6364136223846793005 : Int)) + IntKind.wrap IntKind.u64 (wrap64 (List.getD p0.1 (Int.toNat p0.2.1) (0 : Int)))) + (1442695040888963407 : Int))) else none else none else if decide (wrap64 (Prod.fst p0.2 + (1 : Int)) ≤ (↑(List.length p0.1) : Int)) = true then some ((0 : Int), wrap64 (Prod.fst p0.2 + (1 : Int)), IntKind.wrap IntKind.u64 (IntKind.wrap IntKind.u64 (IntKind.wrap IntKind.u64 (Prod.snd p0.2 * (6364136223846793005 : Int)) + IntKind.wrap IntKind.u64 (0 : Int)) + (1442695040888963407 : Int))) else some (wrap64 (bits BinOp.and IntKind.u64 (Int.fdiv (IntKind.wrap IntKind.u64 (IntKind.wrap IntKind.u64 (IntKind.wrap IntKind.u64 (Prod.snd p0.2 * (6364136223846793005 : Int)) + IntKind.wrap IntKind.u64 (0 : Int)) + (1442695040888963407 : Int))) ((2 : Int) ^ min (Int.toNat (40 : Int)) (IntKind.bits IntKind.u64))) (255 : Int)), wrap64 (Prod.fst p0.2 + (1 : Int)), IntKind.wrap IntKind.u64 (IntKind.wrap IntKind.u64 (IntKind.wrap IntKind.u64 (Prod.snd p0.2 * (6364136223846793005 : Int)) + IntKind.wrap IntKind.u64 (0 : Int)) + (1442695040888963407 : Int)))
noncomputable def Z2S : FnDef := .of ZhW Z7w (Int × Int × Int) (fun k x => Z5d k x.1) ZgI Zc1 ZnD
noncomputable def ZcV : Code := Try.f91.body.getD .skip
noncomputable def Z9K : Ctx (Tup Z7w × OutD) := { T := T, G := [], mvs := [], no := 2, n := 62, res := resOf T ZhW Z7w Try.f91.results.toList, loops := [], regs := [], conds := [], cuts := [] }
theorem ZsL (k : Nat) : EnvOK Try.prog k Z9K.G := (EnvOK.nil mixed)
theorem Zt5 (k : Nat) (x : Tup Z2S.ps) : Z2S.f (k + 1) x = fnK Z2S Z9K ZcV k x := by kernel_rfl
theorem Zuh (x : Tup Z2S.ps) : Z2S.f 0 x = none := by kernel_rfl
theorem ZtO (k : Nat) : LOK Try.prog Z9K k ZcV := LOK.by [] (by kernel_rfl) AllOK.nil
theorem Zt3 (k : Nat) : SoundAt Try.prog k 91 Z2S.E := @Z4 Try.prog Z2S Z9K 91 Try.f91 ZcV (by kernel_rfl) (by kernel_rfl) (by kernel_rfl) Try.func91 (by kernel_rfl) (by kernel_rfl) (by kernel_rfl) T_ok ZsL ZtO Zuh Zt5 k
noncomputable def Zd5 : List PK := [PK.mk Ty.bool false none false none]
noncomputable def ZuF : List PK := [PK.mk (Ty.int .i64) false none false none, PK.mk (Ty.int .i64) false none false none, PK.mk (Ty.int .i64) false none false none]
noncomputable def Zru (r : Bool) : Tup Zd5 × OutD := ((r, ()), none)
noncomputable def Zrt : Tup Zd5 × OutD → Option (Bool)
 | (a, none) => some (a.1)
 | _ => none
theorem Zx8 : ∀ b r, Zrt b = some r → Zru r = b := by
 rintro ⟨a, o⟩ r h
 cases o with
 | none => injection h with h; subst h; rfl
 | some _ => cases h
noncomputable def Z6g : Nat → Int → Int → Int → Option Bool
 | 0, _, _, _ => none
 | k + 1, p0, p1, p2 =>
  if decide (p0 ≥ p1) = true then some (decide (p0 ≤ p2)) else some false
noncomputable def Z47 : FnDef := .of ZuF Zd5 (Bool) (fun k x => Z6g k x.1 x.2.1 x.2.2.1) Zru Zrt Zx8
noncomputable def ZlD : Code := Try.f94.body.getD .skip
noncomputable def Zgv : Ctx (Tup Zd5 × OutD) := { T := T, G := [], mvs := [], no := 0, n := 15, res := resOf T ZuF Zd5 Try.f94.results.toList, loops := [], regs := [], conds := [], cuts := [] }
theorem ZBu (k : Nat) : EnvOK Try.prog k Zgv.G := (EnvOK.nil mixed)
theorem ZBN (k : Nat) (x : Tup Z47.ps) : Z47.f (k + 1) x = fnK Z47 Zgv ZlD k x := by kernel_rfl
theorem ZBP (x : Tup Z47.ps) : Z47.f 0 x = none := by kernel_rfl
theorem ZBf (k : Nat) : LOK Try.prog Zgv k ZlD := LOK.by [] (by kernel_rfl) AllOK.nil
theorem Zgo (k : Nat) : SoundAt Try.prog k 94 Z47.E := @Z4 Try.prog Z47 Zgv 94 Try.f94 ZlD (by kernel_rfl) (by kernel_rfl) (by kernel_rfl) Try.func94 (by kernel_rfl) (by kernel_rfl) (by kernel_rfl) T_ok ZBu ZBf ZBP ZBN k
noncomputable def Z64 : List PK := [PK.mk Ty.bool false none false none]
noncomputable def ZjS : List PK := [PK.mk (Ty.pair (Ty.int .i64) (Ty.pair (Ty.int .i64) (Ty.slice (71 : Nat) (Ty.pair (Ty.int .i64) (Ty.int .i64))))) true none false none, PK.mk (Ty.pair (Ty.int .i64) (Ty.pair (Ty.int .i64) (Ty.slice (71 : Nat) (Ty.pair (Ty.int .i64) (Ty.int .i64))))) true none false none]
noncomputable def ZcP (r : Bool) : Tup Z64 × OutD := ((r, ()), none)
noncomputable def ZcS : Tup Z64 × OutD → Option (Bool)
 | (a, none) => some (a.1)
 | _ => none
theorem Zfb : ∀ b r, ZcS b = some r → ZcP r = b := by
 rintro ⟨a, o⟩ r h
 cases o with
 | none => injection h with h; subst h; rfl
 | some _ => cases h
noncomputable def Z4t : Nat → Int → Int → List (Int × Int) → Int → Int → List (Int × Int) → Int → Int → Option (LR Unit Bool)
 | 0, _, _, _, _, _, _, _, _ => none
 | k + 1, b1_0, b1_1, b1_2, b2_0, b2_1, b2_2, v29, v30 =>
  if decide (v30 < v29) = true then if (0 : Int) ≤ v30 then if v30 < (↑(List.length b1_2) : Int) then if (0 : Int) ≤ v30 then if v30 < (↑(List.length b2_2) : Int) then if (!(decide (Prod.fst (List.getD b1_2 (Int.toNat v30) ((0 : Int), (0 : Int))) = Prod.fst (List.getD b2_2 (Int.toNat v30) ((0 : Int), (0 : Int)))) && (decide (Prod.snd (List.getD b1_2 (Int.toNat v30) ((0 : Int), (0 : Int))) = Prod.snd (List.getD b2_2 (Int.toNat v30) ((0 : Int), (0 : Int)))) && true))) = true then some (LR.ret false) else Z4t k b1_0 b1_1 b1_2 b2_0 b2_1 b2_2 v29 (wrap64 (v30 + (1 : Int))) else none else none else none else none else some (LR.go ())
noncomputable def Zbg : Spec := Spec.mk [OSh.ro, OSh.box (26 : Nat) [Sh.int .i64, Sh.int .i64, Sh.snap (0 : Nat) (Ty.pair (Ty.int .i64) (Ty.int .i64))], OSh.box (26 : Nat) [Sh.int .i64, Sh.int .i64, Sh.snap (0 : Nat) (Ty.pair (Ty.int .i64) (Ty.int .i64))]] [((2 : Nat), TSh.at (Sh.ptr (1 : Nat) (0 : Nat))), ((3 : Nat), TSh.at (Sh.ptr (2 : Nat) (0 : Nat))), ((29 : Nat), TSh.at (Sh.int .i64)), ((30 : Nat), TSh.at (Sh.int .i64))]
noncomputable def Zqm : Spec := Spec.mk [OSh.ro] []
noncomputable def Z41 : LoopDef (Tup Z64 × OutD) := .rets Zbg Zqm (Unit) (Bool) (fun k x => Z4t k x.1.2.1.1 x.1.2.1.2.1 x.1.2.1.2.2.1 x.1.2.2.1.1 x.1.2.2.1.2.1 x.1.2.2.1.2.2.1 x.2.2.2.1 x.2.2.2.2.1) (fun z => (((), ()), (()))) (fun y => ()) (fun _ => rfl) ZcP ZcS Zfb
noncomputable def ZaJ : Nat → Int × Int × List (Int × Int) → Int × Int × List (Int × Int) → Option Bool
 | 0, _, _ => none
 | k + 1, p0, p1 =>
  if decide (Prod.fst p0 ≠ Prod.fst p1) = true then some false else if decide (Prod.fst p0.2 ≠ Prod.fst p1.2) = true then some false else if decide ((↑(List.length p0.2.2) : Int) ≠ (↑(List.length p1.2.2) : Int)) = true then some false else Option.bind (Z4t k p0.1 p0.2.1 p0.2.2 p1.1 p1.2.1 p1.2.2 (↑(List.length p0.2.2) : Int) (0 : Int)) fun z0 => LR.on z0 (fun y0 => some true) fun r0 => some r0
noncomputable def Z3s : FnDef := .of ZjS Z64 (Bool) (fun k x => ZaJ k x.1 x.2.1) ZcP ZcS Zfb
noncomputable def Zax : Code := Try.f98.body.getD .skip
noncomputable def Z4d : Ctx (Tup Z64 × OutD) := { T := T, G := [], mvs := [], no := 0, n := 45, res := resOf T ZjS Z64 Try.f98.results.toList, loops := [(0, Z41.E)], regs := [], conds := [], cuts := [] }
theorem ZjM (k : Nat) : EnvOK Try.prog k Z4d.G := (EnvOK.nil mixed)
noncomputable def Z8e : Code := (findLoop 0 Zax).getD .skip
theorem Zq3 (k : Nat) (x : Zbg.D) : Z41.lp (k + 1) x = loopK Z4d Z41 0 Z8e k x := by kernel_rfl
theorem Zqf (k : Nat) : LOK Try.prog Z4d k Z8e := LOK.by [] (by kernel_rfl) AllOK.nil
theorem ZqC (x : Zbg.D) : Z41.lp 0 x = none := by kernel_rfl
theorem Zoc (k : Nat) : EOK Try.prog Z4d k Z41.E (.block 0 (.loop Z8e)) := Z8 T_ok ZjM ZqC Zq3 Zqf k
theorem Zw4 (k : Nat) (x : Tup Z3s.ps) : Z3s.f (k + 1) x = fnK Z3s Z4d Zax k x := by kernel_rfl
theorem Zv3 (x : Tup Z3s.ps) : Z3s.f 0 x = none := by kernel_rfl
theorem ZuW (k : Nat) : LOK Try.prog Z4d k Zax := LOK.by [(Z41.E, .block 0 (.loop Z8e))] (by kernel_rfl) (AllOK.cons (Zoc k) AllOK.nil)
theorem Zwf (k : Nat) : SoundAt Try.prog k 98 Z3s.E := @Z4 Try.prog Z3s Z4d 98 Try.f98 Zax (by kernel_rfl) (by kernel_rfl) (by kernel_rfl) Try.func98 (by kernel_rfl) (by kernel_rfl) (by kernel_rfl) T_ok ZjM ZuW Zv3 Zw4 k
noncomputable def Z4C : List PK := [PK.mk (Ty.slice (3 : Nat) (Ty.int .i64)) false none false none]
noncomputable def ZgB : List PK := [PK.mk (Ty.pair (Ty.int .i64) (Ty.pair (Ty.int .i64) (Ty.slice (71 : Nat) (Ty.pair (Ty.int .i64) (Ty.int .i64))))) true none false none, PK.mk (Ty.pair (Ty.int .i64) (Ty.pair (Ty.int .i64) (Ty.slice (71 : Nat) (Ty.pair (Ty.int .i64) (Ty.int .i64))))) true none false none]
noncomputable def ZfM (r : List Int) : Tup Z4C × OutD := ((r, ()), none)
noncomputable def ZfP : Tup Z4C × OutD → Option (List Int)
 | (a, none) => some (a.1)
 | _ => none
theorem Zm5 : ∀ b r, ZfP b = some r → ZfM r = b := by
 rintro ⟨a, o⟩ r h
 cases o with
 | none => injection h with h; subst h; rfl
 | some _ => cases h
noncomputable def Z2v : Nat → Int → Int → List (Int × Int) → List Int → List (Int × Int) → Int → Int → Option (List Int)
 | 0, _, _, _, _, _, _, _ => none
 | k + 1, b1_0, b1_1, b1_2, o2, v9, v10, v11 =>
  if decide (v11 < v10) = true then if (0 : Int) ≤ v11 then if v11 < (↑(List.length v9) : Int) then if (0 : Int) ≤ v11 then if v11 < (↑(List.length b1_2) : Int) then if (!(decide (Prod.fst (List.getD v9 (Int.toNat v11) ((0 : Int), (0 : Int))) = Prod.fst (List.getD b1_2 (Int.toNat v11) ((0 : Int), (0 : Int)))) && (decide (Prod.snd (List.getD v9 (Int.toNat v11) ((0 : Int), (0 : Int))) = Prod.snd (List.getD b1_2 (Int.toNat v11) ((0 : Int), (0 : Int)))) && true))) = true then if List.length o2 + List.length [v11] ≤ (140737488355328 / 8 : Nat) then Z2v k b1_0 b1_1 b1_2 (o2 ++ [v11]) v9 v10 (wrap64 (v11 + (1 : Int))) else none else Z2v k b1_0 b1_1 b1_2 o2 v9 v10 (wrap64 (v11 + (1 : Int))) else none else none else none else none else some o2
noncomputable def Z9R : Spec := Spec.mk [OSh.ro, OSh.box (26 : Nat) [Sh.int .i64, Sh.int .i64, Sh.snap (0 : Nat) (Ty.pair (Ty.int .i64) (Ty.int .i64))], OSh.row true (3 : Nat) (Ty.int .i64)] [((3 : Nat), TSh.at (Sh.ptr (1 : Nat) (0 : Nat))), ((5 : Nat), TSh.at (Sh.sl (2 : Nat))), ((9 : Nat), TSh.at (Sh.snap (0 : Nat) (Ty.pair (Ty.int .i64) (Ty.int .i64)))), ((10 : Nat), TSh.at (Sh.int .i64)), ((11 : Nat), TSh.at (Sh.int .i64))]
noncomputable def Zo0 : Spec := Spec.mk [OSh.ro, OSh.row true (3 : Nat) (Ty.int .i64)] [((5 : Nat), TSh.at (Sh.sl (1 : Nat)))]
noncomputable def Z3c : LoopDef (Tup Z4C × OutD) := .plain Z9R Zo0 (List Int) (fun k x => Z2v k x.1.2.1.1 x.1.2.1.2.1 x.1.2.1.2.2.1 x.1.2.2.1 x.2.2.2.1 x.2.2.2.2.1 x.2.2.2.2.2.1) (fun z => (((), z, ()), ((), ()))) (fun y => (y.1.2.1)) (fun _ => rfl)
noncomputable def Z8T : Nat → Int × Int × List (Int × Int) → Int × Int × List (Int × Int) → Option (List Int)
 | 0, _, _ => none
 | k + 1, p0, p1 =>
  Option.bind (Z2v k p1.1 p1.2.1 p1.2.2 [] p0.2.2 (↑(List.length p0.2.2) : Int) (0 : Int)) fun z0 => some z0
noncomputable def Z2h : FnDef := .of ZgB Z4C (List Int) (fun k x => Z8T k x.1 x.2.1) ZfM ZfP Zm5
noncomputable def Z8M : Code := Try.f100.body.getD .skip
noncomputable def Z3o : Ctx (Tup Z4C × OutD) := { T := T, G := [], mvs := [], no := 0, n := 29, res := resOf T ZgB Z4C Try.f100.results.toList, loops := [(0, Z3c.E)], regs := [], conds := [], cuts := [] }
theorem Zh9 (k : Nat) : EnvOK Try.prog k Z3o.G := (EnvOK.nil mixed)
noncomputable def Z71 : Code := (findLoop 0 Z8M).getD .skip
theorem Znp (k : Nat) (x : Z9R.D) : Z3c.lp (k + 1) x = loopK Z3o Z3c 0 Z71 k x := by kernel_rfl
theorem Znm (k : Nat) : LOK Try.prog Z3o k Z71 := LOK.by [] (by kernel_rfl) AllOK.nil
theorem ZnL (x : Z9R.D) : Z3c.lp 0 x = none := by kernel_rfl
theorem Zmq (k : Nat) : EOK Try.prog Z3o k Z3c.E (.block 0 (.loop Z71)) := Z8 T_ok Zh9 ZnL Znp Znm k
theorem ZqV (k : Nat) (x : Tup Z2h.ps) : Z2h.f (k + 1) x = fnK Z2h Z3o Z8M k x := by kernel_rfl
theorem Zs9 (x : Tup Z2h.ps) : Z2h.f 0 x = none := by kernel_rfl
theorem ZrW (k : Nat) : LOK Try.prog Z3o k Z8M := LOK.by [(Z3c.E, .block 0 (.loop Z71))] (by kernel_rfl) (AllOK.cons (Zmq k) AllOK.nil)
theorem Zr7 (k : Nat) : SoundAt Try.prog k 100 Z2h.E := @Z4 Try.prog Z2h Z3o 100 Try.f100 Z8M (by kernel_rfl) (by kernel_rfl) (by kernel_rfl) Try.func100 (by kernel_rfl) (by kernel_rfl) (by kernel_rfl) T_ok Zh9 ZrW Zs9 ZqV k
noncomputable def Zb2 : List PK := [PK.mk Ty.bool false none false none]
noncomputable def Zpw : List PK := [PK.mk (Ty.pair (Ty.int .i64) (Ty.int .i64)) true none false none]
noncomputable def ZmQ (r : Bool) : Tup Zb2 × OutD := ((r, ()), none)
noncomputable def ZmT : Tup Zb2 × OutD → Option (Bool)
 | (a, none) => some (a.1)
 | _ => none
theorem ZtT : ∀ b r, ZmT b = some r → ZmQ r = b := by
 rintro ⟨a, o⟩ r h
 cases o with
 | none => injection h with h; subst h; rfl
 | some _ => cases h
noncomputable def ZaT : Nat → Int × Int → Option Bool
 | 0, _ => none
 | k + 1, p0 =>
  if decide (Prod.fst p0 < (0 : Int)) = true then some false else if decide (Prod.fst p0 > (7 : Int)) = true then some false else if decide (Prod.snd p0 < (0 : Int)) = true then some false else if decide (Prod.snd p0 > (1 : Int)) = true then some false else if decide (Prod.snd p0 = (0 : Int)) = true then some true else if decide (Prod.fst p0 = (3 : Int)) = true then some true else some (decide (Prod.fst p0 = (6 : Int)))
noncomputable def Z4c : FnDef := .of Zpw Zb2 (Bool) (fun k x => ZaT k x.1) ZmQ ZmT ZtT
noncomputable def ZhB : Code := Try.f102.body.getD .skip
noncomputable def ZdH : Ctx (Tup Zb2 × OutD) := { T := T, G := [], mvs := [], no := 0, n := 34, res := resOf T Zpw Zb2 Try.f102.results.toList, loops := [], regs := [], conds := [], cuts := [] }
theorem ZA1 (k : Nat) : EnvOK Try.prog k ZdH.G := (EnvOK.nil mixed)
theorem ZA3 (k : Nat) (x : Tup Z4c.ps) : Z4c.f (k + 1) x = fnK Z4c ZdH ZhB k x := by kernel_rfl
theorem ZzQ (x : Tup Z4c.ps) : Z4c.f 0 x = none := by kernel_rfl
theorem Zz9 (k : Nat) : LOK Try.prog ZdH k ZhB := LOK.by [] (by kernel_rfl) AllOK.nil
theorem Zpe (k : Nat) : SoundAt Try.prog k 102 Z4c.E := @Z4 Try.prog Z4c ZdH 102 Try.f102 ZhB (by kernel_rfl) (by kernel_rfl) (by kernel_rfl) Try.func102 (by kernel_rfl) (by kernel_rfl) (by kernel_rfl) T_ok ZA1 Zz9 ZzQ ZA3 k
noncomputable def ZaZ : List PK := [PK.mk Ty.bool false none false none]
noncomputable def ZpS : List PK := [PK.mk (Ty.pair (Ty.int .i64) (Ty.int .i64)) true none false none]
noncomputable def Zn3 (r : Bool) : Tup ZaZ × OutD := ((r, ()), none)
noncomputable def Znu : Tup ZaZ × OutD → Option (Bool)
 | (a, none) => some (a.1)
 | _ => none
theorem Zto : ∀ b r, Znu b = some r → Zn3 r = b := by
 rintro ⟨a, o⟩ r h
 cases o with
 | none => injection h with h; subst h; rfl
 | some _ => cases h
noncomputable def Zb6 : Nat → Int × Int → Option Bool
 | 0, _ => none
 | k + 1, p0 =>
  if decide (Prod.fst p0 = (6 : Int)) = true then some true else some (decide (Prod.fst p0 = (7 : Int)))
noncomputable def Z5o : FnDef := .of ZpS ZaZ (Bool) (fun k x => Zb6 k x.1) Zn3 Znu Zto
noncomputable def Zhs : Code := Try.f104.body.getD .skip
noncomputable def Zdr : Ctx (Tup ZaZ × OutD) := { T := T, G := [], mvs := [], no := 0, n := 11, res := resOf T ZpS ZaZ Try.f104.results.toList, loops := [], regs := [], conds := [], cuts := [] }
theorem Zzn (k : Nat) : EnvOK Try.prog k Zdr.G := (EnvOK.nil mixed)
theorem ZzY (k : Nat) (x : Tup Z5o.ps) : Z5o.f (k + 1) x = fnK Z5o Zdr Zhs k x := by kernel_rfl
theorem ZAa (x : Tup Z5o.ps) : Z5o.f 0 x = none := by kernel_rfl
theorem ZzP (k : Nat) : LOK Try.prog Zdr k Zhs := LOK.by [] (by kernel_rfl) AllOK.nil
theorem Zzk (k : Nat) : SoundAt Try.prog k 104 Z5o.E := @Z4 Try.prog Z5o Zdr 104 Try.f104 Zhs (by kernel_rfl) (by kernel_rfl) (by kernel_rfl) Try.func104 (by kernel_rfl) (by kernel_rfl) (by kernel_rfl) T_ok Zzn ZzP ZAa ZzY k
noncomputable def ZaY : List PK := [PK.mk (Ty.slice (3 : Nat) (Ty.int .i64)) false none false none]
noncomputable def ZpD : List PK := [PK.mk (Ty.pair (Ty.int .i64) (Ty.pair (Ty.int .i64) (Ty.slice (71 : Nat) (Ty.pair (Ty.int .i64) (Ty.int .i64))))) true none false none, PK.mk (Ty.int .i64) false none false none]
noncomputable def ZmM (r : List Int) : Tup ZaY × OutD := ((r, ()), none)
noncomputable def Zo4 : Tup ZaY × OutD → Option (List Int)
 | (a, none) => some (a.1)
 | _ => none
theorem Zt6 : ∀ b r, Zo4 b = some r → ZmM r = b := by
 rintro ⟨a, o⟩ r h
 cases o with
 | none => injection h with h; subst h; rfl
 | some _ => cases h
noncomputable def ZdA : Nat → Int × Int × List (Int × Int) → Int → Option (List Int)
 | 0, _, _ => none
 | k + 1, p0, p1 =>
  if Prod.fst p0.2 = (0 : Int) then none else if Prod.fst p0.2 = (0 : Int) then none else if decide (wrap64 (Int.tdiv p1 p0.2.1) > (0 : Int)) = true then if decide (Int.tmod p1 p0.2.1 > (0 : Int)) = true then if decide (wrap64 (Int.tmod p1 p0.2.1 + (1 : Int)) < Prod.fst p0.2) = true then if decide (wrap64 (wrap64 (Int.tdiv p1 p0.2.1) + (1 : Int)) < Prod.fst p0) = true then some ([wrap64 (p1 - Prod.fst p0.2)] ++ [wrap64 (p1 - (1 : Int))] ++ [wrap64 (p1 + (1 : Int))] ++ [wrap64 (p1 + Prod.fst p0.2)]) else some ([wrap64 (p1 - Prod.fst p0.2)] ++ [wrap64 (p1 - (1 : Int))] ++ [wrap64 (p1 + (1 : Int))]) else if decide (wrap64 (wrap64 (Int.tdiv p1 p0.2.1) + (1 : Int)) < Prod.fst p0) = true then some ([wrap64 (p1 - Prod.fst p0.2)] ++ [wrap64 (p1 - (1 : Int))] ++ [wrap64 (p1 + Prod.fst p0.2)]) else some ([wrap64 (p1 - Prod.fst p0.2)] ++ [wrap64 (p1 - (1 : Int))]) else if decide (wrap64 (Int.tmod p1 p0.2.1 + (1 : Int)) < Prod.fst p0.2) = true then if decide (wrap64 (wrap64 (Int.tdiv p1 p0.2.1) + (1 : Int)) < Prod.fst p0) = true then some ([wrap64 (p1 - Prod.fst p0.2)] ++ [wrap64 (p1 + (1 : Int))] ++ [wrap64 (p1 + Prod.fst p0.2)]) else some ([wrap64 (p1 - Prod.fst p0.2)] ++ [wrap64 (p1 + (1 : Int))]) else if decide (wrap64 (wrap64 (Int.tdiv p1 p0.2.1) + (1 : Int)) < Prod.fst p0) = true then some ([wrap64 (p1 - Prod.fst p0.2)] ++ [wrap64 (p1 + Prod.fst p0.2)]) else some [wrap64 (p1 - Prod.fst p0.2)] else if decide (Int.tmod p1 p0.2.1 > (0 : Int)) = true then if decide (wrap64 (Int.tmod p1 p0.2.1 + (1 : Int)) < Prod.fst p0.2) = true then if decide (wrap64 (wrap64 (Int.tdiv p1 p0.2.1) + (1 : Int)) < Prod.fst p0) = true then some ([wrap64 (p1 - (1 : Int))] ++ [wrap64 (p1 + (1 : Int))] ++ [wrap64 (p1 + Prod.fst p0.2)]) else some ([wrap64 (p1 - (1 : Int))] ++ [wrap64 (p1 + (1 : Int))]) else if decide (wrap64 (wrap64 (Int.tdiv p1 p0.2.1) + (1 : Int)) < Prod.fst p0) = true then some ([wrap64 (p1 - (1 : Int))] ++ [wrap64 (p1 + Prod.fst p0.2)]) else some [wrap64 (p1 - (1 : Int))] else if decide (wrap64 (Int.tmod p1 p0.2.1 + (1 : Int)) < Prod.fst p0.2) = true then if decide (wrap64 (wrap64 (Int.tdiv p1 p0.2.1) + (1 : Int)) < Prod.fst p0) = true then some ([wrap64 (p1 + (1 : Int))] ++ [wrap64 (p1 + Prod.fst p0.2)]) else some [wrap64 (p1 + (1 : Int))] else if decide (wrap64 (wrap64 (Int.tdiv p1 p0.2.1) + (1 : Int)) < Prod.fst p0) = true then some [wrap64 (p1 + Prod.fst p0.2)] else some []
noncomputable def Z5w : FnDef := .of ZpD ZaY (List Int) (fun k x => ZdA k x.1 x.2.1) ZmM Zo4 Zt6
noncomputable def Zhx : Code := Try.f105.body.getD .skip
noncomputable def Zdv : Ctx (Tup ZaY × OutD) := { T := T, G := [], mvs := [], no := 0, n := 55, res := resOf T ZpD ZaY Try.f105.results.toList, loops := [], regs := [], conds := [], cuts := [] }
theorem Zz1 (k : Nat) : EnvOK Try.prog k Zdv.G := (EnvOK.nil mixed)
theorem Zz0 (k : Nat) (x : Tup Z5w.ps) : Z5w.f (k + 1) x = fnK Z5w Zdv Zhx k x := by kernel_rfl
theorem ZzH (x : Tup Z5w.ps) : Z5w.f 0 x = none := by kernel_rfl
theorem ZzO (k : Nat) : LOK Try.prog Zdv k Zhx := LOK.by [] (by kernel_rfl) AllOK.nil
theorem Zzt (k : Nat) : SoundAt Try.prog k 105 Z5w.E := @Z4 Try.prog Z5w Zdv 105 Try.f105 Zhx (by kernel_rfl) (by kernel_rfl) (by kernel_rfl) Try.func105 (by kernel_rfl) (by kernel_rfl) (by kernel_rfl) T_ok Zz1 ZzO ZzH Zz0 k
noncomputable def Zd9 : List PK := [PK.mk (Ty.pair (Ty.int .i64) (Ty.int .i64)) true none false none]
noncomputable def ZuS : List PK := [PK.mk (Ty.pair (Ty.int .i64) (Ty.pair (Ty.int .i64) (Ty.slice (71 : Nat) (Ty.pair (Ty.int .i64) (Ty.int .i64))))) true none false none, PK.mk (Ty.int .i64) false none false none, PK.mk (Ty.int .i64) false none false none]
noncomputable def Zs0 (r : Int × Int) : Tup Zd9 × OutD := ((r, ()), none)
noncomputable def ZrU : Tup Zd9 × OutD → Option (Int × Int)
 | (a, none) => some (a.1)
 | _ => none
theorem ZwU : ∀ b r, ZrU b = some r → Zs0 r = b := by
 rintro ⟨a, o⟩ r h
 cases o with
 | none => injection h with h; subst h; rfl
 | some _ => cases h
noncomputable def Zgn : Nat → Int × Int × List (Int × Int) → Int → Int → Option (Int × Int)
 | 0, _, _, _ => none
 | k + 1, p0, p1, p2 =>
  if (0 : Int) ≤ wrap64 (wrap64 (p1 * Prod.fst p0.2) + p2) then if wrap64 (wrap64 (p1 * Prod.fst p0.2) + p2) < (↑(List.length p0.2.2) : Int) then some (Prod.fst (List.getD p0.2.2 (Int.toNat (wrap64 (wrap64 (p1 * Prod.fst p0.2) + p2))) ((0 : Int), (0 : Int))), Prod.snd (List.getD p0.2.2 (Int.toNat (wrap64 (wrap64 (p1 * Prod.fst p0.2) + p2))) ((0 : Int), (0 : Int)))) else none else none
noncomputable def Z7M : FnDef := .of ZuS Zd9 (Int × Int) (fun k x => Zgn k x.1 x.2.1 x.2.2.1) Zs0 ZrU ZwU
noncomputable def Zms : Code := Try.f106.body.getD .skip
noncomputable def Zgr : Ctx (Tup Zd9 × OutD) := { T := T, G := [], mvs := [], no := 0, n := 17, res := resOf T ZuS Zd9 Try.f106.results.toList, loops := [], regs := [], conds := [], cuts := [] }
theorem ZBk (k : Nat) : EnvOK Try.prog k Zgr.G := (EnvOK.nil mixed)
theorem ZBo (k : Nat) (x : Tup Z7M.ps) : Z7M.f (k + 1) x = fnK Z7M Zgr Zms k x := by kernel_rfl
theorem ZB8 (x : Tup Z7M.ps) : Z7M.f 0 x = none := by kernel_rfl
theorem ZBj (k : Nat) : LOK Try.prog Zgr k Zms := LOK.by [] (by kernel_rfl) AllOK.nil
theorem ZBv (k : Nat) : SoundAt Try.prog k 106 Z7M.E := @Z4 Try.prog Z7M Zgr 106 Try.f106 Zms (by kernel_rfl) (by kernel_rfl) (by kernel_rfl) Try.func106 (by kernel_rfl) (by kernel_rfl) (by kernel_rfl) T_ok ZBk ZBj ZB8 ZBo k
noncomputable def ZaR : List PK := [PK.mk (Ty.int .i64) false none false none]
noncomputable def ZpR : List PK := [PK.mk (Ty.pair (Ty.int .i64) (Ty.int .i64)) true none false none, PK.mk (Ty.int .i64) false none false none]
noncomputable def ZmL (r : Int) : Tup ZaR × OutD := ((r, ()), none)
noncomputable def ZmK : Tup ZaR × OutD → Option (Int)
 | (a, none) => some (a.1)
 | _ => none
theorem Zu2 : ∀ b r, ZmK b = some r → ZmL r = b := by
 rintro ⟨a, o⟩ r h
 cases o with
 | none => injection h with h; subst h; rfl
 | some _ => cases h
noncomputable def Zb5 : Nat → Int × Int → Int → Option Int
 | 0, _, _ => none
 | k + 1, p0, p1 =>
  if decide (Prod.fst p0 = (1 : Int)) = true then some (-1 : Int) else if decide (Prod.fst p0 = (2 : Int)) = true then some (1 : Int) else if decide (Prod.fst p0 = (3 : Int)) = true then some (wrap64 (wrap64 ((2 : Int) * Prod.snd p0) - (1 : Int))) else if decide (Prod.fst p0 = (6 : Int)) = true then some (wrap64 (wrap64 ((2 : Int) * Prod.snd p0) - (1 : Int))) else if decide (Prod.fst p0 = (4 : Int)) = true then some (wrap64 ((0 : Int) - p1)) else some (0 : Int)
noncomputable def Z5v : FnDef := .of ZpR ZaR (Int) (fun k x => Zb5 k x.1 x.2.1) ZmL ZmK Zu2
noncomputable def Zhq : Code := Try.f107.body.getD .skip
noncomputable def ZdD : Ctx (Tup ZaR × OutD) := { T := T, G := [], mvs := [], no := 0, n := 22, res := resOf T ZpR ZaR Try.f107.results.toList, loops := [], regs := [], conds := [], cuts := [] }
theorem ZAd (k : Nat) : EnvOK Try.prog k ZdD.G := (EnvOK.nil mixed)
theorem ZzZ (k : Nat) (x : Tup Z5v.ps) : Z5v.f (k + 1) x = fnK Z5v ZdD Zhq k x := by kernel_rfl
theorem Zzd (x : Tup Z5v.ps) : Z5v.f 0 x = none := by kernel_rfl
theorem ZA6 (k : Nat) : LOK Try.prog ZdD k Zhq := LOK.by [] (by kernel_rfl) AllOK.nil
theorem ZAb (k : Nat) : SoundAt Try.prog k 107 Z5v.E := @Z4 Try.prog Z5v ZdD 107 Try.f107 Zhq (by kernel_rfl) (by kernel_rfl) (by kernel_rfl) Try.func107 (by kernel_rfl) (by kernel_rfl) (by kernel_rfl) T_ok ZAd ZA6 Zzd ZzZ k
noncomputable def Z82 : List PK := [PK.mk Ty.bool false none false none]
noncomputable def Zke : List PK := [PK.mk (Ty.pair (Ty.int .i64) (Ty.int .i64)) true none false none]
noncomputable def ZhY (r : Bool) : Tup Z82 × OutD := ((r, ()), none)
noncomputable def ZhS : Tup Z82 × OutD → Option (Bool)
 | (a, none) => some (a.1)
 | _ => none
theorem Zor : ∀ b r, ZhS b = some r → ZhY r = b := by
 rintro ⟨a, o⟩ r h
 cases o with
 | none => injection h with h; subst h; rfl
 | some _ => cases h
noncomputable def Z8b : Nat → Int × Int → Option Bool
 | 0, _ => none
 | k + 1, p0 =>
  if decide (Prod.fst p0 = (3 : Int)) = true then some true else some (decide (Prod.fst p0 = (6 : Int)))
noncomputable def Z2t : FnDef := .of Zke Z82 (Bool) (fun k x => Z8b k x.1) ZhY ZhS Zor
noncomputable def Ze8 : Code := Try.f109.body.getD .skip
noncomputable def Zap : Ctx (Tup Z82 × OutD) := { T := T, G := [], mvs := [], no := 0, n := 11, res := resOf T Zke Z82 Try.f109.results.toList, loops := [], regs := [], conds := [], cuts := [] }
theorem Zve (k : Nat) : EnvOK Try.prog k Zap.G := (EnvOK.nil mixed)
theorem Zva (k : Nat) (x : Tup Z2t.ps) : Z2t.f (k + 1) x = fnK Z2t Zap Ze8 k x := by kernel_rfl
theorem ZvM (x : Tup Z2t.ps) : Z2t.f 0 x = none := by kernel_rfl
theorem ZvS (k : Nat) : LOK Try.prog Zap k Ze8 := LOK.by [] (by kernel_rfl) AllOK.nil
theorem Zjx (k : Nat) : SoundAt Try.prog k 109 Z2t.E := @Z4 Try.prog Z2t Zap 109 Try.f109 Ze8 (by kernel_rfl) (by kernel_rfl) (by kernel_rfl) Try.func109 (by kernel_rfl) (by kernel_rfl) (by kernel_rfl) T_ok Zve ZvS ZvM Zva k
noncomputable def ZaV : List PK := [PK.mk (Ty.pair (Ty.int .i64) (Ty.int .i64)) true none false none]
noncomputable def ZpW : List PK := [PK.mk (Ty.pair (Ty.int .i64) (Ty.int .i64)) true none false none]
noncomputable def Zno (r : Int × Int) : Tup ZaV × OutD := ((r, ()), none)
noncomputable def Znl : Tup ZaV × OutD → Option (Int × Int)
 | (a, none) => some (a.1)
 | _ => none
theorem Ztb : ∀ b r, Znl b = some r → Zno r = b := by
 rintro ⟨a, o⟩ r h
 cases o with
 | none => injection h with h; subst h; rfl
 | some _ => cases h
noncomputable def Z5m : Nat → Int × Int → Option (Int × Int)
 | 0, _ => none
 | k + 1, p0 =>
  some (Prod.fst p0, wrap64 ((1 : Int) - Prod.snd p0))
noncomputable def Z48 : FnDef := .of ZpW ZaV (Int × Int) (fun k x => Z5m k x.1) Zno Znl Ztb
noncomputable def Zhy : Code := Try.f110.body.getD .skip
noncomputable def Zdu : Ctx (Tup ZaV × OutD) := { T := T, G := [], mvs := [], no := 0, n := 9, res := resOf T ZpW ZaV Try.f110.results.toList, loops := [], regs := [], conds := [], cuts := [] }
theorem ZzE (k : Nat) : EnvOK Try.prog k Zdu.G := (EnvOK.nil mixed)
theorem Zzq (k : Nat) (x : Tup Z48.ps) : Z48.f (k + 1) x = fnK Z48 Zdu Zhy k x := by kernel_rfl
theorem ZzI (x : Tup Z48.ps) : Z48.f 0 x = none := by kernel_rfl
theorem ZzC (k : Nat) : LOK Try.prog Zdu k Zhy := LOK.by [] (by kernel_rfl) AllOK.nil
theorem Zpv (k : Nat) : SoundAt Try.prog k 110 Z48.E := @Z4 Try.prog Z48 Zdu 110 Try.f110 Zhy (by kernel_rfl) (by kernel_rfl) (by kernel_rfl) Try.func110 (by kernel_rfl) (by kernel_rfl) (by kernel_rfl) T_ok ZzE ZzC ZzI Zzq k
end
end Go.Proofs.Ytglkedenkcpcbaa.Vs

set_option maxRecDepth 100000
set_option maxHeartbeats 2000000
set_option linter.unusedVariables false
set_option linter.unusedSimpArgs false
namespace Go.Proofs.Ytglkedenkcpcbaa.Vs
open Go.RowKit
noncomputable section
noncomputable def Z1h : List PK := [PK.mk (Ty.slice (3 : Nat) (Ty.int .i64)) false none false none]
noncomputable def ZfL : List PK := [PK.mk (Ty.pair (Ty.int .i64) (Ty.pair (Ty.int .i64) (Ty.slice (71 : Nat) (Ty.pair (Ty.int .i64) (Ty.int .i64))))) true none false none]
noncomputable def Zfd (r : List Int) : Tup Z1h × OutD := ((r, ()), none)
noncomputable def ZeP : Tup Z1h × OutD → Option (List Int)
 | (a, none) => some (a.1)
 | _ => none
theorem ZkF : ∀ b r, ZeP b = some r → Zfd r = b := by
 rintro ⟨a, o⟩ r h
 cases o with
 | none => injection h with h; subst h; rfl
 | some _ => cases h
noncomputable def Z33 : Nat → Int → Int → List (Int × Int) → List Int → Int → Int → Option (Int × Int × List (Int × Int) × List Int)
 | 0, _, _, _, _, _, _ => none
 | k + 1, b1_0, b1_1, b1_2, o2, v17, v18 =>
  if decide (v18 < v17) = true then if (0 : Int) ≤ v18 then if v18 < (↑(List.length o2) : Int) then Z33 k b1_0 b1_1 b1_2 (List.set o2 (Int.toNat v18) (-1 : Int)) v17 (wrap64 (v18 + (1 : Int))) else none else none else some (b1_0, b1_1, b1_2, o2)
noncomputable def Z9e : Spec := Spec.mk [OSh.ro, OSh.box (26 : Nat) [Sh.int .i64, Sh.int .i64, Sh.snap (0 : Nat) (Ty.pair (Ty.int .i64) (Ty.int .i64))], OSh.row true (3 : Nat) (Ty.int .i64)] [((1 : Nat), TSh.at (Sh.ptr (1 : Nat) (0 : Nat))), ((3 : Nat), TSh.at (Sh.sl (2 : Nat))), ((17 : Nat), TSh.at (Sh.int .i64)), ((18 : Nat), TSh.at (Sh.int .i64))]
noncomputable def Zme : Spec := Spec.mk [OSh.ro, OSh.box (26 : Nat) [Sh.int .i64, Sh.int .i64, Sh.snap (0 : Nat) (Ty.pair (Ty.int .i64) (Ty.int .i64))], OSh.row true (3 : Nat) (Ty.int .i64)] [((1 : Nat), TSh.at (Sh.ptr (1 : Nat) (0 : Nat))), ((3 : Nat), TSh.at (Sh.sl (2 : Nat)))]
noncomputable def Z2B : LoopDef (Tup Z1h × OutD) := .plain Z9e Zme (Int × Int × List (Int × Int) × List Int) (fun k x => Z33 k x.1.2.1.1 x.1.2.1.2.1 x.1.2.1.2.2.1 x.1.2.2.1 x.2.2.2.1 x.2.2.2.2.1) (fun z => (((), (z.1, z.2.1, z.2.2.1, ()), z.2.2.2, ()), ((), (), ()))) (fun y => (y.1.2.1.1, y.1.2.1.2.1, y.1.2.1.2.2.1, y.1.2.2.1)) (fun _ => rfl)
noncomputable def Z1i : Nat → Int → Int → List (Int × Int) → List Int → List Int → List Int → Int → List (Int × Int) → Int → Int → Int → Int → Option (Int × Int × List (Int × Int) × List Int × List Int × Int × List (Int × Int) × Int × Int)
 | 0, _, _, _, _, _, _, _, _, _, _, _, _ => none
 | k + 1, b1_0, b1_1, b1_2, o2, o3, o4, v5, v26, v27, v28, v60, v61 =>
  if decide (v61 < v60) = true then if (0 : Int) ≤ v61 then if v61 < (↑(List.length o4) : Int) then if (0 : Int) ≤ List.getD o4 (Int.toNat v61) (0 : Int) then if List.getD o4 (Int.toNat v61) (0 : Int) < (↑(List.length b1_2) : Int) then Option.bind (Z97 k (Prod.fst (List.getD b1_2 (Int.toNat (List.getD o4 (Int.toNat v61) (0 : Int))) ((0 : Int), (0 : Int))), Prod.snd (List.getD b1_2 (Int.toNat (List.getD o4 (Int.toNat v61) (0 : Int))) ((0 : Int), (0 : Int))))) fun z3 => if z3 = true then if (0 : Int) ≤ List.getD o4 (Int.toNat v61) (0 : Int) then if List.getD o4 (Int.toNat v61) (0 : Int) < (↑(List.length o2) : Int) then if decide (List.getD o2 (Int.toNat (List.getD o4 (Int.toNat v61) (0 : Int))) (0 : Int) < (0 : Int)) = true then if (0 : Int) ≤ List.getD o4 (Int.toNat v61) (0 : Int) then if List.getD o4 (Int.toNat v61) (0 : Int) < (↑(List.length o2) : Int) then if List.length o3 + List.length [List.getD o4 (Int.toNat v61) (0 : Int)] ≤ (140737488355328 / 8 : Nat) then Z1i k b1_0 b1_1 b1_2 (List.set o2 (Int.toNat (List.getD o4 (Int.toNat v61) (0 : Int))) v5) (o3 ++ [List.getD o4 (Int.toNat v61) (0 : Int)]) o4 v5 v26 v27 v28 v60 (wrap64 (v61 + (1 : Int))) else none else none else none else Z1i k b1_0 b1_1 b1_2 o2 o3 o4 v5 v26 v27 v28 v60 (wrap64 (v61 + (1 : Int))) else none else none else Z1i k b1_0 b1_1 b1_2 o2 o3 o4 v5 v26 v27 v28 v60 (wrap64 (v61 + (1 : Int))) else none else none else none else none else some (b1_0, b1_1, b1_2, o2, o3, v5, v26, v27, v28)
noncomputable def Z9i : Spec := Spec.mk [OSh.ro, OSh.box (26 : Nat) [Sh.int .i64, Sh.int .i64, Sh.snap (0 : Nat) (Ty.pair (Ty.int .i64) (Ty.int .i64))], OSh.row true (3 : Nat) (Ty.int .i64), OSh.row true (3 : Nat) (Ty.int .i64), OSh.row true (3 : Nat) (Ty.int .i64)] [((1 : Nat), TSh.at (Sh.ptr (1 : Nat) (0 : Nat))), ((3 : Nat), TSh.at (Sh.sl (2 : Nat))), ((5 : Nat), TSh.at (Sh.int .i64)), ((8 : Nat), TSh.at (Sh.sl (3 : Nat))), ((26 : Nat), TSh.at (Sh.snap (0 : Nat) (Ty.pair (Ty.int .i64) (Ty.int .i64)))), ((27 : Nat), TSh.at (Sh.int .i64)), ((28 : Nat), TSh.at (Sh.int .i64)), ((59 : Nat), TSh.at (Sh.sl (4 : Nat))), ((60 : Nat), TSh.at (Sh.int .i64)), ((61 : Nat), TSh.at (Sh.int .i64))]
noncomputable def ZlG : Spec := Spec.mk [OSh.ro, OSh.box (26 : Nat) [Sh.int .i64, Sh.int .i64, Sh.snap (0 : Nat) (Ty.pair (Ty.int .i64) (Ty.int .i64))], OSh.row true (3 : Nat) (Ty.int .i64), OSh.row true (3 : Nat) (Ty.int .i64)] [((1 : Nat), TSh.at (Sh.ptr (1 : Nat) (0 : Nat))), ((3 : Nat), TSh.at (Sh.sl (2 : Nat))), ((5 : Nat), TSh.at (Sh.int .i64)), ((8 : Nat), TSh.at (Sh.sl (3 : Nat))), ((26 : Nat), TSh.at (Sh.snap (0 : Nat) (Ty.pair (Ty.int .i64) (Ty.int .i64)))), ((27 : Nat), TSh.at (Sh.int .i64)), ((28 : Nat), TSh.at (Sh.int .i64))]
noncomputable def Z2K : LoopDef (Tup Z1h × OutD) := .plain Z9i ZlG (Int × Int × List (Int × Int) × List Int × List Int × Int × List (Int × Int) × Int × Int) (fun k x => Z1i k x.1.2.1.1 x.1.2.1.2.1 x.1.2.1.2.2.1 x.1.2.2.1 x.1.2.2.2.1 x.1.2.2.2.2.1 x.2.2.2.1 x.2.2.2.2.2.1 x.2.2.2.2.2.2.1 x.2.2.2.2.2.2.2.1 x.2.2.2.2.2.2.2.2.2.1 x.2.2.2.2.2.2.2.2.2.2.1) (fun z => (((), (z.1, z.2.1, z.2.2.1, ()), z.2.2.2.1, z.2.2.2.2.1, ()), ((), (), z.2.2.2.2.2.1, (), z.2.2.2.2.2.2.1, z.2.2.2.2.2.2.2.1, z.2.2.2.2.2.2.2.2, ()))) (fun y => (y.1.2.1.1, y.1.2.1.2.1, y.1.2.1.2.2.1, y.1.2.2.1, y.1.2.2.2.1, y.2.2.2.1, y.2.2.2.2.2.1, y.2.2.2.2.2.2.1, y.2.2.2.2.2.2.2.1)) (fun _ => rfl)
noncomputable def Z2d : Nat → Int → Int → List (Int × Int) → List Int → List Int → Int → List (Int × Int) → Int → Int → Option (Int × Int × List (Int × Int) × List Int × Int × List (Int × Int) × Int × Int)
 | 0, _, _, _, _, _, _, _, _, _ => none
 | k + 1, b1_0, b1_1, b1_2, o2, o3, v5, v26, v27, v28 =>
  if decide ((↑(List.length o3) : Int) > (0 : Int)) = true then if (0 : Int) < (↑(List.length o3) : Int) then if (1 : Int) ≤ (↑(List.length o3) : Int) then if (↑(List.length o3) : Int) ≤ (↑(List.length o3) : Int) then Option.bind (Zbr k (b1_0, b1_1, b1_2) (List.getD o3 (Int.toNat (0 : Int)) (0 : Int))) fun z2 => Option.bind (Z1i k b1_0 b1_1 b1_2 o2 (List.drop (Int.toNat (1 : Int)) o3) z2 v5 v26 v27 v28 (↑(List.length z2) : Int) (0 : Int)) fun z4 => Z2d k z4.1 z4.2.1 z4.2.2.1 z4.2.2.2.1 z4.2.2.2.2.1 z4.2.2.2.2.2.1 z4.2.2.2.2.2.2.1 z4.2.2.2.2.2.2.2.1 z4.2.2.2.2.2.2.2.2 else none else none else none else some (b1_0, b1_1, b1_2, o2, v5, v26, v27, v28)
noncomputable def Z9j : Spec := Spec.mk [OSh.ro, OSh.box (26 : Nat) [Sh.int .i64, Sh.int .i64, Sh.snap (0 : Nat) (Ty.pair (Ty.int .i64) (Ty.int .i64))], OSh.row true (3 : Nat) (Ty.int .i64), OSh.row true (3 : Nat) (Ty.int .i64)] [((1 : Nat), TSh.at (Sh.ptr (1 : Nat) (0 : Nat))), ((3 : Nat), TSh.at (Sh.sl (2 : Nat))), ((5 : Nat), TSh.at (Sh.int .i64)), ((8 : Nat), TSh.at (Sh.sl (3 : Nat))), ((26 : Nat), TSh.at (Sh.snap (0 : Nat) (Ty.pair (Ty.int .i64) (Ty.int .i64)))), ((27 : Nat), TSh.at (Sh.int .i64)), ((28 : Nat), TSh.at (Sh.int .i64))]
noncomputable def ZlM : Spec := Spec.mk [OSh.ro, OSh.box (26 : Nat) [Sh.int .i64, Sh.int .i64, Sh.snap (0 : Nat) (Ty.pair (Ty.int .i64) (Ty.int .i64))], OSh.row true (3 : Nat) (Ty.int .i64)] [((1 : Nat), TSh.at (Sh.ptr (1 : Nat) (0 : Nat))), ((3 : Nat), TSh.at (Sh.sl (2 : Nat))), ((5 : Nat), TSh.at (Sh.int .i64)), ((26 : Nat), TSh.at (Sh.snap (0 : Nat) (Ty.pair (Ty.int .i64) (Ty.int .i64)))), ((27 : Nat), TSh.at (Sh.int .i64)), ((28 : Nat), TSh.at (Sh.int .i64))]
noncomputable def Z2C : LoopDef (Tup Z1h × OutD) := .plain Z9j ZlM (Int × Int × List (Int × Int) × List Int × Int × List (Int × Int) × Int × Int) (fun k x => Z2d k x.1.2.1.1 x.1.2.1.2.1 x.1.2.1.2.2.1 x.1.2.2.1 x.1.2.2.2.1 x.2.2.2.1 x.2.2.2.2.2.1 x.2.2.2.2.2.2.1 x.2.2.2.2.2.2.2.1) (fun z => (((), (z.1, z.2.1, z.2.2.1, ()), z.2.2.2.1, ()), ((), (), z.2.2.2.2.1, z.2.2.2.2.2.1, z.2.2.2.2.2.2.1, z.2.2.2.2.2.2.2, ()))) (fun y => (y.1.2.1.1, y.1.2.1.2.1, y.1.2.1.2.2.1, y.1.2.2.1, y.2.2.2.1, y.2.2.2.2.1, y.2.2.2.2.2.1, y.2.2.2.2.2.2.1)) (fun _ => rfl)
noncomputable def ZS : Nat → Int → Int → List (Int × Int) → List Int → Int → List (Int × Int) → Int → Int → Option (List Int)
 | 0, _, _, _, _, _, _, _, _ => none
 | k + 1, b1_0, b1_1, b1_2, o2, v5, v26, v27, v28 =>
  if decide (v28 < v27) = true then if (0 : Int) ≤ v28 then if v28 < (↑(List.length v26) : Int) then Option.bind (Z97 k (Prod.fst (List.getD v26 (Int.toNat v28) ((0 : Int), (0 : Int))), Prod.snd (List.getD v26 (Int.toNat v28) ((0 : Int), (0 : Int))))) fun z1 => if (!z1) = true then ZS k b1_0 b1_1 b1_2 o2 v5 v26 v27 (wrap64 (v28 + (1 : Int))) else if (0 : Int) ≤ v28 then if v28 < (↑(List.length o2) : Int) then if decide (List.getD o2 (Int.toNat v28) (0 : Int) ≥ (0 : Int)) = true then ZS k b1_0 b1_1 b1_2 o2 v5 v26 v27 (wrap64 (v28 + (1 : Int))) else if (0 : Int) ≤ v28 then if v28 < (↑(List.length o2) : Int) then Option.bind (Z2d k b1_0 b1_1 b1_2 (List.set o2 (Int.toNat v28) v5) [v28] v5 v26 v27 v28) fun z5 => ZS k z5.1 z5.2.1 z5.2.2.1 z5.2.2.2.1 (wrap64 (Prod.fst z5.2.2.2.2 + (1 : Int))) z5.2.2.2.2.2.1 z5.2.2.2.2.2.2.1 (wrap64 (Prod.snd z5.2.2.2.2.2.2 + (1 : Int))) else none else none else none else none else none else none else some o2
noncomputable def Z9g : Spec := Spec.mk [OSh.ro, OSh.box (26 : Nat) [Sh.int .i64, Sh.int .i64, Sh.snap (0 : Nat) (Ty.pair (Ty.int .i64) (Ty.int .i64))], OSh.row true (3 : Nat) (Ty.int .i64)] [((1 : Nat), TSh.at (Sh.ptr (1 : Nat) (0 : Nat))), ((3 : Nat), TSh.at (Sh.sl (2 : Nat))), ((5 : Nat), TSh.at (Sh.int .i64)), ((26 : Nat), TSh.at (Sh.snap (0 : Nat) (Ty.pair (Ty.int .i64) (Ty.int .i64)))), ((27 : Nat), TSh.at (Sh.int .i64)), ((28 : Nat), TSh.at (Sh.int .i64))]
noncomputable def Zmx : Spec := Spec.mk [OSh.ro, OSh.row true (3 : Nat) (Ty.int .i64)] [((3 : Nat), TSh.at (Sh.sl (1 : Nat)))]
noncomputable def Z2E : LoopDef (Tup Z1h × OutD) := .plain Z9g Zmx (List Int) (fun k x => ZS k x.1.2.1.1 x.1.2.1.2.1 x.1.2.1.2.2.1 x.1.2.2.1 x.2.2.2.1 x.2.2.2.2.1 x.2.2.2.2.2.1 x.2.2.2.2.2.2.1) (fun z => (((), z, ()), ((), ()))) (fun y => (y.1.2.1)) (fun _ => rfl)
noncomputable def Z3X : Nat → Int × Int × List (Int × Int) → Option (List Int)
 | 0, _ => none
 | k + 1, p0 =>
  if Int.toNat (↑(List.length p0.2.2) : Int) * (8 : Nat) ≤ (281474976710656 : Nat) then Option.bind (Z33 k p0.1 p0.2.1 p0.2.2 (List.replicate (Int.toNat (↑(List.length p0.2.2) : Int)) (0 : Int)) (↑(List.length (List.replicate (Int.toNat (↑(List.length p0.2.2) : Int)) (0 : Int))) : Int) (0 : Int)) fun z0 => Option.bind (ZS k z0.1 z0.2.1 z0.2.2.1 z0.2.2.2 (0 : Int) z0.2.2.1 (↑(List.length z0.2.2.1) : Int) (0 : Int)) fun z6 => some z6 else none
noncomputable def ZX : FnDef := .of ZfL Z1h (List Int) (fun k x => Z3X k x.1) Zfd ZeP ZkF
noncomputable def Z2Y : Code := Try.f56.body.getD .skip
noncomputable def Zd : Ctx (Tup Z1h × OutD) := { T := T, G := [(89, Z3Q.E), (90, Z3M.E)], mvs := [56], no := 0, n := 91, res := resOf T ZfL Z1h Try.f56.results.toList, loops := [(0, Z2B.E), (6, Z2K.E), (4, Z2C.E), (2, Z2E.E)], regs := [], conds := [], cuts := [] }
theorem Z5H (k : Nat) : EnvOK Try.prog k Zd.G := (EnvOK.cons (ZwL k) (EnvOK.cons (Zxv k) (EnvOK.nil mixed)))
noncomputable def Z6w : Code := (findLoop 0 Z2Y).getD .skip
theorem ZlA (k : Nat) (x : Z9e.D) : Z2B.lp (k + 1) x = loopK Zd Z2B 0 Z6w k x := by kernel_rfl
theorem Zmy (k : Nat) : LOK Try.prog Zd k Z6w := LOK.by [] (by kernel_rfl) AllOK.nil
theorem Zm8 (x : Z9e.D) : Z2B.lp 0 x = none := by kernel_rfl
theorem Zkl (k : Nat) : EOK Try.prog Zd k Z2B.E (.block 0 (.loop Z6w)) := Z8 T_ok Z5H Zm8 ZlA Zmy k
noncomputable def Z6m : Code := (findLoop 6 Z2Y).getD .skip
theorem ZlO (k : Nat) (x : Z9i.D) : Z2K.lp (k + 1) x = loopK Zd Z2K 6 Z6m k x := by kernel_rfl
theorem Zmz (k : Nat) : LOK Try.prog Zd k Z6m := LOK.by [] (by kernel_rfl) AllOK.nil
theorem ZlN (x : Z9i.D) : Z2K.lp 0 x = none := by kernel_rfl
theorem ZkA (k : Nat) : EOK Try.prog Zd k Z2K.E (.block 6 (.loop Z6m)) := Z8 T_ok Z5H ZlN ZlO Zmz k
noncomputable def Z6h : Code := (findLoop 4 Z2Y).getD .skip
theorem ZlS (k : Nat) (x : Z9j.D) : Z2C.lp (k + 1) x = loopK Zd Z2C 4 Z6h k x := by kernel_rfl
theorem Zm2 (k : Nat) : LOK Try.prog Zd k Z6h := LOK.by [(Z2K.E, .block 6 (.loop Z6m))] (by kernel_rfl) (AllOK.cons (ZkA k) AllOK.nil)
theorem Zm9 (x : Z9j.D) : Z2C.lp 0 x = none := by kernel_rfl
theorem ZkO (k : Nat) : EOK Try.prog Zd k Z2C.E (.block 4 (.loop Z6h)) := Z8 T_ok Z5H Zm9 ZlS Zm2 k
noncomputable def Z6l : Code := (findLoop 2 Z2Y).getD .skip
theorem ZlY (k : Nat) (x : Z9g.D) : Z2E.lp (k + 1) x = loopK Zd Z2E 2 Z6l k x := by kernel_rfl
theorem Zm7 (k : Nat) : LOK Try.prog Zd k Z6l := LOK.by [(Z2C.E, .block 4 (.loop Z6h))] (by kernel_rfl) (AllOK.cons (ZkO k) AllOK.nil)
theorem Zlz (x : Z9g.D) : Z2E.lp 0 x = none := by kernel_rfl
theorem ZkC (k : Nat) : EOK Try.prog Zd k Z2E.E (.block 2 (.loop Z6l)) := Z8 T_ok Z5H Zlz ZlY Zm7 k
theorem Zq1 (k : Nat) (x : Tup ZX.ps) : ZX.f (k + 1) x = fnK ZX Zd Z2Y k x := by kernel_rfl
theorem Zqq (x : Tup ZX.ps) : ZX.f 0 x = none := by kernel_rfl
theorem ZqG (k : Nat) : LOK Try.prog Zd k Z2Y := LOK.by [(Z2B.E, .block 0 (.loop Z6w)), (Z2E.E, .block 2 (.loop Z6l))] (by kernel_rfl) (AllOK.cons (Zkl k) (AllOK.cons (ZkC k) AllOK.nil))
theorem Zbj (k : Nat) : SoundAt Try.prog k 56 ZX.E := @Z4 Try.prog ZX Zd 56 Try.f56 Z2Y (by kernel_rfl) (by kernel_rfl) (by kernel_rfl) Try.func56 (by kernel_rfl) (by kernel_rfl) (by kernel_rfl) T_ok Z5H ZqG Zqq Zq1 k
noncomputable def Z7p : List PK := [PK.mk (Ty.int .i64) false none false none]
noncomputable def ZhO : List PK := [PK.mk (Ty.pair (Ty.slice (5 : Nat) (Ty.int .u8)) (Ty.pair (Ty.int .i64) (Ty.int .u64))) false none false (some (58 : Nat)), PK.mk (Ty.int .i64) false none false none]
noncomputable def ZgU (r : Int × Int × Int) : Tup Z7p × OutD := ((r.1, ()), some ⟨Ty.pair (Ty.slice (5 : Nat) (Ty.int .u8)) (Ty.pair (Ty.int .i64) (Ty.int .u64)), [([], r.2)]⟩)
noncomputable def ZbV : Tup Z7p × OutD → Option (Int × Int × Int)
 | (a, some ⟨u, ys⟩) => if h : u = Ty.pair (Ty.slice (5 : Nat) (Ty.int .u8)) (Ty.pair (Ty.int .i64) (Ty.int .u64)) then (match castU h ys with
  | [([], y)] => some (a.1, y)
  | _ => none) else none
 | _ => none
theorem ZnQ : ∀ b r, ZbV b = some r → ZgU r = b := by
 rintro ⟨a, o⟩ r h
 cases o with
 | none => cases h
 | some s =>
  obtain ⟨u, ys⟩ := s
  simp only [ZbV] at h
  split at h
  ·rename_i hu
   subst hu
   match ys, h with
   | [], h => cases (show (none : Option _) = some r from h)
   | [([], y)], h => injection (show some _ = some r from h) with h; subst h; rfl
   | [(_ :: _, y)], h => cases (show (none : Option _) = some r from h)
   | (h1, _) :: _ :: _, h => cases h1 <;> cases (show (none : Option _) = some r from h)
  ·cases h
noncomputable def Z0 : Nat → List Int × Int × Int → Int → Option (Int × Int × Int)
 | 0, _, _ => none
 | k + 1, p0, p1 =>
  if decide (p1 ≤ (1 : Int)) = true then some ((0 : Int), Prod.fst p0.2, Prod.snd p0.2) else Option.bind (Z5d k (Prod.fst p0, Prod.fst p0.2, Prod.snd p0.2)) fun z0 => if decide (p1 > (200 : Int)) = true then Option.bind (Z5d k (Prod.fst p0, Prod.fst z0.2, Prod.snd z0.2)) fun z1 => if p1 = (0 : Int) then none else some (Int.tmod (wrap64 (wrap64 (Prod.fst z0 * (256 : Int)) + Prod.fst z1)) p1, Prod.fst z1.2, Prod.snd z1.2) else if p1 = (0 : Int) then none else some (Int.tmod z0.1 p1, Prod.fst z0.2, Prod.snd z0.2)
noncomputable def Zc : FnDef := .of ZhO Z7p (Int × Int × Int) (fun k x => Z0 k x.1 x.2.1) ZgU ZbV ZnQ
noncomputable def ZcY : Code := Try.f57.body.getD .skip
noncomputable def Z9w : Ctx (Tup Z7p × OutD) := { T := T, G := [(91, Z2S.E)], mvs := [], no := 2, n := 20, res := resOf T ZhO Z7p Try.f57.results.toList, loops := [], regs := [], conds := [], cuts := [] }
theorem Zu3 (k : Nat) : EnvOK Try.prog k Z9w.G := (EnvOK.cons (Zt3 k) (EnvOK.nil mixed))
theorem Zts (k : Nat) (x : Tup Zc.ps) : Zc.f (k + 1) x = fnK Zc Z9w ZcY k x := by kernel_rfl
theorem ZsK (x : Tup Zc.ps) : Zc.f 0 x = none := by kernel_rfl
theorem ZtY (k : Nat) : LOK Try.prog Z9w k ZcY := LOK.by [] (by kernel_rfl) AllOK.nil
theorem ZK (k : Nat) : SoundAt Try.prog k 57 Zc.E := @Z4 Try.prog Zc Z9w 57 Try.f57 ZcY (by kernel_rfl) (by kernel_rfl) (by kernel_rfl) Try.func57 (by kernel_rfl) (by kernel_rfl) (by kernel_rfl) T_ok Zu3 ZtY ZsK Zts k
noncomputable def Z59 : List PK := [PK.mk Ty.bool false none false none]
noncomputable def ZhH : List PK := [PK.mk (Ty.slice (71 : Nat) (Ty.pair (Ty.int .i64) (Ty.int .i64))) false none false none]
noncomputable def ZbU (r : Bool) : Tup Z59 × OutD := ((r, ()), none)
noncomputable def ZbZ : Tup Z59 × OutD → Option (Bool)
 | (a, none) => some (a.1)
 | _ => none
theorem Zex : ∀ b r, ZbZ b = some r → ZbU r = b := by
 rintro ⟨a, o⟩ r h
 cases o with
 | none => injection h with h; subst h; rfl
 | some _ => cases h
noncomputable def Z3S : Nat → List (Int × Int) → Int → Int → Option (LR Unit Bool)
 | 0, _, _, _ => none
 | k + 1, v8, v9, v10 =>
  if decide (v10 < v9) = true then if (0 : Int) ≤ v10 then if v10 < (↑(List.length v8) : Int) then Option.bind (ZaT k (Prod.fst (List.getD v8 (Int.toNat v10) ((0 : Int), (0 : Int))), Prod.snd (List.getD v8 (Int.toNat v10) ((0 : Int), (0 : Int))))) fun z0 => if (!z0) = true then some (LR.ret false) else Z3S k v8 v9 (wrap64 (v10 + (1 : Int))) else none else none else some (LR.go ())
noncomputable def Zal : Spec := Spec.mk [OSh.ro] [((8 : Nat), TSh.at (Sh.snap (0 : Nat) (Ty.pair (Ty.int .i64) (Ty.int .i64)))), ((9 : Nat), TSh.at (Sh.int .i64)), ((10 : Nat), TSh.at (Sh.int .i64))]
noncomputable def ZoR : Spec := Spec.mk [OSh.ro] []
noncomputable def Z3D : LoopDef (Tup Z59 × OutD) := .rets Zal ZoR (Unit) (Bool) (fun k x => Z3S k x.2.1 x.2.2.1 x.2.2.2.1) (fun z => (((), ()), (()))) (fun y => ()) (fun _ => rfl) ZbU ZbZ Zex
noncomputable def Z9r : Nat → List (Int × Int) → Option Bool
 | 0, _ => none
 | k + 1, p0 =>
  if decide ((↑(List.length p0) : Int) > (90 : Int)) = true then some false else Option.bind (Z3S k p0 (↑(List.length p0) : Int) (0 : Int)) fun z1 => LR.on z1 (fun y1 => some true) fun r1 => some r1
noncomputable def Z2Q : FnDef := .of ZhH Z59 (Bool) (fun k x => Z9r k x.1) ZbU ZbZ Zex
noncomputable def Z9D : Code := Try.f85.body.getD .skip
noncomputable def Z3G : Ctx (Tup Z59 × OutD) := { T := T, G := [(102, Z4c.E)], mvs := [], no := 0, n := 18, res := resOf T ZhH Z59 Try.f85.results.toList, loops := [(0, Z3D.E)], regs := [], conds := [], cuts := [] }
theorem ZhK (k : Nat) : EnvOK Try.prog k Z3G.G := (EnvOK.cons (Zpe k) (EnvOK.nil mixed))
noncomputable def Z7G : Code := (findLoop 0 Z9D).getD .skip
theorem ZoS (k : Nat) (x : Zal.D) : Z3D.lp (k + 1) x = loopK Z3G Z3D 0 Z7G k x := by kernel_rfl
theorem Zoq (k : Nat) : LOK Try.prog Z3G k Z7G := LOK.by [] (by kernel_rfl) AllOK.nil
theorem Zp2 (x : Zal.D) : Z3D.lp 0 x = none := by kernel_rfl
theorem ZnM (k : Nat) : EOK Try.prog Z3G k Z3D.E (.block 0 (.loop Z7G)) := Z8 T_ok ZhK Zp2 ZoS Zoq k
theorem ZtU (k : Nat) (x : Tup Z2Q.ps) : Z2Q.f (k + 1) x = fnK Z2Q Z3G Z9D k x := by kernel_rfl
theorem Zt4 (x : Tup Z2Q.ps) : Z2Q.f 0 x = none := by kernel_rfl
theorem Ztr (k : Nat) : LOK Try.prog Z3G k Z9D := LOK.by [(Z3D.E, .block 0 (.loop Z7G))] (by kernel_rfl) (AllOK.cons (ZnM k) AllOK.nil)
theorem ZtF (k : Nat) : SoundAt Try.prog k 85 Z2Q.E := @Z4 Try.prog Z2Q Z3G 85 Try.f85 Z9D (by kernel_rfl) (by kernel_rfl) (by kernel_rfl) Try.func85 (by kernel_rfl) (by kernel_rfl) (by kernel_rfl) T_ok ZhK Ztr Zt4 ZtU k
noncomputable def Zb0 : List PK := [PK.mk (Ty.int .i64) false none false none, PK.mk Ty.bool false none false none]
noncomputable def ZpC : List PK := [PK.mk (Ty.pair (Ty.int .i64) (Ty.int .i64)) true none false none, PK.mk (Ty.int .i64) false none false none]
noncomputable def ZmJ (r : Int × Bool) : Tup Zb0 × OutD := ((r.1, r.2, ()), none)
noncomputable def ZmS : Tup Zb0 × OutD → Option (Int × Bool)
 | (a, none) => some (a.1, a.2.1)
 | _ => none
theorem ZtE : ∀ b r, ZmS b = some r → ZmJ r = b := by
 rintro ⟨a, o⟩ r h
 cases o with
 | none => injection h with h; subst h; rfl
 | some _ => cases h
noncomputable def ZdS : Nat → Int × Int → Int → Option (Int × Bool)
 | 0, _, _ => none
 | k + 1, p0, p1 =>
  Option.bind (ZaT k (Prod.fst p0, Prod.snd p0)) fun z0 => if (!z0) = true then some ((0 : Int), false) else if decide (p1 < (-1 : Int)) = true then some ((0 : Int), false) else if decide (p1 > (1 : Int)) = true then some ((0 : Int), false) else if decide (Prod.fst p0 = (5 : Int)) = true then some ((0 : Int), false) else if decide (Prod.fst p0 = (1 : Int)) = true then some ((-1 : Int), true) else if decide (Prod.fst p0 = (2 : Int)) = true then some ((1 : Int), true) else if decide (Prod.fst p0 = (3 : Int)) = true then some (wrap64 (wrap64 ((2 : Int) * Prod.snd p0) - (1 : Int)), true) else if decide (Prod.fst p0 = (6 : Int)) = true then some (wrap64 (wrap64 ((2 : Int) * Prod.snd p0) - (1 : Int)), true) else if decide (Prod.fst p0 = (4 : Int)) = true then some (wrap64 ((0 : Int) - p1), true) else some ((0 : Int), true)
noncomputable def Z5t : FnDef := .of ZpC Zb0 (Int × Bool) (fun k x => ZdS k x.1 x.2.1) ZmJ ZmS ZtE
noncomputable def Zhr : Code := Try.f87.body.getD .skip
noncomputable def Zdx : Ctx (Tup Zb0 × OutD) := { T := T, G := [(102, Z4c.E)], mvs := [], no := 0, n := 39, res := resOf T ZpC Zb0 Try.f87.results.toList, loops := [], regs := [], conds := [], cuts := [] }
theorem Zzc (k : Nat) : EnvOK Try.prog k Zdx.G := (EnvOK.cons (Zpe k) (EnvOK.nil mixed))
theorem ZzA (k : Nat) (x : Tup Z5t.ps) : Z5t.f (k + 1) x = fnK Z5t Zdx Zhr k x := by kernel_rfl
theorem ZzD (x : Tup Z5t.ps) : Z5t.f 0 x = none := by kernel_rfl
theorem ZzT (k : Nat) : LOK Try.prog Zdx k Zhr := LOK.by [] (by kernel_rfl) AllOK.nil
theorem ZAe (k : Nat) : SoundAt Try.prog k 87 Z5t.E := @Z4 Try.prog Z5t Zdx 87 Try.f87 Zhr (by kernel_rfl) (by kernel_rfl) (by kernel_rfl) Try.func87 (by kernel_rfl) (by kernel_rfl) (by kernel_rfl) T_ok Zzc ZzT ZzD ZzA k
noncomputable def Z32 : List PK := [PK.mk (Ty.slice (3 : Nat) (Ty.int .i64)) false none false none]
noncomputable def Zly : List PK := [PK.mk (Ty.pair (Ty.int .i64) (Ty.pair (Ty.int .i64) (Ty.slice (71 : Nat) (Ty.pair (Ty.int .i64) (Ty.int .i64))))) true none false none]
noncomputable def Zki (r : List Int) : Tup Z32 × OutD := ((r, ()), none)
noncomputable def ZjR : Tup Z32 × OutD → Option (List Int)
 | (a, none) => some (a.1)
 | _ => none
theorem ZqB : ∀ b r, ZjR b = some r → Zki r = b := by
 rintro ⟨a, o⟩ r h
 cases o with
 | none => injection h with h; subst h; rfl
 | some _ => cases h
noncomputable def Z5f : Nat → Int → Int → List (Int × Int) → List Int → Int → Int → Option (Int × Int × List (Int × Int) × List Int)
 | 0, _, _, _, _, _, _ => none
 | k + 1, b1_0, b1_1, b1_2, o2, v17, v18 =>
  if decide (v18 < v17) = true then if (0 : Int) ≤ v18 then if v18 < (↑(List.length o2) : Int) then Z5f k b1_0 b1_1 b1_2 (List.set o2 (Int.toNat v18) (-1 : Int)) v17 (wrap64 (v18 + (1 : Int))) else none else none else some (b1_0, b1_1, b1_2, o2)
noncomputable def ZbK : Spec := Spec.mk [OSh.ro, OSh.box (26 : Nat) [Sh.int .i64, Sh.int .i64, Sh.snap (0 : Nat) (Ty.pair (Ty.int .i64) (Ty.int .i64))], OSh.row true (3 : Nat) (Ty.int .i64)] [((1 : Nat), TSh.at (Sh.ptr (1 : Nat) (0 : Nat))), ((3 : Nat), TSh.at (Sh.sl (2 : Nat))), ((17 : Nat), TSh.at (Sh.int .i64)), ((18 : Nat), TSh.at (Sh.int .i64))]
noncomputable def ZrZ : Spec := Spec.mk [OSh.ro, OSh.box (26 : Nat) [Sh.int .i64, Sh.int .i64, Sh.snap (0 : Nat) (Ty.pair (Ty.int .i64) (Ty.int .i64))], OSh.row true (3 : Nat) (Ty.int .i64)] [((1 : Nat), TSh.at (Sh.ptr (1 : Nat) (0 : Nat))), ((3 : Nat), TSh.at (Sh.sl (2 : Nat)))]
noncomputable def Z4B : LoopDef (Tup Z32 × OutD) := .plain ZbK ZrZ (Int × Int × List (Int × Int) × List Int) (fun k x => Z5f k x.1.2.1.1 x.1.2.1.2.1 x.1.2.1.2.2.1 x.1.2.2.1 x.2.2.2.1 x.2.2.2.2.1) (fun z => (((), (z.1, z.2.1, z.2.2.1, ()), z.2.2.2, ()), ((), (), ()))) (fun y => (y.1.2.1.1, y.1.2.1.2.1, y.1.2.1.2.2.1, y.1.2.2.1)) (fun _ => rfl)
noncomputable def Z2P : Nat → Int → Int → List (Int × Int) → List Int → List Int → List Int → Int → Int → List (Int × Int) → Int → Int → Int → Int → Option (Int × Int × List (Int × Int) × List Int × List Int × Int × Int × List (Int × Int) × Int × Int)
 | 0, _, _, _, _, _, _, _, _, _, _, _, _, _ => none
 | k + 1, b1_0, b1_1, b1_2, o2, o3, o4, v5, v9, v26, v27, v28, v61, v62 =>
  if decide (v62 < v61) = true then if (0 : Int) ≤ v62 then if v62 < (↑(List.length o4) : Int) then if (0 : Int) ≤ List.getD o4 (Int.toNat v62) (0 : Int) then if List.getD o4 (Int.toNat v62) (0 : Int) < (↑(List.length b1_2) : Int) then Option.bind (Zb6 k (Prod.fst (List.getD b1_2 (Int.toNat (List.getD o4 (Int.toNat v62) (0 : Int))) ((0 : Int), (0 : Int))), Prod.snd (List.getD b1_2 (Int.toNat (List.getD o4 (Int.toNat v62) (0 : Int))) ((0 : Int), (0 : Int))))) fun z3 => if z3 = true then if (0 : Int) ≤ List.getD o4 (Int.toNat v62) (0 : Int) then if List.getD o4 (Int.toNat v62) (0 : Int) < (↑(List.length o2) : Int) then if decide (List.getD o2 (Int.toNat (List.getD o4 (Int.toNat v62) (0 : Int))) (0 : Int) < (0 : Int)) = true then if (0 : Int) ≤ List.getD o4 (Int.toNat v62) (0 : Int) then if List.getD o4 (Int.toNat v62) (0 : Int) < (↑(List.length o2) : Int) then if List.length o3 + List.length [List.getD o4 (Int.toNat v62) (0 : Int)] ≤ (140737488355328 / 8 : Nat) then Z2P k b1_0 b1_1 b1_2 (List.set o2 (Int.toNat (List.getD o4 (Int.toNat v62) (0 : Int))) v5) (o3 ++ [List.getD o4 (Int.toNat v62) (0 : Int)]) o4 v5 v9 v26 v27 v28 v61 (wrap64 (v62 + (1 : Int))) else none else none else none else Z2P k b1_0 b1_1 b1_2 o2 o3 o4 v5 v9 v26 v27 v28 v61 (wrap64 (v62 + (1 : Int))) else none else none else Z2P k b1_0 b1_1 b1_2 o2 o3 o4 v5 v9 v26 v27 v28 v61 (wrap64 (v62 + (1 : Int))) else none else none else none else none else some (b1_0, b1_1, b1_2, o2, o3, v5, v9, v26, v27, v28)
noncomputable def Zc3 : Spec := Spec.mk [OSh.ro, OSh.box (26 : Nat) [Sh.int .i64, Sh.int .i64, Sh.snap (0 : Nat) (Ty.pair (Ty.int .i64) (Ty.int .i64))], OSh.row true (3 : Nat) (Ty.int .i64), OSh.row true (3 : Nat) (Ty.int .i64), OSh.row true (3 : Nat) (Ty.int .i64)] [((1 : Nat), TSh.at (Sh.ptr (1 : Nat) (0 : Nat))), ((3 : Nat), TSh.at (Sh.sl (2 : Nat))), ((5 : Nat), TSh.at (Sh.int .i64)), ((8 : Nat), TSh.at (Sh.sl (3 : Nat))), ((9 : Nat), TSh.at (Sh.int .i64)), ((26 : Nat), TSh.at (Sh.snap (0 : Nat) (Ty.pair (Ty.int .i64) (Ty.int .i64)))), ((27 : Nat), TSh.at (Sh.int .i64)), ((28 : Nat), TSh.at (Sh.int .i64)), ((60 : Nat), TSh.at (Sh.sl (4 : Nat))), ((61 : Nat), TSh.at (Sh.int .i64)), ((62 : Nat), TSh.at (Sh.int .i64))]
noncomputable def ZqL : Spec := Spec.mk [OSh.ro, OSh.box (26 : Nat) [Sh.int .i64, Sh.int .i64, Sh.snap (0 : Nat) (Ty.pair (Ty.int .i64) (Ty.int .i64))], OSh.row true (3 : Nat) (Ty.int .i64), OSh.row true (3 : Nat) (Ty.int .i64)] [((1 : Nat), TSh.at (Sh.ptr (1 : Nat) (0 : Nat))), ((3 : Nat), TSh.at (Sh.sl (2 : Nat))), ((5 : Nat), TSh.at (Sh.int .i64)), ((8 : Nat), TSh.at (Sh.sl (3 : Nat))), ((9 : Nat), TSh.at (Sh.int .i64)), ((26 : Nat), TSh.at (Sh.snap (0 : Nat) (Ty.pair (Ty.int .i64) (Ty.int .i64)))), ((27 : Nat), TSh.at (Sh.int .i64)), ((28 : Nat), TSh.at (Sh.int .i64))]
noncomputable def Z4u : LoopDef (Tup Z32 × OutD) := .plain Zc3 ZqL (Int × Int × List (Int × Int) × List Int × List Int × Int × Int × List (Int × Int) × Int × Int) (fun k x => Z2P k x.1.2.1.1 x.1.2.1.2.1 x.1.2.1.2.2.1 x.1.2.2.1 x.1.2.2.2.1 x.1.2.2.2.2.1 x.2.2.2.1 x.2.2.2.2.2.1 x.2.2.2.2.2.2.1 x.2.2.2.2.2.2.2.1 x.2.2.2.2.2.2.2.2.1 x.2.2.2.2.2.2.2.2.2.2.1 x.2.2.2.2.2.2.2.2.2.2.2.1) (fun z => (((), (z.1, z.2.1, z.2.2.1, ()), z.2.2.2.1, z.2.2.2.2.1, ()), ((), (), z.2.2.2.2.2.1, (), z.2.2.2.2.2.2.1, z.2.2.2.2.2.2.2.1, z.2.2.2.2.2.2.2.2.1, z.2.2.2.2.2.2.2.2.2, ()))) (fun y => (y.1.2.1.1, y.1.2.1.2.1, y.1.2.1.2.2.1, y.1.2.2.1, y.1.2.2.2.1, y.2.2.2.1, y.2.2.2.2.2.1, y.2.2.2.2.2.2.1, y.2.2.2.2.2.2.2.1, y.2.2.2.2.2.2.2.2.1)) (fun _ => rfl)
noncomputable def Z3E : Nat → Int → Int → List (Int × Int) → List Int → List Int → Int → Int → List (Int × Int) → Int → Int → Option (Int × Int × List (Int × Int) × List Int × Int × List (Int × Int) × Int × Int)
 | 0, _, _, _, _, _, _, _, _, _, _ => none
 | k + 1, b1_0, b1_1, b1_2, o2, o3, v5, v9, v26, v27, v28 =>
  if decide (v9 < (↑(List.length o3) : Int)) = true then if (0 : Int) ≤ v9 then if v9 < (↑(List.length o3) : Int) then Option.bind (ZdA k (b1_0, b1_1, b1_2) (List.getD o3 (Int.toNat v9) (0 : Int))) fun z2 => Option.bind (Z2P k b1_0 b1_1 b1_2 o2 o3 z2 v5 v9 v26 v27 v28 (↑(List.length z2) : Int) (0 : Int)) fun z4 => Z3E k z4.1 z4.2.1 z4.2.2.1 z4.2.2.2.1 z4.2.2.2.2.1 z4.2.2.2.2.2.1 (wrap64 (Prod.fst z4.2.2.2.2.2.2 + (1 : Int))) z4.2.2.2.2.2.2.2.1 z4.2.2.2.2.2.2.2.2.1 z4.2.2.2.2.2.2.2.2.2 else none else none else some (b1_0, b1_1, b1_2, o2, v5, v26, v27, v28)
noncomputable def ZbP : Spec := Spec.mk [OSh.ro, OSh.box (26 : Nat) [Sh.int .i64, Sh.int .i64, Sh.snap (0 : Nat) (Ty.pair (Ty.int .i64) (Ty.int .i64))], OSh.row true (3 : Nat) (Ty.int .i64), OSh.row true (3 : Nat) (Ty.int .i64)] [((1 : Nat), TSh.at (Sh.ptr (1 : Nat) (0 : Nat))), ((3 : Nat), TSh.at (Sh.sl (2 : Nat))), ((5 : Nat), TSh.at (Sh.int .i64)), ((8 : Nat), TSh.at (Sh.sl (3 : Nat))), ((9 : Nat), TSh.at (Sh.int .i64)), ((26 : Nat), TSh.at (Sh.snap (0 : Nat) (Ty.pair (Ty.int .i64) (Ty.int .i64)))), ((27 : Nat), TSh.at (Sh.int .i64)), ((28 : Nat), TSh.at (Sh.int .i64))]
noncomputable def Zsm : Spec := Spec.mk [OSh.ro, OSh.box (26 : Nat) [Sh.int .i64, Sh.int .i64, Sh.snap (0 : Nat) (Ty.pair (Ty.int .i64) (Ty.int .i64))], OSh.row true (3 : Nat) (Ty.int .i64)] [((1 : Nat), TSh.at (Sh.ptr (1 : Nat) (0 : Nat))), ((3 : Nat), TSh.at (Sh.sl (2 : Nat))), ((5 : Nat), TSh.at (Sh.int .i64)), ((26 : Nat), TSh.at (Sh.snap (0 : Nat) (Ty.pair (Ty.int .i64) (Ty.int .i64)))), ((27 : Nat), TSh.at (Sh.int .i64)), ((28 : Nat), TSh.at (Sh.int .i64))]
noncomputable def Z4s : LoopDef (Tup Z32 × OutD) := .plain ZbP Zsm (Int × Int × List (Int × Int) × List Int × Int × List (Int × Int) × Int × Int) (fun k x => Z3E k x.1.2.1.1 x.1.2.1.2.1 x.1.2.1.2.2.1 x.1.2.2.1 x.1.2.2.2.1 x.2.2.2.1 x.2.2.2.2.2.1 x.2.2.2.2.2.2.1 x.2.2.2.2.2.2.2.1 x.2.2.2.2.2.2.2.2.1) (fun z => (((), (z.1, z.2.1, z.2.2.1, ()), z.2.2.2.1, ()), ((), (), z.2.2.2.2.1, z.2.2.2.2.2.1, z.2.2.2.2.2.2.1, z.2.2.2.2.2.2.2, ()))) (fun y => (y.1.2.1.1, y.1.2.1.2.1, y.1.2.1.2.2.1, y.1.2.2.1, y.2.2.2.1, y.2.2.2.2.1, y.2.2.2.2.2.1, y.2.2.2.2.2.2.1)) (fun _ => rfl)
noncomputable def Z24 : Nat → Int → Int → List (Int × Int) → List Int → Int → List (Int × Int) → Int → Int → Option (List Int)
 | 0, _, _, _, _, _, _, _, _ => none
 | k + 1, b1_0, b1_1, b1_2, o2, v5, v26, v27, v28 =>
  if decide (v28 < v27) = true then if (0 : Int) ≤ v28 then if v28 < (↑(List.length v26) : Int) then Option.bind (Zb6 k (Prod.fst (List.getD v26 (Int.toNat v28) ((0 : Int), (0 : Int))), Prod.snd (List.getD v26 (Int.toNat v28) ((0 : Int), (0 : Int))))) fun z1 => if (!z1) = true then Z24 k b1_0 b1_1 b1_2 o2 v5 v26 v27 (wrap64 (v28 + (1 : Int))) else if (0 : Int) ≤ v28 then if v28 < (↑(List.length o2) : Int) then if decide (List.getD o2 (Int.toNat v28) (0 : Int) ≥ (0 : Int)) = true then Z24 k b1_0 b1_1 b1_2 o2 v5 v26 v27 (wrap64 (v28 + (1 : Int))) else if (0 : Int) ≤ v28 then if v28 < (↑(List.length o2) : Int) then Option.bind (Z3E k b1_0 b1_1 b1_2 (List.set o2 (Int.toNat v28) v5) [v28] v5 (0 : Int) v26 v27 v28) fun z5 => Z24 k z5.1 z5.2.1 z5.2.2.1 z5.2.2.2.1 (wrap64 (Prod.fst z5.2.2.2.2 + (1 : Int))) z5.2.2.2.2.2.1 z5.2.2.2.2.2.2.1 (wrap64 (Prod.snd z5.2.2.2.2.2.2 + (1 : Int))) else none else none else none else none else none else none else some o2
noncomputable def ZbS : Spec := Spec.mk [OSh.ro, OSh.box (26 : Nat) [Sh.int .i64, Sh.int .i64, Sh.snap (0 : Nat) (Ty.pair (Ty.int .i64) (Ty.int .i64))], OSh.row true (3 : Nat) (Ty.int .i64)] [((1 : Nat), TSh.at (Sh.ptr (1 : Nat) (0 : Nat))), ((3 : Nat), TSh.at (Sh.sl (2 : Nat))), ((5 : Nat), TSh.at (Sh.int .i64)), ((26 : Nat), TSh.at (Sh.snap (0 : Nat) (Ty.pair (Ty.int .i64) (Ty.int .i64)))), ((27 : Nat), TSh.at (Sh.int .i64)), ((28 : Nat), TSh.at (Sh.int .i64))]
noncomputable def Zrn : Spec := Spec.mk [OSh.ro, OSh.row true (3 : Nat) (Ty.int .i64)] [((3 : Nat), TSh.at (Sh.sl (1 : Nat)))]
noncomputable def Z4v : LoopDef (Tup Z32 × OutD) := .plain ZbS Zrn (List Int) (fun k x => Z24 k x.1.2.1.1 x.1.2.1.2.1 x.1.2.1.2.2.1 x.1.2.2.1 x.2.2.2.1 x.2.2.2.2.1 x.2.2.2.2.2.1 x.2.2.2.2.2.2.1) (fun z => (((), z, ()), ((), ()))) (fun y => (y.1.2.1)) (fun _ => rfl)
noncomputable def Z2f : Nat → Int × Int × List (Int × Int) → Option (List Int)
 | 0, _ => none
 | k + 1, p0 =>
  if Int.toNat (↑(List.length p0.2.2) : Int) * (8 : Nat) ≤ (281474976710656 : Nat) then Option.bind (Z5f k p0.1 p0.2.1 p0.2.2 (List.replicate (Int.toNat (↑(List.length p0.2.2) : Int)) (0 : Int)) (↑(List.length (List.replicate (Int.toNat (↑(List.length p0.2.2) : Int)) (0 : Int))) : Int) (0 : Int)) fun z0 => Option.bind (Z24 k z0.1 z0.2.1 z0.2.2.1 z0.2.2.2 (0 : Int) z0.2.2.1 (↑(List.length z0.2.2.1) : Int) (0 : Int)) fun z6 => some z6 else none
noncomputable def Z31 : FnDef := .of Zly Z32 (List Int) (fun k x => Z2f k x.1) Zki ZjR ZqB
noncomputable def Z52 : Code := Try.f92.body.getD .skip
noncomputable def Zs : Ctx (Tup Z32 × OutD) := { T := T, G := [(104, Z5o.E), (105, Z5w.E)], mvs := [], no := 0, n := 92, res := resOf T Zly Z32 Try.f92.results.toList, loops := [(0, Z4B.E), (6, Z4u.E), (4, Z4s.E), (2, Z4v.E)], regs := [], conds := [], cuts := [] }
theorem Z8X (k : Nat) : EnvOK Try.prog k Zs.G := (EnvOK.cons (Zzk k) (EnvOK.cons (Zzt k) (EnvOK.nil mixed)))
noncomputable def Z8G : Code := (findLoop 0 Z52).getD .skip
theorem Zsq (k : Nat) (x : ZbK.D) : Z4B.lp (k + 1) x = loopK Zs Z4B 0 Z8G k x := by kernel_rfl
theorem Zrw (k : Nat) : LOK Try.prog Zs k Z8G := LOK.by [] (by kernel_rfl) AllOK.nil
theorem Zs7 (x : ZbK.D) : Z4B.lp 0 x = none := by kernel_rfl
theorem ZqI (k : Nat) : EOK Try.prog Zs k Z4B.E (.block 0 (.loop Z8G)) := Z8 T_ok Z8X Zs7 Zsq Zrw k
noncomputable def Z8L : Code := (findLoop 6 Z52).getD .skip
theorem ZqW (k : Nat) (x : Zc3.D) : Z4u.lp (k + 1) x = loopK Zs Z4u 6 Z8L k x := by kernel_rfl
theorem Zrl (k : Nat) : LOK Try.prog Zs k Z8L := LOK.by [] (by kernel_rfl) AllOK.nil
theorem ZqZ (x : Zc3.D) : Z4u.lp 0 x = none := by kernel_rfl
theorem Zqp (k : Nat) : EOK Try.prog Zs k Z4u.E (.block 6 (.loop Z8L)) := Z8 T_ok Z8X ZqZ ZqW Zrl k
noncomputable def Z8Q : Code := (findLoop 4 Z52).getD .skip
theorem Zs1 (k : Nat) (x : ZbP.D) : Z4s.lp (k + 1) x = loopK Zs Z4s 4 Z8Q k x := by kernel_rfl
theorem ZqO (k : Nat) : LOK Try.prog Zs k Z8Q := LOK.by [(Z4u.E, .block 6 (.loop Z8L))] (by kernel_rfl) (AllOK.cons (Zqp k) AllOK.nil)
theorem ZrE (x : ZbP.D) : Z4s.lp 0 x = none := by kernel_rfl
theorem Zq0 (k : Nat) : EOK Try.prog Zs k Z4s.E (.block 4 (.loop Z8Q)) := Z8 T_ok Z8X ZrE Zs1 ZqO k
noncomputable def Z95 : Code := (findLoop 2 Z52).getD .skip
theorem Zrh (k : Nat) (x : ZbS.D) : Z4v.lp (k + 1) x = loopK Zs Z4v 2 Z95 k x := by kernel_rfl
theorem ZrF (k : Nat) : LOK Try.prog Zs k Z95 := LOK.by [(Z4s.E, .block 4 (.loop Z8Q))] (by kernel_rfl) (AllOK.cons (Zq0 k) AllOK.nil)
theorem Zsa (x : ZbS.D) : Z4v.lp 0 x = none := by kernel_rfl
theorem Zqe (k : Nat) : EOK Try.prog Zs k Z4v.E (.block 2 (.loop Z95)) := Z8 T_ok Z8X Zsa Zrh ZrF k
theorem ZwR (k : Nat) (x : Tup Z31.ps) : Z31.f (k + 1) x = fnK Z31 Zs Z52 k x := by kernel_rfl
theorem Zxc (x : Tup Z31.ps) : Z31.f 0 x = none := by kernel_rfl
theorem Zxe (k : Nat) : LOK Try.prog Zs k Z52 := LOK.by [(Z4B.E, .block 0 (.loop Z8G)), (Z4v.E, .block 2 (.loop Z95))] (by kernel_rfl) (AllOK.cons (ZqI k) (AllOK.cons (Zqe k) AllOK.nil))
theorem Zlq (k : Nat) : SoundAt Try.prog k 92 Z31.E := @Z4 Try.prog Z31 Zs 92 Try.f92 Z52 (by kernel_rfl) (by kernel_rfl) (by kernel_rfl) Try.func92 (by kernel_rfl) (by kernel_rfl) (by kernel_rfl) T_ok Z8X Zxe Zxc ZwR k
noncomputable def Z9V : List PK := [PK.mk (Ty.slice (71 : Nat) (Ty.pair (Ty.int .i64) (Ty.int .i64))) false none false none]
noncomputable def ZrR : List PK := []
noncomputable def ZpM (r : List (Int × Int)) : Tup Z9V × OutD := ((r, ()), none)
noncomputable def ZpH : Tup Z9V × OutD → Option (List (Int × Int))
 | (a, none) => some (a.1)
 | _ => none
theorem Zv8 : ∀ b r, ZpH b = some r → ZpM r = b := by
 rintro ⟨a, o⟩ r h
 cases o with
 | none => injection h with h; subst h; rfl
 | some _ => cases h
noncomputable def Z4A : Nat → List (Int × Int) → Int → Option (List (Int × Int))
 | 0, _, _ => none
 | k + 1, o1, v2 =>
  if decide (v2 ≤ (7 : Int)) = true then if List.length o1 + List.length [(v2, (0 : Int))] ≤ (140737488355328 / 16 : Nat) then Option.bind (Z8b k (v2, (1 : Int))) fun z0 => if z0 = true then if List.length (o1 ++ [(v2, (0 : Int))]) + List.length [(v2, (1 : Int))] ≤ (140737488355328 / 16 : Nat) then Z4A k (o1 ++ [(v2, (0 : Int))] ++ [(v2, (1 : Int))]) (wrap64 (v2 + (1 : Int))) else none else Z4A k (o1 ++ [(v2, (0 : Int))]) (wrap64 (v2 + (1 : Int))) else none else some o1
noncomputable def Zft : Spec := Spec.mk [OSh.ro, OSh.row true (71 : Nat) (Ty.pair (Ty.int .i64) (Ty.int .i64))] [((1 : Nat), TSh.at (Sh.sl (1 : Nat))), ((2 : Nat), TSh.at (Sh.int .i64))]
noncomputable def Zx1 : Spec := Spec.mk [OSh.ro, OSh.row true (71 : Nat) (Ty.pair (Ty.int .i64) (Ty.int .i64))] [((1 : Nat), TSh.at (Sh.sl (1 : Nat)))]
noncomputable def Z6R : LoopDef (Tup Z9V × OutD) := .plain Zft Zx1 (List (Int × Int)) (fun k x => Z4A k x.1.2.1 x.2.2.1) (fun z => (((), z, ()), ((), ()))) (fun y => (y.1.2.1)) (fun _ => rfl)
noncomputable def Zfk : Nat → Option (List (Int × Int))
 | 0 => none
 | k + 1 =>
  Option.bind (Z4A k [] (0 : Int)) fun z1 => some z1
noncomputable def Z6L : FnDef := .of ZrR Z9V (List (Int × Int)) (fun k x => Zfk k) ZpM ZpH Zv8
noncomputable def Zfl : Code := Try.f97.body.getD .skip
noncomputable def Z8a : Ctx (Tup Z9V × OutD) := { T := T, G := [(109, Z2t.E)], mvs := [], no := 0, n := 22, res := resOf T ZrR Z9V Try.f97.results.toList, loops := [(0, Z6R.E)], regs := [], conds := [], cuts := [] }
theorem Zs3 (k : Nat) : EnvOK Try.prog k Z8a.G := (EnvOK.cons (Zjx k) (EnvOK.nil mixed))
noncomputable def Zby : Code := (findLoop 0 Zfl).getD .skip
theorem Zx5 (k : Nat) (x : Zft.D) : Z6R.lp (k + 1) x = loopK Z8a Z6R 0 Zby k x := by kernel_rfl
theorem ZwK (k : Nat) : LOK Try.prog Z8a k Zby := LOK.by [] (by kernel_rfl) AllOK.nil
theorem ZwQ (x : Zft.D) : Z6R.lp 0 x = none := by kernel_rfl
theorem ZvG (k : Nat) : EOK Try.prog Z8a k Z6R.E (.block 0 (.loop Zby)) := Z8 T_ok Zs3 ZwQ Zx5 ZwK k
theorem ZAD (k : Nat) (x : Tup Z6L.ps) : Z6L.f (k + 1) x = fnK Z6L Z8a Zfl k x := by kernel_rfl
theorem ZAN (x : Tup Z6L.ps) : Z6L.f 0 x = none := by kernel_rfl
theorem ZAR (k : Nat) : LOK Try.prog Z8a k Zfl := LOK.by [(Z6R.E, .block 0 (.loop Zby))] (by kernel_rfl) (AllOK.cons (ZvG k) AllOK.nil)
theorem ZB0 (k : Nat) : SoundAt Try.prog k 97 Z6L.E := @Z4 Try.prog Z6L Z8a 97 Try.f97 Zfl (by kernel_rfl) (by kernel_rfl) (by kernel_rfl) Try.func97 (by kernel_rfl) (by kernel_rfl) (by kernel_rfl) T_ok Zs3 ZAR ZAN ZAD k
noncomputable def Z8w : List PK := []
noncomputable def Zpi : List PK := [PK.mk (Ty.pair (Ty.int .i64) (Ty.pair (Ty.int .i64) (Ty.slice (71 : Nat) (Ty.pair (Ty.int .i64) (Ty.int .i64))))) true (some ((2 : Nat), (71 : Nat), Ty.pair (Ty.int .i64) (Ty.int .i64))) false none, PK.mk (Ty.slice (3 : Nat) (Ty.int .i64)) false none false none]
noncomputable def ZnH (r : List (Int × Int)) : Tup Z8w × OutD := ((()), some ⟨Ty.pair (Ty.int .i64) (Ty.int .i64), r⟩)
noncomputable def ZfY : Tup Z8w × OutD → Option (List (Int × Int))
 | (a, some ⟨u, ys⟩) => if h : u = Ty.pair (Ty.int .i64) (Ty.int .i64) then some (castU h ys) else none
 | _ => none
theorem Zum : ∀ b r, ZfY b = some r → ZnH r = b := by
 rintro ⟨a, o⟩ r h
 cases o with
 | none => cases h
 | some s =>
  obtain ⟨u, ys⟩ := s
  simp only [ZfY] at h
  split at h
  ·rename_i hu; subst hu; injection h with h; subst h; rfl
  ·cases h
noncomputable def Z77 : Nat → List (Int × Int) → Int → Int → List Int → Int → Int → Option (List (Int × Int))
 | 0, _, _, _, _, _, _ => none
 | k + 1, o1, b2_0, b2_1, v6, v7, v8 =>
  if decide (v8 < v7) = true then if (0 : Int) ≤ v8 then if v8 < (↑(List.length v6) : Int) then if (0 : Int) ≤ List.getD v6 (Int.toNat v8) (0 : Int) then if List.getD v6 (Int.toNat v8) (0 : Int) < (↑(List.length o1) : Int) then Option.bind (Z5m k (Prod.fst (List.getD o1 (Int.toNat (List.getD v6 (Int.toNat v8) (0 : Int))) ((0 : Int), (0 : Int))), Prod.snd (List.getD o1 (Int.toNat (List.getD v6 (Int.toNat v8) (0 : Int))) ((0 : Int), (0 : Int))))) fun z0 => if (0 : Int) ≤ List.getD v6 (Int.toNat v8) (0 : Int) then if List.getD v6 (Int.toNat v8) (0 : Int) < (↑(List.length o1) : Int) then Z77 k (List.set o1 (Int.toNat (List.getD v6 (Int.toNat v8) (0 : Int))) (Prod.fst z0, Prod.snd z0)) b2_0 b2_1 v6 v7 (wrap64 (v8 + (1 : Int))) else none else none else none else none else none else none else some o1
noncomputable def ZdZ : Spec := Spec.mk [OSh.ro, OSh.row false (71 : Nat) (Ty.pair (Ty.int .i64) (Ty.int .i64)), OSh.box (26 : Nat) [Sh.int .i64, Sh.int .i64, Sh.sl (1 : Nat)]] [((2 : Nat), TSh.at (Sh.ptr (2 : Nat) (0 : Nat))), ((6 : Nat), TSh.at (Sh.snap (0 : Nat) (Ty.int .i64))), ((7 : Nat), TSh.at (Sh.int .i64)), ((8 : Nat), TSh.at (Sh.int .i64))]
noncomputable def ZuY : Spec := Spec.mk [OSh.ro, OSh.row false (71 : Nat) (Ty.pair (Ty.int .i64) (Ty.int .i64))] []
noncomputable def Z6a : LoopDef (Tup Z8w × OutD) := .plain ZdZ ZuY (List (Int × Int)) (fun k x => Z77 k x.1.2.1 x.1.2.2.1.1 x.1.2.2.1.2.1 x.2.2.1 x.2.2.2.1 x.2.2.2.2.1) (fun z => (((), z, ()), (()))) (fun y => (y.1.2.1)) (fun _ => rfl)
noncomputable def ZaU : Nat → Int × Int × List (Int × Int) → List Int → Option (List (Int × Int))
 | 0, _, _ => none
 | k + 1, p0, p1 =>
  Option.bind (Z77 k p0.2.2 p0.1 p0.2.1 p1 (↑(List.length p1) : Int) (0 : Int)) fun z1 => some z1
noncomputable def Z49 : FnDef := .of Zpi Z8w (List (Int × Int)) (fun k x => ZaU k x.1 x.2.1) ZnH ZfY Zum
noncomputable def Zdt : Code := Try.f99.body.getD .skip
noncomputable def Z7j : Ctx (Tup Z8w × OutD) := { T := T, G := [(110, Z48.E)], mvs := [], no := 1, n := 23, res := resOf T Zpi Z8w Try.f99.results.toList, loops := [(0, Z6a.E)], regs := [], conds := [], cuts := [] }
theorem ZpL (k : Nat) : EnvOK Try.prog k Z7j.G := (EnvOK.cons (Zpv k) (EnvOK.nil mixed))
noncomputable def ZaM : Code := (findLoop 0 Zdt).getD .skip
theorem Zvy (k : Nat) (x : ZdZ.D) : Z6a.lp (k + 1) x = loopK Z7j Z6a 0 ZaM k x := by kernel_rfl
theorem ZvT (k : Nat) : LOK Try.prog Z7j k ZaM := LOK.by [] (by kernel_rfl) AllOK.nil
theorem ZvP (x : ZdZ.D) : Z6a.lp 0 x = none := by kernel_rfl
theorem Zt7 (k : Nat) : EOK Try.prog Z7j k Z6a.E (.block 0 (.loop ZaM)) := Z8 T_ok ZpL ZvP Zvy ZvT k
theorem ZzN (k : Nat) (x : Tup Z49.ps) : Z49.f (k + 1) x = fnK Z49 Z7j Zdt k x := by kernel_rfl
theorem Zzf (x : Tup Z49.ps) : Z49.f 0 x = none := by kernel_rfl
theorem ZzJ (k : Nat) : LOK Try.prog Z7j k Zdt := LOK.by [(Z6a.E, .block 0 (.loop ZaM))] (by kernel_rfl) (AllOK.cons (Zt7 k) AllOK.nil)
theorem Zp9 (k : Nat) : SoundAt Try.prog k 99 Z49.E := @Z4 Try.prog Z49 Z7j 99 Try.f99 Zdt (by kernel_rfl) (by kernel_rfl) (by kernel_rfl) Try.func99 (by kernel_rfl) (by kernel_rfl) (by kernel_rfl) T_ok ZpL ZzJ Zzf ZzN k
noncomputable def ZaS : List PK := [PK.mk Ty.bool false none false none]
noncomputable def ZpB : List PK := [PK.mk (Ty.pair (Ty.int .i64) (Ty.int .i64)) true none false none]
noncomputable def Zo6 (r : Bool) : Tup ZaS × OutD := ((r, ()), none)
noncomputable def Zn4 : Tup ZaS × OutD → Option (Bool)
 | (a, none) => some (a.1)
 | _ => none
theorem ZsU : ∀ b r, Zn4 b = some r → Zo6 r = b := by
 rintro ⟨a, o⟩ r h
 cases o with
 | none => injection h with h; subst h; rfl
 | some _ => cases h
noncomputable def ZdP : Nat → Int × Int → Option Bool
 | 0, _ => none
 | k + 1, p0 =>
  Option.bind (Z6g k p0.1 (0 : Int) (7 : Int)) fun z0 => if z0 = true then if decide (Prod.snd p0 = (0 : Int)) = true then some true else if decide (Prod.snd p0 = (1 : Int)) = true then Option.bind (Z8b k (Prod.fst p0, Prod.snd p0)) fun z1 => some z1 else some false else some false
noncomputable def Z5p : FnDef := .of ZpB ZaS (Bool) (fun k x => ZdP k x.1) Zo6 Zn4 ZsU
noncomputable def Zhg : Code := Try.f103.body.getD .skip
noncomputable def ZdB : Ctx (Tup ZaS × OutD) := { T := T, G := [(94, Z47.E), (109, Z2t.E)], mvs := [], no := 0, n := 20, res := resOf T ZpB ZaS Try.f103.results.toList, loops := [], regs := [], conds := [], cuts := [] }
theorem Zzb (k : Nat) : EnvOK Try.prog k ZdB.G := (EnvOK.cons (Zgo k) (EnvOK.cons (Zjx k) (EnvOK.nil mixed)))
theorem ZzU (k : Nat) (x : Tup Z5p.ps) : Z5p.f (k + 1) x = fnK Z5p ZdB Zhg k x := by kernel_rfl
theorem Zzh (x : Tup Z5p.ps) : Z5p.f 0 x = none := by kernel_rfl
theorem Zz4 (k : Nat) : LOK Try.prog ZdB k Zhg := LOK.by [] (by kernel_rfl) AllOK.nil
theorem Zz2 (k : Nat) : SoundAt Try.prog k 103 Z5p.E := @Z4 Try.prog Z5p ZdB 103 Try.f103 Zhg (by kernel_rfl) (by kernel_rfl) (by kernel_rfl) Try.func103 (by kernel_rfl) (by kernel_rfl) (by kernel_rfl) T_ok Zzb Zz4 Zzh ZzU k
noncomputable def Z8A : List PK := []
noncomputable def Zpm : List PK := [PK.mk (Ty.pair (Ty.int .i64) (Ty.pair (Ty.int .i64) (Ty.slice (71 : Nat) (Ty.pair (Ty.int .i64) (Ty.int .i64))))) true (some ((2 : Nat), (71 : Nat), Ty.pair (Ty.int .i64) (Ty.int .i64))) false none, PK.mk (Ty.slice (3 : Nat) (Ty.int .i64)) false none false none, PK.mk (Ty.int .i64) false none false none]
noncomputable def Zo7 (r : List (Int × Int)) : Tup Z8A × OutD := ((()), some ⟨Ty.pair (Ty.int .i64) (Ty.int .i64), r⟩)
noncomputable def Zg3 : Tup Z8A × OutD → Option (List (Int × Int))
 | (a, some ⟨u, ys⟩) => if h : u = Ty.pair (Ty.int .i64) (Ty.int .i64) then some (castU h ys) else none
 | _ => none
theorem ZtA : ∀ b r, Zg3 b = some r → Zo7 r = b := by
 rintro ⟨a, o⟩ r h
 cases o with
 | none => cases h
 | some s =>
  obtain ⟨u, ys⟩ := s
  simp only [Zg3] at h
  split at h
  ·rename_i hu; subst hu; injection h with h; subst h; rfl
  ·cases h
noncomputable def Z30 : Nat → List (Int × Int) → Int → Int → List Int → Int → Int → Int → Option (List (Int × Int))
 | 0, _, _, _, _, _, _, _ => none
 | k + 1, o1, b2_0, b2_1, v1, v2, v28, v29 =>
  if decide (v29 < v28) = true then if (0 : Int) ≤ v29 then if v29 < (↑(List.length o1) : Int) then if decide (Prod.fst (List.getD o1 (Int.toNat v29) ((0 : Int), (0 : Int))) = (6 : Int)) = true then if (0 : Int) ≤ v29 then if v29 < (↑(List.length v1) : Int) then if (0 : Int) ≤ v2 then if v2 < (↑(List.length v1) : Int) then if decide (List.getD v1 (Int.toNat v29) (0 : Int) = List.getD v1 (Int.toNat v2) (0 : Int)) = true then Option.bind (Z5m k (Prod.fst (List.getD o1 (Int.toNat v29) ((0 : Int), (0 : Int))), Prod.snd (List.getD o1 (Int.toNat v29) ((0 : Int), (0 : Int))))) fun z1 => if (0 : Int) ≤ v29 then if v29 < (↑(List.length o1) : Int) then Z30 k (List.set o1 (Int.toNat v29) (Prod.fst z1, Prod.snd z1)) b2_0 b2_1 v1 v2 v28 (wrap64 (v29 + (1 : Int))) else none else none else Z30 k o1 b2_0 b2_1 v1 v2 v28 (wrap64 (v29 + (1 : Int))) else none else none else none else none else Z30 k o1 b2_0 b2_1 v1 v2 v28 (wrap64 (v29 + (1 : Int))) else none else none else some o1
noncomputable def ZdX : Spec := Spec.mk [OSh.ro, OSh.row false (71 : Nat) (Ty.pair (Ty.int .i64) (Ty.int .i64)), OSh.box (26 : Nat) [Sh.int .i64, Sh.int .i64, Sh.sl (1 : Nat)]] [((1 : Nat), TSh.at (Sh.snap (0 : Nat) (Ty.int .i64))), ((2 : Nat), TSh.at (Sh.int .i64)), ((3 : Nat), TSh.at (Sh.ptr (2 : Nat) (0 : Nat))), ((27 : Nat), TSh.at (Sh.sl (1 : Nat))), ((28 : Nat), TSh.at (Sh.int .i64)), ((29 : Nat), TSh.at (Sh.int .i64))]
noncomputable def ZuT : Spec := Spec.mk [OSh.ro, OSh.row false (71 : Nat) (Ty.pair (Ty.int .i64) (Ty.int .i64))] []
noncomputable def Z5P : LoopDef (Tup Z8A × OutD) := .plain ZdX ZuT (List (Int × Int)) (fun k x => Z30 k x.1.2.1 x.1.2.2.1.1 x.1.2.2.1.2.1 x.2.1 x.2.2.1 x.2.2.2.2.2.1 x.2.2.2.2.2.2.1) (fun z => (((), z, ()), (()))) (fun y => (y.1.2.1)) (fun _ => rfl)
noncomputable def Zb4 : Nat → Int × Int × List (Int × Int) → List Int → Int → Option (List (Int × Int))
 | 0, _, _, _ => none
 | k + 1, p0, p1, p2 =>
  if (0 : Int) ≤ p2 then if p2 < (↑(List.length p0.2.2) : Int) then if decide (Prod.fst (List.getD p0.2.2 (Int.toNat p2) ((0 : Int), (0 : Int))) = (3 : Int)) = true then Option.bind (Z5m k (Prod.fst (List.getD p0.2.2 (Int.toNat p2) ((0 : Int), (0 : Int))), Prod.snd (List.getD p0.2.2 (Int.toNat p2) ((0 : Int), (0 : Int))))) fun z0 => if (0 : Int) ≤ p2 then if p2 < (↑(List.length p0.2.2) : Int) then some (List.set p0.2.2 (Int.toNat p2) (Prod.fst z0, Prod.snd z0)) else none else none else if decide (Prod.fst (List.getD p0.2.2 (Int.toNat p2) ((0 : Int), (0 : Int))) = (6 : Int)) = true then Option.bind (Z30 k p0.2.2 p0.1 p0.2.1 p1 p2 (↑(List.length p0.2.2) : Int) (0 : Int)) fun z2 => some z2 else some p0.2.2 else none else none
noncomputable def Z5l : FnDef := .of Zpm Z8A (List (Int × Int)) (fun k x => Zb4 k x.1 x.2.1 x.2.2.1) Zo7 Zg3 ZtA
noncomputable def ZdK : Code := Try.f108.body.getD .skip
noncomputable def Z7m : Ctx (Tup Z8A × OutD) := { T := T, G := [(110, Z48.E)], mvs := [], no := 1, n := 55, res := resOf T Zpm Z8A Try.f108.results.toList, loops := [(1, Z5P.E)], regs := [], conds := [], cuts := [] }
theorem ZpN (k : Nat) : EnvOK Try.prog k Z7m.G := (EnvOK.cons (Zpv k) (EnvOK.nil mixed))
noncomputable def Zav : Code := (findLoop 1 ZdK).getD .skip
theorem Zv6 (k : Nat) (x : ZdX.D) : Z5P.lp (k + 1) x = loopK Z7m Z5P 1 Zav k x := by kernel_rfl
theorem Zvq (k : Nat) : LOK Try.prog Z7m k Zav := LOK.by [] (by kernel_rfl) AllOK.nil
theorem ZvU (x : ZdX.D) : Z5P.lp 0 x = none := by kernel_rfl
theorem ZtW (k : Nat) : EOK Try.prog Z7m k Z5P.E (.block 1 (.loop Zav)) := Z8 T_ok ZpN ZvU Zv6 Zvq k
theorem Zzv (k : Nat) (x : Tup Z5l.ps) : Z5l.f (k + 1) x = fnK Z5l Z7m ZdK k x := by kernel_rfl
theorem Zzg (x : Tup Z5l.ps) : Z5l.f 0 x = none := by kernel_rfl
theorem Zzu (k : Nat) : LOK Try.prog Z7m k ZdK := LOK.by [(Z5P.E, .block 1 (.loop Zav))] (by kernel_rfl) (AllOK.cons (ZtW k) AllOK.nil)
theorem ZzF (k : Nat) : SoundAt Try.prog k 108 Z5l.E := @Z4 Try.prog Z5l Z7m 108 Try.f108 ZdK (by kernel_rfl) (by kernel_rfl) (by kernel_rfl) Try.func108 (by kernel_rfl) (by kernel_rfl) (by kernel_rfl) T_ok ZpN Zzu Zzg Zzv k
end
end Go.Proofs.Ytglkedenkcpcbaa.Vs
