/- The proof, part 5. -/
import Derived.Test.YtglkedenkcpcbaaqBm3
set_option maxRecDepth 100000
set_option maxHeartbeats 2000000
set_option linter.unusedVariables false
set_option linter.unusedSimpArgs false
namespace Go.Proofs.Ytglkedenkcpcbaa.Vs
open Go.RowKit
noncomputable section
noncomputable def Zfm : List PK := [PK.mk Ty.bool false none false none]
noncomputable def Zze : List PK := [PK.mk (Ty.slice (5 : Nat) (Ty.int .u8)) false none false none, PK.mk (Ty.slice (5 : Nat) (Ty.int .u8)) false none false none]
noncomputable def Zwk (r : Bool) : Tup Zfm × OutD := ((r, ()), none)
noncomputable def Zwb : Tup Zfm × OutD → Option (Bool)
 | (a, none) => some (a.1)
 | _ => none
theorem ZzZ : ∀ b r, Zwb b = some r → Zwk r = b := by
 rintro ⟨a, o⟩ r h
 cases o with
 | none => injection h with h; subst h; rfl
 | some _ => cases h
noncomputable def Zfo : Nat → List Int → List Int → Option Bool
 | 0, _, _ => none
 | k + 1, p0, p1 =>
  if gtS (↑(List.length p0) : Int) (1048576 : Int) = true then some true else some (decide ((↑(List.length p1) : Int) > wrap64 ((1048576 : Int) - (↑(List.length p0) : Int))))
noncomputable def Z9m : FnDef := .of Zze Zfm (Bool) (fun k x => Zfo k x.1 x.2.1) Zwk Zwb ZzZ
noncomputable def Zpl : Code := Try.f5.body.getD .skip
noncomputable def Zjq : Ctx (Tup Zfm × OutD) := { T := T, G := [], mvs := [], no := 0, n := 16, res := resOf T Zze Zfm Try.f5.results.toList, loops := [], regs := [], conds := [], cuts := [] }
theorem ZDY (k : Nat) : EnvOK Try.prog k Zjq.G := (EnvOK.nil mixed)
theorem ZEn (k : Nat) (x : Tup Z9m.ps) : Z9m.f (k + 1) x = fnK Z9m Zjq Zpl k x := by kernel_rfl
theorem ZE7 (x : Tup Z9m.ps) : Z9m.f 0 x = none := by kernel_rfl
theorem ZE0 (k : Nat) : LOK Try.prog Zjq k Zpl := LOK.by [] (by kernel_rfl) AllOK.nil
theorem ZEg (k : Nat) : SoundAt Try.prog k 5 Z9m.E := @Z1 Try.prog Z9m Zjq 5 Try.f5 Zpl (by kernel_rfl) (by kernel_rfl) (by kernel_rfl) Try.func5 (by kernel_rfl) (by kernel_rfl) (by kernel_rfl) T_ok ZDY ZE0 ZE7 ZEn k
noncomputable def Z5t : List PK := [PK.mk Ty.bool false none false none]
noncomputable def ZiM : List PK := [PK.mk (Ty.pair (Ty.int .i64) (Ty.pair (Ty.int .i64) (Ty.slice (71 : Nat) (Ty.pair (Ty.int .i64) (Ty.int .i64))))) true none false none, PK.mk (Ty.pair (Ty.int .i64) (Ty.pair (Ty.int .i64) (Ty.slice (71 : Nat) (Ty.pair (Ty.int .i64) (Ty.int .i64))))) true none false none]
noncomputable def Zcy (r : Bool) : Tup Z5t × OutD := ((r, ()), none)
noncomputable def Zcv : Tup Z5t × OutD → Option (Bool)
 | (a, none) => some (a.1)
 | _ => none
theorem Zf4 : ∀ b r, Zcv b = some r → Zcy r = b := by
 rintro ⟨a, o⟩ r h
 cases o with
 | none => injection h with h; subst h; rfl
 | some _ => cases h
noncomputable def Z49 : Nat → Int → Int → List (Int × Int) → Int → Int → List (Int × Int) → Int → Int → Option (LR Unit Bool)
 | 0, _, _, _, _, _, _, _, _ => none
 | k + 1, b1_0, b1_1, b1_2, b2_0, b2_1, b2_2, v29, v30 =>
  if decide (v30 < v29) = true then if (0 : Int) ≤ v30 then if v30 < (↑(List.length b1_2) : Int) then if (0 : Int) ≤ v30 then if v30 < (↑(List.length b2_2) : Int) then if (!(decide (Prod.fst (List.getD b1_2 (Int.toNat v30) ((0 : Int), (0 : Int))) = Prod.fst (List.getD b2_2 (Int.toNat v30) ((0 : Int), (0 : Int)))) && (decide (Prod.snd (List.getD b1_2 (Int.toNat v30) ((0 : Int), (0 : Int))) = Prod.snd (List.getD b2_2 (Int.toNat v30) ((0 : Int), (0 : Int)))) && true))) = true then some (LR.ret false) else Z49 k b1_0 b1_1 b1_2 b2_0 b2_1 b2_2 v29 (wrap64 (v30 + (1 : Int))) else none else none else none else none else some (LR.go ())
noncomputable def Zbl : Spec := Spec.mk [OSh.ro, OSh.box (26 : Nat) [Sh.int .i64, Sh.int .i64, Sh.snap (0 : Nat) (Ty.pair (Ty.int .i64) (Ty.int .i64))], OSh.box (26 : Nat) [Sh.int .i64, Sh.int .i64, Sh.snap (0 : Nat) (Ty.pair (Ty.int .i64) (Ty.int .i64))]] [((2 : Nat), TSh.at (Sh.ptr (1 : Nat) (0 : Nat))), ((3 : Nat), TSh.at (Sh.ptr (2 : Nat) (0 : Nat))), ((29 : Nat), TSh.at (Sh.int .i64)), ((30 : Nat), TSh.at (Sh.int .i64))]
noncomputable def ZpE : Spec := Spec.mk [OSh.ro] []
noncomputable def Z3C : LoopDef (Tup Z5t × OutD) := .rets Zbl ZpE (Unit) (Bool) (fun k x => Z49 k x.1.2.1.1 x.1.2.1.2.1 x.1.2.1.2.2.1 x.1.2.2.1.1 x.1.2.2.1.2.1 x.1.2.2.1.2.2.1 x.2.2.2.1 x.2.2.2.2.1) (fun z => (((), ()), (()))) (fun y => ()) (fun _ => rfl) Zcy Zcv Zf4
noncomputable def Z2M : Nat → Int × Int × List (Int × Int) → Int × Int × List (Int × Int) → Option Bool
 | 0, _, _ => none
 | k + 1, p0, p1 =>
  if decide (Prod.fst p0 ≠ Prod.fst p1) = true then some false else if decide (Prod.fst p0.2 ≠ Prod.fst p1.2) = true then some false else if decide ((↑(List.length p0.2.2) : Int) ≠ (↑(List.length p1.2.2) : Int)) = true then some false else Option.bind (Z49 k p0.1 p0.2.1 p0.2.2 p1.1 p1.2.1 p1.2.2 (↑(List.length p0.2.2) : Int) (0 : Int)) fun z0 => LR.on z0 (fun y0 => some true) fun r0 => some r0
noncomputable def Z1M : FnDef := .of ZiM Z5t (Bool) (fun k x => Z2M k x.1 x.2.1) Zcy Zcv Zf4
noncomputable def Za7 : Code := Try.f16.body.getD .skip
noncomputable def Z3M : Ctx (Tup Z5t × OutD) := { T := T, G := [], mvs := [], no := 0, n := 45, res := resOf T ZiM Z5t Try.f16.results.toList, loops := [(0, Z3C.E)], regs := [], conds := [], cuts := [] }
theorem ZiI (k : Nat) : EnvOK Try.prog k Z3M.G := (EnvOK.nil mixed)
noncomputable def Z7Z : Code := (findLoop 0 Za7).getD .skip
theorem Zpv (k : Nat) (x : Zbl.D) : Z3C.lp (k + 1) x = loopK Z3M Z3C 0 Z7Z k x := by kernel_rfl
theorem ZpV (k : Nat) : LOK Try.prog Z3M k Z7Z := LOK.by [] (by kernel_rfl) AllOK.nil
theorem ZpL (x : Zbl.D) : Z3C.lp 0 x = none := by kernel_rfl
theorem ZnG (k : Nat) : EOK Try.prog Z3M k Z3C.E (.block 0 (.loop Z7Z)) := Z5 T_ok ZiI ZpL Zpv ZpV k
theorem ZvJ (k : Nat) (x : Tup Z1M.ps) : Z1M.f (k + 1) x = fnK Z1M Z3M Za7 k x := by kernel_rfl
theorem Zvv (x : Tup Z1M.ps) : Z1M.f 0 x = none := by kernel_rfl
theorem Zup (k : Nat) : LOK Try.prog Z3M k Za7 := LOK.by [(Z3C.E, .block 0 (.loop Z7Z))] (by kernel_rfl) (AllOK.cons (ZnG k) AllOK.nil)
theorem ZiB (k : Nat) : SoundAt Try.prog k 16 Z1M.E := @Z1 Try.prog Z1M Z3M 16 Try.f16 Za7 (by kernel_rfl) (by kernel_rfl) (by kernel_rfl) Try.func16 (by kernel_rfl) (by kernel_rfl) (by kernel_rfl) T_ok ZiI Zup Zvv ZvJ k
noncomputable def Z7b : List PK := [PK.mk Ty.bool false none false none]
noncomputable def Zlj : List PK := [PK.mk (Ty.slice (3 : Nat) (Ty.int .i64)) false none false none, PK.mk (Ty.slice (3 : Nat) (Ty.int .i64)) false none false none]
noncomputable def ZeA (r : Bool) : Tup Z7b × OutD := ((r, ()), none)
noncomputable def ZeW : Tup Z7b × OutD → Option (Bool)
 | (a, none) => some (a.1)
 | _ => none
theorem Zgo : ∀ b r, ZeW b = some r → ZeA r = b := by
 rintro ⟨a, o⟩ r h
 cases o with
 | none => injection h with h; subst h; rfl
 | some _ => cases h
noncomputable def Z5m : Nat → List Int → List Int → Int → Int → Option (LR Unit Bool)
 | 0, _, _, _, _ => none
 | k + 1, v0, v1, v12, v13 =>
  if decide (v13 < v12) = true then if (0 : Int) ≤ v13 then if v13 < (↑(List.length v0) : Int) then if (0 : Int) ≤ v13 then if v13 < (↑(List.length v1) : Int) then if decide (List.getD v0 (Int.toNat v13) (0 : Int) ≠ List.getD v1 (Int.toNat v13) (0 : Int)) = true then some (LR.ret false) else Z5m k v0 v1 v12 (wrap64 (v13 + (1 : Int))) else none else none else none else none else some (LR.go ())
noncomputable def Zcp : Spec := Spec.mk [OSh.ro] [((0 : Nat), TSh.at (Sh.snap (0 : Nat) (Ty.int .i64))), ((1 : Nat), TSh.at (Sh.snap (0 : Nat) (Ty.int .i64))), ((12 : Nat), TSh.at (Sh.int .i64)), ((13 : Nat), TSh.at (Sh.int .i64))]
noncomputable def Ztn : Spec := Spec.mk [OSh.ro] []
noncomputable def Z4J : LoopDef (Tup Z7b × OutD) := .rets Zcp Ztn (Unit) (Bool) (fun k x => Z5m k x.2.1 x.2.2.1 x.2.2.2.1 x.2.2.2.2.1) (fun z => (((), ()), (()))) (fun y => ()) (fun _ => rfl) ZeA ZeW Zgo
noncomputable def Zc8 : Nat → List Int → List Int → Option Bool
 | 0, _, _ => none
 | k + 1, p0, p1 =>
  if decide ((↑(List.length p0) : Int) ≠ (↑(List.length p1) : Int)) = true then some false else Option.bind (Z5m k p0 p1 (↑(List.length p0) : Int) (0 : Int)) fun z0 => LR.on z0 (fun y0 => some true) fun r0 => some r0
noncomputable def Z40 : FnDef := .of Zlj Z7b (Bool) (fun k x => Zc8 k x.1 x.2.1) ZeA ZeW Zgo
noncomputable def Zc3 : Code := Try.f17.body.getD .skip
noncomputable def Z55 : Ctx (Tup Z7b × OutD) := { T := T, G := [], mvs := [], no := 0, n := 26, res := resOf T Zlj Z7b Try.f17.results.toList, loops := [(0, Z4J.E)], regs := [], conds := [], cuts := [] }
theorem ZlL (k : Nat) : EnvOK Try.prog k Z55.G := (EnvOK.nil mixed)
noncomputable def Z9f : Code := (findLoop 0 Zc3).getD .skip
theorem ZtW (k : Nat) (x : Zcp.D) : Z4J.lp (k + 1) x = loopK Z55 Z4J 0 Z9f k x := by kernel_rfl
theorem Zs6 (k : Nat) : LOK Try.prog Z55 k Z9f := LOK.by [] (by kernel_rfl) AllOK.nil
theorem ZsU (x : Zcp.D) : Z4J.lp 0 x = none := by kernel_rfl
theorem Zrb (k : Nat) : EOK Try.prog Z55 k Z4J.E (.block 0 (.loop Z9f)) := Z5 T_ok ZlL ZsU ZtW Zs6 k
theorem Zz9 (k : Nat) (x : Tup Z40.ps) : Z40.f (k + 1) x = fnK Z40 Z55 Zc3 k x := by kernel_rfl
theorem ZyD (x : Tup Z40.ps) : Z40.f 0 x = none := by kernel_rfl
theorem ZyM (k : Nat) : LOK Try.prog Z55 k Zc3 := LOK.by [(Z4J.E, .block 0 (.loop Z9f))] (by kernel_rfl) (AllOK.cons (Zrb k) AllOK.nil)
theorem Zyj (k : Nat) : SoundAt Try.prog k 17 Z40.E := @Z1 Try.prog Z40 Z55 17 Try.f17 Zc3 (by kernel_rfl) (by kernel_rfl) (by kernel_rfl) Try.func17 (by kernel_rfl) (by kernel_rfl) (by kernel_rfl) T_ok ZlL ZyM ZyD Zz9 k
noncomputable def ZcY : List PK := [PK.mk Ty.bool false none false none]
noncomputable def Zyn : List PK := [PK.mk (Ty.slice (3 : Nat) (Ty.int .i64)) false none false none, PK.mk (Ty.int .i64) false none false none]
noncomputable def Zm4 (r : Bool) : Tup ZcY × OutD := ((r, ()), none)
noncomputable def Zn9 : Tup ZcY × OutD → Option (Bool)
 | (a, none) => some (a.1)
 | _ => none
theorem ZoW : ∀ b r, Zn9 b = some r → Zm4 r = b := by
 rintro ⟨a, o⟩ r h
 cases o with
 | none => injection h with h; subst h; rfl
 | some _ => cases h
noncomputable def ZaI : Nat → Int → List Int → Int → Int → Option (LR Unit Bool)
 | 0, _, _, _, _ => none
 | k + 1, v1, v7, v8, v9 =>
  if decide (v9 < v8) = true then if (0 : Int) ≤ v9 then if v9 < (↑(List.length v7) : Int) then if decide (List.getD v7 (Int.toNat v9) (0 : Int) = v1) = true then some (LR.ret true) else ZaI k v1 v7 v8 (wrap64 (v9 + (1 : Int))) else none else none else some (LR.go ())
noncomputable def Zib : Spec := Spec.mk [OSh.ro] [((1 : Nat), TSh.at (Sh.int .i64)), ((7 : Nat), TSh.at (Sh.snap (0 : Nat) (Ty.int .i64))), ((8 : Nat), TSh.at (Sh.int .i64)), ((9 : Nat), TSh.at (Sh.int .i64))]
noncomputable def ZBh : Spec := Spec.mk [OSh.ro] []
noncomputable def Z91 : LoopDef (Tup ZcY × OutD) := .rets Zib ZBh (Unit) (Bool) (fun k x => ZaI k x.2.1 x.2.2.1 x.2.2.2.1 x.2.2.2.2.1) (fun z => (((), ()), (()))) (fun y => ()) (fun _ => rfl) Zm4 Zn9 ZoW
noncomputable def Zjh : Nat → List Int → Int → Option Bool
 | 0, _, _ => none
 | k + 1, p0, p1 =>
  Option.bind (ZaI k p1 p0 (↑(List.length p0) : Int) (0 : Int)) fun z0 => LR.on z0 (fun y0 => some false) fun r0 => some r0
noncomputable def Z9h : FnDef := .of Zyn ZcY (Bool) (fun k x => Zjh k x.1 x.2.1) Zm4 Zn9 ZoW
noncomputable def Zjp : Code := Try.f20.body.getD .skip
noncomputable def Zb2 : Ctx (Tup ZcY × OutD) := { T := T, G := [], mvs := [], no := 0, n := 17, res := resOf T Zyn ZcY Try.f20.results.toList, loops := [(0, Z91.E)], regs := [], conds := [], cuts := [] }
theorem Zyx (k : Nat) : EnvOK Try.prog k Zb2.G := (EnvOK.nil mixed)
noncomputable def Zem : Code := (findLoop 0 Zjp).getD .skip
theorem ZAJ (k : Nat) (x : Zib.D) : Z91.lp (k + 1) x = loopK Zb2 Z91 0 Zem k x := by kernel_rfl
theorem ZAV (k : Nat) : LOK Try.prog Zb2 k Zem := LOK.by [] (by kernel_rfl) AllOK.nil
theorem ZBa (x : Zib.D) : Z91.lp 0 x = none := by kernel_rfl
theorem ZA6 (k : Nat) : EOK Try.prog Zb2 k Z91.E (.block 0 (.loop Zem)) := Z5 T_ok Zyx ZBa ZAJ ZAV k
theorem ZEi (k : Nat) (x : Tup Z9h.ps) : Z9h.f (k + 1) x = fnK Z9h Zb2 Zjp k x := by kernel_rfl
theorem ZEd (x : Tup Z9h.ps) : Z9h.f 0 x = none := by kernel_rfl
theorem ZE6 (k : Nat) : LOK Try.prog Zb2 k Zjp := LOK.by [(Z91.E, .block 0 (.loop Zem))] (by kernel_rfl) (AllOK.cons (ZA6 k) AllOK.nil)
theorem ZE9 (k : Nat) : SoundAt Try.prog k 20 Z9h.E := @Z1 Try.prog Z9h Zb2 20 Try.f20 Zjp (by kernel_rfl) (by kernel_rfl) (by kernel_rfl) Try.func20 (by kernel_rfl) (by kernel_rfl) (by kernel_rfl) T_ok Zyx ZE6 ZEd ZEi k
noncomputable def Z74 : List PK := [PK.mk (Ty.int .i64) false none false none]
noncomputable def Zlg : List PK := [PK.mk (Ty.slice (3 : Nat) (Ty.int .i64)) false none false none]
noncomputable def Zko (r : Int) : Tup Z74 × OutD := ((r, ()), none)
noncomputable def Zkj : Tup Z74 × OutD → Option (Int)
 | (a, none) => some (a.1)
 | _ => none
theorem ZrO : ∀ b r, Zkj b = some r → Zko r = b := by
 rintro ⟨a, o⟩ r h
 cases o with
 | none => injection h with h; subst h; rfl
 | some _ => cases h
noncomputable def Z5f : Nat → Int → List Int → Int → Int → Option Int
 | 0, _, _, _, _ => none
 | k + 1, v3, v6, v7, v8 =>
  if decide (v8 < v7) = true then if (0 : Int) ≤ v8 then if v8 < (↑(List.length v6) : Int) then if v8 < (0 : Int) then none else Z5f k (bits BinOp.or IntKind.i64 v3 (shlS (List.getD v6 (Int.toNat v8) (0 : Int)) v8)) v6 v7 (wrap64 (v8 + (1 : Int))) else none else none else some v3
noncomputable def ZcF : Spec := Spec.mk [OSh.ro] [((3 : Nat), TSh.at (Sh.int .i64)), ((6 : Nat), TSh.at (Sh.snap (0 : Nat) (Ty.int .i64))), ((7 : Nat), TSh.at (Sh.int .i64)), ((8 : Nat), TSh.at (Sh.int .i64))]
noncomputable def Zt4 : Spec := Spec.mk [OSh.ro] [((3 : Nat), TSh.at (Sh.int .i64))]
noncomputable def Z4r : LoopDef (Tup Z74 × OutD) := .plain ZcF Zt4 (Int) (fun k x => Z5f k x.2.1 x.2.2.1 x.2.2.2.1 x.2.2.2.2.1) (fun z => (((), ()), (z, ()))) (fun y => (y.2.1)) (fun _ => rfl)
noncomputable def Z56 : Nat → List Int → Option Int
 | 0, _ => none
 | k + 1, p0 =>
  Option.bind (Z5f k (0 : Int) p0 (↑(List.length p0) : Int) (0 : Int)) fun z0 => some z0
noncomputable def Z1m : FnDef := .of Zlg Z74 (Int) (fun k x => Z56 k x.1) Zko Zkj ZrO
noncomputable def Zca : Code := Try.f40.body.getD .skip
noncomputable def Z5b : Ctx (Tup Z74 × OutD) := { T := T, G := [], mvs := [], no := 0, n := 20, res := resOf T Zlg Z74 Try.f40.results.toList, loops := [(0, Z4r.E)], regs := [], conds := [], cuts := [] }
theorem Zls (k : Nat) : EnvOK Try.prog k Z5b.G := (EnvOK.nil mixed)
noncomputable def Z99 : Code := (findLoop 0 Zca).getD .skip
theorem ZtU (k : Nat) (x : ZcF.D) : Z4r.lp (k + 1) x = loopK Z5b Z4r 0 Z99 k x := by kernel_rfl
theorem Zss (k : Nat) : LOK Try.prog Z5b k Z99 := LOK.by [] (by kernel_rfl) AllOK.nil
theorem Zt7 (x : ZcF.D) : Z4r.lp 0 x = none := by kernel_rfl
theorem ZrD (k : Nat) : EOK Try.prog Z5b k Z4r.E (.block 0 (.loop Z99)) := Z5 T_ok Zls Zt7 ZtU Zss k
theorem Zyl (k : Nat) (x : Tup Z1m.ps) : Z1m.f (k + 1) x = fnK Z1m Z5b Zca k x := by kernel_rfl
theorem Zyg (x : Tup Z1m.ps) : Z1m.f 0 x = none := by kernel_rfl
theorem Zy1 (k : Nat) : LOK Try.prog Z5b k Zca := LOK.by [(Z4r.E, .block 0 (.loop Z99))] (by kernel_rfl) (AllOK.cons (ZrD k) AllOK.nil)
theorem Zcc (k : Nat) : SoundAt Try.prog k 40 Z1m.E := @Z1 Try.prog Z1m Z5b 40 Try.f40 Zca (by kernel_rfl) (by kernel_rfl) (by kernel_rfl) Try.func40 (by kernel_rfl) (by kernel_rfl) (by kernel_rfl) T_ok Zls Zy1 Zyg Zyl k
noncomputable def Z77 : List PK := [PK.mk (Ty.slice (3 : Nat) (Ty.int .i64)) false none false none]
noncomputable def Zlw : List PK := [PK.mk (Ty.slice (3 : Nat) (Ty.int .i64)) false none false none, PK.mk (Ty.int .i64) false none false none]
noncomputable def Zkk (r : List Int) : Tup Z77 × OutD := ((r, ()), none)
noncomputable def Zjx : Tup Z77 × OutD → Option (List Int)
 | (a, none) => some (a.1)
 | _ => none
theorem ZrK : ∀ b r, Zjx b = some r → Zkk r = b := by
 rintro ⟨a, o⟩ r h
 cases o with
 | none => injection h with h; subst h; rfl
 | some _ => cases h
noncomputable def Z3Q : Nat → List Int → Int → List Int → Int → Int → Option (List Int)
 | 0, _, _, _, _, _ => none
 | k + 1, o1, v1, v8, v9, v10 =>
  if decide (v10 < v9) = true then if (0 : Int) ≤ v10 then if v10 < (↑(List.length v8) : Int) then if decide (List.getD v8 (Int.toNat v10) (0 : Int) = v1) = true then if List.length o1 + List.length [v10] ≤ (140737488355328 / 8 : Nat) then Z3Q k (o1 ++ [v10]) v1 v8 v9 (wrap64 (v10 + (1 : Int))) else none else Z3Q k o1 v1 v8 v9 (wrap64 (v10 + (1 : Int))) else none else none else some o1
noncomputable def Zcn : Spec := Spec.mk [OSh.ro, OSh.row true (3 : Nat) (Ty.int .i64)] [((1 : Nat), TSh.at (Sh.int .i64)), ((5 : Nat), TSh.at (Sh.sl (1 : Nat))), ((8 : Nat), TSh.at (Sh.snap (0 : Nat) (Ty.int .i64))), ((9 : Nat), TSh.at (Sh.int .i64)), ((10 : Nat), TSh.at (Sh.int .i64))]
noncomputable def ZtY : Spec := Spec.mk [OSh.ro, OSh.row true (3 : Nat) (Ty.int .i64)] [((5 : Nat), TSh.at (Sh.sl (1 : Nat)))]
noncomputable def Z4v : LoopDef (Tup Z77 × OutD) := .plain Zcn ZtY (List Int) (fun k x => Z3Q k x.1.2.1 x.2.1 x.2.2.2.1 x.2.2.2.2.1 x.2.2.2.2.2.1) (fun z => (((), z, ()), ((), ()))) (fun y => (y.1.2.1)) (fun _ => rfl)
noncomputable def Z57 : Nat → List Int → Int → Option (List Int)
 | 0, _, _ => none
 | k + 1, p0, p1 =>
  Option.bind (Z3Q k [] p1 p0 (↑(List.length p0) : Int) (0 : Int)) fun z0 => some z0
noncomputable def Z1q : FnDef := .of Zlw Z77 (List Int) (fun k x => Z57 k x.1 x.2.1) Zkk Zjx ZrK
noncomputable def Zc9 : Code := Try.f45.body.getD .skip
noncomputable def Z50 : Ctx (Tup Z77 × OutD) := { T := T, G := [], mvs := [], no := 0, n := 24, res := resOf T Zlw Z77 Try.f45.results.toList, loops := [(0, Z4v.E)], regs := [], conds := [], cuts := [] }
theorem ZlF (k : Nat) : EnvOK Try.prog k Z50.G := (EnvOK.nil mixed)
noncomputable def Z9b : Code := (findLoop 0 Zc9).getD .skip
theorem Ztt (k : Nat) (x : Zcn.D) : Z4v.lp (k + 1) x = loopK Z50 Z4v 0 Z9b k x := by kernel_rfl
theorem ZtF (k : Nat) : LOK Try.prog Z50 k Z9b := LOK.by [] (by kernel_rfl) AllOK.nil
theorem ZrX (x : Zcn.D) : Z4v.lp 0 x = none := by kernel_rfl
theorem ZrN (k : Nat) : EOK Try.prog Z50 k Z4v.E (.block 0 (.loop Z9b)) := Z5 T_ok ZlF ZrX Ztt ZtF k
theorem Zy7 (k : Nat) (x : Tup Z1q.ps) : Z1q.f (k + 1) x = fnK Z1q Z50 Zc9 k x := by kernel_rfl
theorem Zym (x : Tup Z1q.ps) : Z1q.f 0 x = none := by kernel_rfl
theorem ZyA (k : Nat) : LOK Try.prog Z50 k Zc9 := LOK.by [(Z4v.E, .block 0 (.loop Z9b))] (by kernel_rfl) (AllOK.cons (ZrN k) AllOK.nil)
theorem Zc7 (k : Nat) : SoundAt Try.prog k 45 Z1q.E := @Z1 Try.prog Z1q Z50 45 Try.f45 Zc9 (by kernel_rfl) (by kernel_rfl) (by kernel_rfl) Try.func45 (by kernel_rfl) (by kernel_rfl) (by kernel_rfl) T_ok ZlF ZyA Zym Zy7 k
noncomputable def Z4e : List PK := [PK.mk (Ty.slice (3 : Nat) (Ty.int .i64)) false none false none]
noncomputable def Zgn : List PK := [PK.mk (Ty.slice (3 : Nat) (Ty.int .i64)) false none false none]
noncomputable def Zg4 (r : List Int) : Tup Z4e × OutD := ((r, ()), none)
noncomputable def ZfE : Tup Z4e × OutD → Option (List Int)
 | (a, none) => some (a.1)
 | _ => none
theorem Zl4 : ∀ b r, ZfE b = some r → Zg4 r = b := by
 rintro ⟨a, o⟩ r h
 cases o with
 | none => injection h with h; subst h; rfl
 | some _ => cases h
noncomputable def Z39 : Nat → List Int → List Int → Int → Int → Option (List Int)
 | 0, _, _, _, _ => none
 | k + 1, o1, v9, v10, v11 =>
  if decide (v11 < v10) = true then if (0 : Int) ≤ v11 then if v11 < (↑(List.length v9) : Int) then if (0 : Int) ≤ List.getD v9 (Int.toNat v11) (0 : Int) then if List.getD v9 (Int.toNat v11) (0 : Int) < (↑(List.length o1) : Int) then if (0 : Int) ≤ List.getD v9 (Int.toNat v11) (0 : Int) then if List.getD v9 (Int.toNat v11) (0 : Int) < (↑(List.length o1) : Int) then Z39 k (List.set o1 (Int.toNat (List.getD v9 (Int.toNat v11) (0 : Int))) (wrap64 (List.getD o1 (Int.toNat (List.getD v9 (Int.toNat v11) (0 : Int))) (0 : Int) + (1 : Int)))) v9 v10 (wrap64 (v11 + (1 : Int))) else none else none else none else none else none else none else some o1
noncomputable def Z9Q : Spec := Spec.mk [OSh.ro, OSh.row true (3 : Nat) (Ty.int .i64)] [((3 : Nat), TSh.at (Sh.sl (1 : Nat))), ((9 : Nat), TSh.at (Sh.snap (0 : Nat) (Ty.int .i64))), ((10 : Nat), TSh.at (Sh.int .i64)), ((11 : Nat), TSh.at (Sh.int .i64))]
noncomputable def Zm7 : Spec := Spec.mk [OSh.ro, OSh.row true (3 : Nat) (Ty.int .i64)] [((3 : Nat), TSh.at (Sh.sl (1 : Nat)))]
noncomputable def Z2u : LoopDef (Tup Z4e × OutD) := .plain Z9Q Zm7 (List Int) (fun k x => Z39 k x.1.2.1 x.2.2.1 x.2.2.2.1 x.2.2.2.2.1) (fun z => (((), z, ()), ((), ()))) (fun y => (y.1.2.1)) (fun _ => rfl)
noncomputable def Z5K : Nat → List Int → Option (List Int)
 | 0, _ => none
 | k + 1, p0 =>
  if Int.toNat (↑(List.length p0) : Int) * (8 : Nat) ≤ (281474976710656 : Nat) then Option.bind (Z39 k (List.replicate (Int.toNat (↑(List.length p0) : Int)) (0 : Int)) p0 (↑(List.length p0) : Int) (0 : Int)) fun z0 => some z0 else none
noncomputable def Z13 : FnDef := .of Zgn Z4e (List Int) (fun k x => Z5K k x.1) Zg4 ZfE Zl4
noncomputable def Z8K : Code := Try.f50.body.getD .skip
noncomputable def Z2U : Ctx (Tup Z4e × OutD) := { T := T, G := [], mvs := [], no := 0, n := 23, res := resOf T Zgn Z4e Try.f50.results.toList, loops := [(0, Z2u.E)], regs := [], conds := [], cuts := [] }
theorem Zgs (k : Nat) : EnvOK Try.prog k Z2U.G := (EnvOK.nil mixed)
noncomputable def Z6A : Code := (findLoop 0 Z8K).getD .skip
theorem ZmO (k : Nat) (x : Z9Q.D) : Z2u.lp (k + 1) x = loopK Z2U Z2u 0 Z6A k x := by kernel_rfl
theorem Zn2 (k : Nat) : LOK Try.prog Z2U k Z6A := LOK.by [] (by kernel_rfl) AllOK.nil
theorem Zmi (x : Z9Q.D) : Z2u.lp 0 x = none := by kernel_rfl
theorem ZkW (k : Nat) : EOK Try.prog Z2U k Z2u.E (.block 0 (.loop Z6A)) := Z5 T_ok Zgs Zmi ZmO Zn2 k
theorem Zru (k : Nat) (x : Tup Z13.ps) : Z13.f (k + 1) x = fnK Z13 Z2U Z8K k x := by kernel_rfl
theorem Zrx (x : Tup Z13.ps) : Z13.f 0 x = none := by kernel_rfl
theorem ZrS (k : Nat) : LOK Try.prog Z2U k Z8K := LOK.by [(Z2u.E, .block 0 (.loop Z6A))] (by kernel_rfl) (AllOK.cons (ZkW k) AllOK.nil)
theorem Zgf (k : Nat) : SoundAt Try.prog k 50 Z13.E := @Z1 Try.prog Z13 Z2U 50 Try.f50 Z8K (by kernel_rfl) (by kernel_rfl) (by kernel_rfl) Try.func50 (by kernel_rfl) (by kernel_rfl) (by kernel_rfl) T_ok Zgs ZrS Zrx Zru k
noncomputable def Z5Z : List PK := [PK.mk (Ty.pair (Ty.int .i64) (Ty.pair (Ty.int .i64) (Ty.slice (71 : Nat) (Ty.pair (Ty.int .i64) (Ty.int .i64))))) true none false none]
noncomputable def ZjE : List PK := [PK.mk (Ty.pair (Ty.int .i64) (Ty.pair (Ty.int .i64) (Ty.slice (71 : Nat) (Ty.pair (Ty.int .i64) (Ty.int .i64))))) true none false none]
noncomputable def Ziw (r : Int × Int × List (Int × Int)) : Tup Z5Z × OutD := ((r, ()), none)
noncomputable def ZiH : Tup Z5Z × OutD → Option (Int × Int × List (Int × Int))
 | (a, none) => some (a.1)
 | _ => none
theorem Zpy : ∀ b r, ZiH b = some r → Ziw r = b := by
 rintro ⟨a, o⟩ r h
 cases o with
 | none => injection h with h; subst h; rfl
 | some _ => cases h
noncomputable def Z43 : Nat → Int → Int → List (Int × Int) → Int → Int → List (Int × Int) → Option (Int × Int × List (Int × Int)) := fun k b1_0 b1_1 b1_2 b2_0 b2_1 o3 =>
    if (0 : Nat) + List.length b1_2 ≤ (140737488355328 / 16 : Nat) then some (b1_0, b1_1, b1_2) else none
noncomputable def Z7U : Nat → Int → Int → List (Int × Int) → Int → Int → List (Int × Int) → Option (List (Int × Int × List (Int × Int))) := fun k b1_0 b1_1 b1_2 b2_0 b2_1 o3 =>
    joinL (joinL (if (0 : Nat) + List.length b1_2 ≤ (140737488355328 / 16 : Nat) then some [(b1_0, b1_1, b1_2)] else none) (joinL (if (0 : Nat) + List.length b1_2 ≤ (140737488355328 / 16 : Nat) then some [(b1_0, b1_1, b1_2)] else none) (if (0 : Nat) + List.length b1_2 ≤ (140737488355328 / 16 : Nat) then some [(b1_0, b1_1, b1_2)] else none))) (joinL (joinL (if (0 : Nat) + List.length b1_2 ≤ (140737488355328 / 16 : Nat) then some [(b1_0, b1_1, b1_2)] else none) (joinL (if (0 : Nat) + List.length b1_2 ≤ (140737488355328 / 16 : Nat) then some [(b1_0, b1_1, b1_2)] else none) (if (0 : Nat) + List.length b1_2 ≤ (140737488355328 / 16 : Nat) then some [(b1_0, b1_1, b1_2)] else none))) (joinL (joinL (if (0 : Nat) + List.length b1_2 ≤ (140737488355328 / 16 : Nat) then some [(b1_0, b1_1, b1_2)] else none) (if (0 : Nat) + List.length b1_2 ≤ (140737488355328 / 16 : Nat) then some [(b1_0, b1_1, b1_2)] else none)) (joinL (joinL (if (0 : Nat) + List.length b1_2 ≤ (140737488355328 / 16 : Nat) then some [(b1_0, b1_1, b1_2)] else none) (if (0 : Nat) + List.length b1_2 ≤ (140737488355328 / 16 : Nat) then some [(b1_0, b1_1, b1_2)] else none)) (if (0 : Nat) + List.length b1_2 ≤ (140737488355328 / 16 : Nat) then joinL (some [(b1_0, b1_1, b1_2)]) (some [(b1_0, b1_1, b1_2)]) else none))))
noncomputable def Zfv : Spec := Spec.mk [OSh.ro, OSh.box (26 : Nat) [Sh.int .i64, Sh.int .i64, Sh.snap (0 : Nat) (Ty.pair (Ty.int .i64) (Ty.int .i64))], OSh.box (26 : Nat) [Sh.int .i64, Sh.int .i64, Sh.sl (3 : Nat)], OSh.row true (71 : Nat) (Ty.pair (Ty.int .i64) (Ty.int .i64))] [((1 : Nat), TSh.at (Sh.ptr (1 : Nat) (0 : Nat))), ((2 : Nat), TSh.at (Sh.ptr (2 : Nat) (0 : Nat)))]
noncomputable def ZpY : Spec := Spec.mk [OSh.ro, OSh.box (26 : Nat) [Sh.int .i64, Sh.int .i64, Sh.sl (2 : Nat)], OSh.row true (71 : Nat) (Ty.pair (Ty.int .i64) (Ty.int .i64))] [((2 : Nat), TSh.at (Sh.ptr (1 : Nat) (0 : Nat)))]
noncomputable def Z3E : LoopDef (Tup Z5Z × OutD) := .plain Zfv ZpY (Int × Int × List (Int × Int)) (fun k x => Z43 k x.1.2.1.1 x.1.2.1.2.1 x.1.2.1.2.2.1 x.1.2.2.1.1 x.1.2.2.1.2.1 x.1.2.2.2.1) (fun z => (((), (z.1, z.2.1, (), ()), z.2.2, ()), ((), ()))) (fun y => (y.1.2.1.1, y.1.2.1.2.1, y.1.2.2.1)) (fun _ => rfl)
theorem ZpD (k : Nat) (b1_0 : Int) (b1_1 : Int) (b1_2 : List (Int × Int)) (b2_0 : Int) (b2_1 : Int) (o3 : List (Int × Int)) : Z7U k b1_0 b1_1 b1_2 b2_0 b2_1 o3 = repl 12 (Z43 k b1_0 b1_1 b1_2 b2_0 b2_1 o3) := by
 first
 | (simp only [Z7U, Z43, Zi, Zt, Zk, Zj, Zl, Z3, if_true]; done)
 | (simp only [Z7U, Z43, Zi, Zt, Zk, Zj, Zl, Z3, if_true]; simp only [Z1K, Z1L, Z3L, Z3]; simp only [Z5k]; exact Z2N ⟨fun h => by simp only [h, and_self], fun h => by simp only [h, and_self]⟩)
noncomputable def Z4p : Nat → Int × Int × List (Int × Int) → Option (Int × Int × List (Int × Int))
 | 0, _ => none
 | k + 1, p0 =>
  Option.bind (Z43 k p0.1 p0.2.1 p0.2.2 (0 : Int) (0 : Int) []) fun z0 => some (Prod.fst z0, Prod.fst z0.2, Prod.snd z0.2)
noncomputable def Z11 : FnDef := .of ZjE Z5Z (Int × Int × List (Int × Int)) (fun k x => Z4p k x.1) Ziw ZiH Zpy
noncomputable def Zbq : Code := Try.f54.body.getD .skip
noncomputable def Z1w : Ctx (Tup Z5Z × OutD) := { T := T, G := [], mvs := [], no := 0, n := 12, res := resOf T ZjE Z5Z Try.f54.results.toList, loops := [], regs := [(1, Z3E.E)], conds := [], cuts := [] }
theorem Zk5 (k : Nat) : EnvOK Try.prog k Z1w.G := (EnvOK.nil mixed)
noncomputable def Zbb : Array Oper := (findReg 1 Zbq).getD #[]
theorem ZpJ (k : Nat) (x : Zfv.D) : execD Z1w.T Z1w.G Z1w.mvs k Zbb (Z3E.inp.st Z1w.n x) (outK Z1w Z3E) = Z7U k x.1.2.1.1 x.1.2.1.2.1 x.1.2.1.2.2.1 x.1.2.2.1.1 x.1.2.2.1.2.1 x.1.2.2.2.1 := by kernel_rfl
theorem Zof (k : Nat) : EOK Try.prog Z1w k Z3E.E (.region 1 Zbb true) := Z7N (D := Z3E) (m := 12) T_ok (Zk5 k) (fun x => (ZpJ k x).trans (ZpD k x.1.2.1.1 x.1.2.1.2.1 x.1.2.1.2.2.1 x.1.2.2.1.1 x.1.2.2.1.2.1 x.1.2.2.2.1))
theorem Zxh (k : Nat) (x : Tup Z11.ps) : Z11.f (k + 1) x = fnK Z11 Z1w Zbq k x := by kernel_rfl
theorem Zx0 (x : Tup Z11.ps) : Z11.f 0 x = none := by kernel_rfl
theorem Zxx (k : Nat) : LOK Try.prog Z1w k Zbq := LOK.by [(Z3E.E, .region 1 Zbb true)] (by kernel_rfl) (AllOK.cons (Zof k) AllOK.nil)
theorem Zb8 (k : Nat) : SoundAt Try.prog k 54 Z11.E := @Z1 Try.prog Z11 Z1w 54 Try.f54 Zbq (by kernel_rfl) (by kernel_rfl) (by kernel_rfl) Try.func54 (by kernel_rfl) (by kernel_rfl) (by kernel_rfl) T_ok Zk5 Zxx Zx0 Zxh k
noncomputable def Zby : List PK := [PK.mk (Ty.int .i64) false none false none]
noncomputable def ZqC : List PK := [PK.mk (Ty.int .i64) false none false none, PK.mk (Ty.int .i64) false none false none]
noncomputable def Zoh (r : Int) : Tup Zby × OutD := ((r, ()), none)
noncomputable def ZnM : Tup Zby × OutD → Option (Int)
 | (a, none) => some (a.1)
 | _ => none
theorem ZuN : ∀ b r, ZnM b = some r → Zoh r = b := by
 rintro ⟨a, o⟩ r h
 cases o with
 | none => injection h with h; subst h; rfl
 | some _ => cases h
noncomputable def Z7G : Nat → Int → Int → Option Int
 | 0, _, _ => none
 | k + 1, p0, p1 =>
  if decide (p0 > p1) = true then some p0 else some p1
noncomputable def Z4m : FnDef := .of ZqC Zby (Int) (fun k x => Z7G k x.1 x.2.1) Zoh ZnM ZuN
noncomputable def Zic : Code := Try.f59.body.getD .skip
noncomputable def Zef : Ctx (Tup Zby × OutD) := { T := T, G := [], mvs := [], no := 0, n := 10, res := resOf T ZqC Zby Try.f59.results.toList, loops := [], regs := [], conds := [], cuts := [] }
theorem ZB3 (k : Nat) : EnvOK Try.prog k Zef.G := (EnvOK.nil mixed)
theorem ZAL (k : Nat) (x : Tup Z4m.ps) : Z4m.f (k + 1) x = fnK Z4m Zef Zic k x := by kernel_rfl
theorem ZB7 (x : Tup Z4m.ps) : Z4m.f 0 x = none := by kernel_rfl
theorem ZB2 (k : Nat) : LOK Try.prog Zef k Zic := LOK.by [] (by kernel_rfl) AllOK.nil
theorem Zqb (k : Nat) : SoundAt Try.prog k 59 Z4m.E := @Z1 Try.prog Z4m Zef 59 Try.f59 Zic (by kernel_rfl) (by kernel_rfl) (by kernel_rfl) Try.func59 (by kernel_rfl) (by kernel_rfl) (by kernel_rfl) T_ok ZB3 ZB2 ZB7 ZAL k
noncomputable def ZaN : List PK := [PK.mk (Ty.pair (Ty.int .i64) (Ty.pair (Ty.int .i64) (Ty.slice (71 : Nat) (Ty.pair (Ty.int .i64) (Ty.int .i64))))) true none false none]
noncomputable def Zs9 : List PK := [PK.mk (Ty.pair (Ty.int .i64) (Ty.pair (Ty.int .i64) (Ty.slice (71 : Nat) (Ty.pair (Ty.int .i64) (Ty.int .i64))))) true none false none]
noncomputable def ZqJ (r : Int × Int × List (Int × Int)) : Tup ZaN × OutD := ((r, ()), none)
noncomputable def ZqT : Tup ZaN × OutD → Option (Int × Int × List (Int × Int))
 | (a, none) => some (a.1)
 | _ => none
theorem Zxw : ∀ b r, ZqT b = some r → ZqJ r = b := by
 rintro ⟨a, o⟩ r h
 cases o with
 | none => injection h with h; subst h; rfl
 | some _ => cases h
noncomputable def Z7k : Nat → Int → Int → List (Int × Int) → Int → Int → List (Int × Int) → Option (Int × Int × List (Int × Int)) := fun k b1_0 b1_1 b1_2 b2_0 b2_1 o3 =>
    if (0 : Nat) + List.length b1_2 ≤ (140737488355328 / 16 : Nat) then some (b1_0, b1_1, b1_2) else none
noncomputable def Zb0 : Nat → Int → Int → List (Int × Int) → Int → Int → List (Int × Int) → Option (List (Int × Int × List (Int × Int))) := fun k b1_0 b1_1 b1_2 b2_0 b2_1 o3 =>
    joinL (joinL (if (0 : Nat) + List.length b1_2 ≤ (140737488355328 / 16 : Nat) then some [(b1_0, b1_1, b1_2)] else none) (joinL (if (0 : Nat) + List.length b1_2 ≤ (140737488355328 / 16 : Nat) then some [(b1_0, b1_1, b1_2)] else none) (if (0 : Nat) + List.length b1_2 ≤ (140737488355328 / 16 : Nat) then some [(b1_0, b1_1, b1_2)] else none))) (joinL (joinL (if (0 : Nat) + List.length b1_2 ≤ (140737488355328 / 16 : Nat) then some [(b1_0, b1_1, b1_2)] else none) (joinL (if (0 : Nat) + List.length b1_2 ≤ (140737488355328 / 16 : Nat) then some [(b1_0, b1_1, b1_2)] else none) (if (0 : Nat) + List.length b1_2 ≤ (140737488355328 / 16 : Nat) then some [(b1_0, b1_1, b1_2)] else none))) (joinL (joinL (if (0 : Nat) + List.length b1_2 ≤ (140737488355328 / 16 : Nat) then some [(b1_0, b1_1, b1_2)] else none) (if (0 : Nat) + List.length b1_2 ≤ (140737488355328 / 16 : Nat) then some [(b1_0, b1_1, b1_2)] else none)) (joinL (joinL (if (0 : Nat) + List.length b1_2 ≤ (140737488355328 / 16 : Nat) then some [(b1_0, b1_1, b1_2)] else none) (if (0 : Nat) + List.length b1_2 ≤ (140737488355328 / 16 : Nat) then some [(b1_0, b1_1, b1_2)] else none)) (if (0 : Nat) + List.length b1_2 ≤ (140737488355328 / 16 : Nat) then joinL (some [(b1_0, b1_1, b1_2)]) (some [(b1_0, b1_1, b1_2)]) else none))))
noncomputable def Zkh : Spec := Spec.mk [OSh.ro, OSh.box (26 : Nat) [Sh.int .i64, Sh.int .i64, Sh.snap (0 : Nat) (Ty.pair (Ty.int .i64) (Ty.int .i64))], OSh.box (26 : Nat) [Sh.int .i64, Sh.int .i64, Sh.sl (3 : Nat)], OSh.row true (71 : Nat) (Ty.pair (Ty.int .i64) (Ty.int .i64))] [((1 : Nat), TSh.at (Sh.ptr (1 : Nat) (0 : Nat))), ((2 : Nat), TSh.at (Sh.ptr (2 : Nat) (0 : Nat)))]
noncomputable def ZwK : Spec := Spec.mk [OSh.ro, OSh.box (26 : Nat) [Sh.int .i64, Sh.int .i64, Sh.sl (2 : Nat)], OSh.row true (71 : Nat) (Ty.pair (Ty.int .i64) (Ty.int .i64))] [((2 : Nat), TSh.at (Sh.ptr (1 : Nat) (0 : Nat)))]
noncomputable def Z69 : LoopDef (Tup ZaN × OutD) := .plain Zkh ZwK (Int × Int × List (Int × Int)) (fun k x => Z7k k x.1.2.1.1 x.1.2.1.2.1 x.1.2.1.2.2.1 x.1.2.2.1.1 x.1.2.2.1.2.1 x.1.2.2.2.1) (fun z => (((), (z.1, z.2.1, (), ()), z.2.2, ()), ((), ()))) (fun y => (y.1.2.1.1, y.1.2.1.2.1, y.1.2.2.1)) (fun _ => rfl)
theorem ZwO (k : Nat) (b1_0 : Int) (b1_1 : Int) (b1_2 : List (Int × Int)) (b2_0 : Int) (b2_1 : Int) (o3 : List (Int × Int)) : Zb0 k b1_0 b1_1 b1_2 b2_0 b2_1 o3 = repl 12 (Z7k k b1_0 b1_1 b1_2 b2_0 b2_1 o3) := by
 first
 | (simp only [Zb0, Z7k, Zi, Zt, Zk, Zj, Zl, Z3, if_true]; done)
 | (simp only [Zb0, Z7k, Zi, Zt, Zk, Zj, Zl, Z3, if_true]; simp only [Z1K, Z1L, Z3L, Z3]; simp only [Z5k]; exact Z2N ⟨fun h => by simp only [h, and_self], fun h => by simp only [h, and_self]⟩)
noncomputable def Z58 : Nat → Int × Int × List (Int × Int) → Option (Int × Int × List (Int × Int))
 | 0, _ => none
 | k + 1, p0 =>
  Option.bind (Z7k k p0.1 p0.2.1 p0.2.2 (0 : Int) (0 : Int) []) fun z0 => some (Prod.fst z0, Prod.fst z0.2, Prod.snd z0.2)
noncomputable def Z3m : FnDef := .of Zs9 ZaN (Int × Int × List (Int × Int)) (fun k x => Z58 k x.1) ZqJ ZqT Zxw
noncomputable def Zfj : Code := Try.f65.body.getD .skip
noncomputable def Z4h : Ctx (Tup ZaN × OutD) := { T := T, G := [], mvs := [], no := 0, n := 12, res := resOf T Zs9 ZaN Try.f65.results.toList, loops := [], regs := [(1, Z69.E)], conds := [], cuts := [] }
theorem ZtA (k : Nat) : EnvOK Try.prog k Z4h.G := (EnvOK.nil mixed)
noncomputable def ZeG : Array Oper := (findReg 1 Zfj).getD #[]
theorem ZxO (k : Nat) (x : Zkh.D) : execD Z4h.T Z4h.G Z4h.mvs k ZeG (Z69.inp.st Z4h.n x) (outK Z4h Z69) = Zb0 k x.1.2.1.1 x.1.2.1.2.1 x.1.2.1.2.2.1 x.1.2.2.1.1 x.1.2.2.1.2.1 x.1.2.2.2.1 := by kernel_rfl
theorem Zvk (k : Nat) : EOK Try.prog Z4h k Z69.E (.region 1 ZeG true) := Z7N (D := Z69) (m := 12) T_ok (ZtA k) (fun x => (ZxO k x).trans (ZwO k x.1.2.1.1 x.1.2.1.2.1 x.1.2.1.2.2.1 x.1.2.2.1.1 x.1.2.2.1.2.1 x.1.2.2.2.1))
theorem ZCl (k : Nat) (x : Tup Z3m.ps) : Z3m.f (k + 1) x = fnK Z3m Z4h Zfj k x := by kernel_rfl
theorem ZC5 (x : Tup Z3m.ps) : Z3m.f 0 x = none := by kernel_rfl
theorem ZC3 (k : Nat) : LOK Try.prog Z4h k Zfj := LOK.by [(Z69.E, .region 1 ZeG true)] (by kernel_rfl) (AllOK.cons (Zvk k) AllOK.nil)
theorem ZfO (k : Nat) : SoundAt Try.prog k 65 Z3m.E := @Z1 Try.prog Z3m Z4h 65 Try.f65 Zfj (by kernel_rfl) (by kernel_rfl) (by kernel_rfl) Try.func65 (by kernel_rfl) (by kernel_rfl) (by kernel_rfl) T_ok ZtA ZC3 ZC5 ZCl k
noncomputable def Z6e : List PK := []
noncomputable def ZoE : List PK := [PK.mk (Ty.pair (Ty.int .i64) (Ty.pair (Ty.int .i64) (Ty.slice (71 : Nat) (Ty.pair (Ty.int .i64) (Ty.int .i64))))) true (some ((2 : Nat), (71 : Nat), Ty.pair (Ty.int .i64) (Ty.int .i64))) false none, PK.mk (Ty.slice (36 : Nat) (Ty.slice (3 : Nat) (Ty.int .i64))) false none false none, PK.mk (Ty.slice (3 : Nat) (Ty.int .i64)) false none false none]
noncomputable def Zld (r : List (Int × Int)) : Tup Z6e × OutD := ((()), some ⟨Ty.pair (Ty.int .i64) (Ty.int .i64), r⟩)
noncomputable def Zg7 : Tup Z6e × OutD → Option (List (Int × Int))
 | (a, some ⟨u, ys⟩) => if h : u = Ty.pair (Ty.int .i64) (Ty.int .i64) then some (castU h ys) else none
 | _ => none
theorem Zti : ∀ b r, Zg7 b = some r → Zld r = b := by
 rintro ⟨a, o⟩ r h
 cases o with
 | none => cases h
 | some s =>
  obtain ⟨u, ys⟩ := s
  simp only [Zg7] at h
  split at h
  ·rename_i hu; subst hu; injection h with h; subst h; rfl
  ·cases h
noncomputable def Z65 : Nat → List (Int × Int) → Int → Int → List Int → List (List Int) → Int → Int → List Int → Int → Int → Option (List (Int × Int) × Int × Int × List Int × List (List Int) × Int × Int)
 | 0, _, _, _, _, _, _, _, _, _, _ => none
 | k + 1, o1, b2_0, b2_1, v2, v10, v11, v12, v30, v31, v32 =>
  if decide (v32 < v31) = true then if (0 : Int) ≤ v32 then if v32 < (↑(List.length v30) : Int) then if (0 : Int) ≤ List.getD v30 (Int.toNat v32) (0 : Int) then if List.getD v30 (Int.toNat v32) (0 : Int) < (↑(List.length o1) : Int) then if (0 : Int) ≤ List.getD v30 (Int.toNat v32) (0 : Int) then if List.getD v30 (Int.toNat v32) (0 : Int) < (↑(List.length o1) : Int) then Z65 k (List.set o1 (Int.toNat (List.getD v30 (Int.toNat v32) (0 : Int))) (Prod.fst (List.getD o1 (Int.toNat (List.getD v30 (Int.toNat v32) (0 : Int))) ((0 : Int), (0 : Int))), wrap64 ((1 : Int) - Prod.snd (List.getD o1 (Int.toNat (List.getD v30 (Int.toNat v32) (0 : Int))) ((0 : Int), (0 : Int)))))) b2_0 b2_1 v2 v10 v11 v12 v30 v31 (wrap64 (v32 + (1 : Int))) else none else none else none else none else none else none else some (o1, b2_0, b2_1, v2, v10, v11, v12)
noncomputable def ZdE : Spec := Spec.mk [OSh.ro, OSh.row false (71 : Nat) (Ty.pair (Ty.int .i64) (Ty.int .i64)), OSh.box (26 : Nat) [Sh.int .i64, Sh.int .i64, Sh.sl (1 : Nat)]] [((2 : Nat), TSh.at (Sh.snap (0 : Nat) (Ty.int .i64))), ((3 : Nat), TSh.at (Sh.ptr (2 : Nat) (0 : Nat))), ((10 : Nat), TSh.at (Sh.snap (0 : Nat) (Ty.slice (3 : Nat) (Ty.int .i64)))), ((11 : Nat), TSh.at (Sh.int .i64)), ((12 : Nat), TSh.at (Sh.int .i64)), ((30 : Nat), TSh.at (Sh.snap (0 : Nat) (Ty.int .i64))), ((31 : Nat), TSh.at (Sh.int .i64)), ((32 : Nat), TSh.at (Sh.int .i64))]
noncomputable def ZvK : Spec := Spec.mk [OSh.ro, OSh.row false (71 : Nat) (Ty.pair (Ty.int .i64) (Ty.int .i64)), OSh.box (26 : Nat) [Sh.int .i64, Sh.int .i64, Sh.sl (1 : Nat)]] [((2 : Nat), TSh.at (Sh.snap (0 : Nat) (Ty.int .i64))), ((3 : Nat), TSh.at (Sh.ptr (2 : Nat) (0 : Nat))), ((10 : Nat), TSh.at (Sh.snap (0 : Nat) (Ty.slice (3 : Nat) (Ty.int .i64)))), ((11 : Nat), TSh.at (Sh.int .i64)), ((12 : Nat), TSh.at (Sh.int .i64))]
noncomputable def Z5j : LoopDef (Tup Z6e × OutD) := .plain ZdE ZvK (List (Int × Int) × Int × Int × List Int × List (List Int) × Int × Int) (fun k x => Z65 k x.1.2.1 x.1.2.2.1.1 x.1.2.2.1.2.1 x.2.1 x.2.2.2.1 x.2.2.2.2.1 x.2.2.2.2.2.1 x.2.2.2.2.2.2.1 x.2.2.2.2.2.2.2.1 x.2.2.2.2.2.2.2.2.1) (fun z => (((), z.1, (z.2.1, z.2.2.1, (), ()), ()), (z.2.2.2.1, (), z.2.2.2.2.1, z.2.2.2.2.2.1, z.2.2.2.2.2.2, ()))) (fun y => (y.1.2.1, y.1.2.2.1.1, y.1.2.2.1.2.1, y.2.1, y.2.2.2.1, y.2.2.2.2.1, y.2.2.2.2.2.1)) (fun _ => rfl)
noncomputable def Z4q : Nat → List (Int × Int) → Int → Int → List Int → List (List Int) → Int → Int → Option (List (Int × Int))
 | 0, _, _, _, _, _, _, _ => none
 | k + 1, o1, b2_0, b2_1, v2, v10, v11, v12 =>
  if decide (v12 < v11) = true then if (0 : Int) ≤ v12 then if v12 < (↑(List.length v10) : Int) then if (0 : Int) < (↑(List.length (List.getD v10 (Int.toNat v12) [])) : Int) then if (0 : Int) ≤ List.getD (List.getD v10 (Int.toNat v12) []) (Int.toNat (0 : Int)) (0 : Int) then if List.getD (List.getD v10 (Int.toNat v12) []) (Int.toNat (0 : Int)) (0 : Int) < (↑(List.length o1) : Int) then if (0 : Int) ≤ v12 then if v12 < (↑(List.length v2) : Int) then if decide (Prod.snd (List.getD o1 (Int.toNat (List.getD (List.getD v10 (Int.toNat v12) []) (Int.toNat (0 : Int)) (0 : Int))) ((0 : Int), (0 : Int))) = List.getD v2 (Int.toNat v12) (0 : Int)) = true then Z4q k o1 b2_0 b2_1 v2 v10 v11 (wrap64 (v12 + (1 : Int))) else Option.bind (Z65 k o1 b2_0 b2_1 v2 v10 v11 v12 (List.getD v10 (Int.toNat v12) []) (↑(List.length (List.getD v10 (Int.toNat v12) [])) : Int) (0 : Int)) fun z0 => Z4q k z0.1 z0.2.1 z0.2.2.1 z0.2.2.2.1 z0.2.2.2.2.1 z0.2.2.2.2.2.1 (wrap64 (Prod.snd z0.2.2.2.2.2 + (1 : Int))) else none else none else none else none else none else none else none else some o1
noncomputable def ZdK : Spec := Spec.mk [OSh.ro, OSh.row false (71 : Nat) (Ty.pair (Ty.int .i64) (Ty.int .i64)), OSh.box (26 : Nat) [Sh.int .i64, Sh.int .i64, Sh.sl (1 : Nat)]] [((2 : Nat), TSh.at (Sh.snap (0 : Nat) (Ty.int .i64))), ((3 : Nat), TSh.at (Sh.ptr (2 : Nat) (0 : Nat))), ((10 : Nat), TSh.at (Sh.snap (0 : Nat) (Ty.slice (3 : Nat) (Ty.int .i64)))), ((11 : Nat), TSh.at (Sh.int .i64)), ((12 : Nat), TSh.at (Sh.int .i64))]
noncomputable def Zv9 : Spec := Spec.mk [OSh.ro, OSh.row false (71 : Nat) (Ty.pair (Ty.int .i64) (Ty.int .i64))] []
noncomputable def Z5q : LoopDef (Tup Z6e × OutD) := .plain ZdK Zv9 (List (Int × Int)) (fun k x => Z4q k x.1.2.1 x.1.2.2.1.1 x.1.2.2.1.2.1 x.2.1 x.2.2.2.1 x.2.2.2.2.1 x.2.2.2.2.2.1) (fun z => (((), z, ()), (()))) (fun y => (y.1.2.1)) (fun _ => rfl)
noncomputable def Zaq : Nat → Int × Int × List (Int × Int) → List (List Int) → List Int → Option (List (Int × Int))
 | 0, _, _, _ => none
 | k + 1, p0, p1, p2 =>
  Option.bind (Z4q k p0.2.2 p0.1 p0.2.1 p2 p1 (↑(List.length p1) : Int) (0 : Int)) fun z1 => some z1
noncomputable def Z3J : FnDef := .of ZoE Z6e (List (Int × Int)) (fun k x => Zaq k x.1 x.2.1 x.2.2.1) Zld Zg7 Zti
noncomputable def Zaw : Code := Try.f79.body.getD .skip
noncomputable def Z2B : Ctx (Tup Z6e × OutD) := { T := T, G := [], mvs := [], no := 1, n := 50, res := resOf T ZoE Z6e Try.f79.results.toList, loops := [(2, Z5j.E), (0, Z5q.E)], regs := [], conds := [], cuts := [] }
theorem Zh7 (k : Nat) : EnvOK Try.prog k Z2B.G := (EnvOK.nil mixed)
noncomputable def Zaa : Code := (findLoop 2 Zaw).getD .skip
theorem ZvG (k : Nat) (x : ZdE.D) : Z5j.lp (k + 1) x = loopK Z2B Z5j 2 Zaa k x := by kernel_rfl
theorem Zuk (k : Nat) : LOK Try.prog Z2B k Zaa := LOK.by [] (by kernel_rfl) AllOK.nil
theorem Zv2 (x : ZdE.D) : Z5j.lp 0 x = none := by kernel_rfl
theorem Zsr (k : Nat) : EOK Try.prog Z2B k Z5j.E (.block 2 (.loop Zaa)) := Z5 T_ok Zh7 Zv2 ZvG Zuk k
noncomputable def Za4 : Code := (findLoop 0 Zaw).getD .skip
theorem Zvy (k : Nat) (x : ZdK.D) : Z5q.lp (k + 1) x = loopK Z2B Z5q 0 Za4 k x := by kernel_rfl
theorem ZvC (k : Nat) : LOK Try.prog Z2B k Za4 := LOK.by [(Z5j.E, .block 2 (.loop Zaa))] (by kernel_rfl) (AllOK.cons (Zsr k) AllOK.nil)
theorem Zvo (x : ZdK.D) : Z5q.lp 0 x = none := by kernel_rfl
theorem ZsQ (k : Nat) : EOK Try.prog Z2B k Z5q.E (.block 0 (.loop Za4)) := Z5 T_ok Zh7 Zvo Zvy ZvC k
theorem ZA5 (k : Nat) (x : Tup Z3J.ps) : Z3J.f (k + 1) x = fnK Z3J Z2B Zaw k x := by kernel_rfl
theorem Zzz (x : Tup Z3J.ps) : Z3J.f 0 x = none := by kernel_rfl
theorem Zzq (k : Nat) : LOK Try.prog Z2B k Zaw := LOK.by [(Z5q.E, .block 0 (.loop Za4))] (by kernel_rfl) (AllOK.cons (ZsQ k) AllOK.nil)
theorem ZoU (k : Nat) : SoundAt Try.prog k 79 Z3J.E := @Z1 Try.prog Z3J Z2B 79 Try.f79 Zaw (by kernel_rfl) (by kernel_rfl) (by kernel_rfl) Try.func79 (by kernel_rfl) (by kernel_rfl) (by kernel_rfl) T_ok Zh7 Zzq Zzz ZA5 k
noncomputable def Z8h : List PK := [PK.mk (Ty.slice (3 : Nat) (Ty.int .i64)) false none false none]
noncomputable def Zpb : List PK := [PK.mk (Ty.int .i64) false none false none, PK.mk (Ty.int .i64) false none false none]
noncomputable def Zly (r : List Int) : Tup Z8h × OutD := ((r, ()), none)
noncomputable def ZlG : Tup Z8h × OutD → Option (List Int)
 | (a, none) => some (a.1)
 | _ => none
theorem Zto : ∀ b r, ZlG b = some r → Zly r = b := by
 rintro ⟨a, o⟩ r h
 cases o with
 | none => injection h with h; subst h; rfl
 | some _ => cases h
noncomputable def Z5T : Nat → List Int → Int → Int → Int → Option (List Int)
 | 0, _, _, _, _ => none
 | k + 1, o1, v0, v10, v11 =>
  if decide (v11 < v10) = true then if v11 < (0 : Int) then none else if (0 : Int) ≤ v11 then if v11 < (↑(List.length o1) : Int) then Z5T k (List.set o1 (Int.toNat v11) (bits BinOp.and IntKind.i64 (Int.fdiv v0 ((2 : Int) ^ min (Int.toNat v11) (IntKind.bits IntKind.i64))) (1 : Int))) v0 v10 (wrap64 (v11 + (1 : Int))) else none else none else some o1
noncomputable def ZdH : Spec := Spec.mk [OSh.ro, OSh.row true (3 : Nat) (Ty.int .i64)] [((0 : Nat), TSh.at (Sh.int .i64)), ((5 : Nat), TSh.at (Sh.sl (1 : Nat))), ((10 : Nat), TSh.at (Sh.int .i64)), ((11 : Nat), TSh.at (Sh.int .i64))]
noncomputable def Zuj : Spec := Spec.mk [OSh.ro, OSh.row true (3 : Nat) (Ty.int .i64)] [((5 : Nat), TSh.at (Sh.sl (1 : Nat)))]
noncomputable def Z5h : LoopDef (Tup Z8h × OutD) := .plain ZdH Zuj (List Int) (fun k x => Z5T k x.1.2.1 x.2.1 x.2.2.2.1 x.2.2.2.2.1) (fun z => (((), z, ()), ((), ()))) (fun y => (y.1.2.1)) (fun _ => rfl)
noncomputable def ZaM : Nat → Int → Int → Option (List Int)
 | 0, _, _ => none
 | k + 1, p0, p1 =>
  if (0 : Int) ≤ p1 then if Int.toNat p1 * (8 : Nat) ≤ (281474976710656 : Nat) then Option.bind (Z5T k (List.replicate (Int.toNat p1) (0 : Int)) p0 (↑(List.length (List.replicate (Int.toNat p1) (0 : Int))) : Int) (0 : Int)) fun z0 => some z0 else none else none
noncomputable def Z3F : FnDef := .of Zpb Z8h (List Int) (fun k x => ZaM k x.1 x.2.1) Zly ZlG Zto
noncomputable def Zd0 : Code := Try.f80.body.getD .skip
noncomputable def Z6j : Ctx (Tup Z8h × OutD) := { T := T, G := [], mvs := [], no := 0, n := 23, res := resOf T Zpb Z8h Try.f80.results.toList, loops := [(0, Z5h.E)], regs := [], conds := [], cuts := [] }
theorem Zpa (k : Nat) : EnvOK Try.prog k Z6j.G := (EnvOK.nil mixed)
noncomputable def Za3 : Code := (findLoop 0 Zd0).getD .skip
theorem ZvP (k : Nat) (x : ZdH.D) : Z5h.lp (k + 1) x = loopK Z6j Z5h 0 Za3 k x := by kernel_rfl
theorem Zvu (k : Nat) : LOK Try.prog Z6j k Za3 := LOK.by [] (by kernel_rfl) AllOK.nil
theorem Zur (x : ZdH.D) : Z5h.lp 0 x = none := by kernel_rfl
theorem Zsv (k : Nat) : EOK Try.prog Z6j k Z5h.E (.block 0 (.loop Za3)) := Z5 T_ok Zpa Zur ZvP Zvu k
theorem ZzL (k : Nat) (x : Tup Z3F.ps) : Z3F.f (k + 1) x = fnK Z3F Z6j Zd0 k x := by kernel_rfl
theorem Zzx (x : Tup Z3F.ps) : Z3F.f 0 x = none := by kernel_rfl
theorem ZzG (k : Nat) : LOK Try.prog Z6j k Zd0 := LOK.by [(Z5h.E, .block 0 (.loop Za3))] (by kernel_rfl) (AllOK.cons (Zsv k) AllOK.nil)
theorem Zp2 (k : Nat) : SoundAt Try.prog k 80 Z3F.E := @Z1 Try.prog Z3F Z6j 80 Try.f80 Zd0 (by kernel_rfl) (by kernel_rfl) (by kernel_rfl) Try.func80 (by kernel_rfl) (by kernel_rfl) (by kernel_rfl) T_ok Zpa ZzG Zzx ZzL k
noncomputable def Z68 : List PK := []
noncomputable def Zjy : List PK := [PK.mk (Ty.pair (Ty.int .i64) (Ty.pair (Ty.int .i64) (Ty.slice (71 : Nat) (Ty.pair (Ty.int .i64) (Ty.int .i64))))) true (some ((2 : Nat), (71 : Nat), Ty.pair (Ty.int .i64) (Ty.int .i64))) false none, PK.mk (Ty.slice (3 : Nat) (Ty.int .i64)) false none false none, PK.mk (Ty.int .i64) false none false none]
noncomputable def Ziu (r : List (Int × Int)) : Tup Z68 × OutD := ((()), some ⟨Ty.pair (Ty.int .i64) (Ty.int .i64), r⟩)
noncomputable def Zdy : Tup Z68 × OutD → Option (List (Int × Int))
 | (a, some ⟨u, ys⟩) => if h : u = Ty.pair (Ty.int .i64) (Ty.int .i64) then some (castU h ys) else none
 | _ => none
theorem Zpq : ∀ b r, Zdy b = some r → Ziu r = b := by
 rintro ⟨a, o⟩ r h
 cases o with
 | none => cases h
 | some s =>
  obtain ⟨u, ys⟩ := s
  simp only [Zdy] at h
  split at h
  ·rename_i hu; subst hu; injection h with h; subst h; rfl
  ·cases h
noncomputable def Z1p : Nat → List (Int × Int) → Int → Int → List Int → Int → Int → Int → Option (List (Int × Int))
 | 0, _, _, _, _, _, _, _ => none
 | k + 1, o1, b2_0, b2_1, v1, v2, v9, v10 =>
  if decide (v10 < v9) = true then if (0 : Int) ≤ v10 then if v10 < (↑(List.length o1) : Int) then if decide (Prod.fst (List.getD o1 (Int.toNat v10) ((0 : Int), (0 : Int))) = (6 : Int)) = true then if (0 : Int) ≤ v10 then if v10 < (↑(List.length v1) : Int) then if (0 : Int) ≤ v2 then if v2 < (↑(List.length v1) : Int) then if decide (List.getD v1 (Int.toNat v10) (0 : Int) = List.getD v1 (Int.toNat v2) (0 : Int)) = true then if (0 : Int) ≤ v10 then if v10 < (↑(List.length o1) : Int) then if (0 : Int) ≤ v10 then if v10 < (↑(List.length o1) : Int) then Z1p k (List.set o1 (Int.toNat v10) (Prod.fst (List.getD o1 (Int.toNat v10) ((0 : Int), (0 : Int))), wrap64 ((1 : Int) - Prod.snd (List.getD o1 (Int.toNat v10) ((0 : Int), (0 : Int)))))) b2_0 b2_1 v1 v2 v9 (wrap64 (v10 + (1 : Int))) else none else none else none else none else Z1p k o1 b2_0 b2_1 v1 v2 v9 (wrap64 (v10 + (1 : Int))) else none else none else none else none else Z1p k o1 b2_0 b2_1 v1 v2 v9 (wrap64 (v10 + (1 : Int))) else none else none else some o1
noncomputable def Zc0 : Spec := Spec.mk [OSh.ro, OSh.row false (71 : Nat) (Ty.pair (Ty.int .i64) (Ty.int .i64)), OSh.box (26 : Nat) [Sh.int .i64, Sh.int .i64, Sh.sl (1 : Nat)]] [((1 : Nat), TSh.at (Sh.snap (0 : Nat) (Ty.int .i64))), ((2 : Nat), TSh.at (Sh.int .i64)), ((3 : Nat), TSh.at (Sh.ptr (2 : Nat) (0 : Nat))), ((9 : Nat), TSh.at (Sh.int .i64)), ((10 : Nat), TSh.at (Sh.int .i64))]
noncomputable def Zrq : Spec := Spec.mk [OSh.ro, OSh.row false (71 : Nat) (Ty.pair (Ty.int .i64) (Ty.int .i64))] []
noncomputable def Z4a : LoopDef (Tup Z68 × OutD) := .plain Zc0 Zrq (List (Int × Int)) (fun k x => Z1p k x.1.2.1 x.1.2.2.1.1 x.1.2.2.1.2.1 x.2.1 x.2.2.1 x.2.2.2.2.1 x.2.2.2.2.2.1) (fun z => (((), z, ()), (()))) (fun y => (y.1.2.1)) (fun _ => rfl)
noncomputable def Z8t : Nat → Int × Int × List (Int × Int) → List Int → Int → Option (List (Int × Int))
 | 0, _, _, _ => none
 | k + 1, p0, p1, p2 =>
  Option.bind (Z1p k p0.2.2 p0.1 p0.2.1 p1 p2 (↑(List.length p0.2.2) : Int) (0 : Int)) fun z0 => some z0
noncomputable def Z3k : FnDef := .of Zjy Z68 (List (Int × Int)) (fun k x => Z8t k x.1 x.2.1 x.2.2.1) Ziu Zdy Zpq
noncomputable def Zb7 : Code := Try.f88.body.getD .skip
noncomputable def Z4n : Ctx (Tup Z68 × OutD) := { T := T, G := [], mvs := [], no := 1, n := 44, res := resOf T Zjy Z68 Try.f88.results.toList, loops := [(0, Z4a.E)], regs := [], conds := [], cuts := [] }
theorem ZjR (k : Nat) : EnvOK Try.prog k Z4n.G := (EnvOK.nil mixed)
noncomputable def Z8B : Code := (findLoop 0 Zb7).getD .skip
theorem Zrw (k : Nat) (x : Zc0.D) : Z4a.lp (k + 1) x = loopK Z4n Z4a 0 Z8B k x := by kernel_rfl
theorem ZrT (k : Nat) : LOK Try.prog Z4n k Z8B := LOK.by [] (by kernel_rfl) AllOK.nil
theorem ZrF (x : Zc0.D) : Z4a.lp 0 x = none := by kernel_rfl
theorem Zph (k : Nat) : EOK Try.prog Z4n k Z4a.E (.block 0 (.loop Z8B)) := Z5 T_ok ZjR ZrF Zrw ZrT k
theorem Zx9 (k : Nat) (x : Tup Z3k.ps) : Z3k.f (k + 1) x = fnK Z3k Z4n Zb7 k x := by kernel_rfl
theorem ZwM (x : Tup Z3k.ps) : Z3k.f 0 x = none := by kernel_rfl
theorem Zxn (k : Nat) : LOK Try.prog Z4n k Zb7 := LOK.by [(Z4a.E, .block 0 (.loop Z8B))] (by kernel_rfl) (AllOK.cons (Zph k) AllOK.nil)
theorem ZxH (k : Nat) : SoundAt Try.prog k 88 Z3k.E := @Z1 Try.prog Z3k Z4n 88 Try.f88 Zb7 (by kernel_rfl) (by kernel_rfl) (by kernel_rfl) Try.func88 (by kernel_rfl) (by kernel_rfl) (by kernel_rfl) T_ok ZjR Zxn ZwM Zx9 k
noncomputable def Z9v : List PK := [PK.mk Ty.bool false none false none]
noncomputable def ZlD : List PK := [PK.mk (Ty.pair (Ty.int .i64) (Ty.int .i64)) true none false none]
noncomputable def Zk4 (r : Bool) : Tup Z9v × OutD := ((r, ()), none)
noncomputable def Zk7 : Tup Z9v × OutD → Option (Bool)
 | (a, none) => some (a.1)
 | _ => none
theorem ZrW : ∀ b r, Zk7 b = some r → Zk4 r = b := by
 rintro ⟨a, o⟩ r h
 cases o with
 | none => injection h with h; subst h; rfl
 | some _ => cases h
noncomputable def Z9i : Nat → Int × Int → Option Bool
 | 0, _ => none
 | k + 1, p0 =>
  if decide (Prod.fst p0 = (6 : Int)) = true then some true else some (decide (Prod.fst p0 = (7 : Int)))
noncomputable def Z3U : FnDef := .of ZlD Z9v (Bool) (fun k x => Z9i k x.1) Zk4 Zk7 ZrW
noncomputable def Zfy : Code := Try.f89.body.getD .skip
noncomputable def Zc4 : Ctx (Tup Z9v × OutD) := { T := T, G := [], mvs := [], no := 0, n := 11, res := resOf T ZlD Z9v Try.f89.results.toList, loops := [], regs := [], conds := [], cuts := [] }
theorem Zyh (k : Nat) : EnvOK Try.prog k Zc4.G := (EnvOK.nil mixed)
theorem Zys (k : Nat) (x : Tup Z3U.ps) : Z3U.f (k + 1) x = fnK Z3U Zc4 Zfy k x := by kernel_rfl
theorem Zzd (x : Tup Z3U.ps) : Z3U.f 0 x = none := by kernel_rfl
theorem Zyy (k : Nat) : LOK Try.prog Zc4 k Zfy := LOK.by [] (by kernel_rfl) AllOK.nil
theorem Zyb (k : Nat) : SoundAt Try.prog k 89 Z3U.E := @Z1 Try.prog Z3U Zc4 89 Try.f89 Zfy (by kernel_rfl) (by kernel_rfl) (by kernel_rfl) Try.func89 (by kernel_rfl) (by kernel_rfl) (by kernel_rfl) T_ok Zyh Zyy Zzd Zys k
noncomputable def Z9a : List PK := [PK.mk (Ty.slice (3 : Nat) (Ty.int .i64)) false none false none]
noncomputable def Zlo : List PK := [PK.mk (Ty.pair (Ty.int .i64) (Ty.pair (Ty.int .i64) (Ty.slice (71 : Nat) (Ty.pair (Ty.int .i64) (Ty.int .i64))))) true none false none, PK.mk (Ty.int .i64) false none false none]
noncomputable def ZjX (r : List Int) : Tup Z9a × OutD := ((r, ()), none)
noncomputable def Zk1 : Tup Z9a × OutD → Option (List Int)
 | (a, none) => some (a.1)
 | _ => none
theorem Zr2 : ∀ b r, Zk1 b = some r → ZjX r = b := by
 rintro ⟨a, o⟩ r h
 cases o with
 | none => injection h with h; subst h; rfl
 | some _ => cases h
noncomputable def Zcd : Nat → Int × Int × List (Int × Int) → Int → Option (List Int)
 | 0, _, _ => none
 | k + 1, p0, p1 =>
  if Prod.fst p0.2 = (0 : Int) then none else if Prod.fst p0.2 = (0 : Int) then none else if decide (wrap64 (Int.tdiv p1 p0.2.1) > (0 : Int)) = true then if decide (Int.tmod p1 p0.2.1 > (0 : Int)) = true then if decide (wrap64 (Int.tmod p1 p0.2.1 + (1 : Int)) < Prod.fst p0.2) = true then if decide (wrap64 (wrap64 (Int.tdiv p1 p0.2.1) + (1 : Int)) < Prod.fst p0) = true then some ([wrap64 (p1 - Prod.fst p0.2)] ++ [wrap64 (p1 - (1 : Int))] ++ [wrap64 (p1 + (1 : Int))] ++ [wrap64 (p1 + Prod.fst p0.2)]) else some ([wrap64 (p1 - Prod.fst p0.2)] ++ [wrap64 (p1 - (1 : Int))] ++ [wrap64 (p1 + (1 : Int))]) else if decide (wrap64 (wrap64 (Int.tdiv p1 p0.2.1) + (1 : Int)) < Prod.fst p0) = true then some ([wrap64 (p1 - Prod.fst p0.2)] ++ [wrap64 (p1 - (1 : Int))] ++ [wrap64 (p1 + Prod.fst p0.2)]) else some ([wrap64 (p1 - Prod.fst p0.2)] ++ [wrap64 (p1 - (1 : Int))]) else if decide (wrap64 (Int.tmod p1 p0.2.1 + (1 : Int)) < Prod.fst p0.2) = true then if decide (wrap64 (wrap64 (Int.tdiv p1 p0.2.1) + (1 : Int)) < Prod.fst p0) = true then some ([wrap64 (p1 - Prod.fst p0.2)] ++ [wrap64 (p1 + (1 : Int))] ++ [wrap64 (p1 + Prod.fst p0.2)]) else some ([wrap64 (p1 - Prod.fst p0.2)] ++ [wrap64 (p1 + (1 : Int))]) else if decide (wrap64 (wrap64 (Int.tdiv p1 p0.2.1) + (1 : Int)) < Prod.fst p0) = true then some ([wrap64 (p1 - Prod.fst p0.2)] ++ [wrap64 (p1 + Prod.fst p0.2)]) else some [wrap64 (p1 - Prod.fst p0.2)] else if decide (Int.tmod p1 p0.2.1 > (0 : Int)) = true then if decide (wrap64 (Int.tmod p1 p0.2.1 + (1 : Int)) < Prod.fst p0.2) = true then if decide (wrap64 (wrap64 (Int.tdiv p1 p0.2.1) + (1 : Int)) < Prod.fst p0) = true then some ([wrap64 (p1 - (1 : Int))] ++ [wrap64 (p1 + (1 : Int))] ++ [wrap64 (p1 + Prod.fst p0.2)]) else some ([wrap64 (p1 - (1 : Int))] ++ [wrap64 (p1 + (1 : Int))]) else if decide (wrap64 (wrap64 (Int.tdiv p1 p0.2.1) + (1 : Int)) < Prod.fst p0) = true then some ([wrap64 (p1 - (1 : Int))] ++ [wrap64 (p1 + Prod.fst p0.2)]) else some [wrap64 (p1 - (1 : Int))] else if decide (wrap64 (Int.tmod p1 p0.2.1 + (1 : Int)) < Prod.fst p0.2) = true then if decide (wrap64 (wrap64 (Int.tdiv p1 p0.2.1) + (1 : Int)) < Prod.fst p0) = true then some ([wrap64 (p1 + (1 : Int))] ++ [wrap64 (p1 + Prod.fst p0.2)]) else some [wrap64 (p1 + (1 : Int))] else if decide (wrap64 (wrap64 (Int.tdiv p1 p0.2.1) + (1 : Int)) < Prod.fst p0) = true then some [wrap64 (p1 + Prod.fst p0.2)] else some []
noncomputable def Z3X : FnDef := .of Zlo Z9a (List Int) (fun k x => Zcd k x.1 x.2.1) ZjX Zk1 Zr2
noncomputable def ZfG : Code := Try.f90.body.getD .skip
noncomputable def Zcf : Ctx (Tup Z9a × OutD) := { T := T, G := [], mvs := [], no := 0, n := 56, res := resOf T Zlo Z9a Try.f90.results.toList, loops := [], regs := [], conds := [], cuts := [] }
theorem Zy8 (k : Nat) : EnvOK Try.prog k Zcf.G := (EnvOK.nil mixed)
theorem ZyB (k : Nat) (x : Tup Z3X.ps) : Z3X.f (k + 1) x = fnK Z3X Zcf ZfG k x := by kernel_rfl
theorem ZyU (x : Tup Z3X.ps) : Z3X.f 0 x = none := by kernel_rfl
theorem Zzf (k : Nat) : LOK Try.prog Zcf k ZfG := LOK.by [] (by kernel_rfl) AllOK.nil
theorem Zza (k : Nat) : SoundAt Try.prog k 90 Z3X.E := @Z1 Try.prog Z3X Zcf 90 Try.f90 ZfG (by kernel_rfl) (by kernel_rfl) (by kernel_rfl) Try.func90 (by kernel_rfl) (by kernel_rfl) (by kernel_rfl) T_ok Zy8 Zzf ZyU ZyB k
noncomputable def Z7M : List PK := [PK.mk (Ty.int .i64) false none false none]
noncomputable def Zix : List PK := [PK.mk (Ty.pair (Ty.slice (5 : Nat) (Ty.int .u8)) (Ty.pair (Ty.int .i64) (Ty.int .u64))) false none false (some (58 : Nat))]
noncomputable def Zhq (r : Int × Int × Int) : Tup Z7M × OutD := ((r.1, ()), some ⟨Ty.pair (Ty.slice (5 : Nat) (Ty.int .u8)) (Ty.pair (Ty.int .i64) (Ty.int .u64)), [([], r.2)]⟩)
noncomputable def Zcq : Tup Z7M × OutD → Option (Int × Int × Int)
 | (a, some ⟨u, ys⟩) => if h : u = Ty.pair (Ty.slice (5 : Nat) (Ty.int .u8)) (Ty.pair (Ty.int .i64) (Ty.int .u64)) then (match castU h ys with
  | [([], y)] => some (a.1, y)
  | _ => none) else none
 | _ => none
theorem Zp7 : ∀ b r, Zcq b = some r → Zhq r = b := by
 rintro ⟨a, o⟩ r h
 cases o with
 | none => cases h
 | some s =>
  obtain ⟨u, ys⟩ := s
  simp only [Zcq] at h
  split at h
  ·rename_i hu
   subst hu
   match ys, h with
   | [], h => cases (show (none : Option _) = some r from h)
   | [([], y)], h => injection (show some _ = some r from h) with h; subst h; rfl
   | [(_ :: _, y)], h => cases (show (none : Option _) = some r from h)
   | (h1, _) :: _ :: _, h => cases h1 <;> cases (show (none : Option _) = some r from h)
  ·cases h
noncomputable def Z5l : Nat → List Int × Int × Int → Option (Int × Int × Int)
 | 0, _ => none
 | k + 1, p0 =>
  if decide (Prod.fst p0.2 < (↑(List.length p0.1) : Int)) = true then if (0 : Int) ≤ Prod.fst p0.2 then if Prod.fst p0.2 < (↑(List.length p0.1) : Int) then if decide (wrap64 (Prod.fst p0.2 + (1 : Int)) ≤ (↑(List.length p0.1) : Int)) = true then some (wrap64 (List.getD p0.1 (Int.toNat p0.2.1) (0 : Int)), wrap64 (Prod.fst p0.2 + (1 : Int)), IntKind.wrap IntKind.u64 (IntKind.wrap IntKind.u64 (IntKind.wrap IntKind.u64 (Prod.snd p0.2 * (6364136223846793005 : Int)) + IntKind.wrap IntKind.u64 (wrap64 (List.getD p0.1 (Int.toNat p0.2.1) (0 : Int)))) + (1442695040888963407 : Int))) else some (wrap64 (bits BinOp.and IntKind.u64 (Int.fdiv (IntKind.wrap IntKind.u64 (IntKind.wrap IntKind.u64 (IntKind.wrap IntKind.u64 (Prod.snd p0.2 * (6364136223846793005 : Int)) + IntKind.wrap IntKind.u64 (wrap64 (List.getD p0.1 (Int.toNat p0.2.1) (0 : Int)))) + (1442695040888963407 : Int))) ((2 : Int) ^ min (Int.toNat (40 : Int)) (IntKind.bits IntKind.u64))) (255 : Int)), wrap64 (Prod.fst p0.2 + (1 : Int)), IntKind.wrap IntKind.u64 (IntKind.wrap IntKind.u64 (IntKind.wrap IntKind.u64 (Prod.snd p0.2 * (6364136223846793005 : Int)) + IntKind.wrap IntKind.u64 (wrap64 (List.getD p0.1 (Int.toNat p0.2.1) (0 : Int)))) + (1442695040888963407 : Int))) else none else none else if decide (wrap64 (Prod.fst p0.2 + (1 : Int)) ≤ (↑(List.length p0.1) : Int)) = true then some ((0 : Int), wrap64 (Prod.fst p0.2 + (1 : Int)), IntKind.wrap IntKind.u64 (IntKind.wrap IntKind.u64 (IntKind.wrap IntKind.u64 (Prod.snd p0.2 * (6364136223846793005 : Int)) + IntKind.wrap IntKind.u64 (0 : Int)) + (1442695040888963407 : Int))) else some (wrap64 (bits BinOp.and IntKind.u64 (Int.fdiv (IntKind.wrap IntKind.u64 (IntKind.wrap IntKind.u64 (IntKind.wrap IntKind.u64 (Prod.snd p0.2 * (6364136223846793005 : Int)) + IntKind.wrap IntKind.u64 (0 : Int)) + (1442695040888963407 : Int))) ((2 : Int) ^ min (Int.toNat (40 : Int)) (IntKind.bits IntKind.u64))) (255 : Int)), wrap64 (Prod.fst p0.2 + (1 : Int)), IntKind.wrap IntKind.u64 (IntKind.wrap IntKind.u64 (IntKind.wrap IntKind.u64 (Prod.snd p0.2 * (6364136223846793005 : Int)) + IntKind.wrap IntKind.u64 (0 : Int)) + (1442695040888963407 : Int)))
noncomputable def Z2L : FnDef := .of Zix Z7M (Int × Int × Int) (fun k x => Z5l k x.1) Zhq Zcq Zp7
noncomputable def ZdG : Code := Try.f91.body.getD .skip
noncomputable def Za1 : Ctx (Tup Z7M × OutD) := { T := T, G := [], mvs := [], no := 2, n := 62, res := resOf T Zix Z7M Try.f91.results.toList, loops := [], regs := [], conds := [], cuts := [] }
theorem ZuU (k : Nat) : EnvOK Try.prog k Za1.G := (EnvOK.nil mixed)
theorem Zv8 (k : Nat) (x : Tup Z2L.ps) : Z2L.f (k + 1) x = fnK Z2L Za1 ZdG k x := by kernel_rfl
theorem Zv1 (x : Tup Z2L.ps) : Z2L.f 0 x = none := by kernel_rfl
theorem ZuG (k : Nat) : LOK Try.prog Za1 k ZdG := LOK.by [] (by kernel_rfl) AllOK.nil
theorem Zvf (k : Nat) : SoundAt Try.prog k 91 Z2L.E := @Z1 Try.prog Z2L Za1 91 Try.f91 ZdG (by kernel_rfl) (by kernel_rfl) (by kernel_rfl) Try.func91 (by kernel_rfl) (by kernel_rfl) (by kernel_rfl) T_ok ZuU ZuG Zv1 Zv8 k
noncomputable def ZdQ : List PK := [PK.mk Ty.bool false none false none]
noncomputable def Zwa : List PK := [PK.mk (Ty.int .i64) false none false none, PK.mk (Ty.int .i64) false none false none, PK.mk (Ty.int .i64) false none false none]
noncomputable def ZsB (r : Bool) : Tup ZdQ × OutD := ((r, ()), none)
noncomputable def ZtE : Tup ZdQ × OutD → Option (Bool)
 | (a, none) => some (a.1)
 | _ => none
theorem ZyL : ∀ b r, ZtE b = some r → ZsB r = b := by
 rintro ⟨a, o⟩ r h
 cases o with
 | none => injection h with h; subst h; rfl
 | some _ => cases h
noncomputable def Z4V : Nat → Int → Int → Int → Option Bool
 | 0, _, _, _ => none
 | k + 1, p0, p1, p2 =>
  if decide (p0 ≥ p1) = true then some (decide (p0 ≤ p2)) else some false
noncomputable def Z3x : FnDef := .of Zwa ZdQ (Bool) (fun k x => Z4V k x.1 x.2.1 x.2.2.1) ZsB ZtE ZyL
noncomputable def Zmm : Code := Try.f94.body.getD .skip
noncomputable def Zhf : Ctx (Tup ZdQ × OutD) := { T := T, G := [], mvs := [], no := 0, n := 15, res := resOf T Zwa ZdQ Try.f94.results.toList, loops := [], regs := [], conds := [], cuts := [] }
theorem ZDD (k : Nat) : EnvOK Try.prog k Zhf.G := (EnvOK.nil mixed)
theorem ZDb (k : Nat) (x : Tup Z3x.ps) : Z3x.f (k + 1) x = fnK Z3x Zhf Zmm k x := by kernel_rfl
theorem ZDE (x : Tup Z3x.ps) : Z3x.f 0 x = none := by kernel_rfl
theorem ZDv (k : Nat) : LOK Try.prog Zhf k Zmm := LOK.by [] (by kernel_rfl) AllOK.nil
theorem ZdX (k : Nat) : SoundAt Try.prog k 94 Z3x.E := @Z1 Try.prog Z3x Zhf 94 Try.f94 Zmm (by kernel_rfl) (by kernel_rfl) (by kernel_rfl) Try.func94 (by kernel_rfl) (by kernel_rfl) (by kernel_rfl) T_ok ZDD ZDv ZDE ZDb k
noncomputable def Zbw : List PK := [PK.mk Ty.bool false none false none]
noncomputable def Zq3 : List PK := [PK.mk (Ty.pair (Ty.int .i64) (Ty.int .i64)) true none false none]
noncomputable def Zo1 (r : Bool) : Tup Zbw × OutD := ((r, ()), none)
noncomputable def ZoP : Tup Zbw × OutD → Option (Bool)
 | (a, none) => some (a.1)
 | _ => none
theorem Zvc : ∀ b r, ZoP b = some r → Zo1 r = b := by
 rintro ⟨a, o⟩ r h
 cases o with
 | none => injection h with h; subst h; rfl
 | some _ => cases h
noncomputable def ZbH : Nat → Int × Int → Option Bool
 | 0, _ => none
 | k + 1, p0 =>
  if decide (Prod.fst p0 < (0 : Int)) = true then some false else if decide (Prod.fst p0 > (7 : Int)) = true then some false else if decide (Prod.snd p0 < (0 : Int)) = true then some false else if decide (Prod.snd p0 > (1 : Int)) = true then some false else if decide (Prod.snd p0 = (0 : Int)) = true then some true else if decide (Prod.fst p0 = (3 : Int)) = true then some true else some (decide (Prod.fst p0 = (6 : Int)))
noncomputable def Z4i : FnDef := .of Zq3 Zbw (Bool) (fun k x => ZbH k x.1) Zo1 ZoP Zvc
noncomputable def Zi5 : Code := Try.f102.body.getD .skip
noncomputable def Zen : Ctx (Tup Zbw × OutD) := { T := T, G := [], mvs := [], no := 0, n := 34, res := resOf T Zq3 Zbw Try.f102.results.toList, loops := [], regs := [], conds := [], cuts := [] }
theorem ZBR (k : Nat) : EnvOK Try.prog k Zen.G := (EnvOK.nil mixed)
theorem ZAF (k : Nat) (x : Tup Z4i.ps) : Z4i.f (k + 1) x = fnK Z4i Zen Zi5 k x := by kernel_rfl
theorem ZAR (x : Tup Z4i.ps) : Z4i.f 0 x = none := by kernel_rfl
theorem ZBt (k : Nat) : LOK Try.prog Zen k Zi5 := LOK.by [] (by kernel_rfl) AllOK.nil
theorem Zqd (k : Nat) : SoundAt Try.prog k 102 Z4i.E := @Z1 Try.prog Z4i Zen 102 Try.f102 Zi5 (by kernel_rfl) (by kernel_rfl) (by kernel_rfl) Try.func102 (by kernel_rfl) (by kernel_rfl) (by kernel_rfl) T_ok ZBR ZBt ZAR ZAF k
noncomputable def Zbz : List PK := [PK.mk Ty.bool false none false none]
noncomputable def Zqv : List PK := [PK.mk (Ty.pair (Ty.int .i64) (Ty.int .i64)) true none false none]
noncomputable def ZoR (r : Bool) : Tup Zbz × OutD := ((r, ()), none)
noncomputable def ZnD : Tup Zbz × OutD → Option (Bool)
 | (a, none) => some (a.1)
 | _ => none
theorem Zum : ∀ b r, ZnD b = some r → ZoR r = b := by
 rintro ⟨a, o⟩ r h
 cases o with
 | none => injection h with h; subst h; rfl
 | some _ => cases h
noncomputable def ZbF : Nat → Int × Int → Option Bool
 | 0, _ => none
 | k + 1, p0 =>
  if decide (Prod.fst p0 = (6 : Int)) = true then some true else some (decide (Prod.fst p0 = (7 : Int)))
noncomputable def Z5y : FnDef := .of Zqv Zbz (Bool) (fun k x => ZbF k x.1) ZoR ZnD Zum
noncomputable def Zif : Code := Try.f104.body.getD .skip
noncomputable def Zec : Ctx (Tup Zbz × OutD) := { T := T, G := [], mvs := [], no := 0, n := 11, res := resOf T Zqv Zbz Try.f104.results.toList, loops := [], regs := [], conds := [], cuts := [] }
theorem ZBk (k : Nat) : EnvOK Try.prog k Zec.G := (EnvOK.nil mixed)
theorem ZB9 (k : Nat) (x : Tup Z5y.ps) : Z5y.f (k + 1) x = fnK Z5y Zec Zif k x := by kernel_rfl
theorem ZBb (x : Tup Z5y.ps) : Z5y.f 0 x = none := by kernel_rfl
theorem ZBm (k : Nat) : LOK Try.prog Zec k Zif := LOK.by [] (by kernel_rfl) AllOK.nil
theorem ZAU (k : Nat) : SoundAt Try.prog k 104 Z5y.E := @Z1 Try.prog Z5y Zec 104 Try.f104 Zif (by kernel_rfl) (by kernel_rfl) (by kernel_rfl) Try.func104 (by kernel_rfl) (by kernel_rfl) (by kernel_rfl) T_ok ZBk ZBm ZBb ZB9 k
noncomputable def ZbB : List PK := [PK.mk (Ty.slice (3 : Nat) (Ty.int .i64)) false none false none]
noncomputable def Zqn : List PK := [PK.mk (Ty.pair (Ty.int .i64) (Ty.pair (Ty.int .i64) (Ty.slice (71 : Nat) (Ty.pair (Ty.int .i64) (Ty.int .i64))))) true none false none, PK.mk (Ty.int .i64) false none false none]
noncomputable def ZnX (r : List Int) : Tup ZbB × OutD := ((r, ()), none)
noncomputable def ZnC : Tup ZbB × OutD → Option (List Int)
 | (a, none) => some (a.1)
 | _ => none
theorem Zuo : ∀ b r, ZnC b = some r → ZnX r = b := by
 rintro ⟨a, o⟩ r h
 cases o with
 | none => injection h with h; subst h; rfl
 | some _ => cases h
noncomputable def Zek : Nat → Int × Int × List (Int × Int) → Int → Option (List Int)
 | 0, _, _ => none
 | k + 1, p0, p1 =>
  if Prod.fst p0.2 = (0 : Int) then none else if Prod.fst p0.2 = (0 : Int) then none else if decide (wrap64 (Int.tdiv p1 p0.2.1) > (0 : Int)) = true then if decide (Int.tmod p1 p0.2.1 > (0 : Int)) = true then if decide (wrap64 (Int.tmod p1 p0.2.1 + (1 : Int)) < Prod.fst p0.2) = true then if decide (wrap64 (wrap64 (Int.tdiv p1 p0.2.1) + (1 : Int)) < Prod.fst p0) = true then some ([wrap64 (p1 - Prod.fst p0.2)] ++ [wrap64 (p1 - (1 : Int))] ++ [wrap64 (p1 + (1 : Int))] ++ [wrap64 (p1 + Prod.fst p0.2)]) else some ([wrap64 (p1 - Prod.fst p0.2)] ++ [wrap64 (p1 - (1 : Int))] ++ [wrap64 (p1 + (1 : Int))]) else if decide (wrap64 (wrap64 (Int.tdiv p1 p0.2.1) + (1 : Int)) < Prod.fst p0) = true then some ([wrap64 (p1 - Prod.fst p0.2)] ++ [wrap64 (p1 - (1 : Int))] ++ [wrap64 (p1 + Prod.fst p0.2)]) else some ([wrap64 (p1 - Prod.fst p0.2)] ++ [wrap64 (p1 - (1 : Int))]) else if decide (wrap64 (Int.tmod p1 p0.2.1 + (1 : Int)) < Prod.fst p0.2) = true then if decide (wrap64 (wrap64 (Int.tdiv p1 p0.2.1) + (1 : Int)) < Prod.fst p0) = true then some ([wrap64 (p1 - Prod.fst p0.2)] ++ [wrap64 (p1 + (1 : Int))] ++ [wrap64 (p1 + Prod.fst p0.2)]) else some ([wrap64 (p1 - Prod.fst p0.2)] ++ [wrap64 (p1 + (1 : Int))]) else if decide (wrap64 (wrap64 (Int.tdiv p1 p0.2.1) + (1 : Int)) < Prod.fst p0) = true then some ([wrap64 (p1 - Prod.fst p0.2)] ++ [wrap64 (p1 + Prod.fst p0.2)]) else some [wrap64 (p1 - Prod.fst p0.2)] else if decide (Int.tmod p1 p0.2.1 > (0 : Int)) = true then if decide (wrap64 (Int.tmod p1 p0.2.1 + (1 : Int)) < Prod.fst p0.2) = true then if decide (wrap64 (wrap64 (Int.tdiv p1 p0.2.1) + (1 : Int)) < Prod.fst p0) = true then some ([wrap64 (p1 - (1 : Int))] ++ [wrap64 (p1 + (1 : Int))] ++ [wrap64 (p1 + Prod.fst p0.2)]) else some ([wrap64 (p1 - (1 : Int))] ++ [wrap64 (p1 + (1 : Int))]) else if decide (wrap64 (wrap64 (Int.tdiv p1 p0.2.1) + (1 : Int)) < Prod.fst p0) = true then some ([wrap64 (p1 - (1 : Int))] ++ [wrap64 (p1 + Prod.fst p0.2)]) else some [wrap64 (p1 - (1 : Int))] else if decide (wrap64 (Int.tmod p1 p0.2.1 + (1 : Int)) < Prod.fst p0.2) = true then if decide (wrap64 (wrap64 (Int.tdiv p1 p0.2.1) + (1 : Int)) < Prod.fst p0) = true then some ([wrap64 (p1 + (1 : Int))] ++ [wrap64 (p1 + Prod.fst p0.2)]) else some [wrap64 (p1 + (1 : Int))] else if decide (wrap64 (wrap64 (Int.tdiv p1 p0.2.1) + (1 : Int)) < Prod.fst p0) = true then some [wrap64 (p1 + Prod.fst p0.2)] else some []
noncomputable def Z5w : FnDef := .of Zqn ZbB (List Int) (fun k x => Zek k x.1 x.2.1) ZnX ZnC Zuo
noncomputable def Zi2 : Code := Try.f105.body.getD .skip
noncomputable def Zeu : Ctx (Tup ZbB × OutD) := { T := T, G := [], mvs := [], no := 0, n := 55, res := resOf T Zqn ZbB Try.f105.results.toList, loops := [], regs := [], conds := [], cuts := [] }
theorem ZBp (k : Nat) : EnvOK Try.prog k Zeu.G := (EnvOK.nil mixed)
theorem ZBB (k : Nat) (x : Tup Z5w.ps) : Z5w.f (k + 1) x = fnK Z5w Zeu Zi2 k x := by kernel_rfl
theorem ZAD (x : Tup Z5w.ps) : Z5w.f 0 x = none := by kernel_rfl
theorem ZAX (k : Nat) : LOK Try.prog Zeu k Zi2 := LOK.by [] (by kernel_rfl) AllOK.nil
theorem ZAH (k : Nat) : SoundAt Try.prog k 105 Z5w.E := @Z1 Try.prog Z5w Zeu 105 Try.f105 Zi2 (by kernel_rfl) (by kernel_rfl) (by kernel_rfl) Try.func105 (by kernel_rfl) (by kernel_rfl) (by kernel_rfl) T_ok ZBp ZAX ZAD ZBB k
noncomputable def ZdN : List PK := [PK.mk (Ty.pair (Ty.int .i64) (Ty.int .i64)) true none false none]
noncomputable def Zwl : List PK := [PK.mk (Ty.pair (Ty.int .i64) (Ty.pair (Ty.int .i64) (Ty.slice (71 : Nat) (Ty.pair (Ty.int .i64) (Ty.int .i64))))) true none false none, PK.mk (Ty.int .i64) false none false none, PK.mk (Ty.int .i64) false none false none]
noncomputable def ZsG (r : Int × Int) : Tup ZdN × OutD := ((r, ()), none)
noncomputable def Zst : Tup ZdN × OutD → Option (Int × Int)
 | (a, none) => some (a.1)
 | _ => none
theorem ZyC : ∀ b r, Zst b = some r → ZsG r = b := by
 rintro ⟨a, o⟩ r h
 cases o with
 | none => injection h with h; subst h; rfl
 | some _ => cases h
noncomputable def Zha : Nat → Int × Int × List (Int × Int) → Int → Int → Option (Int × Int)
 | 0, _, _, _ => none
 | k + 1, p0, p1, p2 =>
  if (0 : Int) ≤ wrap64 (wrap64 (p1 * Prod.fst p0.2) + p2) then if wrap64 (wrap64 (p1 * Prod.fst p0.2) + p2) < (↑(List.length p0.2.2) : Int) then some (Prod.fst (List.getD p0.2.2 (Int.toNat (wrap64 (wrap64 (p1 * Prod.fst p0.2) + p2))) ((0 : Int), (0 : Int))), Prod.snd (List.getD p0.2.2 (Int.toNat (wrap64 (wrap64 (p1 * Prod.fst p0.2) + p2))) ((0 : Int), (0 : Int)))) else none else none
noncomputable def Z85 : FnDef := .of Zwl ZdN (Int × Int) (fun k x => Zha k x.1 x.2.1 x.2.2.1) ZsG Zst ZyC
noncomputable def ZmV : Code := Try.f106.body.getD .skip
noncomputable def Zh9 : Ctx (Tup ZdN × OutD) := { T := T, G := [], mvs := [], no := 0, n := 17, res := resOf T Zwl ZdN Try.f106.results.toList, loops := [], regs := [], conds := [], cuts := [] }
theorem ZD9 (k : Nat) : EnvOK Try.prog k Zh9.G := (EnvOK.nil mixed)
theorem ZDt (k : Nat) (x : Tup Z85.ps) : Z85.f (k + 1) x = fnK Z85 Zh9 ZmV k x := by kernel_rfl
theorem ZDc (x : Tup Z85.ps) : Z85.f 0 x = none := by kernel_rfl
theorem ZDf (k : Nat) : LOK Try.prog Zh9 k ZmV := LOK.by [] (by kernel_rfl) AllOK.nil
theorem ZDr (k : Nat) : SoundAt Try.prog k 106 Z85.E := @Z1 Try.prog Z85 Zh9 106 Try.f106 ZmV (by kernel_rfl) (by kernel_rfl) (by kernel_rfl) Try.func106 (by kernel_rfl) (by kernel_rfl) (by kernel_rfl) T_ok ZD9 ZDf ZDc ZDt k
noncomputable def ZbD : List PK := [PK.mk (Ty.int .i64) false none false none]
noncomputable def Zqm : List PK := [PK.mk (Ty.pair (Ty.int .i64) (Ty.int .i64)) true none false none, PK.mk (Ty.int .i64) false none false none]
noncomputable def Zp4 (r : Int) : Tup ZbD × OutD := ((r, ()), none)
noncomputable def ZnI : Tup ZbD × OutD → Option (Int)
 | (a, none) => some (a.1)
 | _ => none
theorem Zv5 : ∀ b r, ZnI b = some r → Zp4 r = b := by
 rintro ⟨a, o⟩ r h
 cases o with
 | none => injection h with h; subst h; rfl
 | some _ => cases h
noncomputable def ZbC : Nat → Int × Int → Int → Option Int
 | 0, _, _ => none
 | k + 1, p0, p1 =>
  if decide (Prod.fst p0 = (1 : Int)) = true then some (-1 : Int) else if decide (Prod.fst p0 = (2 : Int)) = true then some (1 : Int) else if decide (Prod.fst p0 = (3 : Int)) = true then some (wrap64 (wrap64 ((2 : Int) * Prod.snd p0) - (1 : Int))) else if decide (Prod.fst p0 = (6 : Int)) = true then some (wrap64 (wrap64 ((2 : Int) * Prod.snd p0) - (1 : Int))) else if decide (Prod.fst p0 = (4 : Int)) = true then some (wrap64 ((0 : Int) - p1)) else some (0 : Int)
noncomputable def Z5B : FnDef := .of Zqm ZbD (Int) (fun k x => ZbC k x.1 x.2.1) Zp4 ZnI Zv5
noncomputable def Zi4 : Code := Try.f107.body.getD .skip
noncomputable def Zeg : Ctx (Tup ZbD × OutD) := { T := T, G := [], mvs := [], no := 0, n := 22, res := resOf T Zqm ZbD Try.f107.results.toList, loops := [], regs := [], conds := [], cuts := [] }
theorem ZBn (k : Nat) : EnvOK Try.prog k Zeg.G := (EnvOK.nil mixed)
theorem ZBu (k : Nat) (x : Tup Z5B.ps) : Z5B.f (k + 1) x = fnK Z5B Zeg Zi4 k x := by kernel_rfl
theorem ZB5 (x : Tup Z5B.ps) : Z5B.f 0 x = none := by kernel_rfl
theorem ZBs (k : Nat) : LOK Try.prog Zeg k Zi4 := LOK.by [] (by kernel_rfl) AllOK.nil
theorem ZAT (k : Nat) : SoundAt Try.prog k 107 Z5B.E := @Z1 Try.prog Z5B Zeg 107 Try.f107 Zi4 (by kernel_rfl) (by kernel_rfl) (by kernel_rfl) Try.func107 (by kernel_rfl) (by kernel_rfl) (by kernel_rfl) T_ok ZBn ZBs ZB5 ZBu k
noncomputable def Z8l : List PK := [PK.mk Ty.bool false none false none]
noncomputable def Zk2 : List PK := [PK.mk (Ty.pair (Ty.int .i64) (Ty.int .i64)) true none false none]
noncomputable def ZiP (r : Bool) : Tup Z8l × OutD := ((r, ()), none)
noncomputable def ZiR : Tup Z8l × OutD → Option (Bool)
 | (a, none) => some (a.1)
 | _ => none
theorem ZpI : ∀ b r, ZiR b = some r → ZiP r = b := by
 rintro ⟨a, o⟩ r h
 cases o with
 | none => injection h with h; subst h; rfl
 | some _ => cases h
noncomputable def Z8v : Nat → Int × Int → Option Bool
 | 0, _ => none
 | k + 1, p0 =>
  if decide (Prod.fst p0 = (3 : Int)) = true then some true else some (decide (Prod.fst p0 = (6 : Int)))
noncomputable def Z2d : FnDef := .of Zk2 Z8l (Bool) (fun k x => Z8v k x.1) ZiP ZiR ZpI
noncomputable def ZeU : Code := Try.f109.body.getD .skip
noncomputable def Zbn : Ctx (Tup Z8l × OutD) := { T := T, G := [], mvs := [], no := 0, n := 11, res := resOf T Zk2 Z8l Try.f109.results.toList, loops := [], regs := [], conds := [], cuts := [] }
theorem Zxp (k : Nat) : EnvOK Try.prog k Zbn.G := (EnvOK.nil mixed)
theorem ZxR (k : Nat) (x : Tup Z2d.ps) : Z2d.f (k + 1) x = fnK Z2d Zbn ZeU k x := by kernel_rfl
theorem ZwU (x : Tup Z2d.ps) : Z2d.f 0 x = none := by kernel_rfl
theorem Zx2 (k : Nat) : LOK Try.prog Zbn k ZeU := LOK.by [] (by kernel_rfl) AllOK.nil
theorem ZjO (k : Nat) : SoundAt Try.prog k 109 Z2d.E := @Z1 Try.prog Z2d Zbn 109 Try.f109 ZeU (by kernel_rfl) (by kernel_rfl) (by kernel_rfl) Try.func109 (by kernel_rfl) (by kernel_rfl) (by kernel_rfl) T_ok Zxp Zx2 ZwU ZxR k
noncomputable def ZbG : List PK := [PK.mk (Ty.pair (Ty.int .i64) (Ty.int .i64)) true none false none]
noncomputable def Zqi : List PK := [PK.mk (Ty.pair (Ty.int .i64) (Ty.int .i64)) true none false none]
noncomputable def ZoA (r : Int × Int) : Tup ZbG × OutD := ((r, ()), none)
noncomputable def Zoy : Tup ZbG × OutD → Option (Int × Int)
 | (a, none) => some (a.1)
 | _ => none
theorem ZuY : ∀ b r, Zoy b = some r → ZoA r = b := by
 rintro ⟨a, o⟩ r h
 cases o with
 | none => injection h with h; subst h; rfl
 | some _ => cases h
noncomputable def Z5D : Nat → Int × Int → Option (Int × Int)
 | 0, _ => none
 | k + 1, p0 =>
  some (Prod.fst p0, wrap64 ((1 : Int) - Prod.snd p0))
noncomputable def Z4j : FnDef := .of Zqi ZbG (Int × Int) (fun k x => Z5D k x.1) ZoA Zoy ZuY
noncomputable def Zii : Code := Try.f110.body.getD .skip
noncomputable def Ze9 : Ctx (Tup ZbG × OutD) := { T := T, G := [], mvs := [], no := 0, n := 9, res := resOf T Zqi ZbG Try.f110.results.toList, loops := [], regs := [], conds := [], cuts := [] }
theorem ZBH (k : Nat) : EnvOK Try.prog k Ze9.G := (EnvOK.nil mixed)
theorem ZBe (k : Nat) (x : Tup Z4j.ps) : Z4j.f (k + 1) x = fnK Z4j Ze9 Zii k x := by kernel_rfl
theorem ZAB (x : Tup Z4j.ps) : Z4j.f 0 x = none := by kernel_rfl
theorem ZBx (k : Nat) : LOK Try.prog Ze9 k Zii := LOK.by [] (by kernel_rfl) AllOK.nil
theorem ZqQ (k : Nat) : SoundAt Try.prog k 110 Z4j.E := @Z1 Try.prog Z4j Ze9 110 Try.f110 Zii (by kernel_rfl) (by kernel_rfl) (by kernel_rfl) Try.func110 (by kernel_rfl) (by kernel_rfl) (by kernel_rfl) T_ok ZBH ZBx ZAB ZBe k
end
end Go.Proofs.Ytglkedenkcpcbaa.Vs

set_option maxRecDepth 100000
set_option maxHeartbeats 2000000
set_option linter.unusedVariables false
set_option linter.unusedSimpArgs false
namespace Go.Proofs.Ytglkedenkcpcbaa.Vs
open Go.RowKit
noncomputable section
noncomputable def Z4z : List PK := [PK.mk Ty.bool false none false none]
noncomputable def ZhN : List PK := [PK.mk (Ty.slice (26 : Nat) (Ty.pair (Ty.int .i64) (Ty.pair (Ty.int .i64) (Ty.slice (71 : Nat) (Ty.pair (Ty.int .i64) (Ty.int .i64)))))) false none false none, PK.mk (Ty.slice (26 : Nat) (Ty.pair (Ty.int .i64) (Ty.pair (Ty.int .i64) (Ty.slice (71 : Nat) (Ty.pair (Ty.int .i64) (Ty.int .i64)))))) false none false none]
noncomputable def ZbT (r : Bool) : Tup Z4z × OutD := ((r, ()), none)
noncomputable def ZbW : Tup Z4z × OutD → Option (Bool)
 | (a, none) => some (a.1)
 | _ => none
theorem Ze5 : ∀ b r, ZbW b = some r → ZbT r = b := by
 rintro ⟨a, o⟩ r h
 cases o with
 | none => injection h with h; subst h; rfl
 | some _ => cases h
noncomputable def Z3A : Nat → List (Int × Int × List (Int × Int)) → List (Int × Int × List (Int × Int)) → Int → Int → Option (LR Unit Bool)
 | 0, _, _, _, _ => none
 | k + 1, v0, v1, v12, v13 =>
  if decide (v13 < v12) = true then if (0 : Int) ≤ v13 then if v13 < (↑(List.length v0) : Int) then if (0 : Int) ≤ v13 then if v13 < (↑(List.length v1) : Int) then Option.bind (Z2M k (Prod.fst (List.getD v0 (Int.toNat v13) ((0 : Int), (0 : Int), [])), Prod.fst (Prod.snd (List.getD v0 (Int.toNat v13) ((0 : Int), (0 : Int), []))), Prod.snd (Prod.snd (List.getD v0 (Int.toNat v13) ((0 : Int), (0 : Int), [])))) (Prod.fst (List.getD v1 (Int.toNat v13) ((0 : Int), (0 : Int), [])), Prod.fst (Prod.snd (List.getD v1 (Int.toNat v13) ((0 : Int), (0 : Int), []))), Prod.snd (Prod.snd (List.getD v1 (Int.toNat v13) ((0 : Int), (0 : Int), []))))) fun z0 => if (!z0) = true then some (LR.ret false) else Z3A k v0 v1 v12 (wrap64 (v13 + (1 : Int))) else none else none else none else none else some (LR.go ())
noncomputable def ZaH : Spec := Spec.mk [OSh.ro] [((0 : Nat), TSh.at (Sh.snap (0 : Nat) (Ty.pair (Ty.int .i64) (Ty.pair (Ty.int .i64) (Ty.slice (71 : Nat) (Ty.pair (Ty.int .i64) (Ty.int .i64))))))), ((1 : Nat), TSh.at (Sh.snap (0 : Nat) (Ty.pair (Ty.int .i64) (Ty.pair (Ty.int .i64) (Ty.slice (71 : Nat) (Ty.pair (Ty.int .i64) (Ty.int .i64))))))), ((12 : Nat), TSh.at (Sh.int .i64)), ((13 : Nat), TSh.at (Sh.int .i64))]
noncomputable def ZoH : Spec := Spec.mk [OSh.ro] []
noncomputable def Z3h : LoopDef (Tup Z4z × OutD) := .rets ZaH ZoH (Unit) (Bool) (fun k x => Z3A k x.2.1 x.2.2.1 x.2.2.2.1 x.2.2.2.2.1) (fun z => (((), ()), (()))) (fun y => ()) (fun _ => rfl) ZbT ZbW Ze5
noncomputable def Z9r : Nat → List (Int × Int × List (Int × Int)) → List (Int × Int × List (Int × Int)) → Option Bool
 | 0, _, _ => none
 | k + 1, p0, p1 =>
  if decide ((↑(List.length p0) : Int) ≠ (↑(List.length p1) : Int)) = true then some false else Option.bind (Z3A k p0 p1 (↑(List.length p0) : Int) (0 : Int)) fun z1 => LR.on z1 (fun y1 => some true) fun r1 => some r1
noncomputable def Z25 : FnDef := .of ZhN Z4z (Bool) (fun k x => Z9r k x.1 x.2.1) ZbT ZbW Ze5
noncomputable def Z9n : Code := Try.f15.body.getD .skip
noncomputable def Z3o : Ctx (Tup Z4z × OutD) := { T := T, G := [(16, Z1M.E)], mvs := [], no := 0, n := 27, res := resOf T ZhN Z4z Try.f15.results.toList, loops := [(0, Z3h.E)], regs := [], conds := [], cuts := [] }
theorem ZhR (k : Nat) : EnvOK Try.prog k Z3o.G := (EnvOK.cons (ZiB k) (EnvOK.nil mixed))
noncomputable def Z7n : Code := (findLoop 0 Z9n).getD .skip
theorem ZnZ (k : Nat) (x : ZaH.D) : Z3h.lp (k + 1) x = loopK Z3o Z3h 0 Z7n k x := by kernel_rfl
theorem ZnH (k : Nat) : LOK Try.prog Z3o k Z7n := LOK.by [] (by kernel_rfl) AllOK.nil
theorem Zoq (x : ZaH.D) : Z3h.lp 0 x = none := by kernel_rfl
theorem ZlY (k : Nat) : EOK Try.prog Z3o k Z3h.E (.block 0 (.loop Z7n)) := Z5 T_ok ZhR Zoq ZnZ ZnH k
theorem ZsZ (k : Nat) (x : Tup Z25.ps) : Z25.f (k + 1) x = fnK Z25 Z3o Z9n k x := by kernel_rfl
theorem ZsT (x : Tup Z25.ps) : Z25.f 0 x = none := by kernel_rfl
theorem ZtJ (k : Nat) : LOK Try.prog Z3o k Z9n := LOK.by [(Z3h.E, .block 0 (.loop Z7n))] (by kernel_rfl) (AllOK.cons (ZlY k) AllOK.nil)
theorem Zsa (k : Nat) : SoundAt Try.prog k 15 Z25.E := @Z1 Try.prog Z25 Z3o 15 Try.f15 Z9n (by kernel_rfl) (by kernel_rfl) (by kernel_rfl) Try.func15 (by kernel_rfl) (by kernel_rfl) (by kernel_rfl) T_ok ZhR ZtJ ZsT ZsZ k
noncomputable def Z14 : List PK := [PK.mk (Ty.slice (3 : Nat) (Ty.int .i64)) false none false none]
noncomputable def ZgG : List PK := [PK.mk (Ty.pair (Ty.int .i64) (Ty.pair (Ty.int .i64) (Ty.slice (71 : Nat) (Ty.pair (Ty.int .i64) (Ty.int .i64))))) true none false none]
noncomputable def ZfP (r : List Int) : Tup Z14 × OutD := ((r, ()), none)
noncomputable def Zg8 : Tup Z14 × OutD → Option (List Int)
 | (a, none) => some (a.1)
 | _ => none
theorem Zl9 : ∀ b r, Zg8 b = some r → ZfP r = b := by
 rintro ⟨a, o⟩ r h
 cases o with
 | none => injection h with h; subst h; rfl
 | some _ => cases h
noncomputable def Z32 : Nat → Int → Int → List (Int × Int) → List Int → Int → Int → Option (Int × Int × List (Int × Int) × List Int)
 | 0, _, _, _, _, _, _ => none
 | k + 1, b1_0, b1_1, b1_2, o2, v17, v18 =>
  if decide (v18 < v17) = true then if (0 : Int) ≤ v18 then if v18 < (↑(List.length o2) : Int) then Z32 k b1_0 b1_1 b1_2 (List.set o2 (Int.toNat v18) (-1 : Int)) v17 (wrap64 (v18 + (1 : Int))) else none else none else some (b1_0, b1_1, b1_2, o2)
noncomputable def Z9T : Spec := Spec.mk [OSh.ro, OSh.box (26 : Nat) [Sh.int .i64, Sh.int .i64, Sh.snap (0 : Nat) (Ty.pair (Ty.int .i64) (Ty.int .i64))], OSh.row true (3 : Nat) (Ty.int .i64)] [((1 : Nat), TSh.at (Sh.ptr (1 : Nat) (0 : Nat))), ((3 : Nat), TSh.at (Sh.sl (2 : Nat))), ((17 : Nat), TSh.at (Sh.int .i64)), ((18 : Nat), TSh.at (Sh.int .i64))]
noncomputable def ZmB : Spec := Spec.mk [OSh.ro, OSh.box (26 : Nat) [Sh.int .i64, Sh.int .i64, Sh.snap (0 : Nat) (Ty.pair (Ty.int .i64) (Ty.int .i64))], OSh.row true (3 : Nat) (Ty.int .i64)] [((1 : Nat), TSh.at (Sh.ptr (1 : Nat) (0 : Nat))), ((3 : Nat), TSh.at (Sh.sl (2 : Nat)))]
noncomputable def Z2v : LoopDef (Tup Z14 × OutD) := .plain Z9T ZmB (Int × Int × List (Int × Int) × List Int) (fun k x => Z32 k x.1.2.1.1 x.1.2.1.2.1 x.1.2.1.2.2.1 x.1.2.2.1 x.2.2.2.1 x.2.2.2.2.1) (fun z => (((), (z.1, z.2.1, z.2.2.1, ()), z.2.2.2, ()), ((), (), ()))) (fun y => (y.1.2.1.1, y.1.2.1.2.1, y.1.2.1.2.2.1, y.1.2.2.1)) (fun _ => rfl)
noncomputable def Z19 : Nat → Int → Int → List (Int × Int) → List Int → List Int → List Int → Int → List (Int × Int) → Int → Int → Int → Int → Option (Int × Int × List (Int × Int) × List Int × List Int × Int × List (Int × Int) × Int × Int)
 | 0, _, _, _, _, _, _, _, _, _, _, _, _ => none
 | k + 1, b1_0, b1_1, b1_2, o2, o3, o4, v5, v26, v27, v28, v60, v61 =>
  if decide (v61 < v60) = true then if (0 : Int) ≤ v61 then if v61 < (↑(List.length o4) : Int) then if (0 : Int) ≤ List.getD o4 (Int.toNat v61) (0 : Int) then if List.getD o4 (Int.toNat v61) (0 : Int) < (↑(List.length b1_2) : Int) then Option.bind (Z9i k (Prod.fst (List.getD b1_2 (Int.toNat (List.getD o4 (Int.toNat v61) (0 : Int))) ((0 : Int), (0 : Int))), Prod.snd (List.getD b1_2 (Int.toNat (List.getD o4 (Int.toNat v61) (0 : Int))) ((0 : Int), (0 : Int))))) fun z3 => if z3 = true then if (0 : Int) ≤ List.getD o4 (Int.toNat v61) (0 : Int) then if List.getD o4 (Int.toNat v61) (0 : Int) < (↑(List.length o2) : Int) then if decide (List.getD o2 (Int.toNat (List.getD o4 (Int.toNat v61) (0 : Int))) (0 : Int) < (0 : Int)) = true then if (0 : Int) ≤ List.getD o4 (Int.toNat v61) (0 : Int) then if List.getD o4 (Int.toNat v61) (0 : Int) < (↑(List.length o2) : Int) then if List.length o3 + List.length [List.getD o4 (Int.toNat v61) (0 : Int)] ≤ (140737488355328 / 8 : Nat) then Z19 k b1_0 b1_1 b1_2 (List.set o2 (Int.toNat (List.getD o4 (Int.toNat v61) (0 : Int))) v5) (o3 ++ [List.getD o4 (Int.toNat v61) (0 : Int)]) o4 v5 v26 v27 v28 v60 (wrap64 (v61 + (1 : Int))) else none else none else none else Z19 k b1_0 b1_1 b1_2 o2 o3 o4 v5 v26 v27 v28 v60 (wrap64 (v61 + (1 : Int))) else none else none else Z19 k b1_0 b1_1 b1_2 o2 o3 o4 v5 v26 v27 v28 v60 (wrap64 (v61 + (1 : Int))) else none else none else none else none else some (b1_0, b1_1, b1_2, o2, o3, v5, v26, v27, v28)
noncomputable def Z9F : Spec := Spec.mk [OSh.ro, OSh.box (26 : Nat) [Sh.int .i64, Sh.int .i64, Sh.snap (0 : Nat) (Ty.pair (Ty.int .i64) (Ty.int .i64))], OSh.row true (3 : Nat) (Ty.int .i64), OSh.row true (3 : Nat) (Ty.int .i64), OSh.row true (3 : Nat) (Ty.int .i64)] [((1 : Nat), TSh.at (Sh.ptr (1 : Nat) (0 : Nat))), ((3 : Nat), TSh.at (Sh.sl (2 : Nat))), ((5 : Nat), TSh.at (Sh.int .i64)), ((8 : Nat), TSh.at (Sh.sl (3 : Nat))), ((26 : Nat), TSh.at (Sh.snap (0 : Nat) (Ty.pair (Ty.int .i64) (Ty.int .i64)))), ((27 : Nat), TSh.at (Sh.int .i64)), ((28 : Nat), TSh.at (Sh.int .i64)), ((59 : Nat), TSh.at (Sh.sl (4 : Nat))), ((60 : Nat), TSh.at (Sh.int .i64)), ((61 : Nat), TSh.at (Sh.int .i64))]
noncomputable def ZmN : Spec := Spec.mk [OSh.ro, OSh.box (26 : Nat) [Sh.int .i64, Sh.int .i64, Sh.snap (0 : Nat) (Ty.pair (Ty.int .i64) (Ty.int .i64))], OSh.row true (3 : Nat) (Ty.int .i64), OSh.row true (3 : Nat) (Ty.int .i64)] [((1 : Nat), TSh.at (Sh.ptr (1 : Nat) (0 : Nat))), ((3 : Nat), TSh.at (Sh.sl (2 : Nat))), ((5 : Nat), TSh.at (Sh.int .i64)), ((8 : Nat), TSh.at (Sh.sl (3 : Nat))), ((26 : Nat), TSh.at (Sh.snap (0 : Nat) (Ty.pair (Ty.int .i64) (Ty.int .i64)))), ((27 : Nat), TSh.at (Sh.int .i64)), ((28 : Nat), TSh.at (Sh.int .i64))]
noncomputable def Z2D : LoopDef (Tup Z14 × OutD) := .plain Z9F ZmN (Int × Int × List (Int × Int) × List Int × List Int × Int × List (Int × Int) × Int × Int) (fun k x => Z19 k x.1.2.1.1 x.1.2.1.2.1 x.1.2.1.2.2.1 x.1.2.2.1 x.1.2.2.2.1 x.1.2.2.2.2.1 x.2.2.2.1 x.2.2.2.2.2.1 x.2.2.2.2.2.2.1 x.2.2.2.2.2.2.2.1 x.2.2.2.2.2.2.2.2.2.1 x.2.2.2.2.2.2.2.2.2.2.1) (fun z => (((), (z.1, z.2.1, z.2.2.1, ()), z.2.2.2.1, z.2.2.2.2.1, ()), ((), (), z.2.2.2.2.2.1, (), z.2.2.2.2.2.2.1, z.2.2.2.2.2.2.2.1, z.2.2.2.2.2.2.2.2, ()))) (fun y => (y.1.2.1.1, y.1.2.1.2.1, y.1.2.1.2.2.1, y.1.2.2.1, y.1.2.2.2.1, y.2.2.2.1, y.2.2.2.2.2.1, y.2.2.2.2.2.2.1, y.2.2.2.2.2.2.2.1)) (fun _ => rfl)
noncomputable def Z1R : Nat → Int → Int → List (Int × Int) → List Int → List Int → Int → List (Int × Int) → Int → Int → Option (Int × Int × List (Int × Int) × List Int × Int × List (Int × Int) × Int × Int)
 | 0, _, _, _, _, _, _, _, _, _ => none
 | k + 1, b1_0, b1_1, b1_2, o2, o3, v5, v26, v27, v28 =>
  if decide ((↑(List.length o3) : Int) > (0 : Int)) = true then if (0 : Int) < (↑(List.length o3) : Int) then if (1 : Int) ≤ (↑(List.length o3) : Int) then if (↑(List.length o3) : Int) ≤ (↑(List.length o3) : Int) then Option.bind (Zcd k (b1_0, b1_1, b1_2) (List.getD o3 (Int.toNat (0 : Int)) (0 : Int))) fun z2 => Option.bind (Z19 k b1_0 b1_1 b1_2 o2 (List.drop (Int.toNat (1 : Int)) o3) z2 v5 v26 v27 v28 (↑(List.length z2) : Int) (0 : Int)) fun z4 => Z1R k z4.1 z4.2.1 z4.2.2.1 z4.2.2.2.1 z4.2.2.2.2.1 z4.2.2.2.2.2.1 z4.2.2.2.2.2.2.1 z4.2.2.2.2.2.2.2.1 z4.2.2.2.2.2.2.2.2 else none else none else none else some (b1_0, b1_1, b1_2, o2, v5, v26, v27, v28)
noncomputable def Z9O : Spec := Spec.mk [OSh.ro, OSh.box (26 : Nat) [Sh.int .i64, Sh.int .i64, Sh.snap (0 : Nat) (Ty.pair (Ty.int .i64) (Ty.int .i64))], OSh.row true (3 : Nat) (Ty.int .i64), OSh.row true (3 : Nat) (Ty.int .i64)] [((1 : Nat), TSh.at (Sh.ptr (1 : Nat) (0 : Nat))), ((3 : Nat), TSh.at (Sh.sl (2 : Nat))), ((5 : Nat), TSh.at (Sh.int .i64)), ((8 : Nat), TSh.at (Sh.sl (3 : Nat))), ((26 : Nat), TSh.at (Sh.snap (0 : Nat) (Ty.pair (Ty.int .i64) (Ty.int .i64)))), ((27 : Nat), TSh.at (Sh.int .i64)), ((28 : Nat), TSh.at (Sh.int .i64))]
noncomputable def Znu : Spec := Spec.mk [OSh.ro, OSh.box (26 : Nat) [Sh.int .i64, Sh.int .i64, Sh.snap (0 : Nat) (Ty.pair (Ty.int .i64) (Ty.int .i64))], OSh.row true (3 : Nat) (Ty.int .i64)] [((1 : Nat), TSh.at (Sh.ptr (1 : Nat) (0 : Nat))), ((3 : Nat), TSh.at (Sh.sl (2 : Nat))), ((5 : Nat), TSh.at (Sh.int .i64)), ((26 : Nat), TSh.at (Sh.snap (0 : Nat) (Ty.pair (Ty.int .i64) (Ty.int .i64)))), ((27 : Nat), TSh.at (Sh.int .i64)), ((28 : Nat), TSh.at (Sh.int .i64))]
noncomputable def Z2o : LoopDef (Tup Z14 × OutD) := .plain Z9O Znu (Int × Int × List (Int × Int) × List Int × Int × List (Int × Int) × Int × Int) (fun k x => Z1R k x.1.2.1.1 x.1.2.1.2.1 x.1.2.1.2.2.1 x.1.2.2.1 x.1.2.2.2.1 x.2.2.2.1 x.2.2.2.2.2.1 x.2.2.2.2.2.2.1 x.2.2.2.2.2.2.2.1) (fun z => (((), (z.1, z.2.1, z.2.2.1, ()), z.2.2.2.1, ()), ((), (), z.2.2.2.2.1, z.2.2.2.2.2.1, z.2.2.2.2.2.2.1, z.2.2.2.2.2.2.2, ()))) (fun y => (y.1.2.1.1, y.1.2.1.2.1, y.1.2.1.2.2.1, y.1.2.2.1, y.2.2.2.1, y.2.2.2.2.1, y.2.2.2.2.2.1, y.2.2.2.2.2.2.1)) (fun _ => rfl)
noncomputable def ZQ : Nat → Int → Int → List (Int × Int) → List Int → Int → List (Int × Int) → Int → Int → Option (List Int)
 | 0, _, _, _, _, _, _, _, _ => none
 | k + 1, b1_0, b1_1, b1_2, o2, v5, v26, v27, v28 =>
  if decide (v28 < v27) = true then if (0 : Int) ≤ v28 then if v28 < (↑(List.length v26) : Int) then Option.bind (Z9i k (Prod.fst (List.getD v26 (Int.toNat v28) ((0 : Int), (0 : Int))), Prod.snd (List.getD v26 (Int.toNat v28) ((0 : Int), (0 : Int))))) fun z1 => if (!z1) = true then ZQ k b1_0 b1_1 b1_2 o2 v5 v26 v27 (wrap64 (v28 + (1 : Int))) else if (0 : Int) ≤ v28 then if v28 < (↑(List.length o2) : Int) then if decide (List.getD o2 (Int.toNat v28) (0 : Int) ≥ (0 : Int)) = true then ZQ k b1_0 b1_1 b1_2 o2 v5 v26 v27 (wrap64 (v28 + (1 : Int))) else if (0 : Int) ≤ v28 then if v28 < (↑(List.length o2) : Int) then Option.bind (Z1R k b1_0 b1_1 b1_2 (List.set o2 (Int.toNat v28) v5) [v28] v5 v26 v27 v28) fun z5 => ZQ k z5.1 z5.2.1 z5.2.2.1 z5.2.2.2.1 (wrap64 (Prod.fst z5.2.2.2.2 + (1 : Int))) z5.2.2.2.2.2.1 z5.2.2.2.2.2.2.1 (wrap64 (Prod.snd z5.2.2.2.2.2.2 + (1 : Int))) else none else none else none else none else none else none else some o2
noncomputable def Z9U : Spec := Spec.mk [OSh.ro, OSh.box (26 : Nat) [Sh.int .i64, Sh.int .i64, Sh.snap (0 : Nat) (Ty.pair (Ty.int .i64) (Ty.int .i64))], OSh.row true (3 : Nat) (Ty.int .i64)] [((1 : Nat), TSh.at (Sh.ptr (1 : Nat) (0 : Nat))), ((3 : Nat), TSh.at (Sh.sl (2 : Nat))), ((5 : Nat), TSh.at (Sh.int .i64)), ((26 : Nat), TSh.at (Sh.snap (0 : Nat) (Ty.pair (Ty.int .i64) (Ty.int .i64)))), ((27 : Nat), TSh.at (Sh.int .i64)), ((28 : Nat), TSh.at (Sh.int .i64))]
noncomputable def ZlU : Spec := Spec.mk [OSh.ro, OSh.row true (3 : Nat) (Ty.int .i64)] [((3 : Nat), TSh.at (Sh.sl (1 : Nat)))]
noncomputable def Z2s : LoopDef (Tup Z14 × OutD) := .plain Z9U ZlU (List Int) (fun k x => ZQ k x.1.2.1.1 x.1.2.1.2.1 x.1.2.1.2.2.1 x.1.2.2.1 x.2.2.2.1 x.2.2.2.2.1 x.2.2.2.2.2.1 x.2.2.2.2.2.2.1) (fun z => (((), z, ()), ((), ()))) (fun y => (y.1.2.1)) (fun _ => rfl)
noncomputable def Z2R : Nat → Int × Int × List (Int × Int) → Option (List Int)
 | 0, _ => none
 | k + 1, p0 =>
  if Int.toNat (↑(List.length p0.2.2) : Int) * (8 : Nat) ≤ (281474976710656 : Nat) then Option.bind (Z32 k p0.1 p0.2.1 p0.2.2 (List.replicate (Int.toNat (↑(List.length p0.2.2) : Int)) (0 : Int)) (↑(List.length (List.replicate (Int.toNat (↑(List.length p0.2.2) : Int)) (0 : Int))) : Int) (0 : Int)) fun z0 => Option.bind (ZQ k z0.1 z0.2.1 z0.2.2.1 z0.2.2.2 (0 : Int) z0.2.2.1 (↑(List.length z0.2.2.1) : Int) (0 : Int)) fun z6 => some z6 else none
noncomputable def ZE : FnDef := .of ZgG Z14 (List Int) (fun k x => Z2R k x.1) ZfP Zg8 Zl9
noncomputable def Z2V : Code := Try.f56.body.getD .skip
noncomputable def Zf : Ctx (Tup Z14 × OutD) := { T := T, G := [(89, Z3U.E), (90, Z3X.E)], mvs := [56], no := 0, n := 91, res := resOf T ZgG Z14 Try.f56.results.toList, loops := [(0, Z2v.E), (6, Z2D.E), (4, Z2o.E), (2, Z2s.E)], regs := [], conds := [], cuts := [] }
theorem Z5N (k : Nat) : EnvOK Try.prog k Zf.G := (EnvOK.cons (Zyb k) (EnvOK.cons (Zza k) (EnvOK.nil mixed)))
noncomputable def Z6D : Code := (findLoop 0 Z2V).getD .skip
theorem ZmY (k : Nat) (x : Z9T.D) : Z2v.lp (k + 1) x = loopK Zf Z2v 0 Z6D k x := by kernel_rfl
theorem Zn1 (k : Nat) : LOK Try.prog Zf k Z6D := LOK.by [] (by kernel_rfl) AllOK.nil
theorem ZmC (x : Z9T.D) : Z2v.lp 0 x = none := by kernel_rfl
theorem Zkz (k : Nat) : EOK Try.prog Zf k Z2v.E (.block 0 (.loop Z6D)) := Z5 T_ok Z5N ZmC ZmY Zn1 k
noncomputable def Z6n : Code := (findLoop 6 Z2V).getD .skip
theorem Zn6 (k : Nat) (x : Z9F.D) : Z2D.lp (k + 1) x = loopK Zf Z2D 6 Z6n k x := by kernel_rfl
theorem ZmP (k : Nat) : LOK Try.prog Zf k Z6n := LOK.by [] (by kernel_rfl) AllOK.nil
theorem Zn8 (x : Z9F.D) : Z2D.lp 0 x = none := by kernel_rfl
theorem ZkT (k : Nat) : EOK Try.prog Zf k Z2D.E (.block 6 (.loop Z6n)) := Z5 T_ok Z5N Zn8 Zn6 ZmP k
noncomputable def Z6z : Code := (findLoop 4 Z2V).getD .skip
theorem ZmW (k : Nat) (x : Z9O.D) : Z2o.lp (k + 1) x = loopK Zf Z2o 4 Z6z k x := by kernel_rfl
theorem Zmc (k : Nat) : LOK Try.prog Zf k Z6z := LOK.by [(Z2D.E, .block 6 (.loop Z6n))] (by kernel_rfl) (AllOK.cons (ZkT k) AllOK.nil)
theorem ZmG (x : Z9O.D) : Z2o.lp 0 x = none := by kernel_rfl
theorem Zkx (k : Nat) : EOK Try.prog Zf k Z2o.E (.block 4 (.loop Z6z)) := Z5 T_ok Z5N ZmG ZmW Zmc k
noncomputable def Z6l : Code := (findLoop 2 Z2V).getD .skip
theorem Znv (k : Nat) (x : Z9U.D) : Z2s.lp (k + 1) x = loopK Zf Z2s 2 Z6l k x := by kernel_rfl
theorem Zma (k : Nat) : LOK Try.prog Zf k Z6l := LOK.by [(Z2o.E, .block 4 (.loop Z6z))] (by kernel_rfl) (AllOK.cons (Zkx k) AllOK.nil)
theorem ZmK (x : Z9U.D) : Z2s.lp 0 x = none := by kernel_rfl
theorem ZkH (k : Nat) : EOK Try.prog Zf k Z2s.E (.block 2 (.loop Z6l)) := Z5 T_ok Z5N ZmK Znv Zma k
theorem Zrz (k : Nat) (x : Tup ZE.ps) : ZE.f (k + 1) x = fnK ZE Zf Z2V k x := by kernel_rfl
theorem Zr5 (x : Tup ZE.ps) : ZE.f 0 x = none := by kernel_rfl
theorem Zrn (k : Nat) : LOK Try.prog Zf k Z2V := LOK.by [(Z2v.E, .block 0 (.loop Z6D)), (Z2s.E, .block 2 (.loop Z6l))] (by kernel_rfl) (AllOK.cons (Zkz k) (AllOK.cons (ZkH k) AllOK.nil))
theorem Z8I (k : Nat) : SoundAt Try.prog k 56 ZE.E := @Z1 Try.prog ZE Zf 56 Try.f56 Z2V (by kernel_rfl) (by kernel_rfl) (by kernel_rfl) Try.func56 (by kernel_rfl) (by kernel_rfl) (by kernel_rfl) T_ok Z5N Zrn Zr5 Zrz k
noncomputable def Z7R : List PK := [PK.mk (Ty.int .i64) false none false none]
noncomputable def Ziv : List PK := [PK.mk (Ty.pair (Ty.slice (5 : Nat) (Ty.int .u8)) (Ty.pair (Ty.int .i64) (Ty.int .u64))) false none false (some (58 : Nat)), PK.mk (Ty.int .i64) false none false none]
noncomputable def ZhD (r : Int × Int × Int) : Tup Z7R × OutD := ((r.1, ()), some ⟨Ty.pair (Ty.slice (5 : Nat) (Ty.int .u8)) (Ty.pair (Ty.int .i64) (Ty.int .u64)), [([], r.2)]⟩)
noncomputable def Zco : Tup Z7R × OutD → Option (Int × Int × Int)
 | (a, some ⟨u, ys⟩) => if h : u = Ty.pair (Ty.slice (5 : Nat) (Ty.int .u8)) (Ty.pair (Ty.int .i64) (Ty.int .u64)) then (match castU h ys with
  | [([], y)] => some (a.1, y)
  | _ => none) else none
 | _ => none
theorem ZoN : ∀ b r, Zco b = some r → ZhD r = b := by
 rintro ⟨a, o⟩ r h
 cases o with
 | none => cases h
 | some s =>
  obtain ⟨u, ys⟩ := s
  simp only [Zco] at h
  split at h
  ·rename_i hu
   subst hu
   match ys, h with
   | [], h => cases (show (none : Option _) = some r from h)
   | [([], y)], h => injection (show some _ = some r from h) with h; subst h; rfl
   | [(_ :: _, y)], h => cases (show (none : Option _) = some r from h)
   | (h1, _) :: _ :: _, h => cases h1 <;> cases (show (none : Option _) = some r from h)
  ·cases h
noncomputable def Z0 : Nat → List Int × Int × Int → Int → Option (Int × Int × Int)
 | 0, _, _ => none
 | k + 1, p0, p1 =>
  if decide (p1 ≤ (1 : Int)) = true then some ((0 : Int), Prod.fst p0.2, Prod.snd p0.2) else Option.bind (Z5l k (Prod.fst p0, Prod.fst p0.2, Prod.snd p0.2)) fun z0 => if decide (p1 > (200 : Int)) = true then Option.bind (Z5l k (Prod.fst p0, Prod.fst z0.2, Prod.snd z0.2)) fun z1 => if p1 = (0 : Int) then none else some (Int.tmod (wrap64 (wrap64 (Prod.fst z0 * (256 : Int)) + Prod.fst z1)) p1, Prod.fst z1.2, Prod.snd z1.2) else if p1 = (0 : Int) then none else some (Int.tmod z0.1 p1, Prod.fst z0.2, Prod.snd z0.2)
noncomputable def Zd : FnDef := .of Ziv Z7R (Int × Int × Int) (fun k x => Z0 k x.1 x.2.1) ZhD Zco ZoN
noncomputable def Zdz : Code := Try.f57.body.getD .skip
noncomputable def Zae : Ctx (Tup Z7R × OutD) := { T := T, G := [(91, Z2L.E)], mvs := [], no := 2, n := 20, res := resOf T Ziv Z7R Try.f57.results.toList, loops := [], regs := [], conds := [], cuts := [] }
theorem Zvs (k : Nat) : EnvOK Try.prog k Zae.G := (EnvOK.cons (Zvf k) (EnvOK.nil mixed))
theorem Zvt (k : Nat) (x : Tup Zd.ps) : Zd.f (k + 1) x = fnK Zd Zae Zdz k x := by kernel_rfl
theorem ZvM (x : Tup Zd.ps) : Zd.f 0 x = none := by kernel_rfl
theorem ZvL (k : Nat) : LOK Try.prog Zae k Zdz := LOK.by [] (by kernel_rfl) AllOK.nil
theorem ZH (k : Nat) : SoundAt Try.prog k 57 Zd.E := @Z1 Try.prog Zd Zae 57 Try.f57 Zdz (by kernel_rfl) (by kernel_rfl) (by kernel_rfl) Try.func57 (by kernel_rfl) (by kernel_rfl) (by kernel_rfl) T_ok Zvs ZvL ZvM Zvt k
noncomputable def ZaE : List PK := [PK.mk Ty.bool false none false none]
noncomputable def ZsF : List PK := [PK.mk (Ty.slice (3 : Nat) (Ty.int .i64)) false none false none, PK.mk (Ty.int .i64) false none false none, PK.mk (Ty.int .i64) false none false none]
noncomputable def Zi9 (r : Bool) : Tup ZaE × OutD := ((r, ()), none)
noncomputable def Zid : Tup ZaE × OutD → Option (Bool)
 | (a, none) => some (a.1)
 | _ => none
theorem ZjZ : ∀ b r, Zid b = some r → Zi9 r = b := by
 rintro ⟨a, o⟩ r h
 cases o with
 | none => injection h with h; subst h; rfl
 | some _ => cases h
noncomputable def Z8g : Nat → Int → Int → List Int → Int → Int → Option (LR Unit Bool)
 | 0, _, _, _, _, _ => none
 | k + 1, v1, v2, v9, v10, v11 =>
  if decide (v11 < v10) = true then if (0 : Int) ≤ v11 then if v11 < (↑(List.length v9) : Int) then Option.bind (Z4V k (List.getD v9 (Int.toNat v11) (0 : Int)) v1 v2) fun z0 => if (!z0) = true then some (LR.ret false) else Z8g k v1 v2 v9 v10 (wrap64 (v11 + (1 : Int))) else none else none else some (LR.go ())
noncomputable def Zg5 : Spec := Spec.mk [OSh.ro] [((1 : Nat), TSh.at (Sh.int .i64)), ((2 : Nat), TSh.at (Sh.int .i64)), ((9 : Nat), TSh.at (Sh.snap (0 : Nat) (Ty.int .i64))), ((10 : Nat), TSh.at (Sh.int .i64)), ((11 : Nat), TSh.at (Sh.int .i64))]
noncomputable def ZyW : Spec := Spec.mk [OSh.ro] []
noncomputable def Z72 : LoopDef (Tup ZaE × OutD) := .rets Zg5 ZyW (Unit) (Bool) (fun k x => Z8g k x.2.1 x.2.2.1 x.2.2.2.1 x.2.2.2.2.1 x.2.2.2.2.2.1) (fun z => (((), ()), (()))) (fun y => ()) (fun _ => rfl) Zi9 Zid ZjZ
noncomputable def ZcN : Nat → List Int → Int → Int → Option Bool
 | 0, _, _, _ => none
 | k + 1, p0, p1, p2 =>
  Option.bind (Z8g k p1 p2 p0 (↑(List.length p0) : Int) (0 : Int)) fun z1 => LR.on z1 (fun y1 => some true) fun r1 => some r1
noncomputable def Z54 : FnDef := .of ZsF ZaE (Bool) (fun k x => ZcN k x.1 x.2.1 x.2.2.1) Zi9 Zid ZjZ
noncomputable def ZfS : Code := Try.f64.body.getD .skip
noncomputable def Z8r : Ctx (Tup ZaE × OutD) := { T := T, G := [(94, Z3x.E)], mvs := [], no := 0, n := 21, res := resOf T ZsF ZaE Try.f64.results.toList, loops := [(0, Z72.E)], regs := [], conds := [], cuts := [] }
theorem Zuc (k : Nat) : EnvOK Try.prog k Z8r.G := (EnvOK.cons (ZdX k) (EnvOK.nil mixed))
noncomputable def Zc1 : Code := (findLoop 0 ZfS).getD .skip
theorem ZyR (k : Nat) (x : Zg5.D) : Z72.lp (k + 1) x = loopK Z8r Z72 0 Zc1 k x := by kernel_rfl
theorem Zzb (k : Nat) : LOK Try.prog Z8r k Zc1 := LOK.by [] (by kernel_rfl) AllOK.nil
theorem Zyo (x : Zg5.D) : Z72.lp 0 x = none := by kernel_rfl
theorem ZxT (k : Nat) : EOK Try.prog Z8r k Z72.E (.block 0 (.loop Zc1)) := Z5 T_ok Zuc Zyo ZyR Zzb k
theorem ZCC (k : Nat) (x : Tup Z54.ps) : Z54.f (k + 1) x = fnK Z54 Z8r ZfS k x := by kernel_rfl
theorem ZCd (x : Tup Z54.ps) : Z54.f 0 x = none := by kernel_rfl
theorem ZCn (k : Nat) : LOK Try.prog Z8r k ZfS := LOK.by [(Z72.E, .block 0 (.loop Zc1))] (by kernel_rfl) (AllOK.cons (ZxT k) AllOK.nil)
theorem ZsH (k : Nat) : SoundAt Try.prog k 64 Z54.E := @Z1 Try.prog Z54 Z8r 64 Try.f64 ZfS (by kernel_rfl) (by kernel_rfl) (by kernel_rfl) Try.func64 (by kernel_rfl) (by kernel_rfl) (by kernel_rfl) T_ok Zuc ZCn ZCd ZCC k
noncomputable def Z5o : List PK := [PK.mk Ty.bool false none false none]
noncomputable def ZiJ : List PK := [PK.mk (Ty.slice (71 : Nat) (Ty.pair (Ty.int .i64) (Ty.int .i64))) false none false none]
noncomputable def Zcw (r : Bool) : Tup Z5o × OutD := ((r, ()), none)
noncomputable def ZcV : Tup Z5o × OutD → Option (Bool)
 | (a, none) => some (a.1)
 | _ => none
theorem ZeX : ∀ b r, ZcV b = some r → Zcw r = b := by
 rintro ⟨a, o⟩ r h
 cases o with
 | none => injection h with h; subst h; rfl
 | some _ => cases h
noncomputable def Z48 : Nat → List (Int × Int) → Int → Int → Option (LR Unit Bool)
 | 0, _, _, _ => none
 | k + 1, v8, v9, v10 =>
  if decide (v10 < v9) = true then if (0 : Int) ≤ v10 then if v10 < (↑(List.length v8) : Int) then Option.bind (ZbH k (Prod.fst (List.getD v8 (Int.toNat v10) ((0 : Int), (0 : Int))), Prod.snd (List.getD v8 (Int.toNat v10) ((0 : Int), (0 : Int))))) fun z0 => if (!z0) = true then some (LR.ret false) else Z48 k v8 v9 (wrap64 (v10 + (1 : Int))) else none else none else some (LR.go ())
noncomputable def ZaY : Spec := Spec.mk [OSh.ro] [((8 : Nat), TSh.at (Sh.snap (0 : Nat) (Ty.pair (Ty.int .i64) (Ty.int .i64)))), ((9 : Nat), TSh.at (Sh.int .i64)), ((10 : Nat), TSh.at (Sh.int .i64))]
noncomputable def ZpU : Spec := Spec.mk [OSh.ro] []
noncomputable def Z3K : LoopDef (Tup Z5o × OutD) := .rets ZaY ZpU (Unit) (Bool) (fun k x => Z48 k x.2.1 x.2.2.1 x.2.2.2.1) (fun z => (((), ()), (()))) (fun y => ()) (fun _ => rfl) Zcw ZcV ZeX
noncomputable def Za5 : Nat → List (Int × Int) → Option Bool
 | 0, _ => none
 | k + 1, p0 =>
  if decide ((↑(List.length p0) : Int) > (90 : Int)) = true then some false else Option.bind (Z48 k p0 (↑(List.length p0) : Int) (0 : Int)) fun z1 => LR.on z1 (fun y1 => some true) fun r1 => some r1
noncomputable def Z2H : FnDef := .of ZiJ Z5o (Bool) (fun k x => Za5 k x.1) Zcw ZcV ZeX
noncomputable def Za6 : Code := Try.f85.body.getD .skip
noncomputable def Z3P : Ctx (Tup Z5o × OutD) := { T := T, G := [(102, Z4i.E)], mvs := [], no := 0, n := 18, res := resOf T ZiJ Z5o Try.f85.results.toList, loops := [(0, Z3K.E)], regs := [], conds := [], cuts := [] }
theorem ZiG (k : Nat) : EnvOK Try.prog k Z3P.G := (EnvOK.cons (Zqd k) (EnvOK.nil mixed))
noncomputable def Z7T : Code := (findLoop 0 Za6).getD .skip
theorem Zps (k : Nat) (x : ZaY.D) : Z3K.lp (k + 1) x = loopK Z3P Z3K 0 Z7T k x := by kernel_rfl
theorem Zpi (k : Nat) : LOK Try.prog Z3P k Z7T := LOK.by [] (by kernel_rfl) AllOK.nil
theorem Zpf (x : ZaY.D) : Z3K.lp 0 x = none := by kernel_rfl
theorem ZnN (k : Nat) : EOK Try.prog Z3P k Z3K.E (.block 0 (.loop Z7T)) := Z5 T_ok ZiG Zpf Zps Zpi k
theorem Zvw (k : Nat) (x : Tup Z2H.ps) : Z2H.f (k + 1) x = fnK Z2H Z3P Za6 k x := by kernel_rfl
theorem Zv6 (x : Tup Z2H.ps) : Z2H.f 0 x = none := by kernel_rfl
theorem ZvF (k : Nat) : LOK Try.prog Z3P k Za6 := LOK.by [(Z3K.E, .block 0 (.loop Z7T))] (by kernel_rfl) (AllOK.cons (ZnN k) AllOK.nil)
theorem ZvD (k : Nat) : SoundAt Try.prog k 85 Z2H.E := @Z1 Try.prog Z2H Z3P 85 Try.f85 Za6 (by kernel_rfl) (by kernel_rfl) (by kernel_rfl) Try.func85 (by kernel_rfl) (by kernel_rfl) (by kernel_rfl) T_ok ZiG ZvF Zv6 Zvw k
noncomputable def ZbI : List PK := [PK.mk (Ty.int .i64) false none false none, PK.mk Ty.bool false none false none]
noncomputable def Zq4 : List PK := [PK.mk (Ty.pair (Ty.int .i64) (Ty.int .i64)) true none false none, PK.mk (Ty.int .i64) false none false none]
noncomputable def ZoJ (r : Int × Bool) : Tup ZbI × OutD := ((r.1, r.2, ()), none)
noncomputable def ZoG : Tup ZbI × OutD → Option (Int × Bool)
 | (a, none) => some (a.1, a.2.1)
 | _ => none
theorem Zuq : ∀ b r, ZoG b = some r → ZoJ r = b := by
 rintro ⟨a, o⟩ r h
 cases o with
 | none => injection h with h; subst h; rfl
 | some _ => cases h
noncomputable def Zel : Nat → Int × Int → Int → Option (Int × Bool)
 | 0, _, _ => none
 | k + 1, p0, p1 =>
  Option.bind (ZbH k (Prod.fst p0, Prod.snd p0)) fun z0 => if (!z0) = true then some ((0 : Int), false) else if decide (p1 < (-1 : Int)) = true then some ((0 : Int), false) else if decide (p1 > (1 : Int)) = true then some ((0 : Int), false) else if decide (Prod.fst p0 = (5 : Int)) = true then some ((0 : Int), false) else if decide (Prod.fst p0 = (1 : Int)) = true then some ((-1 : Int), true) else if decide (Prod.fst p0 = (2 : Int)) = true then some ((1 : Int), true) else if decide (Prod.fst p0 = (3 : Int)) = true then some (wrap64 (wrap64 ((2 : Int) * Prod.snd p0) - (1 : Int)), true) else if decide (Prod.fst p0 = (6 : Int)) = true then some (wrap64 (wrap64 ((2 : Int) * Prod.snd p0) - (1 : Int)), true) else if decide (Prod.fst p0 = (4 : Int)) = true then some (wrap64 ((0 : Int) - p1), true) else some ((0 : Int), true)
noncomputable def Z5z : FnDef := .of Zq4 ZbI (Int × Bool) (fun k x => Zel k x.1 x.2.1) ZoJ ZoG Zuq
noncomputable def Zin : Code := Try.f87.body.getD .skip
noncomputable def Zed : Ctx (Tup ZbI × OutD) := { T := T, G := [(102, Z4i.E)], mvs := [], no := 0, n := 39, res := resOf T Zq4 ZbI Try.f87.results.toList, loops := [], regs := [], conds := [], cuts := [] }
theorem ZBO (k : Nat) : EnvOK Try.prog k Zed.G := (EnvOK.cons (Zqd k) (EnvOK.nil mixed))
theorem ZAK (k : Nat) (x : Tup Z5z.ps) : Z5z.f (k + 1) x = fnK Z5z Zed Zin k x := by kernel_rfl
theorem ZBo (x : Tup Z5z.ps) : Z5z.f 0 x = none := by kernel_rfl
theorem ZBK (k : Nat) : LOK Try.prog Zed k Zin := LOK.by [] (by kernel_rfl) AllOK.nil
theorem ZAP (k : Nat) : SoundAt Try.prog k 87 Z5z.E := @Z1 Try.prog Z5z Zed 87 Try.f87 Zin (by kernel_rfl) (by kernel_rfl) (by kernel_rfl) Try.func87 (by kernel_rfl) (by kernel_rfl) (by kernel_rfl) T_ok ZBO ZBK ZBo ZAK k
noncomputable def Z2Y : List PK := [PK.mk (Ty.slice (3 : Nat) (Ty.int .i64)) false none false none]
noncomputable def Zlz : List PK := [PK.mk (Ty.pair (Ty.int .i64) (Ty.pair (Ty.int .i64) (Ty.slice (71 : Nat) (Ty.pair (Ty.int .i64) (Ty.int .i64))))) true none false none]
noncomputable def ZjH (r : List Int) : Tup Z2Y × OutD := ((r, ()), none)
noncomputable def ZjB : Tup Z2Y × OutD → Option (List Int)
 | (a, none) => some (a.1)
 | _ => none
theorem Zre : ∀ b r, ZjB b = some r → ZjH r = b := by
 rintro ⟨a, o⟩ r h
 cases o with
 | none => injection h with h; subst h; rfl
 | some _ => cases h
noncomputable def Z5s : Nat → Int → Int → List (Int × Int) → List Int → Int → Int → Option (Int × Int × List (Int × Int) × List Int)
 | 0, _, _, _, _, _, _ => none
 | k + 1, b1_0, b1_1, b1_2, o2, v17, v18 =>
  if decide (v18 < v17) = true then if (0 : Int) ≤ v18 then if v18 < (↑(List.length o2) : Int) then Z5s k b1_0 b1_1 b1_2 (List.set o2 (Int.toNat v18) (-1 : Int)) v17 (wrap64 (v18 + (1 : Int))) else none else none else some (b1_0, b1_1, b1_2, o2)
noncomputable def ZcB : Spec := Spec.mk [OSh.ro, OSh.box (26 : Nat) [Sh.int .i64, Sh.int .i64, Sh.snap (0 : Nat) (Ty.pair (Ty.int .i64) (Ty.int .i64))], OSh.row true (3 : Nat) (Ty.int .i64)] [((1 : Nat), TSh.at (Sh.ptr (1 : Nat) (0 : Nat))), ((3 : Nat), TSh.at (Sh.sl (2 : Nat))), ((17 : Nat), TSh.at (Sh.int .i64)), ((18 : Nat), TSh.at (Sh.int .i64))]
noncomputable def Zt8 : Spec := Spec.mk [OSh.ro, OSh.box (26 : Nat) [Sh.int .i64, Sh.int .i64, Sh.snap (0 : Nat) (Ty.pair (Ty.int .i64) (Ty.int .i64))], OSh.row true (3 : Nat) (Ty.int .i64)] [((1 : Nat), TSh.at (Sh.ptr (1 : Nat) (0 : Nat))), ((3 : Nat), TSh.at (Sh.sl (2 : Nat)))]
noncomputable def Z4L : LoopDef (Tup Z2Y × OutD) := .plain ZcB Zt8 (Int × Int × List (Int × Int) × List Int) (fun k x => Z5s k x.1.2.1.1 x.1.2.1.2.1 x.1.2.1.2.2.1 x.1.2.2.1 x.2.2.2.1 x.2.2.2.2.1) (fun z => (((), (z.1, z.2.1, z.2.2.1, ()), z.2.2.2, ()), ((), (), ()))) (fun y => (y.1.2.1.1, y.1.2.1.2.1, y.1.2.1.2.2.1, y.1.2.2.1)) (fun _ => rfl)
noncomputable def Z2J : Nat → Int → Int → List (Int × Int) → List Int → List Int → List Int → Int → Int → List (Int × Int) → Int → Int → Int → Int → Option (Int × Int × List (Int × Int) × List Int × List Int × Int × Int × List (Int × Int) × Int × Int)
 | 0, _, _, _, _, _, _, _, _, _, _, _, _, _ => none
 | k + 1, b1_0, b1_1, b1_2, o2, o3, o4, v5, v9, v26, v27, v28, v61, v62 =>
  if decide (v62 < v61) = true then if (0 : Int) ≤ v62 then if v62 < (↑(List.length o4) : Int) then if (0 : Int) ≤ List.getD o4 (Int.toNat v62) (0 : Int) then if List.getD o4 (Int.toNat v62) (0 : Int) < (↑(List.length b1_2) : Int) then Option.bind (ZbF k (Prod.fst (List.getD b1_2 (Int.toNat (List.getD o4 (Int.toNat v62) (0 : Int))) ((0 : Int), (0 : Int))), Prod.snd (List.getD b1_2 (Int.toNat (List.getD o4 (Int.toNat v62) (0 : Int))) ((0 : Int), (0 : Int))))) fun z3 => if z3 = true then if (0 : Int) ≤ List.getD o4 (Int.toNat v62) (0 : Int) then if List.getD o4 (Int.toNat v62) (0 : Int) < (↑(List.length o2) : Int) then if decide (List.getD o2 (Int.toNat (List.getD o4 (Int.toNat v62) (0 : Int))) (0 : Int) < (0 : Int)) = true then if (0 : Int) ≤ List.getD o4 (Int.toNat v62) (0 : Int) then if List.getD o4 (Int.toNat v62) (0 : Int) < (↑(List.length o2) : Int) then if List.length o3 + List.length [List.getD o4 (Int.toNat v62) (0 : Int)] ≤ (140737488355328 / 8 : Nat) then Z2J k b1_0 b1_1 b1_2 (List.set o2 (Int.toNat (List.getD o4 (Int.toNat v62) (0 : Int))) v5) (o3 ++ [List.getD o4 (Int.toNat v62) (0 : Int)]) o4 v5 v9 v26 v27 v28 v61 (wrap64 (v62 + (1 : Int))) else none else none else none else Z2J k b1_0 b1_1 b1_2 o2 o3 o4 v5 v9 v26 v27 v28 v61 (wrap64 (v62 + (1 : Int))) else none else none else Z2J k b1_0 b1_1 b1_2 o2 o3 o4 v5 v9 v26 v27 v28 v61 (wrap64 (v62 + (1 : Int))) else none else none else none else none else some (b1_0, b1_1, b1_2, o2, o3, v5, v9, v26, v27, v28)
noncomputable def Zcz : Spec := Spec.mk [OSh.ro, OSh.box (26 : Nat) [Sh.int .i64, Sh.int .i64, Sh.snap (0 : Nat) (Ty.pair (Ty.int .i64) (Ty.int .i64))], OSh.row true (3 : Nat) (Ty.int .i64), OSh.row true (3 : Nat) (Ty.int .i64), OSh.row true (3 : Nat) (Ty.int .i64)] [((1 : Nat), TSh.at (Sh.ptr (1 : Nat) (0 : Nat))), ((3 : Nat), TSh.at (Sh.sl (2 : Nat))), ((5 : Nat), TSh.at (Sh.int .i64)), ((8 : Nat), TSh.at (Sh.sl (3 : Nat))), ((9 : Nat), TSh.at (Sh.int .i64)), ((26 : Nat), TSh.at (Sh.snap (0 : Nat) (Ty.pair (Ty.int .i64) (Ty.int .i64)))), ((27 : Nat), TSh.at (Sh.int .i64)), ((28 : Nat), TSh.at (Sh.int .i64)), ((60 : Nat), TSh.at (Sh.sl (4 : Nat))), ((61 : Nat), TSh.at (Sh.int .i64)), ((62 : Nat), TSh.at (Sh.int .i64))]
noncomputable def Zsn : Spec := Spec.mk [OSh.ro, OSh.box (26 : Nat) [Sh.int .i64, Sh.int .i64, Sh.snap (0 : Nat) (Ty.pair (Ty.int .i64) (Ty.int .i64))], OSh.row true (3 : Nat) (Ty.int .i64), OSh.row true (3 : Nat) (Ty.int .i64)] [((1 : Nat), TSh.at (Sh.ptr (1 : Nat) (0 : Nat))), ((3 : Nat), TSh.at (Sh.sl (2 : Nat))), ((5 : Nat), TSh.at (Sh.int .i64)), ((8 : Nat), TSh.at (Sh.sl (3 : Nat))), ((9 : Nat), TSh.at (Sh.int .i64)), ((26 : Nat), TSh.at (Sh.snap (0 : Nat) (Ty.pair (Ty.int .i64) (Ty.int .i64)))), ((27 : Nat), TSh.at (Sh.int .i64)), ((28 : Nat), TSh.at (Sh.int .i64))]
noncomputable def Z4C : LoopDef (Tup Z2Y × OutD) := .plain Zcz Zsn (Int × Int × List (Int × Int) × List Int × List Int × Int × Int × List (Int × Int) × Int × Int) (fun k x => Z2J k x.1.2.1.1 x.1.2.1.2.1 x.1.2.1.2.2.1 x.1.2.2.1 x.1.2.2.2.1 x.1.2.2.2.2.1 x.2.2.2.1 x.2.2.2.2.2.1 x.2.2.2.2.2.2.1 x.2.2.2.2.2.2.2.1 x.2.2.2.2.2.2.2.2.1 x.2.2.2.2.2.2.2.2.2.2.1 x.2.2.2.2.2.2.2.2.2.2.2.1) (fun z => (((), (z.1, z.2.1, z.2.2.1, ()), z.2.2.2.1, z.2.2.2.2.1, ()), ((), (), z.2.2.2.2.2.1, (), z.2.2.2.2.2.2.1, z.2.2.2.2.2.2.2.1, z.2.2.2.2.2.2.2.2.1, z.2.2.2.2.2.2.2.2.2, ()))) (fun y => (y.1.2.1.1, y.1.2.1.2.1, y.1.2.1.2.2.1, y.1.2.2.1, y.1.2.2.2.1, y.2.2.2.1, y.2.2.2.2.2.1, y.2.2.2.2.2.2.1, y.2.2.2.2.2.2.2.1, y.2.2.2.2.2.2.2.2.1)) (fun _ => rfl)
noncomputable def Z3O : Nat → Int → Int → List (Int × Int) → List Int → List Int → Int → Int → List (Int × Int) → Int → Int → Option (Int × Int × List (Int × Int) × List Int × Int × List (Int × Int) × Int × Int)
 | 0, _, _, _, _, _, _, _, _, _, _ => none
 | k + 1, b1_0, b1_1, b1_2, o2, o3, v5, v9, v26, v27, v28 =>
  if decide (v9 < (↑(List.length o3) : Int)) = true then if (0 : Int) ≤ v9 then if v9 < (↑(List.length o3) : Int) then Option.bind (Zek k (b1_0, b1_1, b1_2) (List.getD o3 (Int.toNat v9) (0 : Int))) fun z2 => Option.bind (Z2J k b1_0 b1_1 b1_2 o2 o3 z2 v5 v9 v26 v27 v28 (↑(List.length z2) : Int) (0 : Int)) fun z4 => Z3O k z4.1 z4.2.1 z4.2.2.1 z4.2.2.2.1 z4.2.2.2.2.1 z4.2.2.2.2.2.1 (wrap64 (Prod.fst z4.2.2.2.2.2.2 + (1 : Int))) z4.2.2.2.2.2.2.2.1 z4.2.2.2.2.2.2.2.2.1 z4.2.2.2.2.2.2.2.2.2 else none else none else some (b1_0, b1_1, b1_2, o2, v5, v26, v27, v28)
noncomputable def ZcW : Spec := Spec.mk [OSh.ro, OSh.box (26 : Nat) [Sh.int .i64, Sh.int .i64, Sh.snap (0 : Nat) (Ty.pair (Ty.int .i64) (Ty.int .i64))], OSh.row true (3 : Nat) (Ty.int .i64), OSh.row true (3 : Nat) (Ty.int .i64)] [((1 : Nat), TSh.at (Sh.ptr (1 : Nat) (0 : Nat))), ((3 : Nat), TSh.at (Sh.sl (2 : Nat))), ((5 : Nat), TSh.at (Sh.int .i64)), ((8 : Nat), TSh.at (Sh.sl (3 : Nat))), ((9 : Nat), TSh.at (Sh.int .i64)), ((26 : Nat), TSh.at (Sh.snap (0 : Nat) (Ty.pair (Ty.int .i64) (Ty.int .i64)))), ((27 : Nat), TSh.at (Sh.int .i64)), ((28 : Nat), TSh.at (Sh.int .i64))]
noncomputable def Zs3 : Spec := Spec.mk [OSh.ro, OSh.box (26 : Nat) [Sh.int .i64, Sh.int .i64, Sh.snap (0 : Nat) (Ty.pair (Ty.int .i64) (Ty.int .i64))], OSh.row true (3 : Nat) (Ty.int .i64)] [((1 : Nat), TSh.at (Sh.ptr (1 : Nat) (0 : Nat))), ((3 : Nat), TSh.at (Sh.sl (2 : Nat))), ((5 : Nat), TSh.at (Sh.int .i64)), ((26 : Nat), TSh.at (Sh.snap (0 : Nat) (Ty.pair (Ty.int .i64) (Ty.int .i64)))), ((27 : Nat), TSh.at (Sh.int .i64)), ((28 : Nat), TSh.at (Sh.int .i64))]
noncomputable def Z4x : LoopDef (Tup Z2Y × OutD) := .plain ZcW Zs3 (Int × Int × List (Int × Int) × List Int × Int × List (Int × Int) × Int × Int) (fun k x => Z3O k x.1.2.1.1 x.1.2.1.2.1 x.1.2.1.2.2.1 x.1.2.2.1 x.1.2.2.2.1 x.2.2.2.1 x.2.2.2.2.2.1 x.2.2.2.2.2.2.1 x.2.2.2.2.2.2.2.1 x.2.2.2.2.2.2.2.2.1) (fun z => (((), (z.1, z.2.1, z.2.2.1, ()), z.2.2.2.1, ()), ((), (), z.2.2.2.2.1, z.2.2.2.2.2.1, z.2.2.2.2.2.2.1, z.2.2.2.2.2.2.2, ()))) (fun y => (y.1.2.1.1, y.1.2.1.2.1, y.1.2.1.2.2.1, y.1.2.2.1, y.2.2.2.1, y.2.2.2.2.1, y.2.2.2.2.2.1, y.2.2.2.2.2.2.1)) (fun _ => rfl)
noncomputable def Z1P : Nat → Int → Int → List (Int × Int) → List Int → Int → List (Int × Int) → Int → Int → Option (List Int)
 | 0, _, _, _, _, _, _, _, _ => none
 | k + 1, b1_0, b1_1, b1_2, o2, v5, v26, v27, v28 =>
  if decide (v28 < v27) = true then if (0 : Int) ≤ v28 then if v28 < (↑(List.length v26) : Int) then Option.bind (ZbF k (Prod.fst (List.getD v26 (Int.toNat v28) ((0 : Int), (0 : Int))), Prod.snd (List.getD v26 (Int.toNat v28) ((0 : Int), (0 : Int))))) fun z1 => if (!z1) = true then Z1P k b1_0 b1_1 b1_2 o2 v5 v26 v27 (wrap64 (v28 + (1 : Int))) else if (0 : Int) ≤ v28 then if v28 < (↑(List.length o2) : Int) then if decide (List.getD o2 (Int.toNat v28) (0 : Int) ≥ (0 : Int)) = true then Z1P k b1_0 b1_1 b1_2 o2 v5 v26 v27 (wrap64 (v28 + (1 : Int))) else if (0 : Int) ≤ v28 then if v28 < (↑(List.length o2) : Int) then Option.bind (Z3O k b1_0 b1_1 b1_2 (List.set o2 (Int.toNat v28) v5) [v28] v5 (0 : Int) v26 v27 v28) fun z5 => Z1P k z5.1 z5.2.1 z5.2.2.1 z5.2.2.2.1 (wrap64 (Prod.fst z5.2.2.2.2 + (1 : Int))) z5.2.2.2.2.2.1 z5.2.2.2.2.2.2.1 (wrap64 (Prod.snd z5.2.2.2.2.2.2 + (1 : Int))) else none else none else none else none else none else none else some o2
noncomputable def ZcU : Spec := Spec.mk [OSh.ro, OSh.box (26 : Nat) [Sh.int .i64, Sh.int .i64, Sh.snap (0 : Nat) (Ty.pair (Ty.int .i64) (Ty.int .i64))], OSh.row true (3 : Nat) (Ty.int .i64)] [((1 : Nat), TSh.at (Sh.ptr (1 : Nat) (0 : Nat))), ((3 : Nat), TSh.at (Sh.sl (2 : Nat))), ((5 : Nat), TSh.at (Sh.int .i64)), ((26 : Nat), TSh.at (Sh.snap (0 : Nat) (Ty.pair (Ty.int .i64) (Ty.int .i64)))), ((27 : Nat), TSh.at (Sh.int .i64)), ((28 : Nat), TSh.at (Sh.int .i64))]
noncomputable def Zs4 : Spec := Spec.mk [OSh.ro, OSh.row true (3 : Nat) (Ty.int .i64)] [((3 : Nat), TSh.at (Sh.sl (1 : Nat)))]
noncomputable def Z4u : LoopDef (Tup Z2Y × OutD) := .plain ZcU Zs4 (List Int) (fun k x => Z1P k x.1.2.1.1 x.1.2.1.2.1 x.1.2.1.2.2.1 x.1.2.2.1 x.2.2.2.1 x.2.2.2.2.1 x.2.2.2.2.2.1 x.2.2.2.2.2.2.1) (fun z => (((), z, ()), ((), ()))) (fun y => (y.1.2.1)) (fun _ => rfl)
noncomputable def ZF : Nat → Int × Int × List (Int × Int) → Option (List Int)
 | 0, _ => none
 | k + 1, p0 =>
  if Int.toNat (↑(List.length p0.2.2) : Int) * (8 : Nat) ≤ (281474976710656 : Nat) then Option.bind (Z5s k p0.1 p0.2.1 p0.2.2 (List.replicate (Int.toNat (↑(List.length p0.2.2) : Int)) (0 : Int)) (↑(List.length (List.replicate (Int.toNat (↑(List.length p0.2.2) : Int)) (0 : Int))) : Int) (0 : Int)) fun z0 => Option.bind (Z1P k z0.1 z0.2.1 z0.2.2.1 z0.2.2.2 (0 : Int) z0.2.2.1 (↑(List.length z0.2.2.1) : Int) (0 : Int)) fun z6 => some z6 else none
noncomputable def Z1Z : FnDef := .of Zlz Z2Y (List Int) (fun k x => ZF k x.1) ZjH ZjB Zre
noncomputable def Z4Z : Code := Try.f92.body.getD .skip
noncomputable def Zv : Ctx (Tup Z2Y × OutD) := { T := T, G := [(104, Z5y.E), (105, Z5w.E)], mvs := [], no := 0, n := 92, res := resOf T Zlz Z2Y Try.f92.results.toList, loops := [(0, Z4L.E), (6, Z4C.E), (4, Z4x.E), (2, Z4u.E)], regs := [], conds := [], cuts := [] }
theorem Z9e (k : Nat) : EnvOK Try.prog k Zv.G := (EnvOK.cons (ZAU k) (EnvOK.cons (ZAH k) (EnvOK.nil mixed)))
noncomputable def Z9o : Code := (findLoop 0 Z4Z).getD .skip
theorem Zts (k : Nat) (x : ZcB.D) : Z4L.lp (k + 1) x = loopK Zv Z4L 0 Z9o k x := by kernel_rfl
theorem Ztw (k : Nat) : LOK Try.prog Zv k Z9o := LOK.by [] (by kernel_rfl) AllOK.nil
theorem Ztj (x : ZcB.D) : Z4L.lp 0 x = none := by kernel_rfl
theorem Zrr (k : Nat) : EOK Try.prog Zv k Z4L.E (.block 0 (.loop Z9o)) := Z5 T_ok Z9e Ztj Zts Ztw k
noncomputable def Z9j : Code := (findLoop 6 Z4Z).getD .skip
theorem ZtQ (k : Nat) (x : Zcz.D) : Z4C.lp (k + 1) x = loopK Zv Z4C 6 Z9j k x := by kernel_rfl
theorem Zu4 (k : Nat) : LOK Try.prog Zv k Z9j := LOK.by [] (by kernel_rfl) AllOK.nil
theorem Zte (x : Zcz.D) : Z4C.lp 0 x = none := by kernel_rfl
theorem ZrQ (k : Nat) : EOK Try.prog Zv k Z4C.E (.block 6 (.loop Z9j)) := Z5 T_ok Z9e Zte ZtQ Zu4 k
noncomputable def Z9z : Code := (findLoop 4 Z4Z).getD .skip
theorem Zsz (k : Nat) (x : ZcW.D) : Z4x.lp (k + 1) x = loopK Zv Z4x 4 Z9z k x := by kernel_rfl
theorem Zu3 (k : Nat) : LOK Try.prog Zv k Z9z := LOK.by [(Z4C.E, .block 6 (.loop Z9j))] (by kernel_rfl) (AllOK.cons (ZrQ k) AllOK.nil)
theorem Zse (x : ZcW.D) : Z4x.lp 0 x = none := by kernel_rfl
theorem ZrE (k : Nat) : EOK Try.prog Zv k Z4x.E (.block 4 (.loop Z9z)) := Z5 T_ok Z9e Zse Zsz Zu3 k
noncomputable def Z9u : Code := (findLoop 2 Z4Z).getD .skip
theorem Zu0 (k : Nat) (x : ZcU.D) : Z4u.lp (k + 1) x = loopK Zv Z4u 2 Z9u k x := by kernel_rfl
theorem Ztl (k : Nat) : LOK Try.prog Zv k Z9u := LOK.by [(Z4x.E, .block 4 (.loop Z9z))] (by kernel_rfl) (AllOK.cons (ZrE k) AllOK.nil)
theorem ZtZ (x : ZcU.D) : Z4u.lp 0 x = none := by kernel_rfl
theorem Zrl (k : Nat) : EOK Try.prog Zv k Z4u.E (.block 2 (.loop Z9u)) := Z5 T_ok Z9e ZtZ Zu0 Ztl k
theorem Zz4 (k : Nat) (x : Tup Z1Z.ps) : Z1Z.f (k + 1) x = fnK Z1Z Zv Z4Z k x := by kernel_rfl
theorem ZxW (x : Tup Z1Z.ps) : Z1Z.f 0 x = none := by kernel_rfl
theorem ZyF (k : Nat) : LOK Try.prog Zv k Z4Z := LOK.by [(Z4L.E, .block 0 (.loop Z9o)), (Z4u.E, .block 2 (.loop Z9u))] (by kernel_rfl) (AllOK.cons (Zrr k) (AllOK.cons (Zrl k) AllOK.nil))
theorem ZfQ (k : Nat) : SoundAt Try.prog k 92 Z1Z.E := @Z1 Try.prog Z1Z Zv 92 Try.f92 Z4Z (by kernel_rfl) (by kernel_rfl) (by kernel_rfl) Try.func92 (by kernel_rfl) (by kernel_rfl) (by kernel_rfl) T_ok Z9e ZyF ZxW Zz4 k
noncomputable def Zap : List PK := [PK.mk (Ty.slice (71 : Nat) (Ty.pair (Ty.int .i64) (Ty.int .i64))) false none false none]
noncomputable def Zt5 : List PK := []
noncomputable def ZqM (r : List (Int × Int)) : Tup Zap × OutD := ((r, ()), none)
noncomputable def ZqP : Tup Zap × OutD → Option (List (Int × Int))
 | (a, none) => some (a.1)
 | _ => none
theorem ZwV : ∀ b r, ZqP b = some r → ZqM r = b := by
 rintro ⟨a, o⟩ r h
 cases o with
 | none => injection h with h; subst h; rfl
 | some _ => cases h
noncomputable def Z4B : Nat → List (Int × Int) → Int → Option (List (Int × Int))
 | 0, _, _ => none
 | k + 1, o1, v2 =>
  if decide (v2 ≤ (7 : Int)) = true then if List.length o1 + List.length [(v2, (0 : Int))] ≤ (140737488355328 / 16 : Nat) then Option.bind (Z8v k (v2, (1 : Int))) fun z0 => if z0 = true then if List.length (o1 ++ [(v2, (0 : Int))]) + List.length [(v2, (1 : Int))] ≤ (140737488355328 / 16 : Nat) then Z4B k (o1 ++ [(v2, (0 : Int))] ++ [(v2, (1 : Int))]) (wrap64 (v2 + (1 : Int))) else none else Z4B k (o1 ++ [(v2, (0 : Int))]) (wrap64 (v2 + (1 : Int))) else none else some o1
noncomputable def ZfH : Spec := Spec.mk [OSh.ro, OSh.row true (71 : Nat) (Ty.pair (Ty.int .i64) (Ty.int .i64))] [((1 : Nat), TSh.at (Sh.sl (1 : Nat))), ((2 : Nat), TSh.at (Sh.int .i64))]
noncomputable def ZxX : Spec := Spec.mk [OSh.ro, OSh.row true (71 : Nat) (Ty.pair (Ty.int .i64) (Ty.int .i64))] [((1 : Nat), TSh.at (Sh.sl (1 : Nat)))]
noncomputable def Z76 : LoopDef (Tup Zap × OutD) := .plain ZfH ZxX (List (Int × Int)) (fun k x => Z4B k x.1.2.1 x.2.2.1) (fun z => (((), z, ()), ((), ()))) (fun y => (y.1.2.1)) (fun _ => rfl)
noncomputable def Zfs : Nat → Option (List (Int × Int))
 | 0 => none
 | k + 1 =>
  Option.bind (Z4B k [] (0 : Int)) fun z1 => some z1
noncomputable def Z6U : FnDef := .of Zt5 Zap (List (Int × Int)) (fun k x => Zfs k) ZqM ZqP ZwV
noncomputable def ZfB : Code := Try.f97.body.getD .skip
noncomputable def Z8m : Ctx (Tup Zap × OutD) := { T := T, G := [(109, Z2d.E)], mvs := [], no := 0, n := 22, res := resOf T Zt5 Zap Try.f97.results.toList, loops := [(0, Z76.E)], regs := [], conds := [], cuts := [] }
theorem Zsf (k : Nat) : EnvOK Try.prog k Z8m.G := (EnvOK.cons (ZjO k) (EnvOK.nil mixed))
noncomputable def Zcm : Code := (findLoop 0 ZfB).getD .skip
theorem ZyS (k : Nat) (x : ZfH.D) : Z76.lp (k + 1) x = loopK Z8m Z76 0 Zcm k x := by kernel_rfl
theorem ZyY (k : Nat) : LOK Try.prog Z8m k Zcm := LOK.by [] (by kernel_rfl) AllOK.nil
theorem Zyt (x : ZfH.D) : Z76.lp 0 x = none := by kernel_rfl
theorem Zx4 (k : Nat) : EOK Try.prog Z8m k Z76.E (.block 0 (.loop Zcm)) := Z5 T_ok Zsf Zyt ZyS ZyY k
theorem ZCi (k : Nat) (x : Tup Z6U.ps) : Z6U.f (k + 1) x = fnK Z6U Z8m ZfB k x := by kernel_rfl
theorem ZCs (x : Tup Z6U.ps) : Z6U.f 0 x = none := by kernel_rfl
theorem ZCP (k : Nat) : LOK Try.prog Z8m k ZfB := LOK.by [(Z76.E, .block 0 (.loop Zcm))] (by kernel_rfl) (AllOK.cons (Zx4 k) AllOK.nil)
theorem ZCu (k : Nat) : SoundAt Try.prog k 97 Z6U.E := @Z1 Try.prog Z6U Z8m 97 Try.f97 ZfB (by kernel_rfl) (by kernel_rfl) (by kernel_rfl) Try.func97 (by kernel_rfl) (by kernel_rfl) (by kernel_rfl) T_ok Zsf ZCP ZCs ZCi k
noncomputable def Z94 : List PK := []
noncomputable def Zqw : List PK := [PK.mk (Ty.pair (Ty.int .i64) (Ty.pair (Ty.int .i64) (Ty.slice (71 : Nat) (Ty.pair (Ty.int .i64) (Ty.int .i64))))) true (some ((2 : Nat), (71 : Nat), Ty.pair (Ty.int .i64) (Ty.int .i64))) false none, PK.mk (Ty.slice (3 : Nat) (Ty.int .i64)) false none false none]
noncomputable def Zok (r : List (Int × Int)) : Tup Z94 × OutD := ((()), some ⟨Ty.pair (Ty.int .i64) (Ty.int .i64), r⟩)
noncomputable def ZgV : Tup Z94 × OutD → Option (List (Int × Int))
 | (a, some ⟨u, ys⟩) => if h : u = Ty.pair (Ty.int .i64) (Ty.int .i64) then some (castU h ys) else none
 | _ => none
theorem Zvd : ∀ b r, ZgV b = some r → Zok r = b := by
 rintro ⟨a, o⟩ r h
 cases o with
 | none => cases h
 | some s =>
  obtain ⟨u, ys⟩ := s
  simp only [ZgV] at h
  split at h
  ·rename_i hu; subst hu; injection h with h; subst h; rfl
  ·cases h
noncomputable def Z7h : Nat → List (Int × Int) → Int → Int → List Int → Int → Int → Option (List (Int × Int))
 | 0, _, _, _, _, _, _ => none
 | k + 1, o1, b2_0, b2_1, v6, v7, v8 =>
  if decide (v8 < v7) = true then if (0 : Int) ≤ v8 then if v8 < (↑(List.length v6) : Int) then if (0 : Int) ≤ List.getD v6 (Int.toNat v8) (0 : Int) then if List.getD v6 (Int.toNat v8) (0 : Int) < (↑(List.length o1) : Int) then Option.bind (Z5D k (Prod.fst (List.getD o1 (Int.toNat (List.getD v6 (Int.toNat v8) (0 : Int))) ((0 : Int), (0 : Int))), Prod.snd (List.getD o1 (Int.toNat (List.getD v6 (Int.toNat v8) (0 : Int))) ((0 : Int), (0 : Int))))) fun z0 => if (0 : Int) ≤ List.getD v6 (Int.toNat v8) (0 : Int) then if List.getD v6 (Int.toNat v8) (0 : Int) < (↑(List.length o1) : Int) then Z7h k (List.set o1 (Int.toNat (List.getD v6 (Int.toNat v8) (0 : Int))) (Prod.fst z0, Prod.snd z0)) b2_0 b2_1 v6 v7 (wrap64 (v8 + (1 : Int))) else none else none else none else none else none else none else some o1
noncomputable def ZeV : Spec := Spec.mk [OSh.ro, OSh.row false (71 : Nat) (Ty.pair (Ty.int .i64) (Ty.int .i64)), OSh.box (26 : Nat) [Sh.int .i64, Sh.int .i64, Sh.sl (1 : Nat)]] [((2 : Nat), TSh.at (Sh.ptr (2 : Nat) (0 : Nat))), ((6 : Nat), TSh.at (Sh.snap (0 : Nat) (Ty.int .i64))), ((7 : Nat), TSh.at (Sh.int .i64)), ((8 : Nat), TSh.at (Sh.int .i64))]
noncomputable def ZxA : Spec := Spec.mk [OSh.ro, OSh.row false (71 : Nat) (Ty.pair (Ty.int .i64) (Ty.int .i64))] []
noncomputable def Z6i : LoopDef (Tup Z94 × OutD) := .plain ZeV ZxA (List (Int × Int)) (fun k x => Z7h k x.1.2.1 x.1.2.2.1.1 x.1.2.2.1.2.1 x.2.2.1 x.2.2.2.1 x.2.2.2.2.1) (fun z => (((), z, ()), (()))) (fun y => (y.1.2.1)) (fun _ => rfl)
noncomputable def Zeh : Nat → Int × Int × List (Int × Int) → List Int → Option (List (Int × Int))
 | 0, _, _ => none
 | k + 1, p0, p1 =>
  Option.bind (Z7h k p0.2.2 p0.1 p0.2.1 p1 (↑(List.length p1) : Int) (0 : Int)) fun z1 => some z1
noncomputable def Z5u : FnDef := .of Zqw Z94 (List (Int × Int)) (fun k x => Zeh k x.1 x.2.1) Zok ZgV Zvd
noncomputable def Ze8 : Code := Try.f99.body.getD .skip
noncomputable def Z7x : Ctx (Tup Z94 × OutD) := { T := T, G := [(110, Z4j.E)], mvs := [], no := 1, n := 23, res := resOf T Zqw Z94 Try.f99.results.toList, loops := [(0, Z6i.E)], regs := [], conds := [], cuts := [] }
theorem Zq0 (k : Nat) : EnvOK Try.prog k Z7x.G := (EnvOK.cons (ZqQ k) (EnvOK.nil mixed))
noncomputable def Zb3 : Code := (findLoop 0 Ze8).getD .skip
theorem ZxG (k : Nat) (x : ZeV.D) : Z6i.lp (k + 1) x = loopK Z7x Z6i 0 Zb3 k x := by kernel_rfl
theorem Zxu (k : Nat) : LOK Try.prog Z7x k Zb3 := LOK.by [] (by kernel_rfl) AllOK.nil
theorem Zwu (x : ZeV.D) : Z6i.lp 0 x = none := by kernel_rfl
theorem ZuW (k : Nat) : EOK Try.prog Z7x k Z6i.E (.block 0 (.loop Zb3)) := Z5 T_ok Zq0 Zwu ZxG Zxu k
theorem ZBr (k : Nat) (x : Tup Z5u.ps) : Z5u.f (k + 1) x = fnK Z5u Z7x Ze8 k x := by kernel_rfl
theorem ZBC (x : Tup Z5u.ps) : Z5u.f 0 x = none := by kernel_rfl
theorem ZAG (k : Nat) : LOK Try.prog Z7x k Ze8 := LOK.by [(Z6i.E, .block 0 (.loop Zb3))] (by kernel_rfl) (AllOK.cons (ZuW k) AllOK.nil)
theorem ZBN (k : Nat) : SoundAt Try.prog k 99 Z5u.E := @Z1 Try.prog Z5u Z7x 99 Try.f99 Ze8 (by kernel_rfl) (by kernel_rfl) (by kernel_rfl) Try.func99 (by kernel_rfl) (by kernel_rfl) (by kernel_rfl) T_ok Zq0 ZAG ZBC ZBr k
noncomputable def ZbK : List PK := [PK.mk Ty.bool false none false none]
noncomputable def Zqg : List PK := [PK.mk (Ty.pair (Ty.int .i64) (Ty.int .i64)) true none false none]
noncomputable def Zo6 (r : Bool) : Tup ZbK × OutD := ((r, ()), none)
noncomputable def ZoZ : Tup ZbK × OutD → Option (Bool)
 | (a, none) => some (a.1)
 | _ => none
theorem Zvh : ∀ b r, ZoZ b = some r → Zo6 r = b := by
 rintro ⟨a, o⟩ r h
 cases o with
 | none => injection h with h; subst h; rfl
 | some _ => cases h
noncomputable def Zej : Nat → Int × Int → Option Bool
 | 0, _ => none
 | k + 1, p0 =>
  Option.bind (Z4V k p0.1 (0 : Int) (7 : Int)) fun z0 => if z0 = true then if decide (Prod.snd p0 = (0 : Int)) = true then some true else if decide (Prod.snd p0 = (1 : Int)) = true then Option.bind (Z8v k (Prod.fst p0, Prod.snd p0)) fun z1 => some z1 else some false else some false
noncomputable def Z5C : FnDef := .of Zqg ZbK (Bool) (fun k x => Zej k x.1) Zo6 ZoZ Zvh
noncomputable def Zik : Code := Try.f103.body.getD .skip
noncomputable def Zew : Ctx (Tup ZbK × OutD) := { T := T, G := [(94, Z3x.E), (109, Z2d.E)], mvs := [], no := 0, n := 20, res := resOf T Zqg ZbK Try.f103.results.toList, loops := [], regs := [], conds := [], cuts := [] }
theorem ZBI (k : Nat) : EnvOK Try.prog k Zew.G := (EnvOK.cons (ZdX k) (EnvOK.cons (ZjO k) (EnvOK.nil mixed)))
theorem ZBG (k : Nat) (x : Tup Z5C.ps) : Z5C.f (k + 1) x = fnK Z5C Zew Zik k x := by kernel_rfl
theorem ZBQ (x : Tup Z5C.ps) : Z5C.f 0 x = none := by kernel_rfl
theorem ZB8 (k : Nat) : LOK Try.prog Zew k Zik := LOK.by [] (by kernel_rfl) AllOK.nil
theorem ZAQ (k : Nat) : SoundAt Try.prog k 103 Z5C.E := @Z1 Try.prog Z5C Zew 103 Try.f103 Zik (by kernel_rfl) (by kernel_rfl) (by kernel_rfl) Try.func103 (by kernel_rfl) (by kernel_rfl) (by kernel_rfl) T_ok ZBI ZB8 ZBQ ZBG k
noncomputable def Z90 : List PK := []
noncomputable def ZqU : List PK := [PK.mk (Ty.pair (Ty.int .i64) (Ty.pair (Ty.int .i64) (Ty.slice (71 : Nat) (Ty.pair (Ty.int .i64) (Ty.int .i64))))) true (some ((2 : Nat), (71 : Nat), Ty.pair (Ty.int .i64) (Ty.int .i64))) false none, PK.mk (Ty.slice (3 : Nat) (Ty.int .i64)) false none false none, PK.mk (Ty.int .i64) false none false none]
noncomputable def ZoK (r : List (Int × Int)) : Tup Z90 × OutD := ((()), some ⟨Ty.pair (Ty.int .i64) (Ty.int .i64), r⟩)
noncomputable def Zh8 : Tup Z90 × OutD → Option (List (Int × Int))
 | (a, some ⟨u, ys⟩) => if h : u = Ty.pair (Ty.int .i64) (Ty.int .i64) then some (castU h ys) else none
 | _ => none
theorem Zuw : ∀ b r, Zh8 b = some r → ZoK r = b := by
 rintro ⟨a, o⟩ r h
 cases o with
 | none => cases h
 | some s =>
  obtain ⟨u, ys⟩ := s
  simp only [Zh8] at h
  split at h
  ·rename_i hu; subst hu; injection h with h; subst h; rfl
  ·cases h
noncomputable def Z2X : Nat → List (Int × Int) → Int → Int → List Int → Int → Int → Int → Option (List (Int × Int))
 | 0, _, _, _, _, _, _, _ => none
 | k + 1, o1, b2_0, b2_1, v1, v2, v28, v29 =>
  if decide (v29 < v28) = true then if (0 : Int) ≤ v29 then if v29 < (↑(List.length o1) : Int) then if decide (Prod.fst (List.getD o1 (Int.toNat v29) ((0 : Int), (0 : Int))) = (6 : Int)) = true then if (0 : Int) ≤ v29 then if v29 < (↑(List.length v1) : Int) then if (0 : Int) ≤ v2 then if v2 < (↑(List.length v1) : Int) then if decide (List.getD v1 (Int.toNat v29) (0 : Int) = List.getD v1 (Int.toNat v2) (0 : Int)) = true then Option.bind (Z5D k (Prod.fst (List.getD o1 (Int.toNat v29) ((0 : Int), (0 : Int))), Prod.snd (List.getD o1 (Int.toNat v29) ((0 : Int), (0 : Int))))) fun z1 => if (0 : Int) ≤ v29 then if v29 < (↑(List.length o1) : Int) then Z2X k (List.set o1 (Int.toNat v29) (Prod.fst z1, Prod.snd z1)) b2_0 b2_1 v1 v2 v28 (wrap64 (v29 + (1 : Int))) else none else none else Z2X k o1 b2_0 b2_1 v1 v2 v28 (wrap64 (v29 + (1 : Int))) else none else none else none else none else Z2X k o1 b2_0 b2_1 v1 v2 v28 (wrap64 (v29 + (1 : Int))) else none else none else some o1
noncomputable def ZeE : Spec := Spec.mk [OSh.ro, OSh.row false (71 : Nat) (Ty.pair (Ty.int .i64) (Ty.int .i64)), OSh.box (26 : Nat) [Sh.int .i64, Sh.int .i64, Sh.sl (1 : Nat)]] [((1 : Nat), TSh.at (Sh.snap (0 : Nat) (Ty.int .i64))), ((2 : Nat), TSh.at (Sh.int .i64)), ((3 : Nat), TSh.at (Sh.ptr (2 : Nat) (0 : Nat))), ((27 : Nat), TSh.at (Sh.sl (1 : Nat))), ((28 : Nat), TSh.at (Sh.int .i64)), ((29 : Nat), TSh.at (Sh.int .i64))]
noncomputable def Zx1 : Spec := Spec.mk [OSh.ro, OSh.row false (71 : Nat) (Ty.pair (Ty.int .i64) (Ty.int .i64))] []
noncomputable def Z5W : LoopDef (Tup Z90 × OutD) := .plain ZeE Zx1 (List (Int × Int)) (fun k x => Z2X k x.1.2.1 x.1.2.2.1.1 x.1.2.2.1.2.1 x.2.1 x.2.2.1 x.2.2.2.2.2.1 x.2.2.2.2.2.2.1) (fun z => (((), z, ()), (()))) (fun y => (y.1.2.1)) (fun _ => rfl)
noncomputable def ZbE : Nat → Int × Int × List (Int × Int) → List Int → Int → Option (List (Int × Int))
 | 0, _, _, _ => none
 | k + 1, p0, p1, p2 =>
  if (0 : Int) ≤ p2 then if p2 < (↑(List.length p0.2.2) : Int) then if decide (Prod.fst (List.getD p0.2.2 (Int.toNat p2) ((0 : Int), (0 : Int))) = (3 : Int)) = true then Option.bind (Z5D k (Prod.fst (List.getD p0.2.2 (Int.toNat p2) ((0 : Int), (0 : Int))), Prod.snd (List.getD p0.2.2 (Int.toNat p2) ((0 : Int), (0 : Int))))) fun z0 => if (0 : Int) ≤ p2 then if p2 < (↑(List.length p0.2.2) : Int) then some (List.set p0.2.2 (Int.toNat p2) (Prod.fst z0, Prod.snd z0)) else none else none else if decide (Prod.fst (List.getD p0.2.2 (Int.toNat p2) ((0 : Int), (0 : Int))) = (6 : Int)) = true then Option.bind (Z2X k p0.2.2 p0.1 p0.2.1 p1 p2 (↑(List.length p0.2.2) : Int) (0 : Int)) fun z2 => some z2 else some p0.2.2 else none else none
noncomputable def Z5E : FnDef := .of ZqU Z90 (List (Int × Int)) (fun k x => ZbE k x.1 x.2.1 x.2.2.1) ZoK Zh8 Zuw
noncomputable def Zeb : Code := Try.f108.body.getD .skip
noncomputable def Z7A : Ctx (Tup Z90 × OutD) := { T := T, G := [(110, Z4j.E)], mvs := [], no := 1, n := 55, res := resOf T ZqU Z90 Try.f108.results.toList, loops := [(1, Z5W.E)], regs := [], conds := [], cuts := [] }
theorem Zqa (k : Nat) : EnvOK Try.prog k Z7A.G := (EnvOK.cons (ZqQ k) (EnvOK.nil mixed))
noncomputable def Zbf : Code := (findLoop 1 Zeb).getD .skip
theorem Zxl (k : Nat) (x : ZeE.D) : Z5W.lp (k + 1) x = loopK Z7A Z5W 1 Zbf k x := by kernel_rfl
theorem ZwY (k : Nat) : LOK Try.prog Z7A k Zbf := LOK.by [] (by kernel_rfl) AllOK.nil
theorem Zxr (x : ZeE.D) : Z5W.lp 0 x = none := by kernel_rfl
theorem ZuZ (k : Nat) : EOK Try.prog Z7A k Z5W.E (.block 1 (.loop Zbf)) := Z5 T_ok Zqa Zxr Zxl ZwY k
theorem ZBF (k : Nat) (x : Tup Z5E.ps) : Z5E.f (k + 1) x = fnK Z5E Z7A Zeb k x := by kernel_rfl
theorem ZBv (x : Tup Z5E.ps) : Z5E.f 0 x = none := by kernel_rfl
theorem ZBi (k : Nat) : LOK Try.prog Z7A k Zeb := LOK.by [(Z5W.E, .block 1 (.loop Zbf))] (by kernel_rfl) (AllOK.cons (ZuZ k) AllOK.nil)
theorem ZBw (k : Nat) : SoundAt Try.prog k 108 Z5E.E := @Z1 Try.prog Z5E Z7A 108 Try.f108 Zeb (by kernel_rfl) (by kernel_rfl) (by kernel_rfl) Try.func108 (by kernel_rfl) (by kernel_rfl) (by kernel_rfl) T_ok Zqa ZBi ZBv ZBF k
end
end Go.Proofs.Ytglkedenkcpcbaa.Vs
