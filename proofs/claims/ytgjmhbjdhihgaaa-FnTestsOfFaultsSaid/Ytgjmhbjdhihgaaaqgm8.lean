/- The proof, part 9. -/
import Derived.Test.Ytgjmhbjdhihgaaaqgm7
set_option maxRecDepth 100000
set_option maxHeartbeats 2000000
set_option linter.unusedVariables false
set_option linter.unusedSimpArgs false
namespace Go.Proofs.Ytgjmhbjdhihgaaa.Vs
open Go.RowKit
noncomputable section
noncomputable def Z6T : List PK := [PK.mk (Ty.slice (34 : Nat) (Ty.slice (3 : Nat) (Ty.int .i64))) false none false none, PK.mk Ty.bool false none false none]
noncomputable def ZiG : List PK := [PK.mk (Ty.pair (Ty.int .i64) (Ty.pair (Ty.int .i64) (Ty.slice (79 : Nat) (Ty.pair (Ty.int .i64) (Ty.int .i64))))) true none false none, PK.mk (Ty.slice (34 : Nat) (Ty.slice (3 : Nat) (Ty.int .i64))) false none false none]
noncomputable def Zil (r : List (List Int) × Bool) : Tup Z6T × OutD := ((r.1, r.2, ()), none)
noncomputable def Zht : Tup Z6T × OutD → Option (List (List Int) × Bool)
 | (a, none) => some (a.1, a.2.1)
 | _ => none
theorem Zoz : ∀ b r, Zht b = some r → Zil r = b := by
 rintro ⟨a, o⟩ r h
 cases o with
 | none => injection h with h; subst h; rfl
 | some _ => cases h
noncomputable def Zal : Nat → Int × Int × List (Int × Int) → List (List Int) → Option (List (List Int) × Bool)
 | 0, _, _ => none
 | k + 1, p0, p1 =>
  Option.bind (Z3k k (Prod.fst p0, Prod.fst p0.2, Prod.snd p0.2) p1) fun z0 => if (!z0) = true then some ([], false) else Option.bind (Z8h k (Prod.fst p0, Prod.fst p0.2, Prod.snd p0.2) p1) fun z1 => Option.bind (Za5 k p1) fun z2 => Option.bind (Zd7 k z1 z2) fun z3 => some (z3, true)
noncomputable def Z2a : FnDef := .of ZiG Z6T (List (List Int) × Bool) (fun k x => Zal k x.1 x.2.1) Zil Zht Zoz
noncomputable def ZdM : Code := Try.f70.body.getD .skip
noncomputable def Zam : Ctx (Tup Z6T × OutD) := { T := T, G := [(151, Z1f.E), (153, Z2t.E), (154, Z2C.E), (152, Z3z.E)], mvs := [], no := 0, n := 16, res := resOf T ZiG Z6T Try.f70.results.toList, loops := [], regs := [], conds := [] }
theorem ZvA (k : Nat) : EnvOK Try.prog k Zam.G := (EnvOK.cons (Z8t k) (EnvOK.cons (Zhp k) (EnvOK.cons (Zoe k) (EnvOK.cons (ZBX k) (EnvOK.nil mixed)))))
theorem ZvO (k : Nat) (x : Tup Z2a.ps) : Z2a.f (k + 1) x = fnK Z2a Zam ZdM k x := by kernel_rfl
theorem ZvQ (x : Tup Z2a.ps) : Z2a.f 0 x = none := by kernel_rfl
theorem ZvN (k : Nat) : LOK Try.prog Zam k ZdM := LOK.by [] (by kernel_rfl) AllOK.nil
theorem Zwb (k : Nat) : SoundAt Try.prog k 70 Z2a.E := @Z4 Try.prog Z2a Zam 70 Try.f70 ZdM (by kernel_rfl) (by kernel_rfl) (by kernel_rfl) Try.func70 (by kernel_rfl) (by kernel_rfl) (by kernel_rfl) T_ok ZvA ZvN ZvQ ZvO k
noncomputable def Z5o : List PK := [PK.mk (Ty.slice (3 : Nat) (Ty.int .i64)) false none false none, PK.mk Ty.bool false none false none]
noncomputable def ZgV : List PK := [PK.mk (Ty.pair (Ty.int .i64) (Ty.pair (Ty.int .i64) (Ty.slice (79 : Nat) (Ty.pair (Ty.int .i64) (Ty.int .i64))))) true none false none, PK.mk (Ty.slice (34 : Nat) (Ty.slice (3 : Nat) (Ty.int .i64))) false none false none]
noncomputable def ZfP (r : List Int × Bool) : Tup Z5o × OutD := ((r.1, r.2, ()), none)
noncomputable def Zg3 : Tup Z5o × OutD → Option (List Int × Bool)
 | (a, none) => some (a.1, a.2.1)
 | _ => none
theorem Zm5 : ∀ b r, Zg3 b = some r → ZfP r = b := by
 rintro ⟨a, o⟩ r h
 cases o with
 | none => injection h with h; subst h; rfl
 | some _ => cases h
noncomputable def Z8o : Nat → Int × Int × List (Int × Int) → List (List Int) → Option (List Int × Bool)
 | 0, _, _ => none
 | k + 1, p0, p1 =>
  Option.bind (Z3k k (Prod.fst p0, Prod.fst p0.2, Prod.snd p0.2) p1) fun z0 => if (!z0) = true then some ([], false) else Option.bind (Z8h k (Prod.fst p0, Prod.fst p0.2, Prod.snd p0.2) p1) fun z1 => Option.bind (Za5 k p1) fun z2 => Option.bind (ZbJ k z1 z2) fun z3 => some (z3, true)
noncomputable def Z1C : FnDef := .of ZgV Z5o (List Int × Bool) (fun k x => Z8o k x.1 x.2.1) ZfP Zg3 Zm5
noncomputable def Zc1 : Code := Try.f72.body.getD .skip
noncomputable def Z8w : Ctx (Tup Z5o × OutD) := { T := T, G := [(151, Z1f.E), (153, Z2t.E), (154, Z2C.E), (160, Z31.E)], mvs := [], no := 0, n := 16, res := resOf T ZgV Z5o Try.f72.results.toList, loops := [], regs := [], conds := [] }
theorem ZqR (k : Nat) : EnvOK Try.prog k Z8w.G := (EnvOK.cons (Z8t k) (EnvOK.cons (Zhp k) (EnvOK.cons (Zoe k) (EnvOK.cons (ZzV k) (EnvOK.nil mixed)))))
theorem ZqY (k : Nat) (x : Tup Z1C.ps) : Z1C.f (k + 1) x = fnK Z1C Z8w Zc1 k x := by kernel_rfl
theorem Zrc (x : Tup Z1C.ps) : Z1C.f 0 x = none := by kernel_rfl
theorem Zsl (k : Nat) : LOK Try.prog Z8w k Zc1 := LOK.by [] (by kernel_rfl) AllOK.nil
theorem Zrp (k : Nat) : SoundAt Try.prog k 72 Z1C.E := @Z4 Try.prog Z1C Z8w 72 Try.f72 Zc1 (by kernel_rfl) (by kernel_rfl) (by kernel_rfl) Try.func72 (by kernel_rfl) (by kernel_rfl) (by kernel_rfl) T_ok ZqR Zsl Zrc ZqY k
noncomputable def Z30 : List PK := [PK.mk (Ty.slice (3 : Nat) (Ty.int .i64)) false none false none, PK.mk Ty.bool false none false none]
noncomputable def ZlF : List PK := [PK.mk (Ty.pair (Ty.int .i64) (Ty.pair (Ty.int .i64) (Ty.slice (79 : Nat) (Ty.pair (Ty.int .i64) (Ty.int .i64))))) true none false none, PK.mk (Ty.slice (34 : Nat) (Ty.slice (3 : Nat) (Ty.int .i64))) false none false none, PK.mk (Ty.slice (57 : Nat) (Ty.slice (63 : Nat) (Ty.pair (Ty.int .i64) (Ty.pair (Ty.int .i64) (Ty.int .i64))))) false none false none]
noncomputable def Zeo (r : List Int × Bool) : Tup Z30 × OutD := ((r.1, r.2, ()), none)
noncomputable def Zen : Tup Z30 × OutD → Option (List Int × Bool)
 | (a, none) => some (a.1, a.2.1)
 | _ => none
theorem ZgZ : ∀ b r, Zen b = some r → Zeo r = b := by
 rintro ⟨a, o⟩ r h
 cases o with
 | none => injection h with h; subst h; rfl
 | some _ => cases h
noncomputable def Z4O : Nat → Int → Int → List (Int × Int) → List (List Int) → List (List (Int × Int × Int)) → List (List Int) → Int → Int → Option (LR (Int × Int × List (Int × Int) × List (List Int) × List (List (Int × Int × Int))) (List Int × Bool))
 | 0, _, _, _, _, _, _, _, _ => none
 | k + 1, b1_0, b1_1, b1_2, v1, v2, v26, v27, v28 =>
  if decide (v28 < v27) = true then if (0 : Int) ≤ v28 then if v28 < (↑(List.length v26) : Int) then if (0 : Int) ≤ v28 then if v28 < (↑(List.length v2) : Int) then if decide ((↑(List.length (List.getD v2 (Int.toNat v28) [])) : Int) ≠ (↑(List.length (List.getD v26 (Int.toNat v28) [])) : Int)) = true then some (LR.ret ([], false)) else Z4O k b1_0 b1_1 b1_2 v1 v2 v26 v27 (wrap64 (v28 + (1 : Int))) else none else none else none else none else some (LR.go (b1_0, b1_1, b1_2, v1, v2))
noncomputable def Zd9 : Spec := Spec.mk [OSh.ro, OSh.box (53 : Nat) [Sh.int .i64, Sh.int .i64, Sh.snap (0 : Nat) (Ty.pair (Ty.int .i64) (Ty.int .i64))]] [((1 : Nat), TSh.at (Sh.snap (0 : Nat) (Ty.slice (3 : Nat) (Ty.int .i64)))), ((2 : Nat), TSh.at (Sh.snap (0 : Nat) (Ty.slice (63 : Nat) (Ty.pair (Ty.int .i64) (Ty.pair (Ty.int .i64) (Ty.int .i64)))))), ((3 : Nat), TSh.at (Sh.ptr (1 : Nat) (0 : Nat))), ((26 : Nat), TSh.at (Sh.snap (0 : Nat) (Ty.slice (3 : Nat) (Ty.int .i64)))), ((27 : Nat), TSh.at (Sh.int .i64)), ((28 : Nat), TSh.at (Sh.int .i64))]
noncomputable def ZtB : Spec := Spec.mk [OSh.ro, OSh.box (53 : Nat) [Sh.int .i64, Sh.int .i64, Sh.snap (0 : Nat) (Ty.pair (Ty.int .i64) (Ty.int .i64))]] [((1 : Nat), TSh.at (Sh.snap (0 : Nat) (Ty.slice (3 : Nat) (Ty.int .i64)))), ((2 : Nat), TSh.at (Sh.snap (0 : Nat) (Ty.slice (63 : Nat) (Ty.pair (Ty.int .i64) (Ty.pair (Ty.int .i64) (Ty.int .i64)))))), ((3 : Nat), TSh.at (Sh.ptr (1 : Nat) (0 : Nat)))]
noncomputable def Z45 : LoopDef (Tup Z30 × OutD) := .rets Zd9 ZtB (Int × Int × List (Int × Int) × List (List Int) × List (List (Int × Int × Int))) (List Int × Bool) (fun k x => Z4O k x.1.2.1.1 x.1.2.1.2.1 x.1.2.1.2.2.1 x.2.1 x.2.2.1 x.2.2.2.2.1 x.2.2.2.2.2.1 x.2.2.2.2.2.2.1) (fun z => (((), (z.1, z.2.1, z.2.2.1, ()), ()), (z.2.2.2.1, z.2.2.2.2, (), ()))) (fun y => (y.1.2.1.1, y.1.2.1.2.1, y.1.2.1.2.2.1, y.2.1, y.2.2.1)) (fun _ => rfl) Zeo Zen ZgZ
noncomputable def Z39 : Nat → List Int → List (List (List (Int × Int × Int))) → List (List Int) → List (List (Int × Int × Int)) → Int → Int → Bool → Int → Int → Int → Int → Option (List Int × List (List (List (Int × Int × Int))) × List (List Int) × List (List (Int × Int × Int)) × Int × Bool × Int × Int)
 | 0, _, _, _, _, _, _, _, _, _, _, _ => none
 | k + 1, o1, o2, v1, v2, v11, v12, v13, v46, v47, v53, v54 =>
  if decide (v54 < v53) = true then if v13 = true then if (0 : Int) ≤ v54 then if v54 < (↑(List.length (List.getD o2 (Int.toNat v12) [])) : Int) then if (0 : Int) ≤ v54 then if v54 < (↑(List.length v2) : Int) then Option.bind (Z10 k (List.getD (List.getD o2 (Int.toNat v12) []) (Int.toNat v54) []) (List.getD v2 (Int.toNat v54) [])) fun z3 => Z39 k o1 o2 v1 v2 v11 v12 z3 v46 v47 v53 (wrap64 (v54 + (1 : Int))) else none else none else none else none else Z39 k o1 o2 v1 v2 v11 v12 false v46 v47 v53 (wrap64 (v54 + (1 : Int))) else some (o1, o2, v1, v2, v11, v13, v46, v47)
noncomputable def ZcD : Spec := Spec.mk [OSh.ro, OSh.row true (3 : Nat) (Ty.int .i64), OSh.row true (100 : Nat) (Ty.slice (57 : Nat) (Ty.slice (63 : Nat) (Ty.pair (Ty.int .i64) (Ty.pair (Ty.int .i64) (Ty.int .i64)))))] [((1 : Nat), TSh.at (Sh.snap (0 : Nat) (Ty.slice (3 : Nat) (Ty.int .i64)))), ((2 : Nat), TSh.at (Sh.snap (0 : Nat) (Ty.slice (63 : Nat) (Ty.pair (Ty.int .i64) (Ty.pair (Ty.int .i64) (Ty.int .i64)))))), ((10 : Nat), TSh.at (Sh.sl (1 : Nat))), ((11 : Nat), TSh.at (Sh.int .i64)), ((12 : Nat), TSh.at (Sh.inn (2 : Nat))), ((13 : Nat), TSh.at Sh.bool), ((45 : Nat), TSh.at (Sh.sl (2 : Nat))), ((46 : Nat), TSh.at (Sh.int .i64)), ((47 : Nat), TSh.at (Sh.int .i64)), ((53 : Nat), TSh.at (Sh.int .i64)), ((54 : Nat), TSh.at (Sh.int .i64))]
noncomputable def Zsz : Spec := Spec.mk [OSh.ro, OSh.row true (3 : Nat) (Ty.int .i64), OSh.row true (100 : Nat) (Ty.slice (57 : Nat) (Ty.slice (63 : Nat) (Ty.pair (Ty.int .i64) (Ty.pair (Ty.int .i64) (Ty.int .i64)))))] [((1 : Nat), TSh.at (Sh.snap (0 : Nat) (Ty.slice (3 : Nat) (Ty.int .i64)))), ((2 : Nat), TSh.at (Sh.snap (0 : Nat) (Ty.slice (63 : Nat) (Ty.pair (Ty.int .i64) (Ty.pair (Ty.int .i64) (Ty.int .i64)))))), ((10 : Nat), TSh.at (Sh.sl (1 : Nat))), ((11 : Nat), TSh.at (Sh.int .i64)), ((13 : Nat), TSh.at Sh.bool), ((45 : Nat), TSh.at (Sh.sl (2 : Nat))), ((46 : Nat), TSh.at (Sh.int .i64)), ((47 : Nat), TSh.at (Sh.int .i64))]
noncomputable def Z3Y : LoopDef (Tup Z30 × OutD) := .plain ZcD Zsz (List Int × List (List (List (Int × Int × Int))) × List (List Int) × List (List (Int × Int × Int)) × Int × Bool × Int × Int) (fun k x => Z39 k x.1.2.1 x.1.2.2.1 x.2.1 x.2.2.1 x.2.2.2.2.1 x.2.2.2.2.2.1 x.2.2.2.2.2.2.1 x.2.2.2.2.2.2.2.2.1 x.2.2.2.2.2.2.2.2.2.1 x.2.2.2.2.2.2.2.2.2.2.1 x.2.2.2.2.2.2.2.2.2.2.2.1) (fun z => (((), z.1, z.2.1, ()), (z.2.2.1, z.2.2.2.1, (), z.2.2.2.2.1, z.2.2.2.2.2.1, (), z.2.2.2.2.2.2.1, z.2.2.2.2.2.2.2, ()))) (fun y => (y.1.2.1, y.1.2.2.1, y.2.1, y.2.2.1, y.2.2.2.2.1, y.2.2.2.2.2.1, y.2.2.2.2.2.2.2.1, y.2.2.2.2.2.2.2.2.1)) (fun _ => rfl)
noncomputable def Z36 : Nat → List Int → List (List (List (Int × Int × Int))) → List (List Int) → List (List (Int × Int × Int)) → Int → Int → Option (List Int)
 | 0, _, _, _, _, _, _ => none
 | k + 1, o1, o2, v1, v2, v46, v47 =>
  if decide (v47 < v46) = true then if (0 : Int) ≤ v47 then if v47 < (↑(List.length o2) : Int) then Option.bind (Z39 k o1 o2 v1 v2 v47 v47 true v46 v47 (↑(List.length v1) : Int) (0 : Int)) fun z4 => if Prod.fst z4.2.2.2.2.2 = true then if List.length z4.1 + List.length [wrap64 (Prod.fst z4.2.2.2.2 - (1 : Int))] ≤ (140737488355328 / 8 : Nat) then Z36 k (Prod.fst z4 ++ [wrap64 (Prod.fst z4.2.2.2.2 - (1 : Int))]) z4.2.1 z4.2.2.1 z4.2.2.2.1 z4.2.2.2.2.2.2.1 (wrap64 (Prod.snd z4.2.2.2.2.2.2 + (1 : Int))) else none else Z36 k z4.1 z4.2.1 z4.2.2.1 z4.2.2.2.1 z4.2.2.2.2.2.2.1 (wrap64 (Prod.snd z4.2.2.2.2.2.2 + (1 : Int))) else none else none else some o1
noncomputable def ZcM : Spec := Spec.mk [OSh.ro, OSh.row true (3 : Nat) (Ty.int .i64), OSh.row true (100 : Nat) (Ty.slice (57 : Nat) (Ty.slice (63 : Nat) (Ty.pair (Ty.int .i64) (Ty.pair (Ty.int .i64) (Ty.int .i64)))))] [((1 : Nat), TSh.at (Sh.snap (0 : Nat) (Ty.slice (3 : Nat) (Ty.int .i64)))), ((2 : Nat), TSh.at (Sh.snap (0 : Nat) (Ty.slice (63 : Nat) (Ty.pair (Ty.int .i64) (Ty.pair (Ty.int .i64) (Ty.int .i64)))))), ((10 : Nat), TSh.at (Sh.sl (1 : Nat))), ((45 : Nat), TSh.at (Sh.sl (2 : Nat))), ((46 : Nat), TSh.at (Sh.int .i64)), ((47 : Nat), TSh.at (Sh.int .i64))]
noncomputable def ZsE : Spec := Spec.mk [OSh.ro, OSh.row true (3 : Nat) (Ty.int .i64)] [((10 : Nat), TSh.at (Sh.sl (1 : Nat)))]
noncomputable def Z3V : LoopDef (Tup Z30 × OutD) := .plain ZcM ZsE (List Int) (fun k x => Z36 k x.1.2.1 x.1.2.2.1 x.2.1 x.2.2.1 x.2.2.2.2.2.1 x.2.2.2.2.2.2.1) (fun z => (((), z, ()), ((), ()))) (fun y => (y.1.2.1)) (fun _ => rfl)
noncomputable def Z91 : Nat → Int × Int × List (Int × Int) → List (List Int) → List (List (Int × Int × Int)) → Option (List Int × Bool)
 | 0, _, _, _ => none
 | k + 1, p0, p1, p2 =>
  Option.bind (Z3k k (Prod.fst p0, Prod.fst p0.2, Prod.snd p0.2) p1) fun z0 => if (!z0) = true then some ([], false) else if decide ((↑(List.length p2) : Int) ≠ (↑(List.length p1) : Int)) = true then some ([], false) else Option.bind (Z4O k p0.1 p0.2.1 p0.2.2 p1 p2 p1 (↑(List.length p1) : Int) (0 : Int)) fun z1 => LR.on z1 (fun y1 => Option.bind (Z8h k (Prod.fst y1, Prod.fst y1.2, Prod.fst y1.2.2) y1.2.2.2.1) fun z2 => Option.bind (Z36 k [] z2 y1.2.2.2.1 y1.2.2.2.2 (↑(List.length z2) : Int) (0 : Int)) fun z5 => some (z5, true)) fun r1 => some r1
noncomputable def Z2X : FnDef := .of ZlF Z30 (List Int × Bool) (fun k x => Z91 k x.1 x.2.1 x.2.2.1) Zeo Zen ZgZ
noncomputable def Z6i : Code := Try.f78.body.getD .skip
noncomputable def ZY : Ctx (Tup Z30 × OutD) := { T := T, G := [(151, Z1f.E), (153, Z2t.E), (166, Zf.E)], mvs := [], no := 0, n := 78, res := resOf T ZlF Z30 Try.f78.results.toList, loops := [(0, Z45.E), (4, Z3Y.E), (2, Z3V.E)], regs := [], conds := [] }
theorem ZbE (k : Nat) : EnvOK Try.prog k ZY.G := (EnvOK.cons (Z8t k) (EnvOK.cons (Zhp k) (EnvOK.cons (Z4m k) (EnvOK.nil mixed))))
noncomputable def Z96 : Code := (findLoop 0 Z6i).getD .skip
theorem Zsu (k : Nat) (x : Zd9.D) : Z45.lp (k + 1) x = loopK ZY Z45 0 Z96 k x := by kernel_rfl
theorem ZtT (k : Nat) : LOK Try.prog ZY k Z96 := LOK.by [] (by kernel_rfl) AllOK.nil
theorem ZsO (x : Zd9.D) : Z45.lp 0 x = none := by kernel_rfl
theorem Zry (k : Nat) : EOK Try.prog ZY k Z45.E (.block 0 (.loop Z96)) := Z7 T_ok ZbE ZsO Zsu ZtT k
noncomputable def Z9a : Code := (findLoop 4 Z6i).getD .skip
theorem Ztb (k : Nat) (x : ZcD.D) : Z3Y.lp (k + 1) x = loopK ZY Z3Y 4 Z9a k x := by kernel_rfl
theorem ZtN (k : Nat) : LOK Try.prog ZY k Z9a := LOK.by [] (by kernel_rfl) AllOK.nil
theorem ZsZ (x : ZcD.D) : Z3Y.lp 0 x = none := by kernel_rfl
theorem ZrE (k : Nat) : EOK Try.prog ZY k Z3Y.E (.block 4 (.loop Z9a)) := Z7 T_ok ZbE ZsZ Ztb ZtN k
noncomputable def Z9j : Code := (findLoop 2 Z6i).getD .skip
theorem ZtR (k : Nat) (x : ZcM.D) : Z3V.lp (k + 1) x = loopK ZY Z3V 2 Z9j k x := by kernel_rfl
theorem Zt0 (k : Nat) : LOK Try.prog ZY k Z9j := LOK.by [(Z3Y.E, .block 4 (.loop Z9a))] (by kernel_rfl) (AllOK.cons (ZrE k) AllOK.nil)
theorem Zts (x : ZcM.D) : Z3V.lp 0 x = none := by kernel_rfl
theorem ZrW (k : Nat) : EOK Try.prog ZY k Z3V.E (.block 2 (.loop Z9j)) := Z7 T_ok ZbE Zts ZtR Zt0 k
theorem ZyB (k : Nat) (x : Tup Z2X.ps) : Z2X.f (k + 1) x = fnK Z2X ZY Z6i k x := by kernel_rfl
theorem ZAh (x : Tup Z2X.ps) : Z2X.f 0 x = none := by kernel_rfl
theorem ZzU (k : Nat) : LOK Try.prog ZY k Z6i := LOK.by [(Z45.E, .block 0 (.loop Z96)), (Z3V.E, .block 2 (.loop Z9j))] (by kernel_rfl) (AllOK.cons (Zry k) (AllOK.cons (ZrW k) AllOK.nil))
theorem ZyV (k : Nat) : SoundAt Try.prog k 78 Z2X.E := @Z4 Try.prog Z2X ZY 78 Try.f78 Z6i (by kernel_rfl) (by kernel_rfl) (by kernel_rfl) Try.func78 (by kernel_rfl) (by kernel_rfl) (by kernel_rfl) T_ok ZbE ZzU ZAh ZyB k
noncomputable def Z2Z : List PK := [PK.mk (Ty.slice (3 : Nat) (Ty.int .i64)) false none false none, PK.mk Ty.bool false none false none]
noncomputable def ZlA : List PK := [PK.mk (Ty.pair (Ty.int .i64) (Ty.pair (Ty.int .i64) (Ty.slice (79 : Nat) (Ty.pair (Ty.int .i64) (Ty.int .i64))))) true none false none, PK.mk (Ty.slice (34 : Nat) (Ty.slice (3 : Nat) (Ty.int .i64))) false none false none, PK.mk (Ty.slice (57 : Nat) (Ty.slice (63 : Nat) (Ty.pair (Ty.int .i64) (Ty.pair (Ty.int .i64) (Ty.int .i64))))) false none false none]
noncomputable def ZeD (r : List Int × Bool) : Tup Z2Z × OutD := ((r.1, r.2, ()), none)
noncomputable def ZeJ : Tup Z2Z × OutD → Option (List Int × Bool)
 | (a, none) => some (a.1, a.2.1)
 | _ => none
theorem Zh4 : ∀ b r, ZeJ b = some r → ZeD r = b := by
 rintro ⟨a, o⟩ r h
 cases o with
 | none => injection h with h; subst h; rfl
 | some _ => cases h
noncomputable def Z4S : Nat → Int → Int → List (Int × Int) → List (List Int) → List (List (Int × Int × Int)) → List (List Int) → Int → Int → Option (LR (Int × Int × List (Int × Int) × List (List Int) × List (List (Int × Int × Int))) (List Int × Bool))
 | 0, _, _, _, _, _, _, _, _ => none
 | k + 1, b1_0, b1_1, b1_2, v1, v2, v26, v27, v28 =>
  if decide (v28 < v27) = true then if (0 : Int) ≤ v28 then if v28 < (↑(List.length v26) : Int) then if (0 : Int) ≤ v28 then if v28 < (↑(List.length v2) : Int) then if decide ((↑(List.length (List.getD v2 (Int.toNat v28) [])) : Int) ≠ (↑(List.length (List.getD v26 (Int.toNat v28) [])) : Int)) = true then some (LR.ret ([], false)) else Z4S k b1_0 b1_1 b1_2 v1 v2 v26 v27 (wrap64 (v28 + (1 : Int))) else none else none else none else none else some (LR.go (b1_0, b1_1, b1_2, v1, v2))
noncomputable def Zcu : Spec := Spec.mk [OSh.ro, OSh.box (53 : Nat) [Sh.int .i64, Sh.int .i64, Sh.snap (0 : Nat) (Ty.pair (Ty.int .i64) (Ty.int .i64))]] [((1 : Nat), TSh.at (Sh.snap (0 : Nat) (Ty.slice (3 : Nat) (Ty.int .i64)))), ((2 : Nat), TSh.at (Sh.snap (0 : Nat) (Ty.slice (63 : Nat) (Ty.pair (Ty.int .i64) (Ty.pair (Ty.int .i64) (Ty.int .i64)))))), ((3 : Nat), TSh.at (Sh.ptr (1 : Nat) (0 : Nat))), ((26 : Nat), TSh.at (Sh.snap (0 : Nat) (Ty.slice (3 : Nat) (Ty.int .i64)))), ((27 : Nat), TSh.at (Sh.int .i64)), ((28 : Nat), TSh.at (Sh.int .i64))]
noncomputable def ZtM : Spec := Spec.mk [OSh.ro, OSh.box (53 : Nat) [Sh.int .i64, Sh.int .i64, Sh.snap (0 : Nat) (Ty.pair (Ty.int .i64) (Ty.int .i64))]] [((1 : Nat), TSh.at (Sh.snap (0 : Nat) (Ty.slice (3 : Nat) (Ty.int .i64)))), ((2 : Nat), TSh.at (Sh.snap (0 : Nat) (Ty.slice (63 : Nat) (Ty.pair (Ty.int .i64) (Ty.pair (Ty.int .i64) (Ty.int .i64)))))), ((3 : Nat), TSh.at (Sh.ptr (1 : Nat) (0 : Nat)))]
noncomputable def Z3W : LoopDef (Tup Z2Z × OutD) := .rets Zcu ZtM (Int × Int × List (Int × Int) × List (List Int) × List (List (Int × Int × Int))) (List Int × Bool) (fun k x => Z4S k x.1.2.1.1 x.1.2.1.2.1 x.1.2.1.2.2.1 x.2.1 x.2.2.1 x.2.2.2.2.1 x.2.2.2.2.2.1 x.2.2.2.2.2.2.1) (fun z => (((), (z.1, z.2.1, z.2.2.1, ()), ()), (z.2.2.2.1, z.2.2.2.2, (), ()))) (fun y => (y.1.2.1.1, y.1.2.1.2.1, y.1.2.1.2.2.1, y.2.1, y.2.2.1)) (fun _ => rfl) ZeD ZeJ Zh4
noncomputable def Z3h : Nat → List Int → List (List (List (Int × Int × Int))) → List (List Int) → List (List (Int × Int × Int)) → Int → Int → Bool → Int → Int → Int → Int → Option (List Int × List (List (List (Int × Int × Int))) × List (List Int) × List (List (Int × Int × Int)) × Int × Bool × Int × Int)
 | 0, _, _, _, _, _, _, _, _, _, _, _ => none
 | k + 1, o1, o2, v1, v2, v11, v12, v13, v45, v46, v52, v53 =>
  if decide (v53 < v52) = true then if v13 = true then if (0 : Int) ≤ v53 then if v53 < (↑(List.length (List.getD o2 (Int.toNat v12) [])) : Int) then if (0 : Int) ≤ v53 then if v53 < (↑(List.length v2) : Int) then Option.bind (ZaH k (List.getD (List.getD o2 (Int.toNat v12) []) (Int.toNat v53) []) (List.getD v2 (Int.toNat v53) [])) fun z3 => Z3h k o1 o2 v1 v2 v11 v12 (decide (z3 < (0 : Int))) v45 v46 v52 (wrap64 (v53 + (1 : Int))) else none else none else none else none else Z3h k o1 o2 v1 v2 v11 v12 false v45 v46 v52 (wrap64 (v53 + (1 : Int))) else some (o1, o2, v1, v2, v11, v13, v45, v46)
noncomputable def Zda : Spec := Spec.mk [OSh.ro, OSh.row true (3 : Nat) (Ty.int .i64), OSh.row true (100 : Nat) (Ty.slice (57 : Nat) (Ty.slice (63 : Nat) (Ty.pair (Ty.int .i64) (Ty.pair (Ty.int .i64) (Ty.int .i64)))))] [((1 : Nat), TSh.at (Sh.snap (0 : Nat) (Ty.slice (3 : Nat) (Ty.int .i64)))), ((2 : Nat), TSh.at (Sh.snap (0 : Nat) (Ty.slice (63 : Nat) (Ty.pair (Ty.int .i64) (Ty.pair (Ty.int .i64) (Ty.int .i64)))))), ((10 : Nat), TSh.at (Sh.sl (1 : Nat))), ((11 : Nat), TSh.at (Sh.int .i64)), ((12 : Nat), TSh.at (Sh.inn (2 : Nat))), ((13 : Nat), TSh.at Sh.bool), ((44 : Nat), TSh.at (Sh.sl (2 : Nat))), ((45 : Nat), TSh.at (Sh.int .i64)), ((46 : Nat), TSh.at (Sh.int .i64)), ((52 : Nat), TSh.at (Sh.int .i64)), ((53 : Nat), TSh.at (Sh.int .i64))]
noncomputable def ZsS : Spec := Spec.mk [OSh.ro, OSh.row true (3 : Nat) (Ty.int .i64), OSh.row true (100 : Nat) (Ty.slice (57 : Nat) (Ty.slice (63 : Nat) (Ty.pair (Ty.int .i64) (Ty.pair (Ty.int .i64) (Ty.int .i64)))))] [((1 : Nat), TSh.at (Sh.snap (0 : Nat) (Ty.slice (3 : Nat) (Ty.int .i64)))), ((2 : Nat), TSh.at (Sh.snap (0 : Nat) (Ty.slice (63 : Nat) (Ty.pair (Ty.int .i64) (Ty.pair (Ty.int .i64) (Ty.int .i64)))))), ((10 : Nat), TSh.at (Sh.sl (1 : Nat))), ((11 : Nat), TSh.at (Sh.int .i64)), ((13 : Nat), TSh.at Sh.bool), ((44 : Nat), TSh.at (Sh.sl (2 : Nat))), ((45 : Nat), TSh.at (Sh.int .i64)), ((46 : Nat), TSh.at (Sh.int .i64))]
noncomputable def Z49 : LoopDef (Tup Z2Z × OutD) := .plain Zda ZsS (List Int × List (List (List (Int × Int × Int))) × List (List Int) × List (List (Int × Int × Int)) × Int × Bool × Int × Int) (fun k x => Z3h k x.1.2.1 x.1.2.2.1 x.2.1 x.2.2.1 x.2.2.2.2.1 x.2.2.2.2.2.1 x.2.2.2.2.2.2.1 x.2.2.2.2.2.2.2.2.1 x.2.2.2.2.2.2.2.2.2.1 x.2.2.2.2.2.2.2.2.2.2.1 x.2.2.2.2.2.2.2.2.2.2.2.1) (fun z => (((), z.1, z.2.1, ()), (z.2.2.1, z.2.2.2.1, (), z.2.2.2.2.1, z.2.2.2.2.2.1, (), z.2.2.2.2.2.2.1, z.2.2.2.2.2.2.2, ()))) (fun y => (y.1.2.1, y.1.2.2.1, y.2.1, y.2.2.1, y.2.2.2.2.1, y.2.2.2.2.2.1, y.2.2.2.2.2.2.2.1, y.2.2.2.2.2.2.2.2.1)) (fun _ => rfl)
noncomputable def Z3a : Nat → List Int → List (List (List (Int × Int × Int))) → List (List Int) → List (List (Int × Int × Int)) → Int → Int → Option (List Int)
 | 0, _, _, _, _, _, _ => none
 | k + 1, o1, o2, v1, v2, v45, v46 =>
  if decide (v46 < v45) = true then if (0 : Int) ≤ v46 then if v46 < (↑(List.length o2) : Int) then Option.bind (Z3h k o1 o2 v1 v2 v46 v46 true v45 v46 (↑(List.length v1) : Int) (0 : Int)) fun z4 => if Prod.fst z4.2.2.2.2.2 = true then if List.length z4.1 + List.length [wrap64 (Prod.fst z4.2.2.2.2 - (1 : Int))] ≤ (140737488355328 / 8 : Nat) then Z3a k (Prod.fst z4 ++ [wrap64 (Prod.fst z4.2.2.2.2 - (1 : Int))]) z4.2.1 z4.2.2.1 z4.2.2.2.1 z4.2.2.2.2.2.2.1 (wrap64 (Prod.snd z4.2.2.2.2.2.2 + (1 : Int))) else none else Z3a k z4.1 z4.2.1 z4.2.2.1 z4.2.2.2.1 z4.2.2.2.2.2.2.1 (wrap64 (Prod.snd z4.2.2.2.2.2.2 + (1 : Int))) else none else none else some o1
noncomputable def Zcr : Spec := Spec.mk [OSh.ro, OSh.row true (3 : Nat) (Ty.int .i64), OSh.row true (100 : Nat) (Ty.slice (57 : Nat) (Ty.slice (63 : Nat) (Ty.pair (Ty.int .i64) (Ty.pair (Ty.int .i64) (Ty.int .i64)))))] [((1 : Nat), TSh.at (Sh.snap (0 : Nat) (Ty.slice (3 : Nat) (Ty.int .i64)))), ((2 : Nat), TSh.at (Sh.snap (0 : Nat) (Ty.slice (63 : Nat) (Ty.pair (Ty.int .i64) (Ty.pair (Ty.int .i64) (Ty.int .i64)))))), ((10 : Nat), TSh.at (Sh.sl (1 : Nat))), ((44 : Nat), TSh.at (Sh.sl (2 : Nat))), ((45 : Nat), TSh.at (Sh.int .i64)), ((46 : Nat), TSh.at (Sh.int .i64))]
noncomputable def Zt5 : Spec := Spec.mk [OSh.ro, OSh.row true (3 : Nat) (Ty.int .i64)] [((10 : Nat), TSh.at (Sh.sl (1 : Nat)))]
noncomputable def Z3R : LoopDef (Tup Z2Z × OutD) := .plain Zcr Zt5 (List Int) (fun k x => Z3a k x.1.2.1 x.1.2.2.1 x.2.1 x.2.2.1 x.2.2.2.2.2.1 x.2.2.2.2.2.2.1) (fun z => (((), z, ()), ((), ()))) (fun y => (y.1.2.1)) (fun _ => rfl)
noncomputable def ZbG : Nat → Int × Int × List (Int × Int) → List (List Int) → List (List (Int × Int × Int)) → Option (List Int × Bool)
 | 0, _, _, _ => none
 | k + 1, p0, p1, p2 =>
  Option.bind (Z4a k (Prod.fst p0, Prod.fst p0.2, Prod.snd p0.2) p1) fun z0 => if (!z0) = true then some ([], false) else if decide ((↑(List.length p2) : Int) ≠ (↑(List.length p1) : Int)) = true then some ([], false) else Option.bind (Z4S k p0.1 p0.2.1 p0.2.2 p1 p2 p1 (↑(List.length p1) : Int) (0 : Int)) fun z1 => LR.on z1 (fun y1 => Option.bind (Zc5 k (Prod.fst y1, Prod.fst y1.2, Prod.fst y1.2.2) y1.2.2.2.1) fun z2 => Option.bind (Z3a k [] z2 y1.2.2.2.1 y1.2.2.2.2 (↑(List.length z2) : Int) (0 : Int)) fun z5 => some (z5, true)) fun r1 => some r1
noncomputable def Z2W : FnDef := .of ZlA Z2Z (List Int × Bool) (fun k x => ZbG k x.1 x.2.1 x.2.2.1) ZeD ZeJ Zh4
noncomputable def Z6f : Code := Try.f79.body.getD .skip
noncomputable def ZX : Ctx (Tup Z2Z × OutD) := { T := T, G := [(155, Z1q.E), (167, Z3S.E), (168, Z3G.E)], mvs := [], no := 0, n := 78, res := resOf T ZlA Z2Z Try.f79.results.toList, loops := [(0, Z3W.E), (4, Z49.E), (2, Z3R.E)], regs := [], conds := [] }
theorem ZbA (k : Nat) : EnvOK Try.prog k ZX.G := (EnvOK.cons (Z9H k) (EnvOK.cons (Zrd k) (EnvOK.cons (ZkK k) (EnvOK.nil mixed))))
noncomputable def Z9c : Code := (findLoop 0 Z6f).getD .skip
theorem ZsT (k : Nat) (x : Zcu.D) : Z3W.lp (k + 1) x = loopK ZX Z3W 0 Z9c k x := by kernel_rfl
theorem Zu0 (k : Nat) : LOK Try.prog ZX k Z9c := LOK.by [] (by kernel_rfl) AllOK.nil
theorem ZtA (x : Zcu.D) : Z3W.lp 0 x = none := by kernel_rfl
theorem ZrG (k : Nat) : EOK Try.prog ZX k Z3W.E (.block 0 (.loop Z9c)) := Z7 T_ok ZbA ZtA ZsT Zu0 k
noncomputable def Z9p : Code := (findLoop 4 Z6f).getD .skip
theorem ZsC (k : Nat) (x : Zda.D) : Z49.lp (k + 1) x = loopK ZX Z49 4 Z9p k x := by kernel_rfl
theorem Zt9 (k : Nat) : LOK Try.prog ZX k Z9p := LOK.by [] (by kernel_rfl) AllOK.nil
theorem Ztm (x : Zda.D) : Z49.lp 0 x = none := by kernel_rfl
theorem Zrs (k : Nat) : EOK Try.prog ZX k Z49.E (.block 4 (.loop Z9p)) := Z7 T_ok ZbA Ztm ZsC Zt9 k
noncomputable def Z9n : Code := (findLoop 2 Z6f).getD .skip
theorem Zte (k : Nat) (x : Zcr.D) : Z3R.lp (k + 1) x = loopK ZX Z3R 2 Z9n k x := by kernel_rfl
theorem Ztw (k : Nat) : LOK Try.prog ZX k Z9n := LOK.by [(Z49.E, .block 4 (.loop Z9p))] (by kernel_rfl) (AllOK.cons (Zrs k) AllOK.nil)
theorem ZtH (x : Zcr.D) : Z3R.lp 0 x = none := by kernel_rfl
theorem ZqJ (k : Nat) : EOK Try.prog ZX k Z3R.E (.block 2 (.loop Z9n)) := Z7 T_ok ZbA ZtH Zte Ztw k
theorem ZyL (k : Nat) (x : Tup Z2W.ps) : Z2W.f (k + 1) x = fnK Z2W ZX Z6f k x := by kernel_rfl
theorem ZzR (x : Tup Z2W.ps) : Z2W.f 0 x = none := by kernel_rfl
theorem Zz9 (k : Nat) : LOK Try.prog ZX k Z6f := LOK.by [(Z3W.E, .block 0 (.loop Z9c)), (Z3R.E, .block 2 (.loop Z9n))] (by kernel_rfl) (AllOK.cons (ZrG k) (AllOK.cons (ZqJ k) AllOK.nil))
theorem ZzP (k : Nat) : SoundAt Try.prog k 79 Z2W.E := @Z4 Try.prog Z2W ZX 79 Try.f79 Z6f (by kernel_rfl) (by kernel_rfl) (by kernel_rfl) Try.func79 (by kernel_rfl) (by kernel_rfl) (by kernel_rfl) T_ok ZbA Zz9 ZzR ZyL k
noncomputable def Z5w : List PK := [PK.mk (Ty.slice (34 : Nat) (Ty.slice (3 : Nat) (Ty.int .i64))) false none false none]
noncomputable def Zr1 : List PK := [PK.mk (Ty.pair (Ty.int .i64) (Ty.pair (Ty.int .i64) (Ty.slice (79 : Nat) (Ty.pair (Ty.int .i64) (Ty.int .i64))))) true none false none, PK.mk (Ty.slice (34 : Nat) (Ty.slice (3 : Nat) (Ty.int .i64))) false none false none]
noncomputable def Zpz (r : List (List Int)) : Tup Z5w × OutD := ((r, ()), none)
noncomputable def Zp7 : Tup Z5w × OutD → Option (List (List Int))
 | (a, none) => some (a.1)
 | _ => none
theorem ZwV : ∀ b r, Zp7 b = some r → Zpz r = b := by
 rintro ⟨a, o⟩ r h
 cases o with
 | none => injection h with h; subst h; rfl
 | some _ => cases h
noncomputable def Z7f : Nat → List (List (List (Int × Int × Int))) → List (List Int) → List Int → List (List Int) → Int → Int → Int → Int → Int → Int → Int → Int → Option (List (List (List (Int × Int × Int))) × List (List Int) × List Int × List (List Int) × Int × Int × Int × Int × Int × Int × Int)
 | 0, _, _, _, _, _, _, _, _, _, _, _, _ => none
 | k + 1, o1, o2, o3, v1, v7, v8, v10, v11, v16, v17, v23, v24 =>
  if decide (v11 < v7) = true then if (0 : Int) ≤ v10 then if v10 < (↑(List.length (List.getD o1 (Int.toNat v8) [])) : Int) then if (0 : Int) ≤ v11 then if v11 < (↑(List.length o1) : Int) then if (0 : Int) ≤ v10 then if v10 < (↑(List.length (List.getD o1 (Int.toNat v11) [])) : Int) then Option.bind (ZaH k (List.getD (List.getD o1 (Int.toNat v8) []) (Int.toNat v10) []) (List.getD (List.getD o1 (Int.toNat v11) []) (Int.toNat v10) [])) fun z1 => if decide (z1 ≥ (0 : Int)) = true then Z7f k o1 o2 o3 v1 v7 v8 v10 (wrap64 (v11 + (1 : Int))) v16 v17 v23 v24 else some (o1, o2, o3, v1, v7, v8, v11, v16, v17, v23, v24) else none else none else none else none else none else none else some (o1, o2, o3, v1, v7, v8, v11, v16, v17, v23, v24)
noncomputable def Zfj : Spec := Spec.mk [OSh.ro, OSh.row true (100 : Nat) (Ty.slice (57 : Nat) (Ty.slice (63 : Nat) (Ty.pair (Ty.int .i64) (Ty.pair (Ty.int .i64) (Ty.int .i64))))), OSh.row true (34 : Nat) (Ty.slice (3 : Nat) (Ty.int .i64)), OSh.row true (3 : Nat) (Ty.int .i64)] [((1 : Nat), TSh.at (Sh.snap (0 : Nat) (Ty.slice (3 : Nat) (Ty.int .i64)))), ((5 : Nat), TSh.at (Sh.sl (1 : Nat))), ((6 : Nat), TSh.at (Sh.sl (2 : Nat))), ((7 : Nat), TSh.at (Sh.int .i64)), ((8 : Nat), TSh.at (Sh.inn (1 : Nat))), ((9 : Nat), TSh.at (Sh.sl (3 : Nat))), ((10 : Nat), TSh.at (Sh.int .i64)), ((11 : Nat), TSh.at (Sh.int .i64)), ((15 : Nat), TSh.at (Sh.sl (1 : Nat))), ((16 : Nat), TSh.at (Sh.int .i64)), ((17 : Nat), TSh.at (Sh.int .i64)), ((23 : Nat), TSh.at (Sh.int .i64)), ((24 : Nat), TSh.at (Sh.int .i64))]
noncomputable def Zzd : Spec := Spec.mk [OSh.ro, OSh.row true (100 : Nat) (Ty.slice (57 : Nat) (Ty.slice (63 : Nat) (Ty.pair (Ty.int .i64) (Ty.pair (Ty.int .i64) (Ty.int .i64))))), OSh.row true (34 : Nat) (Ty.slice (3 : Nat) (Ty.int .i64)), OSh.row true (3 : Nat) (Ty.int .i64)] [((1 : Nat), TSh.at (Sh.snap (0 : Nat) (Ty.slice (3 : Nat) (Ty.int .i64)))), ((5 : Nat), TSh.at (Sh.sl (1 : Nat))), ((6 : Nat), TSh.at (Sh.sl (2 : Nat))), ((7 : Nat), TSh.at (Sh.int .i64)), ((8 : Nat), TSh.at (Sh.inn (1 : Nat))), ((9 : Nat), TSh.at (Sh.sl (3 : Nat))), ((11 : Nat), TSh.at (Sh.int .i64)), ((15 : Nat), TSh.at (Sh.sl (1 : Nat))), ((16 : Nat), TSh.at (Sh.int .i64)), ((17 : Nat), TSh.at (Sh.int .i64)), ((23 : Nat), TSh.at (Sh.int .i64)), ((24 : Nat), TSh.at (Sh.int .i64))]
noncomputable def Z6q : LoopDef (Tup Z5w × OutD) := .plain Zfj Zzd (List (List (List (Int × Int × Int))) × List (List Int) × List Int × List (List Int) × Int × Int × Int × Int × Int × Int × Int) (fun k x => Z7f k x.1.2.1 x.1.2.2.1 x.1.2.2.2.1 x.2.1 x.2.2.2.2.1 x.2.2.2.2.2.1 x.2.2.2.2.2.2.2.1 x.2.2.2.2.2.2.2.2.1 x.2.2.2.2.2.2.2.2.2.2.1 x.2.2.2.2.2.2.2.2.2.2.2.1 x.2.2.2.2.2.2.2.2.2.2.2.2.1 x.2.2.2.2.2.2.2.2.2.2.2.2.2.1) (fun z => (((), z.1, z.2.1, z.2.2.1, ()), (z.2.2.2.1, (), (), z.2.2.2.2.1, z.2.2.2.2.2.1, (), z.2.2.2.2.2.2.1, (), z.2.2.2.2.2.2.2.1, z.2.2.2.2.2.2.2.2.1, z.2.2.2.2.2.2.2.2.2.1, z.2.2.2.2.2.2.2.2.2.2, ()))) (fun y => (y.1.2.1, y.1.2.2.1, y.1.2.2.2.1, y.2.1, y.2.2.2.2.1, y.2.2.2.2.2.1, y.2.2.2.2.2.2.2.1, y.2.2.2.2.2.2.2.2.2.1, y.2.2.2.2.2.2.2.2.2.2.1, y.2.2.2.2.2.2.2.2.2.2.2.1, y.2.2.2.2.2.2.2.2.2.2.2.2.1)) (fun _ => rfl)
noncomputable def Z79 : Nat → List (List (List (Int × Int × Int))) → List (List Int) → List Int → List (List Int) → Int → Int → Int → Int → Int → Int → Option (List (List (List (Int × Int × Int))) × List (List Int) × List Int × List (List Int) × Int × Int)
 | 0, _, _, _, _, _, _, _, _, _, _ => none
 | k + 1, o1, o2, o3, v1, v7, v8, v16, v17, v23, v24 =>
  if decide (v24 < v23) = true then Option.bind (Z7f k o1 o2 o3 v1 v7 v8 v24 (0 : Int) v16 v17 v23 v24) fun z2 => if List.length z2.2.2.1 + List.length [Prod.fst z2.2.2.2.2.2.2] ≤ (140737488355328 / 8 : Nat) then Z79 k z2.1 z2.2.1 (Prod.fst z2.2.2 ++ [Prod.fst z2.2.2.2.2.2.2]) z2.2.2.2.1 z2.2.2.2.2.1 z2.2.2.2.2.2.1 z2.2.2.2.2.2.2.2.1 z2.2.2.2.2.2.2.2.2.1 z2.2.2.2.2.2.2.2.2.2.1 (wrap64 (Prod.snd z2.2.2.2.2.2.2.2.2.2 + (1 : Int))) else none else some (o1, o2, o3, v1, v16, v17)
noncomputable def Zfy : Spec := Spec.mk [OSh.ro, OSh.row true (100 : Nat) (Ty.slice (57 : Nat) (Ty.slice (63 : Nat) (Ty.pair (Ty.int .i64) (Ty.pair (Ty.int .i64) (Ty.int .i64))))), OSh.row true (34 : Nat) (Ty.slice (3 : Nat) (Ty.int .i64)), OSh.row true (3 : Nat) (Ty.int .i64)] [((1 : Nat), TSh.at (Sh.snap (0 : Nat) (Ty.slice (3 : Nat) (Ty.int .i64)))), ((5 : Nat), TSh.at (Sh.sl (1 : Nat))), ((6 : Nat), TSh.at (Sh.sl (2 : Nat))), ((7 : Nat), TSh.at (Sh.int .i64)), ((8 : Nat), TSh.at (Sh.inn (1 : Nat))), ((9 : Nat), TSh.at (Sh.sl (3 : Nat))), ((15 : Nat), TSh.at (Sh.sl (1 : Nat))), ((16 : Nat), TSh.at (Sh.int .i64)), ((17 : Nat), TSh.at (Sh.int .i64)), ((23 : Nat), TSh.at (Sh.int .i64)), ((24 : Nat), TSh.at (Sh.int .i64))]
noncomputable def Zzt : Spec := Spec.mk [OSh.ro, OSh.row true (100 : Nat) (Ty.slice (57 : Nat) (Ty.slice (63 : Nat) (Ty.pair (Ty.int .i64) (Ty.pair (Ty.int .i64) (Ty.int .i64))))), OSh.row true (34 : Nat) (Ty.slice (3 : Nat) (Ty.int .i64)), OSh.row true (3 : Nat) (Ty.int .i64)] [((1 : Nat), TSh.at (Sh.snap (0 : Nat) (Ty.slice (3 : Nat) (Ty.int .i64)))), ((5 : Nat), TSh.at (Sh.sl (1 : Nat))), ((6 : Nat), TSh.at (Sh.sl (2 : Nat))), ((9 : Nat), TSh.at (Sh.sl (3 : Nat))), ((15 : Nat), TSh.at (Sh.sl (1 : Nat))), ((16 : Nat), TSh.at (Sh.int .i64)), ((17 : Nat), TSh.at (Sh.int .i64))]
noncomputable def Z6y : LoopDef (Tup Z5w × OutD) := .plain Zfy Zzt (List (List (List (Int × Int × Int))) × List (List Int) × List Int × List (List Int) × Int × Int) (fun k x => Z79 k x.1.2.1 x.1.2.2.1 x.1.2.2.2.1 x.2.1 x.2.2.2.2.1 x.2.2.2.2.2.1 x.2.2.2.2.2.2.2.2.1 x.2.2.2.2.2.2.2.2.2.1 x.2.2.2.2.2.2.2.2.2.2.1 x.2.2.2.2.2.2.2.2.2.2.2.1) (fun z => (((), z.1, z.2.1, z.2.2.1, ()), (z.2.2.2.1, (), (), (), (), z.2.2.2.2.1, z.2.2.2.2.2, ()))) (fun y => (y.1.2.1, y.1.2.2.1, y.1.2.2.2.1, y.2.1, y.2.2.2.2.2.2.1, y.2.2.2.2.2.2.2.1)) (fun _ => rfl)
noncomputable def Z76 : Nat → List (List (List (Int × Int × Int))) → List (List Int) → List (List Int) → Int → Int → Option (List (List Int))
 | 0, _, _, _, _, _ => none
 | k + 1, o1, o2, v1, v16, v17 =>
  if decide (v17 < v16) = true then if (0 : Int) ≤ v17 then if v17 < (↑(List.length o1) : Int) then Option.bind (Z79 k o1 o2 [] v1 v17 v17 v16 v17 (↑(List.length v1) : Int) (0 : Int)) fun z3 => if List.length z3.2.1 + List.length [Prod.fst z3.2.2] ≤ (140737488355328 / 24 : Nat) then Z76 k z3.1 (Prod.fst z3.2 ++ [Prod.fst z3.2.2]) z3.2.2.2.1 z3.2.2.2.2.1 (wrap64 (Prod.snd z3.2.2.2.2 + (1 : Int))) else none else none else none else some o2
noncomputable def Zfp : Spec := Spec.mk [OSh.ro, OSh.row true (100 : Nat) (Ty.slice (57 : Nat) (Ty.slice (63 : Nat) (Ty.pair (Ty.int .i64) (Ty.pair (Ty.int .i64) (Ty.int .i64))))), OSh.row true (34 : Nat) (Ty.slice (3 : Nat) (Ty.int .i64))] [((1 : Nat), TSh.at (Sh.snap (0 : Nat) (Ty.slice (3 : Nat) (Ty.int .i64)))), ((5 : Nat), TSh.at (Sh.sl (1 : Nat))), ((6 : Nat), TSh.at (Sh.sl (2 : Nat))), ((15 : Nat), TSh.at (Sh.sl (1 : Nat))), ((16 : Nat), TSh.at (Sh.int .i64)), ((17 : Nat), TSh.at (Sh.int .i64))]
noncomputable def ZyR : Spec := Spec.mk [OSh.ro, OSh.row true (34 : Nat) (Ty.slice (3 : Nat) (Ty.int .i64))] [((6 : Nat), TSh.at (Sh.sl (1 : Nat)))]
noncomputable def Z6j : LoopDef (Tup Z5w × OutD) := .plain Zfp ZyR (List (List Int)) (fun k x => Z76 k x.1.2.1 x.1.2.2.1 x.2.1 x.2.2.2.2.2.1 x.2.2.2.2.2.2.1) (fun z => (((), z, ()), ((), ()))) (fun y => (y.1.2.1)) (fun _ => rfl)
noncomputable def ZbZ : Nat → Int × Int × List (Int × Int) → List (List Int) → Option (List (List Int))
 | 0, _, _ => none
 | k + 1, p0, p1 =>
  Option.bind (Zc5 k (Prod.fst p0, Prod.fst p0.2, Prod.snd p0.2) p1) fun z0 => Option.bind (Z76 k z0 [] p1 (↑(List.length z0) : Int) (0 : Int)) fun z4 => some z4
noncomputable def Z48 : FnDef := .of Zr1 Z5w (List (List Int)) (fun k x => ZbZ k x.1 x.2.1) Zpz Zp7 ZwV
noncomputable def Z9C : Code := Try.f158.body.getD .skip
noncomputable def Z1r : Ctx (Tup Z5w × OutD) := { T := T, G := [(167, Z3S.E), (168, Z3G.E)], mvs := [], no := 0, n := 58, res := resOf T Zr1 Z5w Try.f158.results.toList, loops := [(4, Z6q.E), (2, Z6y.E), (0, Z6j.E)], regs := [], conds := [] }
theorem ZeV (k : Nat) : EnvOK Try.prog k Z1r.G := (EnvOK.cons (Zrd k) (EnvOK.cons (ZkK k) (EnvOK.nil mixed)))
noncomputable def ZbM : Code := (findLoop 4 Z9C).getD .skip
theorem Zzv (k : Nat) (x : Zfj.D) : Z6q.lp (k + 1) x = loopK Z1r Z6q 4 ZbM k x := by kernel_rfl
theorem ZzM (k : Nat) : LOK Try.prog Z1r k ZbM := LOK.by [] (by kernel_rfl) AllOK.nil
theorem Zzk (x : Zfj.D) : Z6q.lp 0 x = none := by kernel_rfl
theorem Zyd (k : Nat) : EOK Try.prog Z1r k Z6q.E (.block 4 (.loop ZbM)) := Z7 T_ok ZeV Zzk Zzv ZzM k
noncomputable def Zbx : Code := (findLoop 2 Z9C).getD .skip
theorem ZyM (k : Nat) (x : Zfy.D) : Z6y.lp (k + 1) x = loopK Z1r Z6y 2 Zbx k x := by kernel_rfl
theorem ZA9 (k : Nat) : LOK Try.prog Z1r k Zbx := LOK.by [(Z6q.E, .block 4 (.loop ZbM))] (by kernel_rfl) (AllOK.cons (Zyd k) AllOK.nil)
theorem ZyH (x : Zfy.D) : Z6y.lp 0 x = none := by kernel_rfl
theorem Zy5 (k : Nat) : EOK Try.prog Z1r k Z6y.E (.block 2 (.loop Zbx)) := Z7 T_ok ZeV ZyH ZyM ZA9 k
noncomputable def ZbS : Code := (findLoop 0 Z9C).getD .skip
theorem ZyD (k : Nat) (x : Zfp.D) : Z6j.lp (k + 1) x = loopK Z1r Z6j 0 ZbS k x := by kernel_rfl
theorem Zzo (k : Nat) : LOK Try.prog Z1r k ZbS := LOK.by [(Z6y.E, .block 2 (.loop Zbx))] (by kernel_rfl) (AllOK.cons (Zy5 k) AllOK.nil)
theorem ZzN (x : Zfp.D) : Z6j.lp 0 x = none := by kernel_rfl
theorem Zxs (k : Nat) : EOK Try.prog Z1r k Z6j.E (.block 0 (.loop ZbS)) := Z7 T_ok ZeV ZzN ZyD Zzo k
theorem ZEI (k : Nat) (x : Tup Z48.ps) : Z48.f (k + 1) x = fnK Z48 Z1r Z9C k x := by kernel_rfl
theorem ZEQ (x : Tup Z48.ps) : Z48.f 0 x = none := by kernel_rfl
theorem ZEM (k : Nat) : LOK Try.prog Z1r k Z9C := LOK.by [(Z6j.E, .block 0 (.loop ZbS))] (by kernel_rfl) (AllOK.cons (Zxs k) AllOK.nil)
theorem ZrK (k : Nat) : SoundAt Try.prog k 158 Z48.E := @Z4 Try.prog Z48 Z1r 158 Try.f158 Z9C (by kernel_rfl) (by kernel_rfl) (by kernel_rfl) Try.func158 (by kernel_rfl) (by kernel_rfl) (by kernel_rfl) T_ok ZeV ZEM ZEQ ZEI k
noncomputable def ZS : List PK := [PK.mk (Ty.pair (Ty.int .i64) (Ty.pair (Ty.int .i64) (Ty.slice (79 : Nat) (Ty.pair (Ty.int .i64) (Ty.int .i64))))) true none false none]
noncomputable def Zhc : List PK := [PK.mk (Ty.pair (Ty.slice (5 : Nat) (Ty.int .u8)) (Ty.pair (Ty.int .i64) (Ty.int .u64))) false none false (some (114 : Nat))]
noncomputable def ZfV (r : (Int × Int × List (Int × Int)) × Int × Int) : Tup ZS × OutD := ((r.1, ()), some ⟨Ty.pair (Ty.slice (5 : Nat) (Ty.int .u8)) (Ty.pair (Ty.int .i64) (Ty.int .u64)), [([], r.2)]⟩)
noncomputable def Zbq : Tup ZS × OutD → Option ((Int × Int × List (Int × Int)) × Int × Int)
 | (a, some ⟨u, ys⟩) => if h : u = Ty.pair (Ty.slice (5 : Nat) (Ty.int .u8)) (Ty.pair (Ty.int .i64) (Ty.int .u64)) then (match castU h ys with
  | [([], y)] => some (a.1, y)
  | _ => none) else none
 | _ => none
theorem ZmE : ∀ b r, Zbq b = some r → ZfV r = b := by
 rintro ⟨a, o⟩ r h
 cases o with
 | none => cases h
 | some s =>
  obtain ⟨u, ys⟩ := s
  simp only [Zbq] at h
  split at h
  ·rename_i hu
   subst hu
   match ys, h with
   | [], h => cases (show (none : Option _) = some r from h)
   | [([], y)], h => injection (show some _ = some r from h) with h; subst h; rfl
   | [(_ :: _, y)], h => cases (show (none : Option _) = some r from h)
   | (h1, _) :: _ :: _, h => cases h1 <;> cases (show (none : Option _) = some r from h)
  ·cases h
noncomputable def Z25 : Nat → Int → Int → List Int → Int → Int → List (Int × Int) → Int → Int → List (Int × Int) → Int → Int → Int → Option (Int × Int × List Int × Int × Int × List (Int × Int) × Int × Int × List (Int × Int) × Int × Int) := fun k b1_1 b1_2 o2 b3_0 b3_1 o4 b5_0 b5_1 o6 v5 v34 v35 =>
    Option.bind (Z1 k (o2, b1_1, b1_2) (2 : Int)) fun z5 => if (0 : Int) ≤ v5 then if v5 < (↑(List.length o6) : Int) then some (Prod.fst z5.2, Prod.snd z5.2, o2, b3_0, b3_1, o4, b5_0, b5_1, List.set o6 (Int.toNat v5) ((3 : Int), Prod.fst z5), v34, v35) else none else none
noncomputable def Z51 : Nat → Int → Int → List Int → Int → Int → List (Int × Int) → Int → Int → List (Int × Int) → Int → Int → Int → Option (List (Int × Int × List Int × Int × Int × List (Int × Int) × Int × Int × List (Int × Int) × Int × Int)) := fun k b1_1 b1_2 o2 b3_0 b3_1 o4 b5_0 b5_1 o6 v5 v34 v35 =>
    joinL (Option.bind (Z1 k (o2, b1_1, b1_2) (2 : Int)) fun z6 => if (0 : Int) ≤ v5 then if v5 < (↑(List.length o6) : Int) then some [(Prod.fst z6.2, Prod.snd z6.2, o2, b3_0, b3_1, o4, b5_0, b5_1, List.set o6 (Int.toNat v5) ((3 : Int), Prod.fst z6), v34, v35)] else none else none) (Option.bind (Z1 k (o2, b1_1, b1_2) (2 : Int)) fun z7 => if (0 : Int) ≤ v5 then if v5 < (↑(List.length o6) : Int) then some [(Prod.fst z7.2, Prod.snd z7.2, o2, b3_0, b3_1, o4, b5_0, b5_1, List.set o6 (Int.toNat v5) ((3 : Int), Prod.fst z7), v34, v35)] else none else none)
noncomputable def Zdo : Spec := Spec.mk [OSh.ro, OSh.box (114 : Nat) [Sh.sl (2 : Nat), Sh.int .i64, Sh.int .u64], OSh.fx (Ty.int .u8), OSh.box (53 : Nat) [Sh.int .i64, Sh.int .i64, Sh.sl (4 : Nat)], OSh.row true (79 : Nat) (Ty.pair (Ty.int .i64) (Ty.int .i64)), OSh.box (53 : Nat) [Sh.int .i64, Sh.int .i64, Sh.sl (6 : Nat)], OSh.row true (79 : Nat) (Ty.pair (Ty.int .i64) (Ty.int .i64))] [((0 : Nat), TSh.at (Sh.ptr (1 : Nat) (0 : Nat))), ((2 : Nat), TSh.at (Sh.ptr (3 : Nat) (0 : Nat))), ((4 : Nat), TSh.at (Sh.ptr (5 : Nat) (0 : Nat))), ((5 : Nat), TSh.at (Sh.int .i64)), ((34 : Nat), TSh.at (Sh.int .i64)), ((35 : Nat), TSh.at (Sh.int .i64))]
noncomputable def ZkW : Spec := Spec.mk [OSh.ro, OSh.box (114 : Nat) [Sh.sl (2 : Nat), Sh.int .i64, Sh.int .u64], OSh.fx (Ty.int .u8), OSh.box (53 : Nat) [Sh.int .i64, Sh.int .i64, Sh.sl (4 : Nat)], OSh.row true (79 : Nat) (Ty.pair (Ty.int .i64) (Ty.int .i64)), OSh.box (53 : Nat) [Sh.int .i64, Sh.int .i64, Sh.sl (6 : Nat)], OSh.row true (79 : Nat) (Ty.pair (Ty.int .i64) (Ty.int .i64))] [((0 : Nat), TSh.at (Sh.ptr (1 : Nat) (0 : Nat))), ((2 : Nat), TSh.at (Sh.ptr (3 : Nat) (0 : Nat))), ((4 : Nat), TSh.at (Sh.ptr (5 : Nat) (0 : Nat))), ((34 : Nat), TSh.at (Sh.int .i64)), ((35 : Nat), TSh.at (Sh.int .i64))]
noncomputable def Z1N : LoopDef (Tup ZS × OutD) := .plain Zdo ZkW (Int × Int × List Int × Int × Int × List (Int × Int) × Int × Int × List (Int × Int) × Int × Int) (fun k x => Z25 k x.1.2.1.2.1 x.1.2.1.2.2.1 x.1.2.2.1 x.1.2.2.2.1.1 x.1.2.2.2.1.2.1 x.1.2.2.2.2.1 x.1.2.2.2.2.2.1.1 x.1.2.2.2.2.2.1.2.1 x.1.2.2.2.2.2.2.1 x.2.2.2.2.1 x.2.2.2.2.2.1 x.2.2.2.2.2.2.1) (fun z => (((), ((), z.1, z.2.1, ()), z.2.2.1, (z.2.2.2.1, z.2.2.2.2.1, (), ()), z.2.2.2.2.2.1, (z.2.2.2.2.2.2.1, z.2.2.2.2.2.2.2.1, (), ()), z.2.2.2.2.2.2.2.2.1, ()), ((), (), (), z.2.2.2.2.2.2.2.2.2.1, z.2.2.2.2.2.2.2.2.2.2, ()))) (fun y => (y.1.2.1.2.1, y.1.2.1.2.2.1, y.1.2.2.1, y.1.2.2.2.1.1, y.1.2.2.2.1.2.1, y.1.2.2.2.2.1, y.1.2.2.2.2.2.1.1, y.1.2.2.2.2.2.1.2.1, y.1.2.2.2.2.2.2.1, y.2.2.2.2.1, y.2.2.2.2.2.1)) (fun _ => rfl)
theorem Zl3 (k : Nat) (b1_1 : Int) (b1_2 : Int) (o2 : List Int) (b3_0 : Int) (b3_1 : Int) (o4 : List (Int × Int)) (b5_0 : Int) (b5_1 : Int) (o6 : List (Int × Int)) (v5 : Int) (v34 : Int) (v35 : Int) : Z51 k b1_1 b1_2 o2 b3_0 b3_1 o4 b5_0 b5_1 o6 v5 v34 v35 = repl 2 (Z25 k b1_1 b1_2 o2 b3_0 b3_1 o4 b5_0 b5_1 o6 v5 v34 v35) := by
 first
 | (simp only [Z51, Z25, Zz, ZT, Zx, Zy, Zw, Za, if_true]; done)
 | (simp only [Z51, Z25, Zz, ZT, Zx, Zy, Zw, Za, if_true]; simp only [Z2E, Z2G, Z5g, Za]; simp only [Z72]; exact Z3w ⟨fun h => by simp only [h, and_self], fun h => by simp only [h, and_self]⟩)
noncomputable def Z2x : Nat → Int → Int → List Int → Int → Int → List (Int × Int) → Int → Int → List (Int × Int) → Int → Int → Option (Int × Int × List Int × Int × Int × List (Int × Int) × Int × Int × List (Int × Int))
 | 0, _, _, _, _, _, _, _, _, _, _, _ => none
 | k + 1, b1_1, b1_2, o2, b3_0, b3_1, o4, b5_0, b5_1, o6, v34, v35 =>
  if decide (v35 < v34) = true then Option.bind (Z25 k b1_1 b1_2 o2 b3_0 b3_1 o4 b5_0 b5_1 o6 v35 v34 v35) fun z8 => Z2x k z8.1 z8.2.1 z8.2.2.1 z8.2.2.2.1 z8.2.2.2.2.1 z8.2.2.2.2.2.1 z8.2.2.2.2.2.2.1 z8.2.2.2.2.2.2.2.1 z8.2.2.2.2.2.2.2.2.1 z8.2.2.2.2.2.2.2.2.2.1 (wrap64 (Prod.snd z8.2.2.2.2.2.2.2.2.2 + (1 : Int))) else some (b1_1, b1_2, o2, b3_0, b3_1, o4, b5_0, b5_1, o6)
noncomputable def Z9S : Spec := Spec.mk [OSh.ro, OSh.box (114 : Nat) [Sh.sl (2 : Nat), Sh.int .i64, Sh.int .u64], OSh.fx (Ty.int .u8), OSh.box (53 : Nat) [Sh.int .i64, Sh.int .i64, Sh.sl (4 : Nat)], OSh.row true (79 : Nat) (Ty.pair (Ty.int .i64) (Ty.int .i64)), OSh.box (53 : Nat) [Sh.int .i64, Sh.int .i64, Sh.sl (6 : Nat)], OSh.row true (79 : Nat) (Ty.pair (Ty.int .i64) (Ty.int .i64))] [((0 : Nat), TSh.at (Sh.ptr (1 : Nat) (0 : Nat))), ((2 : Nat), TSh.at (Sh.ptr (3 : Nat) (0 : Nat))), ((4 : Nat), TSh.at (Sh.ptr (5 : Nat) (0 : Nat))), ((34 : Nat), TSh.at (Sh.int .i64)), ((35 : Nat), TSh.at (Sh.int .i64))]
noncomputable def Zoj : Spec := Spec.mk [OSh.ro, OSh.box (114 : Nat) [Sh.sl (2 : Nat), Sh.int .i64, Sh.int .u64], OSh.fx (Ty.int .u8), OSh.box (53 : Nat) [Sh.int .i64, Sh.int .i64, Sh.sl (4 : Nat)], OSh.row true (79 : Nat) (Ty.pair (Ty.int .i64) (Ty.int .i64)), OSh.box (53 : Nat) [Sh.int .i64, Sh.int .i64, Sh.sl (6 : Nat)], OSh.row true (79 : Nat) (Ty.pair (Ty.int .i64) (Ty.int .i64))] [((0 : Nat), TSh.at (Sh.ptr (1 : Nat) (0 : Nat))), ((2 : Nat), TSh.at (Sh.ptr (3 : Nat) (0 : Nat))), ((4 : Nat), TSh.at (Sh.ptr (5 : Nat) (0 : Nat)))]
noncomputable def Z2l : LoopDef (Tup ZS × OutD) := .plain Z9S Zoj (Int × Int × List Int × Int × Int × List (Int × Int) × Int × Int × List (Int × Int)) (fun k x => Z2x k x.1.2.1.2.1 x.1.2.1.2.2.1 x.1.2.2.1 x.1.2.2.2.1.1 x.1.2.2.2.1.2.1 x.1.2.2.2.2.1 x.1.2.2.2.2.2.1.1 x.1.2.2.2.2.2.1.2.1 x.1.2.2.2.2.2.2.1 x.2.2.2.2.1 x.2.2.2.2.2.1) (fun z => (((), ((), z.1, z.2.1, ()), z.2.2.1, (z.2.2.2.1, z.2.2.2.2.1, (), ()), z.2.2.2.2.2.1, (z.2.2.2.2.2.2.1, z.2.2.2.2.2.2.2.1, (), ()), z.2.2.2.2.2.2.2.2, ()), ((), (), (), ()))) (fun y => (y.1.2.1.2.1, y.1.2.1.2.2.1, y.1.2.2.1, y.1.2.2.2.1.1, y.1.2.2.2.1.2.1, y.1.2.2.2.2.1, y.1.2.2.2.2.2.1.1, y.1.2.2.2.2.2.1.2.1, y.1.2.2.2.2.2.2.1)) (fun _ => rfl)
noncomputable def Z23 : Nat → Int → Int → List Int → Int → Int → List (Int × Int) → Int → Int → List (Int × Int) → Option (Int × Int × List Int × Int × Int × List (Int × Int) × Int × Int × List (Int × Int)) := fun k b1_1 b1_2 o2 b3_0 b3_1 o4 b5_0 b5_1 o6 =>
    Option.bind (Z1 k (o2, b1_1, b1_2) (9 : Int)) fun z11 => if (0 : Int) ≤ Prod.fst z11 then if Prod.fst z11 < (↑(List.length o6) : Int) then some (Prod.fst z11.2, Prod.snd z11.2, o2, b3_0, b3_1, o4, b5_0, b5_1, List.set o6 (Int.toNat z11.1) ((0 : Int), (0 : Int))) else none else none
noncomputable def Z5b : Nat → Int → Int → List Int → Int → Int → List (Int × Int) → Int → Int → List (Int × Int) → Option (List (Int × Int × List Int × Int × Int × List (Int × Int) × Int × Int × List (Int × Int))) := fun k b1_1 b1_2 o2 b3_0 b3_1 o4 b5_0 b5_1 o6 =>
    joinL (Option.bind (Z1 k (o2, b1_1, b1_2) (9 : Int)) fun z12 => if (0 : Int) ≤ Prod.fst z12 then if Prod.fst z12 < (↑(List.length o6) : Int) then some [(Prod.fst z12.2, Prod.snd z12.2, o2, b3_0, b3_1, o4, b5_0, b5_1, List.set o6 (Int.toNat z12.1) ((0 : Int), (0 : Int)))] else none else none) (Option.bind (Z1 k (o2, b1_1, b1_2) (9 : Int)) fun z13 => if (0 : Int) ≤ Prod.fst z13 then if Prod.fst z13 < (↑(List.length o6) : Int) then some [(Prod.fst z13.2, Prod.snd z13.2, o2, b3_0, b3_1, o4, b5_0, b5_1, List.set o6 (Int.toNat z13.1) ((0 : Int), (0 : Int)))] else none else none)
noncomputable def Zdl : Spec := Spec.mk [OSh.ro, OSh.box (114 : Nat) [Sh.sl (2 : Nat), Sh.int .i64, Sh.int .u64], OSh.fx (Ty.int .u8), OSh.box (53 : Nat) [Sh.int .i64, Sh.int .i64, Sh.sl (4 : Nat)], OSh.row true (79 : Nat) (Ty.pair (Ty.int .i64) (Ty.int .i64)), OSh.box (53 : Nat) [Sh.int .i64, Sh.int .i64, Sh.sl (6 : Nat)], OSh.row true (79 : Nat) (Ty.pair (Ty.int .i64) (Ty.int .i64))] [((0 : Nat), TSh.at (Sh.ptr (1 : Nat) (0 : Nat))), ((2 : Nat), TSh.at (Sh.ptr (3 : Nat) (0 : Nat))), ((4 : Nat), TSh.at (Sh.ptr (5 : Nat) (0 : Nat)))]
noncomputable def ZkM : Spec := Spec.mk [OSh.ro, OSh.box (114 : Nat) [Sh.sl (2 : Nat), Sh.int .i64, Sh.int .u64], OSh.fx (Ty.int .u8), OSh.box (53 : Nat) [Sh.int .i64, Sh.int .i64, Sh.sl (4 : Nat)], OSh.row true (79 : Nat) (Ty.pair (Ty.int .i64) (Ty.int .i64)), OSh.box (53 : Nat) [Sh.int .i64, Sh.int .i64, Sh.sl (6 : Nat)], OSh.row true (79 : Nat) (Ty.pair (Ty.int .i64) (Ty.int .i64))] [((2 : Nat), TSh.at (Sh.ptr (3 : Nat) (0 : Nat))), ((4 : Nat), TSh.at (Sh.ptr (5 : Nat) (0 : Nat)))]
noncomputable def Z1P : LoopDef (Tup ZS × OutD) := .plain Zdl ZkM (Int × Int × List Int × Int × Int × List (Int × Int) × Int × Int × List (Int × Int)) (fun k x => Z23 k x.1.2.1.2.1 x.1.2.1.2.2.1 x.1.2.2.1 x.1.2.2.2.1.1 x.1.2.2.2.1.2.1 x.1.2.2.2.2.1 x.1.2.2.2.2.2.1.1 x.1.2.2.2.2.2.1.2.1 x.1.2.2.2.2.2.2.1) (fun z => (((), ((), z.1, z.2.1, ()), z.2.2.1, (z.2.2.2.1, z.2.2.2.2.1, (), ()), z.2.2.2.2.2.1, (z.2.2.2.2.2.2.1, z.2.2.2.2.2.2.2.1, (), ()), z.2.2.2.2.2.2.2.2, ()), ((), (), ()))) (fun y => (y.1.2.1.2.1, y.1.2.1.2.2.1, y.1.2.2.1, y.1.2.2.2.1.1, y.1.2.2.2.1.2.1, y.1.2.2.2.2.1, y.1.2.2.2.2.2.1.1, y.1.2.2.2.2.2.1.2.1, y.1.2.2.2.2.2.2.1)) (fun _ => rfl)
theorem ZkR (k : Nat) (b1_1 : Int) (b1_2 : Int) (o2 : List Int) (b3_0 : Int) (b3_1 : Int) (o4 : List (Int × Int)) (b5_0 : Int) (b5_1 : Int) (o6 : List (Int × Int)) : Z5b k b1_1 b1_2 o2 b3_0 b3_1 o4 b5_0 b5_1 o6 = repl 2 (Z23 k b1_1 b1_2 o2 b3_0 b3_1 o4 b5_0 b5_1 o6) := by
 first
 | (simp only [Z5b, Z23, Zz, ZT, Zx, Zy, Zw, Za, if_true]; done)
 | (simp only [Z5b, Z23, Zz, ZT, Zx, Zy, Zw, Za, if_true]; simp only [Z2E, Z2G, Z5g, Za]; simp only [Z72]; exact Z3w ⟨fun h => by simp only [h, and_self], fun h => by simp only [h, and_self]⟩)
noncomputable def Z95 : Nat → Int → Int → List Int → Int → Int → List (Int × Int) → Int → Int → List (Int × Int) → Bool → Option (Int × Int × List Int × Int × Int × List (Int × Int) × Int × Int × List (Int × Int)) := fun k b1_1 b1_2 o2 b3_0 b3_1 o4 b5_0 b5_1 o6 v48 =>
    if v48 = true then Option.bind (Z23 k b1_1 b1_2 o2 b3_0 b3_1 o4 b5_0 b5_1 o6) fun z14 => some (Prod.fst z14, Prod.fst z14.2, Prod.fst z14.2.2, Prod.fst z14.2.2.2, Prod.fst z14.2.2.2.2, Prod.fst z14.2.2.2.2.2, Prod.fst z14.2.2.2.2.2.2, Prod.fst z14.2.2.2.2.2.2.2, Prod.snd z14.2.2.2.2.2.2.2) else some (b1_1, b1_2, o2, b3_0, b3_1, o4, b5_0, b5_1, o6)
noncomputable def Zl6 : Spec := Spec.mk [OSh.ro, OSh.box (114 : Nat) [Sh.sl (2 : Nat), Sh.int .i64, Sh.int .u64], OSh.fx (Ty.int .u8), OSh.box (53 : Nat) [Sh.int .i64, Sh.int .i64, Sh.sl (4 : Nat)], OSh.row true (79 : Nat) (Ty.pair (Ty.int .i64) (Ty.int .i64)), OSh.box (53 : Nat) [Sh.int .i64, Sh.int .i64, Sh.sl (6 : Nat)], OSh.row true (79 : Nat) (Ty.pair (Ty.int .i64) (Ty.int .i64))] [((0 : Nat), TSh.at (Sh.ptr (1 : Nat) (0 : Nat))), ((2 : Nat), TSh.at (Sh.ptr (3 : Nat) (0 : Nat))), ((4 : Nat), TSh.at (Sh.ptr (5 : Nat) (0 : Nat))), ((48 : Nat), TSh.at Sh.bool)]
noncomputable def Zll : Spec := Spec.mk [OSh.ro, OSh.box (114 : Nat) [Sh.sl (2 : Nat), Sh.int .i64, Sh.int .u64], OSh.fx (Ty.int .u8), OSh.box (53 : Nat) [Sh.int .i64, Sh.int .i64, Sh.sl (4 : Nat)], OSh.row true (79 : Nat) (Ty.pair (Ty.int .i64) (Ty.int .i64)), OSh.box (53 : Nat) [Sh.int .i64, Sh.int .i64, Sh.sl (6 : Nat)], OSh.row true (79 : Nat) (Ty.pair (Ty.int .i64) (Ty.int .i64))] [((2 : Nat), TSh.at (Sh.ptr (3 : Nat) (0 : Nat))), ((4 : Nat), TSh.at (Sh.ptr (5 : Nat) (0 : Nat)))]
noncomputable def Zp : LoopDef (Tup ZS × OutD) := .plain Zl6 Zll (Int × Int × List Int × Int × Int × List (Int × Int) × Int × Int × List (Int × Int)) (fun k x => Z95 k x.1.2.1.2.1 x.1.2.1.2.2.1 x.1.2.2.1 x.1.2.2.2.1.1 x.1.2.2.2.1.2.1 x.1.2.2.2.2.1 x.1.2.2.2.2.2.1.1 x.1.2.2.2.2.2.1.2.1 x.1.2.2.2.2.2.2.1 x.2.2.2.2.1) (fun z => (((), ((), z.1, z.2.1, ()), z.2.2.1, (z.2.2.2.1, z.2.2.2.2.1, (), ()), z.2.2.2.2.2.1, (z.2.2.2.2.2.2.1, z.2.2.2.2.2.2.2.1, (), ()), z.2.2.2.2.2.2.2.2, ()), ((), (), ()))) (fun y => (y.1.2.1.2.1, y.1.2.1.2.2.1, y.1.2.2.1, y.1.2.2.2.1.1, y.1.2.2.2.1.2.1, y.1.2.2.2.2.1, y.1.2.2.2.2.2.1.1, y.1.2.2.2.2.2.1.2.1, y.1.2.2.2.2.2.2.1)) (fun _ => rfl)
noncomputable def Z1Y : Nat → Int → Int → List Int → Int → Int → List (Int × Int) → Int → Int → List (Int × Int) → Int → Int → Int → Int → Option (Int × Int × List Int × Int × Int × List (Int × Int) × Int × Int × List (Int × Int) × Int × Int × Int) := fun k b1_1 b1_2 o2 b3_0 b3_1 o4 b5_0 b5_1 o6 v7 v8 v66 v67 =>
    Option.bind (Zh k (o2, b1_1, b1_2) [(1 : Int), (2 : Int), (4 : Int)]) fun z20 => if (0 : Int) ≤ v8 then if v8 < (↑(List.length o6) : Int) then some (Prod.fst z20.2, Prod.snd z20.2, o2, b3_0, b3_1, o4, b5_0, b5_1, List.set o6 (Int.toNat v8) (Prod.fst z20, (0 : Int)), v7, v66, v67) else none else none
noncomputable def Z59 : Nat → Int → Int → List Int → Int → Int → List (Int × Int) → Int → Int → List (Int × Int) → Int → Int → Int → Int → Option (List (Int × Int × List Int × Int × Int × List (Int × Int) × Int × Int × List (Int × Int) × Int × Int × Int)) := fun k b1_1 b1_2 o2 b3_0 b3_1 o4 b5_0 b5_1 o6 v7 v8 v66 v67 =>
    joinL (Option.bind (Zh k (o2, b1_1, b1_2) [(1 : Int), (2 : Int), (4 : Int)]) fun z21 => if (0 : Int) ≤ v8 then if v8 < (↑(List.length o6) : Int) then some [(Prod.fst z21.2, Prod.snd z21.2, o2, b3_0, b3_1, o4, b5_0, b5_1, List.set o6 (Int.toNat v8) (Prod.fst z21, (0 : Int)), v7, v66, v67)] else none else none) (joinL (Option.bind (Zh k (o2, b1_1, b1_2) [(1 : Int), (2 : Int), (4 : Int)]) fun z22 => if (0 : Int) ≤ v8 then if v8 < (↑(List.length o6) : Int) then some [(Prod.fst z22.2, Prod.snd z22.2, o2, b3_0, b3_1, o4, b5_0, b5_1, List.set o6 (Int.toNat v8) (Prod.fst z22, (0 : Int)), v7, v66, v67)] else none else none) (Option.bind (Zh k (o2, b1_1, b1_2) [(1 : Int), (2 : Int), (4 : Int)]) fun z23 => if (0 : Int) ≤ v8 then if v8 < (↑(List.length o6) : Int) then some [(Prod.fst z23.2, Prod.snd z23.2, o2, b3_0, b3_1, o4, b5_0, b5_1, List.set o6 (Int.toNat v8) (Prod.fst z23, (0 : Int)), v7, v66, v67)] else none else none))
noncomputable def Zdi : Spec := Spec.mk [OSh.ro, OSh.box (114 : Nat) [Sh.sl (2 : Nat), Sh.int .i64, Sh.int .u64], OSh.fx (Ty.int .u8), OSh.box (53 : Nat) [Sh.int .i64, Sh.int .i64, Sh.sl (4 : Nat)], OSh.row true (79 : Nat) (Ty.pair (Ty.int .i64) (Ty.int .i64)), OSh.box (53 : Nat) [Sh.int .i64, Sh.int .i64, Sh.sl (6 : Nat)], OSh.row true (79 : Nat) (Ty.pair (Ty.int .i64) (Ty.int .i64))] [((0 : Nat), TSh.at (Sh.ptr (1 : Nat) (0 : Nat))), ((2 : Nat), TSh.at (Sh.ptr (3 : Nat) (0 : Nat))), ((6 : Nat), TSh.at (Sh.ptr (5 : Nat) (0 : Nat))), ((7 : Nat), TSh.at (Sh.int .i64)), ((8 : Nat), TSh.at (Sh.int .i64)), ((65 : Nat), TSh.at (Sh.sl (6 : Nat))), ((66 : Nat), TSh.at (Sh.int .i64)), ((67 : Nat), TSh.at (Sh.int .i64))]
noncomputable def Zl1 : Spec := Spec.mk [OSh.ro, OSh.box (114 : Nat) [Sh.sl (2 : Nat), Sh.int .i64, Sh.int .u64], OSh.fx (Ty.int .u8), OSh.box (53 : Nat) [Sh.int .i64, Sh.int .i64, Sh.sl (4 : Nat)], OSh.row true (79 : Nat) (Ty.pair (Ty.int .i64) (Ty.int .i64)), OSh.box (53 : Nat) [Sh.int .i64, Sh.int .i64, Sh.sl (6 : Nat)], OSh.row true (79 : Nat) (Ty.pair (Ty.int .i64) (Ty.int .i64))] [((0 : Nat), TSh.at (Sh.ptr (1 : Nat) (0 : Nat))), ((2 : Nat), TSh.at (Sh.ptr (3 : Nat) (0 : Nat))), ((6 : Nat), TSh.at (Sh.ptr (5 : Nat) (0 : Nat))), ((7 : Nat), TSh.at (Sh.int .i64)), ((65 : Nat), TSh.at (Sh.sl (6 : Nat))), ((66 : Nat), TSh.at (Sh.int .i64)), ((67 : Nat), TSh.at (Sh.int .i64))]
noncomputable def Z1M : LoopDef (Tup ZS × OutD) := .plain Zdi Zl1 (Int × Int × List Int × Int × Int × List (Int × Int) × Int × Int × List (Int × Int) × Int × Int × Int) (fun k x => Z1Y k x.1.2.1.2.1 x.1.2.1.2.2.1 x.1.2.2.1 x.1.2.2.2.1.1 x.1.2.2.2.1.2.1 x.1.2.2.2.2.1 x.1.2.2.2.2.2.1.1 x.1.2.2.2.2.2.1.2.1 x.1.2.2.2.2.2.2.1 x.2.2.2.2.1 x.2.2.2.2.2.1 x.2.2.2.2.2.2.2.1 x.2.2.2.2.2.2.2.2.1) (fun z => (((), ((), z.1, z.2.1, ()), z.2.2.1, (z.2.2.2.1, z.2.2.2.2.1, (), ()), z.2.2.2.2.2.1, (z.2.2.2.2.2.2.1, z.2.2.2.2.2.2.2.1, (), ()), z.2.2.2.2.2.2.2.2.1, ()), ((), (), (), z.2.2.2.2.2.2.2.2.2.1, (), z.2.2.2.2.2.2.2.2.2.2.1, z.2.2.2.2.2.2.2.2.2.2.2, ()))) (fun y => (y.1.2.1.2.1, y.1.2.1.2.2.1, y.1.2.2.1, y.1.2.2.2.1.1, y.1.2.2.2.1.2.1, y.1.2.2.2.2.1, y.1.2.2.2.2.2.1.1, y.1.2.2.2.2.2.1.2.1, y.1.2.2.2.2.2.2.1, y.2.2.2.2.1, y.2.2.2.2.2.2.1, y.2.2.2.2.2.2.2.1)) (fun _ => rfl)
theorem Zlf (k : Nat) (b1_1 : Int) (b1_2 : Int) (o2 : List Int) (b3_0 : Int) (b3_1 : Int) (o4 : List (Int × Int)) (b5_0 : Int) (b5_1 : Int) (o6 : List (Int × Int)) (v7 : Int) (v8 : Int) (v66 : Int) (v67 : Int) : Z59 k b1_1 b1_2 o2 b3_0 b3_1 o4 b5_0 b5_1 o6 v7 v8 v66 v67 = repl 3 (Z1Y k b1_1 b1_2 o2 b3_0 b3_1 o4 b5_0 b5_1 o6 v7 v8 v66 v67) := by
 first
 | (simp only [Z59, Z1Y, Zz, ZT, Zx, Zy, Zw, Za, if_true]; done)
 | (simp only [Z59, Z1Y, Zz, ZT, Zx, Zy, Zw, Za, if_true]; simp only [Z2E, Z2G, Z5g, Za]; simp only [Z72]; exact Z3w ⟨fun h => by simp only [h, and_self], fun h => by simp only [h, and_self]⟩)
noncomputable def Z1m : Nat → Int → Int → List Int → Int → Int → List (Int × Int) → Int → Int → List (Int × Int) → Int → Int → Int → Option (Int × Int × List Int × Int × Int × List (Int × Int) × Int × Int × List (Int × Int))
 | 0, _, _, _, _, _, _, _, _, _, _, _, _ => none
 | k + 1, b1_1, b1_2, o2, b3_0, b3_1, o4, b5_0, b5_1, o6, v7, v66, v67 =>
  if decide (v67 < v66) = true then if (0 : Int) ≤ v67 then if v67 < (↑(List.length o6) : Int) then Option.bind (Z3C k (Prod.fst (List.getD o6 (Int.toNat v67) ((0 : Int), (0 : Int))), Prod.snd (List.getD o6 (Int.toNat v67) ((0 : Int), (0 : Int))))) fun z19 => if z19 = true then if decide (wrap64 (v7 + (1 : Int)) > (5 : Int)) = true then Option.bind (Z1Y k b1_1 b1_2 o2 b3_0 b3_1 o4 b5_0 b5_1 o6 (wrap64 (v7 + (1 : Int))) v67 v66 v67) fun z24 => Z1m k z24.1 z24.2.1 z24.2.2.1 z24.2.2.2.1 z24.2.2.2.2.1 z24.2.2.2.2.2.1 z24.2.2.2.2.2.2.1 z24.2.2.2.2.2.2.2.1 z24.2.2.2.2.2.2.2.2.1 z24.2.2.2.2.2.2.2.2.2.1 z24.2.2.2.2.2.2.2.2.2.2.1 (wrap64 (Prod.snd z24.2.2.2.2.2.2.2.2.2.2 + (1 : Int))) else Z1m k b1_1 b1_2 o2 b3_0 b3_1 o4 b5_0 b5_1 o6 (wrap64 (v7 + (1 : Int))) v66 (wrap64 (v67 + (1 : Int))) else Z1m k b1_1 b1_2 o2 b3_0 b3_1 o4 b5_0 b5_1 o6 v7 v66 (wrap64 (v67 + (1 : Int))) else none else none else some (b1_1, b1_2, o2, b3_0, b3_1, o4, b5_0, b5_1, o6)
noncomputable def Z9T : Spec := Spec.mk [OSh.ro, OSh.box (114 : Nat) [Sh.sl (2 : Nat), Sh.int .i64, Sh.int .u64], OSh.fx (Ty.int .u8), OSh.box (53 : Nat) [Sh.int .i64, Sh.int .i64, Sh.sl (4 : Nat)], OSh.row true (79 : Nat) (Ty.pair (Ty.int .i64) (Ty.int .i64)), OSh.box (53 : Nat) [Sh.int .i64, Sh.int .i64, Sh.sl (6 : Nat)], OSh.row true (79 : Nat) (Ty.pair (Ty.int .i64) (Ty.int .i64))] [((0 : Nat), TSh.at (Sh.ptr (1 : Nat) (0 : Nat))), ((2 : Nat), TSh.at (Sh.ptr (3 : Nat) (0 : Nat))), ((6 : Nat), TSh.at (Sh.ptr (5 : Nat) (0 : Nat))), ((7 : Nat), TSh.at (Sh.int .i64)), ((65 : Nat), TSh.at (Sh.sl (6 : Nat))), ((66 : Nat), TSh.at (Sh.int .i64)), ((67 : Nat), TSh.at (Sh.int .i64))]
noncomputable def Zok : Spec := Spec.mk [OSh.ro, OSh.box (114 : Nat) [Sh.sl (2 : Nat), Sh.int .i64, Sh.int .u64], OSh.fx (Ty.int .u8), OSh.box (53 : Nat) [Sh.int .i64, Sh.int .i64, Sh.sl (4 : Nat)], OSh.row true (79 : Nat) (Ty.pair (Ty.int .i64) (Ty.int .i64)), OSh.box (53 : Nat) [Sh.int .i64, Sh.int .i64, Sh.sl (6 : Nat)], OSh.row true (79 : Nat) (Ty.pair (Ty.int .i64) (Ty.int .i64))] [((2 : Nat), TSh.at (Sh.ptr (3 : Nat) (0 : Nat))), ((6 : Nat), TSh.at (Sh.ptr (5 : Nat) (0 : Nat)))]
noncomputable def Z2m : LoopDef (Tup ZS × OutD) := .plain Z9T Zok (Int × Int × List Int × Int × Int × List (Int × Int) × Int × Int × List (Int × Int)) (fun k x => Z1m k x.1.2.1.2.1 x.1.2.1.2.2.1 x.1.2.2.1 x.1.2.2.2.1.1 x.1.2.2.2.1.2.1 x.1.2.2.2.2.1 x.1.2.2.2.2.2.1.1 x.1.2.2.2.2.2.1.2.1 x.1.2.2.2.2.2.2.1 x.2.2.2.2.1 x.2.2.2.2.2.2.1 x.2.2.2.2.2.2.2.1) (fun z => (((), ((), z.1, z.2.1, ()), z.2.2.1, (z.2.2.2.1, z.2.2.2.2.1, (), ()), z.2.2.2.2.2.1, (z.2.2.2.2.2.2.1, z.2.2.2.2.2.2.2.1, (), ()), z.2.2.2.2.2.2.2.2, ()), ((), (), ()))) (fun y => (y.1.2.1.2.1, y.1.2.1.2.2.1, y.1.2.2.1, y.1.2.2.2.1.1, y.1.2.2.2.1.2.1, y.1.2.2.2.2.1, y.1.2.2.2.2.2.1.1, y.1.2.2.2.2.2.1.2.1, y.1.2.2.2.2.2.2.1)) (fun _ => rfl)
noncomputable def Z8v : Nat → List Int × Int × Int → Option ((Int × Int × List (Int × Int)) × Int × Int)
 | 0, _ => none
 | k + 1, p0 =>
  Option.bind (Z1 k (Prod.fst p0, Prod.fst p0.2, Prod.snd p0.2) (8 : Int)) fun z0 => if decide (Prod.fst z0 = (0 : Int)) = true then Option.bind (ZA k (Prod.fst p0, Prod.fst z0.2, Prod.snd z0.2)) fun z1 => some ((Prod.fst z1.1, Prod.fst z1.1.2, Prod.snd z1.1.2), Prod.fst z1.2, Prod.snd z1.2) else if decide (Prod.fst z0 = (1 : Int)) = true then Option.bind (Z1 k (Prod.fst p0, Prod.fst z0.2, Prod.snd z0.2) (3 : Int)) fun z2 => if IntKind.wrap IntKind.u64 (wrap64 ((1 : Int) + Prod.fst z2)) < (0 : Int) then none else Option.bind (Z1 k (Prod.fst p0, Prod.fst z2.2, Prod.snd z2.2) (shlS (1 : Int) (IntKind.wrap IntKind.u64 (wrap64 ((1 : Int) + Prod.fst z2))))) fun z3 => Option.bind (Zfb k (wrap64 ((1 : Int) + Prod.fst z2)) z3.1) fun z4 => some ((Prod.fst z4, Prod.fst z4.2, Prod.snd z4.2), Prod.fst z3.2, Prod.snd z3.2) else if decide (Prod.fst z0 = (2 : Int)) = true then Option.bind (Z2x k z0.2.1 z0.2.2 p0.1 (0 : Int) (0 : Int) [] (3 : Int) (3 : Int) (List.replicate (Int.toNat (9 : Int)) ((0 : Int), (0 : Int))) (↑(List.length (List.replicate (Int.toNat (9 : Int)) ((0 : Int), (0 : Int)))) : Int) (0 : Int)) fun z9 => Option.bind (ZO k (Prod.fst z9.2.2, Prod.fst z9, Prod.fst z9.2) (3 : Int)) fun z10 => Option.bind (Z95 k z10.2.1 z10.2.2 z9.2.2.1 z9.2.2.2.1 z9.2.2.2.2.1 z9.2.2.2.2.2.1 z9.2.2.2.2.2.2.1 z9.2.2.2.2.2.2.2.1 z9.2.2.2.2.2.2.2.2 !Prod.fst z10) fun z15 => some ((Prod.fst z15.2.2.2.2.2.2, Prod.fst z15.2.2.2.2.2.2.2, Prod.snd z15.2.2.2.2.2.2.2), Prod.fst z15, Prod.fst z15.2) else Option.bind (Z1 k (Prod.fst p0, Prod.fst z0.2, Prod.snd z0.2) (4 : Int)) fun z16 => Option.bind (Z1 k (Prod.fst p0, Prod.fst z16.2, Prod.snd z16.2) (4 : Int)) fun z17 => Option.bind (Z1o k (Prod.fst p0, Prod.fst z17.2, Prod.snd z17.2) (wrap64 ((1 : Int) + Prod.fst z16)) (wrap64 ((1 : Int) + Prod.fst z17))) fun z18 => Option.bind (Z1m k z18.2.1 z18.2.2 p0.1 (0 : Int) (0 : Int) [] z18.1.1 z18.1.2.1 z18.1.2.2 (0 : Int) (↑(List.length z18.1.2.2) : Int) (0 : Int)) fun z25 => some ((Prod.fst z25.2.2.2.2.2.2, Prod.fst z25.2.2.2.2.2.2.2, Prod.snd z25.2.2.2.2.2.2.2), Prod.fst z25, Prod.fst z25.2)
noncomputable def Z1E : FnDef := .of Zhc ZS ((Int × Int × List (Int × Int)) × Int × Int) (fun k x => Z8v k x.1) ZfV Zbq ZmE
noncomputable def Z13 : Code := Try.f200.body.getD .skip
noncomputable def Z2 : Ctx (Tup ZS × OutD) := { T := T, G := [(111, Zm.E), (177, Z1e.E), (204, Z5q.E), (150, Z1u.E), (197, Z1d.E), (207, Z1s.E), (90, ZQ.E)], mvs := [], no := 2, n := 88, res := resOf T Zhc ZS Try.f200.results.toList, loops := [(1, Z2l.E), (3, Z2m.E)], regs := [(12, Z1N.E), (15, Z1P.E), (25, Z1M.E)], conds := [(48, Zp.E)] }
theorem Z2q (k : Nat) : EnvOK Try.prog k Z2.G := (EnvOK.cons (Z1n k) (EnvOK.cons (ZgR k) (EnvOK.cons (ZEi k) (EnvOK.cons (ZcG k) (EnvOK.cons (Zdd k) (EnvOK.cons (Zcy k) (EnvOK.cons (Z5D k) (EnvOK.nil mixed))))))))
noncomputable def Z8O : Array Oper := (findReg 12 Z13).getD #[]
theorem ZkD (k : Nat) (x : Zdo.D) : execD Z2.T Z2.G Z2.mvs k Z8O (Z1N.inp.st Z2.n x) (outK Z2 Z1N) = Z51 k x.1.2.1.2.1 x.1.2.1.2.2.1 x.1.2.2.1 x.1.2.2.2.1.1 x.1.2.2.2.1.2.1 x.1.2.2.2.2.1 x.1.2.2.2.2.2.1.1 x.1.2.2.2.2.2.1.2.1 x.1.2.2.2.2.2.2.1 x.2.2.2.2.1 x.2.2.2.2.2.1 x.2.2.2.2.2.2.1 := by kernel_rfl
theorem Zkp (k : Nat) : EOK Try.prog Z2 k Z1N.E (.region 12 Z8O true) := Z9Z (D := Z1N) (m := 2) T_ok (Z2q k) (fun x => (ZkD k x).trans (Zl3 k x.1.2.1.2.1 x.1.2.1.2.2.1 x.1.2.2.1 x.1.2.2.2.1.1 x.1.2.2.2.1.2.1 x.1.2.2.2.2.1 x.1.2.2.2.2.2.1.1 x.1.2.2.2.2.2.1.2.1 x.1.2.2.2.2.2.2.1 x.2.2.2.2.1 x.2.2.2.2.2.1 x.2.2.2.2.2.2.1))
noncomputable def Z8P : Array Oper := (findReg 15 Z13).getD #[]
theorem ZkP (k : Nat) (x : Zdl.D) : execD Z2.T Z2.G Z2.mvs k Z8P (Z1P.inp.st Z2.n x) (outK Z2 Z1P) = Z5b k x.1.2.1.2.1 x.1.2.1.2.2.1 x.1.2.2.1 x.1.2.2.2.1.1 x.1.2.2.2.1.2.1 x.1.2.2.2.2.1 x.1.2.2.2.2.2.1.1 x.1.2.2.2.2.2.1.2.1 x.1.2.2.2.2.2.2.1 := by kernel_rfl
theorem Zke (k : Nat) : EOK Try.prog Z2 k Z1P.E (.region 15 Z8P true) := Z9Z (D := Z1P) (m := 2) T_ok (Z2q k) (fun x => (ZkP k x).trans (ZkR k x.1.2.1.2.1 x.1.2.1.2.2.1 x.1.2.2.1 x.1.2.2.2.1.1 x.1.2.2.2.1.2.1 x.1.2.2.2.2.1 x.1.2.2.2.2.2.1.1 x.1.2.2.2.2.2.1.2.1 x.1.2.2.2.2.2.2.1))
noncomputable def Z8L : Array Oper := (findReg 25 Z13).getD #[]
theorem ZkL (k : Nat) (x : Zdi.D) : execD Z2.T Z2.G Z2.mvs k Z8L (Z1M.inp.st Z2.n x) (outK Z2 Z1M) = Z59 k x.1.2.1.2.1 x.1.2.1.2.2.1 x.1.2.2.1 x.1.2.2.2.1.1 x.1.2.2.2.1.2.1 x.1.2.2.2.2.1 x.1.2.2.2.2.2.1.1 x.1.2.2.2.2.2.1.2.1 x.1.2.2.2.2.2.2.1 x.2.2.2.2.1 x.2.2.2.2.2.1 x.2.2.2.2.2.2.2.1 x.2.2.2.2.2.2.2.2.1 := by kernel_rfl
theorem ZjZ (k : Nat) : EOK Try.prog Z2 k Z1M.E (.region 25 Z8L true) := Z9Z (D := Z1M) (m := 3) T_ok (Z2q k) (fun x => (ZkL k x).trans (Zlf k x.1.2.1.2.1 x.1.2.1.2.2.1 x.1.2.2.1 x.1.2.2.2.1.1 x.1.2.2.2.1.2.1 x.1.2.2.2.2.1 x.1.2.2.2.2.2.1.1 x.1.2.2.2.2.2.1.2.1 x.1.2.2.2.2.2.2.1 x.2.2.2.2.1 x.2.2.2.2.2.1 x.2.2.2.2.2.2.2.1 x.2.2.2.2.2.2.2.2.1))
noncomputable def Z5Z : Code := (findLoop 1 Z13).getD .skip
theorem Zoa (k : Nat) (x : Z9S.D) : Z2l.lp (k + 1) x = loopK Z2 Z2l 1 Z5Z k x := by kernel_rfl
theorem ZnN (k : Nat) : LOK Try.prog Z2 k Z5Z := LOK.by [(Z1N.E, .region 12 Z8O true)] (by kernel_rfl) (AllOK.cons (Zkp k) AllOK.nil)
theorem Znd (x : Z9S.D) : Z2l.lp 0 x = none := by kernel_rfl
theorem Zmr (k : Nat) : EOK Try.prog Z2 k Z2l.E (.block 1 (.loop Z5Z)) := Z7 T_ok Z2q Znd Zoa ZnN k
noncomputable def Z57 : Code := ((findCond 48 Z13).map (·.1)).getD .skip
noncomputable def Z5a : Code := ((findCond 48 Z13).map (·.2)).getD .skip
theorem ZkI (k : Nat) (i : Zp.inp.D) : Zp.lp k i = branch (Zp.inp.st Z2.n i) (.tmp 48) (fun st => exec Z2 k Z57 st (outK Z2 Zp) (fun _ _ => none) Zp.mkB) (fun st => exec Z2 k Z5a st (outK Z2 Zp) (fun _ _ => none) Zp.mkB) := by kernel_rfl
theorem ZjU (k : Nat) : EOK Try.prog Z2 k Zp.E (.cond (.tmp 48) Z57 Z5a) := Zsq (D := Zp) T_ok (Z2q k) (ZkI k) (@LOK.by _ _ _ _ Z57 [(Z1P.E, .region 15 Z8P true)] (by kernel_rfl) (AllOK.cons (Zke k) AllOK.nil)) (@LOK.by _ _ _ _ Z5a [] (by kernel_rfl) AllOK.nil)
noncomputable def Z5S : Code := (findLoop 3 Z13).getD .skip
theorem ZmQ (k : Nat) (x : Z9T.D) : Z2m.lp (k + 1) x = loopK Z2 Z2m 3 Z5S k x := by kernel_rfl
theorem Zne (k : Nat) : LOK Try.prog Z2 k Z5S := LOK.by [(Z1M.E, .region 25 Z8L true)] (by kernel_rfl) (AllOK.cons (ZjZ k) AllOK.nil)
theorem ZmZ (x : Z9T.D) : Z2m.lp 0 x = none := by kernel_rfl
theorem Zm0 (k : Nat) : EOK Try.prog Z2 k Z2m.E (.block 3 (.loop Z5S)) := Z7 T_ok Z2q ZmZ ZmQ Zne k
theorem ZrL (k : Nat) (x : Tup Z1E.ps) : Z1E.f (k + 1) x = fnK Z1E Z2 Z13 k x := by kernel_rfl
theorem Zqt (x : Tup Z1E.ps) : Z1E.f 0 x = none := by kernel_rfl
theorem Zsm (k : Nat) : LOK Try.prog Z2 k Z13 := LOK.by [(Z2l.E, .block 1 (.loop Z5Z)), (Zp.E, .cond (.tmp 48) Z57 Z5a), (Z2m.E, .block 3 (.loop Z5S))] (by kernel_rfl) (AllOK.cons (Zmr k) (AllOK.cons (ZjU k) (AllOK.cons (Zm0 k) AllOK.nil)))
theorem ZqH (k : Nat) : SoundAt Try.prog k 200 Z1E.E := @Z4 Try.prog Z1E Z2 200 Try.f200 Z13 (by kernel_rfl) (by kernel_rfl) (by kernel_rfl) Try.func200 (by kernel_rfl) (by kernel_rfl) (by kernel_rfl) T_ok Z2q Zsm Zqt ZrL k
end
end Go.Proofs.Ytgjmhbjdhihgaaa.Vs

set_option maxRecDepth 100000
set_option maxHeartbeats 2000000
set_option linter.unusedVariables false
set_option linter.unusedSimpArgs false
namespace Go.Proofs.Ytgjmhbjdhihgaaa.Vs
open Go.RowKit
noncomputable section
noncomputable def Z6S : List PK := [PK.mk (Ty.slice (34 : Nat) (Ty.slice (3 : Nat) (Ty.int .i64))) false none false none, PK.mk Ty.bool false none false none]
noncomputable def ZiL : List PK := [PK.mk (Ty.pair (Ty.int .i64) (Ty.pair (Ty.int .i64) (Ty.slice (79 : Nat) (Ty.pair (Ty.int .i64) (Ty.int .i64))))) true none false none, PK.mk (Ty.slice (34 : Nat) (Ty.slice (3 : Nat) (Ty.int .i64))) false none false none]
noncomputable def Zii (r : List (List Int) × Bool) : Tup Z6S × OutD := ((r.1, r.2, ()), none)
noncomputable def Zi3 : Tup Z6S × OutD → Option (List (List Int) × Bool)
 | (a, none) => some (a.1, a.2.1)
 | _ => none
theorem Zoy : ∀ b r, Zi3 b = some r → Zii r = b := by
 rintro ⟨a, o⟩ r h
 cases o with
 | none => injection h with h; subst h; rfl
 | some _ => cases h
noncomputable def Zav : Nat → Int × Int × List (Int × Int) → List (List Int) → Option (List (List Int) × Bool)
 | 0, _, _ => none
 | k + 1, p0, p1 =>
  Option.bind (Z4a k (Prod.fst p0, Prod.fst p0.2, Prod.snd p0.2) p1) fun z0 => if (!z0) = true then some ([], false) else Option.bind (ZbZ k (Prod.fst p0, Prod.fst p0.2, Prod.snd p0.2) p1) fun z1 => Option.bind (Zey k p1) fun z2 => Option.bind (Zcq k z1 z2) fun z3 => Option.bind (Zf0 k z3) fun z4 => some (z4, true)
noncomputable def Z26 : FnDef := .of ZiL Z6S (List (List Int) × Bool) (fun k x => Zav k x.1 x.2.1) Zii Zi3 Zoy
noncomputable def ZdH : Code := Try.f71.body.getD .skip
noncomputable def Zak : Ctx (Tup Z6S × OutD) := { T := T, G := [(155, Z1q.E), (158, Z48.E), (159, Z63.E), (157, Z3A.E), (156, Z5v.E)], mvs := [], no := 0, n := 17, res := resOf T ZiL Z6S Try.f71.results.toList, loops := [], regs := [], conds := [] }
theorem Zwg (k : Nat) : EnvOK Try.prog k Zak.G := (EnvOK.cons (Z9H k) (EnvOK.cons (ZrK k) (EnvOK.cons (Zxq k) (EnvOK.cons (ZAL k) (EnvOK.cons (ZEd k) (EnvOK.nil mixed))))))
theorem Zv7 (k : Nat) (x : Tup Z26.ps) : Z26.f (k + 1) x = fnK Z26 Zak ZdH k x := by kernel_rfl
theorem Zwc (x : Tup Z26.ps) : Z26.f 0 x = none := by kernel_rfl
theorem Zv3 (k : Nat) : LOK Try.prog Zak k ZdH := LOK.by [] (by kernel_rfl) AllOK.nil
theorem Zw1 (k : Nat) : SoundAt Try.prog k 71 Z26.E := @Z4 Try.prog Z26 Zak 71 Try.f71 ZdH (by kernel_rfl) (by kernel_rfl) (by kernel_rfl) Try.func71 (by kernel_rfl) (by kernel_rfl) (by kernel_rfl) T_ok Zwg Zv3 Zwc Zv7 k
noncomputable def Z5K : List PK := [PK.mk (Ty.slice (3 : Nat) (Ty.int .i64)) false none false none, PK.mk Ty.bool false none false none]
noncomputable def Zh2 : List PK := [PK.mk (Ty.pair (Ty.int .i64) (Ty.pair (Ty.int .i64) (Ty.slice (79 : Nat) (Ty.pair (Ty.int .i64) (Ty.int .i64))))) true none false none, PK.mk (Ty.slice (34 : Nat) (Ty.slice (3 : Nat) (Ty.int .i64))) false none false none]
noncomputable def ZfY (r : List Int × Bool) : Tup Z5K × OutD := ((r.1, r.2, ()), none)
noncomputable def ZfQ : Tup Z5K × OutD → Option (List Int × Bool)
 | (a, none) => some (a.1, a.2.1)
 | _ => none
theorem Zmo : ∀ b r, ZfQ b = some r → ZfY r = b := by
 rintro ⟨a, o⟩ r h
 cases o with
 | none => injection h with h; subst h; rfl
 | some _ => cases h
noncomputable def Z8q : Nat → Int × Int × List (Int × Int) → List (List Int) → Option (List Int × Bool)
 | 0, _, _ => none
 | k + 1, p0, p1 =>
  Option.bind (Z4a k (Prod.fst p0, Prod.fst p0.2, Prod.snd p0.2) p1) fun z0 => if (!z0) = true then some ([], false) else Option.bind (ZbZ k (Prod.fst p0, Prod.fst p0.2, Prod.snd p0.2) p1) fun z1 => Option.bind (Zey k p1) fun z2 => Option.bind (ZbO k z1 z2) fun z3 => some (z3, true)
noncomputable def Z1B : FnDef := .of Zh2 Z5K (List Int × Bool) (fun k x => Z8q k x.1 x.2.1) ZfY ZfQ Zmo
noncomputable def Zcm : Code := Try.f73.body.getD .skip
noncomputable def Z8u : Ctx (Tup Z5K × OutD) := { T := T, G := [(155, Z1q.E), (158, Z48.E), (159, Z63.E), (161, Z35.E)], mvs := [], no := 0, n := 16, res := resOf T Zh2 Z5K Try.f73.results.toList, loops := [], regs := [], conds := [] }
theorem ZqZ (k : Nat) : EnvOK Try.prog k Z8u.G := (EnvOK.cons (Z9H k) (EnvOK.cons (ZrK k) (EnvOK.cons (Zxq k) (EnvOK.cons (Zze k) (EnvOK.nil mixed)))))
theorem Zrz (k : Nat) (x : Tup Z1B.ps) : Z1B.f (k + 1) x = fnK Z1B Z8u Zcm k x := by kernel_rfl
theorem ZqO (x : Tup Z1B.ps) : Z1B.f 0 x = none := by kernel_rfl
theorem Zs6 (k : Nat) : LOK Try.prog Z8u k Zcm := LOK.by [] (by kernel_rfl) AllOK.nil
theorem Zsa (k : Nat) : SoundAt Try.prog k 73 Z1B.E := @Z4 Try.prog Z1B Z8u 73 Try.f73 Zcm (by kernel_rfl) (by kernel_rfl) (by kernel_rfl) Try.func73 (by kernel_rfl) (by kernel_rfl) (by kernel_rfl) T_ok ZqZ Zs6 ZqO Zrz k
noncomputable def Z17 : List PK := [PK.mk (Ty.pair (Ty.int .i64) (Ty.pair (Ty.int .i64) (Ty.slice (79 : Nat) (Ty.pair (Ty.int .i64) (Ty.int .i64))))) true none false none, PK.mk (Ty.slice (34 : Nat) (Ty.slice (3 : Nat) (Ty.int .i64))) false none false none]
noncomputable def ZiK : List PK := [PK.mk (Ty.pair (Ty.slice (5 : Nat) (Ty.int .u8)) (Ty.pair (Ty.int .i64) (Ty.int .u64))) false none false (some (114 : Nat))]
noncomputable def ZhW (r : (Int × Int × List (Int × Int)) × List (List Int) × Int × Int) : Tup Z17 × OutD := ((r.1, r.2.1, ()), some ⟨Ty.pair (Ty.slice (5 : Nat) (Ty.int .u8)) (Ty.pair (Ty.int .i64) (Ty.int .u64)), [([], r.2.2)]⟩)
noncomputable def ZcC : Tup Z17 × OutD → Option ((Int × Int × List (Int × Int)) × List (List Int) × Int × Int)
 | (a, some ⟨u, ys⟩) => if h : u = Ty.pair (Ty.slice (5 : Nat) (Ty.int .u8)) (Ty.pair (Ty.int .i64) (Ty.int .u64)) then (match castU h ys with
  | [([], y)] => some (a.1, a.2.1, y)
  | _ => none) else none
 | _ => none
theorem ZoM : ∀ b r, ZcC b = some r → ZhW r = b := by
 rintro ⟨a, o⟩ r h
 cases o with
 | none => cases h
 | some s =>
  obtain ⟨u, ys⟩ := s
  simp only [ZcC] at h
  split at h
  ·rename_i hu
   subst hu
   match ys, h with
   | [], h => cases (show (none : Option _) = some r from h)
   | [([], y)], h => injection (show some _ = some r from h) with h; subst h; rfl
   | [(_ :: _, y)], h => cases (show (none : Option _) = some r from h)
   | (h1, _) :: _ :: _, h => cases h1 <;> cases (show (none : Option _) = some r from h)
  ·cases h
noncomputable def ZaB : Nat → Int → Int → List Int → Int → Int → List (Int × Int) → Int → Int → List (Int × Int) → Int → Bool → Option (Int × Int × List Int × Int × Int × List (Int × Int) × Int × Int × List (Int × Int)) := fun k b1_1 b1_2 o2 b3_0 b3_1 o4 b5_0 b5_1 o6 v12 v13 =>
    if v13 = true then Option.bind (ZA k (o2, b1_1, b1_2)) fun z2 => some (Prod.fst z2.2, Prod.snd z2.2, o2, b3_0, b3_1, o4, Prod.fst z2.1, Prod.fst z2.1.2, Prod.snd z2.1.2) else if decide (v12 = (1 : Int)) = true then Option.bind (Z1o k (o2, b1_1, b1_2) (6 : Int) (5 : Int)) fun z3 => Option.bind (ZO k (o2, Prod.fst z3.2, Prod.snd z3.2) (3 : Int)) fun z4 => if Prod.fst z4 = true then Option.bind (Z1o k (o2, Prod.fst z4.2, Prod.snd z4.2) (8 : Int) (4 : Int)) fun z5 => some (Prod.fst z5.2, Prod.snd z5.2, o2, b3_0, b3_1, o4, Prod.fst z5.1, Prod.fst z5.1.2, Prod.snd z5.1.2) else some (Prod.fst z4.2, Prod.snd z4.2, o2, b3_0, b3_1, o4, Prod.fst z3.1, Prod.fst z3.1.2, Prod.snd z3.1.2) else some (b1_1, b1_2, o2, b3_0, b3_1, o4, b5_0, b5_1, o6)
noncomputable def Znw : Spec := Spec.mk [OSh.ro, OSh.box (114 : Nat) [Sh.sl (2 : Nat), Sh.int .i64, Sh.int .u64], OSh.fx (Ty.int .u8), OSh.box (53 : Nat) [Sh.int .i64, Sh.int .i64, Sh.sl (4 : Nat)], OSh.row true (79 : Nat) (Ty.pair (Ty.int .i64) (Ty.int .i64)), OSh.box (53 : Nat) [Sh.int .i64, Sh.int .i64, Sh.sl (6 : Nat)], OSh.row true (79 : Nat) (Ty.pair (Ty.int .i64) (Ty.int .i64))] [((0 : Nat), TSh.at (Sh.ptr (1 : Nat) (0 : Nat))), ((2 : Nat), TSh.at (Sh.ptr (3 : Nat) (0 : Nat))), ((4 : Nat), TSh.at (Sh.ptr (5 : Nat) (0 : Nat))), ((12 : Nat), TSh.at (Sh.int .i64)), ((13 : Nat), TSh.at Sh.bool)]
noncomputable def Zn2 : Spec := Spec.mk [OSh.ro, OSh.box (114 : Nat) [Sh.sl (2 : Nat), Sh.int .i64, Sh.int .u64], OSh.fx (Ty.int .u8), OSh.box (53 : Nat) [Sh.int .i64, Sh.int .i64, Sh.sl (4 : Nat)], OSh.row true (79 : Nat) (Ty.pair (Ty.int .i64) (Ty.int .i64)), OSh.box (53 : Nat) [Sh.int .i64, Sh.int .i64, Sh.sl (6 : Nat)], OSh.row true (79 : Nat) (Ty.pair (Ty.int .i64) (Ty.int .i64))] [((0 : Nat), TSh.at (Sh.ptr (1 : Nat) (0 : Nat))), ((2 : Nat), TSh.at (Sh.ptr (3 : Nat) (0 : Nat))), ((4 : Nat), TSh.at (Sh.ptr (5 : Nat) (0 : Nat)))]
noncomputable def Zs : LoopDef (Tup Z17 × OutD) := .plain Znw Zn2 (Int × Int × List Int × Int × Int × List (Int × Int) × Int × Int × List (Int × Int)) (fun k x => ZaB k x.1.2.1.2.1 x.1.2.1.2.2.1 x.1.2.2.1 x.1.2.2.2.1.1 x.1.2.2.2.1.2.1 x.1.2.2.2.2.1 x.1.2.2.2.2.2.1.1 x.1.2.2.2.2.2.1.2.1 x.1.2.2.2.2.2.2.1 x.2.2.2.2.1 x.2.2.2.2.2.1) (fun z => (((), ((), z.1, z.2.1, ()), z.2.2.1, (z.2.2.2.1, z.2.2.2.2.1, (), ()), z.2.2.2.2.2.1, (z.2.2.2.2.2.2.1, z.2.2.2.2.2.2.2.1, (), ()), z.2.2.2.2.2.2.2.2, ()), ((), (), (), ()))) (fun y => (y.1.2.1.2.1, y.1.2.1.2.2.1, y.1.2.2.1, y.1.2.2.2.1.1, y.1.2.2.2.1.2.1, y.1.2.2.2.2.1, y.1.2.2.2.2.2.1.1, y.1.2.2.2.2.2.1.2.1, y.1.2.2.2.2.2.2.1)) (fun _ => rfl)
noncomputable def ZaC : Nat → Int → Int → List Int → Int → Int → List (Int × Int) → Int → Int → List (Int × Int) → List (List Int) → Int → Bool → Option (Int × Int × List Int × Int × Int × List (Int × Int) × Int × Int × List (Int × Int) × List (List Int) × Int) := fun k b1_1 b1_2 o2 b3_0 b3_1 o4 b5_0 b5_1 o6 o7 v6 v28 =>
    if v28 = true then Option.bind (Z1 k (o2, b1_1, b1_2) (2 : Int)) fun z9 => some (Prod.fst z9.2, Prod.snd z9.2, o2, b3_0, b3_1, o4, b5_0, b5_1, o6, o7, wrap64 ((10 : Int) + Prod.fst z9)) else some (b1_1, b1_2, o2, b3_0, b3_1, o4, b5_0, b5_1, o6, o7, v6)
noncomputable def ZnF : Spec := Spec.mk [OSh.ro, OSh.box (114 : Nat) [Sh.sl (2 : Nat), Sh.int .i64, Sh.int .u64], OSh.fx (Ty.int .u8), OSh.box (53 : Nat) [Sh.int .i64, Sh.int .i64, Sh.sl (4 : Nat)], OSh.row true (79 : Nat) (Ty.pair (Ty.int .i64) (Ty.int .i64)), OSh.box (53 : Nat) [Sh.int .i64, Sh.int .i64, Sh.sl (6 : Nat)], OSh.row true (79 : Nat) (Ty.pair (Ty.int .i64) (Ty.int .i64)), OSh.row true (34 : Nat) (Ty.slice (3 : Nat) (Ty.int .i64))] [((0 : Nat), TSh.at (Sh.ptr (1 : Nat) (0 : Nat))), ((2 : Nat), TSh.at (Sh.ptr (3 : Nat) (0 : Nat))), ((4 : Nat), TSh.at (Sh.ptr (5 : Nat) (0 : Nat))), ((5 : Nat), TSh.at (Sh.sl (7 : Nat))), ((6 : Nat), TSh.at (Sh.int .i64)), ((28 : Nat), TSh.at Sh.bool)]
noncomputable def Zo2 : Spec := Spec.mk [OSh.ro, OSh.box (114 : Nat) [Sh.sl (2 : Nat), Sh.int .i64, Sh.int .u64], OSh.fx (Ty.int .u8), OSh.box (53 : Nat) [Sh.int .i64, Sh.int .i64, Sh.sl (4 : Nat)], OSh.row true (79 : Nat) (Ty.pair (Ty.int .i64) (Ty.int .i64)), OSh.box (53 : Nat) [Sh.int .i64, Sh.int .i64, Sh.sl (6 : Nat)], OSh.row true (79 : Nat) (Ty.pair (Ty.int .i64) (Ty.int .i64)), OSh.row true (34 : Nat) (Ty.slice (3 : Nat) (Ty.int .i64))] [((0 : Nat), TSh.at (Sh.ptr (1 : Nat) (0 : Nat))), ((2 : Nat), TSh.at (Sh.ptr (3 : Nat) (0 : Nat))), ((4 : Nat), TSh.at (Sh.ptr (5 : Nat) (0 : Nat))), ((5 : Nat), TSh.at (Sh.sl (7 : Nat))), ((6 : Nat), TSh.at (Sh.int .i64))]
noncomputable def Zu : LoopDef (Tup Z17 × OutD) := .plain ZnF Zo2 (Int × Int × List Int × Int × Int × List (Int × Int) × Int × Int × List (Int × Int) × List (List Int) × Int) (fun k x => ZaC k x.1.2.1.2.1 x.1.2.1.2.2.1 x.1.2.2.1 x.1.2.2.2.1.1 x.1.2.2.2.1.2.1 x.1.2.2.2.2.1 x.1.2.2.2.2.2.1.1 x.1.2.2.2.2.2.1.2.1 x.1.2.2.2.2.2.2.1 x.1.2.2.2.2.2.2.2.1 x.2.2.2.2.2.1 x.2.2.2.2.2.2.1) (fun z => (((), ((), z.1, z.2.1, ()), z.2.2.1, (z.2.2.2.1, z.2.2.2.2.1, (), ()), z.2.2.2.2.2.1, (z.2.2.2.2.2.2.1, z.2.2.2.2.2.2.2.1, (), ()), z.2.2.2.2.2.2.2.2.1, z.2.2.2.2.2.2.2.2.2.1, ()), ((), (), (), (), z.2.2.2.2.2.2.2.2.2.2, ()))) (fun y => (y.1.2.1.2.1, y.1.2.1.2.2.1, y.1.2.2.1, y.1.2.2.2.1.1, y.1.2.2.2.1.2.1, y.1.2.2.2.2.1, y.1.2.2.2.2.2.1.1, y.1.2.2.2.2.2.1.2.1, y.1.2.2.2.2.2.2.1, y.1.2.2.2.2.2.2.2.1, y.2.2.2.2.2.1)) (fun _ => rfl)
noncomputable def ZaE : Nat → Int → Int → List Int → Int → Int → List (Int × Int) → Int → Int → List (Int × Int) → List (List Int) → List Int → Int → Int → Bool → Option (Int × Int × List Int × Int × Int × List (Int × Int) × Int × Int × List (Int × Int) × List (List Int) × List Int × Int × Int) := fun k b1_1 b1_2 o2 b3_0 b3_1 o4 b5_0 b5_1 o6 o7 o8 v6 v8 v39 =>
    if v39 = true then Option.bind (Z1 k (o2, b1_1, b1_2) (2 : Int)) fun z13 => Option.bind (Z1 k (o2, Prod.fst z13.2, Prod.snd z13.2) (2 : Int)) fun z14 => some (Prod.fst z14.2, Prod.snd z14.2, o2, b3_0, b3_1, o4, b5_0, b5_1, o6, o7, o8, v6, wrap64 ((8 : Int) + wrap64 (Prod.fst z13 * Prod.fst z14))) else some (b1_1, b1_2, o2, b3_0, b3_1, o4, b5_0, b5_1, o6, o7, o8, v6, v8)
noncomputable def ZnM : Spec := Spec.mk [OSh.ro, OSh.box (114 : Nat) [Sh.sl (2 : Nat), Sh.int .i64, Sh.int .u64], OSh.fx (Ty.int .u8), OSh.box (53 : Nat) [Sh.int .i64, Sh.int .i64, Sh.sl (4 : Nat)], OSh.row true (79 : Nat) (Ty.pair (Ty.int .i64) (Ty.int .i64)), OSh.box (53 : Nat) [Sh.int .i64, Sh.int .i64, Sh.sl (6 : Nat)], OSh.row true (79 : Nat) (Ty.pair (Ty.int .i64) (Ty.int .i64)), OSh.row true (34 : Nat) (Ty.slice (3 : Nat) (Ty.int .i64)), OSh.row true (3 : Nat) (Ty.int .i64)] [((0 : Nat), TSh.at (Sh.ptr (1 : Nat) (0 : Nat))), ((2 : Nat), TSh.at (Sh.ptr (3 : Nat) (0 : Nat))), ((4 : Nat), TSh.at (Sh.ptr (5 : Nat) (0 : Nat))), ((5 : Nat), TSh.at (Sh.sl (7 : Nat))), ((6 : Nat), TSh.at (Sh.int .i64)), ((7 : Nat), TSh.at (Sh.sl (8 : Nat))), ((8 : Nat), TSh.at (Sh.int .i64)), ((39 : Nat), TSh.at Sh.bool)]
noncomputable def Znp : Spec := Spec.mk [OSh.ro, OSh.box (114 : Nat) [Sh.sl (2 : Nat), Sh.int .i64, Sh.int .u64], OSh.fx (Ty.int .u8), OSh.box (53 : Nat) [Sh.int .i64, Sh.int .i64, Sh.sl (4 : Nat)], OSh.row true (79 : Nat) (Ty.pair (Ty.int .i64) (Ty.int .i64)), OSh.box (53 : Nat) [Sh.int .i64, Sh.int .i64, Sh.sl (6 : Nat)], OSh.row true (79 : Nat) (Ty.pair (Ty.int .i64) (Ty.int .i64)), OSh.row true (34 : Nat) (Ty.slice (3 : Nat) (Ty.int .i64)), OSh.row true (3 : Nat) (Ty.int .i64)] [((0 : Nat), TSh.at (Sh.ptr (1 : Nat) (0 : Nat))), ((2 : Nat), TSh.at (Sh.ptr (3 : Nat) (0 : Nat))), ((4 : Nat), TSh.at (Sh.ptr (5 : Nat) (0 : Nat))), ((5 : Nat), TSh.at (Sh.sl (7 : Nat))), ((6 : Nat), TSh.at (Sh.int .i64)), ((7 : Nat), TSh.at (Sh.sl (8 : Nat))), ((8 : Nat), TSh.at (Sh.int .i64))]
noncomputable def Zt : LoopDef (Tup Z17 × OutD) := .plain ZnM Znp (Int × Int × List Int × Int × Int × List (Int × Int) × Int × Int × List (Int × Int) × List (List Int) × List Int × Int × Int) (fun k x => ZaE k x.1.2.1.2.1 x.1.2.1.2.2.1 x.1.2.2.1 x.1.2.2.2.1.1 x.1.2.2.2.1.2.1 x.1.2.2.2.2.1 x.1.2.2.2.2.2.1.1 x.1.2.2.2.2.2.1.2.1 x.1.2.2.2.2.2.2.1 x.1.2.2.2.2.2.2.2.1 x.1.2.2.2.2.2.2.2.2.1 x.2.2.2.2.2.1 x.2.2.2.2.2.2.2.1 x.2.2.2.2.2.2.2.2.1) (fun z => (((), ((), z.1, z.2.1, ()), z.2.2.1, (z.2.2.2.1, z.2.2.2.2.1, (), ()), z.2.2.2.2.2.1, (z.2.2.2.2.2.2.1, z.2.2.2.2.2.2.2.1, (), ()), z.2.2.2.2.2.2.2.2.1, z.2.2.2.2.2.2.2.2.2.1, z.2.2.2.2.2.2.2.2.2.2.1, ()), ((), (), (), (), z.2.2.2.2.2.2.2.2.2.2.2.1, (), z.2.2.2.2.2.2.2.2.2.2.2.2, ()))) (fun y => (y.1.2.1.2.1, y.1.2.1.2.2.1, y.1.2.2.1, y.1.2.2.2.1.1, y.1.2.2.2.1.2.1, y.1.2.2.2.2.1, y.1.2.2.2.2.2.1.1, y.1.2.2.2.2.2.1.2.1, y.1.2.2.2.2.2.2.1, y.1.2.2.2.2.2.2.2.1, y.1.2.2.2.2.2.2.2.2.1, y.2.2.2.2.2.1, y.2.2.2.2.2.2.2.1)) (fun _ => rfl)
noncomputable def Z3t : Nat → Int → Int → List Int → Int → Int → List (Int × Int) → Int → Int → List (Int × Int) → List (List Int) → List Int → Int → Int → Option (Int × Int × List Int × Int × Int × List (Int × Int) × Int × Int × List (Int × Int) × List (List Int) × List Int × Int)
 | 0, _, _, _, _, _, _, _, _, _, _, _, _, _ => none
 | k + 1, b1_1, b1_2, o2, b3_0, b3_1, o4, b5_0, b5_1, o6, o7, o8, v6, v8 =>
  if decide ((↑(List.length o8) : Int) < v8) = true then Option.bind (ZaQ k (1 : Int) b5_1) fun z16 => Option.bind (Z1 k (o2, b1_1, b1_2) z16) fun z17 => if List.length o8 + List.length [Prod.fst z17] ≤ (140737488355328 / 8 : Nat) then Z3t k z17.2.1 z17.2.2 o2 b3_0 b3_1 o4 b5_0 b5_1 o6 o7 (o8 ++ [Prod.fst z17]) v6 v8 else none else some (b1_1, b1_2, o2, b3_0, b3_1, o4, b5_0, b5_1, o6, o7, o8, v6)
noncomputable def Zbo : Spec := Spec.mk [OSh.ro, OSh.box (114 : Nat) [Sh.sl (2 : Nat), Sh.int .i64, Sh.int .u64], OSh.fx (Ty.int .u8), OSh.box (53 : Nat) [Sh.int .i64, Sh.int .i64, Sh.sl (4 : Nat)], OSh.row true (79 : Nat) (Ty.pair (Ty.int .i64) (Ty.int .i64)), OSh.box (53 : Nat) [Sh.int .i64, Sh.int .i64, Sh.sl (6 : Nat)], OSh.row true (79 : Nat) (Ty.pair (Ty.int .i64) (Ty.int .i64)), OSh.row true (34 : Nat) (Ty.slice (3 : Nat) (Ty.int .i64)), OSh.row true (3 : Nat) (Ty.int .i64)] [((0 : Nat), TSh.at (Sh.ptr (1 : Nat) (0 : Nat))), ((2 : Nat), TSh.at (Sh.ptr (3 : Nat) (0 : Nat))), ((4 : Nat), TSh.at (Sh.ptr (5 : Nat) (0 : Nat))), ((5 : Nat), TSh.at (Sh.sl (7 : Nat))), ((6 : Nat), TSh.at (Sh.int .i64)), ((7 : Nat), TSh.at (Sh.sl (8 : Nat))), ((8 : Nat), TSh.at (Sh.int .i64))]
noncomputable def ZpV : Spec := Spec.mk [OSh.ro, OSh.box (114 : Nat) [Sh.sl (2 : Nat), Sh.int .i64, Sh.int .u64], OSh.fx (Ty.int .u8), OSh.box (53 : Nat) [Sh.int .i64, Sh.int .i64, Sh.sl (4 : Nat)], OSh.row true (79 : Nat) (Ty.pair (Ty.int .i64) (Ty.int .i64)), OSh.box (53 : Nat) [Sh.int .i64, Sh.int .i64, Sh.sl (6 : Nat)], OSh.row true (79 : Nat) (Ty.pair (Ty.int .i64) (Ty.int .i64)), OSh.row true (34 : Nat) (Ty.slice (3 : Nat) (Ty.int .i64)), OSh.row true (3 : Nat) (Ty.int .i64)] [((0 : Nat), TSh.at (Sh.ptr (1 : Nat) (0 : Nat))), ((2 : Nat), TSh.at (Sh.ptr (3 : Nat) (0 : Nat))), ((4 : Nat), TSh.at (Sh.ptr (5 : Nat) (0 : Nat))), ((5 : Nat), TSh.at (Sh.sl (7 : Nat))), ((6 : Nat), TSh.at (Sh.int .i64)), ((7 : Nat), TSh.at (Sh.sl (8 : Nat)))]
noncomputable def Z2R : LoopDef (Tup Z17 × OutD) := .plain Zbo ZpV (Int × Int × List Int × Int × Int × List (Int × Int) × Int × Int × List (Int × Int) × List (List Int) × List Int × Int) (fun k x => Z3t k x.1.2.1.2.1 x.1.2.1.2.2.1 x.1.2.2.1 x.1.2.2.2.1.1 x.1.2.2.2.1.2.1 x.1.2.2.2.2.1 x.1.2.2.2.2.2.1.1 x.1.2.2.2.2.2.1.2.1 x.1.2.2.2.2.2.2.1 x.1.2.2.2.2.2.2.2.1 x.1.2.2.2.2.2.2.2.2.1 x.2.2.2.2.2.1 x.2.2.2.2.2.2.2.1) (fun z => (((), ((), z.1, z.2.1, ()), z.2.2.1, (z.2.2.2.1, z.2.2.2.2.1, (), ()), z.2.2.2.2.2.1, (z.2.2.2.2.2.2.1, z.2.2.2.2.2.2.2.1, (), ()), z.2.2.2.2.2.2.2.2.1, z.2.2.2.2.2.2.2.2.2.1, z.2.2.2.2.2.2.2.2.2.2.1, ()), ((), (), (), (), z.2.2.2.2.2.2.2.2.2.2.2, (), ()))) (fun y => (y.1.2.1.2.1, y.1.2.1.2.2.1, y.1.2.2.1, y.1.2.2.2.1.1, y.1.2.2.2.1.2.1, y.1.2.2.2.2.1, y.1.2.2.2.2.2.1.1, y.1.2.2.2.2.2.1.2.1, y.1.2.2.2.2.2.2.1, y.1.2.2.2.2.2.2.2.1, y.1.2.2.2.2.2.2.2.2.1, y.2.2.2.2.2.1)) (fun _ => rfl)
noncomputable def Z3p : Nat → Int → Int → List Int → Int → Int → List (Int × Int) → Int → Int → List (Int × Int) → List (List Int) → Int → Option (Int × Int × List Int × Int × Int × List (Int × Int) × Int × Int × List (Int × Int) × List (List Int) × Int)
 | 0, _, _, _, _, _, _, _, _, _, _, _ => none
 | k + 1, b1_1, b1_2, o2, b3_0, b3_1, o4, b5_0, b5_1, o6, o7, v6 =>
  if decide ((↑(List.length o7) : Int) < v6) = true then Option.bind (Z1 k (o2, b1_1, b1_2) (4 : Int)) fun z11 => Option.bind (ZO k (o2, Prod.fst z11.2, Prod.snd z11.2) (12 : Int)) fun z12 => Option.bind (ZaE k z12.2.1 z12.2.2 o2 b3_0 b3_1 o4 b5_0 b5_1 o6 o7 [] v6 z11.1 z12.1) fun z15 => Option.bind (Z3t k z15.1 z15.2.1 z15.2.2.1 z15.2.2.2.1 z15.2.2.2.2.1 z15.2.2.2.2.2.1 z15.2.2.2.2.2.2.1 z15.2.2.2.2.2.2.2.1 z15.2.2.2.2.2.2.2.2.1 z15.2.2.2.2.2.2.2.2.2.1 z15.2.2.2.2.2.2.2.2.2.2.1 z15.2.2.2.2.2.2.2.2.2.2.2.1 z15.2.2.2.2.2.2.2.2.2.2.2.2) fun z18 => if List.length z18.2.2.2.2.2.2.2.2.2.1 + List.length [Prod.fst z18.2.2.2.2.2.2.2.2.2.2] ≤ (140737488355328 / 24 : Nat) then Z3p k z18.1 z18.2.1 z18.2.2.1 z18.2.2.2.1 z18.2.2.2.2.1 z18.2.2.2.2.2.1 z18.2.2.2.2.2.2.1 z18.2.2.2.2.2.2.2.1 z18.2.2.2.2.2.2.2.2.1 (Prod.fst z18.2.2.2.2.2.2.2.2.2 ++ [Prod.fst z18.2.2.2.2.2.2.2.2.2.2]) z18.2.2.2.2.2.2.2.2.2.2.2 else none else some (b1_1, b1_2, o2, b3_0, b3_1, o4, b5_0, b5_1, o6, o7, v6)
noncomputable def Zbr : Spec := Spec.mk [OSh.ro, OSh.box (114 : Nat) [Sh.sl (2 : Nat), Sh.int .i64, Sh.int .u64], OSh.fx (Ty.int .u8), OSh.box (53 : Nat) [Sh.int .i64, Sh.int .i64, Sh.sl (4 : Nat)], OSh.row true (79 : Nat) (Ty.pair (Ty.int .i64) (Ty.int .i64)), OSh.box (53 : Nat) [Sh.int .i64, Sh.int .i64, Sh.sl (6 : Nat)], OSh.row true (79 : Nat) (Ty.pair (Ty.int .i64) (Ty.int .i64)), OSh.row true (34 : Nat) (Ty.slice (3 : Nat) (Ty.int .i64))] [((0 : Nat), TSh.at (Sh.ptr (1 : Nat) (0 : Nat))), ((2 : Nat), TSh.at (Sh.ptr (3 : Nat) (0 : Nat))), ((4 : Nat), TSh.at (Sh.ptr (5 : Nat) (0 : Nat))), ((5 : Nat), TSh.at (Sh.sl (7 : Nat))), ((6 : Nat), TSh.at (Sh.int .i64))]
noncomputable def ZpN : Spec := Spec.mk [OSh.ro, OSh.box (114 : Nat) [Sh.sl (2 : Nat), Sh.int .i64, Sh.int .u64], OSh.fx (Ty.int .u8), OSh.box (53 : Nat) [Sh.int .i64, Sh.int .i64, Sh.sl (4 : Nat)], OSh.row true (79 : Nat) (Ty.pair (Ty.int .i64) (Ty.int .i64)), OSh.box (53 : Nat) [Sh.int .i64, Sh.int .i64, Sh.sl (6 : Nat)], OSh.row true (79 : Nat) (Ty.pair (Ty.int .i64) (Ty.int .i64)), OSh.row true (34 : Nat) (Ty.slice (3 : Nat) (Ty.int .i64))] [((0 : Nat), TSh.at (Sh.ptr (1 : Nat) (0 : Nat))), ((2 : Nat), TSh.at (Sh.ptr (3 : Nat) (0 : Nat))), ((4 : Nat), TSh.at (Sh.ptr (5 : Nat) (0 : Nat))), ((5 : Nat), TSh.at (Sh.sl (7 : Nat))), ((6 : Nat), TSh.at (Sh.int .i64))]
noncomputable def Z2S : LoopDef (Tup Z17 × OutD) := .plain Zbr ZpN (Int × Int × List Int × Int × Int × List (Int × Int) × Int × Int × List (Int × Int) × List (List Int) × Int) (fun k x => Z3p k x.1.2.1.2.1 x.1.2.1.2.2.1 x.1.2.2.1 x.1.2.2.2.1.1 x.1.2.2.2.1.2.1 x.1.2.2.2.2.1 x.1.2.2.2.2.2.1.1 x.1.2.2.2.2.2.1.2.1 x.1.2.2.2.2.2.2.1 x.1.2.2.2.2.2.2.2.1 x.2.2.2.2.2.1) (fun z => (((), ((), z.1, z.2.1, ()), z.2.2.1, (z.2.2.2.1, z.2.2.2.2.1, (), ()), z.2.2.2.2.2.1, (z.2.2.2.2.2.2.1, z.2.2.2.2.2.2.2.1, (), ()), z.2.2.2.2.2.2.2.2.1, z.2.2.2.2.2.2.2.2.2.1, ()), ((), (), (), (), z.2.2.2.2.2.2.2.2.2.2, ()))) (fun y => (y.1.2.1.2.1, y.1.2.1.2.2.1, y.1.2.2.1, y.1.2.2.2.1.1, y.1.2.2.2.1.2.1, y.1.2.2.2.2.1, y.1.2.2.2.2.2.1.1, y.1.2.2.2.2.2.1.2.1, y.1.2.2.2.2.2.2.1, y.1.2.2.2.2.2.2.2.1, y.2.2.2.2.2.1)) (fun _ => rfl)
noncomputable def Z2A : Nat → Int → Int → List Int → Int → Int → List (Int × Int) → Int → Int → List (Int × Int) → List (List Int) → Int → Option (Int × Int × List Int × Int × Int × List (Int × Int) × Int × Int × List (Int × Int) × List (List Int)) := fun k b1_1 b1_2 o2 b3_0 b3_1 o4 b5_0 b5_1 o6 o7 v6 =>
    Option.bind (Z1 k (o2, b1_1, b1_2) v6) fun z21 => Option.bind (Zh k (o2, Prod.fst z21.2, Prod.snd z21.2) [(-1 : Int), b5_1]) fun z22 => if (0 : Int) ≤ Prod.fst z21 then if Prod.fst z21 < (↑(List.length o7) : Int) then some (Prod.fst z22.2, Prod.snd z22.2, o2, b3_0, b3_1, o4, b5_0, b5_1, o6, List.set o7 (Int.toNat z21.1) [Prod.fst z22]) else none else none
noncomputable def Z6d : Nat → Int → Int → List Int → Int → Int → List (Int × Int) → Int → Int → List (Int × Int) → List (List Int) → Int → Option (List (Int × Int × List Int × Int × Int × List (Int × Int) × Int × Int × List (Int × Int) × List (List Int))) := fun k b1_1 b1_2 o2 b3_0 b3_1 o4 b5_0 b5_1 o6 o7 v6 =>
    joinL (Option.bind (Z1 k (o2, b1_1, b1_2) v6) fun z23 => Option.bind (Zh k (o2, Prod.fst z23.2, Prod.snd z23.2) [(-1 : Int), b5_1]) fun z24 => if (0 : Int) ≤ Prod.fst z23 then if Prod.fst z23 < (↑(List.length o7) : Int) then some [(Prod.fst z24.2, Prod.snd z24.2, o2, b3_0, b3_1, o4, b5_0, b5_1, o6, List.set o7 (Int.toNat z23.1) [Prod.fst z24])] else none else none) (joinL (Option.bind (Z1 k (o2, b1_1, b1_2) v6) fun z25 => Option.bind (Zh k (o2, Prod.fst z25.2, Prod.snd z25.2) [(-1 : Int), b5_1]) fun z26 => if (0 : Int) ≤ Prod.fst z25 then if Prod.fst z25 < (↑(List.length o7) : Int) then some [(Prod.fst z26.2, Prod.snd z26.2, o2, b3_0, b3_1, o4, b5_0, b5_1, o6, List.set o7 (Int.toNat z25.1) [Prod.fst z26])] else none else none) (Option.bind (Z1 k (o2, b1_1, b1_2) v6) fun z27 => Option.bind (Zh k (o2, Prod.fst z27.2, Prod.snd z27.2) [(-1 : Int), b5_1]) fun z28 => if (0 : Int) ≤ Prod.fst z27 then if Prod.fst z27 < (↑(List.length o7) : Int) then some [(Prod.fst z28.2, Prod.snd z28.2, o2, b3_0, b3_1, o4, b5_0, b5_1, o6, List.set o7 (Int.toNat z27.1) [Prod.fst z28])] else none else none))
noncomputable def Zer : Spec := Spec.mk [OSh.ro, OSh.box (114 : Nat) [Sh.sl (2 : Nat), Sh.int .i64, Sh.int .u64], OSh.fx (Ty.int .u8), OSh.box (53 : Nat) [Sh.int .i64, Sh.int .i64, Sh.sl (4 : Nat)], OSh.row true (79 : Nat) (Ty.pair (Ty.int .i64) (Ty.int .i64)), OSh.box (53 : Nat) [Sh.int .i64, Sh.int .i64, Sh.sl (6 : Nat)], OSh.row true (79 : Nat) (Ty.pair (Ty.int .i64) (Ty.int .i64)), OSh.row true (34 : Nat) (Ty.slice (3 : Nat) (Ty.int .i64))] [((0 : Nat), TSh.at (Sh.ptr (1 : Nat) (0 : Nat))), ((2 : Nat), TSh.at (Sh.ptr (3 : Nat) (0 : Nat))), ((4 : Nat), TSh.at (Sh.ptr (5 : Nat) (0 : Nat))), ((5 : Nat), TSh.at (Sh.sl (7 : Nat))), ((6 : Nat), TSh.at (Sh.int .i64))]
noncomputable def ZnT : Spec := Spec.mk [OSh.ro, OSh.box (114 : Nat) [Sh.sl (2 : Nat), Sh.int .i64, Sh.int .u64], OSh.fx (Ty.int .u8), OSh.box (53 : Nat) [Sh.int .i64, Sh.int .i64, Sh.sl (4 : Nat)], OSh.row true (79 : Nat) (Ty.pair (Ty.int .i64) (Ty.int .i64)), OSh.box (53 : Nat) [Sh.int .i64, Sh.int .i64, Sh.sl (6 : Nat)], OSh.row true (79 : Nat) (Ty.pair (Ty.int .i64) (Ty.int .i64)), OSh.row true (34 : Nat) (Ty.slice (3 : Nat) (Ty.int .i64))] [((2 : Nat), TSh.at (Sh.ptr (3 : Nat) (0 : Nat))), ((4 : Nat), TSh.at (Sh.ptr (5 : Nat) (0 : Nat))), ((5 : Nat), TSh.at (Sh.sl (7 : Nat)))]
noncomputable def Z2p : LoopDef (Tup Z17 × OutD) := .plain Zer ZnT (Int × Int × List Int × Int × Int × List (Int × Int) × Int × Int × List (Int × Int) × List (List Int)) (fun k x => Z2A k x.1.2.1.2.1 x.1.2.1.2.2.1 x.1.2.2.1 x.1.2.2.2.1.1 x.1.2.2.2.1.2.1 x.1.2.2.2.2.1 x.1.2.2.2.2.2.1.1 x.1.2.2.2.2.2.1.2.1 x.1.2.2.2.2.2.2.1 x.1.2.2.2.2.2.2.2.1 x.2.2.2.2.2.1) (fun z => (((), ((), z.1, z.2.1, ()), z.2.2.1, (z.2.2.2.1, z.2.2.2.2.1, (), ()), z.2.2.2.2.2.1, (z.2.2.2.2.2.2.1, z.2.2.2.2.2.2.2.1, (), ()), z.2.2.2.2.2.2.2.2.1, z.2.2.2.2.2.2.2.2.2, ()), ((), (), (), ()))) (fun y => (y.1.2.1.2.1, y.1.2.1.2.2.1, y.1.2.2.1, y.1.2.2.2.1.1, y.1.2.2.2.1.2.1, y.1.2.2.2.2.1, y.1.2.2.2.2.2.1.1, y.1.2.2.2.2.2.1.2.1, y.1.2.2.2.2.2.2.1, y.1.2.2.2.2.2.2.2.1)) (fun _ => rfl)
theorem ZnR (k : Nat) (b1_1 : Int) (b1_2 : Int) (o2 : List Int) (b3_0 : Int) (b3_1 : Int) (o4 : List (Int × Int)) (b5_0 : Int) (b5_1 : Int) (o6 : List (Int × Int)) (o7 : List (List Int)) (v6 : Int) : Z6d k b1_1 b1_2 o2 b3_0 b3_1 o4 b5_0 b5_1 o6 o7 v6 = repl 3 (Z2A k b1_1 b1_2 o2 b3_0 b3_1 o4 b5_0 b5_1 o6 o7 v6) := by
 first
 | (simp only [Z6d, Z2A, Zz, ZT, Zx, Zy, Zw, Za, if_true]; done)
 | (simp only [Z6d, Z2A, Zz, ZT, Zx, Zy, Zw, Za, if_true]; simp only [Z2E, Z2G, Z5g, Za]; simp only [Z72]; exact Z3w ⟨fun h => by simp only [h, and_self], fun h => by simp only [h, and_self]⟩)
noncomputable def Z38 : Nat → List Int × Int × Int → Option ((Int × Int × List (Int × Int)) × List (List Int) × Int × Int)
 | 0, _ => none
 | k + 1, p0 =>
  Option.bind (Z8v k (Prod.fst p0, Prod.fst p0.2, Prod.snd p0.2)) fun z0 => Option.bind (Z1 k (Prod.fst p0, Prod.fst z0.2, Prod.snd z0.2) (20 : Int)) fun z1 => Option.bind (ZaB k z1.2.1 z1.2.2 p0.1 (0 : Int) (0 : Int) [] z0.1.1 z0.1.2.1 z0.1.2.2 z1.1 (decide (Prod.fst z1 = (0 : Int)))) fun z6 => Option.bind (Z1 k (Prod.fst z6.2.2, Prod.fst z6, Prod.fst z6.2) (4 : Int)) fun z7 => Option.bind (ZO k (Prod.fst z6.2.2, Prod.fst z7.2, Prod.snd z7.2) (16 : Int)) fun z8 => Option.bind (ZaC k z8.2.1 z8.2.2 z6.2.2.1 z6.2.2.2.1 z6.2.2.2.2.1 z6.2.2.2.2.2.1 z6.2.2.2.2.2.2.1 z6.2.2.2.2.2.2.2.1 z6.2.2.2.2.2.2.2.2 [] z7.1 z8.1) fun z10 => Option.bind (Z3p k z10.1 z10.2.1 z10.2.2.1 z10.2.2.2.1 z10.2.2.2.2.1 z10.2.2.2.2.2.1 z10.2.2.2.2.2.2.1 z10.2.2.2.2.2.2.2.1 z10.2.2.2.2.2.2.2.2.1 z10.2.2.2.2.2.2.2.2.2.1 z10.2.2.2.2.2.2.2.2.2.2) fun z19 => if decide (Prod.snd z19.2.2.2.2.2.2.2.2.2 > (0 : Int)) = true then Option.bind (ZO k (Prod.fst z19.2.2, Prod.fst z19, Prod.fst z19.2) (24 : Int)) fun z20 => if Prod.fst z20 = true then Option.bind (Z2A k z20.2.1 z20.2.2 z19.2.2.1 z19.2.2.2.1 z19.2.2.2.2.1 z19.2.2.2.2.2.1 z19.2.2.2.2.2.2.1 z19.2.2.2.2.2.2.2.1 z19.2.2.2.2.2.2.2.2.1 z19.2.2.2.2.2.2.2.2.2.1 z19.2.2.2.2.2.2.2.2.2.2) fun z29 => some ((Prod.fst z29.2.2.2.2.2.2, Prod.fst z29.2.2.2.2.2.2.2, Prod.fst z29.2.2.2.2.2.2.2.2), Prod.snd z29.2.2.2.2.2.2.2.2, Prod.fst z29, Prod.fst z29.2) else some ((Prod.fst z19.2.2.2.2.2.2, Prod.fst z19.2.2.2.2.2.2.2, Prod.fst z19.2.2.2.2.2.2.2.2), Prod.fst z19.2.2.2.2.2.2.2.2.2, Prod.fst z20.2, Prod.snd z20.2) else some ((Prod.fst z19.2.2.2.2.2.2, Prod.fst z19.2.2.2.2.2.2.2, Prod.fst z19.2.2.2.2.2.2.2.2), Prod.fst z19.2.2.2.2.2.2.2.2.2, Prod.fst z19, Prod.fst z19.2)
noncomputable def Z18 : FnDef := .of ZiK Z17 ((Int × Int × List (Int × Int)) × List (List Int) × Int × Int) (fun k x => Z38 k x.1) ZhW ZcC ZoM
noncomputable def ZV : Code := Try.f162.body.getD .skip
noncomputable def Z3 : Ctx (Tup Z17 × OutD) := { T := T, G := [(200, Z1E.E), (111, Zm.E), (177, Z1e.E), (197, Z1d.E), (150, Z1u.E), (115, Z6C.E), (90, ZQ.E)], mvs := [], no := 2, n := 81, res := resOf T ZiK Z17 Try.f162.results.toList, loops := [(3, Z2R.E), (1, Z2S.E)], regs := [(22, Z2p.E)], conds := [(13, Zs.E), (28, Zu.E), (39, Zt.E)] }
theorem Z3f (k : Nat) : EnvOK Try.prog k Z3.G := (EnvOK.cons (ZqH k) (EnvOK.cons (Z1n k) (EnvOK.cons (ZgR k) (EnvOK.cons (Zdd k) (EnvOK.cons (ZcG k) (EnvOK.cons (ZGa k) (EnvOK.cons (Z5D k) (EnvOK.nil mixed))))))))
noncomputable def Z9W : Array Oper := (findReg 22 ZV).getD #[]
theorem Znx (k : Nat) (x : Zer.D) : execD Z3.T Z3.G Z3.mvs k Z9W (Z2p.inp.st Z3.n x) (outK Z3 Z2p) = Z6d k x.1.2.1.2.1 x.1.2.1.2.2.1 x.1.2.2.1 x.1.2.2.2.1.1 x.1.2.2.2.1.2.1 x.1.2.2.2.2.1 x.1.2.2.2.2.2.1.1 x.1.2.2.2.2.2.1.2.1 x.1.2.2.2.2.2.2.1 x.1.2.2.2.2.2.2.2.1 x.2.2.2.2.2.1 := by kernel_rfl
theorem Zmm (k : Nat) : EOK Try.prog Z3 k Z2p.E (.region 22 Z9W true) := Z9Z (D := Z2p) (m := 3) T_ok (Z3f k) (fun x => (Znx k x).trans (ZnR k x.1.2.1.2.1 x.1.2.1.2.2.1 x.1.2.2.1 x.1.2.2.2.1.1 x.1.2.2.2.1.2.1 x.1.2.2.2.2.1 x.1.2.2.2.2.2.1.1 x.1.2.2.2.2.2.1.2.1 x.1.2.2.2.2.2.2.1 x.1.2.2.2.2.2.2.2.1 x.2.2.2.2.2.1))
noncomputable def Z5W : Code := ((findCond 13 ZV).map (·.1)).getD .skip
noncomputable def Z66 : Code := ((findCond 13 ZV).map (·.2)).getD .skip
theorem ZnK (k : Nat) (i : Zs.inp.D) : Zs.lp k i = branch (Zs.inp.st Z3.n i) (.tmp 13) (fun st => exec Z3 k Z5W st (outK Z3 Zs) (fun _ _ => none) Zs.mkB) (fun st => exec Z3 k Z66 st (outK Z3 Zs) (fun _ _ => none) Zs.mkB) := by kernel_rfl
theorem Zm7 (k : Nat) : EOK Try.prog Z3 k Zs.E (.cond (.tmp 13) Z5W Z66) := Zsq (D := Zs) T_ok (Z3f k) (ZnK k) (@LOK.by _ _ _ _ Z5W [] (by kernel_rfl) AllOK.nil) (@LOK.by _ _ _ _ Z66 [] (by kernel_rfl) AllOK.nil)
noncomputable def Z6a : Code := ((findCond 28 ZV).map (·.1)).getD .skip
noncomputable def Z5V : Code := ((findCond 28 ZV).map (·.2)).getD .skip
theorem ZmP (k : Nat) (i : Zu.inp.D) : Zu.lp k i = branch (Zu.inp.st Z3.n i) (.tmp 28) (fun st => exec Z3 k Z6a st (outK Z3 Zu) (fun _ _ => none) Zu.mkB) (fun st => exec Z3 k Z5V st (outK Z3 Zu) (fun _ _ => none) Zu.mkB) := by kernel_rfl
theorem Zmh (k : Nat) : EOK Try.prog Z3 k Zu.E (.cond (.tmp 28) Z6a Z5V) := Zsq (D := Zu) T_ok (Z3f k) (ZmP k) (@LOK.by _ _ _ _ Z6a [] (by kernel_rfl) AllOK.nil) (@LOK.by _ _ _ _ Z5V [] (by kernel_rfl) AllOK.nil)
noncomputable def Z68 : Code := ((findCond 39 ZV).map (·.1)).getD .skip
noncomputable def Z64 : Code := ((findCond 39 ZV).map (·.2)).getD .skip
theorem ZnB (k : Nat) (i : Zt.inp.D) : Zt.lp k i = branch (Zt.inp.st Z3.n i) (.tmp 39) (fun st => exec Z3 k Z68 st (outK Z3 Zt) (fun _ _ => none) Zt.mkB) (fun st => exec Z3 k Z64 st (outK Z3 Zt) (fun _ _ => none) Zt.mkB) := by kernel_rfl
theorem Zm9 (k : Nat) : EOK Try.prog Z3 k Zt.E (.cond (.tmp 39) Z68 Z64) := Zsq (D := Zt) T_ok (Z3f k) (ZnB k) (@LOK.by _ _ _ _ Z68 [] (by kernel_rfl) AllOK.nil) (@LOK.by _ _ _ _ Z64 [] (by kernel_rfl) AllOK.nil)
noncomputable def Z7B : Code := (findLoop 3 ZV).getD .skip
theorem ZpE (k : Nat) (x : Zbo.D) : Z2R.lp (k + 1) x = loopK Z3 Z2R 3 Z7B k x := by kernel_rfl
theorem ZpP (k : Nat) : LOK Try.prog Z3 k Z7B := LOK.by [] (by kernel_rfl) AllOK.nil
theorem ZpU (x : Zbo.D) : Z2R.lp 0 x = none := by kernel_rfl
theorem ZoJ (k : Nat) : EOK Try.prog Z3 k Z2R.E (.block 3 (.loop Z7B)) := Z7 T_ok Z3f ZpU ZpE ZpP k
noncomputable def Z7H : Code := (findLoop 1 ZV).getD .skip
theorem Zqk (k : Nat) (x : Zbr.D) : Z2S.lp (k + 1) x = loopK Z3 Z2S 1 Z7H k x := by kernel_rfl
theorem ZpC (k : Nat) : LOK Try.prog Z3 k Z7H := LOK.by [(Zt.E, .cond (.tmp 39) Z68 Z64), (Z2R.E, .block 3 (.loop Z7B))] (by kernel_rfl) (AllOK.cons (Zm9 k) (AllOK.cons (ZoJ k) AllOK.nil))
theorem Zqa (x : Zbr.D) : Z2S.lp 0 x = none := by kernel_rfl
theorem Zoq (k : Nat) : EOK Try.prog Z3 k Z2S.E (.block 1 (.loop Z7H)) := Z7 T_ok Z3f Zqa Zqk ZpC k
theorem Zv5 (k : Nat) (x : Tup Z18.ps) : Z18.f (k + 1) x = fnK Z18 Z3 ZV k x := by kernel_rfl
theorem Zvm (x : Tup Z18.ps) : Z18.f 0 x = none := by kernel_rfl
theorem Zvt (k : Nat) : LOK Try.prog Z3 k ZV := LOK.by [(Zs.E, .cond (.tmp 13) Z5W Z66), (Zu.E, .cond (.tmp 28) Z6a Z5V), (Z2S.E, .block 1 (.loop Z7H)), (Z2p.E, .region 22 Z9W true)] (by kernel_rfl) (AllOK.cons (Zm7 k) (AllOK.cons (Zmh k) (AllOK.cons (Zoq k) (AllOK.cons (Zmm k) AllOK.nil))))
theorem Zao (k : Nat) : SoundAt Try.prog k 162 Z18.E := @Z4 Try.prog Z18 Z3 162 Try.f162 ZV (by kernel_rfl) (by kernel_rfl) (by kernel_rfl) Try.func162 (by kernel_rfl) (by kernel_rfl) (by kernel_rfl) T_ok Z3f Zvt Zvm Zv5 k
end
end Go.Proofs.Ytgjmhbjdhihgaaa.Vs

set_option maxRecDepth 100000
set_option maxHeartbeats 2000000
set_option linter.unusedVariables false
set_option linter.unusedSimpArgs false
namespace Go.Proofs.Ytgjmhbjdhihgaaa.Vs
open Go.RowKit
noncomputable section
noncomputable def Z4L : List PK := [PK.mk (Ty.pair (Ty.int .i64) (Ty.pair (Ty.int .i64) (Ty.slice (79 : Nat) (Ty.pair (Ty.int .i64) (Ty.int .i64))))) true none false none, PK.mk (Ty.slice (77 : Nat) (Ty.pair (Ty.int .i64) (Ty.pair (Ty.int .i64) (Ty.int .i64)))) false none false none, PK.mk (Ty.slice (34 : Nat) (Ty.slice (3 : Nat) (Ty.int .i64))) false none false none]
noncomputable def Zit : List PK := [PK.mk (Ty.slice (5 : Nat) (Ty.int .u8)) false none false none]
noncomputable def ZhR (r : (Int × Int × List (Int × Int)) × List (Int × Int × Int) × List (List Int)) : Tup Z4L × OutD := ((r.1, r.2.1, r.2.2, ()), none)
noncomputable def Zi8 : Tup Z4L × OutD → Option ((Int × Int × List (Int × Int)) × List (Int × Int × Int) × List (List Int))
 | (a, none) => some (a.1, a.2.1, a.2.2.1)
 | _ => none
theorem Zos : ∀ b r, Zi8 b = some r → ZhR r = b := by
 rintro ⟨a, o⟩ r h
 cases o with
 | none => injection h with h; subst h; rfl
 | some _ => cases h
noncomputable def Z2U : Nat → Int → Int → List (Int × Int) → List Int → Int → Int → Int → Int → List (Int × Int) → List (List Int) → Option (Int × Int × List (Int × Int) × List (Int × Int × Int) × List (List Int)) := fun k b1_0 b1_1 o2 b3_0 b3_1 b3_2 b4_0 b4_1 o5 o6 =>
    Option.bind (Z8 k (b3_0, b3_1, b3_2) (b4_0, b4_1, o5)) fun z1 => some (b4_0, b4_1, o5, Prod.fst z1, o6)
noncomputable def Z6L : Nat → Int → Int → List (Int × Int) → List Int → Int → Int → Int → Int → List (Int × Int) → List (List Int) → Option (List (Int × Int × List (Int × Int) × List (Int × Int × Int) × List (List Int))) := fun k b1_0 b1_1 o2 b3_0 b3_1 b3_2 b4_0 b4_1 o5 o6 =>
    joinL (Option.bind (Z8 k (b3_0, b3_1, b3_2) (b4_0, b4_1, o5)) fun z2 => some [(b4_0, b4_1, o5, Prod.fst z2, o6)]) (Option.bind (Z8 k (b3_0, b3_1, b3_2) (b4_0, b4_1, o5)) fun z3 => some [(b4_0, b4_1, o5, Prod.fst z3, o6)])
noncomputable def Zfg : Spec := Spec.mk [OSh.ro, OSh.box (53 : Nat) [Sh.int .i64, Sh.int .i64, Sh.sl (2 : Nat)], OSh.row true (79 : Nat) (Ty.pair (Ty.int .i64) (Ty.int .i64)), OSh.box (114 : Nat) [Sh.snap (0 : Nat) (Ty.int .u8), Sh.int .i64, Sh.int .u64], OSh.box (53 : Nat) [Sh.int .i64, Sh.int .i64, Sh.sl (5 : Nat)], OSh.row true (79 : Nat) (Ty.pair (Ty.int .i64) (Ty.int .i64)), OSh.row true (34 : Nat) (Ty.slice (3 : Nat) (Ty.int .i64))] [((2 : Nat), TSh.at (Sh.ptr (1 : Nat) (0 : Nat))), ((5 : Nat), TSh.at (Sh.ptr (3 : Nat) (0 : Nat))), ((6 : Nat), TSh.at (Sh.ptr (4 : Nat) (0 : Nat))), ((7 : Nat), TSh.at (Sh.sl (6 : Nat)))]
noncomputable def ZoA : Spec := Spec.mk [OSh.ro, OSh.box (53 : Nat) [Sh.int .i64, Sh.int .i64, Sh.sl (2 : Nat)], OSh.row true (79 : Nat) (Ty.pair (Ty.int .i64) (Ty.int .i64)), OSh.row true (77 : Nat) (Ty.pair (Ty.int .i64) (Ty.pair (Ty.int .i64) (Ty.int .i64))), OSh.row true (34 : Nat) (Ty.slice (3 : Nat) (Ty.int .i64))] [((2 : Nat), TSh.at (Sh.ptr (1 : Nat) (0 : Nat))), ((3 : Nat), TSh.at (Sh.sl (3 : Nat))), ((4 : Nat), TSh.at (Sh.sl (4 : Nat)))]
noncomputable def Z2z : LoopDef (Tup Z4L × OutD) := .plain Zfg ZoA (Int × Int × List (Int × Int) × List (Int × Int × Int) × List (List Int)) (fun k x => Z2U k x.1.2.1.1 x.1.2.1.2.1 x.1.2.2.1 x.1.2.2.2.1.1 x.1.2.2.2.1.2.1 x.1.2.2.2.1.2.2.1 x.1.2.2.2.2.1.1 x.1.2.2.2.2.1.2.1 x.1.2.2.2.2.2.1 x.1.2.2.2.2.2.2.1) (fun z => (((), (z.1, z.2.1, (), ()), z.2.2.1, z.2.2.2.1, z.2.2.2.2, ()), ((), (), (), ()))) (fun y => (y.1.2.1.1, y.1.2.1.2.1, y.1.2.2.1, y.1.2.2.2.1, y.1.2.2.2.2.1)) (fun _ => rfl)
theorem Zor (k : Nat) (b1_0 : Int) (b1_1 : Int) (o2 : List (Int × Int)) (b3_0 : List Int) (b3_1 : Int) (b3_2 : Int) (b4_0 : Int) (b4_1 : Int) (o5 : List (Int × Int)) (o6 : List (List Int)) : Z6L k b1_0 b1_1 o2 b3_0 b3_1 b3_2 b4_0 b4_1 o5 o6 = repl 2 (Z2U k b1_0 b1_1 o2 b3_0 b3_1 b3_2 b4_0 b4_1 o5 o6) := by
 first
 | (simp only [Z6L, Z2U, Zz, ZT, Zx, Zy, Zw, Za, if_true]; done)
 | (simp only [Z6L, Z2U, Zz, ZT, Zx, Zy, Zw, Za, if_true]; simp only [Z2E, Z2G, Z5g, Za]; simp only [Z72]; exact Z3w ⟨fun h => by simp only [h, and_self], fun h => by simp only [h, and_self]⟩)
noncomputable def Zas : Nat → List Int → Option ((Int × Int × List (Int × Int)) × List (Int × Int × Int) × List (List Int))
 | 0, _ => none
 | k + 1, p0 =>
  Option.bind (Z38 k (p0, (0 : Int), (0 : Int))) fun z0 => Option.bind (Z2U k (0 : Int) (0 : Int) [] p0 z0.2.2.1 z0.2.2.2 z0.1.1 z0.1.2.1 z0.1.2.2 z0.2.1) fun z4 => some ((Prod.fst z4, Prod.fst z4.2, Prod.fst z4.2.2), Prod.fst z4.2.2.2, Prod.snd z4.2.2.2)
noncomputable def Z28 : FnDef := .of Zit Z4L ((Int × Int × List (Int × Int)) × List (Int × Int × Int) × List (List Int)) (fun k x => Zas k x.1) ZhR Zi8 Zos
noncomputable def Zat : Code := Try.f74.body.getD .skip
noncomputable def Z1i : Ctx (Tup Z4L × OutD) := { T := T, G := [(162, Z18.E), (163, Z15.E)], mvs := [], no := 0, n := 21, res := resOf T Zit Z4L Try.f74.results.toList, loops := [], regs := [(3, Z2z.E)], conds := [] }
theorem ZiS (k : Nat) : EnvOK Try.prog k Z1i.G := (EnvOK.cons (Zao k) (EnvOK.cons (Zce k) (EnvOK.nil mixed)))
noncomputable def ZaD : Array Oper := (findReg 3 Zat).getD #[]
theorem Zou (k : Nat) (x : Zfg.D) : execD Z1i.T Z1i.G Z1i.mvs k ZaD (Z2z.inp.st Z1i.n x) (outK Z1i Z2z) = Z6L k x.1.2.1.1 x.1.2.1.2.1 x.1.2.2.1 x.1.2.2.2.1.1 x.1.2.2.2.1.2.1 x.1.2.2.2.1.2.2.1 x.1.2.2.2.2.1.1 x.1.2.2.2.2.1.2.1 x.1.2.2.2.2.2.1 x.1.2.2.2.2.2.2.1 := by kernel_rfl
theorem Zo1 (k : Nat) : EOK Try.prog Z1i k Z2z.E (.region 3 ZaD true) := Z9Z (D := Z2z) (m := 2) T_ok (ZiS k) (fun x => (Zou k x).trans (Zor k x.1.2.1.1 x.1.2.1.2.1 x.1.2.2.1 x.1.2.2.2.1.1 x.1.2.2.2.1.2.1 x.1.2.2.2.1.2.2.1 x.1.2.2.2.2.1.1 x.1.2.2.2.2.1.2.1 x.1.2.2.2.2.2.1 x.1.2.2.2.2.2.2.1))
theorem Zwd (k : Nat) (x : Tup Z28.ps) : Z28.f (k + 1) x = fnK Z28 Z1i Zat k x := by kernel_rfl
theorem ZvX (x : Tup Z28.ps) : Z28.f 0 x = none := by kernel_rfl
theorem Zvp (k : Nat) : LOK Try.prog Z1i k Zat := LOK.by [(Z2z.E, .region 3 ZaD true)] (by kernel_rfl) (AllOK.cons (Zo1 k) AllOK.nil)
theorem Zvz (k : Nat) : SoundAt Try.prog k 74 Z28.E := @Z4 Try.prog Z28 Z1i 74 Try.f74 Zat (by kernel_rfl) (by kernel_rfl) (by kernel_rfl) Try.func74 (by kernel_rfl) (by kernel_rfl) (by kernel_rfl) T_ok ZiS Zvp ZvX Zwd k
noncomputable def Z3s : List PK := [PK.mk (Ty.pair (Ty.int .i64) (Ty.pair (Ty.int .i64) (Ty.slice (79 : Nat) (Ty.pair (Ty.int .i64) (Ty.int .i64))))) true none false none, PK.mk (Ty.slice (34 : Nat) (Ty.slice (3 : Nat) (Ty.int .i64))) false none false none, PK.mk (Ty.slice (57 : Nat) (Ty.slice (63 : Nat) (Ty.pair (Ty.int .i64) (Ty.pair (Ty.int .i64) (Ty.int .i64))))) false none false none]
noncomputable def ZgQ : List PK := [PK.mk (Ty.slice (5 : Nat) (Ty.int .u8)) false none false none]
noncomputable def Zg4 (r : (Int × Int × List (Int × Int)) × List (List Int) × List (List (Int × Int × Int))) : Tup Z3s × OutD := ((r.1, r.2.1, r.2.2, ()), none)
noncomputable def ZfX : Tup Z3s × OutD → Option ((Int × Int × List (Int × Int)) × List (List Int) × List (List (Int × Int × Int)))
 | (a, none) => some (a.1, a.2.1, a.2.2.1)
 | _ => none
theorem Zmu : ∀ b r, ZfX b = some r → Zg4 r = b := by
 rintro ⟨a, o⟩ r h
 cases o with
 | none => injection h with h; subst h; rfl
 | some _ => cases h
noncomputable def Z20 : Nat → Int → Int → List (Int × Int) → List Int → Int → Int → Int → Int → List (Int × Int) → List (List Int) → List (List (Int × Int × Int)) → Int → Int → Option (Int × Int × List (Int × Int) × Int × Int × List (Int × Int) × List (List Int) × List (List (Int × Int × Int))) := fun k b1_0 b1_1 o2 b3_0 b3_1 b3_2 b4_0 b4_1 o5 o6 o7 v10 v11 =>
    if (0 : Int) ≤ v10 then if v10 < (↑(List.length o7) : Int) then Option.bind (Z1 k (b3_0, b3_1, b3_2) v11) fun z7 => Option.bind (Z1 k (b3_0, Prod.fst z7.2, Prod.snd z7.2) (3 : Int)) fun z8 => if (0 : Int) ≤ Prod.fst z7 then if Prod.fst z7 < (↑(List.length (List.getD o7 (Int.toNat v10) [])) : Int) then some (b1_0, b1_1, o2, b4_0, b4_1, o5, o6, List.set o7 (Int.toNat v10) (List.set (List.getD o7 (Int.toNat v10) []) (Int.toNat z7.1) ((2 : Int), (0 : Int), Prod.fst z8))) else none else none else none else none
noncomputable def Z53 : Nat → Int → Int → List (Int × Int) → List Int → Int → Int → Int → Int → List (Int × Int) → List (List Int) → List (List (Int × Int × Int)) → Int → Int → Option (List (Int × Int × List (Int × Int) × Int × Int × List (Int × Int) × List (List Int) × List (List (Int × Int × Int)))) := fun k b1_0 b1_1 o2 b3_0 b3_1 b3_2 b4_0 b4_1 o5 o6 o7 v10 v11 =>
    if (0 : Int) ≤ v10 then if v10 < (↑(List.length o7) : Int) then joinL (Option.bind (Z1 k (b3_0, b3_1, b3_2) v11) fun z9 => Option.bind (Z1 k (b3_0, Prod.fst z9.2, Prod.snd z9.2) (3 : Int)) fun z10 => if (0 : Int) ≤ Prod.fst z9 then if Prod.fst z9 < (↑(List.length (List.getD o7 (Int.toNat v10) [])) : Int) then some [(b1_0, b1_1, o2, b4_0, b4_1, o5, o6, List.set o7 (Int.toNat v10) (List.set (List.getD o7 (Int.toNat v10) []) (Int.toNat z9.1) ((2 : Int), (0 : Int), Prod.fst z10)))] else none else none) (Option.bind (Z1 k (b3_0, b3_1, b3_2) v11) fun z11 => joinL (Option.bind (Z1 k (b3_0, Prod.fst z11.2, Prod.snd z11.2) (3 : Int)) fun z12 => if (0 : Int) ≤ Prod.fst z11 then if Prod.fst z11 < (↑(List.length (List.getD o7 (Int.toNat v10) [])) : Int) then some [(b1_0, b1_1, o2, b4_0, b4_1, o5, o6, List.set o7 (Int.toNat v10) (List.set (List.getD o7 (Int.toNat v10) []) (Int.toNat z11.1) ((2 : Int), (0 : Int), Prod.fst z12)))] else none else none) (Option.bind (Z1 k (b3_0, Prod.fst z11.2, Prod.snd z11.2) (3 : Int)) fun z13 => if (0 : Int) ≤ Prod.fst z11 then if Prod.fst z11 < (↑(List.length (List.getD o7 (Int.toNat v10) [])) : Int) then some [(b1_0, b1_1, o2, b4_0, b4_1, o5, o6, List.set o7 (Int.toNat v10) (List.set (List.getD o7 (Int.toNat v10) []) (Int.toNat z11.1) ((2 : Int), (0 : Int), Prod.fst z13)))] else none else none)) else none else none
noncomputable def Zdt : Spec := Spec.mk [OSh.ro, OSh.box (53 : Nat) [Sh.int .i64, Sh.int .i64, Sh.sl (2 : Nat)], OSh.row true (79 : Nat) (Ty.pair (Ty.int .i64) (Ty.int .i64)), OSh.box (114 : Nat) [Sh.snap (0 : Nat) (Ty.int .u8), Sh.int .i64, Sh.int .u64], OSh.box (53 : Nat) [Sh.int .i64, Sh.int .i64, Sh.sl (5 : Nat)], OSh.row true (79 : Nat) (Ty.pair (Ty.int .i64) (Ty.int .i64)), OSh.row true (34 : Nat) (Ty.slice (3 : Nat) (Ty.int .i64)), OSh.row true (57 : Nat) (Ty.slice (63 : Nat) (Ty.pair (Ty.int .i64) (Ty.pair (Ty.int .i64) (Ty.int .i64))))] [((2 : Nat), TSh.at (Sh.ptr (1 : Nat) (0 : Nat))), ((5 : Nat), TSh.at (Sh.ptr (3 : Nat) (0 : Nat))), ((6 : Nat), TSh.at (Sh.ptr (4 : Nat) (0 : Nat))), ((7 : Nat), TSh.at (Sh.sl (6 : Nat))), ((9 : Nat), TSh.at (Sh.sl (7 : Nat))), ((10 : Nat), TSh.at (Sh.int .i64)), ((11 : Nat), TSh.at (Sh.int .i64))]
noncomputable def Zlb : Spec := Spec.mk [OSh.ro, OSh.box (53 : Nat) [Sh.int .i64, Sh.int .i64, Sh.sl (2 : Nat)], OSh.row true (79 : Nat) (Ty.pair (Ty.int .i64) (Ty.int .i64)), OSh.box (53 : Nat) [Sh.int .i64, Sh.int .i64, Sh.sl (4 : Nat)], OSh.row true (79 : Nat) (Ty.pair (Ty.int .i64) (Ty.int .i64)), OSh.row true (34 : Nat) (Ty.slice (3 : Nat) (Ty.int .i64)), OSh.row true (57 : Nat) (Ty.slice (63 : Nat) (Ty.pair (Ty.int .i64) (Ty.pair (Ty.int .i64) (Ty.int .i64))))] [((2 : Nat), TSh.at (Sh.ptr (1 : Nat) (0 : Nat))), ((6 : Nat), TSh.at (Sh.ptr (3 : Nat) (0 : Nat))), ((7 : Nat), TSh.at (Sh.sl (5 : Nat))), ((9 : Nat), TSh.at (Sh.sl (6 : Nat)))]
noncomputable def Z1Q : LoopDef (Tup Z3s × OutD) := .plain Zdt Zlb (Int × Int × List (Int × Int) × Int × Int × List (Int × Int) × List (List Int) × List (List (Int × Int × Int))) (fun k x => Z20 k x.1.2.1.1 x.1.2.1.2.1 x.1.2.2.1 x.1.2.2.2.1.1 x.1.2.2.2.1.2.1 x.1.2.2.2.1.2.2.1 x.1.2.2.2.2.1.1 x.1.2.2.2.2.1.2.1 x.1.2.2.2.2.2.1 x.1.2.2.2.2.2.2.1 x.1.2.2.2.2.2.2.2.1 x.2.2.2.2.2.2.1 x.2.2.2.2.2.2.2.1) (fun z => (((), (z.1, z.2.1, (), ()), z.2.2.1, (z.2.2.2.1, z.2.2.2.2.1, (), ()), z.2.2.2.2.2.1, z.2.2.2.2.2.2.1, z.2.2.2.2.2.2.2, ()), ((), (), (), (), ()))) (fun y => (y.1.2.1.1, y.1.2.1.2.1, y.1.2.2.1, y.1.2.2.2.1.1, y.1.2.2.2.1.2.1, y.1.2.2.2.2.1, y.1.2.2.2.2.2.1, y.1.2.2.2.2.2.2.1)) (fun _ => rfl)
theorem ZkC (k : Nat) (b1_0 : Int) (b1_1 : Int) (o2 : List (Int × Int)) (b3_0 : List Int) (b3_1 : Int) (b3_2 : Int) (b4_0 : Int) (b4_1 : Int) (o5 : List (Int × Int)) (o6 : List (List Int)) (o7 : List (List (Int × Int × Int))) (v10 : Int) (v11 : Int) : Z53 k b1_0 b1_1 o2 b3_0 b3_1 b3_2 b4_0 b4_1 o5 o6 o7 v10 v11 = repl 3 (Z20 k b1_0 b1_1 o2 b3_0 b3_1 b3_2 b4_0 b4_1 o5 o6 o7 v10 v11) := by
 first
 | (simp only [Z53, Z20, Zz, ZT, Zx, Zy, Zw, Za, if_true]; done)
 | (simp only [Z53, Z20, Zz, ZT, Zx, Zy, Zw, Za, if_true]; simp only [Z2E, Z2G, Z5g, Za]; simp only [Z72]; exact Z3w ⟨fun h => by simp only [h, and_self], fun h => by simp only [h, and_self]⟩)
noncomputable def Z7X : Nat → List Int → Option ((Int × Int × List (Int × Int)) × List (List Int) × List (List (Int × Int × Int)))
 | 0, _ => none
 | k + 1, p0 =>
  Option.bind (Z38 k (p0, (0 : Int), (0 : Int))) fun z0 => Option.bind (Z8 k (p0, Prod.fst z0.2.2, Prod.snd z0.2.2) (Prod.fst z0.1, Prod.fst z0.1.2, Prod.snd z0.1.2)) fun z1 => Option.bind (Z4a k (Prod.fst z0.1, Prod.fst z0.1.2, Prod.snd z0.1.2) z0.2.1) fun z2 => if (!z2) = true then some ((Prod.fst z0.1, Prod.fst z0.1.2, Prod.snd z0.1.2), Prod.fst z0.2, []) else Option.bind (Z8R k (Prod.fst z0.1, Prod.fst z0.1.2, Prod.snd z0.1.2) z1.1) fun z3 => if (!z3) = true then some ((Prod.fst z0.1, Prod.fst z0.1.2, Prod.snd z0.1.2), Prod.fst z0.2, []) else Option.bind (Z52 k (Prod.fst z0.1, Prod.fst z0.1.2, Prod.snd z0.1.2) z1.1 z0.2.1) fun z4 => if decide ((↑(List.length z4) : Int) > (0 : Int)) = true then Option.bind (Z1 k (p0, Prod.fst z1.2, Prod.snd z1.2) (10 : Int)) fun z5 => if decide (Prod.fst z5 = (0 : Int)) = true then if (1 : Int) ≤ (↑(List.length z4) : Int) then if (↑(List.length z4) : Int) ≤ (↑(List.length z4) : Int) then some ((Prod.fst z0.1, Prod.fst z0.1.2, Prod.snd z0.1.2), Prod.fst z0.2, List.drop (Int.toNat (1 : Int)) z4) else none else none else if decide (Prod.fst z5 = (1 : Int)) = true then Option.bind (Z1 k (p0, Prod.fst z5.2, Prod.snd z5.2) (↑(List.length z4) : Int)) fun z6 => if (0 : Int) ≤ Prod.fst z6 then if Prod.fst z6 < (↑(List.length z4) : Int) then if decide ((↑(List.length (List.getD z4 (Int.toNat z6.1) [])) : Int) > (0 : Int)) = true then Option.bind (Z20 k (0 : Int) (0 : Int) [] p0 z6.2.1 z6.2.2 z0.1.1 z0.1.2.1 z0.1.2.2 z0.2.1 z4 z6.1 (↑(List.length (List.getD z4 (Int.toNat z6.1) [])) : Int)) fun z14 => some ((Prod.fst z14.2.2.2, Prod.fst z14.2.2.2.2, Prod.fst z14.2.2.2.2.2), Prod.fst z14.2.2.2.2.2.2, Prod.snd z14.2.2.2.2.2.2) else some ((Prod.fst z0.1, Prod.fst z0.1.2, Prod.snd z0.1.2), Prod.fst z0.2, z4) else none else none else if decide (Prod.fst z5 = (2 : Int)) = true then if (0 : Int) < (↑(List.length z4) : Int) then if List.length (List.getD z4 (Int.toNat (0 : Int)) []) + List.length [((1 : Int), (0 : Int), (0 : Int))] ≤ (140737488355328 / 24 : Nat) then if (0 : Int) < (↑(List.length z4) : Int) then some ((Prod.fst z0.1, Prod.fst z0.1.2, Prod.snd z0.1.2), Prod.fst z0.2, List.set z4 (Int.toNat (0 : Int)) (List.getD z4 (Int.toNat (0 : Int)) [] ++ [((1 : Int), (0 : Int), (0 : Int))])) else none else none else none else some ((Prod.fst z0.1, Prod.fst z0.1.2, Prod.snd z0.1.2), Prod.fst z0.2, z4) else some ((Prod.fst z0.1, Prod.fst z0.1.2, Prod.snd z0.1.2), Prod.fst z0.2, z4)
noncomputable def Z1G : FnDef := .of ZgQ Z3s ((Int × Int × List (Int × Int)) × List (List Int) × List (List (Int × Int × Int))) (fun k x => Z7X k x.1) Zg4 ZfX Zmu
noncomputable def Z82 : Code := Try.f77.body.getD .skip
noncomputable def Z14 : Ctx (Tup Z3s × OutD) := { T := T, G := [(162, Z18.E), (163, Z15.E), (155, Z1q.E), (122, Z3I.E), (165, Z2J.E), (111, Zm.E)], mvs := [47, 71], no := 0, n := 85, res := resOf T ZgQ Z3s Try.f77.results.toList, loops := [], regs := [(15, Z1Q.E)], conds := [] }
theorem Zhd (k : Nat) : EnvOK Try.prog k Z14.G := (EnvOK.cons (Zao k) (EnvOK.cons (Zce k) (EnvOK.cons (Z9H k) (EnvOK.cons (ZkA k) (EnvOK.cons (Zgf k) (EnvOK.cons (Z1n k) (EnvOK.nil mixed)))))))
noncomputable def Z8N : Array Oper := (findReg 15 Z82).getD #[]
theorem Zlj (k : Nat) (x : Zdt.D) : execD Z14.T Z14.G Z14.mvs k Z8N (Z1Q.inp.st Z14.n x) (outK Z14 Z1Q) = Z53 k x.1.2.1.1 x.1.2.1.2.1 x.1.2.2.1 x.1.2.2.2.1.1 x.1.2.2.2.1.2.1 x.1.2.2.2.1.2.2.1 x.1.2.2.2.2.1.1 x.1.2.2.2.2.1.2.1 x.1.2.2.2.2.2.1 x.1.2.2.2.2.2.2.1 x.1.2.2.2.2.2.2.2.1 x.2.2.2.2.2.2.1 x.2.2.2.2.2.2.2.1 := by kernel_rfl
theorem Zkh (k : Nat) : EOK Try.prog Z14 k Z1Q.E (.region 15 Z8N true) := Z9Z (D := Z1Q) (m := 3) T_ok (Zhd k) (fun x => (Zlj k x).trans (ZkC k x.1.2.1.1 x.1.2.1.2.1 x.1.2.2.1 x.1.2.2.2.1.1 x.1.2.2.2.1.2.1 x.1.2.2.2.1.2.2.1 x.1.2.2.2.2.1.1 x.1.2.2.2.2.1.2.1 x.1.2.2.2.2.2.1 x.1.2.2.2.2.2.2.1 x.1.2.2.2.2.2.2.2.1 x.2.2.2.2.2.2.1 x.2.2.2.2.2.2.2.1))
theorem Zsr (k : Nat) (x : Tup Z1G.ps) : Z1G.f (k + 1) x = fnK Z1G Z14 Z82 k x := by kernel_rfl
theorem ZrV (x : Tup Z1G.ps) : Z1G.f 0 x = none := by kernel_rfl
theorem ZqG (k : Nat) : LOK Try.prog Z14 k Z82 := LOK.by [(Z1Q.E, .region 15 Z8N true)] (by kernel_rfl) (AllOK.cons (Zkh k) AllOK.nil)
theorem Zrf (k : Nat) : SoundAt Try.prog k 77 Z1G.E := @Z4 Try.prog Z1G Z14 77 Try.f77 Z82 (by kernel_rfl) (by kernel_rfl) (by kernel_rfl) Try.func77 (by kernel_rfl) (by kernel_rfl) (by kernel_rfl) T_ok Zhd ZqG ZrV Zsr k
noncomputable def Z3O : List PK := [PK.mk (Ty.pair (Ty.int .i64) (Ty.pair (Ty.int .i64) (Ty.slice (79 : Nat) (Ty.pair (Ty.int .i64) (Ty.int .i64))))) true none false none, PK.mk (Ty.slice (34 : Nat) (Ty.slice (3 : Nat) (Ty.int .i64))) false none false none, PK.mk (Ty.slice (77 : Nat) (Ty.pair (Ty.int .i64) (Ty.pair (Ty.int .i64) (Ty.int .i64)))) false none false none, PK.mk (Ty.slice (77 : Nat) (Ty.pair (Ty.int .i64) (Ty.pair (Ty.int .i64) (Ty.int .i64)))) false none false none]
noncomputable def Zia : List PK := [PK.mk (Ty.slice (5 : Nat) (Ty.int .u8)) false none false none]
noncomputable def ZgU (r : (Int × Int × List (Int × Int)) × List (List Int) × List (Int × Int × Int) × List (Int × Int × Int)) : Tup Z3O × OutD := ((r.1, r.2.1, r.2.2.1, r.2.2.2, ()), none)
noncomputable def Zh1 : Tup Z3O × OutD → Option ((Int × Int × List (Int × Int)) × List (List Int) × List (Int × Int × Int) × List (Int × Int × Int))
 | (a, none) => some (a.1, a.2.1, a.2.2.1, a.2.2.2.1)
 | _ => none
theorem Zob : ∀ b r, Zh1 b = some r → ZgU r = b := by
 rintro ⟨a, o⟩ r h
 cases o with
 | none => injection h with h; subst h; rfl
 | some _ => cases h
noncomputable def Z2y : Nat → Int → Int → List (Int × Int) → List Int → Int → Int → Int → Int → List (Int × Int) → List (List Int) → Option (Int × Int × List (Int × Int) × List (List Int) × List (Int × Int × Int) × List (Int × Int × Int)) := fun k b1_0 b1_1 o2 b3_0 b3_1 b3_2 b4_0 b4_1 o5 o6 =>
    Option.bind (Z8 k (b3_0, b3_1, b3_2) (b4_0, b4_1, o5)) fun z1 => Option.bind (Z8 k (b3_0, Prod.fst z1.2, Prod.snd z1.2) (b4_0, b4_1, o5)) fun z2 => some (b4_0, b4_1, o5, o6, Prod.fst z1, Prod.fst z2)
noncomputable def Z5T : Nat → Int → Int → List (Int × Int) → List Int → Int → Int → Int → Int → List (Int × Int) → List (List Int) → Option (List (Int × Int × List (Int × Int) × List (List Int) × List (Int × Int × Int) × List (Int × Int × Int))) := fun k b1_0 b1_1 o2 b3_0 b3_1 b3_2 b4_0 b4_1 o5 o6 =>
    joinL (joinL (Option.bind (Z8 k (b3_0, b3_1, b3_2) (b4_0, b4_1, o5)) fun z3 => Option.bind (Z8 k (b3_0, Prod.fst z3.2, Prod.snd z3.2) (b4_0, b4_1, o5)) fun z4 => some [(b4_0, b4_1, o5, o6, Prod.fst z3, Prod.fst z4)]) (Option.bind (Z8 k (b3_0, b3_1, b3_2) (b4_0, b4_1, o5)) fun z5 => Option.bind (Z8 k (b3_0, Prod.fst z5.2, Prod.snd z5.2) (b4_0, b4_1, o5)) fun z6 => some [(b4_0, b4_1, o5, o6, Prod.fst z5, Prod.fst z6)])) (joinL (Option.bind (Z8 k (b3_0, b3_1, b3_2) (b4_0, b4_1, o5)) fun z7 => joinL (Option.bind (Z8 k (b3_0, Prod.fst z7.2, Prod.snd z7.2) (b4_0, b4_1, o5)) fun z8 => some [(b4_0, b4_1, o5, o6, Prod.fst z7, Prod.fst z8)]) (joinL (Option.bind (Z8 k (b3_0, Prod.fst z7.2, Prod.snd z7.2) (b4_0, b4_1, o5)) fun z9 => some [(b4_0, b4_1, o5, o6, Prod.fst z7, Prod.fst z9)]) (Option.bind (Z8 k (b3_0, Prod.fst z7.2, Prod.snd z7.2) (b4_0, b4_1, o5)) fun z10 => some [(b4_0, b4_1, o5, o6, Prod.fst z7, Prod.fst z10)]))) (joinL (Option.bind (Z8 k (b3_0, b3_1, b3_2) (b4_0, b4_1, o5)) fun z11 => Option.bind (Z8 k (b3_0, Prod.fst z11.2, Prod.snd z11.2) (b4_0, b4_1, o5)) fun z12 => some [(b4_0, b4_1, o5, o6, Prod.fst z11, Prod.fst z12)]) (Option.bind (Z8 k (b3_0, b3_1, b3_2) (b4_0, b4_1, o5)) fun z13 => joinL (Option.bind (Z8 k (b3_0, Prod.fst z13.2, Prod.snd z13.2) (b4_0, b4_1, o5)) fun z14 => some [(b4_0, b4_1, o5, o6, Prod.fst z13, Prod.fst z14)]) (Option.bind (Z8 k (b3_0, Prod.fst z13.2, Prod.snd z13.2) (b4_0, b4_1, o5)) fun z15 => some [(b4_0, b4_1, o5, o6, Prod.fst z13, Prod.fst z15)]))))
noncomputable def Zex : Spec := Spec.mk [OSh.ro, OSh.box (53 : Nat) [Sh.int .i64, Sh.int .i64, Sh.sl (2 : Nat)], OSh.row true (79 : Nat) (Ty.pair (Ty.int .i64) (Ty.int .i64)), OSh.box (114 : Nat) [Sh.snap (0 : Nat) (Ty.int .u8), Sh.int .i64, Sh.int .u64], OSh.box (53 : Nat) [Sh.int .i64, Sh.int .i64, Sh.sl (5 : Nat)], OSh.row true (79 : Nat) (Ty.pair (Ty.int .i64) (Ty.int .i64)), OSh.row true (34 : Nat) (Ty.slice (3 : Nat) (Ty.int .i64))] [((2 : Nat), TSh.at (Sh.ptr (1 : Nat) (0 : Nat))), ((6 : Nat), TSh.at (Sh.ptr (3 : Nat) (0 : Nat))), ((7 : Nat), TSh.at (Sh.ptr (4 : Nat) (0 : Nat))), ((8 : Nat), TSh.at (Sh.sl (6 : Nat)))]
noncomputable def ZmM : Spec := Spec.mk [OSh.ro, OSh.box (53 : Nat) [Sh.int .i64, Sh.int .i64, Sh.sl (2 : Nat)], OSh.row true (79 : Nat) (Ty.pair (Ty.int .i64) (Ty.int .i64)), OSh.row true (34 : Nat) (Ty.slice (3 : Nat) (Ty.int .i64)), OSh.row true (77 : Nat) (Ty.pair (Ty.int .i64) (Ty.pair (Ty.int .i64) (Ty.int .i64))), OSh.row true (77 : Nat) (Ty.pair (Ty.int .i64) (Ty.pair (Ty.int .i64) (Ty.int .i64)))] [((2 : Nat), TSh.at (Sh.ptr (1 : Nat) (0 : Nat))), ((3 : Nat), TSh.at (Sh.sl (3 : Nat))), ((4 : Nat), TSh.at (Sh.sl (4 : Nat))), ((5 : Nat), TSh.at (Sh.sl (5 : Nat)))]
noncomputable def Z2e : LoopDef (Tup Z3O × OutD) := .plain Zex ZmM (Int × Int × List (Int × Int) × List (List Int) × List (Int × Int × Int) × List (Int × Int × Int)) (fun k x => Z2y k x.1.2.1.1 x.1.2.1.2.1 x.1.2.2.1 x.1.2.2.2.1.1 x.1.2.2.2.1.2.1 x.1.2.2.2.1.2.2.1 x.1.2.2.2.2.1.1 x.1.2.2.2.2.1.2.1 x.1.2.2.2.2.2.1 x.1.2.2.2.2.2.2.1) (fun z => (((), (z.1, z.2.1, (), ()), z.2.2.1, z.2.2.2.1, z.2.2.2.2.1, z.2.2.2.2.2, ()), ((), (), (), (), ()))) (fun y => (y.1.2.1.1, y.1.2.1.2.1, y.1.2.2.1, y.1.2.2.2.1, y.1.2.2.2.2.1, y.1.2.2.2.2.2.1)) (fun _ => rfl)
theorem Znt (k : Nat) (b1_0 : Int) (b1_1 : Int) (o2 : List (Int × Int)) (b3_0 : List Int) (b3_1 : Int) (b3_2 : Int) (b4_0 : Int) (b4_1 : Int) (o5 : List (Int × Int)) (o6 : List (List Int)) : Z5T k b1_0 b1_1 o2 b3_0 b3_1 b3_2 b4_0 b4_1 o5 o6 = repl 8 (Z2y k b1_0 b1_1 o2 b3_0 b3_1 b3_2 b4_0 b4_1 o5 o6) := by
 first
 | (simp only [Z5T, Z2y, Zz, ZT, Zx, Zy, Zw, Za, if_true]; done)
 | (simp only [Z5T, Z2y, Zz, ZT, Zx, Zy, Zw, Za, if_true]; simp only [Z2E, Z2G, Z5g, Za]; simp only [Z72]; exact Z3w ⟨fun h => by simp only [h, and_self], fun h => by simp only [h, and_self]⟩)
noncomputable def Z9r : Nat → List Int → Option ((Int × Int × List (Int × Int)) × List (List Int) × List (Int × Int × Int) × List (Int × Int × Int))
 | 0, _ => none
 | k + 1, p0 =>
  Option.bind (Z38 k (p0, (0 : Int), (0 : Int))) fun z0 => Option.bind (Z2y k (0 : Int) (0 : Int) [] p0 z0.2.2.1 z0.2.2.2 z0.1.1 z0.1.2.1 z0.1.2.2 z0.2.1) fun z16 => some ((Prod.fst z16, Prod.fst z16.2, Prod.fst z16.2.2), Prod.fst z16.2.2.2, Prod.fst z16.2.2.2.2, Prod.snd z16.2.2.2.2)
noncomputable def Z1U : FnDef := .of Zia Z3O ((Int × Int × List (Int × Int)) × List (List Int) × List (Int × Int × Int) × List (Int × Int × Int)) (fun k x => Z9r k x.1) ZgU Zh1 Zob
noncomputable def Z92 : Code := Try.f80.body.getD .skip
noncomputable def Z1c : Ctx (Tup Z3O × OutD) := { T := T, G := [(162, Z18.E), (163, Z15.E)], mvs := [], no := 0, n := 25, res := resOf T Zia Z3O Try.f80.results.toList, loops := [], regs := [(3, Z2e.E)], conds := [] }
theorem Zif (k : Nat) : EnvOK Try.prog k Z1c.G := (EnvOK.cons (Zao k) (EnvOK.cons (Zce k) (EnvOK.nil mixed)))
noncomputable def Za0 : Array Oper := (findReg 3 Z92).getD #[]
theorem Zo3 (k : Nat) (x : Zex.D) : execD Z1c.T Z1c.G Z1c.mvs k Za0 (Z2e.inp.st Z1c.n x) (outK Z1c Z2e) = Z5T k x.1.2.1.1 x.1.2.1.2.1 x.1.2.2.1 x.1.2.2.2.1.1 x.1.2.2.2.1.2.1 x.1.2.2.2.1.2.2.1 x.1.2.2.2.2.1.1 x.1.2.2.2.2.1.2.1 x.1.2.2.2.2.2.1 x.1.2.2.2.2.2.2.1 := by kernel_rfl
theorem Zml (k : Nat) : EOK Try.prog Z1c k Z2e.E (.region 3 Za0 true) := Z9Z (D := Z2e) (m := 8) T_ok (Zif k) (fun x => (Zo3 k x).trans (Znt k x.1.2.1.1 x.1.2.1.2.1 x.1.2.2.1 x.1.2.2.2.1.1 x.1.2.2.2.1.2.1 x.1.2.2.2.1.2.2.1 x.1.2.2.2.2.1.1 x.1.2.2.2.2.1.2.1 x.1.2.2.2.2.2.1 x.1.2.2.2.2.2.2.1))
theorem Ztx (k : Nat) (x : Tup Z1U.ps) : Z1U.f (k + 1) x = fnK Z1U Z1c Z92 k x := by kernel_rfl
theorem Zsv (x : Tup Z1U.ps) : Z1U.f 0 x = none := by kernel_rfl
theorem ZsH (k : Nat) : LOK Try.prog Z1c k Z92 := LOK.by [(Z2e.E, .region 3 Za0 true)] (by kernel_rfl) (AllOK.cons (Zml k) AllOK.nil)
theorem ZsR (k : Nat) : SoundAt Try.prog k 80 Z1U.E := @Z4 Try.prog Z1U Z1c 80 Try.f80 Z92 (by kernel_rfl) (by kernel_rfl) (by kernel_rfl) Try.func80 (by kernel_rfl) (by kernel_rfl) (by kernel_rfl) T_ok Zif ZsH Zsv Ztx k
noncomputable def Z6Q : List PK := [PK.mk (Ty.pair (Ty.int .i64) (Ty.pair (Ty.int .i64) (Ty.slice (79 : Nat) (Ty.pair (Ty.int .i64) (Ty.int .i64))))) true none false none, PK.mk (Ty.slice (34 : Nat) (Ty.slice (3 : Nat) (Ty.int .i64))) false none false none]
noncomputable def ZiP : List PK := [PK.mk (Ty.slice (5 : Nat) (Ty.int .u8)) false none false none]
noncomputable def ZhS (r : (Int × Int × List (Int × Int)) × List (List Int)) : Tup Z6Q × OutD := ((r.1, r.2, ()), none)
noncomputable def Zhl : Tup Z6Q × OutD → Option ((Int × Int × List (Int × Int)) × List (List Int))
 | (a, none) => some (a.1, a.2.1)
 | _ => none
theorem ZoP : ∀ b r, Zhl b = some r → ZhS r = b := by
 rintro ⟨a, o⟩ r h
 cases o with
 | none => injection h with h; subst h; rfl
 | some _ => cases h
noncomputable def Z6P : Nat → List Int → Option ((Int × Int × List (Int × Int)) × List (List Int))
 | 0, _ => none
 | k + 1, p0 =>
  Option.bind (Z38 k (p0, (0 : Int), (0 : Int))) fun z0 => some ((Prod.fst z0.1, Prod.fst z0.1.2, Prod.snd z0.1.2), Prod.fst z0.2)
noncomputable def Z1y : FnDef := .of ZiP Z6Q ((Int × Int × List (Int × Int)) × List (List Int)) (fun k x => Z6P k x.1) ZhS Zhl ZoP
noncomputable def ZdQ : Code := Try.f83.body.getD .skip
noncomputable def Zag : Ctx (Tup Z6Q × OutD) := { T := T, G := [(162, Z18.E)], mvs := [], no := 0, n := 12, res := resOf T ZiP Z6Q Try.f83.results.toList, loops := [], regs := [], conds := [] }
theorem ZvI (k : Nat) : EnvOK Try.prog k Zag.G := (EnvOK.cons (Zao k) (EnvOK.nil mixed))
theorem Zwo (k : Nat) (x : Tup Z1y.ps) : Z1y.f (k + 1) x = fnK Z1y Zag ZdQ k x := by kernel_rfl
theorem Zwh (x : Tup Z1y.ps) : Z1y.f 0 x = none := by kernel_rfl
theorem Zwf (k : Nat) : LOK Try.prog Zag k ZdQ := LOK.by [] (by kernel_rfl) AllOK.nil
theorem ZiC (k : Nat) : SoundAt Try.prog k 83 Z1y.E := @Z4 Try.prog Z1y Zag 83 Try.f83 ZdQ (by kernel_rfl) (by kernel_rfl) (by kernel_rfl) Try.func83 (by kernel_rfl) (by kernel_rfl) (by kernel_rfl) T_ok ZvI Zwf Zwh Zwo k
end
end Go.Proofs.Ytgjmhbjdhihgaaa.Vs
