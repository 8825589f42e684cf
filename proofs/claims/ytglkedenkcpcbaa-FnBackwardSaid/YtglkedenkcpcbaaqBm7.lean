/- The proof, part 8. -/
import Derived.Test.YtglkedenkcpcbaaqBm6
set_option maxRecDepth 100000
set_option maxHeartbeats 2000000
set_option linter.unusedVariables false
set_option linter.unusedSimpArgs false
namespace Go.Proofs.Ytglkedenkcpcbaa.Vs
open Go.RowKit
noncomputable section
noncomputable def Z47 : List PK := [PK.mk (Ty.slice (26 : Nat) (Ty.pair (Ty.int .i64) (Ty.pair (Ty.int .i64) (Ty.slice (71 : Nat) (Ty.pair (Ty.int .i64) (Ty.int .i64)))))) false none false none, PK.mk Ty.bool false none false none]
noncomputable def Zgv : List PK := [PK.mk (Ty.pair (Ty.int .i64) (Ty.pair (Ty.int .i64) (Ty.slice (71 : Nat) (Ty.pair (Ty.int .i64) (Ty.int .i64))))) true none false none, PK.mk (Ty.int .i64) false none false none]
noncomputable def Zga (r : List (Int × Int × List (Int × Int)) × Bool) : Tup Z47 × OutD := ((r.1, r.2, ()), none)
noncomputable def ZfD : Tup Z47 × OutD → Option (List (Int × Int × List (Int × Int)) × Bool)
 | (a, none) => some (a.1, a.2.1)
 | _ => none
theorem ZkC : ∀ b r, ZfD b = some r → Zga r = b := by
 rintro ⟨a, o⟩ r h
 cases o with
 | none => injection h with h; subst h; rfl
 | some _ => cases h
noncomputable def Z1V : Nat → Int → Int → List (Int × Int) → List (Int × Int × List (Int × Int)) → List (List Int) → Int → Int → Int → Int → Option (List (Int × Int × List (Int × Int)))
 | 0, _, _, _, _, _, _, _, _, _ => none
 | k + 1, b1_0, b1_1, b1_2, o2, o3, v7, v25, v26, v27 =>
  if decide (v27 < v26) = true then if (0 : Int) ≤ v27 then if v27 < (↑(List.length (List.getD o3 (Int.toNat v25) [])) : Int) then if decide (List.getD (List.getD o3 (Int.toNat v25) []) (Int.toNat v27) (0 : Int) = v7) = true then Option.bind (Z5R k (b1_0, b1_1, b1_2) v27) fun z4 => if List.length o2 + List.length [(Prod.fst z4.1, Prod.fst z4.1.2, Prod.snd z4.1.2)] ≤ (140737488355328 / 40 : Nat) then Z1V k b1_0 b1_1 b1_2 (o2 ++ [(Prod.fst z4.1, Prod.fst z4.1.2, Prod.snd z4.1.2)]) o3 v7 v25 v26 (wrap64 (v27 + (1 : Int))) else none else Z1V k b1_0 b1_1 b1_2 o2 o3 v7 v25 v26 (wrap64 (v27 + (1 : Int))) else none else none else some o2
noncomputable def Z9V : Spec := Spec.mk [OSh.ro, OSh.box (26 : Nat) [Sh.int .i64, Sh.int .i64, Sh.snap (0 : Nat) (Ty.pair (Ty.int .i64) (Ty.int .i64))], OSh.row true (26 : Nat) (Ty.pair (Ty.int .i64) (Ty.pair (Ty.int .i64) (Ty.slice (71 : Nat) (Ty.pair (Ty.int .i64) (Ty.int .i64))))), OSh.row true (36 : Nat) (Ty.slice (3 : Nat) (Ty.int .i64))] [((2 : Nat), TSh.at (Sh.ptr (1 : Nat) (0 : Nat))), ((6 : Nat), TSh.at (Sh.sl (2 : Nat))), ((7 : Nat), TSh.at (Sh.int .i64)), ((25 : Nat), TSh.at (Sh.inn (3 : Nat))), ((26 : Nat), TSh.at (Sh.int .i64)), ((27 : Nat), TSh.at (Sh.int .i64))]
noncomputable def ZmE : Spec := Spec.mk [OSh.ro, OSh.row true (26 : Nat) (Ty.pair (Ty.int .i64) (Ty.pair (Ty.int .i64) (Ty.slice (71 : Nat) (Ty.pair (Ty.int .i64) (Ty.int .i64)))))] [((6 : Nat), TSh.at (Sh.sl (1 : Nat)))]
noncomputable def Z2q : LoopDef (Tup Z47 × OutD) := .plain Z9V ZmE (List (Int × Int × List (Int × Int))) (fun k x => Z1V k x.1.2.1.1 x.1.2.1.2.1 x.1.2.1.2.2.1 x.1.2.2.1 x.1.2.2.2.1 x.2.2.2.1 x.2.2.2.2.1 x.2.2.2.2.2.1 x.2.2.2.2.2.2.1) (fun z => (((), z, ()), ((), ()))) (fun y => (y.1.2.1)) (fun _ => rfl)
noncomputable def Z5O : Nat → Int × Int × List (Int × Int) → Int → Option (List (Int × Int × List (Int × Int)) × Bool)
 | 0, _, _ => none
 | k + 1, p0, p1 =>
  Option.bind (Z7m k (Prod.fst p0, Prod.fst p0.2, Prod.snd p0.2) p1) fun z0 => if (!z0) = true then some ([], false) else Option.bind (Z93 k (Prod.fst p0, Prod.fst p0.2, Prod.snd p0.2)) fun z1 => Option.bind (Z56 k z1) fun z2 => Option.bind (Z2P k (Prod.fst p0, Prod.fst p0.2, Prod.snd p0.2) [p1]) fun z3 => if (0 : Int) < (↑(List.length z3) : Int) then Option.bind (Z1V k p0.1 p0.2.1 p0.2.2 [] z3 z2 (0 : Int) (↑(List.length (List.getD z3 (Int.toNat (0 : Int)) [])) : Int) (0 : Int)) fun z5 => some (z5, true) else none
noncomputable def Z15 : FnDef := .of Zgv Z47 (List (Int × Int × List (Int × Int)) × Bool) (fun k x => Z5O k x.1 x.2.1) Zga ZfD ZkC
noncomputable def Z8w : Code := Try.f7.body.getD .skip
noncomputable def Z2W : Ctx (Tup Z47 × OutD) := { T := T, G := [(39, Z1Y.E), (41, Z3v.E), (40, Z1m.E), (42, ZD.E), (43, Z16.E)], mvs := [], no := 0, n := 47, res := resOf T Zgv Z47 Try.f7.results.toList, loops := [(0, Z2q.E)], regs := [], conds := [], cuts := [] }
theorem ZgO (k : Nat) : EnvOK Try.prog k Z2W.G := (EnvOK.cons (ZfF k) (EnvOK.cons (Zi8 k) (EnvOK.cons (Zcc k) (EnvOK.cons (Z8E k) (EnvOK.cons (Zgw k) (EnvOK.nil mixed))))))
noncomputable def Z6o : Code := (findLoop 0 Z8w).getD .skip
theorem Znd (k : Nat) (x : Z9V.D) : Z2q.lp (k + 1) x = loopK Z2W Z2q 0 Z6o k x := by kernel_rfl
theorem Znb (k : Nat) : LOK Try.prog Z2W k Z6o := LOK.by [] (by kernel_rfl) AllOK.nil
theorem Znc (x : Z9V.D) : Z2q.lp 0 x = none := by kernel_rfl
theorem ZkB (k : Nat) : EOK Try.prog Z2W k Z2q.E (.block 0 (.loop Z6o)) := Z5 T_ok ZgO Znc Znd Znb k
theorem Zr1 (k : Nat) (x : Tup Z15.ps) : Z15.f (k + 1) x = fnK Z15 Z2W Z8w k x := by kernel_rfl
theorem ZrJ (x : Tup Z15.ps) : Z15.f 0 x = none := by kernel_rfl
theorem Zr8 (k : Nat) : LOK Try.prog Z2W k Z8w := LOK.by [(Z2q.E, .block 0 (.loop Z6o))] (by kernel_rfl) (AllOK.cons (ZkB k) AllOK.nil)
theorem Zgl (k : Nat) : SoundAt Try.prog k 7 Z15.E := @Z1 Try.prog Z15 Z2W 7 Try.f7 Z8w (by kernel_rfl) (by kernel_rfl) (by kernel_rfl) Try.func7 (by kernel_rfl) (by kernel_rfl) (by kernel_rfl) T_ok ZgO Zr8 ZrJ Zr1 k
noncomputable def Z41 : List PK := [PK.mk Ty.bool false none false none, PK.mk Ty.bool false none false none]
noncomputable def ZgB : List PK := [PK.mk (Ty.pair (Ty.int .i64) (Ty.pair (Ty.int .i64) (Ty.slice (71 : Nat) (Ty.pair (Ty.int .i64) (Ty.int .i64))))) true none false none, PK.mk (Ty.int .i64) false none false none]
noncomputable def Zbk (r : Bool × Bool) : Tup Z41 × OutD := ((r.1, r.2, ()), none)
noncomputable def Zbc : Tup Z41 × OutD → Option (Bool × Bool)
 | (a, none) => some (a.1, a.2.1)
 | _ => none
theorem Zdm : ∀ b r, Zbc b = some r → Zbk r = b := by
 rintro ⟨a, o⟩ r h
 cases o with
 | none => injection h with h; subst h; rfl
 | some _ => cases h
noncomputable def Z37 : Nat → List Int → Int → Int → Option (LR Unit (Bool × Bool))
 | 0, _, _, _ => none
 | k + 1, o1, v19, v20 =>
  if decide (v20 < v19) = true then if (0 : Int) ≤ v20 then if v20 < (↑(List.length o1) : Int) then if decide (List.getD o1 (Int.toNat v20) (0 : Int) ≠ (1 : Int)) = true then some (LR.ret (false, true)) else Z37 k o1 v19 (wrap64 (v20 + (1 : Int))) else none else none else some (LR.go ())
noncomputable def Z9W : Spec := Spec.mk [OSh.ro, OSh.row true (3 : Nat) (Ty.int .i64)] [((18 : Nat), TSh.at (Sh.sl (1 : Nat))), ((19 : Nat), TSh.at (Sh.int .i64)), ((20 : Nat), TSh.at (Sh.int .i64))]
noncomputable def Znx : Spec := Spec.mk [OSh.ro] []
noncomputable def Z2A : LoopDef (Tup Z41 × OutD) := .rets Z9W Znx (Unit) (Bool × Bool) (fun k x => Z37 k x.1.2.1 x.2.2.1 x.2.2.2.1) (fun z => (((), ()), (()))) (fun y => ()) (fun _ => rfl) Zbk Zbc Zdm
noncomputable def Z8J : Nat → Int × Int × List (Int × Int) → Int → Option (Bool × Bool)
 | 0, _, _ => none
 | k + 1, p0, p1 =>
  Option.bind (Z7m k (Prod.fst p0, Prod.fst p0.2, Prod.snd p0.2) p1) fun z0 => if (!z0) = true then some (false, false) else Option.bind (Z2P k (Prod.fst p0, Prod.fst p0.2, Prod.snd p0.2) [p1]) fun z1 => if (0 : Int) < (↑(List.length z1) : Int) then Option.bind (Z5K k (List.getD z1 (Int.toNat (0 : Int)) [])) fun z2 => Option.bind (Z37 k z2 (↑(List.length z2) : Int) (0 : Int)) fun z3 => LR.on z3 (fun y3 => some (true, true)) fun r3 => some r3 else none
noncomputable def Z1I : FnDef := .of ZgB Z41 (Bool × Bool) (fun k x => Z8J k x.1 x.2.1) Zbk Zbc Zdm
noncomputable def Z8A : Code := Try.f11.body.getD .skip
noncomputable def Z2O : Ctx (Tup Z41 × OutD) := { T := T, G := [(39, Z1Y.E), (42, ZD.E), (50, Z13.E)], mvs := [], no := 0, n := 27, res := resOf T ZgB Z41 Try.f11.results.toList, loops := [(0, Z2A.E)], regs := [], conds := [], cuts := [] }
theorem ZgL (k : Nat) : EnvOK Try.prog k Z2O.G := (EnvOK.cons (ZfF k) (EnvOK.cons (Z8E k) (EnvOK.cons (Zgf k) (EnvOK.nil mixed))))
noncomputable def Z6t : Code := (findLoop 0 Z8A).getD .skip
theorem Zm2 (k : Nat) (x : Z9W.D) : Z2A.lp (k + 1) x = loopK Z2O Z2A 0 Z6t k x := by kernel_rfl
theorem Zny (k : Nat) : LOK Try.prog Z2O k Z6t := LOK.by [] (by kernel_rfl) AllOK.nil
theorem Zmv (x : Z9W.D) : Z2A.lp 0 x = none := by kernel_rfl
theorem ZkN (k : Nat) : EOK Try.prog Z2O k Z2A.E (.block 0 (.loop Z6t)) := Z5 T_ok ZgL Zmv Zm2 Zny k
theorem ZrL (k : Nat) (x : Tup Z1I.ps) : Z1I.f (k + 1) x = fnK Z1I Z2O Z8A k x := by kernel_rfl
theorem Zr9 (x : Tup Z1I.ps) : Z1I.f 0 x = none := by kernel_rfl
theorem ZrR (k : Nat) : LOK Try.prog Z2O k Z8A := LOK.by [(Z2A.E, .block 0 (.loop Z6t))] (by kernel_rfl) (AllOK.cons (ZkN k) AllOK.nil)
theorem ZrH (k : Nat) : SoundAt Try.prog k 11 Z1I.E := @Z1 Try.prog Z1I Z2O 11 Try.f11 Z8A (by kernel_rfl) (by kernel_rfl) (by kernel_rfl) Try.func11 (by kernel_rfl) (by kernel_rfl) (by kernel_rfl) T_ok ZgL ZrR Zr9 ZrL k
noncomputable def Z4w : List PK := [PK.mk (Ty.slice (3 : Nat) (Ty.int .i64)) false none false none, PK.mk Ty.bool false none false none]
noncomputable def Zhv : List PK := [PK.mk (Ty.pair (Ty.int .i64) (Ty.pair (Ty.int .i64) (Ty.slice (71 : Nat) (Ty.pair (Ty.int .i64) (Ty.int .i64))))) true none false none, PK.mk (Ty.int .i64) false none false none]
noncomputable def Zgz (r : List Int × Bool) : Tup Z4w × OutD := ((r.1, r.2, ()), none)
noncomputable def ZgM : Tup Z4w × OutD → Option (List Int × Bool)
 | (a, none) => some (a.1, a.2.1)
 | _ => none
theorem Zmq : ∀ b r, ZgM b = some r → Zgz r = b := by
 rintro ⟨a, o⟩ r h
 cases o with
 | none => injection h with h; subst h; rfl
 | some _ => cases h
noncomputable def Z2e : Nat → List Int → List Int → Int → Int → Option (List Int)
 | 0, _, _, _, _ => none
 | k + 1, o1, o2, v21, v22 =>
  if decide (v22 < v21) = true then if (0 : Int) ≤ v22 then if v22 < (↑(List.length o2) : Int) then if decide (List.getD o2 (Int.toNat v22) (0 : Int) = (0 : Int)) = true then if List.length o1 + List.length [v22] ≤ (140737488355328 / 8 : Nat) then Z2e k (o1 ++ [v22]) o2 v21 (wrap64 (v22 + (1 : Int))) else none else Z2e k o1 o2 v21 (wrap64 (v22 + (1 : Int))) else none else none else some o1
noncomputable def Zax : Spec := Spec.mk [OSh.ro, OSh.row true (3 : Nat) (Ty.int .i64), OSh.row true (3 : Nat) (Ty.int .i64)] [((6 : Nat), TSh.at (Sh.sl (1 : Nat))), ((20 : Nat), TSh.at (Sh.sl (2 : Nat))), ((21 : Nat), TSh.at (Sh.int .i64)), ((22 : Nat), TSh.at (Sh.int .i64))]
noncomputable def Zol : Spec := Spec.mk [OSh.ro, OSh.row true (3 : Nat) (Ty.int .i64)] [((6 : Nat), TSh.at (Sh.sl (1 : Nat)))]
noncomputable def Z3g : LoopDef (Tup Z4w × OutD) := .plain Zax Zol (List Int) (fun k x => Z2e k x.1.2.1 x.1.2.2.1 x.2.2.2.1 x.2.2.2.2.1) (fun z => (((), z, ()), ((), ()))) (fun y => (y.1.2.1)) (fun _ => rfl)
noncomputable def Z9t : Nat → Int × Int × List (Int × Int) → Int → Option (List Int × Bool)
 | 0, _, _ => none
 | k + 1, p0, p1 =>
  Option.bind (Z7m k (Prod.fst p0, Prod.fst p0.2, Prod.snd p0.2) p1) fun z0 => if (!z0) = true then some ([], false) else Option.bind (Z2P k (Prod.fst p0, Prod.fst p0.2, Prod.snd p0.2) [p1]) fun z1 => if (0 : Int) < (↑(List.length z1) : Int) then Option.bind (Z5K k (List.getD z1 (Int.toNat (0 : Int)) [])) fun z2 => Option.bind (Z2e k [] z2 (↑(List.length z2) : Int) (0 : Int)) fun z3 => some (z3, true) else none
noncomputable def Z27 : FnDef := .of Zhv Z4w (List Int × Bool) (fun k x => Z9t k x.1 x.2.1) Zgz ZgM Zmq
noncomputable def Z9q : Code := Try.f13.body.getD .skip
noncomputable def Z3r : Ctx (Tup Z4w × OutD) := { T := T, G := [(39, Z1Y.E), (42, ZD.E), (50, Z13.E)], mvs := [], no := 0, n := 35, res := resOf T Zhv Z4w Try.f13.results.toList, loops := [(0, Z3g.E)], regs := [], conds := [], cuts := [] }
theorem ZhH (k : Nat) : EnvOK Try.prog k Z3r.G := (EnvOK.cons (ZfF k) (EnvOK.cons (Z8E k) (EnvOK.cons (Zgf k) (EnvOK.nil mixed))))
noncomputable def Z73 : Code := (findLoop 0 Z9q).getD .skip
theorem Zow (k : Nat) (x : Zax.D) : Z3g.lp (k + 1) x = loopK Z3r Z3g 0 Z73 k x := by kernel_rfl
theorem Zoi (k : Nat) : LOK Try.prog Z3r k Z73 := LOK.by [] (by kernel_rfl) AllOK.nil
theorem ZnO (x : Zax.D) : Z3g.lp 0 x = none := by kernel_rfl
theorem Zmx (k : Nat) : EOK Try.prog Z3r k Z3g.E (.block 0 (.loop Z73)) := Z5 T_ok ZhH ZnO Zow Zoi k
theorem ZsR (k : Nat) (x : Tup Z27.ps) : Z27.f (k + 1) x = fnK Z27 Z3r Z9q k x := by kernel_rfl
theorem Zu1 (x : Tup Z27.ps) : Z27.f 0 x = none := by kernel_rfl
theorem Zsx (k : Nat) : LOK Try.prog Z3r k Z9q := LOK.by [(Z3g.E, .block 0 (.loop Z73))] (by kernel_rfl) (AllOK.cons (Zmx k) AllOK.nil)
theorem Zsm (k : Nat) : SoundAt Try.prog k 13 Z27.E := @Z1 Try.prog Z27 Z3r 13 Try.f13 Z9q (by kernel_rfl) (by kernel_rfl) (by kernel_rfl) Try.func13 (by kernel_rfl) (by kernel_rfl) (by kernel_rfl) T_ok ZhH Zsx Zu1 ZsR k
noncomputable def Z6W : List PK := [PK.mk (Ty.int .i64) false none false none, PK.mk Ty.bool false none false none]
noncomputable def ZhS : List PK := [PK.mk (Ty.pair (Ty.int .i64) (Ty.pair (Ty.int .i64) (Ty.slice (71 : Nat) (Ty.pair (Ty.int .i64) (Ty.int .i64))))) true none false none]
noncomputable def Zgp (r : Int × Bool) : Tup Z6W × OutD := ((r.1, r.2, ()), none)
noncomputable def Zgi : Tup Z6W × OutD → Option (Int × Bool)
 | (a, none) => some (a.1, a.2.1)
 | _ => none
theorem Zmb : ∀ b r, Zgi b = some r → Zgp r = b := by
 rintro ⟨a, o⟩ r h
 cases o with
 | none => injection h with h; subst h; rfl
 | some _ => cases h
noncomputable def Z9y : Nat → Int × Int × List (Int × Int) → Option (Int × Bool)
 | 0, _ => none
 | k + 1, p0 =>
  Option.bind (Zdd k (Prod.fst p0, Prod.fst p0.2, Prod.snd p0.2)) fun z0 => if (!z0) = true then some ((0 : Int), false) else Option.bind (Z52 k (Prod.fst p0, Prod.fst p0.2, Prod.snd p0.2)) fun z1 => some (z1, true)
noncomputable def Z24 : FnDef := .of ZhS Z6W (Int × Bool) (fun k x => Z9y k x.1) Zgp Zgi Zmb
noncomputable def ZcE : Code := Try.f19.body.getD .skip
noncomputable def Z9B : Ctx (Tup Z6W × OutD) := { T := T, G := [(52, Z4F.E), (47, Z1o.E)], mvs := [], no := 0, n := 9, res := resOf T ZhS Z6W Try.f19.results.toList, loops := [], regs := [], conds := [], cuts := [] }
theorem ZsW (k : Nat) : EnvOK Try.prog k Z9B.G := (EnvOK.cons (Zzh k) (EnvOK.cons (Zc5 k) (EnvOK.nil mixed)))
theorem Zt0 (k : Nat) (x : Tup Z24.ps) : Z24.f (k + 1) x = fnK Z24 Z9B ZcE k x := by kernel_rfl
theorem ZtV (x : Tup Z24.ps) : Z24.f 0 x = none := by kernel_rfl
theorem Zsd (k : Nat) : LOK Try.prog Z9B k ZcE := LOK.by [] (by kernel_rfl) AllOK.nil
theorem Ztx (k : Nat) : SoundAt Try.prog k 19 Z24.E := @Z1 Try.prog Z24 Z9B 19 Try.f19 ZcE (by kernel_rfl) (by kernel_rfl) (by kernel_rfl) Try.func19 (by kernel_rfl) (by kernel_rfl) (by kernel_rfl) T_ok ZsW Zsd ZtV Zt0 k
noncomputable def Z92 : List PK := [PK.mk (Ty.slice (3 : Nat) (Ty.int .i64)) false none false none]
noncomputable def Zqu : List PK := [PK.mk (Ty.pair (Ty.int .i64) (Ty.pair (Ty.int .i64) (Ty.slice (71 : Nat) (Ty.pair (Ty.int .i64) (Ty.int .i64))))) true none false none, PK.mk (Ty.int .i64) false none false none]
noncomputable def Zp9 (r : List Int) : Tup Z92 × OutD := ((r, ()), none)
noncomputable def ZoB : Tup Z92 × OutD → Option (List Int)
 | (a, none) => some (a.1)
 | _ => none
theorem ZuP : ∀ b r, ZoB b = some r → Zp9 r = b := by
 rintro ⟨a, o⟩ r h
 cases o with
 | none => injection h with h; subst h; rfl
 | some _ => cases h
noncomputable def Z79 : Nat → Int → Int → List (Int × Int) → List Int → Int → Int → Option (List Int)
 | 0, _, _, _, _, _, _ => none
 | k + 1, b1_0, b1_1, b1_2, o2, v1, v6 =>
  Option.bind (Zce k (b1_0, b1_1, b1_2)) fun z0 => if decide (v6 < z0) = true then Option.bind (ZbQ k (b1_0, b1_1, b1_2) v6) fun z1 => Option.bind (Zfw k (Prod.fst z1, Prod.fst z1.2, Prod.snd z1.2) v1) fun z2 => Option.bind (Z52 k (Prod.fst z2.2, Prod.fst z2.2.2, Prod.snd z2.2.2)) fun z3 => if List.length o2 + List.length [z3] ≤ (140737488355328 / 8 : Nat) then Z79 k b1_0 b1_1 b1_2 (o2 ++ [z3]) v1 (wrap64 (v6 + (1 : Int))) else none else some o2
noncomputable def ZeL : Spec := Spec.mk [OSh.ro, OSh.box (26 : Nat) [Sh.int .i64, Sh.int .i64, Sh.snap (0 : Nat) (Ty.pair (Ty.int .i64) (Ty.int .i64))], OSh.row true (3 : Nat) (Ty.int .i64)] [((1 : Nat), TSh.at (Sh.int .i64)), ((2 : Nat), TSh.at (Sh.ptr (1 : Nat) (0 : Nat))), ((5 : Nat), TSh.at (Sh.sl (2 : Nat))), ((6 : Nat), TSh.at (Sh.int .i64))]
noncomputable def Zxd : Spec := Spec.mk [OSh.ro, OSh.row true (3 : Nat) (Ty.int .i64)] [((5 : Nat), TSh.at (Sh.sl (1 : Nat)))]
noncomputable def Z6b : LoopDef (Tup Z92 × OutD) := .plain ZeL Zxd (List Int) (fun k x => Z79 k x.1.2.1.1 x.1.2.1.2.1 x.1.2.1.2.2.1 x.1.2.2.1 x.2.1 x.2.2.2.2.1) (fun z => (((), z, ()), ((), ()))) (fun y => (y.1.2.1)) (fun _ => rfl)
noncomputable def Z7y : Nat → Int × Int × List (Int × Int) → Int → Option (List Int)
 | 0, _, _ => none
 | k + 1, p0, p1 =>
  Option.bind (Z79 k p0.1 p0.2.1 p0.2.2 [] p1 (0 : Int)) fun z4 => some z4
noncomputable def Z2m : FnDef := .of Zqu Z92 (List Int) (fun k x => Z7y k x.1 x.2.1) Zp9 ZoB ZuP
noncomputable def Zei : Code := Try.f46.body.getD .skip
noncomputable def Z7z : Ctx (Tup Z92 × OutD) := { T := T, G := [(82, Z3T.E), (48, Z4W.E), (71, Z6Z.E), (47, Z1o.E)], mvs := [], no := 0, n := 29, res := resOf T Zqu Z92 Try.f46.results.toList, loops := [(0, Z6b.E)], regs := [], conds := [], cuts := [] }
theorem ZqN (k : Nat) : EnvOK Try.prog k Z7z.G := (EnvOK.cons (Zz2 k) (EnvOK.cons (ZmJ k) (EnvOK.cons (ZCQ k) (EnvOK.cons (Zc5 k) (EnvOK.nil mixed)))))
noncomputable def Zbj : Code := (findLoop 0 Zei).getD .skip
theorem ZwT (k : Nat) (x : ZeL.D) : Z6b.lp (k + 1) x = loopK Z7z Z6b 0 Zbj k x := by kernel_rfl
theorem Zxm (k : Nat) : LOK Try.prog Z7z k Zbj := LOK.by [] (by kernel_rfl) AllOK.nil
theorem ZxJ (x : ZeL.D) : Z6b.lp 0 x = none := by kernel_rfl
theorem Zul (k : Nat) : EOK Try.prog Z7z k Z6b.E (.block 0 (.loop Zbj)) := Z5 T_ok ZqN ZxJ ZwT Zxm k
theorem ZAN (k : Nat) (x : Tup Z2m.ps) : Z2m.f (k + 1) x = fnK Z2m Z7z Zei k x := by kernel_rfl
theorem ZB4 (x : Tup Z2m.ps) : Z2m.f 0 x = none := by kernel_rfl
theorem ZAS (k : Nat) : LOK Try.prog Z7z k Zei := LOK.by [(Z6b.E, .block 0 (.loop Zbj))] (by kernel_rfl) (AllOK.cons (Zul k) AllOK.nil)
theorem Zeo (k : Nat) : SoundAt Try.prog k 46 Z2m.E := @Z1 Try.prog Z2m Z7z 46 Try.f46 Zei (by kernel_rfl) (by kernel_rfl) (by kernel_rfl) Try.func46 (by kernel_rfl) (by kernel_rfl) (by kernel_rfl) T_ok ZqN ZAS ZB4 ZAN k
noncomputable def Z38 : List PK := [PK.mk (Ty.pair (Ty.int .i64) (Ty.pair (Ty.int .i64) (Ty.slice (71 : Nat) (Ty.pair (Ty.int .i64) (Ty.int .i64))))) true none false none]
noncomputable def Zfa : List PK := [PK.mk (Ty.pair (Ty.slice (5 : Nat) (Ty.int .u8)) (Ty.pair (Ty.int .i64) (Ty.int .u64))) false none false (some (58 : Nat))]
noncomputable def Ze7 (r : (Int × Int × List (Int × Int)) × Int × Int) : Tup Z38 × OutD := ((r.1, ()), some ⟨Ty.pair (Ty.slice (5 : Nat) (Ty.int .u8)) (Ty.pair (Ty.int .i64) (Ty.int .u64)), [([], r.2)]⟩)
noncomputable def Z9H : Tup Z38 × OutD → Option ((Int × Int × List (Int × Int)) × Int × Int)
 | (a, some ⟨u, ys⟩) => if h : u = Ty.pair (Ty.slice (5 : Nat) (Ty.int .u8)) (Ty.pair (Ty.int .i64) (Ty.int .u64)) then (match castU h ys with
  | [([], y)] => some (a.1, y)
  | _ => none) else none
 | _ => none
theorem Zjs : ∀ b r, Z9H b = some r → Ze7 r = b := by
 rintro ⟨a, o⟩ r h
 cases o with
 | none => cases h
 | some s =>
  obtain ⟨u, ys⟩ := s
  simp only [Z9H] at h
  split at h
  ·rename_i hu
   subst hu
   match ys, h with
   | [], h => cases (show (none : Option _) = some r from h)
   | [([], y)], h => injection (show some _ = some r from h) with h; subst h; rfl
   | [(_ :: _, y)], h => cases (show (none : Option _) = some r from h)
   | (h1, _) :: _ :: _, h => cases h1 <;> cases (show (none : Option _) = some r from h)
  ·cases h
noncomputable def Z12 : Nat → Int → Int → List Int → Int → Int → List (Int × Int) → Int → Int → List (Int × Int) → Option (Int × Int × List Int × Int × Int × List (Int × Int) × Int × Int × List (Int × Int)) := fun k b1_1 b1_2 o2 b3_0 b3_1 o4 b5_0 b5_1 o6 =>
    Option.bind (Z0 k (o2, b1_1, b1_2) (↑(List.length o6) : Int)) fun z4 => Option.bind (ZV k (o2, Prod.fst z4.2, Prod.snd z4.2)) fun z5 => if (0 : Int) ≤ Prod.fst z4 then if Prod.fst z4 < (↑(List.length o6) : Int) then some (Prod.fst z5.2, Prod.snd z5.2, o2, b3_0, b3_1, o4, b5_0, b5_1, List.set o6 (Int.toNat z4.1) (Prod.fst z5.1, Prod.snd z5.1)) else none else none
noncomputable def Z4O : Nat → Int → Int → List Int → Int → Int → List (Int × Int) → Int → Int → List (Int × Int) → Option (List (Int × Int × List Int × Int × Int × List (Int × Int) × Int × Int × List (Int × Int))) := fun k b1_1 b1_2 o2 b3_0 b3_1 o4 b5_0 b5_1 o6 =>
    joinL (Option.bind (Z0 k (o2, b1_1, b1_2) (↑(List.length o6) : Int)) fun z6 => Option.bind (ZV k (o2, Prod.fst z6.2, Prod.snd z6.2)) fun z7 => if (0 : Int) ≤ Prod.fst z6 then if Prod.fst z6 < (↑(List.length o6) : Int) then some [(Prod.fst z7.2, Prod.snd z7.2, o2, b3_0, b3_1, o4, b5_0, b5_1, List.set o6 (Int.toNat z6.1) (Prod.fst z7.1, Prod.snd z7.1))] else none else none) (Option.bind (Z0 k (o2, b1_1, b1_2) (↑(List.length o6) : Int)) fun z8 => joinL (Option.bind (ZV k (o2, Prod.fst z8.2, Prod.snd z8.2)) fun z9 => if (0 : Int) ≤ Prod.fst z8 then if Prod.fst z8 < (↑(List.length o6) : Int) then some [(Prod.fst z9.2, Prod.snd z9.2, o2, b3_0, b3_1, o4, b5_0, b5_1, List.set o6 (Int.toNat z8.1) (Prod.fst z9.1, Prod.snd z9.1))] else none else none) (Option.bind (ZV k (o2, Prod.fst z8.2, Prod.snd z8.2)) fun z10 => if (0 : Int) ≤ Prod.fst z8 then if Prod.fst z8 < (↑(List.length o6) : Int) then some [(Prod.fst z10.2, Prod.snd z10.2, o2, b3_0, b3_1, o4, b5_0, b5_1, List.set o6 (Int.toNat z8.1) (Prod.fst z10.1, Prod.snd z10.1))] else none else none))
noncomputable def Zch : Spec := Spec.mk [OSh.ro, OSh.box (58 : Nat) [Sh.sl (2 : Nat), Sh.int .i64, Sh.int .u64], OSh.fx (Ty.int .u8), OSh.box (26 : Nat) [Sh.int .i64, Sh.int .i64, Sh.sl (4 : Nat)], OSh.row true (71 : Nat) (Ty.pair (Ty.int .i64) (Ty.int .i64)), OSh.box (26 : Nat) [Sh.int .i64, Sh.int .i64, Sh.sl (6 : Nat)], OSh.row true (71 : Nat) (Ty.pair (Ty.int .i64) (Ty.int .i64))] [((0 : Nat), TSh.at (Sh.ptr (1 : Nat) (0 : Nat))), ((2 : Nat), TSh.at (Sh.ptr (3 : Nat) (0 : Nat))), ((3 : Nat), TSh.at (Sh.ptr (5 : Nat) (0 : Nat)))]
noncomputable def Zjj : Spec := Spec.mk [OSh.ro, OSh.box (58 : Nat) [Sh.sl (2 : Nat), Sh.int .i64, Sh.int .u64], OSh.fx (Ty.int .u8), OSh.box (26 : Nat) [Sh.int .i64, Sh.int .i64, Sh.sl (4 : Nat)], OSh.row true (71 : Nat) (Ty.pair (Ty.int .i64) (Ty.int .i64)), OSh.box (26 : Nat) [Sh.int .i64, Sh.int .i64, Sh.sl (6 : Nat)], OSh.row true (71 : Nat) (Ty.pair (Ty.int .i64) (Ty.int .i64))] [((2 : Nat), TSh.at (Sh.ptr (3 : Nat) (0 : Nat))), ((3 : Nat), TSh.at (Sh.ptr (5 : Nat) (0 : Nat)))]
noncomputable def Z1y : LoopDef (Tup Z38 × OutD) := .plain Zch Zjj (Int × Int × List Int × Int × Int × List (Int × Int) × Int × Int × List (Int × Int)) (fun k x => Z12 k x.1.2.1.2.1 x.1.2.1.2.2.1 x.1.2.2.1 x.1.2.2.2.1.1 x.1.2.2.2.1.2.1 x.1.2.2.2.2.1 x.1.2.2.2.2.2.1.1 x.1.2.2.2.2.2.1.2.1 x.1.2.2.2.2.2.2.1) (fun z => (((), ((), z.1, z.2.1, ()), z.2.2.1, (z.2.2.2.1, z.2.2.2.2.1, (), ()), z.2.2.2.2.2.1, (z.2.2.2.2.2.2.1, z.2.2.2.2.2.2.2.1, (), ()), z.2.2.2.2.2.2.2.2, ()), ((), (), ()))) (fun y => (y.1.2.1.2.1, y.1.2.1.2.2.1, y.1.2.2.1, y.1.2.2.2.1.1, y.1.2.2.2.1.2.1, y.1.2.2.2.2.1, y.1.2.2.2.2.2.1.1, y.1.2.2.2.2.2.1.2.1, y.1.2.2.2.2.2.2.1)) (fun _ => rfl)
theorem Zjf (k : Nat) (b1_1 : Int) (b1_2 : Int) (o2 : List Int) (b3_0 : Int) (b3_1 : Int) (o4 : List (Int × Int)) (b5_0 : Int) (b5_1 : Int) (o6 : List (Int × Int)) : Z4O k b1_1 b1_2 o2 b3_0 b3_1 o4 b5_0 b5_1 o6 = repl 3 (Z12 k b1_1 b1_2 o2 b3_0 b3_1 o4 b5_0 b5_1 o6) := by
 first
 | (simp only [Z4O, Z12, Zi, Zt, Zk, Zj, Zl, Z3, if_true]; done)
 | (simp only [Z4O, Z12, Zi, Zt, Zk, Zj, Zl, Z3, if_true]; simp only [Z1K, Z1L, Z3L, Z3]; simp only [Z5k]; exact Z2N ⟨fun h => by simp only [h, and_self], fun h => by simp only [h, and_self]⟩)
noncomputable def ZB : Nat → List Int × Int × Int → Option ((Int × Int × List (Int × Int)) × Int × Int)
 | 0, _ => none
 | k + 1, p0 =>
  Option.bind (Z6S k (Prod.fst p0, Prod.fst p0.2, Prod.snd p0.2)) fun z0 => Option.bind (Z0 k (Prod.fst p0, Prod.fst z0.2, Prod.snd z0.2) (36 : Int)) fun z1 => if decide (Prod.fst z1 = (0 : Int)) = true then Option.bind (Za k (Prod.fst p0, Prod.fst z1.2, Prod.snd z1.2) [(0 : Int), wrap64 (Prod.fst z0.1 + (1 : Int)), (10 : Int), (11 : Int)]) fun z2 => some ((Prod.fst z2, Prod.fst z0.1.2, Prod.snd z0.1.2), Prod.fst z2.2, Prod.snd z2.2) else if decide (Prod.fst z1 = (1 : Int)) = true then Option.bind (Za k (Prod.fst p0, Prod.fst z1.2, Prod.snd z1.2) [(0 : Int), wrap64 (Prod.fst z0.1.2 + (1 : Int)), (9 : Int), (10 : Int)]) fun z3 => some ((Prod.fst z0.1, Prod.fst z3, Prod.snd z0.1.2), Prod.fst z3.2, Prod.snd z3.2) else if decide (Prod.fst z1 = (2 : Int)) = true then Option.bind (Z12 k z1.2.1 z1.2.2 p0.1 (0 : Int) (0 : Int) [] z0.1.1 z0.1.2.1 z0.1.2.2) fun z11 => some ((Prod.fst z11.2.2.2.2.2.2, Prod.fst z11.2.2.2.2.2.2.2, Prod.snd z11.2.2.2.2.2.2.2), Prod.fst z11, Prod.fst z11.2) else if decide (Prod.fst z1 = (3 : Int)) = true then if (1 : Int) ≤ (↑(List.length z0.1.2.2) : Int) then if (↑(List.length z0.1.2.2) : Int) ≤ (↑(List.length z0.1.2.2) : Int) then some ((Prod.fst z0.1, Prod.fst z0.1.2, List.drop (Int.toNat (1 : Int)) z0.1.2.2), Prod.fst z1.2, Prod.snd z1.2) else none else none else if decide (Prod.fst z1 = (4 : Int)) = true then some (((11 : Int), (2 : Int), List.replicate (Int.toNat (22 : Int)) ((0 : Int), (0 : Int))), Prod.fst z1.2, Prod.snd z1.2) else if decide (Prod.fst z1 = (5 : Int)) = true then some (((2 : Int), (10 : Int), List.replicate (Int.toNat (20 : Int)) ((0 : Int), (0 : Int))), Prod.fst z1.2, Prod.snd z1.2) else some ((Prod.fst z0.1, Prod.fst z0.1.2, Prod.snd z0.1.2), Prod.fst z1.2, Prod.snd z1.2)
noncomputable def Z1a : FnDef := .of Zfa Z38 ((Int × Int × List (Int × Int)) × Int × Int) (fun k x => ZB k x.1) Ze7 Z9H Zjs
noncomputable def Z7g : Code := Try.f72.body.getD .skip
noncomputable def ZA : Ctx (Tup Z38 × OutD) := { T := T, G := [(95, Z20.E), (57, Zd.E), (60, Zq.E), (96, Z1n.E)], mvs := [42], no := 2, n := 53, res := resOf T Zfa Z38 Try.f72.results.toList, loops := [], regs := [(8, Z1y.E)], conds := [], cuts := [] }
theorem Zf3 (k : Nat) : EnvOK Try.prog k ZA.G := (EnvOK.cons (ZrZ k) (EnvOK.cons (ZH k) (EnvOK.cons (Z3j k) (EnvOK.cons (ZpR k) (EnvOK.nil mixed)))))
noncomputable def Z81 : Array Oper := (findReg 8 Z7g).getD #[]
theorem Zj1 (k : Nat) (x : Zch.D) : execD ZA.T ZA.G ZA.mvs k Z81 (Z1y.inp.st ZA.n x) (outK ZA Z1y) = Z4O k x.1.2.1.2.1 x.1.2.1.2.2.1 x.1.2.2.1 x.1.2.2.2.1.1 x.1.2.2.2.1.2.1 x.1.2.2.2.2.1 x.1.2.2.2.2.2.1.1 x.1.2.2.2.2.2.1.2.1 x.1.2.2.2.2.2.2.1 := by kernel_rfl
theorem Zi7 (k : Nat) : EOK Try.prog ZA k Z1y.E (.region 8 Z81 true) := Z7N (D := Z1y) (m := 3) T_ok (Zf3 k) (fun x => (Zj1 k x).trans (Zjf k x.1.2.1.2.1 x.1.2.1.2.2.1 x.1.2.2.1 x.1.2.2.2.1.1 x.1.2.2.2.1.2.1 x.1.2.2.2.2.1 x.1.2.2.2.2.2.1.1 x.1.2.2.2.2.2.1.2.1 x.1.2.2.2.2.2.2.1))
theorem Zoc (k : Nat) (x : Tup Z1a.ps) : Z1a.f (k + 1) x = fnK Z1a ZA Z7g k x := by kernel_rfl
theorem Zp5 (x : Tup Z1a.ps) : Z1a.f 0 x = none := by kernel_rfl
theorem ZoS (k : Nat) : LOK Try.prog ZA k Z7g := LOK.by [(Z1y.E, .region 8 Z81 true)] (by kernel_rfl) (AllOK.cons (Zi7 k) AllOK.nil)
theorem Zo7 (k : Nat) : SoundAt Try.prog k 72 Z1a.E := @Z1 Try.prog Z1a ZA 72 Try.f72 Z7g (by kernel_rfl) (by kernel_rfl) (by kernel_rfl) Try.func72 (by kernel_rfl) (by kernel_rfl) (by kernel_rfl) T_ok Zf3 ZoS Zp5 Zoc k
end
end Go.Proofs.Ytglkedenkcpcbaa.Vs

set_option maxRecDepth 100000
set_option maxHeartbeats 2000000
set_option linter.unusedVariables false
set_option linter.unusedSimpArgs false
namespace Go.Proofs.Ytglkedenkcpcbaa.Vs
open Go.RowKit
noncomputable section
noncomputable def Z4d : List PK := [PK.mk (Ty.slice (26 : Nat) (Ty.pair (Ty.int .i64) (Ty.pair (Ty.int .i64) (Ty.slice (71 : Nat) (Ty.pair (Ty.int .i64) (Ty.int .i64)))))) false none false none, PK.mk Ty.bool false none false none]
noncomputable def Zgq : List PK := [PK.mk (Ty.pair (Ty.int .i64) (Ty.pair (Ty.int .i64) (Ty.slice (71 : Nat) (Ty.pair (Ty.int .i64) (Ty.int .i64))))) true none false none, PK.mk (Ty.int .i64) false none false none]
noncomputable def Zfh (r : List (Int × Int × List (Int × Int)) × Bool) : Tup Z4d × OutD := ((r.1, r.2, ()), none)
noncomputable def Zg3 : Tup Z4d × OutD → Option (List (Int × Int × List (Int × Int)) × Bool)
 | (a, none) => some (a.1, a.2.1)
 | _ => none
theorem ZkO : ∀ b r, Zg3 b = some r → Zfh r = b := by
 rintro ⟨a, o⟩ r h
 cases o with
 | none => injection h with h; subst h; rfl
 | some _ => cases h
noncomputable def Z3a : Nat → Int → Int → List (Int × Int) → List (Int × Int × List (Int × Int)) → List Int → Int → Int → Option (List (Int × Int × List (Int × Int)))
 | 0, _, _, _, _, _, _, _ => none
 | k + 1, b1_0, b1_1, b1_2, o2, o3, v19, v20 =>
  if decide (v20 < v19) = true then if (0 : Int) ≤ v20 then if v20 < (↑(List.length o3) : Int) then Option.bind (ZbQ k (b1_0, b1_1, b1_2) (List.getD o3 (Int.toNat v20) (0 : Int))) fun z4 => if List.length o2 + List.length [(Prod.fst z4, Prod.fst z4.2, Prod.snd z4.2)] ≤ (140737488355328 / 40 : Nat) then Z3a k b1_0 b1_1 b1_2 (o2 ++ [(Prod.fst z4, Prod.fst z4.2, Prod.snd z4.2)]) o3 v19 (wrap64 (v20 + (1 : Int))) else none else none else none else some o2
noncomputable def Z9I : Spec := Spec.mk [OSh.ro, OSh.box (26 : Nat) [Sh.int .i64, Sh.int .i64, Sh.snap (0 : Nat) (Ty.pair (Ty.int .i64) (Ty.int .i64))], OSh.row true (26 : Nat) (Ty.pair (Ty.int .i64) (Ty.pair (Ty.int .i64) (Ty.slice (71 : Nat) (Ty.pair (Ty.int .i64) (Ty.int .i64))))), OSh.row true (3 : Nat) (Ty.int .i64)] [((2 : Nat), TSh.at (Sh.ptr (1 : Nat) (0 : Nat))), ((6 : Nat), TSh.at (Sh.sl (2 : Nat))), ((18 : Nat), TSh.at (Sh.sl (3 : Nat))), ((19 : Nat), TSh.at (Sh.int .i64)), ((20 : Nat), TSh.at (Sh.int .i64))]
noncomputable def Znp : Spec := Spec.mk [OSh.ro, OSh.row true (26 : Nat) (Ty.pair (Ty.int .i64) (Ty.pair (Ty.int .i64) (Ty.slice (71 : Nat) (Ty.pair (Ty.int .i64) (Ty.int .i64)))))] [((6 : Nat), TSh.at (Sh.sl (1 : Nat)))]
noncomputable def Z2r : LoopDef (Tup Z4d × OutD) := .plain Z9I Znp (List (Int × Int × List (Int × Int))) (fun k x => Z3a k x.1.2.1.1 x.1.2.1.2.1 x.1.2.1.2.2.1 x.1.2.2.1 x.1.2.2.2.1 x.2.2.2.2.1 x.2.2.2.2.2.1) (fun z => (((), z, ()), ((), ()))) (fun y => (y.1.2.1)) (fun _ => rfl)
noncomputable def Z8D : Nat → Int × Int × List (Int × Int) → Int → Option (List (Int × Int × List (Int × Int)) × Bool)
 | 0, _, _ => none
 | k + 1, p0, p1 =>
  Option.bind (Z6P k (Prod.fst p0, Prod.fst p0.2, Prod.snd p0.2) p1) fun z0 => if (!z0) = true then some ([], false) else Option.bind (Z7y k (Prod.fst p0, Prod.fst p0.2, Prod.snd p0.2) p1) fun z1 => Option.bind (Z52 k (Prod.fst p0, Prod.fst p0.2, Prod.snd p0.2)) fun z2 => Option.bind (Z57 k z1 z2) fun z3 => Option.bind (Z3a k p0.1 p0.2.1 p0.2.2 [] z3 (↑(List.length z3) : Int) (0 : Int)) fun z5 => some (z5, true)
noncomputable def Z1G : FnDef := .of Zgq Z4d (List (Int × Int × List (Int × Int)) × Bool) (fun k x => Z8D k x.1 x.2.1) Zfh Zg3 ZkO
noncomputable def Z8N : Code := Try.f8.body.getD .skip
noncomputable def Z2T : Ctx (Tup Z4d × OutD) := { T := T, G := [(44, Z2l.E), (46, Z2m.E), (47, Z1o.E), (45, Z1q.E), (48, Z4W.E)], mvs := [], no := 0, n := 32, res := resOf T Zgq Z4d Try.f8.results.toList, loops := [(0, Z2r.E)], regs := [], conds := [], cuts := [] }
theorem ZgD (k : Nat) : EnvOK Try.prog k Z2T.G := (EnvOK.cons (Zcx k) (EnvOK.cons (Zeo k) (EnvOK.cons (Zc5 k) (EnvOK.cons (Zc7 k) (EnvOK.cons (ZmJ k) (EnvOK.nil mixed))))))
noncomputable def Z6p : Code := (findLoop 0 Z8N).getD .skip
theorem Znl (k : Nat) (x : Z9I.D) : Z2r.lp (k + 1) x = loopK Z2T Z2r 0 Z6p k x := by kernel_rfl
theorem Znq (k : Nat) : LOK Try.prog Z2T k Z6p := LOK.by [] (by kernel_rfl) AllOK.nil
theorem Zn3 (x : Z9I.D) : Z2r.lp 0 x = none := by kernel_rfl
theorem Zl6 (k : Nat) : EOK Try.prog Z2T k Z2r.E (.block 0 (.loop Z6p)) := Z5 T_ok ZgD Zn3 Znl Znq k
theorem ZqZ (k : Nat) (x : Tup Z1G.ps) : Z1G.f (k + 1) x = fnK Z1G Z2T Z8N k x := by kernel_rfl
theorem ZrU (x : Tup Z1G.ps) : Z1G.f 0 x = none := by kernel_rfl
theorem Zrk (k : Nat) : LOK Try.prog Z2T k Z8N := LOK.by [(Z2r.E, .block 0 (.loop Z6p))] (by kernel_rfl) (AllOK.cons (Zl6 k) AllOK.nil)
theorem Zr7 (k : Nat) : SoundAt Try.prog k 8 Z1G.E := @Z1 Try.prog Z1G Z2T 8 Try.f8 Z8N (by kernel_rfl) (by kernel_rfl) (by kernel_rfl) Try.func8 (by kernel_rfl) (by kernel_rfl) (by kernel_rfl) T_ok ZgD Zrk ZrU ZqZ k
noncomputable def Z7J : List PK := [PK.mk (Ty.pair (Ty.int .i64) (Ty.pair (Ty.int .i64) (Ty.slice (71 : Nat) (Ty.pair (Ty.int .i64) (Ty.int .i64))))) true none false none, PK.mk Ty.bool false none false none]
noncomputable def ZiN : List PK := [PK.mk (Ty.pair (Ty.int .i64) (Ty.pair (Ty.int .i64) (Ty.slice (71 : Nat) (Ty.pair (Ty.int .i64) (Ty.int .i64))))) true none false none, PK.mk (Ty.int .i64) false none false none]
noncomputable def Zhr (r : (Int × Int × List (Int × Int)) × Bool) : Tup Z7J × OutD := ((r.1, r.2, ()), none)
noncomputable def ZhI : Tup Z7J × OutD → Option ((Int × Int × List (Int × Int)) × Bool)
 | (a, none) => some (a.1, a.2.1)
 | _ => none
theorem Zor : ∀ b r, ZhI b = some r → Zhr r = b := by
 rintro ⟨a, o⟩ r h
 cases o with
 | none => injection h with h; subst h; rfl
 | some _ => cases h
noncomputable def Za0 : Nat → Int × Int × List (Int × Int) → Int → Option ((Int × Int × List (Int × Int)) × Bool)
 | 0, _, _ => none
 | k + 1, p0, p1 =>
  Option.bind (Z5O k (Prod.fst p0, Prod.fst p0.2, Prod.snd p0.2) p1) fun z0 => if (!Prod.snd z0) = true then some (((0 : Int), (0 : Int), []), false) else if decide ((↑(List.length z0.1) : Int) ≠ (1 : Int)) = true then some (((0 : Int), (0 : Int), []), false) else if (0 : Int) < (↑(List.length z0.1) : Int) then some ((Prod.fst (List.getD z0.1 (Int.toNat (0 : Int)) ((0 : Int), (0 : Int), [])), Prod.fst (Prod.snd (List.getD z0.1 (Int.toNat (0 : Int)) ((0 : Int), (0 : Int), []))), Prod.snd (Prod.snd (List.getD z0.1 (Int.toNat (0 : Int)) ((0 : Int), (0 : Int), [])))), true) else none
noncomputable def Z2F : FnDef := .of ZiN Z7J ((Int × Int × List (Int × Int)) × Bool) (fun k x => Za0 k x.1 x.2.1) Zhr ZhI Zor
noncomputable def ZdI : Code := Try.f9.body.getD .skip
noncomputable def Zag : Ctx (Tup Z7J × OutD) := { T := T, G := [(7, Z15.E)], mvs := [24], no := 0, n := 25, res := resOf T ZiN Z7J Try.f9.results.toList, loops := [], regs := [], conds := [], cuts := [] }
theorem Zuh (k : Nat) : EnvOK Try.prog k Zag.G := (EnvOK.cons (Zgl k) (EnvOK.nil mixed))
theorem ZvV (k : Nat) (x : Tup Z2F.ps) : Z2F.f (k + 1) x = fnK Z2F Zag ZdI k x := by kernel_rfl
theorem Zut (x : Tup Z2F.ps) : Z2F.f 0 x = none := by kernel_rfl
theorem Zvz (k : Nat) : LOK Try.prog Zag k ZdI := LOK.by [] (by kernel_rfl) AllOK.nil
theorem ZvT (k : Nat) : SoundAt Try.prog k 9 Z2F.E := @Z1 Try.prog Z2F Zag 9 Try.f9 ZdI (by kernel_rfl) (by kernel_rfl) (by kernel_rfl) Try.func9 (by kernel_rfl) (by kernel_rfl) (by kernel_rfl) T_ok Zuh Zvz Zut ZvV k
noncomputable def Z42 : List PK := [PK.mk Ty.bool false none false none, PK.mk Ty.bool false none false none]
noncomputable def ZgC : List PK := [PK.mk (Ty.pair (Ty.int .i64) (Ty.pair (Ty.int .i64) (Ty.slice (71 : Nat) (Ty.pair (Ty.int .i64) (Ty.int .i64))))) true none false none, PK.mk (Ty.int .i64) false none false none]
noncomputable def Zbt (r : Bool × Bool) : Tup Z42 × OutD := ((r.1, r.2, ()), none)
noncomputable def Zb4 : Tup Z42 × OutD → Option (Bool × Bool)
 | (a, none) => some (a.1, a.2.1)
 | _ => none
theorem Zdj : ∀ b r, Zb4 b = some r → Zbt r = b := by
 rintro ⟨a, o⟩ r h
 cases o with
 | none => injection h with h; subst h; rfl
 | some _ => cases h
noncomputable def Z3d : Nat → List Int → Int → Int → Option (LR Unit (Bool × Bool))
 | 0, _, _, _ => none
 | k + 1, o1, v16, v17 =>
  if decide (v17 < v16) = true then Option.bind (Z57 k o1 v17) fun z2 => if decide ((↑(List.length z2) : Int) ≠ (1 : Int)) = true then some (LR.ret (false, true)) else Z3d k o1 v16 (wrap64 (v17 + (1 : Int))) else some (LR.go ())
noncomputable def Z9M : Spec := Spec.mk [OSh.ro, OSh.row true (3 : Nat) (Ty.int .i64)] [((6 : Nat), TSh.at (Sh.sl (1 : Nat))), ((16 : Nat), TSh.at (Sh.int .i64)), ((17 : Nat), TSh.at (Sh.int .i64))]
noncomputable def ZmZ : Spec := Spec.mk [OSh.ro] []
noncomputable def Z2n : LoopDef (Tup Z42 × OutD) := .rets Z9M ZmZ (Unit) (Bool × Bool) (fun k x => Z3d k x.1.2.1 x.2.2.1 x.2.2.2.1) (fun z => (((), ()), (()))) (fun y => ()) (fun _ => rfl) Zbt Zb4 Zdj
noncomputable def Z8z : Nat → Int × Int × List (Int × Int) → Int → Option (Bool × Bool)
 | 0, _, _ => none
 | k + 1, p0, p1 =>
  Option.bind (Z6P k (Prod.fst p0, Prod.fst p0.2, Prod.snd p0.2) p1) fun z0 => if (!z0) = true then some (false, false) else Option.bind (Z7y k (Prod.fst p0, Prod.fst p0.2, Prod.snd p0.2) p1) fun z1 => Option.bind (Z3d k z1 (↑(List.length z1) : Int) (0 : Int)) fun z3 => LR.on z3 (fun y3 => some (true, true)) fun r3 => some r3
noncomputable def Z1E : FnDef := .of ZgC Z42 (Bool × Bool) (fun k x => Z8z k x.1 x.2.1) Zbt Zb4 Zdj
noncomputable def Z8G : Code := Try.f12.body.getD .skip
noncomputable def Z2S : Ctx (Tup Z42 × OutD) := { T := T, G := [(44, Z2l.E), (46, Z2m.E), (45, Z1q.E)], mvs := [], no := 0, n := 26, res := resOf T ZgC Z42 Try.f12.results.toList, loops := [(0, Z2n.E)], regs := [], conds := [], cuts := [] }
theorem ZgN (k : Nat) : EnvOK Try.prog k Z2S.G := (EnvOK.cons (Zcx k) (EnvOK.cons (Zeo k) (EnvOK.cons (Zc7 k) (EnvOK.nil mixed))))
noncomputable def Z6s : Code := (findLoop 0 Z8G).getD .skip
theorem Zm5 (k : Nat) (x : Z9M.D) : Z2n.lp (k + 1) x = loopK Z2S Z2n 0 Z6s k x := by kernel_rfl
theorem ZlX (k : Nat) : LOK Try.prog Z2S k Z6s := LOK.by [] (by kernel_rfl) AllOK.nil
theorem Zmp (x : Z9M.D) : Z2n.lp 0 x = none := by kernel_rfl
theorem ZkZ (k : Nat) : EOK Try.prog Z2S k Z2n.E (.block 0 (.loop Z6s)) := Z5 T_ok ZgN Zmp Zm5 ZlX k
theorem Zrf (k : Nat) (x : Tup Z1E.ps) : Z1E.f (k + 1) x = fnK Z1E Z2S Z8G k x := by kernel_rfl
theorem Zrc (x : Tup Z1E.ps) : Z1E.f 0 x = none := by kernel_rfl
theorem Zr0 (k : Nat) : LOK Try.prog Z2S k Z8G := LOK.by [(Z2n.E, .block 0 (.loop Z6s))] (by kernel_rfl) (AllOK.cons (ZkZ k) AllOK.nil)
theorem Zrh (k : Nat) : SoundAt Try.prog k 12 Z1E.E := @Z1 Try.prog Z1E Z2S 12 Try.f12 Z8G (by kernel_rfl) (by kernel_rfl) (by kernel_rfl) Try.func12 (by kernel_rfl) (by kernel_rfl) (by kernel_rfl) T_ok ZgN Zr0 Zrc Zrf k
noncomputable def Z4A : List PK := [PK.mk (Ty.slice (3 : Nat) (Ty.int .i64)) false none false none, PK.mk Ty.bool false none false none]
noncomputable def Zhz : List PK := [PK.mk (Ty.pair (Ty.int .i64) (Ty.pair (Ty.int .i64) (Ty.slice (71 : Nat) (Ty.pair (Ty.int .i64) (Ty.int .i64))))) true none false none, PK.mk (Ty.int .i64) false none false none]
noncomputable def ZgP (r : List Int × Bool) : Tup Z4A × OutD := ((r.1, r.2, ()), none)
noncomputable def Zgj : Tup Z4A × OutD → Option (List Int × Bool)
 | (a, none) => some (a.1, a.2.1)
 | _ => none
theorem Zmd : ∀ b r, Zgj b = some r → ZgP r = b := by
 rintro ⟨a, o⟩ r h
 cases o with
 | none => injection h with h; subst h; rfl
 | some _ => cases h
noncomputable def Z2g : Nat → List Int → List Int → Int → Int → Option (List Int)
 | 0, _, _, _, _ => none
 | k + 1, o1, o2, v17, v18 =>
  if decide (v18 < v17) = true then Option.bind (Z57 k o1 v18) fun z2 => if decide ((↑(List.length z2) : Int) = (0 : Int)) = true then if List.length o2 + List.length [v18] ≤ (140737488355328 / 8 : Nat) then Z2g k o1 (o2 ++ [v18]) v17 (wrap64 (v18 + (1 : Int))) else none else Z2g k o1 o2 v17 (wrap64 (v18 + (1 : Int))) else some o2
noncomputable def ZaL : Spec := Spec.mk [OSh.ro, OSh.row true (3 : Nat) (Ty.int .i64), OSh.row true (3 : Nat) (Ty.int .i64)] [((6 : Nat), TSh.at (Sh.sl (1 : Nat))), ((7 : Nat), TSh.at (Sh.sl (2 : Nat))), ((17 : Nat), TSh.at (Sh.int .i64)), ((18 : Nat), TSh.at (Sh.int .i64))]
noncomputable def ZoX : Spec := Spec.mk [OSh.ro, OSh.row true (3 : Nat) (Ty.int .i64)] [((7 : Nat), TSh.at (Sh.sl (1 : Nat)))]
noncomputable def Z30 : LoopDef (Tup Z4A × OutD) := .plain ZaL ZoX (List Int) (fun k x => Z2g k x.1.2.1 x.1.2.2.1 x.2.2.2.1 x.2.2.2.2.1) (fun z => (((), z, ()), ((), ()))) (fun y => (y.1.2.1)) (fun _ => rfl)
noncomputable def Z9A : Nat → Int × Int × List (Int × Int) → Int → Option (List Int × Bool)
 | 0, _, _ => none
 | k + 1, p0, p1 =>
  Option.bind (Z6P k (Prod.fst p0, Prod.fst p0.2, Prod.snd p0.2) p1) fun z0 => if (!z0) = true then some ([], false) else Option.bind (Z7y k (Prod.fst p0, Prod.fst p0.2, Prod.snd p0.2) p1) fun z1 => Option.bind (Z2g k z1 [] (↑(List.length z1) : Int) (0 : Int)) fun z3 => some (z3, true)
noncomputable def Z22 : FnDef := .of Zhz Z4A (List Int × Bool) (fun k x => Z9A k x.1 x.2.1) ZgP Zgj Zmd
noncomputable def Z9p : Code := Try.f14.body.getD .skip
noncomputable def Z3p : Ctx (Tup Z4A × OutD) := { T := T, G := [(44, Z2l.E), (46, Z2m.E), (45, Z1q.E)], mvs := [], no := 0, n := 32, res := resOf T Zhz Z4A Try.f14.results.toList, loops := [(0, Z30.E)], regs := [], conds := [], cuts := [] }
theorem Zhj (k : Nat) : EnvOK Try.prog k Z3p.G := (EnvOK.cons (Zcx k) (EnvOK.cons (Zeo k) (EnvOK.cons (Zc7 k) (EnvOK.nil mixed))))
noncomputable def Z7a : Code := (findLoop 0 Z9p).getD .skip
theorem ZnR (k : Nat) (x : ZaL.D) : Z30.lp (k + 1) x = loopK Z3p Z30 0 Z7a k x := by kernel_rfl
theorem ZnA (k : Nat) : LOK Try.prog Z3p k Z7a := LOK.by [] (by kernel_rfl) AllOK.nil
theorem Zoe (x : ZaL.D) : Z30.lp 0 x = none := by kernel_rfl
theorem Zmk (k : Nat) : EOK Try.prog Z3p k Z30.E (.block 0 (.loop Z7a)) := Z5 T_ok Zhj Zoe ZnR ZnA k
theorem ZtC (k : Nat) (x : Tup Z22.ps) : Z22.f (k + 1) x = fnK Z22 Z3p Z9p k x := by kernel_rfl
theorem Zs8 (x : Tup Z22.ps) : Z22.f 0 x = none := by kernel_rfl
theorem ZsN (k : Nat) : LOK Try.prog Z3p k Z9p := LOK.by [(Z30.E, .block 0 (.loop Z7a))] (by kernel_rfl) (AllOK.cons (Zmk k) AllOK.nil)
theorem Ztr (k : Nat) : SoundAt Try.prog k 14 Z22.E := @Z1 Try.prog Z22 Z3p 14 Try.f14 Z9p (by kernel_rfl) (by kernel_rfl) (by kernel_rfl) Try.func14 (by kernel_rfl) (by kernel_rfl) (by kernel_rfl) T_ok Zhj ZsN Zs8 ZtC k
noncomputable def ZbJ : List PK := [PK.mk (Ty.pair (Ty.int .i64) (Ty.pair (Ty.int .i64) (Ty.slice (71 : Nat) (Ty.pair (Ty.int .i64) (Ty.int .i64))))) true none false none, PK.mk Ty.bool false none false none]
noncomputable def Zq1 : List PK := [PK.mk (Ty.pair (Ty.int .i64) (Ty.pair (Ty.int .i64) (Ty.slice (71 : Nat) (Ty.pair (Ty.int .i64) (Ty.int .i64))))) true none false none, PK.mk (Ty.int .i64) false none false none]
noncomputable def Zov (r : (Int × Int × List (Int × Int)) × Bool) : Tup ZbJ × OutD := ((r.1, r.2, ()), none)
noncomputable def Zpd : Tup ZbJ × OutD → Option ((Int × Int × List (Int × Int)) × Bool)
 | (a, none) => some (a.1, a.2.1)
 | _ => none
theorem ZuK : ∀ b r, Zpd b = some r → Zov r = b := by
 rintro ⟨a, o⟩ r h
 cases o with
 | none => injection h with h; subst h; rfl
 | some _ => cases h
noncomputable def Z7C : Nat → Int × Int × List (Int × Int) → Int → Option ((Int × Int × List (Int × Int)) × Bool)
 | 0, _, _ => none
 | k + 1, p0, p1 =>
  Option.bind (Z7y k (Prod.fst p0, Prod.fst p0.2, Prod.snd p0.2) p1) fun z0 => Option.bind (Z52 k (Prod.fst p0, Prod.fst p0.2, Prod.snd p0.2)) fun z1 => Option.bind (Z57 k z0 z1) fun z2 => if decide ((↑(List.length z2) : Int) ≠ (1 : Int)) = true then some (((0 : Int), (0 : Int), []), false) else if (0 : Int) < (↑(List.length z2) : Int) then Option.bind (ZbQ k (Prod.fst p0, Prod.fst p0.2, Prod.snd p0.2) (List.getD z2 (Int.toNat (0 : Int)) (0 : Int))) fun z3 => some ((Prod.fst z3, Prod.fst z3.2, Prod.snd z3.2), true) else none
noncomputable def Z4k : FnDef := .of Zq1 ZbJ ((Int × Int × List (Int × Int)) × Bool) (fun k x => Z7C k x.1 x.2.1) Zov Zpd ZuK
noncomputable def Ziq : Code := Try.f49.body.getD .skip
noncomputable def Zee : Ctx (Tup ZbJ × OutD) := { T := T, G := [(46, Z2m.E), (47, Z1o.E), (45, Z1q.E), (48, Z4W.E)], mvs := [], no := 0, n := 22, res := resOf T Zq1 ZbJ Try.f49.results.toList, loops := [], regs := [], conds := [], cuts := [] }
theorem ZAE (k : Nat) : EnvOK Try.prog k Zee.G := (EnvOK.cons (Zeo k) (EnvOK.cons (Zc5 k) (EnvOK.cons (Zc7 k) (EnvOK.cons (ZmJ k) (EnvOK.nil mixed)))))
theorem ZBL (k : Nat) (x : Tup Z4k.ps) : Z4k.f (k + 1) x = fnK Z4k Zee Ziq k x := by kernel_rfl
theorem ZAO (x : Tup Z4k.ps) : Z4k.f 0 x = none := by kernel_rfl
theorem ZBl (k : Nat) : LOK Try.prog Zee k Ziq := LOK.by [] (by kernel_rfl) AllOK.nil
theorem ZqD (k : Nat) : SoundAt Try.prog k 49 Z4k.E := @Z1 Try.prog Z4k Zee 49 Try.f49 Ziq (by kernel_rfl) (by kernel_rfl) (by kernel_rfl) Try.func49 (by kernel_rfl) (by kernel_rfl) (by kernel_rfl) T_ok ZAE ZBl ZAO ZBL k
noncomputable def Z1D : List PK := [PK.mk (Ty.pair (Ty.int .i64) (Ty.pair (Ty.int .i64) (Ty.slice (71 : Nat) (Ty.pair (Ty.int .i64) (Ty.int .i64))))) true none false none]
noncomputable def Zgx : List PK := [PK.mk (Ty.pair (Ty.slice (5 : Nat) (Ty.int .u8)) (Ty.pair (Ty.int .i64) (Ty.int .u64))) false none false (some (58 : Nat))]
noncomputable def ZfX (r : (Int × Int × List (Int × Int)) × Int × Int) : Tup Z1D × OutD := ((r.1, ()), some ⟨Ty.pair (Ty.slice (5 : Nat) (Ty.int .u8)) (Ty.pair (Ty.int .i64) (Ty.int .u64)), [([], r.2)]⟩)
noncomputable def Zbh : Tup Z1D × OutD → Option ((Int × Int × List (Int × Int)) × Int × Int)
 | (a, some ⟨u, ys⟩) => if h : u = Ty.pair (Ty.slice (5 : Nat) (Ty.int .u8)) (Ty.pair (Ty.int .i64) (Ty.int .u64)) then (match castU h ys with
  | [([], y)] => some (a.1, y)
  | _ => none) else none
 | _ => none
theorem ZkQ : ∀ b r, Zbh b = some r → ZfX r = b := by
 rintro ⟨a, o⟩ r h
 cases o with
 | none => cases h
 | some s =>
  obtain ⟨u, ys⟩ := s
  simp only [Zbh] at h
  split at h
  ·rename_i hu
   subst hu
   match ys, h with
   | [], h => cases (show (none : Option _) = some r from h)
   | [([], y)], h => injection (show some _ = some r from h) with h; subst h; rfl
   | [(_ :: _, y)], h => cases (show (none : Option _) = some r from h)
   | (h1, _) :: _ :: _, h => cases h1 <;> cases (show (none : Option _) = some r from h)
  ·cases h
noncomputable def Z1u : Nat → Int → Int → List Int → Int → Int → List (Int × Int) → Int → Int → List (Int × Int) → Int → Int → Int → Option (Int × Int × List Int × Int × Int × List (Int × Int) × Int × Int × List (Int × Int) × Int × Int × Int) := fun k b1_1 b1_2 o2 b3_0 b3_1 o4 b5_0 b5_1 o6 v4 v9 v10 =>
    Option.bind (Za k (o2, b1_1, b1_2) [(6 : Int), (6 : Int), (7 : Int), (0 : Int)]) fun z2 => if (0 : Int) ≤ v4 then if v4 < (↑(List.length o6) : Int) then some (Prod.fst z2.2, Prod.snd z2.2, o2, b3_0, b3_1, o4, b5_0, b5_1, List.set o6 (Int.toNat v4) (Prod.fst z2, (0 : Int)), v4, v9, v10) else none else none
noncomputable def Z5I : Nat → Int → Int → List Int → Int → Int → List (Int × Int) → Int → Int → List (Int × Int) → Int → Int → Int → Option (List (Int × Int × List Int × Int × Int × List (Int × Int) × Int × Int × List (Int × Int) × Int × Int × Int)) := fun k b1_1 b1_2 o2 b3_0 b3_1 o4 b5_0 b5_1 o6 v4 v9 v10 =>
    joinL (Option.bind (Za k (o2, b1_1, b1_2) [(6 : Int), (6 : Int), (7 : Int), (0 : Int)]) fun z3 => if (0 : Int) ≤ v4 then if v4 < (↑(List.length o6) : Int) then some [(Prod.fst z3.2, Prod.snd z3.2, o2, b3_0, b3_1, o4, b5_0, b5_1, List.set o6 (Int.toNat v4) (Prod.fst z3, (0 : Int)), v4, v9, v10)] else none else none) (joinL (Option.bind (Za k (o2, b1_1, b1_2) [(6 : Int), (6 : Int), (7 : Int), (0 : Int)]) fun z4 => if (0 : Int) ≤ v4 then if v4 < (↑(List.length o6) : Int) then some [(Prod.fst z4.2, Prod.snd z4.2, o2, b3_0, b3_1, o4, b5_0, b5_1, List.set o6 (Int.toNat v4) (Prod.fst z4, (0 : Int)), v4, v9, v10)] else none else none) (Option.bind (Za k (o2, b1_1, b1_2) [(6 : Int), (6 : Int), (7 : Int), (0 : Int)]) fun z5 => if (0 : Int) ≤ v4 then if v4 < (↑(List.length o6) : Int) then some [(Prod.fst z5.2, Prod.snd z5.2, o2, b3_0, b3_1, o4, b5_0, b5_1, List.set o6 (Int.toNat v4) (Prod.fst z5, (0 : Int)), v4, v9, v10)] else none else none))
noncomputable def Zds : Spec := Spec.mk [OSh.ro, OSh.box (58 : Nat) [Sh.sl (2 : Nat), Sh.int .i64, Sh.int .u64], OSh.fx (Ty.int .u8), OSh.box (26 : Nat) [Sh.int .i64, Sh.int .i64, Sh.sl (4 : Nat)], OSh.row true (71 : Nat) (Ty.pair (Ty.int .i64) (Ty.int .i64)), OSh.box (26 : Nat) [Sh.int .i64, Sh.int .i64, Sh.sl (6 : Nat)], OSh.row true (71 : Nat) (Ty.pair (Ty.int .i64) (Ty.int .i64))] [((0 : Nat), TSh.at (Sh.ptr (1 : Nat) (0 : Nat))), ((2 : Nat), TSh.at (Sh.ptr (3 : Nat) (0 : Nat))), ((3 : Nat), TSh.at (Sh.ptr (5 : Nat) (0 : Nat))), ((4 : Nat), TSh.at (Sh.int .i64)), ((9 : Nat), TSh.at (Sh.int .i64)), ((10 : Nat), TSh.at (Sh.int .i64))]
noncomputable def ZkA : Spec := Spec.mk [OSh.ro, OSh.box (58 : Nat) [Sh.sl (2 : Nat), Sh.int .i64, Sh.int .u64], OSh.fx (Ty.int .u8), OSh.box (26 : Nat) [Sh.int .i64, Sh.int .i64, Sh.sl (4 : Nat)], OSh.row true (71 : Nat) (Ty.pair (Ty.int .i64) (Ty.int .i64)), OSh.box (26 : Nat) [Sh.int .i64, Sh.int .i64, Sh.sl (6 : Nat)], OSh.row true (71 : Nat) (Ty.pair (Ty.int .i64) (Ty.int .i64))] [((0 : Nat), TSh.at (Sh.ptr (1 : Nat) (0 : Nat))), ((2 : Nat), TSh.at (Sh.ptr (3 : Nat) (0 : Nat))), ((3 : Nat), TSh.at (Sh.ptr (5 : Nat) (0 : Nat))), ((4 : Nat), TSh.at (Sh.int .i64)), ((9 : Nat), TSh.at (Sh.int .i64)), ((10 : Nat), TSh.at (Sh.int .i64))]
noncomputable def Z2b : LoopDef (Tup Z1D × OutD) := .plain Zds ZkA (Int × Int × List Int × Int × Int × List (Int × Int) × Int × Int × List (Int × Int) × Int × Int × Int) (fun k x => Z1u k x.1.2.1.2.1 x.1.2.1.2.2.1 x.1.2.2.1 x.1.2.2.2.1.1 x.1.2.2.2.1.2.1 x.1.2.2.2.2.1 x.1.2.2.2.2.2.1.1 x.1.2.2.2.2.2.1.2.1 x.1.2.2.2.2.2.2.1 x.2.2.2.2.1 x.2.2.2.2.2.1 x.2.2.2.2.2.2.1) (fun z => (((), ((), z.1, z.2.1, ()), z.2.2.1, (z.2.2.2.1, z.2.2.2.2.1, (), ()), z.2.2.2.2.2.1, (z.2.2.2.2.2.2.1, z.2.2.2.2.2.2.2.1, (), ()), z.2.2.2.2.2.2.2.2.1, ()), ((), (), (), z.2.2.2.2.2.2.2.2.2.1, z.2.2.2.2.2.2.2.2.2.2.1, z.2.2.2.2.2.2.2.2.2.2.2, ()))) (fun y => (y.1.2.1.2.1, y.1.2.1.2.2.1, y.1.2.2.1, y.1.2.2.2.1.1, y.1.2.2.2.1.2.1, y.1.2.2.2.2.1, y.1.2.2.2.2.2.1.1, y.1.2.2.2.2.2.1.2.1, y.1.2.2.2.2.2.2.1, y.2.2.2.2.1, y.2.2.2.2.2.1, y.2.2.2.2.2.2.1)) (fun _ => rfl)
theorem Zl0 (k : Nat) (b1_1 : Int) (b1_2 : Int) (o2 : List Int) (b3_0 : Int) (b3_1 : Int) (o4 : List (Int × Int)) (b5_0 : Int) (b5_1 : Int) (o6 : List (Int × Int)) (v4 : Int) (v9 : Int) (v10 : Int) : Z5I k b1_1 b1_2 o2 b3_0 b3_1 o4 b5_0 b5_1 o6 v4 v9 v10 = repl 3 (Z1u k b1_1 b1_2 o2 b3_0 b3_1 o4 b5_0 b5_1 o6 v4 v9 v10) := by
 first
 | (simp only [Z5I, Z1u, Zi, Zt, Zk, Zj, Zl, Z3, if_true]; done)
 | (simp only [Z5I, Z1u, Zi, Zt, Zk, Zj, Zl, Z3, if_true]; simp only [Z1K, Z1L, Z3L, Z3]; simp only [Z5k]; exact Z2N ⟨fun h => by simp only [h, and_self], fun h => by simp only [h, and_self]⟩)
noncomputable def Z1t : Nat → Int → Int → List Int → Int → Int → List (Int × Int) → Int → Int → List (Int × Int) → Int → Int → Int → Option (Int × Int × List Int × Int × Int × List (Int × Int) × Int × Int × List (Int × Int) × Int × Int) := fun k b1_1 b1_2 o2 b3_0 b3_1 o4 b5_0 b5_1 o6 v4 v9 v10 =>
    Option.bind (Z0 k (o2, b1_1, b1_2) (2 : Int)) fun z7 => if (0 : Int) ≤ v4 then if v4 < (↑(List.length o6) : Int) then some (Prod.fst z7.2, Prod.snd z7.2, o2, b3_0, b3_1, o4, b5_0, b5_1, List.set o6 (Int.toNat v4) (Prod.fst (List.getD o6 (Int.toNat v4) ((0 : Int), (0 : Int))), Prod.fst z7), v9, v10) else none else none
noncomputable def Z5J : Nat → Int → Int → List Int → Int → Int → List (Int × Int) → Int → Int → List (Int × Int) → Int → Int → Int → Option (List (Int × Int × List Int × Int × Int × List (Int × Int) × Int × Int × List (Int × Int) × Int × Int)) := fun k b1_1 b1_2 o2 b3_0 b3_1 o4 b5_0 b5_1 o6 v4 v9 v10 =>
    joinL (Option.bind (Z0 k (o2, b1_1, b1_2) (2 : Int)) fun z8 => if (0 : Int) ≤ v4 then if v4 < (↑(List.length o6) : Int) then some [(Prod.fst z8.2, Prod.snd z8.2, o2, b3_0, b3_1, o4, b5_0, b5_1, List.set o6 (Int.toNat v4) (Prod.fst (List.getD o6 (Int.toNat v4) ((0 : Int), (0 : Int))), Prod.fst z8), v9, v10)] else none else none) (Option.bind (Z0 k (o2, b1_1, b1_2) (2 : Int)) fun z9 => if (0 : Int) ≤ v4 then if v4 < (↑(List.length o6) : Int) then some [(Prod.fst z9.2, Prod.snd z9.2, o2, b3_0, b3_1, o4, b5_0, b5_1, List.set o6 (Int.toNat v4) (Prod.fst (List.getD o6 (Int.toNat v4) ((0 : Int), (0 : Int))), Prod.fst z9), v9, v10)] else none else none)
noncomputable def Zdk : Spec := Spec.mk [OSh.ro, OSh.box (58 : Nat) [Sh.sl (2 : Nat), Sh.int .i64, Sh.int .u64], OSh.fx (Ty.int .u8), OSh.box (26 : Nat) [Sh.int .i64, Sh.int .i64, Sh.sl (4 : Nat)], OSh.row true (71 : Nat) (Ty.pair (Ty.int .i64) (Ty.int .i64)), OSh.box (26 : Nat) [Sh.int .i64, Sh.int .i64, Sh.sl (6 : Nat)], OSh.row true (71 : Nat) (Ty.pair (Ty.int .i64) (Ty.int .i64))] [((0 : Nat), TSh.at (Sh.ptr (1 : Nat) (0 : Nat))), ((2 : Nat), TSh.at (Sh.ptr (3 : Nat) (0 : Nat))), ((3 : Nat), TSh.at (Sh.ptr (5 : Nat) (0 : Nat))), ((4 : Nat), TSh.at (Sh.int .i64)), ((9 : Nat), TSh.at (Sh.int .i64)), ((10 : Nat), TSh.at (Sh.int .i64))]
noncomputable def ZkI : Spec := Spec.mk [OSh.ro, OSh.box (58 : Nat) [Sh.sl (2 : Nat), Sh.int .i64, Sh.int .u64], OSh.fx (Ty.int .u8), OSh.box (26 : Nat) [Sh.int .i64, Sh.int .i64, Sh.sl (4 : Nat)], OSh.row true (71 : Nat) (Ty.pair (Ty.int .i64) (Ty.int .i64)), OSh.box (26 : Nat) [Sh.int .i64, Sh.int .i64, Sh.sl (6 : Nat)], OSh.row true (71 : Nat) (Ty.pair (Ty.int .i64) (Ty.int .i64))] [((0 : Nat), TSh.at (Sh.ptr (1 : Nat) (0 : Nat))), ((2 : Nat), TSh.at (Sh.ptr (3 : Nat) (0 : Nat))), ((3 : Nat), TSh.at (Sh.ptr (5 : Nat) (0 : Nat))), ((9 : Nat), TSh.at (Sh.int .i64)), ((10 : Nat), TSh.at (Sh.int .i64))]
noncomputable def Z2c : LoopDef (Tup Z1D × OutD) := .plain Zdk ZkI (Int × Int × List Int × Int × Int × List (Int × Int) × Int × Int × List (Int × Int) × Int × Int) (fun k x => Z1t k x.1.2.1.2.1 x.1.2.1.2.2.1 x.1.2.2.1 x.1.2.2.2.1.1 x.1.2.2.2.1.2.1 x.1.2.2.2.2.1 x.1.2.2.2.2.2.1.1 x.1.2.2.2.2.2.1.2.1 x.1.2.2.2.2.2.2.1 x.2.2.2.2.1 x.2.2.2.2.2.1 x.2.2.2.2.2.2.1) (fun z => (((), ((), z.1, z.2.1, ()), z.2.2.1, (z.2.2.2.1, z.2.2.2.2.1, (), ()), z.2.2.2.2.2.1, (z.2.2.2.2.2.2.1, z.2.2.2.2.2.2.2.1, (), ()), z.2.2.2.2.2.2.2.2.1, ()), ((), (), (), z.2.2.2.2.2.2.2.2.2.1, z.2.2.2.2.2.2.2.2.2.2, ()))) (fun y => (y.1.2.1.2.1, y.1.2.1.2.2.1, y.1.2.2.1, y.1.2.2.2.1.1, y.1.2.2.2.1.2.1, y.1.2.2.2.2.1, y.1.2.2.2.2.2.1.1, y.1.2.2.2.2.2.1.2.1, y.1.2.2.2.2.2.2.1, y.2.2.2.2.1, y.2.2.2.2.2.1)) (fun _ => rfl)
theorem ZkJ (k : Nat) (b1_1 : Int) (b1_2 : Int) (o2 : List Int) (b3_0 : Int) (b3_1 : Int) (o4 : List (Int × Int)) (b5_0 : Int) (b5_1 : Int) (o6 : List (Int × Int)) (v4 : Int) (v9 : Int) (v10 : Int) : Z5J k b1_1 b1_2 o2 b3_0 b3_1 o4 b5_0 b5_1 o6 v4 v9 v10 = repl 2 (Z1t k b1_1 b1_2 o2 b3_0 b3_1 o4 b5_0 b5_1 o6 v4 v9 v10) := by
 first
 | (simp only [Z5J, Z1t, Zi, Zt, Zk, Zj, Zl, Z3, if_true]; done)
 | (simp only [Z5J, Z1t, Zi, Zt, Zk, Zj, Zl, Z3, if_true]; simp only [Z1K, Z1L, Z3L, Z3]; simp only [Z5k]; exact Z2N ⟨fun h => by simp only [h, and_self], fun h => by simp only [h, and_self]⟩)
noncomputable def ZC : Nat → Int → Int → List Int → Int → Int → List (Int × Int) → Int → Int → List (Int × Int) → Int → Int → Option (Int × Int × List Int × Int × Int × List (Int × Int) × Int × Int × List (Int × Int))
 | 0, _, _, _, _, _, _, _, _, _, _, _ => none
 | k + 1, b1_1, b1_2, o2, b3_0, b3_1, o4, b5_0, b5_1, o6, v9, v10 =>
  if decide (v10 < v9) = true then Option.bind (Zc k (o2, b1_1, b1_2) (2 : Int)) fun z1 => if Prod.fst z1 = true then Option.bind (Z1u k z1.2.1 z1.2.2 o2 b3_0 b3_1 o4 b5_0 b5_1 o6 v10 v9 v10) fun z6 => if (0 : Int) ≤ Prod.fst z6.2.2.2.2.2.2.2.2.2 then if Prod.fst z6.2.2.2.2.2.2.2.2.2 < (↑(List.length z6.2.2.2.2.2.2.2.2.1) : Int) then if decide (Prod.fst (List.getD z6.2.2.2.2.2.2.2.2.1 (Int.toNat z6.2.2.2.2.2.2.2.2.2.1) ((0 : Int), (0 : Int))) = (6 : Int)) = true then Option.bind (Z1t k z6.1 z6.2.1 z6.2.2.1 z6.2.2.2.1 z6.2.2.2.2.1 z6.2.2.2.2.2.1 z6.2.2.2.2.2.2.1 z6.2.2.2.2.2.2.2.1 z6.2.2.2.2.2.2.2.2.1 z6.2.2.2.2.2.2.2.2.2.1 z6.2.2.2.2.2.2.2.2.2.2.1 z6.2.2.2.2.2.2.2.2.2.2.2) fun z10 => ZC k z10.1 z10.2.1 z10.2.2.1 z10.2.2.2.1 z10.2.2.2.2.1 z10.2.2.2.2.2.1 z10.2.2.2.2.2.2.1 z10.2.2.2.2.2.2.2.1 z10.2.2.2.2.2.2.2.2.1 z10.2.2.2.2.2.2.2.2.2.1 (wrap64 (Prod.snd z10.2.2.2.2.2.2.2.2.2 + (1 : Int))) else ZC k z6.1 z6.2.1 z6.2.2.1 z6.2.2.2.1 z6.2.2.2.2.1 z6.2.2.2.2.2.1 z6.2.2.2.2.2.2.1 z6.2.2.2.2.2.2.2.1 z6.2.2.2.2.2.2.2.2.1 z6.2.2.2.2.2.2.2.2.2.2.1 (wrap64 (Prod.snd z6.2.2.2.2.2.2.2.2.2.2 + (1 : Int))) else none else none else ZC k z1.2.1 z1.2.2 o2 b3_0 b3_1 o4 b5_0 b5_1 o6 v9 (wrap64 (v10 + (1 : Int))) else some (b1_1, b1_2, o2, b3_0, b3_1, o4, b5_0, b5_1, o6)
noncomputable def Z9J : Spec := Spec.mk [OSh.ro, OSh.box (58 : Nat) [Sh.sl (2 : Nat), Sh.int .i64, Sh.int .u64], OSh.fx (Ty.int .u8), OSh.box (26 : Nat) [Sh.int .i64, Sh.int .i64, Sh.sl (4 : Nat)], OSh.row true (71 : Nat) (Ty.pair (Ty.int .i64) (Ty.int .i64)), OSh.box (26 : Nat) [Sh.int .i64, Sh.int .i64, Sh.sl (6 : Nat)], OSh.row true (71 : Nat) (Ty.pair (Ty.int .i64) (Ty.int .i64))] [((0 : Nat), TSh.at (Sh.ptr (1 : Nat) (0 : Nat))), ((2 : Nat), TSh.at (Sh.ptr (3 : Nat) (0 : Nat))), ((3 : Nat), TSh.at (Sh.ptr (5 : Nat) (0 : Nat))), ((9 : Nat), TSh.at (Sh.int .i64)), ((10 : Nat), TSh.at (Sh.int .i64))]
noncomputable def ZmQ : Spec := Spec.mk [OSh.ro, OSh.box (58 : Nat) [Sh.sl (2 : Nat), Sh.int .i64, Sh.int .u64], OSh.fx (Ty.int .u8), OSh.box (26 : Nat) [Sh.int .i64, Sh.int .i64, Sh.sl (4 : Nat)], OSh.row true (71 : Nat) (Ty.pair (Ty.int .i64) (Ty.int .i64)), OSh.box (26 : Nat) [Sh.int .i64, Sh.int .i64, Sh.sl (6 : Nat)], OSh.row true (71 : Nat) (Ty.pair (Ty.int .i64) (Ty.int .i64))] [((2 : Nat), TSh.at (Sh.ptr (3 : Nat) (0 : Nat))), ((3 : Nat), TSh.at (Sh.ptr (5 : Nat) (0 : Nat)))]
noncomputable def Z2y : LoopDef (Tup Z1D × OutD) := .plain Z9J ZmQ (Int × Int × List Int × Int × Int × List (Int × Int) × Int × Int × List (Int × Int)) (fun k x => ZC k x.1.2.1.2.1 x.1.2.1.2.2.1 x.1.2.2.1 x.1.2.2.2.1.1 x.1.2.2.2.1.2.1 x.1.2.2.2.2.1 x.1.2.2.2.2.2.1.1 x.1.2.2.2.2.2.1.2.1 x.1.2.2.2.2.2.2.1 x.2.2.2.2.1 x.2.2.2.2.2.1) (fun z => (((), ((), z.1, z.2.1, ()), z.2.2.1, (z.2.2.2.1, z.2.2.2.2.1, (), ()), z.2.2.2.2.2.1, (z.2.2.2.2.2.2.1, z.2.2.2.2.2.2.2.1, (), ()), z.2.2.2.2.2.2.2.2, ()), ((), (), ()))) (fun y => (y.1.2.1.2.1, y.1.2.1.2.2.1, y.1.2.2.1, y.1.2.2.2.1.1, y.1.2.2.2.1.2.1, y.1.2.2.2.2.1, y.1.2.2.2.2.2.1.1, y.1.2.2.2.2.2.1.2.1, y.1.2.2.2.2.2.2.1)) (fun _ => rfl)
noncomputable def Z5P : Nat → List Int × Int × Int → Option ((Int × Int × List (Int × Int)) × Int × Int)
 | 0, _ => none
 | k + 1, p0 =>
  Option.bind (ZB k (Prod.fst p0, Prod.fst p0.2, Prod.snd p0.2)) fun z0 => Option.bind (ZC k z0.2.1 z0.2.2 p0.1 (0 : Int) (0 : Int) [] z0.1.1 z0.1.2.1 z0.1.2.2 (↑(List.length z0.1.2.2) : Int) (0 : Int)) fun z11 => some ((Prod.fst z11.2.2.2.2.2.2, Prod.fst z11.2.2.2.2.2.2.2, Prod.snd z11.2.2.2.2.2.2.2), Prod.fst z11, Prod.fst z11.2)
noncomputable def Z1J : FnDef := .of Zgx Z1D ((Int × Int × List (Int × Int)) × Int × Int) (fun k x => Z5P k x.1) ZfX Zbh ZkQ
noncomputable def Z44 : Code := Try.f101.body.getD .skip
noncomputable def Z9 : Ctx (Tup Z1D × OutD) := { T := T, G := [(72, Z1a.E), (58, ZG.E), (60, Zq.E), (57, Zd.E)], mvs := [], no := 2, n := 39, res := resOf T Zgx Z1D Try.f101.results.toList, loops := [(0, Z2y.E)], regs := [(6, Z2b.E), (8, Z2c.E)], conds := [], cuts := [] }
theorem Z8H (k : Nat) : EnvOK Try.prog k Z9.G := (EnvOK.cons (Zo7 k) (EnvOK.cons (Z5X k) (EnvOK.cons (Z3j k) (EnvOK.cons (ZH k) (EnvOK.nil mixed)))))
noncomputable def Z8Q : Array Oper := (findReg 6 Z44).getD #[]
theorem Zkw (k : Nat) (x : Zds.D) : execD Z9.T Z9.G Z9.mvs k Z8Q (Z2b.inp.st Z9.n x) (outK Z9 Z2b) = Z5I k x.1.2.1.2.1 x.1.2.1.2.2.1 x.1.2.2.1 x.1.2.2.2.1.1 x.1.2.2.2.1.2.1 x.1.2.2.2.2.1 x.1.2.2.2.2.2.1.1 x.1.2.2.2.2.2.1.2.1 x.1.2.2.2.2.2.2.1 x.2.2.2.2.1 x.2.2.2.2.2.1 x.2.2.2.2.2.2.1 := by kernel_rfl
theorem Zke (k : Nat) : EOK Try.prog Z9 k Z2b.E (.region 6 Z8Q true) := Z7N (D := Z2b) (m := 3) T_ok (Z8H k) (fun x => (Zkw k x).trans (Zl0 k x.1.2.1.2.1 x.1.2.1.2.2.1 x.1.2.2.1 x.1.2.2.2.1.1 x.1.2.2.2.1.2.1 x.1.2.2.2.2.1 x.1.2.2.2.2.2.1.1 x.1.2.2.2.2.2.1.2.1 x.1.2.2.2.2.2.2.1 x.2.2.2.2.1 x.2.2.2.2.2.1 x.2.2.2.2.2.2.1))
noncomputable def Z8S : Array Oper := (findReg 8 Z44).getD #[]
theorem Zl5 (k : Nat) (x : Zdk.D) : execD Z9.T Z9.G Z9.mvs k Z8S (Z2c.inp.st Z9.n x) (outK Z9 Z2c) = Z5J k x.1.2.1.2.1 x.1.2.1.2.2.1 x.1.2.2.1 x.1.2.2.2.1.1 x.1.2.2.2.1.2.1 x.1.2.2.2.2.1 x.1.2.2.2.2.2.1.1 x.1.2.2.2.2.2.1.2.1 x.1.2.2.2.2.2.2.1 x.2.2.2.2.1 x.2.2.2.2.2.1 x.2.2.2.2.2.2.1 := by kernel_rfl
theorem ZjP (k : Nat) : EOK Try.prog Z9 k Z2c.E (.region 8 Z8S true) := Z7N (D := Z2c) (m := 2) T_ok (Z8H k) (fun x => (Zl5 k x).trans (ZkJ k x.1.2.1.2.1 x.1.2.1.2.2.1 x.1.2.2.1 x.1.2.2.2.1.1 x.1.2.2.2.1.2.1 x.1.2.2.2.2.1 x.1.2.2.2.2.2.1.1 x.1.2.2.2.2.2.1.2.1 x.1.2.2.2.2.2.2.1 x.2.2.2.2.1 x.2.2.2.2.2.1 x.2.2.2.2.2.2.1))
noncomputable def Z6F : Code := (findLoop 0 Z44).getD .skip
theorem ZlW (k : Nat) (x : Z9J.D) : Z2y.lp (k + 1) x = loopK Z9 Z2y 0 Z6F k x := by kernel_rfl
theorem Zm6 (k : Nat) : LOK Try.prog Z9 k Z6F := LOK.by [(Z2b.E, .region 6 Z8Q true), (Z2c.E, .region 8 Z8S true)] (by kernel_rfl) (AllOK.cons (Zke k) (AllOK.cons (ZjP k) AllOK.nil))
theorem ZmM (x : Z9J.D) : Z2y.lp 0 x = none := by kernel_rfl
theorem ZkF (k : Nat) : EOK Try.prog Z9 k Z2y.E (.block 0 (.loop Z6F)) := Z5 T_ok Z8H ZmM ZlW Zm6 k
theorem Zr6 (k : Nat) (x : Tup Z1J.ps) : Z1J.f (k + 1) x = fnK Z1J Z9 Z44 k x := by kernel_rfl
theorem ZrP (x : Tup Z1J.ps) : Z1J.f 0 x = none := by kernel_rfl
theorem Zrs (k : Nat) : LOK Try.prog Z9 k Z44 := LOK.by [(Z2y.E, .block 0 (.loop Z6F))] (by kernel_rfl) (AllOK.cons (ZkF k) AllOK.nil)
theorem Zr4 (k : Nat) : SoundAt Try.prog k 101 Z1J.E := @Z1 Try.prog Z1J Z9 101 Try.f101 Z44 (by kernel_rfl) (by kernel_rfl) (by kernel_rfl) Try.func101 (by kernel_rfl) (by kernel_rfl) (by kernel_rfl) T_ok Z8H Zrs ZrP Zr6 k
end
end Go.Proofs.Ytglkedenkcpcbaa.Vs

set_option maxRecDepth 100000
set_option maxHeartbeats 2000000
set_option linter.unusedVariables false
set_option linter.unusedSimpArgs false
namespace Go.Proofs.Ytglkedenkcpcbaa.Vs
open Go.RowKit
noncomputable section
noncomputable def Z7P : List PK := [PK.mk (Ty.pair (Ty.int .i64) (Ty.pair (Ty.int .i64) (Ty.slice (71 : Nat) (Ty.pair (Ty.int .i64) (Ty.int .i64))))) true none false none, PK.mk Ty.bool false none false none]
noncomputable def Ziy : List PK := [PK.mk (Ty.pair (Ty.int .i64) (Ty.pair (Ty.int .i64) (Ty.slice (71 : Nat) (Ty.pair (Ty.int .i64) (Ty.int .i64))))) true none false none, PK.mk (Ty.int .i64) false none false none]
noncomputable def ZhF (r : (Int × Int × List (Int × Int)) × Bool) : Tup Z7P × OutD := ((r.1, r.2, ()), none)
noncomputable def ZhT : Tup Z7P × OutD → Option ((Int × Int × List (Int × Int)) × Bool)
 | (a, none) => some (a.1, a.2.1)
 | _ => none
theorem Zpc : ∀ b r, ZhT b = some r → ZhF r = b := by
 rintro ⟨a, o⟩ r h
 cases o with
 | none => injection h with h; subst h; rfl
 | some _ => cases h
noncomputable def Z9Y : Nat → Int × Int × List (Int × Int) → Int → Option ((Int × Int × List (Int × Int)) × Bool)
 | 0, _, _ => none
 | k + 1, p0, p1 =>
  Option.bind (Z6P k (Prod.fst p0, Prod.fst p0.2, Prod.snd p0.2) p1) fun z0 => if (!z0) = true then some (((0 : Int), (0 : Int), []), false) else Option.bind (Z7C k (Prod.fst p0, Prod.fst p0.2, Prod.snd p0.2) p1) fun z1 => some ((Prod.fst z1.1, Prod.fst z1.1.2, Prod.snd z1.1.2), Prod.snd z1)
noncomputable def Z2G : FnDef := .of Ziy Z7P ((Int × Int × List (Int × Int)) × Bool) (fun k x => Z9Y k x.1 x.2.1) ZhF ZhT Zpc
noncomputable def ZdA : Code := Try.f10.body.getD .skip
noncomputable def Za9 : Ctx (Tup Z7P × OutD) := { T := T, G := [(44, Z2l.E), (49, Z4k.E)], mvs := [], no := 0, n := 16, res := resOf T Ziy Z7P Try.f10.results.toList, loops := [], regs := [], conds := [], cuts := [] }
theorem ZvX (k : Nat) : EnvOK Try.prog k Za9.G := (EnvOK.cons (Zcx k) (EnvOK.cons (ZqD k) (EnvOK.nil mixed)))
theorem Zvb (k : Nat) (x : Tup Z2G.ps) : Z2G.f (k + 1) x = fnK Z2G Za9 ZdA k x := by kernel_rfl
theorem Zve (x : Tup Z2G.ps) : Z2G.f 0 x = none := by kernel_rfl
theorem ZuB (k : Nat) : LOK Try.prog Za9 k ZdA := LOK.by [] (by kernel_rfl) AllOK.nil
theorem ZuV (k : Nat) : SoundAt Try.prog k 10 Z2G.E := @Z1 Try.prog Z2G Za9 10 Try.f10 ZdA (by kernel_rfl) (by kernel_rfl) (by kernel_rfl) Try.func10 (by kernel_rfl) (by kernel_rfl) (by kernel_rfl) T_ok ZvX ZuB Zve Zvb k
noncomputable def Z3l : List PK := [PK.mk (Ty.pair (Ty.int .i64) (Ty.pair (Ty.int .i64) (Ty.slice (71 : Nat) (Ty.pair (Ty.int .i64) (Ty.int .i64))))) true none false none, PK.mk Ty.bool false none false none]
noncomputable def Zht : List PK := [PK.mk (Ty.pair (Ty.int .i64) (Ty.pair (Ty.int .i64) (Ty.slice (71 : Nat) (Ty.pair (Ty.int .i64) (Ty.int .i64))))) true none false none, PK.mk (Ty.slice (3 : Nat) (Ty.int .i64)) false none false none]
noncomputable def ZbY (r : (Int × Int × List (Int × Int)) × Bool) : Tup Z3l × OutD := ((r.1, r.2, ()), none)
noncomputable def ZbZ : Tup Z3l × OutD → Option ((Int × Int × List (Int × Int)) × Bool)
 | (a, none) => some (a.1, a.2.1)
 | _ => none
theorem ZdR : ∀ b r, ZbZ b = some r → ZbY r = b := by
 rintro ⟨a, o⟩ r h
 cases o with
 | none => injection h with h; subst h; rfl
 | some _ => cases h
noncomputable def Z31 : Nat → Int → Int → List (Int × Int) → Int → Int → List (Int × Int) → List Int → Int → Option (Int × Int × List (Int × Int) × Int × Int × List (Int × Int) × Int × Int × List (Int × Int) × List Int × Int × Bool) := fun k b1_0 b1_1 o2 b3_0 b3_1 o4 v1 v7 =>
    if (0 : Int) ≤ v7 then if v7 < (↑(List.length v1) : Int) then Option.bind (Z7C k (b3_0, b3_1, o4) (List.getD v1 (Int.toNat v7) (0 : Int))) fun z3 => some (b1_0, b1_1, o2, b3_0, b3_1, o4, Prod.fst z3.1, Prod.fst z3.1.2, Prod.snd z3.1.2, v1, v7, Prod.snd z3) else none else none
noncomputable def Z6B : Nat → Int → Int → List (Int × Int) → Int → Int → List (Int × Int) → List Int → Int → Option (List (Int × Int × List (Int × Int) × Int × Int × List (Int × Int) × Int × Int × List (Int × Int) × List Int × Int × Bool)) := fun k b1_0 b1_1 o2 b3_0 b3_1 o4 v1 v7 =>
    if (0 : Int) ≤ v7 then if v7 < (↑(List.length v1) : Int) then joinL (Option.bind (Z7C k (b3_0, b3_1, o4) (List.getD v1 (Int.toNat v7) (0 : Int))) fun z4 => some [(b1_0, b1_1, o2, b3_0, b3_1, o4, Prod.fst z4.1, Prod.fst z4.1.2, Prod.snd z4.1.2, v1, v7, Prod.snd z4)]) (Option.bind (Z7C k (b3_0, b3_1, o4) (List.getD v1 (Int.toNat v7) (0 : Int))) fun z5 => some [(b1_0, b1_1, o2, b3_0, b3_1, o4, Prod.fst z5.1, Prod.fst z5.1.2, Prod.snd z5.1.2, v1, v7, Prod.snd z5)]) else none else none
noncomputable def ZdO : Spec := Spec.mk [OSh.ro, OSh.box (26 : Nat) [Sh.int .i64, Sh.int .i64, Sh.sl (2 : Nat)], OSh.row true (71 : Nat) (Ty.pair (Ty.int .i64) (Ty.int .i64)), OSh.box (26 : Nat) [Sh.int .i64, Sh.int .i64, Sh.sl (4 : Nat)], OSh.row true (71 : Nat) (Ty.pair (Ty.int .i64) (Ty.int .i64))] [((1 : Nat), TSh.at (Sh.snap (0 : Nat) (Ty.int .i64))), ((4 : Nat), TSh.at (Sh.ptr (1 : Nat) (0 : Nat))), ((6 : Nat), TSh.at (Sh.ptr (3 : Nat) (0 : Nat))), ((7 : Nat), TSh.at (Sh.int .i64))]
noncomputable def Zml : Spec := Spec.mk [OSh.ro, OSh.box (26 : Nat) [Sh.int .i64, Sh.int .i64, Sh.sl (2 : Nat)], OSh.row true (71 : Nat) (Ty.pair (Ty.int .i64) (Ty.int .i64)), OSh.box (26 : Nat) [Sh.int .i64, Sh.int .i64, Sh.sl (4 : Nat)], OSh.row true (71 : Nat) (Ty.pair (Ty.int .i64) (Ty.int .i64)), OSh.box (26 : Nat) [Sh.int .i64, Sh.int .i64, Sh.sl (6 : Nat)], OSh.row true (71 : Nat) (Ty.pair (Ty.int .i64) (Ty.int .i64))] [((1 : Nat), TSh.at (Sh.snap (0 : Nat) (Ty.int .i64))), ((4 : Nat), TSh.at (Sh.ptr (1 : Nat) (0 : Nat))), ((6 : Nat), TSh.at (Sh.ptr (3 : Nat) (0 : Nat))), ((7 : Nat), TSh.at (Sh.int .i64)), ((8 : Nat), TSh.at (Sh.ptr (5 : Nat) (0 : Nat))), ((9 : Nat), TSh.at Sh.bool)]
noncomputable def Z2t : LoopDef (Tup Z3l × OutD) := .plain ZdO Zml (Int × Int × List (Int × Int) × Int × Int × List (Int × Int) × Int × Int × List (Int × Int) × List Int × Int × Bool) (fun k x => Z31 k x.1.2.1.1 x.1.2.1.2.1 x.1.2.2.1 x.1.2.2.2.1.1 x.1.2.2.2.1.2.1 x.1.2.2.2.2.1 x.2.1 x.2.2.2.2.1) (fun z => (((), (z.1, z.2.1, (), ()), z.2.2.1, (z.2.2.2.1, z.2.2.2.2.1, (), ()), z.2.2.2.2.2.1, (z.2.2.2.2.2.2.1, z.2.2.2.2.2.2.2.1, (), ()), z.2.2.2.2.2.2.2.2.1, ()), (z.2.2.2.2.2.2.2.2.2.1, (), (), z.2.2.2.2.2.2.2.2.2.2.1, (), z.2.2.2.2.2.2.2.2.2.2.2, ()))) (fun y => (y.1.2.1.1, y.1.2.1.2.1, y.1.2.2.1, y.1.2.2.2.1.1, y.1.2.2.2.1.2.1, y.1.2.2.2.2.1, y.1.2.2.2.2.2.1.1, y.1.2.2.2.2.2.1.2.1, y.1.2.2.2.2.2.2.1, y.2.1, y.2.2.2.2.1, y.2.2.2.2.2.2.1)) (fun _ => rfl)
theorem Zms (k : Nat) (b1_0 : Int) (b1_1 : Int) (o2 : List (Int × Int)) (b3_0 : Int) (b3_1 : Int) (o4 : List (Int × Int)) (v1 : List Int) (v7 : Int) : Z6B k b1_0 b1_1 o2 b3_0 b3_1 o4 v1 v7 = repl 2 (Z31 k b1_0 b1_1 o2 b3_0 b3_1 o4 v1 v7) := by
 first
 | (simp only [Z6B, Z31, Zi, Zt, Zk, Zj, Zl, Z3, if_true]; done)
 | (simp only [Z6B, Z31, Zi, Zt, Zk, Zj, Zl, Z3, if_true]; simp only [Z1K, Z1L, Z3L, Z3]; simp only [Z5k]; exact Z2N ⟨fun h => by simp only [h, and_self], fun h => by simp only [h, and_self]⟩)
noncomputable def Z3z : Nat → Int → Int → List (Int × Int) → Int → Int → List (Int × Int) → List Int → Int → Option (LR (Int × Int × List (Int × Int) × Int × Int × List (Int × Int)) ((Int × Int × List (Int × Int)) × Bool))
 | 0, _, _, _, _, _, _, _, _ => none
 | k + 1, b1_0, b1_1, o2, b3_0, b3_1, o4, v1, v7 =>
  if decide (v7 ≥ (0 : Int)) = true then Option.bind (Z31 k b1_0 b1_1 o2 b3_0 b3_1 o4 v1 v7) fun z6 => if (!Prod.snd z6.2.2.2.2.2.2.2.2.2.2) = true then some (LR.ret (((0 : Int), (0 : Int), []), false)) else Z3z k z6.1 z6.2.1 z6.2.2.1 z6.2.2.2.2.2.2.1 z6.2.2.2.2.2.2.2.1 z6.2.2.2.2.2.2.2.2.1 z6.2.2.2.2.2.2.2.2.2.1 (wrap64 (Prod.fst z6.2.2.2.2.2.2.2.2.2.2 - (1 : Int))) else some (LR.go (b1_0, b1_1, o2, b3_0, b3_1, o4))
noncomputable def ZaJ : Spec := Spec.mk [OSh.ro, OSh.box (26 : Nat) [Sh.int .i64, Sh.int .i64, Sh.sl (2 : Nat)], OSh.row true (71 : Nat) (Ty.pair (Ty.int .i64) (Ty.int .i64)), OSh.box (26 : Nat) [Sh.int .i64, Sh.int .i64, Sh.sl (4 : Nat)], OSh.row true (71 : Nat) (Ty.pair (Ty.int .i64) (Ty.int .i64))] [((1 : Nat), TSh.at (Sh.snap (0 : Nat) (Ty.int .i64))), ((4 : Nat), TSh.at (Sh.ptr (1 : Nat) (0 : Nat))), ((6 : Nat), TSh.at (Sh.ptr (3 : Nat) (0 : Nat))), ((7 : Nat), TSh.at (Sh.int .i64))]
noncomputable def Zos : Spec := Spec.mk [OSh.ro, OSh.box (26 : Nat) [Sh.int .i64, Sh.int .i64, Sh.sl (2 : Nat)], OSh.row true (71 : Nat) (Ty.pair (Ty.int .i64) (Ty.int .i64)), OSh.box (26 : Nat) [Sh.int .i64, Sh.int .i64, Sh.sl (4 : Nat)], OSh.row true (71 : Nat) (Ty.pair (Ty.int .i64) (Ty.int .i64))] [((4 : Nat), TSh.at (Sh.ptr (1 : Nat) (0 : Nat))), ((6 : Nat), TSh.at (Sh.ptr (3 : Nat) (0 : Nat)))]
noncomputable def Z3b : LoopDef (Tup Z3l × OutD) := .rets ZaJ Zos (Int × Int × List (Int × Int) × Int × Int × List (Int × Int)) ((Int × Int × List (Int × Int)) × Bool) (fun k x => Z3z k x.1.2.1.1 x.1.2.1.2.1 x.1.2.2.1 x.1.2.2.2.1.1 x.1.2.2.2.1.2.1 x.1.2.2.2.2.1 x.2.1 x.2.2.2.2.1) (fun z => (((), (z.1, z.2.1, (), ()), z.2.2.1, (z.2.2.2.1, z.2.2.2.2.1, (), ()), z.2.2.2.2.2, ()), ((), (), ()))) (fun y => (y.1.2.1.1, y.1.2.1.2.1, y.1.2.2.1, y.1.2.2.2.1.1, y.1.2.2.2.1.2.1, y.1.2.2.2.2.1)) (fun _ => rfl) ZbY ZbZ ZdR
noncomputable def Z9w : Nat → Int × Int × List (Int × Int) → List Int → Option ((Int × Int × List (Int × Int)) × Bool)
 | 0, _, _ => none
 | k + 1, p0, p1 =>
  Option.bind (Z6P k (Prod.fst p0, Prod.fst p0.2, Prod.snd p0.2) (0 : Int)) fun z0 => if (!z0) = true then some (((0 : Int), (0 : Int), []), false) else if decide ((↑(List.length p1) : Int) > (20 : Int)) = true then some (((0 : Int), (0 : Int), []), false) else Option.bind (ZcN k p1 (0 : Int) (wrap64 (Prod.fst p0.2 - (1 : Int)))) fun z1 => if (!z1) = true then some (((0 : Int), (0 : Int), []), false) else Option.bind (Z58 k (Prod.fst p0, Prod.fst p0.2, Prod.snd p0.2)) fun z2 => Option.bind (Z3z k (0 : Int) (0 : Int) [] z2.1 z2.2.1 z2.2.2 p1 (wrap64 ((↑(List.length p1) : Int) - (1 : Int)))) fun z7 => LR.on z7 (fun y7 => some ((Prod.fst y7.2.2.2, Prod.fst y7.2.2.2.2, Prod.snd y7.2.2.2.2), true)) fun r7 => some r7
noncomputable def Z21 : FnDef := .of Zht Z3l ((Int × Int × List (Int × Int)) × Bool) (fun k x => Z9w k x.1 x.2.1) ZbY ZbZ ZdR
noncomputable def Z6T : Code := Try.f24.body.getD .skip
noncomputable def Zy : Ctx (Tup Z3l × OutD) := { T := T, G := [(44, Z2l.E), (64, Z54.E), (65, Z3m.E), (49, Z4k.E)], mvs := [], no := 0, n := 50, res := resOf T Zht Z3l Try.f24.results.toList, loops := [(0, Z3b.E)], regs := [(7, Z2t.E)], conds := [], cuts := [] }
theorem ZcC (k : Nat) : EnvOK Try.prog k Zy.G := (EnvOK.cons (Zcx k) (EnvOK.cons (ZsH k) (EnvOK.cons (ZfO k) (EnvOK.cons (ZqD k) (EnvOK.nil mixed)))))
noncomputable def Z9N : Array Oper := (findReg 7 Z6T).getD #[]
theorem ZmX (k : Nat) (x : ZdO.D) : execD Zy.T Zy.G Zy.mvs k Z9N (Z2t.inp.st Zy.n x) (outK Zy Z2t) = Z6B k x.1.2.1.1 x.1.2.1.2.1 x.1.2.2.1 x.1.2.2.2.1.1 x.1.2.2.2.1.2.1 x.1.2.2.2.2.1 x.2.1 x.2.2.2.2.1 := by kernel_rfl
theorem Zl2 (k : Nat) : EOK Try.prog Zy k Z2t.E (.region 7 Z9N true) := Z7N (D := Z2t) (m := 2) T_ok (ZcC k) (fun x => (ZmX k x).trans (Zms k x.1.2.1.1 x.1.2.1.2.1 x.1.2.2.1 x.1.2.2.2.1.1 x.1.2.2.2.1.2.1 x.1.2.2.2.2.1 x.2.1 x.2.2.2.2.1))
noncomputable def Z7l : Code := (findLoop 0 Z6T).getD .skip
theorem ZnV (k : Nat) (x : ZaJ.D) : Z3b.lp (k + 1) x = loopK Zy Z3b 0 Z7l k x := by kernel_rfl
theorem Zo2 (k : Nat) : LOK Try.prog Zy k Z7l := LOK.by [(Z2t.E, .region 7 Z9N true)] (by kernel_rfl) (AllOK.cons (Zl2 k) AllOK.nil)
theorem ZoO (x : ZaJ.D) : Z3b.lp 0 x = none := by kernel_rfl
theorem ZmF (k : Nat) : EOK Try.prog Zy k Z3b.E (.block 0 (.loop Z7l)) := Z5 T_ok ZcC ZoO ZnV Zo2 k
theorem Zta (k : Nat) (x : Tup Z21.ps) : Z21.f (k + 1) x = fnK Z21 Zy Z6T k x := by kernel_rfl
theorem ZtM (x : Tup Z21.ps) : Z21.f 0 x = none := by kernel_rfl
theorem ZtX (k : Nat) : LOK Try.prog Zy k Z6T := LOK.by [(Z3b.E, .block 0 (.loop Z7l))] (by kernel_rfl) (AllOK.cons (ZmF k) AllOK.nil)
theorem ZtG (k : Nat) : SoundAt Try.prog k 24 Z21.E := @Z1 Try.prog Z21 Zy 24 Try.f24 Z6T (by kernel_rfl) (by kernel_rfl) (by kernel_rfl) Try.func24 (by kernel_rfl) (by kernel_rfl) (by kernel_rfl) T_ok ZcC ZtX ZtM Zta k
noncomputable def Z2C : List PK := [PK.mk (Ty.pair (Ty.int .i64) (Ty.pair (Ty.int .i64) (Ty.slice (71 : Nat) (Ty.pair (Ty.int .i64) (Ty.int .i64))))) true none false none]
noncomputable def Ze0 : List PK := [PK.mk (Ty.pair (Ty.slice (5 : Nat) (Ty.int .u8)) (Ty.pair (Ty.int .i64) (Ty.int .u64))) false none false (some (58 : Nat))]
noncomputable def Zdn (r : (Int × Int × List (Int × Int)) × Int × Int) : Tup Z2C × OutD := ((r.1, ()), some ⟨Ty.pair (Ty.slice (5 : Nat) (Ty.int .u8)) (Ty.pair (Ty.int .i64) (Ty.int .u64)), [([], r.2)]⟩)
noncomputable def Z8R : Tup Z2C × OutD → Option ((Int × Int × List (Int × Int)) × Int × Int)
 | (a, some ⟨u, ys⟩) => if h : u = Ty.pair (Ty.slice (5 : Nat) (Ty.int .u8)) (Ty.pair (Ty.int .i64) (Ty.int .u64)) then (match castU h ys with
  | [([], y)] => some (a.1, y)
  | _ => none) else none
 | _ => none
theorem Zi3 : ∀ b r, Z8R b = some r → Zdn r = b := by
 rintro ⟨a, o⟩ r h
 cases o with
 | none => cases h
 | some s =>
  obtain ⟨u, ys⟩ := s
  simp only [Z8R] at h
  split at h
  ·rename_i hu
   subst hu
   match ys, h with
   | [], h => cases (show (none : Option _) = some r from h)
   | [([], y)], h => injection (show some _ = some r from h) with h; subst h; rfl
   | [(_ :: _, y)], h => cases (show (none : Option _) = some r from h)
   | (h1, _) :: _ :: _, h => cases h1 <;> cases (show (none : Option _) = some r from h)
  ·cases h
noncomputable def ZP : Nat → Int → Int → List Int → Int → Int → List (Int × Int) → Int → Int → List (Int × Int) → Int → Option (Int × Int × List Int × Int × Int × List (Int × Int) × Int × Int × List (Int × Int))
 | 0, _, _, _, _, _, _, _, _, _, _ => none
 | k + 1, b1_1, b1_2, o2, b3_0, b3_1, o4, b5_0, b5_1, o6, v4 =>
  if decide ((↑(List.length o6) : Int) < (18 : Int)) = true then if decide ((↑(List.length o6) : Int) < v4) = true then Option.bind (Z0 k (o2, b1_1, b1_2) (2 : Int)) fun z2 => if List.length o6 + List.length [((3 : Int), Prod.fst z2)] ≤ (140737488355328 / 16 : Nat) then ZP k z2.2.1 z2.2.2 o2 b3_0 b3_1 o4 b5_0 b5_1 (o6 ++ [((3 : Int), Prod.fst z2)]) v4 else none else if List.length o6 + List.length [((0 : Int), (0 : Int))] ≤ (140737488355328 / 16 : Nat) then ZP k b1_1 b1_2 o2 b3_0 b3_1 o4 b5_0 b5_1 (o6 ++ [((0 : Int), (0 : Int))]) v4 else none else some (b1_1, b1_2, o2, b3_0, b3_1, o4, b5_0, b5_1, o6)
noncomputable def Z7V : Spec := Spec.mk [OSh.ro, OSh.box (58 : Nat) [Sh.sl (2 : Nat), Sh.int .i64, Sh.int .u64], OSh.fx (Ty.int .u8), OSh.box (26 : Nat) [Sh.int .i64, Sh.int .i64, Sh.sl (4 : Nat)], OSh.row true (71 : Nat) (Ty.pair (Ty.int .i64) (Ty.int .i64)), OSh.box (26 : Nat) [Sh.int .i64, Sh.int .i64, Sh.sl (6 : Nat)], OSh.row true (71 : Nat) (Ty.pair (Ty.int .i64) (Ty.int .i64))] [((0 : Nat), TSh.at (Sh.ptr (1 : Nat) (0 : Nat))), ((2 : Nat), TSh.at (Sh.ptr (3 : Nat) (0 : Nat))), ((3 : Nat), TSh.at (Sh.ptr (5 : Nat) (0 : Nat))), ((4 : Nat), TSh.at (Sh.int .i64))]
noncomputable def Zj4 : Spec := Spec.mk [OSh.ro, OSh.box (58 : Nat) [Sh.sl (2 : Nat), Sh.int .i64, Sh.int .u64], OSh.fx (Ty.int .u8), OSh.box (26 : Nat) [Sh.int .i64, Sh.int .i64, Sh.sl (4 : Nat)], OSh.row true (71 : Nat) (Ty.pair (Ty.int .i64) (Ty.int .i64)), OSh.box (26 : Nat) [Sh.int .i64, Sh.int .i64, Sh.sl (6 : Nat)], OSh.row true (71 : Nat) (Ty.pair (Ty.int .i64) (Ty.int .i64))] [((2 : Nat), TSh.at (Sh.ptr (3 : Nat) (0 : Nat))), ((3 : Nat), TSh.at (Sh.ptr (5 : Nat) (0 : Nat)))]
noncomputable def Z1x : LoopDef (Tup Z2C × OutD) := .plain Z7V Zj4 (Int × Int × List Int × Int × Int × List (Int × Int) × Int × Int × List (Int × Int)) (fun k x => ZP k x.1.2.1.2.1 x.1.2.1.2.2.1 x.1.2.2.1 x.1.2.2.2.1.1 x.1.2.2.2.1.2.1 x.1.2.2.2.2.1 x.1.2.2.2.2.2.1.1 x.1.2.2.2.2.2.1.2.1 x.1.2.2.2.2.2.2.1 x.2.2.2.2.1) (fun z => (((), ((), z.1, z.2.1, ()), z.2.2.1, (z.2.2.2.1, z.2.2.2.2.1, (), ()), z.2.2.2.2.2.1, (z.2.2.2.2.2.2.1, z.2.2.2.2.2.2.2.1, (), ()), z.2.2.2.2.2.2.2.2, ()), ((), (), ()))) (fun y => (y.1.2.1.2.1, y.1.2.1.2.2.1, y.1.2.2.1, y.1.2.2.2.1.1, y.1.2.2.2.1.2.1, y.1.2.2.2.2.1, y.1.2.2.2.2.2.1.1, y.1.2.2.2.2.2.1.2.1, y.1.2.2.2.2.2.2.1)) (fun _ => rfl)
noncomputable def Z6r : Nat → List Int × Int × Int → Option ((Int × Int × List (Int × Int)) × Int × Int)
 | 0, _ => none
 | k + 1, p0 =>
  Option.bind (Zc k (Prod.fst p0, Prod.fst p0.2, Prod.snd p0.2) (6 : Int)) fun z0 => if Prod.fst z0 = true then Option.bind (Z0 k (Prod.fst p0, Prod.fst z0.2, Prod.snd z0.2) (2 : Int)) fun z1 => Option.bind (ZP k z1.2.1 z1.2.2 p0.1 (0 : Int) (0 : Int) [] (3 : Int) (6 : Int) [] (wrap64 ((16 : Int) + Prod.fst z1))) fun z3 => some ((Prod.fst z3.2.2.2.2.2.2, Prod.fst z3.2.2.2.2.2.2.2, Prod.snd z3.2.2.2.2.2.2.2), Prod.fst z3, Prod.fst z3.2) else Option.bind (Z5P k (Prod.fst p0, Prod.fst z0.2, Prod.snd z0.2)) fun z4 => some ((Prod.fst z4.1, Prod.fst z4.1.2, Prod.snd z4.1.2), Prod.fst z4.2, Prod.snd z4.2)
noncomputable def ZY : FnDef := .of Ze0 Z2C ((Int × Int × List (Int × Int)) × Int × Int) (fun k x => Z6r k x.1) Zdn Z8R Zi3
noncomputable def Z6x : Code := Try.f77.body.getD .skip
noncomputable def Z1r : Ctx (Tup Z2C × OutD) := { T := T, G := [(58, ZG.E), (57, Zd.E), (101, Z1J.E)], mvs := [], no := 2, n := 34, res := resOf T Ze0 Z2C Try.f77.results.toList, loops := [(0, Z1x.E)], regs := [], conds := [], cuts := [] }
theorem Ze6 (k : Nat) : EnvOK Try.prog k Z1r.G := (EnvOK.cons (Z5X k) (EnvOK.cons (ZH k) (EnvOK.cons (Zr4 k) (EnvOK.nil mixed))))
noncomputable def Z4P : Code := (findLoop 0 Z6x).getD .skip
theorem Zjo (k : Nat) (x : Z7V.D) : Z1x.lp (k + 1) x = loopK Z1r Z1x 0 Z4P k x := by kernel_rfl
theorem Zj0 (k : Nat) : LOK Try.prog Z1r k Z4P := LOK.by [] (by kernel_rfl) AllOK.nil
theorem Zjm (x : Z7V.D) : Z1x.lp 0 x = none := by kernel_rfl
theorem Zih (k : Nat) : EOK Try.prog Z1r k Z1x.E (.block 0 (.loop Z4P)) := Z5 T_ok Ze6 Zjm Zjo Zj0 k
theorem Zmr (k : Nat) (x : Tup ZY.ps) : ZY.f (k + 1) x = fnK ZY Z1r Z6x k x := by kernel_rfl
theorem Zmn (x : Tup ZY.ps) : ZY.f 0 x = none := by kernel_rfl
theorem ZmU (k : Nat) : LOK Try.prog Z1r k Z6x := LOK.by [(Z1x.E, .block 0 (.loop Z4P))] (by kernel_rfl) (AllOK.cons (Zih k) AllOK.nil)
theorem ZmL (k : Nat) : SoundAt Try.prog k 77 ZY.E := @Z1 Try.prog ZY Z1r 77 Try.f77 Z6x (by kernel_rfl) (by kernel_rfl) (by kernel_rfl) Try.func77 (by kernel_rfl) (by kernel_rfl) (by kernel_rfl) T_ok Ze6 ZmU Zmn Zmr k
end
end Go.Proofs.Ytglkedenkcpcbaa.Vs

set_option maxRecDepth 100000
set_option maxHeartbeats 2000000
set_option linter.unusedVariables false
set_option linter.unusedSimpArgs false
namespace Go.Proofs.Ytglkedenkcpcbaa.Vs
open Go.RowKit
noncomputable section
noncomputable def ZN : List PK := [PK.mk (Ty.pair (Ty.int .i64) (Ty.pair (Ty.int .i64) (Ty.slice (71 : Nat) (Ty.pair (Ty.int .i64) (Ty.int .i64))))) true none false none]
noncomputable def ZdW : List PK := [PK.mk (Ty.pair (Ty.slice (5 : Nat) (Ty.int .u8)) (Ty.pair (Ty.int .i64) (Ty.int .u64))) false none false (some (58 : Nat))]
noncomputable def Zdr (r : (Int × Int × List (Int × Int)) × Int × Int) : Tup ZN × OutD := ((r.1, ()), some ⟨Ty.pair (Ty.slice (5 : Nat) (Ty.int .u8)) (Ty.pair (Ty.int .i64) (Ty.int .u64)), [([], r.2)]⟩)
noncomputable def Z8P : Tup ZN × OutD → Option ((Int × Int × List (Int × Int)) × Int × Int)
 | (a, some ⟨u, ys⟩) => if h : u = Ty.pair (Ty.slice (5 : Nat) (Ty.int .u8)) (Ty.pair (Ty.int .i64) (Ty.int .u64)) then (match castU h ys with
  | [([], y)] => some (a.1, y)
  | _ => none) else none
 | _ => none
theorem Zij : ∀ b r, Z8P b = some r → Zdr r = b := by
 rintro ⟨a, o⟩ r h
 cases o with
 | none => cases h
 | some s =>
  obtain ⟨u, ys⟩ := s
  simp only [Z8P] at h
  split at h
  ·rename_i hu
   subst hu
   match ys, h with
   | [], h => cases (show (none : Option _) = some r from h)
   | [([], y)], h => injection (show some _ = some r from h) with h; subst h; rfl
   | [(_ :: _, y)], h => cases (show (none : Option _) = some r from h)
   | (h1, _) :: _ :: _, h => cases h1 <;> cases (show (none : Option _) = some r from h)
  ·cases h
noncomputable def Z1z : Nat → Int → Int → List Int → Int → Int → List (Int × Int) → Int → Int → List (Int × Int) → Int → Option (Int × Int × List Int × Int × Int × List (Int × Int) × Int × Int × List (Int × Int) × Int) := fun k b1_1 b1_2 o2 b3_0 b3_1 o4 b5_0 b5_1 o6 v4 =>
    Option.bind (Z0 k (o2, b1_1, b1_2) (2 : Int)) fun z2 => if (0 : Int) ≤ v4 then if v4 < (↑(List.length o6) : Int) then some (Prod.fst z2.2, Prod.snd z2.2, o2, b3_0, b3_1, o4, b5_0, b5_1, List.set o6 (Int.toNat v4) ((3 : Int), Prod.fst z2), v4) else none else none
noncomputable def Z4l : Nat → Int → Int → List Int → Int → Int → List (Int × Int) → Int → Int → List (Int × Int) → Int → Option (List (Int × Int × List Int × Int × Int × List (Int × Int) × Int × Int × List (Int × Int) × Int)) := fun k b1_1 b1_2 o2 b3_0 b3_1 o4 b5_0 b5_1 o6 v4 =>
    joinL (Option.bind (Z0 k (o2, b1_1, b1_2) (2 : Int)) fun z3 => if (0 : Int) ≤ v4 then if v4 < (↑(List.length o6) : Int) then some [(Prod.fst z3.2, Prod.snd z3.2, o2, b3_0, b3_1, o4, b5_0, b5_1, List.set o6 (Int.toNat v4) ((3 : Int), Prod.fst z3), v4)] else none else none) (Option.bind (Z0 k (o2, b1_1, b1_2) (2 : Int)) fun z4 => if (0 : Int) ≤ v4 then if v4 < (↑(List.length o6) : Int) then some [(Prod.fst z4.2, Prod.snd z4.2, o2, b3_0, b3_1, o4, b5_0, b5_1, List.set o6 (Int.toNat v4) ((3 : Int), Prod.fst z4), v4)] else none else none)
noncomputable def ZbA : Spec := Spec.mk [OSh.ro, OSh.box (58 : Nat) [Sh.sl (2 : Nat), Sh.int .i64, Sh.int .u64], OSh.fx (Ty.int .u8), OSh.box (26 : Nat) [Sh.int .i64, Sh.int .i64, Sh.sl (4 : Nat)], OSh.row true (71 : Nat) (Ty.pair (Ty.int .i64) (Ty.int .i64)), OSh.box (26 : Nat) [Sh.int .i64, Sh.int .i64, Sh.sl (6 : Nat)], OSh.row true (71 : Nat) (Ty.pair (Ty.int .i64) (Ty.int .i64))] [((0 : Nat), TSh.at (Sh.ptr (1 : Nat) (0 : Nat))), ((2 : Nat), TSh.at (Sh.ptr (3 : Nat) (0 : Nat))), ((3 : Nat), TSh.at (Sh.ptr (5 : Nat) (0 : Nat))), ((4 : Nat), TSh.at (Sh.int .i64))]
noncomputable def Zio : Spec := Spec.mk [OSh.ro, OSh.box (58 : Nat) [Sh.sl (2 : Nat), Sh.int .i64, Sh.int .u64], OSh.fx (Ty.int .u8), OSh.box (26 : Nat) [Sh.int .i64, Sh.int .i64, Sh.sl (4 : Nat)], OSh.row true (71 : Nat) (Ty.pair (Ty.int .i64) (Ty.int .i64)), OSh.box (26 : Nat) [Sh.int .i64, Sh.int .i64, Sh.sl (6 : Nat)], OSh.row true (71 : Nat) (Ty.pair (Ty.int .i64) (Ty.int .i64))] [((0 : Nat), TSh.at (Sh.ptr (1 : Nat) (0 : Nat))), ((2 : Nat), TSh.at (Sh.ptr (3 : Nat) (0 : Nat))), ((3 : Nat), TSh.at (Sh.ptr (5 : Nat) (0 : Nat))), ((4 : Nat), TSh.at (Sh.int .i64))]
noncomputable def Z1k : LoopDef (Tup ZN × OutD) := .plain ZbA Zio (Int × Int × List Int × Int × Int × List (Int × Int) × Int × Int × List (Int × Int) × Int) (fun k x => Z1z k x.1.2.1.2.1 x.1.2.1.2.2.1 x.1.2.2.1 x.1.2.2.2.1.1 x.1.2.2.2.1.2.1 x.1.2.2.2.2.1 x.1.2.2.2.2.2.1.1 x.1.2.2.2.2.2.1.2.1 x.1.2.2.2.2.2.2.1 x.2.2.2.2.1) (fun z => (((), ((), z.1, z.2.1, ()), z.2.2.1, (z.2.2.2.1, z.2.2.2.2.1, (), ()), z.2.2.2.2.2.1, (z.2.2.2.2.2.2.1, z.2.2.2.2.2.2.2.1, (), ()), z.2.2.2.2.2.2.2.2.1, ()), ((), (), (), z.2.2.2.2.2.2.2.2.2, ()))) (fun y => (y.1.2.1.2.1, y.1.2.1.2.2.1, y.1.2.2.1, y.1.2.2.2.1.1, y.1.2.2.2.1.2.1, y.1.2.2.2.2.1, y.1.2.2.2.2.2.1.1, y.1.2.2.2.2.2.1.2.1, y.1.2.2.2.2.2.2.1, y.2.2.2.2.1)) (fun _ => rfl)
theorem Zi0 (k : Nat) (b1_1 : Int) (b1_2 : Int) (o2 : List Int) (b3_0 : Int) (b3_1 : Int) (o4 : List (Int × Int)) (b5_0 : Int) (b5_1 : Int) (o6 : List (Int × Int)) (v4 : Int) : Z4l k b1_1 b1_2 o2 b3_0 b3_1 o4 b5_0 b5_1 o6 v4 = repl 2 (Z1z k b1_1 b1_2 o2 b3_0 b3_1 o4 b5_0 b5_1 o6 v4) := by
 first
 | (simp only [Z4l, Z1z, Zi, Zt, Zk, Zj, Zl, Z3, if_true]; done)
 | (simp only [Z4l, Z1z, Zi, Zt, Zk, Zj, Zl, Z3, if_true]; simp only [Z1K, Z1L, Z3L, Z3]; simp only [Z5k]; exact Z2N ⟨fun h => by simp only [h, and_self], fun h => by simp only [h, and_self]⟩)
noncomputable def Z3q : Nat → Int → Int → List Int → Int → Int → List (Int × Int) → Int → Int → List (Int × Int) → Int → Option (Int × Int × List Int × Int × Int × List (Int × Int) × Int × Int × List (Int × Int))
 | 0, _, _, _, _, _, _, _, _, _, _ => none
 | k + 1, b1_1, b1_2, o2, b3_0, b3_1, o4, b5_0, b5_1, o6, v4 =>
  Option.bind (Z0 k (o2, b1_1, b1_2) (2 : Int)) fun z1 => if decide (v4 < wrap64 ((10 : Int) + Prod.fst z1)) = true then Option.bind (Z1z k z1.2.1 z1.2.2 o2 b3_0 b3_1 o4 b5_0 b5_1 o6 v4) fun z5 => Z3q k z5.1 z5.2.1 z5.2.2.1 z5.2.2.2.1 z5.2.2.2.2.1 z5.2.2.2.2.2.1 z5.2.2.2.2.2.2.1 z5.2.2.2.2.2.2.2.1 z5.2.2.2.2.2.2.2.2.1 (wrap64 (Prod.snd z5.2.2.2.2.2.2.2.2 + (1 : Int))) else some (Prod.fst z1.2, Prod.snd z1.2, o2, b3_0, b3_1, o4, b5_0, b5_1, o6)
noncomputable def Z84 : Spec := Spec.mk [OSh.ro, OSh.box (58 : Nat) [Sh.sl (2 : Nat), Sh.int .i64, Sh.int .u64], OSh.fx (Ty.int .u8), OSh.box (26 : Nat) [Sh.int .i64, Sh.int .i64, Sh.sl (4 : Nat)], OSh.row true (71 : Nat) (Ty.pair (Ty.int .i64) (Ty.int .i64)), OSh.box (26 : Nat) [Sh.int .i64, Sh.int .i64, Sh.sl (6 : Nat)], OSh.row true (71 : Nat) (Ty.pair (Ty.int .i64) (Ty.int .i64))] [((0 : Nat), TSh.at (Sh.ptr (1 : Nat) (0 : Nat))), ((2 : Nat), TSh.at (Sh.ptr (3 : Nat) (0 : Nat))), ((3 : Nat), TSh.at (Sh.ptr (5 : Nat) (0 : Nat))), ((4 : Nat), TSh.at (Sh.int .i64))]
noncomputable def Zjr : Spec := Spec.mk [OSh.ro, OSh.box (58 : Nat) [Sh.sl (2 : Nat), Sh.int .i64, Sh.int .u64], OSh.fx (Ty.int .u8), OSh.box (26 : Nat) [Sh.int .i64, Sh.int .i64, Sh.sl (4 : Nat)], OSh.row true (71 : Nat) (Ty.pair (Ty.int .i64) (Ty.int .i64)), OSh.box (26 : Nat) [Sh.int .i64, Sh.int .i64, Sh.sl (6 : Nat)], OSh.row true (71 : Nat) (Ty.pair (Ty.int .i64) (Ty.int .i64))] [((2 : Nat), TSh.at (Sh.ptr (3 : Nat) (0 : Nat))), ((3 : Nat), TSh.at (Sh.ptr (5 : Nat) (0 : Nat)))]
noncomputable def Z1A : LoopDef (Tup ZN × OutD) := .plain Z84 Zjr (Int × Int × List Int × Int × Int × List (Int × Int) × Int × Int × List (Int × Int)) (fun k x => Z3q k x.1.2.1.2.1 x.1.2.1.2.2.1 x.1.2.2.1 x.1.2.2.2.1.1 x.1.2.2.2.1.2.1 x.1.2.2.2.2.1 x.1.2.2.2.2.2.1.1 x.1.2.2.2.2.2.1.2.1 x.1.2.2.2.2.2.2.1 x.2.2.2.2.1) (fun z => (((), ((), z.1, z.2.1, ()), z.2.2.1, (z.2.2.2.1, z.2.2.2.2.1, (), ()), z.2.2.2.2.2.1, (z.2.2.2.2.2.2.1, z.2.2.2.2.2.2.2.1, (), ()), z.2.2.2.2.2.2.2.2, ()), ((), (), ()))) (fun y => (y.1.2.1.2.1, y.1.2.1.2.2.1, y.1.2.2.1, y.1.2.2.2.1.1, y.1.2.2.2.1.2.1, y.1.2.2.2.2.1, y.1.2.2.2.2.2.1.1, y.1.2.2.2.2.2.1.2.1, y.1.2.2.2.2.2.2.1)) (fun _ => rfl)
noncomputable def Z1j : Nat → Int → Int → List Int → Int → Int → List (Int × Int) → Int → Int → List (Int × Int) → Int → Int → Int → Option (Int × Int × List Int × Int × Int × List (Int × Int) × Int × Int × List (Int × Int) × Int × Int) := fun k b1_1 b1_2 o2 b3_0 b3_1 o4 b5_0 b5_1 o6 v6 v40 v41 =>
    Option.bind (Za k (o2, b1_1, b1_2) [(6 : Int), (7 : Int), (3 : Int)]) fun z13 => if (0 : Int) ≤ v6 then if v6 < (↑(List.length o6) : Int) then some (Prod.fst z13.2, Prod.snd z13.2, o2, b3_0, b3_1, o4, b5_0, b5_1, List.set o6 (Int.toNat v6) (Prod.fst z13, (0 : Int)), v40, v41) else none else none
noncomputable def Z3Y : Nat → Int → Int → List Int → Int → Int → List (Int × Int) → Int → Int → List (Int × Int) → Int → Int → Int → Option (List (Int × Int × List Int × Int × Int × List (Int × Int) × Int × Int × List (Int × Int) × Int × Int)) := fun k b1_1 b1_2 o2 b3_0 b3_1 o4 b5_0 b5_1 o6 v6 v40 v41 =>
    joinL (Option.bind (Za k (o2, b1_1, b1_2) [(6 : Int), (7 : Int), (3 : Int)]) fun z14 => if (0 : Int) ≤ v6 then if v6 < (↑(List.length o6) : Int) then some [(Prod.fst z14.2, Prod.snd z14.2, o2, b3_0, b3_1, o4, b5_0, b5_1, List.set o6 (Int.toNat v6) (Prod.fst z14, (0 : Int)), v40, v41)] else none else none) (joinL (Option.bind (Za k (o2, b1_1, b1_2) [(6 : Int), (7 : Int), (3 : Int)]) fun z15 => if (0 : Int) ≤ v6 then if v6 < (↑(List.length o6) : Int) then some [(Prod.fst z15.2, Prod.snd z15.2, o2, b3_0, b3_1, o4, b5_0, b5_1, List.set o6 (Int.toNat v6) (Prod.fst z15, (0 : Int)), v40, v41)] else none else none) (Option.bind (Za k (o2, b1_1, b1_2) [(6 : Int), (7 : Int), (3 : Int)]) fun z16 => if (0 : Int) ≤ v6 then if v6 < (↑(List.length o6) : Int) then some [(Prod.fst z16.2, Prod.snd z16.2, o2, b3_0, b3_1, o4, b5_0, b5_1, List.set o6 (Int.toNat v6) (Prod.fst z16, (0 : Int)), v40, v41)] else none else none))
noncomputable def ZaS : Spec := Spec.mk [OSh.ro, OSh.box (58 : Nat) [Sh.sl (2 : Nat), Sh.int .i64, Sh.int .u64], OSh.fx (Ty.int .u8), OSh.box (26 : Nat) [Sh.int .i64, Sh.int .i64, Sh.sl (4 : Nat)], OSh.row true (71 : Nat) (Ty.pair (Ty.int .i64) (Ty.int .i64)), OSh.box (26 : Nat) [Sh.int .i64, Sh.int .i64, Sh.sl (6 : Nat)], OSh.row true (71 : Nat) (Ty.pair (Ty.int .i64) (Ty.int .i64))] [((0 : Nat), TSh.at (Sh.ptr (1 : Nat) (0 : Nat))), ((2 : Nat), TSh.at (Sh.ptr (3 : Nat) (0 : Nat))), ((5 : Nat), TSh.at (Sh.ptr (5 : Nat) (0 : Nat))), ((6 : Nat), TSh.at (Sh.int .i64)), ((40 : Nat), TSh.at (Sh.int .i64)), ((41 : Nat), TSh.at (Sh.int .i64))]
noncomputable def Zhk : Spec := Spec.mk [OSh.ro, OSh.box (58 : Nat) [Sh.sl (2 : Nat), Sh.int .i64, Sh.int .u64], OSh.fx (Ty.int .u8), OSh.box (26 : Nat) [Sh.int .i64, Sh.int .i64, Sh.sl (4 : Nat)], OSh.row true (71 : Nat) (Ty.pair (Ty.int .i64) (Ty.int .i64)), OSh.box (26 : Nat) [Sh.int .i64, Sh.int .i64, Sh.sl (6 : Nat)], OSh.row true (71 : Nat) (Ty.pair (Ty.int .i64) (Ty.int .i64))] [((0 : Nat), TSh.at (Sh.ptr (1 : Nat) (0 : Nat))), ((2 : Nat), TSh.at (Sh.ptr (3 : Nat) (0 : Nat))), ((5 : Nat), TSh.at (Sh.ptr (5 : Nat) (0 : Nat))), ((40 : Nat), TSh.at (Sh.int .i64)), ((41 : Nat), TSh.at (Sh.int .i64))]
noncomputable def Z17 : LoopDef (Tup ZN × OutD) := .plain ZaS Zhk (Int × Int × List Int × Int × Int × List (Int × Int) × Int × Int × List (Int × Int) × Int × Int) (fun k x => Z1j k x.1.2.1.2.1 x.1.2.1.2.2.1 x.1.2.2.1 x.1.2.2.2.1.1 x.1.2.2.2.1.2.1 x.1.2.2.2.2.1 x.1.2.2.2.2.2.1.1 x.1.2.2.2.2.2.1.2.1 x.1.2.2.2.2.2.2.1 x.2.2.2.2.1 x.2.2.2.2.2.1 x.2.2.2.2.2.2.1) (fun z => (((), ((), z.1, z.2.1, ()), z.2.2.1, (z.2.2.2.1, z.2.2.2.2.1, (), ()), z.2.2.2.2.2.1, (z.2.2.2.2.2.2.1, z.2.2.2.2.2.2.2.1, (), ()), z.2.2.2.2.2.2.2.2.1, ()), ((), (), (), z.2.2.2.2.2.2.2.2.2.1, z.2.2.2.2.2.2.2.2.2.2, ()))) (fun y => (y.1.2.1.2.1, y.1.2.1.2.2.1, y.1.2.2.1, y.1.2.2.2.1.1, y.1.2.2.2.1.2.1, y.1.2.2.2.2.1, y.1.2.2.2.2.2.1.1, y.1.2.2.2.2.2.1.2.1, y.1.2.2.2.2.2.2.1, y.2.2.2.2.1, y.2.2.2.2.2.1)) (fun _ => rfl)
theorem Zhs (k : Nat) (b1_1 : Int) (b1_2 : Int) (o2 : List Int) (b3_0 : Int) (b3_1 : Int) (o4 : List (Int × Int)) (b5_0 : Int) (b5_1 : Int) (o6 : List (Int × Int)) (v6 : Int) (v40 : Int) (v41 : Int) : Z3Y k b1_1 b1_2 o2 b3_0 b3_1 o4 b5_0 b5_1 o6 v6 v40 v41 = repl 3 (Z1j k b1_1 b1_2 o2 b3_0 b3_1 o4 b5_0 b5_1 o6 v6 v40 v41) := by
 first
 | (simp only [Z3Y, Z1j, Zi, Zt, Zk, Zj, Zl, Z3, if_true]; done)
 | (simp only [Z3Y, Z1j, Zi, Zt, Zk, Zj, Zl, Z3, if_true]; simp only [Z1K, Z1L, Z3L, Z3]; simp only [Z5k]; exact Z2N ⟨fun h => by simp only [h, and_self], fun h => by simp only [h, and_self]⟩)
noncomputable def ZO : Nat → Int → Int → List Int → Int → Int → List (Int × Int) → Int → Int → List (Int × Int) → Int → Int → Option (Int × Int × List Int × Int × Int × List (Int × Int) × Int × Int × List (Int × Int))
 | 0, _, _, _, _, _, _, _, _, _, _, _ => none
 | k + 1, b1_1, b1_2, o2, b3_0, b3_1, o4, b5_0, b5_1, o6, v40, v41 =>
  if decide (v41 < v40) = true then Option.bind (Zc k (o2, b1_1, b1_2) (4 : Int)) fun z12 => if Prod.fst z12 = true then Option.bind (Z1j k z12.2.1 z12.2.2 o2 b3_0 b3_1 o4 b5_0 b5_1 o6 v41 v40 v41) fun z17 => ZO k z17.1 z17.2.1 z17.2.2.1 z17.2.2.2.1 z17.2.2.2.2.1 z17.2.2.2.2.2.1 z17.2.2.2.2.2.2.1 z17.2.2.2.2.2.2.2.1 z17.2.2.2.2.2.2.2.2.1 z17.2.2.2.2.2.2.2.2.2.1 (wrap64 (Prod.snd z17.2.2.2.2.2.2.2.2.2 + (1 : Int))) else ZO k z12.2.1 z12.2.2 o2 b3_0 b3_1 o4 b5_0 b5_1 o6 v40 (wrap64 (v41 + (1 : Int))) else some (b1_1, b1_2, o2, b3_0, b3_1, o4, b5_0, b5_1, o6)
noncomputable def Z83 : Spec := Spec.mk [OSh.ro, OSh.box (58 : Nat) [Sh.sl (2 : Nat), Sh.int .i64, Sh.int .u64], OSh.fx (Ty.int .u8), OSh.box (26 : Nat) [Sh.int .i64, Sh.int .i64, Sh.sl (4 : Nat)], OSh.row true (71 : Nat) (Ty.pair (Ty.int .i64) (Ty.int .i64)), OSh.box (26 : Nat) [Sh.int .i64, Sh.int .i64, Sh.sl (6 : Nat)], OSh.row true (71 : Nat) (Ty.pair (Ty.int .i64) (Ty.int .i64))] [((0 : Nat), TSh.at (Sh.ptr (1 : Nat) (0 : Nat))), ((2 : Nat), TSh.at (Sh.ptr (3 : Nat) (0 : Nat))), ((5 : Nat), TSh.at (Sh.ptr (5 : Nat) (0 : Nat))), ((40 : Nat), TSh.at (Sh.int .i64)), ((41 : Nat), TSh.at (Sh.int .i64))]
noncomputable def Zjt : Spec := Spec.mk [OSh.ro, OSh.box (58 : Nat) [Sh.sl (2 : Nat), Sh.int .i64, Sh.int .u64], OSh.fx (Ty.int .u8), OSh.box (26 : Nat) [Sh.int .i64, Sh.int .i64, Sh.sl (4 : Nat)], OSh.row true (71 : Nat) (Ty.pair (Ty.int .i64) (Ty.int .i64)), OSh.box (26 : Nat) [Sh.int .i64, Sh.int .i64, Sh.sl (6 : Nat)], OSh.row true (71 : Nat) (Ty.pair (Ty.int .i64) (Ty.int .i64))] [((2 : Nat), TSh.at (Sh.ptr (3 : Nat) (0 : Nat))), ((5 : Nat), TSh.at (Sh.ptr (5 : Nat) (0 : Nat)))]
noncomputable def Z1C : LoopDef (Tup ZN × OutD) := .plain Z83 Zjt (Int × Int × List Int × Int × Int × List (Int × Int) × Int × Int × List (Int × Int)) (fun k x => ZO k x.1.2.1.2.1 x.1.2.1.2.2.1 x.1.2.2.1 x.1.2.2.2.1.1 x.1.2.2.2.1.2.1 x.1.2.2.2.2.1 x.1.2.2.2.2.2.1.1 x.1.2.2.2.2.2.1.2.1 x.1.2.2.2.2.2.2.1 x.2.2.2.2.1 x.2.2.2.2.2.1) (fun z => (((), ((), z.1, z.2.1, ()), z.2.2.1, (z.2.2.2.1, z.2.2.2.2.1, (), ()), z.2.2.2.2.2.1, (z.2.2.2.2.2.2.1, z.2.2.2.2.2.2.2.1, (), ()), z.2.2.2.2.2.2.2.2, ()), ((), (), ()))) (fun y => (y.1.2.1.2.1, y.1.2.1.2.2.1, y.1.2.2.1, y.1.2.2.2.1.1, y.1.2.2.2.1.2.1, y.1.2.2.2.2.1, y.1.2.2.2.2.2.1.1, y.1.2.2.2.2.2.1.2.1, y.1.2.2.2.2.2.2.1)) (fun _ => rfl)
noncomputable def Z4g : Nat → List Int × Int × Int → Option ((Int × Int × List (Int × Int)) × Int × Int)
 | 0, _ => none
 | k + 1, p0 =>
  Option.bind (Zc k (Prod.fst p0, Prod.fst p0.2, Prod.snd p0.2) (20 : Int)) fun z0 => if Prod.fst z0 = true then Option.bind (Z3q k z0.2.1 z0.2.2 p0.1 (0 : Int) (0 : Int) [] (3 : Int) (4 : Int) (List.replicate (Int.toNat (12 : Int)) ((0 : Int), (0 : Int))) (0 : Int)) fun z6 => some ((Prod.fst z6.2.2.2.2.2.2, Prod.fst z6.2.2.2.2.2.2.2, Prod.snd z6.2.2.2.2.2.2.2), Prod.fst z6, Prod.fst z6.2) else Option.bind (Zc k (Prod.fst p0, Prod.fst z0.2, Prod.snd z0.2) (12 : Int)) fun z7 => if Prod.fst z7 = true then Option.bind (Z6r k (Prod.fst p0, Prod.fst z7.2, Prod.snd z7.2)) fun z8 => some ((Prod.fst z8.1, Prod.fst z8.1.2, Prod.snd z8.1.2), Prod.fst z8.2, Prod.snd z8.2) else Option.bind (Z0 k (Prod.fst p0, Prod.fst z7.2, Prod.snd z7.2) (4 : Int)) fun z9 => Option.bind (Z0 k (Prod.fst p0, Prod.fst z9.2, Prod.snd z9.2) (3 : Int)) fun z10 => Option.bind (Z2f k (Prod.fst p0, Prod.fst z10.2, Prod.snd z10.2) (wrap64 ((1 : Int) + Prod.fst z9)) (wrap64 ((1 : Int) + Prod.fst z10))) fun z11 => Option.bind (ZO k z11.2.1 z11.2.2 p0.1 (0 : Int) (0 : Int) [] z11.1.1 z11.1.2.1 z11.1.2.2 (↑(List.length z11.1.2.2) : Int) (0 : Int)) fun z18 => some ((Prod.fst z18.2.2.2.2.2.2, Prod.fst z18.2.2.2.2.2.2.2, Prod.snd z18.2.2.2.2.2.2.2), Prod.fst z18, Prod.fst z18.2)
noncomputable def ZK : FnDef := .of ZdW ZN ((Int × Int × List (Int × Int)) × Int × Int) (fun k x => Z4g k x.1) Zdr Z8P Zij
noncomputable def Z1s : Code := Try.f37.body.getD .skip
noncomputable def Z2 : Ctx (Tup ZN × OutD) := { T := T, G := [(58, ZG.E), (57, Zd.E), (77, ZY.E), (78, ZU.E), (60, Zq.E)], mvs := [], no := 2, n := 56, res := resOf T ZdW ZN Try.f37.results.toList, loops := [(0, Z1A.E), (2, Z1C.E)], regs := [(6, Z1k.E), (15, Z17.E)], conds := [], cuts := [] }
theorem Z4f (k : Nat) : EnvOK Try.prog k Z2.G := (EnvOK.cons (Z5X k) (EnvOK.cons (ZH k) (EnvOK.cons (ZmL k) (EnvOK.cons (ZfZ k) (EnvOK.cons (Z3j k) (EnvOK.nil mixed))))))
noncomputable def Z7r : Array Oper := (findReg 6 Z1s).getD #[]
theorem Zip (k : Nat) (x : ZbA.D) : execD Z2.T Z2.G Z2.mvs k Z7r (Z1k.inp.st Z2.n x) (outK Z2 Z1k) = Z4l k x.1.2.1.2.1 x.1.2.1.2.2.1 x.1.2.2.1 x.1.2.2.2.1.1 x.1.2.2.2.1.2.1 x.1.2.2.2.2.1 x.1.2.2.2.2.2.1.1 x.1.2.2.2.2.2.1.2.1 x.1.2.2.2.2.2.2.1 x.2.2.2.2.1 := by kernel_rfl
theorem ZhO (k : Nat) : EOK Try.prog Z2 k Z1k.E (.region 6 Z7r true) := Z7N (D := Z1k) (m := 2) T_ok (Z4f k) (fun x => (Zip k x).trans (Zi0 k x.1.2.1.2.1 x.1.2.1.2.2.1 x.1.2.2.1 x.1.2.2.2.1.1 x.1.2.2.2.1.2.1 x.1.2.2.2.2.1 x.1.2.2.2.2.2.1.1 x.1.2.2.2.2.2.1.2.1 x.1.2.2.2.2.2.2.1 x.2.2.2.2.1))
noncomputable def Z6L : Array Oper := (findReg 15 Z1s).getD #[]
theorem Zhn (k : Nat) (x : ZaS.D) : execD Z2.T Z2.G Z2.mvs k Z6L (Z17.inp.st Z2.n x) (outK Z2 Z17) = Z3Y k x.1.2.1.2.1 x.1.2.1.2.2.1 x.1.2.2.1 x.1.2.2.2.1.1 x.1.2.2.2.1.2.1 x.1.2.2.2.2.1 x.1.2.2.2.2.2.1.1 x.1.2.2.2.2.2.1.2.1 x.1.2.2.2.2.2.2.1 x.2.2.2.2.1 x.2.2.2.2.2.1 x.2.2.2.2.2.2.1 := by kernel_rfl
theorem Zh4 (k : Nat) : EOK Try.prog Z2 k Z17.E (.region 15 Z6L true) := Z7N (D := Z17) (m := 3) T_ok (Z4f k) (fun x => (Zhn k x).trans (Zhs k x.1.2.1.2.1 x.1.2.1.2.2.1 x.1.2.2.1 x.1.2.2.2.1.1 x.1.2.2.2.1.2.1 x.1.2.2.2.2.1 x.1.2.2.2.2.2.1.1 x.1.2.2.2.2.2.1.2.1 x.1.2.2.2.2.2.2.1 x.2.2.2.2.1 x.2.2.2.2.2.1 x.2.2.2.2.2.2.1))
noncomputable def Z4S : Code := (findLoop 0 Z1s).getD .skip
theorem Zj7 (k : Nat) (x : Z84.D) : Z1A.lp (k + 1) x = loopK Z2 Z1A 0 Z4S k x := by kernel_rfl
theorem ZiX (k : Nat) : LOK Try.prog Z2 k Z4S := LOK.by [(Z1k.E, .region 6 Z7r true)] (by kernel_rfl) (AllOK.cons (ZhO k) AllOK.nil)
theorem Zjd (x : Z84.D) : Z1A.lp 0 x = none := by kernel_rfl
theorem Zi1 (k : Nat) : EOK Try.prog Z2 k Z1A.E (.block 0 (.loop Z4S)) := Z5 T_ok Z4f Zjd Zj7 ZiX k
noncomputable def Z4Q : Code := (findLoop 2 Z1s).getD .skip
theorem Zj8 (k : Nat) (x : Z83.D) : Z1C.lp (k + 1) x = loopK Z2 Z1C 2 Z4Q k x := by kernel_rfl
theorem Zjn (k : Nat) : LOK Try.prog Z2 k Z4Q := LOK.by [(Z17.E, .region 15 Z6L true)] (by kernel_rfl) (AllOK.cons (Zh4 k) AllOK.nil)
theorem Zj9 (x : Z83.D) : Z1C.lp 0 x = none := by kernel_rfl
theorem Zia (k : Nat) : EOK Try.prog Z2 k Z1C.E (.block 2 (.loop Z4Q)) := Z5 T_ok Z4f Zj9 Zj8 Zjn k
theorem Znr (k : Nat) (x : Tup ZK.ps) : ZK.f (k + 1) x = fnK ZK Z2 Z1s k x := by kernel_rfl
theorem Zn0 (x : Tup ZK.ps) : ZK.f 0 x = none := by kernel_rfl
theorem Zmu (k : Nat) : LOK Try.prog Z2 k Z1s := LOK.by [(Z1A.E, .block 0 (.loop Z4S)), (Z1C.E, .block 2 (.loop Z4Q))] (by kernel_rfl) (AllOK.cons (Zi1 k) (AllOK.cons (Zia k) AllOK.nil))
theorem ZdZ (k : Nat) : SoundAt Try.prog k 37 ZK.E := @Z1 Try.prog ZK Z2 37 Try.f37 Z1s (by kernel_rfl) (by kernel_rfl) (by kernel_rfl) Try.func37 (by kernel_rfl) (by kernel_rfl) (by kernel_rfl) T_ok Z4f Zmu Zn0 Znr k
end
end Go.Proofs.Ytglkedenkcpcbaa.Vs

set_option maxRecDepth 100000
set_option maxHeartbeats 2000000
set_option linter.unusedVariables false
set_option linter.unusedSimpArgs false
namespace Go.Proofs.Ytglkedenkcpcbaa.Vs
open Go.RowKit
noncomputable section
noncomputable def Z29 : List PK := [PK.mk (Ty.pair (Ty.int .i64) (Ty.pair (Ty.int .i64) (Ty.slice (71 : Nat) (Ty.pair (Ty.int .i64) (Ty.int .i64))))) true none false none, PK.mk (Ty.int .i64) false none false none]
noncomputable def Zdo : List PK := [PK.mk (Ty.slice (5 : Nat) (Ty.int .u8)) false none false none]
noncomputable def ZcJ (r : (Int × Int × List (Int × Int)) × Int) : Tup Z29 × OutD := ((r.1, r.2, ()), none)
noncomputable def Zcu : Tup Z29 × OutD → Option ((Int × Int × List (Int × Int)) × Int)
 | (a, none) => some (a.1, a.2.1)
 | _ => none
theorem Zhp : ∀ b r, Zcu b = some r → ZcJ r = b := by
 rintro ⟨a, o⟩ r h
 cases o with
 | none => injection h with h; subst h; rfl
 | some _ => cases h
noncomputable def Z1l : Nat → Int → Int → List (Int × Int) → List Int → Int → Int → Int → Int → List (Int × Int) → Option (Int × Int × List (Int × Int) × Int) := fun k b1_0 b1_1 o2 b3_0 b3_1 b3_2 b4_0 b4_1 o5 =>
    Option.bind (Z1S k (b3_0, b3_1, b3_2) (b4_0, b4_1, o5)) fun z1 => some (b4_0, b4_1, o5, Prod.fst z1)
noncomputable def Z3W : Nat → Int → Int → List (Int × Int) → List Int → Int → Int → Int → Int → List (Int × Int) → Option (List (Int × Int × List (Int × Int) × Int)) := fun k b1_0 b1_1 o2 b3_0 b3_1 b3_2 b4_0 b4_1 o5 =>
    joinL (Option.bind (Z1S k (b3_0, b3_1, b3_2) (b4_0, b4_1, o5)) fun z2 => some [(b4_0, b4_1, o5, Prod.fst z2)]) (Option.bind (Z1S k (b3_0, b3_1, b3_2) (b4_0, b4_1, o5)) fun z3 => some [(b4_0, b4_1, o5, Prod.fst z3)])
noncomputable def ZaR : Spec := Spec.mk [OSh.ro, OSh.box (26 : Nat) [Sh.int .i64, Sh.int .i64, Sh.sl (2 : Nat)], OSh.row true (71 : Nat) (Ty.pair (Ty.int .i64) (Ty.int .i64)), OSh.box (58 : Nat) [Sh.snap (0 : Nat) (Ty.int .u8), Sh.int .i64, Sh.int .u64], OSh.box (26 : Nat) [Sh.int .i64, Sh.int .i64, Sh.sl (5 : Nat)], OSh.row true (71 : Nat) (Ty.pair (Ty.int .i64) (Ty.int .i64))] [((2 : Nat), TSh.at (Sh.ptr (1 : Nat) (0 : Nat))), ((4 : Nat), TSh.at (Sh.ptr (3 : Nat) (0 : Nat))), ((5 : Nat), TSh.at (Sh.ptr (4 : Nat) (0 : Nat)))]
noncomputable def ZhW : Spec := Spec.mk [OSh.ro, OSh.box (26 : Nat) [Sh.int .i64, Sh.int .i64, Sh.sl (2 : Nat)], OSh.row true (71 : Nat) (Ty.pair (Ty.int .i64) (Ty.int .i64))] [((2 : Nat), TSh.at (Sh.ptr (1 : Nat) (0 : Nat))), ((3 : Nat), TSh.at (Sh.int .i64))]
noncomputable def Z18 : LoopDef (Tup Z29 × OutD) := .plain ZaR ZhW (Int × Int × List (Int × Int) × Int) (fun k x => Z1l k x.1.2.1.1 x.1.2.1.2.1 x.1.2.2.1 x.1.2.2.2.1.1 x.1.2.2.2.1.2.1 x.1.2.2.2.1.2.2.1 x.1.2.2.2.2.1.1 x.1.2.2.2.2.1.2.1 x.1.2.2.2.2.2.1) (fun z => (((), (z.1, z.2.1, (), ()), z.2.2.1, ()), ((), z.2.2.2, ()))) (fun y => (y.1.2.1.1, y.1.2.1.2.1, y.1.2.2.1, y.2.2.1)) (fun _ => rfl)
theorem ZhV (k : Nat) (b1_0 : Int) (b1_1 : Int) (o2 : List (Int × Int)) (b3_0 : List Int) (b3_1 : Int) (b3_2 : Int) (b4_0 : Int) (b4_1 : Int) (o5 : List (Int × Int)) : Z3W k b1_0 b1_1 o2 b3_0 b3_1 b3_2 b4_0 b4_1 o5 = repl 2 (Z1l k b1_0 b1_1 o2 b3_0 b3_1 b3_2 b4_0 b4_1 o5) := by
 first
 | (simp only [Z3W, Z1l, Zi, Zt, Zk, Zj, Zl, Z3, if_true]; done)
 | (simp only [Z3W, Z1l, Zi, Zt, Zk, Zj, Zl, Z3, if_true]; simp only [Z1K, Z1L, Z3L, Z3]; simp only [Z5k]; exact Z2N ⟨fun h => by simp only [h, and_self], fun h => by simp only [h, and_self]⟩)
noncomputable def Z5G : Nat → List Int → Option ((Int × Int × List (Int × Int)) × Int)
 | 0, _ => none
 | k + 1, p0 =>
  Option.bind (Z4g k (p0, (0 : Int), (0 : Int))) fun z0 => Option.bind (Z1l k (0 : Int) (0 : Int) [] p0 z0.2.1 z0.2.2 z0.1.1 z0.1.2.1 z0.1.2.2) fun z4 => some ((Prod.fst z4, Prod.fst z4.2, Prod.fst z4.2.2), Prod.snd z4.2.2)
noncomputable def ZS : FnDef := .of Zdo Z29 ((Int × Int × List (Int × Int)) × Int) (fun k x => Z5G k x.1) ZcJ Zcu Zhp
noncomputable def Z5F : Code := Try.f6.body.getD .skip
noncomputable def Zw : Ctx (Tup Z29 × OutD) := { T := T, G := [(37, ZK.E), (38, Z1b.E)], mvs := [], no := 0, n := 15, res := resOf T Zdo Z29 Try.f6.results.toList, loops := [], regs := [(3, Z18.E)], conds := [], cuts := [] }
theorem Zdl (k : Nat) : EnvOK Try.prog k Zw.G := (EnvOK.cons (ZdZ k) (EnvOK.cons (ZoI k) (EnvOK.nil mixed)))
noncomputable def Z6Q : Array Oper := (findReg 3 Z5F).getD #[]
theorem ZhK (k : Nat) (x : ZaR.D) : execD Zw.T Zw.G Zw.mvs k Z6Q (Z18.inp.st Zw.n x) (outK Zw Z18) = Z3W k x.1.2.1.1 x.1.2.1.2.1 x.1.2.2.1 x.1.2.2.2.1.1 x.1.2.2.2.1.2.1 x.1.2.2.2.1.2.2.1 x.1.2.2.2.2.1.1 x.1.2.2.2.2.1.2.1 x.1.2.2.2.2.2.1 := by kernel_rfl
theorem Zh2 (k : Nat) : EOK Try.prog Zw k Z18.E (.region 3 Z6Q true) := Z7N (D := Z18) (m := 2) T_ok (Zdl k) (fun x => (ZhK k x).trans (ZhV k x.1.2.1.1 x.1.2.1.2.1 x.1.2.2.1 x.1.2.2.2.1.1 x.1.2.2.2.1.2.1 x.1.2.2.2.1.2.2.1 x.1.2.2.2.2.1.1 x.1.2.2.2.2.1.2.1 x.1.2.2.2.2.2.1))
theorem Zl1 (k : Nat) (x : Tup ZS.ps) : ZS.f (k + 1) x = fnK ZS Zw Z5F k x := by kernel_rfl
theorem ZkM (x : Tup ZS.ps) : ZS.f 0 x = none := by kernel_rfl
theorem ZkE (k : Nat) : LOK Try.prog Zw k Z5F := LOK.by [(Z18.E, .region 3 Z6Q true)] (by kernel_rfl) (AllOK.cons (Zh2 k) AllOK.nil)
theorem Zl8 (k : Nat) : SoundAt Try.prog k 6 ZS.E := @Z1 Try.prog ZS Zw 6 Try.f6 Z5F (by kernel_rfl) (by kernel_rfl) (by kernel_rfl) Try.func6 (by kernel_rfl) (by kernel_rfl) (by kernel_rfl) T_ok Zdl ZkE ZkM Zl1 k
noncomputable def Z1v : List PK := [PK.mk (Ty.pair (Ty.int .i64) (Ty.pair (Ty.int .i64) (Ty.slice (71 : Nat) (Ty.pair (Ty.int .i64) (Ty.int .i64))))) true none false none, PK.mk (Ty.slice (3 : Nat) (Ty.int .i64)) false none false none]
noncomputable def ZdS : List PK := [PK.mk (Ty.slice (5 : Nat) (Ty.int .u8)) false none false none]
noncomputable def Zdi (r : (Int × Int × List (Int × Int)) × List Int) : Tup Z1v × OutD := ((r.1, r.2, ()), none)
noncomputable def Zdq : Tup Z1v × OutD → Option ((Int × Int × List (Int × Int)) × List Int)
 | (a, none) => some (a.1, a.2.1)
 | _ => none
theorem Zi6 : ∀ b r, Zdq b = some r → Zdi r = b := by
 rintro ⟨a, o⟩ r h
 cases o with
 | none => injection h with h; subst h; rfl
 | some _ => cases h
noncomputable def Z7q : Nat → Int → Int → List (Int × Int) → List Int → Int → Int → Int → Int → List (Int × Int) → List Int → Int → Bool → Option (Int × Int × List (Int × Int) × List Int × Int × Int × Int × Int × List (Int × Int) × List Int × Int) := fun k b1_0 b1_1 o2 b3_0 b3_1 b3_2 b4_0 b4_1 o5 o6 v7 v16 =>
    if v16 = true then Option.bind (Z0 k (b3_0, b3_1, b3_2) (2 : Int)) fun z3 => some (b1_0, b1_1, o2, b3_0, Prod.fst z3.2, Prod.snd z3.2, b4_0, b4_1, o5, o6, wrap64 ((20 : Int) + Prod.fst z3)) else some (b1_0, b1_1, o2, b3_0, b3_1, b3_2, b4_0, b4_1, o5, o6, v7)
noncomputable def Zhi : Spec := Spec.mk [OSh.ro, OSh.box (26 : Nat) [Sh.int .i64, Sh.int .i64, Sh.sl (2 : Nat)], OSh.row true (71 : Nat) (Ty.pair (Ty.int .i64) (Ty.int .i64)), OSh.box (58 : Nat) [Sh.snap (0 : Nat) (Ty.int .u8), Sh.int .i64, Sh.int .u64], OSh.box (26 : Nat) [Sh.int .i64, Sh.int .i64, Sh.sl (5 : Nat)], OSh.row true (71 : Nat) (Ty.pair (Ty.int .i64) (Ty.int .i64)), OSh.row true (3 : Nat) (Ty.int .i64)] [((2 : Nat), TSh.at (Sh.ptr (1 : Nat) (0 : Nat))), ((4 : Nat), TSh.at (Sh.ptr (3 : Nat) (0 : Nat))), ((5 : Nat), TSh.at (Sh.ptr (4 : Nat) (0 : Nat))), ((6 : Nat), TSh.at (Sh.sl (6 : Nat))), ((7 : Nat), TSh.at (Sh.int .i64)), ((16 : Nat), TSh.at Sh.bool)]
noncomputable def ZhG : Spec := Spec.mk [OSh.ro, OSh.box (26 : Nat) [Sh.int .i64, Sh.int .i64, Sh.sl (2 : Nat)], OSh.row true (71 : Nat) (Ty.pair (Ty.int .i64) (Ty.int .i64)), OSh.box (58 : Nat) [Sh.snap (0 : Nat) (Ty.int .u8), Sh.int .i64, Sh.int .u64], OSh.box (26 : Nat) [Sh.int .i64, Sh.int .i64, Sh.sl (5 : Nat)], OSh.row true (71 : Nat) (Ty.pair (Ty.int .i64) (Ty.int .i64)), OSh.row true (3 : Nat) (Ty.int .i64)] [((2 : Nat), TSh.at (Sh.ptr (1 : Nat) (0 : Nat))), ((4 : Nat), TSh.at (Sh.ptr (3 : Nat) (0 : Nat))), ((5 : Nat), TSh.at (Sh.ptr (4 : Nat) (0 : Nat))), ((6 : Nat), TSh.at (Sh.sl (6 : Nat))), ((7 : Nat), TSh.at (Sh.int .i64))]
noncomputable def Ze : LoopDef (Tup Z1v × OutD) := .plain Zhi ZhG (Int × Int × List (Int × Int) × List Int × Int × Int × Int × Int × List (Int × Int) × List Int × Int) (fun k x => Z7q k x.1.2.1.1 x.1.2.1.2.1 x.1.2.2.1 x.1.2.2.2.1.1 x.1.2.2.2.1.2.1 x.1.2.2.2.1.2.2.1 x.1.2.2.2.2.1.1 x.1.2.2.2.2.1.2.1 x.1.2.2.2.2.2.1 x.1.2.2.2.2.2.2.1 x.2.2.2.2.2.1 x.2.2.2.2.2.2.1) (fun z => (((), (z.1, z.2.1, (), ()), z.2.2.1, (z.2.2.2.1, z.2.2.2.2.1, z.2.2.2.2.2.1, ()), (z.2.2.2.2.2.2.1, z.2.2.2.2.2.2.2.1, (), ()), z.2.2.2.2.2.2.2.2.1, z.2.2.2.2.2.2.2.2.2.1, ()), ((), (), (), (), z.2.2.2.2.2.2.2.2.2.2, ()))) (fun y => (y.1.2.1.1, y.1.2.1.2.1, y.1.2.2.1, y.1.2.2.2.1.1, y.1.2.2.2.1.2.1, y.1.2.2.2.1.2.2.1, y.1.2.2.2.2.1.1, y.1.2.2.2.2.1.2.1, y.1.2.2.2.2.2.1, y.1.2.2.2.2.2.2.1, y.2.2.2.2.2.1)) (fun _ => rfl)
noncomputable def Z1U : Nat → Int → Int → List (Int × Int) → List Int → Int → Int → Int → Int → List (Int × Int) → List Int → Int → Option (Int × Int × List (Int × Int) × List Int × Int × Int × Int × Int × List (Int × Int) × List Int × Int)
 | 0, _, _, _, _, _, _, _, _, _, _, _ => none
 | k + 1, b1_0, b1_1, o2, b3_0, b3_1, b3_2, b4_0, b4_1, o5, o6, v7 =>
  if decide ((↑(List.length o6) : Int) < v7) = true then Option.bind (Z7G k (1 : Int) b4_1) fun z5 => Option.bind (Z0 k (b3_0, b3_1, b3_2) z5) fun z6 => if List.length o6 + List.length [Prod.fst z6] ≤ (140737488355328 / 8 : Nat) then Z1U k b1_0 b1_1 o2 b3_0 z6.2.1 z6.2.2 b4_0 b4_1 o5 (o6 ++ [Prod.fst z6]) v7 else none else some (b1_0, b1_1, o2, b3_0, b3_1, b3_2, b4_0, b4_1, o5, o6, v7)
noncomputable def Z82 : Spec := Spec.mk [OSh.ro, OSh.box (26 : Nat) [Sh.int .i64, Sh.int .i64, Sh.sl (2 : Nat)], OSh.row true (71 : Nat) (Ty.pair (Ty.int .i64) (Ty.int .i64)), OSh.box (58 : Nat) [Sh.snap (0 : Nat) (Ty.int .u8), Sh.int .i64, Sh.int .u64], OSh.box (26 : Nat) [Sh.int .i64, Sh.int .i64, Sh.sl (5 : Nat)], OSh.row true (71 : Nat) (Ty.pair (Ty.int .i64) (Ty.int .i64)), OSh.row true (3 : Nat) (Ty.int .i64)] [((2 : Nat), TSh.at (Sh.ptr (1 : Nat) (0 : Nat))), ((4 : Nat), TSh.at (Sh.ptr (3 : Nat) (0 : Nat))), ((5 : Nat), TSh.at (Sh.ptr (4 : Nat) (0 : Nat))), ((6 : Nat), TSh.at (Sh.sl (6 : Nat))), ((7 : Nat), TSh.at (Sh.int .i64))]
noncomputable def Zjk : Spec := Spec.mk [OSh.ro, OSh.box (26 : Nat) [Sh.int .i64, Sh.int .i64, Sh.sl (2 : Nat)], OSh.row true (71 : Nat) (Ty.pair (Ty.int .i64) (Ty.int .i64)), OSh.box (58 : Nat) [Sh.snap (0 : Nat) (Ty.int .u8), Sh.int .i64, Sh.int .u64], OSh.box (26 : Nat) [Sh.int .i64, Sh.int .i64, Sh.sl (5 : Nat)], OSh.row true (71 : Nat) (Ty.pair (Ty.int .i64) (Ty.int .i64)), OSh.row true (3 : Nat) (Ty.int .i64)] [((2 : Nat), TSh.at (Sh.ptr (1 : Nat) (0 : Nat))), ((4 : Nat), TSh.at (Sh.ptr (3 : Nat) (0 : Nat))), ((5 : Nat), TSh.at (Sh.ptr (4 : Nat) (0 : Nat))), ((6 : Nat), TSh.at (Sh.sl (6 : Nat))), ((7 : Nat), TSh.at (Sh.int .i64))]
noncomputable def Z1B : LoopDef (Tup Z1v × OutD) := .plain Z82 Zjk (Int × Int × List (Int × Int) × List Int × Int × Int × Int × Int × List (Int × Int) × List Int × Int) (fun k x => Z1U k x.1.2.1.1 x.1.2.1.2.1 x.1.2.2.1 x.1.2.2.2.1.1 x.1.2.2.2.1.2.1 x.1.2.2.2.1.2.2.1 x.1.2.2.2.2.1.1 x.1.2.2.2.2.1.2.1 x.1.2.2.2.2.2.1 x.1.2.2.2.2.2.2.1 x.2.2.2.2.2.1) (fun z => (((), (z.1, z.2.1, (), ()), z.2.2.1, (z.2.2.2.1, z.2.2.2.2.1, z.2.2.2.2.2.1, ()), (z.2.2.2.2.2.2.1, z.2.2.2.2.2.2.2.1, (), ()), z.2.2.2.2.2.2.2.2.1, z.2.2.2.2.2.2.2.2.2.1, ()), ((), (), (), (), z.2.2.2.2.2.2.2.2.2.2, ()))) (fun y => (y.1.2.1.1, y.1.2.1.2.1, y.1.2.2.1, y.1.2.2.2.1.1, y.1.2.2.2.1.2.1, y.1.2.2.2.1.2.2.1, y.1.2.2.2.2.1.1, y.1.2.2.2.2.1.2.1, y.1.2.2.2.2.2.1, y.1.2.2.2.2.2.2.1, y.2.2.2.2.2.1)) (fun _ => rfl)
noncomputable def Z6w : Nat → List Int → Option ((Int × Int × List (Int × Int)) × List Int)
 | 0, _ => none
 | k + 1, p0 =>
  Option.bind (Z4g k (p0, (0 : Int), (0 : Int))) fun z0 => Option.bind (Z0 k (p0, Prod.fst z0.2, Prod.snd z0.2) (6 : Int)) fun z1 => Option.bind (Zc k (p0, Prod.fst z1.2, Prod.snd z1.2) (20 : Int)) fun z2 => Option.bind (Z7q k (0 : Int) (0 : Int) [] p0 z2.2.1 z2.2.2 z0.1.1 z0.1.2.1 z0.1.2.2 [] z1.1 z2.1) fun z4 => Option.bind (Z1U k z4.1 z4.2.1 z4.2.2.1 z4.2.2.2.1 z4.2.2.2.2.1 z4.2.2.2.2.2.1 z4.2.2.2.2.2.2.1 z4.2.2.2.2.2.2.2.1 z4.2.2.2.2.2.2.2.2.1 z4.2.2.2.2.2.2.2.2.2.1 z4.2.2.2.2.2.2.2.2.2.2) fun z7 => if decide (Prod.snd z7.2.2.2.2.2.2.2.2.2 > (0 : Int)) = true then Option.bind (Zc k (Prod.fst z7.2.2.2, Prod.fst z7.2.2.2.2, Prod.fst z7.2.2.2.2.2) (24 : Int)) fun z8 => if Prod.fst z8 = true then Option.bind (Za k (Prod.fst z7.2.2.2, Prod.fst z8.2, Prod.snd z8.2) [(-1 : Int), Prod.fst z7.2.2.2.2.2.2.2]) fun z9 => if (0 : Int) < (↑(List.length z7.2.2.2.2.2.2.2.2.2.1) : Int) then Option.bind (Z4o k (Prod.fst z7.2.2.2.2.2.2, Prod.fst z7.2.2.2.2.2.2.2, Prod.fst z7.2.2.2.2.2.2.2.2) (List.set z7.2.2.2.2.2.2.2.2.2.1 (Int.toNat (0 : Int)) z9.1)) fun z10 => if z10 = true then Option.bind (Zc k (Prod.fst z7.2.2.2, Prod.fst z9.2, Prod.snd z9.2) (2 : Int)) fun z11 => if Prod.fst z11 = true then Option.bind (Z8u k (Prod.fst z7.2.2.2.2.2.2, Prod.fst z7.2.2.2.2.2.2.2, Prod.fst z7.2.2.2.2.2.2.2.2) (List.set z7.2.2.2.2.2.2.2.2.2.1 (Int.toNat (0 : Int)) z9.1)) fun z12 => some ((Prod.fst z12.2, Prod.fst z12.2.2, Prod.snd z12.2.2), List.set z7.2.2.2.2.2.2.2.2.2.1 (Int.toNat (0 : Int)) z9.1) else some ((Prod.fst z7.2.2.2.2.2.2, Prod.fst z7.2.2.2.2.2.2.2, Prod.fst z7.2.2.2.2.2.2.2.2), List.set z7.2.2.2.2.2.2.2.2.2.1 (Int.toNat (0 : Int)) z9.1) else some ((Prod.fst z7.2.2.2.2.2.2, Prod.fst z7.2.2.2.2.2.2.2, Prod.fst z7.2.2.2.2.2.2.2.2), List.set z7.2.2.2.2.2.2.2.2.2.1 (Int.toNat (0 : Int)) z9.1) else none else Option.bind (Z4o k (Prod.fst z7.2.2.2.2.2.2, Prod.fst z7.2.2.2.2.2.2.2, Prod.fst z7.2.2.2.2.2.2.2.2) z7.2.2.2.2.2.2.2.2.2.1) fun z13 => if z13 = true then Option.bind (Zc k (Prod.fst z7.2.2.2, Prod.fst z8.2, Prod.snd z8.2) (2 : Int)) fun z14 => if Prod.fst z14 = true then Option.bind (Z8u k (Prod.fst z7.2.2.2.2.2.2, Prod.fst z7.2.2.2.2.2.2.2, Prod.fst z7.2.2.2.2.2.2.2.2) z7.2.2.2.2.2.2.2.2.2.1) fun z15 => some ((Prod.fst z15.2, Prod.fst z15.2.2, Prod.snd z15.2.2), Prod.fst z7.2.2.2.2.2.2.2.2.2) else some ((Prod.fst z7.2.2.2.2.2.2, Prod.fst z7.2.2.2.2.2.2.2, Prod.fst z7.2.2.2.2.2.2.2.2), Prod.fst z7.2.2.2.2.2.2.2.2.2) else some ((Prod.fst z7.2.2.2.2.2.2, Prod.fst z7.2.2.2.2.2.2.2, Prod.fst z7.2.2.2.2.2.2.2.2), Prod.fst z7.2.2.2.2.2.2.2.2.2) else Option.bind (Z4o k (Prod.fst z7.2.2.2.2.2.2, Prod.fst z7.2.2.2.2.2.2.2, Prod.fst z7.2.2.2.2.2.2.2.2) z7.2.2.2.2.2.2.2.2.2.1) fun z16 => if z16 = true then Option.bind (Zc k (Prod.fst z7.2.2.2, Prod.fst z7.2.2.2.2, Prod.fst z7.2.2.2.2.2) (2 : Int)) fun z17 => if Prod.fst z17 = true then Option.bind (Z8u k (Prod.fst z7.2.2.2.2.2.2, Prod.fst z7.2.2.2.2.2.2.2, Prod.fst z7.2.2.2.2.2.2.2.2) z7.2.2.2.2.2.2.2.2.2.1) fun z18 => some ((Prod.fst z18.2, Prod.fst z18.2.2, Prod.snd z18.2.2), Prod.fst z7.2.2.2.2.2.2.2.2.2) else some ((Prod.fst z7.2.2.2.2.2.2, Prod.fst z7.2.2.2.2.2.2.2, Prod.fst z7.2.2.2.2.2.2.2.2), Prod.fst z7.2.2.2.2.2.2.2.2.2) else some ((Prod.fst z7.2.2.2.2.2.2, Prod.fst z7.2.2.2.2.2.2.2, Prod.fst z7.2.2.2.2.2.2.2.2), Prod.fst z7.2.2.2.2.2.2.2.2.2)
noncomputable def ZW : FnDef := .of ZdS Z1v ((Int × Int × List (Int × Int)) × List Int) (fun k x => Z6w k x.1) Zdi Zdq Zi6
noncomputable def Z2E : Code := Try.f22.body.getD .skip
noncomputable def Zh : Ctx (Tup Z1v × OutD) := { T := T, G := [(37, ZK.E), (57, Zd.E), (58, ZG.E), (59, Z4m.E), (60, Zq.E), (61, Z3i.E), (62, Z6R.E)], mvs := [], no := 0, n := 60, res := resOf T ZdS Z1v Try.f22.results.toList, loops := [(0, Z1B.E)], regs := [], conds := [(16, Ze.E)], cuts := [] }
theorem Z9L (k : Nat) : EnvOK Try.prog k Zh.G := (EnvOK.cons (ZdZ k) (EnvOK.cons (ZH k) (EnvOK.cons (Z5X k) (EnvOK.cons (Zqb k) (EnvOK.cons (Z3j k) (EnvOK.cons (ZxU k) (EnvOK.cons (ZCJ k) (EnvOK.nil mixed))))))))
noncomputable def Z3R : Code := ((findCond 16 Z2E).map (·.1)).getD .skip
noncomputable def Z3V : Code := ((findCond 16 Z2E).map (·.2)).getD .skip
theorem ZhB (k : Nat) (i : Ze.inp.D) : Ze.lp k i = branch (Ze.inp.st Zh.n i) (.tmp 16) (fun st => exec Zh k Z3R st (outK Zh Ze) (fun _ _ => none) Ze.mkB) (fun st => exec Zh k Z3V st (outK Zh Ze) (fun _ _ => none) Ze.mkB) := by kernel_rfl
theorem Zh3 (k : Nat) : EOK Try.prog Zh k Ze.E (.cond (.tmp 16) Z3R Z3V) := ZFt (D := Ze) T_ok (Z9L k) (ZhB k) (@LOK.by _ _ _ _ Z3R [] (by kernel_rfl) AllOK.nil) (@LOK.by _ _ _ _ Z3V [] (by kernel_rfl) AllOK.nil)
noncomputable def Z4R : Code := (findLoop 0 Z2E).getD .skip
theorem Zje (k : Nat) (x : Z82.D) : Z1B.lp (k + 1) x = loopK Zh Z1B 0 Z4R k x := by kernel_rfl
theorem Zjg (k : Nat) : LOK Try.prog Zh k Z4R := LOK.by [] (by kernel_rfl) AllOK.nil
theorem ZiZ (x : Z82.D) : Z1B.lp 0 x = none := by kernel_rfl
theorem Zil (k : Nat) : EOK Try.prog Zh k Z1B.E (.block 0 (.loop Z4R)) := Z5 T_ok Z9L ZiZ Zje Zjg k
theorem Znj (k : Nat) (x : Tup ZW.ps) : ZW.f (k + 1) x = fnK ZW Zh Z2E k x := by kernel_rfl
theorem ZmI (x : Tup ZW.ps) : ZW.f 0 x = none := by kernel_rfl
theorem Zm0 (k : Nat) : LOK Try.prog Zh k Z2E := LOK.by [(Ze.E, .cond (.tmp 16) Z3R Z3V), (Z1B.E, .block 0 (.loop Z4R))] (by kernel_rfl) (AllOK.cons (Zh3 k) (AllOK.cons (Zil k) AllOK.nil))
theorem Zmt (k : Nat) : SoundAt Try.prog k 22 ZW.E := @Z1 Try.prog ZW Zh 22 Try.f22 Z2E (by kernel_rfl) (by kernel_rfl) (by kernel_rfl) Try.func22 (by kernel_rfl) (by kernel_rfl) (by kernel_rfl) T_ok Z9L Zm0 ZmI Znj k
end
end Go.Proofs.Ytglkedenkcpcbaa.Vs
