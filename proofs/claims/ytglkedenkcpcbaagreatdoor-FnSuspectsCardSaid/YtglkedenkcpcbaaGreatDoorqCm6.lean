/- The proof, part 7. -/
import Derived.Test.YtglkedenkcpcbaaGreatDoorqCm5
set_option maxRecDepth 100000
set_option maxHeartbeats 2000000
set_option linter.unusedVariables false
set_option linter.unusedSimpArgs false
namespace Go.Proofs.YtglkedenkcpcbaaGreatDoor.Vs
open Go.RowKit
noncomputable section
noncomputable def Z4S : List PK := [PK.mk (Ty.int .i64) false none false none]
noncomputable def ZeU : List PK := [PK.mk (Ty.pair (Ty.slice (5 : Nat) (Ty.int .u8)) (Ty.pair (Ty.int .i64) (Ty.int .u64))) false none false (some (82 : Nat)), PK.mk (Ty.pair (Ty.int .i64) (Ty.pair (Ty.int .i64) (Ty.slice (122 : Nat) (Ty.pair (Ty.int .i64) (Ty.int .i64))))) true none false none]
noncomputable def ZdK (r : Int × Int × Int) : Tup Z4S × OutD := ((r.1, ()), some ⟨Ty.pair (Ty.slice (5 : Nat) (Ty.int .u8)) (Ty.pair (Ty.int .i64) (Ty.int .u64)), [([], r.2)]⟩)
noncomputable def Z9T : Tup Z4S × OutD → Option (Int × Int × Int)
 | (a, some ⟨u, ys⟩) => if h : u = Ty.pair (Ty.slice (5 : Nat) (Ty.int .u8)) (Ty.pair (Ty.int .i64) (Ty.int .u64)) then (match castU h ys with
  | [([], y)] => some (a.1, y)
  | _ => none) else none
 | _ => none
theorem Zj8 : ∀ b r, Z9T b = some r → ZdK r = b := by
 rintro ⟨a, o⟩ r h
 cases o with
 | none => cases h
 | some s =>
  obtain ⟨u, ys⟩ := s
  simp only [Z9T] at h
  split at h
  ·rename_i hu
   subst hu
   match ys, h with
   | [], h => cases (show (none : Option _) = some r from h)
   | [([], y)], h => injection (show some _ = some r from h) with h; subst h; rfl
   | [(_ :: _, y)], h => cases (show (none : Option _) = some r from h)
   | (h1, _) :: _ :: _, h => cases h1 <;> cases (show (none : Option _) = some r from h)
  ·cases h
noncomputable def Z2D : Nat → List Int × Int × Int → Int × Int × List (Int × Int) → Option (Int × Int × Int)
 | 0, _, _ => none
 | k + 1, p0, p1 =>
  Option.bind (ZbL k (1 : Int) p1.2.1) fun z0 => Option.bind (Z8 k (Prod.fst p0, Prod.fst p0.2, Prod.snd p0.2) (16 : Int)) fun z1 => Option.bind (Z8 k (Prod.fst p0, Prod.fst z1.2, Prod.snd z1.2) (wrap64 (z0 + wrap64 (Int.tdiv z1.1 (15 : Int))))) fun z2 => Option.bind (Z8 k (Prod.fst p0, Prod.fst z2.2, Prod.snd z2.2) (24 : Int)) fun z3 => some (wrap64 (Prod.fst z2 - wrap64 (Int.tdiv z3.1 (23 : Int))), Prod.fst z3.2, Prod.snd z3.2)
noncomputable def Z1M : FnDef := .of ZeU Z4S (Int × Int × Int) (fun k x => Z2D k x.1 x.2.1) ZdK Z9T Zj8
noncomputable def ZaN : Code := Tryz.f58.body.getD .skip
noncomputable def Z7s : Ctx (Tup Z4S × OutD) := { T := T, G := [(98, Z5Q.E), (73, ZD.E)], mvs := [], no := 2, n := 18, res := resOf T ZeU Z4S Tryz.f58.results.toList, loops := [], regs := [], conds := [], cuts := [] }
theorem ZoM (k : Nat) : EnvOK Tryz.prog k Z7s.G := (EnvOK.cons (ZAX k) (EnvOK.cons (Z2s k) (EnvOK.nil mixed)))
theorem ZnO (k : Nat) (x : Tup Z1M.ps) : Z1M.f (k + 1) x = fnK Z1M Z7s ZaN k x := by kernel_rfl
theorem Znk (x : Tup Z1M.ps) : Z1M.f 0 x = none := by kernel_rfl
theorem Znu (k : Nat) : LOK Tryz.prog Z7s k ZaN := LOK.by [] (by kernel_rfl) AllOK.nil
theorem Zog (k : Nat) : SoundAt Tryz.prog k 58 Z1M.E := @Zk Tryz.prog Z1M Z7s 58 Tryz.f58 ZaN (by kernel_rfl) (by kernel_rfl) (by kernel_rfl) Tryz.func58 (by kernel_rfl) (by kernel_rfl) (by kernel_rfl) T_ok ZoM Znu Znk ZnO k
noncomputable def Z4f : List PK := [PK.mk (Ty.slice (42 : Nat) (Ty.pair (Ty.int .i64) (Ty.pair (Ty.int .i64) (Ty.int .i64)))) false none false none]
noncomputable def ZiE : List PK := [PK.mk (Ty.pair (Ty.int .i64) (Ty.pair (Ty.int .i64) (Ty.slice (122 : Nat) (Ty.pair (Ty.int .i64) (Ty.int .i64))))) true none false none]
noncomputable def Zhw (r : List (Int × Int × Int)) : Tup Z4f × OutD := ((r, ()), none)
noncomputable def Zhr : Tup Z4f × OutD → Option (List (Int × Int × Int))
 | (a, none) => some (a.1)
 | _ => none
theorem ZnE : ∀ b r, Zhr b = some r → Zhw r = b := by
 rintro ⟨a, o⟩ r h
 cases o with
 | none => injection h with h; subst h; rfl
 | some _ => cases h
noncomputable def Z1K : Nat → Int → Int → List (Int × Int) → List (Int × Int × Int) → Int → Int → Int → Int → List (Int × Int) → Int → Int → Option (Int × Int × List (Int × Int) × List (Int × Int × Int) × List (Int × Int) × Int × Int)
 | 0, _, _, _, _, _, _, _, _, _, _, _ => none
 | k + 1, b1_0, b1_1, b1_2, o2, b3_0, b3_1, v4, v6, v8, v9, v10 =>
  if decide (v6 ≤ (3 : Int)) = true then Option.bind (ZbF k (b3_0, b3_1) v6) fun z0 => if z0 = true then if b1_1 = (0 : Int) then none else if b1_1 = (0 : Int) then none else if List.length o2 + List.length [(v6, wrap64 (Int.tdiv v4 b1_1), Int.tmod v4 b1_1)] ≤ (140737488355328 / 24 : Nat) then Z1K k b1_0 b1_1 b1_2 (o2 ++ [(v6, wrap64 (Int.tdiv v4 b1_1), Int.tmod v4 b1_1)]) b3_0 b3_1 v4 (wrap64 (v6 + (1 : Int))) v8 v9 v10 else none else Z1K k b1_0 b1_1 b1_2 o2 b3_0 b3_1 v4 (wrap64 (v6 + (1 : Int))) v8 v9 v10 else some (b1_0, b1_1, b1_2, o2, v8, v9, v10)
noncomputable def Zbl : Spec := Spec.mk [OSh.ro, OSh.box (26 : Nat) [Sh.int .i64, Sh.int .i64, Sh.snap (0 : Nat) (Ty.pair (Ty.int .i64) (Ty.int .i64))], OSh.row true (42 : Nat) (Ty.pair (Ty.int .i64) (Ty.pair (Ty.int .i64) (Ty.int .i64))), OSh.box (122 : Nat) [Sh.int .i64, Sh.int .i64]] [((1 : Nat), TSh.at (Sh.ptr (1 : Nat) (0 : Nat))), ((3 : Nat), TSh.at (Sh.sl (2 : Nat))), ((4 : Nat), TSh.at (Sh.int .i64)), ((5 : Nat), TSh.at (Sh.ptr (3 : Nat) (0 : Nat))), ((6 : Nat), TSh.at (Sh.int .i64)), ((8 : Nat), TSh.at (Sh.snap (0 : Nat) (Ty.pair (Ty.int .i64) (Ty.int .i64)))), ((9 : Nat), TSh.at (Sh.int .i64)), ((10 : Nat), TSh.at (Sh.int .i64))]
noncomputable def ZpD : Spec := Spec.mk [OSh.ro, OSh.box (26 : Nat) [Sh.int .i64, Sh.int .i64, Sh.snap (0 : Nat) (Ty.pair (Ty.int .i64) (Ty.int .i64))], OSh.row true (42 : Nat) (Ty.pair (Ty.int .i64) (Ty.pair (Ty.int .i64) (Ty.int .i64)))] [((1 : Nat), TSh.at (Sh.ptr (1 : Nat) (0 : Nat))), ((3 : Nat), TSh.at (Sh.sl (2 : Nat))), ((8 : Nat), TSh.at (Sh.snap (0 : Nat) (Ty.pair (Ty.int .i64) (Ty.int .i64)))), ((9 : Nat), TSh.at (Sh.int .i64)), ((10 : Nat), TSh.at (Sh.int .i64))]
noncomputable def Z3L : LoopDef (Tup Z4f × OutD) := .plain Zbl ZpD (Int × Int × List (Int × Int) × List (Int × Int × Int) × List (Int × Int) × Int × Int) (fun k x => Z1K k x.1.2.1.1 x.1.2.1.2.1 x.1.2.1.2.2.1 x.1.2.2.1 x.1.2.2.2.1.1 x.1.2.2.2.1.2.1 x.2.2.2.1 x.2.2.2.2.2.1 x.2.2.2.2.2.2.1 x.2.2.2.2.2.2.2.1 x.2.2.2.2.2.2.2.2.1) (fun z => (((), (z.1, z.2.1, z.2.2.1, ()), z.2.2.2.1, ()), ((), (), z.2.2.2.2.1, z.2.2.2.2.2.1, z.2.2.2.2.2.2, ()))) (fun y => (y.1.2.1.1, y.1.2.1.2.1, y.1.2.1.2.2.1, y.1.2.2.1, y.2.2.2.1, y.2.2.2.2.1, y.2.2.2.2.2.1)) (fun _ => rfl)
noncomputable def Z3o : Nat → Int → Int → List (Int × Int) → List (Int × Int × Int) → List (Int × Int) → Int → Int → Option (List (Int × Int × Int))
 | 0, _, _, _, _, _, _, _ => none
 | k + 1, b1_0, b1_1, b1_2, o2, v8, v9, v10 =>
  if decide (v10 < v9) = true then if (0 : Int) ≤ v10 then if v10 < (↑(List.length v8) : Int) then Option.bind (Z1K k b1_0 b1_1 b1_2 o2 (Prod.fst (List.getD v8 (Int.toNat v10) ((0 : Int), (0 : Int)))) (Prod.snd (List.getD v8 (Int.toNat v10) ((0 : Int), (0 : Int)))) v10 (1 : Int) v8 v9 v10) fun z1 => Z3o k z1.1 z1.2.1 z1.2.2.1 z1.2.2.2.1 z1.2.2.2.2.1 z1.2.2.2.2.2.1 (wrap64 (Prod.snd z1.2.2.2.2.2 + (1 : Int))) else none else none else some o2
noncomputable def Zb4 : Spec := Spec.mk [OSh.ro, OSh.box (26 : Nat) [Sh.int .i64, Sh.int .i64, Sh.snap (0 : Nat) (Ty.pair (Ty.int .i64) (Ty.int .i64))], OSh.row true (42 : Nat) (Ty.pair (Ty.int .i64) (Ty.pair (Ty.int .i64) (Ty.int .i64)))] [((1 : Nat), TSh.at (Sh.ptr (1 : Nat) (0 : Nat))), ((3 : Nat), TSh.at (Sh.sl (2 : Nat))), ((8 : Nat), TSh.at (Sh.snap (0 : Nat) (Ty.pair (Ty.int .i64) (Ty.int .i64)))), ((9 : Nat), TSh.at (Sh.int .i64)), ((10 : Nat), TSh.at (Sh.int .i64))]
noncomputable def ZpO : Spec := Spec.mk [OSh.ro, OSh.row true (42 : Nat) (Ty.pair (Ty.int .i64) (Ty.pair (Ty.int .i64) (Ty.int .i64)))] [((3 : Nat), TSh.at (Sh.sl (1 : Nat)))]
noncomputable def Z3K : LoopDef (Tup Z4f × OutD) := .plain Zb4 ZpO (List (Int × Int × Int)) (fun k x => Z3o k x.1.2.1.1 x.1.2.1.2.1 x.1.2.1.2.2.1 x.1.2.2.1 x.2.2.2.1 x.2.2.2.2.1 x.2.2.2.2.2.1) (fun z => (((), z, ()), ((), ()))) (fun y => (y.1.2.1)) (fun _ => rfl)
noncomputable def Z7I : Nat → Int × Int × List (Int × Int) → Option (List (Int × Int × Int))
 | 0, _ => none
 | k + 1, p0 =>
  Option.bind (Z3o k p0.1 p0.2.1 p0.2.2 [] p0.2.2 (↑(List.length p0.2.2) : Int) (0 : Int)) fun z2 => some z2
noncomputable def Z2o : FnDef := .of ZiE Z4f (List (Int × Int × Int)) (fun k x => Z7I k x.1) Zhw Zhr ZnE
noncomputable def Z7O : Code := Tryz.f67.body.getD .skip
noncomputable def Z1S : Ctx (Tup Z4f × OutD) := { T := T, G := [(103, Z4M.E)], mvs := [], no := 0, n := 37, res := resOf T ZiE Z4f Tryz.f67.results.toList, loops := [(2, Z3L.E), (0, Z3K.E)], regs := [], conds := [], cuts := [] }
theorem Zdq (k : Nat) : EnvOK Tryz.prog k Z1S.G := (EnvOK.cons (Zqe k) (EnvOK.nil mixed))
noncomputable def Z7U : Code := (findLoop 2 Z7O).getD .skip
theorem ZpS (k : Nat) (x : Zbl.D) : Z3L.lp (k + 1) x = loopK Z1S Z3L 2 Z7U k x := by kernel_rfl
theorem ZpL (k : Nat) : LOK Tryz.prog Z1S k Z7U := LOK.by [] (by kernel_rfl) AllOK.nil
theorem ZpU (x : Zbl.D) : Z3L.lp 0 x = none := by kernel_rfl
theorem Zny (k : Nat) : EOK Tryz.prog Z1S k Z3L.E (.block 2 (.loop Z7U)) := Zr T_ok Zdq ZpU ZpS ZpL k
noncomputable def Z7V : Code := (findLoop 0 Z7O).getD .skip
theorem ZoT (k : Nat) (x : Zb4.D) : Z3K.lp (k + 1) x = loopK Z1S Z3K 0 Z7V k x := by kernel_rfl
theorem Zpf (k : Nat) : LOK Tryz.prog Z1S k Z7V := LOK.by [(Z3L.E, .block 2 (.loop Z7U))] (by kernel_rfl) (AllOK.cons (Zny k) AllOK.nil)
theorem Zp1 (x : Zb4.D) : Z3K.lp 0 x = none := by kernel_rfl
theorem Znh (k : Nat) : EOK Tryz.prog Z1S k Z3K.E (.block 0 (.loop Z7V)) := Zr T_ok Zdq Zp1 ZoT Zpf k
theorem ZuS (k : Nat) (x : Tup Z2o.ps) : Z2o.f (k + 1) x = fnK Z2o Z1S Z7O k x := by kernel_rfl
theorem Zuz (x : Tup Z2o.ps) : Z2o.f 0 x = none := by kernel_rfl
theorem Zvu (k : Nat) : LOK Tryz.prog Z1S k Z7O := LOK.by [(Z3K.E, .block 0 (.loop Z7V))] (by kernel_rfl) (AllOK.cons (Znh k) AllOK.nil)
theorem Zik (k : Nat) : SoundAt Tryz.prog k 67 Z2o.E := @Zk Tryz.prog Z2o Z1S 67 Tryz.f67 Z7O (by kernel_rfl) (by kernel_rfl) (by kernel_rfl) Tryz.func67 (by kernel_rfl) (by kernel_rfl) (by kernel_rfl) T_ok Zdq Zvu Zuz ZuS k
noncomputable def Z9e : List PK := [PK.mk Ty.bool false none false none]
noncomputable def ZqA : List PK := [PK.mk (Ty.pair (Ty.int .i64) (Ty.pair (Ty.int .i64) (Ty.slice (122 : Nat) (Ty.pair (Ty.int .i64) (Ty.int .i64))))) true none false none, PK.mk (Ty.slice (42 : Nat) (Ty.pair (Ty.int .i64) (Ty.pair (Ty.int .i64) (Ty.int .i64)))) false none false none]
noncomputable def ZgP (r : Bool) : Tup Z9e × OutD := ((r, ()), none)
noncomputable def ZgF : Tup Z9e × OutD → Option (Bool)
 | (a, none) => some (a.1)
 | _ => none
theorem Zia : ∀ b r, ZgF b = some r → ZgP r = b := by
 rintro ⟨a, o⟩ r h
 cases o with
 | none => injection h with h; subst h; rfl
 | some _ => cases h
noncomputable def Z7o : Nat → Int → Int → List (Int × Int) → List (Int × Int × Int) → Int → List (Int × Int × Int) → Int → Int → Option (LR (List (Int × Int × Int)) Bool)
 | 0, _, _, _, _, _, _, _, _ => none
 | k + 1, b1_0, b1_1, b1_2, v1, v5, v8, v9, v10 =>
  if decide (v10 < v9) = true then if (0 : Int) ≤ v10 then if v10 < (↑(List.length v8) : Int) then Option.bind (Z2L k (Prod.fst (Prod.snd (List.getD v8 (Int.toNat v10) ((0 : Int), (0 : Int), (0 : Int))))) (0 : Int) (wrap64 (b1_0 - (1 : Int)))) fun z0 => if (!z0) = true then some (LR.ret false) else Option.bind (Z2L k (Prod.snd (Prod.snd (List.getD v8 (Int.toNat v10) ((0 : Int), (0 : Int), (0 : Int))))) (0 : Int) (wrap64 (b1_1 - (1 : Int)))) fun z1 => if (!z1) = true then some (LR.ret false) else Option.bind (Z9S k (b1_0, b1_1, b1_2) (Prod.fst (Prod.snd (List.getD v8 (Int.toNat v10) ((0 : Int), (0 : Int), (0 : Int))))) (Prod.snd (Prod.snd (List.getD v8 (Int.toNat v10) ((0 : Int), (0 : Int), (0 : Int)))))) fun z2 => Option.bind (ZbF k (Prod.fst z2, Prod.snd z2) (Prod.fst (List.getD v8 (Int.toNat v10) ((0 : Int), (0 : Int), (0 : Int))))) fun z3 => if (!z3) = true then some (LR.ret false) else if decide (wrap64 (wrap64 (Prod.fst (Prod.snd (List.getD v8 (Int.toNat v10) ((0 : Int), (0 : Int), (0 : Int)))) * b1_1) + Prod.snd (Prod.snd (List.getD v8 (Int.toNat v10) ((0 : Int), (0 : Int), (0 : Int))))) ≤ v5) = true then some (LR.ret false) else Z7o k b1_0 b1_1 b1_2 v1 (wrap64 (wrap64 (Prod.fst (Prod.snd (List.getD v8 (Int.toNat v10) ((0 : Int), (0 : Int), (0 : Int)))) * b1_1) + Prod.snd (Prod.snd (List.getD v8 (Int.toNat v10) ((0 : Int), (0 : Int), (0 : Int)))))) v8 v9 (wrap64 (v10 + (1 : Int))) else none else none else some (LR.go v1)
noncomputable def Zem : Spec := Spec.mk [OSh.ro, OSh.box (26 : Nat) [Sh.int .i64, Sh.int .i64, Sh.snap (0 : Nat) (Ty.pair (Ty.int .i64) (Ty.int .i64))]] [((1 : Nat), TSh.at (Sh.snap (0 : Nat) (Ty.pair (Ty.int .i64) (Ty.pair (Ty.int .i64) (Ty.int .i64))))), ((2 : Nat), TSh.at (Sh.ptr (1 : Nat) (0 : Nat))), ((5 : Nat), TSh.at (Sh.int .i64)), ((8 : Nat), TSh.at (Sh.snap (0 : Nat) (Ty.pair (Ty.int .i64) (Ty.pair (Ty.int .i64) (Ty.int .i64))))), ((9 : Nat), TSh.at (Sh.int .i64)), ((10 : Nat), TSh.at (Sh.int .i64))]
noncomputable def ZwU : Spec := Spec.mk [OSh.ro] [((1 : Nat), TSh.at (Sh.snap (0 : Nat) (Ty.pair (Ty.int .i64) (Ty.pair (Ty.int .i64) (Ty.int .i64)))))]
noncomputable def Z6m : LoopDef (Tup Z9e × OutD) := .rets Zem ZwU (List (Int × Int × Int)) (Bool) (fun k x => Z7o k x.1.2.1.1 x.1.2.1.2.1 x.1.2.1.2.2.1 x.2.1 x.2.2.2.1 x.2.2.2.2.1 x.2.2.2.2.2.1 x.2.2.2.2.2.2.1) (fun z => (((), ()), (z, ()))) (fun y => (y.2.1)) (fun _ => rfl) ZgP ZgF Zia
noncomputable def Ze0 : Nat → Int × Int × List (Int × Int) → List (Int × Int × Int) → Option Bool
 | 0, _, _ => none
 | k + 1, p0, p1 =>
  Option.bind (Z7o k p0.1 p0.2.1 p0.2.2 p1 (-1 : Int) p1 (↑(List.length p1) : Int) (0 : Int)) fun z4 => LR.on z4 (fun y4 => some (decide ((↑(List.length y4) : Int) ≤ (4 : Int)))) fun r4 => some r4
noncomputable def Z5O : FnDef := .of ZqA Z9e (Bool) (fun k x => Ze0 k x.1 x.2.1) ZgP ZgF Zia
noncomputable def ZdX : Code := Tryz.f70.body.getD .skip
noncomputable def Z7C : Ctx (Tup Z9e × OutD) := { T := T, G := [(59, Z2K.E), (105, Z6z.E), (103, Z4M.E)], mvs := [], no := 0, n := 66, res := resOf T ZqA Z9e Tryz.f70.results.toList, loops := [(0, Z6m.E)], regs := [], conds := [], cuts := [] }
theorem Zqn (k : Nat) : EnvOK Tryz.prog k Z7C.G := (EnvOK.cons (Za5 k) (EnvOK.cons (ZvD k) (EnvOK.cons (Zqe k) (EnvOK.nil mixed))))
noncomputable def Zbq : Code := (findLoop 0 ZdX).getD .skip
theorem Zx0 (k : Nat) (x : Zem.D) : Z6m.lp (k + 1) x = loopK Z7C Z6m 0 Zbq k x := by kernel_rfl
theorem ZwJ (k : Nat) : LOK Tryz.prog Z7C k Zbq := LOK.by [] (by kernel_rfl) AllOK.nil
theorem ZwL (x : Zem.D) : Z6m.lp 0 x = none := by kernel_rfl
theorem Zui (k : Nat) : EOK Tryz.prog Z7C k Z6m.E (.block 0 (.loop Zbq)) := Zr T_ok Zqn ZwL Zx0 ZwJ k
theorem ZAv (k : Nat) (x : Tup Z5O.ps) : Z5O.f (k + 1) x = fnK Z5O Z7C ZdX k x := by kernel_rfl
theorem ZBf (x : Tup Z5O.ps) : Z5O.f 0 x = none := by kernel_rfl
theorem ZAx (k : Nat) : LOK Tryz.prog Z7C k ZdX := LOK.by [(Z6m.E, .block 0 (.loop Zbq))] (by kernel_rfl) (AllOK.cons (Zui k) AllOK.nil)
theorem ZAQ (k : Nat) : SoundAt Tryz.prog k 70 Z5O.E := @Zk Tryz.prog Z5O Z7C 70 Tryz.f70 ZdX (by kernel_rfl) (by kernel_rfl) (by kernel_rfl) Tryz.func70 (by kernel_rfl) (by kernel_rfl) (by kernel_rfl) T_ok Zqn ZAx ZBf ZAv k
noncomputable def Z6W : List PK := [PK.mk (Ty.int .i64) false none false none]
noncomputable def Zhv : List PK := [PK.mk (Ty.pair (Ty.slice (5 : Nat) (Ty.int .u8)) (Ty.pair (Ty.int .i64) (Ty.int .u64))) false none false (some (82 : Nat)), PK.mk (Ty.slice (3 : Nat) (Ty.int .i64)) false none false none]
noncomputable def Zge (r : Int × Int × Int) : Tup Z6W × OutD := ((r.1, ()), some ⟨Ty.pair (Ty.slice (5 : Nat) (Ty.int .u8)) (Ty.pair (Ty.int .i64) (Ty.int .u64)), [([], r.2)]⟩)
noncomputable def Zc6 : Tup Z6W × OutD → Option (Int × Int × Int)
 | (a, some ⟨u, ys⟩) => if h : u = Ty.pair (Ty.slice (5 : Nat) (Ty.int .u8)) (Ty.pair (Ty.int .i64) (Ty.int .u64)) then (match castU h ys with
  | [([], y)] => some (a.1, y)
  | _ => none) else none
 | _ => none
theorem ZmT : ∀ b r, Zc6 b = some r → Zge r = b := by
 rintro ⟨a, o⟩ r h
 cases o with
 | none => cases h
 | some s =>
  obtain ⟨u, ys⟩ := s
  simp only [Zc6] at h
  split at h
  ·rename_i hu
   subst hu
   match ys, h with
   | [], h => cases (show (none : Option _) = some r from h)
   | [([], y)], h => injection (show some _ = some r from h) with h; subst h; rfl
   | [(_ :: _, y)], h => cases (show (none : Option _) = some r from h)
   | (h1, _) :: _ :: _, h => cases h1 <;> cases (show (none : Option _) = some r from h)
  ·cases h
noncomputable def ZG : Nat → List Int × Int × Int → List Int → Option (Int × Int × Int)
 | 0, _, _ => none
 | k + 1, p0, p1 =>
  Option.bind (Z8 k (Prod.fst p0, Prod.fst p0.2, Prod.snd p0.2) (↑(List.length p1) : Int)) fun z0 => if (0 : Int) ≤ Prod.fst z0 then if Prod.fst z0 < (↑(List.length p1) : Int) then some (List.getD p1 (Int.toNat z0.1) (0 : Int), Prod.fst z0.2, Prod.snd z0.2) else none else none
noncomputable def Z14 : FnDef := .of Zhv Z6W (Int × Int × Int) (fun k x => ZG k x.1 x.2.1) Zge Zc6 ZmT
noncomputable def ZcG : Code := Tryz.f72.body.getD .skip
noncomputable def Z9G : Ctx (Tup Z6W × OutD) := { T := T, G := [(73, ZD.E)], mvs := [], no := 2, n := 12, res := resOf T Zhv Z6W Tryz.f72.results.toList, loops := [], regs := [], conds := [], cuts := [] }
theorem Ztq (k : Nat) : EnvOK Tryz.prog k Z9G.G := (EnvOK.cons (Z2s k) (EnvOK.nil mixed))
theorem ZtA (k : Nat) (x : Tup Z14.ps) : Z14.f (k + 1) x = fnK Z14 Z9G ZcG k x := by kernel_rfl
theorem ZsD (x : Tup Z14.ps) : Z14.f 0 x = none := by kernel_rfl
theorem ZtL (k : Nat) : LOK Tryz.prog Z9G k ZcG := LOK.by [] (by kernel_rfl) AllOK.nil
theorem Z70 (k : Nat) : SoundAt Tryz.prog k 72 Z14.E := @Zk Tryz.prog Z14 Z9G 72 Tryz.f72 ZcG (by kernel_rfl) (by kernel_rfl) (by kernel_rfl) Tryz.func72 (by kernel_rfl) (by kernel_rfl) (by kernel_rfl) T_ok Ztq ZtL ZsD ZtA k
noncomputable def ZaC : List PK := [PK.mk Ty.bool false none false none]
noncomputable def Zoq : List PK := [PK.mk (Ty.pair (Ty.int .i64) (Ty.pair (Ty.int .i64) (Ty.slice (122 : Nat) (Ty.pair (Ty.int .i64) (Ty.int .i64))))) true none false none]
noncomputable def Zm1 (r : Bool) : Tup ZaC × OutD := ((r, ()), none)
noncomputable def ZlC : Tup ZaC × OutD → Option (Bool)
 | (a, none) => some (a.1)
 | _ => none
theorem Zst : ∀ b r, ZlC b = some r → Zm1 r = b := by
 rintro ⟨a, o⟩ r h
 cases o with
 | none => injection h with h; subst h; rfl
 | some _ => cases h
noncomputable def Zd7 : Nat → Int × Int × List (Int × Int) → Option Bool
 | 0, _ => none
 | k + 1, p0 =>
  if decide (Prod.fst p0 ≥ (1 : Int)) = true then if decide (Prod.fst p0 ≤ (10 : Int)) = true then if decide (Prod.fst p0.2 ≥ (1 : Int)) = true then if decide (Prod.fst p0.2 ≤ (9 : Int)) = true then if decide ((↑(List.length p0.2.2) : Int) = wrap64 (Prod.fst p0 * Prod.fst p0.2)) = true then Option.bind (Zae k p0.2.2) fun z0 => some z0 else some false else some false else some false else some false else some false
noncomputable def Z4P : FnDef := .of Zoq ZaC (Bool) (fun k x => Zd7 k x.1) Zm1 ZlC Zst
noncomputable def ZgE : Code := Tryz.f83.body.getD .skip
noncomputable def Zdg : Ctx (Tup ZaC × OutD) := { T := T, G := [(109, Z39.E)], mvs := [], no := 0, n := 37, res := resOf T Zoq ZaC Tryz.f83.results.toList, loops := [], regs := [], conds := [], cuts := [] }
theorem ZA7 (k : Nat) : EnvOK Tryz.prog k Zdg.G := (EnvOK.cons (Zuo k) (EnvOK.nil mixed))
theorem ZA0 (k : Nat) (x : Tup Z4P.ps) : Z4P.f (k + 1) x = fnK Z4P Zdg ZgE k x := by kernel_rfl
theorem Zzw (x : Tup Z4P.ps) : Z4P.f 0 x = none := by kernel_rfl
theorem ZAa (k : Nat) : LOK Tryz.prog Zdg k ZgE := LOK.by [] (by kernel_rfl) AllOK.nil
theorem Zzv (k : Nat) : SoundAt Tryz.prog k 83 Z4P.E := @Zk Tryz.prog Z4P Zdg 83 Tryz.f83 ZgE (by kernel_rfl) (by kernel_rfl) (by kernel_rfl) Tryz.func83 (by kernel_rfl) (by kernel_rfl) (by kernel_rfl) T_ok ZA7 ZAa Zzw ZA0 k
noncomputable def Z9f : List PK := [PK.mk Ty.bool false none false none]
noncomputable def ZqW : List PK := [PK.mk (Ty.pair (Ty.int .i64) (Ty.pair (Ty.int .i64) (Ty.slice (122 : Nat) (Ty.pair (Ty.int .i64) (Ty.int .i64))))) true none false none]
noncomputable def ZgO (r : Bool) : Tup Z9f × OutD := ((r, ()), none)
noncomputable def ZgY : Tup Z9f × OutD → Option (Bool)
 | (a, none) => some (a.1)
 | _ => none
theorem ZiM : ∀ b r, ZgY b = some r → ZgO r = b := by
 rintro ⟨a, o⟩ r h
 cases o with
 | none => injection h with h; subst h; rfl
 | some _ => cases h
noncomputable def Z7k : Nat → List (Int × Int) → Int → Int → Option (LR Unit Bool)
 | 0, _, _, _ => none
 | k + 1, v27, v28, v29 =>
  if decide (v29 < v28) = true then if (0 : Int) ≤ v29 then if v29 < (↑(List.length v27) : Int) then Option.bind (Ze2 k (Prod.fst (List.getD v27 (Int.toNat v29) ((0 : Int), (0 : Int))), Prod.snd (List.getD v27 (Int.toNat v29) ((0 : Int), (0 : Int))))) fun z2 => if (!z2) = true then some (LR.ret false) else Z7k k v27 v28 (wrap64 (v29 + (1 : Int))) else none else none else some (LR.go ())
noncomputable def Zer : Spec := Spec.mk [OSh.ro] [((27 : Nat), TSh.at (Sh.snap (0 : Nat) (Ty.pair (Ty.int .i64) (Ty.int .i64)))), ((28 : Nat), TSh.at (Sh.int .i64)), ((29 : Nat), TSh.at (Sh.int .i64))]
noncomputable def ZwX : Spec := Spec.mk [OSh.ro] []
noncomputable def Z6g : LoopDef (Tup Z9f × OutD) := .rets Zer ZwX (Unit) (Bool) (fun k x => Z7k k x.2.1 x.2.2.1 x.2.2.2.1) (fun z => (((), ()), (()))) (fun y => ()) (fun _ => rfl) ZgO ZgY ZiM
noncomputable def ZbD : Nat → Int × Int × List (Int × Int) → Option Bool
 | 0, _ => none
 | k + 1, p0 =>
  Option.bind (Z2L k p0.1 (1 : Int) (10 : Int)) fun z0 => if (!z0) = true then some false else Option.bind (Z2L k p0.2.1 (1 : Int) (9 : Int)) fun z1 => if (!z1) = true then some false else if decide ((↑(List.length p0.2.2) : Int) ≠ wrap64 (Prod.fst p0 * Prod.fst p0.2)) = true then some false else Option.bind (Z7k k p0.2.2 (↑(List.length p0.2.2) : Int) (0 : Int)) fun z3 => LR.on z3 (fun y3 => some true) fun r3 => some r3
noncomputable def Z4L : FnDef := .of ZqW Z9f (Bool) (fun k x => ZbD k x.1) ZgO ZgY ZiM
noncomputable def Zeb : Code := Tryz.f84.body.getD .skip
noncomputable def Z7E : Ctx (Tup Z9f × OutD) := { T := T, G := [(59, Z2K.E), (110, Z5V.E)], mvs := [], no := 0, n := 37, res := resOf T ZqW Z9f Tryz.f84.results.toList, loops := [(0, Z6g.E)], regs := [], conds := [], cuts := [] }
theorem Zqt (k : Nat) : EnvOK Tryz.prog k Z7E.G := (EnvOK.cons (Za5 k) (EnvOK.cons (ZAT k) (EnvOK.nil mixed)))
noncomputable def Zbk : Code := (findLoop 0 Zeb).getD .skip
theorem Zxb (k : Nat) (x : Zer.D) : Z6g.lp (k + 1) x = loopK Z7E Z6g 0 Zbk k x := by kernel_rfl
theorem ZwW (k : Nat) : LOK Tryz.prog Z7E k Zbk := LOK.by [] (by kernel_rfl) AllOK.nil
theorem Zxc (x : Zer.D) : Z6g.lp 0 x = none := by kernel_rfl
theorem Zv2 (k : Nat) : EOK Tryz.prog Z7E k Z6g.E (.block 0 (.loop Zbk)) := Zr T_ok Zqt Zxc Zxb ZwW k
theorem ZBc (k : Nat) (x : Tup Z4L.ps) : Z4L.f (k + 1) x = fnK Z4L Z7E Zeb k x := by kernel_rfl
theorem ZBD (x : Tup Z4L.ps) : Z4L.f 0 x = none := by kernel_rfl
theorem ZAM (k : Nat) : LOK Tryz.prog Z7E k Zeb := LOK.by [(Z6g.E, .block 0 (.loop Zbk))] (by kernel_rfl) (AllOK.cons (Zv2 k) AllOK.nil)
theorem ZqI (k : Nat) : SoundAt Tryz.prog k 84 Z4L.E := @Zk Tryz.prog Z4L Z7E 84 Tryz.f84 Zeb (by kernel_rfl) (by kernel_rfl) (by kernel_rfl) Tryz.func84 (by kernel_rfl) (by kernel_rfl) (by kernel_rfl) T_ok Zqt ZAM ZBD ZBc k
noncomputable def Z43 : List PK := [PK.mk Ty.str false none false none]
noncomputable def Zdn : List PK := [PK.mk (Ty.int .i64) false none false none]
noncomputable def ZcL (r : ByteArray) : Tup Z43 × OutD := ((r, ()), none)
noncomputable def Zcz : Tup Z43 × OutD → Option (ByteArray)
 | (a, none) => some (a.1)
 | _ => none
theorem Zhl : ∀ b r, Zcz b = some r → ZcL r = b := by
 rintro ⟨a, o⟩ r h
 cases o with
 | none => injection h with h; subst h; rfl
 | some _ => cases h
noncomputable def Zdm : Nat → Int → Option ByteArray
 | 0, _ => none
 | k + 1, p0 =>
  Option.bind (Z6p k p0 (10 : Int)) fun z0 => some z0
noncomputable def Z1t : FnDef := .of Zdn Z43 (ByteArray) (fun k x => Zdm k x.1) ZcL Zcz Zhl
noncomputable def Z9c : Code := Tryz.f94.body.getD .skip
noncomputable def Z60 : Ctx (Tup Z43 × OutD) := { T := T, G := [(120, ZS.E)], mvs := [], no := 0, n := 5, res := resOf T Zdn Z43 Tryz.f94.results.toList, loops := [], regs := [], conds := [], cuts := [] }
theorem Zlk (k : Nat) : EnvOK Tryz.prog k Z60.G := (EnvOK.cons (ZgX k) (EnvOK.nil mixed))
theorem Zld (k : Nat) (x : Tup Z1t.ps) : Z1t.f (k + 1) x = fnK Z1t Z60 Z9c k x := by kernel_rfl
theorem Zlt (x : Tup Z1t.ps) : Z1t.f 0 x = none := by kernel_rfl
theorem Zl6 (k : Nat) : LOK Tryz.prog Z60 k Z9c := LOK.by [] (by kernel_rfl) AllOK.nil
theorem Zlv (k : Nat) : SoundAt Tryz.prog k 94 Z1t.E := @Zk Tryz.prog Z1t Z60 94 Tryz.f94 Z9c (by kernel_rfl) (by kernel_rfl) (by kernel_rfl) Tryz.func94 (by kernel_rfl) (by kernel_rfl) (by kernel_rfl) T_ok Zlk Zl6 Zlt Zld k
noncomputable def Z8v : List PK := [PK.mk Ty.bool false none false none]
noncomputable def Zk6 : List PK := [PK.mk (Ty.pair (Ty.slice (5 : Nat) (Ty.int .u8)) (Ty.pair (Ty.int .i64) (Ty.int .u64))) false none false (some (82 : Nat)), PK.mk (Ty.int .i64) false none false none]
noncomputable def Zic (r : Bool × Int × Int) : Tup Z8v × OutD := ((r.1, ()), some ⟨Ty.pair (Ty.slice (5 : Nat) (Ty.int .u8)) (Ty.pair (Ty.int .i64) (Ty.int .u64)), [([], r.2)]⟩)
noncomputable def Zdr : Tup Z8v × OutD → Option (Bool × Int × Int)
 | (a, some ⟨u, ys⟩) => if h : u = Ty.pair (Ty.slice (5 : Nat) (Ty.int .u8)) (Ty.pair (Ty.int .i64) (Ty.int .u64)) then (match castU h ys with
  | [([], y)] => some (a.1, y)
  | _ => none) else none
 | _ => none
theorem ZoY : ∀ b r, Zdr b = some r → Zic r = b := by
 rintro ⟨a, o⟩ r h
 cases o with
 | none => cases h
 | some s =>
  obtain ⟨u, ys⟩ := s
  simp only [Zdr] at h
  split at h
  ·rename_i hu
   subst hu
   match ys, h with
   | [], h => cases (show (none : Option _) = some r from h)
   | [([], y)], h => injection (show some _ = some r from h) with h; subst h; rfl
   | [(_ :: _, y)], h => cases (show (none : Option _) = some r from h)
   | (h1, _) :: _ :: _, h => cases h1 <;> cases (show (none : Option _) = some r from h)
  ·cases h
noncomputable def Z1F : Nat → List Int × Int × Int → Int → Option (Bool × Int × Int)
 | 0, _, _ => none
 | k + 1, p0, p1 =>
  Option.bind (Z8 k (Prod.fst p0, Prod.fst p0.2, Prod.snd p0.2) p1) fun z0 => some (decide (Prod.fst z0 = (0 : Int)), Prod.fst z0.2, Prod.snd z0.2)
noncomputable def Z28 : FnDef := .of Zk6 Z8v (Bool × Int × Int) (fun k x => Z1F k x.1 x.2.1) Zic Zdr ZoY
noncomputable def ZeF : Code := Tryz.f97.body.getD .skip
noncomputable def Zbv : Ctx (Tup Z8v × OutD) := { T := T, G := [(73, ZD.E)], mvs := [], no := 2, n := 9, res := resOf T Zk6 Z8v Tryz.f97.results.toList, loops := [], regs := [], conds := [], cuts := [] }
theorem ZwS (k : Nat) : EnvOK Tryz.prog k Zbv.G := (EnvOK.cons (Z2s k) (EnvOK.nil mixed))
theorem Zw3 (k : Nat) (x : Tup Z28.ps) : Z28.f (k + 1) x = fnK Z28 Zbv ZeF k x := by kernel_rfl
theorem Zwy (x : Tup Z28.ps) : Z28.f 0 x = none := by kernel_rfl
theorem Zwp (k : Nat) : LOK Tryz.prog Zbv k ZeF := LOK.by [] (by kernel_rfl) AllOK.nil
theorem Zes (k : Nat) : SoundAt Tryz.prog k 97 Z28.E := @Zk Tryz.prog Z28 Zbv 97 Tryz.f97 ZeF (by kernel_rfl) (by kernel_rfl) (by kernel_rfl) Tryz.func97 (by kernel_rfl) (by kernel_rfl) (by kernel_rfl) T_ok ZwS Zwp Zwy Zw3 k
noncomputable def Zau : List PK := [PK.mk Ty.bool false none false none]
noncomputable def ZnX : List PK := [PK.mk (Ty.pair (Ty.int .i64) (Ty.int .i64)) true none false none, PK.mk (Ty.int .i64) false none false none]
noncomputable def Zlw (r : Bool) : Tup Zau × OutD := ((r, ()), none)
noncomputable def Zm3 : Tup Zau × OutD → Option (Bool)
 | (a, none) => some (a.1)
 | _ => none
theorem ZsV : ∀ b r, Zm3 b = some r → Zlw r = b := by
 rintro ⟨a, o⟩ r h
 cases o with
 | none => injection h with h; subst h; rfl
 | some _ => cases h
noncomputable def Zdh : Nat → Int × Int → Int → Option Bool
 | 0, _, _ => none
 | k + 1, p0, p1 =>
  if decide (p1 = (1 : Int)) = true then Option.bind (Z2S k (Prod.fst p0, Prod.snd p0)) fun z0 => some z0 else if decide (p1 = (2 : Int)) = true then some true else if decide (p1 = (3 : Int)) = true then Option.bind (Z2S k (Prod.fst p0, Prod.snd p0)) fun z1 => if z1 = true then some true else if decide (Prod.fst p0 = (1 : Int)) = true then some true else some (decide (Prod.fst p0 = (2 : Int))) else some false
noncomputable def Z57 : FnDef := .of ZnX Zau (Bool) (fun k x => Zdh k x.1 x.2.1) Zlw Zm3 ZsV
noncomputable def ZgC : Code := Tryz.f101.body.getD .skip
noncomputable def Zd5 : Ctx (Tup Zau × OutD) := { T := T, G := [(126, Z2U.E)], mvs := [], no := 0, n := 26, res := resOf T ZnX Zau Tryz.f101.results.toList, loops := [], regs := [], conds := [], cuts := [] }
theorem ZzB (k : Nat) : EnvOK Tryz.prog k Zd5.G := (EnvOK.cons (Zk5 k) (EnvOK.nil mixed))
theorem Zzq (k : Nat) (x : Tup Z57.ps) : Z57.f (k + 1) x = fnK Z57 Zd5 ZgC k x := by kernel_rfl
theorem Zzx (x : Tup Z57.ps) : Z57.f 0 x = none := by kernel_rfl
theorem Zzs (k : Nat) : LOK Tryz.prog Zd5 k ZgC := LOK.by [] (by kernel_rfl) AllOK.nil
theorem ZzQ (k : Nat) : SoundAt Tryz.prog k 101 Z57.E := @Zk Tryz.prog Z57 Zd5 101 Tryz.f101 ZgC (by kernel_rfl) (by kernel_rfl) (by kernel_rfl) Tryz.func101 (by kernel_rfl) (by kernel_rfl) (by kernel_rfl) T_ok ZzB Zzs Zzx Zzq k
noncomputable def Z3I : List PK := [PK.mk (Ty.pair (Ty.int .i64) (Ty.pair (Ty.int .i64) (Ty.int .i64))) true none false none, PK.mk (Ty.pair (Ty.int .i64) (Ty.pair (Ty.int .i64) (Ty.slice (122 : Nat) (Ty.pair (Ty.int .i64) (Ty.int .i64))))) true none false none]
noncomputable def ZvC : List PK := [PK.mk (Ty.pair (Ty.int .i64) (Ty.pair (Ty.int .i64) (Ty.slice (122 : Nat) (Ty.pair (Ty.int .i64) (Ty.int .i64))))) true none false none, PK.mk (Ty.slice (3 : Nat) (Ty.int .i64)) false none false none, PK.mk (Ty.slice (42 : Nat) (Ty.pair (Ty.int .i64) (Ty.pair (Ty.int .i64) (Ty.int .i64)))) false none false none, PK.mk (Ty.int .i64) false none false none]
noncomputable def ZkH (r : (Int × Int × Int) × Int × Int × List (Int × Int)) : Tup Z3I × OutD := ((r.1, r.2, ()), none)
noncomputable def Zkw : Tup Z3I × OutD → Option ((Int × Int × Int) × Int × Int × List (Int × Int))
 | (a, none) => some (a.1, a.2.1)
 | _ => none
theorem Zm5 : ∀ b r, Zkw b = some r → ZkH r = b := by
 rintro ⟨a, o⟩ r h
 cases o with
 | none => injection h with h; subst h; rfl
 | some _ => cases h
noncomputable def Z8e : Nat → Int → Int → Int → Int → Int → List (Int × Int) → Int → Int → List (Int × Int) → Int → Int → Option (Int × Int × Int × Int × Int × List (Int × Int)) := fun k b1_0 b1_1 b1_2 b2_0 b2_1 o3 b4_0 b4_1 o5 v3 v12 =>
    some ((3 : Int), v12, v3, b4_0, b4_1, o5)
noncomputable def Zci : Nat → Int → Int → Int → Int → Int → List (Int × Int) → Int → Int → List (Int × Int) → Int → Int → Option (List (Int × Int × Int × Int × Int × List (Int × Int))) := fun k b1_0 b1_1 b1_2 b2_0 b2_1 o3 b4_0 b4_1 o5 v3 v12 =>
    joinL (some [((3 : Int), v12, v3, b4_0, b4_1, o5)]) (some [((3 : Int), v12, v3, b4_0, b4_1, o5)])
noncomputable def Zm4 : Spec := Spec.mk [OSh.ro, OSh.box (67 : Nat) [Sh.int .i64, Sh.int .i64, Sh.int .i64], OSh.box (26 : Nat) [Sh.int .i64, Sh.int .i64, Sh.sl (3 : Nat)], OSh.row true (122 : Nat) (Ty.pair (Ty.int .i64) (Ty.int .i64)), OSh.box (26 : Nat) [Sh.int .i64, Sh.int .i64, Sh.sl (5 : Nat)], OSh.row true (122 : Nat) (Ty.pair (Ty.int .i64) (Ty.int .i64))] [((3 : Nat), TSh.at (Sh.int .i64)), ((8 : Nat), TSh.at (Sh.ptr (1 : Nat) (0 : Nat))), ((9 : Nat), TSh.at (Sh.ptr (2 : Nat) (0 : Nat))), ((10 : Nat), TSh.at (Sh.ptr (4 : Nat) (0 : Nat))), ((12 : Nat), TSh.at (Sh.int .i64))]
noncomputable def ZyE : Spec := Spec.mk [OSh.ro, OSh.box (67 : Nat) [Sh.int .i64, Sh.int .i64, Sh.int .i64], OSh.box (26 : Nat) [Sh.int .i64, Sh.int .i64, Sh.sl (3 : Nat)], OSh.row true (122 : Nat) (Ty.pair (Ty.int .i64) (Ty.int .i64))] [((8 : Nat), TSh.at (Sh.ptr (1 : Nat) (0 : Nat))), ((9 : Nat), TSh.at (Sh.ptr (2 : Nat) (0 : Nat)))]
noncomputable def Z7j : LoopDef (Tup Z3I × OutD) := .plain Zm4 ZyE (Int × Int × Int × Int × Int × List (Int × Int)) (fun k x => Z8e k x.1.2.1.1 x.1.2.1.2.1 x.1.2.1.2.2.1 x.1.2.2.1.1 x.1.2.2.1.2.1 x.1.2.2.2.1 x.1.2.2.2.2.1.1 x.1.2.2.2.2.1.2.1 x.1.2.2.2.2.2.1 x.2.1 x.2.2.2.2.2.1) (fun z => (((), (z.1, z.2.1, z.2.2.1, ()), (z.2.2.2.1, z.2.2.2.2.1, (), ()), z.2.2.2.2.2, ()), ((), (), ()))) (fun y => (y.1.2.1.1, y.1.2.1.2.1, y.1.2.1.2.2.1, y.1.2.2.1.1, y.1.2.2.1.2.1, y.1.2.2.2.1)) (fun _ => rfl)
theorem ZyC (k : Nat) (b1_0 : Int) (b1_1 : Int) (b1_2 : Int) (b2_0 : Int) (b2_1 : Int) (o3 : List (Int × Int)) (b4_0 : Int) (b4_1 : Int) (o5 : List (Int × Int)) (v3 : Int) (v12 : Int) : Zci k b1_0 b1_1 b1_2 b2_0 b2_1 o3 b4_0 b4_1 o5 v3 v12 = repl 2 (Z8e k b1_0 b1_1 b1_2 b2_0 b2_1 o3 b4_0 b4_1 o5 v3 v12) := by
 first
 | (simp only [Zci, Z8e, Z5, Z6, Z2, Z3, Z4, Z1, if_true]; done)
 | (simp only [Zci, Z8e, Z5, Z6, Z2, Z3, Z4, Z1, if_true]; simp only [Z87, Z84, ZaZ, Z1]; simp only [Zd6]; exact Z9Q ⟨fun h => by simp only [h, and_self], fun h => by simp only [h, and_self]⟩)
noncomputable def Z7c : Nat → Int → Int → Int → Int → Int → List (Int × Int) → Int → Int → List (Int × Int) → Int → Int → Option (Int × Int × Int × Int × Int × List (Int × Int)) := fun k b1_0 b1_1 b1_2 b2_0 b2_1 o3 b4_0 b4_1 o5 v3 v12 =>
    some ((2 : Int), v12, v3, b4_0, b4_1, o5)
noncomputable def Zbt : Nat → Int → Int → Int → Int → Int → List (Int × Int) → Int → Int → List (Int × Int) → Int → Int → Option (List (Int × Int × Int × Int × Int × List (Int × Int))) := fun k b1_0 b1_1 b1_2 b2_0 b2_1 o3 b4_0 b4_1 o5 v3 v12 =>
    joinL (some [((2 : Int), v12, v3, b4_0, b4_1, o5)]) (some [((2 : Int), v12, v3, b4_0, b4_1, o5)])
noncomputable def ZjW : Spec := Spec.mk [OSh.ro, OSh.box (67 : Nat) [Sh.int .i64, Sh.int .i64, Sh.int .i64], OSh.box (26 : Nat) [Sh.int .i64, Sh.int .i64, Sh.sl (3 : Nat)], OSh.row true (122 : Nat) (Ty.pair (Ty.int .i64) (Ty.int .i64)), OSh.box (26 : Nat) [Sh.int .i64, Sh.int .i64, Sh.sl (5 : Nat)], OSh.row true (122 : Nat) (Ty.pair (Ty.int .i64) (Ty.int .i64))] [((3 : Nat), TSh.at (Sh.int .i64)), ((8 : Nat), TSh.at (Sh.ptr (1 : Nat) (0 : Nat))), ((9 : Nat), TSh.at (Sh.ptr (2 : Nat) (0 : Nat))), ((10 : Nat), TSh.at (Sh.ptr (4 : Nat) (0 : Nat))), ((12 : Nat), TSh.at (Sh.int .i64))]
noncomputable def Zwc : Spec := Spec.mk [OSh.ro, OSh.box (67 : Nat) [Sh.int .i64, Sh.int .i64, Sh.int .i64], OSh.box (26 : Nat) [Sh.int .i64, Sh.int .i64, Sh.sl (3 : Nat)], OSh.row true (122 : Nat) (Ty.pair (Ty.int .i64) (Ty.int .i64))] [((8 : Nat), TSh.at (Sh.ptr (1 : Nat) (0 : Nat))), ((9 : Nat), TSh.at (Sh.ptr (2 : Nat) (0 : Nat)))]
noncomputable def Z6f : LoopDef (Tup Z3I × OutD) := .plain ZjW Zwc (Int × Int × Int × Int × Int × List (Int × Int)) (fun k x => Z7c k x.1.2.1.1 x.1.2.1.2.1 x.1.2.1.2.2.1 x.1.2.2.1.1 x.1.2.2.1.2.1 x.1.2.2.2.1 x.1.2.2.2.2.1.1 x.1.2.2.2.2.1.2.1 x.1.2.2.2.2.2.1 x.2.1 x.2.2.2.2.2.1) (fun z => (((), (z.1, z.2.1, z.2.2.1, ()), (z.2.2.2.1, z.2.2.2.2.1, (), ()), z.2.2.2.2.2, ()), ((), (), ()))) (fun y => (y.1.2.1.1, y.1.2.1.2.1, y.1.2.1.2.2.1, y.1.2.2.1.1, y.1.2.2.1.2.1, y.1.2.2.2.1)) (fun _ => rfl)
theorem ZwP (k : Nat) (b1_0 : Int) (b1_1 : Int) (b1_2 : Int) (b2_0 : Int) (b2_1 : Int) (o3 : List (Int × Int)) (b4_0 : Int) (b4_1 : Int) (o5 : List (Int × Int)) (v3 : Int) (v12 : Int) : Zbt k b1_0 b1_1 b1_2 b2_0 b2_1 o3 b4_0 b4_1 o5 v3 v12 = repl 2 (Z7c k b1_0 b1_1 b1_2 b2_0 b2_1 o3 b4_0 b4_1 o5 v3 v12) := by
 first
 | (simp only [Zbt, Z7c, Z5, Z6, Z2, Z3, Z4, Z1, if_true]; done)
 | (simp only [Zbt, Z7c, Z5, Z6, Z2, Z3, Z4, Z1, if_true]; simp only [Z87, Z84, ZaZ, Z1]; simp only [Zd6]; exact Z9Q ⟨fun h => by simp only [h, and_self], fun h => by simp only [h, and_self]⟩)
noncomputable def Zcd : Nat → Int → Int → List (Int × Int) → Int → Int → Int → Int → Int → List (Int × Int) → Int → Int → List (Int × Int) → List Int → List (Int × Int × Int) → Int → Int → Int → Bool → Option (Int × Int × List (Int × Int) × Int × Int × Int × Int × Int × List (Int × Int) × Int × Int × List (Int × Int) × List Int × List (Int × Int × Int) × Int × Int × Int) := fun k b1_0 b1_1 b1_2 b2_0 b2_1 b2_2 b3_0 b3_1 o4 b5_0 b5_1 o6 v1 v2 v3 v12 v15 v52 =>
    if v52 = true then some (b1_0, b1_1, b1_2, b2_0, b2_1, b2_2, b3_0, b3_1, o4, b5_0, b5_1, o6, v1, v2, v3, v12, wrap64 ((0 : Int) - v15)) else some (b1_0, b1_1, b1_2, b2_0, b2_1, b2_2, b3_0, b3_1, o4, b5_0, b5_1, o6, v1, v2, v3, v12, v15)
noncomputable def Zxe : Spec := Spec.mk [OSh.ro, OSh.box (26 : Nat) [Sh.int .i64, Sh.int .i64, Sh.snap (0 : Nat) (Ty.pair (Ty.int .i64) (Ty.int .i64))], OSh.box (67 : Nat) [Sh.int .i64, Sh.int .i64, Sh.int .i64], OSh.box (26 : Nat) [Sh.int .i64, Sh.int .i64, Sh.sl (4 : Nat)], OSh.row true (122 : Nat) (Ty.pair (Ty.int .i64) (Ty.int .i64)), OSh.box (26 : Nat) [Sh.int .i64, Sh.int .i64, Sh.sl (6 : Nat)], OSh.row true (122 : Nat) (Ty.pair (Ty.int .i64) (Ty.int .i64))] [((1 : Nat), TSh.at (Sh.snap (0 : Nat) (Ty.int .i64))), ((2 : Nat), TSh.at (Sh.snap (0 : Nat) (Ty.pair (Ty.int .i64) (Ty.pair (Ty.int .i64) (Ty.int .i64))))), ((3 : Nat), TSh.at (Sh.int .i64)), ((4 : Nat), TSh.at (Sh.ptr (1 : Nat) (0 : Nat))), ((8 : Nat), TSh.at (Sh.ptr (2 : Nat) (0 : Nat))), ((9 : Nat), TSh.at (Sh.ptr (3 : Nat) (0 : Nat))), ((10 : Nat), TSh.at (Sh.ptr (5 : Nat) (0 : Nat))), ((12 : Nat), TSh.at (Sh.int .i64)), ((15 : Nat), TSh.at (Sh.int .i64)), ((52 : Nat), TSh.at Sh.bool)]
noncomputable def ZwG : Spec := Spec.mk [OSh.ro, OSh.box (26 : Nat) [Sh.int .i64, Sh.int .i64, Sh.snap (0 : Nat) (Ty.pair (Ty.int .i64) (Ty.int .i64))], OSh.box (67 : Nat) [Sh.int .i64, Sh.int .i64, Sh.int .i64], OSh.box (26 : Nat) [Sh.int .i64, Sh.int .i64, Sh.sl (4 : Nat)], OSh.row true (122 : Nat) (Ty.pair (Ty.int .i64) (Ty.int .i64)), OSh.box (26 : Nat) [Sh.int .i64, Sh.int .i64, Sh.sl (6 : Nat)], OSh.row true (122 : Nat) (Ty.pair (Ty.int .i64) (Ty.int .i64))] [((1 : Nat), TSh.at (Sh.snap (0 : Nat) (Ty.int .i64))), ((2 : Nat), TSh.at (Sh.snap (0 : Nat) (Ty.pair (Ty.int .i64) (Ty.pair (Ty.int .i64) (Ty.int .i64))))), ((3 : Nat), TSh.at (Sh.int .i64)), ((4 : Nat), TSh.at (Sh.ptr (1 : Nat) (0 : Nat))), ((8 : Nat), TSh.at (Sh.ptr (2 : Nat) (0 : Nat))), ((9 : Nat), TSh.at (Sh.ptr (3 : Nat) (0 : Nat))), ((10 : Nat), TSh.at (Sh.ptr (5 : Nat) (0 : Nat))), ((12 : Nat), TSh.at (Sh.int .i64)), ((15 : Nat), TSh.at (Sh.int .i64))]
noncomputable def Z1D : LoopDef (Tup Z3I × OutD) := .plain Zxe ZwG (Int × Int × List (Int × Int) × Int × Int × Int × Int × Int × List (Int × Int) × Int × Int × List (Int × Int) × List Int × List (Int × Int × Int) × Int × Int × Int) (fun k x => Zcd k x.1.2.1.1 x.1.2.1.2.1 x.1.2.1.2.2.1 x.1.2.2.1.1 x.1.2.2.1.2.1 x.1.2.2.1.2.2.1 x.1.2.2.2.1.1 x.1.2.2.2.1.2.1 x.1.2.2.2.2.1 x.1.2.2.2.2.2.1.1 x.1.2.2.2.2.2.1.2.1 x.1.2.2.2.2.2.2.1 x.2.1 x.2.2.1 x.2.2.2.1 x.2.2.2.2.2.2.2.2.1 x.2.2.2.2.2.2.2.2.2.1 x.2.2.2.2.2.2.2.2.2.2.1) (fun z => (((), (z.1, z.2.1, z.2.2.1, ()), (z.2.2.2.1, z.2.2.2.2.1, z.2.2.2.2.2.1, ()), (z.2.2.2.2.2.2.1, z.2.2.2.2.2.2.2.1, (), ()), z.2.2.2.2.2.2.2.2.1, (z.2.2.2.2.2.2.2.2.2.1, z.2.2.2.2.2.2.2.2.2.2.1, (), ()), z.2.2.2.2.2.2.2.2.2.2.2.1, ()), (z.2.2.2.2.2.2.2.2.2.2.2.2.1, z.2.2.2.2.2.2.2.2.2.2.2.2.2.1, z.2.2.2.2.2.2.2.2.2.2.2.2.2.2.1, (), (), (), (), z.2.2.2.2.2.2.2.2.2.2.2.2.2.2.2.1, z.2.2.2.2.2.2.2.2.2.2.2.2.2.2.2.2, ()))) (fun y => (y.1.2.1.1, y.1.2.1.2.1, y.1.2.1.2.2.1, y.1.2.2.1.1, y.1.2.2.1.2.1, y.1.2.2.1.2.2.1, y.1.2.2.2.1.1, y.1.2.2.2.1.2.1, y.1.2.2.2.2.1, y.1.2.2.2.2.2.1.1, y.1.2.2.2.2.2.1.2.1, y.1.2.2.2.2.2.2.1, y.2.1, y.2.2.1, y.2.2.2.1, y.2.2.2.2.2.2.2.2.1, y.2.2.2.2.2.2.2.2.2.1)) (fun _ => rfl)
noncomputable def Z7A : Nat → Int → Int → List (Int × Int) → Int → Int → Int → Int → Int → List (Int × Int) → Int → Int → List (Int × Int) → List Int → List (Int × Int × Int) → Int → Int → Int → List (Int × Int × Int) → Int → Int → Option (Int × Int × List (Int × Int) × Int × Int × Int × Int × Int × List (Int × Int) × Int × Int × List (Int × Int) × List Int × List (Int × Int × Int) × Int × Int × Int)
 | 0, _, _, _, _, _, _, _, _, _, _, _, _, _, _, _, _, _, _, _, _ => none
 | k + 1, b1_0, b1_1, b1_2, b2_0, b2_1, b2_2, b3_0, b3_1, o4, b5_0, b5_1, o6, v1, v2, v3, v12, v15, v64, v65, v66 =>
  if decide (v66 < v65) = true then if (0 : Int) ≤ v66 then if v66 < (↑(List.length v64) : Int) then if decide (Prod.fst (List.getD v64 (Int.toNat v66) ((0 : Int), (0 : Int), (0 : Int))) = (1 : Int)) = true then if (0 : Int) ≤ wrap64 (wrap64 (Prod.fst (Prod.snd (List.getD v64 (Int.toNat v66) ((0 : Int), (0 : Int), (0 : Int)))) * b1_1) + Prod.snd (Prod.snd (List.getD v64 (Int.toNat v66) ((0 : Int), (0 : Int), (0 : Int))))) then if wrap64 (wrap64 (Prod.fst (Prod.snd (List.getD v64 (Int.toNat v66) ((0 : Int), (0 : Int), (0 : Int)))) * b1_1) + Prod.snd (Prod.snd (List.getD v64 (Int.toNat v66) ((0 : Int), (0 : Int), (0 : Int))))) < (↑(List.length b1_2) : Int) then if (0 : Int) ≤ wrap64 (wrap64 (Prod.fst (Prod.snd (List.getD v64 (Int.toNat v66) ((0 : Int), (0 : Int), (0 : Int)))) * b1_1) + Prod.snd (Prod.snd (List.getD v64 (Int.toNat v66) ((0 : Int), (0 : Int), (0 : Int))))) then if wrap64 (wrap64 (Prod.fst (Prod.snd (List.getD v64 (Int.toNat v66) ((0 : Int), (0 : Int), (0 : Int)))) * b1_1) + Prod.snd (Prod.snd (List.getD v64 (Int.toNat v66) ((0 : Int), (0 : Int), (0 : Int))))) < (↑(List.length o6) : Int) then Z7A k b1_0 b1_1 b1_2 b2_0 b2_1 b2_2 b3_0 b3_1 o4 b5_0 b5_1 (List.set o6 (Int.toNat (wrap64 (wrap64 (Prod.fst (Prod.snd (List.getD v64 (Int.toNat v66) ((0 : Int), (0 : Int), (0 : Int)))) * b1_1) + Prod.snd (Prod.snd (List.getD v64 (Int.toNat v66) ((0 : Int), (0 : Int), (0 : Int))))))) (Prod.fst (List.getD b1_2 (Int.toNat (wrap64 (wrap64 (Prod.fst (Prod.snd (List.getD v64 (Int.toNat v66) ((0 : Int), (0 : Int), (0 : Int)))) * b1_1) + Prod.snd (Prod.snd (List.getD v64 (Int.toNat v66) ((0 : Int), (0 : Int), (0 : Int))))))) ((0 : Int), (0 : Int))), Prod.snd (List.getD b1_2 (Int.toNat (wrap64 (wrap64 (Prod.fst (Prod.snd (List.getD v64 (Int.toNat v66) ((0 : Int), (0 : Int), (0 : Int)))) * b1_1) + Prod.snd (Prod.snd (List.getD v64 (Int.toNat v66) ((0 : Int), (0 : Int), (0 : Int))))))) ((0 : Int), (0 : Int))))) v1 v2 v3 v12 v15 v64 v65 (wrap64 (v66 + (1 : Int))) else none else none else none else none else Z7A k b1_0 b1_1 b1_2 b2_0 b2_1 b2_2 b3_0 b3_1 o4 b5_0 b5_1 o6 v1 v2 v3 v12 v15 v64 v65 (wrap64 (v66 + (1 : Int))) else none else none else some (b1_0, b1_1, b1_2, b2_0, b2_1, b2_2, b3_0, b3_1, o4, b5_0, b5_1, o6, v1, v2, v3, v12, v15)
noncomputable def ZgI : Spec := Spec.mk [OSh.ro, OSh.box (26 : Nat) [Sh.int .i64, Sh.int .i64, Sh.snap (0 : Nat) (Ty.pair (Ty.int .i64) (Ty.int .i64))], OSh.box (67 : Nat) [Sh.int .i64, Sh.int .i64, Sh.int .i64], OSh.box (26 : Nat) [Sh.int .i64, Sh.int .i64, Sh.sl (4 : Nat)], OSh.row true (122 : Nat) (Ty.pair (Ty.int .i64) (Ty.int .i64)), OSh.box (26 : Nat) [Sh.int .i64, Sh.int .i64, Sh.sl (6 : Nat)], OSh.row true (122 : Nat) (Ty.pair (Ty.int .i64) (Ty.int .i64))] [((1 : Nat), TSh.at (Sh.snap (0 : Nat) (Ty.int .i64))), ((2 : Nat), TSh.at (Sh.snap (0 : Nat) (Ty.pair (Ty.int .i64) (Ty.pair (Ty.int .i64) (Ty.int .i64))))), ((3 : Nat), TSh.at (Sh.int .i64)), ((4 : Nat), TSh.at (Sh.ptr (1 : Nat) (0 : Nat))), ((8 : Nat), TSh.at (Sh.ptr (2 : Nat) (0 : Nat))), ((9 : Nat), TSh.at (Sh.ptr (3 : Nat) (0 : Nat))), ((10 : Nat), TSh.at (Sh.ptr (5 : Nat) (0 : Nat))), ((12 : Nat), TSh.at (Sh.int .i64)), ((15 : Nat), TSh.at (Sh.int .i64)), ((64 : Nat), TSh.at (Sh.snap (0 : Nat) (Ty.pair (Ty.int .i64) (Ty.pair (Ty.int .i64) (Ty.int .i64))))), ((65 : Nat), TSh.at (Sh.int .i64)), ((66 : Nat), TSh.at (Sh.int .i64))]
noncomputable def Zzz : Spec := Spec.mk [OSh.ro, OSh.box (26 : Nat) [Sh.int .i64, Sh.int .i64, Sh.snap (0 : Nat) (Ty.pair (Ty.int .i64) (Ty.int .i64))], OSh.box (67 : Nat) [Sh.int .i64, Sh.int .i64, Sh.int .i64], OSh.box (26 : Nat) [Sh.int .i64, Sh.int .i64, Sh.sl (4 : Nat)], OSh.row true (122 : Nat) (Ty.pair (Ty.int .i64) (Ty.int .i64)), OSh.box (26 : Nat) [Sh.int .i64, Sh.int .i64, Sh.sl (6 : Nat)], OSh.row true (122 : Nat) (Ty.pair (Ty.int .i64) (Ty.int .i64))] [((1 : Nat), TSh.at (Sh.snap (0 : Nat) (Ty.int .i64))), ((2 : Nat), TSh.at (Sh.snap (0 : Nat) (Ty.pair (Ty.int .i64) (Ty.pair (Ty.int .i64) (Ty.int .i64))))), ((3 : Nat), TSh.at (Sh.int .i64)), ((4 : Nat), TSh.at (Sh.ptr (1 : Nat) (0 : Nat))), ((8 : Nat), TSh.at (Sh.ptr (2 : Nat) (0 : Nat))), ((9 : Nat), TSh.at (Sh.ptr (3 : Nat) (0 : Nat))), ((10 : Nat), TSh.at (Sh.ptr (5 : Nat) (0 : Nat))), ((12 : Nat), TSh.at (Sh.int .i64)), ((15 : Nat), TSh.at (Sh.int .i64))]
noncomputable def Z8l : LoopDef (Tup Z3I × OutD) := .plain ZgI Zzz (Int × Int × List (Int × Int) × Int × Int × Int × Int × Int × List (Int × Int) × Int × Int × List (Int × Int) × List Int × List (Int × Int × Int) × Int × Int × Int) (fun k x => Z7A k x.1.2.1.1 x.1.2.1.2.1 x.1.2.1.2.2.1 x.1.2.2.1.1 x.1.2.2.1.2.1 x.1.2.2.1.2.2.1 x.1.2.2.2.1.1 x.1.2.2.2.1.2.1 x.1.2.2.2.2.1 x.1.2.2.2.2.2.1.1 x.1.2.2.2.2.2.1.2.1 x.1.2.2.2.2.2.2.1 x.2.1 x.2.2.1 x.2.2.2.1 x.2.2.2.2.2.2.2.2.1 x.2.2.2.2.2.2.2.2.2.1 x.2.2.2.2.2.2.2.2.2.2.1 x.2.2.2.2.2.2.2.2.2.2.2.1 x.2.2.2.2.2.2.2.2.2.2.2.2.1) (fun z => (((), (z.1, z.2.1, z.2.2.1, ()), (z.2.2.2.1, z.2.2.2.2.1, z.2.2.2.2.2.1, ()), (z.2.2.2.2.2.2.1, z.2.2.2.2.2.2.2.1, (), ()), z.2.2.2.2.2.2.2.2.1, (z.2.2.2.2.2.2.2.2.2.1, z.2.2.2.2.2.2.2.2.2.2.1, (), ()), z.2.2.2.2.2.2.2.2.2.2.2.1, ()), (z.2.2.2.2.2.2.2.2.2.2.2.2.1, z.2.2.2.2.2.2.2.2.2.2.2.2.2.1, z.2.2.2.2.2.2.2.2.2.2.2.2.2.2.1, (), (), (), (), z.2.2.2.2.2.2.2.2.2.2.2.2.2.2.2.1, z.2.2.2.2.2.2.2.2.2.2.2.2.2.2.2.2, ()))) (fun y => (y.1.2.1.1, y.1.2.1.2.1, y.1.2.1.2.2.1, y.1.2.2.1.1, y.1.2.2.1.2.1, y.1.2.2.1.2.2.1, y.1.2.2.2.1.1, y.1.2.2.2.1.2.1, y.1.2.2.2.2.1, y.1.2.2.2.2.2.1.1, y.1.2.2.2.2.2.1.2.1, y.1.2.2.2.2.2.2.1, y.2.1, y.2.2.1, y.2.2.2.1, y.2.2.2.2.2.2.2.2.1, y.2.2.2.2.2.2.2.2.2.1)) (fun _ => rfl)
noncomputable def Z74 : Nat → Int → Int → Int → Int → Int → List (Int × Int) → Int → Int → List (Int × Int) → Int → Int → Option (Int × Int × Int × Int × Int × List (Int × Int)) := fun k b1_0 b1_1 b1_2 b2_0 b2_1 o3 b4_0 b4_1 o5 v3 v12 =>
    some ((3 : Int), v12, v3, b4_0, b4_1, o5)
noncomputable def Zbp : Nat → Int → Int → Int → Int → Int → List (Int × Int) → Int → Int → List (Int × Int) → Int → Int → Option (List (Int × Int × Int × Int × Int × List (Int × Int))) := fun k b1_0 b1_1 b1_2 b2_0 b2_1 o3 b4_0 b4_1 o5 v3 v12 =>
    joinL (some [((3 : Int), v12, v3, b4_0, b4_1, o5)]) (some [((3 : Int), v12, v3, b4_0, b4_1, o5)])
noncomputable def ZkI : Spec := Spec.mk [OSh.ro, OSh.box (67 : Nat) [Sh.int .i64, Sh.int .i64, Sh.int .i64], OSh.box (26 : Nat) [Sh.int .i64, Sh.int .i64, Sh.sl (3 : Nat)], OSh.row true (122 : Nat) (Ty.pair (Ty.int .i64) (Ty.int .i64)), OSh.box (26 : Nat) [Sh.int .i64, Sh.int .i64, Sh.sl (5 : Nat)], OSh.row true (122 : Nat) (Ty.pair (Ty.int .i64) (Ty.int .i64))] [((3 : Nat), TSh.at (Sh.int .i64)), ((8 : Nat), TSh.at (Sh.ptr (1 : Nat) (0 : Nat))), ((9 : Nat), TSh.at (Sh.ptr (2 : Nat) (0 : Nat))), ((10 : Nat), TSh.at (Sh.ptr (4 : Nat) (0 : Nat))), ((12 : Nat), TSh.at (Sh.int .i64))]
noncomputable def ZwC : Spec := Spec.mk [OSh.ro, OSh.box (67 : Nat) [Sh.int .i64, Sh.int .i64, Sh.int .i64], OSh.box (26 : Nat) [Sh.int .i64, Sh.int .i64, Sh.sl (3 : Nat)], OSh.row true (122 : Nat) (Ty.pair (Ty.int .i64) (Ty.int .i64))] [((8 : Nat), TSh.at (Sh.ptr (1 : Nat) (0 : Nat))), ((9 : Nat), TSh.at (Sh.ptr (2 : Nat) (0 : Nat)))]
noncomputable def Z6t : LoopDef (Tup Z3I × OutD) := .plain ZkI ZwC (Int × Int × Int × Int × Int × List (Int × Int)) (fun k x => Z74 k x.1.2.1.1 x.1.2.1.2.1 x.1.2.1.2.2.1 x.1.2.2.1.1 x.1.2.2.1.2.1 x.1.2.2.2.1 x.1.2.2.2.2.1.1 x.1.2.2.2.2.1.2.1 x.1.2.2.2.2.2.1 x.2.1 x.2.2.2.2.2.1) (fun z => (((), (z.1, z.2.1, z.2.2.1, ()), (z.2.2.2.1, z.2.2.2.2.1, (), ()), z.2.2.2.2.2, ()), ((), (), ()))) (fun y => (y.1.2.1.1, y.1.2.1.2.1, y.1.2.1.2.2.1, y.1.2.2.1.1, y.1.2.2.1.2.1, y.1.2.2.2.1)) (fun _ => rfl)
theorem Zx6 (k : Nat) (b1_0 : Int) (b1_1 : Int) (b1_2 : Int) (b2_0 : Int) (b2_1 : Int) (o3 : List (Int × Int)) (b4_0 : Int) (b4_1 : Int) (o5 : List (Int × Int)) (v3 : Int) (v12 : Int) : Zbp k b1_0 b1_1 b1_2 b2_0 b2_1 o3 b4_0 b4_1 o5 v3 v12 = repl 2 (Z74 k b1_0 b1_1 b1_2 b2_0 b2_1 o3 b4_0 b4_1 o5 v3 v12) := by
 first
 | (simp only [Zbp, Z74, Z5, Z6, Z2, Z3, Z4, Z1, if_true]; done)
 | (simp only [Zbp, Z74, Z5, Z6, Z2, Z3, Z4, Z1, if_true]; simp only [Z87, Z84, ZaZ, Z1]; simp only [Zd6]; exact Z9Q ⟨fun h => by simp only [h, and_self], fun h => by simp only [h, and_self]⟩)
noncomputable def Z9m : Nat → Int → Int → List (Int × Int) → Int → Int → Int → Int → Int → List (Int × Int) → Int → Int → List (Int × Int) → List Int → List (Int × Int × Int) → Int → Int → Int → Option (LR (Int × Int × List (Int × Int) × Int × Int × Int × Int × Int × List (Int × Int) × Int × Int × List (Int × Int) × Int) ((Int × Int × Int) × Int × Int × List (Int × Int)))
 | 0, _, _, _, _, _, _, _, _, _, _, _, _, _, _, _, _, _ => none
 | k + 1, b1_0, b1_1, b1_2, b2_0, b2_1, b2_2, b3_0, b3_1, o4, b5_0, b5_1, o6, v1, v2, v3, v11, v12 =>
  if decide (v12 < b1_0) = true then Option.bind (Z9S k (b5_0, b5_1, o6) v12 v3) fun z1 => Option.bind (Zh6 k v2 v12 v3) fun z2 => if decide (z2 = (2 : Int)) = true then Option.bind (Z8e k b2_0 b2_1 b2_2 b3_0 b3_1 o4 b5_0 b5_1 o6 v3 v12) fun z3 => some (LR.ret ((Prod.fst z3, Prod.fst z3.2, Prod.fst z3.2.2), Prod.fst z3.2.2.2, Prod.fst z3.2.2.2.2, Prod.snd z3.2.2.2.2)) else if decide (Prod.fst z1 = (5 : Int)) = true then Option.bind (Z7c k b2_0 b2_1 b2_2 b3_0 b3_1 o4 b5_0 b5_1 o6 v3 v12) fun z4 => some (LR.ret ((Prod.fst z4, Prod.fst z4.2, Prod.fst z4.2.2), Prod.fst z4.2.2.2, Prod.fst z4.2.2.2.2, Prod.snd z4.2.2.2.2)) else Option.bind (Ze3 k (Prod.fst z1, Prod.snd z1) v11) fun z5 => Option.bind (Zcd k b1_0 b1_1 b1_2 b2_0 b2_1 b2_2 b3_0 b3_1 o4 b5_0 b5_1 o6 v1 v2 v3 v12 z5 (decide (z2 = (3 : Int)))) fun z6 => Option.bind (ZdY k (Prod.fst z6.2.2.2.2.2.2.2.2.2, Prod.fst z6.2.2.2.2.2.2.2.2.2.2, Prod.fst z6.2.2.2.2.2.2.2.2.2.2.2) z6.2.2.2.2.2.2.2.2.2.2.2.2.1 (wrap64 (wrap64 (Prod.fst z6.2.2.2.2.2.2.2.2.2.2.2.2.2.2.2 * Prod.fst z6.2) + Prod.fst z6.2.2.2.2.2.2.2.2.2.2.2.2.2.2))) fun z7 => Option.bind (Z7A k z6.1 z6.2.1 z6.2.2.1 z6.2.2.2.1 z6.2.2.2.2.1 z6.2.2.2.2.2.1 z6.2.2.2.2.2.2.1 z6.2.2.2.2.2.2.2.1 z6.2.2.2.2.2.2.2.2.1 z6.2.2.2.2.2.2.2.2.2.1 z6.2.2.2.2.2.2.2.2.2.2.1 z7 z6.2.2.2.2.2.2.2.2.2.2.2.2.1 z6.2.2.2.2.2.2.2.2.2.2.2.2.2.1 z6.2.2.2.2.2.2.2.2.2.2.2.2.2.2.1 z6.2.2.2.2.2.2.2.2.2.2.2.2.2.2.2.1 z6.2.2.2.2.2.2.2.2.2.2.2.2.2.2.2.2 z6.2.2.2.2.2.2.2.2.2.2.2.2.2.1 (↑(List.length z6.2.2.2.2.2.2.2.2.2.2.2.2.2.1) : Int) (0 : Int)) fun z8 => Option.bind (Z2L k (wrap64 (Prod.fst z8.2.2.2.2.2.2.2.2.2.2.2.2.2.2 + Prod.snd z8.2.2.2.2.2.2.2.2.2.2.2.2.2.2.2)) (0 : Int) (wrap64 (Prod.fst z8.2 - (1 : Int)))) fun z9 => if (!z9) = true then Option.bind (Z74 k z8.2.2.2.1 z8.2.2.2.2.1 z8.2.2.2.2.2.1 z8.2.2.2.2.2.2.1 z8.2.2.2.2.2.2.2.1 z8.2.2.2.2.2.2.2.2.1 z8.2.2.2.2.2.2.2.2.2.1 z8.2.2.2.2.2.2.2.2.2.2.1 z8.2.2.2.2.2.2.2.2.2.2.2.1 (wrap64 (Prod.fst z8.2.2.2.2.2.2.2.2.2.2.2.2.2.2 + Prod.snd z8.2.2.2.2.2.2.2.2.2.2.2.2.2.2.2)) z8.2.2.2.2.2.2.2.2.2.2.2.2.2.2.2.1) fun z10 => some (LR.ret ((Prod.fst z10, Prod.fst z10.2, Prod.fst z10.2.2), Prod.fst z10.2.2.2, Prod.fst z10.2.2.2.2, Prod.snd z10.2.2.2.2)) else Z9m k z8.1 z8.2.1 z8.2.2.1 z8.2.2.2.1 z8.2.2.2.2.1 z8.2.2.2.2.2.1 z8.2.2.2.2.2.2.1 z8.2.2.2.2.2.2.2.1 z8.2.2.2.2.2.2.2.2.1 z8.2.2.2.2.2.2.2.2.2.1 z8.2.2.2.2.2.2.2.2.2.2.1 z8.2.2.2.2.2.2.2.2.2.2.2.1 z8.2.2.2.2.2.2.2.2.2.2.2.2.1 z8.2.2.2.2.2.2.2.2.2.2.2.2.2.1 (wrap64 (Prod.fst z8.2.2.2.2.2.2.2.2.2.2.2.2.2.2 + Prod.snd z8.2.2.2.2.2.2.2.2.2.2.2.2.2.2.2)) (wrap64 ((0 : Int) - Prod.snd z8.2.2.2.2.2.2.2.2.2.2.2.2.2.2.2)) (wrap64 (Prod.fst z8.2.2.2.2.2.2.2.2.2.2.2.2.2.2.2 + (1 : Int))) else some (LR.go (b1_0, b1_1, b1_2, b2_0, b2_1, b2_2, b3_0, b3_1, o4, b5_0, b5_1, o6, v3))
noncomputable def Zh3 : Spec := Spec.mk [OSh.ro, OSh.box (26 : Nat) [Sh.int .i64, Sh.int .i64, Sh.snap (0 : Nat) (Ty.pair (Ty.int .i64) (Ty.int .i64))], OSh.box (67 : Nat) [Sh.int .i64, Sh.int .i64, Sh.int .i64], OSh.box (26 : Nat) [Sh.int .i64, Sh.int .i64, Sh.sl (4 : Nat)], OSh.row true (122 : Nat) (Ty.pair (Ty.int .i64) (Ty.int .i64)), OSh.box (26 : Nat) [Sh.int .i64, Sh.int .i64, Sh.sl (6 : Nat)], OSh.row true (122 : Nat) (Ty.pair (Ty.int .i64) (Ty.int .i64))] [((1 : Nat), TSh.at (Sh.snap (0 : Nat) (Ty.int .i64))), ((2 : Nat), TSh.at (Sh.snap (0 : Nat) (Ty.pair (Ty.int .i64) (Ty.pair (Ty.int .i64) (Ty.int .i64))))), ((3 : Nat), TSh.at (Sh.int .i64)), ((4 : Nat), TSh.at (Sh.ptr (1 : Nat) (0 : Nat))), ((8 : Nat), TSh.at (Sh.ptr (2 : Nat) (0 : Nat))), ((9 : Nat), TSh.at (Sh.ptr (3 : Nat) (0 : Nat))), ((10 : Nat), TSh.at (Sh.ptr (5 : Nat) (0 : Nat))), ((11 : Nat), TSh.at (Sh.int .i64)), ((12 : Nat), TSh.at (Sh.int .i64))]
noncomputable def ZA2 : Spec := Spec.mk [OSh.ro, OSh.box (26 : Nat) [Sh.int .i64, Sh.int .i64, Sh.snap (0 : Nat) (Ty.pair (Ty.int .i64) (Ty.int .i64))], OSh.box (67 : Nat) [Sh.int .i64, Sh.int .i64, Sh.int .i64], OSh.box (26 : Nat) [Sh.int .i64, Sh.int .i64, Sh.sl (4 : Nat)], OSh.row true (122 : Nat) (Ty.pair (Ty.int .i64) (Ty.int .i64)), OSh.box (26 : Nat) [Sh.int .i64, Sh.int .i64, Sh.sl (6 : Nat)], OSh.row true (122 : Nat) (Ty.pair (Ty.int .i64) (Ty.int .i64))] [((3 : Nat), TSh.at (Sh.int .i64)), ((4 : Nat), TSh.at (Sh.ptr (1 : Nat) (0 : Nat))), ((8 : Nat), TSh.at (Sh.ptr (2 : Nat) (0 : Nat))), ((9 : Nat), TSh.at (Sh.ptr (3 : Nat) (0 : Nat))), ((10 : Nat), TSh.at (Sh.ptr (5 : Nat) (0 : Nat)))]
noncomputable def Z8k : LoopDef (Tup Z3I × OutD) := .rets Zh3 ZA2 (Int × Int × List (Int × Int) × Int × Int × Int × Int × Int × List (Int × Int) × Int × Int × List (Int × Int) × Int) ((Int × Int × Int) × Int × Int × List (Int × Int)) (fun k x => Z9m k x.1.2.1.1 x.1.2.1.2.1 x.1.2.1.2.2.1 x.1.2.2.1.1 x.1.2.2.1.2.1 x.1.2.2.1.2.2.1 x.1.2.2.2.1.1 x.1.2.2.2.1.2.1 x.1.2.2.2.2.1 x.1.2.2.2.2.2.1.1 x.1.2.2.2.2.2.1.2.1 x.1.2.2.2.2.2.2.1 x.2.1 x.2.2.1 x.2.2.2.1 x.2.2.2.2.2.2.2.2.1 x.2.2.2.2.2.2.2.2.2.1) (fun z => (((), (z.1, z.2.1, z.2.2.1, ()), (z.2.2.2.1, z.2.2.2.2.1, z.2.2.2.2.2.1, ()), (z.2.2.2.2.2.2.1, z.2.2.2.2.2.2.2.1, (), ()), z.2.2.2.2.2.2.2.2.1, (z.2.2.2.2.2.2.2.2.2.1, z.2.2.2.2.2.2.2.2.2.2.1, (), ()), z.2.2.2.2.2.2.2.2.2.2.2.1, ()), (z.2.2.2.2.2.2.2.2.2.2.2.2, (), (), (), (), ()))) (fun y => (y.1.2.1.1, y.1.2.1.2.1, y.1.2.1.2.2.1, y.1.2.2.1.1, y.1.2.2.1.2.1, y.1.2.2.1.2.2.1, y.1.2.2.2.1.1, y.1.2.2.2.1.2.1, y.1.2.2.2.2.1, y.1.2.2.2.2.2.1.1, y.1.2.2.2.2.2.1.2.1, y.1.2.2.2.2.2.2.1, y.2.1)) (fun _ => rfl) ZkH Zkw Zm5
noncomputable def Z7l : Nat → Int → Int → List (Int × Int) → Int → Int → Int → Int → Int → List (Int × Int) → Int → Int → List (Int × Int) → Int → Option (Int × Int × Int × Int × Int × List (Int × Int)) := fun k b1_0 b1_1 b1_2 b2_0 b2_1 b2_2 b3_0 b3_1 o4 b5_0 b5_1 o6 v3 =>
    some ((1 : Int), b1_0, v3, b5_0, b5_1, o6)
noncomputable def Zbw : Nat → Int → Int → List (Int × Int) → Int → Int → Int → Int → Int → List (Int × Int) → Int → Int → List (Int × Int) → Int → Option (List (Int × Int × Int × Int × Int × List (Int × Int))) := fun k b1_0 b1_1 b1_2 b2_0 b2_1 b2_2 b3_0 b3_1 o4 b5_0 b5_1 o6 v3 =>
    joinL (some [((1 : Int), b1_0, v3, b5_0, b5_1, o6)]) (some [((1 : Int), b1_0, v3, b5_0, b5_1, o6)])
noncomputable def ZjH : Spec := Spec.mk [OSh.ro, OSh.box (26 : Nat) [Sh.int .i64, Sh.int .i64, Sh.snap (0 : Nat) (Ty.pair (Ty.int .i64) (Ty.int .i64))], OSh.box (67 : Nat) [Sh.int .i64, Sh.int .i64, Sh.int .i64], OSh.box (26 : Nat) [Sh.int .i64, Sh.int .i64, Sh.sl (4 : Nat)], OSh.row true (122 : Nat) (Ty.pair (Ty.int .i64) (Ty.int .i64)), OSh.box (26 : Nat) [Sh.int .i64, Sh.int .i64, Sh.sl (6 : Nat)], OSh.row true (122 : Nat) (Ty.pair (Ty.int .i64) (Ty.int .i64))] [((3 : Nat), TSh.at (Sh.int .i64)), ((4 : Nat), TSh.at (Sh.ptr (1 : Nat) (0 : Nat))), ((8 : Nat), TSh.at (Sh.ptr (2 : Nat) (0 : Nat))), ((9 : Nat), TSh.at (Sh.ptr (3 : Nat) (0 : Nat))), ((10 : Nat), TSh.at (Sh.ptr (5 : Nat) (0 : Nat)))]
noncomputable def ZwK : Spec := Spec.mk [OSh.ro, OSh.box (67 : Nat) [Sh.int .i64, Sh.int .i64, Sh.int .i64], OSh.box (26 : Nat) [Sh.int .i64, Sh.int .i64, Sh.sl (3 : Nat)], OSh.row true (122 : Nat) (Ty.pair (Ty.int .i64) (Ty.int .i64))] [((8 : Nat), TSh.at (Sh.ptr (1 : Nat) (0 : Nat))), ((9 : Nat), TSh.at (Sh.ptr (2 : Nat) (0 : Nat)))]
noncomputable def Z6j : LoopDef (Tup Z3I × OutD) := .plain ZjH ZwK (Int × Int × Int × Int × Int × List (Int × Int)) (fun k x => Z7l k x.1.2.1.1 x.1.2.1.2.1 x.1.2.1.2.2.1 x.1.2.2.1.1 x.1.2.2.1.2.1 x.1.2.2.1.2.2.1 x.1.2.2.2.1.1 x.1.2.2.2.1.2.1 x.1.2.2.2.2.1 x.1.2.2.2.2.2.1.1 x.1.2.2.2.2.2.1.2.1 x.1.2.2.2.2.2.2.1 x.2.1) (fun z => (((), (z.1, z.2.1, z.2.2.1, ()), (z.2.2.2.1, z.2.2.2.2.1, (), ()), z.2.2.2.2.2, ()), ((), (), ()))) (fun y => (y.1.2.1.1, y.1.2.1.2.1, y.1.2.1.2.2.1, y.1.2.2.1.1, y.1.2.2.1.2.1, y.1.2.2.2.1)) (fun _ => rfl)
theorem ZwZ (k : Nat) (b1_0 : Int) (b1_1 : Int) (b1_2 : List (Int × Int)) (b2_0 : Int) (b2_1 : Int) (b2_2 : Int) (b3_0 : Int) (b3_1 : Int) (o4 : List (Int × Int)) (b5_0 : Int) (b5_1 : Int) (o6 : List (Int × Int)) (v3 : Int) : Zbw k b1_0 b1_1 b1_2 b2_0 b2_1 b2_2 b3_0 b3_1 o4 b5_0 b5_1 o6 v3 = repl 2 (Z7l k b1_0 b1_1 b1_2 b2_0 b2_1 b2_2 b3_0 b3_1 o4 b5_0 b5_1 o6 v3) := by
 first
 | (simp only [Zbw, Z7l, Z5, Z6, Z2, Z3, Z4, Z1, if_true]; done)
 | (simp only [Zbw, Z7l, Z5, Z6, Z2, Z3, Z4, Z1, if_true]; simp only [Z87, Z84, ZaZ, Z1]; simp only [Zd6]; exact Z9Q ⟨fun h => by simp only [h, and_self], fun h => by simp only [h, and_self]⟩)
noncomputable def Zh5 : Nat → Int × Int × List (Int × Int) → List Int → List (Int × Int × Int) → Int → Option ((Int × Int × Int) × Int × Int × List (Int × Int))
 | 0, _, _, _, _ => none
 | k + 1, p0, p1, p2, p3 =>
  Option.bind (Z8s k (Prod.fst p0, Prod.fst p0.2, Prod.snd p0.2)) fun z0 => Option.bind (Z9m k p0.1 p0.2.1 p0.2.2 (0 : Int) (0 : Int) (0 : Int) (0 : Int) (0 : Int) [] z0.1 z0.2.1 z0.2.2 p1 p2 p3 (0 : Int) (0 : Int)) fun z11 => LR.on z11 (fun y11 => Option.bind (Z7l k y11.1 y11.2.1 y11.2.2.1 y11.2.2.2.1 y11.2.2.2.2.1 y11.2.2.2.2.2.1 y11.2.2.2.2.2.2.1 y11.2.2.2.2.2.2.2.1 y11.2.2.2.2.2.2.2.2.1 y11.2.2.2.2.2.2.2.2.2.1 y11.2.2.2.2.2.2.2.2.2.2.1 y11.2.2.2.2.2.2.2.2.2.2.2.1 y11.2.2.2.2.2.2.2.2.2.2.2.2) fun z12 => some ((Prod.fst z12, Prod.fst z12.2, Prod.fst z12.2.2), Prod.fst z12.2.2.2, Prod.fst z12.2.2.2.2, Prod.snd z12.2.2.2.2)) fun r11 => some r11
noncomputable def Z89 : FnDef := .of ZvC Z3I ((Int × Int × Int) × Int × Int × List (Int × Int)) (fun k x => Zh5 k x.1 x.2.1 x.2.2.1 x.2.2.2.1) ZkH Zkw Zm5
noncomputable def Z4I : Code := Tryz.f114.body.getD .skip
noncomputable def Zn : Ctx (Tup Z3I × OutD) := { T := T, G := [(111, Z5x.E), (105, Z6z.E), (135, Z8a.E), (133, Z5L.E), (134, Z5N.E), (59, Z2K.E)], mvs := [], no := 0, n := 111, res := resOf T ZvC Z3I Tryz.f114.results.toList, loops := [(2, Z8l.E), (0, Z8k.E)], regs := [(9, Z7j.E), (11, Z6f.E), (26, Z6t.E), (27, Z6j.E)], conds := [(52, Z1D.E)], cuts := [] }
theorem Z8b (k : Nat) : EnvOK Tryz.prog k Zn.G := (EnvOK.cons (ZsU k) (EnvOK.cons (ZvD k) (EnvOK.cons (ZF9 k) (EnvOK.cons (ZAL k) (EnvOK.cons (ZAP k) (EnvOK.cons (Za5 k) (EnvOK.nil mixed)))))))
noncomputable def Zfb : Array Oper := (findReg 9 Z4I).getD #[]
theorem Zyv (k : Nat) (x : Zm4.D) : execD Zn.T Zn.G Zn.mvs k Zfb (Z7j.inp.st Zn.n x) (outK Zn Z7j) = Zci k x.1.2.1.1 x.1.2.1.2.1 x.1.2.1.2.2.1 x.1.2.2.1.1 x.1.2.2.1.2.1 x.1.2.2.2.1 x.1.2.2.2.2.1.1 x.1.2.2.2.2.1.2.1 x.1.2.2.2.2.2.1 x.2.1 x.2.2.2.2.2.1 := by kernel_rfl
theorem ZwM (k : Nat) : EOK Tryz.prog Zn k Z7j.E (.region 9 Zfb true) := ZcX (D := Z7j) (m := 2) T_ok (Z8b k) (fun x => (Zyv k x).trans (ZyC k x.1.2.1.1 x.1.2.1.2.1 x.1.2.1.2.2.1 x.1.2.2.1.1 x.1.2.2.1.2.1 x.1.2.2.2.1 x.1.2.2.2.2.1.1 x.1.2.2.2.2.1.2.1 x.1.2.2.2.2.2.1 x.2.1 x.2.2.2.2.2.1))
noncomputable def Zet : Array Oper := (findReg 11 Z4I).getD #[]
theorem Zx4 (k : Nat) (x : ZjW.D) : execD Zn.T Zn.G Zn.mvs k Zet (Z6f.inp.st Zn.n x) (outK Zn Z6f) = Zbt k x.1.2.1.1 x.1.2.1.2.1 x.1.2.1.2.2.1 x.1.2.2.1.1 x.1.2.2.1.2.1 x.1.2.2.2.1 x.1.2.2.2.2.1.1 x.1.2.2.2.2.1.2.1 x.1.2.2.2.2.2.1 x.2.1 x.2.2.2.2.2.1 := by kernel_rfl
theorem ZuR (k : Nat) : EOK Tryz.prog Zn k Z6f.E (.region 11 Zet true) := ZcX (D := Z6f) (m := 2) T_ok (Z8b k) (fun x => (Zx4 k x).trans (ZwP k x.1.2.1.1 x.1.2.1.2.1 x.1.2.1.2.2.1 x.1.2.2.1.1 x.1.2.2.1.2.1 x.1.2.2.2.1 x.1.2.2.2.2.1.1 x.1.2.2.2.2.1.2.1 x.1.2.2.2.2.2.1 x.2.1 x.2.2.2.2.2.1))
noncomputable def Zeu : Array Oper := (findReg 26 Z4I).getD #[]
theorem ZwT (k : Nat) (x : ZkI.D) : execD Zn.T Zn.G Zn.mvs k Zeu (Z6t.inp.st Zn.n x) (outK Zn Z6t) = Zbp k x.1.2.1.1 x.1.2.1.2.1 x.1.2.1.2.2.1 x.1.2.2.1.1 x.1.2.2.1.2.1 x.1.2.2.2.1 x.1.2.2.2.2.1.1 x.1.2.2.2.2.1.2.1 x.1.2.2.2.2.2.1 x.2.1 x.2.2.2.2.2.1 := by kernel_rfl
theorem Zv7 (k : Nat) : EOK Tryz.prog Zn k Z6t.E (.region 26 Zeu true) := ZcX (D := Z6t) (m := 2) T_ok (Z8b k) (fun x => (ZwT k x).trans (Zx6 k x.1.2.1.1 x.1.2.1.2.1 x.1.2.1.2.2.1 x.1.2.2.1.1 x.1.2.2.1.2.1 x.1.2.2.2.1 x.1.2.2.2.2.1.1 x.1.2.2.2.2.1.2.1 x.1.2.2.2.2.2.1 x.2.1 x.2.2.2.2.2.1))
noncomputable def Zew : Array Oper := (findReg 27 Z4I).getD #[]
theorem Zwt (k : Nat) (x : ZjH.D) : execD Zn.T Zn.G Zn.mvs k Zew (Z6j.inp.st Zn.n x) (outK Zn Z6j) = Zbw k x.1.2.1.1 x.1.2.1.2.1 x.1.2.1.2.2.1 x.1.2.2.1.1 x.1.2.2.1.2.1 x.1.2.2.1.2.2.1 x.1.2.2.2.1.1 x.1.2.2.2.1.2.1 x.1.2.2.2.2.1 x.1.2.2.2.2.2.1.1 x.1.2.2.2.2.2.1.2.1 x.1.2.2.2.2.2.2.1 x.2.1 := by kernel_rfl
theorem ZuN (k : Nat) : EOK Tryz.prog Zn k Z6j.E (.region 27 Zew true) := ZcX (D := Z6j) (m := 2) T_ok (Z8b k) (fun x => (Zwt k x).trans (ZwZ k x.1.2.1.1 x.1.2.1.2.1 x.1.2.1.2.2.1 x.1.2.2.1.1 x.1.2.2.1.2.1 x.1.2.2.1.2.2.1 x.1.2.2.2.1.1 x.1.2.2.2.1.2.1 x.1.2.2.2.2.1 x.1.2.2.2.2.2.1.1 x.1.2.2.2.2.2.1.2.1 x.1.2.2.2.2.2.2.1 x.2.1))
noncomputable def ZaX : Code := ((findCond 52 Z4I).map (·.1)).getD .skip
noncomputable def ZaW : Code := ((findCond 52 Z4I).map (·.2)).getD .skip
theorem Zwb (k : Nat) (i : Z1D.inp.D) : Z1D.lp k i = branch (Z1D.inp.st Zn.n i) (.tmp 52) (fun st => exec Zn k ZaX st (outK Zn Z1D) (fun _ _ => none) Z1D.mkB) (fun st => exec Zn k ZaW st (outK Zn Z1D) (fun _ _ => none) Z1D.mkB) := by kernel_rfl
theorem Zv6 (k : Nat) : EOK Tryz.prog Zn k Z1D.E (.cond (.tmp 52) ZaX ZaW) := ZzW (D := Z1D) T_ok (Z8b k) (Zwb k) (@LOK.by _ _ _ _ ZaX [] (by kernel_rfl) AllOK.nil) (@LOK.by _ _ _ _ ZaW [] (by kernel_rfl) AllOK.nil)
noncomputable def Zde : Code := (findLoop 2 Z4I).getD .skip
theorem ZzP (k : Nat) (x : ZgI.D) : Z8l.lp (k + 1) x = loopK Zn Z8l 2 Zde k x := by kernel_rfl
theorem ZA1 (k : Nat) : LOK Tryz.prog Zn k Zde := LOK.by [] (by kernel_rfl) AllOK.nil
theorem ZzO (x : ZgI.D) : Z8l.lp 0 x = none := by kernel_rfl
theorem ZxD (k : Nat) : EOK Tryz.prog Zn k Z8l.E (.block 2 (.loop Zde)) := Zr T_ok Z8b ZzO ZzP ZA1 k
noncomputable def Zd9 : Code := (findLoop 0 Z4I).getD .skip
theorem ZzU (k : Nat) (x : Zh3.D) : Z8k.lp (k + 1) x = loopK Zn Z8k 0 Zd9 k x := by kernel_rfl
theorem ZzK (k : Nat) : LOK Tryz.prog Zn k Zd9 := LOK.by [(Z7j.E, .region 9 Zfb true), (Z6f.E, .region 11 Zet true), (Z1D.E, .cond (.tmp 52) ZaX ZaW), (Z8l.E, .block 2 (.loop Zde)), (Z6t.E, .region 26 Zeu true)] (by kernel_rfl) (AllOK.cons (ZwM k) (AllOK.cons (ZuR k) (AllOK.cons (Zv6 k) (AllOK.cons (ZxD k) (AllOK.cons (Zv7 k) AllOK.nil)))))
theorem ZzF (x : Zh3.D) : Z8k.lp 0 x = none := by kernel_rfl
theorem Zys (k : Nat) : EOK Tryz.prog Zn k Z8k.E (.block 0 (.loop Zd9)) := Zr T_ok Z8b ZzF ZzU ZzK k
theorem ZFp (k : Nat) (x : Tup Z89.ps) : Z89.f (k + 1) x = fnK Z89 Zn Z4I k x := by kernel_rfl
theorem ZFe (x : Tup Z89.ps) : Z89.f 0 x = none := by kernel_rfl
theorem ZFl (k : Nat) : LOK Tryz.prog Zn k Z4I := LOK.by [(Z8k.E, .block 0 (.loop Zd9)), (Z6j.E, .region 27 Zew true)] (by kernel_rfl) (AllOK.cons (Zys k) (AllOK.cons (ZuN k) AllOK.nil))
theorem ZF0 (k : Nat) : SoundAt Tryz.prog k 114 Z89.E := @Zk Tryz.prog Z89 Zn 114 Tryz.f114 Z4I (by kernel_rfl) (by kernel_rfl) (by kernel_rfl) Tryz.func114 (by kernel_rfl) (by kernel_rfl) (by kernel_rfl) T_ok Z8b ZFl ZFe ZFp k
noncomputable def Z5C : List PK := [PK.mk (Ty.pair (Ty.int .i64) (Ty.pair (Ty.int .i64) (Ty.int .i64))) true none false none]
noncomputable def Ziu : List PK := [PK.mk (Ty.pair (Ty.int .i64) (Ty.pair (Ty.int .i64) (Ty.slice (122 : Nat) (Ty.pair (Ty.int .i64) (Ty.int .i64))))) true (some ((2 : Nat), (122 : Nat), Ty.pair (Ty.int .i64) (Ty.int .i64))) false none, PK.mk (Ty.slice (3 : Nat) (Ty.int .i64)) false none false none, PK.mk (Ty.slice (3 : Nat) (Ty.int .i64)) false none false none, PK.mk (Ty.int .i64) false none false none]
noncomputable def ZcW (r : (Int × Int × Int) × List (Int × Int)) : Tup Z5C × OutD := ((r.1, ()), some ⟨Ty.pair (Ty.int .i64) (Ty.int .i64), r.2⟩)
noncomputable def Z9w : Tup Z5C × OutD → Option ((Int × Int × Int) × List (Int × Int))
 | (a, some ⟨u, ys⟩) => if h : u = Ty.pair (Ty.int .i64) (Ty.int .i64) then some (a.1, castU h ys) else none
 | _ => none
theorem ZeH : ∀ b r, Z9w b = some r → ZcW r = b := by
 rintro ⟨a, o⟩ r h
 cases o with
 | none => cases h
 | some s =>
  obtain ⟨u, ys⟩ := s
  simp only [Z9w] at h
  split at h
  ·rename_i hu; subst hu; injection h with h; subst h; rfl
  ·cases h
noncomputable def ZX : Nat → List (Int × Int) → Int → Int → Int → Int → Int → List Int → List Int → Int → Int → Int → Option (LR (List (Int × Int) × Int × Int × Int × Int × Int × Int) ((Int × Int × Int) × List (Int × Int)))
 | 0, _, _, _, _, _, _, _, _, _, _, _ => none
 | k + 1, o1, b2_0, b2_1, b3_0, b3_1, b3_2, v1, v2, v3, v9, v10 =>
  if decide (v10 < b2_0) = true then if (0 : Int) ≤ wrap64 (wrap64 (v10 * b2_1) + v3) then if wrap64 (wrap64 (v10 * b2_1) + v3) < (↑(List.length v2) : Int) then if decide (List.getD v2 (Int.toNat (wrap64 (wrap64 (v10 * b2_1) + v3))) (0 : Int) = (2 : Int)) = true then some (LR.ret (((3 : Int), v10, v3), o1)) else if (0 : Int) ≤ wrap64 (wrap64 (v10 * b2_1) + v3) then if wrap64 (wrap64 (v10 * b2_1) + v3) < (↑(List.length o1) : Int) then Option.bind (ZdW k (Prod.fst (List.getD o1 (Int.toNat (wrap64 (wrap64 (v10 * b2_1) + v3))) ((0 : Int), (0 : Int))), Prod.snd (List.getD o1 (Int.toNat (wrap64 (wrap64 (v10 * b2_1) + v3))) ((0 : Int), (0 : Int)))) v9) fun z0 => if (!Prod.snd z0) = true then some (LR.ret (((2 : Int), v10, v3), o1)) else if (0 : Int) ≤ wrap64 (wrap64 (v10 * b2_1) + v3) then if wrap64 (wrap64 (v10 * b2_1) + v3) < (↑(List.length v2) : Int) then if decide (List.getD v2 (Int.toNat (wrap64 (wrap64 (v10 * b2_1) + v3))) (0 : Int) = (3 : Int)) = true then if (0 : Int) ≤ wrap64 (wrap64 (v10 * b2_1) + v3) then if wrap64 (wrap64 (v10 * b2_1) + v3) < (↑(List.length o1) : Int) then Option.bind (Z2S k (Prod.fst (List.getD o1 (Int.toNat (wrap64 (wrap64 (v10 * b2_1) + v3))) ((0 : Int), (0 : Int))), Prod.snd (List.getD o1 (Int.toNat (wrap64 (wrap64 (v10 * b2_1) + v3))) ((0 : Int), (0 : Int))))) fun z1 => if z1 = true then Option.bind (Z5B k (b2_0, b2_1, o1) v1 v2 (wrap64 (wrap64 (v10 * b2_1) + v3))) fun z2 => if decide (wrap64 (v3 + wrap64 ((0 : Int) - Prod.fst z0)) < (0 : Int)) = true then some (LR.ret (((3 : Int), v10, wrap64 (v3 + wrap64 ((0 : Int) - Prod.fst z0))), z2)) else if decide (wrap64 (v3 + wrap64 ((0 : Int) - Prod.fst z0)) ≥ b2_1) = true then some (LR.ret (((3 : Int), v10, wrap64 (v3 + wrap64 ((0 : Int) - Prod.fst z0))), z2)) else ZX k z2 b2_0 b2_1 b3_0 b3_1 b3_2 v1 v2 (wrap64 (v3 + wrap64 ((0 : Int) - Prod.fst z0))) (wrap64 ((0 : Int) - wrap64 ((0 : Int) - Prod.fst z0))) (wrap64 (v10 + (1 : Int))) else if decide (wrap64 (v3 + wrap64 ((0 : Int) - Prod.fst z0)) < (0 : Int)) = true then some (LR.ret (((3 : Int), v10, wrap64 (v3 + wrap64 ((0 : Int) - Prod.fst z0))), o1)) else if decide (wrap64 (v3 + wrap64 ((0 : Int) - Prod.fst z0)) ≥ b2_1) = true then some (LR.ret (((3 : Int), v10, wrap64 (v3 + wrap64 ((0 : Int) - Prod.fst z0))), o1)) else ZX k o1 b2_0 b2_1 b3_0 b3_1 b3_2 v1 v2 (wrap64 (v3 + wrap64 ((0 : Int) - Prod.fst z0))) (wrap64 ((0 : Int) - wrap64 ((0 : Int) - Prod.fst z0))) (wrap64 (v10 + (1 : Int))) else none else none else if (0 : Int) ≤ wrap64 (wrap64 (v10 * b2_1) + v3) then if wrap64 (wrap64 (v10 * b2_1) + v3) < (↑(List.length o1) : Int) then Option.bind (Z2S k (Prod.fst (List.getD o1 (Int.toNat (wrap64 (wrap64 (v10 * b2_1) + v3))) ((0 : Int), (0 : Int))), Prod.snd (List.getD o1 (Int.toNat (wrap64 (wrap64 (v10 * b2_1) + v3))) ((0 : Int), (0 : Int))))) fun z3 => if z3 = true then Option.bind (Z5B k (b2_0, b2_1, o1) v1 v2 (wrap64 (wrap64 (v10 * b2_1) + v3))) fun z4 => if decide (wrap64 (v3 + Prod.fst z0) < (0 : Int)) = true then some (LR.ret (((3 : Int), v10, wrap64 (v3 + Prod.fst z0)), z4)) else if decide (wrap64 (v3 + Prod.fst z0) ≥ b2_1) = true then some (LR.ret (((3 : Int), v10, wrap64 (v3 + Prod.fst z0)), z4)) else ZX k z4 b2_0 b2_1 b3_0 b3_1 b3_2 v1 v2 (wrap64 (v3 + Prod.fst z0)) (wrap64 ((0 : Int) - Prod.fst z0)) (wrap64 (v10 + (1 : Int))) else if decide (wrap64 (v3 + Prod.fst z0) < (0 : Int)) = true then some (LR.ret (((3 : Int), v10, wrap64 (v3 + Prod.fst z0)), o1)) else if decide (wrap64 (v3 + Prod.fst z0) ≥ b2_1) = true then some (LR.ret (((3 : Int), v10, wrap64 (v3 + Prod.fst z0)), o1)) else ZX k o1 b2_0 b2_1 b3_0 b3_1 b3_2 v1 v2 (wrap64 (v3 + Prod.fst z0)) (wrap64 ((0 : Int) - Prod.fst z0)) (wrap64 (v10 + (1 : Int))) else none else none else none else none else none else none else none else none else some (LR.go (o1, b2_0, b2_1, b3_0, b3_1, b3_2, v3))
noncomputable def Zbc : Spec := Spec.mk [OSh.ro, OSh.row false (122 : Nat) (Ty.pair (Ty.int .i64) (Ty.int .i64)), OSh.box (26 : Nat) [Sh.int .i64, Sh.int .i64, Sh.sl (1 : Nat)], OSh.box (67 : Nat) [Sh.int .i64, Sh.int .i64, Sh.int .i64]] [((1 : Nat), TSh.at (Sh.snap (0 : Nat) (Ty.int .i64))), ((2 : Nat), TSh.at (Sh.snap (0 : Nat) (Ty.int .i64))), ((3 : Nat), TSh.at (Sh.int .i64)), ((4 : Nat), TSh.at (Sh.ptr (2 : Nat) (0 : Nat))), ((8 : Nat), TSh.at (Sh.ptr (3 : Nat) (0 : Nat))), ((9 : Nat), TSh.at (Sh.int .i64)), ((10 : Nat), TSh.at (Sh.int .i64))]
noncomputable def Zpc : Spec := Spec.mk [OSh.ro, OSh.row false (122 : Nat) (Ty.pair (Ty.int .i64) (Ty.int .i64)), OSh.box (26 : Nat) [Sh.int .i64, Sh.int .i64, Sh.sl (1 : Nat)], OSh.box (67 : Nat) [Sh.int .i64, Sh.int .i64, Sh.int .i64]] [((3 : Nat), TSh.at (Sh.int .i64)), ((4 : Nat), TSh.at (Sh.ptr (2 : Nat) (0 : Nat))), ((8 : Nat), TSh.at (Sh.ptr (3 : Nat) (0 : Nat)))]
noncomputable def Z3N : LoopDef (Tup Z5C × OutD) := .rets Zbc Zpc (List (Int × Int) × Int × Int × Int × Int × Int × Int) ((Int × Int × Int) × List (Int × Int)) (fun k x => ZX k x.1.2.1 x.1.2.2.1.1 x.1.2.2.1.2.1 x.1.2.2.2.1.1 x.1.2.2.2.1.2.1 x.1.2.2.2.1.2.2.1 x.2.1 x.2.2.1 x.2.2.2.1 x.2.2.2.2.2.2.1 x.2.2.2.2.2.2.2.1) (fun z => (((), z.1, (z.2.1, z.2.2.1, (), ()), (z.2.2.2.1, z.2.2.2.2.1, z.2.2.2.2.2.1, ()), ()), (z.2.2.2.2.2.2, (), (), ()))) (fun y => (y.1.2.1, y.1.2.2.1.1, y.1.2.2.1.2.1, y.1.2.2.2.1.1, y.1.2.2.2.1.2.1, y.1.2.2.2.1.2.2.1, y.2.1)) (fun _ => rfl) ZcW Z9w ZeH
noncomputable def Zab : Nat → Int × Int × List (Int × Int) → List Int → List Int → Int → Option ((Int × Int × Int) × List (Int × Int))
 | 0, _, _, _, _ => none
 | k + 1, p0, p1, p2, p3 =>
  Option.bind (ZX k p0.2.2 p0.1 p0.2.1 (0 : Int) (0 : Int) (0 : Int) p1 p2 p3 (0 : Int) (0 : Int)) fun z5 => LR.on z5 (fun y5 => some (((1 : Int), Prod.fst y5.2, Prod.snd y5.2.2.2.2.2), Prod.fst y5)) fun r5 => some r5
noncomputable def Z3g : FnDef := .of Ziu Z5C ((Int × Int × Int) × List (Int × Int)) (fun k x => Zab k x.1 x.2.1 x.2.2.1 x.2.2.2.1) ZcW Z9w ZeH
noncomputable def Zaq : Code := Tryz.f119.body.getD .skip
noncomputable def Z4d : Ctx (Tup Z5C × OutD) := { T := T, G := [(138, Z5S.E), (126, Z2U.E), (139, Z3f.E)], mvs := [], no := 1, n := 87, res := resOf T Ziu Z5C Tryz.f119.results.toList, loops := [(0, Z3N.E)], regs := [], conds := [], cuts := [] }
theorem ZiG (k : Nat) : EnvOK Tryz.prog k Z4d.G := (EnvOK.cons (ZB1 k) (EnvOK.cons (Zk5 k) (EnvOK.cons (Zuj k) (EnvOK.nil mixed))))
noncomputable def Z7Q : Code := (findLoop 0 Zaq).getD .skip
theorem Zq1 (k : Nat) (x : Zbc.D) : Z3N.lp (k + 1) x = loopK Z4d Z3N 0 Z7Q k x := by kernel_rfl
theorem Zpp (k : Nat) : LOK Tryz.prog Z4d k Z7Q := LOK.by [] (by kernel_rfl) AllOK.nil
theorem ZoX (x : Zbc.D) : Z3N.lp 0 x = none := by kernel_rfl
theorem ZnD (k : Nat) : EOK Tryz.prog Z4d k Z3N.E (.block 0 (.loop Z7Q)) := Zr T_ok ZiG ZoX Zq1 Zpp k
theorem Zud (k : Nat) (x : Tup Z3g.ps) : Z3g.f (k + 1) x = fnK Z3g Z4d Zaq k x := by kernel_rfl
theorem ZuQ (x : Tup Z3g.ps) : Z3g.f 0 x = none := by kernel_rfl
theorem Zve (k : Nat) : LOK Tryz.prog Z4d k Zaq := LOK.by [(Z3N.E, .block 0 (.loop Z7Q))] (by kernel_rfl) (AllOK.cons (ZnD k) AllOK.nil)
theorem Zv4 (k : Nat) : SoundAt Tryz.prog k 119 Z3g.E := @Zk Tryz.prog Z3g Z4d 119 Tryz.f119 Zaq (by kernel_rfl) (by kernel_rfl) (by kernel_rfl) Tryz.func119 (by kernel_rfl) (by kernel_rfl) (by kernel_rfl) T_ok ZiG Zve ZuQ Zud k
noncomputable def Z7H : List PK := [PK.mk (Ty.pair (Ty.int .i64) (Ty.int .i64)) true none false none]
noncomputable def ZiC : List PK := [PK.mk (Ty.pair (Ty.slice (5 : Nat) (Ty.int .u8)) (Ty.pair (Ty.int .i64) (Ty.int .u64))) false none false (some (82 : Nat))]
noncomputable def Zhz (r : (Int × Int) × Int × Int) : Tup Z7H × OutD := ((r.1, ()), some ⟨Ty.pair (Ty.slice (5 : Nat) (Ty.int .u8)) (Ty.pair (Ty.int .i64) (Ty.int .u64)), [([], r.2)]⟩)
noncomputable def Zcy : Tup Z7H × OutD → Option ((Int × Int) × Int × Int)
 | (a, some ⟨u, ys⟩) => if h : u = Ty.pair (Ty.slice (5 : Nat) (Ty.int .u8)) (Ty.pair (Ty.int .i64) (Ty.int .u64)) then (match castU h ys with
  | [([], y)] => some (a.1, y)
  | _ => none) else none
 | _ => none
theorem ZnT : ∀ b r, Zcy b = some r → Zhz r = b := by
 rintro ⟨a, o⟩ r h
 cases o with
 | none => cases h
 | some s =>
  obtain ⟨u, ys⟩ := s
  simp only [Zcy] at h
  split at h
  ·rename_i hu
   subst hu
   match ys, h with
   | [], h => cases (show (none : Option _) = some r from h)
   | [([], y)], h => injection (show some _ = some r from h) with h; subst h; rfl
   | [(_ :: _, y)], h => cases (show (none : Option _) = some r from h)
   | (h1, _) :: _ :: _, h => cases h1 <;> cases (show (none : Option _) = some r from h)
  ·cases h
noncomputable def Z4g : Nat → List Int × Int × Int → Option ((Int × Int) × Int × Int)
 | 0, _ => none
 | k + 1, p0 =>
  Option.bind (Zft k) fun z0 => Option.bind (Z8 k (Prod.fst p0, Prod.fst p0.2, Prod.snd p0.2) (↑(List.length z0) : Int)) fun z1 => if (0 : Int) ≤ Prod.fst z1 then if Prod.fst z1 < (↑(List.length z0) : Int) then some ((Prod.fst (List.getD z0 (Int.toNat z1.1) ((0 : Int), (0 : Int))), Prod.snd (List.getD z0 (Int.toNat z1.1) ((0 : Int), (0 : Int)))), Prod.fst z1.2, Prod.snd z1.2) else none else none
noncomputable def Z2n : FnDef := .of ZiC Z7H ((Int × Int) × Int × Int) (fun k x => Z4g k x.1) Zhz Zcy ZnT
noncomputable def Zdt : Code := Tryz.f121.body.getD .skip
noncomputable def Zak : Ctx (Tup Z7H × OutD) := { T := T, G := [(144, Z6T.E), (73, ZD.E)], mvs := [], no := 2, n := 12, res := resOf T ZiC Z7H Tryz.f121.results.toList, loops := [], regs := [], conds := [], cuts := [] }
theorem Zvy (k : Nat) : EnvOK Tryz.prog k Zak.G := (EnvOK.cons (ZDj k) (EnvOK.cons (Z2s k) (EnvOK.nil mixed)))
theorem Zvf (k : Nat) (x : Tup Z2n.ps) : Z2n.f (k + 1) x = fnK Z2n Zak Zdt k x := by kernel_rfl
theorem Zul (x : Tup Z2n.ps) : Z2n.f 0 x = none := by kernel_rfl
theorem Zuq (k : Nat) : LOK Tryz.prog Zak k Zdt := LOK.by [] (by kernel_rfl) AllOK.nil
theorem Zil (k : Nat) : SoundAt Tryz.prog k 121 Z2n.E := @Zk Tryz.prog Z2n Zak 121 Tryz.f121 Zdt (by kernel_rfl) (by kernel_rfl) (by kernel_rfl) Tryz.func121 (by kernel_rfl) (by kernel_rfl) (by kernel_rfl) T_ok Zvy Zuq Zul Zvf k
end
end Go.Proofs.YtglkedenkcpcbaaGreatDoor.Vs

set_option maxRecDepth 100000
set_option maxHeartbeats 2000000
set_option linter.unusedVariables false
set_option linter.unusedSimpArgs false
namespace Go.Proofs.YtglkedenkcpcbaaGreatDoor.Vs
open Go.RowKit
noncomputable section
noncomputable def ZaJ : List PK := [PK.mk Ty.str false none false none]
noncomputable def Zno : List PK := [PK.mk (Ty.int .i64) false none false none]
noncomputable def ZlR (r : ByteArray) : Tup ZaJ × OutD := ((r, ()), none)
noncomputable def ZlH : Tup ZaJ × OutD → Option (ByteArray)
 | (a, none) => some (a.1)
 | _ => none
theorem Zt0 : ∀ b r, ZlH b = some r → ZlR r = b := by
 rintro ⟨a, o⟩ r h
 cases o with
 | none => injection h with h; subst h; rfl
 | some _ => cases h
noncomputable def Z8d : Nat → Int → Option ByteArray
 | 0, _ => none
 | k + 1, p0 =>
  Option.bind (Zdm k p0) fun z0 => some z0
noncomputable def Z4R : FnDef := .of Zno ZaJ (ByteArray) (fun k x => Z8d k x.1) ZlR ZlH Zt0
noncomputable def ZgN : Code := Tryz.f56.body.getD .skip
noncomputable def Zd8 : Ctx (Tup ZaJ × OutD) := { T := T, G := [(94, Z1t.E)], mvs := [], no := 0, n := 5, res := resOf T Zno ZaJ Tryz.f56.results.toList, loops := [], regs := [], conds := [], cuts := [] }
theorem ZzS (k : Nat) : EnvOK Tryz.prog k Zd8.G := (EnvOK.cons (Zlv k) (EnvOK.nil mixed))
theorem ZzL (k : Nat) (x : Tup Z4R.ps) : Z4R.f (k + 1) x = fnK Z4R Zd8 ZgN k x := by kernel_rfl
theorem ZzJ (x : Tup Z4R.ps) : Z4R.f 0 x = none := by kernel_rfl
theorem ZA8 (k : Nat) : LOK Tryz.prog Zd8 k ZgN := LOK.by [] (by kernel_rfl) AllOK.nil
theorem ZzC (k : Nat) : SoundAt Tryz.prog k 56 Z4R.E := @Zk Tryz.prog Z4R Zd8 56 Tryz.f56 ZgN (by kernel_rfl) (by kernel_rfl) (by kernel_rfl) Tryz.func56 (by kernel_rfl) (by kernel_rfl) (by kernel_rfl) T_ok ZzS ZA8 ZzJ ZzL k
noncomputable def Z4q : List PK := [PK.mk Ty.bool false none false none]
noncomputable def Zgt : List PK := [PK.mk (Ty.pair (Ty.int .i64) (Ty.pair (Ty.int .i64) (Ty.slice (122 : Nat) (Ty.pair (Ty.int .i64) (Ty.int .i64))))) true none false none, PK.mk (Ty.slice (3 : Nat) (Ty.int .i64)) false none false none]
noncomputable def Zbj (r : Bool) : Tup Z4q × OutD := ((r, ()), none)
noncomputable def Zb1 : Tup Z4q × OutD → Option (Bool)
 | (a, none) => some (a.1)
 | _ => none
theorem Zdj : ∀ b r, Zb1 b = some r → Zbj r = b := by
 rintro ⟨a, o⟩ r h
 cases o with
 | none => injection h with h; subst h; rfl
 | some _ => cases h
noncomputable def Z3x : Nat → Int → Int → List (Int × Int) → List Int → Int → Int → Option (LR Unit Bool)
 | 0, _, _, _, _, _, _ => none
 | k + 1, b1_0, b1_1, b1_2, v15, v16, v17 =>
  if decide (v17 < v16) = true then if (0 : Int) ≤ v17 then if v17 < (↑(List.length v15) : Int) then if decide (List.getD v15 (Int.toNat v17) (0 : Int) < (0 : Int)) = true then some (LR.ret false) else if decide (List.getD v15 (Int.toNat v17) (0 : Int) ≥ b1_1) = true then some (LR.ret false) else Z3x k b1_0 b1_1 b1_2 v15 v16 (wrap64 (v17 + (1 : Int))) else none else none else some (LR.go ())
noncomputable def Za3 : Spec := Spec.mk [OSh.ro, OSh.box (26 : Nat) [Sh.int .i64, Sh.int .i64, Sh.snap (0 : Nat) (Ty.pair (Ty.int .i64) (Ty.int .i64))]] [((2 : Nat), TSh.at (Sh.ptr (1 : Nat) (0 : Nat))), ((15 : Nat), TSh.at (Sh.snap (0 : Nat) (Ty.int .i64))), ((16 : Nat), TSh.at (Sh.int .i64)), ((17 : Nat), TSh.at (Sh.int .i64))]
noncomputable def ZmB : Spec := Spec.mk [OSh.ro] []
noncomputable def Z31 : LoopDef (Tup Z4q × OutD) := .rets Za3 ZmB (Unit) (Bool) (fun k x => Z3x k x.1.2.1.1 x.1.2.1.2.1 x.1.2.1.2.2.1 x.2.2.1 x.2.2.2.1 x.2.2.2.2.1) (fun z => (((), ()), (()))) (fun y => ()) (fun _ => rfl) Zbj Zb1 Zdj
noncomputable def Z94 : Nat → Int × Int × List (Int × Int) → List Int → Option Bool
 | 0, _, _ => none
 | k + 1, p0, p1 =>
  Option.bind (Zd7 k (Prod.fst p0, Prod.fst p0.2, Prod.snd p0.2)) fun z0 => if (!z0) = true then some false else if decide ((↑(List.length p1) : Int) > (60 : Int)) = true then some false else Option.bind (Z3x k p0.1 p0.2.1 p0.2.2 p1 (↑(List.length p1) : Int) (0 : Int)) fun z1 => LR.on z1 (fun y1 => some true) fun r1 => some r1
noncomputable def Z2l : FnDef := .of Zgt Z4q (Bool) (fun k x => Z94 k x.1 x.2.1) Zbj Zb1 Zdj
noncomputable def Z95 : Code := Tryz.f62.body.getD .skip
noncomputable def Z3j : Ctx (Tup Z4q × OutD) := { T := T, G := [(83, Z4P.E)], mvs := [], no := 0, n := 30, res := resOf T Zgt Z4q Tryz.f62.results.toList, loops := [(0, Z31.E)], regs := [], conds := [], cuts := [] }
theorem Zgo (k : Nat) : EnvOK Tryz.prog k Z3j.G := (EnvOK.cons (Zzv k) (EnvOK.nil mixed))
noncomputable def Z6K : Code := (findLoop 0 Z95).getD .skip
theorem Zn2 (k : Nat) (x : Za3.D) : Z31.lp (k + 1) x = loopK Z3j Z31 0 Z6K k x := by kernel_rfl
theorem Zmr (k : Nat) : LOK Tryz.prog Z3j k Z6K := LOK.by [] (by kernel_rfl) AllOK.nil
theorem ZmZ (x : Za3.D) : Z31.lp 0 x = none := by kernel_rfl
theorem Zlm (k : Nat) : EOK Tryz.prog Z3j k Z31.E (.block 0 (.loop Z6K)) := Zr T_ok Zgo ZmZ Zn2 Zmr k
theorem Zrl (k : Nat) (x : Tup Z2l.ps) : Z2l.f (k + 1) x = fnK Z2l Z3j Z95 k x := by kernel_rfl
theorem ZrM (x : Tup Z2l.ps) : Z2l.f 0 x = none := by kernel_rfl
theorem Zrc (k : Nat) : LOK Tryz.prog Z3j k Z95 := LOK.by [(Z31.E, .block 0 (.loop Z6K))] (by kernel_rfl) (AllOK.cons (Zlm k) AllOK.nil)
theorem Zrd (k : Nat) : SoundAt Tryz.prog k 62 Z2l.E := @Zk Tryz.prog Z2l Z3j 62 Tryz.f62 Z95 (by kernel_rfl) (by kernel_rfl) (by kernel_rfl) Tryz.func62 (by kernel_rfl) (by kernel_rfl) (by kernel_rfl) T_ok Zgo Zrc ZrM Zrl k
noncomputable def Z2C : List PK := [PK.mk (Ty.slice (42 : Nat) (Ty.pair (Ty.int .i64) (Ty.pair (Ty.int .i64) (Ty.int .i64)))) false none false none]
noncomputable def ZeX : List PK := [PK.mk (Ty.pair (Ty.int .i64) (Ty.pair (Ty.int .i64) (Ty.slice (122 : Nat) (Ty.pair (Ty.int .i64) (Ty.int .i64))))) true none false none]
noncomputable def ZdQ (r : List (Int × Int × Int)) : Tup Z2C × OutD := ((r, ()), none)
noncomputable def ZdR : Tup Z2C × OutD → Option (List (Int × Int × Int))
 | (a, none) => some (a.1)
 | _ => none
theorem Zjk : ∀ b r, ZdR b = some r → ZdQ r = b := by
 rintro ⟨a, o⟩ r h
 cases o with
 | none => injection h with h; subst h; rfl
 | some _ => cases h
noncomputable def Z1e : Nat → Int → Int → List (Int × Int) → List (Int × Int × Int) → Int → Int → Int → Int → List (Int × Int) → Int → Int → Option (Int × Int × List (Int × Int) × List (Int × Int × Int) × List (Int × Int) × Int × Int)
 | 0, _, _, _, _, _, _, _, _, _, _, _ => none
 | k + 1, b1_0, b1_1, b1_2, o2, b3_0, b3_1, v4, v6, v9, v10, v11 =>
  if decide (v6 ≤ (3 : Int)) = true then Option.bind (Zdh k (b3_0, b3_1) v6) fun z0 => if z0 = true then if b1_1 = (0 : Int) then none else if b1_1 = (0 : Int) then none else if List.length o2 + List.length [(v6, wrap64 (Int.tdiv v4 b1_1), Int.tmod v4 b1_1)] ≤ (140737488355328 / 24 : Nat) then Z1e k b1_0 b1_1 b1_2 (o2 ++ [(v6, wrap64 (Int.tdiv v4 b1_1), Int.tmod v4 b1_1)]) b3_0 b3_1 v4 (wrap64 (v6 + (1 : Int))) v9 v10 v11 else none else Z1e k b1_0 b1_1 b1_2 o2 b3_0 b3_1 v4 (wrap64 (v6 + (1 : Int))) v9 v10 v11 else some (b1_0, b1_1, b1_2, o2, v9, v10, v11)
noncomputable def Z8q : Spec := Spec.mk [OSh.ro, OSh.box (26 : Nat) [Sh.int .i64, Sh.int .i64, Sh.snap (0 : Nat) (Ty.pair (Ty.int .i64) (Ty.int .i64))], OSh.row true (42 : Nat) (Ty.pair (Ty.int .i64) (Ty.pair (Ty.int .i64) (Ty.int .i64))), OSh.box (122 : Nat) [Sh.int .i64, Sh.int .i64]] [((1 : Nat), TSh.at (Sh.ptr (1 : Nat) (0 : Nat))), ((3 : Nat), TSh.at (Sh.sl (2 : Nat))), ((4 : Nat), TSh.at (Sh.int .i64)), ((5 : Nat), TSh.at (Sh.ptr (3 : Nat) (0 : Nat))), ((6 : Nat), TSh.at (Sh.int .i64)), ((9 : Nat), TSh.at (Sh.snap (0 : Nat) (Ty.pair (Ty.int .i64) (Ty.int .i64)))), ((10 : Nat), TSh.at (Sh.int .i64)), ((11 : Nat), TSh.at (Sh.int .i64))]
noncomputable def ZkJ : Spec := Spec.mk [OSh.ro, OSh.box (26 : Nat) [Sh.int .i64, Sh.int .i64, Sh.snap (0 : Nat) (Ty.pair (Ty.int .i64) (Ty.int .i64))], OSh.row true (42 : Nat) (Ty.pair (Ty.int .i64) (Ty.pair (Ty.int .i64) (Ty.int .i64)))] [((1 : Nat), TSh.at (Sh.ptr (1 : Nat) (0 : Nat))), ((3 : Nat), TSh.at (Sh.sl (2 : Nat))), ((9 : Nat), TSh.at (Sh.snap (0 : Nat) (Ty.pair (Ty.int .i64) (Ty.int .i64)))), ((10 : Nat), TSh.at (Sh.int .i64)), ((11 : Nat), TSh.at (Sh.int .i64))]
noncomputable def Z2J : LoopDef (Tup Z2C × OutD) := .plain Z8q ZkJ (Int × Int × List (Int × Int) × List (Int × Int × Int) × List (Int × Int) × Int × Int) (fun k x => Z1e k x.1.2.1.1 x.1.2.1.2.1 x.1.2.1.2.2.1 x.1.2.2.1 x.1.2.2.2.1.1 x.1.2.2.2.1.2.1 x.2.2.2.1 x.2.2.2.2.2.1 x.2.2.2.2.2.2.1 x.2.2.2.2.2.2.2.1 x.2.2.2.2.2.2.2.2.1) (fun z => (((), (z.1, z.2.1, z.2.2.1, ()), z.2.2.2.1, ()), ((), (), z.2.2.2.2.1, z.2.2.2.2.2.1, z.2.2.2.2.2.2, ()))) (fun y => (y.1.2.1.1, y.1.2.1.2.1, y.1.2.1.2.2.1, y.1.2.2.1, y.2.2.2.1, y.2.2.2.2.1, y.2.2.2.2.2.1)) (fun _ => rfl)
noncomputable def Z1X : Nat → Int → Int → List (Int × Int) → List (Int × Int × Int) → List (Int × Int) → Int → Int → Option (List (Int × Int × Int))
 | 0, _, _, _, _, _, _, _ => none
 | k + 1, b1_0, b1_1, b1_2, o2, v9, v10, v11 =>
  if decide (v11 < v10) = true then if (0 : Int) ≤ v11 then if v11 < (↑(List.length v9) : Int) then Option.bind (Z1e k b1_0 b1_1 b1_2 o2 (Prod.fst (List.getD v9 (Int.toNat v11) ((0 : Int), (0 : Int)))) (Prod.snd (List.getD v9 (Int.toNat v11) ((0 : Int), (0 : Int)))) v11 (1 : Int) v9 v10 v11) fun z1 => Z1X k z1.1 z1.2.1 z1.2.2.1 z1.2.2.2.1 z1.2.2.2.2.1 z1.2.2.2.2.2.1 (wrap64 (Prod.snd z1.2.2.2.2.2 + (1 : Int))) else none else none else some o2
noncomputable def Z8o : Spec := Spec.mk [OSh.ro, OSh.box (26 : Nat) [Sh.int .i64, Sh.int .i64, Sh.snap (0 : Nat) (Ty.pair (Ty.int .i64) (Ty.int .i64))], OSh.row true (42 : Nat) (Ty.pair (Ty.int .i64) (Ty.pair (Ty.int .i64) (Ty.int .i64)))] [((1 : Nat), TSh.at (Sh.ptr (1 : Nat) (0 : Nat))), ((3 : Nat), TSh.at (Sh.sl (2 : Nat))), ((9 : Nat), TSh.at (Sh.snap (0 : Nat) (Ty.pair (Ty.int .i64) (Ty.int .i64)))), ((10 : Nat), TSh.at (Sh.int .i64)), ((11 : Nat), TSh.at (Sh.int .i64))]
noncomputable def Zk0 : Spec := Spec.mk [OSh.ro, OSh.row true (42 : Nat) (Ty.pair (Ty.int .i64) (Ty.pair (Ty.int .i64) (Ty.int .i64)))] [((3 : Nat), TSh.at (Sh.sl (1 : Nat)))]
noncomputable def Z2B : LoopDef (Tup Z2C × OutD) := .plain Z8o Zk0 (List (Int × Int × Int)) (fun k x => Z1X k x.1.2.1.1 x.1.2.1.2.1 x.1.2.1.2.2.1 x.1.2.2.1 x.2.2.2.1 x.2.2.2.2.1 x.2.2.2.2.2.1) (fun z => (((), z, ()), ((), ()))) (fun y => (y.1.2.1)) (fun _ => rfl)
noncomputable def Z7n : Nat → Int × Int × List (Int × Int) → Option (List (Int × Int × Int))
 | 0, _ => none
 | k + 1, p0 =>
  Option.bind (Z1X k p0.1 p0.2.1 p0.2.2 [] p0.2.2 (↑(List.length p0.2.2) : Int) (0 : Int)) fun z2 => some z2
noncomputable def Z1O : FnDef := .of ZeX Z2C (List (Int × Int × Int)) (fun k x => Z7n k x.1) ZdQ ZdR Zjk
noncomputable def Z4Z : Code := Tryz.f63.body.getD .skip
noncomputable def Z1d : Ctx (Tup Z2C × OutD) := { T := T, G := [(101, Z57.E)], mvs := [], no := 0, n := 38, res := resOf T ZeX Z2C Tryz.f63.results.toList, loops := [(2, Z2J.E), (0, Z2B.E)], regs := [], conds := [], cuts := [] }
theorem Zaz (k : Nat) : EnvOK Tryz.prog k Z1d.G := (EnvOK.cons (ZzQ k) (EnvOK.nil mixed))
noncomputable def Z5s : Code := (findLoop 2 Z4Z).getD .skip
theorem ZkB (k : Nat) (x : Z8q.D) : Z2J.lp (k + 1) x = loopK Z1d Z2J 2 Z5s k x := by kernel_rfl
theorem ZjQ (k : Nat) : LOK Tryz.prog Z1d k Z5s := LOK.by [] (by kernel_rfl) AllOK.nil
theorem ZjU (x : Z8q.D) : Z2J.lp 0 x = none := by kernel_rfl
theorem Zj0 (k : Nat) : EOK Tryz.prog Z1d k Z2J.E (.block 2 (.loop Z5s)) := Zr T_ok Zaz ZjU ZkB ZjQ k
noncomputable def Z5v : Code := (findLoop 0 Z4Z).getD .skip
theorem ZjL (k : Nat) (x : Z8o.D) : Z2B.lp (k + 1) x = loopK Z1d Z2B 0 Z5v k x := by kernel_rfl
theorem ZjM (k : Nat) : LOK Tryz.prog Z1d k Z5v := LOK.by [(Z2J.E, .block 2 (.loop Z5s))] (by kernel_rfl) (AllOK.cons (Zj0 k) AllOK.nil)
theorem ZkD (x : Z8o.D) : Z2B.lp 0 x = none := by kernel_rfl
theorem Zjm (k : Nat) : EOK Tryz.prog Z1d k Z2B.E (.block 0 (.loop Z5v)) := Zr T_ok Zaz ZkD ZjL ZjM k
theorem Znm (k : Nat) (x : Tup Z1O.ps) : Z1O.f (k + 1) x = fnK Z1O Z1d Z4Z k x := by kernel_rfl
theorem ZoI (x : Tup Z1O.ps) : Z1O.f 0 x = none := by kernel_rfl
theorem ZnB (k : Nat) : LOK Tryz.prog Z1d k Z4Z := LOK.by [(Z2B.E, .block 0 (.loop Z5v))] (by kernel_rfl) (AllOK.cons (Zjm k) AllOK.nil)
theorem Zoe (k : Nat) : SoundAt Tryz.prog k 63 Z1O.E := @Zk Tryz.prog Z1O Z1d 63 Tryz.f63 Z4Z (by kernel_rfl) (by kernel_rfl) (by kernel_rfl) Tryz.func63 (by kernel_rfl) (by kernel_rfl) (by kernel_rfl) T_ok Zaz ZnB ZoI Znm k
noncomputable def Z8t : List PK := [PK.mk (Ty.slice (67 : Nat) (Ty.pair (Ty.int .i64) (Ty.pair (Ty.int .i64) (Ty.int .i64)))) false none false none, PK.mk (Ty.pair (Ty.int .i64) (Ty.pair (Ty.int .i64) (Ty.slice (122 : Nat) (Ty.pair (Ty.int .i64) (Ty.int .i64))))) true none false none]
noncomputable def ZtE : List PK := [PK.mk (Ty.pair (Ty.int .i64) (Ty.pair (Ty.int .i64) (Ty.slice (122 : Nat) (Ty.pair (Ty.int .i64) (Ty.int .i64))))) true none false none, PK.mk (Ty.slice (42 : Nat) (Ty.pair (Ty.int .i64) (Ty.pair (Ty.int .i64) (Ty.int .i64)))) false none false none, PK.mk (Ty.slice (3 : Nat) (Ty.int .i64)) false none false none]
noncomputable def Zqj (r : List (Int × Int × Int) × Int × Int × List (Int × Int)) : Tup Z8t × OutD := ((r.1, r.2, ()), none)
noncomputable def Zqo : Tup Z8t × OutD → Option (List (Int × Int × Int) × Int × Int × List (Int × Int))
 | (a, none) => some (a.1, a.2.1)
 | _ => none
theorem ZwI : ∀ b r, Zqo b = some r → Zqj r = b := by
 rintro ⟨a, o⟩ r h
 cases o with
 | none => injection h with h; subst h; rfl
 | some _ => cases h
noncomputable def Z5i : Nat → Int → Int → List (Int × Int) → Int → Int → List (Int × Int) → List (Int × Int × Int) → List Int → Option (Int × Int × List (Int × Int) × Int × Int × List (Int × Int) × List Int × List (Int × Int × Int) × List Int) := fun k b1_0 b1_1 b1_2 b2_0 b2_1 o3 v1 v2 =>
    Option.bind (Z8s k (b1_0, b1_1, b1_2)) fun z0 => Option.bind (Z5h k (b1_0, b1_1, b1_2)) fun z1 => some (b2_0, b2_1, o3, Prod.fst z0, Prod.fst z0.2, Prod.snd z0.2, z1, v1, v2)
noncomputable def Zb3 : Nat → Int → Int → List (Int × Int) → Int → Int → List (Int × Int) → List (Int × Int × Int) → List Int → Option (List (Int × Int × List (Int × Int) × Int × Int × List (Int × Int) × List Int × List (Int × Int × Int) × List Int)) := fun k b1_0 b1_1 b1_2 b2_0 b2_1 o3 v1 v2 =>
    joinL (Option.bind (Z8s k (b1_0, b1_1, b1_2)) fun z2 => joinL (Option.bind (Z5h k (b1_0, b1_1, b1_2)) fun z3 => some [(b2_0, b2_1, o3, Prod.fst z2, Prod.fst z2.2, Prod.snd z2.2, z3, v1, v2)]) (Option.bind (Z5h k (b1_0, b1_1, b1_2)) fun z4 => some [(b2_0, b2_1, o3, Prod.fst z2, Prod.fst z2.2, Prod.snd z2.2, z4, v1, v2)])) (Option.bind (Z8s k (b1_0, b1_1, b1_2)) fun z5 => Option.bind (Z5h k (b1_0, b1_1, b1_2)) fun z6 => some [(b2_0, b2_1, o3, Prod.fst z5, Prod.fst z5.2, Prod.snd z5.2, z6, v1, v2)])
noncomputable def Zk3 : Spec := Spec.mk [OSh.ro, OSh.box (26 : Nat) [Sh.int .i64, Sh.int .i64, Sh.snap (0 : Nat) (Ty.pair (Ty.int .i64) (Ty.int .i64))], OSh.box (26 : Nat) [Sh.int .i64, Sh.int .i64, Sh.sl (3 : Nat)], OSh.row true (122 : Nat) (Ty.pair (Ty.int .i64) (Ty.int .i64))] [((1 : Nat), TSh.at (Sh.snap (0 : Nat) (Ty.pair (Ty.int .i64) (Ty.pair (Ty.int .i64) (Ty.int .i64))))), ((2 : Nat), TSh.at (Sh.snap (0 : Nat) (Ty.int .i64))), ((3 : Nat), TSh.at (Sh.ptr (1 : Nat) (0 : Nat))), ((7 : Nat), TSh.at (Sh.ptr (2 : Nat) (0 : Nat)))]
noncomputable def ZwD : Spec := Spec.mk [OSh.ro, OSh.box (26 : Nat) [Sh.int .i64, Sh.int .i64, Sh.sl (2 : Nat)], OSh.row true (122 : Nat) (Ty.pair (Ty.int .i64) (Ty.int .i64)), OSh.box (26 : Nat) [Sh.int .i64, Sh.int .i64, Sh.sl (4 : Nat)], OSh.row true (122 : Nat) (Ty.pair (Ty.int .i64) (Ty.int .i64)), OSh.row true (3 : Nat) (Ty.int .i64)] [((1 : Nat), TSh.at (Sh.snap (0 : Nat) (Ty.pair (Ty.int .i64) (Ty.pair (Ty.int .i64) (Ty.int .i64))))), ((2 : Nat), TSh.at (Sh.snap (0 : Nat) (Ty.int .i64))), ((7 : Nat), TSh.at (Sh.ptr (1 : Nat) (0 : Nat))), ((8 : Nat), TSh.at (Sh.ptr (3 : Nat) (0 : Nat))), ((9 : Nat), TSh.at (Sh.sl (5 : Nat)))]
noncomputable def Z6o : LoopDef (Tup Z8t × OutD) := .plain Zk3 ZwD (Int × Int × List (Int × Int) × Int × Int × List (Int × Int) × List Int × List (Int × Int × Int) × List Int) (fun k x => Z5i k x.1.2.1.1 x.1.2.1.2.1 x.1.2.1.2.2.1 x.1.2.2.1.1 x.1.2.2.1.2.1 x.1.2.2.2.1 x.2.1 x.2.2.1) (fun z => (((), (z.1, z.2.1, (), ()), z.2.2.1, (z.2.2.2.1, z.2.2.2.2.1, (), ()), z.2.2.2.2.2.1, z.2.2.2.2.2.2.1, ()), (z.2.2.2.2.2.2.2.1, z.2.2.2.2.2.2.2.2, (), (), (), ()))) (fun y => (y.1.2.1.1, y.1.2.1.2.1, y.1.2.2.1, y.1.2.2.2.1.1, y.1.2.2.2.1.2.1, y.1.2.2.2.2.1, y.1.2.2.2.2.2.1, y.2.1, y.2.2.1)) (fun _ => rfl)
theorem Zwr (k : Nat) (b1_0 : Int) (b1_1 : Int) (b1_2 : List (Int × Int)) (b2_0 : Int) (b2_1 : Int) (o3 : List (Int × Int)) (v1 : List (Int × Int × Int)) (v2 : List Int) : Zb3 k b1_0 b1_1 b1_2 b2_0 b2_1 o3 v1 v2 = repl 3 (Z5i k b1_0 b1_1 b1_2 b2_0 b2_1 o3 v1 v2) := by
 first
 | (simp only [Zb3, Z5i, Z5, Z6, Z2, Z3, Z4, Z1, if_true]; done)
 | (simp only [Zb3, Z5i, Z5, Z6, Z2, Z3, Z4, Z1, if_true]; simp only [Z87, Z84, ZaZ, Z1]; simp only [Zd6]; exact Z9Q ⟨fun h => by simp only [h, and_self], fun h => by simp only [h, and_self]⟩)
noncomputable def Z8i : Nat → Int → Int → List (Int × Int) → Int → Int → List (Int × Int) → List Int → List (Int × Int × Int) → List (Int × Int × Int) → List Int → Int → Int → Option (Int × Int × List (Int × Int) × Int × Int × List (Int × Int) × List (Int × Int × Int))
 | 0, _, _, _, _, _, _, _, _, _, _, _, _ => none
 | k + 1, b1_0, b1_1, o2, b3_0, b3_1, o4, o5, o6, v1, v19, v20, v21 =>
  if decide (v21 < v20) = true then if (0 : Int) ≤ v21 then if v21 < (↑(List.length v19) : Int) then Option.bind (Zh5 k (b3_0, b3_1, o4) o5 v1 (List.getD v19 (Int.toNat v21) (0 : Int))) fun z8 => if List.length o6 + List.length [(Prod.fst z8.1, Prod.fst z8.1.2, Prod.snd z8.1.2)] ≤ (140737488355328 / 24 : Nat) then Z8i k b1_0 b1_1 o2 z8.2.1 z8.2.2.1 z8.2.2.2 o5 (o6 ++ [(Prod.fst z8.1, Prod.fst z8.1.2, Prod.snd z8.1.2)]) v1 v19 v20 (wrap64 (v21 + (1 : Int))) else none else none else none else some (b1_0, b1_1, o2, b3_0, b3_1, o4, o6)
noncomputable def Zfh : Spec := Spec.mk [OSh.ro, OSh.box (26 : Nat) [Sh.int .i64, Sh.int .i64, Sh.sl (2 : Nat)], OSh.row true (122 : Nat) (Ty.pair (Ty.int .i64) (Ty.int .i64)), OSh.box (26 : Nat) [Sh.int .i64, Sh.int .i64, Sh.sl (4 : Nat)], OSh.row true (122 : Nat) (Ty.pair (Ty.int .i64) (Ty.int .i64)), OSh.row true (3 : Nat) (Ty.int .i64), OSh.row true (67 : Nat) (Ty.pair (Ty.int .i64) (Ty.pair (Ty.int .i64) (Ty.int .i64)))] [((1 : Nat), TSh.at (Sh.snap (0 : Nat) (Ty.pair (Ty.int .i64) (Ty.pair (Ty.int .i64) (Ty.int .i64))))), ((7 : Nat), TSh.at (Sh.ptr (1 : Nat) (0 : Nat))), ((8 : Nat), TSh.at (Sh.ptr (3 : Nat) (0 : Nat))), ((9 : Nat), TSh.at (Sh.sl (5 : Nat))), ((10 : Nat), TSh.at (Sh.sl (6 : Nat))), ((19 : Nat), TSh.at (Sh.snap (0 : Nat) (Ty.int .i64))), ((20 : Nat), TSh.at (Sh.int .i64)), ((21 : Nat), TSh.at (Sh.int .i64))]
noncomputable def ZxT : Spec := Spec.mk [OSh.ro, OSh.box (26 : Nat) [Sh.int .i64, Sh.int .i64, Sh.sl (2 : Nat)], OSh.row true (122 : Nat) (Ty.pair (Ty.int .i64) (Ty.int .i64)), OSh.box (26 : Nat) [Sh.int .i64, Sh.int .i64, Sh.sl (4 : Nat)], OSh.row true (122 : Nat) (Ty.pair (Ty.int .i64) (Ty.int .i64)), OSh.row true (67 : Nat) (Ty.pair (Ty.int .i64) (Ty.pair (Ty.int .i64) (Ty.int .i64)))] [((7 : Nat), TSh.at (Sh.ptr (1 : Nat) (0 : Nat))), ((8 : Nat), TSh.at (Sh.ptr (3 : Nat) (0 : Nat))), ((10 : Nat), TSh.at (Sh.sl (5 : Nat)))]
noncomputable def Z75 : LoopDef (Tup Z8t × OutD) := .plain Zfh ZxT (Int × Int × List (Int × Int) × Int × Int × List (Int × Int) × List (Int × Int × Int)) (fun k x => Z8i k x.1.2.1.1 x.1.2.1.2.1 x.1.2.2.1 x.1.2.2.2.1.1 x.1.2.2.2.1.2.1 x.1.2.2.2.2.1 x.1.2.2.2.2.2.1 x.1.2.2.2.2.2.2.1 x.2.1 x.2.2.2.2.2.2.1 x.2.2.2.2.2.2.2.1 x.2.2.2.2.2.2.2.2.1) (fun z => (((), (z.1, z.2.1, (), ()), z.2.2.1, (z.2.2.2.1, z.2.2.2.2.1, (), ()), z.2.2.2.2.2.1, z.2.2.2.2.2.2, ()), ((), (), (), ()))) (fun y => (y.1.2.1.1, y.1.2.1.2.1, y.1.2.2.1, y.1.2.2.2.1.1, y.1.2.2.2.1.2.1, y.1.2.2.2.2.1, y.1.2.2.2.2.2.1)) (fun _ => rfl)
noncomputable def Z2z : Nat → Int × Int × List (Int × Int) → List (Int × Int × Int) → List Int → Option (List (Int × Int × Int) × Int × Int × List (Int × Int))
 | 0, _, _, _ => none
 | k + 1, p0, p1, p2 =>
  Option.bind (Z5i k p0.1 p0.2.1 p0.2.2 (0 : Int) (0 : Int) [] p1 p2) fun z7 => Option.bind (Z8i k z7.1 z7.2.1 z7.2.2.1 z7.2.2.2.1 z7.2.2.2.2.1 z7.2.2.2.2.2.1 z7.2.2.2.2.2.2.1 [] z7.2.2.2.2.2.2.2.1 z7.2.2.2.2.2.2.2.2 (↑(List.length z7.2.2.2.2.2.2.2.2) : Int) (0 : Int)) fun z9 => some (Prod.snd z9.2.2.2.2.2, Prod.fst z9.2.2.2, Prod.fst z9.2.2.2.2, Prod.fst z9.2.2.2.2.2)
noncomputable def Z4D : FnDef := .of ZtE Z8t (List (Int × Int × Int) × Int × Int × List (Int × Int)) (fun k x => Z2z k x.1 x.2.1 x.2.2.1) Zqj Zqo ZwI
noncomputable def ZcK : Code := Tryz.f86.body.getD .skip
noncomputable def Z2y : Ctx (Tup Z8t × OutD) := { T := T, G := [(111, Z5x.E), (112, Z4o.E), (114, Z89.E)], mvs := [], no := 0, n := 41, res := resOf T ZtE Z8t Tryz.f86.results.toList, loops := [(0, Z75.E)], regs := [(1, Z6o.E)], conds := [], cuts := [] }
theorem Zjx (k : Nat) : EnvOK Tryz.prog k Z2y.G := (EnvOK.cons (ZsU k) (EnvOK.cons (Zxq k) (EnvOK.cons (ZF0 k) (EnvOK.nil mixed))))
noncomputable def ZeA : Array Oper := (findReg 1 ZcK).getD #[]
theorem ZwE (k : Nat) (x : Zk3.D) : execD Z2y.T Z2y.G Z2y.mvs k ZeA (Z6o.inp.st Z2y.n x) (outK Z2y Z6o) = Zb3 k x.1.2.1.1 x.1.2.1.2.1 x.1.2.1.2.2.1 x.1.2.2.1.1 x.1.2.2.1.2.1 x.1.2.2.2.1 x.2.1 x.2.2.1 := by kernel_rfl
theorem ZvB (k : Nat) : EOK Tryz.prog Z2y k Z6o.E (.region 1 ZeA true) := ZcX (D := Z6o) (m := 3) T_ok (Zjx k) (fun x => (ZwE k x).trans (Zwr k x.1.2.1.1 x.1.2.1.2.1 x.1.2.1.2.2.1 x.1.2.2.1.1 x.1.2.2.1.2.1 x.1.2.2.2.1 x.2.1 x.2.2.1))
noncomputable def Zco : Code := (findLoop 0 ZcK).getD .skip
theorem ZyN (k : Nat) (x : Zfh.D) : Z75.lp (k + 1) x = loopK Z2y Z75 0 Zco k x := by kernel_rfl
theorem Zya (k : Nat) : LOK Tryz.prog Z2y k Zco := LOK.by [] (by kernel_rfl) AllOK.nil
theorem Zyf (x : Zfh.D) : Z75.lp 0 x = none := by kernel_rfl
theorem Zx1 (k : Nat) : EOK Tryz.prog Z2y k Z75.E (.block 0 (.loop Zco)) := Zr T_ok Zjx Zyf ZyN Zya k
theorem ZDf (k : Nat) (x : Tup Z4D.ps) : Z4D.f (k + 1) x = fnK Z4D Z2y ZcK k x := by kernel_rfl
theorem ZDJ (x : Tup Z4D.ps) : Z4D.f 0 x = none := by kernel_rfl
theorem ZDz (k : Nat) : LOK Tryz.prog Z2y k ZcK := LOK.by [(Z6o.E, .region 1 ZeA true), (Z75.E, .block 0 (.loop Zco))] (by kernel_rfl) (AllOK.cons (ZvB k) (AllOK.cons (Zx1 k) AllOK.nil))
theorem Zkd (k : Nat) : SoundAt Tryz.prog k 86 Z4D.E := @Zk Tryz.prog Z4D Z2y 86 Tryz.f86 ZcK (by kernel_rfl) (by kernel_rfl) (by kernel_rfl) Tryz.func86 (by kernel_rfl) (by kernel_rfl) (by kernel_rfl) T_ok Zjx ZDz ZDJ ZDf k
noncomputable def Z52 : List PK := [PK.mk (Ty.slice (67 : Nat) (Ty.pair (Ty.int .i64) (Ty.pair (Ty.int .i64) (Ty.int .i64)))) false none false none, PK.mk (Ty.pair (Ty.int .i64) (Ty.pair (Ty.int .i64) (Ty.slice (122 : Nat) (Ty.pair (Ty.int .i64) (Ty.int .i64))))) true none false none]
noncomputable def ZhD : List PK := [PK.mk (Ty.pair (Ty.int .i64) (Ty.pair (Ty.int .i64) (Ty.slice (122 : Nat) (Ty.pair (Ty.int .i64) (Ty.int .i64))))) true none false none, PK.mk (Ty.slice (42 : Nat) (Ty.pair (Ty.int .i64) (Ty.pair (Ty.int .i64) (Ty.int .i64)))) false none false none, PK.mk (Ty.slice (3 : Nat) (Ty.int .i64)) false none false none]
noncomputable def Zg5 (r : List (Int × Int × Int) × Int × Int × List (Int × Int)) : Tup Z52 × OutD := ((r.1, r.2, ()), none)
noncomputable def Zgr : Tup Z52 × OutD → Option (List (Int × Int × Int) × Int × Int × List (Int × Int))
 | (a, none) => some (a.1, a.2.1)
 | _ => none
theorem ZmL : ∀ b r, Zgr b = some r → Zg5 r = b := by
 rintro ⟨a, o⟩ r h
 cases o with
 | none => injection h with h; subst h; rfl
 | some _ => cases h
noncomputable def Z3X : Nat → Int → Int → List (Int × Int) → Int → Int → List (Int × Int) → List Int → List Int → List (Int × Int × Int) → List Int → Int → Int → Option (Int × Int × List (Int × Int) × Int × Int × List (Int × Int) × List (Int × Int × Int))
 | 0, _, _, _, _, _, _, _, _, _, _, _, _ => none
 | k + 1, b1_0, b1_1, o2, b3_0, b3_1, o4, o5, o6, o7, v22, v23, v24 =>
  if decide (v24 < v23) = true then if (0 : Int) ≤ v24 then if v24 < (↑(List.length v22) : Int) then Option.bind (Zab k (b3_0, b3_1, o4) o5 o6 (List.getD v22 (Int.toNat v24) (0 : Int))) fun z3 => if List.length o7 + List.length [(Prod.fst z3.1, Prod.fst z3.1.2, Prod.snd z3.1.2)] ≤ (140737488355328 / 24 : Nat) then Z3X k b1_0 b1_1 o2 b3_0 b3_1 z3.2 o5 o6 (o7 ++ [(Prod.fst z3.1, Prod.fst z3.1.2, Prod.snd z3.1.2)]) v22 v23 (wrap64 (v24 + (1 : Int))) else none else none else none else some (b1_0, b1_1, o2, b3_0, b3_1, o4, o7)
noncomputable def ZaO : Spec := Spec.mk [OSh.ro, OSh.box (26 : Nat) [Sh.int .i64, Sh.int .i64, Sh.sl (2 : Nat)], OSh.row true (122 : Nat) (Ty.pair (Ty.int .i64) (Ty.int .i64)), OSh.box (26 : Nat) [Sh.int .i64, Sh.int .i64, Sh.sl (4 : Nat)], OSh.row true (122 : Nat) (Ty.pair (Ty.int .i64) (Ty.int .i64)), OSh.row true (3 : Nat) (Ty.int .i64), OSh.row true (3 : Nat) (Ty.int .i64), OSh.row true (67 : Nat) (Ty.pair (Ty.int .i64) (Ty.pair (Ty.int .i64) (Ty.int .i64)))] [((7 : Nat), TSh.at (Sh.ptr (1 : Nat) (0 : Nat))), ((8 : Nat), TSh.at (Sh.ptr (3 : Nat) (0 : Nat))), ((9 : Nat), TSh.at (Sh.sl (5 : Nat))), ((10 : Nat), TSh.at (Sh.sl (6 : Nat))), ((11 : Nat), TSh.at (Sh.sl (7 : Nat))), ((22 : Nat), TSh.at (Sh.snap (0 : Nat) (Ty.int .i64))), ((23 : Nat), TSh.at (Sh.int .i64)), ((24 : Nat), TSh.at (Sh.int .i64))]
noncomputable def Zon : Spec := Spec.mk [OSh.ro, OSh.box (26 : Nat) [Sh.int .i64, Sh.int .i64, Sh.sl (2 : Nat)], OSh.row true (122 : Nat) (Ty.pair (Ty.int .i64) (Ty.int .i64)), OSh.box (26 : Nat) [Sh.int .i64, Sh.int .i64, Sh.sl (4 : Nat)], OSh.row true (122 : Nat) (Ty.pair (Ty.int .i64) (Ty.int .i64)), OSh.row true (67 : Nat) (Ty.pair (Ty.int .i64) (Ty.pair (Ty.int .i64) (Ty.int .i64)))] [((7 : Nat), TSh.at (Sh.ptr (1 : Nat) (0 : Nat))), ((8 : Nat), TSh.at (Sh.ptr (3 : Nat) (0 : Nat))), ((11 : Nat), TSh.at (Sh.sl (5 : Nat)))]
noncomputable def Z3A : LoopDef (Tup Z52 × OutD) := .plain ZaO Zon (Int × Int × List (Int × Int) × Int × Int × List (Int × Int) × List (Int × Int × Int)) (fun k x => Z3X k x.1.2.1.1 x.1.2.1.2.1 x.1.2.2.1 x.1.2.2.2.1.1 x.1.2.2.2.1.2.1 x.1.2.2.2.2.1 x.1.2.2.2.2.2.1 x.1.2.2.2.2.2.2.1 x.1.2.2.2.2.2.2.2.1 x.2.2.2.2.2.2.1 x.2.2.2.2.2.2.2.1 x.2.2.2.2.2.2.2.2.1) (fun z => (((), (z.1, z.2.1, (), ()), z.2.2.1, (z.2.2.2.1, z.2.2.2.2.1, (), ()), z.2.2.2.2.2.1, z.2.2.2.2.2.2, ()), ((), (), (), ()))) (fun y => (y.1.2.1.1, y.1.2.1.2.1, y.1.2.2.1, y.1.2.2.2.1.1, y.1.2.2.2.1.2.1, y.1.2.2.2.2.1, y.1.2.2.2.2.2.1)) (fun _ => rfl)
noncomputable def Z6V : Nat → Int × Int × List (Int × Int) → List (Int × Int × Int) → List Int → Option (List (Int × Int × Int) × Int × Int × List (Int × Int))
 | 0, _, _, _ => none
 | k + 1, p0, p1, p2 =>
  Option.bind (Zbu k (Prod.fst p0, Prod.fst p0.2, Prod.snd p0.2)) fun z0 => Option.bind (Z8K k (Prod.fst p0, Prod.fst p0.2, Prod.snd p0.2)) fun z1 => Option.bind (Z8T k (Prod.fst p0, Prod.fst p0.2, Prod.snd p0.2) p1) fun z2 => Option.bind (Z3X k (0 : Int) (0 : Int) [] z0.1 z0.2.1 z0.2.2 z1 z2 [] p2 (↑(List.length p2) : Int) (0 : Int)) fun z4 => some (Prod.snd z4.2.2.2.2.2, Prod.fst z4.2.2.2, Prod.fst z4.2.2.2.2, Prod.fst z4.2.2.2.2.2)
noncomputable def Z25 : FnDef := .of ZhD Z52 (List (Int × Int × Int) × Int × Int × List (Int × Int)) (fun k x => Z6V k x.1 x.2.1 x.2.2.1) Zg5 Zgr ZmL
noncomputable def Z9F : Code := Tryz.f88.body.getD .skip
noncomputable def Z3F : Ctx (Tup Z52 × OutD) := { T := T, G := [(116, Z3G.E), (117, Z2b.E), (118, Z2f.E), (119, Z3g.E)], mvs := [], no := 0, n := 39, res := resOf T ZhD Z52 Tryz.f88.results.toList, loops := [(0, Z3A.E)], regs := [], conds := [], cuts := [] }
theorem ZhK (k : Nat) : EnvOK Tryz.prog k Z3F.G := (EnvOK.cons (ZwB k) (EnvOK.cons (Zr4 k) (EnvOK.cons (Zs9 k) (EnvOK.cons (Zv4 k) (EnvOK.nil mixed)))))
noncomputable def Z7t : Code := (findLoop 0 Z9F).getD .skip
theorem Zo7 (k : Nat) (x : ZaO.D) : Z3A.lp (k + 1) x = loopK Z3F Z3A 0 Z7t k x := by kernel_rfl
theorem Zox (k : Nat) : LOK Tryz.prog Z3F k Z7t := LOK.by [] (by kernel_rfl) AllOK.nil
theorem ZnK (x : ZaO.D) : Z3A.lp 0 x = none := by kernel_rfl
theorem ZmK (k : Nat) : EOK Tryz.prog Z3F k Z3A.E (.block 0 (.loop Z7t)) := Zr T_ok ZhK ZnK Zo7 Zox k
theorem Ztt (k : Nat) (x : Tup Z25.ps) : Z25.f (k + 1) x = fnK Z25 Z3F Z9F k x := by kernel_rfl
theorem Zsx (x : Tup Z25.ps) : Z25.f 0 x = none := by kernel_rfl
theorem ZsM (k : Nat) : LOK Tryz.prog Z3F k Z9F := LOK.by [(Z3A.E, .block 0 (.loop Z7t))] (by kernel_rfl) (AllOK.cons (ZmK k) AllOK.nil)
theorem ZhJ (k : Nat) : SoundAt Tryz.prog k 88 Z25.E := @Zk Tryz.prog Z25 Z3F 88 Tryz.f88 Z9F (by kernel_rfl) (by kernel_rfl) (by kernel_rfl) Tryz.func88 (by kernel_rfl) (by kernel_rfl) (by kernel_rfl) T_ok ZhK ZsM Zsx Ztt k
noncomputable def Zay : List PK := [PK.mk Ty.bool false none false none]
noncomputable def Zor : List PK := [PK.mk (Ty.pair (Ty.int .i64) (Ty.pair (Ty.int .i64) (Ty.slice (122 : Nat) (Ty.pair (Ty.int .i64) (Ty.int .i64))))) true none false none]
noncomputable def Zm7 (r : Bool) : Tup Zay × OutD := ((r, ()), none)
noncomputable def ZlN : Tup Zay × OutD → Option (Bool)
 | (a, none) => some (a.1)
 | _ => none
theorem ZsJ : ∀ b r, ZlN b = some r → Zm7 r = b := by
 rintro ⟨a, o⟩ r h
 cases o with
 | none => injection h with h; subst h; rfl
 | some _ => cases h
noncomputable def Zd4 : Nat → Int × Int × List (Int × Int) → Option Bool
 | 0, _ => none
 | k + 1, p0 =>
  Option.bind (ZbD k (Prod.fst p0, Prod.fst p0.2, Prod.snd p0.2)) fun z0 => if z0 = true then some (decide ((↑(List.length p0.2.2) : Int) ≤ (24 : Int))) else some false
noncomputable def Z4T : FnDef := .of Zor Zay (Bool) (fun k x => Zd4 k x.1) Zm7 ZlN ZsJ
noncomputable def ZgM : Code := Tryz.f89.body.getD .skip
noncomputable def Zd1 : Ctx (Tup Zay × OutD) := { T := T, G := [(84, Z4L.E)], mvs := [], no := 0, n := 11, res := resOf T Zor Zay Tryz.f89.results.toList, loops := [], regs := [], conds := [], cuts := [] }
theorem ZA5 (k : Nat) : EnvOK Tryz.prog k Zd1.G := (EnvOK.cons (ZqI k) (EnvOK.nil mixed))
theorem ZzN (k : Nat) (x : Tup Z4T.ps) : Z4T.f (k + 1) x = fnK Z4T Zd1 ZgM k x := by kernel_rfl
theorem ZA9 (x : Tup Z4T.ps) : Z4T.f 0 x = none := by kernel_rfl
theorem Zzt (k : Nat) : LOK Tryz.prog Zd1 k ZgM := LOK.by [] (by kernel_rfl) AllOK.nil
theorem Zzy (k : Nat) : SoundAt Tryz.prog k 89 Z4T.E := @Zk Tryz.prog Z4T Zd1 89 Tryz.f89 ZgM (by kernel_rfl) (by kernel_rfl) (by kernel_rfl) Tryz.func89 (by kernel_rfl) (by kernel_rfl) (by kernel_rfl) T_ok ZA5 Zzt ZA9 ZzN k
noncomputable def Z3Q : List PK := [PK.mk (Ty.pair (Ty.int .i64) (Ty.pair (Ty.int .i64) (Ty.slice (122 : Nat) (Ty.pair (Ty.int .i64) (Ty.int .i64))))) true none false none]
noncomputable def Zfx : List PK := [PK.mk (Ty.pair (Ty.slice (5 : Nat) (Ty.int .u8)) (Ty.pair (Ty.int .i64) (Ty.int .u64))) false none false (some (82 : Nat)), PK.mk (Ty.int .i64) false none false none, PK.mk (Ty.int .i64) false none false none]
noncomputable def ZeZ (r : (Int × Int × List (Int × Int)) × Int × Int) : Tup Z3Q × OutD := ((r.1, ()), some ⟨Ty.pair (Ty.slice (5 : Nat) (Ty.int .u8)) (Ty.pair (Ty.int .i64) (Ty.int .u64)), [([], r.2)]⟩)
noncomputable def Zav : Tup Z3Q × OutD → Option ((Int × Int × List (Int × Int)) × Int × Int)
 | (a, some ⟨u, ys⟩) => if h : u = Ty.pair (Ty.slice (5 : Nat) (Ty.int .u8)) (Ty.pair (Ty.int .i64) (Ty.int .u64)) then (match castU h ys with
  | [([], y)] => some (a.1, y)
  | _ => none) else none
 | _ => none
theorem Zjw : ∀ b r, Zav b = some r → ZeZ r = b := by
 rintro ⟨a, o⟩ r h
 cases o with
 | none => cases h
 | some s =>
  obtain ⟨u, ys⟩ := s
  simp only [Zav] at h
  split at h
  ·rename_i hu
   subst hu
   match ys, h with
   | [], h => cases (show (none : Option _) = some r from h)
   | [([], y)], h => injection (show some _ = some r from h) with h; subst h; rfl
   | [(_ :: _, y)], h => cases (show (none : Option _) = some r from h)
   | (h1, _) :: _ :: _, h => cases h1 <;> cases (show (none : Option _) = some r from h)
  ·cases h
noncomputable def Zo : Nat → Int → Int → List Int → Int → Int → List (Int × Int) → Int → Int → List (Int × Int) → Int → Int → Int → Option (Int × Int × List Int × Int × Int × List (Int × Int) × Int × Int × List (Int × Int))
 | 0, _, _, _, _, _, _, _, _, _, _, _, _ => none
 | k + 1, b1_1, b1_2, o2, b3_0, b3_1, o4, b5_0, b5_1, o6, v1, v2, v8 =>
  if decide ((↑(List.length o6) : Int) < wrap64 (v1 * v2)) = true then Option.bind (Z1F k (o2, b1_1, b1_2) v8) fun z1 => if Prod.fst z1 = true then Option.bind (Z4g k (o2, Prod.fst z1.2, Prod.snd z1.2)) fun z2 => if decide (Prod.fst z2.1 = (5 : Int)) = true then Option.bind (Z1F k (o2, Prod.fst z2.2, Prod.snd z2.2) (3 : Int)) fun z3 => if (!Prod.fst z3) = true then Option.bind (Z8 k (o2, Prod.fst z3.2, Prod.snd z3.2) (2 : Int)) fun z4 => if List.length o6 + List.length [((3 : Int), Prod.fst z4)] ≤ (140737488355328 / 16 : Nat) then Zo k z4.2.1 z4.2.2 o2 b3_0 b3_1 o4 b5_0 b5_1 (o6 ++ [((3 : Int), Prod.fst z4)]) v1 v2 v8 else none else if List.length o6 + List.length [(Prod.fst z2.1, Prod.snd z2.1)] ≤ (140737488355328 / 16 : Nat) then Zo k z3.2.1 z3.2.2 o2 b3_0 b3_1 o4 b5_0 b5_1 (o6 ++ [(Prod.fst z2.1, Prod.snd z2.1)]) v1 v2 v8 else none else if List.length o6 + List.length [(Prod.fst z2.1, Prod.snd z2.1)] ≤ (140737488355328 / 16 : Nat) then Zo k z2.2.1 z2.2.2 o2 b3_0 b3_1 o4 b5_0 b5_1 (o6 ++ [(Prod.fst z2.1, Prod.snd z2.1)]) v1 v2 v8 else none else Option.bind (Z1F k (o2, Prod.fst z1.2, Prod.snd z1.2) (3 : Int)) fun z5 => if Prod.fst z5 = true then Option.bind (Z4g k (o2, Prod.fst z5.2, Prod.snd z5.2)) fun z6 => if decide (Prod.fst z6.1 = (5 : Int)) = true then Option.bind (Z1F k (o2, Prod.fst z6.2, Prod.snd z6.2) (3 : Int)) fun z7 => if (!Prod.fst z7) = true then Option.bind (Z8 k (o2, Prod.fst z7.2, Prod.snd z7.2) (2 : Int)) fun z8 => if List.length o6 + List.length [((3 : Int), Prod.fst z8)] ≤ (140737488355328 / 16 : Nat) then Zo k z8.2.1 z8.2.2 o2 b3_0 b3_1 o4 b5_0 b5_1 (o6 ++ [((3 : Int), Prod.fst z8)]) v1 v2 v8 else none else if List.length o6 + List.length [(Prod.fst z6.1, Prod.snd z6.1)] ≤ (140737488355328 / 16 : Nat) then Zo k z7.2.1 z7.2.2 o2 b3_0 b3_1 o4 b5_0 b5_1 (o6 ++ [(Prod.fst z6.1, Prod.snd z6.1)]) v1 v2 v8 else none else if List.length o6 + List.length [(Prod.fst z6.1, Prod.snd z6.1)] ≤ (140737488355328 / 16 : Nat) then Zo k z6.2.1 z6.2.2 o2 b3_0 b3_1 o4 b5_0 b5_1 (o6 ++ [(Prod.fst z6.1, Prod.snd z6.1)]) v1 v2 v8 else none else if List.length o6 + List.length [((0 : Int), (0 : Int))] ≤ (140737488355328 / 16 : Nat) then Zo k z5.2.1 z5.2.2 o2 b3_0 b3_1 o4 b5_0 b5_1 (o6 ++ [((0 : Int), (0 : Int))]) v1 v2 v8 else none else some (b1_1, b1_2, o2, b3_0, b3_1, o4, b5_0, b5_1, o6)
noncomputable def Z9d : Spec := Spec.mk [OSh.ro, OSh.box (82 : Nat) [Sh.sl (2 : Nat), Sh.int .i64, Sh.int .u64], OSh.fx (Ty.int .u8), OSh.box (26 : Nat) [Sh.int .i64, Sh.int .i64, Sh.sl (4 : Nat)], OSh.row true (122 : Nat) (Ty.pair (Ty.int .i64) (Ty.int .i64)), OSh.box (26 : Nat) [Sh.int .i64, Sh.int .i64, Sh.sl (6 : Nat)], OSh.row true (122 : Nat) (Ty.pair (Ty.int .i64) (Ty.int .i64))] [((0 : Nat), TSh.at (Sh.ptr (1 : Nat) (0 : Nat))), ((1 : Nat), TSh.at (Sh.int .i64)), ((2 : Nat), TSh.at (Sh.int .i64)), ((6 : Nat), TSh.at (Sh.ptr (3 : Nat) (0 : Nat))), ((7 : Nat), TSh.at (Sh.ptr (5 : Nat) (0 : Nat))), ((8 : Nat), TSh.at (Sh.int .i64))]
noncomputable def Zlo : Spec := Spec.mk [OSh.ro, OSh.box (82 : Nat) [Sh.sl (2 : Nat), Sh.int .i64, Sh.int .u64], OSh.fx (Ty.int .u8), OSh.box (26 : Nat) [Sh.int .i64, Sh.int .i64, Sh.sl (4 : Nat)], OSh.row true (122 : Nat) (Ty.pair (Ty.int .i64) (Ty.int .i64)), OSh.box (26 : Nat) [Sh.int .i64, Sh.int .i64, Sh.sl (6 : Nat)], OSh.row true (122 : Nat) (Ty.pair (Ty.int .i64) (Ty.int .i64))] [((6 : Nat), TSh.at (Sh.ptr (3 : Nat) (0 : Nat))), ((7 : Nat), TSh.at (Sh.ptr (5 : Nat) (0 : Nat)))]
noncomputable def Z2O : LoopDef (Tup Z3Q × OutD) := .plain Z9d Zlo (Int × Int × List Int × Int × Int × List (Int × Int) × Int × Int × List (Int × Int)) (fun k x => Zo k x.1.2.1.2.1 x.1.2.1.2.2.1 x.1.2.2.1 x.1.2.2.2.1.1 x.1.2.2.2.1.2.1 x.1.2.2.2.2.1 x.1.2.2.2.2.2.1.1 x.1.2.2.2.2.2.1.2.1 x.1.2.2.2.2.2.2.1 x.2.2.1 x.2.2.2.1 x.2.2.2.2.2.2.1) (fun z => (((), ((), z.1, z.2.1, ()), z.2.2.1, (z.2.2.2.1, z.2.2.2.2.1, (), ()), z.2.2.2.2.2.1, (z.2.2.2.2.2.2.1, z.2.2.2.2.2.2.2.1, (), ()), z.2.2.2.2.2.2.2.2, ()), ((), (), ()))) (fun y => (y.1.2.1.2.1, y.1.2.1.2.2.1, y.1.2.2.1, y.1.2.2.2.1.1, y.1.2.2.2.1.2.1, y.1.2.2.2.2.1, y.1.2.2.2.2.2.1.1, y.1.2.2.2.2.2.1.2.1, y.1.2.2.2.2.2.2.1)) (fun _ => rfl)
noncomputable def Z24 : Nat → List Int × Int × Int → Int → Int → Option ((Int × Int × List (Int × Int)) × Int × Int)
 | 0, _, _, _ => none
 | k + 1, p0, p1, p2 =>
  Option.bind (ZG k (Prod.fst p0, Prod.fst p0.2, Prod.snd p0.2) [(1 : Int), (2 : Int), (2 : Int)]) fun z0 => Option.bind (Zo k z0.2.1 z0.2.2 p0.1 (0 : Int) (0 : Int) [] p1 p2 [] p1 p2 z0.1) fun z9 => some ((Prod.fst z9.2.2.2.2.2.2, Prod.fst z9.2.2.2.2.2.2.2, Prod.snd z9.2.2.2.2.2.2.2), Prod.fst z9, Prod.fst z9.2)
noncomputable def Z1w : FnDef := .of Zfx Z3Q ((Int × Int × List (Int × Int)) × Int × Int) (fun k x => Z24 k x.1 x.2.1 x.2.2.1) ZeZ Zav Zjw
noncomputable def Z80 : Code := Tryz.f95.body.getD .skip
noncomputable def Z2V : Ctx (Tup Z3Q × OutD) := { T := T, G := [(72, Z14.E), (97, Z28.E), (121, Z2n.E), (73, ZD.E)], mvs := [], no := 2, n := 51, res := resOf T Zfx Z3Q Tryz.f95.results.toList, loops := [(0, Z2O.E)], regs := [], conds := [], cuts := [] }
theorem Zf5 (k : Nat) : EnvOK Tryz.prog k Z2V.G := (EnvOK.cons (Z70 k) (EnvOK.cons (Zes k) (EnvOK.cons (Zil k) (EnvOK.cons (Z2s k) (EnvOK.nil mixed)))))
noncomputable def Z5Z : Code := (findLoop 0 Z80).getD .skip
theorem ZkT (k : Nat) (x : Z9d.D) : Z2O.lp (k + 1) x = loopK Z2V Z2O 0 Z5Z k x := by kernel_rfl
theorem Zll (k : Nat) : LOK Tryz.prog Z2V k Z5Z := LOK.by [] (by kernel_rfl) AllOK.nil
theorem Zln (x : Z9d.D) : Z2O.lp 0 x = none := by kernel_rfl
theorem Zkz (k : Nat) : EOK Tryz.prog Z2V k Z2O.E (.block 0 (.loop Z5Z)) := Zr T_ok Zf5 Zln ZkT Zll k
theorem Zph (k : Nat) (x : Tup Z1w.ps) : Z1w.f (k + 1) x = fnK Z1w Z2V Z80 k x := by kernel_rfl
theorem Zpv (x : Tup Z1w.ps) : Z1w.f 0 x = none := by kernel_rfl
theorem Zq6 (k : Nat) : LOK Tryz.prog Z2V k Z80 := LOK.by [(Z2O.E, .block 0 (.loop Z5Z))] (by kernel_rfl) (AllOK.cons (Zkz k) AllOK.nil)
theorem ZfA (k : Nat) : SoundAt Tryz.prog k 95 Z1w.E := @Zk Tryz.prog Z1w Z2V 95 Tryz.f95 Z80 (by kernel_rfl) (by kernel_rfl) (by kernel_rfl) Tryz.func95 (by kernel_rfl) (by kernel_rfl) (by kernel_rfl) T_ok Zf5 Zq6 Zpv Zph k
noncomputable def Z5m : List PK := [PK.mk (Ty.pair (Ty.int .i64) (Ty.int .i64)) true none false none]
noncomputable def ZfM : List PK := [PK.mk (Ty.pair (Ty.slice (5 : Nat) (Ty.int .u8)) (Ty.pair (Ty.int .i64) (Ty.int .u64))) false none false (some (82 : Nat))]
noncomputable def ZeV (r : (Int × Int) × Int × Int) : Tup Z5m × OutD := ((r.1, ()), some ⟨Ty.pair (Ty.slice (5 : Nat) (Ty.int .u8)) (Ty.pair (Ty.int .i64) (Ty.int .u64)), [([], r.2)]⟩)
noncomputable def ZaP : Tup Z5m × OutD → Option ((Int × Int) × Int × Int)
 | (a, some ⟨u, ys⟩) => if h : u = Ty.pair (Ty.slice (5 : Nat) (Ty.int .u8)) (Ty.pair (Ty.int .i64) (Ty.int .u64)) then (match castU h ys with
  | [([], y)] => some (a.1, y)
  | _ => none) else none
 | _ => none
theorem Zjy : ∀ b r, ZaP b = some r → ZeV r = b := by
 rintro ⟨a, o⟩ r h
 cases o with
 | none => cases h
 | some s =>
  obtain ⟨u, ys⟩ := s
  simp only [ZaP] at h
  split at h
  ·rename_i hu
   subst hu
   match ys, h with
   | [], h => cases (show (none : Option _) = some r from h)
   | [([], y)], h => injection (show some _ = some r from h) with h; subst h; rfl
   | [(_ :: _, y)], h => cases (show (none : Option _) = some r from h)
   | (h1, _) :: _ :: _, h => cases h1 <;> cases (show (none : Option _) = some r from h)
  ·cases h
noncomputable def Z1v : Nat → List Int × Int × Int → Option ((Int × Int) × Int × Int)
 | 0, _ => none
 | k + 1, p0 =>
  Option.bind (Z4g k (Prod.fst p0, Prod.fst p0.2, Prod.snd p0.2)) fun z0 => Option.bind (Z8 k (Prod.fst p0, Prod.fst z0.2, Prod.snd z0.2) (20 : Int)) fun z1 => if decide (Prod.fst z1 = (0 : Int)) = true then Option.bind (ZG k (Prod.fst p0, Prod.fst z1.2, Prod.snd z1.2) [(-1 : Int), (8 : Int)]) fun z2 => some ((Prod.fst z2, Prod.snd z0.1), Prod.fst z2.2, Prod.snd z2.2) else if decide (Prod.fst z1 = (1 : Int)) = true then Option.bind (ZG k (Prod.fst p0, Prod.fst z1.2, Prod.snd z1.2) [(-1 : Int), (1 : Int), (2 : Int)]) fun z3 => some ((Prod.fst z0.1, Prod.fst z3), Prod.fst z3.2, Prod.snd z3.2) else some ((Prod.fst z0.1, Prod.snd z0.1), Prod.fst z1.2, Prod.snd z1.2)
noncomputable def Z23 : FnDef := .of ZfM Z5m ((Int × Int) × Int × Int) (fun k x => Z1v k x.1) ZeV ZaP Zjy
noncomputable def ZaY : Code := Tryz.f123.body.getD .skip
noncomputable def Z7Y : Ctx (Tup Z5m × OutD) := { T := T, G := [(121, Z2n.E), (73, ZD.E), (72, Z14.E)], mvs := [], no := 2, n := 21, res := resOf T ZfM Z5m Tryz.f123.results.toList, loops := [], regs := [], conds := [], cuts := [] }
theorem ZoW (k : Nat) : EnvOK Tryz.prog k Z7Y.G := (EnvOK.cons (Zil k) (EnvOK.cons (Z2s k) (EnvOK.cons (Z70 k) (EnvOK.nil mixed))))
theorem Zq4 (k : Nat) (x : Tup Z23.ps) : Z23.f (k + 1) x = fnK Z23 Z7Y ZaY k x := by kernel_rfl
theorem Zpa (x : Tup Z23.ps) : Z23.f 0 x = none := by kernel_rfl
theorem Zpk (k : Nat) : LOK Tryz.prog Z7Y k ZaY := LOK.by [] (by kernel_rfl) AllOK.nil
theorem Zpt (k : Nat) : SoundAt Tryz.prog k 123 Z23.E := @Zk Tryz.prog Z23 Z7Y 123 Tryz.f123 ZaY (by kernel_rfl) (by kernel_rfl) (by kernel_rfl) Tryz.func123 (by kernel_rfl) (by kernel_rfl) (by kernel_rfl) T_ok ZoW Zpk Zpa Zq4 k
end
end Go.Proofs.YtglkedenkcpcbaaGreatDoor.Vs
