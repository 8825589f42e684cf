/- The proof, part 7. -/
import Derived.Test.Ytgjmhbjdhihgaaaqhm5
set_option maxRecDepth 100000
set_option maxHeartbeats 2000000
set_option linter.unusedVariables false
set_option linter.unusedSimpArgs false
namespace Go.Proofs.Ytgjmhbjdhihgaaa.Vs
open Go.RowKit
noncomputable section
noncomputable def Z4H : List PK := [PK.mk (Ty.slice (77 : Nat) (Ty.pair (Ty.int .i64) (Ty.pair (Ty.int .i64) (Ty.int .i64)))) false none false none, PK.mk Ty.bool false none false none]
noncomputable def ZeE : List PK := [PK.mk (Ty.pair (Ty.int .i64) (Ty.pair (Ty.int .i64) (Ty.slice (79 : Nat) (Ty.pair (Ty.int .i64) (Ty.int .i64))))) true none false none]
noncomputable def Zdv (r : List (Int × Int × Int) × Bool) : Tup Z4H × OutD := ((r.1, r.2, ()), none)
noncomputable def ZdA : Tup Z4H × OutD → Option (List (Int × Int × Int) × Bool)
 | (a, none) => some (a.1, a.2.1)
 | _ => none
theorem ZiJ : ∀ b r, ZdA b = some r → Zdv r = b := by
 rintro ⟨a, o⟩ r h
 cases o with
 | none => injection h with h; subst h; rfl
 | some _ => cases h
noncomputable def Z75 : Nat → Int × Int × List (Int × Int) → Option (List (Int × Int × Int) × Bool)
 | 0, _ => none
 | k + 1, p0 =>
  Option.bind (Z7v k (Prod.fst p0, Prod.fst p0.2, Prod.snd p0.2)) fun z0 => if (!z0) = true then some ([], false) else Option.bind (Z31 k (Prod.fst p0, Prod.fst p0.2, Prod.snd p0.2)) fun z1 => some (z1, true)
noncomputable def Z1H : FnDef := .of ZeE Z4H (List (Int × Int × Int) × Bool) (fun k x => Z75 k x.1) Zdv ZdA ZiJ
noncomputable def ZaF : Code := Try.f66.body.getD .skip
noncomputable def Z76 : Ctx (Tup Z4H × OutD) := { T := T, G := [(133, Z2K.E), (148, Z1a.E)], mvs := [], no := 0, n := 9, res := resOf T ZeE Z4H Try.f66.results.toList, loops := [], regs := [], conds := [] }
theorem ZmE (k : Nat) : EnvOK Try.prog k Z76.G := (EnvOK.cons (ZdM k) (EnvOK.cons (Z7z k) (EnvOK.nil mixed)))
theorem Znq (k : Nat) (x : Tup Z1H.ps) : Z1H.f (k + 1) x = fnK Z1H Z76 ZaF k x := by kernel_rfl
theorem ZmW (x : Tup Z1H.ps) : Z1H.f 0 x = none := by kernel_rfl
theorem Znk (k : Nat) : LOK Try.prog Z76 k ZaF := LOK.by [] (by kernel_rfl) AllOK.nil
theorem ZmI (k : Nat) : SoundAt Try.prog k 66 Z1H.E := @Ze Try.prog Z1H Z76 66 Try.f66 ZaF (by kernel_rfl) (by kernel_rfl) (by kernel_rfl) Try.func66 (by kernel_rfl) (by kernel_rfl) (by kernel_rfl) T_ok ZmE Znk ZmW Znq k
noncomputable def Z4i : List PK := [PK.mk Ty.bool false none false none]
noncomputable def ZfT : List PK := [PK.mk (Ty.pair (Ty.int .i64) (Ty.pair (Ty.int .i64) (Ty.slice (79 : Nat) (Ty.pair (Ty.int .i64) (Ty.int .i64))))) true none false none, PK.mk (Ty.slice (3 : Nat) (Ty.int .i64)) false none false none]
noncomputable def ZaW (r : Bool) : Tup Z4i × OutD := ((r, ()), none)
noncomputable def ZaM : Tup Z4i × OutD → Option (Bool)
 | (a, none) => some (a.1)
 | _ => none
theorem Zd6 : ∀ b r, ZaM b = some r → ZaW r = b := by
 rintro ⟨a, o⟩ r h
 cases o with
 | none => injection h with h; subst h; rfl
 | some _ => cases h
noncomputable def Z3w : Nat → Int → Int → List (Int × Int) → List Int → Int → Int → Option (LR Unit Bool)
 | 0, _, _, _, _, _, _ => none
 | k + 1, b1_0, b1_1, b1_2, v15, v16, v17 =>
  if decide (v17 < v16) = true then if (0 : Int) ≤ v17 then if v17 < (↑(List.length v15) : Int) then if decide (List.getD v15 (Int.toNat v17) (0 : Int) < (0 : Int)) = true then some (LR.ret false) else if decide (List.getD v15 (Int.toNat v17) (0 : Int) ≥ b1_1) = true then some (LR.ret false) else Z3w k b1_0 b1_1 b1_2 v15 v16 (wrap64 (v17 + (1 : Int))) else none else none else some (LR.go ())
noncomputable def Z9U : Spec := Spec.mk [OSh.ro, OSh.box (53 : Nat) [Sh.int .i64, Sh.int .i64, Sh.snap (0 : Nat) (Ty.pair (Ty.int .i64) (Ty.int .i64))]] [((2 : Nat), TSh.at (Sh.ptr (1 : Nat) (0 : Nat))), ((15 : Nat), TSh.at (Sh.snap (0 : Nat) (Ty.int .i64))), ((16 : Nat), TSh.at (Sh.int .i64)), ((17 : Nat), TSh.at (Sh.int .i64))]
noncomputable def Zm5 : Spec := Spec.mk [OSh.ro] []
noncomputable def Z2P : LoopDef (Tup Z4i × OutD) := .rets Z9U Zm5 (Unit) (Bool) (fun k x => Z3w k x.1.2.1.1 x.1.2.1.2.1 x.1.2.1.2.2.1 x.2.2.1 x.2.2.2.1 x.2.2.2.2.1) (fun z => (((), ()), (()))) (fun y => ()) (fun _ => rfl) ZaW ZaM Zd6
noncomputable def Z8M : Nat → Int × Int × List (Int × Int) → List Int → Option Bool
 | 0, _, _ => none
 | k + 1, p0, p1 =>
  Option.bind (Z8i k (Prod.fst p0, Prod.fst p0.2, Prod.snd p0.2)) fun z0 => if (!z0) = true then some false else if decide ((↑(List.length p1) : Int) > (60 : Int)) = true then some false else Option.bind (Z3w k p0.1 p0.2.1 p0.2.2 p1 (↑(List.length p1) : Int) (0 : Int)) fun z1 => LR.on z1 (fun y1 => some true) fun r1 => some r1
noncomputable def Z26 : FnDef := .of ZfT Z4i (Bool) (fun k x => Z8M k x.1 x.2.1) ZaW ZaM Zd6
noncomputable def Z8L : Code := Try.f118.body.getD .skip
noncomputable def Z38 : Ctx (Tup Z4i × OutD) := { T := T, G := [(132, Z2O.E)], mvs := [], no := 0, n := 30, res := resOf T ZfT Z4i Try.f118.results.toList, loops := [(0, Z2P.E)], regs := [], conds := [] }
theorem Zgc (k : Nat) : EnvOK Try.prog k Z38.G := (EnvOK.cons (Zgr k) (EnvOK.nil mixed))
noncomputable def Z6E : Code := (findLoop 0 Z8L).getD .skip
theorem ZlO (k : Nat) (x : Z9U.D) : Z2P.lp (k + 1) x = loopK Z38 Z2P 0 Z6E k x := by kernel_rfl
theorem Zmg (k : Nat) : LOK Try.prog Z38 k Z6E := LOK.by [] (by kernel_rfl) AllOK.nil
theorem ZlB (x : Z9U.D) : Z2P.lp 0 x = none := by kernel_rfl
theorem ZkB (k : Nat) : EOK Try.prog Z38 k Z2P.E (.block 0 (.loop Z6E)) := Zp T_ok Zgc ZlB ZlO Zmg k
theorem Zr4 (k : Nat) (x : Tup Z26.ps) : Z26.f (k + 1) x = fnK Z26 Z38 Z8L k x := by kernel_rfl
theorem ZqS (x : Tup Z26.ps) : Z26.f 0 x = none := by kernel_rfl
theorem ZqX (k : Nat) : LOK Try.prog Z38 k Z8L := LOK.by [(Z2P.E, .block 0 (.loop Z6E))] (by kernel_rfl) (AllOK.cons (ZkB k) AllOK.nil)
theorem Zr3 (k : Nat) : SoundAt Try.prog k 118 Z26.E := @Ze Try.prog Z26 Z38 118 Try.f118 Z8L (by kernel_rfl) (by kernel_rfl) (by kernel_rfl) Try.func118 (by kernel_rfl) (by kernel_rfl) (by kernel_rfl) T_ok Zgc ZqX ZqS Zr4 k
noncomputable def Z4N : List PK := [PK.mk (Ty.slice (63 : Nat) (Ty.pair (Ty.int .i64) (Ty.pair (Ty.int .i64) (Ty.int .i64)))) false none false none, PK.mk (Ty.pair (Ty.int .i64) (Ty.pair (Ty.int .i64) (Ty.slice (79 : Nat) (Ty.pair (Ty.int .i64) (Ty.int .i64))))) true none false none]
noncomputable def Zh8 : List PK := [PK.mk (Ty.pair (Ty.int .i64) (Ty.pair (Ty.int .i64) (Ty.slice (79 : Nat) (Ty.pair (Ty.int .i64) (Ty.int .i64))))) true none false none, PK.mk (Ty.slice (77 : Nat) (Ty.pair (Ty.int .i64) (Ty.pair (Ty.int .i64) (Ty.int .i64)))) false none false none, PK.mk (Ty.slice (3 : Nat) (Ty.int .i64)) false none false none]
noncomputable def Zgg (r : List (Int × Int × Int) × Int × Int × List (Int × Int)) : Tup Z4N × OutD := ((r.1, r.2, ()), none)
noncomputable def ZfK : Tup Z4N × OutD → Option (List (Int × Int × Int) × Int × Int × List (Int × Int))
 | (a, none) => some (a.1, a.2.1)
 | _ => none
theorem ZlY : ∀ b r, ZfK b = some r → Zgg r = b := by
 rintro ⟨a, o⟩ r h
 cases o with
 | none => injection h with h; subst h; rfl
 | some _ => cases h
noncomputable def Z3U : Nat → Int → Int → List (Int × Int) → Int → Int → List (Int × Int) → List Int → List Int → List (Int × Int × Int) → List Int → Int → Int → Option (Int × Int × List (Int × Int) × Int × Int × List (Int × Int) × List (Int × Int × Int))
 | 0, _, _, _, _, _, _, _, _, _, _, _, _ => none
 | k + 1, b1_0, b1_1, o2, b3_0, b3_1, o4, o5, o6, o7, v22, v23, v24 =>
  if decide (v24 < v23) = true then if (0 : Int) ≤ v24 then if v24 < (↑(List.length v22) : Int) then Option.bind (Zae k (b3_0, b3_1, o4) o5 o6 (List.getD v22 (Int.toNat v24) (0 : Int))) fun z3 => if List.length o7 + List.length [(Prod.fst z3.1, Prod.fst z3.1.2, Prod.snd z3.1.2)] ≤ (140737488355328 / 24 : Nat) then Z3U k b1_0 b1_1 o2 b3_0 b3_1 z3.2 o5 o6 (o7 ++ [(Prod.fst z3.1, Prod.fst z3.1.2, Prod.snd z3.1.2)]) v22 v23 (wrap64 (v24 + (1 : Int))) else none else none else none else some (b1_0, b1_1, o2, b3_0, b3_1, o4, o7)
noncomputable def Zas : Spec := Spec.mk [OSh.ro, OSh.box (53 : Nat) [Sh.int .i64, Sh.int .i64, Sh.sl (2 : Nat)], OSh.row true (79 : Nat) (Ty.pair (Ty.int .i64) (Ty.int .i64)), OSh.box (53 : Nat) [Sh.int .i64, Sh.int .i64, Sh.sl (4 : Nat)], OSh.row true (79 : Nat) (Ty.pair (Ty.int .i64) (Ty.int .i64)), OSh.row true (3 : Nat) (Ty.int .i64), OSh.row true (3 : Nat) (Ty.int .i64), OSh.row true (63 : Nat) (Ty.pair (Ty.int .i64) (Ty.pair (Ty.int .i64) (Ty.int .i64)))] [((7 : Nat), TSh.at (Sh.ptr (1 : Nat) (0 : Nat))), ((8 : Nat), TSh.at (Sh.ptr (3 : Nat) (0 : Nat))), ((9 : Nat), TSh.at (Sh.sl (5 : Nat))), ((10 : Nat), TSh.at (Sh.sl (6 : Nat))), ((11 : Nat), TSh.at (Sh.sl (7 : Nat))), ((22 : Nat), TSh.at (Sh.snap (0 : Nat) (Ty.int .i64))), ((23 : Nat), TSh.at (Sh.int .i64)), ((24 : Nat), TSh.at (Sh.int .i64))]
noncomputable def ZmK : Spec := Spec.mk [OSh.ro, OSh.box (53 : Nat) [Sh.int .i64, Sh.int .i64, Sh.sl (2 : Nat)], OSh.row true (79 : Nat) (Ty.pair (Ty.int .i64) (Ty.int .i64)), OSh.box (53 : Nat) [Sh.int .i64, Sh.int .i64, Sh.sl (4 : Nat)], OSh.row true (79 : Nat) (Ty.pair (Ty.int .i64) (Ty.int .i64)), OSh.row true (63 : Nat) (Ty.pair (Ty.int .i64) (Ty.pair (Ty.int .i64) (Ty.int .i64)))] [((7 : Nat), TSh.at (Sh.ptr (1 : Nat) (0 : Nat))), ((8 : Nat), TSh.at (Sh.ptr (3 : Nat) (0 : Nat))), ((11 : Nat), TSh.at (Sh.sl (5 : Nat)))]
noncomputable def Z3s : LoopDef (Tup Z4N × OutD) := .plain Zas ZmK (Int × Int × List (Int × Int) × Int × Int × List (Int × Int) × List (Int × Int × Int)) (fun k x => Z3U k x.1.2.1.1 x.1.2.1.2.1 x.1.2.2.1 x.1.2.2.2.1.1 x.1.2.2.2.1.2.1 x.1.2.2.2.2.1 x.1.2.2.2.2.2.1 x.1.2.2.2.2.2.2.1 x.1.2.2.2.2.2.2.2.1 x.2.2.2.2.2.2.1 x.2.2.2.2.2.2.2.1 x.2.2.2.2.2.2.2.2.1) (fun z => (((), (z.1, z.2.1, (), ()), z.2.2.1, (z.2.2.2.1, z.2.2.2.2.1, (), ()), z.2.2.2.2.2.1, z.2.2.2.2.2.2, ()), ((), (), (), ()))) (fun y => (y.1.2.1.1, y.1.2.1.2.1, y.1.2.2.1, y.1.2.2.2.1.1, y.1.2.2.2.1.2.1, y.1.2.2.2.2.1, y.1.2.2.2.2.2.1)) (fun _ => rfl)
noncomputable def Z9J : Nat → Int × Int × List (Int × Int) → List (Int × Int × Int) → List Int → Option (List (Int × Int × Int) × Int × Int × List (Int × Int))
 | 0, _, _, _ => none
 | k + 1, p0, p1, p2 =>
  Option.bind (Z8u k (Prod.fst p0, Prod.fst p0.2, Prod.snd p0.2)) fun z0 => Option.bind (Z61 k (Prod.fst p0, Prod.fst p0.2, Prod.snd p0.2)) fun z1 => Option.bind (Z8G k (Prod.fst p0, Prod.fst p0.2, Prod.snd p0.2) p1) fun z2 => Option.bind (Z3U k (0 : Int) (0 : Int) [] z0.1 z0.2.1 z0.2.2 z1 z2 [] p2 (↑(List.length p2) : Int) (0 : Int)) fun z4 => some (Prod.snd z4.2.2.2.2.2, Prod.fst z4.2.2.2, Prod.fst z4.2.2.2.2, Prod.fst z4.2.2.2.2.2)
noncomputable def Z2z : FnDef := .of Zh8 Z4N (List (Int × Int × Int) × Int × Int × List (Int × Int)) (fun k x => Z9J k x.1 x.2.1 x.2.2.1) Zgg ZfK ZlY
noncomputable def Z9l : Code := Try.f120.body.getD .skip
noncomputable def Z3x : Ctx (Tup Z4N × OutD) := { T := T, G := [(127, Z2F.E), (128, Z1y.E), (129, Z27.E), (126, Z37.E)], mvs := [], no := 0, n := 39, res := resOf T Zh8 Z4N Try.f120.results.toList, loops := [(0, Z3s.E)], regs := [], conds := [] }
theorem Zho (k : Nat) : EnvOK Try.prog k Z3x.G := (EnvOK.cons (ZjG k) (EnvOK.cons (Zg2 k) (EnvOK.cons (Zqj k) (EnvOK.cons (ZuD k) (EnvOK.nil mixed)))))
noncomputable def Z7k : Code := (findLoop 0 Z9l).getD .skip
theorem ZnV (k : Nat) (x : Zas.D) : Z3s.lp (k + 1) x = loopK Z3x Z3s 0 Z7k k x := by kernel_rfl
theorem ZnG (k : Nat) : LOK Try.prog Z3x k Z7k := LOK.by [] (by kernel_rfl) AllOK.nil
theorem Zmk (x : Zas.D) : Z3s.lp 0 x = none := by kernel_rfl
theorem ZlM (k : Nat) : EOK Try.prog Z3x k Z3s.E (.block 0 (.loop Z7k)) := Zp T_ok Zho Zmk ZnV ZnG k
theorem ZsX (k : Nat) (x : Tup Z2z.ps) : Z2z.f (k + 1) x = fnK Z2z Z3x Z9l k x := by kernel_rfl
theorem Zs3 (x : Tup Z2z.ps) : Z2z.f 0 x = none := by kernel_rfl
theorem ZsU (k : Nat) : LOK Try.prog Z3x k Z9l := LOK.by [(Z3s.E, .block 0 (.loop Z7k))] (by kernel_rfl) (AllOK.cons (ZlM k) AllOK.nil)
theorem ZrQ (k : Nat) : SoundAt Try.prog k 120 Z2z.E := @Ze Try.prog Z2z Z3x 120 Try.f120 Z9l (by kernel_rfl) (by kernel_rfl) (by kernel_rfl) Try.func120 (by kernel_rfl) (by kernel_rfl) (by kernel_rfl) T_ok Zho ZsU Zs3 ZsX k
noncomputable def Z8C : List PK := [PK.mk (Ty.slice (63 : Nat) (Ty.pair (Ty.int .i64) (Ty.pair (Ty.int .i64) (Ty.int .i64)))) false none false none, PK.mk (Ty.pair (Ty.int .i64) (Ty.pair (Ty.int .i64) (Ty.slice (79 : Nat) (Ty.pair (Ty.int .i64) (Ty.int .i64))))) true none false none]
noncomputable def Zsl : List PK := [PK.mk (Ty.pair (Ty.int .i64) (Ty.pair (Ty.int .i64) (Ty.slice (79 : Nat) (Ty.pair (Ty.int .i64) (Ty.int .i64))))) true none false none, PK.mk (Ty.slice (77 : Nat) (Ty.pair (Ty.int .i64) (Ty.pair (Ty.int .i64) (Ty.int .i64)))) false none false none, PK.mk (Ty.slice (3 : Nat) (Ty.int .i64)) false none false none]
noncomputable def ZpV (r : List (Int × Int × Int) × Int × Int × List (Int × Int)) : Tup Z8C × OutD := ((r.1, r.2, ()), none)
noncomputable def Zpp : Tup Z8C × OutD → Option (List (Int × Int × Int) × Int × Int × List (Int × Int))
 | (a, none) => some (a.1, a.2.1)
 | _ => none
theorem Zwt : ∀ b r, Zpp b = some r → ZpV r = b := by
 rintro ⟨a, o⟩ r h
 cases o with
 | none => injection h with h; subst h; rfl
 | some _ => cases h
noncomputable def Z5i : Nat → Int → Int → List (Int × Int) → Int → Int → List (Int × Int) → List (Int × Int × Int) → List Int → Option (Int × Int × List (Int × Int) × Int × Int × List (Int × Int) × List Int × List (Int × Int × Int) × List Int) := fun k b1_0 b1_1 b1_2 b2_0 b2_1 o3 v1 v2 =>
    Option.bind (Z3B k (b1_0, b1_1, b1_2)) fun z0 => Option.bind (Z1Z k (b1_0, b1_1, b1_2)) fun z1 => some (b2_0, b2_1, o3, Prod.fst z0, Prod.fst z0.2, Prod.snd z0.2, z1, v1, v2)
noncomputable def ZaQ : Nat → Int → Int → List (Int × Int) → Int → Int → List (Int × Int) → List (Int × Int × Int) → List Int → Option (List (Int × Int × List (Int × Int) × Int × Int × List (Int × Int) × List Int × List (Int × Int × Int) × List Int)) := fun k b1_0 b1_1 b1_2 b2_0 b2_1 o3 v1 v2 =>
    joinL (Option.bind (Z3B k (b1_0, b1_1, b1_2)) fun z2 => joinL (Option.bind (Z1Z k (b1_0, b1_1, b1_2)) fun z3 => some [(b2_0, b2_1, o3, Prod.fst z2, Prod.fst z2.2, Prod.snd z2.2, z3, v1, v2)]) (Option.bind (Z1Z k (b1_0, b1_1, b1_2)) fun z4 => some [(b2_0, b2_1, o3, Prod.fst z2, Prod.fst z2.2, Prod.snd z2.2, z4, v1, v2)])) (Option.bind (Z3B k (b1_0, b1_1, b1_2)) fun z5 => Option.bind (Z1Z k (b1_0, b1_1, b1_2)) fun z6 => some [(b2_0, b2_1, o3, Prod.fst z5, Prod.fst z5.2, Prod.snd z5.2, z6, v1, v2)])
noncomputable def ZiT : Spec := Spec.mk [OSh.ro, OSh.box (53 : Nat) [Sh.int .i64, Sh.int .i64, Sh.snap (0 : Nat) (Ty.pair (Ty.int .i64) (Ty.int .i64))], OSh.box (53 : Nat) [Sh.int .i64, Sh.int .i64, Sh.sl (3 : Nat)], OSh.row true (79 : Nat) (Ty.pair (Ty.int .i64) (Ty.int .i64))] [((1 : Nat), TSh.at (Sh.snap (0 : Nat) (Ty.pair (Ty.int .i64) (Ty.pair (Ty.int .i64) (Ty.int .i64))))), ((2 : Nat), TSh.at (Sh.snap (0 : Nat) (Ty.int .i64))), ((3 : Nat), TSh.at (Sh.ptr (1 : Nat) (0 : Nat))), ((7 : Nat), TSh.at (Sh.ptr (2 : Nat) (0 : Nat)))]
noncomputable def Zwf : Spec := Spec.mk [OSh.ro, OSh.box (53 : Nat) [Sh.int .i64, Sh.int .i64, Sh.sl (2 : Nat)], OSh.row true (79 : Nat) (Ty.pair (Ty.int .i64) (Ty.int .i64)), OSh.box (53 : Nat) [Sh.int .i64, Sh.int .i64, Sh.sl (4 : Nat)], OSh.row true (79 : Nat) (Ty.pair (Ty.int .i64) (Ty.int .i64)), OSh.row true (3 : Nat) (Ty.int .i64)] [((1 : Nat), TSh.at (Sh.snap (0 : Nat) (Ty.pair (Ty.int .i64) (Ty.pair (Ty.int .i64) (Ty.int .i64))))), ((2 : Nat), TSh.at (Sh.snap (0 : Nat) (Ty.int .i64))), ((7 : Nat), TSh.at (Sh.ptr (1 : Nat) (0 : Nat))), ((8 : Nat), TSh.at (Sh.ptr (3 : Nat) (0 : Nat))), ((9 : Nat), TSh.at (Sh.sl (5 : Nat)))]
noncomputable def Z6o : LoopDef (Tup Z8C × OutD) := .plain ZiT Zwf (Int × Int × List (Int × Int) × Int × Int × List (Int × Int) × List Int × List (Int × Int × Int) × List Int) (fun k x => Z5i k x.1.2.1.1 x.1.2.1.2.1 x.1.2.1.2.2.1 x.1.2.2.1.1 x.1.2.2.1.2.1 x.1.2.2.2.1 x.2.1 x.2.2.1) (fun z => (((), (z.1, z.2.1, (), ()), z.2.2.1, (z.2.2.2.1, z.2.2.2.2.1, (), ()), z.2.2.2.2.2.1, z.2.2.2.2.2.2.1, ()), (z.2.2.2.2.2.2.2.1, z.2.2.2.2.2.2.2.2, (), (), (), ()))) (fun y => (y.1.2.1.1, y.1.2.1.2.1, y.1.2.2.1, y.1.2.2.2.1.1, y.1.2.2.2.1.2.1, y.1.2.2.2.2.1, y.1.2.2.2.2.2.1, y.2.1, y.2.2.1)) (fun _ => rfl)
theorem Zwm (k : Nat) (b1_0 : Int) (b1_1 : Int) (b1_2 : List (Int × Int)) (b2_0 : Int) (b2_1 : Int) (o3 : List (Int × Int)) (v1 : List (Int × Int × Int)) (v2 : List Int) : ZaQ k b1_0 b1_1 b1_2 b2_0 b2_1 o3 v1 v2 = repl 3 (Z5i k b1_0 b1_1 b1_2 b2_0 b2_1 o3 v1 v2) := by
 first
 | (simp only [ZaQ, Z5i, Zb, Zg, Zc, Za, Z9, Z8, if_true]; done)
 | (simp only [ZaQ, Z5i, Zb, Zg, Zc, Za, Z9, Z8, if_true]; simp only [Z4y, Z4u, Z7o, Z8]; simp only [Z9c]; exact Z5J ⟨fun h => by simp only [h, and_self], fun h => by simp only [h, and_self]⟩)
noncomputable def Z8h : Nat → Int → Int → List (Int × Int) → Int → Int → List (Int × Int) → List Int → List (Int × Int × Int) → List (Int × Int × Int) → List Int → Int → Int → Option (Int × Int × List (Int × Int) × Int × Int × List (Int × Int) × List (Int × Int × Int))
 | 0, _, _, _, _, _, _, _, _, _, _, _, _ => none
 | k + 1, b1_0, b1_1, o2, b3_0, b3_1, o4, o5, o6, v1, v19, v20, v21 =>
  if decide (v21 < v20) = true then if (0 : Int) ≤ v21 then if v21 < (↑(List.length v19) : Int) then Option.bind (ZgO k (b3_0, b3_1, o4) o5 v1 (List.getD v19 (Int.toNat v21) (0 : Int))) fun z8 => if List.length o6 + List.length [(Prod.fst z8.1, Prod.fst z8.1.2, Prod.snd z8.1.2)] ≤ (140737488355328 / 24 : Nat) then Z8h k b1_0 b1_1 o2 z8.2.1 z8.2.2.1 z8.2.2.2 o5 (o6 ++ [(Prod.fst z8.1, Prod.fst z8.1.2, Prod.snd z8.1.2)]) v1 v19 v20 (wrap64 (v21 + (1 : Int))) else none else none else none else some (b1_0, b1_1, o2, b3_0, b3_1, o4, o6)
noncomputable def Zf9 : Spec := Spec.mk [OSh.ro, OSh.box (53 : Nat) [Sh.int .i64, Sh.int .i64, Sh.sl (2 : Nat)], OSh.row true (79 : Nat) (Ty.pair (Ty.int .i64) (Ty.int .i64)), OSh.box (53 : Nat) [Sh.int .i64, Sh.int .i64, Sh.sl (4 : Nat)], OSh.row true (79 : Nat) (Ty.pair (Ty.int .i64) (Ty.int .i64)), OSh.row true (3 : Nat) (Ty.int .i64), OSh.row true (63 : Nat) (Ty.pair (Ty.int .i64) (Ty.pair (Ty.int .i64) (Ty.int .i64)))] [((1 : Nat), TSh.at (Sh.snap (0 : Nat) (Ty.pair (Ty.int .i64) (Ty.pair (Ty.int .i64) (Ty.int .i64))))), ((7 : Nat), TSh.at (Sh.ptr (1 : Nat) (0 : Nat))), ((8 : Nat), TSh.at (Sh.ptr (3 : Nat) (0 : Nat))), ((9 : Nat), TSh.at (Sh.sl (5 : Nat))), ((10 : Nat), TSh.at (Sh.sl (6 : Nat))), ((19 : Nat), TSh.at (Sh.snap (0 : Nat) (Ty.int .i64))), ((20 : Nat), TSh.at (Sh.int .i64)), ((21 : Nat), TSh.at (Sh.int .i64))]
noncomputable def Zy4 : Spec := Spec.mk [OSh.ro, OSh.box (53 : Nat) [Sh.int .i64, Sh.int .i64, Sh.sl (2 : Nat)], OSh.row true (79 : Nat) (Ty.pair (Ty.int .i64) (Ty.int .i64)), OSh.box (53 : Nat) [Sh.int .i64, Sh.int .i64, Sh.sl (4 : Nat)], OSh.row true (79 : Nat) (Ty.pair (Ty.int .i64) (Ty.int .i64)), OSh.row true (63 : Nat) (Ty.pair (Ty.int .i64) (Ty.pair (Ty.int .i64) (Ty.int .i64)))] [((7 : Nat), TSh.at (Sh.ptr (1 : Nat) (0 : Nat))), ((8 : Nat), TSh.at (Sh.ptr (3 : Nat) (0 : Nat))), ((10 : Nat), TSh.at (Sh.sl (5 : Nat)))]
noncomputable def Z7l : LoopDef (Tup Z8C × OutD) := .plain Zf9 Zy4 (Int × Int × List (Int × Int) × Int × Int × List (Int × Int) × List (Int × Int × Int)) (fun k x => Z8h k x.1.2.1.1 x.1.2.1.2.1 x.1.2.2.1 x.1.2.2.2.1.1 x.1.2.2.2.1.2.1 x.1.2.2.2.2.1 x.1.2.2.2.2.2.1 x.1.2.2.2.2.2.2.1 x.2.1 x.2.2.2.2.2.2.1 x.2.2.2.2.2.2.2.1 x.2.2.2.2.2.2.2.2.1) (fun z => (((), (z.1, z.2.1, (), ()), z.2.2.1, (z.2.2.2.1, z.2.2.2.2.1, (), ()), z.2.2.2.2.2.1, z.2.2.2.2.2.2, ()), ((), (), (), ()))) (fun y => (y.1.2.1.1, y.1.2.1.2.1, y.1.2.2.1, y.1.2.2.2.1.1, y.1.2.2.2.1.2.1, y.1.2.2.2.2.1, y.1.2.2.2.2.2.1)) (fun _ => rfl)
noncomputable def Z6K : Nat → Int × Int × List (Int × Int) → List (Int × Int × Int) → List Int → Option (List (Int × Int × Int) × Int × Int × List (Int × Int))
 | 0, _, _, _ => none
 | k + 1, p0, p1, p2 =>
  Option.bind (Z5i k p0.1 p0.2.1 p0.2.2 (0 : Int) (0 : Int) [] p1 p2) fun z7 => Option.bind (Z8h k z7.1 z7.2.1 z7.2.2.1 z7.2.2.2.1 z7.2.2.2.2.1 z7.2.2.2.2.2.1 z7.2.2.2.2.2.2.1 [] z7.2.2.2.2.2.2.2.1 z7.2.2.2.2.2.2.2.2 (↑(List.length z7.2.2.2.2.2.2.2.2) : Int) (0 : Int)) fun z9 => some (Prod.snd z9.2.2.2.2.2, Prod.fst z9.2.2.2, Prod.fst z9.2.2.2.2, Prod.fst z9.2.2.2.2.2)
noncomputable def Z5h : FnDef := .of Zsl Z8C (List (Int × Int × Int) × Int × Int × List (Int × Int)) (fun k x => Z6K k x.1 x.2.1 x.2.2.1) ZpV Zpp Zwt
noncomputable def Zcf : Code := Try.f123.body.getD .skip
noncomputable def Z2n : Ctx (Tup Z8C × OutD) := { T := T, G := [(184, Z3y.E), (185, Z3g.E), (186, Z8b.E)], mvs := [], no := 0, n := 41, res := resOf T Zsl Z8C Try.f123.results.toList, loops := [(0, Z7l.E)], regs := [(1, Z6o.E)], conds := [] }
theorem Zjg (k : Nat) : EnvOK Try.prog k Z2n.G := (EnvOK.cons (ZeK k) (EnvOK.cons (Zl8 k) (EnvOK.cons (ZCs k) (EnvOK.nil mixed))))
noncomputable def Zei : Array Oper := (findReg 1 Zcf).getD #[]
theorem ZvH (k : Nat) (x : ZiT.D) : execD Z2n.T Z2n.G Z2n.mvs k Zei (Z6o.inp.st Z2n.n x) (outK Z2n Z6o) = ZaQ k x.1.2.1.1 x.1.2.1.2.1 x.1.2.1.2.2.1 x.1.2.2.1.1 x.1.2.2.1.2.1 x.1.2.2.2.1 x.2.1 x.2.2.1 := by kernel_rfl
theorem ZuK (k : Nat) : EOK Try.prog Z2n k Z6o.E (.region 1 Zei true) := Zau (D := Z6o) (m := 3) T_ok (Zjg k) (fun x => (ZvH k x).trans (Zwm k x.1.2.1.1 x.1.2.1.2.1 x.1.2.1.2.2.1 x.1.2.2.1.1 x.1.2.2.1.2.1 x.1.2.2.2.1 x.2.1 x.2.2.1))
noncomputable def Zc6 : Code := (findLoop 0 Zcf).getD .skip
theorem Zyo (k : Nat) (x : Zf9.D) : Z7l.lp (k + 1) x = loopK Z2n Z7l 0 Zc6 k x := by kernel_rfl
theorem Zyg (k : Nat) : LOK Try.prog Z2n k Zc6 := LOK.by [] (by kernel_rfl) AllOK.nil
theorem Zyr (x : Zf9.D) : Z7l.lp 0 x = none := by kernel_rfl
theorem ZwP (k : Nat) : EOK Try.prog Z2n k Z7l.E (.block 0 (.loop Zc6)) := Zp T_ok Zjg Zyr Zyo Zyg k
theorem ZBd (k : Nat) (x : Tup Z5h.ps) : Z5h.f (k + 1) x = fnK Z5h Z2n Zcf k x := by kernel_rfl
theorem ZAW (x : Tup Z5h.ps) : Z5h.f 0 x = none := by kernel_rfl
theorem ZBK (k : Nat) : LOK Try.prog Z2n k Zcf := LOK.by [(Z6o.E, .region 1 Zei true), (Z7l.E, .block 0 (.loop Zc6))] (by kernel_rfl) (AllOK.cons (ZuK k) (AllOK.cons (ZwP k) AllOK.nil))
theorem Zsm (k : Nat) : SoundAt Try.prog k 123 Z5h.E := @Ze Try.prog Z5h Z2n 123 Try.f123 Zcf (by kernel_rfl) (by kernel_rfl) (by kernel_rfl) Try.func123 (by kernel_rfl) (by kernel_rfl) (by kernel_rfl) T_ok Zjg ZBK ZAW ZBd k
noncomputable def Z8k : List PK := [PK.mk (Ty.slice (63 : Nat) (Ty.pair (Ty.int .i64) (Ty.pair (Ty.int .i64) (Ty.int .i64)))) false none false none, PK.mk (Ty.pair (Ty.int .i64) (Ty.pair (Ty.int .i64) (Ty.slice (79 : Nat) (Ty.pair (Ty.int .i64) (Ty.int .i64))))) true none false none]
noncomputable def Zmm : List PK := [PK.mk (Ty.pair (Ty.int .i64) (Ty.pair (Ty.int .i64) (Ty.slice (79 : Nat) (Ty.pair (Ty.int .i64) (Ty.int .i64))))) true none false none, PK.mk (Ty.slice (3 : Nat) (Ty.int .i64)) false none false none]
noncomputable def ZkJ (r : List (Int × Int × Int) × Int × Int × List (Int × Int)) : Tup Z8k × OutD := ((r.1, r.2, ()), none)
noncomputable def Zl1 : Tup Z8k × OutD → Option (List (Int × Int × Int) × Int × Int × List (Int × Int))
 | (a, none) => some (a.1, a.2.1)
 | _ => none
theorem Zt9 : ∀ b r, Zl1 b = some r → ZkJ r = b := by
 rintro ⟨a, o⟩ r h
 cases o with
 | none => injection h with h; subst h; rfl
 | some _ => cases h
noncomputable def Z69 : Nat → Int → Int → List (Int × Int) → Int → Int → List (Int × Int) → List Int → List (Int × Int × Int) → List Int → Int → Int → Option (Int × Int × List (Int × Int) × Int × Int × List (Int × Int) × List (Int × Int × Int))
 | 0, _, _, _, _, _, _, _, _, _, _, _ => none
 | k + 1, b1_0, b1_1, o2, b3_0, b3_1, o4, o5, o6, v18, v19, v20 =>
  if decide (v20 < v19) = true then if (0 : Int) ≤ v20 then if v20 < (↑(List.length v18) : Int) then Option.bind (ZgU k (b3_0, b3_1, o4) o5 (List.getD v18 (Int.toNat v20) (0 : Int))) fun z2 => if List.length o6 + List.length [(Prod.fst z2.1, Prod.fst z2.1.2, Prod.snd z2.1.2)] ≤ (140737488355328 / 24 : Nat) then Z69 k b1_0 b1_1 o2 b3_0 b3_1 z2.2.2 o5 (o6 ++ [(Prod.fst z2.1, Prod.fst z2.1.2, Prod.snd z2.1.2)]) v18 v19 (wrap64 (v20 + (1 : Int))) else none else none else none else some (b1_0, b1_1, o2, b3_0, b3_1, o4, o6)
noncomputable def Zdc : Spec := Spec.mk [OSh.ro, OSh.box (53 : Nat) [Sh.int .i64, Sh.int .i64, Sh.sl (2 : Nat)], OSh.row true (79 : Nat) (Ty.pair (Ty.int .i64) (Ty.int .i64)), OSh.box (53 : Nat) [Sh.int .i64, Sh.int .i64, Sh.sl (4 : Nat)], OSh.row true (79 : Nat) (Ty.pair (Ty.int .i64) (Ty.int .i64)), OSh.row true (3 : Nat) (Ty.int .i64), OSh.row true (63 : Nat) (Ty.pair (Ty.int .i64) (Ty.pair (Ty.int .i64) (Ty.int .i64)))] [((5 : Nat), TSh.at (Sh.ptr (1 : Nat) (0 : Nat))), ((6 : Nat), TSh.at (Sh.ptr (3 : Nat) (0 : Nat))), ((7 : Nat), TSh.at (Sh.sl (5 : Nat))), ((8 : Nat), TSh.at (Sh.sl (6 : Nat))), ((18 : Nat), TSh.at (Sh.snap (0 : Nat) (Ty.int .i64))), ((19 : Nat), TSh.at (Sh.int .i64)), ((20 : Nat), TSh.at (Sh.int .i64))]
noncomputable def Zv8 : Spec := Spec.mk [OSh.ro, OSh.box (53 : Nat) [Sh.int .i64, Sh.int .i64, Sh.sl (2 : Nat)], OSh.row true (79 : Nat) (Ty.pair (Ty.int .i64) (Ty.int .i64)), OSh.box (53 : Nat) [Sh.int .i64, Sh.int .i64, Sh.sl (4 : Nat)], OSh.row true (79 : Nat) (Ty.pair (Ty.int .i64) (Ty.int .i64)), OSh.row true (63 : Nat) (Ty.pair (Ty.int .i64) (Ty.pair (Ty.int .i64) (Ty.int .i64)))] [((5 : Nat), TSh.at (Sh.ptr (1 : Nat) (0 : Nat))), ((6 : Nat), TSh.at (Sh.ptr (3 : Nat) (0 : Nat))), ((8 : Nat), TSh.at (Sh.sl (5 : Nat)))]
noncomputable def Z5m : LoopDef (Tup Z8k × OutD) := .plain Zdc Zv8 (Int × Int × List (Int × Int) × Int × Int × List (Int × Int) × List (Int × Int × Int)) (fun k x => Z69 k x.1.2.1.1 x.1.2.1.2.1 x.1.2.2.1 x.1.2.2.2.1.1 x.1.2.2.2.1.2.1 x.1.2.2.2.2.1 x.1.2.2.2.2.2.1 x.1.2.2.2.2.2.2.1 x.2.2.2.2.2.1 x.2.2.2.2.2.2.1 x.2.2.2.2.2.2.2.1) (fun z => (((), (z.1, z.2.1, (), ()), z.2.2.1, (z.2.2.2.1, z.2.2.2.2.1, (), ()), z.2.2.2.2.2.1, z.2.2.2.2.2.2, ()), ((), (), (), ()))) (fun y => (y.1.2.1.1, y.1.2.1.2.1, y.1.2.2.1, y.1.2.2.2.1.1, y.1.2.2.2.1.2.1, y.1.2.2.2.2.1, y.1.2.2.2.2.2.1)) (fun _ => rfl)
noncomputable def ZcO : Nat → Int × Int × List (Int × Int) → List Int → Option (List (Int × Int × Int) × Int × Int × List (Int × Int))
 | 0, _, _ => none
 | k + 1, p0, p1 =>
  Option.bind (Z8u k (Prod.fst p0, Prod.fst p0.2, Prod.snd p0.2)) fun z0 => Option.bind (Z61 k (Prod.fst p0, Prod.fst p0.2, Prod.snd p0.2)) fun z1 => Option.bind (Z69 k (0 : Int) (0 : Int) [] z0.1 z0.2.1 z0.2.2 z1 [] p1 (↑(List.length p1) : Int) (0 : Int)) fun z3 => some (Prod.snd z3.2.2.2.2.2, Prod.fst z3.2.2.2, Prod.fst z3.2.2.2.2, Prod.fst z3.2.2.2.2.2)
noncomputable def Z4L : FnDef := .of Zmm Z8k (List (Int × Int × Int) × Int × Int × List (Int × Int)) (fun k x => ZcO k x.1 x.2.1) ZkJ Zl1 Zt9
noncomputable def ZcK : Code := Try.f145.body.getD .skip
noncomputable def Z6q : Ctx (Tup Z8k × OutD) := { T := T, G := [(127, Z2F.E), (128, Z1y.E), (196, Z86.E)], mvs := [], no := 0, n := 38, res := resOf T Zmm Z8k Try.f145.results.toList, loops := [(0, Z5m.E)], regs := [], conds := [] }
theorem ZmZ (k : Nat) : EnvOK Try.prog k Z6q.G := (EnvOK.cons (ZjG k) (EnvOK.cons (Zg2 k) (EnvOK.cons (ZCD k) (EnvOK.nil mixed))))
noncomputable def Zaf : Code := (findLoop 0 ZcK).getD .skip
theorem ZuT (k : Nat) (x : Zdc.D) : Z5m.lp (k + 1) x = loopK Z6q Z5m 0 Zaf k x := by kernel_rfl
theorem Zu8 (k : Nat) : LOK Try.prog Z6q k Zaf := LOK.by [] (by kernel_rfl) AllOK.nil
theorem Zu4 (x : Zdc.D) : Z5m.lp 0 x = none := by kernel_rfl
theorem ZrR (k : Nat) : EOK Try.prog Z6q k Z5m.E (.block 0 (.loop Zaf)) := Zp T_ok ZmZ Zu4 ZuT Zu8 k
theorem Zza (k : Nat) (x : Tup Z4L.ps) : Z4L.f (k + 1) x = fnK Z4L Z6q ZcK k x := by kernel_rfl
theorem Zzg (x : Tup Z4L.ps) : Z4L.f 0 x = none := by kernel_rfl
theorem ZyS (k : Nat) : LOK Try.prog Z6q k ZcK := LOK.by [(Z5m.E, .block 0 (.loop Zaf))] (by kernel_rfl) (AllOK.cons (ZrR k) AllOK.nil)
theorem Zzr (k : Nat) : SoundAt Try.prog k 145 Z4L.E := @Ze Try.prog Z4L Z6q 145 Try.f145 ZcK (by kernel_rfl) (by kernel_rfl) (by kernel_rfl) Try.func145 (by kernel_rfl) (by kernel_rfl) (by kernel_rfl) T_ok ZmZ ZyS Zzg Zza k
noncomputable def Z8s : List PK := [PK.mk (Ty.slice (63 : Nat) (Ty.pair (Ty.int .i64) (Ty.pair (Ty.int .i64) (Ty.int .i64)))) false none false none, PK.mk (Ty.pair (Ty.int .i64) (Ty.pair (Ty.int .i64) (Ty.slice (79 : Nat) (Ty.pair (Ty.int .i64) (Ty.int .i64))))) true none false none]
noncomputable def Ztj : List PK := [PK.mk (Ty.pair (Ty.int .i64) (Ty.pair (Ty.int .i64) (Ty.slice (79 : Nat) (Ty.pair (Ty.int .i64) (Ty.int .i64))))) true none false none, PK.mk (Ty.slice (3 : Nat) (Ty.int .i64)) false none false none]
noncomputable def Zpu (r : List (Int × Int × Int) × Int × Int × List (Int × Int)) : Tup Z8s × OutD := ((r.1, r.2, ()), none)
noncomputable def ZpT : Tup Z8s × OutD → Option (List (Int × Int × Int) × Int × Int × List (Int × Int))
 | (a, none) => some (a.1, a.2.1)
 | _ => none
theorem ZvJ : ∀ b r, ZpT b = some r → Zpu r = b := by
 rintro ⟨a, o⟩ r h
 cases o with
 | none => injection h with h; subst h; rfl
 | some _ => cases h
noncomputable def Z5c : Nat → Int → Int → List (Int × Int) → Int → Int → List (Int × Int) → List Int → Option (Int × Int × List (Int × Int) × Int × Int × List (Int × Int) × List Int × List Int) := fun k b1_0 b1_1 b1_2 b2_0 b2_1 o3 v1 =>
    Option.bind (Z3B k (b1_0, b1_1, b1_2)) fun z0 => Option.bind (Z1Z k (b1_0, b1_1, b1_2)) fun z1 => some (b2_0, b2_1, o3, Prod.fst z0, Prod.fst z0.2, Prod.snd z0.2, z1, v1)
noncomputable def Zbc : Nat → Int → Int → List (Int × Int) → Int → Int → List (Int × Int) → List Int → Option (List (Int × Int × List (Int × Int) × Int × Int × List (Int × Int) × List Int × List Int)) := fun k b1_0 b1_1 b1_2 b2_0 b2_1 o3 v1 =>
    joinL (Option.bind (Z3B k (b1_0, b1_1, b1_2)) fun z2 => joinL (Option.bind (Z1Z k (b1_0, b1_1, b1_2)) fun z3 => some [(b2_0, b2_1, o3, Prod.fst z2, Prod.fst z2.2, Prod.snd z2.2, z3, v1)]) (Option.bind (Z1Z k (b1_0, b1_1, b1_2)) fun z4 => some [(b2_0, b2_1, o3, Prod.fst z2, Prod.fst z2.2, Prod.snd z2.2, z4, v1)])) (Option.bind (Z3B k (b1_0, b1_1, b1_2)) fun z5 => Option.bind (Z1Z k (b1_0, b1_1, b1_2)) fun z6 => some [(b2_0, b2_1, o3, Prod.fst z5, Prod.fst z5.2, Prod.snd z5.2, z6, v1)])
noncomputable def Zja : Spec := Spec.mk [OSh.ro, OSh.box (53 : Nat) [Sh.int .i64, Sh.int .i64, Sh.snap (0 : Nat) (Ty.pair (Ty.int .i64) (Ty.int .i64))], OSh.box (53 : Nat) [Sh.int .i64, Sh.int .i64, Sh.sl (3 : Nat)], OSh.row true (79 : Nat) (Ty.pair (Ty.int .i64) (Ty.int .i64))] [((1 : Nat), TSh.at (Sh.snap (0 : Nat) (Ty.int .i64))), ((2 : Nat), TSh.at (Sh.ptr (1 : Nat) (0 : Nat))), ((5 : Nat), TSh.at (Sh.ptr (2 : Nat) (0 : Nat)))]
noncomputable def Zvy : Spec := Spec.mk [OSh.ro, OSh.box (53 : Nat) [Sh.int .i64, Sh.int .i64, Sh.sl (2 : Nat)], OSh.row true (79 : Nat) (Ty.pair (Ty.int .i64) (Ty.int .i64)), OSh.box (53 : Nat) [Sh.int .i64, Sh.int .i64, Sh.sl (4 : Nat)], OSh.row true (79 : Nat) (Ty.pair (Ty.int .i64) (Ty.int .i64)), OSh.row true (3 : Nat) (Ty.int .i64)] [((1 : Nat), TSh.at (Sh.snap (0 : Nat) (Ty.int .i64))), ((5 : Nat), TSh.at (Sh.ptr (1 : Nat) (0 : Nat))), ((6 : Nat), TSh.at (Sh.ptr (3 : Nat) (0 : Nat))), ((7 : Nat), TSh.at (Sh.sl (5 : Nat)))]
noncomputable def Z6d : LoopDef (Tup Z8s × OutD) := .plain Zja Zvy (Int × Int × List (Int × Int) × Int × Int × List (Int × Int) × List Int × List Int) (fun k x => Z5c k x.1.2.1.1 x.1.2.1.2.1 x.1.2.1.2.2.1 x.1.2.2.1.1 x.1.2.2.1.2.1 x.1.2.2.2.1 x.2.1) (fun z => (((), (z.1, z.2.1, (), ()), z.2.2.1, (z.2.2.2.1, z.2.2.2.2.1, (), ()), z.2.2.2.2.2.1, z.2.2.2.2.2.2.1, ()), (z.2.2.2.2.2.2.2, (), (), (), ()))) (fun y => (y.1.2.1.1, y.1.2.1.2.1, y.1.2.2.1, y.1.2.2.2.1.1, y.1.2.2.2.1.2.1, y.1.2.2.2.2.1, y.1.2.2.2.2.2.1, y.2.1)) (fun _ => rfl)
theorem Zww (k : Nat) (b1_0 : Int) (b1_1 : Int) (b1_2 : List (Int × Int)) (b2_0 : Int) (b2_1 : Int) (o3 : List (Int × Int)) (v1 : List Int) : Zbc k b1_0 b1_1 b1_2 b2_0 b2_1 o3 v1 = repl 3 (Z5c k b1_0 b1_1 b1_2 b2_0 b2_1 o3 v1) := by
 first
 | (simp only [Zbc, Z5c, Zb, Zg, Zc, Za, Z9, Z8, if_true]; done)
 | (simp only [Zbc, Z5c, Zb, Zg, Zc, Za, Z9, Z8, if_true]; simp only [Z4y, Z4u, Z7o, Z8]; simp only [Z9c]; exact Z5J ⟨fun h => by simp only [h, and_self], fun h => by simp only [h, and_self]⟩)
noncomputable def Z8n : Nat → Int → Int → List (Int × Int) → Int → Int → List (Int × Int) → List Int → List (Int × Int × Int) → List Int → Int → Int → Option (Int × Int × List (Int × Int) × Int × Int × List (Int × Int) × List (Int × Int × Int))
 | 0, _, _, _, _, _, _, _, _, _, _, _ => none
 | k + 1, b1_0, b1_1, o2, b3_0, b3_1, o4, o5, o6, v18, v19, v20 =>
  if decide (v20 < v19) = true then if (0 : Int) ≤ v20 then if v20 < (↑(List.length v18) : Int) then Option.bind (ZgN k (b3_0, b3_1, o4) o5 (List.getD v18 (Int.toNat v20) (0 : Int))) fun z8 => if List.length o6 + List.length [(Prod.fst z8.1, Prod.fst z8.1.2, Prod.snd z8.1.2)] ≤ (140737488355328 / 24 : Nat) then Z8n k b1_0 b1_1 o2 z8.2.1.1 z8.2.1.2.1 z8.2.1.2.2 o5 (o6 ++ [(Prod.fst z8.1, Prod.fst z8.1.2, Prod.snd z8.1.2)]) v18 v19 (wrap64 (v20 + (1 : Int))) else none else none else none else some (b1_0, b1_1, o2, b3_0, b3_1, o4, o6)
noncomputable def ZeX : Spec := Spec.mk [OSh.ro, OSh.box (53 : Nat) [Sh.int .i64, Sh.int .i64, Sh.sl (2 : Nat)], OSh.row true (79 : Nat) (Ty.pair (Ty.int .i64) (Ty.int .i64)), OSh.box (53 : Nat) [Sh.int .i64, Sh.int .i64, Sh.sl (4 : Nat)], OSh.row true (79 : Nat) (Ty.pair (Ty.int .i64) (Ty.int .i64)), OSh.row true (3 : Nat) (Ty.int .i64), OSh.row true (63 : Nat) (Ty.pair (Ty.int .i64) (Ty.pair (Ty.int .i64) (Ty.int .i64)))] [((5 : Nat), TSh.at (Sh.ptr (1 : Nat) (0 : Nat))), ((6 : Nat), TSh.at (Sh.ptr (3 : Nat) (0 : Nat))), ((7 : Nat), TSh.at (Sh.sl (5 : Nat))), ((8 : Nat), TSh.at (Sh.sl (6 : Nat))), ((18 : Nat), TSh.at (Sh.snap (0 : Nat) (Ty.int .i64))), ((19 : Nat), TSh.at (Sh.int .i64)), ((20 : Nat), TSh.at (Sh.int .i64))]
noncomputable def ZxV : Spec := Spec.mk [OSh.ro, OSh.box (53 : Nat) [Sh.int .i64, Sh.int .i64, Sh.sl (2 : Nat)], OSh.row true (79 : Nat) (Ty.pair (Ty.int .i64) (Ty.int .i64)), OSh.box (53 : Nat) [Sh.int .i64, Sh.int .i64, Sh.sl (4 : Nat)], OSh.row true (79 : Nat) (Ty.pair (Ty.int .i64) (Ty.int .i64)), OSh.row true (63 : Nat) (Ty.pair (Ty.int .i64) (Ty.pair (Ty.int .i64) (Ty.int .i64)))] [((5 : Nat), TSh.at (Sh.ptr (1 : Nat) (0 : Nat))), ((6 : Nat), TSh.at (Sh.ptr (3 : Nat) (0 : Nat))), ((8 : Nat), TSh.at (Sh.sl (5 : Nat)))]
noncomputable def Z79 : LoopDef (Tup Z8s × OutD) := .plain ZeX ZxV (Int × Int × List (Int × Int) × Int × Int × List (Int × Int) × List (Int × Int × Int)) (fun k x => Z8n k x.1.2.1.1 x.1.2.1.2.1 x.1.2.2.1 x.1.2.2.2.1.1 x.1.2.2.2.1.2.1 x.1.2.2.2.2.1 x.1.2.2.2.2.2.1 x.1.2.2.2.2.2.2.1 x.2.2.2.2.2.1 x.2.2.2.2.2.2.1 x.2.2.2.2.2.2.2.1) (fun z => (((), (z.1, z.2.1, (), ()), z.2.2.1, (z.2.2.2.1, z.2.2.2.2.1, (), ()), z.2.2.2.2.2.1, z.2.2.2.2.2.2, ()), ((), (), (), ()))) (fun y => (y.1.2.1.1, y.1.2.1.2.1, y.1.2.2.1, y.1.2.2.2.1.1, y.1.2.2.2.1.2.1, y.1.2.2.2.2.1, y.1.2.2.2.2.2.1)) (fun _ => rfl)
noncomputable def ZfB : Nat → Int × Int × List (Int × Int) → List Int → Option (List (Int × Int × Int) × Int × Int × List (Int × Int))
 | 0, _, _ => none
 | k + 1, p0, p1 =>
  Option.bind (Z5c k p0.1 p0.2.1 p0.2.2 (0 : Int) (0 : Int) [] p1) fun z7 => Option.bind (Z8n k z7.1 z7.2.1 z7.2.2.1 z7.2.2.2.1 z7.2.2.2.2.1 z7.2.2.2.2.2.1 z7.2.2.2.2.2.2.1 [] z7.2.2.2.2.2.2.2 (↑(List.length z7.2.2.2.2.2.2.2) : Int) (0 : Int)) fun z9 => some (Prod.snd z9.2.2.2.2.2, Prod.fst z9.2.2.2, Prod.fst z9.2.2.2.2, Prod.fst z9.2.2.2.2.2)
noncomputable def Z6P : FnDef := .of Ztj Z8s (List (Int × Int × Int) × Int × Int × List (Int × Int)) (fun k x => ZfB k x.1 x.2.1) Zpu ZpT ZvJ
noncomputable def Zci : Code := Try.f146.body.getD .skip
noncomputable def Z2p : Ctx (Tup Z8s × OutD) := { T := T, G := [(184, Z3y.E), (185, Z3g.E), (194, Z85.E)], mvs := [], no := 0, n := 40, res := resOf T Ztj Z8s Try.f146.results.toList, loops := [(0, Z79.E)], regs := [(1, Z6d.E)], conds := [] }
theorem ZjW (k : Nat) : EnvOK Try.prog k Z2p.G := (EnvOK.cons (ZeK k) (EnvOK.cons (Zl8 k) (EnvOK.cons (ZBQ k) (EnvOK.nil mixed))))
noncomputable def Zeb : Array Oper := (findReg 1 Zci).getD #[]
theorem Zwe (k : Nat) (x : Zja.D) : execD Z2p.T Z2p.G Z2p.mvs k Zeb (Z6d.inp.st Z2p.n x) (outK Z2p Z6d) = Zbc k x.1.2.1.1 x.1.2.1.2.1 x.1.2.1.2.2.1 x.1.2.2.1.1 x.1.2.2.1.2.1 x.1.2.2.2.1 x.2.1 := by kernel_rfl
theorem ZuC (k : Nat) : EOK Try.prog Z2p k Z6d.E (.region 1 Zeb true) := Zau (D := Z6d) (m := 3) T_ok (ZjW k) (fun x => (Zwe k x).trans (Zww k x.1.2.1.1 x.1.2.1.2.1 x.1.2.1.2.2.1 x.1.2.2.1.1 x.1.2.2.1.2.1 x.1.2.2.2.1 x.2.1))
noncomputable def Zc2 : Code := (findLoop 0 Zci).getD .skip
theorem Zxi (k : Nat) (x : ZeX.D) : Z79.lp (k + 1) x = loopK Z2p Z79 0 Zc2 k x := by kernel_rfl
theorem Zy2 (k : Nat) : LOK Try.prog Z2p k Zc2 := LOK.by [] (by kernel_rfl) AllOK.nil
theorem ZxA (x : ZeX.D) : Z79.lp 0 x = none := by kernel_rfl
theorem ZvQ (k : Nat) : EOK Try.prog Z2p k Z79.E (.block 0 (.loop Zc2)) := Zp T_ok ZjW ZxA Zxi Zy2 k
theorem ZB4 (k : Nat) (x : Tup Z6P.ps) : Z6P.f (k + 1) x = fnK Z6P Z2p Zci k x := by kernel_rfl
theorem ZBA (x : Tup Z6P.ps) : Z6P.f 0 x = none := by kernel_rfl
theorem ZBc (k : Nat) : LOK Try.prog Z2p k Zci := LOK.by [(Z6d.E, .region 1 Zeb true), (Z79.E, .block 0 (.loop Zc2))] (by kernel_rfl) (AllOK.cons (ZuC k) (AllOK.cons (ZvQ k) AllOK.nil))
theorem ZAX (k : Nat) : SoundAt Try.prog k 146 Z6P.E := @Ze Try.prog Z6P Z2p 146 Try.f146 Zci (by kernel_rfl) (by kernel_rfl) (by kernel_rfl) Try.func146 (by kernel_rfl) (by kernel_rfl) (by kernel_rfl) T_ok ZjW ZBc ZBA ZB4 k
noncomputable def Z2m : List PK := [PK.mk (Ty.slice (77 : Nat) (Ty.pair (Ty.int .i64) (Ty.pair (Ty.int .i64) (Ty.int .i64)))) false none false none]
noncomputable def ZeG : List PK := [PK.mk (Ty.pair (Ty.int .i64) (Ty.pair (Ty.int .i64) (Ty.slice (79 : Nat) (Ty.pair (Ty.int .i64) (Ty.int .i64))))) true none false none]
noncomputable def ZdG (r : List (Int × Int × Int)) : Tup Z2m × OutD := ((r, ()), none)
noncomputable def ZdE : Tup Z2m × OutD → Option (List (Int × Int × Int))
 | (a, none) => some (a.1)
 | _ => none
theorem ZiB : ∀ b r, ZdE b = some r → ZdG r = b := by
 rintro ⟨a, o⟩ r h
 cases o with
 | none => injection h with h; subst h; rfl
 | some _ => cases h
noncomputable def Z16 : Nat → Int → Int → List (Int × Int) → List (Int × Int × Int) → Int → Int → Int → Int → List (Int × Int) → Int → Int → Option (Int × Int × List (Int × Int) × List (Int × Int × Int) × List (Int × Int) × Int × Int)
 | 0, _, _, _, _, _, _, _, _, _, _, _ => none
 | k + 1, b1_0, b1_1, b1_2, o2, b3_0, b3_1, v4, v6, v9, v10, v11 =>
  if decide (v6 ≤ (3 : Int)) = true then Option.bind (Zam k (b3_0, b3_1) v6) fun z0 => if z0 = true then if b1_1 = (0 : Int) then none else if b1_1 = (0 : Int) then none else if List.length o2 + List.length [(v6, wrap64 (Int.tdiv v4 b1_1), Int.tmod v4 b1_1)] ≤ (140737488355328 / 24 : Nat) then Z16 k b1_0 b1_1 b1_2 (o2 ++ [(v6, wrap64 (Int.tdiv v4 b1_1), Int.tmod v4 b1_1)]) b3_0 b3_1 v4 (wrap64 (v6 + (1 : Int))) v9 v10 v11 else none else Z16 k b1_0 b1_1 b1_2 o2 b3_0 b3_1 v4 (wrap64 (v6 + (1 : Int))) v9 v10 v11 else some (b1_0, b1_1, b1_2, o2, v9, v10, v11)
noncomputable def Z8p : Spec := Spec.mk [OSh.ro, OSh.box (53 : Nat) [Sh.int .i64, Sh.int .i64, Sh.snap (0 : Nat) (Ty.pair (Ty.int .i64) (Ty.int .i64))], OSh.row true (77 : Nat) (Ty.pair (Ty.int .i64) (Ty.pair (Ty.int .i64) (Ty.int .i64))), OSh.box (79 : Nat) [Sh.int .i64, Sh.int .i64]] [((1 : Nat), TSh.at (Sh.ptr (1 : Nat) (0 : Nat))), ((3 : Nat), TSh.at (Sh.sl (2 : Nat))), ((4 : Nat), TSh.at (Sh.int .i64)), ((5 : Nat), TSh.at (Sh.ptr (3 : Nat) (0 : Nat))), ((6 : Nat), TSh.at (Sh.int .i64)), ((9 : Nat), TSh.at (Sh.snap (0 : Nat) (Ty.pair (Ty.int .i64) (Ty.int .i64)))), ((10 : Nat), TSh.at (Sh.int .i64)), ((11 : Nat), TSh.at (Sh.int .i64))]
noncomputable def Zk5 : Spec := Spec.mk [OSh.ro, OSh.box (53 : Nat) [Sh.int .i64, Sh.int .i64, Sh.snap (0 : Nat) (Ty.pair (Ty.int .i64) (Ty.int .i64))], OSh.row true (77 : Nat) (Ty.pair (Ty.int .i64) (Ty.pair (Ty.int .i64) (Ty.int .i64)))] [((1 : Nat), TSh.at (Sh.ptr (1 : Nat) (0 : Nat))), ((3 : Nat), TSh.at (Sh.sl (2 : Nat))), ((9 : Nat), TSh.at (Sh.snap (0 : Nat) (Ty.pair (Ty.int .i64) (Ty.int .i64)))), ((10 : Nat), TSh.at (Sh.int .i64)), ((11 : Nat), TSh.at (Sh.int .i64))]
noncomputable def Z2o : LoopDef (Tup Z2m × OutD) := .plain Z8p Zk5 (Int × Int × List (Int × Int) × List (Int × Int × Int) × List (Int × Int) × Int × Int) (fun k x => Z16 k x.1.2.1.1 x.1.2.1.2.1 x.1.2.1.2.2.1 x.1.2.2.1 x.1.2.2.2.1.1 x.1.2.2.2.1.2.1 x.2.2.2.1 x.2.2.2.2.2.1 x.2.2.2.2.2.2.1 x.2.2.2.2.2.2.2.1 x.2.2.2.2.2.2.2.2.1) (fun z => (((), (z.1, z.2.1, z.2.2.1, ()), z.2.2.2.1, ()), ((), (), z.2.2.2.2.1, z.2.2.2.2.2.1, z.2.2.2.2.2.2, ()))) (fun y => (y.1.2.1.1, y.1.2.1.2.1, y.1.2.1.2.2.1, y.1.2.2.1, y.2.2.2.1, y.2.2.2.2.1, y.2.2.2.2.2.1)) (fun _ => rfl)
noncomputable def Z1P : Nat → Int → Int → List (Int × Int) → List (Int × Int × Int) → List (Int × Int) → Int → Int → Option (List (Int × Int × Int))
 | 0, _, _, _, _, _, _, _ => none
 | k + 1, b1_0, b1_1, b1_2, o2, v9, v10, v11 =>
  if decide (v11 < v10) = true then if (0 : Int) ≤ v11 then if v11 < (↑(List.length v9) : Int) then Option.bind (Z16 k b1_0 b1_1 b1_2 o2 (Prod.fst (List.getD v9 (Int.toNat v11) ((0 : Int), (0 : Int)))) (Prod.snd (List.getD v9 (Int.toNat v11) ((0 : Int), (0 : Int)))) v11 (1 : Int) v9 v10 v11) fun z1 => Z1P k z1.1 z1.2.1 z1.2.2.1 z1.2.2.2.1 z1.2.2.2.2.1 z1.2.2.2.2.2.1 (wrap64 (Prod.snd z1.2.2.2.2.2 + (1 : Int))) else none else none else some o2
noncomputable def Z8z : Spec := Spec.mk [OSh.ro, OSh.box (53 : Nat) [Sh.int .i64, Sh.int .i64, Sh.snap (0 : Nat) (Ty.pair (Ty.int .i64) (Ty.int .i64))], OSh.row true (77 : Nat) (Ty.pair (Ty.int .i64) (Ty.pair (Ty.int .i64) (Ty.int .i64)))] [((1 : Nat), TSh.at (Sh.ptr (1 : Nat) (0 : Nat))), ((3 : Nat), TSh.at (Sh.sl (2 : Nat))), ((9 : Nat), TSh.at (Sh.snap (0 : Nat) (Ty.pair (Ty.int .i64) (Ty.int .i64)))), ((10 : Nat), TSh.at (Sh.int .i64)), ((11 : Nat), TSh.at (Sh.int .i64))]
noncomputable def Zjq : Spec := Spec.mk [OSh.ro, OSh.row true (77 : Nat) (Ty.pair (Ty.int .i64) (Ty.pair (Ty.int .i64) (Ty.int .i64)))] [((3 : Nat), TSh.at (Sh.sl (1 : Nat)))]
noncomputable def Z2q : LoopDef (Tup Z2m × OutD) := .plain Z8z Zjq (List (Int × Int × Int)) (fun k x => Z1P k x.1.2.1.1 x.1.2.1.2.1 x.1.2.1.2.2.1 x.1.2.2.1 x.2.2.2.1 x.2.2.2.2.1 x.2.2.2.2.2.1) (fun z => (((), z, ()), ((), ()))) (fun y => (y.1.2.1)) (fun _ => rfl)
noncomputable def Z3q : Nat → Int × Int × List (Int × Int) → Option (List (Int × Int × Int))
 | 0, _ => none
 | k + 1, p0 =>
  Option.bind (Z1P k p0.1 p0.2.1 p0.2.2 [] p0.2.2 (↑(List.length p0.2.2) : Int) (0 : Int)) fun z2 => some z2
noncomputable def Z15 : FnDef := .of ZeG Z2m (List (Int × Int × Int)) (fun k x => Z3q k x.1) ZdG ZdE ZiB
noncomputable def Z50 : Code := Try.f147.body.getD .skip
noncomputable def Z14 : Ctx (Tup Z2m × OutD) := { T := T, G := [(181, Z3T.E)], mvs := [], no := 0, n := 38, res := resOf T ZeG Z2m Try.f147.results.toList, loops := [(2, Z2o.E), (0, Z2q.E)], regs := [], conds := [] }
theorem ZaA (k : Nat) : EnvOK Try.prog k Z14.G := (EnvOK.cons (ZmG k) (EnvOK.nil mixed))
noncomputable def Z5b : Code := (findLoop 2 Z50).getD .skip
theorem ZjJ (k : Nat) (x : Z8p.D) : Z2o.lp (k + 1) x = loopK Z14 Z2o 2 Z5b k x := by kernel_rfl
theorem Zk8 (k : Nat) : LOK Try.prog Z14 k Z5b := LOK.by [] (by kernel_rfl) AllOK.nil
theorem Zjh (x : Z8p.D) : Z2o.lp 0 x = none := by kernel_rfl
theorem Ziu (k : Nat) : EOK Try.prog Z14 k Z2o.E (.block 2 (.loop Z5b)) := Zp T_ok ZaA Zjh ZjJ Zk8 k
noncomputable def Z5j : Code := (findLoop 0 Z50).getD .skip
theorem ZjH (k : Nat) (x : Z8z.D) : Z2q.lp (k + 1) x = loopK Z14 Z2q 0 Z5j k x := by kernel_rfl
theorem Zjb (k : Nat) : LOK Try.prog Z14 k Z5j := LOK.by [(Z2o.E, .block 2 (.loop Z5b))] (by kernel_rfl) (AllOK.cons (Ziu k) AllOK.nil)
theorem Zjl (x : Z8z.D) : Z2q.lp 0 x = none := by kernel_rfl
theorem ZiE (k : Nat) : EOK Try.prog Z14 k Z2q.E (.block 0 (.loop Z5j)) := Zp T_ok ZaA Zjl ZjH Zjb k
theorem ZmA (k : Nat) (x : Tup Z15.ps) : Z15.f (k + 1) x = fnK Z15 Z14 Z50 k x := by kernel_rfl
theorem Znv (x : Tup Z15.ps) : Z15.f 0 x = none := by kernel_rfl
theorem ZnQ (k : Nat) : LOK Try.prog Z14 k Z50 := LOK.by [(Z2q.E, .block 0 (.loop Z5j))] (by kernel_rfl) (AllOK.cons (ZiE k) AllOK.nil)
theorem Zah (k : Nat) : SoundAt Try.prog k 147 Z15.E := @Ze Try.prog Z15 Z14 147 Try.f147 Z50 (by kernel_rfl) (by kernel_rfl) (by kernel_rfl) Try.func147 (by kernel_rfl) (by kernel_rfl) (by kernel_rfl) T_ok ZaA ZnQ Znv ZmA k
noncomputable def Zaj : List PK := [PK.mk Ty.bool false none false none]
noncomputable def ZmB : List PK := [PK.mk (Ty.pair (Ty.int .i64) (Ty.pair (Ty.int .i64) (Ty.slice (79 : Nat) (Ty.pair (Ty.int .i64) (Ty.int .i64))))) true none false none, PK.mk (Ty.int .i64) false none false none, PK.mk (Ty.int .i64) false none false none]
noncomputable def Zl7 (r : Bool) : Tup Zaj × OutD := ((r, ()), none)
noncomputable def Zlm : Tup Zaj × OutD → Option (Bool)
 | (a, none) => some (a.1)
 | _ => none
theorem ZrU : ∀ b r, Zlm b = some r → Zl7 r = b := by
 rintro ⟨a, o⟩ r h
 cases o with
 | none => injection h with h; subst h; rfl
 | some _ => cases h
noncomputable def ZcP : Nat → Int × Int × List (Int × Int) → Int → Int → Option Bool
 | 0, _, _, _ => none
 | k + 1, p0, p1, p2 =>
  Option.bind (Z8i k (Prod.fst p0, Prod.fst p0.2, Prod.snd p0.2)) fun z0 => if z0 = true then if decide (p1 ≥ (0 : Int)) = true then if decide (p1 < Prod.fst p0) = true then if decide (p2 ≥ (0 : Int)) = true then some (decide (p2 < Prod.fst p0.2)) else some false else some false else some false else some false
noncomputable def Z4W : FnDef := .of ZmB Zaj (Bool) (fun k x => ZcP k x.1 x.2.1 x.2.2.1) Zl7 Zlm ZrU
noncomputable def ZgL : Code := Try.f180.body.getD .skip
noncomputable def ZcN : Ctx (Tup Zaj × OutD) := { T := T, G := [(132, Z2O.E)], mvs := [], no := 0, n := 29, res := resOf T ZmB Zaj Try.f180.results.toList, loops := [], regs := [], conds := [] }
theorem Zz8 (k : Nat) : EnvOK Try.prog k ZcN.G := (EnvOK.cons (Zgr k) (EnvOK.nil mixed))
theorem Zz5 (k : Nat) (x : Tup Z4W.ps) : Z4W.f (k + 1) x = fnK Z4W ZcN ZgL k x := by kernel_rfl
theorem Zz0 (x : Tup Z4W.ps) : Z4W.f 0 x = none := by kernel_rfl
theorem Zzm (k : Nat) : LOK Try.prog ZcN k ZgL := LOK.by [] (by kernel_rfl) AllOK.nil
theorem ZyC (k : Nat) : SoundAt Try.prog k 180 Z4W.E := @Ze Try.prog Z4W ZcN 180 Try.f180 ZgL (by kernel_rfl) (by kernel_rfl) (by kernel_rfl) Try.func180 (by kernel_rfl) (by kernel_rfl) (by kernel_rfl) T_ok Zz8 Zzm Zz0 Zz5 k
noncomputable def ZaE : List PK := [PK.mk Ty.bool false none false none]
noncomputable def Znh : List PK := [PK.mk (Ty.pair (Ty.int .i64) (Ty.pair (Ty.int .i64) (Ty.slice (79 : Nat) (Ty.pair (Ty.int .i64) (Ty.int .i64))))) true none false none]
noncomputable def Zln (r : Bool) : Tup ZaE × OutD := ((r, ()), none)
noncomputable def Zla : Tup ZaE × OutD → Option (Bool)
 | (a, none) => some (a.1)
 | _ => none
theorem Zt6 : ∀ b r, Zla b = some r → Zln r = b := by
 rintro ⟨a, o⟩ r h
 cases o with
 | none => injection h with h; subst h; rfl
 | some _ => cases h
noncomputable def ZcL : Nat → Int × Int × List (Int × Int) → Option Bool
 | 0, _ => none
 | k + 1, p0 =>
  Option.bind (Z7v k (Prod.fst p0, Prod.fst p0.2, Prod.snd p0.2)) fun z0 => if z0 = true then some (decide ((↑(List.length p0.2.2) : Int) ≤ (24 : Int))) else some false
noncomputable def Z4Q : FnDef := .of Znh ZaE (Bool) (fun k x => ZcL k x.1) Zln Zla Zt6
noncomputable def Zgl : Code := Try.f195.body.getD .skip
noncomputable def ZcQ : Ctx (Tup ZaE × OutD) := { T := T, G := [(133, Z2K.E)], mvs := [], no := 0, n := 11, res := resOf T Znh ZaE Try.f195.results.toList, loops := [], regs := [], conds := [] }
theorem ZyM (k : Nat) : EnvOK Try.prog k ZcQ.G := (EnvOK.cons (ZdM k) (EnvOK.nil mixed))
theorem Zzi (k : Nat) (x : Tup Z4Q.ps) : Z4Q.f (k + 1) x = fnK Z4Q ZcQ Zgl k x := by kernel_rfl
theorem ZyX (x : Tup Z4Q.ps) : Z4Q.f 0 x = none := by kernel_rfl
theorem Zze (k : Nat) : LOK Try.prog ZcQ k Zgl := LOK.by [] (by kernel_rfl) AllOK.nil
theorem Zzf (k : Nat) : SoundAt Try.prog k 195 Z4Q.E := @Ze Try.prog Z4Q ZcQ 195 Try.f195 Zgl (by kernel_rfl) (by kernel_rfl) (by kernel_rfl) Try.func195 (by kernel_rfl) (by kernel_rfl) (by kernel_rfl) T_ok ZyM Zze ZyX Zzi k
noncomputable def Z3R : List PK := [PK.mk (Ty.pair (Ty.int .i64) (Ty.pair (Ty.int .i64) (Ty.slice (79 : Nat) (Ty.pair (Ty.int .i64) (Ty.int .i64))))) true none false none]
noncomputable def Zf8 : List PK := [PK.mk (Ty.pair (Ty.slice (5 : Nat) (Ty.int .u8)) (Ty.pair (Ty.int .i64) (Ty.int .u64))) false none false (some (114 : Nat)), PK.mk (Ty.int .i64) false none false none, PK.mk (Ty.int .i64) false none false none]
noncomputable def Zeq (r : (Int × Int × List (Int × Int)) × Int × Int) : Tup Z3R × OutD := ((r.1, ()), some ⟨Ty.pair (Ty.slice (5 : Nat) (Ty.int .u8)) (Ty.pair (Ty.int .i64) (Ty.int .u64)), [([], r.2)]⟩)
noncomputable def Zan : Tup Z3R × OutD → Option ((Int × Int × List (Int × Int)) × Int × Int)
 | (a, some ⟨u, ys⟩) => if h : u = Ty.pair (Ty.slice (5 : Nat) (Ty.int .u8)) (Ty.pair (Ty.int .i64) (Ty.int .u64)) then (match castU h ys with
  | [([], y)] => some (a.1, y)
  | _ => none) else none
 | _ => none
theorem ZjF : ∀ b r, Zan b = some r → Zeq r = b := by
 rintro ⟨a, o⟩ r h
 cases o with
 | none => cases h
 | some s =>
  obtain ⟨u, ys⟩ := s
  simp only [Zan] at h
  split at h
  ·rename_i hu
   subst hu
   match ys, h with
   | [], h => cases (show (none : Option _) = some r from h)
   | [([], y)], h => injection (show some _ = some r from h) with h; subst h; rfl
   | [(_ :: _, y)], h => cases (show (none : Option _) = some r from h)
   | (h1, _) :: _ :: _, h => cases h1 <;> cases (show (none : Option _) = some r from h)
  ·cases h
noncomputable def Zk : Nat → Int → Int → List Int → Int → Int → List (Int × Int) → Int → Int → List (Int × Int) → Int → Int → Int → Option (Int × Int × List Int × Int × Int × List (Int × Int) × Int × Int × List (Int × Int))
 | 0, _, _, _, _, _, _, _, _, _, _, _, _ => none
 | k + 1, b1_1, b1_2, o2, b3_0, b3_1, o4, b5_0, b5_1, o6, v1, v2, v8 =>
  if decide ((↑(List.length o6) : Int) < wrap64 (v1 * v2)) = true then Option.bind (Z19 k (o2, b1_1, b1_2) v8) fun z1 => if Prod.fst z1 = true then Option.bind (Z44 k (o2, Prod.fst z1.2, Prod.snd z1.2)) fun z2 => if decide (Prod.fst z2.1 = (5 : Int)) = true then Option.bind (Z19 k (o2, Prod.fst z2.2, Prod.snd z2.2) (3 : Int)) fun z3 => if (!Prod.fst z3) = true then Option.bind (Z2 k (o2, Prod.fst z3.2, Prod.snd z3.2) (2 : Int)) fun z4 => if List.length o6 + List.length [((3 : Int), Prod.fst z4)] ≤ (140737488355328 / 16 : Nat) then Zk k z4.2.1 z4.2.2 o2 b3_0 b3_1 o4 b5_0 b5_1 (o6 ++ [((3 : Int), Prod.fst z4)]) v1 v2 v8 else none else if List.length o6 + List.length [(Prod.fst z2.1, Prod.snd z2.1)] ≤ (140737488355328 / 16 : Nat) then Zk k z3.2.1 z3.2.2 o2 b3_0 b3_1 o4 b5_0 b5_1 (o6 ++ [(Prod.fst z2.1, Prod.snd z2.1)]) v1 v2 v8 else none else if List.length o6 + List.length [(Prod.fst z2.1, Prod.snd z2.1)] ≤ (140737488355328 / 16 : Nat) then Zk k z2.2.1 z2.2.2 o2 b3_0 b3_1 o4 b5_0 b5_1 (o6 ++ [(Prod.fst z2.1, Prod.snd z2.1)]) v1 v2 v8 else none else Option.bind (Z19 k (o2, Prod.fst z1.2, Prod.snd z1.2) (3 : Int)) fun z5 => if Prod.fst z5 = true then Option.bind (Z44 k (o2, Prod.fst z5.2, Prod.snd z5.2)) fun z6 => if decide (Prod.fst z6.1 = (5 : Int)) = true then Option.bind (Z19 k (o2, Prod.fst z6.2, Prod.snd z6.2) (3 : Int)) fun z7 => if (!Prod.fst z7) = true then Option.bind (Z2 k (o2, Prod.fst z7.2, Prod.snd z7.2) (2 : Int)) fun z8 => if List.length o6 + List.length [((3 : Int), Prod.fst z8)] ≤ (140737488355328 / 16 : Nat) then Zk k z8.2.1 z8.2.2 o2 b3_0 b3_1 o4 b5_0 b5_1 (o6 ++ [((3 : Int), Prod.fst z8)]) v1 v2 v8 else none else if List.length o6 + List.length [(Prod.fst z6.1, Prod.snd z6.1)] ≤ (140737488355328 / 16 : Nat) then Zk k z7.2.1 z7.2.2 o2 b3_0 b3_1 o4 b5_0 b5_1 (o6 ++ [(Prod.fst z6.1, Prod.snd z6.1)]) v1 v2 v8 else none else if List.length o6 + List.length [(Prod.fst z6.1, Prod.snd z6.1)] ≤ (140737488355328 / 16 : Nat) then Zk k z6.2.1 z6.2.2 o2 b3_0 b3_1 o4 b5_0 b5_1 (o6 ++ [(Prod.fst z6.1, Prod.snd z6.1)]) v1 v2 v8 else none else if List.length o6 + List.length [((0 : Int), (0 : Int))] ≤ (140737488355328 / 16 : Nat) then Zk k z5.2.1 z5.2.2 o2 b3_0 b3_1 o4 b5_0 b5_1 (o6 ++ [((0 : Int), (0 : Int))]) v1 v2 v8 else none else some (b1_1, b1_2, o2, b3_0, b3_1, o4, b5_0, b5_1, o6)
noncomputable def Z8W : Spec := Spec.mk [OSh.ro, OSh.box (114 : Nat) [Sh.sl (2 : Nat), Sh.int .i64, Sh.int .u64], OSh.fx (Ty.int .u8), OSh.box (53 : Nat) [Sh.int .i64, Sh.int .i64, Sh.sl (4 : Nat)], OSh.row true (79 : Nat) (Ty.pair (Ty.int .i64) (Ty.int .i64)), OSh.box (53 : Nat) [Sh.int .i64, Sh.int .i64, Sh.sl (6 : Nat)], OSh.row true (79 : Nat) (Ty.pair (Ty.int .i64) (Ty.int .i64))] [((0 : Nat), TSh.at (Sh.ptr (1 : Nat) (0 : Nat))), ((1 : Nat), TSh.at (Sh.int .i64)), ((2 : Nat), TSh.at (Sh.int .i64)), ((6 : Nat), TSh.at (Sh.ptr (3 : Nat) (0 : Nat))), ((7 : Nat), TSh.at (Sh.ptr (5 : Nat) (0 : Nat))), ((8 : Nat), TSh.at (Sh.int .i64))]
noncomputable def ZkC : Spec := Spec.mk [OSh.ro, OSh.box (114 : Nat) [Sh.sl (2 : Nat), Sh.int .i64, Sh.int .u64], OSh.fx (Ty.int .u8), OSh.box (53 : Nat) [Sh.int .i64, Sh.int .i64, Sh.sl (4 : Nat)], OSh.row true (79 : Nat) (Ty.pair (Ty.int .i64) (Ty.int .i64)), OSh.box (53 : Nat) [Sh.int .i64, Sh.int .i64, Sh.sl (6 : Nat)], OSh.row true (79 : Nat) (Ty.pair (Ty.int .i64) (Ty.int .i64))] [((6 : Nat), TSh.at (Sh.ptr (3 : Nat) (0 : Nat))), ((7 : Nat), TSh.at (Sh.ptr (5 : Nat) (0 : Nat)))]
noncomputable def Z2C : LoopDef (Tup Z3R × OutD) := .plain Z8W ZkC (Int × Int × List Int × Int × Int × List (Int × Int) × Int × Int × List (Int × Int)) (fun k x => Zk k x.1.2.1.2.1 x.1.2.1.2.2.1 x.1.2.2.1 x.1.2.2.2.1.1 x.1.2.2.2.1.2.1 x.1.2.2.2.2.1 x.1.2.2.2.2.2.1.1 x.1.2.2.2.2.2.1.2.1 x.1.2.2.2.2.2.2.1 x.2.2.1 x.2.2.2.1 x.2.2.2.2.2.2.1) (fun z => (((), ((), z.1, z.2.1, ()), z.2.2.1, (z.2.2.2.1, z.2.2.2.2.1, (), ()), z.2.2.2.2.2.1, (z.2.2.2.2.2.2.1, z.2.2.2.2.2.2.2.1, (), ()), z.2.2.2.2.2.2.2.2, ()), ((), (), ()))) (fun y => (y.1.2.1.2.1, y.1.2.1.2.2.1, y.1.2.2.1, y.1.2.2.2.1.1, y.1.2.2.2.1.2.1, y.1.2.2.2.2.1, y.1.2.2.2.2.2.1.1, y.1.2.2.2.2.2.1.2.1, y.1.2.2.2.2.2.2.1)) (fun _ => rfl)
noncomputable def Z1W : Nat → List Int × Int × Int → Int → Int → Option ((Int × Int × List (Int × Int)) × Int × Int)
 | 0, _, _, _ => none
 | k + 1, p0, p1, p2 =>
  Option.bind (Zf k (Prod.fst p0, Prod.fst p0.2, Prod.snd p0.2) [(1 : Int), (2 : Int), (2 : Int)]) fun z0 => Option.bind (Zk k z0.2.1 z0.2.2 p0.1 (0 : Int) (0 : Int) [] p1 p2 [] p1 p2 z0.1) fun z9 => some ((Prod.fst z9.2.2.2.2.2.2, Prod.fst z9.2.2.2.2.2.2.2, Prod.snd z9.2.2.2.2.2.2.2), Prod.fst z9, Prod.fst z9.2)
noncomputable def Z1j : FnDef := .of Zf8 Z3R ((Int × Int × List (Int × Int)) × Int × Int) (fun k x => Z1W k x.1 x.2.1 x.2.2.1) Zeq Zan ZjF
noncomputable def Z7S : Code := Try.f197.body.getD .skip
noncomputable def Z2I : Ctx (Tup Z3R × OutD) := { T := T, G := [(90, Z10.E), (150, Z1v.E), (205, Z2e.E), (111, ZI.E)], mvs := [], no := 2, n := 51, res := resOf T Zf8 Z3R Try.f197.results.toList, loops := [(0, Z2C.E)], regs := [], conds := [] }
theorem ZeO (k : Nat) : EnvOK Try.prog k Z2I.G := (EnvOK.cons (Z6V k) (EnvOK.cons (Zbl k) (EnvOK.cons (ZhY k) (EnvOK.cons (Z32 k) (EnvOK.nil mixed)))))
noncomputable def Z5N : Code := (findLoop 0 Z7S).getD .skip
theorem Zkh (k : Nat) (x : Z8W.D) : Z2C.lp (k + 1) x = loopK Z2I Z2C 0 Z5N k x := by kernel_rfl
theorem Zkp (k : Nat) : LOK Try.prog Z2I k Z5N := LOK.by [] (by kernel_rfl) AllOK.nil
theorem ZkG (x : Z8W.D) : Z2C.lp 0 x = none := by kernel_rfl
theorem Zj6 (k : Nat) : EOK Try.prog Z2I k Z2C.E (.block 0 (.loop Z5N)) := Zp T_ok ZeO ZkG Zkh Zkp k
theorem ZoT (k : Nat) (x : Tup Z1j.ps) : Z1j.f (k + 1) x = fnK Z1j Z2I Z7S k x := by kernel_rfl
theorem ZoG (x : Tup Z1j.ps) : Z1j.f 0 x = none := by kernel_rfl
theorem Zoh (k : Nat) : LOK Try.prog Z2I k Z7S := LOK.by [(Z2C.E, .block 0 (.loop Z5N))] (by kernel_rfl) (AllOK.cons (Zj6 k) AllOK.nil)
theorem Zfs (k : Nat) : SoundAt Try.prog k 197 Z1j.E := @Ze Try.prog Z1j Z2I 197 Try.f197 Z7S (by kernel_rfl) (by kernel_rfl) (by kernel_rfl) Try.func197 (by kernel_rfl) (by kernel_rfl) (by kernel_rfl) T_ok ZeO Zoh ZoG ZoT k
noncomputable def Z5d : List PK := [PK.mk (Ty.pair (Ty.int .i64) (Ty.int .i64)) true none false none]
noncomputable def ZeP : List PK := [PK.mk (Ty.pair (Ty.slice (5 : Nat) (Ty.int .u8)) (Ty.pair (Ty.int .i64) (Ty.int .u64))) false none false (some (114 : Nat))]
noncomputable def Zez (r : (Int × Int) × Int × Int) : Tup Z5d × OutD := ((r.1, ()), some ⟨Ty.pair (Ty.slice (5 : Nat) (Ty.int .u8)) (Ty.pair (Ty.int .i64) (Ty.int .u64)), [([], r.2)]⟩)
noncomputable def Zat : Tup Z5d × OutD → Option ((Int × Int) × Int × Int)
 | (a, some ⟨u, ys⟩) => if h : u = Ty.pair (Ty.slice (5 : Nat) (Ty.int .u8)) (Ty.pair (Ty.int .i64) (Ty.int .u64)) then (match castU h ys with
  | [([], y)] => some (a.1, y)
  | _ => none) else none
 | _ => none
theorem ZjD : ∀ b r, Zat b = some r → Zez r = b := by
 rintro ⟨a, o⟩ r h
 cases o with
 | none => cases h
 | some s =>
  obtain ⟨u, ys⟩ := s
  simp only [Zat] at h
  split at h
  ·rename_i hu
   subst hu
   match ys, h with
   | [], h => cases (show (none : Option _) = some r from h)
   | [([], y)], h => injection (show some _ = some r from h) with h; subst h; rfl
   | [(_ :: _, y)], h => cases (show (none : Option _) = some r from h)
   | (h1, _) :: _ :: _, h => cases h1 <;> cases (show (none : Option _) = some r from h)
  ·cases h
noncomputable def Z1p : Nat → List Int × Int × Int → Option ((Int × Int) × Int × Int)
 | 0, _ => none
 | k + 1, p0 =>
  Option.bind (Z44 k (Prod.fst p0, Prod.fst p0.2, Prod.snd p0.2)) fun z0 => Option.bind (Z2 k (Prod.fst p0, Prod.fst z0.2, Prod.snd z0.2) (20 : Int)) fun z1 => if decide (Prod.fst z1 = (0 : Int)) = true then Option.bind (Zf k (Prod.fst p0, Prod.fst z1.2, Prod.snd z1.2) [(-1 : Int), (8 : Int)]) fun z2 => some ((Prod.fst z2, Prod.snd z0.1), Prod.fst z2.2, Prod.snd z2.2) else if decide (Prod.fst z1 = (1 : Int)) = true then Option.bind (Zf k (Prod.fst p0, Prod.fst z1.2, Prod.snd z1.2) [(-1 : Int), (1 : Int), (2 : Int)]) fun z3 => some ((Prod.fst z0.1, Prod.fst z3), Prod.fst z3.2, Prod.snd z3.2) else some ((Prod.fst z0.1, Prod.snd z0.1), Prod.fst z1.2, Prod.snd z1.2)
noncomputable def Z20 : FnDef := .of ZeP Z5d ((Int × Int) × Int × Int) (fun k x => Z1p k x.1) Zez Zat ZjD
noncomputable def ZaY : Code := Try.f203.body.getD .skip
noncomputable def Z7V : Ctx (Tup Z5d × OutD) := { T := T, G := [(205, Z2e.E), (111, ZI.E), (90, Z10.E)], mvs := [], no := 2, n := 21, res := resOf T ZeP Z5d Try.f203.results.toList, loops := [], regs := [], conds := [] }
theorem ZoQ (k : Nat) : EnvOK Try.prog k Z7V.G := (EnvOK.cons (ZhY k) (EnvOK.cons (Z32 k) (EnvOK.cons (Z6V k) (EnvOK.nil mixed))))
theorem ZoV (k : Nat) (x : Tup Z20.ps) : Z20.f (k + 1) x = fnK Z20 Z7V ZaY k x := by kernel_rfl
theorem ZoN (x : Tup Z20.ps) : Z20.f 0 x = none := by kernel_rfl
theorem Zpb (k : Nat) : LOK Try.prog Z7V k ZaY := LOK.by [] (by kernel_rfl) AllOK.nil
theorem Zop (k : Nat) : SoundAt Try.prog k 203 Z20.E := @Ze Try.prog Z20 Z7V 203 Try.f203 ZaY (by kernel_rfl) (by kernel_rfl) (by kernel_rfl) Try.func203 (by kernel_rfl) (by kernel_rfl) (by kernel_rfl) T_ok ZoQ Zpb ZoN ZoV k
end
end Go.Proofs.Ytgjmhbjdhihgaaa.Vs

set_option maxRecDepth 100000
set_option maxHeartbeats 2000000
set_option linter.unusedVariables false
set_option linter.unusedSimpArgs false
namespace Go.Proofs.Ytgjmhbjdhihgaaa.Vs
open Go.RowKit
noncomputable section
noncomputable def Z4T : List PK := [PK.mk (Ty.slice (77 : Nat) (Ty.pair (Ty.int .i64) (Ty.pair (Ty.int .i64) (Ty.int .i64)))) false none false none, PK.mk Ty.bool false none false none]
noncomputable def Zet : List PK := [PK.mk (Ty.pair (Ty.int .i64) (Ty.pair (Ty.int .i64) (Ty.slice (79 : Nat) (Ty.pair (Ty.int .i64) (Ty.int .i64))))) true none false none]
noncomputable def Zdz (r : List (Int × Int × Int) × Bool) : Tup Z4T × OutD := ((r.1, r.2, ()), none)
noncomputable def ZdK : Tup Z4T × OutD → Option (List (Int × Int × Int) × Bool)
 | (a, none) => some (a.1, a.2.1)
 | _ => none
theorem ZiK : ∀ b r, ZdK b = some r → Zdz r = b := by
 rintro ⟨a, o⟩ r h
 cases o with
 | none => injection h with h; subst h; rfl
 | some _ => cases h
noncomputable def Z7g : Nat → Int × Int × List (Int × Int) → Option (List (Int × Int × Int) × Bool)
 | 0, _ => none
 | k + 1, p0 =>
  Option.bind (Z8i k (Prod.fst p0, Prod.fst p0.2, Prod.snd p0.2)) fun z0 => if (!z0) = true then some ([], false) else Option.bind (Z3q k (Prod.fst p0, Prod.fst p0.2, Prod.snd p0.2)) fun z1 => some (z1, true)
noncomputable def Z1K : FnDef := .of Zet Z4T (List (Int × Int × Int) × Bool) (fun k x => Z7g k x.1) Zdz ZdK ZiK
noncomputable def ZaD : Code := Try.f65.body.getD .skip
noncomputable def Z7f : Ctx (Tup Z4T × OutD) := { T := T, G := [(132, Z2O.E), (147, Z15.E)], mvs := [], no := 0, n := 9, res := resOf T Zet Z4T Try.f65.results.toList, loops := [], regs := [], conds := [] }
theorem Zng (k : Nat) : EnvOK Try.prog k Z7f.G := (EnvOK.cons (Zgr k) (EnvOK.cons (Zah k) (EnvOK.nil mixed)))
theorem ZnI (k : Nat) (x : Tup Z1K.ps) : Z1K.f (k + 1) x = fnK Z1K Z7f ZaD k x := by kernel_rfl
theorem ZmH (x : Tup Z1K.ps) : Z1K.f 0 x = none := by kernel_rfl
theorem Zmn (k : Nat) : LOK Try.prog Z7f k ZaD := LOK.by [] (by kernel_rfl) AllOK.nil
theorem ZmC (k : Nat) : SoundAt Try.prog k 65 Z1K.E := @Ze Try.prog Z1K Z7f 65 Try.f65 ZaD (by kernel_rfl) (by kernel_rfl) (by kernel_rfl) Try.func65 (by kernel_rfl) (by kernel_rfl) (by kernel_rfl) T_ok Zng Zmn ZmH ZnI k
noncomputable def Z6l : List PK := [PK.mk Ty.bool false none false none]
noncomputable def ZjI : List PK := [PK.mk (Ty.pair (Ty.int .i64) (Ty.pair (Ty.int .i64) (Ty.slice (79 : Nat) (Ty.pair (Ty.int .i64) (Ty.int .i64))))) true none false none, PK.mk (Ty.slice (77 : Nat) (Ty.pair (Ty.int .i64) (Ty.pair (Ty.int .i64) (Ty.int .i64)))) false none false none]
noncomputable def Zdp (r : Bool) : Tup Z6l × OutD := ((r, ()), none)
noncomputable def Zd9 : Tup Z6l × OutD → Option (Bool)
 | (a, none) => some (a.1)
 | _ => none
theorem Zf7 : ∀ b r, Zd9 b = some r → Zdp r = b := by
 rintro ⟨a, o⟩ r h
 cases o with
 | none => injection h with h; subst h; rfl
 | some _ => cases h
noncomputable def Z4O : Nat → Int → Int → List (Int × Int) → Int → List (Int × Int × Int) → Int → Int → Option (LR Unit Bool)
 | 0, _, _, _, _, _, _, _ => none
 | k + 1, b1_0, b1_1, b1_2, v5, v12, v13, v14 =>
  if decide (v14 < v13) = true then if (0 : Int) ≤ v14 then if v14 < (↑(List.length v12) : Int) then Option.bind (ZcP k (b1_0, b1_1, b1_2) (Prod.fst (Prod.snd (List.getD v12 (Int.toNat v14) ((0 : Int), (0 : Int), (0 : Int))))) (Prod.snd (Prod.snd (List.getD v12 (Int.toNat v14) ((0 : Int), (0 : Int), (0 : Int)))))) fun z0 => if (!z0) = true then some (LR.ret false) else if decide (wrap64 (wrap64 (Prod.fst (Prod.snd (List.getD v12 (Int.toNat v14) ((0 : Int), (0 : Int), (0 : Int)))) * b1_1) + Prod.snd (Prod.snd (List.getD v12 (Int.toNat v14) ((0 : Int), (0 : Int), (0 : Int))))) ≤ v5) = true then some (LR.ret false) else if (0 : Int) ≤ wrap64 (wrap64 (Prod.fst (Prod.snd (List.getD v12 (Int.toNat v14) ((0 : Int), (0 : Int), (0 : Int)))) * b1_1) + Prod.snd (Prod.snd (List.getD v12 (Int.toNat v14) ((0 : Int), (0 : Int), (0 : Int))))) then if wrap64 (wrap64 (Prod.fst (Prod.snd (List.getD v12 (Int.toNat v14) ((0 : Int), (0 : Int), (0 : Int)))) * b1_1) + Prod.snd (Prod.snd (List.getD v12 (Int.toNat v14) ((0 : Int), (0 : Int), (0 : Int))))) < (↑(List.length b1_2) : Int) then Option.bind (Zam k (Prod.fst (List.getD b1_2 (Int.toNat (wrap64 (wrap64 (Prod.fst (Prod.snd (List.getD v12 (Int.toNat v14) ((0 : Int), (0 : Int), (0 : Int)))) * b1_1) + Prod.snd (Prod.snd (List.getD v12 (Int.toNat v14) ((0 : Int), (0 : Int), (0 : Int))))))) ((0 : Int), (0 : Int))), Prod.snd (List.getD b1_2 (Int.toNat (wrap64 (wrap64 (Prod.fst (Prod.snd (List.getD v12 (Int.toNat v14) ((0 : Int), (0 : Int), (0 : Int)))) * b1_1) + Prod.snd (Prod.snd (List.getD v12 (Int.toNat v14) ((0 : Int), (0 : Int), (0 : Int))))))) ((0 : Int), (0 : Int)))) (Prod.fst (List.getD v12 (Int.toNat v14) ((0 : Int), (0 : Int), (0 : Int))))) fun z1 => if (!z1) = true then some (LR.ret false) else Z4O k b1_0 b1_1 b1_2 (wrap64 (wrap64 (Prod.fst (Prod.snd (List.getD v12 (Int.toNat v14) ((0 : Int), (0 : Int), (0 : Int)))) * b1_1) + Prod.snd (Prod.snd (List.getD v12 (Int.toNat v14) ((0 : Int), (0 : Int), (0 : Int)))))) v12 v13 (wrap64 (v14 + (1 : Int))) else none else none else none else none else some (LR.go ())
noncomputable def ZbM : Spec := Spec.mk [OSh.ro, OSh.box (53 : Nat) [Sh.int .i64, Sh.int .i64, Sh.snap (0 : Nat) (Ty.pair (Ty.int .i64) (Ty.int .i64))]] [((2 : Nat), TSh.at (Sh.ptr (1 : Nat) (0 : Nat))), ((5 : Nat), TSh.at (Sh.int .i64)), ((12 : Nat), TSh.at (Sh.snap (0 : Nat) (Ty.pair (Ty.int .i64) (Ty.pair (Ty.int .i64) (Ty.int .i64))))), ((13 : Nat), TSh.at (Sh.int .i64)), ((14 : Nat), TSh.at (Sh.int .i64))]
noncomputable def ZqY : Spec := Spec.mk [OSh.ro] []
noncomputable def Z4f : LoopDef (Tup Z6l × OutD) := .rets ZbM ZqY (Unit) (Bool) (fun k x => Z4O k x.1.2.1.1 x.1.2.1.2.1 x.1.2.1.2.2.1 x.2.2.1 x.2.2.2.1 x.2.2.2.2.1 x.2.2.2.2.2.1) (fun z => (((), ()), (()))) (fun y => ()) (fun _ => rfl) Zdp Zd9 Zf7
noncomputable def Zb8 : Nat → Int × Int × List (Int × Int) → List (Int × Int × Int) → Option Bool
 | 0, _, _ => none
 | k + 1, p0, p1 =>
  if decide ((↑(List.length p1) : Int) > (4 : Int)) = true then some false else Option.bind (Z4O k p0.1 p0.2.1 p0.2.2 (-1 : Int) p1 (↑(List.length p1) : Int) (0 : Int)) fun z2 => LR.on z2 (fun y2 => some true) fun r2 => some r2
noncomputable def Z3A : FnDef := .of ZjI Z6l (Bool) (fun k x => Zb8 k x.1 x.2.1) Zdp Zd9 Zf7
noncomputable def Zb4 : Code := Try.f119.body.getD .skip
noncomputable def Z4D : Ctx (Tup Z6l × OutD) := { T := T, G := [(180, Z4W.E), (181, Z3T.E)], mvs := [], no := 0, n := 49, res := resOf T ZjI Z6l Try.f119.results.toList, loops := [(0, Z4f.E)], regs := [], conds := [] }
theorem Zj2 (k : Nat) : EnvOK Try.prog k Z4D.G := (EnvOK.cons (ZyC k) (EnvOK.cons (ZmG k) (EnvOK.nil mixed)))
noncomputable def Z8D : Code := (findLoop 0 Zb4).getD .skip
theorem Zr7 (k : Nat) (x : ZbM.D) : Z4f.lp (k + 1) x = loopK Z4D Z4f 0 Z8D k x := by kernel_rfl
theorem ZqB (k : Nat) : LOK Try.prog Z4D k Z8D := LOK.by [] (by kernel_rfl) AllOK.nil
theorem ZqF (x : ZbM.D) : Z4f.lp 0 x = none := by kernel_rfl
theorem Zo9 (k : Nat) : EOK Try.prog Z4D k Z4f.E (.block 0 (.loop Z8D)) := Zp T_ok Zj2 ZqF Zr7 ZqB k
theorem ZwZ (k : Nat) (x : Tup Z3A.ps) : Z3A.f (k + 1) x = fnK Z3A Z4D Zb4 k x := by kernel_rfl
theorem ZwW (x : Tup Z3A.ps) : Z3A.f 0 x = none := by kernel_rfl
theorem ZvP (k : Nat) : LOK Try.prog Z4D k Zb4 := LOK.by [(Z4f.E, .block 0 (.loop Z8D))] (by kernel_rfl) (AllOK.cons (Zo9 k) AllOK.nil)
theorem ZwJ (k : Nat) : SoundAt Try.prog k 119 Z3A.E := @Ze Try.prog Z3A Z4D 119 Try.f119 Zb4 (by kernel_rfl) (by kernel_rfl) (by kernel_rfl) Try.func119 (by kernel_rfl) (by kernel_rfl) (by kernel_rfl) T_ok Zj2 ZvP ZwW ZwZ k
noncomputable def Z96 : List PK := [PK.mk Ty.bool false none false none]
noncomputable def ZpJ : List PK := [PK.mk (Ty.pair (Ty.int .i64) (Ty.pair (Ty.int .i64) (Ty.slice (79 : Nat) (Ty.pair (Ty.int .i64) (Ty.int .i64))))) true none false none, PK.mk (Ty.slice (3 : Nat) (Ty.int .i64)) false none false none, PK.mk (Ty.slice (63 : Nat) (Ty.pair (Ty.int .i64) (Ty.pair (Ty.int .i64) (Ty.int .i64)))) false none false none]
noncomputable def ZgE (r : Bool) : Tup Z96 × OutD := ((r, ()), none)
noncomputable def ZgH : Tup Z96 × OutD → Option (Bool)
 | (a, none) => some (a.1)
 | _ => none
theorem Zid : ∀ b r, ZgH b = some r → ZgE r = b := by
 rintro ⟨a, o⟩ r h
 cases o with
 | none => injection h with h; subst h; rfl
 | some _ => cases h
noncomputable def Z71 : Nat → Int → Int → List (Int × Int) → List (Int × Int × Int) → Int → Int → Option (LR Unit Bool)
 | 0, _, _, _, _, _, _ => none
 | k + 1, b1_0, b1_1, b1_2, v31, v32, v33 =>
  if decide (v33 < v32) = true then if (0 : Int) ≤ v33 then if v33 < (↑(List.length v31) : Int) then if decide (Prod.fst (List.getD v31 (Int.toNat v33) ((0 : Int), (0 : Int), (0 : Int))) < (1 : Int)) = true then some (LR.ret false) else if decide (Prod.fst (List.getD v31 (Int.toNat v33) ((0 : Int), (0 : Int), (0 : Int))) > (3 : Int)) = true then some (LR.ret false) else if decide (Prod.fst (Prod.snd (List.getD v31 (Int.toNat v33) ((0 : Int), (0 : Int), (0 : Int)))) < (0 : Int)) = true then some (LR.ret false) else if decide (Prod.fst (Prod.snd (List.getD v31 (Int.toNat v33) ((0 : Int), (0 : Int), (0 : Int)))) > b1_0) = true then some (LR.ret false) else if decide (Prod.snd (Prod.snd (List.getD v31 (Int.toNat v33) ((0 : Int), (0 : Int), (0 : Int)))) < (-1 : Int)) = true then some (LR.ret false) else if decide (Prod.snd (Prod.snd (List.getD v31 (Int.toNat v33) ((0 : Int), (0 : Int), (0 : Int)))) > b1_1) = true then some (LR.ret false) else Z71 k b1_0 b1_1 b1_2 v31 v32 (wrap64 (v33 + (1 : Int))) else none else none else some (LR.go ())
noncomputable def Ze6 : Spec := Spec.mk [OSh.ro, OSh.box (53 : Nat) [Sh.int .i64, Sh.int .i64, Sh.snap (0 : Nat) (Ty.pair (Ty.int .i64) (Ty.int .i64))]] [((3 : Nat), TSh.at (Sh.ptr (1 : Nat) (0 : Nat))), ((31 : Nat), TSh.at (Sh.snap (0 : Nat) (Ty.pair (Ty.int .i64) (Ty.pair (Ty.int .i64) (Ty.int .i64))))), ((32 : Nat), TSh.at (Sh.int .i64)), ((33 : Nat), TSh.at (Sh.int .i64))]
noncomputable def Zwp : Spec := Spec.mk [OSh.ro] []
noncomputable def Z6i : LoopDef (Tup Z96 × OutD) := .rets Ze6 Zwp (Unit) (Bool) (fun k x => Z71 k x.1.2.1.1 x.1.2.1.2.1 x.1.2.1.2.2.1 x.2.2.1 x.2.2.2.1 x.2.2.2.2.1) (fun z => (((), ()), (()))) (fun y => ()) (fun _ => rfl) ZgE ZgH Zid
noncomputable def Z5E : Nat → Int × Int × List (Int × Int) → List Int → List (Int × Int × Int) → Option Bool
 | 0, _, _, _ => none
 | k + 1, p0, p1, p2 =>
  Option.bind (Z8M k (Prod.fst p0, Prod.fst p0.2, Prod.snd p0.2) p1) fun z0 => if (!z0) = true then some false else if decide ((↑(List.length p0.2.2) : Int) > (24 : Int)) = true then some false else if decide ((↑(List.length p1) : Int) > (20 : Int)) = true then some false else if decide ((↑(List.length p2) : Int) ≠ (↑(List.length p1) : Int)) = true then some false else Option.bind (Z71 k p0.1 p0.2.1 p0.2.2 p2 (↑(List.length p2) : Int) (0 : Int)) fun z1 => LR.on z1 (fun y1 => some true) fun r1 => some r1
noncomputable def Z2i : FnDef := .of ZpJ Z96 (Bool) (fun k x => Z5E k x.1 x.2.1 x.2.2.1) ZgE ZgH Zid
noncomputable def ZdO : Code := Try.f137.body.getD .skip
noncomputable def Z7r : Ctx (Tup Z96 × OutD) := { T := T, G := [(118, Z26.E)], mvs := [], no := 0, n := 70, res := resOf T ZpJ Z96 Try.f137.results.toList, loops := [(0, Z6i.E)], regs := [], conds := [] }
theorem ZpX (k : Nat) : EnvOK Try.prog k Z7r.G := (EnvOK.cons (Zr3 k) (EnvOK.nil mixed))
noncomputable def Zbe : Code := (findLoop 0 ZdO).getD .skip
theorem ZwF (k : Nat) (x : Ze6.D) : Z6i.lp (k + 1) x = loopK Z7r Z6i 0 Zbe k x := by kernel_rfl
theorem ZvD (k : Nat) : LOK Try.prog Z7r k Zbe := LOK.by [] (by kernel_rfl) AllOK.nil
theorem Zx7 (x : Ze6.D) : Z6i.lp 0 x = none := by kernel_rfl
theorem Zu0 (k : Nat) : EOK Try.prog Z7r k Z6i.E (.block 0 (.loop Zbe)) := Zp T_ok ZpX Zx7 ZwF ZvD k
theorem ZzR (k : Nat) (x : Tup Z2i.ps) : Z2i.f (k + 1) x = fnK Z2i Z7r ZdO k x := by kernel_rfl
theorem ZAD (x : Tup Z2i.ps) : Z2i.f 0 x = none := by kernel_rfl
theorem ZAj (k : Nat) : LOK Try.prog Z7r k ZdO := LOK.by [(Z6i.E, .block 0 (.loop Zbe))] (by kernel_rfl) (AllOK.cons (Zu0 k) AllOK.nil)
theorem Zbv (k : Nat) : SoundAt Try.prog k 137 Z2i.E := @Ze Try.prog Z2i Z7r 137 Try.f137 ZdO (by kernel_rfl) (by kernel_rfl) (by kernel_rfl) Try.func137 (by kernel_rfl) (by kernel_rfl) (by kernel_rfl) T_ok ZpX ZAj ZAD ZzR k
noncomputable def Z9b : List PK := [PK.mk Ty.bool false none false none]
noncomputable def Zpy : List PK := [PK.mk (Ty.pair (Ty.int .i64) (Ty.pair (Ty.int .i64) (Ty.slice (79 : Nat) (Ty.pair (Ty.int .i64) (Ty.int .i64))))) true none false none, PK.mk (Ty.slice (3 : Nat) (Ty.int .i64)) false none false none, PK.mk (Ty.slice (63 : Nat) (Ty.pair (Ty.int .i64) (Ty.pair (Ty.int .i64) (Ty.int .i64)))) false none false none]
noncomputable def Zgz (r : Bool) : Tup Z9b × OutD := ((r, ()), none)
noncomputable def ZgA : Tup Z9b × OutD → Option (Bool)
 | (a, none) => some (a.1)
 | _ => none
theorem Zik : ∀ b r, ZgA b = some r → Zgz r = b := by
 rintro ⟨a, o⟩ r h
 cases o with
 | none => injection h with h; subst h; rfl
 | some _ => cases h
noncomputable def Z7h : Nat → Int → Int → List (Int × Int) → List (Int × Int × Int) → Int → Int → Option (LR Unit Bool)
 | 0, _, _, _, _, _, _ => none
 | k + 1, b1_0, b1_1, b1_2, v32, v33, v34 =>
  if decide (v34 < v33) = true then if (0 : Int) ≤ v34 then if v34 < (↑(List.length v32) : Int) then Option.bind (Z21 k (Prod.fst (List.getD v32 (Int.toNat v34) ((0 : Int), (0 : Int), (0 : Int)))) (1 : Int) (3 : Int)) fun z2 => if (!z2) = true then some (LR.ret false) else Option.bind (Z21 k (Prod.fst (Prod.snd (List.getD v32 (Int.toNat v34) ((0 : Int), (0 : Int), (0 : Int))))) (0 : Int) b1_0) fun z3 => if (!z3) = true then some (LR.ret false) else Option.bind (Z21 k (Prod.snd (Prod.snd (List.getD v32 (Int.toNat v34) ((0 : Int), (0 : Int), (0 : Int))))) (-1 : Int) b1_1) fun z4 => if (!z4) = true then some (LR.ret false) else Z7h k b1_0 b1_1 b1_2 v32 v33 (wrap64 (v34 + (1 : Int))) else none else none else some (LR.go ())
noncomputable def Zej : Spec := Spec.mk [OSh.ro, OSh.box (53 : Nat) [Sh.int .i64, Sh.int .i64, Sh.snap (0 : Nat) (Ty.pair (Ty.int .i64) (Ty.int .i64))]] [((3 : Nat), TSh.at (Sh.ptr (1 : Nat) (0 : Nat))), ((32 : Nat), TSh.at (Sh.snap (0 : Nat) (Ty.pair (Ty.int .i64) (Ty.pair (Ty.int .i64) (Ty.int .i64))))), ((33 : Nat), TSh.at (Sh.int .i64)), ((34 : Nat), TSh.at (Sh.int .i64))]
noncomputable def ZvU : Spec := Spec.mk [OSh.ro] []
noncomputable def Z6h : LoopDef (Tup Z9b × OutD) := .rets Zej ZvU (Unit) (Bool) (fun k x => Z7h k x.1.2.1.1 x.1.2.1.2.1 x.1.2.1.2.2.1 x.2.2.1 x.2.2.2.1 x.2.2.2.2.1) (fun z => (((), ()), (()))) (fun y => ()) (fun _ => rfl) Zgz ZgA Zik
noncomputable def Z4s : Nat → Int × Int × List (Int × Int) → List Int → List (Int × Int × Int) → Option Bool
 | 0, _, _, _ => none
 | k + 1, p0, p1, p2 =>
  Option.bind (ZcL k (Prod.fst p0, Prod.fst p0.2, Prod.snd p0.2)) fun z0 => if (!z0) = true then some false else if decide ((↑(List.length p1) : Int) > (20 : Int)) = true then some false else Option.bind (Zfg k p1 (0 : Int) (wrap64 (Prod.fst p0.2 - (1 : Int)))) fun z1 => if (!z1) = true then some false else if decide ((↑(List.length p2) : Int) ≠ (↑(List.length p1) : Int)) = true then some false else Option.bind (Z7h k p0.1 p0.2.1 p0.2.2 p2 (↑(List.length p2) : Int) (0 : Int)) fun z5 => LR.on z5 (fun y5 => some true) fun r5 => some r5
noncomputable def Z1R : FnDef := .of Zpy Z9b (Bool) (fun k x => Z4s k x.1 x.2.1 x.2.2.1) Zgz ZgA Zik
noncomputable def ZdL : Code := Try.f139.body.getD .skip
noncomputable def Z7x : Ctx (Tup Z9b × OutD) := { T := T, G := [(195, Z4Q.E), (113, Z6N.E), (96, Z2t.E)], mvs := [], no := 0, n := 59, res := resOf T Zpy Z9b Try.f139.results.toList, loops := [(0, Z6h.E)], regs := [], conds := [] }
theorem Zpz (k : Nat) : EnvOK Try.prog k Z7x.G := (EnvOK.cons (Zzf k) (EnvOK.cons (ZAP k) (EnvOK.cons (Z9T k) (EnvOK.nil mixed))))
noncomputable def Zb6 : Code := (findLoop 0 ZdL).getD .skip
theorem ZvV (k : Nat) (x : Zej.D) : Z6h.lp (k + 1) x = loopK Z7x Z6h 0 Zb6 k x := by kernel_rfl
theorem Zwa (k : Nat) : LOK Try.prog Z7x k Zb6 := LOK.by [] (by kernel_rfl) AllOK.nil
theorem Zwu (x : Zej.D) : Z6h.lp 0 x = none := by kernel_rfl
theorem ZtT (k : Nat) : EOK Try.prog Z7x k Z6h.E (.block 0 (.loop Zb6)) := Zp T_ok Zpz Zwu ZvV Zwa k
theorem ZAH (k : Nat) (x : Tup Z1R.ps) : Z1R.f (k + 1) x = fnK Z1R Z7x ZdL k x := by kernel_rfl
theorem ZAy (x : Tup Z1R.ps) : Z1R.f 0 x = none := by kernel_rfl
theorem ZAJ (k : Nat) : LOK Try.prog Z7x k ZdL := LOK.by [(Z6h.E, .block 0 (.loop Zb6))] (by kernel_rfl) (AllOK.cons (ZtT k) AllOK.nil)
theorem Z95 (k : Nat) : SoundAt Try.prog k 139 Z1R.E := @Ze Try.prog Z1R Z7x 139 Try.f139 ZdL (by kernel_rfl) (by kernel_rfl) (by kernel_rfl) Try.func139 (by kernel_rfl) (by kernel_rfl) (by kernel_rfl) T_ok Zpz ZAJ ZAy ZAH k
noncomputable def Z5U : List PK := [PK.mk Ty.bool false none false none]
noncomputable def Zgf : List PK := [PK.mk (Ty.pair (Ty.int .i64) (Ty.pair (Ty.int .i64) (Ty.slice (79 : Nat) (Ty.pair (Ty.int .i64) (Ty.int .i64))))) true none false none, PK.mk (Ty.slice (77 : Nat) (Ty.pair (Ty.int .i64) (Ty.pair (Ty.int .i64) (Ty.int .i64)))) false none false none, PK.mk (Ty.slice (3 : Nat) (Ty.int .i64)) false none false none, PK.mk (Ty.slice (63 : Nat) (Ty.pair (Ty.int .i64) (Ty.pair (Ty.int .i64) (Ty.int .i64)))) false none false none]
noncomputable def ZfD (r : Bool) : Tup Z5U × OutD := ((r, ()), none)
noncomputable def ZfF : Tup Z5U × OutD → Option (Bool)
 | (a, none) => some (a.1)
 | _ => none
theorem ZkD : ∀ b r, ZfF b = some r → ZfD r = b := by
 rintro ⟨a, o⟩ r h
 cases o with
 | none => injection h with h; subst h; rfl
 | some _ => cases h
noncomputable def Z2c : Nat → Int × Int × List (Int × Int) → List (Int × Int × Int) → List Int → List (Int × Int × Int) → Option Bool
 | 0, _, _, _, _ => none
 | k + 1, p0, p1, p2, p3 =>
  Option.bind (Z9J k (Prod.fst p0, Prod.fst p0.2, Prod.snd p0.2) p1 p2) fun z0 => Option.bind (Z2h k z0.1 p3) fun z1 => some z1
noncomputable def Z17 : FnDef := .of Zgf Z5U (Bool) (fun k x => Z2c k x.1 x.2.1 x.2.2.1 x.2.2.2.1) ZfD ZfF ZkD
noncomputable def ZbV : Code := Try.f143.body.getD .skip
noncomputable def Z8T : Ctx (Tup Z5U × OutD) := { T := T, G := [(120, Z2z.E), (166, Zy.E)], mvs := [], no := 0, n := 21, res := resOf T Zgf Z5U Try.f143.results.toList, loops := [], regs := [], conds := [] }
theorem Zr2 (k : Nat) : EnvOK Try.prog k Z8T.G := (EnvOK.cons (ZrQ k) (EnvOK.cons (Zdl k) (EnvOK.nil mixed)))
theorem Zre (k : Nat) (x : Tup Z17.ps) : Z17.f (k + 1) x = fnK Z17 Z8T ZbV k x := by kernel_rfl
theorem ZqE (x : Tup Z17.ps) : Z17.f 0 x = none := by kernel_rfl
theorem ZqJ (k : Nat) : LOK Try.prog Z8T k ZbV := LOK.by [] (by kernel_rfl) AllOK.nil
theorem Z8Q (k : Nat) : SoundAt Try.prog k 143 Z17.E := @Ze Try.prog Z17 Z8T 143 Try.f143 ZbV (by kernel_rfl) (by kernel_rfl) (by kernel_rfl) Try.func143 (by kernel_rfl) (by kernel_rfl) (by kernel_rfl) T_ok Zr2 ZqJ ZqE Zre k
noncomputable def Z7H : List PK := [PK.mk Ty.bool false none false none]
noncomputable def Zi9 : List PK := [PK.mk (Ty.pair (Ty.int .i64) (Ty.pair (Ty.int .i64) (Ty.slice (79 : Nat) (Ty.pair (Ty.int .i64) (Ty.int .i64))))) true none false none, PK.mk (Ty.slice (77 : Nat) (Ty.pair (Ty.int .i64) (Ty.pair (Ty.int .i64) (Ty.int .i64)))) false none false none, PK.mk (Ty.slice (3 : Nat) (Ty.int .i64)) false none false none, PK.mk (Ty.slice (63 : Nat) (Ty.pair (Ty.int .i64) (Ty.pair (Ty.int .i64) (Ty.int .i64)))) false none false none]
noncomputable def Zhl (r : Bool) : Tup Z7H × OutD := ((r, ()), none)
noncomputable def Zhh : Tup Z7H × OutD → Option (Bool)
 | (a, none) => some (a.1)
 | _ => none
theorem ZmV : ∀ b r, Zhh b = some r → Zhl r = b := by
 rintro ⟨a, o⟩ r h
 cases o with
 | none => injection h with h; subst h; rfl
 | some _ => cases h
noncomputable def Z2Z : Nat → Int × Int × List (Int × Int) → List (Int × Int × Int) → List Int → List (Int × Int × Int) → Option Bool
 | 0, _, _, _, _ => none
 | k + 1, p0, p1, p2, p3 =>
  Option.bind (Z6K k (Prod.fst p0, Prod.fst p0.2, Prod.snd p0.2) p1 p2) fun z0 => Option.bind (Ze4 k z0.1 p3) fun z1 => some (decide (z1 < (0 : Int)))
noncomputable def Z1i : FnDef := .of Zi9 Z7H (Bool) (fun k x => Z2Z k x.1 x.2.1 x.2.2.1 x.2.2.2.1) Zhl Zhh ZmV
noncomputable def Zdd : Code := Try.f144.body.getD .skip
noncomputable def Za5 : Ctx (Tup Z7H × OutD) := { T := T, G := [(123, Z5h.E), (168, Z5F.E)], mvs := [], no := 0, n := 22, res := resOf T Zi9 Z7H Try.f144.results.toList, loops := [], regs := [], conds := [] }
theorem Zum (k : Nat) : EnvOK Try.prog k Za5.G := (EnvOK.cons (Zsm k) (EnvOK.cons (ZAt k) (EnvOK.nil mixed)))
theorem Zuf (k : Nat) (x : Tup Z1i.ps) : Z1i.f (k + 1) x = fnK Z1i Za5 Zdd k x := by kernel_rfl
theorem Zv5 (x : Tup Z1i.ps) : Z1i.f 0 x = none := by kernel_rfl
theorem ZtX (k : Nat) : LOK Try.prog Za5 k Zdd := LOK.by [] (by kernel_rfl) AllOK.nil
theorem Za2 (k : Nat) : SoundAt Try.prog k 144 Z1i.E := @Ze Try.prog Z1i Za5 144 Try.f144 Zdd (by kernel_rfl) (by kernel_rfl) (by kernel_rfl) Try.func144 (by kernel_rfl) (by kernel_rfl) (by kernel_rfl) T_ok Zum ZtX Zv5 Zuf k
noncomputable def Z6I : List PK := [PK.mk (Ty.pair (Ty.int .i64) (Ty.pair (Ty.int .i64) (Ty.slice (79 : Nat) (Ty.pair (Ty.int .i64) (Ty.int .i64))))) true none false none]
noncomputable def Zh1 : List PK := [PK.mk (Ty.pair (Ty.slice (5 : Nat) (Ty.int .u8)) (Ty.pair (Ty.int .i64) (Ty.int .u64))) false none false (some (114 : Nat))]
noncomputable def Zg9 (r : (Int × Int × List (Int × Int)) × Int × Int) : Tup Z6I × OutD := ((r.1, ()), some ⟨Ty.pair (Ty.slice (5 : Nat) (Ty.int .u8)) (Ty.pair (Ty.int .i64) (Ty.int .u64)), [([], r.2)]⟩)
noncomputable def ZbG : Tup Z6I × OutD → Option ((Int × Int × List (Int × Int)) × Int × Int)
 | (a, some ⟨u, ys⟩) => if h : u = Ty.pair (Ty.slice (5 : Nat) (Ty.int .u8)) (Ty.pair (Ty.int .i64) (Ty.int .u64)) then (match castU h ys with
  | [([], y)] => some (a.1, y)
  | _ => none) else none
 | _ => none
theorem Zmf : ∀ b r, ZbG b = some r → Zg9 r = b := by
 rintro ⟨a, o⟩ r h
 cases o with
 | none => cases h
 | some s =>
  obtain ⟨u, ys⟩ := s
  simp only [ZbG] at h
  split at h
  ·rename_i hu
   subst hu
   match ys, h with
   | [], h => cases (show (none : Option _) = some r from h)
   | [([], y)], h => injection (show some _ = some r from h) with h; subst h; rfl
   | [(_ :: _, y)], h => cases (show (none : Option _) = some r from h)
   | (h1, _) :: _ :: _, h => cases h1 <;> cases (show (none : Option _) = some r from h)
  ·cases h
noncomputable def Z6T : Nat → List Int × Int × Int → Option ((Int × Int × List (Int × Int)) × Int × Int)
 | 0, _ => none
 | k + 1, p0 =>
  Option.bind (Z19 k (Prod.fst p0, Prod.fst p0.2, Prod.snd p0.2) (20 : Int)) fun z0 => if Prod.fst z0 = true then Option.bind (Zf k (Prod.fst p0, Prod.fst z0.2, Prod.snd z0.2) [(1 : Int), (10 : Int)]) fun z1 => Option.bind (Zf k (Prod.fst p0, Prod.fst z1.2, Prod.snd z1.2) [(1 : Int), (9 : Int)]) fun z2 => Option.bind (Z1W k (Prod.fst p0, Prod.fst z2.2, Prod.snd z2.2) z1.1 z2.1) fun z3 => some ((Prod.fst z3.1, Prod.fst z3.1.2, Prod.snd z3.1.2), Prod.fst z3.2, Prod.snd z3.2) else Option.bind (Z2 k (Prod.fst p0, Prod.fst z0.2, Prod.snd z0.2) (5 : Int)) fun z4 => Option.bind (Z2 k (Prod.fst p0, Prod.fst z4.2, Prod.snd z4.2) (5 : Int)) fun z5 => Option.bind (Z1W k (Prod.fst p0, Prod.fst z5.2, Prod.snd z5.2) (wrap64 ((1 : Int) + Prod.fst z4)) (wrap64 ((1 : Int) + Prod.fst z5))) fun z6 => some ((Prod.fst z6.1, Prod.fst z6.1.2, Prod.snd z6.1.2), Prod.fst z6.2, Prod.snd z6.2)
noncomputable def Z2w : FnDef := .of Zh1 Z6I ((Int × Int × List (Int × Int)) × Int × Int) (fun k x => Z6T k x.1) Zg9 ZbG Zmf
noncomputable def Zcn : Code := Try.f202.body.getD .skip
noncomputable def Z9h : Ctx (Tup Z6I × OutD) := { T := T, G := [(150, Z1v.E), (90, Z10.E), (197, Z1j.E), (111, ZI.E)], mvs := [], no := 2, n := 21, res := resOf T Zh1 Z6I Try.f202.results.toList, loops := [], regs := [], conds := [] }
theorem ZsI (k : Nat) : EnvOK Try.prog k Z9h.G := (EnvOK.cons (Zbl k) (EnvOK.cons (Z6V k) (EnvOK.cons (Zfs k) (EnvOK.cons (Z32 k) (EnvOK.nil mixed)))))
theorem ZrE (k : Nat) (x : Tup Z2w.ps) : Z2w.f (k + 1) x = fnK Z2w Z9h Zcn k x := by kernel_rfl
theorem Zro (x : Tup Z2w.ps) : Z2w.f 0 x = none := by kernel_rfl
theorem ZrD (k : Nat) : LOK Try.prog Z9h k Zcn := LOK.by [] (by kernel_rfl) AllOK.nil
theorem Zt3 (k : Nat) : SoundAt Try.prog k 202 Z2w.E := @Ze Try.prog Z2w Z9h 202 Try.f202 Zcn (by kernel_rfl) (by kernel_rfl) (by kernel_rfl) Try.func202 (by kernel_rfl) (by kernel_rfl) (by kernel_rfl) T_ok ZsI ZrD Zro ZrE k
end
end Go.Proofs.Ytgjmhbjdhihgaaa.Vs
