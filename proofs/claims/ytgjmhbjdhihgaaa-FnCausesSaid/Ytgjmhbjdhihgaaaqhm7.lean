/- The proof, part 8. -/
import Derived.Test.Ytgjmhbjdhihgaaaqhm6
set_option maxRecDepth 100000
set_option maxHeartbeats 2000000
set_option linter.unusedVariables false
set_option linter.unusedSimpArgs false
namespace Go.Proofs.Ytgjmhbjdhihgaaa.Vs
open Go.RowKit
noncomputable section
noncomputable def Z4S : List PK := [PK.mk (Ty.slice (3 : Nat) (Ty.int .i64)) false none false none, PK.mk Ty.bool false none false none]
noncomputable def Zhd : List PK := [PK.mk (Ty.pair (Ty.int .i64) (Ty.pair (Ty.int .i64) (Ty.slice (79 : Nat) (Ty.pair (Ty.int .i64) (Ty.int .i64))))) true none false none, PK.mk (Ty.slice (3 : Nat) (Ty.int .i64)) false none false none, PK.mk (Ty.slice (63 : Nat) (Ty.pair (Ty.int .i64) (Ty.pair (Ty.int .i64) (Ty.int .i64)))) false none false none]
noncomputable def Zg1 (r : List Int × Bool) : Tup Z4S × OutD := ((r.1, r.2, ()), none)
noncomputable def ZfV : Tup Z4S × OutD → Option (List Int × Bool)
 | (a, none) => some (a.1, a.2.1)
 | _ => none
theorem ZlQ : ∀ b r, ZfV b = some r → Zg1 r = b := by
 rintro ⟨a, o⟩ r h
 cases o with
 | none => injection h with h; subst h; rfl
 | some _ => cases h
noncomputable def Z2F : Nat → List Int → List (Int × Int × Int) → List (Int × Int × Int) → Int → Int → Option (List Int)
 | 0, _, _, _, _, _ => none
 | k + 1, o1, o2, v2, v26, v27 =>
  if decide (v27 < v26) = true then if (0 : Int) ≤ v27 then if v27 < (↑(List.length o2) : Int) then if (0 : Int) ≤ v27 then if v27 < (↑(List.length v2) : Int) then if (!(decide (Prod.fst (List.getD o2 (Int.toNat v27) ((0 : Int), (0 : Int), (0 : Int))) = Prod.fst (List.getD v2 (Int.toNat v27) ((0 : Int), (0 : Int), (0 : Int)))) && (decide (Prod.fst (Prod.snd (List.getD o2 (Int.toNat v27) ((0 : Int), (0 : Int), (0 : Int)))) = Prod.fst (Prod.snd (List.getD v2 (Int.toNat v27) ((0 : Int), (0 : Int), (0 : Int))))) && (decide (Prod.snd (Prod.snd (List.getD o2 (Int.toNat v27) ((0 : Int), (0 : Int), (0 : Int)))) = Prod.snd (Prod.snd (List.getD v2 (Int.toNat v27) ((0 : Int), (0 : Int), (0 : Int))))) && true)))) = true then if List.length o1 + List.length [v27] ≤ (140737488355328 / 8 : Nat) then Z2F k (o1 ++ [v27]) o2 v2 v26 (wrap64 (v27 + (1 : Int))) else none else Z2F k o1 o2 v2 v26 (wrap64 (v27 + (1 : Int))) else none else none else none else none else some o1
noncomputable def Zah : Spec := Spec.mk [OSh.ro, OSh.row true (3 : Nat) (Ty.int .i64), OSh.row true (63 : Nat) (Ty.pair (Ty.int .i64) (Ty.pair (Ty.int .i64) (Ty.int .i64)))] [((2 : Nat), TSh.at (Sh.snap (0 : Nat) (Ty.pair (Ty.int .i64) (Ty.pair (Ty.int .i64) (Ty.int .i64))))), ((8 : Nat), TSh.at (Sh.sl (1 : Nat))), ((25 : Nat), TSh.at (Sh.sl (2 : Nat))), ((26 : Nat), TSh.at (Sh.int .i64)), ((27 : Nat), TSh.at (Sh.int .i64))]
noncomputable def ZmA : Spec := Spec.mk [OSh.ro, OSh.row true (3 : Nat) (Ty.int .i64)] [((8 : Nat), TSh.at (Sh.sl (1 : Nat)))]
noncomputable def Z3m : LoopDef (Tup Z4S × OutD) := .plain Zah ZmA (List Int) (fun k x => Z2F k x.1.2.1 x.1.2.2.1 x.2.1 x.2.2.2.2.1 x.2.2.2.2.2.1) (fun z => (((), z, ()), ((), ()))) (fun y => (y.1.2.1)) (fun _ => rfl)
noncomputable def Z9j : Nat → Int × Int × List (Int × Int) → List Int → List (Int × Int × Int) → Option (List Int × Bool)
 | 0, _, _, _ => none
 | k + 1, p0, p1, p2 =>
  Option.bind (Z5B k (Prod.fst p0, Prod.fst p0.2, Prod.snd p0.2) p1 p2) fun z0 => if (!z0) = true then some ([], false) else Option.bind (ZcV k (Prod.fst p0, Prod.fst p0.2, Prod.snd p0.2) p1) fun z1 => Option.bind (Z2F k [] z1.1 p2 (↑(List.length z1.1) : Int) (0 : Int)) fun z2 => some (z2, true)
noncomputable def Z2x : FnDef := .of Zhd Z4S (List Int × Bool) (fun k x => Z9j k x.1 x.2.1 x.2.2.1) Zg1 ZfV ZlQ
noncomputable def Z9z : Code := Try.f60.body.getD .skip
noncomputable def Z3z : Ctx (Tup Z4S × OutD) := { T := T, G := [(137, Z2i.E), (145, Z4O.E)], mvs := [], no := 0, n := 44, res := resOf T Zhd Z4S Try.f60.results.toList, loops := [(0, Z3m.E)], regs := [], conds := [] }
theorem Zh3 (k : Nat) : EnvOK Try.prog k Z3z.G := (EnvOK.cons (Zbw k) (EnvOK.cons (Zz2 k) (EnvOK.nil mixed)))
noncomputable def Z76 : Code := (findLoop 0 Z9z).getD .skip
theorem ZnP (k : Nat) (x : Zah.D) : Z3m.lp (k + 1) x = loopK Z3z Z3m 0 Z76 k x := by kernel_rfl
theorem ZnE (k : Nat) : LOK Try.prog Z3z k Z76 := LOK.by [] (by kernel_rfl) AllOK.nil
theorem Zmn (x : Zah.D) : Z3m.lp 0 x = none := by kernel_rfl
theorem Zma (k : Nat) : EOK Try.prog Z3z k Z3m.E (.block 0 (.loop Z76)) := Zp T_ok Zh3 Zmn ZnP ZnE k
theorem Zs6 (k : Nat) (x : Tup Z2x.ps) : Z2x.f (k + 1) x = fnK Z2x Z3z Z9z k x := by kernel_rfl
theorem Zro (x : Tup Z2x.ps) : Z2x.f 0 x = none := by kernel_rfl
theorem Zsz (k : Nat) : LOK Try.prog Z3z k Z9z := LOK.by [(Z3m.E, .block 0 (.loop Z76))] (by kernel_rfl) (AllOK.cons (Zma k) AllOK.nil)
theorem Zss (k : Nat) : SoundAt Try.prog k 60 Z2x.E := @Ze Try.prog Z2x Z3z 60 Try.f60 Z9z (by kernel_rfl) (by kernel_rfl) (by kernel_rfl) Try.func60 (by kernel_rfl) (by kernel_rfl) (by kernel_rfl) T_ok Zh3 Zsz Zro Zs6 k
noncomputable def Z4Y : List PK := [PK.mk (Ty.slice (3 : Nat) (Ty.int .i64)) false none false none, PK.mk Ty.bool false none false none]
noncomputable def Zh1 : List PK := [PK.mk (Ty.pair (Ty.int .i64) (Ty.pair (Ty.int .i64) (Ty.slice (79 : Nat) (Ty.pair (Ty.int .i64) (Ty.int .i64))))) true none false none, PK.mk (Ty.slice (3 : Nat) (Ty.int .i64)) false none false none, PK.mk (Ty.slice (63 : Nat) (Ty.pair (Ty.int .i64) (Ty.pair (Ty.int .i64) (Ty.int .i64)))) false none false none]
noncomputable def ZfT (r : List Int × Bool) : Tup Z4Y × OutD := ((r.1, r.2, ()), none)
noncomputable def Zgb : Tup Z4Y × OutD → Option (List Int × Bool)
 | (a, none) => some (a.1, a.2.1)
 | _ => none
theorem ZlE : ∀ b r, Zgb b = some r → ZfT r = b := by
 rintro ⟨a, o⟩ r h
 cases o with
 | none => injection h with h; subst h; rfl
 | some _ => cases h
noncomputable def Z2D : Nat → List Int → List (Int × Int × Int) → List (Int × Int × Int) → Int → Int → Option (List Int)
 | 0, _, _, _, _, _ => none
 | k + 1, o1, o2, v2, v25, v26 =>
  if decide (v26 < v25) = true then if (0 : Int) ≤ v26 then if v26 < (↑(List.length o2) : Int) then if (0 : Int) ≤ v26 then if v26 < (↑(List.length v2) : Int) then if (!(decide (Prod.fst (List.getD o2 (Int.toNat v26) ((0 : Int), (0 : Int), (0 : Int))) = Prod.fst (List.getD v2 (Int.toNat v26) ((0 : Int), (0 : Int), (0 : Int)))) && (decide (Prod.fst (Prod.snd (List.getD o2 (Int.toNat v26) ((0 : Int), (0 : Int), (0 : Int)))) = Prod.fst (Prod.snd (List.getD v2 (Int.toNat v26) ((0 : Int), (0 : Int), (0 : Int))))) && (decide (Prod.snd (Prod.snd (List.getD o2 (Int.toNat v26) ((0 : Int), (0 : Int), (0 : Int)))) = Prod.snd (Prod.snd (List.getD v2 (Int.toNat v26) ((0 : Int), (0 : Int), (0 : Int))))) && true)))) = true then if List.length o1 + List.length [v26] ≤ (140737488355328 / 8 : Nat) then Z2D k (o1 ++ [v26]) o2 v2 v25 (wrap64 (v26 + (1 : Int))) else none else Z2D k o1 o2 v2 v25 (wrap64 (v26 + (1 : Int))) else none else none else none else none else some o1
noncomputable def Zai : Spec := Spec.mk [OSh.ro, OSh.row true (3 : Nat) (Ty.int .i64), OSh.row true (63 : Nat) (Ty.pair (Ty.int .i64) (Ty.pair (Ty.int .i64) (Ty.int .i64)))] [((2 : Nat), TSh.at (Sh.snap (0 : Nat) (Ty.pair (Ty.int .i64) (Ty.pair (Ty.int .i64) (Ty.int .i64))))), ((10 : Nat), TSh.at (Sh.sl (1 : Nat))), ((24 : Nat), TSh.at (Sh.sl (2 : Nat))), ((25 : Nat), TSh.at (Sh.int .i64)), ((26 : Nat), TSh.at (Sh.int .i64))]
noncomputable def ZmN : Spec := Spec.mk [OSh.ro, OSh.row true (3 : Nat) (Ty.int .i64)] [((10 : Nat), TSh.at (Sh.sl (1 : Nat)))]
noncomputable def Z3l : LoopDef (Tup Z4Y × OutD) := .plain Zai ZmN (List Int) (fun k x => Z2D k x.1.2.1 x.1.2.2.1 x.2.1 x.2.2.2.2.1 x.2.2.2.2.2.1) (fun z => (((), z, ()), ((), ()))) (fun y => (y.1.2.1)) (fun _ => rfl)
noncomputable def Z9w : Nat → Int × Int × List (Int × Int) → List Int → List (Int × Int × Int) → Option (List Int × Bool)
 | 0, _, _, _ => none
 | k + 1, p0, p1, p2 =>
  Option.bind (Z4t k (Prod.fst p0, Prod.fst p0.2, Prod.snd p0.2) p1 p2) fun z0 => if (!z0) = true then some ([], false) else Option.bind (Zfl k (Prod.fst p0, Prod.fst p0.2, Prod.snd p0.2) p1) fun z1 => Option.bind (Z2D k [] z1.1 p2 (↑(List.length z1.1) : Int) (0 : Int)) fun z2 => some (z2, true)
noncomputable def Z2v : FnDef := .of Zh1 Z4Y (List Int × Bool) (fun k x => Z9w k x.1 x.2.1 x.2.2.1) ZfT Zgb ZlE
noncomputable def Z9r : Code := Try.f61.body.getD .skip
noncomputable def Z3B : Ctx (Tup Z4Y × OutD) := { T := T, G := [(139, Z1S.E), (146, Z6O.E)], mvs := [], no := 0, n := 43, res := resOf T Zh1 Z4Y Try.f61.results.toList, loops := [(0, Z3l.E)], regs := [], conds := [] }
theorem Zh2 (k : Nat) : EnvOK Try.prog k Z3B.G := (EnvOK.cons (Z9g k) (EnvOK.cons (ZB7 k) (EnvOK.nil mixed)))
noncomputable def Z6Z : Code := (findLoop 0 Z9r).getD .skip
theorem Zmw (k : Nat) (x : Zai.D) : Z3l.lp (k + 1) x = loopK Z3B Z3l 0 Z6Z k x := by kernel_rfl
theorem ZmO (k : Nat) : LOK Try.prog Z3B k Z6Z := LOK.by [] (by kernel_rfl) AllOK.nil
theorem ZmP (x : Zai.D) : Z3l.lp 0 x = none := by kernel_rfl
theorem Zmc (k : Nat) : EOK Try.prog Z3B k Z3l.E (.block 0 (.loop Z6Z)) := Zp T_ok Zh2 ZmP Zmw ZmO k
theorem Zsh (k : Nat) (x : Tup Z2v.ps) : Z2v.f (k + 1) x = fnK Z2v Z3B Z9r k x := by kernel_rfl
theorem ZsF (x : Tup Z2v.ps) : Z2v.f 0 x = none := by kernel_rfl
theorem Zrw (k : Nat) : LOK Try.prog Z3B k Z9r := LOK.by [(Z3l.E, .block 0 (.loop Z6Z))] (by kernel_rfl) (AllOK.cons (Zmc k) AllOK.nil)
theorem Zs1 (k : Nat) : SoundAt Try.prog k 61 Z2v.E := @Ze Try.prog Z2v Z3B 61 Try.f61 Z9r (by kernel_rfl) (by kernel_rfl) (by kernel_rfl) Try.func61 (by kernel_rfl) (by kernel_rfl) (by kernel_rfl) T_ok Zh2 Zrw ZsF Zsh k
noncomputable def Z5W : List PK := [PK.mk Ty.bool false none false none, PK.mk Ty.bool false none false none]
noncomputable def ZfW : List PK := [PK.mk (Ty.pair (Ty.int .i64) (Ty.pair (Ty.int .i64) (Ty.slice (79 : Nat) (Ty.pair (Ty.int .i64) (Ty.int .i64))))) true none false none, PK.mk (Ty.slice (77 : Nat) (Ty.pair (Ty.int .i64) (Ty.pair (Ty.int .i64) (Ty.int .i64)))) false none false none, PK.mk (Ty.slice (3 : Nat) (Ty.int .i64)) false none false none, PK.mk (Ty.slice (63 : Nat) (Ty.pair (Ty.int .i64) (Ty.pair (Ty.int .i64) (Ty.int .i64)))) false none false none]
noncomputable def ZfG (r : Bool × Bool) : Tup Z5W × OutD := ((r.1, r.2, ()), none)
noncomputable def ZeW : Tup Z5W × OutD → Option (Bool × Bool)
 | (a, none) => some (a.1, a.2.1)
 | _ => none
theorem Zky : ∀ b r, ZeW b = some r → ZfG r = b := by
 rintro ⟨a, o⟩ r h
 cases o with
 | none => injection h with h; subst h; rfl
 | some _ => cases h
noncomputable def Z3a : Nat → Int × Int × List (Int × Int) → List (Int × Int × Int) → List Int → List (Int × Int × Int) → Option (Bool × Bool)
 | 0, _, _, _, _ => none
 | k + 1, p0, p1, p2, p3 =>
  Option.bind (Z5B k (Prod.fst p0, Prod.fst p0.2, Prod.snd p0.2) p2 p3) fun z0 => if (!z0) = true then some (false, false) else Option.bind (Zbk k (Prod.fst p0, Prod.fst p0.2, Prod.snd p0.2) p1) fun z1 => if (!z1) = true then some (false, false) else Option.bind (Z2b k (Prod.fst p0, Prod.fst p0.2, Prod.snd p0.2) p1 p2 p3) fun z2 => some (z2, true)
noncomputable def Z29 : FnDef := .of ZfW Z5W (Bool × Bool) (fun k x => Z3a k x.1 x.2.1 x.2.2.1 x.2.2.2.1) ZfG ZeW Zky
noncomputable def ZbQ : Code := Try.f64.body.getD .skip
noncomputable def Z8R : Ctx (Tup Z5W × OutD) := { T := T, G := [(137, Z2i.E), (119, Z3C.E), (143, Z17.E)], mvs := [], no := 0, n := 26, res := resOf T ZfW Z5W Try.f64.results.toList, loops := [], regs := [], conds := [] }
theorem Zqx (k : Nat) : EnvOK Try.prog k Z8R.G := (EnvOK.cons (Zbw k) (EnvOK.cons (ZwT k) (EnvOK.cons (Z8H k) (EnvOK.nil mixed))))
theorem ZqD (k : Nat) (x : Tup Z29.ps) : Z29.f (k + 1) x = fnK Z29 Z8R ZbQ k x := by kernel_rfl
theorem ZqM (x : Tup Z29.ps) : Z29.f 0 x = none := by kernel_rfl
theorem ZqP (k : Nat) : LOK Try.prog Z8R k ZbQ := LOK.by [] (by kernel_rfl) AllOK.nil
theorem Zrg (k : Nat) : SoundAt Try.prog k 64 Z29.E := @Ze Try.prog Z29 Z8R 64 Try.f64 ZbQ (by kernel_rfl) (by kernel_rfl) (by kernel_rfl) Try.func64 (by kernel_rfl) (by kernel_rfl) (by kernel_rfl) T_ok Zqx ZqP ZqM ZqD k
noncomputable def Z5Z : List PK := [PK.mk Ty.bool false none false none, PK.mk Ty.bool false none false none]
noncomputable def Zgf : List PK := [PK.mk (Ty.pair (Ty.int .i64) (Ty.pair (Ty.int .i64) (Ty.slice (79 : Nat) (Ty.pair (Ty.int .i64) (Ty.int .i64))))) true none false none, PK.mk (Ty.slice (77 : Nat) (Ty.pair (Ty.int .i64) (Ty.pair (Ty.int .i64) (Ty.int .i64)))) false none false none, PK.mk (Ty.slice (3 : Nat) (Ty.int .i64)) false none false none, PK.mk (Ty.slice (63 : Nat) (Ty.pair (Ty.int .i64) (Ty.pair (Ty.int .i64) (Ty.int .i64)))) false none false none]
noncomputable def ZeV (r : Bool × Bool) : Tup Z5Z × OutD := ((r.1, r.2, ()), none)
noncomputable def ZfE : Tup Z5Z × OutD → Option (Bool × Bool)
 | (a, none) => some (a.1, a.2.1)
 | _ => none
theorem Zkv : ∀ b r, ZfE b = some r → ZeV r = b := by
 rintro ⟨a, o⟩ r h
 cases o with
 | none => injection h with h; subst h; rfl
 | some _ => cases h
noncomputable def Z8I : Nat → Int × Int × List (Int × Int) → List (Int × Int × Int) → List Int → List (Int × Int × Int) → Option (Bool × Bool)
 | 0, _, _, _, _ => none
 | k + 1, p0, p1, p2, p3 =>
  Option.bind (Z4t k (Prod.fst p0, Prod.fst p0.2, Prod.snd p0.2) p2 p3) fun z0 => if (!z0) = true then some (false, false) else Option.bind (Zbp k (Prod.fst p0, Prod.fst p0.2, Prod.snd p0.2) p1) fun z1 => if (!z1) = true then some (false, false) else Option.bind (Z34 k (Prod.fst p0, Prod.fst p0.2, Prod.snd p0.2) p1 p2 p3) fun z2 => some (z2, true)
noncomputable def Z2c : FnDef := .of Zgf Z5Z (Bool × Bool) (fun k x => Z8I k x.1 x.2.1 x.2.2.1 x.2.2.2.1) ZeV ZfE Zkv
noncomputable def ZbS : Code := Try.f68.body.getD .skip
noncomputable def Z8K : Ctx (Tup Z5Z × OutD) := { T := T, G := [(139, Z1S.E), (122, Z4z.E), (144, Z1i.E)], mvs := [], no := 0, n := 26, res := resOf T Zgf Z5Z Try.f68.results.toList, loops := [], regs := [], conds := [] }
theorem Zr2 (k : Nat) : EnvOK Try.prog k Z8K.G := (EnvOK.cons (Z9g k) (EnvOK.cons (Zq1 k) (EnvOK.cons (Zaa k) (EnvOK.nil mixed))))
theorem ZqH (k : Nat) (x : Tup Z2c.ps) : Z2c.f (k + 1) x = fnK Z2c Z8K ZbS k x := by kernel_rfl
theorem Zqf (x : Tup Z2c.ps) : Z2c.f 0 x = none := by kernel_rfl
theorem Zr9 (k : Nat) : LOK Try.prog Z8K k ZbS := LOK.by [] (by kernel_rfl) AllOK.nil
theorem ZqX (k : Nat) : SoundAt Try.prog k 68 Z2c.E := @Ze Try.prog Z2c Z8K 68 Try.f68 ZbS (by kernel_rfl) (by kernel_rfl) (by kernel_rfl) Try.func68 (by kernel_rfl) (by kernel_rfl) (by kernel_rfl) T_ok Zr2 Zr9 Zqf ZqH k
noncomputable def Z4i : List PK := [PK.mk (Ty.slice (77 : Nat) (Ty.pair (Ty.int .i64) (Ty.pair (Ty.int .i64) (Ty.int .i64)))) false none false none]
noncomputable def Zga : List PK := [PK.mk (Ty.pair (Ty.int .i64) (Ty.pair (Ty.int .i64) (Ty.slice (79 : Nat) (Ty.pair (Ty.int .i64) (Ty.int .i64))))) true none false none, PK.mk (Ty.slice (3 : Nat) (Ty.int .i64)) false none false none, PK.mk (Ty.slice (63 : Nat) (Ty.pair (Ty.int .i64) (Ty.pair (Ty.int .i64) (Ty.int .i64)))) false none false none]
noncomputable def ZeY (r : List (Int × Int × Int)) : Tup Z4i × OutD := ((r, ()), none)
noncomputable def Zfy : Tup Z4i × OutD → Option (List (Int × Int × Int))
 | (a, none) => some (a.1)
 | _ => none
theorem ZkD : ∀ b r, Zfy b = some r → ZeY r = b := by
 rintro ⟨a, o⟩ r h
 cases o with
 | none => injection h with h; subst h; rfl
 | some _ => cases h
noncomputable def Z2n : Nat → Int → Int → List (Int × Int) → List (Int × Int × Int) → List (Int × Int × Int) → List Int → List (Int × Int × Int) → Int → Int → Option (List (Int × Int × Int))
 | 0, _, _, _, _, _, _, _, _, _ => none
 | k + 1, b1_0, b1_1, b1_2, o2, o3, v1, v2, v13, v14 =>
  if decide (v14 < v13) = true then if (0 : Int) ≤ v14 then if v14 < (↑(List.length o3) : Int) then Option.bind (Z2b k (b1_0, b1_1, b1_2) [(Prod.fst (List.getD o3 (Int.toNat v14) ((0 : Int), (0 : Int), (0 : Int))), Prod.fst (Prod.snd (List.getD o3 (Int.toNat v14) ((0 : Int), (0 : Int), (0 : Int)))), Prod.snd (Prod.snd (List.getD o3 (Int.toNat v14) ((0 : Int), (0 : Int), (0 : Int)))))] v1 v2) fun z1 => if z1 = true then if List.length o2 + List.length [(Prod.fst (List.getD o3 (Int.toNat v14) ((0 : Int), (0 : Int), (0 : Int))), Prod.fst (Prod.snd (List.getD o3 (Int.toNat v14) ((0 : Int), (0 : Int), (0 : Int)))), Prod.snd (Prod.snd (List.getD o3 (Int.toNat v14) ((0 : Int), (0 : Int), (0 : Int)))))] ≤ (140737488355328 / 24 : Nat) then Z2n k b1_0 b1_1 b1_2 (o2 ++ [(Prod.fst (List.getD o3 (Int.toNat v14) ((0 : Int), (0 : Int), (0 : Int))), Prod.fst (Prod.snd (List.getD o3 (Int.toNat v14) ((0 : Int), (0 : Int), (0 : Int)))), Prod.snd (Prod.snd (List.getD o3 (Int.toNat v14) ((0 : Int), (0 : Int), (0 : Int)))))]) o3 v1 v2 v13 (wrap64 (v14 + (1 : Int))) else none else Z2n k b1_0 b1_1 b1_2 o2 o3 v1 v2 v13 (wrap64 (v14 + (1 : Int))) else none else none else some o2
noncomputable def Z9U : Spec := Spec.mk [OSh.ro, OSh.box (53 : Nat) [Sh.int .i64, Sh.int .i64, Sh.snap (0 : Nat) (Ty.pair (Ty.int .i64) (Ty.int .i64))], OSh.row true (77 : Nat) (Ty.pair (Ty.int .i64) (Ty.pair (Ty.int .i64) (Ty.int .i64))), OSh.row true (77 : Nat) (Ty.pair (Ty.int .i64) (Ty.pair (Ty.int .i64) (Ty.int .i64)))] [((1 : Nat), TSh.at (Sh.snap (0 : Nat) (Ty.int .i64))), ((2 : Nat), TSh.at (Sh.snap (0 : Nat) (Ty.pair (Ty.int .i64) (Ty.pair (Ty.int .i64) (Ty.int .i64))))), ((3 : Nat), TSh.at (Sh.ptr (1 : Nat) (0 : Nat))), ((7 : Nat), TSh.at (Sh.sl (2 : Nat))), ((12 : Nat), TSh.at (Sh.sl (3 : Nat))), ((13 : Nat), TSh.at (Sh.int .i64)), ((14 : Nat), TSh.at (Sh.int .i64))]
noncomputable def ZlP : Spec := Spec.mk [OSh.ro, OSh.row true (77 : Nat) (Ty.pair (Ty.int .i64) (Ty.pair (Ty.int .i64) (Ty.int .i64)))] [((7 : Nat), TSh.at (Sh.sl (1 : Nat)))]
noncomputable def Z2O : LoopDef (Tup Z4i × OutD) := .plain Z9U ZlP (List (Int × Int × Int)) (fun k x => Z2n k x.1.2.1.1 x.1.2.1.2.1 x.1.2.1.2.2.1 x.1.2.2.1 x.1.2.2.2.1 x.2.1 x.2.2.1 x.2.2.2.2.2.2.1 x.2.2.2.2.2.2.2.1) (fun z => (((), z, ()), ((), ()))) (fun y => (y.1.2.1)) (fun _ => rfl)
noncomputable def Z5Q : Nat → Int × Int × List (Int × Int) → List Int → List (Int × Int × Int) → Option (List (Int × Int × Int))
 | 0, _, _, _ => none
 | k + 1, p0, p1, p2 =>
  Option.bind (Z3w k (Prod.fst p0, Prod.fst p0.2, Prod.snd p0.2)) fun z0 => Option.bind (Z2n k p0.1 p0.2.1 p0.2.2 [] z0 p1 p2 (↑(List.length z0) : Int) (0 : Int)) fun z2 => some z2
noncomputable def Z1E : FnDef := .of Zga Z4i (List (Int × Int × Int)) (fun k x => Z5Q k x.1 x.2.1 x.2.2.1) ZeY Zfy ZkD
noncomputable def Z8V : Code := Try.f138.body.getD .skip
noncomputable def Z38 : Ctx (Tup Z4i × OutD) := { T := T, G := [(147, Z13.E), (143, Z17.E)], mvs := [], no := 0, n := 30, res := resOf T Zga Z4i Try.f138.results.toList, loops := [(0, Z2O.E)], regs := [], conds := [] }
theorem ZfN (k : Nat) : EnvOK Try.prog k Z38.G := (EnvOK.cons (Zau k) (EnvOK.cons (Z8H k) (EnvOK.nil mixed)))
noncomputable def Z6C : Code := (findLoop 0 Z8V).getD .skip
theorem Zlw (k : Nat) (x : Z9U.D) : Z2O.lp (k + 1) x = loopK Z38 Z2O 0 Z6C k x := by kernel_rfl
theorem Zly (k : Nat) : LOK Try.prog Z38 k Z6C := LOK.by [] (by kernel_rfl) AllOK.nil
theorem ZlX (x : Z9U.D) : Z2O.lp 0 x = none := by kernel_rfl
theorem Zkg (k : Nat) : EOK Try.prog Z38 k Z2O.E (.block 0 (.loop Z6C)) := Zp T_ok ZfN ZlX Zlw Zly k
theorem Zqd (k : Nat) (x : Tup Z1E.ps) : Z1E.f (k + 1) x = fnK Z1E Z38 Z8V k x := by kernel_rfl
theorem Zqo (x : Tup Z1E.ps) : Z1E.f 0 x = none := by kernel_rfl
theorem ZqZ (k : Nat) : LOK Try.prog Z38 k Z8V := LOK.by [(Z2O.E, .block 0 (.loop Z6C))] (by kernel_rfl) (AllOK.cons (Zkg k) AllOK.nil)
theorem ZfZ (k : Nat) : SoundAt Try.prog k 138 Z1E.E := @Ze Try.prog Z1E Z38 138 Try.f138 Z8V (by kernel_rfl) (by kernel_rfl) (by kernel_rfl) Try.func138 (by kernel_rfl) (by kernel_rfl) (by kernel_rfl) T_ok ZfN ZqZ Zqo Zqd k
noncomputable def Z7b : List PK := [PK.mk (Ty.slice (77 : Nat) (Ty.pair (Ty.int .i64) (Ty.pair (Ty.int .i64) (Ty.int .i64)))) false none false none]
noncomputable def Zlh : List PK := [PK.mk (Ty.pair (Ty.int .i64) (Ty.pair (Ty.int .i64) (Ty.slice (79 : Nat) (Ty.pair (Ty.int .i64) (Ty.int .i64))))) true none false none, PK.mk (Ty.slice (3 : Nat) (Ty.int .i64)) false none false none, PK.mk (Ty.slice (63 : Nat) (Ty.pair (Ty.int .i64) (Ty.pair (Ty.int .i64) (Ty.int .i64)))) false none false none]
noncomputable def ZiX (r : List (Int × Int × Int)) : Tup Z7b × OutD := ((r, ()), none)
noncomputable def ZjA : Tup Z7b × OutD → Option (List (Int × Int × Int))
 | (a, none) => some (a.1)
 | _ => none
theorem ZqQ : ∀ b r, ZjA b = some r → ZiX r = b := by
 rintro ⟨a, o⟩ r h
 cases o with
 | none => injection h with h; subst h; rfl
 | some _ => cases h
noncomputable def Z45 : Nat → Int → Int → List (Int × Int) → List (Int × Int × Int) → List (Int × Int × Int) → List Int → List (Int × Int × Int) → Int → Int → Option (List (Int × Int × Int))
 | 0, _, _, _, _, _, _, _, _, _ => none
 | k + 1, b1_0, b1_1, b1_2, o2, o3, v1, v2, v12, v13 =>
  if decide (v13 < v12) = true then if (0 : Int) ≤ v13 then if v13 < (↑(List.length o3) : Int) then Option.bind (Z34 k (b1_0, b1_1, b1_2) [(Prod.fst (List.getD o3 (Int.toNat v13) ((0 : Int), (0 : Int), (0 : Int))), Prod.fst (Prod.snd (List.getD o3 (Int.toNat v13) ((0 : Int), (0 : Int), (0 : Int)))), Prod.snd (Prod.snd (List.getD o3 (Int.toNat v13) ((0 : Int), (0 : Int), (0 : Int)))))] v1 v2) fun z1 => if z1 = true then if List.length o2 + List.length [(Prod.fst (List.getD o3 (Int.toNat v13) ((0 : Int), (0 : Int), (0 : Int))), Prod.fst (Prod.snd (List.getD o3 (Int.toNat v13) ((0 : Int), (0 : Int), (0 : Int)))), Prod.snd (Prod.snd (List.getD o3 (Int.toNat v13) ((0 : Int), (0 : Int), (0 : Int)))))] ≤ (140737488355328 / 24 : Nat) then Z45 k b1_0 b1_1 b1_2 (o2 ++ [(Prod.fst (List.getD o3 (Int.toNat v13) ((0 : Int), (0 : Int), (0 : Int))), Prod.fst (Prod.snd (List.getD o3 (Int.toNat v13) ((0 : Int), (0 : Int), (0 : Int)))), Prod.snd (Prod.snd (List.getD o3 (Int.toNat v13) ((0 : Int), (0 : Int), (0 : Int)))))]) o3 v1 v2 v12 (wrap64 (v13 + (1 : Int))) else none else Z45 k b1_0 b1_1 b1_2 o2 o3 v1 v2 v12 (wrap64 (v13 + (1 : Int))) else none else none else some o2
noncomputable def Zcc : Spec := Spec.mk [OSh.ro, OSh.box (53 : Nat) [Sh.int .i64, Sh.int .i64, Sh.snap (0 : Nat) (Ty.pair (Ty.int .i64) (Ty.int .i64))], OSh.row true (77 : Nat) (Ty.pair (Ty.int .i64) (Ty.pair (Ty.int .i64) (Ty.int .i64))), OSh.row true (77 : Nat) (Ty.pair (Ty.int .i64) (Ty.pair (Ty.int .i64) (Ty.int .i64)))] [((1 : Nat), TSh.at (Sh.snap (0 : Nat) (Ty.int .i64))), ((2 : Nat), TSh.at (Sh.snap (0 : Nat) (Ty.pair (Ty.int .i64) (Ty.pair (Ty.int .i64) (Ty.int .i64))))), ((3 : Nat), TSh.at (Sh.ptr (1 : Nat) (0 : Nat))), ((7 : Nat), TSh.at (Sh.sl (2 : Nat))), ((11 : Nat), TSh.at (Sh.sl (3 : Nat))), ((12 : Nat), TSh.at (Sh.int .i64)), ((13 : Nat), TSh.at (Sh.int .i64))]
noncomputable def ZrY : Spec := Spec.mk [OSh.ro, OSh.row true (77 : Nat) (Ty.pair (Ty.int .i64) (Ty.pair (Ty.int .i64) (Ty.int .i64)))] [((7 : Nat), TSh.at (Sh.sl (1 : Nat)))]
noncomputable def Z4X : LoopDef (Tup Z7b × OutD) := .plain Zcc ZrY (List (Int × Int × Int)) (fun k x => Z45 k x.1.2.1.1 x.1.2.1.2.1 x.1.2.1.2.2.1 x.1.2.2.1 x.1.2.2.2.1 x.2.1 x.2.2.1 x.2.2.2.2.2.2.1 x.2.2.2.2.2.2.2.1) (fun z => (((), z, ()), ((), ()))) (fun y => (y.1.2.1)) (fun _ => rfl)
noncomputable def Z70 : Nat → Int × Int × List (Int × Int) → List Int → List (Int × Int × Int) → Option (List (Int × Int × Int))
 | 0, _, _, _ => none
 | k + 1, p0, p1, p2 =>
  Option.bind (Z30 k (Prod.fst p0, Prod.fst p0.2, Prod.snd p0.2)) fun z0 => Option.bind (Z45 k p0.1 p0.2.1 p0.2.2 [] z0 p1 p2 (↑(List.length z0) : Int) (0 : Int)) fun z2 => some z2
noncomputable def Z2r : FnDef := .of Zlh Z7b (List (Int × Int × Int)) (fun k x => Z70 k x.1 x.2.1 x.2.2.1) ZiX ZjA ZqQ
noncomputable def Zc4 : Code := Try.f140.body.getD .skip
noncomputable def Z59 : Ctx (Tup Z7b × OutD) := { T := T, G := [(148, Z1a.E), (144, Z1i.E)], mvs := [], no := 0, n := 29, res := resOf T Zlh Z7b Try.f140.results.toList, loops := [(0, Z4X.E)], regs := [], conds := [] }
theorem ZkX (k : Nat) : EnvOK Try.prog k Z59.G := (EnvOK.cons (Z7B k) (EnvOK.cons (Zaa k) (EnvOK.nil mixed)))
noncomputable def Z9l : Code := (findLoop 0 Zc4).getD .skip
theorem ZsK (k : Nat) (x : Zcc.D) : Z4X.lp (k + 1) x = loopK Z59 Z4X 0 Z9l k x := by kernel_rfl
theorem ZrF (k : Nat) : LOK Try.prog Z59 k Z9l := LOK.by [] (by kernel_rfl) AllOK.nil
theorem ZsH (x : Zcc.D) : Z4X.lp 0 x = none := by kernel_rfl
theorem Zqn (k : Nat) : EOK Try.prog Z59 k Z4X.E (.block 0 (.loop Z9l)) := Zp T_ok ZkX ZsH ZsK ZrF k
theorem Zy2 (k : Nat) (x : Tup Z2r.ps) : Z2r.f (k + 1) x = fnK Z2r Z59 Zc4 k x := by kernel_rfl
theorem Zxv (x : Tup Z2r.ps) : Z2r.f 0 x = none := by kernel_rfl
theorem ZxU (k : Nat) : LOK Try.prog Z59 k Zc4 := LOK.by [(Z4X.E, .block 0 (.loop Z9l))] (by kernel_rfl) (AllOK.cons (Zqn k) AllOK.nil)
theorem ZeM (k : Nat) : SoundAt Try.prog k 140 Z2r.E := @Ze Try.prog Z2r Z59 140 Try.f140 Zc4 (by kernel_rfl) (by kernel_rfl) (by kernel_rfl) Try.func140 (by kernel_rfl) (by kernel_rfl) (by kernel_rfl) T_ok ZkX ZxU Zxv Zy2 k
noncomputable def Z4b : List PK := [PK.mk (Ty.slice (34 : Nat) (Ty.slice (3 : Nat) (Ty.int .i64))) false none false none]
noncomputable def Zi2 : List PK := [PK.mk (Ty.pair (Ty.int .i64) (Ty.pair (Ty.int .i64) (Ty.slice (79 : Nat) (Ty.pair (Ty.int .i64) (Ty.int .i64))))) true none false none, PK.mk (Ty.slice (3 : Nat) (Ty.int .i64)) false none false none, PK.mk (Ty.slice (63 : Nat) (Ty.pair (Ty.int .i64) (Ty.pair (Ty.int .i64) (Ty.int .i64)))) false none false none]
noncomputable def Zhv (r : List (List Int)) : Tup Z4b × OutD := ((r, ()), none)
noncomputable def ZgY : Tup Z4b × OutD → Option (List (List Int))
 | (a, none) => some (a.1)
 | _ => none
theorem Znu : ∀ b r, ZgY b = some r → Zhv r = b := by
 rintro ⟨a, o⟩ r h
 cases o with
 | none => injection h with h; subst h; rfl
 | some _ => cases h
noncomputable def Z1d : Nat → Int → Int → List (Int × Int) → List (List Int) → List (Int × Int × Int) → Int → Int → Int → List Int → List (Int × Int × Int) → Int → Int → Int → Int → Option (Int × Int × List (Int × Int) × List (List Int) × List (Int × Int × Int) × List Int × List (Int × Int × Int) × Int × Int)
 | 0, _, _, _, _, _, _, _, _, _, _, _, _, _, _ => none
 | k + 1, b1_0, b1_1, b1_2, o2, o3, b4_0, b4_1, b4_2, v1, v2, v9, v11, v17, v18 =>
  if decide (v11 < (↑(List.length o3) : Int)) = true then if (0 : Int) ≤ v11 then if v11 < (↑(List.length o3) : Int) then if decide (b4_1 ≠ Prod.fst (Prod.snd (List.getD o3 (Int.toNat v11) ((0 : Int), (0 : Int), (0 : Int))))) = true then Option.bind (Z2b k (b1_0, b1_1, b1_2) [(b4_0, b4_1, b4_2), (Prod.fst (List.getD o3 (Int.toNat v11) ((0 : Int), (0 : Int), (0 : Int))), Prod.fst (Prod.snd (List.getD o3 (Int.toNat v11) ((0 : Int), (0 : Int), (0 : Int)))), Prod.snd (Prod.snd (List.getD o3 (Int.toNat v11) ((0 : Int), (0 : Int), (0 : Int)))))] v1 v2) fun z1 => if z1 = true then if List.length o2 + List.length [[v9, v11]] ≤ (140737488355328 / 24 : Nat) then Z1d k b1_0 b1_1 b1_2 (o2 ++ [[v9, v11]]) o3 b4_0 b4_1 b4_2 v1 v2 v9 (wrap64 (v11 + (1 : Int))) v17 v18 else none else Z1d k b1_0 b1_1 b1_2 o2 o3 b4_0 b4_1 b4_2 v1 v2 v9 (wrap64 (v11 + (1 : Int))) v17 v18 else if decide (b4_2 ≠ Prod.snd (Prod.snd (List.getD o3 (Int.toNat v11) ((0 : Int), (0 : Int), (0 : Int))))) = true then Option.bind (Z2b k (b1_0, b1_1, b1_2) [(b4_0, b4_1, b4_2), (Prod.fst (List.getD o3 (Int.toNat v11) ((0 : Int), (0 : Int), (0 : Int))), Prod.fst (Prod.snd (List.getD o3 (Int.toNat v11) ((0 : Int), (0 : Int), (0 : Int)))), Prod.snd (Prod.snd (List.getD o3 (Int.toNat v11) ((0 : Int), (0 : Int), (0 : Int)))))] v1 v2) fun z2 => if z2 = true then if List.length o2 + List.length [[v9, v11]] ≤ (140737488355328 / 24 : Nat) then Z1d k b1_0 b1_1 b1_2 (o2 ++ [[v9, v11]]) o3 b4_0 b4_1 b4_2 v1 v2 v9 (wrap64 (v11 + (1 : Int))) v17 v18 else none else Z1d k b1_0 b1_1 b1_2 o2 o3 b4_0 b4_1 b4_2 v1 v2 v9 (wrap64 (v11 + (1 : Int))) v17 v18 else Z1d k b1_0 b1_1 b1_2 o2 o3 b4_0 b4_1 b4_2 v1 v2 v9 (wrap64 (v11 + (1 : Int))) v17 v18 else none else none else some (b1_0, b1_1, b1_2, o2, o3, v1, v2, v17, v18)
noncomputable def Zbj : Spec := Spec.mk [OSh.ro, OSh.box (53 : Nat) [Sh.int .i64, Sh.int .i64, Sh.snap (0 : Nat) (Ty.pair (Ty.int .i64) (Ty.int .i64))], OSh.row true (34 : Nat) (Ty.slice (3 : Nat) (Ty.int .i64)), OSh.row true (77 : Nat) (Ty.pair (Ty.int .i64) (Ty.pair (Ty.int .i64) (Ty.int .i64))), OSh.box (77 : Nat) [Sh.int .i64, Sh.int .i64, Sh.int .i64]] [((1 : Nat), TSh.at (Sh.snap (0 : Nat) (Ty.int .i64))), ((2 : Nat), TSh.at (Sh.snap (0 : Nat) (Ty.pair (Ty.int .i64) (Ty.pair (Ty.int .i64) (Ty.int .i64))))), ((3 : Nat), TSh.at (Sh.ptr (1 : Nat) (0 : Nat))), ((7 : Nat), TSh.at (Sh.sl (2 : Nat))), ((8 : Nat), TSh.at (Sh.sl (3 : Nat))), ((9 : Nat), TSh.at (Sh.int .i64)), ((10 : Nat), TSh.at (Sh.ptr (4 : Nat) (0 : Nat))), ((11 : Nat), TSh.at (Sh.int .i64)), ((16 : Nat), TSh.at (Sh.sl (3 : Nat))), ((17 : Nat), TSh.at (Sh.int .i64)), ((18 : Nat), TSh.at (Sh.int .i64))]
noncomputable def Zo1 : Spec := Spec.mk [OSh.ro, OSh.box (53 : Nat) [Sh.int .i64, Sh.int .i64, Sh.snap (0 : Nat) (Ty.pair (Ty.int .i64) (Ty.int .i64))], OSh.row true (34 : Nat) (Ty.slice (3 : Nat) (Ty.int .i64)), OSh.row true (77 : Nat) (Ty.pair (Ty.int .i64) (Ty.pair (Ty.int .i64) (Ty.int .i64)))] [((1 : Nat), TSh.at (Sh.snap (0 : Nat) (Ty.int .i64))), ((2 : Nat), TSh.at (Sh.snap (0 : Nat) (Ty.pair (Ty.int .i64) (Ty.pair (Ty.int .i64) (Ty.int .i64))))), ((3 : Nat), TSh.at (Sh.ptr (1 : Nat) (0 : Nat))), ((7 : Nat), TSh.at (Sh.sl (2 : Nat))), ((8 : Nat), TSh.at (Sh.sl (3 : Nat))), ((16 : Nat), TSh.at (Sh.sl (3 : Nat))), ((17 : Nat), TSh.at (Sh.int .i64)), ((18 : Nat), TSh.at (Sh.int .i64))]
noncomputable def Z3V : LoopDef (Tup Z4b × OutD) := .plain Zbj Zo1 (Int × Int × List (Int × Int) × List (List Int) × List (Int × Int × Int) × List Int × List (Int × Int × Int) × Int × Int) (fun k x => Z1d k x.1.2.1.1 x.1.2.1.2.1 x.1.2.1.2.2.1 x.1.2.2.1 x.1.2.2.2.1 x.1.2.2.2.2.1.1 x.1.2.2.2.2.1.2.1 x.1.2.2.2.2.1.2.2.1 x.2.1 x.2.2.1 x.2.2.2.2.2.2.1 x.2.2.2.2.2.2.2.2.1 x.2.2.2.2.2.2.2.2.2.2.1 x.2.2.2.2.2.2.2.2.2.2.2.1) (fun z => (((), (z.1, z.2.1, z.2.2.1, ()), z.2.2.2.1, z.2.2.2.2.1, ()), (z.2.2.2.2.2.1, z.2.2.2.2.2.2.1, (), (), (), (), z.2.2.2.2.2.2.2.1, z.2.2.2.2.2.2.2.2, ()))) (fun y => (y.1.2.1.1, y.1.2.1.2.1, y.1.2.1.2.2.1, y.1.2.2.1, y.1.2.2.2.1, y.2.1, y.2.2.1, y.2.2.2.2.2.2.2.1, y.2.2.2.2.2.2.2.2.1)) (fun _ => rfl)
noncomputable def Z3c : Nat → Int → Int → List (Int × Int) → List (List Int) → List (Int × Int × Int) → List Int → List (Int × Int × Int) → Int → Int → Option (List (List Int))
 | 0, _, _, _, _, _, _, _, _, _ => none
 | k + 1, b1_0, b1_1, b1_2, o2, o3, v1, v2, v17, v18 =>
  if decide (v18 < v17) = true then if (0 : Int) ≤ v18 then if v18 < (↑(List.length o3) : Int) then Option.bind (Z1d k b1_0 b1_1 b1_2 o2 o3 (Prod.fst (List.getD o3 (Int.toNat v18) ((0 : Int), (0 : Int), (0 : Int)))) (Prod.fst (Prod.snd (List.getD o3 (Int.toNat v18) ((0 : Int), (0 : Int), (0 : Int))))) (Prod.snd (Prod.snd (List.getD o3 (Int.toNat v18) ((0 : Int), (0 : Int), (0 : Int))))) v1 v2 v18 (wrap64 (v18 + (1 : Int))) v17 v18) fun z3 => Z3c k z3.1 z3.2.1 z3.2.2.1 z3.2.2.2.1 z3.2.2.2.2.1 z3.2.2.2.2.2.1 z3.2.2.2.2.2.2.1 z3.2.2.2.2.2.2.2.1 (wrap64 (Prod.snd z3.2.2.2.2.2.2.2 + (1 : Int))) else none else none else some o2
noncomputable def ZaQ : Spec := Spec.mk [OSh.ro, OSh.box (53 : Nat) [Sh.int .i64, Sh.int .i64, Sh.snap (0 : Nat) (Ty.pair (Ty.int .i64) (Ty.int .i64))], OSh.row true (34 : Nat) (Ty.slice (3 : Nat) (Ty.int .i64)), OSh.row true (77 : Nat) (Ty.pair (Ty.int .i64) (Ty.pair (Ty.int .i64) (Ty.int .i64)))] [((1 : Nat), TSh.at (Sh.snap (0 : Nat) (Ty.int .i64))), ((2 : Nat), TSh.at (Sh.snap (0 : Nat) (Ty.pair (Ty.int .i64) (Ty.pair (Ty.int .i64) (Ty.int .i64))))), ((3 : Nat), TSh.at (Sh.ptr (1 : Nat) (0 : Nat))), ((7 : Nat), TSh.at (Sh.sl (2 : Nat))), ((8 : Nat), TSh.at (Sh.sl (3 : Nat))), ((16 : Nat), TSh.at (Sh.sl (3 : Nat))), ((17 : Nat), TSh.at (Sh.int .i64)), ((18 : Nat), TSh.at (Sh.int .i64))]
noncomputable def Zox : Spec := Spec.mk [OSh.ro, OSh.row true (34 : Nat) (Ty.slice (3 : Nat) (Ty.int .i64))] [((7 : Nat), TSh.at (Sh.sl (1 : Nat)))]
noncomputable def Z3Q : LoopDef (Tup Z4b × OutD) := .plain ZaQ Zox (List (List Int)) (fun k x => Z3c k x.1.2.1.1 x.1.2.1.2.1 x.1.2.1.2.2.1 x.1.2.2.1 x.1.2.2.2.1 x.2.1 x.2.2.1 x.2.2.2.2.2.2.2.1 x.2.2.2.2.2.2.2.2.1) (fun z => (((), z, ()), ((), ()))) (fun y => (y.1.2.1)) (fun _ => rfl)
noncomputable def Z7G : Nat → Int × Int × List (Int × Int) → List Int → List (Int × Int × Int) → Option (List (List Int))
 | 0, _, _, _ => none
 | k + 1, p0, p1, p2 =>
  Option.bind (Z3w k (Prod.fst p0, Prod.fst p0.2, Prod.snd p0.2)) fun z0 => Option.bind (Z3c k p0.1 p0.2.1 p0.2.2 [] z0 p1 p2 (↑(List.length z0) : Int) (0 : Int)) fun z4 => some z4
noncomputable def Z2g : FnDef := .of Zi2 Z4b (List (List Int)) (fun k x => Z7G k x.1 x.2.1 x.2.2.1) Zhv ZgY Znu
noncomputable def Z7C : Code := Try.f141.body.getD .skip
noncomputable def Z1N : Ctx (Tup Z4b × OutD) := { T := T, G := [(147, Z13.E), (143, Z17.E)], mvs := [], no := 0, n := 64, res := resOf T Zi2 Z4b Try.f141.results.toList, loops := [(2, Z3V.E), (0, Z3Q.E)], regs := [], conds := [] }
theorem Zd7 (k : Nat) : EnvOK Try.prog k Z1N.G := (EnvOK.cons (Zau k) (EnvOK.cons (Z8H k) (EnvOK.nil mixed)))
noncomputable def Z7M : Code := (findLoop 2 Z7C).getD .skip
theorem Zow (k : Nat) (x : Zbj.D) : Z3V.lp (k + 1) x = loopK Z1N Z3V 2 Z7M k x := by kernel_rfl
theorem Zp4 (k : Nat) : LOK Try.prog Z1N k Z7M := LOK.by [] (by kernel_rfl) AllOK.nil
theorem ZnZ (x : Zbj.D) : Z3V.lp 0 x = none := by kernel_rfl
theorem Zn6 (k : Nat) : EOK Try.prog Z1N k Z3V.E (.block 2 (.loop Z7M)) := Zp T_ok Zd7 ZnZ Zow Zp4 k
noncomputable def Z81 : Code := (findLoop 0 Z7C).getD .skip
theorem Zo3 (k : Nat) (x : ZaQ.D) : Z3Q.lp (k + 1) x = loopK Z1N Z3Q 0 Z81 k x := by kernel_rfl
theorem ZoP (k : Nat) : LOK Try.prog Z1N k Z81 := LOK.by [(Z3V.E, .block 2 (.loop Z7M))] (by kernel_rfl) (AllOK.cons (Zn6 k) AllOK.nil)
theorem ZoC (x : ZaQ.D) : Z3Q.lp 0 x = none := by kernel_rfl
theorem ZnC (k : Nat) : EOK Try.prog Z1N k Z3Q.E (.block 0 (.loop Z81)) := Zp T_ok Zd7 ZoC Zo3 ZoP k
theorem ZtR (k : Nat) (x : Tup Z2g.ps) : Z2g.f (k + 1) x = fnK Z2g Z1N Z7C k x := by kernel_rfl
theorem Zu5 (x : Tup Z2g.ps) : Z2g.f 0 x = none := by kernel_rfl
theorem ZuM (k : Nat) : LOK Try.prog Z1N k Z7C := LOK.by [(Z3Q.E, .block 0 (.loop Z81))] (by kernel_rfl) (AllOK.cons (ZnC k) AllOK.nil)
theorem Zij (k : Nat) : SoundAt Try.prog k 141 Z2g.E := @Ze Try.prog Z2g Z1N 141 Try.f141 Z7C (by kernel_rfl) (by kernel_rfl) (by kernel_rfl) Try.func141 (by kernel_rfl) (by kernel_rfl) (by kernel_rfl) T_ok Zd7 ZuM Zu5 ZtR k
noncomputable def Z67 : List PK := [PK.mk (Ty.slice (34 : Nat) (Ty.slice (3 : Nat) (Ty.int .i64))) false none false none]
noncomputable def Zmp : List PK := [PK.mk (Ty.pair (Ty.int .i64) (Ty.pair (Ty.int .i64) (Ty.slice (79 : Nat) (Ty.pair (Ty.int .i64) (Ty.int .i64))))) true none false none, PK.mk (Ty.slice (3 : Nat) (Ty.int .i64)) false none false none, PK.mk (Ty.slice (63 : Nat) (Ty.pair (Ty.int .i64) (Ty.pair (Ty.int .i64) (Ty.int .i64)))) false none false none]
noncomputable def Zl3 (r : List (List Int)) : Tup Z67 × OutD := ((r, ()), none)
noncomputable def ZkR : Tup Z67 × OutD → Option (List (List Int))
 | (a, none) => some (a.1)
 | _ => none
theorem Zti : ∀ b r, ZkR b = some r → Zl3 r = b := by
 rintro ⟨a, o⟩ r h
 cases o with
 | none => injection h with h; subst h; rfl
 | some _ => cases h
noncomputable def Z24 : Nat → Int → Int → List (Int × Int) → List (Int × Int × Int) → List (List Int) → Int → Int → Int → List Int → List (Int × Int × Int) → Int → Int → Int → Int → Option (Int × Int × List (Int × Int) × List (Int × Int × Int) × List (List Int) × List Int × List (Int × Int × Int) × Int × Int)
 | 0, _, _, _, _, _, _, _, _, _, _, _, _, _, _ => none
 | k + 1, b1_0, b1_1, b1_2, o2, o3, b4_0, b4_1, b4_2, v1, v2, v9, v11, v16, v17 =>
  if decide (v11 < (↑(List.length o2) : Int)) = true then if (0 : Int) ≤ v11 then if v11 < (↑(List.length o2) : Int) then if decide (b4_1 ≠ Prod.fst (Prod.snd (List.getD o2 (Int.toNat v11) ((0 : Int), (0 : Int), (0 : Int))))) = true then Option.bind (Z34 k (b1_0, b1_1, b1_2) [(b4_0, b4_1, b4_2), (Prod.fst (List.getD o2 (Int.toNat v11) ((0 : Int), (0 : Int), (0 : Int))), Prod.fst (Prod.snd (List.getD o2 (Int.toNat v11) ((0 : Int), (0 : Int), (0 : Int)))), Prod.snd (Prod.snd (List.getD o2 (Int.toNat v11) ((0 : Int), (0 : Int), (0 : Int)))))] v1 v2) fun z1 => if z1 = true then if List.length o3 + List.length [[v9, v11]] ≤ (140737488355328 / 24 : Nat) then Z24 k b1_0 b1_1 b1_2 o2 (o3 ++ [[v9, v11]]) b4_0 b4_1 b4_2 v1 v2 v9 (wrap64 (v11 + (1 : Int))) v16 v17 else none else Z24 k b1_0 b1_1 b1_2 o2 o3 b4_0 b4_1 b4_2 v1 v2 v9 (wrap64 (v11 + (1 : Int))) v16 v17 else if decide (b4_2 ≠ Prod.snd (Prod.snd (List.getD o2 (Int.toNat v11) ((0 : Int), (0 : Int), (0 : Int))))) = true then Option.bind (Z34 k (b1_0, b1_1, b1_2) [(b4_0, b4_1, b4_2), (Prod.fst (List.getD o2 (Int.toNat v11) ((0 : Int), (0 : Int), (0 : Int))), Prod.fst (Prod.snd (List.getD o2 (Int.toNat v11) ((0 : Int), (0 : Int), (0 : Int)))), Prod.snd (Prod.snd (List.getD o2 (Int.toNat v11) ((0 : Int), (0 : Int), (0 : Int)))))] v1 v2) fun z2 => if z2 = true then if List.length o3 + List.length [[v9, v11]] ≤ (140737488355328 / 24 : Nat) then Z24 k b1_0 b1_1 b1_2 o2 (o3 ++ [[v9, v11]]) b4_0 b4_1 b4_2 v1 v2 v9 (wrap64 (v11 + (1 : Int))) v16 v17 else none else Z24 k b1_0 b1_1 b1_2 o2 o3 b4_0 b4_1 b4_2 v1 v2 v9 (wrap64 (v11 + (1 : Int))) v16 v17 else Z24 k b1_0 b1_1 b1_2 o2 o3 b4_0 b4_1 b4_2 v1 v2 v9 (wrap64 (v11 + (1 : Int))) v16 v17 else none else none else some (b1_0, b1_1, b1_2, o2, o3, v1, v2, v16, v17)
noncomputable def Zdt : Spec := Spec.mk [OSh.ro, OSh.box (53 : Nat) [Sh.int .i64, Sh.int .i64, Sh.snap (0 : Nat) (Ty.pair (Ty.int .i64) (Ty.int .i64))], OSh.row true (77 : Nat) (Ty.pair (Ty.int .i64) (Ty.pair (Ty.int .i64) (Ty.int .i64))), OSh.row true (34 : Nat) (Ty.slice (3 : Nat) (Ty.int .i64)), OSh.box (77 : Nat) [Sh.int .i64, Sh.int .i64, Sh.int .i64]] [((1 : Nat), TSh.at (Sh.snap (0 : Nat) (Ty.int .i64))), ((2 : Nat), TSh.at (Sh.snap (0 : Nat) (Ty.pair (Ty.int .i64) (Ty.pair (Ty.int .i64) (Ty.int .i64))))), ((3 : Nat), TSh.at (Sh.ptr (1 : Nat) (0 : Nat))), ((7 : Nat), TSh.at (Sh.sl (2 : Nat))), ((8 : Nat), TSh.at (Sh.sl (3 : Nat))), ((9 : Nat), TSh.at (Sh.int .i64)), ((10 : Nat), TSh.at (Sh.ptr (4 : Nat) (0 : Nat))), ((11 : Nat), TSh.at (Sh.int .i64)), ((15 : Nat), TSh.at (Sh.sl (2 : Nat))), ((16 : Nat), TSh.at (Sh.int .i64)), ((17 : Nat), TSh.at (Sh.int .i64))]
noncomputable def ZuK : Spec := Spec.mk [OSh.ro, OSh.box (53 : Nat) [Sh.int .i64, Sh.int .i64, Sh.snap (0 : Nat) (Ty.pair (Ty.int .i64) (Ty.int .i64))], OSh.row true (77 : Nat) (Ty.pair (Ty.int .i64) (Ty.pair (Ty.int .i64) (Ty.int .i64))), OSh.row true (34 : Nat) (Ty.slice (3 : Nat) (Ty.int .i64))] [((1 : Nat), TSh.at (Sh.snap (0 : Nat) (Ty.int .i64))), ((2 : Nat), TSh.at (Sh.snap (0 : Nat) (Ty.pair (Ty.int .i64) (Ty.pair (Ty.int .i64) (Ty.int .i64))))), ((3 : Nat), TSh.at (Sh.ptr (1 : Nat) (0 : Nat))), ((7 : Nat), TSh.at (Sh.sl (2 : Nat))), ((8 : Nat), TSh.at (Sh.sl (3 : Nat))), ((15 : Nat), TSh.at (Sh.sl (2 : Nat))), ((16 : Nat), TSh.at (Sh.int .i64)), ((17 : Nat), TSh.at (Sh.int .i64))]
noncomputable def Z5w : LoopDef (Tup Z67 × OutD) := .plain Zdt ZuK (Int × Int × List (Int × Int) × List (Int × Int × Int) × List (List Int) × List Int × List (Int × Int × Int) × Int × Int) (fun k x => Z24 k x.1.2.1.1 x.1.2.1.2.1 x.1.2.1.2.2.1 x.1.2.2.1 x.1.2.2.2.1 x.1.2.2.2.2.1.1 x.1.2.2.2.2.1.2.1 x.1.2.2.2.2.1.2.2.1 x.2.1 x.2.2.1 x.2.2.2.2.2.2.1 x.2.2.2.2.2.2.2.2.1 x.2.2.2.2.2.2.2.2.2.2.1 x.2.2.2.2.2.2.2.2.2.2.2.1) (fun z => (((), (z.1, z.2.1, z.2.2.1, ()), z.2.2.2.1, z.2.2.2.2.1, ()), (z.2.2.2.2.2.1, z.2.2.2.2.2.2.1, (), (), (), (), z.2.2.2.2.2.2.2.1, z.2.2.2.2.2.2.2.2, ()))) (fun y => (y.1.2.1.1, y.1.2.1.2.1, y.1.2.1.2.2.1, y.1.2.2.1, y.1.2.2.2.1, y.2.1, y.2.2.1, y.2.2.2.2.2.2.2.1, y.2.2.2.2.2.2.2.2.1)) (fun _ => rfl)
noncomputable def Z4C : Nat → Int → Int → List (Int × Int) → List (Int × Int × Int) → List (List Int) → List Int → List (Int × Int × Int) → Int → Int → Option (List (List Int))
 | 0, _, _, _, _, _, _, _, _, _ => none
 | k + 1, b1_0, b1_1, b1_2, o2, o3, v1, v2, v16, v17 =>
  if decide (v17 < v16) = true then if (0 : Int) ≤ v17 then if v17 < (↑(List.length o2) : Int) then Option.bind (Z24 k b1_0 b1_1 b1_2 o2 o3 (Prod.fst (List.getD o2 (Int.toNat v17) ((0 : Int), (0 : Int), (0 : Int)))) (Prod.fst (Prod.snd (List.getD o2 (Int.toNat v17) ((0 : Int), (0 : Int), (0 : Int))))) (Prod.snd (Prod.snd (List.getD o2 (Int.toNat v17) ((0 : Int), (0 : Int), (0 : Int))))) v1 v2 v17 (wrap64 (v17 + (1 : Int))) v16 v17) fun z3 => Z4C k z3.1 z3.2.1 z3.2.2.1 z3.2.2.2.1 z3.2.2.2.2.1 z3.2.2.2.2.2.1 z3.2.2.2.2.2.2.1 z3.2.2.2.2.2.2.2.1 (wrap64 (Prod.snd z3.2.2.2.2.2.2.2 + (1 : Int))) else none else none else some o3
noncomputable def Zdr : Spec := Spec.mk [OSh.ro, OSh.box (53 : Nat) [Sh.int .i64, Sh.int .i64, Sh.snap (0 : Nat) (Ty.pair (Ty.int .i64) (Ty.int .i64))], OSh.row true (77 : Nat) (Ty.pair (Ty.int .i64) (Ty.pair (Ty.int .i64) (Ty.int .i64))), OSh.row true (34 : Nat) (Ty.slice (3 : Nat) (Ty.int .i64))] [((1 : Nat), TSh.at (Sh.snap (0 : Nat) (Ty.int .i64))), ((2 : Nat), TSh.at (Sh.snap (0 : Nat) (Ty.pair (Ty.int .i64) (Ty.pair (Ty.int .i64) (Ty.int .i64))))), ((3 : Nat), TSh.at (Sh.ptr (1 : Nat) (0 : Nat))), ((7 : Nat), TSh.at (Sh.sl (2 : Nat))), ((8 : Nat), TSh.at (Sh.sl (3 : Nat))), ((15 : Nat), TSh.at (Sh.sl (2 : Nat))), ((16 : Nat), TSh.at (Sh.int .i64)), ((17 : Nat), TSh.at (Sh.int .i64))]
noncomputable def Zum : Spec := Spec.mk [OSh.ro, OSh.row true (34 : Nat) (Ty.slice (3 : Nat) (Ty.int .i64))] [((8 : Nat), TSh.at (Sh.sl (1 : Nat)))]
noncomputable def Z5v : LoopDef (Tup Z67 × OutD) := .plain Zdr Zum (List (List Int)) (fun k x => Z4C k x.1.2.1.1 x.1.2.1.2.1 x.1.2.1.2.2.1 x.1.2.2.1 x.1.2.2.2.1 x.2.1 x.2.2.1 x.2.2.2.2.2.2.2.1 x.2.2.2.2.2.2.2.2.1) (fun z => (((), z, ()), ((), ()))) (fun y => (y.1.2.1)) (fun _ => rfl)
noncomputable def Zar : Nat → Int × Int × List (Int × Int) → List Int → List (Int × Int × Int) → Option (List (List Int))
 | 0, _, _, _ => none
 | k + 1, p0, p1, p2 =>
  Option.bind (Z30 k (Prod.fst p0, Prod.fst p0.2, Prod.snd p0.2)) fun z0 => Option.bind (Z4C k p0.1 p0.2.1 p0.2.2 z0 [] p1 p2 (↑(List.length z0) : Int) (0 : Int)) fun z4 => some z4
noncomputable def Z3N : FnDef := .of Zmp Z67 (List (List Int)) (fun k x => Zar k x.1 x.2.1 x.2.2.1) Zl3 ZkR Zti
noncomputable def Zap : Code := Try.f142.body.getD .skip
noncomputable def Z2N : Ctx (Tup Z67 × OutD) := { T := T, G := [(148, Z1a.E), (144, Z1i.E)], mvs := [], no := 0, n := 63, res := resOf T Zmp Z67 Try.f142.results.toList, loops := [(2, Z5w.E), (0, Z5v.E)], regs := [], conds := [] }
theorem ZgF (k : Nat) : EnvOK Try.prog k Z2N.G := (EnvOK.cons (Z7B k) (EnvOK.cons (Zaa k) (EnvOK.nil mixed)))
noncomputable def Zae : Code := (findLoop 2 Zap).getD .skip
theorem ZuR (k : Nat) (x : Zdt.D) : Z5w.lp (k + 1) x = loopK Z2N Z5w 2 Zae k x := by kernel_rfl
theorem ZtF (k : Nat) : LOK Try.prog Z2N k Zae := LOK.by [] (by kernel_rfl) AllOK.nil
theorem ZtE (x : Zdt.D) : Z5w.lp 0 x = none := by kernel_rfl
theorem ZsO (k : Nat) : EOK Try.prog Z2N k Z5w.E (.block 2 (.loop Zae)) := Zp T_ok ZgF ZtE ZuR ZtF k
noncomputable def Za5 : Code := (findLoop 0 Zap).getD .skip
theorem ZuC (k : Nat) (x : Zdr.D) : Z5v.lp (k + 1) x = loopK Z2N Z5v 0 Za5 k x := by kernel_rfl
theorem ZtI (k : Nat) : LOK Try.prog Z2N k Za5 := LOK.by [(Z5w.E, .block 2 (.loop Zae))] (by kernel_rfl) (AllOK.cons (ZsO k) AllOK.nil)
theorem ZuB (x : Zdr.D) : Z5v.lp 0 x = none := by kernel_rfl
theorem ZrK (k : Nat) : EOK Try.prog Z2N k Z5v.E (.block 0 (.loop Za5)) := Zp T_ok ZgF ZuB ZuC ZtI k
theorem Zzh (k : Nat) (x : Tup Z3N.ps) : Z3N.f (k + 1) x = fnK Z3N Z2N Zap k x := by kernel_rfl
theorem Zz5 (x : Tup Z3N.ps) : Z3N.f 0 x = none := by kernel_rfl
theorem ZyZ (k : Nat) : LOK Try.prog Z2N k Zap := LOK.by [(Z5v.E, .block 0 (.loop Za5))] (by kernel_rfl) (AllOK.cons (ZrK k) AllOK.nil)
theorem ZmX (k : Nat) : SoundAt Try.prog k 142 Z3N.E := @Ze Try.prog Z3N Z2N 142 Try.f142 Zap (by kernel_rfl) (by kernel_rfl) (by kernel_rfl) Try.func142 (by kernel_rfl) (by kernel_rfl) (by kernel_rfl) T_ok ZgF ZyZ Zz5 Zzh k
noncomputable def Z3o : List PK := [PK.mk (Ty.pair (Ty.int .i64) (Ty.pair (Ty.int .i64) (Ty.slice (79 : Nat) (Ty.pair (Ty.int .i64) (Ty.int .i64))))) true none false none]
noncomputable def Zes : List PK := [PK.mk (Ty.pair (Ty.slice (5 : Nat) (Ty.int .u8)) (Ty.pair (Ty.int .i64) (Ty.int .u64))) false none false (some (114 : Nat))]
noncomputable def Zdw (r : (Int × Int × List (Int × Int)) × Int × Int) : Tup Z3o × OutD := ((r.1, ()), some ⟨Ty.pair (Ty.slice (5 : Nat) (Ty.int .u8)) (Ty.pair (Ty.int .i64) (Ty.int .u64)), [([], r.2)]⟩)
noncomputable def Z9W : Tup Z3o × OutD → Option ((Int × Int × List (Int × Int)) × Int × Int)
 | (a, some ⟨u, ys⟩) => if h : u = Ty.pair (Ty.slice (5 : Nat) (Ty.int .u8)) (Ty.pair (Ty.int .i64) (Ty.int .u64)) then (match castU h ys with
  | [([], y)] => some (a.1, y)
  | _ => none) else none
 | _ => none
theorem ZiA : ∀ b r, Z9W b = some r → Zdw r = b := by
 rintro ⟨a, o⟩ r h
 cases o with
 | none => cases h
 | some s =>
  obtain ⟨u, ys⟩ := s
  simp only [Z9W] at h
  split at h
  ·rename_i hu
   subst hu
   match ys, h with
   | [], h => cases (show (none : Option _) = some r from h)
   | [([], y)], h => injection (show some _ = some r from h) with h; subst h; rfl
   | [(_ :: _, y)], h => cases (show (none : Option _) = some r from h)
   | (h1, _) :: _ :: _, h => cases h1 <;> cases (show (none : Option _) = some r from h)
  ·cases h
noncomputable def Z1u : Nat → Int → Int → List Int → Int → Int → List (Int × Int) → Int → Int → List (Int × Int) → Option (Int × Int × List Int × Int × Int × List (Int × Int) × Int × Int × List (Int × Int)) := fun k b1_1 b1_2 o2 b3_0 b3_1 o4 b5_0 b5_1 o6 =>
    Option.bind (Z2 k (o2, b1_1, b1_2) (↑(List.length o6) : Int)) fun z4 => Option.bind (Z1p k (o2, Prod.fst z4.2, Prod.snd z4.2)) fun z5 => if (0 : Int) ≤ Prod.fst z4 then if Prod.fst z4 < (↑(List.length o6) : Int) then some (Prod.fst z5.2, Prod.snd z5.2, o2, b3_0, b3_1, o4, b5_0, b5_1, List.set o6 (Int.toNat z4.1) (Prod.fst z5.1, Prod.snd z5.1)) else none else none
noncomputable def Z54 : Nat → Int → Int → List Int → Int → Int → List (Int × Int) → Int → Int → List (Int × Int) → Option (List (Int × Int × List Int × Int × Int × List (Int × Int) × Int × Int × List (Int × Int))) := fun k b1_1 b1_2 o2 b3_0 b3_1 o4 b5_0 b5_1 o6 =>
    joinL (Option.bind (Z2 k (o2, b1_1, b1_2) (↑(List.length o6) : Int)) fun z6 => Option.bind (Z1p k (o2, Prod.fst z6.2, Prod.snd z6.2)) fun z7 => if (0 : Int) ≤ Prod.fst z6 then if Prod.fst z6 < (↑(List.length o6) : Int) then some [(Prod.fst z7.2, Prod.snd z7.2, o2, b3_0, b3_1, o4, b5_0, b5_1, List.set o6 (Int.toNat z6.1) (Prod.fst z7.1, Prod.snd z7.1))] else none else none) (Option.bind (Z2 k (o2, b1_1, b1_2) (↑(List.length o6) : Int)) fun z8 => joinL (Option.bind (Z1p k (o2, Prod.fst z8.2, Prod.snd z8.2)) fun z9 => if (0 : Int) ≤ Prod.fst z8 then if Prod.fst z8 < (↑(List.length o6) : Int) then some [(Prod.fst z9.2, Prod.snd z9.2, o2, b3_0, b3_1, o4, b5_0, b5_1, List.set o6 (Int.toNat z8.1) (Prod.fst z9.1, Prod.snd z9.1))] else none else none) (Option.bind (Z1p k (o2, Prod.fst z8.2, Prod.snd z8.2)) fun z10 => if (0 : Int) ≤ Prod.fst z8 then if Prod.fst z8 < (↑(List.length o6) : Int) then some [(Prod.fst z10.2, Prod.snd z10.2, o2, b3_0, b3_1, o4, b5_0, b5_1, List.set o6 (Int.toNat z8.1) (Prod.fst z10.1, Prod.snd z10.1))] else none else none))
noncomputable def Zc5 : Spec := Spec.mk [OSh.ro, OSh.box (114 : Nat) [Sh.sl (2 : Nat), Sh.int .i64, Sh.int .u64], OSh.fx (Ty.int .u8), OSh.box (53 : Nat) [Sh.int .i64, Sh.int .i64, Sh.sl (4 : Nat)], OSh.row true (79 : Nat) (Ty.pair (Ty.int .i64) (Ty.int .i64)), OSh.box (53 : Nat) [Sh.int .i64, Sh.int .i64, Sh.sl (6 : Nat)], OSh.row true (79 : Nat) (Ty.pair (Ty.int .i64) (Ty.int .i64))] [((0 : Nat), TSh.at (Sh.ptr (1 : Nat) (0 : Nat))), ((2 : Nat), TSh.at (Sh.ptr (3 : Nat) (0 : Nat))), ((3 : Nat), TSh.at (Sh.ptr (5 : Nat) (0 : Nat)))]
noncomputable def Zix : Spec := Spec.mk [OSh.ro, OSh.box (114 : Nat) [Sh.sl (2 : Nat), Sh.int .i64, Sh.int .u64], OSh.fx (Ty.int .u8), OSh.box (53 : Nat) [Sh.int .i64, Sh.int .i64, Sh.sl (4 : Nat)], OSh.row true (79 : Nat) (Ty.pair (Ty.int .i64) (Ty.int .i64)), OSh.box (53 : Nat) [Sh.int .i64, Sh.int .i64, Sh.sl (6 : Nat)], OSh.row true (79 : Nat) (Ty.pair (Ty.int .i64) (Ty.int .i64))] [((2 : Nat), TSh.at (Sh.ptr (3 : Nat) (0 : Nat))), ((3 : Nat), TSh.at (Sh.ptr (5 : Nat) (0 : Nat)))]
noncomputable def Z25 : LoopDef (Tup Z3o × OutD) := .plain Zc5 Zix (Int × Int × List Int × Int × Int × List (Int × Int) × Int × Int × List (Int × Int)) (fun k x => Z1u k x.1.2.1.2.1 x.1.2.1.2.2.1 x.1.2.2.1 x.1.2.2.2.1.1 x.1.2.2.2.1.2.1 x.1.2.2.2.2.1 x.1.2.2.2.2.2.1.1 x.1.2.2.2.2.2.1.2.1 x.1.2.2.2.2.2.2.1) (fun z => (((), ((), z.1, z.2.1, ()), z.2.2.1, (z.2.2.2.1, z.2.2.2.2.1, (), ()), z.2.2.2.2.2.1, (z.2.2.2.2.2.2.1, z.2.2.2.2.2.2.2.1, (), ()), z.2.2.2.2.2.2.2.2, ()), ((), (), ()))) (fun y => (y.1.2.1.2.1, y.1.2.1.2.2.1, y.1.2.2.1, y.1.2.2.2.1.1, y.1.2.2.2.1.2.1, y.1.2.2.2.2.1, y.1.2.2.2.2.2.1.1, y.1.2.2.2.2.2.1.2.1, y.1.2.2.2.2.2.2.1)) (fun _ => rfl)
theorem ZiL (k : Nat) (b1_1 : Int) (b1_2 : Int) (o2 : List Int) (b3_0 : Int) (b3_1 : Int) (o4 : List (Int × Int)) (b5_0 : Int) (b5_1 : Int) (o6 : List (Int × Int)) : Z54 k b1_1 b1_2 o2 b3_0 b3_1 o4 b5_0 b5_1 o6 = repl 3 (Z1u k b1_1 b1_2 o2 b3_0 b3_1 o4 b5_0 b5_1 o6) := by
 first
 | (simp only [Z54, Z1u, Zc, Zf, Za, Z9, Zb, Z8, if_true]; done)
 | (simp only [Z54, Z1u, Zc, Zf, Za, Z9, Zb, Z8, if_true]; simp only [Z4r, Z4y, Z7x, Z8]; simp only [Z9e]; exact Z5I ⟨fun h => by simp only [h, and_self], fun h => by simp only [h, and_self]⟩)
noncomputable def ZP : Nat → List Int × Int × Int → Option ((Int × Int × List (Int × Int)) × Int × Int)
 | 0, _ => none
 | k + 1, p0 =>
  Option.bind (Z6T k (Prod.fst p0, Prod.fst p0.2, Prod.snd p0.2)) fun z0 => Option.bind (Z2 k (Prod.fst p0, Prod.fst z0.2, Prod.snd z0.2) (36 : Int)) fun z1 => if decide (Prod.fst z1 = (0 : Int)) = true then Option.bind (Zg k (Prod.fst p0, Prod.fst z1.2, Prod.snd z1.2) [(0 : Int), wrap64 (Prod.fst z0.1 + (1 : Int)), (10 : Int), (11 : Int)]) fun z2 => some ((Prod.fst z2, Prod.fst z0.1.2, Prod.snd z0.1.2), Prod.fst z2.2, Prod.snd z2.2) else if decide (Prod.fst z1 = (1 : Int)) = true then Option.bind (Zg k (Prod.fst p0, Prod.fst z1.2, Prod.snd z1.2) [(0 : Int), wrap64 (Prod.fst z0.1.2 + (1 : Int)), (9 : Int), (10 : Int)]) fun z3 => some ((Prod.fst z0.1, Prod.fst z3, Prod.snd z0.1.2), Prod.fst z3.2, Prod.snd z3.2) else if decide (Prod.fst z1 = (2 : Int)) = true then Option.bind (Z1u k z1.2.1 z1.2.2 p0.1 (0 : Int) (0 : Int) [] z0.1.1 z0.1.2.1 z0.1.2.2) fun z11 => some ((Prod.fst z11.2.2.2.2.2.2, Prod.fst z11.2.2.2.2.2.2.2, Prod.snd z11.2.2.2.2.2.2.2), Prod.fst z11, Prod.fst z11.2) else if decide (Prod.fst z1 = (3 : Int)) = true then if (1 : Int) ≤ (↑(List.length z0.1.2.2) : Int) then if (↑(List.length z0.1.2.2) : Int) ≤ (↑(List.length z0.1.2.2) : Int) then some ((Prod.fst z0.1, Prod.fst z0.1.2, List.drop (Int.toNat (1 : Int)) z0.1.2.2), Prod.fst z1.2, Prod.snd z1.2) else none else none else if decide (Prod.fst z1 = (4 : Int)) = true then some (((11 : Int), (2 : Int), List.replicate (Int.toNat (22 : Int)) ((0 : Int), (0 : Int))), Prod.fst z1.2, Prod.snd z1.2) else if decide (Prod.fst z1 = (5 : Int)) = true then some (((2 : Int), (10 : Int), List.replicate (Int.toNat (20 : Int)) ((0 : Int), (0 : Int))), Prod.fst z1.2, Prod.snd z1.2) else some ((Prod.fst z0.1, Prod.fst z0.1.2, Prod.snd z0.1.2), Prod.fst z1.2, Prod.snd z1.2)
noncomputable def Z1L : FnDef := .of Zes Z3o ((Int × Int × List (Int × Int)) × Int × Int) (fun k x => ZP k x.1) Zdw Z9W ZiA
noncomputable def Z7c : Code := Try.f177.body.getD .skip
noncomputable def Z15 : Ctx (Tup Z3o × OutD) := { T := T, G := [(202, Z2u.E), (111, ZJ.E), (90, Z11.E), (203, Z1X.E)], mvs := [42], no := 2, n := 53, res := resOf T Zes Z3o Try.f177.results.toList, loops := [], regs := [(8, Z25.E)], conds := [] }
theorem ZeC (k : Nat) : EnvOK Try.prog k Z15.G := (EnvOK.cons (Zrv k) (EnvOK.cons (Z2Y k) (EnvOK.cons (Z6M k) (EnvOK.cons (ZoB k) (EnvOK.nil mixed)))))
noncomputable def Z7Q : Array Oper := (findReg 8 Z7c).getD #[]
theorem ZiE (k : Nat) (x : Zc5.D) : execD Z15.T Z15.G Z15.mvs k Z7Q (Z25.inp.st Z15.n x) (outK Z15 Z25) = Z54 k x.1.2.1.2.1 x.1.2.1.2.2.1 x.1.2.2.1 x.1.2.2.2.1.1 x.1.2.2.2.1.2.1 x.1.2.2.2.2.1 x.1.2.2.2.2.2.1.1 x.1.2.2.2.2.2.1.2.1 x.1.2.2.2.2.2.2.1 := by kernel_rfl
theorem ZhL (k : Nat) : EOK Try.prog Z15 k Z25.E (.region 8 Z7Q true) := Zan (D := Z25) (m := 3) T_ok (ZeC k) (fun x => (ZiE k x).trans (ZiL k x.1.2.1.2.1 x.1.2.1.2.2.1 x.1.2.2.1 x.1.2.2.2.1.1 x.1.2.2.2.1.2.1 x.1.2.2.2.2.1 x.1.2.2.2.2.2.1.1 x.1.2.2.2.2.2.1.2.1 x.1.2.2.2.2.2.2.1))
theorem Zms (k : Nat) (x : Tup Z1L.ps) : Z1L.f (k + 1) x = fnK Z1L Z15 Z7c k x := by kernel_rfl
theorem ZmC (x : Tup Z1L.ps) : Z1L.f 0 x = none := by kernel_rfl
theorem ZmS (k : Nat) : LOK Try.prog Z15 k Z7c := LOK.by [(Z25.E, .region 8 Z7Q true)] (by kernel_rfl) (AllOK.cons (ZhL k) AllOK.nil)
theorem Zn1 (k : Nat) : SoundAt Try.prog k 177 Z1L.E := @Ze Try.prog Z1L Z15 177 Try.f177 Z7c (by kernel_rfl) (by kernel_rfl) (by kernel_rfl) Try.func177 (by kernel_rfl) (by kernel_rfl) (by kernel_rfl) T_ok ZeC ZmS ZmC Zms k
end
end Go.Proofs.Ytgjmhbjdhihgaaa.Vs
