/- The proof, part 8. -/
import Derived.Test.Ytgjmhbjdhihgaaaqhm6
set_option maxRecDepth 100000
set_option maxHeartbeats 2000000
set_option linter.unusedVariables false
set_option linter.unusedSimpArgs false
namespace Go.Proofs.Ytgjmhbjdhihgaaa.Vs
open Go.RowKit
noncomputable section
noncomputable def Z51 : List PK := [PK.mk (Ty.slice (3 : Nat) (Ty.int .i64)) false none false none, PK.mk Ty.bool false none false none]
noncomputable def ZgX : List PK := [PK.mk (Ty.pair (Ty.int .i64) (Ty.pair (Ty.int .i64) (Ty.slice (79 : Nat) (Ty.pair (Ty.int .i64) (Ty.int .i64))))) true none false none, PK.mk (Ty.slice (3 : Nat) (Ty.int .i64)) false none false none, PK.mk (Ty.slice (63 : Nat) (Ty.pair (Ty.int .i64) (Ty.pair (Ty.int .i64) (Ty.int .i64)))) false none false none]
noncomputable def Zga (r : List Int × Bool) : Tup Z51 × OutD := ((r.1, r.2, ()), none)
noncomputable def ZfU : Tup Z51 × OutD → Option (List Int × Bool)
 | (a, none) => some (a.1, a.2.1)
 | _ => none
theorem ZlH : ∀ b r, ZfU b = some r → Zga r = b := by
 rintro ⟨a, o⟩ r h
 cases o with
 | none => injection h with h; subst h; rfl
 | some _ => cases h
noncomputable def Z2G : Nat → List Int → List (Int × Int × Int) → List (Int × Int × Int) → Int → Int → Option (List Int)
 | 0, _, _, _, _, _ => none
 | k + 1, o1, o2, v2, v26, v27 =>
  if decide (v27 < v26) = true then if (0 : Int) ≤ v27 then if v27 < (↑(List.length o2) : Int) then if (0 : Int) ≤ v27 then if v27 < (↑(List.length v2) : Int) then if (!(decide (Prod.fst (List.getD o2 (Int.toNat v27) ((0 : Int), (0 : Int), (0 : Int))) = Prod.fst (List.getD v2 (Int.toNat v27) ((0 : Int), (0 : Int), (0 : Int)))) && (decide (Prod.fst (Prod.snd (List.getD o2 (Int.toNat v27) ((0 : Int), (0 : Int), (0 : Int)))) = Prod.fst (Prod.snd (List.getD v2 (Int.toNat v27) ((0 : Int), (0 : Int), (0 : Int))))) && (decide (Prod.snd (Prod.snd (List.getD o2 (Int.toNat v27) ((0 : Int), (0 : Int), (0 : Int)))) = Prod.snd (Prod.snd (List.getD v2 (Int.toNat v27) ((0 : Int), (0 : Int), (0 : Int))))) && true)))) = true then if List.length o1 + List.length [v27] ≤ (140737488355328 / 8 : Nat) then Z2G k (o1 ++ [v27]) o2 v2 v26 (wrap64 (v27 + (1 : Int))) else none else Z2G k o1 o2 v2 v26 (wrap64 (v27 + (1 : Int))) else none else none else none else none else some o1
noncomputable def Zao : Spec := Spec.mk [OSh.ro, OSh.row true (3 : Nat) (Ty.int .i64), OSh.row true (63 : Nat) (Ty.pair (Ty.int .i64) (Ty.pair (Ty.int .i64) (Ty.int .i64)))] [((2 : Nat), TSh.at (Sh.snap (0 : Nat) (Ty.pair (Ty.int .i64) (Ty.pair (Ty.int .i64) (Ty.int .i64))))), ((8 : Nat), TSh.at (Sh.sl (1 : Nat))), ((25 : Nat), TSh.at (Sh.sl (2 : Nat))), ((26 : Nat), TSh.at (Sh.int .i64)), ((27 : Nat), TSh.at (Sh.int .i64))]
noncomputable def Zne : Spec := Spec.mk [OSh.ro, OSh.row true (3 : Nat) (Ty.int .i64)] [((8 : Nat), TSh.at (Sh.sl (1 : Nat)))]
noncomputable def Z3l : LoopDef (Tup Z51 × OutD) := .plain Zao Zne (List Int) (fun k x => Z2G k x.1.2.1 x.1.2.2.1 x.2.1 x.2.2.2.2.1 x.2.2.2.2.2.1) (fun z => (((), z, ()), ((), ()))) (fun y => (y.1.2.1)) (fun _ => rfl)
noncomputable def Z9D : Nat → Int × Int × List (Int × Int) → List Int → List (Int × Int × Int) → Option (List Int × Bool)
 | 0, _, _, _ => none
 | k + 1, p0, p1, p2 =>
  Option.bind (Z5E k (Prod.fst p0, Prod.fst p0.2, Prod.snd p0.2) p1 p2) fun z0 => if (!z0) = true then some ([], false) else Option.bind (ZcO k (Prod.fst p0, Prod.fst p0.2, Prod.snd p0.2) p1) fun z1 => Option.bind (Z2G k [] z1.1 p2 (↑(List.length z1.1) : Int) (0 : Int)) fun z2 => some (z2, true)
noncomputable def Z2v : FnDef := .of ZgX Z51 (List Int × Bool) (fun k x => Z9D k x.1 x.2.1 x.2.2.1) Zga ZfU ZlH
noncomputable def Z9p : Code := Try.f60.body.getD .skip
noncomputable def Z3E : Ctx (Tup Z51 × OutD) := { T := T, G := [(137, Z2i.E), (145, Z4L.E)], mvs := [], no := 0, n := 44, res := resOf T ZgX Z51 Try.f60.results.toList, loops := [(0, Z3l.E)], regs := [], conds := [] }
theorem Zh7 (k : Nat) : EnvOK Try.prog k Z3E.G := (EnvOK.cons (Zbv k) (EnvOK.cons (Zzr k) (EnvOK.nil mixed)))
noncomputable def Z7d : Code := (findLoop 0 Z9p).getD .skip
theorem ZnS (k : Nat) (x : Zao.D) : Z3l.lp (k + 1) x = loopK Z3E Z3l 0 Z7d k x := by kernel_rfl
theorem Zny (k : Nat) : LOK Try.prog Z3E k Z7d := LOK.by [] (by kernel_rfl) AllOK.nil
theorem ZmY (x : Zao.D) : Z3l.lp 0 x = none := by kernel_rfl
theorem Zlr (k : Nat) : EOK Try.prog Z3E k Z3l.E (.block 0 (.loop Z7d)) := Zp T_ok Zh7 ZmY ZnS Zny k
theorem ZrJ (k : Nat) (x : Tup Z2v.ps) : Z2v.f (k + 1) x = fnK Z2v Z3E Z9p k x := by kernel_rfl
theorem ZrX (x : Tup Z2v.ps) : Z2v.f 0 x = none := by kernel_rfl
theorem Zsx (k : Nat) : LOK Try.prog Z3E k Z9p := LOK.by [(Z3l.E, .block 0 (.loop Z7d))] (by kernel_rfl) (AllOK.cons (Zlr k) AllOK.nil)
theorem Zts (k : Nat) : SoundAt Try.prog k 60 Z2v.E := @Ze Try.prog Z2v Z3E 60 Try.f60 Z9p (by kernel_rfl) (by kernel_rfl) (by kernel_rfl) Try.func60 (by kernel_rfl) (by kernel_rfl) (by kernel_rfl) T_ok Zh7 Zsx ZrX ZrJ k
noncomputable def Z52 : List PK := [PK.mk (Ty.slice (3 : Nat) (Ty.int .i64)) false none false none, PK.mk Ty.bool false none false none]
noncomputable def Zhm : List PK := [PK.mk (Ty.pair (Ty.int .i64) (Ty.pair (Ty.int .i64) (Ty.slice (79 : Nat) (Ty.pair (Ty.int .i64) (Ty.int .i64))))) true none false none, PK.mk (Ty.slice (3 : Nat) (Ty.int .i64)) false none false none, PK.mk (Ty.slice (63 : Nat) (Ty.pair (Ty.int .i64) (Ty.pair (Ty.int .i64) (Ty.int .i64)))) false none false none]
noncomputable def ZfX (r : List Int × Bool) : Tup Z52 × OutD := ((r.1, r.2, ()), none)
noncomputable def Zgi : Tup Z52 × OutD → Option (List Int × Bool)
 | (a, none) => some (a.1, a.2.1)
 | _ => none
theorem ZlL : ∀ b r, Zgi b = some r → ZfX r = b := by
 rintro ⟨a, o⟩ r h
 cases o with
 | none => injection h with h; subst h; rfl
 | some _ => cases h
noncomputable def Z2E : Nat → List Int → List (Int × Int × Int) → List (Int × Int × Int) → Int → Int → Option (List Int)
 | 0, _, _, _, _, _ => none
 | k + 1, o1, o2, v2, v25, v26 =>
  if decide (v26 < v25) = true then if (0 : Int) ≤ v26 then if v26 < (↑(List.length o2) : Int) then if (0 : Int) ≤ v26 then if v26 < (↑(List.length v2) : Int) then if (!(decide (Prod.fst (List.getD o2 (Int.toNat v26) ((0 : Int), (0 : Int), (0 : Int))) = Prod.fst (List.getD v2 (Int.toNat v26) ((0 : Int), (0 : Int), (0 : Int)))) && (decide (Prod.fst (Prod.snd (List.getD o2 (Int.toNat v26) ((0 : Int), (0 : Int), (0 : Int)))) = Prod.fst (Prod.snd (List.getD v2 (Int.toNat v26) ((0 : Int), (0 : Int), (0 : Int))))) && (decide (Prod.snd (Prod.snd (List.getD o2 (Int.toNat v26) ((0 : Int), (0 : Int), (0 : Int)))) = Prod.snd (Prod.snd (List.getD v2 (Int.toNat v26) ((0 : Int), (0 : Int), (0 : Int))))) && true)))) = true then if List.length o1 + List.length [v26] ≤ (140737488355328 / 8 : Nat) then Z2E k (o1 ++ [v26]) o2 v2 v25 (wrap64 (v26 + (1 : Int))) else none else Z2E k o1 o2 v2 v25 (wrap64 (v26 + (1 : Int))) else none else none else none else none else some o1
noncomputable def Zai : Spec := Spec.mk [OSh.ro, OSh.row true (3 : Nat) (Ty.int .i64), OSh.row true (63 : Nat) (Ty.pair (Ty.int .i64) (Ty.pair (Ty.int .i64) (Ty.int .i64)))] [((2 : Nat), TSh.at (Sh.snap (0 : Nat) (Ty.pair (Ty.int .i64) (Ty.pair (Ty.int .i64) (Ty.int .i64))))), ((10 : Nat), TSh.at (Sh.sl (1 : Nat))), ((24 : Nat), TSh.at (Sh.sl (2 : Nat))), ((25 : Nat), TSh.at (Sh.int .i64)), ((26 : Nat), TSh.at (Sh.int .i64))]
noncomputable def ZnJ : Spec := Spec.mk [OSh.ro, OSh.row true (3 : Nat) (Ty.int .i64)] [((10 : Nat), TSh.at (Sh.sl (1 : Nat)))]
noncomputable def Z3m : LoopDef (Tup Z52 × OutD) := .plain Zai ZnJ (List Int) (fun k x => Z2E k x.1.2.1 x.1.2.2.1 x.2.1 x.2.2.2.2.1 x.2.2.2.2.2.1) (fun z => (((), z, ()), ((), ()))) (fun y => (y.1.2.1)) (fun _ => rfl)
noncomputable def Z9r : Nat → Int × Int × List (Int × Int) → List Int → List (Int × Int × Int) → Option (List Int × Bool)
 | 0, _, _, _ => none
 | k + 1, p0, p1, p2 =>
  Option.bind (Z4s k (Prod.fst p0, Prod.fst p0.2, Prod.snd p0.2) p1 p2) fun z0 => if (!z0) = true then some ([], false) else Option.bind (ZfB k (Prod.fst p0, Prod.fst p0.2, Prod.snd p0.2) p1) fun z1 => Option.bind (Z2E k [] z1.1 p2 (↑(List.length z1.1) : Int) (0 : Int)) fun z2 => some (z2, true)
noncomputable def Z2x : FnDef := .of Zhm Z52 (List Int × Bool) (fun k x => Z9r k x.1 x.2.1 x.2.2.1) ZfX Zgi ZlL
noncomputable def Z9C : Code := Try.f61.body.getD .skip
noncomputable def Z3C : Ctx (Tup Z52 × OutD) := { T := T, G := [(139, Z1R.E), (146, Z6P.E)], mvs := [], no := 0, n := 43, res := resOf T Zhm Z52 Try.f61.results.toList, loops := [(0, Z3m.E)], regs := [], conds := [] }
theorem Zhj (k : Nat) : EnvOK Try.prog k Z3C.G := (EnvOK.cons (Z95 k) (EnvOK.cons (ZAX k) (EnvOK.nil mixed)))
noncomputable def Z6Z : Code := (findLoop 0 Z9C).getD .skip
theorem ZnK (k : Nat) (x : Zai.D) : Z3m.lp (k + 1) x = loopK Z3C Z3m 0 Z6Z k x := by kernel_rfl
theorem ZmU (k : Nat) : LOK Try.prog Z3C k Z6Z := LOK.by [] (by kernel_rfl) AllOK.nil
theorem ZnH (x : Zai.D) : Z3m.lp 0 x = none := by kernel_rfl
theorem Zm8 (k : Nat) : EOK Try.prog Z3C k Z3m.E (.block 0 (.loop Z6Z)) := Zp T_ok Zhj ZnH ZnK ZmU k
theorem ZsC (k : Nat) (x : Tup Z2x.ps) : Z2x.f (k + 1) x = fnK Z2x Z3C Z9C k x := by kernel_rfl
theorem Zru (x : Tup Z2x.ps) : Z2x.f 0 x = none := by kernel_rfl
theorem Zse (k : Nat) : LOK Try.prog Z3C k Z9C := LOK.by [(Z3m.E, .block 0 (.loop Z6Z))] (by kernel_rfl) (AllOK.cons (Zm8 k) AllOK.nil)
theorem ZrZ (k : Nat) : SoundAt Try.prog k 61 Z2x.E := @Ze Try.prog Z2x Z3C 61 Try.f61 Z9C (by kernel_rfl) (by kernel_rfl) (by kernel_rfl) Try.func61 (by kernel_rfl) (by kernel_rfl) (by kernel_rfl) T_ok Zhj Zse Zru ZsC k
noncomputable def Z62 : List PK := [PK.mk Ty.bool false none false none, PK.mk Ty.bool false none false none]
noncomputable def ZfV : List PK := [PK.mk (Ty.pair (Ty.int .i64) (Ty.pair (Ty.int .i64) (Ty.slice (79 : Nat) (Ty.pair (Ty.int .i64) (Ty.int .i64))))) true none false none, PK.mk (Ty.slice (77 : Nat) (Ty.pair (Ty.int .i64) (Ty.pair (Ty.int .i64) (Ty.int .i64)))) false none false none, PK.mk (Ty.slice (3 : Nat) (Ty.int .i64)) false none false none, PK.mk (Ty.slice (63 : Nat) (Ty.pair (Ty.int .i64) (Ty.pair (Ty.int .i64) (Ty.int .i64)))) false none false none]
noncomputable def Zfd (r : Bool × Bool) : Tup Z62 × OutD := ((r.1, r.2, ()), none)
noncomputable def Zfk : Tup Z62 × OutD → Option (Bool × Bool)
 | (a, none) => some (a.1, a.2.1)
 | _ => none
theorem Zki : ∀ b r, Zfk b = some r → Zfd r = b := by
 rintro ⟨a, o⟩ r h
 cases o with
 | none => injection h with h; subst h; rfl
 | some _ => cases h
noncomputable def Z39 : Nat → Int × Int × List (Int × Int) → List (Int × Int × Int) → List Int → List (Int × Int × Int) → Option (Bool × Bool)
 | 0, _, _, _, _ => none
 | k + 1, p0, p1, p2, p3 =>
  Option.bind (Z5E k (Prod.fst p0, Prod.fst p0.2, Prod.snd p0.2) p2 p3) fun z0 => if (!z0) = true then some (false, false) else Option.bind (Zb8 k (Prod.fst p0, Prod.fst p0.2, Prod.snd p0.2) p1) fun z1 => if (!z1) = true then some (false, false) else Option.bind (Z2c k (Prod.fst p0, Prod.fst p0.2, Prod.snd p0.2) p1 p2 p3) fun z2 => some (z2, true)
noncomputable def Z2b : FnDef := .of ZfV Z62 (Bool × Bool) (fun k x => Z39 k x.1 x.2.1 x.2.2.1 x.2.2.2.1) Zfd Zfk Zki
noncomputable def ZbP : Code := Try.f64.body.getD .skip
noncomputable def Z8P : Ctx (Tup Z62 × OutD) := { T := T, G := [(137, Z2i.E), (119, Z3A.E), (143, Z17.E)], mvs := [], no := 0, n := 26, res := resOf T ZfV Z62 Try.f64.results.toList, loops := [], regs := [], conds := [] }
theorem ZqQ (k : Nat) : EnvOK Try.prog k Z8P.G := (EnvOK.cons (Zbv k) (EnvOK.cons (ZwJ k) (EnvOK.cons (Z8Q k) (EnvOK.nil mixed))))
theorem ZqN (k : Nat) (x : Tup Z2b.ps) : Z2b.f (k + 1) x = fnK Z2b Z8P ZbP k x := by kernel_rfl
theorem Zqf (x : Tup Z2b.ps) : Z2b.f 0 x = none := by kernel_rfl
theorem Zqd (k : Nat) : LOK Try.prog Z8P k ZbP := LOK.by [] (by kernel_rfl) AllOK.nil
theorem ZqV (k : Nat) : SoundAt Try.prog k 64 Z2b.E := @Ze Try.prog Z2b Z8P 64 Try.f64 ZbP (by kernel_rfl) (by kernel_rfl) (by kernel_rfl) Try.func64 (by kernel_rfl) (by kernel_rfl) (by kernel_rfl) T_ok ZqQ Zqd Zqf ZqN k
noncomputable def Z5X : List PK := [PK.mk Ty.bool false none false none, PK.mk Ty.bool false none false none]
noncomputable def ZfP : List PK := [PK.mk (Ty.pair (Ty.int .i64) (Ty.pair (Ty.int .i64) (Ty.slice (79 : Nat) (Ty.pair (Ty.int .i64) (Ty.int .i64))))) true none false none, PK.mk (Ty.slice (77 : Nat) (Ty.pair (Ty.int .i64) (Ty.pair (Ty.int .i64) (Ty.int .i64)))) false none false none, PK.mk (Ty.slice (3 : Nat) (Ty.int .i64)) false none false none, PK.mk (Ty.slice (63 : Nat) (Ty.pair (Ty.int .i64) (Ty.pair (Ty.int .i64) (Ty.int .i64)))) false none false none]
noncomputable def ZeN (r : Bool × Bool) : Tup Z5X × OutD := ((r.1, r.2, ()), none)
noncomputable def ZeZ : Tup Z5X × OutD → Option (Bool × Bool)
 | (a, none) => some (a.1, a.2.1)
 | _ => none
theorem Zkt : ∀ b r, ZeZ b = some r → ZeN r = b := by
 rintro ⟨a, o⟩ r h
 cases o with
 | none => injection h with h; subst h; rfl
 | some _ => cases h
noncomputable def Z8H : Nat → Int × Int × List (Int × Int) → List (Int × Int × Int) → List Int → List (Int × Int × Int) → Option (Bool × Bool)
 | 0, _, _, _, _ => none
 | k + 1, p0, p1, p2, p3 =>
  Option.bind (Z4s k (Prod.fst p0, Prod.fst p0.2, Prod.snd p0.2) p2 p3) fun z0 => if (!z0) = true then some (false, false) else Option.bind (Zbu k (Prod.fst p0, Prod.fst p0.2, Prod.snd p0.2) p1) fun z1 => if (!z1) = true then some (false, false) else Option.bind (Z2Z k (Prod.fst p0, Prod.fst p0.2, Prod.snd p0.2) p1 p2 p3) fun z2 => some (z2, true)
noncomputable def Z28 : FnDef := .of ZfP Z5X (Bool × Bool) (fun k x => Z8H k x.1 x.2.1 x.2.2.1 x.2.2.2.1) ZeN ZeZ Zkt
noncomputable def ZbS : Code := Try.f68.body.getD .skip
noncomputable def Z8N : Ctx (Tup Z5X × OutD) := { T := T, G := [(139, Z1R.E), (122, Z4r.E), (144, Z1i.E)], mvs := [], no := 0, n := 26, res := resOf T ZfP Z5X Try.f68.results.toList, loops := [], regs := [], conds := [] }
theorem Zql (k : Nat) : EnvOK Try.prog k Z8N.G := (EnvOK.cons (Z95 k) (EnvOK.cons (ZpS k) (EnvOK.cons (Za2 k) (EnvOK.nil mixed))))
theorem Zq9 (k : Nat) (x : Tup Z28.ps) : Z28.f (k + 1) x = fnK Z28 Z8N ZbS k x := by kernel_rfl
theorem ZqK (x : Tup Z28.ps) : Z28.f 0 x = none := by kernel_rfl
theorem Zr6 (k : Nat) : LOK Try.prog Z8N k ZbS := LOK.by [] (by kernel_rfl) AllOK.nil
theorem Zqa (k : Nat) : SoundAt Try.prog k 68 Z28.E := @Ze Try.prog Z28 Z8N 68 Try.f68 ZbS (by kernel_rfl) (by kernel_rfl) (by kernel_rfl) Try.func68 (by kernel_rfl) (by kernel_rfl) (by kernel_rfl) T_ok Zql Zr6 ZqK Zq9 k
noncomputable def Z4m : List PK := [PK.mk (Ty.slice (77 : Nat) (Ty.pair (Ty.int .i64) (Ty.pair (Ty.int .i64) (Ty.int .i64)))) false none false none]
noncomputable def ZfW : List PK := [PK.mk (Ty.pair (Ty.int .i64) (Ty.pair (Ty.int .i64) (Ty.slice (79 : Nat) (Ty.pair (Ty.int .i64) (Ty.int .i64))))) true none false none, PK.mk (Ty.slice (3 : Nat) (Ty.int .i64)) false none false none, PK.mk (Ty.slice (63 : Nat) (Ty.pair (Ty.int .i64) (Ty.pair (Ty.int .i64) (Ty.int .i64)))) false none false none]
noncomputable def Zfm (r : List (Int × Int × Int)) : Tup Z4m × OutD := ((r, ()), none)
noncomputable def ZfE : Tup Z4m × OutD → Option (List (Int × Int × Int))
 | (a, none) => some (a.1)
 | _ => none
theorem Zkg : ∀ b r, ZfE b = some r → Zfm r = b := by
 rintro ⟨a, o⟩ r h
 cases o with
 | none => injection h with h; subst h; rfl
 | some _ => cases h
noncomputable def Z2l : Nat → Int → Int → List (Int × Int) → List (Int × Int × Int) → List (Int × Int × Int) → List Int → List (Int × Int × Int) → Int → Int → Option (List (Int × Int × Int))
 | 0, _, _, _, _, _, _, _, _, _ => none
 | k + 1, b1_0, b1_1, b1_2, o2, o3, v1, v2, v13, v14 =>
  if decide (v14 < v13) = true then if (0 : Int) ≤ v14 then if v14 < (↑(List.length o3) : Int) then Option.bind (Z2c k (b1_0, b1_1, b1_2) [(Prod.fst (List.getD o3 (Int.toNat v14) ((0 : Int), (0 : Int), (0 : Int))), Prod.fst (Prod.snd (List.getD o3 (Int.toNat v14) ((0 : Int), (0 : Int), (0 : Int)))), Prod.snd (Prod.snd (List.getD o3 (Int.toNat v14) ((0 : Int), (0 : Int), (0 : Int)))))] v1 v2) fun z1 => if z1 = true then if List.length o2 + List.length [(Prod.fst (List.getD o3 (Int.toNat v14) ((0 : Int), (0 : Int), (0 : Int))), Prod.fst (Prod.snd (List.getD o3 (Int.toNat v14) ((0 : Int), (0 : Int), (0 : Int)))), Prod.snd (Prod.snd (List.getD o3 (Int.toNat v14) ((0 : Int), (0 : Int), (0 : Int)))))] ≤ (140737488355328 / 24 : Nat) then Z2l k b1_0 b1_1 b1_2 (o2 ++ [(Prod.fst (List.getD o3 (Int.toNat v14) ((0 : Int), (0 : Int), (0 : Int))), Prod.fst (Prod.snd (List.getD o3 (Int.toNat v14) ((0 : Int), (0 : Int), (0 : Int)))), Prod.snd (Prod.snd (List.getD o3 (Int.toNat v14) ((0 : Int), (0 : Int), (0 : Int)))))]) o3 v1 v2 v13 (wrap64 (v14 + (1 : Int))) else none else Z2l k b1_0 b1_1 b1_2 o2 o3 v1 v2 v13 (wrap64 (v14 + (1 : Int))) else none else none else some o2
noncomputable def Z9V : Spec := Spec.mk [OSh.ro, OSh.box (53 : Nat) [Sh.int .i64, Sh.int .i64, Sh.snap (0 : Nat) (Ty.pair (Ty.int .i64) (Ty.int .i64))], OSh.row true (77 : Nat) (Ty.pair (Ty.int .i64) (Ty.pair (Ty.int .i64) (Ty.int .i64))), OSh.row true (77 : Nat) (Ty.pair (Ty.int .i64) (Ty.pair (Ty.int .i64) (Ty.int .i64)))] [((1 : Nat), TSh.at (Sh.snap (0 : Nat) (Ty.int .i64))), ((2 : Nat), TSh.at (Sh.snap (0 : Nat) (Ty.pair (Ty.int .i64) (Ty.pair (Ty.int .i64) (Ty.int .i64))))), ((3 : Nat), TSh.at (Sh.ptr (1 : Nat) (0 : Nat))), ((7 : Nat), TSh.at (Sh.sl (2 : Nat))), ((12 : Nat), TSh.at (Sh.sl (3 : Nat))), ((13 : Nat), TSh.at (Sh.int .i64)), ((14 : Nat), TSh.at (Sh.int .i64))]
noncomputable def ZlP : Spec := Spec.mk [OSh.ro, OSh.row true (77 : Nat) (Ty.pair (Ty.int .i64) (Ty.pair (Ty.int .i64) (Ty.int .i64)))] [((7 : Nat), TSh.at (Sh.sl (1 : Nat)))]
noncomputable def Z2S : LoopDef (Tup Z4m × OutD) := .plain Z9V ZlP (List (Int × Int × Int)) (fun k x => Z2l k x.1.2.1.1 x.1.2.1.2.1 x.1.2.1.2.2.1 x.1.2.2.1 x.1.2.2.2.1 x.2.1 x.2.2.1 x.2.2.2.2.2.2.1 x.2.2.2.2.2.2.2.1) (fun z => (((), z, ()), ((), ()))) (fun y => (y.1.2.1)) (fun _ => rfl)
noncomputable def Z5W : Nat → Int × Int × List (Int × Int) → List Int → List (Int × Int × Int) → Option (List (Int × Int × Int))
 | 0, _, _, _ => none
 | k + 1, p0, p1, p2 =>
  Option.bind (Z3q k (Prod.fst p0, Prod.fst p0.2, Prod.snd p0.2)) fun z0 => Option.bind (Z2l k p0.1 p0.2.1 p0.2.2 [] z0 p1 p2 (↑(List.length z0) : Int) (0 : Int)) fun z2 => some z2
noncomputable def Z1E : FnDef := .of ZfW Z4m (List (Int × Int × Int)) (fun k x => Z5W k x.1 x.2.1 x.2.2.1) Zfm ZfE Zkg
noncomputable def Z8I : Code := Try.f138.body.getD .skip
noncomputable def Z3a : Ctx (Tup Z4m × OutD) := { T := T, G := [(147, Z15.E), (143, Z17.E)], mvs := [], no := 0, n := 30, res := resOf T ZfW Z4m Try.f138.results.toList, loops := [(0, Z2S.E)], regs := [], conds := [] }
theorem ZfO (k : Nat) : EnvOK Try.prog k Z3a.G := (EnvOK.cons (Zah k) (EnvOK.cons (Z8Q k) (EnvOK.nil mixed)))
noncomputable def Z6z : Code := (findLoop 0 Z8I).getD .skip
theorem Zlz (k : Nat) (x : Z9V.D) : Z2S.lp (k + 1) x = loopK Z3a Z2S 0 Z6z k x := by kernel_rfl
theorem Zmc (k : Nat) : LOK Try.prog Z3a k Z6z := LOK.by [] (by kernel_rfl) AllOK.nil
theorem ZlZ (x : Z9V.D) : Z2S.lp 0 x = none := by kernel_rfl
theorem Zkm (k : Nat) : EOK Try.prog Z3a k Z2S.E (.block 0 (.loop Z6z)) := Zp T_ok ZfO ZlZ Zlz Zmc k
theorem Zqn (k : Nat) (x : Tup Z1E.ps) : Z1E.f (k + 1) x = fnK Z1E Z3a Z8I k x := by kernel_rfl
theorem ZqR (x : Tup Z1E.ps) : Z1E.f 0 x = none := by kernel_rfl
theorem ZqP (k : Nat) : LOK Try.prog Z3a k Z8I := LOK.by [(Z2S.E, .block 0 (.loop Z6z))] (by kernel_rfl) (AllOK.cons (Zkm k) AllOK.nil)
theorem Zg8 (k : Nat) : SoundAt Try.prog k 138 Z1E.E := @Ze Try.prog Z1E Z3a 138 Try.f138 Z8I (by kernel_rfl) (by kernel_rfl) (by kernel_rfl) Try.func138 (by kernel_rfl) (by kernel_rfl) (by kernel_rfl) T_ok ZfO ZqP ZqR Zqn k
noncomputable def Z7e : List PK := [PK.mk (Ty.slice (77 : Nat) (Ty.pair (Ty.int .i64) (Ty.pair (Ty.int .i64) (Ty.int .i64)))) false none false none]
noncomputable def Zlc : List PK := [PK.mk (Ty.pair (Ty.int .i64) (Ty.pair (Ty.int .i64) (Ty.slice (79 : Nat) (Ty.pair (Ty.int .i64) (Ty.int .i64))))) true none false none, PK.mk (Ty.slice (3 : Nat) (Ty.int .i64)) false none false none, PK.mk (Ty.slice (63 : Nat) (Ty.pair (Ty.int .i64) (Ty.pair (Ty.int .i64) (Ty.int .i64)))) false none false none]
noncomputable def Zj0 (r : List (Int × Int × Int)) : Tup Z7e × OutD := ((r, ()), none)
noncomputable def ZjT : Tup Z7e × OutD → Option (List (Int × Int × Int))
 | (a, none) => some (a.1)
 | _ => none
theorem ZqA : ∀ b r, ZjT b = some r → Zj0 r = b := by
 rintro ⟨a, o⟩ r h
 cases o with
 | none => injection h with h; subst h; rfl
 | some _ => cases h
noncomputable def Z45 : Nat → Int → Int → List (Int × Int) → List (Int × Int × Int) → List (Int × Int × Int) → List Int → List (Int × Int × Int) → Int → Int → Option (List (Int × Int × Int))
 | 0, _, _, _, _, _, _, _, _, _ => none
 | k + 1, b1_0, b1_1, b1_2, o2, o3, v1, v2, v12, v13 =>
  if decide (v13 < v12) = true then if (0 : Int) ≤ v13 then if v13 < (↑(List.length o3) : Int) then Option.bind (Z2Z k (b1_0, b1_1, b1_2) [(Prod.fst (List.getD o3 (Int.toNat v13) ((0 : Int), (0 : Int), (0 : Int))), Prod.fst (Prod.snd (List.getD o3 (Int.toNat v13) ((0 : Int), (0 : Int), (0 : Int)))), Prod.snd (Prod.snd (List.getD o3 (Int.toNat v13) ((0 : Int), (0 : Int), (0 : Int)))))] v1 v2) fun z1 => if z1 = true then if List.length o2 + List.length [(Prod.fst (List.getD o3 (Int.toNat v13) ((0 : Int), (0 : Int), (0 : Int))), Prod.fst (Prod.snd (List.getD o3 (Int.toNat v13) ((0 : Int), (0 : Int), (0 : Int)))), Prod.snd (Prod.snd (List.getD o3 (Int.toNat v13) ((0 : Int), (0 : Int), (0 : Int)))))] ≤ (140737488355328 / 24 : Nat) then Z45 k b1_0 b1_1 b1_2 (o2 ++ [(Prod.fst (List.getD o3 (Int.toNat v13) ((0 : Int), (0 : Int), (0 : Int))), Prod.fst (Prod.snd (List.getD o3 (Int.toNat v13) ((0 : Int), (0 : Int), (0 : Int)))), Prod.snd (Prod.snd (List.getD o3 (Int.toNat v13) ((0 : Int), (0 : Int), (0 : Int)))))]) o3 v1 v2 v12 (wrap64 (v13 + (1 : Int))) else none else Z45 k b1_0 b1_1 b1_2 o2 o3 v1 v2 v12 (wrap64 (v13 + (1 : Int))) else none else none else some o2
noncomputable def Zcp : Spec := Spec.mk [OSh.ro, OSh.box (53 : Nat) [Sh.int .i64, Sh.int .i64, Sh.snap (0 : Nat) (Ty.pair (Ty.int .i64) (Ty.int .i64))], OSh.row true (77 : Nat) (Ty.pair (Ty.int .i64) (Ty.pair (Ty.int .i64) (Ty.int .i64))), OSh.row true (77 : Nat) (Ty.pair (Ty.int .i64) (Ty.pair (Ty.int .i64) (Ty.int .i64)))] [((1 : Nat), TSh.at (Sh.snap (0 : Nat) (Ty.int .i64))), ((2 : Nat), TSh.at (Sh.snap (0 : Nat) (Ty.pair (Ty.int .i64) (Ty.pair (Ty.int .i64) (Ty.int .i64))))), ((3 : Nat), TSh.at (Sh.ptr (1 : Nat) (0 : Nat))), ((7 : Nat), TSh.at (Sh.sl (2 : Nat))), ((11 : Nat), TSh.at (Sh.sl (3 : Nat))), ((12 : Nat), TSh.at (Sh.int .i64)), ((13 : Nat), TSh.at (Sh.int .i64))]
noncomputable def Zt8 : Spec := Spec.mk [OSh.ro, OSh.row true (77 : Nat) (Ty.pair (Ty.int .i64) (Ty.pair (Ty.int .i64) (Ty.int .i64)))] [((7 : Nat), TSh.at (Sh.sl (1 : Nat)))]
noncomputable def Z4V : LoopDef (Tup Z7e × OutD) := .plain Zcp Zt8 (List (Int × Int × Int)) (fun k x => Z45 k x.1.2.1.1 x.1.2.1.2.1 x.1.2.1.2.2.1 x.1.2.2.1 x.1.2.2.2.1 x.2.1 x.2.2.1 x.2.2.2.2.2.2.1 x.2.2.2.2.2.2.2.1) (fun z => (((), z, ()), ((), ()))) (fun y => (y.1.2.1)) (fun _ => rfl)
noncomputable def Z74 : Nat → Int × Int × List (Int × Int) → List Int → List (Int × Int × Int) → Option (List (Int × Int × Int))
 | 0, _, _, _ => none
 | k + 1, p0, p1, p2 =>
  Option.bind (Z31 k (Prod.fst p0, Prod.fst p0.2, Prod.snd p0.2)) fun z0 => Option.bind (Z45 k p0.1 p0.2.1 p0.2.2 [] z0 p1 p2 (↑(List.length z0) : Int) (0 : Int)) fun z2 => some z2
noncomputable def Z2s : FnDef := .of Zlc Z7e (List (Int × Int × Int)) (fun k x => Z74 k x.1 x.2.1 x.2.2.1) Zj0 ZjT ZqA
noncomputable def Zc3 : Code := Try.f140.body.getD .skip
noncomputable def Z5g : Ctx (Tup Z7e × OutD) := { T := T, G := [(148, Z1a.E), (144, Z1i.E)], mvs := [], no := 0, n := 29, res := resOf T Zlc Z7e Try.f140.results.toList, loops := [(0, Z4V.E)], regs := [], conds := [] }
theorem Zlh (k : Nat) : EnvOK Try.prog k Z5g.G := (EnvOK.cons (Z7z k) (EnvOK.cons (Za2 k) (EnvOK.nil mixed)))
noncomputable def Z9n : Code := (findLoop 0 Zc3).getD .skip
theorem Ztk (k : Nat) (x : Zcp.D) : Z4V.lp (k + 1) x = loopK Z5g Z4V 0 Z9n k x := by kernel_rfl
theorem ZsL (k : Nat) : LOK Try.prog Z5g k Z9n := LOK.by [] (by kernel_rfl) AllOK.nil
theorem Zsk (x : Zcp.D) : Z4V.lp 0 x = none := by kernel_rfl
theorem Zqp (k : Nat) : EOK Try.prog Z5g k Z4V.E (.block 0 (.loop Z9n)) := Zp T_ok Zlh Zsk Ztk ZsL k
theorem Zyl (k : Nat) (x : Tup Z2s.ps) : Z2s.f (k + 1) x = fnK Z2s Z5g Zc3 k x := by kernel_rfl
theorem Zxn (x : Tup Z2s.ps) : Z2s.f 0 x = none := by kernel_rfl
theorem Zyt (k : Nat) : LOK Try.prog Z5g k Zc3 := LOK.by [(Z4V.E, .block 0 (.loop Z9n))] (by kernel_rfl) (AllOK.cons (Zqp k) AllOK.nil)
theorem ZfA (k : Nat) : SoundAt Try.prog k 140 Z2s.E := @Ze Try.prog Z2s Z5g 140 Try.f140 Zc3 (by kernel_rfl) (by kernel_rfl) (by kernel_rfl) Try.func140 (by kernel_rfl) (by kernel_rfl) (by kernel_rfl) T_ok Zlh Zyt Zxn Zyl k
noncomputable def Z47 : List PK := [PK.mk (Ty.slice (34 : Nat) (Ty.slice (3 : Nat) (Ty.int .i64))) false none false none]
noncomputable def Zia : List PK := [PK.mk (Ty.pair (Ty.int .i64) (Ty.pair (Ty.int .i64) (Ty.slice (79 : Nat) (Ty.pair (Ty.int .i64) (Ty.int .i64))))) true none false none, PK.mk (Ty.slice (3 : Nat) (Ty.int .i64)) false none false none, PK.mk (Ty.slice (63 : Nat) (Ty.pair (Ty.int .i64) (Ty.pair (Ty.int .i64) (Ty.int .i64)))) false none false none]
noncomputable def Zhd (r : List (List Int)) : Tup Z47 × OutD := ((r, ()), none)
noncomputable def Zhp : Tup Z47 × OutD → Option (List (List Int))
 | (a, none) => some (a.1)
 | _ => none
theorem ZnD : ∀ b r, Zhp b = some r → Zhd r = b := by
 rintro ⟨a, o⟩ r h
 cases o with
 | none => injection h with h; subst h; rfl
 | some _ => cases h
noncomputable def Z1e : Nat → Int → Int → List (Int × Int) → List (List Int) → List (Int × Int × Int) → Int → Int → Int → List Int → List (Int × Int × Int) → Int → Int → Int → Int → Option (Int × Int × List (Int × Int) × List (List Int) × List (Int × Int × Int) × List Int × List (Int × Int × Int) × Int × Int)
 | 0, _, _, _, _, _, _, _, _, _, _, _, _, _, _ => none
 | k + 1, b1_0, b1_1, b1_2, o2, o3, b4_0, b4_1, b4_2, v1, v2, v9, v11, v17, v18 =>
  if decide (v11 < (↑(List.length o3) : Int)) = true then if (0 : Int) ≤ v11 then if v11 < (↑(List.length o3) : Int) then if decide (b4_1 ≠ Prod.fst (Prod.snd (List.getD o3 (Int.toNat v11) ((0 : Int), (0 : Int), (0 : Int))))) = true then Option.bind (Z2c k (b1_0, b1_1, b1_2) [(b4_0, b4_1, b4_2), (Prod.fst (List.getD o3 (Int.toNat v11) ((0 : Int), (0 : Int), (0 : Int))), Prod.fst (Prod.snd (List.getD o3 (Int.toNat v11) ((0 : Int), (0 : Int), (0 : Int)))), Prod.snd (Prod.snd (List.getD o3 (Int.toNat v11) ((0 : Int), (0 : Int), (0 : Int)))))] v1 v2) fun z1 => if z1 = true then if List.length o2 + List.length [[v9, v11]] ≤ (140737488355328 / 24 : Nat) then Z1e k b1_0 b1_1 b1_2 (o2 ++ [[v9, v11]]) o3 b4_0 b4_1 b4_2 v1 v2 v9 (wrap64 (v11 + (1 : Int))) v17 v18 else none else Z1e k b1_0 b1_1 b1_2 o2 o3 b4_0 b4_1 b4_2 v1 v2 v9 (wrap64 (v11 + (1 : Int))) v17 v18 else if decide (b4_2 ≠ Prod.snd (Prod.snd (List.getD o3 (Int.toNat v11) ((0 : Int), (0 : Int), (0 : Int))))) = true then Option.bind (Z2c k (b1_0, b1_1, b1_2) [(b4_0, b4_1, b4_2), (Prod.fst (List.getD o3 (Int.toNat v11) ((0 : Int), (0 : Int), (0 : Int))), Prod.fst (Prod.snd (List.getD o3 (Int.toNat v11) ((0 : Int), (0 : Int), (0 : Int)))), Prod.snd (Prod.snd (List.getD o3 (Int.toNat v11) ((0 : Int), (0 : Int), (0 : Int)))))] v1 v2) fun z2 => if z2 = true then if List.length o2 + List.length [[v9, v11]] ≤ (140737488355328 / 24 : Nat) then Z1e k b1_0 b1_1 b1_2 (o2 ++ [[v9, v11]]) o3 b4_0 b4_1 b4_2 v1 v2 v9 (wrap64 (v11 + (1 : Int))) v17 v18 else none else Z1e k b1_0 b1_1 b1_2 o2 o3 b4_0 b4_1 b4_2 v1 v2 v9 (wrap64 (v11 + (1 : Int))) v17 v18 else Z1e k b1_0 b1_1 b1_2 o2 o3 b4_0 b4_1 b4_2 v1 v2 v9 (wrap64 (v11 + (1 : Int))) v17 v18 else none else none else some (b1_0, b1_1, b1_2, o2, o3, v1, v2, v17, v18)
noncomputable def Zb9 : Spec := Spec.mk [OSh.ro, OSh.box (53 : Nat) [Sh.int .i64, Sh.int .i64, Sh.snap (0 : Nat) (Ty.pair (Ty.int .i64) (Ty.int .i64))], OSh.row true (34 : Nat) (Ty.slice (3 : Nat) (Ty.int .i64)), OSh.row true (77 : Nat) (Ty.pair (Ty.int .i64) (Ty.pair (Ty.int .i64) (Ty.int .i64))), OSh.box (77 : Nat) [Sh.int .i64, Sh.int .i64, Sh.int .i64]] [((1 : Nat), TSh.at (Sh.snap (0 : Nat) (Ty.int .i64))), ((2 : Nat), TSh.at (Sh.snap (0 : Nat) (Ty.pair (Ty.int .i64) (Ty.pair (Ty.int .i64) (Ty.int .i64))))), ((3 : Nat), TSh.at (Sh.ptr (1 : Nat) (0 : Nat))), ((7 : Nat), TSh.at (Sh.sl (2 : Nat))), ((8 : Nat), TSh.at (Sh.sl (3 : Nat))), ((9 : Nat), TSh.at (Sh.int .i64)), ((10 : Nat), TSh.at (Sh.ptr (4 : Nat) (0 : Nat))), ((11 : Nat), TSh.at (Sh.int .i64)), ((16 : Nat), TSh.at (Sh.sl (3 : Nat))), ((17 : Nat), TSh.at (Sh.int .i64)), ((18 : Nat), TSh.at (Sh.int .i64))]
noncomputable def Zoa : Spec := Spec.mk [OSh.ro, OSh.box (53 : Nat) [Sh.int .i64, Sh.int .i64, Sh.snap (0 : Nat) (Ty.pair (Ty.int .i64) (Ty.int .i64))], OSh.row true (34 : Nat) (Ty.slice (3 : Nat) (Ty.int .i64)), OSh.row true (77 : Nat) (Ty.pair (Ty.int .i64) (Ty.pair (Ty.int .i64) (Ty.int .i64)))] [((1 : Nat), TSh.at (Sh.snap (0 : Nat) (Ty.int .i64))), ((2 : Nat), TSh.at (Sh.snap (0 : Nat) (Ty.pair (Ty.int .i64) (Ty.pair (Ty.int .i64) (Ty.int .i64))))), ((3 : Nat), TSh.at (Sh.ptr (1 : Nat) (0 : Nat))), ((7 : Nat), TSh.at (Sh.sl (2 : Nat))), ((8 : Nat), TSh.at (Sh.sl (3 : Nat))), ((16 : Nat), TSh.at (Sh.sl (3 : Nat))), ((17 : Nat), TSh.at (Sh.int .i64)), ((18 : Nat), TSh.at (Sh.int .i64))]
noncomputable def Z3V : LoopDef (Tup Z47 × OutD) := .plain Zb9 Zoa (Int × Int × List (Int × Int) × List (List Int) × List (Int × Int × Int) × List Int × List (Int × Int × Int) × Int × Int) (fun k x => Z1e k x.1.2.1.1 x.1.2.1.2.1 x.1.2.1.2.2.1 x.1.2.2.1 x.1.2.2.2.1 x.1.2.2.2.2.1.1 x.1.2.2.2.2.1.2.1 x.1.2.2.2.2.1.2.2.1 x.2.1 x.2.2.1 x.2.2.2.2.2.2.1 x.2.2.2.2.2.2.2.2.1 x.2.2.2.2.2.2.2.2.2.2.1 x.2.2.2.2.2.2.2.2.2.2.2.1) (fun z => (((), (z.1, z.2.1, z.2.2.1, ()), z.2.2.2.1, z.2.2.2.2.1, ()), (z.2.2.2.2.2.1, z.2.2.2.2.2.2.1, (), (), (), (), z.2.2.2.2.2.2.2.1, z.2.2.2.2.2.2.2.2, ()))) (fun y => (y.1.2.1.1, y.1.2.1.2.1, y.1.2.1.2.2.1, y.1.2.2.1, y.1.2.2.2.1, y.2.1, y.2.2.1, y.2.2.2.2.2.2.2.1, y.2.2.2.2.2.2.2.2.1)) (fun _ => rfl)
noncomputable def Z3b : Nat → Int → Int → List (Int × Int) → List (List Int) → List (Int × Int × Int) → List Int → List (Int × Int × Int) → Int → Int → Option (List (List Int))
 | 0, _, _, _, _, _, _, _, _, _ => none
 | k + 1, b1_0, b1_1, b1_2, o2, o3, v1, v2, v17, v18 =>
  if decide (v18 < v17) = true then if (0 : Int) ≤ v18 then if v18 < (↑(List.length o3) : Int) then Option.bind (Z1e k b1_0 b1_1 b1_2 o2 o3 (Prod.fst (List.getD o3 (Int.toNat v18) ((0 : Int), (0 : Int), (0 : Int)))) (Prod.fst (Prod.snd (List.getD o3 (Int.toNat v18) ((0 : Int), (0 : Int), (0 : Int))))) (Prod.snd (Prod.snd (List.getD o3 (Int.toNat v18) ((0 : Int), (0 : Int), (0 : Int))))) v1 v2 v18 (wrap64 (v18 + (1 : Int))) v17 v18) fun z3 => Z3b k z3.1 z3.2.1 z3.2.2.1 z3.2.2.2.1 z3.2.2.2.2.1 z3.2.2.2.2.2.1 z3.2.2.2.2.2.2.1 z3.2.2.2.2.2.2.2.1 (wrap64 (Prod.snd z3.2.2.2.2.2.2.2 + (1 : Int))) else none else none else some o2
noncomputable def ZaP : Spec := Spec.mk [OSh.ro, OSh.box (53 : Nat) [Sh.int .i64, Sh.int .i64, Sh.snap (0 : Nat) (Ty.pair (Ty.int .i64) (Ty.int .i64))], OSh.row true (34 : Nat) (Ty.slice (3 : Nat) (Ty.int .i64)), OSh.row true (77 : Nat) (Ty.pair (Ty.int .i64) (Ty.pair (Ty.int .i64) (Ty.int .i64)))] [((1 : Nat), TSh.at (Sh.snap (0 : Nat) (Ty.int .i64))), ((2 : Nat), TSh.at (Sh.snap (0 : Nat) (Ty.pair (Ty.int .i64) (Ty.pair (Ty.int .i64) (Ty.int .i64))))), ((3 : Nat), TSh.at (Sh.ptr (1 : Nat) (0 : Nat))), ((7 : Nat), TSh.at (Sh.sl (2 : Nat))), ((8 : Nat), TSh.at (Sh.sl (3 : Nat))), ((16 : Nat), TSh.at (Sh.sl (3 : Nat))), ((17 : Nat), TSh.at (Sh.int .i64)), ((18 : Nat), TSh.at (Sh.int .i64))]
noncomputable def ZoL : Spec := Spec.mk [OSh.ro, OSh.row true (34 : Nat) (Ty.slice (3 : Nat) (Ty.int .i64))] [((7 : Nat), TSh.at (Sh.sl (1 : Nat)))]
noncomputable def Z3X : LoopDef (Tup Z47 × OutD) := .plain ZaP ZoL (List (List Int)) (fun k x => Z3b k x.1.2.1.1 x.1.2.1.2.1 x.1.2.1.2.2.1 x.1.2.2.1 x.1.2.2.2.1 x.2.1 x.2.2.1 x.2.2.2.2.2.2.2.1 x.2.2.2.2.2.2.2.2.1) (fun z => (((), z, ()), ((), ()))) (fun y => (y.1.2.1)) (fun _ => rfl)
noncomputable def Z7J : Nat → Int × Int × List (Int × Int) → List Int → List (Int × Int × Int) → Option (List (List Int))
 | 0, _, _, _ => none
 | k + 1, p0, p1, p2 =>
  Option.bind (Z3q k (Prod.fst p0, Prod.fst p0.2, Prod.snd p0.2)) fun z0 => Option.bind (Z3b k p0.1 p0.2.1 p0.2.2 [] z0 p1 p2 (↑(List.length z0) : Int) (0 : Int)) fun z4 => some z4
noncomputable def Z2g : FnDef := .of Zia Z47 (List (List Int)) (fun k x => Z7J k x.1 x.2.1 x.2.2.1) Zhd Zhp ZnD
noncomputable def Z7A : Code := Try.f141.body.getD .skip
noncomputable def Z1N : Ctx (Tup Z47 × OutD) := { T := T, G := [(147, Z15.E), (143, Z17.E)], mvs := [], no := 0, n := 64, res := resOf T Zia Z47 Try.f141.results.toList, loops := [(2, Z3V.E), (0, Z3X.E)], regs := [], conds := [] }
theorem Zda (k : Nat) : EnvOK Try.prog k Z1N.G := (EnvOK.cons (Zah k) (EnvOK.cons (Z8Q k) (EnvOK.nil mixed)))
noncomputable def Z7X : Code := (findLoop 2 Z7A).getD .skip
theorem ZoH (k : Nat) (x : Zb9.D) : Z3V.lp (k + 1) x = loopK Z1N Z3V 2 Z7X k x := by kernel_rfl
theorem Zoe (k : Nat) : LOK Try.prog Z1N k Z7X := LOK.by [] (by kernel_rfl) AllOK.nil
theorem Zod (x : Zb9.D) : Z3V.lp 0 x = none := by kernel_rfl
theorem Zms (k : Nat) : EOK Try.prog Z1N k Z3V.E (.block 2 (.loop Z7X)) := Zp T_ok Zda Zod ZoH Zoe k
noncomputable def Z81 : Code := (findLoop 0 Z7A).getD .skip
theorem Zol (k : Nat) (x : ZaP.D) : Z3X.lp (k + 1) x = loopK Z1N Z3X 0 Z81 k x := by kernel_rfl
theorem Zpc (k : Nat) : LOK Try.prog Z1N k Z81 := LOK.by [(Z3V.E, .block 2 (.loop Z7X))] (by kernel_rfl) (AllOK.cons (Zms k) AllOK.nil)
theorem Zp6 (x : ZaP.D) : Z3X.lp 0 x = none := by kernel_rfl
theorem ZnF (k : Nat) : EOK Try.prog Z1N k Z3X.E (.block 0 (.loop Z81)) := Zp T_ok Zda Zp6 Zol Zpc k
theorem ZtJ (k : Nat) (x : Tup Z2g.ps) : Z2g.f (k + 1) x = fnK Z2g Z1N Z7A k x := by kernel_rfl
theorem ZtR (x : Tup Z2g.ps) : Z2g.f 0 x = none := by kernel_rfl
theorem ZuA (k : Nat) : LOK Try.prog Z1N k Z7A := LOK.by [(Z3X.E, .block 0 (.loop Z81))] (by kernel_rfl) (AllOK.cons (ZnF k) AllOK.nil)
theorem Zio (k : Nat) : SoundAt Try.prog k 141 Z2g.E := @Ze Try.prog Z2g Z1N 141 Try.f141 Z7A (by kernel_rfl) (by kernel_rfl) (by kernel_rfl) Try.func141 (by kernel_rfl) (by kernel_rfl) (by kernel_rfl) T_ok Zda ZuA ZtR ZtJ k
noncomputable def Z68 : List PK := [PK.mk (Ty.slice (34 : Nat) (Ty.slice (3 : Nat) (Ty.int .i64))) false none false none]
noncomputable def Zni : List PK := [PK.mk (Ty.pair (Ty.int .i64) (Ty.pair (Ty.int .i64) (Ty.slice (79 : Nat) (Ty.pair (Ty.int .i64) (Ty.int .i64))))) true none false none, PK.mk (Ty.slice (3 : Nat) (Ty.int .i64)) false none false none, PK.mk (Ty.slice (63 : Nat) (Ty.pair (Ty.int .i64) (Ty.pair (Ty.int .i64) (Ty.int .i64)))) false none false none]
noncomputable def Zlf (r : List (List Int)) : Tup Z68 × OutD := ((r, ()), none)
noncomputable def Zl3 : Tup Z68 × OutD → Option (List (List Int))
 | (a, none) => some (a.1)
 | _ => none
theorem Zsd : ∀ b r, Zl3 b = some r → Zlf r = b := by
 rintro ⟨a, o⟩ r h
 cases o with
 | none => injection h with h; subst h; rfl
 | some _ => cases h
noncomputable def Z22 : Nat → Int → Int → List (Int × Int) → List (Int × Int × Int) → List (List Int) → Int → Int → Int → List Int → List (Int × Int × Int) → Int → Int → Int → Int → Option (Int × Int × List (Int × Int) × List (Int × Int × Int) × List (List Int) × List Int × List (Int × Int × Int) × Int × Int)
 | 0, _, _, _, _, _, _, _, _, _, _, _, _, _, _ => none
 | k + 1, b1_0, b1_1, b1_2, o2, o3, b4_0, b4_1, b4_2, v1, v2, v9, v11, v16, v17 =>
  if decide (v11 < (↑(List.length o2) : Int)) = true then if (0 : Int) ≤ v11 then if v11 < (↑(List.length o2) : Int) then if decide (b4_1 ≠ Prod.fst (Prod.snd (List.getD o2 (Int.toNat v11) ((0 : Int), (0 : Int), (0 : Int))))) = true then Option.bind (Z2Z k (b1_0, b1_1, b1_2) [(b4_0, b4_1, b4_2), (Prod.fst (List.getD o2 (Int.toNat v11) ((0 : Int), (0 : Int), (0 : Int))), Prod.fst (Prod.snd (List.getD o2 (Int.toNat v11) ((0 : Int), (0 : Int), (0 : Int)))), Prod.snd (Prod.snd (List.getD o2 (Int.toNat v11) ((0 : Int), (0 : Int), (0 : Int)))))] v1 v2) fun z1 => if z1 = true then if List.length o3 + List.length [[v9, v11]] ≤ (140737488355328 / 24 : Nat) then Z22 k b1_0 b1_1 b1_2 o2 (o3 ++ [[v9, v11]]) b4_0 b4_1 b4_2 v1 v2 v9 (wrap64 (v11 + (1 : Int))) v16 v17 else none else Z22 k b1_0 b1_1 b1_2 o2 o3 b4_0 b4_1 b4_2 v1 v2 v9 (wrap64 (v11 + (1 : Int))) v16 v17 else if decide (b4_2 ≠ Prod.snd (Prod.snd (List.getD o2 (Int.toNat v11) ((0 : Int), (0 : Int), (0 : Int))))) = true then Option.bind (Z2Z k (b1_0, b1_1, b1_2) [(b4_0, b4_1, b4_2), (Prod.fst (List.getD o2 (Int.toNat v11) ((0 : Int), (0 : Int), (0 : Int))), Prod.fst (Prod.snd (List.getD o2 (Int.toNat v11) ((0 : Int), (0 : Int), (0 : Int)))), Prod.snd (Prod.snd (List.getD o2 (Int.toNat v11) ((0 : Int), (0 : Int), (0 : Int)))))] v1 v2) fun z2 => if z2 = true then if List.length o3 + List.length [[v9, v11]] ≤ (140737488355328 / 24 : Nat) then Z22 k b1_0 b1_1 b1_2 o2 (o3 ++ [[v9, v11]]) b4_0 b4_1 b4_2 v1 v2 v9 (wrap64 (v11 + (1 : Int))) v16 v17 else none else Z22 k b1_0 b1_1 b1_2 o2 o3 b4_0 b4_1 b4_2 v1 v2 v9 (wrap64 (v11 + (1 : Int))) v16 v17 else Z22 k b1_0 b1_1 b1_2 o2 o3 b4_0 b4_1 b4_2 v1 v2 v9 (wrap64 (v11 + (1 : Int))) v16 v17 else none else none else some (b1_0, b1_1, b1_2, o2, o3, v1, v2, v16, v17)
noncomputable def Zd7 : Spec := Spec.mk [OSh.ro, OSh.box (53 : Nat) [Sh.int .i64, Sh.int .i64, Sh.snap (0 : Nat) (Ty.pair (Ty.int .i64) (Ty.int .i64))], OSh.row true (77 : Nat) (Ty.pair (Ty.int .i64) (Ty.pair (Ty.int .i64) (Ty.int .i64))), OSh.row true (34 : Nat) (Ty.slice (3 : Nat) (Ty.int .i64)), OSh.box (77 : Nat) [Sh.int .i64, Sh.int .i64, Sh.int .i64]] [((1 : Nat), TSh.at (Sh.snap (0 : Nat) (Ty.int .i64))), ((2 : Nat), TSh.at (Sh.snap (0 : Nat) (Ty.pair (Ty.int .i64) (Ty.pair (Ty.int .i64) (Ty.int .i64))))), ((3 : Nat), TSh.at (Sh.ptr (1 : Nat) (0 : Nat))), ((7 : Nat), TSh.at (Sh.sl (2 : Nat))), ((8 : Nat), TSh.at (Sh.sl (3 : Nat))), ((9 : Nat), TSh.at (Sh.int .i64)), ((10 : Nat), TSh.at (Sh.ptr (4 : Nat) (0 : Nat))), ((11 : Nat), TSh.at (Sh.int .i64)), ((15 : Nat), TSh.at (Sh.sl (2 : Nat))), ((16 : Nat), TSh.at (Sh.int .i64)), ((17 : Nat), TSh.at (Sh.int .i64))]
noncomputable def Zv7 : Spec := Spec.mk [OSh.ro, OSh.box (53 : Nat) [Sh.int .i64, Sh.int .i64, Sh.snap (0 : Nat) (Ty.pair (Ty.int .i64) (Ty.int .i64))], OSh.row true (77 : Nat) (Ty.pair (Ty.int .i64) (Ty.pair (Ty.int .i64) (Ty.int .i64))), OSh.row true (34 : Nat) (Ty.slice (3 : Nat) (Ty.int .i64))] [((1 : Nat), TSh.at (Sh.snap (0 : Nat) (Ty.int .i64))), ((2 : Nat), TSh.at (Sh.snap (0 : Nat) (Ty.pair (Ty.int .i64) (Ty.pair (Ty.int .i64) (Ty.int .i64))))), ((3 : Nat), TSh.at (Sh.ptr (1 : Nat) (0 : Nat))), ((7 : Nat), TSh.at (Sh.sl (2 : Nat))), ((8 : Nat), TSh.at (Sh.sl (3 : Nat))), ((15 : Nat), TSh.at (Sh.sl (2 : Nat))), ((16 : Nat), TSh.at (Sh.int .i64)), ((17 : Nat), TSh.at (Sh.int .i64))]
noncomputable def Z5A : LoopDef (Tup Z68 × OutD) := .plain Zd7 Zv7 (Int × Int × List (Int × Int) × List (Int × Int × Int) × List (List Int) × List Int × List (Int × Int × Int) × Int × Int) (fun k x => Z22 k x.1.2.1.1 x.1.2.1.2.1 x.1.2.1.2.2.1 x.1.2.2.1 x.1.2.2.2.1 x.1.2.2.2.2.1.1 x.1.2.2.2.2.1.2.1 x.1.2.2.2.2.1.2.2.1 x.2.1 x.2.2.1 x.2.2.2.2.2.2.1 x.2.2.2.2.2.2.2.2.1 x.2.2.2.2.2.2.2.2.2.2.1 x.2.2.2.2.2.2.2.2.2.2.2.1) (fun z => (((), (z.1, z.2.1, z.2.2.1, ()), z.2.2.2.1, z.2.2.2.2.1, ()), (z.2.2.2.2.2.1, z.2.2.2.2.2.2.1, (), (), (), (), z.2.2.2.2.2.2.2.1, z.2.2.2.2.2.2.2.2, ()))) (fun y => (y.1.2.1.1, y.1.2.1.2.1, y.1.2.1.2.2.1, y.1.2.2.1, y.1.2.2.2.1, y.2.1, y.2.2.1, y.2.2.2.2.2.2.2.1, y.2.2.2.2.2.2.2.2.1)) (fun _ => rfl)
noncomputable def Z4C : Nat → Int → Int → List (Int × Int) → List (Int × Int × Int) → List (List Int) → List Int → List (Int × Int × Int) → Int → Int → Option (List (List Int))
 | 0, _, _, _, _, _, _, _, _, _ => none
 | k + 1, b1_0, b1_1, b1_2, o2, o3, v1, v2, v16, v17 =>
  if decide (v17 < v16) = true then if (0 : Int) ≤ v17 then if v17 < (↑(List.length o2) : Int) then Option.bind (Z22 k b1_0 b1_1 b1_2 o2 o3 (Prod.fst (List.getD o2 (Int.toNat v17) ((0 : Int), (0 : Int), (0 : Int)))) (Prod.fst (Prod.snd (List.getD o2 (Int.toNat v17) ((0 : Int), (0 : Int), (0 : Int))))) (Prod.snd (Prod.snd (List.getD o2 (Int.toNat v17) ((0 : Int), (0 : Int), (0 : Int))))) v1 v2 v17 (wrap64 (v17 + (1 : Int))) v16 v17) fun z3 => Z4C k z3.1 z3.2.1 z3.2.2.1 z3.2.2.2.1 z3.2.2.2.2.1 z3.2.2.2.2.2.1 z3.2.2.2.2.2.2.1 z3.2.2.2.2.2.2.2.1 (wrap64 (Prod.snd z3.2.2.2.2.2.2.2 + (1 : Int))) else none else none else some o3
noncomputable def Zds : Spec := Spec.mk [OSh.ro, OSh.box (53 : Nat) [Sh.int .i64, Sh.int .i64, Sh.snap (0 : Nat) (Ty.pair (Ty.int .i64) (Ty.int .i64))], OSh.row true (77 : Nat) (Ty.pair (Ty.int .i64) (Ty.pair (Ty.int .i64) (Ty.int .i64))), OSh.row true (34 : Nat) (Ty.slice (3 : Nat) (Ty.int .i64))] [((1 : Nat), TSh.at (Sh.snap (0 : Nat) (Ty.int .i64))), ((2 : Nat), TSh.at (Sh.snap (0 : Nat) (Ty.pair (Ty.int .i64) (Ty.pair (Ty.int .i64) (Ty.int .i64))))), ((3 : Nat), TSh.at (Sh.ptr (1 : Nat) (0 : Nat))), ((7 : Nat), TSh.at (Sh.sl (2 : Nat))), ((8 : Nat), TSh.at (Sh.sl (3 : Nat))), ((15 : Nat), TSh.at (Sh.sl (2 : Nat))), ((16 : Nat), TSh.at (Sh.int .i64)), ((17 : Nat), TSh.at (Sh.int .i64))]
noncomputable def Zu5 : Spec := Spec.mk [OSh.ro, OSh.row true (34 : Nat) (Ty.slice (3 : Nat) (Ty.int .i64))] [((8 : Nat), TSh.at (Sh.sl (1 : Nat)))]
noncomputable def Z5s : LoopDef (Tup Z68 × OutD) := .plain Zds Zu5 (List (List Int)) (fun k x => Z4C k x.1.2.1.1 x.1.2.1.2.1 x.1.2.1.2.2.1 x.1.2.2.1 x.1.2.2.2.1 x.2.1 x.2.2.1 x.2.2.2.2.2.2.2.1 x.2.2.2.2.2.2.2.2.1) (fun z => (((), z, ()), ((), ()))) (fun y => (y.1.2.1)) (fun _ => rfl)
noncomputable def Zak : Nat → Int × Int × List (Int × Int) → List Int → List (Int × Int × Int) → Option (List (List Int))
 | 0, _, _, _ => none
 | k + 1, p0, p1, p2 =>
  Option.bind (Z31 k (Prod.fst p0, Prod.fst p0.2, Prod.snd p0.2)) fun z0 => Option.bind (Z4C k p0.1 p0.2.1 p0.2.2 z0 [] p1 p2 (↑(List.length z0) : Int) (0 : Int)) fun z4 => some z4
noncomputable def Z3Q : FnDef := .of Zni Z68 (List (List Int)) (fun k x => Zak k x.1 x.2.1 x.2.2.1) Zlf Zl3 Zsd
noncomputable def Zar : Code := Try.f142.body.getD .skip
noncomputable def Z2X : Ctx (Tup Z68 × OutD) := { T := T, G := [(148, Z1a.E), (144, Z1i.E)], mvs := [], no := 0, n := 63, res := resOf T Zni Z68 Try.f142.results.toList, loops := [(2, Z5A.E), (0, Z5s.E)], regs := [], conds := [] }
theorem Zgo (k : Nat) : EnvOK Try.prog k Z2X.G := (EnvOK.cons (Z7z k) (EnvOK.cons (Za2 k) (EnvOK.nil mixed)))
noncomputable def Zaa : Code := (findLoop 2 Zar).getD .skip
theorem ZuX (k : Nat) (x : Zd7.D) : Z5A.lp (k + 1) x = loopK Z2X Z5A 2 Zaa k x := by kernel_rfl
theorem ZtF (k : Nat) : LOK Try.prog Z2X k Zaa := LOK.by [] (by kernel_rfl) AllOK.nil
theorem ZtQ (x : Zd7.D) : Z5A.lp 0 x = none := by kernel_rfl
theorem Ztc (k : Nat) : EOK Try.prog Z2X k Z5A.E (.block 2 (.loop Zaa)) := Zp T_ok Zgo ZtQ ZuX ZtF k
noncomputable def Zab : Code := (findLoop 0 Zar).getD .skip
theorem ZuS (k : Nat) (x : Zds.D) : Z5s.lp (k + 1) x = loopK Z2X Z5s 0 Zab k x := by kernel_rfl
theorem ZtN (k : Nat) : LOK Try.prog Z2X k Zab := LOK.by [(Z5A.E, .block 2 (.loop Zaa))] (by kernel_rfl) (AllOK.cons (Ztc k) AllOK.nil)
theorem ZuV (x : Zds.D) : Z5s.lp 0 x = none := by kernel_rfl
theorem Zsp (k : Nat) : EOK Try.prog Z2X k Z5s.E (.block 0 (.loop Zab)) := Zp T_ok Zgo ZuV ZuS ZtN k
theorem Zzh (k : Nat) (x : Tup Z3Q.ps) : Z3Q.f (k + 1) x = fnK Z3Q Z2X Zar k x := by kernel_rfl
theorem ZyR (x : Tup Z3Q.ps) : Z3Q.f 0 x = none := by kernel_rfl
theorem Zzb (k : Nat) : LOK Try.prog Z2X k Zar := LOK.by [(Z5s.E, .block 0 (.loop Zab))] (by kernel_rfl) (AllOK.cons (Zsp k) AllOK.nil)
theorem Zmv (k : Nat) : SoundAt Try.prog k 142 Z3Q.E := @Ze Try.prog Z3Q Z2X 142 Try.f142 Zar (by kernel_rfl) (by kernel_rfl) (by kernel_rfl) Try.func142 (by kernel_rfl) (by kernel_rfl) (by kernel_rfl) T_ok Zgo Zzb ZyR Zzh k
noncomputable def Z3n : List PK := [PK.mk (Ty.pair (Ty.int .i64) (Ty.pair (Ty.int .i64) (Ty.slice (79 : Nat) (Ty.pair (Ty.int .i64) (Ty.int .i64))))) true none false none]
noncomputable def ZeF : List PK := [PK.mk (Ty.pair (Ty.slice (5 : Nat) (Ty.int .u8)) (Ty.pair (Ty.int .i64) (Ty.int .u64))) false none false (some (114 : Nat))]
noncomputable def ZdC (r : (Int × Int × List (Int × Int)) × Int × Int) : Tup Z3n × OutD := ((r.1, ()), some ⟨Ty.pair (Ty.slice (5 : Nat) (Ty.int .u8)) (Ty.pair (Ty.int .i64) (Ty.int .u64)), [([], r.2)]⟩)
noncomputable def Z9L : Tup Z3n × OutD → Option ((Int × Int × List (Int × Int)) × Int × Int)
 | (a, some ⟨u, ys⟩) => if h : u = Ty.pair (Ty.slice (5 : Nat) (Ty.int .u8)) (Ty.pair (Ty.int .i64) (Ty.int .u64)) then (match castU h ys with
  | [([], y)] => some (a.1, y)
  | _ => none) else none
 | _ => none
theorem Ziz : ∀ b r, Z9L b = some r → ZdC r = b := by
 rintro ⟨a, o⟩ r h
 cases o with
 | none => cases h
 | some s =>
  obtain ⟨u, ys⟩ := s
  simp only [Z9L] at h
  split at h
  ·rename_i hu
   subst hu
   match ys, h with
   | [], h => cases (show (none : Option _) = some r from h)
   | [([], y)], h => injection (show some _ = some r from h) with h; subst h; rfl
   | [(_ :: _, y)], h => cases (show (none : Option _) = some r from h)
   | (h1, _) :: _ :: _, h => cases h1 <;> cases (show (none : Option _) = some r from h)
  ·cases h
noncomputable def Z1x : Nat → Int → Int → List Int → Int → Int → List (Int × Int) → Int → Int → List (Int × Int) → Option (Int × Int × List Int × Int × Int × List (Int × Int) × Int × Int × List (Int × Int)) := fun k b1_1 b1_2 o2 b3_0 b3_1 o4 b5_0 b5_1 o6 =>
    Option.bind (Z2 k (o2, b1_1, b1_2) (↑(List.length o6) : Int)) fun z4 => Option.bind (Z1p k (o2, Prod.fst z4.2, Prod.snd z4.2)) fun z5 => if (0 : Int) ≤ Prod.fst z4 then if Prod.fst z4 < (↑(List.length o6) : Int) then some (Prod.fst z5.2, Prod.snd z5.2, o2, b3_0, b3_1, o4, b5_0, b5_1, List.set o6 (Int.toNat z4.1) (Prod.fst z5.1, Prod.snd z5.1)) else none else none
noncomputable def Z54 : Nat → Int → Int → List Int → Int → Int → List (Int × Int) → Int → Int → List (Int × Int) → Option (List (Int × Int × List Int × Int × Int × List (Int × Int) × Int × Int × List (Int × Int))) := fun k b1_1 b1_2 o2 b3_0 b3_1 o4 b5_0 b5_1 o6 =>
    joinL (Option.bind (Z2 k (o2, b1_1, b1_2) (↑(List.length o6) : Int)) fun z6 => Option.bind (Z1p k (o2, Prod.fst z6.2, Prod.snd z6.2)) fun z7 => if (0 : Int) ≤ Prod.fst z6 then if Prod.fst z6 < (↑(List.length o6) : Int) then some [(Prod.fst z7.2, Prod.snd z7.2, o2, b3_0, b3_1, o4, b5_0, b5_1, List.set o6 (Int.toNat z6.1) (Prod.fst z7.1, Prod.snd z7.1))] else none else none) (Option.bind (Z2 k (o2, b1_1, b1_2) (↑(List.length o6) : Int)) fun z8 => joinL (Option.bind (Z1p k (o2, Prod.fst z8.2, Prod.snd z8.2)) fun z9 => if (0 : Int) ≤ Prod.fst z8 then if Prod.fst z8 < (↑(List.length o6) : Int) then some [(Prod.fst z9.2, Prod.snd z9.2, o2, b3_0, b3_1, o4, b5_0, b5_1, List.set o6 (Int.toNat z8.1) (Prod.fst z9.1, Prod.snd z9.1))] else none else none) (Option.bind (Z1p k (o2, Prod.fst z8.2, Prod.snd z8.2)) fun z10 => if (0 : Int) ≤ Prod.fst z8 then if Prod.fst z8 < (↑(List.length o6) : Int) then some [(Prod.fst z10.2, Prod.snd z10.2, o2, b3_0, b3_1, o4, b5_0, b5_1, List.set o6 (Int.toNat z8.1) (Prod.fst z10.1, Prod.snd z10.1))] else none else none))
noncomputable def ZbW : Spec := Spec.mk [OSh.ro, OSh.box (114 : Nat) [Sh.sl (2 : Nat), Sh.int .i64, Sh.int .u64], OSh.fx (Ty.int .u8), OSh.box (53 : Nat) [Sh.int .i64, Sh.int .i64, Sh.sl (4 : Nat)], OSh.row true (79 : Nat) (Ty.pair (Ty.int .i64) (Ty.int .i64)), OSh.box (53 : Nat) [Sh.int .i64, Sh.int .i64, Sh.sl (6 : Nat)], OSh.row true (79 : Nat) (Ty.pair (Ty.int .i64) (Ty.int .i64))] [((0 : Nat), TSh.at (Sh.ptr (1 : Nat) (0 : Nat))), ((2 : Nat), TSh.at (Sh.ptr (3 : Nat) (0 : Nat))), ((3 : Nat), TSh.at (Sh.ptr (5 : Nat) (0 : Nat)))]
noncomputable def ZiO : Spec := Spec.mk [OSh.ro, OSh.box (114 : Nat) [Sh.sl (2 : Nat), Sh.int .i64, Sh.int .u64], OSh.fx (Ty.int .u8), OSh.box (53 : Nat) [Sh.int .i64, Sh.int .i64, Sh.sl (4 : Nat)], OSh.row true (79 : Nat) (Ty.pair (Ty.int .i64) (Ty.int .i64)), OSh.box (53 : Nat) [Sh.int .i64, Sh.int .i64, Sh.sl (6 : Nat)], OSh.row true (79 : Nat) (Ty.pair (Ty.int .i64) (Ty.int .i64))] [((2 : Nat), TSh.at (Sh.ptr (3 : Nat) (0 : Nat))), ((3 : Nat), TSh.at (Sh.ptr (5 : Nat) (0 : Nat)))]
noncomputable def Z25 : LoopDef (Tup Z3n × OutD) := .plain ZbW ZiO (Int × Int × List Int × Int × Int × List (Int × Int) × Int × Int × List (Int × Int)) (fun k x => Z1x k x.1.2.1.2.1 x.1.2.1.2.2.1 x.1.2.2.1 x.1.2.2.2.1.1 x.1.2.2.2.1.2.1 x.1.2.2.2.2.1 x.1.2.2.2.2.2.1.1 x.1.2.2.2.2.2.1.2.1 x.1.2.2.2.2.2.2.1) (fun z => (((), ((), z.1, z.2.1, ()), z.2.2.1, (z.2.2.2.1, z.2.2.2.2.1, (), ()), z.2.2.2.2.2.1, (z.2.2.2.2.2.2.1, z.2.2.2.2.2.2.2.1, (), ()), z.2.2.2.2.2.2.2.2, ()), ((), (), ()))) (fun y => (y.1.2.1.2.1, y.1.2.1.2.2.1, y.1.2.2.1, y.1.2.2.2.1.1, y.1.2.2.2.1.2.1, y.1.2.2.2.2.1, y.1.2.2.2.2.2.1.1, y.1.2.2.2.2.2.1.2.1, y.1.2.2.2.2.2.2.1)) (fun _ => rfl)
theorem Ziv (k : Nat) (b1_1 : Int) (b1_2 : Int) (o2 : List Int) (b3_0 : Int) (b3_1 : Int) (o4 : List (Int × Int)) (b5_0 : Int) (b5_1 : Int) (o6 : List (Int × Int)) : Z54 k b1_1 b1_2 o2 b3_0 b3_1 o4 b5_0 b5_1 o6 = repl 3 (Z1x k b1_1 b1_2 o2 b3_0 b3_1 o4 b5_0 b5_1 o6) := by
 first
 | (simp only [Z54, Z1x, Zb, Zg, Zc, Za, Z9, Z8, if_true]; done)
 | (simp only [Z54, Z1x, Zb, Zg, Zc, Za, Z9, Z8, if_true]; simp only [Z4y, Z4u, Z7o, Z8]; simp only [Z9c]; exact Z5J ⟨fun h => by simp only [h, and_self], fun h => by simp only [h, and_self]⟩)
noncomputable def ZP : Nat → List Int × Int × Int → Option ((Int × Int × List (Int × Int)) × Int × Int)
 | 0, _ => none
 | k + 1, p0 =>
  Option.bind (Z6T k (Prod.fst p0, Prod.fst p0.2, Prod.snd p0.2)) fun z0 => Option.bind (Z2 k (Prod.fst p0, Prod.fst z0.2, Prod.snd z0.2) (36 : Int)) fun z1 => if decide (Prod.fst z1 = (0 : Int)) = true then Option.bind (Zf k (Prod.fst p0, Prod.fst z1.2, Prod.snd z1.2) [(0 : Int), wrap64 (Prod.fst z0.1 + (1 : Int)), (10 : Int), (11 : Int)]) fun z2 => some ((Prod.fst z2, Prod.fst z0.1.2, Prod.snd z0.1.2), Prod.fst z2.2, Prod.snd z2.2) else if decide (Prod.fst z1 = (1 : Int)) = true then Option.bind (Zf k (Prod.fst p0, Prod.fst z1.2, Prod.snd z1.2) [(0 : Int), wrap64 (Prod.fst z0.1.2 + (1 : Int)), (9 : Int), (10 : Int)]) fun z3 => some ((Prod.fst z0.1, Prod.fst z3, Prod.snd z0.1.2), Prod.fst z3.2, Prod.snd z3.2) else if decide (Prod.fst z1 = (2 : Int)) = true then Option.bind (Z1x k z1.2.1 z1.2.2 p0.1 (0 : Int) (0 : Int) [] z0.1.1 z0.1.2.1 z0.1.2.2) fun z11 => some ((Prod.fst z11.2.2.2.2.2.2, Prod.fst z11.2.2.2.2.2.2.2, Prod.snd z11.2.2.2.2.2.2.2), Prod.fst z11, Prod.fst z11.2) else if decide (Prod.fst z1 = (3 : Int)) = true then if (1 : Int) ≤ (↑(List.length z0.1.2.2) : Int) then if (↑(List.length z0.1.2.2) : Int) ≤ (↑(List.length z0.1.2.2) : Int) then some ((Prod.fst z0.1, Prod.fst z0.1.2, List.drop (Int.toNat (1 : Int)) z0.1.2.2), Prod.fst z1.2, Prod.snd z1.2) else none else none else if decide (Prod.fst z1 = (4 : Int)) = true then some (((11 : Int), (2 : Int), List.replicate (Int.toNat (22 : Int)) ((0 : Int), (0 : Int))), Prod.fst z1.2, Prod.snd z1.2) else if decide (Prod.fst z1 = (5 : Int)) = true then some (((2 : Int), (10 : Int), List.replicate (Int.toNat (20 : Int)) ((0 : Int), (0 : Int))), Prod.fst z1.2, Prod.snd z1.2) else some ((Prod.fst z0.1, Prod.fst z0.1.2, Prod.snd z0.1.2), Prod.fst z1.2, Prod.snd z1.2)
noncomputable def Z1J : FnDef := .of ZeF Z3n ((Int × Int × List (Int × Int)) × Int × Int) (fun k x => ZP k x.1) ZdC Z9L Ziz
noncomputable def Z70 : Code := Try.f177.body.getD .skip
noncomputable def Z13 : Ctx (Tup Z3n × OutD) := { T := T, G := [(202, Z2w.E), (111, ZI.E), (90, Z10.E), (203, Z20.E)], mvs := [42], no := 2, n := 53, res := resOf T ZeF Z3n Try.f177.results.toList, loops := [], regs := [(8, Z25.E)], conds := [] }
theorem Zev (k : Nat) : EnvOK Try.prog k Z13.G := (EnvOK.cons (Zt3 k) (EnvOK.cons (Z32 k) (EnvOK.cons (Z6V k) (EnvOK.cons (Zop k) (EnvOK.nil mixed)))))
noncomputable def Z7U : Array Oper := (findReg 8 Z70).getD #[]
theorem ZiG (k : Nat) (x : ZbW.D) : execD Z13.T Z13.G Z13.mvs k Z7U (Z25.inp.st Z13.n x) (outK Z13 Z25) = Z54 k x.1.2.1.2.1 x.1.2.1.2.2.1 x.1.2.2.1 x.1.2.2.2.1.1 x.1.2.2.2.1.2.1 x.1.2.2.2.2.1 x.1.2.2.2.2.2.1.1 x.1.2.2.2.2.2.1.2.1 x.1.2.2.2.2.2.2.1 := by kernel_rfl
theorem ZhD (k : Nat) : EOK Try.prog Z13 k Z25.E (.region 8 Z7U true) := Zau (D := Z25) (m := 3) T_ok (Zev k) (fun x => (ZiG k x).trans (Ziv k x.1.2.1.2.1 x.1.2.1.2.2.1 x.1.2.2.1 x.1.2.2.2.1.1 x.1.2.2.2.1.2.1 x.1.2.2.2.2.1 x.1.2.2.2.2.2.1.1 x.1.2.2.2.2.2.1.2.1 x.1.2.2.2.2.2.2.1))
theorem Znj (k : Nat) (x : Tup Z1J.ps) : Z1J.f (k + 1) x = fnK Z1J Z13 Z70 k x := by kernel_rfl
theorem Zn2 (x : Tup Z1J.ps) : Z1J.f 0 x = none := by kernel_rfl
theorem ZnU (k : Nat) : LOK Try.prog Z13 k Z70 := LOK.by [(Z25.E, .region 8 Z7U true)] (by kernel_rfl) (AllOK.cons (ZhD k) AllOK.nil)
theorem ZnP (k : Nat) : SoundAt Try.prog k 177 Z1J.E := @Ze Try.prog Z1J Z13 177 Try.f177 Z70 (by kernel_rfl) (by kernel_rfl) (by kernel_rfl) Try.func177 (by kernel_rfl) (by kernel_rfl) (by kernel_rfl) T_ok Zev ZnU Zn2 Znj k
end
end Go.Proofs.Ytgjmhbjdhihgaaa.Vs
