/- The proof, part 12. -/
import Derived.Test.Ytgjmhbjdhihgaaaqgm10
set_option maxRecDepth 100000
set_option maxHeartbeats 2000000
set_option linter.unusedVariables false
set_option linter.unusedSimpArgs false
namespace Go.Proofs.Ytgjmhbjdhihgaaa.Vs
open Go.RowKit
noncomputable section
noncomputable def Zd : List PK := [PK.mk Ty.bool false none false none]
noncomputable def Z4Z : List PK := [PK.mk (Ty.slice (5 : Nat) (Ty.int .u8)) false none false none, PK.mk (Ty.slice (5 : Nat) (Ty.int .u8)) false none false none]
noncomputable def Zl (r : Bool) : Tup Zd × OutD := ((r, ()), none)
noncomputable def Zk : Tup Zd × OutD → Option (Bool)
 | (a, none) => some (a.1)
 | _ => none
theorem Zg : ∀ b r, Zk b = some r → Zl r = b := by
 rintro ⟨a, o⟩ r h
 cases o with
 | none => injection h with h; subst h; rfl
 | some _ => cases h
noncomputable def Z2k : Nat → Int → Int → List (Int × Int) → List (List Int) → List (List Int) → List Int → Int → Int → List (Int × Int) → List (Int × Int × Int) → List (List (Int × Int × Int)) → List (List Int) → Bool → Int → Int → Option (LR (Int × Int × List (Int × Int) × List (List Int) × List (List Int) × List Int × Bool) Bool)
 | 0, _, _, _, _, _, _, _, _, _, _, _, _, _, _, _ => none
 | k + 1, b1_0, b1_1, o2, o3, o4, o5, b6_0, b6_1, o7, o8, o9, o10, v8, v336, v337 =>
  if decide (v337 < v336) = true then if (0 : Int) ≤ v337 then if v337 < (↑(List.length o10) : Int) then Option.bind (Zbf k (b6_0, b6_1, o7) o8 (List.getD o10 (Int.toNat v337) [])) fun z29 => if (!Prod.snd z29.2) = true then some (LR.ret false) else if (0 : Int) ≤ v337 then if v337 < (↑(List.length o9) : Int) then Option.bind (Zdj k z29.1 (List.getD o9 (Int.toNat v337) [])) fun z30 => if (!z30) = true then some (LR.ret false) else Z2k k b1_0 b1_1 o2 o3 o4 o5 b6_0 b6_1 o7 o8 o9 o10 v8 v336 (wrap64 (v337 + (1 : Int))) else none else none else none else none else some (LR.go (b1_0, b1_1, o2, o3, o4, o5, v8))
noncomputable def Z9d : Spec := Spec.mk [OSh.ro, OSh.box (53 : Nat) [Sh.int .i64, Sh.int .i64, Sh.sl (2 : Nat)], OSh.row true (79 : Nat) (Ty.pair (Ty.int .i64) (Ty.int .i64)), OSh.row true (34 : Nat) (Ty.slice (3 : Nat) (Ty.int .i64)), OSh.row true (34 : Nat) (Ty.slice (3 : Nat) (Ty.int .i64)), OSh.row true (3 : Nat) (Ty.int .i64), OSh.box (53 : Nat) [Sh.int .i64, Sh.int .i64, Sh.sl (7 : Nat)], OSh.row true (79 : Nat) (Ty.pair (Ty.int .i64) (Ty.int .i64)), OSh.row true (77 : Nat) (Ty.pair (Ty.int .i64) (Ty.pair (Ty.int .i64) (Ty.int .i64))), OSh.row true (57 : Nat) (Ty.slice (63 : Nat) (Ty.pair (Ty.int .i64) (Ty.pair (Ty.int .i64) (Ty.int .i64)))), OSh.row true (34 : Nat) (Ty.slice (3 : Nat) (Ty.int .i64))] [((5 : Nat), TSh.at (Sh.ptr (1 : Nat) (0 : Nat))), ((6 : Nat), TSh.at (Sh.sl (3 : Nat))), ((8 : Nat), TSh.at Sh.bool), ((9 : Nat), TSh.at (Sh.sl (4 : Nat))), ((13 : Nat), TSh.at (Sh.sl (5 : Nat))), ((15 : Nat), TSh.at (Sh.ptr (6 : Nat) (0 : Nat))), ((16 : Nat), TSh.at (Sh.sl (8 : Nat))), ((20 : Nat), TSh.at (Sh.sl (9 : Nat))), ((335 : Nat), TSh.at (Sh.sl (10 : Nat))), ((336 : Nat), TSh.at (Sh.int .i64)), ((337 : Nat), TSh.at (Sh.int .i64))]
noncomputable def Zmb : Spec := Spec.mk [OSh.ro, OSh.box (53 : Nat) [Sh.int .i64, Sh.int .i64, Sh.sl (2 : Nat)], OSh.row true (79 : Nat) (Ty.pair (Ty.int .i64) (Ty.int .i64)), OSh.row true (34 : Nat) (Ty.slice (3 : Nat) (Ty.int .i64)), OSh.row true (34 : Nat) (Ty.slice (3 : Nat) (Ty.int .i64)), OSh.row true (3 : Nat) (Ty.int .i64)] [((5 : Nat), TSh.at (Sh.ptr (1 : Nat) (0 : Nat))), ((6 : Nat), TSh.at (Sh.sl (3 : Nat))), ((8 : Nat), TSh.at Sh.bool), ((9 : Nat), TSh.at (Sh.sl (4 : Nat))), ((13 : Nat), TSh.at (Sh.sl (5 : Nat)))]
noncomputable def Z24 : LoopDef (Tup Zd × OutD) := .rets Z9d Zmb (Int × Int × List (Int × Int) × List (List Int) × List (List Int) × List Int × Bool) (Bool) (fun k x => Z2k k x.1.2.1.1 x.1.2.1.2.1 x.1.2.2.1 x.1.2.2.2.1 x.1.2.2.2.2.1 x.1.2.2.2.2.2.1 x.1.2.2.2.2.2.2.1.1 x.1.2.2.2.2.2.2.1.2.1 x.1.2.2.2.2.2.2.2.1 x.1.2.2.2.2.2.2.2.2.1 x.1.2.2.2.2.2.2.2.2.2.1 x.1.2.2.2.2.2.2.2.2.2.2.1 x.2.2.2.1 x.2.2.2.2.2.2.2.2.2.2.1 x.2.2.2.2.2.2.2.2.2.2.2.1) (fun z => (((), (z.1, z.2.1, (), ()), z.2.2.1, z.2.2.2.1, z.2.2.2.2.1, z.2.2.2.2.2.1, ()), ((), (), z.2.2.2.2.2.2, (), (), ()))) (fun y => (y.1.2.1.1, y.1.2.1.2.1, y.1.2.2.1, y.1.2.2.2.1, y.1.2.2.2.2.1, y.1.2.2.2.2.2.1, y.2.2.2.1)) (fun _ => rfl) Zl Zk Zg
noncomputable def ZW : Nat → Int → Int → List (Int × Int) → List (List Int) → List Int → List (Int × Int × Int) → List (List Int) → List (List (Int × Int × Int)) → Int → Int → Int → Int → Int → Int → Int → Int → Option (LR (Int × Int × List (Int × Int) × List (List Int) × List Int × List (Int × Int × Int) × List (List Int) × List (List (Int × Int × Int)) × Int × Int × Int × Int) Bool)
 | 0, _, _, _, _, _, _, _, _, _, _, _, _, _, _, _, _ => none
 | k + 1, b1_0, b1_1, o2, o3, o4, o5, o6, o7, v60, v61, v62, v392, v393, v398, v399, v400 =>
  if decide (v400 < v399) = true then if (0 : Int) ≤ v400 then if v400 < (↑(List.length (List.getD o6 (Int.toNat v398) [])) : Int) then if decide (List.getD (List.getD o6 (Int.toNat v398) []) (Int.toNat v400) (0 : Int) ≥ (0 : Int)) = true then if (0 : Int) ≤ List.getD (List.getD o6 (Int.toNat v398) []) (Int.toNat v400) (0 : Int) then if List.getD (List.getD o6 (Int.toNat v398) []) (Int.toNat v400) (0 : Int) < (↑(List.length o5) : Int) then Option.bind (Z4v k (b1_0, b1_1, o2) [(Prod.fst (List.getD o5 (Int.toNat (List.getD (List.getD o6 (Int.toNat v398) []) (Int.toNat v400) (0 : Int))) ((0 : Int), (0 : Int), (0 : Int))), Prod.fst (Prod.snd (List.getD o5 (Int.toNat (List.getD (List.getD o6 (Int.toNat v398) []) (Int.toNat v400) (0 : Int))) ((0 : Int), (0 : Int), (0 : Int)))), Prod.snd (Prod.snd (List.getD o5 (Int.toNat (List.getD (List.getD o6 (Int.toNat v398) []) (Int.toNat v400) (0 : Int))) ((0 : Int), (0 : Int), (0 : Int)))))] o3) fun z33 => Option.bind (Z4p k (b1_0, b1_1, o2) [(Prod.fst (List.getD o5 (Int.toNat (List.getD (List.getD o6 (Int.toNat v398) []) (Int.toNat v400) (0 : Int))) ((0 : Int), (0 : Int), (0 : Int))), Prod.fst (Prod.snd (List.getD o5 (Int.toNat (List.getD (List.getD o6 (Int.toNat v398) []) (Int.toNat v400) (0 : Int))) ((0 : Int), (0 : Int), (0 : Int)))), Prod.snd (Prod.snd (List.getD o5 (Int.toNat (List.getD (List.getD o6 (Int.toNat v398) []) (Int.toNat v400) (0 : Int))) ((0 : Int), (0 : Int), (0 : Int)))))] o3) fun z34 => if (!Prod.snd z33) = true then some (LR.ret false) else if (!Prod.snd z34) = true then some (LR.ret false) else Option.bind (Z3v k z33.1 z34.1) fun z35 => if (!z35) = true then some (LR.ret false) else if decide (v400 > (0 : Int)) = true then if (0 : Int) ≤ wrap64 (v400 - (1 : Int)) then if wrap64 (v400 - (1 : Int)) < (↑(List.length (List.getD o6 (Int.toNat v62) [])) : Int) then if decide (List.getD (List.getD o6 (Int.toNat v398) []) (Int.toNat v400) (0 : Int) ≤ List.getD (List.getD o6 (Int.toNat v62) []) (Int.toNat (wrap64 (v400 - (1 : Int)))) (0 : Int)) = true then some (LR.ret false) else Option.bind (Z3v k z34.1 o7) fun z36 => if (!z36) = true then some (LR.ret false) else Option.bind (Zbi k o4 (List.getD (List.getD o6 (Int.toNat v398) []) (Int.toNat v400) (0 : Int))) fun z37 => if (!z37 == decide (v61 > (0 : Int))) = true then some (LR.ret false) else ZW k b1_0 b1_1 o2 o3 o4 o5 o6 z34.1 (wrap64 (v60 + (1 : Int))) v61 v62 v392 v393 v398 v399 (wrap64 (v400 + (1 : Int))) else none else none else Option.bind (Zbi k o4 (List.getD (List.getD o6 (Int.toNat v398) []) (Int.toNat v400) (0 : Int))) fun z38 => if (!z38 == decide (v61 > (0 : Int))) = true then some (LR.ret false) else ZW k b1_0 b1_1 o2 o3 o4 o5 o6 z34.1 (wrap64 (v60 + (1 : Int))) v61 v62 v392 v393 v398 v399 (wrap64 (v400 + (1 : Int))) else none else none else Option.bind (Z4v k (b1_0, b1_1, o2) [] o3) fun z39 => Option.bind (Z4p k (b1_0, b1_1, o2) [] o3) fun z40 => if (!Prod.snd z39) = true then some (LR.ret false) else if (!Prod.snd z40) = true then some (LR.ret false) else Option.bind (Z3v k z39.1 z40.1) fun z41 => if (!z41) = true then some (LR.ret false) else if decide (v400 > (0 : Int)) = true then if (0 : Int) ≤ wrap64 (v400 - (1 : Int)) then if wrap64 (v400 - (1 : Int)) < (↑(List.length (List.getD o6 (Int.toNat v62) [])) : Int) then if decide (List.getD (List.getD o6 (Int.toNat v398) []) (Int.toNat v400) (0 : Int) ≤ List.getD (List.getD o6 (Int.toNat v62) []) (Int.toNat (wrap64 (v400 - (1 : Int)))) (0 : Int)) = true then some (LR.ret false) else Option.bind (Z3v k z40.1 o7) fun z42 => if (!z42) = true then some (LR.ret false) else Option.bind (Zbi k o4 (List.getD (List.getD o6 (Int.toNat v398) []) (Int.toNat v400) (0 : Int))) fun z43 => if (!z43 == decide (v61 > (0 : Int))) = true then some (LR.ret false) else ZW k b1_0 b1_1 o2 o3 o4 o5 o6 z40.1 (wrap64 (v60 + (1 : Int))) v61 v62 v392 v393 v398 v399 (wrap64 (v400 + (1 : Int))) else none else none else Option.bind (Zbi k o4 (List.getD (List.getD o6 (Int.toNat v398) []) (Int.toNat v400) (0 : Int))) fun z44 => if (!z44 == decide (v61 > (0 : Int))) = true then some (LR.ret false) else ZW k b1_0 b1_1 o2 o3 o4 o5 o6 z40.1 (wrap64 (v60 + (1 : Int))) v61 v62 v392 v393 v398 v399 (wrap64 (v400 + (1 : Int))) else none else none else some (LR.go (b1_0, b1_1, o2, o3, o4, o5, o6, o7, v60, v62, v392, v393))
noncomputable def Z9s : Spec := Spec.mk [OSh.ro, OSh.box (53 : Nat) [Sh.int .i64, Sh.int .i64, Sh.sl (2 : Nat)], OSh.row true (79 : Nat) (Ty.pair (Ty.int .i64) (Ty.int .i64)), OSh.row true (34 : Nat) (Ty.slice (3 : Nat) (Ty.int .i64)), OSh.row true (3 : Nat) (Ty.int .i64), OSh.row true (77 : Nat) (Ty.pair (Ty.int .i64) (Ty.pair (Ty.int .i64) (Ty.int .i64))), OSh.row true (34 : Nat) (Ty.slice (3 : Nat) (Ty.int .i64)), OSh.row true (57 : Nat) (Ty.slice (63 : Nat) (Ty.pair (Ty.int .i64) (Ty.pair (Ty.int .i64) (Ty.int .i64))))] [((5 : Nat), TSh.at (Sh.ptr (1 : Nat) (0 : Nat))), ((6 : Nat), TSh.at (Sh.sl (3 : Nat))), ((13 : Nat), TSh.at (Sh.sl (4 : Nat))), ((58 : Nat), TSh.at (Sh.sl (5 : Nat))), ((60 : Nat), TSh.at (Sh.int .i64)), ((61 : Nat), TSh.at (Sh.int .i64)), ((62 : Nat), TSh.at (Sh.inn (6 : Nat))), ((63 : Nat), TSh.at (Sh.sl (7 : Nat))), ((391 : Nat), TSh.at (Sh.sl (6 : Nat))), ((392 : Nat), TSh.at (Sh.int .i64)), ((393 : Nat), TSh.at (Sh.int .i64)), ((398 : Nat), TSh.at (Sh.inn (6 : Nat))), ((399 : Nat), TSh.at (Sh.int .i64)), ((400 : Nat), TSh.at (Sh.int .i64))]
noncomputable def Zmc : Spec := Spec.mk [OSh.ro, OSh.box (53 : Nat) [Sh.int .i64, Sh.int .i64, Sh.sl (2 : Nat)], OSh.row true (79 : Nat) (Ty.pair (Ty.int .i64) (Ty.int .i64)), OSh.row true (34 : Nat) (Ty.slice (3 : Nat) (Ty.int .i64)), OSh.row true (3 : Nat) (Ty.int .i64), OSh.row true (77 : Nat) (Ty.pair (Ty.int .i64) (Ty.pair (Ty.int .i64) (Ty.int .i64))), OSh.row true (34 : Nat) (Ty.slice (3 : Nat) (Ty.int .i64)), OSh.row true (57 : Nat) (Ty.slice (63 : Nat) (Ty.pair (Ty.int .i64) (Ty.pair (Ty.int .i64) (Ty.int .i64))))] [((5 : Nat), TSh.at (Sh.ptr (1 : Nat) (0 : Nat))), ((6 : Nat), TSh.at (Sh.sl (3 : Nat))), ((13 : Nat), TSh.at (Sh.sl (4 : Nat))), ((58 : Nat), TSh.at (Sh.sl (5 : Nat))), ((60 : Nat), TSh.at (Sh.int .i64)), ((62 : Nat), TSh.at (Sh.inn (6 : Nat))), ((63 : Nat), TSh.at (Sh.sl (7 : Nat))), ((391 : Nat), TSh.at (Sh.sl (6 : Nat))), ((392 : Nat), TSh.at (Sh.int .i64)), ((393 : Nat), TSh.at (Sh.int .i64))]
noncomputable def Z21 : LoopDef (Tup Zd × OutD) := .rets Z9s Zmc (Int × Int × List (Int × Int) × List (List Int) × List Int × List (Int × Int × Int) × List (List Int) × List (List (Int × Int × Int)) × Int × Int × Int × Int) (Bool) (fun k x => ZW k x.1.2.1.1 x.1.2.1.2.1 x.1.2.2.1 x.1.2.2.2.1 x.1.2.2.2.2.1 x.1.2.2.2.2.2.1 x.1.2.2.2.2.2.2.1 x.1.2.2.2.2.2.2.2.1 x.2.2.2.2.2.1 x.2.2.2.2.2.2.1 x.2.2.2.2.2.2.2.1 x.2.2.2.2.2.2.2.2.2.2.1 x.2.2.2.2.2.2.2.2.2.2.2.1 x.2.2.2.2.2.2.2.2.2.2.2.2.1 x.2.2.2.2.2.2.2.2.2.2.2.2.2.1 x.2.2.2.2.2.2.2.2.2.2.2.2.2.2.1) (fun z => (((), (z.1, z.2.1, (), ()), z.2.2.1, z.2.2.2.1, z.2.2.2.2.1, z.2.2.2.2.2.1, z.2.2.2.2.2.2.1, z.2.2.2.2.2.2.2.1, ()), ((), (), (), (), z.2.2.2.2.2.2.2.2.1, z.2.2.2.2.2.2.2.2.2.1, (), (), z.2.2.2.2.2.2.2.2.2.2.1, z.2.2.2.2.2.2.2.2.2.2.2, ()))) (fun y => (y.1.2.1.1, y.1.2.1.2.1, y.1.2.2.1, y.1.2.2.2.1, y.1.2.2.2.2.1, y.1.2.2.2.2.2.1, y.1.2.2.2.2.2.2.1, y.1.2.2.2.2.2.2.2.1, y.2.2.2.2.2.1, y.2.2.2.2.2.2.1, y.2.2.2.2.2.2.2.2.2.1, y.2.2.2.2.2.2.2.2.2.2.1)) (fun _ => rfl) Zl Zk Zg
noncomputable def Z2j : Nat → Int → Int → List (Int × Int) → List (List Int) → List Int → List (Int × Int × Int) → List (List Int) → Int → Int → Int → Option (LR (List (Int × Int × Int) × Int) Bool)
 | 0, _, _, _, _, _, _, _, _, _, _ => none
 | k + 1, b1_0, b1_1, o2, o3, o4, o5, o6, v60, v392, v393 =>
  if decide (v393 < v392) = true then if (0 : Int) ≤ v393 then if v393 < (↑(List.length o6) : Int) then Option.bind (ZW k b1_0 b1_1 o2 o3 o4 o5 o6 [] v60 v393 v393 v392 v393 v393 (↑(List.length (List.getD o6 (Int.toNat v393) [])) : Int) (0 : Int)) fun z45 => LR.on z45 (fun y45 => Option.bind (Z91 k (Prod.fst y45, Prod.fst y45.2, Prod.fst y45.2.2) y45.2.2.2.1 y45.2.2.2.2.2.2.2.1) fun z46 => if (!Prod.snd z46) = true then some (LR.ret false) else Option.bind (Za9 k z46.1 (List.getD y45.2.2.2.2.2.2.1 (Int.toNat y45.2.2.2.2.2.2.2.2.2.1) [])) fun z47 => if (!z47) = true then some (LR.ret false) else Z2j k y45.1 y45.2.1 y45.2.2.1 y45.2.2.2.1 y45.2.2.2.2.1 y45.2.2.2.2.2.1 y45.2.2.2.2.2.2.1 y45.2.2.2.2.2.2.2.2.1 y45.2.2.2.2.2.2.2.2.2.2.1 (wrap64 (Prod.snd y45.2.2.2.2.2.2.2.2.2.2 + (1 : Int)))) fun r45 => some (LR.ret r45) else none else none else some (LR.go (o5, v60))
noncomputable def Z9o : Spec := Spec.mk [OSh.ro, OSh.box (53 : Nat) [Sh.int .i64, Sh.int .i64, Sh.sl (2 : Nat)], OSh.row true (79 : Nat) (Ty.pair (Ty.int .i64) (Ty.int .i64)), OSh.row true (34 : Nat) (Ty.slice (3 : Nat) (Ty.int .i64)), OSh.row true (3 : Nat) (Ty.int .i64), OSh.row true (77 : Nat) (Ty.pair (Ty.int .i64) (Ty.pair (Ty.int .i64) (Ty.int .i64))), OSh.row true (34 : Nat) (Ty.slice (3 : Nat) (Ty.int .i64))] [((5 : Nat), TSh.at (Sh.ptr (1 : Nat) (0 : Nat))), ((6 : Nat), TSh.at (Sh.sl (3 : Nat))), ((13 : Nat), TSh.at (Sh.sl (4 : Nat))), ((58 : Nat), TSh.at (Sh.sl (5 : Nat))), ((60 : Nat), TSh.at (Sh.int .i64)), ((391 : Nat), TSh.at (Sh.sl (6 : Nat))), ((392 : Nat), TSh.at (Sh.int .i64)), ((393 : Nat), TSh.at (Sh.int .i64))]
noncomputable def Zm2 : Spec := Spec.mk [OSh.ro, OSh.row true (77 : Nat) (Ty.pair (Ty.int .i64) (Ty.pair (Ty.int .i64) (Ty.int .i64)))] [((58 : Nat), TSh.at (Sh.sl (1 : Nat))), ((60 : Nat), TSh.at (Sh.int .i64))]
noncomputable def Z22 : LoopDef (Tup Zd × OutD) := .rets Z9o Zm2 (List (Int × Int × Int) × Int) (Bool) (fun k x => Z2j k x.1.2.1.1 x.1.2.1.2.1 x.1.2.2.1 x.1.2.2.2.1 x.1.2.2.2.2.1 x.1.2.2.2.2.2.1 x.1.2.2.2.2.2.2.1 x.2.2.2.2.2.1 x.2.2.2.2.2.2.2.1 x.2.2.2.2.2.2.2.2.1) (fun z => (((), z.1, ()), ((), z.2, ()))) (fun y => (y.1.2.1, y.2.2.1)) (fun _ => rfl) Zl Zk Zg
noncomputable def Z8y : Nat → List (Int × Int × Int) → Int → Option Bool := fun k o1 v60 =>
    some (decide (v60 = wrap64 ((↑(List.length o1) : Int) + (1 : Int))))
noncomputable def Zk6 : Spec := Spec.mk [OSh.ro, OSh.row true (77 : Nat) (Ty.pair (Ty.int .i64) (Ty.pair (Ty.int .i64) (Ty.int .i64)))] [((58 : Nat), TSh.at (Sh.sl (1 : Nat))), ((60 : Nat), TSh.at (Sh.int .i64))]
noncomputable def ZG : LoopDef (Tup Zd × OutD) := .ends Zk6 (Bool) (fun k x => Z8y k x.1.2.1 x.2.2.1) Zl Zk Zg
noncomputable def Z8T : Nat → Int → Int → List (Int × Int) → List (List Int) → List (List Int) → List Int → List (Int × Int × Int) → Option Bool := fun k b1_0 b1_1 o2 o3 o4 o5 o6 =>
    Option.bind (Z2j k b1_0 b1_1 o2 o3 o5 o6 o4 (0 : Int) (↑(List.length o4) : Int) (0 : Int)) fun z48 => LR.on z48 (fun y48 => Option.bind (Z8y k y48.1 y48.2) fun z49 => some z49) fun r48 => some r48
noncomputable def Zko : Spec := Spec.mk [OSh.ro, OSh.box (53 : Nat) [Sh.int .i64, Sh.int .i64, Sh.sl (2 : Nat)], OSh.row true (79 : Nat) (Ty.pair (Ty.int .i64) (Ty.int .i64)), OSh.row true (34 : Nat) (Ty.slice (3 : Nat) (Ty.int .i64)), OSh.row true (34 : Nat) (Ty.slice (3 : Nat) (Ty.int .i64)), OSh.row true (3 : Nat) (Ty.int .i64), OSh.row true (77 : Nat) (Ty.pair (Ty.int .i64) (Ty.pair (Ty.int .i64) (Ty.int .i64)))] [((5 : Nat), TSh.at (Sh.ptr (1 : Nat) (0 : Nat))), ((6 : Nat), TSh.at (Sh.sl (3 : Nat))), ((9 : Nat), TSh.at (Sh.sl (4 : Nat))), ((13 : Nat), TSh.at (Sh.sl (5 : Nat))), ((58 : Nat), TSh.at (Sh.sl (6 : Nat)))]
noncomputable def ZJ : LoopDef (Tup Zd × OutD) := .ends Zko (Bool) (fun k x => Z8T k x.1.2.1.1 x.1.2.1.2.1 x.1.2.2.1 x.1.2.2.2.1 x.1.2.2.2.2.1 x.1.2.2.2.2.2.1 x.1.2.2.2.2.2.2.1) Zl Zk Zg
noncomputable def Z2I : Nat → Int → Int → List (Int × Int) → List (List Int) → List (List Int) → List Int → Bool → Option Bool := fun k b1_0 b1_1 o2 o3 o4 o5 v8 =>
    if (!v8) = true then some true else Option.bind (Z8e k (b1_0, b1_1, o2)) fun z32 => if (!Prod.snd z32) = true then some false else if decide ((↑(List.length o4) : Int) = (0 : Int)) = true then some false else if (0 : Int) < (↑(List.length o4) : Int) then if decide ((↑(List.length (List.getD o4 (Int.toNat (0 : Int)) [])) : Int) = (0 : Int)) = true then some false else if (0 : Int) < (↑(List.length o4) : Int) then if (0 : Int) < (↑(List.length (List.getD o4 (Int.toNat (0 : Int)) [])) : Int) then if decide (List.getD (List.getD o4 (Int.toNat (0 : Int)) []) (Int.toNat (0 : Int)) (0 : Int) ≠ (-1 : Int)) = true then some false else Option.bind (Z8T k b1_0 b1_1 o2 o3 o4 o5 z32.1) fun z50 => some z50 else none else none else none
noncomputable def Zk0 : Spec := Spec.mk [OSh.ro, OSh.box (53 : Nat) [Sh.int .i64, Sh.int .i64, Sh.sl (2 : Nat)], OSh.row true (79 : Nat) (Ty.pair (Ty.int .i64) (Ty.int .i64)), OSh.row true (34 : Nat) (Ty.slice (3 : Nat) (Ty.int .i64)), OSh.row true (34 : Nat) (Ty.slice (3 : Nat) (Ty.int .i64)), OSh.row true (3 : Nat) (Ty.int .i64)] [((5 : Nat), TSh.at (Sh.ptr (1 : Nat) (0 : Nat))), ((6 : Nat), TSh.at (Sh.sl (3 : Nat))), ((8 : Nat), TSh.at Sh.bool), ((9 : Nat), TSh.at (Sh.sl (4 : Nat))), ((13 : Nat), TSh.at (Sh.sl (5 : Nat)))]
noncomputable def ZF : LoopDef (Tup Zd × OutD) := .ends Zk0 (Bool) (fun k x => Z2I k x.1.2.1.1 x.1.2.1.2.1 x.1.2.2.1 x.1.2.2.2.1 x.1.2.2.2.2.1 x.1.2.2.2.2.2.1 x.2.2.2.1) Zl Zk Zg
noncomputable def Z2K : Nat → Int → Int → List (Int × Int) → List (List Int) → List (List Int) → List Int → Int → Int → List (Int × Int) → List (Int × Int × Int) → List (List Int) → List (List (Int × Int × Int)) → Bool → Bool → Option Bool := fun k b1_0 b1_1 o2 o3 o4 o5 b6_0 b6_1 o7 o8 o9 o10 v8 v19 =>
    if v19 = true then Option.bind (Z2k k b1_0 b1_1 o2 o3 o4 o5 b6_0 b6_1 o7 o8 o10 o9 v8 (↑(List.length o9) : Int) (0 : Int)) fun z31 => LR.on z31 (fun y31 => Option.bind (Z2I k y31.1 y31.2.1 y31.2.2.1 y31.2.2.2.1 y31.2.2.2.2.1 y31.2.2.2.2.2.1 y31.2.2.2.2.2.2) fun z51 => some z51) fun r31 => some r31 else Option.bind (Z2I k b1_0 b1_1 o2 o3 o4 o5 v8) fun z52 => some z52
noncomputable def Zkf : Spec := Spec.mk [OSh.ro, OSh.box (53 : Nat) [Sh.int .i64, Sh.int .i64, Sh.sl (2 : Nat)], OSh.row true (79 : Nat) (Ty.pair (Ty.int .i64) (Ty.int .i64)), OSh.row true (34 : Nat) (Ty.slice (3 : Nat) (Ty.int .i64)), OSh.row true (34 : Nat) (Ty.slice (3 : Nat) (Ty.int .i64)), OSh.row true (3 : Nat) (Ty.int .i64), OSh.box (53 : Nat) [Sh.int .i64, Sh.int .i64, Sh.sl (7 : Nat)], OSh.row true (79 : Nat) (Ty.pair (Ty.int .i64) (Ty.int .i64)), OSh.row true (77 : Nat) (Ty.pair (Ty.int .i64) (Ty.pair (Ty.int .i64) (Ty.int .i64))), OSh.row true (34 : Nat) (Ty.slice (3 : Nat) (Ty.int .i64)), OSh.row true (57 : Nat) (Ty.slice (63 : Nat) (Ty.pair (Ty.int .i64) (Ty.pair (Ty.int .i64) (Ty.int .i64))))] [((5 : Nat), TSh.at (Sh.ptr (1 : Nat) (0 : Nat))), ((6 : Nat), TSh.at (Sh.sl (3 : Nat))), ((8 : Nat), TSh.at Sh.bool), ((9 : Nat), TSh.at (Sh.sl (4 : Nat))), ((13 : Nat), TSh.at (Sh.sl (5 : Nat))), ((15 : Nat), TSh.at (Sh.ptr (6 : Nat) (0 : Nat))), ((16 : Nat), TSh.at (Sh.sl (8 : Nat))), ((17 : Nat), TSh.at (Sh.sl (9 : Nat))), ((19 : Nat), TSh.at Sh.bool), ((20 : Nat), TSh.at (Sh.sl (10 : Nat)))]
noncomputable def ZD : LoopDef (Tup Zd × OutD) := .ends Zkf (Bool) (fun k x => Z2K k x.1.2.1.1 x.1.2.1.2.1 x.1.2.2.1 x.1.2.2.2.1 x.1.2.2.2.2.1 x.1.2.2.2.2.2.1 x.1.2.2.2.2.2.2.1.1 x.1.2.2.2.2.2.2.1.2.1 x.1.2.2.2.2.2.2.2.1 x.1.2.2.2.2.2.2.2.2.1 x.1.2.2.2.2.2.2.2.2.2.1 x.1.2.2.2.2.2.2.2.2.2.2.1 x.2.2.2.1 x.2.2.2.2.2.2.2.2.2.1) Zl Zk Zg
noncomputable def Z8G : Nat → Int → Int → List (Int × Int) → List (List Int) → List (List Int) → List Int → Int → Int → List (Int × Int) → List (Int × Int × Int) → List (List Int) → List (List (Int × Int × Int)) → Int → Int → List (Int × Int) → List (List Int) → List (Int × Int × Int) → List (Int × Int × Int) → Bool → Bool → Bool → Bool → Option Bool := fun k b1_0 b1_1 o2 o3 o4 o5 b6_0 b6_1 o7 o8 o9 o10 b11_0 b11_1 o12 o13 o14 o15 v8 v19 v34 v35 =>
    if v34 = true then Option.bind (Z9R k (b11_0, b11_1, o12) o13 o15 o14) fun z21 => Option.bind (Z4v k (b11_0, b11_1, o12) o14 o13) fun z22 => Option.bind (Z4v k (b11_0, b11_1, o12) o15 o13) fun z23 => Option.bind (Z4p k (b11_0, b11_1, o12) o14 o13) fun z24 => Option.bind (Z4p k (b11_0, b11_1, o12) o15 o13) fun z25 => if (!Prod.snd z21) = true then some false else if (!Prod.fst z21 == v35) = true then some false else if (!Prod.snd z22) = true then some false else if (!Prod.snd z23) = true then some false else if (!Prod.snd z24) = true then some false else if (!Prod.snd z25) = true then some false else Option.bind (Z3v k z22.1 z24.1) fun z26 => if (!z26) = true then some false else Option.bind (Z3v k z23.1 z25.1) fun z27 => if (!z27) = true then some false else Option.bind (Z3v k z24.1 z25.1) fun z28 => if (v35 == z28) = true then some false else Option.bind (Z2K k b1_0 b1_1 o2 o3 o4 o5 b6_0 b6_1 o7 o8 o9 o10 v8 v19) fun z53 => some z53 else Option.bind (Z2K k b1_0 b1_1 o2 o3 o4 o5 b6_0 b6_1 o7 o8 o9 o10 v8 v19) fun z54 => some z54
noncomputable def Zk1 : Spec := Spec.mk [OSh.ro, OSh.box (53 : Nat) [Sh.int .i64, Sh.int .i64, Sh.sl (2 : Nat)], OSh.row true (79 : Nat) (Ty.pair (Ty.int .i64) (Ty.int .i64)), OSh.row true (34 : Nat) (Ty.slice (3 : Nat) (Ty.int .i64)), OSh.row true (34 : Nat) (Ty.slice (3 : Nat) (Ty.int .i64)), OSh.row true (3 : Nat) (Ty.int .i64), OSh.box (53 : Nat) [Sh.int .i64, Sh.int .i64, Sh.sl (7 : Nat)], OSh.row true (79 : Nat) (Ty.pair (Ty.int .i64) (Ty.int .i64)), OSh.row true (77 : Nat) (Ty.pair (Ty.int .i64) (Ty.pair (Ty.int .i64) (Ty.int .i64))), OSh.row true (34 : Nat) (Ty.slice (3 : Nat) (Ty.int .i64)), OSh.row true (57 : Nat) (Ty.slice (63 : Nat) (Ty.pair (Ty.int .i64) (Ty.pair (Ty.int .i64) (Ty.int .i64)))), OSh.box (53 : Nat) [Sh.int .i64, Sh.int .i64, Sh.sl (12 : Nat)], OSh.row true (79 : Nat) (Ty.pair (Ty.int .i64) (Ty.int .i64)), OSh.row true (34 : Nat) (Ty.slice (3 : Nat) (Ty.int .i64)), OSh.row true (77 : Nat) (Ty.pair (Ty.int .i64) (Ty.pair (Ty.int .i64) (Ty.int .i64))), OSh.row true (77 : Nat) (Ty.pair (Ty.int .i64) (Ty.pair (Ty.int .i64) (Ty.int .i64)))] [((5 : Nat), TSh.at (Sh.ptr (1 : Nat) (0 : Nat))), ((6 : Nat), TSh.at (Sh.sl (3 : Nat))), ((8 : Nat), TSh.at Sh.bool), ((9 : Nat), TSh.at (Sh.sl (4 : Nat))), ((13 : Nat), TSh.at (Sh.sl (5 : Nat))), ((15 : Nat), TSh.at (Sh.ptr (6 : Nat) (0 : Nat))), ((16 : Nat), TSh.at (Sh.sl (8 : Nat))), ((17 : Nat), TSh.at (Sh.sl (9 : Nat))), ((19 : Nat), TSh.at Sh.bool), ((20 : Nat), TSh.at (Sh.sl (10 : Nat))), ((29 : Nat), TSh.at (Sh.ptr (11 : Nat) (0 : Nat))), ((30 : Nat), TSh.at (Sh.sl (13 : Nat))), ((31 : Nat), TSh.at (Sh.sl (14 : Nat))), ((32 : Nat), TSh.at (Sh.sl (15 : Nat))), ((34 : Nat), TSh.at Sh.bool), ((35 : Nat), TSh.at Sh.bool)]
noncomputable def ZI : LoopDef (Tup Zd × OutD) := .ends Zk1 (Bool) (fun k x => Z8G k x.1.2.1.1 x.1.2.1.2.1 x.1.2.2.1 x.1.2.2.2.1 x.1.2.2.2.2.1 x.1.2.2.2.2.2.1 x.1.2.2.2.2.2.2.1.1 x.1.2.2.2.2.2.2.1.2.1 x.1.2.2.2.2.2.2.2.1 x.1.2.2.2.2.2.2.2.2.1 x.1.2.2.2.2.2.2.2.2.2.1 x.1.2.2.2.2.2.2.2.2.2.2.1 x.1.2.2.2.2.2.2.2.2.2.2.2.1.1 x.1.2.2.2.2.2.2.2.2.2.2.2.1.2.1 x.1.2.2.2.2.2.2.2.2.2.2.2.2.1 x.1.2.2.2.2.2.2.2.2.2.2.2.2.2.1 x.1.2.2.2.2.2.2.2.2.2.2.2.2.2.2.1 x.1.2.2.2.2.2.2.2.2.2.2.2.2.2.2.2.1 x.2.2.2.1 x.2.2.2.2.2.2.2.2.2.1 x.2.2.2.2.2.2.2.2.2.2.2.2.2.2.2.1 x.2.2.2.2.2.2.2.2.2.2.2.2.2.2.2.2.1) Zl Zk Zg
noncomputable def Z8K : Nat → Int → Int → List (Int × Int) → List (List Int) → List (List Int) → List (List Int) → List Int → List Int → Int → Int → List (Int × Int) → List (Int × Int × Int) → List (List Int) → List (List (Int × Int × Int)) → List (List (Int × Int × Int)) → List Int → List Int → Int → Int → List (Int × Int) → List (List Int) → List (Int × Int × Int) → List (Int × Int × Int) → List Int → Bool → Bool → Bool → Bool → Bool → Bool → Bool → Bool → Bool → Bool → Bool → Bool → Option Bool := fun k b1_0 b1_1 o2 o3 o4 o5 o6 o7 b8_0 b8_1 o9 o10 o11 o12 o13 o14 o15 b16_0 b16_1 o17 o18 o19 o20 v1 v8 v10 v12 v14 v19 v21 v26 v28 v33 v34 v35 v36 =>
    Option.bind (Z6P k v1) fun z14 => Option.bind (ZdT k (Prod.fst z14.1, Prod.fst z14.1.2, Prod.snd z14.1.2) z14.2) fun z15 => Option.bind (ZdY k (Prod.fst z14.1, Prod.fst z14.1.2, Prod.snd z14.1.2) z14.2) fun z16 => if (!v8 == v10) = true then some false else Option.bind (Zgp k o4 o5) fun z17 => if (!z17) = true then some false else if (!v12 == v14) = true then some false else Option.bind (Za9 k o6 o7) fun z18 => if (!z18) = true then some false else if (!v19 == v21) = true then some false else Option.bind (Z3v k o12 o13) fun z19 => if (!z19) = true then some false else if (!v26 == v28) = true then some false else Option.bind (Za9 k o14 o15) fun z20 => if (!z20) = true then some false else if (!v34 == v36) = true then some false else if (!v33 == v35) = true then some false else if (!Prod.snd z15 == Prod.snd z16) = true then some false else if (!Prod.fst z15 == Prod.fst z16) = true then some false else if (!v12 == v8) = true then some false else Option.bind (Z8G k b1_0 b1_1 o2 o3 o5 o7 b8_0 b8_1 o9 o10 o11 o13 b16_0 b16_1 o17 o18 o19 o20 v8 v19 v34 v35) fun z55 => some z55
noncomputable def ZjW : Spec := Spec.mk [OSh.ro, OSh.box (53 : Nat) [Sh.int .i64, Sh.int .i64, Sh.sl (2 : Nat)], OSh.row true (79 : Nat) (Ty.pair (Ty.int .i64) (Ty.int .i64)), OSh.row true (34 : Nat) (Ty.slice (3 : Nat) (Ty.int .i64)), OSh.row true (34 : Nat) (Ty.slice (3 : Nat) (Ty.int .i64)), OSh.row true (34 : Nat) (Ty.slice (3 : Nat) (Ty.int .i64)), OSh.row true (3 : Nat) (Ty.int .i64), OSh.row true (3 : Nat) (Ty.int .i64), OSh.box (53 : Nat) [Sh.int .i64, Sh.int .i64, Sh.sl (9 : Nat)], OSh.row true (79 : Nat) (Ty.pair (Ty.int .i64) (Ty.int .i64)), OSh.row true (77 : Nat) (Ty.pair (Ty.int .i64) (Ty.pair (Ty.int .i64) (Ty.int .i64))), OSh.row true (34 : Nat) (Ty.slice (3 : Nat) (Ty.int .i64)), OSh.row true (57 : Nat) (Ty.slice (63 : Nat) (Ty.pair (Ty.int .i64) (Ty.pair (Ty.int .i64) (Ty.int .i64)))), OSh.row true (57 : Nat) (Ty.slice (63 : Nat) (Ty.pair (Ty.int .i64) (Ty.pair (Ty.int .i64) (Ty.int .i64)))), OSh.row true (3 : Nat) (Ty.int .i64), OSh.row true (3 : Nat) (Ty.int .i64), OSh.box (53 : Nat) [Sh.int .i64, Sh.int .i64, Sh.sl (17 : Nat)], OSh.row true (79 : Nat) (Ty.pair (Ty.int .i64) (Ty.int .i64)), OSh.row true (34 : Nat) (Ty.slice (3 : Nat) (Ty.int .i64)), OSh.row true (77 : Nat) (Ty.pair (Ty.int .i64) (Ty.pair (Ty.int .i64) (Ty.int .i64))), OSh.row true (77 : Nat) (Ty.pair (Ty.int .i64) (Ty.pair (Ty.int .i64) (Ty.int .i64)))] [((1 : Nat), TSh.at (Sh.snap (0 : Nat) (Ty.int .u8))), ((5 : Nat), TSh.at (Sh.ptr (1 : Nat) (0 : Nat))), ((6 : Nat), TSh.at (Sh.sl (3 : Nat))), ((7 : Nat), TSh.at (Sh.sl (4 : Nat))), ((8 : Nat), TSh.at Sh.bool), ((9 : Nat), TSh.at (Sh.sl (5 : Nat))), ((10 : Nat), TSh.at Sh.bool), ((11 : Nat), TSh.at (Sh.sl (6 : Nat))), ((12 : Nat), TSh.at Sh.bool), ((13 : Nat), TSh.at (Sh.sl (7 : Nat))), ((14 : Nat), TSh.at Sh.bool), ((15 : Nat), TSh.at (Sh.ptr (8 : Nat) (0 : Nat))), ((16 : Nat), TSh.at (Sh.sl (10 : Nat))), ((17 : Nat), TSh.at (Sh.sl (11 : Nat))), ((18 : Nat), TSh.at (Sh.sl (12 : Nat))), ((19 : Nat), TSh.at Sh.bool), ((20 : Nat), TSh.at (Sh.sl (13 : Nat))), ((21 : Nat), TSh.at Sh.bool), ((25 : Nat), TSh.at (Sh.sl (14 : Nat))), ((26 : Nat), TSh.at Sh.bool), ((27 : Nat), TSh.at (Sh.sl (15 : Nat))), ((28 : Nat), TSh.at Sh.bool), ((29 : Nat), TSh.at (Sh.ptr (16 : Nat) (0 : Nat))), ((30 : Nat), TSh.at (Sh.sl (18 : Nat))), ((31 : Nat), TSh.at (Sh.sl (19 : Nat))), ((32 : Nat), TSh.at (Sh.sl (20 : Nat))), ((33 : Nat), TSh.at Sh.bool), ((34 : Nat), TSh.at Sh.bool), ((35 : Nat), TSh.at Sh.bool), ((36 : Nat), TSh.at Sh.bool)]
noncomputable def ZC : LoopDef (Tup Zd × OutD) := .ends ZjW (Bool) (fun k x => Z8K k x.1.2.1.1 x.1.2.1.2.1 x.1.2.2.1 x.1.2.2.2.1 x.1.2.2.2.2.1 x.1.2.2.2.2.2.1 x.1.2.2.2.2.2.2.1 x.1.2.2.2.2.2.2.2.1 x.1.2.2.2.2.2.2.2.2.1.1 x.1.2.2.2.2.2.2.2.2.1.2.1 x.1.2.2.2.2.2.2.2.2.2.1 x.1.2.2.2.2.2.2.2.2.2.2.1 x.1.2.2.2.2.2.2.2.2.2.2.2.1 x.1.2.2.2.2.2.2.2.2.2.2.2.2.1 x.1.2.2.2.2.2.2.2.2.2.2.2.2.2.1 x.1.2.2.2.2.2.2.2.2.2.2.2.2.2.2.1 x.1.2.2.2.2.2.2.2.2.2.2.2.2.2.2.2.1 x.1.2.2.2.2.2.2.2.2.2.2.2.2.2.2.2.2.1.1 x.1.2.2.2.2.2.2.2.2.2.2.2.2.2.2.2.2.1.2.1 x.1.2.2.2.2.2.2.2.2.2.2.2.2.2.2.2.2.2.1 x.1.2.2.2.2.2.2.2.2.2.2.2.2.2.2.2.2.2.2.1 x.1.2.2.2.2.2.2.2.2.2.2.2.2.2.2.2.2.2.2.2.1 x.1.2.2.2.2.2.2.2.2.2.2.2.2.2.2.2.2.2.2.2.2.1 x.2.1 x.2.2.2.2.2.1 x.2.2.2.2.2.2.2.1 x.2.2.2.2.2.2.2.2.2.1 x.2.2.2.2.2.2.2.2.2.2.2.1 x.2.2.2.2.2.2.2.2.2.2.2.2.2.2.2.2.1 x.2.2.2.2.2.2.2.2.2.2.2.2.2.2.2.2.2.2.1 x.2.2.2.2.2.2.2.2.2.2.2.2.2.2.2.2.2.2.2.2.1 x.2.2.2.2.2.2.2.2.2.2.2.2.2.2.2.2.2.2.2.2.2.2.1 x.2.2.2.2.2.2.2.2.2.2.2.2.2.2.2.2.2.2.2.2.2.2.2.2.2.2.2.1 x.2.2.2.2.2.2.2.2.2.2.2.2.2.2.2.2.2.2.2.2.2.2.2.2.2.2.2.2.1 x.2.2.2.2.2.2.2.2.2.2.2.2.2.2.2.2.2.2.2.2.2.2.2.2.2.2.2.2.2.1 x.2.2.2.2.2.2.2.2.2.2.2.2.2.2.2.2.2.2.2.2.2.2.2.2.2.2.2.2.2.2.1) Zl Zk Zg
noncomputable def Z8J : Nat → Int → Int → List (Int × Int) → List (List Int) → List (List Int) → List (List Int) → List Int → List Int → Int → Int → List (Int × Int) → List (Int × Int × Int) → List (List Int) → List (List (Int × Int × Int)) → List (List (Int × Int × Int)) → List Int → List Int → List Int → Bool → Bool → Bool → Bool → Bool → Bool → Bool → Bool → Option Bool := fun k b1_0 b1_1 o2 o3 o4 o5 o6 o7 b8_0 b8_1 o9 o10 o11 o12 o13 o14 o15 v1 v8 v10 v12 v14 v19 v21 v26 v28 =>
    Option.bind (Z9r k v1) fun z11 => Option.bind (Z9R k (Prod.fst z11.1, Prod.fst z11.1.2, Prod.snd z11.1.2) z11.2.1 z11.2.2.1 z11.2.2.2) fun z12 => Option.bind (Zcv k (Prod.fst z11.1, Prod.fst z11.1.2, Prod.snd z11.1.2) z11.2.1 z11.2.2.1 z11.2.2.2) fun z13 => Option.bind (Z8K k b1_0 b1_1 o2 o3 o4 o5 o6 o7 b8_0 b8_1 o9 o10 o11 o12 o13 o14 o15 z11.1.1 z11.1.2.1 z11.1.2.2 z11.2.1 z11.2.2.1 z11.2.2.2 v1 v8 v10 v12 v14 v19 v21 v26 v28 z12.1 z12.2 z13.1 z13.2) fun z56 => some z56
noncomputable def Zkd : Spec := Spec.mk [OSh.ro, OSh.box (53 : Nat) [Sh.int .i64, Sh.int .i64, Sh.sl (2 : Nat)], OSh.row true (79 : Nat) (Ty.pair (Ty.int .i64) (Ty.int .i64)), OSh.row true (34 : Nat) (Ty.slice (3 : Nat) (Ty.int .i64)), OSh.row true (34 : Nat) (Ty.slice (3 : Nat) (Ty.int .i64)), OSh.row true (34 : Nat) (Ty.slice (3 : Nat) (Ty.int .i64)), OSh.row true (3 : Nat) (Ty.int .i64), OSh.row true (3 : Nat) (Ty.int .i64), OSh.box (53 : Nat) [Sh.int .i64, Sh.int .i64, Sh.sl (9 : Nat)], OSh.row true (79 : Nat) (Ty.pair (Ty.int .i64) (Ty.int .i64)), OSh.row true (77 : Nat) (Ty.pair (Ty.int .i64) (Ty.pair (Ty.int .i64) (Ty.int .i64))), OSh.row true (34 : Nat) (Ty.slice (3 : Nat) (Ty.int .i64)), OSh.row true (57 : Nat) (Ty.slice (63 : Nat) (Ty.pair (Ty.int .i64) (Ty.pair (Ty.int .i64) (Ty.int .i64)))), OSh.row true (57 : Nat) (Ty.slice (63 : Nat) (Ty.pair (Ty.int .i64) (Ty.pair (Ty.int .i64) (Ty.int .i64)))), OSh.row true (3 : Nat) (Ty.int .i64), OSh.row true (3 : Nat) (Ty.int .i64)] [((1 : Nat), TSh.at (Sh.snap (0 : Nat) (Ty.int .u8))), ((5 : Nat), TSh.at (Sh.ptr (1 : Nat) (0 : Nat))), ((6 : Nat), TSh.at (Sh.sl (3 : Nat))), ((7 : Nat), TSh.at (Sh.sl (4 : Nat))), ((8 : Nat), TSh.at Sh.bool), ((9 : Nat), TSh.at (Sh.sl (5 : Nat))), ((10 : Nat), TSh.at Sh.bool), ((11 : Nat), TSh.at (Sh.sl (6 : Nat))), ((12 : Nat), TSh.at Sh.bool), ((13 : Nat), TSh.at (Sh.sl (7 : Nat))), ((14 : Nat), TSh.at Sh.bool), ((15 : Nat), TSh.at (Sh.ptr (8 : Nat) (0 : Nat))), ((16 : Nat), TSh.at (Sh.sl (10 : Nat))), ((17 : Nat), TSh.at (Sh.sl (11 : Nat))), ((18 : Nat), TSh.at (Sh.sl (12 : Nat))), ((19 : Nat), TSh.at Sh.bool), ((20 : Nat), TSh.at (Sh.sl (13 : Nat))), ((21 : Nat), TSh.at Sh.bool), ((25 : Nat), TSh.at (Sh.sl (14 : Nat))), ((26 : Nat), TSh.at Sh.bool), ((27 : Nat), TSh.at (Sh.sl (15 : Nat))), ((28 : Nat), TSh.at Sh.bool)]
noncomputable def ZE : LoopDef (Tup Zd × OutD) := .ends Zkd (Bool) (fun k x => Z8J k x.1.2.1.1 x.1.2.1.2.1 x.1.2.2.1 x.1.2.2.2.1 x.1.2.2.2.2.1 x.1.2.2.2.2.2.1 x.1.2.2.2.2.2.2.1 x.1.2.2.2.2.2.2.2.1 x.1.2.2.2.2.2.2.2.2.1.1 x.1.2.2.2.2.2.2.2.2.1.2.1 x.1.2.2.2.2.2.2.2.2.2.1 x.1.2.2.2.2.2.2.2.2.2.2.1 x.1.2.2.2.2.2.2.2.2.2.2.2.1 x.1.2.2.2.2.2.2.2.2.2.2.2.2.1 x.1.2.2.2.2.2.2.2.2.2.2.2.2.2.1 x.1.2.2.2.2.2.2.2.2.2.2.2.2.2.2.1 x.1.2.2.2.2.2.2.2.2.2.2.2.2.2.2.2.1 x.2.1 x.2.2.2.2.2.1 x.2.2.2.2.2.2.2.1 x.2.2.2.2.2.2.2.2.2.1 x.2.2.2.2.2.2.2.2.2.2.2.1 x.2.2.2.2.2.2.2.2.2.2.2.2.2.2.2.2.1 x.2.2.2.2.2.2.2.2.2.2.2.2.2.2.2.2.2.2.1 x.2.2.2.2.2.2.2.2.2.2.2.2.2.2.2.2.2.2.2.2.1 x.2.2.2.2.2.2.2.2.2.2.2.2.2.2.2.2.2.2.2.2.2.2.1) Zl Zk Zg
noncomputable def Z8E : Nat → Int → Int → List (Int × Int) → List (List Int) → List (List Int) → List (List Int) → List Int → List Int → Int → Int → List (Int × Int) → List (Int × Int × Int) → List (List Int) → List (List (Int × Int × Int)) → List Int → Bool → Bool → Bool → Bool → Bool → Option Bool := fun k b1_0 b1_1 o2 o3 o4 o5 o6 o7 b8_0 b8_1 o9 o10 o11 o12 v1 v8 v10 v12 v14 v19 =>
    Option.bind (Z4p k (b8_0, b8_1, o9) o10 o11) fun z7 => Option.bind (Z7X k v1) fun z8 => Option.bind (Z91 k (Prod.fst z8.1, Prod.fst z8.1.2, Prod.snd z8.1.2) z8.2.1 z8.2.2) fun z9 => Option.bind (ZbG k (Prod.fst z8.1, Prod.fst z8.1.2, Prod.snd z8.1.2) z8.2.1 z8.2.2) fun z10 => Option.bind (Z8J k b1_0 b1_1 o2 o3 o4 o5 o6 o7 b8_0 b8_1 o9 o10 o11 o12 z7.1 z9.1 z10.1 v1 v8 v10 v12 v14 v19 z7.2 z9.2 z10.2) fun z57 => some z57
noncomputable def Zkb : Spec := Spec.mk [OSh.ro, OSh.box (53 : Nat) [Sh.int .i64, Sh.int .i64, Sh.sl (2 : Nat)], OSh.row true (79 : Nat) (Ty.pair (Ty.int .i64) (Ty.int .i64)), OSh.row true (34 : Nat) (Ty.slice (3 : Nat) (Ty.int .i64)), OSh.row true (34 : Nat) (Ty.slice (3 : Nat) (Ty.int .i64)), OSh.row true (34 : Nat) (Ty.slice (3 : Nat) (Ty.int .i64)), OSh.row true (3 : Nat) (Ty.int .i64), OSh.row true (3 : Nat) (Ty.int .i64), OSh.box (53 : Nat) [Sh.int .i64, Sh.int .i64, Sh.sl (9 : Nat)], OSh.row true (79 : Nat) (Ty.pair (Ty.int .i64) (Ty.int .i64)), OSh.row true (77 : Nat) (Ty.pair (Ty.int .i64) (Ty.pair (Ty.int .i64) (Ty.int .i64))), OSh.row true (34 : Nat) (Ty.slice (3 : Nat) (Ty.int .i64)), OSh.row true (57 : Nat) (Ty.slice (63 : Nat) (Ty.pair (Ty.int .i64) (Ty.pair (Ty.int .i64) (Ty.int .i64))))] [((1 : Nat), TSh.at (Sh.snap (0 : Nat) (Ty.int .u8))), ((5 : Nat), TSh.at (Sh.ptr (1 : Nat) (0 : Nat))), ((6 : Nat), TSh.at (Sh.sl (3 : Nat))), ((7 : Nat), TSh.at (Sh.sl (4 : Nat))), ((8 : Nat), TSh.at Sh.bool), ((9 : Nat), TSh.at (Sh.sl (5 : Nat))), ((10 : Nat), TSh.at Sh.bool), ((11 : Nat), TSh.at (Sh.sl (6 : Nat))), ((12 : Nat), TSh.at Sh.bool), ((13 : Nat), TSh.at (Sh.sl (7 : Nat))), ((14 : Nat), TSh.at Sh.bool), ((15 : Nat), TSh.at (Sh.ptr (8 : Nat) (0 : Nat))), ((16 : Nat), TSh.at (Sh.sl (10 : Nat))), ((17 : Nat), TSh.at (Sh.sl (11 : Nat))), ((18 : Nat), TSh.at (Sh.sl (12 : Nat))), ((19 : Nat), TSh.at Sh.bool)]
noncomputable def ZH : LoopDef (Tup Zd × OutD) := .ends Zkb (Bool) (fun k x => Z8E k x.1.2.1.1 x.1.2.1.2.1 x.1.2.2.1 x.1.2.2.2.1 x.1.2.2.2.2.1 x.1.2.2.2.2.2.1 x.1.2.2.2.2.2.2.1 x.1.2.2.2.2.2.2.2.1 x.1.2.2.2.2.2.2.2.2.1.1 x.1.2.2.2.2.2.2.2.2.1.2.1 x.1.2.2.2.2.2.2.2.2.2.1 x.1.2.2.2.2.2.2.2.2.2.2.1 x.1.2.2.2.2.2.2.2.2.2.2.2.1 x.1.2.2.2.2.2.2.2.2.2.2.2.2.1 x.2.1 x.2.2.2.2.2.1 x.2.2.2.2.2.2.2.1 x.2.2.2.2.2.2.2.2.2.1 x.2.2.2.2.2.2.2.2.2.2.2.1 x.2.2.2.2.2.2.2.2.2.2.2.2.2.2.2.2.1) Zl Zk Zg
noncomputable def Z9q : Nat → Int → Int → List (Int × Int) → List (List Int) → List (List Int) → List (List Int) → List Int → Bool → Bool → Option Bool := fun k b1_0 b1_1 o2 o3 o4 o5 v1 v8 v10 =>
    Option.bind (Z8o k (b1_0, b1_1, o2) o3) fun z3 => Option.bind (Z8q k (b1_0, b1_1, o2) o3) fun z4 => Option.bind (Zas k v1) fun z5 => Option.bind (Z4v k (Prod.fst z5.1, Prod.fst z5.1.2, Prod.snd z5.1.2) z5.2.1 z5.2.2) fun z6 => Option.bind (Z8E k b1_0 b1_1 o2 o3 o4 o5 z3.1 z4.1 z5.1.1 z5.1.2.1 z5.1.2.2 z5.2.1 z5.2.2 z6.1 v1 v8 v10 z3.2 z4.2 z6.2) fun z58 => some z58
noncomputable def ZkQ : Spec := Spec.mk [OSh.ro, OSh.box (53 : Nat) [Sh.int .i64, Sh.int .i64, Sh.sl (2 : Nat)], OSh.row true (79 : Nat) (Ty.pair (Ty.int .i64) (Ty.int .i64)), OSh.row true (34 : Nat) (Ty.slice (3 : Nat) (Ty.int .i64)), OSh.row true (34 : Nat) (Ty.slice (3 : Nat) (Ty.int .i64)), OSh.row true (34 : Nat) (Ty.slice (3 : Nat) (Ty.int .i64))] [((1 : Nat), TSh.at (Sh.snap (0 : Nat) (Ty.int .u8))), ((5 : Nat), TSh.at (Sh.ptr (1 : Nat) (0 : Nat))), ((6 : Nat), TSh.at (Sh.sl (3 : Nat))), ((7 : Nat), TSh.at (Sh.sl (4 : Nat))), ((8 : Nat), TSh.at Sh.bool), ((9 : Nat), TSh.at (Sh.sl (5 : Nat))), ((10 : Nat), TSh.at Sh.bool)]
noncomputable def ZL : LoopDef (Tup Zd × OutD) := .ends ZkQ (Bool) (fun k x => Z9q k x.1.2.1.1 x.1.2.1.2.1 x.1.2.2.1 x.1.2.2.2.1 x.1.2.2.2.2.1 x.1.2.2.2.2.2.1 x.2.1 x.2.2.2.2.2.1 x.2.2.2.2.2.2.2.1) Zl Zk Zg
noncomputable def Zbk : Nat → List Int → List Int → Option Bool
 | 0, _, _ => none
 | k + 1, p0, p1 =>
  if gtS (wrap64 ((↑(List.length p0) : Int) + (↑(List.length p1) : Int))) (1048576 : Int) = true then some true else Option.bind (Z6M k p0) fun z0 => Option.bind (Zal k (Prod.fst z0.1, Prod.fst z0.1.2, Prod.snd z0.1.2) z0.2) fun z1 => Option.bind (Zav k (Prod.fst z0.1, Prod.fst z0.1.2, Prod.snd z0.1.2) z0.2) fun z2 => Option.bind (Z9q k z0.1.1 z0.1.2.1 z0.1.2.2 z0.2 z1.1 z2.1 p1 z1.2 z2.2) fun z59 => some z59
noncomputable def Z1b : FnDef := .of Z4Z Zd (Bool) (fun k x => Zbk k x.1 x.2.1) Zl Zk Zg
noncomputable def Zj : Code := Try.f7.body.getD .skip
noncomputable def Z0 : Ctx (Tup Zd × OutD) := { T := T, G := [(69, Z1l.E), (70, Z2a.E), (71, Z26.E), (72, Z1C.E), (73, Z1B.E), (74, Z28.E), (75, Z4u.E), (76, Z4o.E), (77, Z1G.E), (78, Z2X.E), (79, Z2W.E), (80, Z1U.E), (81, Z3u.E), (82, Z3E.E), (83, Z1y.E), (84, Z4B.E), (85, Z4w.E), (86, Z6F.E), (87, Z6b.E), (88, Z7I.E), (39, Z2u.E), (49, Z56.E), (66, Z1D.E), (89, Z9x.E)], mvs := [], no := 0, n := 490, res := resOf T Z4Z Zd Try.f7.results.toList, loops := [(0, Z24.E), (4, Z21.E), (2, Z22.E)], regs := [], conds := [], cuts := [(65, ZG.E), (43, ZJ.E), (38, ZF.E), (30, ZD.E), (22, ZI.E), (17, ZC.E), (14, ZE.E), (10, ZH.E), (6, ZL.E)] }
theorem Zr (k : Nat) : EnvOK Try.prog k Z0.G := (EnvOK.cons (ZoL k) (EnvOK.cons (Zwb k) (EnvOK.cons (Zw1 k) (EnvOK.cons (Zrp k) (EnvOK.cons (Zsa k) (EnvOK.cons (Zvz k) (EnvOK.cons (ZDh k) (EnvOK.cons (ZEa k) (EnvOK.cons (Zrf k) (EnvOK.cons (ZyV k) (EnvOK.cons (ZzP k) (EnvOK.cons (ZsR k) (EnvOK.cons (ZBf k) (EnvOK.cons (ZAZ k) (EnvOK.cons (ZiC k) (EnvOK.cons (ZDV k) (EnvOK.cons (ZCQ k) (EnvOK.cons (ZGC k) (EnvOK.cons (ZxF k) (EnvOK.cons (ZH7 k) (EnvOK.cons (Zx1 k) (EnvOK.cons (Zv0 k) (EnvOK.cons (ZrJ k) (EnvOK.cons (ZI8 k) (EnvOK.nil mixed)))))))))))))))))))))))))
noncomputable def Z5N : Code := (findLoop 0 Zj).getD .skip
theorem ZmB (k : Nat) (x : Z9d.D) : Z24.lp (k + 1) x = loopK Z0 Z24 0 Z5N k x := by kernel_rfl
theorem Zmi (k : Nat) : LOK Try.prog Z0 k Z5N := LOK.by [] (by kernel_rfl) AllOK.nil
theorem Zmf (x : Z9d.D) : Z24.lp 0 x = none := by kernel_rfl
theorem ZkS (k : Nat) : EOK Try.prog Z0 k Z24.E (.block 0 (.loop Z5N)) := Z7 T_ok Zr Zmf ZmB Zmi k
noncomputable def Z5O : Code := (findLoop 4 Zj).getD .skip
theorem Zmy (k : Nat) (x : Z9s.D) : Z21.lp (k + 1) x = loopK Z0 Z21 4 Z5O k x := by kernel_rfl
theorem ZmC (k : Nat) : LOK Try.prog Z0 k Z5O := LOK.by [] (by kernel_rfl) AllOK.nil
theorem Zma (x : Z9s.D) : Z21.lp 0 x = none := by kernel_rfl
theorem ZkU (k : Nat) : EOK Try.prog Z0 k Z21.E (.block 4 (.loop Z5O)) := Z7 T_ok Zr Zma Zmy ZmC k
noncomputable def Z5M : Code := (findLoop 2 Zj).getD .skip
theorem Zm4 (k : Nat) (x : Z9o.D) : Z22.lp (k + 1) x = loopK Z0 Z22 2 Z5M k x := by kernel_rfl
theorem Zmt (k : Nat) : LOK Try.prog Z0 k Z5M := LOK.by [(Z21.E, .block 4 (.loop Z5O))] (by kernel_rfl) (AllOK.cons (ZkU k) AllOK.nil)
theorem Zm1 (x : Z9o.D) : Z22.lp 0 x = none := by kernel_rfl
theorem Zl5 (k : Nat) : EOK Try.prog Z0 k Z22.E (.block 2 (.loop Z5M)) := Z7 T_ok Zr Zm1 Zm4 Zmt k
noncomputable def Z4q : Code := (findCut 65 Zj).getD .skip
theorem Zkx (k : Nat) (i : ZG.inp.D) : ZG.lp k i = exec Z0 k Z4q (ZG.inp.st Z0.n i) (outK Z0 ZG) (fun _ _ => none) ZG.mkB := by kernel_rfl
theorem Zjk (k : Nat) : EOK Try.prog Z0 k ZG.E Z4q := Zho (D := ZG) T_ok (Zr k) (Zkx k) (@LOK.by _ _ _ _ Z4q [] (by kernel_rfl) AllOK.nil)
noncomputable def Z4C : Code := (findCut 43 Zj).getD .skip
theorem ZjQ (k : Nat) (i : ZJ.inp.D) : ZJ.lp k i = exec Z0 k Z4C (ZJ.inp.st Z0.n i) (outK Z0 ZJ) (fun _ _ => none) ZJ.mkB := by kernel_rfl
theorem Zjq (k : Nat) : EOK Try.prog Z0 k ZJ.E Z4C := Zho (D := ZJ) T_ok (Zr k) (ZjQ k) (@LOK.by _ _ _ _ Z4C [(Z22.E, .block 2 (.loop Z5M)), (ZG.E, Z4q)] (by kernel_rfl) (AllOK.cons (Zl5 k) (AllOK.cons (Zjk k) AllOK.nil)))
noncomputable def Z4D : Code := (findCut 38 Zj).getD .skip
theorem Zkv (k : Nat) (i : ZF.inp.D) : ZF.lp k i = exec Z0 k Z4D (ZF.inp.st Z0.n i) (outK Z0 ZF) (fun _ _ => none) ZF.mkB := by kernel_rfl
theorem Zjt (k : Nat) : EOK Try.prog Z0 k ZF.E Z4D := Zho (D := ZF) T_ok (Zr k) (Zkv k) (@LOK.by _ _ _ _ Z4D [(ZJ.E, Z4C)] (by kernel_rfl) (AllOK.cons (Zjq k) AllOK.nil))
noncomputable def Z4y : Code := (findCut 30 Zj).getD .skip
theorem Zkj (k : Nat) (i : ZD.inp.D) : ZD.lp k i = exec Z0 k Z4y (ZD.inp.st Z0.n i) (outK Z0 ZD) (fun _ _ => none) ZD.mkB := by kernel_rfl
theorem Zj9 (k : Nat) : EOK Try.prog Z0 k ZD.E Z4y := Zho (D := ZD) T_ok (Zr k) (Zkj k) (@LOK.by _ _ _ _ Z4y [(Z24.E, .block 0 (.loop Z5N)), (ZF.E, Z4D)] (by kernel_rfl) (AllOK.cons (ZkS k) (AllOK.cons (Zjt k) AllOK.nil)))
noncomputable def Z4G : Code := (findCut 22 Zj).getD .skip
theorem Zkm (k : Nat) (i : ZI.inp.D) : ZI.lp k i = exec Z0 k Z4G (ZI.inp.st Z0.n i) (outK Z0 ZI) (fun _ _ => none) ZI.mkB := by kernel_rfl
theorem Zju (k : Nat) : EOK Try.prog Z0 k ZI.E Z4G := Zho (D := ZI) T_ok (Zr k) (Zkm k) (@LOK.by _ _ _ _ Z4G [(ZD.E, Z4y)] (by kernel_rfl) (AllOK.cons (Zj9 k) AllOK.nil))
noncomputable def Z4r : Code := (findCut 17 Zj).getD .skip
theorem Zku (k : Nat) (i : ZC.inp.D) : ZC.lp k i = exec Z0 k Z4r (ZC.inp.st Z0.n i) (outK Z0 ZC) (fun _ _ => none) ZC.mkB := by kernel_rfl
theorem Zj7 (k : Nat) : EOK Try.prog Z0 k ZC.E Z4r := Zho (D := ZC) T_ok (Zr k) (Zku k) (@LOK.by _ _ _ _ Z4r [(ZI.E, Z4G)] (by kernel_rfl) (AllOK.cons (Zju k) AllOK.nil))
noncomputable def Z4A : Code := (findCut 14 Zj).getD .skip
theorem ZjJ (k : Nat) (i : ZE.inp.D) : ZE.lp k i = exec Z0 k Z4A (ZE.inp.st Z0.n i) (outK Z0 ZE) (fun _ _ => none) ZE.mkB := by kernel_rfl
theorem Zj4 (k : Nat) : EOK Try.prog Z0 k ZE.E Z4A := Zho (D := ZE) T_ok (Zr k) (ZjJ k) (@LOK.by _ _ _ _ Z4A [(ZC.E, Z4r)] (by kernel_rfl) (AllOK.cons (Zj7 k) AllOK.nil))
noncomputable def Z4z : Code := (findCut 10 Zj).getD .skip
theorem ZjF (k : Nat) (i : ZH.inp.D) : ZH.lp k i = exec Z0 k Z4z (ZH.inp.st Z0.n i) (outK Z0 ZH) (fun _ _ => none) ZH.mkB := by kernel_rfl
theorem Zjr (k : Nat) : EOK Try.prog Z0 k ZH.E Z4z := Zho (D := ZH) T_ok (Zr k) (ZjF k) (@LOK.by _ _ _ _ Z4z [(ZE.E, Z4A)] (by kernel_rfl) (AllOK.cons (Zj4 k) AllOK.nil))
noncomputable def Z58 : Code := (findCut 6 Zj).getD .skip
theorem ZkO (k : Nat) (i : ZL.inp.D) : ZL.lp k i = exec Z0 k Z58 (ZL.inp.st Z0.n i) (outK Z0 ZL) (fun _ _ => none) ZL.mkB := by kernel_rfl
theorem Zkt (k : Nat) : EOK Try.prog Z0 k ZL.E Z58 := Zho (D := ZL) T_ok (Zr k) (ZkO k) (@LOK.by _ _ _ _ Z58 [(ZH.E, Z4z)] (by kernel_rfl) (AllOK.cons (Zjr k) AllOK.nil))
theorem ZpT (k : Nat) (x : Tup Z1b.ps) : Z1b.f (k + 1) x = fnK Z1b Z0 Zj k x := by kernel_rfl
theorem Zqn (x : Tup Z1b.ps) : Z1b.f 0 x = none := by kernel_rfl
theorem ZpQ (k : Nat) : LOK Try.prog Z0 k Zj := LOK.by [(ZL.E, Z58)] (by kernel_rfl) (AllOK.cons (Zkt k) AllOK.nil)
theorem Zq0 (k : Nat) : SoundAt Try.prog k 7 Z1b.E := @Z4 Try.prog Z1b Z0 7 Try.f7 Zj (by kernel_rfl) (by kernel_rfl) (by kernel_rfl) Try.func7 (by kernel_rfl) (by kernel_rfl) (by kernel_rfl) T_ok Zr ZpQ Zqn ZpT k
end
end Go.Proofs.Ytgjmhbjdhihgaaa.Vs

set_option linter.unusedVariables false
set_option linter.unusedSimpArgs false
namespace Go.Proofs.Ytgjmhbjdhihgaaa.Vs
open Go.RowKit
theorem Zqx {α : Type} : ∀ {l : List (List α)} {x : List α}, x ∈ l → (x.length : Int) ≤ szRows l
 | [], x, h => by cases h
 | y :: r, x, h => by
  have := Zld r
  simp only [szRows]
  rcases List.mem_cons.1 h with rfl | h
  ·omega
  ·have := Zqx h
   omega
theorem ZiO (x1 x2 : Int) (o2 : List CellD) (o3 o4 : List (List Int)) (o5 : List Int) (v8 : Bool) (b : BoardD) (hb : b.2.2.length ≤ 1000) (l : List FaultD) (hl : faultsB b l = true) (hll : l.length ≤ 1000) : ∀ (r pre : List (List Int)), (∀ t ∈ r, entriesOK b t = true ∧ t.length ≤ 1000) → (pre ++ r).length ≤ 1000 →
    Ev (fun k => Z2k k x1 x2 o2 o3 o4 o5 b.1 b.2.1 b.2.2 l ((pre ++ r).map (endsOf b l)) (pre ++ r) v8 ((pre ++ r).length : Int) (pre.length : Int)) (LR.go (x1, x2, o2, o3, o4, o5, v8))
  | [], pre, hr, hn => by
    refine Ev.succ ?_
    simp only [Z2k, Zo, decide_false, Bool.false_eq_true, if_false]
    exact Ev.some _
  | t :: r, pre, hr, hn => by
    have ih := ZiO x1 x2 o2 o3 o4 o5 v8 b hb l hl hll r (pre ++ [t]) (fun x hx => hr x (List.mem_cons_of_mem _ hx)) (by simpa using hn)
    obtain ⟨h1, h2⟩ := hr t (List.mem_cons_self ..)
    have l2 : (pre.length : Int) < (((pre ++ t :: r).map (endsOf b l)).length : Int) := by rw [List.length_map]; exact Ze _ _ _
    have g2 : List.getD ((pre ++ t :: r).map (endsOf b l)) pre.length [] = endsOf b l t := by simp [List.getD]
    have ef := Zxl b l t (by omega) (by omega) (by omega)
    have rf : Zgt b l t = (endsOf b l t, (b.1, b.2.1, leftOf b l t), true) := by unfold Zgt; rw [h1, hl]; rfl
    rw [rf] at ef
    refine Ev.succ ?_
    simp only [Z2k, Ze, Zq, l2, g2, decide_true, if_true, Int.toNat_natCast, Z9]
    rw [Zi pre t r (by omega)]
    rw [← Z5] at ih
    refine Ev.bind ef ?_
    simp only [Bool.not_true, Bool.false_eq_true, if_false]
    refine Ev.bind (Zuq _ _ (by rw [Z7C]; omega)) ?_
    simp only [decide_true, Bool.not_true, Bool.false_eq_true, if_false]
    exact ih
theorem ZiU (b : BoardD) (hb : b.2.2.length ≤ 1000) (T : List (List Int)) (g0 : (smallB b && testsOK b T) = true) (hT : TestsIn T) (det : List Int) (hdet : det.length ≤ 1000000) (P : List FaultD) (CL : List (List Int)) (i : Nat) (hi : i ≤ 1000000) (cls : List Int) (hcl : List.getD CL i [] = cls) (hcn : cls.length ≤ 1000000) (asc : List.Pairwise (fun a c : Int => a < c) cls) (nC : Int) (E : List (List FallD)) (hE : E.length ≤ 1000000 ∧ ∀ x ∈ E, x.length ≤ 1000000)
    (hx : ∀ x ∈ cls, x < (P.length : Int) ∧ T.map (endsOf b (faultOf P x)) = E ∧ decide (x ∈ det) = decide ((i : Int) > 0)) (hf : ∀ x ∈ cls, faultsB b (faultOf P x) = true) : ∀ (r pre : List Int) (o7 : List (List FallD)) (v60 : Int), cls = pre ++ r → (pre ≠ [] → o7 = E) → 0 ≤ v60 → v60 + (r.length : Int) ≤ 1000000 →
    Ev (fun k => ZW k b.1 b.2.1 b.2.2 T det P CL o7 v60 (i : Int) (i : Int) nC (i : Int) (i : Int) (cls.length : Int) (pre.length : Int)) (LR.go (b.1, b.2.1, b.2.2, T, det, P, CL, if r = [] then o7 else E, v60 + (r.length : Int), (i : Int), nC, (i : Int)))
  | [], pre, o7, v60, hc, h7, h0, hn => by
    have hlt : ¬ (pre.length : Int) < (cls.length : Int) := by rw [hc]; simp
    refine Ev.succ ?_
    simp only [ZW, hlt, decide_false, Bool.false_eq_true, if_false]
    exact Ev.of (by simp)
  | x :: r, pre, o7, v60, hc, h7, h0, hn => by
    have hmem : x ∈ cls := by rw [hc]; simp
    obtain ⟨hx1, hx2, hx3⟩ := hx x hmem
    have hfx := hf x hmem
    have ih := ZiU b hb T g0 hT det hdet P CL i hi cls hcl hcn asc nC E hE hx hf r (pre ++ [x]) E (v60 + 1) (by rw [hc]; simp) (fun _ => rfl) (by omega) (by simp at hn; omega)
    have wv : wrap64 (v60 + 1) = v60 + 1 := by simp at hn; exact w64 (by omega) (by omega)
    have hpl : pre.length ≤ 1000000 := by have := hcn; rw [hc] at this; simp at this; omega
    have next : wrap64 ((pre.length : Int) + 1) = ((pre ++ [x]).length : Int) := by rw [List.length_append, List.length_singleton, w64 (by omega) (by omega)]; omega
    have l1 : (pre.length : Int) < (cls.length : Int) := by rw [hc]; exact Ze _ _ _
    have g1 : List.getD cls pre.length 0 = x := by rw [hc]; exact Z9 _ _ _ _
    replace ih := ih.congr (w := LR.go (b.1, b.2.1, b.2.2, T, det, P, CL, if x :: r = [] then o7 else E, v60 + ((x :: r).length : Int), (i : Int), nC, (i : Int))) (by
      have : v60 + 1 + (r.length : Int) = v60 + ((x :: r).length : Int) := by simp; omega
      rw [this]
      simp)
    have hr : Z1h b (faultOf P x) T = (E, true) := by unfold Z1h; rw [g0, hfx, hx2]; rfl
    have h4 := (Z9e hfx).1
    have e1 := Zed b (faultOf P x) T (by omega) (by omega) (by have := hT.1; omega) (fun t ht => by have := hT.2 t ht; omega)
    have e2 := Ze6 b (faultOf P x) T (by omega) (by omega) (by have := hT.1; omega) (fun t ht => by have := hT.2 t ht; omega)
    rw [hr] at e1 e2
    refine Ev.succ ?_
    simp only [ZW, l1, Zq, decide_true, if_true, Int.toNat_natCast, hcl, g1]
    by_cases hx0 : x ≥ 0
    · have hx0' : 0 ≤ x := hx0
      simp only [faultOf, hx0, if_true] at e1 e2
      simp only [hx0, hx0', hx1, decide_true, if_true]
      refine Ev.bind e1 (Ev.bind e2 ?_)
      simp only [Bool.not_true, Bool.false_eq_true, if_false]
      refine Ev.bind (Z7P E E hE.1 hE.2) ?_
      simp only [decide_true, Bool.not_true, Bool.false_eq_true, if_false]
      rcases List.eq_nil_or_concat pre with hp | ⟨q, y, hp⟩
      · subst hp
        have n0 : ¬ (((([] : List Int).length : Nat) : Int) > 0) := by simp
        simp only [n0, decide_false, Bool.false_eq_true, if_false]
        refine Ev.bind (ZjE det x hdet) ?_
        simp only [hx3, beq_self_eq_true, Bool.not_true, Bool.false_eq_true, if_false]
        rw [wv, next]
        exact ih
      · rw [List.concat_eq_append] at hp
        subst hp
        have hql : (q ++ [y]).length = q.length + 1 := by simp
        have n0 : (((q ++ [y]).length : Nat) : Int) > 0 := by omega
        have w1 : wrap64 (((q ++ [y]).length : Int) - 1) = (q.length : Int) := by rw [hql, w64 (by omega) (by omega)]; omega
        have g0' : (q.length : Int) < (cls.length : Int) := by rw [hc]; simp; omega
        have g2 : List.getD cls q.length 0 = y := by rw [hc, List.append_assoc]; exact Z9 _ _ _ _
        have hlt : ¬ x ≤ y := by
          have ha := asc
          rw [hc] at ha
          have := (List.pairwise_append.1 ha).2.2 y (by simp) x (List.mem_cons_self ..)
          omega
        have ho : o7 = E := h7 (by simp)
        simp only [n0, w1, Zq, g0', Int.toNat_natCast, g2, hlt, decide_true, decide_false, if_true, Bool.false_eq_true, if_false]
        rw [ho]
        refine Ev.bind (Z7P E E hE.1 hE.2) ?_
        simp only [decide_true, Bool.not_true, Bool.false_eq_true, if_false]
        refine Ev.bind (ZjE det x hdet) ?_
        simp only [hx3, beq_self_eq_true, Bool.not_true, Bool.false_eq_true, if_false]
        rw [wv, next]
        exact ih
    · simp only [faultOf, hx0, if_false] at e1 e2
      simp only [hx0, decide_false, Bool.false_eq_true, if_false]
      refine Ev.bind e1 (Ev.bind e2 ?_)
      simp only [Bool.not_true, Bool.false_eq_true, if_false]
      refine Ev.bind (Z7P E E hE.1 hE.2) ?_
      simp only [decide_true, Bool.not_true, Bool.false_eq_true, if_false]
      rcases List.eq_nil_or_concat pre with hp | ⟨q, y, hp⟩
      · subst hp
        have n0 : ¬ (((([] : List Int).length : Nat) : Int) > 0) := by simp
        simp only [n0, decide_false, Bool.false_eq_true, if_false]
        refine Ev.bind (ZjE det x hdet) ?_
        simp only [hx3, beq_self_eq_true, Bool.not_true, Bool.false_eq_true, if_false]
        rw [wv, next]
        exact ih
      · rw [List.concat_eq_append] at hp
        subst hp
        have hql : (q ++ [y]).length = q.length + 1 := by simp
        have n0 : (((q ++ [y]).length : Nat) : Int) > 0 := by omega
        have w1 : wrap64 (((q ++ [y]).length : Int) - 1) = (q.length : Int) := by rw [hql, w64 (by omega) (by omega)]; omega
        have g0' : (q.length : Int) < (cls.length : Int) := by rw [hc]; simp; omega
        have g2 : List.getD cls q.length 0 = y := by rw [hc, List.append_assoc]; exact Z9 _ _ _ _
        have hlt : ¬ x ≤ y := by
          have ha := asc
          rw [hc] at ha
          have := (List.pairwise_append.1 ha).2.2 y (by simp) x (List.mem_cons_self ..)
          omega
        have ho : o7 = E := h7 (by simp)
        simp only [n0, w1, Zq, g0', Int.toNat_natCast, g2, hlt, decide_true, decide_false, if_true, Bool.false_eq_true, if_false]
        rw [ho]
        refine Ev.bind (Z7P E E hE.1 hE.2) ?_
        simp only [decide_true, Bool.not_true, Bool.false_eq_true, if_false]
        refine Ev.bind (ZjE det x hdet) ?_
        simp only [hx3, beq_self_eq_true, Bool.not_true, Bool.false_eq_true, if_false]
        rw [wv, next]
        exact ih
theorem Ziu (b : BoardD) (hb : b.2.2.length ≤ 1000) (T : List (List Int)) (g0 : (smallB b && testsOK b T) = true) (hT : TestsIn T) : ∀ (R pre : List (List Int)) (v60 : Int), (Z6 b T).1 = pre ++ R → 0 ≤ v60 → v60 + szRows R ≤ 100000 →
    Ev (fun k => Z2j k b.1 b.2.1 b.2.2 T (ZN b T).1 (possFrom b.2.1 0 b.2.2) (Z6 b T).1 v60 ((Z6 b T).1.length : Int) (pre.length : Int)) (LR.go (possFrom b.2.1 0 b.2.2, v60 + szRows R))
  | [], pre, v60, hc, h0, hn => by
    have hlt : ¬ (pre.length : Int) < ((Z6 b T).1.length : Int) := by rw [hc]; simp
    refine Ev.succ ?_
    simp only [Z2j, hlt, decide_false, Bool.false_eq_true, if_false]
    exact Ev.of (by simp [szRows])
  | cls :: R, pre, v60, hc, h0, hn => by
    have hs := Zld R
    simp only [szRows] at hn
    have hlen := (ZjT b T).1
    have hpl : pre.length ≤ 1000 := by rw [hc] at hlen; simp at hlen; omega
    have ih := Ziu b hb T g0 hT R (pre ++ [cls]) (v60 + (cls.length : Int)) (by rw [hc]; simp) (by omega) (by omega)
    have l1 : (pre.length : Int) < ((Z6 b T).1.length : Int) := by rw [hc]; exact Ze _ _ _
    have g1 : List.getD (Z6 b T).1 pre.length [] = cls := by rw [hc]; exact Z9 _ _ _ _
    have next : wrap64 ((pre.length : Int) + 1) = ((pre ++ [cls]).length : Int) := by rw [List.length_append, List.length_singleton, w64 (by omega) (by omega)]; omega
    obtain ⟨hne, asc, E, hx, hlike⟩ := ZJS g0 (i := pre.length) (cls := cls) (by rw [hc]; simp)
    obtain ⟨hb2, hn2, hT2⟩ := Z2B g0
    have hE : E.length ≤ 10 ∧ ∀ x ∈ E, x.length ≤ 8 := by
      obtain ⟨y, hy⟩ := List.exists_mem_of_ne_nil _ hne
      rw [← (hx y hy).2.1]
      refine ⟨by rw [List.length_map]; exact hn2, fun z hz => ?_⟩
      obtain ⟨t, ht, rfl⟩ := List.mem_map.1 hz
      rw [Z7C]
      exact (hT2 t ht).1
    have hf : ∀ x ∈ cls, faultsB b (faultOf (possFrom b.2.1 0 b.2.2) x) = true := by
      intro x hxm
      have hlt := (hx x hxm).1
      unfold faultOf
      split
      · have hi : x.toNat < (possFrom b.2.1 0 b.2.2).length := by omega
        have hm : List.getD (possFrom b.2.1 0 b.2.2) x.toNat (0, 0, 0) ∈ possFrom b.2.1 0 b.2.2 := by
          rw [List.getD, List.getElem?_eq_getElem hi]
          exact List.getElem_mem hi
        unfold faultsB
        rw [ZAO hb2 hm]
        rfl
      · simp [faultsB, faultsOK]
    have h4 := ZiU b hb T g0 hT (ZN b T).1 (by have := Zhv b T; omega) (possFrom b.2.1 0 b.2.2) (Z6 b T).1 pre.length (by omega) cls g1 (by omega) asc ((Z6 b T).1.length : Int) E ⟨by omega, fun x hx => by have := hE.2 x hx; omega⟩ hx hf cls [] [] v60 rfl (fun h => (h rfl).elim) h0 (by omega)
    rw [if_neg hne] at h4
    have e5 := ZlK b T E (by omega) (by have := hT.1; omega) (fun t ht => by have := hT.2 t ht; omega)
    rw [hlike] at e5
    refine Ev.succ ?_
    simp only [Z2j, l1, Zq, decide_true, if_true, Int.toNat_natCast, g1]
    refine Ev.bind h4 (Ev.go ?_)
    refine Ev.bind e5 ?_
    simp only [Bool.not_true, Bool.false_eq_true, if_false, Int.toNat_natCast, g1]
    refine Ev.bind (Zik cls cls (by omega)) ?_
    simp only [decide_true, Bool.not_true, Bool.false_eq_true, if_false]
    rw [next]
    refine ih.congr ?_
    simp only [szRows]
    rw [Int.add_assoc]
theorem ZvT (p0 p1 : List Int) (h0 : p0.length ≤ 9223372036854775807) (b0 : ∀ x ∈ p0, 0 ≤ x ∧ x ≤ 255) (h1 : p1.length ≤ 9223372036854775807) (b1 : ∀ x ∈ p1, 0 ≤ x ∧ x ≤ 255) : Ev (fun k => Zbk k p0 p1) true := by
 have c0 : Cur p0 0 6000 := ⟨b0, h0, by omega, by omega⟩
 have c1 : Cur p1 0 6000 := ⟨b1, h1, by omega, by omega⟩
 have tl : ∀ {T : List (List Int)}, TestsIn T → T.length ≤ 9223372036854775806 := fun h => by have := h.1; omega
 have tx : ∀ {T : List (List Int)}, TestsIn T → ∀ x ∈ T, x.length ≤ 9223372036854775806 := fun h x hx => by have := h.2 x hx; omega
 refine Ev.succ ?_
 simp only [Zbk]
 refine Ev.ite (fun _ => Ev.some _) (fun _ => ?_)
 obtain ⟨⟨b, T⟩, e0, bl, t1⟩ := ZwH p0 c0
 obtain ⟨⟨a, l, U⟩, e1, al, ll, u1⟩ := ZER p1 c1
 obtain ⟨⟨f, S, G⟩, e2, fl, s1, g1⟩ := ZBu p1 c1
 obtain ⟨⟨h, V, p, q⟩, e3, hl, v1, pl, ql⟩ := ZE8 p1 c1
 obtain ⟨⟨x, y⟩, e4, xl, y1⟩ := Zs1 p1 c1
 simp only at bl t1 al ll u1 fl s1 g1 hl v1 pl ql xl y1
 refine Ev.bind e0 (Ev.bind (ZvW b T (by omega) (tl t1) (tx t1)) (Ev.bind (Zvd b T (by omega) (tl t1) (tx t1)) (Ev.bind (a := true) ?_ (Ev.some _))))
 simp only [Z9q]
 refine Ev.bind (Zss b T (by omega) (tl t1) (tx t1)) (Ev.bind (ZqI b T (by omega) (tl t1) (tx t1)) (Ev.bind e1 (Ev.bind (Zed a l U (by omega) (by omega) (tl u1) (tx u1)) (Ev.bind (a := true) ?_ (Ev.some _)))))
 simp only [Z8E]
 refine Ev.bind (Ze6 a l U (by omega) (by omega) (tl u1) (tx u1)) (Ev.bind e2 (Ev.bind (ZlK f S G (by omega) (tl s1) (tx s1)) (Ev.bind (Zz2 f S G (by omega) (tl s1) (tx s1)) (Ev.bind (a := true) ?_ (Ev.some _)))))
 simp only [Z8J]
 refine Ev.bind e3 (Ev.bind (ZnS h V p q (by omega) (tl v1) (tx v1) (by omega) (by omega)) (Ev.bind (ZBR h V p q (by omega) (tl v1) (tx v1) (by omega) (by omega)) (Ev.bind (a := true) ?_ (Ev.some _))))
 simp only [Z8K]
 refine Ev.bind e4 (Ev.bind (ZDA x y (by omega) (tl y1) (tx y1)) (Ev.bind (ZDs x y (by omega) (tl y1) (tx y1)) ?_))
 simp only [beq_self_eq_true, Bool.not_true, Bool.false_eq_true, if_false]
 have lc := ZjT b T
 refine Ev.bind (ZFB _ _ (by omega) (fun z hz => by have := Zqx hz; omega)) ?_
 simp only [decide_true, Bool.not_true, Bool.false_eq_true, if_false]
 refine Ev.bind (Zik _ _ (by have := Zhv b T; omega)) ?_
 simp only [decide_true, Bool.not_true, Bool.false_eq_true, if_false]
 have le := Zj1 a l U
 refine Ev.bind (Z7P _ _ (by omega) (fun z hz => by have := Zqx hz; omega)) ?_
 simp only [decide_true, Bool.not_true, Bool.false_eq_true, if_false]
 refine Ev.bind (Zik _ _ (by have := ZAJ f S G; omega)) ?_
 have same : (ZN b T).2 = (Z6 b T).2 := by unfold ZN Z6; split <;> rfl
 simp only [decide_true, same, beq_self_eq_true, Bool.not_true, Bool.false_eq_true, if_false]
 refine Ev.bind (a := true) ?_ (Ev.some _)
 have last : Ev (fun k => Z2I k b.1 b.2.1 b.2.2 T (Z6 b T).1 (ZN b T).1 (Z6 b T).2) true := by
  simp only [Z2I]
  cases g0 : (smallB b && testsOK b T) with
  | false =>
   have : (Z6 b T).2 = false := by unfold Z6; rw [g0]; rfl
   simp only [this, Bool.not_false, if_true]
   exact Ev.some _
  | true =>
   have h2 : (Z6 b T).2 = true := by unfold Z6; rw [g0]; rfl
   obtain ⟨hb2, hn2, hT2⟩ := Z2B g0
   have ep := ZrQ b (by omega)
   rw [if_pos hb2] at ep
   simp only [h2, Bool.not_true, Bool.false_eq_true, if_false]
   refine Ev.bind ep ?_
   obtain ⟨c, R, hcl⟩ := ZG5 g0
   have n1 : ¬ (((Z6 b T).1.length : Nat) : Int) = 0 := by rw [hcl]; simp only [List.length_cons]; omega
   have n2 : (0 : Int) < (((Z6 b T).1.length : Nat) : Int) := by rw [hcl]; simp only [List.length_cons]; omega
   have n3 : List.getD (Z6 b T).1 (Int.toNat 0) [] = (-1) :: c := by rw [hcl]; rfl
   have n4 : ¬ ((((-1 : Int) :: c).length : Nat) : Int) = 0 := by simp only [List.length_cons]; omega
   have n5 : (0 : Int) < ((((-1 : Int) :: c).length : Nat) : Int) := by simp only [List.length_cons]; omega
   have n6 : List.getD ((-1 : Int) :: c) (Int.toNat 0) 0 = -1 := rfl
   simp only [n1, n2, n3, n4, n5, n6, decide_false, Bool.not_true, Bool.false_eq_true, if_false, if_true, ne_eq, not_true_eq_false]
   refine Ev.bind (a := true) ?_ (Ev.some _)
   simp only [Z8T]
   have hall := ZI1 g0
   have hpc := ZeW hb2
   have e2' := Ziu b (by omega) T g0 t1 (Z6 b T).1 [] 0 rfl (by omega) (by omega)
   rw [hall] at e2'
   simp only [List.length_nil, Int.natCast_zero] at e2'
   refine Ev.bind e2' (Ev.go (Ev.bind (a := true) ?_ (Ev.some _)))
   simp only [Z8y]
   refine Ev.of ?_
   rw [w64 (by omega) (by omega)]
   simp
 have next : Ev (fun k => Z2K k b.1 b.2.1 b.2.2 T (Z6 b T).1 (ZN b T).1 a.1 a.2.1 a.2.2 l U (Z1h a l U).1 (Z6 b T).2 (Z1h a l U).2) true := by
  simp only [Z2K]
  cases g0 : (smallB a && testsOK a U) && faultsB a l with
  | false =>
   have : Z1h a l U = ([], false) := by unfold Z1h; rw [g0]; rfl
   simp only [this, Bool.false_eq_true, if_false]
   exact Ev.bind last (Ev.some _)
  | true =>
   have h2 : Z1h a l U = (U.map (endsOf a l), true) := by unfold Z1h; rw [g0]; rfl
   rw [Bool.and_eq_true] at g0
   obtain ⟨hb2, hn2, hT2⟩ := Z2B g0.1
   simp only [h2, if_true]
   have e0' := ZiO b.1 b.2.1 b.2.2 T (Z6 b T).1 (ZN b T).1 (Z6 b T).2 a (by omega) l g0.2 (by omega) U [] (fun t ht => ⟨by
    unfold entriesOK
    have := hT2 t ht
    have h60 : t.length ≤ 60 := by omega
    simp only [hb2, h60, decide_true, Bool.true_and, List.all_eq_true, decide_eq_true_eq]
    exact this.2, by have := hT2 t ht; omega⟩) (by simp; omega)
   simp only [List.nil_append, List.length_nil, Int.natCast_zero] at e0'
   exact Ev.bind e0' (Ev.go (Ev.bind last (Ev.some _)))
 simp only [Z8G]
 cases g0 : (smallB h && testsOK h V) && (faultsB h p && faultsB h q) with
 | false =>
  have : Z5R h V p q = (false, false) := by unfold Z5R; rw [g0]; rfl
  simp only [this, Bool.false_eq_true, if_false]
  exact Ev.bind next (Ev.some _)
 | true =>
  have h2 : Z5R h V p q = (!decide (V.map (endsOf h p) = V.map (endsOf h q)), true) := by unfold Z5R; rw [g0]; rfl
  simp only [Bool.and_eq_true] at g0
  obtain ⟨⟨ga, gb⟩, gc, gd⟩ := g0
  have hsw : decide (V.map (endsOf h q) = V.map (endsOf h p)) = decide (V.map (endsOf h p) = V.map (endsOf h q)) := decide_eq_decide.2 ⟨Eq.symm, Eq.symm⟩
  have h3 : Z5R h V q p = (!decide (V.map (endsOf h p) = V.map (endsOf h q)), true) := by unfold Z5R; rw [ga, gb, gc, gd, hsw]; rfl
  have h5 : Z1h h p V = (V.map (endsOf h p), true) := by unfold Z1h; rw [ga, gb, gc]; rfl
  have h6 : Z1h h q V = (V.map (endsOf h q), true) := by unfold Z1h; rw [ga, gb, gd]; rfl
  have k1 := ZnS h V q p (by omega) (tl v1) (tx v1) (by omega) (by omega)
  have k2 := Zed h p V (by omega) (by omega) (tl v1) (tx v1)
  have k3 := Zed h q V (by omega) (by omega) (tl v1) (tx v1)
  have k4 := Ze6 h p V (by omega) (by omega) (tl v1) (tx v1)
  have k5 := Ze6 h q V (by omega) (by omega) (tl v1) (tx v1)
  have m1 := Zj1 h p V
  have m2 := Zj1 h q V
  rw [h3] at k1
  rw [h5] at k2 k4 m1
  rw [h6] at k3 k5 m2
  simp only at m1 m2
  simp only [h2, if_true]
  refine Ev.bind k1 (Ev.bind k2 (Ev.bind k3 (Ev.bind k4 (Ev.bind k5 ?_))))
  simp only [beq_self_eq_true, Bool.not_true, Bool.false_eq_true, if_false]
  refine Ev.bind (Z7P _ _ (by omega) (fun z hz => by have := Zqx hz; omega)) ?_
  simp only [decide_true, Bool.not_true, Bool.false_eq_true, if_false]
  refine Ev.bind (Z7P _ _ (by omega) (fun z hz => by have := Zqx hz; omega)) ?_
  simp only [decide_true, Bool.not_true, Bool.false_eq_true, if_false]
  refine Ev.bind (Z7P _ _ (by omega) (fun z hz => by have := Zqx hz; omega)) ?_
  have hne : ((!decide (V.map (endsOf h p) = V.map (endsOf h q))) == decide (V.map (endsOf h p) = V.map (endsOf h q))) = false := by
   cases decide (V.map (endsOf h p) = V.map (endsOf h q)) <;> rfl
  simp only [hne, Bool.false_eq_true, if_false]
  exact Ev.bind next (Ev.some _)
end Go.Proofs.Ytgjmhbjdhihgaaa.Vs
