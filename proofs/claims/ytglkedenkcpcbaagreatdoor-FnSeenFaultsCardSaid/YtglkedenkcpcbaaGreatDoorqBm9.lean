/- The proof, part 10. -/
import Derived.Test.YtglkedenkcpcbaaGreatDoorqBm8
set_option maxRecDepth 100000
set_option maxHeartbeats 2000000
set_option linter.unusedVariables false
set_option linter.unusedSimpArgs false
namespace Go.Proofs.YtglkedenkcpcbaaGreatDoor.Vs
open Go.RowKit
noncomputable section
noncomputable def ZE : List PK := [PK.mk Ty.bool false none false none]
noncomputable def Z6C : List PK := [PK.mk (Ty.slice (5 : Nat) (Ty.int .u8)) false none false none, PK.mk (Ty.slice (5 : Nat) (Ty.int .u8)) false none false none]
noncomputable def Z19 (r : Bool) : Tup ZE × OutD := ((r, ()), none)
noncomputable def Z1a : Tup ZE × OutD → Option (Bool)
 | (a, none) => some (a.1)
 | _ => none
theorem ZZ : ∀ b r, Z1a b = some r → Z19 r = b := by
 rintro ⟨a, o⟩ r h
 cases o with
 | none => injection h with h; subst h; rfl
 | some _ => cases h
noncomputable def Z2s : Nat → Int → Int → List (Int × Int) → List Int → List (Int × Int × Int) → Int → Int → List (Int × Int) → List (Int × Int × Int) → Bool → Int → Int → Int → Int → Int → Int → Option (LR (Int × Int × List (Int × Int) × List Int × List (Int × Int × Int) × Bool × Int × Int) Bool)
 | 0, _, _, _, _, _, _, _, _, _, _, _, _, _, _, _, _ => none
 | k + 1, b1_0, b1_1, o2, o3, o4, b5_0, b5_1, o6, o7, v8, v14, v15, v47, v48, v285, v286 =>
  if decide (v286 < v285) = true then if (0 : Int) ≤ v286 then if v286 < (↑(List.length o7) : Int) then Option.bind (Zca k (b5_0, b5_1, o6) [(Prod.fst (List.getD o7 (Int.toNat v286) ((0 : Int), (0 : Int), (0 : Int))), Prod.fst (Prod.snd (List.getD o7 (Int.toNat v286) ((0 : Int), (0 : Int), (0 : Int)))), Prod.snd (Prod.snd (List.getD o7 (Int.toNat v286) ((0 : Int), (0 : Int), (0 : Int)))))]) fun z23 => if (!Prod.snd z23) = true then some (LR.ret false) else if (!Prod.fst z23) = true then some (LR.ret false) else if decide (wrap64 (wrap64 (Prod.fst (Prod.snd (List.getD o7 (Int.toNat v286) ((0 : Int), (0 : Int), (0 : Int)))) * b5_1) + Prod.snd (Prod.snd (List.getD o7 (Int.toNat v286) ((0 : Int), (0 : Int), (0 : Int))))) < v47) = true then some (LR.ret false) else if decide (wrap64 (wrap64 (Prod.fst (Prod.snd (List.getD o7 (Int.toNat v286) ((0 : Int), (0 : Int), (0 : Int)))) * b5_1) + Prod.snd (Prod.snd (List.getD o7 (Int.toNat v286) ((0 : Int), (0 : Int), (0 : Int))))) = v47) = true then if decide (Prod.fst (List.getD o7 (Int.toNat v286) ((0 : Int), (0 : Int), (0 : Int))) ≤ v48) = true then some (LR.ret false) else Z2s k b1_0 b1_1 o2 o3 o4 b5_0 b5_1 o6 o7 v8 v14 v15 (wrap64 (wrap64 (Prod.fst (Prod.snd (List.getD o7 (Int.toNat v286) ((0 : Int), (0 : Int), (0 : Int)))) * b5_1) + Prod.snd (Prod.snd (List.getD o7 (Int.toNat v286) ((0 : Int), (0 : Int), (0 : Int)))))) (Prod.fst (List.getD o7 (Int.toNat v286) ((0 : Int), (0 : Int), (0 : Int)))) v285 (wrap64 (v286 + (1 : Int))) else Z2s k b1_0 b1_1 o2 o3 o4 b5_0 b5_1 o6 o7 v8 v14 v15 (wrap64 (wrap64 (Prod.fst (Prod.snd (List.getD o7 (Int.toNat v286) ((0 : Int), (0 : Int), (0 : Int)))) * b5_1) + Prod.snd (Prod.snd (List.getD o7 (Int.toNat v286) ((0 : Int), (0 : Int), (0 : Int)))))) (Prod.fst (List.getD o7 (Int.toNat v286) ((0 : Int), (0 : Int), (0 : Int)))) v285 (wrap64 (v286 + (1 : Int))) else none else none else some (LR.go (b1_0, b1_1, o2, o3, o4, v8, v14, v15))
noncomputable def ZaH : Spec := Spec.mk [OSh.ro, OSh.box (26 : Nat) [Sh.int .i64, Sh.int .i64, Sh.sl (2 : Nat)], OSh.row true (122 : Nat) (Ty.pair (Ty.int .i64) (Ty.int .i64)), OSh.row true (3 : Nat) (Ty.int .i64), OSh.row true (42 : Nat) (Ty.pair (Ty.int .i64) (Ty.pair (Ty.int .i64) (Ty.int .i64))), OSh.box (26 : Nat) [Sh.int .i64, Sh.int .i64, Sh.sl (6 : Nat)], OSh.row true (122 : Nat) (Ty.pair (Ty.int .i64) (Ty.int .i64)), OSh.row true (42 : Nat) (Ty.pair (Ty.int .i64) (Ty.pair (Ty.int .i64) (Ty.int .i64)))] [((5 : Nat), TSh.at (Sh.ptr (1 : Nat) (0 : Nat))), ((6 : Nat), TSh.at (Sh.sl (3 : Nat))), ((8 : Nat), TSh.at Sh.bool), ((9 : Nat), TSh.at (Sh.sl (4 : Nat))), ((14 : Nat), TSh.at (Sh.int .i64)), ((15 : Nat), TSh.at (Sh.int .i64)), ((34 : Nat), TSh.at (Sh.ptr (5 : Nat) (0 : Nat))), ((47 : Nat), TSh.at (Sh.int .i64)), ((48 : Nat), TSh.at (Sh.int .i64)), ((284 : Nat), TSh.at (Sh.sl (7 : Nat))), ((285 : Nat), TSh.at (Sh.int .i64)), ((286 : Nat), TSh.at (Sh.int .i64))]
noncomputable def ZpF : Spec := Spec.mk [OSh.ro, OSh.box (26 : Nat) [Sh.int .i64, Sh.int .i64, Sh.sl (2 : Nat)], OSh.row true (122 : Nat) (Ty.pair (Ty.int .i64) (Ty.int .i64)), OSh.row true (3 : Nat) (Ty.int .i64), OSh.row true (42 : Nat) (Ty.pair (Ty.int .i64) (Ty.pair (Ty.int .i64) (Ty.int .i64)))] [((5 : Nat), TSh.at (Sh.ptr (1 : Nat) (0 : Nat))), ((6 : Nat), TSh.at (Sh.sl (3 : Nat))), ((8 : Nat), TSh.at Sh.bool), ((9 : Nat), TSh.at (Sh.sl (4 : Nat))), ((14 : Nat), TSh.at (Sh.int .i64)), ((15 : Nat), TSh.at (Sh.int .i64))]
noncomputable def Z2S : LoopDef (Tup ZE × OutD) := .rets ZaH ZpF (Int × Int × List (Int × Int) × List Int × List (Int × Int × Int) × Bool × Int × Int) (Bool) (fun k x => Z2s k x.1.2.1.1 x.1.2.1.2.1 x.1.2.2.1 x.1.2.2.2.1 x.1.2.2.2.2.1 x.1.2.2.2.2.2.1.1 x.1.2.2.2.2.2.1.2.1 x.1.2.2.2.2.2.2.1 x.1.2.2.2.2.2.2.2.1 x.2.2.2.1 x.2.2.2.2.2.1 x.2.2.2.2.2.2.1 x.2.2.2.2.2.2.2.2.1 x.2.2.2.2.2.2.2.2.2.1 x.2.2.2.2.2.2.2.2.2.2.2.1 x.2.2.2.2.2.2.2.2.2.2.2.2.1) (fun z => (((), (z.1, z.2.1, (), ()), z.2.2.1, z.2.2.2.1, z.2.2.2.2.1, ()), ((), (), z.2.2.2.2.2.1, (), z.2.2.2.2.2.2.1, z.2.2.2.2.2.2.2, ()))) (fun y => (y.1.2.1.1, y.1.2.1.2.1, y.1.2.2.1, y.1.2.2.2.1, y.1.2.2.2.2.1, y.2.2.2.1, y.2.2.2.2.2.1, y.2.2.2.2.2.2.1)) (fun _ => rfl) Z19 Z1a ZZ
noncomputable def Z1H : Nat → Int → Int → List (Int × Int) → List Int → List (Int × Int × Int) → List (Int × Int × Int) → Int → Int → Int → Option (LR (List (Int × Int × Int) × Int) Bool)
 | 0, _, _, _, _, _, _, _, _, _ => none
 | k + 1, b1_0, b1_1, o2, o3, o4, o5, v58, v370, v371 =>
  if decide (v371 < v370) = true then if (0 : Int) ≤ v371 then if v371 < (↑(List.length o5) : Int) then Option.bind (Z9q k (b1_0, b1_1, o2) [(Prod.fst (List.getD o5 (Int.toNat v371) ((0 : Int), (0 : Int), (0 : Int))), Prod.fst (Prod.snd (List.getD o5 (Int.toNat v371) ((0 : Int), (0 : Int), (0 : Int)))), Prod.snd (Prod.snd (List.getD o5 (Int.toNat v371) ((0 : Int), (0 : Int), (0 : Int)))))] o3) fun z28 => if decide (v58 < (↑(List.length o4) : Int)) = true then if (0 : Int) ≤ v58 then if v58 < (↑(List.length o4) : Int) then if (Prod.snd z28 == (decide (Prod.fst (List.getD o4 (Int.toNat v58) ((0 : Int), (0 : Int), (0 : Int))) = Prod.fst (List.getD o5 (Int.toNat v371) ((0 : Int), (0 : Int), (0 : Int)))) && (decide (Prod.fst (Prod.snd (List.getD o4 (Int.toNat v58) ((0 : Int), (0 : Int), (0 : Int)))) = Prod.fst (Prod.snd (List.getD o5 (Int.toNat v371) ((0 : Int), (0 : Int), (0 : Int))))) && (decide (Prod.snd (Prod.snd (List.getD o4 (Int.toNat v58) ((0 : Int), (0 : Int), (0 : Int)))) = Prod.snd (Prod.snd (List.getD o5 (Int.toNat v371) ((0 : Int), (0 : Int), (0 : Int))))) && true)))) = true then some (LR.ret false) else if (decide (Prod.fst (List.getD o4 (Int.toNat v58) ((0 : Int), (0 : Int), (0 : Int))) = Prod.fst (List.getD o5 (Int.toNat v371) ((0 : Int), (0 : Int), (0 : Int)))) && (decide (Prod.fst (Prod.snd (List.getD o4 (Int.toNat v58) ((0 : Int), (0 : Int), (0 : Int)))) = Prod.fst (Prod.snd (List.getD o5 (Int.toNat v371) ((0 : Int), (0 : Int), (0 : Int))))) && (decide (Prod.snd (Prod.snd (List.getD o4 (Int.toNat v58) ((0 : Int), (0 : Int), (0 : Int)))) = Prod.snd (Prod.snd (List.getD o5 (Int.toNat v371) ((0 : Int), (0 : Int), (0 : Int))))) && true))) = true then Z1H k b1_0 b1_1 o2 o3 o4 o5 (wrap64 (v58 + (1 : Int))) v370 (wrap64 (v371 + (1 : Int))) else Z1H k b1_0 b1_1 o2 o3 o4 o5 v58 v370 (wrap64 (v371 + (1 : Int))) else none else none else if (Prod.snd z28 == false) = true then some (LR.ret false) else Z1H k b1_0 b1_1 o2 o3 o4 o5 v58 v370 (wrap64 (v371 + (1 : Int))) else none else none else some (LR.go (o4, v58))
noncomputable def ZaI : Spec := Spec.mk [OSh.ro, OSh.box (26 : Nat) [Sh.int .i64, Sh.int .i64, Sh.sl (2 : Nat)], OSh.row true (122 : Nat) (Ty.pair (Ty.int .i64) (Ty.int .i64)), OSh.row true (3 : Nat) (Ty.int .i64), OSh.row true (42 : Nat) (Ty.pair (Ty.int .i64) (Ty.pair (Ty.int .i64) (Ty.int .i64))), OSh.row true (42 : Nat) (Ty.pair (Ty.int .i64) (Ty.pair (Ty.int .i64) (Ty.int .i64)))] [((5 : Nat), TSh.at (Sh.ptr (1 : Nat) (0 : Nat))), ((6 : Nat), TSh.at (Sh.sl (3 : Nat))), ((9 : Nat), TSh.at (Sh.sl (4 : Nat))), ((58 : Nat), TSh.at (Sh.int .i64)), ((369 : Nat), TSh.at (Sh.sl (5 : Nat))), ((370 : Nat), TSh.at (Sh.int .i64)), ((371 : Nat), TSh.at (Sh.int .i64))]
noncomputable def ZpD : Spec := Spec.mk [OSh.ro, OSh.row true (42 : Nat) (Ty.pair (Ty.int .i64) (Ty.pair (Ty.int .i64) (Ty.int .i64)))] [((9 : Nat), TSh.at (Sh.sl (1 : Nat))), ((58 : Nat), TSh.at (Sh.int .i64))]
noncomputable def Z2U : LoopDef (Tup ZE × OutD) := .rets ZaI ZpD (List (Int × Int × Int) × Int) (Bool) (fun k x => Z1H k x.1.2.1.1 x.1.2.1.2.1 x.1.2.2.1 x.1.2.2.2.1 x.1.2.2.2.2.1 x.1.2.2.2.2.2.1 x.2.2.2.2.1 x.2.2.2.2.2.2.1 x.2.2.2.2.2.2.2.1) (fun z => (((), z.1, ()), ((), z.2, ()))) (fun y => (y.1.2.1, y.2.2.1)) (fun _ => rfl) Z19 Z1a ZZ
noncomputable def Z9X : Nat → List (Int × Int × Int) → Int → Option Bool := fun k o1 v58 =>
    some (decide (v58 = (↑(List.length o1) : Int)))
noncomputable def ZmY : Spec := Spec.mk [OSh.ro, OSh.row true (42 : Nat) (Ty.pair (Ty.int .i64) (Ty.pair (Ty.int .i64) (Ty.int .i64)))] [((9 : Nat), TSh.at (Sh.sl (1 : Nat))), ((58 : Nat), TSh.at (Sh.int .i64))]
noncomputable def ZQ : LoopDef (Tup ZE × OutD) := .ends ZmY (Bool) (fun k x => Z9X k x.1.2.1 x.2.2.1) Z19 Z1a ZZ
noncomputable def Z46 : Nat → Int → Int → List (Int × Int) → List Int → List (Int × Int × Int) → Bool → Int → Int → Option Bool := fun k b1_0 b1_1 o2 o3 o4 v8 v14 v15 =>
    if (!v8) = true then some true else Option.bind (Z53 k (b1_0, b1_1, o2)) fun z25 => Option.bind (Z5e k (b1_0, b1_1, o2)) fun z26 => if (!Prod.snd z25) = true then some false else if (!Prod.snd z26) = true then some false else Option.bind (Z93 k z25.1 z26.1) fun z27 => if (!z27) = true then some false else if decide (v15 ≠ (↑(List.length z26.1) : Int)) = true then some false else if decide (v14 ≠ wrap64 (v15 - (↑(List.length o4) : Int))) = true then some false else Option.bind (Z1H k b1_0 b1_1 o2 o3 o4 z26.1 (0 : Int) (↑(List.length z26.1) : Int) (0 : Int)) fun z29 => LR.on z29 (fun y29 => Option.bind (Z9X k y29.1 y29.2) fun z30 => some z30) fun r29 => some r29
noncomputable def ZmG : Spec := Spec.mk [OSh.ro, OSh.box (26 : Nat) [Sh.int .i64, Sh.int .i64, Sh.sl (2 : Nat)], OSh.row true (122 : Nat) (Ty.pair (Ty.int .i64) (Ty.int .i64)), OSh.row true (3 : Nat) (Ty.int .i64), OSh.row true (42 : Nat) (Ty.pair (Ty.int .i64) (Ty.pair (Ty.int .i64) (Ty.int .i64)))] [((5 : Nat), TSh.at (Sh.ptr (1 : Nat) (0 : Nat))), ((6 : Nat), TSh.at (Sh.sl (3 : Nat))), ((8 : Nat), TSh.at Sh.bool), ((9 : Nat), TSh.at (Sh.sl (4 : Nat))), ((14 : Nat), TSh.at (Sh.int .i64)), ((15 : Nat), TSh.at (Sh.int .i64))]
noncomputable def ZO : LoopDef (Tup ZE × OutD) := .ends ZmG (Bool) (fun k x => Z46 k x.1.2.1.1 x.1.2.1.2.1 x.1.2.2.1 x.1.2.2.2.1 x.1.2.2.2.2.1 x.2.2.2.1 x.2.2.2.2.2.1 x.2.2.2.2.2.2.1) Z19 Z1a ZZ
noncomputable def Z10 : Nat → Int → Int → List (Int × Int) → List Int → List (Int × Int × Int) → Int → Int → List (Int × Int) → List (Int × Int × Int) → Bool → Int → Int → Bool → Option Bool := fun k b1_0 b1_1 o2 o3 o4 b5_0 b5_1 o6 o7 v8 v14 v15 v36 =>
    if v36 = true then Option.bind (Z2s k b1_0 b1_1 o2 o3 o4 b5_0 b5_1 o6 o7 v8 v14 v15 (-1 : Int) (0 : Int) (↑(List.length o7) : Int) (0 : Int)) fun z24 => LR.on z24 (fun y24 => Option.bind (Z46 k y24.1 y24.2.1 y24.2.2.1 y24.2.2.2.1 y24.2.2.2.2.1 y24.2.2.2.2.2.1 y24.2.2.2.2.2.2.1 y24.2.2.2.2.2.2.2) fun z31 => some z31) fun r24 => some r24 else Option.bind (Z46 k b1_0 b1_1 o2 o3 o4 v8 v14 v15) fun z32 => some z32
noncomputable def Zmn : Spec := Spec.mk [OSh.ro, OSh.box (26 : Nat) [Sh.int .i64, Sh.int .i64, Sh.sl (2 : Nat)], OSh.row true (122 : Nat) (Ty.pair (Ty.int .i64) (Ty.int .i64)), OSh.row true (3 : Nat) (Ty.int .i64), OSh.row true (42 : Nat) (Ty.pair (Ty.int .i64) (Ty.pair (Ty.int .i64) (Ty.int .i64))), OSh.box (26 : Nat) [Sh.int .i64, Sh.int .i64, Sh.sl (6 : Nat)], OSh.row true (122 : Nat) (Ty.pair (Ty.int .i64) (Ty.int .i64)), OSh.row true (42 : Nat) (Ty.pair (Ty.int .i64) (Ty.pair (Ty.int .i64) (Ty.int .i64)))] [((5 : Nat), TSh.at (Sh.ptr (1 : Nat) (0 : Nat))), ((6 : Nat), TSh.at (Sh.sl (3 : Nat))), ((8 : Nat), TSh.at Sh.bool), ((9 : Nat), TSh.at (Sh.sl (4 : Nat))), ((14 : Nat), TSh.at (Sh.int .i64)), ((15 : Nat), TSh.at (Sh.int .i64)), ((34 : Nat), TSh.at (Sh.ptr (5 : Nat) (0 : Nat))), ((36 : Nat), TSh.at Sh.bool), ((37 : Nat), TSh.at (Sh.sl (7 : Nat)))]
noncomputable def ZP : LoopDef (Tup ZE × OutD) := .ends Zmn (Bool) (fun k x => Z10 k x.1.2.1.1 x.1.2.1.2.1 x.1.2.2.1 x.1.2.2.2.1 x.1.2.2.2.2.1 x.1.2.2.2.2.2.1.1 x.1.2.2.2.2.2.1.2.1 x.1.2.2.2.2.2.2.1 x.1.2.2.2.2.2.2.2.1 x.2.2.2.1 x.2.2.2.2.2.1 x.2.2.2.2.2.2.1 x.2.2.2.2.2.2.2.2.1) Z19 Z1a ZZ
noncomputable def Za2 : Nat → Int → Int → List (Int × Int) → List Int → List (Int × Int × Int) → Int → Int → List (Int × Int) → List (Int × Int × Int) → List Int → Int → Int → Int → Int → Int → List (Int × Int) → List (Int × Int × Int) → Bool → Int → Int → Bool → Int → ByteArray → Bool → Bool → Option Bool := fun k b1_0 b1_1 o2 o3 o4 b5_0 b5_1 o6 o7 o8 b9_0 b9_1 b9_2 b10_0 b10_1 o11 o12 v8 v14 v15 v21 v22 v25 v26 v36 =>
    if v26 = true then Option.bind (Z6S k v25) fun z19 => if (!Prod.snd z19) = true then some false else if (!(decide (Prod.fst z19.1 = b9_0) && (decide (Prod.fst z19.1.2 = b9_1) && (decide (Prod.snd z19.1.2 = b9_2) && true)))) = true then some false else if v21 = true then Option.bind (Z8S k (b5_0, b5_1, o6) o8) fun z20 => Option.bind (Z52 k (b5_0, b5_1, o6) o7 o8) fun z21 => if (!Prod.snd z20.2) = true then some false else if (!Prod.snd z21.2) = true then some false else if (0 : Int) ≤ v22 then if v22 < (↑(List.length z20.1) : Int) then if (0 : Int) ≤ v22 then if v22 < (↑(List.length z21.1) : Int) then if (decide (Prod.fst (List.getD z20.1 (Int.toNat v22) ((0 : Int), (0 : Int), (0 : Int))) = Prod.fst (List.getD z21.1 (Int.toNat v22) ((0 : Int), (0 : Int), (0 : Int)))) && (decide (Prod.fst (Prod.snd (List.getD z20.1 (Int.toNat v22) ((0 : Int), (0 : Int), (0 : Int)))) = Prod.fst (Prod.snd (List.getD z21.1 (Int.toNat v22) ((0 : Int), (0 : Int), (0 : Int))))) && (decide (Prod.snd (Prod.snd (List.getD z20.1 (Int.toNat v22) ((0 : Int), (0 : Int), (0 : Int)))) = Prod.snd (Prod.snd (List.getD z21.1 (Int.toNat v22) ((0 : Int), (0 : Int), (0 : Int))))) && true))) = true then some false else if (0 : Int) ≤ v22 then if v22 ≤ (↑(List.length z20.1) : Int) then if (0 : Int) ≤ v22 then if v22 ≤ (↑(List.length z21.1) : Int) then Option.bind (Za3 k (List.take (Int.toNat v22 - Int.toNat (0 : Int)) (List.drop (Int.toNat (0 : Int)) z20.1)) (List.take (Int.toNat v22 - Int.toNat (0 : Int)) (List.drop (Int.toNat (0 : Int)) z21.1))) fun z22 => if (!z22) = true then some false else Option.bind (Z10 k b1_0 b1_1 o2 o3 o4 b10_0 b10_1 o11 o12 v8 v14 v15 v36) fun z33 => some z33 else none else none else none else none else none else none else none else none else Option.bind (Z10 k b1_0 b1_1 o2 o3 o4 b10_0 b10_1 o11 o12 v8 v14 v15 v36) fun z34 => some z34 else if v21 = true then Option.bind (Z8S k (b5_0, b5_1, o6) o8) fun z35 => Option.bind (Z52 k (b5_0, b5_1, o6) o7 o8) fun z36 => if (!Prod.snd z35.2) = true then some false else if (!Prod.snd z36.2) = true then some false else if (0 : Int) ≤ v22 then if v22 < (↑(List.length z35.1) : Int) then if (0 : Int) ≤ v22 then if v22 < (↑(List.length z36.1) : Int) then if (decide (Prod.fst (List.getD z35.1 (Int.toNat v22) ((0 : Int), (0 : Int), (0 : Int))) = Prod.fst (List.getD z36.1 (Int.toNat v22) ((0 : Int), (0 : Int), (0 : Int)))) && (decide (Prod.fst (Prod.snd (List.getD z35.1 (Int.toNat v22) ((0 : Int), (0 : Int), (0 : Int)))) = Prod.fst (Prod.snd (List.getD z36.1 (Int.toNat v22) ((0 : Int), (0 : Int), (0 : Int))))) && (decide (Prod.snd (Prod.snd (List.getD z35.1 (Int.toNat v22) ((0 : Int), (0 : Int), (0 : Int)))) = Prod.snd (Prod.snd (List.getD z36.1 (Int.toNat v22) ((0 : Int), (0 : Int), (0 : Int))))) && true))) = true then some false else if (0 : Int) ≤ v22 then if v22 ≤ (↑(List.length z35.1) : Int) then if (0 : Int) ≤ v22 then if v22 ≤ (↑(List.length z36.1) : Int) then Option.bind (Za3 k (List.take (Int.toNat v22 - Int.toNat (0 : Int)) (List.drop (Int.toNat (0 : Int)) z35.1)) (List.take (Int.toNat v22 - Int.toNat (0 : Int)) (List.drop (Int.toNat (0 : Int)) z36.1))) fun z37 => if (!z37) = true then some false else Option.bind (Z10 k b1_0 b1_1 o2 o3 o4 b10_0 b10_1 o11 o12 v8 v14 v15 v36) fun z38 => some z38 else none else none else none else none else none else none else none else none else Option.bind (Z10 k b1_0 b1_1 o2 o3 o4 b10_0 b10_1 o11 o12 v8 v14 v15 v36) fun z39 => some z39
noncomputable def ZlF : Spec := Spec.mk [OSh.ro, OSh.box (26 : Nat) [Sh.int .i64, Sh.int .i64, Sh.sl (2 : Nat)], OSh.row true (122 : Nat) (Ty.pair (Ty.int .i64) (Ty.int .i64)), OSh.row true (3 : Nat) (Ty.int .i64), OSh.row true (42 : Nat) (Ty.pair (Ty.int .i64) (Ty.pair (Ty.int .i64) (Ty.int .i64))), OSh.box (26 : Nat) [Sh.int .i64, Sh.int .i64, Sh.sl (6 : Nat)], OSh.row true (122 : Nat) (Ty.pair (Ty.int .i64) (Ty.int .i64)), OSh.row true (42 : Nat) (Ty.pair (Ty.int .i64) (Ty.pair (Ty.int .i64) (Ty.int .i64))), OSh.row true (3 : Nat) (Ty.int .i64), OSh.box (42 : Nat) [Sh.int .i64, Sh.int .i64, Sh.int .i64], OSh.box (26 : Nat) [Sh.int .i64, Sh.int .i64, Sh.sl (11 : Nat)], OSh.row true (122 : Nat) (Ty.pair (Ty.int .i64) (Ty.int .i64)), OSh.row true (42 : Nat) (Ty.pair (Ty.int .i64) (Ty.pair (Ty.int .i64) (Ty.int .i64)))] [((5 : Nat), TSh.at (Sh.ptr (1 : Nat) (0 : Nat))), ((6 : Nat), TSh.at (Sh.sl (3 : Nat))), ((8 : Nat), TSh.at Sh.bool), ((9 : Nat), TSh.at (Sh.sl (4 : Nat))), ((14 : Nat), TSh.at (Sh.int .i64)), ((15 : Nat), TSh.at (Sh.int .i64)), ((17 : Nat), TSh.at (Sh.ptr (5 : Nat) (0 : Nat))), ((18 : Nat), TSh.at (Sh.sl (7 : Nat))), ((19 : Nat), TSh.at (Sh.sl (8 : Nat))), ((21 : Nat), TSh.at Sh.bool), ((22 : Nat), TSh.at (Sh.int .i64)), ((24 : Nat), TSh.at (Sh.ptr (9 : Nat) (0 : Nat))), ((25 : Nat), TSh.at Sh.str), ((26 : Nat), TSh.at Sh.bool), ((34 : Nat), TSh.at (Sh.ptr (10 : Nat) (0 : Nat))), ((36 : Nat), TSh.at Sh.bool), ((37 : Nat), TSh.at (Sh.sl (12 : Nat)))]
noncomputable def ZM : LoopDef (Tup ZE × OutD) := .ends ZlF (Bool) (fun k x => Za2 k x.1.2.1.1 x.1.2.1.2.1 x.1.2.2.1 x.1.2.2.2.1 x.1.2.2.2.2.1 x.1.2.2.2.2.2.1.1 x.1.2.2.2.2.2.1.2.1 x.1.2.2.2.2.2.2.1 x.1.2.2.2.2.2.2.2.1 x.1.2.2.2.2.2.2.2.2.1 x.1.2.2.2.2.2.2.2.2.2.1.1 x.1.2.2.2.2.2.2.2.2.2.1.2.1 x.1.2.2.2.2.2.2.2.2.2.1.2.2.1 x.1.2.2.2.2.2.2.2.2.2.2.1.1 x.1.2.2.2.2.2.2.2.2.2.2.1.2.1 x.1.2.2.2.2.2.2.2.2.2.2.2.1 x.1.2.2.2.2.2.2.2.2.2.2.2.2.1 x.2.2.2.1 x.2.2.2.2.2.1 x.2.2.2.2.2.2.1 x.2.2.2.2.2.2.2.2.2.2.1 x.2.2.2.2.2.2.2.2.2.2.2.1 x.2.2.2.2.2.2.2.2.2.2.2.2.2.1 x.2.2.2.2.2.2.2.2.2.2.2.2.2.2.1 x.2.2.2.2.2.2.2.2.2.2.2.2.2.2.2.2.1) Z19 Z1a ZZ
noncomputable def Z9R : Nat → Int → Int → List (Int × Int) → List Int → List (Int × Int × Int) → List (Int × Int × Int) → Int → Int → List (Int × Int) → List (Int × Int × Int) → List Int → Int → Int → Int → Int → Int → Int → Int → Int → Int → Int → Int → List (Int × Int) → List (Int × Int × Int) → Bool → Bool → Int → Int → Bool → Int → Int → Bool → Int → Bool → Int → Bool → ByteArray → Bool → ByteArray → Bool → Bool → Bool → Bool → Option Bool := fun k b1_0 b1_1 o2 o3 o4 o5 b6_0 b6_1 o7 o8 o9 b10_0 b10_1 b10_2 b11_0 b11_1 b11_2 b12_0 b12_1 b12_2 b13_0 b13_1 o14 o15 v8 v10 v11 v12 v13 v14 v15 v16 v20 v21 v22 v23 v25 v26 v27 v28 v31 v33 v36 =>
    Option.bind (Z5e k (b13_0, b13_1, o14)) fun z16 => if (!v8 == v10) = true then some false else Option.bind (Z93 k o4 o5) fun z17 => if (!z17) = true then some false else if (!v13 == v16) = true then some false else if decide (v11 ≠ v14) = true then some false else if decide (v12 ≠ v15) = true then some false else if (!v21 == v23) = true then some false else if decide (v20 ≠ v22) = true then some false else if (!v26 == v28) = true then some false else if (!ByteArray.toList v25 == ByteArray.toList v27) = true then some false else if (!v31 == v33) = true then some false else if (!(decide (b11_0 = b12_0) && (decide (b11_1 = b12_1) && (decide (b11_2 = b12_2) && true)))) = true then some false else if (!v36 == Prod.snd z16) = true then some false else Option.bind (Z93 k o15 z16.1) fun z18 => if (!z18) = true then some false else if (!v13 == v8) = true then some false else Option.bind (Za2 k b1_0 b1_1 o2 o3 o5 b6_0 b6_1 o7 o8 o9 b10_0 b10_1 b10_2 b13_0 b13_1 o14 z16.1 v8 v14 v15 v21 v22 v25 v26 v36) fun z40 => some z40
noncomputable def Znn : Spec := Spec.mk [OSh.ro, OSh.box (26 : Nat) [Sh.int .i64, Sh.int .i64, Sh.sl (2 : Nat)], OSh.row true (122 : Nat) (Ty.pair (Ty.int .i64) (Ty.int .i64)), OSh.row true (3 : Nat) (Ty.int .i64), OSh.row true (42 : Nat) (Ty.pair (Ty.int .i64) (Ty.pair (Ty.int .i64) (Ty.int .i64))), OSh.row true (42 : Nat) (Ty.pair (Ty.int .i64) (Ty.pair (Ty.int .i64) (Ty.int .i64))), OSh.box (26 : Nat) [Sh.int .i64, Sh.int .i64, Sh.sl (7 : Nat)], OSh.row true (122 : Nat) (Ty.pair (Ty.int .i64) (Ty.int .i64)), OSh.row true (42 : Nat) (Ty.pair (Ty.int .i64) (Ty.pair (Ty.int .i64) (Ty.int .i64))), OSh.row true (3 : Nat) (Ty.int .i64), OSh.box (42 : Nat) [Sh.int .i64, Sh.int .i64, Sh.int .i64], OSh.box (42 : Nat) [Sh.int .i64, Sh.int .i64, Sh.int .i64], OSh.box (42 : Nat) [Sh.int .i64, Sh.int .i64, Sh.int .i64], OSh.box (26 : Nat) [Sh.int .i64, Sh.int .i64, Sh.sl (14 : Nat)], OSh.row true (122 : Nat) (Ty.pair (Ty.int .i64) (Ty.int .i64)), OSh.row true (42 : Nat) (Ty.pair (Ty.int .i64) (Ty.pair (Ty.int .i64) (Ty.int .i64)))] [((5 : Nat), TSh.at (Sh.ptr (1 : Nat) (0 : Nat))), ((6 : Nat), TSh.at (Sh.sl (3 : Nat))), ((7 : Nat), TSh.at (Sh.sl (4 : Nat))), ((8 : Nat), TSh.at Sh.bool), ((9 : Nat), TSh.at (Sh.sl (5 : Nat))), ((10 : Nat), TSh.at Sh.bool), ((11 : Nat), TSh.at (Sh.int .i64)), ((12 : Nat), TSh.at (Sh.int .i64)), ((13 : Nat), TSh.at Sh.bool), ((14 : Nat), TSh.at (Sh.int .i64)), ((15 : Nat), TSh.at (Sh.int .i64)), ((16 : Nat), TSh.at Sh.bool), ((17 : Nat), TSh.at (Sh.ptr (6 : Nat) (0 : Nat))), ((18 : Nat), TSh.at (Sh.sl (8 : Nat))), ((19 : Nat), TSh.at (Sh.sl (9 : Nat))), ((20 : Nat), TSh.at (Sh.int .i64)), ((21 : Nat), TSh.at Sh.bool), ((22 : Nat), TSh.at (Sh.int .i64)), ((23 : Nat), TSh.at Sh.bool), ((24 : Nat), TSh.at (Sh.ptr (10 : Nat) (0 : Nat))), ((25 : Nat), TSh.at Sh.str), ((26 : Nat), TSh.at Sh.bool), ((27 : Nat), TSh.at Sh.str), ((28 : Nat), TSh.at Sh.bool), ((30 : Nat), TSh.at (Sh.ptr (11 : Nat) (0 : Nat))), ((31 : Nat), TSh.at Sh.bool), ((32 : Nat), TSh.at (Sh.ptr (12 : Nat) (0 : Nat))), ((33 : Nat), TSh.at Sh.bool), ((34 : Nat), TSh.at (Sh.ptr (13 : Nat) (0 : Nat))), ((35 : Nat), TSh.at (Sh.sl (15 : Nat))), ((36 : Nat), TSh.at Sh.bool)]
noncomputable def ZN : LoopDef (Tup ZE × OutD) := .ends Znn (Bool) (fun k x => Z9R k x.1.2.1.1 x.1.2.1.2.1 x.1.2.2.1 x.1.2.2.2.1 x.1.2.2.2.2.1 x.1.2.2.2.2.2.1 x.1.2.2.2.2.2.2.1.1 x.1.2.2.2.2.2.2.1.2.1 x.1.2.2.2.2.2.2.2.1 x.1.2.2.2.2.2.2.2.2.1 x.1.2.2.2.2.2.2.2.2.2.1 x.1.2.2.2.2.2.2.2.2.2.2.1.1 x.1.2.2.2.2.2.2.2.2.2.2.1.2.1 x.1.2.2.2.2.2.2.2.2.2.2.1.2.2.1 x.1.2.2.2.2.2.2.2.2.2.2.2.1.1 x.1.2.2.2.2.2.2.2.2.2.2.2.1.2.1 x.1.2.2.2.2.2.2.2.2.2.2.2.1.2.2.1 x.1.2.2.2.2.2.2.2.2.2.2.2.2.1.1 x.1.2.2.2.2.2.2.2.2.2.2.2.2.1.2.1 x.1.2.2.2.2.2.2.2.2.2.2.2.2.1.2.2.1 x.1.2.2.2.2.2.2.2.2.2.2.2.2.2.1.1 x.1.2.2.2.2.2.2.2.2.2.2.2.2.2.1.2.1 x.1.2.2.2.2.2.2.2.2.2.2.2.2.2.2.1 x.1.2.2.2.2.2.2.2.2.2.2.2.2.2.2.2.1 x.2.2.2.2.1 x.2.2.2.2.2.2.1 x.2.2.2.2.2.2.2.1 x.2.2.2.2.2.2.2.2.1 x.2.2.2.2.2.2.2.2.2.1 x.2.2.2.2.2.2.2.2.2.2.1 x.2.2.2.2.2.2.2.2.2.2.2.1 x.2.2.2.2.2.2.2.2.2.2.2.2.1 x.2.2.2.2.2.2.2.2.2.2.2.2.2.2.2.2.1 x.2.2.2.2.2.2.2.2.2.2.2.2.2.2.2.2.2.1 x.2.2.2.2.2.2.2.2.2.2.2.2.2.2.2.2.2.2.1 x.2.2.2.2.2.2.2.2.2.2.2.2.2.2.2.2.2.2.2.1 x.2.2.2.2.2.2.2.2.2.2.2.2.2.2.2.2.2.2.2.2.2.1 x.2.2.2.2.2.2.2.2.2.2.2.2.2.2.2.2.2.2.2.2.2.2.1 x.2.2.2.2.2.2.2.2.2.2.2.2.2.2.2.2.2.2.2.2.2.2.2.1 x.2.2.2.2.2.2.2.2.2.2.2.2.2.2.2.2.2.2.2.2.2.2.2.2.1 x.2.2.2.2.2.2.2.2.2.2.2.2.2.2.2.2.2.2.2.2.2.2.2.2.2.2.1 x.2.2.2.2.2.2.2.2.2.2.2.2.2.2.2.2.2.2.2.2.2.2.2.2.2.2.2.2.1 x.2.2.2.2.2.2.2.2.2.2.2.2.2.2.2.2.2.2.2.2.2.2.2.2.2.2.2.2.2.2.2.1) Z19 Z1a ZZ
noncomputable def ZaQ : Nat → Int → Int → List (Int × Int) → List Int → List (Int × Int × Int) → List (Int × Int × Int) → Int → Int → List (Int × Int) → List (Int × Int × Int) → List Int → List Int → Bool → Bool → Int → Int → Bool → Int → Int → Bool → Option Bool := fun k b1_0 b1_1 o2 o3 o4 o5 b6_0 b6_1 o7 o8 o9 v1 v8 v10 v11 v12 v13 v14 v15 v16 =>
    Option.bind (Z9q k (b6_0, b6_1, o7) o8 o9) fun z6 => Option.bind (ZcB k (b6_0, b6_1, o7) o8 o9) fun z7 => Option.bind (Z8w k v1) fun z8 => Option.bind (Z3I k (Prod.fst z8, Prod.fst z8.2, Prod.snd z8.2)) fun z9 => Option.bind (Zcb k (Prod.fst z8, Prod.fst z8.2, Prod.snd z8.2)) fun z10 => Option.bind (Z8z k v1) fun z11 => Option.bind (Z6S k z11) fun z12 => Option.bind (Zce k z11) fun z13 => Option.bind (Z5r k v1) fun z14 => Option.bind (Z53 k (Prod.fst z14, Prod.fst z14.2, Prod.snd z14.2)) fun z15 => Option.bind (Z9R k b1_0 b1_1 o2 o3 o4 o5 b6_0 b6_1 o7 o8 o9 z8.1 z8.2.1 z8.2.2 z12.1.1 z12.1.2.1 z12.1.2.2 z13.1.1 z13.1.2.1 z13.1.2.2 z14.1 z14.2.1 z14.2.2 z15.1 v8 v10 v11 v12 v13 v14 v15 v16 z6.1 z6.2 z7.1 z7.2 z9.1 z9.2 z10.1 z10.2 z12.2 z13.2 z15.2) fun z41 => some z41
noncomputable def ZnQ : Spec := Spec.mk [OSh.ro, OSh.box (26 : Nat) [Sh.int .i64, Sh.int .i64, Sh.sl (2 : Nat)], OSh.row true (122 : Nat) (Ty.pair (Ty.int .i64) (Ty.int .i64)), OSh.row true (3 : Nat) (Ty.int .i64), OSh.row true (42 : Nat) (Ty.pair (Ty.int .i64) (Ty.pair (Ty.int .i64) (Ty.int .i64))), OSh.row true (42 : Nat) (Ty.pair (Ty.int .i64) (Ty.pair (Ty.int .i64) (Ty.int .i64))), OSh.box (26 : Nat) [Sh.int .i64, Sh.int .i64, Sh.sl (7 : Nat)], OSh.row true (122 : Nat) (Ty.pair (Ty.int .i64) (Ty.int .i64)), OSh.row true (42 : Nat) (Ty.pair (Ty.int .i64) (Ty.pair (Ty.int .i64) (Ty.int .i64))), OSh.row true (3 : Nat) (Ty.int .i64)] [((1 : Nat), TSh.at (Sh.snap (0 : Nat) (Ty.int .u8))), ((5 : Nat), TSh.at (Sh.ptr (1 : Nat) (0 : Nat))), ((6 : Nat), TSh.at (Sh.sl (3 : Nat))), ((7 : Nat), TSh.at (Sh.sl (4 : Nat))), ((8 : Nat), TSh.at Sh.bool), ((9 : Nat), TSh.at (Sh.sl (5 : Nat))), ((10 : Nat), TSh.at Sh.bool), ((11 : Nat), TSh.at (Sh.int .i64)), ((12 : Nat), TSh.at (Sh.int .i64)), ((13 : Nat), TSh.at Sh.bool), ((14 : Nat), TSh.at (Sh.int .i64)), ((15 : Nat), TSh.at (Sh.int .i64)), ((16 : Nat), TSh.at Sh.bool), ((17 : Nat), TSh.at (Sh.ptr (6 : Nat) (0 : Nat))), ((18 : Nat), TSh.at (Sh.sl (8 : Nat))), ((19 : Nat), TSh.at (Sh.sl (9 : Nat)))]
noncomputable def ZY : LoopDef (Tup ZE × OutD) := .ends ZnQ (Bool) (fun k x => ZaQ k x.1.2.1.1 x.1.2.1.2.1 x.1.2.2.1 x.1.2.2.2.1 x.1.2.2.2.2.1 x.1.2.2.2.2.2.1 x.1.2.2.2.2.2.2.1.1 x.1.2.2.2.2.2.2.1.2.1 x.1.2.2.2.2.2.2.2.1 x.1.2.2.2.2.2.2.2.2.1 x.1.2.2.2.2.2.2.2.2.2.1 x.2.1 x.2.2.2.2.2.1 x.2.2.2.2.2.2.2.1 x.2.2.2.2.2.2.2.2.1 x.2.2.2.2.2.2.2.2.2.1 x.2.2.2.2.2.2.2.2.2.2.1 x.2.2.2.2.2.2.2.2.2.2.2.1 x.2.2.2.2.2.2.2.2.2.2.2.2.1 x.2.2.2.2.2.2.2.2.2.2.2.2.2.1) Z19 Z1a ZZ
noncomputable def Zdc : Nat → List Int → List Int → Option Bool
 | 0, _, _ => none
 | k + 1, p0, p1 =>
  if gtS (wrap64 ((↑(List.length p0) : Int) + (↑(List.length p1) : Int))) (1048576 : Int) = true then some true else Option.bind (Z6x k p0) fun z0 => Option.bind (Z4o k (Prod.fst z0.1, Prod.fst z0.1.2, Prod.snd z0.1.2) z0.2) fun z1 => Option.bind (Z9O k (Prod.fst z0.1, Prod.fst z0.1.2, Prod.snd z0.1.2) z0.2) fun z2 => Option.bind (Zci k (Prod.fst z0.1, Prod.fst z0.1.2, Prod.snd z0.1.2) z0.2) fun z3 => Option.bind (Zcg k (Prod.fst z0.1, Prod.fst z0.1.2, Prod.snd z0.1.2) z0.2) fun z4 => Option.bind (Z8v k p1) fun z5 => Option.bind (ZaQ k z0.1.1 z0.1.2.1 z0.1.2.2 z0.2 z1.1 z2.1 z5.1.1 z5.1.2.1 z5.1.2.2 z5.2.1 z5.2.2 p1 z1.2 z2.2 z3.1 z3.2.1 z3.2.2 z4.1 z4.2.1 z4.2.2) fun z42 => some z42
noncomputable def Z1D : FnDef := .of Z6C ZE (Bool) (fun k x => Zdc k x.1 x.2.1) Z19 Z1a ZZ
noncomputable def Z13 : Code := Tryz.f4.body.getD .skip
noncomputable def Z1 : Ctx (Tup ZE × OutD) := { T := T, G := [(24, Z1j.E), (25, Z1x.E), (26, Z2c.E), (27, Z3K.E), (28, Z3F.E), (29, Z1S.E), (30, Z3D.E), (31, Z3J.E), (32, Z1W.E), (18, Z2I.E), (33, Z3C.E), (34, Z20.E), (35, Z3E.E), (36, Z3w.E), (37, Z14.E), (38, Z1G.E), (39, Z1F.E), (40, Z55.E), (41, Z58.E), (42, Z2w.E), (43, Z6i.E), (44, Z3z.E)], mvs := [], no := 0, n := 406, res := resOf T Z6C ZE Tryz.f4.results.toList, loops := [(0, Z2S.E), (2, Z2U.E)], regs := [], conds := [], cuts := [(60, ZQ.E), (43, ZO.E), (31, ZP.E), (22, ZM.E), (19, ZN.E), (9, ZY.E)] }
theorem Z1A (k : Nat) : EnvOK Tryz.prog k Z1.G := (EnvOK.cons (Znv k) (EnvOK.cons (Zi7 k) (EnvOK.cons (ZuA k) (EnvOK.cons (Zzf k) (EnvOK.cons (ZB5 k) (EnvOK.cons (ZrM k) (EnvOK.cons (ZAE k) (EnvOK.cons (ZAr k) (EnvOK.cons (Zrx k) (EnvOK.cons (ZlY k) (EnvOK.cons (ZyP k) (EnvOK.cons (ZsZ k) (EnvOK.cons (ZAN k) (EnvOK.cons (ZzJ k) (EnvOK.cons (ZkD k) (EnvOK.cons (Zqi k) (EnvOK.cons (Zra k) (EnvOK.cons (ZDH k) (EnvOK.cons (ZDA k) (EnvOK.cons (Zvw k) (EnvOK.cons (ZEJ k) (EnvOK.cons (ZBg k) (EnvOK.nil mixed)))))))))))))))))))))))
noncomputable def Z7f : Code := (findLoop 0 Z13).getD .skip
theorem ZpS (k : Nat) (x : ZaH.D) : Z2S.lp (k + 1) x = loopK Z1 Z2S 0 Z7f k x := by kernel_rfl
theorem ZpH (k : Nat) : LOK Tryz.prog Z1 k Z7f := LOK.by [] (by kernel_rfl) AllOK.nil
theorem Zpz (x : ZaH.D) : Z2S.lp 0 x = none := by kernel_rfl
theorem ZnS (k : Nat) : EOK Tryz.prog Z1 k Z2S.E (.block 0 (.loop Z7f)) := Zb T_ok Z1A Zpz ZpS ZpH k
noncomputable def Z7h : Code := (findLoop 2 Z13).getD .skip
theorem ZoW (k : Nat) (x : ZaI.D) : Z2U.lp (k + 1) x = loopK Z1 Z2U 2 Z7h k x := by kernel_rfl
theorem Zp7 (k : Nat) : LOK Tryz.prog Z1 k Z7h := LOK.by [] (by kernel_rfl) AllOK.nil
theorem ZpC (x : ZaI.D) : Z2U.lp 0 x = none := by kernel_rfl
theorem ZnN (k : Nat) : EOK Tryz.prog Z1 k Z2U.E (.block 2 (.loop Z7h)) := Zb T_ok Z1A ZpC ZoW Zp7 k
noncomputable def Z5M : Code := (findCut 60 Z13).getD .skip
theorem Zlp (k : Nat) (i : ZQ.inp.D) : ZQ.lp k i = exec Z1 k Z5M (ZQ.inp.st Z1.n i) (outK Z1 ZQ) (fun _ _ => none) ZQ.mkB := by kernel_rfl
theorem ZkS (k : Nat) : EOK Tryz.prog Z1 k ZQ.E Z5M := Zrp (D := ZQ) T_ok (Z1A k) (Zlp k) (@LOK.by _ _ _ _ Z5M [] (by kernel_rfl) AllOK.nil)
noncomputable def Z61 : Code := (findCut 43 Z13).getD .skip
theorem ZlO (k : Nat) (i : ZO.inp.D) : ZO.lp k i = exec Z1 k Z61 (ZO.inp.st Z1.n i) (outK Z1 ZO) (fun _ _ => none) ZO.mkB := by kernel_rfl
theorem ZkM (k : Nat) : EOK Tryz.prog Z1 k ZO.E Z61 := Zrp (D := ZO) T_ok (Z1A k) (ZlO k) (@LOK.by _ _ _ _ Z61 [(Z2U.E, .block 2 (.loop Z7h)), (ZQ.E, Z5M)] (by kernel_rfl) (AllOK.cons (ZnN k) (AllOK.cons (ZkS k) AllOK.nil)))
noncomputable def Z5O : Code := (findCut 31 Z13).getD .skip
theorem ZmW (k : Nat) (i : ZP.inp.D) : ZP.lp k i = exec Z1 k Z5O (ZP.inp.st Z1.n i) (outK Z1 ZP) (fun _ _ => none) ZP.mkB := by kernel_rfl
theorem ZkO (k : Nat) : EOK Tryz.prog Z1 k ZP.E Z5O := Zrp (D := ZP) T_ok (Z1A k) (ZmW k) (@LOK.by _ _ _ _ Z5O [(Z2S.E, .block 0 (.loop Z7f)), (ZO.E, Z61)] (by kernel_rfl) (AllOK.cons (ZnS k) (AllOK.cons (ZkM k) AllOK.nil)))
noncomputable def Z5W : Code := (findCut 22 Z13).getD .skip
theorem Zma (k : Nat) (i : ZM.inp.D) : ZM.lp k i = exec Z1 k Z5W (ZM.inp.st Z1.n i) (outK Z1 ZM) (fun _ _ => none) ZM.mkB := by kernel_rfl
theorem Zl0 (k : Nat) : EOK Tryz.prog Z1 k ZM.E Z5W := Zrp (D := ZM) T_ok (Z1A k) (Zma k) (@LOK.by _ _ _ _ Z5W [(ZP.E, Z5O)] (by kernel_rfl) (AllOK.cons (ZkO k) AllOK.nil))
noncomputable def Z5v : Code := (findCut 19 Z13).getD .skip
theorem Zm5 (k : Nat) (i : ZN.inp.D) : ZN.lp k i = exec Z1 k Z5v (ZN.inp.st Z1.n i) (outK Z1 ZN) (fun _ _ => none) ZN.mkB := by kernel_rfl
theorem ZkV (k : Nat) : EOK Tryz.prog Z1 k ZN.E Z5v := Zrp (D := ZN) T_ok (Z1A k) (Zm5 k) (@LOK.by _ _ _ _ Z5v [(ZM.E, Z5W)] (by kernel_rfl) (AllOK.cons (Zl0 k) AllOK.nil))
noncomputable def Z6s : Code := (findCut 9 Z13).getD .skip
theorem ZnB (k : Nat) (i : ZY.inp.D) : ZY.lp k i = exec Z1 k Z6s (ZY.inp.st Z1.n i) (outK Z1 ZY) (fun _ _ => none) ZY.mkB := by kernel_rfl
theorem Zn7 (k : Nat) : EOK Tryz.prog Z1 k ZY.E Z6s := Zrp (D := ZY) T_ok (Z1A k) (ZnB k) (@LOK.by _ _ _ _ Z6s [(ZN.E, Z5v)] (by kernel_rfl) (AllOK.cons (ZkV k) AllOK.nil))
theorem ZuY (k : Nat) (x : Tup Z1D.ps) : Z1D.f (k + 1) x = fnK Z1D Z1 Z13 k x := by kernel_rfl
theorem Zvf (x : Tup Z1D.ps) : Z1D.f 0 x = none := by kernel_rfl
theorem Zv6 (k : Nat) : LOK Tryz.prog Z1 k Z13 := LOK.by [(ZY.E, Z6s)] (by kernel_rfl) (AllOK.cons (Zn7 k) AllOK.nil)
theorem Zus (k : Nat) : SoundAt Tryz.prog k 4 Z1D.E := @Z3 Tryz.prog Z1D Z1 4 Tryz.f4 Z13 (by kernel_rfl) (by kernel_rfl) (by kernel_rfl) Tryz.func4 (by kernel_rfl) (by kernel_rfl) (by kernel_rfl) T_ok Z1A Zv6 Zvf ZuY k
end
end Go.Proofs.YtglkedenkcpcbaaGreatDoor.Vs

set_option linter.unusedVariables false
set_option linter.unusedSimpArgs false
namespace Go.Proofs.YtglkedenkcpcbaaGreatDoor.Vs
open Go.RowKit
theorem ZG3 {l : List Int} (h : ∀ x ∈ l, Wf (.int .u8) x) : ∀ x ∈ l, 0 ≤ x ∧ x ≤ 255 := by
 intro x hx
 have h2 : (Lit.int .u8 x).wf = true := h x hx
 simp only [Lit.wf, Bool.and_eq_true, decide_eq_true_eq] at h2
 have e1 : IntKind.u8.min = 0 := by decide
 have e2 : IntKind.u8.max = 255 := by decide
 omega
def Cur (code : List Int) (at' n : Int) : Prop := (∀ x ∈ code, 0 ≤ x ∧ x ≤ 255) ∧ code.length ≤ 9223372036854775807 ∧ 0 ≤ at' ∧ at' + n ≤ 4611686018427387904
theorem Cur.to {code : List Int} {at' n at2 m : Int} (h : Cur code at' n) (h1 : at' ≤ at2) (h2 : at2 + m ≤ at' + n) : Cur code at2 m := ⟨h.1, h.2.1, by have := h.2.2.1; omega, by have := h.2.2.2; omega⟩
theorem Zp1 (n : Int) (h0 : 0 ≤ n) (h1 : n < 2 ^ 64) : IntKind.u64.wrap n = n := by
 have : (2 : Int) ^ 64 = 18446744073709551616 := by decide
 simp [IntKind.wrap, IntKind.bits, IntKind.signed]
 omega
theorem and255 (x : Int) : 0 ≤ bits BinOp.and IntKind.u64 x 255 ∧ bits BinOp.and IntKind.u64 x 255 ≤ 255 := by
 unfold bits
 simp only
 have h : ((BitVec.ofInt IntKind.u64.bits x &&& BitVec.ofInt IntKind.u64.bits 255).toNat) ≤ 255 := by
  rw [BitVec.toNat_and]
  exact Nat.and_le_right
 have h2 : ((2 : Int) ^ 64) = 18446744073709551616 := by decide
 rw [Zp1 _ (Int.natCast_nonneg _) (by omega)]
 omega
theorem ZE2 {l : List Int} {i : Int} (h : i < (l.length : Int)) (h0 : 0 ≤ i) : List.getD l i.toNat 0 ∈ l := by
 have hi : i.toNat < l.length := by omega
 simp only [List.getD, List.getElem?_eq_getElem hi, Option.getD_some]
 exact List.getElem_mem hi
def seedN (s b : Int) : Int := IntKind.wrap IntKind.u64 (IntKind.wrap IntKind.u64 (IntKind.wrap IntKind.u64 (s * 6364136223846793005) + IntKind.wrap IntKind.u64 b) + 1442695040888963407)
theorem ZHB {code : List Int} {at' : Int} (seed : Int) (h : Cur code at' 1) : ∃ v s, Ev (fun k => Z6g k (code, at', seed)) (v, at' + 1, s) ∧ 0 ≤ v ∧ v ≤ 255 := by
 obtain ⟨hb, hl, h0, h1⟩ := h
 have w1 : wrap64 (at' + 1) = at' + 1 := w64 (by omega) (by omega)
 have big : ∀ x : Int, 0 ≤ wrap64 (bits BinOp.and IntKind.u64 x 255) ∧ wrap64 (bits BinOp.and IntKind.u64 x 255) ≤ 255 := fun x => by
  have := and255 x
  rw [w64 (by omega) (by omega)]
  exact this
 by_cases hin : at' < (code.length : Int)
 ·have hx := hb _ (ZE2 hin h0)
  have w2 : wrap64 (List.getD code at'.toNat 0) = List.getD code at'.toNat 0 := w64 (by omega) (by omega)
  have hle : at' + 1 ≤ (code.length : Int) := by omega
  refine ⟨List.getD code at'.toNat 0, seedN seed (List.getD code at'.toNat 0), Ev.succ ?_, hx.1, hx.2⟩
  simp only [Z6g, hin, h0, w1, hle, decide_true, if_true, w2]
  exact Ev.some _
 ·have hle : ¬ at' + 1 ≤ (code.length : Int) := by omega
  refine ⟨wrap64 (bits BinOp.and IntKind.u64 (Int.fdiv (seedN seed 0) (2 ^ min (Int.toNat 40) (IntKind.bits IntKind.u64))) 255), seedN seed 0, Ev.succ ?_, (big _).1, (big _).2⟩
  simp only [Z6g, hin, w1, hle, decide_false, Bool.false_eq_true, if_false]
  exact Ev.some _
theorem Zrl {code : List Int} {at' : Int} (seed n : Int) (h : Cur code at' 2) : ∃ v at2 s, Ev (fun k => Z0 k (code, at', seed) n) (v, at2, s) ∧ at' ≤ at2 ∧ at2 ≤ at' + 2 ∧ 0 ≤ v ∧ (n ≤ 1 → v = 0) ∧ (1 < n → v < n) := by
 by_cases hn : n ≤ 1
 ·refine ⟨0, at', seed, Ev.succ ?_, by omega, by omega, by omega, fun _ => rfl, fun h => by omega⟩
  simp only [Z0, hn, decide_true, if_true]
  exact Ev.some _
 ·obtain ⟨v1, s1, e1, b1, b2⟩ := ZHB seed (h.to (at2 := at') (m := 1) (by omega) (by omega))
  by_cases hb : n > 200
  ·obtain ⟨v2, s2, e2, b3, b4⟩ := ZHB s1 (h.to (at2 := at' + 1) (m := 1) (by omega) (by omega))
   have hp : 0 ≤ v1 * 256 + v2 := by omega
   refine ⟨Int.tmod (v1 * 256 + v2) n, at' + 1 + 1, s2, Ev.succ ?_, by omega, by omega, Int.tmod_nonneg _ hp, fun h => by omega, fun _ => Int.tmod_lt_of_pos _ (by omega)⟩
   have hn0 : ¬ n = 0 := by omega
   simp only [Z0, hn, decide_false, Bool.false_eq_true, if_false]
   refine Ev.bind e1 ?_
   simp only [hb, decide_true, if_true]
   refine Ev.bind e2 ?_
   simp only [hn0, if_false]
   rw [w64 (n := v1 * 256) (by omega) (by omega), w64 (n := v1 * 256 + v2) (by omega) (by omega)]
   exact Ev.some _
  ·refine ⟨Int.tmod v1 n, at' + 1, s1, Ev.succ ?_, by omega, by omega, Int.tmod_nonneg _ b1, fun h => by omega, fun _ => Int.tmod_lt_of_pos _ (by omega)⟩
   have hn0 : ¬ n = 0 := by omega
   simp only [Z0, hn, decide_false, Bool.false_eq_true, if_false]
   refine Ev.bind e1 ?_
   simp only [hb, decide_false, Bool.false_eq_true, if_false, hn0]
   exact Ev.some _
theorem Zd2 {code : List Int} {at' : Int} (seed : Int) (l : List Int) (hl : 0 < l.length) (h : Cur code at' 2) : ∃ v at2 s, Ev (fun k => Z5 k (code, at', seed) l) (v, at2, s) ∧ at' ≤ at2 ∧ at2 ≤ at' + 2 ∧ v ∈ l := by
 obtain ⟨v, at2, s, e1, b1, b2, b3, b4, b5⟩ := Zrl seed (l.length : Int) h
 have hlt : v < (l.length : Int) := by
  by_cases h1 : (l.length : Int) ≤ 1
  ·rw [b4 h1]; omega
  ·exact b5 (by omega)
 refine ⟨List.getD l v.toNat 0, at2, s, Ev.succ ?_, b1, b2, ZE2 hlt b3⟩
 simp only [Z5]
 refine Ev.bind e1 ?_
 simp only [b3, hlt, if_true]
 exact Ev.some _
end Go.Proofs.YtglkedenkcpcbaaGreatDoor.Vs

set_option linter.unusedVariables false
set_option linter.unusedSimpArgs false
namespace Go.Proofs.YtglkedenkcpcbaaGreatDoor.Vs
open Go.RowKit
theorem Zl8 {code : List Int} {at' : Int} (seed n : Int) (h : Cur code at' 2) : ∃ b at2 s, Ev (fun k => Zr k (code, at', seed) n) (b, at2, s) ∧ at' ≤ at2 ∧ at2 ≤ at' + 2 := by
 obtain ⟨v, at2, s, e1, b1, b2, _⟩ := Zrl seed n h
 refine ⟨decide (v = 0), at2, s, Ev.succ ?_, b1, b2⟩
 simp only [Zr]
 exact Ev.bind e1 (Ev.some _)
theorem Za8 {code : List Int} {at' : Int} (seed n : Int) (h : Cur code at' 2) (hn : 0 < n) : ∃ v at2 s, Ev (fun k => Z0 k (code, at', seed) n) (v, at2, s) ∧ at' ≤ at2 ∧ at2 ≤ at' + 2 ∧ 0 ≤ v ∧ v < n := by
 obtain ⟨v, at2, s, e1, b1, b2, b3, b4, b5⟩ := Zrl seed n h
 refine ⟨v, at2, s, e1, b1, b2, b3, ?_⟩
 by_cases h1 : n ≤ 1
 ·rw [b4 h1]; exact hn
 ·exact b5 (by omega)
end Go.Proofs.YtglkedenkcpcbaaGreatDoor.Vs

set_option linter.unusedVariables false
set_option linter.unusedSimpArgs false
namespace Go.Proofs.YtglkedenkcpcbaaGreatDoor.Vs
open Go.RowKit
theorem Z34 (a b c : Int) : Ev (fun k => Z1L k a b c) (decide (b ≤ a ∧ a ≤ c)) := by
 refine Ev.succ ?_
 simp only [Z1L]
 refine Ev.of ?_
 by_cases h1 : b ≤ a <;> by_cases h2 : a ≤ c <;> simp [h1, h2]
theorem ZqF (lo hi : Int) : ∀ (r pre : List Int), (pre ++ r).length ≤ 9223372036854775806 → Ev (fun k => Z90 k lo hi (pre ++ r) ((pre ++ r).length : Int) (pre.length : Int)) (if r.all (fun n => decide (lo ≤ n ∧ n ≤ hi)) then LR.go () else LR.ret false)
 | [], pre, hl => by
  refine Ev.succ ?_
  simp only [Z90, ZR, decide_false, Bool.false_eq_true, if_false, List.all_nil, if_true]
  exact Ev.some _
 | x :: r, pre, hl => by
  have ih := ZqF lo hi r (pre ++ [x]) (by simpa using hl)
  refine Ev.succ ?_
  simp only [Z90, Zy, Z16, decide_true, if_true, Int.toNat_natCast, Zk]
  rw [Zz pre x r (by omega)]
  rw [← Z7] at ih
  refine Ev.bind (Z34 x lo hi) ?_
  by_cases hx : lo ≤ x ∧ x ≤ hi
  ·simp only [hx, and_self, List.all_cons, decide_true, Bool.true_and, Bool.not_true, Bool.false_eq_true, if_false]; exact ih
  ·simp only [hx, List.all_cons, decide_false, Bool.false_and, Bool.not_false, if_true, Bool.false_eq_true, if_false]; exact Ev.some _
theorem ZFX (l : List Int) (lo hi : Int) (hl : l.length ≤ 9223372036854775806) : Ev (fun k => ZgQ k l lo hi) (l.all fun n => decide (lo ≤ n ∧ n ≤ hi)) := by
 refine Ev.succ ?_
 simp only [ZgQ]
 refine Ev.bind (ZqF lo hi l [] (by simpa using hl)) ?_
 cases hx : l.all fun n => decide (lo ≤ n ∧ n ≤ hi) with
 | true => simp only [if_true]; exact Ev.go (Ev.some _)
 | false => simp only [Bool.false_eq_true, if_false]; exact Ev.ret (Ev.some _)
end Go.Proofs.YtglkedenkcpcbaaGreatDoor.Vs

set_option linter.unusedVariables false
set_option linter.unusedSimpArgs false
namespace Go.Proofs.YtglkedenkcpcbaaGreatDoor.Vs
open Go.RowKit
abbrev CellD := Int × Int
abbrev BoardD := Int × Int × List (Int × Int)
abbrev FaultD := Int × Int × Int
def turning (x : CellD) : Bool := decide (x.1 = 3 ∨ x.1 = 6)
def cellOK (x : CellD) : Bool := decide (0 ≤ x.1 ∧ x.1 ≤ 7 ∧ (x.2 = 0 ∨ (x.2 = 1 ∧ (x.1 = 3 ∨ x.1 = 6))))
def boardOK (b : BoardD) : Bool := decide (1 ≤ b.1 ∧ b.1 ≤ 10 ∧ 1 ≤ b.2.1 ∧ b.2.1 ≤ 9 ∧ (b.2.2.length : Int) = b.1 * b.2.1) && b.2.2.all cellOK
theorem Zcj (x : CellD) : Ev (fun k => Z4V k x) (turning x) := by
 refine Ev.succ ?_
 simp only [Z4V]
 refine Ev.of ?_
 by_cases h1 : x.1 = 3 <;> simp [turning, h1]
theorem ZjT (x : CellD) : Ev (fun k => Zaa k x) (cellOK x) := by
 refine Ev.succ ?_
 simp only [Zaa, decide_eq_true_eq]
 refine Ev.of ?_
 unfold cellOK
 repeat' split
 all_goals (congr 1; first | (symm; rw [decide_eq_true_eq]; omega) | (symm; rw [decide_eq_false_iff_not]; omega) | (apply decide_eq_decide.2; omega))
theorem ZED (x : CellD) : Ev (fun k => Zfr k x) (cellOK x) := by
 refine Ev.succ ?_
 simp only [Zfr]
 refine Ev.bind (Z34 _ _ _) ?_
 refine Ev.ite (fun h => ?_) (fun h => ?_)
 ·simp only [decide_eq_true_eq] at h
  refine Ev.ite (fun h2 => ?_) (fun h2 => ?_)
  ·simp only [decide_eq_true_eq] at h2
   refine Ev.of ?_
   congr 1; simp [cellOK]; omega
  ·simp only [decide_eq_true_eq] at h2
   refine Ev.ite (fun h3 => ?_) (fun h3 => ?_)
   ·simp only [decide_eq_true_eq] at h3
    refine Ev.bind (Zcj x) (Ev.of ?_)
    congr 1; unfold turning cellOK; by_cases h4 : x.1 = 3 ∨ x.1 = 6 <;> simp [h4] <;> omega
   ·simp only [decide_eq_true_eq] at h3
    refine Ev.of ?_
    congr 1; simp [cellOK]; omega
 ·simp only [decide_eq_true_eq] at h
  refine Ev.of ?_
  congr 1; simp [cellOK]; omega
theorem Zna (x : CellD) : Ev (fun k => Z2P k x) (cellOK x && turning x) := by
 refine Ev.succ ?_
 simp only [Z2P]
 refine Ev.bind (ZjT x) ?_
 refine Ev.ite (fun h => ?_) (fun h => ?_)
 ·rw [h, Bool.true_and]
  refine Ev.of ?_
  by_cases h1 : x.1 = 3 <;> simp [turning, h1]
 ·refine Ev.of ?_
  simp only [Bool.not_eq_true] at h
  rw [h]; rfl

theorem ZhO : ∀ (r pre : List CellD), (pre ++ r).length ≤ 9223372036854775806 → Ev (fun k => Z4w k (pre ++ r) ((pre ++ r).length : Int) (pre.length : Int)) (if r.all cellOK then LR.go () else LR.ret false)
 | [], pre, hl => by
  refine Ev.succ ?_
  simp only [Z4w, ZR, decide_false, Bool.false_eq_true, if_false, List.all_nil, if_true]
  exact Ev.some _
 | x :: r, pre, hl => by
  have ih := ZhO r (pre ++ [x]) (by simpa using hl)
  refine Ev.succ ?_
  simp only [Z4w, Zy, Z16, decide_true, if_true, Int.toNat_natCast, Zk]
  rw [Zz pre x r (by omega)]
  rw [← Z7] at ih
  refine Ev.bind (ZjT x) ?_
  cases hx : cellOK x with
  | true => simp only [hx, List.all_cons, Bool.true_and, Bool.not_true, Bool.false_eq_true, if_false]; exact ih
  | false => simp only [hx, List.all_cons, Bool.false_and, Bool.not_false, if_true, Bool.false_eq_true, if_false]; exact Ev.some _
theorem Zy9 (l : List CellD) (hl : l.length ≤ 9223372036854775806) : Ev (fun k => Zb2 k l) (decide (l.length ≤ 90) && l.all cellOK) := by
 refine Ev.succ ?_
 simp only [Zb2]
 refine Ev.ite (fun h => ?_) (fun h => ?_)
 ·simp only [decide_eq_true_eq] at h
  refine Ev.of ?_
  have : ¬ l.length ≤ 90 := by omega
  simp [this]
 ·simp only [decide_eq_true_eq] at h
  have h2 : l.length ≤ 90 := by omega
  refine Ev.bind (ZhO l [] (by simpa using hl)) ?_
  simp only [h2, decide_true, Bool.true_and]
  cases hx : l.all cellOK with
  | true => simp only [if_true]; exact Ev.go (Ev.some _)
  | false => simp only [Bool.false_eq_true, if_false]; exact Ev.ret (Ev.some _)
theorem ZG {a b : Int} (h1 : 1 ≤ a) (h2 : a ≤ 10) (h3 : 1 ≤ b) (h4 : b ≤ 9) : 1 ≤ a * b ∧ a * b ≤ 90 :=
 ⟨by have := Int.mul_le_mul h1 h3 (by omega) (by omega); omega, by have := Int.mul_le_mul h2 h4 (by omega) (by omega); omega⟩
theorem Zed (b : BoardD) (hl : b.2.2.length ≤ 9223372036854775806) : Ev (fun k => Z6Z k b) (boardOK b) := by
 refine Ev.succ ?_
 simp only [Z6Z, ge_iff_le]
 have no : ∀ {c : Prop}, ¬ c → (boardOK b = true → c) → Option.some false = Option.some (boardOK b) := by
  intro c h1 h2
  cases hb : boardOK b with
  | true => exact absurd (h2 hb) h1
  | false => rfl
 have hb : boardOK b = true → 1 ≤ b.1 ∧ b.1 ≤ 10 ∧ 1 ≤ b.2.1 ∧ b.2.1 ≤ 9 ∧ (b.2.2.length : Int) = b.1 * b.2.1 := fun h => by
  unfold boardOK at h; simp only [Bool.and_eq_true, decide_eq_true_eq] at h; exact h.1
 refine Ev.ite (fun h1 => ?_) (fun h => Ev.of (no h (fun hh => by simpa using (hb hh).1)))
 refine Ev.ite (fun h2 => ?_) (fun h => Ev.of (no h (fun hh => by simpa using (hb hh).2.1)))
 refine Ev.ite (fun h3 => ?_) (fun h => Ev.of (no h (fun hh => by simpa using (hb hh).2.2.1)))
 refine Ev.ite (fun h4 => ?_) (fun h => Ev.of (no h (fun hh => by simpa using (hb hh).2.2.2.1)))
 simp only [decide_eq_true_eq] at h1 h2 h3 h4
 have hp := ZG h1 h2 h3 h4
 rw [w64 (by omega) (by omega)]
 refine Ev.ite (fun h5 => ?_) (fun h => Ev.of (no h (fun hh => by simpa using (hb hh).2.2.2.2)))
 simp only [decide_eq_true_eq] at h5
 refine Ev.bind (Zy9 _ hl) (Ev.of ?_)
 have h6 : b.2.2.length ≤ 90 := by omega
 congr 1
 simp only [boardOK, h1, h2, h3, h4, ← h5, h6, and_self, decide_true, Bool.true_and]
theorem Zoa : ∀ (r pre : List CellD), (pre ++ r).length ≤ 9223372036854775806 → Ev (fun k => Z7J k (pre ++ r) ((pre ++ r).length : Int) (pre.length : Int)) (if r.all cellOK then LR.go () else LR.ret false)
 | [], pre, hl => by
  refine Ev.succ ?_
  simp only [Z7J, ZR, decide_false, Bool.false_eq_true, if_false, List.all_nil, if_true]
  exact Ev.some _
 | x :: r, pre, hl => by
  have ih := Zoa r (pre ++ [x]) (by simpa using hl)
  refine Ev.succ ?_
  simp only [Z7J, Zy, Z16, decide_true, if_true, Int.toNat_natCast, Zk]
  rw [Zz pre x r (by omega)]
  rw [← Z7] at ih
  refine Ev.bind (ZED x) ?_
  cases hx : cellOK x with
  | true => simp only [hx, List.all_cons, Bool.true_and, Bool.not_true, Bool.false_eq_true, if_false]; exact ih
  | false => simp only [hx, List.all_cons, Bool.false_and, Bool.not_false, if_true, Bool.false_eq_true, if_false]; exact Ev.some _
theorem Zjr (b : BoardD) (hl : b.2.2.length ≤ 9223372036854775806) : Ev (fun k => Zaf k b) (boardOK b) := by
 refine Ev.succ ?_
 simp only [Zaf]
 have no : ∀ {c : Prop}, ¬ c → (boardOK b = true → c) → Option.some false = Option.some (boardOK b) := by
  intro c h1 h2
  cases hb : boardOK b with
  | true => exact absurd (h2 hb) h1
  | false => rfl
 have hb : boardOK b = true → 1 ≤ b.1 ∧ b.1 ≤ 10 ∧ 1 ≤ b.2.1 ∧ b.2.1 ≤ 9 ∧ (b.2.2.length : Int) = b.1 * b.2.1 := fun h => by
  unfold boardOK at h; simp only [Bool.and_eq_true, decide_eq_true_eq] at h; exact h.1
 refine Ev.bind (Z34 _ _ _) (Ev.ite (fun h => Ev.of (no (c := 1 ≤ b.1 ∧ b.1 ≤ 10) (nd h) (fun hh => ⟨(hb hh).1, (hb hh).2.1⟩))) (fun h1 => ?_))
 refine Ev.bind (Z34 _ _ _) (Ev.ite (fun h => Ev.of (no (c := 1 ≤ b.2.1 ∧ b.2.1 ≤ 9) (nd h) (fun hh => ⟨(hb hh).2.2.1, (hb hh).2.2.2.1⟩))) (fun h2 => ?_))
 have h1' : 1 ≤ b.1 ∧ b.1 ≤ 10 := yd h1
 have h2' : 1 ≤ b.2.1 ∧ b.2.1 ≤ 9 := yd h2
 have hp := ZG h1'.1 h1'.2 h2'.1 h2'.2
 rw [w64 (by omega) (by omega)]
 refine Ev.ite (fun h => Ev.of (no (c := (b.2.2.length : Int) = b.1 * b.2.1) (by simpa using h) (fun hh => (hb hh).2.2.2.2))) (fun h3 => ?_)
 have h3' : (b.2.2.length : Int) = b.1 * b.2.1 := by simpa using h3
 refine Ev.bind (Zoa b.2.2 [] (by simpa using hl)) ?_
 have hx2 : boardOK b = b.2.2.all cellOK := by unfold boardOK; simp only [h1'.1, h1'.2, h2'.1, h2'.2, h3', and_self, decide_true, Bool.true_and]
 rw [hx2]
 cases hx : b.2.2.all cellOK with
 | true => simp only [if_true]; exact Ev.go (Ev.some _)
 | false => simp only [Bool.false_eq_true, if_false]; exact Ev.ret (Ev.some _)
theorem Zt {b : BoardD} (h : boardOK b = true) : 1 ≤ b.1 ∧ b.1 ≤ 10 ∧ 1 ≤ b.2.1 ∧ b.2.1 ≤ 9 ∧ (b.2.2.length : Int) = b.1 * b.2.1 ∧ ∀ x ∈ b.2.2, cellOK x = true := by
 unfold boardOK at h
 simp only [Bool.and_eq_true, decide_eq_true_eq] at h
 exact ⟨h.1.1, h.1.2.1, h.1.2.2.1, h.1.2.2.2.1, h.1.2.2.2.2, List.all_eq_true.1 h.2⟩
theorem ZD4 (b : BoardD) (r c : Int) (hl : b.2.2.length ≤ 9223372036854775806) : Ev (fun k => Ze8 k b r c) (boardOK b && decide (0 ≤ r ∧ r < b.1 ∧ 0 ≤ c ∧ c < b.2.1)) := by
 refine Ev.succ ?_
 simp only [Ze8, ge_iff_le]
 refine Ev.bind (Zed b hl) (Ev.ite (fun h => ?_) (fun h => ?_))
 ·rw [h, Bool.true_and]
  refine Ev.of ?_
  simp only [decide_eq_true_eq]
  repeat' split
  all_goals (congr 1; first | (symm; rw [decide_eq_true_eq]; omega) | (symm; rw [decide_eq_false_iff_not]; omega) | (apply decide_eq_decide.2; omega))
 ·refine Ev.of ?_
  simp only [Bool.not_eq_true] at h
  rw [h]; rfl
theorem Z48 {b : BoardD} (h : boardOK b = true) {r c : Int} (h1 : 0 ≤ r) (h2 : r < b.1) (h3 : 0 ≤ c) (h4 : c < b.2.1) : 0 ≤ r * b.2.1 + c ∧ r * b.2.1 + c < (b.2.2.length : Int) ∧ r * b.2.1 + c ≤ 90 ∧ 0 ≤ r * b.2.1 ∧ r * b.2.1 ≤ 90 := by
 obtain ⟨g1, g2, g3, g4, g5, _⟩ := Zt h
 have hp := ZG g1 g2 g3 g4
 have k1 : 0 ≤ r * b.2.1 := Int.mul_nonneg h1 (by omega)
 have k2 : (r + 1) * b.2.1 ≤ b.1 * b.2.1 := Int.mul_le_mul_of_nonneg_right (by omega) (by omega)
 rw [Int.add_mul, Int.one_mul] at k2
 omega
theorem Zlg {l : List CellD} {i : Int} (h0 : 0 ≤ i) (h1 : i < (l.length : Int)) (d : CellD) : List.getD l i.toNat d ∈ l := by
 have : i.toNat < l.length := by omega
 simp [List.getD, List.getElem?_eq_getElem this]

end Go.Proofs.YtglkedenkcpcbaaGreatDoor.Vs

set_option linter.unusedVariables false
set_option linter.unusedSimpArgs false
namespace Go.Proofs.YtglkedenkcpcbaaGreatDoor.Vs
open Go.RowKit
theorem Zwt : ∀ (d : Nat) (v : Int) (acc : List (Int × Int)), v + d = 8 → 0 ≤ v → (acc.length : Int) ≤ 2 * v → (0 < v → 0 < acc.length) → ∃ l, Ev (fun k => Z5i k acc v) l ∧ 0 < l.length ∧ l.length ≤ 16
 | 0, v, acc, hv, h0, h1, h2 => by
  have hn : ¬ v ≤ 7 := by omega
  refine ⟨acc, Ev.succ ?_, h2 (by omega), by omega⟩
  simp only [Z5i, hn, decide_false, Bool.false_eq_true, if_false]
  exact Ev.some _
 | d + 1, v, acc, hv, h0, h1, h2 => by
  have hle : v ≤ 7 := by omega
  have hw : wrap64 (v + 1) = v + 1 := w64 (by omega) (by omega)
  have hal : acc.length + 1 ≤ 140737488355328 / 16 := by omega
  have hal2 : (acc ++ [(v, (0 : Int))]).length + 1 ≤ 140737488355328 / 16 := by simp; omega
  have ht := Zcj (v, 1)
  cases hb : turning (v, 1) with
  | true =>
   rw [hb] at ht
   obtain ⟨l, e1, g1, g2⟩ := Zwt d (v + 1) (acc ++ [(v, 0)] ++ [(v, 1)]) (by omega) (by omega) (by simp; omega) (by simp)
   refine ⟨l, Ev.succ ?_, g1, g2⟩
   simp only [Z5i, hle, decide_true, if_true, List.length_singleton, hal, hw]
   refine Ev.bind ht ?_
   simp only [if_true, hal2]
   exact e1
  | false =>
   rw [hb] at ht
   obtain ⟨l, e1, g1, g2⟩ := Zwt d (v + 1) (acc ++ [(v, 0)]) (by omega) (by omega) (by simp; omega) (by simp)
   refine ⟨l, Ev.succ ?_, g1, g2⟩
   simp only [Z5i, hle, decide_true, if_true, List.length_singleton, hal, hw]
   refine Ev.bind ht ?_
   simp only [Bool.false_eq_true, if_false]
   exact e1
theorem ZG4 {code : List Int} {at' : Int} (seed : Int) (h : Cur code at' 2) : ∃ x at2 s, Ev (fun k => Z17 k (code, at', seed)) (x, at2, s) ∧ at' ≤ at2 ∧ at2 ≤ at' + 2 := by
 obtain ⟨l, e0, g1, g2⟩ := Zwt 8 0 [] (by omega) (by omega) (by simp) (by omega)
 obtain ⟨v, at2, s, e1, b1, b2, b3, b4⟩ := Za8 seed (l.length : Int) h (by omega)
 refine ⟨(List.getD l v.toNat (0, 0)), at2, s, Ev.succ ?_, b1, b2⟩
 have hp : Ev (fun k => Zh0 k) l := by
  refine Ev.succ ?_
  simp only [Zh0]
  exact Ev.bind e0 (Ev.some _)
 simp only [Z17]
 refine Ev.bind hp (Ev.bind e1 ?_)
 simp only [b3, b4, if_true]
 exact Ev.some _
theorem ZHz {code : List Int} {at' : Int} (seed : Int) (h : Cur code at' 6) : ∃ x at2 s, Ev (fun k => Z1l k (code, at', seed)) (x, at2, s) ∧ at' ≤ at2 ∧ at2 ≤ at' + 6 := by
 obtain ⟨x, a0, s0, e0, b1, b2⟩ := ZG4 seed (h.to (at2 := at') (m := 2) (by omega) (by omega))
 obtain ⟨v, a1, s1, e1, b3, b4, _⟩ := Za8 s0 20 (h.to (at2 := a0) (m := 2) (by omega) (by omega)) (by omega)
 by_cases h0 : v = 0
 ·obtain ⟨y, a2, s2, e2, b5, b6, _⟩ := Zd2 s1 [-1, 8] (by simp) (h.to (at2 := a1) (m := 2) (by omega) (by omega))
  refine ⟨(y, x.2), a2, s2, Ev.succ ?_, by omega, by omega⟩
  simp only [Z1l]
  refine Ev.bind e0 (Ev.bind e1 ?_)
  simp only [h0, decide_true, if_true]
  exact Ev.bind e2 (Ev.some _)
 ·by_cases h1 : v = 1
  ·obtain ⟨y, a2, s2, e2, b5, b6, _⟩ := Zd2 s1 [-1, 1, 2] (by simp) (h.to (at2 := a1) (m := 2) (by omega) (by omega))
   refine ⟨(x.1, y), a2, s2, Ev.succ ?_, by omega, by omega⟩
   simp only [Z1l]
   refine Ev.bind e0 (Ev.bind e1 ?_)
   subst h1
   simp only [h0, decide_true, decide_false, Bool.false_eq_true, if_false, if_true]
   exact Ev.bind e2 (Ev.some _)
  ·refine ⟨(x.1, x.2), a1, s1, Ev.succ ?_, by omega, by omega⟩
   simp only [Z1l]
   refine Ev.bind e0 (Ev.bind e1 ?_)
   simp only [h0, h1, decide_false, Bool.false_eq_true, if_false]
   exact Ev.some _
theorem ZyB (code : List Int) (n : Nat) (hn : n ≤ 1000) (v1 v2 v8 b30 b31 b50 b51 : Int) (o4 : List (Int × Int)) (hw : wrap64 (v1 * v2) = (n : Int)) : ∀ (d : Nat) (acc : List (Int × Int)) (at' seed : Int), acc.length + d = n → Cur code at' (10 * d) → ∃ at2 s l, Ev (fun k => Z8 k at' seed code b30 b31 o4 b50 b51 acc v1 v2 v8) (at2, s, code, b30, b31, o4, b50, b51, l) ∧ l.length = n ∧ at' ≤ at2 ∧ at2 ≤ at' + 10 * d
 | 0, acc, at', seed, h, hc => by
  have hlt : ¬ (acc.length : Int) < (n : Int) := by omega
  refine ⟨at', seed, acc, Ev.succ ?_, by omega, by omega, by omega⟩
  simp only [Z8, hw, hlt, decide_false, Bool.false_eq_true, if_false]
  exact Ev.some _
 | d + 1, acc, at', seed, h, hc => by
  have hlt : (acc.length : Int) < (n : Int) := by omega
  have hal : acc.length + 1 ≤ 140737488355328 / 16 := by omega
  have step : ∀ (x : Int × Int) (a1 s1 : Int), at' ≤ a1 → a1 ≤ at' + 10 → ∃ at2 s l, Ev (fun k => Z8 k a1 s1 code b30 b31 o4 b50 b51 (acc ++ [x]) v1 v2 v8) (at2, s, code, b30, b31, o4, b50, b51, l) ∧ l.length = n ∧ at' ≤ at2 ∧ at2 ≤ at' + 10 * ((d + 1 : Nat) : Int) := by
   intro x a1 s1 g1 g2
   obtain ⟨a2, s2, l, e, c1, c2, c3⟩ := ZyB code n hn v1 v2 v8 b30 b31 b50 b51 o4 hw d (acc ++ [x]) a1 s1 (by simp; omega) (hc.to (at2 := a1) (by omega) (by omega))
   exact ⟨a2, s2, l, e, c1, by omega, by omega⟩
  have part : ∀ (a1 s1 : Int), at' ≤ a1 → a1 ≤ at' + 4 → ∃ at2 s l, Ev (fun k => Option.bind (Z17 k (code, a1, s1)) fun z2 => if decide (z2.1.1 = 5) = true then Option.bind (Zr k (code, z2.2.1, z2.2.2) 3) fun z3 => if (!z3.1) = true then Option.bind (Z0 k (code, z3.2.1, z3.2.2) 2) fun z4 => Z8 k z4.2.1 z4.2.2 code b30 b31 o4 b50 b51 (acc ++ [(3, z4.1)]) v1 v2 v8 else Z8 k z3.2.1 z3.2.2 code b30 b31 o4 b50 b51 (acc ++ [(z2.1.1, z2.1.2)]) v1 v2 v8 else Z8 k z2.2.1 z2.2.2 code b30 b31 o4 b50 b51 (acc ++ [(z2.1.1, z2.1.2)]) v1 v2 v8) (at2, s, code, b30, b31, o4, b50, b51, l) ∧ l.length = n ∧ at' ≤ at2 ∧ at2 ≤ at' + 10 * ((d + 1 : Nat) : Int) := by
   intro a1 s1 g1 g2
   obtain ⟨x, a2, s2, e2, b1, b2⟩ := ZG4 s1 (hc.to (at2 := a1) (m := 2) (by omega) (by omega))
   by_cases hx : x.1 = 5
   ·obtain ⟨q, a3, s3, e3, b3, b4⟩ := Zl8 s2 3 (hc.to (at2 := a2) (m := 2) (by omega) (by omega))
    cases q with
    | true =>
     obtain ⟨a5, s5, l, e5, c1, c2, c3⟩ := step (x.1, x.2) a3 s3 (by omega) (by omega)
     refine ⟨a5, s5, l, Ev.bind e2 ?_, c1, c2, c3⟩
     simp only [hx, decide_true, if_true]
     refine Ev.bind e3 ?_
     simp only [Bool.not_true, Bool.false_eq_true, if_false]
     rw [hx] at e5
     exact e5
    | false =>
     obtain ⟨v, a4, s4, e4, b5, b6, _⟩ := Za8 s3 2 (hc.to (at2 := a3) (m := 2) (by omega) (by omega)) (by omega)
     obtain ⟨a5, s5, l, e5, c1, c2, c3⟩ := step (3, v) a4 s4 (by omega) (by omega)
     refine ⟨a5, s5, l, Ev.bind e2 ?_, c1, c2, c3⟩
     simp only [hx, decide_true, if_true]
     refine Ev.bind e3 ?_
     simp only [Bool.not_false, if_true]
     exact Ev.bind e4 e5
   ·obtain ⟨a5, s5, l, e5, c1, c2, c3⟩ := step (x.1, x.2) a2 s2 (by omega) (by omega)
    refine ⟨a5, s5, l, Ev.bind e2 ?_, c1, c2, c3⟩
    simp only [hx, decide_false, Bool.false_eq_true, if_false]
    exact e5
  obtain ⟨q, a1, s1, e1, b1, b2⟩ := Zl8 seed v8 (hc.to (at2 := at') (m := 2) (by omega) (by omega))
  cases q with
  | true =>
   obtain ⟨a5, s5, l, e5, c1, c2, c3⟩ := part a1 s1 b1 (by omega)
   refine ⟨a5, s5, l, Ev.succ ?_, c1, c2, c3⟩
   simp only [Z8, hw, hlt, decide_true, if_true]
   refine Ev.bind e1 ?_
   simp only [if_true, List.length_singleton, hal]
   exact e5
  | false =>
   obtain ⟨q2, a2, s2, e2, b3, b4⟩ := Zl8 s1 3 (hc.to (at2 := a1) (m := 2) (by omega) (by omega))
   cases q2 with
   | true =>
    obtain ⟨a5, s5, l, e5, c1, c2, c3⟩ := part a2 s2 (by omega) (by omega)
    refine ⟨a5, s5, l, Ev.succ ?_, c1, c2, c3⟩
    simp only [Z8, hw, hlt, decide_true, if_true]
    refine Ev.bind e1 ?_
    simp only [Bool.false_eq_true, if_false]
    refine Ev.bind e2 ?_
    simp only [if_true, List.length_singleton, hal]
    exact e5
   | false =>
    obtain ⟨a5, s5, l, e5, c1, c2, c3⟩ := step (0, 0) a2 s2 (by omega) (by omega)
    refine ⟨a5, s5, l, Ev.succ ?_, c1, c2, c3⟩
    simp only [Z8, hw, hlt, decide_true, if_true]
    refine Ev.bind e1 ?_
    simp only [Bool.false_eq_true, if_false]
    refine Ev.bind e2 ?_
    simp only [Bool.false_eq_true, if_false, List.length_singleton, hal, if_true]
    exact e5
theorem ZDN {code : List Int} {at' : Int} (seed r c : Int) (n : Nat) (hw : wrap64 (r * c) = (n : Int)) (hn : n ≤ 100) (h : Cur code at' 1010) : ∃ l at2 s, Ev (fun k => Z5T k (code, at', seed) r c) ((r, c, l), at2, s) ∧ at' ≤ at2 ∧ at2 ≤ at' + 1010 ∧ l.length = n := by
 obtain ⟨v, a0, s0, e0, b1, b2, _⟩ := Zd2 seed [1, 2, 2] (by simp) (h.to (at2 := at') (m := 2) (by omega) (by omega))
 obtain ⟨a1, s1, l, e1, c1, c2, c3⟩ := ZyB code n (by omega) r c v 0 0 r c [] hw n [] a0 s0 (by simp) (h.to (at2 := a0) (by omega) (by omega))
 refine ⟨l, a1, s1, Ev.succ ?_, by omega, by omega, c1⟩
 simp only [Z5T]
 exact Ev.bind e0 (Ev.bind e1 (Ev.some _))
theorem ZD1 {r c : Int} (r1 : 1 ≤ r) (r2 : r ≤ 10) (c1 : 1 ≤ c) (c2 : c ≤ 9) : 1 ≤ r * c ∧ r * c ≤ 90 := by
 have h1 : r * c ≤ 10 * 9 := Int.mul_le_mul r2 c2 (by omega) (by omega)
 have h2 : 1 * 1 ≤ r * c := Int.mul_le_mul r1 c1 (by omega) (by omega)
 omega
theorem ZIk {code : List Int} {at' : Int} (seed : Int) (h : Cur code at' 1020) : ∃ r c l at2 s, Ev (fun k => Z7z k (code, at', seed)) ((r, c, l), at2, s) ∧ at' ≤ at2 ∧ at2 ≤ at' + 1020 ∧ 1 ≤ r ∧ r ≤ 10 ∧ 1 ≤ c ∧ c ≤ 9 ∧ (l.length : Int) = r * c := by
 obtain ⟨q, a0, s0, e0, b1, b2⟩ := Zl8 seed 20 (h.to (at2 := at') (m := 2) (by omega) (by omega))
 cases q with
 | true =>
  obtain ⟨r, a1, s1, e1, b3, b4, b5⟩ := Zd2 s0 [1, 10] (by simp) (h.to (at2 := a0) (m := 2) (by omega) (by omega))
  obtain ⟨c, a2, s2, e2, b6, b7, b8⟩ := Zd2 s1 [1, 9] (by simp) (h.to (at2 := a1) (m := 2) (by omega) (by omega))
  simp only [List.mem_cons, List.not_mem_nil, or_false] at b5 b8
  have hp := ZD1 (r := r) (c := c) (by omega) (by omega) (by omega) (by omega)
  obtain ⟨l, a3, s3, e3, c1, c2, c3⟩ := ZDN s2 r c (r * c).toNat (by rw [w64 (by omega) (by omega)]; omega) (by omega) (h.to (at2 := a2) (by omega) (by omega))
  refine ⟨r, c, l, a3, s3, Ev.succ ?_, by omega, by omega, by omega, by omega, by omega, by omega, by omega⟩
  simp only [Z7z]
  refine Ev.bind e0 ?_
  simp only [if_true]
  exact Ev.bind e1 (Ev.bind e2 (Ev.bind e3 (Ev.some _)))
 | false =>
  obtain ⟨r, a1, s1, e1, b3, b4, b5, b6⟩ := Za8 s0 5 (h.to (at2 := a0) (m := 2) (by omega) (by omega)) (by omega)
  obtain ⟨c, a2, s2, e2, b7, b8, b9, b10⟩ := Za8 s1 5 (h.to (at2 := a1) (m := 2) (by omega) (by omega)) (by omega)
  have w1 : wrap64 (1 + r) = 1 + r := w64 (by omega) (by omega)
  have w2 : wrap64 (1 + c) = 1 + c := w64 (by omega) (by omega)
  have hp := ZD1 (r := 1 + r) (c := 1 + c) (by omega) (by omega) (by omega) (by omega)
  obtain ⟨l, a3, s3, e3, c1, c2, c3⟩ := ZDN s2 (1 + r) (1 + c) ((1 + r) * (1 + c)).toNat (by rw [w64 (by omega) (by omega)]; omega) (by omega) (h.to (at2 := a2) (by omega) (by omega))
  refine ⟨1 + r, 1 + c, l, a3, s3, Ev.succ ?_, by omega, by omega, by omega, by omega, by omega, by omega, by omega⟩
  simp only [Z7z]
  refine Ev.bind e0 ?_
  simp only [Bool.false_eq_true, if_false]
  refine Ev.bind e1 (Ev.bind e2 ?_)
  simp only [w1, w2]
  exact Ev.bind e3 (Ev.some _)
theorem ZCj {code : List Int} {at' : Int} (seed : Int) (h : Cur code at' 1040) : ∃ b at2 s, Ev (fun k => Zm k (code, at', seed)) (b, at2, s) ∧ at' ≤ at2 ∧ at2 ≤ at' + 1040 ∧ b.2.2.length ≤ 91 := by
 obtain ⟨r, c, l, a0, s0, e0, b1, b2, r1, r2, c1, c2, hl⟩ := ZIk seed (h.to (at2 := at') (by omega) (by omega))
 obtain ⟨v, a1, s1, e1, b3, b4, _⟩ := Za8 s0 36 (h.to (at2 := a0) (m := 2) (by omega) (by omega)) (by omega)
 have hp := ZD1 r1 r2 c1 c2
 by_cases v0 : v = 0
 ·subst v0
  obtain ⟨x, a2, s2, e2, b5, b6, _⟩ := Zd2 s1 [0, wrap64 (r + 1), 10, 11] (by simp) (h.to (at2 := a1) (m := 2) (by omega) (by omega))
  refine ⟨(x, c, l), a2, s2, Ev.succ ?_, by omega, by omega, by dsimp only; omega⟩
  simp only [Zm]
  refine Ev.bind e0 (Ev.bind e1 ?_)
  simp only [decide_true, if_true]
  exact Ev.bind e2 (Ev.some _)
 by_cases v1 : v = 1
 ·subst v1
  obtain ⟨x, a2, s2, e2, b5, b6, _⟩ := Zd2 s1 [0, wrap64 (c + 1), 9, 10] (by simp) (h.to (at2 := a1) (m := 2) (by omega) (by omega))
  refine ⟨(r, x, l), a2, s2, Ev.succ ?_, by omega, by omega, by dsimp only; omega⟩
  simp only [Zm]
  refine Ev.bind e0 (Ev.bind e1 ?_)
  simp only [v0, decide_true, decide_false, Bool.false_eq_true, if_false, if_true]
  exact Ev.bind e2 (Ev.some _)
 by_cases v2 : v = 2
 ·subst v2
  obtain ⟨i, a2, s2, e2, b5, b6, b7, b8⟩ := Za8 s1 (l.length : Int) (h.to (at2 := a1) (m := 2) (by omega) (by omega)) (by omega)
  obtain ⟨x, a3, s3, e3, b9, b10⟩ := ZHz s2 (h.to (at2 := a2) (by omega) (by omega))
  have hg : Ev (fun k => Z1s k a1 s1 code 0 0 [] r c l) (a3, s3, code, 0, 0, [], r, c, List.set l i.toNat (x.1, x.2)) := by
   simp only [Z1s]
   refine Ev.bind e2 (Ev.bind e3 ?_)
   simp only [b7, b8, if_true]
   exact Ev.some _
  refine ⟨(r, c, List.set l i.toNat (x.1, x.2)), a3, s3, Ev.succ ?_, by omega, by omega, by dsimp only; rw [List.length_set]; omega⟩
  simp only [Zm]
  refine Ev.bind e0 (Ev.bind e1 ?_)
  simp only [v0, v1, decide_true, decide_false, Bool.false_eq_true, if_false, if_true]
  exact Ev.bind hg (Ev.some _)
 by_cases v3 : v = 3
 ·subst v3
  have h1 : 1 ≤ (l.length : Int) := by omega
  refine ⟨(r, c, List.drop (Int.toNat 1) l), a1, s1, Ev.succ ?_, by omega, by omega, by dsimp only; rw [List.length_drop]; omega⟩
  simp only [Zm]
  refine Ev.bind e0 (Ev.bind e1 ?_)
  simp only [v0, v1, v2, decide_true, decide_false, Bool.false_eq_true, if_false, if_true, h1, Int.le_refl]
  exact Ev.some _
 by_cases v4 : v = 4
 ·subst v4
  refine ⟨(11, 2, List.replicate (Int.toNat 22) (0, 0)), a1, s1, Ev.succ ?_, by omega, by omega, by dsimp only; rw [List.length_replicate]; decide⟩
  simp only [Zm]
  refine Ev.bind e0 (Ev.bind e1 ?_)
  simp only [v0, v1, v2, v3, decide_true, decide_false, Bool.false_eq_true, if_false, if_true]
  exact Ev.some _
 by_cases v5 : v = 5
 ·subst v5
  refine ⟨(2, 10, List.replicate (Int.toNat 20) (0, 0)), a1, s1, Ev.succ ?_, by omega, by omega, by dsimp only; rw [List.length_replicate]; decide⟩
  simp only [Zm]
  refine Ev.bind e0 (Ev.bind e1 ?_)
  simp only [v0, v1, v2, v3, v4, decide_true, decide_false, Bool.false_eq_true, if_false, if_true]
  exact Ev.some _
 refine ⟨(r, c, l), a1, s1, Ev.succ ?_, by omega, by omega, by dsimp only; omega⟩
 simp only [Zm]
 refine Ev.bind e0 (Ev.bind e1 ?_)
 simp only [v0, v1, v2, v3, v4, v5, decide_false, Bool.false_eq_true, if_false]
 exact Ev.some _
end Go.Proofs.YtglkedenkcpcbaaGreatDoor.Vs

set_option linter.unusedVariables false
set_option linter.unusedSimpArgs false
namespace Go.Proofs.YtglkedenkcpcbaaGreatDoor.Vs
open Go.RowKit
theorem ZHv (a b : Int) : ∃ m, Ev (fun k => Za9 k a b) m ∧ a ≤ m ∧ (m = a ∨ m = b) := by
 by_cases h : a > b
 ·refine ⟨a, Ev.succ ?_, by omega, .inl rfl⟩
  simp only [Za9, h, decide_true, if_true]
  exact Ev.some _
 ·refine ⟨b, Ev.succ ?_, by omega, .inr rfl⟩
  simp only [Za9, h, decide_false, Bool.false_eq_true, if_false]
  exact Ev.some _
theorem ZpZ (code : List Int) (n : Nat) (hn : n ≤ 1000) (b30 b31 : Int) (b32 : List (Int × Int)) (few : Bool) (first : Int) : ∀ (d : Nat) (acc : List Int) (at' seed : Int), acc.length + d = n → Cur code at' (2 * d) → ∃ at2 s l, Ev (fun k => Z1q k at' seed code b30 b31 b32 acc (n : Int) few first) (at2, s, code, b30, b31, b32, l, (n : Int)) ∧ l.length = n ∧ at' ≤ at2 ∧ at2 ≤ at' + 2 * d
 | 0, acc, at', seed, h, hc => by
  have hlt : ¬ (acc.length : Int) < (n : Int) := by omega
  refine ⟨at', seed, acc, Ev.succ ?_, by omega, by omega, by omega⟩
  simp only [Z1q, hlt, decide_false, Bool.false_eq_true, if_false]
  exact Ev.some _
 | d + 1, acc, at', seed, h, hc => by
  have hlt : (acc.length : Int) < (n : Int) := by omega
  have hal : acc.length + 1 ≤ 140737488355328 / 8 := by omega
  cases few with
  | true =>
   obtain ⟨a3, s3, l, e3, b5, b6, b7⟩ := ZpZ code n hn b30 b31 b32 true first d (acc ++ [first]) at' seed (by simp; omega) (hc.to (at2 := at') (by omega) (by omega))
   refine ⟨a3, s3, l, Ev.succ ?_, b5, by omega, by omega⟩
   simp only [Z1q, hlt, decide_true, if_true, List.length_singleton, hal]
   exact e3
  | false =>
   obtain ⟨m, e0, _⟩ := ZHv 1 b31
   obtain ⟨v, a1, s1, e1, b1, b2, _⟩ := Zrl seed m (hc.to (at2 := at') (m := 2) (by omega) (by omega))
   obtain ⟨a3, s3, l, e3, b5, b6, b7⟩ := ZpZ code n hn b30 b31 b32 false first d (acc ++ [v]) a1 s1 (by simp; omega) (hc.to (at2 := a1) (by omega) (by omega))
   refine ⟨a3, s3, l, Ev.succ ?_, b5, by omega, by omega⟩
   simp only [Z1q, hlt, decide_true, if_true, Bool.false_eq_true, if_false]
   refine Ev.bind e0 (Ev.bind e1 ?_)
   simp only [List.length_singleton, hal, if_true]
   exact e3
theorem ZHR {code : List Int} {at' : Int} (seed : Int) (b : Int × Int × List (Int × Int)) (h : Cur code at' 140) : ∃ l at2 s, Ev (fun k => ZF k (code, at', seed) b) (l, at2, s) ∧ at' ≤ at2 ∧ at2 ≤ at' + 140 ∧ l.length ≤ 61 := by
 obtain ⟨v0, a0, s0, e0, b1, b2, b3, b4⟩ := Za8 seed 9 (h.to (at2 := at') (m := 2) (by omega) (by omega)) (by omega)
 obtain ⟨q, a1, s1, e1, b5, b6⟩ := Zl8 s0 20 (h.to (at2 := a0) (m := 2) (by omega) (by omega))
 have hj : ∃ (a2 s2 : Int) (n : Nat), Ev (fun k => Z5R k a1 s1 code b.1 b.2.1 b.2.2 [] v0 q) (a2, s2, code, b.1, b.2.1, b.2.2, [], (n : Int)) ∧ a1 ≤ a2 ∧ a2 ≤ a1 + 2 ∧ n ≤ 61 := by
  simp only [Z5R]
  cases q with
  | true =>
   obtain ⟨x, a2, s2, e2, b7, b8, b9, b10⟩ := Za8 s1 2 (h.to (at2 := a1) (m := 2) (by omega) (by omega)) (by omega)
   refine ⟨a2, s2, (60 + x).toNat, ?_, b7, b8, by omega⟩
   simp only [if_true]
   refine Ev.bind e2 ?_
   rw [show (((60 + x).toNat : Nat) : Int) = wrap64 (60 + x) by rw [w64 (by omega) (by omega)]; omega]
   exact Ev.some _
  | false =>
   refine ⟨a1, s1, v0.toNat, ?_, by omega, by omega, by omega⟩
   simp only [Bool.false_eq_true, if_false]
   rw [show ((v0.toNat : Nat) : Int) = v0 by omega]
   exact Ev.some _
 obtain ⟨a2, s2, n, e2, b7, b8, b9⟩ := hj
 obtain ⟨few, a3, s3, e3, c1, c2⟩ := Zl8 s2 3 (h.to (at2 := a2) (m := 2) (by omega) (by omega))
 obtain ⟨m, e4, _⟩ := ZHv 1 b.2.1
 obtain ⟨first, a4, s4, e5, c3, c4, _⟩ := Zrl s3 m (h.to (at2 := a3) (m := 2) (by omega) (by omega))
 obtain ⟨a5, s5, l, e6, d1, d2, d3⟩ := ZpZ code n (by omega) b.1 b.2.1 b.2.2 few first n [] a4 s4 (by simp) (h.to (at2 := a4) (by omega) (by omega))
 by_cases hn : (n : Int) > 0
 ·obtain ⟨q2, a6, s6, e7, d4, d5⟩ := Zl8 s5 24 (h.to (at2 := a5) (m := 2) (by omega) (by omega))
  cases q2 with
  | false =>
   refine ⟨l, a6, s6, Ev.succ ?_, by omega, by omega, by omega⟩
   simp only [ZF]
   refine Ev.bind e0 (Ev.bind e1 (Ev.bind e2 (Ev.bind e3 (Ev.bind e4 (Ev.bind e5 (Ev.bind e6 ?_))))))
   simp only [hn, decide_true, if_true]
   refine Ev.bind e7 ?_
   simp only [Bool.false_eq_true, if_false]
   exact Ev.some _
  | true =>
   obtain ⟨v, a7, s7, e8, d6, d7, d8, d9⟩ := Za8 s6 (n : Int) (h.to (at2 := a6) (m := 2) (by omega) (by omega)) hn
   obtain ⟨x, a8, s8, e9, f1, f2, _⟩ := Zd2 s7 [-1, b.2.1] (by simp) (h.to (at2 := a7) (m := 2) (by omega) (by omega))
   have hvl : v < (l.length : Int) := by omega
   have hg : Ev (fun k => Z1t k a6 s6 code b.1 b.2.1 b.2.2 l (n : Int)) (a8, s8, code, List.set l v.toNat x) := by
    simp only [Z1t]
    refine Ev.bind e8 (Ev.bind e9 ?_)
    simp only [d8, hvl, if_true]
    exact Ev.some _
   refine ⟨List.set l v.toNat x, a8, s8, Ev.succ ?_, by omega, by omega, by rw [List.length_set]; omega⟩
   simp only [ZF]
   refine Ev.bind e0 (Ev.bind e1 (Ev.bind e2 (Ev.bind e3 (Ev.bind e4 (Ev.bind e5 (Ev.bind e6 ?_))))))
   simp only [hn, decide_true, if_true]
   refine Ev.bind e7 ?_
   simp only [if_true]
   exact Ev.bind hg (Ev.some _)
 ·refine ⟨l, a5, s5, Ev.succ ?_, by omega, by omega, by omega⟩
  simp only [ZF]
  refine Ev.bind e0 (Ev.bind e1 (Ev.bind e2 (Ev.bind e3 (Ev.bind e4 (Ev.bind e5 (Ev.bind e6 ?_))))))
  simp only [hn, decide_false, Bool.false_eq_true, if_false]
  exact Ev.some _
end Go.Proofs.YtglkedenkcpcbaaGreatDoor.Vs

set_option linter.unusedVariables false
set_option linter.unusedSimpArgs false
namespace Go.Proofs.YtglkedenkcpcbaaGreatDoor.Vs
open Go.RowKit
theorem ZkW (code : List Int) (n : Nat) (hn : n ≤ 1000) (b30 b31 b50 b51 : Int) (o4 : List (Int × Int)) : ∀ (d i : Nat) (acc : List (Int × Int)) (at' seed : Int), i + d = n → acc.length = n → Cur code at' (6 * d) → ∃ at2 s l, Ev (fun k => ZT k at' seed code b30 b31 o4 b50 b51 acc (n : Int) (i : Int)) (at2, s, code, b30, b31, o4, b50, b51, l) ∧ l.length = n ∧ at' ≤ at2 ∧ at2 ≤ at' + 6 * d
 | 0, i, acc, at', seed, h, ha, hc => by
  have hlt : ¬ (i : Int) < (n : Int) := by omega
  refine ⟨at', seed, acc, Ev.succ ?_, ha, by omega, by omega⟩
  simp only [ZT, hlt, decide_false, Bool.false_eq_true, if_false]
  exact Ev.some _
 | d + 1, i, acc, at', seed, h, ha, hc => by
  have hlt : (i : Int) < (n : Int) := by omega
  have h5 : wrap64 ((i : Int) + 1) = ((i + 1 : Nat) : Int) := by rw [w64 (by omega) (by omega)]; omega
  obtain ⟨q, a1, s1, e1, b1, b2⟩ := Zl8 seed 2 (hc.to (at2 := at') (m := 2) (by omega) (by omega))
  cases q with
  | false =>
   obtain ⟨a3, s3, l, e3, c1, c2, c3⟩ := ZkW code n hn b30 b31 b50 b51 o4 d (i + 1) acc a1 s1 (by omega) ha (hc.to (at2 := a1) (by omega) (by omega))
   refine ⟨a3, s3, l, Ev.succ ?_, c1, by omega, by omega⟩
   simp only [ZT, hlt, decide_true, if_true]
   refine Ev.bind e1 ?_
   simp only [Bool.false_eq_true, if_false, h5]
   exact e3
  | true =>
   obtain ⟨x, a2, s2, e2, b3, b4, _⟩ := Zd2 s1 [6, 6, 7, 0] (by simp) (hc.to (at2 := a1) (m := 2) (by omega) (by omega))
   have hia : (i : Int) < (acc.length : Int) := by omega
   have hset : (i : Int) < ((List.set acc i (x, 0)).length : Int) := by rw [List.length_set]; omega
   have hg : Ev (fun k => Z23 k a1 s1 code b30 b31 o4 b50 b51 acc (i : Int) (n : Int) (i : Int)) (a2, s2, code, b30, b31, o4, b50, b51, List.set acc i (x, 0), (i : Int), (n : Int), (i : Int)) := by
    simp only [Z23]
    refine Ev.bind e2 ?_
    simp only [Int.natCast_nonneg, hia, if_true, Int.toNat_natCast]
    exact Ev.some _
   have hget : List.getD (List.set acc i (x, (0 : Int))) i (0, 0) = (x, 0) := by
    simp [List.getD, List.getElem?_set, show i < acc.length by omega]
   by_cases hx : x = 6
   ·subst hx
    obtain ⟨v, a3, s3, e3, b5, b6, _⟩ := Za8 s2 2 (hc.to (at2 := a2) (m := 2) (by omega) (by omega)) (by omega)
    have hg8 : Ev (fun k => Z27 k a2 s2 code b30 b31 o4 b50 b51 (List.set acc i (6, 0)) (i : Int) (n : Int) (i : Int)) (a3, s3, code, b30, b31, o4, b50, b51, List.set (List.set acc i (6, 0)) i (6, v), (n : Int), (i : Int)) := by
     simp only [Z27]
     refine Ev.bind e3 ?_
     simp only [Int.natCast_nonneg, hset, if_true, Int.toNat_natCast, hget]
     exact Ev.some _
    obtain ⟨a4, s4, l, e4, c1, c2, c3⟩ := ZkW code n hn b30 b31 b50 b51 o4 d (i + 1) (List.set (List.set acc i (6, 0)) i (6, v)) a3 s3 (by omega) (by rw [List.length_set, List.length_set]; exact ha) (hc.to (at2 := a3) (by omega) (by omega))
    refine ⟨a4, s4, l, Ev.succ ?_, c1, by omega, by omega⟩
    simp only [ZT, hlt, decide_true, if_true]
    refine Ev.bind e1 ?_
    simp only [if_true]
    refine Ev.bind hg ?_
    simp only [Int.natCast_nonneg, hset, if_true, Int.toNat_natCast, hget, eq_self, decide_true]
    refine Ev.bind hg8 ?_
    simp only [h5]
    exact e4
   ·obtain ⟨a4, s4, l, e4, c1, c2, c3⟩ := ZkW code n hn b30 b31 b50 b51 o4 d (i + 1) (List.set acc i (x, 0)) a2 s2 (by omega) (by rw [List.length_set]; exact ha) (hc.to (at2 := a2) (by omega) (by omega))
    refine ⟨a4, s4, l, Ev.succ ?_, c1, by omega, by omega⟩
    simp only [ZT, hlt, decide_true, if_true]
    refine Ev.bind e1 ?_
    simp only [if_true]
    refine Ev.bind hg ?_
    simp only [Int.natCast_nonneg, hset, if_true, Int.toNat_natCast, hget, hx, decide_false, Bool.false_eq_true, if_false, h5]
    exact e4
theorem ZI9 {code : List Int} {at' : Int} (seed : Int) (h : Cur code at' 1600) : ∃ b at2 s, Ev (fun k => Z4y k (code, at', seed)) (b, at2, s) ∧ at' ≤ at2 ∧ at2 ≤ at' + 1600 ∧ b.2.2.length ≤ 91 := by
 obtain ⟨b, a0, s0, e0, b1, b2, hl⟩ := ZCj seed (h.to (at2 := at') (by omega) (by omega))
 obtain ⟨a1, s1, l, e1, c1, c2, c3⟩ := ZkW code b.2.2.length (by omega) 0 0 b.1 b.2.1 [] b.2.2.length 0 b.2.2 a0 s0 (by omega) rfl (h.to (at2 := a0) (by omega) (by omega))
 refine ⟨(b.1, b.2.1, l), a1, s1, Ev.succ ?_, by omega, by omega, by dsimp only; omega⟩
 simp only [Z4y]
 exact Ev.bind e0 (Ev.bind e1 (Ev.some _))
end Go.Proofs.YtglkedenkcpcbaaGreatDoor.Vs

set_option linter.unusedVariables false
set_option linter.unusedSimpArgs false
namespace Go.Proofs.YtglkedenkcpcbaaGreatDoor.Vs
open Go.RowKit
def EvP {α : Type} (f : Nat → Option α) (Q : α → Prop) : Prop := ∃ v, Ev f v ∧ Q v
section
variable {α β : Type} {f g : Nat → Option α} {Q : α → Prop} {Q1 : β → Prop}
theorem EvP.some {v : α} (h : Q v) : EvP (fun _ => some v) Q := ⟨v, Ev.some v, h⟩
theorem EvP.succ (h : EvP (fun k => f (k + 1)) Q) : EvP f Q := by
 obtain ⟨v, h1, h2⟩ := h
 exact ⟨v, Ev.succ h1, h2⟩
theorem EvP.bind {x : Nat → Option β} {y : β → Nat → Option α} (h : EvP x Q1) (h2 : ∀ a, Q1 a → EvP (y a) Q) : EvP (fun k => Option.bind (x k) fun z => y z k) Q := by
 obtain ⟨a, h1, h3⟩ := h
 obtain ⟨v, h4, h5⟩ := h2 a h3
 exact ⟨v, Ev.bind h1 h4, h5⟩
theorem EvP.ite {c : Prop} [Decidable c] (h1 : c → EvP f Q) (h2 : ¬ c → EvP g Q) : EvP (fun k => if c then f k else g k) Q := by
 by_cases hc : c
 ·simp only [if_pos hc]; exact h1 hc
 ·simp only [if_neg hc]; exact h2 hc
theorem EvP.guard {c : Prop} [Decidable c] (hc : c) (h : EvP f Q) : EvP (fun k => if c then f k else none) Q := by
 simp only [if_pos hc]; exact h
theorem EvP.mono {Q' : α → Prop} (h : EvP f Q) (hq : ∀ v, Q v → Q' v) : EvP f Q' := by
 obtain ⟨v, h1, h2⟩ := h
 exact ⟨v, h1, hq v h2⟩
theorem EvP.ev {v : α} (h : Ev f v) (hq : Q v) : EvP f Q := ⟨v, h, hq⟩
end
section
variable {code : List Int} {at' seed : Int}
theorem Z7F (n : Int) (h : Cur code at' 2) (hn : 0 < n) : EvP (fun k => Z0 k (code, at', seed) n) (fun r => at' ≤ r.2.1 ∧ r.2.1 ≤ at' + 2 ∧ 0 ≤ r.1 ∧ r.1 < n) := by
 obtain ⟨v, a, s, e, h1, h2, h3, h4⟩ := Za8 seed n h hn
 exact ⟨_, e, h1, h2, h3, h4⟩
theorem ZIn (n : Int) (h : Cur code at' 2) : EvP (fun k => Z0 k (code, at', seed) n) (fun r => at' ≤ r.2.1 ∧ r.2.1 ≤ at' + 2 ∧ 0 ≤ r.1) := by
 obtain ⟨v, a, s, e, h1, h2, h3, _⟩ := Zrl seed n h
 exact ⟨_, e, h1, h2, h3⟩
theorem ZHm (n : Int) (h : Cur code at' 2) : EvP (fun k => Zr k (code, at', seed) n) (fun r => at' ≤ r.2.1 ∧ r.2.1 ≤ at' + 2) := by
 obtain ⟨v, a, s, e, h1, h2⟩ := Zl8 seed n h
 exact ⟨_, e, h1, h2⟩
theorem Zd3 (l : List Int) (hl : 0 < l.length) (h : Cur code at' 2) : EvP (fun k => Z5 k (code, at', seed) l) (fun r => at' ≤ r.2.1 ∧ r.2.1 ≤ at' + 2 ∧ r.1 ∈ l) := by
 obtain ⟨v, a, s, e, h1, h2, h3⟩ := Zd2 seed l hl h
 exact ⟨_, e, h1, h2, h3⟩
theorem ZIx (h : Cur code at' 2) : EvP (fun k => Z17 k (code, at', seed)) (fun r => at' ≤ r.2.1 ∧ r.2.1 ≤ at' + 2) := by
 obtain ⟨x, a, s, e, h1, h2⟩ := ZG4 seed h
 exact ⟨_, e, h1, h2⟩
theorem ZBk (h : Cur code at' 1040) : EvP (fun k => Zm k (code, at', seed)) (fun r => at' ≤ r.2.1 ∧ r.2.1 ≤ at' + 1040 ∧ r.1.2.2.length ≤ 91) := by
 obtain ⟨x, a, s, e, h1, h2, h3⟩ := ZCj seed h
 exact ⟨_, e, h1, h2, h3⟩
theorem ZFz (h : Cur code at' 1600) : EvP (fun k => Z4y k (code, at', seed)) (fun r => at' ≤ r.2.1 ∧ r.2.1 ≤ at' + 1600 ∧ r.1.2.2.length ≤ 91) := by
 obtain ⟨x, a, s, e, h1, h2, h3⟩ := ZI9 seed h
 exact ⟨_, e, h1, h2, h3⟩
end
end Go.Proofs.YtglkedenkcpcbaaGreatDoor.Vs

set_option linter.unusedVariables false
set_option linter.unusedSimpArgs false
namespace Go.Proofs.YtglkedenkcpcbaaGreatDoor.Vs
open Go.RowKit
def geared (x : CellD) : Bool := decide (x.1 = 6 ∨ x.1 = 7)
theorem ZoQ (x : CellD) : Ev (fun k => Zar k x) (geared x) := by
 refine Ev.succ ?_
 simp only [Zar]
 refine Ev.of ?_
 by_cases h1 : x.1 = 6 <;> simp [geared, h1]
theorem ZtL (x : CellD) : Ev (fun k => ZcK k x) (geared x) := by
 refine Ev.succ ?_
 simp only [ZcK]
 refine Ev.of ?_
 by_cases h1 : x.1 = 6 <;> simp [geared, h1]
def nears (b : BoardD) (i : Int) : List Int := (if 0 < Int.tdiv i b.2.1 then [i - b.2.1] else []) ++ (if 0 < Int.tmod i b.2.1 then [i - 1] else []) ++ (if Int.tmod i b.2.1 + 1 < b.2.1 then [i + 1] else []) ++ (if Int.tdiv i b.2.1 + 1 < b.1 then [i + b.2.1] else [])
theorem ZiZ {b : BoardD} (hb : boardOK b = true) {i : Int} (h0 : 0 ≤ i) (h1 : i < (b.2.2.length : Int)) : ∃ q m t : Int, Int.tdiv i b.2.1 = q ∧ Int.tmod i b.2.1 = m ∧ i = t + m ∧ 0 ≤ m ∧ m < b.2.1 ∧ 0 ≤ q ∧ q < b.1 ∧ 0 ≤ t ∧ t + b.2.1 ≤ (b.2.2.length : Int) ∧ (1 ≤ q → b.2.1 ≤ t) ∧ (q + 1 < b.1 → t + b.2.1 + b.2.1 ≤ (b.2.2.length : Int)) := by
 obtain ⟨g1, g2, g3, g4, g5, g6⟩ := Zt hb
 have hq : Int.tdiv i b.2.1 = i / b.2.1 := Int.tdiv_eq_ediv_of_nonneg h0
 have hm : Int.tmod i b.2.1 = i % b.2.1 := Int.tmod_eq_emod_of_nonneg h0
 have e1 := Int.mul_ediv_add_emod i b.2.1
 have e2 := Int.emod_nonneg i (show b.2.1 ≠ 0 by omega)
 have e3 := Int.emod_lt_of_pos i (show 0 < b.2.1 by omega)
 have e4 : 0 ≤ i / b.2.1 := Int.ediv_nonneg h0 (by omega)
 have e5 : i / b.2.1 < b.1 := Int.ediv_lt_of_lt_mul (by omega) (by rw [← g5]; exact h1)
 have e6 : 0 ≤ b.2.1 * (i / b.2.1) := Int.mul_nonneg (by omega) e4
 have e7 : b.2.1 * (i / b.2.1 + 1) ≤ b.2.1 * b.1 := Int.mul_le_mul_of_nonneg_left (by omega) (by omega)
 rw [Int.mul_add, Int.mul_one, Int.mul_comm b.2.1 b.1, ← g5] at e7
 refine ⟨_, _, b.2.1 * (i / b.2.1), hq, hm, by omega, e2, e3, e4, e5, e6, e7, fun h => ?_, fun h => ?_⟩
 ·have := Int.mul_le_mul_of_nonneg_left h (show 0 ≤ b.2.1 by omega)
  omega
 ·have e8 : b.2.1 * (i / b.2.1 + 2) ≤ b.2.1 * b.1 := Int.mul_le_mul_of_nonneg_left (by omega) (by omega)
  rw [Int.mul_add, Int.mul_comm b.2.1 b.1, ← g5] at e8
  omega
theorem ZG5 {b : BoardD} (hb : boardOK b = true) {i : Int} (h0 : 0 ≤ i) (h1 : i < (b.2.2.length : Int)) : ∀ n ∈ nears b i, 0 ≤ n ∧ n < (b.2.2.length : Int) := by
 obtain ⟨q, m, t, hq, hm, k1, k2, k3, k4, k5, k6, k7, k8, k9⟩ := ZiZ hb h0 h1
 intro n hn
 unfold nears at hn
 rw [hq, hm] at hn
 simp only [List.mem_append] at hn
 rcases hn with ((hn | hn) | hn) | hn
 ·split at hn
  ·have := List.mem_singleton.1 hn; have := k8 (by omega); omega
  ·cases hn
 ·split at hn
  ·have := List.mem_singleton.1 hn; omega
  ·cases hn
 ·split at hn
  ·have := List.mem_singleton.1 hn; omega
  ·cases hn
 ·split at hn
  ·have := List.mem_singleton.1 hn; have := k9 (by omega); omega
  ·cases hn
theorem ZDY (b : BoardD) (i : Int) : (nears b i).length ≤ 4 := by
 unfold nears
 simp only [List.length_append]
 have h1 : ∀ (c : Prop) [Decidable c] (x : Int), (if c then [x] else []).length ≤ 1 := by intro c _ x; split <;> simp
 have a1 := h1 (0 < Int.tdiv i b.2.1) (i - b.2.1)
 have a2 := h1 (0 < Int.tmod i b.2.1) (i - 1)
 have a3 := h1 (Int.tmod i b.2.1 + 1 < b.2.1) (i + 1)
 have a4 := h1 (Int.tdiv i b.2.1 + 1 < b.1) (i + b.2.1)
 omega
theorem ZCC (b : BoardD) (hb : boardOK b = true) (i : Int) (h0 : 0 ≤ i) (h1 : i < (b.2.2.length : Int)) : Ev (fun k => Zdk k b i) (nears b i) := by
 obtain ⟨g1, g2, g3, g4, g5, g6⟩ := Zt hb
 have hp := ZG g1 g2 g3 g4
 obtain ⟨q, m, t, hq, hm, k1, k2, k3, k4, k5, k6, k7, k8, k9⟩ := ZiZ hb h0 h1
 have hC : ¬ b.2.1 = 0 := by omega
 refine Ev.succ ?_
 simp only [Zdk, hC, if_false, nears, hq, hm, gt_iff_lt]
 rw [w64 (n := q) (by omega) (by omega), w64 (n := q + 1) (by omega) (by omega), w64 (n := m + 1) (by omega) (by omega), w64 (n := i - b.2.1) (by omega) (by omega), w64 (n := i - 1) (by omega) (by omega), w64 (n := i + 1) (by omega) (by omega), w64 (n := i + b.2.1) (by omega) (by omega)]
 refine Ev.of ?_
 by_cases h1 : 0 < q <;> by_cases h2 : 0 < m <;> by_cases h3 : m + 1 < b.2.1 <;> by_cases h4 : q + 1 < b.1 <;> simp [h1, h2, h3, h4]
theorem ZEP (b : BoardD) (hb : boardOK b = true) (i : Int) (h0 : 0 ≤ i) (h1 : i < (b.2.2.length : Int)) : Ev (fun k => ZfA k b i) (nears b i) := by
 obtain ⟨g1, g2, g3, g4, g5, g6⟩ := Zt hb
 have hp := ZG g1 g2 g3 g4
 obtain ⟨q, m, t, hq, hm, k1, k2, k3, k4, k5, k6, k7, k8, k9⟩ := ZiZ hb h0 h1
 have hC : ¬ b.2.1 = 0 := by omega
 refine Ev.succ ?_
 simp only [ZfA, hC, if_false, nears, hq, hm, gt_iff_lt]
 rw [w64 (n := q) (by omega) (by omega), w64 (n := q + 1) (by omega) (by omega), w64 (n := m + 1) (by omega) (by omega), w64 (n := i - b.2.1) (by omega) (by omega), w64 (n := i - 1) (by omega) (by omega), w64 (n := i + 1) (by omega) (by omega), w64 (n := i + b.2.1) (by omega) (by omega)]
 refine Ev.of ?_
 by_cases h1 : 0 < q <;> by_cases h2 : 0 < m <;> by_cases h3 : m + 1 < b.2.1 <;> by_cases h4 : q + 1 < b.1 <;> simp [h1, h2, h3, h4]
def visit (b : BoardD) (v : Int) (G : List Int × List Int) (n : Int) : List Int × List Int := if geared (List.getD b.2.2 n.toNat (0, 0)) && decide (List.getD G.1 n.toNat 0 < 0) then (List.set G.1 n.toNat v, G.2 ++ [n]) else G
def unl (l : List Int) : Nat := l.countP fun x => decide (x < 0)
theorem Zx8 (v : Int) (hv : 0 ≤ v) : ∀ (l : List Int) (i : Nat), i < l.length → List.getD l i 0 < 0 → unl (l.set i v) + 1 = unl l
 | [], i, h, _ => by simp at h
 | x :: l, 0, _, h => by
  have h' : x < 0 := by simpa using h
  have : ¬ v < 0 := by omega
  simp [unl, h', this]
 | x :: l, i + 1, h, h2 => by
  have ih := Zx8 v hv l i (by simpa using h) (by simpa using h2)
  simp only [unl, List.set_cons_succ, List.countP_cons] at ih ⊢
  omega
theorem ZH1 (l : List Int) : unl l ≤ l.length := List.countP_le_length
theorem ZDO (b : BoardD) (v : Int) (G : List Int × List Int) (n : Int) : (visit b v G n).1.length = G.1.length := by
 unfold visit; split <;> simp
theorem ZkC (b : BoardD) (v : Int) : ∀ (r : List Int) (G : List Int × List Int), (r.foldl (visit b v) G).1.length = G.1.length
 | [], G => rfl
 | n :: r, G => by rw [List.foldl_cons, ZkC b v r, ZDO]
theorem ZHr (b : BoardD) (v : Int) (hv : 0 ≤ v) (G : List Int × List Int) (n : Int) (h0 : 0 ≤ n) (h1 : n < (G.1.length : Int)) : unl (visit b v G n).1 + (visit b v G n).2.length = unl G.1 + G.2.length := by
 unfold visit
 split
 ·rename_i hc
  simp only [Bool.and_eq_true, decide_eq_true_eq] at hc
  have := Zx8 v hv G.1 n.toNat (by omega) hc.2
  simp only [List.length_append, List.length_singleton]
  omega
 ·rfl
theorem Zsp (b : BoardD) (v : Int) (hv : 0 ≤ v) : ∀ (r : List Int) (G : List Int × List Int), (∀ n ∈ r, 0 ≤ n ∧ n < (G.1.length : Int)) → unl (r.foldl (visit b v) G).1 + (r.foldl (visit b v) G).2.length = unl G.1 + G.2.length
 | [], G, _ => rfl
 | n :: r, G, h => by
  rw [List.foldl_cons, Zsp b v hv r _ (fun m hm => by rw [ZDO]; exact h m (List.mem_cons_of_mem _ hm))]
  exact ZHr b v hv G n (h n (List.mem_cons_self ..)).1 (h n (List.mem_cons_self ..)).2
theorem Zla (b : BoardD) (v : Int) : ∀ (r : List Int) (o2 o3 a : List Int), (r.foldl (visit b v) (o2, o3 ++ a)) = ((r.foldl (visit b v) (o2, a)).1, o3 ++ (r.foldl (visit b v) (o2, a)).2)
 | [], o2, o3, a => rfl
 | n :: r, o2, o3, a => by
  simp only [List.foldl_cons]
  by_cases hc : (geared (List.getD b.2.2 n.toNat (0, 0)) && decide (List.getD o2 n.toNat 0 < 0)) = true
  ·have e1 : visit b v (o2, o3 ++ a) n = (List.set o2 n.toNat v, o3 ++ (a ++ [n])) := by simp only [visit]; rw [if_pos hc, List.append_assoc]
   have e2 : visit b v (o2, a) n = (List.set o2 n.toNat v, a ++ [n]) := by simp only [visit]; rw [if_pos hc]
   rw [e1, e2]
   exact Zla b v r _ o3 _
  ·have e1 : visit b v (o2, o3 ++ a) n = (o2, o3 ++ a) := by simp only [visit]; rw [if_neg hc]
   have e2 : visit b v (o2, a) n = (o2, a) := by simp only [visit]; rw [if_neg hc]
   rw [e1, e2]
   exact Zla b v r o2 o3 a
theorem ZsD (b : BoardD) (v : Int) (P : Int → Prop) : ∀ (r : List Int) (G : List Int × List Int), (∀ n ∈ r, P n) → (∀ n ∈ G.2, P n) → ∀ n ∈ (r.foldl (visit b v) G).2, P n
 | [], G, _, h => h
 | m :: r, G, h, hg => by
  rw [List.foldl_cons]
  refine ZsD b v P r _ (fun n hn => h n (List.mem_cons_of_mem _ hn)) (fun n hn => ?_)
  unfold visit at hn
  split at hn
  ·rcases List.mem_append.1 hn with hn | hn
   ·exact hg n hn
   ·rw [List.mem_singleton.1 hn]; exact h m (List.mem_cons_self ..)
  ·exact hg n hn
theorem Zbi (b : BoardD) (hb : boardOK b = true) (v : Int) (hv : 0 ≤ v) (v26 : List CellD) (v27 v28 : Int) : ∀ (r pre o2 o3 : List Int), (∀ n ∈ r, 0 ≤ n ∧ n < (b.2.2.length : Int)) → (pre ++ r).length ≤ 100 → o2.length = b.2.2.length → o3.length + unl o2 ≤ 1000 →
    Ev (fun k => Z1J k b.1 b.2.1 b.2.2 o2 o3 (pre ++ r) v  v26 v27 v28 ((pre ++ r).length : Int) (pre.length : Int)) (b.1, b.2.1, b.2.2, (r.foldl (visit b v) (o2, o3)).1, (r.foldl (visit b v) (o2, o3)).2, v, v26, v27, v28)
  | [], pre, o2, o3, hr, hl, h2, h3 => by
    refine Ev.succ ?_
    simp only [Z1J, ZR, decide_false, Bool.false_eq_true, if_false]
    exact Ev.some _
  | x :: r, pre, o2, o3, hr, hl, h2, h3 => by
    obtain ⟨hx0, hx1⟩ := hr x (List.mem_cons_self ..)
    have hx2 : x < (o2.length : Int) := by omega
    have hr' : ∀ n ∈ r, 0 ≤ n ∧ n < (b.2.2.length : Int) := fun n hn => hr n (List.mem_cons_of_mem _ hn)
    have ih0 := Zbi b hb v hv  v26 v27 v28 r (pre ++ [x]) o2 o3 hr' (by simpa using hl) h2 h3
    rw [← Z7] at ih0
    have hn := Zz pre x r (by omega)
    refine Ev.succ ?_
    simp only [Z1J, Zy, Z16, decide_true, if_true, Int.toNat_natCast, Zk, hn, hx0, hx1, hx2]
    refine Ev.bind (ZoQ (List.getD b.2.2 x.toNat (0, 0))) ?_
    rw [List.foldl_cons]
    by_cases hg : geared (List.getD b.2.2 x.toNat (0, 0)) = true
    · simp only [hg, if_true]
      by_cases ho : List.getD o2 x.toNat 0 < 0
      · have e1 : visit b v (o2, o3) x = (List.set o2 x.toNat v, o3 ++ [x]) := by unfold visit; rw [if_pos (by simp only [hg, ho, decide_true, Bool.and_self])]
        have hu := Zx8 v hv o2 x.toNat (by omega) ho
        have hle : o3.length + 1 ≤ 140737488355328 / 8 := by omega
        have ih := Zbi b hb v hv  v26 v27 v28 r (pre ++ [x]) (List.set o2 x.toNat v) (o3 ++ [x]) hr' (by simpa using hl) (by simpa using h2) (by simp; omega)
        rw [← Z7] at ih
        simp only [ho, decide_true, if_true, List.length_singleton, hle]
        rw [e1]
        exact ih
      · have e1 : visit b v (o2, o3) x = (o2, o3) := by unfold visit; rw [if_neg (by simp only [ho, decide_false, Bool.and_false, Bool.false_eq_true, not_false_eq_true])]
        simp only [ho, decide_false, Bool.false_eq_true, if_false]
        rw [e1]
        exact ih0
    · have e1 : visit b v (o2, o3) x = (o2, o3) := by unfold visit; rw [if_neg (by simp only [hg, Bool.false_and, Bool.false_eq_true, not_false_eq_true])]
      simp only [hg, Bool.false_eq_true, if_false]
      rw [e1]
      exact ih0
theorem ZeT (b : BoardD) (hb : boardOK b = true) (v : Int) (hv : 0 ≤ v) (v9 : Int) (v26 : List CellD) (v27 v28 : Int) : ∀ (r pre o2 o3 : List Int), (∀ n ∈ r, 0 ≤ n ∧ n < (b.2.2.length : Int)) → (pre ++ r).length ≤ 100 → o2.length = b.2.2.length → o3.length + unl o2 ≤ 1000 →
    Ev (fun k => Z3b k b.1 b.2.1 b.2.2 o2 o3 (pre ++ r) v v9 v26 v27 v28 ((pre ++ r).length : Int) (pre.length : Int)) (b.1, b.2.1, b.2.2, (r.foldl (visit b v) (o2, o3)).1, (r.foldl (visit b v) (o2, o3)).2, v, v9, v26, v27, v28)
  | [], pre, o2, o3, hr, hl, h2, h3 => by
    refine Ev.succ ?_
    simp only [Z3b, ZR, decide_false, Bool.false_eq_true, if_false]
    exact Ev.some _
  | x :: r, pre, o2, o3, hr, hl, h2, h3 => by
    obtain ⟨hx0, hx1⟩ := hr x (List.mem_cons_self ..)
    have hx2 : x < (o2.length : Int) := by omega
    have hr' : ∀ n ∈ r, 0 ≤ n ∧ n < (b.2.2.length : Int) := fun n hn => hr n (List.mem_cons_of_mem _ hn)
    have ih0 := ZeT b hb v hv v9 v26 v27 v28 r (pre ++ [x]) o2 o3 hr' (by simpa using hl) h2 h3
    rw [← Z7] at ih0
    have hn := Zz pre x r (by omega)
    refine Ev.succ ?_
    simp only [Z3b, Zy, Z16, decide_true, if_true, Int.toNat_natCast, Zk, hn, hx0, hx1, hx2]
    refine Ev.bind (ZtL (List.getD b.2.2 x.toNat (0, 0))) ?_
    rw [List.foldl_cons]
    by_cases hg : geared (List.getD b.2.2 x.toNat (0, 0)) = true
    · simp only [hg, if_true]
      by_cases ho : List.getD o2 x.toNat 0 < 0
      · have e1 : visit b v (o2, o3) x = (List.set o2 x.toNat v, o3 ++ [x]) := by unfold visit; rw [if_pos (by simp only [hg, ho, decide_true, Bool.and_self])]
        have hu := Zx8 v hv o2 x.toNat (by omega) ho
        have hle : o3.length + 1 ≤ 140737488355328 / 8 := by omega
        have ih := ZeT b hb v hv v9 v26 v27 v28 r (pre ++ [x]) (List.set o2 x.toNat v) (o3 ++ [x]) hr' (by simpa using hl) (by simpa using h2) (by simp; omega)
        rw [← Z7] at ih
        simp only [ho, decide_true, if_true, List.length_singleton, hle]
        rw [e1]
        exact ih
      · have e1 : visit b v (o2, o3) x = (o2, o3) := by unfold visit; rw [if_neg (by simp only [ho, decide_false, Bool.and_false, Bool.false_eq_true, not_false_eq_true])]
        simp only [ho, decide_false, Bool.false_eq_true, if_false]
        rw [e1]
        exact ih0
    · have e1 : visit b v (o2, o3) x = (o2, o3) := by unfold visit; rw [if_neg (by simp only [hg, Bool.false_and, Bool.false_eq_true, not_false_eq_true])]
      simp only [hg, Bool.false_eq_true, if_false]
      rw [e1]
      exact ih0
def bfs (b : BoardD) (v : Int) : Nat → List Int → List Int → List Int
 | 0, o2, _ => o2
 | _ + 1, o2, [] => o2
 | n + 1, o2, x :: q => bfs b v n ((nears b x).foldl (visit b v) (o2, [])).1 (q ++ ((nears b x).foldl (visit b v) (o2, [])).2)
theorem Zx6 (b : BoardD) (v : Int) : ∀ (n : Nat) (o2 q : List Int), (bfs b v n o2 q).length = o2.length
 | 0, o2, _ => rfl
 | _ + 1, o2, [] => rfl
 | n + 1, o2, x :: q => by simp only [bfs]; rw [Zx6 b v n, ZkC]
theorem Zgn (b : BoardD) (hb : boardOK b = true) (v : Int) (hv : 0 ≤ v) (v26 : List CellD) (v27 v28 : Int) : ∀ (n : Nat) (o2 q : List Int), (∀ m ∈ q, 0 ≤ m ∧ m < (b.2.2.length : Int)) → o2.length = b.2.2.length → unl o2 + q.length + 1 ≤ n → q.length + unl o2 ≤ 1000 →
    Ev (fun k => Z2i k b.1 b.2.1 b.2.2 o2 q v v26 v27 v28) (b.1, b.2.1, b.2.2, bfs b v n o2 q, v, v26, v27, v28)
  | 0, o2, q, hq, h2, hn, hm => by omega
  | n + 1, o2, [], hq, h2, hn, hm => by
    refine Ev.succ ?_
    simp only [Z2i, List.length_nil]
    have : ¬ ((0 : Nat) : Int) > 0 := by omega
    simp only [this, decide_false, Bool.false_eq_true, if_false]
    exact Ev.some _
  | n + 1, o2, x :: q, hq, h2, hn, hm => by
    obtain ⟨hx0, hx1⟩ := hq x (List.mem_cons_self ..)
    have hlen : (((x :: q).length : Nat) : Int) > 0 := by simp only [List.length_cons]; omega
    have hlen1 : (1 : Int) ≤ (((x :: q).length : Nat) : Int) := by omega
    have hlen0 : (0 : Int) < (((x :: q).length : Nat) : Int) := by omega
    have hin := ZG5 hb hx0 hx1
    have hun := Zsp b v hv (nears b x) (o2, []) (fun m hm => by rw [h2]; exact hin m hm)
    simp only [List.length_nil, Nat.add_zero] at hun
    simp only [List.length_cons] at hn hm
    refine Ev.succ ?_
    simp only [Z2i, hlen, hlen1, hlen0, Int.le_refl, decide_true, if_true]
    refine Ev.bind (ZCC b hb x hx0 hx1) ?_
    have h6 := Zbi b hb v hv v26 v27 v28 (nears b x) [] o2 q hin (by have := ZDY b x; simp; omega) h2 (by omega)
    refine Ev.bind h6 ?_
    have happ := Zla b v (nears b x) o2 q []
    rw [List.append_nil] at happ
    rw [happ]
    show Ev (fun k => Z2i k b.1 b.2.1 b.2.2 (List.foldl (visit b v) (o2, []) (nears b x)).1 (q ++ (List.foldl (visit b v) (o2, []) (nears b x)).2) v v26 v27 v28) _
    exact Zgn b hb v hv v26 v27 v28 n _ _ (fun m hm => by
      rcases List.mem_append.1 hm with hm | hm
      · exact hq m (List.mem_cons_of_mem _ hm)
      · exact ZsD b v (fun m => 0 ≤ m ∧ m < (b.2.2.length : Int)) (nears b x) (o2, []) hin (fun m hm => by cases hm) m hm) (by rw [ZkC]; exact h2) (by rw [List.length_append]; omega) (by rw [List.length_append]; omega)
theorem Zkb (b : BoardD) (hb : boardOK b = true) (v : Int) (hv : 0 ≤ v) (v26 : List CellD) (v27 v28 : Int) : ∀ (n : Nat) (o2 q pre : List Int), (∀ m ∈ q, 0 ≤ m ∧ m < (b.2.2.length : Int)) → o2.length = b.2.2.length → unl o2 + q.length + 1 ≤ n → (pre ++ q).length + unl o2 ≤ 1000 →
    Ev (fun k => Z4a k b.1 b.2.1 b.2.2 o2 (pre ++ q) v (pre.length : Int) v26 v27 v28) (b.1, b.2.1, b.2.2, bfs b v n o2 q, v, v26, v27, v28)
  | 0, o2, q, pre, hq, h2, hn, hm => by omega
  | n + 1, o2, [], pre, hq, h2, hn, hm => by
    refine Ev.succ ?_
    simp only [Z4a, ZR, decide_false, Bool.false_eq_true, if_false]
    exact Ev.some _
  | n + 1, o2, x :: q, pre, hq, h2, hn, hm => by
    obtain ⟨hx0, hx1⟩ := hq x (List.mem_cons_self ..)
    have hin := ZG5 hb hx0 hx1
    have hun := Zsp b v hv (nears b x) (o2, []) (fun m hm => by rw [h2]; exact hin m hm)
    simp only [List.length_nil, Nat.add_zero] at hun
    have hm' := hm
    simp only [List.length_cons, List.length_append] at hn hm'
    refine Ev.succ ?_
    simp only [Z4a, Zy, Z16, decide_true, if_true, Int.toNat_natCast, Zk]
    refine Ev.bind (ZEP b hb x hx0 hx1) ?_
    have h6 := ZeT b hb v hv (pre.length : Int) v26 v27 v28 (nears b x) [] o2 (pre ++ x :: q) hin (by have := ZDY b x; simp; omega) h2 hm
    refine Ev.bind h6 ?_
    have happ := Zla b v (nears b x) o2 (pre ++ x :: q) []
    rw [List.append_nil] at happ
    rw [happ]
    show Ev (fun k => Z4a k b.1 b.2.1 b.2.2 (List.foldl (visit b v) (o2, []) (nears b x)).1 ((pre ++ x :: q) ++ (List.foldl (visit b v) (o2, []) (nears b x)).2) v (wrap64 ((pre.length : Int) + 1)) v26 v27 v28) _
    rw [Zz pre x q (by simp; omega), Z7, List.append_assoc]
    exact Zkb b hb v hv v26 v27 v28 n _ _ (pre ++ [x]) (fun m hm => by
      rcases List.mem_append.1 hm with hm | hm
      · exact hq m (List.mem_cons_of_mem _ hm)
      · exact ZsD b v (fun m => 0 ≤ m ∧ m < (b.2.2.length : Int)) (nears b x) (o2, []) hin (fun m hm => by cases hm) m hm) (by rw [ZkC]; exact h2) (by rw [List.length_append]; omega) (by simp only [List.length_append, List.length_singleton]; omega)
def groupsFrom (b : BoardD) : Int → List CellD → List Int → Int → List Int
 | _, [], o2, _ => o2
 | i, x :: r, o2, v => if geared x && decide (List.getD o2 i.toNat 0 < 0) then groupsFrom b (i + 1) r (bfs b v 200 (List.set o2 i.toNat v) [i]) (v + 1) else groupsFrom b (i + 1) r o2 v
theorem ZiM (b : BoardD) : ∀ (r : List CellD) (i : Int) (o2 : List Int) (v : Int), (groupsFrom b i r o2 v).length = o2.length
 | [], _, _, _ => rfl
 | x :: r, i, o2, v => by
  simp only [groupsFrom]
  split
  ·rw [ZiM b r, Zx6, List.length_set]
  ·exact ZiM b r _ _ _
def groupsOf (b : BoardD) : List Int := groupsFrom b 0 b.2.2 (List.replicate b.2.2.length (-1)) 0
theorem ZgV (b : BoardD) : (groupsOf b).length = b.2.2.length := by unfold groupsOf; rw [ZiM]; simp
theorem ZgA (b : BoardD) (m : Int) : ∀ (r pre : List Int), m = ((pre ++ r).length : Int) → (pre ++ r).length ≤ 1000 → Ev (fun k => Z3p k b.1 b.2.1 b.2.2 (pre ++ r) m (pre.length : Int)) (b.1, b.2.1, b.2.2, pre ++ List.replicate r.length (-1))
 | [], pre, hm, hl => by
  refine Ev.succ ?_
  have : ¬ (pre.length : Int) < m := by rw [hm]; exact ZR pre
  simp only [Z3p, this, decide_false, Bool.false_eq_true, if_false]
  exact Ev.of (by simp)
 | x :: r, pre, hm, hl => by
  have ih := ZgA b m r (pre ++ [-1]) (by rw [hm]; simp) (by simpa using hl)
  have hlt : (pre.length : Int) < m := by rw [hm]; exact Zy _ _ _
  have hn2 : ((pre ++ [x]).length : Int) = ((pre ++ [(-1 : Int)]).length : Int) := by simp
  refine Ev.succ ?_
  simp only [Z3p, hlt, Zy, Z16, decide_true, if_true, Int.toNat_natCast, Zqk]
  rw [Zz pre x r (by omega), hn2]
  rw [← Z7] at ih
  refine ih.congr ?_
  simp [List.replicate_succ]
theorem ZbE (b : BoardD) (hb : boardOK b = true) : ∀ (r pre : List CellD) (o2 : List Int) (v : Int), pre ++ r = b.2.2 → o2.length = b.2.2.length → 0 ≤ v → v ≤ pre.length → Ev (fun k => Z1d k b.1 b.2.1 b.2.2 o2 v (pre ++ r) ((pre ++ r).length : Int) (pre.length : Int)) (groupsFrom b pre.length r o2 v)
 | [], pre, o2, v, hpr, h2, hv, hv2 => by
  refine Ev.succ ?_
  simp only [Z1d, ZR, decide_false, Bool.false_eq_true, if_false]
  exact Ev.some _
 | x :: r, pre, o2, v, hpr, h2, hv, hv2 => by
  obtain ⟨g1, g2, g3, g4, g5, g6⟩ := Zt hb
  have hp := ZG g1 g2 g3 g4
  have hl90 : (pre ++ x :: r).length ≤ 90 := by rw [hpr]; omega
  have hn := Zz pre x r (by omega)
  have hc : ((pre ++ [x]).length : Int) = (pre.length : Int) + 1 := by simp
  have hlt := Zy pre x r
  have hlo : (pre.length : Int) < (o2.length : Int) := by rw [h2, ← hpr]; exact hlt
  have ih0 := ZbE b hb r (pre ++ [x]) o2 v (by rw [← hpr]; simp) h2 hv (by simp; omega)
  rw [← Z7, hc] at ih0
  refine Ev.succ ?_
  simp only [Z1d, Zy, Z16, decide_true, if_true, Int.toNat_natCast, Zk, hn, hc, hlo]
  refine Ev.bind (ZoQ x) ?_
  cases hg : geared x with
  | false =>
   simp only [Bool.not_false, if_true, groupsFrom, hg, Bool.false_and, Bool.false_eq_true, if_false]
   exact ih0
  | true =>
   simp only [Bool.not_true, Bool.false_eq_true, if_false]
   refine Ev.ite (fun h => ?_) (fun h => ?_)
   ·simp only [ge_iff_le, decide_eq_true_eq] at h
    have hno : ¬ List.getD o2 pre.length 0 < 0 := by omega
    simp only [groupsFrom, hg, Int.toNat_natCast, hno, decide_false, Bool.and_false, Bool.false_eq_true, if_false]
    exact ih0
   ·simp only [ge_iff_le, decide_eq_true_eq] at h
    have hno : List.getD o2 pre.length 0 < 0 := by omega
    have hul := ZH1 (List.set o2 pre.length v)
    rw [List.length_set, h2, ← hpr] at hul
    have h4 := Zgn b hb v hv (pre ++ x :: r) ((pre ++ x :: r).length : Int) (pre.length : Int) 200 (List.set o2 pre.length v) [(pre.length : Int)] (fun m hm => by rw [List.mem_singleton.1 hm, ← hpr]; exact ⟨by omega, hlt⟩) (by rw [List.length_set]; exact h2) (by simp; omega) (by simp; omega)
    refine Ev.bind h4 ?_
    have ih := ZbE b hb r (pre ++ [x]) (bfs b v 200 (List.set o2 pre.length v) [(pre.length : Int)]) (v + 1) (by rw [← hpr]; simp) (by rw [Zx6, List.length_set]; exact h2) (by omega) (by simp; omega)
    rw [← Z7, hc] at ih
    show Ev (fun k => Z1d k b.1 b.2.1 b.2.2 (bfs b v 200 (List.set o2 pre.length v) [(pre.length : Int)]) (wrap64 (v + 1)) (pre ++ x :: r) ((pre ++ x :: r).length : Int) (wrap64 ((pre.length : Int) + 1))) _
    rw [w64 (n := v + 1) (by omega) (by omega), hn, hc]
    simp only [groupsFrom, hg, Int.toNat_natCast, hno, decide_true, Bool.and_self, if_true]
    exact ih
theorem ZhQ (b : BoardD) (hb : boardOK b = true) : Ev (fun k => Z6z k b) (groupsOf b) := by
 obtain ⟨g1, g2, g3, g4, g5, g6⟩ := Zt hb
 have hp := ZG g1 g2 g3 g4
 have hm : b.2.2.length * 8 ≤ 281474976710656 := by omega
 refine Ev.succ ?_
 simp only [Z6z, Int.toNat_natCast, hm, if_true]
 refine Ev.bind (ZgA b _ (List.replicate b.2.2.length 0) [] rfl (by simp; omega)) ?_
 have hrep : ([] : List Int) ++ List.replicate (List.replicate b.2.2.length (0 : Int)).length (-1) = List.replicate b.2.2.length (-1) := by simp
 rw [hrep]
 exact Ev.bind (ZbE b hb b.2.2 [] (List.replicate b.2.2.length (-1)) 0 rfl (by simp) (by omega) (by simp)) (Ev.some _)
theorem Zk6 (b : BoardD) (m : Int) : ∀ (r pre : List Int), m = ((pre ++ r).length : Int) → (pre ++ r).length ≤ 1000 → Ev (fun k => Z6e k b.1 b.2.1 b.2.2 (pre ++ r) m (pre.length : Int)) (b.1, b.2.1, b.2.2, pre ++ List.replicate r.length (-1))
 | [], pre, hm, hl => by
  refine Ev.succ ?_
  have : ¬ (pre.length : Int) < m := by rw [hm]; exact ZR pre
  simp only [Z6e, this, decide_false, Bool.false_eq_true, if_false]
  exact Ev.of (by simp)
 | x :: r, pre, hm, hl => by
  have ih := Zk6 b m r (pre ++ [-1]) (by rw [hm]; simp) (by simpa using hl)
  have hlt : (pre.length : Int) < m := by rw [hm]; exact Zy _ _ _
  have hn2 : ((pre ++ [x]).length : Int) = ((pre ++ [(-1 : Int)]).length : Int) := by simp
  refine Ev.succ ?_
  simp only [Z6e, hlt, Zy, Z16, decide_true, if_true, Int.toNat_natCast, Zqk]
  rw [Zz pre x r (by omega), hn2]
  rw [← Z7] at ih
  refine ih.congr ?_
  simp [List.replicate_succ]
theorem ZeV (b : BoardD) (hb : boardOK b = true) : ∀ (r pre : List CellD) (o2 : List Int) (v : Int), pre ++ r = b.2.2 → o2.length = b.2.2.length → 0 ≤ v → v ≤ pre.length → Ev (fun k => Z2h k b.1 b.2.1 b.2.2 o2 v (pre ++ r) ((pre ++ r).length : Int) (pre.length : Int)) (groupsFrom b pre.length r o2 v)
 | [], pre, o2, v, hpr, h2, hv, hv2 => by
  refine Ev.succ ?_
  simp only [Z2h, ZR, decide_false, Bool.false_eq_true, if_false]
  exact Ev.some _
 | x :: r, pre, o2, v, hpr, h2, hv, hv2 => by
  obtain ⟨g1, g2, g3, g4, g5, g6⟩ := Zt hb
  have hp := ZG g1 g2 g3 g4
  have hl90 : (pre ++ x :: r).length ≤ 90 := by rw [hpr]; omega
  have hn := Zz pre x r (by omega)
  have hc : ((pre ++ [x]).length : Int) = (pre.length : Int) + 1 := by simp
  have hlt := Zy pre x r
  have hlo : (pre.length : Int) < (o2.length : Int) := by rw [h2, ← hpr]; exact hlt
  have ih0 := ZeV b hb r (pre ++ [x]) o2 v (by rw [← hpr]; simp) h2 hv (by simp; omega)
  rw [← Z7, hc] at ih0
  refine Ev.succ ?_
  simp only [Z2h, Zy, Z16, decide_true, if_true, Int.toNat_natCast, Zk, hn, hc, hlo]
  refine Ev.bind (ZtL x) ?_
  cases hg : geared x with
  | false =>
   simp only [Bool.not_false, if_true, groupsFrom, hg, Bool.false_and, Bool.false_eq_true, if_false]
   exact ih0
  | true =>
   simp only [Bool.not_true, Bool.false_eq_true, if_false]
   refine Ev.ite (fun h => ?_) (fun h => ?_)
   ·simp only [ge_iff_le, decide_eq_true_eq] at h
    have hno : ¬ List.getD o2 pre.length 0 < 0 := by omega
    simp only [groupsFrom, hg, Int.toNat_natCast, hno, decide_false, Bool.and_false, Bool.false_eq_true, if_false]
    exact ih0
   ·simp only [ge_iff_le, decide_eq_true_eq] at h
    have hno : List.getD o2 pre.length 0 < 0 := by omega
    have hul := ZH1 (List.set o2 pre.length v)
    rw [List.length_set, h2, ← hpr] at hul
    have h4 := Zkb b hb v hv (pre ++ x :: r) ((pre ++ x :: r).length : Int) (pre.length : Int) 200 (List.set o2 pre.length v) [(pre.length : Int)] [] (fun m hm => by rw [List.mem_singleton.1 hm, ← hpr]; exact ⟨by omega, hlt⟩) (by rw [List.length_set]; exact h2) (by simp; omega) (by simp; omega)
    refine Ev.bind h4 ?_
    have ih := ZeV b hb r (pre ++ [x]) (bfs b v 200 (List.set o2 pre.length v) [(pre.length : Int)]) (v + 1) (by rw [← hpr]; simp) (by rw [Zx6, List.length_set]; exact h2) (by omega) (by simp; omega)
    rw [← Z7, hc] at ih
    show Ev (fun k => Z2h k b.1 b.2.1 b.2.2 (bfs b v 200 (List.set o2 pre.length v) [(pre.length : Int)]) (wrap64 (v + 1)) (pre ++ x :: r) ((pre ++ x :: r).length : Int) (wrap64 ((pre.length : Int) + 1))) _
    rw [w64 (n := v + 1) (by omega) (by omega), hn, hc]
    simp only [groupsFrom, hg, Int.toNat_natCast, hno, decide_true, Bool.and_self, if_true]
    exact ih
theorem Zow (b : BoardD) (hb : boardOK b = true) : Ev (fun k => Z1U k b) (groupsOf b) := by
 obtain ⟨g1, g2, g3, g4, g5, g6⟩ := Zt hb
 have hp := ZG g1 g2 g3 g4
 have hm : b.2.2.length * 8 ≤ 281474976710656 := by omega
 refine Ev.succ ?_
 simp only [Z1U, Int.toNat_natCast, hm, if_true]
 refine Ev.bind (Zk6 b _ (List.replicate b.2.2.length 0) [] rfl (by simp; omega)) ?_
 have hrep : ([] : List Int) ++ List.replicate (List.replicate b.2.2.length (0 : Int)).length (-1) = List.replicate b.2.2.length (-1) := by simp
 rw [hrep]
 exact Ev.bind (ZeV b hb b.2.2 [] (List.replicate b.2.2.length (-1)) 0 rfl (by simp) (by omega) (by simp)) (Ev.some _)
end Go.Proofs.YtglkedenkcpcbaaGreatDoor.Vs

set_option linter.unusedVariables false
set_option linter.unusedSimpArgs false
namespace Go.Proofs.YtglkedenkcpcbaaGreatDoor.Vs
open Go.RowKit
def fits (x : CellD) (kd : Int) : Bool := decide (kd = 2) || (decide (kd = 1) && turning x) || (decide (kd = 3) && (turning x || decide (x.1 = 1 ∨ x.1 = 2)))
theorem Ztn (x : CellD) (kd : Int) : Ev (fun k => ZcY k x kd) (fits x kd) := by
 refine Ev.succ ?_
 simp only [ZcY]
 refine Ev.ite (fun h => ?_) (fun h => ?_)
 ·simp only [decide_eq_true_eq] at h
  refine Ev.bind (Zcj x) (Ev.of ?_)
  simp [fits, h]
 ·simp only [decide_eq_true_eq] at h
  refine Ev.ite (fun h2 => ?_) (fun h2 => ?_)
  ·simp only [decide_eq_true_eq] at h2
   exact Ev.of (by simp [fits, h2])
  ·simp only [decide_eq_true_eq] at h2
   refine Ev.ite (fun h3 => ?_) (fun h3 => ?_)
   ·simp only [decide_eq_true_eq] at h3
    refine Ev.bind (Zcj x) (Ev.ite (fun h4 => ?_) (fun h4 => ?_))
    ·exact Ev.of (by simp [fits, h3, h4])
    ·refine Ev.of ?_
     simp only [Bool.not_eq_true] at h4
     by_cases h5 : x.1 = 1 <;> simp [fits, h3, h4, h5]
   ·simp only [decide_eq_true_eq] at h3
    exact Ev.of (by simp [fits, h, h2, h3])
theorem Zq6 (x : CellD) (kd : Int) (hx : cellOK x = true) : Ev (fun k => ZbD k x kd) (fits x kd) := by
 have ht : Ev (fun k => Z2P k x) (turning x) := by simpa [hx] using Zna x
 refine Ev.succ ?_
 simp only [ZbD]
 refine Ev.ite (fun h => ?_) (fun h => ?_)
 ·simp only [decide_eq_true_eq] at h
  refine Ev.bind ht (Ev.of ?_)
  simp [fits, h]
 ·simp only [decide_eq_true_eq] at h
  refine Ev.ite (fun h2 => ?_) (fun h2 => ?_)
  ·simp only [decide_eq_true_eq] at h2
   exact Ev.of (by simp [fits, h2])
  ·simp only [decide_eq_true_eq] at h2
   refine Ev.ite (fun h3 => ?_) (fun h3 => ?_)
   ·simp only [decide_eq_true_eq] at h3
    refine Ev.bind ht (Ev.ite (fun h4 => ?_) (fun h4 => ?_))
    ·exact Ev.of (by simp [fits, h3, h4])
    ·refine Ev.of ?_
     simp only [Bool.not_eq_true] at h4
     by_cases h5 : x.1 = 1 <;> simp [fits, h3, h4, h5]
   ·simp only [decide_eq_true_eq] at h3
    exact Ev.of (by simp [fits, h, h2, h3])
def faultsOK (b : BoardD) : Int → List FaultD → Bool
 | _, [] => true
 | last, x :: r => decide (0 ≤ x.2.1 ∧ x.2.1 < b.1 ∧ 0 ≤ x.2.2 ∧ x.2.2 < b.2.1 ∧ last < x.2.1 * b.2.1 + x.2.2) && fits (List.getD b.2.2 (x.2.1 * b.2.1 + x.2.2).toNat (0, 0)) x.1 && faultsOK b (x.2.1 * b.2.1 + x.2.2) r
theorem ZGa (b : BoardD) (hb : boardOK b = true) {r c : Int} (h1 : 0 ≤ r) (h2 : r < b.1) (h3 : 0 ≤ c) (h4 : c < b.2.1) : Ev (fun k => Z4E k b r c) (List.getD b.2.2 (r * b.2.1 + c).toNat (0, 0)) := by
 have hp := Z48 hb h1 h2 h3 h4
 refine Ev.succ ?_
 simp only [Z4E]
 rw [w64 (n := r * b.2.1) (by omega) (by omega), w64 (by omega) (by omega)]
 simp only [hp.1, hp.2.1, if_true]
 exact Ev.some _
theorem Zoi (b : BoardD) (hb : boardOK b = true) (w : List FaultD) : ∀ (r pre : List FaultD) (last : Int), (pre ++ r).length ≤ 9223372036854775806 → Ev (fun k => Z7X k b.1 b.2.1 b.2.2 w last (pre ++ r) ((pre ++ r).length : Int) (pre.length : Int)) (if faultsOK b last r then LR.go w else LR.ret false)
 | [], pre, last, hl => by
  refine Ev.succ ?_
  simp only [Z7X, ZR, decide_false, Bool.false_eq_true, if_false, faultsOK, if_true]
  exact Ev.some _
 | x :: r, pre, last, hl => by
  obtain ⟨g1, g2, g3, g4, g5, g6⟩ := Zt hb
  refine Ev.succ ?_
  simp only [Z7X, Zy, Z16, decide_true, if_true, Int.toNat_natCast, Zk]
  rw [Zz pre x r (by omega), w64 (n := b.1 - 1) (by omega) (by omega), w64 (n := b.2.1 - 1) (by omega) (by omega)]
  refine Ev.bind (Z34 _ _ _) (Ev.ite (fun h => Ev.of ?_) (fun h => ?_))
  ·have h : ¬ (0 ≤ x.2.1 ∧ x.2.1 ≤ b.1 - 1) := nd h
   rw [if_neg (by simp only [faultsOK, Bool.and_eq_true, decide_eq_true_eq]; omega)]
  have h1 : 0 ≤ x.2.1 ∧ x.2.1 ≤ b.1 - 1 := yd h
  refine Ev.bind (Z34 _ _ _) (Ev.ite (fun h => Ev.of ?_) (fun h => ?_))
  ·have h : ¬ (0 ≤ x.2.2 ∧ x.2.2 ≤ b.2.1 - 1) := nd h
   rw [if_neg (by simp only [faultsOK, Bool.and_eq_true, decide_eq_true_eq]; omega)]
  have h2 : 0 ≤ x.2.2 ∧ x.2.2 ≤ b.2.1 - 1 := yd h
  have hp := Z48 hb h1.1 (by omega) h2.1 (by omega)
  rw [w64 (n := x.2.1 * b.2.1) (by omega) (by omega), w64 (n := x.2.1 * b.2.1 + x.2.2) (by omega) (by omega)]
  refine Ev.bind (ZGa b hb h1.1 (by omega) h2.1 (by omega)) ?_
  refine Ev.bind (Ztn _ _) (Ev.ite (fun h => Ev.of ?_) (fun h => ?_))
  ·have h : fits (List.getD b.2.2 (x.2.1 * b.2.1 + x.2.2).toNat (0, 0)) x.1 = false := by simpa using h
   simp only [faultsOK, h, Bool.and_false, Bool.false_and, Bool.false_eq_true, if_false]
  have h3 : fits (List.getD b.2.2 (x.2.1 * b.2.1 + x.2.2).toNat (0, 0)) x.1 = true := by simpa using h
  refine Ev.ite (fun h => Ev.of ?_) (fun h => ?_)
  ·simp only [decide_eq_true_eq] at h
   rw [if_neg (by simp only [faultsOK, Bool.and_eq_true, decide_eq_true_eq]; omega)]
  simp only [decide_eq_true_eq] at h
  have ih := Zoi b hb w r (pre ++ [x]) (x.2.1 * b.2.1 + x.2.2) (by simpa using hl)
  rw [← Z7] at ih
  refine ih.congr ?_
  have h5 : 0 ≤ x.2.1 ∧ x.2.1 < b.1 ∧ 0 ≤ x.2.2 ∧ x.2.2 < b.2.1 ∧ last < x.2.1 * b.2.1 + x.2.2 := by omega
  simp only [faultsOK, h3, h5, and_self, decide_true, Bool.true_and]
theorem Zu0 (b : BoardD) (hb : boardOK b = true) (l : List FaultD) (hl : l.length ≤ 9223372036854775806) : Ev (fun k => ZcP k b l) (decide (l.length ≤ 4) && faultsOK b (-1) l) := by
 refine Ev.succ ?_
 simp only [ZcP]
 refine Ev.bind (Zoi b hb l l [] (-1) (by simpa using hl)) ?_
 cases hx : faultsOK b (-1) l with
 | true =>
  simp only [if_true]
  refine Ev.go (Ev.of ?_)
  by_cases h4 : l.length ≤ 4
  ·have : (l.length : Int) ≤ 4 := by omega
   simp [h4, this]
  ·have : ¬ (l.length : Int) ≤ 4 := by omega
   simp [h4, this]
 | false =>
  simp only [Bool.false_eq_true, if_false, Bool.and_false]
  exact Ev.ret (Ev.some _)
theorem Zjo (b : BoardD) (hb : boardOK b = true) : ∀ (r pre : List FaultD) (last : Int), (pre ++ r).length ≤ 9223372036854775806 → Ev (fun k => Z56 k b.1 b.2.1 b.2.2 last (pre ++ r) ((pre ++ r).length : Int) (pre.length : Int)) (if faultsOK b last r then LR.go () else LR.ret false)
 | [], pre, last, hl => by
  refine Ev.succ ?_
  simp only [Z56, ZR, decide_false, Bool.false_eq_true, if_false, faultsOK, if_true]
  exact Ev.some _
 | x :: r, pre, last, hl => by
  obtain ⟨g1, g2, g3, g4, g5, g6⟩ := Zt hb
  have hp := ZG g1 g2 g3 g4
  refine Ev.succ ?_
  simp only [Z56, Zy, Z16, decide_true, if_true, Int.toNat_natCast, Zk]
  rw [Zz pre x r (by omega)]
  refine Ev.bind (ZD4 b _ _ (by omega)) (Ev.ite (fun h => Ev.of ?_) (fun h => ?_))
  ·rw [hb, Bool.true_and] at h
   have h : ¬ (0 ≤ x.2.1 ∧ x.2.1 < b.1 ∧ 0 ≤ x.2.2 ∧ x.2.2 < b.2.1) := nd h
   rw [if_neg (by simp only [faultsOK, Bool.and_eq_true, decide_eq_true_eq]; omega)]
  rw [hb, Bool.true_and] at h
  have h1 : 0 ≤ x.2.1 ∧ x.2.1 < b.1 ∧ 0 ≤ x.2.2 ∧ x.2.2 < b.2.1 := yd h
  have hp := Z48 hb h1.1 h1.2.1 h1.2.2.1 h1.2.2.2
  rw [w64 (n := x.2.1 * b.2.1) (by omega) (by omega), w64 (n := x.2.1 * b.2.1 + x.2.2) (by omega) (by omega)]
  refine Ev.ite (fun h => Ev.of ?_) (fun h => ?_)
  ·simp only [decide_eq_true_eq] at h
   rw [if_neg (by simp only [faultsOK, Bool.and_eq_true, decide_eq_true_eq]; omega)]
  simp only [decide_eq_true_eq] at h
  simp only [hp.1, hp.2.1, if_true]
  refine Ev.bind (Zq6 _ _ (g6 _ (Zlg hp.1 hp.2.1 _))) (Ev.ite (fun h => Ev.of ?_) (fun h => ?_))
  ·have h : fits (List.getD b.2.2 (x.2.1 * b.2.1 + x.2.2).toNat (0, 0)) x.1 = false := by simpa using h
   simp only [faultsOK, h, Bool.and_false, Bool.false_and, Bool.false_eq_true, if_false]
  have h3 : fits (List.getD b.2.2 (x.2.1 * b.2.1 + x.2.2).toNat (0, 0)) x.1 = true := by simpa using h
  have ih := Zjo b hb r (pre ++ [x]) (x.2.1 * b.2.1 + x.2.2) (by simpa using hl)
  rw [← Z7] at ih
  refine ih.congr ?_
  have h5 : 0 ≤ x.2.1 ∧ x.2.1 < b.1 ∧ 0 ≤ x.2.2 ∧ x.2.2 < b.2.1 ∧ last < x.2.1 * b.2.1 + x.2.2 := by omega
  simp only [faultsOK, h3, h5, and_self, decide_true, Bool.true_and]
theorem Zn2 (b : BoardD) (hb : boardOK b = true) (l : List FaultD) (hl : l.length ≤ 9223372036854775806) : Ev (fun k => Z9a k b l) (decide (l.length ≤ 4) && faultsOK b (-1) l) := by
 refine Ev.succ ?_
 simp only [Z9a]
 refine Ev.ite (fun h => Ev.of ?_) (fun h => ?_)
 ·simp only [decide_eq_true_eq] at h
  have : ¬ l.length ≤ 4 := by omega
  simp [this]
 simp only [decide_eq_true_eq] at h
 have h4 : l.length ≤ 4 := by omega
 refine Ev.bind (Zjo b hb l [] (-1) (by simpa using hl)) ?_
 simp only [h4, decide_true, Bool.true_and]
 cases hx : faultsOK b (-1) l with
 | true => simp only [if_true]; exact Ev.go (Ev.some _)
 | false => simp only [Bool.false_eq_true, if_false]; exact Ev.ret (Ev.some _)
end Go.Proofs.YtglkedenkcpcbaaGreatDoor.Vs

set_option linter.unusedVariables false
set_option linter.unusedSimpArgs false
namespace Go.Proofs.YtglkedenkcpcbaaGreatDoor.Vs
open Go.RowKit
def placeOf (b : BoardD) (f : FaultD) : Int := f.2.1 * b.2.1 + f.2.2
def kindsOf (b : BoardD) (l : List FaultD) (K : List Int) : List Int := l.foldl (fun K f => List.set K (placeOf b f).toNat f.1) K
def faAtD (r c d : Int) : List FaultD → Int
 | [] => d
 | f :: l => if f.2.1 = r ∧ f.2.2 = c then f.1 else faAtD r c d l
theorem Zff {b : BoardD} {last : Int} {f : FaultD} {l : List FaultD} (h : faultsOK b last (f :: l) = true) : (0 ≤ f.2.1 ∧ f.2.1 < b.1 ∧ 0 ≤ f.2.2 ∧ f.2.2 < b.2.1 ∧ last < placeOf b f) ∧ faultsOK b (placeOf b f) l = true := by
 simp only [faultsOK, Bool.and_eq_true, decide_eq_true_eq] at h
 exact ⟨h.1.1, h.2⟩
theorem Zot {b : BoardD} : ∀ {l : List FaultD} {last : Int}, faultsOK b last l = true → ∀ f ∈ l, 0 ≤ f.2.1 ∧ f.2.1 < b.1 ∧ 0 ≤ f.2.2 ∧ f.2.2 < b.2.1
 | [], _, _, f, hf => by cases hf
 | g :: l, last, h, f, hf => by
  obtain ⟨h1, h2⟩ := Zff h
  rcases List.mem_cons.1 hf with rfl | hf
  ·exact ⟨h1.1, h1.2.1, h1.2.2.1, h1.2.2.2.1⟩
  ·exact Zot h2 f hf
theorem ZE0 {C r c r' c' : Int} (h1 : 0 ≤ c) (h2 : c < C) (h3 : 0 ≤ c') (h4 : c' < C) (h : r * C + c = r' * C + c') : r = r' ∧ c = c' := by
 have key : ∀ {x y : Int}, x < y → x * C + C ≤ y * C := by
  intro x y hxy
  have := Int.mul_le_mul_of_nonneg_right (show x + 1 ≤ y by omega) (show 0 ≤ C by omega)
  rw [Int.add_mul, Int.one_mul] at this
  exact this
 rcases Int.lt_trichotomy r r' with hr | hr | hr
 ·have := key hr; omega
 ·subst hr; omega
 ·have := key hr; omega
theorem ZyI {b : BoardD} {r c : Int} (d : Int) : ∀ {l : List FaultD} {last : Int}, faultsOK b last l = true → r * b.2.1 + c ≤ last → faAtD r c d l = d
 | [], _, _, _ => rfl
 | f :: l, last, h, hp => by
  obtain ⟨h1, h2⟩ := Zff h
  unfold placeOf at h1 h2
  simp only [faAtD]
  rw [if_neg (by rintro ⟨rfl, rfl⟩; omega)]
  exact ZyI d h2 (by omega)
theorem ZyA (b : BoardD) : ∀ (l : List FaultD) (K : List Int), (kindsOf b l K).length = K.length
 | [], _ => rfl
 | f :: l, K => by
  show (kindsOf b l (List.set K (placeOf b f).toNat f.1)).length = _
  rw [ZyA b l, List.length_set]
theorem ZGE {α : Type} (l : List α) (i j : Nat) (x d : α) (hi : i < l.length) : List.getD (List.set l i x) j d = if i = j then x else List.getD l j d := by
 simp only [List.getD, List.getElem?_set]
 by_cases h : i = j
 ·subst h; simp [hi]
 ·simp [h]
theorem Zrv {b : BoardD} (hb : boardOK b = true) {r c : Int} (h1 : 0 ≤ r) (h2 : r < b.1) (h3 : 0 ≤ c) (h4 : c < b.2.1) : ∀ {l : List FaultD} {last : Int} {K : List Int}, faultsOK b last l = true → K.length = b.2.2.length → List.getD (kindsOf b l K) (r * b.2.1 + c).toNat 0 = faAtD r c (List.getD K (r * b.2.1 + c).toNat 0) l
 | [], _, _, _, _ => rfl
 | f :: l, last, K, h, hK => by
  obtain ⟨g1, g2⟩ := Zff h
  have hp := Z48 hb h1 h2 h3 h4
  have hf := Z48 hb g1.1 g1.2.1 g1.2.2.1 g1.2.2.2.1
  show List.getD (kindsOf b l (List.set K (placeOf b f).toNat f.1)) _ 0 = _
  rw [Zrv hb h1 h2 h3 h4 g2 (by rw [List.length_set]; exact hK)]
  rw [ZGE _ _ _ _ _ (by unfold placeOf; omega)]
  simp only [faAtD]
  by_cases hm : f.2.1 = r ∧ f.2.2 = c
  ·rw [if_pos hm, if_pos (by unfold placeOf; rw [hm.1, hm.2])]
   exact ZyI _ g2 (by unfold placeOf; rw [hm.1, hm.2]; omega)
  ·rw [if_neg hm, if_neg (fun he => hm (ZE0 g1.2.2.1 g1.2.2.2.1 h3 h4 (by unfold placeOf at he; omega)))]
theorem ZgH (b : BoardD) (hb : boardOK b = true) : ∀ (r pre : List FaultD) (K : List Int), (∀ f ∈ r, 0 ≤ f.2.1 ∧ f.2.1 < b.1 ∧ 0 ≤ f.2.2 ∧ f.2.2 < b.2.1) → (pre ++ r).length ≤ 9223372036854775806 → K.length = b.2.2.length → Ev (fun k => Z3q k b.1 b.2.1 b.2.2 K (pre ++ r) ((pre ++ r).length : Int) (pre.length : Int)) (kindsOf b r K)
 | [], pre, K, hr, hl, hK => by
  refine Ev.succ ?_
  simp only [Z3q, ZR, decide_false, Bool.false_eq_true, if_false]
  exact Ev.some _
 | f :: r, pre, K, hr, hl, hK => by
  obtain ⟨k1, k2, k3, k4⟩ := hr f (List.mem_cons_self ..)
  have hp := Z48 hb k1 k2 k3 k4
  have hpK : f.2.1 * b.2.1 + f.2.2 < (K.length : Int) := by omega
  have ih := ZgH b hb r (pre ++ [f]) (List.set K (placeOf b f).toNat f.1) (fun g hg => hr g (List.mem_cons_of_mem _ hg)) (by simpa using hl) (by rw [List.length_set]; exact hK)
  refine Ev.succ ?_
  simp only [Z3q, Zy, Z16, decide_true, if_true, Int.toNat_natCast, Zk]
  rw [Zz pre f r (by omega), w64 (n := f.2.1 * b.2.1) (by omega) (by omega), w64 (n := f.2.1 * b.2.1 + f.2.2) (by omega) (by omega)]
  simp only [hp.1, hpK, if_true]
  rw [← Z7] at ih
  exact ih
def kindsB (b : BoardD) (l : List FaultD) : List Int := kindsOf b l (List.replicate b.2.2.length 0)
theorem ZHl (b : BoardD) (l : List FaultD) : (kindsB b l).length = b.2.2.length := by unfold kindsB; rw [ZyA]; simp
theorem ZuD (b : BoardD) (hb : boardOK b = true) (l : List FaultD) (hl : faultsOK b (-1) l = true) (hlen : l.length ≤ 9223372036854775806) : Ev (fun k => Z9P k b l) (kindsB b l) := by
 obtain ⟨g1, g2, g3, g4, g5, g6⟩ := Zt hb
 have hp := ZG g1 g2 g3 g4
 have hm : b.2.2.length * 8 ≤ 281474976710656 := by omega
 refine Ev.succ ?_
 simp only [Z9P, Int.toNat_natCast, hm, if_true]
 exact Ev.bind (ZgH b hb l [] _ (Zot hl) (by simpa using hlen) (by simp)) (Ev.some _)
theorem ZjK (r c : Int) : ∀ (l pre : List FaultD), (pre ++ l).length ≤ 9223372036854775806 → ∀ {z : LR Unit Int}, (z = LR.go () ∧ faAtD r c 0 l = 0 ∨ z = LR.ret (faAtD r c 0 l)) → (∀ f ∈ l, ¬ (f.2.1 = r ∧ f.2.2 = c)) ∧ z = LR.go () ∨ (∃ f ∈ l, f.2.1 = r ∧ f.2.2 = c) ∧ z = LR.ret (faAtD r c 0 l) → Ev (fun k => Z6n k r c (pre ++ l) ((pre ++ l).length : Int) (pre.length : Int)) z
 | [], pre, hl, z, _, hz => by
  refine Ev.succ ?_
  simp only [Z6n, ZR, decide_false, Bool.false_eq_true, if_false]
  rcases hz with ⟨_, rfl⟩ | ⟨⟨f, hf, _⟩, _⟩
  ·exact Ev.some _
  ·cases hf
 | f :: l, pre, hl, z, hz0, hz => by
  have hn := Zz pre f l (by omega)
  have hl' : ((pre ++ [f]) ++ l).length ≤ 9223372036854775806 := by simpa using hl
  refine Ev.succ ?_
  simp only [Z6n, Zy, Z16, decide_true, if_true, Int.toNat_natCast, Zk, hn]
  by_cases hm : f.2.1 = r ∧ f.2.2 = c
  ·simp only [hm.1, hm.2, decide_true, if_true]
   rcases hz with ⟨h, _⟩ | ⟨_, rfl⟩
   ·exact absurd hm (h f (List.mem_cons_self ..))
   ·simp only [faAtD, hm, and_self, if_true]; exact Ev.some _
  ·have hfa : faAtD r c 0 (f :: l) = faAtD r c 0 l := by simp only [faAtD]; rw [if_neg hm]
   have ih : Ev (fun k => Z6n k r c (pre ++ f :: l) ((pre ++ f :: l).length : Int) ((pre ++ [f]).length : Int)) z := by
    rw [Z7]
    refine ZjK r c l (pre ++ [f]) hl' (by rw [← hfa]; exact hz0) ?_
    rcases hz with ⟨h, h2⟩ | ⟨⟨g, hg, hgm⟩, h2⟩
    ·exact .inl ⟨fun g hg => h g (List.mem_cons_of_mem _ hg), h2⟩
    ·rcases List.mem_cons.1 hg with rfl | hg
     ·exact absurd hgm hm
     ·exact .inr ⟨⟨g, hg, hgm⟩, by rw [← hfa]; exact h2⟩
   refine Ev.ite (fun g1 => Ev.ite (fun g2 => ?_) (fun _ => ih)) (fun _ => ih)
   simp only [decide_eq_true_eq] at g1 g2
   exact absurd ⟨g1, g2⟩ hm
theorem ZCt {r c d : Int} : ∀ {l : List FaultD}, (∀ f ∈ l, ¬ (f.2.1 = r ∧ f.2.2 = c)) → faAtD r c d l = d
 | [], _ => rfl
 | f :: l, h => by
  simp only [faAtD]
  rw [if_neg (h f (List.mem_cons_self ..))]
  exact ZCt (fun g hg => h g (List.mem_cons_of_mem _ hg))
theorem ZGp (l : List FaultD) (r c : Int) (hl : l.length ≤ 9223372036854775806) : Ev (fun k => ZiQ k l r c) (faAtD r c 0 l) := by
 refine Ev.succ ?_
 simp only [ZiQ]
 by_cases h : ∃ f ∈ l, f.2.1 = r ∧ f.2.2 = c
 ·exact Ev.bind (ZjK r c l [] (by simpa using hl) (z := LR.ret (faAtD r c 0 l)) (.inr rfl) (.inr ⟨h, rfl⟩)) (Ev.ret (Ev.some _))
 ·have h' : ∀ f ∈ l, ¬ (f.2.1 = r ∧ f.2.2 = c) := fun f hf hm => h ⟨f, hf, hm⟩
  have h0 := ZCt (d := 0) h'
  refine Ev.bind (ZjK r c l [] (by simpa using hl) (z := LR.go ()) (.inl ⟨rfl, h0⟩) (.inl ⟨h', rfl⟩)) ?_
  rw [h0]
  exact Ev.go (Ev.some _)
def flip1 (x : CellD) : CellD := (x.1, 1 - x.2)
def turnGo (G K : List Int) (at' : Nat) (ka : Int) : Nat → List CellD → List CellD
 | _, [] => []
 | i, x :: r => (if (i = at' ∨ (ka = 6 ∧ x.1 = 6 ∧ List.getD G i 0 = List.getD G at' 0)) ∧ List.getD K i 0 ≠ 1 then flip1 x else x) :: turnGo G K at' ka (i + 1) r
def passGo (G : List Int) (ga : Int) : Nat → List CellD → List CellD
 | _, [] => []
 | i, x :: r => (if x.1 = 6 ∧ List.getD G i 0 = ga then flip1 x else x) :: passGo G ga (i + 1) r
theorem ZdE {x : CellD} (h : cellOK x = true) : 0 ≤ x.1 ∧ x.1 ≤ 7 ∧ (x.2 = 0 ∨ x.2 = 1) := by
 unfold cellOK at h
 simp only [decide_eq_true_eq] at h
 omega
theorem ZI0 {p r : List CellD} {x y d : CellD} (h : y.1 = x.1) (n : Nat) : (List.getD (p ++ y :: r) n d).1 = (List.getD (p ++ x :: r) n d).1 := by
 simp only [List.getD]
 rcases Nat.lt_trichotomy n p.length with hn | hn | hn
 ·rw [List.getElem?_append_left hn, List.getElem?_append_left hn]
 ·subst hn; simp [h]
 ·rw [List.getElem?_append_right (by omega), List.getElem?_append_right (by omega)]
  have : ∃ m, n - p.length = m + 1 := ⟨n - p.length - 1, by omega⟩
  obtain ⟨m, hm⟩ := this
  rw [hm]
  rfl
theorem ZhU (R C : Int) (G K : List Int) (at' : Nat) (ka : Int) : ∀ (r pre : List CellD), (pre ++ r).length ≤ 1000 → at' < (pre ++ r).length → G.length = (pre ++ r).length → K.length = (pre ++ r).length → (List.getD (pre ++ r) at' (0, 0)).1 = ka → (∀ x ∈ r, cellOK x = true) →
    Ev (fun k => Zx k (pre ++ r) R C G K (at' : Int) ((pre ++ r).length : Int) (pre.length : Int)) (pre ++ turnGo G K at' ka pre.length r)
  | [], pre, hl, ha, hG, hK, hka, hx => by
    refine Ev.succ ?_
    simp only [Zx, ZR, decide_false, Bool.false_eq_true, if_false, turnGo]
    exact Ev.some _
  | x :: r, pre, hl, ha, hG, hK, hka, hx => by
    have hn := Zz pre x r (by omega)
    have hlt := Zy pre x r
    have hGl : (pre.length : Int) < (G.length : Int) := by rw [hG]; exact hlt
    have hKl : (pre.length : Int) < (K.length : Int) := by rw [hK]; exact hlt
    have ha0 : (0 : Int) ≤ (at' : Int) := Int.natCast_nonneg _
    have ha1 : (at' : Int) < ((pre ++ x :: r).length : Int) := by omega
    have haG : (at' : Int) < (G.length : Int) := by rw [hG]; exact ha1
    obtain ⟨c1, c2, c3⟩ := ZdE (hx x (List.mem_cons_self ..))
    have hr' : ∀ y ∈ r, cellOK y = true := fun y hy => hx y (List.mem_cons_of_mem _ hy)
    have next : ∀ y : CellD, y.1 = x.1 → Ev (fun k => Zx k (pre ++ y :: r) R C G K (at' : Int) ((pre ++ x :: r).length : Int) ((pre ++ [x]).length : Int)) (pre ++ y :: turnGo G K at' ka (pre.length + 1) r) := by
      intro y hy
      have ih := ZhU R C G K at' ka r (pre ++ [y]) (by simpa using hl) (by simpa using ha) (by simpa using hG) (by simpa using hK) (by rw [← Z7, ZI0 hy]; exact hka) hr'
      have e1 : ((pre ++ [y] ++ r).length : Int) = ((pre ++ x :: r).length : Int) := by simp
      have e2 : ((pre ++ [y]).length : Int) = ((pre ++ [x]).length : Int) := by simp
      have e3 : (pre ++ [y]).length = pre.length + 1 := by simp
      rw [e1, e2, e3, ← Z7, ← Z7] at ih
      exact ih
    refine Ev.succ ?_
    simp only [Zx, Zy, Z16, decide_true, if_true, Int.toNat_natCast, Zk, Zqk, hn, hGl, hKl, ha0, ha1, haG, hka]
    rw [w64 (n := 1 - x.2) (by omega) (by omega)]
    simp only [turnGo]
    by_cases hia : pre.length = at'
    · have hia' : (pre.length : Int) = (at' : Int) := by omega
      simp only [hia', decide_true, if_true]
      rw [← hia]
      refine Ev.ite (fun h => ?_) (fun h => ?_)
      · simp only [ne_eq, decide_eq_true_eq] at h
        rw [if_pos ⟨.inl rfl, h⟩]
        have := next (flip1 x) rfl
        rw [← hia] at this
        exact this
      · simp only [ne_eq, decide_eq_true_eq, Decidable.not_not] at h
        rw [if_neg (fun hc => hc.2 h)]
        have := next x rfl
        rw [← hia] at this
        exact this
    · have hia' : ¬ (pre.length : Int) = (at' : Int) := by omega
      simp only [hia', decide_false, Bool.false_eq_true, if_false]
      have no : ¬ (ka = 6 ∧ x.1 = 6 ∧ List.getD G pre.length 0 = List.getD G at' 0) → Ev (fun k => Zx k (pre ++ x :: r) R C G K (at' : Int) ((pre ++ x :: r).length : Int) ((pre ++ [x]).length : Int)) (pre ++ (if (pre.length = at' ∨ (ka = 6 ∧ x.1 = 6 ∧ List.getD G pre.length 0 = List.getD G at' 0)) ∧ List.getD K pre.length 0 ≠ 1 then flip1 x else x) :: turnGo G K at' ka (pre.length + 1) r) := by
        intro hno
        rw [if_neg (fun hc => hc.1.elim hia hno)]
        exact next x rfl
      refine Ev.ite (fun h1 => ?_) (fun h1 => no (fun hc => h1 (decide_eq_true hc.1)))
      refine Ev.ite (fun h2 => ?_) (fun h2 => no (fun hc => h2 (decide_eq_true hc.2.1)))
      refine Ev.ite (fun h3 => ?_) (fun h3 => no (fun hc => h3 (decide_eq_true hc.2.2)))
      simp only [decide_eq_true_eq] at h1 h2 h3
      refine Ev.ite (fun h => ?_) (fun h => ?_)
      · simp only [ne_eq, decide_eq_true_eq] at h
        rw [if_pos ⟨.inr ⟨h1, h2, h3⟩, h⟩]
        exact next (flip1 x) rfl
      · simp only [ne_eq, decide_eq_true_eq, Decidable.not_not] at h
        rw [if_neg (fun hc => hc.2 h)]
        exact next x rfl
def turnAt (G K : List Int) (at' : Nat) (o : List CellD) : List CellD := turnGo G K at' (List.getD o at' (0, 0)).1 0 o
theorem Zyc (R C : Int) (o : List CellD) (G K : List Int) (at' : Nat) (hl : o.length ≤ 1000) (ha : at' < o.length) (hG : G.length = o.length) (hK : K.length = o.length) (hx : ∀ x ∈ o, cellOK x = true) : Ev (fun k => Z6d k (R, C, o) G K (at' : Int)) (turnAt G K at' o) := by
 refine Ev.succ ?_
 simp only [Z6d]
 exact Ev.bind (ZhU R C G K at' _ o [] hl ha hG hK rfl hx) (Ev.some _)
theorem Zfs (x : CellD) (h : cellOK x = true) : Ev (fun k => Z86 k x) (flip1 x) := by
 obtain ⟨c1, c2, c3⟩ := ZdE h
 refine Ev.succ ?_
 simp only [Z86]
 rw [w64 (n := 1 - x.2) (by omega) (by omega)]
 exact Ev.some _
theorem Zok (R C : Int) (G : List Int) (at' : Nat) : ∀ (r pre : List CellD), (pre ++ r).length ≤ 1000 → at' < (pre ++ r).length → G.length = (pre ++ r).length → (∀ x ∈ r, cellOK x = true) →
    Ev (fun k => Z3l k (pre ++ r) R C G (at' : Int) ((pre ++ r).length : Int) (pre.length : Int)) (pre ++ passGo G (List.getD G at' 0) pre.length r)
  | [], pre, hl, ha, hG, hx => by
    refine Ev.succ ?_
    simp only [Z3l, ZR, decide_false, Bool.false_eq_true, if_false, passGo]
    exact Ev.some _
  | x :: r, pre, hl, ha, hG, hx => by
    have hn := Zz pre x r (by omega)
    have hlt := Zy pre x r
    have hGl : (pre.length : Int) < (G.length : Int) := by rw [hG]; exact hlt
    have ha0 : (0 : Int) ≤ (at' : Int) := Int.natCast_nonneg _
    have ha1 : (at' : Int) < ((pre ++ x :: r).length : Int) := by omega
    have haG : (at' : Int) < (G.length : Int) := by rw [hG]; exact ha1
    have hr' : ∀ y ∈ r, cellOK y = true := fun y hy => hx y (List.mem_cons_of_mem _ hy)
    have next : ∀ y : CellD, Ev (fun k => Z3l k (pre ++ y :: r) R C G (at' : Int) ((pre ++ x :: r).length : Int) ((pre ++ [x]).length : Int)) (pre ++ y :: passGo G (List.getD G at' 0) (pre.length + 1) r) := by
      intro y
      have ih := Zok R C G at' r (pre ++ [y]) (by simpa using hl) (by simpa using ha) (by simpa using hG) hr'
      have e1 : ((pre ++ [y] ++ r).length : Int) = ((pre ++ x :: r).length : Int) := by simp
      have e2 : ((pre ++ [y]).length : Int) = ((pre ++ [x]).length : Int) := by simp
      have e3 : (pre ++ [y]).length = pre.length + 1 := by simp
      rw [e1, e2, e3, ← Z7, ← Z7] at ih
      exact ih
    refine Ev.succ ?_
    simp only [Z3l, Zy, Z16, decide_true, if_true, Int.toNat_natCast, Zk, Zqk, hn, hGl, ha0, haG]
    simp only [passGo]
    refine Ev.ite (fun h1 => Ev.ite (fun h2 => ?_) (fun h2 => ?_)) (fun h1 => ?_)
    · simp only [decide_eq_true_eq] at h1 h2
      rw [if_pos ⟨h1, h2⟩]
      exact Ev.bind (Zfs x (hx x (List.mem_cons_self ..))) (next (flip1 x))
    · simp only [decide_eq_true_eq] at h2
      rw [if_neg (fun hc => h2 hc.2)]
      exact next x
    · simp only [decide_eq_true_eq] at h1
      rw [if_neg (fun hc => h1 hc.1)]
      exact next x
def passAt (G : List Int) (at' : Nat) (o : List CellD) : List CellD := if (List.getD o at' (0, 0)).1 = 3 then List.set o at' (flip1 (List.getD o at' (0, 0))) else if (List.getD o at' (0, 0)).1 = 6 then passGo G (List.getD G at' 0) 0 o else o
theorem ZtH (R C : Int) (o : List CellD) (G : List Int) (at' : Nat) (hl : o.length ≤ 1000) (ha : at' < o.length) (hG : G.length = o.length) (hx : ∀ x ∈ o, cellOK x = true) : Ev (fun k => Zad k (R, C, o) G (at' : Int)) (passAt G at' o) := by
 have ha0 : (0 : Int) ≤ (at' : Int) := Int.natCast_nonneg _
 have ha1 : (at' : Int) < (o.length : Int) := by omega
 refine Ev.succ ?_
 simp only [Zad, ha0, ha1, if_true, Int.toNat_natCast]
 unfold passAt
 refine Ev.ite (fun h1 => ?_) (fun h1 => Ev.ite (fun h2 => ?_) (fun h2 => ?_))
 ·simp only [decide_eq_true_eq] at h1
  rw [if_pos h1]
  exact Ev.bind (Zfs _ (hx _ (Zlg ha0 ha1 _))) (Ev.some _)
 ·simp only [decide_eq_true_eq] at h1 h2
  rw [if_neg h1, if_pos h2]
  exact Ev.bind (Zok R C G at' o [] hl ha hG hx) (Ev.some _)
 ·simp only [decide_eq_true_eq] at h1 h2
  rw [if_neg h1, if_neg h2]
  exact Ev.some _
theorem ZsG (G K : List Int) (at' : Nat) (ka : Int) : ∀ (l : List CellD) (i : Nat), (turnGo G K at' ka i l).length = l.length
 | [], _ => rfl
 | x :: r, i => by simp [turnGo, ZsG G K at' ka r]
theorem ZCq (G : List Int) (ga : Int) : ∀ (l : List CellD) (i : Nat), (passGo G ga i l).length = l.length
 | [], _ => rfl
 | x :: r, i => by simp [passGo, ZCq G ga r]
theorem ZdX (G K : List Int) (at' : Nat) (ka : Int) : ∀ (l : List CellD) (j i : Nat), (turnGo G K at' ka j l)[i]? = l[i]?.map fun x => if (j + i = at' ∨ (ka = 6 ∧ x.1 = 6 ∧ List.getD G (j + i) 0 = List.getD G at' 0)) ∧ List.getD K (j + i) 0 ≠ 1 then flip1 x else x
 | [], _, i => by simp [turnGo]
 | x :: r, j, 0 => by simp [turnGo]
 | x :: r, j, i + 1 => by
  simp only [turnGo, List.getElem?_cons_succ]
  rw [ZdX G K at' ka r (j + 1) i, show j + 1 + i = j + (i + 1) by omega]
theorem ZDX (G : List Int) (ga : Int) : ∀ (l : List CellD) (j i : Nat), (passGo G ga j l)[i]? = l[i]?.map fun x => if x.1 = 6 ∧ List.getD G (j + i) 0 = ga then flip1 x else x
 | [], _, i => by simp [passGo]
 | x :: r, j, 0 => by simp [passGo]
 | x :: r, j, i + 1 => by
  simp only [passGo, List.getElem?_cons_succ]
  rw [ZDX G ga r (j + 1) i, show j + 1 + i = j + (i + 1) by omega]
def restore (b : BoardD) (l : List FaultD) (o : List CellD) : List CellD := l.foldl (fun o f => if f.1 = 1 then List.set o (placeOf b f).toNat (List.getD b.2.2 (placeOf b f).toNat (0, 0)) else o) o
theorem Zpy (b : BoardD) : ∀ (l : List FaultD) (o : List CellD), (restore b l o).length = o.length
 | [], _ => rfl
 | f :: l, o => by
  show (restore b l (if f.1 = 1 then _ else _)).length = _
  rw [Zpy b l]
  split <;> simp
theorem Zsm (b : BoardD) : ∀ (l : List FaultD) (o : List CellD) (i : Nat), i < o.length → (restore b l o)[i]? = if ∃ f ∈ l, f.1 = 1 ∧ (placeOf b f).toNat = i then some (List.getD b.2.2 i (0, 0)) else o[i]?
  | [], o, i, hi => by rw [if_neg (by rintro ⟨f, hf, _⟩; cases hf)]; rfl
  | f :: l, o, i, hi => by
    show (restore b l (if f.1 = 1 then _ else _))[i]? = _
    by_cases hf : f.1 = 1
    · rw [if_pos hf, Zsm b l _ i (by rw [List.length_set]; exact hi)]
      by_cases h : ∃ g ∈ l, g.1 = 1 ∧ (placeOf b g).toNat = i
      · rw [if_pos h]
        obtain ⟨g, hg, h2⟩ := h
        rw [if_pos ⟨g, List.mem_cons_of_mem _ hg, h2⟩]
      · rw [if_neg h]
        by_cases hp : (placeOf b f).toNat = i
        · rw [if_pos ⟨f, List.mem_cons_self .., hf, hp⟩, hp, List.getElem?_set_self hi]
        · rw [List.getElem?_set_ne hp, if_neg (by
            rintro ⟨g, hg, h2, h3⟩
            rcases List.mem_cons.1 hg with rfl | hg
            · exact hp h3
            · exact h ⟨g, hg, h2, h3⟩)]
    · rw [if_neg hf, Zsm b l o i hi]
      by_cases h : ∃ g ∈ l, g.1 = 1 ∧ (placeOf b g).toNat = i
      · rw [if_pos h]
        obtain ⟨g, hg, h2⟩ := h
        rw [if_pos ⟨g, List.mem_cons_of_mem _ hg, h2⟩]
      · rw [if_neg h, if_neg (by
            rintro ⟨g, hg, h2, h3⟩
            rcases List.mem_cons.1 hg with rfl | hg
            · exact hf h2
            · exact h ⟨g, hg, h2, h3⟩)]
theorem ZDS {r c : Int} : ∀ {l : List FaultD} {f : FaultD}, f ∈ l → f.2.1 = r → f.2.2 = c → ∀ {b : BoardD} {last : Int}, faultsOK b last l = true → faAtD r c 0 l = f.1
 | g :: l, f, hf, h1, h2, b, last, hok => by
  obtain ⟨k1, k2⟩ := Zff hok
  simp only [faAtD]
  rcases List.mem_cons.1 hf with rfl | hf
  ·rw [if_pos ⟨h1, h2⟩]
  ·have hno : ¬ (g.2.1 = r ∧ g.2.2 = c) := by
    rintro ⟨e1, e2⟩
    have key : ∀ {l : List FaultD} {last : Int}, faultsOK b last l = true → ∀ f ∈ l, last < placeOf b f := by
     intro l
     induction l with
     | nil => intro last _ f hf; cases hf
     | cons g l ih =>
      intro last h f hf
      obtain ⟨a1, a2⟩ := Zff h
      rcases List.mem_cons.1 hf with rfl | hf
      ·exact a1.2.2.2.2
      ·have := ih a2 f hf; omega
    have := key k2 f hf
    unfold placeOf at this
    rw [h1, h2, e1, e2] at this
    omega
   rw [if_neg hno]
   exact ZDS hf h1 h2 k2
theorem ZDZ {r c : Int} : ∀ {l : List FaultD}, faAtD r c 0 l = 1 → ∃ f ∈ l, f.1 = 1 ∧ f.2.1 = r ∧ f.2.2 = c
 | [], h => by simp [faAtD] at h
 | f :: l, h => by
  simp only [faAtD] at h
  split at h
  ·rename_i hm
   exact ⟨f, List.mem_cons_self .., h, hm.1, hm.2⟩
  ·obtain ⟨g, hg, h2⟩ := ZDZ h
   exact ⟨g, List.mem_cons_of_mem _ hg, h2⟩
theorem ZHK {b : BoardD} (hb : boardOK b = true) {l : List FaultD} (hl : faultsOK b (-1) l = true) {i : Nat} (hi : i < b.2.2.length) : List.getD (kindsB b l) i 0 = 1 ↔ ∃ f ∈ l, f.1 = 1 ∧ (placeOf b f).toNat = i := by
 obtain ⟨q, m, t, hq, hm, k1, k2, k3, k4, k5, k6, k7, k8, k9⟩ := ZiZ hb (i := (i : Int)) (by omega) (by omega)
 have hC : 0 < b.2.1 := by omega
 have e0 : Int.tdiv (i : Int) b.2.1 = (i : Int) / b.2.1 := Int.tdiv_eq_ediv_of_nonneg (by omega)
 have e1 : Int.tmod (i : Int) b.2.1 = (i : Int) % b.2.1 := Int.tmod_eq_emod_of_nonneg (by omega)
 have e2 := Int.mul_ediv_add_emod (i : Int) b.2.1
 rw [← e0, ← e1, hq, hm] at e2
 have hi2 : (i : Int) = q * b.2.1 + m := by rw [Int.mul_comm]; omega
 have hi3 : i = (q * b.2.1 + m).toNat := by omega
 have hk : List.getD (kindsB b l) i 0 = faAtD q m 0 l := by
  unfold kindsB
  rw [hi3, Zrv hb k4 k5 k2 k3 hl (by simp)]
  congr 1
  simp only [List.getD, List.getElem?_replicate]
  split <;> rfl
 rw [hk]
 constructor
 ·intro h
  obtain ⟨f, hf, h1, h2, h3⟩ := ZDZ h
  exact ⟨f, hf, h1, by unfold placeOf; rw [h2, h3]; exact hi3.symm⟩
 ·rintro ⟨f, hf, h1, h2⟩
  obtain ⟨o1, o2, o3, o4⟩ := Zot hl f hf
  have hp := Z48 hb o1 o2 o3 o4
  have := ZE0 o3 o4 k2 k3 (show f.2.1 * b.2.1 + f.2.2 = q * b.2.1 + m by unfold placeOf at h2; omega)
  rw [ZDS hf this.1 this.2 hl, h1]
def stepAt (G K : List Int) (at' : Nat) (o : List CellD) : List CellD := if turning (List.getD o at' (0, 0)) then turnAt G K at' o else o
theorem Zvt {b : BoardD} (hb : boardOK b = true) {l : List FaultD} (hl : faultsOK b (-1) l = true) (G : List Int) {at' : Nat} {o : List CellD} (ho : o.length = b.2.2.length) (ha : at' < o.length) (hs : ∀ i, i < o.length → List.getD (kindsB b l) i 0 = 1 → o[i]? = some (List.getD b.2.2 i (0, 0))) :
    restore b l (passAt G at' o) = stepAt G (kindsB b l) at' o := by
  have hpl : (passAt G at' o).length = o.length := by
    unfold passAt; split
    · simp
    · split
      · exact ZCq _ _ _ _
      · rfl
  apply List.ext_getElem?
  intro i
  rcases Nat.lt_or_ge i o.length with hi | hi
  · rw [Zsm b l _ i (by rw [hpl]; exact hi)]
    have hst := ZHK hb hl (i := i) (by omega)
    have hox : o[i]? = some o[i] := List.getElem?_eq_getElem hi
    have hax : List.getD o at' (0, 0) = o[at'] := by simp [List.getD, List.getElem?_eq_getElem ha]
    by_cases hk : List.getD (kindsB b l) i 0 = 1
    · rw [if_pos (hst.1 hk), ← hs i hi hk]
      unfold stepAt turnAt
      split
      · rw [ZdX, hox, Option.map_some, if_neg (fun hc => hc.2 (by rw [Nat.zero_add]; exact hk))]
      · rfl
    · rw [if_neg (fun h => hk (hst.2 h))]
      unfold stepAt turnAt passAt turning
      rw [hax]
      by_cases h3 : (o[at']).1 = 3
      · simp only [h3, true_or, decide_true, if_true]
        rw [ZdX, hox, Option.map_some, Nat.zero_add]
        by_cases hia : at' = i
        · subst hia
          rw [List.getElem?_set_self hi, if_pos ⟨.inl rfl, hk⟩]
        · have hno : ¬ ((i = at' ∨ ((3 : Int) = 6 ∧ (o[i]).1 = 6 ∧ List.getD G i 0 = List.getD G at' 0)) ∧ List.getD (kindsB b l) i 0 ≠ 1) := by
            rintro ⟨h | ⟨h, _⟩, _⟩
            · exact hia h.symm
            · omega
          rw [List.getElem?_set_ne hia, hox, if_neg hno]
      · by_cases h6 : (o[at']).1 = 6
        · have h36 : ¬ (6 : Int) = 3 := by omega
          simp only [h6, h36, or_true, decide_true, if_true, if_false]
          rw [ZdX, ZDX, hox, Option.map_some, Option.map_some, Nat.zero_add]
          congr 1
          by_cases hc : (o[i]).1 = 6 ∧ List.getD G i 0 = List.getD G at' 0
          · rw [if_pos hc, if_pos ⟨.inr ⟨rfl, hc⟩, hk⟩]
          · rw [if_neg hc, if_neg (by
              rintro ⟨h | ⟨_, h⟩, _⟩
              · subst h; exact hc ⟨h6, rfl⟩
              · exact hc h)]
        · simp only [h3, h6, or_self, decide_false, Bool.false_eq_true, if_false]
  · rw [List.getElem?_eq_none (by rw [Zpy, hpl]; exact hi), List.getElem?_eq_none ?_]
    unfold stepAt turnAt
    split
    · rw [ZsG]; exact hi
    · exact hi
end Go.Proofs.YtglkedenkcpcbaaGreatDoor.Vs

set_option linter.unusedVariables false
set_option linter.unusedSimpArgs false
namespace Go.Proofs.YtglkedenkcpcbaaGreatDoor.Vs
open Go.RowKit
theorem two64 : (2 : Int) ^ 64 = 18446744073709551616 := by decide
theorem and1 (x : Int) : bits BinOp.and IntKind.i64 x 1 = 0 ∨ bits BinOp.and IntKind.i64 x 1 = 1 := by
 unfold bits
 simp only
 have h : ((BitVec.ofInt IntKind.i64.bits x &&& BitVec.ofInt IntKind.i64.bits 1).toNat) ≤ 1 := by
  rw [BitVec.toNat_and]
  exact Nat.and_le_right
 generalize (BitVec.ofInt IntKind.i64.bits x &&& BitVec.ofInt IntKind.i64.bits 1).toNat = m at h
 have : m = 0 ∨ m = 1 := by omega
 rcases this with rfl | rfl
 ·left; decide
 ·right; decide
theorem ZIe (s v : Int) (h0 : 0 ≤ v) (h1 : v ≤ 100) : EvP (fun k => Zhb k s v) (fun b => b = 0 ∨ b = 1) := by
 refine EvP.succ ?_
 have hw : IntKind.wrap IntKind.u64 v = v := Zp1 v h0 (by rw [two64]; omega)
 have hn : ¬ v < 0 := by omega
 simp only [Zhb, hw, hn, if_false]
 exact EvP.some (and1 _)
theorem Zyw (n : Nat) (hn : n ≤ 4) (set d1 d2 e1 e2 : Int) (o2 : List CellD) : ∀ (d i : Nat) (o : List CellD), i + d = n → o.length = 6 * n → (∀ x ∈ o, cellOK x = true) →
    EvP (fun k => Z6G k d1 d2 o2 e1 e2 o (n : Int) set (i : Int)) (fun r => r.2.2.2.1 = e1 ∧ r.2.2.2.2.1 = e2 ∧ r.2.2.2.2.2.length = 6 * n ∧ ∀ x ∈ r.2.2.2.2.2, cellOK x = true)
  | 0, i, o, h, ho, hx => by
    refine EvP.succ ?_
    have hlt : ¬ (i : Int) < (n : Int) := by omega
    simp only [Z6G, hlt, decide_false, Bool.false_eq_true, if_false]
    exact EvP.some ⟨rfl, rfl, ho, hx⟩
  | d + 1, i, o, h, ho, hx => by
    refine EvP.succ ?_
    have hlt : (i : Int) < (n : Int) := by omega
    have w1 : wrap64 (wrap64 (6 * (i : Int)) + 1) = ((6 * i + 1 : Nat) : Int) := by rw [w64 (n := 6 * (i : Int)) (by omega) (by omega), w64 (by omega) (by omega)]; omega
    have w2 : wrap64 (wrap64 (6 * (i : Int)) + 5) = ((6 * i + 5 : Nat) : Int) := by rw [w64 (n := 6 * (i : Int)) (by omega) (by omega), w64 (by omega) (by omega)]; omega
    have w3 : wrap64 ((i : Int) + 1) = ((i + 1 : Nat) : Int) := by rw [w64 (by omega) (by omega)]; omega
    simp only [Z6G, hlt, decide_true, if_true, w1, w2, w3, Int.toNat_natCast]
    refine EvP.bind (ZIe set (i : Int) (by omega) (by omega)) (fun z hz => ?_)
    refine EvP.guard (by omega) (EvP.guard (by omega) (EvP.guard (by omega) (EvP.guard (by rw [List.length_set]; omega) ?_)))
    refine Zyw n hn set d1 d2 e1 e2 o2 d (i + 1) _ (by omega) (by rw [List.length_set, List.length_set]; exact ho) (fun x hx' => ?_)
    rcases List.mem_or_eq_of_mem_set hx' with h1 | rfl
    · rcases List.mem_or_eq_of_mem_set h1 with h2 | rfl
      · exact hx x h2
      · rcases hz with rfl | rfl <;> decide
    · decide
theorem ZHw (n set : Int) (h1 : 1 ≤ n) (h4 : n ≤ 4) : EvP (fun k => Zew k n set) (fun b => b.1 = 2 * n ∧ b.2.1 = 3 ∧ (b.2.2.length : Int) = 6 * n ∧ ∀ x ∈ b.2.2, cellOK x = true) := by
 refine EvP.succ ?_
 have w1 : wrap64 (6 * n) = 6 * n := w64 (by omega) (by omega)
 have w2 : wrap64 (2 * n) = 2 * n := w64 (by omega) (by omega)
 obtain ⟨m, rfl⟩ : ∃ m : Nat, n = (m : Int) := ⟨n.toNat, by omega⟩
 simp only [Zew, w1, w2]
 refine EvP.guard (by omega) (EvP.guard (by omega) ?_)
 refine EvP.bind (Zyw m (by omega) set 0 0 (2 * (m : Int)) 3 [] m 0 (List.replicate (6 * (m : Int)).toNat (0, 0)) (by omega) (by rw [List.length_replicate]; omega) (fun x hx => by rw [(List.mem_replicate.1 hx).2]; decide)) (fun r hr => ?_)
 exact EvP.some ⟨hr.1, hr.2.1, by have := hr.2.2.1; dsimp only; omega, hr.2.2.2⟩
theorem ZHn (x : CellD) (h : cellOK x = true) : EvP (fun k => Zdx k x) (fun _ => True) := by
 refine EvP.succ ?_
 simp only [Zdx]
 refine EvP.ite (fun _ => EvP.some trivial) (fun _ => EvP.ite (fun _ => EvP.some trivial) (fun _ => EvP.ite (fun _ => ?_) (fun _ => EvP.ite (fun _ => ?_) (fun _ => EvP.some trivial))))
 ·exact EvP.bind (EvP.ev (Q := fun _ => True) (Zfs x h) trivial) (fun _ _ => EvP.some trivial)
 ·exact EvP.bind (EvP.ev (Q := fun _ => True) (Zfs x h) trivial) (fun _ _ => EvP.some trivial)
theorem ZIA (b : BoardD) (m c r q : Nat) (h1 : b.2.1 = (c : Int)) (h2 : b.2.2.length = m * c) (hr : r < m) (hq : q < c) (hs : m * c ≤ 1000) (hx : ∀ x ∈ b.2.2, cellOK x = true) : EvP (fun k => Z4E k b (r : Int) (q : Int)) (fun x => cellOK x = true) := by
 refine EvP.succ ?_
 have hlt : r * c + q < m * c := by
  have : (r + 1) * c ≤ m * c := Nat.mul_le_mul_right _ hr
  rw [Nat.add_mul, Nat.one_mul] at this
  omega
 have e1 : (r : Int) * (c : Int) = ((r * c : Nat) : Int) := (Int.natCast_mul r c).symm
 have w : wrap64 (wrap64 ((r : Int) * (c : Int)) + (q : Int)) = ((r * c + q : Nat) : Int) := by
  rw [e1, w64 (n := ((r * c : Nat) : Int)) (by omega) (by omega), w64 (by omega) (by omega)]; omega
 simp only [Z4E, h1, w, Int.toNat_natCast]
 refine EvP.guard (by omega) (EvP.guard (by rw [h2]; omega) (EvP.some ?_))
 have hl : r * c + q < b.2.2.length := by rw [h2]; exact hlt
 rw [List.getD, List.getElem?_eq_getElem hl]
 exact hx _ (List.getElem_mem hl)
theorem ZvT (b : BoardD) (m c : Nat) (h1 : b.2.1 = (c : Int)) (h2 : b.2.2.length = m * c) (hs : m * c ≤ 1000) (hx : ∀ x ∈ b.2.2, cellOK x = true) (r : Nat) (hr : r < m) (d1 d2 e1 e2 : Int) (o3 : List CellD) : ∀ (q : Nat) (o : List CellD), q ≤ c → o.length + q ≤ 1000 →
    EvP (fun k => Z6c k b.1 b.2.1 b.2.2 d1 d2 o3 e1 e2 o (r : Int) ((q : Int) - 1)) (fun z => ∃ l, z = (b.1, b.2.1, b.2.2, d1, d2, o3, e1, e2, l, (r : Int)) ∧ l.length = o.length + q)
  | 0, o, hq, hl => by
    refine EvP.succ ?_
    have hlt : ¬ ((0 : Nat) : Int) - 1 ≥ 0 := by omega
    simp only [Z6c, hlt, decide_false, Bool.false_eq_true, if_false]
    exact EvP.some ⟨o, rfl, rfl⟩
  | q + 1, o, hq, hl => by
    refine EvP.succ ?_
    have e0 : (((q + 1 : Nat) : Int) - 1) = (q : Int) := by omega
    have hge : (q : Int) ≥ 0 := by omega
    have w : wrap64 ((q : Int) - 1) = (q : Int) - 1 := by
      have : c ≤ 1000 := by
        have : 1 * c ≤ m * c := Nat.mul_le_mul_right _ (by omega)
        omega
      exact w64 (by omega) (by omega)
    simp only [Z6c, e0, hge, decide_true, if_true, w]
    refine EvP.bind (ZIA b m c r q h1 h2 hr (by omega) hs hx) (fun z hz => ?_)
    refine EvP.bind (ZHn _ hz) (fun y _ => ?_)
    refine EvP.guard (by simp only [List.length_cons, List.length_nil]; omega) ?_
    refine (ZvT b m c h1 h2 hs hx r hr d1 d2 e1 e2 o3 q _ (by omega) (by simp; omega)).mono (fun z ⟨l, hz1, hz2⟩ => ⟨l, hz1, ?_⟩)
    rw [hz2]
    simp
    omega
theorem ZvM (b : BoardD) (m c : Nat) (h0 : b.1 = (m : Int)) (h1 : b.2.1 = (c : Int)) (h2 : b.2.2.length = m * c) (hs : m * c ≤ 1000) (hm : m ≤ 1000) (hc : c ≤ 1000) (hx : ∀ x ∈ b.2.2, cellOK x = true) (d1 d2 e1 e2 : Int) (o3 : List CellD) : ∀ (d r : Nat) (o : List CellD), r + d = m → o.length + d * c ≤ 1000 →
    EvP (fun k => Z68 k b.1 b.2.1 b.2.2 d1 d2 o3 e1 e2 o (r : Int)) (fun z => ∃ l, z = (d1, d2, o3, e1, e2, l) ∧ l.length = o.length + d * c)
  | 0, r, o, h, hl => by
    refine EvP.succ ?_
    have hlt : ¬ (r : Int) < b.1 := by omega
    simp only [Z68, hlt, decide_false, Bool.false_eq_true, if_false]
    exact EvP.some ⟨o, rfl, by simp⟩
  | d + 1, r, o, h, hl => by
    refine EvP.succ ?_
    have hlt : (r : Int) < b.1 := by omega
    have e0 : (d + 1) * c = d * c + c := by rw [Nat.add_mul, Nat.one_mul]
    have w : wrap64 (b.2.1 - 1) = (c : Int) - 1 := by rw [h1]; exact w64 (by omega) (by omega)
    have w2 : wrap64 ((r : Int) + 1) = ((r + 1 : Nat) : Int) := by rw [w64 (by omega) (by omega)]; omega
    simp only [Z68, hlt, decide_true, if_true, w]
    refine EvP.bind (ZvT b m c h1 h2 hs hx r (by omega) d1 d2 e1 e2 o3 c o (Nat.le_refl _) (by omega)) (fun z ⟨l, hz, hl2⟩ => ?_)
    subst hz
    dsimp only
    rw [w2]
    refine (ZvM b m c h0 h1 h2 hs hm hc hx d1 d2 e1 e2 o3 d (r + 1) l (by omega) (by omega)).mono (fun z ⟨l2, hz1, hz2⟩ => ⟨l2, hz1, by omega⟩)
theorem ZHe (b : BoardD) (m c : Nat) (h0 : b.1 = (m : Int)) (h1 : b.2.1 = (c : Int)) (h2 : b.2.2.length = m * c) (hs : m * c ≤ 1000) (hm : m ≤ 1000) (hc : c ≤ 1000) (hx : ∀ x ∈ b.2.2, cellOK x = true) : EvP (fun k => Zdj k b) (fun z => z.2.2.length = m * c) := by
 refine EvP.succ ?_
 simp only [Zdj]
 refine EvP.bind (ZvM b m c h0 h1 h2 hs hm hc hx 0 0 b.1 b.2.1 [] m 0 [] (by omega) (by simpa using hs)) (fun z ⟨l, hz, hl⟩ => ?_)
 subst hz
 exact EvP.some (by simpa using hl)
section
variable {code : List Int} {at' seed : Int}
theorem ZHF (h : Cur code at' 2000) : EvP (fun k => Z8s k (code, at', seed)) (fun r => at' ≤ r.2.1 ∧ r.2.1 ≤ at' + 2000 ∧ r.1.2.2.length ≤ 91) := by
 refine EvP.succ ?_
 simp only [Z8s]
 refine EvP.bind (Z7F 4 (h.to (by omega) (by omega)) (by omega)) (fun z0 h0 => ?_)
 have w0 : wrap64 (1 + z0.1) = 1 + z0.1 := w64 (by omega) (by omega)
 have w1 : IntKind.wrap IntKind.u64 (1 + z0.1) = 1 + z0.1 := Zp1 _ (by omega) (by rw [two64]; omega)
 have hn : ¬ (1 + z0.1 < 0) := by omega
 simp only [w0, w1, hn, if_false]
 refine EvP.bind (ZIn _ (h.to (by omega) (by omega))) (fun z1 h1 => ?_)
 refine EvP.bind (ZHw _ _ (by omega) (by omega)) (fun z2 h2 => ?_)
 refine EvP.bind (Z7F 6 (h.to (by omega) (by omega)) (by omega)) (fun z3 h3 => ?_)
 refine EvP.ite (fun _ => ?_) (fun _ => EvP.ite (fun _ => ?_) (fun _ => EvP.ite (fun _ => ?_) (fun _ => EvP.ite (fun _ => ?_) (fun _ => ?_))))
 ·refine EvP.bind (ZBk (h.to (by omega) (by omega))) (fun z4 h4 => ?_)
  exact EvP.some ⟨by dsimp only; omega, by dsimp only; omega, h4.2.2⟩
 ·refine EvP.bind (Q1 := fun z => at' ≤ z.1 ∧ z.1 ≤ at' + 2000 ∧ z.2.2.2.2.2.2.2.2.length ≤ 91) ?_ (fun z4 h4 => EvP.some h4)
  simp only [Z2F]
  refine EvP.bind (Z7F _ (h.to (by omega) (by omega)) (by omega)) (fun z5 h5 => ?_)
  refine EvP.bind (ZIx (h.to (by omega) (by omega))) (fun z6 h6 => ?_)
  refine EvP.guard (by omega) (EvP.guard (by omega) (EvP.some ⟨by dsimp only; omega, by dsimp only; omega, ?_⟩))
  dsimp only
  rw [List.length_set]
  omega
 ·obtain ⟨m, hm⟩ : ∃ m : Nat, z2.1 = (m : Int) := ⟨z2.1.toNat, by omega⟩
  refine EvP.bind (ZHe z2 m 3 hm h2.2.1 (by omega) (by omega) (by omega) (by omega) h2.2.2.2) (fun z4 h4 => ?_)
  exact EvP.some ⟨by dsimp only; omega, by dsimp only; omega, by dsimp only; omega⟩
 ·refine EvP.bind (ZFz (h.to (by omega) (by omega))) (fun z4 h4 => ?_)
  exact EvP.some ⟨by dsimp only; omega, by dsimp only; omega, h4.2.2⟩
 ·exact EvP.some ⟨by dsimp only; omega, by dsimp only; omega, by dsimp only; omega⟩
end
end Go.Proofs.YtglkedenkcpcbaaGreatDoor.Vs
