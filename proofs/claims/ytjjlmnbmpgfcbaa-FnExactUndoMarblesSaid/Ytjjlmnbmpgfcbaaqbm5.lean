/- The proof, part 6. -/
import Derived.Test.Ytjjlmnbmpgfcbaaqbm4
set_option maxRecDepth 100000
set_option maxHeartbeats 2000000
set_option linter.unusedVariables false
set_option linter.unusedSimpArgs false
namespace Go.Proofs.Ytjjlmnbmpgfcbaa.Vs
open Go.RowKit
noncomputable section
/-! function 24 -/
/-! function 36 -/
noncomputable def r_impl_numbersAfter : List PK := [{ t := Ty.slice (26 : Nat) (Ty.slice (3 : Nat) (Ty.int IntKind.i64)) }]
noncomputable def q_impl_numbersAfter : List PK := [{ t := Ty.pair (Ty.int IntKind.i64) (Ty.pair (Ty.int IntKind.i64) (Ty.slice (75 : Nat) (Ty.pair (Ty.int IntKind.i64) (Ty.int IntKind.i64)))), agg := true }, { t := Ty.slice (3 : Nat) (Ty.int IntKind.i64) }]
noncomputable def to_impl_numbersAfter (r : List (List Int)) : Tup r_impl_numbersAfter × OutD := ((r, ()), none)
noncomputable def of_impl_numbersAfter : Tup r_impl_numbersAfter × OutD → Option (List (List Int))
  | (a, none) => some (a.1)
  | _ => none
theorem to_of_impl_numbersAfter : ∀ b r, of_impl_numbersAfter b = some r → to_impl_numbersAfter r = b := by
  rintro ⟨a, o⟩ r h
  cases o with
  | none => injection h with h; subst h; rfl
  | some _ => cases h
noncomputable def f_impl_numbersAfter_4 : Nat → Int → Int → List (Int × Int) → List (List Int) → List Int → List (List Int) → Int → Int → List (Int × Int) → List Int → Int → Int → Int → List Int → Int → Int → Int → Int → Int → Int → Option (Int × Int × List (Int × Int) × List (List Int) × List Int × List (List Int) × List Int × Int × Int × Int × List Int × Int × Int × Int × Int)
  | 0, _, _, _, _, _, _, _, _, _, _, _, _, _, _, _, _, _, _, _, _ => none
  | k + 1, b1_0, b1_1, b1_2, o2, o3, o4, b5_0, b5_1, o6, o7, v8, v9, v10, v21, v22, v23, v39, v40, v60, v61 =>
    if decide (v61 < v60) = true then if (0 : Int) ≤ v61 then if v61 < (↑(List.length o2) : Int) then if (0 : Int) < (↑(List.length (List.getD o2 (Int.toNat v61) [])) : Int) then if (0 : Int) ≤ List.getD (List.getD o2 (Int.toNat v61) []) (Int.toNat (0 : Int)) (0 : Int) then if List.getD (List.getD o2 (Int.toNat v61) []) (Int.toNat (0 : Int)) (0 : Int) < (↑(List.length o6) : Int) then if (0 : Int) ≤ v61 then if v61 < (↑(List.length o7) : Int) then f_impl_numbersAfter_4 k b1_0 b1_1 b1_2 o2 o3 o4 b5_0 b5_1 o6 (List.set o7 (Int.toNat v61) (Prod.snd (List.getD o6 (Int.toNat (List.getD (List.getD o2 (Int.toNat v61) []) (Int.toNat (0 : Int)) (0 : Int))) ((0 : Int), (0 : Int))))) v8 v9 v10 v21 v22 v23 v39 v40 v60 (wrap64 (v61 + (1 : Int))) else none else none else none else none else none else none else none else some (b1_0, b1_1, b1_2, o2, o3, o4, o7, v8, v9, v10, v21, v22, v23, v39, v40)
noncomputable def f_impl_numbersAfter_4i : Spec := { objs := [OSh.ro, OSh.box (31 : Nat) [Sh.int IntKind.i64, Sh.int IntKind.i64, Sh.snap (0 : Nat) (Ty.pair (Ty.int IntKind.i64) (Ty.int IntKind.i64))], OSh.row true (26 : Nat) (Ty.slice (3 : Nat) (Ty.int IntKind.i64)), OSh.row true (3 : Nat) (Ty.int IntKind.i64), OSh.row true (26 : Nat) (Ty.slice (3 : Nat) (Ty.int IntKind.i64)), OSh.box (31 : Nat) [Sh.int IntKind.i64, Sh.int IntKind.i64, Sh.sl (6 : Nat)], OSh.row true (75 : Nat) (Ty.pair (Ty.int IntKind.i64) (Ty.int IntKind.i64)), OSh.row true (3 : Nat) (Ty.int IntKind.i64)], tmps := [((2 : Nat), TSh.at (Sh.ptr (1 : Nat) (0 : Nat))), ((5 : Nat), TSh.at (Sh.sl (2 : Nat))), ((6 : Nat), TSh.at (Sh.sl (3 : Nat))), ((7 : Nat), TSh.at (Sh.sl (4 : Nat))), ((8 : Nat), TSh.at (Sh.int IntKind.i64)), ((9 : Nat), TSh.at (Sh.int IntKind.i64)), ((10 : Nat), TSh.at (Sh.int IntKind.i64)), ((11 : Nat), TSh.at (Sh.ptr (5 : Nat) (0 : Nat))), ((12 : Nat), TSh.at (Sh.sl (7 : Nat))), ((21 : Nat), TSh.at (Sh.snap (0 : Nat) (Ty.int IntKind.i64))), ((22 : Nat), TSh.at (Sh.int IntKind.i64)), ((23 : Nat), TSh.at (Sh.int IntKind.i64)), ((39 : Nat), TSh.at (Sh.int IntKind.i64)), ((40 : Nat), TSh.at (Sh.int IntKind.i64)), ((60 : Nat), TSh.at (Sh.int IntKind.i64)), ((61 : Nat), TSh.at (Sh.int IntKind.i64))] }
noncomputable def f_impl_numbersAfter_4o : Spec := { objs := [OSh.ro, OSh.box (31 : Nat) [Sh.int IntKind.i64, Sh.int IntKind.i64, Sh.snap (0 : Nat) (Ty.pair (Ty.int IntKind.i64) (Ty.int IntKind.i64))], OSh.row true (26 : Nat) (Ty.slice (3 : Nat) (Ty.int IntKind.i64)), OSh.row true (3 : Nat) (Ty.int IntKind.i64), OSh.row true (26 : Nat) (Ty.slice (3 : Nat) (Ty.int IntKind.i64)), OSh.row true (3 : Nat) (Ty.int IntKind.i64)], tmps := [((2 : Nat), TSh.at (Sh.ptr (1 : Nat) (0 : Nat))), ((5 : Nat), TSh.at (Sh.sl (2 : Nat))), ((6 : Nat), TSh.at (Sh.sl (3 : Nat))), ((7 : Nat), TSh.at (Sh.sl (4 : Nat))), ((8 : Nat), TSh.at (Sh.int IntKind.i64)), ((9 : Nat), TSh.at (Sh.int IntKind.i64)), ((10 : Nat), TSh.at (Sh.int IntKind.i64)), ((12 : Nat), TSh.at (Sh.sl (5 : Nat))), ((21 : Nat), TSh.at (Sh.snap (0 : Nat) (Ty.int IntKind.i64))), ((22 : Nat), TSh.at (Sh.int IntKind.i64)), ((23 : Nat), TSh.at (Sh.int IntKind.i64)), ((39 : Nat), TSh.at (Sh.int IntKind.i64)), ((40 : Nat), TSh.at (Sh.int IntKind.i64))] }
noncomputable def f_impl_numbersAfter_4D : LoopDef (Tup r_impl_numbersAfter × OutD) := .plain f_impl_numbersAfter_4i f_impl_numbersAfter_4o (Int × Int × List (Int × Int) × List (List Int) × List Int × List (List Int) × List Int × Int × Int × Int × List Int × Int × Int × Int × Int) (fun k x => f_impl_numbersAfter_4 k x.1.2.1.1 x.1.2.1.2.1 x.1.2.1.2.2.1 x.1.2.2.1 x.1.2.2.2.1 x.1.2.2.2.2.1 x.1.2.2.2.2.2.1.1 x.1.2.2.2.2.2.1.2.1 x.1.2.2.2.2.2.2.1 x.1.2.2.2.2.2.2.2.1 x.2.2.2.2.2.1 x.2.2.2.2.2.2.1 x.2.2.2.2.2.2.2.1 x.2.2.2.2.2.2.2.2.2.2.1 x.2.2.2.2.2.2.2.2.2.2.2.1 x.2.2.2.2.2.2.2.2.2.2.2.2.1 x.2.2.2.2.2.2.2.2.2.2.2.2.2.1 x.2.2.2.2.2.2.2.2.2.2.2.2.2.2.1 x.2.2.2.2.2.2.2.2.2.2.2.2.2.2.2.1 x.2.2.2.2.2.2.2.2.2.2.2.2.2.2.2.2.1) (fun z => (((), (z.1, z.2.1, z.2.2.1, ()), z.2.2.2.1, z.2.2.2.2.1, z.2.2.2.2.2.1, z.2.2.2.2.2.2.1, ()), ((), (), (), (), z.2.2.2.2.2.2.2.1, z.2.2.2.2.2.2.2.2.1, z.2.2.2.2.2.2.2.2.2.1, (), z.2.2.2.2.2.2.2.2.2.2.1, z.2.2.2.2.2.2.2.2.2.2.2.1, z.2.2.2.2.2.2.2.2.2.2.2.2.1, z.2.2.2.2.2.2.2.2.2.2.2.2.2.1, z.2.2.2.2.2.2.2.2.2.2.2.2.2.2, ()))) (fun y => (y.1.2.1.1, y.1.2.1.2.1, y.1.2.1.2.2.1, y.1.2.2.1, y.1.2.2.2.1, y.1.2.2.2.2.1, y.1.2.2.2.2.2.1, y.2.2.2.2.2.1, y.2.2.2.2.2.2.1, y.2.2.2.2.2.2.2.1, y.2.2.2.2.2.2.2.2.2.1, y.2.2.2.2.2.2.2.2.2.2.1, y.2.2.2.2.2.2.2.2.2.2.2.1, y.2.2.2.2.2.2.2.2.2.2.2.2.1, y.2.2.2.2.2.2.2.2.2.2.2.2.2.1)) (fun _ => rfl)
noncomputable def f_impl_numbersAfter_2 : Nat → Int → Int → List (Int × Int) → List (List Int) → List Int → List (List Int) → Int → Int → List Int → Int → Int → Int → Int → Option (Int × Int × List (Int × Int) × List (List Int) × List Int × List (List Int) × List Int × Int × Int)
  | 0, _, _, _, _, _, _, _, _, _, _, _, _, _ => none
  | k + 1, b1_0, b1_1, b1_2, o2, o3, o4, v8, v9, v21, v22, v23, v39, v40 =>
    if decide (v40 < v39) = true then Option.bind (f_impl_copyBoard k (b1_0, b1_1, b1_2)) fun z2 => Option.bind (f_impl_bitList k v40 (↑(List.length o2) : Int)) fun z3 => Option.bind (f_impl_setBits k (Prod.fst z2, Prod.fst (Prod.snd z2), Prod.snd (Prod.snd z2)) o2 z3) fun z4 => Option.bind (f_impl_drop k (Prod.fst z2, Prod.fst (Prod.snd z2), z4) o3 v9) fun z5 => if Int.toNat (↑(List.length o2) : Int) * (8 : Nat) ≤ (281474976710656 : Nat) then Option.bind (f_impl_numbersAfter_4 k b1_0 b1_1 b1_2 o2 o3 o4 (Prod.fst z2) (Prod.fst (Prod.snd z2)) (Prod.snd (Prod.snd z5)) (List.replicate (Int.toNat (↑(List.length o2) : Int)) (0 : Int)) v8 v9 v40 v21 v22 v23 v39 v40 (↑(List.length o2) : Int) (0 : Int)) fun z6 => if (0 : Int) ≤ Prod.fst (Prod.snd (Prod.snd (Prod.snd (Prod.snd (Prod.snd (Prod.snd (Prod.snd z6))))))) then if Prod.fst (Prod.snd (Prod.snd (Prod.snd (Prod.snd (Prod.snd (Prod.snd (Prod.snd z6))))))) < (↑(List.length (Prod.fst (Prod.snd (Prod.snd (Prod.snd (Prod.snd (Prod.snd z6))))))) : Int) then Option.bind (f_impl_numberOf k (Prod.fst (Prod.snd (Prod.snd (Prod.snd (Prod.snd (Prod.snd (Prod.snd z6)))))))) fun z7 => if (0 : Int) ≤ Prod.fst (Prod.snd (Prod.snd (Prod.snd (Prod.snd (Prod.snd (Prod.snd (Prod.snd (Prod.snd (Prod.snd z6))))))))) then if Prod.fst (Prod.snd (Prod.snd (Prod.snd (Prod.snd (Prod.snd (Prod.snd (Prod.snd (Prod.snd (Prod.snd z6))))))))) < (↑(List.length (List.getD (Prod.fst (Prod.snd (Prod.snd (Prod.snd (Prod.snd (Prod.snd z6)))))) (Int.toNat (Prod.fst (Prod.snd (Prod.snd (Prod.snd (Prod.snd (Prod.snd (Prod.snd (Prod.snd z6))))))))) [])) : Int) then f_impl_numbersAfter_2 k (Prod.fst z6) (Prod.fst (Prod.snd z6)) (Prod.fst (Prod.snd (Prod.snd z6))) (Prod.fst (Prod.snd (Prod.snd (Prod.snd z6)))) (Prod.fst (Prod.snd (Prod.snd (Prod.snd (Prod.snd z6))))) (List.set (Prod.fst (Prod.snd (Prod.snd (Prod.snd (Prod.snd (Prod.snd z6)))))) (Int.toNat (Prod.fst (Prod.snd (Prod.snd (Prod.snd (Prod.snd (Prod.snd (Prod.snd (Prod.snd z6))))))))) (List.set (List.getD (Prod.fst (Prod.snd (Prod.snd (Prod.snd (Prod.snd (Prod.snd z6)))))) (Int.toNat (Prod.fst (Prod.snd (Prod.snd (Prod.snd (Prod.snd (Prod.snd (Prod.snd (Prod.snd z6))))))))) []) (Int.toNat (Prod.fst (Prod.snd (Prod.snd (Prod.snd (Prod.snd (Prod.snd (Prod.snd (Prod.snd (Prod.snd (Prod.snd z6))))))))))) z7)) (Prod.fst (Prod.snd (Prod.snd (Prod.snd (Prod.snd (Prod.snd (Prod.snd (Prod.snd z6)))))))) (Prod.fst (Prod.snd (Prod.snd (Prod.snd (Prod.snd (Prod.snd (Prod.snd (Prod.snd (Prod.snd z6))))))))) (Prod.fst (Prod.snd (Prod.snd (Prod.snd (Prod.snd (Prod.snd (Prod.snd (Prod.snd (Prod.snd (Prod.snd (Prod.snd z6))))))))))) (Prod.fst (Prod.snd (Prod.snd (Prod.snd (Prod.snd (Prod.snd (Prod.snd (Prod.snd (Prod.snd (Prod.snd (Prod.snd (Prod.snd z6)))))))))))) (Prod.fst (Prod.snd (Prod.snd (Prod.snd (Prod.snd (Prod.snd (Prod.snd (Prod.snd (Prod.snd (Prod.snd (Prod.snd (Prod.snd (Prod.snd z6))))))))))))) (Prod.fst (Prod.snd (Prod.snd (Prod.snd (Prod.snd (Prod.snd (Prod.snd (Prod.snd (Prod.snd (Prod.snd (Prod.snd (Prod.snd (Prod.snd (Prod.snd z6)))))))))))))) (wrap64 (Prod.snd (Prod.snd (Prod.snd (Prod.snd (Prod.snd (Prod.snd (Prod.snd (Prod.snd (Prod.snd (Prod.snd (Prod.snd (Prod.snd (Prod.snd (Prod.snd z6))))))))))))) + (1 : Int))) else none else none else none else none else none else some (b1_0, b1_1, b1_2, o2, o3, o4, v21, v22, v23)
noncomputable def f_impl_numbersAfter_2i : Spec := { objs := [OSh.ro, OSh.box (31 : Nat) [Sh.int IntKind.i64, Sh.int IntKind.i64, Sh.snap (0 : Nat) (Ty.pair (Ty.int IntKind.i64) (Ty.int IntKind.i64))], OSh.row true (26 : Nat) (Ty.slice (3 : Nat) (Ty.int IntKind.i64)), OSh.row true (3 : Nat) (Ty.int IntKind.i64), OSh.row true (26 : Nat) (Ty.slice (3 : Nat) (Ty.int IntKind.i64))], tmps := [((2 : Nat), TSh.at (Sh.ptr (1 : Nat) (0 : Nat))), ((5 : Nat), TSh.at (Sh.sl (2 : Nat))), ((6 : Nat), TSh.at (Sh.sl (3 : Nat))), ((7 : Nat), TSh.at (Sh.sl (4 : Nat))), ((8 : Nat), TSh.at (Sh.int IntKind.i64)), ((9 : Nat), TSh.at (Sh.int IntKind.i64)), ((21 : Nat), TSh.at (Sh.snap (0 : Nat) (Ty.int IntKind.i64))), ((22 : Nat), TSh.at (Sh.int IntKind.i64)), ((23 : Nat), TSh.at (Sh.int IntKind.i64)), ((39 : Nat), TSh.at (Sh.int IntKind.i64)), ((40 : Nat), TSh.at (Sh.int IntKind.i64))] }
noncomputable def f_impl_numbersAfter_2o : Spec := { objs := [OSh.ro, OSh.box (31 : Nat) [Sh.int IntKind.i64, Sh.int IntKind.i64, Sh.snap (0 : Nat) (Ty.pair (Ty.int IntKind.i64) (Ty.int IntKind.i64))], OSh.row true (26 : Nat) (Ty.slice (3 : Nat) (Ty.int IntKind.i64)), OSh.row true (3 : Nat) (Ty.int IntKind.i64), OSh.row true (26 : Nat) (Ty.slice (3 : Nat) (Ty.int IntKind.i64))], tmps := [((2 : Nat), TSh.at (Sh.ptr (1 : Nat) (0 : Nat))), ((5 : Nat), TSh.at (Sh.sl (2 : Nat))), ((6 : Nat), TSh.at (Sh.sl (3 : Nat))), ((7 : Nat), TSh.at (Sh.sl (4 : Nat))), ((21 : Nat), TSh.at (Sh.snap (0 : Nat) (Ty.int IntKind.i64))), ((22 : Nat), TSh.at (Sh.int IntKind.i64)), ((23 : Nat), TSh.at (Sh.int IntKind.i64))] }
noncomputable def f_impl_numbersAfter_2D : LoopDef (Tup r_impl_numbersAfter × OutD) := .plain f_impl_numbersAfter_2i f_impl_numbersAfter_2o (Int × Int × List (Int × Int) × List (List Int) × List Int × List (List Int) × List Int × Int × Int) (fun k x => f_impl_numbersAfter_2 k x.1.2.1.1 x.1.2.1.2.1 x.1.2.1.2.2.1 x.1.2.2.1 x.1.2.2.2.1 x.1.2.2.2.2.1 x.2.2.2.2.2.1 x.2.2.2.2.2.2.1 x.2.2.2.2.2.2.2.1 x.2.2.2.2.2.2.2.2.1 x.2.2.2.2.2.2.2.2.2.1 x.2.2.2.2.2.2.2.2.2.2.1 x.2.2.2.2.2.2.2.2.2.2.2.1) (fun z => (((), (z.1, z.2.1, z.2.2.1, ()), z.2.2.2.1, z.2.2.2.2.1, z.2.2.2.2.2.1, ()), ((), (), (), (), z.2.2.2.2.2.2.1, z.2.2.2.2.2.2.2.1, z.2.2.2.2.2.2.2.2, ()))) (fun y => (y.1.2.1.1, y.1.2.1.2.1, y.1.2.1.2.2.1, y.1.2.2.1, y.1.2.2.2.1, y.1.2.2.2.2.1, y.2.2.2.2.2.1, y.2.2.2.2.2.2.1, y.2.2.2.2.2.2.2.1)) (fun _ => rfl)
noncomputable def f_impl_numbersAfter_0 : Nat → Int → Int → List (Int × Int) → List (List Int) → List Int → List (List Int) → List Int → Int → Int → Option (List (List Int))
  | 0, _, _, _, _, _, _, _, _, _ => none
  | k + 1, b1_0, b1_1, b1_2, o2, o3, o4, v21, v22, v23 =>
    if decide (v23 < v22) = true then if (0 : Int) ≤ v23 then if v23 < (↑(List.length v21) : Int) then if (0 : Int) ≤ shlS (1 : Int) (↑(List.length o2) : Int) then if Int.toNat (shlS (1 : Int) (↑(List.length o2) : Int)) * (8 : Nat) ≤ (281474976710656 : Nat) then if (0 : Int) ≤ v23 then if v23 < (↑(List.length o4) : Int) then if (0 : Int) ≤ v23 then if v23 < (↑(List.length (List.set o4 (Int.toNat v23) (List.replicate (Int.toNat (shlS (1 : Int) (↑(List.length o2) : Int))) (0 : Int)))) : Int) then Option.bind (f_impl_numbersAfter_2 k b1_0 b1_1 b1_2 o2 o3 (List.set o4 (Int.toNat v23) (List.replicate (Int.toNat (shlS (1 : Int) (↑(List.length o2) : Int))) (0 : Int))) v23 (List.getD v21 (Int.toNat v23) (0 : Int)) v21 v22 v23 (↑(List.length (List.getD (List.set o4 (Int.toNat v23) (List.replicate (Int.toNat (shlS (1 : Int) (↑(List.length o2) : Int))) (0 : Int))) (Int.toNat v23) [])) : Int) (0 : Int)) fun z8 => f_impl_numbersAfter_0 k (Prod.fst z8) (Prod.fst (Prod.snd z8)) (Prod.fst (Prod.snd (Prod.snd z8))) (Prod.fst (Prod.snd (Prod.snd (Prod.snd z8)))) (Prod.fst (Prod.snd (Prod.snd (Prod.snd (Prod.snd z8))))) (Prod.fst (Prod.snd (Prod.snd (Prod.snd (Prod.snd (Prod.snd z8)))))) (Prod.fst (Prod.snd (Prod.snd (Prod.snd (Prod.snd (Prod.snd (Prod.snd z8))))))) (Prod.fst (Prod.snd (Prod.snd (Prod.snd (Prod.snd (Prod.snd (Prod.snd (Prod.snd z8)))))))) (wrap64 (Prod.snd (Prod.snd (Prod.snd (Prod.snd (Prod.snd (Prod.snd (Prod.snd (Prod.snd z8))))))) + (1 : Int))) else none else none else none else none else none else none else none else none else some o4
noncomputable def f_impl_numbersAfter_0i : Spec := { objs := [OSh.ro, OSh.box (31 : Nat) [Sh.int IntKind.i64, Sh.int IntKind.i64, Sh.snap (0 : Nat) (Ty.pair (Ty.int IntKind.i64) (Ty.int IntKind.i64))], OSh.row true (26 : Nat) (Ty.slice (3 : Nat) (Ty.int IntKind.i64)), OSh.row true (3 : Nat) (Ty.int IntKind.i64), OSh.row true (26 : Nat) (Ty.slice (3 : Nat) (Ty.int IntKind.i64))], tmps := [((2 : Nat), TSh.at (Sh.ptr (1 : Nat) (0 : Nat))), ((5 : Nat), TSh.at (Sh.sl (2 : Nat))), ((6 : Nat), TSh.at (Sh.sl (3 : Nat))), ((7 : Nat), TSh.at (Sh.sl (4 : Nat))), ((21 : Nat), TSh.at (Sh.snap (0 : Nat) (Ty.int IntKind.i64))), ((22 : Nat), TSh.at (Sh.int IntKind.i64)), ((23 : Nat), TSh.at (Sh.int IntKind.i64))] }
noncomputable def f_impl_numbersAfter_0o : Spec := { objs := [OSh.ro, OSh.row true (26 : Nat) (Ty.slice (3 : Nat) (Ty.int IntKind.i64))], tmps := [((7 : Nat), TSh.at (Sh.sl (1 : Nat)))] }
noncomputable def f_impl_numbersAfter_0D : LoopDef (Tup r_impl_numbersAfter × OutD) := .plain f_impl_numbersAfter_0i f_impl_numbersAfter_0o (List (List Int)) (fun k x => f_impl_numbersAfter_0 k x.1.2.1.1 x.1.2.1.2.1 x.1.2.1.2.2.1 x.1.2.2.1 x.1.2.2.2.1 x.1.2.2.2.2.1 x.2.2.2.2.2.1 x.2.2.2.2.2.2.1 x.2.2.2.2.2.2.2.1) (fun z => (((), z, ()), ((), ()))) (fun y => (y.1.2.1)) (fun _ => rfl)
noncomputable def f_impl_numbersAfter : Nat → Int × Int × List (Int × Int) → List Int → Option (List (List Int))
  | 0, _, _ => none
  | k + 1, p0, p1 =>
    Option.bind (f_impl_unitsOf k (Prod.fst p0, Prod.fst (Prod.snd p0), Prod.snd (Prod.snd p0))) fun z0 => Option.bind (f_impl_groupNumbers k (Prod.fst p0, Prod.fst (Prod.snd p0), Prod.snd (Prod.snd p0))) fun z1 => if Int.toNat (↑(List.length p1) : Int) * (24 : Nat) ≤ (281474976710656 : Nat) then Option.bind (f_impl_numbersAfter_0 k (Prod.fst p0) (Prod.fst (Prod.snd p0)) (Prod.snd (Prod.snd p0)) z0 z1 (List.replicate (Int.toNat (↑(List.length p1) : Int)) []) p1 (↑(List.length p1) : Int) (0 : Int)) fun z9 => some z9 else none
noncomputable def d_impl_numbersAfter : FnDef := .of q_impl_numbersAfter r_impl_numbersAfter (List (List Int)) (fun k x => f_impl_numbersAfter k x.1 x.2.1) to_impl_numbersAfter of_impl_numbersAfter to_of_impl_numbersAfter
noncomputable def c_impl_numbersAfter : Code := Try.f36.body.getD .skip
noncomputable def x_impl_numbersAfter : Ctx (Tup r_impl_numbersAfter × OutD) := { T := T, G := [(46, d_impl_unitsOf.E), (61, d_impl_groupNumbers.E), (62, d_impl_copyBoard.E), (64, d_impl_bitList.E), (63, d_impl_setBits.E), (65, d_impl_drop.E), (48, d_impl_numberOf.E)], mvs := [86], no := 0, n := 90, res := resOf T q_impl_numbersAfter r_impl_numbersAfter Try.f36.results.toList, loops := [(4, f_impl_numbersAfter_4D.E), (2, f_impl_numbersAfter_2D.E), (0, f_impl_numbersAfter_0D.E)], regs := [], conds := [] }
theorem g_impl_numbersAfter (k : Nat) : EnvOK Try.prog k x_impl_numbersAfter.G := (EnvOK.cons (s_impl_unitsOf k) (EnvOK.cons (s_impl_groupNumbers k) (EnvOK.cons (s_impl_copyBoard k) (EnvOK.cons (s_impl_bitList k) (EnvOK.cons (s_impl_setBits k) (EnvOK.cons (s_impl_drop k) (EnvOK.cons (s_impl_numberOf k) (EnvOK.nil mixed))))))))
noncomputable def f_impl_numbersAfter_4B : Code := (findLoop 4 c_impl_numbersAfter).getD .skip
theorem f_impl_numbersAfter_4h (k : Nat) (x : f_impl_numbersAfter_4i.D) : f_impl_numbersAfter_4D.lp (k + 1) x = loopK x_impl_numbersAfter f_impl_numbersAfter_4D 4 f_impl_numbersAfter_4B k x := by kernel_rfl
theorem f_impl_numbersAfter_4l (k : Nat) : LOK Try.prog x_impl_numbersAfter k f_impl_numbersAfter_4B := LOK.by [] (by kernel_rfl) AllOK.nil
theorem f_impl_numbersAfter_4z (x : f_impl_numbersAfter_4i.D) : f_impl_numbersAfter_4D.lp 0 x = none := by kernel_rfl
theorem f_impl_numbersAfter_4ok (k : Nat) : EOK Try.prog x_impl_numbersAfter k f_impl_numbersAfter_4D.E (.block 4 (.loop f_impl_numbersAfter_4B)) := loop_ok T_ok g_impl_numbersAfter f_impl_numbersAfter_4z f_impl_numbersAfter_4h f_impl_numbersAfter_4l k
noncomputable def f_impl_numbersAfter_2B : Code := (findLoop 2 c_impl_numbersAfter).getD .skip
theorem f_impl_numbersAfter_2h (k : Nat) (x : f_impl_numbersAfter_2i.D) : f_impl_numbersAfter_2D.lp (k + 1) x = loopK x_impl_numbersAfter f_impl_numbersAfter_2D 2 f_impl_numbersAfter_2B k x := by kernel_rfl
theorem f_impl_numbersAfter_2l (k : Nat) : LOK Try.prog x_impl_numbersAfter k f_impl_numbersAfter_2B := LOK.by [(f_impl_numbersAfter_4D.E, .block 4 (.loop f_impl_numbersAfter_4B))] (by kernel_rfl) (AllOK.cons (f_impl_numbersAfter_4ok k) AllOK.nil)
theorem f_impl_numbersAfter_2z (x : f_impl_numbersAfter_2i.D) : f_impl_numbersAfter_2D.lp 0 x = none := by kernel_rfl
theorem f_impl_numbersAfter_2ok (k : Nat) : EOK Try.prog x_impl_numbersAfter k f_impl_numbersAfter_2D.E (.block 2 (.loop f_impl_numbersAfter_2B)) := loop_ok T_ok g_impl_numbersAfter f_impl_numbersAfter_2z f_impl_numbersAfter_2h f_impl_numbersAfter_2l k
noncomputable def f_impl_numbersAfter_0B : Code := (findLoop 0 c_impl_numbersAfter).getD .skip
theorem f_impl_numbersAfter_0h (k : Nat) (x : f_impl_numbersAfter_0i.D) : f_impl_numbersAfter_0D.lp (k + 1) x = loopK x_impl_numbersAfter f_impl_numbersAfter_0D 0 f_impl_numbersAfter_0B k x := by kernel_rfl
theorem f_impl_numbersAfter_0l (k : Nat) : LOK Try.prog x_impl_numbersAfter k f_impl_numbersAfter_0B := LOK.by [(f_impl_numbersAfter_2D.E, .block 2 (.loop f_impl_numbersAfter_2B))] (by kernel_rfl) (AllOK.cons (f_impl_numbersAfter_2ok k) AllOK.nil)
theorem f_impl_numbersAfter_0z (x : f_impl_numbersAfter_0i.D) : f_impl_numbersAfter_0D.lp 0 x = none := by kernel_rfl
theorem f_impl_numbersAfter_0ok (k : Nat) : EOK Try.prog x_impl_numbersAfter k f_impl_numbersAfter_0D.E (.block 0 (.loop f_impl_numbersAfter_0B)) := loop_ok T_ok g_impl_numbersAfter f_impl_numbersAfter_0z f_impl_numbersAfter_0h f_impl_numbersAfter_0l k
theorem h_impl_numbersAfter (k : Nat) (x : Tup d_impl_numbersAfter.ps) : d_impl_numbersAfter.f (k + 1) x = fnK d_impl_numbersAfter x_impl_numbersAfter c_impl_numbersAfter k x := by kernel_rfl
theorem z_impl_numbersAfter (x : Tup d_impl_numbersAfter.ps) : d_impl_numbersAfter.f 0 x = none := by kernel_rfl
theorem l_impl_numbersAfter (k : Nat) : LOK Try.prog x_impl_numbersAfter k c_impl_numbersAfter := LOK.by [(f_impl_numbersAfter_0D.E, .block 0 (.loop f_impl_numbersAfter_0B))] (by kernel_rfl) (AllOK.cons (f_impl_numbersAfter_0ok k) AllOK.nil)
theorem s_impl_numbersAfter (k : Nat) : SoundAt Try.prog k 36 d_impl_numbersAfter.E := @fn_all Try.prog d_impl_numbersAfter x_impl_numbersAfter 36 Try.f36 c_impl_numbersAfter (by kernel_rfl) (by kernel_rfl) (by kernel_rfl) Try.func36 (by kernel_rfl) (by kernel_rfl) (by kernel_rfl) T_ok g_impl_numbersAfter l_impl_numbersAfter z_impl_numbersAfter h_impl_numbersAfter k
/-! function 42 -/
/-! function 43 -/
/-! function 47 -/
/-! function 49 -/
noncomputable def r_impl_bitsOf : List PK := [{ t := Ty.slice (3 : Nat) (Ty.int IntKind.i64) }]
noncomputable def q_impl_bitsOf : List PK := [{ t := Ty.pair (Ty.int IntKind.i64) (Ty.pair (Ty.int IntKind.i64) (Ty.slice (75 : Nat) (Ty.pair (Ty.int IntKind.i64) (Ty.int IntKind.i64)))), agg := true }]
noncomputable def to_impl_bitsOf (r : List Int) : Tup r_impl_bitsOf × OutD := ((r, ()), none)
noncomputable def of_impl_bitsOf : Tup r_impl_bitsOf × OutD → Option (List Int)
  | (a, none) => some (a.1)
  | _ => none
theorem to_of_impl_bitsOf : ∀ b r, of_impl_bitsOf b = some r → to_impl_bitsOf r = b := by
  rintro ⟨a, o⟩ r h
  cases o with
  | none => injection h with h; subst h; rfl
  | some _ => cases h
noncomputable def f_impl_bitsOf_0 : Nat → Int → Int → List (Int × Int) → List Int → List (List Int) → Int → Int → Option (List Int)
  | 0, _, _, _, _, _, _, _ => none
  | k + 1, b1_0, b1_1, b1_2, o2, o3, v9, v10 =>
    if decide (v10 < v9) = true then if (0 : Int) ≤ v10 then if v10 < (↑(List.length o3) : Int) then if (0 : Int) < (↑(List.length (List.getD o3 (Int.toNat v10) [])) : Int) then if (0 : Int) ≤ List.getD (List.getD o3 (Int.toNat v10) []) (Int.toNat (0 : Int)) (0 : Int) then if List.getD (List.getD o3 (Int.toNat v10) []) (Int.toNat (0 : Int)) (0 : Int) < (↑(List.length b1_2) : Int) then if List.length o2 + List.length [Prod.snd (List.getD b1_2 (Int.toNat (List.getD (List.getD o3 (Int.toNat v10) []) (Int.toNat (0 : Int)) (0 : Int))) ((0 : Int), (0 : Int)))] ≤ (140737488355328 / 8 : Nat) then f_impl_bitsOf_0 k b1_0 b1_1 b1_2 (o2 ++ [Prod.snd (List.getD b1_2 (Int.toNat (List.getD (List.getD o3 (Int.toNat v10) []) (Int.toNat (0 : Int)) (0 : Int))) ((0 : Int), (0 : Int)))]) o3 v9 (wrap64 (v10 + (1 : Int))) else none else none else none else none else none else none else some o2
noncomputable def f_impl_bitsOf_0i : Spec := { objs := [OSh.ro, OSh.box (31 : Nat) [Sh.int IntKind.i64, Sh.int IntKind.i64, Sh.snap (0 : Nat) (Ty.pair (Ty.int IntKind.i64) (Ty.int IntKind.i64))], OSh.row true (3 : Nat) (Ty.int IntKind.i64), OSh.row true (26 : Nat) (Ty.slice (3 : Nat) (Ty.int IntKind.i64))], tmps := [((1 : Nat), TSh.at (Sh.ptr (1 : Nat) (0 : Nat))), ((3 : Nat), TSh.at (Sh.sl (2 : Nat))), ((8 : Nat), TSh.at (Sh.sl (3 : Nat))), ((9 : Nat), TSh.at (Sh.int IntKind.i64)), ((10 : Nat), TSh.at (Sh.int IntKind.i64))] }
noncomputable def f_impl_bitsOf_0o : Spec := { objs := [OSh.ro, OSh.row true (3 : Nat) (Ty.int IntKind.i64)], tmps := [((3 : Nat), TSh.at (Sh.sl (1 : Nat)))] }
noncomputable def f_impl_bitsOf_0D : LoopDef (Tup r_impl_bitsOf × OutD) := .plain f_impl_bitsOf_0i f_impl_bitsOf_0o (List Int) (fun k x => f_impl_bitsOf_0 k x.1.2.1.1 x.1.2.1.2.1 x.1.2.1.2.2.1 x.1.2.2.1 x.1.2.2.2.1 x.2.2.2.2.1 x.2.2.2.2.2.1) (fun z => (((), z, ()), ((), ()))) (fun y => (y.1.2.1)) (fun _ => rfl)
noncomputable def f_impl_bitsOf : Nat → Int × Int × List (Int × Int) → Option (List Int)
  | 0, _ => none
  | k + 1, p0 =>
    Option.bind (f_impl_unitsOf k (Prod.fst p0, Prod.fst (Prod.snd p0), Prod.snd (Prod.snd p0))) fun z0 => Option.bind (f_impl_bitsOf_0 k (Prod.fst p0) (Prod.fst (Prod.snd p0)) (Prod.snd (Prod.snd p0)) [] z0 (↑(List.length z0) : Int) (0 : Int)) fun z1 => some z1
noncomputable def d_impl_bitsOf : FnDef := .of q_impl_bitsOf r_impl_bitsOf (List Int) (fun k x => f_impl_bitsOf k x.1) to_impl_bitsOf of_impl_bitsOf to_of_impl_bitsOf
noncomputable def c_impl_bitsOf : Code := Try.f49.body.getD .skip
noncomputable def x_impl_bitsOf : Ctx (Tup r_impl_bitsOf × OutD) := { T := T, G := [(46, d_impl_unitsOf.E)], mvs := [], no := 0, n := 27, res := resOf T q_impl_bitsOf r_impl_bitsOf Try.f49.results.toList, loops := [(0, f_impl_bitsOf_0D.E)], regs := [], conds := [] }
theorem g_impl_bitsOf (k : Nat) : EnvOK Try.prog k x_impl_bitsOf.G := (EnvOK.cons (s_impl_unitsOf k) (EnvOK.nil mixed))
noncomputable def f_impl_bitsOf_0B : Code := (findLoop 0 c_impl_bitsOf).getD .skip
theorem f_impl_bitsOf_0h (k : Nat) (x : f_impl_bitsOf_0i.D) : f_impl_bitsOf_0D.lp (k + 1) x = loopK x_impl_bitsOf f_impl_bitsOf_0D 0 f_impl_bitsOf_0B k x := by kernel_rfl
theorem f_impl_bitsOf_0l (k : Nat) : LOK Try.prog x_impl_bitsOf k f_impl_bitsOf_0B := LOK.by [] (by kernel_rfl) AllOK.nil
theorem f_impl_bitsOf_0z (x : f_impl_bitsOf_0i.D) : f_impl_bitsOf_0D.lp 0 x = none := by kernel_rfl
theorem f_impl_bitsOf_0ok (k : Nat) : EOK Try.prog x_impl_bitsOf k f_impl_bitsOf_0D.E (.block 0 (.loop f_impl_bitsOf_0B)) := loop_ok T_ok g_impl_bitsOf f_impl_bitsOf_0z f_impl_bitsOf_0h f_impl_bitsOf_0l k
theorem h_impl_bitsOf (k : Nat) (x : Tup d_impl_bitsOf.ps) : d_impl_bitsOf.f (k + 1) x = fnK d_impl_bitsOf x_impl_bitsOf c_impl_bitsOf k x := by kernel_rfl
theorem z_impl_bitsOf (x : Tup d_impl_bitsOf.ps) : d_impl_bitsOf.f 0 x = none := by kernel_rfl
theorem l_impl_bitsOf (k : Nat) : LOK Try.prog x_impl_bitsOf k c_impl_bitsOf := LOK.by [(f_impl_bitsOf_0D.E, .block 0 (.loop f_impl_bitsOf_0B))] (by kernel_rfl) (AllOK.cons (f_impl_bitsOf_0ok k) AllOK.nil)
theorem s_impl_bitsOf (k : Nat) : SoundAt Try.prog k 49 d_impl_bitsOf.E := @fn_all Try.prog d_impl_bitsOf x_impl_bitsOf 49 Try.f49 c_impl_bitsOf (by kernel_rfl) (by kernel_rfl) (by kernel_rfl) Try.func49 (by kernel_rfl) (by kernel_rfl) (by kernel_rfl) T_ok g_impl_bitsOf l_impl_bitsOf z_impl_bitsOf h_impl_bitsOf k
/-! function 52 -/
noncomputable def r_impl_BoardInState : List PK := [{ t := Ty.pair (Ty.int IntKind.i64) (Ty.pair (Ty.int IntKind.i64) (Ty.slice (75 : Nat) (Ty.pair (Ty.int IntKind.i64) (Ty.int IntKind.i64)))), agg := true }, { t := Ty.bool }]
noncomputable def q_impl_BoardInState : List PK := [{ t := Ty.pair (Ty.int IntKind.i64) (Ty.pair (Ty.int IntKind.i64) (Ty.slice (75 : Nat) (Ty.pair (Ty.int IntKind.i64) (Ty.int IntKind.i64)))), agg := true }, { t := Ty.int IntKind.i64 }]
noncomputable def to_impl_BoardInState (r : (Int × Int × List (Int × Int)) × Bool) : Tup r_impl_BoardInState × OutD := ((r.1, r.2, ()), none)
noncomputable def of_impl_BoardInState : Tup r_impl_BoardInState × OutD → Option ((Int × Int × List (Int × Int)) × Bool)
  | (a, none) => some (a.1, a.2.1)
  | _ => none
theorem to_of_impl_BoardInState : ∀ b r, of_impl_BoardInState b = some r → to_impl_BoardInState r = b := by
  rintro ⟨a, o⟩ r h
  cases o with
  | none => injection h with h; subst h; rfl
  | some _ => cases h
noncomputable def f_impl_BoardInState : Nat → Int × Int × List (Int × Int) → Int → Option ((Int × Int × List (Int × Int)) × Bool)
  | 0, _, _ => none
  | k + 1, p0, p1 =>
    Option.bind (f_impl_IsBoard k (Prod.fst p0, Prod.fst (Prod.snd p0), Prod.snd (Prod.snd p0))) fun z0 => if (!z0) = true then some (((0 : Int), (0 : Int), []), false) else Option.bind (f_impl_unitsOf k (Prod.fst p0, Prod.fst (Prod.snd p0), Prod.snd (Prod.snd p0))) fun z1 => if decide ((↑(List.length z1) : Int) > (16 : Int)) = true then some (((0 : Int), (0 : Int), []), false) else if decide (p1 < (0 : Int)) = true then some (((0 : Int), (0 : Int), []), false) else if decide (p1 ≥ shlS (1 : Int) (↑(List.length z1) : Int)) = true then some (((0 : Int), (0 : Int), []), false) else Option.bind (f_impl_copyBoard k (Prod.fst p0, Prod.fst (Prod.snd p0), Prod.snd (Prod.snd p0))) fun z2 => Option.bind (f_impl_bitList k p1 (↑(List.length z1) : Int)) fun z3 => Option.bind (f_impl_setBits k (Prod.fst z2, Prod.fst (Prod.snd z2), Prod.snd (Prod.snd z2)) z1 z3) fun z4 => some ((Prod.fst z2, Prod.fst (Prod.snd z2), z4), true)
noncomputable def d_impl_BoardInState : FnDef := .of q_impl_BoardInState r_impl_BoardInState ((Int × Int × List (Int × Int)) × Bool) (fun k x => f_impl_BoardInState k x.1 x.2.1) to_impl_BoardInState of_impl_BoardInState to_of_impl_BoardInState
noncomputable def c_impl_BoardInState : Code := Try.f52.body.getD .skip
noncomputable def x_impl_BoardInState : Ctx (Tup r_impl_BoardInState × OutD) := { T := T, G := [(45, d_impl_IsBoard.E), (46, d_impl_unitsOf.E), (62, d_impl_copyBoard.E), (64, d_impl_bitList.E), (63, d_impl_setBits.E)], mvs := [], no := 0, n := 39, res := resOf T q_impl_BoardInState r_impl_BoardInState Try.f52.results.toList, loops := [], regs := [], conds := [] }
theorem g_impl_BoardInState (k : Nat) : EnvOK Try.prog k x_impl_BoardInState.G := (EnvOK.cons (s_impl_IsBoard k) (EnvOK.cons (s_impl_unitsOf k) (EnvOK.cons (s_impl_copyBoard k) (EnvOK.cons (s_impl_bitList k) (EnvOK.cons (s_impl_setBits k) (EnvOK.nil mixed))))))
theorem h_impl_BoardInState (k : Nat) (x : Tup d_impl_BoardInState.ps) : d_impl_BoardInState.f (k + 1) x = fnK d_impl_BoardInState x_impl_BoardInState c_impl_BoardInState k x := by kernel_rfl
theorem z_impl_BoardInState (x : Tup d_impl_BoardInState.ps) : d_impl_BoardInState.f 0 x = none := by kernel_rfl
theorem l_impl_BoardInState (k : Nat) : LOK Try.prog x_impl_BoardInState k c_impl_BoardInState := LOK.by [] (by kernel_rfl) AllOK.nil
theorem s_impl_BoardInState (k : Nat) : SoundAt Try.prog k 52 d_impl_BoardInState.E := @fn_all Try.prog d_impl_BoardInState x_impl_BoardInState 52 Try.f52 c_impl_BoardInState (by kernel_rfl) (by kernel_rfl) (by kernel_rfl) Try.func52 (by kernel_rfl) (by kernel_rfl) (by kernel_rfl) T_ok g_impl_BoardInState l_impl_BoardInState z_impl_BoardInState h_impl_BoardInState k
/-! function 55 -/
noncomputable def r_spec_flHas : List PK := [{ t := Ty.bool }]
noncomputable def q_spec_flHas : List PK := [{ t := Ty.pair (Ty.int IntKind.i64) (Ty.pair (Ty.int IntKind.i64) (Ty.slice (75 : Nat) (Ty.pair (Ty.int IntKind.i64) (Ty.int IntKind.i64)))), agg := true }, { t := Ty.int IntKind.i64 }]
noncomputable def to_spec_flHas (r : Bool) : Tup r_spec_flHas × OutD := ((r, ()), none)
noncomputable def of_spec_flHas : Tup r_spec_flHas × OutD → Option (Bool)
  | (a, none) => some (a.1)
  | _ => none
theorem to_of_spec_flHas : ∀ b r, of_spec_flHas b = some r → to_spec_flHas r = b := by
  rintro ⟨a, o⟩ r h
  cases o with
  | none => injection h with h; subst h; rfl
  | some _ => cases h
noncomputable def f_spec_flHas : Nat → Int × Int × List (Int × Int) → Int → Option Bool
  | 0, _, _ => none
  | k + 1, p0, p1 =>
    Option.bind (f_spec_boGood k (Prod.fst p0, Prod.fst (Prod.snd p0), Prod.snd (Prod.snd p0))) fun z0 => if z0 = true then Option.bind (f_spec_l1In k p1 (0 : Int) (wrap64 (Prod.fst (Prod.snd p0) - (1 : Int)))) fun z1 => some z1 else some false
noncomputable def d_spec_flHas : FnDef := .of q_spec_flHas r_spec_flHas (Bool) (fun k x => f_spec_flHas k x.1 x.2.1) to_spec_flHas of_spec_flHas to_of_spec_flHas
noncomputable def c_spec_flHas : Code := Try.f55.body.getD .skip
noncomputable def x_spec_flHas : Ctx (Tup r_spec_flHas × OutD) := { T := T, G := [(67, d_spec_boGood.E), (74, d_spec_l1In.E)], mvs := [], no := 0, n := 14, res := resOf T q_spec_flHas r_spec_flHas Try.f55.results.toList, loops := [], regs := [], conds := [] }
theorem g_spec_flHas (k : Nat) : EnvOK Try.prog k x_spec_flHas.G := (EnvOK.cons (s_spec_boGood k) (EnvOK.cons (s_spec_l1In k) (EnvOK.nil mixed)))
theorem h_spec_flHas (k : Nat) (x : Tup d_spec_flHas.ps) : d_spec_flHas.f (k + 1) x = fnK d_spec_flHas x_spec_flHas c_spec_flHas k x := by kernel_rfl
theorem z_spec_flHas (x : Tup d_spec_flHas.ps) : d_spec_flHas.f 0 x = none := by kernel_rfl
theorem l_spec_flHas (k : Nat) : LOK Try.prog x_spec_flHas k c_spec_flHas := LOK.by [] (by kernel_rfl) AllOK.nil
theorem s_spec_flHas (k : Nat) : SoundAt Try.prog k 55 d_spec_flHas.E := @fn_all Try.prog d_spec_flHas x_spec_flHas 55 Try.f55 c_spec_flHas (by kernel_rfl) (by kernel_rfl) (by kernel_rfl) Try.func55 (by kernel_rfl) (by kernel_rfl) (by kernel_rfl) T_ok g_spec_flHas l_spec_flHas z_spec_flHas h_spec_flHas k
/-! function 57 -/
noncomputable def r_spec_rvStates : List PK := [{ t := Ty.int IntKind.i64 }]
noncomputable def q_spec_rvStates : List PK := [{ t := Ty.pair (Ty.int IntKind.i64) (Ty.pair (Ty.int IntKind.i64) (Ty.slice (75 : Nat) (Ty.pair (Ty.int IntKind.i64) (Ty.int IntKind.i64)))), agg := true }]
noncomputable def to_spec_rvStates (r : Int) : Tup r_spec_rvStates × OutD := ((r, ()), none)
noncomputable def of_spec_rvStates : Tup r_spec_rvStates × OutD → Option (Int)
  | (a, none) => some (a.1)
  | _ => none
theorem to_of_spec_rvStates : ∀ b r, of_spec_rvStates b = some r → to_spec_rvStates r = b := by
  rintro ⟨a, o⟩ r h
  cases o with
  | none => injection h with h; subst h; rfl
  | some _ => cases h
noncomputable def f_spec_rvStates : Nat → Int × Int × List (Int × Int) → Option Int
  | 0, _ => none
  | k + 1, p0 =>
    Option.bind (f_spec_saUnits k (Prod.fst p0, Prod.fst (Prod.snd p0), Prod.snd (Prod.snd p0))) fun z0 => some (shlS (1 : Int) (IntKind.wrap IntKind.u64 (↑(List.length z0) : Int)))
noncomputable def d_spec_rvStates : FnDef := .of q_spec_rvStates r_spec_rvStates (Int) (fun k x => f_spec_rvStates k x.1) to_spec_rvStates of_spec_rvStates to_of_spec_rvStates
noncomputable def c_spec_rvStates : Code := Try.f57.body.getD .skip
noncomputable def x_spec_rvStates : Ctx (Tup r_spec_rvStates × OutD) := { T := T, G := [(56, d_spec_saUnits.E)], mvs := [], no := 0, n := 8, res := resOf T q_spec_rvStates r_spec_rvStates Try.f57.results.toList, loops := [], regs := [], conds := [] }
theorem g_spec_rvStates (k : Nat) : EnvOK Try.prog k x_spec_rvStates.G := (EnvOK.cons (s_spec_saUnits k) (EnvOK.nil mixed))
theorem h_spec_rvStates (k : Nat) (x : Tup d_spec_rvStates.ps) : d_spec_rvStates.f (k + 1) x = fnK d_spec_rvStates x_spec_rvStates c_spec_rvStates k x := by kernel_rfl
theorem z_spec_rvStates (x : Tup d_spec_rvStates.ps) : d_spec_rvStates.f 0 x = none := by kernel_rfl
theorem l_spec_rvStates (k : Nat) : LOK Try.prog x_spec_rvStates k c_spec_rvStates := LOK.by [] (by kernel_rfl) AllOK.nil
theorem s_spec_rvStates (k : Nat) : SoundAt Try.prog k 57 d_spec_rvStates.E := @fn_all Try.prog d_spec_rvStates x_spec_rvStates 57 Try.f57 c_spec_rvStates (by kernel_rfl) (by kernel_rfl) (by kernel_rfl) Try.func57 (by kernel_rfl) (by kernel_rfl) (by kernel_rfl) T_ok g_spec_rvStates l_spec_rvStates z_spec_rvStates h_spec_rvStates k
/-! function 58 -/
noncomputable def r_spec_flRun : List PK := [{ t := Ty.pair (Ty.int IntKind.i64) (Ty.pair (Ty.int IntKind.i64) (Ty.int IntKind.i64)), agg := true }, { t := Ty.pair (Ty.int IntKind.i64) (Ty.pair (Ty.int IntKind.i64) (Ty.slice (75 : Nat) (Ty.pair (Ty.int IntKind.i64) (Ty.int IntKind.i64)))), agg := true }]
noncomputable def q_spec_flRun : List PK := [{ t := Ty.pair (Ty.int IntKind.i64) (Ty.pair (Ty.int IntKind.i64) (Ty.slice (75 : Nat) (Ty.pair (Ty.int IntKind.i64) (Ty.int IntKind.i64)))), agg := true }, { t := Ty.int IntKind.i64 }]
noncomputable def to_spec_flRun (r : (Int × Int × Int) × Int × Int × List (Int × Int)) : Tup r_spec_flRun × OutD := ((r.1, r.2, ()), none)
noncomputable def of_spec_flRun : Tup r_spec_flRun × OutD → Option ((Int × Int × Int) × Int × Int × List (Int × Int))
  | (a, none) => some (a.1, a.2.1)
  | _ => none
theorem to_of_spec_flRun : ∀ b r, of_spec_flRun b = some r → to_spec_flRun r = b := by
  rintro ⟨a, o⟩ r h
  cases o with
  | none => injection h with h; subst h; rfl
  | some _ => cases h
noncomputable def f_spec_flRun_g1 : Nat → Int → Int → List (Int × Int) → Int → Int → Int → Int → Int → List (Int × Int) → Int → Option (Int × Int × Int × Int × Int × List (Int × Int) × Int × Int × Int × Int × Int × List (Int × Int)) := fun k b1_0 b1_1 b1_2 b2_0 b2_1 b2_2 b3_0 b3_1 o4 v1 =>
    Option.bind (f_spec_ggGroups k (b1_0, b1_1, b1_2)) fun z0 => Option.bind (f_spec_flGo k (b1_0, b1_1, b1_2) z0 v1) fun z1 => some (b2_0, b2_1, b2_2, b3_0, b3_1, o4, Prod.fst (Prod.fst z1), Prod.fst (Prod.snd (Prod.fst z1)), Prod.snd (Prod.snd (Prod.fst z1)), Prod.fst (Prod.fst (Prod.snd z1)), Prod.fst (Prod.snd (Prod.fst (Prod.snd z1))), Prod.snd (Prod.snd (Prod.fst (Prod.snd z1))))
noncomputable def f_spec_flRun_g1A : Nat → Int → Int → List (Int × Int) → Int → Int → Int → Int → Int → List (Int × Int) → Int → Option (List (Int × Int × Int × Int × Int × List (Int × Int) × Int × Int × Int × Int × Int × List (Int × Int))) := fun k b1_0 b1_1 b1_2 b2_0 b2_1 b2_2 b3_0 b3_1 o4 v1 =>
    joinL (Option.bind (f_spec_ggGroups k (b1_0, b1_1, b1_2)) fun z2 => joinL (Option.bind (f_spec_flGo k (b1_0, b1_1, b1_2) z2 v1) fun z3 => joinL (some [(b2_0, b2_1, b2_2, b3_0, b3_1, o4, Prod.fst (Prod.fst z3), Prod.fst (Prod.snd (Prod.fst z3)), Prod.snd (Prod.snd (Prod.fst z3)), Prod.fst (Prod.fst (Prod.snd z3)), Prod.fst (Prod.snd (Prod.fst (Prod.snd z3))), Prod.snd (Prod.snd (Prod.fst (Prod.snd z3))))]) (some [(b2_0, b2_1, b2_2, b3_0, b3_1, o4, Prod.fst (Prod.fst z3), Prod.fst (Prod.snd (Prod.fst z3)), Prod.snd (Prod.snd (Prod.fst z3)), Prod.fst (Prod.fst (Prod.snd z3)), Prod.fst (Prod.snd (Prod.fst (Prod.snd z3))), Prod.snd (Prod.snd (Prod.fst (Prod.snd z3))))])) (joinL (joinL (Option.bind (f_spec_flGo k (b1_0, b1_1, b1_2) z2 v1) fun z4 => some [(b2_0, b2_1, b2_2, b3_0, b3_1, o4, Prod.fst (Prod.fst z4), Prod.fst (Prod.snd (Prod.fst z4)), Prod.snd (Prod.snd (Prod.fst z4)), Prod.fst (Prod.fst (Prod.snd z4)), Prod.fst (Prod.snd (Prod.fst (Prod.snd z4))), Prod.snd (Prod.snd (Prod.fst (Prod.snd z4))))]) (Option.bind (f_spec_flGo k (b1_0, b1_1, b1_2) z2 v1) fun z5 => some [(b2_0, b2_1, b2_2, b3_0, b3_1, o4, Prod.fst (Prod.fst z5), Prod.fst (Prod.snd (Prod.fst z5)), Prod.snd (Prod.snd (Prod.fst z5)), Prod.fst (Prod.fst (Prod.snd z5)), Prod.fst (Prod.snd (Prod.fst (Prod.snd z5))), Prod.snd (Prod.snd (Prod.fst (Prod.snd z5))))])) (joinL (Option.bind (f_spec_flGo k (b1_0, b1_1, b1_2) z2 v1) fun z6 => some [(b2_0, b2_1, b2_2, b3_0, b3_1, o4, Prod.fst (Prod.fst z6), Prod.fst (Prod.snd (Prod.fst z6)), Prod.snd (Prod.snd (Prod.fst z6)), Prod.fst (Prod.fst (Prod.snd z6)), Prod.fst (Prod.snd (Prod.fst (Prod.snd z6))), Prod.snd (Prod.snd (Prod.fst (Prod.snd z6))))]) (Option.bind (f_spec_flGo k (b1_0, b1_1, b1_2) z2 v1) fun z7 => some [(b2_0, b2_1, b2_2, b3_0, b3_1, o4, Prod.fst (Prod.fst z7), Prod.fst (Prod.snd (Prod.fst z7)), Prod.snd (Prod.snd (Prod.fst z7)), Prod.fst (Prod.fst (Prod.snd z7)), Prod.fst (Prod.snd (Prod.fst (Prod.snd z7))), Prod.snd (Prod.snd (Prod.fst (Prod.snd z7))))])))) (joinL (joinL (Option.bind (f_spec_ggGroups k (b1_0, b1_1, b1_2)) fun z8 => joinL (Option.bind (f_spec_flGo k (b1_0, b1_1, b1_2) z8 v1) fun z9 => some [(b2_0, b2_1, b2_2, b3_0, b3_1, o4, Prod.fst (Prod.fst z9), Prod.fst (Prod.snd (Prod.fst z9)), Prod.snd (Prod.snd (Prod.fst z9)), Prod.fst (Prod.fst (Prod.snd z9)), Prod.fst (Prod.snd (Prod.fst (Prod.snd z9))), Prod.snd (Prod.snd (Prod.fst (Prod.snd z9))))]) (Option.bind (f_spec_flGo k (b1_0, b1_1, b1_2) z8 v1) fun z10 => some [(b2_0, b2_1, b2_2, b3_0, b3_1, o4, Prod.fst (Prod.fst z10), Prod.fst (Prod.snd (Prod.fst z10)), Prod.snd (Prod.snd (Prod.fst z10)), Prod.fst (Prod.fst (Prod.snd z10)), Prod.fst (Prod.snd (Prod.fst (Prod.snd z10))), Prod.snd (Prod.snd (Prod.fst (Prod.snd z10))))])) (Option.bind (f_spec_ggGroups k (b1_0, b1_1, b1_2)) fun z11 => Option.bind (f_spec_flGo k (b1_0, b1_1, b1_2) z11 v1) fun z12 => some [(b2_0, b2_1, b2_2, b3_0, b3_1, o4, Prod.fst (Prod.fst z12), Prod.fst (Prod.snd (Prod.fst z12)), Prod.snd (Prod.snd (Prod.fst z12)), Prod.fst (Prod.fst (Prod.snd z12)), Prod.fst (Prod.snd (Prod.fst (Prod.snd z12))), Prod.snd (Prod.snd (Prod.fst (Prod.snd z12))))])) (joinL (Option.bind (f_spec_ggGroups k (b1_0, b1_1, b1_2)) fun z13 => joinL (Option.bind (f_spec_flGo k (b1_0, b1_1, b1_2) z13 v1) fun z14 => some [(b2_0, b2_1, b2_2, b3_0, b3_1, o4, Prod.fst (Prod.fst z14), Prod.fst (Prod.snd (Prod.fst z14)), Prod.snd (Prod.snd (Prod.fst z14)), Prod.fst (Prod.fst (Prod.snd z14)), Prod.fst (Prod.snd (Prod.fst (Prod.snd z14))), Prod.snd (Prod.snd (Prod.fst (Prod.snd z14))))]) (Option.bind (f_spec_flGo k (b1_0, b1_1, b1_2) z13 v1) fun z15 => some [(b2_0, b2_1, b2_2, b3_0, b3_1, o4, Prod.fst (Prod.fst z15), Prod.fst (Prod.snd (Prod.fst z15)), Prod.snd (Prod.snd (Prod.fst z15)), Prod.fst (Prod.fst (Prod.snd z15)), Prod.fst (Prod.snd (Prod.fst (Prod.snd z15))), Prod.snd (Prod.snd (Prod.fst (Prod.snd z15))))])) (Option.bind (f_spec_ggGroups k (b1_0, b1_1, b1_2)) fun z16 => Option.bind (f_spec_flGo k (b1_0, b1_1, b1_2) z16 v1) fun z17 => some [(b2_0, b2_1, b2_2, b3_0, b3_1, o4, Prod.fst (Prod.fst z17), Prod.fst (Prod.snd (Prod.fst z17)), Prod.snd (Prod.snd (Prod.fst z17)), Prod.fst (Prod.fst (Prod.snd z17)), Prod.fst (Prod.snd (Prod.fst (Prod.snd z17))), Prod.snd (Prod.snd (Prod.fst (Prod.snd z17))))])))
noncomputable def f_spec_flRun_g1i : Spec := { objs := [OSh.ro, OSh.box (31 : Nat) [Sh.int IntKind.i64, Sh.int IntKind.i64, Sh.snap (0 : Nat) (Ty.pair (Ty.int IntKind.i64) (Ty.int IntKind.i64))], OSh.box (71 : Nat) [Sh.int IntKind.i64, Sh.int IntKind.i64, Sh.int IntKind.i64], OSh.box (31 : Nat) [Sh.int IntKind.i64, Sh.int IntKind.i64, Sh.sl (4 : Nat)], OSh.row true (75 : Nat) (Ty.pair (Ty.int IntKind.i64) (Ty.int IntKind.i64))], tmps := [((1 : Nat), TSh.at (Sh.int IntKind.i64)), ((2 : Nat), TSh.at (Sh.ptr (1 : Nat) (0 : Nat))), ((4 : Nat), TSh.at (Sh.ptr (2 : Nat) (0 : Nat))), ((5 : Nat), TSh.at (Sh.ptr (3 : Nat) (0 : Nat)))] }
noncomputable def f_spec_flRun_g1o : Spec := { objs := [OSh.ro, OSh.box (71 : Nat) [Sh.int IntKind.i64, Sh.int IntKind.i64, Sh.int IntKind.i64], OSh.box (31 : Nat) [Sh.int IntKind.i64, Sh.int IntKind.i64, Sh.sl (3 : Nat)], OSh.row true (75 : Nat) (Ty.pair (Ty.int IntKind.i64) (Ty.int IntKind.i64)), OSh.box (71 : Nat) [Sh.int IntKind.i64, Sh.int IntKind.i64, Sh.int IntKind.i64], OSh.box (31 : Nat) [Sh.int IntKind.i64, Sh.int IntKind.i64, Sh.sl (6 : Nat)], OSh.row true (75 : Nat) (Ty.pair (Ty.int IntKind.i64) (Ty.int IntKind.i64))], tmps := [((4 : Nat), TSh.at (Sh.ptr (1 : Nat) (0 : Nat))), ((5 : Nat), TSh.at (Sh.ptr (2 : Nat) (0 : Nat))), ((6 : Nat), TSh.at (Sh.ptr (4 : Nat) (0 : Nat))), ((7 : Nat), TSh.at (Sh.ptr (5 : Nat) (0 : Nat)))] }
noncomputable def f_spec_flRun_g1D : LoopDef (Tup r_spec_flRun × OutD) := .plain f_spec_flRun_g1i f_spec_flRun_g1o (Int × Int × Int × Int × Int × List (Int × Int) × Int × Int × Int × Int × Int × List (Int × Int)) (fun k x => f_spec_flRun_g1 k x.1.2.1.1 x.1.2.1.2.1 x.1.2.1.2.2.1 x.1.2.2.1.1 x.1.2.2.1.2.1 x.1.2.2.1.2.2.1 x.1.2.2.2.1.1 x.1.2.2.2.1.2.1 x.1.2.2.2.2.1 x.2.1) (fun z => (((), (z.1, z.2.1, z.2.2.1, ()), (z.2.2.2.1, z.2.2.2.2.1, (), ()), z.2.2.2.2.2.1, (z.2.2.2.2.2.2.1, z.2.2.2.2.2.2.2.1, z.2.2.2.2.2.2.2.2.1, ()), (z.2.2.2.2.2.2.2.2.2.1, z.2.2.2.2.2.2.2.2.2.2.1, (), ()), z.2.2.2.2.2.2.2.2.2.2.2, ()), ((), (), (), (), ()))) (fun y => (y.1.2.1.1, y.1.2.1.2.1, y.1.2.1.2.2.1, y.1.2.2.1.1, y.1.2.2.1.2.1, y.1.2.2.2.1, y.1.2.2.2.2.1.1, y.1.2.2.2.2.1.2.1, y.1.2.2.2.2.1.2.2.1, y.1.2.2.2.2.2.1.1, y.1.2.2.2.2.2.1.2.1, y.1.2.2.2.2.2.2.1)) (fun _ => rfl)
theorem f_spec_flRun_g1j (k : Nat) (b1_0 : Int) (b1_1 : Int) (b1_2 : List (Int × Int)) (b2_0 : Int) (b2_1 : Int) (b2_2 : Int) (b3_0 : Int) (b3_1 : Int) (o4 : List (Int × Int)) (v1 : Int) : f_spec_flRun_g1A k b1_0 b1_1 b1_2 b2_0 b2_1 b2_2 b3_0 b3_1 o4 v1 = repl 12 (f_spec_flRun_g1 k b1_0 b1_1 b1_2 b2_0 b2_1 b2_2 b3_0 b3_1 o4 v1) := by
  first
  | (simp only [f_spec_flRun_g1A, f_spec_flRun_g1, repl_some, repl_ite, repl_ite0, repl_ite1, repl_bind, joinL_repl, if_true]; done)
  | (simp only [f_spec_flRun_g1A, f_spec_flRun_g1, repl_some, repl_ite, repl_ite0, repl_ite1, repl_bind, joinL_repl, if_true]; simp only [joinL_grdl, joinL_grdr, repl_grd, joinL_repl]; simp only [grd_and]; exact grd_congr ⟨fun h => by simp only [h, and_self], fun h => by simp only [h, and_self]⟩)
noncomputable def f_spec_flRun_g2 : Nat → Int → Int → Int → Int → Int → List (Int × Int) → Int → Int → Int → Int → Int → List (Int × Int) → Option (Int × Int × Int × Int × Int × List (Int × Int)) := fun k b1_0 b1_1 b1_2 b2_0 b2_1 o3 b4_0 b4_1 b4_2 b5_0 b5_1 o6 =>
    some (b4_0, b4_1, b4_2, b5_0, b5_1, o6)
noncomputable def f_spec_flRun_g2A : Nat → Int → Int → Int → Int → Int → List (Int × Int) → Int → Int → Int → Int → Int → List (Int × Int) → Option (List (Int × Int × Int × Int × Int × List (Int × Int))) := fun k b1_0 b1_1 b1_2 b2_0 b2_1 o3 b4_0 b4_1 b4_2 b5_0 b5_1 o6 =>
    joinL (some [(b4_0, b4_1, b4_2, b5_0, b5_1, o6)]) (some [(b4_0, b4_1, b4_2, b5_0, b5_1, o6)])
noncomputable def f_spec_flRun_g2i : Spec := { objs := [OSh.ro, OSh.box (71 : Nat) [Sh.int IntKind.i64, Sh.int IntKind.i64, Sh.int IntKind.i64], OSh.box (31 : Nat) [Sh.int IntKind.i64, Sh.int IntKind.i64, Sh.sl (3 : Nat)], OSh.row true (75 : Nat) (Ty.pair (Ty.int IntKind.i64) (Ty.int IntKind.i64)), OSh.box (71 : Nat) [Sh.int IntKind.i64, Sh.int IntKind.i64, Sh.int IntKind.i64], OSh.box (31 : Nat) [Sh.int IntKind.i64, Sh.int IntKind.i64, Sh.sl (6 : Nat)], OSh.row true (75 : Nat) (Ty.pair (Ty.int IntKind.i64) (Ty.int IntKind.i64))], tmps := [((4 : Nat), TSh.at (Sh.ptr (1 : Nat) (0 : Nat))), ((5 : Nat), TSh.at (Sh.ptr (2 : Nat) (0 : Nat))), ((6 : Nat), TSh.at (Sh.ptr (4 : Nat) (0 : Nat))), ((7 : Nat), TSh.at (Sh.ptr (5 : Nat) (0 : Nat)))] }
noncomputable def f_spec_flRun_g2o : Spec := { objs := [OSh.ro, OSh.box (71 : Nat) [Sh.int IntKind.i64, Sh.int IntKind.i64, Sh.int IntKind.i64], OSh.box (31 : Nat) [Sh.int IntKind.i64, Sh.int IntKind.i64, Sh.sl (3 : Nat)], OSh.row true (75 : Nat) (Ty.pair (Ty.int IntKind.i64) (Ty.int IntKind.i64))], tmps := [((4 : Nat), TSh.at (Sh.ptr (1 : Nat) (0 : Nat))), ((5 : Nat), TSh.at (Sh.ptr (2 : Nat) (0 : Nat)))] }
noncomputable def f_spec_flRun_g2D : LoopDef (Tup r_spec_flRun × OutD) := .plain f_spec_flRun_g2i f_spec_flRun_g2o (Int × Int × Int × Int × Int × List (Int × Int)) (fun k x => f_spec_flRun_g2 k x.1.2.1.1 x.1.2.1.2.1 x.1.2.1.2.2.1 x.1.2.2.1.1 x.1.2.2.1.2.1 x.1.2.2.2.1 x.1.2.2.2.2.1.1 x.1.2.2.2.2.1.2.1 x.1.2.2.2.2.1.2.2.1 x.1.2.2.2.2.2.1.1 x.1.2.2.2.2.2.1.2.1 x.1.2.2.2.2.2.2.1) (fun z => (((), (z.1, z.2.1, z.2.2.1, ()), (z.2.2.2.1, z.2.2.2.2.1, (), ()), z.2.2.2.2.2, ()), ((), (), ()))) (fun y => (y.1.2.1.1, y.1.2.1.2.1, y.1.2.1.2.2.1, y.1.2.2.1.1, y.1.2.2.1.2.1, y.1.2.2.2.1)) (fun _ => rfl)
theorem f_spec_flRun_g2j (k : Nat) (b1_0 : Int) (b1_1 : Int) (b1_2 : Int) (b2_0 : Int) (b2_1 : Int) (o3 : List (Int × Int)) (b4_0 : Int) (b4_1 : Int) (b4_2 : Int) (b5_0 : Int) (b5_1 : Int) (o6 : List (Int × Int)) : f_spec_flRun_g2A k b1_0 b1_1 b1_2 b2_0 b2_1 o3 b4_0 b4_1 b4_2 b5_0 b5_1 o6 = repl 2 (f_spec_flRun_g2 k b1_0 b1_1 b1_2 b2_0 b2_1 o3 b4_0 b4_1 b4_2 b5_0 b5_1 o6) := by
  first
  | (simp only [f_spec_flRun_g2A, f_spec_flRun_g2, repl_some, repl_ite, repl_ite0, repl_ite1, repl_bind, joinL_repl, if_true]; done)
  | (simp only [f_spec_flRun_g2A, f_spec_flRun_g2, repl_some, repl_ite, repl_ite0, repl_ite1, repl_bind, joinL_repl, if_true]; simp only [joinL_grdl, joinL_grdr, repl_grd, joinL_repl]; simp only [grd_and]; exact grd_congr ⟨fun h => by simp only [h, and_self], fun h => by simp only [h, and_self]⟩)
noncomputable def f_spec_flRun : Nat → Int × Int × List (Int × Int) → Int → Option ((Int × Int × Int) × Int × Int × List (Int × Int))
  | 0, _, _ => none
  | k + 1, p0, p1 =>
    Option.bind (f_spec_flRun_g1 k (Prod.fst p0) (Prod.fst (Prod.snd p0)) (Prod.snd (Prod.snd p0)) (0 : Int) (0 : Int) (0 : Int) (0 : Int) (0 : Int) [] p1) fun z18 => Option.bind (f_spec_flRun_g2 k (Prod.fst z18) (Prod.fst (Prod.snd z18)) (Prod.fst (Prod.snd (Prod.snd z18))) (Prod.fst (Prod.snd (Prod.snd (Prod.snd z18)))) (Prod.fst (Prod.snd (Prod.snd (Prod.snd (Prod.snd z18))))) (Prod.fst (Prod.snd (Prod.snd (Prod.snd (Prod.snd (Prod.snd z18)))))) (Prod.fst (Prod.snd (Prod.snd (Prod.snd (Prod.snd (Prod.snd (Prod.snd z18))))))) (Prod.fst (Prod.snd (Prod.snd (Prod.snd (Prod.snd (Prod.snd (Prod.snd (Prod.snd z18)))))))) (Prod.fst (Prod.snd (Prod.snd (Prod.snd (Prod.snd (Prod.snd (Prod.snd (Prod.snd (Prod.snd z18))))))))) (Prod.fst (Prod.snd (Prod.snd (Prod.snd (Prod.snd (Prod.snd (Prod.snd (Prod.snd (Prod.snd (Prod.snd z18)))))))))) (Prod.fst (Prod.snd (Prod.snd (Prod.snd (Prod.snd (Prod.snd (Prod.snd (Prod.snd (Prod.snd (Prod.snd (Prod.snd z18))))))))))) (Prod.snd (Prod.snd (Prod.snd (Prod.snd (Prod.snd (Prod.snd (Prod.snd (Prod.snd (Prod.snd (Prod.snd (Prod.snd z18)))))))))))) fun z19 => some ((Prod.fst z19, Prod.fst (Prod.snd z19), Prod.fst (Prod.snd (Prod.snd z19))), Prod.fst (Prod.snd (Prod.snd (Prod.snd z19))), Prod.fst (Prod.snd (Prod.snd (Prod.snd (Prod.snd z19)))), Prod.snd (Prod.snd (Prod.snd (Prod.snd (Prod.snd z19)))))
noncomputable def d_spec_flRun : FnDef := .of q_spec_flRun r_spec_flRun ((Int × Int × Int) × Int × Int × List (Int × Int)) (fun k x => f_spec_flRun k x.1 x.2.1) to_spec_flRun of_spec_flRun to_of_spec_flRun
noncomputable def c_spec_flRun : Code := Try.f58.body.getD .skip
noncomputable def x_spec_flRun : Ctx (Tup r_spec_flRun × OutD) := { T := T, G := [(75, d_spec_ggGroups.E), (76, d_spec_flGo.E)], mvs := [], no := 0, n := 20, res := resOf T q_spec_flRun r_spec_flRun Try.f58.results.toList, loops := [], regs := [(1, f_spec_flRun_g1D.E), (2, f_spec_flRun_g2D.E)], conds := [] }
theorem g_spec_flRun (k : Nat) : EnvOK Try.prog k x_spec_flRun.G := (EnvOK.cons (s_spec_ggGroups k) (EnvOK.cons (s_spec_flGo k) (EnvOK.nil mixed)))
noncomputable def f_spec_flRun_g1O : Array Oper := (findReg 1 c_spec_flRun).getD #[]
theorem f_spec_flRun_g1e (k : Nat) (x : f_spec_flRun_g1i.D) : execD x_spec_flRun.T x_spec_flRun.G x_spec_flRun.mvs k f_spec_flRun_g1O (f_spec_flRun_g1D.inp.st x_spec_flRun.n x) (outK x_spec_flRun f_spec_flRun_g1D) = f_spec_flRun_g1A k x.1.2.1.1 x.1.2.1.2.1 x.1.2.1.2.2.1 x.1.2.2.1.1 x.1.2.2.1.2.1 x.1.2.2.1.2.2.1 x.1.2.2.2.1.1 x.1.2.2.2.1.2.1 x.1.2.2.2.2.1 x.2.1 := by kernel_rfl
theorem f_spec_flRun_g1ok (k : Nat) : EOK Try.prog x_spec_flRun k f_spec_flRun_g1D.E (.region 1 f_spec_flRun_g1O true) := reg_ok (D := f_spec_flRun_g1D) (m := 12) T_ok (g_spec_flRun k) (fun x => (f_spec_flRun_g1e k x).trans (f_spec_flRun_g1j k x.1.2.1.1 x.1.2.1.2.1 x.1.2.1.2.2.1 x.1.2.2.1.1 x.1.2.2.1.2.1 x.1.2.2.1.2.2.1 x.1.2.2.2.1.1 x.1.2.2.2.1.2.1 x.1.2.2.2.2.1 x.2.1))
noncomputable def f_spec_flRun_g2O : Array Oper := (findReg 2 c_spec_flRun).getD #[]
theorem f_spec_flRun_g2e (k : Nat) (x : f_spec_flRun_g2i.D) : execD x_spec_flRun.T x_spec_flRun.G x_spec_flRun.mvs k f_spec_flRun_g2O (f_spec_flRun_g2D.inp.st x_spec_flRun.n x) (outK x_spec_flRun f_spec_flRun_g2D) = f_spec_flRun_g2A k x.1.2.1.1 x.1.2.1.2.1 x.1.2.1.2.2.1 x.1.2.2.1.1 x.1.2.2.1.2.1 x.1.2.2.2.1 x.1.2.2.2.2.1.1 x.1.2.2.2.2.1.2.1 x.1.2.2.2.2.1.2.2.1 x.1.2.2.2.2.2.1.1 x.1.2.2.2.2.2.1.2.1 x.1.2.2.2.2.2.2.1 := by kernel_rfl
theorem f_spec_flRun_g2ok (k : Nat) : EOK Try.prog x_spec_flRun k f_spec_flRun_g2D.E (.region 2 f_spec_flRun_g2O true) := reg_ok (D := f_spec_flRun_g2D) (m := 2) T_ok (g_spec_flRun k) (fun x => (f_spec_flRun_g2e k x).trans (f_spec_flRun_g2j k x.1.2.1.1 x.1.2.1.2.1 x.1.2.1.2.2.1 x.1.2.2.1.1 x.1.2.2.1.2.1 x.1.2.2.2.1 x.1.2.2.2.2.1.1 x.1.2.2.2.2.1.2.1 x.1.2.2.2.2.1.2.2.1 x.1.2.2.2.2.2.1.1 x.1.2.2.2.2.2.1.2.1 x.1.2.2.2.2.2.2.1))
theorem h_spec_flRun (k : Nat) (x : Tup d_spec_flRun.ps) : d_spec_flRun.f (k + 1) x = fnK d_spec_flRun x_spec_flRun c_spec_flRun k x := by kernel_rfl
theorem z_spec_flRun (x : Tup d_spec_flRun.ps) : d_spec_flRun.f 0 x = none := by kernel_rfl
theorem l_spec_flRun (k : Nat) : LOK Try.prog x_spec_flRun k c_spec_flRun := LOK.by [(f_spec_flRun_g1D.E, .region 1 f_spec_flRun_g1O true), (f_spec_flRun_g2D.E, .region 2 f_spec_flRun_g2O true)] (by kernel_rfl) (AllOK.cons (f_spec_flRun_g1ok k) (AllOK.cons (f_spec_flRun_g2ok k) AllOK.nil))
theorem s_spec_flRun (k : Nat) : SoundAt Try.prog k 58 d_spec_flRun.E := @fn_all Try.prog d_spec_flRun x_spec_flRun 58 Try.f58 c_spec_flRun (by kernel_rfl) (by kernel_rfl) (by kernel_rfl) Try.func58 (by kernel_rfl) (by kernel_rfl) (by kernel_rfl) T_ok g_spec_flRun l_spec_flRun z_spec_flRun h_spec_flRun k
/-! function 60 -/
noncomputable def r_impl_validEntry : List PK := [{ t := Ty.bool }]
noncomputable def q_impl_validEntry : List PK := [{ t := Ty.pair (Ty.int IntKind.i64) (Ty.pair (Ty.int IntKind.i64) (Ty.slice (75 : Nat) (Ty.pair (Ty.int IntKind.i64) (Ty.int IntKind.i64)))), agg := true }, { t := Ty.int IntKind.i64 }]
noncomputable def to_impl_validEntry (r : Bool) : Tup r_impl_validEntry × OutD := ((r, ()), none)
noncomputable def of_impl_validEntry : Tup r_impl_validEntry × OutD → Option (Bool)
  | (a, none) => some (a.1)
  | _ => none
theorem to_of_impl_validEntry : ∀ b r, of_impl_validEntry b = some r → to_impl_validEntry r = b := by
  rintro ⟨a, o⟩ r h
  cases o with
  | none => injection h with h; subst h; rfl
  | some _ => cases h
noncomputable def f_impl_validEntry : Nat → Int × Int × List (Int × Int) → Int → Option Bool
  | 0, _, _ => none
  | k + 1, p0, p1 =>
    Option.bind (f_impl_IsBoard k (Prod.fst p0, Prod.fst (Prod.snd p0), Prod.snd (Prod.snd p0))) fun z0 => if z0 = true then if decide (p1 ≥ (0 : Int)) = true then some (decide (p1 < Prod.fst (Prod.snd p0))) else some false else some false
noncomputable def d_impl_validEntry : FnDef := .of q_impl_validEntry r_impl_validEntry (Bool) (fun k x => f_impl_validEntry k x.1 x.2.1) to_impl_validEntry of_impl_validEntry to_of_impl_validEntry
noncomputable def c_impl_validEntry : Code := Try.f60.body.getD .skip
noncomputable def x_impl_validEntry : Ctx (Tup r_impl_validEntry × OutD) := { T := T, G := [(45, d_impl_IsBoard.E)], mvs := [], no := 0, n := 17, res := resOf T q_impl_validEntry r_impl_validEntry Try.f60.results.toList, loops := [], regs := [], conds := [] }
theorem g_impl_validEntry (k : Nat) : EnvOK Try.prog k x_impl_validEntry.G := (EnvOK.cons (s_impl_IsBoard k) (EnvOK.nil mixed))
theorem h_impl_validEntry (k : Nat) (x : Tup d_impl_validEntry.ps) : d_impl_validEntry.f (k + 1) x = fnK d_impl_validEntry x_impl_validEntry c_impl_validEntry k x := by kernel_rfl
theorem z_impl_validEntry (x : Tup d_impl_validEntry.ps) : d_impl_validEntry.f 0 x = none := by kernel_rfl
theorem l_impl_validEntry (k : Nat) : LOK Try.prog x_impl_validEntry k c_impl_validEntry := LOK.by [] (by kernel_rfl) AllOK.nil
theorem s_impl_validEntry (k : Nat) : SoundAt Try.prog k 60 d_impl_validEntry.E := @fn_all Try.prog d_impl_validEntry x_impl_validEntry 60 Try.f60 c_impl_validEntry (by kernel_rfl) (by kernel_rfl) (by kernel_rfl) Try.func60 (by kernel_rfl) (by kernel_rfl) (by kernel_rfl) T_ok g_impl_validEntry l_impl_validEntry z_impl_validEntry h_impl_validEntry k
/-! function 70 -/
noncomputable def r_spec_saBits : List PK := [{ t := Ty.slice (3 : Nat) (Ty.int IntKind.i64) }]
noncomputable def q_spec_saBits : List PK := [{ t := Ty.pair (Ty.int IntKind.i64) (Ty.pair (Ty.int IntKind.i64) (Ty.slice (75 : Nat) (Ty.pair (Ty.int IntKind.i64) (Ty.int IntKind.i64)))), agg := true }]
noncomputable def to_spec_saBits (r : List Int) : Tup r_spec_saBits × OutD := ((r, ()), none)
noncomputable def of_spec_saBits : Tup r_spec_saBits × OutD → Option (List Int)
  | (a, none) => some (a.1)
  | _ => none
theorem to_of_spec_saBits : ∀ b r, of_spec_saBits b = some r → to_spec_saBits r = b := by
  rintro ⟨a, o⟩ r h
  cases o with
  | none => injection h with h; subst h; rfl
  | some _ => cases h
noncomputable def f_spec_saBits_0 : Nat → Int → Int → List (Int × Int) → List Int → List (List Int) → Int → Int → Option (List Int)
  | 0, _, _, _, _, _, _, _ => none
  | k + 1, b1_0, b1_1, b1_2, o2, o3, v8, v9 =>
    if decide (v9 < v8) = true then if (0 : Int) ≤ v9 then if v9 < (↑(List.length o3) : Int) then if (0 : Int) < (↑(List.length (List.getD o3 (Int.toNat v9) [])) : Int) then if (0 : Int) ≤ List.getD (List.getD o3 (Int.toNat v9) []) (Int.toNat (0 : Int)) (0 : Int) then if List.getD (List.getD o3 (Int.toNat v9) []) (Int.toNat (0 : Int)) (0 : Int) < (↑(List.length b1_2) : Int) then if List.length o2 + List.length [Prod.snd (List.getD b1_2 (Int.toNat (List.getD (List.getD o3 (Int.toNat v9) []) (Int.toNat (0 : Int)) (0 : Int))) ((0 : Int), (0 : Int)))] ≤ (140737488355328 / 8 : Nat) then f_spec_saBits_0 k b1_0 b1_1 b1_2 (o2 ++ [Prod.snd (List.getD b1_2 (Int.toNat (List.getD (List.getD o3 (Int.toNat v9) []) (Int.toNat (0 : Int)) (0 : Int))) ((0 : Int), (0 : Int)))]) o3 v8 (wrap64 (v9 + (1 : Int))) else none else none else none else none else none else none else some o2
noncomputable def f_spec_saBits_0i : Spec := { objs := [OSh.ro, OSh.box (31 : Nat) [Sh.int IntKind.i64, Sh.int IntKind.i64, Sh.snap (0 : Nat) (Ty.pair (Ty.int IntKind.i64) (Ty.int IntKind.i64))], OSh.row true (3 : Nat) (Ty.int IntKind.i64), OSh.row true (26 : Nat) (Ty.slice (3 : Nat) (Ty.int IntKind.i64))], tmps := [((1 : Nat), TSh.at (Sh.ptr (1 : Nat) (0 : Nat))), ((3 : Nat), TSh.at (Sh.sl (2 : Nat))), ((7 : Nat), TSh.at (Sh.sl (3 : Nat))), ((8 : Nat), TSh.at (Sh.int IntKind.i64)), ((9 : Nat), TSh.at (Sh.int IntKind.i64))] }
noncomputable def f_spec_saBits_0o : Spec := { objs := [OSh.ro, OSh.row true (3 : Nat) (Ty.int IntKind.i64)], tmps := [((3 : Nat), TSh.at (Sh.sl (1 : Nat)))] }
noncomputable def f_spec_saBits_0D : LoopDef (Tup r_spec_saBits × OutD) := .plain f_spec_saBits_0i f_spec_saBits_0o (List Int) (fun k x => f_spec_saBits_0 k x.1.2.1.1 x.1.2.1.2.1 x.1.2.1.2.2.1 x.1.2.2.1 x.1.2.2.2.1 x.2.2.2.2.1 x.2.2.2.2.2.1) (fun z => (((), z, ()), ((), ()))) (fun y => (y.1.2.1)) (fun _ => rfl)
noncomputable def f_spec_saBits : Nat → Int × Int × List (Int × Int) → Option (List Int)
  | 0, _ => none
  | k + 1, p0 =>
    Option.bind (f_spec_saUnits k (Prod.fst p0, Prod.fst (Prod.snd p0), Prod.snd (Prod.snd p0))) fun z0 => Option.bind (f_spec_saBits_0 k (Prod.fst p0) (Prod.fst (Prod.snd p0)) (Prod.snd (Prod.snd p0)) [] z0 (↑(List.length z0) : Int) (0 : Int)) fun z1 => some z1
noncomputable def d_spec_saBits : FnDef := .of q_spec_saBits r_spec_saBits (List Int) (fun k x => f_spec_saBits k x.1) to_spec_saBits of_spec_saBits to_of_spec_saBits
noncomputable def c_spec_saBits : Code := Try.f70.body.getD .skip
noncomputable def x_spec_saBits : Ctx (Tup r_spec_saBits × OutD) := { T := T, G := [(56, d_spec_saUnits.E)], mvs := [], no := 0, n := 26, res := resOf T q_spec_saBits r_spec_saBits Try.f70.results.toList, loops := [(0, f_spec_saBits_0D.E)], regs := [], conds := [] }
theorem g_spec_saBits (k : Nat) : EnvOK Try.prog k x_spec_saBits.G := (EnvOK.cons (s_spec_saUnits k) (EnvOK.nil mixed))
noncomputable def f_spec_saBits_0B : Code := (findLoop 0 c_spec_saBits).getD .skip
theorem f_spec_saBits_0h (k : Nat) (x : f_spec_saBits_0i.D) : f_spec_saBits_0D.lp (k + 1) x = loopK x_spec_saBits f_spec_saBits_0D 0 f_spec_saBits_0B k x := by kernel_rfl
theorem f_spec_saBits_0l (k : Nat) : LOK Try.prog x_spec_saBits k f_spec_saBits_0B := LOK.by [] (by kernel_rfl) AllOK.nil
theorem f_spec_saBits_0z (x : f_spec_saBits_0i.D) : f_spec_saBits_0D.lp 0 x = none := by kernel_rfl
theorem f_spec_saBits_0ok (k : Nat) : EOK Try.prog x_spec_saBits k f_spec_saBits_0D.E (.block 0 (.loop f_spec_saBits_0B)) := loop_ok T_ok g_spec_saBits f_spec_saBits_0z f_spec_saBits_0h f_spec_saBits_0l k
theorem h_spec_saBits (k : Nat) (x : Tup d_spec_saBits.ps) : d_spec_saBits.f (k + 1) x = fnK d_spec_saBits x_spec_saBits c_spec_saBits k x := by kernel_rfl
theorem z_spec_saBits (x : Tup d_spec_saBits.ps) : d_spec_saBits.f 0 x = none := by kernel_rfl
theorem l_spec_saBits (k : Nat) : LOK Try.prog x_spec_saBits k c_spec_saBits := LOK.by [(f_spec_saBits_0D.E, .block 0 (.loop f_spec_saBits_0B))] (by kernel_rfl) (AllOK.cons (f_spec_saBits_0ok k) AllOK.nil)
theorem s_spec_saBits (k : Nat) : SoundAt Try.prog k 70 d_spec_saBits.E := @fn_all Try.prog d_spec_saBits x_spec_saBits 70 Try.f70 c_spec_saBits (by kernel_rfl) (by kernel_rfl) (by kernel_rfl) Try.func70 (by kernel_rfl) (by kernel_rfl) (by kernel_rfl) T_ok g_spec_saBits l_spec_saBits z_spec_saBits h_spec_saBits k
/-! function 73 -/
noncomputable def r_spec_saWith : List PK := [{ t := Ty.pair (Ty.int IntKind.i64) (Ty.pair (Ty.int IntKind.i64) (Ty.slice (75 : Nat) (Ty.pair (Ty.int IntKind.i64) (Ty.int IntKind.i64)))), agg := true }]
noncomputable def q_spec_saWith : List PK := [{ t := Ty.pair (Ty.int IntKind.i64) (Ty.pair (Ty.int IntKind.i64) (Ty.slice (75 : Nat) (Ty.pair (Ty.int IntKind.i64) (Ty.int IntKind.i64)))), agg := true }, { t := Ty.slice (3 : Nat) (Ty.int IntKind.i64) }]
noncomputable def to_spec_saWith (r : Int × Int × List (Int × Int)) : Tup r_spec_saWith × OutD := ((r, ()), none)
noncomputable def of_spec_saWith : Tup r_spec_saWith × OutD → Option (Int × Int × List (Int × Int))
  | (a, none) => some (a.1)
  | _ => none
theorem to_of_spec_saWith : ∀ b r, of_spec_saWith b = some r → to_spec_saWith r = b := by
  rintro ⟨a, o⟩ r h
  cases o with
  | none => injection h with h; subst h; rfl
  | some _ => cases h
noncomputable def f_spec_saWith_0 : Nat → Int → Int → List (Int × Int) → Int → Int → List (Int × Int) → Int → Int → List (Int × Int) → List (List Int) → List Int → Int → Int → Option (Int × Int × List (Int × Int) × Int × Int × List (Int × Int))
  | 0, _, _, _, _, _, _, _, _, _, _, _, _, _ => none
  | k + 1, b1_0, b1_1, b1_2, b2_0, b2_1, o3, b4_0, b4_1, o5, o6, v1, v12, v13 =>
    if decide (v13 < v12) = true then if (0 : Int) ≤ v13 then if v13 < (↑(List.length o6) : Int) then if (0 : Int) < (↑(List.length (List.getD o6 (Int.toNat v13) [])) : Int) then if (0 : Int) ≤ List.getD (List.getD o6 (Int.toNat v13) []) (Int.toNat (0 : Int)) (0 : Int) then if List.getD (List.getD o6 (Int.toNat v13) []) (Int.toNat (0 : Int)) (0 : Int) < (↑(List.length b1_2) : Int) then if (0 : Int) ≤ v13 then if v13 < (↑(List.length v1) : Int) then if decide (Prod.snd (List.getD b1_2 (Int.toNat (List.getD (List.getD o6 (Int.toNat v13) []) (Int.toNat (0 : Int)) (0 : Int))) ((0 : Int), (0 : Int))) ≠ List.getD v1 (Int.toNat v13) (0 : Int)) = true then Option.bind (f_spec_saTurn k (b4_0, b4_1, o5) (List.getD o6 (Int.toNat v13) [])) fun z2 => f_spec_saWith_0 k b1_0 b1_1 b1_2 b2_0 b2_1 o3 b4_0 b4_1 z2 o6 v1 v12 (wrap64 (v13 + (1 : Int))) else f_spec_saWith_0 k b1_0 b1_1 b1_2 b2_0 b2_1 o3 b4_0 b4_1 o5 o6 v1 v12 (wrap64 (v13 + (1 : Int))) else none else none else none else none else none else none else none else some (b2_0, b2_1, o3, b4_0, b4_1, o5)
noncomputable def f_spec_saWith_0i : Spec := { objs := [OSh.ro, OSh.box (31 : Nat) [Sh.int IntKind.i64, Sh.int IntKind.i64, Sh.snap (0 : Nat) (Ty.pair (Ty.int IntKind.i64) (Ty.int IntKind.i64))], OSh.box (31 : Nat) [Sh.int IntKind.i64, Sh.int IntKind.i64, Sh.sl (3 : Nat)], OSh.row true (75 : Nat) (Ty.pair (Ty.int IntKind.i64) (Ty.int IntKind.i64)), OSh.box (31 : Nat) [Sh.int IntKind.i64, Sh.int IntKind.i64, Sh.sl (5 : Nat)], OSh.row true (75 : Nat) (Ty.pair (Ty.int IntKind.i64) (Ty.int IntKind.i64)), OSh.row true (26 : Nat) (Ty.slice (3 : Nat) (Ty.int IntKind.i64))], tmps := [((1 : Nat), TSh.at (Sh.snap (0 : Nat) (Ty.int IntKind.i64))), ((2 : Nat), TSh.at (Sh.ptr (1 : Nat) (0 : Nat))), ((4 : Nat), TSh.at (Sh.ptr (2 : Nat) (0 : Nat))), ((5 : Nat), TSh.at (Sh.ptr (4 : Nat) (0 : Nat))), ((11 : Nat), TSh.at (Sh.sl (6 : Nat))), ((12 : Nat), TSh.at (Sh.int IntKind.i64)), ((13 : Nat), TSh.at (Sh.int IntKind.i64))] }
noncomputable def f_spec_saWith_0o : Spec := { objs := [OSh.ro, OSh.box (31 : Nat) [Sh.int IntKind.i64, Sh.int IntKind.i64, Sh.sl (2 : Nat)], OSh.row true (75 : Nat) (Ty.pair (Ty.int IntKind.i64) (Ty.int IntKind.i64)), OSh.box (31 : Nat) [Sh.int IntKind.i64, Sh.int IntKind.i64, Sh.sl (4 : Nat)], OSh.row true (75 : Nat) (Ty.pair (Ty.int IntKind.i64) (Ty.int IntKind.i64))], tmps := [((4 : Nat), TSh.at (Sh.ptr (1 : Nat) (0 : Nat))), ((5 : Nat), TSh.at (Sh.ptr (3 : Nat) (0 : Nat)))] }
noncomputable def f_spec_saWith_0D : LoopDef (Tup r_spec_saWith × OutD) := .plain f_spec_saWith_0i f_spec_saWith_0o (Int × Int × List (Int × Int) × Int × Int × List (Int × Int)) (fun k x => f_spec_saWith_0 k x.1.2.1.1 x.1.2.1.2.1 x.1.2.1.2.2.1 x.1.2.2.1.1 x.1.2.2.1.2.1 x.1.2.2.2.1 x.1.2.2.2.2.1.1 x.1.2.2.2.2.1.2.1 x.1.2.2.2.2.2.1 x.1.2.2.2.2.2.2.1 x.2.1 x.2.2.2.2.2.2.1 x.2.2.2.2.2.2.2.1) (fun z => (((), (z.1, z.2.1, (), ()), z.2.2.1, (z.2.2.2.1, z.2.2.2.2.1, (), ()), z.2.2.2.2.2, ()), ((), (), ()))) (fun y => (y.1.2.1.1, y.1.2.1.2.1, y.1.2.2.1, y.1.2.2.2.1.1, y.1.2.2.2.1.2.1, y.1.2.2.2.2.1)) (fun _ => rfl)
noncomputable def f_spec_saWith : Nat → Int × Int × List (Int × Int) → List Int → Option (Int × Int × List (Int × Int))
  | 0, _, _ => none
  | k + 1, p0, p1 =>
    Option.bind (f_spec_boOwn k (Prod.fst p0, Prod.fst (Prod.snd p0), Prod.snd (Prod.snd p0))) fun z0 => Option.bind (f_spec_saUnits k (Prod.fst p0, Prod.fst (Prod.snd p0), Prod.snd (Prod.snd p0))) fun z1 => Option.bind (f_spec_saWith_0 k (Prod.fst p0) (Prod.fst (Prod.snd p0)) (Prod.snd (Prod.snd p0)) (0 : Int) (0 : Int) [] (Prod.fst z0) (Prod.fst (Prod.snd z0)) (Prod.snd (Prod.snd z0)) z1 p1 (↑(List.length z1) : Int) (0 : Int)) fun z3 => some (Prod.fst (Prod.snd (Prod.snd (Prod.snd z3))), Prod.fst (Prod.snd (Prod.snd (Prod.snd (Prod.snd z3)))), Prod.snd (Prod.snd (Prod.snd (Prod.snd (Prod.snd z3)))))
noncomputable def d_spec_saWith : FnDef := .of q_spec_saWith r_spec_saWith (Int × Int × List (Int × Int)) (fun k x => f_spec_saWith k x.1 x.2.1) to_spec_saWith of_spec_saWith to_of_spec_saWith
noncomputable def c_spec_saWith : Code := Try.f73.body.getD .skip
noncomputable def x_spec_saWith : Ctx (Tup r_spec_saWith × OutD) := { T := T, G := [(54, d_spec_boOwn.E), (56, d_spec_saUnits.E), (68, d_spec_saTurn.E)], mvs := [], no := 0, n := 36, res := resOf T q_spec_saWith r_spec_saWith Try.f73.results.toList, loops := [(0, f_spec_saWith_0D.E)], regs := [], conds := [] }
theorem g_spec_saWith (k : Nat) : EnvOK Try.prog k x_spec_saWith.G := (EnvOK.cons (s_spec_boOwn k) (EnvOK.cons (s_spec_saUnits k) (EnvOK.cons (s_spec_saTurn k) (EnvOK.nil mixed))))
noncomputable def f_spec_saWith_0B : Code := (findLoop 0 c_spec_saWith).getD .skip
theorem f_spec_saWith_0h (k : Nat) (x : f_spec_saWith_0i.D) : f_spec_saWith_0D.lp (k + 1) x = loopK x_spec_saWith f_spec_saWith_0D 0 f_spec_saWith_0B k x := by kernel_rfl
theorem f_spec_saWith_0l (k : Nat) : LOK Try.prog x_spec_saWith k f_spec_saWith_0B := LOK.by [] (by kernel_rfl) AllOK.nil
theorem f_spec_saWith_0z (x : f_spec_saWith_0i.D) : f_spec_saWith_0D.lp 0 x = none := by kernel_rfl
theorem f_spec_saWith_0ok (k : Nat) : EOK Try.prog x_spec_saWith k f_spec_saWith_0D.E (.block 0 (.loop f_spec_saWith_0B)) := loop_ok T_ok g_spec_saWith f_spec_saWith_0z f_spec_saWith_0h f_spec_saWith_0l k
theorem h_spec_saWith (k : Nat) (x : Tup d_spec_saWith.ps) : d_spec_saWith.f (k + 1) x = fnK d_spec_saWith x_spec_saWith c_spec_saWith k x := by kernel_rfl
theorem z_spec_saWith (x : Tup d_spec_saWith.ps) : d_spec_saWith.f 0 x = none := by kernel_rfl
theorem l_spec_saWith (k : Nat) : LOK Try.prog x_spec_saWith k c_spec_saWith := LOK.by [(f_spec_saWith_0D.E, .block 0 (.loop f_spec_saWith_0B))] (by kernel_rfl) (AllOK.cons (f_spec_saWith_0ok k) AllOK.nil)
theorem s_spec_saWith (k : Nat) : SoundAt Try.prog k 73 d_spec_saWith.E := @fn_all Try.prog d_spec_saWith x_spec_saWith 73 Try.f73 c_spec_saWith (by kernel_rfl) (by kernel_rfl) (by kernel_rfl) Try.func73 (by kernel_rfl) (by kernel_rfl) (by kernel_rfl) T_ok g_spec_saWith l_spec_saWith z_spec_saWith h_spec_saWith k
end
end Go.Proofs.Ytjjlmnbmpgfcbaa.Vs

set_option maxRecDepth 100000
set_option maxHeartbeats 2000000
set_option linter.unusedVariables false
set_option linter.unusedSimpArgs false
namespace Go.Proofs.Ytjjlmnbmpgfcbaa.Vs
open Go.RowKit
noncomputable section
/-! function 29 -/
noncomputable def r_impl_UndoMarbles : List PK := [{ t := Ty.pair (Ty.int IntKind.i64) (Ty.pair (Ty.int IntKind.i64) (Ty.slice (75 : Nat) (Ty.pair (Ty.int IntKind.i64) (Ty.int IntKind.i64)))), agg := true }, { t := Ty.bool }]
noncomputable def q_impl_UndoMarbles : List PK := [{ t := Ty.pair (Ty.int IntKind.i64) (Ty.pair (Ty.int IntKind.i64) (Ty.slice (75 : Nat) (Ty.pair (Ty.int IntKind.i64) (Ty.int IntKind.i64)))), agg := true }, { t := Ty.slice (3 : Nat) (Ty.int IntKind.i64) }]
noncomputable def to_impl_UndoMarbles (r : (Int × Int × List (Int × Int)) × Bool) : Tup r_impl_UndoMarbles × OutD := ((r.1, r.2, ()), none)
noncomputable def of_impl_UndoMarbles : Tup r_impl_UndoMarbles × OutD → Option ((Int × Int × List (Int × Int)) × Bool)
  | (a, none) => some (a.1, a.2.1)
  | _ => none
theorem to_of_impl_UndoMarbles : ∀ b r, of_impl_UndoMarbles b = some r → to_impl_UndoMarbles r = b := by
  rintro ⟨a, o⟩ r h
  cases o with
  | none => injection h with h; subst h; rfl
  | some _ => cases h
noncomputable def f_impl_UndoMarbles_0 : Nat → Int → Int → List (Int × Int) → Int → Int → List (Int × Int) → List Int → List Int → Int → Int → Option (LR (Int × Int × List (Int × Int) × Int × Int × List (Int × Int) × List Int) ((Int × Int × List (Int × Int)) × Bool))
  | 0, _, _, _, _, _, _, _, _, _, _ => none
  | k + 1, b1_0, b1_1, b1_2, b2_0, b2_1, o3, v1, v29, v30, v31 =>
    if decide (v31 < v30) = true then if (0 : Int) ≤ v31 then if v31 < (↑(List.length v29) : Int) then if decide (List.getD v29 (Int.toNat v31) (0 : Int) < (0 : Int)) = true then some (LR.ret (((0 : Int), (0 : Int), []), false)) else if decide (List.getD v29 (Int.toNat v31) (0 : Int) ≥ b1_1) = true then some (LR.ret (((0 : Int), (0 : Int), []), false)) else f_impl_UndoMarbles_0 k b1_0 b1_1 b1_2 b2_0 b2_1 o3 v1 v29 v30 (wrap64 (v31 + (1 : Int))) else none else none else some (LR.go (b1_0, b1_1, b1_2, b2_0, b2_1, o3, v1))
noncomputable def f_impl_UndoMarbles_0i : Spec := { objs := [OSh.ro, OSh.box (31 : Nat) [Sh.int IntKind.i64, Sh.int IntKind.i64, Sh.snap (0 : Nat) (Ty.pair (Ty.int IntKind.i64) (Ty.int IntKind.i64))], OSh.box (31 : Nat) [Sh.int IntKind.i64, Sh.int IntKind.i64, Sh.sl (3 : Nat)], OSh.row true (75 : Nat) (Ty.pair (Ty.int IntKind.i64) (Ty.int IntKind.i64))], tmps := [((1 : Nat), TSh.at (Sh.snap (0 : Nat) (Ty.int IntKind.i64))), ((2 : Nat), TSh.at (Sh.ptr (1 : Nat) (0 : Nat))), ((4 : Nat), TSh.at (Sh.ptr (2 : Nat) (0 : Nat))), ((29 : Nat), TSh.at (Sh.snap (0 : Nat) (Ty.int IntKind.i64))), ((30 : Nat), TSh.at (Sh.int IntKind.i64)), ((31 : Nat), TSh.at (Sh.int IntKind.i64))] }
noncomputable def f_impl_UndoMarbles_0o : Spec := { objs := [OSh.ro, OSh.box (31 : Nat) [Sh.int IntKind.i64, Sh.int IntKind.i64, Sh.snap (0 : Nat) (Ty.pair (Ty.int IntKind.i64) (Ty.int IntKind.i64))], OSh.box (31 : Nat) [Sh.int IntKind.i64, Sh.int IntKind.i64, Sh.sl (3 : Nat)], OSh.row true (75 : Nat) (Ty.pair (Ty.int IntKind.i64) (Ty.int IntKind.i64))], tmps := [((1 : Nat), TSh.at (Sh.snap (0 : Nat) (Ty.int IntKind.i64))), ((2 : Nat), TSh.at (Sh.ptr (1 : Nat) (0 : Nat))), ((4 : Nat), TSh.at (Sh.ptr (2 : Nat) (0 : Nat)))] }
noncomputable def f_impl_UndoMarbles_0D : LoopDef (Tup r_impl_UndoMarbles × OutD) := .rets f_impl_UndoMarbles_0i f_impl_UndoMarbles_0o (Int × Int × List (Int × Int) × Int × Int × List (Int × Int) × List Int) ((Int × Int × List (Int × Int)) × Bool) (fun k x => f_impl_UndoMarbles_0 k x.1.2.1.1 x.1.2.1.2.1 x.1.2.1.2.2.1 x.1.2.2.1.1 x.1.2.2.1.2.1 x.1.2.2.2.1 x.2.1 x.2.2.2.2.1 x.2.2.2.2.2.1 x.2.2.2.2.2.2.1) (fun z => (((), (z.1, z.2.1, z.2.2.1, ()), (z.2.2.2.1, z.2.2.2.2.1, (), ()), z.2.2.2.2.2.1, ()), (z.2.2.2.2.2.2, (), (), ()))) (fun y => (y.1.2.1.1, y.1.2.1.2.1, y.1.2.1.2.2.1, y.1.2.2.1.1, y.1.2.2.1.2.1, y.1.2.2.2.1, y.2.1)) (fun _ => rfl) to_impl_UndoMarbles of_impl_UndoMarbles to_of_impl_UndoMarbles
noncomputable def f_impl_UndoMarbles_4 : Nat → Int → Int → List (Int × Int) → Int → Int → List (Int × Int) → List (List Int) → Int → Int → Int → Int → Int → Int → Option (LR (Int × Int × List (Int × Int) × Int × Int × List (Int × Int) × List (List Int) × Int × Int) ((Int × Int × List (Int × Int)) × Bool))
  | 0, _, _, _, _, _, _, _, _, _, _, _, _, _ => none
  | k + 1, b1_0, b1_1, b1_2, b2_0, b2_1, o3, o4, v9, v10, v11, v61, v62, v63 =>
    if decide (v63 < v62) = true then if (0 : Int) ≤ v63 then if v63 < (↑(List.length (List.getD o4 (Int.toNat v61) [])) : Int) then if decide (List.getD (List.getD o4 (Int.toNat v61) []) (Int.toNat v63) (0 : Int) = v9) = true then if decide (v11 ≥ (0 : Int)) = true then some (LR.ret (((0 : Int), (0 : Int), []), false)) else f_impl_UndoMarbles_4 k b1_0 b1_1 b1_2 b2_0 b2_1 o3 o4 v9 v10 v63 v61 v62 (wrap64 (v63 + (1 : Int))) else f_impl_UndoMarbles_4 k b1_0 b1_1 b1_2 b2_0 b2_1 o3 o4 v9 v10 v11 v61 v62 (wrap64 (v63 + (1 : Int))) else none else none else some (LR.go (b1_0, b1_1, b1_2, b2_0, b2_1, o3, o4, v10, v11))
noncomputable def f_impl_UndoMarbles_4i : Spec := { objs := [OSh.ro, OSh.box (31 : Nat) [Sh.int IntKind.i64, Sh.int IntKind.i64, Sh.snap (0 : Nat) (Ty.pair (Ty.int IntKind.i64) (Ty.int IntKind.i64))], OSh.box (31 : Nat) [Sh.int IntKind.i64, Sh.int IntKind.i64, Sh.sl (3 : Nat)], OSh.row true (75 : Nat) (Ty.pair (Ty.int IntKind.i64) (Ty.int IntKind.i64)), OSh.row true (26 : Nat) (Ty.slice (3 : Nat) (Ty.int IntKind.i64))], tmps := [((2 : Nat), TSh.at (Sh.ptr (1 : Nat) (0 : Nat))), ((4 : Nat), TSh.at (Sh.ptr (2 : Nat) (0 : Nat))), ((8 : Nat), TSh.at (Sh.sl (4 : Nat))), ((9 : Nat), TSh.at (Sh.int IntKind.i64)), ((10 : Nat), TSh.at (Sh.int IntKind.i64)), ((11 : Nat), TSh.at (Sh.int IntKind.i64)), ((61 : Nat), TSh.at (Sh.inn (4 : Nat))), ((62 : Nat), TSh.at (Sh.int IntKind.i64)), ((63 : Nat), TSh.at (Sh.int IntKind.i64))] }
noncomputable def f_impl_UndoMarbles_4o : Spec := { objs := [OSh.ro, OSh.box (31 : Nat) [Sh.int IntKind.i64, Sh.int IntKind.i64, Sh.snap (0 : Nat) (Ty.pair (Ty.int IntKind.i64) (Ty.int IntKind.i64))], OSh.box (31 : Nat) [Sh.int IntKind.i64, Sh.int IntKind.i64, Sh.sl (3 : Nat)], OSh.row true (75 : Nat) (Ty.pair (Ty.int IntKind.i64) (Ty.int IntKind.i64)), OSh.row true (26 : Nat) (Ty.slice (3 : Nat) (Ty.int IntKind.i64))], tmps := [((2 : Nat), TSh.at (Sh.ptr (1 : Nat) (0 : Nat))), ((4 : Nat), TSh.at (Sh.ptr (2 : Nat) (0 : Nat))), ((8 : Nat), TSh.at (Sh.sl (4 : Nat))), ((10 : Nat), TSh.at (Sh.int IntKind.i64)), ((11 : Nat), TSh.at (Sh.int IntKind.i64))] }
noncomputable def f_impl_UndoMarbles_4D : LoopDef (Tup r_impl_UndoMarbles × OutD) := .rets f_impl_UndoMarbles_4i f_impl_UndoMarbles_4o (Int × Int × List (Int × Int) × Int × Int × List (Int × Int) × List (List Int) × Int × Int) ((Int × Int × List (Int × Int)) × Bool) (fun k x => f_impl_UndoMarbles_4 k x.1.2.1.1 x.1.2.1.2.1 x.1.2.1.2.2.1 x.1.2.2.1.1 x.1.2.2.1.2.1 x.1.2.2.2.1 x.1.2.2.2.2.1 x.2.2.2.2.1 x.2.2.2.2.2.1 x.2.2.2.2.2.2.1 x.2.2.2.2.2.2.2.1 x.2.2.2.2.2.2.2.2.1 x.2.2.2.2.2.2.2.2.2.1) (fun z => (((), (z.1, z.2.1, z.2.2.1, ()), (z.2.2.2.1, z.2.2.2.2.1, (), ()), z.2.2.2.2.2.1, z.2.2.2.2.2.2.1, ()), ((), (), (), z.2.2.2.2.2.2.2.1, z.2.2.2.2.2.2.2.2, ()))) (fun y => (y.1.2.1.1, y.1.2.1.2.1, y.1.2.1.2.2.1, y.1.2.2.1.1, y.1.2.2.1.2.1, y.1.2.2.2.1, y.1.2.2.2.2.1, y.2.2.2.2.1, y.2.2.2.2.2.1)) (fun _ => rfl) to_impl_UndoMarbles of_impl_UndoMarbles to_of_impl_UndoMarbles
noncomputable def f_impl_UndoMarbles_2 : Nat → Int → Int → List (Int × Int) → Int → Int → List (Int × Int) → List (List Int) → Int → Int → Option (LR (Int × Int × List (Int × Int) × Int × Int × List (Int × Int) × Int) ((Int × Int × List (Int × Int)) × Bool))
  | 0, _, _, _, _, _, _, _, _, _ => none
  | k + 1, b1_0, b1_1, b1_2, b2_0, b2_1, o3, o4, v9, v10 =>
    if decide (v10 ≥ (0 : Int)) = true then if (0 : Int) ≤ v10 then if v10 < (↑(List.length o4) : Int) then Option.bind (f_impl_UndoMarbles_4 k b1_0 b1_1 b1_2 b2_0 b2_1 o3 o4 v9 v10 (-1 : Int) v10 (↑(List.length (List.getD o4 (Int.toNat v10) [])) : Int) (0 : Int)) fun z6 => LR.on z6 (fun y6 => if decide (Prod.snd (Prod.snd (Prod.snd (Prod.snd (Prod.snd (Prod.snd (Prod.snd (Prod.snd y6))))))) < (0 : Int)) = true then some (LR.ret (((0 : Int), (0 : Int), []), false)) else f_impl_UndoMarbles_2 k (Prod.fst y6) (Prod.fst (Prod.snd y6)) (Prod.fst (Prod.snd (Prod.snd y6))) (Prod.fst (Prod.snd (Prod.snd (Prod.snd y6)))) (Prod.fst (Prod.snd (Prod.snd (Prod.snd (Prod.snd y6))))) (Prod.fst (Prod.snd (Prod.snd (Prod.snd (Prod.snd (Prod.snd y6)))))) (Prod.fst (Prod.snd (Prod.snd (Prod.snd (Prod.snd (Prod.snd (Prod.snd y6))))))) (Prod.snd (Prod.snd (Prod.snd (Prod.snd (Prod.snd (Prod.snd (Prod.snd (Prod.snd y6)))))))) (wrap64 (Prod.fst (Prod.snd (Prod.snd (Prod.snd (Prod.snd (Prod.snd (Prod.snd (Prod.snd y6))))))) - (1 : Int)))) fun r6 => some (LR.ret r6) else none else none else some (LR.go (b1_0, b1_1, b1_2, b2_0, b2_1, o3, v9))
noncomputable def f_impl_UndoMarbles_2i : Spec := { objs := [OSh.ro, OSh.box (31 : Nat) [Sh.int IntKind.i64, Sh.int IntKind.i64, Sh.snap (0 : Nat) (Ty.pair (Ty.int IntKind.i64) (Ty.int IntKind.i64))], OSh.box (31 : Nat) [Sh.int IntKind.i64, Sh.int IntKind.i64, Sh.sl (3 : Nat)], OSh.row true (75 : Nat) (Ty.pair (Ty.int IntKind.i64) (Ty.int IntKind.i64)), OSh.row true (26 : Nat) (Ty.slice (3 : Nat) (Ty.int IntKind.i64))], tmps := [((2 : Nat), TSh.at (Sh.ptr (1 : Nat) (0 : Nat))), ((4 : Nat), TSh.at (Sh.ptr (2 : Nat) (0 : Nat))), ((8 : Nat), TSh.at (Sh.sl (4 : Nat))), ((9 : Nat), TSh.at (Sh.int IntKind.i64)), ((10 : Nat), TSh.at (Sh.int IntKind.i64))] }
noncomputable def f_impl_UndoMarbles_2o : Spec := { objs := [OSh.ro, OSh.box (31 : Nat) [Sh.int IntKind.i64, Sh.int IntKind.i64, Sh.snap (0 : Nat) (Ty.pair (Ty.int IntKind.i64) (Ty.int IntKind.i64))], OSh.box (31 : Nat) [Sh.int IntKind.i64, Sh.int IntKind.i64, Sh.sl (3 : Nat)], OSh.row true (75 : Nat) (Ty.pair (Ty.int IntKind.i64) (Ty.int IntKind.i64))], tmps := [((2 : Nat), TSh.at (Sh.ptr (1 : Nat) (0 : Nat))), ((4 : Nat), TSh.at (Sh.ptr (2 : Nat) (0 : Nat))), ((9 : Nat), TSh.at (Sh.int IntKind.i64))] }
noncomputable def f_impl_UndoMarbles_2D : LoopDef (Tup r_impl_UndoMarbles × OutD) := .rets f_impl_UndoMarbles_2i f_impl_UndoMarbles_2o (Int × Int × List (Int × Int) × Int × Int × List (Int × Int) × Int) ((Int × Int × List (Int × Int)) × Bool) (fun k x => f_impl_UndoMarbles_2 k x.1.2.1.1 x.1.2.1.2.1 x.1.2.1.2.2.1 x.1.2.2.1.1 x.1.2.2.1.2.1 x.1.2.2.2.1 x.1.2.2.2.2.1 x.2.2.2.2.1 x.2.2.2.2.2.1) (fun z => (((), (z.1, z.2.1, z.2.2.1, ()), (z.2.2.2.1, z.2.2.2.2.1, (), ()), z.2.2.2.2.2.1, ()), ((), (), z.2.2.2.2.2.2, ()))) (fun y => (y.1.2.1.1, y.1.2.1.2.1, y.1.2.1.2.2.1, y.1.2.2.1.1, y.1.2.2.1.2.1, y.1.2.2.2.1, y.2.2.2.1)) (fun _ => rfl) to_impl_UndoMarbles of_impl_UndoMarbles to_of_impl_UndoMarbles
noncomputable def f_impl_UndoMarbles : Nat → Int × Int × List (Int × Int) → List Int → Option ((Int × Int × List (Int × Int)) × Bool)
  | 0, _, _ => none
  | k + 1, p0, p1 =>
    Option.bind (f_impl_IsBoard k (Prod.fst p0, Prod.fst (Prod.snd p0), Prod.snd (Prod.snd p0))) fun z0 => if (!z0) = true then some (((0 : Int), (0 : Int), []), false) else Option.bind (f_impl_unitsOf k (Prod.fst p0, Prod.fst (Prod.snd p0), Prod.snd (Prod.snd p0))) fun z1 => if decide ((↑(List.length z1) : Int) > (10 : Int)) = true then some (((0 : Int), (0 : Int), []), false) else if decide ((↑(List.length p1) : Int) > (20 : Int)) = true then some (((0 : Int), (0 : Int), []), false) else Option.bind (f_impl_UndoMarbles_0 k (Prod.fst p0) (Prod.fst (Prod.snd p0)) (Prod.snd (Prod.snd p0)) (0 : Int) (0 : Int) [] p1 p1 (↑(List.length p1) : Int) (0 : Int)) fun z2 => LR.on z2 (fun y2 => Option.bind (f_impl_numbersAfter k (Prod.fst y2, Prod.fst (Prod.snd y2), Prod.fst (Prod.snd (Prod.snd y2))) (Prod.snd (Prod.snd (Prod.snd (Prod.snd (Prod.snd (Prod.snd y2))))))) fun z3 => Option.bind (f_impl_bitsOf k (Prod.fst y2, Prod.fst (Prod.snd y2), Prod.fst (Prod.snd (Prod.snd y2)))) fun z4 => Option.bind (f_impl_numberOf k z4) fun z5 => Option.bind (f_impl_UndoMarbles_2 k (Prod.fst y2) (Prod.fst (Prod.snd y2)) (Prod.fst (Prod.snd (Prod.snd y2))) (Prod.fst (Prod.snd (Prod.snd (Prod.snd y2)))) (Prod.fst (Prod.snd (Prod.snd (Prod.snd (Prod.snd y2))))) (Prod.fst (Prod.snd (Prod.snd (Prod.snd (Prod.snd (Prod.snd y2)))))) z3 z5 (wrap64 ((↑(List.length (Prod.snd (Prod.snd (Prod.snd (Prod.snd (Prod.snd (Prod.snd y2))))))) : Int) - (1 : Int)))) fun z7 => LR.on z7 (fun y7 => Option.bind (f_impl_BoardInState k (Prod.fst y7, Prod.fst (Prod.snd y7), Prod.fst (Prod.snd (Prod.snd y7))) (Prod.snd (Prod.snd (Prod.snd (Prod.snd (Prod.snd (Prod.snd y7))))))) fun z8 => some ((Prod.fst (Prod.fst z8), Prod.fst (Prod.snd (Prod.fst z8)), Prod.snd (Prod.snd (Prod.fst z8))), Prod.snd z8)) fun r7 => some r7) fun r2 => some r2
noncomputable def d_impl_UndoMarbles : FnDef := .of q_impl_UndoMarbles r_impl_UndoMarbles ((Int × Int × List (Int × Int)) × Bool) (fun k x => f_impl_UndoMarbles k x.1 x.2.1) to_impl_UndoMarbles of_impl_UndoMarbles to_of_impl_UndoMarbles
noncomputable def c_impl_UndoMarbles : Code := Try.f29.body.getD .skip
noncomputable def x_impl_UndoMarbles : Ctx (Tup r_impl_UndoMarbles × OutD) := { T := T, G := [(45, d_impl_IsBoard.E), (46, d_impl_unitsOf.E), (36, d_impl_numbersAfter.E), (49, d_impl_bitsOf.E), (48, d_impl_numberOf.E), (52, d_impl_BoardInState.E)], mvs := [], no := 0, n := 85, res := resOf T q_impl_UndoMarbles r_impl_UndoMarbles Try.f29.results.toList, loops := [(0, f_impl_UndoMarbles_0D.E), (4, f_impl_UndoMarbles_4D.E), (2, f_impl_UndoMarbles_2D.E)], regs := [], conds := [] }
theorem g_impl_UndoMarbles (k : Nat) : EnvOK Try.prog k x_impl_UndoMarbles.G := (EnvOK.cons (s_impl_IsBoard k) (EnvOK.cons (s_impl_unitsOf k) (EnvOK.cons (s_impl_numbersAfter k) (EnvOK.cons (s_impl_bitsOf k) (EnvOK.cons (s_impl_numberOf k) (EnvOK.cons (s_impl_BoardInState k) (EnvOK.nil mixed)))))))
noncomputable def f_impl_UndoMarbles_0B : Code := (findLoop 0 c_impl_UndoMarbles).getD .skip
theorem f_impl_UndoMarbles_0h (k : Nat) (x : f_impl_UndoMarbles_0i.D) : f_impl_UndoMarbles_0D.lp (k + 1) x = loopK x_impl_UndoMarbles f_impl_UndoMarbles_0D 0 f_impl_UndoMarbles_0B k x := by kernel_rfl
theorem f_impl_UndoMarbles_0l (k : Nat) : LOK Try.prog x_impl_UndoMarbles k f_impl_UndoMarbles_0B := LOK.by [] (by kernel_rfl) AllOK.nil
theorem f_impl_UndoMarbles_0z (x : f_impl_UndoMarbles_0i.D) : f_impl_UndoMarbles_0D.lp 0 x = none := by kernel_rfl
theorem f_impl_UndoMarbles_0ok (k : Nat) : EOK Try.prog x_impl_UndoMarbles k f_impl_UndoMarbles_0D.E (.block 0 (.loop f_impl_UndoMarbles_0B)) := loop_ok T_ok g_impl_UndoMarbles f_impl_UndoMarbles_0z f_impl_UndoMarbles_0h f_impl_UndoMarbles_0l k
noncomputable def f_impl_UndoMarbles_4B : Code := (findLoop 4 c_impl_UndoMarbles).getD .skip
theorem f_impl_UndoMarbles_4h (k : Nat) (x : f_impl_UndoMarbles_4i.D) : f_impl_UndoMarbles_4D.lp (k + 1) x = loopK x_impl_UndoMarbles f_impl_UndoMarbles_4D 4 f_impl_UndoMarbles_4B k x := by kernel_rfl
theorem f_impl_UndoMarbles_4l (k : Nat) : LOK Try.prog x_impl_UndoMarbles k f_impl_UndoMarbles_4B := LOK.by [] (by kernel_rfl) AllOK.nil
theorem f_impl_UndoMarbles_4z (x : f_impl_UndoMarbles_4i.D) : f_impl_UndoMarbles_4D.lp 0 x = none := by kernel_rfl
theorem f_impl_UndoMarbles_4ok (k : Nat) : EOK Try.prog x_impl_UndoMarbles k f_impl_UndoMarbles_4D.E (.block 4 (.loop f_impl_UndoMarbles_4B)) := loop_ok T_ok g_impl_UndoMarbles f_impl_UndoMarbles_4z f_impl_UndoMarbles_4h f_impl_UndoMarbles_4l k
noncomputable def f_impl_UndoMarbles_2B : Code := (findLoop 2 c_impl_UndoMarbles).getD .skip
theorem f_impl_UndoMarbles_2h (k : Nat) (x : f_impl_UndoMarbles_2i.D) : f_impl_UndoMarbles_2D.lp (k + 1) x = loopK x_impl_UndoMarbles f_impl_UndoMarbles_2D 2 f_impl_UndoMarbles_2B k x := by kernel_rfl
theorem f_impl_UndoMarbles_2l (k : Nat) : LOK Try.prog x_impl_UndoMarbles k f_impl_UndoMarbles_2B := LOK.by [(f_impl_UndoMarbles_4D.E, .block 4 (.loop f_impl_UndoMarbles_4B))] (by kernel_rfl) (AllOK.cons (f_impl_UndoMarbles_4ok k) AllOK.nil)
theorem f_impl_UndoMarbles_2z (x : f_impl_UndoMarbles_2i.D) : f_impl_UndoMarbles_2D.lp 0 x = none := by kernel_rfl
theorem f_impl_UndoMarbles_2ok (k : Nat) : EOK Try.prog x_impl_UndoMarbles k f_impl_UndoMarbles_2D.E (.block 2 (.loop f_impl_UndoMarbles_2B)) := loop_ok T_ok g_impl_UndoMarbles f_impl_UndoMarbles_2z f_impl_UndoMarbles_2h f_impl_UndoMarbles_2l k
theorem h_impl_UndoMarbles (k : Nat) (x : Tup d_impl_UndoMarbles.ps) : d_impl_UndoMarbles.f (k + 1) x = fnK d_impl_UndoMarbles x_impl_UndoMarbles c_impl_UndoMarbles k x := by kernel_rfl
theorem z_impl_UndoMarbles (x : Tup d_impl_UndoMarbles.ps) : d_impl_UndoMarbles.f 0 x = none := by kernel_rfl
theorem l_impl_UndoMarbles (k : Nat) : LOK Try.prog x_impl_UndoMarbles k c_impl_UndoMarbles := LOK.by [(f_impl_UndoMarbles_0D.E, .block 0 (.loop f_impl_UndoMarbles_0B)), (f_impl_UndoMarbles_2D.E, .block 2 (.loop f_impl_UndoMarbles_2B))] (by kernel_rfl) (AllOK.cons (f_impl_UndoMarbles_0ok k) (AllOK.cons (f_impl_UndoMarbles_2ok k) AllOK.nil))
theorem s_impl_UndoMarbles (k : Nat) : SoundAt Try.prog k 29 d_impl_UndoMarbles.E := @fn_all Try.prog d_impl_UndoMarbles x_impl_UndoMarbles 29 Try.f29 c_impl_UndoMarbles (by kernel_rfl) (by kernel_rfl) (by kernel_rfl) Try.func29 (by kernel_rfl) (by kernel_rfl) (by kernel_rfl) T_ok g_impl_UndoMarbles l_impl_UndoMarbles z_impl_UndoMarbles h_impl_UndoMarbles k
/-! function 31 -/
noncomputable def r_spec_rvHas : List PK := [{ t := Ty.bool }]
noncomputable def q_spec_rvHas : List PK := [{ t := Ty.pair (Ty.int IntKind.i64) (Ty.pair (Ty.int IntKind.i64) (Ty.slice (75 : Nat) (Ty.pair (Ty.int IntKind.i64) (Ty.int IntKind.i64)))), agg := true }, { t := Ty.int IntKind.i64 }]
noncomputable def to_spec_rvHas (r : Bool) : Tup r_spec_rvHas × OutD := ((r, ()), none)
noncomputable def of_spec_rvHas : Tup r_spec_rvHas × OutD → Option (Bool)
  | (a, none) => some (a.1)
  | _ => none
theorem to_of_spec_rvHas : ∀ b r, of_spec_rvHas b = some r → to_spec_rvHas r = b := by
  rintro ⟨a, o⟩ r h
  cases o with
  | none => injection h with h; subst h; rfl
  | some _ => cases h
noncomputable def f_spec_rvHas : Nat → Int × Int × List (Int × Int) → Int → Option Bool
  | 0, _, _ => none
  | k + 1, p0, p1 =>
    Option.bind (f_spec_flHas k (Prod.fst p0, Prod.fst (Prod.snd p0), Prod.snd (Prod.snd p0)) p1) fun z0 => if z0 = true then Option.bind (f_spec_saUnits k (Prod.fst p0, Prod.fst (Prod.snd p0), Prod.snd (Prod.snd p0))) fun z1 => some (decide ((↑(List.length z1) : Int) ≤ (10 : Int))) else some false
noncomputable def d_spec_rvHas : FnDef := .of q_spec_rvHas r_spec_rvHas (Bool) (fun k x => f_spec_rvHas k x.1 x.2.1) to_spec_rvHas of_spec_rvHas to_of_spec_rvHas
noncomputable def c_spec_rvHas : Code := Try.f31.body.getD .skip
noncomputable def x_spec_rvHas : Ctx (Tup r_spec_rvHas × OutD) := { T := T, G := [(55, d_spec_flHas.E), (56, d_spec_saUnits.E)], mvs := [], no := 0, n := 14, res := resOf T q_spec_rvHas r_spec_rvHas Try.f31.results.toList, loops := [], regs := [], conds := [] }
theorem g_spec_rvHas (k : Nat) : EnvOK Try.prog k x_spec_rvHas.G := (EnvOK.cons (s_spec_flHas k) (EnvOK.cons (s_spec_saUnits k) (EnvOK.nil mixed)))
theorem h_spec_rvHas (k : Nat) (x : Tup d_spec_rvHas.ps) : d_spec_rvHas.f (k + 1) x = fnK d_spec_rvHas x_spec_rvHas c_spec_rvHas k x := by kernel_rfl
theorem z_spec_rvHas (x : Tup d_spec_rvHas.ps) : d_spec_rvHas.f 0 x = none := by kernel_rfl
theorem l_spec_rvHas (k : Nat) : LOK Try.prog x_spec_rvHas k c_spec_rvHas := LOK.by [] (by kernel_rfl) AllOK.nil
theorem s_spec_rvHas (k : Nat) : SoundAt Try.prog k 31 d_spec_rvHas.E := @fn_all Try.prog d_spec_rvHas x_spec_rvHas 31 Try.f31 c_spec_rvHas (by kernel_rfl) (by kernel_rfl) (by kernel_rfl) Try.func31 (by kernel_rfl) (by kernel_rfl) (by kernel_rfl) T_ok g_spec_rvHas l_spec_rvHas z_spec_rvHas h_spec_rvHas k
/-! function 35 -/
noncomputable def r_impl_goesBack : List PK := [{ t := Ty.bool }]
noncomputable def q_impl_goesBack : List PK := [{ t := Ty.pair (Ty.int IntKind.i64) (Ty.pair (Ty.int IntKind.i64) (Ty.slice (75 : Nat) (Ty.pair (Ty.int IntKind.i64) (Ty.int IntKind.i64)))), agg := true }, { t := Ty.int IntKind.i64 }]
noncomputable def to_impl_goesBack (r : Bool) : Tup r_impl_goesBack × OutD := ((r, ()), none)
noncomputable def of_impl_goesBack : Tup r_impl_goesBack × OutD → Option (Bool)
  | (a, none) => some (a.1)
  | _ => none
theorem to_of_impl_goesBack : ∀ b r, of_impl_goesBack b = some r → to_impl_goesBack r = b := by
  rintro ⟨a, o⟩ r h
  cases o with
  | none => injection h with h; subst h; rfl
  | some _ => cases h
noncomputable def f_impl_goesBack : Nat → Int × Int × List (Int × Int) → Int → Option Bool
  | 0, _, _ => none
  | k + 1, p0, p1 =>
    Option.bind (f_impl_validEntry k (Prod.fst p0, Prod.fst (Prod.snd p0), Prod.snd (Prod.snd p0)) p1) fun z0 => if z0 = true then Option.bind (f_impl_unitsOf k (Prod.fst p0, Prod.fst (Prod.snd p0), Prod.snd (Prod.snd p0))) fun z1 => some (decide ((↑(List.length z1) : Int) ≤ (10 : Int))) else some false
noncomputable def d_impl_goesBack : FnDef := .of q_impl_goesBack r_impl_goesBack (Bool) (fun k x => f_impl_goesBack k x.1 x.2.1) to_impl_goesBack of_impl_goesBack to_of_impl_goesBack
noncomputable def c_impl_goesBack : Code := Try.f35.body.getD .skip
noncomputable def x_impl_goesBack : Ctx (Tup r_impl_goesBack × OutD) := { T := T, G := [(60, d_impl_validEntry.E), (46, d_impl_unitsOf.E)], mvs := [], no := 0, n := 14, res := resOf T q_impl_goesBack r_impl_goesBack Try.f35.results.toList, loops := [], regs := [], conds := [] }
theorem g_impl_goesBack (k : Nat) : EnvOK Try.prog k x_impl_goesBack.G := (EnvOK.cons (s_impl_validEntry k) (EnvOK.cons (s_impl_unitsOf k) (EnvOK.nil mixed)))
theorem h_impl_goesBack (k : Nat) (x : Tup d_impl_goesBack.ps) : d_impl_goesBack.f (k + 1) x = fnK d_impl_goesBack x_impl_goesBack c_impl_goesBack k x := by kernel_rfl
theorem z_impl_goesBack (x : Tup d_impl_goesBack.ps) : d_impl_goesBack.f 0 x = none := by kernel_rfl
theorem l_impl_goesBack (k : Nat) : LOK Try.prog x_impl_goesBack k c_impl_goesBack := LOK.by [] (by kernel_rfl) AllOK.nil
theorem s_impl_goesBack (k : Nat) : SoundAt Try.prog k 35 d_impl_goesBack.E := @fn_all Try.prog d_impl_goesBack x_impl_goesBack 35 Try.f35 c_impl_goesBack (by kernel_rfl) (by kernel_rfl) (by kernel_rfl) Try.func35 (by kernel_rfl) (by kernel_rfl) (by kernel_rfl) T_ok g_impl_goesBack l_impl_goesBack z_impl_goesBack h_impl_goesBack k
/-! function 44 -/
noncomputable def r_spec_saNumber : List PK := [{ t := Ty.int IntKind.i64 }]
noncomputable def q_spec_saNumber : List PK := [{ t := Ty.pair (Ty.int IntKind.i64) (Ty.pair (Ty.int IntKind.i64) (Ty.slice (75 : Nat) (Ty.pair (Ty.int IntKind.i64) (Ty.int IntKind.i64)))), agg := true }]
noncomputable def to_spec_saNumber (r : Int) : Tup r_spec_saNumber × OutD := ((r, ()), none)
noncomputable def of_spec_saNumber : Tup r_spec_saNumber × OutD → Option (Int)
  | (a, none) => some (a.1)
  | _ => none
theorem to_of_spec_saNumber : ∀ b r, of_spec_saNumber b = some r → to_spec_saNumber r = b := by
  rintro ⟨a, o⟩ r h
  cases o with
  | none => injection h with h; subst h; rfl
  | some _ => cases h
noncomputable def f_spec_saNumber_0 : Nat → List Int → Int → Int → Int → Option Int
  | 0, _, _, _, _ => none
  | k + 1, o1, v3, v8, v9 =>
    if decide (v9 < v8) = true then if (0 : Int) ≤ v9 then if v9 < (↑(List.length o1) : Int) then if IntKind.wrap IntKind.u64 v9 < (0 : Int) then none else f_spec_saNumber_0 k o1 (wrap64 (v3 + shlS (List.getD o1 (Int.toNat v9) (0 : Int)) (IntKind.wrap IntKind.u64 v9))) v8 (wrap64 (v9 + (1 : Int))) else none else none else some v3
noncomputable def f_spec_saNumber_0i : Spec := { objs := [OSh.ro, OSh.row true (3 : Nat) (Ty.int IntKind.i64)], tmps := [((3 : Nat), TSh.at (Sh.int IntKind.i64)), ((7 : Nat), TSh.at (Sh.sl (1 : Nat))), ((8 : Nat), TSh.at (Sh.int IntKind.i64)), ((9 : Nat), TSh.at (Sh.int IntKind.i64))] }
noncomputable def f_spec_saNumber_0o : Spec := { objs := [OSh.ro], tmps := [((3 : Nat), TSh.at (Sh.int IntKind.i64))] }
noncomputable def f_spec_saNumber_0D : LoopDef (Tup r_spec_saNumber × OutD) := .plain f_spec_saNumber_0i f_spec_saNumber_0o (Int) (fun k x => f_spec_saNumber_0 k x.1.2.1 x.2.1 x.2.2.2.1 x.2.2.2.2.1) (fun z => (((), ()), (z, ()))) (fun y => (y.2.1)) (fun _ => rfl)
noncomputable def f_spec_saNumber : Nat → Int × Int × List (Int × Int) → Option Int
  | 0, _ => none
  | k + 1, p0 =>
    Option.bind (f_spec_saBits k (Prod.fst p0, Prod.fst (Prod.snd p0), Prod.snd (Prod.snd p0))) fun z0 => Option.bind (f_spec_saNumber_0 k z0 (0 : Int) (↑(List.length z0) : Int) (0 : Int)) fun z1 => some z1
noncomputable def d_spec_saNumber : FnDef := .of q_spec_saNumber r_spec_saNumber (Int) (fun k x => f_spec_saNumber k x.1) to_spec_saNumber of_spec_saNumber to_of_spec_saNumber
noncomputable def c_spec_saNumber : Code := Try.f44.body.getD .skip
noncomputable def x_spec_saNumber : Ctx (Tup r_spec_saNumber × OutD) := { T := T, G := [(70, d_spec_saBits.E)], mvs := [], no := 0, n := 22, res := resOf T q_spec_saNumber r_spec_saNumber Try.f44.results.toList, loops := [(0, f_spec_saNumber_0D.E)], regs := [], conds := [] }
theorem g_spec_saNumber (k : Nat) : EnvOK Try.prog k x_spec_saNumber.G := (EnvOK.cons (s_spec_saBits k) (EnvOK.nil mixed))
noncomputable def f_spec_saNumber_0B : Code := (findLoop 0 c_spec_saNumber).getD .skip
theorem f_spec_saNumber_0h (k : Nat) (x : f_spec_saNumber_0i.D) : f_spec_saNumber_0D.lp (k + 1) x = loopK x_spec_saNumber f_spec_saNumber_0D 0 f_spec_saNumber_0B k x := by kernel_rfl
theorem f_spec_saNumber_0l (k : Nat) : LOK Try.prog x_spec_saNumber k f_spec_saNumber_0B := LOK.by [] (by kernel_rfl) AllOK.nil
theorem f_spec_saNumber_0z (x : f_spec_saNumber_0i.D) : f_spec_saNumber_0D.lp 0 x = none := by kernel_rfl
theorem f_spec_saNumber_0ok (k : Nat) : EOK Try.prog x_spec_saNumber k f_spec_saNumber_0D.E (.block 0 (.loop f_spec_saNumber_0B)) := loop_ok T_ok g_spec_saNumber f_spec_saNumber_0z f_spec_saNumber_0h f_spec_saNumber_0l k
theorem h_spec_saNumber (k : Nat) (x : Tup d_spec_saNumber.ps) : d_spec_saNumber.f (k + 1) x = fnK d_spec_saNumber x_spec_saNumber c_spec_saNumber k x := by kernel_rfl
theorem z_spec_saNumber (x : Tup d_spec_saNumber.ps) : d_spec_saNumber.f 0 x = none := by kernel_rfl
theorem l_spec_saNumber (k : Nat) : LOK Try.prog x_spec_saNumber k c_spec_saNumber := LOK.by [(f_spec_saNumber_0D.E, .block 0 (.loop f_spec_saNumber_0B))] (by kernel_rfl) (AllOK.cons (f_spec_saNumber_0ok k) AllOK.nil)
theorem s_spec_saNumber (k : Nat) : SoundAt Try.prog k 44 d_spec_saNumber.E := @fn_all Try.prog d_spec_saNumber x_spec_saNumber 44 Try.f44 c_spec_saNumber (by kernel_rfl) (by kernel_rfl) (by kernel_rfl) Try.func44 (by kernel_rfl) (by kernel_rfl) (by kernel_rfl) T_ok g_spec_saNumber l_spec_saNumber z_spec_saNumber h_spec_saNumber k
/-! function 51 -/
noncomputable def r_spec_saIn : List PK := [{ t := Ty.pair (Ty.int IntKind.i64) (Ty.pair (Ty.int IntKind.i64) (Ty.slice (75 : Nat) (Ty.pair (Ty.int IntKind.i64) (Ty.int IntKind.i64)))), agg := true }]
noncomputable def q_spec_saIn : List PK := [{ t := Ty.pair (Ty.int IntKind.i64) (Ty.pair (Ty.int IntKind.i64) (Ty.slice (75 : Nat) (Ty.pair (Ty.int IntKind.i64) (Ty.int IntKind.i64)))), agg := true }, { t := Ty.int IntKind.i64 }]
noncomputable def to_spec_saIn (r : Int × Int × List (Int × Int)) : Tup r_spec_saIn × OutD := ((r, ()), none)
noncomputable def of_spec_saIn : Tup r_spec_saIn × OutD → Option (Int × Int × List (Int × Int))
  | (a, none) => some (a.1)
  | _ => none
theorem to_of_spec_saIn : ∀ b r, of_spec_saIn b = some r → to_spec_saIn r = b := by
  rintro ⟨a, o⟩ r h
  cases o with
  | none => injection h with h; subst h; rfl
  | some _ => cases h
noncomputable def f_spec_saIn_0 : Nat → Int → Int → List (Int × Int) → Int → Int → List (Int × Int) → List Int → Int → Int → Int → Option (Int × Int × List (Int × Int) × Int × Int × List (Int × Int) × List Int)
  | 0, _, _, _, _, _, _, _, _, _, _ => none
  | k + 1, b1_0, b1_1, b1_2, b2_0, b2_1, o3, o4, v1, v9, v10 =>
    if decide (v10 < v9) = true then if IntKind.wrap IntKind.u64 v10 < (0 : Int) then none else if List.length o4 + List.length [bits BinOp.and IntKind.i64 (Int.fdiv v1 ((2 : Int) ^ min (Int.toNat (IntKind.wrap IntKind.u64 v10)) (IntKind.bits IntKind.i64))) (1 : Int)] ≤ (140737488355328 / 8 : Nat) then f_spec_saIn_0 k b1_0 b1_1 b1_2 b2_0 b2_1 o3 (o4 ++ [bits BinOp.and IntKind.i64 (Int.fdiv v1 ((2 : Int) ^ min (Int.toNat (IntKind.wrap IntKind.u64 v10)) (IntKind.bits IntKind.i64))) (1 : Int)]) v1 v9 (wrap64 (v10 + (1 : Int))) else none else some (b1_0, b1_1, b1_2, b2_0, b2_1, o3, o4)
noncomputable def f_spec_saIn_0i : Spec := { objs := [OSh.ro, OSh.box (31 : Nat) [Sh.int IntKind.i64, Sh.int IntKind.i64, Sh.snap (0 : Nat) (Ty.pair (Ty.int IntKind.i64) (Ty.int IntKind.i64))], OSh.box (31 : Nat) [Sh.int IntKind.i64, Sh.int IntKind.i64, Sh.sl (3 : Nat)], OSh.row true (75 : Nat) (Ty.pair (Ty.int IntKind.i64) (Ty.int IntKind.i64)), OSh.row true (3 : Nat) (Ty.int IntKind.i64)], tmps := [((1 : Nat), TSh.at (Sh.int IntKind.i64)), ((2 : Nat), TSh.at (Sh.ptr (1 : Nat) (0 : Nat))), ((4 : Nat), TSh.at (Sh.ptr (2 : Nat) (0 : Nat))), ((5 : Nat), TSh.at (Sh.sl (4 : Nat))), ((9 : Nat), TSh.at (Sh.int IntKind.i64)), ((10 : Nat), TSh.at (Sh.int IntKind.i64))] }
noncomputable def f_spec_saIn_0o : Spec := { objs := [OSh.ro, OSh.box (31 : Nat) [Sh.int IntKind.i64, Sh.int IntKind.i64, Sh.snap (0 : Nat) (Ty.pair (Ty.int IntKind.i64) (Ty.int IntKind.i64))], OSh.box (31 : Nat) [Sh.int IntKind.i64, Sh.int IntKind.i64, Sh.sl (3 : Nat)], OSh.row true (75 : Nat) (Ty.pair (Ty.int IntKind.i64) (Ty.int IntKind.i64)), OSh.row true (3 : Nat) (Ty.int IntKind.i64)], tmps := [((2 : Nat), TSh.at (Sh.ptr (1 : Nat) (0 : Nat))), ((4 : Nat), TSh.at (Sh.ptr (2 : Nat) (0 : Nat))), ((5 : Nat), TSh.at (Sh.sl (4 : Nat)))] }
noncomputable def f_spec_saIn_0D : LoopDef (Tup r_spec_saIn × OutD) := .plain f_spec_saIn_0i f_spec_saIn_0o (Int × Int × List (Int × Int) × Int × Int × List (Int × Int) × List Int) (fun k x => f_spec_saIn_0 k x.1.2.1.1 x.1.2.1.2.1 x.1.2.1.2.2.1 x.1.2.2.1.1 x.1.2.2.1.2.1 x.1.2.2.2.1 x.1.2.2.2.2.1 x.2.1 x.2.2.2.2.2.1 x.2.2.2.2.2.2.1) (fun z => (((), (z.1, z.2.1, z.2.2.1, ()), (z.2.2.2.1, z.2.2.2.2.1, (), ()), z.2.2.2.2.2.1, z.2.2.2.2.2.2, ()), ((), (), (), ()))) (fun y => (y.1.2.1.1, y.1.2.1.2.1, y.1.2.1.2.2.1, y.1.2.2.1.1, y.1.2.2.1.2.1, y.1.2.2.2.1, y.1.2.2.2.2.1)) (fun _ => rfl)
noncomputable def f_spec_saIn : Nat → Int × Int × List (Int × Int) → Int → Option (Int × Int × List (Int × Int))
  | 0, _, _ => none
  | k + 1, p0, p1 =>
    Option.bind (f_spec_saUnits k (Prod.fst p0, Prod.fst (Prod.snd p0), Prod.snd (Prod.snd p0))) fun z0 => Option.bind (f_spec_saIn_0 k (Prod.fst p0) (Prod.fst (Prod.snd p0)) (Prod.snd (Prod.snd p0)) (0 : Int) (0 : Int) [] [] p1 (↑(List.length z0) : Int) (0 : Int)) fun z1 => Option.bind (f_spec_saWith k (Prod.fst z1, Prod.fst (Prod.snd z1), Prod.fst (Prod.snd (Prod.snd z1))) (Prod.snd (Prod.snd (Prod.snd (Prod.snd (Prod.snd (Prod.snd z1))))))) fun z2 => some (Prod.fst z2, Prod.fst (Prod.snd z2), Prod.snd (Prod.snd z2))
noncomputable def d_spec_saIn : FnDef := .of q_spec_saIn r_spec_saIn (Int × Int × List (Int × Int)) (fun k x => f_spec_saIn k x.1 x.2.1) to_spec_saIn of_spec_saIn to_of_spec_saIn
noncomputable def c_spec_saIn : Code := Try.f51.body.getD .skip
noncomputable def x_spec_saIn : Ctx (Tup r_spec_saIn × OutD) := { T := T, G := [(56, d_spec_saUnits.E), (73, d_spec_saWith.E)], mvs := [], no := 0, n := 25, res := resOf T q_spec_saIn r_spec_saIn Try.f51.results.toList, loops := [(0, f_spec_saIn_0D.E)], regs := [], conds := [] }
theorem g_spec_saIn (k : Nat) : EnvOK Try.prog k x_spec_saIn.G := (EnvOK.cons (s_spec_saUnits k) (EnvOK.cons (s_spec_saWith k) (EnvOK.nil mixed)))
noncomputable def f_spec_saIn_0B : Code := (findLoop 0 c_spec_saIn).getD .skip
theorem f_spec_saIn_0h (k : Nat) (x : f_spec_saIn_0i.D) : f_spec_saIn_0D.lp (k + 1) x = loopK x_spec_saIn f_spec_saIn_0D 0 f_spec_saIn_0B k x := by kernel_rfl
theorem f_spec_saIn_0l (k : Nat) : LOK Try.prog x_spec_saIn k f_spec_saIn_0B := LOK.by [] (by kernel_rfl) AllOK.nil
theorem f_spec_saIn_0z (x : f_spec_saIn_0i.D) : f_spec_saIn_0D.lp 0 x = none := by kernel_rfl
theorem f_spec_saIn_0ok (k : Nat) : EOK Try.prog x_spec_saIn k f_spec_saIn_0D.E (.block 0 (.loop f_spec_saIn_0B)) := loop_ok T_ok g_spec_saIn f_spec_saIn_0z f_spec_saIn_0h f_spec_saIn_0l k
theorem h_spec_saIn (k : Nat) (x : Tup d_spec_saIn.ps) : d_spec_saIn.f (k + 1) x = fnK d_spec_saIn x_spec_saIn c_spec_saIn k x := by kernel_rfl
theorem z_spec_saIn (x : Tup d_spec_saIn.ps) : d_spec_saIn.f 0 x = none := by kernel_rfl
theorem l_spec_saIn (k : Nat) : LOK Try.prog x_spec_saIn k c_spec_saIn := LOK.by [(f_spec_saIn_0D.E, .block 0 (.loop f_spec_saIn_0B))] (by kernel_rfl) (AllOK.cons (f_spec_saIn_0ok k) AllOK.nil)
theorem s_spec_saIn (k : Nat) : SoundAt Try.prog k 51 d_spec_saIn.E := @fn_all Try.prog d_spec_saIn x_spec_saIn 51 Try.f51 c_spec_saIn (by kernel_rfl) (by kernel_rfl) (by kernel_rfl) Try.func51 (by kernel_rfl) (by kernel_rfl) (by kernel_rfl) T_ok g_spec_saIn l_spec_saIn z_spec_saIn h_spec_saIn k
end
end Go.Proofs.Ytjjlmnbmpgfcbaa.Vs

set_option maxRecDepth 100000
set_option maxHeartbeats 2000000
set_option linter.unusedVariables false
set_option linter.unusedSimpArgs false
namespace Go.Proofs.Ytjjlmnbmpgfcbaa.Vs
open Go.RowKit
noncomputable section
/-! function 11 -/
/-! function 21 -/
/-! function 23 -/
noncomputable def r_impl_BoardsBefore : List PK := [{ t := Ty.slice (31 : Nat) (Ty.pair (Ty.int IntKind.i64) (Ty.pair (Ty.int IntKind.i64) (Ty.slice (75 : Nat) (Ty.pair (Ty.int IntKind.i64) (Ty.int IntKind.i64))))) }, { t := Ty.bool }]
noncomputable def q_impl_BoardsBefore : List PK := [{ t := Ty.pair (Ty.int IntKind.i64) (Ty.pair (Ty.int IntKind.i64) (Ty.slice (75 : Nat) (Ty.pair (Ty.int IntKind.i64) (Ty.int IntKind.i64)))), agg := true }, { t := Ty.int IntKind.i64 }]
noncomputable def to_impl_BoardsBefore (r : List (Int × Int × List (Int × Int)) × Bool) : Tup r_impl_BoardsBefore × OutD := ((r.1, r.2, ()), none)
noncomputable def of_impl_BoardsBefore : Tup r_impl_BoardsBefore × OutD → Option (List (Int × Int × List (Int × Int)) × Bool)
  | (a, none) => some (a.1, a.2.1)
  | _ => none
theorem to_of_impl_BoardsBefore : ∀ b r, of_impl_BoardsBefore b = some r → to_impl_BoardsBefore r = b := by
  rintro ⟨a, o⟩ r h
  cases o with
  | none => injection h with h; subst h; rfl
  | some _ => cases h
noncomputable def f_impl_BoardsBefore_0 : Nat → Int → Int → List (Int × Int) → List (Int × Int × List (Int × Int)) → List (List Int) → Int → Int → Int → Int → Option (List (Int × Int × List (Int × Int)))
  | 0, _, _, _, _, _, _, _, _, _ => none
  | k + 1, b1_0, b1_1, b1_2, o2, o3, v7, v25, v26, v27 =>
    if decide (v27 < v26) = true then if (0 : Int) ≤ v27 then if v27 < (↑(List.length (List.getD o3 (Int.toNat v25) [])) : Int) then if decide (List.getD (List.getD o3 (Int.toNat v25) []) (Int.toNat v27) (0 : Int) = v7) = true then Option.bind (f_impl_BoardInState k (b1_0, b1_1, b1_2) v27) fun z4 => if List.length o2 + List.length [(Prod.fst (Prod.fst z4), Prod.fst (Prod.snd (Prod.fst z4)), Prod.snd (Prod.snd (Prod.fst z4)))] ≤ (140737488355328 / 40 : Nat) then f_impl_BoardsBefore_0 k b1_0 b1_1 b1_2 (o2 ++ [(Prod.fst (Prod.fst z4), Prod.fst (Prod.snd (Prod.fst z4)), Prod.snd (Prod.snd (Prod.fst z4)))]) o3 v7 v25 v26 (wrap64 (v27 + (1 : Int))) else none else f_impl_BoardsBefore_0 k b1_0 b1_1 b1_2 o2 o3 v7 v25 v26 (wrap64 (v27 + (1 : Int))) else none else none else some o2
noncomputable def f_impl_BoardsBefore_0i : Spec := { objs := [OSh.ro, OSh.box (31 : Nat) [Sh.int IntKind.i64, Sh.int IntKind.i64, Sh.snap (0 : Nat) (Ty.pair (Ty.int IntKind.i64) (Ty.int IntKind.i64))], OSh.row true (31 : Nat) (Ty.pair (Ty.int IntKind.i64) (Ty.pair (Ty.int IntKind.i64) (Ty.slice (75 : Nat) (Ty.pair (Ty.int IntKind.i64) (Ty.int IntKind.i64))))), OSh.row true (26 : Nat) (Ty.slice (3 : Nat) (Ty.int IntKind.i64))], tmps := [((2 : Nat), TSh.at (Sh.ptr (1 : Nat) (0 : Nat))), ((6 : Nat), TSh.at (Sh.sl (2 : Nat))), ((7 : Nat), TSh.at (Sh.int IntKind.i64)), ((25 : Nat), TSh.at (Sh.inn (3 : Nat))), ((26 : Nat), TSh.at (Sh.int IntKind.i64)), ((27 : Nat), TSh.at (Sh.int IntKind.i64))] }
noncomputable def f_impl_BoardsBefore_0o : Spec := { objs := [OSh.ro, OSh.row true (31 : Nat) (Ty.pair (Ty.int IntKind.i64) (Ty.pair (Ty.int IntKind.i64) (Ty.slice (75 : Nat) (Ty.pair (Ty.int IntKind.i64) (Ty.int IntKind.i64)))))], tmps := [((6 : Nat), TSh.at (Sh.sl (1 : Nat)))] }
noncomputable def f_impl_BoardsBefore_0D : LoopDef (Tup r_impl_BoardsBefore × OutD) := .plain f_impl_BoardsBefore_0i f_impl_BoardsBefore_0o (List (Int × Int × List (Int × Int))) (fun k x => f_impl_BoardsBefore_0 k x.1.2.1.1 x.1.2.1.2.1 x.1.2.1.2.2.1 x.1.2.2.1 x.1.2.2.2.1 x.2.2.2.1 x.2.2.2.2.1 x.2.2.2.2.2.1 x.2.2.2.2.2.2.1) (fun z => (((), z, ()), ((), ()))) (fun y => (y.1.2.1)) (fun _ => rfl)
noncomputable def f_impl_BoardsBefore : Nat → Int × Int × List (Int × Int) → Int → Option (List (Int × Int × List (Int × Int)) × Bool)
  | 0, _, _ => none
  | k + 1, p0, p1 =>
    Option.bind (f_impl_goesBack k (Prod.fst p0, Prod.fst (Prod.snd p0), Prod.snd (Prod.snd p0)) p1) fun z0 => if (!z0) = true then some ([], false) else Option.bind (f_impl_bitsOf k (Prod.fst p0, Prod.fst (Prod.snd p0), Prod.snd (Prod.snd p0))) fun z1 => Option.bind (f_impl_numberOf k z1) fun z2 => Option.bind (f_impl_numbersAfter k (Prod.fst p0, Prod.fst (Prod.snd p0), Prod.snd (Prod.snd p0)) [p1]) fun z3 => if (0 : Int) < (↑(List.length z3) : Int) then Option.bind (f_impl_BoardsBefore_0 k (Prod.fst p0) (Prod.fst (Prod.snd p0)) (Prod.snd (Prod.snd p0)) [] z3 z2 (0 : Int) (↑(List.length (List.getD z3 (Int.toNat (0 : Int)) [])) : Int) (0 : Int)) fun z5 => some (z5, true) else none
noncomputable def d_impl_BoardsBefore : FnDef := .of q_impl_BoardsBefore r_impl_BoardsBefore (List (Int × Int × List (Int × Int)) × Bool) (fun k x => f_impl_BoardsBefore k x.1 x.2.1) to_impl_BoardsBefore of_impl_BoardsBefore to_of_impl_BoardsBefore
noncomputable def c_impl_BoardsBefore : Code := Try.f23.body.getD .skip
noncomputable def x_impl_BoardsBefore : Ctx (Tup r_impl_BoardsBefore × OutD) := { T := T, G := [(35, d_impl_goesBack.E), (49, d_impl_bitsOf.E), (48, d_impl_numberOf.E), (36, d_impl_numbersAfter.E), (52, d_impl_BoardInState.E)], mvs := [], no := 0, n := 47, res := resOf T q_impl_BoardsBefore r_impl_BoardsBefore Try.f23.results.toList, loops := [(0, f_impl_BoardsBefore_0D.E)], regs := [], conds := [] }
theorem g_impl_BoardsBefore (k : Nat) : EnvOK Try.prog k x_impl_BoardsBefore.G := (EnvOK.cons (s_impl_goesBack k) (EnvOK.cons (s_impl_bitsOf k) (EnvOK.cons (s_impl_numberOf k) (EnvOK.cons (s_impl_numbersAfter k) (EnvOK.cons (s_impl_BoardInState k) (EnvOK.nil mixed))))))
noncomputable def f_impl_BoardsBefore_0B : Code := (findLoop 0 c_impl_BoardsBefore).getD .skip
theorem f_impl_BoardsBefore_0h (k : Nat) (x : f_impl_BoardsBefore_0i.D) : f_impl_BoardsBefore_0D.lp (k + 1) x = loopK x_impl_BoardsBefore f_impl_BoardsBefore_0D 0 f_impl_BoardsBefore_0B k x := by kernel_rfl
theorem f_impl_BoardsBefore_0l (k : Nat) : LOK Try.prog x_impl_BoardsBefore k f_impl_BoardsBefore_0B := LOK.by [] (by kernel_rfl) AllOK.nil
theorem f_impl_BoardsBefore_0z (x : f_impl_BoardsBefore_0i.D) : f_impl_BoardsBefore_0D.lp 0 x = none := by kernel_rfl
theorem f_impl_BoardsBefore_0ok (k : Nat) : EOK Try.prog x_impl_BoardsBefore k f_impl_BoardsBefore_0D.E (.block 0 (.loop f_impl_BoardsBefore_0B)) := loop_ok T_ok g_impl_BoardsBefore f_impl_BoardsBefore_0z f_impl_BoardsBefore_0h f_impl_BoardsBefore_0l k
theorem h_impl_BoardsBefore (k : Nat) (x : Tup d_impl_BoardsBefore.ps) : d_impl_BoardsBefore.f (k + 1) x = fnK d_impl_BoardsBefore x_impl_BoardsBefore c_impl_BoardsBefore k x := by kernel_rfl
theorem z_impl_BoardsBefore (x : Tup d_impl_BoardsBefore.ps) : d_impl_BoardsBefore.f 0 x = none := by kernel_rfl
theorem l_impl_BoardsBefore (k : Nat) : LOK Try.prog x_impl_BoardsBefore k c_impl_BoardsBefore := LOK.by [(f_impl_BoardsBefore_0D.E, .block 0 (.loop f_impl_BoardsBefore_0B))] (by kernel_rfl) (AllOK.cons (f_impl_BoardsBefore_0ok k) AllOK.nil)
theorem s_impl_BoardsBefore (k : Nat) : SoundAt Try.prog k 23 d_impl_BoardsBefore.E := @fn_all Try.prog d_impl_BoardsBefore x_impl_BoardsBefore 23 Try.f23 c_impl_BoardsBefore (by kernel_rfl) (by kernel_rfl) (by kernel_rfl) Try.func23 (by kernel_rfl) (by kernel_rfl) (by kernel_rfl) T_ok g_impl_BoardsBefore l_impl_BoardsBefore z_impl_BoardsBefore h_impl_BoardsBefore k
/-! function 32 -/
noncomputable def r_spec_rvNext : List PK := [{ t := Ty.slice (3 : Nat) (Ty.int IntKind.i64) }]
noncomputable def q_spec_rvNext : List PK := [{ t := Ty.pair (Ty.int IntKind.i64) (Ty.pair (Ty.int IntKind.i64) (Ty.slice (75 : Nat) (Ty.pair (Ty.int IntKind.i64) (Ty.int IntKind.i64)))), agg := true }, { t := Ty.int IntKind.i64 }]
noncomputable def to_spec_rvNext (r : List Int) : Tup r_spec_rvNext × OutD := ((r, ()), none)
noncomputable def of_spec_rvNext : Tup r_spec_rvNext × OutD → Option (List Int)
  | (a, none) => some (a.1)
  | _ => none
theorem to_of_spec_rvNext : ∀ b r, of_spec_rvNext b = some r → to_spec_rvNext r = b := by
  rintro ⟨a, o⟩ r h
  cases o with
  | none => injection h with h; subst h; rfl
  | some _ => cases h
noncomputable def f_spec_rvNext_0 : Nat → Int → Int → List (Int × Int) → List Int → Int → Int → Option (List Int)
  | 0, _, _, _, _, _, _ => none
  | k + 1, b1_0, b1_1, b1_2, o2, v1, v6 =>
    Option.bind (f_spec_rvStates k (b1_0, b1_1, b1_2)) fun z0 => if decide (v6 < z0) = true then Option.bind (f_spec_saIn k (b1_0, b1_1, b1_2) v6) fun z1 => Option.bind (f_spec_flRun k (Prod.fst z1, Prod.fst (Prod.snd z1), Prod.snd (Prod.snd z1)) v1) fun z2 => Option.bind (f_spec_saNumber k (Prod.fst (Prod.snd z2), Prod.fst (Prod.snd (Prod.snd z2)), Prod.snd (Prod.snd (Prod.snd z2)))) fun z3 => if List.length o2 + List.length [z3] ≤ (140737488355328 / 8 : Nat) then f_spec_rvNext_0 k b1_0 b1_1 b1_2 (o2 ++ [z3]) v1 (wrap64 (v6 + (1 : Int))) else none else some o2
noncomputable def f_spec_rvNext_0i : Spec := { objs := [OSh.ro, OSh.box (31 : Nat) [Sh.int IntKind.i64, Sh.int IntKind.i64, Sh.snap (0 : Nat) (Ty.pair (Ty.int IntKind.i64) (Ty.int IntKind.i64))], OSh.row true (3 : Nat) (Ty.int IntKind.i64)], tmps := [((1 : Nat), TSh.at (Sh.int IntKind.i64)), ((2 : Nat), TSh.at (Sh.ptr (1 : Nat) (0 : Nat))), ((5 : Nat), TSh.at (Sh.sl (2 : Nat))), ((6 : Nat), TSh.at (Sh.int IntKind.i64))] }
noncomputable def f_spec_rvNext_0o : Spec := { objs := [OSh.ro, OSh.row true (3 : Nat) (Ty.int IntKind.i64)], tmps := [((5 : Nat), TSh.at (Sh.sl (1 : Nat)))] }
noncomputable def f_spec_rvNext_0D : LoopDef (Tup r_spec_rvNext × OutD) := .plain f_spec_rvNext_0i f_spec_rvNext_0o (List Int) (fun k x => f_spec_rvNext_0 k x.1.2.1.1 x.1.2.1.2.1 x.1.2.1.2.2.1 x.1.2.2.1 x.2.1 x.2.2.2.2.1) (fun z => (((), z, ()), ((), ()))) (fun y => (y.1.2.1)) (fun _ => rfl)
noncomputable def f_spec_rvNext : Nat → Int × Int × List (Int × Int) → Int → Option (List Int)
  | 0, _, _ => none
  | k + 1, p0, p1 =>
    Option.bind (f_spec_rvNext_0 k (Prod.fst p0) (Prod.fst (Prod.snd p0)) (Prod.snd (Prod.snd p0)) [] p1 (0 : Int)) fun z4 => some z4
noncomputable def d_spec_rvNext : FnDef := .of q_spec_rvNext r_spec_rvNext (List Int) (fun k x => f_spec_rvNext k x.1 x.2.1) to_spec_rvNext of_spec_rvNext to_of_spec_rvNext
noncomputable def c_spec_rvNext : Code := Try.f32.body.getD .skip
noncomputable def x_spec_rvNext : Ctx (Tup r_spec_rvNext × OutD) := { T := T, G := [(57, d_spec_rvStates.E), (51, d_spec_saIn.E), (58, d_spec_flRun.E), (44, d_spec_saNumber.E)], mvs := [], no := 0, n := 29, res := resOf T q_spec_rvNext r_spec_rvNext Try.f32.results.toList, loops := [(0, f_spec_rvNext_0D.E)], regs := [], conds := [] }
theorem g_spec_rvNext (k : Nat) : EnvOK Try.prog k x_spec_rvNext.G := (EnvOK.cons (s_spec_rvStates k) (EnvOK.cons (s_spec_saIn k) (EnvOK.cons (s_spec_flRun k) (EnvOK.cons (s_spec_saNumber k) (EnvOK.nil mixed)))))
noncomputable def f_spec_rvNext_0B : Code := (findLoop 0 c_spec_rvNext).getD .skip
theorem f_spec_rvNext_0h (k : Nat) (x : f_spec_rvNext_0i.D) : f_spec_rvNext_0D.lp (k + 1) x = loopK x_spec_rvNext f_spec_rvNext_0D 0 f_spec_rvNext_0B k x := by kernel_rfl
theorem f_spec_rvNext_0l (k : Nat) : LOK Try.prog x_spec_rvNext k f_spec_rvNext_0B := LOK.by [] (by kernel_rfl) AllOK.nil
theorem f_spec_rvNext_0z (x : f_spec_rvNext_0i.D) : f_spec_rvNext_0D.lp 0 x = none := by kernel_rfl
theorem f_spec_rvNext_0ok (k : Nat) : EOK Try.prog x_spec_rvNext k f_spec_rvNext_0D.E (.block 0 (.loop f_spec_rvNext_0B)) := loop_ok T_ok g_spec_rvNext f_spec_rvNext_0z f_spec_rvNext_0h f_spec_rvNext_0l k
theorem h_spec_rvNext (k : Nat) (x : Tup d_spec_rvNext.ps) : d_spec_rvNext.f (k + 1) x = fnK d_spec_rvNext x_spec_rvNext c_spec_rvNext k x := by kernel_rfl
theorem z_spec_rvNext (x : Tup d_spec_rvNext.ps) : d_spec_rvNext.f 0 x = none := by kernel_rfl
theorem l_spec_rvNext (k : Nat) : LOK Try.prog x_spec_rvNext k c_spec_rvNext := LOK.by [(f_spec_rvNext_0D.E, .block 0 (.loop f_spec_rvNext_0B))] (by kernel_rfl) (AllOK.cons (f_spec_rvNext_0ok k) AllOK.nil)
theorem s_spec_rvNext (k : Nat) : SoundAt Try.prog k 32 d_spec_rvNext.E := @fn_all Try.prog d_spec_rvNext x_spec_rvNext 32 Try.f32 c_spec_rvNext (by kernel_rfl) (by kernel_rfl) (by kernel_rfl) Try.func32 (by kernel_rfl) (by kernel_rfl) (by kernel_rfl) T_ok g_spec_rvNext l_spec_rvNext z_spec_rvNext h_spec_rvNext k
end
end Go.Proofs.Ytjjlmnbmpgfcbaa.Vs

set_option maxRecDepth 100000
set_option maxHeartbeats 2000000
set_option linter.unusedVariables false
set_option linter.unusedSimpArgs false
namespace Go.Proofs.Ytjjlmnbmpgfcbaa.Vs
open Go.RowKit
noncomputable section
/-! function 9 -/
/-! function 18 -/
noncomputable def r_impl_OnlyBefore : List PK := [{ t := Ty.pair (Ty.int IntKind.i64) (Ty.pair (Ty.int IntKind.i64) (Ty.slice (75 : Nat) (Ty.pair (Ty.int IntKind.i64) (Ty.int IntKind.i64)))), agg := true }, { t := Ty.bool }]
noncomputable def q_impl_OnlyBefore : List PK := [{ t := Ty.pair (Ty.int IntKind.i64) (Ty.pair (Ty.int IntKind.i64) (Ty.slice (75 : Nat) (Ty.pair (Ty.int IntKind.i64) (Ty.int IntKind.i64)))), agg := true }, { t := Ty.int IntKind.i64 }]
noncomputable def to_impl_OnlyBefore (r : (Int × Int × List (Int × Int)) × Bool) : Tup r_impl_OnlyBefore × OutD := ((r.1, r.2, ()), none)
noncomputable def of_impl_OnlyBefore : Tup r_impl_OnlyBefore × OutD → Option ((Int × Int × List (Int × Int)) × Bool)
  | (a, none) => some (a.1, a.2.1)
  | _ => none
theorem to_of_impl_OnlyBefore : ∀ b r, of_impl_OnlyBefore b = some r → to_impl_OnlyBefore r = b := by
  rintro ⟨a, o⟩ r h
  cases o with
  | none => injection h with h; subst h; rfl
  | some _ => cases h
noncomputable def f_impl_OnlyBefore : Nat → Int × Int × List (Int × Int) → Int → Option ((Int × Int × List (Int × Int)) × Bool)
  | 0, _, _ => none
  | k + 1, p0, p1 =>
    Option.bind (f_impl_BoardsBefore k (Prod.fst p0, Prod.fst (Prod.snd p0), Prod.snd (Prod.snd p0)) p1) fun z0 => if (!Prod.snd z0) = true then some (((0 : Int), (0 : Int), []), false) else if decide ((↑(List.length (Prod.fst z0)) : Int) ≠ (1 : Int)) = true then some (((0 : Int), (0 : Int), []), false) else if (0 : Int) < (↑(List.length (Prod.fst z0)) : Int) then some ((Prod.fst (List.getD (Prod.fst z0) (Int.toNat (0 : Int)) ((0 : Int), (0 : Int), [])), Prod.fst (Prod.snd (List.getD (Prod.fst z0) (Int.toNat (0 : Int)) ((0 : Int), (0 : Int), []))), Prod.snd (Prod.snd (List.getD (Prod.fst z0) (Int.toNat (0 : Int)) ((0 : Int), (0 : Int), [])))), true) else none
noncomputable def d_impl_OnlyBefore : FnDef := .of q_impl_OnlyBefore r_impl_OnlyBefore ((Int × Int × List (Int × Int)) × Bool) (fun k x => f_impl_OnlyBefore k x.1 x.2.1) to_impl_OnlyBefore of_impl_OnlyBefore to_of_impl_OnlyBefore
noncomputable def c_impl_OnlyBefore : Code := Try.f18.body.getD .skip
noncomputable def x_impl_OnlyBefore : Ctx (Tup r_impl_OnlyBefore × OutD) := { T := T, G := [(23, d_impl_BoardsBefore.E)], mvs := [24], no := 0, n := 25, res := resOf T q_impl_OnlyBefore r_impl_OnlyBefore Try.f18.results.toList, loops := [], regs := [], conds := [] }
theorem g_impl_OnlyBefore (k : Nat) : EnvOK Try.prog k x_impl_OnlyBefore.G := (EnvOK.cons (s_impl_BoardsBefore k) (EnvOK.nil mixed))
theorem h_impl_OnlyBefore (k : Nat) (x : Tup d_impl_OnlyBefore.ps) : d_impl_OnlyBefore.f (k + 1) x = fnK d_impl_OnlyBefore x_impl_OnlyBefore c_impl_OnlyBefore k x := by kernel_rfl
theorem z_impl_OnlyBefore (x : Tup d_impl_OnlyBefore.ps) : d_impl_OnlyBefore.f 0 x = none := by kernel_rfl
theorem l_impl_OnlyBefore (k : Nat) : LOK Try.prog x_impl_OnlyBefore k c_impl_OnlyBefore := LOK.by [] (by kernel_rfl) AllOK.nil
theorem s_impl_OnlyBefore (k : Nat) : SoundAt Try.prog k 18 d_impl_OnlyBefore.E := @fn_all Try.prog d_impl_OnlyBefore x_impl_OnlyBefore 18 Try.f18 c_impl_OnlyBefore (by kernel_rfl) (by kernel_rfl) (by kernel_rfl) Try.func18 (by kernel_rfl) (by kernel_rfl) (by kernel_rfl) T_ok g_impl_OnlyBefore l_impl_OnlyBefore z_impl_OnlyBefore h_impl_OnlyBefore k
/-! function 20 -/
/-! function 22 -/
/-! function 40 -/
noncomputable def r_spec_rvOnly : List PK := [{ t := Ty.pair (Ty.int IntKind.i64) (Ty.pair (Ty.int IntKind.i64) (Ty.slice (75 : Nat) (Ty.pair (Ty.int IntKind.i64) (Ty.int IntKind.i64)))), agg := true }, { t := Ty.bool }]
noncomputable def q_spec_rvOnly : List PK := [{ t := Ty.pair (Ty.int IntKind.i64) (Ty.pair (Ty.int IntKind.i64) (Ty.slice (75 : Nat) (Ty.pair (Ty.int IntKind.i64) (Ty.int IntKind.i64)))), agg := true }, { t := Ty.int IntKind.i64 }]
noncomputable def to_spec_rvOnly (r : (Int × Int × List (Int × Int)) × Bool) : Tup r_spec_rvOnly × OutD := ((r.1, r.2, ()), none)
noncomputable def of_spec_rvOnly : Tup r_spec_rvOnly × OutD → Option ((Int × Int × List (Int × Int)) × Bool)
  | (a, none) => some (a.1, a.2.1)
  | _ => none
theorem to_of_spec_rvOnly : ∀ b r, of_spec_rvOnly b = some r → to_spec_rvOnly r = b := by
  rintro ⟨a, o⟩ r h
  cases o with
  | none => injection h with h; subst h; rfl
  | some _ => cases h
noncomputable def f_spec_rvOnly : Nat → Int × Int × List (Int × Int) → Int → Option ((Int × Int × List (Int × Int)) × Bool)
  | 0, _, _ => none
  | k + 1, p0, p1 =>
    Option.bind (f_spec_rvNext k (Prod.fst p0, Prod.fst (Prod.snd p0), Prod.snd (Prod.snd p0)) p1) fun z0 => Option.bind (f_spec_saNumber k (Prod.fst p0, Prod.fst (Prod.snd p0), Prod.snd (Prod.snd p0))) fun z1 => Option.bind (f_spec_rvBefore k z0 z1) fun z2 => if decide ((↑(List.length z2) : Int) ≠ (1 : Int)) = true then some (((0 : Int), (0 : Int), []), false) else if (0 : Int) < (↑(List.length z2) : Int) then Option.bind (f_spec_saIn k (Prod.fst p0, Prod.fst (Prod.snd p0), Prod.snd (Prod.snd p0)) (List.getD z2 (Int.toNat (0 : Int)) (0 : Int))) fun z3 => some ((Prod.fst z3, Prod.fst (Prod.snd z3), Prod.snd (Prod.snd z3)), true) else none
noncomputable def d_spec_rvOnly : FnDef := .of q_spec_rvOnly r_spec_rvOnly ((Int × Int × List (Int × Int)) × Bool) (fun k x => f_spec_rvOnly k x.1 x.2.1) to_spec_rvOnly of_spec_rvOnly to_of_spec_rvOnly
noncomputable def c_spec_rvOnly : Code := Try.f40.body.getD .skip
noncomputable def x_spec_rvOnly : Ctx (Tup r_spec_rvOnly × OutD) := { T := T, G := [(32, d_spec_rvNext.E), (44, d_spec_saNumber.E), (50, d_spec_rvBefore.E), (51, d_spec_saIn.E)], mvs := [], no := 0, n := 22, res := resOf T q_spec_rvOnly r_spec_rvOnly Try.f40.results.toList, loops := [], regs := [], conds := [] }
theorem g_spec_rvOnly (k : Nat) : EnvOK Try.prog k x_spec_rvOnly.G := (EnvOK.cons (s_spec_rvNext k) (EnvOK.cons (s_spec_saNumber k) (EnvOK.cons (s_spec_rvBefore k) (EnvOK.cons (s_spec_saIn k) (EnvOK.nil mixed)))))
theorem h_spec_rvOnly (k : Nat) (x : Tup d_spec_rvOnly.ps) : d_spec_rvOnly.f (k + 1) x = fnK d_spec_rvOnly x_spec_rvOnly c_spec_rvOnly k x := by kernel_rfl
theorem z_spec_rvOnly (x : Tup d_spec_rvOnly.ps) : d_spec_rvOnly.f 0 x = none := by kernel_rfl
theorem l_spec_rvOnly (k : Nat) : LOK Try.prog x_spec_rvOnly k c_spec_rvOnly := LOK.by [] (by kernel_rfl) AllOK.nil
theorem s_spec_rvOnly (k : Nat) : SoundAt Try.prog k 40 d_spec_rvOnly.E := @fn_all Try.prog d_spec_rvOnly x_spec_rvOnly 40 Try.f40 c_spec_rvOnly (by kernel_rfl) (by kernel_rfl) (by kernel_rfl) Try.func40 (by kernel_rfl) (by kernel_rfl) (by kernel_rfl) T_ok g_spec_rvOnly l_spec_rvOnly z_spec_rvOnly h_spec_rvOnly k
end
end Go.Proofs.Ytjjlmnbmpgfcbaa.Vs

set_option maxRecDepth 100000
set_option maxHeartbeats 2000000
set_option linter.unusedVariables false
set_option linter.unusedSimpArgs false
namespace Go.Proofs.Ytjjlmnbmpgfcbaa.Vs
open Go.RowKit
noncomputable section
/-! function 3 -/
/-! function 5 -/
/-! function 17 -/
noncomputable def r_spec_OnlyBefore : List PK := [{ t := Ty.pair (Ty.int IntKind.i64) (Ty.pair (Ty.int IntKind.i64) (Ty.slice (75 : Nat) (Ty.pair (Ty.int IntKind.i64) (Ty.int IntKind.i64)))), agg := true }, { t := Ty.bool }]
noncomputable def q_spec_OnlyBefore : List PK := [{ t := Ty.pair (Ty.int IntKind.i64) (Ty.pair (Ty.int IntKind.i64) (Ty.slice (75 : Nat) (Ty.pair (Ty.int IntKind.i64) (Ty.int IntKind.i64)))), agg := true }, { t := Ty.int IntKind.i64 }]
noncomputable def to_spec_OnlyBefore (r : (Int × Int × List (Int × Int)) × Bool) : Tup r_spec_OnlyBefore × OutD := ((r.1, r.2, ()), none)
noncomputable def of_spec_OnlyBefore : Tup r_spec_OnlyBefore × OutD → Option ((Int × Int × List (Int × Int)) × Bool)
  | (a, none) => some (a.1, a.2.1)
  | _ => none
theorem to_of_spec_OnlyBefore : ∀ b r, of_spec_OnlyBefore b = some r → to_spec_OnlyBefore r = b := by
  rintro ⟨a, o⟩ r h
  cases o with
  | none => injection h with h; subst h; rfl
  | some _ => cases h
noncomputable def f_spec_OnlyBefore : Nat → Int × Int × List (Int × Int) → Int → Option ((Int × Int × List (Int × Int)) × Bool)
  | 0, _, _ => none
  | k + 1, p0, p1 =>
    Option.bind (f_spec_rvHas k (Prod.fst p0, Prod.fst (Prod.snd p0), Prod.snd (Prod.snd p0)) p1) fun z0 => if (!z0) = true then some (((0 : Int), (0 : Int), []), false) else Option.bind (f_spec_rvOnly k (Prod.fst p0, Prod.fst (Prod.snd p0), Prod.snd (Prod.snd p0)) p1) fun z1 => some ((Prod.fst (Prod.fst z1), Prod.fst (Prod.snd (Prod.fst z1)), Prod.snd (Prod.snd (Prod.fst z1))), Prod.snd z1)
noncomputable def d_spec_OnlyBefore : FnDef := .of q_spec_OnlyBefore r_spec_OnlyBefore ((Int × Int × List (Int × Int)) × Bool) (fun k x => f_spec_OnlyBefore k x.1 x.2.1) to_spec_OnlyBefore of_spec_OnlyBefore to_of_spec_OnlyBefore
noncomputable def c_spec_OnlyBefore : Code := Try.f17.body.getD .skip
noncomputable def x_spec_OnlyBefore : Ctx (Tup r_spec_OnlyBefore × OutD) := { T := T, G := [(31, d_spec_rvHas.E), (40, d_spec_rvOnly.E)], mvs := [], no := 0, n := 16, res := resOf T q_spec_OnlyBefore r_spec_OnlyBefore Try.f17.results.toList, loops := [], regs := [], conds := [] }
theorem g_spec_OnlyBefore (k : Nat) : EnvOK Try.prog k x_spec_OnlyBefore.G := (EnvOK.cons (s_spec_rvHas k) (EnvOK.cons (s_spec_rvOnly k) (EnvOK.nil mixed)))
theorem h_spec_OnlyBefore (k : Nat) (x : Tup d_spec_OnlyBefore.ps) : d_spec_OnlyBefore.f (k + 1) x = fnK d_spec_OnlyBefore x_spec_OnlyBefore c_spec_OnlyBefore k x := by kernel_rfl
theorem z_spec_OnlyBefore (x : Tup d_spec_OnlyBefore.ps) : d_spec_OnlyBefore.f 0 x = none := by kernel_rfl
theorem l_spec_OnlyBefore (k : Nat) : LOK Try.prog x_spec_OnlyBefore k c_spec_OnlyBefore := LOK.by [] (by kernel_rfl) AllOK.nil
theorem s_spec_OnlyBefore (k : Nat) : SoundAt Try.prog k 17 d_spec_OnlyBefore.E := @fn_all Try.prog d_spec_OnlyBefore x_spec_OnlyBefore 17 Try.f17 c_spec_OnlyBefore (by kernel_rfl) (by kernel_rfl) (by kernel_rfl) Try.func17 (by kernel_rfl) (by kernel_rfl) (by kernel_rfl) T_ok g_spec_OnlyBefore l_spec_OnlyBefore z_spec_OnlyBefore h_spec_OnlyBefore k
/-! function 27 -/
noncomputable def r_spec_UndoMarbles : List PK := [{ t := Ty.pair (Ty.int IntKind.i64) (Ty.pair (Ty.int IntKind.i64) (Ty.slice (75 : Nat) (Ty.pair (Ty.int IntKind.i64) (Ty.int IntKind.i64)))), agg := true }, { t := Ty.bool }]
noncomputable def q_spec_UndoMarbles : List PK := [{ t := Ty.pair (Ty.int IntKind.i64) (Ty.pair (Ty.int IntKind.i64) (Ty.slice (75 : Nat) (Ty.pair (Ty.int IntKind.i64) (Ty.int IntKind.i64)))), agg := true }, { t := Ty.slice (3 : Nat) (Ty.int IntKind.i64) }]
noncomputable def to_spec_UndoMarbles (r : (Int × Int × List (Int × Int)) × Bool) : Tup r_spec_UndoMarbles × OutD := ((r.1, r.2, ()), none)
noncomputable def of_spec_UndoMarbles : Tup r_spec_UndoMarbles × OutD → Option ((Int × Int × List (Int × Int)) × Bool)
  | (a, none) => some (a.1, a.2.1)
  | _ => none
theorem to_of_spec_UndoMarbles : ∀ b r, of_spec_UndoMarbles b = some r → to_spec_UndoMarbles r = b := by
  rintro ⟨a, o⟩ r h
  cases o with
  | none => injection h with h; subst h; rfl
  | some _ => cases h
noncomputable def f_spec_UndoMarbles_g7 : Nat → Int → Int → List (Int × Int) → Int → Int → List (Int × Int) → List Int → Int → Option (Int × Int × List (Int × Int) × Int × Int × List (Int × Int) × Int × Int × List (Int × Int) × List Int × Int × Bool) := fun k b1_0 b1_1 o2 b3_0 b3_1 o4 v1 v7 =>
    if (0 : Int) ≤ v7 then if v7 < (↑(List.length v1) : Int) then Option.bind (f_spec_rvOnly k (b3_0, b3_1, o4) (List.getD v1 (Int.toNat v7) (0 : Int))) fun z3 => some (b1_0, b1_1, o2, b3_0, b3_1, o4, Prod.fst (Prod.fst z3), Prod.fst (Prod.snd (Prod.fst z3)), Prod.snd (Prod.snd (Prod.fst z3)), v1, v7, Prod.snd z3) else none else none
noncomputable def f_spec_UndoMarbles_g7A : Nat → Int → Int → List (Int × Int) → Int → Int → List (Int × Int) → List Int → Int → Option (List (Int × Int × List (Int × Int) × Int × Int × List (Int × Int) × Int × Int × List (Int × Int) × List Int × Int × Bool)) := fun k b1_0 b1_1 o2 b3_0 b3_1 o4 v1 v7 =>
    if (0 : Int) ≤ v7 then if v7 < (↑(List.length v1) : Int) then joinL (Option.bind (f_spec_rvOnly k (b3_0, b3_1, o4) (List.getD v1 (Int.toNat v7) (0 : Int))) fun z4 => some [(b1_0, b1_1, o2, b3_0, b3_1, o4, Prod.fst (Prod.fst z4), Prod.fst (Prod.snd (Prod.fst z4)), Prod.snd (Prod.snd (Prod.fst z4)), v1, v7, Prod.snd z4)]) (Option.bind (f_spec_rvOnly k (b3_0, b3_1, o4) (List.getD v1 (Int.toNat v7) (0 : Int))) fun z5 => some [(b1_0, b1_1, o2, b3_0, b3_1, o4, Prod.fst (Prod.fst z5), Prod.fst (Prod.snd (Prod.fst z5)), Prod.snd (Prod.snd (Prod.fst z5)), v1, v7, Prod.snd z5)]) else none else none
noncomputable def f_spec_UndoMarbles_g7i : Spec := { objs := [OSh.ro, OSh.box (31 : Nat) [Sh.int IntKind.i64, Sh.int IntKind.i64, Sh.sl (2 : Nat)], OSh.row true (75 : Nat) (Ty.pair (Ty.int IntKind.i64) (Ty.int IntKind.i64)), OSh.box (31 : Nat) [Sh.int IntKind.i64, Sh.int IntKind.i64, Sh.sl (4 : Nat)], OSh.row true (75 : Nat) (Ty.pair (Ty.int IntKind.i64) (Ty.int IntKind.i64))], tmps := [((1 : Nat), TSh.at (Sh.snap (0 : Nat) (Ty.int IntKind.i64))), ((4 : Nat), TSh.at (Sh.ptr (1 : Nat) (0 : Nat))), ((6 : Nat), TSh.at (Sh.ptr (3 : Nat) (0 : Nat))), ((7 : Nat), TSh.at (Sh.int IntKind.i64))] }
noncomputable def f_spec_UndoMarbles_g7o : Spec := { objs := [OSh.ro, OSh.box (31 : Nat) [Sh.int IntKind.i64, Sh.int IntKind.i64, Sh.sl (2 : Nat)], OSh.row true (75 : Nat) (Ty.pair (Ty.int IntKind.i64) (Ty.int IntKind.i64)), OSh.box (31 : Nat) [Sh.int IntKind.i64, Sh.int IntKind.i64, Sh.sl (4 : Nat)], OSh.row true (75 : Nat) (Ty.pair (Ty.int IntKind.i64) (Ty.int IntKind.i64)), OSh.box (31 : Nat) [Sh.int IntKind.i64, Sh.int IntKind.i64, Sh.sl (6 : Nat)], OSh.row true (75 : Nat) (Ty.pair (Ty.int IntKind.i64) (Ty.int IntKind.i64))], tmps := [((1 : Nat), TSh.at (Sh.snap (0 : Nat) (Ty.int IntKind.i64))), ((4 : Nat), TSh.at (Sh.ptr (1 : Nat) (0 : Nat))), ((6 : Nat), TSh.at (Sh.ptr (3 : Nat) (0 : Nat))), ((7 : Nat), TSh.at (Sh.int IntKind.i64)), ((8 : Nat), TSh.at (Sh.ptr (5 : Nat) (0 : Nat))), ((9 : Nat), TSh.at Sh.bool)] }
noncomputable def f_spec_UndoMarbles_g7D : LoopDef (Tup r_spec_UndoMarbles × OutD) := .plain f_spec_UndoMarbles_g7i f_spec_UndoMarbles_g7o (Int × Int × List (Int × Int) × Int × Int × List (Int × Int) × Int × Int × List (Int × Int) × List Int × Int × Bool) (fun k x => f_spec_UndoMarbles_g7 k x.1.2.1.1 x.1.2.1.2.1 x.1.2.2.1 x.1.2.2.2.1.1 x.1.2.2.2.1.2.1 x.1.2.2.2.2.1 x.2.1 x.2.2.2.2.1) (fun z => (((), (z.1, z.2.1, (), ()), z.2.2.1, (z.2.2.2.1, z.2.2.2.2.1, (), ()), z.2.2.2.2.2.1, (z.2.2.2.2.2.2.1, z.2.2.2.2.2.2.2.1, (), ()), z.2.2.2.2.2.2.2.2.1, ()), (z.2.2.2.2.2.2.2.2.2.1, (), (), z.2.2.2.2.2.2.2.2.2.2.1, (), z.2.2.2.2.2.2.2.2.2.2.2, ()))) (fun y => (y.1.2.1.1, y.1.2.1.2.1, y.1.2.2.1, y.1.2.2.2.1.1, y.1.2.2.2.1.2.1, y.1.2.2.2.2.1, y.1.2.2.2.2.2.1.1, y.1.2.2.2.2.2.1.2.1, y.1.2.2.2.2.2.2.1, y.2.1, y.2.2.2.2.1, y.2.2.2.2.2.2.1)) (fun _ => rfl)
theorem f_spec_UndoMarbles_g7j (k : Nat) (b1_0 : Int) (b1_1 : Int) (o2 : List (Int × Int)) (b3_0 : Int) (b3_1 : Int) (o4 : List (Int × Int)) (v1 : List Int) (v7 : Int) : f_spec_UndoMarbles_g7A k b1_0 b1_1 o2 b3_0 b3_1 o4 v1 v7 = repl 2 (f_spec_UndoMarbles_g7 k b1_0 b1_1 o2 b3_0 b3_1 o4 v1 v7) := by
  first
  | (simp only [f_spec_UndoMarbles_g7A, f_spec_UndoMarbles_g7, repl_some, repl_ite, repl_ite0, repl_ite1, repl_bind, joinL_repl, if_true]; done)
  | (simp only [f_spec_UndoMarbles_g7A, f_spec_UndoMarbles_g7, repl_some, repl_ite, repl_ite0, repl_ite1, repl_bind, joinL_repl, if_true]; simp only [joinL_grdl, joinL_grdr, repl_grd, joinL_repl]; simp only [grd_and]; exact grd_congr ⟨fun h => by simp only [h, and_self], fun h => by simp only [h, and_self]⟩)
noncomputable def f_spec_UndoMarbles_0 : Nat → Int → Int → List (Int × Int) → Int → Int → List (Int × Int) → List Int → Int → Option (LR (Int × Int × List (Int × Int) × Int × Int × List (Int × Int)) ((Int × Int × List (Int × Int)) × Bool))
  | 0, _, _, _, _, _, _, _, _ => none
  | k + 1, b1_0, b1_1, o2, b3_0, b3_1, o4, v1, v7 =>
    if decide (v7 ≥ (0 : Int)) = true then Option.bind (f_spec_UndoMarbles_g7 k b1_0 b1_1 o2 b3_0 b3_1 o4 v1 v7) fun z6 => if (!Prod.snd (Prod.snd (Prod.snd (Prod.snd (Prod.snd (Prod.snd (Prod.snd (Prod.snd (Prod.snd (Prod.snd (Prod.snd z6))))))))))) = true then some (LR.ret (((0 : Int), (0 : Int), []), false)) else f_spec_UndoMarbles_0 k (Prod.fst z6) (Prod.fst (Prod.snd z6)) (Prod.fst (Prod.snd (Prod.snd z6))) (Prod.fst (Prod.snd (Prod.snd (Prod.snd (Prod.snd (Prod.snd (Prod.snd z6))))))) (Prod.fst (Prod.snd (Prod.snd (Prod.snd (Prod.snd (Prod.snd (Prod.snd (Prod.snd z6)))))))) (Prod.fst (Prod.snd (Prod.snd (Prod.snd (Prod.snd (Prod.snd (Prod.snd (Prod.snd (Prod.snd z6))))))))) (Prod.fst (Prod.snd (Prod.snd (Prod.snd (Prod.snd (Prod.snd (Prod.snd (Prod.snd (Prod.snd (Prod.snd z6)))))))))) (wrap64 (Prod.fst (Prod.snd (Prod.snd (Prod.snd (Prod.snd (Prod.snd (Prod.snd (Prod.snd (Prod.snd (Prod.snd (Prod.snd z6)))))))))) - (1 : Int))) else some (LR.go (b1_0, b1_1, o2, b3_0, b3_1, o4))
noncomputable def f_spec_UndoMarbles_0i : Spec := { objs := [OSh.ro, OSh.box (31 : Nat) [Sh.int IntKind.i64, Sh.int IntKind.i64, Sh.sl (2 : Nat)], OSh.row true (75 : Nat) (Ty.pair (Ty.int IntKind.i64) (Ty.int IntKind.i64)), OSh.box (31 : Nat) [Sh.int IntKind.i64, Sh.int IntKind.i64, Sh.sl (4 : Nat)], OSh.row true (75 : Nat) (Ty.pair (Ty.int IntKind.i64) (Ty.int IntKind.i64))], tmps := [((1 : Nat), TSh.at (Sh.snap (0 : Nat) (Ty.int IntKind.i64))), ((4 : Nat), TSh.at (Sh.ptr (1 : Nat) (0 : Nat))), ((6 : Nat), TSh.at (Sh.ptr (3 : Nat) (0 : Nat))), ((7 : Nat), TSh.at (Sh.int IntKind.i64))] }
noncomputable def f_spec_UndoMarbles_0o : Spec := { objs := [OSh.ro, OSh.box (31 : Nat) [Sh.int IntKind.i64, Sh.int IntKind.i64, Sh.sl (2 : Nat)], OSh.row true (75 : Nat) (Ty.pair (Ty.int IntKind.i64) (Ty.int IntKind.i64)), OSh.box (31 : Nat) [Sh.int IntKind.i64, Sh.int IntKind.i64, Sh.sl (4 : Nat)], OSh.row true (75 : Nat) (Ty.pair (Ty.int IntKind.i64) (Ty.int IntKind.i64))], tmps := [((4 : Nat), TSh.at (Sh.ptr (1 : Nat) (0 : Nat))), ((6 : Nat), TSh.at (Sh.ptr (3 : Nat) (0 : Nat)))] }
noncomputable def f_spec_UndoMarbles_0D : LoopDef (Tup r_spec_UndoMarbles × OutD) := .rets f_spec_UndoMarbles_0i f_spec_UndoMarbles_0o (Int × Int × List (Int × Int) × Int × Int × List (Int × Int)) ((Int × Int × List (Int × Int)) × Bool) (fun k x => f_spec_UndoMarbles_0 k x.1.2.1.1 x.1.2.1.2.1 x.1.2.2.1 x.1.2.2.2.1.1 x.1.2.2.2.1.2.1 x.1.2.2.2.2.1 x.2.1 x.2.2.2.2.1) (fun z => (((), (z.1, z.2.1, (), ()), z.2.2.1, (z.2.2.2.1, z.2.2.2.2.1, (), ()), z.2.2.2.2.2, ()), ((), (), ()))) (fun y => (y.1.2.1.1, y.1.2.1.2.1, y.1.2.2.1, y.1.2.2.2.1.1, y.1.2.2.2.1.2.1, y.1.2.2.2.2.1)) (fun _ => rfl) to_spec_UndoMarbles of_spec_UndoMarbles to_of_spec_UndoMarbles
noncomputable def f_spec_UndoMarbles : Nat → Int × Int × List (Int × Int) → List Int → Option ((Int × Int × List (Int × Int)) × Bool)
  | 0, _, _ => none
  | k + 1, p0, p1 =>
    Option.bind (f_spec_rvHas k (Prod.fst p0, Prod.fst (Prod.snd p0), Prod.snd (Prod.snd p0)) (0 : Int)) fun z0 => if (!z0) = true then some (((0 : Int), (0 : Int), []), false) else if decide ((↑(List.length p1) : Int) > (20 : Int)) = true then some (((0 : Int), (0 : Int), []), false) else Option.bind (f_spec_l1All k p1 (0 : Int) (wrap64 (Prod.fst (Prod.snd p0) - (1 : Int)))) fun z1 => if (!z1) = true then some (((0 : Int), (0 : Int), []), false) else Option.bind (f_spec_boOwn k (Prod.fst p0, Prod.fst (Prod.snd p0), Prod.snd (Prod.snd p0))) fun z2 => Option.bind (f_spec_UndoMarbles_0 k (0 : Int) (0 : Int) [] (Prod.fst z2) (Prod.fst (Prod.snd z2)) (Prod.snd (Prod.snd z2)) p1 (wrap64 ((↑(List.length p1) : Int) - (1 : Int)))) fun z7 => LR.on z7 (fun y7 => some ((Prod.fst (Prod.snd (Prod.snd (Prod.snd y7))), Prod.fst (Prod.snd (Prod.snd (Prod.snd (Prod.snd y7)))), Prod.snd (Prod.snd (Prod.snd (Prod.snd (Prod.snd y7))))), true)) fun r7 => some r7
noncomputable def d_spec_UndoMarbles : FnDef := .of q_spec_UndoMarbles r_spec_UndoMarbles ((Int × Int × List (Int × Int)) × Bool) (fun k x => f_spec_UndoMarbles k x.1 x.2.1) to_spec_UndoMarbles of_spec_UndoMarbles to_of_spec_UndoMarbles
noncomputable def c_spec_UndoMarbles : Code := Try.f27.body.getD .skip
noncomputable def x_spec_UndoMarbles : Ctx (Tup r_spec_UndoMarbles × OutD) := { T := T, G := [(31, d_spec_rvHas.E), (53, d_spec_l1All.E), (54, d_spec_boOwn.E), (40, d_spec_rvOnly.E)], mvs := [], no := 0, n := 50, res := resOf T q_spec_UndoMarbles r_spec_UndoMarbles Try.f27.results.toList, loops := [(0, f_spec_UndoMarbles_0D.E)], regs := [(7, f_spec_UndoMarbles_g7D.E)], conds := [] }
theorem g_spec_UndoMarbles (k : Nat) : EnvOK Try.prog k x_spec_UndoMarbles.G := (EnvOK.cons (s_spec_rvHas k) (EnvOK.cons (s_spec_l1All k) (EnvOK.cons (s_spec_boOwn k) (EnvOK.cons (s_spec_rvOnly k) (EnvOK.nil mixed)))))
noncomputable def f_spec_UndoMarbles_g7O : Array Oper := (findReg 7 c_spec_UndoMarbles).getD #[]
theorem f_spec_UndoMarbles_g7e (k : Nat) (x : f_spec_UndoMarbles_g7i.D) : execD x_spec_UndoMarbles.T x_spec_UndoMarbles.G x_spec_UndoMarbles.mvs k f_spec_UndoMarbles_g7O (f_spec_UndoMarbles_g7D.inp.st x_spec_UndoMarbles.n x) (outK x_spec_UndoMarbles f_spec_UndoMarbles_g7D) = f_spec_UndoMarbles_g7A k x.1.2.1.1 x.1.2.1.2.1 x.1.2.2.1 x.1.2.2.2.1.1 x.1.2.2.2.1.2.1 x.1.2.2.2.2.1 x.2.1 x.2.2.2.2.1 := by kernel_rfl
theorem f_spec_UndoMarbles_g7ok (k : Nat) : EOK Try.prog x_spec_UndoMarbles k f_spec_UndoMarbles_g7D.E (.region 7 f_spec_UndoMarbles_g7O true) := reg_ok (D := f_spec_UndoMarbles_g7D) (m := 2) T_ok (g_spec_UndoMarbles k) (fun x => (f_spec_UndoMarbles_g7e k x).trans (f_spec_UndoMarbles_g7j k x.1.2.1.1 x.1.2.1.2.1 x.1.2.2.1 x.1.2.2.2.1.1 x.1.2.2.2.1.2.1 x.1.2.2.2.2.1 x.2.1 x.2.2.2.2.1))
noncomputable def f_spec_UndoMarbles_0B : Code := (findLoop 0 c_spec_UndoMarbles).getD .skip
theorem f_spec_UndoMarbles_0h (k : Nat) (x : f_spec_UndoMarbles_0i.D) : f_spec_UndoMarbles_0D.lp (k + 1) x = loopK x_spec_UndoMarbles f_spec_UndoMarbles_0D 0 f_spec_UndoMarbles_0B k x := by kernel_rfl
theorem f_spec_UndoMarbles_0l (k : Nat) : LOK Try.prog x_spec_UndoMarbles k f_spec_UndoMarbles_0B := LOK.by [(f_spec_UndoMarbles_g7D.E, .region 7 f_spec_UndoMarbles_g7O true)] (by kernel_rfl) (AllOK.cons (f_spec_UndoMarbles_g7ok k) AllOK.nil)
theorem f_spec_UndoMarbles_0z (x : f_spec_UndoMarbles_0i.D) : f_spec_UndoMarbles_0D.lp 0 x = none := by kernel_rfl
theorem f_spec_UndoMarbles_0ok (k : Nat) : EOK Try.prog x_spec_UndoMarbles k f_spec_UndoMarbles_0D.E (.block 0 (.loop f_spec_UndoMarbles_0B)) := loop_ok T_ok g_spec_UndoMarbles f_spec_UndoMarbles_0z f_spec_UndoMarbles_0h f_spec_UndoMarbles_0l k
theorem h_spec_UndoMarbles (k : Nat) (x : Tup d_spec_UndoMarbles.ps) : d_spec_UndoMarbles.f (k + 1) x = fnK d_spec_UndoMarbles x_spec_UndoMarbles c_spec_UndoMarbles k x := by kernel_rfl
theorem z_spec_UndoMarbles (x : Tup d_spec_UndoMarbles.ps) : d_spec_UndoMarbles.f 0 x = none := by kernel_rfl
theorem l_spec_UndoMarbles (k : Nat) : LOK Try.prog x_spec_UndoMarbles k c_spec_UndoMarbles := LOK.by [(f_spec_UndoMarbles_0D.E, .block 0 (.loop f_spec_UndoMarbles_0B))] (by kernel_rfl) (AllOK.cons (f_spec_UndoMarbles_0ok k) AllOK.nil)
theorem s_spec_UndoMarbles (k : Nat) : SoundAt Try.prog k 27 d_spec_UndoMarbles.E := @fn_all Try.prog d_spec_UndoMarbles x_spec_UndoMarbles 27 Try.f27 c_spec_UndoMarbles (by kernel_rfl) (by kernel_rfl) (by kernel_rfl) Try.func27 (by kernel_rfl) (by kernel_rfl) (by kernel_rfl) T_ok g_spec_UndoMarbles l_spec_UndoMarbles z_spec_UndoMarbles h_spec_UndoMarbles k
end
end Go.Proofs.Ytjjlmnbmpgfcbaa.Vs

set_option maxRecDepth 100000
set_option maxHeartbeats 2000000
set_option linter.unusedVariables false
set_option linter.unusedSimpArgs false
namespace Go.Proofs.Ytjjlmnbmpgfcbaa.Vs
open Go.RowKit
noncomputable section
/-! function 4 -/
noncomputable def r_laws_FnExactOnlyBefore : List PK := [{ t := Ty.bool }]
noncomputable def q_laws_FnExactOnlyBefore : List PK := [{ t := Ty.pair (Ty.int IntKind.i64) (Ty.pair (Ty.int IntKind.i64) (Ty.slice (77 : Nat) (Ty.pair (Ty.int IntKind.i64) (Ty.int IntKind.i64)))), agg := true }, { t := Ty.int IntKind.i64 }]
noncomputable def to_laws_FnExactOnlyBefore (r : Bool) : Tup r_laws_FnExactOnlyBefore × OutD := ((r, ()), none)
noncomputable def of_laws_FnExactOnlyBefore : Tup r_laws_FnExactOnlyBefore × OutD → Option (Bool)
  | (a, none) => some (a.1)
  | _ => none
theorem to_of_laws_FnExactOnlyBefore : ∀ b r, of_laws_FnExactOnlyBefore b = some r → to_laws_FnExactOnlyBefore r = b := by
  rintro ⟨a, o⟩ r h
  cases o with
  | none => injection h with h; subst h; rfl
  | some _ => cases h
noncomputable def f_laws_FnExactOnlyBefore : Nat → Int × Int × List (Int × Int) → Int → Option Bool
  | 0, _, _ => none
  | k + 1, p0, p1 =>
    Option.bind (f_laws_szBoard k (Prod.fst p0, Prod.fst (Prod.snd p0), Prod.snd (Prod.snd p0)) (1048576 : Int)) fun z0 => if decide (z0 < (0 : Int)) = true then some true else Option.bind (f_laws_toBoard k (Prod.fst p0, Prod.fst (Prod.snd p0), Prod.snd (Prod.snd p0))) fun z1 => Option.bind (f_spec_OnlyBefore k (Prod.fst z1, Prod.fst (Prod.snd z1), Prod.snd (Prod.snd z1)) p1) fun z2 => Option.bind (f_laws_toBoard k (Prod.fst p0, Prod.fst (Prod.snd p0), Prod.snd (Prod.snd p0))) fun z3 => Option.bind (f_impl_OnlyBefore k (Prod.fst z3, Prod.fst (Prod.snd z3), Prod.snd (Prod.snd z3)) p1) fun z4 => Option.bind (f_laws_eqBoard k (Prod.fst (Prod.fst z4), Prod.fst (Prod.snd (Prod.fst z4)), Prod.snd (Prod.snd (Prod.fst z4))) (Prod.fst (Prod.fst z2), Prod.fst (Prod.snd (Prod.fst z2)), Prod.snd (Prod.snd (Prod.fst z2)))) fun z5 => if (!z5) = true then some false else if (!Prod.snd z4 == Prod.snd z2) = true then some false else Option.bind (f_laws_toBoard k (Prod.fst p0, Prod.fst (Prod.snd p0), Prod.snd (Prod.snd p0))) fun z6 => Option.bind (f_laws_eqBoard k (Prod.fst z3, Prod.fst (Prod.snd z3), Prod.snd (Prod.snd z3)) (Prod.fst z6, Prod.fst (Prod.snd z6), Prod.snd (Prod.snd z6))) fun z7 => if (!z7) = true then some false else Option.bind (f_laws_markBoard k (Prod.fst z3, Prod.fst (Prod.snd z3), Prod.snd (Prod.snd z3)) (1 : Int)) fun z8 => if decide (Prod.fst z8 < (0 : Int)) = true then some false else Option.bind (f_laws_eqBoard k (Prod.fst (Prod.fst z4), Prod.fst (Prod.snd (Prod.fst z4)), Prod.snd (Prod.snd (Prod.fst z4))) (Prod.fst (Prod.fst z2), Prod.fst (Prod.snd (Prod.fst z2)), Prod.snd (Prod.snd (Prod.fst z2)))) fun z9 => if (!z9) = true then some false else if (!Prod.snd z4 == Prod.snd z2) = true then some false else Option.bind (f_laws_markBoard k (Prod.fst (Prod.fst z4), Prod.fst (Prod.snd (Prod.fst z4)), Prod.snd (Prod.snd (Prod.fst z4))) (1 : Int)) fun z10 => Option.bind (f_laws_heldBoard k (Prod.fst (Prod.fst z4), Prod.fst (Prod.snd (Prod.fst z4)), Prod.snd z10) (1 : Int)) fun z11 => if decide (z11 < (0 : Int)) = true then some false else if decide (z11 ≠ Prod.fst z10) = true then some false else Option.bind (f_laws_toBoard k (Prod.fst p0, Prod.fst (Prod.snd p0), Prod.snd (Prod.snd p0))) fun z12 => Option.bind (f_impl_OnlyBefore k (Prod.fst z12, Prod.fst (Prod.snd z12), Prod.snd (Prod.snd z12)) p1) fun z13 => Option.bind (f_laws_eqBoard k (Prod.fst (Prod.fst z13), Prod.fst (Prod.snd (Prod.fst z13)), Prod.snd (Prod.snd (Prod.fst z13))) (Prod.fst (Prod.fst z2), Prod.fst (Prod.snd (Prod.fst z2)), Prod.snd (Prod.snd (Prod.fst z2)))) fun z14 => if (!z14) = true then some false else if (!Prod.snd z13 == Prod.snd z2) = true then some false else Option.bind (f_laws_heldBoard k (Prod.fst (Prod.fst z4), Prod.fst (Prod.snd (Prod.fst z4)), Prod.snd z10) (1 : Int)) fun z15 => if decide (z15 < (0 : Int)) = true then some false else if decide (z15 ≠ Prod.fst z10) = true then some false else some true
noncomputable def d_laws_FnExactOnlyBefore : FnDef := .of q_laws_FnExactOnlyBefore r_laws_FnExactOnlyBefore (Bool) (fun k x => f_laws_FnExactOnlyBefore k x.1 x.2.1) to_laws_FnExactOnlyBefore of_laws_FnExactOnlyBefore to_of_laws_FnExactOnlyBefore
noncomputable def c_laws_FnExactOnlyBefore : Code := Try.f4.body.getD .skip
noncomputable def x_laws_FnExactOnlyBefore : Ctx (Tup r_laws_FnExactOnlyBefore × OutD) := { T := T, G := [(8, d_laws_szBoard.E), (10, d_laws_toBoard.E), (17, d_spec_OnlyBefore.E), (18, d_impl_OnlyBefore.E), (13, d_laws_eqBoard.E), (14, d_laws_markBoard.E), (19, d_laws_heldBoard.E)], mvs := [], no := 0, n := 101, res := resOf T q_laws_FnExactOnlyBefore r_laws_FnExactOnlyBefore Try.f4.results.toList, loops := [], regs := [], conds := [] }
theorem g_laws_FnExactOnlyBefore (k : Nat) : EnvOK Try.prog k x_laws_FnExactOnlyBefore.G := (EnvOK.cons (s_laws_szBoard k) (EnvOK.cons (s_laws_toBoard k) (EnvOK.cons (s_spec_OnlyBefore k) (EnvOK.cons (s_impl_OnlyBefore k) (EnvOK.cons (s_laws_eqBoard k) (EnvOK.cons (s_laws_markBoard k) (EnvOK.cons (s_laws_heldBoard k) (EnvOK.nil mixed))))))))
theorem h_laws_FnExactOnlyBefore (k : Nat) (x : Tup d_laws_FnExactOnlyBefore.ps) : d_laws_FnExactOnlyBefore.f (k + 1) x = fnK d_laws_FnExactOnlyBefore x_laws_FnExactOnlyBefore c_laws_FnExactOnlyBefore k x := by kernel_rfl
theorem z_laws_FnExactOnlyBefore (x : Tup d_laws_FnExactOnlyBefore.ps) : d_laws_FnExactOnlyBefore.f 0 x = none := by kernel_rfl
theorem l_laws_FnExactOnlyBefore (k : Nat) : LOK Try.prog x_laws_FnExactOnlyBefore k c_laws_FnExactOnlyBefore := LOK.by [] (by kernel_rfl) AllOK.nil
theorem s_laws_FnExactOnlyBefore (k : Nat) : SoundAt Try.prog k 4 d_laws_FnExactOnlyBefore.E := @fn_all Try.prog d_laws_FnExactOnlyBefore x_laws_FnExactOnlyBefore 4 Try.f4 c_laws_FnExactOnlyBefore (by kernel_rfl) (by kernel_rfl) (by kernel_rfl) Try.func4 (by kernel_rfl) (by kernel_rfl) (by kernel_rfl) T_ok g_laws_FnExactOnlyBefore l_laws_FnExactOnlyBefore z_laws_FnExactOnlyBefore h_laws_FnExactOnlyBefore k
/-! function 7 -/
noncomputable def r_laws_FnExactUndoMarbles : List PK := [{ t := Ty.bool }]
noncomputable def q_laws_FnExactUndoMarbles : List PK := [{ t := Ty.pair (Ty.int IntKind.i64) (Ty.pair (Ty.int IntKind.i64) (Ty.slice (77 : Nat) (Ty.pair (Ty.int IntKind.i64) (Ty.int IntKind.i64)))), agg := true }, { t := Ty.slice (3 : Nat) (Ty.int IntKind.i64) }]
noncomputable def to_laws_FnExactUndoMarbles (r : Bool) : Tup r_laws_FnExactUndoMarbles × OutD := ((r, ()), none)
noncomputable def of_laws_FnExactUndoMarbles : Tup r_laws_FnExactUndoMarbles × OutD → Option (Bool)
  | (a, none) => some (a.1)
  | _ => none
theorem to_of_laws_FnExactUndoMarbles : ∀ b r, of_laws_FnExactUndoMarbles b = some r → to_laws_FnExactUndoMarbles r = b := by
  rintro ⟨a, o⟩ r h
  cases o with
  | none => injection h with h; subst h; rfl
  | some _ => cases h
noncomputable def f_laws_FnExactUndoMarbles : Nat → Int × Int × List (Int × Int) → List Int → Option Bool
  | 0, _, _ => none
  | k + 1, p0, p1 =>
    if decide ((↑(List.length p1) : Int) > (1048576 : Int)) = true then some true else Option.bind (f_laws_szBoard k (Prod.fst p0, Prod.fst (Prod.snd p0), Prod.snd (Prod.snd p0)) (1048576 : Int)) fun z0 => if decide (z0 < (0 : Int)) = true then some true else Option.bind (f_laws_toBoard k (Prod.fst p0, Prod.fst (Prod.snd p0), Prod.snd (Prod.snd p0))) fun z1 => Option.bind (f_laws_toIntS k p1) fun z2 => Option.bind (f_spec_UndoMarbles k (Prod.fst z1, Prod.fst (Prod.snd z1), Prod.snd (Prod.snd z1)) z2) fun z3 => Option.bind (f_laws_toBoard k (Prod.fst p0, Prod.fst (Prod.snd p0), Prod.snd (Prod.snd p0))) fun z4 => Option.bind (f_laws_toIntS k p1) fun z5 => Option.bind (f_impl_UndoMarbles k (Prod.fst z4, Prod.fst (Prod.snd z4), Prod.snd (Prod.snd z4)) z5) fun z6 => Option.bind (f_laws_eqBoard k (Prod.fst (Prod.fst z6), Prod.fst (Prod.snd (Prod.fst z6)), Prod.snd (Prod.snd (Prod.fst z6))) (Prod.fst (Prod.fst z3), Prod.fst (Prod.snd (Prod.fst z3)), Prod.snd (Prod.snd (Prod.fst z3)))) fun z7 => if (!z7) = true then some false else if (!Prod.snd z6 == Prod.snd z3) = true then some false else Option.bind (f_laws_toBoard k (Prod.fst p0, Prod.fst (Prod.snd p0), Prod.snd (Prod.snd p0))) fun z8 => Option.bind (f_laws_eqBoard k (Prod.fst z4, Prod.fst (Prod.snd z4), Prod.snd (Prod.snd z4)) (Prod.fst z8, Prod.fst (Prod.snd z8), Prod.snd (Prod.snd z8))) fun z9 => if (!z9) = true then some false else Option.bind (f_laws_toIntS k p1) fun z10 => Option.bind (f_laws_eqIntS k z5 z10) fun z11 => if (!z11) = true then some false else Option.bind (f_laws_markBoard k (Prod.fst z4, Prod.fst (Prod.snd z4), Prod.snd (Prod.snd z4)) (1 : Int)) fun z12 => Option.bind (f_laws_markIntS k z5 (Prod.fst z12)) fun z13 => if decide (Prod.fst z13 < (0 : Int)) = true then some false else Option.bind (f_laws_eqBoard k (Prod.fst (Prod.fst z6), Prod.fst (Prod.snd (Prod.fst z6)), Prod.snd (Prod.snd (Prod.fst z6))) (Prod.fst (Prod.fst z3), Prod.fst (Prod.snd (Prod.fst z3)), Prod.snd (Prod.snd (Prod.fst z3)))) fun z14 => if (!z14) = true then some false else if (!Prod.snd z6 == Prod.snd z3) = true then some false else Option.bind (f_laws_markBoard k (Prod.fst (Prod.fst z6), Prod.fst (Prod.snd (Prod.fst z6)), Prod.snd (Prod.snd (Prod.fst z6))) (1 : Int)) fun z15 => Option.bind (f_laws_heldBoard k (Prod.fst (Prod.fst z6), Prod.fst (Prod.snd (Prod.fst z6)), Prod.snd z15) (1 : Int)) fun z16 => if decide (z16 < (0 : Int)) = true then some false else if decide (z16 ≠ Prod.fst z15) = true then some false else Option.bind (f_laws_toBoard k (Prod.fst p0, Prod.fst (Prod.snd p0), Prod.snd (Prod.snd p0))) fun z17 => Option.bind (f_laws_toIntS k p1) fun z18 => Option.bind (f_impl_UndoMarbles k (Prod.fst z17, Prod.fst (Prod.snd z17), Prod.snd (Prod.snd z17)) z18) fun z19 => Option.bind (f_laws_eqBoard k (Prod.fst (Prod.fst z19), Prod.fst (Prod.snd (Prod.fst z19)), Prod.snd (Prod.snd (Prod.fst z19))) (Prod.fst (Prod.fst z3), Prod.fst (Prod.snd (Prod.fst z3)), Prod.snd (Prod.snd (Prod.fst z3)))) fun z20 => if (!z20) = true then some false else if (!Prod.snd z19 == Prod.snd z3) = true then some false else Option.bind (f_laws_heldBoard k (Prod.fst (Prod.fst z6), Prod.fst (Prod.snd (Prod.fst z6)), Prod.snd z15) (1 : Int)) fun z21 => if decide (z21 < (0 : Int)) = true then some false else if decide (z21 ≠ Prod.fst z15) = true then some false else some true
noncomputable def d_laws_FnExactUndoMarbles : FnDef := .of q_laws_FnExactUndoMarbles r_laws_FnExactUndoMarbles (Bool) (fun k x => f_laws_FnExactUndoMarbles k x.1 x.2.1) to_laws_FnExactUndoMarbles of_laws_FnExactUndoMarbles to_of_laws_FnExactUndoMarbles
noncomputable def c_laws_FnExactUndoMarbles : Code := Try.f7.body.getD .skip
noncomputable def x_laws_FnExactUndoMarbles : Ctx (Tup r_laws_FnExactUndoMarbles × OutD) := { T := T, G := [(8, d_laws_szBoard.E), (10, d_laws_toBoard.E), (28, d_laws_toIntS.E), (27, d_spec_UndoMarbles.E), (29, d_impl_UndoMarbles.E), (13, d_laws_eqBoard.E), (12, d_laws_eqIntS.E), (14, d_laws_markBoard.E), (15, d_laws_markIntS.E), (19, d_laws_heldBoard.E)], mvs := [], no := 0, n := 117, res := resOf T q_laws_FnExactUndoMarbles r_laws_FnExactUndoMarbles Try.f7.results.toList, loops := [], regs := [], conds := [] }
theorem g_laws_FnExactUndoMarbles (k : Nat) : EnvOK Try.prog k x_laws_FnExactUndoMarbles.G := (EnvOK.cons (s_laws_szBoard k) (EnvOK.cons (s_laws_toBoard k) (EnvOK.cons (s_laws_toIntS k) (EnvOK.cons (s_spec_UndoMarbles k) (EnvOK.cons (s_impl_UndoMarbles k) (EnvOK.cons (s_laws_eqBoard k) (EnvOK.cons (s_laws_eqIntS k) (EnvOK.cons (s_laws_markBoard k) (EnvOK.cons (s_laws_markIntS k) (EnvOK.cons (s_laws_heldBoard k) (EnvOK.nil mixed)))))))))))
theorem h_laws_FnExactUndoMarbles (k : Nat) (x : Tup d_laws_FnExactUndoMarbles.ps) : d_laws_FnExactUndoMarbles.f (k + 1) x = fnK d_laws_FnExactUndoMarbles x_laws_FnExactUndoMarbles c_laws_FnExactUndoMarbles k x := by kernel_rfl
theorem z_laws_FnExactUndoMarbles (x : Tup d_laws_FnExactUndoMarbles.ps) : d_laws_FnExactUndoMarbles.f 0 x = none := by kernel_rfl
theorem l_laws_FnExactUndoMarbles (k : Nat) : LOK Try.prog x_laws_FnExactUndoMarbles k c_laws_FnExactUndoMarbles := LOK.by [] (by kernel_rfl) AllOK.nil
theorem s_laws_FnExactUndoMarbles (k : Nat) : SoundAt Try.prog k 7 d_laws_FnExactUndoMarbles.E := @fn_all Try.prog d_laws_FnExactUndoMarbles x_laws_FnExactUndoMarbles 7 Try.f7 c_laws_FnExactUndoMarbles (by kernel_rfl) (by kernel_rfl) (by kernel_rfl) Try.func7 (by kernel_rfl) (by kernel_rfl) (by kernel_rfl) T_ok g_laws_FnExactUndoMarbles l_laws_FnExactUndoMarbles z_laws_FnExactUndoMarbles h_laws_FnExactUndoMarbles k
end
end Go.Proofs.Ytjjlmnbmpgfcbaa.Vs

set_option linter.unusedVariables false
set_option linter.unusedSimpArgs false
namespace Go.Proofs.Ytjjlmnbmpgfcbaa.Vs
open Go.RowKit
theorem e_spec_l1In (a b c : Int) : Ev (fun k => f_spec_l1In k a b c) (decide (b ≤ a ∧ a ≤ c)) := by
  refine Ev.succ ?_
  simp only [f_spec_l1In]
  refine Ev.of ?_
  by_cases h1 : b ≤ a <;> by_cases h2 : a ≤ c <;> simp [h1, h2]
theorem e_spec_l1All_0 (lo hi : Int) : ∀ (r pre : List Int), (pre ++ r).length ≤ 9223372036854775806 → Ev (fun k => f_spec_l1All_0 k lo hi (pre ++ r) ((pre ++ r).length : Int) (pre.length : Int)) (if r.all (fun n => decide (lo ≤ n ∧ n ≤ hi)) then LR.go () else LR.ret false)
  | [], pre, hl => by
    refine Ev.succ ?_
    simp only [f_spec_l1All_0, nlt_end, decide_false, Bool.false_eq_true, if_false, List.all_nil, if_true]
    exact Ev.some _
  | x :: r, pre, hl => by
    have ih := e_spec_l1All_0 lo hi r (pre ++ [x]) (by simpa using hl)
    refine Ev.succ ?_
    simp only [f_spec_l1All_0, lt_mid, ge_mid, decide_true, if_true, Int.toNat_natCast, getD_mid]
    rw [next_mid pre x r (by omega)]
    rw [← shift_mid] at ih
    refine Ev.bind (e_spec_l1In x lo hi) ?_
    by_cases hx : lo ≤ x ∧ x ≤ hi
    · simp only [hx, and_self, List.all_cons, decide_true, Bool.true_and, Bool.not_true, Bool.false_eq_true, if_false]; exact ih
    · simp only [hx, List.all_cons, decide_false, Bool.false_and, Bool.not_false, if_true, Bool.false_eq_true, if_false]; exact Ev.some _
theorem e_spec_l1All (l : List Int) (lo hi : Int) (hl : l.length ≤ 9223372036854775806) : Ev (fun k => f_spec_l1All k l lo hi) (l.all fun n => decide (lo ≤ n ∧ n ≤ hi)) := by
  refine Ev.succ ?_
  simp only [f_spec_l1All]
  refine Ev.bind (e_spec_l1All_0 lo hi l [] (by simpa using hl)) ?_
  cases hx : l.all fun n => decide (lo ≤ n ∧ n ≤ hi) with
  | true => simp only [if_true]; exact Ev.go (Ev.some _)
  | false => simp only [Bool.false_eq_true, if_false]; exact Ev.ret (Ev.some _)
end Go.Proofs.Ytjjlmnbmpgfcbaa.Vs

set_option linter.unusedVariables false
set_option linter.unusedSimpArgs false
namespace Go.Proofs.Ytjjlmnbmpgfcbaa.Vs
open Go.RowKit
theorem e_laws_toCell (x : Int × Int) : Ev (fun k => f_laws_toCell k x) x := Ev.succ (Ev.of rfl)
theorem e_laws_eqCell (x y : Int × Int) : Ev (fun k => f_laws_eqCell k x y) (decide (x = y)) := by
  obtain ⟨a0, a1⟩ := x
  obtain ⟨b0, b1⟩ := y
  refine Ev.succ ?_
  simp only [f_laws_eqCell]
  refine Ev.of ?_
  by_cases h0 : a0 = b0 <;> by_cases h1 : a1 = b1 <;> simp [h0, h1]
theorem e_laws_szCellS (l : List (Int × Int)) (n : Int) (h0 : 0 ≤ n) (h1 : n ≤ 1048576) (hl : l.length ≤ 9223372036854775807) : Ev (fun k => f_laws_szCellS k l n) (if n - l.length < 0 then -1 else n - l.length) := by
  refine Ev.succ ?_
  simp only [f_laws_szCellS]
  refine Ev.of ?_
  rw [w64 (by omega) (by omega)]
  by_cases h : n - (l.length : Int) < 0 <;> simp [h]
theorem e_laws_toCellS_0 : ∀ (r pre rest : List (Int × Int)), rest.length = r.length → (pre ++ r).length ≤ 1048576 → Ev (fun k => f_laws_toCellS_0 k (pre ++ rest) (pre ++ r) (pre.length : Int)) (pre ++ r)
  | [], pre, rest, h, hl => by
    obtain rfl : rest = [] := List.eq_nil_of_length_eq_zero h
    refine Ev.succ ?_
    simp only [f_laws_toCellS_0, nlt_end, decide_false, Bool.false_eq_true, if_false]
    exact Ev.some _
  | x :: r, pre, [], h, hl => by simp at h
  | x :: r, pre, y :: rest, h, hl => by
    have ih := e_laws_toCellS_0 r (pre ++ [x]) rest (by simpa using h) (by simpa using hl)
    refine Ev.succ ?_
    simp only [f_laws_toCellS_0, lt_mid, ge_mid, decide_true, if_true, Int.toNat_natCast, getD_mid, set_mid]
    rw [next_mid pre x r (by omega)]
    refine Ev.bind (e_laws_toCell x) ?_
    rw [← shift_mid, ← shift_mid] at ih
    exact ih
theorem e_laws_toCellS (l : List (Int × Int)) (hl : l.length ≤ 1048576) : Ev (fun k => f_laws_toCellS k l) l := by
  refine Ev.succ ?_
  have hm : l.length * 16 ≤ 281474976710656 := by omega
  simp only [f_laws_toCellS, Int.toNat_natCast, hm, if_true]
  exact Ev.bind (e_laws_toCellS_0 l [] (List.replicate l.length (0, 0)) (by simp) (by simpa using hl)) (Ev.some _)
theorem e_laws_eqCellS_0 : ∀ (r s pre : List (Int × Int)) (pre' : List (Int × Int)), s.length = r.length → pre'.length = pre.length → (pre ++ r).length ≤ 9223372036854775806 → Ev (fun k => f_laws_eqCellS_0 k (pre ++ r) (pre' ++ s) (pre.length : Int)) (if r = s then LR.go () else LR.ret false)
  | [], s, pre, pre', h, hp, hl => by
    obtain rfl : s = [] := List.eq_nil_of_length_eq_zero h
    refine Ev.succ ?_
    simp only [f_laws_eqCellS_0, nlt_end, decide_false, Bool.false_eq_true, if_false, if_true]
    exact Ev.some _
  | x :: r, [], pre, pre', h, hp, hl => by simp at h
  | x :: r, y :: s, pre, pre', h, hp, hl => by
    have ih := e_laws_eqCellS_0 r s (pre ++ [x]) (pre' ++ [y]) (by simpa using h) (by simpa using hp) (by simpa using hl)
    have l2 : (pre.length : Int) < ((pre' ++ y :: s).length : Int) := by rw [← hp]; exact lt_mid _ _ _
    have g2 : List.getD (pre' ++ y :: s) pre.length (0, 0) = y := by rw [← hp]; exact getD_mid _ _ _ _
    refine Ev.succ ?_
    simp only [f_laws_eqCellS_0, lt_mid, ge_mid, l2, decide_true, if_true, Int.toNat_natCast, getD_mid, g2]
    rw [next_mid pre x r (by omega)]
    rw [← shift_mid, ← shift_mid] at ih
    refine Ev.bind (e_laws_eqCell x y) ?_
    by_cases hxy : x = y
    · subst hxy
      simp only [decide_true, Bool.not_true, Bool.false_eq_true, if_false]
      refine ih.congr ?_
      by_cases hrs : r = s <;> simp [hrs]
    · simp only [hxy, decide_false, Bool.not_false, if_true]
      refine Ev.of ?_
      rw [if_neg (by intro hc; injection hc with h1 h2; exact hxy h1)]
theorem e_laws_eqCellS (l m : List (Int × Int)) (hl : l.length ≤ 9223372036854775806) : Ev (fun k => f_laws_eqCellS k l m) (decide (l = m)) := by
  refine Ev.succ ?_
  simp only [f_laws_eqCellS]
  by_cases h : l.length = m.length
  · simp only [h, ne_eq, not_true_eq_false, decide_false, Bool.false_eq_true, if_false]
    refine Ev.bind (e_laws_eqCellS_0 l m [] [] h.symm rfl (by simpa using hl)) ?_
    by_cases hlm : l = m
    · rw [if_pos hlm]; simp only [hlm, decide_true]; exact Ev.go (Ev.some _)
    · rw [if_neg hlm]; simp only [hlm, decide_false]; exact Ev.ret (Ev.some _)
  · have h2 : ¬ (l.length : Int) = (m.length : Int) := by omega
    have h3 : ¬ l = m := fun hc => h (by rw [hc])
    simp only [ne_eq, h2, not_false_eq_true, decide_true, if_true, h3, decide_false]
    exact Ev.some _
abbrev CellD := Int × Int
abbrev BoardD := Int × Int × List (Int × Int)
abbrev FaultD := Int × Int × Int
def turning (x : CellD) : Bool := decide (x.1 = 3 ∨ x.1 = 6)
def cellOK (x : CellD) : Bool := decide (0 ≤ x.1 ∧ x.1 ≤ 7 ∧ (x.2 = 0 ∨ (x.2 = 1 ∧ (x.1 = 3 ∨ x.1 = 6))))
def boardOK (b : BoardD) : Bool := decide (1 ≤ b.1 ∧ b.1 ≤ 10 ∧ 1 ≤ b.2.1 ∧ b.2.1 ≤ 9 ∧ (b.2.2.length : Int) = b.1 * b.2.1) && b.2.2.all cellOK
theorem e_spec_paTurning (x : CellD) : Ev (fun k => f_spec_paTurning k x) (turning x) := by
  refine Ev.succ ?_
  simp only [f_spec_paTurning]
  refine Ev.of ?_
  by_cases h1 : x.1 = 3 <;> simp [turning, h1]
theorem e_impl_IsCell (x : CellD) : Ev (fun k => f_impl_IsCell k x) (cellOK x) := by
  refine Ev.succ ?_
  simp only [f_impl_IsCell, decide_eq_true_eq]
  refine Ev.of ?_
  unfold cellOK
  repeat' split
  all_goals (congr 1; first | (symm; rw [decide_eq_true_eq]; omega) | (symm; rw [decide_eq_false_iff_not]; omega) | (apply decide_eq_decide.2; omega))
theorem e_spec_paGood (x : CellD) : Ev (fun k => f_spec_paGood k x) (cellOK x) := by
  refine Ev.succ ?_
  simp only [f_spec_paGood]
  refine Ev.bind (e_spec_l1In _ _ _) ?_
  refine Ev.ite (fun h => ?_) (fun h => ?_)
  · simp only [decide_eq_true_eq] at h
    refine Ev.ite (fun h2 => ?_) (fun h2 => ?_)
    · simp only [decide_eq_true_eq] at h2
      refine Ev.of ?_
      congr 1; simp [cellOK]; omega
    · simp only [decide_eq_true_eq] at h2
      refine Ev.ite (fun h3 => ?_) (fun h3 => ?_)
      · simp only [decide_eq_true_eq] at h3
        refine Ev.bind (e_spec_paTurning x) (Ev.of ?_)
        congr 1; unfold turning cellOK; by_cases h4 : x.1 = 3 ∨ x.1 = 6 <;> simp [h4] <;> omega
      · simp only [decide_eq_true_eq] at h3
        refine Ev.of ?_
        congr 1; simp [cellOK]; omega
  · simp only [decide_eq_true_eq] at h
    refine Ev.of ?_
    congr 1; simp [cellOK]; omega
theorem e_impl_validCells_0 : ∀ (r pre : List CellD), (pre ++ r).length ≤ 9223372036854775806 → Ev (fun k => f_impl_validCells_0 k (pre ++ r) ((pre ++ r).length : Int) (pre.length : Int)) (if r.all cellOK then LR.go () else LR.ret false)
  | [], pre, hl => by
    refine Ev.succ ?_
    simp only [f_impl_validCells_0, nlt_end, decide_false, Bool.false_eq_true, if_false, List.all_nil, if_true]
    exact Ev.some _
  | x :: r, pre, hl => by
    have ih := e_impl_validCells_0 r (pre ++ [x]) (by simpa using hl)
    refine Ev.succ ?_
    simp only [f_impl_validCells_0, lt_mid, ge_mid, decide_true, if_true, Int.toNat_natCast, getD_mid]
    rw [next_mid pre x r (by omega)]
    rw [← shift_mid] at ih
    refine Ev.bind (e_impl_IsCell x) ?_
    cases hx : cellOK x with
    | true => simp only [hx, List.all_cons, Bool.true_and, Bool.not_true, Bool.false_eq_true, if_false]; exact ih
    | false => simp only [hx, List.all_cons, Bool.false_and, Bool.not_false, if_true, Bool.false_eq_true, if_false]; exact Ev.some _
theorem e_impl_validCells (l : List CellD) (hl : l.length ≤ 9223372036854775806) : Ev (fun k => f_impl_validCells k l) (decide (l.length ≤ 90) && l.all cellOK) := by
  refine Ev.succ ?_
  simp only [f_impl_validCells]
  refine Ev.ite (fun h => ?_) (fun h => ?_)
  · simp only [decide_eq_true_eq] at h
    refine Ev.of ?_
    have : ¬ l.length ≤ 90 := by omega
    simp [this]
  · simp only [decide_eq_true_eq] at h
    have h2 : l.length ≤ 90 := by omega
    refine Ev.bind (e_impl_validCells_0 l [] (by simpa using hl)) ?_
    simp only [h2, decide_true, Bool.true_and]
    cases hx : l.all cellOK with
    | true => simp only [if_true]; exact Ev.go (Ev.some _)
    | false => simp only [Bool.false_eq_true, if_false]; exact Ev.ret (Ev.some _)
theorem prod_small {a b : Int} (h1 : 1 ≤ a) (h2 : a ≤ 10) (h3 : 1 ≤ b) (h4 : b ≤ 9) : 1 ≤ a * b ∧ a * b ≤ 90 :=
  ⟨by have := Int.mul_le_mul h1 h3 (by omega) (by omega); omega, by have := Int.mul_le_mul h2 h4 (by omega) (by omega); omega⟩
theorem e_impl_IsBoard (b : BoardD) (hl : b.2.2.length ≤ 9223372036854775806) : Ev (fun k => f_impl_IsBoard k b) (boardOK b) := by
  refine Ev.succ ?_
  simp only [f_impl_IsBoard, ge_iff_le]
  have no : ∀ {c : Prop}, ¬ c → (boardOK b = true → c) → Option.some false = Option.some (boardOK b) := by
    intro c h1 h2
    cases hb : boardOK b with
    | true => exact absurd (h2 hb) h1
    | false => rfl
  have hb : boardOK b = true → 1 ≤ b.1 ∧ b.1 ≤ 10 ∧ 1 ≤ b.2.1 ∧ b.2.1 ≤ 9 ∧ (b.2.2.length : Int) = b.1 * b.2.1 := fun h => by
    unfold boardOK at h; simp only [Bool.and_eq_true, decide_eq_true_eq] at h; exact h.1
  refine Ev.ite (fun h1 => ?_) (fun h => Ev.of (no h (fun hh => by simpa using (hb hh).1)))
  refine Ev.ite (fun h2 => ?_) (fun h => Ev.of (no h (fun hh => by simpa using (hb hh).2.1)))
  refine Ev.ite (fun h3 => ?_) (fun h => Ev.of (no h (fun hh => by simpa using (hb hh).2.2.1)))
  refine Ev.ite (fun h4 => ?_) (fun h => Ev.of (no h (fun hh => by simpa using (hb hh).2.2.2.1)))
  simp only [decide_eq_true_eq] at h1 h2 h3 h4
  have hp := prod_small h1 h2 h3 h4
  rw [w64 (by omega) (by omega)]
  refine Ev.ite (fun h5 => ?_) (fun h => Ev.of (no h (fun hh => by simpa using (hb hh).2.2.2.2)))
  simp only [decide_eq_true_eq] at h5
  refine Ev.bind (e_impl_validCells _ hl) (Ev.of ?_)
  have h6 : b.2.2.length ≤ 90 := by omega
  congr 1
  simp only [boardOK, h1, h2, h3, h4, ← h5, h6, and_self, decide_true, Bool.true_and]
theorem e_spec_boGood_0 : ∀ (r pre : List CellD), (pre ++ r).length ≤ 9223372036854775806 → Ev (fun k => f_spec_boGood_0 k (pre ++ r) ((pre ++ r).length : Int) (pre.length : Int)) (if r.all cellOK then LR.go () else LR.ret false)
  | [], pre, hl => by
    refine Ev.succ ?_
    simp only [f_spec_boGood_0, nlt_end, decide_false, Bool.false_eq_true, if_false, List.all_nil, if_true]
    exact Ev.some _
  | x :: r, pre, hl => by
    have ih := e_spec_boGood_0 r (pre ++ [x]) (by simpa using hl)
    refine Ev.succ ?_
    simp only [f_spec_boGood_0, lt_mid, ge_mid, decide_true, if_true, Int.toNat_natCast, getD_mid]
    rw [next_mid pre x r (by omega)]
    rw [← shift_mid] at ih
    refine Ev.bind (e_spec_paGood x) ?_
    cases hx : cellOK x with
    | true => simp only [hx, List.all_cons, Bool.true_and, Bool.not_true, Bool.false_eq_true, if_false]; exact ih
    | false => simp only [hx, List.all_cons, Bool.false_and, Bool.not_false, if_true, Bool.false_eq_true, if_false]; exact Ev.some _
theorem e_spec_boGood (b : BoardD) (hl : b.2.2.length ≤ 9223372036854775806) : Ev (fun k => f_spec_boGood k b) (boardOK b) := by
  refine Ev.succ ?_
  simp only [f_spec_boGood]
  have no : ∀ {c : Prop}, ¬ c → (boardOK b = true → c) → Option.some false = Option.some (boardOK b) := by
    intro c h1 h2
    cases hb : boardOK b with
    | true => exact absurd (h2 hb) h1
    | false => rfl
  have hb : boardOK b = true → 1 ≤ b.1 ∧ b.1 ≤ 10 ∧ 1 ≤ b.2.1 ∧ b.2.1 ≤ 9 ∧ (b.2.2.length : Int) = b.1 * b.2.1 := fun h => by
    unfold boardOK at h; simp only [Bool.and_eq_true, decide_eq_true_eq] at h; exact h.1
  refine Ev.bind (e_spec_l1In _ _ _) (Ev.ite (fun h => Ev.of (no (c := 1 ≤ b.1 ∧ b.1 ≤ 10) (nd h) (fun hh => ⟨(hb hh).1, (hb hh).2.1⟩))) (fun h1 => ?_))
  refine Ev.bind (e_spec_l1In _ _ _) (Ev.ite (fun h => Ev.of (no (c := 1 ≤ b.2.1 ∧ b.2.1 ≤ 9) (nd h) (fun hh => ⟨(hb hh).2.2.1, (hb hh).2.2.2.1⟩))) (fun h2 => ?_))
  have h1' : 1 ≤ b.1 ∧ b.1 ≤ 10 := yd h1
  have h2' : 1 ≤ b.2.1 ∧ b.2.1 ≤ 9 := yd h2
  have hp := prod_small h1'.1 h1'.2 h2'.1 h2'.2
  rw [w64 (by omega) (by omega)]
  refine Ev.ite (fun h => Ev.of (no (c := (b.2.2.length : Int) = b.1 * b.2.1) (by simpa using h) (fun hh => (hb hh).2.2.2.2))) (fun h3 => ?_)
  have h3' : (b.2.2.length : Int) = b.1 * b.2.1 := by simpa using h3
  refine Ev.bind (e_spec_boGood_0 b.2.2 [] (by simpa using hl)) ?_
  have hx2 : boardOK b = b.2.2.all cellOK := by unfold boardOK; simp only [h1'.1, h1'.2, h2'.1, h2'.2, h3', and_self, decide_true, Bool.true_and]
  rw [hx2]
  cases hx : b.2.2.all cellOK with
  | true => simp only [if_true]; exact Ev.go (Ev.some _)
  | false => simp only [Bool.false_eq_true, if_false]; exact Ev.ret (Ev.some _)
/-- What a valid board is. -/
theorem board_ok {b : BoardD} (h : boardOK b = true) : 1 ≤ b.1 ∧ b.1 ≤ 10 ∧ 1 ≤ b.2.1 ∧ b.2.1 ≤ 9 ∧ (b.2.2.length : Int) = b.1 * b.2.1 ∧ ∀ x ∈ b.2.2, cellOK x = true := by
  unfold boardOK at h
  simp only [Bool.and_eq_true, decide_eq_true_eq] at h
  exact ⟨h.1.1, h.1.2.1, h.1.2.2.1, h.1.2.2.2.1, h.1.2.2.2.2, List.all_eq_true.1 h.2⟩
/-- A place on a valid board. -/
theorem place_ok {b : BoardD} (h : boardOK b = true) {r c : Int} (h1 : 0 ≤ r) (h2 : r < b.1) (h3 : 0 ≤ c) (h4 : c < b.2.1) : 0 ≤ r * b.2.1 + c ∧ r * b.2.1 + c < (b.2.2.length : Int) ∧ r * b.2.1 + c ≤ 90 ∧ 0 ≤ r * b.2.1 ∧ r * b.2.1 ≤ 90 := by
  obtain ⟨g1, g2, g3, g4, g5, _⟩ := board_ok h
  have hp := prod_small g1 g2 g3 g4
  have k1 : 0 ≤ r * b.2.1 := Int.mul_nonneg h1 (by omega)
  have k2 : (r + 1) * b.2.1 ≤ b.1 * b.2.1 := Int.mul_le_mul_of_nonneg_right (by omega) (by omega)
  rw [Int.add_mul, Int.one_mul] at k2
  omega
theorem cell_in {l : List CellD} {i : Int} (h0 : 0 ≤ i) (h1 : i < (l.length : Int)) (d : CellD) : List.getD l i.toNat d ∈ l := by
  have : i.toNat < l.length := by omega
  simp [List.getD, List.getElem?_eq_getElem this]

theorem e_laws_szBoard (b : BoardD) (n : Int) (h0 : 0 ≤ n) (h1 : n ≤ 1048576) (hl : b.2.2.length ≤ 9223372036854775807) : Ev (fun k => f_laws_szBoard k b n) (if n - b.2.2.length < 0 then -1 else n - b.2.2.length) := by
  refine Ev.succ ?_
  simp only [f_laws_szBoard]
  refine Ev.bind (e_laws_szCellS _ n h0 h1 hl) ?_
  by_cases h : n - (b.2.2.length : Int) < 0 <;> simp only [h, if_true, if_false]
  · exact Ev.some _
  · simp only [h, decide_false, Bool.false_eq_true, if_false]; exact Ev.some _
theorem e_laws_toBoard (b : BoardD) (hl : b.2.2.length ≤ 1048576) : Ev (fun k => f_laws_toBoard k b) b := by
  refine Ev.succ ?_
  simp only [f_laws_toBoard]
  exact Ev.bind (e_laws_toCellS _ hl) (Ev.some _)
theorem e_laws_eqBoard (b c : BoardD) (hl : b.2.2.length ≤ 9223372036854775806) : Ev (fun k => f_laws_eqBoard k b c) (decide (b = c)) := by
  obtain ⟨b1, b2, b3⟩ := b
  obtain ⟨c1, c2, c3⟩ := c
  refine Ev.succ ?_
  simp only [f_laws_eqBoard]
  by_cases h1 : b1 = c1
  · by_cases h2 : b2 = c2
    · simp only [h1, h2, ne_eq, not_true_eq_false, decide_false, Bool.false_eq_true, if_false]
      refine Ev.bind (e_laws_eqCellS b3 c3 hl) ?_
      by_cases h3 : b3 = c3
      · simp only [h3, decide_true, Bool.not_true, Bool.false_eq_true, if_false]; exact Ev.some _
      · simp only [h3, decide_false, Bool.not_false, if_true, Prod.mk.injEq, and_false]; exact Ev.some _
    · simp only [h1, h2, ne_eq, not_true_eq_false, decide_false, Bool.false_eq_true, if_false, not_false_eq_true, decide_true, if_true, Prod.mk.injEq, false_and, and_false]; exact Ev.some _
  · simp only [h1, ne_eq, not_false_eq_true, decide_true, if_true, Prod.mk.injEq, false_and, decide_false]; exact Ev.some _
end Go.Proofs.Ytjjlmnbmpgfcbaa.Vs
