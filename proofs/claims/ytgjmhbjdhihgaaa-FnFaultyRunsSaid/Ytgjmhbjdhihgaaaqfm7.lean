/- The proof, part 8. -/
import Derived.Test.Ytgjmhbjdhihgaaaqfm6
set_option maxRecDepth 100000
set_option maxHeartbeats 2000000
set_option linter.unusedVariables false
set_option linter.unusedSimpArgs false
namespace Go.Proofs.Ytgjmhbjdhihgaaa.Vs
open Go.RowKit
noncomputable section
/-! function 54 -/
/-! function 55 -/
/-! function 56 -/
/-! function 57 -/
/-! function 58 -/
/-! function 59 -/
/-! function 70 -/
/-! function 72 -/
/-! function 78 -/
/-! function 79 -/
/-! function 149 -/
/-! function 158 -/
/-! function 179 -/
noncomputable def r_spec_l1Cur_geared : List PK := [PK.mk (Ty.pair (Ty.int IntKind.i64) (Ty.pair (Ty.int IntKind.i64) (Ty.slice (79 : Nat) (Ty.pair (Ty.int IntKind.i64) (Ty.int IntKind.i64))))) true none false none]
noncomputable def q_spec_l1Cur_geared : List PK := [PK.mk (Ty.pair (Ty.slice (5 : Nat) (Ty.int IntKind.u8)) (Ty.pair (Ty.int IntKind.i64) (Ty.int IntKind.u64))) false none false (some (114 : Nat))]
noncomputable def to_spec_l1Cur_geared (r : (Int × Int × List (Int × Int)) × Int × Int) : Tup r_spec_l1Cur_geared × OutD := ((r.1, ()), some ⟨Ty.pair (Ty.slice (5 : Nat) (Ty.int IntKind.u8)) (Ty.pair (Ty.int IntKind.i64) (Ty.int IntKind.u64)), [([], r.2)]⟩)
noncomputable def of_spec_l1Cur_geared : Tup r_spec_l1Cur_geared × OutD → Option ((Int × Int × List (Int × Int)) × Int × Int)
  | (a, some ⟨u, ys⟩) => if h : u = Ty.pair (Ty.slice (5 : Nat) (Ty.int IntKind.u8)) (Ty.pair (Ty.int IntKind.i64) (Ty.int IntKind.u64)) then (match castU h ys with
    | [([], y)] => some (a.1, y)
    | _ => none) else none
  | _ => none
theorem to_of_spec_l1Cur_geared : ∀ b r, of_spec_l1Cur_geared b = some r → to_spec_l1Cur_geared r = b := by
  rintro ⟨a, o⟩ r h
  cases o with
  | none => cases h
  | some s =>
    obtain ⟨u, ys⟩ := s
    simp only [of_spec_l1Cur_geared] at h
    split at h
    · rename_i hu
      subst hu
      match ys, h with
      | [], h => cases (show (none : Option _) = some r from h)
      | [([], y)], h => injection (show some _ = some r from h) with h; subst h; rfl
      | [(_ :: _, y)], h => cases (show (none : Option _) = some r from h)
      | (h1, _) :: _ :: _, h => cases h1 <;> cases (show (none : Option _) = some r from h)
    · cases h
noncomputable def f_spec_l1Cur_geared_g6 : Nat → Int → Int → List Int → Int → Int → List (Int × Int) → Int → Int → List (Int × Int) → Int → Int → Int → Option (Int × Int × List Int × Int × Int × List (Int × Int) × Int × Int × List (Int × Int) × Int × Int × Int) := fun k b1_1 b1_2 o2 b3_0 b3_1 o4 b5_0 b5_1 o6 v4 v9 v10 =>
    Option.bind (f_spec_l1Cur_among k (o2, b1_1, b1_2) [(6 : Int), (6 : Int), (7 : Int), (0 : Int)]) fun z2 => if (0 : Int) ≤ v4 then if v4 < (↑(List.length o6) : Int) then some (Prod.fst (Prod.snd z2), Prod.snd (Prod.snd z2), o2, b3_0, b3_1, o4, b5_0, b5_1, List.set o6 (Int.toNat v4) (Prod.fst z2, (0 : Int)), v4, v9, v10) else none else none
noncomputable def f_spec_l1Cur_geared_g6A : Nat → Int → Int → List Int → Int → Int → List (Int × Int) → Int → Int → List (Int × Int) → Int → Int → Int → Option (List (Int × Int × List Int × Int × Int × List (Int × Int) × Int × Int × List (Int × Int) × Int × Int × Int)) := fun k b1_1 b1_2 o2 b3_0 b3_1 o4 b5_0 b5_1 o6 v4 v9 v10 =>
    joinL (Option.bind (f_spec_l1Cur_among k (o2, b1_1, b1_2) [(6 : Int), (6 : Int), (7 : Int), (0 : Int)]) fun z3 => if (0 : Int) ≤ v4 then if v4 < (↑(List.length o6) : Int) then some [(Prod.fst (Prod.snd z3), Prod.snd (Prod.snd z3), o2, b3_0, b3_1, o4, b5_0, b5_1, List.set o6 (Int.toNat v4) (Prod.fst z3, (0 : Int)), v4, v9, v10)] else none else none) (joinL (Option.bind (f_spec_l1Cur_among k (o2, b1_1, b1_2) [(6 : Int), (6 : Int), (7 : Int), (0 : Int)]) fun z4 => if (0 : Int) ≤ v4 then if v4 < (↑(List.length o6) : Int) then some [(Prod.fst (Prod.snd z4), Prod.snd (Prod.snd z4), o2, b3_0, b3_1, o4, b5_0, b5_1, List.set o6 (Int.toNat v4) (Prod.fst z4, (0 : Int)), v4, v9, v10)] else none else none) (Option.bind (f_spec_l1Cur_among k (o2, b1_1, b1_2) [(6 : Int), (6 : Int), (7 : Int), (0 : Int)]) fun z5 => if (0 : Int) ≤ v4 then if v4 < (↑(List.length o6) : Int) then some [(Prod.fst (Prod.snd z5), Prod.snd (Prod.snd z5), o2, b3_0, b3_1, o4, b5_0, b5_1, List.set o6 (Int.toNat v4) (Prod.fst z5, (0 : Int)), v4, v9, v10)] else none else none))
noncomputable def f_spec_l1Cur_geared_g6i : Spec := Spec.mk [OSh.ro, OSh.box (114 : Nat) [Sh.sl (2 : Nat), Sh.int IntKind.i64, Sh.int IntKind.u64], OSh.fx (Ty.int IntKind.u8), OSh.box (53 : Nat) [Sh.int IntKind.i64, Sh.int IntKind.i64, Sh.sl (4 : Nat)], OSh.row true (79 : Nat) (Ty.pair (Ty.int IntKind.i64) (Ty.int IntKind.i64)), OSh.box (53 : Nat) [Sh.int IntKind.i64, Sh.int IntKind.i64, Sh.sl (6 : Nat)], OSh.row true (79 : Nat) (Ty.pair (Ty.int IntKind.i64) (Ty.int IntKind.i64))] [((0 : Nat), TSh.at (Sh.ptr (1 : Nat) (0 : Nat))), ((2 : Nat), TSh.at (Sh.ptr (3 : Nat) (0 : Nat))), ((3 : Nat), TSh.at (Sh.ptr (5 : Nat) (0 : Nat))), ((4 : Nat), TSh.at (Sh.int IntKind.i64)), ((9 : Nat), TSh.at (Sh.int IntKind.i64)), ((10 : Nat), TSh.at (Sh.int IntKind.i64))]
noncomputable def f_spec_l1Cur_geared_g6o : Spec := Spec.mk [OSh.ro, OSh.box (114 : Nat) [Sh.sl (2 : Nat), Sh.int IntKind.i64, Sh.int IntKind.u64], OSh.fx (Ty.int IntKind.u8), OSh.box (53 : Nat) [Sh.int IntKind.i64, Sh.int IntKind.i64, Sh.sl (4 : Nat)], OSh.row true (79 : Nat) (Ty.pair (Ty.int IntKind.i64) (Ty.int IntKind.i64)), OSh.box (53 : Nat) [Sh.int IntKind.i64, Sh.int IntKind.i64, Sh.sl (6 : Nat)], OSh.row true (79 : Nat) (Ty.pair (Ty.int IntKind.i64) (Ty.int IntKind.i64))] [((0 : Nat), TSh.at (Sh.ptr (1 : Nat) (0 : Nat))), ((2 : Nat), TSh.at (Sh.ptr (3 : Nat) (0 : Nat))), ((3 : Nat), TSh.at (Sh.ptr (5 : Nat) (0 : Nat))), ((4 : Nat), TSh.at (Sh.int IntKind.i64)), ((9 : Nat), TSh.at (Sh.int IntKind.i64)), ((10 : Nat), TSh.at (Sh.int IntKind.i64))]
noncomputable def f_spec_l1Cur_geared_g6D : LoopDef (Tup r_spec_l1Cur_geared × OutD) := .plain f_spec_l1Cur_geared_g6i f_spec_l1Cur_geared_g6o (Int × Int × List Int × Int × Int × List (Int × Int) × Int × Int × List (Int × Int) × Int × Int × Int) (fun k x => f_spec_l1Cur_geared_g6 k x.1.2.1.2.1 x.1.2.1.2.2.1 x.1.2.2.1 x.1.2.2.2.1.1 x.1.2.2.2.1.2.1 x.1.2.2.2.2.1 x.1.2.2.2.2.2.1.1 x.1.2.2.2.2.2.1.2.1 x.1.2.2.2.2.2.2.1 x.2.2.2.2.1 x.2.2.2.2.2.1 x.2.2.2.2.2.2.1) (fun z => (((), ((), z.1, z.2.1, ()), z.2.2.1, (z.2.2.2.1, z.2.2.2.2.1, (), ()), z.2.2.2.2.2.1, (z.2.2.2.2.2.2.1, z.2.2.2.2.2.2.2.1, (), ()), z.2.2.2.2.2.2.2.2.1, ()), ((), (), (), z.2.2.2.2.2.2.2.2.2.1, z.2.2.2.2.2.2.2.2.2.2.1, z.2.2.2.2.2.2.2.2.2.2.2, ()))) (fun y => (y.1.2.1.2.1, y.1.2.1.2.2.1, y.1.2.2.1, y.1.2.2.2.1.1, y.1.2.2.2.1.2.1, y.1.2.2.2.2.1, y.1.2.2.2.2.2.1.1, y.1.2.2.2.2.2.1.2.1, y.1.2.2.2.2.2.2.1, y.2.2.2.2.1, y.2.2.2.2.2.1, y.2.2.2.2.2.2.1)) (fun _ => rfl)
theorem f_spec_l1Cur_geared_g6j (k : Nat) (b1_1 : Int) (b1_2 : Int) (o2 : List Int) (b3_0 : Int) (b3_1 : Int) (o4 : List (Int × Int)) (b5_0 : Int) (b5_1 : Int) (o6 : List (Int × Int)) (v4 : Int) (v9 : Int) (v10 : Int) : f_spec_l1Cur_geared_g6A k b1_1 b1_2 o2 b3_0 b3_1 o4 b5_0 b5_1 o6 v4 v9 v10 = repl 3 (f_spec_l1Cur_geared_g6 k b1_1 b1_2 o2 b3_0 b3_1 o4 b5_0 b5_1 o6 v4 v9 v10) := by
  first
  | (simp only [f_spec_l1Cur_geared_g6A, f_spec_l1Cur_geared_g6, repl_some, repl_ite, repl_ite0, repl_ite1, repl_bind, joinL_repl, if_true]; done)
  | (simp only [f_spec_l1Cur_geared_g6A, f_spec_l1Cur_geared_g6, repl_some, repl_ite, repl_ite0, repl_ite1, repl_bind, joinL_repl, if_true]; simp only [joinL_grdl, joinL_grdr, repl_grd, joinL_repl]; simp only [grd_and]; exact grd_congr ⟨fun h => by simp only [h, and_self], fun h => by simp only [h, and_self]⟩)
noncomputable def f_spec_l1Cur_geared_g8 : Nat → Int → Int → List Int → Int → Int → List (Int × Int) → Int → Int → List (Int × Int) → Int → Int → Int → Option (Int × Int × List Int × Int × Int × List (Int × Int) × Int × Int × List (Int × Int) × Int × Int) := fun k b1_1 b1_2 o2 b3_0 b3_1 o4 b5_0 b5_1 o6 v4 v9 v10 =>
    Option.bind (f_spec_l1Cur_pick k (o2, b1_1, b1_2) (2 : Int)) fun z7 => if (0 : Int) ≤ v4 then if v4 < (↑(List.length o6) : Int) then some (Prod.fst (Prod.snd z7), Prod.snd (Prod.snd z7), o2, b3_0, b3_1, o4, b5_0, b5_1, List.set o6 (Int.toNat v4) (Prod.fst (List.getD o6 (Int.toNat v4) ((0 : Int), (0 : Int))), Prod.fst z7), v9, v10) else none else none
noncomputable def f_spec_l1Cur_geared_g8A : Nat → Int → Int → List Int → Int → Int → List (Int × Int) → Int → Int → List (Int × Int) → Int → Int → Int → Option (List (Int × Int × List Int × Int × Int × List (Int × Int) × Int × Int × List (Int × Int) × Int × Int)) := fun k b1_1 b1_2 o2 b3_0 b3_1 o4 b5_0 b5_1 o6 v4 v9 v10 =>
    joinL (Option.bind (f_spec_l1Cur_pick k (o2, b1_1, b1_2) (2 : Int)) fun z8 => if (0 : Int) ≤ v4 then if v4 < (↑(List.length o6) : Int) then some [(Prod.fst (Prod.snd z8), Prod.snd (Prod.snd z8), o2, b3_0, b3_1, o4, b5_0, b5_1, List.set o6 (Int.toNat v4) (Prod.fst (List.getD o6 (Int.toNat v4) ((0 : Int), (0 : Int))), Prod.fst z8), v9, v10)] else none else none) (Option.bind (f_spec_l1Cur_pick k (o2, b1_1, b1_2) (2 : Int)) fun z9 => if (0 : Int) ≤ v4 then if v4 < (↑(List.length o6) : Int) then some [(Prod.fst (Prod.snd z9), Prod.snd (Prod.snd z9), o2, b3_0, b3_1, o4, b5_0, b5_1, List.set o6 (Int.toNat v4) (Prod.fst (List.getD o6 (Int.toNat v4) ((0 : Int), (0 : Int))), Prod.fst z9), v9, v10)] else none else none)
noncomputable def f_spec_l1Cur_geared_g8i : Spec := Spec.mk [OSh.ro, OSh.box (114 : Nat) [Sh.sl (2 : Nat), Sh.int IntKind.i64, Sh.int IntKind.u64], OSh.fx (Ty.int IntKind.u8), OSh.box (53 : Nat) [Sh.int IntKind.i64, Sh.int IntKind.i64, Sh.sl (4 : Nat)], OSh.row true (79 : Nat) (Ty.pair (Ty.int IntKind.i64) (Ty.int IntKind.i64)), OSh.box (53 : Nat) [Sh.int IntKind.i64, Sh.int IntKind.i64, Sh.sl (6 : Nat)], OSh.row true (79 : Nat) (Ty.pair (Ty.int IntKind.i64) (Ty.int IntKind.i64))] [((0 : Nat), TSh.at (Sh.ptr (1 : Nat) (0 : Nat))), ((2 : Nat), TSh.at (Sh.ptr (3 : Nat) (0 : Nat))), ((3 : Nat), TSh.at (Sh.ptr (5 : Nat) (0 : Nat))), ((4 : Nat), TSh.at (Sh.int IntKind.i64)), ((9 : Nat), TSh.at (Sh.int IntKind.i64)), ((10 : Nat), TSh.at (Sh.int IntKind.i64))]
noncomputable def f_spec_l1Cur_geared_g8o : Spec := Spec.mk [OSh.ro, OSh.box (114 : Nat) [Sh.sl (2 : Nat), Sh.int IntKind.i64, Sh.int IntKind.u64], OSh.fx (Ty.int IntKind.u8), OSh.box (53 : Nat) [Sh.int IntKind.i64, Sh.int IntKind.i64, Sh.sl (4 : Nat)], OSh.row true (79 : Nat) (Ty.pair (Ty.int IntKind.i64) (Ty.int IntKind.i64)), OSh.box (53 : Nat) [Sh.int IntKind.i64, Sh.int IntKind.i64, Sh.sl (6 : Nat)], OSh.row true (79 : Nat) (Ty.pair (Ty.int IntKind.i64) (Ty.int IntKind.i64))] [((0 : Nat), TSh.at (Sh.ptr (1 : Nat) (0 : Nat))), ((2 : Nat), TSh.at (Sh.ptr (3 : Nat) (0 : Nat))), ((3 : Nat), TSh.at (Sh.ptr (5 : Nat) (0 : Nat))), ((9 : Nat), TSh.at (Sh.int IntKind.i64)), ((10 : Nat), TSh.at (Sh.int IntKind.i64))]
noncomputable def f_spec_l1Cur_geared_g8D : LoopDef (Tup r_spec_l1Cur_geared × OutD) := .plain f_spec_l1Cur_geared_g8i f_spec_l1Cur_geared_g8o (Int × Int × List Int × Int × Int × List (Int × Int) × Int × Int × List (Int × Int) × Int × Int) (fun k x => f_spec_l1Cur_geared_g8 k x.1.2.1.2.1 x.1.2.1.2.2.1 x.1.2.2.1 x.1.2.2.2.1.1 x.1.2.2.2.1.2.1 x.1.2.2.2.2.1 x.1.2.2.2.2.2.1.1 x.1.2.2.2.2.2.1.2.1 x.1.2.2.2.2.2.2.1 x.2.2.2.2.1 x.2.2.2.2.2.1 x.2.2.2.2.2.2.1) (fun z => (((), ((), z.1, z.2.1, ()), z.2.2.1, (z.2.2.2.1, z.2.2.2.2.1, (), ()), z.2.2.2.2.2.1, (z.2.2.2.2.2.2.1, z.2.2.2.2.2.2.2.1, (), ()), z.2.2.2.2.2.2.2.2.1, ()), ((), (), (), z.2.2.2.2.2.2.2.2.2.1, z.2.2.2.2.2.2.2.2.2.2, ()))) (fun y => (y.1.2.1.2.1, y.1.2.1.2.2.1, y.1.2.2.1, y.1.2.2.2.1.1, y.1.2.2.2.1.2.1, y.1.2.2.2.2.1, y.1.2.2.2.2.2.1.1, y.1.2.2.2.2.2.1.2.1, y.1.2.2.2.2.2.2.1, y.2.2.2.2.1, y.2.2.2.2.2.1)) (fun _ => rfl)
theorem f_spec_l1Cur_geared_g8j (k : Nat) (b1_1 : Int) (b1_2 : Int) (o2 : List Int) (b3_0 : Int) (b3_1 : Int) (o4 : List (Int × Int)) (b5_0 : Int) (b5_1 : Int) (o6 : List (Int × Int)) (v4 : Int) (v9 : Int) (v10 : Int) : f_spec_l1Cur_geared_g8A k b1_1 b1_2 o2 b3_0 b3_1 o4 b5_0 b5_1 o6 v4 v9 v10 = repl 2 (f_spec_l1Cur_geared_g8 k b1_1 b1_2 o2 b3_0 b3_1 o4 b5_0 b5_1 o6 v4 v9 v10) := by
  first
  | (simp only [f_spec_l1Cur_geared_g8A, f_spec_l1Cur_geared_g8, repl_some, repl_ite, repl_ite0, repl_ite1, repl_bind, joinL_repl, if_true]; done)
  | (simp only [f_spec_l1Cur_geared_g8A, f_spec_l1Cur_geared_g8, repl_some, repl_ite, repl_ite0, repl_ite1, repl_bind, joinL_repl, if_true]; simp only [joinL_grdl, joinL_grdr, repl_grd, joinL_repl]; simp only [grd_and]; exact grd_congr ⟨fun h => by simp only [h, and_self], fun h => by simp only [h, and_self]⟩)
noncomputable def f_spec_l1Cur_geared_0 : Nat → Int → Int → List Int → Int → Int → List (Int × Int) → Int → Int → List (Int × Int) → Int → Int → Option (Int × Int × List Int × Int × Int × List (Int × Int) × Int × Int × List (Int × Int))
  | 0, _, _, _, _, _, _, _, _, _, _, _ => none
  | k + 1, b1_1, b1_2, o2, b3_0, b3_1, o4, b5_0, b5_1, o6, v9, v10 =>
    if decide (v10 < v9) = true then Option.bind (f_spec_l1Cur_one k (o2, b1_1, b1_2) (2 : Int)) fun z1 => if Prod.fst z1 = true then Option.bind (f_spec_l1Cur_geared_g6 k (Prod.fst (Prod.snd z1)) (Prod.snd (Prod.snd z1)) o2 b3_0 b3_1 o4 b5_0 b5_1 o6 v10 v9 v10) fun z6 => if (0 : Int) ≤ Prod.fst (Prod.snd (Prod.snd (Prod.snd (Prod.snd (Prod.snd (Prod.snd (Prod.snd (Prod.snd (Prod.snd z6))))))))) then if Prod.fst (Prod.snd (Prod.snd (Prod.snd (Prod.snd (Prod.snd (Prod.snd (Prod.snd (Prod.snd (Prod.snd z6))))))))) < (↑(List.length (Prod.fst (Prod.snd (Prod.snd (Prod.snd (Prod.snd (Prod.snd (Prod.snd (Prod.snd (Prod.snd z6)))))))))) : Int) then if decide (Prod.fst (List.getD (Prod.fst (Prod.snd (Prod.snd (Prod.snd (Prod.snd (Prod.snd (Prod.snd (Prod.snd (Prod.snd z6))))))))) (Int.toNat (Prod.fst (Prod.snd (Prod.snd (Prod.snd (Prod.snd (Prod.snd (Prod.snd (Prod.snd (Prod.snd (Prod.snd z6))))))))))) ((0 : Int), (0 : Int))) = (6 : Int)) = true then Option.bind (f_spec_l1Cur_geared_g8 k (Prod.fst z6) (Prod.fst (Prod.snd z6)) (Prod.fst (Prod.snd (Prod.snd z6))) (Prod.fst (Prod.snd (Prod.snd (Prod.snd z6)))) (Prod.fst (Prod.snd (Prod.snd (Prod.snd (Prod.snd z6))))) (Prod.fst (Prod.snd (Prod.snd (Prod.snd (Prod.snd (Prod.snd z6)))))) (Prod.fst (Prod.snd (Prod.snd (Prod.snd (Prod.snd (Prod.snd (Prod.snd z6))))))) (Prod.fst (Prod.snd (Prod.snd (Prod.snd (Prod.snd (Prod.snd (Prod.snd (Prod.snd z6)))))))) (Prod.fst (Prod.snd (Prod.snd (Prod.snd (Prod.snd (Prod.snd (Prod.snd (Prod.snd (Prod.snd z6))))))))) (Prod.fst (Prod.snd (Prod.snd (Prod.snd (Prod.snd (Prod.snd (Prod.snd (Prod.snd (Prod.snd (Prod.snd z6)))))))))) (Prod.fst (Prod.snd (Prod.snd (Prod.snd (Prod.snd (Prod.snd (Prod.snd (Prod.snd (Prod.snd (Prod.snd (Prod.snd z6))))))))))) (Prod.snd (Prod.snd (Prod.snd (Prod.snd (Prod.snd (Prod.snd (Prod.snd (Prod.snd (Prod.snd (Prod.snd (Prod.snd z6)))))))))))) fun z10 => f_spec_l1Cur_geared_0 k (Prod.fst z10) (Prod.fst (Prod.snd z10)) (Prod.fst (Prod.snd (Prod.snd z10))) (Prod.fst (Prod.snd (Prod.snd (Prod.snd z10)))) (Prod.fst (Prod.snd (Prod.snd (Prod.snd (Prod.snd z10))))) (Prod.fst (Prod.snd (Prod.snd (Prod.snd (Prod.snd (Prod.snd z10)))))) (Prod.fst (Prod.snd (Prod.snd (Prod.snd (Prod.snd (Prod.snd (Prod.snd z10))))))) (Prod.fst (Prod.snd (Prod.snd (Prod.snd (Prod.snd (Prod.snd (Prod.snd (Prod.snd z10)))))))) (Prod.fst (Prod.snd (Prod.snd (Prod.snd (Prod.snd (Prod.snd (Prod.snd (Prod.snd (Prod.snd z10))))))))) (Prod.fst (Prod.snd (Prod.snd (Prod.snd (Prod.snd (Prod.snd (Prod.snd (Prod.snd (Prod.snd (Prod.snd z10)))))))))) (wrap64 (Prod.snd (Prod.snd (Prod.snd (Prod.snd (Prod.snd (Prod.snd (Prod.snd (Prod.snd (Prod.snd (Prod.snd z10))))))))) + (1 : Int))) else f_spec_l1Cur_geared_0 k (Prod.fst z6) (Prod.fst (Prod.snd z6)) (Prod.fst (Prod.snd (Prod.snd z6))) (Prod.fst (Prod.snd (Prod.snd (Prod.snd z6)))) (Prod.fst (Prod.snd (Prod.snd (Prod.snd (Prod.snd z6))))) (Prod.fst (Prod.snd (Prod.snd (Prod.snd (Prod.snd (Prod.snd z6)))))) (Prod.fst (Prod.snd (Prod.snd (Prod.snd (Prod.snd (Prod.snd (Prod.snd z6))))))) (Prod.fst (Prod.snd (Prod.snd (Prod.snd (Prod.snd (Prod.snd (Prod.snd (Prod.snd z6)))))))) (Prod.fst (Prod.snd (Prod.snd (Prod.snd (Prod.snd (Prod.snd (Prod.snd (Prod.snd (Prod.snd z6))))))))) (Prod.fst (Prod.snd (Prod.snd (Prod.snd (Prod.snd (Prod.snd (Prod.snd (Prod.snd (Prod.snd (Prod.snd (Prod.snd z6))))))))))) (wrap64 (Prod.snd (Prod.snd (Prod.snd (Prod.snd (Prod.snd (Prod.snd (Prod.snd (Prod.snd (Prod.snd (Prod.snd (Prod.snd z6)))))))))) + (1 : Int))) else none else none else f_spec_l1Cur_geared_0 k (Prod.fst (Prod.snd z1)) (Prod.snd (Prod.snd z1)) o2 b3_0 b3_1 o4 b5_0 b5_1 o6 v9 (wrap64 (v10 + (1 : Int))) else some (b1_1, b1_2, o2, b3_0, b3_1, o4, b5_0, b5_1, o6)
noncomputable def f_spec_l1Cur_geared_0i : Spec := Spec.mk [OSh.ro, OSh.box (114 : Nat) [Sh.sl (2 : Nat), Sh.int IntKind.i64, Sh.int IntKind.u64], OSh.fx (Ty.int IntKind.u8), OSh.box (53 : Nat) [Sh.int IntKind.i64, Sh.int IntKind.i64, Sh.sl (4 : Nat)], OSh.row true (79 : Nat) (Ty.pair (Ty.int IntKind.i64) (Ty.int IntKind.i64)), OSh.box (53 : Nat) [Sh.int IntKind.i64, Sh.int IntKind.i64, Sh.sl (6 : Nat)], OSh.row true (79 : Nat) (Ty.pair (Ty.int IntKind.i64) (Ty.int IntKind.i64))] [((0 : Nat), TSh.at (Sh.ptr (1 : Nat) (0 : Nat))), ((2 : Nat), TSh.at (Sh.ptr (3 : Nat) (0 : Nat))), ((3 : Nat), TSh.at (Sh.ptr (5 : Nat) (0 : Nat))), ((9 : Nat), TSh.at (Sh.int IntKind.i64)), ((10 : Nat), TSh.at (Sh.int IntKind.i64))]
noncomputable def f_spec_l1Cur_geared_0o : Spec := Spec.mk [OSh.ro, OSh.box (114 : Nat) [Sh.sl (2 : Nat), Sh.int IntKind.i64, Sh.int IntKind.u64], OSh.fx (Ty.int IntKind.u8), OSh.box (53 : Nat) [Sh.int IntKind.i64, Sh.int IntKind.i64, Sh.sl (4 : Nat)], OSh.row true (79 : Nat) (Ty.pair (Ty.int IntKind.i64) (Ty.int IntKind.i64)), OSh.box (53 : Nat) [Sh.int IntKind.i64, Sh.int IntKind.i64, Sh.sl (6 : Nat)], OSh.row true (79 : Nat) (Ty.pair (Ty.int IntKind.i64) (Ty.int IntKind.i64))] [((2 : Nat), TSh.at (Sh.ptr (3 : Nat) (0 : Nat))), ((3 : Nat), TSh.at (Sh.ptr (5 : Nat) (0 : Nat)))]
noncomputable def f_spec_l1Cur_geared_0D : LoopDef (Tup r_spec_l1Cur_geared × OutD) := .plain f_spec_l1Cur_geared_0i f_spec_l1Cur_geared_0o (Int × Int × List Int × Int × Int × List (Int × Int) × Int × Int × List (Int × Int)) (fun k x => f_spec_l1Cur_geared_0 k x.1.2.1.2.1 x.1.2.1.2.2.1 x.1.2.2.1 x.1.2.2.2.1.1 x.1.2.2.2.1.2.1 x.1.2.2.2.2.1 x.1.2.2.2.2.2.1.1 x.1.2.2.2.2.2.1.2.1 x.1.2.2.2.2.2.2.1 x.2.2.2.2.1 x.2.2.2.2.2.1) (fun z => (((), ((), z.1, z.2.1, ()), z.2.2.1, (z.2.2.2.1, z.2.2.2.2.1, (), ()), z.2.2.2.2.2.1, (z.2.2.2.2.2.2.1, z.2.2.2.2.2.2.2.1, (), ()), z.2.2.2.2.2.2.2.2, ()), ((), (), ()))) (fun y => (y.1.2.1.2.1, y.1.2.1.2.2.1, y.1.2.2.1, y.1.2.2.2.1.1, y.1.2.2.2.1.2.1, y.1.2.2.2.2.1, y.1.2.2.2.2.2.1.1, y.1.2.2.2.2.2.1.2.1, y.1.2.2.2.2.2.2.1)) (fun _ => rfl)
noncomputable def f_spec_l1Cur_geared : Nat → List Int × Int × Int → Option ((Int × Int × List (Int × Int)) × Int × Int)
  | 0, _ => none
  | k + 1, p0 =>
    Option.bind (f_spec_l1Cur_anyBoard k (Prod.fst p0, Prod.fst (Prod.snd p0), Prod.snd (Prod.snd p0))) fun z0 => Option.bind (f_spec_l1Cur_geared_0 k (Prod.fst (Prod.snd z0)) (Prod.snd (Prod.snd z0)) (Prod.fst p0) (0 : Int) (0 : Int) [] (Prod.fst (Prod.fst z0)) (Prod.fst (Prod.snd (Prod.fst z0))) (Prod.snd (Prod.snd (Prod.fst z0))) (↑(List.length (Prod.snd (Prod.snd (Prod.fst z0)))) : Int) (0 : Int)) fun z11 => some ((Prod.fst (Prod.snd (Prod.snd (Prod.snd (Prod.snd (Prod.snd (Prod.snd z11)))))), Prod.fst (Prod.snd (Prod.snd (Prod.snd (Prod.snd (Prod.snd (Prod.snd (Prod.snd z11))))))), Prod.snd (Prod.snd (Prod.snd (Prod.snd (Prod.snd (Prod.snd (Prod.snd (Prod.snd z11)))))))), Prod.fst z11, Prod.fst (Prod.snd z11))
noncomputable def d_spec_l1Cur_geared : FnDef := .of q_spec_l1Cur_geared r_spec_l1Cur_geared ((Int × Int × List (Int × Int)) × Int × Int) (fun k x => f_spec_l1Cur_geared k x.1) to_spec_l1Cur_geared of_spec_l1Cur_geared to_of_spec_l1Cur_geared
noncomputable def c_spec_l1Cur_geared : Code := Try.f179.body.getD .skip
noncomputable def x_spec_l1Cur_geared : Ctx (Tup r_spec_l1Cur_geared × OutD) := { T := T, G := [(177, d_spec_l1Cur_anyBoard.E), (150, d_spec_l1Cur_one.E), (90, d_spec_l1Cur_among.E), (111, d_spec_l1Cur_pick.E)], mvs := [], no := 2, n := 39, res := resOf T q_spec_l1Cur_geared r_spec_l1Cur_geared Try.f179.results.toList, loops := [(0, f_spec_l1Cur_geared_0D.E)], regs := [(6, f_spec_l1Cur_geared_g6D.E), (8, f_spec_l1Cur_geared_g8D.E)], conds := [] }
theorem g_spec_l1Cur_geared (k : Nat) : EnvOK Try.prog k x_spec_l1Cur_geared.G := (EnvOK.cons (s_spec_l1Cur_anyBoard k) (EnvOK.cons (s_spec_l1Cur_one k) (EnvOK.cons (s_spec_l1Cur_among k) (EnvOK.cons (s_spec_l1Cur_pick k) (EnvOK.nil mixed)))))
noncomputable def f_spec_l1Cur_geared_g6O : Array Oper := (findReg 6 c_spec_l1Cur_geared).getD #[]
theorem f_spec_l1Cur_geared_g6e (k : Nat) (x : f_spec_l1Cur_geared_g6i.D) : execD x_spec_l1Cur_geared.T x_spec_l1Cur_geared.G x_spec_l1Cur_geared.mvs k f_spec_l1Cur_geared_g6O (f_spec_l1Cur_geared_g6D.inp.st x_spec_l1Cur_geared.n x) (outK x_spec_l1Cur_geared f_spec_l1Cur_geared_g6D) = f_spec_l1Cur_geared_g6A k x.1.2.1.2.1 x.1.2.1.2.2.1 x.1.2.2.1 x.1.2.2.2.1.1 x.1.2.2.2.1.2.1 x.1.2.2.2.2.1 x.1.2.2.2.2.2.1.1 x.1.2.2.2.2.2.1.2.1 x.1.2.2.2.2.2.2.1 x.2.2.2.2.1 x.2.2.2.2.2.1 x.2.2.2.2.2.2.1 := by kernel_rfl
theorem f_spec_l1Cur_geared_g6ok (k : Nat) : EOK Try.prog x_spec_l1Cur_geared k f_spec_l1Cur_geared_g6D.E (.region 6 f_spec_l1Cur_geared_g6O true) := reg_ok (D := f_spec_l1Cur_geared_g6D) (m := 3) T_ok (g_spec_l1Cur_geared k) (fun x => (f_spec_l1Cur_geared_g6e k x).trans (f_spec_l1Cur_geared_g6j k x.1.2.1.2.1 x.1.2.1.2.2.1 x.1.2.2.1 x.1.2.2.2.1.1 x.1.2.2.2.1.2.1 x.1.2.2.2.2.1 x.1.2.2.2.2.2.1.1 x.1.2.2.2.2.2.1.2.1 x.1.2.2.2.2.2.2.1 x.2.2.2.2.1 x.2.2.2.2.2.1 x.2.2.2.2.2.2.1))
noncomputable def f_spec_l1Cur_geared_g8O : Array Oper := (findReg 8 c_spec_l1Cur_geared).getD #[]
theorem f_spec_l1Cur_geared_g8e (k : Nat) (x : f_spec_l1Cur_geared_g8i.D) : execD x_spec_l1Cur_geared.T x_spec_l1Cur_geared.G x_spec_l1Cur_geared.mvs k f_spec_l1Cur_geared_g8O (f_spec_l1Cur_geared_g8D.inp.st x_spec_l1Cur_geared.n x) (outK x_spec_l1Cur_geared f_spec_l1Cur_geared_g8D) = f_spec_l1Cur_geared_g8A k x.1.2.1.2.1 x.1.2.1.2.2.1 x.1.2.2.1 x.1.2.2.2.1.1 x.1.2.2.2.1.2.1 x.1.2.2.2.2.1 x.1.2.2.2.2.2.1.1 x.1.2.2.2.2.2.1.2.1 x.1.2.2.2.2.2.2.1 x.2.2.2.2.1 x.2.2.2.2.2.1 x.2.2.2.2.2.2.1 := by kernel_rfl
theorem f_spec_l1Cur_geared_g8ok (k : Nat) : EOK Try.prog x_spec_l1Cur_geared k f_spec_l1Cur_geared_g8D.E (.region 8 f_spec_l1Cur_geared_g8O true) := reg_ok (D := f_spec_l1Cur_geared_g8D) (m := 2) T_ok (g_spec_l1Cur_geared k) (fun x => (f_spec_l1Cur_geared_g8e k x).trans (f_spec_l1Cur_geared_g8j k x.1.2.1.2.1 x.1.2.1.2.2.1 x.1.2.2.1 x.1.2.2.2.1.1 x.1.2.2.2.1.2.1 x.1.2.2.2.2.1 x.1.2.2.2.2.2.1.1 x.1.2.2.2.2.2.1.2.1 x.1.2.2.2.2.2.2.1 x.2.2.2.2.1 x.2.2.2.2.2.1 x.2.2.2.2.2.2.1))
noncomputable def f_spec_l1Cur_geared_0B : Code := (findLoop 0 c_spec_l1Cur_geared).getD .skip
theorem f_spec_l1Cur_geared_0h (k : Nat) (x : f_spec_l1Cur_geared_0i.D) : f_spec_l1Cur_geared_0D.lp (k + 1) x = loopK x_spec_l1Cur_geared f_spec_l1Cur_geared_0D 0 f_spec_l1Cur_geared_0B k x := by kernel_rfl
theorem f_spec_l1Cur_geared_0l (k : Nat) : LOK Try.prog x_spec_l1Cur_geared k f_spec_l1Cur_geared_0B := LOK.by [(f_spec_l1Cur_geared_g6D.E, .region 6 f_spec_l1Cur_geared_g6O true), (f_spec_l1Cur_geared_g8D.E, .region 8 f_spec_l1Cur_geared_g8O true)] (by kernel_rfl) (AllOK.cons (f_spec_l1Cur_geared_g6ok k) (AllOK.cons (f_spec_l1Cur_geared_g8ok k) AllOK.nil))
theorem f_spec_l1Cur_geared_0z (x : f_spec_l1Cur_geared_0i.D) : f_spec_l1Cur_geared_0D.lp 0 x = none := by kernel_rfl
theorem f_spec_l1Cur_geared_0ok (k : Nat) : EOK Try.prog x_spec_l1Cur_geared k f_spec_l1Cur_geared_0D.E (.block 0 (.loop f_spec_l1Cur_geared_0B)) := loop_ok T_ok g_spec_l1Cur_geared f_spec_l1Cur_geared_0z f_spec_l1Cur_geared_0h f_spec_l1Cur_geared_0l k
theorem h_spec_l1Cur_geared (k : Nat) (x : Tup d_spec_l1Cur_geared.ps) : d_spec_l1Cur_geared.f (k + 1) x = fnK d_spec_l1Cur_geared x_spec_l1Cur_geared c_spec_l1Cur_geared k x := by kernel_rfl
theorem z_spec_l1Cur_geared (x : Tup d_spec_l1Cur_geared.ps) : d_spec_l1Cur_geared.f 0 x = none := by kernel_rfl
theorem l_spec_l1Cur_geared (k : Nat) : LOK Try.prog x_spec_l1Cur_geared k c_spec_l1Cur_geared := LOK.by [(f_spec_l1Cur_geared_0D.E, .block 0 (.loop f_spec_l1Cur_geared_0B))] (by kernel_rfl) (AllOK.cons (f_spec_l1Cur_geared_0ok k) AllOK.nil)
theorem s_spec_l1Cur_geared (k : Nat) : SoundAt Try.prog k 179 d_spec_l1Cur_geared.E := @fn_all Try.prog d_spec_l1Cur_geared x_spec_l1Cur_geared 179 Try.f179 c_spec_l1Cur_geared (by kernel_rfl) (by kernel_rfl) (by kernel_rfl) Try.func179 (by kernel_rfl) (by kernel_rfl) (by kernel_rfl) T_ok g_spec_l1Cur_geared l_spec_l1Cur_geared z_spec_l1Cur_geared h_spec_l1Cur_geared k
/-! function 200 -/
end
end Go.Proofs.Ytgjmhbjdhihgaaa.Vs

set_option maxRecDepth 100000
set_option maxHeartbeats 2000000
set_option linter.unusedVariables false
set_option linter.unusedSimpArgs false
namespace Go.Proofs.Ytgjmhbjdhihgaaa.Vs
open Go.RowKit
noncomputable section
/-! function 71 -/
/-! function 73 -/
/-! function 136 -/
/-! function 162 -/
/-! function 178 -/
noncomputable def r_spec_l1Cur_counted : List PK := [PK.mk (Ty.pair (Ty.int IntKind.i64) (Ty.pair (Ty.int IntKind.i64) (Ty.slice (79 : Nat) (Ty.pair (Ty.int IntKind.i64) (Ty.int IntKind.i64))))) true none false none]
noncomputable def q_spec_l1Cur_counted : List PK := [PK.mk (Ty.pair (Ty.slice (5 : Nat) (Ty.int IntKind.u8)) (Ty.pair (Ty.int IntKind.i64) (Ty.int IntKind.u64))) false none false (some (114 : Nat))]
noncomputable def to_spec_l1Cur_counted (r : (Int × Int × List (Int × Int)) × Int × Int) : Tup r_spec_l1Cur_counted × OutD := ((r.1, ()), some ⟨Ty.pair (Ty.slice (5 : Nat) (Ty.int IntKind.u8)) (Ty.pair (Ty.int IntKind.i64) (Ty.int IntKind.u64)), [([], r.2)]⟩)
noncomputable def of_spec_l1Cur_counted : Tup r_spec_l1Cur_counted × OutD → Option ((Int × Int × List (Int × Int)) × Int × Int)
  | (a, some ⟨u, ys⟩) => if h : u = Ty.pair (Ty.slice (5 : Nat) (Ty.int IntKind.u8)) (Ty.pair (Ty.int IntKind.i64) (Ty.int IntKind.u64)) then (match castU h ys with
    | [([], y)] => some (a.1, y)
    | _ => none) else none
  | _ => none
theorem to_of_spec_l1Cur_counted : ∀ b r, of_spec_l1Cur_counted b = some r → to_spec_l1Cur_counted r = b := by
  rintro ⟨a, o⟩ r h
  cases o with
  | none => cases h
  | some s =>
    obtain ⟨u, ys⟩ := s
    simp only [of_spec_l1Cur_counted] at h
    split at h
    · rename_i hu
      subst hu
      match ys, h with
      | [], h => cases (show (none : Option _) = some r from h)
      | [([], y)], h => injection (show some _ = some r from h) with h; subst h; rfl
      | [(_ :: _, y)], h => cases (show (none : Option _) = some r from h)
      | (h1, _) :: _ :: _, h => cases h1 <;> cases (show (none : Option _) = some r from h)
    · cases h
noncomputable def f_spec_l1Cur_counted_g7 : Nat → Int → Int → List Int → Int → Int → List (Int × Int) → Int → Int → List (Int × Int) → Option (Int × Int × List Int × Int × Int × List (Int × Int) × Int × Int × List (Int × Int)) := fun k b1_1 b1_2 o2 b3_0 b3_1 o4 b5_0 b5_1 o6 =>
    Option.bind (f_spec_l1Cur_pick k (o2, b1_1, b1_2) (↑(List.length o6) : Int)) fun z5 => Option.bind (f_spec_l1Cur_cell k (o2, Prod.fst (Prod.snd z5), Prod.snd (Prod.snd z5))) fun z6 => if (0 : Int) ≤ Prod.fst z5 then if Prod.fst z5 < (↑(List.length o6) : Int) then some (Prod.fst (Prod.snd z6), Prod.snd (Prod.snd z6), o2, b3_0, b3_1, o4, b5_0, b5_1, List.set o6 (Int.toNat (Prod.fst z5)) (Prod.fst (Prod.fst z6), Prod.snd (Prod.fst z6))) else none else none
noncomputable def f_spec_l1Cur_counted_g7A : Nat → Int → Int → List Int → Int → Int → List (Int × Int) → Int → Int → List (Int × Int) → Option (List (Int × Int × List Int × Int × Int × List (Int × Int) × Int × Int × List (Int × Int))) := fun k b1_1 b1_2 o2 b3_0 b3_1 o4 b5_0 b5_1 o6 =>
    joinL (Option.bind (f_spec_l1Cur_pick k (o2, b1_1, b1_2) (↑(List.length o6) : Int)) fun z7 => Option.bind (f_spec_l1Cur_cell k (o2, Prod.fst (Prod.snd z7), Prod.snd (Prod.snd z7))) fun z8 => if (0 : Int) ≤ Prod.fst z7 then if Prod.fst z7 < (↑(List.length o6) : Int) then some [(Prod.fst (Prod.snd z8), Prod.snd (Prod.snd z8), o2, b3_0, b3_1, o4, b5_0, b5_1, List.set o6 (Int.toNat (Prod.fst z7)) (Prod.fst (Prod.fst z8), Prod.snd (Prod.fst z8)))] else none else none) (Option.bind (f_spec_l1Cur_pick k (o2, b1_1, b1_2) (↑(List.length o6) : Int)) fun z9 => joinL (Option.bind (f_spec_l1Cur_cell k (o2, Prod.fst (Prod.snd z9), Prod.snd (Prod.snd z9))) fun z10 => if (0 : Int) ≤ Prod.fst z9 then if Prod.fst z9 < (↑(List.length o6) : Int) then some [(Prod.fst (Prod.snd z10), Prod.snd (Prod.snd z10), o2, b3_0, b3_1, o4, b5_0, b5_1, List.set o6 (Int.toNat (Prod.fst z9)) (Prod.fst (Prod.fst z10), Prod.snd (Prod.fst z10)))] else none else none) (Option.bind (f_spec_l1Cur_cell k (o2, Prod.fst (Prod.snd z9), Prod.snd (Prod.snd z9))) fun z11 => if (0 : Int) ≤ Prod.fst z9 then if Prod.fst z9 < (↑(List.length o6) : Int) then some [(Prod.fst (Prod.snd z11), Prod.snd (Prod.snd z11), o2, b3_0, b3_1, o4, b5_0, b5_1, List.set o6 (Int.toNat (Prod.fst z9)) (Prod.fst (Prod.fst z11), Prod.snd (Prod.fst z11)))] else none else none))
noncomputable def f_spec_l1Cur_counted_g7i : Spec := Spec.mk [OSh.ro, OSh.box (114 : Nat) [Sh.sl (2 : Nat), Sh.int IntKind.i64, Sh.int IntKind.u64], OSh.fx (Ty.int IntKind.u8), OSh.box (53 : Nat) [Sh.int IntKind.i64, Sh.int IntKind.i64, Sh.sl (4 : Nat)], OSh.row true (79 : Nat) (Ty.pair (Ty.int IntKind.i64) (Ty.int IntKind.i64)), OSh.box (53 : Nat) [Sh.int IntKind.i64, Sh.int IntKind.i64, Sh.sl (6 : Nat)], OSh.row true (79 : Nat) (Ty.pair (Ty.int IntKind.i64) (Ty.int IntKind.i64))] [((0 : Nat), TSh.at (Sh.ptr (1 : Nat) (0 : Nat))), ((2 : Nat), TSh.at (Sh.ptr (3 : Nat) (0 : Nat))), ((4 : Nat), TSh.at (Sh.ptr (5 : Nat) (0 : Nat)))]
noncomputable def f_spec_l1Cur_counted_g7o : Spec := Spec.mk [OSh.ro, OSh.box (114 : Nat) [Sh.sl (2 : Nat), Sh.int IntKind.i64, Sh.int IntKind.u64], OSh.fx (Ty.int IntKind.u8), OSh.box (53 : Nat) [Sh.int IntKind.i64, Sh.int IntKind.i64, Sh.sl (4 : Nat)], OSh.row true (79 : Nat) (Ty.pair (Ty.int IntKind.i64) (Ty.int IntKind.i64)), OSh.box (53 : Nat) [Sh.int IntKind.i64, Sh.int IntKind.i64, Sh.sl (6 : Nat)], OSh.row true (79 : Nat) (Ty.pair (Ty.int IntKind.i64) (Ty.int IntKind.i64))] [((2 : Nat), TSh.at (Sh.ptr (3 : Nat) (0 : Nat))), ((4 : Nat), TSh.at (Sh.ptr (5 : Nat) (0 : Nat)))]
noncomputable def f_spec_l1Cur_counted_g7D : LoopDef (Tup r_spec_l1Cur_counted × OutD) := .plain f_spec_l1Cur_counted_g7i f_spec_l1Cur_counted_g7o (Int × Int × List Int × Int × Int × List (Int × Int) × Int × Int × List (Int × Int)) (fun k x => f_spec_l1Cur_counted_g7 k x.1.2.1.2.1 x.1.2.1.2.2.1 x.1.2.2.1 x.1.2.2.2.1.1 x.1.2.2.2.1.2.1 x.1.2.2.2.2.1 x.1.2.2.2.2.2.1.1 x.1.2.2.2.2.2.1.2.1 x.1.2.2.2.2.2.2.1) (fun z => (((), ((), z.1, z.2.1, ()), z.2.2.1, (z.2.2.2.1, z.2.2.2.2.1, (), ()), z.2.2.2.2.2.1, (z.2.2.2.2.2.2.1, z.2.2.2.2.2.2.2.1, (), ()), z.2.2.2.2.2.2.2.2, ()), ((), (), ()))) (fun y => (y.1.2.1.2.1, y.1.2.1.2.2.1, y.1.2.2.1, y.1.2.2.2.1.1, y.1.2.2.2.1.2.1, y.1.2.2.2.2.1, y.1.2.2.2.2.2.1.1, y.1.2.2.2.2.2.1.2.1, y.1.2.2.2.2.2.2.1)) (fun _ => rfl)
theorem f_spec_l1Cur_counted_g7j (k : Nat) (b1_1 : Int) (b1_2 : Int) (o2 : List Int) (b3_0 : Int) (b3_1 : Int) (o4 : List (Int × Int)) (b5_0 : Int) (b5_1 : Int) (o6 : List (Int × Int)) : f_spec_l1Cur_counted_g7A k b1_1 b1_2 o2 b3_0 b3_1 o4 b5_0 b5_1 o6 = repl 3 (f_spec_l1Cur_counted_g7 k b1_1 b1_2 o2 b3_0 b3_1 o4 b5_0 b5_1 o6) := by
  first
  | (simp only [f_spec_l1Cur_counted_g7A, f_spec_l1Cur_counted_g7, repl_some, repl_ite, repl_ite0, repl_ite1, repl_bind, joinL_repl, if_true]; done)
  | (simp only [f_spec_l1Cur_counted_g7A, f_spec_l1Cur_counted_g7, repl_some, repl_ite, repl_ite0, repl_ite1, repl_bind, joinL_repl, if_true]; simp only [joinL_grdl, joinL_grdr, repl_grd, joinL_repl]; simp only [grd_and]; exact grd_congr ⟨fun h => by simp only [h, and_self], fun h => by simp only [h, and_self]⟩)
noncomputable def f_spec_l1Cur_counted : Nat → List Int × Int × Int → Option ((Int × Int × List (Int × Int)) × Int × Int)
  | 0, _ => none
  | k + 1, p0 =>
    Option.bind (f_spec_l1Cur_pick k (Prod.fst p0, Prod.fst (Prod.snd p0), Prod.snd (Prod.snd p0)) (4 : Int)) fun z0 => if IntKind.wrap IntKind.u64 (wrap64 ((1 : Int) + Prod.fst z0)) < (0 : Int) then none else Option.bind (f_spec_l1Cur_pick k (Prod.fst p0, Prod.fst (Prod.snd z0), Prod.snd (Prod.snd z0)) (shlS (1 : Int) (IntKind.wrap IntKind.u64 (wrap64 ((1 : Int) + Prod.fst z0))))) fun z1 => Option.bind (f_spec_bcBoard k (wrap64 ((1 : Int) + Prod.fst z0)) (Prod.fst z1)) fun z2 => Option.bind (f_spec_l1Cur_pick k (Prod.fst p0, Prod.fst (Prod.snd z1), Prod.snd (Prod.snd z1)) (6 : Int)) fun z3 => if decide (Prod.fst z3 = (0 : Int)) = true then Option.bind (f_spec_l1Cur_anyBoard k (Prod.fst p0, Prod.fst (Prod.snd z3), Prod.snd (Prod.snd z3))) fun z4 => some ((Prod.fst (Prod.fst z4), Prod.fst (Prod.snd (Prod.fst z4)), Prod.snd (Prod.snd (Prod.fst z4))), Prod.fst (Prod.snd z4), Prod.snd (Prod.snd z4)) else if decide (Prod.fst z3 = (1 : Int)) = true then Option.bind (f_spec_l1Cur_counted_g7 k (Prod.fst (Prod.snd z3)) (Prod.snd (Prod.snd z3)) (Prod.fst p0) (0 : Int) (0 : Int) [] (Prod.fst z2) (Prod.fst (Prod.snd z2)) (Prod.snd (Prod.snd z2))) fun z12 => some ((Prod.fst (Prod.snd (Prod.snd (Prod.snd (Prod.snd (Prod.snd (Prod.snd z12)))))), Prod.fst (Prod.snd (Prod.snd (Prod.snd (Prod.snd (Prod.snd (Prod.snd (Prod.snd z12))))))), Prod.snd (Prod.snd (Prod.snd (Prod.snd (Prod.snd (Prod.snd (Prod.snd (Prod.snd z12)))))))), Prod.fst z12, Prod.fst (Prod.snd z12)) else if decide (Prod.fst z3 = (2 : Int)) = true then Option.bind (f_spec_boMirror k (Prod.fst z2, Prod.fst (Prod.snd z2), Prod.snd (Prod.snd z2))) fun z13 => some ((Prod.fst z13, Prod.fst (Prod.snd z13), Prod.snd (Prod.snd z13)), Prod.fst (Prod.snd z3), Prod.snd (Prod.snd z3)) else if decide (Prod.fst z3 = (3 : Int)) = true then Option.bind (f_spec_l1Cur_geared k (Prod.fst p0, Prod.fst (Prod.snd z3), Prod.snd (Prod.snd z3))) fun z14 => some ((Prod.fst (Prod.fst z14), Prod.fst (Prod.snd (Prod.fst z14)), Prod.snd (Prod.snd (Prod.fst z14))), Prod.fst (Prod.snd z14), Prod.snd (Prod.snd z14)) else some ((Prod.fst z2, Prod.fst (Prod.snd z2), Prod.snd (Prod.snd z2)), Prod.fst (Prod.snd z3), Prod.snd (Prod.snd z3))
noncomputable def d_spec_l1Cur_counted : FnDef := .of q_spec_l1Cur_counted r_spec_l1Cur_counted ((Int × Int × List (Int × Int)) × Int × Int) (fun k x => f_spec_l1Cur_counted k x.1) to_spec_l1Cur_counted of_spec_l1Cur_counted to_of_spec_l1Cur_counted
noncomputable def c_spec_l1Cur_counted : Code := Try.f178.body.getD .skip
noncomputable def x_spec_l1Cur_counted : Ctx (Tup r_spec_l1Cur_counted × OutD) := { T := T, G := [(111, d_spec_l1Cur_pick.E), (204, d_spec_bcBoard.E), (177, d_spec_l1Cur_anyBoard.E), (205, d_spec_l1Cur_cell.E), (206, d_spec_boMirror.E), (179, d_spec_l1Cur_geared.E)], mvs := [], no := 2, n := 42, res := resOf T q_spec_l1Cur_counted r_spec_l1Cur_counted Try.f178.results.toList, loops := [], regs := [(7, f_spec_l1Cur_counted_g7D.E)], conds := [] }
theorem g_spec_l1Cur_counted (k : Nat) : EnvOK Try.prog k x_spec_l1Cur_counted.G := (EnvOK.cons (s_spec_l1Cur_pick k) (EnvOK.cons (s_spec_bcBoard k) (EnvOK.cons (s_spec_l1Cur_anyBoard k) (EnvOK.cons (s_spec_l1Cur_cell k) (EnvOK.cons (s_spec_boMirror k) (EnvOK.cons (s_spec_l1Cur_geared k) (EnvOK.nil mixed)))))))
noncomputable def f_spec_l1Cur_counted_g7O : Array Oper := (findReg 7 c_spec_l1Cur_counted).getD #[]
theorem f_spec_l1Cur_counted_g7e (k : Nat) (x : f_spec_l1Cur_counted_g7i.D) : execD x_spec_l1Cur_counted.T x_spec_l1Cur_counted.G x_spec_l1Cur_counted.mvs k f_spec_l1Cur_counted_g7O (f_spec_l1Cur_counted_g7D.inp.st x_spec_l1Cur_counted.n x) (outK x_spec_l1Cur_counted f_spec_l1Cur_counted_g7D) = f_spec_l1Cur_counted_g7A k x.1.2.1.2.1 x.1.2.1.2.2.1 x.1.2.2.1 x.1.2.2.2.1.1 x.1.2.2.2.1.2.1 x.1.2.2.2.2.1 x.1.2.2.2.2.2.1.1 x.1.2.2.2.2.2.1.2.1 x.1.2.2.2.2.2.2.1 := by kernel_rfl
theorem f_spec_l1Cur_counted_g7ok (k : Nat) : EOK Try.prog x_spec_l1Cur_counted k f_spec_l1Cur_counted_g7D.E (.region 7 f_spec_l1Cur_counted_g7O true) := reg_ok (D := f_spec_l1Cur_counted_g7D) (m := 3) T_ok (g_spec_l1Cur_counted k) (fun x => (f_spec_l1Cur_counted_g7e k x).trans (f_spec_l1Cur_counted_g7j k x.1.2.1.2.1 x.1.2.1.2.2.1 x.1.2.2.1 x.1.2.2.2.1.1 x.1.2.2.2.1.2.1 x.1.2.2.2.2.1 x.1.2.2.2.2.2.1.1 x.1.2.2.2.2.2.1.2.1 x.1.2.2.2.2.2.2.1))
theorem h_spec_l1Cur_counted (k : Nat) (x : Tup d_spec_l1Cur_counted.ps) : d_spec_l1Cur_counted.f (k + 1) x = fnK d_spec_l1Cur_counted x_spec_l1Cur_counted c_spec_l1Cur_counted k x := by kernel_rfl
theorem z_spec_l1Cur_counted (x : Tup d_spec_l1Cur_counted.ps) : d_spec_l1Cur_counted.f 0 x = none := by kernel_rfl
theorem l_spec_l1Cur_counted (k : Nat) : LOK Try.prog x_spec_l1Cur_counted k c_spec_l1Cur_counted := LOK.by [(f_spec_l1Cur_counted_g7D.E, .region 7 f_spec_l1Cur_counted_g7O true)] (by kernel_rfl) (AllOK.cons (f_spec_l1Cur_counted_g7ok k) AllOK.nil)
theorem s_spec_l1Cur_counted (k : Nat) : SoundAt Try.prog k 178 d_spec_l1Cur_counted.E := @fn_all Try.prog d_spec_l1Cur_counted x_spec_l1Cur_counted 178 Try.f178 c_spec_l1Cur_counted (by kernel_rfl) (by kernel_rfl) (by kernel_rfl) Try.func178 (by kernel_rfl) (by kernel_rfl) (by kernel_rfl) T_ok g_spec_l1Cur_counted l_spec_l1Cur_counted z_spec_l1Cur_counted h_spec_l1Cur_counted k
end
end Go.Proofs.Ytgjmhbjdhihgaaa.Vs

set_option maxRecDepth 100000
set_option maxHeartbeats 2000000
set_option linter.unusedVariables false
set_option linter.unusedSimpArgs false
namespace Go.Proofs.Ytgjmhbjdhihgaaa.Vs
open Go.RowKit
noncomputable section
/-! function 53 -/
/-! function 74 -/
/-! function 77 -/
/-! function 80 -/
/-! function 83 -/
/-! function 116 -/
noncomputable def r_spec_l1Cur_faulty : List PK := [PK.mk (Ty.pair (Ty.int IntKind.i64) (Ty.pair (Ty.int IntKind.i64) (Ty.slice (79 : Nat) (Ty.pair (Ty.int IntKind.i64) (Ty.int IntKind.i64))))) true none false none, PK.mk (Ty.slice (77 : Nat) (Ty.pair (Ty.int IntKind.i64) (Ty.pair (Ty.int IntKind.i64) (Ty.int IntKind.i64)))) false none false none]
noncomputable def q_spec_l1Cur_faulty : List PK := [PK.mk (Ty.pair (Ty.slice (5 : Nat) (Ty.int IntKind.u8)) (Ty.pair (Ty.int IntKind.i64) (Ty.int IntKind.u64))) false none false (some (114 : Nat))]
noncomputable def to_spec_l1Cur_faulty (r : (Int × Int × List (Int × Int)) × List (Int × Int × Int) × Int × Int) : Tup r_spec_l1Cur_faulty × OutD := ((r.1, r.2.1, ()), some ⟨Ty.pair (Ty.slice (5 : Nat) (Ty.int IntKind.u8)) (Ty.pair (Ty.int IntKind.i64) (Ty.int IntKind.u64)), [([], r.2.2)]⟩)
noncomputable def of_spec_l1Cur_faulty : Tup r_spec_l1Cur_faulty × OutD → Option ((Int × Int × List (Int × Int)) × List (Int × Int × Int) × Int × Int)
  | (a, some ⟨u, ys⟩) => if h : u = Ty.pair (Ty.slice (5 : Nat) (Ty.int IntKind.u8)) (Ty.pair (Ty.int IntKind.i64) (Ty.int IntKind.u64)) then (match castU h ys with
    | [([], y)] => some (a.1, a.2.1, y)
    | _ => none) else none
  | _ => none
theorem to_of_spec_l1Cur_faulty : ∀ b r, of_spec_l1Cur_faulty b = some r → to_spec_l1Cur_faulty r = b := by
  rintro ⟨a, o⟩ r h
  cases o with
  | none => cases h
  | some s =>
    obtain ⟨u, ys⟩ := s
    simp only [of_spec_l1Cur_faulty] at h
    split at h
    · rename_i hu
      subst hu
      match ys, h with
      | [], h => cases (show (none : Option _) = some r from h)
      | [([], y)], h => injection (show some _ = some r from h) with h; subst h; rfl
      | [(_ :: _, y)], h => cases (show (none : Option _) = some r from h)
      | (h1, _) :: _ :: _, h => cases h1 <;> cases (show (none : Option _) = some r from h)
    · cases h
noncomputable def f_spec_l1Cur_faulty_j14 : Nat → Int → Int → List Int → Int → Int → List (Int × Int) → Int → Int → List (Int × Int) → Bool → Option (Int × Int × List Int × Int × Int × List (Int × Int) × Int × Int × List (Int × Int)) := fun k b1_1 b1_2 o2 b3_0 b3_1 o4 b5_0 b5_1 o6 v14 =>
    if v14 = true then Option.bind (f_spec_l1Cur_counted k (o2, b1_1, b1_2)) fun z2 => some (Prod.fst (Prod.snd z2), Prod.snd (Prod.snd z2), o2, b3_0, b3_1, o4, Prod.fst (Prod.fst z2), Prod.fst (Prod.snd (Prod.fst z2)), Prod.snd (Prod.snd (Prod.fst z2))) else some (b1_1, b1_2, o2, b3_0, b3_1, o4, b5_0, b5_1, o6)
noncomputable def f_spec_l1Cur_faulty_j14i : Spec := Spec.mk [OSh.ro, OSh.box (114 : Nat) [Sh.sl (2 : Nat), Sh.int IntKind.i64, Sh.int IntKind.u64], OSh.fx (Ty.int IntKind.u8), OSh.box (53 : Nat) [Sh.int IntKind.i64, Sh.int IntKind.i64, Sh.sl (4 : Nat)], OSh.row true (79 : Nat) (Ty.pair (Ty.int IntKind.i64) (Ty.int IntKind.i64)), OSh.box (53 : Nat) [Sh.int IntKind.i64, Sh.int IntKind.i64, Sh.sl (6 : Nat)], OSh.row true (79 : Nat) (Ty.pair (Ty.int IntKind.i64) (Ty.int IntKind.i64))] [((0 : Nat), TSh.at (Sh.ptr (1 : Nat) (0 : Nat))), ((2 : Nat), TSh.at (Sh.ptr (3 : Nat) (0 : Nat))), ((4 : Nat), TSh.at (Sh.ptr (5 : Nat) (0 : Nat))), ((14 : Nat), TSh.at Sh.bool)]
noncomputable def f_spec_l1Cur_faulty_j14o : Spec := Spec.mk [OSh.ro, OSh.box (114 : Nat) [Sh.sl (2 : Nat), Sh.int IntKind.i64, Sh.int IntKind.u64], OSh.fx (Ty.int IntKind.u8), OSh.box (53 : Nat) [Sh.int IntKind.i64, Sh.int IntKind.i64, Sh.sl (4 : Nat)], OSh.row true (79 : Nat) (Ty.pair (Ty.int IntKind.i64) (Ty.int IntKind.i64)), OSh.box (53 : Nat) [Sh.int IntKind.i64, Sh.int IntKind.i64, Sh.sl (6 : Nat)], OSh.row true (79 : Nat) (Ty.pair (Ty.int IntKind.i64) (Ty.int IntKind.i64))] [((0 : Nat), TSh.at (Sh.ptr (1 : Nat) (0 : Nat))), ((2 : Nat), TSh.at (Sh.ptr (3 : Nat) (0 : Nat))), ((4 : Nat), TSh.at (Sh.ptr (5 : Nat) (0 : Nat)))]
noncomputable def f_spec_l1Cur_faulty_j14D : LoopDef (Tup r_spec_l1Cur_faulty × OutD) := .plain f_spec_l1Cur_faulty_j14i f_spec_l1Cur_faulty_j14o (Int × Int × List Int × Int × Int × List (Int × Int) × Int × Int × List (Int × Int)) (fun k x => f_spec_l1Cur_faulty_j14 k x.1.2.1.2.1 x.1.2.1.2.2.1 x.1.2.2.1 x.1.2.2.2.1.1 x.1.2.2.2.1.2.1 x.1.2.2.2.2.1 x.1.2.2.2.2.2.1.1 x.1.2.2.2.2.2.1.2.1 x.1.2.2.2.2.2.2.1 x.2.2.2.2.1) (fun z => (((), ((), z.1, z.2.1, ()), z.2.2.1, (z.2.2.2.1, z.2.2.2.2.1, (), ()), z.2.2.2.2.2.1, (z.2.2.2.2.2.2.1, z.2.2.2.2.2.2.2.1, (), ()), z.2.2.2.2.2.2.2.2, ()), ((), (), (), ()))) (fun y => (y.1.2.1.2.1, y.1.2.1.2.2.1, y.1.2.2.1, y.1.2.2.2.1.1, y.1.2.2.2.1.2.1, y.1.2.2.2.2.1, y.1.2.2.2.2.2.1.1, y.1.2.2.2.2.2.1.2.1, y.1.2.2.2.2.2.2.1)) (fun _ => rfl)
noncomputable def f_spec_l1Cur_faulty_j18 : Nat → Int → Int → List Int → Int → Int → List (Int × Int) → Int → Int → List (Int × Int) → Bool → Option (Int × Int × List Int × Int × Int × List (Int × Int) × Int × Int × List (Int × Int)) := fun k b1_1 b1_2 o2 b3_0 b3_1 o4 b5_0 b5_1 o6 v18 =>
    if v18 = true then Option.bind (f_spec_l1Cur_geared k (o2, b1_1, b1_2)) fun z5 => some (Prod.fst (Prod.snd z5), Prod.snd (Prod.snd z5), o2, b3_0, b3_1, o4, Prod.fst (Prod.fst z5), Prod.fst (Prod.snd (Prod.fst z5)), Prod.snd (Prod.snd (Prod.fst z5))) else some (b1_1, b1_2, o2, b3_0, b3_1, o4, b5_0, b5_1, o6)
noncomputable def f_spec_l1Cur_faulty_j18i : Spec := Spec.mk [OSh.ro, OSh.box (114 : Nat) [Sh.sl (2 : Nat), Sh.int IntKind.i64, Sh.int IntKind.u64], OSh.fx (Ty.int IntKind.u8), OSh.box (53 : Nat) [Sh.int IntKind.i64, Sh.int IntKind.i64, Sh.sl (4 : Nat)], OSh.row true (79 : Nat) (Ty.pair (Ty.int IntKind.i64) (Ty.int IntKind.i64)), OSh.box (53 : Nat) [Sh.int IntKind.i64, Sh.int IntKind.i64, Sh.sl (6 : Nat)], OSh.row true (79 : Nat) (Ty.pair (Ty.int IntKind.i64) (Ty.int IntKind.i64))] [((0 : Nat), TSh.at (Sh.ptr (1 : Nat) (0 : Nat))), ((2 : Nat), TSh.at (Sh.ptr (3 : Nat) (0 : Nat))), ((4 : Nat), TSh.at (Sh.ptr (5 : Nat) (0 : Nat))), ((18 : Nat), TSh.at Sh.bool)]
noncomputable def f_spec_l1Cur_faulty_j18o : Spec := Spec.mk [OSh.ro, OSh.box (114 : Nat) [Sh.sl (2 : Nat), Sh.int IntKind.i64, Sh.int IntKind.u64], OSh.fx (Ty.int IntKind.u8), OSh.box (53 : Nat) [Sh.int IntKind.i64, Sh.int IntKind.i64, Sh.sl (4 : Nat)], OSh.row true (79 : Nat) (Ty.pair (Ty.int IntKind.i64) (Ty.int IntKind.i64)), OSh.box (53 : Nat) [Sh.int IntKind.i64, Sh.int IntKind.i64, Sh.sl (6 : Nat)], OSh.row true (79 : Nat) (Ty.pair (Ty.int IntKind.i64) (Ty.int IntKind.i64))] [((0 : Nat), TSh.at (Sh.ptr (1 : Nat) (0 : Nat))), ((2 : Nat), TSh.at (Sh.ptr (3 : Nat) (0 : Nat))), ((4 : Nat), TSh.at (Sh.ptr (5 : Nat) (0 : Nat)))]
noncomputable def f_spec_l1Cur_faulty_j18D : LoopDef (Tup r_spec_l1Cur_faulty × OutD) := .plain f_spec_l1Cur_faulty_j18i f_spec_l1Cur_faulty_j18o (Int × Int × List Int × Int × Int × List (Int × Int) × Int × Int × List (Int × Int)) (fun k x => f_spec_l1Cur_faulty_j18 k x.1.2.1.2.1 x.1.2.1.2.2.1 x.1.2.2.1 x.1.2.2.2.1.1 x.1.2.2.2.1.2.1 x.1.2.2.2.2.1 x.1.2.2.2.2.2.1.1 x.1.2.2.2.2.2.1.2.1 x.1.2.2.2.2.2.2.1 x.2.2.2.2.1) (fun z => (((), ((), z.1, z.2.1, ()), z.2.2.1, (z.2.2.2.1, z.2.2.2.2.1, (), ()), z.2.2.2.2.2.1, (z.2.2.2.2.2.2.1, z.2.2.2.2.2.2.2.1, (), ()), z.2.2.2.2.2.2.2.2, ()), ((), (), (), ()))) (fun y => (y.1.2.1.2.1, y.1.2.1.2.2.1, y.1.2.2.1, y.1.2.2.2.1.1, y.1.2.2.2.1.2.1, y.1.2.2.2.2.1, y.1.2.2.2.2.2.1.1, y.1.2.2.2.2.2.1.2.1, y.1.2.2.2.2.2.2.1)) (fun _ => rfl)
noncomputable def f_spec_l1Cur_faulty_j31 : Nat → Int → Int → List Int → Int → Int → List (Int × Int) → Int → Int → List (Int × Int) → List (Int × Int × Int) → List (Int × Int × Int) → Int → Bool → Option (Int × Int × List Int × Int × Int × List (Int × Int) × Int × Int × List (Int × Int) × List (Int × Int × Int) × List (Int × Int × Int) × Int) := fun k b1_1 b1_2 o2 b3_0 b3_1 o4 b5_0 b5_1 o6 o7 o8 v7 v31 =>
    if v31 = true then Option.bind (f_spec_l1Cur_pick k (o2, b1_1, b1_2) (2 : Int)) fun z11 => some (Prod.fst (Prod.snd z11), Prod.snd (Prod.snd z11), o2, b3_0, b3_1, o4, b5_0, b5_1, o6, o7, o8, wrap64 ((4 : Int) + Prod.fst z11)) else some (b1_1, b1_2, o2, b3_0, b3_1, o4, b5_0, b5_1, o6, o7, o8, v7)
noncomputable def f_spec_l1Cur_faulty_j31i : Spec := Spec.mk [OSh.ro, OSh.box (114 : Nat) [Sh.sl (2 : Nat), Sh.int IntKind.i64, Sh.int IntKind.u64], OSh.fx (Ty.int IntKind.u8), OSh.box (53 : Nat) [Sh.int IntKind.i64, Sh.int IntKind.i64, Sh.sl (4 : Nat)], OSh.row true (79 : Nat) (Ty.pair (Ty.int IntKind.i64) (Ty.int IntKind.i64)), OSh.box (53 : Nat) [Sh.int IntKind.i64, Sh.int IntKind.i64, Sh.sl (6 : Nat)], OSh.row true (79 : Nat) (Ty.pair (Ty.int IntKind.i64) (Ty.int IntKind.i64)), OSh.row true (77 : Nat) (Ty.pair (Ty.int IntKind.i64) (Ty.pair (Ty.int IntKind.i64) (Ty.int IntKind.i64))), OSh.row true (77 : Nat) (Ty.pair (Ty.int IntKind.i64) (Ty.pair (Ty.int IntKind.i64) (Ty.int IntKind.i64)))] [((0 : Nat), TSh.at (Sh.ptr (1 : Nat) (0 : Nat))), ((2 : Nat), TSh.at (Sh.ptr (3 : Nat) (0 : Nat))), ((4 : Nat), TSh.at (Sh.ptr (5 : Nat) (0 : Nat))), ((5 : Nat), TSh.at (Sh.sl (7 : Nat))), ((6 : Nat), TSh.at (Sh.sl (8 : Nat))), ((7 : Nat), TSh.at (Sh.int IntKind.i64)), ((31 : Nat), TSh.at Sh.bool)]
noncomputable def f_spec_l1Cur_faulty_j31o : Spec := Spec.mk [OSh.ro, OSh.box (114 : Nat) [Sh.sl (2 : Nat), Sh.int IntKind.i64, Sh.int IntKind.u64], OSh.fx (Ty.int IntKind.u8), OSh.box (53 : Nat) [Sh.int IntKind.i64, Sh.int IntKind.i64, Sh.sl (4 : Nat)], OSh.row true (79 : Nat) (Ty.pair (Ty.int IntKind.i64) (Ty.int IntKind.i64)), OSh.box (53 : Nat) [Sh.int IntKind.i64, Sh.int IntKind.i64, Sh.sl (6 : Nat)], OSh.row true (79 : Nat) (Ty.pair (Ty.int IntKind.i64) (Ty.int IntKind.i64)), OSh.row true (77 : Nat) (Ty.pair (Ty.int IntKind.i64) (Ty.pair (Ty.int IntKind.i64) (Ty.int IntKind.i64))), OSh.row true (77 : Nat) (Ty.pair (Ty.int IntKind.i64) (Ty.pair (Ty.int IntKind.i64) (Ty.int IntKind.i64)))] [((0 : Nat), TSh.at (Sh.ptr (1 : Nat) (0 : Nat))), ((2 : Nat), TSh.at (Sh.ptr (3 : Nat) (0 : Nat))), ((4 : Nat), TSh.at (Sh.ptr (5 : Nat) (0 : Nat))), ((5 : Nat), TSh.at (Sh.sl (7 : Nat))), ((6 : Nat), TSh.at (Sh.sl (8 : Nat))), ((7 : Nat), TSh.at (Sh.int IntKind.i64))]
noncomputable def f_spec_l1Cur_faulty_j31D : LoopDef (Tup r_spec_l1Cur_faulty × OutD) := .plain f_spec_l1Cur_faulty_j31i f_spec_l1Cur_faulty_j31o (Int × Int × List Int × Int × Int × List (Int × Int) × Int × Int × List (Int × Int) × List (Int × Int × Int) × List (Int × Int × Int) × Int) (fun k x => f_spec_l1Cur_faulty_j31 k x.1.2.1.2.1 x.1.2.1.2.2.1 x.1.2.2.1 x.1.2.2.2.1.1 x.1.2.2.2.1.2.1 x.1.2.2.2.2.1 x.1.2.2.2.2.2.1.1 x.1.2.2.2.2.2.1.2.1 x.1.2.2.2.2.2.2.1 x.1.2.2.2.2.2.2.2.1 x.1.2.2.2.2.2.2.2.2.1 x.2.2.2.2.2.2.1 x.2.2.2.2.2.2.2.1) (fun z => (((), ((), z.1, z.2.1, ()), z.2.2.1, (z.2.2.2.1, z.2.2.2.2.1, (), ()), z.2.2.2.2.2.1, (z.2.2.2.2.2.2.1, z.2.2.2.2.2.2.2.1, (), ()), z.2.2.2.2.2.2.2.2.1, z.2.2.2.2.2.2.2.2.2.1, z.2.2.2.2.2.2.2.2.2.2.1, ()), ((), (), (), (), (), z.2.2.2.2.2.2.2.2.2.2.2, ()))) (fun y => (y.1.2.1.2.1, y.1.2.1.2.2.1, y.1.2.2.1, y.1.2.2.2.1.1, y.1.2.2.2.1.2.1, y.1.2.2.2.2.1, y.1.2.2.2.2.2.1.1, y.1.2.2.2.2.2.1.2.1, y.1.2.2.2.2.2.2.1, y.1.2.2.2.2.2.2.2.1, y.1.2.2.2.2.2.2.2.2.1, y.2.2.2.2.2.2.1)) (fun _ => rfl)
noncomputable def f_spec_l1Cur_faulty_j57 : Nat → Int → Int → List Int → Int → Int → List (Int × Int) → Int → Int → List (Int × Int) → List (Int × Int × Int) → List (Int × Int × Int) → Int → Int → Int → Int → Int → Bool → Option (Int × Int × List Int × Int × Int × List (Int × Int) × Int × Int × List (Int × Int) × List (Int × Int × Int) × List (Int × Int × Int) × Int × Int × Int × Int × Int) := fun k b1_1 b1_2 o2 b3_0 b3_1 o4 b5_0 b5_1 o6 o7 o8 b9_0 b9_1 b9_2 v7 v8 v57 =>
    if v57 = true then if (0 : Int) ≤ v8 then if v8 < (↑(List.length o8) : Int) then some (b1_1, b1_2, o2, b3_0, b3_1, o4, b5_0, b5_1, o6, o7, o8, Prod.fst (List.getD o8 (Int.toNat v8) ((0 : Int), (0 : Int), (0 : Int))), Prod.fst (Prod.snd (List.getD o8 (Int.toNat v8) ((0 : Int), (0 : Int), (0 : Int)))), Prod.snd (Prod.snd (List.getD o8 (Int.toNat v8) ((0 : Int), (0 : Int), (0 : Int)))), v7, v8) else none else none else some (b1_1, b1_2, o2, b3_0, b3_1, o4, b5_0, b5_1, o6, o7, o8, b9_0, b9_1, b9_2, v7, v8)
noncomputable def f_spec_l1Cur_faulty_j57i : Spec := Spec.mk [OSh.ro, OSh.box (114 : Nat) [Sh.sl (2 : Nat), Sh.int IntKind.i64, Sh.int IntKind.u64], OSh.fx (Ty.int IntKind.u8), OSh.box (53 : Nat) [Sh.int IntKind.i64, Sh.int IntKind.i64, Sh.sl (4 : Nat)], OSh.row true (79 : Nat) (Ty.pair (Ty.int IntKind.i64) (Ty.int IntKind.i64)), OSh.box (53 : Nat) [Sh.int IntKind.i64, Sh.int IntKind.i64, Sh.sl (6 : Nat)], OSh.row true (79 : Nat) (Ty.pair (Ty.int IntKind.i64) (Ty.int IntKind.i64)), OSh.row true (77 : Nat) (Ty.pair (Ty.int IntKind.i64) (Ty.pair (Ty.int IntKind.i64) (Ty.int IntKind.i64))), OSh.row true (77 : Nat) (Ty.pair (Ty.int IntKind.i64) (Ty.pair (Ty.int IntKind.i64) (Ty.int IntKind.i64))), OSh.box (77 : Nat) [Sh.int IntKind.i64, Sh.int IntKind.i64, Sh.int IntKind.i64]] [((0 : Nat), TSh.at (Sh.ptr (1 : Nat) (0 : Nat))), ((2 : Nat), TSh.at (Sh.ptr (3 : Nat) (0 : Nat))), ((4 : Nat), TSh.at (Sh.ptr (5 : Nat) (0 : Nat))), ((5 : Nat), TSh.at (Sh.sl (7 : Nat))), ((6 : Nat), TSh.at (Sh.sl (8 : Nat))), ((7 : Nat), TSh.at (Sh.int IntKind.i64)), ((8 : Nat), TSh.at (Sh.int IntKind.i64)), ((9 : Nat), TSh.at (Sh.ptr (9 : Nat) (0 : Nat))), ((57 : Nat), TSh.at Sh.bool)]
noncomputable def f_spec_l1Cur_faulty_j57o : Spec := Spec.mk [OSh.ro, OSh.box (114 : Nat) [Sh.sl (2 : Nat), Sh.int IntKind.i64, Sh.int IntKind.u64], OSh.fx (Ty.int IntKind.u8), OSh.box (53 : Nat) [Sh.int IntKind.i64, Sh.int IntKind.i64, Sh.sl (4 : Nat)], OSh.row true (79 : Nat) (Ty.pair (Ty.int IntKind.i64) (Ty.int IntKind.i64)), OSh.box (53 : Nat) [Sh.int IntKind.i64, Sh.int IntKind.i64, Sh.sl (6 : Nat)], OSh.row true (79 : Nat) (Ty.pair (Ty.int IntKind.i64) (Ty.int IntKind.i64)), OSh.row true (77 : Nat) (Ty.pair (Ty.int IntKind.i64) (Ty.pair (Ty.int IntKind.i64) (Ty.int IntKind.i64))), OSh.row true (77 : Nat) (Ty.pair (Ty.int IntKind.i64) (Ty.pair (Ty.int IntKind.i64) (Ty.int IntKind.i64))), OSh.box (77 : Nat) [Sh.int IntKind.i64, Sh.int IntKind.i64, Sh.int IntKind.i64]] [((0 : Nat), TSh.at (Sh.ptr (1 : Nat) (0 : Nat))), ((2 : Nat), TSh.at (Sh.ptr (3 : Nat) (0 : Nat))), ((4 : Nat), TSh.at (Sh.ptr (5 : Nat) (0 : Nat))), ((5 : Nat), TSh.at (Sh.sl (7 : Nat))), ((6 : Nat), TSh.at (Sh.sl (8 : Nat))), ((7 : Nat), TSh.at (Sh.int IntKind.i64)), ((8 : Nat), TSh.at (Sh.int IntKind.i64)), ((9 : Nat), TSh.at (Sh.ptr (9 : Nat) (0 : Nat)))]
noncomputable def f_spec_l1Cur_faulty_j57D : LoopDef (Tup r_spec_l1Cur_faulty × OutD) := .plain f_spec_l1Cur_faulty_j57i f_spec_l1Cur_faulty_j57o (Int × Int × List Int × Int × Int × List (Int × Int) × Int × Int × List (Int × Int) × List (Int × Int × Int) × List (Int × Int × Int) × Int × Int × Int × Int × Int) (fun k x => f_spec_l1Cur_faulty_j57 k x.1.2.1.2.1 x.1.2.1.2.2.1 x.1.2.2.1 x.1.2.2.2.1.1 x.1.2.2.2.1.2.1 x.1.2.2.2.2.1 x.1.2.2.2.2.2.1.1 x.1.2.2.2.2.2.1.2.1 x.1.2.2.2.2.2.2.1 x.1.2.2.2.2.2.2.2.1 x.1.2.2.2.2.2.2.2.2.1 x.1.2.2.2.2.2.2.2.2.2.1.1 x.1.2.2.2.2.2.2.2.2.2.1.2.1 x.1.2.2.2.2.2.2.2.2.2.1.2.2.1 x.2.2.2.2.2.2.1 x.2.2.2.2.2.2.2.1 x.2.2.2.2.2.2.2.2.2.1) (fun z => (((), ((), z.1, z.2.1, ()), z.2.2.1, (z.2.2.2.1, z.2.2.2.2.1, (), ()), z.2.2.2.2.2.1, (z.2.2.2.2.2.2.1, z.2.2.2.2.2.2.2.1, (), ()), z.2.2.2.2.2.2.2.2.1, z.2.2.2.2.2.2.2.2.2.1, z.2.2.2.2.2.2.2.2.2.2.1, (z.2.2.2.2.2.2.2.2.2.2.2.1, z.2.2.2.2.2.2.2.2.2.2.2.2.1, z.2.2.2.2.2.2.2.2.2.2.2.2.2.1, ()), ()), ((), (), (), (), (), z.2.2.2.2.2.2.2.2.2.2.2.2.2.2.1, z.2.2.2.2.2.2.2.2.2.2.2.2.2.2.2, (), ()))) (fun y => (y.1.2.1.2.1, y.1.2.1.2.2.1, y.1.2.2.1, y.1.2.2.2.1.1, y.1.2.2.2.1.2.1, y.1.2.2.2.2.1, y.1.2.2.2.2.2.1.1, y.1.2.2.2.2.2.1.2.1, y.1.2.2.2.2.2.2.1, y.1.2.2.2.2.2.2.2.1, y.1.2.2.2.2.2.2.2.2.1, y.1.2.2.2.2.2.2.2.2.2.1.1, y.1.2.2.2.2.2.2.2.2.2.1.2.1, y.1.2.2.2.2.2.2.2.2.2.1.2.2.1, y.2.2.2.2.2.2.1, y.2.2.2.2.2.2.2.1)) (fun _ => rfl)
noncomputable def f_spec_l1Cur_faulty_2 : Nat → Int → Int → List Int → Int → Int → List (Int × Int) → Int → Int → List (Int × Int) → List (Int × Int × Int) → List (Int × Int × Int) → Int → Int → Int → Int → Int → Option (Int × Int × List Int × Int × Int × List (Int × Int) × Int × Int × List (Int × Int) × List (Int × Int × Int) × List (Int × Int × Int) × Int × Int)
  | 0, _, _, _, _, _, _, _, _, _, _, _, _, _, _, _, _ => none
  | k + 1, b1_1, b1_2, o2, b3_0, b3_1, o4, b5_0, b5_1, o6, o7, o8, b9_0, b9_1, b9_2, v7, v8 =>
    if decide (v8 < (↑(List.length o8) : Int)) = true then if (0 : Int) ≤ v8 then if v8 < (↑(List.length o8) : Int) then if decide (Prod.fst (Prod.snd (List.getD o8 (Int.toNat v8) ((0 : Int), (0 : Int), (0 : Int)))) < b9_1) = true then f_spec_l1Cur_faulty_2 k b1_1 b1_2 o2 b3_0 b3_1 o4 b5_0 b5_1 o6 o7 o8 b9_0 b9_1 b9_2 v7 (wrap64 (v8 + (1 : Int))) else if (0 : Int) ≤ v8 then if v8 < (↑(List.length o8) : Int) then if decide (Prod.fst (Prod.snd (List.getD o8 (Int.toNat v8) ((0 : Int), (0 : Int), (0 : Int)))) = b9_1) = true then if (0 : Int) ≤ v8 then if v8 < (↑(List.length o8) : Int) then if decide (Prod.snd (Prod.snd (List.getD o8 (Int.toNat v8) ((0 : Int), (0 : Int), (0 : Int)))) ≤ b9_2) = true then f_spec_l1Cur_faulty_2 k b1_1 b1_2 o2 b3_0 b3_1 o4 b5_0 b5_1 o6 o7 o8 b9_0 b9_1 b9_2 v7 (wrap64 (v8 + (1 : Int))) else some (b1_1, b1_2, o2, b3_0, b3_1, o4, b5_0, b5_1, o6, o7, o8, v7, v8) else none else none else some (b1_1, b1_2, o2, b3_0, b3_1, o4, b5_0, b5_1, o6, o7, o8, v7, v8) else none else none else none else none else some (b1_1, b1_2, o2, b3_0, b3_1, o4, b5_0, b5_1, o6, o7, o8, v7, v8)
noncomputable def f_spec_l1Cur_faulty_2i : Spec := Spec.mk [OSh.ro, OSh.box (114 : Nat) [Sh.sl (2 : Nat), Sh.int IntKind.i64, Sh.int IntKind.u64], OSh.fx (Ty.int IntKind.u8), OSh.box (53 : Nat) [Sh.int IntKind.i64, Sh.int IntKind.i64, Sh.sl (4 : Nat)], OSh.row true (79 : Nat) (Ty.pair (Ty.int IntKind.i64) (Ty.int IntKind.i64)), OSh.box (53 : Nat) [Sh.int IntKind.i64, Sh.int IntKind.i64, Sh.sl (6 : Nat)], OSh.row true (79 : Nat) (Ty.pair (Ty.int IntKind.i64) (Ty.int IntKind.i64)), OSh.row true (77 : Nat) (Ty.pair (Ty.int IntKind.i64) (Ty.pair (Ty.int IntKind.i64) (Ty.int IntKind.i64))), OSh.row true (77 : Nat) (Ty.pair (Ty.int IntKind.i64) (Ty.pair (Ty.int IntKind.i64) (Ty.int IntKind.i64))), OSh.box (77 : Nat) [Sh.int IntKind.i64, Sh.int IntKind.i64, Sh.int IntKind.i64]] [((0 : Nat), TSh.at (Sh.ptr (1 : Nat) (0 : Nat))), ((2 : Nat), TSh.at (Sh.ptr (3 : Nat) (0 : Nat))), ((4 : Nat), TSh.at (Sh.ptr (5 : Nat) (0 : Nat))), ((5 : Nat), TSh.at (Sh.sl (7 : Nat))), ((6 : Nat), TSh.at (Sh.sl (8 : Nat))), ((7 : Nat), TSh.at (Sh.int IntKind.i64)), ((8 : Nat), TSh.at (Sh.int IntKind.i64)), ((9 : Nat), TSh.at (Sh.ptr (9 : Nat) (0 : Nat)))]
noncomputable def f_spec_l1Cur_faulty_2o : Spec := Spec.mk [OSh.ro, OSh.box (114 : Nat) [Sh.sl (2 : Nat), Sh.int IntKind.i64, Sh.int IntKind.u64], OSh.fx (Ty.int IntKind.u8), OSh.box (53 : Nat) [Sh.int IntKind.i64, Sh.int IntKind.i64, Sh.sl (4 : Nat)], OSh.row true (79 : Nat) (Ty.pair (Ty.int IntKind.i64) (Ty.int IntKind.i64)), OSh.box (53 : Nat) [Sh.int IntKind.i64, Sh.int IntKind.i64, Sh.sl (6 : Nat)], OSh.row true (79 : Nat) (Ty.pair (Ty.int IntKind.i64) (Ty.int IntKind.i64)), OSh.row true (77 : Nat) (Ty.pair (Ty.int IntKind.i64) (Ty.pair (Ty.int IntKind.i64) (Ty.int IntKind.i64))), OSh.row true (77 : Nat) (Ty.pair (Ty.int IntKind.i64) (Ty.pair (Ty.int IntKind.i64) (Ty.int IntKind.i64)))] [((0 : Nat), TSh.at (Sh.ptr (1 : Nat) (0 : Nat))), ((2 : Nat), TSh.at (Sh.ptr (3 : Nat) (0 : Nat))), ((4 : Nat), TSh.at (Sh.ptr (5 : Nat) (0 : Nat))), ((5 : Nat), TSh.at (Sh.sl (7 : Nat))), ((6 : Nat), TSh.at (Sh.sl (8 : Nat))), ((7 : Nat), TSh.at (Sh.int IntKind.i64)), ((8 : Nat), TSh.at (Sh.int IntKind.i64))]
noncomputable def f_spec_l1Cur_faulty_2D : LoopDef (Tup r_spec_l1Cur_faulty × OutD) := .plain f_spec_l1Cur_faulty_2i f_spec_l1Cur_faulty_2o (Int × Int × List Int × Int × Int × List (Int × Int) × Int × Int × List (Int × Int) × List (Int × Int × Int) × List (Int × Int × Int) × Int × Int) (fun k x => f_spec_l1Cur_faulty_2 k x.1.2.1.2.1 x.1.2.1.2.2.1 x.1.2.2.1 x.1.2.2.2.1.1 x.1.2.2.2.1.2.1 x.1.2.2.2.2.1 x.1.2.2.2.2.2.1.1 x.1.2.2.2.2.2.1.2.1 x.1.2.2.2.2.2.2.1 x.1.2.2.2.2.2.2.2.1 x.1.2.2.2.2.2.2.2.2.1 x.1.2.2.2.2.2.2.2.2.2.1.1 x.1.2.2.2.2.2.2.2.2.2.1.2.1 x.1.2.2.2.2.2.2.2.2.2.1.2.2.1 x.2.2.2.2.2.2.1 x.2.2.2.2.2.2.2.1) (fun z => (((), ((), z.1, z.2.1, ()), z.2.2.1, (z.2.2.2.1, z.2.2.2.2.1, (), ()), z.2.2.2.2.2.1, (z.2.2.2.2.2.2.1, z.2.2.2.2.2.2.2.1, (), ()), z.2.2.2.2.2.2.2.2.1, z.2.2.2.2.2.2.2.2.2.1, z.2.2.2.2.2.2.2.2.2.2.1, ()), ((), (), (), (), (), z.2.2.2.2.2.2.2.2.2.2.2.1, z.2.2.2.2.2.2.2.2.2.2.2.2, ()))) (fun y => (y.1.2.1.2.1, y.1.2.1.2.2.1, y.1.2.2.1, y.1.2.2.2.1.1, y.1.2.2.2.1.2.1, y.1.2.2.2.2.1, y.1.2.2.2.2.2.1.1, y.1.2.2.2.2.2.1.2.1, y.1.2.2.2.2.2.2.1, y.1.2.2.2.2.2.2.2.1, y.1.2.2.2.2.2.2.2.2.1, y.2.2.2.2.2.2.1, y.2.2.2.2.2.2.2.1)) (fun _ => rfl)
noncomputable def f_spec_l1Cur_faulty_0 : Nat → Int → Int → List Int → Int → Int → List (Int × Int) → Int → Int → List (Int × Int) → List (Int × Int × Int) → List (Int × Int × Int) → Int → Int → Option (Int × Int × List Int × Int × Int × List (Int × Int) × Int × Int × List (Int × Int) × List (Int × Int × Int))
  | 0, _, _, _, _, _, _, _, _, _, _, _, _, _ => none
  | k + 1, b1_1, b1_2, o2, b3_0, b3_1, o4, b5_0, b5_1, o6, o7, o8, v7, v8 =>
    if decide ((↑(List.length o7) : Int) < v7) = true then if decide (v8 < (↑(List.length o8) : Int)) = true then Option.bind (f_spec_l1Cur_pick k (o2, b1_1, b1_2) (wrap64 ((↑(List.length o8) : Int) - v8))) fun z13 => if (0 : Int) ≤ wrap64 (v8 + Prod.fst z13) then if wrap64 (v8 + Prod.fst z13) < (↑(List.length o8) : Int) then Option.bind (f_spec_l1Cur_faulty_j57 k (Prod.fst (Prod.snd z13)) (Prod.snd (Prod.snd z13)) o2 b3_0 b3_1 o4 b5_0 b5_1 o6 o7 o8 (Prod.fst (List.getD o8 (Int.toNat (wrap64 (v8 + Prod.fst z13))) ((0 : Int), (0 : Int), (0 : Int)))) (Prod.fst (Prod.snd (List.getD o8 (Int.toNat (wrap64 (v8 + Prod.fst z13))) ((0 : Int), (0 : Int), (0 : Int))))) (Prod.snd (Prod.snd (List.getD o8 (Int.toNat (wrap64 (v8 + Prod.fst z13))) ((0 : Int), (0 : Int), (0 : Int))))) v7 v8 (decide (v7 ≥ (4 : Int)))) fun z14 => if List.length (Prod.fst (Prod.snd (Prod.snd (Prod.snd (Prod.snd (Prod.snd (Prod.snd (Prod.snd (Prod.snd (Prod.snd z14)))))))))) + List.length [(Prod.fst (Prod.snd (Prod.snd (Prod.snd (Prod.snd (Prod.snd (Prod.snd (Prod.snd (Prod.snd (Prod.snd (Prod.snd (Prod.snd z14))))))))))), Prod.fst (Prod.snd (Prod.snd (Prod.snd (Prod.snd (Prod.snd (Prod.snd (Prod.snd (Prod.snd (Prod.snd (Prod.snd (Prod.snd (Prod.snd z14)))))))))))), Prod.fst (Prod.snd (Prod.snd (Prod.snd (Prod.snd (Prod.snd (Prod.snd (Prod.snd (Prod.snd (Prod.snd (Prod.snd (Prod.snd (Prod.snd (Prod.snd z14))))))))))))))] ≤ (140737488355328 / 24 : Nat) then Option.bind (f_spec_l1Cur_faulty_2 k (Prod.fst z14) (Prod.fst (Prod.snd z14)) (Prod.fst (Prod.snd (Prod.snd z14))) (Prod.fst (Prod.snd (Prod.snd (Prod.snd z14)))) (Prod.fst (Prod.snd (Prod.snd (Prod.snd (Prod.snd z14))))) (Prod.fst (Prod.snd (Prod.snd (Prod.snd (Prod.snd (Prod.snd z14)))))) (Prod.fst (Prod.snd (Prod.snd (Prod.snd (Prod.snd (Prod.snd (Prod.snd z14))))))) (Prod.fst (Prod.snd (Prod.snd (Prod.snd (Prod.snd (Prod.snd (Prod.snd (Prod.snd z14)))))))) (Prod.fst (Prod.snd (Prod.snd (Prod.snd (Prod.snd (Prod.snd (Prod.snd (Prod.snd (Prod.snd z14))))))))) (Prod.fst (Prod.snd (Prod.snd (Prod.snd (Prod.snd (Prod.snd (Prod.snd (Prod.snd (Prod.snd (Prod.snd z14))))))))) ++ [(Prod.fst (Prod.snd (Prod.snd (Prod.snd (Prod.snd (Prod.snd (Prod.snd (Prod.snd (Prod.snd (Prod.snd (Prod.snd (Prod.snd z14))))))))))), Prod.fst (Prod.snd (Prod.snd (Prod.snd (Prod.snd (Prod.snd (Prod.snd (Prod.snd (Prod.snd (Prod.snd (Prod.snd (Prod.snd (Prod.snd z14)))))))))))), Prod.fst (Prod.snd (Prod.snd (Prod.snd (Prod.snd (Prod.snd (Prod.snd (Prod.snd (Prod.snd (Prod.snd (Prod.snd (Prod.snd (Prod.snd (Prod.snd z14))))))))))))))]) (Prod.fst (Prod.snd (Prod.snd (Prod.snd (Prod.snd (Prod.snd (Prod.snd (Prod.snd (Prod.snd (Prod.snd (Prod.snd z14))))))))))) (Prod.fst (Prod.snd (Prod.snd (Prod.snd (Prod.snd (Prod.snd (Prod.snd (Prod.snd (Prod.snd (Prod.snd (Prod.snd (Prod.snd z14)))))))))))) (Prod.fst (Prod.snd (Prod.snd (Prod.snd (Prod.snd (Prod.snd (Prod.snd (Prod.snd (Prod.snd (Prod.snd (Prod.snd (Prod.snd (Prod.snd z14))))))))))))) (Prod.fst (Prod.snd (Prod.snd (Prod.snd (Prod.snd (Prod.snd (Prod.snd (Prod.snd (Prod.snd (Prod.snd (Prod.snd (Prod.snd (Prod.snd (Prod.snd z14)))))))))))))) (Prod.fst (Prod.snd (Prod.snd (Prod.snd (Prod.snd (Prod.snd (Prod.snd (Prod.snd (Prod.snd (Prod.snd (Prod.snd (Prod.snd (Prod.snd (Prod.snd (Prod.snd z14))))))))))))))) (Prod.snd (Prod.snd (Prod.snd (Prod.snd (Prod.snd (Prod.snd (Prod.snd (Prod.snd (Prod.snd (Prod.snd (Prod.snd (Prod.snd (Prod.snd (Prod.snd (Prod.snd z14)))))))))))))))) fun z15 => f_spec_l1Cur_faulty_0 k (Prod.fst z15) (Prod.fst (Prod.snd z15)) (Prod.fst (Prod.snd (Prod.snd z15))) (Prod.fst (Prod.snd (Prod.snd (Prod.snd z15)))) (Prod.fst (Prod.snd (Prod.snd (Prod.snd (Prod.snd z15))))) (Prod.fst (Prod.snd (Prod.snd (Prod.snd (Prod.snd (Prod.snd z15)))))) (Prod.fst (Prod.snd (Prod.snd (Prod.snd (Prod.snd (Prod.snd (Prod.snd z15))))))) (Prod.fst (Prod.snd (Prod.snd (Prod.snd (Prod.snd (Prod.snd (Prod.snd (Prod.snd z15)))))))) (Prod.fst (Prod.snd (Prod.snd (Prod.snd (Prod.snd (Prod.snd (Prod.snd (Prod.snd (Prod.snd z15))))))))) (Prod.fst (Prod.snd (Prod.snd (Prod.snd (Prod.snd (Prod.snd (Prod.snd (Prod.snd (Prod.snd (Prod.snd z15)))))))))) (Prod.fst (Prod.snd (Prod.snd (Prod.snd (Prod.snd (Prod.snd (Prod.snd (Prod.snd (Prod.snd (Prod.snd (Prod.snd z15))))))))))) (Prod.fst (Prod.snd (Prod.snd (Prod.snd (Prod.snd (Prod.snd (Prod.snd (Prod.snd (Prod.snd (Prod.snd (Prod.snd (Prod.snd z15)))))))))))) (Prod.snd (Prod.snd (Prod.snd (Prod.snd (Prod.snd (Prod.snd (Prod.snd (Prod.snd (Prod.snd (Prod.snd (Prod.snd (Prod.snd z15)))))))))))) else none else none else none else some (b1_1, b1_2, o2, b3_0, b3_1, o4, b5_0, b5_1, o6, o7) else some (b1_1, b1_2, o2, b3_0, b3_1, o4, b5_0, b5_1, o6, o7)
noncomputable def f_spec_l1Cur_faulty_0i : Spec := Spec.mk [OSh.ro, OSh.box (114 : Nat) [Sh.sl (2 : Nat), Sh.int IntKind.i64, Sh.int IntKind.u64], OSh.fx (Ty.int IntKind.u8), OSh.box (53 : Nat) [Sh.int IntKind.i64, Sh.int IntKind.i64, Sh.sl (4 : Nat)], OSh.row true (79 : Nat) (Ty.pair (Ty.int IntKind.i64) (Ty.int IntKind.i64)), OSh.box (53 : Nat) [Sh.int IntKind.i64, Sh.int IntKind.i64, Sh.sl (6 : Nat)], OSh.row true (79 : Nat) (Ty.pair (Ty.int IntKind.i64) (Ty.int IntKind.i64)), OSh.row true (77 : Nat) (Ty.pair (Ty.int IntKind.i64) (Ty.pair (Ty.int IntKind.i64) (Ty.int IntKind.i64))), OSh.row true (77 : Nat) (Ty.pair (Ty.int IntKind.i64) (Ty.pair (Ty.int IntKind.i64) (Ty.int IntKind.i64)))] [((0 : Nat), TSh.at (Sh.ptr (1 : Nat) (0 : Nat))), ((2 : Nat), TSh.at (Sh.ptr (3 : Nat) (0 : Nat))), ((4 : Nat), TSh.at (Sh.ptr (5 : Nat) (0 : Nat))), ((5 : Nat), TSh.at (Sh.sl (7 : Nat))), ((6 : Nat), TSh.at (Sh.sl (8 : Nat))), ((7 : Nat), TSh.at (Sh.int IntKind.i64)), ((8 : Nat), TSh.at (Sh.int IntKind.i64))]
noncomputable def f_spec_l1Cur_faulty_0o : Spec := Spec.mk [OSh.ro, OSh.box (114 : Nat) [Sh.sl (2 : Nat), Sh.int IntKind.i64, Sh.int IntKind.u64], OSh.fx (Ty.int IntKind.u8), OSh.box (53 : Nat) [Sh.int IntKind.i64, Sh.int IntKind.i64, Sh.sl (4 : Nat)], OSh.row true (79 : Nat) (Ty.pair (Ty.int IntKind.i64) (Ty.int IntKind.i64)), OSh.box (53 : Nat) [Sh.int IntKind.i64, Sh.int IntKind.i64, Sh.sl (6 : Nat)], OSh.row true (79 : Nat) (Ty.pair (Ty.int IntKind.i64) (Ty.int IntKind.i64)), OSh.row true (77 : Nat) (Ty.pair (Ty.int IntKind.i64) (Ty.pair (Ty.int IntKind.i64) (Ty.int IntKind.i64)))] [((0 : Nat), TSh.at (Sh.ptr (1 : Nat) (0 : Nat))), ((2 : Nat), TSh.at (Sh.ptr (3 : Nat) (0 : Nat))), ((4 : Nat), TSh.at (Sh.ptr (5 : Nat) (0 : Nat))), ((5 : Nat), TSh.at (Sh.sl (7 : Nat)))]
noncomputable def f_spec_l1Cur_faulty_0D : LoopDef (Tup r_spec_l1Cur_faulty × OutD) := .plain f_spec_l1Cur_faulty_0i f_spec_l1Cur_faulty_0o (Int × Int × List Int × Int × Int × List (Int × Int) × Int × Int × List (Int × Int) × List (Int × Int × Int)) (fun k x => f_spec_l1Cur_faulty_0 k x.1.2.1.2.1 x.1.2.1.2.2.1 x.1.2.2.1 x.1.2.2.2.1.1 x.1.2.2.2.1.2.1 x.1.2.2.2.2.1 x.1.2.2.2.2.2.1.1 x.1.2.2.2.2.2.1.2.1 x.1.2.2.2.2.2.2.1 x.1.2.2.2.2.2.2.2.1 x.1.2.2.2.2.2.2.2.2.1 x.2.2.2.2.2.2.1 x.2.2.2.2.2.2.2.1) (fun z => (((), ((), z.1, z.2.1, ()), z.2.2.1, (z.2.2.2.1, z.2.2.2.2.1, (), ()), z.2.2.2.2.2.1, (z.2.2.2.2.2.2.1, z.2.2.2.2.2.2.2.1, (), ()), z.2.2.2.2.2.2.2.2.1, z.2.2.2.2.2.2.2.2.2, ()), ((), (), (), (), ()))) (fun y => (y.1.2.1.2.1, y.1.2.1.2.2.1, y.1.2.2.1, y.1.2.2.2.1.1, y.1.2.2.2.1.2.1, y.1.2.2.2.2.1, y.1.2.2.2.2.2.1.1, y.1.2.2.2.2.2.1.2.1, y.1.2.2.2.2.2.2.1, y.1.2.2.2.2.2.2.2.1)) (fun _ => rfl)
noncomputable def f_spec_l1Cur_faulty : Nat → List Int × Int × Int → Option ((Int × Int × List (Int × Int)) × List (Int × Int × Int) × Int × Int)
  | 0, _ => none
  | k + 1, p0 =>
    Option.bind (f_spec_l1Cur_anyBoard k (Prod.fst p0, Prod.fst (Prod.snd p0), Prod.snd (Prod.snd p0))) fun z0 => Option.bind (f_spec_l1Cur_one k (Prod.fst p0, Prod.fst (Prod.snd z0), Prod.snd (Prod.snd z0)) (3 : Int)) fun z1 => Option.bind (f_spec_l1Cur_faulty_j14 k (Prod.fst (Prod.snd z1)) (Prod.snd (Prod.snd z1)) (Prod.fst p0) (0 : Int) (0 : Int) [] (Prod.fst (Prod.fst z0)) (Prod.fst (Prod.snd (Prod.fst z0))) (Prod.snd (Prod.snd (Prod.fst z0))) (Prod.fst z1)) fun z3 => Option.bind (f_spec_l1Cur_one k (Prod.fst (Prod.snd (Prod.snd z3)), Prod.fst z3, Prod.fst (Prod.snd z3)) (4 : Int)) fun z4 => Option.bind (f_spec_l1Cur_faulty_j18 k (Prod.fst (Prod.snd z4)) (Prod.snd (Prod.snd z4)) (Prod.fst (Prod.snd (Prod.snd z3))) (Prod.fst (Prod.snd (Prod.snd (Prod.snd z3)))) (Prod.fst (Prod.snd (Prod.snd (Prod.snd (Prod.snd z3))))) (Prod.fst (Prod.snd (Prod.snd (Prod.snd (Prod.snd (Prod.snd z3)))))) (Prod.fst (Prod.snd (Prod.snd (Prod.snd (Prod.snd (Prod.snd (Prod.snd z3))))))) (Prod.fst (Prod.snd (Prod.snd (Prod.snd (Prod.snd (Prod.snd (Prod.snd (Prod.snd z3)))))))) (Prod.snd (Prod.snd (Prod.snd (Prod.snd (Prod.snd (Prod.snd (Prod.snd (Prod.snd z3)))))))) (Prod.fst z4)) fun z6 => Option.bind (f_spec_boGood k (Prod.fst (Prod.snd (Prod.snd (Prod.snd (Prod.snd (Prod.snd (Prod.snd z6)))))), Prod.fst (Prod.snd (Prod.snd (Prod.snd (Prod.snd (Prod.snd (Prod.snd (Prod.snd z6))))))), Prod.snd (Prod.snd (Prod.snd (Prod.snd (Prod.snd (Prod.snd (Prod.snd (Prod.snd z6))))))))) fun z7 => if (!z7) = true then some ((Prod.fst (Prod.snd (Prod.snd (Prod.snd (Prod.snd (Prod.snd (Prod.snd z6)))))), Prod.fst (Prod.snd (Prod.snd (Prod.snd (Prod.snd (Prod.snd (Prod.snd (Prod.snd z6))))))), Prod.snd (Prod.snd (Prod.snd (Prod.snd (Prod.snd (Prod.snd (Prod.snd (Prod.snd z6)))))))), [], Prod.fst z6, Prod.fst (Prod.snd z6)) else Option.bind (f_spec_faPossible k (Prod.fst (Prod.snd (Prod.snd (Prod.snd (Prod.snd (Prod.snd (Prod.snd z6)))))), Prod.fst (Prod.snd (Prod.snd (Prod.snd (Prod.snd (Prod.snd (Prod.snd (Prod.snd z6))))))), Prod.snd (Prod.snd (Prod.snd (Prod.snd (Prod.snd (Prod.snd (Prod.snd (Prod.snd z6))))))))) fun z8 => Option.bind (f_spec_l1Cur_among k (Prod.fst (Prod.snd (Prod.snd z6)), Prod.fst z6, Prod.fst (Prod.snd z6)) [(0 : Int), (1 : Int), (1 : Int), (2 : Int), (3 : Int)]) fun z9 => Option.bind (f_spec_l1Cur_one k (Prod.fst (Prod.snd (Prod.snd z6)), Prod.fst (Prod.snd z9), Prod.snd (Prod.snd z9)) (20 : Int)) fun z10 => Option.bind (f_spec_l1Cur_faulty_j31 k (Prod.fst (Prod.snd z10)) (Prod.snd (Prod.snd z10)) (Prod.fst (Prod.snd (Prod.snd z6))) (Prod.fst (Prod.snd (Prod.snd (Prod.snd z6)))) (Prod.fst (Prod.snd (Prod.snd (Prod.snd (Prod.snd z6))))) (Prod.fst (Prod.snd (Prod.snd (Prod.snd (Prod.snd (Prod.snd z6)))))) (Prod.fst (Prod.snd (Prod.snd (Prod.snd (Prod.snd (Prod.snd (Prod.snd z6))))))) (Prod.fst (Prod.snd (Prod.snd (Prod.snd (Prod.snd (Prod.snd (Prod.snd (Prod.snd z6)))))))) (Prod.snd (Prod.snd (Prod.snd (Prod.snd (Prod.snd (Prod.snd (Prod.snd (Prod.snd z6)))))))) [] z8 (Prod.fst z9) (Prod.fst z10)) fun z12 => Option.bind (f_spec_l1Cur_faulty_0 k (Prod.fst z12) (Prod.fst (Prod.snd z12)) (Prod.fst (Prod.snd (Prod.snd z12))) (Prod.fst (Prod.snd (Prod.snd (Prod.snd z12)))) (Prod.fst (Prod.snd (Prod.snd (Prod.snd (Prod.snd z12))))) (Prod.fst (Prod.snd (Prod.snd (Prod.snd (Prod.snd (Prod.snd z12)))))) (Prod.fst (Prod.snd (Prod.snd (Prod.snd (Prod.snd (Prod.snd (Prod.snd z12))))))) (Prod.fst (Prod.snd (Prod.snd (Prod.snd (Prod.snd (Prod.snd (Prod.snd (Prod.snd z12)))))))) (Prod.fst (Prod.snd (Prod.snd (Prod.snd (Prod.snd (Prod.snd (Prod.snd (Prod.snd (Prod.snd z12))))))))) (Prod.fst (Prod.snd (Prod.snd (Prod.snd (Prod.snd (Prod.snd (Prod.snd (Prod.snd (Prod.snd (Prod.snd z12)))))))))) (Prod.fst (Prod.snd (Prod.snd (Prod.snd (Prod.snd (Prod.snd (Prod.snd (Prod.snd (Prod.snd (Prod.snd (Prod.snd z12))))))))))) (Prod.snd (Prod.snd (Prod.snd (Prod.snd (Prod.snd (Prod.snd (Prod.snd (Prod.snd (Prod.snd (Prod.snd (Prod.snd z12))))))))))) (0 : Int)) fun z16 => if decide ((↑(List.length (Prod.snd (Prod.snd (Prod.snd (Prod.snd (Prod.snd (Prod.snd (Prod.snd (Prod.snd (Prod.snd z16)))))))))) : Int) > (0 : Int)) = true then Option.bind (f_spec_l1Cur_pick k (Prod.fst (Prod.snd (Prod.snd z16)), Prod.fst z16, Prod.fst (Prod.snd z16)) (↑(List.length (Prod.snd (Prod.snd (Prod.snd (Prod.snd (Prod.snd (Prod.snd (Prod.snd (Prod.snd (Prod.snd z16)))))))))) : Int)) fun z17 => if (0 : Int) ≤ Prod.fst z17 then if Prod.fst z17 < (↑(List.length (Prod.snd (Prod.snd (Prod.snd (Prod.snd (Prod.snd (Prod.snd (Prod.snd (Prod.snd (Prod.snd z16)))))))))) : Int) then Option.bind (f_spec_l1Cur_pick k (Prod.fst (Prod.snd (Prod.snd z16)), Prod.fst (Prod.snd z17), Prod.snd (Prod.snd z17)) (24 : Int)) fun z18 => if decide (Prod.fst z18 = (0 : Int)) = true then Option.bind (f_spec_l1Cur_among k (Prod.fst (Prod.snd (Prod.snd z16)), Prod.fst (Prod.snd z18), Prod.snd (Prod.snd z18)) [(0 : Int), (1 : Int), (3 : Int), (4 : Int)]) fun z19 => some ((Prod.fst (Prod.snd (Prod.snd (Prod.snd (Prod.snd (Prod.snd (Prod.snd z16)))))), Prod.fst (Prod.snd (Prod.snd (Prod.snd (Prod.snd (Prod.snd (Prod.snd (Prod.snd z16))))))), Prod.fst (Prod.snd (Prod.snd (Prod.snd (Prod.snd (Prod.snd (Prod.snd (Prod.snd (Prod.snd z16))))))))), List.set (Prod.snd (Prod.snd (Prod.snd (Prod.snd (Prod.snd (Prod.snd (Prod.snd (Prod.snd (Prod.snd z16))))))))) (Int.toNat (Prod.fst z17)) (Prod.fst z19, Prod.snd (List.getD (Prod.snd (Prod.snd (Prod.snd (Prod.snd (Prod.snd (Prod.snd (Prod.snd (Prod.snd (Prod.snd z16))))))))) (Int.toNat (Prod.fst z17)) ((0 : Int), (0 : Int), (0 : Int)))), Prod.fst (Prod.snd z19), Prod.snd (Prod.snd z19)) else if decide (Prod.fst z18 = (1 : Int)) = true then Option.bind (f_spec_l1Cur_among k (Prod.fst (Prod.snd (Prod.snd z16)), Prod.fst (Prod.snd z18), Prod.snd (Prod.snd z18)) [(-1 : Int), Prod.fst (Prod.snd (Prod.snd (Prod.snd (Prod.snd (Prod.snd (Prod.snd z16)))))), (0 : Int)]) fun z20 => some ((Prod.fst (Prod.snd (Prod.snd (Prod.snd (Prod.snd (Prod.snd (Prod.snd z16)))))), Prod.fst (Prod.snd (Prod.snd (Prod.snd (Prod.snd (Prod.snd (Prod.snd (Prod.snd z16))))))), Prod.fst (Prod.snd (Prod.snd (Prod.snd (Prod.snd (Prod.snd (Prod.snd (Prod.snd (Prod.snd z16))))))))), List.set (Prod.snd (Prod.snd (Prod.snd (Prod.snd (Prod.snd (Prod.snd (Prod.snd (Prod.snd (Prod.snd z16))))))))) (Int.toNat (Prod.fst z17)) (Prod.fst (List.getD (Prod.snd (Prod.snd (Prod.snd (Prod.snd (Prod.snd (Prod.snd (Prod.snd (Prod.snd (Prod.snd z16))))))))) (Int.toNat (Prod.fst z17)) ((0 : Int), (0 : Int), (0 : Int))), Prod.fst z20, Prod.snd (Prod.snd (List.getD (Prod.snd (Prod.snd (Prod.snd (Prod.snd (Prod.snd (Prod.snd (Prod.snd (Prod.snd (Prod.snd z16))))))))) (Int.toNat (Prod.fst z17)) ((0 : Int), (0 : Int), (0 : Int))))), Prod.fst (Prod.snd z20), Prod.snd (Prod.snd z20)) else if decide (Prod.fst z18 = (2 : Int)) = true then Option.bind (f_spec_l1Cur_among k (Prod.fst (Prod.snd (Prod.snd z16)), Prod.fst (Prod.snd z18), Prod.snd (Prod.snd z18)) [(-1 : Int), Prod.fst (Prod.snd (Prod.snd (Prod.snd (Prod.snd (Prod.snd (Prod.snd (Prod.snd z16))))))), (0 : Int)]) fun z21 => some ((Prod.fst (Prod.snd (Prod.snd (Prod.snd (Prod.snd (Prod.snd (Prod.snd z16)))))), Prod.fst (Prod.snd (Prod.snd (Prod.snd (Prod.snd (Prod.snd (Prod.snd (Prod.snd z16))))))), Prod.fst (Prod.snd (Prod.snd (Prod.snd (Prod.snd (Prod.snd (Prod.snd (Prod.snd (Prod.snd z16))))))))), List.set (Prod.snd (Prod.snd (Prod.snd (Prod.snd (Prod.snd (Prod.snd (Prod.snd (Prod.snd (Prod.snd z16))))))))) (Int.toNat (Prod.fst z17)) (Prod.fst (List.getD (Prod.snd (Prod.snd (Prod.snd (Prod.snd (Prod.snd (Prod.snd (Prod.snd (Prod.snd (Prod.snd z16))))))))) (Int.toNat (Prod.fst z17)) ((0 : Int), (0 : Int), (0 : Int))), Prod.fst (Prod.snd (List.getD (Prod.snd (Prod.snd (Prod.snd (Prod.snd (Prod.snd (Prod.snd (Prod.snd (Prod.snd (Prod.snd z16))))))))) (Int.toNat (Prod.fst z17)) ((0 : Int), (0 : Int), (0 : Int)))), Prod.fst z21), Prod.fst (Prod.snd z21), Prod.snd (Prod.snd z21)) else some ((Prod.fst (Prod.snd (Prod.snd (Prod.snd (Prod.snd (Prod.snd (Prod.snd z16)))))), Prod.fst (Prod.snd (Prod.snd (Prod.snd (Prod.snd (Prod.snd (Prod.snd (Prod.snd z16))))))), Prod.fst (Prod.snd (Prod.snd (Prod.snd (Prod.snd (Prod.snd (Prod.snd (Prod.snd (Prod.snd z16))))))))), Prod.snd (Prod.snd (Prod.snd (Prod.snd (Prod.snd (Prod.snd (Prod.snd (Prod.snd (Prod.snd z16)))))))), Prod.fst (Prod.snd z18), Prod.snd (Prod.snd z18)) else none else none else some ((Prod.fst (Prod.snd (Prod.snd (Prod.snd (Prod.snd (Prod.snd (Prod.snd z16)))))), Prod.fst (Prod.snd (Prod.snd (Prod.snd (Prod.snd (Prod.snd (Prod.snd (Prod.snd z16))))))), Prod.fst (Prod.snd (Prod.snd (Prod.snd (Prod.snd (Prod.snd (Prod.snd (Prod.snd (Prod.snd z16))))))))), Prod.snd (Prod.snd (Prod.snd (Prod.snd (Prod.snd (Prod.snd (Prod.snd (Prod.snd (Prod.snd z16)))))))), Prod.fst z16, Prod.fst (Prod.snd z16))
noncomputable def d_spec_l1Cur_faulty : FnDef := .of q_spec_l1Cur_faulty r_spec_l1Cur_faulty ((Int × Int × List (Int × Int)) × List (Int × Int × Int) × Int × Int) (fun k x => f_spec_l1Cur_faulty k x.1) to_spec_l1Cur_faulty of_spec_l1Cur_faulty to_of_spec_l1Cur_faulty
noncomputable def c_spec_l1Cur_faulty : Code := Try.f116.body.getD .skip
noncomputable def x_spec_l1Cur_faulty : Ctx (Tup r_spec_l1Cur_faulty × OutD) := { T := T, G := [(177, d_spec_l1Cur_anyBoard.E), (150, d_spec_l1Cur_one.E), (178, d_spec_l1Cur_counted.E), (179, d_spec_l1Cur_geared.E), (133, d_spec_boGood.E), (148, d_spec_faPossible.E), (90, d_spec_l1Cur_among.E), (111, d_spec_l1Cur_pick.E)], mvs := [], no := 2, n := 143, res := resOf T q_spec_l1Cur_faulty r_spec_l1Cur_faulty Try.f116.results.toList, loops := [(2, f_spec_l1Cur_faulty_2D.E), (0, f_spec_l1Cur_faulty_0D.E)], regs := [], conds := [(14, f_spec_l1Cur_faulty_j14D.E), (18, f_spec_l1Cur_faulty_j18D.E), (31, f_spec_l1Cur_faulty_j31D.E), (57, f_spec_l1Cur_faulty_j57D.E)] }
theorem g_spec_l1Cur_faulty (k : Nat) : EnvOK Try.prog k x_spec_l1Cur_faulty.G := (EnvOK.cons (s_spec_l1Cur_anyBoard k) (EnvOK.cons (s_spec_l1Cur_one k) (EnvOK.cons (s_spec_l1Cur_counted k) (EnvOK.cons (s_spec_l1Cur_geared k) (EnvOK.cons (s_spec_boGood k) (EnvOK.cons (s_spec_faPossible k) (EnvOK.cons (s_spec_l1Cur_among k) (EnvOK.cons (s_spec_l1Cur_pick k) (EnvOK.nil mixed)))))))))
noncomputable def f_spec_l1Cur_faulty_j14X : Code := ((findCond 14 c_spec_l1Cur_faulty).map (·.1)).getD .skip
noncomputable def f_spec_l1Cur_faulty_j14Y : Code := ((findCond 14 c_spec_l1Cur_faulty).map (·.2)).getD .skip
theorem f_spec_l1Cur_faulty_j14h (k : Nat) (i : f_spec_l1Cur_faulty_j14D.inp.D) : f_spec_l1Cur_faulty_j14D.lp k i = branch (f_spec_l1Cur_faulty_j14D.inp.st x_spec_l1Cur_faulty.n i) (.tmp 14) (fun st => exec x_spec_l1Cur_faulty k f_spec_l1Cur_faulty_j14X st (outK x_spec_l1Cur_faulty f_spec_l1Cur_faulty_j14D) (fun _ _ => none) f_spec_l1Cur_faulty_j14D.mkB) (fun st => exec x_spec_l1Cur_faulty k f_spec_l1Cur_faulty_j14Y st (outK x_spec_l1Cur_faulty f_spec_l1Cur_faulty_j14D) (fun _ _ => none) f_spec_l1Cur_faulty_j14D.mkB) := by kernel_rfl
theorem f_spec_l1Cur_faulty_j14ok (k : Nat) : EOK Try.prog x_spec_l1Cur_faulty k f_spec_l1Cur_faulty_j14D.E (.cond (.tmp 14) f_spec_l1Cur_faulty_j14X f_spec_l1Cur_faulty_j14Y) := join_ok (D := f_spec_l1Cur_faulty_j14D) T_ok (g_spec_l1Cur_faulty k) (f_spec_l1Cur_faulty_j14h k) (@LOK.by _ _ _ _ f_spec_l1Cur_faulty_j14X [] (by kernel_rfl) AllOK.nil) (@LOK.by _ _ _ _ f_spec_l1Cur_faulty_j14Y [] (by kernel_rfl) AllOK.nil)
noncomputable def f_spec_l1Cur_faulty_j18X : Code := ((findCond 18 c_spec_l1Cur_faulty).map (·.1)).getD .skip
noncomputable def f_spec_l1Cur_faulty_j18Y : Code := ((findCond 18 c_spec_l1Cur_faulty).map (·.2)).getD .skip
theorem f_spec_l1Cur_faulty_j18h (k : Nat) (i : f_spec_l1Cur_faulty_j18D.inp.D) : f_spec_l1Cur_faulty_j18D.lp k i = branch (f_spec_l1Cur_faulty_j18D.inp.st x_spec_l1Cur_faulty.n i) (.tmp 18) (fun st => exec x_spec_l1Cur_faulty k f_spec_l1Cur_faulty_j18X st (outK x_spec_l1Cur_faulty f_spec_l1Cur_faulty_j18D) (fun _ _ => none) f_spec_l1Cur_faulty_j18D.mkB) (fun st => exec x_spec_l1Cur_faulty k f_spec_l1Cur_faulty_j18Y st (outK x_spec_l1Cur_faulty f_spec_l1Cur_faulty_j18D) (fun _ _ => none) f_spec_l1Cur_faulty_j18D.mkB) := by kernel_rfl
theorem f_spec_l1Cur_faulty_j18ok (k : Nat) : EOK Try.prog x_spec_l1Cur_faulty k f_spec_l1Cur_faulty_j18D.E (.cond (.tmp 18) f_spec_l1Cur_faulty_j18X f_spec_l1Cur_faulty_j18Y) := join_ok (D := f_spec_l1Cur_faulty_j18D) T_ok (g_spec_l1Cur_faulty k) (f_spec_l1Cur_faulty_j18h k) (@LOK.by _ _ _ _ f_spec_l1Cur_faulty_j18X [] (by kernel_rfl) AllOK.nil) (@LOK.by _ _ _ _ f_spec_l1Cur_faulty_j18Y [] (by kernel_rfl) AllOK.nil)
noncomputable def f_spec_l1Cur_faulty_j31X : Code := ((findCond 31 c_spec_l1Cur_faulty).map (·.1)).getD .skip
noncomputable def f_spec_l1Cur_faulty_j31Y : Code := ((findCond 31 c_spec_l1Cur_faulty).map (·.2)).getD .skip
theorem f_spec_l1Cur_faulty_j31h (k : Nat) (i : f_spec_l1Cur_faulty_j31D.inp.D) : f_spec_l1Cur_faulty_j31D.lp k i = branch (f_spec_l1Cur_faulty_j31D.inp.st x_spec_l1Cur_faulty.n i) (.tmp 31) (fun st => exec x_spec_l1Cur_faulty k f_spec_l1Cur_faulty_j31X st (outK x_spec_l1Cur_faulty f_spec_l1Cur_faulty_j31D) (fun _ _ => none) f_spec_l1Cur_faulty_j31D.mkB) (fun st => exec x_spec_l1Cur_faulty k f_spec_l1Cur_faulty_j31Y st (outK x_spec_l1Cur_faulty f_spec_l1Cur_faulty_j31D) (fun _ _ => none) f_spec_l1Cur_faulty_j31D.mkB) := by kernel_rfl
theorem f_spec_l1Cur_faulty_j31ok (k : Nat) : EOK Try.prog x_spec_l1Cur_faulty k f_spec_l1Cur_faulty_j31D.E (.cond (.tmp 31) f_spec_l1Cur_faulty_j31X f_spec_l1Cur_faulty_j31Y) := join_ok (D := f_spec_l1Cur_faulty_j31D) T_ok (g_spec_l1Cur_faulty k) (f_spec_l1Cur_faulty_j31h k) (@LOK.by _ _ _ _ f_spec_l1Cur_faulty_j31X [] (by kernel_rfl) AllOK.nil) (@LOK.by _ _ _ _ f_spec_l1Cur_faulty_j31Y [] (by kernel_rfl) AllOK.nil)
noncomputable def f_spec_l1Cur_faulty_j57X : Code := ((findCond 57 c_spec_l1Cur_faulty).map (·.1)).getD .skip
noncomputable def f_spec_l1Cur_faulty_j57Y : Code := ((findCond 57 c_spec_l1Cur_faulty).map (·.2)).getD .skip
theorem f_spec_l1Cur_faulty_j57h (k : Nat) (i : f_spec_l1Cur_faulty_j57D.inp.D) : f_spec_l1Cur_faulty_j57D.lp k i = branch (f_spec_l1Cur_faulty_j57D.inp.st x_spec_l1Cur_faulty.n i) (.tmp 57) (fun st => exec x_spec_l1Cur_faulty k f_spec_l1Cur_faulty_j57X st (outK x_spec_l1Cur_faulty f_spec_l1Cur_faulty_j57D) (fun _ _ => none) f_spec_l1Cur_faulty_j57D.mkB) (fun st => exec x_spec_l1Cur_faulty k f_spec_l1Cur_faulty_j57Y st (outK x_spec_l1Cur_faulty f_spec_l1Cur_faulty_j57D) (fun _ _ => none) f_spec_l1Cur_faulty_j57D.mkB) := by kernel_rfl
theorem f_spec_l1Cur_faulty_j57ok (k : Nat) : EOK Try.prog x_spec_l1Cur_faulty k f_spec_l1Cur_faulty_j57D.E (.cond (.tmp 57) f_spec_l1Cur_faulty_j57X f_spec_l1Cur_faulty_j57Y) := join_ok (D := f_spec_l1Cur_faulty_j57D) T_ok (g_spec_l1Cur_faulty k) (f_spec_l1Cur_faulty_j57h k) (@LOK.by _ _ _ _ f_spec_l1Cur_faulty_j57X [] (by kernel_rfl) AllOK.nil) (@LOK.by _ _ _ _ f_spec_l1Cur_faulty_j57Y [] (by kernel_rfl) AllOK.nil)
noncomputable def f_spec_l1Cur_faulty_2B : Code := (findLoop 2 c_spec_l1Cur_faulty).getD .skip
theorem f_spec_l1Cur_faulty_2h (k : Nat) (x : f_spec_l1Cur_faulty_2i.D) : f_spec_l1Cur_faulty_2D.lp (k + 1) x = loopK x_spec_l1Cur_faulty f_spec_l1Cur_faulty_2D 2 f_spec_l1Cur_faulty_2B k x := by kernel_rfl
theorem f_spec_l1Cur_faulty_2l (k : Nat) : LOK Try.prog x_spec_l1Cur_faulty k f_spec_l1Cur_faulty_2B := LOK.by [] (by kernel_rfl) AllOK.nil
theorem f_spec_l1Cur_faulty_2z (x : f_spec_l1Cur_faulty_2i.D) : f_spec_l1Cur_faulty_2D.lp 0 x = none := by kernel_rfl
theorem f_spec_l1Cur_faulty_2ok (k : Nat) : EOK Try.prog x_spec_l1Cur_faulty k f_spec_l1Cur_faulty_2D.E (.block 2 (.loop f_spec_l1Cur_faulty_2B)) := loop_ok T_ok g_spec_l1Cur_faulty f_spec_l1Cur_faulty_2z f_spec_l1Cur_faulty_2h f_spec_l1Cur_faulty_2l k
noncomputable def f_spec_l1Cur_faulty_0B : Code := (findLoop 0 c_spec_l1Cur_faulty).getD .skip
theorem f_spec_l1Cur_faulty_0h (k : Nat) (x : f_spec_l1Cur_faulty_0i.D) : f_spec_l1Cur_faulty_0D.lp (k + 1) x = loopK x_spec_l1Cur_faulty f_spec_l1Cur_faulty_0D 0 f_spec_l1Cur_faulty_0B k x := by kernel_rfl
theorem f_spec_l1Cur_faulty_0l (k : Nat) : LOK Try.prog x_spec_l1Cur_faulty k f_spec_l1Cur_faulty_0B := LOK.by [(f_spec_l1Cur_faulty_j57D.E, .cond (.tmp 57) f_spec_l1Cur_faulty_j57X f_spec_l1Cur_faulty_j57Y), (f_spec_l1Cur_faulty_2D.E, .block 2 (.loop f_spec_l1Cur_faulty_2B))] (by kernel_rfl) (AllOK.cons (f_spec_l1Cur_faulty_j57ok k) (AllOK.cons (f_spec_l1Cur_faulty_2ok k) AllOK.nil))
theorem f_spec_l1Cur_faulty_0z (x : f_spec_l1Cur_faulty_0i.D) : f_spec_l1Cur_faulty_0D.lp 0 x = none := by kernel_rfl
theorem f_spec_l1Cur_faulty_0ok (k : Nat) : EOK Try.prog x_spec_l1Cur_faulty k f_spec_l1Cur_faulty_0D.E (.block 0 (.loop f_spec_l1Cur_faulty_0B)) := loop_ok T_ok g_spec_l1Cur_faulty f_spec_l1Cur_faulty_0z f_spec_l1Cur_faulty_0h f_spec_l1Cur_faulty_0l k
theorem h_spec_l1Cur_faulty (k : Nat) (x : Tup d_spec_l1Cur_faulty.ps) : d_spec_l1Cur_faulty.f (k + 1) x = fnK d_spec_l1Cur_faulty x_spec_l1Cur_faulty c_spec_l1Cur_faulty k x := by kernel_rfl
theorem z_spec_l1Cur_faulty (x : Tup d_spec_l1Cur_faulty.ps) : d_spec_l1Cur_faulty.f 0 x = none := by kernel_rfl
theorem l_spec_l1Cur_faulty (k : Nat) : LOK Try.prog x_spec_l1Cur_faulty k c_spec_l1Cur_faulty := LOK.by [(f_spec_l1Cur_faulty_j14D.E, .cond (.tmp 14) f_spec_l1Cur_faulty_j14X f_spec_l1Cur_faulty_j14Y), (f_spec_l1Cur_faulty_j18D.E, .cond (.tmp 18) f_spec_l1Cur_faulty_j18X f_spec_l1Cur_faulty_j18Y), (f_spec_l1Cur_faulty_j31D.E, .cond (.tmp 31) f_spec_l1Cur_faulty_j31X f_spec_l1Cur_faulty_j31Y), (f_spec_l1Cur_faulty_0D.E, .block 0 (.loop f_spec_l1Cur_faulty_0B))] (by kernel_rfl) (AllOK.cons (f_spec_l1Cur_faulty_j14ok k) (AllOK.cons (f_spec_l1Cur_faulty_j18ok k) (AllOK.cons (f_spec_l1Cur_faulty_j31ok k) (AllOK.cons (f_spec_l1Cur_faulty_0ok k) AllOK.nil))))
theorem s_spec_l1Cur_faulty (k : Nat) : SoundAt Try.prog k 116 d_spec_l1Cur_faulty.E := @fn_all Try.prog d_spec_l1Cur_faulty x_spec_l1Cur_faulty 116 Try.f116 c_spec_l1Cur_faulty (by kernel_rfl) (by kernel_rfl) (by kernel_rfl) Try.func116 (by kernel_rfl) (by kernel_rfl) (by kernel_rfl) T_ok g_spec_l1Cur_faulty l_spec_l1Cur_faulty z_spec_l1Cur_faulty h_spec_l1Cur_faulty k
end
end Go.Proofs.Ytgjmhbjdhihgaaa.Vs

set_option maxRecDepth 100000
set_option maxHeartbeats 2000000
set_option linter.unusedVariables false
set_option linter.unusedSimpArgs false
namespace Go.Proofs.Ytgjmhbjdhihgaaa.Vs
open Go.RowKit
noncomputable section
/-! function 38 -/
noncomputable def r_spec_DrawFaultyFalls : List PK := [PK.mk (Ty.pair (Ty.int IntKind.i64) (Ty.pair (Ty.int IntKind.i64) (Ty.slice (79 : Nat) (Ty.pair (Ty.int IntKind.i64) (Ty.int IntKind.i64))))) true none false none, PK.mk (Ty.slice (77 : Nat) (Ty.pair (Ty.int IntKind.i64) (Ty.pair (Ty.int IntKind.i64) (Ty.int IntKind.i64)))) false none false none, PK.mk (Ty.slice (3 : Nat) (Ty.int IntKind.i64)) false none false none]
noncomputable def q_spec_DrawFaultyFalls : List PK := [PK.mk (Ty.slice (5 : Nat) (Ty.int IntKind.u8)) false none false none]
noncomputable def to_spec_DrawFaultyFalls (r : (Int × Int × List (Int × Int)) × List (Int × Int × Int) × List Int) : Tup r_spec_DrawFaultyFalls × OutD := ((r.1, r.2.1, r.2.2, ()), none)
noncomputable def of_spec_DrawFaultyFalls : Tup r_spec_DrawFaultyFalls × OutD → Option ((Int × Int × List (Int × Int)) × List (Int × Int × Int) × List Int)
  | (a, none) => some (a.1, a.2.1, a.2.2.1)
  | _ => none
theorem to_of_spec_DrawFaultyFalls : ∀ b r, of_spec_DrawFaultyFalls b = some r → to_spec_DrawFaultyFalls r = b := by
  rintro ⟨a, o⟩ r h
  cases o with
  | none => injection h with h; subst h; rfl
  | some _ => cases h
noncomputable def f_spec_DrawFaultyFalls_g3 : Nat → Int → Int → List (Int × Int) → List Int → Int → Int → Int → Int → List (Int × Int) → List (Int × Int × Int) → Option (Int × Int × List (Int × Int) × List (Int × Int × Int) × List Int) := fun k b1_0 b1_1 o2 b3_0 b3_1 b3_2 b4_0 b4_1 o5 o6 =>
    Option.bind (f_spec_l1Cur_entries k (b3_0, b3_1, b3_2) (b4_0, b4_1, o5)) fun z1 => some (b4_0, b4_1, o5, o6, Prod.fst z1)
noncomputable def f_spec_DrawFaultyFalls_g3A : Nat → Int → Int → List (Int × Int) → List Int → Int → Int → Int → Int → List (Int × Int) → List (Int × Int × Int) → Option (List (Int × Int × List (Int × Int) × List (Int × Int × Int) × List Int)) := fun k b1_0 b1_1 o2 b3_0 b3_1 b3_2 b4_0 b4_1 o5 o6 =>
    joinL (Option.bind (f_spec_l1Cur_entries k (b3_0, b3_1, b3_2) (b4_0, b4_1, o5)) fun z2 => some [(b4_0, b4_1, o5, o6, Prod.fst z2)]) (Option.bind (f_spec_l1Cur_entries k (b3_0, b3_1, b3_2) (b4_0, b4_1, o5)) fun z3 => some [(b4_0, b4_1, o5, o6, Prod.fst z3)])
noncomputable def f_spec_DrawFaultyFalls_g3i : Spec := Spec.mk [OSh.ro, OSh.box (53 : Nat) [Sh.int IntKind.i64, Sh.int IntKind.i64, Sh.sl (2 : Nat)], OSh.row true (79 : Nat) (Ty.pair (Ty.int IntKind.i64) (Ty.int IntKind.i64)), OSh.box (114 : Nat) [Sh.snap (0 : Nat) (Ty.int IntKind.u8), Sh.int IntKind.i64, Sh.int IntKind.u64], OSh.box (53 : Nat) [Sh.int IntKind.i64, Sh.int IntKind.i64, Sh.sl (5 : Nat)], OSh.row true (79 : Nat) (Ty.pair (Ty.int IntKind.i64) (Ty.int IntKind.i64)), OSh.row true (77 : Nat) (Ty.pair (Ty.int IntKind.i64) (Ty.pair (Ty.int IntKind.i64) (Ty.int IntKind.i64)))] [((2 : Nat), TSh.at (Sh.ptr (1 : Nat) (0 : Nat))), ((5 : Nat), TSh.at (Sh.ptr (3 : Nat) (0 : Nat))), ((6 : Nat), TSh.at (Sh.ptr (4 : Nat) (0 : Nat))), ((7 : Nat), TSh.at (Sh.sl (6 : Nat)))]
noncomputable def f_spec_DrawFaultyFalls_g3o : Spec := Spec.mk [OSh.ro, OSh.box (53 : Nat) [Sh.int IntKind.i64, Sh.int IntKind.i64, Sh.sl (2 : Nat)], OSh.row true (79 : Nat) (Ty.pair (Ty.int IntKind.i64) (Ty.int IntKind.i64)), OSh.row true (77 : Nat) (Ty.pair (Ty.int IntKind.i64) (Ty.pair (Ty.int IntKind.i64) (Ty.int IntKind.i64))), OSh.row true (3 : Nat) (Ty.int IntKind.i64)] [((2 : Nat), TSh.at (Sh.ptr (1 : Nat) (0 : Nat))), ((3 : Nat), TSh.at (Sh.sl (3 : Nat))), ((4 : Nat), TSh.at (Sh.sl (4 : Nat)))]
noncomputable def f_spec_DrawFaultyFalls_g3D : LoopDef (Tup r_spec_DrawFaultyFalls × OutD) := .plain f_spec_DrawFaultyFalls_g3i f_spec_DrawFaultyFalls_g3o (Int × Int × List (Int × Int) × List (Int × Int × Int) × List Int) (fun k x => f_spec_DrawFaultyFalls_g3 k x.1.2.1.1 x.1.2.1.2.1 x.1.2.2.1 x.1.2.2.2.1.1 x.1.2.2.2.1.2.1 x.1.2.2.2.1.2.2.1 x.1.2.2.2.2.1.1 x.1.2.2.2.2.1.2.1 x.1.2.2.2.2.2.1 x.1.2.2.2.2.2.2.1) (fun z => (((), (z.1, z.2.1, (), ()), z.2.2.1, z.2.2.2.1, z.2.2.2.2, ()), ((), (), (), ()))) (fun y => (y.1.2.1.1, y.1.2.1.2.1, y.1.2.2.1, y.1.2.2.2.1, y.1.2.2.2.2.1)) (fun _ => rfl)
theorem f_spec_DrawFaultyFalls_g3j (k : Nat) (b1_0 : Int) (b1_1 : Int) (o2 : List (Int × Int)) (b3_0 : List Int) (b3_1 : Int) (b3_2 : Int) (b4_0 : Int) (b4_1 : Int) (o5 : List (Int × Int)) (o6 : List (Int × Int × Int)) : f_spec_DrawFaultyFalls_g3A k b1_0 b1_1 o2 b3_0 b3_1 b3_2 b4_0 b4_1 o5 o6 = repl 2 (f_spec_DrawFaultyFalls_g3 k b1_0 b1_1 o2 b3_0 b3_1 b3_2 b4_0 b4_1 o5 o6) := by
  first
  | (simp only [f_spec_DrawFaultyFalls_g3A, f_spec_DrawFaultyFalls_g3, repl_some, repl_ite, repl_ite0, repl_ite1, repl_bind, joinL_repl, if_true]; done)
  | (simp only [f_spec_DrawFaultyFalls_g3A, f_spec_DrawFaultyFalls_g3, repl_some, repl_ite, repl_ite0, repl_ite1, repl_bind, joinL_repl, if_true]; simp only [joinL_grdl, joinL_grdr, repl_grd, joinL_repl]; simp only [grd_and]; exact grd_congr ⟨fun h => by simp only [h, and_self], fun h => by simp only [h, and_self]⟩)
noncomputable def f_spec_DrawFaultyFalls : Nat → List Int → Option ((Int × Int × List (Int × Int)) × List (Int × Int × Int) × List Int)
  | 0, _ => none
  | k + 1, p0 =>
    Option.bind (f_spec_l1Cur_faulty k (p0, (0 : Int), (0 : Int))) fun z0 => Option.bind (f_spec_DrawFaultyFalls_g3 k (0 : Int) (0 : Int) [] p0 (Prod.fst (Prod.snd (Prod.snd z0))) (Prod.snd (Prod.snd (Prod.snd z0))) (Prod.fst (Prod.fst z0)) (Prod.fst (Prod.snd (Prod.fst z0))) (Prod.snd (Prod.snd (Prod.fst z0))) (Prod.fst (Prod.snd z0))) fun z4 => some ((Prod.fst z4, Prod.fst (Prod.snd z4), Prod.fst (Prod.snd (Prod.snd z4))), Prod.fst (Prod.snd (Prod.snd (Prod.snd z4))), Prod.snd (Prod.snd (Prod.snd (Prod.snd z4))))
noncomputable def d_spec_DrawFaultyFalls : FnDef := .of q_spec_DrawFaultyFalls r_spec_DrawFaultyFalls ((Int × Int × List (Int × Int)) × List (Int × Int × Int) × List Int) (fun k x => f_spec_DrawFaultyFalls k x.1) to_spec_DrawFaultyFalls of_spec_DrawFaultyFalls to_of_spec_DrawFaultyFalls
noncomputable def c_spec_DrawFaultyFalls : Code := Try.f38.body.getD .skip
noncomputable def x_spec_DrawFaultyFalls : Ctx (Tup r_spec_DrawFaultyFalls × OutD) := { T := T, G := [(116, d_spec_l1Cur_faulty.E), (117, d_spec_l1Cur_entries.E)], mvs := [], no := 0, n := 21, res := resOf T q_spec_DrawFaultyFalls r_spec_DrawFaultyFalls Try.f38.results.toList, loops := [], regs := [(3, f_spec_DrawFaultyFalls_g3D.E)], conds := [] }
theorem g_spec_DrawFaultyFalls (k : Nat) : EnvOK Try.prog k x_spec_DrawFaultyFalls.G := (EnvOK.cons (s_spec_l1Cur_faulty k) (EnvOK.cons (s_spec_l1Cur_entries k) (EnvOK.nil mixed)))
noncomputable def f_spec_DrawFaultyFalls_g3O : Array Oper := (findReg 3 c_spec_DrawFaultyFalls).getD #[]
theorem f_spec_DrawFaultyFalls_g3e (k : Nat) (x : f_spec_DrawFaultyFalls_g3i.D) : execD x_spec_DrawFaultyFalls.T x_spec_DrawFaultyFalls.G x_spec_DrawFaultyFalls.mvs k f_spec_DrawFaultyFalls_g3O (f_spec_DrawFaultyFalls_g3D.inp.st x_spec_DrawFaultyFalls.n x) (outK x_spec_DrawFaultyFalls f_spec_DrawFaultyFalls_g3D) = f_spec_DrawFaultyFalls_g3A k x.1.2.1.1 x.1.2.1.2.1 x.1.2.2.1 x.1.2.2.2.1.1 x.1.2.2.2.1.2.1 x.1.2.2.2.1.2.2.1 x.1.2.2.2.2.1.1 x.1.2.2.2.2.1.2.1 x.1.2.2.2.2.2.1 x.1.2.2.2.2.2.2.1 := by kernel_rfl
theorem f_spec_DrawFaultyFalls_g3ok (k : Nat) : EOK Try.prog x_spec_DrawFaultyFalls k f_spec_DrawFaultyFalls_g3D.E (.region 3 f_spec_DrawFaultyFalls_g3O true) := reg_ok (D := f_spec_DrawFaultyFalls_g3D) (m := 2) T_ok (g_spec_DrawFaultyFalls k) (fun x => (f_spec_DrawFaultyFalls_g3e k x).trans (f_spec_DrawFaultyFalls_g3j k x.1.2.1.1 x.1.2.1.2.1 x.1.2.2.1 x.1.2.2.2.1.1 x.1.2.2.2.1.2.1 x.1.2.2.2.1.2.2.1 x.1.2.2.2.2.1.1 x.1.2.2.2.2.1.2.1 x.1.2.2.2.2.2.1 x.1.2.2.2.2.2.2.1))
theorem h_spec_DrawFaultyFalls (k : Nat) (x : Tup d_spec_DrawFaultyFalls.ps) : d_spec_DrawFaultyFalls.f (k + 1) x = fnK d_spec_DrawFaultyFalls x_spec_DrawFaultyFalls c_spec_DrawFaultyFalls k x := by kernel_rfl
theorem z_spec_DrawFaultyFalls (x : Tup d_spec_DrawFaultyFalls.ps) : d_spec_DrawFaultyFalls.f 0 x = none := by kernel_rfl
theorem l_spec_DrawFaultyFalls (k : Nat) : LOK Try.prog x_spec_DrawFaultyFalls k c_spec_DrawFaultyFalls := LOK.by [(f_spec_DrawFaultyFalls_g3D.E, .region 3 f_spec_DrawFaultyFalls_g3O true)] (by kernel_rfl) (AllOK.cons (f_spec_DrawFaultyFalls_g3ok k) AllOK.nil)
theorem s_spec_DrawFaultyFalls (k : Nat) : SoundAt Try.prog k 38 d_spec_DrawFaultyFalls.E := @fn_all Try.prog d_spec_DrawFaultyFalls x_spec_DrawFaultyFalls 38 Try.f38 c_spec_DrawFaultyFalls (by kernel_rfl) (by kernel_rfl) (by kernel_rfl) Try.func38 (by kernel_rfl) (by kernel_rfl) (by kernel_rfl) T_ok g_spec_DrawFaultyFalls l_spec_DrawFaultyFalls z_spec_DrawFaultyFalls h_spec_DrawFaultyFalls k
/-! function 41 -/
noncomputable def r_spec_DrawFaultyFall : List PK := [PK.mk (Ty.pair (Ty.int IntKind.i64) (Ty.pair (Ty.int IntKind.i64) (Ty.slice (79 : Nat) (Ty.pair (Ty.int IntKind.i64) (Ty.int IntKind.i64))))) true none false none, PK.mk (Ty.slice (77 : Nat) (Ty.pair (Ty.int IntKind.i64) (Ty.pair (Ty.int IntKind.i64) (Ty.int IntKind.i64)))) false none false none, PK.mk (Ty.int IntKind.i64) false none false none]
noncomputable def q_spec_DrawFaultyFall : List PK := [PK.mk (Ty.slice (5 : Nat) (Ty.int IntKind.u8)) false none false none]
noncomputable def to_spec_DrawFaultyFall (r : (Int × Int × List (Int × Int)) × List (Int × Int × Int) × Int) : Tup r_spec_DrawFaultyFall × OutD := ((r.1, r.2.1, r.2.2, ()), none)
noncomputable def of_spec_DrawFaultyFall : Tup r_spec_DrawFaultyFall × OutD → Option ((Int × Int × List (Int × Int)) × List (Int × Int × Int) × Int)
  | (a, none) => some (a.1, a.2.1, a.2.2.1)
  | _ => none
theorem to_of_spec_DrawFaultyFall : ∀ b r, of_spec_DrawFaultyFall b = some r → to_spec_DrawFaultyFall r = b := by
  rintro ⟨a, o⟩ r h
  cases o with
  | none => injection h with h; subst h; rfl
  | some _ => cases h
noncomputable def f_spec_DrawFaultyFall_g3 : Nat → Int → Int → List (Int × Int) → List Int → Int → Int → Int → Int → List (Int × Int) → List (Int × Int × Int) → Option (Int × Int × List (Int × Int) × List (Int × Int × Int) × Int) := fun k b1_0 b1_1 o2 b3_0 b3_1 b3_2 b4_0 b4_1 o5 o6 =>
    Option.bind (f_spec_l1Cur_columnOf k (b3_0, b3_1, b3_2) (b4_0, b4_1, o5)) fun z1 => some (b4_0, b4_1, o5, o6, Prod.fst z1)
noncomputable def f_spec_DrawFaultyFall_g3A : Nat → Int → Int → List (Int × Int) → List Int → Int → Int → Int → Int → List (Int × Int) → List (Int × Int × Int) → Option (List (Int × Int × List (Int × Int) × List (Int × Int × Int) × Int)) := fun k b1_0 b1_1 o2 b3_0 b3_1 b3_2 b4_0 b4_1 o5 o6 =>
    joinL (Option.bind (f_spec_l1Cur_columnOf k (b3_0, b3_1, b3_2) (b4_0, b4_1, o5)) fun z2 => some [(b4_0, b4_1, o5, o6, Prod.fst z2)]) (Option.bind (f_spec_l1Cur_columnOf k (b3_0, b3_1, b3_2) (b4_0, b4_1, o5)) fun z3 => some [(b4_0, b4_1, o5, o6, Prod.fst z3)])
noncomputable def f_spec_DrawFaultyFall_g3i : Spec := Spec.mk [OSh.ro, OSh.box (53 : Nat) [Sh.int IntKind.i64, Sh.int IntKind.i64, Sh.sl (2 : Nat)], OSh.row true (79 : Nat) (Ty.pair (Ty.int IntKind.i64) (Ty.int IntKind.i64)), OSh.box (114 : Nat) [Sh.snap (0 : Nat) (Ty.int IntKind.u8), Sh.int IntKind.i64, Sh.int IntKind.u64], OSh.box (53 : Nat) [Sh.int IntKind.i64, Sh.int IntKind.i64, Sh.sl (5 : Nat)], OSh.row true (79 : Nat) (Ty.pair (Ty.int IntKind.i64) (Ty.int IntKind.i64)), OSh.row true (77 : Nat) (Ty.pair (Ty.int IntKind.i64) (Ty.pair (Ty.int IntKind.i64) (Ty.int IntKind.i64)))] [((2 : Nat), TSh.at (Sh.ptr (1 : Nat) (0 : Nat))), ((5 : Nat), TSh.at (Sh.ptr (3 : Nat) (0 : Nat))), ((6 : Nat), TSh.at (Sh.ptr (4 : Nat) (0 : Nat))), ((7 : Nat), TSh.at (Sh.sl (6 : Nat)))]
noncomputable def f_spec_DrawFaultyFall_g3o : Spec := Spec.mk [OSh.ro, OSh.box (53 : Nat) [Sh.int IntKind.i64, Sh.int IntKind.i64, Sh.sl (2 : Nat)], OSh.row true (79 : Nat) (Ty.pair (Ty.int IntKind.i64) (Ty.int IntKind.i64)), OSh.row true (77 : Nat) (Ty.pair (Ty.int IntKind.i64) (Ty.pair (Ty.int IntKind.i64) (Ty.int IntKind.i64)))] [((2 : Nat), TSh.at (Sh.ptr (1 : Nat) (0 : Nat))), ((3 : Nat), TSh.at (Sh.sl (3 : Nat))), ((4 : Nat), TSh.at (Sh.int IntKind.i64))]
noncomputable def f_spec_DrawFaultyFall_g3D : LoopDef (Tup r_spec_DrawFaultyFall × OutD) := .plain f_spec_DrawFaultyFall_g3i f_spec_DrawFaultyFall_g3o (Int × Int × List (Int × Int) × List (Int × Int × Int) × Int) (fun k x => f_spec_DrawFaultyFall_g3 k x.1.2.1.1 x.1.2.1.2.1 x.1.2.2.1 x.1.2.2.2.1.1 x.1.2.2.2.1.2.1 x.1.2.2.2.1.2.2.1 x.1.2.2.2.2.1.1 x.1.2.2.2.2.1.2.1 x.1.2.2.2.2.2.1 x.1.2.2.2.2.2.2.1) (fun z => (((), (z.1, z.2.1, (), ()), z.2.2.1, z.2.2.2.1, ()), ((), (), z.2.2.2.2, ()))) (fun y => (y.1.2.1.1, y.1.2.1.2.1, y.1.2.2.1, y.1.2.2.2.1, y.2.2.2.1)) (fun _ => rfl)
theorem f_spec_DrawFaultyFall_g3j (k : Nat) (b1_0 : Int) (b1_1 : Int) (o2 : List (Int × Int)) (b3_0 : List Int) (b3_1 : Int) (b3_2 : Int) (b4_0 : Int) (b4_1 : Int) (o5 : List (Int × Int)) (o6 : List (Int × Int × Int)) : f_spec_DrawFaultyFall_g3A k b1_0 b1_1 o2 b3_0 b3_1 b3_2 b4_0 b4_1 o5 o6 = repl 2 (f_spec_DrawFaultyFall_g3 k b1_0 b1_1 o2 b3_0 b3_1 b3_2 b4_0 b4_1 o5 o6) := by
  first
  | (simp only [f_spec_DrawFaultyFall_g3A, f_spec_DrawFaultyFall_g3, repl_some, repl_ite, repl_ite0, repl_ite1, repl_bind, joinL_repl, if_true]; done)
  | (simp only [f_spec_DrawFaultyFall_g3A, f_spec_DrawFaultyFall_g3, repl_some, repl_ite, repl_ite0, repl_ite1, repl_bind, joinL_repl, if_true]; simp only [joinL_grdl, joinL_grdr, repl_grd, joinL_repl]; simp only [grd_and]; exact grd_congr ⟨fun h => by simp only [h, and_self], fun h => by simp only [h, and_self]⟩)
noncomputable def f_spec_DrawFaultyFall : Nat → List Int → Option ((Int × Int × List (Int × Int)) × List (Int × Int × Int) × Int)
  | 0, _ => none
  | k + 1, p0 =>
    Option.bind (f_spec_l1Cur_faulty k (p0, (0 : Int), (0 : Int))) fun z0 => Option.bind (f_spec_DrawFaultyFall_g3 k (0 : Int) (0 : Int) [] p0 (Prod.fst (Prod.snd (Prod.snd z0))) (Prod.snd (Prod.snd (Prod.snd z0))) (Prod.fst (Prod.fst z0)) (Prod.fst (Prod.snd (Prod.fst z0))) (Prod.snd (Prod.snd (Prod.fst z0))) (Prod.fst (Prod.snd z0))) fun z4 => some ((Prod.fst z4, Prod.fst (Prod.snd z4), Prod.fst (Prod.snd (Prod.snd z4))), Prod.fst (Prod.snd (Prod.snd (Prod.snd z4))), Prod.snd (Prod.snd (Prod.snd (Prod.snd z4))))
noncomputable def d_spec_DrawFaultyFall : FnDef := .of q_spec_DrawFaultyFall r_spec_DrawFaultyFall ((Int × Int × List (Int × Int)) × List (Int × Int × Int) × Int) (fun k x => f_spec_DrawFaultyFall k x.1) to_spec_DrawFaultyFall of_spec_DrawFaultyFall to_of_spec_DrawFaultyFall
noncomputable def c_spec_DrawFaultyFall : Code := Try.f41.body.getD .skip
noncomputable def x_spec_DrawFaultyFall : Ctx (Tup r_spec_DrawFaultyFall × OutD) := { T := T, G := [(116, d_spec_l1Cur_faulty.E), (124, d_spec_l1Cur_columnOf.E)], mvs := [], no := 0, n := 21, res := resOf T q_spec_DrawFaultyFall r_spec_DrawFaultyFall Try.f41.results.toList, loops := [], regs := [(3, f_spec_DrawFaultyFall_g3D.E)], conds := [] }
theorem g_spec_DrawFaultyFall (k : Nat) : EnvOK Try.prog k x_spec_DrawFaultyFall.G := (EnvOK.cons (s_spec_l1Cur_faulty k) (EnvOK.cons (s_spec_l1Cur_columnOf k) (EnvOK.nil mixed)))
noncomputable def f_spec_DrawFaultyFall_g3O : Array Oper := (findReg 3 c_spec_DrawFaultyFall).getD #[]
theorem f_spec_DrawFaultyFall_g3e (k : Nat) (x : f_spec_DrawFaultyFall_g3i.D) : execD x_spec_DrawFaultyFall.T x_spec_DrawFaultyFall.G x_spec_DrawFaultyFall.mvs k f_spec_DrawFaultyFall_g3O (f_spec_DrawFaultyFall_g3D.inp.st x_spec_DrawFaultyFall.n x) (outK x_spec_DrawFaultyFall f_spec_DrawFaultyFall_g3D) = f_spec_DrawFaultyFall_g3A k x.1.2.1.1 x.1.2.1.2.1 x.1.2.2.1 x.1.2.2.2.1.1 x.1.2.2.2.1.2.1 x.1.2.2.2.1.2.2.1 x.1.2.2.2.2.1.1 x.1.2.2.2.2.1.2.1 x.1.2.2.2.2.2.1 x.1.2.2.2.2.2.2.1 := by kernel_rfl
theorem f_spec_DrawFaultyFall_g3ok (k : Nat) : EOK Try.prog x_spec_DrawFaultyFall k f_spec_DrawFaultyFall_g3D.E (.region 3 f_spec_DrawFaultyFall_g3O true) := reg_ok (D := f_spec_DrawFaultyFall_g3D) (m := 2) T_ok (g_spec_DrawFaultyFall k) (fun x => (f_spec_DrawFaultyFall_g3e k x).trans (f_spec_DrawFaultyFall_g3j k x.1.2.1.1 x.1.2.1.2.1 x.1.2.2.1 x.1.2.2.2.1.1 x.1.2.2.2.1.2.1 x.1.2.2.2.1.2.2.1 x.1.2.2.2.2.1.1 x.1.2.2.2.2.1.2.1 x.1.2.2.2.2.2.1 x.1.2.2.2.2.2.2.1))
theorem h_spec_DrawFaultyFall (k : Nat) (x : Tup d_spec_DrawFaultyFall.ps) : d_spec_DrawFaultyFall.f (k + 1) x = fnK d_spec_DrawFaultyFall x_spec_DrawFaultyFall c_spec_DrawFaultyFall k x := by kernel_rfl
theorem z_spec_DrawFaultyFall (x : Tup d_spec_DrawFaultyFall.ps) : d_spec_DrawFaultyFall.f 0 x = none := by kernel_rfl
theorem l_spec_DrawFaultyFall (k : Nat) : LOK Try.prog x_spec_DrawFaultyFall k c_spec_DrawFaultyFall := LOK.by [(f_spec_DrawFaultyFall_g3D.E, .region 3 f_spec_DrawFaultyFall_g3O true)] (by kernel_rfl) (AllOK.cons (f_spec_DrawFaultyFall_g3ok k) AllOK.nil)
theorem s_spec_DrawFaultyFall (k : Nat) : SoundAt Try.prog k 41 d_spec_DrawFaultyFall.E := @fn_all Try.prog d_spec_DrawFaultyFall x_spec_DrawFaultyFall 41 Try.f41 c_spec_DrawFaultyFall (by kernel_rfl) (by kernel_rfl) (by kernel_rfl) Try.func41 (by kernel_rfl) (by kernel_rfl) (by kernel_rfl) T_ok g_spec_DrawFaultyFall l_spec_DrawFaultyFall z_spec_DrawFaultyFall h_spec_DrawFaultyFall k
/-! function 46 -/
noncomputable def r_spec_DrawAreFaults : List PK := [PK.mk (Ty.pair (Ty.int IntKind.i64) (Ty.pair (Ty.int IntKind.i64) (Ty.slice (79 : Nat) (Ty.pair (Ty.int IntKind.i64) (Ty.int IntKind.i64))))) true none false none, PK.mk (Ty.slice (77 : Nat) (Ty.pair (Ty.int IntKind.i64) (Ty.pair (Ty.int IntKind.i64) (Ty.int IntKind.i64)))) false none false none]
noncomputable def q_spec_DrawAreFaults : List PK := [PK.mk (Ty.slice (5 : Nat) (Ty.int IntKind.u8)) false none false none]
noncomputable def to_spec_DrawAreFaults (r : (Int × Int × List (Int × Int)) × List (Int × Int × Int)) : Tup r_spec_DrawAreFaults × OutD := ((r.1, r.2, ()), none)
noncomputable def of_spec_DrawAreFaults : Tup r_spec_DrawAreFaults × OutD → Option ((Int × Int × List (Int × Int)) × List (Int × Int × Int))
  | (a, none) => some (a.1, a.2.1)
  | _ => none
theorem to_of_spec_DrawAreFaults : ∀ b r, of_spec_DrawAreFaults b = some r → to_spec_DrawAreFaults r = b := by
  rintro ⟨a, o⟩ r h
  cases o with
  | none => injection h with h; subst h; rfl
  | some _ => cases h
noncomputable def f_spec_DrawAreFaults : Nat → List Int → Option ((Int × Int × List (Int × Int)) × List (Int × Int × Int))
  | 0, _ => none
  | k + 1, p0 =>
    Option.bind (f_spec_l1Cur_faulty k (p0, (0 : Int), (0 : Int))) fun z0 => some ((Prod.fst (Prod.fst z0), Prod.fst (Prod.snd (Prod.fst z0)), Prod.snd (Prod.snd (Prod.fst z0))), Prod.fst (Prod.snd z0))
noncomputable def d_spec_DrawAreFaults : FnDef := .of q_spec_DrawAreFaults r_spec_DrawAreFaults ((Int × Int × List (Int × Int)) × List (Int × Int × Int)) (fun k x => f_spec_DrawAreFaults k x.1) to_spec_DrawAreFaults of_spec_DrawAreFaults to_of_spec_DrawAreFaults
noncomputable def c_spec_DrawAreFaults : Code := Try.f46.body.getD .skip
noncomputable def x_spec_DrawAreFaults : Ctx (Tup r_spec_DrawAreFaults × OutD) := { T := T, G := [(116, d_spec_l1Cur_faulty.E)], mvs := [], no := 0, n := 12, res := resOf T q_spec_DrawAreFaults r_spec_DrawAreFaults Try.f46.results.toList, loops := [], regs := [], conds := [] }
theorem g_spec_DrawAreFaults (k : Nat) : EnvOK Try.prog k x_spec_DrawAreFaults.G := (EnvOK.cons (s_spec_l1Cur_faulty k) (EnvOK.nil mixed))
theorem h_spec_DrawAreFaults (k : Nat) (x : Tup d_spec_DrawAreFaults.ps) : d_spec_DrawAreFaults.f (k + 1) x = fnK d_spec_DrawAreFaults x_spec_DrawAreFaults c_spec_DrawAreFaults k x := by kernel_rfl
theorem z_spec_DrawAreFaults (x : Tup d_spec_DrawAreFaults.ps) : d_spec_DrawAreFaults.f 0 x = none := by kernel_rfl
theorem l_spec_DrawAreFaults (k : Nat) : LOK Try.prog x_spec_DrawAreFaults k c_spec_DrawAreFaults := LOK.by [] (by kernel_rfl) AllOK.nil
theorem s_spec_DrawAreFaults (k : Nat) : SoundAt Try.prog k 46 d_spec_DrawAreFaults.E := @fn_all Try.prog d_spec_DrawAreFaults x_spec_DrawAreFaults 46 Try.f46 c_spec_DrawAreFaults (by kernel_rfl) (by kernel_rfl) (by kernel_rfl) Try.func46 (by kernel_rfl) (by kernel_rfl) (by kernel_rfl) T_ok g_spec_DrawAreFaults l_spec_DrawAreFaults z_spec_DrawAreFaults h_spec_DrawAreFaults k
/-! function 69 -/
end
end Go.Proofs.Ytgjmhbjdhihgaaa.Vs

set_option linter.unusedVariables false
set_option linter.unusedSimpArgs false
namespace Go.Proofs.Ytgjmhbjdhihgaaa.Vs
open Go.RowKit
theorem e_spec_l1In (a b c : Int) : Ev (fun k => f_spec_l1In k a b c) (decide (b ≤ a ∧ a ≤ c)) := by
  refine Ev.succ ?_
  simp only [f_spec_l1In]
  refine Ev.of ?_
  by_cases h1 : b ≤ a <;> by_cases h2 : a ≤ c <;> simp [h1, h2]
theorem e_spec_l1All_0 (lo hi : Int) : ∀ (r pre : List Int), (pre ++ r).length ≤ 9223372036854775806 → Ev (fun k => f_spec_l1All_0 k lo hi (pre ++ r) ((pre ++ r).length : Int) (pre.length : Int)) (if r.all (fun n => decide (lo ≤ n ∧ n ≤ hi)) then LR.go () else LR.ret false)
  | [], pre, hl => by
    refine Ev.succ ?_
    simp only [f_spec_l1All_0, nlt_end, decide_false, Bool.false_eq_true, if_false, List.all_nil, if_true]
    exact Ev.some _
  | x :: r, pre, hl => by
    have ih := e_spec_l1All_0 lo hi r (pre ++ [x]) (by simpa using hl)
    refine Ev.succ ?_
    simp only [f_spec_l1All_0, lt_mid, ge_mid, decide_true, if_true, Int.toNat_natCast, getD_mid]
    rw [next_mid pre x r (by omega)]
    rw [← shift_mid] at ih
    refine Ev.bind (e_spec_l1In x lo hi) ?_
    by_cases hx : lo ≤ x ∧ x ≤ hi
    · simp only [hx, and_self, List.all_cons, decide_true, Bool.true_and, Bool.not_true, Bool.false_eq_true, if_false]; exact ih
    · simp only [hx, List.all_cons, decide_false, Bool.false_and, Bool.not_false, if_true, Bool.false_eq_true, if_false]; exact Ev.some _
theorem e_spec_l1All (l : List Int) (lo hi : Int) (hl : l.length ≤ 9223372036854775806) : Ev (fun k => f_spec_l1All k l lo hi) (l.all fun n => decide (lo ≤ n ∧ n ≤ hi)) := by
  refine Ev.succ ?_
  simp only [f_spec_l1All]
  refine Ev.bind (e_spec_l1All_0 lo hi l [] (by simpa using hl)) ?_
  cases hx : l.all fun n => decide (lo ≤ n ∧ n ≤ hi) with
  | true => simp only [if_true]; exact Ev.go (Ev.some _)
  | false => simp only [Bool.false_eq_true, if_false]; exact Ev.ret (Ev.some _)
end Go.Proofs.Ytgjmhbjdhihgaaa.Vs

set_option linter.unusedVariables false
set_option linter.unusedSimpArgs false
namespace Go.Proofs.Ytgjmhbjdhihgaaa.Vs
open Go.RowKit
abbrev CellD := Int × Int
abbrev BoardD := Int × Int × List (Int × Int)
abbrev FaultD := Int × Int × Int
def turning (x : CellD) : Bool := decide (x.1 = 3 ∨ x.1 = 6)
def cellOK (x : CellD) : Bool := decide (0 ≤ x.1 ∧ x.1 ≤ 7 ∧ (x.2 = 0 ∨ (x.2 = 1 ∧ (x.1 = 3 ∨ x.1 = 6))))
def boardOK (b : BoardD) : Bool := decide (1 ≤ b.1 ∧ b.1 ≤ 10 ∧ 1 ≤ b.2.1 ∧ b.2.1 ≤ 9 ∧ (b.2.2.length : Int) = b.1 * b.2.1) && b.2.2.all cellOK
theorem e_spec_paTurning (x : CellD) : Ev (fun k => f_spec_paTurning k x) (turning x) := by
  refine Ev.succ ?_
  simp only [f_spec_paTurning]
  refine Ev.of ?_
  by_cases h1 : x.1 = 3 <;> simp [turning, h1]
theorem e_impl_IsCell (x : CellD) : Ev (fun k => f_impl_IsCell k x) (cellOK x) := by
  refine Ev.succ ?_
  simp only [f_impl_IsCell, decide_eq_true_eq]
  refine Ev.of ?_
  unfold cellOK
  repeat' split
  all_goals (congr 1; first | (symm; rw [decide_eq_true_eq]; omega) | (symm; rw [decide_eq_false_iff_not]; omega) | (apply decide_eq_decide.2; omega))
theorem e_spec_paGood (x : CellD) : Ev (fun k => f_spec_paGood k x) (cellOK x) := by
  refine Ev.succ ?_
  simp only [f_spec_paGood]
  refine Ev.bind (e_spec_l1In _ _ _) ?_
  refine Ev.ite (fun h => ?_) (fun h => ?_)
  · simp only [decide_eq_true_eq] at h
    refine Ev.ite (fun h2 => ?_) (fun h2 => ?_)
    · simp only [decide_eq_true_eq] at h2
      refine Ev.of ?_
      congr 1; simp [cellOK]; omega
    · simp only [decide_eq_true_eq] at h2
      refine Ev.ite (fun h3 => ?_) (fun h3 => ?_)
      · simp only [decide_eq_true_eq] at h3
        refine Ev.bind (e_spec_paTurning x) (Ev.of ?_)
        congr 1; unfold turning cellOK; by_cases h4 : x.1 = 3 ∨ x.1 = 6 <;> simp [h4] <;> omega
      · simp only [decide_eq_true_eq] at h3
        refine Ev.of ?_
        congr 1; simp [cellOK]; omega
  · simp only [decide_eq_true_eq] at h
    refine Ev.of ?_
    congr 1; simp [cellOK]; omega
theorem e_impl_IsTurning (x : CellD) : Ev (fun k => f_impl_IsTurning k x) (cellOK x && turning x) := by
  refine Ev.succ ?_
  simp only [f_impl_IsTurning]
  refine Ev.bind (e_impl_IsCell x) ?_
  refine Ev.ite (fun h => ?_) (fun h => ?_)
  · rw [h, Bool.true_and]
    refine Ev.of ?_
    by_cases h1 : x.1 = 3 <;> simp [turning, h1]
  · refine Ev.of ?_
    simp only [Bool.not_eq_true] at h
    rw [h]; rfl

/-! ### Boards -/
theorem e_impl_validCells_0 : ∀ (r pre : List CellD), (pre ++ r).length ≤ 9223372036854775806 → Ev (fun k => f_impl_validCells_0 k (pre ++ r) ((pre ++ r).length : Int) (pre.length : Int)) (if r.all cellOK then LR.go () else LR.ret false)
  | [], pre, hl => by
    refine Ev.succ ?_
    simp only [f_impl_validCells_0, nlt_end, decide_false, Bool.false_eq_true, if_false, List.all_nil, if_true]
    exact Ev.some _
  | x :: r, pre, hl => by
    have ih := e_impl_validCells_0 r (pre ++ [x]) (by simpa using hl)
    refine Ev.succ ?_
    simp only [f_impl_validCells_0, lt_mid, ge_mid, decide_true, if_true, Int.toNat_natCast, getD_mid]
    rw [next_mid pre x r (by omega)]
    rw [← shift_mid] at ih
    refine Ev.bind (e_impl_IsCell x) ?_
    cases hx : cellOK x with
    | true => simp only [hx, List.all_cons, Bool.true_and, Bool.not_true, Bool.false_eq_true, if_false]; exact ih
    | false => simp only [hx, List.all_cons, Bool.false_and, Bool.not_false, if_true, Bool.false_eq_true, if_false]; exact Ev.some _
theorem e_impl_validCells (l : List CellD) (hl : l.length ≤ 9223372036854775806) : Ev (fun k => f_impl_validCells k l) (decide (l.length ≤ 90) && l.all cellOK) := by
  refine Ev.succ ?_
  simp only [f_impl_validCells]
  refine Ev.ite (fun h => ?_) (fun h => ?_)
  · simp only [decide_eq_true_eq] at h
    refine Ev.of ?_
    have : ¬ l.length ≤ 90 := by omega
    simp [this]
  · simp only [decide_eq_true_eq] at h
    have h2 : l.length ≤ 90 := by omega
    refine Ev.bind (e_impl_validCells_0 l [] (by simpa using hl)) ?_
    simp only [h2, decide_true, Bool.true_and]
    cases hx : l.all cellOK with
    | true => simp only [if_true]; exact Ev.go (Ev.some _)
    | false => simp only [Bool.false_eq_true, if_false]; exact Ev.ret (Ev.some _)
theorem prod_small {a b : Int} (h1 : 1 ≤ a) (h2 : a ≤ 10) (h3 : 1 ≤ b) (h4 : b ≤ 9) : 1 ≤ a * b ∧ a * b ≤ 90 :=
  ⟨by have := Int.mul_le_mul h1 h3 (by omega) (by omega); omega, by have := Int.mul_le_mul h2 h4 (by omega) (by omega); omega⟩
theorem e_impl_IsBoard (b : BoardD) (hl : b.2.2.length ≤ 9223372036854775806) : Ev (fun k => f_impl_IsBoard k b) (boardOK b) := by
  refine Ev.succ ?_
  simp only [f_impl_IsBoard, ge_iff_le]
  have no : ∀ {c : Prop}, ¬ c → (boardOK b = true → c) → Option.some false = Option.some (boardOK b) := by
    intro c h1 h2
    cases hb : boardOK b with
    | true => exact absurd (h2 hb) h1
    | false => rfl
  have hb : boardOK b = true → 1 ≤ b.1 ∧ b.1 ≤ 10 ∧ 1 ≤ b.2.1 ∧ b.2.1 ≤ 9 ∧ (b.2.2.length : Int) = b.1 * b.2.1 := fun h => by
    unfold boardOK at h; simp only [Bool.and_eq_true, decide_eq_true_eq] at h; exact h.1
  refine Ev.ite (fun h1 => ?_) (fun h => Ev.of (no h (fun hh => by simpa using (hb hh).1)))
  refine Ev.ite (fun h2 => ?_) (fun h => Ev.of (no h (fun hh => by simpa using (hb hh).2.1)))
  refine Ev.ite (fun h3 => ?_) (fun h => Ev.of (no h (fun hh => by simpa using (hb hh).2.2.1)))
  refine Ev.ite (fun h4 => ?_) (fun h => Ev.of (no h (fun hh => by simpa using (hb hh).2.2.2.1)))
  simp only [decide_eq_true_eq] at h1 h2 h3 h4
  have hp := prod_small h1 h2 h3 h4
  rw [w64 (by omega) (by omega)]
  refine Ev.ite (fun h5 => ?_) (fun h => Ev.of (no h (fun hh => by simpa using (hb hh).2.2.2.2)))
  simp only [decide_eq_true_eq] at h5
  refine Ev.bind (e_impl_validCells _ hl) (Ev.of ?_)
  have h6 : b.2.2.length ≤ 90 := by omega
  congr 1
  simp only [boardOK, h1, h2, h3, h4, ← h5, h6, and_self, decide_true, Bool.true_and]
theorem e_spec_boGood_0 : ∀ (r pre : List CellD), (pre ++ r).length ≤ 9223372036854775806 → Ev (fun k => f_spec_boGood_0 k (pre ++ r) ((pre ++ r).length : Int) (pre.length : Int)) (if r.all cellOK then LR.go () else LR.ret false)
  | [], pre, hl => by
    refine Ev.succ ?_
    simp only [f_spec_boGood_0, nlt_end, decide_false, Bool.false_eq_true, if_false, List.all_nil, if_true]
    exact Ev.some _
  | x :: r, pre, hl => by
    have ih := e_spec_boGood_0 r (pre ++ [x]) (by simpa using hl)
    refine Ev.succ ?_
    simp only [f_spec_boGood_0, lt_mid, ge_mid, decide_true, if_true, Int.toNat_natCast, getD_mid]
    rw [next_mid pre x r (by omega)]
    rw [← shift_mid] at ih
    refine Ev.bind (e_spec_paGood x) ?_
    cases hx : cellOK x with
    | true => simp only [hx, List.all_cons, Bool.true_and, Bool.not_true, Bool.false_eq_true, if_false]; exact ih
    | false => simp only [hx, List.all_cons, Bool.false_and, Bool.not_false, if_true, Bool.false_eq_true, if_false]; exact Ev.some _
theorem e_spec_boGood (b : BoardD) (hl : b.2.2.length ≤ 9223372036854775806) : Ev (fun k => f_spec_boGood k b) (boardOK b) := by
  refine Ev.succ ?_
  simp only [f_spec_boGood]
  have no : ∀ {c : Prop}, ¬ c → (boardOK b = true → c) → Option.some false = Option.some (boardOK b) := by
    intro c h1 h2
    cases hb : boardOK b with
    | true => exact absurd (h2 hb) h1
    | false => rfl
  have hb : boardOK b = true → 1 ≤ b.1 ∧ b.1 ≤ 10 ∧ 1 ≤ b.2.1 ∧ b.2.1 ≤ 9 ∧ (b.2.2.length : Int) = b.1 * b.2.1 := fun h => by
    unfold boardOK at h; simp only [Bool.and_eq_true, decide_eq_true_eq] at h; exact h.1
  refine Ev.bind (e_spec_l1In _ _ _) (Ev.ite (fun h => Ev.of (no (c := 1 ≤ b.1 ∧ b.1 ≤ 10) (nd h) (fun hh => ⟨(hb hh).1, (hb hh).2.1⟩))) (fun h1 => ?_))
  refine Ev.bind (e_spec_l1In _ _ _) (Ev.ite (fun h => Ev.of (no (c := 1 ≤ b.2.1 ∧ b.2.1 ≤ 9) (nd h) (fun hh => ⟨(hb hh).2.2.1, (hb hh).2.2.2.1⟩))) (fun h2 => ?_))
  have h1' : 1 ≤ b.1 ∧ b.1 ≤ 10 := yd h1
  have h2' : 1 ≤ b.2.1 ∧ b.2.1 ≤ 9 := yd h2
  have hp := prod_small h1'.1 h1'.2 h2'.1 h2'.2
  rw [w64 (by omega) (by omega)]
  refine Ev.ite (fun h => Ev.of (no (c := (b.2.2.length : Int) = b.1 * b.2.1) (by simpa using h) (fun hh => (hb hh).2.2.2.2))) (fun h3 => ?_)
  have h3' : (b.2.2.length : Int) = b.1 * b.2.1 := by simpa using h3
  refine Ev.bind (e_spec_boGood_0 b.2.2 [] (by simpa using hl)) ?_
  have hx2 : boardOK b = b.2.2.all cellOK := by unfold boardOK; simp only [h1'.1, h1'.2, h2'.1, h2'.2, h3', and_self, decide_true, Bool.true_and]
  rw [hx2]
  cases hx : b.2.2.all cellOK with
  | true => simp only [if_true]; exact Ev.go (Ev.some _)
  | false => simp only [Bool.false_eq_true, if_false]; exact Ev.ret (Ev.some _)
/-- What a valid board is. -/
theorem board_ok {b : BoardD} (h : boardOK b = true) : 1 ≤ b.1 ∧ b.1 ≤ 10 ∧ 1 ≤ b.2.1 ∧ b.2.1 ≤ 9 ∧ (b.2.2.length : Int) = b.1 * b.2.1 ∧ ∀ x ∈ b.2.2, cellOK x = true := by
  unfold boardOK at h
  simp only [Bool.and_eq_true, decide_eq_true_eq] at h
  exact ⟨h.1.1, h.1.2.1, h.1.2.2.1, h.1.2.2.2.1, h.1.2.2.2.2, List.all_eq_true.1 h.2⟩
theorem e_impl_onBoard (b : BoardD) (r c : Int) (hl : b.2.2.length ≤ 9223372036854775806) : Ev (fun k => f_impl_onBoard k b r c) (boardOK b && decide (0 ≤ r ∧ r < b.1 ∧ 0 ≤ c ∧ c < b.2.1)) := by
  refine Ev.succ ?_
  simp only [f_impl_onBoard, ge_iff_le]
  refine Ev.bind (e_impl_IsBoard b hl) (Ev.ite (fun h => ?_) (fun h => ?_))
  · rw [h, Bool.true_and]
    refine Ev.of ?_
    simp only [decide_eq_true_eq]
    repeat' split
    all_goals (congr 1; first | (symm; rw [decide_eq_true_eq]; omega) | (symm; rw [decide_eq_false_iff_not]; omega) | (apply decide_eq_decide.2; omega))
  · refine Ev.of ?_
    simp only [Bool.not_eq_true] at h
    rw [h]; rfl
/-- A place on a valid board. -/
theorem place_ok {b : BoardD} (h : boardOK b = true) {r c : Int} (h1 : 0 ≤ r) (h2 : r < b.1) (h3 : 0 ≤ c) (h4 : c < b.2.1) : 0 ≤ r * b.2.1 + c ∧ r * b.2.1 + c < (b.2.2.length : Int) ∧ r * b.2.1 + c ≤ 90 ∧ 0 ≤ r * b.2.1 ∧ r * b.2.1 ≤ 90 := by
  obtain ⟨g1, g2, g3, g4, g5, _⟩ := board_ok h
  have hp := prod_small g1 g2 g3 g4
  have k1 : 0 ≤ r * b.2.1 := Int.mul_nonneg h1 (by omega)
  have k2 : (r + 1) * b.2.1 ≤ b.1 * b.2.1 := Int.mul_le_mul_of_nonneg_right (by omega) (by omega)
  rw [Int.add_mul, Int.one_mul] at k2
  omega
theorem cell_in {l : List CellD} {i : Int} (h0 : 0 ≤ i) (h1 : i < (l.length : Int)) (d : CellD) : List.getD l i.toNat d ∈ l := by
  have : i.toNat < l.length := by omega
  simp [List.getD, List.getElem?_eq_getElem this]

end Go.Proofs.Ytgjmhbjdhihgaaa.Vs

set_option linter.unusedVariables false
set_option linter.unusedSimpArgs false
namespace Go.Proofs.Ytgjmhbjdhihgaaa.Vs
open Go.RowKit
def geared (x : CellD) : Bool := decide (x.1 = 6 ∨ x.1 = 7)
theorem e_impl_isGeared (x : CellD) : Ev (fun k => f_impl_isGeared k x) (geared x) := by
  refine Ev.succ ?_
  simp only [f_impl_isGeared]
  refine Ev.of ?_
  by_cases h1 : x.1 = 6 <;> simp [geared, h1]
theorem e_spec_ggGear (x : CellD) : Ev (fun k => f_spec_ggGear k x) (geared x) := by
  refine Ev.succ ?_
  simp only [f_spec_ggGear]
  refine Ev.of ?_
  by_cases h1 : x.1 = 6 <;> simp [geared, h1]
/-- The places beside a place. -/
def nears (b : BoardD) (i : Int) : List Int := (if 0 < Int.tdiv i b.2.1 then [i - b.2.1] else []) ++ (if 0 < Int.tmod i b.2.1 then [i - 1] else []) ++ (if Int.tmod i b.2.1 + 1 < b.2.1 then [i + 1] else []) ++ (if Int.tdiv i b.2.1 + 1 < b.1 then [i + b.2.1] else [])
theorem place_parts {b : BoardD} (hb : boardOK b = true) {i : Int} (h0 : 0 ≤ i) (h1 : i < (b.2.2.length : Int)) : ∃ q m t : Int, Int.tdiv i b.2.1 = q ∧ Int.tmod i b.2.1 = m ∧ i = t + m ∧ 0 ≤ m ∧ m < b.2.1 ∧ 0 ≤ q ∧ q < b.1 ∧ 0 ≤ t ∧ t + b.2.1 ≤ (b.2.2.length : Int) ∧ (1 ≤ q → b.2.1 ≤ t) ∧ (q + 1 < b.1 → t + b.2.1 + b.2.1 ≤ (b.2.2.length : Int)) := by
  obtain ⟨g1, g2, g3, g4, g5, g6⟩ := board_ok hb
  have hq : Int.tdiv i b.2.1 = i / b.2.1 := Int.tdiv_eq_ediv_of_nonneg h0
  have hm : Int.tmod i b.2.1 = i % b.2.1 := Int.tmod_eq_emod_of_nonneg h0
  have e1 := Int.mul_ediv_add_emod i b.2.1
  have e2 := Int.emod_nonneg i (show b.2.1 ≠ 0 by omega)
  have e3 := Int.emod_lt_of_pos i (show 0 < b.2.1 by omega)
  have e4 : 0 ≤ i / b.2.1 := Int.ediv_nonneg h0 (by omega)
  have e5 : i / b.2.1 < b.1 := Int.ediv_lt_of_lt_mul (by omega) (by rw [← g5]; exact h1)
  have e6 : 0 ≤ b.2.1 * (i / b.2.1) := Int.mul_nonneg (by omega) e4
  have e7 : b.2.1 * (i / b.2.1 + 1) ≤ b.2.1 * b.1 := Int.mul_le_mul_of_nonneg_left (by omega) (by omega)
  rw [Int.mul_add, Int.mul_one, Int.mul_comm b.2.1 b.1, ← g5] at e7
  refine ⟨_, _, b.2.1 * (i / b.2.1), hq, hm, by omega, e2, e3, e4, e5, e6, e7, fun h => ?_, fun h => ?_⟩
  · have := Int.mul_le_mul_of_nonneg_left h (show 0 ≤ b.2.1 by omega)
    omega
  · have e8 : b.2.1 * (i / b.2.1 + 2) ≤ b.2.1 * b.1 := Int.mul_le_mul_of_nonneg_left (by omega) (by omega)
    rw [Int.mul_add, Int.mul_comm b.2.1 b.1, ← g5] at e8
    omega
theorem nears_in {b : BoardD} (hb : boardOK b = true) {i : Int} (h0 : 0 ≤ i) (h1 : i < (b.2.2.length : Int)) : ∀ n ∈ nears b i, 0 ≤ n ∧ n < (b.2.2.length : Int) := by
  obtain ⟨q, m, t, hq, hm, k1, k2, k3, k4, k5, k6, k7, k8, k9⟩ := place_parts hb h0 h1
  intro n hn
  unfold nears at hn
  rw [hq, hm] at hn
  simp only [List.mem_append] at hn
  rcases hn with ((hn | hn) | hn) | hn
  · split at hn
    · have := List.mem_singleton.1 hn; have := k8 (by omega); omega
    · cases hn
  · split at hn
    · have := List.mem_singleton.1 hn; omega
    · cases hn
  · split at hn
    · have := List.mem_singleton.1 hn; omega
    · cases hn
  · split at hn
    · have := List.mem_singleton.1 hn; have := k9 (by omega); omega
    · cases hn
theorem nears_len (b : BoardD) (i : Int) : (nears b i).length ≤ 4 := by
  unfold nears
  simp only [List.length_append]
  have h1 : ∀ (c : Prop) [Decidable c] (x : Int), (if c then [x] else []).length ≤ 1 := by intro c _ x; split <;> simp
  have a1 := h1 (0 < Int.tdiv i b.2.1) (i - b.2.1)
  have a2 := h1 (0 < Int.tmod i b.2.1) (i - 1)
  have a3 := h1 (Int.tmod i b.2.1 + 1 < b.2.1) (i + 1)
  have a4 := h1 (Int.tdiv i b.2.1 + 1 < b.1) (i + b.2.1)
  omega
theorem e_impl_besideOf (b : BoardD) (hb : boardOK b = true) (i : Int) (h0 : 0 ≤ i) (h1 : i < (b.2.2.length : Int)) : Ev (fun k => f_impl_besideOf k b i) (nears b i) := by
  obtain ⟨g1, g2, g3, g4, g5, g6⟩ := board_ok hb
  have hp := prod_small g1 g2 g3 g4
  obtain ⟨q, m, t, hq, hm, k1, k2, k3, k4, k5, k6, k7, k8, k9⟩ := place_parts hb h0 h1
  have hC : ¬ b.2.1 = 0 := by omega
  refine Ev.succ ?_
  simp only [f_impl_besideOf, hC, if_false, nears, hq, hm, gt_iff_lt]
  rw [w64 (n := q) (by omega) (by omega), w64 (n := q + 1) (by omega) (by omega), w64 (n := m + 1) (by omega) (by omega), w64 (n := i - b.2.1) (by omega) (by omega), w64 (n := i - 1) (by omega) (by omega), w64 (n := i + 1) (by omega) (by omega), w64 (n := i + b.2.1) (by omega) (by omega)]
  refine Ev.of ?_
  by_cases h1 : 0 < q <;> by_cases h2 : 0 < m <;> by_cases h3 : m + 1 < b.2.1 <;> by_cases h4 : q + 1 < b.1 <;> simp [h1, h2, h3, h4]
theorem e_spec_ggNear (b : BoardD) (hb : boardOK b = true) (i : Int) (h0 : 0 ≤ i) (h1 : i < (b.2.2.length : Int)) : Ev (fun k => f_spec_ggNear k b i) (nears b i) := by
  obtain ⟨g1, g2, g3, g4, g5, g6⟩ := board_ok hb
  have hp := prod_small g1 g2 g3 g4
  obtain ⟨q, m, t, hq, hm, k1, k2, k3, k4, k5, k6, k7, k8, k9⟩ := place_parts hb h0 h1
  have hC : ¬ b.2.1 = 0 := by omega
  refine Ev.succ ?_
  simp only [f_spec_ggNear, hC, if_false, nears, hq, hm, gt_iff_lt]
  rw [w64 (n := q) (by omega) (by omega), w64 (n := q + 1) (by omega) (by omega), w64 (n := m + 1) (by omega) (by omega), w64 (n := i - b.2.1) (by omega) (by omega), w64 (n := i - 1) (by omega) (by omega), w64 (n := i + 1) (by omega) (by omega), w64 (n := i + b.2.1) (by omega) (by omega)]
  refine Ev.of ?_
  by_cases h1 : 0 < q <;> by_cases h2 : 0 < m <;> by_cases h3 : m + 1 < b.2.1 <;> by_cases h4 : q + 1 < b.1 <;> simp [h1, h2, h3, h4]
/-! ### One wave -/
def visit (b : BoardD) (v : Int) (G : List Int × List Int) (n : Int) : List Int × List Int := if geared (List.getD b.2.2 n.toNat (0, 0)) && decide (List.getD G.1 n.toNat 0 < 0) then (List.set G.1 n.toNat v, G.2 ++ [n]) else G
/-- How many have no number yet. -/
def unl (l : List Int) : Nat := l.countP fun x => decide (x < 0)
theorem unl_set (v : Int) (hv : 0 ≤ v) : ∀ (l : List Int) (i : Nat), i < l.length → List.getD l i 0 < 0 → unl (l.set i v) + 1 = unl l
  | [], i, h, _ => by simp at h
  | x :: l, 0, _, h => by
    have h' : x < 0 := by simpa using h
    have : ¬ v < 0 := by omega
    simp [unl, h', this]
  | x :: l, i + 1, h, h2 => by
    have ih := unl_set v hv l i (by simpa using h) (by simpa using h2)
    simp only [unl, List.set_cons_succ, List.countP_cons] at ih ⊢
    omega
theorem unl_len (l : List Int) : unl l ≤ l.length := List.countP_le_length
theorem visit_len (b : BoardD) (v : Int) (G : List Int × List Int) (n : Int) : (visit b v G n).1.length = G.1.length := by
  unfold visit; split <;> simp
theorem visits_len (b : BoardD) (v : Int) : ∀ (r : List Int) (G : List Int × List Int), (r.foldl (visit b v) G).1.length = G.1.length
  | [], G => rfl
  | n :: r, G => by rw [List.foldl_cons, visits_len b v r, visit_len]
theorem visit_unl (b : BoardD) (v : Int) (hv : 0 ≤ v) (G : List Int × List Int) (n : Int) (h0 : 0 ≤ n) (h1 : n < (G.1.length : Int)) : unl (visit b v G n).1 + (visit b v G n).2.length = unl G.1 + G.2.length := by
  unfold visit
  split
  · rename_i hc
    simp only [Bool.and_eq_true, decide_eq_true_eq] at hc
    have := unl_set v hv G.1 n.toNat (by omega) hc.2
    simp only [List.length_append, List.length_singleton]
    omega
  · rfl
theorem visits_unl (b : BoardD) (v : Int) (hv : 0 ≤ v) : ∀ (r : List Int) (G : List Int × List Int), (∀ n ∈ r, 0 ≤ n ∧ n < (G.1.length : Int)) → unl (r.foldl (visit b v) G).1 + (r.foldl (visit b v) G).2.length = unl G.1 + G.2.length
  | [], G, _ => rfl
  | n :: r, G, h => by
    rw [List.foldl_cons, visits_unl b v hv r _ (fun m hm => by rw [visit_len]; exact h m (List.mem_cons_of_mem _ hm))]
    exact visit_unl b v hv G n (h n (List.mem_cons_self ..)).1 (h n (List.mem_cons_self ..)).2
theorem visits_app (b : BoardD) (v : Int) : ∀ (r : List Int) (o2 o3 a : List Int), (r.foldl (visit b v) (o2, o3 ++ a)) = ((r.foldl (visit b v) (o2, a)).1, o3 ++ (r.foldl (visit b v) (o2, a)).2)
  | [], o2, o3, a => rfl
  | n :: r, o2, o3, a => by
    simp only [List.foldl_cons]
    by_cases hc : (geared (List.getD b.2.2 n.toNat (0, 0)) && decide (List.getD o2 n.toNat 0 < 0)) = true
    · have e1 : visit b v (o2, o3 ++ a) n = (List.set o2 n.toNat v, o3 ++ (a ++ [n])) := by simp only [visit]; rw [if_pos hc, List.append_assoc]
      have e2 : visit b v (o2, a) n = (List.set o2 n.toNat v, a ++ [n]) := by simp only [visit]; rw [if_pos hc]
      rw [e1, e2]
      exact visits_app b v r _ o3 _
    · have e1 : visit b v (o2, o3 ++ a) n = (o2, o3 ++ a) := by simp only [visit]; rw [if_neg hc]
      have e2 : visit b v (o2, a) n = (o2, a) := by simp only [visit]; rw [if_neg hc]
      rw [e1, e2]
      exact visits_app b v r o2 o3 a
theorem visits_mem (b : BoardD) (v : Int) (P : Int → Prop) : ∀ (r : List Int) (G : List Int × List Int), (∀ n ∈ r, P n) → (∀ n ∈ G.2, P n) → ∀ n ∈ (r.foldl (visit b v) G).2, P n
  | [], G, _, h => h
  | m :: r, G, h, hg => by
    rw [List.foldl_cons]
    refine visits_mem b v P r _ (fun n hn => h n (List.mem_cons_of_mem _ hn)) (fun n hn => ?_)
    unfold visit at hn
    split at hn
    · rcases List.mem_append.1 hn with hn | hn
      · exact hg n hn
      · rw [List.mem_singleton.1 hn]; exact h m (List.mem_cons_self ..)
    · exact hg n hn
theorem e_impl_groupNumbers_6 (b : BoardD) (hb : boardOK b = true) (v : Int) (hv : 0 ≤ v) (v26 : List CellD) (v27 v28 : Int) : ∀ (r pre o2 o3 : List Int), (∀ n ∈ r, 0 ≤ n ∧ n < (b.2.2.length : Int)) → (pre ++ r).length ≤ 100 → o2.length = b.2.2.length → o3.length + unl o2 ≤ 1000 →
    Ev (fun k => f_impl_groupNumbers_6 k b.1 b.2.1 b.2.2 o2 o3 (pre ++ r) v  v26 v27 v28 ((pre ++ r).length : Int) (pre.length : Int)) (b.1, b.2.1, b.2.2, (r.foldl (visit b v) (o2, o3)).1, (r.foldl (visit b v) (o2, o3)).2, v, v26, v27, v28)
  | [], pre, o2, o3, hr, hl, h2, h3 => by
    refine Ev.succ ?_
    simp only [f_impl_groupNumbers_6, nlt_end, decide_false, Bool.false_eq_true, if_false]
    exact Ev.some _
  | x :: r, pre, o2, o3, hr, hl, h2, h3 => by
    obtain ⟨hx0, hx1⟩ := hr x (List.mem_cons_self ..)
    have hx2 : x < (o2.length : Int) := by omega
    have hr' : ∀ n ∈ r, 0 ≤ n ∧ n < (b.2.2.length : Int) := fun n hn => hr n (List.mem_cons_of_mem _ hn)
    have ih0 := e_impl_groupNumbers_6 b hb v hv  v26 v27 v28 r (pre ++ [x]) o2 o3 hr' (by simpa using hl) h2 h3
    rw [← shift_mid] at ih0
    have hn := next_mid pre x r (by omega)
    refine Ev.succ ?_
    simp only [f_impl_groupNumbers_6, lt_mid, ge_mid, decide_true, if_true, Int.toNat_natCast, getD_mid, hn, hx0, hx1, hx2]
    refine Ev.bind (e_impl_isGeared (List.getD b.2.2 x.toNat (0, 0))) ?_
    rw [List.foldl_cons]
    by_cases hg : geared (List.getD b.2.2 x.toNat (0, 0)) = true
    · simp only [hg, if_true]
      by_cases ho : List.getD o2 x.toNat 0 < 0
      · have e1 : visit b v (o2, o3) x = (List.set o2 x.toNat v, o3 ++ [x]) := by unfold visit; rw [if_pos (by simp only [hg, ho, decide_true, Bool.and_self])]
        have hu := unl_set v hv o2 x.toNat (by omega) ho
        have hle : o3.length + 1 ≤ 140737488355328 / 8 := by omega
        have ih := e_impl_groupNumbers_6 b hb v hv  v26 v27 v28 r (pre ++ [x]) (List.set o2 x.toNat v) (o3 ++ [x]) hr' (by simpa using hl) (by simpa using h2) (by simp; omega)
        rw [← shift_mid] at ih
        simp only [ho, decide_true, if_true, List.length_singleton, hle]
        rw [e1]
        exact ih
      · have e1 : visit b v (o2, o3) x = (o2, o3) := by unfold visit; rw [if_neg (by simp only [ho, decide_false, Bool.and_false, Bool.false_eq_true, not_false_eq_true])]
        simp only [ho, decide_false, Bool.false_eq_true, if_false]
        rw [e1]
        exact ih0
    · have e1 : visit b v (o2, o3) x = (o2, o3) := by unfold visit; rw [if_neg (by simp only [hg, Bool.false_and, Bool.false_eq_true, not_false_eq_true])]
      simp only [hg, Bool.false_eq_true, if_false]
      rw [e1]
      exact ih0
theorem e_spec_ggGroups_6 (b : BoardD) (hb : boardOK b = true) (v : Int) (hv : 0 ≤ v) (v9 : Int) (v26 : List CellD) (v27 v28 : Int) : ∀ (r pre o2 o3 : List Int), (∀ n ∈ r, 0 ≤ n ∧ n < (b.2.2.length : Int)) → (pre ++ r).length ≤ 100 → o2.length = b.2.2.length → o3.length + unl o2 ≤ 1000 →
    Ev (fun k => f_spec_ggGroups_6 k b.1 b.2.1 b.2.2 o2 o3 (pre ++ r) v v9 v26 v27 v28 ((pre ++ r).length : Int) (pre.length : Int)) (b.1, b.2.1, b.2.2, (r.foldl (visit b v) (o2, o3)).1, (r.foldl (visit b v) (o2, o3)).2, v, v9, v26, v27, v28)
  | [], pre, o2, o3, hr, hl, h2, h3 => by
    refine Ev.succ ?_
    simp only [f_spec_ggGroups_6, nlt_end, decide_false, Bool.false_eq_true, if_false]
    exact Ev.some _
  | x :: r, pre, o2, o3, hr, hl, h2, h3 => by
    obtain ⟨hx0, hx1⟩ := hr x (List.mem_cons_self ..)
    have hx2 : x < (o2.length : Int) := by omega
    have hr' : ∀ n ∈ r, 0 ≤ n ∧ n < (b.2.2.length : Int) := fun n hn => hr n (List.mem_cons_of_mem _ hn)
    have ih0 := e_spec_ggGroups_6 b hb v hv v9 v26 v27 v28 r (pre ++ [x]) o2 o3 hr' (by simpa using hl) h2 h3
    rw [← shift_mid] at ih0
    have hn := next_mid pre x r (by omega)
    refine Ev.succ ?_
    simp only [f_spec_ggGroups_6, lt_mid, ge_mid, decide_true, if_true, Int.toNat_natCast, getD_mid, hn, hx0, hx1, hx2]
    refine Ev.bind (e_spec_ggGear (List.getD b.2.2 x.toNat (0, 0))) ?_
    rw [List.foldl_cons]
    by_cases hg : geared (List.getD b.2.2 x.toNat (0, 0)) = true
    · simp only [hg, if_true]
      by_cases ho : List.getD o2 x.toNat 0 < 0
      · have e1 : visit b v (o2, o3) x = (List.set o2 x.toNat v, o3 ++ [x]) := by unfold visit; rw [if_pos (by simp only [hg, ho, decide_true, Bool.and_self])]
        have hu := unl_set v hv o2 x.toNat (by omega) ho
        have hle : o3.length + 1 ≤ 140737488355328 / 8 := by omega
        have ih := e_spec_ggGroups_6 b hb v hv v9 v26 v27 v28 r (pre ++ [x]) (List.set o2 x.toNat v) (o3 ++ [x]) hr' (by simpa using hl) (by simpa using h2) (by simp; omega)
        rw [← shift_mid] at ih
        simp only [ho, decide_true, if_true, List.length_singleton, hle]
        rw [e1]
        exact ih
      · have e1 : visit b v (o2, o3) x = (o2, o3) := by unfold visit; rw [if_neg (by simp only [ho, decide_false, Bool.and_false, Bool.false_eq_true, not_false_eq_true])]
        simp only [ho, decide_false, Bool.false_eq_true, if_false]
        rw [e1]
        exact ih0
    · have e1 : visit b v (o2, o3) x = (o2, o3) := by unfold visit; rw [if_neg (by simp only [hg, Bool.false_and, Bool.false_eq_true, not_false_eq_true])]
      simp only [hg, Bool.false_eq_true, if_false]
      rw [e1]
      exact ih0
/-- Waves, as long as there are places to look at. -/
def bfs (b : BoardD) (v : Int) : Nat → List Int → List Int → List Int
  | 0, o2, _ => o2
  | _ + 1, o2, [] => o2
  | n + 1, o2, x :: q => bfs b v n ((nears b x).foldl (visit b v) (o2, [])).1 (q ++ ((nears b x).foldl (visit b v) (o2, [])).2)
theorem bfs_len (b : BoardD) (v : Int) : ∀ (n : Nat) (o2 q : List Int), (bfs b v n o2 q).length = o2.length
  | 0, o2, _ => rfl
  | _ + 1, o2, [] => rfl
  | n + 1, o2, x :: q => by simp only [bfs]; rw [bfs_len b v n, visits_len]
theorem e_impl_groupNumbers_4 (b : BoardD) (hb : boardOK b = true) (v : Int) (hv : 0 ≤ v) (v26 : List CellD) (v27 v28 : Int) : ∀ (n : Nat) (o2 q : List Int), (∀ m ∈ q, 0 ≤ m ∧ m < (b.2.2.length : Int)) → o2.length = b.2.2.length → unl o2 + q.length + 1 ≤ n → q.length + unl o2 ≤ 1000 →
    Ev (fun k => f_impl_groupNumbers_4 k b.1 b.2.1 b.2.2 o2 q v v26 v27 v28) (b.1, b.2.1, b.2.2, bfs b v n o2 q, v, v26, v27, v28)
  | 0, o2, q, hq, h2, hn, hm => by omega
  | n + 1, o2, [], hq, h2, hn, hm => by
    refine Ev.succ ?_
    simp only [f_impl_groupNumbers_4, List.length_nil]
    have : ¬ ((0 : Nat) : Int) > 0 := by omega
    simp only [this, decide_false, Bool.false_eq_true, if_false]
    exact Ev.some _
  | n + 1, o2, x :: q, hq, h2, hn, hm => by
    obtain ⟨hx0, hx1⟩ := hq x (List.mem_cons_self ..)
    have hlen : (((x :: q).length : Nat) : Int) > 0 := by simp only [List.length_cons]; omega
    have hlen1 : (1 : Int) ≤ (((x :: q).length : Nat) : Int) := by omega
    have hlen0 : (0 : Int) < (((x :: q).length : Nat) : Int) := by omega
    have hin := nears_in hb hx0 hx1
    have hun := visits_unl b v hv (nears b x) (o2, []) (fun m hm => by rw [h2]; exact hin m hm)
    simp only [List.length_nil, Nat.add_zero] at hun
    simp only [List.length_cons] at hn hm
    refine Ev.succ ?_
    simp only [f_impl_groupNumbers_4, hlen, hlen1, hlen0, Int.le_refl, decide_true, if_true]
    refine Ev.bind (e_impl_besideOf b hb x hx0 hx1) ?_
    have h6 := e_impl_groupNumbers_6 b hb v hv v26 v27 v28 (nears b x) [] o2 q hin (by have := nears_len b x; simp; omega) h2 (by omega)
    refine Ev.bind h6 ?_
    have happ := visits_app b v (nears b x) o2 q []
    rw [List.append_nil] at happ
    rw [happ]
    show Ev (fun k => f_impl_groupNumbers_4 k b.1 b.2.1 b.2.2 (List.foldl (visit b v) (o2, []) (nears b x)).1 (q ++ (List.foldl (visit b v) (o2, []) (nears b x)).2) v v26 v27 v28) _
    exact e_impl_groupNumbers_4 b hb v hv v26 v27 v28 n _ _ (fun m hm => by
      rcases List.mem_append.1 hm with hm | hm
      · exact hq m (List.mem_cons_of_mem _ hm)
      · exact visits_mem b v (fun m => 0 ≤ m ∧ m < (b.2.2.length : Int)) (nears b x) (o2, []) hin (fun m hm => by cases hm) m hm) (by rw [visits_len]; exact h2) (by rw [List.length_append]; omega) (by rw [List.length_append]; omega)
theorem e_spec_ggGroups_4 (b : BoardD) (hb : boardOK b = true) (v : Int) (hv : 0 ≤ v) (v26 : List CellD) (v27 v28 : Int) : ∀ (n : Nat) (o2 q pre : List Int), (∀ m ∈ q, 0 ≤ m ∧ m < (b.2.2.length : Int)) → o2.length = b.2.2.length → unl o2 + q.length + 1 ≤ n → (pre ++ q).length + unl o2 ≤ 1000 →
    Ev (fun k => f_spec_ggGroups_4 k b.1 b.2.1 b.2.2 o2 (pre ++ q) v (pre.length : Int) v26 v27 v28) (b.1, b.2.1, b.2.2, bfs b v n o2 q, v, v26, v27, v28)
  | 0, o2, q, pre, hq, h2, hn, hm => by omega
  | n + 1, o2, [], pre, hq, h2, hn, hm => by
    refine Ev.succ ?_
    simp only [f_spec_ggGroups_4, nlt_end, decide_false, Bool.false_eq_true, if_false]
    exact Ev.some _
  | n + 1, o2, x :: q, pre, hq, h2, hn, hm => by
    obtain ⟨hx0, hx1⟩ := hq x (List.mem_cons_self ..)
    have hin := nears_in hb hx0 hx1
    have hun := visits_unl b v hv (nears b x) (o2, []) (fun m hm => by rw [h2]; exact hin m hm)
    simp only [List.length_nil, Nat.add_zero] at hun
    have hm' := hm
    simp only [List.length_cons, List.length_append] at hn hm'
    refine Ev.succ ?_
    simp only [f_spec_ggGroups_4, lt_mid, ge_mid, decide_true, if_true, Int.toNat_natCast, getD_mid]
    refine Ev.bind (e_spec_ggNear b hb x hx0 hx1) ?_
    have h6 := e_spec_ggGroups_6 b hb v hv (pre.length : Int) v26 v27 v28 (nears b x) [] o2 (pre ++ x :: q) hin (by have := nears_len b x; simp; omega) h2 hm
    refine Ev.bind h6 ?_
    have happ := visits_app b v (nears b x) o2 (pre ++ x :: q) []
    rw [List.append_nil] at happ
    rw [happ]
    show Ev (fun k => f_spec_ggGroups_4 k b.1 b.2.1 b.2.2 (List.foldl (visit b v) (o2, []) (nears b x)).1 ((pre ++ x :: q) ++ (List.foldl (visit b v) (o2, []) (nears b x)).2) v (wrap64 ((pre.length : Int) + 1)) v26 v27 v28) _
    rw [next_mid pre x q (by simp; omega), shift_mid, List.append_assoc]
    exact e_spec_ggGroups_4 b hb v hv v26 v27 v28 n _ _ (pre ++ [x]) (fun m hm => by
      rcases List.mem_append.1 hm with hm | hm
      · exact hq m (List.mem_cons_of_mem _ hm)
      · exact visits_mem b v (fun m => 0 ≤ m ∧ m < (b.2.2.length : Int)) (nears b x) (o2, []) hin (fun m hm => by cases hm) m hm) (by rw [visits_len]; exact h2) (by rw [List.length_append]; omega) (by simp only [List.length_append, List.length_singleton]; omega)
/-! ### All groups -/
def groupsFrom (b : BoardD) : Int → List CellD → List Int → Int → List Int
  | _, [], o2, _ => o2
  | i, x :: r, o2, v => if geared x && decide (List.getD o2 i.toNat 0 < 0) then groupsFrom b (i + 1) r (bfs b v 200 (List.set o2 i.toNat v) [i]) (v + 1) else groupsFrom b (i + 1) r o2 v
theorem groupsFrom_len (b : BoardD) : ∀ (r : List CellD) (i : Int) (o2 : List Int) (v : Int), (groupsFrom b i r o2 v).length = o2.length
  | [], _, _, _ => rfl
  | x :: r, i, o2, v => by
    simp only [groupsFrom]
    split
    · rw [groupsFrom_len b r, bfs_len, List.length_set]
    · exact groupsFrom_len b r _ _ _
def groupsOf (b : BoardD) : List Int := groupsFrom b 0 b.2.2 (List.replicate b.2.2.length (-1)) 0
theorem groupsOf_len (b : BoardD) : (groupsOf b).length = b.2.2.length := by unfold groupsOf; rw [groupsFrom_len]; simp
theorem e_impl_groupNumbers_0 (b : BoardD) (m : Int) : ∀ (r pre : List Int), m = ((pre ++ r).length : Int) → (pre ++ r).length ≤ 1000 → Ev (fun k => f_impl_groupNumbers_0 k b.1 b.2.1 b.2.2 (pre ++ r) m (pre.length : Int)) (b.1, b.2.1, b.2.2, pre ++ List.replicate r.length (-1))
  | [], pre, hm, hl => by
    refine Ev.succ ?_
    have : ¬ (pre.length : Int) < m := by rw [hm]; exact nlt_end pre
    simp only [f_impl_groupNumbers_0, this, decide_false, Bool.false_eq_true, if_false]
    exact Ev.of (by simp)
  | x :: r, pre, hm, hl => by
    have ih := e_impl_groupNumbers_0 b m r (pre ++ [-1]) (by rw [hm]; simp) (by simpa using hl)
    have hlt : (pre.length : Int) < m := by rw [hm]; exact lt_mid _ _ _
    have hn2 : ((pre ++ [x]).length : Int) = ((pre ++ [(-1 : Int)]).length : Int) := by simp
    refine Ev.succ ?_
    simp only [f_impl_groupNumbers_0, hlt, lt_mid, ge_mid, decide_true, if_true, Int.toNat_natCast, set_mid]
    rw [next_mid pre x r (by omega), hn2]
    rw [← shift_mid] at ih
    refine ih.congr ?_
    simp [List.replicate_succ]
theorem e_impl_groupNumbers_2 (b : BoardD) (hb : boardOK b = true) : ∀ (r pre : List CellD) (o2 : List Int) (v : Int), pre ++ r = b.2.2 → o2.length = b.2.2.length → 0 ≤ v → v ≤ pre.length → Ev (fun k => f_impl_groupNumbers_2 k b.1 b.2.1 b.2.2 o2 v (pre ++ r) ((pre ++ r).length : Int) (pre.length : Int)) (groupsFrom b pre.length r o2 v)
  | [], pre, o2, v, hpr, h2, hv, hv2 => by
    refine Ev.succ ?_
    simp only [f_impl_groupNumbers_2, nlt_end, decide_false, Bool.false_eq_true, if_false]
    exact Ev.some _
  | x :: r, pre, o2, v, hpr, h2, hv, hv2 => by
    obtain ⟨g1, g2, g3, g4, g5, g6⟩ := board_ok hb
    have hp := prod_small g1 g2 g3 g4
    have hl90 : (pre ++ x :: r).length ≤ 90 := by rw [hpr]; omega
    have hn := next_mid pre x r (by omega)
    have hc : ((pre ++ [x]).length : Int) = (pre.length : Int) + 1 := by simp
    have hlt := lt_mid pre x r
    have hlo : (pre.length : Int) < (o2.length : Int) := by rw [h2, ← hpr]; exact hlt
    have ih0 := e_impl_groupNumbers_2 b hb r (pre ++ [x]) o2 v (by rw [← hpr]; simp) h2 hv (by simp; omega)
    rw [← shift_mid, hc] at ih0
    refine Ev.succ ?_
    simp only [f_impl_groupNumbers_2, lt_mid, ge_mid, decide_true, if_true, Int.toNat_natCast, getD_mid, hn, hc, hlo]
    refine Ev.bind (e_impl_isGeared x) ?_
    cases hg : geared x with
    | false =>
      simp only [Bool.not_false, if_true, groupsFrom, hg, Bool.false_and, Bool.false_eq_true, if_false]
      exact ih0
    | true =>
      simp only [Bool.not_true, Bool.false_eq_true, if_false]
      refine Ev.ite (fun h => ?_) (fun h => ?_)
      · simp only [ge_iff_le, decide_eq_true_eq] at h
        have hno : ¬ List.getD o2 pre.length 0 < 0 := by omega
        simp only [groupsFrom, hg, Int.toNat_natCast, hno, decide_false, Bool.and_false, Bool.false_eq_true, if_false]
        exact ih0
      · simp only [ge_iff_le, decide_eq_true_eq] at h
        have hno : List.getD o2 pre.length 0 < 0 := by omega
        have hul := unl_len (List.set o2 pre.length v)
        rw [List.length_set, h2, ← hpr] at hul
        have h4 := e_impl_groupNumbers_4 b hb v hv (pre ++ x :: r) ((pre ++ x :: r).length : Int) (pre.length : Int) 200 (List.set o2 pre.length v) [(pre.length : Int)] (fun m hm => by rw [List.mem_singleton.1 hm, ← hpr]; exact ⟨by omega, hlt⟩) (by rw [List.length_set]; exact h2) (by simp; omega) (by simp; omega)
        refine Ev.bind h4 ?_
        have ih := e_impl_groupNumbers_2 b hb r (pre ++ [x]) (bfs b v 200 (List.set o2 pre.length v) [(pre.length : Int)]) (v + 1) (by rw [← hpr]; simp) (by rw [bfs_len, List.length_set]; exact h2) (by omega) (by simp; omega)
        rw [← shift_mid, hc] at ih
        show Ev (fun k => f_impl_groupNumbers_2 k b.1 b.2.1 b.2.2 (bfs b v 200 (List.set o2 pre.length v) [(pre.length : Int)]) (wrap64 (v + 1)) (pre ++ x :: r) ((pre ++ x :: r).length : Int) (wrap64 ((pre.length : Int) + 1))) _
        rw [w64 (n := v + 1) (by omega) (by omega), hn, hc]
        simp only [groupsFrom, hg, Int.toNat_natCast, hno, decide_true, Bool.and_self, if_true]
        exact ih
theorem e_impl_groupNumbers (b : BoardD) (hb : boardOK b = true) : Ev (fun k => f_impl_groupNumbers k b) (groupsOf b) := by
  obtain ⟨g1, g2, g3, g4, g5, g6⟩ := board_ok hb
  have hp := prod_small g1 g2 g3 g4
  have hm : b.2.2.length * 8 ≤ 281474976710656 := by omega
  refine Ev.succ ?_
  simp only [f_impl_groupNumbers, Int.toNat_natCast, hm, if_true]
  refine Ev.bind (e_impl_groupNumbers_0 b _ (List.replicate b.2.2.length 0) [] rfl (by simp; omega)) ?_
  have hrep : ([] : List Int) ++ List.replicate (List.replicate b.2.2.length (0 : Int)).length (-1) = List.replicate b.2.2.length (-1) := by simp
  rw [hrep]
  exact Ev.bind (e_impl_groupNumbers_2 b hb b.2.2 [] (List.replicate b.2.2.length (-1)) 0 rfl (by simp) (by omega) (by simp)) (Ev.some _)
theorem e_spec_ggGroups_0 (b : BoardD) (m : Int) : ∀ (r pre : List Int), m = ((pre ++ r).length : Int) → (pre ++ r).length ≤ 1000 → Ev (fun k => f_spec_ggGroups_0 k b.1 b.2.1 b.2.2 (pre ++ r) m (pre.length : Int)) (b.1, b.2.1, b.2.2, pre ++ List.replicate r.length (-1))
  | [], pre, hm, hl => by
    refine Ev.succ ?_
    have : ¬ (pre.length : Int) < m := by rw [hm]; exact nlt_end pre
    simp only [f_spec_ggGroups_0, this, decide_false, Bool.false_eq_true, if_false]
    exact Ev.of (by simp)
  | x :: r, pre, hm, hl => by
    have ih := e_spec_ggGroups_0 b m r (pre ++ [-1]) (by rw [hm]; simp) (by simpa using hl)
    have hlt : (pre.length : Int) < m := by rw [hm]; exact lt_mid _ _ _
    have hn2 : ((pre ++ [x]).length : Int) = ((pre ++ [(-1 : Int)]).length : Int) := by simp
    refine Ev.succ ?_
    simp only [f_spec_ggGroups_0, hlt, lt_mid, ge_mid, decide_true, if_true, Int.toNat_natCast, set_mid]
    rw [next_mid pre x r (by omega), hn2]
    rw [← shift_mid] at ih
    refine ih.congr ?_
    simp [List.replicate_succ]
theorem e_spec_ggGroups_2 (b : BoardD) (hb : boardOK b = true) : ∀ (r pre : List CellD) (o2 : List Int) (v : Int), pre ++ r = b.2.2 → o2.length = b.2.2.length → 0 ≤ v → v ≤ pre.length → Ev (fun k => f_spec_ggGroups_2 k b.1 b.2.1 b.2.2 o2 v (pre ++ r) ((pre ++ r).length : Int) (pre.length : Int)) (groupsFrom b pre.length r o2 v)
  | [], pre, o2, v, hpr, h2, hv, hv2 => by
    refine Ev.succ ?_
    simp only [f_spec_ggGroups_2, nlt_end, decide_false, Bool.false_eq_true, if_false]
    exact Ev.some _
  | x :: r, pre, o2, v, hpr, h2, hv, hv2 => by
    obtain ⟨g1, g2, g3, g4, g5, g6⟩ := board_ok hb
    have hp := prod_small g1 g2 g3 g4
    have hl90 : (pre ++ x :: r).length ≤ 90 := by rw [hpr]; omega
    have hn := next_mid pre x r (by omega)
    have hc : ((pre ++ [x]).length : Int) = (pre.length : Int) + 1 := by simp
    have hlt := lt_mid pre x r
    have hlo : (pre.length : Int) < (o2.length : Int) := by rw [h2, ← hpr]; exact hlt
    have ih0 := e_spec_ggGroups_2 b hb r (pre ++ [x]) o2 v (by rw [← hpr]; simp) h2 hv (by simp; omega)
    rw [← shift_mid, hc] at ih0
    refine Ev.succ ?_
    simp only [f_spec_ggGroups_2, lt_mid, ge_mid, decide_true, if_true, Int.toNat_natCast, getD_mid, hn, hc, hlo]
    refine Ev.bind (e_spec_ggGear x) ?_
    cases hg : geared x with
    | false =>
      simp only [Bool.not_false, if_true, groupsFrom, hg, Bool.false_and, Bool.false_eq_true, if_false]
      exact ih0
    | true =>
      simp only [Bool.not_true, Bool.false_eq_true, if_false]
      refine Ev.ite (fun h => ?_) (fun h => ?_)
      · simp only [ge_iff_le, decide_eq_true_eq] at h
        have hno : ¬ List.getD o2 pre.length 0 < 0 := by omega
        simp only [groupsFrom, hg, Int.toNat_natCast, hno, decide_false, Bool.and_false, Bool.false_eq_true, if_false]
        exact ih0
      · simp only [ge_iff_le, decide_eq_true_eq] at h
        have hno : List.getD o2 pre.length 0 < 0 := by omega
        have hul := unl_len (List.set o2 pre.length v)
        rw [List.length_set, h2, ← hpr] at hul
        have h4 := e_spec_ggGroups_4 b hb v hv (pre ++ x :: r) ((pre ++ x :: r).length : Int) (pre.length : Int) 200 (List.set o2 pre.length v) [(pre.length : Int)] [] (fun m hm => by rw [List.mem_singleton.1 hm, ← hpr]; exact ⟨by omega, hlt⟩) (by rw [List.length_set]; exact h2) (by simp; omega) (by simp; omega)
        refine Ev.bind h4 ?_
        have ih := e_spec_ggGroups_2 b hb r (pre ++ [x]) (bfs b v 200 (List.set o2 pre.length v) [(pre.length : Int)]) (v + 1) (by rw [← hpr]; simp) (by rw [bfs_len, List.length_set]; exact h2) (by omega) (by simp; omega)
        rw [← shift_mid, hc] at ih
        show Ev (fun k => f_spec_ggGroups_2 k b.1 b.2.1 b.2.2 (bfs b v 200 (List.set o2 pre.length v) [(pre.length : Int)]) (wrap64 (v + 1)) (pre ++ x :: r) ((pre ++ x :: r).length : Int) (wrap64 ((pre.length : Int) + 1))) _
        rw [w64 (n := v + 1) (by omega) (by omega), hn, hc]
        simp only [groupsFrom, hg, Int.toNat_natCast, hno, decide_true, Bool.and_self, if_true]
        exact ih
theorem e_spec_ggGroups (b : BoardD) (hb : boardOK b = true) : Ev (fun k => f_spec_ggGroups k b) (groupsOf b) := by
  obtain ⟨g1, g2, g3, g4, g5, g6⟩ := board_ok hb
  have hp := prod_small g1 g2 g3 g4
  have hm : b.2.2.length * 8 ≤ 281474976710656 := by omega
  refine Ev.succ ?_
  simp only [f_spec_ggGroups, Int.toNat_natCast, hm, if_true]
  refine Ev.bind (e_spec_ggGroups_0 b _ (List.replicate b.2.2.length 0) [] rfl (by simp; omega)) ?_
  have hrep : ([] : List Int) ++ List.replicate (List.replicate b.2.2.length (0 : Int)).length (-1) = List.replicate b.2.2.length (-1) := by simp
  rw [hrep]
  exact Ev.bind (e_spec_ggGroups_2 b hb b.2.2 [] (List.replicate b.2.2.length (-1)) 0 rfl (by simp) (by omega) (by simp)) (Ev.some _)
end Go.Proofs.Ytgjmhbjdhihgaaa.Vs

set_option linter.unusedVariables false
set_option linter.unusedSimpArgs false
namespace Go.Proofs.Ytgjmhbjdhihgaaa.Vs
open Go.RowKit
/-! ### Faults -/
def fits (x : CellD) (kd : Int) : Bool := decide (kd = 2) || (decide (kd = 1) && turning x) || (decide (kd = 3) && (turning x || decide (x.1 = 1 ∨ x.1 = 2)))
theorem e_spec_faFits (x : CellD) (kd : Int) : Ev (fun k => f_spec_faFits k x kd) (fits x kd) := by
  refine Ev.succ ?_
  simp only [f_spec_faFits]
  refine Ev.ite (fun h => ?_) (fun h => ?_)
  · simp only [decide_eq_true_eq] at h
    refine Ev.bind (e_spec_paTurning x) (Ev.of ?_)
    simp [fits, h]
  · simp only [decide_eq_true_eq] at h
    refine Ev.ite (fun h2 => ?_) (fun h2 => ?_)
    · simp only [decide_eq_true_eq] at h2
      exact Ev.of (by simp [fits, h2])
    · simp only [decide_eq_true_eq] at h2
      refine Ev.ite (fun h3 => ?_) (fun h3 => ?_)
      · simp only [decide_eq_true_eq] at h3
        refine Ev.bind (e_spec_paTurning x) (Ev.ite (fun h4 => ?_) (fun h4 => ?_))
        · exact Ev.of (by simp [fits, h3, h4])
        · refine Ev.of ?_
          simp only [Bool.not_eq_true] at h4
          by_cases h5 : x.1 = 1 <;> simp [fits, h3, h4, h5]
      · simp only [decide_eq_true_eq] at h3
        exact Ev.of (by simp [fits, h, h2, h3])
theorem e_impl_canHave (x : CellD) (kd : Int) (hx : cellOK x = true) : Ev (fun k => f_impl_canHave k x kd) (fits x kd) := by
  have ht : Ev (fun k => f_impl_IsTurning k x) (turning x) := by simpa [hx] using e_impl_IsTurning x
  refine Ev.succ ?_
  simp only [f_impl_canHave]
  refine Ev.ite (fun h => ?_) (fun h => ?_)
  · simp only [decide_eq_true_eq] at h
    refine Ev.bind ht (Ev.of ?_)
    simp [fits, h]
  · simp only [decide_eq_true_eq] at h
    refine Ev.ite (fun h2 => ?_) (fun h2 => ?_)
    · simp only [decide_eq_true_eq] at h2
      exact Ev.of (by simp [fits, h2])
    · simp only [decide_eq_true_eq] at h2
      refine Ev.ite (fun h3 => ?_) (fun h3 => ?_)
      · simp only [decide_eq_true_eq] at h3
        refine Ev.bind ht (Ev.ite (fun h4 => ?_) (fun h4 => ?_))
        · exact Ev.of (by simp [fits, h3, h4])
        · refine Ev.of ?_
          simp only [Bool.not_eq_true] at h4
          by_cases h5 : x.1 = 1 <;> simp [fits, h3, h4, h5]
      · simp only [decide_eq_true_eq] at h3
        exact Ev.of (by simp [fits, h, h2, h3])
/-- Faults in strictly increasing order of their cells, each on the board and of a kind that its cell can have. -/
def faultsOK (b : BoardD) : Int → List FaultD → Bool
  | _, [] => true
  | last, x :: r => decide (0 ≤ x.2.1 ∧ x.2.1 < b.1 ∧ 0 ≤ x.2.2 ∧ x.2.2 < b.2.1 ∧ last < x.2.1 * b.2.1 + x.2.2) && fits (List.getD b.2.2 (x.2.1 * b.2.1 + x.2.2).toNat (0, 0)) x.1 && faultsOK b (x.2.1 * b.2.1 + x.2.2) r
theorem e_spec_boAt (b : BoardD) (hb : boardOK b = true) {r c : Int} (h1 : 0 ≤ r) (h2 : r < b.1) (h3 : 0 ≤ c) (h4 : c < b.2.1) : Ev (fun k => f_spec_boAt k b r c) (List.getD b.2.2 (r * b.2.1 + c).toNat (0, 0)) := by
  have hp := place_ok hb h1 h2 h3 h4
  refine Ev.succ ?_
  simp only [f_spec_boAt]
  rw [w64 (n := r * b.2.1) (by omega) (by omega), w64 (by omega) (by omega)]
  simp only [hp.1, hp.2.1, if_true]
  exact Ev.some _
theorem e_spec_faGood_0 (b : BoardD) (hb : boardOK b = true) (w : List FaultD) : ∀ (r pre : List FaultD) (last : Int), (pre ++ r).length ≤ 9223372036854775806 → Ev (fun k => f_spec_faGood_0 k b.1 b.2.1 b.2.2 w last (pre ++ r) ((pre ++ r).length : Int) (pre.length : Int)) (if faultsOK b last r then LR.go w else LR.ret false)
  | [], pre, last, hl => by
    refine Ev.succ ?_
    simp only [f_spec_faGood_0, nlt_end, decide_false, Bool.false_eq_true, if_false, faultsOK, if_true]
    exact Ev.some _
  | x :: r, pre, last, hl => by
    obtain ⟨g1, g2, g3, g4, g5, g6⟩ := board_ok hb
    refine Ev.succ ?_
    simp only [f_spec_faGood_0, lt_mid, ge_mid, decide_true, if_true, Int.toNat_natCast, getD_mid]
    rw [next_mid pre x r (by omega), w64 (n := b.1 - 1) (by omega) (by omega), w64 (n := b.2.1 - 1) (by omega) (by omega)]
    refine Ev.bind (e_spec_l1In _ _ _) (Ev.ite (fun h => Ev.of ?_) (fun h => ?_))
    · have h : ¬ (0 ≤ x.2.1 ∧ x.2.1 ≤ b.1 - 1) := nd h
      rw [if_neg (by simp only [faultsOK, Bool.and_eq_true, decide_eq_true_eq]; omega)]
    have h1 : 0 ≤ x.2.1 ∧ x.2.1 ≤ b.1 - 1 := yd h
    refine Ev.bind (e_spec_l1In _ _ _) (Ev.ite (fun h => Ev.of ?_) (fun h => ?_))
    · have h : ¬ (0 ≤ x.2.2 ∧ x.2.2 ≤ b.2.1 - 1) := nd h
      rw [if_neg (by simp only [faultsOK, Bool.and_eq_true, decide_eq_true_eq]; omega)]
    have h2 : 0 ≤ x.2.2 ∧ x.2.2 ≤ b.2.1 - 1 := yd h
    have hp := place_ok hb h1.1 (by omega) h2.1 (by omega)
    rw [w64 (n := x.2.1 * b.2.1) (by omega) (by omega), w64 (n := x.2.1 * b.2.1 + x.2.2) (by omega) (by omega)]
    refine Ev.bind (e_spec_boAt b hb h1.1 (by omega) h2.1 (by omega)) ?_
    refine Ev.bind (e_spec_faFits _ _) (Ev.ite (fun h => Ev.of ?_) (fun h => ?_))
    · have h : fits (List.getD b.2.2 (x.2.1 * b.2.1 + x.2.2).toNat (0, 0)) x.1 = false := by simpa using h
      simp only [faultsOK, h, Bool.and_false, Bool.false_and, Bool.false_eq_true, if_false]
    have h3 : fits (List.getD b.2.2 (x.2.1 * b.2.1 + x.2.2).toNat (0, 0)) x.1 = true := by simpa using h
    refine Ev.ite (fun h => Ev.of ?_) (fun h => ?_)
    · simp only [decide_eq_true_eq] at h
      rw [if_neg (by simp only [faultsOK, Bool.and_eq_true, decide_eq_true_eq]; omega)]
    simp only [decide_eq_true_eq] at h
    have ih := e_spec_faGood_0 b hb w r (pre ++ [x]) (x.2.1 * b.2.1 + x.2.2) (by simpa using hl)
    rw [← shift_mid] at ih
    refine ih.congr ?_
    have h5 : 0 ≤ x.2.1 ∧ x.2.1 < b.1 ∧ 0 ≤ x.2.2 ∧ x.2.2 < b.2.1 ∧ last < x.2.1 * b.2.1 + x.2.2 := by omega
    simp only [faultsOK, h3, h5, and_self, decide_true, Bool.true_and]
theorem e_spec_faGood (b : BoardD) (hb : boardOK b = true) (l : List FaultD) (hl : l.length ≤ 9223372036854775806) : Ev (fun k => f_spec_faGood k b l) (decide (l.length ≤ 4) && faultsOK b (-1) l) := by
  refine Ev.succ ?_
  simp only [f_spec_faGood]
  refine Ev.bind (e_spec_faGood_0 b hb l l [] (-1) (by simpa using hl)) ?_
  cases hx : faultsOK b (-1) l with
  | true =>
    simp only [if_true]
    refine Ev.go (Ev.of ?_)
    by_cases h4 : l.length ≤ 4
    · have : (l.length : Int) ≤ 4 := by omega
      simp [h4, this]
    · have : ¬ (l.length : Int) ≤ 4 := by omega
      simp [h4, this]
  | false =>
    simp only [Bool.false_eq_true, if_false, Bool.and_false]
    exact Ev.ret (Ev.some _)
theorem e_impl_areFaults_0 (b : BoardD) (hb : boardOK b = true) : ∀ (r pre : List FaultD) (last : Int), (pre ++ r).length ≤ 9223372036854775806 → Ev (fun k => f_impl_areFaults_0 k b.1 b.2.1 b.2.2 last (pre ++ r) ((pre ++ r).length : Int) (pre.length : Int)) (if faultsOK b last r then LR.go () else LR.ret false)
  | [], pre, last, hl => by
    refine Ev.succ ?_
    simp only [f_impl_areFaults_0, nlt_end, decide_false, Bool.false_eq_true, if_false, faultsOK, if_true]
    exact Ev.some _
  | x :: r, pre, last, hl => by
    obtain ⟨g1, g2, g3, g4, g5, g6⟩ := board_ok hb
    have hp := prod_small g1 g2 g3 g4
    refine Ev.succ ?_
    simp only [f_impl_areFaults_0, lt_mid, ge_mid, decide_true, if_true, Int.toNat_natCast, getD_mid]
    rw [next_mid pre x r (by omega)]
    refine Ev.bind (e_impl_onBoard b _ _ (by omega)) (Ev.ite (fun h => Ev.of ?_) (fun h => ?_))
    · rw [hb, Bool.true_and] at h
      have h : ¬ (0 ≤ x.2.1 ∧ x.2.1 < b.1 ∧ 0 ≤ x.2.2 ∧ x.2.2 < b.2.1) := nd h
      rw [if_neg (by simp only [faultsOK, Bool.and_eq_true, decide_eq_true_eq]; omega)]
    rw [hb, Bool.true_and] at h
    have h1 : 0 ≤ x.2.1 ∧ x.2.1 < b.1 ∧ 0 ≤ x.2.2 ∧ x.2.2 < b.2.1 := yd h
    have hp := place_ok hb h1.1 h1.2.1 h1.2.2.1 h1.2.2.2
    rw [w64 (n := x.2.1 * b.2.1) (by omega) (by omega), w64 (n := x.2.1 * b.2.1 + x.2.2) (by omega) (by omega)]
    refine Ev.ite (fun h => Ev.of ?_) (fun h => ?_)
    · simp only [decide_eq_true_eq] at h
      rw [if_neg (by simp only [faultsOK, Bool.and_eq_true, decide_eq_true_eq]; omega)]
    simp only [decide_eq_true_eq] at h
    simp only [hp.1, hp.2.1, if_true]
    refine Ev.bind (e_impl_canHave _ _ (g6 _ (cell_in hp.1 hp.2.1 _))) (Ev.ite (fun h => Ev.of ?_) (fun h => ?_))
    · have h : fits (List.getD b.2.2 (x.2.1 * b.2.1 + x.2.2).toNat (0, 0)) x.1 = false := by simpa using h
      simp only [faultsOK, h, Bool.and_false, Bool.false_and, Bool.false_eq_true, if_false]
    have h3 : fits (List.getD b.2.2 (x.2.1 * b.2.1 + x.2.2).toNat (0, 0)) x.1 = true := by simpa using h
    have ih := e_impl_areFaults_0 b hb r (pre ++ [x]) (x.2.1 * b.2.1 + x.2.2) (by simpa using hl)
    rw [← shift_mid] at ih
    refine ih.congr ?_
    have h5 : 0 ≤ x.2.1 ∧ x.2.1 < b.1 ∧ 0 ≤ x.2.2 ∧ x.2.2 < b.2.1 ∧ last < x.2.1 * b.2.1 + x.2.2 := by omega
    simp only [faultsOK, h3, h5, and_self, decide_true, Bool.true_and]
theorem e_impl_areFaults (b : BoardD) (hb : boardOK b = true) (l : List FaultD) (hl : l.length ≤ 9223372036854775806) : Ev (fun k => f_impl_areFaults k b l) (decide (l.length ≤ 4) && faultsOK b (-1) l) := by
  refine Ev.succ ?_
  simp only [f_impl_areFaults]
  refine Ev.ite (fun h => Ev.of ?_) (fun h => ?_)
  · simp only [decide_eq_true_eq] at h
    have : ¬ l.length ≤ 4 := by omega
    simp [this]
  simp only [decide_eq_true_eq] at h
  have h4 : l.length ≤ 4 := by omega
  refine Ev.bind (e_impl_areFaults_0 b hb l [] (-1) (by simpa using hl)) ?_
  simp only [h4, decide_true, Bool.true_and]
  cases hx : faultsOK b (-1) l with
  | true => simp only [if_true]; exact Ev.go (Ev.some _)
  | false => simp only [Bool.false_eq_true, if_false]; exact Ev.ret (Ev.some _)
end Go.Proofs.Ytgjmhbjdhihgaaa.Vs
