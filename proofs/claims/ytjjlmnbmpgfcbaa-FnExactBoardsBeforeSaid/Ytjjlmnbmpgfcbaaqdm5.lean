/- The proof, part 6. -/
import Derived.Test.Ytjjlmnbmpgfcbaaqdm4
set_option maxRecDepth 100000
set_option maxHeartbeats 2000000
set_option linter.unusedVariables false
set_option linter.unusedSimpArgs false
namespace Go.Proofs.Ytjjlmnbmpgfcbaa.Vs
open Go.RowKit
noncomputable section
/-! function 24 -/
noncomputable def r_laws_eqBoardS : List PK := [{ t := Ty.bool }]
noncomputable def q_laws_eqBoardS : List PK := [{ t := Ty.slice (31 : Nat) (Ty.pair (Ty.int IntKind.i64) (Ty.pair (Ty.int IntKind.i64) (Ty.slice (75 : Nat) (Ty.pair (Ty.int IntKind.i64) (Ty.int IntKind.i64))))) }, { t := Ty.slice (31 : Nat) (Ty.pair (Ty.int IntKind.i64) (Ty.pair (Ty.int IntKind.i64) (Ty.slice (75 : Nat) (Ty.pair (Ty.int IntKind.i64) (Ty.int IntKind.i64))))) }]
noncomputable def to_laws_eqBoardS (r : Bool) : Tup r_laws_eqBoardS × OutD := ((r, ()), none)
noncomputable def of_laws_eqBoardS : Tup r_laws_eqBoardS × OutD → Option (Bool)
  | (a, none) => some (a.1)
  | _ => none
theorem to_of_laws_eqBoardS : ∀ b r, of_laws_eqBoardS b = some r → to_laws_eqBoardS r = b := by
  rintro ⟨a, o⟩ r h
  cases o with
  | none => injection h with h; subst h; rfl
  | some _ => cases h
noncomputable def f_laws_eqBoardS_0 : Nat → List (Int × Int × List (Int × Int)) → List (Int × Int × List (Int × Int)) → Int → Option (LR Unit Bool)
  | 0, _, _, _ => none
  | k + 1, v0, v1, v5 =>
    if decide (v5 < (↑(List.length v0) : Int)) = true then if (0 : Int) ≤ v5 then if v5 < (↑(List.length v0) : Int) then if (0 : Int) ≤ v5 then if v5 < (↑(List.length v1) : Int) then Option.bind (f_laws_eqBoard k (Prod.fst (List.getD v0 (Int.toNat v5) ((0 : Int), (0 : Int), [])), Prod.fst (Prod.snd (List.getD v0 (Int.toNat v5) ((0 : Int), (0 : Int), []))), Prod.snd (Prod.snd (List.getD v0 (Int.toNat v5) ((0 : Int), (0 : Int), [])))) (Prod.fst (List.getD v1 (Int.toNat v5) ((0 : Int), (0 : Int), [])), Prod.fst (Prod.snd (List.getD v1 (Int.toNat v5) ((0 : Int), (0 : Int), []))), Prod.snd (Prod.snd (List.getD v1 (Int.toNat v5) ((0 : Int), (0 : Int), []))))) fun z0 => if (!z0) = true then some (LR.ret false) else f_laws_eqBoardS_0 k v0 v1 (wrap64 (v5 + (1 : Int))) else none else none else none else none else some (LR.go ())
noncomputable def f_laws_eqBoardS_0i : Spec := { objs := [OSh.ro], tmps := [((0 : Nat), TSh.at (Sh.snap (0 : Nat) (Ty.pair (Ty.int IntKind.i64) (Ty.pair (Ty.int IntKind.i64) (Ty.slice (75 : Nat) (Ty.pair (Ty.int IntKind.i64) (Ty.int IntKind.i64))))))), ((1 : Nat), TSh.at (Sh.snap (0 : Nat) (Ty.pair (Ty.int IntKind.i64) (Ty.pair (Ty.int IntKind.i64) (Ty.slice (75 : Nat) (Ty.pair (Ty.int IntKind.i64) (Ty.int IntKind.i64))))))), ((5 : Nat), TSh.at (Sh.int IntKind.i64))] }
noncomputable def f_laws_eqBoardS_0o : Spec := { objs := [OSh.ro], tmps := [] }
noncomputable def f_laws_eqBoardS_0D : LoopDef (Tup r_laws_eqBoardS × OutD) := .rets f_laws_eqBoardS_0i f_laws_eqBoardS_0o (Unit) (Bool) (fun k x => f_laws_eqBoardS_0 k x.2.1 x.2.2.1 x.2.2.2.1) (fun z => (((), ()), (()))) (fun y => ()) (fun _ => rfl) to_laws_eqBoardS of_laws_eqBoardS to_of_laws_eqBoardS
noncomputable def f_laws_eqBoardS : Nat → List (Int × Int × List (Int × Int)) → List (Int × Int × List (Int × Int)) → Option Bool
  | 0, _, _ => none
  | k + 1, p0, p1 =>
    if decide ((↑(List.length p0) : Int) ≠ (↑(List.length p1) : Int)) = true then some false else Option.bind (f_laws_eqBoardS_0 k p0 p1 (0 : Int)) fun z1 => LR.on z1 (fun y1 => some true) fun r1 => some r1
noncomputable def d_laws_eqBoardS : FnDef := .of q_laws_eqBoardS r_laws_eqBoardS (Bool) (fun k x => f_laws_eqBoardS k x.1 x.2.1) to_laws_eqBoardS of_laws_eqBoardS to_of_laws_eqBoardS
noncomputable def c_laws_eqBoardS : Code := Try.f24.body.getD .skip
noncomputable def x_laws_eqBoardS : Ctx (Tup r_laws_eqBoardS × OutD) := { T := T, G := [(13, d_laws_eqBoard.E)], mvs := [], no := 0, n := 27, res := resOf T q_laws_eqBoardS r_laws_eqBoardS Try.f24.results.toList, loops := [(0, f_laws_eqBoardS_0D.E)], regs := [], conds := [] }
theorem g_laws_eqBoardS (k : Nat) : EnvOK Try.prog k x_laws_eqBoardS.G := (EnvOK.cons (s_laws_eqBoard k) (EnvOK.nil mixed))
noncomputable def f_laws_eqBoardS_0B : Code := (findLoop 0 c_laws_eqBoardS).getD .skip
theorem f_laws_eqBoardS_0h (k : Nat) (x : f_laws_eqBoardS_0i.D) : f_laws_eqBoardS_0D.lp (k + 1) x = loopK x_laws_eqBoardS f_laws_eqBoardS_0D 0 f_laws_eqBoardS_0B k x := by kernel_rfl
theorem f_laws_eqBoardS_0l (k : Nat) : LOK Try.prog x_laws_eqBoardS k f_laws_eqBoardS_0B := LOK.by [] (by kernel_rfl) AllOK.nil
theorem f_laws_eqBoardS_0z (x : f_laws_eqBoardS_0i.D) : f_laws_eqBoardS_0D.lp 0 x = none := by kernel_rfl
theorem f_laws_eqBoardS_0ok (k : Nat) : EOK Try.prog x_laws_eqBoardS k f_laws_eqBoardS_0D.E (.block 0 (.loop f_laws_eqBoardS_0B)) := loop_ok T_ok g_laws_eqBoardS f_laws_eqBoardS_0z f_laws_eqBoardS_0h f_laws_eqBoardS_0l k
theorem h_laws_eqBoardS (k : Nat) (x : Tup d_laws_eqBoardS.ps) : d_laws_eqBoardS.f (k + 1) x = fnK d_laws_eqBoardS x_laws_eqBoardS c_laws_eqBoardS k x := by kernel_rfl
theorem z_laws_eqBoardS (x : Tup d_laws_eqBoardS.ps) : d_laws_eqBoardS.f 0 x = none := by kernel_rfl
theorem l_laws_eqBoardS (k : Nat) : LOK Try.prog x_laws_eqBoardS k c_laws_eqBoardS := LOK.by [(f_laws_eqBoardS_0D.E, .block 0 (.loop f_laws_eqBoardS_0B))] (by kernel_rfl) (AllOK.cons (f_laws_eqBoardS_0ok k) AllOK.nil)
theorem s_laws_eqBoardS (k : Nat) : SoundAt Try.prog k 24 d_laws_eqBoardS.E := @fn_all Try.prog d_laws_eqBoardS x_laws_eqBoardS 24 Try.f24 c_laws_eqBoardS (by kernel_rfl) (by kernel_rfl) (by kernel_rfl) Try.func24 (by kernel_rfl) (by kernel_rfl) (by kernel_rfl) T_ok g_laws_eqBoardS l_laws_eqBoardS z_laws_eqBoardS h_laws_eqBoardS k
/-! function 36 -/
noncomputable def r_impl_numbersAfter : List PK := [{ t := Ty.slice (26 : Nat) (Ty.slice (3 : Nat) (Ty.int IntKind.i64)) }]
noncomputable def q_impl_numbersAfter : List PK := [{ t := Ty.pair (Ty.int IntKind.i64) (Ty.pair (Ty.int IntKind.i64) (Ty.slice (75 : Nat) (Ty.pair (Ty.int IntKind.i64) (Ty.int IntKind.i64)))), agg := true }, { t := Ty.slice (3 : Nat) (Ty.int IntKind.i64) }]
noncomputable def to_impl_numbersAfter (r : List (List Int)) : Tup r_impl_numbersAfter × OutD := ((r, ()), none)
noncomputable def of_impl_numbersAfter : Tup r_impl_numbersAfter × OutD → Option (List (List Int))
  | (a, none) => some (a.1)
  | _ => none
theorem to_of_impl_numbersAfter : ∀ b r, of_impl_numbersAfter b = some r → to_impl_numbersAfter r = b := by
  rintro ⟨a, o⟩ r h
  cases o with
  | none => injection h with h; subst h; rfl
  | some _ => cases h
noncomputable def f_impl_numbersAfter_4 : Nat → Int → Int → List (Int × Int) → List (List Int) → List Int → List (List Int) → Int → Int → List (Int × Int) → List Int → Int → Int → Int → List Int → Int → Int → Int → Int → Int → Int → Option (Int × Int × List (Int × Int) × List (List Int) × List Int × List (List Int) × List Int × Int × Int × Int × List Int × Int × Int × Int × Int)
  | 0, _, _, _, _, _, _, _, _, _, _, _, _, _, _, _, _, _, _, _, _ => none
  | k + 1, b1_0, b1_1, b1_2, o2, o3, o4, b5_0, b5_1, o6, o7, v8, v9, v10, v21, v22, v23, v39, v40, v60, v61 =>
    if decide (v61 < v60) = true then if (0 : Int) ≤ v61 then if v61 < (↑(List.length o2) : Int) then if (0 : Int) < (↑(List.length (List.getD o2 (Int.toNat v61) [])) : Int) then if (0 : Int) ≤ List.getD (List.getD o2 (Int.toNat v61) []) (Int.toNat (0 : Int)) (0 : Int) then if List.getD (List.getD o2 (Int.toNat v61) []) (Int.toNat (0 : Int)) (0 : Int) < (↑(List.length o6) : Int) then if (0 : Int) ≤ v61 then if v61 < (↑(List.length o7) : Int) then f_impl_numbersAfter_4 k b1_0 b1_1 b1_2 o2 o3 o4 b5_0 b5_1 o6 (List.set o7 (Int.toNat v61) (Prod.snd (List.getD o6 (Int.toNat (List.getD (List.getD o2 (Int.toNat v61) []) (Int.toNat (0 : Int)) (0 : Int))) ((0 : Int), (0 : Int))))) v8 v9 v10 v21 v22 v23 v39 v40 v60 (wrap64 (v61 + (1 : Int))) else none else none else none else none else none else none else none else some (b1_0, b1_1, b1_2, o2, o3, o4, o7, v8, v9, v10, v21, v22, v23, v39, v40)
noncomputable def f_impl_numbersAfter_4i : Spec := { objs := [OSh.ro, OSh.box (31 : Nat) [Sh.int IntKind.i64, Sh.int IntKind.i64, Sh.snap (0 : Nat) (Ty.pair (Ty.int IntKind.i64) (Ty.int IntKind.i64))], OSh.row true (26 : Nat) (Ty.slice (3 : Nat) (Ty.int IntKind.i64)), OSh.row true (3 : Nat) (Ty.int IntKind.i64), OSh.row true (26 : Nat) (Ty.slice (3 : Nat) (Ty.int IntKind.i64)), OSh.box (31 : Nat) [Sh.int IntKind.i64, Sh.int IntKind.i64, Sh.sl (6 : Nat)], OSh.row true (75 : Nat) (Ty.pair (Ty.int IntKind.i64) (Ty.int IntKind.i64)), OSh.row true (3 : Nat) (Ty.int IntKind.i64)], tmps := [((2 : Nat), TSh.at (Sh.ptr (1 : Nat) (0 : Nat))), ((5 : Nat), TSh.at (Sh.sl (2 : Nat))), ((6 : Nat), TSh.at (Sh.sl (3 : Nat))), ((7 : Nat), TSh.at (Sh.sl (4 : Nat))), ((8 : Nat), TSh.at (Sh.int IntKind.i64)), ((9 : Nat), TSh.at (Sh.int IntKind.i64)), ((10 : Nat), TSh.at (Sh.int IntKind.i64)), ((11 : Nat), TSh.at (Sh.ptr (5 : Nat) (0 : Nat))), ((12 : Nat), TSh.at (Sh.sl (7 : Nat))), ((21 : Nat), TSh.at (Sh.snap (0 : Nat) (Ty.int IntKind.i64))), ((22 : Nat), TSh.at (Sh.int IntKind.i64)), ((23 : Nat), TSh.at (Sh.int IntKind.i64)), ((39 : Nat), TSh.at (Sh.int IntKind.i64)), ((40 : Nat), TSh.at (Sh.int IntKind.i64)), ((60 : Nat), TSh.at (Sh.int IntKind.i64)), ((61 : Nat), TSh.at (Sh.int IntKind.i64))] }
noncomputable def f_impl_numbersAfter_4o : Spec := { objs := [OSh.ro, OSh.box (31 : Nat) [Sh.int IntKind.i64, Sh.int IntKind.i64, Sh.snap (0 : Nat) (Ty.pair (Ty.int IntKind.i64) (Ty.int IntKind.i64))], OSh.row true (26 : Nat) (Ty.slice (3 : Nat) (Ty.int IntKind.i64)), OSh.row true (3 : Nat) (Ty.int IntKind.i64), OSh.row true (26 : Nat) (Ty.slice (3 : Nat) (Ty.int IntKind.i64)), OSh.row true (3 : Nat) (Ty.int IntKind.i64)], tmps := [((2 : Nat), TSh.at (Sh.ptr (1 : Nat) (0 : Nat))), ((5 : Nat), TSh.at (Sh.sl (2 : Nat))), ((6 : Nat), TSh.at (Sh.sl (3 : Nat))), ((7 : Nat), TSh.at (Sh.sl (4 : Nat))), ((8 : Nat), TSh.at (Sh.int IntKind.i64)), ((9 : Nat), TSh.at (Sh.int IntKind.i64)), ((10 : Nat), TSh.at (Sh.int IntKind.i64)), ((12 : Nat), TSh.at (Sh.sl (5 : Nat))), ((21 : Nat), TSh.at (Sh.snap (0 : Nat) (Ty.int IntKind.i64))), ((22 : Nat), TSh.at (Sh.int IntKind.i64)), ((23 : Nat), TSh.at (Sh.int IntKind.i64)), ((39 : Nat), TSh.at (Sh.int IntKind.i64)), ((40 : Nat), TSh.at (Sh.int IntKind.i64))] }
noncomputable def f_impl_numbersAfter_4D : LoopDef (Tup r_impl_numbersAfter × OutD) := .plain f_impl_numbersAfter_4i f_impl_numbersAfter_4o (Int × Int × List (Int × Int) × List (List Int) × List Int × List (List Int) × List Int × Int × Int × Int × List Int × Int × Int × Int × Int) (fun k x => f_impl_numbersAfter_4 k x.1.2.1.1 x.1.2.1.2.1 x.1.2.1.2.2.1 x.1.2.2.1 x.1.2.2.2.1 x.1.2.2.2.2.1 x.1.2.2.2.2.2.1.1 x.1.2.2.2.2.2.1.2.1 x.1.2.2.2.2.2.2.1 x.1.2.2.2.2.2.2.2.1 x.2.2.2.2.2.1 x.2.2.2.2.2.2.1 x.2.2.2.2.2.2.2.1 x.2.2.2.2.2.2.2.2.2.2.1 x.2.2.2.2.2.2.2.2.2.2.2.1 x.2.2.2.2.2.2.2.2.2.2.2.2.1 x.2.2.2.2.2.2.2.2.2.2.2.2.2.1 x.2.2.2.2.2.2.2.2.2.2.2.2.2.2.1 x.2.2.2.2.2.2.2.2.2.2.2.2.2.2.2.1 x.2.2.2.2.2.2.2.2.2.2.2.2.2.2.2.2.1) (fun z => (((), (z.1, z.2.1, z.2.2.1, ()), z.2.2.2.1, z.2.2.2.2.1, z.2.2.2.2.2.1, z.2.2.2.2.2.2.1, ()), ((), (), (), (), z.2.2.2.2.2.2.2.1, z.2.2.2.2.2.2.2.2.1, z.2.2.2.2.2.2.2.2.2.1, (), z.2.2.2.2.2.2.2.2.2.2.1, z.2.2.2.2.2.2.2.2.2.2.2.1, z.2.2.2.2.2.2.2.2.2.2.2.2.1, z.2.2.2.2.2.2.2.2.2.2.2.2.2.1, z.2.2.2.2.2.2.2.2.2.2.2.2.2.2, ()))) (fun y => (y.1.2.1.1, y.1.2.1.2.1, y.1.2.1.2.2.1, y.1.2.2.1, y.1.2.2.2.1, y.1.2.2.2.2.1, y.1.2.2.2.2.2.1, y.2.2.2.2.2.1, y.2.2.2.2.2.2.1, y.2.2.2.2.2.2.2.1, y.2.2.2.2.2.2.2.2.2.1, y.2.2.2.2.2.2.2.2.2.2.1, y.2.2.2.2.2.2.2.2.2.2.2.1, y.2.2.2.2.2.2.2.2.2.2.2.2.1, y.2.2.2.2.2.2.2.2.2.2.2.2.2.1)) (fun _ => rfl)
noncomputable def f_impl_numbersAfter_2 : Nat → Int → Int → List (Int × Int) → List (List Int) → List Int → List (List Int) → Int → Int → List Int → Int → Int → Int → Int → Option (Int × Int × List (Int × Int) × List (List Int) × List Int × List (List Int) × List Int × Int × Int)
  | 0, _, _, _, _, _, _, _, _, _, _, _, _, _ => none
  | k + 1, b1_0, b1_1, b1_2, o2, o3, o4, v8, v9, v21, v22, v23, v39, v40 =>
    if decide (v40 < v39) = true then Option.bind (f_impl_copyBoard k (b1_0, b1_1, b1_2)) fun z2 => Option.bind (f_impl_bitList k v40 (↑(List.length o2) : Int)) fun z3 => Option.bind (f_impl_setBits k (Prod.fst z2, Prod.fst (Prod.snd z2), Prod.snd (Prod.snd z2)) o2 z3) fun z4 => Option.bind (f_impl_drop k (Prod.fst z2, Prod.fst (Prod.snd z2), z4) o3 v9) fun z5 => if Int.toNat (↑(List.length o2) : Int) * (8 : Nat) ≤ (281474976710656 : Nat) then Option.bind (f_impl_numbersAfter_4 k b1_0 b1_1 b1_2 o2 o3 o4 (Prod.fst z2) (Prod.fst (Prod.snd z2)) (Prod.snd (Prod.snd z5)) (List.replicate (Int.toNat (↑(List.length o2) : Int)) (0 : Int)) v8 v9 v40 v21 v22 v23 v39 v40 (↑(List.length o2) : Int) (0 : Int)) fun z6 => if (0 : Int) ≤ Prod.fst (Prod.snd (Prod.snd (Prod.snd (Prod.snd (Prod.snd (Prod.snd (Prod.snd z6))))))) then if Prod.fst (Prod.snd (Prod.snd (Prod.snd (Prod.snd (Prod.snd (Prod.snd (Prod.snd z6))))))) < (↑(List.length (Prod.fst (Prod.snd (Prod.snd (Prod.snd (Prod.snd (Prod.snd z6))))))) : Int) then Option.bind (f_impl_numberOf k (Prod.fst (Prod.snd (Prod.snd (Prod.snd (Prod.snd (Prod.snd (Prod.snd z6)))))))) fun z7 => if (0 : Int) ≤ Prod.fst (Prod.snd (Prod.snd (Prod.snd (Prod.snd (Prod.snd (Prod.snd (Prod.snd (Prod.snd (Prod.snd z6))))))))) then if Prod.fst (Prod.snd (Prod.snd (Prod.snd (Prod.snd (Prod.snd (Prod.snd (Prod.snd (Prod.snd (Prod.snd z6))))))))) < (↑(List.length (List.getD (Prod.fst (Prod.snd (Prod.snd (Prod.snd (Prod.snd (Prod.snd z6)))))) (Int.toNat (Prod.fst (Prod.snd (Prod.snd (Prod.snd (Prod.snd (Prod.snd (Prod.snd (Prod.snd z6))))))))) [])) : Int) then f_impl_numbersAfter_2 k (Prod.fst z6) (Prod.fst (Prod.snd z6)) (Prod.fst (Prod.snd (Prod.snd z6))) (Prod.fst (Prod.snd (Prod.snd (Prod.snd z6)))) (Prod.fst (Prod.snd (Prod.snd (Prod.snd (Prod.snd z6))))) (List.set (Prod.fst (Prod.snd (Prod.snd (Prod.snd (Prod.snd (Prod.snd z6)))))) (Int.toNat (Prod.fst (Prod.snd (Prod.snd (Prod.snd (Prod.snd (Prod.snd (Prod.snd (Prod.snd z6))))))))) (List.set (List.getD (Prod.fst (Prod.snd (Prod.snd (Prod.snd (Prod.snd (Prod.snd z6)))))) (Int.toNat (Prod.fst (Prod.snd (Prod.snd (Prod.snd (Prod.snd (Prod.snd (Prod.snd (Prod.snd z6))))))))) []) (Int.toNat (Prod.fst (Prod.snd (Prod.snd (Prod.snd (Prod.snd (Prod.snd (Prod.snd (Prod.snd (Prod.snd (Prod.snd z6))))))))))) z7)) (Prod.fst (Prod.snd (Prod.snd (Prod.snd (Prod.snd (Prod.snd (Prod.snd (Prod.snd z6)))))))) (Prod.fst (Prod.snd (Prod.snd (Prod.snd (Prod.snd (Prod.snd (Prod.snd (Prod.snd (Prod.snd z6))))))))) (Prod.fst (Prod.snd (Prod.snd (Prod.snd (Prod.snd (Prod.snd (Prod.snd (Prod.snd (Prod.snd (Prod.snd (Prod.snd z6))))))))))) (Prod.fst (Prod.snd (Prod.snd (Prod.snd (Prod.snd (Prod.snd (Prod.snd (Prod.snd (Prod.snd (Prod.snd (Prod.snd (Prod.snd z6)))))))))))) (Prod.fst (Prod.snd (Prod.snd (Prod.snd (Prod.snd (Prod.snd (Prod.snd (Prod.snd (Prod.snd (Prod.snd (Prod.snd (Prod.snd (Prod.snd z6))))))))))))) (Prod.fst (Prod.snd (Prod.snd (Prod.snd (Prod.snd (Prod.snd (Prod.snd (Prod.snd (Prod.snd (Prod.snd (Prod.snd (Prod.snd (Prod.snd (Prod.snd z6)))))))))))))) (wrap64 (Prod.snd (Prod.snd (Prod.snd (Prod.snd (Prod.snd (Prod.snd (Prod.snd (Prod.snd (Prod.snd (Prod.snd (Prod.snd (Prod.snd (Prod.snd (Prod.snd z6))))))))))))) + (1 : Int))) else none else none else none else none else none else some (b1_0, b1_1, b1_2, o2, o3, o4, v21, v22, v23)
noncomputable def f_impl_numbersAfter_2i : Spec := { objs := [OSh.ro, OSh.box (31 : Nat) [Sh.int IntKind.i64, Sh.int IntKind.i64, Sh.snap (0 : Nat) (Ty.pair (Ty.int IntKind.i64) (Ty.int IntKind.i64))], OSh.row true (26 : Nat) (Ty.slice (3 : Nat) (Ty.int IntKind.i64)), OSh.row true (3 : Nat) (Ty.int IntKind.i64), OSh.row true (26 : Nat) (Ty.slice (3 : Nat) (Ty.int IntKind.i64))], tmps := [((2 : Nat), TSh.at (Sh.ptr (1 : Nat) (0 : Nat))), ((5 : Nat), TSh.at (Sh.sl (2 : Nat))), ((6 : Nat), TSh.at (Sh.sl (3 : Nat))), ((7 : Nat), TSh.at (Sh.sl (4 : Nat))), ((8 : Nat), TSh.at (Sh.int IntKind.i64)), ((9 : Nat), TSh.at (Sh.int IntKind.i64)), ((21 : Nat), TSh.at (Sh.snap (0 : Nat) (Ty.int IntKind.i64))), ((22 : Nat), TSh.at (Sh.int IntKind.i64)), ((23 : Nat), TSh.at (Sh.int IntKind.i64)), ((39 : Nat), TSh.at (Sh.int IntKind.i64)), ((40 : Nat), TSh.at (Sh.int IntKind.i64))] }
noncomputable def f_impl_numbersAfter_2o : Spec := { objs := [OSh.ro, OSh.box (31 : Nat) [Sh.int IntKind.i64, Sh.int IntKind.i64, Sh.snap (0 : Nat) (Ty.pair (Ty.int IntKind.i64) (Ty.int IntKind.i64))], OSh.row true (26 : Nat) (Ty.slice (3 : Nat) (Ty.int IntKind.i64)), OSh.row true (3 : Nat) (Ty.int IntKind.i64), OSh.row true (26 : Nat) (Ty.slice (3 : Nat) (Ty.int IntKind.i64))], tmps := [((2 : Nat), TSh.at (Sh.ptr (1 : Nat) (0 : Nat))), ((5 : Nat), TSh.at (Sh.sl (2 : Nat))), ((6 : Nat), TSh.at (Sh.sl (3 : Nat))), ((7 : Nat), TSh.at (Sh.sl (4 : Nat))), ((21 : Nat), TSh.at (Sh.snap (0 : Nat) (Ty.int IntKind.i64))), ((22 : Nat), TSh.at (Sh.int IntKind.i64)), ((23 : Nat), TSh.at (Sh.int IntKind.i64))] }
noncomputable def f_impl_numbersAfter_2D : LoopDef (Tup r_impl_numbersAfter × OutD) := .plain f_impl_numbersAfter_2i f_impl_numbersAfter_2o (Int × Int × List (Int × Int) × List (List Int) × List Int × List (List Int) × List Int × Int × Int) (fun k x => f_impl_numbersAfter_2 k x.1.2.1.1 x.1.2.1.2.1 x.1.2.1.2.2.1 x.1.2.2.1 x.1.2.2.2.1 x.1.2.2.2.2.1 x.2.2.2.2.2.1 x.2.2.2.2.2.2.1 x.2.2.2.2.2.2.2.1 x.2.2.2.2.2.2.2.2.1 x.2.2.2.2.2.2.2.2.2.1 x.2.2.2.2.2.2.2.2.2.2.1 x.2.2.2.2.2.2.2.2.2.2.2.1) (fun z => (((), (z.1, z.2.1, z.2.2.1, ()), z.2.2.2.1, z.2.2.2.2.1, z.2.2.2.2.2.1, ()), ((), (), (), (), z.2.2.2.2.2.2.1, z.2.2.2.2.2.2.2.1, z.2.2.2.2.2.2.2.2, ()))) (fun y => (y.1.2.1.1, y.1.2.1.2.1, y.1.2.1.2.2.1, y.1.2.2.1, y.1.2.2.2.1, y.1.2.2.2.2.1, y.2.2.2.2.2.1, y.2.2.2.2.2.2.1, y.2.2.2.2.2.2.2.1)) (fun _ => rfl)
noncomputable def f_impl_numbersAfter_0 : Nat → Int → Int → List (Int × Int) → List (List Int) → List Int → List (List Int) → List Int → Int → Int → Option (List (List Int))
  | 0, _, _, _, _, _, _, _, _, _ => none
  | k + 1, b1_0, b1_1, b1_2, o2, o3, o4, v21, v22, v23 =>
    if decide (v23 < v22) = true then if (0 : Int) ≤ v23 then if v23 < (↑(List.length v21) : Int) then if (0 : Int) ≤ shlS (1 : Int) (↑(List.length o2) : Int) then if Int.toNat (shlS (1 : Int) (↑(List.length o2) : Int)) * (8 : Nat) ≤ (281474976710656 : Nat) then if (0 : Int) ≤ v23 then if v23 < (↑(List.length o4) : Int) then if (0 : Int) ≤ v23 then if v23 < (↑(List.length (List.set o4 (Int.toNat v23) (List.replicate (Int.toNat (shlS (1 : Int) (↑(List.length o2) : Int))) (0 : Int)))) : Int) then Option.bind (f_impl_numbersAfter_2 k b1_0 b1_1 b1_2 o2 o3 (List.set o4 (Int.toNat v23) (List.replicate (Int.toNat (shlS (1 : Int) (↑(List.length o2) : Int))) (0 : Int))) v23 (List.getD v21 (Int.toNat v23) (0 : Int)) v21 v22 v23 (↑(List.length (List.getD (List.set o4 (Int.toNat v23) (List.replicate (Int.toNat (shlS (1 : Int) (↑(List.length o2) : Int))) (0 : Int))) (Int.toNat v23) [])) : Int) (0 : Int)) fun z8 => f_impl_numbersAfter_0 k (Prod.fst z8) (Prod.fst (Prod.snd z8)) (Prod.fst (Prod.snd (Prod.snd z8))) (Prod.fst (Prod.snd (Prod.snd (Prod.snd z8)))) (Prod.fst (Prod.snd (Prod.snd (Prod.snd (Prod.snd z8))))) (Prod.fst (Prod.snd (Prod.snd (Prod.snd (Prod.snd (Prod.snd z8)))))) (Prod.fst (Prod.snd (Prod.snd (Prod.snd (Prod.snd (Prod.snd (Prod.snd z8))))))) (Prod.fst (Prod.snd (Prod.snd (Prod.snd (Prod.snd (Prod.snd (Prod.snd (Prod.snd z8)))))))) (wrap64 (Prod.snd (Prod.snd (Prod.snd (Prod.snd (Prod.snd (Prod.snd (Prod.snd (Prod.snd z8))))))) + (1 : Int))) else none else none else none else none else none else none else none else none else some o4
noncomputable def f_impl_numbersAfter_0i : Spec := { objs := [OSh.ro, OSh.box (31 : Nat) [Sh.int IntKind.i64, Sh.int IntKind.i64, Sh.snap (0 : Nat) (Ty.pair (Ty.int IntKind.i64) (Ty.int IntKind.i64))], OSh.row true (26 : Nat) (Ty.slice (3 : Nat) (Ty.int IntKind.i64)), OSh.row true (3 : Nat) (Ty.int IntKind.i64), OSh.row true (26 : Nat) (Ty.slice (3 : Nat) (Ty.int IntKind.i64))], tmps := [((2 : Nat), TSh.at (Sh.ptr (1 : Nat) (0 : Nat))), ((5 : Nat), TSh.at (Sh.sl (2 : Nat))), ((6 : Nat), TSh.at (Sh.sl (3 : Nat))), ((7 : Nat), TSh.at (Sh.sl (4 : Nat))), ((21 : Nat), TSh.at (Sh.snap (0 : Nat) (Ty.int IntKind.i64))), ((22 : Nat), TSh.at (Sh.int IntKind.i64)), ((23 : Nat), TSh.at (Sh.int IntKind.i64))] }
noncomputable def f_impl_numbersAfter_0o : Spec := { objs := [OSh.ro, OSh.row true (26 : Nat) (Ty.slice (3 : Nat) (Ty.int IntKind.i64))], tmps := [((7 : Nat), TSh.at (Sh.sl (1 : Nat)))] }
noncomputable def f_impl_numbersAfter_0D : LoopDef (Tup r_impl_numbersAfter × OutD) := .plain f_impl_numbersAfter_0i f_impl_numbersAfter_0o (List (List Int)) (fun k x => f_impl_numbersAfter_0 k x.1.2.1.1 x.1.2.1.2.1 x.1.2.1.2.2.1 x.1.2.2.1 x.1.2.2.2.1 x.1.2.2.2.2.1 x.2.2.2.2.2.1 x.2.2.2.2.2.2.1 x.2.2.2.2.2.2.2.1) (fun z => (((), z, ()), ((), ()))) (fun y => (y.1.2.1)) (fun _ => rfl)
noncomputable def f_impl_numbersAfter : Nat → Int × Int × List (Int × Int) → List Int → Option (List (List Int))
  | 0, _, _ => none
  | k + 1, p0, p1 =>
    Option.bind (f_impl_unitsOf k (Prod.fst p0, Prod.fst (Prod.snd p0), Prod.snd (Prod.snd p0))) fun z0 => Option.bind (f_impl_groupNumbers k (Prod.fst p0, Prod.fst (Prod.snd p0), Prod.snd (Prod.snd p0))) fun z1 => if Int.toNat (↑(List.length p1) : Int) * (24 : Nat) ≤ (281474976710656 : Nat) then Option.bind (f_impl_numbersAfter_0 k (Prod.fst p0) (Prod.fst (Prod.snd p0)) (Prod.snd (Prod.snd p0)) z0 z1 (List.replicate (Int.toNat (↑(List.length p1) : Int)) []) p1 (↑(List.length p1) : Int) (0 : Int)) fun z9 => some z9 else none
noncomputable def d_impl_numbersAfter : FnDef := .of q_impl_numbersAfter r_impl_numbersAfter (List (List Int)) (fun k x => f_impl_numbersAfter k x.1 x.2.1) to_impl_numbersAfter of_impl_numbersAfter to_of_impl_numbersAfter
noncomputable def c_impl_numbersAfter : Code := Try.f36.body.getD .skip
noncomputable def x_impl_numbersAfter : Ctx (Tup r_impl_numbersAfter × OutD) := { T := T, G := [(46, d_impl_unitsOf.E), (61, d_impl_groupNumbers.E), (62, d_impl_copyBoard.E), (64, d_impl_bitList.E), (63, d_impl_setBits.E), (65, d_impl_drop.E), (48, d_impl_numberOf.E)], mvs := [86], no := 0, n := 90, res := resOf T q_impl_numbersAfter r_impl_numbersAfter Try.f36.results.toList, loops := [(4, f_impl_numbersAfter_4D.E), (2, f_impl_numbersAfter_2D.E), (0, f_impl_numbersAfter_0D.E)], regs := [], conds := [] }
theorem g_impl_numbersAfter (k : Nat) : EnvOK Try.prog k x_impl_numbersAfter.G := (EnvOK.cons (s_impl_unitsOf k) (EnvOK.cons (s_impl_groupNumbers k) (EnvOK.cons (s_impl_copyBoard k) (EnvOK.cons (s_impl_bitList k) (EnvOK.cons (s_impl_setBits k) (EnvOK.cons (s_impl_drop k) (EnvOK.cons (s_impl_numberOf k) (EnvOK.nil mixed))))))))
noncomputable def f_impl_numbersAfter_4B : Code := (findLoop 4 c_impl_numbersAfter).getD .skip
theorem f_impl_numbersAfter_4h (k : Nat) (x : f_impl_numbersAfter_4i.D) : f_impl_numbersAfter_4D.lp (k + 1) x = loopK x_impl_numbersAfter f_impl_numbersAfter_4D 4 f_impl_numbersAfter_4B k x := by kernel_rfl
theorem f_impl_numbersAfter_4l (k : Nat) : LOK Try.prog x_impl_numbersAfter k f_impl_numbersAfter_4B := LOK.by [] (by kernel_rfl) AllOK.nil
theorem f_impl_numbersAfter_4z (x : f_impl_numbersAfter_4i.D) : f_impl_numbersAfter_4D.lp 0 x = none := by kernel_rfl
theorem f_impl_numbersAfter_4ok (k : Nat) : EOK Try.prog x_impl_numbersAfter k f_impl_numbersAfter_4D.E (.block 4 (.loop f_impl_numbersAfter_4B)) := loop_ok T_ok g_impl_numbersAfter f_impl_numbersAfter_4z f_impl_numbersAfter_4h f_impl_numbersAfter_4l k
noncomputable def f_impl_numbersAfter_2B : Code := (findLoop 2 c_impl_numbersAfter).getD .skip
theorem f_impl_numbersAfter_2h (k : Nat) (x : f_impl_numbersAfter_2i.D) : f_impl_numbersAfter_2D.lp (k + 1) x = loopK x_impl_numbersAfter f_impl_numbersAfter_2D 2 f_impl_numbersAfter_2B k x := by kernel_rfl
theorem f_impl_numbersAfter_2l (k : Nat) : LOK Try.prog x_impl_numbersAfter k f_impl_numbersAfter_2B := LOK.by [(f_impl_numbersAfter_4D.E, .block 4 (.loop f_impl_numbersAfter_4B))] (by kernel_rfl) (AllOK.cons (f_impl_numbersAfter_4ok k) AllOK.nil)
theorem f_impl_numbersAfter_2z (x : f_impl_numbersAfter_2i.D) : f_impl_numbersAfter_2D.lp 0 x = none := by kernel_rfl
theorem f_impl_numbersAfter_2ok (k : Nat) : EOK Try.prog x_impl_numbersAfter k f_impl_numbersAfter_2D.E (.block 2 (.loop f_impl_numbersAfter_2B)) := loop_ok T_ok g_impl_numbersAfter f_impl_numbersAfter_2z f_impl_numbersAfter_2h f_impl_numbersAfter_2l k
noncomputable def f_impl_numbersAfter_0B : Code := (findLoop 0 c_impl_numbersAfter).getD .skip
theorem f_impl_numbersAfter_0h (k : Nat) (x : f_impl_numbersAfter_0i.D) : f_impl_numbersAfter_0D.lp (k + 1) x = loopK x_impl_numbersAfter f_impl_numbersAfter_0D 0 f_impl_numbersAfter_0B k x := by kernel_rfl
theorem f_impl_numbersAfter_0l (k : Nat) : LOK Try.prog x_impl_numbersAfter k f_impl_numbersAfter_0B := LOK.by [(f_impl_numbersAfter_2D.E, .block 2 (.loop f_impl_numbersAfter_2B))] (by kernel_rfl) (AllOK.cons (f_impl_numbersAfter_2ok k) AllOK.nil)
theorem f_impl_numbersAfter_0z (x : f_impl_numbersAfter_0i.D) : f_impl_numbersAfter_0D.lp 0 x = none := by kernel_rfl
theorem f_impl_numbersAfter_0ok (k : Nat) : EOK Try.prog x_impl_numbersAfter k f_impl_numbersAfter_0D.E (.block 0 (.loop f_impl_numbersAfter_0B)) := loop_ok T_ok g_impl_numbersAfter f_impl_numbersAfter_0z f_impl_numbersAfter_0h f_impl_numbersAfter_0l k
theorem h_impl_numbersAfter (k : Nat) (x : Tup d_impl_numbersAfter.ps) : d_impl_numbersAfter.f (k + 1) x = fnK d_impl_numbersAfter x_impl_numbersAfter c_impl_numbersAfter k x := by kernel_rfl
theorem z_impl_numbersAfter (x : Tup d_impl_numbersAfter.ps) : d_impl_numbersAfter.f 0 x = none := by kernel_rfl
theorem l_impl_numbersAfter (k : Nat) : LOK Try.prog x_impl_numbersAfter k c_impl_numbersAfter := LOK.by [(f_impl_numbersAfter_0D.E, .block 0 (.loop f_impl_numbersAfter_0B))] (by kernel_rfl) (AllOK.cons (f_impl_numbersAfter_0ok k) AllOK.nil)
theorem s_impl_numbersAfter (k : Nat) : SoundAt Try.prog k 36 d_impl_numbersAfter.E := @fn_all Try.prog d_impl_numbersAfter x_impl_numbersAfter 36 Try.f36 c_impl_numbersAfter (by kernel_rfl) (by kernel_rfl) (by kernel_rfl) Try.func36 (by kernel_rfl) (by kernel_rfl) (by kernel_rfl) T_ok g_impl_numbersAfter l_impl_numbersAfter z_impl_numbersAfter h_impl_numbersAfter k
/-! function 42 -/
/-! function 43 -/
/-! function 47 -/
/-! function 49 -/
noncomputable def r_impl_bitsOf : List PK := [{ t := Ty.slice (3 : Nat) (Ty.int IntKind.i64) }]
noncomputable def q_impl_bitsOf : List PK := [{ t := Ty.pair (Ty.int IntKind.i64) (Ty.pair (Ty.int IntKind.i64) (Ty.slice (75 : Nat) (Ty.pair (Ty.int IntKind.i64) (Ty.int IntKind.i64)))), agg := true }]
noncomputable def to_impl_bitsOf (r : List Int) : Tup r_impl_bitsOf × OutD := ((r, ()), none)
noncomputable def of_impl_bitsOf : Tup r_impl_bitsOf × OutD → Option (List Int)
  | (a, none) => some (a.1)
  | _ => none
theorem to_of_impl_bitsOf : ∀ b r, of_impl_bitsOf b = some r → to_impl_bitsOf r = b := by
  rintro ⟨a, o⟩ r h
  cases o with
  | none => injection h with h; subst h; rfl
  | some _ => cases h
noncomputable def f_impl_bitsOf_0 : Nat → Int → Int → List (Int × Int) → List Int → List (List Int) → Int → Int → Option (List Int)
  | 0, _, _, _, _, _, _, _ => none
  | k + 1, b1_0, b1_1, b1_2, o2, o3, v9, v10 =>
    if decide (v10 < v9) = true then if (0 : Int) ≤ v10 then if v10 < (↑(List.length o3) : Int) then if (0 : Int) < (↑(List.length (List.getD o3 (Int.toNat v10) [])) : Int) then if (0 : Int) ≤ List.getD (List.getD o3 (Int.toNat v10) []) (Int.toNat (0 : Int)) (0 : Int) then if List.getD (List.getD o3 (Int.toNat v10) []) (Int.toNat (0 : Int)) (0 : Int) < (↑(List.length b1_2) : Int) then if List.length o2 + List.length [Prod.snd (List.getD b1_2 (Int.toNat (List.getD (List.getD o3 (Int.toNat v10) []) (Int.toNat (0 : Int)) (0 : Int))) ((0 : Int), (0 : Int)))] ≤ (140737488355328 / 8 : Nat) then f_impl_bitsOf_0 k b1_0 b1_1 b1_2 (o2 ++ [Prod.snd (List.getD b1_2 (Int.toNat (List.getD (List.getD o3 (Int.toNat v10) []) (Int.toNat (0 : Int)) (0 : Int))) ((0 : Int), (0 : Int)))]) o3 v9 (wrap64 (v10 + (1 : Int))) else none else none else none else none else none else none else some o2
noncomputable def f_impl_bitsOf_0i : Spec := { objs := [OSh.ro, OSh.box (31 : Nat) [Sh.int IntKind.i64, Sh.int IntKind.i64, Sh.snap (0 : Nat) (Ty.pair (Ty.int IntKind.i64) (Ty.int IntKind.i64))], OSh.row true (3 : Nat) (Ty.int IntKind.i64), OSh.row true (26 : Nat) (Ty.slice (3 : Nat) (Ty.int IntKind.i64))], tmps := [((1 : Nat), TSh.at (Sh.ptr (1 : Nat) (0 : Nat))), ((3 : Nat), TSh.at (Sh.sl (2 : Nat))), ((8 : Nat), TSh.at (Sh.sl (3 : Nat))), ((9 : Nat), TSh.at (Sh.int IntKind.i64)), ((10 : Nat), TSh.at (Sh.int IntKind.i64))] }
noncomputable def f_impl_bitsOf_0o : Spec := { objs := [OSh.ro, OSh.row true (3 : Nat) (Ty.int IntKind.i64)], tmps := [((3 : Nat), TSh.at (Sh.sl (1 : Nat)))] }
noncomputable def f_impl_bitsOf_0D : LoopDef (Tup r_impl_bitsOf × OutD) := .plain f_impl_bitsOf_0i f_impl_bitsOf_0o (List Int) (fun k x => f_impl_bitsOf_0 k x.1.2.1.1 x.1.2.1.2.1 x.1.2.1.2.2.1 x.1.2.2.1 x.1.2.2.2.1 x.2.2.2.2.1 x.2.2.2.2.2.1) (fun z => (((), z, ()), ((), ()))) (fun y => (y.1.2.1)) (fun _ => rfl)
noncomputable def f_impl_bitsOf : Nat → Int × Int × List (Int × Int) → Option (List Int)
  | 0, _ => none
  | k + 1, p0 =>
    Option.bind (f_impl_unitsOf k (Prod.fst p0, Prod.fst (Prod.snd p0), Prod.snd (Prod.snd p0))) fun z0 => Option.bind (f_impl_bitsOf_0 k (Prod.fst p0) (Prod.fst (Prod.snd p0)) (Prod.snd (Prod.snd p0)) [] z0 (↑(List.length z0) : Int) (0 : Int)) fun z1 => some z1
noncomputable def d_impl_bitsOf : FnDef := .of q_impl_bitsOf r_impl_bitsOf (List Int) (fun k x => f_impl_bitsOf k x.1) to_impl_bitsOf of_impl_bitsOf to_of_impl_bitsOf
noncomputable def c_impl_bitsOf : Code := Try.f49.body.getD .skip
noncomputable def x_impl_bitsOf : Ctx (Tup r_impl_bitsOf × OutD) := { T := T, G := [(46, d_impl_unitsOf.E)], mvs := [], no := 0, n := 27, res := resOf T q_impl_bitsOf r_impl_bitsOf Try.f49.results.toList, loops := [(0, f_impl_bitsOf_0D.E)], regs := [], conds := [] }
theorem g_impl_bitsOf (k : Nat) : EnvOK Try.prog k x_impl_bitsOf.G := (EnvOK.cons (s_impl_unitsOf k) (EnvOK.nil mixed))
noncomputable def f_impl_bitsOf_0B : Code := (findLoop 0 c_impl_bitsOf).getD .skip
theorem f_impl_bitsOf_0h (k : Nat) (x : f_impl_bitsOf_0i.D) : f_impl_bitsOf_0D.lp (k + 1) x = loopK x_impl_bitsOf f_impl_bitsOf_0D 0 f_impl_bitsOf_0B k x := by kernel_rfl
theorem f_impl_bitsOf_0l (k : Nat) : LOK Try.prog x_impl_bitsOf k f_impl_bitsOf_0B := LOK.by [] (by kernel_rfl) AllOK.nil
theorem f_impl_bitsOf_0z (x : f_impl_bitsOf_0i.D) : f_impl_bitsOf_0D.lp 0 x = none := by kernel_rfl
theorem f_impl_bitsOf_0ok (k : Nat) : EOK Try.prog x_impl_bitsOf k f_impl_bitsOf_0D.E (.block 0 (.loop f_impl_bitsOf_0B)) := loop_ok T_ok g_impl_bitsOf f_impl_bitsOf_0z f_impl_bitsOf_0h f_impl_bitsOf_0l k
theorem h_impl_bitsOf (k : Nat) (x : Tup d_impl_bitsOf.ps) : d_impl_bitsOf.f (k + 1) x = fnK d_impl_bitsOf x_impl_bitsOf c_impl_bitsOf k x := by kernel_rfl
theorem z_impl_bitsOf (x : Tup d_impl_bitsOf.ps) : d_impl_bitsOf.f 0 x = none := by kernel_rfl
theorem l_impl_bitsOf (k : Nat) : LOK Try.prog x_impl_bitsOf k c_impl_bitsOf := LOK.by [(f_impl_bitsOf_0D.E, .block 0 (.loop f_impl_bitsOf_0B))] (by kernel_rfl) (AllOK.cons (f_impl_bitsOf_0ok k) AllOK.nil)
theorem s_impl_bitsOf (k : Nat) : SoundAt Try.prog k 49 d_impl_bitsOf.E := @fn_all Try.prog d_impl_bitsOf x_impl_bitsOf 49 Try.f49 c_impl_bitsOf (by kernel_rfl) (by kernel_rfl) (by kernel_rfl) Try.func49 (by kernel_rfl) (by kernel_rfl) (by kernel_rfl) T_ok g_impl_bitsOf l_impl_bitsOf z_impl_bitsOf h_impl_bitsOf k
/-! function 52 -/
noncomputable def r_impl_BoardInState : List PK := [{ t := Ty.pair (Ty.int IntKind.i64) (Ty.pair (Ty.int IntKind.i64) (Ty.slice (75 : Nat) (Ty.pair (Ty.int IntKind.i64) (Ty.int IntKind.i64)))), agg := true }, { t := Ty.bool }]
noncomputable def q_impl_BoardInState : List PK := [{ t := Ty.pair (Ty.int IntKind.i64) (Ty.pair (Ty.int IntKind.i64) (Ty.slice (75 : Nat) (Ty.pair (Ty.int IntKind.i64) (Ty.int IntKind.i64)))), agg := true }, { t := Ty.int IntKind.i64 }]
noncomputable def to_impl_BoardInState (r : (Int × Int × List (Int × Int)) × Bool) : Tup r_impl_BoardInState × OutD := ((r.1, r.2, ()), none)
noncomputable def of_impl_BoardInState : Tup r_impl_BoardInState × OutD → Option ((Int × Int × List (Int × Int)) × Bool)
  | (a, none) => some (a.1, a.2.1)
  | _ => none
theorem to_of_impl_BoardInState : ∀ b r, of_impl_BoardInState b = some r → to_impl_BoardInState r = b := by
  rintro ⟨a, o⟩ r h
  cases o with
  | none => injection h with h; subst h; rfl
  | some _ => cases h
noncomputable def f_impl_BoardInState : Nat → Int × Int × List (Int × Int) → Int → Option ((Int × Int × List (Int × Int)) × Bool)
  | 0, _, _ => none
  | k + 1, p0, p1 =>
    Option.bind (f_impl_IsBoard k (Prod.fst p0, Prod.fst (Prod.snd p0), Prod.snd (Prod.snd p0))) fun z0 => if (!z0) = true then some (((0 : Int), (0 : Int), []), false) else Option.bind (f_impl_unitsOf k (Prod.fst p0, Prod.fst (Prod.snd p0), Prod.snd (Prod.snd p0))) fun z1 => if decide ((↑(List.length z1) : Int) > (16 : Int)) = true then some (((0 : Int), (0 : Int), []), false) else if decide (p1 < (0 : Int)) = true then some (((0 : Int), (0 : Int), []), false) else if decide (p1 ≥ shlS (1 : Int) (↑(List.length z1) : Int)) = true then some (((0 : Int), (0 : Int), []), false) else Option.bind (f_impl_copyBoard k (Prod.fst p0, Prod.fst (Prod.snd p0), Prod.snd (Prod.snd p0))) fun z2 => Option.bind (f_impl_bitList k p1 (↑(List.length z1) : Int)) fun z3 => Option.bind (f_impl_setBits k (Prod.fst z2, Prod.fst (Prod.snd z2), Prod.snd (Prod.snd z2)) z1 z3) fun z4 => some ((Prod.fst z2, Prod.fst (Prod.snd z2), z4), true)
noncomputable def d_impl_BoardInState : FnDef := .of q_impl_BoardInState r_impl_BoardInState ((Int × Int × List (Int × Int)) × Bool) (fun k x => f_impl_BoardInState k x.1 x.2.1) to_impl_BoardInState of_impl_BoardInState to_of_impl_BoardInState
noncomputable def c_impl_BoardInState : Code := Try.f52.body.getD .skip
noncomputable def x_impl_BoardInState : Ctx (Tup r_impl_BoardInState × OutD) := { T := T, G := [(45, d_impl_IsBoard.E), (46, d_impl_unitsOf.E), (62, d_impl_copyBoard.E), (64, d_impl_bitList.E), (63, d_impl_setBits.E)], mvs := [], no := 0, n := 39, res := resOf T q_impl_BoardInState r_impl_BoardInState Try.f52.results.toList, loops := [], regs := [], conds := [] }
theorem g_impl_BoardInState (k : Nat) : EnvOK Try.prog k x_impl_BoardInState.G := (EnvOK.cons (s_impl_IsBoard k) (EnvOK.cons (s_impl_unitsOf k) (EnvOK.cons (s_impl_copyBoard k) (EnvOK.cons (s_impl_bitList k) (EnvOK.cons (s_impl_setBits k) (EnvOK.nil mixed))))))
theorem h_impl_BoardInState (k : Nat) (x : Tup d_impl_BoardInState.ps) : d_impl_BoardInState.f (k + 1) x = fnK d_impl_BoardInState x_impl_BoardInState c_impl_BoardInState k x := by kernel_rfl
theorem z_impl_BoardInState (x : Tup d_impl_BoardInState.ps) : d_impl_BoardInState.f 0 x = none := by kernel_rfl
theorem l_impl_BoardInState (k : Nat) : LOK Try.prog x_impl_BoardInState k c_impl_BoardInState := LOK.by [] (by kernel_rfl) AllOK.nil
theorem s_impl_BoardInState (k : Nat) : SoundAt Try.prog k 52 d_impl_BoardInState.E := @fn_all Try.prog d_impl_BoardInState x_impl_BoardInState 52 Try.f52 c_impl_BoardInState (by kernel_rfl) (by kernel_rfl) (by kernel_rfl) Try.func52 (by kernel_rfl) (by kernel_rfl) (by kernel_rfl) T_ok g_impl_BoardInState l_impl_BoardInState z_impl_BoardInState h_impl_BoardInState k
/-! function 55 -/
noncomputable def r_spec_flHas : List PK := [{ t := Ty.bool }]
noncomputable def q_spec_flHas : List PK := [{ t := Ty.pair (Ty.int IntKind.i64) (Ty.pair (Ty.int IntKind.i64) (Ty.slice (75 : Nat) (Ty.pair (Ty.int IntKind.i64) (Ty.int IntKind.i64)))), agg := true }, { t := Ty.int IntKind.i64 }]
noncomputable def to_spec_flHas (r : Bool) : Tup r_spec_flHas × OutD := ((r, ()), none)
noncomputable def of_spec_flHas : Tup r_spec_flHas × OutD → Option (Bool)
  | (a, none) => some (a.1)
  | _ => none
theorem to_of_spec_flHas : ∀ b r, of_spec_flHas b = some r → to_spec_flHas r = b := by
  rintro ⟨a, o⟩ r h
  cases o with
  | none => injection h with h; subst h; rfl
  | some _ => cases h
noncomputable def f_spec_flHas : Nat → Int × Int × List (Int × Int) → Int → Option Bool
  | 0, _, _ => none
  | k + 1, p0, p1 =>
    Option.bind (f_spec_boGood k (Prod.fst p0, Prod.fst (Prod.snd p0), Prod.snd (Prod.snd p0))) fun z0 => if z0 = true then Option.bind (f_spec_l1In k p1 (0 : Int) (wrap64 (Prod.fst (Prod.snd p0) - (1 : Int)))) fun z1 => some z1 else some false
noncomputable def d_spec_flHas : FnDef := .of q_spec_flHas r_spec_flHas (Bool) (fun k x => f_spec_flHas k x.1 x.2.1) to_spec_flHas of_spec_flHas to_of_spec_flHas
noncomputable def c_spec_flHas : Code := Try.f55.body.getD .skip
noncomputable def x_spec_flHas : Ctx (Tup r_spec_flHas × OutD) := { T := T, G := [(67, d_spec_boGood.E), (74, d_spec_l1In.E)], mvs := [], no := 0, n := 14, res := resOf T q_spec_flHas r_spec_flHas Try.f55.results.toList, loops := [], regs := [], conds := [] }
theorem g_spec_flHas (k : Nat) : EnvOK Try.prog k x_spec_flHas.G := (EnvOK.cons (s_spec_boGood k) (EnvOK.cons (s_spec_l1In k) (EnvOK.nil mixed)))
theorem h_spec_flHas (k : Nat) (x : Tup d_spec_flHas.ps) : d_spec_flHas.f (k + 1) x = fnK d_spec_flHas x_spec_flHas c_spec_flHas k x := by kernel_rfl
theorem z_spec_flHas (x : Tup d_spec_flHas.ps) : d_spec_flHas.f 0 x = none := by kernel_rfl
theorem l_spec_flHas (k : Nat) : LOK Try.prog x_spec_flHas k c_spec_flHas := LOK.by [] (by kernel_rfl) AllOK.nil
theorem s_spec_flHas (k : Nat) : SoundAt Try.prog k 55 d_spec_flHas.E := @fn_all Try.prog d_spec_flHas x_spec_flHas 55 Try.f55 c_spec_flHas (by kernel_rfl) (by kernel_rfl) (by kernel_rfl) Try.func55 (by kernel_rfl) (by kernel_rfl) (by kernel_rfl) T_ok g_spec_flHas l_spec_flHas z_spec_flHas h_spec_flHas k
/-! function 57 -/
noncomputable def r_spec_rvStates : List PK := [{ t := Ty.int IntKind.i64 }]
noncomputable def q_spec_rvStates : List PK := [{ t := Ty.pair (Ty.int IntKind.i64) (Ty.pair (Ty.int IntKind.i64) (Ty.slice (75 : Nat) (Ty.pair (Ty.int IntKind.i64) (Ty.int IntKind.i64)))), agg := true }]
noncomputable def to_spec_rvStates (r : Int) : Tup r_spec_rvStates × OutD := ((r, ()), none)
noncomputable def of_spec_rvStates : Tup r_spec_rvStates × OutD → Option (Int)
  | (a, none) => some (a.1)
  | _ => none
theorem to_of_spec_rvStates : ∀ b r, of_spec_rvStates b = some r → to_spec_rvStates r = b := by
  rintro ⟨a, o⟩ r h
  cases o with
  | none => injection h with h; subst h; rfl
  | some _ => cases h
noncomputable def f_spec_rvStates : Nat → Int × Int × List (Int × Int) → Option Int
  | 0, _ => none
  | k + 1, p0 =>
    Option.bind (f_spec_saUnits k (Prod.fst p0, Prod.fst (Prod.snd p0), Prod.snd (Prod.snd p0))) fun z0 => some (shlS (1 : Int) (IntKind.wrap IntKind.u64 (↑(List.length z0) : Int)))
noncomputable def d_spec_rvStates : FnDef := .of q_spec_rvStates r_spec_rvStates (Int) (fun k x => f_spec_rvStates k x.1) to_spec_rvStates of_spec_rvStates to_of_spec_rvStates
noncomputable def c_spec_rvStates : Code := Try.f57.body.getD .skip
noncomputable def x_spec_rvStates : Ctx (Tup r_spec_rvStates × OutD) := { T := T, G := [(56, d_spec_saUnits.E)], mvs := [], no := 0, n := 8, res := resOf T q_spec_rvStates r_spec_rvStates Try.f57.results.toList, loops := [], regs := [], conds := [] }
theorem g_spec_rvStates (k : Nat) : EnvOK Try.prog k x_spec_rvStates.G := (EnvOK.cons (s_spec_saUnits k) (EnvOK.nil mixed))
theorem h_spec_rvStates (k : Nat) (x : Tup d_spec_rvStates.ps) : d_spec_rvStates.f (k + 1) x = fnK d_spec_rvStates x_spec_rvStates c_spec_rvStates k x := by kernel_rfl
theorem z_spec_rvStates (x : Tup d_spec_rvStates.ps) : d_spec_rvStates.f 0 x = none := by kernel_rfl
theorem l_spec_rvStates (k : Nat) : LOK Try.prog x_spec_rvStates k c_spec_rvStates := LOK.by [] (by kernel_rfl) AllOK.nil
theorem s_spec_rvStates (k : Nat) : SoundAt Try.prog k 57 d_spec_rvStates.E := @fn_all Try.prog d_spec_rvStates x_spec_rvStates 57 Try.f57 c_spec_rvStates (by kernel_rfl) (by kernel_rfl) (by kernel_rfl) Try.func57 (by kernel_rfl) (by kernel_rfl) (by kernel_rfl) T_ok g_spec_rvStates l_spec_rvStates z_spec_rvStates h_spec_rvStates k
/-! function 58 -/
noncomputable def r_spec_flRun : List PK := [{ t := Ty.pair (Ty.int IntKind.i64) (Ty.pair (Ty.int IntKind.i64) (Ty.int IntKind.i64)), agg := true }, { t := Ty.pair (Ty.int IntKind.i64) (Ty.pair (Ty.int IntKind.i64) (Ty.slice (75 : Nat) (Ty.pair (Ty.int IntKind.i64) (Ty.int IntKind.i64)))), agg := true }]
noncomputable def q_spec_flRun : List PK := [{ t := Ty.pair (Ty.int IntKind.i64) (Ty.pair (Ty.int IntKind.i64) (Ty.slice (75 : Nat) (Ty.pair (Ty.int IntKind.i64) (Ty.int IntKind.i64)))), agg := true }, { t := Ty.int IntKind.i64 }]
noncomputable def to_spec_flRun (r : (Int × Int × Int) × Int × Int × List (Int × Int)) : Tup r_spec_flRun × OutD := ((r.1, r.2, ()), none)
noncomputable def of_spec_flRun : Tup r_spec_flRun × OutD → Option ((Int × Int × Int) × Int × Int × List (Int × Int))
  | (a, none) => some (a.1, a.2.1)
  | _ => none
theorem to_of_spec_flRun : ∀ b r, of_spec_flRun b = some r → to_spec_flRun r = b := by
  rintro ⟨a, o⟩ r h
  cases o with
  | none => injection h with h; subst h; rfl
  | some _ => cases h
noncomputable def f_spec_flRun_g1 : Nat → Int → Int → List (Int × Int) → Int → Int → Int → Int → Int → List (Int × Int) → Int → Option (Int × Int × Int × Int × Int × List (Int × Int) × Int × Int × Int × Int × Int × List (Int × Int)) := fun k b1_0 b1_1 b1_2 b2_0 b2_1 b2_2 b3_0 b3_1 o4 v1 =>
    Option.bind (f_spec_ggGroups k (b1_0, b1_1, b1_2)) fun z0 => Option.bind (f_spec_flGo k (b1_0, b1_1, b1_2) z0 v1) fun z1 => some (b2_0, b2_1, b2_2, b3_0, b3_1, o4, Prod.fst (Prod.fst z1), Prod.fst (Prod.snd (Prod.fst z1)), Prod.snd (Prod.snd (Prod.fst z1)), Prod.fst (Prod.fst (Prod.snd z1)), Prod.fst (Prod.snd (Prod.fst (Prod.snd z1))), Prod.snd (Prod.snd (Prod.fst (Prod.snd z1))))
noncomputable def f_spec_flRun_g1A : Nat → Int → Int → List (Int × Int) → Int → Int → Int → Int → Int → List (Int × Int) → Int → Option (List (Int × Int × Int × Int × Int × List (Int × Int) × Int × Int × Int × Int × Int × List (Int × Int))) := fun k b1_0 b1_1 b1_2 b2_0 b2_1 b2_2 b3_0 b3_1 o4 v1 =>
    joinL (Option.bind (f_spec_ggGroups k (b1_0, b1_1, b1_2)) fun z2 => joinL (Option.bind (f_spec_flGo k (b1_0, b1_1, b1_2) z2 v1) fun z3 => joinL (some [(b2_0, b2_1, b2_2, b3_0, b3_1, o4, Prod.fst (Prod.fst z3), Prod.fst (Prod.snd (Prod.fst z3)), Prod.snd (Prod.snd (Prod.fst z3)), Prod.fst (Prod.fst (Prod.snd z3)), Prod.fst (Prod.snd (Prod.fst (Prod.snd z3))), Prod.snd (Prod.snd (Prod.fst (Prod.snd z3))))]) (some [(b2_0, b2_1, b2_2, b3_0, b3_1, o4, Prod.fst (Prod.fst z3), Prod.fst (Prod.snd (Prod.fst z3)), Prod.snd (Prod.snd (Prod.fst z3)), Prod.fst (Prod.fst (Prod.snd z3)), Prod.fst (Prod.snd (Prod.fst (Prod.snd z3))), Prod.snd (Prod.snd (Prod.fst (Prod.snd z3))))])) (joinL (joinL (Option.bind (f_spec_flGo k (b1_0, b1_1, b1_2) z2 v1) fun z4 => some [(b2_0, b2_1, b2_2, b3_0, b3_1, o4, Prod.fst (Prod.fst z4), Prod.fst (Prod.snd (Prod.fst z4)), Prod.snd (Prod.snd (Prod.fst z4)), Prod.fst (Prod.fst (Prod.snd z4)), Prod.fst (Prod.snd (Prod.fst (Prod.snd z4))), Prod.snd (Prod.snd (Prod.fst (Prod.snd z4))))]) (Option.bind (f_spec_flGo k (b1_0, b1_1, b1_2) z2 v1) fun z5 => some [(b2_0, b2_1, b2_2, b3_0, b3_1, o4, Prod.fst (Prod.fst z5), Prod.fst (Prod.snd (Prod.fst z5)), Prod.snd (Prod.snd (Prod.fst z5)), Prod.fst (Prod.fst (Prod.snd z5)), Prod.fst (Prod.snd (Prod.fst (Prod.snd z5))), Prod.snd (Prod.snd (Prod.fst (Prod.snd z5))))])) (joinL (Option.bind (f_spec_flGo k (b1_0, b1_1, b1_2) z2 v1) fun z6 => some [(b2_0, b2_1, b2_2, b3_0, b3_1, o4, Prod.fst (Prod.fst z6), Prod.fst (Prod.snd (Prod.fst z6)), Prod.snd (Prod.snd (Prod.fst z6)), Prod.fst (Prod.fst (Prod.snd z6)), Prod.fst (Prod.snd (Prod.fst (Prod.snd z6))), Prod.snd (Prod.snd (Prod.fst (Prod.snd z6))))]) (Option.bind (f_spec_flGo k (b1_0, b1_1, b1_2) z2 v1) fun z7 => some [(b2_0, b2_1, b2_2, b3_0, b3_1, o4, Prod.fst (Prod.fst z7), Prod.fst (Prod.snd (Prod.fst z7)), Prod.snd (Prod.snd (Prod.fst z7)), Prod.fst (Prod.fst (Prod.snd z7)), Prod.fst (Prod.snd (Prod.fst (Prod.snd z7))), Prod.snd (Prod.snd (Prod.fst (Prod.snd z7))))])))) (joinL (joinL (Option.bind (f_spec_ggGroups k (b1_0, b1_1, b1_2)) fun z8 => joinL (Option.bind (f_spec_flGo k (b1_0, b1_1, b1_2) z8 v1) fun z9 => some [(b2_0, b2_1, b2_2, b3_0, b3_1, o4, Prod.fst (Prod.fst z9), Prod.fst (Prod.snd (Prod.fst z9)), Prod.snd (Prod.snd (Prod.fst z9)), Prod.fst (Prod.fst (Prod.snd z9)), Prod.fst (Prod.snd (Prod.fst (Prod.snd z9))), Prod.snd (Prod.snd (Prod.fst (Prod.snd z9))))]) (Option.bind (f_spec_flGo k (b1_0, b1_1, b1_2) z8 v1) fun z10 => some [(b2_0, b2_1, b2_2, b3_0, b3_1, o4, Prod.fst (Prod.fst z10), Prod.fst (Prod.snd (Prod.fst z10)), Prod.snd (Prod.snd (Prod.fst z10)), Prod.fst (Prod.fst (Prod.snd z10)), Prod.fst (Prod.snd (Prod.fst (Prod.snd z10))), Prod.snd (Prod.snd (Prod.fst (Prod.snd z10))))])) (Option.bind (f_spec_ggGroups k (b1_0, b1_1, b1_2)) fun z11 => Option.bind (f_spec_flGo k (b1_0, b1_1, b1_2) z11 v1) fun z12 => some [(b2_0, b2_1, b2_2, b3_0, b3_1, o4, Prod.fst (Prod.fst z12), Prod.fst (Prod.snd (Prod.fst z12)), Prod.snd (Prod.snd (Prod.fst z12)), Prod.fst (Prod.fst (Prod.snd z12)), Prod.fst (Prod.snd (Prod.fst (Prod.snd z12))), Prod.snd (Prod.snd (Prod.fst (Prod.snd z12))))])) (joinL (Option.bind (f_spec_ggGroups k (b1_0, b1_1, b1_2)) fun z13 => joinL (Option.bind (f_spec_flGo k (b1_0, b1_1, b1_2) z13 v1) fun z14 => some [(b2_0, b2_1, b2_2, b3_0, b3_1, o4, Prod.fst (Prod.fst z14), Prod.fst (Prod.snd (Prod.fst z14)), Prod.snd (Prod.snd (Prod.fst z14)), Prod.fst (Prod.fst (Prod.snd z14)), Prod.fst (Prod.snd (Prod.fst (Prod.snd z14))), Prod.snd (Prod.snd (Prod.fst (Prod.snd z14))))]) (Option.bind (f_spec_flGo k (b1_0, b1_1, b1_2) z13 v1) fun z15 => some [(b2_0, b2_1, b2_2, b3_0, b3_1, o4, Prod.fst (Prod.fst z15), Prod.fst (Prod.snd (Prod.fst z15)), Prod.snd (Prod.snd (Prod.fst z15)), Prod.fst (Prod.fst (Prod.snd z15)), Prod.fst (Prod.snd (Prod.fst (Prod.snd z15))), Prod.snd (Prod.snd (Prod.fst (Prod.snd z15))))])) (Option.bind (f_spec_ggGroups k (b1_0, b1_1, b1_2)) fun z16 => Option.bind (f_spec_flGo k (b1_0, b1_1, b1_2) z16 v1) fun z17 => some [(b2_0, b2_1, b2_2, b3_0, b3_1, o4, Prod.fst (Prod.fst z17), Prod.fst (Prod.snd (Prod.fst z17)), Prod.snd (Prod.snd (Prod.fst z17)), Prod.fst (Prod.fst (Prod.snd z17)), Prod.fst (Prod.snd (Prod.fst (Prod.snd z17))), Prod.snd (Prod.snd (Prod.fst (Prod.snd z17))))])))
noncomputable def f_spec_flRun_g1i : Spec := { objs := [OSh.ro, OSh.box (31 : Nat) [Sh.int IntKind.i64, Sh.int IntKind.i64, Sh.snap (0 : Nat) (Ty.pair (Ty.int IntKind.i64) (Ty.int IntKind.i64))], OSh.box (71 : Nat) [Sh.int IntKind.i64, Sh.int IntKind.i64, Sh.int IntKind.i64], OSh.box (31 : Nat) [Sh.int IntKind.i64, Sh.int IntKind.i64, Sh.sl (4 : Nat)], OSh.row true (75 : Nat) (Ty.pair (Ty.int IntKind.i64) (Ty.int IntKind.i64))], tmps := [((1 : Nat), TSh.at (Sh.int IntKind.i64)), ((2 : Nat), TSh.at (Sh.ptr (1 : Nat) (0 : Nat))), ((4 : Nat), TSh.at (Sh.ptr (2 : Nat) (0 : Nat))), ((5 : Nat), TSh.at (Sh.ptr (3 : Nat) (0 : Nat)))] }
noncomputable def f_spec_flRun_g1o : Spec := { objs := [OSh.ro, OSh.box (71 : Nat) [Sh.int IntKind.i64, Sh.int IntKind.i64, Sh.int IntKind.i64], OSh.box (31 : Nat) [Sh.int IntKind.i64, Sh.int IntKind.i64, Sh.sl (3 : Nat)], OSh.row true (75 : Nat) (Ty.pair (Ty.int IntKind.i64) (Ty.int IntKind.i64)), OSh.box (71 : Nat) [Sh.int IntKind.i64, Sh.int IntKind.i64, Sh.int IntKind.i64], OSh.box (31 : Nat) [Sh.int IntKind.i64, Sh.int IntKind.i64, Sh.sl (6 : Nat)], OSh.row true (75 : Nat) (Ty.pair (Ty.int IntKind.i64) (Ty.int IntKind.i64))], tmps := [((4 : Nat), TSh.at (Sh.ptr (1 : Nat) (0 : Nat))), ((5 : Nat), TSh.at (Sh.ptr (2 : Nat) (0 : Nat))), ((6 : Nat), TSh.at (Sh.ptr (4 : Nat) (0 : Nat))), ((7 : Nat), TSh.at (Sh.ptr (5 : Nat) (0 : Nat)))] }
noncomputable def f_spec_flRun_g1D : LoopDef (Tup r_spec_flRun × OutD) := .plain f_spec_flRun_g1i f_spec_flRun_g1o (Int × Int × Int × Int × Int × List (Int × Int) × Int × Int × Int × Int × Int × List (Int × Int)) (fun k x => f_spec_flRun_g1 k x.1.2.1.1 x.1.2.1.2.1 x.1.2.1.2.2.1 x.1.2.2.1.1 x.1.2.2.1.2.1 x.1.2.2.1.2.2.1 x.1.2.2.2.1.1 x.1.2.2.2.1.2.1 x.1.2.2.2.2.1 x.2.1) (fun z => (((), (z.1, z.2.1, z.2.2.1, ()), (z.2.2.2.1, z.2.2.2.2.1, (), ()), z.2.2.2.2.2.1, (z.2.2.2.2.2.2.1, z.2.2.2.2.2.2.2.1, z.2.2.2.2.2.2.2.2.1, ()), (z.2.2.2.2.2.2.2.2.2.1, z.2.2.2.2.2.2.2.2.2.2.1, (), ()), z.2.2.2.2.2.2.2.2.2.2.2, ()), ((), (), (), (), ()))) (fun y => (y.1.2.1.1, y.1.2.1.2.1, y.1.2.1.2.2.1, y.1.2.2.1.1, y.1.2.2.1.2.1, y.1.2.2.2.1, y.1.2.2.2.2.1.1, y.1.2.2.2.2.1.2.1, y.1.2.2.2.2.1.2.2.1, y.1.2.2.2.2.2.1.1, y.1.2.2.2.2.2.1.2.1, y.1.2.2.2.2.2.2.1)) (fun _ => rfl)
theorem f_spec_flRun_g1j (k : Nat) (b1_0 : Int) (b1_1 : Int) (b1_2 : List (Int × Int)) (b2_0 : Int) (b2_1 : Int) (b2_2 : Int) (b3_0 : Int) (b3_1 : Int) (o4 : List (Int × Int)) (v1 : Int) : f_spec_flRun_g1A k b1_0 b1_1 b1_2 b2_0 b2_1 b2_2 b3_0 b3_1 o4 v1 = repl 12 (f_spec_flRun_g1 k b1_0 b1_1 b1_2 b2_0 b2_1 b2_2 b3_0 b3_1 o4 v1) := by
  first
  | (simp only [f_spec_flRun_g1A, f_spec_flRun_g1, repl_some, repl_ite, repl_ite0, repl_ite1, repl_bind, joinL_repl, if_true]; done)
  | (simp only [f_spec_flRun_g1A, f_spec_flRun_g1, repl_some, repl_ite, repl_ite0, repl_ite1, repl_bind, joinL_repl, if_true]; simp only [joinL_grdl, joinL_grdr, repl_grd, joinL_repl]; simp only [grd_and]; exact grd_congr ⟨fun h => by simp only [h, and_self], fun h => by simp only [h, and_self]⟩)
noncomputable def f_spec_flRun_g2 : Nat → Int → Int → Int → Int → Int → List (Int × Int) → Int → Int → Int → Int → Int → List (Int × Int) → Option (Int × Int × Int × Int × Int × List (Int × Int)) := fun k b1_0 b1_1 b1_2 b2_0 b2_1 o3 b4_0 b4_1 b4_2 b5_0 b5_1 o6 =>
    some (b4_0, b4_1, b4_2, b5_0, b5_1, o6)
noncomputable def f_spec_flRun_g2A : Nat → Int → Int → Int → Int → Int → List (Int × Int) → Int → Int → Int → Int → Int → List (Int × Int) → Option (List (Int × Int × Int × Int × Int × List (Int × Int))) := fun k b1_0 b1_1 b1_2 b2_0 b2_1 o3 b4_0 b4_1 b4_2 b5_0 b5_1 o6 =>
    joinL (some [(b4_0, b4_1, b4_2, b5_0, b5_1, o6)]) (some [(b4_0, b4_1, b4_2, b5_0, b5_1, o6)])
noncomputable def f_spec_flRun_g2i : Spec := { objs := [OSh.ro, OSh.box (71 : Nat) [Sh.int IntKind.i64, Sh.int IntKind.i64, Sh.int IntKind.i64], OSh.box (31 : Nat) [Sh.int IntKind.i64, Sh.int IntKind.i64, Sh.sl (3 : Nat)], OSh.row true (75 : Nat) (Ty.pair (Ty.int IntKind.i64) (Ty.int IntKind.i64)), OSh.box (71 : Nat) [Sh.int IntKind.i64, Sh.int IntKind.i64, Sh.int IntKind.i64], OSh.box (31 : Nat) [Sh.int IntKind.i64, Sh.int IntKind.i64, Sh.sl (6 : Nat)], OSh.row true (75 : Nat) (Ty.pair (Ty.int IntKind.i64) (Ty.int IntKind.i64))], tmps := [((4 : Nat), TSh.at (Sh.ptr (1 : Nat) (0 : Nat))), ((5 : Nat), TSh.at (Sh.ptr (2 : Nat) (0 : Nat))), ((6 : Nat), TSh.at (Sh.ptr (4 : Nat) (0 : Nat))), ((7 : Nat), TSh.at (Sh.ptr (5 : Nat) (0 : Nat)))] }
noncomputable def f_spec_flRun_g2o : Spec := { objs := [OSh.ro, OSh.box (71 : Nat) [Sh.int IntKind.i64, Sh.int IntKind.i64, Sh.int IntKind.i64], OSh.box (31 : Nat) [Sh.int IntKind.i64, Sh.int IntKind.i64, Sh.sl (3 : Nat)], OSh.row true (75 : Nat) (Ty.pair (Ty.int IntKind.i64) (Ty.int IntKind.i64))], tmps := [((4 : Nat), TSh.at (Sh.ptr (1 : Nat) (0 : Nat))), ((5 : Nat), TSh.at (Sh.ptr (2 : Nat) (0 : Nat)))] }
noncomputable def f_spec_flRun_g2D : LoopDef (Tup r_spec_flRun × OutD) := .plain f_spec_flRun_g2i f_spec_flRun_g2o (Int × Int × Int × Int × Int × List (Int × Int)) (fun k x => f_spec_flRun_g2 k x.1.2.1.1 x.1.2.1.2.1 x.1.2.1.2.2.1 x.1.2.2.1.1 x.1.2.2.1.2.1 x.1.2.2.2.1 x.1.2.2.2.2.1.1 x.1.2.2.2.2.1.2.1 x.1.2.2.2.2.1.2.2.1 x.1.2.2.2.2.2.1.1 x.1.2.2.2.2.2.1.2.1 x.1.2.2.2.2.2.2.1) (fun z => (((), (z.1, z.2.1, z.2.2.1, ()), (z.2.2.2.1, z.2.2.2.2.1, (), ()), z.2.2.2.2.2, ()), ((), (), ()))) (fun y => (y.1.2.1.1, y.1.2.1.2.1, y.1.2.1.2.2.1, y.1.2.2.1.1, y.1.2.2.1.2.1, y.1.2.2.2.1)) (fun _ => rfl)
theorem f_spec_flRun_g2j (k : Nat) (b1_0 : Int) (b1_1 : Int) (b1_2 : Int) (b2_0 : Int) (b2_1 : Int) (o3 : List (Int × Int)) (b4_0 : Int) (b4_1 : Int) (b4_2 : Int) (b5_0 : Int) (b5_1 : Int) (o6 : List (Int × Int)) : f_spec_flRun_g2A k b1_0 b1_1 b1_2 b2_0 b2_1 o3 b4_0 b4_1 b4_2 b5_0 b5_1 o6 = repl 2 (f_spec_flRun_g2 k b1_0 b1_1 b1_2 b2_0 b2_1 o3 b4_0 b4_1 b4_2 b5_0 b5_1 o6) := by
  first
  | (simp only [f_spec_flRun_g2A, f_spec_flRun_g2, repl_some, repl_ite, repl_ite0, repl_ite1, repl_bind, joinL_repl, if_true]; done)
  | (simp only [f_spec_flRun_g2A, f_spec_flRun_g2, repl_some, repl_ite, repl_ite0, repl_ite1, repl_bind, joinL_repl, if_true]; simp only [joinL_grdl, joinL_grdr, repl_grd, joinL_repl]; simp only [grd_and]; exact grd_congr ⟨fun h => by simp only [h, and_self], fun h => by simp only [h, and_self]⟩)
noncomputable def f_spec_flRun : Nat → Int × Int × List (Int × Int) → Int → Option ((Int × Int × Int) × Int × Int × List (Int × Int))
  | 0, _, _ => none
  | k + 1, p0, p1 =>
    Option.bind (f_spec_flRun_g1 k (Prod.fst p0) (Prod.fst (Prod.snd p0)) (Prod.snd (Prod.snd p0)) (0 : Int) (0 : Int) (0 : Int) (0 : Int) (0 : Int) [] p1) fun z18 => Option.bind (f_spec_flRun_g2 k (Prod.fst z18) (Prod.fst (Prod.snd z18)) (Prod.fst (Prod.snd (Prod.snd z18))) (Prod.fst (Prod.snd (Prod.snd (Prod.snd z18)))) (Prod.fst (Prod.snd (Prod.snd (Prod.snd (Prod.snd z18))))) (Prod.fst (Prod.snd (Prod.snd (Prod.snd (Prod.snd (Prod.snd z18)))))) (Prod.fst (Prod.snd (Prod.snd (Prod.snd (Prod.snd (Prod.snd (Prod.snd z18))))))) (Prod.fst (Prod.snd (Prod.snd (Prod.snd (Prod.snd (Prod.snd (Prod.snd (Prod.snd z18)))))))) (Prod.fst (Prod.snd (Prod.snd (Prod.snd (Prod.snd (Prod.snd (Prod.snd (Prod.snd (Prod.snd z18))))))))) (Prod.fst (Prod.snd (Prod.snd (Prod.snd (Prod.snd (Prod.snd (Prod.snd (Prod.snd (Prod.snd (Prod.snd z18)))))))))) (Prod.fst (Prod.snd (Prod.snd (Prod.snd (Prod.snd (Prod.snd (Prod.snd (Prod.snd (Prod.snd (Prod.snd (Prod.snd z18))))))))))) (Prod.snd (Prod.snd (Prod.snd (Prod.snd (Prod.snd (Prod.snd (Prod.snd (Prod.snd (Prod.snd (Prod.snd (Prod.snd z18)))))))))))) fun z19 => some ((Prod.fst z19, Prod.fst (Prod.snd z19), Prod.fst (Prod.snd (Prod.snd z19))), Prod.fst (Prod.snd (Prod.snd (Prod.snd z19))), Prod.fst (Prod.snd (Prod.snd (Prod.snd (Prod.snd z19)))), Prod.snd (Prod.snd (Prod.snd (Prod.snd (Prod.snd z19)))))
noncomputable def d_spec_flRun : FnDef := .of q_spec_flRun r_spec_flRun ((Int × Int × Int) × Int × Int × List (Int × Int)) (fun k x => f_spec_flRun k x.1 x.2.1) to_spec_flRun of_spec_flRun to_of_spec_flRun
noncomputable def c_spec_flRun : Code := Try.f58.body.getD .skip
noncomputable def x_spec_flRun : Ctx (Tup r_spec_flRun × OutD) := { T := T, G := [(75, d_spec_ggGroups.E), (76, d_spec_flGo.E)], mvs := [], no := 0, n := 20, res := resOf T q_spec_flRun r_spec_flRun Try.f58.results.toList, loops := [], regs := [(1, f_spec_flRun_g1D.E), (2, f_spec_flRun_g2D.E)], conds := [] }
theorem g_spec_flRun (k : Nat) : EnvOK Try.prog k x_spec_flRun.G := (EnvOK.cons (s_spec_ggGroups k) (EnvOK.cons (s_spec_flGo k) (EnvOK.nil mixed)))
noncomputable def f_spec_flRun_g1O : Array Oper := (findReg 1 c_spec_flRun).getD #[]
theorem f_spec_flRun_g1e (k : Nat) (x : f_spec_flRun_g1i.D) : execD x_spec_flRun.T x_spec_flRun.G x_spec_flRun.mvs k f_spec_flRun_g1O (f_spec_flRun_g1D.inp.st x_spec_flRun.n x) (outK x_spec_flRun f_spec_flRun_g1D) = f_spec_flRun_g1A k x.1.2.1.1 x.1.2.1.2.1 x.1.2.1.2.2.1 x.1.2.2.1.1 x.1.2.2.1.2.1 x.1.2.2.1.2.2.1 x.1.2.2.2.1.1 x.1.2.2.2.1.2.1 x.1.2.2.2.2.1 x.2.1 := by kernel_rfl
theorem f_spec_flRun_g1ok (k : Nat) : EOK Try.prog x_spec_flRun k f_spec_flRun_g1D.E (.region 1 f_spec_flRun_g1O true) := reg_ok (D := f_spec_flRun_g1D) (m := 12) T_ok (g_spec_flRun k) (fun x => (f_spec_flRun_g1e k x).trans (f_spec_flRun_g1j k x.1.2.1.1 x.1.2.1.2.1 x.1.2.1.2.2.1 x.1.2.2.1.1 x.1.2.2.1.2.1 x.1.2.2.1.2.2.1 x.1.2.2.2.1.1 x.1.2.2.2.1.2.1 x.1.2.2.2.2.1 x.2.1))
noncomputable def f_spec_flRun_g2O : Array Oper := (findReg 2 c_spec_flRun).getD #[]
theorem f_spec_flRun_g2e (k : Nat) (x : f_spec_flRun_g2i.D) : execD x_spec_flRun.T x_spec_flRun.G x_spec_flRun.mvs k f_spec_flRun_g2O (f_spec_flRun_g2D.inp.st x_spec_flRun.n x) (outK x_spec_flRun f_spec_flRun_g2D) = f_spec_flRun_g2A k x.1.2.1.1 x.1.2.1.2.1 x.1.2.1.2.2.1 x.1.2.2.1.1 x.1.2.2.1.2.1 x.1.2.2.2.1 x.1.2.2.2.2.1.1 x.1.2.2.2.2.1.2.1 x.1.2.2.2.2.1.2.2.1 x.1.2.2.2.2.2.1.1 x.1.2.2.2.2.2.1.2.1 x.1.2.2.2.2.2.2.1 := by kernel_rfl
theorem f_spec_flRun_g2ok (k : Nat) : EOK Try.prog x_spec_flRun k f_spec_flRun_g2D.E (.region 2 f_spec_flRun_g2O true) := reg_ok (D := f_spec_flRun_g2D) (m := 2) T_ok (g_spec_flRun k) (fun x => (f_spec_flRun_g2e k x).trans (f_spec_flRun_g2j k x.1.2.1.1 x.1.2.1.2.1 x.1.2.1.2.2.1 x.1.2.2.1.1 x.1.2.2.1.2.1 x.1.2.2.2.1 x.1.2.2.2.2.1.1 x.1.2.2.2.2.1.2.1 x.1.2.2.2.2.1.2.2.1 x.1.2.2.2.2.2.1.1 x.1.2.2.2.2.2.1.2.1 x.1.2.2.2.2.2.2.1))
theorem h_spec_flRun (k : Nat) (x : Tup d_spec_flRun.ps) : d_spec_flRun.f (k + 1) x = fnK d_spec_flRun x_spec_flRun c_spec_flRun k x := by kernel_rfl
theorem z_spec_flRun (x : Tup d_spec_flRun.ps) : d_spec_flRun.f 0 x = none := by kernel_rfl
theorem l_spec_flRun (k : Nat) : LOK Try.prog x_spec_flRun k c_spec_flRun := LOK.by [(f_spec_flRun_g1D.E, .region 1 f_spec_flRun_g1O true), (f_spec_flRun_g2D.E, .region 2 f_spec_flRun_g2O true)] (by kernel_rfl) (AllOK.cons (f_spec_flRun_g1ok k) (AllOK.cons (f_spec_flRun_g2ok k) AllOK.nil))
theorem s_spec_flRun (k : Nat) : SoundAt Try.prog k 58 d_spec_flRun.E := @fn_all Try.prog d_spec_flRun x_spec_flRun 58 Try.f58 c_spec_flRun (by kernel_rfl) (by kernel_rfl) (by kernel_rfl) Try.func58 (by kernel_rfl) (by kernel_rfl) (by kernel_rfl) T_ok g_spec_flRun l_spec_flRun z_spec_flRun h_spec_flRun k
/-! function 60 -/
noncomputable def r_impl_validEntry : List PK := [{ t := Ty.bool }]
noncomputable def q_impl_validEntry : List PK := [{ t := Ty.pair (Ty.int IntKind.i64) (Ty.pair (Ty.int IntKind.i64) (Ty.slice (75 : Nat) (Ty.pair (Ty.int IntKind.i64) (Ty.int IntKind.i64)))), agg := true }, { t := Ty.int IntKind.i64 }]
noncomputable def to_impl_validEntry (r : Bool) : Tup r_impl_validEntry × OutD := ((r, ()), none)
noncomputable def of_impl_validEntry : Tup r_impl_validEntry × OutD → Option (Bool)
  | (a, none) => some (a.1)
  | _ => none
theorem to_of_impl_validEntry : ∀ b r, of_impl_validEntry b = some r → to_impl_validEntry r = b := by
  rintro ⟨a, o⟩ r h
  cases o with
  | none => injection h with h; subst h; rfl
  | some _ => cases h
noncomputable def f_impl_validEntry : Nat → Int × Int × List (Int × Int) → Int → Option Bool
  | 0, _, _ => none
  | k + 1, p0, p1 =>
    Option.bind (f_impl_IsBoard k (Prod.fst p0, Prod.fst (Prod.snd p0), Prod.snd (Prod.snd p0))) fun z0 => if z0 = true then if decide (p1 ≥ (0 : Int)) = true then some (decide (p1 < Prod.fst (Prod.snd p0))) else some false else some false
noncomputable def d_impl_validEntry : FnDef := .of q_impl_validEntry r_impl_validEntry (Bool) (fun k x => f_impl_validEntry k x.1 x.2.1) to_impl_validEntry of_impl_validEntry to_of_impl_validEntry
noncomputable def c_impl_validEntry : Code := Try.f60.body.getD .skip
noncomputable def x_impl_validEntry : Ctx (Tup r_impl_validEntry × OutD) := { T := T, G := [(45, d_impl_IsBoard.E)], mvs := [], no := 0, n := 17, res := resOf T q_impl_validEntry r_impl_validEntry Try.f60.results.toList, loops := [], regs := [], conds := [] }
theorem g_impl_validEntry (k : Nat) : EnvOK Try.prog k x_impl_validEntry.G := (EnvOK.cons (s_impl_IsBoard k) (EnvOK.nil mixed))
theorem h_impl_validEntry (k : Nat) (x : Tup d_impl_validEntry.ps) : d_impl_validEntry.f (k + 1) x = fnK d_impl_validEntry x_impl_validEntry c_impl_validEntry k x := by kernel_rfl
theorem z_impl_validEntry (x : Tup d_impl_validEntry.ps) : d_impl_validEntry.f 0 x = none := by kernel_rfl
theorem l_impl_validEntry (k : Nat) : LOK Try.prog x_impl_validEntry k c_impl_validEntry := LOK.by [] (by kernel_rfl) AllOK.nil
theorem s_impl_validEntry (k : Nat) : SoundAt Try.prog k 60 d_impl_validEntry.E := @fn_all Try.prog d_impl_validEntry x_impl_validEntry 60 Try.f60 c_impl_validEntry (by kernel_rfl) (by kernel_rfl) (by kernel_rfl) Try.func60 (by kernel_rfl) (by kernel_rfl) (by kernel_rfl) T_ok g_impl_validEntry l_impl_validEntry z_impl_validEntry h_impl_validEntry k
/-! function 70 -/
noncomputable def r_spec_saBits : List PK := [{ t := Ty.slice (3 : Nat) (Ty.int IntKind.i64) }]
noncomputable def q_spec_saBits : List PK := [{ t := Ty.pair (Ty.int IntKind.i64) (Ty.pair (Ty.int IntKind.i64) (Ty.slice (75 : Nat) (Ty.pair (Ty.int IntKind.i64) (Ty.int IntKind.i64)))), agg := true }]
noncomputable def to_spec_saBits (r : List Int) : Tup r_spec_saBits × OutD := ((r, ()), none)
noncomputable def of_spec_saBits : Tup r_spec_saBits × OutD → Option (List Int)
  | (a, none) => some (a.1)
  | _ => none
theorem to_of_spec_saBits : ∀ b r, of_spec_saBits b = some r → to_spec_saBits r = b := by
  rintro ⟨a, o⟩ r h
  cases o with
  | none => injection h with h; subst h; rfl
  | some _ => cases h
noncomputable def f_spec_saBits_0 : Nat → Int → Int → List (Int × Int) → List Int → List (List Int) → Int → Int → Option (List Int)
  | 0, _, _, _, _, _, _, _ => none
  | k + 1, b1_0, b1_1, b1_2, o2, o3, v8, v9 =>
    if decide (v9 < v8) = true then if (0 : Int) ≤ v9 then if v9 < (↑(List.length o3) : Int) then if (0 : Int) < (↑(List.length (List.getD o3 (Int.toNat v9) [])) : Int) then if (0 : Int) ≤ List.getD (List.getD o3 (Int.toNat v9) []) (Int.toNat (0 : Int)) (0 : Int) then if List.getD (List.getD o3 (Int.toNat v9) []) (Int.toNat (0 : Int)) (0 : Int) < (↑(List.length b1_2) : Int) then if List.length o2 + List.length [Prod.snd (List.getD b1_2 (Int.toNat (List.getD (List.getD o3 (Int.toNat v9) []) (Int.toNat (0 : Int)) (0 : Int))) ((0 : Int), (0 : Int)))] ≤ (140737488355328 / 8 : Nat) then f_spec_saBits_0 k b1_0 b1_1 b1_2 (o2 ++ [Prod.snd (List.getD b1_2 (Int.toNat (List.getD (List.getD o3 (Int.toNat v9) []) (Int.toNat (0 : Int)) (0 : Int))) ((0 : Int), (0 : Int)))]) o3 v8 (wrap64 (v9 + (1 : Int))) else none else none else none else none else none else none else some o2
noncomputable def f_spec_saBits_0i : Spec := { objs := [OSh.ro, OSh.box (31 : Nat) [Sh.int IntKind.i64, Sh.int IntKind.i64, Sh.snap (0 : Nat) (Ty.pair (Ty.int IntKind.i64) (Ty.int IntKind.i64))], OSh.row true (3 : Nat) (Ty.int IntKind.i64), OSh.row true (26 : Nat) (Ty.slice (3 : Nat) (Ty.int IntKind.i64))], tmps := [((1 : Nat), TSh.at (Sh.ptr (1 : Nat) (0 : Nat))), ((3 : Nat), TSh.at (Sh.sl (2 : Nat))), ((7 : Nat), TSh.at (Sh.sl (3 : Nat))), ((8 : Nat), TSh.at (Sh.int IntKind.i64)), ((9 : Nat), TSh.at (Sh.int IntKind.i64))] }
noncomputable def f_spec_saBits_0o : Spec := { objs := [OSh.ro, OSh.row true (3 : Nat) (Ty.int IntKind.i64)], tmps := [((3 : Nat), TSh.at (Sh.sl (1 : Nat)))] }
noncomputable def f_spec_saBits_0D : LoopDef (Tup r_spec_saBits × OutD) := .plain f_spec_saBits_0i f_spec_saBits_0o (List Int) (fun k x => f_spec_saBits_0 k x.1.2.1.1 x.1.2.1.2.1 x.1.2.1.2.2.1 x.1.2.2.1 x.1.2.2.2.1 x.2.2.2.2.1 x.2.2.2.2.2.1) (fun z => (((), z, ()), ((), ()))) (fun y => (y.1.2.1)) (fun _ => rfl)
noncomputable def f_spec_saBits : Nat → Int × Int × List (Int × Int) → Option (List Int)
  | 0, _ => none
  | k + 1, p0 =>
    Option.bind (f_spec_saUnits k (Prod.fst p0, Prod.fst (Prod.snd p0), Prod.snd (Prod.snd p0))) fun z0 => Option.bind (f_spec_saBits_0 k (Prod.fst p0) (Prod.fst (Prod.snd p0)) (Prod.snd (Prod.snd p0)) [] z0 (↑(List.length z0) : Int) (0 : Int)) fun z1 => some z1
noncomputable def d_spec_saBits : FnDef := .of q_spec_saBits r_spec_saBits (List Int) (fun k x => f_spec_saBits k x.1) to_spec_saBits of_spec_saBits to_of_spec_saBits
noncomputable def c_spec_saBits : Code := Try.f70.body.getD .skip
noncomputable def x_spec_saBits : Ctx (Tup r_spec_saBits × OutD) := { T := T, G := [(56, d_spec_saUnits.E)], mvs := [], no := 0, n := 26, res := resOf T q_spec_saBits r_spec_saBits Try.f70.results.toList, loops := [(0, f_spec_saBits_0D.E)], regs := [], conds := [] }
theorem g_spec_saBits (k : Nat) : EnvOK Try.prog k x_spec_saBits.G := (EnvOK.cons (s_spec_saUnits k) (EnvOK.nil mixed))
noncomputable def f_spec_saBits_0B : Code := (findLoop 0 c_spec_saBits).getD .skip
theorem f_spec_saBits_0h (k : Nat) (x : f_spec_saBits_0i.D) : f_spec_saBits_0D.lp (k + 1) x = loopK x_spec_saBits f_spec_saBits_0D 0 f_spec_saBits_0B k x := by kernel_rfl
theorem f_spec_saBits_0l (k : Nat) : LOK Try.prog x_spec_saBits k f_spec_saBits_0B := LOK.by [] (by kernel_rfl) AllOK.nil
theorem f_spec_saBits_0z (x : f_spec_saBits_0i.D) : f_spec_saBits_0D.lp 0 x = none := by kernel_rfl
theorem f_spec_saBits_0ok (k : Nat) : EOK Try.prog x_spec_saBits k f_spec_saBits_0D.E (.block 0 (.loop f_spec_saBits_0B)) := loop_ok T_ok g_spec_saBits f_spec_saBits_0z f_spec_saBits_0h f_spec_saBits_0l k
theorem h_spec_saBits (k : Nat) (x : Tup d_spec_saBits.ps) : d_spec_saBits.f (k + 1) x = fnK d_spec_saBits x_spec_saBits c_spec_saBits k x := by kernel_rfl
theorem z_spec_saBits (x : Tup d_spec_saBits.ps) : d_spec_saBits.f 0 x = none := by kernel_rfl
theorem l_spec_saBits (k : Nat) : LOK Try.prog x_spec_saBits k c_spec_saBits := LOK.by [(f_spec_saBits_0D.E, .block 0 (.loop f_spec_saBits_0B))] (by kernel_rfl) (AllOK.cons (f_spec_saBits_0ok k) AllOK.nil)
theorem s_spec_saBits (k : Nat) : SoundAt Try.prog k 70 d_spec_saBits.E := @fn_all Try.prog d_spec_saBits x_spec_saBits 70 Try.f70 c_spec_saBits (by kernel_rfl) (by kernel_rfl) (by kernel_rfl) Try.func70 (by kernel_rfl) (by kernel_rfl) (by kernel_rfl) T_ok g_spec_saBits l_spec_saBits z_spec_saBits h_spec_saBits k
/-! function 73 -/
noncomputable def r_spec_saWith : List PK := [{ t := Ty.pair (Ty.int IntKind.i64) (Ty.pair (Ty.int IntKind.i64) (Ty.slice (75 : Nat) (Ty.pair (Ty.int IntKind.i64) (Ty.int IntKind.i64)))), agg := true }]
noncomputable def q_spec_saWith : List PK := [{ t := Ty.pair (Ty.int IntKind.i64) (Ty.pair (Ty.int IntKind.i64) (Ty.slice (75 : Nat) (Ty.pair (Ty.int IntKind.i64) (Ty.int IntKind.i64)))), agg := true }, { t := Ty.slice (3 : Nat) (Ty.int IntKind.i64) }]
noncomputable def to_spec_saWith (r : Int × Int × List (Int × Int)) : Tup r_spec_saWith × OutD := ((r, ()), none)
noncomputable def of_spec_saWith : Tup r_spec_saWith × OutD → Option (Int × Int × List (Int × Int))
  | (a, none) => some (a.1)
  | _ => none
theorem to_of_spec_saWith : ∀ b r, of_spec_saWith b = some r → to_spec_saWith r = b := by
  rintro ⟨a, o⟩ r h
  cases o with
  | none => injection h with h; subst h; rfl
  | some _ => cases h
noncomputable def f_spec_saWith_0 : Nat → Int → Int → List (Int × Int) → Int → Int → List (Int × Int) → Int → Int → List (Int × Int) → List (List Int) → List Int → Int → Int → Option (Int × Int × List (Int × Int) × Int × Int × List (Int × Int))
  | 0, _, _, _, _, _, _, _, _, _, _, _, _, _ => none
  | k + 1, b1_0, b1_1, b1_2, b2_0, b2_1, o3, b4_0, b4_1, o5, o6, v1, v12, v13 =>
    if decide (v13 < v12) = true then if (0 : Int) ≤ v13 then if v13 < (↑(List.length o6) : Int) then if (0 : Int) < (↑(List.length (List.getD o6 (Int.toNat v13) [])) : Int) then if (0 : Int) ≤ List.getD (List.getD o6 (Int.toNat v13) []) (Int.toNat (0 : Int)) (0 : Int) then if List.getD (List.getD o6 (Int.toNat v13) []) (Int.toNat (0 : Int)) (0 : Int) < (↑(List.length b1_2) : Int) then if (0 : Int) ≤ v13 then if v13 < (↑(List.length v1) : Int) then if decide (Prod.snd (List.getD b1_2 (Int.toNat (List.getD (List.getD o6 (Int.toNat v13) []) (Int.toNat (0 : Int)) (0 : Int))) ((0 : Int), (0 : Int))) ≠ List.getD v1 (Int.toNat v13) (0 : Int)) = true then Option.bind (f_spec_saTurn k (b4_0, b4_1, o5) (List.getD o6 (Int.toNat v13) [])) fun z2 => f_spec_saWith_0 k b1_0 b1_1 b1_2 b2_0 b2_1 o3 b4_0 b4_1 z2 o6 v1 v12 (wrap64 (v13 + (1 : Int))) else f_spec_saWith_0 k b1_0 b1_1 b1_2 b2_0 b2_1 o3 b4_0 b4_1 o5 o6 v1 v12 (wrap64 (v13 + (1 : Int))) else none else none else none else none else none else none else none else some (b2_0, b2_1, o3, b4_0, b4_1, o5)
noncomputable def f_spec_saWith_0i : Spec := { objs := [OSh.ro, OSh.box (31 : Nat) [Sh.int IntKind.i64, Sh.int IntKind.i64, Sh.snap (0 : Nat) (Ty.pair (Ty.int IntKind.i64) (Ty.int IntKind.i64))], OSh.box (31 : Nat) [Sh.int IntKind.i64, Sh.int IntKind.i64, Sh.sl (3 : Nat)], OSh.row true (75 : Nat) (Ty.pair (Ty.int IntKind.i64) (Ty.int IntKind.i64)), OSh.box (31 : Nat) [Sh.int IntKind.i64, Sh.int IntKind.i64, Sh.sl (5 : Nat)], OSh.row true (75 : Nat) (Ty.pair (Ty.int IntKind.i64) (Ty.int IntKind.i64)), OSh.row true (26 : Nat) (Ty.slice (3 : Nat) (Ty.int IntKind.i64))], tmps := [((1 : Nat), TSh.at (Sh.snap (0 : Nat) (Ty.int IntKind.i64))), ((2 : Nat), TSh.at (Sh.ptr (1 : Nat) (0 : Nat))), ((4 : Nat), TSh.at (Sh.ptr (2 : Nat) (0 : Nat))), ((5 : Nat), TSh.at (Sh.ptr (4 : Nat) (0 : Nat))), ((11 : Nat), TSh.at (Sh.sl (6 : Nat))), ((12 : Nat), TSh.at (Sh.int IntKind.i64)), ((13 : Nat), TSh.at (Sh.int IntKind.i64))] }
noncomputable def f_spec_saWith_0o : Spec := { objs := [OSh.ro, OSh.box (31 : Nat) [Sh.int IntKind.i64, Sh.int IntKind.i64, Sh.sl (2 : Nat)], OSh.row true (75 : Nat) (Ty.pair (Ty.int IntKind.i64) (Ty.int IntKind.i64)), OSh.box (31 : Nat) [Sh.int IntKind.i64, Sh.int IntKind.i64, Sh.sl (4 : Nat)], OSh.row true (75 : Nat) (Ty.pair (Ty.int IntKind.i64) (Ty.int IntKind.i64))], tmps := [((4 : Nat), TSh.at (Sh.ptr (1 : Nat) (0 : Nat))), ((5 : Nat), TSh.at (Sh.ptr (3 : Nat) (0 : Nat)))] }
noncomputable def f_spec_saWith_0D : LoopDef (Tup r_spec_saWith × OutD) := .plain f_spec_saWith_0i f_spec_saWith_0o (Int × Int × List (Int × Int) × Int × Int × List (Int × Int)) (fun k x => f_spec_saWith_0 k x.1.2.1.1 x.1.2.1.2.1 x.1.2.1.2.2.1 x.1.2.2.1.1 x.1.2.2.1.2.1 x.1.2.2.2.1 x.1.2.2.2.2.1.1 x.1.2.2.2.2.1.2.1 x.1.2.2.2.2.2.1 x.1.2.2.2.2.2.2.1 x.2.1 x.2.2.2.2.2.2.1 x.2.2.2.2.2.2.2.1) (fun z => (((), (z.1, z.2.1, (), ()), z.2.2.1, (z.2.2.2.1, z.2.2.2.2.1, (), ()), z.2.2.2.2.2, ()), ((), (), ()))) (fun y => (y.1.2.1.1, y.1.2.1.2.1, y.1.2.2.1, y.1.2.2.2.1.1, y.1.2.2.2.1.2.1, y.1.2.2.2.2.1)) (fun _ => rfl)
noncomputable def f_spec_saWith : Nat → Int × Int × List (Int × Int) → List Int → Option (Int × Int × List (Int × Int))
  | 0, _, _ => none
  | k + 1, p0, p1 =>
    Option.bind (f_spec_boOwn k (Prod.fst p0, Prod.fst (Prod.snd p0), Prod.snd (Prod.snd p0))) fun z0 => Option.bind (f_spec_saUnits k (Prod.fst p0, Prod.fst (Prod.snd p0), Prod.snd (Prod.snd p0))) fun z1 => Option.bind (f_spec_saWith_0 k (Prod.fst p0) (Prod.fst (Prod.snd p0)) (Prod.snd (Prod.snd p0)) (0 : Int) (0 : Int) [] (Prod.fst z0) (Prod.fst (Prod.snd z0)) (Prod.snd (Prod.snd z0)) z1 p1 (↑(List.length z1) : Int) (0 : Int)) fun z3 => some (Prod.fst (Prod.snd (Prod.snd (Prod.snd z3))), Prod.fst (Prod.snd (Prod.snd (Prod.snd (Prod.snd z3)))), Prod.snd (Prod.snd (Prod.snd (Prod.snd (Prod.snd z3)))))
noncomputable def d_spec_saWith : FnDef := .of q_spec_saWith r_spec_saWith (Int × Int × List (Int × Int)) (fun k x => f_spec_saWith k x.1 x.2.1) to_spec_saWith of_spec_saWith to_of_spec_saWith
noncomputable def c_spec_saWith : Code := Try.f73.body.getD .skip
noncomputable def x_spec_saWith : Ctx (Tup r_spec_saWith × OutD) := { T := T, G := [(54, d_spec_boOwn.E), (56, d_spec_saUnits.E), (68, d_spec_saTurn.E)], mvs := [], no := 0, n := 36, res := resOf T q_spec_saWith r_spec_saWith Try.f73.results.toList, loops := [(0, f_spec_saWith_0D.E)], regs := [], conds := [] }
theorem g_spec_saWith (k : Nat) : EnvOK Try.prog k x_spec_saWith.G := (EnvOK.cons (s_spec_boOwn k) (EnvOK.cons (s_spec_saUnits k) (EnvOK.cons (s_spec_saTurn k) (EnvOK.nil mixed))))
noncomputable def f_spec_saWith_0B : Code := (findLoop 0 c_spec_saWith).getD .skip
theorem f_spec_saWith_0h (k : Nat) (x : f_spec_saWith_0i.D) : f_spec_saWith_0D.lp (k + 1) x = loopK x_spec_saWith f_spec_saWith_0D 0 f_spec_saWith_0B k x := by kernel_rfl
theorem f_spec_saWith_0l (k : Nat) : LOK Try.prog x_spec_saWith k f_spec_saWith_0B := LOK.by [] (by kernel_rfl) AllOK.nil
theorem f_spec_saWith_0z (x : f_spec_saWith_0i.D) : f_spec_saWith_0D.lp 0 x = none := by kernel_rfl
theorem f_spec_saWith_0ok (k : Nat) : EOK Try.prog x_spec_saWith k f_spec_saWith_0D.E (.block 0 (.loop f_spec_saWith_0B)) := loop_ok T_ok g_spec_saWith f_spec_saWith_0z f_spec_saWith_0h f_spec_saWith_0l k
theorem h_spec_saWith (k : Nat) (x : Tup d_spec_saWith.ps) : d_spec_saWith.f (k + 1) x = fnK d_spec_saWith x_spec_saWith c_spec_saWith k x := by kernel_rfl
theorem z_spec_saWith (x : Tup d_spec_saWith.ps) : d_spec_saWith.f 0 x = none := by kernel_rfl
theorem l_spec_saWith (k : Nat) : LOK Try.prog x_spec_saWith k c_spec_saWith := LOK.by [(f_spec_saWith_0D.E, .block 0 (.loop f_spec_saWith_0B))] (by kernel_rfl) (AllOK.cons (f_spec_saWith_0ok k) AllOK.nil)
theorem s_spec_saWith (k : Nat) : SoundAt Try.prog k 73 d_spec_saWith.E := @fn_all Try.prog d_spec_saWith x_spec_saWith 73 Try.f73 c_spec_saWith (by kernel_rfl) (by kernel_rfl) (by kernel_rfl) Try.func73 (by kernel_rfl) (by kernel_rfl) (by kernel_rfl) T_ok g_spec_saWith l_spec_saWith z_spec_saWith h_spec_saWith k
end
end Go.Proofs.Ytjjlmnbmpgfcbaa.Vs

set_option maxRecDepth 100000
set_option maxHeartbeats 2000000
set_option linter.unusedVariables false
set_option linter.unusedSimpArgs false
namespace Go.Proofs.Ytjjlmnbmpgfcbaa.Vs
open Go.RowKit
noncomputable section
/-! function 29 -/
/-! function 31 -/
noncomputable def r_spec_rvHas : List PK := [{ t := Ty.bool }]
noncomputable def q_spec_rvHas : List PK := [{ t := Ty.pair (Ty.int IntKind.i64) (Ty.pair (Ty.int IntKind.i64) (Ty.slice (75 : Nat) (Ty.pair (Ty.int IntKind.i64) (Ty.int IntKind.i64)))), agg := true }, { t := Ty.int IntKind.i64 }]
noncomputable def to_spec_rvHas (r : Bool) : Tup r_spec_rvHas × OutD := ((r, ()), none)
noncomputable def of_spec_rvHas : Tup r_spec_rvHas × OutD → Option (Bool)
  | (a, none) => some (a.1)
  | _ => none
theorem to_of_spec_rvHas : ∀ b r, of_spec_rvHas b = some r → to_spec_rvHas r = b := by
  rintro ⟨a, o⟩ r h
  cases o with
  | none => injection h with h; subst h; rfl
  | some _ => cases h
noncomputable def f_spec_rvHas : Nat → Int × Int × List (Int × Int) → Int → Option Bool
  | 0, _, _ => none
  | k + 1, p0, p1 =>
    Option.bind (f_spec_flHas k (Prod.fst p0, Prod.fst (Prod.snd p0), Prod.snd (Prod.snd p0)) p1) fun z0 => if z0 = true then Option.bind (f_spec_saUnits k (Prod.fst p0, Prod.fst (Prod.snd p0), Prod.snd (Prod.snd p0))) fun z1 => some (decide ((↑(List.length z1) : Int) ≤ (10 : Int))) else some false
noncomputable def d_spec_rvHas : FnDef := .of q_spec_rvHas r_spec_rvHas (Bool) (fun k x => f_spec_rvHas k x.1 x.2.1) to_spec_rvHas of_spec_rvHas to_of_spec_rvHas
noncomputable def c_spec_rvHas : Code := Try.f31.body.getD .skip
noncomputable def x_spec_rvHas : Ctx (Tup r_spec_rvHas × OutD) := { T := T, G := [(55, d_spec_flHas.E), (56, d_spec_saUnits.E)], mvs := [], no := 0, n := 14, res := resOf T q_spec_rvHas r_spec_rvHas Try.f31.results.toList, loops := [], regs := [], conds := [] }
theorem g_spec_rvHas (k : Nat) : EnvOK Try.prog k x_spec_rvHas.G := (EnvOK.cons (s_spec_flHas k) (EnvOK.cons (s_spec_saUnits k) (EnvOK.nil mixed)))
theorem h_spec_rvHas (k : Nat) (x : Tup d_spec_rvHas.ps) : d_spec_rvHas.f (k + 1) x = fnK d_spec_rvHas x_spec_rvHas c_spec_rvHas k x := by kernel_rfl
theorem z_spec_rvHas (x : Tup d_spec_rvHas.ps) : d_spec_rvHas.f 0 x = none := by kernel_rfl
theorem l_spec_rvHas (k : Nat) : LOK Try.prog x_spec_rvHas k c_spec_rvHas := LOK.by [] (by kernel_rfl) AllOK.nil
theorem s_spec_rvHas (k : Nat) : SoundAt Try.prog k 31 d_spec_rvHas.E := @fn_all Try.prog d_spec_rvHas x_spec_rvHas 31 Try.f31 c_spec_rvHas (by kernel_rfl) (by kernel_rfl) (by kernel_rfl) Try.func31 (by kernel_rfl) (by kernel_rfl) (by kernel_rfl) T_ok g_spec_rvHas l_spec_rvHas z_spec_rvHas h_spec_rvHas k
/-! function 35 -/
noncomputable def r_impl_goesBack : List PK := [{ t := Ty.bool }]
noncomputable def q_impl_goesBack : List PK := [{ t := Ty.pair (Ty.int IntKind.i64) (Ty.pair (Ty.int IntKind.i64) (Ty.slice (75 : Nat) (Ty.pair (Ty.int IntKind.i64) (Ty.int IntKind.i64)))), agg := true }, { t := Ty.int IntKind.i64 }]
noncomputable def to_impl_goesBack (r : Bool) : Tup r_impl_goesBack × OutD := ((r, ()), none)
noncomputable def of_impl_goesBack : Tup r_impl_goesBack × OutD → Option (Bool)
  | (a, none) => some (a.1)
  | _ => none
theorem to_of_impl_goesBack : ∀ b r, of_impl_goesBack b = some r → to_impl_goesBack r = b := by
  rintro ⟨a, o⟩ r h
  cases o with
  | none => injection h with h; subst h; rfl
  | some _ => cases h
noncomputable def f_impl_goesBack : Nat → Int × Int × List (Int × Int) → Int → Option Bool
  | 0, _, _ => none
  | k + 1, p0, p1 =>
    Option.bind (f_impl_validEntry k (Prod.fst p0, Prod.fst (Prod.snd p0), Prod.snd (Prod.snd p0)) p1) fun z0 => if z0 = true then Option.bind (f_impl_unitsOf k (Prod.fst p0, Prod.fst (Prod.snd p0), Prod.snd (Prod.snd p0))) fun z1 => some (decide ((↑(List.length z1) : Int) ≤ (10 : Int))) else some false
noncomputable def d_impl_goesBack : FnDef := .of q_impl_goesBack r_impl_goesBack (Bool) (fun k x => f_impl_goesBack k x.1 x.2.1) to_impl_goesBack of_impl_goesBack to_of_impl_goesBack
noncomputable def c_impl_goesBack : Code := Try.f35.body.getD .skip
noncomputable def x_impl_goesBack : Ctx (Tup r_impl_goesBack × OutD) := { T := T, G := [(60, d_impl_validEntry.E), (46, d_impl_unitsOf.E)], mvs := [], no := 0, n := 14, res := resOf T q_impl_goesBack r_impl_goesBack Try.f35.results.toList, loops := [], regs := [], conds := [] }
theorem g_impl_goesBack (k : Nat) : EnvOK Try.prog k x_impl_goesBack.G := (EnvOK.cons (s_impl_validEntry k) (EnvOK.cons (s_impl_unitsOf k) (EnvOK.nil mixed)))
theorem h_impl_goesBack (k : Nat) (x : Tup d_impl_goesBack.ps) : d_impl_goesBack.f (k + 1) x = fnK d_impl_goesBack x_impl_goesBack c_impl_goesBack k x := by kernel_rfl
theorem z_impl_goesBack (x : Tup d_impl_goesBack.ps) : d_impl_goesBack.f 0 x = none := by kernel_rfl
theorem l_impl_goesBack (k : Nat) : LOK Try.prog x_impl_goesBack k c_impl_goesBack := LOK.by [] (by kernel_rfl) AllOK.nil
theorem s_impl_goesBack (k : Nat) : SoundAt Try.prog k 35 d_impl_goesBack.E := @fn_all Try.prog d_impl_goesBack x_impl_goesBack 35 Try.f35 c_impl_goesBack (by kernel_rfl) (by kernel_rfl) (by kernel_rfl) Try.func35 (by kernel_rfl) (by kernel_rfl) (by kernel_rfl) T_ok g_impl_goesBack l_impl_goesBack z_impl_goesBack h_impl_goesBack k
/-! function 44 -/
noncomputable def r_spec_saNumber : List PK := [{ t := Ty.int IntKind.i64 }]
noncomputable def q_spec_saNumber : List PK := [{ t := Ty.pair (Ty.int IntKind.i64) (Ty.pair (Ty.int IntKind.i64) (Ty.slice (75 : Nat) (Ty.pair (Ty.int IntKind.i64) (Ty.int IntKind.i64)))), agg := true }]
noncomputable def to_spec_saNumber (r : Int) : Tup r_spec_saNumber × OutD := ((r, ()), none)
noncomputable def of_spec_saNumber : Tup r_spec_saNumber × OutD → Option (Int)
  | (a, none) => some (a.1)
  | _ => none
theorem to_of_spec_saNumber : ∀ b r, of_spec_saNumber b = some r → to_spec_saNumber r = b := by
  rintro ⟨a, o⟩ r h
  cases o with
  | none => injection h with h; subst h; rfl
  | some _ => cases h
noncomputable def f_spec_saNumber_0 : Nat → List Int → Int → Int → Int → Option Int
  | 0, _, _, _, _ => none
  | k + 1, o1, v3, v8, v9 =>
    if decide (v9 < v8) = true then if (0 : Int) ≤ v9 then if v9 < (↑(List.length o1) : Int) then if IntKind.wrap IntKind.u64 v9 < (0 : Int) then none else f_spec_saNumber_0 k o1 (wrap64 (v3 + shlS (List.getD o1 (Int.toNat v9) (0 : Int)) (IntKind.wrap IntKind.u64 v9))) v8 (wrap64 (v9 + (1 : Int))) else none else none else some v3
noncomputable def f_spec_saNumber_0i : Spec := { objs := [OSh.ro, OSh.row true (3 : Nat) (Ty.int IntKind.i64)], tmps := [((3 : Nat), TSh.at (Sh.int IntKind.i64)), ((7 : Nat), TSh.at (Sh.sl (1 : Nat))), ((8 : Nat), TSh.at (Sh.int IntKind.i64)), ((9 : Nat), TSh.at (Sh.int IntKind.i64))] }
noncomputable def f_spec_saNumber_0o : Spec := { objs := [OSh.ro], tmps := [((3 : Nat), TSh.at (Sh.int IntKind.i64))] }
noncomputable def f_spec_saNumber_0D : LoopDef (Tup r_spec_saNumber × OutD) := .plain f_spec_saNumber_0i f_spec_saNumber_0o (Int) (fun k x => f_spec_saNumber_0 k x.1.2.1 x.2.1 x.2.2.2.1 x.2.2.2.2.1) (fun z => (((), ()), (z, ()))) (fun y => (y.2.1)) (fun _ => rfl)
noncomputable def f_spec_saNumber : Nat → Int × Int × List (Int × Int) → Option Int
  | 0, _ => none
  | k + 1, p0 =>
    Option.bind (f_spec_saBits k (Prod.fst p0, Prod.fst (Prod.snd p0), Prod.snd (Prod.snd p0))) fun z0 => Option.bind (f_spec_saNumber_0 k z0 (0 : Int) (↑(List.length z0) : Int) (0 : Int)) fun z1 => some z1
noncomputable def d_spec_saNumber : FnDef := .of q_spec_saNumber r_spec_saNumber (Int) (fun k x => f_spec_saNumber k x.1) to_spec_saNumber of_spec_saNumber to_of_spec_saNumber
noncomputable def c_spec_saNumber : Code := Try.f44.body.getD .skip
noncomputable def x_spec_saNumber : Ctx (Tup r_spec_saNumber × OutD) := { T := T, G := [(70, d_spec_saBits.E)], mvs := [], no := 0, n := 22, res := resOf T q_spec_saNumber r_spec_saNumber Try.f44.results.toList, loops := [(0, f_spec_saNumber_0D.E)], regs := [], conds := [] }
theorem g_spec_saNumber (k : Nat) : EnvOK Try.prog k x_spec_saNumber.G := (EnvOK.cons (s_spec_saBits k) (EnvOK.nil mixed))
noncomputable def f_spec_saNumber_0B : Code := (findLoop 0 c_spec_saNumber).getD .skip
theorem f_spec_saNumber_0h (k : Nat) (x : f_spec_saNumber_0i.D) : f_spec_saNumber_0D.lp (k + 1) x = loopK x_spec_saNumber f_spec_saNumber_0D 0 f_spec_saNumber_0B k x := by kernel_rfl
theorem f_spec_saNumber_0l (k : Nat) : LOK Try.prog x_spec_saNumber k f_spec_saNumber_0B := LOK.by [] (by kernel_rfl) AllOK.nil
theorem f_spec_saNumber_0z (x : f_spec_saNumber_0i.D) : f_spec_saNumber_0D.lp 0 x = none := by kernel_rfl
theorem f_spec_saNumber_0ok (k : Nat) : EOK Try.prog x_spec_saNumber k f_spec_saNumber_0D.E (.block 0 (.loop f_spec_saNumber_0B)) := loop_ok T_ok g_spec_saNumber f_spec_saNumber_0z f_spec_saNumber_0h f_spec_saNumber_0l k
theorem h_spec_saNumber (k : Nat) (x : Tup d_spec_saNumber.ps) : d_spec_saNumber.f (k + 1) x = fnK d_spec_saNumber x_spec_saNumber c_spec_saNumber k x := by kernel_rfl
theorem z_spec_saNumber (x : Tup d_spec_saNumber.ps) : d_spec_saNumber.f 0 x = none := by kernel_rfl
theorem l_spec_saNumber (k : Nat) : LOK Try.prog x_spec_saNumber k c_spec_saNumber := LOK.by [(f_spec_saNumber_0D.E, .block 0 (.loop f_spec_saNumber_0B))] (by kernel_rfl) (AllOK.cons (f_spec_saNumber_0ok k) AllOK.nil)
theorem s_spec_saNumber (k : Nat) : SoundAt Try.prog k 44 d_spec_saNumber.E := @fn_all Try.prog d_spec_saNumber x_spec_saNumber 44 Try.f44 c_spec_saNumber (by kernel_rfl) (by kernel_rfl) (by kernel_rfl) Try.func44 (by kernel_rfl) (by kernel_rfl) (by kernel_rfl) T_ok g_spec_saNumber l_spec_saNumber z_spec_saNumber h_spec_saNumber k
/-! function 51 -/
noncomputable def r_spec_saIn : List PK := [{ t := Ty.pair (Ty.int IntKind.i64) (Ty.pair (Ty.int IntKind.i64) (Ty.slice (75 : Nat) (Ty.pair (Ty.int IntKind.i64) (Ty.int IntKind.i64)))), agg := true }]
noncomputable def q_spec_saIn : List PK := [{ t := Ty.pair (Ty.int IntKind.i64) (Ty.pair (Ty.int IntKind.i64) (Ty.slice (75 : Nat) (Ty.pair (Ty.int IntKind.i64) (Ty.int IntKind.i64)))), agg := true }, { t := Ty.int IntKind.i64 }]
noncomputable def to_spec_saIn (r : Int × Int × List (Int × Int)) : Tup r_spec_saIn × OutD := ((r, ()), none)
noncomputable def of_spec_saIn : Tup r_spec_saIn × OutD → Option (Int × Int × List (Int × Int))
  | (a, none) => some (a.1)
  | _ => none
theorem to_of_spec_saIn : ∀ b r, of_spec_saIn b = some r → to_spec_saIn r = b := by
  rintro ⟨a, o⟩ r h
  cases o with
  | none => injection h with h; subst h; rfl
  | some _ => cases h
noncomputable def f_spec_saIn_0 : Nat → Int → Int → List (Int × Int) → Int → Int → List (Int × Int) → List Int → Int → Int → Int → Option (Int × Int × List (Int × Int) × Int × Int × List (Int × Int) × List Int)
  | 0, _, _, _, _, _, _, _, _, _, _ => none
  | k + 1, b1_0, b1_1, b1_2, b2_0, b2_1, o3, o4, v1, v9, v10 =>
    if decide (v10 < v9) = true then if IntKind.wrap IntKind.u64 v10 < (0 : Int) then none else if List.length o4 + List.length [bits BinOp.and IntKind.i64 (Int.fdiv v1 ((2 : Int) ^ min (Int.toNat (IntKind.wrap IntKind.u64 v10)) (IntKind.bits IntKind.i64))) (1 : Int)] ≤ (140737488355328 / 8 : Nat) then f_spec_saIn_0 k b1_0 b1_1 b1_2 b2_0 b2_1 o3 (o4 ++ [bits BinOp.and IntKind.i64 (Int.fdiv v1 ((2 : Int) ^ min (Int.toNat (IntKind.wrap IntKind.u64 v10)) (IntKind.bits IntKind.i64))) (1 : Int)]) v1 v9 (wrap64 (v10 + (1 : Int))) else none else some (b1_0, b1_1, b1_2, b2_0, b2_1, o3, o4)
noncomputable def f_spec_saIn_0i : Spec := { objs := [OSh.ro, OSh.box (31 : Nat) [Sh.int IntKind.i64, Sh.int IntKind.i64, Sh.snap (0 : Nat) (Ty.pair (Ty.int IntKind.i64) (Ty.int IntKind.i64))], OSh.box (31 : Nat) [Sh.int IntKind.i64, Sh.int IntKind.i64, Sh.sl (3 : Nat)], OSh.row true (75 : Nat) (Ty.pair (Ty.int IntKind.i64) (Ty.int IntKind.i64)), OSh.row true (3 : Nat) (Ty.int IntKind.i64)], tmps := [((1 : Nat), TSh.at (Sh.int IntKind.i64)), ((2 : Nat), TSh.at (Sh.ptr (1 : Nat) (0 : Nat))), ((4 : Nat), TSh.at (Sh.ptr (2 : Nat) (0 : Nat))), ((5 : Nat), TSh.at (Sh.sl (4 : Nat))), ((9 : Nat), TSh.at (Sh.int IntKind.i64)), ((10 : Nat), TSh.at (Sh.int IntKind.i64))] }
noncomputable def f_spec_saIn_0o : Spec := { objs := [OSh.ro, OSh.box (31 : Nat) [Sh.int IntKind.i64, Sh.int IntKind.i64, Sh.snap (0 : Nat) (Ty.pair (Ty.int IntKind.i64) (Ty.int IntKind.i64))], OSh.box (31 : Nat) [Sh.int IntKind.i64, Sh.int IntKind.i64, Sh.sl (3 : Nat)], OSh.row true (75 : Nat) (Ty.pair (Ty.int IntKind.i64) (Ty.int IntKind.i64)), OSh.row true (3 : Nat) (Ty.int IntKind.i64)], tmps := [((2 : Nat), TSh.at (Sh.ptr (1 : Nat) (0 : Nat))), ((4 : Nat), TSh.at (Sh.ptr (2 : Nat) (0 : Nat))), ((5 : Nat), TSh.at (Sh.sl (4 : Nat)))] }
noncomputable def f_spec_saIn_0D : LoopDef (Tup r_spec_saIn × OutD) := .plain f_spec_saIn_0i f_spec_saIn_0o (Int × Int × List (Int × Int) × Int × Int × List (Int × Int) × List Int) (fun k x => f_spec_saIn_0 k x.1.2.1.1 x.1.2.1.2.1 x.1.2.1.2.2.1 x.1.2.2.1.1 x.1.2.2.1.2.1 x.1.2.2.2.1 x.1.2.2.2.2.1 x.2.1 x.2.2.2.2.2.1 x.2.2.2.2.2.2.1) (fun z => (((), (z.1, z.2.1, z.2.2.1, ()), (z.2.2.2.1, z.2.2.2.2.1, (), ()), z.2.2.2.2.2.1, z.2.2.2.2.2.2, ()), ((), (), (), ()))) (fun y => (y.1.2.1.1, y.1.2.1.2.1, y.1.2.1.2.2.1, y.1.2.2.1.1, y.1.2.2.1.2.1, y.1.2.2.2.1, y.1.2.2.2.2.1)) (fun _ => rfl)
noncomputable def f_spec_saIn : Nat → Int × Int × List (Int × Int) → Int → Option (Int × Int × List (Int × Int))
  | 0, _, _ => none
  | k + 1, p0, p1 =>
    Option.bind (f_spec_saUnits k (Prod.fst p0, Prod.fst (Prod.snd p0), Prod.snd (Prod.snd p0))) fun z0 => Option.bind (f_spec_saIn_0 k (Prod.fst p0) (Prod.fst (Prod.snd p0)) (Prod.snd (Prod.snd p0)) (0 : Int) (0 : Int) [] [] p1 (↑(List.length z0) : Int) (0 : Int)) fun z1 => Option.bind (f_spec_saWith k (Prod.fst z1, Prod.fst (Prod.snd z1), Prod.fst (Prod.snd (Prod.snd z1))) (Prod.snd (Prod.snd (Prod.snd (Prod.snd (Prod.snd (Prod.snd z1))))))) fun z2 => some (Prod.fst z2, Prod.fst (Prod.snd z2), Prod.snd (Prod.snd z2))
noncomputable def d_spec_saIn : FnDef := .of q_spec_saIn r_spec_saIn (Int × Int × List (Int × Int)) (fun k x => f_spec_saIn k x.1 x.2.1) to_spec_saIn of_spec_saIn to_of_spec_saIn
noncomputable def c_spec_saIn : Code := Try.f51.body.getD .skip
noncomputable def x_spec_saIn : Ctx (Tup r_spec_saIn × OutD) := { T := T, G := [(56, d_spec_saUnits.E), (73, d_spec_saWith.E)], mvs := [], no := 0, n := 25, res := resOf T q_spec_saIn r_spec_saIn Try.f51.results.toList, loops := [(0, f_spec_saIn_0D.E)], regs := [], conds := [] }
theorem g_spec_saIn (k : Nat) : EnvOK Try.prog k x_spec_saIn.G := (EnvOK.cons (s_spec_saUnits k) (EnvOK.cons (s_spec_saWith k) (EnvOK.nil mixed)))
noncomputable def f_spec_saIn_0B : Code := (findLoop 0 c_spec_saIn).getD .skip
theorem f_spec_saIn_0h (k : Nat) (x : f_spec_saIn_0i.D) : f_spec_saIn_0D.lp (k + 1) x = loopK x_spec_saIn f_spec_saIn_0D 0 f_spec_saIn_0B k x := by kernel_rfl
theorem f_spec_saIn_0l (k : Nat) : LOK Try.prog x_spec_saIn k f_spec_saIn_0B := LOK.by [] (by kernel_rfl) AllOK.nil
theorem f_spec_saIn_0z (x : f_spec_saIn_0i.D) : f_spec_saIn_0D.lp 0 x = none := by kernel_rfl
theorem f_spec_saIn_0ok (k : Nat) : EOK Try.prog x_spec_saIn k f_spec_saIn_0D.E (.block 0 (.loop f_spec_saIn_0B)) := loop_ok T_ok g_spec_saIn f_spec_saIn_0z f_spec_saIn_0h f_spec_saIn_0l k
theorem h_spec_saIn (k : Nat) (x : Tup d_spec_saIn.ps) : d_spec_saIn.f (k + 1) x = fnK d_spec_saIn x_spec_saIn c_spec_saIn k x := by kernel_rfl
theorem z_spec_saIn (x : Tup d_spec_saIn.ps) : d_spec_saIn.f 0 x = none := by kernel_rfl
theorem l_spec_saIn (k : Nat) : LOK Try.prog x_spec_saIn k c_spec_saIn := LOK.by [(f_spec_saIn_0D.E, .block 0 (.loop f_spec_saIn_0B))] (by kernel_rfl) (AllOK.cons (f_spec_saIn_0ok k) AllOK.nil)
theorem s_spec_saIn (k : Nat) : SoundAt Try.prog k 51 d_spec_saIn.E := @fn_all Try.prog d_spec_saIn x_spec_saIn 51 Try.f51 c_spec_saIn (by kernel_rfl) (by kernel_rfl) (by kernel_rfl) Try.func51 (by kernel_rfl) (by kernel_rfl) (by kernel_rfl) T_ok g_spec_saIn l_spec_saIn z_spec_saIn h_spec_saIn k
end
end Go.Proofs.Ytjjlmnbmpgfcbaa.Vs

set_option maxRecDepth 100000
set_option maxHeartbeats 2000000
set_option linter.unusedVariables false
set_option linter.unusedSimpArgs false
namespace Go.Proofs.Ytjjlmnbmpgfcbaa.Vs
open Go.RowKit
noncomputable section
/-! function 11 -/
/-! function 21 -/
/-! function 23 -/
noncomputable def r_impl_BoardsBefore : List PK := [{ t := Ty.slice (31 : Nat) (Ty.pair (Ty.int IntKind.i64) (Ty.pair (Ty.int IntKind.i64) (Ty.slice (75 : Nat) (Ty.pair (Ty.int IntKind.i64) (Ty.int IntKind.i64))))) }, { t := Ty.bool }]
noncomputable def q_impl_BoardsBefore : List PK := [{ t := Ty.pair (Ty.int IntKind.i64) (Ty.pair (Ty.int IntKind.i64) (Ty.slice (75 : Nat) (Ty.pair (Ty.int IntKind.i64) (Ty.int IntKind.i64)))), agg := true }, { t := Ty.int IntKind.i64 }]
noncomputable def to_impl_BoardsBefore (r : List (Int × Int × List (Int × Int)) × Bool) : Tup r_impl_BoardsBefore × OutD := ((r.1, r.2, ()), none)
noncomputable def of_impl_BoardsBefore : Tup r_impl_BoardsBefore × OutD → Option (List (Int × Int × List (Int × Int)) × Bool)
  | (a, none) => some (a.1, a.2.1)
  | _ => none
theorem to_of_impl_BoardsBefore : ∀ b r, of_impl_BoardsBefore b = some r → to_impl_BoardsBefore r = b := by
  rintro ⟨a, o⟩ r h
  cases o with
  | none => injection h with h; subst h; rfl
  | some _ => cases h
noncomputable def f_impl_BoardsBefore_0 : Nat → Int → Int → List (Int × Int) → List (Int × Int × List (Int × Int)) → List (List Int) → Int → Int → Int → Int → Option (List (Int × Int × List (Int × Int)))
  | 0, _, _, _, _, _, _, _, _, _ => none
  | k + 1, b1_0, b1_1, b1_2, o2, o3, v7, v25, v26, v27 =>
    if decide (v27 < v26) = true then if (0 : Int) ≤ v27 then if v27 < (↑(List.length (List.getD o3 (Int.toNat v25) [])) : Int) then if decide (List.getD (List.getD o3 (Int.toNat v25) []) (Int.toNat v27) (0 : Int) = v7) = true then Option.bind (f_impl_BoardInState k (b1_0, b1_1, b1_2) v27) fun z4 => if List.length o2 + List.length [(Prod.fst (Prod.fst z4), Prod.fst (Prod.snd (Prod.fst z4)), Prod.snd (Prod.snd (Prod.fst z4)))] ≤ (140737488355328 / 40 : Nat) then f_impl_BoardsBefore_0 k b1_0 b1_1 b1_2 (o2 ++ [(Prod.fst (Prod.fst z4), Prod.fst (Prod.snd (Prod.fst z4)), Prod.snd (Prod.snd (Prod.fst z4)))]) o3 v7 v25 v26 (wrap64 (v27 + (1 : Int))) else none else f_impl_BoardsBefore_0 k b1_0 b1_1 b1_2 o2 o3 v7 v25 v26 (wrap64 (v27 + (1 : Int))) else none else none else some o2
noncomputable def f_impl_BoardsBefore_0i : Spec := { objs := [OSh.ro, OSh.box (31 : Nat) [Sh.int IntKind.i64, Sh.int IntKind.i64, Sh.snap (0 : Nat) (Ty.pair (Ty.int IntKind.i64) (Ty.int IntKind.i64))], OSh.row true (31 : Nat) (Ty.pair (Ty.int IntKind.i64) (Ty.pair (Ty.int IntKind.i64) (Ty.slice (75 : Nat) (Ty.pair (Ty.int IntKind.i64) (Ty.int IntKind.i64))))), OSh.row true (26 : Nat) (Ty.slice (3 : Nat) (Ty.int IntKind.i64))], tmps := [((2 : Nat), TSh.at (Sh.ptr (1 : Nat) (0 : Nat))), ((6 : Nat), TSh.at (Sh.sl (2 : Nat))), ((7 : Nat), TSh.at (Sh.int IntKind.i64)), ((25 : Nat), TSh.at (Sh.inn (3 : Nat))), ((26 : Nat), TSh.at (Sh.int IntKind.i64)), ((27 : Nat), TSh.at (Sh.int IntKind.i64))] }
noncomputable def f_impl_BoardsBefore_0o : Spec := { objs := [OSh.ro, OSh.row true (31 : Nat) (Ty.pair (Ty.int IntKind.i64) (Ty.pair (Ty.int IntKind.i64) (Ty.slice (75 : Nat) (Ty.pair (Ty.int IntKind.i64) (Ty.int IntKind.i64)))))], tmps := [((6 : Nat), TSh.at (Sh.sl (1 : Nat)))] }
noncomputable def f_impl_BoardsBefore_0D : LoopDef (Tup r_impl_BoardsBefore × OutD) := .plain f_impl_BoardsBefore_0i f_impl_BoardsBefore_0o (List (Int × Int × List (Int × Int))) (fun k x => f_impl_BoardsBefore_0 k x.1.2.1.1 x.1.2.1.2.1 x.1.2.1.2.2.1 x.1.2.2.1 x.1.2.2.2.1 x.2.2.2.1 x.2.2.2.2.1 x.2.2.2.2.2.1 x.2.2.2.2.2.2.1) (fun z => (((), z, ()), ((), ()))) (fun y => (y.1.2.1)) (fun _ => rfl)
noncomputable def f_impl_BoardsBefore : Nat → Int × Int × List (Int × Int) → Int → Option (List (Int × Int × List (Int × Int)) × Bool)
  | 0, _, _ => none
  | k + 1, p0, p1 =>
    Option.bind (f_impl_goesBack k (Prod.fst p0, Prod.fst (Prod.snd p0), Prod.snd (Prod.snd p0)) p1) fun z0 => if (!z0) = true then some ([], false) else Option.bind (f_impl_bitsOf k (Prod.fst p0, Prod.fst (Prod.snd p0), Prod.snd (Prod.snd p0))) fun z1 => Option.bind (f_impl_numberOf k z1) fun z2 => Option.bind (f_impl_numbersAfter k (Prod.fst p0, Prod.fst (Prod.snd p0), Prod.snd (Prod.snd p0)) [p1]) fun z3 => if (0 : Int) < (↑(List.length z3) : Int) then Option.bind (f_impl_BoardsBefore_0 k (Prod.fst p0) (Prod.fst (Prod.snd p0)) (Prod.snd (Prod.snd p0)) [] z3 z2 (0 : Int) (↑(List.length (List.getD z3 (Int.toNat (0 : Int)) [])) : Int) (0 : Int)) fun z5 => some (z5, true) else none
noncomputable def d_impl_BoardsBefore : FnDef := .of q_impl_BoardsBefore r_impl_BoardsBefore (List (Int × Int × List (Int × Int)) × Bool) (fun k x => f_impl_BoardsBefore k x.1 x.2.1) to_impl_BoardsBefore of_impl_BoardsBefore to_of_impl_BoardsBefore
noncomputable def c_impl_BoardsBefore : Code := Try.f23.body.getD .skip
noncomputable def x_impl_BoardsBefore : Ctx (Tup r_impl_BoardsBefore × OutD) := { T := T, G := [(35, d_impl_goesBack.E), (49, d_impl_bitsOf.E), (48, d_impl_numberOf.E), (36, d_impl_numbersAfter.E), (52, d_impl_BoardInState.E)], mvs := [], no := 0, n := 47, res := resOf T q_impl_BoardsBefore r_impl_BoardsBefore Try.f23.results.toList, loops := [(0, f_impl_BoardsBefore_0D.E)], regs := [], conds := [] }
theorem g_impl_BoardsBefore (k : Nat) : EnvOK Try.prog k x_impl_BoardsBefore.G := (EnvOK.cons (s_impl_goesBack k) (EnvOK.cons (s_impl_bitsOf k) (EnvOK.cons (s_impl_numberOf k) (EnvOK.cons (s_impl_numbersAfter k) (EnvOK.cons (s_impl_BoardInState k) (EnvOK.nil mixed))))))
noncomputable def f_impl_BoardsBefore_0B : Code := (findLoop 0 c_impl_BoardsBefore).getD .skip
theorem f_impl_BoardsBefore_0h (k : Nat) (x : f_impl_BoardsBefore_0i.D) : f_impl_BoardsBefore_0D.lp (k + 1) x = loopK x_impl_BoardsBefore f_impl_BoardsBefore_0D 0 f_impl_BoardsBefore_0B k x := by kernel_rfl
theorem f_impl_BoardsBefore_0l (k : Nat) : LOK Try.prog x_impl_BoardsBefore k f_impl_BoardsBefore_0B := LOK.by [] (by kernel_rfl) AllOK.nil
theorem f_impl_BoardsBefore_0z (x : f_impl_BoardsBefore_0i.D) : f_impl_BoardsBefore_0D.lp 0 x = none := by kernel_rfl
theorem f_impl_BoardsBefore_0ok (k : Nat) : EOK Try.prog x_impl_BoardsBefore k f_impl_BoardsBefore_0D.E (.block 0 (.loop f_impl_BoardsBefore_0B)) := loop_ok T_ok g_impl_BoardsBefore f_impl_BoardsBefore_0z f_impl_BoardsBefore_0h f_impl_BoardsBefore_0l k
theorem h_impl_BoardsBefore (k : Nat) (x : Tup d_impl_BoardsBefore.ps) : d_impl_BoardsBefore.f (k + 1) x = fnK d_impl_BoardsBefore x_impl_BoardsBefore c_impl_BoardsBefore k x := by kernel_rfl
theorem z_impl_BoardsBefore (x : Tup d_impl_BoardsBefore.ps) : d_impl_BoardsBefore.f 0 x = none := by kernel_rfl
theorem l_impl_BoardsBefore (k : Nat) : LOK Try.prog x_impl_BoardsBefore k c_impl_BoardsBefore := LOK.by [(f_impl_BoardsBefore_0D.E, .block 0 (.loop f_impl_BoardsBefore_0B))] (by kernel_rfl) (AllOK.cons (f_impl_BoardsBefore_0ok k) AllOK.nil)
theorem s_impl_BoardsBefore (k : Nat) : SoundAt Try.prog k 23 d_impl_BoardsBefore.E := @fn_all Try.prog d_impl_BoardsBefore x_impl_BoardsBefore 23 Try.f23 c_impl_BoardsBefore (by kernel_rfl) (by kernel_rfl) (by kernel_rfl) Try.func23 (by kernel_rfl) (by kernel_rfl) (by kernel_rfl) T_ok g_impl_BoardsBefore l_impl_BoardsBefore z_impl_BoardsBefore h_impl_BoardsBefore k
/-! function 32 -/
noncomputable def r_spec_rvNext : List PK := [{ t := Ty.slice (3 : Nat) (Ty.int IntKind.i64) }]
noncomputable def q_spec_rvNext : List PK := [{ t := Ty.pair (Ty.int IntKind.i64) (Ty.pair (Ty.int IntKind.i64) (Ty.slice (75 : Nat) (Ty.pair (Ty.int IntKind.i64) (Ty.int IntKind.i64)))), agg := true }, { t := Ty.int IntKind.i64 }]
noncomputable def to_spec_rvNext (r : List Int) : Tup r_spec_rvNext × OutD := ((r, ()), none)
noncomputable def of_spec_rvNext : Tup r_spec_rvNext × OutD → Option (List Int)
  | (a, none) => some (a.1)
  | _ => none
theorem to_of_spec_rvNext : ∀ b r, of_spec_rvNext b = some r → to_spec_rvNext r = b := by
  rintro ⟨a, o⟩ r h
  cases o with
  | none => injection h with h; subst h; rfl
  | some _ => cases h
noncomputable def f_spec_rvNext_0 : Nat → Int → Int → List (Int × Int) → List Int → Int → Int → Option (List Int)
  | 0, _, _, _, _, _, _ => none
  | k + 1, b1_0, b1_1, b1_2, o2, v1, v6 =>
    Option.bind (f_spec_rvStates k (b1_0, b1_1, b1_2)) fun z0 => if decide (v6 < z0) = true then Option.bind (f_spec_saIn k (b1_0, b1_1, b1_2) v6) fun z1 => Option.bind (f_spec_flRun k (Prod.fst z1, Prod.fst (Prod.snd z1), Prod.snd (Prod.snd z1)) v1) fun z2 => Option.bind (f_spec_saNumber k (Prod.fst (Prod.snd z2), Prod.fst (Prod.snd (Prod.snd z2)), Prod.snd (Prod.snd (Prod.snd z2)))) fun z3 => if List.length o2 + List.length [z3] ≤ (140737488355328 / 8 : Nat) then f_spec_rvNext_0 k b1_0 b1_1 b1_2 (o2 ++ [z3]) v1 (wrap64 (v6 + (1 : Int))) else none else some o2
noncomputable def f_spec_rvNext_0i : Spec := { objs := [OSh.ro, OSh.box (31 : Nat) [Sh.int IntKind.i64, Sh.int IntKind.i64, Sh.snap (0 : Nat) (Ty.pair (Ty.int IntKind.i64) (Ty.int IntKind.i64))], OSh.row true (3 : Nat) (Ty.int IntKind.i64)], tmps := [((1 : Nat), TSh.at (Sh.int IntKind.i64)), ((2 : Nat), TSh.at (Sh.ptr (1 : Nat) (0 : Nat))), ((5 : Nat), TSh.at (Sh.sl (2 : Nat))), ((6 : Nat), TSh.at (Sh.int IntKind.i64))] }
noncomputable def f_spec_rvNext_0o : Spec := { objs := [OSh.ro, OSh.row true (3 : Nat) (Ty.int IntKind.i64)], tmps := [((5 : Nat), TSh.at (Sh.sl (1 : Nat)))] }
noncomputable def f_spec_rvNext_0D : LoopDef (Tup r_spec_rvNext × OutD) := .plain f_spec_rvNext_0i f_spec_rvNext_0o (List Int) (fun k x => f_spec_rvNext_0 k x.1.2.1.1 x.1.2.1.2.1 x.1.2.1.2.2.1 x.1.2.2.1 x.2.1 x.2.2.2.2.1) (fun z => (((), z, ()), ((), ()))) (fun y => (y.1.2.1)) (fun _ => rfl)
noncomputable def f_spec_rvNext : Nat → Int × Int × List (Int × Int) → Int → Option (List Int)
  | 0, _, _ => none
  | k + 1, p0, p1 =>
    Option.bind (f_spec_rvNext_0 k (Prod.fst p0) (Prod.fst (Prod.snd p0)) (Prod.snd (Prod.snd p0)) [] p1 (0 : Int)) fun z4 => some z4
noncomputable def d_spec_rvNext : FnDef := .of q_spec_rvNext r_spec_rvNext (List Int) (fun k x => f_spec_rvNext k x.1 x.2.1) to_spec_rvNext of_spec_rvNext to_of_spec_rvNext
noncomputable def c_spec_rvNext : Code := Try.f32.body.getD .skip
noncomputable def x_spec_rvNext : Ctx (Tup r_spec_rvNext × OutD) := { T := T, G := [(57, d_spec_rvStates.E), (51, d_spec_saIn.E), (58, d_spec_flRun.E), (44, d_spec_saNumber.E)], mvs := [], no := 0, n := 29, res := resOf T q_spec_rvNext r_spec_rvNext Try.f32.results.toList, loops := [(0, f_spec_rvNext_0D.E)], regs := [], conds := [] }
theorem g_spec_rvNext (k : Nat) : EnvOK Try.prog k x_spec_rvNext.G := (EnvOK.cons (s_spec_rvStates k) (EnvOK.cons (s_spec_saIn k) (EnvOK.cons (s_spec_flRun k) (EnvOK.cons (s_spec_saNumber k) (EnvOK.nil mixed)))))
noncomputable def f_spec_rvNext_0B : Code := (findLoop 0 c_spec_rvNext).getD .skip
theorem f_spec_rvNext_0h (k : Nat) (x : f_spec_rvNext_0i.D) : f_spec_rvNext_0D.lp (k + 1) x = loopK x_spec_rvNext f_spec_rvNext_0D 0 f_spec_rvNext_0B k x := by kernel_rfl
theorem f_spec_rvNext_0l (k : Nat) : LOK Try.prog x_spec_rvNext k f_spec_rvNext_0B := LOK.by [] (by kernel_rfl) AllOK.nil
theorem f_spec_rvNext_0z (x : f_spec_rvNext_0i.D) : f_spec_rvNext_0D.lp 0 x = none := by kernel_rfl
theorem f_spec_rvNext_0ok (k : Nat) : EOK Try.prog x_spec_rvNext k f_spec_rvNext_0D.E (.block 0 (.loop f_spec_rvNext_0B)) := loop_ok T_ok g_spec_rvNext f_spec_rvNext_0z f_spec_rvNext_0h f_spec_rvNext_0l k
theorem h_spec_rvNext (k : Nat) (x : Tup d_spec_rvNext.ps) : d_spec_rvNext.f (k + 1) x = fnK d_spec_rvNext x_spec_rvNext c_spec_rvNext k x := by kernel_rfl
theorem z_spec_rvNext (x : Tup d_spec_rvNext.ps) : d_spec_rvNext.f 0 x = none := by kernel_rfl
theorem l_spec_rvNext (k : Nat) : LOK Try.prog x_spec_rvNext k c_spec_rvNext := LOK.by [(f_spec_rvNext_0D.E, .block 0 (.loop f_spec_rvNext_0B))] (by kernel_rfl) (AllOK.cons (f_spec_rvNext_0ok k) AllOK.nil)
theorem s_spec_rvNext (k : Nat) : SoundAt Try.prog k 32 d_spec_rvNext.E := @fn_all Try.prog d_spec_rvNext x_spec_rvNext 32 Try.f32 c_spec_rvNext (by kernel_rfl) (by kernel_rfl) (by kernel_rfl) Try.func32 (by kernel_rfl) (by kernel_rfl) (by kernel_rfl) T_ok g_spec_rvNext l_spec_rvNext z_spec_rvNext h_spec_rvNext k
end
end Go.Proofs.Ytjjlmnbmpgfcbaa.Vs

set_option maxRecDepth 100000
set_option maxHeartbeats 2000000
set_option linter.unusedVariables false
set_option linter.unusedSimpArgs false
namespace Go.Proofs.Ytjjlmnbmpgfcbaa.Vs
open Go.RowKit
noncomputable section
/-! function 9 -/
/-! function 18 -/
/-! function 20 -/
/-! function 22 -/
noncomputable def r_spec_BoardsBefore : List PK := [{ t := Ty.slice (31 : Nat) (Ty.pair (Ty.int IntKind.i64) (Ty.pair (Ty.int IntKind.i64) (Ty.slice (75 : Nat) (Ty.pair (Ty.int IntKind.i64) (Ty.int IntKind.i64))))) }, { t := Ty.bool }]
noncomputable def q_spec_BoardsBefore : List PK := [{ t := Ty.pair (Ty.int IntKind.i64) (Ty.pair (Ty.int IntKind.i64) (Ty.slice (75 : Nat) (Ty.pair (Ty.int IntKind.i64) (Ty.int IntKind.i64)))), agg := true }, { t := Ty.int IntKind.i64 }]
noncomputable def to_spec_BoardsBefore (r : List (Int × Int × List (Int × Int)) × Bool) : Tup r_spec_BoardsBefore × OutD := ((r.1, r.2, ()), none)
noncomputable def of_spec_BoardsBefore : Tup r_spec_BoardsBefore × OutD → Option (List (Int × Int × List (Int × Int)) × Bool)
  | (a, none) => some (a.1, a.2.1)
  | _ => none
theorem to_of_spec_BoardsBefore : ∀ b r, of_spec_BoardsBefore b = some r → to_spec_BoardsBefore r = b := by
  rintro ⟨a, o⟩ r h
  cases o with
  | none => injection h with h; subst h; rfl
  | some _ => cases h
noncomputable def f_spec_BoardsBefore_0 : Nat → Int → Int → List (Int × Int) → List (Int × Int × List (Int × Int)) → List Int → Int → Int → Option (List (Int × Int × List (Int × Int)))
  | 0, _, _, _, _, _, _, _ => none
  | k + 1, b1_0, b1_1, b1_2, o2, o3, v19, v20 =>
    if decide (v20 < v19) = true then if (0 : Int) ≤ v20 then if v20 < (↑(List.length o3) : Int) then Option.bind (f_spec_saIn k (b1_0, b1_1, b1_2) (List.getD o3 (Int.toNat v20) (0 : Int))) fun z4 => if List.length o2 + List.length [(Prod.fst z4, Prod.fst (Prod.snd z4), Prod.snd (Prod.snd z4))] ≤ (140737488355328 / 40 : Nat) then f_spec_BoardsBefore_0 k b1_0 b1_1 b1_2 (o2 ++ [(Prod.fst z4, Prod.fst (Prod.snd z4), Prod.snd (Prod.snd z4))]) o3 v19 (wrap64 (v20 + (1 : Int))) else none else none else none else some o2
noncomputable def f_spec_BoardsBefore_0i : Spec := { objs := [OSh.ro, OSh.box (31 : Nat) [Sh.int IntKind.i64, Sh.int IntKind.i64, Sh.snap (0 : Nat) (Ty.pair (Ty.int IntKind.i64) (Ty.int IntKind.i64))], OSh.row true (31 : Nat) (Ty.pair (Ty.int IntKind.i64) (Ty.pair (Ty.int IntKind.i64) (Ty.slice (75 : Nat) (Ty.pair (Ty.int IntKind.i64) (Ty.int IntKind.i64))))), OSh.row true (3 : Nat) (Ty.int IntKind.i64)], tmps := [((2 : Nat), TSh.at (Sh.ptr (1 : Nat) (0 : Nat))), ((6 : Nat), TSh.at (Sh.sl (2 : Nat))), ((18 : Nat), TSh.at (Sh.sl (3 : Nat))), ((19 : Nat), TSh.at (Sh.int IntKind.i64)), ((20 : Nat), TSh.at (Sh.int IntKind.i64))] }
noncomputable def f_spec_BoardsBefore_0o : Spec := { objs := [OSh.ro, OSh.row true (31 : Nat) (Ty.pair (Ty.int IntKind.i64) (Ty.pair (Ty.int IntKind.i64) (Ty.slice (75 : Nat) (Ty.pair (Ty.int IntKind.i64) (Ty.int IntKind.i64)))))], tmps := [((6 : Nat), TSh.at (Sh.sl (1 : Nat)))] }
noncomputable def f_spec_BoardsBefore_0D : LoopDef (Tup r_spec_BoardsBefore × OutD) := .plain f_spec_BoardsBefore_0i f_spec_BoardsBefore_0o (List (Int × Int × List (Int × Int))) (fun k x => f_spec_BoardsBefore_0 k x.1.2.1.1 x.1.2.1.2.1 x.1.2.1.2.2.1 x.1.2.2.1 x.1.2.2.2.1 x.2.2.2.2.1 x.2.2.2.2.2.1) (fun z => (((), z, ()), ((), ()))) (fun y => (y.1.2.1)) (fun _ => rfl)
noncomputable def f_spec_BoardsBefore : Nat → Int × Int × List (Int × Int) → Int → Option (List (Int × Int × List (Int × Int)) × Bool)
  | 0, _, _ => none
  | k + 1, p0, p1 =>
    Option.bind (f_spec_rvHas k (Prod.fst p0, Prod.fst (Prod.snd p0), Prod.snd (Prod.snd p0)) p1) fun z0 => if (!z0) = true then some ([], false) else Option.bind (f_spec_rvNext k (Prod.fst p0, Prod.fst (Prod.snd p0), Prod.snd (Prod.snd p0)) p1) fun z1 => Option.bind (f_spec_saNumber k (Prod.fst p0, Prod.fst (Prod.snd p0), Prod.snd (Prod.snd p0))) fun z2 => Option.bind (f_spec_rvBefore k z1 z2) fun z3 => Option.bind (f_spec_BoardsBefore_0 k (Prod.fst p0) (Prod.fst (Prod.snd p0)) (Prod.snd (Prod.snd p0)) [] z3 (↑(List.length z3) : Int) (0 : Int)) fun z5 => some (z5, true)
noncomputable def d_spec_BoardsBefore : FnDef := .of q_spec_BoardsBefore r_spec_BoardsBefore (List (Int × Int × List (Int × Int)) × Bool) (fun k x => f_spec_BoardsBefore k x.1 x.2.1) to_spec_BoardsBefore of_spec_BoardsBefore to_of_spec_BoardsBefore
noncomputable def c_spec_BoardsBefore : Code := Try.f22.body.getD .skip
noncomputable def x_spec_BoardsBefore : Ctx (Tup r_spec_BoardsBefore × OutD) := { T := T, G := [(31, d_spec_rvHas.E), (32, d_spec_rvNext.E), (44, d_spec_saNumber.E), (50, d_spec_rvBefore.E), (51, d_spec_saIn.E)], mvs := [], no := 0, n := 32, res := resOf T q_spec_BoardsBefore r_spec_BoardsBefore Try.f22.results.toList, loops := [(0, f_spec_BoardsBefore_0D.E)], regs := [], conds := [] }
theorem g_spec_BoardsBefore (k : Nat) : EnvOK Try.prog k x_spec_BoardsBefore.G := (EnvOK.cons (s_spec_rvHas k) (EnvOK.cons (s_spec_rvNext k) (EnvOK.cons (s_spec_saNumber k) (EnvOK.cons (s_spec_rvBefore k) (EnvOK.cons (s_spec_saIn k) (EnvOK.nil mixed))))))
noncomputable def f_spec_BoardsBefore_0B : Code := (findLoop 0 c_spec_BoardsBefore).getD .skip
theorem f_spec_BoardsBefore_0h (k : Nat) (x : f_spec_BoardsBefore_0i.D) : f_spec_BoardsBefore_0D.lp (k + 1) x = loopK x_spec_BoardsBefore f_spec_BoardsBefore_0D 0 f_spec_BoardsBefore_0B k x := by kernel_rfl
theorem f_spec_BoardsBefore_0l (k : Nat) : LOK Try.prog x_spec_BoardsBefore k f_spec_BoardsBefore_0B := LOK.by [] (by kernel_rfl) AllOK.nil
theorem f_spec_BoardsBefore_0z (x : f_spec_BoardsBefore_0i.D) : f_spec_BoardsBefore_0D.lp 0 x = none := by kernel_rfl
theorem f_spec_BoardsBefore_0ok (k : Nat) : EOK Try.prog x_spec_BoardsBefore k f_spec_BoardsBefore_0D.E (.block 0 (.loop f_spec_BoardsBefore_0B)) := loop_ok T_ok g_spec_BoardsBefore f_spec_BoardsBefore_0z f_spec_BoardsBefore_0h f_spec_BoardsBefore_0l k
theorem h_spec_BoardsBefore (k : Nat) (x : Tup d_spec_BoardsBefore.ps) : d_spec_BoardsBefore.f (k + 1) x = fnK d_spec_BoardsBefore x_spec_BoardsBefore c_spec_BoardsBefore k x := by kernel_rfl
theorem z_spec_BoardsBefore (x : Tup d_spec_BoardsBefore.ps) : d_spec_BoardsBefore.f 0 x = none := by kernel_rfl
theorem l_spec_BoardsBefore (k : Nat) : LOK Try.prog x_spec_BoardsBefore k c_spec_BoardsBefore := LOK.by [(f_spec_BoardsBefore_0D.E, .block 0 (.loop f_spec_BoardsBefore_0B))] (by kernel_rfl) (AllOK.cons (f_spec_BoardsBefore_0ok k) AllOK.nil)
theorem s_spec_BoardsBefore (k : Nat) : SoundAt Try.prog k 22 d_spec_BoardsBefore.E := @fn_all Try.prog d_spec_BoardsBefore x_spec_BoardsBefore 22 Try.f22 c_spec_BoardsBefore (by kernel_rfl) (by kernel_rfl) (by kernel_rfl) Try.func22 (by kernel_rfl) (by kernel_rfl) (by kernel_rfl) T_ok g_spec_BoardsBefore l_spec_BoardsBefore z_spec_BoardsBefore h_spec_BoardsBefore k
/-! function 40 -/
end
end Go.Proofs.Ytjjlmnbmpgfcbaa.Vs

set_option maxRecDepth 100000
set_option maxHeartbeats 2000000
set_option linter.unusedVariables false
set_option linter.unusedSimpArgs false
namespace Go.Proofs.Ytjjlmnbmpgfcbaa.Vs
open Go.RowKit
noncomputable section
/-! function 3 -/
/-! function 5 -/
/-! function 6 -/
noncomputable def r_laws_FnExactBoardsBefore : List PK := [{ t := Ty.bool }]
noncomputable def q_laws_FnExactBoardsBefore : List PK := [{ t := Ty.pair (Ty.int IntKind.i64) (Ty.pair (Ty.int IntKind.i64) (Ty.slice (77 : Nat) (Ty.pair (Ty.int IntKind.i64) (Ty.int IntKind.i64)))), agg := true }, { t := Ty.int IntKind.i64 }]
noncomputable def to_laws_FnExactBoardsBefore (r : Bool) : Tup r_laws_FnExactBoardsBefore × OutD := ((r, ()), none)
noncomputable def of_laws_FnExactBoardsBefore : Tup r_laws_FnExactBoardsBefore × OutD → Option (Bool)
  | (a, none) => some (a.1)
  | _ => none
theorem to_of_laws_FnExactBoardsBefore : ∀ b r, of_laws_FnExactBoardsBefore b = some r → to_laws_FnExactBoardsBefore r = b := by
  rintro ⟨a, o⟩ r h
  cases o with
  | none => injection h with h; subst h; rfl
  | some _ => cases h
noncomputable def f_laws_FnExactBoardsBefore : Nat → Int × Int × List (Int × Int) → Int → Option Bool
  | 0, _, _ => none
  | k + 1, p0, p1 =>
    Option.bind (f_laws_szBoard k (Prod.fst p0, Prod.fst (Prod.snd p0), Prod.snd (Prod.snd p0)) (1048576 : Int)) fun z0 => if decide (z0 < (0 : Int)) = true then some true else Option.bind (f_laws_toBoard k (Prod.fst p0, Prod.fst (Prod.snd p0), Prod.snd (Prod.snd p0))) fun z1 => Option.bind (f_spec_BoardsBefore k (Prod.fst z1, Prod.fst (Prod.snd z1), Prod.snd (Prod.snd z1)) p1) fun z2 => Option.bind (f_laws_toBoard k (Prod.fst p0, Prod.fst (Prod.snd p0), Prod.snd (Prod.snd p0))) fun z3 => Option.bind (f_impl_BoardsBefore k (Prod.fst z3, Prod.fst (Prod.snd z3), Prod.snd (Prod.snd z3)) p1) fun z4 => Option.bind (f_laws_eqBoardS k (Prod.fst z4) (Prod.fst z2)) fun z5 => if (!z5) = true then some false else if (!Prod.snd z4 == Prod.snd z2) = true then some false else Option.bind (f_laws_toBoard k (Prod.fst p0, Prod.fst (Prod.snd p0), Prod.snd (Prod.snd p0))) fun z6 => Option.bind (f_laws_eqBoard k (Prod.fst z3, Prod.fst (Prod.snd z3), Prod.snd (Prod.snd z3)) (Prod.fst z6, Prod.fst (Prod.snd z6), Prod.snd (Prod.snd z6))) fun z7 => if (!z7) = true then some false else Option.bind (f_laws_markBoard k (Prod.fst z3, Prod.fst (Prod.snd z3), Prod.snd (Prod.snd z3)) (1 : Int)) fun z8 => if decide (Prod.fst z8 < (0 : Int)) = true then some false else Option.bind (f_laws_eqBoardS k (Prod.fst z4) (Prod.fst z2)) fun z9 => if (!z9) = true then some false else if (!Prod.snd z4 == Prod.snd z2) = true then some false else Option.bind (f_laws_markBoardS k (Prod.fst z4) (1 : Int)) fun z10 => Option.bind (f_laws_heldBoardS k (Prod.snd z10) (1 : Int)) fun z11 => if decide (z11 < (0 : Int)) = true then some false else if decide (z11 ≠ Prod.fst z10) = true then some false else Option.bind (f_laws_toBoard k (Prod.fst p0, Prod.fst (Prod.snd p0), Prod.snd (Prod.snd p0))) fun z12 => Option.bind (f_impl_BoardsBefore k (Prod.fst z12, Prod.fst (Prod.snd z12), Prod.snd (Prod.snd z12)) p1) fun z13 => Option.bind (f_laws_eqBoardS k (Prod.fst z13) (Prod.fst z2)) fun z14 => if (!z14) = true then some false else if (!Prod.snd z13 == Prod.snd z2) = true then some false else Option.bind (f_laws_heldBoardS k (Prod.snd z10) (1 : Int)) fun z15 => if decide (z15 < (0 : Int)) = true then some false else if decide (z15 ≠ Prod.fst z10) = true then some false else some true
noncomputable def d_laws_FnExactBoardsBefore : FnDef := .of q_laws_FnExactBoardsBefore r_laws_FnExactBoardsBefore (Bool) (fun k x => f_laws_FnExactBoardsBefore k x.1 x.2.1) to_laws_FnExactBoardsBefore of_laws_FnExactBoardsBefore to_of_laws_FnExactBoardsBefore
noncomputable def c_laws_FnExactBoardsBefore : Code := Try.f6.body.getD .skip
noncomputable def x_laws_FnExactBoardsBefore : Ctx (Tup r_laws_FnExactBoardsBefore × OutD) := { T := T, G := [(8, d_laws_szBoard.E), (10, d_laws_toBoard.E), (22, d_spec_BoardsBefore.E), (23, d_impl_BoardsBefore.E), (24, d_laws_eqBoardS.E), (13, d_laws_eqBoard.E), (14, d_laws_markBoard.E), (25, d_laws_markBoardS.E), (26, d_laws_heldBoardS.E)], mvs := [], no := 0, n := 101, res := resOf T q_laws_FnExactBoardsBefore r_laws_FnExactBoardsBefore Try.f6.results.toList, loops := [], regs := [], conds := [] }
theorem g_laws_FnExactBoardsBefore (k : Nat) : EnvOK Try.prog k x_laws_FnExactBoardsBefore.G := (EnvOK.cons (s_laws_szBoard k) (EnvOK.cons (s_laws_toBoard k) (EnvOK.cons (s_spec_BoardsBefore k) (EnvOK.cons (s_impl_BoardsBefore k) (EnvOK.cons (s_laws_eqBoardS k) (EnvOK.cons (s_laws_eqBoard k) (EnvOK.cons (s_laws_markBoard k) (EnvOK.cons (s_laws_markBoardS k) (EnvOK.cons (s_laws_heldBoardS k) (EnvOK.nil mixed))))))))))
theorem h_laws_FnExactBoardsBefore (k : Nat) (x : Tup d_laws_FnExactBoardsBefore.ps) : d_laws_FnExactBoardsBefore.f (k + 1) x = fnK d_laws_FnExactBoardsBefore x_laws_FnExactBoardsBefore c_laws_FnExactBoardsBefore k x := by kernel_rfl
theorem z_laws_FnExactBoardsBefore (x : Tup d_laws_FnExactBoardsBefore.ps) : d_laws_FnExactBoardsBefore.f 0 x = none := by kernel_rfl
theorem l_laws_FnExactBoardsBefore (k : Nat) : LOK Try.prog x_laws_FnExactBoardsBefore k c_laws_FnExactBoardsBefore := LOK.by [] (by kernel_rfl) AllOK.nil
theorem s_laws_FnExactBoardsBefore (k : Nat) : SoundAt Try.prog k 6 d_laws_FnExactBoardsBefore.E := @fn_all Try.prog d_laws_FnExactBoardsBefore x_laws_FnExactBoardsBefore 6 Try.f6 c_laws_FnExactBoardsBefore (by kernel_rfl) (by kernel_rfl) (by kernel_rfl) Try.func6 (by kernel_rfl) (by kernel_rfl) (by kernel_rfl) T_ok g_laws_FnExactBoardsBefore l_laws_FnExactBoardsBefore z_laws_FnExactBoardsBefore h_laws_FnExactBoardsBefore k
/-! function 17 -/
/-! function 27 -/
end
end Go.Proofs.Ytjjlmnbmpgfcbaa.Vs

set_option maxRecDepth 100000
set_option maxHeartbeats 2000000
set_option linter.unusedVariables false
set_option linter.unusedSimpArgs false
namespace Go.Proofs.Ytjjlmnbmpgfcbaa.Vs
open Go.RowKit
noncomputable section
/-! function 4 -/
/-! function 7 -/
end
end Go.Proofs.Ytjjlmnbmpgfcbaa.Vs

set_option linter.unusedVariables false
set_option linter.unusedSimpArgs false
namespace Go.Proofs.Ytjjlmnbmpgfcbaa.Vs
open Go.RowKit
theorem e_spec_l1In (a b c : Int) : Ev (fun k => f_spec_l1In k a b c) (decide (b ≤ a ∧ a ≤ c)) := by
  refine Ev.succ ?_
  simp only [f_spec_l1In]
  refine Ev.of ?_
  by_cases h1 : b ≤ a <;> by_cases h2 : a ≤ c <;> simp [h1, h2]
end Go.Proofs.Ytjjlmnbmpgfcbaa.Vs

set_option linter.unusedVariables false
set_option linter.unusedSimpArgs false
namespace Go.Proofs.Ytjjlmnbmpgfcbaa.Vs
open Go.RowKit
theorem e_laws_toCell (x : Int × Int) : Ev (fun k => f_laws_toCell k x) x := Ev.succ (Ev.of rfl)
theorem e_laws_eqCell (x y : Int × Int) : Ev (fun k => f_laws_eqCell k x y) (decide (x = y)) := by
  obtain ⟨a0, a1⟩ := x
  obtain ⟨b0, b1⟩ := y
  refine Ev.succ ?_
  simp only [f_laws_eqCell]
  refine Ev.of ?_
  by_cases h0 : a0 = b0 <;> by_cases h1 : a1 = b1 <;> simp [h0, h1]
theorem e_laws_szCellS (l : List (Int × Int)) (n : Int) (h0 : 0 ≤ n) (h1 : n ≤ 1048576) (hl : l.length ≤ 9223372036854775807) : Ev (fun k => f_laws_szCellS k l n) (if n - l.length < 0 then -1 else n - l.length) := by
  refine Ev.succ ?_
  simp only [f_laws_szCellS]
  refine Ev.of ?_
  rw [w64 (by omega) (by omega)]
  by_cases h : n - (l.length : Int) < 0 <;> simp [h]
theorem e_laws_toCellS_0 : ∀ (r pre rest : List (Int × Int)), rest.length = r.length → (pre ++ r).length ≤ 1048576 → Ev (fun k => f_laws_toCellS_0 k (pre ++ rest) (pre ++ r) (pre.length : Int)) (pre ++ r)
  | [], pre, rest, h, hl => by
    obtain rfl : rest = [] := List.eq_nil_of_length_eq_zero h
    refine Ev.succ ?_
    simp only [f_laws_toCellS_0, nlt_end, decide_false, Bool.false_eq_true, if_false]
    exact Ev.some _
  | x :: r, pre, [], h, hl => by simp at h
  | x :: r, pre, y :: rest, h, hl => by
    have ih := e_laws_toCellS_0 r (pre ++ [x]) rest (by simpa using h) (by simpa using hl)
    refine Ev.succ ?_
    simp only [f_laws_toCellS_0, lt_mid, ge_mid, decide_true, if_true, Int.toNat_natCast, getD_mid, set_mid]
    rw [next_mid pre x r (by omega)]
    refine Ev.bind (e_laws_toCell x) ?_
    rw [← shift_mid, ← shift_mid] at ih
    exact ih
theorem e_laws_toCellS (l : List (Int × Int)) (hl : l.length ≤ 1048576) : Ev (fun k => f_laws_toCellS k l) l := by
  refine Ev.succ ?_
  have hm : l.length * 16 ≤ 281474976710656 := by omega
  simp only [f_laws_toCellS, Int.toNat_natCast, hm, if_true]
  exact Ev.bind (e_laws_toCellS_0 l [] (List.replicate l.length (0, 0)) (by simp) (by simpa using hl)) (Ev.some _)
theorem e_laws_eqCellS_0 : ∀ (r s pre : List (Int × Int)) (pre' : List (Int × Int)), s.length = r.length → pre'.length = pre.length → (pre ++ r).length ≤ 9223372036854775806 → Ev (fun k => f_laws_eqCellS_0 k (pre ++ r) (pre' ++ s) (pre.length : Int)) (if r = s then LR.go () else LR.ret false)
  | [], s, pre, pre', h, hp, hl => by
    obtain rfl : s = [] := List.eq_nil_of_length_eq_zero h
    refine Ev.succ ?_
    simp only [f_laws_eqCellS_0, nlt_end, decide_false, Bool.false_eq_true, if_false, if_true]
    exact Ev.some _
  | x :: r, [], pre, pre', h, hp, hl => by simp at h
  | x :: r, y :: s, pre, pre', h, hp, hl => by
    have ih := e_laws_eqCellS_0 r s (pre ++ [x]) (pre' ++ [y]) (by simpa using h) (by simpa using hp) (by simpa using hl)
    have l2 : (pre.length : Int) < ((pre' ++ y :: s).length : Int) := by rw [← hp]; exact lt_mid _ _ _
    have g2 : List.getD (pre' ++ y :: s) pre.length (0, 0) = y := by rw [← hp]; exact getD_mid _ _ _ _
    refine Ev.succ ?_
    simp only [f_laws_eqCellS_0, lt_mid, ge_mid, l2, decide_true, if_true, Int.toNat_natCast, getD_mid, g2]
    rw [next_mid pre x r (by omega)]
    rw [← shift_mid, ← shift_mid] at ih
    refine Ev.bind (e_laws_eqCell x y) ?_
    by_cases hxy : x = y
    · subst hxy
      simp only [decide_true, Bool.not_true, Bool.false_eq_true, if_false]
      refine ih.congr ?_
      by_cases hrs : r = s <;> simp [hrs]
    · simp only [hxy, decide_false, Bool.not_false, if_true]
      refine Ev.of ?_
      rw [if_neg (by intro hc; injection hc with h1 h2; exact hxy h1)]
theorem e_laws_eqCellS (l m : List (Int × Int)) (hl : l.length ≤ 9223372036854775806) : Ev (fun k => f_laws_eqCellS k l m) (decide (l = m)) := by
  refine Ev.succ ?_
  simp only [f_laws_eqCellS]
  by_cases h : l.length = m.length
  · simp only [h, ne_eq, not_true_eq_false, decide_false, Bool.false_eq_true, if_false]
    refine Ev.bind (e_laws_eqCellS_0 l m [] [] h.symm rfl (by simpa using hl)) ?_
    by_cases hlm : l = m
    · rw [if_pos hlm]; simp only [hlm, decide_true]; exact Ev.go (Ev.some _)
    · rw [if_neg hlm]; simp only [hlm, decide_false]; exact Ev.ret (Ev.some _)
  · have h2 : ¬ (l.length : Int) = (m.length : Int) := by omega
    have h3 : ¬ l = m := fun hc => h (by rw [hc])
    simp only [ne_eq, h2, not_false_eq_true, decide_true, if_true, h3, decide_false]
    exact Ev.some _
abbrev CellD := Int × Int
abbrev BoardD := Int × Int × List (Int × Int)
abbrev FaultD := Int × Int × Int
def turning (x : CellD) : Bool := decide (x.1 = 3 ∨ x.1 = 6)
def cellOK (x : CellD) : Bool := decide (0 ≤ x.1 ∧ x.1 ≤ 7 ∧ (x.2 = 0 ∨ (x.2 = 1 ∧ (x.1 = 3 ∨ x.1 = 6))))
def boardOK (b : BoardD) : Bool := decide (1 ≤ b.1 ∧ b.1 ≤ 10 ∧ 1 ≤ b.2.1 ∧ b.2.1 ≤ 9 ∧ (b.2.2.length : Int) = b.1 * b.2.1) && b.2.2.all cellOK
theorem e_spec_paTurning (x : CellD) : Ev (fun k => f_spec_paTurning k x) (turning x) := by
  refine Ev.succ ?_
  simp only [f_spec_paTurning]
  refine Ev.of ?_
  by_cases h1 : x.1 = 3 <;> simp [turning, h1]
theorem e_impl_IsCell (x : CellD) : Ev (fun k => f_impl_IsCell k x) (cellOK x) := by
  refine Ev.succ ?_
  simp only [f_impl_IsCell, decide_eq_true_eq]
  refine Ev.of ?_
  unfold cellOK
  repeat' split
  all_goals (congr 1; first | (symm; rw [decide_eq_true_eq]; omega) | (symm; rw [decide_eq_false_iff_not]; omega) | (apply decide_eq_decide.2; omega))
theorem e_spec_paGood (x : CellD) : Ev (fun k => f_spec_paGood k x) (cellOK x) := by
  refine Ev.succ ?_
  simp only [f_spec_paGood]
  refine Ev.bind (e_spec_l1In _ _ _) ?_
  refine Ev.ite (fun h => ?_) (fun h => ?_)
  · simp only [decide_eq_true_eq] at h
    refine Ev.ite (fun h2 => ?_) (fun h2 => ?_)
    · simp only [decide_eq_true_eq] at h2
      refine Ev.of ?_
      congr 1; simp [cellOK]; omega
    · simp only [decide_eq_true_eq] at h2
      refine Ev.ite (fun h3 => ?_) (fun h3 => ?_)
      · simp only [decide_eq_true_eq] at h3
        refine Ev.bind (e_spec_paTurning x) (Ev.of ?_)
        congr 1; unfold turning cellOK; by_cases h4 : x.1 = 3 ∨ x.1 = 6 <;> simp [h4] <;> omega
      · simp only [decide_eq_true_eq] at h3
        refine Ev.of ?_
        congr 1; simp [cellOK]; omega
  · simp only [decide_eq_true_eq] at h
    refine Ev.of ?_
    congr 1; simp [cellOK]; omega
theorem e_impl_validCells_0 : ∀ (r pre : List CellD), (pre ++ r).length ≤ 9223372036854775806 → Ev (fun k => f_impl_validCells_0 k (pre ++ r) ((pre ++ r).length : Int) (pre.length : Int)) (if r.all cellOK then LR.go () else LR.ret false)
  | [], pre, hl => by
    refine Ev.succ ?_
    simp only [f_impl_validCells_0, nlt_end, decide_false, Bool.false_eq_true, if_false, List.all_nil, if_true]
    exact Ev.some _
  | x :: r, pre, hl => by
    have ih := e_impl_validCells_0 r (pre ++ [x]) (by simpa using hl)
    refine Ev.succ ?_
    simp only [f_impl_validCells_0, lt_mid, ge_mid, decide_true, if_true, Int.toNat_natCast, getD_mid]
    rw [next_mid pre x r (by omega)]
    rw [← shift_mid] at ih
    refine Ev.bind (e_impl_IsCell x) ?_
    cases hx : cellOK x with
    | true => simp only [hx, List.all_cons, Bool.true_and, Bool.not_true, Bool.false_eq_true, if_false]; exact ih
    | false => simp only [hx, List.all_cons, Bool.false_and, Bool.not_false, if_true, Bool.false_eq_true, if_false]; exact Ev.some _
theorem e_impl_validCells (l : List CellD) (hl : l.length ≤ 9223372036854775806) : Ev (fun k => f_impl_validCells k l) (decide (l.length ≤ 90) && l.all cellOK) := by
  refine Ev.succ ?_
  simp only [f_impl_validCells]
  refine Ev.ite (fun h => ?_) (fun h => ?_)
  · simp only [decide_eq_true_eq] at h
    refine Ev.of ?_
    have : ¬ l.length ≤ 90 := by omega
    simp [this]
  · simp only [decide_eq_true_eq] at h
    have h2 : l.length ≤ 90 := by omega
    refine Ev.bind (e_impl_validCells_0 l [] (by simpa using hl)) ?_
    simp only [h2, decide_true, Bool.true_and]
    cases hx : l.all cellOK with
    | true => simp only [if_true]; exact Ev.go (Ev.some _)
    | false => simp only [Bool.false_eq_true, if_false]; exact Ev.ret (Ev.some _)
theorem prod_small {a b : Int} (h1 : 1 ≤ a) (h2 : a ≤ 10) (h3 : 1 ≤ b) (h4 : b ≤ 9) : 1 ≤ a * b ∧ a * b ≤ 90 :=
  ⟨by have := Int.mul_le_mul h1 h3 (by omega) (by omega); omega, by have := Int.mul_le_mul h2 h4 (by omega) (by omega); omega⟩
theorem e_impl_IsBoard (b : BoardD) (hl : b.2.2.length ≤ 9223372036854775806) : Ev (fun k => f_impl_IsBoard k b) (boardOK b) := by
  refine Ev.succ ?_
  simp only [f_impl_IsBoard, ge_iff_le]
  have no : ∀ {c : Prop}, ¬ c → (boardOK b = true → c) → Option.some false = Option.some (boardOK b) := by
    intro c h1 h2
    cases hb : boardOK b with
    | true => exact absurd (h2 hb) h1
    | false => rfl
  have hb : boardOK b = true → 1 ≤ b.1 ∧ b.1 ≤ 10 ∧ 1 ≤ b.2.1 ∧ b.2.1 ≤ 9 ∧ (b.2.2.length : Int) = b.1 * b.2.1 := fun h => by
    unfold boardOK at h; simp only [Bool.and_eq_true, decide_eq_true_eq] at h; exact h.1
  refine Ev.ite (fun h1 => ?_) (fun h => Ev.of (no h (fun hh => by simpa using (hb hh).1)))
  refine Ev.ite (fun h2 => ?_) (fun h => Ev.of (no h (fun hh => by simpa using (hb hh).2.1)))
  refine Ev.ite (fun h3 => ?_) (fun h => Ev.of (no h (fun hh => by simpa using (hb hh).2.2.1)))
  refine Ev.ite (fun h4 => ?_) (fun h => Ev.of (no h (fun hh => by simpa using (hb hh).2.2.2.1)))
  simp only [decide_eq_true_eq] at h1 h2 h3 h4
  have hp := prod_small h1 h2 h3 h4
  rw [w64 (by omega) (by omega)]
  refine Ev.ite (fun h5 => ?_) (fun h => Ev.of (no h (fun hh => by simpa using (hb hh).2.2.2.2)))
  simp only [decide_eq_true_eq] at h5
  refine Ev.bind (e_impl_validCells _ hl) (Ev.of ?_)
  have h6 : b.2.2.length ≤ 90 := by omega
  congr 1
  simp only [boardOK, h1, h2, h3, h4, ← h5, h6, and_self, decide_true, Bool.true_and]
theorem e_spec_boGood_0 : ∀ (r pre : List CellD), (pre ++ r).length ≤ 9223372036854775806 → Ev (fun k => f_spec_boGood_0 k (pre ++ r) ((pre ++ r).length : Int) (pre.length : Int)) (if r.all cellOK then LR.go () else LR.ret false)
  | [], pre, hl => by
    refine Ev.succ ?_
    simp only [f_spec_boGood_0, nlt_end, decide_false, Bool.false_eq_true, if_false, List.all_nil, if_true]
    exact Ev.some _
  | x :: r, pre, hl => by
    have ih := e_spec_boGood_0 r (pre ++ [x]) (by simpa using hl)
    refine Ev.succ ?_
    simp only [f_spec_boGood_0, lt_mid, ge_mid, decide_true, if_true, Int.toNat_natCast, getD_mid]
    rw [next_mid pre x r (by omega)]
    rw [← shift_mid] at ih
    refine Ev.bind (e_spec_paGood x) ?_
    cases hx : cellOK x with
    | true => simp only [hx, List.all_cons, Bool.true_and, Bool.not_true, Bool.false_eq_true, if_false]; exact ih
    | false => simp only [hx, List.all_cons, Bool.false_and, Bool.not_false, if_true, Bool.false_eq_true, if_false]; exact Ev.some _
theorem e_spec_boGood (b : BoardD) (hl : b.2.2.length ≤ 9223372036854775806) : Ev (fun k => f_spec_boGood k b) (boardOK b) := by
  refine Ev.succ ?_
  simp only [f_spec_boGood]
  have no : ∀ {c : Prop}, ¬ c → (boardOK b = true → c) → Option.some false = Option.some (boardOK b) := by
    intro c h1 h2
    cases hb : boardOK b with
    | true => exact absurd (h2 hb) h1
    | false => rfl
  have hb : boardOK b = true → 1 ≤ b.1 ∧ b.1 ≤ 10 ∧ 1 ≤ b.2.1 ∧ b.2.1 ≤ 9 ∧ (b.2.2.length : Int) = b.1 * b.2.1 := fun h => by
    unfold boardOK at h; simp only [Bool.and_eq_true, decide_eq_true_eq] at h; exact h.1
  refine Ev.bind (e_spec_l1In _ _ _) (Ev.ite (fun h => Ev.of (no (c := 1 ≤ b.1 ∧ b.1 ≤ 10) (nd h) (fun hh => ⟨(hb hh).1, (hb hh).2.1⟩))) (fun h1 => ?_))
  refine Ev.bind (e_spec_l1In _ _ _) (Ev.ite (fun h => Ev.of (no (c := 1 ≤ b.2.1 ∧ b.2.1 ≤ 9) (nd h) (fun hh => ⟨(hb hh).2.2.1, (hb hh).2.2.2.1⟩))) (fun h2 => ?_))
  have h1' : 1 ≤ b.1 ∧ b.1 ≤ 10 := yd h1
  have h2' : 1 ≤ b.2.1 ∧ b.2.1 ≤ 9 := yd h2
  have hp := prod_small h1'.1 h1'.2 h2'.1 h2'.2
  rw [w64 (by omega) (by omega)]
  refine Ev.ite (fun h => Ev.of (no (c := (b.2.2.length : Int) = b.1 * b.2.1) (by simpa using h) (fun hh => (hb hh).2.2.2.2))) (fun h3 => ?_)
  have h3' : (b.2.2.length : Int) = b.1 * b.2.1 := by simpa using h3
  refine Ev.bind (e_spec_boGood_0 b.2.2 [] (by simpa using hl)) ?_
  have hx2 : boardOK b = b.2.2.all cellOK := by unfold boardOK; simp only [h1'.1, h1'.2, h2'.1, h2'.2, h3', and_self, decide_true, Bool.true_and]
  rw [hx2]
  cases hx : b.2.2.all cellOK with
  | true => simp only [if_true]; exact Ev.go (Ev.some _)
  | false => simp only [Bool.false_eq_true, if_false]; exact Ev.ret (Ev.some _)
/-- What a valid board is. -/
theorem board_ok {b : BoardD} (h : boardOK b = true) : 1 ≤ b.1 ∧ b.1 ≤ 10 ∧ 1 ≤ b.2.1 ∧ b.2.1 ≤ 9 ∧ (b.2.2.length : Int) = b.1 * b.2.1 ∧ ∀ x ∈ b.2.2, cellOK x = true := by
  unfold boardOK at h
  simp only [Bool.and_eq_true, decide_eq_true_eq] at h
  exact ⟨h.1.1, h.1.2.1, h.1.2.2.1, h.1.2.2.2.1, h.1.2.2.2.2, List.all_eq_true.1 h.2⟩
/-- A place on a valid board. -/
theorem place_ok {b : BoardD} (h : boardOK b = true) {r c : Int} (h1 : 0 ≤ r) (h2 : r < b.1) (h3 : 0 ≤ c) (h4 : c < b.2.1) : 0 ≤ r * b.2.1 + c ∧ r * b.2.1 + c < (b.2.2.length : Int) ∧ r * b.2.1 + c ≤ 90 ∧ 0 ≤ r * b.2.1 ∧ r * b.2.1 ≤ 90 := by
  obtain ⟨g1, g2, g3, g4, g5, _⟩ := board_ok h
  have hp := prod_small g1 g2 g3 g4
  have k1 : 0 ≤ r * b.2.1 := Int.mul_nonneg h1 (by omega)
  have k2 : (r + 1) * b.2.1 ≤ b.1 * b.2.1 := Int.mul_le_mul_of_nonneg_right (by omega) (by omega)
  rw [Int.add_mul, Int.one_mul] at k2
  omega
theorem cell_in {l : List CellD} {i : Int} (h0 : 0 ≤ i) (h1 : i < (l.length : Int)) (d : CellD) : List.getD l i.toNat d ∈ l := by
  have : i.toNat < l.length := by omega
  simp [List.getD, List.getElem?_eq_getElem this]

theorem e_laws_szBoard (b : BoardD) (n : Int) (h0 : 0 ≤ n) (h1 : n ≤ 1048576) (hl : b.2.2.length ≤ 9223372036854775807) : Ev (fun k => f_laws_szBoard k b n) (if n - b.2.2.length < 0 then -1 else n - b.2.2.length) := by
  refine Ev.succ ?_
  simp only [f_laws_szBoard]
  refine Ev.bind (e_laws_szCellS _ n h0 h1 hl) ?_
  by_cases h : n - (b.2.2.length : Int) < 0 <;> simp only [h, if_true, if_false]
  · exact Ev.some _
  · simp only [h, decide_false, Bool.false_eq_true, if_false]; exact Ev.some _
theorem e_laws_toBoard (b : BoardD) (hl : b.2.2.length ≤ 1048576) : Ev (fun k => f_laws_toBoard k b) b := by
  refine Ev.succ ?_
  simp only [f_laws_toBoard]
  exact Ev.bind (e_laws_toCellS _ hl) (Ev.some _)
theorem e_laws_eqBoard (b c : BoardD) (hl : b.2.2.length ≤ 9223372036854775806) : Ev (fun k => f_laws_eqBoard k b c) (decide (b = c)) := by
  obtain ⟨b1, b2, b3⟩ := b
  obtain ⟨c1, c2, c3⟩ := c
  refine Ev.succ ?_
  simp only [f_laws_eqBoard]
  by_cases h1 : b1 = c1
  · by_cases h2 : b2 = c2
    · simp only [h1, h2, ne_eq, not_true_eq_false, decide_false, Bool.false_eq_true, if_false]
      refine Ev.bind (e_laws_eqCellS b3 c3 hl) ?_
      by_cases h3 : b3 = c3
      · simp only [h3, decide_true, Bool.not_true, Bool.false_eq_true, if_false]; exact Ev.some _
      · simp only [h3, decide_false, Bool.not_false, if_true, Prod.mk.injEq, and_false]; exact Ev.some _
    · simp only [h1, h2, ne_eq, not_true_eq_false, decide_false, Bool.false_eq_true, if_false, not_false_eq_true, decide_true, if_true, Prod.mk.injEq, false_and, and_false]; exact Ev.some _
  · simp only [h1, ne_eq, not_false_eq_true, decide_true, if_true, Prod.mk.injEq, false_and, decide_false]; exact Ev.some _
end Go.Proofs.Ytjjlmnbmpgfcbaa.Vs

set_option linter.unusedVariables false
set_option linter.unusedSimpArgs false
namespace Go.Proofs.Ytjjlmnbmpgfcbaa.Vs
open Go.RowKit
def geared (x : CellD) : Bool := decide (x.1 = 6 ∨ x.1 = 7)
theorem e_impl_isGeared (x : CellD) : Ev (fun k => f_impl_isGeared k x) (geared x) := by
  refine Ev.succ ?_
  simp only [f_impl_isGeared]
  refine Ev.of ?_
  by_cases h1 : x.1 = 6 <;> simp [geared, h1]
theorem e_spec_ggGear (x : CellD) : Ev (fun k => f_spec_ggGear k x) (geared x) := by
  refine Ev.succ ?_
  simp only [f_spec_ggGear]
  refine Ev.of ?_
  by_cases h1 : x.1 = 6 <;> simp [geared, h1]
/-- The places beside a place. -/
def nears (b : BoardD) (i : Int) : List Int := (if 0 < Int.tdiv i b.2.1 then [i - b.2.1] else []) ++ (if 0 < Int.tmod i b.2.1 then [i - 1] else []) ++ (if Int.tmod i b.2.1 + 1 < b.2.1 then [i + 1] else []) ++ (if Int.tdiv i b.2.1 + 1 < b.1 then [i + b.2.1] else [])
theorem place_parts {b : BoardD} (hb : boardOK b = true) {i : Int} (h0 : 0 ≤ i) (h1 : i < (b.2.2.length : Int)) : ∃ q m t : Int, Int.tdiv i b.2.1 = q ∧ Int.tmod i b.2.1 = m ∧ i = t + m ∧ 0 ≤ m ∧ m < b.2.1 ∧ 0 ≤ q ∧ q < b.1 ∧ 0 ≤ t ∧ t + b.2.1 ≤ (b.2.2.length : Int) ∧ (1 ≤ q → b.2.1 ≤ t) ∧ (q + 1 < b.1 → t + b.2.1 + b.2.1 ≤ (b.2.2.length : Int)) := by
  obtain ⟨g1, g2, g3, g4, g5, g6⟩ := board_ok hb
  have hq : Int.tdiv i b.2.1 = i / b.2.1 := Int.tdiv_eq_ediv_of_nonneg h0
  have hm : Int.tmod i b.2.1 = i % b.2.1 := Int.tmod_eq_emod_of_nonneg h0
  have e1 := Int.mul_ediv_add_emod i b.2.1
  have e2 := Int.emod_nonneg i (show b.2.1 ≠ 0 by omega)
  have e3 := Int.emod_lt_of_pos i (show 0 < b.2.1 by omega)
  have e4 : 0 ≤ i / b.2.1 := Int.ediv_nonneg h0 (by omega)
  have e5 : i / b.2.1 < b.1 := Int.ediv_lt_of_lt_mul (by omega) (by rw [← g5]; exact h1)
  have e6 : 0 ≤ b.2.1 * (i / b.2.1) := Int.mul_nonneg (by omega) e4
  have e7 : b.2.1 * (i / b.2.1 + 1) ≤ b.2.1 * b.1 := Int.mul_le_mul_of_nonneg_left (by omega) (by omega)
  rw [Int.mul_add, Int.mul_one, Int.mul_comm b.2.1 b.1, ← g5] at e7
  refine ⟨_, _, b.2.1 * (i / b.2.1), hq, hm, by omega, e2, e3, e4, e5, e6, e7, fun h => ?_, fun h => ?_⟩
  · have := Int.mul_le_mul_of_nonneg_left h (show 0 ≤ b.2.1 by omega)
    omega
  · have e8 : b.2.1 * (i / b.2.1 + 2) ≤ b.2.1 * b.1 := Int.mul_le_mul_of_nonneg_left (by omega) (by omega)
    rw [Int.mul_add, Int.mul_comm b.2.1 b.1, ← g5] at e8
    omega
theorem nears_in {b : BoardD} (hb : boardOK b = true) {i : Int} (h0 : 0 ≤ i) (h1 : i < (b.2.2.length : Int)) : ∀ n ∈ nears b i, 0 ≤ n ∧ n < (b.2.2.length : Int) := by
  obtain ⟨q, m, t, hq, hm, k1, k2, k3, k4, k5, k6, k7, k8, k9⟩ := place_parts hb h0 h1
  intro n hn
  unfold nears at hn
  rw [hq, hm] at hn
  simp only [List.mem_append] at hn
  rcases hn with ((hn | hn) | hn) | hn
  · split at hn
    · have := List.mem_singleton.1 hn; have := k8 (by omega); omega
    · cases hn
  · split at hn
    · have := List.mem_singleton.1 hn; omega
    · cases hn
  · split at hn
    · have := List.mem_singleton.1 hn; omega
    · cases hn
  · split at hn
    · have := List.mem_singleton.1 hn; have := k9 (by omega); omega
    · cases hn
theorem nears_len (b : BoardD) (i : Int) : (nears b i).length ≤ 4 := by
  unfold nears
  simp only [List.length_append]
  have h1 : ∀ (c : Prop) [Decidable c] (x : Int), (if c then [x] else []).length ≤ 1 := by intro c _ x; split <;> simp
  have a1 := h1 (0 < Int.tdiv i b.2.1) (i - b.2.1)
  have a2 := h1 (0 < Int.tmod i b.2.1) (i - 1)
  have a3 := h1 (Int.tmod i b.2.1 + 1 < b.2.1) (i + 1)
  have a4 := h1 (Int.tdiv i b.2.1 + 1 < b.1) (i + b.2.1)
  omega
theorem e_impl_besideOf (b : BoardD) (hb : boardOK b = true) (i : Int) (h0 : 0 ≤ i) (h1 : i < (b.2.2.length : Int)) : Ev (fun k => f_impl_besideOf k b i) (nears b i) := by
  obtain ⟨g1, g2, g3, g4, g5, g6⟩ := board_ok hb
  have hp := prod_small g1 g2 g3 g4
  obtain ⟨q, m, t, hq, hm, k1, k2, k3, k4, k5, k6, k7, k8, k9⟩ := place_parts hb h0 h1
  have hC : ¬ b.2.1 = 0 := by omega
  refine Ev.succ ?_
  simp only [f_impl_besideOf, hC, if_false, nears, hq, hm, gt_iff_lt]
  rw [w64 (n := q) (by omega) (by omega), w64 (n := q + 1) (by omega) (by omega), w64 (n := m + 1) (by omega) (by omega), w64 (n := i - b.2.1) (by omega) (by omega), w64 (n := i - 1) (by omega) (by omega), w64 (n := i + 1) (by omega) (by omega), w64 (n := i + b.2.1) (by omega) (by omega)]
  refine Ev.of ?_
  by_cases h1 : 0 < q <;> by_cases h2 : 0 < m <;> by_cases h3 : m + 1 < b.2.1 <;> by_cases h4 : q + 1 < b.1 <;> simp [h1, h2, h3, h4]
theorem e_spec_ggNear (b : BoardD) (hb : boardOK b = true) (i : Int) (h0 : 0 ≤ i) (h1 : i < (b.2.2.length : Int)) : Ev (fun k => f_spec_ggNear k b i) (nears b i) := by
  obtain ⟨g1, g2, g3, g4, g5, g6⟩ := board_ok hb
  have hp := prod_small g1 g2 g3 g4
  obtain ⟨q, m, t, hq, hm, k1, k2, k3, k4, k5, k6, k7, k8, k9⟩ := place_parts hb h0 h1
  have hC : ¬ b.2.1 = 0 := by omega
  refine Ev.succ ?_
  simp only [f_spec_ggNear, hC, if_false, nears, hq, hm, gt_iff_lt]
  rw [w64 (n := q) (by omega) (by omega), w64 (n := q + 1) (by omega) (by omega), w64 (n := m + 1) (by omega) (by omega), w64 (n := i - b.2.1) (by omega) (by omega), w64 (n := i - 1) (by omega) (by omega), w64 (n := i + 1) (by omega) (by omega), w64 (n := i + b.2.1) (by omega) (by omega)]
  refine Ev.of ?_
  by_cases h1 : 0 < q <;> by_cases h2 : 0 < m <;> by_cases h3 : m + 1 < b.2.1 <;> by_cases h4 : q + 1 < b.1 <;> simp [h1, h2, h3, h4]
/-! ### One wave -/
def visit (b : BoardD) (v : Int) (G : List Int × List Int) (n : Int) : List Int × List Int := if geared (List.getD b.2.2 n.toNat (0, 0)) && decide (List.getD G.1 n.toNat 0 < 0) then (List.set G.1 n.toNat v, G.2 ++ [n]) else G
/-- How many have no number yet. -/
def unl (l : List Int) : Nat := l.countP fun x => decide (x < 0)
theorem unl_set (v : Int) (hv : 0 ≤ v) : ∀ (l : List Int) (i : Nat), i < l.length → List.getD l i 0 < 0 → unl (l.set i v) + 1 = unl l
  | [], i, h, _ => by simp at h
  | x :: l, 0, _, h => by
    have h' : x < 0 := by simpa using h
    have : ¬ v < 0 := by omega
    simp [unl, h', this]
  | x :: l, i + 1, h, h2 => by
    have ih := unl_set v hv l i (by simpa using h) (by simpa using h2)
    simp only [unl, List.set_cons_succ, List.countP_cons] at ih ⊢
    omega
theorem unl_len (l : List Int) : unl l ≤ l.length := List.countP_le_length
theorem visit_len (b : BoardD) (v : Int) (G : List Int × List Int) (n : Int) : (visit b v G n).1.length = G.1.length := by
  unfold visit; split <;> simp
theorem visits_len (b : BoardD) (v : Int) : ∀ (r : List Int) (G : List Int × List Int), (r.foldl (visit b v) G).1.length = G.1.length
  | [], G => rfl
  | n :: r, G => by rw [List.foldl_cons, visits_len b v r, visit_len]
theorem visit_unl (b : BoardD) (v : Int) (hv : 0 ≤ v) (G : List Int × List Int) (n : Int) (h0 : 0 ≤ n) (h1 : n < (G.1.length : Int)) : unl (visit b v G n).1 + (visit b v G n).2.length = unl G.1 + G.2.length := by
  unfold visit
  split
  · rename_i hc
    simp only [Bool.and_eq_true, decide_eq_true_eq] at hc
    have := unl_set v hv G.1 n.toNat (by omega) hc.2
    simp only [List.length_append, List.length_singleton]
    omega
  · rfl
theorem visits_unl (b : BoardD) (v : Int) (hv : 0 ≤ v) : ∀ (r : List Int) (G : List Int × List Int), (∀ n ∈ r, 0 ≤ n ∧ n < (G.1.length : Int)) → unl (r.foldl (visit b v) G).1 + (r.foldl (visit b v) G).2.length = unl G.1 + G.2.length
  | [], G, _ => rfl
  | n :: r, G, h => by
    rw [List.foldl_cons, visits_unl b v hv r _ (fun m hm => by rw [visit_len]; exact h m (List.mem_cons_of_mem _ hm))]
    exact visit_unl b v hv G n (h n (List.mem_cons_self ..)).1 (h n (List.mem_cons_self ..)).2
theorem visits_app (b : BoardD) (v : Int) : ∀ (r : List Int) (o2 o3 a : List Int), (r.foldl (visit b v) (o2, o3 ++ a)) = ((r.foldl (visit b v) (o2, a)).1, o3 ++ (r.foldl (visit b v) (o2, a)).2)
  | [], o2, o3, a => rfl
  | n :: r, o2, o3, a => by
    simp only [List.foldl_cons]
    by_cases hc : (geared (List.getD b.2.2 n.toNat (0, 0)) && decide (List.getD o2 n.toNat 0 < 0)) = true
    · have e1 : visit b v (o2, o3 ++ a) n = (List.set o2 n.toNat v, o3 ++ (a ++ [n])) := by simp only [visit]; rw [if_pos hc, List.append_assoc]
      have e2 : visit b v (o2, a) n = (List.set o2 n.toNat v, a ++ [n]) := by simp only [visit]; rw [if_pos hc]
      rw [e1, e2]
      exact visits_app b v r _ o3 _
    · have e1 : visit b v (o2, o3 ++ a) n = (o2, o3 ++ a) := by simp only [visit]; rw [if_neg hc]
      have e2 : visit b v (o2, a) n = (o2, a) := by simp only [visit]; rw [if_neg hc]
      rw [e1, e2]
      exact visits_app b v r o2 o3 a
theorem visits_mem (b : BoardD) (v : Int) (P : Int → Prop) : ∀ (r : List Int) (G : List Int × List Int), (∀ n ∈ r, P n) → (∀ n ∈ G.2, P n) → ∀ n ∈ (r.foldl (visit b v) G).2, P n
  | [], G, _, h => h
  | m :: r, G, h, hg => by
    rw [List.foldl_cons]
    refine visits_mem b v P r _ (fun n hn => h n (List.mem_cons_of_mem _ hn)) (fun n hn => ?_)
    unfold visit at hn
    split at hn
    · rcases List.mem_append.1 hn with hn | hn
      · exact hg n hn
      · rw [List.mem_singleton.1 hn]; exact h m (List.mem_cons_self ..)
    · exact hg n hn
theorem e_impl_groupNumbers_6 (b : BoardD) (hb : boardOK b = true) (v : Int) (hv : 0 ≤ v) (v26 : List CellD) (v27 v28 : Int) : ∀ (r pre o2 o3 : List Int), (∀ n ∈ r, 0 ≤ n ∧ n < (b.2.2.length : Int)) → (pre ++ r).length ≤ 100 → o2.length = b.2.2.length → o3.length + unl o2 ≤ 1000 →
    Ev (fun k => f_impl_groupNumbers_6 k b.1 b.2.1 b.2.2 o2 o3 (pre ++ r) v  v26 v27 v28 ((pre ++ r).length : Int) (pre.length : Int)) (b.1, b.2.1, b.2.2, (r.foldl (visit b v) (o2, o3)).1, (r.foldl (visit b v) (o2, o3)).2, v, v26, v27, v28)
  | [], pre, o2, o3, hr, hl, h2, h3 => by
    refine Ev.succ ?_
    simp only [f_impl_groupNumbers_6, nlt_end, decide_false, Bool.false_eq_true, if_false]
    exact Ev.some _
  | x :: r, pre, o2, o3, hr, hl, h2, h3 => by
    obtain ⟨hx0, hx1⟩ := hr x (List.mem_cons_self ..)
    have hx2 : x < (o2.length : Int) := by omega
    have hr' : ∀ n ∈ r, 0 ≤ n ∧ n < (b.2.2.length : Int) := fun n hn => hr n (List.mem_cons_of_mem _ hn)
    have ih0 := e_impl_groupNumbers_6 b hb v hv  v26 v27 v28 r (pre ++ [x]) o2 o3 hr' (by simpa using hl) h2 h3
    rw [← shift_mid] at ih0
    have hn := next_mid pre x r (by omega)
    refine Ev.succ ?_
    simp only [f_impl_groupNumbers_6, lt_mid, ge_mid, decide_true, if_true, Int.toNat_natCast, getD_mid, hn, hx0, hx1, hx2]
    refine Ev.bind (e_impl_isGeared (List.getD b.2.2 x.toNat (0, 0))) ?_
    rw [List.foldl_cons]
    by_cases hg : geared (List.getD b.2.2 x.toNat (0, 0)) = true
    · simp only [hg, if_true]
      by_cases ho : List.getD o2 x.toNat 0 < 0
      · have e1 : visit b v (o2, o3) x = (List.set o2 x.toNat v, o3 ++ [x]) := by unfold visit; rw [if_pos (by simp only [hg, ho, decide_true, Bool.and_self])]
        have hu := unl_set v hv o2 x.toNat (by omega) ho
        have hle : o3.length + 1 ≤ 140737488355328 / 8 := by omega
        have ih := e_impl_groupNumbers_6 b hb v hv  v26 v27 v28 r (pre ++ [x]) (List.set o2 x.toNat v) (o3 ++ [x]) hr' (by simpa using hl) (by simpa using h2) (by simp; omega)
        rw [← shift_mid] at ih
        simp only [ho, decide_true, if_true, List.length_singleton, hle]
        rw [e1]
        exact ih
      · have e1 : visit b v (o2, o3) x = (o2, o3) := by unfold visit; rw [if_neg (by simp only [ho, decide_false, Bool.and_false, Bool.false_eq_true, not_false_eq_true])]
        simp only [ho, decide_false, Bool.false_eq_true, if_false]
        rw [e1]
        exact ih0
    · have e1 : visit b v (o2, o3) x = (o2, o3) := by unfold visit; rw [if_neg (by simp only [hg, Bool.false_and, Bool.false_eq_true, not_false_eq_true])]
      simp only [hg, Bool.false_eq_true, if_false]
      rw [e1]
      exact ih0
theorem e_spec_ggGroups_6 (b : BoardD) (hb : boardOK b = true) (v : Int) (hv : 0 ≤ v) (v9 : Int) (v26 : List CellD) (v27 v28 : Int) : ∀ (r pre o2 o3 : List Int), (∀ n ∈ r, 0 ≤ n ∧ n < (b.2.2.length : Int)) → (pre ++ r).length ≤ 100 → o2.length = b.2.2.length → o3.length + unl o2 ≤ 1000 →
    Ev (fun k => f_spec_ggGroups_6 k b.1 b.2.1 b.2.2 o2 o3 (pre ++ r) v v9 v26 v27 v28 ((pre ++ r).length : Int) (pre.length : Int)) (b.1, b.2.1, b.2.2, (r.foldl (visit b v) (o2, o3)).1, (r.foldl (visit b v) (o2, o3)).2, v, v9, v26, v27, v28)
  | [], pre, o2, o3, hr, hl, h2, h3 => by
    refine Ev.succ ?_
    simp only [f_spec_ggGroups_6, nlt_end, decide_false, Bool.false_eq_true, if_false]
    exact Ev.some _
  | x :: r, pre, o2, o3, hr, hl, h2, h3 => by
    obtain ⟨hx0, hx1⟩ := hr x (List.mem_cons_self ..)
    have hx2 : x < (o2.length : Int) := by omega
    have hr' : ∀ n ∈ r, 0 ≤ n ∧ n < (b.2.2.length : Int) := fun n hn => hr n (List.mem_cons_of_mem _ hn)
    have ih0 := e_spec_ggGroups_6 b hb v hv v9 v26 v27 v28 r (pre ++ [x]) o2 o3 hr' (by simpa using hl) h2 h3
    rw [← shift_mid] at ih0
    have hn := next_mid pre x r (by omega)
    refine Ev.succ ?_
    simp only [f_spec_ggGroups_6, lt_mid, ge_mid, decide_true, if_true, Int.toNat_natCast, getD_mid, hn, hx0, hx1, hx2]
    refine Ev.bind (e_spec_ggGear (List.getD b.2.2 x.toNat (0, 0))) ?_
    rw [List.foldl_cons]
    by_cases hg : geared (List.getD b.2.2 x.toNat (0, 0)) = true
    · simp only [hg, if_true]
      by_cases ho : List.getD o2 x.toNat 0 < 0
      · have e1 : visit b v (o2, o3) x = (List.set o2 x.toNat v, o3 ++ [x]) := by unfold visit; rw [if_pos (by simp only [hg, ho, decide_true, Bool.and_self])]
        have hu := unl_set v hv o2 x.toNat (by omega) ho
        have hle : o3.length + 1 ≤ 140737488355328 / 8 := by omega
        have ih := e_spec_ggGroups_6 b hb v hv v9 v26 v27 v28 r (pre ++ [x]) (List.set o2 x.toNat v) (o3 ++ [x]) hr' (by simpa using hl) (by simpa using h2) (by simp; omega)
        rw [← shift_mid] at ih
        simp only [ho, decide_true, if_true, List.length_singleton, hle]
        rw [e1]
        exact ih
      · have e1 : visit b v (o2, o3) x = (o2, o3) := by unfold visit; rw [if_neg (by simp only [ho, decide_false, Bool.and_false, Bool.false_eq_true, not_false_eq_true])]
        simp only [ho, decide_false, Bool.false_eq_true, if_false]
        rw [e1]
        exact ih0
    · have e1 : visit b v (o2, o3) x = (o2, o3) := by unfold visit; rw [if_neg (by simp only [hg, Bool.false_and, Bool.false_eq_true, not_false_eq_true])]
      simp only [hg, Bool.false_eq_true, if_false]
      rw [e1]
      exact ih0
/-- Waves, as long as there are places to look at. -/
def bfs (b : BoardD) (v : Int) : Nat → List Int → List Int → List Int
  | 0, o2, _ => o2
  | _ + 1, o2, [] => o2
  | n + 1, o2, x :: q => bfs b v n ((nears b x).foldl (visit b v) (o2, [])).1 (q ++ ((nears b x).foldl (visit b v) (o2, [])).2)
theorem bfs_len (b : BoardD) (v : Int) : ∀ (n : Nat) (o2 q : List Int), (bfs b v n o2 q).length = o2.length
  | 0, o2, _ => rfl
  | _ + 1, o2, [] => rfl
  | n + 1, o2, x :: q => by simp only [bfs]; rw [bfs_len b v n, visits_len]
theorem e_impl_groupNumbers_4 (b : BoardD) (hb : boardOK b = true) (v : Int) (hv : 0 ≤ v) (v26 : List CellD) (v27 v28 : Int) : ∀ (n : Nat) (o2 q : List Int), (∀ m ∈ q, 0 ≤ m ∧ m < (b.2.2.length : Int)) → o2.length = b.2.2.length → unl o2 + q.length + 1 ≤ n → q.length + unl o2 ≤ 1000 →
    Ev (fun k => f_impl_groupNumbers_4 k b.1 b.2.1 b.2.2 o2 q v v26 v27 v28) (b.1, b.2.1, b.2.2, bfs b v n o2 q, v, v26, v27, v28)
  | 0, o2, q, hq, h2, hn, hm => by omega
  | n + 1, o2, [], hq, h2, hn, hm => by
    refine Ev.succ ?_
    simp only [f_impl_groupNumbers_4, List.length_nil]
    have : ¬ ((0 : Nat) : Int) > 0 := by omega
    simp only [this, decide_false, Bool.false_eq_true, if_false]
    exact Ev.some _
  | n + 1, o2, x :: q, hq, h2, hn, hm => by
    obtain ⟨hx0, hx1⟩ := hq x (List.mem_cons_self ..)
    have hlen : (((x :: q).length : Nat) : Int) > 0 := by simp only [List.length_cons]; omega
    have hlen1 : (1 : Int) ≤ (((x :: q).length : Nat) : Int) := by omega
    have hlen0 : (0 : Int) < (((x :: q).length : Nat) : Int) := by omega
    have hin := nears_in hb hx0 hx1
    have hun := visits_unl b v hv (nears b x) (o2, []) (fun m hm => by rw [h2]; exact hin m hm)
    simp only [List.length_nil, Nat.add_zero] at hun
    simp only [List.length_cons] at hn hm
    refine Ev.succ ?_
    simp only [f_impl_groupNumbers_4, hlen, hlen1, hlen0, Int.le_refl, decide_true, if_true]
    refine Ev.bind (e_impl_besideOf b hb x hx0 hx1) ?_
    have h6 := e_impl_groupNumbers_6 b hb v hv v26 v27 v28 (nears b x) [] o2 q hin (by have := nears_len b x; simp; omega) h2 (by omega)
    refine Ev.bind h6 ?_
    have happ := visits_app b v (nears b x) o2 q []
    rw [List.append_nil] at happ
    rw [happ]
    show Ev (fun k => f_impl_groupNumbers_4 k b.1 b.2.1 b.2.2 (List.foldl (visit b v) (o2, []) (nears b x)).1 (q ++ (List.foldl (visit b v) (o2, []) (nears b x)).2) v v26 v27 v28) _
    exact e_impl_groupNumbers_4 b hb v hv v26 v27 v28 n _ _ (fun m hm => by
      rcases List.mem_append.1 hm with hm | hm
      · exact hq m (List.mem_cons_of_mem _ hm)
      · exact visits_mem b v (fun m => 0 ≤ m ∧ m < (b.2.2.length : Int)) (nears b x) (o2, []) hin (fun m hm => by cases hm) m hm) (by rw [visits_len]; exact h2) (by rw [List.length_append]; omega) (by rw [List.length_append]; omega)
theorem e_spec_ggGroups_4 (b : BoardD) (hb : boardOK b = true) (v : Int) (hv : 0 ≤ v) (v26 : List CellD) (v27 v28 : Int) : ∀ (n : Nat) (o2 q pre : List Int), (∀ m ∈ q, 0 ≤ m ∧ m < (b.2.2.length : Int)) → o2.length = b.2.2.length → unl o2 + q.length + 1 ≤ n → (pre ++ q).length + unl o2 ≤ 1000 →
    Ev (fun k => f_spec_ggGroups_4 k b.1 b.2.1 b.2.2 o2 (pre ++ q) v (pre.length : Int) v26 v27 v28) (b.1, b.2.1, b.2.2, bfs b v n o2 q, v, v26, v27, v28)
  | 0, o2, q, pre, hq, h2, hn, hm => by omega
  | n + 1, o2, [], pre, hq, h2, hn, hm => by
    refine Ev.succ ?_
    simp only [f_spec_ggGroups_4, nlt_end, decide_false, Bool.false_eq_true, if_false]
    exact Ev.some _
  | n + 1, o2, x :: q, pre, hq, h2, hn, hm => by
    obtain ⟨hx0, hx1⟩ := hq x (List.mem_cons_self ..)
    have hin := nears_in hb hx0 hx1
    have hun := visits_unl b v hv (nears b x) (o2, []) (fun m hm => by rw [h2]; exact hin m hm)
    simp only [List.length_nil, Nat.add_zero] at hun
    have hm' := hm
    simp only [List.length_cons, List.length_append] at hn hm'
    refine Ev.succ ?_
    simp only [f_spec_ggGroups_4, lt_mid, ge_mid, decide_true, if_true, Int.toNat_natCast, getD_mid]
    refine Ev.bind (e_spec_ggNear b hb x hx0 hx1) ?_
    have h6 := e_spec_ggGroups_6 b hb v hv (pre.length : Int) v26 v27 v28 (nears b x) [] o2 (pre ++ x :: q) hin (by have := nears_len b x; simp; omega) h2 hm
    refine Ev.bind h6 ?_
    have happ := visits_app b v (nears b x) o2 (pre ++ x :: q) []
    rw [List.append_nil] at happ
    rw [happ]
    show Ev (fun k => f_spec_ggGroups_4 k b.1 b.2.1 b.2.2 (List.foldl (visit b v) (o2, []) (nears b x)).1 ((pre ++ x :: q) ++ (List.foldl (visit b v) (o2, []) (nears b x)).2) v (wrap64 ((pre.length : Int) + 1)) v26 v27 v28) _
    rw [next_mid pre x q (by simp; omega), shift_mid, List.append_assoc]
    exact e_spec_ggGroups_4 b hb v hv v26 v27 v28 n _ _ (pre ++ [x]) (fun m hm => by
      rcases List.mem_append.1 hm with hm | hm
      · exact hq m (List.mem_cons_of_mem _ hm)
      · exact visits_mem b v (fun m => 0 ≤ m ∧ m < (b.2.2.length : Int)) (nears b x) (o2, []) hin (fun m hm => by cases hm) m hm) (by rw [visits_len]; exact h2) (by rw [List.length_append]; omega) (by simp only [List.length_append, List.length_singleton]; omega)
/-! ### All groups -/
def groupsFrom (b : BoardD) : Int → List CellD → List Int → Int → List Int
  | _, [], o2, _ => o2
  | i, x :: r, o2, v => if geared x && decide (List.getD o2 i.toNat 0 < 0) then groupsFrom b (i + 1) r (bfs b v 200 (List.set o2 i.toNat v) [i]) (v + 1) else groupsFrom b (i + 1) r o2 v
theorem groupsFrom_len (b : BoardD) : ∀ (r : List CellD) (i : Int) (o2 : List Int) (v : Int), (groupsFrom b i r o2 v).length = o2.length
  | [], _, _, _ => rfl
  | x :: r, i, o2, v => by
    simp only [groupsFrom]
    split
    · rw [groupsFrom_len b r, bfs_len, List.length_set]
    · exact groupsFrom_len b r _ _ _
def groupsOf (b : BoardD) : List Int := groupsFrom b 0 b.2.2 (List.replicate b.2.2.length (-1)) 0
theorem groupsOf_len (b : BoardD) : (groupsOf b).length = b.2.2.length := by unfold groupsOf; rw [groupsFrom_len]; simp
theorem e_impl_groupNumbers_0 (b : BoardD) (m : Int) : ∀ (r pre : List Int), m = ((pre ++ r).length : Int) → (pre ++ r).length ≤ 1000 → Ev (fun k => f_impl_groupNumbers_0 k b.1 b.2.1 b.2.2 (pre ++ r) m (pre.length : Int)) (b.1, b.2.1, b.2.2, pre ++ List.replicate r.length (-1))
  | [], pre, hm, hl => by
    refine Ev.succ ?_
    have : ¬ (pre.length : Int) < m := by rw [hm]; exact nlt_end pre
    simp only [f_impl_groupNumbers_0, this, decide_false, Bool.false_eq_true, if_false]
    exact Ev.of (by simp)
  | x :: r, pre, hm, hl => by
    have ih := e_impl_groupNumbers_0 b m r (pre ++ [-1]) (by rw [hm]; simp) (by simpa using hl)
    have hlt : (pre.length : Int) < m := by rw [hm]; exact lt_mid _ _ _
    have hn2 : ((pre ++ [x]).length : Int) = ((pre ++ [(-1 : Int)]).length : Int) := by simp
    refine Ev.succ ?_
    simp only [f_impl_groupNumbers_0, hlt, lt_mid, ge_mid, decide_true, if_true, Int.toNat_natCast, set_mid]
    rw [next_mid pre x r (by omega), hn2]
    rw [← shift_mid] at ih
    refine ih.congr ?_
    simp [List.replicate_succ]
theorem e_impl_groupNumbers_2 (b : BoardD) (hb : boardOK b = true) : ∀ (r pre : List CellD) (o2 : List Int) (v : Int), pre ++ r = b.2.2 → o2.length = b.2.2.length → 0 ≤ v → v ≤ pre.length → Ev (fun k => f_impl_groupNumbers_2 k b.1 b.2.1 b.2.2 o2 v (pre ++ r) ((pre ++ r).length : Int) (pre.length : Int)) (groupsFrom b pre.length r o2 v)
  | [], pre, o2, v, hpr, h2, hv, hv2 => by
    refine Ev.succ ?_
    simp only [f_impl_groupNumbers_2, nlt_end, decide_false, Bool.false_eq_true, if_false]
    exact Ev.some _
  | x :: r, pre, o2, v, hpr, h2, hv, hv2 => by
    obtain ⟨g1, g2, g3, g4, g5, g6⟩ := board_ok hb
    have hp := prod_small g1 g2 g3 g4
    have hl90 : (pre ++ x :: r).length ≤ 90 := by rw [hpr]; omega
    have hn := next_mid pre x r (by omega)
    have hc : ((pre ++ [x]).length : Int) = (pre.length : Int) + 1 := by simp
    have hlt := lt_mid pre x r
    have hlo : (pre.length : Int) < (o2.length : Int) := by rw [h2, ← hpr]; exact hlt
    have ih0 := e_impl_groupNumbers_2 b hb r (pre ++ [x]) o2 v (by rw [← hpr]; simp) h2 hv (by simp; omega)
    rw [← shift_mid, hc] at ih0
    refine Ev.succ ?_
    simp only [f_impl_groupNumbers_2, lt_mid, ge_mid, decide_true, if_true, Int.toNat_natCast, getD_mid, hn, hc, hlo]
    refine Ev.bind (e_impl_isGeared x) ?_
    cases hg : geared x with
    | false =>
      simp only [Bool.not_false, if_true, groupsFrom, hg, Bool.false_and, Bool.false_eq_true, if_false]
      exact ih0
    | true =>
      simp only [Bool.not_true, Bool.false_eq_true, if_false]
      refine Ev.ite (fun h => ?_) (fun h => ?_)
      · simp only [ge_iff_le, decide_eq_true_eq] at h
        have hno : ¬ List.getD o2 pre.length 0 < 0 := by omega
        simp only [groupsFrom, hg, Int.toNat_natCast, hno, decide_false, Bool.and_false, Bool.false_eq_true, if_false]
        exact ih0
      · simp only [ge_iff_le, decide_eq_true_eq] at h
        have hno : List.getD o2 pre.length 0 < 0 := by omega
        have hul := unl_len (List.set o2 pre.length v)
        rw [List.length_set, h2, ← hpr] at hul
        have h4 := e_impl_groupNumbers_4 b hb v hv (pre ++ x :: r) ((pre ++ x :: r).length : Int) (pre.length : Int) 200 (List.set o2 pre.length v) [(pre.length : Int)] (fun m hm => by rw [List.mem_singleton.1 hm, ← hpr]; exact ⟨by omega, hlt⟩) (by rw [List.length_set]; exact h2) (by simp; omega) (by simp; omega)
        refine Ev.bind h4 ?_
        have ih := e_impl_groupNumbers_2 b hb r (pre ++ [x]) (bfs b v 200 (List.set o2 pre.length v) [(pre.length : Int)]) (v + 1) (by rw [← hpr]; simp) (by rw [bfs_len, List.length_set]; exact h2) (by omega) (by simp; omega)
        rw [← shift_mid, hc] at ih
        show Ev (fun k => f_impl_groupNumbers_2 k b.1 b.2.1 b.2.2 (bfs b v 200 (List.set o2 pre.length v) [(pre.length : Int)]) (wrap64 (v + 1)) (pre ++ x :: r) ((pre ++ x :: r).length : Int) (wrap64 ((pre.length : Int) + 1))) _
        rw [w64 (n := v + 1) (by omega) (by omega), hn, hc]
        simp only [groupsFrom, hg, Int.toNat_natCast, hno, decide_true, Bool.and_self, if_true]
        exact ih
theorem e_impl_groupNumbers (b : BoardD) (hb : boardOK b = true) : Ev (fun k => f_impl_groupNumbers k b) (groupsOf b) := by
  obtain ⟨g1, g2, g3, g4, g5, g6⟩ := board_ok hb
  have hp := prod_small g1 g2 g3 g4
  have hm : b.2.2.length * 8 ≤ 281474976710656 := by omega
  refine Ev.succ ?_
  simp only [f_impl_groupNumbers, Int.toNat_natCast, hm, if_true]
  refine Ev.bind (e_impl_groupNumbers_0 b _ (List.replicate b.2.2.length 0) [] rfl (by simp; omega)) ?_
  have hrep : ([] : List Int) ++ List.replicate (List.replicate b.2.2.length (0 : Int)).length (-1) = List.replicate b.2.2.length (-1) := by simp
  rw [hrep]
  exact Ev.bind (e_impl_groupNumbers_2 b hb b.2.2 [] (List.replicate b.2.2.length (-1)) 0 rfl (by simp) (by omega) (by simp)) (Ev.some _)
theorem e_spec_ggGroups_0 (b : BoardD) (m : Int) : ∀ (r pre : List Int), m = ((pre ++ r).length : Int) → (pre ++ r).length ≤ 1000 → Ev (fun k => f_spec_ggGroups_0 k b.1 b.2.1 b.2.2 (pre ++ r) m (pre.length : Int)) (b.1, b.2.1, b.2.2, pre ++ List.replicate r.length (-1))
  | [], pre, hm, hl => by
    refine Ev.succ ?_
    have : ¬ (pre.length : Int) < m := by rw [hm]; exact nlt_end pre
    simp only [f_spec_ggGroups_0, this, decide_false, Bool.false_eq_true, if_false]
    exact Ev.of (by simp)
  | x :: r, pre, hm, hl => by
    have ih := e_spec_ggGroups_0 b m r (pre ++ [-1]) (by rw [hm]; simp) (by simpa using hl)
    have hlt : (pre.length : Int) < m := by rw [hm]; exact lt_mid _ _ _
    have hn2 : ((pre ++ [x]).length : Int) = ((pre ++ [(-1 : Int)]).length : Int) := by simp
    refine Ev.succ ?_
    simp only [f_spec_ggGroups_0, hlt, lt_mid, ge_mid, decide_true, if_true, Int.toNat_natCast, set_mid]
    rw [next_mid pre x r (by omega), hn2]
    rw [← shift_mid] at ih
    refine ih.congr ?_
    simp [List.replicate_succ]
theorem e_spec_ggGroups_2 (b : BoardD) (hb : boardOK b = true) : ∀ (r pre : List CellD) (o2 : List Int) (v : Int), pre ++ r = b.2.2 → o2.length = b.2.2.length → 0 ≤ v → v ≤ pre.length → Ev (fun k => f_spec_ggGroups_2 k b.1 b.2.1 b.2.2 o2 v (pre ++ r) ((pre ++ r).length : Int) (pre.length : Int)) (groupsFrom b pre.length r o2 v)
  | [], pre, o2, v, hpr, h2, hv, hv2 => by
    refine Ev.succ ?_
    simp only [f_spec_ggGroups_2, nlt_end, decide_false, Bool.false_eq_true, if_false]
    exact Ev.some _
  | x :: r, pre, o2, v, hpr, h2, hv, hv2 => by
    obtain ⟨g1, g2, g3, g4, g5, g6⟩ := board_ok hb
    have hp := prod_small g1 g2 g3 g4
    have hl90 : (pre ++ x :: r).length ≤ 90 := by rw [hpr]; omega
    have hn := next_mid pre x r (by omega)
    have hc : ((pre ++ [x]).length : Int) = (pre.length : Int) + 1 := by simp
    have hlt := lt_mid pre x r
    have hlo : (pre.length : Int) < (o2.length : Int) := by rw [h2, ← hpr]; exact hlt
    have ih0 := e_spec_ggGroups_2 b hb r (pre ++ [x]) o2 v (by rw [← hpr]; simp) h2 hv (by simp; omega)
    rw [← shift_mid, hc] at ih0
    refine Ev.succ ?_
    simp only [f_spec_ggGroups_2, lt_mid, ge_mid, decide_true, if_true, Int.toNat_natCast, getD_mid, hn, hc, hlo]
    refine Ev.bind (e_spec_ggGear x) ?_
    cases hg : geared x with
    | false =>
      simp only [Bool.not_false, if_true, groupsFrom, hg, Bool.false_and, Bool.false_eq_true, if_false]
      exact ih0
    | true =>
      simp only [Bool.not_true, Bool.false_eq_true, if_false]
      refine Ev.ite (fun h => ?_) (fun h => ?_)
      · simp only [ge_iff_le, decide_eq_true_eq] at h
        have hno : ¬ List.getD o2 pre.length 0 < 0 := by omega
        simp only [groupsFrom, hg, Int.toNat_natCast, hno, decide_false, Bool.and_false, Bool.false_eq_true, if_false]
        exact ih0
      · simp only [ge_iff_le, decide_eq_true_eq] at h
        have hno : List.getD o2 pre.length 0 < 0 := by omega
        have hul := unl_len (List.set o2 pre.length v)
        rw [List.length_set, h2, ← hpr] at hul
        have h4 := e_spec_ggGroups_4 b hb v hv (pre ++ x :: r) ((pre ++ x :: r).length : Int) (pre.length : Int) 200 (List.set o2 pre.length v) [(pre.length : Int)] [] (fun m hm => by rw [List.mem_singleton.1 hm, ← hpr]; exact ⟨by omega, hlt⟩) (by rw [List.length_set]; exact h2) (by simp; omega) (by simp; omega)
        refine Ev.bind h4 ?_
        have ih := e_spec_ggGroups_2 b hb r (pre ++ [x]) (bfs b v 200 (List.set o2 pre.length v) [(pre.length : Int)]) (v + 1) (by rw [← hpr]; simp) (by rw [bfs_len, List.length_set]; exact h2) (by omega) (by simp; omega)
        rw [← shift_mid, hc] at ih
        show Ev (fun k => f_spec_ggGroups_2 k b.1 b.2.1 b.2.2 (bfs b v 200 (List.set o2 pre.length v) [(pre.length : Int)]) (wrap64 (v + 1)) (pre ++ x :: r) ((pre ++ x :: r).length : Int) (wrap64 ((pre.length : Int) + 1))) _
        rw [w64 (n := v + 1) (by omega) (by omega), hn, hc]
        simp only [groupsFrom, hg, Int.toNat_natCast, hno, decide_true, Bool.and_self, if_true]
        exact ih
theorem e_spec_ggGroups (b : BoardD) (hb : boardOK b = true) : Ev (fun k => f_spec_ggGroups k b) (groupsOf b) := by
  obtain ⟨g1, g2, g3, g4, g5, g6⟩ := board_ok hb
  have hp := prod_small g1 g2 g3 g4
  have hm : b.2.2.length * 8 ≤ 281474976710656 := by omega
  refine Ev.succ ?_
  simp only [f_spec_ggGroups, Int.toNat_natCast, hm, if_true]
  refine Ev.bind (e_spec_ggGroups_0 b _ (List.replicate b.2.2.length 0) [] rfl (by simp; omega)) ?_
  have hrep : ([] : List Int) ++ List.replicate (List.replicate b.2.2.length (0 : Int)).length (-1) = List.replicate b.2.2.length (-1) := by simp
  rw [hrep]
  exact Ev.bind (e_spec_ggGroups_2 b hb b.2.2 [] (List.replicate b.2.2.length (-1)) 0 rfl (by simp) (by omega) (by simp)) (Ev.some _)
end Go.Proofs.Ytjjlmnbmpgfcbaa.Vs

set_option linter.unusedVariables false
set_option linter.unusedSimpArgs false
namespace Go.Proofs.Ytjjlmnbmpgfcbaa.Vs
open Go.RowKit
/-! ### Faults -/
def fits (x : CellD) (kd : Int) : Bool := decide (kd = 2) || (decide (kd = 1) && turning x) || (decide (kd = 3) && (turning x || decide (x.1 = 1 ∨ x.1 = 2)))
/-- Faults in strictly increasing order of their cells, each on the board and of a kind that its cell can have. -/
def faultsOK (b : BoardD) : Int → List FaultD → Bool
  | _, [] => true
  | last, x :: r => decide (0 ≤ x.2.1 ∧ x.2.1 < b.1 ∧ 0 ≤ x.2.2 ∧ x.2.2 < b.2.1 ∧ last < x.2.1 * b.2.1 + x.2.2) && fits (List.getD b.2.2 (x.2.1 * b.2.1 + x.2.2).toNat (0, 0)) x.1 && faultsOK b (x.2.1 * b.2.1 + x.2.2) r
end Go.Proofs.Ytjjlmnbmpgfcbaa.Vs
