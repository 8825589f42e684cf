/- Functions of the program by plain functions, each with its contract. -/
import Derived.Test.YtgpmbmnfcbippaaqsuaVsT
import Derived.Test.YtgpmbmnfcbippaaqsuaVg0
import Derived.Test.YtgpmbmnfcbippaaqsuaVg1
import Derived.Test.YtgpmbmnfcbippaaqsuaVg2
import Derived.Test.YtgpmbmnfcbippaaqsuaVg3
import Derived.Test.YtgpmbmnfcbippaaqsuaVg4
import Derived.Test.YtgpmbmnfcbippaaqsuaVg5
import Derived.Test.YtgpmbmnfcbippaaqsuaVg6
set_option maxRecDepth 100000
set_option linter.unusedVariables false
set_option linter.unusedSimpArgs false
namespace Go.Proofs.Ytgpmbmnfcbippaa.Vs
open Go.RowKit
noncomputable section
/-! function 3 -/
/-! function 4 -/
/-! function 5 -/
noncomputable def r_laws_FnExactPairCauses : List PK := [{ t := Ty.bool }]
noncomputable def q_laws_FnExactPairCauses : List PK := [{ t := Ty.pair (Ty.int IntKind.i64) (Ty.pair (Ty.int IntKind.i64) (Ty.slice (118 : Nat) (Ty.pair (Ty.int IntKind.i64) (Ty.int IntKind.i64)))), agg := true }, { t := Ty.slice (3 : Nat) (Ty.int IntKind.i64) }, { t := Ty.slice (93 : Nat) (Ty.pair (Ty.int IntKind.i64) (Ty.pair (Ty.int IntKind.i64) (Ty.int IntKind.i64))) }]
noncomputable def to_laws_FnExactPairCauses (r : Bool) : Tup r_laws_FnExactPairCauses × OutD := ((r, ()), none)
noncomputable def of_laws_FnExactPairCauses : Tup r_laws_FnExactPairCauses × OutD → Option (Bool)
  | (a, none) => some (a.1)
  | _ => none
theorem to_of_laws_FnExactPairCauses : ∀ b r, of_laws_FnExactPairCauses b = some r → to_laws_FnExactPairCauses r = b := by
  rintro ⟨a, o⟩ r h
  cases o with
  | none => injection h with h; subst h; rfl
  | some _ => cases h
noncomputable def f_laws_FnExactPairCauses : Nat → Int × Int × List (Int × Int) → List Int → List (Int × Int × Int) → Option Bool
  | 0, _, _, _ => none
  | k + 1, p0, p1, p2 =>
    if decide ((↑(List.length p1) : Int) > (1048576 : Int)) = true then some true else Option.bind (f_laws_szBoard k (Prod.fst p0, Prod.fst (Prod.snd p0), Prod.snd (Prod.snd p0)) (1048576 : Int)) fun z0 => if decide (z0 < (0 : Int)) = true then some true else Option.bind (f_laws_szFallS k p2 z0) fun z1 => if decide (z1 < (0 : Int)) = true then some true else Option.bind (f_laws_toBoard k (Prod.fst p0, Prod.fst (Prod.snd p0), Prod.snd (Prod.snd p0))) fun z2 => Option.bind (f_laws_toIntS k p1) fun z3 => Option.bind (f_laws_toFallS k p2) fun z4 => Option.bind (f_spec_PairCauses k (Prod.fst z2, Prod.fst (Prod.snd z2), Prod.snd (Prod.snd z2)) z3 z4) fun z5 => Option.bind (f_laws_toBoard k (Prod.fst p0, Prod.fst (Prod.snd p0), Prod.snd (Prod.snd p0))) fun z6 => Option.bind (f_laws_toIntS k p1) fun z7 => Option.bind (f_laws_toFallS k p2) fun z8 => Option.bind (f_impl_PairCauses k (Prod.fst z6, Prod.fst (Prod.snd z6), Prod.snd (Prod.snd z6)) z7 z8) fun z9 => Option.bind (f_laws_eqIntSS k (Prod.fst z9) (Prod.fst z5)) fun z10 => if (!z10) = true then some false else if (!Prod.snd z9 == Prod.snd z5) = true then some false else Option.bind (f_laws_toBoard k (Prod.fst p0, Prod.fst (Prod.snd p0), Prod.snd (Prod.snd p0))) fun z11 => Option.bind (f_laws_eqBoard k (Prod.fst z6, Prod.fst (Prod.snd z6), Prod.snd (Prod.snd z6)) (Prod.fst z11, Prod.fst (Prod.snd z11), Prod.snd (Prod.snd z11))) fun z12 => if (!z12) = true then some false else Option.bind (f_laws_toIntS k p1) fun z13 => Option.bind (f_laws_eqIntS k z7 z13) fun z14 => if (!z14) = true then some false else Option.bind (f_laws_toFallS k p2) fun z15 => Option.bind (f_laws_eqFallS k z8 z15) fun z16 => if (!z16) = true then some false else Option.bind (f_laws_markBoard k (Prod.fst z6, Prod.fst (Prod.snd z6), Prod.snd (Prod.snd z6)) (1 : Int)) fun z17 => Option.bind (f_laws_markIntS k z7 (Prod.fst z17)) fun z18 => Option.bind (f_laws_markFallS k z8 (Prod.fst z18)) fun z19 => if decide (Prod.fst z19 < (0 : Int)) = true then some false else Option.bind (f_laws_eqIntSS k (Prod.fst z9) (Prod.fst z5)) fun z20 => if (!z20) = true then some false else if (!Prod.snd z9 == Prod.snd z5) = true then some false else Option.bind (f_laws_markIntSS k (Prod.fst z9) (1 : Int)) fun z21 => Option.bind (f_laws_heldIntSS k (Prod.snd z21) (1 : Int)) fun z22 => if decide (z22 < (0 : Int)) = true then some false else if decide (z22 ≠ Prod.fst z21) = true then some false else Option.bind (f_laws_toBoard k (Prod.fst p0, Prod.fst (Prod.snd p0), Prod.snd (Prod.snd p0))) fun z23 => Option.bind (f_laws_toIntS k p1) fun z24 => Option.bind (f_laws_toFallS k p2) fun z25 => Option.bind (f_impl_PairCauses k (Prod.fst z23, Prod.fst (Prod.snd z23), Prod.snd (Prod.snd z23)) z24 z25) fun z26 => Option.bind (f_laws_eqIntSS k (Prod.fst z26) (Prod.fst z5)) fun z27 => if (!z27) = true then some false else if (!Prod.snd z26 == Prod.snd z5) = true then some false else Option.bind (f_laws_heldIntSS k (Prod.snd z21) (1 : Int)) fun z28 => if decide (z28 < (0 : Int)) = true then some false else if decide (z28 ≠ Prod.fst z21) = true then some false else some true
noncomputable def d_laws_FnExactPairCauses : FnDef := .of q_laws_FnExactPairCauses r_laws_FnExactPairCauses (Bool) (fun k x => f_laws_FnExactPairCauses k x.1 x.2.1 x.2.2.1) to_laws_FnExactPairCauses of_laws_FnExactPairCauses to_of_laws_FnExactPairCauses
noncomputable def c_laws_FnExactPairCauses : Code := Try.f5.body.getD .skip
noncomputable def x_laws_FnExactPairCauses : Ctx (Tup r_laws_FnExactPairCauses × OutD) := { T := T, G := [(13, d_laws_szBoard.E), (25, d_laws_szFallS.E), (15, d_laws_toBoard.E), (16, d_laws_toIntS.E), (27, d_laws_toFallS.E), (31, d_spec_PairCauses.E), (32, d_impl_PairCauses.E), (33, d_laws_eqIntSS.E), (19, d_laws_eqBoard.E), (20, d_laws_eqIntS.E), (29, d_laws_eqFallS.E), (21, d_laws_markBoard.E), (22, d_laws_markIntS.E), (30, d_laws_markFallS.E), (34, d_laws_markIntSS.E), (35, d_laws_heldIntSS.E)], mvs := [], no := 0, n := 140, res := resOf T q_laws_FnExactPairCauses r_laws_FnExactPairCauses Try.f5.results.toList, loops := [], regs := [], conds := [] }
theorem g_laws_FnExactPairCauses (k : Nat) : EnvOK Try.prog k x_laws_FnExactPairCauses.G := (EnvOK.cons (s_laws_szBoard k) (EnvOK.cons (s_laws_szFallS k) (EnvOK.cons (s_laws_toBoard k) (EnvOK.cons (s_laws_toIntS k) (EnvOK.cons (s_laws_toFallS k) (EnvOK.cons (s_spec_PairCauses k) (EnvOK.cons (s_impl_PairCauses k) (EnvOK.cons (s_laws_eqIntSS k) (EnvOK.cons (s_laws_eqBoard k) (EnvOK.cons (s_laws_eqIntS k) (EnvOK.cons (s_laws_eqFallS k) (EnvOK.cons (s_laws_markBoard k) (EnvOK.cons (s_laws_markIntS k) (EnvOK.cons (s_laws_markFallS k) (EnvOK.cons (s_laws_markIntSS k) (EnvOK.cons (s_laws_heldIntSS k) (EnvOK.nil mixed)))))))))))))))))
theorem h_laws_FnExactPairCauses (k : Nat) (x : Tup d_laws_FnExactPairCauses.ps) : d_laws_FnExactPairCauses.f (k + 1) x = fnK d_laws_FnExactPairCauses x_laws_FnExactPairCauses c_laws_FnExactPairCauses k x := by kernel_rfl
theorem z_laws_FnExactPairCauses (x : Tup d_laws_FnExactPairCauses.ps) : d_laws_FnExactPairCauses.f 0 x = none := by kernel_rfl
theorem l_laws_FnExactPairCauses (k : Nat) : LOK Try.prog x_laws_FnExactPairCauses k c_laws_FnExactPairCauses := LOK.by [] (by kernel_rfl) AllOK.nil
theorem s_laws_FnExactPairCauses (k : Nat) : SoundAt Try.prog k 5 d_laws_FnExactPairCauses.E := @fn_all Try.prog d_laws_FnExactPairCauses x_laws_FnExactPairCauses 5 Try.f5 c_laws_FnExactPairCauses (by kernel_rfl) (by kernel_rfl) (by kernel_rfl) Try.func5 (by kernel_rfl) (by kernel_rfl) (by kernel_rfl) T_ok g_laws_FnExactPairCauses l_laws_FnExactPairCauses z_laws_FnExactPairCauses h_laws_FnExactPairCauses k
/-! function 11 -/
/-! function 36 -/
noncomputable def r_spec_SuspectCells : List PK := [{ t := Ty.slice (3 : Nat) (Ty.int IntKind.i64) }, { t := Ty.bool }]
noncomputable def q_spec_SuspectCells : List PK := [{ t := Ty.pair (Ty.int IntKind.i64) (Ty.pair (Ty.int IntKind.i64) (Ty.slice (116 : Nat) (Ty.pair (Ty.int IntKind.i64) (Ty.int IntKind.i64)))), agg := true }, { t := Ty.slice (3 : Nat) (Ty.int IntKind.i64) }, { t := Ty.slice (91 : Nat) (Ty.pair (Ty.int IntKind.i64) (Ty.pair (Ty.int IntKind.i64) (Ty.int IntKind.i64))) }]
noncomputable def to_spec_SuspectCells (r : List Int × Bool) : Tup r_spec_SuspectCells × OutD := ((r.1, r.2, ()), none)
noncomputable def of_spec_SuspectCells : Tup r_spec_SuspectCells × OutD → Option (List Int × Bool)
  | (a, none) => some (a.1, a.2.1)
  | _ => none
theorem to_of_spec_SuspectCells : ∀ b r, of_spec_SuspectCells b = some r → to_spec_SuspectCells r = b := by
  rintro ⟨a, o⟩ r h
  cases o with
  | none => injection h with h; subst h; rfl
  | some _ => cases h
noncomputable def f_spec_SuspectCells : Nat → Int × Int × List (Int × Int) → List Int → List (Int × Int × Int) → Option (List Int × Bool)
  | 0, _, _, _ => none
  | k + 1, p0, p1, p2 =>
    Option.bind (f_spec_dgGood k (Prod.fst p0, Prod.fst (Prod.snd p0), Prod.snd (Prod.snd p0)) p1 p2) fun z0 => if (!z0) = true then some ([], false) else Option.bind (f_spec_dgSuspects k (Prod.fst p0, Prod.fst (Prod.snd p0), Prod.snd (Prod.snd p0)) p1 p2) fun z1 => some (z1, true)
noncomputable def d_spec_SuspectCells : FnDef := .of q_spec_SuspectCells r_spec_SuspectCells (List Int × Bool) (fun k x => f_spec_SuspectCells k x.1 x.2.1 x.2.2.1) to_spec_SuspectCells of_spec_SuspectCells to_of_spec_SuspectCells
noncomputable def c_spec_SuspectCells : Code := Try.f36.body.getD .skip
noncomputable def x_spec_SuspectCells : Ctx (Tup r_spec_SuspectCells × OutD) := { T := T, G := [(70, d_spec_dgGood.E), (78, d_spec_dgSuspects.E)], mvs := [], no := 0, n := 17, res := resOf T q_spec_SuspectCells r_spec_SuspectCells Try.f36.results.toList, loops := [], regs := [], conds := [] }
theorem g_spec_SuspectCells (k : Nat) : EnvOK Try.prog k x_spec_SuspectCells.G := (EnvOK.cons (s_spec_dgGood k) (EnvOK.cons (s_spec_dgSuspects k) (EnvOK.nil mixed)))
theorem h_spec_SuspectCells (k : Nat) (x : Tup d_spec_SuspectCells.ps) : d_spec_SuspectCells.f (k + 1) x = fnK d_spec_SuspectCells x_spec_SuspectCells c_spec_SuspectCells k x := by kernel_rfl
theorem z_spec_SuspectCells (x : Tup d_spec_SuspectCells.ps) : d_spec_SuspectCells.f 0 x = none := by kernel_rfl
theorem l_spec_SuspectCells (k : Nat) : LOK Try.prog x_spec_SuspectCells k c_spec_SuspectCells := LOK.by [] (by kernel_rfl) AllOK.nil
theorem s_spec_SuspectCells (k : Nat) : SoundAt Try.prog k 36 d_spec_SuspectCells.E := @fn_all Try.prog d_spec_SuspectCells x_spec_SuspectCells 36 Try.f36 c_spec_SuspectCells (by kernel_rfl) (by kernel_rfl) (by kernel_rfl) Try.func36 (by kernel_rfl) (by kernel_rfl) (by kernel_rfl) T_ok g_spec_SuspectCells l_spec_SuspectCells z_spec_SuspectCells h_spec_SuspectCells k
/-! function 39 -/
noncomputable def r_spec_SoundCells : List PK := [{ t := Ty.slice (3 : Nat) (Ty.int IntKind.i64) }, { t := Ty.bool }]
noncomputable def q_spec_SoundCells : List PK := [{ t := Ty.pair (Ty.int IntKind.i64) (Ty.pair (Ty.int IntKind.i64) (Ty.slice (116 : Nat) (Ty.pair (Ty.int IntKind.i64) (Ty.int IntKind.i64)))), agg := true }, { t := Ty.slice (3 : Nat) (Ty.int IntKind.i64) }, { t := Ty.slice (91 : Nat) (Ty.pair (Ty.int IntKind.i64) (Ty.pair (Ty.int IntKind.i64) (Ty.int IntKind.i64))) }]
noncomputable def to_spec_SoundCells (r : List Int × Bool) : Tup r_spec_SoundCells × OutD := ((r.1, r.2, ()), none)
noncomputable def of_spec_SoundCells : Tup r_spec_SoundCells × OutD → Option (List Int × Bool)
  | (a, none) => some (a.1, a.2.1)
  | _ => none
theorem to_of_spec_SoundCells : ∀ b r, of_spec_SoundCells b = some r → to_spec_SoundCells r = b := by
  rintro ⟨a, o⟩ r h
  cases o with
  | none => injection h with h; subst h; rfl
  | some _ => cases h
noncomputable def f_spec_SoundCells_0 : Nat → List Int → List Int → Int → Int → Option (List Int)
  | 0, _, _, _, _ => none
  | k + 1, o1, o2, v25, v26 =>
    if decide (v26 < v25) = true then Option.bind (f_spec_l1Has k o1 v26) fun z2 => if (!z2) = true then if List.length o2 + List.length [v26] ≤ (140737488355328 / 8 : Nat) then f_spec_SoundCells_0 k o1 (o2 ++ [v26]) v25 (wrap64 (v26 + (1 : Int))) else none else f_spec_SoundCells_0 k o1 o2 v25 (wrap64 (v26 + (1 : Int))) else some o2
noncomputable def f_spec_SoundCells_0i : Spec := { objs := [OSh.ro, OSh.row true (3 : Nat) (Ty.int IntKind.i64), OSh.row true (3 : Nat) (Ty.int IntKind.i64)], tmps := [((8 : Nat), TSh.at (Sh.sl (1 : Nat))), ((9 : Nat), TSh.at (Sh.sl (2 : Nat))), ((25 : Nat), TSh.at (Sh.int IntKind.i64)), ((26 : Nat), TSh.at (Sh.int IntKind.i64))] }
noncomputable def f_spec_SoundCells_0o : Spec := { objs := [OSh.ro, OSh.row true (3 : Nat) (Ty.int IntKind.i64)], tmps := [((9 : Nat), TSh.at (Sh.sl (1 : Nat)))] }
noncomputable def f_spec_SoundCells_0D : LoopDef (Tup r_spec_SoundCells × OutD) := .plain f_spec_SoundCells_0i f_spec_SoundCells_0o (List Int) (fun k x => f_spec_SoundCells_0 k x.1.2.1 x.1.2.2.1 x.2.2.2.1 x.2.2.2.2.1) (fun z => (((), z, ()), ((), ()))) (fun y => (y.1.2.1)) (fun _ => rfl)
noncomputable def f_spec_SoundCells : Nat → Int × Int × List (Int × Int) → List Int → List (Int × Int × Int) → Option (List Int × Bool)
  | 0, _, _, _ => none
  | k + 1, p0, p1, p2 =>
    Option.bind (f_spec_dgGood k (Prod.fst p0, Prod.fst (Prod.snd p0), Prod.snd (Prod.snd p0)) p1 p2) fun z0 => if (!z0) = true then some ([], false) else Option.bind (f_spec_dgSuspects k (Prod.fst p0, Prod.fst (Prod.snd p0), Prod.snd (Prod.snd p0)) p1 p2) fun z1 => if decide ((↑(List.length z1) : Int) = (0 : Int)) = true then some ([], false) else Option.bind (f_spec_SoundCells_0 k z1 [] (↑(List.length (Prod.snd (Prod.snd p0))) : Int) (0 : Int)) fun z3 => some (z3, true)
noncomputable def d_spec_SoundCells : FnDef := .of q_spec_SoundCells r_spec_SoundCells (List Int × Bool) (fun k x => f_spec_SoundCells k x.1 x.2.1 x.2.2.1) to_spec_SoundCells of_spec_SoundCells to_of_spec_SoundCells
noncomputable def c_spec_SoundCells : Code := Try.f39.body.getD .skip
noncomputable def x_spec_SoundCells : Ctx (Tup r_spec_SoundCells × OutD) := { T := T, G := [(70, d_spec_dgGood.E), (78, d_spec_dgSuspects.E), (80, d_spec_l1Has.E)], mvs := [], no := 0, n := 39, res := resOf T q_spec_SoundCells r_spec_SoundCells Try.f39.results.toList, loops := [(0, f_spec_SoundCells_0D.E)], regs := [], conds := [] }
theorem g_spec_SoundCells (k : Nat) : EnvOK Try.prog k x_spec_SoundCells.G := (EnvOK.cons (s_spec_dgGood k) (EnvOK.cons (s_spec_dgSuspects k) (EnvOK.cons (s_spec_l1Has k) (EnvOK.nil mixed))))
noncomputable def f_spec_SoundCells_0B : Code := (findLoop 0 c_spec_SoundCells).getD .skip
theorem f_spec_SoundCells_0h (k : Nat) (x : f_spec_SoundCells_0i.D) : f_spec_SoundCells_0D.lp (k + 1) x = loopK x_spec_SoundCells f_spec_SoundCells_0D 0 f_spec_SoundCells_0B k x := by kernel_rfl
theorem f_spec_SoundCells_0l (k : Nat) : LOK Try.prog x_spec_SoundCells k f_spec_SoundCells_0B := LOK.by [] (by kernel_rfl) AllOK.nil
theorem f_spec_SoundCells_0z (x : f_spec_SoundCells_0i.D) : f_spec_SoundCells_0D.lp 0 x = none := by kernel_rfl
theorem f_spec_SoundCells_0ok (k : Nat) : EOK Try.prog x_spec_SoundCells k f_spec_SoundCells_0D.E (.block 0 (.loop f_spec_SoundCells_0B)) := loop_ok T_ok g_spec_SoundCells f_spec_SoundCells_0z f_spec_SoundCells_0h f_spec_SoundCells_0l k
theorem h_spec_SoundCells (k : Nat) (x : Tup d_spec_SoundCells.ps) : d_spec_SoundCells.f (k + 1) x = fnK d_spec_SoundCells x_spec_SoundCells c_spec_SoundCells k x := by kernel_rfl
theorem z_spec_SoundCells (x : Tup d_spec_SoundCells.ps) : d_spec_SoundCells.f 0 x = none := by kernel_rfl
theorem l_spec_SoundCells (k : Nat) : LOK Try.prog x_spec_SoundCells k c_spec_SoundCells := LOK.by [(f_spec_SoundCells_0D.E, .block 0 (.loop f_spec_SoundCells_0B))] (by kernel_rfl) (AllOK.cons (f_spec_SoundCells_0ok k) AllOK.nil)
theorem s_spec_SoundCells (k : Nat) : SoundAt Try.prog k 39 d_spec_SoundCells.E := @fn_all Try.prog d_spec_SoundCells x_spec_SoundCells 39 Try.f39 c_spec_SoundCells (by kernel_rfl) (by kernel_rfl) (by kernel_rfl) Try.func39 (by kernel_rfl) (by kernel_rfl) (by kernel_rfl) T_ok g_spec_SoundCells l_spec_SoundCells z_spec_SoundCells h_spec_SoundCells k
/-! function 50 -/
/-! function 52 -/
/-! function 58 -/
end
end Go.Proofs.Ytgpmbmnfcbippaa.Vs
