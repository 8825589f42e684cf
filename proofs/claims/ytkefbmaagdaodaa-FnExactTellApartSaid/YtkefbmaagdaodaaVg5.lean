/- Functions of the program by plain functions, each with its contract. -/
import Derived.Test.YtkefbmaagdaodaaVsT
import Derived.Test.YtkefbmaagdaodaaVg0
import Derived.Test.YtkefbmaagdaodaaVg1
import Derived.Test.YtkefbmaagdaodaaVg2
import Derived.Test.YtkefbmaagdaodaaVg3
import Derived.Test.YtkefbmaagdaodaaVg4
set_option maxRecDepth 100000
set_option linter.unusedVariables false
set_option linter.unusedSimpArgs false
namespace Go.Proofs.Ytkefbmaagdaodaa.Vs
open Go.RowKit
noncomputable section
/-! function 4 -/
noncomputable def r_laws_FnExactPossibleFaults : List PK := [{ t := Ty.bool }]
noncomputable def q_laws_FnExactPossibleFaults : List PK := [{ t := Ty.pair (Ty.int IntKind.i64) (Ty.pair (Ty.int IntKind.i64) (Ty.slice (128 : Nat) (Ty.pair (Ty.int IntKind.i64) (Ty.int IntKind.i64)))), agg := true }]
noncomputable def to_laws_FnExactPossibleFaults (r : Bool) : Tup r_laws_FnExactPossibleFaults × OutD := ((r, ()), none)
noncomputable def of_laws_FnExactPossibleFaults : Tup r_laws_FnExactPossibleFaults × OutD → Option (Bool)
  | (a, none) => some (a.1)
  | _ => none
theorem to_of_laws_FnExactPossibleFaults : ∀ b r, of_laws_FnExactPossibleFaults b = some r → to_laws_FnExactPossibleFaults r = b := by
  rintro ⟨a, o⟩ r h
  cases o with
  | none => injection h with h; subst h; rfl
  | some _ => cases h
noncomputable def f_laws_FnExactPossibleFaults : Nat → Int × Int × List (Int × Int) → Option Bool
  | 0, _ => none
  | k + 1, p0 =>
    Option.bind (f_laws_szBoard k (Prod.fst p0, Prod.fst (Prod.snd p0), Prod.snd (Prod.snd p0)) (1048576 : Int)) fun z0 => if decide (z0 < (0 : Int)) = true then some true else Option.bind (f_laws_toBoard k (Prod.fst p0, Prod.fst (Prod.snd p0), Prod.snd (Prod.snd p0))) fun z1 => Option.bind (f_spec_PossibleFaults k (Prod.fst z1, Prod.fst (Prod.snd z1), Prod.snd (Prod.snd z1))) fun z2 => Option.bind (f_laws_toBoard k (Prod.fst p0, Prod.fst (Prod.snd p0), Prod.snd (Prod.snd p0))) fun z3 => Option.bind (f_impl_PossibleFaults k (Prod.fst z3, Prod.fst (Prod.snd z3), Prod.snd (Prod.snd z3))) fun z4 => Option.bind (f_laws_eqFaultS k (Prod.fst z4) (Prod.fst z2)) fun z5 => if (!z5) = true then some false else if (!Prod.snd z4 == Prod.snd z2) = true then some false else Option.bind (f_laws_toBoard k (Prod.fst p0, Prod.fst (Prod.snd p0), Prod.snd (Prod.snd p0))) fun z6 => Option.bind (f_laws_eqBoard k (Prod.fst z3, Prod.fst (Prod.snd z3), Prod.snd (Prod.snd z3)) (Prod.fst z6, Prod.fst (Prod.snd z6), Prod.snd (Prod.snd z6))) fun z7 => if (!z7) = true then some false else Option.bind (f_laws_markBoard k (Prod.fst z3, Prod.fst (Prod.snd z3), Prod.snd (Prod.snd z3)) (1 : Int)) fun z8 => if decide (Prod.fst z8 < (0 : Int)) = true then some false else Option.bind (f_laws_eqFaultS k (Prod.fst z4) (Prod.fst z2)) fun z9 => if (!z9) = true then some false else if (!Prod.snd z4 == Prod.snd z2) = true then some false else Option.bind (f_laws_markFaultS k (Prod.fst z4) (1 : Int)) fun z10 => Option.bind (f_laws_heldFaultS k (Prod.snd z10) (1 : Int)) fun z11 => if decide (z11 < (0 : Int)) = true then some false else if decide (z11 ≠ Prod.fst z10) = true then some false else Option.bind (f_laws_toBoard k (Prod.fst p0, Prod.fst (Prod.snd p0), Prod.snd (Prod.snd p0))) fun z12 => Option.bind (f_impl_PossibleFaults k (Prod.fst z12, Prod.fst (Prod.snd z12), Prod.snd (Prod.snd z12))) fun z13 => Option.bind (f_laws_eqFaultS k (Prod.fst z13) (Prod.fst z2)) fun z14 => if (!z14) = true then some false else if (!Prod.snd z13 == Prod.snd z2) = true then some false else Option.bind (f_laws_heldFaultS k (Prod.snd z10) (1 : Int)) fun z15 => if decide (z15 < (0 : Int)) = true then some false else if decide (z15 ≠ Prod.fst z10) = true then some false else some true
noncomputable def d_laws_FnExactPossibleFaults : FnDef := .of q_laws_FnExactPossibleFaults r_laws_FnExactPossibleFaults (Bool) (fun k x => f_laws_FnExactPossibleFaults k x.1) to_laws_FnExactPossibleFaults of_laws_FnExactPossibleFaults to_of_laws_FnExactPossibleFaults
noncomputable def c_laws_FnExactPossibleFaults : Code := Try.f4.body.getD .skip
noncomputable def x_laws_FnExactPossibleFaults : Ctx (Tup r_laws_FnExactPossibleFaults × OutD) := { T := T, G := [(15, d_laws_szBoard.E), (18, d_laws_toBoard.E), (23, d_spec_PossibleFaults.E), (24, d_impl_PossibleFaults.E), (22, d_laws_eqFaultS.E), (21, d_laws_eqBoard.E), (25, d_laws_markBoard.E), (26, d_laws_markFaultS.E), (27, d_laws_heldFaultS.E)], mvs := [], no := 0, n := 96, res := resOf T q_laws_FnExactPossibleFaults r_laws_FnExactPossibleFaults Try.f4.results.toList, loops := [], regs := [], conds := [] }
theorem g_laws_FnExactPossibleFaults (k : Nat) : EnvOK Try.prog k x_laws_FnExactPossibleFaults.G := (EnvOK.cons (s_laws_szBoard k) (EnvOK.cons (s_laws_toBoard k) (EnvOK.cons (s_spec_PossibleFaults k) (EnvOK.cons (s_impl_PossibleFaults k) (EnvOK.cons (s_laws_eqFaultS k) (EnvOK.cons (s_laws_eqBoard k) (EnvOK.cons (s_laws_markBoard k) (EnvOK.cons (s_laws_markFaultS k) (EnvOK.cons (s_laws_heldFaultS k) (EnvOK.nil mixed))))))))))
theorem h_laws_FnExactPossibleFaults (k : Nat) (x : Tup d_laws_FnExactPossibleFaults.ps) : d_laws_FnExactPossibleFaults.f (k + 1) x = fnK d_laws_FnExactPossibleFaults x_laws_FnExactPossibleFaults c_laws_FnExactPossibleFaults k x := by kernel_rfl
theorem z_laws_FnExactPossibleFaults (x : Tup d_laws_FnExactPossibleFaults.ps) : d_laws_FnExactPossibleFaults.f 0 x = none := by kernel_rfl
theorem l_laws_FnExactPossibleFaults (k : Nat) : LOK Try.prog x_laws_FnExactPossibleFaults k c_laws_FnExactPossibleFaults := LOK.by [] (by kernel_rfl) AllOK.nil
theorem s_laws_FnExactPossibleFaults (k : Nat) : SoundAt Try.prog k 4 d_laws_FnExactPossibleFaults.E := @fn_all Try.prog d_laws_FnExactPossibleFaults x_laws_FnExactPossibleFaults 4 Try.f4 c_laws_FnExactPossibleFaults (by kernel_rfl) (by kernel_rfl) (by kernel_rfl) Try.func4 (by kernel_rfl) (by kernel_rfl) (by kernel_rfl) T_ok g_laws_FnExactPossibleFaults l_laws_FnExactPossibleFaults z_laws_FnExactPossibleFaults h_laws_FnExactPossibleFaults k
/-! function 20 -/
noncomputable def r_impl_AreFaults : List PK := [{ t := Ty.bool }, { t := Ty.bool }]
noncomputable def q_impl_AreFaults : List PK := [{ t := Ty.pair (Ty.int IntKind.i64) (Ty.pair (Ty.int IntKind.i64) (Ty.slice (123 : Nat) (Ty.pair (Ty.int IntKind.i64) (Ty.int IntKind.i64)))), agg := true }, { t := Ty.slice (87 : Nat) (Ty.pair (Ty.int IntKind.i64) (Ty.pair (Ty.int IntKind.i64) (Ty.int IntKind.i64))) }]
noncomputable def to_impl_AreFaults (r : Bool × Bool) : Tup r_impl_AreFaults × OutD := ((r.1, r.2, ()), none)
noncomputable def of_impl_AreFaults : Tup r_impl_AreFaults × OutD → Option (Bool × Bool)
  | (a, none) => some (a.1, a.2.1)
  | _ => none
theorem to_of_impl_AreFaults : ∀ b r, of_impl_AreFaults b = some r → to_impl_AreFaults r = b := by
  rintro ⟨a, o⟩ r h
  cases o with
  | none => injection h with h; subst h; rfl
  | some _ => cases h
noncomputable def f_impl_AreFaults : Nat → Int × Int × List (Int × Int) → List (Int × Int × Int) → Option (Bool × Bool)
  | 0, _, _ => none
  | k + 1, p0, p1 =>
    Option.bind (f_impl_IsBoard k (Prod.fst p0, Prod.fst (Prod.snd p0), Prod.snd (Prod.snd p0))) fun z0 => if (!z0) = true then some (false, false) else Option.bind (f_impl_areFaults k (Prod.fst p0, Prod.fst (Prod.snd p0), Prod.snd (Prod.snd p0)) p1) fun z1 => some (z1, true)
noncomputable def d_impl_AreFaults : FnDef := .of q_impl_AreFaults r_impl_AreFaults (Bool × Bool) (fun k x => f_impl_AreFaults k x.1 x.2.1) to_impl_AreFaults of_impl_AreFaults to_of_impl_AreFaults
noncomputable def c_impl_AreFaults : Code := Try.f20.body.getD .skip
noncomputable def x_impl_AreFaults : Ctx (Tup r_impl_AreFaults × OutD) := { T := T, G := [(67, d_impl_IsBoard.E), (68, d_impl_areFaults.E)], mvs := [], no := 0, n := 12, res := resOf T q_impl_AreFaults r_impl_AreFaults Try.f20.results.toList, loops := [], regs := [], conds := [] }
theorem g_impl_AreFaults (k : Nat) : EnvOK Try.prog k x_impl_AreFaults.G := (EnvOK.cons (s_impl_IsBoard k) (EnvOK.cons (s_impl_areFaults k) (EnvOK.nil mixed)))
theorem h_impl_AreFaults (k : Nat) (x : Tup d_impl_AreFaults.ps) : d_impl_AreFaults.f (k + 1) x = fnK d_impl_AreFaults x_impl_AreFaults c_impl_AreFaults k x := by kernel_rfl
theorem z_impl_AreFaults (x : Tup d_impl_AreFaults.ps) : d_impl_AreFaults.f 0 x = none := by kernel_rfl
theorem l_impl_AreFaults (k : Nat) : LOK Try.prog x_impl_AreFaults k c_impl_AreFaults := LOK.by [] (by kernel_rfl) AllOK.nil
theorem s_impl_AreFaults (k : Nat) : SoundAt Try.prog k 20 d_impl_AreFaults.E := @fn_all Try.prog d_impl_AreFaults x_impl_AreFaults 20 Try.f20 c_impl_AreFaults (by kernel_rfl) (by kernel_rfl) (by kernel_rfl) Try.func20 (by kernel_rfl) (by kernel_rfl) (by kernel_rfl) T_ok g_impl_AreFaults l_impl_AreFaults z_impl_AreFaults h_impl_AreFaults k
/-! function 28 -/
noncomputable def r_spec_FaultyFall : List PK := [{ t := Ty.pair (Ty.int IntKind.i64) (Ty.pair (Ty.int IntKind.i64) (Ty.int IntKind.i64)), agg := true }, { t := Ty.bool }]
noncomputable def q_spec_FaultyFall : List PK := [{ t := Ty.pair (Ty.int IntKind.i64) (Ty.pair (Ty.int IntKind.i64) (Ty.slice (123 : Nat) (Ty.pair (Ty.int IntKind.i64) (Ty.int IntKind.i64)))), agg := true }, { t := Ty.slice (87 : Nat) (Ty.pair (Ty.int IntKind.i64) (Ty.pair (Ty.int IntKind.i64) (Ty.int IntKind.i64))) }, { t := Ty.int IntKind.i64 }]
noncomputable def to_spec_FaultyFall (r : (Int × Int × Int) × Bool) : Tup r_spec_FaultyFall × OutD := ((r.1, r.2, ()), none)
noncomputable def of_spec_FaultyFall : Tup r_spec_FaultyFall × OutD → Option ((Int × Int × Int) × Bool)
  | (a, none) => some (a.1, a.2.1)
  | _ => none
theorem to_of_spec_FaultyFall : ∀ b r, of_spec_FaultyFall b = some r → to_spec_FaultyFall r = b := by
  rintro ⟨a, o⟩ r h
  cases o with
  | none => injection h with h; subst h; rfl
  | some _ => cases h
noncomputable def f_spec_FaultyFall : Nat → Int × Int × List (Int × Int) → List (Int × Int × Int) → Int → Option ((Int × Int × Int) × Bool)
  | 0, _, _, _ => none
  | k + 1, p0, p1, p2 =>
    Option.bind (f_spec_faHas k (Prod.fst p0, Prod.fst (Prod.snd p0), Prod.snd (Prod.snd p0)) p1 p2) fun z0 => if (!z0) = true then some (((0 : Int), (0 : Int), (0 : Int)), false) else Option.bind (f_spec_faRun k (Prod.fst p0, Prod.fst (Prod.snd p0), Prod.snd (Prod.snd p0)) p1 p2) fun z1 => some ((Prod.fst (Prod.fst z1), Prod.fst (Prod.snd (Prod.fst z1)), Prod.snd (Prod.snd (Prod.fst z1))), true)
noncomputable def d_spec_FaultyFall : FnDef := .of q_spec_FaultyFall r_spec_FaultyFall ((Int × Int × Int) × Bool) (fun k x => f_spec_FaultyFall k x.1 x.2.1 x.2.2.1) to_spec_FaultyFall of_spec_FaultyFall to_of_spec_FaultyFall
noncomputable def c_spec_FaultyFall : Code := Try.f28.body.getD .skip
noncomputable def x_spec_FaultyFall : Ctx (Tup r_spec_FaultyFall × OutD) := { T := T, G := [(74, d_spec_faHas.E), (75, d_spec_faRun.E)], mvs := [], no := 0, n := 24, res := resOf T q_spec_FaultyFall r_spec_FaultyFall Try.f28.results.toList, loops := [], regs := [], conds := [] }
theorem g_spec_FaultyFall (k : Nat) : EnvOK Try.prog k x_spec_FaultyFall.G := (EnvOK.cons (s_spec_faHas k) (EnvOK.cons (s_spec_faRun k) (EnvOK.nil mixed)))
theorem h_spec_FaultyFall (k : Nat) (x : Tup d_spec_FaultyFall.ps) : d_spec_FaultyFall.f (k + 1) x = fnK d_spec_FaultyFall x_spec_FaultyFall c_spec_FaultyFall k x := by kernel_rfl
theorem z_spec_FaultyFall (x : Tup d_spec_FaultyFall.ps) : d_spec_FaultyFall.f 0 x = none := by kernel_rfl
theorem l_spec_FaultyFall (k : Nat) : LOK Try.prog x_spec_FaultyFall k c_spec_FaultyFall := LOK.by [] (by kernel_rfl) AllOK.nil
theorem s_spec_FaultyFall (k : Nat) : SoundAt Try.prog k 28 d_spec_FaultyFall.E := @fn_all Try.prog d_spec_FaultyFall x_spec_FaultyFall 28 Try.f28 c_spec_FaultyFall (by kernel_rfl) (by kernel_rfl) (by kernel_rfl) Try.func28 (by kernel_rfl) (by kernel_rfl) (by kernel_rfl) T_ok g_spec_FaultyFall l_spec_FaultyFall z_spec_FaultyFall h_spec_FaultyFall k
/-! function 29 -/
noncomputable def r_impl_FaultyFall : List PK := [{ t := Ty.pair (Ty.int IntKind.i64) (Ty.pair (Ty.int IntKind.i64) (Ty.int IntKind.i64)), agg := true }, { t := Ty.bool }]
noncomputable def q_impl_FaultyFall : List PK := [{ t := Ty.pair (Ty.int IntKind.i64) (Ty.pair (Ty.int IntKind.i64) (Ty.slice (123 : Nat) (Ty.pair (Ty.int IntKind.i64) (Ty.int IntKind.i64)))), agg := true }, { t := Ty.slice (87 : Nat) (Ty.pair (Ty.int IntKind.i64) (Ty.pair (Ty.int IntKind.i64) (Ty.int IntKind.i64))) }, { t := Ty.int IntKind.i64 }]
noncomputable def to_impl_FaultyFall (r : (Int × Int × Int) × Bool) : Tup r_impl_FaultyFall × OutD := ((r.1, r.2, ()), none)
noncomputable def of_impl_FaultyFall : Tup r_impl_FaultyFall × OutD → Option ((Int × Int × Int) × Bool)
  | (a, none) => some (a.1, a.2.1)
  | _ => none
theorem to_of_impl_FaultyFall : ∀ b r, of_impl_FaultyFall b = some r → to_impl_FaultyFall r = b := by
  rintro ⟨a, o⟩ r h
  cases o with
  | none => injection h with h; subst h; rfl
  | some _ => cases h
noncomputable def f_impl_FaultyFall : Nat → Int × Int × List (Int × Int) → List (Int × Int × Int) → Int → Option ((Int × Int × Int) × Bool)
  | 0, _, _, _ => none
  | k + 1, p0, p1, p2 =>
    Option.bind (f_impl_validEntry k (Prod.fst p0, Prod.fst (Prod.snd p0), Prod.snd (Prod.snd p0)) p2) fun z0 => if (!z0) = true then some (((0 : Int), (0 : Int), (0 : Int)), false) else Option.bind (f_impl_areFaults k (Prod.fst p0, Prod.fst (Prod.snd p0), Prod.snd (Prod.snd p0)) p1) fun z1 => if (!z1) = true then some (((0 : Int), (0 : Int), (0 : Int)), false) else Option.bind (f_impl_copyBoard k (Prod.fst p0, Prod.fst (Prod.snd p0), Prod.snd (Prod.snd p0))) fun z2 => Option.bind (f_impl_groupNumbers k (Prod.fst p0, Prod.fst (Prod.snd p0), Prod.snd (Prod.snd p0))) fun z3 => Option.bind (f_impl_faultsByCell k (Prod.fst p0, Prod.fst (Prod.snd p0), Prod.snd (Prod.snd p0)) p1) fun z4 => Option.bind (f_impl_faultyDrop k (Prod.fst z2, Prod.fst (Prod.snd z2), Prod.snd (Prod.snd z2)) z3 z4 p2) fun z5 => some ((Prod.fst (Prod.fst z5), Prod.fst (Prod.snd (Prod.fst z5)), Prod.snd (Prod.snd (Prod.fst z5))), true)
noncomputable def d_impl_FaultyFall : FnDef := .of q_impl_FaultyFall r_impl_FaultyFall ((Int × Int × Int) × Bool) (fun k x => f_impl_FaultyFall k x.1 x.2.1 x.2.2.1) to_impl_FaultyFall of_impl_FaultyFall to_of_impl_FaultyFall
noncomputable def c_impl_FaultyFall : Code := Try.f29.body.getD .skip
noncomputable def x_impl_FaultyFall : Ctx (Tup r_impl_FaultyFall × OutD) := { T := T, G := [(76, d_impl_validEntry.E), (68, d_impl_areFaults.E), (78, d_impl_copyBoard.E), (79, d_impl_groupNumbers.E), (80, d_impl_faultsByCell.E), (77, d_impl_faultyDrop.E)], mvs := [], no := 0, n := 28, res := resOf T q_impl_FaultyFall r_impl_FaultyFall Try.f29.results.toList, loops := [], regs := [], conds := [] }
theorem g_impl_FaultyFall (k : Nat) : EnvOK Try.prog k x_impl_FaultyFall.G := (EnvOK.cons (s_impl_validEntry k) (EnvOK.cons (s_impl_areFaults k) (EnvOK.cons (s_impl_copyBoard k) (EnvOK.cons (s_impl_groupNumbers k) (EnvOK.cons (s_impl_faultsByCell k) (EnvOK.cons (s_impl_faultyDrop k) (EnvOK.nil mixed)))))))
theorem h_impl_FaultyFall (k : Nat) (x : Tup d_impl_FaultyFall.ps) : d_impl_FaultyFall.f (k + 1) x = fnK d_impl_FaultyFall x_impl_FaultyFall c_impl_FaultyFall k x := by kernel_rfl
theorem z_impl_FaultyFall (x : Tup d_impl_FaultyFall.ps) : d_impl_FaultyFall.f 0 x = none := by kernel_rfl
theorem l_impl_FaultyFall (k : Nat) : LOK Try.prog x_impl_FaultyFall k c_impl_FaultyFall := LOK.by [] (by kernel_rfl) AllOK.nil
theorem s_impl_FaultyFall (k : Nat) : SoundAt Try.prog k 29 d_impl_FaultyFall.E := @fn_all Try.prog d_impl_FaultyFall x_impl_FaultyFall 29 Try.f29 c_impl_FaultyFall (by kernel_rfl) (by kernel_rfl) (by kernel_rfl) Try.func29 (by kernel_rfl) (by kernel_rfl) (by kernel_rfl) T_ok g_impl_FaultyFall l_impl_FaultyFall z_impl_FaultyFall h_impl_FaultyFall k
/-! function 32 -/
noncomputable def r_spec_SurprisesOf : List PK := [{ t := Ty.slice (3 : Nat) (Ty.int IntKind.i64) }, { t := Ty.bool }]
noncomputable def q_spec_SurprisesOf : List PK := [{ t := Ty.pair (Ty.int IntKind.i64) (Ty.pair (Ty.int IntKind.i64) (Ty.slice (123 : Nat) (Ty.pair (Ty.int IntKind.i64) (Ty.int IntKind.i64)))), agg := true }, { t := Ty.slice (3 : Nat) (Ty.int IntKind.i64) }, { t := Ty.slice (45 : Nat) (Ty.pair (Ty.int IntKind.i64) (Ty.pair (Ty.int IntKind.i64) (Ty.int IntKind.i64))) }]
noncomputable def to_spec_SurprisesOf (r : List Int × Bool) : Tup r_spec_SurprisesOf × OutD := ((r.1, r.2, ()), none)
noncomputable def of_spec_SurprisesOf : Tup r_spec_SurprisesOf × OutD → Option (List Int × Bool)
  | (a, none) => some (a.1, a.2.1)
  | _ => none
theorem to_of_spec_SurprisesOf : ∀ b r, of_spec_SurprisesOf b = some r → to_spec_SurprisesOf r = b := by
  rintro ⟨a, o⟩ r h
  cases o with
  | none => injection h with h; subst h; rfl
  | some _ => cases h
noncomputable def f_spec_SurprisesOf_0 : Nat → List Int → List (Int × Int × Int) → List (Int × Int × Int) → Int → Int → Option (List Int)
  | 0, _, _, _, _, _ => none
  | k + 1, o1, o2, v2, v25, v26 =>
    if decide (v26 < v25) = true then if (0 : Int) ≤ v26 then if v26 < (↑(List.length o2) : Int) then if (0 : Int) ≤ v26 then if v26 < (↑(List.length v2) : Int) then if (!(decide (Prod.fst (List.getD o2 (Int.toNat v26) ((0 : Int), (0 : Int), (0 : Int))) = Prod.fst (List.getD v2 (Int.toNat v26) ((0 : Int), (0 : Int), (0 : Int)))) && (decide (Prod.fst (Prod.snd (List.getD o2 (Int.toNat v26) ((0 : Int), (0 : Int), (0 : Int)))) = Prod.fst (Prod.snd (List.getD v2 (Int.toNat v26) ((0 : Int), (0 : Int), (0 : Int))))) && (decide (Prod.snd (Prod.snd (List.getD o2 (Int.toNat v26) ((0 : Int), (0 : Int), (0 : Int)))) = Prod.snd (Prod.snd (List.getD v2 (Int.toNat v26) ((0 : Int), (0 : Int), (0 : Int))))) && true)))) = true then if List.length o1 + List.length [v26] ≤ (140737488355328 / 8 : Nat) then f_spec_SurprisesOf_0 k (o1 ++ [v26]) o2 v2 v25 (wrap64 (v26 + (1 : Int))) else none else f_spec_SurprisesOf_0 k o1 o2 v2 v25 (wrap64 (v26 + (1 : Int))) else none else none else none else none else some o1
noncomputable def f_spec_SurprisesOf_0i : Spec := { objs := [OSh.ro, OSh.row true (3 : Nat) (Ty.int IntKind.i64), OSh.row true (45 : Nat) (Ty.pair (Ty.int IntKind.i64) (Ty.pair (Ty.int IntKind.i64) (Ty.int IntKind.i64)))], tmps := [((2 : Nat), TSh.at (Sh.snap (0 : Nat) (Ty.pair (Ty.int IntKind.i64) (Ty.pair (Ty.int IntKind.i64) (Ty.int IntKind.i64))))), ((10 : Nat), TSh.at (Sh.sl (1 : Nat))), ((24 : Nat), TSh.at (Sh.sl (2 : Nat))), ((25 : Nat), TSh.at (Sh.int IntKind.i64)), ((26 : Nat), TSh.at (Sh.int IntKind.i64))] }
noncomputable def f_spec_SurprisesOf_0o : Spec := { objs := [OSh.ro, OSh.row true (3 : Nat) (Ty.int IntKind.i64)], tmps := [((10 : Nat), TSh.at (Sh.sl (1 : Nat)))] }
noncomputable def f_spec_SurprisesOf_0D : LoopDef (Tup r_spec_SurprisesOf × OutD) := .plain f_spec_SurprisesOf_0i f_spec_SurprisesOf_0o (List Int) (fun k x => f_spec_SurprisesOf_0 k x.1.2.1 x.1.2.2.1 x.2.1 x.2.2.2.2.1 x.2.2.2.2.2.1) (fun z => (((), z, ()), ((), ()))) (fun y => (y.1.2.1)) (fun _ => rfl)
noncomputable def f_spec_SurprisesOf : Nat → Int × Int × List (Int × Int) → List Int → List (Int × Int × Int) → Option (List Int × Bool)
  | 0, _, _, _ => none
  | k + 1, p0, p1, p2 =>
    Option.bind (f_spec_dgGood k (Prod.fst p0, Prod.fst (Prod.snd p0), Prod.snd (Prod.snd p0)) p1 p2) fun z0 => if (!z0) = true then some ([], false) else Option.bind (f_spec_flAll k (Prod.fst p0, Prod.fst (Prod.snd p0), Prod.snd (Prod.snd p0)) p1) fun z1 => Option.bind (f_spec_SurprisesOf_0 k [] (Prod.fst z1) p2 (↑(List.length (Prod.fst z1)) : Int) (0 : Int)) fun z2 => some (z2, true)
noncomputable def d_spec_SurprisesOf : FnDef := .of q_spec_SurprisesOf r_spec_SurprisesOf (List Int × Bool) (fun k x => f_spec_SurprisesOf k x.1 x.2.1 x.2.2.1) to_spec_SurprisesOf of_spec_SurprisesOf to_of_spec_SurprisesOf
noncomputable def c_spec_SurprisesOf : Code := Try.f32.body.getD .skip
noncomputable def x_spec_SurprisesOf : Ctx (Tup r_spec_SurprisesOf × OutD) := { T := T, G := [(81, d_spec_dgGood.E), (82, d_spec_flAll.E)], mvs := [], no := 0, n := 43, res := resOf T q_spec_SurprisesOf r_spec_SurprisesOf Try.f32.results.toList, loops := [(0, f_spec_SurprisesOf_0D.E)], regs := [], conds := [] }
theorem g_spec_SurprisesOf (k : Nat) : EnvOK Try.prog k x_spec_SurprisesOf.G := (EnvOK.cons (s_spec_dgGood k) (EnvOK.cons (s_spec_flAll k) (EnvOK.nil mixed)))
noncomputable def f_spec_SurprisesOf_0B : Code := (findLoop 0 c_spec_SurprisesOf).getD .skip
theorem f_spec_SurprisesOf_0h (k : Nat) (x : f_spec_SurprisesOf_0i.D) : f_spec_SurprisesOf_0D.lp (k + 1) x = loopK x_spec_SurprisesOf f_spec_SurprisesOf_0D 0 f_spec_SurprisesOf_0B k x := by kernel_rfl
theorem f_spec_SurprisesOf_0l (k : Nat) : LOK Try.prog x_spec_SurprisesOf k f_spec_SurprisesOf_0B := LOK.by [] (by kernel_rfl) AllOK.nil
theorem f_spec_SurprisesOf_0z (x : f_spec_SurprisesOf_0i.D) : f_spec_SurprisesOf_0D.lp 0 x = none := by kernel_rfl
theorem f_spec_SurprisesOf_0ok (k : Nat) : EOK Try.prog x_spec_SurprisesOf k f_spec_SurprisesOf_0D.E (.block 0 (.loop f_spec_SurprisesOf_0B)) := loop_ok T_ok g_spec_SurprisesOf f_spec_SurprisesOf_0z f_spec_SurprisesOf_0h f_spec_SurprisesOf_0l k
theorem h_spec_SurprisesOf (k : Nat) (x : Tup d_spec_SurprisesOf.ps) : d_spec_SurprisesOf.f (k + 1) x = fnK d_spec_SurprisesOf x_spec_SurprisesOf c_spec_SurprisesOf k x := by kernel_rfl
theorem z_spec_SurprisesOf (x : Tup d_spec_SurprisesOf.ps) : d_spec_SurprisesOf.f 0 x = none := by kernel_rfl
theorem l_spec_SurprisesOf (k : Nat) : LOK Try.prog x_spec_SurprisesOf k c_spec_SurprisesOf := LOK.by [(f_spec_SurprisesOf_0D.E, .block 0 (.loop f_spec_SurprisesOf_0B))] (by kernel_rfl) (AllOK.cons (f_spec_SurprisesOf_0ok k) AllOK.nil)
theorem s_spec_SurprisesOf (k : Nat) : SoundAt Try.prog k 32 d_spec_SurprisesOf.E := @fn_all Try.prog d_spec_SurprisesOf x_spec_SurprisesOf 32 Try.f32 c_spec_SurprisesOf (by kernel_rfl) (by kernel_rfl) (by kernel_rfl) Try.func32 (by kernel_rfl) (by kernel_rfl) (by kernel_rfl) T_ok g_spec_SurprisesOf l_spec_SurprisesOf z_spec_SurprisesOf h_spec_SurprisesOf k
/-! function 35 -/
noncomputable def r_impl_SurprisesOf : List PK := [{ t := Ty.slice (3 : Nat) (Ty.int IntKind.i64) }, { t := Ty.bool }]
noncomputable def q_impl_SurprisesOf : List PK := [{ t := Ty.pair (Ty.int IntKind.i64) (Ty.pair (Ty.int IntKind.i64) (Ty.slice (123 : Nat) (Ty.pair (Ty.int IntKind.i64) (Ty.int IntKind.i64)))), agg := true }, { t := Ty.slice (3 : Nat) (Ty.int IntKind.i64) }, { t := Ty.slice (45 : Nat) (Ty.pair (Ty.int IntKind.i64) (Ty.pair (Ty.int IntKind.i64) (Ty.int IntKind.i64))) }]
noncomputable def to_impl_SurprisesOf (r : List Int × Bool) : Tup r_impl_SurprisesOf × OutD := ((r.1, r.2, ()), none)
noncomputable def of_impl_SurprisesOf : Tup r_impl_SurprisesOf × OutD → Option (List Int × Bool)
  | (a, none) => some (a.1, a.2.1)
  | _ => none
theorem to_of_impl_SurprisesOf : ∀ b r, of_impl_SurprisesOf b = some r → to_impl_SurprisesOf r = b := by
  rintro ⟨a, o⟩ r h
  cases o with
  | none => injection h with h; subst h; rfl
  | some _ => cases h
noncomputable def f_impl_SurprisesOf_0 : Nat → List Int → List (Int × Int × Int) → List (Int × Int × Int) → Int → Int → Option (List Int)
  | 0, _, _, _, _, _ => none
  | k + 1, o1, o2, v2, v26, v27 =>
    if decide (v27 < v26) = true then if (0 : Int) ≤ v27 then if v27 < (↑(List.length o2) : Int) then if (0 : Int) ≤ v27 then if v27 < (↑(List.length v2) : Int) then if (!(decide (Prod.fst (List.getD o2 (Int.toNat v27) ((0 : Int), (0 : Int), (0 : Int))) = Prod.fst (List.getD v2 (Int.toNat v27) ((0 : Int), (0 : Int), (0 : Int)))) && (decide (Prod.fst (Prod.snd (List.getD o2 (Int.toNat v27) ((0 : Int), (0 : Int), (0 : Int)))) = Prod.fst (Prod.snd (List.getD v2 (Int.toNat v27) ((0 : Int), (0 : Int), (0 : Int))))) && (decide (Prod.snd (Prod.snd (List.getD o2 (Int.toNat v27) ((0 : Int), (0 : Int), (0 : Int)))) = Prod.snd (Prod.snd (List.getD v2 (Int.toNat v27) ((0 : Int), (0 : Int), (0 : Int))))) && true)))) = true then if List.length o1 + List.length [v27] ≤ (140737488355328 / 8 : Nat) then f_impl_SurprisesOf_0 k (o1 ++ [v27]) o2 v2 v26 (wrap64 (v27 + (1 : Int))) else none else f_impl_SurprisesOf_0 k o1 o2 v2 v26 (wrap64 (v27 + (1 : Int))) else none else none else none else none else some o1
noncomputable def f_impl_SurprisesOf_0i : Spec := { objs := [OSh.ro, OSh.row true (3 : Nat) (Ty.int IntKind.i64), OSh.row true (45 : Nat) (Ty.pair (Ty.int IntKind.i64) (Ty.pair (Ty.int IntKind.i64) (Ty.int IntKind.i64)))], tmps := [((2 : Nat), TSh.at (Sh.snap (0 : Nat) (Ty.pair (Ty.int IntKind.i64) (Ty.pair (Ty.int IntKind.i64) (Ty.int IntKind.i64))))), ((8 : Nat), TSh.at (Sh.sl (1 : Nat))), ((25 : Nat), TSh.at (Sh.sl (2 : Nat))), ((26 : Nat), TSh.at (Sh.int IntKind.i64)), ((27 : Nat), TSh.at (Sh.int IntKind.i64))] }
noncomputable def f_impl_SurprisesOf_0o : Spec := { objs := [OSh.ro, OSh.row true (3 : Nat) (Ty.int IntKind.i64)], tmps := [((8 : Nat), TSh.at (Sh.sl (1 : Nat)))] }
noncomputable def f_impl_SurprisesOf_0D : LoopDef (Tup r_impl_SurprisesOf × OutD) := .plain f_impl_SurprisesOf_0i f_impl_SurprisesOf_0o (List Int) (fun k x => f_impl_SurprisesOf_0 k x.1.2.1 x.1.2.2.1 x.2.1 x.2.2.2.2.1 x.2.2.2.2.2.1) (fun z => (((), z, ()), ((), ()))) (fun y => (y.1.2.1)) (fun _ => rfl)
noncomputable def f_impl_SurprisesOf : Nat → Int × Int × List (Int × Int) → List Int → List (Int × Int × Int) → Option (List Int × Bool)
  | 0, _, _, _ => none
  | k + 1, p0, p1, p2 =>
    Option.bind (f_impl_isSeen k (Prod.fst p0, Prod.fst (Prod.snd p0), Prod.snd (Prod.snd p0)) p1 p2) fun z0 => if (!z0) = true then some ([], false) else Option.bind (f_impl_dropAll k (Prod.fst p0, Prod.fst (Prod.snd p0), Prod.snd (Prod.snd p0)) p1) fun z1 => Option.bind (f_impl_SurprisesOf_0 k [] (Prod.fst z1) p2 (↑(List.length (Prod.fst z1)) : Int) (0 : Int)) fun z2 => some (z2, true)
noncomputable def d_impl_SurprisesOf : FnDef := .of q_impl_SurprisesOf r_impl_SurprisesOf (List Int × Bool) (fun k x => f_impl_SurprisesOf k x.1 x.2.1 x.2.2.1) to_impl_SurprisesOf of_impl_SurprisesOf to_of_impl_SurprisesOf
noncomputable def c_impl_SurprisesOf : Code := Try.f35.body.getD .skip
noncomputable def x_impl_SurprisesOf : Ctx (Tup r_impl_SurprisesOf × OutD) := { T := T, G := [(84, d_impl_isSeen.E), (85, d_impl_dropAll.E)], mvs := [], no := 0, n := 44, res := resOf T q_impl_SurprisesOf r_impl_SurprisesOf Try.f35.results.toList, loops := [(0, f_impl_SurprisesOf_0D.E)], regs := [], conds := [] }
theorem g_impl_SurprisesOf (k : Nat) : EnvOK Try.prog k x_impl_SurprisesOf.G := (EnvOK.cons (s_impl_isSeen k) (EnvOK.cons (s_impl_dropAll k) (EnvOK.nil mixed)))
noncomputable def f_impl_SurprisesOf_0B : Code := (findLoop 0 c_impl_SurprisesOf).getD .skip
theorem f_impl_SurprisesOf_0h (k : Nat) (x : f_impl_SurprisesOf_0i.D) : f_impl_SurprisesOf_0D.lp (k + 1) x = loopK x_impl_SurprisesOf f_impl_SurprisesOf_0D 0 f_impl_SurprisesOf_0B k x := by kernel_rfl
theorem f_impl_SurprisesOf_0l (k : Nat) : LOK Try.prog x_impl_SurprisesOf k f_impl_SurprisesOf_0B := LOK.by [] (by kernel_rfl) AllOK.nil
theorem f_impl_SurprisesOf_0z (x : f_impl_SurprisesOf_0i.D) : f_impl_SurprisesOf_0D.lp 0 x = none := by kernel_rfl
theorem f_impl_SurprisesOf_0ok (k : Nat) : EOK Try.prog x_impl_SurprisesOf k f_impl_SurprisesOf_0D.E (.block 0 (.loop f_impl_SurprisesOf_0B)) := loop_ok T_ok g_impl_SurprisesOf f_impl_SurprisesOf_0z f_impl_SurprisesOf_0h f_impl_SurprisesOf_0l k
theorem h_impl_SurprisesOf (k : Nat) (x : Tup d_impl_SurprisesOf.ps) : d_impl_SurprisesOf.f (k + 1) x = fnK d_impl_SurprisesOf x_impl_SurprisesOf c_impl_SurprisesOf k x := by kernel_rfl
theorem z_impl_SurprisesOf (x : Tup d_impl_SurprisesOf.ps) : d_impl_SurprisesOf.f 0 x = none := by kernel_rfl
theorem l_impl_SurprisesOf (k : Nat) : LOK Try.prog x_impl_SurprisesOf k c_impl_SurprisesOf := LOK.by [(f_impl_SurprisesOf_0D.E, .block 0 (.loop f_impl_SurprisesOf_0B))] (by kernel_rfl) (AllOK.cons (f_impl_SurprisesOf_0ok k) AllOK.nil)
theorem s_impl_SurprisesOf (k : Nat) : SoundAt Try.prog k 35 d_impl_SurprisesOf.E := @fn_all Try.prog d_impl_SurprisesOf x_impl_SurprisesOf 35 Try.f35 c_impl_SurprisesOf (by kernel_rfl) (by kernel_rfl) (by kernel_rfl) Try.func35 (by kernel_rfl) (by kernel_rfl) (by kernel_rfl) T_ok g_impl_SurprisesOf l_impl_SurprisesOf z_impl_SurprisesOf h_impl_SurprisesOf k
/-! function 41 -/
noncomputable def r_spec_FaultyBoard : List PK := [{ t := Ty.pair (Ty.int IntKind.i64) (Ty.pair (Ty.int IntKind.i64) (Ty.slice (123 : Nat) (Ty.pair (Ty.int IntKind.i64) (Ty.int IntKind.i64)))), agg := true }, { t := Ty.bool }]
noncomputable def q_spec_FaultyBoard : List PK := [{ t := Ty.pair (Ty.int IntKind.i64) (Ty.pair (Ty.int IntKind.i64) (Ty.slice (123 : Nat) (Ty.pair (Ty.int IntKind.i64) (Ty.int IntKind.i64)))), agg := true }, { t := Ty.slice (87 : Nat) (Ty.pair (Ty.int IntKind.i64) (Ty.pair (Ty.int IntKind.i64) (Ty.int IntKind.i64))) }, { t := Ty.int IntKind.i64 }]
noncomputable def to_spec_FaultyBoard (r : (Int × Int × List (Int × Int)) × Bool) : Tup r_spec_FaultyBoard × OutD := ((r.1, r.2, ()), none)
noncomputable def of_spec_FaultyBoard : Tup r_spec_FaultyBoard × OutD → Option ((Int × Int × List (Int × Int)) × Bool)
  | (a, none) => some (a.1, a.2.1)
  | _ => none
theorem to_of_spec_FaultyBoard : ∀ b r, of_spec_FaultyBoard b = some r → to_spec_FaultyBoard r = b := by
  rintro ⟨a, o⟩ r h
  cases o with
  | none => injection h with h; subst h; rfl
  | some _ => cases h
noncomputable def f_spec_FaultyBoard : Nat → Int × Int × List (Int × Int) → List (Int × Int × Int) → Int → Option ((Int × Int × List (Int × Int)) × Bool)
  | 0, _, _, _ => none
  | k + 1, p0, p1, p2 =>
    Option.bind (f_spec_faHas k (Prod.fst p0, Prod.fst (Prod.snd p0), Prod.snd (Prod.snd p0)) p1 p2) fun z0 => if (!z0) = true then some (((0 : Int), (0 : Int), []), false) else Option.bind (f_spec_faRun k (Prod.fst p0, Prod.fst (Prod.snd p0), Prod.snd (Prod.snd p0)) p1 p2) fun z1 => some ((Prod.fst (Prod.snd z1), Prod.fst (Prod.snd (Prod.snd z1)), Prod.snd (Prod.snd (Prod.snd z1))), true)
noncomputable def d_spec_FaultyBoard : FnDef := .of q_spec_FaultyBoard r_spec_FaultyBoard ((Int × Int × List (Int × Int)) × Bool) (fun k x => f_spec_FaultyBoard k x.1 x.2.1 x.2.2.1) to_spec_FaultyBoard of_spec_FaultyBoard to_of_spec_FaultyBoard
noncomputable def c_spec_FaultyBoard : Code := Try.f41.body.getD .skip
noncomputable def x_spec_FaultyBoard : Ctx (Tup r_spec_FaultyBoard × OutD) := { T := T, G := [(74, d_spec_faHas.E), (75, d_spec_faRun.E)], mvs := [], no := 0, n := 24, res := resOf T q_spec_FaultyBoard r_spec_FaultyBoard Try.f41.results.toList, loops := [], regs := [], conds := [] }
theorem g_spec_FaultyBoard (k : Nat) : EnvOK Try.prog k x_spec_FaultyBoard.G := (EnvOK.cons (s_spec_faHas k) (EnvOK.cons (s_spec_faRun k) (EnvOK.nil mixed)))
theorem h_spec_FaultyBoard (k : Nat) (x : Tup d_spec_FaultyBoard.ps) : d_spec_FaultyBoard.f (k + 1) x = fnK d_spec_FaultyBoard x_spec_FaultyBoard c_spec_FaultyBoard k x := by kernel_rfl
theorem z_spec_FaultyBoard (x : Tup d_spec_FaultyBoard.ps) : d_spec_FaultyBoard.f 0 x = none := by kernel_rfl
theorem l_spec_FaultyBoard (k : Nat) : LOK Try.prog x_spec_FaultyBoard k c_spec_FaultyBoard := LOK.by [] (by kernel_rfl) AllOK.nil
theorem s_spec_FaultyBoard (k : Nat) : SoundAt Try.prog k 41 d_spec_FaultyBoard.E := @fn_all Try.prog d_spec_FaultyBoard x_spec_FaultyBoard 41 Try.f41 c_spec_FaultyBoard (by kernel_rfl) (by kernel_rfl) (by kernel_rfl) Try.func41 (by kernel_rfl) (by kernel_rfl) (by kernel_rfl) T_ok g_spec_FaultyBoard l_spec_FaultyBoard z_spec_FaultyBoard h_spec_FaultyBoard k
/-! function 42 -/
noncomputable def r_impl_FaultyBoard : List PK := [{ t := Ty.pair (Ty.int IntKind.i64) (Ty.pair (Ty.int IntKind.i64) (Ty.slice (123 : Nat) (Ty.pair (Ty.int IntKind.i64) (Ty.int IntKind.i64)))), agg := true }, { t := Ty.bool }]
noncomputable def q_impl_FaultyBoard : List PK := [{ t := Ty.pair (Ty.int IntKind.i64) (Ty.pair (Ty.int IntKind.i64) (Ty.slice (123 : Nat) (Ty.pair (Ty.int IntKind.i64) (Ty.int IntKind.i64)))), agg := true }, { t := Ty.slice (87 : Nat) (Ty.pair (Ty.int IntKind.i64) (Ty.pair (Ty.int IntKind.i64) (Ty.int IntKind.i64))) }, { t := Ty.int IntKind.i64 }]
noncomputable def to_impl_FaultyBoard (r : (Int × Int × List (Int × Int)) × Bool) : Tup r_impl_FaultyBoard × OutD := ((r.1, r.2, ()), none)
noncomputable def of_impl_FaultyBoard : Tup r_impl_FaultyBoard × OutD → Option ((Int × Int × List (Int × Int)) × Bool)
  | (a, none) => some (a.1, a.2.1)
  | _ => none
theorem to_of_impl_FaultyBoard : ∀ b r, of_impl_FaultyBoard b = some r → to_impl_FaultyBoard r = b := by
  rintro ⟨a, o⟩ r h
  cases o with
  | none => injection h with h; subst h; rfl
  | some _ => cases h
noncomputable def f_impl_FaultyBoard : Nat → Int × Int × List (Int × Int) → List (Int × Int × Int) → Int → Option ((Int × Int × List (Int × Int)) × Bool)
  | 0, _, _, _ => none
  | k + 1, p0, p1, p2 =>
    Option.bind (f_impl_validEntry k (Prod.fst p0, Prod.fst (Prod.snd p0), Prod.snd (Prod.snd p0)) p2) fun z0 => if (!z0) = true then some (((0 : Int), (0 : Int), []), false) else Option.bind (f_impl_areFaults k (Prod.fst p0, Prod.fst (Prod.snd p0), Prod.snd (Prod.snd p0)) p1) fun z1 => if (!z1) = true then some (((0 : Int), (0 : Int), []), false) else Option.bind (f_impl_copyBoard k (Prod.fst p0, Prod.fst (Prod.snd p0), Prod.snd (Prod.snd p0))) fun z2 => Option.bind (f_impl_groupNumbers k (Prod.fst p0, Prod.fst (Prod.snd p0), Prod.snd (Prod.snd p0))) fun z3 => Option.bind (f_impl_faultsByCell k (Prod.fst p0, Prod.fst (Prod.snd p0), Prod.snd (Prod.snd p0)) p1) fun z4 => Option.bind (f_impl_faultyDrop k (Prod.fst z2, Prod.fst (Prod.snd z2), Prod.snd (Prod.snd z2)) z3 z4 p2) fun z5 => some ((Prod.fst z2, Prod.fst (Prod.snd z2), Prod.snd z5), true)
noncomputable def d_impl_FaultyBoard : FnDef := .of q_impl_FaultyBoard r_impl_FaultyBoard ((Int × Int × List (Int × Int)) × Bool) (fun k x => f_impl_FaultyBoard k x.1 x.2.1 x.2.2.1) to_impl_FaultyBoard of_impl_FaultyBoard to_of_impl_FaultyBoard
noncomputable def c_impl_FaultyBoard : Code := Try.f42.body.getD .skip
noncomputable def x_impl_FaultyBoard : Ctx (Tup r_impl_FaultyBoard × OutD) := { T := T, G := [(76, d_impl_validEntry.E), (68, d_impl_areFaults.E), (78, d_impl_copyBoard.E), (79, d_impl_groupNumbers.E), (80, d_impl_faultsByCell.E), (77, d_impl_faultyDrop.E)], mvs := [], no := 0, n := 31, res := resOf T q_impl_FaultyBoard r_impl_FaultyBoard Try.f42.results.toList, loops := [], regs := [], conds := [] }
theorem g_impl_FaultyBoard (k : Nat) : EnvOK Try.prog k x_impl_FaultyBoard.G := (EnvOK.cons (s_impl_validEntry k) (EnvOK.cons (s_impl_areFaults k) (EnvOK.cons (s_impl_copyBoard k) (EnvOK.cons (s_impl_groupNumbers k) (EnvOK.cons (s_impl_faultsByCell k) (EnvOK.cons (s_impl_faultyDrop k) (EnvOK.nil mixed)))))))
theorem h_impl_FaultyBoard (k : Nat) (x : Tup d_impl_FaultyBoard.ps) : d_impl_FaultyBoard.f (k + 1) x = fnK d_impl_FaultyBoard x_impl_FaultyBoard c_impl_FaultyBoard k x := by kernel_rfl
theorem z_impl_FaultyBoard (x : Tup d_impl_FaultyBoard.ps) : d_impl_FaultyBoard.f 0 x = none := by kernel_rfl
theorem l_impl_FaultyBoard (k : Nat) : LOK Try.prog x_impl_FaultyBoard k c_impl_FaultyBoard := LOK.by [] (by kernel_rfl) AllOK.nil
theorem s_impl_FaultyBoard (k : Nat) : SoundAt Try.prog k 42 d_impl_FaultyBoard.E := @fn_all Try.prog d_impl_FaultyBoard x_impl_FaultyBoard 42 Try.f42 c_impl_FaultyBoard (by kernel_rfl) (by kernel_rfl) (by kernel_rfl) Try.func42 (by kernel_rfl) (by kernel_rfl) (by kernel_rfl) T_ok g_impl_FaultyBoard l_impl_FaultyBoard z_impl_FaultyBoard h_impl_FaultyBoard k
/-! function 46 -/
noncomputable def r_spec_ExplainsEnds : List PK := [{ t := Ty.bool }, { t := Ty.bool }]
noncomputable def q_spec_ExplainsEnds : List PK := [{ t := Ty.pair (Ty.int IntKind.i64) (Ty.pair (Ty.int IntKind.i64) (Ty.slice (123 : Nat) (Ty.pair (Ty.int IntKind.i64) (Ty.int IntKind.i64)))), agg := true }, { t := Ty.slice (87 : Nat) (Ty.pair (Ty.int IntKind.i64) (Ty.pair (Ty.int IntKind.i64) (Ty.int IntKind.i64))) }, { t := Ty.slice (3 : Nat) (Ty.int IntKind.i64) }, { t := Ty.slice (45 : Nat) (Ty.pair (Ty.int IntKind.i64) (Ty.pair (Ty.int IntKind.i64) (Ty.int IntKind.i64))) }]
noncomputable def to_spec_ExplainsEnds (r : Bool × Bool) : Tup r_spec_ExplainsEnds × OutD := ((r.1, r.2, ()), none)
noncomputable def of_spec_ExplainsEnds : Tup r_spec_ExplainsEnds × OutD → Option (Bool × Bool)
  | (a, none) => some (a.1, a.2.1)
  | _ => none
theorem to_of_spec_ExplainsEnds : ∀ b r, of_spec_ExplainsEnds b = some r → to_spec_ExplainsEnds r = b := by
  rintro ⟨a, o⟩ r h
  cases o with
  | none => injection h with h; subst h; rfl
  | some _ => cases h
noncomputable def f_spec_ExplainsEnds : Nat → Int × Int × List (Int × Int) → List (Int × Int × Int) → List Int → List (Int × Int × Int) → Option (Bool × Bool)
  | 0, _, _, _, _ => none
  | k + 1, p0, p1, p2, p3 =>
    Option.bind (f_spec_dgGood k (Prod.fst p0, Prod.fst (Prod.snd p0), Prod.snd (Prod.snd p0)) p2 p3) fun z0 => if (!z0) = true then some (false, false) else Option.bind (f_spec_faGood k (Prod.fst p0, Prod.fst (Prod.snd p0), Prod.snd (Prod.snd p0)) p1) fun z1 => if (!z1) = true then some (false, false) else Option.bind (f_spec_dgExplains k (Prod.fst p0, Prod.fst (Prod.snd p0), Prod.snd (Prod.snd p0)) p1 p2 p3) fun z2 => some (z2, true)
noncomputable def d_spec_ExplainsEnds : FnDef := .of q_spec_ExplainsEnds r_spec_ExplainsEnds (Bool × Bool) (fun k x => f_spec_ExplainsEnds k x.1 x.2.1 x.2.2.1 x.2.2.2.1) to_spec_ExplainsEnds of_spec_ExplainsEnds to_of_spec_ExplainsEnds
noncomputable def c_spec_ExplainsEnds : Code := Try.f46.body.getD .skip
noncomputable def x_spec_ExplainsEnds : Ctx (Tup r_spec_ExplainsEnds × OutD) := { T := T, G := [(81, d_spec_dgGood.E), (64, d_spec_faGood.E), (90, d_spec_dgExplains.E)], mvs := [], no := 0, n := 26, res := resOf T q_spec_ExplainsEnds r_spec_ExplainsEnds Try.f46.results.toList, loops := [], regs := [], conds := [] }
theorem g_spec_ExplainsEnds (k : Nat) : EnvOK Try.prog k x_spec_ExplainsEnds.G := (EnvOK.cons (s_spec_dgGood k) (EnvOK.cons (s_spec_faGood k) (EnvOK.cons (s_spec_dgExplains k) (EnvOK.nil mixed))))
theorem h_spec_ExplainsEnds (k : Nat) (x : Tup d_spec_ExplainsEnds.ps) : d_spec_ExplainsEnds.f (k + 1) x = fnK d_spec_ExplainsEnds x_spec_ExplainsEnds c_spec_ExplainsEnds k x := by kernel_rfl
theorem z_spec_ExplainsEnds (x : Tup d_spec_ExplainsEnds.ps) : d_spec_ExplainsEnds.f 0 x = none := by kernel_rfl
theorem l_spec_ExplainsEnds (k : Nat) : LOK Try.prog x_spec_ExplainsEnds k c_spec_ExplainsEnds := LOK.by [] (by kernel_rfl) AllOK.nil
theorem s_spec_ExplainsEnds (k : Nat) : SoundAt Try.prog k 46 d_spec_ExplainsEnds.E := @fn_all Try.prog d_spec_ExplainsEnds x_spec_ExplainsEnds 46 Try.f46 c_spec_ExplainsEnds (by kernel_rfl) (by kernel_rfl) (by kernel_rfl) Try.func46 (by kernel_rfl) (by kernel_rfl) (by kernel_rfl) T_ok g_spec_ExplainsEnds l_spec_ExplainsEnds z_spec_ExplainsEnds h_spec_ExplainsEnds k
/-! function 47 -/
noncomputable def r_impl_ExplainsEnds : List PK := [{ t := Ty.bool }, { t := Ty.bool }]
noncomputable def q_impl_ExplainsEnds : List PK := [{ t := Ty.pair (Ty.int IntKind.i64) (Ty.pair (Ty.int IntKind.i64) (Ty.slice (123 : Nat) (Ty.pair (Ty.int IntKind.i64) (Ty.int IntKind.i64)))), agg := true }, { t := Ty.slice (87 : Nat) (Ty.pair (Ty.int IntKind.i64) (Ty.pair (Ty.int IntKind.i64) (Ty.int IntKind.i64))) }, { t := Ty.slice (3 : Nat) (Ty.int IntKind.i64) }, { t := Ty.slice (45 : Nat) (Ty.pair (Ty.int IntKind.i64) (Ty.pair (Ty.int IntKind.i64) (Ty.int IntKind.i64))) }]
noncomputable def to_impl_ExplainsEnds (r : Bool × Bool) : Tup r_impl_ExplainsEnds × OutD := ((r.1, r.2, ()), none)
noncomputable def of_impl_ExplainsEnds : Tup r_impl_ExplainsEnds × OutD → Option (Bool × Bool)
  | (a, none) => some (a.1, a.2.1)
  | _ => none
theorem to_of_impl_ExplainsEnds : ∀ b r, of_impl_ExplainsEnds b = some r → to_impl_ExplainsEnds r = b := by
  rintro ⟨a, o⟩ r h
  cases o with
  | none => injection h with h; subst h; rfl
  | some _ => cases h
noncomputable def f_impl_ExplainsEnds : Nat → Int × Int × List (Int × Int) → List (Int × Int × Int) → List Int → List (Int × Int × Int) → Option (Bool × Bool)
  | 0, _, _, _, _ => none
  | k + 1, p0, p1, p2, p3 =>
    Option.bind (f_impl_isSeen k (Prod.fst p0, Prod.fst (Prod.snd p0), Prod.snd (Prod.snd p0)) p2 p3) fun z0 => if (!z0) = true then some (false, false) else Option.bind (f_impl_areFaults k (Prod.fst p0, Prod.fst (Prod.snd p0), Prod.snd (Prod.snd p0)) p1) fun z1 => if (!z1) = true then some (false, false) else Option.bind (f_impl_explainsEnds k (Prod.fst p0, Prod.fst (Prod.snd p0), Prod.snd (Prod.snd p0)) p1 p2 p3) fun z2 => some (z2, true)
noncomputable def d_impl_ExplainsEnds : FnDef := .of q_impl_ExplainsEnds r_impl_ExplainsEnds (Bool × Bool) (fun k x => f_impl_ExplainsEnds k x.1 x.2.1 x.2.2.1 x.2.2.2.1) to_impl_ExplainsEnds of_impl_ExplainsEnds to_of_impl_ExplainsEnds
noncomputable def c_impl_ExplainsEnds : Code := Try.f47.body.getD .skip
noncomputable def x_impl_ExplainsEnds : Ctx (Tup r_impl_ExplainsEnds × OutD) := { T := T, G := [(84, d_impl_isSeen.E), (68, d_impl_areFaults.E), (91, d_impl_explainsEnds.E)], mvs := [], no := 0, n := 26, res := resOf T q_impl_ExplainsEnds r_impl_ExplainsEnds Try.f47.results.toList, loops := [], regs := [], conds := [] }
theorem g_impl_ExplainsEnds (k : Nat) : EnvOK Try.prog k x_impl_ExplainsEnds.G := (EnvOK.cons (s_impl_isSeen k) (EnvOK.cons (s_impl_areFaults k) (EnvOK.cons (s_impl_explainsEnds k) (EnvOK.nil mixed))))
theorem h_impl_ExplainsEnds (k : Nat) (x : Tup d_impl_ExplainsEnds.ps) : d_impl_ExplainsEnds.f (k + 1) x = fnK d_impl_ExplainsEnds x_impl_ExplainsEnds c_impl_ExplainsEnds k x := by kernel_rfl
theorem z_impl_ExplainsEnds (x : Tup d_impl_ExplainsEnds.ps) : d_impl_ExplainsEnds.f 0 x = none := by kernel_rfl
theorem l_impl_ExplainsEnds (k : Nat) : LOK Try.prog x_impl_ExplainsEnds k c_impl_ExplainsEnds := LOK.by [] (by kernel_rfl) AllOK.nil
theorem s_impl_ExplainsEnds (k : Nat) : SoundAt Try.prog k 47 d_impl_ExplainsEnds.E := @fn_all Try.prog d_impl_ExplainsEnds x_impl_ExplainsEnds 47 Try.f47 c_impl_ExplainsEnds (by kernel_rfl) (by kernel_rfl) (by kernel_rfl) Try.func47 (by kernel_rfl) (by kernel_rfl) (by kernel_rfl) T_ok g_impl_ExplainsEnds l_impl_ExplainsEnds z_impl_ExplainsEnds h_impl_ExplainsEnds k
/-! function 50 -/
noncomputable def r_spec_FirstSeen : List PK := [{ t := Ty.int IntKind.i64 }, { t := Ty.bool }]
noncomputable def q_spec_FirstSeen : List PK := [{ t := Ty.pair (Ty.int IntKind.i64) (Ty.pair (Ty.int IntKind.i64) (Ty.slice (123 : Nat) (Ty.pair (Ty.int IntKind.i64) (Ty.int IntKind.i64)))), agg := true }, { t := Ty.slice (87 : Nat) (Ty.pair (Ty.int IntKind.i64) (Ty.pair (Ty.int IntKind.i64) (Ty.int IntKind.i64))) }, { t := Ty.slice (3 : Nat) (Ty.int IntKind.i64) }]
noncomputable def to_spec_FirstSeen (r : Int × Bool) : Tup r_spec_FirstSeen × OutD := ((r.1, r.2, ()), none)
noncomputable def of_spec_FirstSeen : Tup r_spec_FirstSeen × OutD → Option (Int × Bool)
  | (a, none) => some (a.1, a.2.1)
  | _ => none
theorem to_of_spec_FirstSeen : ∀ b r, of_spec_FirstSeen b = some r → to_spec_FirstSeen r = b := by
  rintro ⟨a, o⟩ r h
  cases o with
  | none => injection h with h; subst h; rfl
  | some _ => cases h
noncomputable def f_spec_FirstSeen : Nat → Int × Int × List (Int × Int) → List (Int × Int × Int) → List Int → Option (Int × Bool)
  | 0, _, _, _ => none
  | k + 1, p0, p1, p2 =>
    Option.bind (f_spec_flColumns k (Prod.fst p0, Prod.fst (Prod.snd p0), Prod.snd (Prod.snd p0)) p2) fun z0 => if (!z0) = true then some ((0 : Int), false) else Option.bind (f_spec_faGood k (Prod.fst p0, Prod.fst (Prod.snd p0), Prod.snd (Prod.snd p0)) p1) fun z1 => if (!z1) = true then some ((0 : Int), false) else Option.bind (f_spec_faSeen k (Prod.fst p0, Prod.fst (Prod.snd p0), Prod.snd (Prod.snd p0)) p1 p2) fun z2 => if decide (z2 < (0 : Int)) = true then some ((0 : Int), false) else Option.bind (f_spec_faSeen k (Prod.fst p0, Prod.fst (Prod.snd p0), Prod.snd (Prod.snd p0)) p1 p2) fun z3 => some (z3, true)
noncomputable def d_spec_FirstSeen : FnDef := .of q_spec_FirstSeen r_spec_FirstSeen (Int × Bool) (fun k x => f_spec_FirstSeen k x.1 x.2.1 x.2.2.1) to_spec_FirstSeen of_spec_FirstSeen to_of_spec_FirstSeen
noncomputable def c_spec_FirstSeen : Code := Try.f50.body.getD .skip
noncomputable def x_spec_FirstSeen : Ctx (Tup r_spec_FirstSeen × OutD) := { T := T, G := [(87, d_spec_flColumns.E), (64, d_spec_faGood.E), (96, d_spec_faSeen.E)], mvs := [], no := 0, n := 29, res := resOf T q_spec_FirstSeen r_spec_FirstSeen Try.f50.results.toList, loops := [], regs := [], conds := [] }
theorem g_spec_FirstSeen (k : Nat) : EnvOK Try.prog k x_spec_FirstSeen.G := (EnvOK.cons (s_spec_flColumns k) (EnvOK.cons (s_spec_faGood k) (EnvOK.cons (s_spec_faSeen k) (EnvOK.nil mixed))))
theorem h_spec_FirstSeen (k : Nat) (x : Tup d_spec_FirstSeen.ps) : d_spec_FirstSeen.f (k + 1) x = fnK d_spec_FirstSeen x_spec_FirstSeen c_spec_FirstSeen k x := by kernel_rfl
theorem z_spec_FirstSeen (x : Tup d_spec_FirstSeen.ps) : d_spec_FirstSeen.f 0 x = none := by kernel_rfl
theorem l_spec_FirstSeen (k : Nat) : LOK Try.prog x_spec_FirstSeen k c_spec_FirstSeen := LOK.by [] (by kernel_rfl) AllOK.nil
theorem s_spec_FirstSeen (k : Nat) : SoundAt Try.prog k 50 d_spec_FirstSeen.E := @fn_all Try.prog d_spec_FirstSeen x_spec_FirstSeen 50 Try.f50 c_spec_FirstSeen (by kernel_rfl) (by kernel_rfl) (by kernel_rfl) Try.func50 (by kernel_rfl) (by kernel_rfl) (by kernel_rfl) T_ok g_spec_FirstSeen l_spec_FirstSeen z_spec_FirstSeen h_spec_FirstSeen k
/-! function 51 -/
noncomputable def r_impl_FirstSeen : List PK := [{ t := Ty.int IntKind.i64 }, { t := Ty.bool }]
noncomputable def q_impl_FirstSeen : List PK := [{ t := Ty.pair (Ty.int IntKind.i64) (Ty.pair (Ty.int IntKind.i64) (Ty.slice (123 : Nat) (Ty.pair (Ty.int IntKind.i64) (Ty.int IntKind.i64)))), agg := true }, { t := Ty.slice (87 : Nat) (Ty.pair (Ty.int IntKind.i64) (Ty.pair (Ty.int IntKind.i64) (Ty.int IntKind.i64))) }, { t := Ty.slice (3 : Nat) (Ty.int IntKind.i64) }]
noncomputable def to_impl_FirstSeen (r : Int × Bool) : Tup r_impl_FirstSeen × OutD := ((r.1, r.2, ()), none)
noncomputable def of_impl_FirstSeen : Tup r_impl_FirstSeen × OutD → Option (Int × Bool)
  | (a, none) => some (a.1, a.2.1)
  | _ => none
theorem to_of_impl_FirstSeen : ∀ b r, of_impl_FirstSeen b = some r → to_impl_FirstSeen r = b := by
  rintro ⟨a, o⟩ r h
  cases o with
  | none => injection h with h; subst h; rfl
  | some _ => cases h
noncomputable def f_impl_FirstSeen : Nat → Int × Int × List (Int × Int) → List (Int × Int × Int) → List Int → Option (Int × Bool)
  | 0, _, _, _ => none
  | k + 1, p0, p1, p2 =>
    Option.bind (f_impl_validEntries k (Prod.fst p0, Prod.fst (Prod.snd p0), Prod.snd (Prod.snd p0)) p2) fun z0 => if (!z0) = true then some ((0 : Int), false) else Option.bind (f_impl_areFaults k (Prod.fst p0, Prod.fst (Prod.snd p0), Prod.snd (Prod.snd p0)) p1) fun z1 => if (!z1) = true then some ((0 : Int), false) else Option.bind (f_impl_firstSeen k (Prod.fst p0, Prod.fst (Prod.snd p0), Prod.snd (Prod.snd p0)) p1 p2) fun z2 => if decide (z2 < (0 : Int)) = true then some ((0 : Int), false) else some (z2, true)
noncomputable def d_impl_FirstSeen : FnDef := .of q_impl_FirstSeen r_impl_FirstSeen (Int × Bool) (fun k x => f_impl_FirstSeen k x.1 x.2.1 x.2.2.1) to_impl_FirstSeen of_impl_FirstSeen to_of_impl_FirstSeen
noncomputable def c_impl_FirstSeen : Code := Try.f51.body.getD .skip
noncomputable def x_impl_FirstSeen : Ctx (Tup r_impl_FirstSeen × OutD) := { T := T, G := [(97, d_impl_validEntries.E), (68, d_impl_areFaults.E), (98, d_impl_firstSeen.E)], mvs := [], no := 0, n := 26, res := resOf T q_impl_FirstSeen r_impl_FirstSeen Try.f51.results.toList, loops := [], regs := [], conds := [] }
theorem g_impl_FirstSeen (k : Nat) : EnvOK Try.prog k x_impl_FirstSeen.G := (EnvOK.cons (s_impl_validEntries k) (EnvOK.cons (s_impl_areFaults k) (EnvOK.cons (s_impl_firstSeen k) (EnvOK.nil mixed))))
theorem h_impl_FirstSeen (k : Nat) (x : Tup d_impl_FirstSeen.ps) : d_impl_FirstSeen.f (k + 1) x = fnK d_impl_FirstSeen x_impl_FirstSeen c_impl_FirstSeen k x := by kernel_rfl
theorem z_impl_FirstSeen (x : Tup d_impl_FirstSeen.ps) : d_impl_FirstSeen.f 0 x = none := by kernel_rfl
theorem l_impl_FirstSeen (k : Nat) : LOK Try.prog x_impl_FirstSeen k c_impl_FirstSeen := LOK.by [] (by kernel_rfl) AllOK.nil
theorem s_impl_FirstSeen (k : Nat) : SoundAt Try.prog k 51 d_impl_FirstSeen.E := @fn_all Try.prog d_impl_FirstSeen x_impl_FirstSeen 51 Try.f51 c_impl_FirstSeen (by kernel_rfl) (by kernel_rfl) (by kernel_rfl) Try.func51 (by kernel_rfl) (by kernel_rfl) (by kernel_rfl) T_ok g_impl_FirstSeen l_impl_FirstSeen z_impl_FirstSeen h_impl_FirstSeen k
/-! function 53 -/
noncomputable def r_spec_TellApart : List PK := [{ t := Ty.bool }, { t := Ty.bool }]
noncomputable def q_spec_TellApart : List PK := [{ t := Ty.pair (Ty.int IntKind.i64) (Ty.pair (Ty.int IntKind.i64) (Ty.slice (123 : Nat) (Ty.pair (Ty.int IntKind.i64) (Ty.int IntKind.i64)))), agg := true }, { t := Ty.slice (50 : Nat) (Ty.slice (3 : Nat) (Ty.int IntKind.i64)) }, { t := Ty.slice (87 : Nat) (Ty.pair (Ty.int IntKind.i64) (Ty.pair (Ty.int IntKind.i64) (Ty.int IntKind.i64))) }, { t := Ty.slice (87 : Nat) (Ty.pair (Ty.int IntKind.i64) (Ty.pair (Ty.int IntKind.i64) (Ty.int IntKind.i64))) }]
noncomputable def to_spec_TellApart (r : Bool × Bool) : Tup r_spec_TellApart × OutD := ((r.1, r.2, ()), none)
noncomputable def of_spec_TellApart : Tup r_spec_TellApart × OutD → Option (Bool × Bool)
  | (a, none) => some (a.1, a.2.1)
  | _ => none
theorem to_of_spec_TellApart : ∀ b r, of_spec_TellApart b = some r → to_spec_TellApart r = b := by
  rintro ⟨a, o⟩ r h
  cases o with
  | none => injection h with h; subst h; rfl
  | some _ => cases h
noncomputable def f_spec_TellApart_0 : Nat → List (List (Int × Int × Int)) → List (List (Int × Int × Int)) → Int → Int → Option (LR Unit (Bool × Bool))
  | 0, _, _, _, _ => none
  | k + 1, o1, o2, v39, v40 =>
    if decide (v40 < v39) = true then if (0 : Int) ≤ v40 then if v40 < (↑(List.length o2) : Int) then if (0 : Int) ≤ v40 then if v40 < (↑(List.length o1) : Int) then Option.bind (f_spec_faSame k (List.getD o2 (Int.toNat v40) []) (List.getD o1 (Int.toNat v40) [])) fun z5 => if decide (z5 ≥ (0 : Int)) = true then some (LR.ret (true, true)) else f_spec_TellApart_0 k o1 o2 v39 (wrap64 (v40 + (1 : Int))) else none else none else none else none else some (LR.go ())
noncomputable def f_spec_TellApart_0i : Spec := { objs := [OSh.ro, OSh.row true (56 : Nat) (Ty.slice (45 : Nat) (Ty.pair (Ty.int IntKind.i64) (Ty.pair (Ty.int IntKind.i64) (Ty.int IntKind.i64)))), OSh.row true (56 : Nat) (Ty.slice (45 : Nat) (Ty.pair (Ty.int IntKind.i64) (Ty.pair (Ty.int IntKind.i64) (Ty.int IntKind.i64))))], tmps := [((11 : Nat), TSh.at (Sh.sl (1 : Nat))), ((38 : Nat), TSh.at (Sh.sl (2 : Nat))), ((39 : Nat), TSh.at (Sh.int IntKind.i64)), ((40 : Nat), TSh.at (Sh.int IntKind.i64))] }
noncomputable def f_spec_TellApart_0o : Spec := { objs := [OSh.ro], tmps := [] }
noncomputable def f_spec_TellApart_0D : LoopDef (Tup r_spec_TellApart × OutD) := .rets f_spec_TellApart_0i f_spec_TellApart_0o (Unit) (Bool × Bool) (fun k x => f_spec_TellApart_0 k x.1.2.1 x.1.2.2.1 x.2.2.2.1 x.2.2.2.2.1) (fun z => (((), ()), (()))) (fun y => ()) (fun _ => rfl) to_spec_TellApart of_spec_TellApart to_of_spec_TellApart
noncomputable def f_spec_TellApart : Nat → Int × Int × List (Int × Int) → List (List Int) → List (Int × Int × Int) → List (Int × Int × Int) → Option (Bool × Bool)
  | 0, _, _, _, _ => none
  | k + 1, p0, p1, p2, p3 =>
    Option.bind (f_spec_tsAsked k (Prod.fst p0, Prod.fst (Prod.snd p0), Prod.snd (Prod.snd p0)) p1) fun z0 => if (!z0) = true then some (false, false) else Option.bind (f_spec_faGood k (Prod.fst p0, Prod.fst (Prod.snd p0), Prod.snd (Prod.snd p0)) p2) fun z1 => if (!z1) = true then some (false, false) else Option.bind (f_spec_faGood k (Prod.fst p0, Prod.fst (Prod.snd p0), Prod.snd (Prod.snd p0)) p3) fun z2 => if (!z2) = true then some (false, false) else Option.bind (f_spec_tsEnds k (Prod.fst p0, Prod.fst (Prod.snd p0), Prod.snd (Prod.snd p0)) p2 p1) fun z3 => Option.bind (f_spec_tsEnds k (Prod.fst p0, Prod.fst (Prod.snd p0), Prod.snd (Prod.snd p0)) p3 p1) fun z4 => Option.bind (f_spec_TellApart_0 k z4 z3 (↑(List.length z3) : Int) (0 : Int)) fun z6 => LR.on z6 (fun y6 => some (false, true)) fun r6 => some r6
noncomputable def d_spec_TellApart : FnDef := .of q_spec_TellApart r_spec_TellApart (Bool × Bool) (fun k x => f_spec_TellApart k x.1 x.2.1 x.2.2.1 x.2.2.2.1) to_spec_TellApart of_spec_TellApart to_of_spec_TellApart
noncomputable def c_spec_TellApart : Code := Try.f53.body.getD .skip
noncomputable def x_spec_TellApart : Ctx (Tup r_spec_TellApart × OutD) := { T := T, G := [(100, d_spec_tsAsked.E), (64, d_spec_faGood.E), (101, d_spec_tsEnds.E), (102, d_spec_faSame.E)], mvs := [], no := 0, n := 53, res := resOf T q_spec_TellApart r_spec_TellApart Try.f53.results.toList, loops := [(0, f_spec_TellApart_0D.E)], regs := [], conds := [] }
theorem g_spec_TellApart (k : Nat) : EnvOK Try.prog k x_spec_TellApart.G := (EnvOK.cons (s_spec_tsAsked k) (EnvOK.cons (s_spec_faGood k) (EnvOK.cons (s_spec_tsEnds k) (EnvOK.cons (s_spec_faSame k) (EnvOK.nil mixed)))))
noncomputable def f_spec_TellApart_0B : Code := (findLoop 0 c_spec_TellApart).getD .skip
theorem f_spec_TellApart_0h (k : Nat) (x : f_spec_TellApart_0i.D) : f_spec_TellApart_0D.lp (k + 1) x = loopK x_spec_TellApart f_spec_TellApart_0D 0 f_spec_TellApart_0B k x := by kernel_rfl
theorem f_spec_TellApart_0l (k : Nat) : LOK Try.prog x_spec_TellApart k f_spec_TellApart_0B := LOK.by [] (by kernel_rfl) AllOK.nil
theorem f_spec_TellApart_0z (x : f_spec_TellApart_0i.D) : f_spec_TellApart_0D.lp 0 x = none := by kernel_rfl
theorem f_spec_TellApart_0ok (k : Nat) : EOK Try.prog x_spec_TellApart k f_spec_TellApart_0D.E (.block 0 (.loop f_spec_TellApart_0B)) := loop_ok T_ok g_spec_TellApart f_spec_TellApart_0z f_spec_TellApart_0h f_spec_TellApart_0l k
theorem h_spec_TellApart (k : Nat) (x : Tup d_spec_TellApart.ps) : d_spec_TellApart.f (k + 1) x = fnK d_spec_TellApart x_spec_TellApart c_spec_TellApart k x := by kernel_rfl
theorem z_spec_TellApart (x : Tup d_spec_TellApart.ps) : d_spec_TellApart.f 0 x = none := by kernel_rfl
theorem l_spec_TellApart (k : Nat) : LOK Try.prog x_spec_TellApart k c_spec_TellApart := LOK.by [(f_spec_TellApart_0D.E, .block 0 (.loop f_spec_TellApart_0B))] (by kernel_rfl) (AllOK.cons (f_spec_TellApart_0ok k) AllOK.nil)
theorem s_spec_TellApart (k : Nat) : SoundAt Try.prog k 53 d_spec_TellApart.E := @fn_all Try.prog d_spec_TellApart x_spec_TellApart 53 Try.f53 c_spec_TellApart (by kernel_rfl) (by kernel_rfl) (by kernel_rfl) Try.func53 (by kernel_rfl) (by kernel_rfl) (by kernel_rfl) T_ok g_spec_TellApart l_spec_TellApart z_spec_TellApart h_spec_TellApart k
/-! function 55 -/
noncomputable def r_impl_TellApart : List PK := [{ t := Ty.bool }, { t := Ty.bool }]
noncomputable def q_impl_TellApart : List PK := [{ t := Ty.pair (Ty.int IntKind.i64) (Ty.pair (Ty.int IntKind.i64) (Ty.slice (123 : Nat) (Ty.pair (Ty.int IntKind.i64) (Ty.int IntKind.i64)))), agg := true }, { t := Ty.slice (50 : Nat) (Ty.slice (3 : Nat) (Ty.int IntKind.i64)) }, { t := Ty.slice (87 : Nat) (Ty.pair (Ty.int IntKind.i64) (Ty.pair (Ty.int IntKind.i64) (Ty.int IntKind.i64))) }, { t := Ty.slice (87 : Nat) (Ty.pair (Ty.int IntKind.i64) (Ty.pair (Ty.int IntKind.i64) (Ty.int IntKind.i64))) }]
noncomputable def to_impl_TellApart (r : Bool × Bool) : Tup r_impl_TellApart × OutD := ((r.1, r.2, ()), none)
noncomputable def of_impl_TellApart : Tup r_impl_TellApart × OutD → Option (Bool × Bool)
  | (a, none) => some (a.1, a.2.1)
  | _ => none
theorem to_of_impl_TellApart : ∀ b r, of_impl_TellApart b = some r → to_impl_TellApart r = b := by
  rintro ⟨a, o⟩ r h
  cases o with
  | none => injection h with h; subst h; rfl
  | some _ => cases h
noncomputable def f_impl_TellApart_0 : Nat → List (List (Int × Int × Int)) → List (List (Int × Int × Int)) → Int → Int → Option (LR Unit (Bool × Bool))
  | 0, _, _, _, _ => none
  | k + 1, o1, o2, v38, v39 =>
    if decide (v39 < v38) = true then if (0 : Int) ≤ v39 then if v39 < (↑(List.length o1) : Int) then if (0 : Int) ≤ v39 then if v39 < (↑(List.length o2) : Int) then Option.bind (f_slices_Equal_impl_Fall_impl_Fall k (List.getD o1 (Int.toNat v39) []) (List.getD o2 (Int.toNat v39) [])) fun z5 => if (!z5) = true then some (LR.ret (true, true)) else f_impl_TellApart_0 k o1 o2 v38 (wrap64 (v39 + (1 : Int))) else none else none else none else none else some (LR.go ())
noncomputable def f_impl_TellApart_0i : Spec := { objs := [OSh.ro, OSh.row true (56 : Nat) (Ty.slice (45 : Nat) (Ty.pair (Ty.int IntKind.i64) (Ty.pair (Ty.int IntKind.i64) (Ty.int IntKind.i64)))), OSh.row true (56 : Nat) (Ty.slice (45 : Nat) (Ty.pair (Ty.int IntKind.i64) (Ty.pair (Ty.int IntKind.i64) (Ty.int IntKind.i64))))], tmps := [((10 : Nat), TSh.at (Sh.sl (1 : Nat))), ((11 : Nat), TSh.at (Sh.sl (2 : Nat))), ((38 : Nat), TSh.at (Sh.int IntKind.i64)), ((39 : Nat), TSh.at (Sh.int IntKind.i64))] }
noncomputable def f_impl_TellApart_0o : Spec := { objs := [OSh.ro], tmps := [] }
noncomputable def f_impl_TellApart_0D : LoopDef (Tup r_impl_TellApart × OutD) := .rets f_impl_TellApart_0i f_impl_TellApart_0o (Unit) (Bool × Bool) (fun k x => f_impl_TellApart_0 k x.1.2.1 x.1.2.2.1 x.2.2.2.1 x.2.2.2.2.1) (fun z => (((), ()), (()))) (fun y => ()) (fun _ => rfl) to_impl_TellApart of_impl_TellApart to_of_impl_TellApart
noncomputable def f_impl_TellApart : Nat → Int × Int × List (Int × Int) → List (List Int) → List (Int × Int × Int) → List (Int × Int × Int) → Option (Bool × Bool)
  | 0, _, _, _, _ => none
  | k + 1, p0, p1, p2, p3 =>
    Option.bind (f_impl_areTests k (Prod.fst p0, Prod.fst (Prod.snd p0), Prod.snd (Prod.snd p0)) p1) fun z0 => if (!z0) = true then some (false, false) else Option.bind (f_impl_areFaults k (Prod.fst p0, Prod.fst (Prod.snd p0), Prod.snd (Prod.snd p0)) p2) fun z1 => if (!z1) = true then some (false, false) else Option.bind (f_impl_areFaults k (Prod.fst p0, Prod.fst (Prod.snd p0), Prod.snd (Prod.snd p0)) p3) fun z2 => if (!z2) = true then some (false, false) else Option.bind (f_impl_testEnds k (Prod.fst p0, Prod.fst (Prod.snd p0), Prod.snd (Prod.snd p0)) p2 p1) fun z3 => Option.bind (f_impl_testEnds k (Prod.fst p0, Prod.fst (Prod.snd p0), Prod.snd (Prod.snd p0)) p3 p1) fun z4 => Option.bind (f_impl_TellApart_0 k z3 z4 (↑(List.length z3) : Int) (0 : Int)) fun z6 => LR.on z6 (fun y6 => some (false, true)) fun r6 => some r6
noncomputable def d_impl_TellApart : FnDef := .of q_impl_TellApart r_impl_TellApart (Bool × Bool) (fun k x => f_impl_TellApart k x.1 x.2.1 x.2.2.1 x.2.2.2.1) to_impl_TellApart of_impl_TellApart to_of_impl_TellApart
noncomputable def c_impl_TellApart : Code := Try.f55.body.getD .skip
noncomputable def x_impl_TellApart : Ctx (Tup r_impl_TellApart × OutD) := { T := T, G := [(103, d_impl_areTests.E), (68, d_impl_areFaults.E), (104, d_impl_testEnds.E), (105, d_slices_Equal_impl_Fall_impl_Fall.E)], mvs := [], no := 0, n := 53, res := resOf T q_impl_TellApart r_impl_TellApart Try.f55.results.toList, loops := [(0, f_impl_TellApart_0D.E)], regs := [], conds := [] }
theorem g_impl_TellApart (k : Nat) : EnvOK Try.prog k x_impl_TellApart.G := (EnvOK.cons (s_impl_areTests k) (EnvOK.cons (s_impl_areFaults k) (EnvOK.cons (s_impl_testEnds k) (EnvOK.cons (s_slices_Equal_impl_Fall_impl_Fall k) (EnvOK.nil mixed)))))
noncomputable def f_impl_TellApart_0B : Code := (findLoop 0 c_impl_TellApart).getD .skip
theorem f_impl_TellApart_0h (k : Nat) (x : f_impl_TellApart_0i.D) : f_impl_TellApart_0D.lp (k + 1) x = loopK x_impl_TellApart f_impl_TellApart_0D 0 f_impl_TellApart_0B k x := by kernel_rfl
theorem f_impl_TellApart_0l (k : Nat) : LOK Try.prog x_impl_TellApart k f_impl_TellApart_0B := LOK.by [] (by kernel_rfl) AllOK.nil
theorem f_impl_TellApart_0z (x : f_impl_TellApart_0i.D) : f_impl_TellApart_0D.lp 0 x = none := by kernel_rfl
theorem f_impl_TellApart_0ok (k : Nat) : EOK Try.prog x_impl_TellApart k f_impl_TellApart_0D.E (.block 0 (.loop f_impl_TellApart_0B)) := loop_ok T_ok g_impl_TellApart f_impl_TellApart_0z f_impl_TellApart_0h f_impl_TellApart_0l k
theorem h_impl_TellApart (k : Nat) (x : Tup d_impl_TellApart.ps) : d_impl_TellApart.f (k + 1) x = fnK d_impl_TellApart x_impl_TellApart c_impl_TellApart k x := by kernel_rfl
theorem z_impl_TellApart (x : Tup d_impl_TellApart.ps) : d_impl_TellApart.f 0 x = none := by kernel_rfl
theorem l_impl_TellApart (k : Nat) : LOK Try.prog x_impl_TellApart k c_impl_TellApart := LOK.by [(f_impl_TellApart_0D.E, .block 0 (.loop f_impl_TellApart_0B))] (by kernel_rfl) (AllOK.cons (f_impl_TellApart_0ok k) AllOK.nil)
theorem s_impl_TellApart (k : Nat) : SoundAt Try.prog k 55 d_impl_TellApart.E := @fn_all Try.prog d_impl_TellApart x_impl_TellApart 55 Try.f55 c_impl_TellApart (by kernel_rfl) (by kernel_rfl) (by kernel_rfl) Try.func55 (by kernel_rfl) (by kernel_rfl) (by kernel_rfl) T_ok g_impl_TellApart l_impl_TellApart z_impl_TellApart h_impl_TellApart k
/-! function 58 -/
noncomputable def r_impl_FaultyFalls : List PK := [{ t := Ty.slice (45 : Nat) (Ty.pair (Ty.int IntKind.i64) (Ty.pair (Ty.int IntKind.i64) (Ty.int IntKind.i64))) }, { t := Ty.pair (Ty.int IntKind.i64) (Ty.pair (Ty.int IntKind.i64) (Ty.slice (123 : Nat) (Ty.pair (Ty.int IntKind.i64) (Ty.int IntKind.i64)))), agg := true }, { t := Ty.bool }]
noncomputable def q_impl_FaultyFalls : List PK := [{ t := Ty.pair (Ty.int IntKind.i64) (Ty.pair (Ty.int IntKind.i64) (Ty.slice (123 : Nat) (Ty.pair (Ty.int IntKind.i64) (Ty.int IntKind.i64)))), agg := true }, { t := Ty.slice (87 : Nat) (Ty.pair (Ty.int IntKind.i64) (Ty.pair (Ty.int IntKind.i64) (Ty.int IntKind.i64))) }, { t := Ty.slice (3 : Nat) (Ty.int IntKind.i64) }]
noncomputable def to_impl_FaultyFalls (r : List (Int × Int × Int) × (Int × Int × List (Int × Int)) × Bool) : Tup r_impl_FaultyFalls × OutD := ((r.1, r.2.1, r.2.2, ()), none)
noncomputable def of_impl_FaultyFalls : Tup r_impl_FaultyFalls × OutD → Option (List (Int × Int × Int) × (Int × Int × List (Int × Int)) × Bool)
  | (a, none) => some (a.1, a.2.1, a.2.2.1)
  | _ => none
theorem to_of_impl_FaultyFalls : ∀ b r, of_impl_FaultyFalls b = some r → to_impl_FaultyFalls r = b := by
  rintro ⟨a, o⟩ r h
  cases o with
  | none => injection h with h; subst h; rfl
  | some _ => cases h
noncomputable def f_impl_FaultyFalls : Nat → Int × Int × List (Int × Int) → List (Int × Int × Int) → List Int → Option (List (Int × Int × Int) × (Int × Int × List (Int × Int)) × Bool)
  | 0, _, _, _ => none
  | k + 1, p0, p1, p2 =>
    Option.bind (f_impl_validEntries k (Prod.fst p0, Prod.fst (Prod.snd p0), Prod.snd (Prod.snd p0)) p2) fun z0 => if (!z0) = true then some ([], ((0 : Int), (0 : Int), []), false) else Option.bind (f_impl_areFaults k (Prod.fst p0, Prod.fst (Prod.snd p0), Prod.snd (Prod.snd p0)) p1) fun z1 => if (!z1) = true then some ([], ((0 : Int), (0 : Int), []), false) else Option.bind (f_impl_faultyDrops k (Prod.fst p0, Prod.fst (Prod.snd p0), Prod.snd (Prod.snd p0)) p1 p2) fun z2 => some (Prod.fst z2, (Prod.fst (Prod.snd z2), Prod.fst (Prod.snd (Prod.snd z2)), Prod.snd (Prod.snd (Prod.snd z2))), true)
noncomputable def d_impl_FaultyFalls : FnDef := .of q_impl_FaultyFalls r_impl_FaultyFalls (List (Int × Int × Int) × (Int × Int × List (Int × Int)) × Bool) (fun k x => f_impl_FaultyFalls k x.1 x.2.1 x.2.2.1) to_impl_FaultyFalls of_impl_FaultyFalls to_of_impl_FaultyFalls
noncomputable def c_impl_FaultyFalls : Code := Try.f58.body.getD .skip
noncomputable def x_impl_FaultyFalls : Ctx (Tup r_impl_FaultyFalls × OutD) := { T := T, G := [(97, d_impl_validEntries.E), (68, d_impl_areFaults.E), (107, d_impl_faultyDrops.E)], mvs := [], no := 0, n := 31, res := resOf T q_impl_FaultyFalls r_impl_FaultyFalls Try.f58.results.toList, loops := [], regs := [], conds := [] }
theorem g_impl_FaultyFalls (k : Nat) : EnvOK Try.prog k x_impl_FaultyFalls.G := (EnvOK.cons (s_impl_validEntries k) (EnvOK.cons (s_impl_areFaults k) (EnvOK.cons (s_impl_faultyDrops k) (EnvOK.nil mixed))))
theorem h_impl_FaultyFalls (k : Nat) (x : Tup d_impl_FaultyFalls.ps) : d_impl_FaultyFalls.f (k + 1) x = fnK d_impl_FaultyFalls x_impl_FaultyFalls c_impl_FaultyFalls k x := by kernel_rfl
theorem z_impl_FaultyFalls (x : Tup d_impl_FaultyFalls.ps) : d_impl_FaultyFalls.f 0 x = none := by kernel_rfl
theorem l_impl_FaultyFalls (k : Nat) : LOK Try.prog x_impl_FaultyFalls k c_impl_FaultyFalls := LOK.by [] (by kernel_rfl) AllOK.nil
theorem s_impl_FaultyFalls (k : Nat) : SoundAt Try.prog k 58 d_impl_FaultyFalls.E := @fn_all Try.prog d_impl_FaultyFalls x_impl_FaultyFalls 58 Try.f58 c_impl_FaultyFalls (by kernel_rfl) (by kernel_rfl) (by kernel_rfl) Try.func58 (by kernel_rfl) (by kernel_rfl) (by kernel_rfl) T_ok g_impl_FaultyFalls l_impl_FaultyFalls z_impl_FaultyFalls h_impl_FaultyFalls k
/-! function 88 -/
noncomputable def r_spec_faHidden : List PK := [{ t := Ty.slice (87 : Nat) (Ty.pair (Ty.int IntKind.i64) (Ty.pair (Ty.int IntKind.i64) (Ty.int IntKind.i64))) }]
noncomputable def q_spec_faHidden : List PK := [{ t := Ty.pair (Ty.int IntKind.i64) (Ty.pair (Ty.int IntKind.i64) (Ty.slice (123 : Nat) (Ty.pair (Ty.int IntKind.i64) (Ty.int IntKind.i64)))), agg := true }, { t := Ty.slice (3 : Nat) (Ty.int IntKind.i64) }]
noncomputable def to_spec_faHidden (r : List (Int × Int × Int)) : Tup r_spec_faHidden × OutD := ((r, ()), none)
noncomputable def of_spec_faHidden : Tup r_spec_faHidden × OutD → Option (List (Int × Int × Int))
  | (a, none) => some (a.1)
  | _ => none
theorem to_of_spec_faHidden : ∀ b r, of_spec_faHidden b = some r → to_spec_faHidden r = b := by
  rintro ⟨a, o⟩ r h
  cases o with
  | none => injection h with h; subst h; rfl
  | some _ => cases h
noncomputable def f_spec_faHidden_0 : Nat → Int → Int → List (Int × Int) → List (Int × Int × Int) → List (Int × Int × Int) → List Int → Int → Int → Option (List (Int × Int × Int))
  | 0, _, _, _, _, _, _, _, _ => none
  | k + 1, b1_0, b1_1, b1_2, o2, o3, v1, v10, v11 =>
    if decide (v11 < v10) = true then if (0 : Int) ≤ v11 then if v11 < (↑(List.length o3) : Int) then Option.bind (f_spec_faSeen k (b1_0, b1_1, b1_2) [(Prod.fst (List.getD o3 (Int.toNat v11) ((0 : Int), (0 : Int), (0 : Int))), Prod.fst (Prod.snd (List.getD o3 (Int.toNat v11) ((0 : Int), (0 : Int), (0 : Int)))), Prod.snd (Prod.snd (List.getD o3 (Int.toNat v11) ((0 : Int), (0 : Int), (0 : Int)))))] v1) fun z1 => if decide (z1 < (0 : Int)) = true then if List.length o2 + List.length [(Prod.fst (List.getD o3 (Int.toNat v11) ((0 : Int), (0 : Int), (0 : Int))), Prod.fst (Prod.snd (List.getD o3 (Int.toNat v11) ((0 : Int), (0 : Int), (0 : Int)))), Prod.snd (Prod.snd (List.getD o3 (Int.toNat v11) ((0 : Int), (0 : Int), (0 : Int)))))] ≤ (140737488355328 / 24 : Nat) then f_spec_faHidden_0 k b1_0 b1_1 b1_2 (o2 ++ [(Prod.fst (List.getD o3 (Int.toNat v11) ((0 : Int), (0 : Int), (0 : Int))), Prod.fst (Prod.snd (List.getD o3 (Int.toNat v11) ((0 : Int), (0 : Int), (0 : Int)))), Prod.snd (Prod.snd (List.getD o3 (Int.toNat v11) ((0 : Int), (0 : Int), (0 : Int)))))]) o3 v1 v10 (wrap64 (v11 + (1 : Int))) else none else f_spec_faHidden_0 k b1_0 b1_1 b1_2 o2 o3 v1 v10 (wrap64 (v11 + (1 : Int))) else none else none else some o2
noncomputable def f_spec_faHidden_0i : Spec := { objs := [OSh.ro, OSh.box (32 : Nat) [Sh.int IntKind.i64, Sh.int IntKind.i64, Sh.snap (0 : Nat) (Ty.pair (Ty.int IntKind.i64) (Ty.int IntKind.i64))], OSh.row true (87 : Nat) (Ty.pair (Ty.int IntKind.i64) (Ty.pair (Ty.int IntKind.i64) (Ty.int IntKind.i64))), OSh.row true (87 : Nat) (Ty.pair (Ty.int IntKind.i64) (Ty.pair (Ty.int IntKind.i64) (Ty.int IntKind.i64)))], tmps := [((1 : Nat), TSh.at (Sh.snap (0 : Nat) (Ty.int IntKind.i64))), ((2 : Nat), TSh.at (Sh.ptr (1 : Nat) (0 : Nat))), ((5 : Nat), TSh.at (Sh.sl (2 : Nat))), ((9 : Nat), TSh.at (Sh.sl (3 : Nat))), ((10 : Nat), TSh.at (Sh.int IntKind.i64)), ((11 : Nat), TSh.at (Sh.int IntKind.i64))] }
noncomputable def f_spec_faHidden_0o : Spec := { objs := [OSh.ro, OSh.row true (87 : Nat) (Ty.pair (Ty.int IntKind.i64) (Ty.pair (Ty.int IntKind.i64) (Ty.int IntKind.i64)))], tmps := [((5 : Nat), TSh.at (Sh.sl (1 : Nat)))] }
noncomputable def f_spec_faHidden_0D : LoopDef (Tup r_spec_faHidden × OutD) := .plain f_spec_faHidden_0i f_spec_faHidden_0o (List (Int × Int × Int)) (fun k x => f_spec_faHidden_0 k x.1.2.1.1 x.1.2.1.2.1 x.1.2.1.2.2.1 x.1.2.2.1 x.1.2.2.2.1 x.2.1 x.2.2.2.2.2.1 x.2.2.2.2.2.2.1) (fun z => (((), z, ()), ((), ()))) (fun y => (y.1.2.1)) (fun _ => rfl)
noncomputable def f_spec_faHidden : Nat → Int × Int × List (Int × Int) → List Int → Option (List (Int × Int × Int))
  | 0, _, _ => none
  | k + 1, p0, p1 =>
    Option.bind (f_spec_faPossible k (Prod.fst p0, Prod.fst (Prod.snd p0), Prod.snd (Prod.snd p0))) fun z0 => Option.bind (f_spec_faHidden_0 k (Prod.fst p0) (Prod.fst (Prod.snd p0)) (Prod.snd (Prod.snd p0)) [] z0 p1 (↑(List.length z0) : Int) (0 : Int)) fun z2 => some z2
noncomputable def d_spec_faHidden : FnDef := .of q_spec_faHidden r_spec_faHidden (List (Int × Int × Int)) (fun k x => f_spec_faHidden k x.1 x.2.1) to_spec_faHidden of_spec_faHidden to_of_spec_faHidden
noncomputable def c_spec_faHidden : Code := Try.f88.body.getD .skip
noncomputable def x_spec_faHidden : Ctx (Tup r_spec_faHidden × OutD) := { T := T, G := [(71, d_spec_faPossible.E), (96, d_spec_faSeen.E)], mvs := [], no := 0, n := 27, res := resOf T q_spec_faHidden r_spec_faHidden Try.f88.results.toList, loops := [(0, f_spec_faHidden_0D.E)], regs := [], conds := [] }
theorem g_spec_faHidden (k : Nat) : EnvOK Try.prog k x_spec_faHidden.G := (EnvOK.cons (s_spec_faPossible k) (EnvOK.cons (s_spec_faSeen k) (EnvOK.nil mixed)))
noncomputable def f_spec_faHidden_0B : Code := (findLoop 0 c_spec_faHidden).getD .skip
theorem f_spec_faHidden_0h (k : Nat) (x : f_spec_faHidden_0i.D) : f_spec_faHidden_0D.lp (k + 1) x = loopK x_spec_faHidden f_spec_faHidden_0D 0 f_spec_faHidden_0B k x := by kernel_rfl
theorem f_spec_faHidden_0l (k : Nat) : LOK Try.prog x_spec_faHidden k f_spec_faHidden_0B := LOK.by [] (by kernel_rfl) AllOK.nil
theorem f_spec_faHidden_0z (x : f_spec_faHidden_0i.D) : f_spec_faHidden_0D.lp 0 x = none := by kernel_rfl
theorem f_spec_faHidden_0ok (k : Nat) : EOK Try.prog x_spec_faHidden k f_spec_faHidden_0D.E (.block 0 (.loop f_spec_faHidden_0B)) := loop_ok T_ok g_spec_faHidden f_spec_faHidden_0z f_spec_faHidden_0h f_spec_faHidden_0l k
theorem h_spec_faHidden (k : Nat) (x : Tup d_spec_faHidden.ps) : d_spec_faHidden.f (k + 1) x = fnK d_spec_faHidden x_spec_faHidden c_spec_faHidden k x := by kernel_rfl
theorem z_spec_faHidden (x : Tup d_spec_faHidden.ps) : d_spec_faHidden.f 0 x = none := by kernel_rfl
theorem l_spec_faHidden (k : Nat) : LOK Try.prog x_spec_faHidden k c_spec_faHidden := LOK.by [(f_spec_faHidden_0D.E, .block 0 (.loop f_spec_faHidden_0B))] (by kernel_rfl) (AllOK.cons (f_spec_faHidden_0ok k) AllOK.nil)
theorem s_spec_faHidden (k : Nat) : SoundAt Try.prog k 88 d_spec_faHidden.E := @fn_all Try.prog d_spec_faHidden x_spec_faHidden 88 Try.f88 c_spec_faHidden (by kernel_rfl) (by kernel_rfl) (by kernel_rfl) Try.func88 (by kernel_rfl) (by kernel_rfl) (by kernel_rfl) T_ok g_spec_faHidden l_spec_faHidden z_spec_faHidden h_spec_faHidden k
/-! function 89 -/
noncomputable def r_impl_HiddenFaults : List PK := [{ t := Ty.slice (87 : Nat) (Ty.pair (Ty.int IntKind.i64) (Ty.pair (Ty.int IntKind.i64) (Ty.int IntKind.i64))) }, { t := Ty.bool }]
noncomputable def q_impl_HiddenFaults : List PK := [{ t := Ty.pair (Ty.int IntKind.i64) (Ty.pair (Ty.int IntKind.i64) (Ty.slice (123 : Nat) (Ty.pair (Ty.int IntKind.i64) (Ty.int IntKind.i64)))), agg := true }, { t := Ty.slice (3 : Nat) (Ty.int IntKind.i64) }]
noncomputable def to_impl_HiddenFaults (r : List (Int × Int × Int) × Bool) : Tup r_impl_HiddenFaults × OutD := ((r.1, r.2, ()), none)
noncomputable def of_impl_HiddenFaults : Tup r_impl_HiddenFaults × OutD → Option (List (Int × Int × Int) × Bool)
  | (a, none) => some (a.1, a.2.1)
  | _ => none
theorem to_of_impl_HiddenFaults : ∀ b r, of_impl_HiddenFaults b = some r → to_impl_HiddenFaults r = b := by
  rintro ⟨a, o⟩ r h
  cases o with
  | none => injection h with h; subst h; rfl
  | some _ => cases h
noncomputable def f_impl_HiddenFaults_0 : Nat → Int → Int → List (Int × Int) → List (Int × Int × Int) → List (Int × Int × Int) → List Int → Int → Int → Option (List (Int × Int × Int))
  | 0, _, _, _, _, _, _, _, _ => none
  | k + 1, b1_0, b1_1, b1_2, o2, o3, v1, v16, v17 =>
    if decide (v17 < v16) = true then if (0 : Int) ≤ v17 then if v17 < (↑(List.length o3) : Int) then Option.bind (f_impl_firstSeen k (b1_0, b1_1, b1_2) [(Prod.fst (List.getD o3 (Int.toNat v17) ((0 : Int), (0 : Int), (0 : Int))), Prod.fst (Prod.snd (List.getD o3 (Int.toNat v17) ((0 : Int), (0 : Int), (0 : Int)))), Prod.snd (Prod.snd (List.getD o3 (Int.toNat v17) ((0 : Int), (0 : Int), (0 : Int)))))] v1) fun z2 => if decide (z2 < (0 : Int)) = true then if List.length o2 + List.length [(Prod.fst (List.getD o3 (Int.toNat v17) ((0 : Int), (0 : Int), (0 : Int))), Prod.fst (Prod.snd (List.getD o3 (Int.toNat v17) ((0 : Int), (0 : Int), (0 : Int)))), Prod.snd (Prod.snd (List.getD o3 (Int.toNat v17) ((0 : Int), (0 : Int), (0 : Int)))))] ≤ (140737488355328 / 24 : Nat) then f_impl_HiddenFaults_0 k b1_0 b1_1 b1_2 (o2 ++ [(Prod.fst (List.getD o3 (Int.toNat v17) ((0 : Int), (0 : Int), (0 : Int))), Prod.fst (Prod.snd (List.getD o3 (Int.toNat v17) ((0 : Int), (0 : Int), (0 : Int)))), Prod.snd (Prod.snd (List.getD o3 (Int.toNat v17) ((0 : Int), (0 : Int), (0 : Int)))))]) o3 v1 v16 (wrap64 (v17 + (1 : Int))) else none else f_impl_HiddenFaults_0 k b1_0 b1_1 b1_2 o2 o3 v1 v16 (wrap64 (v17 + (1 : Int))) else none else none else some o2
noncomputable def f_impl_HiddenFaults_0i : Spec := { objs := [OSh.ro, OSh.box (32 : Nat) [Sh.int IntKind.i64, Sh.int IntKind.i64, Sh.snap (0 : Nat) (Ty.pair (Ty.int IntKind.i64) (Ty.int IntKind.i64))], OSh.row true (87 : Nat) (Ty.pair (Ty.int IntKind.i64) (Ty.pair (Ty.int IntKind.i64) (Ty.int IntKind.i64))), OSh.row true (87 : Nat) (Ty.pair (Ty.int IntKind.i64) (Ty.pair (Ty.int IntKind.i64) (Ty.int IntKind.i64)))], tmps := [((1 : Nat), TSh.at (Sh.snap (0 : Nat) (Ty.int IntKind.i64))), ((2 : Nat), TSh.at (Sh.ptr (1 : Nat) (0 : Nat))), ((6 : Nat), TSh.at (Sh.sl (2 : Nat))), ((15 : Nat), TSh.at (Sh.sl (3 : Nat))), ((16 : Nat), TSh.at (Sh.int IntKind.i64)), ((17 : Nat), TSh.at (Sh.int IntKind.i64))] }
noncomputable def f_impl_HiddenFaults_0o : Spec := { objs := [OSh.ro, OSh.row true (87 : Nat) (Ty.pair (Ty.int IntKind.i64) (Ty.pair (Ty.int IntKind.i64) (Ty.int IntKind.i64)))], tmps := [((6 : Nat), TSh.at (Sh.sl (1 : Nat)))] }
noncomputable def f_impl_HiddenFaults_0D : LoopDef (Tup r_impl_HiddenFaults × OutD) := .plain f_impl_HiddenFaults_0i f_impl_HiddenFaults_0o (List (Int × Int × Int)) (fun k x => f_impl_HiddenFaults_0 k x.1.2.1.1 x.1.2.1.2.1 x.1.2.1.2.2.1 x.1.2.2.1 x.1.2.2.2.1 x.2.1 x.2.2.2.2.2.1 x.2.2.2.2.2.2.1) (fun z => (((), z, ()), ((), ()))) (fun y => (y.1.2.1)) (fun _ => rfl)
noncomputable def f_impl_HiddenFaults : Nat → Int × Int × List (Int × Int) → List Int → Option (List (Int × Int × Int) × Bool)
  | 0, _, _ => none
  | k + 1, p0, p1 =>
    Option.bind (f_impl_validEntries k (Prod.fst p0, Prod.fst (Prod.snd p0), Prod.snd (Prod.snd p0)) p1) fun z0 => if (!z0) = true then some ([], false) else Option.bind (f_impl_possibleFaults k (Prod.fst p0, Prod.fst (Prod.snd p0), Prod.snd (Prod.snd p0))) fun z1 => Option.bind (f_impl_HiddenFaults_0 k (Prod.fst p0) (Prod.fst (Prod.snd p0)) (Prod.snd (Prod.snd p0)) [] z1 p1 (↑(List.length z1) : Int) (0 : Int)) fun z3 => some (z3, true)
noncomputable def d_impl_HiddenFaults : FnDef := .of q_impl_HiddenFaults r_impl_HiddenFaults (List (Int × Int × Int) × Bool) (fun k x => f_impl_HiddenFaults k x.1 x.2.1) to_impl_HiddenFaults of_impl_HiddenFaults to_of_impl_HiddenFaults
noncomputable def c_impl_HiddenFaults : Code := Try.f89.body.getD .skip
noncomputable def x_impl_HiddenFaults : Ctx (Tup r_impl_HiddenFaults × OutD) := { T := T, G := [(97, d_impl_validEntries.E), (72, d_impl_possibleFaults.E), (98, d_impl_firstSeen.E)], mvs := [], no := 0, n := 33, res := resOf T q_impl_HiddenFaults r_impl_HiddenFaults Try.f89.results.toList, loops := [(0, f_impl_HiddenFaults_0D.E)], regs := [], conds := [] }
theorem g_impl_HiddenFaults (k : Nat) : EnvOK Try.prog k x_impl_HiddenFaults.G := (EnvOK.cons (s_impl_validEntries k) (EnvOK.cons (s_impl_possibleFaults k) (EnvOK.cons (s_impl_firstSeen k) (EnvOK.nil mixed))))
noncomputable def f_impl_HiddenFaults_0B : Code := (findLoop 0 c_impl_HiddenFaults).getD .skip
theorem f_impl_HiddenFaults_0h (k : Nat) (x : f_impl_HiddenFaults_0i.D) : f_impl_HiddenFaults_0D.lp (k + 1) x = loopK x_impl_HiddenFaults f_impl_HiddenFaults_0D 0 f_impl_HiddenFaults_0B k x := by kernel_rfl
theorem f_impl_HiddenFaults_0l (k : Nat) : LOK Try.prog x_impl_HiddenFaults k f_impl_HiddenFaults_0B := LOK.by [] (by kernel_rfl) AllOK.nil
theorem f_impl_HiddenFaults_0z (x : f_impl_HiddenFaults_0i.D) : f_impl_HiddenFaults_0D.lp 0 x = none := by kernel_rfl
theorem f_impl_HiddenFaults_0ok (k : Nat) : EOK Try.prog x_impl_HiddenFaults k f_impl_HiddenFaults_0D.E (.block 0 (.loop f_impl_HiddenFaults_0B)) := loop_ok T_ok g_impl_HiddenFaults f_impl_HiddenFaults_0z f_impl_HiddenFaults_0h f_impl_HiddenFaults_0l k
theorem h_impl_HiddenFaults (k : Nat) (x : Tup d_impl_HiddenFaults.ps) : d_impl_HiddenFaults.f (k + 1) x = fnK d_impl_HiddenFaults x_impl_HiddenFaults c_impl_HiddenFaults k x := by kernel_rfl
theorem z_impl_HiddenFaults (x : Tup d_impl_HiddenFaults.ps) : d_impl_HiddenFaults.f 0 x = none := by kernel_rfl
theorem l_impl_HiddenFaults (k : Nat) : LOK Try.prog x_impl_HiddenFaults k c_impl_HiddenFaults := LOK.by [(f_impl_HiddenFaults_0D.E, .block 0 (.loop f_impl_HiddenFaults_0B))] (by kernel_rfl) (AllOK.cons (f_impl_HiddenFaults_0ok k) AllOK.nil)
theorem s_impl_HiddenFaults (k : Nat) : SoundAt Try.prog k 89 d_impl_HiddenFaults.E := @fn_all Try.prog d_impl_HiddenFaults x_impl_HiddenFaults 89 Try.f89 c_impl_HiddenFaults (by kernel_rfl) (by kernel_rfl) (by kernel_rfl) Try.func89 (by kernel_rfl) (by kernel_rfl) (by kernel_rfl) T_ok g_impl_HiddenFaults l_impl_HiddenFaults z_impl_HiddenFaults h_impl_HiddenFaults k
/-! function 92 -/
noncomputable def r_spec_dgSingle : List PK := [{ t := Ty.slice (87 : Nat) (Ty.pair (Ty.int IntKind.i64) (Ty.pair (Ty.int IntKind.i64) (Ty.int IntKind.i64))) }]
noncomputable def q_spec_dgSingle : List PK := [{ t := Ty.pair (Ty.int IntKind.i64) (Ty.pair (Ty.int IntKind.i64) (Ty.slice (123 : Nat) (Ty.pair (Ty.int IntKind.i64) (Ty.int IntKind.i64)))), agg := true }, { t := Ty.slice (3 : Nat) (Ty.int IntKind.i64) }, { t := Ty.slice (45 : Nat) (Ty.pair (Ty.int IntKind.i64) (Ty.pair (Ty.int IntKind.i64) (Ty.int IntKind.i64))) }]
noncomputable def to_spec_dgSingle (r : List (Int × Int × Int)) : Tup r_spec_dgSingle × OutD := ((r, ()), none)
noncomputable def of_spec_dgSingle : Tup r_spec_dgSingle × OutD → Option (List (Int × Int × Int))
  | (a, none) => some (a.1)
  | _ => none
theorem to_of_spec_dgSingle : ∀ b r, of_spec_dgSingle b = some r → to_spec_dgSingle r = b := by
  rintro ⟨a, o⟩ r h
  cases o with
  | none => injection h with h; subst h; rfl
  | some _ => cases h
noncomputable def f_spec_dgSingle_0 : Nat → Int → Int → List (Int × Int) → List (Int × Int × Int) → List (Int × Int × Int) → List Int → List (Int × Int × Int) → Int → Int → Option (List (Int × Int × Int))
  | 0, _, _, _, _, _, _, _, _, _ => none
  | k + 1, b1_0, b1_1, b1_2, o2, o3, v1, v2, v12, v13 =>
    if decide (v13 < v12) = true then if (0 : Int) ≤ v13 then if v13 < (↑(List.length o3) : Int) then Option.bind (f_spec_dgExplains k (b1_0, b1_1, b1_2) [(Prod.fst (List.getD o3 (Int.toNat v13) ((0 : Int), (0 : Int), (0 : Int))), Prod.fst (Prod.snd (List.getD o3 (Int.toNat v13) ((0 : Int), (0 : Int), (0 : Int)))), Prod.snd (Prod.snd (List.getD o3 (Int.toNat v13) ((0 : Int), (0 : Int), (0 : Int)))))] v1 v2) fun z1 => if z1 = true then if List.length o2 + List.length [(Prod.fst (List.getD o3 (Int.toNat v13) ((0 : Int), (0 : Int), (0 : Int))), Prod.fst (Prod.snd (List.getD o3 (Int.toNat v13) ((0 : Int), (0 : Int), (0 : Int)))), Prod.snd (Prod.snd (List.getD o3 (Int.toNat v13) ((0 : Int), (0 : Int), (0 : Int)))))] ≤ (140737488355328 / 24 : Nat) then f_spec_dgSingle_0 k b1_0 b1_1 b1_2 (o2 ++ [(Prod.fst (List.getD o3 (Int.toNat v13) ((0 : Int), (0 : Int), (0 : Int))), Prod.fst (Prod.snd (List.getD o3 (Int.toNat v13) ((0 : Int), (0 : Int), (0 : Int)))), Prod.snd (Prod.snd (List.getD o3 (Int.toNat v13) ((0 : Int), (0 : Int), (0 : Int)))))]) o3 v1 v2 v12 (wrap64 (v13 + (1 : Int))) else none else f_spec_dgSingle_0 k b1_0 b1_1 b1_2 o2 o3 v1 v2 v12 (wrap64 (v13 + (1 : Int))) else none else none else some o2
noncomputable def f_spec_dgSingle_0i : Spec := { objs := [OSh.ro, OSh.box (32 : Nat) [Sh.int IntKind.i64, Sh.int IntKind.i64, Sh.snap (0 : Nat) (Ty.pair (Ty.int IntKind.i64) (Ty.int IntKind.i64))], OSh.row true (87 : Nat) (Ty.pair (Ty.int IntKind.i64) (Ty.pair (Ty.int IntKind.i64) (Ty.int IntKind.i64))), OSh.row true (87 : Nat) (Ty.pair (Ty.int IntKind.i64) (Ty.pair (Ty.int IntKind.i64) (Ty.int IntKind.i64)))], tmps := [((1 : Nat), TSh.at (Sh.snap (0 : Nat) (Ty.int IntKind.i64))), ((2 : Nat), TSh.at (Sh.snap (0 : Nat) (Ty.pair (Ty.int IntKind.i64) (Ty.pair (Ty.int IntKind.i64) (Ty.int IntKind.i64))))), ((3 : Nat), TSh.at (Sh.ptr (1 : Nat) (0 : Nat))), ((7 : Nat), TSh.at (Sh.sl (2 : Nat))), ((11 : Nat), TSh.at (Sh.sl (3 : Nat))), ((12 : Nat), TSh.at (Sh.int IntKind.i64)), ((13 : Nat), TSh.at (Sh.int IntKind.i64))] }
noncomputable def f_spec_dgSingle_0o : Spec := { objs := [OSh.ro, OSh.row true (87 : Nat) (Ty.pair (Ty.int IntKind.i64) (Ty.pair (Ty.int IntKind.i64) (Ty.int IntKind.i64)))], tmps := [((7 : Nat), TSh.at (Sh.sl (1 : Nat)))] }
noncomputable def f_spec_dgSingle_0D : LoopDef (Tup r_spec_dgSingle × OutD) := .plain f_spec_dgSingle_0i f_spec_dgSingle_0o (List (Int × Int × Int)) (fun k x => f_spec_dgSingle_0 k x.1.2.1.1 x.1.2.1.2.1 x.1.2.1.2.2.1 x.1.2.2.1 x.1.2.2.2.1 x.2.1 x.2.2.1 x.2.2.2.2.2.2.1 x.2.2.2.2.2.2.2.1) (fun z => (((), z, ()), ((), ()))) (fun y => (y.1.2.1)) (fun _ => rfl)
noncomputable def f_spec_dgSingle : Nat → Int × Int × List (Int × Int) → List Int → List (Int × Int × Int) → Option (List (Int × Int × Int))
  | 0, _, _, _ => none
  | k + 1, p0, p1, p2 =>
    Option.bind (f_spec_faPossible k (Prod.fst p0, Prod.fst (Prod.snd p0), Prod.snd (Prod.snd p0))) fun z0 => Option.bind (f_spec_dgSingle_0 k (Prod.fst p0) (Prod.fst (Prod.snd p0)) (Prod.snd (Prod.snd p0)) [] z0 p1 p2 (↑(List.length z0) : Int) (0 : Int)) fun z2 => some z2
noncomputable def d_spec_dgSingle : FnDef := .of q_spec_dgSingle r_spec_dgSingle (List (Int × Int × Int)) (fun k x => f_spec_dgSingle k x.1 x.2.1 x.2.2.1) to_spec_dgSingle of_spec_dgSingle to_of_spec_dgSingle
noncomputable def c_spec_dgSingle : Code := Try.f92.body.getD .skip
noncomputable def x_spec_dgSingle : Ctx (Tup r_spec_dgSingle × OutD) := { T := T, G := [(71, d_spec_faPossible.E), (90, d_spec_dgExplains.E)], mvs := [], no := 0, n := 29, res := resOf T q_spec_dgSingle r_spec_dgSingle Try.f92.results.toList, loops := [(0, f_spec_dgSingle_0D.E)], regs := [], conds := [] }
theorem g_spec_dgSingle (k : Nat) : EnvOK Try.prog k x_spec_dgSingle.G := (EnvOK.cons (s_spec_faPossible k) (EnvOK.cons (s_spec_dgExplains k) (EnvOK.nil mixed)))
noncomputable def f_spec_dgSingle_0B : Code := (findLoop 0 c_spec_dgSingle).getD .skip
theorem f_spec_dgSingle_0h (k : Nat) (x : f_spec_dgSingle_0i.D) : f_spec_dgSingle_0D.lp (k + 1) x = loopK x_spec_dgSingle f_spec_dgSingle_0D 0 f_spec_dgSingle_0B k x := by kernel_rfl
theorem f_spec_dgSingle_0l (k : Nat) : LOK Try.prog x_spec_dgSingle k f_spec_dgSingle_0B := LOK.by [] (by kernel_rfl) AllOK.nil
theorem f_spec_dgSingle_0z (x : f_spec_dgSingle_0i.D) : f_spec_dgSingle_0D.lp 0 x = none := by kernel_rfl
theorem f_spec_dgSingle_0ok (k : Nat) : EOK Try.prog x_spec_dgSingle k f_spec_dgSingle_0D.E (.block 0 (.loop f_spec_dgSingle_0B)) := loop_ok T_ok g_spec_dgSingle f_spec_dgSingle_0z f_spec_dgSingle_0h f_spec_dgSingle_0l k
theorem h_spec_dgSingle (k : Nat) (x : Tup d_spec_dgSingle.ps) : d_spec_dgSingle.f (k + 1) x = fnK d_spec_dgSingle x_spec_dgSingle c_spec_dgSingle k x := by kernel_rfl
theorem z_spec_dgSingle (x : Tup d_spec_dgSingle.ps) : d_spec_dgSingle.f 0 x = none := by kernel_rfl
theorem l_spec_dgSingle (k : Nat) : LOK Try.prog x_spec_dgSingle k c_spec_dgSingle := LOK.by [(f_spec_dgSingle_0D.E, .block 0 (.loop f_spec_dgSingle_0B))] (by kernel_rfl) (AllOK.cons (f_spec_dgSingle_0ok k) AllOK.nil)
theorem s_spec_dgSingle (k : Nat) : SoundAt Try.prog k 92 d_spec_dgSingle.E := @fn_all Try.prog d_spec_dgSingle x_spec_dgSingle 92 Try.f92 c_spec_dgSingle (by kernel_rfl) (by kernel_rfl) (by kernel_rfl) Try.func92 (by kernel_rfl) (by kernel_rfl) (by kernel_rfl) T_ok g_spec_dgSingle l_spec_dgSingle z_spec_dgSingle h_spec_dgSingle k
/-! function 93 -/
noncomputable def r_spec_dgPairs : List PK := [{ t := Ty.slice (50 : Nat) (Ty.slice (3 : Nat) (Ty.int IntKind.i64)) }]
noncomputable def q_spec_dgPairs : List PK := [{ t := Ty.pair (Ty.int IntKind.i64) (Ty.pair (Ty.int IntKind.i64) (Ty.slice (123 : Nat) (Ty.pair (Ty.int IntKind.i64) (Ty.int IntKind.i64)))), agg := true }, { t := Ty.slice (3 : Nat) (Ty.int IntKind.i64) }, { t := Ty.slice (45 : Nat) (Ty.pair (Ty.int IntKind.i64) (Ty.pair (Ty.int IntKind.i64) (Ty.int IntKind.i64))) }]
noncomputable def to_spec_dgPairs (r : List (List Int)) : Tup r_spec_dgPairs × OutD := ((r, ()), none)
noncomputable def of_spec_dgPairs : Tup r_spec_dgPairs × OutD → Option (List (List Int))
  | (a, none) => some (a.1)
  | _ => none
theorem to_of_spec_dgPairs : ∀ b r, of_spec_dgPairs b = some r → to_spec_dgPairs r = b := by
  rintro ⟨a, o⟩ r h
  cases o with
  | none => injection h with h; subst h; rfl
  | some _ => cases h
noncomputable def f_spec_dgPairs_2 : Nat → Int → Int → List (Int × Int) → List (Int × Int × Int) → List (List Int) → Int → Int → Int → List Int → List (Int × Int × Int) → Int → Int → Int → Int → Option (Int × Int × List (Int × Int) × List (Int × Int × Int) × List (List Int) × List Int × List (Int × Int × Int) × Int × Int)
  | 0, _, _, _, _, _, _, _, _, _, _, _, _, _, _ => none
  | k + 1, b1_0, b1_1, b1_2, o2, o3, b4_0, b4_1, b4_2, v1, v2, v9, v11, v16, v17 =>
    if decide (v11 < (↑(List.length o2) : Int)) = true then if (0 : Int) ≤ v11 then if v11 < (↑(List.length o2) : Int) then if decide (b4_1 ≠ Prod.fst (Prod.snd (List.getD o2 (Int.toNat v11) ((0 : Int), (0 : Int), (0 : Int))))) = true then Option.bind (f_spec_dgExplains k (b1_0, b1_1, b1_2) [(b4_0, b4_1, b4_2), (Prod.fst (List.getD o2 (Int.toNat v11) ((0 : Int), (0 : Int), (0 : Int))), Prod.fst (Prod.snd (List.getD o2 (Int.toNat v11) ((0 : Int), (0 : Int), (0 : Int)))), Prod.snd (Prod.snd (List.getD o2 (Int.toNat v11) ((0 : Int), (0 : Int), (0 : Int)))))] v1 v2) fun z1 => if z1 = true then if List.length o3 + List.length [[v9, v11]] ≤ (140737488355328 / 24 : Nat) then f_spec_dgPairs_2 k b1_0 b1_1 b1_2 o2 (o3 ++ [[v9, v11]]) b4_0 b4_1 b4_2 v1 v2 v9 (wrap64 (v11 + (1 : Int))) v16 v17 else none else f_spec_dgPairs_2 k b1_0 b1_1 b1_2 o2 o3 b4_0 b4_1 b4_2 v1 v2 v9 (wrap64 (v11 + (1 : Int))) v16 v17 else if decide (b4_2 ≠ Prod.snd (Prod.snd (List.getD o2 (Int.toNat v11) ((0 : Int), (0 : Int), (0 : Int))))) = true then Option.bind (f_spec_dgExplains k (b1_0, b1_1, b1_2) [(b4_0, b4_1, b4_2), (Prod.fst (List.getD o2 (Int.toNat v11) ((0 : Int), (0 : Int), (0 : Int))), Prod.fst (Prod.snd (List.getD o2 (Int.toNat v11) ((0 : Int), (0 : Int), (0 : Int)))), Prod.snd (Prod.snd (List.getD o2 (Int.toNat v11) ((0 : Int), (0 : Int), (0 : Int)))))] v1 v2) fun z2 => if z2 = true then if List.length o3 + List.length [[v9, v11]] ≤ (140737488355328 / 24 : Nat) then f_spec_dgPairs_2 k b1_0 b1_1 b1_2 o2 (o3 ++ [[v9, v11]]) b4_0 b4_1 b4_2 v1 v2 v9 (wrap64 (v11 + (1 : Int))) v16 v17 else none else f_spec_dgPairs_2 k b1_0 b1_1 b1_2 o2 o3 b4_0 b4_1 b4_2 v1 v2 v9 (wrap64 (v11 + (1 : Int))) v16 v17 else f_spec_dgPairs_2 k b1_0 b1_1 b1_2 o2 o3 b4_0 b4_1 b4_2 v1 v2 v9 (wrap64 (v11 + (1 : Int))) v16 v17 else none else none else some (b1_0, b1_1, b1_2, o2, o3, v1, v2, v16, v17)
noncomputable def f_spec_dgPairs_2i : Spec := { objs := [OSh.ro, OSh.box (32 : Nat) [Sh.int IntKind.i64, Sh.int IntKind.i64, Sh.snap (0 : Nat) (Ty.pair (Ty.int IntKind.i64) (Ty.int IntKind.i64))], OSh.row true (87 : Nat) (Ty.pair (Ty.int IntKind.i64) (Ty.pair (Ty.int IntKind.i64) (Ty.int IntKind.i64))), OSh.row true (50 : Nat) (Ty.slice (3 : Nat) (Ty.int IntKind.i64)), OSh.box (87 : Nat) [Sh.int IntKind.i64, Sh.int IntKind.i64, Sh.int IntKind.i64]], tmps := [((1 : Nat), TSh.at (Sh.snap (0 : Nat) (Ty.int IntKind.i64))), ((2 : Nat), TSh.at (Sh.snap (0 : Nat) (Ty.pair (Ty.int IntKind.i64) (Ty.pair (Ty.int IntKind.i64) (Ty.int IntKind.i64))))), ((3 : Nat), TSh.at (Sh.ptr (1 : Nat) (0 : Nat))), ((7 : Nat), TSh.at (Sh.sl (2 : Nat))), ((8 : Nat), TSh.at (Sh.sl (3 : Nat))), ((9 : Nat), TSh.at (Sh.int IntKind.i64)), ((10 : Nat), TSh.at (Sh.ptr (4 : Nat) (0 : Nat))), ((11 : Nat), TSh.at (Sh.int IntKind.i64)), ((15 : Nat), TSh.at (Sh.sl (2 : Nat))), ((16 : Nat), TSh.at (Sh.int IntKind.i64)), ((17 : Nat), TSh.at (Sh.int IntKind.i64))] }
noncomputable def f_spec_dgPairs_2o : Spec := { objs := [OSh.ro, OSh.box (32 : Nat) [Sh.int IntKind.i64, Sh.int IntKind.i64, Sh.snap (0 : Nat) (Ty.pair (Ty.int IntKind.i64) (Ty.int IntKind.i64))], OSh.row true (87 : Nat) (Ty.pair (Ty.int IntKind.i64) (Ty.pair (Ty.int IntKind.i64) (Ty.int IntKind.i64))), OSh.row true (50 : Nat) (Ty.slice (3 : Nat) (Ty.int IntKind.i64))], tmps := [((1 : Nat), TSh.at (Sh.snap (0 : Nat) (Ty.int IntKind.i64))), ((2 : Nat), TSh.at (Sh.snap (0 : Nat) (Ty.pair (Ty.int IntKind.i64) (Ty.pair (Ty.int IntKind.i64) (Ty.int IntKind.i64))))), ((3 : Nat), TSh.at (Sh.ptr (1 : Nat) (0 : Nat))), ((7 : Nat), TSh.at (Sh.sl (2 : Nat))), ((8 : Nat), TSh.at (Sh.sl (3 : Nat))), ((15 : Nat), TSh.at (Sh.sl (2 : Nat))), ((16 : Nat), TSh.at (Sh.int IntKind.i64)), ((17 : Nat), TSh.at (Sh.int IntKind.i64))] }
noncomputable def f_spec_dgPairs_2D : LoopDef (Tup r_spec_dgPairs × OutD) := .plain f_spec_dgPairs_2i f_spec_dgPairs_2o (Int × Int × List (Int × Int) × List (Int × Int × Int) × List (List Int) × List Int × List (Int × Int × Int) × Int × Int) (fun k x => f_spec_dgPairs_2 k x.1.2.1.1 x.1.2.1.2.1 x.1.2.1.2.2.1 x.1.2.2.1 x.1.2.2.2.1 x.1.2.2.2.2.1.1 x.1.2.2.2.2.1.2.1 x.1.2.2.2.2.1.2.2.1 x.2.1 x.2.2.1 x.2.2.2.2.2.2.1 x.2.2.2.2.2.2.2.2.1 x.2.2.2.2.2.2.2.2.2.2.1 x.2.2.2.2.2.2.2.2.2.2.2.1) (fun z => (((), (z.1, z.2.1, z.2.2.1, ()), z.2.2.2.1, z.2.2.2.2.1, ()), (z.2.2.2.2.2.1, z.2.2.2.2.2.2.1, (), (), (), (), z.2.2.2.2.2.2.2.1, z.2.2.2.2.2.2.2.2, ()))) (fun y => (y.1.2.1.1, y.1.2.1.2.1, y.1.2.1.2.2.1, y.1.2.2.1, y.1.2.2.2.1, y.2.1, y.2.2.1, y.2.2.2.2.2.2.2.1, y.2.2.2.2.2.2.2.2.1)) (fun _ => rfl)
noncomputable def f_spec_dgPairs_0 : Nat → Int → Int → List (Int × Int) → List (Int × Int × Int) → List (List Int) → List Int → List (Int × Int × Int) → Int → Int → Option (List (List Int))
  | 0, _, _, _, _, _, _, _, _, _ => none
  | k + 1, b1_0, b1_1, b1_2, o2, o3, v1, v2, v16, v17 =>
    if decide (v17 < v16) = true then if (0 : Int) ≤ v17 then if v17 < (↑(List.length o2) : Int) then Option.bind (f_spec_dgPairs_2 k b1_0 b1_1 b1_2 o2 o3 (Prod.fst (List.getD o2 (Int.toNat v17) ((0 : Int), (0 : Int), (0 : Int)))) (Prod.fst (Prod.snd (List.getD o2 (Int.toNat v17) ((0 : Int), (0 : Int), (0 : Int))))) (Prod.snd (Prod.snd (List.getD o2 (Int.toNat v17) ((0 : Int), (0 : Int), (0 : Int))))) v1 v2 v17 (wrap64 (v17 + (1 : Int))) v16 v17) fun z3 => f_spec_dgPairs_0 k (Prod.fst z3) (Prod.fst (Prod.snd z3)) (Prod.fst (Prod.snd (Prod.snd z3))) (Prod.fst (Prod.snd (Prod.snd (Prod.snd z3)))) (Prod.fst (Prod.snd (Prod.snd (Prod.snd (Prod.snd z3))))) (Prod.fst (Prod.snd (Prod.snd (Prod.snd (Prod.snd (Prod.snd z3)))))) (Prod.fst (Prod.snd (Prod.snd (Prod.snd (Prod.snd (Prod.snd (Prod.snd z3))))))) (Prod.fst (Prod.snd (Prod.snd (Prod.snd (Prod.snd (Prod.snd (Prod.snd (Prod.snd z3)))))))) (wrap64 (Prod.snd (Prod.snd (Prod.snd (Prod.snd (Prod.snd (Prod.snd (Prod.snd (Prod.snd z3))))))) + (1 : Int))) else none else none else some o3
noncomputable def f_spec_dgPairs_0i : Spec := { objs := [OSh.ro, OSh.box (32 : Nat) [Sh.int IntKind.i64, Sh.int IntKind.i64, Sh.snap (0 : Nat) (Ty.pair (Ty.int IntKind.i64) (Ty.int IntKind.i64))], OSh.row true (87 : Nat) (Ty.pair (Ty.int IntKind.i64) (Ty.pair (Ty.int IntKind.i64) (Ty.int IntKind.i64))), OSh.row true (50 : Nat) (Ty.slice (3 : Nat) (Ty.int IntKind.i64))], tmps := [((1 : Nat), TSh.at (Sh.snap (0 : Nat) (Ty.int IntKind.i64))), ((2 : Nat), TSh.at (Sh.snap (0 : Nat) (Ty.pair (Ty.int IntKind.i64) (Ty.pair (Ty.int IntKind.i64) (Ty.int IntKind.i64))))), ((3 : Nat), TSh.at (Sh.ptr (1 : Nat) (0 : Nat))), ((7 : Nat), TSh.at (Sh.sl (2 : Nat))), ((8 : Nat), TSh.at (Sh.sl (3 : Nat))), ((15 : Nat), TSh.at (Sh.sl (2 : Nat))), ((16 : Nat), TSh.at (Sh.int IntKind.i64)), ((17 : Nat), TSh.at (Sh.int IntKind.i64))] }
noncomputable def f_spec_dgPairs_0o : Spec := { objs := [OSh.ro, OSh.row true (50 : Nat) (Ty.slice (3 : Nat) (Ty.int IntKind.i64))], tmps := [((8 : Nat), TSh.at (Sh.sl (1 : Nat)))] }
noncomputable def f_spec_dgPairs_0D : LoopDef (Tup r_spec_dgPairs × OutD) := .plain f_spec_dgPairs_0i f_spec_dgPairs_0o (List (List Int)) (fun k x => f_spec_dgPairs_0 k x.1.2.1.1 x.1.2.1.2.1 x.1.2.1.2.2.1 x.1.2.2.1 x.1.2.2.2.1 x.2.1 x.2.2.1 x.2.2.2.2.2.2.2.1 x.2.2.2.2.2.2.2.2.1) (fun z => (((), z, ()), ((), ()))) (fun y => (y.1.2.1)) (fun _ => rfl)
noncomputable def f_spec_dgPairs : Nat → Int × Int × List (Int × Int) → List Int → List (Int × Int × Int) → Option (List (List Int))
  | 0, _, _, _ => none
  | k + 1, p0, p1, p2 =>
    Option.bind (f_spec_faPossible k (Prod.fst p0, Prod.fst (Prod.snd p0), Prod.snd (Prod.snd p0))) fun z0 => Option.bind (f_spec_dgPairs_0 k (Prod.fst p0) (Prod.fst (Prod.snd p0)) (Prod.snd (Prod.snd p0)) z0 [] p1 p2 (↑(List.length z0) : Int) (0 : Int)) fun z4 => some z4
noncomputable def d_spec_dgPairs : FnDef := .of q_spec_dgPairs r_spec_dgPairs (List (List Int)) (fun k x => f_spec_dgPairs k x.1 x.2.1 x.2.2.1) to_spec_dgPairs of_spec_dgPairs to_of_spec_dgPairs
noncomputable def c_spec_dgPairs : Code := Try.f93.body.getD .skip
noncomputable def x_spec_dgPairs : Ctx (Tup r_spec_dgPairs × OutD) := { T := T, G := [(71, d_spec_faPossible.E), (90, d_spec_dgExplains.E)], mvs := [], no := 0, n := 63, res := resOf T q_spec_dgPairs r_spec_dgPairs Try.f93.results.toList, loops := [(2, f_spec_dgPairs_2D.E), (0, f_spec_dgPairs_0D.E)], regs := [], conds := [] }
theorem g_spec_dgPairs (k : Nat) : EnvOK Try.prog k x_spec_dgPairs.G := (EnvOK.cons (s_spec_faPossible k) (EnvOK.cons (s_spec_dgExplains k) (EnvOK.nil mixed)))
noncomputable def f_spec_dgPairs_2B : Code := (findLoop 2 c_spec_dgPairs).getD .skip
theorem f_spec_dgPairs_2h (k : Nat) (x : f_spec_dgPairs_2i.D) : f_spec_dgPairs_2D.lp (k + 1) x = loopK x_spec_dgPairs f_spec_dgPairs_2D 2 f_spec_dgPairs_2B k x := by kernel_rfl
theorem f_spec_dgPairs_2l (k : Nat) : LOK Try.prog x_spec_dgPairs k f_spec_dgPairs_2B := LOK.by [] (by kernel_rfl) AllOK.nil
theorem f_spec_dgPairs_2z (x : f_spec_dgPairs_2i.D) : f_spec_dgPairs_2D.lp 0 x = none := by kernel_rfl
theorem f_spec_dgPairs_2ok (k : Nat) : EOK Try.prog x_spec_dgPairs k f_spec_dgPairs_2D.E (.block 2 (.loop f_spec_dgPairs_2B)) := loop_ok T_ok g_spec_dgPairs f_spec_dgPairs_2z f_spec_dgPairs_2h f_spec_dgPairs_2l k
noncomputable def f_spec_dgPairs_0B : Code := (findLoop 0 c_spec_dgPairs).getD .skip
theorem f_spec_dgPairs_0h (k : Nat) (x : f_spec_dgPairs_0i.D) : f_spec_dgPairs_0D.lp (k + 1) x = loopK x_spec_dgPairs f_spec_dgPairs_0D 0 f_spec_dgPairs_0B k x := by kernel_rfl
theorem f_spec_dgPairs_0l (k : Nat) : LOK Try.prog x_spec_dgPairs k f_spec_dgPairs_0B := LOK.by [(f_spec_dgPairs_2D.E, .block 2 (.loop f_spec_dgPairs_2B))] (by kernel_rfl) (AllOK.cons (f_spec_dgPairs_2ok k) AllOK.nil)
theorem f_spec_dgPairs_0z (x : f_spec_dgPairs_0i.D) : f_spec_dgPairs_0D.lp 0 x = none := by kernel_rfl
theorem f_spec_dgPairs_0ok (k : Nat) : EOK Try.prog x_spec_dgPairs k f_spec_dgPairs_0D.E (.block 0 (.loop f_spec_dgPairs_0B)) := loop_ok T_ok g_spec_dgPairs f_spec_dgPairs_0z f_spec_dgPairs_0h f_spec_dgPairs_0l k
theorem h_spec_dgPairs (k : Nat) (x : Tup d_spec_dgPairs.ps) : d_spec_dgPairs.f (k + 1) x = fnK d_spec_dgPairs x_spec_dgPairs c_spec_dgPairs k x := by kernel_rfl
theorem z_spec_dgPairs (x : Tup d_spec_dgPairs.ps) : d_spec_dgPairs.f 0 x = none := by kernel_rfl
theorem l_spec_dgPairs (k : Nat) : LOK Try.prog x_spec_dgPairs k c_spec_dgPairs := LOK.by [(f_spec_dgPairs_0D.E, .block 0 (.loop f_spec_dgPairs_0B))] (by kernel_rfl) (AllOK.cons (f_spec_dgPairs_0ok k) AllOK.nil)
theorem s_spec_dgPairs (k : Nat) : SoundAt Try.prog k 93 d_spec_dgPairs.E := @fn_all Try.prog d_spec_dgPairs x_spec_dgPairs 93 Try.f93 c_spec_dgPairs (by kernel_rfl) (by kernel_rfl) (by kernel_rfl) Try.func93 (by kernel_rfl) (by kernel_rfl) (by kernel_rfl) T_ok g_spec_dgPairs l_spec_dgPairs z_spec_dgPairs h_spec_dgPairs k
/-! function 94 -/
noncomputable def r_impl_singleCauses : List PK := [{ t := Ty.slice (87 : Nat) (Ty.pair (Ty.int IntKind.i64) (Ty.pair (Ty.int IntKind.i64) (Ty.int IntKind.i64))) }]
noncomputable def q_impl_singleCauses : List PK := [{ t := Ty.pair (Ty.int IntKind.i64) (Ty.pair (Ty.int IntKind.i64) (Ty.slice (123 : Nat) (Ty.pair (Ty.int IntKind.i64) (Ty.int IntKind.i64)))), agg := true }, { t := Ty.slice (3 : Nat) (Ty.int IntKind.i64) }, { t := Ty.slice (45 : Nat) (Ty.pair (Ty.int IntKind.i64) (Ty.pair (Ty.int IntKind.i64) (Ty.int IntKind.i64))) }]
noncomputable def to_impl_singleCauses (r : List (Int × Int × Int)) : Tup r_impl_singleCauses × OutD := ((r, ()), none)
noncomputable def of_impl_singleCauses : Tup r_impl_singleCauses × OutD → Option (List (Int × Int × Int))
  | (a, none) => some (a.1)
  | _ => none
theorem to_of_impl_singleCauses : ∀ b r, of_impl_singleCauses b = some r → to_impl_singleCauses r = b := by
  rintro ⟨a, o⟩ r h
  cases o with
  | none => injection h with h; subst h; rfl
  | some _ => cases h
noncomputable def f_impl_singleCauses_0 : Nat → Int → Int → List (Int × Int) → List (Int × Int × Int) → List (Int × Int × Int) → List Int → List (Int × Int × Int) → Int → Int → Option (List (Int × Int × Int))
  | 0, _, _, _, _, _, _, _, _, _ => none
  | k + 1, b1_0, b1_1, b1_2, o2, o3, v1, v2, v13, v14 =>
    if decide (v14 < v13) = true then if (0 : Int) ≤ v14 then if v14 < (↑(List.length o3) : Int) then Option.bind (f_impl_explainsEnds k (b1_0, b1_1, b1_2) [(Prod.fst (List.getD o3 (Int.toNat v14) ((0 : Int), (0 : Int), (0 : Int))), Prod.fst (Prod.snd (List.getD o3 (Int.toNat v14) ((0 : Int), (0 : Int), (0 : Int)))), Prod.snd (Prod.snd (List.getD o3 (Int.toNat v14) ((0 : Int), (0 : Int), (0 : Int)))))] v1 v2) fun z1 => if z1 = true then if List.length o2 + List.length [(Prod.fst (List.getD o3 (Int.toNat v14) ((0 : Int), (0 : Int), (0 : Int))), Prod.fst (Prod.snd (List.getD o3 (Int.toNat v14) ((0 : Int), (0 : Int), (0 : Int)))), Prod.snd (Prod.snd (List.getD o3 (Int.toNat v14) ((0 : Int), (0 : Int), (0 : Int)))))] ≤ (140737488355328 / 24 : Nat) then f_impl_singleCauses_0 k b1_0 b1_1 b1_2 (o2 ++ [(Prod.fst (List.getD o3 (Int.toNat v14) ((0 : Int), (0 : Int), (0 : Int))), Prod.fst (Prod.snd (List.getD o3 (Int.toNat v14) ((0 : Int), (0 : Int), (0 : Int)))), Prod.snd (Prod.snd (List.getD o3 (Int.toNat v14) ((0 : Int), (0 : Int), (0 : Int)))))]) o3 v1 v2 v13 (wrap64 (v14 + (1 : Int))) else none else f_impl_singleCauses_0 k b1_0 b1_1 b1_2 o2 o3 v1 v2 v13 (wrap64 (v14 + (1 : Int))) else none else none else some o2
noncomputable def f_impl_singleCauses_0i : Spec := { objs := [OSh.ro, OSh.box (32 : Nat) [Sh.int IntKind.i64, Sh.int IntKind.i64, Sh.snap (0 : Nat) (Ty.pair (Ty.int IntKind.i64) (Ty.int IntKind.i64))], OSh.row true (87 : Nat) (Ty.pair (Ty.int IntKind.i64) (Ty.pair (Ty.int IntKind.i64) (Ty.int IntKind.i64))), OSh.row true (87 : Nat) (Ty.pair (Ty.int IntKind.i64) (Ty.pair (Ty.int IntKind.i64) (Ty.int IntKind.i64)))], tmps := [((1 : Nat), TSh.at (Sh.snap (0 : Nat) (Ty.int IntKind.i64))), ((2 : Nat), TSh.at (Sh.snap (0 : Nat) (Ty.pair (Ty.int IntKind.i64) (Ty.pair (Ty.int IntKind.i64) (Ty.int IntKind.i64))))), ((3 : Nat), TSh.at (Sh.ptr (1 : Nat) (0 : Nat))), ((7 : Nat), TSh.at (Sh.sl (2 : Nat))), ((12 : Nat), TSh.at (Sh.sl (3 : Nat))), ((13 : Nat), TSh.at (Sh.int IntKind.i64)), ((14 : Nat), TSh.at (Sh.int IntKind.i64))] }
noncomputable def f_impl_singleCauses_0o : Spec := { objs := [OSh.ro, OSh.row true (87 : Nat) (Ty.pair (Ty.int IntKind.i64) (Ty.pair (Ty.int IntKind.i64) (Ty.int IntKind.i64)))], tmps := [((7 : Nat), TSh.at (Sh.sl (1 : Nat)))] }
noncomputable def f_impl_singleCauses_0D : LoopDef (Tup r_impl_singleCauses × OutD) := .plain f_impl_singleCauses_0i f_impl_singleCauses_0o (List (Int × Int × Int)) (fun k x => f_impl_singleCauses_0 k x.1.2.1.1 x.1.2.1.2.1 x.1.2.1.2.2.1 x.1.2.2.1 x.1.2.2.2.1 x.2.1 x.2.2.1 x.2.2.2.2.2.2.1 x.2.2.2.2.2.2.2.1) (fun z => (((), z, ()), ((), ()))) (fun y => (y.1.2.1)) (fun _ => rfl)
noncomputable def f_impl_singleCauses : Nat → Int × Int × List (Int × Int) → List Int → List (Int × Int × Int) → Option (List (Int × Int × Int))
  | 0, _, _, _ => none
  | k + 1, p0, p1, p2 =>
    Option.bind (f_impl_possibleFaults k (Prod.fst p0, Prod.fst (Prod.snd p0), Prod.snd (Prod.snd p0))) fun z0 => Option.bind (f_impl_singleCauses_0 k (Prod.fst p0) (Prod.fst (Prod.snd p0)) (Prod.snd (Prod.snd p0)) [] z0 p1 p2 (↑(List.length z0) : Int) (0 : Int)) fun z2 => some z2
noncomputable def d_impl_singleCauses : FnDef := .of q_impl_singleCauses r_impl_singleCauses (List (Int × Int × Int)) (fun k x => f_impl_singleCauses k x.1 x.2.1 x.2.2.1) to_impl_singleCauses of_impl_singleCauses to_of_impl_singleCauses
noncomputable def c_impl_singleCauses : Code := Try.f94.body.getD .skip
noncomputable def x_impl_singleCauses : Ctx (Tup r_impl_singleCauses × OutD) := { T := T, G := [(72, d_impl_possibleFaults.E), (91, d_impl_explainsEnds.E)], mvs := [], no := 0, n := 30, res := resOf T q_impl_singleCauses r_impl_singleCauses Try.f94.results.toList, loops := [(0, f_impl_singleCauses_0D.E)], regs := [], conds := [] }
theorem g_impl_singleCauses (k : Nat) : EnvOK Try.prog k x_impl_singleCauses.G := (EnvOK.cons (s_impl_possibleFaults k) (EnvOK.cons (s_impl_explainsEnds k) (EnvOK.nil mixed)))
noncomputable def f_impl_singleCauses_0B : Code := (findLoop 0 c_impl_singleCauses).getD .skip
theorem f_impl_singleCauses_0h (k : Nat) (x : f_impl_singleCauses_0i.D) : f_impl_singleCauses_0D.lp (k + 1) x = loopK x_impl_singleCauses f_impl_singleCauses_0D 0 f_impl_singleCauses_0B k x := by kernel_rfl
theorem f_impl_singleCauses_0l (k : Nat) : LOK Try.prog x_impl_singleCauses k f_impl_singleCauses_0B := LOK.by [] (by kernel_rfl) AllOK.nil
theorem f_impl_singleCauses_0z (x : f_impl_singleCauses_0i.D) : f_impl_singleCauses_0D.lp 0 x = none := by kernel_rfl
theorem f_impl_singleCauses_0ok (k : Nat) : EOK Try.prog x_impl_singleCauses k f_impl_singleCauses_0D.E (.block 0 (.loop f_impl_singleCauses_0B)) := loop_ok T_ok g_impl_singleCauses f_impl_singleCauses_0z f_impl_singleCauses_0h f_impl_singleCauses_0l k
theorem h_impl_singleCauses (k : Nat) (x : Tup d_impl_singleCauses.ps) : d_impl_singleCauses.f (k + 1) x = fnK d_impl_singleCauses x_impl_singleCauses c_impl_singleCauses k x := by kernel_rfl
theorem z_impl_singleCauses (x : Tup d_impl_singleCauses.ps) : d_impl_singleCauses.f 0 x = none := by kernel_rfl
theorem l_impl_singleCauses (k : Nat) : LOK Try.prog x_impl_singleCauses k c_impl_singleCauses := LOK.by [(f_impl_singleCauses_0D.E, .block 0 (.loop f_impl_singleCauses_0B))] (by kernel_rfl) (AllOK.cons (f_impl_singleCauses_0ok k) AllOK.nil)
theorem s_impl_singleCauses (k : Nat) : SoundAt Try.prog k 94 d_impl_singleCauses.E := @fn_all Try.prog d_impl_singleCauses x_impl_singleCauses 94 Try.f94 c_impl_singleCauses (by kernel_rfl) (by kernel_rfl) (by kernel_rfl) Try.func94 (by kernel_rfl) (by kernel_rfl) (by kernel_rfl) T_ok g_impl_singleCauses l_impl_singleCauses z_impl_singleCauses h_impl_singleCauses k
/-! function 95 -/
noncomputable def r_impl_pairCauses : List PK := [{ t := Ty.slice (50 : Nat) (Ty.slice (3 : Nat) (Ty.int IntKind.i64)) }]
noncomputable def q_impl_pairCauses : List PK := [{ t := Ty.pair (Ty.int IntKind.i64) (Ty.pair (Ty.int IntKind.i64) (Ty.slice (123 : Nat) (Ty.pair (Ty.int IntKind.i64) (Ty.int IntKind.i64)))), agg := true }, { t := Ty.slice (3 : Nat) (Ty.int IntKind.i64) }, { t := Ty.slice (45 : Nat) (Ty.pair (Ty.int IntKind.i64) (Ty.pair (Ty.int IntKind.i64) (Ty.int IntKind.i64))) }]
noncomputable def to_impl_pairCauses (r : List (List Int)) : Tup r_impl_pairCauses × OutD := ((r, ()), none)
noncomputable def of_impl_pairCauses : Tup r_impl_pairCauses × OutD → Option (List (List Int))
  | (a, none) => some (a.1)
  | _ => none
theorem to_of_impl_pairCauses : ∀ b r, of_impl_pairCauses b = some r → to_impl_pairCauses r = b := by
  rintro ⟨a, o⟩ r h
  cases o with
  | none => injection h with h; subst h; rfl
  | some _ => cases h
noncomputable def f_impl_pairCauses_2 : Nat → Int → Int → List (Int × Int) → List (List Int) → List (Int × Int × Int) → Int → Int → Int → List Int → List (Int × Int × Int) → Int → Int → Int → Int → Option (Int × Int × List (Int × Int) × List (List Int) × List (Int × Int × Int) × List Int × List (Int × Int × Int) × Int × Int)
  | 0, _, _, _, _, _, _, _, _, _, _, _, _, _, _ => none
  | k + 1, b1_0, b1_1, b1_2, o2, o3, b4_0, b4_1, b4_2, v1, v2, v9, v11, v17, v18 =>
    if decide (v11 < (↑(List.length o3) : Int)) = true then if (0 : Int) ≤ v11 then if v11 < (↑(List.length o3) : Int) then if decide (b4_1 ≠ Prod.fst (Prod.snd (List.getD o3 (Int.toNat v11) ((0 : Int), (0 : Int), (0 : Int))))) = true then Option.bind (f_impl_explainsEnds k (b1_0, b1_1, b1_2) [(b4_0, b4_1, b4_2), (Prod.fst (List.getD o3 (Int.toNat v11) ((0 : Int), (0 : Int), (0 : Int))), Prod.fst (Prod.snd (List.getD o3 (Int.toNat v11) ((0 : Int), (0 : Int), (0 : Int)))), Prod.snd (Prod.snd (List.getD o3 (Int.toNat v11) ((0 : Int), (0 : Int), (0 : Int)))))] v1 v2) fun z1 => if z1 = true then if List.length o2 + List.length [[v9, v11]] ≤ (140737488355328 / 24 : Nat) then f_impl_pairCauses_2 k b1_0 b1_1 b1_2 (o2 ++ [[v9, v11]]) o3 b4_0 b4_1 b4_2 v1 v2 v9 (wrap64 (v11 + (1 : Int))) v17 v18 else none else f_impl_pairCauses_2 k b1_0 b1_1 b1_2 o2 o3 b4_0 b4_1 b4_2 v1 v2 v9 (wrap64 (v11 + (1 : Int))) v17 v18 else if decide (b4_2 ≠ Prod.snd (Prod.snd (List.getD o3 (Int.toNat v11) ((0 : Int), (0 : Int), (0 : Int))))) = true then Option.bind (f_impl_explainsEnds k (b1_0, b1_1, b1_2) [(b4_0, b4_1, b4_2), (Prod.fst (List.getD o3 (Int.toNat v11) ((0 : Int), (0 : Int), (0 : Int))), Prod.fst (Prod.snd (List.getD o3 (Int.toNat v11) ((0 : Int), (0 : Int), (0 : Int)))), Prod.snd (Prod.snd (List.getD o3 (Int.toNat v11) ((0 : Int), (0 : Int), (0 : Int)))))] v1 v2) fun z2 => if z2 = true then if List.length o2 + List.length [[v9, v11]] ≤ (140737488355328 / 24 : Nat) then f_impl_pairCauses_2 k b1_0 b1_1 b1_2 (o2 ++ [[v9, v11]]) o3 b4_0 b4_1 b4_2 v1 v2 v9 (wrap64 (v11 + (1 : Int))) v17 v18 else none else f_impl_pairCauses_2 k b1_0 b1_1 b1_2 o2 o3 b4_0 b4_1 b4_2 v1 v2 v9 (wrap64 (v11 + (1 : Int))) v17 v18 else f_impl_pairCauses_2 k b1_0 b1_1 b1_2 o2 o3 b4_0 b4_1 b4_2 v1 v2 v9 (wrap64 (v11 + (1 : Int))) v17 v18 else none else none else some (b1_0, b1_1, b1_2, o2, o3, v1, v2, v17, v18)
noncomputable def f_impl_pairCauses_2i : Spec := { objs := [OSh.ro, OSh.box (32 : Nat) [Sh.int IntKind.i64, Sh.int IntKind.i64, Sh.snap (0 : Nat) (Ty.pair (Ty.int IntKind.i64) (Ty.int IntKind.i64))], OSh.row true (50 : Nat) (Ty.slice (3 : Nat) (Ty.int IntKind.i64)), OSh.row true (87 : Nat) (Ty.pair (Ty.int IntKind.i64) (Ty.pair (Ty.int IntKind.i64) (Ty.int IntKind.i64))), OSh.box (87 : Nat) [Sh.int IntKind.i64, Sh.int IntKind.i64, Sh.int IntKind.i64]], tmps := [((1 : Nat), TSh.at (Sh.snap (0 : Nat) (Ty.int IntKind.i64))), ((2 : Nat), TSh.at (Sh.snap (0 : Nat) (Ty.pair (Ty.int IntKind.i64) (Ty.pair (Ty.int IntKind.i64) (Ty.int IntKind.i64))))), ((3 : Nat), TSh.at (Sh.ptr (1 : Nat) (0 : Nat))), ((7 : Nat), TSh.at (Sh.sl (2 : Nat))), ((8 : Nat), TSh.at (Sh.sl (3 : Nat))), ((9 : Nat), TSh.at (Sh.int IntKind.i64)), ((10 : Nat), TSh.at (Sh.ptr (4 : Nat) (0 : Nat))), ((11 : Nat), TSh.at (Sh.int IntKind.i64)), ((16 : Nat), TSh.at (Sh.sl (3 : Nat))), ((17 : Nat), TSh.at (Sh.int IntKind.i64)), ((18 : Nat), TSh.at (Sh.int IntKind.i64))] }
noncomputable def f_impl_pairCauses_2o : Spec := { objs := [OSh.ro, OSh.box (32 : Nat) [Sh.int IntKind.i64, Sh.int IntKind.i64, Sh.snap (0 : Nat) (Ty.pair (Ty.int IntKind.i64) (Ty.int IntKind.i64))], OSh.row true (50 : Nat) (Ty.slice (3 : Nat) (Ty.int IntKind.i64)), OSh.row true (87 : Nat) (Ty.pair (Ty.int IntKind.i64) (Ty.pair (Ty.int IntKind.i64) (Ty.int IntKind.i64)))], tmps := [((1 : Nat), TSh.at (Sh.snap (0 : Nat) (Ty.int IntKind.i64))), ((2 : Nat), TSh.at (Sh.snap (0 : Nat) (Ty.pair (Ty.int IntKind.i64) (Ty.pair (Ty.int IntKind.i64) (Ty.int IntKind.i64))))), ((3 : Nat), TSh.at (Sh.ptr (1 : Nat) (0 : Nat))), ((7 : Nat), TSh.at (Sh.sl (2 : Nat))), ((8 : Nat), TSh.at (Sh.sl (3 : Nat))), ((16 : Nat), TSh.at (Sh.sl (3 : Nat))), ((17 : Nat), TSh.at (Sh.int IntKind.i64)), ((18 : Nat), TSh.at (Sh.int IntKind.i64))] }
noncomputable def f_impl_pairCauses_2D : LoopDef (Tup r_impl_pairCauses × OutD) := .plain f_impl_pairCauses_2i f_impl_pairCauses_2o (Int × Int × List (Int × Int) × List (List Int) × List (Int × Int × Int) × List Int × List (Int × Int × Int) × Int × Int) (fun k x => f_impl_pairCauses_2 k x.1.2.1.1 x.1.2.1.2.1 x.1.2.1.2.2.1 x.1.2.2.1 x.1.2.2.2.1 x.1.2.2.2.2.1.1 x.1.2.2.2.2.1.2.1 x.1.2.2.2.2.1.2.2.1 x.2.1 x.2.2.1 x.2.2.2.2.2.2.1 x.2.2.2.2.2.2.2.2.1 x.2.2.2.2.2.2.2.2.2.2.1 x.2.2.2.2.2.2.2.2.2.2.2.1) (fun z => (((), (z.1, z.2.1, z.2.2.1, ()), z.2.2.2.1, z.2.2.2.2.1, ()), (z.2.2.2.2.2.1, z.2.2.2.2.2.2.1, (), (), (), (), z.2.2.2.2.2.2.2.1, z.2.2.2.2.2.2.2.2, ()))) (fun y => (y.1.2.1.1, y.1.2.1.2.1, y.1.2.1.2.2.1, y.1.2.2.1, y.1.2.2.2.1, y.2.1, y.2.2.1, y.2.2.2.2.2.2.2.1, y.2.2.2.2.2.2.2.2.1)) (fun _ => rfl)
noncomputable def f_impl_pairCauses_0 : Nat → Int → Int → List (Int × Int) → List (List Int) → List (Int × Int × Int) → List Int → List (Int × Int × Int) → Int → Int → Option (List (List Int))
  | 0, _, _, _, _, _, _, _, _, _ => none
  | k + 1, b1_0, b1_1, b1_2, o2, o3, v1, v2, v17, v18 =>
    if decide (v18 < v17) = true then if (0 : Int) ≤ v18 then if v18 < (↑(List.length o3) : Int) then Option.bind (f_impl_pairCauses_2 k b1_0 b1_1 b1_2 o2 o3 (Prod.fst (List.getD o3 (Int.toNat v18) ((0 : Int), (0 : Int), (0 : Int)))) (Prod.fst (Prod.snd (List.getD o3 (Int.toNat v18) ((0 : Int), (0 : Int), (0 : Int))))) (Prod.snd (Prod.snd (List.getD o3 (Int.toNat v18) ((0 : Int), (0 : Int), (0 : Int))))) v1 v2 v18 (wrap64 (v18 + (1 : Int))) v17 v18) fun z3 => f_impl_pairCauses_0 k (Prod.fst z3) (Prod.fst (Prod.snd z3)) (Prod.fst (Prod.snd (Prod.snd z3))) (Prod.fst (Prod.snd (Prod.snd (Prod.snd z3)))) (Prod.fst (Prod.snd (Prod.snd (Prod.snd (Prod.snd z3))))) (Prod.fst (Prod.snd (Prod.snd (Prod.snd (Prod.snd (Prod.snd z3)))))) (Prod.fst (Prod.snd (Prod.snd (Prod.snd (Prod.snd (Prod.snd (Prod.snd z3))))))) (Prod.fst (Prod.snd (Prod.snd (Prod.snd (Prod.snd (Prod.snd (Prod.snd (Prod.snd z3)))))))) (wrap64 (Prod.snd (Prod.snd (Prod.snd (Prod.snd (Prod.snd (Prod.snd (Prod.snd (Prod.snd z3))))))) + (1 : Int))) else none else none else some o2
noncomputable def f_impl_pairCauses_0i : Spec := { objs := [OSh.ro, OSh.box (32 : Nat) [Sh.int IntKind.i64, Sh.int IntKind.i64, Sh.snap (0 : Nat) (Ty.pair (Ty.int IntKind.i64) (Ty.int IntKind.i64))], OSh.row true (50 : Nat) (Ty.slice (3 : Nat) (Ty.int IntKind.i64)), OSh.row true (87 : Nat) (Ty.pair (Ty.int IntKind.i64) (Ty.pair (Ty.int IntKind.i64) (Ty.int IntKind.i64)))], tmps := [((1 : Nat), TSh.at (Sh.snap (0 : Nat) (Ty.int IntKind.i64))), ((2 : Nat), TSh.at (Sh.snap (0 : Nat) (Ty.pair (Ty.int IntKind.i64) (Ty.pair (Ty.int IntKind.i64) (Ty.int IntKind.i64))))), ((3 : Nat), TSh.at (Sh.ptr (1 : Nat) (0 : Nat))), ((7 : Nat), TSh.at (Sh.sl (2 : Nat))), ((8 : Nat), TSh.at (Sh.sl (3 : Nat))), ((16 : Nat), TSh.at (Sh.sl (3 : Nat))), ((17 : Nat), TSh.at (Sh.int IntKind.i64)), ((18 : Nat), TSh.at (Sh.int IntKind.i64))] }
noncomputable def f_impl_pairCauses_0o : Spec := { objs := [OSh.ro, OSh.row true (50 : Nat) (Ty.slice (3 : Nat) (Ty.int IntKind.i64))], tmps := [((7 : Nat), TSh.at (Sh.sl (1 : Nat)))] }
noncomputable def f_impl_pairCauses_0D : LoopDef (Tup r_impl_pairCauses × OutD) := .plain f_impl_pairCauses_0i f_impl_pairCauses_0o (List (List Int)) (fun k x => f_impl_pairCauses_0 k x.1.2.1.1 x.1.2.1.2.1 x.1.2.1.2.2.1 x.1.2.2.1 x.1.2.2.2.1 x.2.1 x.2.2.1 x.2.2.2.2.2.2.2.1 x.2.2.2.2.2.2.2.2.1) (fun z => (((), z, ()), ((), ()))) (fun y => (y.1.2.1)) (fun _ => rfl)
noncomputable def f_impl_pairCauses : Nat → Int × Int × List (Int × Int) → List Int → List (Int × Int × Int) → Option (List (List Int))
  | 0, _, _, _ => none
  | k + 1, p0, p1, p2 =>
    Option.bind (f_impl_possibleFaults k (Prod.fst p0, Prod.fst (Prod.snd p0), Prod.snd (Prod.snd p0))) fun z0 => Option.bind (f_impl_pairCauses_0 k (Prod.fst p0) (Prod.fst (Prod.snd p0)) (Prod.snd (Prod.snd p0)) [] z0 p1 p2 (↑(List.length z0) : Int) (0 : Int)) fun z4 => some z4
noncomputable def d_impl_pairCauses : FnDef := .of q_impl_pairCauses r_impl_pairCauses (List (List Int)) (fun k x => f_impl_pairCauses k x.1 x.2.1 x.2.2.1) to_impl_pairCauses of_impl_pairCauses to_of_impl_pairCauses
noncomputable def c_impl_pairCauses : Code := Try.f95.body.getD .skip
noncomputable def x_impl_pairCauses : Ctx (Tup r_impl_pairCauses × OutD) := { T := T, G := [(72, d_impl_possibleFaults.E), (91, d_impl_explainsEnds.E)], mvs := [], no := 0, n := 64, res := resOf T q_impl_pairCauses r_impl_pairCauses Try.f95.results.toList, loops := [(2, f_impl_pairCauses_2D.E), (0, f_impl_pairCauses_0D.E)], regs := [], conds := [] }
theorem g_impl_pairCauses (k : Nat) : EnvOK Try.prog k x_impl_pairCauses.G := (EnvOK.cons (s_impl_possibleFaults k) (EnvOK.cons (s_impl_explainsEnds k) (EnvOK.nil mixed)))
noncomputable def f_impl_pairCauses_2B : Code := (findLoop 2 c_impl_pairCauses).getD .skip
theorem f_impl_pairCauses_2h (k : Nat) (x : f_impl_pairCauses_2i.D) : f_impl_pairCauses_2D.lp (k + 1) x = loopK x_impl_pairCauses f_impl_pairCauses_2D 2 f_impl_pairCauses_2B k x := by kernel_rfl
theorem f_impl_pairCauses_2l (k : Nat) : LOK Try.prog x_impl_pairCauses k f_impl_pairCauses_2B := LOK.by [] (by kernel_rfl) AllOK.nil
theorem f_impl_pairCauses_2z (x : f_impl_pairCauses_2i.D) : f_impl_pairCauses_2D.lp 0 x = none := by kernel_rfl
theorem f_impl_pairCauses_2ok (k : Nat) : EOK Try.prog x_impl_pairCauses k f_impl_pairCauses_2D.E (.block 2 (.loop f_impl_pairCauses_2B)) := loop_ok T_ok g_impl_pairCauses f_impl_pairCauses_2z f_impl_pairCauses_2h f_impl_pairCauses_2l k
noncomputable def f_impl_pairCauses_0B : Code := (findLoop 0 c_impl_pairCauses).getD .skip
theorem f_impl_pairCauses_0h (k : Nat) (x : f_impl_pairCauses_0i.D) : f_impl_pairCauses_0D.lp (k + 1) x = loopK x_impl_pairCauses f_impl_pairCauses_0D 0 f_impl_pairCauses_0B k x := by kernel_rfl
theorem f_impl_pairCauses_0l (k : Nat) : LOK Try.prog x_impl_pairCauses k f_impl_pairCauses_0B := LOK.by [(f_impl_pairCauses_2D.E, .block 2 (.loop f_impl_pairCauses_2B))] (by kernel_rfl) (AllOK.cons (f_impl_pairCauses_2ok k) AllOK.nil)
theorem f_impl_pairCauses_0z (x : f_impl_pairCauses_0i.D) : f_impl_pairCauses_0D.lp 0 x = none := by kernel_rfl
theorem f_impl_pairCauses_0ok (k : Nat) : EOK Try.prog x_impl_pairCauses k f_impl_pairCauses_0D.E (.block 0 (.loop f_impl_pairCauses_0B)) := loop_ok T_ok g_impl_pairCauses f_impl_pairCauses_0z f_impl_pairCauses_0h f_impl_pairCauses_0l k
theorem h_impl_pairCauses (k : Nat) (x : Tup d_impl_pairCauses.ps) : d_impl_pairCauses.f (k + 1) x = fnK d_impl_pairCauses x_impl_pairCauses c_impl_pairCauses k x := by kernel_rfl
theorem z_impl_pairCauses (x : Tup d_impl_pairCauses.ps) : d_impl_pairCauses.f 0 x = none := by kernel_rfl
theorem l_impl_pairCauses (k : Nat) : LOK Try.prog x_impl_pairCauses k c_impl_pairCauses := LOK.by [(f_impl_pairCauses_0D.E, .block 0 (.loop f_impl_pairCauses_0B))] (by kernel_rfl) (AllOK.cons (f_impl_pairCauses_0ok k) AllOK.nil)
theorem s_impl_pairCauses (k : Nat) : SoundAt Try.prog k 95 d_impl_pairCauses.E := @fn_all Try.prog d_impl_pairCauses x_impl_pairCauses 95 Try.f95 c_impl_pairCauses (by kernel_rfl) (by kernel_rfl) (by kernel_rfl) Try.func95 (by kernel_rfl) (by kernel_rfl) (by kernel_rfl) T_ok g_impl_pairCauses l_impl_pairCauses z_impl_pairCauses h_impl_pairCauses k
end
end Go.Proofs.Ytkefbmaagdaodaa.Vs
