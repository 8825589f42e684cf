/- Functions of the program by plain functions, each with its contract. -/
import Derived.Test.YtkefbmaagdaodaaVsT
import Derived.Test.YtkefbmaagdaodaaVf0
import Derived.Test.YtkefbmaagdaodaaVf1
import Derived.Test.YtkefbmaagdaodaaVf2
import Derived.Test.YtkefbmaagdaodaaVf3
import Derived.Test.YtkefbmaagdaodaaVf4
set_option maxRecDepth 100000
set_option linter.unusedVariables false
namespace Go.Proofs.Ytkefbmaagdaodaa.Vs
open Go.RowKit
noncomputable section
/-! function 4 -/
noncomputable def r_laws_FnExactPossibleFaults : List PK := [{ t := Ty.bool }]
noncomputable def q_laws_FnExactPossibleFaults : List PK := [{ t := Ty.pair (Ty.int IntKind.i64) (Ty.pair (Ty.int IntKind.i64) (Ty.slice 128 (Ty.pair (Ty.int IntKind.i64) (Ty.int IntKind.i64)))), agg := true }]
noncomputable def to_laws_FnExactPossibleFaults (r : Bool) : Tup r_laws_FnExactPossibleFaults × OutD := ((r, ()), none)
noncomputable def of_laws_FnExactPossibleFaults : Tup r_laws_FnExactPossibleFaults × OutD → Option (Bool)
  | (a, none) => some (a.1)
  | _ => none
theorem to_of_laws_FnExactPossibleFaults : ∀ b r, of_laws_FnExactPossibleFaults b = some r → to_laws_FnExactPossibleFaults r = b := by
  rintro ⟨a, o⟩ r h
  cases o with
  | none => injection h with h; subst h; rfl
  | some _ => cases h
noncomputable def f_laws_FnExactPossibleFaults : Nat → Int × Int × List (Int × Int) → Option Bool
  | 0, _ => none
  | k + 1, p0 =>
    Option.bind (f_laws_szBoard k (Prod.fst p0, Prod.fst (Prod.snd p0), Prod.snd (Prod.snd p0)) 1048576) fun z0 => if decide (z0 < 0) = true then some true else Option.bind (f_laws_toBoard k (Prod.fst p0, Prod.fst (Prod.snd p0), Prod.snd (Prod.snd p0))) fun z1 => Option.bind (f_spec_PossibleFaults k (Prod.fst z1, Prod.fst (Prod.snd z1), Prod.snd (Prod.snd z1))) fun z2 => Option.bind (f_laws_toBoard k (Prod.fst p0, Prod.fst (Prod.snd p0), Prod.snd (Prod.snd p0))) fun z3 => Option.bind (f_impl_PossibleFaults k (Prod.fst z3, Prod.fst (Prod.snd z3), Prod.snd (Prod.snd z3))) fun z4 => Option.bind (f_laws_eqFaultS k (Prod.fst z4) (Prod.fst z2)) fun z5 => if (!z5) = true then some false else if (!Prod.snd z4 == Prod.snd z2) = true then some false else Option.bind (f_laws_toBoard k (Prod.fst p0, Prod.fst (Prod.snd p0), Prod.snd (Prod.snd p0))) fun z6 => Option.bind (f_laws_eqBoard k (Prod.fst z3, Prod.fst (Prod.snd z3), Prod.snd (Prod.snd z3)) (Prod.fst z6, Prod.fst (Prod.snd z6), Prod.snd (Prod.snd z6))) fun z7 => if (!z7) = true then some false else Option.bind (f_laws_markBoard k (Prod.fst z3, Prod.fst (Prod.snd z3), Prod.snd (Prod.snd z3)) 1) fun z8 => if decide (Prod.fst z8 < 0) = true then some false else Option.bind (f_laws_eqFaultS k (Prod.fst z4) (Prod.fst z2)) fun z9 => if (!z9) = true then some false else if (!Prod.snd z4 == Prod.snd z2) = true then some false else Option.bind (f_laws_markFaultS k (Prod.fst z4) 1) fun z10 => Option.bind (f_laws_heldFaultS k (Prod.snd z10) 1) fun z11 => if decide (z11 < 0) = true then some false else if decide (z11 ≠ Prod.fst z10) = true then some false else Option.bind (f_laws_toBoard k (Prod.fst p0, Prod.fst (Prod.snd p0), Prod.snd (Prod.snd p0))) fun z12 => Option.bind (f_impl_PossibleFaults k (Prod.fst z12, Prod.fst (Prod.snd z12), Prod.snd (Prod.snd z12))) fun z13 => Option.bind (f_laws_eqFaultS k (Prod.fst z13) (Prod.fst z2)) fun z14 => if (!z14) = true then some false else if (!Prod.snd z13 == Prod.snd z2) = true then some false else Option.bind (f_laws_heldFaultS k (Prod.snd z10) 1) fun z15 => if decide (z15 < 0) = true then some false else if decide (z15 ≠ Prod.fst z10) = true then some false else some true
noncomputable def d_laws_FnExactPossibleFaults : FnDef := .of q_laws_FnExactPossibleFaults r_laws_FnExactPossibleFaults (Bool) (fun k x => f_laws_FnExactPossibleFaults k x.1) to_laws_FnExactPossibleFaults of_laws_FnExactPossibleFaults to_of_laws_FnExactPossibleFaults
noncomputable def c_laws_FnExactPossibleFaults : Code := Try.f4.body.getD .skip
noncomputable def x_laws_FnExactPossibleFaults : Ctx (Tup r_laws_FnExactPossibleFaults × OutD) := { T := T, G := [(15, d_laws_szBoard.E), (18, d_laws_toBoard.E), (23, d_spec_PossibleFaults.E), (24, d_impl_PossibleFaults.E), (22, d_laws_eqFaultS.E), (21, d_laws_eqBoard.E), (25, d_laws_markBoard.E), (26, d_laws_markFaultS.E), (27, d_laws_heldFaultS.E)], mvs := [], no := 0, n := 96, res := resOf T q_laws_FnExactPossibleFaults r_laws_FnExactPossibleFaults Try.f4.results.toList, loops := [] }
theorem g_laws_FnExactPossibleFaults (k : Nat) : EnvOK Try.prog k x_laws_FnExactPossibleFaults.G := (EnvOK.cons (s_laws_szBoard k) (EnvOK.cons (s_laws_toBoard k) (EnvOK.cons (s_spec_PossibleFaults k) (EnvOK.cons (s_impl_PossibleFaults k) (EnvOK.cons (s_laws_eqFaultS k) (EnvOK.cons (s_laws_eqBoard k) (EnvOK.cons (s_laws_markBoard k) (EnvOK.cons (s_laws_markFaultS k) (EnvOK.cons (s_laws_heldFaultS k) (EnvOK.nil mixed))))))))))
theorem h_laws_FnExactPossibleFaults (k : Nat) (x : Tup d_laws_FnExactPossibleFaults.ps) : d_laws_FnExactPossibleFaults.f (k + 1) x = fnK d_laws_FnExactPossibleFaults x_laws_FnExactPossibleFaults c_laws_FnExactPossibleFaults k x := by kernel_rfl
theorem z_laws_FnExactPossibleFaults (x : Tup d_laws_FnExactPossibleFaults.ps) : d_laws_FnExactPossibleFaults.f 0 x = none := by kernel_rfl
theorem l_laws_FnExactPossibleFaults (k : Nat) : LOK Try.prog x_laws_FnExactPossibleFaults k c_laws_FnExactPossibleFaults := LOK.by [] (by kernel_rfl) AllOK.nil
theorem s_laws_FnExactPossibleFaults (k : Nat) : SoundAt Try.prog k 4 d_laws_FnExactPossibleFaults.E := @fn_all Try.prog d_laws_FnExactPossibleFaults x_laws_FnExactPossibleFaults 4 Try.f4 c_laws_FnExactPossibleFaults (by kernel_rfl) (by kernel_rfl) (by kernel_rfl) Try.func4 (by kernel_rfl) (by kernel_rfl) (by kernel_rfl) T_ok g_laws_FnExactPossibleFaults l_laws_FnExactPossibleFaults z_laws_FnExactPossibleFaults h_laws_FnExactPossibleFaults k
/-! function 20 -/
noncomputable def r_impl_AreFaults : List PK := [{ t := Ty.bool }, { t := Ty.bool }]
noncomputable def q_impl_AreFaults : List PK := [{ t := Ty.pair (Ty.int IntKind.i64) (Ty.pair (Ty.int IntKind.i64) (Ty.slice 123 (Ty.pair (Ty.int IntKind.i64) (Ty.int IntKind.i64)))), agg := true }, { t := Ty.slice 87 (Ty.pair (Ty.int IntKind.i64) (Ty.pair (Ty.int IntKind.i64) (Ty.int IntKind.i64))) }]
noncomputable def to_impl_AreFaults (r : Bool × Bool) : Tup r_impl_AreFaults × OutD := ((r.1, r.2, ()), none)
noncomputable def of_impl_AreFaults : Tup r_impl_AreFaults × OutD → Option (Bool × Bool)
  | (a, none) => some (a.1, a.2.1)
  | _ => none
theorem to_of_impl_AreFaults : ∀ b r, of_impl_AreFaults b = some r → to_impl_AreFaults r = b := by
  rintro ⟨a, o⟩ r h
  cases o with
  | none => injection h with h; subst h; rfl
  | some _ => cases h
noncomputable def f_impl_AreFaults : Nat → Int × Int × List (Int × Int) → List (Int × Int × Int) → Option (Bool × Bool)
  | 0, _, _ => none
  | k + 1, p0, p1 =>
    Option.bind (f_impl_IsBoard k (Prod.fst p0, Prod.fst (Prod.snd p0), Prod.snd (Prod.snd p0))) fun z0 => if (!z0) = true then some (false, false) else Option.bind (f_impl_areFaults k (Prod.fst p0, Prod.fst (Prod.snd p0), Prod.snd (Prod.snd p0)) p1) fun z1 => some (z1, true)
noncomputable def d_impl_AreFaults : FnDef := .of q_impl_AreFaults r_impl_AreFaults (Bool × Bool) (fun k x => f_impl_AreFaults k x.1 x.2.1) to_impl_AreFaults of_impl_AreFaults to_of_impl_AreFaults
noncomputable def c_impl_AreFaults : Code := Try.f20.body.getD .skip
noncomputable def x_impl_AreFaults : Ctx (Tup r_impl_AreFaults × OutD) := { T := T, G := [(67, d_impl_IsBoard.E), (68, d_impl_areFaults.E)], mvs := [], no := 0, n := 12, res := resOf T q_impl_AreFaults r_impl_AreFaults Try.f20.results.toList, loops := [] }
theorem g_impl_AreFaults (k : Nat) : EnvOK Try.prog k x_impl_AreFaults.G := (EnvOK.cons (s_impl_IsBoard k) (EnvOK.cons (s_impl_areFaults k) (EnvOK.nil mixed)))
theorem h_impl_AreFaults (k : Nat) (x : Tup d_impl_AreFaults.ps) : d_impl_AreFaults.f (k + 1) x = fnK d_impl_AreFaults x_impl_AreFaults c_impl_AreFaults k x := by kernel_rfl
theorem z_impl_AreFaults (x : Tup d_impl_AreFaults.ps) : d_impl_AreFaults.f 0 x = none := by kernel_rfl
theorem l_impl_AreFaults (k : Nat) : LOK Try.prog x_impl_AreFaults k c_impl_AreFaults := LOK.by [] (by kernel_rfl) AllOK.nil
theorem s_impl_AreFaults (k : Nat) : SoundAt Try.prog k 20 d_impl_AreFaults.E := @fn_all Try.prog d_impl_AreFaults x_impl_AreFaults 20 Try.f20 c_impl_AreFaults (by kernel_rfl) (by kernel_rfl) (by kernel_rfl) Try.func20 (by kernel_rfl) (by kernel_rfl) (by kernel_rfl) T_ok g_impl_AreFaults l_impl_AreFaults z_impl_AreFaults h_impl_AreFaults k
end
end Go.Proofs.Ytkefbmaagdaodaa.Vs
