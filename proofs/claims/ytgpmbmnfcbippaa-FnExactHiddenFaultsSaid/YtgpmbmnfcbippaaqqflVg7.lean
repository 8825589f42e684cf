/- Functions of the program by plain functions, each with its contract. -/
import Derived.Test.YtgpmbmnfcbippaaqqflVsT
import Derived.Test.YtgpmbmnfcbippaaqqflVg0
import Derived.Test.YtgpmbmnfcbippaaqqflVg1
import Derived.Test.YtgpmbmnfcbippaaqqflVg2
import Derived.Test.YtgpmbmnfcbippaaqqflVg3
import Derived.Test.YtgpmbmnfcbippaaqqflVg4
import Derived.Test.YtgpmbmnfcbippaaqqflVg5
import Derived.Test.YtgpmbmnfcbippaaqqflVg6
set_option maxRecDepth 100000
set_option linter.unusedVariables false
set_option linter.unusedSimpArgs false
namespace Go.Proofs.Ytgpmbmnfcbippaa.Vs
open Go.RowKit
noncomputable section
/-! function 3 -/
noncomputable def r_laws_FnExactHiddenFaults : List PK := [{ t := Ty.bool }]
noncomputable def q_laws_FnExactHiddenFaults : List PK := [{ t := Ty.pair (Ty.int IntKind.i64) (Ty.pair (Ty.int IntKind.i64) (Ty.slice (118 : Nat) (Ty.pair (Ty.int IntKind.i64) (Ty.int IntKind.i64)))), agg := true }, { t := Ty.slice (3 : Nat) (Ty.int IntKind.i64) }]
noncomputable def to_laws_FnExactHiddenFaults (r : Bool) : Tup r_laws_FnExactHiddenFaults × OutD := ((r, ()), none)
noncomputable def of_laws_FnExactHiddenFaults : Tup r_laws_FnExactHiddenFaults × OutD → Option (Bool)
  | (a, none) => some (a.1)
  | _ => none
theorem to_of_laws_FnExactHiddenFaults : ∀ b r, of_laws_FnExactHiddenFaults b = some r → to_laws_FnExactHiddenFaults r = b := by
  rintro ⟨a, o⟩ r h
  cases o with
  | none => injection h with h; subst h; rfl
  | some _ => cases h
noncomputable def f_laws_FnExactHiddenFaults : Nat → Int × Int × List (Int × Int) → List Int → Option Bool
  | 0, _, _ => none
  | k + 1, p0, p1 =>
    if decide ((↑(List.length p1) : Int) > (1048576 : Int)) = true then some true else Option.bind (f_laws_szBoard k (Prod.fst p0, Prod.fst (Prod.snd p0), Prod.snd (Prod.snd p0)) (1048576 : Int)) fun z0 => if decide (z0 < (0 : Int)) = true then some true else Option.bind (f_laws_toBoard k (Prod.fst p0, Prod.fst (Prod.snd p0), Prod.snd (Prod.snd p0))) fun z1 => Option.bind (f_laws_toIntS k p1) fun z2 => Option.bind (f_spec_HiddenFaults k (Prod.fst z1, Prod.fst (Prod.snd z1), Prod.snd (Prod.snd z1)) z2) fun z3 => Option.bind (f_laws_toBoard k (Prod.fst p0, Prod.fst (Prod.snd p0), Prod.snd (Prod.snd p0))) fun z4 => Option.bind (f_laws_toIntS k p1) fun z5 => Option.bind (f_impl_HiddenFaults k (Prod.fst z4, Prod.fst (Prod.snd z4), Prod.snd (Prod.snd z4)) z5) fun z6 => Option.bind (f_laws_eqFaultS k (Prod.fst z6) (Prod.fst z3)) fun z7 => if (!z7) = true then some false else if (!Prod.snd z6 == Prod.snd z3) = true then some false else Option.bind (f_laws_toBoard k (Prod.fst p0, Prod.fst (Prod.snd p0), Prod.snd (Prod.snd p0))) fun z8 => Option.bind (f_laws_eqBoard k (Prod.fst z4, Prod.fst (Prod.snd z4), Prod.snd (Prod.snd z4)) (Prod.fst z8, Prod.fst (Prod.snd z8), Prod.snd (Prod.snd z8))) fun z9 => if (!z9) = true then some false else Option.bind (f_laws_toIntS k p1) fun z10 => Option.bind (f_laws_eqIntS k z5 z10) fun z11 => if (!z11) = true then some false else Option.bind (f_laws_markBoard k (Prod.fst z4, Prod.fst (Prod.snd z4), Prod.snd (Prod.snd z4)) (1 : Int)) fun z12 => Option.bind (f_laws_markIntS k z5 (Prod.fst z12)) fun z13 => if decide (Prod.fst z13 < (0 : Int)) = true then some false else Option.bind (f_laws_eqFaultS k (Prod.fst z6) (Prod.fst z3)) fun z14 => if (!z14) = true then some false else if (!Prod.snd z6 == Prod.snd z3) = true then some false else Option.bind (f_laws_markFaultS k (Prod.fst z6) (1 : Int)) fun z15 => Option.bind (f_laws_heldFaultS k (Prod.snd z15) (1 : Int)) fun z16 => if decide (z16 < (0 : Int)) = true then some false else if decide (z16 ≠ Prod.fst z15) = true then some false else Option.bind (f_laws_toBoard k (Prod.fst p0, Prod.fst (Prod.snd p0), Prod.snd (Prod.snd p0))) fun z17 => Option.bind (f_laws_toIntS k p1) fun z18 => Option.bind (f_impl_HiddenFaults k (Prod.fst z17, Prod.fst (Prod.snd z17), Prod.snd (Prod.snd z17)) z18) fun z19 => Option.bind (f_laws_eqFaultS k (Prod.fst z19) (Prod.fst z3)) fun z20 => if (!z20) = true then some false else if (!Prod.snd z19 == Prod.snd z3) = true then some false else Option.bind (f_laws_heldFaultS k (Prod.snd z15) (1 : Int)) fun z21 => if decide (z21 < (0 : Int)) = true then some false else if decide (z21 ≠ Prod.fst z15) = true then some false else some true
noncomputable def d_laws_FnExactHiddenFaults : FnDef := .of q_laws_FnExactHiddenFaults r_laws_FnExactHiddenFaults (Bool) (fun k x => f_laws_FnExactHiddenFaults k x.1 x.2.1) to_laws_FnExactHiddenFaults of_laws_FnExactHiddenFaults to_of_laws_FnExactHiddenFaults
noncomputable def c_laws_FnExactHiddenFaults : Code := Try.f3.body.getD .skip
noncomputable def x_laws_FnExactHiddenFaults : Ctx (Tup r_laws_FnExactHiddenFaults × OutD) := { T := T, G := [(13, d_laws_szBoard.E), (15, d_laws_toBoard.E), (16, d_laws_toIntS.E), (14, d_spec_HiddenFaults.E), (17, d_impl_HiddenFaults.E), (18, d_laws_eqFaultS.E), (19, d_laws_eqBoard.E), (20, d_laws_eqIntS.E), (21, d_laws_markBoard.E), (22, d_laws_markIntS.E), (23, d_laws_markFaultS.E), (24, d_laws_heldFaultS.E)], mvs := [], no := 0, n := 117, res := resOf T q_laws_FnExactHiddenFaults r_laws_FnExactHiddenFaults Try.f3.results.toList, loops := [], regs := [], conds := [] }
theorem g_laws_FnExactHiddenFaults (k : Nat) : EnvOK Try.prog k x_laws_FnExactHiddenFaults.G := (EnvOK.cons (s_laws_szBoard k) (EnvOK.cons (s_laws_toBoard k) (EnvOK.cons (s_laws_toIntS k) (EnvOK.cons (s_spec_HiddenFaults k) (EnvOK.cons (s_impl_HiddenFaults k) (EnvOK.cons (s_laws_eqFaultS k) (EnvOK.cons (s_laws_eqBoard k) (EnvOK.cons (s_laws_eqIntS k) (EnvOK.cons (s_laws_markBoard k) (EnvOK.cons (s_laws_markIntS k) (EnvOK.cons (s_laws_markFaultS k) (EnvOK.cons (s_laws_heldFaultS k) (EnvOK.nil mixed)))))))))))))
theorem h_laws_FnExactHiddenFaults (k : Nat) (x : Tup d_laws_FnExactHiddenFaults.ps) : d_laws_FnExactHiddenFaults.f (k + 1) x = fnK d_laws_FnExactHiddenFaults x_laws_FnExactHiddenFaults c_laws_FnExactHiddenFaults k x := by kernel_rfl
theorem z_laws_FnExactHiddenFaults (x : Tup d_laws_FnExactHiddenFaults.ps) : d_laws_FnExactHiddenFaults.f 0 x = none := by kernel_rfl
theorem l_laws_FnExactHiddenFaults (k : Nat) : LOK Try.prog x_laws_FnExactHiddenFaults k c_laws_FnExactHiddenFaults := LOK.by [] (by kernel_rfl) AllOK.nil
theorem s_laws_FnExactHiddenFaults (k : Nat) : SoundAt Try.prog k 3 d_laws_FnExactHiddenFaults.E := @fn_all Try.prog d_laws_FnExactHiddenFaults x_laws_FnExactHiddenFaults 3 Try.f3 c_laws_FnExactHiddenFaults (by kernel_rfl) (by kernel_rfl) (by kernel_rfl) Try.func3 (by kernel_rfl) (by kernel_rfl) (by kernel_rfl) T_ok g_laws_FnExactHiddenFaults l_laws_FnExactHiddenFaults z_laws_FnExactHiddenFaults h_laws_FnExactHiddenFaults k
/-! function 4 -/
/-! function 5 -/
/-! function 11 -/
/-! function 36 -/
/-! function 39 -/
/-! function 50 -/
/-! function 52 -/
/-! function 58 -/
end
end Go.Proofs.Ytgpmbmnfcbippaa.Vs
