/- Functions of the program by plain functions, each with its contract. -/
import Derived.Test.YtgpmbmnfcbippaaqnnuVsT
import Derived.Test.YtgpmbmnfcbippaaqnnuVg0
import Derived.Test.YtgpmbmnfcbippaaqnnuVg1
import Derived.Test.YtgpmbmnfcbippaaqnnuVg2
import Derived.Test.YtgpmbmnfcbippaaqnnuVg3
import Derived.Test.YtgpmbmnfcbippaaqnnuVg4
import Derived.Test.YtgpmbmnfcbippaaqnnuVg5
import Derived.Test.YtgpmbmnfcbippaaqnnuVg6
set_option maxRecDepth 100000
set_option linter.unusedVariables false
set_option linter.unusedSimpArgs false
namespace Go.Proofs.Ytgpmbmnfcbippaa.Vs
open Go.RowKit
noncomputable section
/-! function 3 -/
/-! function 4 -/
noncomputable def r_laws_FnExactSingleCauses : List PK := [{ t := Ty.bool }]
noncomputable def q_laws_FnExactSingleCauses : List PK := [{ t := Ty.pair (Ty.int IntKind.i64) (Ty.pair (Ty.int IntKind.i64) (Ty.slice (118 : Nat) (Ty.pair (Ty.int IntKind.i64) (Ty.int IntKind.i64)))), agg := true }, { t := Ty.slice (3 : Nat) (Ty.int IntKind.i64) }, { t := Ty.slice (93 : Nat) (Ty.pair (Ty.int IntKind.i64) (Ty.pair (Ty.int IntKind.i64) (Ty.int IntKind.i64))) }]
noncomputable def to_laws_FnExactSingleCauses (r : Bool) : Tup r_laws_FnExactSingleCauses × OutD := ((r, ()), none)
noncomputable def of_laws_FnExactSingleCauses : Tup r_laws_FnExactSingleCauses × OutD → Option (Bool)
  | (a, none) => some (a.1)
  | _ => none
theorem to_of_laws_FnExactSingleCauses : ∀ b r, of_laws_FnExactSingleCauses b = some r → to_laws_FnExactSingleCauses r = b := by
  rintro ⟨a, o⟩ r h
  cases o with
  | none => injection h with h; subst h; rfl
  | some _ => cases h
noncomputable def f_laws_FnExactSingleCauses : Nat → Int × Int × List (Int × Int) → List Int → List (Int × Int × Int) → Option Bool
  | 0, _, _, _ => none
  | k + 1, p0, p1, p2 =>
    if decide ((↑(List.length p1) : Int) > (1048576 : Int)) = true then some true else Option.bind (f_laws_szBoard k (Prod.fst p0, Prod.fst (Prod.snd p0), Prod.snd (Prod.snd p0)) (1048576 : Int)) fun z0 => if decide (z0 < (0 : Int)) = true then some true else Option.bind (f_laws_szFallS k p2 z0) fun z1 => if decide (z1 < (0 : Int)) = true then some true else Option.bind (f_laws_toBoard k (Prod.fst p0, Prod.fst (Prod.snd p0), Prod.snd (Prod.snd p0))) fun z2 => Option.bind (f_laws_toIntS k p1) fun z3 => Option.bind (f_laws_toFallS k p2) fun z4 => Option.bind (f_spec_SingleCauses k (Prod.fst z2, Prod.fst (Prod.snd z2), Prod.snd (Prod.snd z2)) z3 z4) fun z5 => Option.bind (f_laws_toBoard k (Prod.fst p0, Prod.fst (Prod.snd p0), Prod.snd (Prod.snd p0))) fun z6 => Option.bind (f_laws_toIntS k p1) fun z7 => Option.bind (f_laws_toFallS k p2) fun z8 => Option.bind (f_impl_SingleCauses k (Prod.fst z6, Prod.fst (Prod.snd z6), Prod.snd (Prod.snd z6)) z7 z8) fun z9 => Option.bind (f_laws_eqFaultS k (Prod.fst z9) (Prod.fst z5)) fun z10 => if (!z10) = true then some false else if (!Prod.snd z9 == Prod.snd z5) = true then some false else Option.bind (f_laws_toBoard k (Prod.fst p0, Prod.fst (Prod.snd p0), Prod.snd (Prod.snd p0))) fun z11 => Option.bind (f_laws_eqBoard k (Prod.fst z6, Prod.fst (Prod.snd z6), Prod.snd (Prod.snd z6)) (Prod.fst z11, Prod.fst (Prod.snd z11), Prod.snd (Prod.snd z11))) fun z12 => if (!z12) = true then some false else Option.bind (f_laws_toIntS k p1) fun z13 => Option.bind (f_laws_eqIntS k z7 z13) fun z14 => if (!z14) = true then some false else Option.bind (f_laws_toFallS k p2) fun z15 => Option.bind (f_laws_eqFallS k z8 z15) fun z16 => if (!z16) = true then some false else Option.bind (f_laws_markBoard k (Prod.fst z6, Prod.fst (Prod.snd z6), Prod.snd (Prod.snd z6)) (1 : Int)) fun z17 => Option.bind (f_laws_markIntS k z7 (Prod.fst z17)) fun z18 => Option.bind (f_laws_markFallS k z8 (Prod.fst z18)) fun z19 => if decide (Prod.fst z19 < (0 : Int)) = true then some false else Option.bind (f_laws_eqFaultS k (Prod.fst z9) (Prod.fst z5)) fun z20 => if (!z20) = true then some false else if (!Prod.snd z9 == Prod.snd z5) = true then some false else Option.bind (f_laws_markFaultS k (Prod.fst z9) (1 : Int)) fun z21 => Option.bind (f_laws_heldFaultS k (Prod.snd z21) (1 : Int)) fun z22 => if decide (z22 < (0 : Int)) = true then some false else if decide (z22 ≠ Prod.fst z21) = true then some false else Option.bind (f_laws_toBoard k (Prod.fst p0, Prod.fst (Prod.snd p0), Prod.snd (Prod.snd p0))) fun z23 => Option.bind (f_laws_toIntS k p1) fun z24 => Option.bind (f_laws_toFallS k p2) fun z25 => Option.bind (f_impl_SingleCauses k (Prod.fst z23, Prod.fst (Prod.snd z23), Prod.snd (Prod.snd z23)) z24 z25) fun z26 => Option.bind (f_laws_eqFaultS k (Prod.fst z26) (Prod.fst z5)) fun z27 => if (!z27) = true then some false else if (!Prod.snd z26 == Prod.snd z5) = true then some false else Option.bind (f_laws_heldFaultS k (Prod.snd z21) (1 : Int)) fun z28 => if decide (z28 < (0 : Int)) = true then some false else if decide (z28 ≠ Prod.fst z21) = true then some false else some true
noncomputable def d_laws_FnExactSingleCauses : FnDef := .of q_laws_FnExactSingleCauses r_laws_FnExactSingleCauses (Bool) (fun k x => f_laws_FnExactSingleCauses k x.1 x.2.1 x.2.2.1) to_laws_FnExactSingleCauses of_laws_FnExactSingleCauses to_of_laws_FnExactSingleCauses
noncomputable def c_laws_FnExactSingleCauses : Code := Try.f4.body.getD .skip
noncomputable def x_laws_FnExactSingleCauses : Ctx (Tup r_laws_FnExactSingleCauses × OutD) := { T := T, G := [(13, d_laws_szBoard.E), (25, d_laws_szFallS.E), (15, d_laws_toBoard.E), (16, d_laws_toIntS.E), (27, d_laws_toFallS.E), (26, d_spec_SingleCauses.E), (28, d_impl_SingleCauses.E), (18, d_laws_eqFaultS.E), (19, d_laws_eqBoard.E), (20, d_laws_eqIntS.E), (29, d_laws_eqFallS.E), (21, d_laws_markBoard.E), (22, d_laws_markIntS.E), (30, d_laws_markFallS.E), (23, d_laws_markFaultS.E), (24, d_laws_heldFaultS.E)], mvs := [], no := 0, n := 140, res := resOf T q_laws_FnExactSingleCauses r_laws_FnExactSingleCauses Try.f4.results.toList, loops := [], regs := [], conds := [] }
theorem g_laws_FnExactSingleCauses (k : Nat) : EnvOK Try.prog k x_laws_FnExactSingleCauses.G := (EnvOK.cons (s_laws_szBoard k) (EnvOK.cons (s_laws_szFallS k) (EnvOK.cons (s_laws_toBoard k) (EnvOK.cons (s_laws_toIntS k) (EnvOK.cons (s_laws_toFallS k) (EnvOK.cons (s_spec_SingleCauses k) (EnvOK.cons (s_impl_SingleCauses k) (EnvOK.cons (s_laws_eqFaultS k) (EnvOK.cons (s_laws_eqBoard k) (EnvOK.cons (s_laws_eqIntS k) (EnvOK.cons (s_laws_eqFallS k) (EnvOK.cons (s_laws_markBoard k) (EnvOK.cons (s_laws_markIntS k) (EnvOK.cons (s_laws_markFallS k) (EnvOK.cons (s_laws_markFaultS k) (EnvOK.cons (s_laws_heldFaultS k) (EnvOK.nil mixed)))))))))))))))))
theorem h_laws_FnExactSingleCauses (k : Nat) (x : Tup d_laws_FnExactSingleCauses.ps) : d_laws_FnExactSingleCauses.f (k + 1) x = fnK d_laws_FnExactSingleCauses x_laws_FnExactSingleCauses c_laws_FnExactSingleCauses k x := by kernel_rfl
theorem z_laws_FnExactSingleCauses (x : Tup d_laws_FnExactSingleCauses.ps) : d_laws_FnExactSingleCauses.f 0 x = none := by kernel_rfl
theorem l_laws_FnExactSingleCauses (k : Nat) : LOK Try.prog x_laws_FnExactSingleCauses k c_laws_FnExactSingleCauses := LOK.by [] (by kernel_rfl) AllOK.nil
theorem s_laws_FnExactSingleCauses (k : Nat) : SoundAt Try.prog k 4 d_laws_FnExactSingleCauses.E := @fn_all Try.prog d_laws_FnExactSingleCauses x_laws_FnExactSingleCauses 4 Try.f4 c_laws_FnExactSingleCauses (by kernel_rfl) (by kernel_rfl) (by kernel_rfl) Try.func4 (by kernel_rfl) (by kernel_rfl) (by kernel_rfl) T_ok g_laws_FnExactSingleCauses l_laws_FnExactSingleCauses z_laws_FnExactSingleCauses h_laws_FnExactSingleCauses k
/-! function 5 -/
/-! function 11 -/
/-! function 36 -/
/-! function 39 -/
/-! function 50 -/
/-! function 52 -/
/-! function 58 -/
end
end Go.Proofs.Ytgpmbmnfcbippaa.Vs
