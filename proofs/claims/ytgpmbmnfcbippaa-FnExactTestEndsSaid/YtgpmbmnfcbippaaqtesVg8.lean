/- Functions of the program by plain functions, each with its contract. -/
import Derived.Test.YtgpmbmnfcbippaaqtesVsT
import Derived.Test.YtgpmbmnfcbippaaqtesVg0
import Derived.Test.YtgpmbmnfcbippaaqtesVg1
import Derived.Test.YtgpmbmnfcbippaaqtesVg2
import Derived.Test.YtgpmbmnfcbippaaqtesVg3
import Derived.Test.YtgpmbmnfcbippaaqtesVg4
import Derived.Test.YtgpmbmnfcbippaaqtesVg5
import Derived.Test.YtgpmbmnfcbippaaqtesVg6
import Derived.Test.YtgpmbmnfcbippaaqtesVg7
set_option maxRecDepth 100000
set_option linter.unusedVariables false
set_option linter.unusedSimpArgs false
namespace Go.Proofs.Ytgpmbmnfcbippaa.Vs
open Go.RowKit
noncomputable section
/-! function 6 -/
/-! function 7 -/
/-! function 9 -/
noncomputable def r_laws_FnExactDetectedFaults : List PK := [{ t := Ty.bool }]
noncomputable def q_laws_FnExactDetectedFaults : List PK := [{ t := Ty.pair (Ty.int IntKind.i64) (Ty.pair (Ty.int IntKind.i64) (Ty.slice (118 : Nat) (Ty.pair (Ty.int IntKind.i64) (Ty.int IntKind.i64)))), agg := true }, { t := Ty.slice (25 : Nat) (Ty.slice (3 : Nat) (Ty.int IntKind.i64)) }]
noncomputable def to_laws_FnExactDetectedFaults (r : Bool) : Tup r_laws_FnExactDetectedFaults × OutD := ((r, ()), none)
noncomputable def of_laws_FnExactDetectedFaults : Tup r_laws_FnExactDetectedFaults × OutD → Option (Bool)
  | (a, none) => some (a.1)
  | _ => none
theorem to_of_laws_FnExactDetectedFaults : ∀ b r, of_laws_FnExactDetectedFaults b = some r → to_laws_FnExactDetectedFaults r = b := by
  rintro ⟨a, o⟩ r h
  cases o with
  | none => injection h with h; subst h; rfl
  | some _ => cases h
noncomputable def f_laws_FnExactDetectedFaults : Nat → Int × Int × List (Int × Int) → List (List Int) → Option Bool
  | 0, _, _ => none
  | k + 1, p0, p1 =>
    Option.bind (f_laws_szBoard k (Prod.fst p0, Prod.fst (Prod.snd p0), Prod.snd (Prod.snd p0)) (1048576 : Int)) fun z0 => if decide (z0 < (0 : Int)) = true then some true else Option.bind (f_laws_szIntSS k p1 z0) fun z1 => if decide (z1 < (0 : Int)) = true then some true else Option.bind (f_laws_toBoard k (Prod.fst p0, Prod.fst (Prod.snd p0), Prod.snd (Prod.snd p0))) fun z2 => Option.bind (f_laws_toIntSS k p1) fun z3 => Option.bind (f_spec_DetectedFaults k (Prod.fst z2, Prod.fst (Prod.snd z2), Prod.snd (Prod.snd z2)) z3) fun z4 => Option.bind (f_laws_toBoard k (Prod.fst p0, Prod.fst (Prod.snd p0), Prod.snd (Prod.snd p0))) fun z5 => Option.bind (f_laws_toIntSS k p1) fun z6 => Option.bind (f_impl_DetectedFaults k (Prod.fst z5, Prod.fst (Prod.snd z5), Prod.snd (Prod.snd z5)) z6) fun z7 => Option.bind (f_laws_eqIntS k (Prod.fst z7) (Prod.fst z4)) fun z8 => if (!z8) = true then some false else if (!Prod.snd z7 == Prod.snd z4) = true then some false else Option.bind (f_laws_toBoard k (Prod.fst p0, Prod.fst (Prod.snd p0), Prod.snd (Prod.snd p0))) fun z9 => Option.bind (f_laws_eqBoard k (Prod.fst z5, Prod.fst (Prod.snd z5), Prod.snd (Prod.snd z5)) (Prod.fst z9, Prod.fst (Prod.snd z9), Prod.snd (Prod.snd z9))) fun z10 => if (!z10) = true then some false else Option.bind (f_laws_toIntSS k p1) fun z11 => Option.bind (f_laws_eqIntSS k z6 z11) fun z12 => if (!z12) = true then some false else Option.bind (f_laws_markBoard k (Prod.fst z5, Prod.fst (Prod.snd z5), Prod.snd (Prod.snd z5)) (1 : Int)) fun z13 => Option.bind (f_laws_markIntSS k z6 (Prod.fst z13)) fun z14 => if decide (Prod.fst z14 < (0 : Int)) = true then some false else Option.bind (f_laws_eqIntS k (Prod.fst z7) (Prod.fst z4)) fun z15 => if (!z15) = true then some false else if (!Prod.snd z7 == Prod.snd z4) = true then some false else Option.bind (f_laws_markIntS k (Prod.fst z7) (1 : Int)) fun z16 => Option.bind (f_laws_heldIntS k (Prod.snd z16) (1 : Int)) fun z17 => if decide (z17 < (0 : Int)) = true then some false else if decide (z17 ≠ Prod.fst z16) = true then some false else Option.bind (f_laws_toBoard k (Prod.fst p0, Prod.fst (Prod.snd p0), Prod.snd (Prod.snd p0))) fun z18 => Option.bind (f_laws_toIntSS k p1) fun z19 => Option.bind (f_impl_DetectedFaults k (Prod.fst z18, Prod.fst (Prod.snd z18), Prod.snd (Prod.snd z18)) z19) fun z20 => Option.bind (f_laws_eqIntS k (Prod.fst z20) (Prod.fst z4)) fun z21 => if (!z21) = true then some false else if (!Prod.snd z20 == Prod.snd z4) = true then some false else Option.bind (f_laws_heldIntS k (Prod.snd z16) (1 : Int)) fun z22 => if decide (z22 < (0 : Int)) = true then some false else if decide (z22 ≠ Prod.fst z16) = true then some false else some true
noncomputable def d_laws_FnExactDetectedFaults : FnDef := .of q_laws_FnExactDetectedFaults r_laws_FnExactDetectedFaults (Bool) (fun k x => f_laws_FnExactDetectedFaults k x.1 x.2.1) to_laws_FnExactDetectedFaults of_laws_FnExactDetectedFaults to_of_laws_FnExactDetectedFaults
noncomputable def c_laws_FnExactDetectedFaults : Code := Try.f9.body.getD .skip
noncomputable def x_laws_FnExactDetectedFaults : Ctx (Tup r_laws_FnExactDetectedFaults × OutD) := { T := T, G := [(13, d_laws_szBoard.E), (42, d_laws_szIntSS.E), (15, d_laws_toBoard.E), (45, d_laws_toIntSS.E), (50, d_spec_DetectedFaults.E), (51, d_impl_DetectedFaults.E), (20, d_laws_eqIntS.E), (19, d_laws_eqBoard.E), (33, d_laws_eqIntSS.E), (21, d_laws_markBoard.E), (34, d_laws_markIntSS.E), (22, d_laws_markIntS.E), (38, d_laws_heldIntS.E)], mvs := [], no := 0, n := 119, res := resOf T q_laws_FnExactDetectedFaults r_laws_FnExactDetectedFaults Try.f9.results.toList, loops := [], regs := [], conds := [] }
theorem g_laws_FnExactDetectedFaults (k : Nat) : EnvOK Try.prog k x_laws_FnExactDetectedFaults.G := (EnvOK.cons (s_laws_szBoard k) (EnvOK.cons (s_laws_szIntSS k) (EnvOK.cons (s_laws_toBoard k) (EnvOK.cons (s_laws_toIntSS k) (EnvOK.cons (s_spec_DetectedFaults k) (EnvOK.cons (s_impl_DetectedFaults k) (EnvOK.cons (s_laws_eqIntS k) (EnvOK.cons (s_laws_eqBoard k) (EnvOK.cons (s_laws_eqIntSS k) (EnvOK.cons (s_laws_markBoard k) (EnvOK.cons (s_laws_markIntSS k) (EnvOK.cons (s_laws_markIntS k) (EnvOK.cons (s_laws_heldIntS k) (EnvOK.nil mixed))))))))))))))
theorem h_laws_FnExactDetectedFaults (k : Nat) (x : Tup d_laws_FnExactDetectedFaults.ps) : d_laws_FnExactDetectedFaults.f (k + 1) x = fnK d_laws_FnExactDetectedFaults x_laws_FnExactDetectedFaults c_laws_FnExactDetectedFaults k x := by kernel_rfl
theorem z_laws_FnExactDetectedFaults (x : Tup d_laws_FnExactDetectedFaults.ps) : d_laws_FnExactDetectedFaults.f 0 x = none := by kernel_rfl
theorem l_laws_FnExactDetectedFaults (k : Nat) : LOK Try.prog x_laws_FnExactDetectedFaults k c_laws_FnExactDetectedFaults := LOK.by [] (by kernel_rfl) AllOK.nil
theorem s_laws_FnExactDetectedFaults (k : Nat) : SoundAt Try.prog k 9 d_laws_FnExactDetectedFaults.E := @fn_all Try.prog d_laws_FnExactDetectedFaults x_laws_FnExactDetectedFaults 9 Try.f9 c_laws_FnExactDetectedFaults (by kernel_rfl) (by kernel_rfl) (by kernel_rfl) Try.func9 (by kernel_rfl) (by kernel_rfl) (by kernel_rfl) T_ok g_laws_FnExactDetectedFaults l_laws_FnExactDetectedFaults z_laws_FnExactDetectedFaults h_laws_FnExactDetectedFaults k
/-! function 10 -/
noncomputable def r_laws_FnExactFaultClasses : List PK := [{ t := Ty.bool }]
noncomputable def q_laws_FnExactFaultClasses : List PK := [{ t := Ty.pair (Ty.int IntKind.i64) (Ty.pair (Ty.int IntKind.i64) (Ty.slice (118 : Nat) (Ty.pair (Ty.int IntKind.i64) (Ty.int IntKind.i64)))), agg := true }, { t := Ty.slice (25 : Nat) (Ty.slice (3 : Nat) (Ty.int IntKind.i64)) }]
noncomputable def to_laws_FnExactFaultClasses (r : Bool) : Tup r_laws_FnExactFaultClasses × OutD := ((r, ()), none)
noncomputable def of_laws_FnExactFaultClasses : Tup r_laws_FnExactFaultClasses × OutD → Option (Bool)
  | (a, none) => some (a.1)
  | _ => none
theorem to_of_laws_FnExactFaultClasses : ∀ b r, of_laws_FnExactFaultClasses b = some r → to_laws_FnExactFaultClasses r = b := by
  rintro ⟨a, o⟩ r h
  cases o with
  | none => injection h with h; subst h; rfl
  | some _ => cases h
noncomputable def f_laws_FnExactFaultClasses : Nat → Int × Int × List (Int × Int) → List (List Int) → Option Bool
  | 0, _, _ => none
  | k + 1, p0, p1 =>
    Option.bind (f_laws_szBoard k (Prod.fst p0, Prod.fst (Prod.snd p0), Prod.snd (Prod.snd p0)) (1048576 : Int)) fun z0 => if decide (z0 < (0 : Int)) = true then some true else Option.bind (f_laws_szIntSS k p1 z0) fun z1 => if decide (z1 < (0 : Int)) = true then some true else Option.bind (f_laws_toBoard k (Prod.fst p0, Prod.fst (Prod.snd p0), Prod.snd (Prod.snd p0))) fun z2 => Option.bind (f_laws_toIntSS k p1) fun z3 => Option.bind (f_spec_FaultClasses k (Prod.fst z2, Prod.fst (Prod.snd z2), Prod.snd (Prod.snd z2)) z3) fun z4 => Option.bind (f_laws_toBoard k (Prod.fst p0, Prod.fst (Prod.snd p0), Prod.snd (Prod.snd p0))) fun z5 => Option.bind (f_laws_toIntSS k p1) fun z6 => Option.bind (f_impl_FaultClasses k (Prod.fst z5, Prod.fst (Prod.snd z5), Prod.snd (Prod.snd z5)) z6) fun z7 => Option.bind (f_laws_eqIntSS k (Prod.fst z7) (Prod.fst z4)) fun z8 => if (!z8) = true then some false else if (!Prod.snd z7 == Prod.snd z4) = true then some false else Option.bind (f_laws_toBoard k (Prod.fst p0, Prod.fst (Prod.snd p0), Prod.snd (Prod.snd p0))) fun z9 => Option.bind (f_laws_eqBoard k (Prod.fst z5, Prod.fst (Prod.snd z5), Prod.snd (Prod.snd z5)) (Prod.fst z9, Prod.fst (Prod.snd z9), Prod.snd (Prod.snd z9))) fun z10 => if (!z10) = true then some false else Option.bind (f_laws_toIntSS k p1) fun z11 => Option.bind (f_laws_eqIntSS k z6 z11) fun z12 => if (!z12) = true then some false else Option.bind (f_laws_markBoard k (Prod.fst z5, Prod.fst (Prod.snd z5), Prod.snd (Prod.snd z5)) (1 : Int)) fun z13 => Option.bind (f_laws_markIntSS k z6 (Prod.fst z13)) fun z14 => if decide (Prod.fst z14 < (0 : Int)) = true then some false else Option.bind (f_laws_eqIntSS k (Prod.fst z7) (Prod.fst z4)) fun z15 => if (!z15) = true then some false else if (!Prod.snd z7 == Prod.snd z4) = true then some false else Option.bind (f_laws_markIntSS k (Prod.fst z7) (1 : Int)) fun z16 => Option.bind (f_laws_heldIntSS k (Prod.snd z16) (1 : Int)) fun z17 => if decide (z17 < (0 : Int)) = true then some false else if decide (z17 ≠ Prod.fst z16) = true then some false else Option.bind (f_laws_toBoard k (Prod.fst p0, Prod.fst (Prod.snd p0), Prod.snd (Prod.snd p0))) fun z18 => Option.bind (f_laws_toIntSS k p1) fun z19 => Option.bind (f_impl_FaultClasses k (Prod.fst z18, Prod.fst (Prod.snd z18), Prod.snd (Prod.snd z18)) z19) fun z20 => Option.bind (f_laws_eqIntSS k (Prod.fst z20) (Prod.fst z4)) fun z21 => if (!z21) = true then some false else if (!Prod.snd z20 == Prod.snd z4) = true then some false else Option.bind (f_laws_heldIntSS k (Prod.snd z16) (1 : Int)) fun z22 => if decide (z22 < (0 : Int)) = true then some false else if decide (z22 ≠ Prod.fst z16) = true then some false else some true
noncomputable def d_laws_FnExactFaultClasses : FnDef := .of q_laws_FnExactFaultClasses r_laws_FnExactFaultClasses (Bool) (fun k x => f_laws_FnExactFaultClasses k x.1 x.2.1) to_laws_FnExactFaultClasses of_laws_FnExactFaultClasses to_of_laws_FnExactFaultClasses
noncomputable def c_laws_FnExactFaultClasses : Code := Try.f10.body.getD .skip
noncomputable def x_laws_FnExactFaultClasses : Ctx (Tup r_laws_FnExactFaultClasses × OutD) := { T := T, G := [(13, d_laws_szBoard.E), (42, d_laws_szIntSS.E), (15, d_laws_toBoard.E), (45, d_laws_toIntSS.E), (52, d_spec_FaultClasses.E), (53, d_impl_FaultClasses.E), (33, d_laws_eqIntSS.E), (19, d_laws_eqBoard.E), (21, d_laws_markBoard.E), (34, d_laws_markIntSS.E), (35, d_laws_heldIntSS.E)], mvs := [], no := 0, n := 119, res := resOf T q_laws_FnExactFaultClasses r_laws_FnExactFaultClasses Try.f10.results.toList, loops := [], regs := [], conds := [] }
theorem g_laws_FnExactFaultClasses (k : Nat) : EnvOK Try.prog k x_laws_FnExactFaultClasses.G := (EnvOK.cons (s_laws_szBoard k) (EnvOK.cons (s_laws_szIntSS k) (EnvOK.cons (s_laws_toBoard k) (EnvOK.cons (s_laws_toIntSS k) (EnvOK.cons (s_spec_FaultClasses k) (EnvOK.cons (s_impl_FaultClasses k) (EnvOK.cons (s_laws_eqIntSS k) (EnvOK.cons (s_laws_eqBoard k) (EnvOK.cons (s_laws_markBoard k) (EnvOK.cons (s_laws_markIntSS k) (EnvOK.cons (s_laws_heldIntSS k) (EnvOK.nil mixed))))))))))))
theorem h_laws_FnExactFaultClasses (k : Nat) (x : Tup d_laws_FnExactFaultClasses.ps) : d_laws_FnExactFaultClasses.f (k + 1) x = fnK d_laws_FnExactFaultClasses x_laws_FnExactFaultClasses c_laws_FnExactFaultClasses k x := by kernel_rfl
theorem z_laws_FnExactFaultClasses (x : Tup d_laws_FnExactFaultClasses.ps) : d_laws_FnExactFaultClasses.f 0 x = none := by kernel_rfl
theorem l_laws_FnExactFaultClasses (k : Nat) : LOK Try.prog x_laws_FnExactFaultClasses k c_laws_FnExactFaultClasses := LOK.by [] (by kernel_rfl) AllOK.nil
theorem s_laws_FnExactFaultClasses (k : Nat) : SoundAt Try.prog k 10 d_laws_FnExactFaultClasses.E := @fn_all Try.prog d_laws_FnExactFaultClasses x_laws_FnExactFaultClasses 10 Try.f10 c_laws_FnExactFaultClasses (by kernel_rfl) (by kernel_rfl) (by kernel_rfl) Try.func10 (by kernel_rfl) (by kernel_rfl) (by kernel_rfl) T_ok g_laws_FnExactFaultClasses l_laws_FnExactFaultClasses z_laws_FnExactFaultClasses h_laws_FnExactFaultClasses k
end
end Go.Proofs.Ytgpmbmnfcbippaa.Vs
