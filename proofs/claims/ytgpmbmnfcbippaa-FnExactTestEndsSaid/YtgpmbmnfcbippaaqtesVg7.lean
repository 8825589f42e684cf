/- Functions of the program by plain functions, each with its contract. -/
import Derived.Test.YtgpmbmnfcbippaaqtesVsT
import Derived.Test.YtgpmbmnfcbippaaqtesVg0
import Derived.Test.YtgpmbmnfcbippaaqtesVg1
import Derived.Test.YtgpmbmnfcbippaaqtesVg2
import Derived.Test.YtgpmbmnfcbippaaqtesVg3
import Derived.Test.YtgpmbmnfcbippaaqtesVg4
import Derived.Test.YtgpmbmnfcbippaaqtesVg5
import Derived.Test.YtgpmbmnfcbippaaqtesVg6
set_option maxRecDepth 100000
set_option linter.unusedVariables false
set_option linter.unusedSimpArgs false
namespace Go.Proofs.Ytgpmbmnfcbippaa.Vs
open Go.RowKit
noncomputable section
/-! function 3 -/
/-! function 4 -/
/-! function 5 -/
/-! function 11 -/
noncomputable def r_laws_FnExactFaultsLike : List PK := [{ t := Ty.bool }]
noncomputable def q_laws_FnExactFaultsLike : List PK := [{ t := Ty.pair (Ty.int IntKind.i64) (Ty.pair (Ty.int IntKind.i64) (Ty.slice (118 : Nat) (Ty.pair (Ty.int IntKind.i64) (Ty.int IntKind.i64)))), agg := true }, { t := Ty.slice (25 : Nat) (Ty.slice (3 : Nat) (Ty.int IntKind.i64)) }, { t := Ty.slice (42 : Nat) (Ty.slice (93 : Nat) (Ty.pair (Ty.int IntKind.i64) (Ty.pair (Ty.int IntKind.i64) (Ty.int IntKind.i64)))) }]
noncomputable def to_laws_FnExactFaultsLike (r : Bool) : Tup r_laws_FnExactFaultsLike × OutD := ((r, ()), none)
noncomputable def of_laws_FnExactFaultsLike : Tup r_laws_FnExactFaultsLike × OutD → Option (Bool)
  | (a, none) => some (a.1)
  | _ => none
theorem to_of_laws_FnExactFaultsLike : ∀ b r, of_laws_FnExactFaultsLike b = some r → to_laws_FnExactFaultsLike r = b := by
  rintro ⟨a, o⟩ r h
  cases o with
  | none => injection h with h; subst h; rfl
  | some _ => cases h
noncomputable def f_laws_FnExactFaultsLike : Nat → Int × Int × List (Int × Int) → List (List Int) → List (List (Int × Int × Int)) → Option Bool
  | 0, _, _, _ => none
  | k + 1, p0, p1, p2 =>
    Option.bind (f_laws_szBoard k (Prod.fst p0, Prod.fst (Prod.snd p0), Prod.snd (Prod.snd p0)) (1048576 : Int)) fun z0 => if decide (z0 < (0 : Int)) = true then some true else Option.bind (f_laws_szIntSS k p1 z0) fun z1 => if decide (z1 < (0 : Int)) = true then some true else Option.bind (f_laws_szFallSS k p2 z1) fun z2 => if decide (z2 < (0 : Int)) = true then some true else Option.bind (f_laws_toBoard k (Prod.fst p0, Prod.fst (Prod.snd p0), Prod.snd (Prod.snd p0))) fun z3 => Option.bind (f_laws_toIntSS k p1) fun z4 => Option.bind (f_laws_toFallSS k p2) fun z5 => Option.bind (f_spec_FaultsLike k (Prod.fst z3, Prod.fst (Prod.snd z3), Prod.snd (Prod.snd z3)) z4 z5) fun z6 => Option.bind (f_laws_toBoard k (Prod.fst p0, Prod.fst (Prod.snd p0), Prod.snd (Prod.snd p0))) fun z7 => Option.bind (f_laws_toIntSS k p1) fun z8 => Option.bind (f_laws_toFallSS k p2) fun z9 => Option.bind (f_impl_FaultsLike k (Prod.fst z7, Prod.fst (Prod.snd z7), Prod.snd (Prod.snd z7)) z8 z9) fun z10 => Option.bind (f_laws_eqIntS k (Prod.fst z10) (Prod.fst z6)) fun z11 => if (!z11) = true then some false else if (!Prod.snd z10 == Prod.snd z6) = true then some false else Option.bind (f_laws_toBoard k (Prod.fst p0, Prod.fst (Prod.snd p0), Prod.snd (Prod.snd p0))) fun z12 => Option.bind (f_laws_eqBoard k (Prod.fst z7, Prod.fst (Prod.snd z7), Prod.snd (Prod.snd z7)) (Prod.fst z12, Prod.fst (Prod.snd z12), Prod.snd (Prod.snd z12))) fun z13 => if (!z13) = true then some false else Option.bind (f_laws_toIntSS k p1) fun z14 => Option.bind (f_laws_eqIntSS k z8 z14) fun z15 => if (!z15) = true then some false else Option.bind (f_laws_toFallSS k p2) fun z16 => Option.bind (f_laws_eqFallSS k z9 z16) fun z17 => if (!z17) = true then some false else Option.bind (f_laws_markBoard k (Prod.fst z7, Prod.fst (Prod.snd z7), Prod.snd (Prod.snd z7)) (1 : Int)) fun z18 => Option.bind (f_laws_markIntSS k z8 (Prod.fst z18)) fun z19 => Option.bind (f_laws_markFallSS k z9 (Prod.fst z19)) fun z20 => if decide (Prod.fst z20 < (0 : Int)) = true then some false else Option.bind (f_laws_eqIntS k (Prod.fst z10) (Prod.fst z6)) fun z21 => if (!z21) = true then some false else if (!Prod.snd z10 == Prod.snd z6) = true then some false else Option.bind (f_laws_markIntS k (Prod.fst z10) (1 : Int)) fun z22 => Option.bind (f_laws_heldIntS k (Prod.snd z22) (1 : Int)) fun z23 => if decide (z23 < (0 : Int)) = true then some false else if decide (z23 ≠ Prod.fst z22) = true then some false else Option.bind (f_laws_toBoard k (Prod.fst p0, Prod.fst (Prod.snd p0), Prod.snd (Prod.snd p0))) fun z24 => Option.bind (f_laws_toIntSS k p1) fun z25 => Option.bind (f_laws_toFallSS k p2) fun z26 => Option.bind (f_impl_FaultsLike k (Prod.fst z24, Prod.fst (Prod.snd z24), Prod.snd (Prod.snd z24)) z25 z26) fun z27 => Option.bind (f_laws_eqIntS k (Prod.fst z27) (Prod.fst z6)) fun z28 => if (!z28) = true then some false else if (!Prod.snd z27 == Prod.snd z6) = true then some false else Option.bind (f_laws_heldIntS k (Prod.snd z22) (1 : Int)) fun z29 => if decide (z29 < (0 : Int)) = true then some false else if decide (z29 ≠ Prod.fst z22) = true then some false else some true
noncomputable def d_laws_FnExactFaultsLike : FnDef := .of q_laws_FnExactFaultsLike r_laws_FnExactFaultsLike (Bool) (fun k x => f_laws_FnExactFaultsLike k x.1 x.2.1 x.2.2.1) to_laws_FnExactFaultsLike of_laws_FnExactFaultsLike to_of_laws_FnExactFaultsLike
noncomputable def c_laws_FnExactFaultsLike : Code := Try.f11.body.getD .skip
noncomputable def x_laws_FnExactFaultsLike : Ctx (Tup r_laws_FnExactFaultsLike × OutD) := { T := T, G := [(13, d_laws_szBoard.E), (42, d_laws_szIntSS.E), (54, d_laws_szFallSS.E), (15, d_laws_toBoard.E), (45, d_laws_toIntSS.E), (56, d_laws_toFallSS.E), (55, d_spec_FaultsLike.E), (57, d_impl_FaultsLike.E), (20, d_laws_eqIntS.E), (19, d_laws_eqBoard.E), (33, d_laws_eqIntSS.E), (47, d_laws_eqFallSS.E), (21, d_laws_markBoard.E), (34, d_laws_markIntSS.E), (48, d_laws_markFallSS.E), (22, d_laws_markIntS.E), (38, d_laws_heldIntS.E)], mvs := [], no := 0, n := 142, res := resOf T q_laws_FnExactFaultsLike r_laws_FnExactFaultsLike Try.f11.results.toList, loops := [], regs := [], conds := [] }
theorem g_laws_FnExactFaultsLike (k : Nat) : EnvOK Try.prog k x_laws_FnExactFaultsLike.G := (EnvOK.cons (s_laws_szBoard k) (EnvOK.cons (s_laws_szIntSS k) (EnvOK.cons (s_laws_szFallSS k) (EnvOK.cons (s_laws_toBoard k) (EnvOK.cons (s_laws_toIntSS k) (EnvOK.cons (s_laws_toFallSS k) (EnvOK.cons (s_spec_FaultsLike k) (EnvOK.cons (s_impl_FaultsLike k) (EnvOK.cons (s_laws_eqIntS k) (EnvOK.cons (s_laws_eqBoard k) (EnvOK.cons (s_laws_eqIntSS k) (EnvOK.cons (s_laws_eqFallSS k) (EnvOK.cons (s_laws_markBoard k) (EnvOK.cons (s_laws_markIntSS k) (EnvOK.cons (s_laws_markFallSS k) (EnvOK.cons (s_laws_markIntS k) (EnvOK.cons (s_laws_heldIntS k) (EnvOK.nil mixed))))))))))))))))))
theorem h_laws_FnExactFaultsLike (k : Nat) (x : Tup d_laws_FnExactFaultsLike.ps) : d_laws_FnExactFaultsLike.f (k + 1) x = fnK d_laws_FnExactFaultsLike x_laws_FnExactFaultsLike c_laws_FnExactFaultsLike k x := by kernel_rfl
theorem z_laws_FnExactFaultsLike (x : Tup d_laws_FnExactFaultsLike.ps) : d_laws_FnExactFaultsLike.f 0 x = none := by kernel_rfl
theorem l_laws_FnExactFaultsLike (k : Nat) : LOK Try.prog x_laws_FnExactFaultsLike k c_laws_FnExactFaultsLike := LOK.by [] (by kernel_rfl) AllOK.nil
theorem s_laws_FnExactFaultsLike (k : Nat) : SoundAt Try.prog k 11 d_laws_FnExactFaultsLike.E := @fn_all Try.prog d_laws_FnExactFaultsLike x_laws_FnExactFaultsLike 11 Try.f11 c_laws_FnExactFaultsLike (by kernel_rfl) (by kernel_rfl) (by kernel_rfl) Try.func11 (by kernel_rfl) (by kernel_rfl) (by kernel_rfl) T_ok g_laws_FnExactFaultsLike l_laws_FnExactFaultsLike z_laws_FnExactFaultsLike h_laws_FnExactFaultsLike k
/-! function 36 -/
/-! function 39 -/
/-! function 50 -/
noncomputable def r_spec_DetectedFaults : List PK := [{ t := Ty.slice (3 : Nat) (Ty.int IntKind.i64) }, { t := Ty.bool }]
noncomputable def q_spec_DetectedFaults : List PK := [{ t := Ty.pair (Ty.int IntKind.i64) (Ty.pair (Ty.int IntKind.i64) (Ty.slice (116 : Nat) (Ty.pair (Ty.int IntKind.i64) (Ty.int IntKind.i64)))), agg := true }, { t := Ty.slice (25 : Nat) (Ty.slice (3 : Nat) (Ty.int IntKind.i64)) }]
noncomputable def to_spec_DetectedFaults (r : List Int × Bool) : Tup r_spec_DetectedFaults × OutD := ((r.1, r.2, ()), none)
noncomputable def of_spec_DetectedFaults : Tup r_spec_DetectedFaults × OutD → Option (List Int × Bool)
  | (a, none) => some (a.1, a.2.1)
  | _ => none
theorem to_of_spec_DetectedFaults : ∀ b r, of_spec_DetectedFaults b = some r → to_spec_DetectedFaults r = b := by
  rintro ⟨a, o⟩ r h
  cases o with
  | none => injection h with h; subst h; rfl
  | some _ => cases h
noncomputable def f_spec_DetectedFaults : Nat → Int × Int × List (Int × Int) → List (List Int) → Option (List Int × Bool)
  | 0, _, _ => none
  | k + 1, p0, p1 =>
    Option.bind (f_spec_tsAsked k (Prod.fst p0, Prod.fst (Prod.snd p0), Prod.snd (Prod.snd p0)) p1) fun z0 => if (!z0) = true then some ([], false) else Option.bind (f_spec_tsMarks k (Prod.fst p0, Prod.fst (Prod.snd p0), Prod.snd (Prod.snd p0)) p1) fun z1 => Option.bind (f_spec_tsAll k p1) fun z2 => Option.bind (f_spec_tsDetected k z1 z2) fun z3 => some (z3, true)
noncomputable def d_spec_DetectedFaults : FnDef := .of q_spec_DetectedFaults r_spec_DetectedFaults (List Int × Bool) (fun k x => f_spec_DetectedFaults k x.1 x.2.1) to_spec_DetectedFaults of_spec_DetectedFaults to_of_spec_DetectedFaults
noncomputable def c_spec_DetectedFaults : Code := Try.f50.body.getD .skip
noncomputable def x_spec_DetectedFaults : Ctx (Tup r_spec_DetectedFaults × OutD) := { T := T, G := [(82, d_spec_tsAsked.E), (91, d_spec_tsMarks.E), (92, d_spec_tsAll.E), (90, d_spec_tsDetected.E)], mvs := [], no := 0, n := 16, res := resOf T q_spec_DetectedFaults r_spec_DetectedFaults Try.f50.results.toList, loops := [], regs := [], conds := [] }
theorem g_spec_DetectedFaults (k : Nat) : EnvOK Try.prog k x_spec_DetectedFaults.G := (EnvOK.cons (s_spec_tsAsked k) (EnvOK.cons (s_spec_tsMarks k) (EnvOK.cons (s_spec_tsAll k) (EnvOK.cons (s_spec_tsDetected k) (EnvOK.nil mixed)))))
theorem h_spec_DetectedFaults (k : Nat) (x : Tup d_spec_DetectedFaults.ps) : d_spec_DetectedFaults.f (k + 1) x = fnK d_spec_DetectedFaults x_spec_DetectedFaults c_spec_DetectedFaults k x := by kernel_rfl
theorem z_spec_DetectedFaults (x : Tup d_spec_DetectedFaults.ps) : d_spec_DetectedFaults.f 0 x = none := by kernel_rfl
theorem l_spec_DetectedFaults (k : Nat) : LOK Try.prog x_spec_DetectedFaults k c_spec_DetectedFaults := LOK.by [] (by kernel_rfl) AllOK.nil
theorem s_spec_DetectedFaults (k : Nat) : SoundAt Try.prog k 50 d_spec_DetectedFaults.E := @fn_all Try.prog d_spec_DetectedFaults x_spec_DetectedFaults 50 Try.f50 c_spec_DetectedFaults (by kernel_rfl) (by kernel_rfl) (by kernel_rfl) Try.func50 (by kernel_rfl) (by kernel_rfl) (by kernel_rfl) T_ok g_spec_DetectedFaults l_spec_DetectedFaults z_spec_DetectedFaults h_spec_DetectedFaults k
/-! function 52 -/
noncomputable def r_spec_FaultClasses : List PK := [{ t := Ty.slice (25 : Nat) (Ty.slice (3 : Nat) (Ty.int IntKind.i64)) }, { t := Ty.bool }]
noncomputable def q_spec_FaultClasses : List PK := [{ t := Ty.pair (Ty.int IntKind.i64) (Ty.pair (Ty.int IntKind.i64) (Ty.slice (116 : Nat) (Ty.pair (Ty.int IntKind.i64) (Ty.int IntKind.i64)))), agg := true }, { t := Ty.slice (25 : Nat) (Ty.slice (3 : Nat) (Ty.int IntKind.i64)) }]
noncomputable def to_spec_FaultClasses (r : List (List Int) × Bool) : Tup r_spec_FaultClasses × OutD := ((r.1, r.2, ()), none)
noncomputable def of_spec_FaultClasses : Tup r_spec_FaultClasses × OutD → Option (List (List Int) × Bool)
  | (a, none) => some (a.1, a.2.1)
  | _ => none
theorem to_of_spec_FaultClasses : ∀ b r, of_spec_FaultClasses b = some r → to_spec_FaultClasses r = b := by
  rintro ⟨a, o⟩ r h
  cases o with
  | none => injection h with h; subst h; rfl
  | some _ => cases h
noncomputable def f_spec_FaultClasses : Nat → Int × Int × List (Int × Int) → List (List Int) → Option (List (List Int) × Bool)
  | 0, _, _ => none
  | k + 1, p0, p1 =>
    Option.bind (f_spec_tsAsked k (Prod.fst p0, Prod.fst (Prod.snd p0), Prod.snd (Prod.snd p0)) p1) fun z0 => if (!z0) = true then some ([], false) else Option.bind (f_spec_tsMarks k (Prod.fst p0, Prod.fst (Prod.snd p0), Prod.snd (Prod.snd p0)) p1) fun z1 => Option.bind (f_spec_tsAll k p1) fun z2 => Option.bind (f_spec_tsClasses k z1 z2) fun z3 => Option.bind (f_spec_tsLists k z3) fun z4 => some (z4, true)
noncomputable def d_spec_FaultClasses : FnDef := .of q_spec_FaultClasses r_spec_FaultClasses (List (List Int) × Bool) (fun k x => f_spec_FaultClasses k x.1 x.2.1) to_spec_FaultClasses of_spec_FaultClasses to_of_spec_FaultClasses
noncomputable def c_spec_FaultClasses : Code := Try.f52.body.getD .skip
noncomputable def x_spec_FaultClasses : Ctx (Tup r_spec_FaultClasses × OutD) := { T := T, G := [(82, d_spec_tsAsked.E), (91, d_spec_tsMarks.E), (92, d_spec_tsAll.E), (97, d_spec_tsClasses.E), (96, d_spec_tsLists.E)], mvs := [], no := 0, n := 17, res := resOf T q_spec_FaultClasses r_spec_FaultClasses Try.f52.results.toList, loops := [], regs := [], conds := [] }
theorem g_spec_FaultClasses (k : Nat) : EnvOK Try.prog k x_spec_FaultClasses.G := (EnvOK.cons (s_spec_tsAsked k) (EnvOK.cons (s_spec_tsMarks k) (EnvOK.cons (s_spec_tsAll k) (EnvOK.cons (s_spec_tsClasses k) (EnvOK.cons (s_spec_tsLists k) (EnvOK.nil mixed))))))
theorem h_spec_FaultClasses (k : Nat) (x : Tup d_spec_FaultClasses.ps) : d_spec_FaultClasses.f (k + 1) x = fnK d_spec_FaultClasses x_spec_FaultClasses c_spec_FaultClasses k x := by kernel_rfl
theorem z_spec_FaultClasses (x : Tup d_spec_FaultClasses.ps) : d_spec_FaultClasses.f 0 x = none := by kernel_rfl
theorem l_spec_FaultClasses (k : Nat) : LOK Try.prog x_spec_FaultClasses k c_spec_FaultClasses := LOK.by [] (by kernel_rfl) AllOK.nil
theorem s_spec_FaultClasses (k : Nat) : SoundAt Try.prog k 52 d_spec_FaultClasses.E := @fn_all Try.prog d_spec_FaultClasses x_spec_FaultClasses 52 Try.f52 c_spec_FaultClasses (by kernel_rfl) (by kernel_rfl) (by kernel_rfl) Try.func52 (by kernel_rfl) (by kernel_rfl) (by kernel_rfl) T_ok g_spec_FaultClasses l_spec_FaultClasses z_spec_FaultClasses h_spec_FaultClasses k
/-! function 58 -/
end
end Go.Proofs.Ytgpmbmnfcbippaa.Vs
