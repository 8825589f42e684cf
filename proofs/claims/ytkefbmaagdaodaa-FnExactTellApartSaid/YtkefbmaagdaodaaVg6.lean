/- Functions of the program by plain functions, each with its contract. -/
import Derived.Test.YtkefbmaagdaodaaVsT
import Derived.Test.YtkefbmaagdaodaaVg0
import Derived.Test.YtkefbmaagdaodaaVg1
import Derived.Test.YtkefbmaagdaodaaVg2
import Derived.Test.YtkefbmaagdaodaaVg3
import Derived.Test.YtkefbmaagdaodaaVg4
import Derived.Test.YtkefbmaagdaodaaVg5
set_option maxRecDepth 100000
set_option linter.unusedVariables false
set_option linter.unusedSimpArgs false
namespace Go.Proofs.Ytkefbmaagdaodaa.Vs
open Go.RowKit
noncomputable section
/-! function 3 -/
noncomputable def r_laws_FnExactAreFaults : List PK := [{ t := Ty.bool }]
noncomputable def q_laws_FnExactAreFaults : List PK := [{ t := Ty.pair (Ty.int IntKind.i64) (Ty.pair (Ty.int IntKind.i64) (Ty.slice (128 : Nat) (Ty.pair (Ty.int IntKind.i64) (Ty.int IntKind.i64)))), agg := true }, { t := Ty.slice (89 : Nat) (Ty.pair (Ty.int IntKind.i64) (Ty.pair (Ty.int IntKind.i64) (Ty.int IntKind.i64))) }]
noncomputable def to_laws_FnExactAreFaults (r : Bool) : Tup r_laws_FnExactAreFaults × OutD := ((r, ()), none)
noncomputable def of_laws_FnExactAreFaults : Tup r_laws_FnExactAreFaults × OutD → Option (Bool)
  | (a, none) => some (a.1)
  | _ => none
theorem to_of_laws_FnExactAreFaults : ∀ b r, of_laws_FnExactAreFaults b = some r → to_laws_FnExactAreFaults r = b := by
  rintro ⟨a, o⟩ r h
  cases o with
  | none => injection h with h; subst h; rfl
  | some _ => cases h
noncomputable def f_laws_FnExactAreFaults : Nat → Int × Int × List (Int × Int) → List (Int × Int × Int) → Option Bool
  | 0, _, _ => none
  | k + 1, p0, p1 =>
    Option.bind (f_laws_szBoard k (Prod.fst p0, Prod.fst (Prod.snd p0), Prod.snd (Prod.snd p0)) (1048576 : Int)) fun z0 => if decide (z0 < (0 : Int)) = true then some true else Option.bind (f_laws_szFaultS k p1 z0) fun z1 => if decide (z1 < (0 : Int)) = true then some true else Option.bind (f_laws_toBoard k (Prod.fst p0, Prod.fst (Prod.snd p0), Prod.snd (Prod.snd p0))) fun z2 => Option.bind (f_laws_toFaultS k p1) fun z3 => Option.bind (f_spec_AreFaults k (Prod.fst z2, Prod.fst (Prod.snd z2), Prod.snd (Prod.snd z2)) z3) fun z4 => Option.bind (f_laws_toBoard k (Prod.fst p0, Prod.fst (Prod.snd p0), Prod.snd (Prod.snd p0))) fun z5 => Option.bind (f_laws_toFaultS k p1) fun z6 => Option.bind (f_impl_AreFaults k (Prod.fst z5, Prod.fst (Prod.snd z5), Prod.snd (Prod.snd z5)) z6) fun z7 => if (!Prod.fst z7 == Prod.fst z4) = true then some false else if (!Prod.snd z7 == Prod.snd z4) = true then some false else Option.bind (f_laws_toBoard k (Prod.fst p0, Prod.fst (Prod.snd p0), Prod.snd (Prod.snd p0))) fun z8 => Option.bind (f_laws_eqBoard k (Prod.fst z5, Prod.fst (Prod.snd z5), Prod.snd (Prod.snd z5)) (Prod.fst z8, Prod.fst (Prod.snd z8), Prod.snd (Prod.snd z8))) fun z9 => if (!z9) = true then some false else Option.bind (f_laws_toFaultS k p1) fun z10 => Option.bind (f_laws_eqFaultS k z6 z10) fun z11 => if (!z11) = true then some false else some true
noncomputable def d_laws_FnExactAreFaults : FnDef := .of q_laws_FnExactAreFaults r_laws_FnExactAreFaults (Bool) (fun k x => f_laws_FnExactAreFaults k x.1 x.2.1) to_laws_FnExactAreFaults of_laws_FnExactAreFaults to_of_laws_FnExactAreFaults
noncomputable def c_laws_FnExactAreFaults : Code := Try.f3.body.getD .skip
noncomputable def x_laws_FnExactAreFaults : Ctx (Tup r_laws_FnExactAreFaults × OutD) := { T := T, G := [(15, d_laws_szBoard.E), (16, d_laws_szFaultS.E), (18, d_laws_toBoard.E), (19, d_laws_toFaultS.E), (17, d_spec_AreFaults.E), (20, d_impl_AreFaults.E), (21, d_laws_eqBoard.E), (22, d_laws_eqFaultS.E)], mvs := [], no := 0, n := 58, res := resOf T q_laws_FnExactAreFaults r_laws_FnExactAreFaults Try.f3.results.toList, loops := [], regs := [], conds := [] }
theorem g_laws_FnExactAreFaults (k : Nat) : EnvOK Try.prog k x_laws_FnExactAreFaults.G := (EnvOK.cons (s_laws_szBoard k) (EnvOK.cons (s_laws_szFaultS k) (EnvOK.cons (s_laws_toBoard k) (EnvOK.cons (s_laws_toFaultS k) (EnvOK.cons (s_spec_AreFaults k) (EnvOK.cons (s_impl_AreFaults k) (EnvOK.cons (s_laws_eqBoard k) (EnvOK.cons (s_laws_eqFaultS k) (EnvOK.nil mixed)))))))))
theorem h_laws_FnExactAreFaults (k : Nat) (x : Tup d_laws_FnExactAreFaults.ps) : d_laws_FnExactAreFaults.f (k + 1) x = fnK d_laws_FnExactAreFaults x_laws_FnExactAreFaults c_laws_FnExactAreFaults k x := by kernel_rfl
theorem z_laws_FnExactAreFaults (x : Tup d_laws_FnExactAreFaults.ps) : d_laws_FnExactAreFaults.f 0 x = none := by kernel_rfl
theorem l_laws_FnExactAreFaults (k : Nat) : LOK Try.prog x_laws_FnExactAreFaults k c_laws_FnExactAreFaults := LOK.by [] (by kernel_rfl) AllOK.nil
theorem s_laws_FnExactAreFaults (k : Nat) : SoundAt Try.prog k 3 d_laws_FnExactAreFaults.E := @fn_all Try.prog d_laws_FnExactAreFaults x_laws_FnExactAreFaults 3 Try.f3 c_laws_FnExactAreFaults (by kernel_rfl) (by kernel_rfl) (by kernel_rfl) Try.func3 (by kernel_rfl) (by kernel_rfl) (by kernel_rfl) T_ok g_laws_FnExactAreFaults l_laws_FnExactAreFaults z_laws_FnExactAreFaults h_laws_FnExactAreFaults k
/-! function 5 -/
noncomputable def r_laws_FnExactFaultyFall : List PK := [{ t := Ty.bool }]
noncomputable def q_laws_FnExactFaultyFall : List PK := [{ t := Ty.pair (Ty.int IntKind.i64) (Ty.pair (Ty.int IntKind.i64) (Ty.slice (128 : Nat) (Ty.pair (Ty.int IntKind.i64) (Ty.int IntKind.i64)))), agg := true }, { t := Ty.slice (89 : Nat) (Ty.pair (Ty.int IntKind.i64) (Ty.pair (Ty.int IntKind.i64) (Ty.int IntKind.i64))) }, { t := Ty.int IntKind.i64 }]
noncomputable def to_laws_FnExactFaultyFall (r : Bool) : Tup r_laws_FnExactFaultyFall × OutD := ((r, ()), none)
noncomputable def of_laws_FnExactFaultyFall : Tup r_laws_FnExactFaultyFall × OutD → Option (Bool)
  | (a, none) => some (a.1)
  | _ => none
theorem to_of_laws_FnExactFaultyFall : ∀ b r, of_laws_FnExactFaultyFall b = some r → to_laws_FnExactFaultyFall r = b := by
  rintro ⟨a, o⟩ r h
  cases o with
  | none => injection h with h; subst h; rfl
  | some _ => cases h
noncomputable def f_laws_FnExactFaultyFall : Nat → Int × Int × List (Int × Int) → List (Int × Int × Int) → Int → Option Bool
  | 0, _, _, _ => none
  | k + 1, p0, p1, p2 =>
    Option.bind (f_laws_szBoard k (Prod.fst p0, Prod.fst (Prod.snd p0), Prod.snd (Prod.snd p0)) (1048576 : Int)) fun z0 => if decide (z0 < (0 : Int)) = true then some true else Option.bind (f_laws_szFaultS k p1 z0) fun z1 => if decide (z1 < (0 : Int)) = true then some true else Option.bind (f_laws_toBoard k (Prod.fst p0, Prod.fst (Prod.snd p0), Prod.snd (Prod.snd p0))) fun z2 => Option.bind (f_laws_toFaultS k p1) fun z3 => Option.bind (f_spec_FaultyFall k (Prod.fst z2, Prod.fst (Prod.snd z2), Prod.snd (Prod.snd z2)) z3 p2) fun z4 => Option.bind (f_laws_toBoard k (Prod.fst p0, Prod.fst (Prod.snd p0), Prod.snd (Prod.snd p0))) fun z5 => Option.bind (f_laws_toFaultS k p1) fun z6 => Option.bind (f_impl_FaultyFall k (Prod.fst z5, Prod.fst (Prod.snd z5), Prod.snd (Prod.snd z5)) z6 p2) fun z7 => Option.bind (f_laws_eqFall k (Prod.fst (Prod.fst z7), Prod.fst (Prod.snd (Prod.fst z7)), Prod.snd (Prod.snd (Prod.fst z7))) (Prod.fst (Prod.fst z4), Prod.fst (Prod.snd (Prod.fst z4)), Prod.snd (Prod.snd (Prod.fst z4)))) fun z8 => if (!z8) = true then some false else if (!Prod.snd z7 == Prod.snd z4) = true then some false else Option.bind (f_laws_toBoard k (Prod.fst p0, Prod.fst (Prod.snd p0), Prod.snd (Prod.snd p0))) fun z9 => Option.bind (f_laws_eqBoard k (Prod.fst z5, Prod.fst (Prod.snd z5), Prod.snd (Prod.snd z5)) (Prod.fst z9, Prod.fst (Prod.snd z9), Prod.snd (Prod.snd z9))) fun z10 => if (!z10) = true then some false else Option.bind (f_laws_toFaultS k p1) fun z11 => Option.bind (f_laws_eqFaultS k z6 z11) fun z12 => if (!z12) = true then some false else some true
noncomputable def d_laws_FnExactFaultyFall : FnDef := .of q_laws_FnExactFaultyFall r_laws_FnExactFaultyFall (Bool) (fun k x => f_laws_FnExactFaultyFall k x.1 x.2.1 x.2.2.1) to_laws_FnExactFaultyFall of_laws_FnExactFaultyFall to_of_laws_FnExactFaultyFall
noncomputable def c_laws_FnExactFaultyFall : Code := Try.f5.body.getD .skip
noncomputable def x_laws_FnExactFaultyFall : Ctx (Tup r_laws_FnExactFaultyFall × OutD) := { T := T, G := [(15, d_laws_szBoard.E), (16, d_laws_szFaultS.E), (18, d_laws_toBoard.E), (19, d_laws_toFaultS.E), (28, d_spec_FaultyFall.E), (29, d_impl_FaultyFall.E), (30, d_laws_eqFall.E), (21, d_laws_eqBoard.E), (22, d_laws_eqFaultS.E)], mvs := [], no := 0, n := 63, res := resOf T q_laws_FnExactFaultyFall r_laws_FnExactFaultyFall Try.f5.results.toList, loops := [], regs := [], conds := [] }
theorem g_laws_FnExactFaultyFall (k : Nat) : EnvOK Try.prog k x_laws_FnExactFaultyFall.G := (EnvOK.cons (s_laws_szBoard k) (EnvOK.cons (s_laws_szFaultS k) (EnvOK.cons (s_laws_toBoard k) (EnvOK.cons (s_laws_toFaultS k) (EnvOK.cons (s_spec_FaultyFall k) (EnvOK.cons (s_impl_FaultyFall k) (EnvOK.cons (s_laws_eqFall k) (EnvOK.cons (s_laws_eqBoard k) (EnvOK.cons (s_laws_eqFaultS k) (EnvOK.nil mixed))))))))))
theorem h_laws_FnExactFaultyFall (k : Nat) (x : Tup d_laws_FnExactFaultyFall.ps) : d_laws_FnExactFaultyFall.f (k + 1) x = fnK d_laws_FnExactFaultyFall x_laws_FnExactFaultyFall c_laws_FnExactFaultyFall k x := by kernel_rfl
theorem z_laws_FnExactFaultyFall (x : Tup d_laws_FnExactFaultyFall.ps) : d_laws_FnExactFaultyFall.f 0 x = none := by kernel_rfl
theorem l_laws_FnExactFaultyFall (k : Nat) : LOK Try.prog x_laws_FnExactFaultyFall k c_laws_FnExactFaultyFall := LOK.by [] (by kernel_rfl) AllOK.nil
theorem s_laws_FnExactFaultyFall (k : Nat) : SoundAt Try.prog k 5 d_laws_FnExactFaultyFall.E := @fn_all Try.prog d_laws_FnExactFaultyFall x_laws_FnExactFaultyFall 5 Try.f5 c_laws_FnExactFaultyFall (by kernel_rfl) (by kernel_rfl) (by kernel_rfl) Try.func5 (by kernel_rfl) (by kernel_rfl) (by kernel_rfl) T_ok g_laws_FnExactFaultyFall l_laws_FnExactFaultyFall z_laws_FnExactFaultyFall h_laws_FnExactFaultyFall k
/-! function 6 -/
noncomputable def r_laws_FnExactSurprisesOf : List PK := [{ t := Ty.bool }]
noncomputable def q_laws_FnExactSurprisesOf : List PK := [{ t := Ty.pair (Ty.int IntKind.i64) (Ty.pair (Ty.int IntKind.i64) (Ty.slice (128 : Nat) (Ty.pair (Ty.int IntKind.i64) (Ty.int IntKind.i64)))), agg := true }, { t := Ty.slice (3 : Nat) (Ty.int IntKind.i64) }, { t := Ty.slice (106 : Nat) (Ty.pair (Ty.int IntKind.i64) (Ty.pair (Ty.int IntKind.i64) (Ty.int IntKind.i64))) }]
noncomputable def to_laws_FnExactSurprisesOf (r : Bool) : Tup r_laws_FnExactSurprisesOf × OutD := ((r, ()), none)
noncomputable def of_laws_FnExactSurprisesOf : Tup r_laws_FnExactSurprisesOf × OutD → Option (Bool)
  | (a, none) => some (a.1)
  | _ => none
theorem to_of_laws_FnExactSurprisesOf : ∀ b r, of_laws_FnExactSurprisesOf b = some r → to_laws_FnExactSurprisesOf r = b := by
  rintro ⟨a, o⟩ r h
  cases o with
  | none => injection h with h; subst h; rfl
  | some _ => cases h
noncomputable def f_laws_FnExactSurprisesOf : Nat → Int × Int × List (Int × Int) → List Int → List (Int × Int × Int) → Option Bool
  | 0, _, _, _ => none
  | k + 1, p0, p1, p2 =>
    if decide ((↑(List.length p1) : Int) > (1048576 : Int)) = true then some true else Option.bind (f_laws_szBoard k (Prod.fst p0, Prod.fst (Prod.snd p0), Prod.snd (Prod.snd p0)) (1048576 : Int)) fun z0 => if decide (z0 < (0 : Int)) = true then some true else Option.bind (f_laws_szFallS k p2 z0) fun z1 => if decide (z1 < (0 : Int)) = true then some true else Option.bind (f_laws_toBoard k (Prod.fst p0, Prod.fst (Prod.snd p0), Prod.snd (Prod.snd p0))) fun z2 => Option.bind (f_laws_toIntS k p1) fun z3 => Option.bind (f_laws_toFallS k p2) fun z4 => Option.bind (f_spec_SurprisesOf k (Prod.fst z2, Prod.fst (Prod.snd z2), Prod.snd (Prod.snd z2)) z3 z4) fun z5 => Option.bind (f_laws_toBoard k (Prod.fst p0, Prod.fst (Prod.snd p0), Prod.snd (Prod.snd p0))) fun z6 => Option.bind (f_laws_toIntS k p1) fun z7 => Option.bind (f_laws_toFallS k p2) fun z8 => Option.bind (f_impl_SurprisesOf k (Prod.fst z6, Prod.fst (Prod.snd z6), Prod.snd (Prod.snd z6)) z7 z8) fun z9 => Option.bind (f_laws_eqIntS k (Prod.fst z9) (Prod.fst z5)) fun z10 => if (!z10) = true then some false else if (!Prod.snd z9 == Prod.snd z5) = true then some false else Option.bind (f_laws_toBoard k (Prod.fst p0, Prod.fst (Prod.snd p0), Prod.snd (Prod.snd p0))) fun z11 => Option.bind (f_laws_eqBoard k (Prod.fst z6, Prod.fst (Prod.snd z6), Prod.snd (Prod.snd z6)) (Prod.fst z11, Prod.fst (Prod.snd z11), Prod.snd (Prod.snd z11))) fun z12 => if (!z12) = true then some false else Option.bind (f_laws_toIntS k p1) fun z13 => Option.bind (f_laws_eqIntS k z7 z13) fun z14 => if (!z14) = true then some false else Option.bind (f_laws_toFallS k p2) fun z15 => Option.bind (f_laws_eqFallS k z8 z15) fun z16 => if (!z16) = true then some false else Option.bind (f_laws_markBoard k (Prod.fst z6, Prod.fst (Prod.snd z6), Prod.snd (Prod.snd z6)) (1 : Int)) fun z17 => Option.bind (f_laws_markIntS k z7 (Prod.fst z17)) fun z18 => Option.bind (f_laws_markFallS k z8 (Prod.fst z18)) fun z19 => if decide (Prod.fst z19 < (0 : Int)) = true then some false else Option.bind (f_laws_eqIntS k (Prod.fst z9) (Prod.fst z5)) fun z20 => if (!z20) = true then some false else if (!Prod.snd z9 == Prod.snd z5) = true then some false else Option.bind (f_laws_markIntS k (Prod.fst z9) (1 : Int)) fun z21 => Option.bind (f_laws_heldIntS k (Prod.snd z21) (1 : Int)) fun z22 => if decide (z22 < (0 : Int)) = true then some false else if decide (z22 ≠ Prod.fst z21) = true then some false else Option.bind (f_laws_toBoard k (Prod.fst p0, Prod.fst (Prod.snd p0), Prod.snd (Prod.snd p0))) fun z23 => Option.bind (f_laws_toIntS k p1) fun z24 => Option.bind (f_laws_toFallS k p2) fun z25 => Option.bind (f_impl_SurprisesOf k (Prod.fst z23, Prod.fst (Prod.snd z23), Prod.snd (Prod.snd z23)) z24 z25) fun z26 => Option.bind (f_laws_eqIntS k (Prod.fst z26) (Prod.fst z5)) fun z27 => if (!z27) = true then some false else if (!Prod.snd z26 == Prod.snd z5) = true then some false else Option.bind (f_laws_heldIntS k (Prod.snd z21) (1 : Int)) fun z28 => if decide (z28 < (0 : Int)) = true then some false else if decide (z28 ≠ Prod.fst z21) = true then some false else some true
noncomputable def d_laws_FnExactSurprisesOf : FnDef := .of q_laws_FnExactSurprisesOf r_laws_FnExactSurprisesOf (Bool) (fun k x => f_laws_FnExactSurprisesOf k x.1 x.2.1 x.2.2.1) to_laws_FnExactSurprisesOf of_laws_FnExactSurprisesOf to_of_laws_FnExactSurprisesOf
noncomputable def c_laws_FnExactSurprisesOf : Code := Try.f6.body.getD .skip
noncomputable def x_laws_FnExactSurprisesOf : Ctx (Tup r_laws_FnExactSurprisesOf × OutD) := { T := T, G := [(15, d_laws_szBoard.E), (31, d_laws_szFallS.E), (18, d_laws_toBoard.E), (33, d_laws_toIntS.E), (34, d_laws_toFallS.E), (32, d_spec_SurprisesOf.E), (35, d_impl_SurprisesOf.E), (36, d_laws_eqIntS.E), (21, d_laws_eqBoard.E), (37, d_laws_eqFallS.E), (25, d_laws_markBoard.E), (38, d_laws_markIntS.E), (39, d_laws_markFallS.E), (40, d_laws_heldIntS.E)], mvs := [], no := 0, n := 140, res := resOf T q_laws_FnExactSurprisesOf r_laws_FnExactSurprisesOf Try.f6.results.toList, loops := [], regs := [], conds := [] }
theorem g_laws_FnExactSurprisesOf (k : Nat) : EnvOK Try.prog k x_laws_FnExactSurprisesOf.G := (EnvOK.cons (s_laws_szBoard k) (EnvOK.cons (s_laws_szFallS k) (EnvOK.cons (s_laws_toBoard k) (EnvOK.cons (s_laws_toIntS k) (EnvOK.cons (s_laws_toFallS k) (EnvOK.cons (s_spec_SurprisesOf k) (EnvOK.cons (s_impl_SurprisesOf k) (EnvOK.cons (s_laws_eqIntS k) (EnvOK.cons (s_laws_eqBoard k) (EnvOK.cons (s_laws_eqFallS k) (EnvOK.cons (s_laws_markBoard k) (EnvOK.cons (s_laws_markIntS k) (EnvOK.cons (s_laws_markFallS k) (EnvOK.cons (s_laws_heldIntS k) (EnvOK.nil mixed)))))))))))))))
theorem h_laws_FnExactSurprisesOf (k : Nat) (x : Tup d_laws_FnExactSurprisesOf.ps) : d_laws_FnExactSurprisesOf.f (k + 1) x = fnK d_laws_FnExactSurprisesOf x_laws_FnExactSurprisesOf c_laws_FnExactSurprisesOf k x := by kernel_rfl
theorem z_laws_FnExactSurprisesOf (x : Tup d_laws_FnExactSurprisesOf.ps) : d_laws_FnExactSurprisesOf.f 0 x = none := by kernel_rfl
theorem l_laws_FnExactSurprisesOf (k : Nat) : LOK Try.prog x_laws_FnExactSurprisesOf k c_laws_FnExactSurprisesOf := LOK.by [] (by kernel_rfl) AllOK.nil
theorem s_laws_FnExactSurprisesOf (k : Nat) : SoundAt Try.prog k 6 d_laws_FnExactSurprisesOf.E := @fn_all Try.prog d_laws_FnExactSurprisesOf x_laws_FnExactSurprisesOf 6 Try.f6 c_laws_FnExactSurprisesOf (by kernel_rfl) (by kernel_rfl) (by kernel_rfl) Try.func6 (by kernel_rfl) (by kernel_rfl) (by kernel_rfl) T_ok g_laws_FnExactSurprisesOf l_laws_FnExactSurprisesOf z_laws_FnExactSurprisesOf h_laws_FnExactSurprisesOf k
/-! function 7 -/
noncomputable def r_laws_FnExactFaultyBoard : List PK := [{ t := Ty.bool }]
noncomputable def q_laws_FnExactFaultyBoard : List PK := [{ t := Ty.pair (Ty.int IntKind.i64) (Ty.pair (Ty.int IntKind.i64) (Ty.slice (128 : Nat) (Ty.pair (Ty.int IntKind.i64) (Ty.int IntKind.i64)))), agg := true }, { t := Ty.slice (89 : Nat) (Ty.pair (Ty.int IntKind.i64) (Ty.pair (Ty.int IntKind.i64) (Ty.int IntKind.i64))) }, { t := Ty.int IntKind.i64 }]
noncomputable def to_laws_FnExactFaultyBoard (r : Bool) : Tup r_laws_FnExactFaultyBoard × OutD := ((r, ()), none)
noncomputable def of_laws_FnExactFaultyBoard : Tup r_laws_FnExactFaultyBoard × OutD → Option (Bool)
  | (a, none) => some (a.1)
  | _ => none
theorem to_of_laws_FnExactFaultyBoard : ∀ b r, of_laws_FnExactFaultyBoard b = some r → to_laws_FnExactFaultyBoard r = b := by
  rintro ⟨a, o⟩ r h
  cases o with
  | none => injection h with h; subst h; rfl
  | some _ => cases h
noncomputable def f_laws_FnExactFaultyBoard : Nat → Int × Int × List (Int × Int) → List (Int × Int × Int) → Int → Option Bool
  | 0, _, _, _ => none
  | k + 1, p0, p1, p2 =>
    Option.bind (f_laws_szBoard k (Prod.fst p0, Prod.fst (Prod.snd p0), Prod.snd (Prod.snd p0)) (1048576 : Int)) fun z0 => if decide (z0 < (0 : Int)) = true then some true else Option.bind (f_laws_szFaultS k p1 z0) fun z1 => if decide (z1 < (0 : Int)) = true then some true else Option.bind (f_laws_toBoard k (Prod.fst p0, Prod.fst (Prod.snd p0), Prod.snd (Prod.snd p0))) fun z2 => Option.bind (f_laws_toFaultS k p1) fun z3 => Option.bind (f_spec_FaultyBoard k (Prod.fst z2, Prod.fst (Prod.snd z2), Prod.snd (Prod.snd z2)) z3 p2) fun z4 => Option.bind (f_laws_toBoard k (Prod.fst p0, Prod.fst (Prod.snd p0), Prod.snd (Prod.snd p0))) fun z5 => Option.bind (f_laws_toFaultS k p1) fun z6 => Option.bind (f_impl_FaultyBoard k (Prod.fst z5, Prod.fst (Prod.snd z5), Prod.snd (Prod.snd z5)) z6 p2) fun z7 => Option.bind (f_laws_eqBoard k (Prod.fst (Prod.fst z7), Prod.fst (Prod.snd (Prod.fst z7)), Prod.snd (Prod.snd (Prod.fst z7))) (Prod.fst (Prod.fst z4), Prod.fst (Prod.snd (Prod.fst z4)), Prod.snd (Prod.snd (Prod.fst z4)))) fun z8 => if (!z8) = true then some false else if (!Prod.snd z7 == Prod.snd z4) = true then some false else Option.bind (f_laws_toBoard k (Prod.fst p0, Prod.fst (Prod.snd p0), Prod.snd (Prod.snd p0))) fun z9 => Option.bind (f_laws_eqBoard k (Prod.fst z5, Prod.fst (Prod.snd z5), Prod.snd (Prod.snd z5)) (Prod.fst z9, Prod.fst (Prod.snd z9), Prod.snd (Prod.snd z9))) fun z10 => if (!z10) = true then some false else Option.bind (f_laws_toFaultS k p1) fun z11 => Option.bind (f_laws_eqFaultS k z6 z11) fun z12 => if (!z12) = true then some false else Option.bind (f_laws_markBoard k (Prod.fst z5, Prod.fst (Prod.snd z5), Prod.snd (Prod.snd z5)) (1 : Int)) fun z13 => Option.bind (f_laws_markFaultS k z6 (Prod.fst z13)) fun z14 => if decide (Prod.fst z14 < (0 : Int)) = true then some false else Option.bind (f_laws_eqBoard k (Prod.fst (Prod.fst z7), Prod.fst (Prod.snd (Prod.fst z7)), Prod.snd (Prod.snd (Prod.fst z7))) (Prod.fst (Prod.fst z4), Prod.fst (Prod.snd (Prod.fst z4)), Prod.snd (Prod.snd (Prod.fst z4)))) fun z15 => if (!z15) = true then some false else if (!Prod.snd z7 == Prod.snd z4) = true then some false else Option.bind (f_laws_markBoard k (Prod.fst (Prod.fst z7), Prod.fst (Prod.snd (Prod.fst z7)), Prod.snd (Prod.snd (Prod.fst z7))) (1 : Int)) fun z16 => Option.bind (f_laws_heldBoard k (Prod.fst (Prod.fst z7), Prod.fst (Prod.snd (Prod.fst z7)), Prod.snd z16) (1 : Int)) fun z17 => if decide (z17 < (0 : Int)) = true then some false else if decide (z17 ≠ Prod.fst z16) = true then some false else Option.bind (f_laws_toBoard k (Prod.fst p0, Prod.fst (Prod.snd p0), Prod.snd (Prod.snd p0))) fun z18 => Option.bind (f_laws_toFaultS k p1) fun z19 => Option.bind (f_impl_FaultyBoard k (Prod.fst z18, Prod.fst (Prod.snd z18), Prod.snd (Prod.snd z18)) z19 p2) fun z20 => Option.bind (f_laws_eqBoard k (Prod.fst (Prod.fst z20), Prod.fst (Prod.snd (Prod.fst z20)), Prod.snd (Prod.snd (Prod.fst z20))) (Prod.fst (Prod.fst z4), Prod.fst (Prod.snd (Prod.fst z4)), Prod.snd (Prod.snd (Prod.fst z4)))) fun z21 => if (!z21) = true then some false else if (!Prod.snd z20 == Prod.snd z4) = true then some false else Option.bind (f_laws_heldBoard k (Prod.fst (Prod.fst z7), Prod.fst (Prod.snd (Prod.fst z7)), Prod.snd z16) (1 : Int)) fun z22 => if decide (z22 < (0 : Int)) = true then some false else if decide (z22 ≠ Prod.fst z16) = true then some false else some true
noncomputable def d_laws_FnExactFaultyBoard : FnDef := .of q_laws_FnExactFaultyBoard r_laws_FnExactFaultyBoard (Bool) (fun k x => f_laws_FnExactFaultyBoard k x.1 x.2.1 x.2.2.1) to_laws_FnExactFaultyBoard of_laws_FnExactFaultyBoard to_of_laws_FnExactFaultyBoard
noncomputable def c_laws_FnExactFaultyBoard : Code := Try.f7.body.getD .skip
noncomputable def x_laws_FnExactFaultyBoard : Ctx (Tup r_laws_FnExactFaultyBoard × OutD) := { T := T, G := [(15, d_laws_szBoard.E), (16, d_laws_szFaultS.E), (18, d_laws_toBoard.E), (19, d_laws_toFaultS.E), (41, d_spec_FaultyBoard.E), (42, d_impl_FaultyBoard.E), (21, d_laws_eqBoard.E), (22, d_laws_eqFaultS.E), (25, d_laws_markBoard.E), (26, d_laws_markFaultS.E), (43, d_laws_heldBoard.E)], mvs := [], no := 0, n := 124, res := resOf T q_laws_FnExactFaultyBoard r_laws_FnExactFaultyBoard Try.f7.results.toList, loops := [], regs := [], conds := [] }
theorem g_laws_FnExactFaultyBoard (k : Nat) : EnvOK Try.prog k x_laws_FnExactFaultyBoard.G := (EnvOK.cons (s_laws_szBoard k) (EnvOK.cons (s_laws_szFaultS k) (EnvOK.cons (s_laws_toBoard k) (EnvOK.cons (s_laws_toFaultS k) (EnvOK.cons (s_spec_FaultyBoard k) (EnvOK.cons (s_impl_FaultyBoard k) (EnvOK.cons (s_laws_eqBoard k) (EnvOK.cons (s_laws_eqFaultS k) (EnvOK.cons (s_laws_markBoard k) (EnvOK.cons (s_laws_markFaultS k) (EnvOK.cons (s_laws_heldBoard k) (EnvOK.nil mixed))))))))))))
theorem h_laws_FnExactFaultyBoard (k : Nat) (x : Tup d_laws_FnExactFaultyBoard.ps) : d_laws_FnExactFaultyBoard.f (k + 1) x = fnK d_laws_FnExactFaultyBoard x_laws_FnExactFaultyBoard c_laws_FnExactFaultyBoard k x := by kernel_rfl
theorem z_laws_FnExactFaultyBoard (x : Tup d_laws_FnExactFaultyBoard.ps) : d_laws_FnExactFaultyBoard.f 0 x = none := by kernel_rfl
theorem l_laws_FnExactFaultyBoard (k : Nat) : LOK Try.prog x_laws_FnExactFaultyBoard k c_laws_FnExactFaultyBoard := LOK.by [] (by kernel_rfl) AllOK.nil
theorem s_laws_FnExactFaultyBoard (k : Nat) : SoundAt Try.prog k 7 d_laws_FnExactFaultyBoard.E := @fn_all Try.prog d_laws_FnExactFaultyBoard x_laws_FnExactFaultyBoard 7 Try.f7 c_laws_FnExactFaultyBoard (by kernel_rfl) (by kernel_rfl) (by kernel_rfl) Try.func7 (by kernel_rfl) (by kernel_rfl) (by kernel_rfl) T_ok g_laws_FnExactFaultyBoard l_laws_FnExactFaultyBoard z_laws_FnExactFaultyBoard h_laws_FnExactFaultyBoard k
/-! function 9 -/
noncomputable def r_laws_FnExactExplainsEnds : List PK := [{ t := Ty.bool }]
noncomputable def q_laws_FnExactExplainsEnds : List PK := [{ t := Ty.pair (Ty.int IntKind.i64) (Ty.pair (Ty.int IntKind.i64) (Ty.slice (128 : Nat) (Ty.pair (Ty.int IntKind.i64) (Ty.int IntKind.i64)))), agg := true }, { t := Ty.slice (89 : Nat) (Ty.pair (Ty.int IntKind.i64) (Ty.pair (Ty.int IntKind.i64) (Ty.int IntKind.i64))) }, { t := Ty.slice (3 : Nat) (Ty.int IntKind.i64) }, { t := Ty.slice (106 : Nat) (Ty.pair (Ty.int IntKind.i64) (Ty.pair (Ty.int IntKind.i64) (Ty.int IntKind.i64))) }]
noncomputable def to_laws_FnExactExplainsEnds (r : Bool) : Tup r_laws_FnExactExplainsEnds × OutD := ((r, ()), none)
noncomputable def of_laws_FnExactExplainsEnds : Tup r_laws_FnExactExplainsEnds × OutD → Option (Bool)
  | (a, none) => some (a.1)
  | _ => none
theorem to_of_laws_FnExactExplainsEnds : ∀ b r, of_laws_FnExactExplainsEnds b = some r → to_laws_FnExactExplainsEnds r = b := by
  rintro ⟨a, o⟩ r h
  cases o with
  | none => injection h with h; subst h; rfl
  | some _ => cases h
noncomputable def f_laws_FnExactExplainsEnds : Nat → Int × Int × List (Int × Int) → List (Int × Int × Int) → List Int → List (Int × Int × Int) → Option Bool
  | 0, _, _, _, _ => none
  | k + 1, p0, p1, p2, p3 =>
    if decide ((↑(List.length p2) : Int) > (1048576 : Int)) = true then some true else Option.bind (f_laws_szBoard k (Prod.fst p0, Prod.fst (Prod.snd p0), Prod.snd (Prod.snd p0)) (1048576 : Int)) fun z0 => if decide (z0 < (0 : Int)) = true then some true else Option.bind (f_laws_szFaultS k p1 z0) fun z1 => if decide (z1 < (0 : Int)) = true then some true else Option.bind (f_laws_szFallS k p3 z1) fun z2 => if decide (z2 < (0 : Int)) = true then some true else Option.bind (f_laws_toBoard k (Prod.fst p0, Prod.fst (Prod.snd p0), Prod.snd (Prod.snd p0))) fun z3 => Option.bind (f_laws_toFaultS k p1) fun z4 => Option.bind (f_laws_toIntS k p2) fun z5 => Option.bind (f_laws_toFallS k p3) fun z6 => Option.bind (f_spec_ExplainsEnds k (Prod.fst z3, Prod.fst (Prod.snd z3), Prod.snd (Prod.snd z3)) z4 z5 z6) fun z7 => Option.bind (f_laws_toBoard k (Prod.fst p0, Prod.fst (Prod.snd p0), Prod.snd (Prod.snd p0))) fun z8 => Option.bind (f_laws_toFaultS k p1) fun z9 => Option.bind (f_laws_toIntS k p2) fun z10 => Option.bind (f_laws_toFallS k p3) fun z11 => Option.bind (f_impl_ExplainsEnds k (Prod.fst z8, Prod.fst (Prod.snd z8), Prod.snd (Prod.snd z8)) z9 z10 z11) fun z12 => if (!Prod.fst z12 == Prod.fst z7) = true then some false else if (!Prod.snd z12 == Prod.snd z7) = true then some false else Option.bind (f_laws_toBoard k (Prod.fst p0, Prod.fst (Prod.snd p0), Prod.snd (Prod.snd p0))) fun z13 => Option.bind (f_laws_eqBoard k (Prod.fst z8, Prod.fst (Prod.snd z8), Prod.snd (Prod.snd z8)) (Prod.fst z13, Prod.fst (Prod.snd z13), Prod.snd (Prod.snd z13))) fun z14 => if (!z14) = true then some false else Option.bind (f_laws_toFaultS k p1) fun z15 => Option.bind (f_laws_eqFaultS k z9 z15) fun z16 => if (!z16) = true then some false else Option.bind (f_laws_toIntS k p2) fun z17 => Option.bind (f_laws_eqIntS k z10 z17) fun z18 => if (!z18) = true then some false else Option.bind (f_laws_toFallS k p3) fun z19 => Option.bind (f_laws_eqFallS k z11 z19) fun z20 => if (!z20) = true then some false else some true
noncomputable def d_laws_FnExactExplainsEnds : FnDef := .of q_laws_FnExactExplainsEnds r_laws_FnExactExplainsEnds (Bool) (fun k x => f_laws_FnExactExplainsEnds k x.1 x.2.1 x.2.2.1 x.2.2.2.1) to_laws_FnExactExplainsEnds of_laws_FnExactExplainsEnds to_of_laws_FnExactExplainsEnds
noncomputable def c_laws_FnExactExplainsEnds : Code := Try.f9.body.getD .skip
noncomputable def x_laws_FnExactExplainsEnds : Ctx (Tup r_laws_FnExactExplainsEnds × OutD) := { T := T, G := [(15, d_laws_szBoard.E), (16, d_laws_szFaultS.E), (31, d_laws_szFallS.E), (18, d_laws_toBoard.E), (19, d_laws_toFaultS.E), (33, d_laws_toIntS.E), (34, d_laws_toFallS.E), (46, d_spec_ExplainsEnds.E), (47, d_impl_ExplainsEnds.E), (21, d_laws_eqBoard.E), (22, d_laws_eqFaultS.E), (36, d_laws_eqIntS.E), (37, d_laws_eqFallS.E)], mvs := [], no := 0, n := 92, res := resOf T q_laws_FnExactExplainsEnds r_laws_FnExactExplainsEnds Try.f9.results.toList, loops := [], regs := [], conds := [] }
theorem g_laws_FnExactExplainsEnds (k : Nat) : EnvOK Try.prog k x_laws_FnExactExplainsEnds.G := (EnvOK.cons (s_laws_szBoard k) (EnvOK.cons (s_laws_szFaultS k) (EnvOK.cons (s_laws_szFallS k) (EnvOK.cons (s_laws_toBoard k) (EnvOK.cons (s_laws_toFaultS k) (EnvOK.cons (s_laws_toIntS k) (EnvOK.cons (s_laws_toFallS k) (EnvOK.cons (s_spec_ExplainsEnds k) (EnvOK.cons (s_impl_ExplainsEnds k) (EnvOK.cons (s_laws_eqBoard k) (EnvOK.cons (s_laws_eqFaultS k) (EnvOK.cons (s_laws_eqIntS k) (EnvOK.cons (s_laws_eqFallS k) (EnvOK.nil mixed))))))))))))))
theorem h_laws_FnExactExplainsEnds (k : Nat) (x : Tup d_laws_FnExactExplainsEnds.ps) : d_laws_FnExactExplainsEnds.f (k + 1) x = fnK d_laws_FnExactExplainsEnds x_laws_FnExactExplainsEnds c_laws_FnExactExplainsEnds k x := by kernel_rfl
theorem z_laws_FnExactExplainsEnds (x : Tup d_laws_FnExactExplainsEnds.ps) : d_laws_FnExactExplainsEnds.f 0 x = none := by kernel_rfl
theorem l_laws_FnExactExplainsEnds (k : Nat) : LOK Try.prog x_laws_FnExactExplainsEnds k c_laws_FnExactExplainsEnds := LOK.by [] (by kernel_rfl) AllOK.nil
theorem s_laws_FnExactExplainsEnds (k : Nat) : SoundAt Try.prog k 9 d_laws_FnExactExplainsEnds.E := @fn_all Try.prog d_laws_FnExactExplainsEnds x_laws_FnExactExplainsEnds 9 Try.f9 c_laws_FnExactExplainsEnds (by kernel_rfl) (by kernel_rfl) (by kernel_rfl) Try.func9 (by kernel_rfl) (by kernel_rfl) (by kernel_rfl) T_ok g_laws_FnExactExplainsEnds l_laws_FnExactExplainsEnds z_laws_FnExactExplainsEnds h_laws_FnExactExplainsEnds k
/-! function 11 -/
noncomputable def r_laws_FnExactFirstSeen : List PK := [{ t := Ty.bool }]
noncomputable def q_laws_FnExactFirstSeen : List PK := [{ t := Ty.pair (Ty.int IntKind.i64) (Ty.pair (Ty.int IntKind.i64) (Ty.slice (128 : Nat) (Ty.pair (Ty.int IntKind.i64) (Ty.int IntKind.i64)))), agg := true }, { t := Ty.slice (89 : Nat) (Ty.pair (Ty.int IntKind.i64) (Ty.pair (Ty.int IntKind.i64) (Ty.int IntKind.i64))) }, { t := Ty.slice (3 : Nat) (Ty.int IntKind.i64) }]
noncomputable def to_laws_FnExactFirstSeen (r : Bool) : Tup r_laws_FnExactFirstSeen × OutD := ((r, ()), none)
noncomputable def of_laws_FnExactFirstSeen : Tup r_laws_FnExactFirstSeen × OutD → Option (Bool)
  | (a, none) => some (a.1)
  | _ => none
theorem to_of_laws_FnExactFirstSeen : ∀ b r, of_laws_FnExactFirstSeen b = some r → to_laws_FnExactFirstSeen r = b := by
  rintro ⟨a, o⟩ r h
  cases o with
  | none => injection h with h; subst h; rfl
  | some _ => cases h
noncomputable def f_laws_FnExactFirstSeen : Nat → Int × Int × List (Int × Int) → List (Int × Int × Int) → List Int → Option Bool
  | 0, _, _, _ => none
  | k + 1, p0, p1, p2 =>
    if decide ((↑(List.length p2) : Int) > (1048576 : Int)) = true then some true else Option.bind (f_laws_szBoard k (Prod.fst p0, Prod.fst (Prod.snd p0), Prod.snd (Prod.snd p0)) (1048576 : Int)) fun z0 => if decide (z0 < (0 : Int)) = true then some true else Option.bind (f_laws_szFaultS k p1 z0) fun z1 => if decide (z1 < (0 : Int)) = true then some true else Option.bind (f_laws_toBoard k (Prod.fst p0, Prod.fst (Prod.snd p0), Prod.snd (Prod.snd p0))) fun z2 => Option.bind (f_laws_toFaultS k p1) fun z3 => Option.bind (f_laws_toIntS k p2) fun z4 => Option.bind (f_spec_FirstSeen k (Prod.fst z2, Prod.fst (Prod.snd z2), Prod.snd (Prod.snd z2)) z3 z4) fun z5 => Option.bind (f_laws_toBoard k (Prod.fst p0, Prod.fst (Prod.snd p0), Prod.snd (Prod.snd p0))) fun z6 => Option.bind (f_laws_toFaultS k p1) fun z7 => Option.bind (f_laws_toIntS k p2) fun z8 => Option.bind (f_impl_FirstSeen k (Prod.fst z6, Prod.fst (Prod.snd z6), Prod.snd (Prod.snd z6)) z7 z8) fun z9 => if decide (Prod.fst z9 ≠ Prod.fst z5) = true then some false else if (!Prod.snd z9 == Prod.snd z5) = true then some false else Option.bind (f_laws_toBoard k (Prod.fst p0, Prod.fst (Prod.snd p0), Prod.snd (Prod.snd p0))) fun z10 => Option.bind (f_laws_eqBoard k (Prod.fst z6, Prod.fst (Prod.snd z6), Prod.snd (Prod.snd z6)) (Prod.fst z10, Prod.fst (Prod.snd z10), Prod.snd (Prod.snd z10))) fun z11 => if (!z11) = true then some false else Option.bind (f_laws_toFaultS k p1) fun z12 => Option.bind (f_laws_eqFaultS k z7 z12) fun z13 => if (!z13) = true then some false else Option.bind (f_laws_toIntS k p2) fun z14 => Option.bind (f_laws_eqIntS k z8 z14) fun z15 => if (!z15) = true then some false else some true
noncomputable def d_laws_FnExactFirstSeen : FnDef := .of q_laws_FnExactFirstSeen r_laws_FnExactFirstSeen (Bool) (fun k x => f_laws_FnExactFirstSeen k x.1 x.2.1 x.2.2.1) to_laws_FnExactFirstSeen of_laws_FnExactFirstSeen to_of_laws_FnExactFirstSeen
noncomputable def c_laws_FnExactFirstSeen : Code := Try.f11.body.getD .skip
noncomputable def x_laws_FnExactFirstSeen : Ctx (Tup r_laws_FnExactFirstSeen × OutD) := { T := T, G := [(15, d_laws_szBoard.E), (16, d_laws_szFaultS.E), (18, d_laws_toBoard.E), (19, d_laws_toFaultS.E), (33, d_laws_toIntS.E), (50, d_spec_FirstSeen.E), (51, d_impl_FirstSeen.E), (21, d_laws_eqBoard.E), (22, d_laws_eqFaultS.E), (36, d_laws_eqIntS.E)], mvs := [], no := 0, n := 74, res := resOf T q_laws_FnExactFirstSeen r_laws_FnExactFirstSeen Try.f11.results.toList, loops := [], regs := [], conds := [] }
theorem g_laws_FnExactFirstSeen (k : Nat) : EnvOK Try.prog k x_laws_FnExactFirstSeen.G := (EnvOK.cons (s_laws_szBoard k) (EnvOK.cons (s_laws_szFaultS k) (EnvOK.cons (s_laws_toBoard k) (EnvOK.cons (s_laws_toFaultS k) (EnvOK.cons (s_laws_toIntS k) (EnvOK.cons (s_spec_FirstSeen k) (EnvOK.cons (s_impl_FirstSeen k) (EnvOK.cons (s_laws_eqBoard k) (EnvOK.cons (s_laws_eqFaultS k) (EnvOK.cons (s_laws_eqIntS k) (EnvOK.nil mixed)))))))))))
theorem h_laws_FnExactFirstSeen (k : Nat) (x : Tup d_laws_FnExactFirstSeen.ps) : d_laws_FnExactFirstSeen.f (k + 1) x = fnK d_laws_FnExactFirstSeen x_laws_FnExactFirstSeen c_laws_FnExactFirstSeen k x := by kernel_rfl
theorem z_laws_FnExactFirstSeen (x : Tup d_laws_FnExactFirstSeen.ps) : d_laws_FnExactFirstSeen.f 0 x = none := by kernel_rfl
theorem l_laws_FnExactFirstSeen (k : Nat) : LOK Try.prog x_laws_FnExactFirstSeen k c_laws_FnExactFirstSeen := LOK.by [] (by kernel_rfl) AllOK.nil
theorem s_laws_FnExactFirstSeen (k : Nat) : SoundAt Try.prog k 11 d_laws_FnExactFirstSeen.E := @fn_all Try.prog d_laws_FnExactFirstSeen x_laws_FnExactFirstSeen 11 Try.f11 c_laws_FnExactFirstSeen (by kernel_rfl) (by kernel_rfl) (by kernel_rfl) Try.func11 (by kernel_rfl) (by kernel_rfl) (by kernel_rfl) T_ok g_laws_FnExactFirstSeen l_laws_FnExactFirstSeen z_laws_FnExactFirstSeen h_laws_FnExactFirstSeen k
/-! function 12 -/
noncomputable def r_laws_FnExactTellApart : List PK := [{ t := Ty.bool }]
noncomputable def q_laws_FnExactTellApart : List PK := [{ t := Ty.pair (Ty.int IntKind.i64) (Ty.pair (Ty.int IntKind.i64) (Ty.slice (128 : Nat) (Ty.pair (Ty.int IntKind.i64) (Ty.int IntKind.i64)))), agg := true }, { t := Ty.slice (50 : Nat) (Ty.slice (3 : Nat) (Ty.int IntKind.i64)) }, { t := Ty.slice (89 : Nat) (Ty.pair (Ty.int IntKind.i64) (Ty.pair (Ty.int IntKind.i64) (Ty.int IntKind.i64))) }, { t := Ty.slice (89 : Nat) (Ty.pair (Ty.int IntKind.i64) (Ty.pair (Ty.int IntKind.i64) (Ty.int IntKind.i64))) }]
noncomputable def to_laws_FnExactTellApart (r : Bool) : Tup r_laws_FnExactTellApart × OutD := ((r, ()), none)
noncomputable def of_laws_FnExactTellApart : Tup r_laws_FnExactTellApart × OutD → Option (Bool)
  | (a, none) => some (a.1)
  | _ => none
theorem to_of_laws_FnExactTellApart : ∀ b r, of_laws_FnExactTellApart b = some r → to_laws_FnExactTellApart r = b := by
  rintro ⟨a, o⟩ r h
  cases o with
  | none => injection h with h; subst h; rfl
  | some _ => cases h
noncomputable def f_laws_FnExactTellApart : Nat → Int × Int × List (Int × Int) → List (List Int) → List (Int × Int × Int) → List (Int × Int × Int) → Option Bool
  | 0, _, _, _, _ => none
  | k + 1, p0, p1, p2, p3 =>
    Option.bind (f_laws_szBoard k (Prod.fst p0, Prod.fst (Prod.snd p0), Prod.snd (Prod.snd p0)) (1048576 : Int)) fun z0 => if decide (z0 < (0 : Int)) = true then some true else Option.bind (f_laws_szIntSS k p1 z0) fun z1 => if decide (z1 < (0 : Int)) = true then some true else Option.bind (f_laws_szFaultS k p2 z1) fun z2 => if decide (z2 < (0 : Int)) = true then some true else Option.bind (f_laws_szFaultS k p3 z2) fun z3 => if decide (z3 < (0 : Int)) = true then some true else Option.bind (f_laws_toBoard k (Prod.fst p0, Prod.fst (Prod.snd p0), Prod.snd (Prod.snd p0))) fun z4 => Option.bind (f_laws_toIntSS k p1) fun z5 => Option.bind (f_laws_toFaultS k p2) fun z6 => Option.bind (f_laws_toFaultS k p3) fun z7 => Option.bind (f_spec_TellApart k (Prod.fst z4, Prod.fst (Prod.snd z4), Prod.snd (Prod.snd z4)) z5 z6 z7) fun z8 => Option.bind (f_laws_toBoard k (Prod.fst p0, Prod.fst (Prod.snd p0), Prod.snd (Prod.snd p0))) fun z9 => Option.bind (f_laws_toIntSS k p1) fun z10 => Option.bind (f_laws_toFaultS k p2) fun z11 => Option.bind (f_laws_toFaultS k p3) fun z12 => Option.bind (f_impl_TellApart k (Prod.fst z9, Prod.fst (Prod.snd z9), Prod.snd (Prod.snd z9)) z10 z11 z12) fun z13 => if (!Prod.fst z13 == Prod.fst z8) = true then some false else if (!Prod.snd z13 == Prod.snd z8) = true then some false else Option.bind (f_laws_toBoard k (Prod.fst p0, Prod.fst (Prod.snd p0), Prod.snd (Prod.snd p0))) fun z14 => Option.bind (f_laws_eqBoard k (Prod.fst z9, Prod.fst (Prod.snd z9), Prod.snd (Prod.snd z9)) (Prod.fst z14, Prod.fst (Prod.snd z14), Prod.snd (Prod.snd z14))) fun z15 => if (!z15) = true then some false else Option.bind (f_laws_toIntSS k p1) fun z16 => Option.bind (f_laws_eqIntSS k z10 z16) fun z17 => if (!z17) = true then some false else Option.bind (f_laws_toFaultS k p2) fun z18 => Option.bind (f_laws_eqFaultS k z11 z18) fun z19 => if (!z19) = true then some false else Option.bind (f_laws_toFaultS k p3) fun z20 => Option.bind (f_laws_eqFaultS k z12 z20) fun z21 => if (!z21) = true then some false else some true
noncomputable def d_laws_FnExactTellApart : FnDef := .of q_laws_FnExactTellApart r_laws_FnExactTellApart (Bool) (fun k x => f_laws_FnExactTellApart k x.1 x.2.1 x.2.2.1 x.2.2.2.1) to_laws_FnExactTellApart of_laws_FnExactTellApart to_of_laws_FnExactTellApart
noncomputable def c_laws_FnExactTellApart : Code := Try.f12.body.getD .skip
noncomputable def x_laws_FnExactTellApart : Ctx (Tup r_laws_FnExactTellApart × OutD) := { T := T, G := [(15, d_laws_szBoard.E), (52, d_laws_szIntSS.E), (16, d_laws_szFaultS.E), (18, d_laws_toBoard.E), (54, d_laws_toIntSS.E), (19, d_laws_toFaultS.E), (53, d_spec_TellApart.E), (55, d_impl_TellApart.E), (21, d_laws_eqBoard.E), (56, d_laws_eqIntSS.E), (22, d_laws_eqFaultS.E)], mvs := [], no := 0, n := 94, res := resOf T q_laws_FnExactTellApart r_laws_FnExactTellApart Try.f12.results.toList, loops := [], regs := [], conds := [] }
theorem g_laws_FnExactTellApart (k : Nat) : EnvOK Try.prog k x_laws_FnExactTellApart.G := (EnvOK.cons (s_laws_szBoard k) (EnvOK.cons (s_laws_szIntSS k) (EnvOK.cons (s_laws_szFaultS k) (EnvOK.cons (s_laws_toBoard k) (EnvOK.cons (s_laws_toIntSS k) (EnvOK.cons (s_laws_toFaultS k) (EnvOK.cons (s_spec_TellApart k) (EnvOK.cons (s_impl_TellApart k) (EnvOK.cons (s_laws_eqBoard k) (EnvOK.cons (s_laws_eqIntSS k) (EnvOK.cons (s_laws_eqFaultS k) (EnvOK.nil mixed))))))))))))
theorem h_laws_FnExactTellApart (k : Nat) (x : Tup d_laws_FnExactTellApart.ps) : d_laws_FnExactTellApart.f (k + 1) x = fnK d_laws_FnExactTellApart x_laws_FnExactTellApart c_laws_FnExactTellApart k x := by kernel_rfl
theorem z_laws_FnExactTellApart (x : Tup d_laws_FnExactTellApart.ps) : d_laws_FnExactTellApart.f 0 x = none := by kernel_rfl
theorem l_laws_FnExactTellApart (k : Nat) : LOK Try.prog x_laws_FnExactTellApart k c_laws_FnExactTellApart := LOK.by [] (by kernel_rfl) AllOK.nil
theorem s_laws_FnExactTellApart (k : Nat) : SoundAt Try.prog k 12 d_laws_FnExactTellApart.E := @fn_all Try.prog d_laws_FnExactTellApart x_laws_FnExactTellApart 12 Try.f12 c_laws_FnExactTellApart (by kernel_rfl) (by kernel_rfl) (by kernel_rfl) Try.func12 (by kernel_rfl) (by kernel_rfl) (by kernel_rfl) T_ok g_laws_FnExactTellApart l_laws_FnExactTellApart z_laws_FnExactTellApart h_laws_FnExactTellApart k
/-! function 13 -/
noncomputable def r_laws_FnExactFaultyFalls : List PK := [{ t := Ty.bool }]
noncomputable def q_laws_FnExactFaultyFalls : List PK := [{ t := Ty.pair (Ty.int IntKind.i64) (Ty.pair (Ty.int IntKind.i64) (Ty.slice (128 : Nat) (Ty.pair (Ty.int IntKind.i64) (Ty.int IntKind.i64)))), agg := true }, { t := Ty.slice (89 : Nat) (Ty.pair (Ty.int IntKind.i64) (Ty.pair (Ty.int IntKind.i64) (Ty.int IntKind.i64))) }, { t := Ty.slice (3 : Nat) (Ty.int IntKind.i64) }]
noncomputable def to_laws_FnExactFaultyFalls (r : Bool) : Tup r_laws_FnExactFaultyFalls × OutD := ((r, ()), none)
noncomputable def of_laws_FnExactFaultyFalls : Tup r_laws_FnExactFaultyFalls × OutD → Option (Bool)
  | (a, none) => some (a.1)
  | _ => none
theorem to_of_laws_FnExactFaultyFalls : ∀ b r, of_laws_FnExactFaultyFalls b = some r → to_laws_FnExactFaultyFalls r = b := by
  rintro ⟨a, o⟩ r h
  cases o with
  | none => injection h with h; subst h; rfl
  | some _ => cases h
noncomputable def f_laws_FnExactFaultyFalls : Nat → Int × Int × List (Int × Int) → List (Int × Int × Int) → List Int → Option Bool
  | 0, _, _, _ => none
  | k + 1, p0, p1, p2 =>
    if decide ((↑(List.length p2) : Int) > (1048576 : Int)) = true then some true else Option.bind (f_laws_szBoard k (Prod.fst p0, Prod.fst (Prod.snd p0), Prod.snd (Prod.snd p0)) (1048576 : Int)) fun z0 => if decide (z0 < (0 : Int)) = true then some true else Option.bind (f_laws_szFaultS k p1 z0) fun z1 => if decide (z1 < (0 : Int)) = true then some true else Option.bind (f_laws_toBoard k (Prod.fst p0, Prod.fst (Prod.snd p0), Prod.snd (Prod.snd p0))) fun z2 => Option.bind (f_laws_toFaultS k p1) fun z3 => Option.bind (f_laws_toIntS k p2) fun z4 => Option.bind (f_spec_FaultyFalls k (Prod.fst z2, Prod.fst (Prod.snd z2), Prod.snd (Prod.snd z2)) z3 z4) fun z5 => Option.bind (f_laws_toBoard k (Prod.fst p0, Prod.fst (Prod.snd p0), Prod.snd (Prod.snd p0))) fun z6 => Option.bind (f_laws_toFaultS k p1) fun z7 => Option.bind (f_laws_toIntS k p2) fun z8 => Option.bind (f_impl_FaultyFalls k (Prod.fst z6, Prod.fst (Prod.snd z6), Prod.snd (Prod.snd z6)) z7 z8) fun z9 => Option.bind (f_laws_eqFallS k (Prod.fst z9) (Prod.fst z5)) fun z10 => if (!z10) = true then some false else Option.bind (f_laws_eqBoard k (Prod.fst (Prod.fst (Prod.snd z9)), Prod.fst (Prod.snd (Prod.fst (Prod.snd z9))), Prod.snd (Prod.snd (Prod.fst (Prod.snd z9)))) (Prod.fst (Prod.fst (Prod.snd z5)), Prod.fst (Prod.snd (Prod.fst (Prod.snd z5))), Prod.snd (Prod.snd (Prod.fst (Prod.snd z5))))) fun z11 => if (!z11) = true then some false else if (!Prod.snd (Prod.snd z9) == Prod.snd (Prod.snd z5)) = true then some false else Option.bind (f_laws_toBoard k (Prod.fst p0, Prod.fst (Prod.snd p0), Prod.snd (Prod.snd p0))) fun z12 => Option.bind (f_laws_eqBoard k (Prod.fst z6, Prod.fst (Prod.snd z6), Prod.snd (Prod.snd z6)) (Prod.fst z12, Prod.fst (Prod.snd z12), Prod.snd (Prod.snd z12))) fun z13 => if (!z13) = true then some false else Option.bind (f_laws_toFaultS k p1) fun z14 => Option.bind (f_laws_eqFaultS k z7 z14) fun z15 => if (!z15) = true then some false else Option.bind (f_laws_toIntS k p2) fun z16 => Option.bind (f_laws_eqIntS k z8 z16) fun z17 => if (!z17) = true then some false else Option.bind (f_laws_markBoard k (Prod.fst z6, Prod.fst (Prod.snd z6), Prod.snd (Prod.snd z6)) (1 : Int)) fun z18 => Option.bind (f_laws_markFaultS k z7 (Prod.fst z18)) fun z19 => Option.bind (f_laws_markIntS k z8 (Prod.fst z19)) fun z20 => if decide (Prod.fst z20 < (0 : Int)) = true then some false else Option.bind (f_laws_eqFallS k (Prod.fst z9) (Prod.fst z5)) fun z21 => if (!z21) = true then some false else Option.bind (f_laws_eqBoard k (Prod.fst (Prod.fst (Prod.snd z9)), Prod.fst (Prod.snd (Prod.fst (Prod.snd z9))), Prod.snd (Prod.snd (Prod.fst (Prod.snd z9)))) (Prod.fst (Prod.fst (Prod.snd z5)), Prod.fst (Prod.snd (Prod.fst (Prod.snd z5))), Prod.snd (Prod.snd (Prod.fst (Prod.snd z5))))) fun z22 => if (!z22) = true then some false else if (!Prod.snd (Prod.snd z9) == Prod.snd (Prod.snd z5)) = true then some false else Option.bind (f_laws_markFallS k (Prod.fst z9) (1 : Int)) fun z23 => Option.bind (f_laws_markBoard k (Prod.fst (Prod.fst (Prod.snd z9)), Prod.fst (Prod.snd (Prod.fst (Prod.snd z9))), Prod.snd (Prod.snd (Prod.fst (Prod.snd z9)))) (Prod.fst z23)) fun z24 => Option.bind (f_laws_heldFallS k (Prod.snd z23) (1 : Int)) fun z25 => if decide (z25 < (0 : Int)) = true then some false else Option.bind (f_laws_heldBoard k (Prod.fst (Prod.fst (Prod.snd z9)), Prod.fst (Prod.snd (Prod.fst (Prod.snd z9))), Prod.snd z24) z25) fun z26 => if decide (z26 < (0 : Int)) = true then some false else if decide (z26 ≠ Prod.fst z24) = true then some false else Option.bind (f_laws_toBoard k (Prod.fst p0, Prod.fst (Prod.snd p0), Prod.snd (Prod.snd p0))) fun z27 => Option.bind (f_laws_toFaultS k p1) fun z28 => Option.bind (f_laws_toIntS k p2) fun z29 => Option.bind (f_impl_FaultyFalls k (Prod.fst z27, Prod.fst (Prod.snd z27), Prod.snd (Prod.snd z27)) z28 z29) fun z30 => Option.bind (f_laws_eqFallS k (Prod.fst z30) (Prod.fst z5)) fun z31 => if (!z31) = true then some false else Option.bind (f_laws_eqBoard k (Prod.fst (Prod.fst (Prod.snd z30)), Prod.fst (Prod.snd (Prod.fst (Prod.snd z30))), Prod.snd (Prod.snd (Prod.fst (Prod.snd z30)))) (Prod.fst (Prod.fst (Prod.snd z5)), Prod.fst (Prod.snd (Prod.fst (Prod.snd z5))), Prod.snd (Prod.snd (Prod.fst (Prod.snd z5))))) fun z32 => if (!z32) = true then some false else if (!Prod.snd (Prod.snd z30) == Prod.snd (Prod.snd z5)) = true then some false else Option.bind (f_laws_heldFallS k (Prod.snd z23) (1 : Int)) fun z33 => if decide (z33 < (0 : Int)) = true then some false else Option.bind (f_laws_heldBoard k (Prod.fst (Prod.fst (Prod.snd z9)), Prod.fst (Prod.snd (Prod.fst (Prod.snd z9))), Prod.snd z24) z33) fun z34 => if decide (z34 < (0 : Int)) = true then some false else if decide (z34 ≠ Prod.fst z24) = true then some false else some true
noncomputable def d_laws_FnExactFaultyFalls : FnDef := .of q_laws_FnExactFaultyFalls r_laws_FnExactFaultyFalls (Bool) (fun k x => f_laws_FnExactFaultyFalls k x.1 x.2.1 x.2.2.1) to_laws_FnExactFaultyFalls of_laws_FnExactFaultyFalls to_of_laws_FnExactFaultyFalls
noncomputable def c_laws_FnExactFaultyFalls : Code := Try.f13.body.getD .skip
noncomputable def x_laws_FnExactFaultyFalls : Ctx (Tup r_laws_FnExactFaultyFalls × OutD) := { T := T, G := [(15, d_laws_szBoard.E), (16, d_laws_szFaultS.E), (18, d_laws_toBoard.E), (19, d_laws_toFaultS.E), (33, d_laws_toIntS.E), (57, d_spec_FaultyFalls.E), (58, d_impl_FaultyFalls.E), (37, d_laws_eqFallS.E), (21, d_laws_eqBoard.E), (22, d_laws_eqFaultS.E), (36, d_laws_eqIntS.E), (25, d_laws_markBoard.E), (26, d_laws_markFaultS.E), (38, d_laws_markIntS.E), (39, d_laws_markFallS.E), (59, d_laws_heldFallS.E), (43, d_laws_heldBoard.E)], mvs := [], no := 0, n := 177, res := resOf T q_laws_FnExactFaultyFalls r_laws_FnExactFaultyFalls Try.f13.results.toList, loops := [], regs := [], conds := [] }
theorem g_laws_FnExactFaultyFalls (k : Nat) : EnvOK Try.prog k x_laws_FnExactFaultyFalls.G := (EnvOK.cons (s_laws_szBoard k) (EnvOK.cons (s_laws_szFaultS k) (EnvOK.cons (s_laws_toBoard k) (EnvOK.cons (s_laws_toFaultS k) (EnvOK.cons (s_laws_toIntS k) (EnvOK.cons (s_spec_FaultyFalls k) (EnvOK.cons (s_impl_FaultyFalls k) (EnvOK.cons (s_laws_eqFallS k) (EnvOK.cons (s_laws_eqBoard k) (EnvOK.cons (s_laws_eqFaultS k) (EnvOK.cons (s_laws_eqIntS k) (EnvOK.cons (s_laws_markBoard k) (EnvOK.cons (s_laws_markFaultS k) (EnvOK.cons (s_laws_markIntS k) (EnvOK.cons (s_laws_markFallS k) (EnvOK.cons (s_laws_heldFallS k) (EnvOK.cons (s_laws_heldBoard k) (EnvOK.nil mixed))))))))))))))))))
theorem h_laws_FnExactFaultyFalls (k : Nat) (x : Tup d_laws_FnExactFaultyFalls.ps) : d_laws_FnExactFaultyFalls.f (k + 1) x = fnK d_laws_FnExactFaultyFalls x_laws_FnExactFaultyFalls c_laws_FnExactFaultyFalls k x := by kernel_rfl
theorem z_laws_FnExactFaultyFalls (x : Tup d_laws_FnExactFaultyFalls.ps) : d_laws_FnExactFaultyFalls.f 0 x = none := by kernel_rfl
theorem l_laws_FnExactFaultyFalls (k : Nat) : LOK Try.prog x_laws_FnExactFaultyFalls k c_laws_FnExactFaultyFalls := LOK.by [] (by kernel_rfl) AllOK.nil
theorem s_laws_FnExactFaultyFalls (k : Nat) : SoundAt Try.prog k 13 d_laws_FnExactFaultyFalls.E := @fn_all Try.prog d_laws_FnExactFaultyFalls x_laws_FnExactFaultyFalls 13 Try.f13 c_laws_FnExactFaultyFalls (by kernel_rfl) (by kernel_rfl) (by kernel_rfl) Try.func13 (by kernel_rfl) (by kernel_rfl) (by kernel_rfl) T_ok g_laws_FnExactFaultyFalls l_laws_FnExactFaultyFalls z_laws_FnExactFaultyFalls h_laws_FnExactFaultyFalls k
/-! function 44 -/
noncomputable def r_spec_SeenShare : List PK := [{ t := Ty.int IntKind.i64 }, { t := Ty.int IntKind.i64 }, { t := Ty.bool }]
noncomputable def q_spec_SeenShare : List PK := [{ t := Ty.pair (Ty.int IntKind.i64) (Ty.pair (Ty.int IntKind.i64) (Ty.slice (123 : Nat) (Ty.pair (Ty.int IntKind.i64) (Ty.int IntKind.i64)))), agg := true }, { t := Ty.slice (3 : Nat) (Ty.int IntKind.i64) }]
noncomputable def to_spec_SeenShare (r : Int × Int × Bool) : Tup r_spec_SeenShare × OutD := ((r.1, r.2.1, r.2.2, ()), none)
noncomputable def of_spec_SeenShare : Tup r_spec_SeenShare × OutD → Option (Int × Int × Bool)
  | (a, none) => some (a.1, a.2.1, a.2.2.1)
  | _ => none
theorem to_of_spec_SeenShare : ∀ b r, of_spec_SeenShare b = some r → to_spec_SeenShare r = b := by
  rintro ⟨a, o⟩ r h
  cases o with
  | none => injection h with h; subst h; rfl
  | some _ => cases h
noncomputable def f_spec_SeenShare : Nat → Int × Int × List (Int × Int) → List Int → Option (Int × Int × Bool)
  | 0, _, _ => none
  | k + 1, p0, p1 =>
    Option.bind (f_spec_flColumns k (Prod.fst p0, Prod.fst (Prod.snd p0), Prod.snd (Prod.snd p0)) p1) fun z0 => if (!z0) = true then some ((0 : Int), (0 : Int), false) else Option.bind (f_spec_faPossible k (Prod.fst p0, Prod.fst (Prod.snd p0), Prod.snd (Prod.snd p0))) fun z1 => Option.bind (f_spec_faHidden k (Prod.fst p0, Prod.fst (Prod.snd p0), Prod.snd (Prod.snd p0)) p1) fun z2 => some (wrap64 ((↑(List.length z1) : Int) - (↑(List.length z2) : Int)), (↑(List.length z1) : Int), true)
noncomputable def d_spec_SeenShare : FnDef := .of q_spec_SeenShare r_spec_SeenShare (Int × Int × Bool) (fun k x => f_spec_SeenShare k x.1 x.2.1) to_spec_SeenShare of_spec_SeenShare to_of_spec_SeenShare
noncomputable def c_spec_SeenShare : Code := Try.f44.body.getD .skip
noncomputable def x_spec_SeenShare : Ctx (Tup r_spec_SeenShare × OutD) := { T := T, G := [(87, d_spec_flColumns.E), (71, d_spec_faPossible.E), (88, d_spec_faHidden.E)], mvs := [], no := 0, n := 22, res := resOf T q_spec_SeenShare r_spec_SeenShare Try.f44.results.toList, loops := [], regs := [], conds := [] }
theorem g_spec_SeenShare (k : Nat) : EnvOK Try.prog k x_spec_SeenShare.G := (EnvOK.cons (s_spec_flColumns k) (EnvOK.cons (s_spec_faPossible k) (EnvOK.cons (s_spec_faHidden k) (EnvOK.nil mixed))))
theorem h_spec_SeenShare (k : Nat) (x : Tup d_spec_SeenShare.ps) : d_spec_SeenShare.f (k + 1) x = fnK d_spec_SeenShare x_spec_SeenShare c_spec_SeenShare k x := by kernel_rfl
theorem z_spec_SeenShare (x : Tup d_spec_SeenShare.ps) : d_spec_SeenShare.f 0 x = none := by kernel_rfl
theorem l_spec_SeenShare (k : Nat) : LOK Try.prog x_spec_SeenShare k c_spec_SeenShare := LOK.by [] (by kernel_rfl) AllOK.nil
theorem s_spec_SeenShare (k : Nat) : SoundAt Try.prog k 44 d_spec_SeenShare.E := @fn_all Try.prog d_spec_SeenShare x_spec_SeenShare 44 Try.f44 c_spec_SeenShare (by kernel_rfl) (by kernel_rfl) (by kernel_rfl) Try.func44 (by kernel_rfl) (by kernel_rfl) (by kernel_rfl) T_ok g_spec_SeenShare l_spec_SeenShare z_spec_SeenShare h_spec_SeenShare k
/-! function 45 -/
noncomputable def r_impl_SeenShare : List PK := [{ t := Ty.int IntKind.i64 }, { t := Ty.int IntKind.i64 }, { t := Ty.bool }]
noncomputable def q_impl_SeenShare : List PK := [{ t := Ty.pair (Ty.int IntKind.i64) (Ty.pair (Ty.int IntKind.i64) (Ty.slice (123 : Nat) (Ty.pair (Ty.int IntKind.i64) (Ty.int IntKind.i64)))), agg := true }, { t := Ty.slice (3 : Nat) (Ty.int IntKind.i64) }]
noncomputable def to_impl_SeenShare (r : Int × Int × Bool) : Tup r_impl_SeenShare × OutD := ((r.1, r.2.1, r.2.2, ()), none)
noncomputable def of_impl_SeenShare : Tup r_impl_SeenShare × OutD → Option (Int × Int × Bool)
  | (a, none) => some (a.1, a.2.1, a.2.2.1)
  | _ => none
theorem to_of_impl_SeenShare : ∀ b r, of_impl_SeenShare b = some r → to_impl_SeenShare r = b := by
  rintro ⟨a, o⟩ r h
  cases o with
  | none => injection h with h; subst h; rfl
  | some _ => cases h
noncomputable def f_impl_SeenShare : Nat → Int × Int × List (Int × Int) → List Int → Option (Int × Int × Bool)
  | 0, _, _ => none
  | k + 1, p0, p1 =>
    Option.bind (f_impl_HiddenFaults k (Prod.fst p0, Prod.fst (Prod.snd p0), Prod.snd (Prod.snd p0)) p1) fun z0 => if (!Prod.snd z0) = true then some ((0 : Int), (0 : Int), false) else Option.bind (f_impl_possibleFaults k (Prod.fst p0, Prod.fst (Prod.snd p0), Prod.snd (Prod.snd p0))) fun z1 => some (wrap64 ((↑(List.length z1) : Int) - (↑(List.length (Prod.fst z0)) : Int)), (↑(List.length z1) : Int), true)
noncomputable def d_impl_SeenShare : FnDef := .of q_impl_SeenShare r_impl_SeenShare (Int × Int × Bool) (fun k x => f_impl_SeenShare k x.1 x.2.1) to_impl_SeenShare of_impl_SeenShare to_of_impl_SeenShare
noncomputable def c_impl_SeenShare : Code := Try.f45.body.getD .skip
noncomputable def x_impl_SeenShare : Ctx (Tup r_impl_SeenShare × OutD) := { T := T, G := [(89, d_impl_HiddenFaults.E), (72, d_impl_possibleFaults.E)], mvs := [], no := 0, n := 26, res := resOf T q_impl_SeenShare r_impl_SeenShare Try.f45.results.toList, loops := [], regs := [], conds := [] }
theorem g_impl_SeenShare (k : Nat) : EnvOK Try.prog k x_impl_SeenShare.G := (EnvOK.cons (s_impl_HiddenFaults k) (EnvOK.cons (s_impl_possibleFaults k) (EnvOK.nil mixed)))
theorem h_impl_SeenShare (k : Nat) (x : Tup d_impl_SeenShare.ps) : d_impl_SeenShare.f (k + 1) x = fnK d_impl_SeenShare x_impl_SeenShare c_impl_SeenShare k x := by kernel_rfl
theorem z_impl_SeenShare (x : Tup d_impl_SeenShare.ps) : d_impl_SeenShare.f 0 x = none := by kernel_rfl
theorem l_impl_SeenShare (k : Nat) : LOK Try.prog x_impl_SeenShare k c_impl_SeenShare := LOK.by [] (by kernel_rfl) AllOK.nil
theorem s_impl_SeenShare (k : Nat) : SoundAt Try.prog k 45 d_impl_SeenShare.E := @fn_all Try.prog d_impl_SeenShare x_impl_SeenShare 45 Try.f45 c_impl_SeenShare (by kernel_rfl) (by kernel_rfl) (by kernel_rfl) Try.func45 (by kernel_rfl) (by kernel_rfl) (by kernel_rfl) T_ok g_impl_SeenShare l_impl_SeenShare z_impl_SeenShare h_impl_SeenShare k
/-! function 48 -/
noncomputable def r_spec_LeastCauses : List PK := [{ t := Ty.int IntKind.i64 }, { t := Ty.bool }]
noncomputable def q_spec_LeastCauses : List PK := [{ t := Ty.pair (Ty.int IntKind.i64) (Ty.pair (Ty.int IntKind.i64) (Ty.slice (123 : Nat) (Ty.pair (Ty.int IntKind.i64) (Ty.int IntKind.i64)))), agg := true }, { t := Ty.slice (3 : Nat) (Ty.int IntKind.i64) }, { t := Ty.slice (45 : Nat) (Ty.pair (Ty.int IntKind.i64) (Ty.pair (Ty.int IntKind.i64) (Ty.int IntKind.i64))) }]
noncomputable def to_spec_LeastCauses (r : Int × Bool) : Tup r_spec_LeastCauses × OutD := ((r.1, r.2, ()), none)
noncomputable def of_spec_LeastCauses : Tup r_spec_LeastCauses × OutD → Option (Int × Bool)
  | (a, none) => some (a.1, a.2.1)
  | _ => none
theorem to_of_spec_LeastCauses : ∀ b r, of_spec_LeastCauses b = some r → to_spec_LeastCauses r = b := by
  rintro ⟨a, o⟩ r h
  cases o with
  | none => injection h with h; subst h; rfl
  | some _ => cases h
noncomputable def f_spec_LeastCauses : Nat → Int × Int × List (Int × Int) → List Int → List (Int × Int × Int) → Option (Int × Bool)
  | 0, _, _, _ => none
  | k + 1, p0, p1, p2 =>
    Option.bind (f_spec_dgGood k (Prod.fst p0, Prod.fst (Prod.snd p0), Prod.snd (Prod.snd p0)) p1 p2) fun z0 => if (!z0) = true then some ((0 : Int), false) else Option.bind (f_spec_dgExplains k (Prod.fst p0, Prod.fst (Prod.snd p0), Prod.snd (Prod.snd p0)) [] p1 p2) fun z1 => if z1 = true then some ((0 : Int), true) else Option.bind (f_spec_dgSingle k (Prod.fst p0, Prod.fst (Prod.snd p0), Prod.snd (Prod.snd p0)) p1 p2) fun z2 => if decide ((↑(List.length z2) : Int) > (0 : Int)) = true then some ((1 : Int), true) else Option.bind (f_spec_dgPairs k (Prod.fst p0, Prod.fst (Prod.snd p0), Prod.snd (Prod.snd p0)) p1 p2) fun z3 => if decide ((↑(List.length z3) : Int) > (0 : Int)) = true then some ((2 : Int), true) else some ((0 : Int), false)
noncomputable def d_spec_LeastCauses : FnDef := .of q_spec_LeastCauses r_spec_LeastCauses (Int × Bool) (fun k x => f_spec_LeastCauses k x.1 x.2.1 x.2.2.1) to_spec_LeastCauses of_spec_LeastCauses to_of_spec_LeastCauses
noncomputable def c_spec_LeastCauses : Code := Try.f48.body.getD .skip
noncomputable def x_spec_LeastCauses : Ctx (Tup r_spec_LeastCauses × OutD) := { T := T, G := [(81, d_spec_dgGood.E), (90, d_spec_dgExplains.E), (92, d_spec_dgSingle.E), (93, d_spec_dgPairs.E)], mvs := [], no := 0, n := 32, res := resOf T q_spec_LeastCauses r_spec_LeastCauses Try.f48.results.toList, loops := [], regs := [], conds := [] }
theorem g_spec_LeastCauses (k : Nat) : EnvOK Try.prog k x_spec_LeastCauses.G := (EnvOK.cons (s_spec_dgGood k) (EnvOK.cons (s_spec_dgExplains k) (EnvOK.cons (s_spec_dgSingle k) (EnvOK.cons (s_spec_dgPairs k) (EnvOK.nil mixed)))))
theorem h_spec_LeastCauses (k : Nat) (x : Tup d_spec_LeastCauses.ps) : d_spec_LeastCauses.f (k + 1) x = fnK d_spec_LeastCauses x_spec_LeastCauses c_spec_LeastCauses k x := by kernel_rfl
theorem z_spec_LeastCauses (x : Tup d_spec_LeastCauses.ps) : d_spec_LeastCauses.f 0 x = none := by kernel_rfl
theorem l_spec_LeastCauses (k : Nat) : LOK Try.prog x_spec_LeastCauses k c_spec_LeastCauses := LOK.by [] (by kernel_rfl) AllOK.nil
theorem s_spec_LeastCauses (k : Nat) : SoundAt Try.prog k 48 d_spec_LeastCauses.E := @fn_all Try.prog d_spec_LeastCauses x_spec_LeastCauses 48 Try.f48 c_spec_LeastCauses (by kernel_rfl) (by kernel_rfl) (by kernel_rfl) Try.func48 (by kernel_rfl) (by kernel_rfl) (by kernel_rfl) T_ok g_spec_LeastCauses l_spec_LeastCauses z_spec_LeastCauses h_spec_LeastCauses k
/-! function 49 -/
noncomputable def r_impl_LeastCauses : List PK := [{ t := Ty.int IntKind.i64 }, { t := Ty.bool }]
noncomputable def q_impl_LeastCauses : List PK := [{ t := Ty.pair (Ty.int IntKind.i64) (Ty.pair (Ty.int IntKind.i64) (Ty.slice (123 : Nat) (Ty.pair (Ty.int IntKind.i64) (Ty.int IntKind.i64)))), agg := true }, { t := Ty.slice (3 : Nat) (Ty.int IntKind.i64) }, { t := Ty.slice (45 : Nat) (Ty.pair (Ty.int IntKind.i64) (Ty.pair (Ty.int IntKind.i64) (Ty.int IntKind.i64))) }]
noncomputable def to_impl_LeastCauses (r : Int × Bool) : Tup r_impl_LeastCauses × OutD := ((r.1, r.2, ()), none)
noncomputable def of_impl_LeastCauses : Tup r_impl_LeastCauses × OutD → Option (Int × Bool)
  | (a, none) => some (a.1, a.2.1)
  | _ => none
theorem to_of_impl_LeastCauses : ∀ b r, of_impl_LeastCauses b = some r → to_impl_LeastCauses r = b := by
  rintro ⟨a, o⟩ r h
  cases o with
  | none => injection h with h; subst h; rfl
  | some _ => cases h
noncomputable def f_impl_LeastCauses : Nat → Int × Int × List (Int × Int) → List Int → List (Int × Int × Int) → Option (Int × Bool)
  | 0, _, _, _ => none
  | k + 1, p0, p1, p2 =>
    Option.bind (f_impl_isSeen k (Prod.fst p0, Prod.fst (Prod.snd p0), Prod.snd (Prod.snd p0)) p1 p2) fun z0 => if (!z0) = true then some ((0 : Int), false) else Option.bind (f_impl_explainsEnds k (Prod.fst p0, Prod.fst (Prod.snd p0), Prod.snd (Prod.snd p0)) [] p1 p2) fun z1 => if z1 = true then some ((0 : Int), true) else Option.bind (f_impl_singleCauses k (Prod.fst p0, Prod.fst (Prod.snd p0), Prod.snd (Prod.snd p0)) p1 p2) fun z2 => if decide ((↑(List.length z2) : Int) > (0 : Int)) = true then some ((1 : Int), true) else Option.bind (f_impl_pairCauses k (Prod.fst p0, Prod.fst (Prod.snd p0), Prod.snd (Prod.snd p0)) p1 p2) fun z3 => if decide ((↑(List.length z3) : Int) > (0 : Int)) = true then some ((2 : Int), true) else some ((0 : Int), false)
noncomputable def d_impl_LeastCauses : FnDef := .of q_impl_LeastCauses r_impl_LeastCauses (Int × Bool) (fun k x => f_impl_LeastCauses k x.1 x.2.1 x.2.2.1) to_impl_LeastCauses of_impl_LeastCauses to_of_impl_LeastCauses
noncomputable def c_impl_LeastCauses : Code := Try.f49.body.getD .skip
noncomputable def x_impl_LeastCauses : Ctx (Tup r_impl_LeastCauses × OutD) := { T := T, G := [(84, d_impl_isSeen.E), (91, d_impl_explainsEnds.E), (94, d_impl_singleCauses.E), (95, d_impl_pairCauses.E)], mvs := [], no := 0, n := 32, res := resOf T q_impl_LeastCauses r_impl_LeastCauses Try.f49.results.toList, loops := [], regs := [], conds := [] }
theorem g_impl_LeastCauses (k : Nat) : EnvOK Try.prog k x_impl_LeastCauses.G := (EnvOK.cons (s_impl_isSeen k) (EnvOK.cons (s_impl_explainsEnds k) (EnvOK.cons (s_impl_singleCauses k) (EnvOK.cons (s_impl_pairCauses k) (EnvOK.nil mixed)))))
theorem h_impl_LeastCauses (k : Nat) (x : Tup d_impl_LeastCauses.ps) : d_impl_LeastCauses.f (k + 1) x = fnK d_impl_LeastCauses x_impl_LeastCauses c_impl_LeastCauses k x := by kernel_rfl
theorem z_impl_LeastCauses (x : Tup d_impl_LeastCauses.ps) : d_impl_LeastCauses.f 0 x = none := by kernel_rfl
theorem l_impl_LeastCauses (k : Nat) : LOK Try.prog x_impl_LeastCauses k c_impl_LeastCauses := LOK.by [] (by kernel_rfl) AllOK.nil
theorem s_impl_LeastCauses (k : Nat) : SoundAt Try.prog k 49 d_impl_LeastCauses.E := @fn_all Try.prog d_impl_LeastCauses x_impl_LeastCauses 49 Try.f49 c_impl_LeastCauses (by kernel_rfl) (by kernel_rfl) (by kernel_rfl) Try.func49 (by kernel_rfl) (by kernel_rfl) (by kernel_rfl) T_ok g_impl_LeastCauses l_impl_LeastCauses z_impl_LeastCauses h_impl_LeastCauses k
/-! function 61 -/
noncomputable def r_impl_SuspectCells : List PK := [{ t := Ty.slice (3 : Nat) (Ty.int IntKind.i64) }, { t := Ty.bool }]
noncomputable def q_impl_SuspectCells : List PK := [{ t := Ty.pair (Ty.int IntKind.i64) (Ty.pair (Ty.int IntKind.i64) (Ty.slice (123 : Nat) (Ty.pair (Ty.int IntKind.i64) (Ty.int IntKind.i64)))), agg := true }, { t := Ty.slice (3 : Nat) (Ty.int IntKind.i64) }, { t := Ty.slice (45 : Nat) (Ty.pair (Ty.int IntKind.i64) (Ty.pair (Ty.int IntKind.i64) (Ty.int IntKind.i64))) }]
noncomputable def to_impl_SuspectCells (r : List Int × Bool) : Tup r_impl_SuspectCells × OutD := ((r.1, r.2, ()), none)
noncomputable def of_impl_SuspectCells : Tup r_impl_SuspectCells × OutD → Option (List Int × Bool)
  | (a, none) => some (a.1, a.2.1)
  | _ => none
theorem to_of_impl_SuspectCells : ∀ b r, of_impl_SuspectCells b = some r → to_impl_SuspectCells r = b := by
  rintro ⟨a, o⟩ r h
  cases o with
  | none => injection h with h; subst h; rfl
  | some _ => cases h
noncomputable def f_impl_SuspectCells : Nat → Int × Int × List (Int × Int) → List Int → List (Int × Int × Int) → Option (List Int × Bool)
  | 0, _, _, _ => none
  | k + 1, p0, p1, p2 =>
    Option.bind (f_impl_isSeen k (Prod.fst p0, Prod.fst (Prod.snd p0), Prod.snd (Prod.snd p0)) p1 p2) fun z0 => if (!z0) = true then some ([], false) else Option.bind (f_impl_singleCauses k (Prod.fst p0, Prod.fst (Prod.snd p0), Prod.snd (Prod.snd p0)) p1 p2) fun z1 => Option.bind (f_impl_cellsWith k (Prod.fst p0, Prod.fst (Prod.snd p0), Prod.snd (Prod.snd p0)) z1 true) fun z2 => some (z2, true)
noncomputable def d_impl_SuspectCells : FnDef := .of q_impl_SuspectCells r_impl_SuspectCells (List Int × Bool) (fun k x => f_impl_SuspectCells k x.1 x.2.1 x.2.2.1) to_impl_SuspectCells of_impl_SuspectCells to_of_impl_SuspectCells
noncomputable def c_impl_SuspectCells : Code := Try.f61.body.getD .skip
noncomputable def x_impl_SuspectCells : Ctx (Tup r_impl_SuspectCells × OutD) := { T := T, G := [(84, d_impl_isSeen.E), (94, d_impl_singleCauses.E), (109, d_impl_cellsWith.E)], mvs := [], no := 0, n := 19, res := resOf T q_impl_SuspectCells r_impl_SuspectCells Try.f61.results.toList, loops := [], regs := [], conds := [] }
theorem g_impl_SuspectCells (k : Nat) : EnvOK Try.prog k x_impl_SuspectCells.G := (EnvOK.cons (s_impl_isSeen k) (EnvOK.cons (s_impl_singleCauses k) (EnvOK.cons (s_impl_cellsWith k) (EnvOK.nil mixed))))
theorem h_impl_SuspectCells (k : Nat) (x : Tup d_impl_SuspectCells.ps) : d_impl_SuspectCells.f (k + 1) x = fnK d_impl_SuspectCells x_impl_SuspectCells c_impl_SuspectCells k x := by kernel_rfl
theorem z_impl_SuspectCells (x : Tup d_impl_SuspectCells.ps) : d_impl_SuspectCells.f 0 x = none := by kernel_rfl
theorem l_impl_SuspectCells (k : Nat) : LOK Try.prog x_impl_SuspectCells k c_impl_SuspectCells := LOK.by [] (by kernel_rfl) AllOK.nil
theorem s_impl_SuspectCells (k : Nat) : SoundAt Try.prog k 61 d_impl_SuspectCells.E := @fn_all Try.prog d_impl_SuspectCells x_impl_SuspectCells 61 Try.f61 c_impl_SuspectCells (by kernel_rfl) (by kernel_rfl) (by kernel_rfl) Try.func61 (by kernel_rfl) (by kernel_rfl) (by kernel_rfl) T_ok g_impl_SuspectCells l_impl_SuspectCells z_impl_SuspectCells h_impl_SuspectCells k
end
end Go.Proofs.Ytkefbmaagdaodaa.Vs
