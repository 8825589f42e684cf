/- Functions of the program by plain functions, each with its contract. -/
import Derived.Test.YtkefbmaagdaodaaVsT
import Derived.Test.YtkefbmaagdaodaaVg0
import Derived.Test.YtkefbmaagdaodaaVg1
import Derived.Test.YtkefbmaagdaodaaVg2
import Derived.Test.YtkefbmaagdaodaaVg3
import Derived.Test.YtkefbmaagdaodaaVg4
import Derived.Test.YtkefbmaagdaodaaVg5
import Derived.Test.YtkefbmaagdaodaaVg6
set_option maxRecDepth 100000
set_option linter.unusedVariables false
set_option linter.unusedSimpArgs false
namespace Go.Proofs.Ytkefbmaagdaodaa.Vs
open Go.RowKit
noncomputable section
/-! function 8 -/
noncomputable def r_laws_FnExactSeenShare : List PK := [{ t := Ty.bool }]
noncomputable def q_laws_FnExactSeenShare : List PK := [{ t := Ty.pair (Ty.int IntKind.i64) (Ty.pair (Ty.int IntKind.i64) (Ty.slice (128 : Nat) (Ty.pair (Ty.int IntKind.i64) (Ty.int IntKind.i64)))), agg := true }, { t := Ty.slice (3 : Nat) (Ty.int IntKind.i64) }]
noncomputable def to_laws_FnExactSeenShare (r : Bool) : Tup r_laws_FnExactSeenShare × OutD := ((r, ()), none)
noncomputable def of_laws_FnExactSeenShare : Tup r_laws_FnExactSeenShare × OutD → Option (Bool)
  | (a, none) => some (a.1)
  | _ => none
theorem to_of_laws_FnExactSeenShare : ∀ b r, of_laws_FnExactSeenShare b = some r → to_laws_FnExactSeenShare r = b := by
  rintro ⟨a, o⟩ r h
  cases o with
  | none => injection h with h; subst h; rfl
  | some _ => cases h
noncomputable def f_laws_FnExactSeenShare : Nat → Int × Int × List (Int × Int) → List Int → Option Bool
  | 0, _, _ => none
  | k + 1, p0, p1 =>
    if decide ((↑(List.length p1) : Int) > (1048576 : Int)) = true then some true else Option.bind (f_laws_szBoard k (Prod.fst p0, Prod.fst (Prod.snd p0), Prod.snd (Prod.snd p0)) (1048576 : Int)) fun z0 => if decide (z0 < (0 : Int)) = true then some true else Option.bind (f_laws_toBoard k (Prod.fst p0, Prod.fst (Prod.snd p0), Prod.snd (Prod.snd p0))) fun z1 => Option.bind (f_laws_toIntS k p1) fun z2 => Option.bind (f_spec_SeenShare k (Prod.fst z1, Prod.fst (Prod.snd z1), Prod.snd (Prod.snd z1)) z2) fun z3 => Option.bind (f_laws_toBoard k (Prod.fst p0, Prod.fst (Prod.snd p0), Prod.snd (Prod.snd p0))) fun z4 => Option.bind (f_laws_toIntS k p1) fun z5 => Option.bind (f_impl_SeenShare k (Prod.fst z4, Prod.fst (Prod.snd z4), Prod.snd (Prod.snd z4)) z5) fun z6 => if decide (Prod.fst z6 ≠ Prod.fst z3) = true then some false else if decide (Prod.fst (Prod.snd z6) ≠ Prod.fst (Prod.snd z3)) = true then some false else if (!Prod.snd (Prod.snd z6) == Prod.snd (Prod.snd z3)) = true then some false else Option.bind (f_laws_toBoard k (Prod.fst p0, Prod.fst (Prod.snd p0), Prod.snd (Prod.snd p0))) fun z7 => Option.bind (f_laws_eqBoard k (Prod.fst z4, Prod.fst (Prod.snd z4), Prod.snd (Prod.snd z4)) (Prod.fst z7, Prod.fst (Prod.snd z7), Prod.snd (Prod.snd z7))) fun z8 => if (!z8) = true then some false else Option.bind (f_laws_toIntS k p1) fun z9 => Option.bind (f_laws_eqIntS k z5 z9) fun z10 => if (!z10) = true then some false else some true
noncomputable def d_laws_FnExactSeenShare : FnDef := .of q_laws_FnExactSeenShare r_laws_FnExactSeenShare (Bool) (fun k x => f_laws_FnExactSeenShare k x.1 x.2.1) to_laws_FnExactSeenShare of_laws_FnExactSeenShare to_of_laws_FnExactSeenShare
noncomputable def c_laws_FnExactSeenShare : Code := Try.f8.body.getD .skip
noncomputable def x_laws_FnExactSeenShare : Ctx (Tup r_laws_FnExactSeenShare × OutD) := { T := T, G := [(15, d_laws_szBoard.E), (18, d_laws_toBoard.E), (33, d_laws_toIntS.E), (44, d_spec_SeenShare.E), (45, d_impl_SeenShare.E), (21, d_laws_eqBoard.E), (36, d_laws_eqIntS.E)], mvs := [], no := 0, n := 65, res := resOf T q_laws_FnExactSeenShare r_laws_FnExactSeenShare Try.f8.results.toList, loops := [], regs := [], conds := [] }
theorem g_laws_FnExactSeenShare (k : Nat) : EnvOK Try.prog k x_laws_FnExactSeenShare.G := (EnvOK.cons (s_laws_szBoard k) (EnvOK.cons (s_laws_toBoard k) (EnvOK.cons (s_laws_toIntS k) (EnvOK.cons (s_spec_SeenShare k) (EnvOK.cons (s_impl_SeenShare k) (EnvOK.cons (s_laws_eqBoard k) (EnvOK.cons (s_laws_eqIntS k) (EnvOK.nil mixed))))))))
theorem h_laws_FnExactSeenShare (k : Nat) (x : Tup d_laws_FnExactSeenShare.ps) : d_laws_FnExactSeenShare.f (k + 1) x = fnK d_laws_FnExactSeenShare x_laws_FnExactSeenShare c_laws_FnExactSeenShare k x := by kernel_rfl
theorem z_laws_FnExactSeenShare (x : Tup d_laws_FnExactSeenShare.ps) : d_laws_FnExactSeenShare.f 0 x = none := by kernel_rfl
theorem l_laws_FnExactSeenShare (k : Nat) : LOK Try.prog x_laws_FnExactSeenShare k c_laws_FnExactSeenShare := LOK.by [] (by kernel_rfl) AllOK.nil
theorem s_laws_FnExactSeenShare (k : Nat) : SoundAt Try.prog k 8 d_laws_FnExactSeenShare.E := @fn_all Try.prog d_laws_FnExactSeenShare x_laws_FnExactSeenShare 8 Try.f8 c_laws_FnExactSeenShare (by kernel_rfl) (by kernel_rfl) (by kernel_rfl) Try.func8 (by kernel_rfl) (by kernel_rfl) (by kernel_rfl) T_ok g_laws_FnExactSeenShare l_laws_FnExactSeenShare z_laws_FnExactSeenShare h_laws_FnExactSeenShare k
/-! function 10 -/
noncomputable def r_laws_FnExactLeastCauses : List PK := [{ t := Ty.bool }]
noncomputable def q_laws_FnExactLeastCauses : List PK := [{ t := Ty.pair (Ty.int IntKind.i64) (Ty.pair (Ty.int IntKind.i64) (Ty.slice (128 : Nat) (Ty.pair (Ty.int IntKind.i64) (Ty.int IntKind.i64)))), agg := true }, { t := Ty.slice (3 : Nat) (Ty.int IntKind.i64) }, { t := Ty.slice (106 : Nat) (Ty.pair (Ty.int IntKind.i64) (Ty.pair (Ty.int IntKind.i64) (Ty.int IntKind.i64))) }]
noncomputable def to_laws_FnExactLeastCauses (r : Bool) : Tup r_laws_FnExactLeastCauses × OutD := ((r, ()), none)
noncomputable def of_laws_FnExactLeastCauses : Tup r_laws_FnExactLeastCauses × OutD → Option (Bool)
  | (a, none) => some (a.1)
  | _ => none
theorem to_of_laws_FnExactLeastCauses : ∀ b r, of_laws_FnExactLeastCauses b = some r → to_laws_FnExactLeastCauses r = b := by
  rintro ⟨a, o⟩ r h
  cases o with
  | none => injection h with h; subst h; rfl
  | some _ => cases h
noncomputable def f_laws_FnExactLeastCauses : Nat → Int × Int × List (Int × Int) → List Int → List (Int × Int × Int) → Option Bool
  | 0, _, _, _ => none
  | k + 1, p0, p1, p2 =>
    if decide ((↑(List.length p1) : Int) > (1048576 : Int)) = true then some true else Option.bind (f_laws_szBoard k (Prod.fst p0, Prod.fst (Prod.snd p0), Prod.snd (Prod.snd p0)) (1048576 : Int)) fun z0 => if decide (z0 < (0 : Int)) = true then some true else Option.bind (f_laws_szFallS k p2 z0) fun z1 => if decide (z1 < (0 : Int)) = true then some true else Option.bind (f_laws_toBoard k (Prod.fst p0, Prod.fst (Prod.snd p0), Prod.snd (Prod.snd p0))) fun z2 => Option.bind (f_laws_toIntS k p1) fun z3 => Option.bind (f_laws_toFallS k p2) fun z4 => Option.bind (f_spec_LeastCauses k (Prod.fst z2, Prod.fst (Prod.snd z2), Prod.snd (Prod.snd z2)) z3 z4) fun z5 => Option.bind (f_laws_toBoard k (Prod.fst p0, Prod.fst (Prod.snd p0), Prod.snd (Prod.snd p0))) fun z6 => Option.bind (f_laws_toIntS k p1) fun z7 => Option.bind (f_laws_toFallS k p2) fun z8 => Option.bind (f_impl_LeastCauses k (Prod.fst z6, Prod.fst (Prod.snd z6), Prod.snd (Prod.snd z6)) z7 z8) fun z9 => if decide (Prod.fst z9 ≠ Prod.fst z5) = true then some false else if (!Prod.snd z9 == Prod.snd z5) = true then some false else Option.bind (f_laws_toBoard k (Prod.fst p0, Prod.fst (Prod.snd p0), Prod.snd (Prod.snd p0))) fun z10 => Option.bind (f_laws_eqBoard k (Prod.fst z6, Prod.fst (Prod.snd z6), Prod.snd (Prod.snd z6)) (Prod.fst z10, Prod.fst (Prod.snd z10), Prod.snd (Prod.snd z10))) fun z11 => if (!z11) = true then some false else Option.bind (f_laws_toIntS k p1) fun z12 => Option.bind (f_laws_eqIntS k z7 z12) fun z13 => if (!z13) = true then some false else Option.bind (f_laws_toFallS k p2) fun z14 => Option.bind (f_laws_eqFallS k z8 z14) fun z15 => if (!z15) = true then some false else some true
noncomputable def d_laws_FnExactLeastCauses : FnDef := .of q_laws_FnExactLeastCauses r_laws_FnExactLeastCauses (Bool) (fun k x => f_laws_FnExactLeastCauses k x.1 x.2.1 x.2.2.1) to_laws_FnExactLeastCauses of_laws_FnExactLeastCauses to_of_laws_FnExactLeastCauses
noncomputable def c_laws_FnExactLeastCauses : Code := Try.f10.body.getD .skip
noncomputable def x_laws_FnExactLeastCauses : Ctx (Tup r_laws_FnExactLeastCauses × OutD) := { T := T, G := [(15, d_laws_szBoard.E), (31, d_laws_szFallS.E), (18, d_laws_toBoard.E), (33, d_laws_toIntS.E), (34, d_laws_toFallS.E), (48, d_spec_LeastCauses.E), (49, d_impl_LeastCauses.E), (21, d_laws_eqBoard.E), (36, d_laws_eqIntS.E), (37, d_laws_eqFallS.E)], mvs := [], no := 0, n := 74, res := resOf T q_laws_FnExactLeastCauses r_laws_FnExactLeastCauses Try.f10.results.toList, loops := [], regs := [], conds := [] }
theorem g_laws_FnExactLeastCauses (k : Nat) : EnvOK Try.prog k x_laws_FnExactLeastCauses.G := (EnvOK.cons (s_laws_szBoard k) (EnvOK.cons (s_laws_szFallS k) (EnvOK.cons (s_laws_toBoard k) (EnvOK.cons (s_laws_toIntS k) (EnvOK.cons (s_laws_toFallS k) (EnvOK.cons (s_spec_LeastCauses k) (EnvOK.cons (s_impl_LeastCauses k) (EnvOK.cons (s_laws_eqBoard k) (EnvOK.cons (s_laws_eqIntS k) (EnvOK.cons (s_laws_eqFallS k) (EnvOK.nil mixed)))))))))))
theorem h_laws_FnExactLeastCauses (k : Nat) (x : Tup d_laws_FnExactLeastCauses.ps) : d_laws_FnExactLeastCauses.f (k + 1) x = fnK d_laws_FnExactLeastCauses x_laws_FnExactLeastCauses c_laws_FnExactLeastCauses k x := by kernel_rfl
theorem z_laws_FnExactLeastCauses (x : Tup d_laws_FnExactLeastCauses.ps) : d_laws_FnExactLeastCauses.f 0 x = none := by kernel_rfl
theorem l_laws_FnExactLeastCauses (k : Nat) : LOK Try.prog x_laws_FnExactLeastCauses k c_laws_FnExactLeastCauses := LOK.by [] (by kernel_rfl) AllOK.nil
theorem s_laws_FnExactLeastCauses (k : Nat) : SoundAt Try.prog k 10 d_laws_FnExactLeastCauses.E := @fn_all Try.prog d_laws_FnExactLeastCauses x_laws_FnExactLeastCauses 10 Try.f10 c_laws_FnExactLeastCauses (by kernel_rfl) (by kernel_rfl) (by kernel_rfl) Try.func10 (by kernel_rfl) (by kernel_rfl) (by kernel_rfl) T_ok g_laws_FnExactLeastCauses l_laws_FnExactLeastCauses z_laws_FnExactLeastCauses h_laws_FnExactLeastCauses k
end
end Go.Proofs.Ytkefbmaagdaodaa.Vs
