/- Functions of the program by plain functions, each with its contract. -/
import Derived.Test.YtkefbmaagdaodaaVsT
import Derived.Test.YtkefbmaagdaodaaVf0
import Derived.Test.YtkefbmaagdaodaaVf1
import Derived.Test.YtkefbmaagdaodaaVf2
import Derived.Test.YtkefbmaagdaodaaVf3
import Derived.Test.YtkefbmaagdaodaaVf4
import Derived.Test.YtkefbmaagdaodaaVf5
set_option maxRecDepth 100000
set_option linter.unusedVariables false
namespace Go.Proofs.Ytkefbmaagdaodaa.Vs
open Go.RowKit
noncomputable section
/-! function 3 -/
noncomputable def r_laws_FnExactAreFaults : List PK := [{ t := Ty.bool }]
noncomputable def q_laws_FnExactAreFaults : List PK := [{ t := Ty.pair (Ty.int IntKind.i64) (Ty.pair (Ty.int IntKind.i64) (Ty.slice 128 (Ty.pair (Ty.int IntKind.i64) (Ty.int IntKind.i64)))), agg := true }, { t := Ty.slice 89 (Ty.pair (Ty.int IntKind.i64) (Ty.pair (Ty.int IntKind.i64) (Ty.int IntKind.i64))) }]
noncomputable def to_laws_FnExactAreFaults (r : Bool) : Tup r_laws_FnExactAreFaults × OutD := ((r, ()), none)
noncomputable def of_laws_FnExactAreFaults : Tup r_laws_FnExactAreFaults × OutD → Option (Bool)
  | (a, none) => some (a.1)
  | _ => none
theorem to_of_laws_FnExactAreFaults : ∀ b r, of_laws_FnExactAreFaults b = some r → to_laws_FnExactAreFaults r = b := by
  rintro ⟨a, o⟩ r h
  cases o with
  | none => injection h with h; subst h; rfl
  | some _ => cases h
noncomputable def f_laws_FnExactAreFaults : Nat → Int × Int × List (Int × Int) → List (Int × Int × Int) → Option Bool
  | 0, _, _ => none
  | k + 1, p0, p1 =>
    Option.bind (f_laws_szBoard k (Prod.fst p0, Prod.fst (Prod.snd p0), Prod.snd (Prod.snd p0)) 1048576) fun z0 => if decide (z0 < 0) = true then some true else Option.bind (f_laws_szFaultS k p1 z0) fun z1 => if decide (z1 < 0) = true then some true else Option.bind (f_laws_toBoard k (Prod.fst p0, Prod.fst (Prod.snd p0), Prod.snd (Prod.snd p0))) fun z2 => Option.bind (f_laws_toFaultS k p1) fun z3 => Option.bind (f_spec_AreFaults k (Prod.fst z2, Prod.fst (Prod.snd z2), Prod.snd (Prod.snd z2)) z3) fun z4 => Option.bind (f_laws_toBoard k (Prod.fst p0, Prod.fst (Prod.snd p0), Prod.snd (Prod.snd p0))) fun z5 => Option.bind (f_laws_toFaultS k p1) fun z6 => Option.bind (f_impl_AreFaults k (Prod.fst z5, Prod.fst (Prod.snd z5), Prod.snd (Prod.snd z5)) z6) fun z7 => if (!Prod.fst z7 == Prod.fst z4) = true then some false else if (!Prod.snd z7 == Prod.snd z4) = true then some false else Option.bind (f_laws_toBoard k (Prod.fst p0, Prod.fst (Prod.snd p0), Prod.snd (Prod.snd p0))) fun z8 => Option.bind (f_laws_eqBoard k (Prod.fst z5, Prod.fst (Prod.snd z5), Prod.snd (Prod.snd z5)) (Prod.fst z8, Prod.fst (Prod.snd z8), Prod.snd (Prod.snd z8))) fun z9 => if (!z9) = true then some false else Option.bind (f_laws_toFaultS k p1) fun z10 => Option.bind (f_laws_eqFaultS k z6 z10) fun z11 => if (!z11) = true then some false else some true
noncomputable def d_laws_FnExactAreFaults : FnDef := .of q_laws_FnExactAreFaults r_laws_FnExactAreFaults (Bool) (fun k x => f_laws_FnExactAreFaults k x.1 x.2.1) to_laws_FnExactAreFaults of_laws_FnExactAreFaults to_of_laws_FnExactAreFaults
noncomputable def c_laws_FnExactAreFaults : Code := Try.f3.body.getD .skip
noncomputable def x_laws_FnExactAreFaults : Ctx (Tup r_laws_FnExactAreFaults × OutD) := { T := T, G := [(15, d_laws_szBoard.E), (16, d_laws_szFaultS.E), (18, d_laws_toBoard.E), (19, d_laws_toFaultS.E), (17, d_spec_AreFaults.E), (20, d_impl_AreFaults.E), (21, d_laws_eqBoard.E), (22, d_laws_eqFaultS.E)], mvs := [], no := 0, n := 58, res := resOf T q_laws_FnExactAreFaults r_laws_FnExactAreFaults Try.f3.results.toList, loops := [] }
theorem g_laws_FnExactAreFaults (k : Nat) : EnvOK Try.prog k x_laws_FnExactAreFaults.G := (EnvOK.cons (s_laws_szBoard k) (EnvOK.cons (s_laws_szFaultS k) (EnvOK.cons (s_laws_toBoard k) (EnvOK.cons (s_laws_toFaultS k) (EnvOK.cons (s_spec_AreFaults k) (EnvOK.cons (s_impl_AreFaults k) (EnvOK.cons (s_laws_eqBoard k) (EnvOK.cons (s_laws_eqFaultS k) (EnvOK.nil mixed)))))))))
theorem h_laws_FnExactAreFaults (k : Nat) (x : Tup d_laws_FnExactAreFaults.ps) : d_laws_FnExactAreFaults.f (k + 1) x = fnK d_laws_FnExactAreFaults x_laws_FnExactAreFaults c_laws_FnExactAreFaults k x := by kernel_rfl
theorem z_laws_FnExactAreFaults (x : Tup d_laws_FnExactAreFaults.ps) : d_laws_FnExactAreFaults.f 0 x = none := by kernel_rfl
theorem l_laws_FnExactAreFaults (k : Nat) : LOK Try.prog x_laws_FnExactAreFaults k c_laws_FnExactAreFaults := LOK.by [] (by kernel_rfl) AllOK.nil
theorem s_laws_FnExactAreFaults (k : Nat) : SoundAt Try.prog k 3 d_laws_FnExactAreFaults.E := @fn_all Try.prog d_laws_FnExactAreFaults x_laws_FnExactAreFaults 3 Try.f3 c_laws_FnExactAreFaults (by kernel_rfl) (by kernel_rfl) (by kernel_rfl) Try.func3 (by kernel_rfl) (by kernel_rfl) (by kernel_rfl) T_ok g_laws_FnExactAreFaults l_laws_FnExactAreFaults z_laws_FnExactAreFaults h_laws_FnExactAreFaults k
end
end Go.Proofs.Ytkefbmaagdaodaa.Vs
