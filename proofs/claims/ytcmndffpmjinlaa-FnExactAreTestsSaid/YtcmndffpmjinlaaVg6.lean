/- Functions of the program by plain functions, each with its contract. -/
import Derived.Test.YtcmndffpmjinlaaVsT
import Derived.Test.YtcmndffpmjinlaaVg0
import Derived.Test.YtcmndffpmjinlaaVg1
import Derived.Test.YtcmndffpmjinlaaVg2
import Derived.Test.YtcmndffpmjinlaaVg3
import Derived.Test.YtcmndffpmjinlaaVg4
import Derived.Test.YtcmndffpmjinlaaVg5
set_option maxRecDepth 100000
set_option linter.unusedVariables false
set_option linter.unusedSimpArgs false
namespace Go.Proofs.Ytcmndffpmjinlaa.Vs
open Go.RowKit
noncomputable section
/-! function 14 -/
noncomputable def r_laws_FnExactAreTests : List PK := [{ t := Ty.bool }]
noncomputable def q_laws_FnExactAreTests : List PK := [{ t := Ty.pair (Ty.int IntKind.i64) (Ty.pair (Ty.int IntKind.i64) (Ty.slice (100 : Nat) (Ty.pair (Ty.int IntKind.i64) (Ty.int IntKind.i64)))), agg := true }, { t := Ty.slice (25 : Nat) (Ty.slice (3 : Nat) (Ty.int IntKind.i64)) }]
noncomputable def to_laws_FnExactAreTests (r : Bool) : Tup r_laws_FnExactAreTests × OutD := ((r, ()), none)
noncomputable def of_laws_FnExactAreTests : Tup r_laws_FnExactAreTests × OutD → Option (Bool)
  | (a, none) => some (a.1)
  | _ => none
theorem to_of_laws_FnExactAreTests : ∀ b r, of_laws_FnExactAreTests b = some r → to_laws_FnExactAreTests r = b := by
  rintro ⟨a, o⟩ r h
  cases o with
  | none => injection h with h; subst h; rfl
  | some _ => cases h
noncomputable def f_laws_FnExactAreTests : Nat → Int × Int × List (Int × Int) → List (List Int) → Option Bool
  | 0, _, _ => none
  | k + 1, p0, p1 =>
    Option.bind (f_laws_szBoard k (Prod.fst p0, Prod.fst (Prod.snd p0), Prod.snd (Prod.snd p0)) (1048576 : Int)) fun z0 => if decide (z0 < (0 : Int)) = true then some true else Option.bind (f_laws_szIntSS k p1 z0) fun z1 => if decide (z1 < (0 : Int)) = true then some true else Option.bind (f_laws_toBoard k (Prod.fst p0, Prod.fst (Prod.snd p0), Prod.snd (Prod.snd p0))) fun z2 => Option.bind (f_laws_toIntSS k p1) fun z3 => Option.bind (f_spec_AreTests k (Prod.fst z2, Prod.fst (Prod.snd z2), Prod.snd (Prod.snd z2)) z3) fun z4 => Option.bind (f_laws_toBoard k (Prod.fst p0, Prod.fst (Prod.snd p0), Prod.snd (Prod.snd p0))) fun z5 => Option.bind (f_laws_toIntSS k p1) fun z6 => Option.bind (f_impl_AreTests k (Prod.fst z5, Prod.fst (Prod.snd z5), Prod.snd (Prod.snd z5)) z6) fun z7 => if (!Prod.fst z7 == Prod.fst z4) = true then some false else if (!Prod.snd z7 == Prod.snd z4) = true then some false else Option.bind (f_laws_toBoard k (Prod.fst p0, Prod.fst (Prod.snd p0), Prod.snd (Prod.snd p0))) fun z8 => Option.bind (f_laws_eqBoard k (Prod.fst z5, Prod.fst (Prod.snd z5), Prod.snd (Prod.snd z5)) (Prod.fst z8, Prod.fst (Prod.snd z8), Prod.snd (Prod.snd z8))) fun z9 => if (!z9) = true then some false else Option.bind (f_laws_toIntSS k p1) fun z10 => Option.bind (f_laws_eqIntSS k z6 z10) fun z11 => if (!z11) = true then some false else some true
noncomputable def d_laws_FnExactAreTests : FnDef := .of q_laws_FnExactAreTests r_laws_FnExactAreTests (Bool) (fun k x => f_laws_FnExactAreTests k x.1 x.2.1) to_laws_FnExactAreTests of_laws_FnExactAreTests to_of_laws_FnExactAreTests
noncomputable def c_laws_FnExactAreTests : Code := Try.f14.body.getD .skip
noncomputable def x_laws_FnExactAreTests : Ctx (Tup r_laws_FnExactAreTests × OutD) := { T := T, G := [(48, d_laws_szBoard.E), (36, d_laws_szIntSS.E), (50, d_laws_toBoard.E), (38, d_laws_toIntSS.E), (49, d_spec_AreTests.E), (51, d_impl_AreTests.E), (52, d_laws_eqBoard.E), (40, d_laws_eqIntSS.E)], mvs := [], no := 0, n := 58, res := resOf T q_laws_FnExactAreTests r_laws_FnExactAreTests Try.f14.results.toList, loops := [], regs := [], conds := [] }
theorem g_laws_FnExactAreTests (k : Nat) : EnvOK Try.prog k x_laws_FnExactAreTests.G := (EnvOK.cons (s_laws_szBoard k) (EnvOK.cons (s_laws_szIntSS k) (EnvOK.cons (s_laws_toBoard k) (EnvOK.cons (s_laws_toIntSS k) (EnvOK.cons (s_spec_AreTests k) (EnvOK.cons (s_impl_AreTests k) (EnvOK.cons (s_laws_eqBoard k) (EnvOK.cons (s_laws_eqIntSS k) (EnvOK.nil mixed)))))))))
theorem h_laws_FnExactAreTests (k : Nat) (x : Tup d_laws_FnExactAreTests.ps) : d_laws_FnExactAreTests.f (k + 1) x = fnK d_laws_FnExactAreTests x_laws_FnExactAreTests c_laws_FnExactAreTests k x := by kernel_rfl
theorem z_laws_FnExactAreTests (x : Tup d_laws_FnExactAreTests.ps) : d_laws_FnExactAreTests.f 0 x = none := by kernel_rfl
theorem l_laws_FnExactAreTests (k : Nat) : LOK Try.prog x_laws_FnExactAreTests k c_laws_FnExactAreTests := LOK.by [] (by kernel_rfl) AllOK.nil
theorem s_laws_FnExactAreTests (k : Nat) : SoundAt Try.prog k 14 d_laws_FnExactAreTests.E := @fn_all Try.prog d_laws_FnExactAreTests x_laws_FnExactAreTests 14 Try.f14 c_laws_FnExactAreTests (by kernel_rfl) (by kernel_rfl) (by kernel_rfl) Try.func14 (by kernel_rfl) (by kernel_rfl) (by kernel_rfl) T_ok g_laws_FnExactAreTests l_laws_FnExactAreTests z_laws_FnExactAreTests h_laws_FnExactAreTests k
end
end Go.Proofs.Ytcmndffpmjinlaa.Vs
