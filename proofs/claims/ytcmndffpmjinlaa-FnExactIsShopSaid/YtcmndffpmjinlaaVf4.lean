/- Functions of the program by plain functions, each with its contract. -/
import Derived.Test.YtcmndffpmjinlaaVsT
import Derived.Test.YtcmndffpmjinlaaVf0
import Derived.Test.YtcmndffpmjinlaaVf1
import Derived.Test.YtcmndffpmjinlaaVf2
import Derived.Test.YtcmndffpmjinlaaVf3
set_option maxRecDepth 100000
set_option linter.unusedVariables false
set_option linter.unusedSimpArgs false
namespace Go.Proofs.Ytcmndffpmjinlaa.Vs
open Go.RowKit
noncomputable section
/-! function 10 -/
noncomputable def r_laws_FnExactIsShop : List PK := [{ t := Ty.bool }]
noncomputable def q_laws_FnExactIsShop : List PK := [{ t := Ty.pair (Ty.slice 3 (Ty.int IntKind.i64)) (Ty.slice 95 (Ty.pair (Ty.int IntKind.i64) (Ty.pair (Ty.int IntKind.i64) (Ty.pair (Ty.int IntKind.i64) (Ty.int IntKind.i64))))), agg := true }]
noncomputable def to_laws_FnExactIsShop (r : Bool) : Tup r_laws_FnExactIsShop × OutD := ((r, ()), none)
noncomputable def of_laws_FnExactIsShop : Tup r_laws_FnExactIsShop × OutD → Option (Bool)
  | (a, none) => some (a.1)
  | _ => none
theorem to_of_laws_FnExactIsShop : ∀ b r, of_laws_FnExactIsShop b = some r → to_laws_FnExactIsShop r = b := by
  rintro ⟨a, o⟩ r h
  cases o with
  | none => injection h with h; subst h; rfl
  | some _ => cases h
noncomputable def f_laws_FnExactIsShop : Nat → List Int × List (Int × Int × Int × Int) → Option Bool
  | 0, _ => none
  | k + 1, p0 =>
    Option.bind (f_laws_szShop k (Prod.fst p0, Prod.snd p0) 1048576) fun z0 => if decide (z0 < 0) = true then some true else Option.bind (f_laws_toShop k (Prod.fst p0, Prod.snd p0)) fun z1 => Option.bind (f_spec_IsShop k (Prod.fst z1, Prod.snd z1)) fun z2 => Option.bind (f_laws_toShop k (Prod.fst p0, Prod.snd p0)) fun z3 => Option.bind (f_impl_IsShop k (Prod.fst z3, Prod.snd z3)) fun z4 => if (!z4 == z2) = true then some false else Option.bind (f_laws_toShop k (Prod.fst p0, Prod.snd p0)) fun z5 => Option.bind (f_laws_eqShop k (Prod.fst z3, Prod.snd z3) (Prod.fst z5, Prod.snd z5)) fun z6 => if (!z6) = true then some false else some true
noncomputable def d_laws_FnExactIsShop : FnDef := .of q_laws_FnExactIsShop r_laws_FnExactIsShop (Bool) (fun k x => f_laws_FnExactIsShop k x.1) to_laws_FnExactIsShop of_laws_FnExactIsShop to_of_laws_FnExactIsShop
noncomputable def c_laws_FnExactIsShop : Code := Try.f10.body.getD .skip
noncomputable def x_laws_FnExactIsShop : Ctx (Tup r_laws_FnExactIsShop × OutD) := { T := T, G := [(31, d_laws_szShop.E), (33, d_laws_toShop.E), (32, d_spec_IsShop.E), (34, d_impl_IsShop.E), (35, d_laws_eqShop.E)], mvs := [], no := 0, n := 27, res := resOf T q_laws_FnExactIsShop r_laws_FnExactIsShop Try.f10.results.toList, loops := [], regs := [] }
theorem g_laws_FnExactIsShop (k : Nat) : EnvOK Try.prog k x_laws_FnExactIsShop.G := (EnvOK.cons (s_laws_szShop k) (EnvOK.cons (s_laws_toShop k) (EnvOK.cons (s_spec_IsShop k) (EnvOK.cons (s_impl_IsShop k) (EnvOK.cons (s_laws_eqShop k) (EnvOK.nil mixed))))))
theorem h_laws_FnExactIsShop (k : Nat) (x : Tup d_laws_FnExactIsShop.ps) : d_laws_FnExactIsShop.f (k + 1) x = fnK d_laws_FnExactIsShop x_laws_FnExactIsShop c_laws_FnExactIsShop k x := by kernel_rfl
theorem z_laws_FnExactIsShop (x : Tup d_laws_FnExactIsShop.ps) : d_laws_FnExactIsShop.f 0 x = none := by kernel_rfl
theorem l_laws_FnExactIsShop (k : Nat) : LOK Try.prog x_laws_FnExactIsShop k c_laws_FnExactIsShop := LOK.by [] (by kernel_rfl) AllOK.nil
theorem s_laws_FnExactIsShop (k : Nat) : SoundAt Try.prog k 10 d_laws_FnExactIsShop.E := @fn_all Try.prog d_laws_FnExactIsShop x_laws_FnExactIsShop 10 Try.f10 c_laws_FnExactIsShop (by kernel_rfl) (by kernel_rfl) (by kernel_rfl) Try.func10 (by kernel_rfl) (by kernel_rfl) (by kernel_rfl) T_ok g_laws_FnExactIsShop l_laws_FnExactIsShop z_laws_FnExactIsShop h_laws_FnExactIsShop k
end
end Go.Proofs.Ytcmndffpmjinlaa.Vs
