/- Functions of the program by plain functions, each with its contract. -/
import Derived.Test.YtcmndffpmjinlaaVsT
import Derived.Test.YtcmndffpmjinlaaVf0
import Derived.Test.YtcmndffpmjinlaaVf1
import Derived.Test.YtcmndffpmjinlaaVf2
set_option maxRecDepth 100000
set_option linter.unusedVariables false
set_option linter.unusedSimpArgs false
namespace Go.Proofs.Ytcmndffpmjinlaa.Vs
open Go.RowKit
noncomputable section
/-! function 32 -/
noncomputable def r_spec_IsShop : List PK := [{ t := Ty.bool }]
noncomputable def q_spec_IsShop : List PK := [{ t := Ty.pair (Ty.slice 3 (Ty.int IntKind.i64)) (Ty.slice 81 (Ty.pair (Ty.int IntKind.i64) (Ty.pair (Ty.int IntKind.i64) (Ty.pair (Ty.int IntKind.i64) (Ty.int IntKind.i64))))), agg := true }]
noncomputable def to_spec_IsShop (r : Bool) : Tup r_spec_IsShop × OutD := ((r, ()), none)
noncomputable def of_spec_IsShop : Tup r_spec_IsShop × OutD → Option (Bool)
  | (a, none) => some (a.1)
  | _ => none
theorem to_of_spec_IsShop : ∀ b r, of_spec_IsShop b = some r → to_spec_IsShop r = b := by
  rintro ⟨a, o⟩ r h
  cases o with
  | none => injection h with h; subst h; rfl
  | some _ => cases h
noncomputable def f_spec_IsShop : Nat → List Int × List (Int × Int × Int × Int) → Option Bool
  | 0, _ => none
  | k + 1, p0 =>
    Option.bind (f_spec_psGood k (Prod.fst p0, Prod.snd p0)) fun z0 => some z0
noncomputable def d_spec_IsShop : FnDef := .of q_spec_IsShop r_spec_IsShop (Bool) (fun k x => f_spec_IsShop k x.1) to_spec_IsShop of_spec_IsShop to_of_spec_IsShop
noncomputable def c_spec_IsShop : Code := Try.f32.body.getD .skip
noncomputable def x_spec_IsShop : Ctx (Tup r_spec_IsShop × OutD) := { T := T, G := [(68, d_spec_psGood.E)], mvs := [], no := 0, n := 5, res := resOf T q_spec_IsShop r_spec_IsShop Try.f32.results.toList, loops := [], regs := [] }
theorem g_spec_IsShop (k : Nat) : EnvOK Try.prog k x_spec_IsShop.G := (EnvOK.cons (s_spec_psGood k) (EnvOK.nil mixed))
theorem h_spec_IsShop (k : Nat) (x : Tup d_spec_IsShop.ps) : d_spec_IsShop.f (k + 1) x = fnK d_spec_IsShop x_spec_IsShop c_spec_IsShop k x := by kernel_rfl
theorem z_spec_IsShop (x : Tup d_spec_IsShop.ps) : d_spec_IsShop.f 0 x = none := by kernel_rfl
theorem l_spec_IsShop (k : Nat) : LOK Try.prog x_spec_IsShop k c_spec_IsShop := LOK.by [] (by kernel_rfl) AllOK.nil
theorem s_spec_IsShop (k : Nat) : SoundAt Try.prog k 32 d_spec_IsShop.E := @fn_all Try.prog d_spec_IsShop x_spec_IsShop 32 Try.f32 c_spec_IsShop (by kernel_rfl) (by kernel_rfl) (by kernel_rfl) Try.func32 (by kernel_rfl) (by kernel_rfl) (by kernel_rfl) T_ok g_spec_IsShop l_spec_IsShop z_spec_IsShop h_spec_IsShop k
end
end Go.Proofs.Ytcmndffpmjinlaa.Vs
