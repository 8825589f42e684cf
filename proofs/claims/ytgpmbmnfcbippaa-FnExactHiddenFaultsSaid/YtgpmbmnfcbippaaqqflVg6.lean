/- Functions of the program by plain functions, each with its contract. -/
import Derived.Test.YtgpmbmnfcbippaaqqflVsT
import Derived.Test.YtgpmbmnfcbippaaqqflVg0
import Derived.Test.YtgpmbmnfcbippaaqqflVg1
import Derived.Test.YtgpmbmnfcbippaaqqflVg2
import Derived.Test.YtgpmbmnfcbippaaqqflVg3
import Derived.Test.YtgpmbmnfcbippaaqqflVg4
import Derived.Test.YtgpmbmnfcbippaaqqflVg5
set_option maxRecDepth 100000
set_option linter.unusedVariables false
set_option linter.unusedSimpArgs false
namespace Go.Proofs.Ytgpmbmnfcbippaa.Vs
open Go.RowKit
noncomputable section
/-! function 8 -/
/-! function 14 -/
noncomputable def r_spec_HiddenFaults : List PK := [{ t := Ty.slice (83 : Nat) (Ty.pair (Ty.int IntKind.i64) (Ty.pair (Ty.int IntKind.i64) (Ty.int IntKind.i64))) }, { t := Ty.bool }]
noncomputable def q_spec_HiddenFaults : List PK := [{ t := Ty.pair (Ty.int IntKind.i64) (Ty.pair (Ty.int IntKind.i64) (Ty.slice (116 : Nat) (Ty.pair (Ty.int IntKind.i64) (Ty.int IntKind.i64)))), agg := true }, { t := Ty.slice (3 : Nat) (Ty.int IntKind.i64) }]
noncomputable def to_spec_HiddenFaults (r : List (Int × Int × Int) × Bool) : Tup r_spec_HiddenFaults × OutD := ((r.1, r.2, ()), none)
noncomputable def of_spec_HiddenFaults : Tup r_spec_HiddenFaults × OutD → Option (List (Int × Int × Int) × Bool)
  | (a, none) => some (a.1, a.2.1)
  | _ => none
theorem to_of_spec_HiddenFaults : ∀ b r, of_spec_HiddenFaults b = some r → to_spec_HiddenFaults r = b := by
  rintro ⟨a, o⟩ r h
  cases o with
  | none => injection h with h; subst h; rfl
  | some _ => cases h
noncomputable def f_spec_HiddenFaults : Nat → Int × Int × List (Int × Int) → List Int → Option (List (Int × Int × Int) × Bool)
  | 0, _, _ => none
  | k + 1, p0, p1 =>
    Option.bind (f_spec_flColumns k (Prod.fst p0, Prod.fst (Prod.snd p0), Prod.snd (Prod.snd p0)) p1) fun z0 => if (!z0) = true then some ([], false) else Option.bind (f_spec_faHidden k (Prod.fst p0, Prod.fst (Prod.snd p0), Prod.snd (Prod.snd p0)) p1) fun z1 => some (z1, true)
noncomputable def d_spec_HiddenFaults : FnDef := .of q_spec_HiddenFaults r_spec_HiddenFaults (List (Int × Int × Int) × Bool) (fun k x => f_spec_HiddenFaults k x.1 x.2.1) to_spec_HiddenFaults of_spec_HiddenFaults to_of_spec_HiddenFaults
noncomputable def c_spec_HiddenFaults : Code := Try.f14.body.getD .skip
noncomputable def x_spec_HiddenFaults : Ctx (Tup r_spec_HiddenFaults × OutD) := { T := T, G := [(61, d_spec_flColumns.E), (62, d_spec_faHidden.E)], mvs := [], no := 0, n := 13, res := resOf T q_spec_HiddenFaults r_spec_HiddenFaults Try.f14.results.toList, loops := [], regs := [], conds := [] }
theorem g_spec_HiddenFaults (k : Nat) : EnvOK Try.prog k x_spec_HiddenFaults.G := (EnvOK.cons (s_spec_flColumns k) (EnvOK.cons (s_spec_faHidden k) (EnvOK.nil mixed)))
theorem h_spec_HiddenFaults (k : Nat) (x : Tup d_spec_HiddenFaults.ps) : d_spec_HiddenFaults.f (k + 1) x = fnK d_spec_HiddenFaults x_spec_HiddenFaults c_spec_HiddenFaults k x := by kernel_rfl
theorem z_spec_HiddenFaults (x : Tup d_spec_HiddenFaults.ps) : d_spec_HiddenFaults.f 0 x = none := by kernel_rfl
theorem l_spec_HiddenFaults (k : Nat) : LOK Try.prog x_spec_HiddenFaults k c_spec_HiddenFaults := LOK.by [] (by kernel_rfl) AllOK.nil
theorem s_spec_HiddenFaults (k : Nat) : SoundAt Try.prog k 14 d_spec_HiddenFaults.E := @fn_all Try.prog d_spec_HiddenFaults x_spec_HiddenFaults 14 Try.f14 c_spec_HiddenFaults (by kernel_rfl) (by kernel_rfl) (by kernel_rfl) Try.func14 (by kernel_rfl) (by kernel_rfl) (by kernel_rfl) T_ok g_spec_HiddenFaults l_spec_HiddenFaults z_spec_HiddenFaults h_spec_HiddenFaults k
/-! function 26 -/
/-! function 28 -/
/-! function 31 -/
/-! function 32 -/
/-! function 37 -/
/-! function 40 -/
/-! function 51 -/
/-! function 55 -/
/-! function 57 -/
/-! function 78 -/
/-! function 91 -/
end
end Go.Proofs.Ytgpmbmnfcbippaa.Vs
