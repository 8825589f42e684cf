/- Functions of the program by plain functions, each with its contract. -/
import Derived.Test.YtgpmbmnfcbippaaqnnuVsT
import Derived.Test.YtgpmbmnfcbippaaqnnuVg0
import Derived.Test.YtgpmbmnfcbippaaqnnuVg1
import Derived.Test.YtgpmbmnfcbippaaqnnuVg2
import Derived.Test.YtgpmbmnfcbippaaqnnuVg3
import Derived.Test.YtgpmbmnfcbippaaqnnuVg4
import Derived.Test.YtgpmbmnfcbippaaqnnuVg5
set_option maxRecDepth 100000
set_option linter.unusedVariables false
set_option linter.unusedSimpArgs false
namespace Go.Proofs.Ytgpmbmnfcbippaa.Vs
open Go.RowKit
noncomputable section
/-! function 8 -/
/-! function 14 -/
/-! function 26 -/
noncomputable def r_spec_SingleCauses : List PK := [{ t := Ty.slice (83 : Nat) (Ty.pair (Ty.int IntKind.i64) (Ty.pair (Ty.int IntKind.i64) (Ty.int IntKind.i64))) }, { t := Ty.bool }]
noncomputable def q_spec_SingleCauses : List PK := [{ t := Ty.pair (Ty.int IntKind.i64) (Ty.pair (Ty.int IntKind.i64) (Ty.slice (116 : Nat) (Ty.pair (Ty.int IntKind.i64) (Ty.int IntKind.i64)))), agg := true }, { t := Ty.slice (3 : Nat) (Ty.int IntKind.i64) }, { t := Ty.slice (91 : Nat) (Ty.pair (Ty.int IntKind.i64) (Ty.pair (Ty.int IntKind.i64) (Ty.int IntKind.i64))) }]
noncomputable def to_spec_SingleCauses (r : List (Int × Int × Int) × Bool) : Tup r_spec_SingleCauses × OutD := ((r.1, r.2, ()), none)
noncomputable def of_spec_SingleCauses : Tup r_spec_SingleCauses × OutD → Option (List (Int × Int × Int) × Bool)
  | (a, none) => some (a.1, a.2.1)
  | _ => none
theorem to_of_spec_SingleCauses : ∀ b r, of_spec_SingleCauses b = some r → to_spec_SingleCauses r = b := by
  rintro ⟨a, o⟩ r h
  cases o with
  | none => injection h with h; subst h; rfl
  | some _ => cases h
noncomputable def f_spec_SingleCauses : Nat → Int × Int × List (Int × Int) → List Int → List (Int × Int × Int) → Option (List (Int × Int × Int) × Bool)
  | 0, _, _, _ => none
  | k + 1, p0, p1, p2 =>
    Option.bind (f_spec_dgGood k (Prod.fst p0, Prod.fst (Prod.snd p0), Prod.snd (Prod.snd p0)) p1 p2) fun z0 => if (!z0) = true then some ([], false) else Option.bind (f_spec_dgSingle k (Prod.fst p0, Prod.fst (Prod.snd p0), Prod.snd (Prod.snd p0)) p1 p2) fun z1 => some (z1, true)
noncomputable def d_spec_SingleCauses : FnDef := .of q_spec_SingleCauses r_spec_SingleCauses (List (Int × Int × Int) × Bool) (fun k x => f_spec_SingleCauses k x.1 x.2.1 x.2.2.1) to_spec_SingleCauses of_spec_SingleCauses to_of_spec_SingleCauses
noncomputable def c_spec_SingleCauses : Code := Try.f26.body.getD .skip
noncomputable def x_spec_SingleCauses : Ctx (Tup r_spec_SingleCauses × OutD) := { T := T, G := [(70, d_spec_dgGood.E), (71, d_spec_dgSingle.E)], mvs := [], no := 0, n := 17, res := resOf T q_spec_SingleCauses r_spec_SingleCauses Try.f26.results.toList, loops := [], regs := [], conds := [] }
theorem g_spec_SingleCauses (k : Nat) : EnvOK Try.prog k x_spec_SingleCauses.G := (EnvOK.cons (s_spec_dgGood k) (EnvOK.cons (s_spec_dgSingle k) (EnvOK.nil mixed)))
theorem h_spec_SingleCauses (k : Nat) (x : Tup d_spec_SingleCauses.ps) : d_spec_SingleCauses.f (k + 1) x = fnK d_spec_SingleCauses x_spec_SingleCauses c_spec_SingleCauses k x := by kernel_rfl
theorem z_spec_SingleCauses (x : Tup d_spec_SingleCauses.ps) : d_spec_SingleCauses.f 0 x = none := by kernel_rfl
theorem l_spec_SingleCauses (k : Nat) : LOK Try.prog x_spec_SingleCauses k c_spec_SingleCauses := LOK.by [] (by kernel_rfl) AllOK.nil
theorem s_spec_SingleCauses (k : Nat) : SoundAt Try.prog k 26 d_spec_SingleCauses.E := @fn_all Try.prog d_spec_SingleCauses x_spec_SingleCauses 26 Try.f26 c_spec_SingleCauses (by kernel_rfl) (by kernel_rfl) (by kernel_rfl) Try.func26 (by kernel_rfl) (by kernel_rfl) (by kernel_rfl) T_ok g_spec_SingleCauses l_spec_SingleCauses z_spec_SingleCauses h_spec_SingleCauses k
/-! function 28 -/
noncomputable def r_impl_SingleCauses : List PK := [{ t := Ty.slice (83 : Nat) (Ty.pair (Ty.int IntKind.i64) (Ty.pair (Ty.int IntKind.i64) (Ty.int IntKind.i64))) }, { t := Ty.bool }]
noncomputable def q_impl_SingleCauses : List PK := [{ t := Ty.pair (Ty.int IntKind.i64) (Ty.pair (Ty.int IntKind.i64) (Ty.slice (116 : Nat) (Ty.pair (Ty.int IntKind.i64) (Ty.int IntKind.i64)))), agg := true }, { t := Ty.slice (3 : Nat) (Ty.int IntKind.i64) }, { t := Ty.slice (91 : Nat) (Ty.pair (Ty.int IntKind.i64) (Ty.pair (Ty.int IntKind.i64) (Ty.int IntKind.i64))) }]
noncomputable def to_impl_SingleCauses (r : List (Int × Int × Int) × Bool) : Tup r_impl_SingleCauses × OutD := ((r.1, r.2, ()), none)
noncomputable def of_impl_SingleCauses : Tup r_impl_SingleCauses × OutD → Option (List (Int × Int × Int) × Bool)
  | (a, none) => some (a.1, a.2.1)
  | _ => none
theorem to_of_impl_SingleCauses : ∀ b r, of_impl_SingleCauses b = some r → to_impl_SingleCauses r = b := by
  rintro ⟨a, o⟩ r h
  cases o with
  | none => injection h with h; subst h; rfl
  | some _ => cases h
noncomputable def f_impl_SingleCauses : Nat → Int × Int × List (Int × Int) → List Int → List (Int × Int × Int) → Option (List (Int × Int × Int) × Bool)
  | 0, _, _, _ => none
  | k + 1, p0, p1, p2 =>
    Option.bind (f_impl_isSeen k (Prod.fst p0, Prod.fst (Prod.snd p0), Prod.snd (Prod.snd p0)) p1 p2) fun z0 => if (!z0) = true then some ([], false) else Option.bind (f_impl_singleCauses k (Prod.fst p0, Prod.fst (Prod.snd p0), Prod.snd (Prod.snd p0)) p1 p2) fun z1 => some (z1, true)
noncomputable def d_impl_SingleCauses : FnDef := .of q_impl_SingleCauses r_impl_SingleCauses (List (Int × Int × Int) × Bool) (fun k x => f_impl_SingleCauses k x.1 x.2.1 x.2.2.1) to_impl_SingleCauses of_impl_SingleCauses to_of_impl_SingleCauses
noncomputable def c_impl_SingleCauses : Code := Try.f28.body.getD .skip
noncomputable def x_impl_SingleCauses : Ctx (Tup r_impl_SingleCauses × OutD) := { T := T, G := [(73, d_impl_isSeen.E), (74, d_impl_singleCauses.E)], mvs := [], no := 0, n := 17, res := resOf T q_impl_SingleCauses r_impl_SingleCauses Try.f28.results.toList, loops := [], regs := [], conds := [] }
theorem g_impl_SingleCauses (k : Nat) : EnvOK Try.prog k x_impl_SingleCauses.G := (EnvOK.cons (s_impl_isSeen k) (EnvOK.cons (s_impl_singleCauses k) (EnvOK.nil mixed)))
theorem h_impl_SingleCauses (k : Nat) (x : Tup d_impl_SingleCauses.ps) : d_impl_SingleCauses.f (k + 1) x = fnK d_impl_SingleCauses x_impl_SingleCauses c_impl_SingleCauses k x := by kernel_rfl
theorem z_impl_SingleCauses (x : Tup d_impl_SingleCauses.ps) : d_impl_SingleCauses.f 0 x = none := by kernel_rfl
theorem l_impl_SingleCauses (k : Nat) : LOK Try.prog x_impl_SingleCauses k c_impl_SingleCauses := LOK.by [] (by kernel_rfl) AllOK.nil
theorem s_impl_SingleCauses (k : Nat) : SoundAt Try.prog k 28 d_impl_SingleCauses.E := @fn_all Try.prog d_impl_SingleCauses x_impl_SingleCauses 28 Try.f28 c_impl_SingleCauses (by kernel_rfl) (by kernel_rfl) (by kernel_rfl) Try.func28 (by kernel_rfl) (by kernel_rfl) (by kernel_rfl) T_ok g_impl_SingleCauses l_impl_SingleCauses z_impl_SingleCauses h_impl_SingleCauses k
/-! function 31 -/
/-! function 32 -/
/-! function 37 -/
/-! function 40 -/
/-! function 51 -/
/-! function 55 -/
/-! function 57 -/
/-! function 78 -/
/-! function 91 -/
end
end Go.Proofs.Ytgpmbmnfcbippaa.Vs
