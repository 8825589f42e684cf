/- Functions of the program by plain functions, each with its contract. -/
import Derived.Test.YtcmndffpmjinlaaVsT
import Derived.Test.YtcmndffpmjinlaaVg0
import Derived.Test.YtcmndffpmjinlaaVg1
import Derived.Test.YtcmndffpmjinlaaVg2
import Derived.Test.YtcmndffpmjinlaaVg3
import Derived.Test.YtcmndffpmjinlaaVg4
set_option maxRecDepth 100000
set_option linter.unusedVariables false
set_option linter.unusedSimpArgs false
namespace Go.Proofs.Ytcmndffpmjinlaa.Vs
open Go.RowKit
noncomputable section
/-! function 5 -/
noncomputable def r_laws_FnExactChanceRight : List PK := [{ t := Ty.bool }]
noncomputable def q_laws_FnExactChanceRight : List PK := [{ t := Ty.int IntKind.i64 }, { t := Ty.int IntKind.i64 }, { t := Ty.int IntKind.i64 }]
noncomputable def to_laws_FnExactChanceRight (r : Bool) : Tup r_laws_FnExactChanceRight × OutD := ((r, ()), none)
noncomputable def of_laws_FnExactChanceRight : Tup r_laws_FnExactChanceRight × OutD → Option (Bool)
  | (a, none) => some (a.1)
  | _ => none
theorem to_of_laws_FnExactChanceRight : ∀ b r, of_laws_FnExactChanceRight b = some r → to_laws_FnExactChanceRight r = b := by
  rintro ⟨a, o⟩ r h
  cases o with
  | none => injection h with h; subst h; rfl
  | some _ => cases h
noncomputable def f_laws_FnExactChanceRight : Nat → Int → Int → Int → Option Bool
  | 0, _, _, _ => none
  | k + 1, p0, p1, p2 =>
    Option.bind (f_spec_ChanceRight k p0 p1 p2) fun z0 => Option.bind (f_impl_ChanceRight k p0 p1 p2) fun z1 => if decide (Prod.fst z1 ≠ Prod.fst z0) = true then some false else if decide (Prod.fst (Prod.snd z1) ≠ Prod.fst (Prod.snd z0)) = true then some false else if (!Prod.snd (Prod.snd z1) == Prod.snd (Prod.snd z0)) = true then some false else some true
noncomputable def d_laws_FnExactChanceRight : FnDef := .of q_laws_FnExactChanceRight r_laws_FnExactChanceRight (Bool) (fun k x => f_laws_FnExactChanceRight k x.1 x.2.1 x.2.2.1) to_laws_FnExactChanceRight of_laws_FnExactChanceRight to_of_laws_FnExactChanceRight
noncomputable def c_laws_FnExactChanceRight : Code := Try.f5.body.getD .skip
noncomputable def x_laws_FnExactChanceRight : Ctx (Tup r_laws_FnExactChanceRight × OutD) := { T := T, G := [(21, d_spec_ChanceRight.E), (22, d_impl_ChanceRight.E)], mvs := [], no := 0, n := 42, res := resOf T q_laws_FnExactChanceRight r_laws_FnExactChanceRight Try.f5.results.toList, loops := [], regs := [], conds := [] }
theorem g_laws_FnExactChanceRight (k : Nat) : EnvOK Try.prog k x_laws_FnExactChanceRight.G := (EnvOK.cons (s_spec_ChanceRight k) (EnvOK.cons (s_impl_ChanceRight k) (EnvOK.nil mixed)))
theorem h_laws_FnExactChanceRight (k : Nat) (x : Tup d_laws_FnExactChanceRight.ps) : d_laws_FnExactChanceRight.f (k + 1) x = fnK d_laws_FnExactChanceRight x_laws_FnExactChanceRight c_laws_FnExactChanceRight k x := by kernel_rfl
theorem z_laws_FnExactChanceRight (x : Tup d_laws_FnExactChanceRight.ps) : d_laws_FnExactChanceRight.f 0 x = none := by kernel_rfl
theorem l_laws_FnExactChanceRight (k : Nat) : LOK Try.prog x_laws_FnExactChanceRight k c_laws_FnExactChanceRight := LOK.by [] (by kernel_rfl) AllOK.nil
theorem s_laws_FnExactChanceRight (k : Nat) : SoundAt Try.prog k 5 d_laws_FnExactChanceRight.E := @fn_all Try.prog d_laws_FnExactChanceRight x_laws_FnExactChanceRight 5 Try.f5 c_laws_FnExactChanceRight (by kernel_rfl) (by kernel_rfl) (by kernel_rfl) Try.func5 (by kernel_rfl) (by kernel_rfl) (by kernel_rfl) T_ok g_laws_FnExactChanceRight l_laws_FnExactChanceRight z_laws_FnExactChanceRight h_laws_FnExactChanceRight k
/-! function 7 -/
noncomputable def r_laws_FnExactLeastCopies : List PK := [{ t := Ty.bool }]
noncomputable def q_laws_FnExactLeastCopies : List PK := [{ t := Ty.int IntKind.i64 }, { t := Ty.int IntKind.i64 }, { t := Ty.int IntKind.i64 }, { t := Ty.int IntKind.i64 }]
noncomputable def to_laws_FnExactLeastCopies (r : Bool) : Tup r_laws_FnExactLeastCopies × OutD := ((r, ()), none)
noncomputable def of_laws_FnExactLeastCopies : Tup r_laws_FnExactLeastCopies × OutD → Option (Bool)
  | (a, none) => some (a.1)
  | _ => none
theorem to_of_laws_FnExactLeastCopies : ∀ b r, of_laws_FnExactLeastCopies b = some r → to_laws_FnExactLeastCopies r = b := by
  rintro ⟨a, o⟩ r h
  cases o with
  | none => injection h with h; subst h; rfl
  | some _ => cases h
noncomputable def f_laws_FnExactLeastCopies : Nat → Int → Int → Int → Int → Option Bool
  | 0, _, _, _, _ => none
  | k + 1, p0, p1, p2, p3 =>
    Option.bind (f_spec_LeastCopies k p0 p1 p2 p3) fun z0 => Option.bind (f_impl_LeastCopies k p0 p1 p2 p3) fun z1 => if decide (Prod.fst z1 ≠ Prod.fst z0) = true then some false else if (!Prod.snd z1 == Prod.snd z0) = true then some false else some true
noncomputable def d_laws_FnExactLeastCopies : FnDef := .of q_laws_FnExactLeastCopies r_laws_FnExactLeastCopies (Bool) (fun k x => f_laws_FnExactLeastCopies k x.1 x.2.1 x.2.2.1 x.2.2.2.1) to_laws_FnExactLeastCopies of_laws_FnExactLeastCopies to_of_laws_FnExactLeastCopies
noncomputable def c_laws_FnExactLeastCopies : Code := Try.f7.body.getD .skip
noncomputable def x_laws_FnExactLeastCopies : Ctx (Tup r_laws_FnExactLeastCopies × OutD) := { T := T, G := [(25, d_spec_LeastCopies.E), (26, d_impl_LeastCopies.E)], mvs := [], no := 0, n := 37, res := resOf T q_laws_FnExactLeastCopies r_laws_FnExactLeastCopies Try.f7.results.toList, loops := [], regs := [], conds := [] }
theorem g_laws_FnExactLeastCopies (k : Nat) : EnvOK Try.prog k x_laws_FnExactLeastCopies.G := (EnvOK.cons (s_spec_LeastCopies k) (EnvOK.cons (s_impl_LeastCopies k) (EnvOK.nil mixed)))
theorem h_laws_FnExactLeastCopies (k : Nat) (x : Tup d_laws_FnExactLeastCopies.ps) : d_laws_FnExactLeastCopies.f (k + 1) x = fnK d_laws_FnExactLeastCopies x_laws_FnExactLeastCopies c_laws_FnExactLeastCopies k x := by kernel_rfl
theorem z_laws_FnExactLeastCopies (x : Tup d_laws_FnExactLeastCopies.ps) : d_laws_FnExactLeastCopies.f 0 x = none := by kernel_rfl
theorem l_laws_FnExactLeastCopies (k : Nat) : LOK Try.prog x_laws_FnExactLeastCopies k c_laws_FnExactLeastCopies := LOK.by [] (by kernel_rfl) AllOK.nil
theorem s_laws_FnExactLeastCopies (k : Nat) : SoundAt Try.prog k 7 d_laws_FnExactLeastCopies.E := @fn_all Try.prog d_laws_FnExactLeastCopies x_laws_FnExactLeastCopies 7 Try.f7 c_laws_FnExactLeastCopies (by kernel_rfl) (by kernel_rfl) (by kernel_rfl) Try.func7 (by kernel_rfl) (by kernel_rfl) (by kernel_rfl) T_ok g_laws_FnExactLeastCopies l_laws_FnExactLeastCopies z_laws_FnExactLeastCopies h_laws_FnExactLeastCopies k
/-! function 51 -/
noncomputable def r_impl_AreTests : List PK := [{ t := Ty.bool }, { t := Ty.bool }]
noncomputable def q_impl_AreTests : List PK := [{ t := Ty.pair (Ty.int IntKind.i64) (Ty.pair (Ty.int IntKind.i64) (Ty.slice (98 : Nat) (Ty.pair (Ty.int IntKind.i64) (Ty.int IntKind.i64)))), agg := true }, { t := Ty.slice (25 : Nat) (Ty.slice (3 : Nat) (Ty.int IntKind.i64)) }]
noncomputable def to_impl_AreTests (r : Bool × Bool) : Tup r_impl_AreTests × OutD := ((r.1, r.2, ()), none)
noncomputable def of_impl_AreTests : Tup r_impl_AreTests × OutD → Option (Bool × Bool)
  | (a, none) => some (a.1, a.2.1)
  | _ => none
theorem to_of_impl_AreTests : ∀ b r, of_impl_AreTests b = some r → to_impl_AreTests r = b := by
  rintro ⟨a, o⟩ r h
  cases o with
  | none => injection h with h; subst h; rfl
  | some _ => cases h
noncomputable def f_impl_AreTests : Nat → Int × Int × List (Int × Int) → List (List Int) → Option (Bool × Bool)
  | 0, _, _ => none
  | k + 1, p0, p1 =>
    Option.bind (f_impl_IsBoard k (Prod.fst p0, Prod.fst (Prod.snd p0), Prod.snd (Prod.snd p0))) fun z0 => if (!z0) = true then some (false, false) else if decide ((↑(List.length (Prod.snd (Prod.snd p0))) : Int) > (30 : Int)) = true then some (false, false) else Option.bind (f_impl_areTests k (Prod.fst p0, Prod.fst (Prod.snd p0), Prod.snd (Prod.snd p0)) p1) fun z1 => some (z1, true)
noncomputable def d_impl_AreTests : FnDef := .of q_impl_AreTests r_impl_AreTests (Bool × Bool) (fun k x => f_impl_AreTests k x.1 x.2.1) to_impl_AreTests of_impl_AreTests to_of_impl_AreTests
noncomputable def c_impl_AreTests : Code := Try.f51.body.getD .skip
noncomputable def x_impl_AreTests : Ctx (Tup r_impl_AreTests × OutD) := { T := T, G := [(85, d_impl_IsBoard.E), (86, d_impl_areTests.E)], mvs := [], no := 0, n := 18, res := resOf T q_impl_AreTests r_impl_AreTests Try.f51.results.toList, loops := [], regs := [], conds := [] }
theorem g_impl_AreTests (k : Nat) : EnvOK Try.prog k x_impl_AreTests.G := (EnvOK.cons (s_impl_IsBoard k) (EnvOK.cons (s_impl_areTests k) (EnvOK.nil mixed)))
theorem h_impl_AreTests (k : Nat) (x : Tup d_impl_AreTests.ps) : d_impl_AreTests.f (k + 1) x = fnK d_impl_AreTests x_impl_AreTests c_impl_AreTests k x := by kernel_rfl
theorem z_impl_AreTests (x : Tup d_impl_AreTests.ps) : d_impl_AreTests.f 0 x = none := by kernel_rfl
theorem l_impl_AreTests (k : Nat) : LOK Try.prog x_impl_AreTests k c_impl_AreTests := LOK.by [] (by kernel_rfl) AllOK.nil
theorem s_impl_AreTests (k : Nat) : SoundAt Try.prog k 51 d_impl_AreTests.E := @fn_all Try.prog d_impl_AreTests x_impl_AreTests 51 Try.f51 c_impl_AreTests (by kernel_rfl) (by kernel_rfl) (by kernel_rfl) Try.func51 (by kernel_rfl) (by kernel_rfl) (by kernel_rfl) T_ok g_impl_AreTests l_impl_AreTests z_impl_AreTests h_impl_AreTests k
end
end Go.Proofs.Ytcmndffpmjinlaa.Vs
