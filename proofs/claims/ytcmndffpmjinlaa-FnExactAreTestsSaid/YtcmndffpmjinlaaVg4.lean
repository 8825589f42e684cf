/- Functions of the program by plain functions, each with its contract. -/
import Derived.Test.YtcmndffpmjinlaaVsT
import Derived.Test.YtcmndffpmjinlaaVg0
import Derived.Test.YtcmndffpmjinlaaVg1
import Derived.Test.YtcmndffpmjinlaaVg2
import Derived.Test.YtcmndffpmjinlaaVg3
set_option maxRecDepth 100000
set_option linter.unusedVariables false
set_option linter.unusedSimpArgs false
namespace Go.Proofs.Ytcmndffpmjinlaa.Vs
open Go.RowKit
noncomputable section
/-! function 4 -/
noncomputable def r_laws_FnExactFlipsToWin : List PK := [{ t := Ty.bool }]
noncomputable def q_laws_FnExactFlipsToWin : List PK := [{ t := Ty.slice (3 : Nat) (Ty.int IntKind.i64) }, { t := Ty.int IntKind.i64 }]
noncomputable def to_laws_FnExactFlipsToWin (r : Bool) : Tup r_laws_FnExactFlipsToWin × OutD := ((r, ()), none)
noncomputable def of_laws_FnExactFlipsToWin : Tup r_laws_FnExactFlipsToWin × OutD → Option (Bool)
  | (a, none) => some (a.1)
  | _ => none
theorem to_of_laws_FnExactFlipsToWin : ∀ b r, of_laws_FnExactFlipsToWin b = some r → to_laws_FnExactFlipsToWin r = b := by
  rintro ⟨a, o⟩ r h
  cases o with
  | none => injection h with h; subst h; rfl
  | some _ => cases h
noncomputable def f_laws_FnExactFlipsToWin : Nat → List Int → Int → Option Bool
  | 0, _, _ => none
  | k + 1, p0, p1 =>
    if decide ((↑(List.length p0) : Int) > (1048576 : Int)) = true then some true else Option.bind (f_laws_toIntS k p0) fun z0 => Option.bind (f_spec_FlipsToWin k z0 p1) fun z1 => Option.bind (f_laws_toIntS k p0) fun z2 => Option.bind (f_impl_FlipsToWin k z2 p1) fun z3 => if decide (Prod.fst z3 ≠ Prod.fst z1) = true then some false else if (!Prod.snd z3 == Prod.snd z1) = true then some false else Option.bind (f_laws_toIntS k p0) fun z4 => Option.bind (f_laws_eqIntS k z2 z4) fun z5 => if (!z5) = true then some false else some true
noncomputable def d_laws_FnExactFlipsToWin : FnDef := .of q_laws_FnExactFlipsToWin r_laws_FnExactFlipsToWin (Bool) (fun k x => f_laws_FnExactFlipsToWin k x.1 x.2.1) to_laws_FnExactFlipsToWin of_laws_FnExactFlipsToWin to_of_laws_FnExactFlipsToWin
noncomputable def c_laws_FnExactFlipsToWin : Code := Try.f4.body.getD .skip
noncomputable def x_laws_FnExactFlipsToWin : Ctx (Tup r_laws_FnExactFlipsToWin × OutD) := { T := T, G := [(18, d_laws_toIntS.E), (17, d_spec_FlipsToWin.E), (19, d_impl_FlipsToWin.E), (20, d_laws_eqIntS.E)], mvs := [], no := 0, n := 41, res := resOf T q_laws_FnExactFlipsToWin r_laws_FnExactFlipsToWin Try.f4.results.toList, loops := [], regs := [], conds := [] }
theorem g_laws_FnExactFlipsToWin (k : Nat) : EnvOK Try.prog k x_laws_FnExactFlipsToWin.G := (EnvOK.cons (s_laws_toIntS k) (EnvOK.cons (s_spec_FlipsToWin k) (EnvOK.cons (s_impl_FlipsToWin k) (EnvOK.cons (s_laws_eqIntS k) (EnvOK.nil mixed)))))
theorem h_laws_FnExactFlipsToWin (k : Nat) (x : Tup d_laws_FnExactFlipsToWin.ps) : d_laws_FnExactFlipsToWin.f (k + 1) x = fnK d_laws_FnExactFlipsToWin x_laws_FnExactFlipsToWin c_laws_FnExactFlipsToWin k x := by kernel_rfl
theorem z_laws_FnExactFlipsToWin (x : Tup d_laws_FnExactFlipsToWin.ps) : d_laws_FnExactFlipsToWin.f 0 x = none := by kernel_rfl
theorem l_laws_FnExactFlipsToWin (k : Nat) : LOK Try.prog x_laws_FnExactFlipsToWin k c_laws_FnExactFlipsToWin := LOK.by [] (by kernel_rfl) AllOK.nil
theorem s_laws_FnExactFlipsToWin (k : Nat) : SoundAt Try.prog k 4 d_laws_FnExactFlipsToWin.E := @fn_all Try.prog d_laws_FnExactFlipsToWin x_laws_FnExactFlipsToWin 4 Try.f4 c_laws_FnExactFlipsToWin (by kernel_rfl) (by kernel_rfl) (by kernel_rfl) Try.func4 (by kernel_rfl) (by kernel_rfl) (by kernel_rfl) T_ok g_laws_FnExactFlipsToWin l_laws_FnExactFlipsToWin z_laws_FnExactFlipsToWin h_laws_FnExactFlipsToWin k
/-! function 10 -/
noncomputable def r_laws_FnExactIsShop : List PK := [{ t := Ty.bool }]
noncomputable def q_laws_FnExactIsShop : List PK := [{ t := Ty.pair (Ty.slice (3 : Nat) (Ty.int IntKind.i64)) (Ty.slice (95 : Nat) (Ty.pair (Ty.int IntKind.i64) (Ty.pair (Ty.int IntKind.i64) (Ty.pair (Ty.int IntKind.i64) (Ty.int IntKind.i64))))), agg := true }]
noncomputable def to_laws_FnExactIsShop (r : Bool) : Tup r_laws_FnExactIsShop × OutD := ((r, ()), none)
noncomputable def of_laws_FnExactIsShop : Tup r_laws_FnExactIsShop × OutD → Option (Bool)
  | (a, none) => some (a.1)
  | _ => none
theorem to_of_laws_FnExactIsShop : ∀ b r, of_laws_FnExactIsShop b = some r → to_laws_FnExactIsShop r = b := by
  rintro ⟨a, o⟩ r h
  cases o with
  | none => injection h with h; subst h; rfl
  | some _ => cases h
noncomputable def f_laws_FnExactIsShop : Nat → List Int × List (Int × Int × Int × Int) → Option Bool
  | 0, _ => none
  | k + 1, p0 =>
    Option.bind (f_laws_szShop k (Prod.fst p0, Prod.snd p0) (1048576 : Int)) fun z0 => if decide (z0 < (0 : Int)) = true then some true else Option.bind (f_laws_toShop k (Prod.fst p0, Prod.snd p0)) fun z1 => Option.bind (f_spec_IsShop k (Prod.fst z1, Prod.snd z1)) fun z2 => Option.bind (f_laws_toShop k (Prod.fst p0, Prod.snd p0)) fun z3 => Option.bind (f_impl_IsShop k (Prod.fst z3, Prod.snd z3)) fun z4 => if (!z4 == z2) = true then some false else Option.bind (f_laws_toShop k (Prod.fst p0, Prod.snd p0)) fun z5 => Option.bind (f_laws_eqShop k (Prod.fst z3, Prod.snd z3) (Prod.fst z5, Prod.snd z5)) fun z6 => if (!z6) = true then some false else some true
noncomputable def d_laws_FnExactIsShop : FnDef := .of q_laws_FnExactIsShop r_laws_FnExactIsShop (Bool) (fun k x => f_laws_FnExactIsShop k x.1) to_laws_FnExactIsShop of_laws_FnExactIsShop to_of_laws_FnExactIsShop
noncomputable def c_laws_FnExactIsShop : Code := Try.f10.body.getD .skip
noncomputable def x_laws_FnExactIsShop : Ctx (Tup r_laws_FnExactIsShop × OutD) := { T := T, G := [(31, d_laws_szShop.E), (33, d_laws_toShop.E), (32, d_spec_IsShop.E), (34, d_impl_IsShop.E), (35, d_laws_eqShop.E)], mvs := [], no := 0, n := 27, res := resOf T q_laws_FnExactIsShop r_laws_FnExactIsShop Try.f10.results.toList, loops := [], regs := [], conds := [] }
theorem g_laws_FnExactIsShop (k : Nat) : EnvOK Try.prog k x_laws_FnExactIsShop.G := (EnvOK.cons (s_laws_szShop k) (EnvOK.cons (s_laws_toShop k) (EnvOK.cons (s_spec_IsShop k) (EnvOK.cons (s_impl_IsShop k) (EnvOK.cons (s_laws_eqShop k) (EnvOK.nil mixed))))))
theorem h_laws_FnExactIsShop (k : Nat) (x : Tup d_laws_FnExactIsShop.ps) : d_laws_FnExactIsShop.f (k + 1) x = fnK d_laws_FnExactIsShop x_laws_FnExactIsShop c_laws_FnExactIsShop k x := by kernel_rfl
theorem z_laws_FnExactIsShop (x : Tup d_laws_FnExactIsShop.ps) : d_laws_FnExactIsShop.f 0 x = none := by kernel_rfl
theorem l_laws_FnExactIsShop (k : Nat) : LOK Try.prog x_laws_FnExactIsShop k c_laws_FnExactIsShop := LOK.by [] (by kernel_rfl) AllOK.nil
theorem s_laws_FnExactIsShop (k : Nat) : SoundAt Try.prog k 10 d_laws_FnExactIsShop.E := @fn_all Try.prog d_laws_FnExactIsShop x_laws_FnExactIsShop 10 Try.f10 c_laws_FnExactIsShop (by kernel_rfl) (by kernel_rfl) (by kernel_rfl) Try.func10 (by kernel_rfl) (by kernel_rfl) (by kernel_rfl) T_ok g_laws_FnExactIsShop l_laws_FnExactIsShop z_laws_FnExactIsShop h_laws_FnExactIsShop k
/-! function 21 -/
noncomputable def r_spec_ChanceRight : List PK := [{ t := Ty.int IntKind.i64 }, { t := Ty.int IntKind.i64 }, { t := Ty.bool }]
noncomputable def q_spec_ChanceRight : List PK := [{ t := Ty.int IntKind.i64 }, { t := Ty.int IntKind.i64 }, { t := Ty.int IntKind.i64 }]
noncomputable def to_spec_ChanceRight (r : Int × Int × Bool) : Tup r_spec_ChanceRight × OutD := ((r.1, r.2.1, r.2.2, ()), none)
noncomputable def of_spec_ChanceRight : Tup r_spec_ChanceRight × OutD → Option (Int × Int × Bool)
  | (a, none) => some (a.1, a.2.1, a.2.2.1)
  | _ => none
theorem to_of_spec_ChanceRight : ∀ b r, of_spec_ChanceRight b = some r → to_spec_ChanceRight r = b := by
  rintro ⟨a, o⟩ r h
  cases o with
  | none => injection h with h; subst h; rfl
  | some _ => cases h
noncomputable def f_spec_ChanceRight : Nat → Int → Int → Int → Option (Int × Int × Bool)
  | 0, _, _, _ => none
  | k + 1, p0, p1, p2 =>
    Option.bind (f_spec_voCopies k p0) fun z0 => if (!z0) = true then some ((0 : Int), (0 : Int), false) else if decide (Int.tmod p0 (2 : Int) = (0 : Int)) = true then some ((0 : Int), (0 : Int), false) else Option.bind (f_spec_voWrong k p1 p2) fun z1 => if (!z1) = true then some ((0 : Int), (0 : Int), false) else Option.bind (f_spec_voChance k p0 p1 p2) fun z2 => some (Prod.fst z2, Prod.snd z2, true)
noncomputable def d_spec_ChanceRight : FnDef := .of q_spec_ChanceRight r_spec_ChanceRight (Int × Int × Bool) (fun k x => f_spec_ChanceRight k x.1 x.2.1 x.2.2.1) to_spec_ChanceRight of_spec_ChanceRight to_of_spec_ChanceRight
noncomputable def c_spec_ChanceRight : Code := Try.f21.body.getD .skip
noncomputable def x_spec_ChanceRight : Ctx (Tup r_spec_ChanceRight × OutD) := { T := T, G := [(53, d_spec_voCopies.E), (58, d_spec_voWrong.E), (59, d_spec_voChance.E)], mvs := [], no := 0, n := 34, res := resOf T q_spec_ChanceRight r_spec_ChanceRight Try.f21.results.toList, loops := [], regs := [], conds := [] }
theorem g_spec_ChanceRight (k : Nat) : EnvOK Try.prog k x_spec_ChanceRight.G := (EnvOK.cons (s_spec_voCopies k) (EnvOK.cons (s_spec_voWrong k) (EnvOK.cons (s_spec_voChance k) (EnvOK.nil mixed))))
theorem h_spec_ChanceRight (k : Nat) (x : Tup d_spec_ChanceRight.ps) : d_spec_ChanceRight.f (k + 1) x = fnK d_spec_ChanceRight x_spec_ChanceRight c_spec_ChanceRight k x := by kernel_rfl
theorem z_spec_ChanceRight (x : Tup d_spec_ChanceRight.ps) : d_spec_ChanceRight.f 0 x = none := by kernel_rfl
theorem l_spec_ChanceRight (k : Nat) : LOK Try.prog x_spec_ChanceRight k c_spec_ChanceRight := LOK.by [] (by kernel_rfl) AllOK.nil
theorem s_spec_ChanceRight (k : Nat) : SoundAt Try.prog k 21 d_spec_ChanceRight.E := @fn_all Try.prog d_spec_ChanceRight x_spec_ChanceRight 21 Try.f21 c_spec_ChanceRight (by kernel_rfl) (by kernel_rfl) (by kernel_rfl) Try.func21 (by kernel_rfl) (by kernel_rfl) (by kernel_rfl) T_ok g_spec_ChanceRight l_spec_ChanceRight z_spec_ChanceRight h_spec_ChanceRight k
/-! function 25 -/
noncomputable def r_spec_LeastCopies : List PK := [{ t := Ty.int IntKind.i64 }, { t := Ty.bool }]
noncomputable def q_spec_LeastCopies : List PK := [{ t := Ty.int IntKind.i64 }, { t := Ty.int IntKind.i64 }, { t := Ty.int IntKind.i64 }, { t := Ty.int IntKind.i64 }]
noncomputable def to_spec_LeastCopies (r : Int × Bool) : Tup r_spec_LeastCopies × OutD := ((r.1, r.2, ()), none)
noncomputable def of_spec_LeastCopies : Tup r_spec_LeastCopies × OutD → Option (Int × Bool)
  | (a, none) => some (a.1, a.2.1)
  | _ => none
theorem to_of_spec_LeastCopies : ∀ b r, of_spec_LeastCopies b = some r → to_spec_LeastCopies r = b := by
  rintro ⟨a, o⟩ r h
  cases o with
  | none => injection h with h; subst h; rfl
  | some _ => cases h
noncomputable def f_spec_LeastCopies_0 : Nat → Int → Int → Int → Int → Int → Option (LR Unit (Int × Bool))
  | 0, _, _, _, _, _ => none
  | k + 1, v0, v1, v2, v3, v10 =>
    if decide (v10 ≤ (9 : Int)) = true then Option.bind (f_spec_voChance k v10 v0 v1) fun z3 => if decide (wrap64 (Prod.fst z3 * v3) ≥ wrap64 (v2 * Prod.snd z3)) = true then some (LR.ret (v10, true)) else f_spec_LeastCopies_0 k v0 v1 v2 v3 (wrap64 (v10 + (2 : Int))) else some (LR.go ())
noncomputable def f_spec_LeastCopies_0i : Spec := { objs := [OSh.ro], tmps := [((0 : Nat), TSh.at (Sh.int IntKind.i64)), ((1 : Nat), TSh.at (Sh.int IntKind.i64)), ((2 : Nat), TSh.at (Sh.int IntKind.i64)), ((3 : Nat), TSh.at (Sh.int IntKind.i64)), ((10 : Nat), TSh.at (Sh.int IntKind.i64))] }
noncomputable def f_spec_LeastCopies_0o : Spec := { objs := [OSh.ro], tmps := [] }
noncomputable def f_spec_LeastCopies_0D : LoopDef (Tup r_spec_LeastCopies × OutD) := .rets f_spec_LeastCopies_0i f_spec_LeastCopies_0o (Unit) (Int × Bool) (fun k x => f_spec_LeastCopies_0 k x.2.1 x.2.2.1 x.2.2.2.1 x.2.2.2.2.1 x.2.2.2.2.2.1) (fun z => (((), ()), (()))) (fun y => ()) (fun _ => rfl) to_spec_LeastCopies of_spec_LeastCopies to_of_spec_LeastCopies
noncomputable def f_spec_LeastCopies : Nat → Int → Int → Int → Int → Option (Int × Bool)
  | 0, _, _, _, _ => none
  | k + 1, p0, p1, p2, p3 =>
    Option.bind (f_spec_voWrong k p0 p1) fun z0 => if (!z0) = true then some ((0 : Int), false) else Option.bind (f_spec_l1In k p3 (1 : Int) (1000 : Int)) fun z1 => if (!z1) = true then some ((0 : Int), false) else Option.bind (f_spec_l1In k p2 (0 : Int) p3) fun z2 => if (!z2) = true then some ((0 : Int), false) else Option.bind (f_spec_LeastCopies_0 k p0 p1 p2 p3 (1 : Int)) fun z4 => LR.on z4 (fun y4 => some ((0 : Int), false)) fun r4 => some r4
noncomputable def d_spec_LeastCopies : FnDef := .of q_spec_LeastCopies r_spec_LeastCopies (Int × Bool) (fun k x => f_spec_LeastCopies k x.1 x.2.1 x.2.2.1 x.2.2.2.1) to_spec_LeastCopies of_spec_LeastCopies to_of_spec_LeastCopies
noncomputable def c_spec_LeastCopies : Code := Try.f25.body.getD .skip
noncomputable def x_spec_LeastCopies : Ctx (Tup r_spec_LeastCopies × OutD) := { T := T, G := [(58, d_spec_voWrong.E), (55, d_spec_l1In.E), (59, d_spec_voChance.E)], mvs := [], no := 0, n := 47, res := resOf T q_spec_LeastCopies r_spec_LeastCopies Try.f25.results.toList, loops := [(0, f_spec_LeastCopies_0D.E)], regs := [], conds := [] }
theorem g_spec_LeastCopies (k : Nat) : EnvOK Try.prog k x_spec_LeastCopies.G := (EnvOK.cons (s_spec_voWrong k) (EnvOK.cons (s_spec_l1In k) (EnvOK.cons (s_spec_voChance k) (EnvOK.nil mixed))))
noncomputable def f_spec_LeastCopies_0B : Code := (findLoop 0 c_spec_LeastCopies).getD .skip
theorem f_spec_LeastCopies_0h (k : Nat) (x : f_spec_LeastCopies_0i.D) : f_spec_LeastCopies_0D.lp (k + 1) x = loopK x_spec_LeastCopies f_spec_LeastCopies_0D 0 f_spec_LeastCopies_0B k x := by kernel_rfl
theorem f_spec_LeastCopies_0l (k : Nat) : LOK Try.prog x_spec_LeastCopies k f_spec_LeastCopies_0B := LOK.by [] (by kernel_rfl) AllOK.nil
theorem f_spec_LeastCopies_0z (x : f_spec_LeastCopies_0i.D) : f_spec_LeastCopies_0D.lp 0 x = none := by kernel_rfl
theorem f_spec_LeastCopies_0ok (k : Nat) : EOK Try.prog x_spec_LeastCopies k f_spec_LeastCopies_0D.E (.block 0 (.loop f_spec_LeastCopies_0B)) := loop_ok T_ok g_spec_LeastCopies f_spec_LeastCopies_0z f_spec_LeastCopies_0h f_spec_LeastCopies_0l k
theorem h_spec_LeastCopies (k : Nat) (x : Tup d_spec_LeastCopies.ps) : d_spec_LeastCopies.f (k + 1) x = fnK d_spec_LeastCopies x_spec_LeastCopies c_spec_LeastCopies k x := by kernel_rfl
theorem z_spec_LeastCopies (x : Tup d_spec_LeastCopies.ps) : d_spec_LeastCopies.f 0 x = none := by kernel_rfl
theorem l_spec_LeastCopies (k : Nat) : LOK Try.prog x_spec_LeastCopies k c_spec_LeastCopies := LOK.by [(f_spec_LeastCopies_0D.E, .block 0 (.loop f_spec_LeastCopies_0B))] (by kernel_rfl) (AllOK.cons (f_spec_LeastCopies_0ok k) AllOK.nil)
theorem s_spec_LeastCopies (k : Nat) : SoundAt Try.prog k 25 d_spec_LeastCopies.E := @fn_all Try.prog d_spec_LeastCopies x_spec_LeastCopies 25 Try.f25 c_spec_LeastCopies (by kernel_rfl) (by kernel_rfl) (by kernel_rfl) Try.func25 (by kernel_rfl) (by kernel_rfl) (by kernel_rfl) T_ok g_spec_LeastCopies l_spec_LeastCopies z_spec_LeastCopies h_spec_LeastCopies k
/-! function 49 -/
noncomputable def r_spec_AreTests : List PK := [{ t := Ty.bool }, { t := Ty.bool }]
noncomputable def q_spec_AreTests : List PK := [{ t := Ty.pair (Ty.int IntKind.i64) (Ty.pair (Ty.int IntKind.i64) (Ty.slice (98 : Nat) (Ty.pair (Ty.int IntKind.i64) (Ty.int IntKind.i64)))), agg := true }, { t := Ty.slice (25 : Nat) (Ty.slice (3 : Nat) (Ty.int IntKind.i64)) }]
noncomputable def to_spec_AreTests (r : Bool × Bool) : Tup r_spec_AreTests × OutD := ((r.1, r.2, ()), none)
noncomputable def of_spec_AreTests : Tup r_spec_AreTests × OutD → Option (Bool × Bool)
  | (a, none) => some (a.1, a.2.1)
  | _ => none
theorem to_of_spec_AreTests : ∀ b r, of_spec_AreTests b = some r → to_spec_AreTests r = b := by
  rintro ⟨a, o⟩ r h
  cases o with
  | none => injection h with h; subst h; rfl
  | some _ => cases h
noncomputable def f_spec_AreTests : Nat → Int × Int × List (Int × Int) → List (List Int) → Option (Bool × Bool)
  | 0, _, _ => none
  | k + 1, p0, p1 =>
    Option.bind (f_spec_tsGood k (Prod.fst p0, Prod.fst (Prod.snd p0), Prod.snd (Prod.snd p0))) fun z0 => if (!z0) = true then some (false, false) else Option.bind (f_spec_tsTests k (Prod.fst p0, Prod.fst (Prod.snd p0), Prod.snd (Prod.snd p0)) p1) fun z1 => some (z1, true)
noncomputable def d_spec_AreTests : FnDef := .of q_spec_AreTests r_spec_AreTests (Bool × Bool) (fun k x => f_spec_AreTests k x.1 x.2.1) to_spec_AreTests of_spec_AreTests to_of_spec_AreTests
noncomputable def c_spec_AreTests : Code := Try.f49.body.getD .skip
noncomputable def x_spec_AreTests : Ctx (Tup r_spec_AreTests × OutD) := { T := T, G := [(82, d_spec_tsGood.E), (83, d_spec_tsTests.E)], mvs := [], no := 0, n := 12, res := resOf T q_spec_AreTests r_spec_AreTests Try.f49.results.toList, loops := [], regs := [], conds := [] }
theorem g_spec_AreTests (k : Nat) : EnvOK Try.prog k x_spec_AreTests.G := (EnvOK.cons (s_spec_tsGood k) (EnvOK.cons (s_spec_tsTests k) (EnvOK.nil mixed)))
theorem h_spec_AreTests (k : Nat) (x : Tup d_spec_AreTests.ps) : d_spec_AreTests.f (k + 1) x = fnK d_spec_AreTests x_spec_AreTests c_spec_AreTests k x := by kernel_rfl
theorem z_spec_AreTests (x : Tup d_spec_AreTests.ps) : d_spec_AreTests.f 0 x = none := by kernel_rfl
theorem l_spec_AreTests (k : Nat) : LOK Try.prog x_spec_AreTests k c_spec_AreTests := LOK.by [] (by kernel_rfl) AllOK.nil
theorem s_spec_AreTests (k : Nat) : SoundAt Try.prog k 49 d_spec_AreTests.E := @fn_all Try.prog d_spec_AreTests x_spec_AreTests 49 Try.f49 c_spec_AreTests (by kernel_rfl) (by kernel_rfl) (by kernel_rfl) Try.func49 (by kernel_rfl) (by kernel_rfl) (by kernel_rfl) T_ok g_spec_AreTests l_spec_AreTests z_spec_AreTests h_spec_AreTests k
/-! function 86 -/
noncomputable def r_impl_areTests : List PK := [{ t := Ty.bool }]
noncomputable def q_impl_areTests : List PK := [{ t := Ty.pair (Ty.int IntKind.i64) (Ty.pair (Ty.int IntKind.i64) (Ty.slice (98 : Nat) (Ty.pair (Ty.int IntKind.i64) (Ty.int IntKind.i64)))), agg := true }, { t := Ty.slice (25 : Nat) (Ty.slice (3 : Nat) (Ty.int IntKind.i64)) }]
noncomputable def to_impl_areTests (r : Bool) : Tup r_impl_areTests × OutD := ((r, ()), none)
noncomputable def of_impl_areTests : Tup r_impl_areTests × OutD → Option (Bool)
  | (a, none) => some (a.1)
  | _ => none
theorem to_of_impl_areTests : ∀ b r, of_impl_areTests b = some r → to_impl_areTests r = b := by
  rintro ⟨a, o⟩ r h
  cases o with
  | none => injection h with h; subst h; rfl
  | some _ => cases h
noncomputable def f_impl_areTests_0 : Nat → Int → Int → List (Int × Int) → List (List Int) → Int → Int → Option (LR Unit Bool)
  | 0, _, _, _, _, _, _ => none
  | k + 1, b1_0, b1_1, b1_2, v21, v22, v23 =>
    if decide (v23 < v22) = true then if (0 : Int) ≤ v23 then if v23 < (↑(List.length v21) : Int) then if decide ((↑(List.length (List.getD v21 (Int.toNat v23) [])) : Int) > (8 : Int)) = true then some (LR.ret false) else Option.bind (f_impl_validEntries k (b1_0, b1_1, b1_2) (List.getD v21 (Int.toNat v23) [])) fun z1 => if (!z1) = true then some (LR.ret false) else f_impl_areTests_0 k b1_0 b1_1 b1_2 v21 v22 (wrap64 (v23 + (1 : Int))) else none else none else some (LR.go ())
noncomputable def f_impl_areTests_0i : Spec := { objs := [OSh.ro, OSh.box (67 : Nat) [Sh.int IntKind.i64, Sh.int IntKind.i64, Sh.snap (0 : Nat) (Ty.pair (Ty.int IntKind.i64) (Ty.int IntKind.i64))]], tmps := [((2 : Nat), TSh.at (Sh.ptr (1 : Nat) (0 : Nat))), ((21 : Nat), TSh.at (Sh.snap (0 : Nat) (Ty.slice (3 : Nat) (Ty.int IntKind.i64)))), ((22 : Nat), TSh.at (Sh.int IntKind.i64)), ((23 : Nat), TSh.at (Sh.int IntKind.i64))] }
noncomputable def f_impl_areTests_0o : Spec := { objs := [OSh.ro], tmps := [] }
noncomputable def f_impl_areTests_0D : LoopDef (Tup r_impl_areTests × OutD) := .rets f_impl_areTests_0i f_impl_areTests_0o (Unit) (Bool) (fun k x => f_impl_areTests_0 k x.1.2.1.1 x.1.2.1.2.1 x.1.2.1.2.2.1 x.2.2.1 x.2.2.2.1 x.2.2.2.2.1) (fun z => (((), ()), (()))) (fun y => ()) (fun _ => rfl) to_impl_areTests of_impl_areTests to_of_impl_areTests
noncomputable def f_impl_areTests : Nat → Int × Int × List (Int × Int) → List (List Int) → Option Bool
  | 0, _, _ => none
  | k + 1, p0, p1 =>
    Option.bind (f_impl_IsBoard k (Prod.fst p0, Prod.fst (Prod.snd p0), Prod.snd (Prod.snd p0))) fun z0 => if (!z0) = true then some false else if decide ((↑(List.length (Prod.snd (Prod.snd p0))) : Int) > (30 : Int)) = true then some false else if decide ((↑(List.length p1) : Int) > (10 : Int)) = true then some false else Option.bind (f_impl_areTests_0 k (Prod.fst p0) (Prod.fst (Prod.snd p0)) (Prod.snd (Prod.snd p0)) p1 (↑(List.length p1) : Int) (0 : Int)) fun z2 => LR.on z2 (fun y2 => some true) fun r2 => some r2
noncomputable def d_impl_areTests : FnDef := .of q_impl_areTests r_impl_areTests (Bool) (fun k x => f_impl_areTests k x.1 x.2.1) to_impl_areTests of_impl_areTests to_of_impl_areTests
noncomputable def c_impl_areTests : Code := Try.f86.body.getD .skip
noncomputable def x_impl_areTests : Ctx (Tup r_impl_areTests × OutD) := { T := T, G := [(85, d_impl_IsBoard.E), (100, d_impl_validEntries.E)], mvs := [], no := 0, n := 37, res := resOf T q_impl_areTests r_impl_areTests Try.f86.results.toList, loops := [(0, f_impl_areTests_0D.E)], regs := [], conds := [] }
theorem g_impl_areTests (k : Nat) : EnvOK Try.prog k x_impl_areTests.G := (EnvOK.cons (s_impl_IsBoard k) (EnvOK.cons (s_impl_validEntries k) (EnvOK.nil mixed)))
noncomputable def f_impl_areTests_0B : Code := (findLoop 0 c_impl_areTests).getD .skip
theorem f_impl_areTests_0h (k : Nat) (x : f_impl_areTests_0i.D) : f_impl_areTests_0D.lp (k + 1) x = loopK x_impl_areTests f_impl_areTests_0D 0 f_impl_areTests_0B k x := by kernel_rfl
theorem f_impl_areTests_0l (k : Nat) : LOK Try.prog x_impl_areTests k f_impl_areTests_0B := LOK.by [] (by kernel_rfl) AllOK.nil
theorem f_impl_areTests_0z (x : f_impl_areTests_0i.D) : f_impl_areTests_0D.lp 0 x = none := by kernel_rfl
theorem f_impl_areTests_0ok (k : Nat) : EOK Try.prog x_impl_areTests k f_impl_areTests_0D.E (.block 0 (.loop f_impl_areTests_0B)) := loop_ok T_ok g_impl_areTests f_impl_areTests_0z f_impl_areTests_0h f_impl_areTests_0l k
theorem h_impl_areTests (k : Nat) (x : Tup d_impl_areTests.ps) : d_impl_areTests.f (k + 1) x = fnK d_impl_areTests x_impl_areTests c_impl_areTests k x := by kernel_rfl
theorem z_impl_areTests (x : Tup d_impl_areTests.ps) : d_impl_areTests.f 0 x = none := by kernel_rfl
theorem l_impl_areTests (k : Nat) : LOK Try.prog x_impl_areTests k c_impl_areTests := LOK.by [(f_impl_areTests_0D.E, .block 0 (.loop f_impl_areTests_0B))] (by kernel_rfl) (AllOK.cons (f_impl_areTests_0ok k) AllOK.nil)
theorem s_impl_areTests (k : Nat) : SoundAt Try.prog k 86 d_impl_areTests.E := @fn_all Try.prog d_impl_areTests x_impl_areTests 86 Try.f86 c_impl_areTests (by kernel_rfl) (by kernel_rfl) (by kernel_rfl) Try.func86 (by kernel_rfl) (by kernel_rfl) (by kernel_rfl) T_ok g_impl_areTests l_impl_areTests z_impl_areTests h_impl_areTests k
end
end Go.Proofs.Ytcmndffpmjinlaa.Vs
