/- Functions of the program by plain functions, each with its contract. -/
import Derived.Test.YtcmndffpmjinlaaVsT
import Derived.Test.YtcmndffpmjinlaaVg0
set_option maxRecDepth 100000
set_option linter.unusedVariables false
set_option linter.unusedSimpArgs false
namespace Go.Proofs.Ytcmndffpmjinlaa.Vs
open Go.RowKit
noncomputable section
/-! function 22 -/
noncomputable def r_impl_ChanceRight : List PK := [{ t := Ty.int IntKind.i64 }, { t := Ty.int IntKind.i64 }, { t := Ty.bool }]
noncomputable def q_impl_ChanceRight : List PK := [{ t := Ty.int IntKind.i64 }, { t := Ty.int IntKind.i64 }, { t := Ty.int IntKind.i64 }]
noncomputable def to_impl_ChanceRight (r : Int × Int × Bool) : Tup r_impl_ChanceRight × OutD := ((r.1, r.2.1, r.2.2, ()), none)
noncomputable def of_impl_ChanceRight : Tup r_impl_ChanceRight × OutD → Option (Int × Int × Bool)
  | (a, none) => some (a.1, a.2.1, a.2.2.1)
  | _ => none
theorem to_of_impl_ChanceRight : ∀ b r, of_impl_ChanceRight b = some r → to_impl_ChanceRight r = b := by
  rintro ⟨a, o⟩ r h
  cases o with
  | none => injection h with h; subst h; rfl
  | some _ => cases h
noncomputable def f_impl_ChanceRight : Nat → Int → Int → Int → Option (Int × Int × Bool)
  | 0, _, _, _ => none
  | k + 1, p0, p1, p2 =>
    if decide (p0 < (1 : Int)) = true then some ((0 : Int), (0 : Int), false) else if decide (p0 > (9 : Int)) = true then some ((0 : Int), (0 : Int), false) else if decide (Int.tmod p0 (2 : Int) = (0 : Int)) = true then some ((0 : Int), (0 : Int), false) else if decide (p2 < (1 : Int)) = true then some ((0 : Int), (0 : Int), false) else if decide (p2 > (10 : Int)) = true then some ((0 : Int), (0 : Int), false) else if decide (p1 < (0 : Int)) = true then some ((0 : Int), (0 : Int), false) else if decide (p1 > p2) = true then some ((0 : Int), (0 : Int), false) else Option.bind (f_impl_chanceRight k p0 p1 p2) fun z0 => some (Prod.fst z0, Prod.snd z0, true)
noncomputable def d_impl_ChanceRight : FnDef := .of q_impl_ChanceRight r_impl_ChanceRight (Int × Int × Bool) (fun k x => f_impl_ChanceRight k x.1 x.2.1 x.2.2.1) to_impl_ChanceRight of_impl_ChanceRight to_of_impl_ChanceRight
noncomputable def c_impl_ChanceRight : Code := Try.f22.body.getD .skip
noncomputable def x_impl_ChanceRight : Ctx (Tup r_impl_ChanceRight × OutD) := { T := T, G := [(60, d_impl_chanceRight.E)], mvs := [], no := 0, n := 48, res := resOf T q_impl_ChanceRight r_impl_ChanceRight Try.f22.results.toList, loops := [], regs := [], conds := [] }
theorem g_impl_ChanceRight (k : Nat) : EnvOK Try.prog k x_impl_ChanceRight.G := (EnvOK.cons (s_impl_chanceRight k) (EnvOK.nil mixed))
theorem h_impl_ChanceRight (k : Nat) (x : Tup d_impl_ChanceRight.ps) : d_impl_ChanceRight.f (k + 1) x = fnK d_impl_ChanceRight x_impl_ChanceRight c_impl_ChanceRight k x := by kernel_rfl
theorem z_impl_ChanceRight (x : Tup d_impl_ChanceRight.ps) : d_impl_ChanceRight.f 0 x = none := by kernel_rfl
theorem l_impl_ChanceRight (k : Nat) : LOK Try.prog x_impl_ChanceRight k c_impl_ChanceRight := LOK.by [] (by kernel_rfl) AllOK.nil
theorem s_impl_ChanceRight (k : Nat) : SoundAt Try.prog k 22 d_impl_ChanceRight.E := @fn_all Try.prog d_impl_ChanceRight x_impl_ChanceRight 22 Try.f22 c_impl_ChanceRight (by kernel_rfl) (by kernel_rfl) (by kernel_rfl) Try.func22 (by kernel_rfl) (by kernel_rfl) (by kernel_rfl) T_ok g_impl_ChanceRight l_impl_ChanceRight z_impl_ChanceRight h_impl_ChanceRight k
/-! function 26 -/
noncomputable def r_impl_LeastCopies : List PK := [{ t := Ty.int IntKind.i64 }, { t := Ty.bool }]
noncomputable def q_impl_LeastCopies : List PK := [{ t := Ty.int IntKind.i64 }, { t := Ty.int IntKind.i64 }, { t := Ty.int IntKind.i64 }, { t := Ty.int IntKind.i64 }]
noncomputable def to_impl_LeastCopies (r : Int × Bool) : Tup r_impl_LeastCopies × OutD := ((r.1, r.2, ()), none)
noncomputable def of_impl_LeastCopies : Tup r_impl_LeastCopies × OutD → Option (Int × Bool)
  | (a, none) => some (a.1, a.2.1)
  | _ => none
theorem to_of_impl_LeastCopies : ∀ b r, of_impl_LeastCopies b = some r → to_impl_LeastCopies r = b := by
  rintro ⟨a, o⟩ r h
  cases o with
  | none => injection h with h; subst h; rfl
  | some _ => cases h
noncomputable def f_impl_LeastCopies_0 : Nat → Int → Int → Int → Int → Int → Option (LR Unit (Int × Bool))
  | 0, _, _, _, _, _ => none
  | k + 1, v0, v1, v2, v3, v10 =>
    if decide (v10 ≤ (9 : Int)) = true then Option.bind (f_impl_chanceRight k v10 v0 v1) fun z0 => if decide (wrap64 (Prod.fst z0 * v3) ≥ wrap64 (v2 * Prod.snd z0)) = true then some (LR.ret (v10, true)) else f_impl_LeastCopies_0 k v0 v1 v2 v3 (wrap64 (v10 + (2 : Int))) else some (LR.go ())
noncomputable def f_impl_LeastCopies_0i : Spec := { objs := [OSh.ro], tmps := [((0 : Nat), TSh.at (Sh.int IntKind.i64)), ((1 : Nat), TSh.at (Sh.int IntKind.i64)), ((2 : Nat), TSh.at (Sh.int IntKind.i64)), ((3 : Nat), TSh.at (Sh.int IntKind.i64)), ((10 : Nat), TSh.at (Sh.int IntKind.i64))] }
noncomputable def f_impl_LeastCopies_0o : Spec := { objs := [OSh.ro], tmps := [] }
noncomputable def f_impl_LeastCopies_0D : LoopDef (Tup r_impl_LeastCopies × OutD) := .rets f_impl_LeastCopies_0i f_impl_LeastCopies_0o (Unit) (Int × Bool) (fun k x => f_impl_LeastCopies_0 k x.2.1 x.2.2.1 x.2.2.2.1 x.2.2.2.2.1 x.2.2.2.2.2.1) (fun z => (((), ()), (()))) (fun y => ()) (fun _ => rfl) to_impl_LeastCopies of_impl_LeastCopies to_of_impl_LeastCopies
noncomputable def f_impl_LeastCopies : Nat → Int → Int → Int → Int → Option (Int × Bool)
  | 0, _, _, _, _ => none
  | k + 1, p0, p1, p2, p3 =>
    if decide (p1 < (1 : Int)) = true then some ((0 : Int), false) else if decide (p1 > (10 : Int)) = true then some ((0 : Int), false) else if decide (p0 < (0 : Int)) = true then some ((0 : Int), false) else if decide (p0 > p1) = true then some ((0 : Int), false) else if decide (p3 < (1 : Int)) = true then some ((0 : Int), false) else if decide (p3 > (1000 : Int)) = true then some ((0 : Int), false) else if decide (p2 < (0 : Int)) = true then some ((0 : Int), false) else if decide (p2 > p3) = true then some ((0 : Int), false) else Option.bind (f_impl_LeastCopies_0 k p0 p1 p2 p3 (1 : Int)) fun z1 => LR.on z1 (fun y1 => some ((0 : Int), false)) fun r1 => some r1
noncomputable def d_impl_LeastCopies : FnDef := .of q_impl_LeastCopies r_impl_LeastCopies (Int × Bool) (fun k x => f_impl_LeastCopies k x.1 x.2.1 x.2.2.1 x.2.2.2.1) to_impl_LeastCopies of_impl_LeastCopies to_of_impl_LeastCopies
noncomputable def c_impl_LeastCopies : Code := Try.f26.body.getD .skip
noncomputable def x_impl_LeastCopies : Ctx (Tup r_impl_LeastCopies × OutD) := { T := T, G := [(60, d_impl_chanceRight.E)], mvs := [], no := 0, n := 64, res := resOf T q_impl_LeastCopies r_impl_LeastCopies Try.f26.results.toList, loops := [(0, f_impl_LeastCopies_0D.E)], regs := [], conds := [] }
theorem g_impl_LeastCopies (k : Nat) : EnvOK Try.prog k x_impl_LeastCopies.G := (EnvOK.cons (s_impl_chanceRight k) (EnvOK.nil mixed))
noncomputable def f_impl_LeastCopies_0B : Code := (findLoop 0 c_impl_LeastCopies).getD .skip
theorem f_impl_LeastCopies_0h (k : Nat) (x : f_impl_LeastCopies_0i.D) : f_impl_LeastCopies_0D.lp (k + 1) x = loopK x_impl_LeastCopies f_impl_LeastCopies_0D 0 f_impl_LeastCopies_0B k x := by kernel_rfl
theorem f_impl_LeastCopies_0l (k : Nat) : LOK Try.prog x_impl_LeastCopies k f_impl_LeastCopies_0B := LOK.by [] (by kernel_rfl) AllOK.nil
theorem f_impl_LeastCopies_0z (x : f_impl_LeastCopies_0i.D) : f_impl_LeastCopies_0D.lp 0 x = none := by kernel_rfl
theorem f_impl_LeastCopies_0ok (k : Nat) : EOK Try.prog x_impl_LeastCopies k f_impl_LeastCopies_0D.E (.block 0 (.loop f_impl_LeastCopies_0B)) := loop_ok T_ok g_impl_LeastCopies f_impl_LeastCopies_0z f_impl_LeastCopies_0h f_impl_LeastCopies_0l k
theorem h_impl_LeastCopies (k : Nat) (x : Tup d_impl_LeastCopies.ps) : d_impl_LeastCopies.f (k + 1) x = fnK d_impl_LeastCopies x_impl_LeastCopies c_impl_LeastCopies k x := by kernel_rfl
theorem z_impl_LeastCopies (x : Tup d_impl_LeastCopies.ps) : d_impl_LeastCopies.f 0 x = none := by kernel_rfl
theorem l_impl_LeastCopies (k : Nat) : LOK Try.prog x_impl_LeastCopies k c_impl_LeastCopies := LOK.by [(f_impl_LeastCopies_0D.E, .block 0 (.loop f_impl_LeastCopies_0B))] (by kernel_rfl) (AllOK.cons (f_impl_LeastCopies_0ok k) AllOK.nil)
theorem s_impl_LeastCopies (k : Nat) : SoundAt Try.prog k 26 d_impl_LeastCopies.E := @fn_all Try.prog d_impl_LeastCopies x_impl_LeastCopies 26 Try.f26 c_impl_LeastCopies (by kernel_rfl) (by kernel_rfl) (by kernel_rfl) Try.func26 (by kernel_rfl) (by kernel_rfl) (by kernel_rfl) T_ok g_impl_LeastCopies l_impl_LeastCopies z_impl_LeastCopies h_impl_LeastCopies k
/-! function 31 -/
noncomputable def r_laws_szShop : List PK := [{ t := Ty.int IntKind.i64 }]
noncomputable def q_laws_szShop : List PK := [{ t := Ty.pair (Ty.slice (3 : Nat) (Ty.int IntKind.i64)) (Ty.slice (95 : Nat) (Ty.pair (Ty.int IntKind.i64) (Ty.pair (Ty.int IntKind.i64) (Ty.pair (Ty.int IntKind.i64) (Ty.int IntKind.i64))))), agg := true }, { t := Ty.int IntKind.i64 }]
noncomputable def to_laws_szShop (r : Int) : Tup r_laws_szShop × OutD := ((r, ()), none)
noncomputable def of_laws_szShop : Tup r_laws_szShop × OutD → Option (Int)
  | (a, none) => some (a.1)
  | _ => none
theorem to_of_laws_szShop : ∀ b r, of_laws_szShop b = some r → to_laws_szShop r = b := by
  rintro ⟨a, o⟩ r h
  cases o with
  | none => injection h with h; subst h; rfl
  | some _ => cases h
noncomputable def f_laws_szShop : Nat → List Int × List (Int × Int × Int × Int) → Int → Option Int
  | 0, _, _ => none
  | k + 1, p0, p1 =>
    Option.bind (f_laws_szIntS k (Prod.fst p0) p1) fun z0 => if decide (z0 < (0 : Int)) = true then some (-1 : Int) else Option.bind (f_laws_szLoanS k (Prod.snd p0) z0) fun z1 => if decide (z1 < (0 : Int)) = true then some (-1 : Int) else some z1
noncomputable def d_laws_szShop : FnDef := .of q_laws_szShop r_laws_szShop (Int) (fun k x => f_laws_szShop k x.1 x.2.1) to_laws_szShop of_laws_szShop to_of_laws_szShop
noncomputable def c_laws_szShop : Code := Try.f31.body.getD .skip
noncomputable def x_laws_szShop : Ctx (Tup r_laws_szShop × OutD) := { T := T, G := [(66, d_laws_szIntS.E), (67, d_laws_szLoanS.E)], mvs := [], no := 0, n := 18, res := resOf T q_laws_szShop r_laws_szShop Try.f31.results.toList, loops := [], regs := [], conds := [] }
theorem g_laws_szShop (k : Nat) : EnvOK Try.prog k x_laws_szShop.G := (EnvOK.cons (s_laws_szIntS k) (EnvOK.cons (s_laws_szLoanS k) (EnvOK.nil mixed)))
theorem h_laws_szShop (k : Nat) (x : Tup d_laws_szShop.ps) : d_laws_szShop.f (k + 1) x = fnK d_laws_szShop x_laws_szShop c_laws_szShop k x := by kernel_rfl
theorem z_laws_szShop (x : Tup d_laws_szShop.ps) : d_laws_szShop.f 0 x = none := by kernel_rfl
theorem l_laws_szShop (k : Nat) : LOK Try.prog x_laws_szShop k c_laws_szShop := LOK.by [] (by kernel_rfl) AllOK.nil
theorem s_laws_szShop (k : Nat) : SoundAt Try.prog k 31 d_laws_szShop.E := @fn_all Try.prog d_laws_szShop x_laws_szShop 31 Try.f31 c_laws_szShop (by kernel_rfl) (by kernel_rfl) (by kernel_rfl) Try.func31 (by kernel_rfl) (by kernel_rfl) (by kernel_rfl) T_ok g_laws_szShop l_laws_szShop z_laws_szShop h_laws_szShop k
/-! function 36 -/
noncomputable def r_laws_szIntSS : List PK := [{ t := Ty.int IntKind.i64 }]
noncomputable def q_laws_szIntSS : List PK := [{ t := Ty.slice (25 : Nat) (Ty.slice (3 : Nat) (Ty.int IntKind.i64)) }, { t := Ty.int IntKind.i64 }]
noncomputable def to_laws_szIntSS (r : Int) : Tup r_laws_szIntSS × OutD := ((r, ()), none)
noncomputable def of_laws_szIntSS : Tup r_laws_szIntSS × OutD → Option (Int)
  | (a, none) => some (a.1)
  | _ => none
theorem to_of_laws_szIntSS : ∀ b r, of_laws_szIntSS b = some r → to_laws_szIntSS r = b := by
  rintro ⟨a, o⟩ r h
  cases o with
  | none => injection h with h; subst h; rfl
  | some _ => cases h
noncomputable def f_laws_szIntSS_0 : Nat → List (List Int) → Int → Int → Option (LR Int Int)
  | 0, _, _, _ => none
  | k + 1, v0, v1, v5 =>
    if decide (v5 < (↑(List.length v0) : Int)) = true then if (0 : Int) ≤ v5 then if v5 < (↑(List.length v0) : Int) then Option.bind (f_laws_szIntS k (List.getD v0 (Int.toNat v5) []) v1) fun z0 => if decide (z0 < (0 : Int)) = true then some (LR.ret (-1 : Int)) else f_laws_szIntSS_0 k v0 z0 (wrap64 (v5 + (1 : Int))) else none else none else some (LR.go v1)
noncomputable def f_laws_szIntSS_0i : Spec := { objs := [OSh.ro], tmps := [((0 : Nat), TSh.at (Sh.snap (0 : Nat) (Ty.slice (3 : Nat) (Ty.int IntKind.i64)))), ((1 : Nat), TSh.at (Sh.int IntKind.i64)), ((5 : Nat), TSh.at (Sh.int IntKind.i64))] }
noncomputable def f_laws_szIntSS_0o : Spec := { objs := [OSh.ro], tmps := [((1 : Nat), TSh.at (Sh.int IntKind.i64))] }
noncomputable def f_laws_szIntSS_0D : LoopDef (Tup r_laws_szIntSS × OutD) := .rets f_laws_szIntSS_0i f_laws_szIntSS_0o (Int) (Int) (fun k x => f_laws_szIntSS_0 k x.2.1 x.2.2.1 x.2.2.2.1) (fun z => (((), ()), (z, ()))) (fun y => (y.2.1)) (fun _ => rfl) to_laws_szIntSS of_laws_szIntSS to_of_laws_szIntSS
noncomputable def f_laws_szIntSS : Nat → List (List Int) → Int → Option Int
  | 0, _, _ => none
  | k + 1, p0, p1 =>
    if decide (wrap64 (p1 - (↑(List.length p0) : Int)) < (0 : Int)) = true then some (-1 : Int) else Option.bind (f_laws_szIntSS_0 k p0 (wrap64 (p1 - (↑(List.length p0) : Int))) (0 : Int)) fun z1 => LR.on z1 (fun y1 => some y1) fun r1 => some r1
noncomputable def d_laws_szIntSS : FnDef := .of q_laws_szIntSS r_laws_szIntSS (Int) (fun k x => f_laws_szIntSS k x.1 x.2.1) to_laws_szIntSS of_laws_szIntSS to_of_laws_szIntSS
noncomputable def c_laws_szIntSS : Code := Try.f36.body.getD .skip
noncomputable def x_laws_szIntSS : Ctx (Tup r_laws_szIntSS × OutD) := { T := T, G := [(66, d_laws_szIntS.E)], mvs := [], no := 0, n := 27, res := resOf T q_laws_szIntSS r_laws_szIntSS Try.f36.results.toList, loops := [(0, f_laws_szIntSS_0D.E)], regs := [], conds := [] }
theorem g_laws_szIntSS (k : Nat) : EnvOK Try.prog k x_laws_szIntSS.G := (EnvOK.cons (s_laws_szIntS k) (EnvOK.nil mixed))
noncomputable def f_laws_szIntSS_0B : Code := (findLoop 0 c_laws_szIntSS).getD .skip
theorem f_laws_szIntSS_0h (k : Nat) (x : f_laws_szIntSS_0i.D) : f_laws_szIntSS_0D.lp (k + 1) x = loopK x_laws_szIntSS f_laws_szIntSS_0D 0 f_laws_szIntSS_0B k x := by kernel_rfl
theorem f_laws_szIntSS_0l (k : Nat) : LOK Try.prog x_laws_szIntSS k f_laws_szIntSS_0B := LOK.by [] (by kernel_rfl) AllOK.nil
theorem f_laws_szIntSS_0z (x : f_laws_szIntSS_0i.D) : f_laws_szIntSS_0D.lp 0 x = none := by kernel_rfl
theorem f_laws_szIntSS_0ok (k : Nat) : EOK Try.prog x_laws_szIntSS k f_laws_szIntSS_0D.E (.block 0 (.loop f_laws_szIntSS_0B)) := loop_ok T_ok g_laws_szIntSS f_laws_szIntSS_0z f_laws_szIntSS_0h f_laws_szIntSS_0l k
theorem h_laws_szIntSS (k : Nat) (x : Tup d_laws_szIntSS.ps) : d_laws_szIntSS.f (k + 1) x = fnK d_laws_szIntSS x_laws_szIntSS c_laws_szIntSS k x := by kernel_rfl
theorem z_laws_szIntSS (x : Tup d_laws_szIntSS.ps) : d_laws_szIntSS.f 0 x = none := by kernel_rfl
theorem l_laws_szIntSS (k : Nat) : LOK Try.prog x_laws_szIntSS k c_laws_szIntSS := LOK.by [(f_laws_szIntSS_0D.E, .block 0 (.loop f_laws_szIntSS_0B))] (by kernel_rfl) (AllOK.cons (f_laws_szIntSS_0ok k) AllOK.nil)
theorem s_laws_szIntSS (k : Nat) : SoundAt Try.prog k 36 d_laws_szIntSS.E := @fn_all Try.prog d_laws_szIntSS x_laws_szIntSS 36 Try.f36 c_laws_szIntSS (by kernel_rfl) (by kernel_rfl) (by kernel_rfl) Try.func36 (by kernel_rfl) (by kernel_rfl) (by kernel_rfl) T_ok g_laws_szIntSS l_laws_szIntSS z_laws_szIntSS h_laws_szIntSS k
/-! function 38 -/
noncomputable def r_laws_toIntSS : List PK := [{ t := Ty.slice (25 : Nat) (Ty.slice (3 : Nat) (Ty.int IntKind.i64)) }]
noncomputable def q_laws_toIntSS : List PK := [{ t := Ty.slice (25 : Nat) (Ty.slice (3 : Nat) (Ty.int IntKind.i64)) }]
noncomputable def to_laws_toIntSS (r : List (List Int)) : Tup r_laws_toIntSS × OutD := ((r, ()), none)
noncomputable def of_laws_toIntSS : Tup r_laws_toIntSS × OutD → Option (List (List Int))
  | (a, none) => some (a.1)
  | _ => none
theorem to_of_laws_toIntSS : ∀ b r, of_laws_toIntSS b = some r → to_laws_toIntSS r = b := by
  rintro ⟨a, o⟩ r h
  cases o with
  | none => injection h with h; subst h; rfl
  | some _ => cases h
noncomputable def f_laws_toIntSS_0 : Nat → List (List Int) → List (List Int) → Int → Option (List (List Int))
  | 0, _, _, _ => none
  | k + 1, o1, v0, v4 =>
    if decide (v4 < (↑(List.length v0) : Int)) = true then if (0 : Int) ≤ v4 then if v4 < (↑(List.length v0) : Int) then Option.bind (f_laws_toIntS k (List.getD v0 (Int.toNat v4) [])) fun z0 => if (0 : Int) ≤ v4 then if v4 < (↑(List.length o1) : Int) then f_laws_toIntSS_0 k (List.set o1 (Int.toNat v4) z0) v0 (wrap64 (v4 + (1 : Int))) else none else none else none else none else some o1
noncomputable def f_laws_toIntSS_0i : Spec := { objs := [OSh.ro, OSh.row true (25 : Nat) (Ty.slice (3 : Nat) (Ty.int IntKind.i64))], tmps := [((0 : Nat), TSh.at (Sh.snap (0 : Nat) (Ty.slice (3 : Nat) (Ty.int IntKind.i64)))), ((3 : Nat), TSh.at (Sh.sl (1 : Nat))), ((4 : Nat), TSh.at (Sh.int IntKind.i64))] }
noncomputable def f_laws_toIntSS_0o : Spec := { objs := [OSh.ro, OSh.row true (25 : Nat) (Ty.slice (3 : Nat) (Ty.int IntKind.i64))], tmps := [((3 : Nat), TSh.at (Sh.sl (1 : Nat)))] }
noncomputable def f_laws_toIntSS_0D : LoopDef (Tup r_laws_toIntSS × OutD) := .plain f_laws_toIntSS_0i f_laws_toIntSS_0o (List (List Int)) (fun k x => f_laws_toIntSS_0 k x.1.2.1 x.2.1 x.2.2.2.1) (fun z => (((), z, ()), ((), ()))) (fun y => (y.1.2.1)) (fun _ => rfl)
noncomputable def f_laws_toIntSS : Nat → List (List Int) → Option (List (List Int))
  | 0, _ => none
  | k + 1, p0 =>
    if Int.toNat (↑(List.length p0) : Int) * (24 : Nat) ≤ (281474976710656 : Nat) then Option.bind (f_laws_toIntSS_0 k (List.replicate (Int.toNat (↑(List.length p0) : Int)) []) p0 (0 : Int)) fun z1 => some z1 else none
noncomputable def d_laws_toIntSS : FnDef := .of q_laws_toIntSS r_laws_toIntSS (List (List Int)) (fun k x => f_laws_toIntSS k x.1) to_laws_toIntSS of_laws_toIntSS to_of_laws_toIntSS
noncomputable def c_laws_toIntSS : Code := Try.f38.body.getD .skip
noncomputable def x_laws_toIntSS : Ctx (Tup r_laws_toIntSS × OutD) := { T := T, G := [(18, d_laws_toIntS.E)], mvs := [], no := 0, n := 23, res := resOf T q_laws_toIntSS r_laws_toIntSS Try.f38.results.toList, loops := [(0, f_laws_toIntSS_0D.E)], regs := [], conds := [] }
theorem g_laws_toIntSS (k : Nat) : EnvOK Try.prog k x_laws_toIntSS.G := (EnvOK.cons (s_laws_toIntS k) (EnvOK.nil mixed))
noncomputable def f_laws_toIntSS_0B : Code := (findLoop 0 c_laws_toIntSS).getD .skip
theorem f_laws_toIntSS_0h (k : Nat) (x : f_laws_toIntSS_0i.D) : f_laws_toIntSS_0D.lp (k + 1) x = loopK x_laws_toIntSS f_laws_toIntSS_0D 0 f_laws_toIntSS_0B k x := by kernel_rfl
theorem f_laws_toIntSS_0l (k : Nat) : LOK Try.prog x_laws_toIntSS k f_laws_toIntSS_0B := LOK.by [] (by kernel_rfl) AllOK.nil
theorem f_laws_toIntSS_0z (x : f_laws_toIntSS_0i.D) : f_laws_toIntSS_0D.lp 0 x = none := by kernel_rfl
theorem f_laws_toIntSS_0ok (k : Nat) : EOK Try.prog x_laws_toIntSS k f_laws_toIntSS_0D.E (.block 0 (.loop f_laws_toIntSS_0B)) := loop_ok T_ok g_laws_toIntSS f_laws_toIntSS_0z f_laws_toIntSS_0h f_laws_toIntSS_0l k
theorem h_laws_toIntSS (k : Nat) (x : Tup d_laws_toIntSS.ps) : d_laws_toIntSS.f (k + 1) x = fnK d_laws_toIntSS x_laws_toIntSS c_laws_toIntSS k x := by kernel_rfl
theorem z_laws_toIntSS (x : Tup d_laws_toIntSS.ps) : d_laws_toIntSS.f 0 x = none := by kernel_rfl
theorem l_laws_toIntSS (k : Nat) : LOK Try.prog x_laws_toIntSS k c_laws_toIntSS := LOK.by [(f_laws_toIntSS_0D.E, .block 0 (.loop f_laws_toIntSS_0B))] (by kernel_rfl) (AllOK.cons (f_laws_toIntSS_0ok k) AllOK.nil)
theorem s_laws_toIntSS (k : Nat) : SoundAt Try.prog k 38 d_laws_toIntSS.E := @fn_all Try.prog d_laws_toIntSS x_laws_toIntSS 38 Try.f38 c_laws_toIntSS (by kernel_rfl) (by kernel_rfl) (by kernel_rfl) Try.func38 (by kernel_rfl) (by kernel_rfl) (by kernel_rfl) T_ok g_laws_toIntSS l_laws_toIntSS z_laws_toIntSS h_laws_toIntSS k
/-! function 40 -/
noncomputable def r_laws_eqIntSS : List PK := [{ t := Ty.bool }]
noncomputable def q_laws_eqIntSS : List PK := [{ t := Ty.slice (25 : Nat) (Ty.slice (3 : Nat) (Ty.int IntKind.i64)) }, { t := Ty.slice (25 : Nat) (Ty.slice (3 : Nat) (Ty.int IntKind.i64)) }]
noncomputable def to_laws_eqIntSS (r : Bool) : Tup r_laws_eqIntSS × OutD := ((r, ()), none)
noncomputable def of_laws_eqIntSS : Tup r_laws_eqIntSS × OutD → Option (Bool)
  | (a, none) => some (a.1)
  | _ => none
theorem to_of_laws_eqIntSS : ∀ b r, of_laws_eqIntSS b = some r → to_laws_eqIntSS r = b := by
  rintro ⟨a, o⟩ r h
  cases o with
  | none => injection h with h; subst h; rfl
  | some _ => cases h
noncomputable def f_laws_eqIntSS_0 : Nat → List (List Int) → List (List Int) → Int → Option (LR Unit Bool)
  | 0, _, _, _ => none
  | k + 1, v0, v1, v5 =>
    if decide (v5 < (↑(List.length v0) : Int)) = true then if (0 : Int) ≤ v5 then if v5 < (↑(List.length v0) : Int) then if (0 : Int) ≤ v5 then if v5 < (↑(List.length v1) : Int) then Option.bind (f_laws_eqIntS k (List.getD v0 (Int.toNat v5) []) (List.getD v1 (Int.toNat v5) [])) fun z0 => if (!z0) = true then some (LR.ret false) else f_laws_eqIntSS_0 k v0 v1 (wrap64 (v5 + (1 : Int))) else none else none else none else none else some (LR.go ())
noncomputable def f_laws_eqIntSS_0i : Spec := { objs := [OSh.ro], tmps := [((0 : Nat), TSh.at (Sh.snap (0 : Nat) (Ty.slice (3 : Nat) (Ty.int IntKind.i64)))), ((1 : Nat), TSh.at (Sh.snap (0 : Nat) (Ty.slice (3 : Nat) (Ty.int IntKind.i64)))), ((5 : Nat), TSh.at (Sh.int IntKind.i64))] }
noncomputable def f_laws_eqIntSS_0o : Spec := { objs := [OSh.ro], tmps := [] }
noncomputable def f_laws_eqIntSS_0D : LoopDef (Tup r_laws_eqIntSS × OutD) := .rets f_laws_eqIntSS_0i f_laws_eqIntSS_0o (Unit) (Bool) (fun k x => f_laws_eqIntSS_0 k x.2.1 x.2.2.1 x.2.2.2.1) (fun z => (((), ()), (()))) (fun y => ()) (fun _ => rfl) to_laws_eqIntSS of_laws_eqIntSS to_of_laws_eqIntSS
noncomputable def f_laws_eqIntSS : Nat → List (List Int) → List (List Int) → Option Bool
  | 0, _, _ => none
  | k + 1, p0, p1 =>
    if decide ((↑(List.length p0) : Int) ≠ (↑(List.length p1) : Int)) = true then some false else Option.bind (f_laws_eqIntSS_0 k p0 p1 (0 : Int)) fun z1 => LR.on z1 (fun y1 => some true) fun r1 => some r1
noncomputable def d_laws_eqIntSS : FnDef := .of q_laws_eqIntSS r_laws_eqIntSS (Bool) (fun k x => f_laws_eqIntSS k x.1 x.2.1) to_laws_eqIntSS of_laws_eqIntSS to_of_laws_eqIntSS
noncomputable def c_laws_eqIntSS : Code := Try.f40.body.getD .skip
noncomputable def x_laws_eqIntSS : Ctx (Tup r_laws_eqIntSS × OutD) := { T := T, G := [(20, d_laws_eqIntS.E)], mvs := [], no := 0, n := 27, res := resOf T q_laws_eqIntSS r_laws_eqIntSS Try.f40.results.toList, loops := [(0, f_laws_eqIntSS_0D.E)], regs := [], conds := [] }
theorem g_laws_eqIntSS (k : Nat) : EnvOK Try.prog k x_laws_eqIntSS.G := (EnvOK.cons (s_laws_eqIntS k) (EnvOK.nil mixed))
noncomputable def f_laws_eqIntSS_0B : Code := (findLoop 0 c_laws_eqIntSS).getD .skip
theorem f_laws_eqIntSS_0h (k : Nat) (x : f_laws_eqIntSS_0i.D) : f_laws_eqIntSS_0D.lp (k + 1) x = loopK x_laws_eqIntSS f_laws_eqIntSS_0D 0 f_laws_eqIntSS_0B k x := by kernel_rfl
theorem f_laws_eqIntSS_0l (k : Nat) : LOK Try.prog x_laws_eqIntSS k f_laws_eqIntSS_0B := LOK.by [] (by kernel_rfl) AllOK.nil
theorem f_laws_eqIntSS_0z (x : f_laws_eqIntSS_0i.D) : f_laws_eqIntSS_0D.lp 0 x = none := by kernel_rfl
theorem f_laws_eqIntSS_0ok (k : Nat) : EOK Try.prog x_laws_eqIntSS k f_laws_eqIntSS_0D.E (.block 0 (.loop f_laws_eqIntSS_0B)) := loop_ok T_ok g_laws_eqIntSS f_laws_eqIntSS_0z f_laws_eqIntSS_0h f_laws_eqIntSS_0l k
theorem h_laws_eqIntSS (k : Nat) (x : Tup d_laws_eqIntSS.ps) : d_laws_eqIntSS.f (k + 1) x = fnK d_laws_eqIntSS x_laws_eqIntSS c_laws_eqIntSS k x := by kernel_rfl
theorem z_laws_eqIntSS (x : Tup d_laws_eqIntSS.ps) : d_laws_eqIntSS.f 0 x = none := by kernel_rfl
theorem l_laws_eqIntSS (k : Nat) : LOK Try.prog x_laws_eqIntSS k c_laws_eqIntSS := LOK.by [(f_laws_eqIntSS_0D.E, .block 0 (.loop f_laws_eqIntSS_0B))] (by kernel_rfl) (AllOK.cons (f_laws_eqIntSS_0ok k) AllOK.nil)
theorem s_laws_eqIntSS (k : Nat) : SoundAt Try.prog k 40 d_laws_eqIntSS.E := @fn_all Try.prog d_laws_eqIntSS x_laws_eqIntSS 40 Try.f40 c_laws_eqIntSS (by kernel_rfl) (by kernel_rfl) (by kernel_rfl) Try.func40 (by kernel_rfl) (by kernel_rfl) (by kernel_rfl) T_ok g_laws_eqIntSS l_laws_eqIntSS z_laws_eqIntSS h_laws_eqIntSS k
/-! function 48 -/
noncomputable def r_laws_szBoard : List PK := [{ t := Ty.int IntKind.i64 }]
noncomputable def q_laws_szBoard : List PK := [{ t := Ty.pair (Ty.int IntKind.i64) (Ty.pair (Ty.int IntKind.i64) (Ty.slice (100 : Nat) (Ty.pair (Ty.int IntKind.i64) (Ty.int IntKind.i64)))), agg := true }, { t := Ty.int IntKind.i64 }]
noncomputable def to_laws_szBoard (r : Int) : Tup r_laws_szBoard × OutD := ((r, ()), none)
noncomputable def of_laws_szBoard : Tup r_laws_szBoard × OutD → Option (Int)
  | (a, none) => some (a.1)
  | _ => none
theorem to_of_laws_szBoard : ∀ b r, of_laws_szBoard b = some r → to_laws_szBoard r = b := by
  rintro ⟨a, o⟩ r h
  cases o with
  | none => injection h with h; subst h; rfl
  | some _ => cases h
noncomputable def f_laws_szBoard : Nat → Int × Int × List (Int × Int) → Int → Option Int
  | 0, _, _ => none
  | k + 1, p0, p1 =>
    Option.bind (f_laws_szCellS k (Prod.snd (Prod.snd p0)) p1) fun z0 => if decide (z0 < (0 : Int)) = true then some (-1 : Int) else some z0
noncomputable def d_laws_szBoard : FnDef := .of q_laws_szBoard r_laws_szBoard (Int) (fun k x => f_laws_szBoard k x.1 x.2.1) to_laws_szBoard of_laws_szBoard to_of_laws_szBoard
noncomputable def c_laws_szBoard : Code := Try.f48.body.getD .skip
noncomputable def x_laws_szBoard : Ctx (Tup r_laws_szBoard × OutD) := { T := T, G := [(81, d_laws_szCellS.E)], mvs := [], no := 0, n := 12, res := resOf T q_laws_szBoard r_laws_szBoard Try.f48.results.toList, loops := [], regs := [], conds := [] }
theorem g_laws_szBoard (k : Nat) : EnvOK Try.prog k x_laws_szBoard.G := (EnvOK.cons (s_laws_szCellS k) (EnvOK.nil mixed))
theorem h_laws_szBoard (k : Nat) (x : Tup d_laws_szBoard.ps) : d_laws_szBoard.f (k + 1) x = fnK d_laws_szBoard x_laws_szBoard c_laws_szBoard k x := by kernel_rfl
theorem z_laws_szBoard (x : Tup d_laws_szBoard.ps) : d_laws_szBoard.f 0 x = none := by kernel_rfl
theorem l_laws_szBoard (k : Nat) : LOK Try.prog x_laws_szBoard k c_laws_szBoard := LOK.by [] (by kernel_rfl) AllOK.nil
theorem s_laws_szBoard (k : Nat) : SoundAt Try.prog k 48 d_laws_szBoard.E := @fn_all Try.prog d_laws_szBoard x_laws_szBoard 48 Try.f48 c_laws_szBoard (by kernel_rfl) (by kernel_rfl) (by kernel_rfl) Try.func48 (by kernel_rfl) (by kernel_rfl) (by kernel_rfl) T_ok g_laws_szBoard l_laws_szBoard z_laws_szBoard h_laws_szBoard k
/-! function 53 -/
noncomputable def r_spec_voCopies : List PK := [{ t := Ty.bool }]
noncomputable def q_spec_voCopies : List PK := [{ t := Ty.int IntKind.i64 }]
noncomputable def to_spec_voCopies (r : Bool) : Tup r_spec_voCopies × OutD := ((r, ()), none)
noncomputable def of_spec_voCopies : Tup r_spec_voCopies × OutD → Option (Bool)
  | (a, none) => some (a.1)
  | _ => none
theorem to_of_spec_voCopies : ∀ b r, of_spec_voCopies b = some r → to_spec_voCopies r = b := by
  rintro ⟨a, o⟩ r h
  cases o with
  | none => injection h with h; subst h; rfl
  | some _ => cases h
noncomputable def f_spec_voCopies : Nat → Int → Option Bool
  | 0, _ => none
  | k + 1, p0 =>
    Option.bind (f_spec_l1In k p0 (1 : Int) (9 : Int)) fun z0 => some z0
noncomputable def d_spec_voCopies : FnDef := .of q_spec_voCopies r_spec_voCopies (Bool) (fun k x => f_spec_voCopies k x.1) to_spec_voCopies of_spec_voCopies to_of_spec_voCopies
noncomputable def c_spec_voCopies : Code := Try.f53.body.getD .skip
noncomputable def x_spec_voCopies : Ctx (Tup r_spec_voCopies × OutD) := { T := T, G := [(55, d_spec_l1In.E)], mvs := [], no := 0, n := 5, res := resOf T q_spec_voCopies r_spec_voCopies Try.f53.results.toList, loops := [], regs := [], conds := [] }
theorem g_spec_voCopies (k : Nat) : EnvOK Try.prog k x_spec_voCopies.G := (EnvOK.cons (s_spec_l1In k) (EnvOK.nil mixed))
theorem h_spec_voCopies (k : Nat) (x : Tup d_spec_voCopies.ps) : d_spec_voCopies.f (k + 1) x = fnK d_spec_voCopies x_spec_voCopies c_spec_voCopies k x := by kernel_rfl
theorem z_spec_voCopies (x : Tup d_spec_voCopies.ps) : d_spec_voCopies.f 0 x = none := by kernel_rfl
theorem l_spec_voCopies (k : Nat) : LOK Try.prog x_spec_voCopies k c_spec_voCopies := LOK.by [] (by kernel_rfl) AllOK.nil
theorem s_spec_voCopies (k : Nat) : SoundAt Try.prog k 53 d_spec_voCopies.E := @fn_all Try.prog d_spec_voCopies x_spec_voCopies 53 Try.f53 c_spec_voCopies (by kernel_rfl) (by kernel_rfl) (by kernel_rfl) Try.func53 (by kernel_rfl) (by kernel_rfl) (by kernel_rfl) T_ok g_spec_voCopies l_spec_voCopies z_spec_voCopies h_spec_voCopies k
/-! function 57 -/
noncomputable def r_impl_areVotes : List PK := [{ t := Ty.bool }]
noncomputable def q_impl_areVotes : List PK := [{ t := Ty.slice (3 : Nat) (Ty.int IntKind.i64) }]
noncomputable def to_impl_areVotes (r : Bool) : Tup r_impl_areVotes × OutD := ((r, ()), none)
noncomputable def of_impl_areVotes : Tup r_impl_areVotes × OutD → Option (Bool)
  | (a, none) => some (a.1)
  | _ => none
theorem to_of_impl_areVotes : ∀ b r, of_impl_areVotes b = some r → to_impl_areVotes r = b := by
  rintro ⟨a, o⟩ r h
  cases o with
  | none => injection h with h; subst h; rfl
  | some _ => cases h
noncomputable def f_impl_areVotes : Nat → List Int → Option Bool
  | 0, _ => none
  | k + 1, p0 =>
    if decide ((↑(List.length p0) : Int) ≥ (1 : Int)) = true then if decide ((↑(List.length p0) : Int) ≤ (9 : Int)) = true then Option.bind (f_impl_areDigits k p0) fun z0 => some z0 else some false else some false
noncomputable def d_impl_areVotes : FnDef := .of q_impl_areVotes r_impl_areVotes (Bool) (fun k x => f_impl_areVotes k x.1) to_impl_areVotes of_impl_areVotes to_of_impl_areVotes
noncomputable def c_impl_areVotes : Code := Try.f57.body.getD .skip
noncomputable def x_impl_areVotes : Ctx (Tup r_impl_areVotes × OutD) := { T := T, G := [(88, d_impl_areDigits.E)], mvs := [], no := 0, n := 15, res := resOf T q_impl_areVotes r_impl_areVotes Try.f57.results.toList, loops := [], regs := [], conds := [] }
theorem g_impl_areVotes (k : Nat) : EnvOK Try.prog k x_impl_areVotes.G := (EnvOK.cons (s_impl_areDigits k) (EnvOK.nil mixed))
theorem h_impl_areVotes (k : Nat) (x : Tup d_impl_areVotes.ps) : d_impl_areVotes.f (k + 1) x = fnK d_impl_areVotes x_impl_areVotes c_impl_areVotes k x := by kernel_rfl
theorem z_impl_areVotes (x : Tup d_impl_areVotes.ps) : d_impl_areVotes.f 0 x = none := by kernel_rfl
theorem l_impl_areVotes (k : Nat) : LOK Try.prog x_impl_areVotes k c_impl_areVotes := LOK.by [] (by kernel_rfl) AllOK.nil
theorem s_impl_areVotes (k : Nat) : SoundAt Try.prog k 57 d_impl_areVotes.E := @fn_all Try.prog d_impl_areVotes x_impl_areVotes 57 Try.f57 c_impl_areVotes (by kernel_rfl) (by kernel_rfl) (by kernel_rfl) Try.func57 (by kernel_rfl) (by kernel_rfl) (by kernel_rfl) T_ok g_impl_areVotes l_impl_areVotes z_impl_areVotes h_impl_areVotes k
/-! function 58 -/
noncomputable def r_spec_voWrong : List PK := [{ t := Ty.bool }]
noncomputable def q_spec_voWrong : List PK := [{ t := Ty.int IntKind.i64 }, { t := Ty.int IntKind.i64 }]
noncomputable def to_spec_voWrong (r : Bool) : Tup r_spec_voWrong × OutD := ((r, ()), none)
noncomputable def of_spec_voWrong : Tup r_spec_voWrong × OutD → Option (Bool)
  | (a, none) => some (a.1)
  | _ => none
theorem to_of_spec_voWrong : ∀ b r, of_spec_voWrong b = some r → to_spec_voWrong r = b := by
  rintro ⟨a, o⟩ r h
  cases o with
  | none => injection h with h; subst h; rfl
  | some _ => cases h
noncomputable def f_spec_voWrong : Nat → Int → Int → Option Bool
  | 0, _, _ => none
  | k + 1, p0, p1 =>
    Option.bind (f_spec_l1In k p1 (1 : Int) (10 : Int)) fun z0 => if z0 = true then Option.bind (f_spec_l1In k p0 (0 : Int) p1) fun z1 => some z1 else some false
noncomputable def d_spec_voWrong : FnDef := .of q_spec_voWrong r_spec_voWrong (Bool) (fun k x => f_spec_voWrong k x.1 x.2.1) to_spec_voWrong of_spec_voWrong to_of_spec_voWrong
noncomputable def c_spec_voWrong : Code := Try.f58.body.getD .skip
noncomputable def x_spec_voWrong : Ctx (Tup r_spec_voWrong × OutD) := { T := T, G := [(55, d_spec_l1In.E)], mvs := [], no := 0, n := 12, res := resOf T q_spec_voWrong r_spec_voWrong Try.f58.results.toList, loops := [], regs := [], conds := [] }
theorem g_spec_voWrong (k : Nat) : EnvOK Try.prog k x_spec_voWrong.G := (EnvOK.cons (s_spec_l1In k) (EnvOK.nil mixed))
theorem h_spec_voWrong (k : Nat) (x : Tup d_spec_voWrong.ps) : d_spec_voWrong.f (k + 1) x = fnK d_spec_voWrong x_spec_voWrong c_spec_voWrong k x := by kernel_rfl
theorem z_spec_voWrong (x : Tup d_spec_voWrong.ps) : d_spec_voWrong.f 0 x = none := by kernel_rfl
theorem l_spec_voWrong (k : Nat) : LOK Try.prog x_spec_voWrong k c_spec_voWrong := LOK.by [] (by kernel_rfl) AllOK.nil
theorem s_spec_voWrong (k : Nat) : SoundAt Try.prog k 58 d_spec_voWrong.E := @fn_all Try.prog d_spec_voWrong x_spec_voWrong 58 Try.f58 c_spec_voWrong (by kernel_rfl) (by kernel_rfl) (by kernel_rfl) Try.func58 (by kernel_rfl) (by kernel_rfl) (by kernel_rfl) T_ok g_spec_voWrong l_spec_voWrong z_spec_voWrong h_spec_voWrong k
/-! function 63 -/
noncomputable def r_spec_l1All : List PK := [{ t := Ty.bool }]
noncomputable def q_spec_l1All : List PK := [{ t := Ty.slice (3 : Nat) (Ty.int IntKind.i64) }, { t := Ty.int IntKind.i64 }, { t := Ty.int IntKind.i64 }]
noncomputable def to_spec_l1All (r : Bool) : Tup r_spec_l1All × OutD := ((r, ()), none)
noncomputable def of_spec_l1All : Tup r_spec_l1All × OutD → Option (Bool)
  | (a, none) => some (a.1)
  | _ => none
theorem to_of_spec_l1All : ∀ b r, of_spec_l1All b = some r → to_spec_l1All r = b := by
  rintro ⟨a, o⟩ r h
  cases o with
  | none => injection h with h; subst h; rfl
  | some _ => cases h
noncomputable def f_spec_l1All_0 : Nat → Int → Int → List Int → Int → Int → Option (LR Unit Bool)
  | 0, _, _, _, _, _ => none
  | k + 1, v1, v2, v9, v10, v11 =>
    if decide (v11 < v10) = true then if (0 : Int) ≤ v11 then if v11 < (↑(List.length v9) : Int) then Option.bind (f_spec_l1In k (List.getD v9 (Int.toNat v11) (0 : Int)) v1 v2) fun z0 => if (!z0) = true then some (LR.ret false) else f_spec_l1All_0 k v1 v2 v9 v10 (wrap64 (v11 + (1 : Int))) else none else none else some (LR.go ())
noncomputable def f_spec_l1All_0i : Spec := { objs := [OSh.ro], tmps := [((1 : Nat), TSh.at (Sh.int IntKind.i64)), ((2 : Nat), TSh.at (Sh.int IntKind.i64)), ((9 : Nat), TSh.at (Sh.snap (0 : Nat) (Ty.int IntKind.i64))), ((10 : Nat), TSh.at (Sh.int IntKind.i64)), ((11 : Nat), TSh.at (Sh.int IntKind.i64))] }
noncomputable def f_spec_l1All_0o : Spec := { objs := [OSh.ro], tmps := [] }
noncomputable def f_spec_l1All_0D : LoopDef (Tup r_spec_l1All × OutD) := .rets f_spec_l1All_0i f_spec_l1All_0o (Unit) (Bool) (fun k x => f_spec_l1All_0 k x.2.1 x.2.2.1 x.2.2.2.1 x.2.2.2.2.1 x.2.2.2.2.2.1) (fun z => (((), ()), (()))) (fun y => ()) (fun _ => rfl) to_spec_l1All of_spec_l1All to_of_spec_l1All
noncomputable def f_spec_l1All : Nat → List Int → Int → Int → Option Bool
  | 0, _, _, _ => none
  | k + 1, p0, p1, p2 =>
    Option.bind (f_spec_l1All_0 k p1 p2 p0 (↑(List.length p0) : Int) (0 : Int)) fun z1 => LR.on z1 (fun y1 => some true) fun r1 => some r1
noncomputable def d_spec_l1All : FnDef := .of q_spec_l1All r_spec_l1All (Bool) (fun k x => f_spec_l1All k x.1 x.2.1 x.2.2.1) to_spec_l1All of_spec_l1All to_of_spec_l1All
noncomputable def c_spec_l1All : Code := Try.f63.body.getD .skip
noncomputable def x_spec_l1All : Ctx (Tup r_spec_l1All × OutD) := { T := T, G := [(55, d_spec_l1In.E)], mvs := [], no := 0, n := 21, res := resOf T q_spec_l1All r_spec_l1All Try.f63.results.toList, loops := [(0, f_spec_l1All_0D.E)], regs := [], conds := [] }
theorem g_spec_l1All (k : Nat) : EnvOK Try.prog k x_spec_l1All.G := (EnvOK.cons (s_spec_l1In k) (EnvOK.nil mixed))
noncomputable def f_spec_l1All_0B : Code := (findLoop 0 c_spec_l1All).getD .skip
theorem f_spec_l1All_0h (k : Nat) (x : f_spec_l1All_0i.D) : f_spec_l1All_0D.lp (k + 1) x = loopK x_spec_l1All f_spec_l1All_0D 0 f_spec_l1All_0B k x := by kernel_rfl
theorem f_spec_l1All_0l (k : Nat) : LOK Try.prog x_spec_l1All k f_spec_l1All_0B := LOK.by [] (by kernel_rfl) AllOK.nil
theorem f_spec_l1All_0z (x : f_spec_l1All_0i.D) : f_spec_l1All_0D.lp 0 x = none := by kernel_rfl
theorem f_spec_l1All_0ok (k : Nat) : EOK Try.prog x_spec_l1All k f_spec_l1All_0D.E (.block 0 (.loop f_spec_l1All_0B)) := loop_ok T_ok g_spec_l1All f_spec_l1All_0z f_spec_l1All_0h f_spec_l1All_0l k
theorem h_spec_l1All (k : Nat) (x : Tup d_spec_l1All.ps) : d_spec_l1All.f (k + 1) x = fnK d_spec_l1All x_spec_l1All c_spec_l1All k x := by kernel_rfl
theorem z_spec_l1All (x : Tup d_spec_l1All.ps) : d_spec_l1All.f 0 x = none := by kernel_rfl
theorem l_spec_l1All (k : Nat) : LOK Try.prog x_spec_l1All k c_spec_l1All := LOK.by [(f_spec_l1All_0D.E, .block 0 (.loop f_spec_l1All_0B))] (by kernel_rfl) (AllOK.cons (f_spec_l1All_0ok k) AllOK.nil)
theorem s_spec_l1All (k : Nat) : SoundAt Try.prog k 63 d_spec_l1All.E := @fn_all Try.prog d_spec_l1All x_spec_l1All 63 Try.f63 c_spec_l1All (by kernel_rfl) (by kernel_rfl) (by kernel_rfl) Try.func63 (by kernel_rfl) (by kernel_rfl) (by kernel_rfl) T_ok g_spec_l1All l_spec_l1All z_spec_l1All h_spec_l1All k
/-! function 65 -/
noncomputable def r_slices_Contains_int_int : List PK := [{ t := Ty.bool }]
noncomputable def q_slices_Contains_int_int : List PK := [{ t := Ty.slice (3 : Nat) (Ty.int IntKind.i64) }, { t := Ty.int IntKind.i64 }]
noncomputable def to_slices_Contains_int_int (r : Bool) : Tup r_slices_Contains_int_int × OutD := ((r, ()), none)
noncomputable def of_slices_Contains_int_int : Tup r_slices_Contains_int_int × OutD → Option (Bool)
  | (a, none) => some (a.1)
  | _ => none
theorem to_of_slices_Contains_int_int : ∀ b r, of_slices_Contains_int_int b = some r → to_slices_Contains_int_int r = b := by
  rintro ⟨a, o⟩ r h
  cases o with
  | none => injection h with h; subst h; rfl
  | some _ => cases h
noncomputable def f_slices_Contains_int_int : Nat → List Int → Int → Option Bool
  | 0, _, _ => none
  | k + 1, p0, p1 =>
    Option.bind (f_slices_Index_int_int k p0 p1) fun z0 => some (decide (z0 ≥ (0 : Int)))
noncomputable def d_slices_Contains_int_int : FnDef := .of q_slices_Contains_int_int r_slices_Contains_int_int (Bool) (fun k x => f_slices_Contains_int_int k x.1 x.2.1) to_slices_Contains_int_int of_slices_Contains_int_int to_of_slices_Contains_int_int
noncomputable def c_slices_Contains_int_int : Code := Try.f65.body.getD .skip
noncomputable def x_slices_Contains_int_int : Ctx (Tup r_slices_Contains_int_int × OutD) := { T := T, G := [(91, d_slices_Index_int_int.E)], mvs := [], no := 0, n := 9, res := resOf T q_slices_Contains_int_int r_slices_Contains_int_int Try.f65.results.toList, loops := [], regs := [], conds := [] }
theorem g_slices_Contains_int_int (k : Nat) : EnvOK Try.prog k x_slices_Contains_int_int.G := (EnvOK.cons (s_slices_Index_int_int k) (EnvOK.nil mixed))
theorem h_slices_Contains_int_int (k : Nat) (x : Tup d_slices_Contains_int_int.ps) : d_slices_Contains_int_int.f (k + 1) x = fnK d_slices_Contains_int_int x_slices_Contains_int_int c_slices_Contains_int_int k x := by kernel_rfl
theorem z_slices_Contains_int_int (x : Tup d_slices_Contains_int_int.ps) : d_slices_Contains_int_int.f 0 x = none := by kernel_rfl
theorem l_slices_Contains_int_int (k : Nat) : LOK Try.prog x_slices_Contains_int_int k c_slices_Contains_int_int := LOK.by [] (by kernel_rfl) AllOK.nil
theorem s_slices_Contains_int_int (k : Nat) : SoundAt Try.prog k 65 d_slices_Contains_int_int.E := @fn_all Try.prog d_slices_Contains_int_int x_slices_Contains_int_int 65 Try.f65 c_slices_Contains_int_int (by kernel_rfl) (by kernel_rfl) (by kernel_rfl) Try.func65 (by kernel_rfl) (by kernel_rfl) (by kernel_rfl) T_ok g_slices_Contains_int_int l_slices_Contains_int_int z_slices_Contains_int_int h_slices_Contains_int_int k
/-! function 69 -/
noncomputable def r_laws_toLoanS : List PK := [{ t := Ty.slice (81 : Nat) (Ty.pair (Ty.int IntKind.i64) (Ty.pair (Ty.int IntKind.i64) (Ty.pair (Ty.int IntKind.i64) (Ty.int IntKind.i64)))) }]
noncomputable def q_laws_toLoanS : List PK := [{ t := Ty.slice (95 : Nat) (Ty.pair (Ty.int IntKind.i64) (Ty.pair (Ty.int IntKind.i64) (Ty.pair (Ty.int IntKind.i64) (Ty.int IntKind.i64)))) }]
noncomputable def to_laws_toLoanS (r : List (Int × Int × Int × Int)) : Tup r_laws_toLoanS × OutD := ((r, ()), none)
noncomputable def of_laws_toLoanS : Tup r_laws_toLoanS × OutD → Option (List (Int × Int × Int × Int))
  | (a, none) => some (a.1)
  | _ => none
theorem to_of_laws_toLoanS : ∀ b r, of_laws_toLoanS b = some r → to_laws_toLoanS r = b := by
  rintro ⟨a, o⟩ r h
  cases o with
  | none => injection h with h; subst h; rfl
  | some _ => cases h
noncomputable def f_laws_toLoanS_0 : Nat → List (Int × Int × Int × Int) → List (Int × Int × Int × Int) → Int → Option (List (Int × Int × Int × Int))
  | 0, _, _, _ => none
  | k + 1, o1, v0, v4 =>
    if decide (v4 < (↑(List.length v0) : Int)) = true then if (0 : Int) ≤ v4 then if v4 < (↑(List.length v0) : Int) then Option.bind (f_laws_toLoan k (Prod.fst (List.getD v0 (Int.toNat v4) ((0 : Int), (0 : Int), (0 : Int), (0 : Int))), Prod.fst (Prod.snd (List.getD v0 (Int.toNat v4) ((0 : Int), (0 : Int), (0 : Int), (0 : Int)))), Prod.fst (Prod.snd (Prod.snd (List.getD v0 (Int.toNat v4) ((0 : Int), (0 : Int), (0 : Int), (0 : Int))))), Prod.snd (Prod.snd (Prod.snd (List.getD v0 (Int.toNat v4) ((0 : Int), (0 : Int), (0 : Int), (0 : Int))))))) fun z0 => if (0 : Int) ≤ v4 then if v4 < (↑(List.length o1) : Int) then f_laws_toLoanS_0 k (List.set o1 (Int.toNat v4) (Prod.fst z0, Prod.fst (Prod.snd z0), Prod.fst (Prod.snd (Prod.snd z0)), Prod.snd (Prod.snd (Prod.snd z0)))) v0 (wrap64 (v4 + (1 : Int))) else none else none else none else none else some o1
noncomputable def f_laws_toLoanS_0i : Spec := { objs := [OSh.ro, OSh.row true (81 : Nat) (Ty.pair (Ty.int IntKind.i64) (Ty.pair (Ty.int IntKind.i64) (Ty.pair (Ty.int IntKind.i64) (Ty.int IntKind.i64))))], tmps := [((0 : Nat), TSh.at (Sh.snap (0 : Nat) (Ty.pair (Ty.int IntKind.i64) (Ty.pair (Ty.int IntKind.i64) (Ty.pair (Ty.int IntKind.i64) (Ty.int IntKind.i64)))))), ((3 : Nat), TSh.at (Sh.sl (1 : Nat))), ((4 : Nat), TSh.at (Sh.int IntKind.i64))] }
noncomputable def f_laws_toLoanS_0o : Spec := { objs := [OSh.ro, OSh.row true (81 : Nat) (Ty.pair (Ty.int IntKind.i64) (Ty.pair (Ty.int IntKind.i64) (Ty.pair (Ty.int IntKind.i64) (Ty.int IntKind.i64))))], tmps := [((3 : Nat), TSh.at (Sh.sl (1 : Nat)))] }
noncomputable def f_laws_toLoanS_0D : LoopDef (Tup r_laws_toLoanS × OutD) := .plain f_laws_toLoanS_0i f_laws_toLoanS_0o (List (Int × Int × Int × Int)) (fun k x => f_laws_toLoanS_0 k x.1.2.1 x.2.1 x.2.2.2.1) (fun z => (((), z, ()), ((), ()))) (fun y => (y.1.2.1)) (fun _ => rfl)
noncomputable def f_laws_toLoanS : Nat → List (Int × Int × Int × Int) → Option (List (Int × Int × Int × Int))
  | 0, _ => none
  | k + 1, p0 =>
    if Int.toNat (↑(List.length p0) : Int) * (32 : Nat) ≤ (281474976710656 : Nat) then Option.bind (f_laws_toLoanS_0 k (List.replicate (Int.toNat (↑(List.length p0) : Int)) ((0 : Int), (0 : Int), (0 : Int), (0 : Int))) p0 (0 : Int)) fun z1 => some z1 else none
noncomputable def d_laws_toLoanS : FnDef := .of q_laws_toLoanS r_laws_toLoanS (List (Int × Int × Int × Int)) (fun k x => f_laws_toLoanS k x.1) to_laws_toLoanS of_laws_toLoanS to_of_laws_toLoanS
noncomputable def c_laws_toLoanS : Code := Try.f69.body.getD .skip
noncomputable def x_laws_toLoanS : Ctx (Tup r_laws_toLoanS × OutD) := { T := T, G := [(94, d_laws_toLoan.E)], mvs := [], no := 0, n := 23, res := resOf T q_laws_toLoanS r_laws_toLoanS Try.f69.results.toList, loops := [(0, f_laws_toLoanS_0D.E)], regs := [], conds := [] }
theorem g_laws_toLoanS (k : Nat) : EnvOK Try.prog k x_laws_toLoanS.G := (EnvOK.cons (s_laws_toLoan k) (EnvOK.nil mixed))
noncomputable def f_laws_toLoanS_0B : Code := (findLoop 0 c_laws_toLoanS).getD .skip
theorem f_laws_toLoanS_0h (k : Nat) (x : f_laws_toLoanS_0i.D) : f_laws_toLoanS_0D.lp (k + 1) x = loopK x_laws_toLoanS f_laws_toLoanS_0D 0 f_laws_toLoanS_0B k x := by kernel_rfl
theorem f_laws_toLoanS_0l (k : Nat) : LOK Try.prog x_laws_toLoanS k f_laws_toLoanS_0B := LOK.by [] (by kernel_rfl) AllOK.nil
theorem f_laws_toLoanS_0z (x : f_laws_toLoanS_0i.D) : f_laws_toLoanS_0D.lp 0 x = none := by kernel_rfl
theorem f_laws_toLoanS_0ok (k : Nat) : EOK Try.prog x_laws_toLoanS k f_laws_toLoanS_0D.E (.block 0 (.loop f_laws_toLoanS_0B)) := loop_ok T_ok g_laws_toLoanS f_laws_toLoanS_0z f_laws_toLoanS_0h f_laws_toLoanS_0l k
theorem h_laws_toLoanS (k : Nat) (x : Tup d_laws_toLoanS.ps) : d_laws_toLoanS.f (k + 1) x = fnK d_laws_toLoanS x_laws_toLoanS c_laws_toLoanS k x := by kernel_rfl
theorem z_laws_toLoanS (x : Tup d_laws_toLoanS.ps) : d_laws_toLoanS.f 0 x = none := by kernel_rfl
theorem l_laws_toLoanS (k : Nat) : LOK Try.prog x_laws_toLoanS k c_laws_toLoanS := LOK.by [(f_laws_toLoanS_0D.E, .block 0 (.loop f_laws_toLoanS_0B))] (by kernel_rfl) (AllOK.cons (f_laws_toLoanS_0ok k) AllOK.nil)
theorem s_laws_toLoanS (k : Nat) : SoundAt Try.prog k 69 d_laws_toLoanS.E := @fn_all Try.prog d_laws_toLoanS x_laws_toLoanS 69 Try.f69 c_laws_toLoanS (by kernel_rfl) (by kernel_rfl) (by kernel_rfl) Try.func69 (by kernel_rfl) (by kernel_rfl) (by kernel_rfl) T_ok g_laws_toLoanS l_laws_toLoanS z_laws_toLoanS h_laws_toLoanS k
/-! function 70 -/
noncomputable def r_impl_isLoan : List PK := [{ t := Ty.bool }]
noncomputable def q_impl_isLoan : List PK := [{ t := Ty.pair (Ty.int IntKind.i64) (Ty.pair (Ty.int IntKind.i64) (Ty.pair (Ty.int IntKind.i64) (Ty.int IntKind.i64))), agg := true }]
noncomputable def to_impl_isLoan (r : Bool) : Tup r_impl_isLoan × OutD := ((r, ()), none)
noncomputable def of_impl_isLoan : Tup r_impl_isLoan × OutD → Option (Bool)
  | (a, none) => some (a.1)
  | _ => none
theorem to_of_impl_isLoan : ∀ b r, of_impl_isLoan b = some r → to_impl_isLoan r = b := by
  rintro ⟨a, o⟩ r h
  cases o with
  | none => injection h with h; subst h; rfl
  | some _ => cases h
noncomputable def f_impl_isLoan : Nat → Int × Int × Int × Int → Option Bool
  | 0, _ => none
  | k + 1, p0 =>
    if decide (Prod.fst p0 ≥ (1 : Int)) = true then if decide (Prod.fst p0 ≤ (99 : Int)) = true then if decide (Prod.fst (Prod.snd p0) ≥ (1 : Int)) = true then if decide (Prod.fst (Prod.snd p0) ≤ (7 : Int)) = true then if decide (Prod.fst (Prod.snd (Prod.snd p0)) ≥ (1 : Int)) = true then if decide (Prod.fst (Prod.snd (Prod.snd p0)) ≤ (99 : Int)) = true then Option.bind (f_impl_isDay k (Prod.snd (Prod.snd (Prod.snd p0)))) fun z0 => some z0 else some false else some false else some false else some false else some false else some false
noncomputable def d_impl_isLoan : FnDef := .of q_impl_isLoan r_impl_isLoan (Bool) (fun k x => f_impl_isLoan k x.1) to_impl_isLoan of_impl_isLoan to_of_impl_isLoan
noncomputable def c_impl_isLoan : Code := Try.f70.body.getD .skip
noncomputable def x_impl_isLoan : Ctx (Tup r_impl_isLoan × OutD) := { T := T, G := [(95, d_impl_isDay.E)], mvs := [], no := 0, n := 36, res := resOf T q_impl_isLoan r_impl_isLoan Try.f70.results.toList, loops := [], regs := [], conds := [] }
theorem g_impl_isLoan (k : Nat) : EnvOK Try.prog k x_impl_isLoan.G := (EnvOK.cons (s_impl_isDay k) (EnvOK.nil mixed))
theorem h_impl_isLoan (k : Nat) (x : Tup d_impl_isLoan.ps) : d_impl_isLoan.f (k + 1) x = fnK d_impl_isLoan x_impl_isLoan c_impl_isLoan k x := by kernel_rfl
theorem z_impl_isLoan (x : Tup d_impl_isLoan.ps) : d_impl_isLoan.f 0 x = none := by kernel_rfl
theorem l_impl_isLoan (k : Nat) : LOK Try.prog x_impl_isLoan k c_impl_isLoan := LOK.by [] (by kernel_rfl) AllOK.nil
theorem s_impl_isLoan (k : Nat) : SoundAt Try.prog k 70 d_impl_isLoan.E := @fn_all Try.prog d_impl_isLoan x_impl_isLoan 70 Try.f70 c_impl_isLoan (by kernel_rfl) (by kernel_rfl) (by kernel_rfl) Try.func70 (by kernel_rfl) (by kernel_rfl) (by kernel_rfl) T_ok g_impl_isLoan l_impl_isLoan z_impl_isLoan h_impl_isLoan k
/-! function 72 -/
noncomputable def r_laws_eqLoanS : List PK := [{ t := Ty.bool }]
noncomputable def q_laws_eqLoanS : List PK := [{ t := Ty.slice (81 : Nat) (Ty.pair (Ty.int IntKind.i64) (Ty.pair (Ty.int IntKind.i64) (Ty.pair (Ty.int IntKind.i64) (Ty.int IntKind.i64)))) }, { t := Ty.slice (81 : Nat) (Ty.pair (Ty.int IntKind.i64) (Ty.pair (Ty.int IntKind.i64) (Ty.pair (Ty.int IntKind.i64) (Ty.int IntKind.i64)))) }]
noncomputable def to_laws_eqLoanS (r : Bool) : Tup r_laws_eqLoanS × OutD := ((r, ()), none)
noncomputable def of_laws_eqLoanS : Tup r_laws_eqLoanS × OutD → Option (Bool)
  | (a, none) => some (a.1)
  | _ => none
theorem to_of_laws_eqLoanS : ∀ b r, of_laws_eqLoanS b = some r → to_laws_eqLoanS r = b := by
  rintro ⟨a, o⟩ r h
  cases o with
  | none => injection h with h; subst h; rfl
  | some _ => cases h
noncomputable def f_laws_eqLoanS_0 : Nat → List (Int × Int × Int × Int) → List (Int × Int × Int × Int) → Int → Option (LR Unit Bool)
  | 0, _, _, _ => none
  | k + 1, v0, v1, v5 =>
    if decide (v5 < (↑(List.length v0) : Int)) = true then if (0 : Int) ≤ v5 then if v5 < (↑(List.length v0) : Int) then if (0 : Int) ≤ v5 then if v5 < (↑(List.length v1) : Int) then Option.bind (f_laws_eqLoan k (Prod.fst (List.getD v0 (Int.toNat v5) ((0 : Int), (0 : Int), (0 : Int), (0 : Int))), Prod.fst (Prod.snd (List.getD v0 (Int.toNat v5) ((0 : Int), (0 : Int), (0 : Int), (0 : Int)))), Prod.fst (Prod.snd (Prod.snd (List.getD v0 (Int.toNat v5) ((0 : Int), (0 : Int), (0 : Int), (0 : Int))))), Prod.snd (Prod.snd (Prod.snd (List.getD v0 (Int.toNat v5) ((0 : Int), (0 : Int), (0 : Int), (0 : Int)))))) (Prod.fst (List.getD v1 (Int.toNat v5) ((0 : Int), (0 : Int), (0 : Int), (0 : Int))), Prod.fst (Prod.snd (List.getD v1 (Int.toNat v5) ((0 : Int), (0 : Int), (0 : Int), (0 : Int)))), Prod.fst (Prod.snd (Prod.snd (List.getD v1 (Int.toNat v5) ((0 : Int), (0 : Int), (0 : Int), (0 : Int))))), Prod.snd (Prod.snd (Prod.snd (List.getD v1 (Int.toNat v5) ((0 : Int), (0 : Int), (0 : Int), (0 : Int))))))) fun z0 => if (!z0) = true then some (LR.ret false) else f_laws_eqLoanS_0 k v0 v1 (wrap64 (v5 + (1 : Int))) else none else none else none else none else some (LR.go ())
noncomputable def f_laws_eqLoanS_0i : Spec := { objs := [OSh.ro], tmps := [((0 : Nat), TSh.at (Sh.snap (0 : Nat) (Ty.pair (Ty.int IntKind.i64) (Ty.pair (Ty.int IntKind.i64) (Ty.pair (Ty.int IntKind.i64) (Ty.int IntKind.i64)))))), ((1 : Nat), TSh.at (Sh.snap (0 : Nat) (Ty.pair (Ty.int IntKind.i64) (Ty.pair (Ty.int IntKind.i64) (Ty.pair (Ty.int IntKind.i64) (Ty.int IntKind.i64)))))), ((5 : Nat), TSh.at (Sh.int IntKind.i64))] }
noncomputable def f_laws_eqLoanS_0o : Spec := { objs := [OSh.ro], tmps := [] }
noncomputable def f_laws_eqLoanS_0D : LoopDef (Tup r_laws_eqLoanS × OutD) := .rets f_laws_eqLoanS_0i f_laws_eqLoanS_0o (Unit) (Bool) (fun k x => f_laws_eqLoanS_0 k x.2.1 x.2.2.1 x.2.2.2.1) (fun z => (((), ()), (()))) (fun y => ()) (fun _ => rfl) to_laws_eqLoanS of_laws_eqLoanS to_of_laws_eqLoanS
noncomputable def f_laws_eqLoanS : Nat → List (Int × Int × Int × Int) → List (Int × Int × Int × Int) → Option Bool
  | 0, _, _ => none
  | k + 1, p0, p1 =>
    if decide ((↑(List.length p0) : Int) ≠ (↑(List.length p1) : Int)) = true then some false else Option.bind (f_laws_eqLoanS_0 k p0 p1 (0 : Int)) fun z1 => LR.on z1 (fun y1 => some true) fun r1 => some r1
noncomputable def d_laws_eqLoanS : FnDef := .of q_laws_eqLoanS r_laws_eqLoanS (Bool) (fun k x => f_laws_eqLoanS k x.1 x.2.1) to_laws_eqLoanS of_laws_eqLoanS to_of_laws_eqLoanS
noncomputable def c_laws_eqLoanS : Code := Try.f72.body.getD .skip
noncomputable def x_laws_eqLoanS : Ctx (Tup r_laws_eqLoanS × OutD) := { T := T, G := [(96, d_laws_eqLoan.E)], mvs := [], no := 0, n := 27, res := resOf T q_laws_eqLoanS r_laws_eqLoanS Try.f72.results.toList, loops := [(0, f_laws_eqLoanS_0D.E)], regs := [], conds := [] }
theorem g_laws_eqLoanS (k : Nat) : EnvOK Try.prog k x_laws_eqLoanS.G := (EnvOK.cons (s_laws_eqLoan k) (EnvOK.nil mixed))
noncomputable def f_laws_eqLoanS_0B : Code := (findLoop 0 c_laws_eqLoanS).getD .skip
theorem f_laws_eqLoanS_0h (k : Nat) (x : f_laws_eqLoanS_0i.D) : f_laws_eqLoanS_0D.lp (k + 1) x = loopK x_laws_eqLoanS f_laws_eqLoanS_0D 0 f_laws_eqLoanS_0B k x := by kernel_rfl
theorem f_laws_eqLoanS_0l (k : Nat) : LOK Try.prog x_laws_eqLoanS k f_laws_eqLoanS_0B := LOK.by [] (by kernel_rfl) AllOK.nil
theorem f_laws_eqLoanS_0z (x : f_laws_eqLoanS_0i.D) : f_laws_eqLoanS_0D.lp 0 x = none := by kernel_rfl
theorem f_laws_eqLoanS_0ok (k : Nat) : EOK Try.prog x_laws_eqLoanS k f_laws_eqLoanS_0D.E (.block 0 (.loop f_laws_eqLoanS_0B)) := loop_ok T_ok g_laws_eqLoanS f_laws_eqLoanS_0z f_laws_eqLoanS_0h f_laws_eqLoanS_0l k
theorem h_laws_eqLoanS (k : Nat) (x : Tup d_laws_eqLoanS.ps) : d_laws_eqLoanS.f (k + 1) x = fnK d_laws_eqLoanS x_laws_eqLoanS c_laws_eqLoanS k x := by kernel_rfl
theorem z_laws_eqLoanS (x : Tup d_laws_eqLoanS.ps) : d_laws_eqLoanS.f 0 x = none := by kernel_rfl
theorem l_laws_eqLoanS (k : Nat) : LOK Try.prog x_laws_eqLoanS k c_laws_eqLoanS := LOK.by [(f_laws_eqLoanS_0D.E, .block 0 (.loop f_laws_eqLoanS_0B))] (by kernel_rfl) (AllOK.cons (f_laws_eqLoanS_0ok k) AllOK.nil)
theorem s_laws_eqLoanS (k : Nat) : SoundAt Try.prog k 72 d_laws_eqLoanS.E := @fn_all Try.prog d_laws_eqLoanS x_laws_eqLoanS 72 Try.f72 c_laws_eqLoanS (by kernel_rfl) (by kernel_rfl) (by kernel_rfl) Try.func72 (by kernel_rfl) (by kernel_rfl) (by kernel_rfl) T_ok g_laws_eqLoanS l_laws_eqLoanS z_laws_eqLoanS h_laws_eqLoanS k
/-! function 75 -/
noncomputable def r_impl_areRows : List PK := [{ t := Ty.bool }]
noncomputable def q_impl_areRows : List PK := [{ t := Ty.slice (25 : Nat) (Ty.slice (3 : Nat) (Ty.int IntKind.i64)) }]
noncomputable def to_impl_areRows (r : Bool) : Tup r_impl_areRows × OutD := ((r, ()), none)
noncomputable def of_impl_areRows : Tup r_impl_areRows × OutD → Option (Bool)
  | (a, none) => some (a.1)
  | _ => none
theorem to_of_impl_areRows : ∀ b r, of_impl_areRows b = some r → to_impl_areRows r = b := by
  rintro ⟨a, o⟩ r h
  cases o with
  | none => injection h with h; subst h; rfl
  | some _ => cases h
noncomputable def f_impl_areRows_0 : Nat → List (List Int) → List (List Int) → Int → Int → Option (LR Unit Bool)
  | 0, _, _, _, _ => none
  | k + 1, v0, v13, v14, v15 =>
    if decide (v15 < v14) = true then if (0 : Int) ≤ v15 then if v15 < (↑(List.length v13) : Int) then if (0 : Int) < (↑(List.length v0) : Int) then if decide ((↑(List.length (List.getD v13 (Int.toNat v15) [])) : Int) ≠ (↑(List.length (List.getD v0 (Int.toNat (0 : Int)) [])) : Int)) = true then some (LR.ret false) else if decide ((↑(List.length (List.getD v13 (Int.toNat v15) [])) : Int) > (40 : Int)) = true then some (LR.ret false) else Option.bind (f_impl_areDigits k (List.getD v13 (Int.toNat v15) [])) fun z0 => if (!z0) = true then some (LR.ret false) else f_impl_areRows_0 k v0 v13 v14 (wrap64 (v15 + (1 : Int))) else none else none else none else some (LR.go ())
noncomputable def f_impl_areRows_0i : Spec := { objs := [OSh.ro], tmps := [((0 : Nat), TSh.at (Sh.snap (0 : Nat) (Ty.slice (3 : Nat) (Ty.int IntKind.i64)))), ((13 : Nat), TSh.at (Sh.snap (0 : Nat) (Ty.slice (3 : Nat) (Ty.int IntKind.i64)))), ((14 : Nat), TSh.at (Sh.int IntKind.i64)), ((15 : Nat), TSh.at (Sh.int IntKind.i64))] }
noncomputable def f_impl_areRows_0o : Spec := { objs := [OSh.ro], tmps := [] }
noncomputable def f_impl_areRows_0D : LoopDef (Tup r_impl_areRows × OutD) := .rets f_impl_areRows_0i f_impl_areRows_0o (Unit) (Bool) (fun k x => f_impl_areRows_0 k x.2.1 x.2.2.1 x.2.2.2.1 x.2.2.2.2.1) (fun z => (((), ()), (()))) (fun y => ()) (fun _ => rfl) to_impl_areRows of_impl_areRows to_of_impl_areRows
noncomputable def f_impl_areRows : Nat → List (List Int) → Option Bool
  | 0, _ => none
  | k + 1, p0 =>
    if decide ((↑(List.length p0) : Int) < (1 : Int)) = true then some false else if decide ((↑(List.length p0) : Int) > (9 : Int)) = true then some false else Option.bind (f_impl_areRows_0 k p0 p0 (↑(List.length p0) : Int) (0 : Int)) fun z1 => LR.on z1 (fun y1 => some true) fun r1 => some r1
noncomputable def d_impl_areRows : FnDef := .of q_impl_areRows r_impl_areRows (Bool) (fun k x => f_impl_areRows k x.1) to_impl_areRows of_impl_areRows to_of_impl_areRows
noncomputable def c_impl_areRows : Code := Try.f75.body.getD .skip
noncomputable def x_impl_areRows : Ctx (Tup r_impl_areRows × OutD) := { T := T, G := [(88, d_impl_areDigits.E)], mvs := [], no := 0, n := 37, res := resOf T q_impl_areRows r_impl_areRows Try.f75.results.toList, loops := [(0, f_impl_areRows_0D.E)], regs := [], conds := [] }
theorem g_impl_areRows (k : Nat) : EnvOK Try.prog k x_impl_areRows.G := (EnvOK.cons (s_impl_areDigits k) (EnvOK.nil mixed))
noncomputable def f_impl_areRows_0B : Code := (findLoop 0 c_impl_areRows).getD .skip
theorem f_impl_areRows_0h (k : Nat) (x : f_impl_areRows_0i.D) : f_impl_areRows_0D.lp (k + 1) x = loopK x_impl_areRows f_impl_areRows_0D 0 f_impl_areRows_0B k x := by kernel_rfl
theorem f_impl_areRows_0l (k : Nat) : LOK Try.prog x_impl_areRows k f_impl_areRows_0B := LOK.by [] (by kernel_rfl) AllOK.nil
theorem f_impl_areRows_0z (x : f_impl_areRows_0i.D) : f_impl_areRows_0D.lp 0 x = none := by kernel_rfl
theorem f_impl_areRows_0ok (k : Nat) : EOK Try.prog x_impl_areRows k f_impl_areRows_0D.E (.block 0 (.loop f_impl_areRows_0B)) := loop_ok T_ok g_impl_areRows f_impl_areRows_0z f_impl_areRows_0h f_impl_areRows_0l k
theorem h_impl_areRows (k : Nat) (x : Tup d_impl_areRows.ps) : d_impl_areRows.f (k + 1) x = fnK d_impl_areRows x_impl_areRows c_impl_areRows k x := by kernel_rfl
theorem z_impl_areRows (x : Tup d_impl_areRows.ps) : d_impl_areRows.f 0 x = none := by kernel_rfl
theorem l_impl_areRows (k : Nat) : LOK Try.prog x_impl_areRows k c_impl_areRows := LOK.by [(f_impl_areRows_0D.E, .block 0 (.loop f_impl_areRows_0B))] (by kernel_rfl) (AllOK.cons (f_impl_areRows_0ok k) AllOK.nil)
theorem s_impl_areRows (k : Nat) : SoundAt Try.prog k 75 d_impl_areRows.E := @fn_all Try.prog d_impl_areRows x_impl_areRows 75 Try.f75 c_impl_areRows (by kernel_rfl) (by kernel_rfl) (by kernel_rfl) Try.func75 (by kernel_rfl) (by kernel_rfl) (by kernel_rfl) T_ok g_impl_areRows l_impl_areRows z_impl_areRows h_impl_areRows k
/-! function 77 -/
noncomputable def r_spec_voVoted : List PK := [{ t := Ty.slice (3 : Nat) (Ty.int IntKind.i64) }]
noncomputable def q_spec_voVoted : List PK := [{ t := Ty.slice (25 : Nat) (Ty.slice (3 : Nat) (Ty.int IntKind.i64)) }]
noncomputable def to_spec_voVoted (r : List Int) : Tup r_spec_voVoted × OutD := ((r, ()), none)
noncomputable def of_spec_voVoted : Tup r_spec_voVoted × OutD → Option (List Int)
  | (a, none) => some (a.1)
  | _ => none
theorem to_of_spec_voVoted : ∀ b r, of_spec_voVoted b = some r → to_spec_voVoted r = b := by
  rintro ⟨a, o⟩ r h
  cases o with
  | none => injection h with h; subst h; rfl
  | some _ => cases h
noncomputable def f_spec_voVoted_0 : Nat → List Int → List (List Int) → Int → Int → Option (List Int)
  | 0, _, _, _, _ => none
  | k + 1, o1, v0, v10, v11 =>
    if decide (v11 < v10) = true then Option.bind (f_spec_voPlace k v0 v11) fun z0 => Option.bind (f_spec_voMost k z0) fun z1 => if List.length o1 + List.length [Prod.fst z1] ≤ (140737488355328 / 8 : Nat) then f_spec_voVoted_0 k (o1 ++ [Prod.fst z1]) v0 v10 (wrap64 (v11 + (1 : Int))) else none else some o1
noncomputable def f_spec_voVoted_0i : Spec := { objs := [OSh.ro, OSh.row true (3 : Nat) (Ty.int IntKind.i64)], tmps := [((0 : Nat), TSh.at (Sh.snap (0 : Nat) (Ty.slice (3 : Nat) (Ty.int IntKind.i64)))), ((3 : Nat), TSh.at (Sh.sl (1 : Nat))), ((10 : Nat), TSh.at (Sh.int IntKind.i64)), ((11 : Nat), TSh.at (Sh.int IntKind.i64))] }
noncomputable def f_spec_voVoted_0o : Spec := { objs := [OSh.ro, OSh.row true (3 : Nat) (Ty.int IntKind.i64)], tmps := [((3 : Nat), TSh.at (Sh.sl (1 : Nat)))] }
noncomputable def f_spec_voVoted_0D : LoopDef (Tup r_spec_voVoted × OutD) := .plain f_spec_voVoted_0i f_spec_voVoted_0o (List Int) (fun k x => f_spec_voVoted_0 k x.1.2.1 x.2.1 x.2.2.2.1 x.2.2.2.2.1) (fun z => (((), z, ()), ((), ()))) (fun y => (y.1.2.1)) (fun _ => rfl)
noncomputable def f_spec_voVoted : Nat → List (List Int) → Option (List Int)
  | 0, _ => none
  | k + 1, p0 =>
    if (0 : Int) < (↑(List.length p0) : Int) then Option.bind (f_spec_voVoted_0 k [] p0 (↑(List.length (List.getD p0 (Int.toNat (0 : Int)) [])) : Int) (0 : Int)) fun z2 => some z2 else none
noncomputable def d_spec_voVoted : FnDef := .of q_spec_voVoted r_spec_voVoted (List Int) (fun k x => f_spec_voVoted k x.1) to_spec_voVoted of_spec_voVoted to_of_spec_voVoted
noncomputable def c_spec_voVoted : Code := Try.f77.body.getD .skip
noncomputable def x_spec_voVoted : Ctx (Tup r_spec_voVoted × OutD) := { T := T, G := [(74, d_spec_voPlace.E), (61, d_spec_voMost.E)], mvs := [], no := 0, n := 27, res := resOf T q_spec_voVoted r_spec_voVoted Try.f77.results.toList, loops := [(0, f_spec_voVoted_0D.E)], regs := [], conds := [] }
theorem g_spec_voVoted (k : Nat) : EnvOK Try.prog k x_spec_voVoted.G := (EnvOK.cons (s_spec_voPlace k) (EnvOK.cons (s_spec_voMost k) (EnvOK.nil mixed)))
noncomputable def f_spec_voVoted_0B : Code := (findLoop 0 c_spec_voVoted).getD .skip
theorem f_spec_voVoted_0h (k : Nat) (x : f_spec_voVoted_0i.D) : f_spec_voVoted_0D.lp (k + 1) x = loopK x_spec_voVoted f_spec_voVoted_0D 0 f_spec_voVoted_0B k x := by kernel_rfl
theorem f_spec_voVoted_0l (k : Nat) : LOK Try.prog x_spec_voVoted k f_spec_voVoted_0B := LOK.by [] (by kernel_rfl) AllOK.nil
theorem f_spec_voVoted_0z (x : f_spec_voVoted_0i.D) : f_spec_voVoted_0D.lp 0 x = none := by kernel_rfl
theorem f_spec_voVoted_0ok (k : Nat) : EOK Try.prog x_spec_voVoted k f_spec_voVoted_0D.E (.block 0 (.loop f_spec_voVoted_0B)) := loop_ok T_ok g_spec_voVoted f_spec_voVoted_0z f_spec_voVoted_0h f_spec_voVoted_0l k
theorem h_spec_voVoted (k : Nat) (x : Tup d_spec_voVoted.ps) : d_spec_voVoted.f (k + 1) x = fnK d_spec_voVoted x_spec_voVoted c_spec_voVoted k x := by kernel_rfl
theorem z_spec_voVoted (x : Tup d_spec_voVoted.ps) : d_spec_voVoted.f 0 x = none := by kernel_rfl
theorem l_spec_voVoted (k : Nat) : LOK Try.prog x_spec_voVoted k c_spec_voVoted := LOK.by [(f_spec_voVoted_0D.E, .block 0 (.loop f_spec_voVoted_0B))] (by kernel_rfl) (AllOK.cons (f_spec_voVoted_0ok k) AllOK.nil)
theorem s_spec_voVoted (k : Nat) : SoundAt Try.prog k 77 d_spec_voVoted.E := @fn_all Try.prog d_spec_voVoted x_spec_voVoted 77 Try.f77 c_spec_voVoted (by kernel_rfl) (by kernel_rfl) (by kernel_rfl) Try.func77 (by kernel_rfl) (by kernel_rfl) (by kernel_rfl) T_ok g_spec_voVoted l_spec_voVoted z_spec_voVoted h_spec_voVoted k
/-! function 84 -/
noncomputable def r_laws_toCellS : List PK := [{ t := Ty.slice (98 : Nat) (Ty.pair (Ty.int IntKind.i64) (Ty.int IntKind.i64)) }]
noncomputable def q_laws_toCellS : List PK := [{ t := Ty.slice (100 : Nat) (Ty.pair (Ty.int IntKind.i64) (Ty.int IntKind.i64)) }]
noncomputable def to_laws_toCellS (r : List (Int × Int)) : Tup r_laws_toCellS × OutD := ((r, ()), none)
noncomputable def of_laws_toCellS : Tup r_laws_toCellS × OutD → Option (List (Int × Int))
  | (a, none) => some (a.1)
  | _ => none
theorem to_of_laws_toCellS : ∀ b r, of_laws_toCellS b = some r → to_laws_toCellS r = b := by
  rintro ⟨a, o⟩ r h
  cases o with
  | none => injection h with h; subst h; rfl
  | some _ => cases h
noncomputable def f_laws_toCellS_0 : Nat → List (Int × Int) → List (Int × Int) → Int → Option (List (Int × Int))
  | 0, _, _, _ => none
  | k + 1, o1, v0, v4 =>
    if decide (v4 < (↑(List.length v0) : Int)) = true then if (0 : Int) ≤ v4 then if v4 < (↑(List.length v0) : Int) then Option.bind (f_laws_toCell k (Prod.fst (List.getD v0 (Int.toNat v4) ((0 : Int), (0 : Int))), Prod.snd (List.getD v0 (Int.toNat v4) ((0 : Int), (0 : Int))))) fun z0 => if (0 : Int) ≤ v4 then if v4 < (↑(List.length o1) : Int) then f_laws_toCellS_0 k (List.set o1 (Int.toNat v4) (Prod.fst z0, Prod.snd z0)) v0 (wrap64 (v4 + (1 : Int))) else none else none else none else none else some o1
noncomputable def f_laws_toCellS_0i : Spec := { objs := [OSh.ro, OSh.row true (98 : Nat) (Ty.pair (Ty.int IntKind.i64) (Ty.int IntKind.i64))], tmps := [((0 : Nat), TSh.at (Sh.snap (0 : Nat) (Ty.pair (Ty.int IntKind.i64) (Ty.int IntKind.i64)))), ((3 : Nat), TSh.at (Sh.sl (1 : Nat))), ((4 : Nat), TSh.at (Sh.int IntKind.i64))] }
noncomputable def f_laws_toCellS_0o : Spec := { objs := [OSh.ro, OSh.row true (98 : Nat) (Ty.pair (Ty.int IntKind.i64) (Ty.int IntKind.i64))], tmps := [((3 : Nat), TSh.at (Sh.sl (1 : Nat)))] }
noncomputable def f_laws_toCellS_0D : LoopDef (Tup r_laws_toCellS × OutD) := .plain f_laws_toCellS_0i f_laws_toCellS_0o (List (Int × Int)) (fun k x => f_laws_toCellS_0 k x.1.2.1 x.2.1 x.2.2.2.1) (fun z => (((), z, ()), ((), ()))) (fun y => (y.1.2.1)) (fun _ => rfl)
noncomputable def f_laws_toCellS : Nat → List (Int × Int) → Option (List (Int × Int))
  | 0, _ => none
  | k + 1, p0 =>
    if Int.toNat (↑(List.length p0) : Int) * (16 : Nat) ≤ (281474976710656 : Nat) then Option.bind (f_laws_toCellS_0 k (List.replicate (Int.toNat (↑(List.length p0) : Int)) ((0 : Int), (0 : Int))) p0 (0 : Int)) fun z1 => some z1 else none
noncomputable def d_laws_toCellS : FnDef := .of q_laws_toCellS r_laws_toCellS (List (Int × Int)) (fun k x => f_laws_toCellS k x.1) to_laws_toCellS of_laws_toCellS to_of_laws_toCellS
noncomputable def c_laws_toCellS : Code := Try.f84.body.getD .skip
noncomputable def x_laws_toCellS : Ctx (Tup r_laws_toCellS × OutD) := { T := T, G := [(98, d_laws_toCell.E)], mvs := [], no := 0, n := 23, res := resOf T q_laws_toCellS r_laws_toCellS Try.f84.results.toList, loops := [(0, f_laws_toCellS_0D.E)], regs := [], conds := [] }
theorem g_laws_toCellS (k : Nat) : EnvOK Try.prog k x_laws_toCellS.G := (EnvOK.cons (s_laws_toCell k) (EnvOK.nil mixed))
noncomputable def f_laws_toCellS_0B : Code := (findLoop 0 c_laws_toCellS).getD .skip
theorem f_laws_toCellS_0h (k : Nat) (x : f_laws_toCellS_0i.D) : f_laws_toCellS_0D.lp (k + 1) x = loopK x_laws_toCellS f_laws_toCellS_0D 0 f_laws_toCellS_0B k x := by kernel_rfl
theorem f_laws_toCellS_0l (k : Nat) : LOK Try.prog x_laws_toCellS k f_laws_toCellS_0B := LOK.by [] (by kernel_rfl) AllOK.nil
theorem f_laws_toCellS_0z (x : f_laws_toCellS_0i.D) : f_laws_toCellS_0D.lp 0 x = none := by kernel_rfl
theorem f_laws_toCellS_0ok (k : Nat) : EOK Try.prog x_laws_toCellS k f_laws_toCellS_0D.E (.block 0 (.loop f_laws_toCellS_0B)) := loop_ok T_ok g_laws_toCellS f_laws_toCellS_0z f_laws_toCellS_0h f_laws_toCellS_0l k
theorem h_laws_toCellS (k : Nat) (x : Tup d_laws_toCellS.ps) : d_laws_toCellS.f (k + 1) x = fnK d_laws_toCellS x_laws_toCellS c_laws_toCellS k x := by kernel_rfl
theorem z_laws_toCellS (x : Tup d_laws_toCellS.ps) : d_laws_toCellS.f 0 x = none := by kernel_rfl
theorem l_laws_toCellS (k : Nat) : LOK Try.prog x_laws_toCellS k c_laws_toCellS := LOK.by [(f_laws_toCellS_0D.E, .block 0 (.loop f_laws_toCellS_0B))] (by kernel_rfl) (AllOK.cons (f_laws_toCellS_0ok k) AllOK.nil)
theorem s_laws_toCellS (k : Nat) : SoundAt Try.prog k 84 d_laws_toCellS.E := @fn_all Try.prog d_laws_toCellS x_laws_toCellS 84 Try.f84 c_laws_toCellS (by kernel_rfl) (by kernel_rfl) (by kernel_rfl) Try.func84 (by kernel_rfl) (by kernel_rfl) (by kernel_rfl) T_ok g_laws_toCellS l_laws_toCellS z_laws_toCellS h_laws_toCellS k
/-! function 87 -/
noncomputable def r_laws_eqCellS : List PK := [{ t := Ty.bool }]
noncomputable def q_laws_eqCellS : List PK := [{ t := Ty.slice (98 : Nat) (Ty.pair (Ty.int IntKind.i64) (Ty.int IntKind.i64)) }, { t := Ty.slice (98 : Nat) (Ty.pair (Ty.int IntKind.i64) (Ty.int IntKind.i64)) }]
noncomputable def to_laws_eqCellS (r : Bool) : Tup r_laws_eqCellS × OutD := ((r, ()), none)
noncomputable def of_laws_eqCellS : Tup r_laws_eqCellS × OutD → Option (Bool)
  | (a, none) => some (a.1)
  | _ => none
theorem to_of_laws_eqCellS : ∀ b r, of_laws_eqCellS b = some r → to_laws_eqCellS r = b := by
  rintro ⟨a, o⟩ r h
  cases o with
  | none => injection h with h; subst h; rfl
  | some _ => cases h
noncomputable def f_laws_eqCellS_0 : Nat → List (Int × Int) → List (Int × Int) → Int → Option (LR Unit Bool)
  | 0, _, _, _ => none
  | k + 1, v0, v1, v5 =>
    if decide (v5 < (↑(List.length v0) : Int)) = true then if (0 : Int) ≤ v5 then if v5 < (↑(List.length v0) : Int) then if (0 : Int) ≤ v5 then if v5 < (↑(List.length v1) : Int) then Option.bind (f_laws_eqCell k (Prod.fst (List.getD v0 (Int.toNat v5) ((0 : Int), (0 : Int))), Prod.snd (List.getD v0 (Int.toNat v5) ((0 : Int), (0 : Int)))) (Prod.fst (List.getD v1 (Int.toNat v5) ((0 : Int), (0 : Int))), Prod.snd (List.getD v1 (Int.toNat v5) ((0 : Int), (0 : Int))))) fun z0 => if (!z0) = true then some (LR.ret false) else f_laws_eqCellS_0 k v0 v1 (wrap64 (v5 + (1 : Int))) else none else none else none else none else some (LR.go ())
noncomputable def f_laws_eqCellS_0i : Spec := { objs := [OSh.ro], tmps := [((0 : Nat), TSh.at (Sh.snap (0 : Nat) (Ty.pair (Ty.int IntKind.i64) (Ty.int IntKind.i64)))), ((1 : Nat), TSh.at (Sh.snap (0 : Nat) (Ty.pair (Ty.int IntKind.i64) (Ty.int IntKind.i64)))), ((5 : Nat), TSh.at (Sh.int IntKind.i64))] }
noncomputable def f_laws_eqCellS_0o : Spec := { objs := [OSh.ro], tmps := [] }
noncomputable def f_laws_eqCellS_0D : LoopDef (Tup r_laws_eqCellS × OutD) := .rets f_laws_eqCellS_0i f_laws_eqCellS_0o (Unit) (Bool) (fun k x => f_laws_eqCellS_0 k x.2.1 x.2.2.1 x.2.2.2.1) (fun z => (((), ()), (()))) (fun y => ()) (fun _ => rfl) to_laws_eqCellS of_laws_eqCellS to_of_laws_eqCellS
noncomputable def f_laws_eqCellS : Nat → List (Int × Int) → List (Int × Int) → Option Bool
  | 0, _, _ => none
  | k + 1, p0, p1 =>
    if decide ((↑(List.length p0) : Int) ≠ (↑(List.length p1) : Int)) = true then some false else Option.bind (f_laws_eqCellS_0 k p0 p1 (0 : Int)) fun z1 => LR.on z1 (fun y1 => some true) fun r1 => some r1
noncomputable def d_laws_eqCellS : FnDef := .of q_laws_eqCellS r_laws_eqCellS (Bool) (fun k x => f_laws_eqCellS k x.1 x.2.1) to_laws_eqCellS of_laws_eqCellS to_of_laws_eqCellS
noncomputable def c_laws_eqCellS : Code := Try.f87.body.getD .skip
noncomputable def x_laws_eqCellS : Ctx (Tup r_laws_eqCellS × OutD) := { T := T, G := [(101, d_laws_eqCell.E)], mvs := [], no := 0, n := 27, res := resOf T q_laws_eqCellS r_laws_eqCellS Try.f87.results.toList, loops := [(0, f_laws_eqCellS_0D.E)], regs := [], conds := [] }
theorem g_laws_eqCellS (k : Nat) : EnvOK Try.prog k x_laws_eqCellS.G := (EnvOK.cons (s_laws_eqCell k) (EnvOK.nil mixed))
noncomputable def f_laws_eqCellS_0B : Code := (findLoop 0 c_laws_eqCellS).getD .skip
theorem f_laws_eqCellS_0h (k : Nat) (x : f_laws_eqCellS_0i.D) : f_laws_eqCellS_0D.lp (k + 1) x = loopK x_laws_eqCellS f_laws_eqCellS_0D 0 f_laws_eqCellS_0B k x := by kernel_rfl
theorem f_laws_eqCellS_0l (k : Nat) : LOK Try.prog x_laws_eqCellS k f_laws_eqCellS_0B := LOK.by [] (by kernel_rfl) AllOK.nil
theorem f_laws_eqCellS_0z (x : f_laws_eqCellS_0i.D) : f_laws_eqCellS_0D.lp 0 x = none := by kernel_rfl
theorem f_laws_eqCellS_0ok (k : Nat) : EOK Try.prog x_laws_eqCellS k f_laws_eqCellS_0D.E (.block 0 (.loop f_laws_eqCellS_0B)) := loop_ok T_ok g_laws_eqCellS f_laws_eqCellS_0z f_laws_eqCellS_0h f_laws_eqCellS_0l k
theorem h_laws_eqCellS (k : Nat) (x : Tup d_laws_eqCellS.ps) : d_laws_eqCellS.f (k + 1) x = fnK d_laws_eqCellS x_laws_eqCellS c_laws_eqCellS k x := by kernel_rfl
theorem z_laws_eqCellS (x : Tup d_laws_eqCellS.ps) : d_laws_eqCellS.f 0 x = none := by kernel_rfl
theorem l_laws_eqCellS (k : Nat) : LOK Try.prog x_laws_eqCellS k c_laws_eqCellS := LOK.by [(f_laws_eqCellS_0D.E, .block 0 (.loop f_laws_eqCellS_0B))] (by kernel_rfl) (AllOK.cons (f_laws_eqCellS_0ok k) AllOK.nil)
theorem s_laws_eqCellS (k : Nat) : SoundAt Try.prog k 87 d_laws_eqCellS.E := @fn_all Try.prog d_laws_eqCellS x_laws_eqCellS 87 Try.f87 c_laws_eqCellS (by kernel_rfl) (by kernel_rfl) (by kernel_rfl) Try.func87 (by kernel_rfl) (by kernel_rfl) (by kernel_rfl) T_ok g_laws_eqCellS l_laws_eqCellS z_laws_eqCellS h_laws_eqCellS k
/-! function 92 -/
noncomputable def r_spec_psLoan : List PK := [{ t := Ty.bool }]
noncomputable def q_spec_psLoan : List PK := [{ t := Ty.pair (Ty.int IntKind.i64) (Ty.pair (Ty.int IntKind.i64) (Ty.pair (Ty.int IntKind.i64) (Ty.int IntKind.i64))), agg := true }]
noncomputable def to_spec_psLoan (r : Bool) : Tup r_spec_psLoan × OutD := ((r, ()), none)
noncomputable def of_spec_psLoan : Tup r_spec_psLoan × OutD → Option (Bool)
  | (a, none) => some (a.1)
  | _ => none
theorem to_of_spec_psLoan : ∀ b r, of_spec_psLoan b = some r → to_spec_psLoan r = b := by
  rintro ⟨a, o⟩ r h
  cases o with
  | none => injection h with h; subst h; rfl
  | some _ => cases h
noncomputable def f_spec_psLoan : Nat → Int × Int × Int × Int → Option Bool
  | 0, _ => none
  | k + 1, p0 =>
    Option.bind (f_spec_l1In k (Prod.fst p0) (1 : Int) (99 : Int)) fun z0 => if z0 = true then Option.bind (f_spec_l1In k (Prod.fst (Prod.snd p0)) (1 : Int) (7 : Int)) fun z1 => if z1 = true then Option.bind (f_spec_l1In k (Prod.fst (Prod.snd (Prod.snd p0))) (1 : Int) (99 : Int)) fun z2 => if z2 = true then Option.bind (f_spec_l1In k (Prod.snd (Prod.snd (Prod.snd p0))) (0 : Int) (999 : Int)) fun z3 => some z3 else some false else some false else some false
noncomputable def d_spec_psLoan : FnDef := .of q_spec_psLoan r_spec_psLoan (Bool) (fun k x => f_spec_psLoan k x.1) to_spec_psLoan of_spec_psLoan to_of_spec_psLoan
noncomputable def c_spec_psLoan : Code := Try.f92.body.getD .skip
noncomputable def x_spec_psLoan : Ctx (Tup r_spec_psLoan × OutD) := { T := T, G := [(55, d_spec_l1In.E)], mvs := [], no := 0, n := 21, res := resOf T q_spec_psLoan r_spec_psLoan Try.f92.results.toList, loops := [], regs := [], conds := [] }
theorem g_spec_psLoan (k : Nat) : EnvOK Try.prog k x_spec_psLoan.G := (EnvOK.cons (s_spec_l1In k) (EnvOK.nil mixed))
theorem h_spec_psLoan (k : Nat) (x : Tup d_spec_psLoan.ps) : d_spec_psLoan.f (k + 1) x = fnK d_spec_psLoan x_spec_psLoan c_spec_psLoan k x := by kernel_rfl
theorem z_spec_psLoan (x : Tup d_spec_psLoan.ps) : d_spec_psLoan.f 0 x = none := by kernel_rfl
theorem l_spec_psLoan (k : Nat) : LOK Try.prog x_spec_psLoan k c_spec_psLoan := LOK.by [] (by kernel_rfl) AllOK.nil
theorem s_spec_psLoan (k : Nat) : SoundAt Try.prog k 92 d_spec_psLoan.E := @fn_all Try.prog d_spec_psLoan x_spec_psLoan 92 Try.f92 c_spec_psLoan (by kernel_rfl) (by kernel_rfl) (by kernel_rfl) Try.func92 (by kernel_rfl) (by kernel_rfl) (by kernel_rfl) T_ok g_spec_psLoan l_spec_psLoan z_spec_psLoan h_spec_psLoan k
/-! function 99 -/
noncomputable def r_impl_validCells : List PK := [{ t := Ty.bool }]
noncomputable def q_impl_validCells : List PK := [{ t := Ty.slice (98 : Nat) (Ty.pair (Ty.int IntKind.i64) (Ty.int IntKind.i64)) }]
noncomputable def to_impl_validCells (r : Bool) : Tup r_impl_validCells × OutD := ((r, ()), none)
noncomputable def of_impl_validCells : Tup r_impl_validCells × OutD → Option (Bool)
  | (a, none) => some (a.1)
  | _ => none
theorem to_of_impl_validCells : ∀ b r, of_impl_validCells b = some r → to_impl_validCells r = b := by
  rintro ⟨a, o⟩ r h
  cases o with
  | none => injection h with h; subst h; rfl
  | some _ => cases h
noncomputable def f_impl_validCells_0 : Nat → List (Int × Int) → Int → Int → Option (LR Unit Bool)
  | 0, _, _, _ => none
  | k + 1, v8, v9, v10 =>
    if decide (v10 < v9) = true then if (0 : Int) ≤ v10 then if v10 < (↑(List.length v8) : Int) then Option.bind (f_impl_IsCell k (Prod.fst (List.getD v8 (Int.toNat v10) ((0 : Int), (0 : Int))), Prod.snd (List.getD v8 (Int.toNat v10) ((0 : Int), (0 : Int))))) fun z0 => if (!z0) = true then some (LR.ret false) else f_impl_validCells_0 k v8 v9 (wrap64 (v10 + (1 : Int))) else none else none else some (LR.go ())
noncomputable def f_impl_validCells_0i : Spec := { objs := [OSh.ro], tmps := [((8 : Nat), TSh.at (Sh.snap (0 : Nat) (Ty.pair (Ty.int IntKind.i64) (Ty.int IntKind.i64)))), ((9 : Nat), TSh.at (Sh.int IntKind.i64)), ((10 : Nat), TSh.at (Sh.int IntKind.i64))] }
noncomputable def f_impl_validCells_0o : Spec := { objs := [OSh.ro], tmps := [] }
noncomputable def f_impl_validCells_0D : LoopDef (Tup r_impl_validCells × OutD) := .rets f_impl_validCells_0i f_impl_validCells_0o (Unit) (Bool) (fun k x => f_impl_validCells_0 k x.2.1 x.2.2.1 x.2.2.2.1) (fun z => (((), ()), (()))) (fun y => ()) (fun _ => rfl) to_impl_validCells of_impl_validCells to_of_impl_validCells
noncomputable def f_impl_validCells : Nat → List (Int × Int) → Option Bool
  | 0, _ => none
  | k + 1, p0 =>
    if decide ((↑(List.length p0) : Int) > (90 : Int)) = true then some false else Option.bind (f_impl_validCells_0 k p0 (↑(List.length p0) : Int) (0 : Int)) fun z1 => LR.on z1 (fun y1 => some true) fun r1 => some r1
noncomputable def d_impl_validCells : FnDef := .of q_impl_validCells r_impl_validCells (Bool) (fun k x => f_impl_validCells k x.1) to_impl_validCells of_impl_validCells to_of_impl_validCells
noncomputable def c_impl_validCells : Code := Try.f99.body.getD .skip
noncomputable def x_impl_validCells : Ctx (Tup r_impl_validCells × OutD) := { T := T, G := [(104, d_impl_IsCell.E)], mvs := [], no := 0, n := 18, res := resOf T q_impl_validCells r_impl_validCells Try.f99.results.toList, loops := [(0, f_impl_validCells_0D.E)], regs := [], conds := [] }
theorem g_impl_validCells (k : Nat) : EnvOK Try.prog k x_impl_validCells.G := (EnvOK.cons (s_impl_IsCell k) (EnvOK.nil mixed))
noncomputable def f_impl_validCells_0B : Code := (findLoop 0 c_impl_validCells).getD .skip
theorem f_impl_validCells_0h (k : Nat) (x : f_impl_validCells_0i.D) : f_impl_validCells_0D.lp (k + 1) x = loopK x_impl_validCells f_impl_validCells_0D 0 f_impl_validCells_0B k x := by kernel_rfl
theorem f_impl_validCells_0l (k : Nat) : LOK Try.prog x_impl_validCells k f_impl_validCells_0B := LOK.by [] (by kernel_rfl) AllOK.nil
theorem f_impl_validCells_0z (x : f_impl_validCells_0i.D) : f_impl_validCells_0D.lp 0 x = none := by kernel_rfl
theorem f_impl_validCells_0ok (k : Nat) : EOK Try.prog x_impl_validCells k f_impl_validCells_0D.E (.block 0 (.loop f_impl_validCells_0B)) := loop_ok T_ok g_impl_validCells f_impl_validCells_0z f_impl_validCells_0h f_impl_validCells_0l k
theorem h_impl_validCells (k : Nat) (x : Tup d_impl_validCells.ps) : d_impl_validCells.f (k + 1) x = fnK d_impl_validCells x_impl_validCells c_impl_validCells k x := by kernel_rfl
theorem z_impl_validCells (x : Tup d_impl_validCells.ps) : d_impl_validCells.f 0 x = none := by kernel_rfl
theorem l_impl_validCells (k : Nat) : LOK Try.prog x_impl_validCells k c_impl_validCells := LOK.by [(f_impl_validCells_0D.E, .block 0 (.loop f_impl_validCells_0B))] (by kernel_rfl) (AllOK.cons (f_impl_validCells_0ok k) AllOK.nil)
theorem s_impl_validCells (k : Nat) : SoundAt Try.prog k 99 d_impl_validCells.E := @fn_all Try.prog d_impl_validCells x_impl_validCells 99 Try.f99 c_impl_validCells (by kernel_rfl) (by kernel_rfl) (by kernel_rfl) Try.func99 (by kernel_rfl) (by kernel_rfl) (by kernel_rfl) T_ok g_impl_validCells l_impl_validCells z_impl_validCells h_impl_validCells k
/-! function 102 -/
noncomputable def r_spec_l1Abs : List PK := [{ t := Ty.int IntKind.i64 }]
noncomputable def q_spec_l1Abs : List PK := [{ t := Ty.int IntKind.i64 }]
noncomputable def to_spec_l1Abs (r : Int) : Tup r_spec_l1Abs × OutD := ((r, ()), none)
noncomputable def of_spec_l1Abs : Tup r_spec_l1Abs × OutD → Option (Int)
  | (a, none) => some (a.1)
  | _ => none
theorem to_of_spec_l1Abs : ∀ b r, of_spec_l1Abs b = some r → to_spec_l1Abs r = b := by
  rintro ⟨a, o⟩ r h
  cases o with
  | none => injection h with h; subst h; rfl
  | some _ => cases h
noncomputable def f_spec_l1Abs : Nat → Int → Option Int
  | 0, _ => none
  | k + 1, p0 =>
    Option.bind (f_spec_l1Most k p0 (wrap64 ((0 : Int) - p0))) fun z0 => some z0
noncomputable def d_spec_l1Abs : FnDef := .of q_spec_l1Abs r_spec_l1Abs (Int) (fun k x => f_spec_l1Abs k x.1) to_spec_l1Abs of_spec_l1Abs to_of_spec_l1Abs
noncomputable def c_spec_l1Abs : Code := Try.f102.body.getD .skip
noncomputable def x_spec_l1Abs : Ctx (Tup r_spec_l1Abs × OutD) := { T := T, G := [(56, d_spec_l1Most.E)], mvs := [], no := 0, n := 7, res := resOf T q_spec_l1Abs r_spec_l1Abs Try.f102.results.toList, loops := [], regs := [], conds := [] }
theorem g_spec_l1Abs (k : Nat) : EnvOK Try.prog k x_spec_l1Abs.G := (EnvOK.cons (s_spec_l1Most k) (EnvOK.nil mixed))
theorem h_spec_l1Abs (k : Nat) (x : Tup d_spec_l1Abs.ps) : d_spec_l1Abs.f (k + 1) x = fnK d_spec_l1Abs x_spec_l1Abs c_spec_l1Abs k x := by kernel_rfl
theorem z_spec_l1Abs (x : Tup d_spec_l1Abs.ps) : d_spec_l1Abs.f 0 x = none := by kernel_rfl
theorem l_spec_l1Abs (k : Nat) : LOK Try.prog x_spec_l1Abs k c_spec_l1Abs := LOK.by [] (by kernel_rfl) AllOK.nil
theorem s_spec_l1Abs (k : Nat) : SoundAt Try.prog k 102 d_spec_l1Abs.E := @fn_all Try.prog d_spec_l1Abs x_spec_l1Abs 102 Try.f102 c_spec_l1Abs (by kernel_rfl) (by kernel_rfl) (by kernel_rfl) Try.func102 (by kernel_rfl) (by kernel_rfl) (by kernel_rfl) T_ok g_spec_l1Abs l_spec_l1Abs z_spec_l1Abs h_spec_l1Abs k
/-! function 103 -/
noncomputable def r_spec_paGood : List PK := [{ t := Ty.bool }]
noncomputable def q_spec_paGood : List PK := [{ t := Ty.pair (Ty.int IntKind.i64) (Ty.int IntKind.i64), agg := true }]
noncomputable def to_spec_paGood (r : Bool) : Tup r_spec_paGood × OutD := ((r, ()), none)
noncomputable def of_spec_paGood : Tup r_spec_paGood × OutD → Option (Bool)
  | (a, none) => some (a.1)
  | _ => none
theorem to_of_spec_paGood : ∀ b r, of_spec_paGood b = some r → to_spec_paGood r = b := by
  rintro ⟨a, o⟩ r h
  cases o with
  | none => injection h with h; subst h; rfl
  | some _ => cases h
noncomputable def f_spec_paGood : Nat → Int × Int → Option Bool
  | 0, _ => none
  | k + 1, p0 =>
    Option.bind (f_spec_l1In k (Prod.fst p0) (0 : Int) (7 : Int)) fun z0 => if z0 = true then if decide (Prod.snd p0 = (0 : Int)) = true then some true else if decide (Prod.snd p0 = (1 : Int)) = true then Option.bind (f_spec_paTurning k (Prod.fst p0, Prod.snd p0)) fun z1 => some z1 else some false else some false
noncomputable def d_spec_paGood : FnDef := .of q_spec_paGood r_spec_paGood (Bool) (fun k x => f_spec_paGood k x.1) to_spec_paGood of_spec_paGood to_of_spec_paGood
noncomputable def c_spec_paGood : Code := Try.f103.body.getD .skip
noncomputable def x_spec_paGood : Ctx (Tup r_spec_paGood × OutD) := { T := T, G := [(55, d_spec_l1In.E), (105, d_spec_paTurning.E)], mvs := [], no := 0, n := 20, res := resOf T q_spec_paGood r_spec_paGood Try.f103.results.toList, loops := [], regs := [], conds := [] }
theorem g_spec_paGood (k : Nat) : EnvOK Try.prog k x_spec_paGood.G := (EnvOK.cons (s_spec_l1In k) (EnvOK.cons (s_spec_paTurning k) (EnvOK.nil mixed)))
theorem h_spec_paGood (k : Nat) (x : Tup d_spec_paGood.ps) : d_spec_paGood.f (k + 1) x = fnK d_spec_paGood x_spec_paGood c_spec_paGood k x := by kernel_rfl
theorem z_spec_paGood (x : Tup d_spec_paGood.ps) : d_spec_paGood.f 0 x = none := by kernel_rfl
theorem l_spec_paGood (k : Nat) : LOK Try.prog x_spec_paGood k c_spec_paGood := LOK.by [] (by kernel_rfl) AllOK.nil
theorem s_spec_paGood (k : Nat) : SoundAt Try.prog k 103 d_spec_paGood.E := @fn_all Try.prog d_spec_paGood x_spec_paGood 103 Try.f103 c_spec_paGood (by kernel_rfl) (by kernel_rfl) (by kernel_rfl) Try.func103 (by kernel_rfl) (by kernel_rfl) (by kernel_rfl) T_ok g_spec_paGood l_spec_paGood z_spec_paGood h_spec_paGood k
end
end Go.Proofs.Ytcmndffpmjinlaa.Vs
