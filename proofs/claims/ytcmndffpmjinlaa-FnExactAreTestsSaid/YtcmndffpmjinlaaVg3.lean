/- Functions of the program by plain functions, each with its contract. -/
import Derived.Test.YtcmndffpmjinlaaVsT
import Derived.Test.YtcmndffpmjinlaaVg0
import Derived.Test.YtcmndffpmjinlaaVg1
import Derived.Test.YtcmndffpmjinlaaVg2
set_option maxRecDepth 100000
set_option linter.unusedVariables false
set_option linter.unusedSimpArgs false
namespace Go.Proofs.Ytcmndffpmjinlaa.Vs
open Go.RowKit
noncomputable section
/-! function 3 -/
noncomputable def r_laws_FnExactTolerated : List PK := [{ t := Ty.bool }]
noncomputable def q_laws_FnExactTolerated : List PK := [{ t := Ty.int IntKind.i64 }]
noncomputable def to_laws_FnExactTolerated (r : Bool) : Tup r_laws_FnExactTolerated × OutD := ((r, ()), none)
noncomputable def of_laws_FnExactTolerated : Tup r_laws_FnExactTolerated × OutD → Option (Bool)
  | (a, none) => some (a.1)
  | _ => none
theorem to_of_laws_FnExactTolerated : ∀ b r, of_laws_FnExactTolerated b = some r → to_laws_FnExactTolerated r = b := by
  rintro ⟨a, o⟩ r h
  cases o with
  | none => injection h with h; subst h; rfl
  | some _ => cases h
noncomputable def f_laws_FnExactTolerated : Nat → Int → Option Bool
  | 0, _ => none
  | k + 1, p0 =>
    Option.bind (f_spec_Tolerated k p0) fun z0 => Option.bind (f_impl_Tolerated k p0) fun z1 => if decide (Prod.fst z1 ≠ Prod.fst z0) = true then some false else if (!Prod.snd z1 == Prod.snd z0) = true then some false else some true
noncomputable def d_laws_FnExactTolerated : FnDef := .of q_laws_FnExactTolerated r_laws_FnExactTolerated (Bool) (fun k x => f_laws_FnExactTolerated k x.1) to_laws_FnExactTolerated of_laws_FnExactTolerated to_of_laws_FnExactTolerated
noncomputable def c_laws_FnExactTolerated : Code := Try.f3.body.getD .skip
noncomputable def x_laws_FnExactTolerated : Ctx (Tup r_laws_FnExactTolerated × OutD) := { T := T, G := [(15, d_spec_Tolerated.E), (16, d_impl_Tolerated.E)], mvs := [], no := 0, n := 25, res := resOf T q_laws_FnExactTolerated r_laws_FnExactTolerated Try.f3.results.toList, loops := [], regs := [], conds := [] }
theorem g_laws_FnExactTolerated (k : Nat) : EnvOK Try.prog k x_laws_FnExactTolerated.G := (EnvOK.cons (s_spec_Tolerated k) (EnvOK.cons (s_impl_Tolerated k) (EnvOK.nil mixed)))
theorem h_laws_FnExactTolerated (k : Nat) (x : Tup d_laws_FnExactTolerated.ps) : d_laws_FnExactTolerated.f (k + 1) x = fnK d_laws_FnExactTolerated x_laws_FnExactTolerated c_laws_FnExactTolerated k x := by kernel_rfl
theorem z_laws_FnExactTolerated (x : Tup d_laws_FnExactTolerated.ps) : d_laws_FnExactTolerated.f 0 x = none := by kernel_rfl
theorem l_laws_FnExactTolerated (k : Nat) : LOK Try.prog x_laws_FnExactTolerated k c_laws_FnExactTolerated := LOK.by [] (by kernel_rfl) AllOK.nil
theorem s_laws_FnExactTolerated (k : Nat) : SoundAt Try.prog k 3 d_laws_FnExactTolerated.E := @fn_all Try.prog d_laws_FnExactTolerated x_laws_FnExactTolerated 3 Try.f3 c_laws_FnExactTolerated (by kernel_rfl) (by kernel_rfl) (by kernel_rfl) Try.func3 (by kernel_rfl) (by kernel_rfl) (by kernel_rfl) T_ok g_laws_FnExactTolerated l_laws_FnExactTolerated z_laws_FnExactTolerated h_laws_FnExactTolerated k
/-! function 17 -/
noncomputable def r_spec_FlipsToWin : List PK := [{ t := Ty.int IntKind.i64 }, { t := Ty.bool }]
noncomputable def q_spec_FlipsToWin : List PK := [{ t := Ty.slice (3 : Nat) (Ty.int IntKind.i64) }, { t := Ty.int IntKind.i64 }]
noncomputable def to_spec_FlipsToWin (r : Int × Bool) : Tup r_spec_FlipsToWin × OutD := ((r.1, r.2, ()), none)
noncomputable def of_spec_FlipsToWin : Tup r_spec_FlipsToWin × OutD → Option (Int × Bool)
  | (a, none) => some (a.1, a.2.1)
  | _ => none
theorem to_of_spec_FlipsToWin : ∀ b r, of_spec_FlipsToWin b = some r → to_spec_FlipsToWin r = b := by
  rintro ⟨a, o⟩ r h
  cases o with
  | none => injection h with h; subst h; rfl
  | some _ => cases h
noncomputable def f_spec_FlipsToWin_0 : Nat → List Int → Int → Int → List Int → Int → Int → Option (List Int × Int)
  | 0, _, _, _, _, _, _ => none
  | k + 1, v0, v1, v6, v17, v18, v19 =>
    if decide (v19 < v18) = true then if (0 : Int) ≤ v19 then if v19 < (↑(List.length v17) : Int) then if decide (List.getD v17 (Int.toNat v19) (0 : Int) = v1) = true then f_spec_FlipsToWin_0 k v0 v1 (wrap64 (v6 + (1 : Int))) v17 v18 (wrap64 (v19 + (1 : Int))) else f_spec_FlipsToWin_0 k v0 v1 v6 v17 v18 (wrap64 (v19 + (1 : Int))) else none else none else some (v0, v6)
noncomputable def f_spec_FlipsToWin_0i : Spec := { objs := [OSh.ro], tmps := [((0 : Nat), TSh.at (Sh.snap (0 : Nat) (Ty.int IntKind.i64))), ((1 : Nat), TSh.at (Sh.int IntKind.i64)), ((6 : Nat), TSh.at (Sh.int IntKind.i64)), ((17 : Nat), TSh.at (Sh.snap (0 : Nat) (Ty.int IntKind.i64))), ((18 : Nat), TSh.at (Sh.int IntKind.i64)), ((19 : Nat), TSh.at (Sh.int IntKind.i64))] }
noncomputable def f_spec_FlipsToWin_0o : Spec := { objs := [OSh.ro], tmps := [((0 : Nat), TSh.at (Sh.snap (0 : Nat) (Ty.int IntKind.i64))), ((6 : Nat), TSh.at (Sh.int IntKind.i64))] }
noncomputable def f_spec_FlipsToWin_0D : LoopDef (Tup r_spec_FlipsToWin × OutD) := .plain f_spec_FlipsToWin_0i f_spec_FlipsToWin_0o (List Int × Int) (fun k x => f_spec_FlipsToWin_0 k x.2.1 x.2.2.1 x.2.2.2.1 x.2.2.2.2.1 x.2.2.2.2.2.1 x.2.2.2.2.2.2.1) (fun z => (((), ()), (z.1, z.2, ()))) (fun y => (y.2.1, y.2.2.1)) (fun _ => rfl)
noncomputable def f_spec_FlipsToWin : Nat → List Int → Int → Option (Int × Bool)
  | 0, _, _ => none
  | k + 1, p0, p1 =>
    Option.bind (f_spec_voVotes k p0) fun z0 => if (!z0) = true then some ((0 : Int), false) else Option.bind (f_spec_l1In k p1 (0 : Int) (9 : Int)) fun z1 => if (!z1) = true then some ((0 : Int), false) else Option.bind (f_spec_FlipsToWin_0 k p0 p1 (0 : Int) p0 (↑(List.length p0) : Int) (0 : Int)) fun z2 => Option.bind (f_spec_l1Most k (0 : Int) (wrap64 (wrap64 (wrap64 (Int.tdiv (↑(List.length (Prod.fst z2)) : Int) (2 : Int)) + (1 : Int)) - Prod.snd z2))) fun z3 => some (z3, true)
noncomputable def d_spec_FlipsToWin : FnDef := .of q_spec_FlipsToWin r_spec_FlipsToWin (Int × Bool) (fun k x => f_spec_FlipsToWin k x.1 x.2.1) to_spec_FlipsToWin of_spec_FlipsToWin to_of_spec_FlipsToWin
noncomputable def c_spec_FlipsToWin : Code := Try.f17.body.getD .skip
noncomputable def x_spec_FlipsToWin : Ctx (Tup r_spec_FlipsToWin × OutD) := { T := T, G := [(54, d_spec_voVotes.E), (55, d_spec_l1In.E), (56, d_spec_l1Most.E)], mvs := [], no := 0, n := 36, res := resOf T q_spec_FlipsToWin r_spec_FlipsToWin Try.f17.results.toList, loops := [(0, f_spec_FlipsToWin_0D.E)], regs := [], conds := [] }
theorem g_spec_FlipsToWin (k : Nat) : EnvOK Try.prog k x_spec_FlipsToWin.G := (EnvOK.cons (s_spec_voVotes k) (EnvOK.cons (s_spec_l1In k) (EnvOK.cons (s_spec_l1Most k) (EnvOK.nil mixed))))
noncomputable def f_spec_FlipsToWin_0B : Code := (findLoop 0 c_spec_FlipsToWin).getD .skip
theorem f_spec_FlipsToWin_0h (k : Nat) (x : f_spec_FlipsToWin_0i.D) : f_spec_FlipsToWin_0D.lp (k + 1) x = loopK x_spec_FlipsToWin f_spec_FlipsToWin_0D 0 f_spec_FlipsToWin_0B k x := by kernel_rfl
theorem f_spec_FlipsToWin_0l (k : Nat) : LOK Try.prog x_spec_FlipsToWin k f_spec_FlipsToWin_0B := LOK.by [] (by kernel_rfl) AllOK.nil
theorem f_spec_FlipsToWin_0z (x : f_spec_FlipsToWin_0i.D) : f_spec_FlipsToWin_0D.lp 0 x = none := by kernel_rfl
theorem f_spec_FlipsToWin_0ok (k : Nat) : EOK Try.prog x_spec_FlipsToWin k f_spec_FlipsToWin_0D.E (.block 0 (.loop f_spec_FlipsToWin_0B)) := loop_ok T_ok g_spec_FlipsToWin f_spec_FlipsToWin_0z f_spec_FlipsToWin_0h f_spec_FlipsToWin_0l k
theorem h_spec_FlipsToWin (k : Nat) (x : Tup d_spec_FlipsToWin.ps) : d_spec_FlipsToWin.f (k + 1) x = fnK d_spec_FlipsToWin x_spec_FlipsToWin c_spec_FlipsToWin k x := by kernel_rfl
theorem z_spec_FlipsToWin (x : Tup d_spec_FlipsToWin.ps) : d_spec_FlipsToWin.f 0 x = none := by kernel_rfl
theorem l_spec_FlipsToWin (k : Nat) : LOK Try.prog x_spec_FlipsToWin k c_spec_FlipsToWin := LOK.by [(f_spec_FlipsToWin_0D.E, .block 0 (.loop f_spec_FlipsToWin_0B))] (by kernel_rfl) (AllOK.cons (f_spec_FlipsToWin_0ok k) AllOK.nil)
theorem s_spec_FlipsToWin (k : Nat) : SoundAt Try.prog k 17 d_spec_FlipsToWin.E := @fn_all Try.prog d_spec_FlipsToWin x_spec_FlipsToWin 17 Try.f17 c_spec_FlipsToWin (by kernel_rfl) (by kernel_rfl) (by kernel_rfl) Try.func17 (by kernel_rfl) (by kernel_rfl) (by kernel_rfl) T_ok g_spec_FlipsToWin l_spec_FlipsToWin z_spec_FlipsToWin h_spec_FlipsToWin k
/-! function 23 -/
noncomputable def r_spec_MostVoted : List PK := [{ t := Ty.int IntKind.i64 }, { t := Ty.int IntKind.i64 }, { t := Ty.bool }]
noncomputable def q_spec_MostVoted : List PK := [{ t := Ty.slice (3 : Nat) (Ty.int IntKind.i64) }]
noncomputable def to_spec_MostVoted (r : Int × Int × Bool) : Tup r_spec_MostVoted × OutD := ((r.1, r.2.1, r.2.2, ()), none)
noncomputable def of_spec_MostVoted : Tup r_spec_MostVoted × OutD → Option (Int × Int × Bool)
  | (a, none) => some (a.1, a.2.1, a.2.2.1)
  | _ => none
theorem to_of_spec_MostVoted : ∀ b r, of_spec_MostVoted b = some r → to_spec_MostVoted r = b := by
  rintro ⟨a, o⟩ r h
  cases o with
  | none => injection h with h; subst h; rfl
  | some _ => cases h
noncomputable def f_spec_MostVoted : Nat → List Int → Option (Int × Int × Bool)
  | 0, _ => none
  | k + 1, p0 =>
    Option.bind (f_spec_voVotes k p0) fun z0 => if (!z0) = true then some ((0 : Int), (0 : Int), false) else Option.bind (f_spec_voMost k p0) fun z1 => some (Prod.fst z1, Prod.snd z1, true)
noncomputable def d_spec_MostVoted : FnDef := .of q_spec_MostVoted r_spec_MostVoted (Int × Int × Bool) (fun k x => f_spec_MostVoted k x.1) to_spec_MostVoted of_spec_MostVoted to_of_spec_MostVoted
noncomputable def c_spec_MostVoted : Code := Try.f23.body.getD .skip
noncomputable def x_spec_MostVoted : Ctx (Tup r_spec_MostVoted × OutD) := { T := T, G := [(54, d_spec_voVotes.E), (61, d_spec_voMost.E)], mvs := [], no := 0, n := 17, res := resOf T q_spec_MostVoted r_spec_MostVoted Try.f23.results.toList, loops := [], regs := [], conds := [] }
theorem g_spec_MostVoted (k : Nat) : EnvOK Try.prog k x_spec_MostVoted.G := (EnvOK.cons (s_spec_voVotes k) (EnvOK.cons (s_spec_voMost k) (EnvOK.nil mixed)))
theorem h_spec_MostVoted (k : Nat) (x : Tup d_spec_MostVoted.ps) : d_spec_MostVoted.f (k + 1) x = fnK d_spec_MostVoted x_spec_MostVoted c_spec_MostVoted k x := by kernel_rfl
theorem z_spec_MostVoted (x : Tup d_spec_MostVoted.ps) : d_spec_MostVoted.f 0 x = none := by kernel_rfl
theorem l_spec_MostVoted (k : Nat) : LOK Try.prog x_spec_MostVoted k c_spec_MostVoted := LOK.by [] (by kernel_rfl) AllOK.nil
theorem s_spec_MostVoted (k : Nat) : SoundAt Try.prog k 23 d_spec_MostVoted.E := @fn_all Try.prog d_spec_MostVoted x_spec_MostVoted 23 Try.f23 c_spec_MostVoted (by kernel_rfl) (by kernel_rfl) (by kernel_rfl) Try.func23 (by kernel_rfl) (by kernel_rfl) (by kernel_rfl) T_ok g_spec_MostVoted l_spec_MostVoted z_spec_MostVoted h_spec_MostVoted k
/-! function 27 -/
noncomputable def r_spec_MajorityOf : List PK := [{ t := Ty.int IntKind.i64 }, { t := Ty.bool }]
noncomputable def q_spec_MajorityOf : List PK := [{ t := Ty.slice (3 : Nat) (Ty.int IntKind.i64) }]
noncomputable def to_spec_MajorityOf (r : Int × Bool) : Tup r_spec_MajorityOf × OutD := ((r.1, r.2, ()), none)
noncomputable def of_spec_MajorityOf : Tup r_spec_MajorityOf × OutD → Option (Int × Bool)
  | (a, none) => some (a.1, a.2.1)
  | _ => none
theorem to_of_spec_MajorityOf : ∀ b r, of_spec_MajorityOf b = some r → to_spec_MajorityOf r = b := by
  rintro ⟨a, o⟩ r h
  cases o with
  | none => injection h with h; subst h; rfl
  | some _ => cases h
noncomputable def f_spec_MajorityOf : Nat → List Int → Option (Int × Bool)
  | 0, _ => none
  | k + 1, p0 =>
    Option.bind (f_spec_voVotes k p0) fun z0 => if (!z0) = true then some ((0 : Int), false) else Option.bind (f_spec_voMost k p0) fun z1 => if decide (wrap64 ((2 : Int) * Prod.snd z1) ≤ (↑(List.length p0) : Int)) = true then some ((0 : Int), false) else some (Prod.fst z1, true)
noncomputable def d_spec_MajorityOf : FnDef := .of q_spec_MajorityOf r_spec_MajorityOf (Int × Bool) (fun k x => f_spec_MajorityOf k x.1) to_spec_MajorityOf of_spec_MajorityOf to_of_spec_MajorityOf
noncomputable def c_spec_MajorityOf : Code := Try.f27.body.getD .skip
noncomputable def x_spec_MajorityOf : Ctx (Tup r_spec_MajorityOf × OutD) := { T := T, G := [(54, d_spec_voVotes.E), (61, d_spec_voMost.E)], mvs := [], no := 0, n := 20, res := resOf T q_spec_MajorityOf r_spec_MajorityOf Try.f27.results.toList, loops := [], regs := [], conds := [] }
theorem g_spec_MajorityOf (k : Nat) : EnvOK Try.prog k x_spec_MajorityOf.G := (EnvOK.cons (s_spec_voVotes k) (EnvOK.cons (s_spec_voMost k) (EnvOK.nil mixed)))
theorem h_spec_MajorityOf (k : Nat) (x : Tup d_spec_MajorityOf.ps) : d_spec_MajorityOf.f (k + 1) x = fnK d_spec_MajorityOf x_spec_MajorityOf c_spec_MajorityOf k x := by kernel_rfl
theorem z_spec_MajorityOf (x : Tup d_spec_MajorityOf.ps) : d_spec_MajorityOf.f 0 x = none := by kernel_rfl
theorem l_spec_MajorityOf (k : Nat) : LOK Try.prog x_spec_MajorityOf k c_spec_MajorityOf := LOK.by [] (by kernel_rfl) AllOK.nil
theorem s_spec_MajorityOf (k : Nat) : SoundAt Try.prog k 27 d_spec_MajorityOf.E := @fn_all Try.prog d_spec_MajorityOf x_spec_MajorityOf 27 Try.f27 c_spec_MajorityOf (by kernel_rfl) (by kernel_rfl) (by kernel_rfl) Try.func27 (by kernel_rfl) (by kernel_rfl) (by kernel_rfl) T_ok g_spec_MajorityOf l_spec_MajorityOf z_spec_MajorityOf h_spec_MajorityOf k
/-! function 29 -/
noncomputable def r_spec_WeightedVote : List PK := [{ t := Ty.int IntKind.i64 }, { t := Ty.bool }]
noncomputable def q_spec_WeightedVote : List PK := [{ t := Ty.slice (3 : Nat) (Ty.int IntKind.i64) }, { t := Ty.slice (3 : Nat) (Ty.int IntKind.i64) }]
noncomputable def to_spec_WeightedVote (r : Int × Bool) : Tup r_spec_WeightedVote × OutD := ((r.1, r.2, ()), none)
noncomputable def of_spec_WeightedVote : Tup r_spec_WeightedVote × OutD → Option (Int × Bool)
  | (a, none) => some (a.1, a.2.1)
  | _ => none
theorem to_of_spec_WeightedVote : ∀ b r, of_spec_WeightedVote b = some r → to_spec_WeightedVote r = b := by
  rintro ⟨a, o⟩ r h
  cases o with
  | none => injection h with h; subst h; rfl
  | some _ => cases h
noncomputable def f_spec_WeightedVote_0 : Nat → List Int → List Int → List Int → Int → List Int → Int → Int → Option (List Int × List Int × Int)
  | 0, _, _, _, _, _, _, _ => none
  | k + 1, o1, v0, v1, v7, v28, v29, v30 =>
    if decide (v30 < v29) = true then if (0 : Int) ≤ v30 then if v30 < (↑(List.length v28) : Int) then if (0 : Int) ≤ List.getD v28 (Int.toNat v30) (0 : Int) then if List.getD v28 (Int.toNat v30) (0 : Int) < (↑(List.length o1) : Int) then if (0 : Int) ≤ v30 then if v30 < (↑(List.length v1) : Int) then if (0 : Int) ≤ List.getD v28 (Int.toNat v30) (0 : Int) then if List.getD v28 (Int.toNat v30) (0 : Int) < (↑(List.length o1) : Int) then f_spec_WeightedVote_0 k (List.set o1 (Int.toNat (List.getD v28 (Int.toNat v30) (0 : Int))) (wrap64 (List.getD o1 (Int.toNat (List.getD v28 (Int.toNat v30) (0 : Int))) (0 : Int) + List.getD v1 (Int.toNat v30) (0 : Int)))) v0 v1 v7 v28 v29 (wrap64 (v30 + (1 : Int))) else none else none else none else none else none else none else none else none else some (o1, v0, v7)
noncomputable def f_spec_WeightedVote_0i : Spec := { objs := [OSh.ro, OSh.row true (3 : Nat) (Ty.int IntKind.i64)], tmps := [((0 : Nat), TSh.at (Sh.snap (0 : Nat) (Ty.int IntKind.i64))), ((1 : Nat), TSh.at (Sh.snap (0 : Nat) (Ty.int IntKind.i64))), ((6 : Nat), TSh.at (Sh.sl (1 : Nat))), ((7 : Nat), TSh.at (Sh.int IntKind.i64)), ((28 : Nat), TSh.at (Sh.snap (0 : Nat) (Ty.int IntKind.i64))), ((29 : Nat), TSh.at (Sh.int IntKind.i64)), ((30 : Nat), TSh.at (Sh.int IntKind.i64))] }
noncomputable def f_spec_WeightedVote_0o : Spec := { objs := [OSh.ro, OSh.row true (3 : Nat) (Ty.int IntKind.i64)], tmps := [((0 : Nat), TSh.at (Sh.snap (0 : Nat) (Ty.int IntKind.i64))), ((6 : Nat), TSh.at (Sh.sl (1 : Nat))), ((7 : Nat), TSh.at (Sh.int IntKind.i64))] }
noncomputable def f_spec_WeightedVote_0D : LoopDef (Tup r_spec_WeightedVote × OutD) := .plain f_spec_WeightedVote_0i f_spec_WeightedVote_0o (List Int × List Int × Int) (fun k x => f_spec_WeightedVote_0 k x.1.2.1 x.2.1 x.2.2.1 x.2.2.2.2.1 x.2.2.2.2.2.1 x.2.2.2.2.2.2.1 x.2.2.2.2.2.2.2.1) (fun z => (((), z.1, ()), (z.2.1, (), z.2.2, ()))) (fun y => (y.1.2.1, y.2.1, y.2.2.2.1)) (fun _ => rfl)
noncomputable def f_spec_WeightedVote_2 : Nat → List Int → List Int → Int → Int → Int → Option Int
  | 0, _, _, _, _, _ => none
  | k + 1, o1, v0, v7, v47, v48 =>
    if decide (v48 < v47) = true then if (0 : Int) ≤ v48 then if v48 < (↑(List.length o1) : Int) then Option.bind (f_spec_l1Has k v0 v48) fun z3 => if z3 = true then if decide (v7 < (0 : Int)) = true then f_spec_WeightedVote_2 k o1 v0 v48 v47 (wrap64 (v48 + (1 : Int))) else if (0 : Int) ≤ v7 then if v7 < (↑(List.length o1) : Int) then if decide (List.getD o1 (Int.toNat v48) (0 : Int) > List.getD o1 (Int.toNat v7) (0 : Int)) = true then f_spec_WeightedVote_2 k o1 v0 v48 v47 (wrap64 (v48 + (1 : Int))) else f_spec_WeightedVote_2 k o1 v0 v7 v47 (wrap64 (v48 + (1 : Int))) else none else none else f_spec_WeightedVote_2 k o1 v0 v7 v47 (wrap64 (v48 + (1 : Int))) else none else none else some v7
noncomputable def f_spec_WeightedVote_2i : Spec := { objs := [OSh.ro, OSh.row true (3 : Nat) (Ty.int IntKind.i64)], tmps := [((0 : Nat), TSh.at (Sh.snap (0 : Nat) (Ty.int IntKind.i64))), ((6 : Nat), TSh.at (Sh.sl (1 : Nat))), ((7 : Nat), TSh.at (Sh.int IntKind.i64)), ((46 : Nat), TSh.at (Sh.sl (1 : Nat))), ((47 : Nat), TSh.at (Sh.int IntKind.i64)), ((48 : Nat), TSh.at (Sh.int IntKind.i64))] }
noncomputable def f_spec_WeightedVote_2o : Spec := { objs := [OSh.ro], tmps := [((7 : Nat), TSh.at (Sh.int IntKind.i64))] }
noncomputable def f_spec_WeightedVote_2D : LoopDef (Tup r_spec_WeightedVote × OutD) := .plain f_spec_WeightedVote_2i f_spec_WeightedVote_2o (Int) (fun k x => f_spec_WeightedVote_2 k x.1.2.1 x.2.1 x.2.2.2.1 x.2.2.2.2.2.1 x.2.2.2.2.2.2.1) (fun z => (((), ()), (z, ()))) (fun y => (y.2.1)) (fun _ => rfl)
noncomputable def f_spec_WeightedVote : Nat → List Int → List Int → Option (Int × Bool)
  | 0, _, _ => none
  | k + 1, p0, p1 =>
    Option.bind (f_spec_voVotes k p0) fun z0 => if (!z0) = true then some ((0 : Int), false) else if decide ((↑(List.length p1) : Int) ≠ (↑(List.length p0) : Int)) = true then some ((0 : Int), false) else Option.bind (f_spec_l1All k p1 (0 : Int) (100 : Int)) fun z1 => if (!z1) = true then some ((0 : Int), false) else Option.bind (f_spec_WeightedVote_0 k (List.replicate (Int.toNat (10 : Int)) (0 : Int)) p0 p1 (-1 : Int) p0 (↑(List.length p0) : Int) (0 : Int)) fun z2 => Option.bind (f_spec_WeightedVote_2 k (Prod.fst z2) (Prod.fst (Prod.snd z2)) (Prod.snd (Prod.snd z2)) (↑(List.length (Prod.fst z2)) : Int) (0 : Int)) fun z4 => some (z4, true)
noncomputable def d_spec_WeightedVote : FnDef := .of q_spec_WeightedVote r_spec_WeightedVote (Int × Bool) (fun k x => f_spec_WeightedVote k x.1 x.2.1) to_spec_WeightedVote of_spec_WeightedVote to_of_spec_WeightedVote
noncomputable def c_spec_WeightedVote : Code := Try.f29.body.getD .skip
noncomputable def x_spec_WeightedVote : Ctx (Tup r_spec_WeightedVote × OutD) := { T := T, G := [(54, d_spec_voVotes.E), (63, d_spec_l1All.E), (64, d_spec_l1Has.E)], mvs := [], no := 0, n := 71, res := resOf T q_spec_WeightedVote r_spec_WeightedVote Try.f29.results.toList, loops := [(0, f_spec_WeightedVote_0D.E), (2, f_spec_WeightedVote_2D.E)], regs := [], conds := [] }
theorem g_spec_WeightedVote (k : Nat) : EnvOK Try.prog k x_spec_WeightedVote.G := (EnvOK.cons (s_spec_voVotes k) (EnvOK.cons (s_spec_l1All k) (EnvOK.cons (s_spec_l1Has k) (EnvOK.nil mixed))))
noncomputable def f_spec_WeightedVote_0B : Code := (findLoop 0 c_spec_WeightedVote).getD .skip
theorem f_spec_WeightedVote_0h (k : Nat) (x : f_spec_WeightedVote_0i.D) : f_spec_WeightedVote_0D.lp (k + 1) x = loopK x_spec_WeightedVote f_spec_WeightedVote_0D 0 f_spec_WeightedVote_0B k x := by kernel_rfl
theorem f_spec_WeightedVote_0l (k : Nat) : LOK Try.prog x_spec_WeightedVote k f_spec_WeightedVote_0B := LOK.by [] (by kernel_rfl) AllOK.nil
theorem f_spec_WeightedVote_0z (x : f_spec_WeightedVote_0i.D) : f_spec_WeightedVote_0D.lp 0 x = none := by kernel_rfl
theorem f_spec_WeightedVote_0ok (k : Nat) : EOK Try.prog x_spec_WeightedVote k f_spec_WeightedVote_0D.E (.block 0 (.loop f_spec_WeightedVote_0B)) := loop_ok T_ok g_spec_WeightedVote f_spec_WeightedVote_0z f_spec_WeightedVote_0h f_spec_WeightedVote_0l k
noncomputable def f_spec_WeightedVote_2B : Code := (findLoop 2 c_spec_WeightedVote).getD .skip
theorem f_spec_WeightedVote_2h (k : Nat) (x : f_spec_WeightedVote_2i.D) : f_spec_WeightedVote_2D.lp (k + 1) x = loopK x_spec_WeightedVote f_spec_WeightedVote_2D 2 f_spec_WeightedVote_2B k x := by kernel_rfl
theorem f_spec_WeightedVote_2l (k : Nat) : LOK Try.prog x_spec_WeightedVote k f_spec_WeightedVote_2B := LOK.by [] (by kernel_rfl) AllOK.nil
theorem f_spec_WeightedVote_2z (x : f_spec_WeightedVote_2i.D) : f_spec_WeightedVote_2D.lp 0 x = none := by kernel_rfl
theorem f_spec_WeightedVote_2ok (k : Nat) : EOK Try.prog x_spec_WeightedVote k f_spec_WeightedVote_2D.E (.block 2 (.loop f_spec_WeightedVote_2B)) := loop_ok T_ok g_spec_WeightedVote f_spec_WeightedVote_2z f_spec_WeightedVote_2h f_spec_WeightedVote_2l k
theorem h_spec_WeightedVote (k : Nat) (x : Tup d_spec_WeightedVote.ps) : d_spec_WeightedVote.f (k + 1) x = fnK d_spec_WeightedVote x_spec_WeightedVote c_spec_WeightedVote k x := by kernel_rfl
theorem z_spec_WeightedVote (x : Tup d_spec_WeightedVote.ps) : d_spec_WeightedVote.f 0 x = none := by kernel_rfl
theorem l_spec_WeightedVote (k : Nat) : LOK Try.prog x_spec_WeightedVote k c_spec_WeightedVote := LOK.by [(f_spec_WeightedVote_0D.E, .block 0 (.loop f_spec_WeightedVote_0B)), (f_spec_WeightedVote_2D.E, .block 2 (.loop f_spec_WeightedVote_2B))] (by kernel_rfl) (AllOK.cons (f_spec_WeightedVote_0ok k) (AllOK.cons (f_spec_WeightedVote_2ok k) AllOK.nil))
theorem s_spec_WeightedVote (k : Nat) : SoundAt Try.prog k 29 d_spec_WeightedVote.E := @fn_all Try.prog d_spec_WeightedVote x_spec_WeightedVote 29 Try.f29 c_spec_WeightedVote (by kernel_rfl) (by kernel_rfl) (by kernel_rfl) Try.func29 (by kernel_rfl) (by kernel_rfl) (by kernel_rfl) T_ok g_spec_WeightedVote l_spec_WeightedVote z_spec_WeightedVote h_spec_WeightedVote k
/-! function 32 -/
noncomputable def r_spec_IsShop : List PK := [{ t := Ty.bool }]
noncomputable def q_spec_IsShop : List PK := [{ t := Ty.pair (Ty.slice (3 : Nat) (Ty.int IntKind.i64)) (Ty.slice (81 : Nat) (Ty.pair (Ty.int IntKind.i64) (Ty.pair (Ty.int IntKind.i64) (Ty.pair (Ty.int IntKind.i64) (Ty.int IntKind.i64))))), agg := true }]
noncomputable def to_spec_IsShop (r : Bool) : Tup r_spec_IsShop × OutD := ((r, ()), none)
noncomputable def of_spec_IsShop : Tup r_spec_IsShop × OutD → Option (Bool)
  | (a, none) => some (a.1)
  | _ => none
theorem to_of_spec_IsShop : ∀ b r, of_spec_IsShop b = some r → to_spec_IsShop r = b := by
  rintro ⟨a, o⟩ r h
  cases o with
  | none => injection h with h; subst h; rfl
  | some _ => cases h
noncomputable def f_spec_IsShop : Nat → List Int × List (Int × Int × Int × Int) → Option Bool
  | 0, _ => none
  | k + 1, p0 =>
    Option.bind (f_spec_psGood k (Prod.fst p0, Prod.snd p0)) fun z0 => some z0
noncomputable def d_spec_IsShop : FnDef := .of q_spec_IsShop r_spec_IsShop (Bool) (fun k x => f_spec_IsShop k x.1) to_spec_IsShop of_spec_IsShop to_of_spec_IsShop
noncomputable def c_spec_IsShop : Code := Try.f32.body.getD .skip
noncomputable def x_spec_IsShop : Ctx (Tup r_spec_IsShop × OutD) := { T := T, G := [(68, d_spec_psGood.E)], mvs := [], no := 0, n := 5, res := resOf T q_spec_IsShop r_spec_IsShop Try.f32.results.toList, loops := [], regs := [], conds := [] }
theorem g_spec_IsShop (k : Nat) : EnvOK Try.prog k x_spec_IsShop.G := (EnvOK.cons (s_spec_psGood k) (EnvOK.nil mixed))
theorem h_spec_IsShop (k : Nat) (x : Tup d_spec_IsShop.ps) : d_spec_IsShop.f (k + 1) x = fnK d_spec_IsShop x_spec_IsShop c_spec_IsShop k x := by kernel_rfl
theorem z_spec_IsShop (x : Tup d_spec_IsShop.ps) : d_spec_IsShop.f 0 x = none := by kernel_rfl
theorem l_spec_IsShop (k : Nat) : LOK Try.prog x_spec_IsShop k c_spec_IsShop := LOK.by [] (by kernel_rfl) AllOK.nil
theorem s_spec_IsShop (k : Nat) : SoundAt Try.prog k 32 d_spec_IsShop.E := @fn_all Try.prog d_spec_IsShop x_spec_IsShop 32 Try.f32 c_spec_IsShop (by kernel_rfl) (by kernel_rfl) (by kernel_rfl) Try.func32 (by kernel_rfl) (by kernel_rfl) (by kernel_rfl) T_ok g_spec_IsShop l_spec_IsShop z_spec_IsShop h_spec_IsShop k
/-! function 37 -/
noncomputable def r_spec_TieCount : List PK := [{ t := Ty.int IntKind.i64 }, { t := Ty.bool }]
noncomputable def q_spec_TieCount : List PK := [{ t := Ty.slice (25 : Nat) (Ty.slice (3 : Nat) (Ty.int IntKind.i64)) }]
noncomputable def to_spec_TieCount (r : Int × Bool) : Tup r_spec_TieCount × OutD := ((r.1, r.2, ()), none)
noncomputable def of_spec_TieCount : Tup r_spec_TieCount × OutD → Option (Int × Bool)
  | (a, none) => some (a.1, a.2.1)
  | _ => none
theorem to_of_spec_TieCount : ∀ b r, of_spec_TieCount b = some r → to_spec_TieCount r = b := by
  rintro ⟨a, o⟩ r h
  cases o with
  | none => injection h with h; subst h; rfl
  | some _ => cases h
noncomputable def f_spec_TieCount_4 : Nat → List Int → List (List Int) → Int → Int → Int → Int → Int → Int → Int → Int → Int → Option (List Int × List (List Int) × Int × Int × Int × Int × Int × Int × Int)
  | 0, _, _, _, _, _, _, _, _, _, _, _ => none
  | k + 1, o1, v0, v4, v8, v9, v10, v11, v20, v21, v37, v38 =>
    if decide (v38 < v37) = true then if (0 : Int) ≤ v38 then if v38 < (↑(List.length o1) : Int) then if decide (List.getD o1 (Int.toNat v38) (0 : Int) = v10) = true then f_spec_TieCount_4 k o1 v0 v4 v8 v9 v10 (wrap64 (v11 + (1 : Int))) v20 v21 v37 (wrap64 (v38 + (1 : Int))) else f_spec_TieCount_4 k o1 v0 v4 v8 v9 v10 v11 v20 v21 v37 (wrap64 (v38 + (1 : Int))) else none else none else some (o1, v0, v4, v8, v9, v10, v11, v20, v21)
noncomputable def f_spec_TieCount_4i : Spec := { objs := [OSh.ro, OSh.row true (3 : Nat) (Ty.int IntKind.i64)], tmps := [((0 : Nat), TSh.at (Sh.snap (0 : Nat) (Ty.slice (3 : Nat) (Ty.int IntKind.i64)))), ((4 : Nat), TSh.at (Sh.int IntKind.i64)), ((6 : Nat), TSh.at (Sh.sl (1 : Nat))), ((8 : Nat), TSh.at (Sh.int IntKind.i64)), ((9 : Nat), TSh.at (Sh.int IntKind.i64)), ((10 : Nat), TSh.at (Sh.int IntKind.i64)), ((11 : Nat), TSh.at (Sh.int IntKind.i64)), ((20 : Nat), TSh.at (Sh.int IntKind.i64)), ((21 : Nat), TSh.at (Sh.int IntKind.i64)), ((36 : Nat), TSh.at (Sh.sl (1 : Nat))), ((37 : Nat), TSh.at (Sh.int IntKind.i64)), ((38 : Nat), TSh.at (Sh.int IntKind.i64))] }
noncomputable def f_spec_TieCount_4o : Spec := { objs := [OSh.ro, OSh.row true (3 : Nat) (Ty.int IntKind.i64)], tmps := [((0 : Nat), TSh.at (Sh.snap (0 : Nat) (Ty.slice (3 : Nat) (Ty.int IntKind.i64)))), ((4 : Nat), TSh.at (Sh.int IntKind.i64)), ((6 : Nat), TSh.at (Sh.sl (1 : Nat))), ((8 : Nat), TSh.at (Sh.int IntKind.i64)), ((9 : Nat), TSh.at (Sh.int IntKind.i64)), ((10 : Nat), TSh.at (Sh.int IntKind.i64)), ((11 : Nat), TSh.at (Sh.int IntKind.i64)), ((20 : Nat), TSh.at (Sh.int IntKind.i64)), ((21 : Nat), TSh.at (Sh.int IntKind.i64))] }
noncomputable def f_spec_TieCount_4D : LoopDef (Tup r_spec_TieCount × OutD) := .plain f_spec_TieCount_4i f_spec_TieCount_4o (List Int × List (List Int) × Int × Int × Int × Int × Int × Int × Int) (fun k x => f_spec_TieCount_4 k x.1.2.1 x.2.1 x.2.2.1 x.2.2.2.2.1 x.2.2.2.2.2.1 x.2.2.2.2.2.2.1 x.2.2.2.2.2.2.2.1 x.2.2.2.2.2.2.2.2.1 x.2.2.2.2.2.2.2.2.2.1 x.2.2.2.2.2.2.2.2.2.2.2.1 x.2.2.2.2.2.2.2.2.2.2.2.2.1) (fun z => (((), z.1, ()), (z.2.1, z.2.2.1, (), z.2.2.2.1, z.2.2.2.2.1, z.2.2.2.2.2.1, z.2.2.2.2.2.2.1, z.2.2.2.2.2.2.2.1, z.2.2.2.2.2.2.2.2, ()))) (fun y => (y.1.2.1, y.2.1, y.2.2.1, y.2.2.2.2.1, y.2.2.2.2.2.1, y.2.2.2.2.2.2.1, y.2.2.2.2.2.2.2.1, y.2.2.2.2.2.2.2.2.1, y.2.2.2.2.2.2.2.2.2.1)) (fun _ => rfl)
noncomputable def f_spec_TieCount_2 : Nat → List Int → List (List Int) → Int → Int → Int → Int → Int → Int → Option (List (List Int) × Int × Int × Int × Int)
  | 0, _, _, _, _, _, _, _, _ => none
  | k + 1, o1, v0, v4, v8, v9, v10, v20, v21 =>
    if decide (v10 ≤ (9 : Int)) = true then Option.bind (f_spec_TieCount_4 k o1 v0 v4 v8 v9 v10 (0 : Int) v20 v21 (↑(List.length o1) : Int) (0 : Int)) fun z3 => if decide (Prod.fst (Prod.snd (Prod.snd (Prod.snd (Prod.snd (Prod.snd (Prod.snd z3)))))) = Prod.fst (Prod.snd (Prod.snd (Prod.snd z3)))) = true then f_spec_TieCount_2 k (Prod.fst z3) (Prod.fst (Prod.snd z3)) (Prod.fst (Prod.snd (Prod.snd z3))) (Prod.fst (Prod.snd (Prod.snd (Prod.snd z3)))) (wrap64 (Prod.fst (Prod.snd (Prod.snd (Prod.snd (Prod.snd z3)))) + (1 : Int))) (wrap64 (Prod.fst (Prod.snd (Prod.snd (Prod.snd (Prod.snd (Prod.snd z3))))) + (1 : Int))) (Prod.fst (Prod.snd (Prod.snd (Prod.snd (Prod.snd (Prod.snd (Prod.snd (Prod.snd z3)))))))) (Prod.snd (Prod.snd (Prod.snd (Prod.snd (Prod.snd (Prod.snd (Prod.snd (Prod.snd z3)))))))) else f_spec_TieCount_2 k (Prod.fst z3) (Prod.fst (Prod.snd z3)) (Prod.fst (Prod.snd (Prod.snd z3))) (Prod.fst (Prod.snd (Prod.snd (Prod.snd z3)))) (Prod.fst (Prod.snd (Prod.snd (Prod.snd (Prod.snd z3))))) (wrap64 (Prod.fst (Prod.snd (Prod.snd (Prod.snd (Prod.snd (Prod.snd z3))))) + (1 : Int))) (Prod.fst (Prod.snd (Prod.snd (Prod.snd (Prod.snd (Prod.snd (Prod.snd (Prod.snd z3)))))))) (Prod.snd (Prod.snd (Prod.snd (Prod.snd (Prod.snd (Prod.snd (Prod.snd (Prod.snd z3)))))))) else some (v0, v4, v9, v20, v21)
noncomputable def f_spec_TieCount_2i : Spec := { objs := [OSh.ro, OSh.row true (3 : Nat) (Ty.int IntKind.i64)], tmps := [((0 : Nat), TSh.at (Sh.snap (0 : Nat) (Ty.slice (3 : Nat) (Ty.int IntKind.i64)))), ((4 : Nat), TSh.at (Sh.int IntKind.i64)), ((6 : Nat), TSh.at (Sh.sl (1 : Nat))), ((8 : Nat), TSh.at (Sh.int IntKind.i64)), ((9 : Nat), TSh.at (Sh.int IntKind.i64)), ((10 : Nat), TSh.at (Sh.int IntKind.i64)), ((20 : Nat), TSh.at (Sh.int IntKind.i64)), ((21 : Nat), TSh.at (Sh.int IntKind.i64))] }
noncomputable def f_spec_TieCount_2o : Spec := { objs := [OSh.ro], tmps := [((0 : Nat), TSh.at (Sh.snap (0 : Nat) (Ty.slice (3 : Nat) (Ty.int IntKind.i64)))), ((4 : Nat), TSh.at (Sh.int IntKind.i64)), ((9 : Nat), TSh.at (Sh.int IntKind.i64)), ((20 : Nat), TSh.at (Sh.int IntKind.i64)), ((21 : Nat), TSh.at (Sh.int IntKind.i64))] }
noncomputable def f_spec_TieCount_2D : LoopDef (Tup r_spec_TieCount × OutD) := .plain f_spec_TieCount_2i f_spec_TieCount_2o (List (List Int) × Int × Int × Int × Int) (fun k x => f_spec_TieCount_2 k x.1.2.1 x.2.1 x.2.2.1 x.2.2.2.2.1 x.2.2.2.2.2.1 x.2.2.2.2.2.2.1 x.2.2.2.2.2.2.2.1 x.2.2.2.2.2.2.2.2.1) (fun z => (((), ()), (z.1, z.2.1, z.2.2.1, z.2.2.2.1, z.2.2.2.2, ()))) (fun y => (y.2.1, y.2.2.1, y.2.2.2.1, y.2.2.2.2.1, y.2.2.2.2.2.1)) (fun _ => rfl)
noncomputable def f_spec_TieCount_0 : Nat → List (List Int) → Int → Int → Int → Option Int
  | 0, _, _, _, _ => none
  | k + 1, v0, v4, v20, v21 =>
    if decide (v21 < v20) = true then Option.bind (f_spec_voPlace k v0 v21) fun z1 => Option.bind (f_spec_voMost k z1) fun z2 => Option.bind (f_spec_TieCount_2 k z1 v0 v4 (Prod.snd z2) (0 : Int) (0 : Int) v20 v21) fun z4 => if decide (Prod.fst (Prod.snd (Prod.snd z4)) > (1 : Int)) = true then f_spec_TieCount_0 k (Prod.fst z4) (wrap64 (Prod.fst (Prod.snd z4) + (1 : Int))) (Prod.fst (Prod.snd (Prod.snd (Prod.snd z4)))) (wrap64 (Prod.snd (Prod.snd (Prod.snd (Prod.snd z4))) + (1 : Int))) else f_spec_TieCount_0 k (Prod.fst z4) (Prod.fst (Prod.snd z4)) (Prod.fst (Prod.snd (Prod.snd (Prod.snd z4)))) (wrap64 (Prod.snd (Prod.snd (Prod.snd (Prod.snd z4))) + (1 : Int))) else some v4
noncomputable def f_spec_TieCount_0i : Spec := { objs := [OSh.ro], tmps := [((0 : Nat), TSh.at (Sh.snap (0 : Nat) (Ty.slice (3 : Nat) (Ty.int IntKind.i64)))), ((4 : Nat), TSh.at (Sh.int IntKind.i64)), ((20 : Nat), TSh.at (Sh.int IntKind.i64)), ((21 : Nat), TSh.at (Sh.int IntKind.i64))] }
noncomputable def f_spec_TieCount_0o : Spec := { objs := [OSh.ro], tmps := [((4 : Nat), TSh.at (Sh.int IntKind.i64))] }
noncomputable def f_spec_TieCount_0D : LoopDef (Tup r_spec_TieCount × OutD) := .plain f_spec_TieCount_0i f_spec_TieCount_0o (Int) (fun k x => f_spec_TieCount_0 k x.2.1 x.2.2.1 x.2.2.2.1 x.2.2.2.2.1) (fun z => (((), ()), (z, ()))) (fun y => (y.2.1)) (fun _ => rfl)
noncomputable def f_spec_TieCount : Nat → List (List Int) → Option (Int × Bool)
  | 0, _ => none
  | k + 1, p0 =>
    Option.bind (f_spec_voRows k p0) fun z0 => if (!z0) = true then some ((0 : Int), false) else if (0 : Int) < (↑(List.length p0) : Int) then Option.bind (f_spec_TieCount_0 k p0 (0 : Int) (↑(List.length (List.getD p0 (Int.toNat (0 : Int)) [])) : Int) (0 : Int)) fun z5 => some (z5, true) else none
noncomputable def d_spec_TieCount : FnDef := .of q_spec_TieCount r_spec_TieCount (Int × Bool) (fun k x => f_spec_TieCount k x.1) to_spec_TieCount of_spec_TieCount to_of_spec_TieCount
noncomputable def c_spec_TieCount : Code := Try.f37.body.getD .skip
noncomputable def x_spec_TieCount : Ctx (Tup r_spec_TieCount × OutD) := { T := T, G := [(73, d_spec_voRows.E), (74, d_spec_voPlace.E), (61, d_spec_voMost.E)], mvs := [], no := 0, n := 59, res := resOf T q_spec_TieCount r_spec_TieCount Try.f37.results.toList, loops := [(4, f_spec_TieCount_4D.E), (2, f_spec_TieCount_2D.E), (0, f_spec_TieCount_0D.E)], regs := [], conds := [] }
theorem g_spec_TieCount (k : Nat) : EnvOK Try.prog k x_spec_TieCount.G := (EnvOK.cons (s_spec_voRows k) (EnvOK.cons (s_spec_voPlace k) (EnvOK.cons (s_spec_voMost k) (EnvOK.nil mixed))))
noncomputable def f_spec_TieCount_4B : Code := (findLoop 4 c_spec_TieCount).getD .skip
theorem f_spec_TieCount_4h (k : Nat) (x : f_spec_TieCount_4i.D) : f_spec_TieCount_4D.lp (k + 1) x = loopK x_spec_TieCount f_spec_TieCount_4D 4 f_spec_TieCount_4B k x := by kernel_rfl
theorem f_spec_TieCount_4l (k : Nat) : LOK Try.prog x_spec_TieCount k f_spec_TieCount_4B := LOK.by [] (by kernel_rfl) AllOK.nil
theorem f_spec_TieCount_4z (x : f_spec_TieCount_4i.D) : f_spec_TieCount_4D.lp 0 x = none := by kernel_rfl
theorem f_spec_TieCount_4ok (k : Nat) : EOK Try.prog x_spec_TieCount k f_spec_TieCount_4D.E (.block 4 (.loop f_spec_TieCount_4B)) := loop_ok T_ok g_spec_TieCount f_spec_TieCount_4z f_spec_TieCount_4h f_spec_TieCount_4l k
noncomputable def f_spec_TieCount_2B : Code := (findLoop 2 c_spec_TieCount).getD .skip
theorem f_spec_TieCount_2h (k : Nat) (x : f_spec_TieCount_2i.D) : f_spec_TieCount_2D.lp (k + 1) x = loopK x_spec_TieCount f_spec_TieCount_2D 2 f_spec_TieCount_2B k x := by kernel_rfl
theorem f_spec_TieCount_2l (k : Nat) : LOK Try.prog x_spec_TieCount k f_spec_TieCount_2B := LOK.by [(f_spec_TieCount_4D.E, .block 4 (.loop f_spec_TieCount_4B))] (by kernel_rfl) (AllOK.cons (f_spec_TieCount_4ok k) AllOK.nil)
theorem f_spec_TieCount_2z (x : f_spec_TieCount_2i.D) : f_spec_TieCount_2D.lp 0 x = none := by kernel_rfl
theorem f_spec_TieCount_2ok (k : Nat) : EOK Try.prog x_spec_TieCount k f_spec_TieCount_2D.E (.block 2 (.loop f_spec_TieCount_2B)) := loop_ok T_ok g_spec_TieCount f_spec_TieCount_2z f_spec_TieCount_2h f_spec_TieCount_2l k
noncomputable def f_spec_TieCount_0B : Code := (findLoop 0 c_spec_TieCount).getD .skip
theorem f_spec_TieCount_0h (k : Nat) (x : f_spec_TieCount_0i.D) : f_spec_TieCount_0D.lp (k + 1) x = loopK x_spec_TieCount f_spec_TieCount_0D 0 f_spec_TieCount_0B k x := by kernel_rfl
theorem f_spec_TieCount_0l (k : Nat) : LOK Try.prog x_spec_TieCount k f_spec_TieCount_0B := LOK.by [(f_spec_TieCount_2D.E, .block 2 (.loop f_spec_TieCount_2B))] (by kernel_rfl) (AllOK.cons (f_spec_TieCount_2ok k) AllOK.nil)
theorem f_spec_TieCount_0z (x : f_spec_TieCount_0i.D) : f_spec_TieCount_0D.lp 0 x = none := by kernel_rfl
theorem f_spec_TieCount_0ok (k : Nat) : EOK Try.prog x_spec_TieCount k f_spec_TieCount_0D.E (.block 0 (.loop f_spec_TieCount_0B)) := loop_ok T_ok g_spec_TieCount f_spec_TieCount_0z f_spec_TieCount_0h f_spec_TieCount_0l k
theorem h_spec_TieCount (k : Nat) (x : Tup d_spec_TieCount.ps) : d_spec_TieCount.f (k + 1) x = fnK d_spec_TieCount x_spec_TieCount c_spec_TieCount k x := by kernel_rfl
theorem z_spec_TieCount (x : Tup d_spec_TieCount.ps) : d_spec_TieCount.f 0 x = none := by kernel_rfl
theorem l_spec_TieCount (k : Nat) : LOK Try.prog x_spec_TieCount k c_spec_TieCount := LOK.by [(f_spec_TieCount_0D.E, .block 0 (.loop f_spec_TieCount_0B))] (by kernel_rfl) (AllOK.cons (f_spec_TieCount_0ok k) AllOK.nil)
theorem s_spec_TieCount (k : Nat) : SoundAt Try.prog k 37 d_spec_TieCount.E := @fn_all Try.prog d_spec_TieCount x_spec_TieCount 37 Try.f37 c_spec_TieCount (by kernel_rfl) (by kernel_rfl) (by kernel_rfl) Try.func37 (by kernel_rfl) (by kernel_rfl) (by kernel_rfl) T_ok g_spec_TieCount l_spec_TieCount z_spec_TieCount h_spec_TieCount k
/-! function 41 -/
noncomputable def r_spec_VotedRows : List PK := [{ t := Ty.slice (3 : Nat) (Ty.int IntKind.i64) }, { t := Ty.bool }]
noncomputable def q_spec_VotedRows : List PK := [{ t := Ty.slice (25 : Nat) (Ty.slice (3 : Nat) (Ty.int IntKind.i64)) }]
noncomputable def to_spec_VotedRows (r : List Int × Bool) : Tup r_spec_VotedRows × OutD := ((r.1, r.2, ()), none)
noncomputable def of_spec_VotedRows : Tup r_spec_VotedRows × OutD → Option (List Int × Bool)
  | (a, none) => some (a.1, a.2.1)
  | _ => none
theorem to_of_spec_VotedRows : ∀ b r, of_spec_VotedRows b = some r → to_spec_VotedRows r = b := by
  rintro ⟨a, o⟩ r h
  cases o with
  | none => injection h with h; subst h; rfl
  | some _ => cases h
noncomputable def f_spec_VotedRows : Nat → List (List Int) → Option (List Int × Bool)
  | 0, _ => none
  | k + 1, p0 =>
    Option.bind (f_spec_voRows k p0) fun z0 => if (!z0) = true then some ([], false) else Option.bind (f_spec_voVoted k p0) fun z1 => some (z1, true)
noncomputable def d_spec_VotedRows : FnDef := .of q_spec_VotedRows r_spec_VotedRows (List Int × Bool) (fun k x => f_spec_VotedRows k x.1) to_spec_VotedRows of_spec_VotedRows to_of_spec_VotedRows
noncomputable def c_spec_VotedRows : Code := Try.f41.body.getD .skip
noncomputable def x_spec_VotedRows : Ctx (Tup r_spec_VotedRows × OutD) := { T := T, G := [(73, d_spec_voRows.E), (77, d_spec_voVoted.E)], mvs := [], no := 0, n := 9, res := resOf T q_spec_VotedRows r_spec_VotedRows Try.f41.results.toList, loops := [], regs := [], conds := [] }
theorem g_spec_VotedRows (k : Nat) : EnvOK Try.prog k x_spec_VotedRows.G := (EnvOK.cons (s_spec_voRows k) (EnvOK.cons (s_spec_voVoted k) (EnvOK.nil mixed)))
theorem h_spec_VotedRows (k : Nat) (x : Tup d_spec_VotedRows.ps) : d_spec_VotedRows.f (k + 1) x = fnK d_spec_VotedRows x_spec_VotedRows c_spec_VotedRows k x := by kernel_rfl
theorem z_spec_VotedRows (x : Tup d_spec_VotedRows.ps) : d_spec_VotedRows.f 0 x = none := by kernel_rfl
theorem l_spec_VotedRows (k : Nat) : LOK Try.prog x_spec_VotedRows k c_spec_VotedRows := LOK.by [] (by kernel_rfl) AllOK.nil
theorem s_spec_VotedRows (k : Nat) : SoundAt Try.prog k 41 d_spec_VotedRows.E := @fn_all Try.prog d_spec_VotedRows x_spec_VotedRows 41 Try.f41 c_spec_VotedRows (by kernel_rfl) (by kernel_rfl) (by kernel_rfl) Try.func41 (by kernel_rfl) (by kernel_rfl) (by kernel_rfl) T_ok g_spec_VotedRows l_spec_VotedRows z_spec_VotedRows h_spec_VotedRows k
/-! function 46 -/
noncomputable def r_spec_SuspectCopies : List PK := [{ t := Ty.slice (3 : Nat) (Ty.int IntKind.i64) }, { t := Ty.bool }]
noncomputable def q_spec_SuspectCopies : List PK := [{ t := Ty.slice (25 : Nat) (Ty.slice (3 : Nat) (Ty.int IntKind.i64)) }]
noncomputable def to_spec_SuspectCopies (r : List Int × Bool) : Tup r_spec_SuspectCopies × OutD := ((r.1, r.2, ()), none)
noncomputable def of_spec_SuspectCopies : Tup r_spec_SuspectCopies × OutD → Option (List Int × Bool)
  | (a, none) => some (a.1, a.2.1)
  | _ => none
theorem to_of_spec_SuspectCopies : ∀ b r, of_spec_SuspectCopies b = some r → to_spec_SuspectCopies r = b := by
  rintro ⟨a, o⟩ r h
  cases o with
  | none => injection h with h; subst h; rfl
  | some _ => cases h
noncomputable def f_spec_SuspectCopies_0 : Nat → List Int → List Int → List (List Int) → Int → Int → Option (List Int)
  | 0, _, _, _, _, _ => none
  | k + 1, o1, o2, v13, v14, v15 =>
    if decide (v15 < v14) = true then if (0 : Int) ≤ v15 then if v15 < (↑(List.length v13) : Int) then Option.bind (f_spec_l1Same k (List.getD v13 (Int.toNat v15) []) o1) fun z2 => if (!z2) = true then if List.length o2 + List.length [v15] ≤ (140737488355328 / 8 : Nat) then f_spec_SuspectCopies_0 k o1 (o2 ++ [v15]) v13 v14 (wrap64 (v15 + (1 : Int))) else none else f_spec_SuspectCopies_0 k o1 o2 v13 v14 (wrap64 (v15 + (1 : Int))) else none else none else some o2
noncomputable def f_spec_SuspectCopies_0i : Spec := { objs := [OSh.ro, OSh.row true (3 : Nat) (Ty.int IntKind.i64), OSh.row true (3 : Nat) (Ty.int IntKind.i64)], tmps := [((4 : Nat), TSh.at (Sh.sl (1 : Nat))), ((5 : Nat), TSh.at (Sh.sl (2 : Nat))), ((13 : Nat), TSh.at (Sh.snap (0 : Nat) (Ty.slice (3 : Nat) (Ty.int IntKind.i64)))), ((14 : Nat), TSh.at (Sh.int IntKind.i64)), ((15 : Nat), TSh.at (Sh.int IntKind.i64))] }
noncomputable def f_spec_SuspectCopies_0o : Spec := { objs := [OSh.ro, OSh.row true (3 : Nat) (Ty.int IntKind.i64)], tmps := [((5 : Nat), TSh.at (Sh.sl (1 : Nat)))] }
noncomputable def f_spec_SuspectCopies_0D : LoopDef (Tup r_spec_SuspectCopies × OutD) := .plain f_spec_SuspectCopies_0i f_spec_SuspectCopies_0o (List Int) (fun k x => f_spec_SuspectCopies_0 k x.1.2.1 x.1.2.2.1 x.2.2.2.1 x.2.2.2.2.1 x.2.2.2.2.2.1) (fun z => (((), z, ()), ((), ()))) (fun y => (y.1.2.1)) (fun _ => rfl)
noncomputable def f_spec_SuspectCopies : Nat → List (List Int) → Option (List Int × Bool)
  | 0, _ => none
  | k + 1, p0 =>
    Option.bind (f_spec_voRows k p0) fun z0 => if (!z0) = true then some ([], false) else Option.bind (f_spec_voVoted k p0) fun z1 => Option.bind (f_spec_SuspectCopies_0 k z1 [] p0 (↑(List.length p0) : Int) (0 : Int)) fun z3 => some (z3, true)
noncomputable def d_spec_SuspectCopies : FnDef := .of q_spec_SuspectCopies r_spec_SuspectCopies (List Int × Bool) (fun k x => f_spec_SuspectCopies k x.1) to_spec_SuspectCopies of_spec_SuspectCopies to_of_spec_SuspectCopies
noncomputable def c_spec_SuspectCopies : Code := Try.f46.body.getD .skip
noncomputable def x_spec_SuspectCopies : Ctx (Tup r_spec_SuspectCopies × OutD) := { T := T, G := [(73, d_spec_voRows.E), (77, d_spec_voVoted.E), (79, d_spec_l1Same.E)], mvs := [], no := 0, n := 30, res := resOf T q_spec_SuspectCopies r_spec_SuspectCopies Try.f46.results.toList, loops := [(0, f_spec_SuspectCopies_0D.E)], regs := [], conds := [] }
theorem g_spec_SuspectCopies (k : Nat) : EnvOK Try.prog k x_spec_SuspectCopies.G := (EnvOK.cons (s_spec_voRows k) (EnvOK.cons (s_spec_voVoted k) (EnvOK.cons (s_spec_l1Same k) (EnvOK.nil mixed))))
noncomputable def f_spec_SuspectCopies_0B : Code := (findLoop 0 c_spec_SuspectCopies).getD .skip
theorem f_spec_SuspectCopies_0h (k : Nat) (x : f_spec_SuspectCopies_0i.D) : f_spec_SuspectCopies_0D.lp (k + 1) x = loopK x_spec_SuspectCopies f_spec_SuspectCopies_0D 0 f_spec_SuspectCopies_0B k x := by kernel_rfl
theorem f_spec_SuspectCopies_0l (k : Nat) : LOK Try.prog x_spec_SuspectCopies k f_spec_SuspectCopies_0B := LOK.by [] (by kernel_rfl) AllOK.nil
theorem f_spec_SuspectCopies_0z (x : f_spec_SuspectCopies_0i.D) : f_spec_SuspectCopies_0D.lp 0 x = none := by kernel_rfl
theorem f_spec_SuspectCopies_0ok (k : Nat) : EOK Try.prog x_spec_SuspectCopies k f_spec_SuspectCopies_0D.E (.block 0 (.loop f_spec_SuspectCopies_0B)) := loop_ok T_ok g_spec_SuspectCopies f_spec_SuspectCopies_0z f_spec_SuspectCopies_0h f_spec_SuspectCopies_0l k
theorem h_spec_SuspectCopies (k : Nat) (x : Tup d_spec_SuspectCopies.ps) : d_spec_SuspectCopies.f (k + 1) x = fnK d_spec_SuspectCopies x_spec_SuspectCopies c_spec_SuspectCopies k x := by kernel_rfl
theorem z_spec_SuspectCopies (x : Tup d_spec_SuspectCopies.ps) : d_spec_SuspectCopies.f 0 x = none := by kernel_rfl
theorem l_spec_SuspectCopies (k : Nat) : LOK Try.prog x_spec_SuspectCopies k c_spec_SuspectCopies := LOK.by [(f_spec_SuspectCopies_0D.E, .block 0 (.loop f_spec_SuspectCopies_0B))] (by kernel_rfl) (AllOK.cons (f_spec_SuspectCopies_0ok k) AllOK.nil)
theorem s_spec_SuspectCopies (k : Nat) : SoundAt Try.prog k 46 d_spec_SuspectCopies.E := @fn_all Try.prog d_spec_SuspectCopies x_spec_SuspectCopies 46 Try.f46 c_spec_SuspectCopies (by kernel_rfl) (by kernel_rfl) (by kernel_rfl) Try.func46 (by kernel_rfl) (by kernel_rfl) (by kernel_rfl) T_ok g_spec_SuspectCopies l_spec_SuspectCopies z_spec_SuspectCopies h_spec_SuspectCopies k
/-! function 59 -/
noncomputable def r_spec_voChance : List PK := [{ t := Ty.int IntKind.i64 }, { t := Ty.int IntKind.i64 }]
noncomputable def q_spec_voChance : List PK := [{ t := Ty.int IntKind.i64 }, { t := Ty.int IntKind.i64 }, { t := Ty.int IntKind.i64 }]
noncomputable def to_spec_voChance (r : Int × Int) : Tup r_spec_voChance × OutD := ((r.1, r.2, ()), none)
noncomputable def of_spec_voChance : Tup r_spec_voChance × OutD → Option (Int × Int)
  | (a, none) => some (a.1, a.2.1)
  | _ => none
theorem to_of_spec_voChance : ∀ b r, of_spec_voChance b = some r → to_spec_voChance r = b := by
  rintro ⟨a, o⟩ r h
  cases o with
  | none => injection h with h; subst h; rfl
  | some _ => cases h
noncomputable def f_spec_voChance_0 : Nat → Int → Int → Int → Int → Int → Int → Option (Int × Int × Int)
  | 0, _, _, _, _, _, _ => none
  | k + 1, v0, v1, v2, v8, v9, v10 =>
    if decide (wrap64 ((2 : Int) * v10) < v0) = true then Option.bind (f_spec_voPower k v1 v10) fun z0 => Option.bind (f_spec_voPower k (wrap64 (v2 - v1)) (wrap64 (v0 - v10))) fun z1 => if wrap64 (v10 + (1 : Int)) = (0 : Int) then none else f_spec_voChance_0 k v0 v1 v2 (wrap64 (v8 + wrap64 (wrap64 (v9 * z0) * z1))) (wrap64 (Int.tdiv (wrap64 (v9 * wrap64 (v0 - v10))) (wrap64 (v10 + (1 : Int))))) (wrap64 (v10 + (1 : Int))) else some (v0, v2, v8)
noncomputable def f_spec_voChance_0i : Spec := { objs := [OSh.ro], tmps := [((0 : Nat), TSh.at (Sh.int IntKind.i64)), ((1 : Nat), TSh.at (Sh.int IntKind.i64)), ((2 : Nat), TSh.at (Sh.int IntKind.i64)), ((8 : Nat), TSh.at (Sh.int IntKind.i64)), ((9 : Nat), TSh.at (Sh.int IntKind.i64)), ((10 : Nat), TSh.at (Sh.int IntKind.i64))] }
noncomputable def f_spec_voChance_0o : Spec := { objs := [OSh.ro], tmps := [((0 : Nat), TSh.at (Sh.int IntKind.i64)), ((2 : Nat), TSh.at (Sh.int IntKind.i64)), ((8 : Nat), TSh.at (Sh.int IntKind.i64))] }
noncomputable def f_spec_voChance_0D : LoopDef (Tup r_spec_voChance × OutD) := .plain f_spec_voChance_0i f_spec_voChance_0o (Int × Int × Int) (fun k x => f_spec_voChance_0 k x.2.1 x.2.2.1 x.2.2.2.1 x.2.2.2.2.1 x.2.2.2.2.2.1 x.2.2.2.2.2.2.1) (fun z => (((), ()), (z.1, z.2.1, z.2.2, ()))) (fun y => (y.2.1, y.2.2.1, y.2.2.2.1)) (fun _ => rfl)
noncomputable def f_spec_voChance : Nat → Int → Int → Int → Option (Int × Int)
  | 0, _, _, _ => none
  | k + 1, p0, p1, p2 =>
    Option.bind (f_spec_voChance_0 k p0 p1 p2 (0 : Int) (1 : Int) (0 : Int)) fun z2 => Option.bind (f_spec_voPower k (Prod.fst (Prod.snd z2)) (Prod.fst z2)) fun z3 => Option.bind (f_spec_voPart k (Prod.snd (Prod.snd z2)) z3) fun z4 => some (Prod.fst z4, Prod.snd z4)
noncomputable def d_spec_voChance : FnDef := .of q_spec_voChance r_spec_voChance (Int × Int) (fun k x => f_spec_voChance k x.1 x.2.1 x.2.2.1) to_spec_voChance of_spec_voChance to_of_spec_voChance
noncomputable def c_spec_voChance : Code := Try.f59.body.getD .skip
noncomputable def x_spec_voChance : Ctx (Tup r_spec_voChance × OutD) := { T := T, G := [(89, d_spec_voPower.E), (90, d_spec_voPart.E)], mvs := [], no := 0, n := 47, res := resOf T q_spec_voChance r_spec_voChance Try.f59.results.toList, loops := [(0, f_spec_voChance_0D.E)], regs := [], conds := [] }
theorem g_spec_voChance (k : Nat) : EnvOK Try.prog k x_spec_voChance.G := (EnvOK.cons (s_spec_voPower k) (EnvOK.cons (s_spec_voPart k) (EnvOK.nil mixed)))
noncomputable def f_spec_voChance_0B : Code := (findLoop 0 c_spec_voChance).getD .skip
theorem f_spec_voChance_0h (k : Nat) (x : f_spec_voChance_0i.D) : f_spec_voChance_0D.lp (k + 1) x = loopK x_spec_voChance f_spec_voChance_0D 0 f_spec_voChance_0B k x := by kernel_rfl
theorem f_spec_voChance_0l (k : Nat) : LOK Try.prog x_spec_voChance k f_spec_voChance_0B := LOK.by [] (by kernel_rfl) AllOK.nil
theorem f_spec_voChance_0z (x : f_spec_voChance_0i.D) : f_spec_voChance_0D.lp 0 x = none := by kernel_rfl
theorem f_spec_voChance_0ok (k : Nat) : EOK Try.prog x_spec_voChance k f_spec_voChance_0D.E (.block 0 (.loop f_spec_voChance_0B)) := loop_ok T_ok g_spec_voChance f_spec_voChance_0z f_spec_voChance_0h f_spec_voChance_0l k
theorem h_spec_voChance (k : Nat) (x : Tup d_spec_voChance.ps) : d_spec_voChance.f (k + 1) x = fnK d_spec_voChance x_spec_voChance c_spec_voChance k x := by kernel_rfl
theorem z_spec_voChance (x : Tup d_spec_voChance.ps) : d_spec_voChance.f 0 x = none := by kernel_rfl
theorem l_spec_voChance (k : Nat) : LOK Try.prog x_spec_voChance k c_spec_voChance := LOK.by [(f_spec_voChance_0D.E, .block 0 (.loop f_spec_voChance_0B))] (by kernel_rfl) (AllOK.cons (f_spec_voChance_0ok k) AllOK.nil)
theorem s_spec_voChance (k : Nat) : SoundAt Try.prog k 59 d_spec_voChance.E := @fn_all Try.prog d_spec_voChance x_spec_voChance 59 Try.f59 c_spec_voChance (by kernel_rfl) (by kernel_rfl) (by kernel_rfl) Try.func59 (by kernel_rfl) (by kernel_rfl) (by kernel_rfl) T_ok g_spec_voChance l_spec_voChance z_spec_voChance h_spec_voChance k
/-! function 82 -/
noncomputable def r_spec_tsGood : List PK := [{ t := Ty.bool }]
noncomputable def q_spec_tsGood : List PK := [{ t := Ty.pair (Ty.int IntKind.i64) (Ty.pair (Ty.int IntKind.i64) (Ty.slice (98 : Nat) (Ty.pair (Ty.int IntKind.i64) (Ty.int IntKind.i64)))), agg := true }]
noncomputable def to_spec_tsGood (r : Bool) : Tup r_spec_tsGood × OutD := ((r, ()), none)
noncomputable def of_spec_tsGood : Tup r_spec_tsGood × OutD → Option (Bool)
  | (a, none) => some (a.1)
  | _ => none
theorem to_of_spec_tsGood : ∀ b r, of_spec_tsGood b = some r → to_spec_tsGood r = b := by
  rintro ⟨a, o⟩ r h
  cases o with
  | none => injection h with h; subst h; rfl
  | some _ => cases h
noncomputable def f_spec_tsGood : Nat → Int × Int × List (Int × Int) → Option Bool
  | 0, _ => none
  | k + 1, p0 =>
    Option.bind (f_spec_boGood k (Prod.fst p0, Prod.fst (Prod.snd p0), Prod.snd (Prod.snd p0))) fun z0 => if z0 = true then some (decide ((↑(List.length (Prod.snd (Prod.snd p0))) : Int) ≤ (30 : Int))) else some false
noncomputable def d_spec_tsGood : FnDef := .of q_spec_tsGood r_spec_tsGood (Bool) (fun k x => f_spec_tsGood k x.1) to_spec_tsGood of_spec_tsGood to_of_spec_tsGood
noncomputable def c_spec_tsGood : Code := Try.f82.body.getD .skip
noncomputable def x_spec_tsGood : Ctx (Tup r_spec_tsGood × OutD) := { T := T, G := [(97, d_spec_boGood.E)], mvs := [], no := 0, n := 11, res := resOf T q_spec_tsGood r_spec_tsGood Try.f82.results.toList, loops := [], regs := [], conds := [] }
theorem g_spec_tsGood (k : Nat) : EnvOK Try.prog k x_spec_tsGood.G := (EnvOK.cons (s_spec_boGood k) (EnvOK.nil mixed))
theorem h_spec_tsGood (k : Nat) (x : Tup d_spec_tsGood.ps) : d_spec_tsGood.f (k + 1) x = fnK d_spec_tsGood x_spec_tsGood c_spec_tsGood k x := by kernel_rfl
theorem z_spec_tsGood (x : Tup d_spec_tsGood.ps) : d_spec_tsGood.f 0 x = none := by kernel_rfl
theorem l_spec_tsGood (k : Nat) : LOK Try.prog x_spec_tsGood k c_spec_tsGood := LOK.by [] (by kernel_rfl) AllOK.nil
theorem s_spec_tsGood (k : Nat) : SoundAt Try.prog k 82 d_spec_tsGood.E := @fn_all Try.prog d_spec_tsGood x_spec_tsGood 82 Try.f82 c_spec_tsGood (by kernel_rfl) (by kernel_rfl) (by kernel_rfl) Try.func82 (by kernel_rfl) (by kernel_rfl) (by kernel_rfl) T_ok g_spec_tsGood l_spec_tsGood z_spec_tsGood h_spec_tsGood k
/-! function 100 -/
noncomputable def r_impl_validEntries : List PK := [{ t := Ty.bool }]
noncomputable def q_impl_validEntries : List PK := [{ t := Ty.pair (Ty.int IntKind.i64) (Ty.pair (Ty.int IntKind.i64) (Ty.slice (98 : Nat) (Ty.pair (Ty.int IntKind.i64) (Ty.int IntKind.i64)))), agg := true }, { t := Ty.slice (3 : Nat) (Ty.int IntKind.i64) }]
noncomputable def to_impl_validEntries (r : Bool) : Tup r_impl_validEntries × OutD := ((r, ()), none)
noncomputable def of_impl_validEntries : Tup r_impl_validEntries × OutD → Option (Bool)
  | (a, none) => some (a.1)
  | _ => none
theorem to_of_impl_validEntries : ∀ b r, of_impl_validEntries b = some r → to_impl_validEntries r = b := by
  rintro ⟨a, o⟩ r h
  cases o with
  | none => injection h with h; subst h; rfl
  | some _ => cases h
noncomputable def f_impl_validEntries_0 : Nat → Int → Int → List (Int × Int) → List Int → Int → Int → Option (LR Unit Bool)
  | 0, _, _, _, _, _, _ => none
  | k + 1, b1_0, b1_1, b1_2, v15, v16, v17 =>
    if decide (v17 < v16) = true then if (0 : Int) ≤ v17 then if v17 < (↑(List.length v15) : Int) then if decide (List.getD v15 (Int.toNat v17) (0 : Int) < (0 : Int)) = true then some (LR.ret false) else if decide (List.getD v15 (Int.toNat v17) (0 : Int) ≥ b1_1) = true then some (LR.ret false) else f_impl_validEntries_0 k b1_0 b1_1 b1_2 v15 v16 (wrap64 (v17 + (1 : Int))) else none else none else some (LR.go ())
noncomputable def f_impl_validEntries_0i : Spec := { objs := [OSh.ro, OSh.box (67 : Nat) [Sh.int IntKind.i64, Sh.int IntKind.i64, Sh.snap (0 : Nat) (Ty.pair (Ty.int IntKind.i64) (Ty.int IntKind.i64))]], tmps := [((2 : Nat), TSh.at (Sh.ptr (1 : Nat) (0 : Nat))), ((15 : Nat), TSh.at (Sh.snap (0 : Nat) (Ty.int IntKind.i64))), ((16 : Nat), TSh.at (Sh.int IntKind.i64)), ((17 : Nat), TSh.at (Sh.int IntKind.i64))] }
noncomputable def f_impl_validEntries_0o : Spec := { objs := [OSh.ro], tmps := [] }
noncomputable def f_impl_validEntries_0D : LoopDef (Tup r_impl_validEntries × OutD) := .rets f_impl_validEntries_0i f_impl_validEntries_0o (Unit) (Bool) (fun k x => f_impl_validEntries_0 k x.1.2.1.1 x.1.2.1.2.1 x.1.2.1.2.2.1 x.2.2.1 x.2.2.2.1 x.2.2.2.2.1) (fun z => (((), ()), (()))) (fun y => ()) (fun _ => rfl) to_impl_validEntries of_impl_validEntries to_of_impl_validEntries
noncomputable def f_impl_validEntries : Nat → Int × Int × List (Int × Int) → List Int → Option Bool
  | 0, _, _ => none
  | k + 1, p0, p1 =>
    Option.bind (f_impl_IsBoard k (Prod.fst p0, Prod.fst (Prod.snd p0), Prod.snd (Prod.snd p0))) fun z0 => if (!z0) = true then some false else if decide ((↑(List.length p1) : Int) > (60 : Int)) = true then some false else Option.bind (f_impl_validEntries_0 k (Prod.fst p0) (Prod.fst (Prod.snd p0)) (Prod.snd (Prod.snd p0)) p1 (↑(List.length p1) : Int) (0 : Int)) fun z1 => LR.on z1 (fun y1 => some true) fun r1 => some r1
noncomputable def d_impl_validEntries : FnDef := .of q_impl_validEntries r_impl_validEntries (Bool) (fun k x => f_impl_validEntries k x.1 x.2.1) to_impl_validEntries of_impl_validEntries to_of_impl_validEntries
noncomputable def c_impl_validEntries : Code := Try.f100.body.getD .skip
noncomputable def x_impl_validEntries : Ctx (Tup r_impl_validEntries × OutD) := { T := T, G := [(85, d_impl_IsBoard.E)], mvs := [], no := 0, n := 30, res := resOf T q_impl_validEntries r_impl_validEntries Try.f100.results.toList, loops := [(0, f_impl_validEntries_0D.E)], regs := [], conds := [] }
theorem g_impl_validEntries (k : Nat) : EnvOK Try.prog k x_impl_validEntries.G := (EnvOK.cons (s_impl_IsBoard k) (EnvOK.nil mixed))
noncomputable def f_impl_validEntries_0B : Code := (findLoop 0 c_impl_validEntries).getD .skip
theorem f_impl_validEntries_0h (k : Nat) (x : f_impl_validEntries_0i.D) : f_impl_validEntries_0D.lp (k + 1) x = loopK x_impl_validEntries f_impl_validEntries_0D 0 f_impl_validEntries_0B k x := by kernel_rfl
theorem f_impl_validEntries_0l (k : Nat) : LOK Try.prog x_impl_validEntries k f_impl_validEntries_0B := LOK.by [] (by kernel_rfl) AllOK.nil
theorem f_impl_validEntries_0z (x : f_impl_validEntries_0i.D) : f_impl_validEntries_0D.lp 0 x = none := by kernel_rfl
theorem f_impl_validEntries_0ok (k : Nat) : EOK Try.prog x_impl_validEntries k f_impl_validEntries_0D.E (.block 0 (.loop f_impl_validEntries_0B)) := loop_ok T_ok g_impl_validEntries f_impl_validEntries_0z f_impl_validEntries_0h f_impl_validEntries_0l k
theorem h_impl_validEntries (k : Nat) (x : Tup d_impl_validEntries.ps) : d_impl_validEntries.f (k + 1) x = fnK d_impl_validEntries x_impl_validEntries c_impl_validEntries k x := by kernel_rfl
theorem z_impl_validEntries (x : Tup d_impl_validEntries.ps) : d_impl_validEntries.f 0 x = none := by kernel_rfl
theorem l_impl_validEntries (k : Nat) : LOK Try.prog x_impl_validEntries k c_impl_validEntries := LOK.by [(f_impl_validEntries_0D.E, .block 0 (.loop f_impl_validEntries_0B))] (by kernel_rfl) (AllOK.cons (f_impl_validEntries_0ok k) AllOK.nil)
theorem s_impl_validEntries (k : Nat) : SoundAt Try.prog k 100 d_impl_validEntries.E := @fn_all Try.prog d_impl_validEntries x_impl_validEntries 100 Try.f100 c_impl_validEntries (by kernel_rfl) (by kernel_rfl) (by kernel_rfl) Try.func100 (by kernel_rfl) (by kernel_rfl) (by kernel_rfl) T_ok g_impl_validEntries l_impl_validEntries z_impl_validEntries h_impl_validEntries k
end
end Go.Proofs.Ytcmndffpmjinlaa.Vs
