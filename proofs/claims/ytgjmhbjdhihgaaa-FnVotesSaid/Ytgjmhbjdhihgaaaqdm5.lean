/- The proof, part 6. -/
import Derived.Test.Ytgjmhbjdhihgaaaqdm4
set_option maxRecDepth 100000
set_option maxHeartbeats 2000000
set_option linter.unusedVariables false
set_option linter.unusedSimpArgs false
namespace Go.Proofs.Ytgjmhbjdhihgaaa.Vs
open Go.RowKit
noncomputable section
/-! function 20 -/
noncomputable def r_spec_MostVoted : List PK := [{ t := Ty.int IntKind.i64 }, { t := Ty.int IntKind.i64 }, { t := Ty.bool }]
noncomputable def q_spec_MostVoted : List PK := [{ t := Ty.slice (3 : Nat) (Ty.int IntKind.i64) }]
noncomputable def to_spec_MostVoted (r : Int × Int × Bool) : Tup r_spec_MostVoted × OutD := ((r.1, r.2.1, r.2.2, ()), none)
noncomputable def of_spec_MostVoted : Tup r_spec_MostVoted × OutD → Option (Int × Int × Bool)
  | (a, none) => some (a.1, a.2.1, a.2.2.1)
  | _ => none
theorem to_of_spec_MostVoted : ∀ b r, of_spec_MostVoted b = some r → to_spec_MostVoted r = b := by
  rintro ⟨a, o⟩ r h
  cases o with
  | none => injection h with h; subst h; rfl
  | some _ => cases h
noncomputable def f_spec_MostVoted : Nat → List Int → Option (Int × Int × Bool)
  | 0, _ => none
  | k + 1, p0 =>
    Option.bind (f_spec_voVotes k p0) fun z0 => if (!z0) = true then some ((0 : Int), (0 : Int), false) else Option.bind (f_spec_voMost k p0) fun z1 => some (Prod.fst z1, Prod.snd z1, true)
noncomputable def d_spec_MostVoted : FnDef := .of q_spec_MostVoted r_spec_MostVoted (Int × Int × Bool) (fun k x => f_spec_MostVoted k x.1) to_spec_MostVoted of_spec_MostVoted to_of_spec_MostVoted
noncomputable def c_spec_MostVoted : Code := Try.f20.body.getD .skip
noncomputable def x_spec_MostVoted : Ctx (Tup r_spec_MostVoted × OutD) := { T := T, G := [(100, d_spec_voVotes.E), (101, d_spec_voMost.E)], mvs := [], no := 0, n := 17, res := resOf T q_spec_MostVoted r_spec_MostVoted Try.f20.results.toList, loops := [], regs := [], conds := [] }
theorem g_spec_MostVoted (k : Nat) : EnvOK Try.prog k x_spec_MostVoted.G := (EnvOK.cons (s_spec_voVotes k) (EnvOK.cons (s_spec_voMost k) (EnvOK.nil mixed)))
theorem h_spec_MostVoted (k : Nat) (x : Tup d_spec_MostVoted.ps) : d_spec_MostVoted.f (k + 1) x = fnK d_spec_MostVoted x_spec_MostVoted c_spec_MostVoted k x := by kernel_rfl
theorem z_spec_MostVoted (x : Tup d_spec_MostVoted.ps) : d_spec_MostVoted.f 0 x = none := by kernel_rfl
theorem l_spec_MostVoted (k : Nat) : LOK Try.prog x_spec_MostVoted k c_spec_MostVoted := LOK.by [] (by kernel_rfl) AllOK.nil
theorem s_spec_MostVoted (k : Nat) : SoundAt Try.prog k 20 d_spec_MostVoted.E := @fn_all Try.prog d_spec_MostVoted x_spec_MostVoted 20 Try.f20 c_spec_MostVoted (by kernel_rfl) (by kernel_rfl) (by kernel_rfl) Try.func20 (by kernel_rfl) (by kernel_rfl) (by kernel_rfl) T_ok g_spec_MostVoted l_spec_MostVoted z_spec_MostVoted h_spec_MostVoted k
/-! function 22 -/
noncomputable def r_spec_MajorityOf : List PK := [{ t := Ty.int IntKind.i64 }, { t := Ty.bool }]
noncomputable def q_spec_MajorityOf : List PK := [{ t := Ty.slice (3 : Nat) (Ty.int IntKind.i64) }]
noncomputable def to_spec_MajorityOf (r : Int × Bool) : Tup r_spec_MajorityOf × OutD := ((r.1, r.2, ()), none)
noncomputable def of_spec_MajorityOf : Tup r_spec_MajorityOf × OutD → Option (Int × Bool)
  | (a, none) => some (a.1, a.2.1)
  | _ => none
theorem to_of_spec_MajorityOf : ∀ b r, of_spec_MajorityOf b = some r → to_spec_MajorityOf r = b := by
  rintro ⟨a, o⟩ r h
  cases o with
  | none => injection h with h; subst h; rfl
  | some _ => cases h
noncomputable def f_spec_MajorityOf : Nat → List Int → Option (Int × Bool)
  | 0, _ => none
  | k + 1, p0 =>
    Option.bind (f_spec_voVotes k p0) fun z0 => if (!z0) = true then some ((0 : Int), false) else Option.bind (f_spec_voMost k p0) fun z1 => if decide (wrap64 ((2 : Int) * Prod.snd z1) ≤ (↑(List.length p0) : Int)) = true then some ((0 : Int), false) else some (Prod.fst z1, true)
noncomputable def d_spec_MajorityOf : FnDef := .of q_spec_MajorityOf r_spec_MajorityOf (Int × Bool) (fun k x => f_spec_MajorityOf k x.1) to_spec_MajorityOf of_spec_MajorityOf to_of_spec_MajorityOf
noncomputable def c_spec_MajorityOf : Code := Try.f22.body.getD .skip
noncomputable def x_spec_MajorityOf : Ctx (Tup r_spec_MajorityOf × OutD) := { T := T, G := [(100, d_spec_voVotes.E), (101, d_spec_voMost.E)], mvs := [], no := 0, n := 20, res := resOf T q_spec_MajorityOf r_spec_MajorityOf Try.f22.results.toList, loops := [], regs := [], conds := [] }
theorem g_spec_MajorityOf (k : Nat) : EnvOK Try.prog k x_spec_MajorityOf.G := (EnvOK.cons (s_spec_voVotes k) (EnvOK.cons (s_spec_voMost k) (EnvOK.nil mixed)))
theorem h_spec_MajorityOf (k : Nat) (x : Tup d_spec_MajorityOf.ps) : d_spec_MajorityOf.f (k + 1) x = fnK d_spec_MajorityOf x_spec_MajorityOf c_spec_MajorityOf k x := by kernel_rfl
theorem z_spec_MajorityOf (x : Tup d_spec_MajorityOf.ps) : d_spec_MajorityOf.f 0 x = none := by kernel_rfl
theorem l_spec_MajorityOf (k : Nat) : LOK Try.prog x_spec_MajorityOf k c_spec_MajorityOf := LOK.by [] (by kernel_rfl) AllOK.nil
theorem s_spec_MajorityOf (k : Nat) : SoundAt Try.prog k 22 d_spec_MajorityOf.E := @fn_all Try.prog d_spec_MajorityOf x_spec_MajorityOf 22 Try.f22 c_spec_MajorityOf (by kernel_rfl) (by kernel_rfl) (by kernel_rfl) Try.func22 (by kernel_rfl) (by kernel_rfl) (by kernel_rfl) T_ok g_spec_MajorityOf l_spec_MajorityOf z_spec_MajorityOf h_spec_MajorityOf k
/-! function 26 -/
noncomputable def r_spec_VotedRows : List PK := [{ t := Ty.slice (3 : Nat) (Ty.int IntKind.i64) }, { t := Ty.bool }]
noncomputable def q_spec_VotedRows : List PK := [{ t := Ty.slice (34 : Nat) (Ty.slice (3 : Nat) (Ty.int IntKind.i64)) }]
noncomputable def to_spec_VotedRows (r : List Int × Bool) : Tup r_spec_VotedRows × OutD := ((r.1, r.2, ()), none)
noncomputable def of_spec_VotedRows : Tup r_spec_VotedRows × OutD → Option (List Int × Bool)
  | (a, none) => some (a.1, a.2.1)
  | _ => none
theorem to_of_spec_VotedRows : ∀ b r, of_spec_VotedRows b = some r → to_spec_VotedRows r = b := by
  rintro ⟨a, o⟩ r h
  cases o with
  | none => injection h with h; subst h; rfl
  | some _ => cases h
noncomputable def f_spec_VotedRows : Nat → List (List Int) → Option (List Int × Bool)
  | 0, _ => none
  | k + 1, p0 =>
    Option.bind (f_spec_voRows k p0) fun z0 => if (!z0) = true then some ([], false) else Option.bind (f_spec_voVoted k p0) fun z1 => some (z1, true)
noncomputable def d_spec_VotedRows : FnDef := .of q_spec_VotedRows r_spec_VotedRows (List Int × Bool) (fun k x => f_spec_VotedRows k x.1) to_spec_VotedRows of_spec_VotedRows to_of_spec_VotedRows
noncomputable def c_spec_VotedRows : Code := Try.f26.body.getD .skip
noncomputable def x_spec_VotedRows : Ctx (Tup r_spec_VotedRows × OutD) := { T := T, G := [(105, d_spec_voRows.E), (106, d_spec_voVoted.E)], mvs := [], no := 0, n := 9, res := resOf T q_spec_VotedRows r_spec_VotedRows Try.f26.results.toList, loops := [], regs := [], conds := [] }
theorem g_spec_VotedRows (k : Nat) : EnvOK Try.prog k x_spec_VotedRows.G := (EnvOK.cons (s_spec_voRows k) (EnvOK.cons (s_spec_voVoted k) (EnvOK.nil mixed)))
theorem h_spec_VotedRows (k : Nat) (x : Tup d_spec_VotedRows.ps) : d_spec_VotedRows.f (k + 1) x = fnK d_spec_VotedRows x_spec_VotedRows c_spec_VotedRows k x := by kernel_rfl
theorem z_spec_VotedRows (x : Tup d_spec_VotedRows.ps) : d_spec_VotedRows.f 0 x = none := by kernel_rfl
theorem l_spec_VotedRows (k : Nat) : LOK Try.prog x_spec_VotedRows k c_spec_VotedRows := LOK.by [] (by kernel_rfl) AllOK.nil
theorem s_spec_VotedRows (k : Nat) : SoundAt Try.prog k 26 d_spec_VotedRows.E := @fn_all Try.prog d_spec_VotedRows x_spec_VotedRows 26 Try.f26 c_spec_VotedRows (by kernel_rfl) (by kernel_rfl) (by kernel_rfl) Try.func26 (by kernel_rfl) (by kernel_rfl) (by kernel_rfl) T_ok g_spec_VotedRows l_spec_VotedRows z_spec_VotedRows h_spec_VotedRows k
/-! function 28 -/
noncomputable def r_spec_SuspectCopies : List PK := [{ t := Ty.slice (3 : Nat) (Ty.int IntKind.i64) }, { t := Ty.bool }]
noncomputable def q_spec_SuspectCopies : List PK := [{ t := Ty.slice (34 : Nat) (Ty.slice (3 : Nat) (Ty.int IntKind.i64)) }]
noncomputable def to_spec_SuspectCopies (r : List Int × Bool) : Tup r_spec_SuspectCopies × OutD := ((r.1, r.2, ()), none)
noncomputable def of_spec_SuspectCopies : Tup r_spec_SuspectCopies × OutD → Option (List Int × Bool)
  | (a, none) => some (a.1, a.2.1)
  | _ => none
theorem to_of_spec_SuspectCopies : ∀ b r, of_spec_SuspectCopies b = some r → to_spec_SuspectCopies r = b := by
  rintro ⟨a, o⟩ r h
  cases o with
  | none => injection h with h; subst h; rfl
  | some _ => cases h
noncomputable def f_spec_SuspectCopies_0 : Nat → List Int → List Int → List (List Int) → Int → Int → Option (List Int)
  | 0, _, _, _, _, _ => none
  | k + 1, o1, o2, v13, v14, v15 =>
    if decide (v15 < v14) = true then if (0 : Int) ≤ v15 then if v15 < (↑(List.length v13) : Int) then Option.bind (f_spec_l1Same k (List.getD v13 (Int.toNat v15) []) o1) fun z2 => if (!z2) = true then if List.length o2 + List.length [v15] ≤ (140737488355328 / 8 : Nat) then f_spec_SuspectCopies_0 k o1 (o2 ++ [v15]) v13 v14 (wrap64 (v15 + (1 : Int))) else none else f_spec_SuspectCopies_0 k o1 o2 v13 v14 (wrap64 (v15 + (1 : Int))) else none else none else some o2
noncomputable def f_spec_SuspectCopies_0i : Spec := { objs := [OSh.ro, OSh.row true (3 : Nat) (Ty.int IntKind.i64), OSh.row true (3 : Nat) (Ty.int IntKind.i64)], tmps := [((4 : Nat), TSh.at (Sh.sl (1 : Nat))), ((5 : Nat), TSh.at (Sh.sl (2 : Nat))), ((13 : Nat), TSh.at (Sh.snap (0 : Nat) (Ty.slice (3 : Nat) (Ty.int IntKind.i64)))), ((14 : Nat), TSh.at (Sh.int IntKind.i64)), ((15 : Nat), TSh.at (Sh.int IntKind.i64))] }
noncomputable def f_spec_SuspectCopies_0o : Spec := { objs := [OSh.ro, OSh.row true (3 : Nat) (Ty.int IntKind.i64)], tmps := [((5 : Nat), TSh.at (Sh.sl (1 : Nat)))] }
noncomputable def f_spec_SuspectCopies_0D : LoopDef (Tup r_spec_SuspectCopies × OutD) := .plain f_spec_SuspectCopies_0i f_spec_SuspectCopies_0o (List Int) (fun k x => f_spec_SuspectCopies_0 k x.1.2.1 x.1.2.2.1 x.2.2.2.1 x.2.2.2.2.1 x.2.2.2.2.2.1) (fun z => (((), z, ()), ((), ()))) (fun y => (y.1.2.1)) (fun _ => rfl)
noncomputable def f_spec_SuspectCopies : Nat → List (List Int) → Option (List Int × Bool)
  | 0, _ => none
  | k + 1, p0 =>
    Option.bind (f_spec_voRows k p0) fun z0 => if (!z0) = true then some ([], false) else Option.bind (f_spec_voVoted k p0) fun z1 => Option.bind (f_spec_SuspectCopies_0 k z1 [] p0 (↑(List.length p0) : Int) (0 : Int)) fun z3 => some (z3, true)
noncomputable def d_spec_SuspectCopies : FnDef := .of q_spec_SuspectCopies r_spec_SuspectCopies (List Int × Bool) (fun k x => f_spec_SuspectCopies k x.1) to_spec_SuspectCopies of_spec_SuspectCopies to_of_spec_SuspectCopies
noncomputable def c_spec_SuspectCopies : Code := Try.f28.body.getD .skip
noncomputable def x_spec_SuspectCopies : Ctx (Tup r_spec_SuspectCopies × OutD) := { T := T, G := [(105, d_spec_voRows.E), (106, d_spec_voVoted.E), (108, d_spec_l1Same.E)], mvs := [], no := 0, n := 30, res := resOf T q_spec_SuspectCopies r_spec_SuspectCopies Try.f28.results.toList, loops := [(0, f_spec_SuspectCopies_0D.E)], regs := [], conds := [] }
theorem g_spec_SuspectCopies (k : Nat) : EnvOK Try.prog k x_spec_SuspectCopies.G := (EnvOK.cons (s_spec_voRows k) (EnvOK.cons (s_spec_voVoted k) (EnvOK.cons (s_spec_l1Same k) (EnvOK.nil mixed))))
noncomputable def f_spec_SuspectCopies_0B : Code := (findLoop 0 c_spec_SuspectCopies).getD .skip
theorem f_spec_SuspectCopies_0h (k : Nat) (x : f_spec_SuspectCopies_0i.D) : f_spec_SuspectCopies_0D.lp (k + 1) x = loopK x_spec_SuspectCopies f_spec_SuspectCopies_0D 0 f_spec_SuspectCopies_0B k x := by kernel_rfl
theorem f_spec_SuspectCopies_0l (k : Nat) : LOK Try.prog x_spec_SuspectCopies k f_spec_SuspectCopies_0B := LOK.by [] (by kernel_rfl) AllOK.nil
theorem f_spec_SuspectCopies_0z (x : f_spec_SuspectCopies_0i.D) : f_spec_SuspectCopies_0D.lp 0 x = none := by kernel_rfl
theorem f_spec_SuspectCopies_0ok (k : Nat) : EOK Try.prog x_spec_SuspectCopies k f_spec_SuspectCopies_0D.E (.block 0 (.loop f_spec_SuspectCopies_0B)) := loop_ok T_ok g_spec_SuspectCopies f_spec_SuspectCopies_0z f_spec_SuspectCopies_0h f_spec_SuspectCopies_0l k
theorem h_spec_SuspectCopies (k : Nat) (x : Tup d_spec_SuspectCopies.ps) : d_spec_SuspectCopies.f (k + 1) x = fnK d_spec_SuspectCopies x_spec_SuspectCopies c_spec_SuspectCopies k x := by kernel_rfl
theorem z_spec_SuspectCopies (x : Tup d_spec_SuspectCopies.ps) : d_spec_SuspectCopies.f 0 x = none := by kernel_rfl
theorem l_spec_SuspectCopies (k : Nat) : LOK Try.prog x_spec_SuspectCopies k c_spec_SuspectCopies := LOK.by [(f_spec_SuspectCopies_0D.E, .block 0 (.loop f_spec_SuspectCopies_0B))] (by kernel_rfl) (AllOK.cons (f_spec_SuspectCopies_0ok k) AllOK.nil)
theorem s_spec_SuspectCopies (k : Nat) : SoundAt Try.prog k 28 d_spec_SuspectCopies.E := @fn_all Try.prog d_spec_SuspectCopies x_spec_SuspectCopies 28 Try.f28 c_spec_SuspectCopies (by kernel_rfl) (by kernel_rfl) (by kernel_rfl) Try.func28 (by kernel_rfl) (by kernel_rfl) (by kernel_rfl) T_ok g_spec_SuspectCopies l_spec_SuspectCopies z_spec_SuspectCopies h_spec_SuspectCopies k
/-! function 30 -/
noncomputable def r_spec_TieCount : List PK := [{ t := Ty.int IntKind.i64 }, { t := Ty.bool }]
noncomputable def q_spec_TieCount : List PK := [{ t := Ty.slice (34 : Nat) (Ty.slice (3 : Nat) (Ty.int IntKind.i64)) }]
noncomputable def to_spec_TieCount (r : Int × Bool) : Tup r_spec_TieCount × OutD := ((r.1, r.2, ()), none)
noncomputable def of_spec_TieCount : Tup r_spec_TieCount × OutD → Option (Int × Bool)
  | (a, none) => some (a.1, a.2.1)
  | _ => none
theorem to_of_spec_TieCount : ∀ b r, of_spec_TieCount b = some r → to_spec_TieCount r = b := by
  rintro ⟨a, o⟩ r h
  cases o with
  | none => injection h with h; subst h; rfl
  | some _ => cases h
noncomputable def f_spec_TieCount_4 : Nat → List Int → List (List Int) → Int → Int → Int → Int → Int → Int → Int → Int → Int → Option (List Int × List (List Int) × Int × Int × Int × Int × Int × Int × Int)
  | 0, _, _, _, _, _, _, _, _, _, _, _ => none
  | k + 1, o1, v0, v4, v8, v9, v10, v11, v20, v21, v37, v38 =>
    if decide (v38 < v37) = true then if (0 : Int) ≤ v38 then if v38 < (↑(List.length o1) : Int) then if decide (List.getD o1 (Int.toNat v38) (0 : Int) = v10) = true then f_spec_TieCount_4 k o1 v0 v4 v8 v9 v10 (wrap64 (v11 + (1 : Int))) v20 v21 v37 (wrap64 (v38 + (1 : Int))) else f_spec_TieCount_4 k o1 v0 v4 v8 v9 v10 v11 v20 v21 v37 (wrap64 (v38 + (1 : Int))) else none else none else some (o1, v0, v4, v8, v9, v10, v11, v20, v21)
noncomputable def f_spec_TieCount_4i : Spec := { objs := [OSh.ro, OSh.row true (3 : Nat) (Ty.int IntKind.i64)], tmps := [((0 : Nat), TSh.at (Sh.snap (0 : Nat) (Ty.slice (3 : Nat) (Ty.int IntKind.i64)))), ((4 : Nat), TSh.at (Sh.int IntKind.i64)), ((6 : Nat), TSh.at (Sh.sl (1 : Nat))), ((8 : Nat), TSh.at (Sh.int IntKind.i64)), ((9 : Nat), TSh.at (Sh.int IntKind.i64)), ((10 : Nat), TSh.at (Sh.int IntKind.i64)), ((11 : Nat), TSh.at (Sh.int IntKind.i64)), ((20 : Nat), TSh.at (Sh.int IntKind.i64)), ((21 : Nat), TSh.at (Sh.int IntKind.i64)), ((36 : Nat), TSh.at (Sh.sl (1 : Nat))), ((37 : Nat), TSh.at (Sh.int IntKind.i64)), ((38 : Nat), TSh.at (Sh.int IntKind.i64))] }
noncomputable def f_spec_TieCount_4o : Spec := { objs := [OSh.ro, OSh.row true (3 : Nat) (Ty.int IntKind.i64)], tmps := [((0 : Nat), TSh.at (Sh.snap (0 : Nat) (Ty.slice (3 : Nat) (Ty.int IntKind.i64)))), ((4 : Nat), TSh.at (Sh.int IntKind.i64)), ((6 : Nat), TSh.at (Sh.sl (1 : Nat))), ((8 : Nat), TSh.at (Sh.int IntKind.i64)), ((9 : Nat), TSh.at (Sh.int IntKind.i64)), ((10 : Nat), TSh.at (Sh.int IntKind.i64)), ((11 : Nat), TSh.at (Sh.int IntKind.i64)), ((20 : Nat), TSh.at (Sh.int IntKind.i64)), ((21 : Nat), TSh.at (Sh.int IntKind.i64))] }
noncomputable def f_spec_TieCount_4D : LoopDef (Tup r_spec_TieCount × OutD) := .plain f_spec_TieCount_4i f_spec_TieCount_4o (List Int × List (List Int) × Int × Int × Int × Int × Int × Int × Int) (fun k x => f_spec_TieCount_4 k x.1.2.1 x.2.1 x.2.2.1 x.2.2.2.2.1 x.2.2.2.2.2.1 x.2.2.2.2.2.2.1 x.2.2.2.2.2.2.2.1 x.2.2.2.2.2.2.2.2.1 x.2.2.2.2.2.2.2.2.2.1 x.2.2.2.2.2.2.2.2.2.2.2.1 x.2.2.2.2.2.2.2.2.2.2.2.2.1) (fun z => (((), z.1, ()), (z.2.1, z.2.2.1, (), z.2.2.2.1, z.2.2.2.2.1, z.2.2.2.2.2.1, z.2.2.2.2.2.2.1, z.2.2.2.2.2.2.2.1, z.2.2.2.2.2.2.2.2, ()))) (fun y => (y.1.2.1, y.2.1, y.2.2.1, y.2.2.2.2.1, y.2.2.2.2.2.1, y.2.2.2.2.2.2.1, y.2.2.2.2.2.2.2.1, y.2.2.2.2.2.2.2.2.1, y.2.2.2.2.2.2.2.2.2.1)) (fun _ => rfl)
noncomputable def f_spec_TieCount_2 : Nat → List Int → List (List Int) → Int → Int → Int → Int → Int → Int → Option (List (List Int) × Int × Int × Int × Int)
  | 0, _, _, _, _, _, _, _, _ => none
  | k + 1, o1, v0, v4, v8, v9, v10, v20, v21 =>
    if decide (v10 ≤ (9 : Int)) = true then Option.bind (f_spec_TieCount_4 k o1 v0 v4 v8 v9 v10 (0 : Int) v20 v21 (↑(List.length o1) : Int) (0 : Int)) fun z3 => if decide (Prod.fst (Prod.snd (Prod.snd (Prod.snd (Prod.snd (Prod.snd (Prod.snd z3)))))) = Prod.fst (Prod.snd (Prod.snd (Prod.snd z3)))) = true then f_spec_TieCount_2 k (Prod.fst z3) (Prod.fst (Prod.snd z3)) (Prod.fst (Prod.snd (Prod.snd z3))) (Prod.fst (Prod.snd (Prod.snd (Prod.snd z3)))) (wrap64 (Prod.fst (Prod.snd (Prod.snd (Prod.snd (Prod.snd z3)))) + (1 : Int))) (wrap64 (Prod.fst (Prod.snd (Prod.snd (Prod.snd (Prod.snd (Prod.snd z3))))) + (1 : Int))) (Prod.fst (Prod.snd (Prod.snd (Prod.snd (Prod.snd (Prod.snd (Prod.snd (Prod.snd z3)))))))) (Prod.snd (Prod.snd (Prod.snd (Prod.snd (Prod.snd (Prod.snd (Prod.snd (Prod.snd z3)))))))) else f_spec_TieCount_2 k (Prod.fst z3) (Prod.fst (Prod.snd z3)) (Prod.fst (Prod.snd (Prod.snd z3))) (Prod.fst (Prod.snd (Prod.snd (Prod.snd z3)))) (Prod.fst (Prod.snd (Prod.snd (Prod.snd (Prod.snd z3))))) (wrap64 (Prod.fst (Prod.snd (Prod.snd (Prod.snd (Prod.snd (Prod.snd z3))))) + (1 : Int))) (Prod.fst (Prod.snd (Prod.snd (Prod.snd (Prod.snd (Prod.snd (Prod.snd (Prod.snd z3)))))))) (Prod.snd (Prod.snd (Prod.snd (Prod.snd (Prod.snd (Prod.snd (Prod.snd (Prod.snd z3)))))))) else some (v0, v4, v9, v20, v21)
noncomputable def f_spec_TieCount_2i : Spec := { objs := [OSh.ro, OSh.row true (3 : Nat) (Ty.int IntKind.i64)], tmps := [((0 : Nat), TSh.at (Sh.snap (0 : Nat) (Ty.slice (3 : Nat) (Ty.int IntKind.i64)))), ((4 : Nat), TSh.at (Sh.int IntKind.i64)), ((6 : Nat), TSh.at (Sh.sl (1 : Nat))), ((8 : Nat), TSh.at (Sh.int IntKind.i64)), ((9 : Nat), TSh.at (Sh.int IntKind.i64)), ((10 : Nat), TSh.at (Sh.int IntKind.i64)), ((20 : Nat), TSh.at (Sh.int IntKind.i64)), ((21 : Nat), TSh.at (Sh.int IntKind.i64))] }
noncomputable def f_spec_TieCount_2o : Spec := { objs := [OSh.ro], tmps := [((0 : Nat), TSh.at (Sh.snap (0 : Nat) (Ty.slice (3 : Nat) (Ty.int IntKind.i64)))), ((4 : Nat), TSh.at (Sh.int IntKind.i64)), ((9 : Nat), TSh.at (Sh.int IntKind.i64)), ((20 : Nat), TSh.at (Sh.int IntKind.i64)), ((21 : Nat), TSh.at (Sh.int IntKind.i64))] }
noncomputable def f_spec_TieCount_2D : LoopDef (Tup r_spec_TieCount × OutD) := .plain f_spec_TieCount_2i f_spec_TieCount_2o (List (List Int) × Int × Int × Int × Int) (fun k x => f_spec_TieCount_2 k x.1.2.1 x.2.1 x.2.2.1 x.2.2.2.2.1 x.2.2.2.2.2.1 x.2.2.2.2.2.2.1 x.2.2.2.2.2.2.2.1 x.2.2.2.2.2.2.2.2.1) (fun z => (((), ()), (z.1, z.2.1, z.2.2.1, z.2.2.2.1, z.2.2.2.2, ()))) (fun y => (y.2.1, y.2.2.1, y.2.2.2.1, y.2.2.2.2.1, y.2.2.2.2.2.1)) (fun _ => rfl)
noncomputable def f_spec_TieCount_0 : Nat → List (List Int) → Int → Int → Int → Option Int
  | 0, _, _, _, _ => none
  | k + 1, v0, v4, v20, v21 =>
    if decide (v21 < v20) = true then Option.bind (f_spec_voPlace k v0 v21) fun z1 => Option.bind (f_spec_voMost k z1) fun z2 => Option.bind (f_spec_TieCount_2 k z1 v0 v4 (Prod.snd z2) (0 : Int) (0 : Int) v20 v21) fun z4 => if decide (Prod.fst (Prod.snd (Prod.snd z4)) > (1 : Int)) = true then f_spec_TieCount_0 k (Prod.fst z4) (wrap64 (Prod.fst (Prod.snd z4) + (1 : Int))) (Prod.fst (Prod.snd (Prod.snd (Prod.snd z4)))) (wrap64 (Prod.snd (Prod.snd (Prod.snd (Prod.snd z4))) + (1 : Int))) else f_spec_TieCount_0 k (Prod.fst z4) (Prod.fst (Prod.snd z4)) (Prod.fst (Prod.snd (Prod.snd (Prod.snd z4)))) (wrap64 (Prod.snd (Prod.snd (Prod.snd (Prod.snd z4))) + (1 : Int))) else some v4
noncomputable def f_spec_TieCount_0i : Spec := { objs := [OSh.ro], tmps := [((0 : Nat), TSh.at (Sh.snap (0 : Nat) (Ty.slice (3 : Nat) (Ty.int IntKind.i64)))), ((4 : Nat), TSh.at (Sh.int IntKind.i64)), ((20 : Nat), TSh.at (Sh.int IntKind.i64)), ((21 : Nat), TSh.at (Sh.int IntKind.i64))] }
noncomputable def f_spec_TieCount_0o : Spec := { objs := [OSh.ro], tmps := [((4 : Nat), TSh.at (Sh.int IntKind.i64))] }
noncomputable def f_spec_TieCount_0D : LoopDef (Tup r_spec_TieCount × OutD) := .plain f_spec_TieCount_0i f_spec_TieCount_0o (Int) (fun k x => f_spec_TieCount_0 k x.2.1 x.2.2.1 x.2.2.2.1 x.2.2.2.2.1) (fun z => (((), ()), (z, ()))) (fun y => (y.2.1)) (fun _ => rfl)
noncomputable def f_spec_TieCount : Nat → List (List Int) → Option (Int × Bool)
  | 0, _ => none
  | k + 1, p0 =>
    Option.bind (f_spec_voRows k p0) fun z0 => if (!z0) = true then some ((0 : Int), false) else if (0 : Int) < (↑(List.length p0) : Int) then Option.bind (f_spec_TieCount_0 k p0 (0 : Int) (↑(List.length (List.getD p0 (Int.toNat (0 : Int)) [])) : Int) (0 : Int)) fun z5 => some (z5, true) else none
noncomputable def d_spec_TieCount : FnDef := .of q_spec_TieCount r_spec_TieCount (Int × Bool) (fun k x => f_spec_TieCount k x.1) to_spec_TieCount of_spec_TieCount to_of_spec_TieCount
noncomputable def c_spec_TieCount : Code := Try.f30.body.getD .skip
noncomputable def x_spec_TieCount : Ctx (Tup r_spec_TieCount × OutD) := { T := T, G := [(105, d_spec_voRows.E), (110, d_spec_voPlace.E), (101, d_spec_voMost.E)], mvs := [], no := 0, n := 59, res := resOf T q_spec_TieCount r_spec_TieCount Try.f30.results.toList, loops := [(4, f_spec_TieCount_4D.E), (2, f_spec_TieCount_2D.E), (0, f_spec_TieCount_0D.E)], regs := [], conds := [] }
theorem g_spec_TieCount (k : Nat) : EnvOK Try.prog k x_spec_TieCount.G := (EnvOK.cons (s_spec_voRows k) (EnvOK.cons (s_spec_voPlace k) (EnvOK.cons (s_spec_voMost k) (EnvOK.nil mixed))))
noncomputable def f_spec_TieCount_4B : Code := (findLoop 4 c_spec_TieCount).getD .skip
theorem f_spec_TieCount_4h (k : Nat) (x : f_spec_TieCount_4i.D) : f_spec_TieCount_4D.lp (k + 1) x = loopK x_spec_TieCount f_spec_TieCount_4D 4 f_spec_TieCount_4B k x := by kernel_rfl
theorem f_spec_TieCount_4l (k : Nat) : LOK Try.prog x_spec_TieCount k f_spec_TieCount_4B := LOK.by [] (by kernel_rfl) AllOK.nil
theorem f_spec_TieCount_4z (x : f_spec_TieCount_4i.D) : f_spec_TieCount_4D.lp 0 x = none := by kernel_rfl
theorem f_spec_TieCount_4ok (k : Nat) : EOK Try.prog x_spec_TieCount k f_spec_TieCount_4D.E (.block 4 (.loop f_spec_TieCount_4B)) := loop_ok T_ok g_spec_TieCount f_spec_TieCount_4z f_spec_TieCount_4h f_spec_TieCount_4l k
noncomputable def f_spec_TieCount_2B : Code := (findLoop 2 c_spec_TieCount).getD .skip
theorem f_spec_TieCount_2h (k : Nat) (x : f_spec_TieCount_2i.D) : f_spec_TieCount_2D.lp (k + 1) x = loopK x_spec_TieCount f_spec_TieCount_2D 2 f_spec_TieCount_2B k x := by kernel_rfl
theorem f_spec_TieCount_2l (k : Nat) : LOK Try.prog x_spec_TieCount k f_spec_TieCount_2B := LOK.by [(f_spec_TieCount_4D.E, .block 4 (.loop f_spec_TieCount_4B))] (by kernel_rfl) (AllOK.cons (f_spec_TieCount_4ok k) AllOK.nil)
theorem f_spec_TieCount_2z (x : f_spec_TieCount_2i.D) : f_spec_TieCount_2D.lp 0 x = none := by kernel_rfl
theorem f_spec_TieCount_2ok (k : Nat) : EOK Try.prog x_spec_TieCount k f_spec_TieCount_2D.E (.block 2 (.loop f_spec_TieCount_2B)) := loop_ok T_ok g_spec_TieCount f_spec_TieCount_2z f_spec_TieCount_2h f_spec_TieCount_2l k
noncomputable def f_spec_TieCount_0B : Code := (findLoop 0 c_spec_TieCount).getD .skip
theorem f_spec_TieCount_0h (k : Nat) (x : f_spec_TieCount_0i.D) : f_spec_TieCount_0D.lp (k + 1) x = loopK x_spec_TieCount f_spec_TieCount_0D 0 f_spec_TieCount_0B k x := by kernel_rfl
theorem f_spec_TieCount_0l (k : Nat) : LOK Try.prog x_spec_TieCount k f_spec_TieCount_0B := LOK.by [(f_spec_TieCount_2D.E, .block 2 (.loop f_spec_TieCount_2B))] (by kernel_rfl) (AllOK.cons (f_spec_TieCount_2ok k) AllOK.nil)
theorem f_spec_TieCount_0z (x : f_spec_TieCount_0i.D) : f_spec_TieCount_0D.lp 0 x = none := by kernel_rfl
theorem f_spec_TieCount_0ok (k : Nat) : EOK Try.prog x_spec_TieCount k f_spec_TieCount_0D.E (.block 0 (.loop f_spec_TieCount_0B)) := loop_ok T_ok g_spec_TieCount f_spec_TieCount_0z f_spec_TieCount_0h f_spec_TieCount_0l k
theorem h_spec_TieCount (k : Nat) (x : Tup d_spec_TieCount.ps) : d_spec_TieCount.f (k + 1) x = fnK d_spec_TieCount x_spec_TieCount c_spec_TieCount k x := by kernel_rfl
theorem z_spec_TieCount (x : Tup d_spec_TieCount.ps) : d_spec_TieCount.f 0 x = none := by kernel_rfl
theorem l_spec_TieCount (k : Nat) : LOK Try.prog x_spec_TieCount k c_spec_TieCount := LOK.by [(f_spec_TieCount_0D.E, .block 0 (.loop f_spec_TieCount_0B))] (by kernel_rfl) (AllOK.cons (f_spec_TieCount_0ok k) AllOK.nil)
theorem s_spec_TieCount (k : Nat) : SoundAt Try.prog k 30 d_spec_TieCount.E := @fn_all Try.prog d_spec_TieCount x_spec_TieCount 30 Try.f30 c_spec_TieCount (by kernel_rfl) (by kernel_rfl) (by kernel_rfl) Try.func30 (by kernel_rfl) (by kernel_rfl) (by kernel_rfl) T_ok g_spec_TieCount l_spec_TieCount z_spec_TieCount h_spec_TieCount k
/-! function 35 -/
noncomputable def r_spec_WeightedVote : List PK := [{ t := Ty.int IntKind.i64 }, { t := Ty.bool }]
noncomputable def q_spec_WeightedVote : List PK := [{ t := Ty.slice (3 : Nat) (Ty.int IntKind.i64) }, { t := Ty.slice (3 : Nat) (Ty.int IntKind.i64) }]
noncomputable def to_spec_WeightedVote (r : Int × Bool) : Tup r_spec_WeightedVote × OutD := ((r.1, r.2, ()), none)
noncomputable def of_spec_WeightedVote : Tup r_spec_WeightedVote × OutD → Option (Int × Bool)
  | (a, none) => some (a.1, a.2.1)
  | _ => none
theorem to_of_spec_WeightedVote : ∀ b r, of_spec_WeightedVote b = some r → to_spec_WeightedVote r = b := by
  rintro ⟨a, o⟩ r h
  cases o with
  | none => injection h with h; subst h; rfl
  | some _ => cases h
noncomputable def f_spec_WeightedVote_0 : Nat → List Int → List Int → List Int → Int → List Int → Int → Int → Option (List Int × List Int × Int)
  | 0, _, _, _, _, _, _, _ => none
  | k + 1, o1, v0, v1, v7, v28, v29, v30 =>
    if decide (v30 < v29) = true then if (0 : Int) ≤ v30 then if v30 < (↑(List.length v28) : Int) then if (0 : Int) ≤ List.getD v28 (Int.toNat v30) (0 : Int) then if List.getD v28 (Int.toNat v30) (0 : Int) < (↑(List.length o1) : Int) then if (0 : Int) ≤ v30 then if v30 < (↑(List.length v1) : Int) then if (0 : Int) ≤ List.getD v28 (Int.toNat v30) (0 : Int) then if List.getD v28 (Int.toNat v30) (0 : Int) < (↑(List.length o1) : Int) then f_spec_WeightedVote_0 k (List.set o1 (Int.toNat (List.getD v28 (Int.toNat v30) (0 : Int))) (wrap64 (List.getD o1 (Int.toNat (List.getD v28 (Int.toNat v30) (0 : Int))) (0 : Int) + List.getD v1 (Int.toNat v30) (0 : Int)))) v0 v1 v7 v28 v29 (wrap64 (v30 + (1 : Int))) else none else none else none else none else none else none else none else none else some (o1, v0, v7)
noncomputable def f_spec_WeightedVote_0i : Spec := { objs := [OSh.ro, OSh.row true (3 : Nat) (Ty.int IntKind.i64)], tmps := [((0 : Nat), TSh.at (Sh.snap (0 : Nat) (Ty.int IntKind.i64))), ((1 : Nat), TSh.at (Sh.snap (0 : Nat) (Ty.int IntKind.i64))), ((6 : Nat), TSh.at (Sh.sl (1 : Nat))), ((7 : Nat), TSh.at (Sh.int IntKind.i64)), ((28 : Nat), TSh.at (Sh.snap (0 : Nat) (Ty.int IntKind.i64))), ((29 : Nat), TSh.at (Sh.int IntKind.i64)), ((30 : Nat), TSh.at (Sh.int IntKind.i64))] }
noncomputable def f_spec_WeightedVote_0o : Spec := { objs := [OSh.ro, OSh.row true (3 : Nat) (Ty.int IntKind.i64)], tmps := [((0 : Nat), TSh.at (Sh.snap (0 : Nat) (Ty.int IntKind.i64))), ((6 : Nat), TSh.at (Sh.sl (1 : Nat))), ((7 : Nat), TSh.at (Sh.int IntKind.i64))] }
noncomputable def f_spec_WeightedVote_0D : LoopDef (Tup r_spec_WeightedVote × OutD) := .plain f_spec_WeightedVote_0i f_spec_WeightedVote_0o (List Int × List Int × Int) (fun k x => f_spec_WeightedVote_0 k x.1.2.1 x.2.1 x.2.2.1 x.2.2.2.2.1 x.2.2.2.2.2.1 x.2.2.2.2.2.2.1 x.2.2.2.2.2.2.2.1) (fun z => (((), z.1, ()), (z.2.1, (), z.2.2, ()))) (fun y => (y.1.2.1, y.2.1, y.2.2.2.1)) (fun _ => rfl)
noncomputable def f_spec_WeightedVote_2 : Nat → List Int → List Int → Int → Int → Int → Option Int
  | 0, _, _, _, _, _ => none
  | k + 1, o1, v0, v7, v47, v48 =>
    if decide (v48 < v47) = true then if (0 : Int) ≤ v48 then if v48 < (↑(List.length o1) : Int) then Option.bind (f_spec_l1Has k v0 v48) fun z3 => if z3 = true then if decide (v7 < (0 : Int)) = true then f_spec_WeightedVote_2 k o1 v0 v48 v47 (wrap64 (v48 + (1 : Int))) else if (0 : Int) ≤ v7 then if v7 < (↑(List.length o1) : Int) then if decide (List.getD o1 (Int.toNat v48) (0 : Int) > List.getD o1 (Int.toNat v7) (0 : Int)) = true then f_spec_WeightedVote_2 k o1 v0 v48 v47 (wrap64 (v48 + (1 : Int))) else f_spec_WeightedVote_2 k o1 v0 v7 v47 (wrap64 (v48 + (1 : Int))) else none else none else f_spec_WeightedVote_2 k o1 v0 v7 v47 (wrap64 (v48 + (1 : Int))) else none else none else some v7
noncomputable def f_spec_WeightedVote_2i : Spec := { objs := [OSh.ro, OSh.row true (3 : Nat) (Ty.int IntKind.i64)], tmps := [((0 : Nat), TSh.at (Sh.snap (0 : Nat) (Ty.int IntKind.i64))), ((6 : Nat), TSh.at (Sh.sl (1 : Nat))), ((7 : Nat), TSh.at (Sh.int IntKind.i64)), ((46 : Nat), TSh.at (Sh.sl (1 : Nat))), ((47 : Nat), TSh.at (Sh.int IntKind.i64)), ((48 : Nat), TSh.at (Sh.int IntKind.i64))] }
noncomputable def f_spec_WeightedVote_2o : Spec := { objs := [OSh.ro], tmps := [((7 : Nat), TSh.at (Sh.int IntKind.i64))] }
noncomputable def f_spec_WeightedVote_2D : LoopDef (Tup r_spec_WeightedVote × OutD) := .plain f_spec_WeightedVote_2i f_spec_WeightedVote_2o (Int) (fun k x => f_spec_WeightedVote_2 k x.1.2.1 x.2.1 x.2.2.2.1 x.2.2.2.2.2.1 x.2.2.2.2.2.2.1) (fun z => (((), ()), (z, ()))) (fun y => (y.2.1)) (fun _ => rfl)
noncomputable def f_spec_WeightedVote : Nat → List Int → List Int → Option (Int × Bool)
  | 0, _, _ => none
  | k + 1, p0, p1 =>
    Option.bind (f_spec_voVotes k p0) fun z0 => if (!z0) = true then some ((0 : Int), false) else if decide ((↑(List.length p1) : Int) ≠ (↑(List.length p0) : Int)) = true then some ((0 : Int), false) else Option.bind (f_spec_l1All k p1 (0 : Int) (100 : Int)) fun z1 => if (!z1) = true then some ((0 : Int), false) else Option.bind (f_spec_WeightedVote_0 k (List.replicate (Int.toNat (10 : Int)) (0 : Int)) p0 p1 (-1 : Int) p0 (↑(List.length p0) : Int) (0 : Int)) fun z2 => Option.bind (f_spec_WeightedVote_2 k (Prod.fst z2) (Prod.fst (Prod.snd z2)) (Prod.snd (Prod.snd z2)) (↑(List.length (Prod.fst z2)) : Int) (0 : Int)) fun z4 => some (z4, true)
noncomputable def d_spec_WeightedVote : FnDef := .of q_spec_WeightedVote r_spec_WeightedVote (Int × Bool) (fun k x => f_spec_WeightedVote k x.1 x.2.1) to_spec_WeightedVote of_spec_WeightedVote to_of_spec_WeightedVote
noncomputable def c_spec_WeightedVote : Code := Try.f35.body.getD .skip
noncomputable def x_spec_WeightedVote : Ctx (Tup r_spec_WeightedVote × OutD) := { T := T, G := [(100, d_spec_voVotes.E), (113, d_spec_l1All.E), (114, d_spec_l1Has.E)], mvs := [], no := 0, n := 71, res := resOf T q_spec_WeightedVote r_spec_WeightedVote Try.f35.results.toList, loops := [(0, f_spec_WeightedVote_0D.E), (2, f_spec_WeightedVote_2D.E)], regs := [], conds := [] }
theorem g_spec_WeightedVote (k : Nat) : EnvOK Try.prog k x_spec_WeightedVote.G := (EnvOK.cons (s_spec_voVotes k) (EnvOK.cons (s_spec_l1All k) (EnvOK.cons (s_spec_l1Has k) (EnvOK.nil mixed))))
noncomputable def f_spec_WeightedVote_0B : Code := (findLoop 0 c_spec_WeightedVote).getD .skip
theorem f_spec_WeightedVote_0h (k : Nat) (x : f_spec_WeightedVote_0i.D) : f_spec_WeightedVote_0D.lp (k + 1) x = loopK x_spec_WeightedVote f_spec_WeightedVote_0D 0 f_spec_WeightedVote_0B k x := by kernel_rfl
theorem f_spec_WeightedVote_0l (k : Nat) : LOK Try.prog x_spec_WeightedVote k f_spec_WeightedVote_0B := LOK.by [] (by kernel_rfl) AllOK.nil
theorem f_spec_WeightedVote_0z (x : f_spec_WeightedVote_0i.D) : f_spec_WeightedVote_0D.lp 0 x = none := by kernel_rfl
theorem f_spec_WeightedVote_0ok (k : Nat) : EOK Try.prog x_spec_WeightedVote k f_spec_WeightedVote_0D.E (.block 0 (.loop f_spec_WeightedVote_0B)) := loop_ok T_ok g_spec_WeightedVote f_spec_WeightedVote_0z f_spec_WeightedVote_0h f_spec_WeightedVote_0l k
noncomputable def f_spec_WeightedVote_2B : Code := (findLoop 2 c_spec_WeightedVote).getD .skip
theorem f_spec_WeightedVote_2h (k : Nat) (x : f_spec_WeightedVote_2i.D) : f_spec_WeightedVote_2D.lp (k + 1) x = loopK x_spec_WeightedVote f_spec_WeightedVote_2D 2 f_spec_WeightedVote_2B k x := by kernel_rfl
theorem f_spec_WeightedVote_2l (k : Nat) : LOK Try.prog x_spec_WeightedVote k f_spec_WeightedVote_2B := LOK.by [] (by kernel_rfl) AllOK.nil
theorem f_spec_WeightedVote_2z (x : f_spec_WeightedVote_2i.D) : f_spec_WeightedVote_2D.lp 0 x = none := by kernel_rfl
theorem f_spec_WeightedVote_2ok (k : Nat) : EOK Try.prog x_spec_WeightedVote k f_spec_WeightedVote_2D.E (.block 2 (.loop f_spec_WeightedVote_2B)) := loop_ok T_ok g_spec_WeightedVote f_spec_WeightedVote_2z f_spec_WeightedVote_2h f_spec_WeightedVote_2l k
theorem h_spec_WeightedVote (k : Nat) (x : Tup d_spec_WeightedVote.ps) : d_spec_WeightedVote.f (k + 1) x = fnK d_spec_WeightedVote x_spec_WeightedVote c_spec_WeightedVote k x := by kernel_rfl
theorem z_spec_WeightedVote (x : Tup d_spec_WeightedVote.ps) : d_spec_WeightedVote.f 0 x = none := by kernel_rfl
theorem l_spec_WeightedVote (k : Nat) : LOK Try.prog x_spec_WeightedVote k c_spec_WeightedVote := LOK.by [(f_spec_WeightedVote_0D.E, .block 0 (.loop f_spec_WeightedVote_0B)), (f_spec_WeightedVote_2D.E, .block 2 (.loop f_spec_WeightedVote_2B))] (by kernel_rfl) (AllOK.cons (f_spec_WeightedVote_0ok k) (AllOK.cons (f_spec_WeightedVote_2ok k) AllOK.nil))
theorem s_spec_WeightedVote (k : Nat) : SoundAt Try.prog k 35 d_spec_WeightedVote.E := @fn_all Try.prog d_spec_WeightedVote x_spec_WeightedVote 35 Try.f35 c_spec_WeightedVote (by kernel_rfl) (by kernel_rfl) (by kernel_rfl) Try.func35 (by kernel_rfl) (by kernel_rfl) (by kernel_rfl) T_ok g_spec_WeightedVote l_spec_WeightedVote z_spec_WeightedVote h_spec_WeightedVote k
/-! function 37 -/
noncomputable def r_spec_FlipsToWin : List PK := [{ t := Ty.int IntKind.i64 }, { t := Ty.bool }]
noncomputable def q_spec_FlipsToWin : List PK := [{ t := Ty.slice (3 : Nat) (Ty.int IntKind.i64) }, { t := Ty.int IntKind.i64 }]
noncomputable def to_spec_FlipsToWin (r : Int × Bool) : Tup r_spec_FlipsToWin × OutD := ((r.1, r.2, ()), none)
noncomputable def of_spec_FlipsToWin : Tup r_spec_FlipsToWin × OutD → Option (Int × Bool)
  | (a, none) => some (a.1, a.2.1)
  | _ => none
theorem to_of_spec_FlipsToWin : ∀ b r, of_spec_FlipsToWin b = some r → to_spec_FlipsToWin r = b := by
  rintro ⟨a, o⟩ r h
  cases o with
  | none => injection h with h; subst h; rfl
  | some _ => cases h
noncomputable def f_spec_FlipsToWin_0 : Nat → List Int → Int → Int → List Int → Int → Int → Option (List Int × Int)
  | 0, _, _, _, _, _, _ => none
  | k + 1, v0, v1, v6, v17, v18, v19 =>
    if decide (v19 < v18) = true then if (0 : Int) ≤ v19 then if v19 < (↑(List.length v17) : Int) then if decide (List.getD v17 (Int.toNat v19) (0 : Int) = v1) = true then f_spec_FlipsToWin_0 k v0 v1 (wrap64 (v6 + (1 : Int))) v17 v18 (wrap64 (v19 + (1 : Int))) else f_spec_FlipsToWin_0 k v0 v1 v6 v17 v18 (wrap64 (v19 + (1 : Int))) else none else none else some (v0, v6)
noncomputable def f_spec_FlipsToWin_0i : Spec := { objs := [OSh.ro], tmps := [((0 : Nat), TSh.at (Sh.snap (0 : Nat) (Ty.int IntKind.i64))), ((1 : Nat), TSh.at (Sh.int IntKind.i64)), ((6 : Nat), TSh.at (Sh.int IntKind.i64)), ((17 : Nat), TSh.at (Sh.snap (0 : Nat) (Ty.int IntKind.i64))), ((18 : Nat), TSh.at (Sh.int IntKind.i64)), ((19 : Nat), TSh.at (Sh.int IntKind.i64))] }
noncomputable def f_spec_FlipsToWin_0o : Spec := { objs := [OSh.ro], tmps := [((0 : Nat), TSh.at (Sh.snap (0 : Nat) (Ty.int IntKind.i64))), ((6 : Nat), TSh.at (Sh.int IntKind.i64))] }
noncomputable def f_spec_FlipsToWin_0D : LoopDef (Tup r_spec_FlipsToWin × OutD) := .plain f_spec_FlipsToWin_0i f_spec_FlipsToWin_0o (List Int × Int) (fun k x => f_spec_FlipsToWin_0 k x.2.1 x.2.2.1 x.2.2.2.1 x.2.2.2.2.1 x.2.2.2.2.2.1 x.2.2.2.2.2.2.1) (fun z => (((), ()), (z.1, z.2, ()))) (fun y => (y.2.1, y.2.2.1)) (fun _ => rfl)
noncomputable def f_spec_FlipsToWin : Nat → List Int → Int → Option (Int × Bool)
  | 0, _, _ => none
  | k + 1, p0, p1 =>
    Option.bind (f_spec_voVotes k p0) fun z0 => if (!z0) = true then some ((0 : Int), false) else Option.bind (f_spec_l1In k p1 (0 : Int) (9 : Int)) fun z1 => if (!z1) = true then some ((0 : Int), false) else Option.bind (f_spec_FlipsToWin_0 k p0 p1 (0 : Int) p0 (↑(List.length p0) : Int) (0 : Int)) fun z2 => Option.bind (f_spec_l1Most k (0 : Int) (wrap64 (wrap64 (wrap64 (Int.tdiv (↑(List.length (Prod.fst z2)) : Int) (2 : Int)) + (1 : Int)) - Prod.snd z2))) fun z3 => some (z3, true)
noncomputable def d_spec_FlipsToWin : FnDef := .of q_spec_FlipsToWin r_spec_FlipsToWin (Int × Bool) (fun k x => f_spec_FlipsToWin k x.1 x.2.1) to_spec_FlipsToWin of_spec_FlipsToWin to_of_spec_FlipsToWin
noncomputable def c_spec_FlipsToWin : Code := Try.f37.body.getD .skip
noncomputable def x_spec_FlipsToWin : Ctx (Tup r_spec_FlipsToWin × OutD) := { T := T, G := [(100, d_spec_voVotes.E), (96, d_spec_l1In.E), (115, d_spec_l1Most.E)], mvs := [], no := 0, n := 36, res := resOf T q_spec_FlipsToWin r_spec_FlipsToWin Try.f37.results.toList, loops := [(0, f_spec_FlipsToWin_0D.E)], regs := [], conds := [] }
theorem g_spec_FlipsToWin (k : Nat) : EnvOK Try.prog k x_spec_FlipsToWin.G := (EnvOK.cons (s_spec_voVotes k) (EnvOK.cons (s_spec_l1In k) (EnvOK.cons (s_spec_l1Most k) (EnvOK.nil mixed))))
noncomputable def f_spec_FlipsToWin_0B : Code := (findLoop 0 c_spec_FlipsToWin).getD .skip
theorem f_spec_FlipsToWin_0h (k : Nat) (x : f_spec_FlipsToWin_0i.D) : f_spec_FlipsToWin_0D.lp (k + 1) x = loopK x_spec_FlipsToWin f_spec_FlipsToWin_0D 0 f_spec_FlipsToWin_0B k x := by kernel_rfl
theorem f_spec_FlipsToWin_0l (k : Nat) : LOK Try.prog x_spec_FlipsToWin k f_spec_FlipsToWin_0B := LOK.by [] (by kernel_rfl) AllOK.nil
theorem f_spec_FlipsToWin_0z (x : f_spec_FlipsToWin_0i.D) : f_spec_FlipsToWin_0D.lp 0 x = none := by kernel_rfl
theorem f_spec_FlipsToWin_0ok (k : Nat) : EOK Try.prog x_spec_FlipsToWin k f_spec_FlipsToWin_0D.E (.block 0 (.loop f_spec_FlipsToWin_0B)) := loop_ok T_ok g_spec_FlipsToWin f_spec_FlipsToWin_0z f_spec_FlipsToWin_0h f_spec_FlipsToWin_0l k
theorem h_spec_FlipsToWin (k : Nat) (x : Tup d_spec_FlipsToWin.ps) : d_spec_FlipsToWin.f (k + 1) x = fnK d_spec_FlipsToWin x_spec_FlipsToWin c_spec_FlipsToWin k x := by kernel_rfl
theorem z_spec_FlipsToWin (x : Tup d_spec_FlipsToWin.ps) : d_spec_FlipsToWin.f 0 x = none := by kernel_rfl
theorem l_spec_FlipsToWin (k : Nat) : LOK Try.prog x_spec_FlipsToWin k c_spec_FlipsToWin := LOK.by [(f_spec_FlipsToWin_0D.E, .block 0 (.loop f_spec_FlipsToWin_0B))] (by kernel_rfl) (AllOK.cons (f_spec_FlipsToWin_0ok k) AllOK.nil)
theorem s_spec_FlipsToWin (k : Nat) : SoundAt Try.prog k 37 d_spec_FlipsToWin.E := @fn_all Try.prog d_spec_FlipsToWin x_spec_FlipsToWin 37 Try.f37 c_spec_FlipsToWin (by kernel_rfl) (by kernel_rfl) (by kernel_rfl) Try.func37 (by kernel_rfl) (by kernel_rfl) (by kernel_rfl) T_ok g_spec_FlipsToWin l_spec_FlipsToWin z_spec_FlipsToWin h_spec_FlipsToWin k
/-! function 97 -/
noncomputable def r_spec_l1Cur_votes : List PK := [{ t := Ty.slice (3 : Nat) (Ty.int IntKind.i64) }]
noncomputable def q_spec_l1Cur_votes : List PK := [{ t := Ty.pair (Ty.slice (5 : Nat) (Ty.int IntKind.u8)) (Ty.pair (Ty.int IntKind.i64) (Ty.int IntKind.u64)), box := some (114 : Nat) }]
noncomputable def to_spec_l1Cur_votes (r : List Int × Int × Int) : Tup r_spec_l1Cur_votes × OutD := ((r.1, ()), some ⟨Ty.pair (Ty.slice (5 : Nat) (Ty.int IntKind.u8)) (Ty.pair (Ty.int IntKind.i64) (Ty.int IntKind.u64)), [([], r.2)]⟩)
noncomputable def of_spec_l1Cur_votes : Tup r_spec_l1Cur_votes × OutD → Option (List Int × Int × Int)
  | (a, some ⟨u, ys⟩) => if h : u = Ty.pair (Ty.slice (5 : Nat) (Ty.int IntKind.u8)) (Ty.pair (Ty.int IntKind.i64) (Ty.int IntKind.u64)) then (match castU h ys with
    | [([], y)] => some (a.1, y)
    | _ => none) else none
  | _ => none
theorem to_of_spec_l1Cur_votes : ∀ b r, of_spec_l1Cur_votes b = some r → to_spec_l1Cur_votes r = b := by
  rintro ⟨a, o⟩ r h
  cases o with
  | none => cases h
  | some s =>
    obtain ⟨u, ys⟩ := s
    simp only [of_spec_l1Cur_votes] at h
    split at h
    · rename_i hu
      subst hu
      match ys, h with
      | [], h => cases (show (none : Option _) = some r from h)
      | [([], y)], h => injection (show some _ = some r from h) with h; subst h; rfl
      | [(_ :: _, y)], h => cases (show (none : Option _) = some r from h)
      | (h1, _) :: _ :: _, h => cases h1 <;> cases (show (none : Option _) = some r from h)
    · cases h
noncomputable def f_spec_l1Cur_votes_j9 : Nat → Int → Int → List Int → List Int → Int → Bool → Option (Int × Int × List Int × List Int × Int) := fun k b1_1 b1_2 o2 o3 v4 v9 =>
    if v9 = true then Option.bind (f_spec_l1Cur_among k (o2, b1_1, b1_2) [(0 : Int), (9 : Int), (10 : Int)]) fun z2 => some (Prod.fst (Prod.snd z2), Prod.snd (Prod.snd z2), o2, o3, Prod.fst z2) else some (b1_1, b1_2, o2, o3, v4)
noncomputable def f_spec_l1Cur_votes_j9i : Spec := { objs := [OSh.ro, OSh.box (114 : Nat) [Sh.sl (2 : Nat), Sh.int IntKind.i64, Sh.int IntKind.u64], OSh.fx (Ty.int IntKind.u8), OSh.row true (3 : Nat) (Ty.int IntKind.i64)], tmps := [((0 : Nat), TSh.at (Sh.ptr (1 : Nat) (0 : Nat))), ((3 : Nat), TSh.at (Sh.sl (3 : Nat))), ((4 : Nat), TSh.at (Sh.int IntKind.i64)), ((9 : Nat), TSh.at Sh.bool)] }
noncomputable def f_spec_l1Cur_votes_j9o : Spec := { objs := [OSh.ro, OSh.box (114 : Nat) [Sh.sl (2 : Nat), Sh.int IntKind.i64, Sh.int IntKind.u64], OSh.fx (Ty.int IntKind.u8), OSh.row true (3 : Nat) (Ty.int IntKind.i64)], tmps := [((0 : Nat), TSh.at (Sh.ptr (1 : Nat) (0 : Nat))), ((3 : Nat), TSh.at (Sh.sl (3 : Nat))), ((4 : Nat), TSh.at (Sh.int IntKind.i64))] }
noncomputable def f_spec_l1Cur_votes_j9D : LoopDef (Tup r_spec_l1Cur_votes × OutD) := .plain f_spec_l1Cur_votes_j9i f_spec_l1Cur_votes_j9o (Int × Int × List Int × List Int × Int) (fun k x => f_spec_l1Cur_votes_j9 k x.1.2.1.2.1 x.1.2.1.2.2.1 x.1.2.2.1 x.1.2.2.2.1 x.2.2.2.1 x.2.2.2.2.1) (fun z => (((), ((), z.1, z.2.1, ()), z.2.2.1, z.2.2.2.1, ()), ((), (), z.2.2.2.2, ()))) (fun y => (y.1.2.1.2.1, y.1.2.1.2.2.1, y.1.2.2.1, y.1.2.2.2.1, y.2.2.2.1)) (fun _ => rfl)
noncomputable def f_spec_l1Cur_votes_0 : Nat → Int → Int → List Int → List Int → Int → Option (Int × Int × List Int × List Int × Int)
  | 0, _, _, _, _, _ => none
  | k + 1, b1_1, b1_2, o2, o3, v4 =>
    if decide ((↑(List.length o3) : Int) < v4) = true then Option.bind (f_spec_l1Cur_pick k (o2, b1_1, b1_2) (10 : Int)) fun z4 => Option.bind (f_spec_l1Cur_among k (o2, Prod.fst (Prod.snd z4), Prod.snd (Prod.snd z4)) [(0 : Int), (1 : Int), (1 : Int), (2 : Int), (9 : Int), Prod.fst z4]) fun z5 => if List.length o3 + List.length [Prod.fst z5] ≤ (140737488355328 / 8 : Nat) then f_spec_l1Cur_votes_0 k (Prod.fst (Prod.snd z5)) (Prod.snd (Prod.snd z5)) o2 (o3 ++ [Prod.fst z5]) v4 else none else some (b1_1, b1_2, o2, o3, v4)
noncomputable def f_spec_l1Cur_votes_0i : Spec := { objs := [OSh.ro, OSh.box (114 : Nat) [Sh.sl (2 : Nat), Sh.int IntKind.i64, Sh.int IntKind.u64], OSh.fx (Ty.int IntKind.u8), OSh.row true (3 : Nat) (Ty.int IntKind.i64)], tmps := [((0 : Nat), TSh.at (Sh.ptr (1 : Nat) (0 : Nat))), ((3 : Nat), TSh.at (Sh.sl (3 : Nat))), ((4 : Nat), TSh.at (Sh.int IntKind.i64))] }
noncomputable def f_spec_l1Cur_votes_0o : Spec := { objs := [OSh.ro, OSh.box (114 : Nat) [Sh.sl (2 : Nat), Sh.int IntKind.i64, Sh.int IntKind.u64], OSh.fx (Ty.int IntKind.u8), OSh.row true (3 : Nat) (Ty.int IntKind.i64)], tmps := [((0 : Nat), TSh.at (Sh.ptr (1 : Nat) (0 : Nat))), ((3 : Nat), TSh.at (Sh.sl (3 : Nat))), ((4 : Nat), TSh.at (Sh.int IntKind.i64))] }
noncomputable def f_spec_l1Cur_votes_0D : LoopDef (Tup r_spec_l1Cur_votes × OutD) := .plain f_spec_l1Cur_votes_0i f_spec_l1Cur_votes_0o (Int × Int × List Int × List Int × Int) (fun k x => f_spec_l1Cur_votes_0 k x.1.2.1.2.1 x.1.2.1.2.2.1 x.1.2.2.1 x.1.2.2.2.1 x.2.2.2.1) (fun z => (((), ((), z.1, z.2.1, ()), z.2.2.1, z.2.2.2.1, ()), ((), (), z.2.2.2.2, ()))) (fun y => (y.1.2.1.2.1, y.1.2.1.2.2.1, y.1.2.2.1, y.1.2.2.2.1, y.2.2.2.1)) (fun _ => rfl)
noncomputable def f_spec_l1Cur_votes : Nat → List Int × Int × Int → Option (List Int × Int × Int)
  | 0, _ => none
  | k + 1, p0 =>
    Option.bind (f_spec_l1Cur_pick k (Prod.fst p0, Prod.fst (Prod.snd p0), Prod.snd (Prod.snd p0)) (6 : Int)) fun z0 => Option.bind (f_spec_l1Cur_one k (Prod.fst p0, Prod.fst (Prod.snd z0), Prod.snd (Prod.snd z0)) (16 : Int)) fun z1 => Option.bind (f_spec_l1Cur_votes_j9 k (Prod.fst (Prod.snd z1)) (Prod.snd (Prod.snd z1)) (Prod.fst p0) [] (wrap64 ((1 : Int) + Prod.fst z0)) (Prod.fst z1)) fun z3 => Option.bind (f_spec_l1Cur_votes_0 k (Prod.fst z3) (Prod.fst (Prod.snd z3)) (Prod.fst (Prod.snd (Prod.snd z3))) (Prod.fst (Prod.snd (Prod.snd (Prod.snd z3)))) (Prod.snd (Prod.snd (Prod.snd (Prod.snd z3))))) fun z6 => if decide (Prod.snd (Prod.snd (Prod.snd (Prod.snd z6))) > (0 : Int)) = true then Option.bind (f_spec_l1Cur_one k (Prod.fst (Prod.snd (Prod.snd z6)), Prod.fst z6, Prod.fst (Prod.snd z6)) (20 : Int)) fun z7 => if Prod.fst z7 = true then Option.bind (f_spec_l1Cur_pick k (Prod.fst (Prod.snd (Prod.snd z6)), Prod.fst (Prod.snd z7), Prod.snd (Prod.snd z7)) (Prod.snd (Prod.snd (Prod.snd (Prod.snd z6))))) fun z8 => Option.bind (f_spec_l1Cur_among k (Prod.fst (Prod.snd (Prod.snd z6)), Prod.fst (Prod.snd z8), Prod.snd (Prod.snd z8)) [(-1 : Int), (10 : Int)]) fun z9 => if (0 : Int) ≤ Prod.fst z8 then if Prod.fst z8 < (↑(List.length (Prod.fst (Prod.snd (Prod.snd (Prod.snd z6))))) : Int) then some (List.set (Prod.fst (Prod.snd (Prod.snd (Prod.snd z6)))) (Int.toNat (Prod.fst z8)) (Prod.fst z9), Prod.fst (Prod.snd z9), Prod.snd (Prod.snd z9)) else none else none else some (Prod.fst (Prod.snd (Prod.snd (Prod.snd z6))), Prod.fst (Prod.snd z7), Prod.snd (Prod.snd z7)) else some (Prod.fst (Prod.snd (Prod.snd (Prod.snd z6))), Prod.fst z6, Prod.fst (Prod.snd z6))
noncomputable def d_spec_l1Cur_votes : FnDef := .of q_spec_l1Cur_votes r_spec_l1Cur_votes (List Int × Int × Int) (fun k x => f_spec_l1Cur_votes k x.1) to_spec_l1Cur_votes of_spec_l1Cur_votes to_of_spec_l1Cur_votes
noncomputable def c_spec_l1Cur_votes : Code := Try.f97.body.getD .skip
noncomputable def x_spec_l1Cur_votes : Ctx (Tup r_spec_l1Cur_votes × OutD) := { T := T, G := [(111, d_spec_l1Cur_pick.E), (150, d_spec_l1Cur_one.E), (90, d_spec_l1Cur_among.E)], mvs := [], no := 2, n := 40, res := resOf T q_spec_l1Cur_votes r_spec_l1Cur_votes Try.f97.results.toList, loops := [(0, f_spec_l1Cur_votes_0D.E)], regs := [], conds := [(9, f_spec_l1Cur_votes_j9D.E)] }
theorem g_spec_l1Cur_votes (k : Nat) : EnvOK Try.prog k x_spec_l1Cur_votes.G := (EnvOK.cons (s_spec_l1Cur_pick k) (EnvOK.cons (s_spec_l1Cur_one k) (EnvOK.cons (s_spec_l1Cur_among k) (EnvOK.nil mixed))))
noncomputable def f_spec_l1Cur_votes_j9X : Code := ((findCond 9 c_spec_l1Cur_votes).map (·.1)).getD .skip
noncomputable def f_spec_l1Cur_votes_j9Y : Code := ((findCond 9 c_spec_l1Cur_votes).map (·.2)).getD .skip
theorem f_spec_l1Cur_votes_j9h (k : Nat) (i : f_spec_l1Cur_votes_j9D.inp.D) : f_spec_l1Cur_votes_j9D.lp k i = branch (f_spec_l1Cur_votes_j9D.inp.st x_spec_l1Cur_votes.n i) (.tmp 9) (fun st => exec x_spec_l1Cur_votes k f_spec_l1Cur_votes_j9X st (outK x_spec_l1Cur_votes f_spec_l1Cur_votes_j9D) (fun _ _ => none) f_spec_l1Cur_votes_j9D.mkB) (fun st => exec x_spec_l1Cur_votes k f_spec_l1Cur_votes_j9Y st (outK x_spec_l1Cur_votes f_spec_l1Cur_votes_j9D) (fun _ _ => none) f_spec_l1Cur_votes_j9D.mkB) := by kernel_rfl
theorem f_spec_l1Cur_votes_j9ok (k : Nat) : EOK Try.prog x_spec_l1Cur_votes k f_spec_l1Cur_votes_j9D.E (.cond (.tmp 9) f_spec_l1Cur_votes_j9X f_spec_l1Cur_votes_j9Y) := join_ok (D := f_spec_l1Cur_votes_j9D) T_ok (g_spec_l1Cur_votes k) (f_spec_l1Cur_votes_j9h k) (LOK.by [] (by kernel_rfl) AllOK.nil) (LOK.by [] (by kernel_rfl) AllOK.nil)
noncomputable def f_spec_l1Cur_votes_0B : Code := (findLoop 0 c_spec_l1Cur_votes).getD .skip
theorem f_spec_l1Cur_votes_0h (k : Nat) (x : f_spec_l1Cur_votes_0i.D) : f_spec_l1Cur_votes_0D.lp (k + 1) x = loopK x_spec_l1Cur_votes f_spec_l1Cur_votes_0D 0 f_spec_l1Cur_votes_0B k x := by kernel_rfl
theorem f_spec_l1Cur_votes_0l (k : Nat) : LOK Try.prog x_spec_l1Cur_votes k f_spec_l1Cur_votes_0B := LOK.by [] (by kernel_rfl) AllOK.nil
theorem f_spec_l1Cur_votes_0z (x : f_spec_l1Cur_votes_0i.D) : f_spec_l1Cur_votes_0D.lp 0 x = none := by kernel_rfl
theorem f_spec_l1Cur_votes_0ok (k : Nat) : EOK Try.prog x_spec_l1Cur_votes k f_spec_l1Cur_votes_0D.E (.block 0 (.loop f_spec_l1Cur_votes_0B)) := loop_ok T_ok g_spec_l1Cur_votes f_spec_l1Cur_votes_0z f_spec_l1Cur_votes_0h f_spec_l1Cur_votes_0l k
theorem h_spec_l1Cur_votes (k : Nat) (x : Tup d_spec_l1Cur_votes.ps) : d_spec_l1Cur_votes.f (k + 1) x = fnK d_spec_l1Cur_votes x_spec_l1Cur_votes c_spec_l1Cur_votes k x := by kernel_rfl
theorem z_spec_l1Cur_votes (x : Tup d_spec_l1Cur_votes.ps) : d_spec_l1Cur_votes.f 0 x = none := by kernel_rfl
theorem l_spec_l1Cur_votes (k : Nat) : LOK Try.prog x_spec_l1Cur_votes k c_spec_l1Cur_votes := LOK.by [(f_spec_l1Cur_votes_j9D.E, .cond (.tmp 9) f_spec_l1Cur_votes_j9X f_spec_l1Cur_votes_j9Y), (f_spec_l1Cur_votes_0D.E, .block 0 (.loop f_spec_l1Cur_votes_0B))] (by kernel_rfl) (AllOK.cons (f_spec_l1Cur_votes_j9ok k) (AllOK.cons (f_spec_l1Cur_votes_0ok k) AllOK.nil))
theorem s_spec_l1Cur_votes (k : Nat) : SoundAt Try.prog k 97 d_spec_l1Cur_votes.E := @fn_all Try.prog d_spec_l1Cur_votes x_spec_l1Cur_votes 97 Try.f97 c_spec_l1Cur_votes (by kernel_rfl) (by kernel_rfl) (by kernel_rfl) Try.func97 (by kernel_rfl) (by kernel_rfl) (by kernel_rfl) T_ok g_spec_l1Cur_votes l_spec_l1Cur_votes z_spec_l1Cur_votes h_spec_l1Cur_votes k
/-! function 102 -/
noncomputable def r_spec_l1Cur_voteRows : List PK := [{ t := Ty.slice (34 : Nat) (Ty.slice (3 : Nat) (Ty.int IntKind.i64)) }]
noncomputable def q_spec_l1Cur_voteRows : List PK := [{ t := Ty.pair (Ty.slice (5 : Nat) (Ty.int IntKind.u8)) (Ty.pair (Ty.int IntKind.i64) (Ty.int IntKind.u64)), box := some (114 : Nat) }]
noncomputable def to_spec_l1Cur_voteRows (r : List (List Int) × Int × Int) : Tup r_spec_l1Cur_voteRows × OutD := ((r.1, ()), some ⟨Ty.pair (Ty.slice (5 : Nat) (Ty.int IntKind.u8)) (Ty.pair (Ty.int IntKind.i64) (Ty.int IntKind.u64)), [([], r.2)]⟩)
noncomputable def of_spec_l1Cur_voteRows : Tup r_spec_l1Cur_voteRows × OutD → Option (List (List Int) × Int × Int)
  | (a, some ⟨u, ys⟩) => if h : u = Ty.pair (Ty.slice (5 : Nat) (Ty.int IntKind.u8)) (Ty.pair (Ty.int IntKind.i64) (Ty.int IntKind.u64)) then (match castU h ys with
    | [([], y)] => some (a.1, y)
    | _ => none) else none
  | _ => none
theorem to_of_spec_l1Cur_voteRows : ∀ b r, of_spec_l1Cur_voteRows b = some r → to_spec_l1Cur_voteRows r = b := by
  rintro ⟨a, o⟩ r h
  cases o with
  | none => cases h
  | some s =>
    obtain ⟨u, ys⟩ := s
    simp only [of_spec_l1Cur_voteRows] at h
    split at h
    · rename_i hu
      subst hu
      match ys, h with
      | [], h => cases (show (none : Option _) = some r from h)
      | [([], y)], h => injection (show some _ = some r from h) with h; subst h; rfl
      | [(_ :: _, y)], h => cases (show (none : Option _) = some r from h)
      | (h1, _) :: _ :: _, h => cases h1 <;> cases (show (none : Option _) = some r from h)
    · cases h
noncomputable def f_spec_l1Cur_voteRows_j11 : Nat → Int → Int → List Int → List Int → Int → Bool → Option (Int × Int × List Int × List Int × Int) := fun k b1_1 b1_2 o2 o3 v4 v11 =>
    if v11 = true then Option.bind (f_spec_l1Cur_pick k (o2, b1_1, b1_2) (2 : Int)) fun z2 => some (Prod.fst (Prod.snd z2), Prod.snd (Prod.snd z2), o2, o3, wrap64 ((40 : Int) + Prod.fst z2)) else some (b1_1, b1_2, o2, o3, v4)
noncomputable def f_spec_l1Cur_voteRows_j11i : Spec := { objs := [OSh.ro, OSh.box (114 : Nat) [Sh.sl (2 : Nat), Sh.int IntKind.i64, Sh.int IntKind.u64], OSh.fx (Ty.int IntKind.u8), OSh.row true (3 : Nat) (Ty.int IntKind.i64)], tmps := [((0 : Nat), TSh.at (Sh.ptr (1 : Nat) (0 : Nat))), ((3 : Nat), TSh.at (Sh.sl (3 : Nat))), ((4 : Nat), TSh.at (Sh.int IntKind.i64)), ((11 : Nat), TSh.at Sh.bool)] }
noncomputable def f_spec_l1Cur_voteRows_j11o : Spec := { objs := [OSh.ro, OSh.box (114 : Nat) [Sh.sl (2 : Nat), Sh.int IntKind.i64, Sh.int IntKind.u64], OSh.fx (Ty.int IntKind.u8), OSh.row true (3 : Nat) (Ty.int IntKind.i64)], tmps := [((0 : Nat), TSh.at (Sh.ptr (1 : Nat) (0 : Nat))), ((3 : Nat), TSh.at (Sh.sl (3 : Nat))), ((4 : Nat), TSh.at (Sh.int IntKind.i64))] }
noncomputable def f_spec_l1Cur_voteRows_j11D : LoopDef (Tup r_spec_l1Cur_voteRows × OutD) := .plain f_spec_l1Cur_voteRows_j11i f_spec_l1Cur_voteRows_j11o (Int × Int × List Int × List Int × Int) (fun k x => f_spec_l1Cur_voteRows_j11 k x.1.2.1.2.1 x.1.2.1.2.2.1 x.1.2.2.1 x.1.2.2.2.1 x.2.2.2.1 x.2.2.2.2.1) (fun z => (((), ((), z.1, z.2.1, ()), z.2.2.1, z.2.2.2.1, ()), ((), (), z.2.2.2.2, ()))) (fun y => (y.1.2.1.2.1, y.1.2.1.2.2.1, y.1.2.2.1, y.1.2.2.2.1, y.2.2.2.1)) (fun _ => rfl)
noncomputable def f_spec_l1Cur_voteRows_0 : Nat → Int → Int → List Int → List Int → Int → Option (Int × Int × List Int × List Int × Int)
  | 0, _, _, _, _, _ => none
  | k + 1, b1_1, b1_2, o2, o3, v4 =>
    if decide ((↑(List.length o3) : Int) < v4) = true then Option.bind (f_spec_l1Cur_pick k (o2, b1_1, b1_2) (10 : Int)) fun z4 => if List.length o3 + List.length [Prod.fst z4] ≤ (140737488355328 / 8 : Nat) then f_spec_l1Cur_voteRows_0 k (Prod.fst (Prod.snd z4)) (Prod.snd (Prod.snd z4)) o2 (o3 ++ [Prod.fst z4]) v4 else none else some (b1_1, b1_2, o2, o3, v4)
noncomputable def f_spec_l1Cur_voteRows_0i : Spec := { objs := [OSh.ro, OSh.box (114 : Nat) [Sh.sl (2 : Nat), Sh.int IntKind.i64, Sh.int IntKind.u64], OSh.fx (Ty.int IntKind.u8), OSh.row true (3 : Nat) (Ty.int IntKind.i64)], tmps := [((0 : Nat), TSh.at (Sh.ptr (1 : Nat) (0 : Nat))), ((3 : Nat), TSh.at (Sh.sl (3 : Nat))), ((4 : Nat), TSh.at (Sh.int IntKind.i64))] }
noncomputable def f_spec_l1Cur_voteRows_0o : Spec := { objs := [OSh.ro, OSh.box (114 : Nat) [Sh.sl (2 : Nat), Sh.int IntKind.i64, Sh.int IntKind.u64], OSh.fx (Ty.int IntKind.u8), OSh.row true (3 : Nat) (Ty.int IntKind.i64)], tmps := [((0 : Nat), TSh.at (Sh.ptr (1 : Nat) (0 : Nat))), ((3 : Nat), TSh.at (Sh.sl (3 : Nat))), ((4 : Nat), TSh.at (Sh.int IntKind.i64))] }
noncomputable def f_spec_l1Cur_voteRows_0D : LoopDef (Tup r_spec_l1Cur_voteRows × OutD) := .plain f_spec_l1Cur_voteRows_0i f_spec_l1Cur_voteRows_0o (Int × Int × List Int × List Int × Int) (fun k x => f_spec_l1Cur_voteRows_0 k x.1.2.1.2.1 x.1.2.1.2.2.1 x.1.2.2.1 x.1.2.2.2.1 x.2.2.2.1) (fun z => (((), ((), z.1, z.2.1, ()), z.2.2.1, z.2.2.2.1, ()), ((), (), z.2.2.2.2, ()))) (fun y => (y.1.2.1.2.1, y.1.2.1.2.2.1, y.1.2.2.1, y.1.2.2.2.1, y.2.2.2.1)) (fun _ => rfl)
noncomputable def f_spec_l1Cur_voteRows_j28 : Nat → Int → Int → List Int → List Int → List (List Int) → Int → Int → Bool → Option (Int × Int × List Int × List Int × List (List Int) × Int × Int) := fun k b1_1 b1_2 o2 o3 o4 v4 v6 v28 =>
    if v28 = true then Option.bind (f_spec_l1Cur_among k (o2, b1_1, b1_2) [(0 : Int), (9 : Int), (10 : Int)]) fun z8 => some (Prod.fst (Prod.snd z8), Prod.snd (Prod.snd z8), o2, o3, o4, v4, Prod.fst z8) else some (b1_1, b1_2, o2, o3, o4, v4, v6)
noncomputable def f_spec_l1Cur_voteRows_j28i : Spec := { objs := [OSh.ro, OSh.box (114 : Nat) [Sh.sl (2 : Nat), Sh.int IntKind.i64, Sh.int IntKind.u64], OSh.fx (Ty.int IntKind.u8), OSh.row true (3 : Nat) (Ty.int IntKind.i64), OSh.row true (34 : Nat) (Ty.slice (3 : Nat) (Ty.int IntKind.i64))], tmps := [((0 : Nat), TSh.at (Sh.ptr (1 : Nat) (0 : Nat))), ((3 : Nat), TSh.at (Sh.sl (3 : Nat))), ((4 : Nat), TSh.at (Sh.int IntKind.i64)), ((5 : Nat), TSh.at (Sh.sl (4 : Nat))), ((6 : Nat), TSh.at (Sh.int IntKind.i64)), ((28 : Nat), TSh.at Sh.bool)] }
noncomputable def f_spec_l1Cur_voteRows_j28o : Spec := { objs := [OSh.ro, OSh.box (114 : Nat) [Sh.sl (2 : Nat), Sh.int IntKind.i64, Sh.int IntKind.u64], OSh.fx (Ty.int IntKind.u8), OSh.row true (3 : Nat) (Ty.int IntKind.i64), OSh.row true (34 : Nat) (Ty.slice (3 : Nat) (Ty.int IntKind.i64))], tmps := [((0 : Nat), TSh.at (Sh.ptr (1 : Nat) (0 : Nat))), ((3 : Nat), TSh.at (Sh.sl (3 : Nat))), ((4 : Nat), TSh.at (Sh.int IntKind.i64)), ((5 : Nat), TSh.at (Sh.sl (4 : Nat))), ((6 : Nat), TSh.at (Sh.int IntKind.i64))] }
noncomputable def f_spec_l1Cur_voteRows_j28D : LoopDef (Tup r_spec_l1Cur_voteRows × OutD) := .plain f_spec_l1Cur_voteRows_j28i f_spec_l1Cur_voteRows_j28o (Int × Int × List Int × List Int × List (List Int) × Int × Int) (fun k x => f_spec_l1Cur_voteRows_j28 k x.1.2.1.2.1 x.1.2.1.2.2.1 x.1.2.2.1 x.1.2.2.2.1 x.1.2.2.2.2.1 x.2.2.2.1 x.2.2.2.2.2.1 x.2.2.2.2.2.2.1) (fun z => (((), ((), z.1, z.2.1, ()), z.2.2.1, z.2.2.2.1, z.2.2.2.2.1, ()), ((), (), z.2.2.2.2.2.1, (), z.2.2.2.2.2.2, ()))) (fun y => (y.1.2.1.2.1, y.1.2.1.2.2.1, y.1.2.2.1, y.1.2.2.2.1, y.1.2.2.2.2.1, y.2.2.2.1, y.2.2.2.2.2.1)) (fun _ => rfl)
noncomputable def f_spec_l1Cur_voteRows_2 : Nat → Int → Int → List Int → List Int → List (List Int) → Int → Int → Option (Int × Int × List Int × List (List Int) × Int × Int)
  | 0, _, _, _, _, _, _, _ => none
  | k + 1, b1_1, b1_2, o2, o3, o4, v4, v6 =>
    if decide ((↑(List.length o4) : Int) < v6) = true then Option.bind (f_spec_l1Own k o3) fun z10 => if decide (v4 > (0 : Int)) = true then Option.bind (f_spec_l1Cur_one k (o2, b1_1, b1_2) (3 : Int)) fun z11 => if Prod.fst z11 = true then Option.bind (f_spec_l1Cur_pick k (o2, Prod.fst (Prod.snd z11), Prod.snd (Prod.snd z11)) v4) fun z12 => Option.bind (f_spec_l1Cur_pick k (o2, Prod.fst (Prod.snd z12), Prod.snd (Prod.snd z12)) (10 : Int)) fun z13 => if (0 : Int) ≤ Prod.fst z12 then if Prod.fst z12 < (↑(List.length z10) : Int) then if List.length o4 + List.length [List.set z10 (Int.toNat (Prod.fst z12)) (Prod.fst z13)] ≤ (140737488355328 / 24 : Nat) then f_spec_l1Cur_voteRows_2 k (Prod.fst (Prod.snd z13)) (Prod.snd (Prod.snd z13)) o2 o3 (o4 ++ [List.set z10 (Int.toNat (Prod.fst z12)) (Prod.fst z13)]) v4 v6 else none else none else none else if List.length o4 + List.length [z10] ≤ (140737488355328 / 24 : Nat) then f_spec_l1Cur_voteRows_2 k (Prod.fst (Prod.snd z11)) (Prod.snd (Prod.snd z11)) o2 o3 (o4 ++ [z10]) v4 v6 else none else if List.length o4 + List.length [z10] ≤ (140737488355328 / 24 : Nat) then f_spec_l1Cur_voteRows_2 k b1_1 b1_2 o2 o3 (o4 ++ [z10]) v4 v6 else none else some (b1_1, b1_2, o2, o4, v4, v6)
noncomputable def f_spec_l1Cur_voteRows_2i : Spec := { objs := [OSh.ro, OSh.box (114 : Nat) [Sh.sl (2 : Nat), Sh.int IntKind.i64, Sh.int IntKind.u64], OSh.fx (Ty.int IntKind.u8), OSh.row true (3 : Nat) (Ty.int IntKind.i64), OSh.row true (34 : Nat) (Ty.slice (3 : Nat) (Ty.int IntKind.i64))], tmps := [((0 : Nat), TSh.at (Sh.ptr (1 : Nat) (0 : Nat))), ((3 : Nat), TSh.at (Sh.sl (3 : Nat))), ((4 : Nat), TSh.at (Sh.int IntKind.i64)), ((5 : Nat), TSh.at (Sh.sl (4 : Nat))), ((6 : Nat), TSh.at (Sh.int IntKind.i64))] }
noncomputable def f_spec_l1Cur_voteRows_2o : Spec := { objs := [OSh.ro, OSh.box (114 : Nat) [Sh.sl (2 : Nat), Sh.int IntKind.i64, Sh.int IntKind.u64], OSh.fx (Ty.int IntKind.u8), OSh.row true (34 : Nat) (Ty.slice (3 : Nat) (Ty.int IntKind.i64))], tmps := [((0 : Nat), TSh.at (Sh.ptr (1 : Nat) (0 : Nat))), ((4 : Nat), TSh.at (Sh.int IntKind.i64)), ((5 : Nat), TSh.at (Sh.sl (3 : Nat))), ((6 : Nat), TSh.at (Sh.int IntKind.i64))] }
noncomputable def f_spec_l1Cur_voteRows_2D : LoopDef (Tup r_spec_l1Cur_voteRows × OutD) := .plain f_spec_l1Cur_voteRows_2i f_spec_l1Cur_voteRows_2o (Int × Int × List Int × List (List Int) × Int × Int) (fun k x => f_spec_l1Cur_voteRows_2 k x.1.2.1.2.1 x.1.2.1.2.2.1 x.1.2.2.1 x.1.2.2.2.1 x.1.2.2.2.2.1 x.2.2.2.1 x.2.2.2.2.2.1) (fun z => (((), ((), z.1, z.2.1, ()), z.2.2.1, z.2.2.2.1, ()), ((), z.2.2.2.2.1, (), z.2.2.2.2.2, ()))) (fun y => (y.1.2.1.2.1, y.1.2.1.2.2.1, y.1.2.2.1, y.1.2.2.2.1, y.2.2.1, y.2.2.2.2.1)) (fun _ => rfl)
noncomputable def f_spec_l1Cur_voteRows_g19 : Nat → Int → Int → List Int → List (List Int) → Option (Int × Int × List Int × List (List Int)) := fun k b1_1 b1_2 o2 o3 =>
    if (0 : Int) < (↑(List.length o3) : Int) then Option.bind (f_spec_l1Cur_among k (o2, b1_1, b1_2) [(-1 : Int), (10 : Int)]) fun z16 => if (0 : Int) < (↑(List.length (List.getD o3 (Int.toNat (0 : Int)) [])) : Int) then some (Prod.fst (Prod.snd z16), Prod.snd (Prod.snd z16), o2, List.set o3 (Int.toNat (0 : Int)) (List.set (List.getD o3 (Int.toNat (0 : Int)) []) (Int.toNat (0 : Int)) (Prod.fst z16))) else none else none
noncomputable def f_spec_l1Cur_voteRows_g19A : Nat → Int → Int → List Int → List (List Int) → Option (List (Int × Int × List Int × List (List Int))) := fun k b1_1 b1_2 o2 o3 =>
    if (0 : Int) < (↑(List.length o3) : Int) then joinL (Option.bind (f_spec_l1Cur_among k (o2, b1_1, b1_2) [(-1 : Int), (10 : Int)]) fun z17 => if (0 : Int) < (↑(List.length (List.getD o3 (Int.toNat (0 : Int)) [])) : Int) then some [(Prod.fst (Prod.snd z17), Prod.snd (Prod.snd z17), o2, List.set o3 (Int.toNat (0 : Int)) (List.set (List.getD o3 (Int.toNat (0 : Int)) []) (Int.toNat (0 : Int)) (Prod.fst z17)))] else none) (joinL (Option.bind (f_spec_l1Cur_among k (o2, b1_1, b1_2) [(-1 : Int), (10 : Int)]) fun z18 => if (0 : Int) < (↑(List.length (List.getD o3 (Int.toNat (0 : Int)) [])) : Int) then some [(Prod.fst (Prod.snd z18), Prod.snd (Prod.snd z18), o2, List.set o3 (Int.toNat (0 : Int)) (List.set (List.getD o3 (Int.toNat (0 : Int)) []) (Int.toNat (0 : Int)) (Prod.fst z18)))] else none) (Option.bind (f_spec_l1Cur_among k (o2, b1_1, b1_2) [(-1 : Int), (10 : Int)]) fun z19 => if (0 : Int) < (↑(List.length (List.getD o3 (Int.toNat (0 : Int)) [])) : Int) then some [(Prod.fst (Prod.snd z19), Prod.snd (Prod.snd z19), o2, List.set o3 (Int.toNat (0 : Int)) (List.set (List.getD o3 (Int.toNat (0 : Int)) []) (Int.toNat (0 : Int)) (Prod.fst z19)))] else none)) else none
noncomputable def f_spec_l1Cur_voteRows_g19i : Spec := { objs := [OSh.ro, OSh.box (114 : Nat) [Sh.sl (2 : Nat), Sh.int IntKind.i64, Sh.int IntKind.u64], OSh.fx (Ty.int IntKind.u8), OSh.row true (34 : Nat) (Ty.slice (3 : Nat) (Ty.int IntKind.i64))], tmps := [((0 : Nat), TSh.at (Sh.ptr (1 : Nat) (0 : Nat))), ((5 : Nat), TSh.at (Sh.sl (3 : Nat)))] }
noncomputable def f_spec_l1Cur_voteRows_g19o : Spec := { objs := [OSh.ro, OSh.box (114 : Nat) [Sh.sl (2 : Nat), Sh.int IntKind.i64, Sh.int IntKind.u64], OSh.fx (Ty.int IntKind.u8), OSh.row true (34 : Nat) (Ty.slice (3 : Nat) (Ty.int IntKind.i64))], tmps := [((5 : Nat), TSh.at (Sh.sl (3 : Nat)))] }
noncomputable def f_spec_l1Cur_voteRows_g19D : LoopDef (Tup r_spec_l1Cur_voteRows × OutD) := .plain f_spec_l1Cur_voteRows_g19i f_spec_l1Cur_voteRows_g19o (Int × Int × List Int × List (List Int)) (fun k x => f_spec_l1Cur_voteRows_g19 k x.1.2.1.2.1 x.1.2.1.2.2.1 x.1.2.2.1 x.1.2.2.2.1) (fun z => (((), ((), z.1, z.2.1, ()), z.2.2.1, z.2.2.2, ()), ((), ()))) (fun y => (y.1.2.1.2.1, y.1.2.1.2.2.1, y.1.2.2.1, y.1.2.2.2.1)) (fun _ => rfl)
theorem f_spec_l1Cur_voteRows_g19j (k : Nat) (b1_1 : Int) (b1_2 : Int) (o2 : List Int) (o3 : List (List Int)) : f_spec_l1Cur_voteRows_g19A k b1_1 b1_2 o2 o3 = repl 3 (f_spec_l1Cur_voteRows_g19 k b1_1 b1_2 o2 o3) := by
  first
  | (simp only [f_spec_l1Cur_voteRows_g19A, f_spec_l1Cur_voteRows_g19, repl_some, repl_ite, repl_ite0, repl_ite1, repl_bind, joinL_repl, if_true]; done)
  | (simp only [f_spec_l1Cur_voteRows_g19A, f_spec_l1Cur_voteRows_g19, repl_some, repl_ite, repl_ite0, repl_ite1, repl_bind, joinL_repl, if_true]; simp only [joinL_grdl, joinL_grdr, repl_grd, joinL_repl]; simp only [grd_and]; exact grd_congr ⟨fun h => by simp only [h, and_self], fun h => by simp only [h, and_self]⟩)
noncomputable def f_spec_l1Cur_voteRows : Nat → List Int × Int × Int → Option (List (List Int) × Int × Int)
  | 0, _ => none
  | k + 1, p0 =>
    Option.bind (f_spec_l1Cur_pick k (Prod.fst p0, Prod.fst (Prod.snd p0), Prod.snd (Prod.snd p0)) (6 : Int)) fun z0 => Option.bind (f_spec_l1Cur_one k (Prod.fst p0, Prod.fst (Prod.snd z0), Prod.snd (Prod.snd z0)) (20 : Int)) fun z1 => Option.bind (f_spec_l1Cur_voteRows_j11 k (Prod.fst (Prod.snd z1)) (Prod.snd (Prod.snd z1)) (Prod.fst p0) [] (Prod.fst z0) (Prod.fst z1)) fun z3 => Option.bind (f_spec_l1Cur_voteRows_0 k (Prod.fst z3) (Prod.fst (Prod.snd z3)) (Prod.fst (Prod.snd (Prod.snd z3))) (Prod.fst (Prod.snd (Prod.snd (Prod.snd z3)))) (Prod.snd (Prod.snd (Prod.snd (Prod.snd z3))))) fun z5 => Option.bind (f_spec_l1Cur_pick k (Prod.fst (Prod.snd (Prod.snd z5)), Prod.fst z5, Prod.fst (Prod.snd z5)) (5 : Int)) fun z6 => Option.bind (f_spec_l1Cur_one k (Prod.fst (Prod.snd (Prod.snd z5)), Prod.fst (Prod.snd z6), Prod.snd (Prod.snd z6)) (16 : Int)) fun z7 => Option.bind (f_spec_l1Cur_voteRows_j28 k (Prod.fst (Prod.snd z7)) (Prod.snd (Prod.snd z7)) (Prod.fst (Prod.snd (Prod.snd z5))) (Prod.fst (Prod.snd (Prod.snd (Prod.snd z5)))) [] (Prod.snd (Prod.snd (Prod.snd (Prod.snd z5)))) (wrap64 ((1 : Int) + Prod.fst z6)) (Prod.fst z7)) fun z9 => Option.bind (f_spec_l1Cur_voteRows_2 k (Prod.fst z9) (Prod.fst (Prod.snd z9)) (Prod.fst (Prod.snd (Prod.snd z9))) (Prod.fst (Prod.snd (Prod.snd (Prod.snd z9)))) (Prod.fst (Prod.snd (Prod.snd (Prod.snd (Prod.snd z9))))) (Prod.fst (Prod.snd (Prod.snd (Prod.snd (Prod.snd (Prod.snd z9)))))) (Prod.snd (Prod.snd (Prod.snd (Prod.snd (Prod.snd (Prod.snd z9))))))) fun z14 => if decide (Prod.snd (Prod.snd (Prod.snd (Prod.snd (Prod.snd z14)))) > (0 : Int)) = true then if decide (Prod.fst (Prod.snd (Prod.snd (Prod.snd (Prod.snd z14)))) > (0 : Int)) = true then Option.bind (f_spec_l1Cur_pick k (Prod.fst (Prod.snd (Prod.snd z14)), Prod.fst z14, Prod.fst (Prod.snd z14)) (24 : Int)) fun z15 => if decide (Prod.fst z15 = (0 : Int)) = true then Option.bind (f_spec_l1Cur_voteRows_g19 k (Prod.fst (Prod.snd z15)) (Prod.snd (Prod.snd z15)) (Prod.fst (Prod.snd (Prod.snd z14))) (Prod.fst (Prod.snd (Prod.snd (Prod.snd z14))))) fun z20 => some (Prod.snd (Prod.snd (Prod.snd z20)), Prod.fst z20, Prod.fst (Prod.snd z20)) else if decide (Prod.fst z15 = (1 : Int)) = true then if (0 : Int) ≤ wrap64 (Prod.snd (Prod.snd (Prod.snd (Prod.snd (Prod.snd z14)))) - (1 : Int)) then if wrap64 (Prod.snd (Prod.snd (Prod.snd (Prod.snd (Prod.snd z14)))) - (1 : Int)) < (↑(List.length (Prod.fst (Prod.snd (Prod.snd (Prod.snd z14))))) : Int) then if (1 : Int) ≤ (↑(List.length (List.getD (Prod.fst (Prod.snd (Prod.snd (Prod.snd z14)))) (Int.toNat (wrap64 (Prod.snd (Prod.snd (Prod.snd (Prod.snd (Prod.snd z14)))) - (1 : Int)))) [])) : Int) then if (↑(List.length (List.getD (Prod.fst (Prod.snd (Prod.snd (Prod.snd z14)))) (Int.toNat (wrap64 (Prod.snd (Prod.snd (Prod.snd (Prod.snd (Prod.snd z14)))) - (1 : Int)))) [])) : Int) ≤ (↑(List.length (List.getD (Prod.fst (Prod.snd (Prod.snd (Prod.snd z14)))) (Int.toNat (wrap64 (Prod.snd (Prod.snd (Prod.snd (Prod.snd (Prod.snd z14)))) - (1 : Int)))) [])) : Int) then if (0 : Int) ≤ wrap64 (Prod.snd (Prod.snd (Prod.snd (Prod.snd (Prod.snd z14)))) - (1 : Int)) then if wrap64 (Prod.snd (Prod.snd (Prod.snd (Prod.snd (Prod.snd z14)))) - (1 : Int)) < (↑(List.length (Prod.fst (Prod.snd (Prod.snd (Prod.snd z14))))) : Int) then if wrap64 (Prod.snd (Prod.snd (Prod.snd (Prod.snd (Prod.snd z14)))) - (1 : Int)) = wrap64 (Prod.snd (Prod.snd (Prod.snd (Prod.snd (Prod.snd z14)))) - (1 : Int)) then some (List.set (Prod.fst (Prod.snd (Prod.snd (Prod.snd z14)))) (Int.toNat (wrap64 (Prod.snd (Prod.snd (Prod.snd (Prod.snd (Prod.snd z14)))) - (1 : Int)))) (List.drop (Int.toNat (1 : Int)) (List.getD (Prod.fst (Prod.snd (Prod.snd (Prod.snd z14)))) (Int.toNat (wrap64 (Prod.snd (Prod.snd (Prod.snd (Prod.snd (Prod.snd z14)))) - (1 : Int)))) [])), Prod.fst (Prod.snd z15), Prod.snd (Prod.snd z15)) else none else none else none else none else none else none else none else some (Prod.fst (Prod.snd (Prod.snd (Prod.snd z14))), Prod.fst (Prod.snd z15), Prod.snd (Prod.snd z15)) else some (Prod.fst (Prod.snd (Prod.snd (Prod.snd z14))), Prod.fst z14, Prod.fst (Prod.snd z14)) else some (Prod.fst (Prod.snd (Prod.snd (Prod.snd z14))), Prod.fst z14, Prod.fst (Prod.snd z14))
noncomputable def d_spec_l1Cur_voteRows : FnDef := .of q_spec_l1Cur_voteRows r_spec_l1Cur_voteRows (List (List Int) × Int × Int) (fun k x => f_spec_l1Cur_voteRows k x.1) to_spec_l1Cur_voteRows of_spec_l1Cur_voteRows to_of_spec_l1Cur_voteRows
noncomputable def c_spec_l1Cur_voteRows : Code := Try.f102.body.getD .skip
noncomputable def x_spec_l1Cur_voteRows : Ctx (Tup r_spec_l1Cur_voteRows × OutD) := { T := T, G := [(111, d_spec_l1Cur_pick.E), (150, d_spec_l1Cur_one.E), (90, d_spec_l1Cur_among.E), (174, d_spec_l1Own.E)], mvs := [71, 82], no := 2, n := 85, res := resOf T q_spec_l1Cur_voteRows r_spec_l1Cur_voteRows Try.f102.results.toList, loops := [(0, f_spec_l1Cur_voteRows_0D.E), (2, f_spec_l1Cur_voteRows_2D.E)], regs := [(19, f_spec_l1Cur_voteRows_g19D.E)], conds := [(11, f_spec_l1Cur_voteRows_j11D.E), (28, f_spec_l1Cur_voteRows_j28D.E)] }
theorem g_spec_l1Cur_voteRows (k : Nat) : EnvOK Try.prog k x_spec_l1Cur_voteRows.G := (EnvOK.cons (s_spec_l1Cur_pick k) (EnvOK.cons (s_spec_l1Cur_one k) (EnvOK.cons (s_spec_l1Cur_among k) (EnvOK.cons (s_spec_l1Own k) (EnvOK.nil mixed)))))
noncomputable def f_spec_l1Cur_voteRows_g19O : Array Oper := (findReg 19 c_spec_l1Cur_voteRows).getD #[]
theorem f_spec_l1Cur_voteRows_g19e (k : Nat) (x : f_spec_l1Cur_voteRows_g19i.D) : execD x_spec_l1Cur_voteRows.T x_spec_l1Cur_voteRows.G x_spec_l1Cur_voteRows.mvs k f_spec_l1Cur_voteRows_g19O (f_spec_l1Cur_voteRows_g19D.inp.st x_spec_l1Cur_voteRows.n x) (outK x_spec_l1Cur_voteRows f_spec_l1Cur_voteRows_g19D) = f_spec_l1Cur_voteRows_g19A k x.1.2.1.2.1 x.1.2.1.2.2.1 x.1.2.2.1 x.1.2.2.2.1 := by kernel_rfl
theorem f_spec_l1Cur_voteRows_g19ok (k : Nat) : EOK Try.prog x_spec_l1Cur_voteRows k f_spec_l1Cur_voteRows_g19D.E (.region 19 f_spec_l1Cur_voteRows_g19O true) := reg_ok (D := f_spec_l1Cur_voteRows_g19D) (m := 3) T_ok (g_spec_l1Cur_voteRows k) (fun x => (f_spec_l1Cur_voteRows_g19e k x).trans (f_spec_l1Cur_voteRows_g19j k x.1.2.1.2.1 x.1.2.1.2.2.1 x.1.2.2.1 x.1.2.2.2.1))
noncomputable def f_spec_l1Cur_voteRows_j11X : Code := ((findCond 11 c_spec_l1Cur_voteRows).map (·.1)).getD .skip
noncomputable def f_spec_l1Cur_voteRows_j11Y : Code := ((findCond 11 c_spec_l1Cur_voteRows).map (·.2)).getD .skip
theorem f_spec_l1Cur_voteRows_j11h (k : Nat) (i : f_spec_l1Cur_voteRows_j11D.inp.D) : f_spec_l1Cur_voteRows_j11D.lp k i = branch (f_spec_l1Cur_voteRows_j11D.inp.st x_spec_l1Cur_voteRows.n i) (.tmp 11) (fun st => exec x_spec_l1Cur_voteRows k f_spec_l1Cur_voteRows_j11X st (outK x_spec_l1Cur_voteRows f_spec_l1Cur_voteRows_j11D) (fun _ _ => none) f_spec_l1Cur_voteRows_j11D.mkB) (fun st => exec x_spec_l1Cur_voteRows k f_spec_l1Cur_voteRows_j11Y st (outK x_spec_l1Cur_voteRows f_spec_l1Cur_voteRows_j11D) (fun _ _ => none) f_spec_l1Cur_voteRows_j11D.mkB) := by kernel_rfl
theorem f_spec_l1Cur_voteRows_j11ok (k : Nat) : EOK Try.prog x_spec_l1Cur_voteRows k f_spec_l1Cur_voteRows_j11D.E (.cond (.tmp 11) f_spec_l1Cur_voteRows_j11X f_spec_l1Cur_voteRows_j11Y) := join_ok (D := f_spec_l1Cur_voteRows_j11D) T_ok (g_spec_l1Cur_voteRows k) (f_spec_l1Cur_voteRows_j11h k) (LOK.by [] (by kernel_rfl) AllOK.nil) (LOK.by [] (by kernel_rfl) AllOK.nil)
noncomputable def f_spec_l1Cur_voteRows_0B : Code := (findLoop 0 c_spec_l1Cur_voteRows).getD .skip
theorem f_spec_l1Cur_voteRows_0h (k : Nat) (x : f_spec_l1Cur_voteRows_0i.D) : f_spec_l1Cur_voteRows_0D.lp (k + 1) x = loopK x_spec_l1Cur_voteRows f_spec_l1Cur_voteRows_0D 0 f_spec_l1Cur_voteRows_0B k x := by kernel_rfl
theorem f_spec_l1Cur_voteRows_0l (k : Nat) : LOK Try.prog x_spec_l1Cur_voteRows k f_spec_l1Cur_voteRows_0B := LOK.by [] (by kernel_rfl) AllOK.nil
theorem f_spec_l1Cur_voteRows_0z (x : f_spec_l1Cur_voteRows_0i.D) : f_spec_l1Cur_voteRows_0D.lp 0 x = none := by kernel_rfl
theorem f_spec_l1Cur_voteRows_0ok (k : Nat) : EOK Try.prog x_spec_l1Cur_voteRows k f_spec_l1Cur_voteRows_0D.E (.block 0 (.loop f_spec_l1Cur_voteRows_0B)) := loop_ok T_ok g_spec_l1Cur_voteRows f_spec_l1Cur_voteRows_0z f_spec_l1Cur_voteRows_0h f_spec_l1Cur_voteRows_0l k
noncomputable def f_spec_l1Cur_voteRows_j28X : Code := ((findCond 28 c_spec_l1Cur_voteRows).map (·.1)).getD .skip
noncomputable def f_spec_l1Cur_voteRows_j28Y : Code := ((findCond 28 c_spec_l1Cur_voteRows).map (·.2)).getD .skip
theorem f_spec_l1Cur_voteRows_j28h (k : Nat) (i : f_spec_l1Cur_voteRows_j28D.inp.D) : f_spec_l1Cur_voteRows_j28D.lp k i = branch (f_spec_l1Cur_voteRows_j28D.inp.st x_spec_l1Cur_voteRows.n i) (.tmp 28) (fun st => exec x_spec_l1Cur_voteRows k f_spec_l1Cur_voteRows_j28X st (outK x_spec_l1Cur_voteRows f_spec_l1Cur_voteRows_j28D) (fun _ _ => none) f_spec_l1Cur_voteRows_j28D.mkB) (fun st => exec x_spec_l1Cur_voteRows k f_spec_l1Cur_voteRows_j28Y st (outK x_spec_l1Cur_voteRows f_spec_l1Cur_voteRows_j28D) (fun _ _ => none) f_spec_l1Cur_voteRows_j28D.mkB) := by kernel_rfl
theorem f_spec_l1Cur_voteRows_j28ok (k : Nat) : EOK Try.prog x_spec_l1Cur_voteRows k f_spec_l1Cur_voteRows_j28D.E (.cond (.tmp 28) f_spec_l1Cur_voteRows_j28X f_spec_l1Cur_voteRows_j28Y) := join_ok (D := f_spec_l1Cur_voteRows_j28D) T_ok (g_spec_l1Cur_voteRows k) (f_spec_l1Cur_voteRows_j28h k) (LOK.by [] (by kernel_rfl) AllOK.nil) (LOK.by [] (by kernel_rfl) AllOK.nil)
noncomputable def f_spec_l1Cur_voteRows_2B : Code := (findLoop 2 c_spec_l1Cur_voteRows).getD .skip
theorem f_spec_l1Cur_voteRows_2h (k : Nat) (x : f_spec_l1Cur_voteRows_2i.D) : f_spec_l1Cur_voteRows_2D.lp (k + 1) x = loopK x_spec_l1Cur_voteRows f_spec_l1Cur_voteRows_2D 2 f_spec_l1Cur_voteRows_2B k x := by kernel_rfl
theorem f_spec_l1Cur_voteRows_2l (k : Nat) : LOK Try.prog x_spec_l1Cur_voteRows k f_spec_l1Cur_voteRows_2B := LOK.by [] (by kernel_rfl) AllOK.nil
theorem f_spec_l1Cur_voteRows_2z (x : f_spec_l1Cur_voteRows_2i.D) : f_spec_l1Cur_voteRows_2D.lp 0 x = none := by kernel_rfl
theorem f_spec_l1Cur_voteRows_2ok (k : Nat) : EOK Try.prog x_spec_l1Cur_voteRows k f_spec_l1Cur_voteRows_2D.E (.block 2 (.loop f_spec_l1Cur_voteRows_2B)) := loop_ok T_ok g_spec_l1Cur_voteRows f_spec_l1Cur_voteRows_2z f_spec_l1Cur_voteRows_2h f_spec_l1Cur_voteRows_2l k
theorem h_spec_l1Cur_voteRows (k : Nat) (x : Tup d_spec_l1Cur_voteRows.ps) : d_spec_l1Cur_voteRows.f (k + 1) x = fnK d_spec_l1Cur_voteRows x_spec_l1Cur_voteRows c_spec_l1Cur_voteRows k x := by kernel_rfl
theorem z_spec_l1Cur_voteRows (x : Tup d_spec_l1Cur_voteRows.ps) : d_spec_l1Cur_voteRows.f 0 x = none := by kernel_rfl
theorem l_spec_l1Cur_voteRows (k : Nat) : LOK Try.prog x_spec_l1Cur_voteRows k c_spec_l1Cur_voteRows := LOK.by [(f_spec_l1Cur_voteRows_j11D.E, .cond (.tmp 11) f_spec_l1Cur_voteRows_j11X f_spec_l1Cur_voteRows_j11Y), (f_spec_l1Cur_voteRows_0D.E, .block 0 (.loop f_spec_l1Cur_voteRows_0B)), (f_spec_l1Cur_voteRows_j28D.E, .cond (.tmp 28) f_spec_l1Cur_voteRows_j28X f_spec_l1Cur_voteRows_j28Y), (f_spec_l1Cur_voteRows_2D.E, .block 2 (.loop f_spec_l1Cur_voteRows_2B)), (f_spec_l1Cur_voteRows_g19D.E, .region 19 f_spec_l1Cur_voteRows_g19O true)] (by kernel_rfl) (AllOK.cons (f_spec_l1Cur_voteRows_j11ok k) (AllOK.cons (f_spec_l1Cur_voteRows_0ok k) (AllOK.cons (f_spec_l1Cur_voteRows_j28ok k) (AllOK.cons (f_spec_l1Cur_voteRows_2ok k) (AllOK.cons (f_spec_l1Cur_voteRows_g19ok k) AllOK.nil)))))
theorem s_spec_l1Cur_voteRows (k : Nat) : SoundAt Try.prog k 102 d_spec_l1Cur_voteRows.E := @fn_all Try.prog d_spec_l1Cur_voteRows x_spec_l1Cur_voteRows 102 Try.f102 c_spec_l1Cur_voteRows (by kernel_rfl) (by kernel_rfl) (by kernel_rfl) Try.func102 (by kernel_rfl) (by kernel_rfl) (by kernel_rfl) T_ok g_spec_l1Cur_voteRows l_spec_l1Cur_voteRows z_spec_l1Cur_voteRows h_spec_l1Cur_voteRows k
end
end Go.Proofs.Ytgjmhbjdhihgaaa.Vs

set_option maxRecDepth 100000
set_option maxHeartbeats 2000000
set_option linter.unusedVariables false
set_option linter.unusedSimpArgs false
namespace Go.Proofs.Ytgjmhbjdhihgaaa.Vs
open Go.RowKit
noncomputable section
/-! function 18 -/
noncomputable def r_spec_DrawMostVoted : List PK := [{ t := Ty.slice (3 : Nat) (Ty.int IntKind.i64) }]
noncomputable def q_spec_DrawMostVoted : List PK := [{ t := Ty.slice (5 : Nat) (Ty.int IntKind.u8) }]
noncomputable def to_spec_DrawMostVoted (r : List Int) : Tup r_spec_DrawMostVoted × OutD := ((r, ()), none)
noncomputable def of_spec_DrawMostVoted : Tup r_spec_DrawMostVoted × OutD → Option (List Int)
  | (a, none) => some (a.1)
  | _ => none
theorem to_of_spec_DrawMostVoted : ∀ b r, of_spec_DrawMostVoted b = some r → to_spec_DrawMostVoted r = b := by
  rintro ⟨a, o⟩ r h
  cases o with
  | none => injection h with h; subst h; rfl
  | some _ => cases h
noncomputable def f_spec_DrawMostVoted : Nat → List Int → Option (List Int)
  | 0, _ => none
  | k + 1, p0 =>
    Option.bind (f_spec_l1Cur_votes k (p0, (0 : Int), (0 : Int))) fun z0 => some (Prod.fst z0)
noncomputable def d_spec_DrawMostVoted : FnDef := .of q_spec_DrawMostVoted r_spec_DrawMostVoted (List Int) (fun k x => f_spec_DrawMostVoted k x.1) to_spec_DrawMostVoted of_spec_DrawMostVoted to_of_spec_DrawMostVoted
noncomputable def c_spec_DrawMostVoted : Code := Try.f18.body.getD .skip
noncomputable def x_spec_DrawMostVoted : Ctx (Tup r_spec_DrawMostVoted × OutD) := { T := T, G := [(97, d_spec_l1Cur_votes.E)], mvs := [], no := 0, n := 9, res := resOf T q_spec_DrawMostVoted r_spec_DrawMostVoted Try.f18.results.toList, loops := [], regs := [], conds := [] }
theorem g_spec_DrawMostVoted (k : Nat) : EnvOK Try.prog k x_spec_DrawMostVoted.G := (EnvOK.cons (s_spec_l1Cur_votes k) (EnvOK.nil mixed))
theorem h_spec_DrawMostVoted (k : Nat) (x : Tup d_spec_DrawMostVoted.ps) : d_spec_DrawMostVoted.f (k + 1) x = fnK d_spec_DrawMostVoted x_spec_DrawMostVoted c_spec_DrawMostVoted k x := by kernel_rfl
theorem z_spec_DrawMostVoted (x : Tup d_spec_DrawMostVoted.ps) : d_spec_DrawMostVoted.f 0 x = none := by kernel_rfl
theorem l_spec_DrawMostVoted (k : Nat) : LOK Try.prog x_spec_DrawMostVoted k c_spec_DrawMostVoted := LOK.by [] (by kernel_rfl) AllOK.nil
theorem s_spec_DrawMostVoted (k : Nat) : SoundAt Try.prog k 18 d_spec_DrawMostVoted.E := @fn_all Try.prog d_spec_DrawMostVoted x_spec_DrawMostVoted 18 Try.f18 c_spec_DrawMostVoted (by kernel_rfl) (by kernel_rfl) (by kernel_rfl) Try.func18 (by kernel_rfl) (by kernel_rfl) (by kernel_rfl) T_ok g_spec_DrawMostVoted l_spec_DrawMostVoted z_spec_DrawMostVoted h_spec_DrawMostVoted k
/-! function 24 -/
noncomputable def r_spec_DrawVotedRows : List PK := [{ t := Ty.slice (34 : Nat) (Ty.slice (3 : Nat) (Ty.int IntKind.i64)) }]
noncomputable def q_spec_DrawVotedRows : List PK := [{ t := Ty.slice (5 : Nat) (Ty.int IntKind.u8) }]
noncomputable def to_spec_DrawVotedRows (r : List (List Int)) : Tup r_spec_DrawVotedRows × OutD := ((r, ()), none)
noncomputable def of_spec_DrawVotedRows : Tup r_spec_DrawVotedRows × OutD → Option (List (List Int))
  | (a, none) => some (a.1)
  | _ => none
theorem to_of_spec_DrawVotedRows : ∀ b r, of_spec_DrawVotedRows b = some r → to_spec_DrawVotedRows r = b := by
  rintro ⟨a, o⟩ r h
  cases o with
  | none => injection h with h; subst h; rfl
  | some _ => cases h
noncomputable def f_spec_DrawVotedRows : Nat → List Int → Option (List (List Int))
  | 0, _ => none
  | k + 1, p0 =>
    Option.bind (f_spec_l1Cur_voteRows k (p0, (0 : Int), (0 : Int))) fun z0 => some (Prod.fst z0)
noncomputable def d_spec_DrawVotedRows : FnDef := .of q_spec_DrawVotedRows r_spec_DrawVotedRows (List (List Int)) (fun k x => f_spec_DrawVotedRows k x.1) to_spec_DrawVotedRows of_spec_DrawVotedRows to_of_spec_DrawVotedRows
noncomputable def c_spec_DrawVotedRows : Code := Try.f24.body.getD .skip
noncomputable def x_spec_DrawVotedRows : Ctx (Tup r_spec_DrawVotedRows × OutD) := { T := T, G := [(102, d_spec_l1Cur_voteRows.E)], mvs := [], no := 0, n := 9, res := resOf T q_spec_DrawVotedRows r_spec_DrawVotedRows Try.f24.results.toList, loops := [], regs := [], conds := [] }
theorem g_spec_DrawVotedRows (k : Nat) : EnvOK Try.prog k x_spec_DrawVotedRows.G := (EnvOK.cons (s_spec_l1Cur_voteRows k) (EnvOK.nil mixed))
theorem h_spec_DrawVotedRows (k : Nat) (x : Tup d_spec_DrawVotedRows.ps) : d_spec_DrawVotedRows.f (k + 1) x = fnK d_spec_DrawVotedRows x_spec_DrawVotedRows c_spec_DrawVotedRows k x := by kernel_rfl
theorem z_spec_DrawVotedRows (x : Tup d_spec_DrawVotedRows.ps) : d_spec_DrawVotedRows.f 0 x = none := by kernel_rfl
theorem l_spec_DrawVotedRows (k : Nat) : LOK Try.prog x_spec_DrawVotedRows k c_spec_DrawVotedRows := LOK.by [] (by kernel_rfl) AllOK.nil
theorem s_spec_DrawVotedRows (k : Nat) : SoundAt Try.prog k 24 d_spec_DrawVotedRows.E := @fn_all Try.prog d_spec_DrawVotedRows x_spec_DrawVotedRows 24 Try.f24 c_spec_DrawVotedRows (by kernel_rfl) (by kernel_rfl) (by kernel_rfl) Try.func24 (by kernel_rfl) (by kernel_rfl) (by kernel_rfl) T_ok g_spec_DrawVotedRows l_spec_DrawVotedRows z_spec_DrawVotedRows h_spec_DrawVotedRows k
/-! function 33 -/
noncomputable def r_spec_DrawWeightedVote : List PK := [{ t := Ty.slice (3 : Nat) (Ty.int IntKind.i64) }, { t := Ty.slice (3 : Nat) (Ty.int IntKind.i64) }]
noncomputable def q_spec_DrawWeightedVote : List PK := [{ t := Ty.slice (5 : Nat) (Ty.int IntKind.u8) }]
noncomputable def to_spec_DrawWeightedVote (r : List Int × List Int) : Tup r_spec_DrawWeightedVote × OutD := ((r.1, r.2, ()), none)
noncomputable def of_spec_DrawWeightedVote : Tup r_spec_DrawWeightedVote × OutD → Option (List Int × List Int)
  | (a, none) => some (a.1, a.2.1)
  | _ => none
theorem to_of_spec_DrawWeightedVote : ∀ b r, of_spec_DrawWeightedVote b = some r → to_spec_DrawWeightedVote r = b := by
  rintro ⟨a, o⟩ r h
  cases o with
  | none => injection h with h; subst h; rfl
  | some _ => cases h
noncomputable def f_spec_DrawWeightedVote_0 : Nat → List Int → Int → Int → List Int → List Int → Int → Int → Option (List Int × Int × Int × List Int × List Int)
  | 0, _, _, _, _, _, _, _ => none
  | k + 1, b1_0, b1_1, b1_2, o2, o3, v13, v14 =>
    if decide (v14 < v13) = true then Option.bind (f_spec_l1Cur_pick k (b1_0, b1_1, b1_2) (30 : Int)) fun z1 => Option.bind (f_spec_l1Cur_among k (b1_0, Prod.fst (Prod.snd z1), Prod.snd (Prod.snd z1)) [(0 : Int), (1 : Int), (1 : Int), (5 : Int), (100 : Int), Prod.fst z1]) fun z2 => if List.length o3 + List.length [Prod.fst z2] ≤ (140737488355328 / 8 : Nat) then f_spec_DrawWeightedVote_0 k b1_0 (Prod.fst (Prod.snd z2)) (Prod.snd (Prod.snd z2)) o2 (o3 ++ [Prod.fst z2]) v13 (wrap64 (v14 + (1 : Int))) else none else some (b1_0, b1_1, b1_2, o2, o3)
noncomputable def f_spec_DrawWeightedVote_0i : Spec := { objs := [OSh.ro, OSh.box (114 : Nat) [Sh.snap (0 : Nat) (Ty.int IntKind.u8), Sh.int IntKind.i64, Sh.int IntKind.u64], OSh.row true (3 : Nat) (Ty.int IntKind.i64), OSh.row true (3 : Nat) (Ty.int IntKind.i64)], tmps := [((4 : Nat), TSh.at (Sh.ptr (1 : Nat) (0 : Nat))), ((5 : Nat), TSh.at (Sh.sl (2 : Nat))), ((6 : Nat), TSh.at (Sh.sl (3 : Nat))), ((13 : Nat), TSh.at (Sh.int IntKind.i64)), ((14 : Nat), TSh.at (Sh.int IntKind.i64))] }
noncomputable def f_spec_DrawWeightedVote_0o : Spec := { objs := [OSh.ro, OSh.box (114 : Nat) [Sh.snap (0 : Nat) (Ty.int IntKind.u8), Sh.int IntKind.i64, Sh.int IntKind.u64], OSh.row true (3 : Nat) (Ty.int IntKind.i64), OSh.row true (3 : Nat) (Ty.int IntKind.i64)], tmps := [((4 : Nat), TSh.at (Sh.ptr (1 : Nat) (0 : Nat))), ((5 : Nat), TSh.at (Sh.sl (2 : Nat))), ((6 : Nat), TSh.at (Sh.sl (3 : Nat)))] }
noncomputable def f_spec_DrawWeightedVote_0D : LoopDef (Tup r_spec_DrawWeightedVote × OutD) := .plain f_spec_DrawWeightedVote_0i f_spec_DrawWeightedVote_0o (List Int × Int × Int × List Int × List Int) (fun k x => f_spec_DrawWeightedVote_0 k x.1.2.1.1 x.1.2.1.2.1 x.1.2.1.2.2.1 x.1.2.2.1 x.1.2.2.2.1 x.2.2.2.2.1 x.2.2.2.2.2.1) (fun z => (((), (z.1, z.2.1, z.2.2.1, ()), z.2.2.2.1, z.2.2.2.2, ()), ((), (), (), ()))) (fun y => (y.1.2.1.1, y.1.2.1.2.1, y.1.2.1.2.2.1, y.1.2.2.1, y.1.2.2.2.1)) (fun _ => rfl)
noncomputable def f_spec_DrawWeightedVote : Nat → List Int → Option (List Int × List Int)
  | 0, _ => none
  | k + 1, p0 =>
    Option.bind (f_spec_l1Cur_votes k (p0, (0 : Int), (0 : Int))) fun z0 => Option.bind (f_spec_DrawWeightedVote_0 k p0 (Prod.fst (Prod.snd z0)) (Prod.snd (Prod.snd z0)) (Prod.fst z0) [] (↑(List.length (Prod.fst z0)) : Int) (0 : Int)) fun z3 => if decide ((↑(List.length (Prod.snd (Prod.snd (Prod.snd (Prod.snd z3))))) : Int) > (0 : Int)) = true then Option.bind (f_spec_l1Cur_pick k (Prod.fst z3, Prod.fst (Prod.snd z3), Prod.fst (Prod.snd (Prod.snd z3))) (24 : Int)) fun z4 => if decide (Prod.fst z4 = (0 : Int)) = true then Option.bind (f_spec_l1Cur_among k (Prod.fst z3, Prod.fst (Prod.snd z4), Prod.snd (Prod.snd z4)) [(-1 : Int), (101 : Int)]) fun z5 => if (0 : Int) < (↑(List.length (Prod.snd (Prod.snd (Prod.snd (Prod.snd z3))))) : Int) then some (Prod.fst (Prod.snd (Prod.snd (Prod.snd z3))), List.set (Prod.snd (Prod.snd (Prod.snd (Prod.snd z3)))) (Int.toNat (0 : Int)) (Prod.fst z5)) else none else if decide (Prod.fst z4 = (1 : Int)) = true then if (1 : Int) ≤ (↑(List.length (Prod.snd (Prod.snd (Prod.snd (Prod.snd z3))))) : Int) then if (↑(List.length (Prod.snd (Prod.snd (Prod.snd (Prod.snd z3))))) : Int) ≤ (↑(List.length (Prod.snd (Prod.snd (Prod.snd (Prod.snd z3))))) : Int) then some (Prod.fst (Prod.snd (Prod.snd (Prod.snd z3))), List.drop (Int.toNat (1 : Int)) (Prod.snd (Prod.snd (Prod.snd (Prod.snd z3))))) else none else none else some (Prod.fst (Prod.snd (Prod.snd (Prod.snd z3))), Prod.snd (Prod.snd (Prod.snd (Prod.snd z3)))) else some (Prod.fst (Prod.snd (Prod.snd (Prod.snd z3))), Prod.snd (Prod.snd (Prod.snd (Prod.snd z3))))
noncomputable def d_spec_DrawWeightedVote : FnDef := .of q_spec_DrawWeightedVote r_spec_DrawWeightedVote (List Int × List Int) (fun k x => f_spec_DrawWeightedVote k x.1) to_spec_DrawWeightedVote of_spec_DrawWeightedVote to_of_spec_DrawWeightedVote
noncomputable def c_spec_DrawWeightedVote : Code := Try.f33.body.getD .skip
noncomputable def x_spec_DrawWeightedVote : Ctx (Tup r_spec_DrawWeightedVote × OutD) := { T := T, G := [(97, d_spec_l1Cur_votes.E), (111, d_spec_l1Cur_pick.E), (90, d_spec_l1Cur_among.E)], mvs := [40], no := 0, n := 43, res := resOf T q_spec_DrawWeightedVote r_spec_DrawWeightedVote Try.f33.results.toList, loops := [(0, f_spec_DrawWeightedVote_0D.E)], regs := [], conds := [] }
theorem g_spec_DrawWeightedVote (k : Nat) : EnvOK Try.prog k x_spec_DrawWeightedVote.G := (EnvOK.cons (s_spec_l1Cur_votes k) (EnvOK.cons (s_spec_l1Cur_pick k) (EnvOK.cons (s_spec_l1Cur_among k) (EnvOK.nil mixed))))
noncomputable def f_spec_DrawWeightedVote_0B : Code := (findLoop 0 c_spec_DrawWeightedVote).getD .skip
theorem f_spec_DrawWeightedVote_0h (k : Nat) (x : f_spec_DrawWeightedVote_0i.D) : f_spec_DrawWeightedVote_0D.lp (k + 1) x = loopK x_spec_DrawWeightedVote f_spec_DrawWeightedVote_0D 0 f_spec_DrawWeightedVote_0B k x := by kernel_rfl
theorem f_spec_DrawWeightedVote_0l (k : Nat) : LOK Try.prog x_spec_DrawWeightedVote k f_spec_DrawWeightedVote_0B := LOK.by [] (by kernel_rfl) AllOK.nil
theorem f_spec_DrawWeightedVote_0z (x : f_spec_DrawWeightedVote_0i.D) : f_spec_DrawWeightedVote_0D.lp 0 x = none := by kernel_rfl
theorem f_spec_DrawWeightedVote_0ok (k : Nat) : EOK Try.prog x_spec_DrawWeightedVote k f_spec_DrawWeightedVote_0D.E (.block 0 (.loop f_spec_DrawWeightedVote_0B)) := loop_ok T_ok g_spec_DrawWeightedVote f_spec_DrawWeightedVote_0z f_spec_DrawWeightedVote_0h f_spec_DrawWeightedVote_0l k
theorem h_spec_DrawWeightedVote (k : Nat) (x : Tup d_spec_DrawWeightedVote.ps) : d_spec_DrawWeightedVote.f (k + 1) x = fnK d_spec_DrawWeightedVote x_spec_DrawWeightedVote c_spec_DrawWeightedVote k x := by kernel_rfl
theorem z_spec_DrawWeightedVote (x : Tup d_spec_DrawWeightedVote.ps) : d_spec_DrawWeightedVote.f 0 x = none := by kernel_rfl
theorem l_spec_DrawWeightedVote (k : Nat) : LOK Try.prog x_spec_DrawWeightedVote k c_spec_DrawWeightedVote := LOK.by [(f_spec_DrawWeightedVote_0D.E, .block 0 (.loop f_spec_DrawWeightedVote_0B))] (by kernel_rfl) (AllOK.cons (f_spec_DrawWeightedVote_0ok k) AllOK.nil)
theorem s_spec_DrawWeightedVote (k : Nat) : SoundAt Try.prog k 33 d_spec_DrawWeightedVote.E := @fn_all Try.prog d_spec_DrawWeightedVote x_spec_DrawWeightedVote 33 Try.f33 c_spec_DrawWeightedVote (by kernel_rfl) (by kernel_rfl) (by kernel_rfl) Try.func33 (by kernel_rfl) (by kernel_rfl) (by kernel_rfl) T_ok g_spec_DrawWeightedVote l_spec_DrawWeightedVote z_spec_DrawWeightedVote h_spec_DrawWeightedVote k
/-! function 36 -/
noncomputable def r_spec_DrawFlipsToWin : List PK := [{ t := Ty.slice (3 : Nat) (Ty.int IntKind.i64) }, { t := Ty.int IntKind.i64 }]
noncomputable def q_spec_DrawFlipsToWin : List PK := [{ t := Ty.slice (5 : Nat) (Ty.int IntKind.u8) }]
noncomputable def to_spec_DrawFlipsToWin (r : List Int × Int) : Tup r_spec_DrawFlipsToWin × OutD := ((r.1, r.2, ()), none)
noncomputable def of_spec_DrawFlipsToWin : Tup r_spec_DrawFlipsToWin × OutD → Option (List Int × Int)
  | (a, none) => some (a.1, a.2.1)
  | _ => none
theorem to_of_spec_DrawFlipsToWin : ∀ b r, of_spec_DrawFlipsToWin b = some r → to_spec_DrawFlipsToWin r = b := by
  rintro ⟨a, o⟩ r h
  cases o with
  | none => injection h with h; subst h; rfl
  | some _ => cases h
noncomputable def f_spec_DrawFlipsToWin : Nat → List Int → Option (List Int × Int)
  | 0, _ => none
  | k + 1, p0 =>
    Option.bind (f_spec_l1Cur_votes k (p0, (0 : Int), (0 : Int))) fun z0 => Option.bind (f_spec_l1Cur_among k (p0, Prod.fst (Prod.snd z0), Prod.snd (Prod.snd z0)) [(10 : Int), (-1 : Int)]) fun z1 => Option.bind (f_spec_l1Cur_among k (p0, Prod.fst (Prod.snd z1), Prod.snd (Prod.snd z1)) [(0 : Int), (1 : Int), (2 : Int), (9 : Int), Prod.fst z1]) fun z2 => some (Prod.fst z0, Prod.fst z2)
noncomputable def d_spec_DrawFlipsToWin : FnDef := .of q_spec_DrawFlipsToWin r_spec_DrawFlipsToWin (List Int × Int) (fun k x => f_spec_DrawFlipsToWin k x.1) to_spec_DrawFlipsToWin of_spec_DrawFlipsToWin to_of_spec_DrawFlipsToWin
noncomputable def c_spec_DrawFlipsToWin : Code := Try.f36.body.getD .skip
noncomputable def x_spec_DrawFlipsToWin : Ctx (Tup r_spec_DrawFlipsToWin × OutD) := { T := T, G := [(97, d_spec_l1Cur_votes.E), (90, d_spec_l1Cur_among.E)], mvs := [], no := 0, n := 16, res := resOf T q_spec_DrawFlipsToWin r_spec_DrawFlipsToWin Try.f36.results.toList, loops := [], regs := [], conds := [] }
theorem g_spec_DrawFlipsToWin (k : Nat) : EnvOK Try.prog k x_spec_DrawFlipsToWin.G := (EnvOK.cons (s_spec_l1Cur_votes k) (EnvOK.cons (s_spec_l1Cur_among k) (EnvOK.nil mixed)))
theorem h_spec_DrawFlipsToWin (k : Nat) (x : Tup d_spec_DrawFlipsToWin.ps) : d_spec_DrawFlipsToWin.f (k + 1) x = fnK d_spec_DrawFlipsToWin x_spec_DrawFlipsToWin c_spec_DrawFlipsToWin k x := by kernel_rfl
theorem z_spec_DrawFlipsToWin (x : Tup d_spec_DrawFlipsToWin.ps) : d_spec_DrawFlipsToWin.f 0 x = none := by kernel_rfl
theorem l_spec_DrawFlipsToWin (k : Nat) : LOK Try.prog x_spec_DrawFlipsToWin k c_spec_DrawFlipsToWin := LOK.by [] (by kernel_rfl) AllOK.nil
theorem s_spec_DrawFlipsToWin (k : Nat) : SoundAt Try.prog k 36 d_spec_DrawFlipsToWin.E := @fn_all Try.prog d_spec_DrawFlipsToWin x_spec_DrawFlipsToWin 36 Try.f36 c_spec_DrawFlipsToWin (by kernel_rfl) (by kernel_rfl) (by kernel_rfl) Try.func36 (by kernel_rfl) (by kernel_rfl) (by kernel_rfl) T_ok g_spec_DrawFlipsToWin l_spec_DrawFlipsToWin z_spec_DrawFlipsToWin h_spec_DrawFlipsToWin k
end
end Go.Proofs.Ytgjmhbjdhihgaaa.Vs

set_option maxRecDepth 100000
set_option maxHeartbeats 2000000
set_option linter.unusedVariables false
set_option linter.unusedSimpArgs false
namespace Go.Proofs.Ytgjmhbjdhihgaaa.Vs
open Go.RowKit
noncomputable section
/-! function 4 -/
noncomputable def r_laws_FnVotes : List PK := [{ t := Ty.bool }]
noncomputable def q_laws_FnVotes : List PK := [{ t := Ty.slice (5 : Nat) (Ty.int IntKind.u8) }, { t := Ty.slice (5 : Nat) (Ty.int IntKind.u8) }]
noncomputable def to_laws_FnVotes (r : Bool) : Tup r_laws_FnVotes × OutD := ((r, ()), none)
noncomputable def of_laws_FnVotes : Tup r_laws_FnVotes × OutD → Option (Bool)
  | (a, none) => some (a.1)
  | _ => none
theorem to_of_laws_FnVotes : ∀ b r, of_laws_FnVotes b = some r → to_laws_FnVotes r = b := by
  rintro ⟨a, o⟩ r h
  cases o with
  | none => injection h with h; subst h; rfl
  | some _ => cases h
noncomputable def f_laws_FnVotes_2 : Nat → List Int → List Int → Int → Int → Int → Int → Bool → Int → Int → Int → Option (List Int × List Int × Int × Int × Int × Int × Bool × Int)
  | 0, _, _, _, _, _, _, _, _, _, _ => none
  | k + 1, o1, v1, v9, v10, v16, v17, v18, v19, v131, v132 =>
    if decide (v132 < v131) = true then if (0 : Int) ≤ v132 then if v132 < (↑(List.length o1) : Int) then if decide (List.getD o1 (Int.toNat v132) (0 : Int) = v16) = true then f_laws_FnVotes_2 k o1 v1 v9 v10 v16 v17 v18 (wrap64 (v19 + (1 : Int))) v131 (wrap64 (v132 + (1 : Int))) else f_laws_FnVotes_2 k o1 v1 v9 v10 v16 v17 v18 v19 v131 (wrap64 (v132 + (1 : Int))) else none else none else some (o1, v1, v9, v10, v16, v17, v18, v19)
noncomputable def f_laws_FnVotes_2i : Spec := { objs := [OSh.ro, OSh.row true (3 : Nat) (Ty.int IntKind.i64)], tmps := [((1 : Nat), TSh.at (Sh.snap (0 : Nat) (Ty.int IntKind.u8))), ((5 : Nat), TSh.at (Sh.sl (1 : Nat))), ((9 : Nat), TSh.at (Sh.int IntKind.i64)), ((10 : Nat), TSh.at (Sh.int IntKind.i64)), ((16 : Nat), TSh.at (Sh.int IntKind.i64)), ((17 : Nat), TSh.at (Sh.int IntKind.i64)), ((18 : Nat), TSh.at Sh.bool), ((19 : Nat), TSh.at (Sh.int IntKind.i64)), ((130 : Nat), TSh.at (Sh.sl (1 : Nat))), ((131 : Nat), TSh.at (Sh.int IntKind.i64)), ((132 : Nat), TSh.at (Sh.int IntKind.i64))] }
noncomputable def f_laws_FnVotes_2o : Spec := { objs := [OSh.ro, OSh.row true (3 : Nat) (Ty.int IntKind.i64)], tmps := [((1 : Nat), TSh.at (Sh.snap (0 : Nat) (Ty.int IntKind.u8))), ((5 : Nat), TSh.at (Sh.sl (1 : Nat))), ((9 : Nat), TSh.at (Sh.int IntKind.i64)), ((10 : Nat), TSh.at (Sh.int IntKind.i64)), ((16 : Nat), TSh.at (Sh.int IntKind.i64)), ((17 : Nat), TSh.at (Sh.int IntKind.i64)), ((18 : Nat), TSh.at Sh.bool), ((19 : Nat), TSh.at (Sh.int IntKind.i64))] }
noncomputable def f_laws_FnVotes_2D : LoopDef (Tup r_laws_FnVotes × OutD) := .plain f_laws_FnVotes_2i f_laws_FnVotes_2o (List Int × List Int × Int × Int × Int × Int × Bool × Int) (fun k x => f_laws_FnVotes_2 k x.1.2.1 x.2.1 x.2.2.2.1 x.2.2.2.2.1 x.2.2.2.2.2.1 x.2.2.2.2.2.2.1 x.2.2.2.2.2.2.2.1 x.2.2.2.2.2.2.2.2.1 x.2.2.2.2.2.2.2.2.2.2.1 x.2.2.2.2.2.2.2.2.2.2.2.1) (fun z => (((), z.1, ()), (z.2.1, (), z.2.2.1, z.2.2.2.1, z.2.2.2.2.1, z.2.2.2.2.2.1, z.2.2.2.2.2.2.1, z.2.2.2.2.2.2.2, ()))) (fun y => (y.1.2.1, y.2.1, y.2.2.2.1, y.2.2.2.2.1, y.2.2.2.2.2.1, y.2.2.2.2.2.2.1, y.2.2.2.2.2.2.2.1, y.2.2.2.2.2.2.2.2.1)) (fun _ => rfl)
noncomputable def f_laws_FnVotes_0 : Nat → List Int → List Int → Int → Int → Int → Option (LR (List Int) Bool)
  | 0, _, _, _, _, _ => none
  | k + 1, o1, v1, v9, v10, v16 =>
    if decide (v16 ≤ (9 : Int)) = true then Option.bind (f_impl_FlipsToWin k o1 v16) fun z6 => Option.bind (f_laws_FnVotes_2 k o1 v1 v9 v10 v16 (Prod.fst z6) (Prod.snd z6) (0 : Int) (↑(List.length o1) : Int) (0 : Int)) fun z7 => if (!Prod.fst (Prod.snd (Prod.snd (Prod.snd (Prod.snd (Prod.snd (Prod.snd z7))))))) = true then some (LR.ret false) else if decide (Prod.fst (Prod.snd (Prod.snd (Prod.snd (Prod.snd (Prod.snd z7))))) < (0 : Int)) = true then some (LR.ret false) else if decide (wrap64 ((2 : Int) * wrap64 (Prod.snd (Prod.snd (Prod.snd (Prod.snd (Prod.snd (Prod.snd (Prod.snd z7)))))) + Prod.fst (Prod.snd (Prod.snd (Prod.snd (Prod.snd (Prod.snd z7))))))) ≤ (↑(List.length (Prod.fst z7)) : Int)) = true then some (LR.ret false) else if decide (Prod.fst (Prod.snd (Prod.snd (Prod.snd (Prod.snd (Prod.snd z7))))) > (0 : Int)) = true then if decide (wrap64 ((2 : Int) * wrap64 (wrap64 (Prod.snd (Prod.snd (Prod.snd (Prod.snd (Prod.snd (Prod.snd (Prod.snd z7)))))) + Prod.fst (Prod.snd (Prod.snd (Prod.snd (Prod.snd (Prod.snd z7)))))) - (1 : Int))) > (↑(List.length (Prod.fst z7)) : Int)) = true then some (LR.ret false) else if decide (Prod.snd (Prod.snd (Prod.snd (Prod.snd (Prod.snd (Prod.snd (Prod.snd z7)))))) > Prod.fst (Prod.snd (Prod.snd (Prod.snd z7)))) = true then some (LR.ret false) else if decide (Prod.snd (Prod.snd (Prod.snd (Prod.snd (Prod.snd (Prod.snd (Prod.snd z7)))))) = Prod.fst (Prod.snd (Prod.snd (Prod.snd z7)))) = true then if decide (Prod.fst (Prod.snd (Prod.snd (Prod.snd (Prod.snd z7)))) < Prod.fst (Prod.snd (Prod.snd z7))) = true then some (LR.ret false) else f_laws_FnVotes_0 k (Prod.fst z7) (Prod.fst (Prod.snd z7)) (Prod.fst (Prod.snd (Prod.snd z7))) (Prod.fst (Prod.snd (Prod.snd (Prod.snd z7)))) (wrap64 (Prod.fst (Prod.snd (Prod.snd (Prod.snd (Prod.snd z7)))) + (1 : Int))) else f_laws_FnVotes_0 k (Prod.fst z7) (Prod.fst (Prod.snd z7)) (Prod.fst (Prod.snd (Prod.snd z7))) (Prod.fst (Prod.snd (Prod.snd (Prod.snd z7)))) (wrap64 (Prod.fst (Prod.snd (Prod.snd (Prod.snd (Prod.snd z7)))) + (1 : Int))) else if decide (Prod.snd (Prod.snd (Prod.snd (Prod.snd (Prod.snd (Prod.snd (Prod.snd z7)))))) > Prod.fst (Prod.snd (Prod.snd (Prod.snd z7)))) = true then some (LR.ret false) else if decide (Prod.snd (Prod.snd (Prod.snd (Prod.snd (Prod.snd (Prod.snd (Prod.snd z7)))))) = Prod.fst (Prod.snd (Prod.snd (Prod.snd z7)))) = true then if decide (Prod.fst (Prod.snd (Prod.snd (Prod.snd (Prod.snd z7)))) < Prod.fst (Prod.snd (Prod.snd z7))) = true then some (LR.ret false) else f_laws_FnVotes_0 k (Prod.fst z7) (Prod.fst (Prod.snd z7)) (Prod.fst (Prod.snd (Prod.snd z7))) (Prod.fst (Prod.snd (Prod.snd (Prod.snd z7)))) (wrap64 (Prod.fst (Prod.snd (Prod.snd (Prod.snd (Prod.snd z7)))) + (1 : Int))) else f_laws_FnVotes_0 k (Prod.fst z7) (Prod.fst (Prod.snd z7)) (Prod.fst (Prod.snd (Prod.snd z7))) (Prod.fst (Prod.snd (Prod.snd (Prod.snd z7)))) (wrap64 (Prod.fst (Prod.snd (Prod.snd (Prod.snd (Prod.snd z7)))) + (1 : Int))) else some (LR.go v1)
noncomputable def f_laws_FnVotes_0i : Spec := { objs := [OSh.ro, OSh.row true (3 : Nat) (Ty.int IntKind.i64)], tmps := [((1 : Nat), TSh.at (Sh.snap (0 : Nat) (Ty.int IntKind.u8))), ((5 : Nat), TSh.at (Sh.sl (1 : Nat))), ((9 : Nat), TSh.at (Sh.int IntKind.i64)), ((10 : Nat), TSh.at (Sh.int IntKind.i64)), ((16 : Nat), TSh.at (Sh.int IntKind.i64))] }
noncomputable def f_laws_FnVotes_0o : Spec := { objs := [OSh.ro], tmps := [((1 : Nat), TSh.at (Sh.snap (0 : Nat) (Ty.int IntKind.u8)))] }
noncomputable def f_laws_FnVotes_0D : LoopDef (Tup r_laws_FnVotes × OutD) := .rets f_laws_FnVotes_0i f_laws_FnVotes_0o (List Int) (Bool) (fun k x => f_laws_FnVotes_0 k x.1.2.1 x.2.1 x.2.2.2.1 x.2.2.2.2.1 x.2.2.2.2.2.1) (fun z => (((), ()), (z, ()))) (fun y => (y.2.1)) (fun _ => rfl) to_laws_FnVotes of_laws_FnVotes to_of_laws_FnVotes
noncomputable def f_laws_FnVotes_j119 : Nat → List Int → List Int → Int → Int → Bool → Option (LR (List Int) Bool) := fun k o1 v1 v9 v10 v119 =>
    if v119 = true then Option.bind (f_laws_FnVotes_0 k o1 v1 v9 v10 (0 : Int)) fun z8 => LR.on z8 (fun y8 => some (LR.go y8)) fun r8 => some (LR.ret r8) else some (LR.go v1)
noncomputable def f_laws_FnVotes_j119i : Spec := { objs := [OSh.ro, OSh.row true (3 : Nat) (Ty.int IntKind.i64)], tmps := [((1 : Nat), TSh.at (Sh.snap (0 : Nat) (Ty.int IntKind.u8))), ((5 : Nat), TSh.at (Sh.sl (1 : Nat))), ((9 : Nat), TSh.at (Sh.int IntKind.i64)), ((10 : Nat), TSh.at (Sh.int IntKind.i64)), ((119 : Nat), TSh.at Sh.bool)] }
noncomputable def f_laws_FnVotes_j119o : Spec := { objs := [OSh.ro], tmps := [((1 : Nat), TSh.at (Sh.snap (0 : Nat) (Ty.int IntKind.u8)))] }
noncomputable def f_laws_FnVotes_j119D : LoopDef (Tup r_laws_FnVotes × OutD) := .rets f_laws_FnVotes_j119i f_laws_FnVotes_j119o (List Int) (Bool) (fun k x => f_laws_FnVotes_j119 k x.1.2.1 x.2.1 x.2.2.2.1 x.2.2.2.2.1 x.2.2.2.2.2.1) (fun z => (((), ()), (z, ()))) (fun y => (y.2.1)) (fun _ => rfl) to_laws_FnVotes of_laws_FnVotes to_of_laws_FnVotes
noncomputable def f_laws_FnVotes_4 : Nat → List (List Int) → List Int → List Int → List Int → Int → Int → Int → Option (LR (List (List Int) × List Int × List Int × List Int × Int) Bool)
  | 0, _, _, _, _, _, _, _ => none
  | k + 1, o1, o2, o3, v1, v33, v260, v261 =>
    if decide (v261 < v260) = true then if (0 : Int) ≤ v261 then if v261 < (↑(List.length o1) : Int) then Option.bind (f_laws_pIn k o3 v261) fun z19 => Option.bind (f_laws_sameInts k (List.getD o1 (Int.toNat v261) []) o2) fun z20 => if (z19 == z20) = true then some (LR.ret false) else f_laws_FnVotes_4 k o1 o2 o3 v1 v33 v260 (wrap64 (v261 + (1 : Int))) else none else none else some (LR.go (o1, o2, o3, v1, v33))
noncomputable def f_laws_FnVotes_4i : Spec := { objs := [OSh.ro, OSh.row true (34 : Nat) (Ty.slice (3 : Nat) (Ty.int IntKind.i64)), OSh.row true (3 : Nat) (Ty.int IntKind.i64), OSh.row true (3 : Nat) (Ty.int IntKind.i64)], tmps := [((1 : Nat), TSh.at (Sh.snap (0 : Nat) (Ty.int IntKind.u8))), ((22 : Nat), TSh.at (Sh.sl (1 : Nat))), ((25 : Nat), TSh.at (Sh.sl (2 : Nat))), ((29 : Nat), TSh.at (Sh.sl (3 : Nat))), ((33 : Nat), TSh.at (Sh.int IntKind.i64)), ((259 : Nat), TSh.at (Sh.sl (1 : Nat))), ((260 : Nat), TSh.at (Sh.int IntKind.i64)), ((261 : Nat), TSh.at (Sh.int IntKind.i64))] }
noncomputable def f_laws_FnVotes_4o : Spec := { objs := [OSh.ro, OSh.row true (34 : Nat) (Ty.slice (3 : Nat) (Ty.int IntKind.i64)), OSh.row true (3 : Nat) (Ty.int IntKind.i64), OSh.row true (3 : Nat) (Ty.int IntKind.i64)], tmps := [((1 : Nat), TSh.at (Sh.snap (0 : Nat) (Ty.int IntKind.u8))), ((22 : Nat), TSh.at (Sh.sl (1 : Nat))), ((25 : Nat), TSh.at (Sh.sl (2 : Nat))), ((29 : Nat), TSh.at (Sh.sl (3 : Nat))), ((33 : Nat), TSh.at (Sh.int IntKind.i64))] }
noncomputable def f_laws_FnVotes_4D : LoopDef (Tup r_laws_FnVotes × OutD) := .rets f_laws_FnVotes_4i f_laws_FnVotes_4o (List (List Int) × List Int × List Int × List Int × Int) (Bool) (fun k x => f_laws_FnVotes_4 k x.1.2.1 x.1.2.2.1 x.1.2.2.2.1 x.2.1 x.2.2.2.2.2.1 x.2.2.2.2.2.2.2.1 x.2.2.2.2.2.2.2.2.1) (fun z => (((), z.1, z.2.1, z.2.2.1, ()), (z.2.2.2.1, (), (), (), z.2.2.2.2, ()))) (fun y => (y.1.2.1, y.1.2.2.1, y.1.2.2.2.1, y.2.1, y.2.2.2.2.2.1)) (fun _ => rfl) to_laws_FnVotes of_laws_FnVotes to_of_laws_FnVotes
noncomputable def f_laws_FnVotes_j258 : Nat → List (List Int) → List Int → List Int → List Int → Int → Bool → Option (LR (List Int) Bool) := fun k o1 o2 o3 v1 v33 v258 =>
    if v258 = true then Option.bind (f_laws_FnVotes_4 k o1 o2 o3 v1 v33 (↑(List.length o1) : Int) (0 : Int)) fun z21 => LR.on z21 (fun y21 => if decide (Prod.snd (Prod.snd (Prod.snd (Prod.snd y21))) < (0 : Int)) = true then some (LR.ret false) else if decide (Prod.snd (Prod.snd (Prod.snd (Prod.snd y21))) > (↑(List.length (Prod.fst (Prod.snd y21))) : Int)) = true then some (LR.ret false) else if decide ((↑(List.length (Prod.fst y21)) : Int) = (1 : Int)) = true then if decide (Prod.snd (Prod.snd (Prod.snd (Prod.snd y21))) ≠ (0 : Int)) = true then some (LR.ret false) else if decide ((↑(List.length (Prod.fst (Prod.snd (Prod.snd y21)))) : Int) ≠ (0 : Int)) = true then some (LR.ret false) else some (LR.go (Prod.fst (Prod.snd (Prod.snd (Prod.snd y21))))) else some (LR.go (Prod.fst (Prod.snd (Prod.snd (Prod.snd y21)))))) fun r21 => some (LR.ret r21) else some (LR.go v1)
noncomputable def f_laws_FnVotes_j258i : Spec := { objs := [OSh.ro, OSh.row true (34 : Nat) (Ty.slice (3 : Nat) (Ty.int IntKind.i64)), OSh.row true (3 : Nat) (Ty.int IntKind.i64), OSh.row true (3 : Nat) (Ty.int IntKind.i64)], tmps := [((1 : Nat), TSh.at (Sh.snap (0 : Nat) (Ty.int IntKind.u8))), ((22 : Nat), TSh.at (Sh.sl (1 : Nat))), ((25 : Nat), TSh.at (Sh.sl (2 : Nat))), ((29 : Nat), TSh.at (Sh.sl (3 : Nat))), ((33 : Nat), TSh.at (Sh.int IntKind.i64)), ((258 : Nat), TSh.at Sh.bool)] }
noncomputable def f_laws_FnVotes_j258o : Spec := { objs := [OSh.ro], tmps := [((1 : Nat), TSh.at (Sh.snap (0 : Nat) (Ty.int IntKind.u8)))] }
noncomputable def f_laws_FnVotes_j258D : LoopDef (Tup r_laws_FnVotes × OutD) := .rets f_laws_FnVotes_j258i f_laws_FnVotes_j258o (List Int) (Bool) (fun k x => f_laws_FnVotes_j258 k x.1.2.1 x.1.2.2.1 x.1.2.2.2.1 x.2.1 x.2.2.2.2.2.1 x.2.2.2.2.2.2.1) (fun z => (((), ()), (z, ()))) (fun y => (y.2.1)) (fun _ => rfl) to_laws_FnVotes of_laws_FnVotes to_of_laws_FnVotes
noncomputable def f_laws_FnVotes_u : Nat → List Int → Option Bool := fun k w =>
    Option.bind (f_spec_DrawWeightedVote k w) fun z23 => Option.bind (f_impl_WeightedVote k (Prod.fst z23) (Prod.snd z23)) fun z24 => Option.bind (f_spec_WeightedVote k (Prod.fst z23) (Prod.snd z23)) fun z25 => Option.bind (f_spec_DrawFlipsToWin k w) fun z26 => Option.bind (f_impl_FlipsToWin k (Prod.fst z26) (Prod.snd z26)) fun z27 => Option.bind (f_spec_FlipsToWin k (Prod.fst z26) (Prod.snd z26)) fun z28 => if (Prod.snd z24 == Prod.snd z25) = true then if decide (Prod.fst z24 = Prod.fst z25) = true then if (!Prod.snd z24) = true then if (Prod.snd z27 == Prod.snd z28) = true then some (decide (Prod.fst z27 = Prod.fst z28)) else some false else Option.bind (f_laws_pIn k (Prod.fst z23) (Prod.fst z25)) fun z29 => if z29 = true then if (Prod.snd z27 == Prod.snd z28) = true then some (decide (Prod.fst z27 = Prod.fst z28)) else some false else some false else some false else some false
noncomputable def G_laws_FnVotes (T : Nat → List Int → Option Bool) : Nat → List Int → Option Bool := fun k w =>
    Option.bind (f_spec_DrawVotedRows k w) fun z10 => Option.bind (f_impl_VotedRows k z10) fun z11 => Option.bind (f_spec_VotedRows k z10) fun z12 => Option.bind (f_impl_SuspectCopies k z10) fun z13 => Option.bind (f_spec_SuspectCopies k z10) fun z14 => Option.bind (f_impl_TieCount k z10) fun z15 => Option.bind (f_spec_TieCount k z10) fun z16 => if (!Prod.snd z11 == Prod.snd z12) = true then some false else Option.bind (f_laws_sameInts k (Prod.fst z11) (Prod.fst z12)) fun z17 => if (!z17) = true then some false else if (!Prod.snd z13 == Prod.snd z14) = true then some false else Option.bind (f_laws_sameInts k (Prod.fst z13) (Prod.fst z14)) fun z18 => if (!z18) = true then some false else if (!Prod.snd z15 == Prod.snd z16) = true then some false else if decide (Prod.fst z15 ≠ Prod.fst z16) = true then some false else if (!Prod.snd z13 == Prod.snd z11) = true then some false else if (!Prod.snd z15 == Prod.snd z11) = true then some false else Option.bind (f_laws_FnVotes_j258 k z10 (Prod.fst z12) (Prod.fst z14) w (Prod.fst z16) (Prod.snd z11)) fun z22 => LR.on z22 (fun y22 => T k y22) fun r22 => some r22
noncomputable def f_laws_FnVotes_t : Nat → List Int → Option Bool := fun k w =>
    G_laws_FnVotes f_laws_FnVotes_u k w
noncomputable def F_laws_FnVotes (T : Nat → List Int → Option Bool) : Nat → List Int → List Int → Option Bool
  | 0, _, _ => none
  | k + 1, p0, p1 =>
    Option.bind (f_laws_big k p0 p1) fun z0 => if z0 = true then some true else Option.bind (f_spec_DrawMostVoted k p0) fun z1 => Option.bind (f_impl_MostVoted k z1) fun z2 => Option.bind (f_spec_MostVoted k z1) fun z3 => Option.bind (f_impl_MajorityOf k z1) fun z4 => Option.bind (f_spec_MajorityOf k z1) fun z5 => if (!Prod.snd (Prod.snd z2) == Prod.snd (Prod.snd z3)) = true then some false else if decide (Prod.fst z2 ≠ Prod.fst z3) = true then some false else if decide (Prod.fst (Prod.snd z2) ≠ Prod.fst (Prod.snd z3)) = true then some false else if (!Prod.snd z4 == Prod.snd z5) = true then some false else if decide (Prod.fst z4 ≠ Prod.fst z5) = true then some false else if Prod.snd (Prod.snd z2) = true then if (!Prod.snd z4 == decide (wrap64 ((2 : Int) * Prod.fst (Prod.snd z3)) > (↑(List.length z1) : Int))) = true then some false else if Prod.snd z4 = true then if decide (Prod.fst z5 ≠ Prod.fst z3) = true then some false else Option.bind (f_laws_FnVotes_j119 k z1 p1 (Prod.fst z3) (Prod.fst (Prod.snd z3)) (Prod.snd (Prod.snd z2))) fun z9 => LR.on z9 (fun y9 => T k y9) fun r9 => some r9 else Option.bind (f_laws_FnVotes_j119 k z1 p1 (Prod.fst z3) (Prod.fst (Prod.snd z3)) (Prod.snd (Prod.snd z2))) fun z30 => LR.on z30 (fun y30 => T k y30) fun r30 => some r30 else if (!Prod.snd z4 == false) = true then some false else if Prod.snd z4 = true then if decide (Prod.fst z5 ≠ Prod.fst z3) = true then some false else Option.bind (f_laws_FnVotes_j119 k z1 p1 (Prod.fst z3) (Prod.fst (Prod.snd z3)) (Prod.snd (Prod.snd z2))) fun z48 => LR.on z48 (fun y48 => T k y48) fun r48 => some r48 else Option.bind (f_laws_FnVotes_j119 k z1 p1 (Prod.fst z3) (Prod.fst (Prod.snd z3)) (Prod.snd (Prod.snd z2))) fun z66 => LR.on z66 (fun y66 => T k y66) fun r66 => some r66
noncomputable def f_laws_FnVotes : Nat → List Int → List Int → Option Bool := F_laws_FnVotes f_laws_FnVotes_t
noncomputable def d_laws_FnVotes : FnDef := .of q_laws_FnVotes r_laws_FnVotes (Bool) (fun k x => f_laws_FnVotes k x.1 x.2.1) to_laws_FnVotes of_laws_FnVotes to_of_laws_FnVotes
noncomputable def c_laws_FnVotes : Code := Try.f4.body.getD .skip
noncomputable def x_laws_FnVotes : Ctx (Tup r_laws_FnVotes × OutD) := { T := T, G := [(8, d_laws_big.E), (18, d_spec_DrawMostVoted.E), (19, d_impl_MostVoted.E), (20, d_spec_MostVoted.E), (21, d_impl_MajorityOf.E), (22, d_spec_MajorityOf.E), (23, d_impl_FlipsToWin.E), (24, d_spec_DrawVotedRows.E), (25, d_impl_VotedRows.E), (26, d_spec_VotedRows.E), (27, d_impl_SuspectCopies.E), (28, d_spec_SuspectCopies.E), (29, d_impl_TieCount.E), (30, d_spec_TieCount.E), (31, d_laws_sameInts.E), (32, d_laws_pIn.E), (33, d_spec_DrawWeightedVote.E), (34, d_impl_WeightedVote.E), (35, d_spec_WeightedVote.E), (36, d_spec_DrawFlipsToWin.E), (37, d_spec_FlipsToWin.E)], mvs := [], no := 0, n := 357, res := resOf T q_laws_FnVotes r_laws_FnVotes Try.f4.results.toList, loops := [(2, f_laws_FnVotes_2D.E), (0, f_laws_FnVotes_0D.E), (4, f_laws_FnVotes_4D.E)], regs := [], conds := [(119, f_laws_FnVotes_j119D.E), (258, f_laws_FnVotes_j258D.E)] }
theorem g_laws_FnVotes (k : Nat) : EnvOK Try.prog k x_laws_FnVotes.G := (EnvOK.cons (s_laws_big k) (EnvOK.cons (s_spec_DrawMostVoted k) (EnvOK.cons (s_impl_MostVoted k) (EnvOK.cons (s_spec_MostVoted k) (EnvOK.cons (s_impl_MajorityOf k) (EnvOK.cons (s_spec_MajorityOf k) (EnvOK.cons (s_impl_FlipsToWin k) (EnvOK.cons (s_spec_DrawVotedRows k) (EnvOK.cons (s_impl_VotedRows k) (EnvOK.cons (s_spec_VotedRows k) (EnvOK.cons (s_impl_SuspectCopies k) (EnvOK.cons (s_spec_SuspectCopies k) (EnvOK.cons (s_impl_TieCount k) (EnvOK.cons (s_spec_TieCount k) (EnvOK.cons (s_laws_sameInts k) (EnvOK.cons (s_laws_pIn k) (EnvOK.cons (s_spec_DrawWeightedVote k) (EnvOK.cons (s_impl_WeightedVote k) (EnvOK.cons (s_spec_WeightedVote k) (EnvOK.cons (s_spec_DrawFlipsToWin k) (EnvOK.cons (s_spec_FlipsToWin k) (EnvOK.nil mixed))))))))))))))))))))))
noncomputable def f_laws_FnVotes_2B : Code := (findLoop 2 c_laws_FnVotes).getD .skip
theorem f_laws_FnVotes_2h (k : Nat) (x : f_laws_FnVotes_2i.D) : f_laws_FnVotes_2D.lp (k + 1) x = loopK x_laws_FnVotes f_laws_FnVotes_2D 2 f_laws_FnVotes_2B k x := by kernel_rfl
theorem f_laws_FnVotes_2l (k : Nat) : LOK Try.prog x_laws_FnVotes k f_laws_FnVotes_2B := LOK.by [] (by kernel_rfl) AllOK.nil
theorem f_laws_FnVotes_2z (x : f_laws_FnVotes_2i.D) : f_laws_FnVotes_2D.lp 0 x = none := by kernel_rfl
theorem f_laws_FnVotes_2ok (k : Nat) : EOK Try.prog x_laws_FnVotes k f_laws_FnVotes_2D.E (.block 2 (.loop f_laws_FnVotes_2B)) := loop_ok T_ok g_laws_FnVotes f_laws_FnVotes_2z f_laws_FnVotes_2h f_laws_FnVotes_2l k
noncomputable def f_laws_FnVotes_0B : Code := (findLoop 0 c_laws_FnVotes).getD .skip
theorem f_laws_FnVotes_0h (k : Nat) (x : f_laws_FnVotes_0i.D) : f_laws_FnVotes_0D.lp (k + 1) x = loopK x_laws_FnVotes f_laws_FnVotes_0D 0 f_laws_FnVotes_0B k x := by kernel_rfl
theorem f_laws_FnVotes_0l (k : Nat) : LOK Try.prog x_laws_FnVotes k f_laws_FnVotes_0B := LOK.by [(f_laws_FnVotes_2D.E, .block 2 (.loop f_laws_FnVotes_2B))] (by kernel_rfl) (AllOK.cons (f_laws_FnVotes_2ok k) AllOK.nil)
theorem f_laws_FnVotes_0z (x : f_laws_FnVotes_0i.D) : f_laws_FnVotes_0D.lp 0 x = none := by kernel_rfl
theorem f_laws_FnVotes_0ok (k : Nat) : EOK Try.prog x_laws_FnVotes k f_laws_FnVotes_0D.E (.block 0 (.loop f_laws_FnVotes_0B)) := loop_ok T_ok g_laws_FnVotes f_laws_FnVotes_0z f_laws_FnVotes_0h f_laws_FnVotes_0l k
noncomputable def f_laws_FnVotes_j119X : Code := ((findCond 119 c_laws_FnVotes).map (·.1)).getD .skip
noncomputable def f_laws_FnVotes_j119Y : Code := ((findCond 119 c_laws_FnVotes).map (·.2)).getD .skip
theorem f_laws_FnVotes_j119h (k : Nat) (i : f_laws_FnVotes_j119D.inp.D) : f_laws_FnVotes_j119D.lp k i = branch (f_laws_FnVotes_j119D.inp.st x_laws_FnVotes.n i) (.tmp 119) (fun st => exec x_laws_FnVotes k f_laws_FnVotes_j119X st (outK x_laws_FnVotes f_laws_FnVotes_j119D) (fun _ _ => none) f_laws_FnVotes_j119D.mkB) (fun st => exec x_laws_FnVotes k f_laws_FnVotes_j119Y st (outK x_laws_FnVotes f_laws_FnVotes_j119D) (fun _ _ => none) f_laws_FnVotes_j119D.mkB) := by kernel_rfl
theorem f_laws_FnVotes_j119ok (k : Nat) : EOK Try.prog x_laws_FnVotes k f_laws_FnVotes_j119D.E (.cond (.tmp 119) f_laws_FnVotes_j119X f_laws_FnVotes_j119Y) := join_ok (D := f_laws_FnVotes_j119D) T_ok (g_laws_FnVotes k) (f_laws_FnVotes_j119h k) (LOK.by [(f_laws_FnVotes_0D.E, .block 0 (.loop f_laws_FnVotes_0B))] (by kernel_rfl) (AllOK.cons (f_laws_FnVotes_0ok k) AllOK.nil)) (LOK.by [] (by kernel_rfl) AllOK.nil)
noncomputable def f_laws_FnVotes_4B : Code := (findLoop 4 c_laws_FnVotes).getD .skip
theorem f_laws_FnVotes_4h (k : Nat) (x : f_laws_FnVotes_4i.D) : f_laws_FnVotes_4D.lp (k + 1) x = loopK x_laws_FnVotes f_laws_FnVotes_4D 4 f_laws_FnVotes_4B k x := by kernel_rfl
theorem f_laws_FnVotes_4l (k : Nat) : LOK Try.prog x_laws_FnVotes k f_laws_FnVotes_4B := LOK.by [] (by kernel_rfl) AllOK.nil
theorem f_laws_FnVotes_4z (x : f_laws_FnVotes_4i.D) : f_laws_FnVotes_4D.lp 0 x = none := by kernel_rfl
theorem f_laws_FnVotes_4ok (k : Nat) : EOK Try.prog x_laws_FnVotes k f_laws_FnVotes_4D.E (.block 4 (.loop f_laws_FnVotes_4B)) := loop_ok T_ok g_laws_FnVotes f_laws_FnVotes_4z f_laws_FnVotes_4h f_laws_FnVotes_4l k
noncomputable def f_laws_FnVotes_j258X : Code := ((findCond 258 c_laws_FnVotes).map (·.1)).getD .skip
noncomputable def f_laws_FnVotes_j258Y : Code := ((findCond 258 c_laws_FnVotes).map (·.2)).getD .skip
theorem f_laws_FnVotes_j258h (k : Nat) (i : f_laws_FnVotes_j258D.inp.D) : f_laws_FnVotes_j258D.lp k i = branch (f_laws_FnVotes_j258D.inp.st x_laws_FnVotes.n i) (.tmp 258) (fun st => exec x_laws_FnVotes k f_laws_FnVotes_j258X st (outK x_laws_FnVotes f_laws_FnVotes_j258D) (fun _ _ => none) f_laws_FnVotes_j258D.mkB) (fun st => exec x_laws_FnVotes k f_laws_FnVotes_j258Y st (outK x_laws_FnVotes f_laws_FnVotes_j258D) (fun _ _ => none) f_laws_FnVotes_j258D.mkB) := by kernel_rfl
theorem f_laws_FnVotes_j258ok (k : Nat) : EOK Try.prog x_laws_FnVotes k f_laws_FnVotes_j258D.E (.cond (.tmp 258) f_laws_FnVotes_j258X f_laws_FnVotes_j258Y) := join_ok (D := f_laws_FnVotes_j258D) T_ok (g_laws_FnVotes k) (f_laws_FnVotes_j258h k) (LOK.by [(f_laws_FnVotes_4D.E, .block 4 (.loop f_laws_FnVotes_4B))] (by kernel_rfl) (AllOK.cons (f_laws_FnVotes_4ok k) AllOK.nil)) (LOK.by [] (by kernel_rfl) AllOK.nil)
noncomputable def putRest : Nat → Code → Code → Code
  | 0, R, _ => R
  | n + 1, R, .seq a b => .seq a (putRest n R b)
  | _, _, c => c
noncomputable def getRest : Nat → Code → Code
  | 0, c => c
  | n + 1, .seq _ b => getRest n b
  | _, c => c
noncomputable def R_laws_FnVotes : Code := getRest 9 c_laws_FnVotes
theorem cut_laws_FnVotes : putRest 9 R_laws_FnVotes c_laws_FnVotes = c_laws_FnVotes := by kernel_rfl
noncomputable def S_laws_FnVotes : Code := getRest 9 R_laws_FnVotes
theorem cuu_laws_FnVotes : putRest 9 S_laws_FnVotes R_laws_FnVotes = R_laws_FnVotes := by kernel_rfl
theorem u_laws_FnVotes (k : Nat) (y : List Int) : exec x_laws_FnVotes k S_laws_FnVotes (f_laws_FnVotes_j258o.st 357 ((((), ()), (y, ())))) (endK x_laws_FnVotes d_laws_FnVotes.ret) (fun _ _ => none) d_laws_FnVotes.ret = f_laws_FnVotes_u k y := by kernel_rfl
theorem K_laws_FnVotes (R : Code) (k : Nat) (y : List Int) : exec x_laws_FnVotes k (putRest 9 R R_laws_FnVotes) (f_laws_FnVotes_j119o.st 357 ((((), ()), (y, ())))) (endK x_laws_FnVotes d_laws_FnVotes.ret) (fun _ _ => none) d_laws_FnVotes.ret = G_laws_FnVotes (fun k y => exec x_laws_FnVotes k R (f_laws_FnVotes_j258o.st 357 ((((), ()), (y, ())))) (endK x_laws_FnVotes d_laws_FnVotes.ret) (fun _ _ => none) d_laws_FnVotes.ret) k y := by kernel_rfl
theorem t_laws_FnVotes (k : Nat) (y : List Int) : exec x_laws_FnVotes k R_laws_FnVotes (f_laws_FnVotes_j119o.st 357 ((((), ()), (y, ())))) (endK x_laws_FnVotes d_laws_FnVotes.ret) (fun _ _ => none) d_laws_FnVotes.ret = f_laws_FnVotes_t k y :=
  (congrArg (fun c => exec x_laws_FnVotes k c (f_laws_FnVotes_j119o.st 357 ((((), ()), (y, ())))) (endK x_laws_FnVotes d_laws_FnVotes.ret) (fun _ _ => none) d_laws_FnVotes.ret) cuu_laws_FnVotes.symm).trans ((K_laws_FnVotes S_laws_FnVotes k y).trans (congrArg (fun T => G_laws_FnVotes T k y) (funext fun k => funext fun y => u_laws_FnVotes k y)))
theorem H_laws_FnVotes (R : Code) (k : Nat) (x : Tup d_laws_FnVotes.ps) : F_laws_FnVotes (fun k y => exec x_laws_FnVotes k R (f_laws_FnVotes_j119o.st 357 ((((), ()), (y, ())))) (endK x_laws_FnVotes d_laws_FnVotes.ret) (fun _ _ => none) d_laws_FnVotes.ret) (k + 1) x.1 x.2.1 = fnK d_laws_FnVotes x_laws_FnVotes (putRest 9 R c_laws_FnVotes) k x := by kernel_rfl
theorem T_laws_FnVotes : f_laws_FnVotes_t = fun k y => exec x_laws_FnVotes k R_laws_FnVotes (f_laws_FnVotes_j119o.st 357 ((((), ()), (y, ())))) (endK x_laws_FnVotes d_laws_FnVotes.ret) (fun _ _ => none) d_laws_FnVotes.ret := funext fun k => funext fun y => (t_laws_FnVotes k y).symm
theorem h_laws_FnVotes (k : Nat) (x : Tup d_laws_FnVotes.ps) : d_laws_FnVotes.f (k + 1) x = fnK d_laws_FnVotes x_laws_FnVotes c_laws_FnVotes k x :=
  (congrArg (fun T => F_laws_FnVotes T (k + 1) x.1 x.2.1) T_laws_FnVotes).trans ((H_laws_FnVotes R_laws_FnVotes k x).trans (congrArg (fun c => fnK d_laws_FnVotes x_laws_FnVotes c k x) cut_laws_FnVotes))
theorem z_laws_FnVotes (x : Tup d_laws_FnVotes.ps) : d_laws_FnVotes.f 0 x = none := by kernel_rfl
theorem l_laws_FnVotes (k : Nat) : LOK Try.prog x_laws_FnVotes k c_laws_FnVotes := LOK.by [(f_laws_FnVotes_j119D.E, .cond (.tmp 119) f_laws_FnVotes_j119X f_laws_FnVotes_j119Y), (f_laws_FnVotes_j258D.E, .cond (.tmp 258) f_laws_FnVotes_j258X f_laws_FnVotes_j258Y)] (by kernel_rfl) (AllOK.cons (f_laws_FnVotes_j119ok k) (AllOK.cons (f_laws_FnVotes_j258ok k) AllOK.nil))
theorem s_laws_FnVotes (k : Nat) : SoundAt Try.prog k 4 d_laws_FnVotes.E := @fn_all Try.prog d_laws_FnVotes x_laws_FnVotes 4 Try.f4 c_laws_FnVotes (by kernel_rfl) (by kernel_rfl) (by kernel_rfl) Try.func4 (by kernel_rfl) (by kernel_rfl) (by kernel_rfl) T_ok g_laws_FnVotes l_laws_FnVotes z_laws_FnVotes h_laws_FnVotes k
end
end Go.Proofs.Ytgjmhbjdhihgaaa.Vs

set_option linter.unusedVariables false
set_option linter.unusedSimpArgs false
namespace Go.Proofs.Ytgjmhbjdhihgaaa.Vs
open Go.RowKit
theorem e_spec_l1In (a b c : Int) : Ev (fun k => f_spec_l1In k a b c) (decide (b ≤ a ∧ a ≤ c)) := by
  refine Ev.succ ?_
  simp only [f_spec_l1In]
  refine Ev.of ?_
  by_cases h1 : b ≤ a <;> by_cases h2 : a ≤ c <;> simp [h1, h2]
theorem e_spec_l1All_0 (lo hi : Int) : ∀ (r pre : List Int), (pre ++ r).length ≤ 9223372036854775806 → Ev (fun k => f_spec_l1All_0 k lo hi (pre ++ r) ((pre ++ r).length : Int) (pre.length : Int)) (if r.all (fun n => decide (lo ≤ n ∧ n ≤ hi)) then LR.go () else LR.ret false)
  | [], pre, hl => by
    refine Ev.succ ?_
    simp only [f_spec_l1All_0, nlt_end, decide_false, Bool.false_eq_true, if_false, List.all_nil, if_true]
    exact Ev.some _
  | x :: r, pre, hl => by
    have ih := e_spec_l1All_0 lo hi r (pre ++ [x]) (by simpa using hl)
    refine Ev.succ ?_
    simp only [f_spec_l1All_0, lt_mid, ge_mid, decide_true, if_true, Int.toNat_natCast, getD_mid]
    rw [next_mid pre x r (by omega)]
    rw [← shift_mid] at ih
    refine Ev.bind (e_spec_l1In x lo hi) ?_
    by_cases hx : lo ≤ x ∧ x ≤ hi
    · simp only [hx, and_self, List.all_cons, decide_true, Bool.true_and, Bool.not_true, Bool.false_eq_true, if_false]; exact ih
    · simp only [hx, List.all_cons, decide_false, Bool.false_and, Bool.not_false, if_true, Bool.false_eq_true, if_false]; exact Ev.some _
theorem e_spec_l1All (l : List Int) (lo hi : Int) (hl : l.length ≤ 9223372036854775806) : Ev (fun k => f_spec_l1All k l lo hi) (l.all fun n => decide (lo ≤ n ∧ n ≤ hi)) := by
  refine Ev.succ ?_
  simp only [f_spec_l1All]
  refine Ev.bind (e_spec_l1All_0 lo hi l [] (by simpa using hl)) ?_
  cases hx : l.all fun n => decide (lo ≤ n ∧ n ≤ hi) with
  | true => simp only [if_true]; exact Ev.go (Ev.some _)
  | false => simp only [Bool.false_eq_true, if_false]; exact Ev.ret (Ev.some _)
end Go.Proofs.Ytgjmhbjdhihgaaa.Vs

set_option linter.unusedVariables false
set_option linter.unusedSimpArgs false
namespace Go.Proofs.Ytgjmhbjdhihgaaa.Vs
open Go.RowKit
end Go.Proofs.Ytgjmhbjdhihgaaa.Vs

set_option linter.unusedVariables false
set_option linter.unusedSimpArgs false
namespace Go.Proofs.Ytgjmhbjdhihgaaa.Vs
open Go.RowKit
theorem ten {c : List Int} (h : c.length = 10) : [List.getD c 0 0, List.getD c 1 0, List.getD c 2 0, List.getD c 3 0, List.getD c 4 0, List.getD c 5 0, List.getD c 6 0, List.getD c 7 0, List.getD c 8 0, List.getD c 9 0] = c := by
  match c, h with
  | [_, _, _, _, _, _, _, _, _, _], _ => rfl
def digs (l : List Int) : Bool := l.all fun n => decide (0 ≤ n ∧ n ≤ 9)
theorem e_impl_areDigits_0 : ∀ (r pre : List Int), (pre ++ r).length ≤ 9223372036854775806 → Ev (fun k => f_impl_areDigits_0 k (pre ++ r) ((pre ++ r).length : Int) (pre.length : Int)) (if digs r then LR.go () else LR.ret false)
  | [], pre, hl => by
    refine Ev.succ ?_
    simp only [f_impl_areDigits_0, nlt_end, decide_false, Bool.false_eq_true, if_false, digs, List.all_nil, if_true]
    exact Ev.some _
  | x :: r, pre, hl => by
    have ih := e_impl_areDigits_0 r (pre ++ [x]) (by simpa using hl)
    refine Ev.succ ?_
    simp only [f_impl_areDigits_0, lt_mid, ge_mid, decide_true, if_true, Int.toNat_natCast, getD_mid]
    rw [next_mid pre x r (by omega)]
    rw [← shift_mid] at ih
    refine Ev.ite (fun h => ?_) (fun h => Ev.ite (fun h2 => ?_) (fun h2 => ?_))
    · simp only [decide_eq_true_eq] at h
      have hx : ¬ (0 ≤ x ∧ x ≤ 9) := by omega
      simp only [digs, List.all_cons, hx, decide_false, Bool.false_and, Bool.false_eq_true, if_false]; exact Ev.some _
    · simp only [decide_eq_true_eq] at h2
      have hx : ¬ (0 ≤ x ∧ x ≤ 9) := by omega
      simp only [digs, List.all_cons, hx, decide_false, Bool.false_and, Bool.false_eq_true, if_false]; exact Ev.some _
    · simp only [decide_eq_true_eq] at h h2
      have hx : 0 ≤ x ∧ x ≤ 9 := by omega
      simp only [digs, List.all_cons, hx, and_self, decide_true, Bool.true_and]; exact ih
theorem e_impl_areDigits (l : List Int) (hl : l.length ≤ 9223372036854775806) : Ev (fun k => f_impl_areDigits k l) (digs l) := by
  refine Ev.succ ?_
  simp only [f_impl_areDigits]
  refine Ev.bind (e_impl_areDigits_0 l [] (by simpa using hl)) ?_
  cases hx : digs l with
  | true => simp only [if_true]; exact Ev.go (Ev.some _)
  | false => simp only [Bool.false_eq_true, if_false]; exact Ev.ret (Ev.some _)
def votesOK (l : List Int) : Bool := decide (1 ≤ l.length ∧ l.length ≤ 9) && digs l
theorem votes_ok {l : List Int} (h : votesOK l = true) : l.length ≤ 9 ∧ ∀ x ∈ l, 0 ≤ x ∧ x ≤ 9 := by
  unfold votesOK digs at h
  simp only [Bool.and_eq_true, decide_eq_true_eq, List.all_eq_true] at h
  exact ⟨h.1.2, h.2⟩
theorem e_impl_areVotes (l : List Int) (hl : l.length ≤ 9223372036854775806) : Ev (fun k => f_impl_areVotes k l) (votesOK l) := by
  refine Ev.succ ?_
  simp only [f_impl_areVotes]
  refine Ev.ite (fun h => Ev.ite (fun h2 => ?_) (fun h2 => ?_)) (fun h => ?_)
  · simp only [decide_eq_true_eq] at h h2
    have h3 : 1 ≤ l.length ∧ l.length ≤ 9 := by omega
    refine (Ev.bind (e_impl_areDigits l hl) (Ev.some _)).congr ?_
    simp only [votesOK, h3, and_self, decide_true, Bool.true_and]
  · simp only [decide_eq_true_eq] at h h2
    have h3 : ¬ (1 ≤ l.length ∧ l.length ≤ 9) := by omega
    exact Ev.of (by simp only [votesOK, h3, decide_false, Bool.false_and])
  · simp only [decide_eq_true_eq] at h
    have h3 : ¬ (1 ≤ l.length ∧ l.length ≤ 9) := by omega
    exact Ev.of (by simp only [votesOK, h3, decide_false, Bool.false_and])
theorem e_spec_voVotes (l : List Int) (hl : l.length ≤ 9223372036854775806) : Ev (fun k => f_spec_voVotes k l) (votesOK l) := by
  refine Ev.succ ?_
  simp only [f_spec_voVotes]
  refine Ev.bind (e_spec_l1In _ _ _) (Ev.ite (fun h => ?_) (fun h => ?_))
  · simp only [decide_eq_true_eq] at h
    have h3 : 1 ≤ l.length ∧ l.length ≤ 9 := by omega
    refine (Ev.bind (e_spec_l1All l _ _ hl) (Ev.some _)).congr ?_
    simp only [votesOK, h3, and_self, decide_true, Bool.true_and, digs]
  · simp only [decide_eq_true_eq] at h
    have h3 : ¬ (1 ≤ l.length ∧ l.length ≤ 9) := by omega
    exact Ev.of (by simp only [votesOK, h3, decide_false, Bool.false_and])
/-! ### Counts -/
def cnt : List Int → List Int → List Int
  | [], c => c
  | x :: r, c => cnt r (List.set c x.toNat (List.getD c x.toNat 0 + 1))
def zeros : List Int := List.replicate 10 0
theorem cnt_len : ∀ (r c : List Int), (cnt r c).length = c.length
  | [], _ => rfl
  | x :: r, c => by simp [cnt, cnt_len r]
theorem getD_set (c : List Int) (i j : Nat) (x : Int) (hi : i < c.length) : List.getD (List.set c i x) j 0 = if j = i then x else List.getD c j 0 := by
  simp only [List.getD, List.getElem?_set]
  by_cases h : j = i
  · subst h; simp [hi]
  · rw [if_neg h, if_neg (fun h2 => h h2.symm)]
def Small (c : List Int) (n : Int) : Prop := ∀ i, 0 ≤ List.getD c i 0 ∧ List.getD c i 0 ≤ n
theorem Small.set {c : List Int} {n : Int} (h : Small c n) {i : Nat} (hi : i < c.length) {x : Int} (hx : 0 ≤ x) : Small (List.set c i (List.getD c i 0 + x)) (n + x) := by
  intro j
  rw [getD_set c i j _ hi]
  have h1 := h i
  have h2 := h j
  split <;> omega
theorem getD_repl {α : Type} (n i : Nat) (x : α) : List.getD (List.replicate n x) i x = x := by
  simp only [List.getD, List.getElem?_replicate]
  split <;> rfl
theorem small_zeros : Small zeros 0 := by
  intro i
  have := getD_repl 10 i (0 : Int)
  unfold zeros
  omega
theorem e_spec_voMost_0 : ∀ (r pre c : List Int), c.length = 10 → (∀ x ∈ r, 0 ≤ x ∧ x ≤ 9) → Small c (pre.length : Int) → (pre ++ r).length ≤ 1000 → Ev (fun k => f_spec_voMost_0 k c (pre ++ r) ((pre ++ r).length : Int) (pre.length : Int)) (cnt r c)
  | [], pre, c, hc, hr, hs, hl => by
    refine Ev.succ ?_
    simp only [f_spec_voMost_0, nlt_end, decide_false, Bool.false_eq_true, if_false, cnt]
    exact Ev.some _
  | x :: r, pre, c, hc, hr, hs, hl => by
    obtain ⟨x0, x9⟩ := hr x (List.mem_cons_self ..)
    have hx : x.toNat < c.length := by omega
    have h1 : x < (c.length : Int) := by omega
    have hsx := hs x.toNat
    have hlen : pre.length + 1 ≤ 1000 := by simp at hl; omega
    have ih := e_spec_voMost_0 r (pre ++ [x]) (List.set c x.toNat (List.getD c x.toNat 0 + 1)) (by simpa using hc) (fun y hy => hr y (List.mem_cons_of_mem _ hy)) (by have := hs.set hx (x := 1) (by omega); simpa using this) (by simpa using hl)
    refine Ev.succ ?_
    simp only [f_spec_voMost_0, lt_mid, ge_mid, decide_true, if_true, Int.toNat_natCast, getD_mid, x0, h1]
    rw [next_mid pre x r (by omega), w64 (n := List.getD c x.toNat 0 + 1) (by omega) (by omega)]
    rw [← shift_mid] at ih
    exact ih
theorem e_impl_mostVoted_0 : ∀ (r pre c : List Int), c.length = 10 → (∀ x ∈ r, 0 ≤ x ∧ x ≤ 9) → Small c (pre.length : Int) → (pre ++ r).length ≤ 1000 → Ev (fun k => f_impl_mostVoted_0 k (List.getD c 0 0) (List.getD c 1 0) (List.getD c 2 0) (List.getD c 3 0) (List.getD c 4 0) (List.getD c 5 0) (List.getD c 6 0) (List.getD c 7 0) (List.getD c 8 0) (List.getD c 9 0) (pre ++ r) ((pre ++ r).length : Int) (pre.length : Int)) (List.getD (cnt r c) 0 0, List.getD (cnt r c) 1 0, List.getD (cnt r c) 2 0, List.getD (cnt r c) 3 0, List.getD (cnt r c) 4 0, List.getD (cnt r c) 5 0, List.getD (cnt r c) 6 0, List.getD (cnt r c) 7 0, List.getD (cnt r c) 8 0, List.getD (cnt r c) 9 0)
  | [], pre, c, hc, hr, hs, hl => by
    refine Ev.succ ?_
    simp only [f_impl_mostVoted_0, nlt_end, decide_false, Bool.false_eq_true, if_false, cnt]
    exact Ev.some _
  | x :: r, pre, c, hc, hr, hs, hl => by
    obtain ⟨x0, x9⟩ := hr x (List.mem_cons_self ..)
    have hx : x.toNat < c.length := by omega
    have h1 : x < ((10 : Nat) : Int) := by omega
    have hsx := hs x.toNat
    have hlen : pre.length + 1 ≤ 1000 := by simp at hl; omega
    have ih := e_impl_mostVoted_0 r (pre ++ [x]) (List.set c x.toNat (List.getD c x.toNat 0 + 1)) (by simpa using hc) (fun y hy => hr y (List.mem_cons_of_mem _ hy)) (by have := hs.set hx (x := 1) (by omega); simpa using this) (by simpa using hl)
    refine Ev.succ ?_
    simp only [f_impl_mostVoted_0, lt_mid, ge_mid, decide_true, if_true, Int.toNat_natCast, getD_mid, x0, h1, ten hc, hx]
    rw [next_mid pre x r (by omega), w64 (n := List.getD c x.toNat 0 + 1) (by omega) (by omega)]
    rw [← shift_mid] at ih
    exact ih
/-- The first one of the greatest from i on, b being the best till there. -/
def bestF (c : List Int) : Nat → Nat → Int → Int
  | 0, _, b => b
  | d + 1, i, b => bestF c d (i + 1) (if List.getD c i 0 > List.getD c b.toNat 0 then (i : Int) else b)
theorem bestF_in (c : List Int) : ∀ (d i : Nat) (b : Int), i + d = 10 → 0 ≤ b → b < 10 → 0 ≤ bestF c d i b ∧ bestF c d i b < 10
  | 0, i, b, h, h0, h1 => ⟨h0, h1⟩
  | d + 1, i, b, h, h0, h1 => by
    simp only [bestF]
    split
    · exact bestF_in c d (i + 1) i (by omega) (by omega) (by omega)
    · exact bestF_in c d (i + 1) b (by omega) h0 h1
theorem e_spec_voMost_2 {c : List Int} (hc : c.length = 10) : ∀ (d i : Nat) (b : Int), i + d = 10 → 0 ≤ b → b < 10 → Ev (fun k => f_spec_voMost_2 k c b 10 (i : Int)) (c, bestF c d i b)
  | 0, i, b, h, h0, h1 => by
    have : ¬ (i : Int) < 10 := by omega
    refine Ev.succ ?_
    simp only [f_spec_voMost_2, this, decide_false, Bool.false_eq_true, if_false, bestF]
    exact Ev.some _
  | d + 1, i, b, h, h0, h1 => by
    have g1 : (i : Int) < 10 := by omega
    have g2 : (i : Int) < (c.length : Int) := by omega
    have g3 : b < (c.length : Int) := by omega
    have g4 : wrap64 ((i : Int) + 1) = ((i + 1 : Nat) : Int) := by rw [w64 (by omega) (by omega)]; omega
    refine Ev.succ ?_
    simp only [f_spec_voMost_2, g1, g2, g3, g4, h0, decide_true, if_true, Int.natCast_nonneg, Int.toNat_natCast, bestF]
    refine Ev.ite (fun hh => ?_) (fun hh => ?_)
    · rw [if_pos (of_decide_eq_true hh)]
      exact e_spec_voMost_2 hc d (i + 1) i (by omega) (by omega) (by omega)
    · rw [if_neg (fun h9 => hh (decide_eq_true h9))]
      exact e_spec_voMost_2 hc d (i + 1) b (by omega) h0 h1
theorem e_impl_mostVoted_2 {c : List Int} (hc : c.length = 10) : ∀ (d i : Nat) (b : Int), i + d = 10 → 0 ≤ b → b < 10 → Ev (fun k => f_impl_mostVoted_2 k (List.getD c 0 0) (List.getD c 1 0) (List.getD c 2 0) (List.getD c 3 0) (List.getD c 4 0) (List.getD c 5 0) (List.getD c 6 0) (List.getD c 7 0) (List.getD c 8 0) (List.getD c 9 0) b (List.getD c 0 0) (List.getD c 1 0) (List.getD c 2 0) (List.getD c 3 0) (List.getD c 4 0) (List.getD c 5 0) (List.getD c 6 0) (List.getD c 7 0) (List.getD c 8 0) (List.getD c 9 0) (i : Int)) (List.getD c 0 0, List.getD c 1 0, List.getD c 2 0, List.getD c 3 0, List.getD c 4 0, List.getD c 5 0, List.getD c 6 0, List.getD c 7 0, List.getD c 8 0, List.getD c 9 0, bestF c d i b)
  | 0, i, b, h, h0, h1 => by
    have : ¬ (i : Int) < 10 := by omega
    refine Ev.succ ?_
    simp only [f_impl_mostVoted_2, this, decide_false, Bool.false_eq_true, if_false, bestF]
    exact Ev.some _
  | d + 1, i, b, h, h0, h1 => by
    have g1 : (i : Int) < 10 := by omega
    have g2 : (i : Int) < ((10 : Nat) : Int) := by omega
    have g3 : b < ((10 : Nat) : Int) := by omega
    have g5 : b.toNat < c.length := by omega
    have g4 : wrap64 ((i : Int) + 1) = ((i + 1 : Nat) : Int) := by rw [w64 (by omega) (by omega)]; omega
    refine Ev.succ ?_
    simp only [f_impl_mostVoted_2, ten hc, g1, g2, g3, g4, g5, h0, decide_true, if_true, Int.natCast_nonneg, Int.toNat_natCast, bestF]
    refine Ev.ite (fun hh => ?_) (fun hh => ?_)
    · rw [if_pos (of_decide_eq_true hh)]
      exact e_impl_mostVoted_2 hc d (i + 1) i (by omega) (by omega) (by omega)
    · rw [if_neg (fun h9 => hh (decide_eq_true h9))]
      exact e_impl_mostVoted_2 hc d (i + 1) b (by omega) h0 h1
def countsOf (l : List Int) : List Int := cnt l zeros
theorem counts_len (l : List Int) : (countsOf l).length = 10 := by unfold countsOf; rw [cnt_len]; rfl
def mostOf (l : List Int) : Int := bestF (countsOf l) 10 0 0
theorem most_in (l : List Int) : 0 ≤ mostOf l ∧ mostOf l < 10 := bestF_in _ 10 0 0 rfl (by omega) (by omega)
def manyOf (l : List Int) : Int := List.getD (countsOf l) (mostOf l).toNat 0
theorem cnt_small : ∀ (r c : List Int) (n : Int), c.length = 10 → (∀ x ∈ r, 0 ≤ x ∧ x ≤ 9) → Small c n → Small (cnt r c) (n + r.length)
  | [], c, n, hc, hr, hs => by simpa [cnt] using hs
  | x :: r, c, n, hc, hr, hs => by
    obtain ⟨x0, x9⟩ := hr x (List.mem_cons_self ..)
    have h1 := cnt_small r _ (n + 1) (by simpa using hc) (fun y hy => hr y (List.mem_cons_of_mem _ hy)) (hs.set (i := x.toNat) (by omega) (x := 1) (by omega))
    simp only [cnt]
    have e : n + 1 + (r.length : Int) = n + ((x :: r).length : Int) := by simp only [List.length_cons]; omega
    rw [← e]
    exact h1
theorem many_in {l : List Int} (h : ∀ x ∈ l, 0 ≤ x ∧ x ≤ 9) : 0 ≤ manyOf l ∧ manyOf l ≤ (l.length : Int) := by
  have := cnt_small l zeros 0 rfl h small_zeros (mostOf l).toNat
  unfold manyOf countsOf
  omega
theorem e_spec_voMost (l : List Int) (h : ∀ x ∈ l, 0 ≤ x ∧ x ≤ 9) (hl : l.length ≤ 1000) : Ev (fun k => f_spec_voMost k l) (mostOf l, manyOf l) := by
  have hm := most_in l
  have hlt : mostOf l < ((countsOf l).length : Int) := by rw [counts_len]; omega
  refine Ev.succ ?_
  simp only [f_spec_voMost]
  refine Ev.bind (e_spec_voMost_0 l [] zeros rfl h small_zeros (by simpa using hl)) ?_
  show Ev (fun k => Option.bind (f_spec_voMost_2 k (countsOf l) 0 ((countsOf l).length : Int) 0) _) _
  rw [counts_len]
  refine Ev.bind (e_spec_voMost_2 (counts_len l) 10 0 0 rfl (by omega) (by omega)) ?_
  show Ev (fun k => if 0 ≤ mostOf l then if mostOf l < ((countsOf l).length : Int) then some (mostOf l, manyOf l) else none else none) _
  rw [if_pos hm.1, if_pos hlt]
  exact Ev.some _
theorem e_impl_mostVoted (l : List Int) (h : ∀ x ∈ l, 0 ≤ x ∧ x ≤ 9) (hl : l.length ≤ 1000) : Ev (fun k => f_impl_mostVoted k l) (mostOf l, manyOf l) := by
  have hm := most_in l
  have hc := counts_len l
  have g5 : (mostOf l).toNat < (countsOf l).length := by omega
  have g3 : mostOf l < ((10 : Nat) : Int) := by omega
  refine Ev.succ ?_
  simp only [f_impl_mostVoted]
  refine Ev.bind (e_impl_mostVoted_0 l [] zeros rfl h small_zeros (by simpa using hl)) ?_
  refine Ev.bind (e_impl_mostVoted_2 (counts_len l) 10 0 0 rfl (by omega) (by omega)) ?_
  show Ev (fun k => if 0 ≤ mostOf l then if mostOf l < ((10 : Nat) : Int) then if (mostOf l).toNat < List.length [List.getD (countsOf l) 0 0, List.getD (countsOf l) 1 0, List.getD (countsOf l) 2 0, List.getD (countsOf l) 3 0, List.getD (countsOf l) 4 0, List.getD (countsOf l) 5 0, List.getD (countsOf l) 6 0, List.getD (countsOf l) 7 0, List.getD (countsOf l) 8 0, List.getD (countsOf l) 9 0] then some (mostOf l, List.getD [List.getD (countsOf l) 0 0, List.getD (countsOf l) 1 0, List.getD (countsOf l) 2 0, List.getD (countsOf l) 3 0, List.getD (countsOf l) 4 0, List.getD (countsOf l) 5 0, List.getD (countsOf l) 6 0, List.getD (countsOf l) 7 0, List.getD (countsOf l) 8 0, List.getD (countsOf l) 9 0] (mostOf l).toNat 0) else none else none else none) _
  rw [if_pos hm.1, if_pos g3, ten hc, if_pos g5]
  exact Ev.some _
def r_MostVoted (l : List Int) : Int × Int × Bool := if votesOK l then (mostOf l, manyOf l, true) else (0, 0, false)
theorem e_spec_MostVoted (l : List Int) (h0 : l.length ≤ 9223372036854775806) : Ev (fun k => f_spec_MostVoted k l) (r_MostVoted l) := by
  refine Ev.succ ?_
  simp only [f_spec_MostVoted]
  unfold r_MostVoted
  refine Ev.bind (a := votesOK l) (e_spec_voVotes l h0) ?_
  cases g0 : votesOK l with
  | false => simp only [Bool.not_false, if_true, Bool.false_eq_true, if_false, Bool.false_and, Bool.and_false]; exact Ev.some _
  | true =>
    simp only [Bool.not_true, Bool.false_eq_true, if_false, if_true, Bool.and_self]
    obtain ⟨h9, hd⟩ := votes_ok g0
    exact Ev.bind (e_spec_voMost l hd (by omega)) (Ev.some _)
theorem e_impl_MostVoted (l : List Int) (h0 : l.length ≤ 9223372036854775806) : Ev (fun k => f_impl_MostVoted k l) (r_MostVoted l) := by
  refine Ev.succ ?_
  simp only [f_impl_MostVoted]
  unfold r_MostVoted
  refine Ev.bind (a := votesOK l) (e_impl_areVotes l h0) ?_
  cases g0 : votesOK l with
  | false => simp only [Bool.not_false, if_true, Bool.false_eq_true, if_false, Bool.false_and, Bool.and_false]; exact Ev.some _
  | true =>
    simp only [Bool.not_true, Bool.false_eq_true, if_false, if_true, Bool.and_self]
    obtain ⟨h9, hd⟩ := votes_ok g0
    exact Ev.bind (e_impl_mostVoted l hd (by omega)) (Ev.some _)
def r_MajorityOf (l : List Int) : Int × Bool := if votesOK l then (if 2 * manyOf l ≤ (l.length : Int) then (0, false) else (mostOf l, true)) else (0, false)
theorem e_spec_MajorityOf (l : List Int) (h0 : l.length ≤ 9223372036854775806) : Ev (fun k => f_spec_MajorityOf k l) (r_MajorityOf l) := by
  refine Ev.succ ?_
  simp only [f_spec_MajorityOf]
  unfold r_MajorityOf
  refine Ev.bind (a := votesOK l) (e_spec_voVotes l h0) ?_
  cases g0 : votesOK l with
  | false => simp only [Bool.not_false, if_true, Bool.false_eq_true, if_false, Bool.false_and, Bool.and_false]; exact Ev.some _
  | true =>
    simp only [Bool.not_true, Bool.false_eq_true, if_false, if_true, Bool.and_self]
    obtain ⟨h9, hd⟩ := votes_ok g0
    have hm := many_in hd
    refine Ev.bind (e_spec_voMost l hd (by omega)) ?_
    simp only []
    rw [w64 (n := 2 * manyOf l) (by omega) (by omega)]
    refine Ev.ite (fun h => ?_) (fun h => ?_)
    · rw [if_pos (of_decide_eq_true h)]; exact Ev.some _
    · rw [if_neg (fun h8 => h (decide_eq_true h8))]; exact Ev.some _
theorem e_impl_MajorityOf (l : List Int) (h0 : l.length ≤ 9223372036854775806) : Ev (fun k => f_impl_MajorityOf k l) (r_MajorityOf l) := by
  refine Ev.succ ?_
  simp only [f_impl_MajorityOf]
  unfold r_MajorityOf
  refine Ev.bind (a := votesOK l) (e_impl_areVotes l h0) ?_
  cases g0 : votesOK l with
  | false => simp only [Bool.not_false, if_true, Bool.false_eq_true, if_false, Bool.false_and, Bool.and_false]; exact Ev.some _
  | true =>
    simp only [Bool.not_true, Bool.false_eq_true, if_false, if_true, Bool.and_self]
    obtain ⟨h9, hd⟩ := votes_ok g0
    have hm := many_in hd
    refine Ev.bind (e_impl_mostVoted l hd (by omega)) ?_
    simp only []
    rw [w64 (n := 2 * manyOf l) (by omega) (by omega)]
    refine Ev.ite (fun h => ?_) (fun h => ?_)
    · rw [if_pos (of_decide_eq_true h)]; exact Ev.some _
    · rw [if_neg (fun h8 => h (decide_eq_true h8))]; exact Ev.some _
end Go.Proofs.Ytgjmhbjdhihgaaa.Vs

set_option linter.unusedVariables false
set_option linter.unusedSimpArgs false
namespace Go.Proofs.Ytgjmhbjdhihgaaa.Vs
open Go.RowKit
end Go.Proofs.Ytgjmhbjdhihgaaa.Vs

set_option linter.unusedVariables false
set_option linter.unusedSimpArgs false
namespace Go.Proofs.Ytgjmhbjdhihgaaa.Vs
open Go.RowKit
end Go.Proofs.Ytgjmhbjdhihgaaa.Vs

set_option linter.unusedVariables false
set_option linter.unusedSimpArgs false
namespace Go.Proofs.Ytgjmhbjdhihgaaa.Vs
open Go.RowKit
end Go.Proofs.Ytgjmhbjdhihgaaa.Vs

set_option linter.unusedVariables false
set_option linter.unusedSimpArgs false
namespace Go.Proofs.Ytgjmhbjdhihgaaa.Vs
open Go.RowKit
/-! ### Rows -/
def rowVOK (n : Nat) (x : List Int) : Bool := decide (x.length = n) && (decide (x.length ≤ 40) && digs x)
def rowsOK (R : List (List Int)) : Bool := decide (1 ≤ R.length ∧ R.length ≤ 9) && R.all (rowVOK (List.getD R 0 []).length)
theorem e_impl_areRows_0 (R : List (List Int)) (hR : 0 < R.length) : ∀ (r pre : List (List Int)), (∀ x ∈ r, x.length ≤ 9223372036854775806) → (pre ++ r).length ≤ 9223372036854775806 → Ev (fun k => f_impl_areRows_0 k R (pre ++ r) ((pre ++ r).length : Int) (pre.length : Int)) (if r.all (rowVOK (List.getD R 0 []).length) then LR.go () else LR.ret false)
  | [], pre, hx, hl => by
    refine Ev.succ ?_
    simp only [f_impl_areRows_0, nlt_end, decide_false, Bool.false_eq_true, if_false, List.all_nil, if_true]
    exact Ev.some _
  | x :: r, pre, hx, hl => by
    have ih := e_impl_areRows_0 R hR r (pre ++ [x]) (fun y hy => hx y (List.mem_cons_of_mem _ hy)) (by simpa using hl)
    have h0 : (0 : Int) < (R.length : Int) := by omega
    have hd : ∀ q, rowVOK q x = (decide (x.length = q) && (decide (x.length ≤ 40) && digs x)) := fun _ => rfl
    refine Ev.succ ?_
    simp only [f_impl_areRows_0, lt_mid, ge_mid, decide_true, if_true, Int.toNat_natCast, getD_mid, h0, Int.toNat_zero, List.all_cons]
    rw [next_mid pre x r (by omega)]
    rw [← shift_mid] at ih
    refine Ev.ite (fun h => ?_) (fun h => Ev.ite (fun h2 => ?_) (fun h2 => ?_))
    · simp only [decide_eq_true_eq] at h
      have h1 : ¬ x.length = (List.getD R 0 []).length := by omega
      exact Ev.of (by simp only [hd, h1, decide_false, Bool.false_and, Bool.false_eq_true, if_false])
    · simp only [decide_eq_true_eq] at h2
      have h1 : ¬ x.length ≤ 40 := by omega
      exact Ev.of (by simp only [hd, h1, decide_false, Bool.false_and, Bool.and_false, Bool.false_eq_true, if_false])
    · simp only [decide_eq_true_eq] at h h2
      have h1 : x.length = (List.getD R 0 []).length := by omega
      have h3 : x.length ≤ 40 := by omega
      refine Ev.bind (e_impl_areDigits x (hx x (List.mem_cons_self ..))) ?_
      simp only [hd, h3, decide_true, Bool.true_and]
      cases hg : digs x with
      | true => simp only [Bool.not_true, Bool.false_eq_true, if_false, decide_eq_true h1, Bool.true_and]; exact ih
      | false => simp only [Bool.not_false, if_true, Bool.and_false, Bool.false_and, Bool.false_eq_true, if_false]; exact Ev.some _
theorem e_spec_voRows_0 (R : List (List Int)) (hR : 0 < R.length) : ∀ (r pre : List (List Int)), (∀ x ∈ r, x.length ≤ 9223372036854775806) → (pre ++ r).length ≤ 9223372036854775806 → Ev (fun k => f_spec_voRows_0 k R (pre ++ r) ((pre ++ r).length : Int) (pre.length : Int)) (if r.all (rowVOK (List.getD R 0 []).length) then LR.go R else LR.ret false)
  | [], pre, hx, hl => by
    refine Ev.succ ?_
    simp only [f_spec_voRows_0, nlt_end, decide_false, Bool.false_eq_true, if_false, List.all_nil, if_true]
    exact Ev.some _
  | x :: r, pre, hx, hl => by
    have ih := e_spec_voRows_0 R hR r (pre ++ [x]) (fun y hy => hx y (List.mem_cons_of_mem _ hy)) (by simpa using hl)
    have h0 : (0 : Int) < (R.length : Int) := by omega
    have hd : ∀ q, rowVOK q x = (decide (x.length = q) && (decide (x.length ≤ 40) && digs x)) := fun _ => rfl
    refine Ev.succ ?_
    simp only [f_spec_voRows_0, lt_mid, ge_mid, decide_true, if_true, Int.toNat_natCast, getD_mid, h0, Int.toNat_zero, List.all_cons]
    rw [next_mid pre x r (by omega)]
    rw [← shift_mid] at ih
    refine Ev.ite (fun h => ?_) (fun h => Ev.ite (fun h2 => ?_) (fun h2 => ?_))
    · simp only [decide_eq_true_eq] at h
      have h1 : ¬ x.length = (List.getD R 0 []).length := by omega
      exact Ev.of (by simp only [hd, h1, decide_false, Bool.false_and, Bool.false_eq_true, if_false])
    · simp only [decide_eq_true_eq] at h2
      have h1 : ¬ x.length ≤ 40 := by omega
      exact Ev.of (by simp only [hd, h1, decide_false, Bool.false_and, Bool.and_false, Bool.false_eq_true, if_false])
    · simp only [decide_eq_true_eq] at h h2
      have h1 : x.length = (List.getD R 0 []).length := by omega
      have h3 : x.length ≤ 40 := by omega
      refine Ev.bind (a := digs x) (e_spec_l1All x 0 9 (hx x (List.mem_cons_self ..))) ?_
      simp only [hd, h3, decide_true, Bool.true_and]
      cases hg : digs x with
      | true => simp only [Bool.not_true, Bool.false_eq_true, if_false, decide_eq_true h1, Bool.true_and]; exact ih
      | false => simp only [Bool.not_false, if_true, Bool.and_false, Bool.false_and, Bool.false_eq_true, if_false]; exact Ev.some _
theorem e_impl_areRows (R : List (List Int)) (hx : ∀ x ∈ R, x.length ≤ 9223372036854775806) (hl : R.length ≤ 9223372036854775806) : Ev (fun k => f_impl_areRows k R) (rowsOK R) := by
  refine Ev.succ ?_
  simp only [f_impl_areRows]
  refine Ev.ite (fun h => ?_) (fun h => Ev.ite (fun h2 => ?_) (fun h2 => ?_))
  · simp only [decide_eq_true_eq] at h
    have h3 : ¬ (1 ≤ R.length ∧ R.length ≤ 9) := by omega
    exact Ev.of (by simp only [rowsOK, h3, decide_false, Bool.false_and])
  · simp only [decide_eq_true_eq] at h2
    have h3 : ¬ (1 ≤ R.length ∧ R.length ≤ 9) := by omega
    exact Ev.of (by simp only [rowsOK, h3, decide_false, Bool.false_and])
  · simp only [decide_eq_true_eq] at h h2
    have h3 : 1 ≤ R.length ∧ R.length ≤ 9 := by omega
    refine Ev.bind (e_impl_areRows_0 R (by omega) R [] hx (by simpa using hl)) ?_
    simp only [rowsOK, h3, and_self, decide_true, Bool.true_and]
    cases hg : R.all (rowVOK (List.getD R 0 []).length) with
    | true => simp only [if_true]; exact Ev.go (Ev.some _)
    | false => simp only [Bool.false_eq_true, if_false]; exact Ev.ret (Ev.some _)
theorem e_spec_voRows (R : List (List Int)) (hx : ∀ x ∈ R, x.length ≤ 9223372036854775806) (hl : R.length ≤ 9223372036854775806) : Ev (fun k => f_spec_voRows k R) (rowsOK R) := by
  refine Ev.succ ?_
  simp only [f_spec_voRows]
  have hco : Ev (fun k => f_spec_voCopies k (R.length : Int)) (decide (1 ≤ R.length ∧ R.length ≤ 9)) := by
    refine Ev.succ ?_
    simp only [f_spec_voCopies]
    refine (Ev.bind (e_spec_l1In _ _ _) (Ev.some _)).congr ?_
    apply decide_eq_decide.2
    omega
  by_cases h0 : 0 < R.length
  · refine Ev.bind (e_spec_voRows_0 R h0 R [] hx (by simpa using hl)) ?_
    cases hg : R.all (rowVOK (List.getD R 0 []).length) with
    | true =>
      simp only [if_true, rowsOK, hg, Bool.and_true]
      exact Ev.go (Ev.bind hco (Ev.some _))
    | false =>
      simp only [Bool.false_eq_true, if_false, rowsOK, hg, Bool.and_false]
      exact Ev.ret (Ev.some _)
  · have hn : R = [] := List.eq_nil_of_length_eq_zero (by omega)
    subst hn
    have hl0 : Ev (fun k => f_spec_voRows_0 k [] [] (([] : List (List Int)).length : Int) 0) (LR.go []) := by
      refine Ev.succ ?_
      simp only [f_spec_voRows_0, List.length_nil, Int.natCast_zero, Int.lt_irrefl, decide_false, Bool.false_eq_true, if_false]
      exact Ev.some _
    exact Ev.bind hl0 (Ev.go (Ev.bind hco (Ev.some _)))
theorem rows_ok {R : List (List Int)} (h : rowsOK R = true) : 0 < R.length ∧ R.length ≤ 9 ∧ (List.getD R 0 []).length ≤ 40 ∧ ∀ x ∈ R, x.length = (List.getD R 0 []).length ∧ ∀ y ∈ x, 0 ≤ y ∧ y ≤ 9 := by
  unfold rowsOK rowVOK digs at h
  simp only [Bool.and_eq_true, decide_eq_true_eq, List.all_eq_true] at h
  have h0 : 0 < R.length := by omega
  have hm : List.getD R 0 [] ∈ R := by simp [List.getD, List.getElem?_eq_getElem h0]
  exact ⟨h0, h.1.2, (h.2 _ hm).2.1, fun x hx => ⟨(h.2 x hx).1, (h.2 x hx).2.2⟩⟩
def colOf (R : List (List Int)) (k : Nat) : List Int := R.map fun x => List.getD x k 0
theorem e_spec_voPlace_0 (n k0 : Nat) (hk : k0 < n) : ∀ (r pre : List (List Int)) (acc : List Int), (∀ x ∈ r, x.length = n) → (pre ++ r).length ≤ 1000 → acc.length ≤ pre.length → Ev (fun k => f_spec_voPlace_0 k acc (k0 : Int) (pre ++ r) ((pre ++ r).length : Int) (pre.length : Int)) (acc ++ colOf r k0)
  | [], pre, acc, hx, hl, ha => by
    refine Ev.succ ?_
    simp only [f_spec_voPlace_0, nlt_end, decide_false, Bool.false_eq_true, if_false]
    exact Ev.of (by simp [colOf])
  | x :: r, pre, acc, hx, hl, ha => by
    have hxn := hx x (List.mem_cons_self ..)
    have ih := e_spec_voPlace_0 n k0 hk r (pre ++ [x]) (acc ++ [List.getD x k0 0]) (fun y hy => hx y (List.mem_cons_of_mem _ hy)) (by simpa using hl) (by simp; omega)
    rw [← shift_mid] at ih
    have h1 : (k0 : Int) < (x.length : Int) := by omega
    have hal : acc.length + 1 ≤ 140737488355328 / 8 := by simp at hl; omega
    refine Ev.succ ?_
    simp only [f_spec_voPlace_0, lt_mid, ge_mid, decide_true, if_true, Int.toNat_natCast, getD_mid, List.length_singleton, hal, h1, Int.natCast_nonneg]
    rw [next_mid pre x r (by omega)]
    refine ih.congr ?_
    simp [colOf]
theorem e_spec_voPlace (R : List (List Int)) (n k0 : Nat) (hk : k0 < n) (hR : ∀ x ∈ R, x.length = n) (hl : R.length ≤ 1000) : Ev (fun k => f_spec_voPlace k R (k0 : Int)) (colOf R k0) := by
  refine Ev.succ ?_
  simp only [f_spec_voPlace]
  exact Ev.bind (e_spec_voPlace_0 n k0 hk R [] [] hR (by simpa using hl) (by simp)) (Ev.some _)
theorem e_impl_column_0 (n k0 : Nat) (hk : k0 < n) : ∀ (r pre : List (List Int)) (acc : List Int), (∀ x ∈ r, x.length = n) → (pre ++ r).length ≤ 1000 → acc.length ≤ pre.length → Ev (fun k => f_impl_column_0 k acc (k0 : Int) (pre ++ r) ((pre ++ r).length : Int) (pre.length : Int)) (acc ++ colOf r k0)
  | [], pre, acc, hx, hl, ha => by
    refine Ev.succ ?_
    simp only [f_impl_column_0, nlt_end, decide_false, Bool.false_eq_true, if_false]
    exact Ev.of (by simp [colOf])
  | x :: r, pre, acc, hx, hl, ha => by
    have hxn := hx x (List.mem_cons_self ..)
    have ih := e_impl_column_0 n k0 hk r (pre ++ [x]) (acc ++ [List.getD x k0 0]) (fun y hy => hx y (List.mem_cons_of_mem _ hy)) (by simpa using hl) (by simp; omega)
    rw [← shift_mid] at ih
    have h1 : (k0 : Int) < (x.length : Int) := by omega
    have hal : acc.length + 1 ≤ 140737488355328 / 8 := by simp at hl; omega
    refine Ev.succ ?_
    simp only [f_impl_column_0, lt_mid, ge_mid, decide_true, if_true, Int.toNat_natCast, getD_mid, List.length_singleton, hal, h1, Int.natCast_nonneg]
    rw [next_mid pre x r (by omega)]
    refine ih.congr ?_
    simp [colOf]
theorem e_impl_column (R : List (List Int)) (n k0 : Nat) (hk : k0 < n) (hR : ∀ x ∈ R, x.length = n) (hl : R.length ≤ 1000) : Ev (fun k => f_impl_column k R (k0 : Int)) (colOf R k0) := by
  refine Ev.succ ?_
  simp only [f_impl_column]
  exact Ev.bind (e_impl_column_0 n k0 hk R [] [] hR (by simpa using hl) (by simp)) (Ev.some _)
def votedF (R : List (List Int)) (n : Nat) : List Int := (List.range n).map fun k => mostOf (colOf R k)
theorem votedF_len (R : List (List Int)) (n : Nat) : (votedF R n).length = n := by simp [votedF]
theorem votedF_succ (R : List (List Int)) (n : Nat) : votedF R (n + 1) = votedF R n ++ [mostOf (colOf R n)] := by simp [votedF, List.range_succ]
theorem col_digs {R : List (List Int)} {n k : Nat} (hk : k < n) (hR : ∀ x ∈ R, x.length = n ∧ ∀ y ∈ x, 0 ≤ y ∧ y ≤ 9) : ∀ y ∈ colOf R k, 0 ≤ y ∧ y ≤ 9 := by
  intro y hy
  obtain ⟨x, hx, rfl⟩ := List.mem_map.1 hy
  obtain ⟨h1, h2⟩ := hR x hx
  exact h2 _ (by simp [List.getD, List.getElem?_eq_getElem (show k < x.length by omega)])
theorem col_len (R : List (List Int)) (k : Nat) : (colOf R k).length = R.length := by simp [colOf]
theorem e_spec_voVoted_0 (R : List (List Int)) (n : Nat) (hn : n ≤ 1000) (hR : ∀ x ∈ R, x.length = n ∧ ∀ y ∈ x, 0 ≤ y ∧ y ≤ 9) (hl : R.length ≤ 1000) : ∀ (d i : Nat), i + d = n → Ev (fun k => f_spec_voVoted_0 k (votedF R i) R (n : Int) (i : Int)) (votedF R n)
  | 0, i, h => by
    obtain rfl : i = n := by omega
    refine Ev.succ ?_
    simp only [f_spec_voVoted_0, Int.lt_irrefl, decide_false, Bool.false_eq_true, if_false]
    exact Ev.some _
  | d + 1, i, h => by
    have h1 : (i : Int) < n := by omega
    have h5 : wrap64 ((i : Int) + 1) = ((i + 1 : Nat) : Int) := by rw [w64 (by omega) (by omega)]; omega
    have hal : i + 1 ≤ 140737488355328 / 8 := by omega
    have ih := e_spec_voVoted_0 R n hn hR hl d (i + 1) (by omega)
    rw [votedF_succ] at ih
    refine Ev.succ ?_
    simp only [f_spec_voVoted_0, h1, decide_true, if_true]
    refine Ev.bind (e_spec_voPlace R n i (by omega) (fun x hx => (hR x hx).1) hl) (Ev.bind (e_spec_voMost (colOf R i) (col_digs (by omega) hR) (by rw [col_len]; exact hl)) ?_)
    simp only [List.length_singleton, votedF_len, hal, if_true, h5]
    exact ih
theorem e_spec_voVoted (R : List (List Int)) (n : Nat) (hn : n ≤ 1000) (h0 : 0 < R.length) (hn0 : (List.getD R 0 []).length = n) (hR : ∀ x ∈ R, x.length = n ∧ ∀ y ∈ x, 0 ≤ y ∧ y ≤ 9) (hl : R.length ≤ 1000) : Ev (fun k => f_spec_voVoted k R) (votedF R n) := by
  have h00 : (0 : Int) < (R.length : Int) := by omega
  refine Ev.succ ?_
  simp only [f_spec_voVoted, h00, if_true, Int.toNat_zero, hn0]
  have h8 := e_spec_voVoted_0 R n hn hR hl n 0 (by omega)
  exact Ev.bind h8 (Ev.some _)
theorem e_impl_votedRows_0 (R : List (List Int)) (n : Nat) (hn : n ≤ 1000) (hR : ∀ x ∈ R, x.length = n ∧ ∀ y ∈ x, 0 ≤ y ∧ y ≤ 9) (hl : R.length ≤ 1000) : ∀ (d i : Nat), i + d = n → Ev (fun k => f_impl_votedRows_0 k (votedF R i) R (n : Int) (i : Int)) (votedF R n)
  | 0, i, h => by
    obtain rfl : i = n := by omega
    refine Ev.succ ?_
    simp only [f_impl_votedRows_0, Int.lt_irrefl, decide_false, Bool.false_eq_true, if_false]
    exact Ev.some _
  | d + 1, i, h => by
    have h1 : (i : Int) < n := by omega
    have h5 : wrap64 ((i : Int) + 1) = ((i + 1 : Nat) : Int) := by rw [w64 (by omega) (by omega)]; omega
    have hal : i + 1 ≤ 140737488355328 / 8 := by omega
    have ih := e_impl_votedRows_0 R n hn hR hl d (i + 1) (by omega)
    rw [votedF_succ] at ih
    refine Ev.succ ?_
    simp only [f_impl_votedRows_0, h1, decide_true, if_true]
    refine Ev.bind (e_impl_column R n i (by omega) (fun x hx => (hR x hx).1) hl) (Ev.bind (e_impl_mostVoted (colOf R i) (col_digs (by omega) hR) (by rw [col_len]; exact hl)) ?_)
    simp only [List.length_singleton, votedF_len, hal, if_true, h5]
    exact ih
theorem e_impl_votedRows (R : List (List Int)) (n : Nat) (hn : n ≤ 1000) (h0 : 0 < R.length) (hn0 : (List.getD R 0 []).length = n) (hR : ∀ x ∈ R, x.length = n ∧ ∀ y ∈ x, 0 ≤ y ∧ y ≤ 9) (hl : R.length ≤ 1000) : Ev (fun k => f_impl_votedRows k R) (votedF R n) := by
  have h00 : (0 : Int) < (R.length : Int) := by omega
  refine Ev.succ ?_
  simp only [f_impl_votedRows, h00, if_true, Int.toNat_zero, hn0]
  have h8 := e_impl_votedRows_0 R n hn hR hl n 0 (by omega)
  exact Ev.bind h8 (Ev.some _)
theorem e_spec_l1Same_0 : ∀ (r s pre pre' : List Int), s.length = r.length → pre'.length = pre.length → (pre ++ r).length ≤ 9223372036854775806 → Ev (fun k => f_spec_l1Same_0 k (pre ++ r) (pre' ++ s) ((pre ++ r).length : Int) (pre.length : Int)) (if r = s then LR.go () else LR.ret false)
  | [], s, pre, pre', h, hp, hl => by
    obtain rfl : s = [] := List.eq_nil_of_length_eq_zero h
    refine Ev.succ ?_
    simp only [f_spec_l1Same_0, nlt_end, decide_false, Bool.false_eq_true, if_false, if_true]
    exact Ev.some _
  | x :: r, [], pre, pre', h, hp, hl => by simp at h
  | x :: r, y :: s, pre, pre', h, hp, hl => by
    have ih := e_spec_l1Same_0 r s (pre ++ [x]) (pre' ++ [y]) (by simpa using h) (by simpa using hp) (by simpa using hl)
    have l2 : (pre.length : Int) < ((pre' ++ y :: s).length : Int) := by rw [← hp]; exact lt_mid _ _ _
    have g2 : List.getD (pre' ++ y :: s) pre.length 0 = y := by rw [← hp]; exact getD_mid _ _ _ _
    refine Ev.succ ?_
    simp only [f_spec_l1Same_0, lt_mid, ge_mid, l2, decide_true, if_true, Int.toNat_natCast, getD_mid, g2]
    rw [next_mid pre x r (by omega)]
    rw [← shift_mid, ← shift_mid] at ih
    by_cases hxy : x = y
    · subst hxy
      simp only [ne_eq, not_true_eq_false, decide_false, Bool.false_eq_true, if_false]
      refine ih.congr ?_
      by_cases hrs : r = s <;> simp [hrs]
    · simp only [ne_eq, hxy, not_false_eq_true, decide_true, if_true]
      refine Ev.of ?_
      rw [if_neg (by intro hc; injection hc with h1 h2; exact hxy h1)]
theorem e_spec_l1Same (l m : List Int) (hl : l.length ≤ 9223372036854775806) : Ev (fun k => f_spec_l1Same k l m) (decide (l = m)) := by
  refine Ev.succ ?_
  simp only [f_spec_l1Same]
  by_cases h : l.length = m.length
  · simp only [h, ne_eq, not_true_eq_false, decide_false, Bool.false_eq_true, if_false]
    have h8 := e_spec_l1Same_0 l m [] [] h.symm rfl (by simpa using hl)
    simp only [List.nil_append, List.length_nil, Int.natCast_zero, h] at h8
    refine Ev.bind h8 ?_
    by_cases hlm : l = m
    · rw [if_pos hlm]; simp only [hlm, decide_true]; exact Ev.go (Ev.some _)
    · rw [if_neg hlm]; simp only [hlm, decide_false]; exact Ev.ret (Ev.some _)
  · have h2 : ¬ (l.length : Int) = (m.length : Int) := by omega
    have h3 : ¬ l = m := fun hc => h (by rw [hc])
    simp only [ne_eq, h2, not_false_eq_true, decide_true, if_true, h3, decide_false]
    exact Ev.some _
theorem e_slices_Equal_int_int_0 : ∀ (r s pre pre' : List Int), s.length = r.length → pre'.length = pre.length → (pre ++ r).length ≤ 9223372036854775806 → Ev (fun k => f_slices_Equal_int_int_0 k (pre ++ r) (pre' ++ s) ((pre ++ r).length : Int) (pre.length : Int)) (if r = s then LR.go () else LR.ret false)
  | [], s, pre, pre', h, hp, hl => by
    obtain rfl : s = [] := List.eq_nil_of_length_eq_zero h
    refine Ev.succ ?_
    simp only [f_slices_Equal_int_int_0, nlt_end, decide_false, Bool.false_eq_true, if_false, if_true]
    exact Ev.some _
  | x :: r, [], pre, pre', h, hp, hl => by simp at h
  | x :: r, y :: s, pre, pre', h, hp, hl => by
    have ih := e_slices_Equal_int_int_0 r s (pre ++ [x]) (pre' ++ [y]) (by simpa using h) (by simpa using hp) (by simpa using hl)
    have l2 : (pre.length : Int) < ((pre' ++ y :: s).length : Int) := by rw [← hp]; exact lt_mid _ _ _
    have g2 : List.getD (pre' ++ y :: s) pre.length 0 = y := by rw [← hp]; exact getD_mid _ _ _ _
    refine Ev.succ ?_
    simp only [f_slices_Equal_int_int_0, lt_mid, ge_mid, l2, decide_true, if_true, Int.toNat_natCast, getD_mid, g2]
    rw [next_mid pre x r (by omega)]
    rw [← shift_mid, ← shift_mid] at ih
    by_cases hxy : x = y
    · subst hxy
      simp only [ne_eq, not_true_eq_false, decide_false, Bool.false_eq_true, if_false]
      refine ih.congr ?_
      by_cases hrs : r = s <;> simp [hrs]
    · simp only [ne_eq, hxy, not_false_eq_true, decide_true, if_true]
      refine Ev.of ?_
      rw [if_neg (by intro hc; injection hc with h1 h2; exact hxy h1)]
theorem e_slices_Equal_int_int (l m : List Int) (hl : l.length ≤ 9223372036854775806) : Ev (fun k => f_slices_Equal_int_int k l m) (decide (l = m)) := by
  refine Ev.succ ?_
  simp only [f_slices_Equal_int_int]
  by_cases h : l.length = m.length
  · simp only [h, ne_eq, not_true_eq_false, decide_false, Bool.false_eq_true, if_false]
    have h8 := e_slices_Equal_int_int_0 l m [] [] h.symm rfl (by simpa using hl)
    simp only [List.nil_append, List.length_nil, Int.natCast_zero, h] at h8
    refine Ev.bind h8 ?_
    by_cases hlm : l = m
    · rw [if_pos hlm]; simp only [hlm, decide_true]; exact Ev.go (Ev.some _)
    · rw [if_neg hlm]; simp only [hlm, decide_false]; exact Ev.ret (Ev.some _)
  · have h2 : ¬ (l.length : Int) = (m.length : Int) := by omega
    have h3 : ¬ l = m := fun hc => h (by rw [hc])
    simp only [ne_eq, h2, not_false_eq_true, decide_true, if_true, h3, decide_false]
    exact Ev.some _
def oddB (R : List (List Int)) (v : List Int) (i : Nat) : Bool := !decide (List.getD R i [] = v)
def odds (R : List (List Int)) (v : List Int) (n : Nat) : List Int := ((List.range n).filter (oddB R v)).map fun (i : Nat) => (i : Int)
theorem odds_len (R : List (List Int)) (v : List Int) (n : Nat) : (odds R v n).length ≤ n := by
  unfold odds
  rw [List.length_map]
  exact Nat.le_trans (List.length_filter_le _ _) (by simp)
theorem odds_succ (R : List (List Int)) (v : List Int) (n : Nat) : odds R v (n + 1) = odds R v n ++ (if oddB R v n = true then [(n : Int)] else []) := by
  unfold odds
  rw [List.range_succ, List.filter_append, List.map_append]
  congr 1
  cases h : oddB R v n <;> simp [List.filter, h]
theorem e_spec_SuspectCopies_0 (R : List (List Int)) (v : List Int) (hl : R.length ≤ 1000) (hR : ∀ x ∈ R, x.length ≤ 1000) : ∀ (d i : Nat), i + d = R.length → Ev (fun k => f_spec_SuspectCopies_0 k v (odds R v i) R (R.length : Int) (i : Int)) (odds R v R.length)
  | 0, i, h => by
    obtain rfl : i = R.length := by omega
    refine Ev.succ ?_
    simp only [f_spec_SuspectCopies_0, Int.lt_irrefl, decide_false, Bool.false_eq_true, if_false]
    exact Ev.some _
  | d + 1, i, h => by
    have h1 : (i : Int) < (R.length : Int) := by omega
    have h5 : wrap64 ((i : Int) + 1) = ((i + 1 : Nat) : Int) := by rw [w64 (by omega) (by omega)]; omega
    have hll := odds_len R v i
    have hal : (odds R v i).length + 1 ≤ 140737488355328 / 8 := by omega
    have hm : List.getD R i [] ∈ R := by simp [List.getD, List.getElem?_eq_getElem (show i < R.length by omega)]
    have hx := hR _ hm
    have ih := e_spec_SuspectCopies_0 R v hl hR d (i + 1) (by omega)
    rw [odds_succ] at ih
    refine Ev.succ ?_
    simp only [f_spec_SuspectCopies_0, h1, decide_true, if_true, Int.natCast_nonneg, Int.toNat_natCast, List.length_singleton, hal, h5]
    refine Ev.bind (e_spec_l1Same _ _ (by omega)) (Ev.ite (fun hh => ?_) (fun hh => ?_))
    · have hh : oddB R v i = true := hh
      rw [if_pos hh] at ih; exact ih
    · have hh : ¬ oddB R v i = true := hh
      rw [if_neg hh, List.append_nil] at ih; exact ih
theorem e_impl_SuspectCopies_0 (R : List (List Int)) (v : List Int) (hl : R.length ≤ 1000) (hR : ∀ x ∈ R, x.length ≤ 1000) : ∀ (d i : Nat), i + d = R.length → Ev (fun k => f_impl_SuspectCopies_0 k v (odds R v i) R (R.length : Int) (i : Int)) (odds R v R.length)
  | 0, i, h => by
    obtain rfl : i = R.length := by omega
    refine Ev.succ ?_
    simp only [f_impl_SuspectCopies_0, Int.lt_irrefl, decide_false, Bool.false_eq_true, if_false]
    exact Ev.some _
  | d + 1, i, h => by
    have h1 : (i : Int) < (R.length : Int) := by omega
    have h5 : wrap64 ((i : Int) + 1) = ((i + 1 : Nat) : Int) := by rw [w64 (by omega) (by omega)]; omega
    have hll := odds_len R v i
    have hal : (odds R v i).length + 1 ≤ 140737488355328 / 8 := by omega
    have hm : List.getD R i [] ∈ R := by simp [List.getD, List.getElem?_eq_getElem (show i < R.length by omega)]
    have hx := hR _ hm
    have ih := e_impl_SuspectCopies_0 R v hl hR d (i + 1) (by omega)
    rw [odds_succ] at ih
    refine Ev.succ ?_
    simp only [f_impl_SuspectCopies_0, h1, decide_true, if_true, Int.natCast_nonneg, Int.toNat_natCast, List.length_singleton, hal, h5]
    refine Ev.bind (e_slices_Equal_int_int _ _ (by omega)) (Ev.ite (fun hh => ?_) (fun hh => ?_))
    · have hh : oddB R v i = true := hh
      rw [if_pos hh] at ih; exact ih
    · have hh : ¬ oddB R v i = true := hh
      rw [if_neg hh, List.append_nil] at ih; exact ih
def r_VotedRows (R : List (List Int)) : List Int × Bool := if rowsOK R then (votedF R (List.getD R 0 []).length, true) else ([], false)
theorem e_spec_VotedRows (R : List (List Int)) (h0 : R.length ≤ 9223372036854775806) (hx : ∀ x ∈ R, x.length ≤ 9223372036854775806) : Ev (fun k => f_spec_VotedRows k R) (r_VotedRows R) := by
  refine Ev.succ ?_
  simp only [f_spec_VotedRows]
  unfold r_VotedRows
  refine Ev.bind (a := rowsOK R) (e_spec_voRows R hx h0) ?_
  cases g0 : rowsOK R with
  | false => simp only [Bool.not_false, if_true, Bool.false_eq_true, if_false, Bool.false_and, Bool.and_false]; exact Ev.some _
  | true =>
    simp only [Bool.not_true, Bool.false_eq_true, if_false, if_true, Bool.and_self]
    obtain ⟨k1, k2, k3, k4⟩ := rows_ok g0
    exact Ev.bind (e_spec_voVoted R _ (by omega) k1 rfl k4 (by omega)) (Ev.some _)
theorem e_impl_VotedRows (R : List (List Int)) (h0 : R.length ≤ 9223372036854775806) (hx : ∀ x ∈ R, x.length ≤ 9223372036854775806) : Ev (fun k => f_impl_VotedRows k R) (r_VotedRows R) := by
  refine Ev.succ ?_
  simp only [f_impl_VotedRows]
  unfold r_VotedRows
  refine Ev.bind (a := rowsOK R) (e_impl_areRows R hx h0) ?_
  cases g0 : rowsOK R with
  | false => simp only [Bool.not_false, if_true, Bool.false_eq_true, if_false, Bool.false_and, Bool.and_false]; exact Ev.some _
  | true =>
    simp only [Bool.not_true, Bool.false_eq_true, if_false, if_true, Bool.and_self]
    obtain ⟨k1, k2, k3, k4⟩ := rows_ok g0
    exact Ev.bind (e_impl_votedRows R _ (by omega) k1 rfl k4 (by omega)) (Ev.some _)
def r_SuspectCopies (R : List (List Int)) : List Int × Bool := if rowsOK R then (odds R (votedF R (List.getD R 0 []).length) R.length, true) else ([], false)
theorem e_spec_SuspectCopies (R : List (List Int)) (h0 : R.length ≤ 9223372036854775806) (hx : ∀ x ∈ R, x.length ≤ 9223372036854775806) : Ev (fun k => f_spec_SuspectCopies k R) (r_SuspectCopies R) := by
  refine Ev.succ ?_
  simp only [f_spec_SuspectCopies]
  unfold r_SuspectCopies
  refine Ev.bind (a := rowsOK R) (e_spec_voRows R hx h0) ?_
  cases g0 : rowsOK R with
  | false => simp only [Bool.not_false, if_true, Bool.false_eq_true, if_false, Bool.false_and, Bool.and_false]; exact Ev.some _
  | true =>
    simp only [Bool.not_true, Bool.false_eq_true, if_false, if_true, Bool.and_self]
    obtain ⟨k1, k2, k3, k4⟩ := rows_ok g0
    exact Ev.bind (e_spec_voVoted R _ (by omega) k1 rfl k4 (by omega)) (Ev.bind (e_spec_SuspectCopies_0 R _ (by omega) (fun x hx => by have := (k4 x hx).1; omega) R.length 0 (by omega)) (Ev.some _))
theorem e_impl_SuspectCopies (R : List (List Int)) (h0 : R.length ≤ 9223372036854775806) (hx : ∀ x ∈ R, x.length ≤ 9223372036854775806) : Ev (fun k => f_impl_SuspectCopies k R) (r_SuspectCopies R) := by
  refine Ev.succ ?_
  simp only [f_impl_SuspectCopies]
  unfold r_SuspectCopies
  refine Ev.bind (a := rowsOK R) (e_impl_areRows R hx h0) ?_
  cases g0 : rowsOK R with
  | false => simp only [Bool.not_false, if_true, Bool.false_eq_true, if_false, Bool.false_and, Bool.and_false]; exact Ev.some _
  | true =>
    simp only [Bool.not_true, Bool.false_eq_true, if_false, if_true, Bool.and_self]
    obtain ⟨k1, k2, k3, k4⟩ := rows_ok g0
    exact Ev.bind (e_impl_votedRows R _ (by omega) k1 rfl k4 (by omega)) (Ev.bind (e_impl_SuspectCopies_0 R _ (by omega) (fun x hx => by have := (k4 x hx).1; omega) R.length 0 (by omega)) (Ev.some _))
theorem r_VotedRows_len (R : List (List Int)) : (r_VotedRows R).1.length ≤ 40 := by
  unfold r_VotedRows
  split
  · rename_i h
    rw [votedF_len]
    exact (rows_ok h).2.2.1
  · simp
theorem r_SuspectCopies_len (R : List (List Int)) : (r_SuspectCopies R).1.length ≤ 9 := by
  unfold r_SuspectCopies
  split
  · rename_i h
    exact Nat.le_trans (odds_len _ _ _) (rows_ok h).2.1
  · simp
end Go.Proofs.Ytgjmhbjdhihgaaa.Vs
