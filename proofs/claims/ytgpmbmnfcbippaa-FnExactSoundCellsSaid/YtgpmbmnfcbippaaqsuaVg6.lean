/- Functions of the program by plain functions, each with its contract. -/
import Derived.Test.YtgpmbmnfcbippaaqsuaVsT
import Derived.Test.YtgpmbmnfcbippaaqsuaVg0
import Derived.Test.YtgpmbmnfcbippaaqsuaVg1
import Derived.Test.YtgpmbmnfcbippaaqsuaVg2
import Derived.Test.YtgpmbmnfcbippaaqsuaVg3
import Derived.Test.YtgpmbmnfcbippaaqsuaVg4
import Derived.Test.YtgpmbmnfcbippaaqsuaVg5
set_option maxRecDepth 100000
set_option linter.unusedVariables false
set_option linter.unusedSimpArgs false
namespace Go.Proofs.Ytgpmbmnfcbippaa.Vs
open Go.RowKit
noncomputable section
/-! function 8 -/
/-! function 14 -/
/-! function 26 -/
/-! function 28 -/
/-! function 31 -/
noncomputable def r_spec_PairCauses : List PK := [{ t := Ty.slice (25 : Nat) (Ty.slice (3 : Nat) (Ty.int IntKind.i64)) }, { t := Ty.bool }]
noncomputable def q_spec_PairCauses : List PK := [{ t := Ty.pair (Ty.int IntKind.i64) (Ty.pair (Ty.int IntKind.i64) (Ty.slice (116 : Nat) (Ty.pair (Ty.int IntKind.i64) (Ty.int IntKind.i64)))), agg := true }, { t := Ty.slice (3 : Nat) (Ty.int IntKind.i64) }, { t := Ty.slice (91 : Nat) (Ty.pair (Ty.int IntKind.i64) (Ty.pair (Ty.int IntKind.i64) (Ty.int IntKind.i64))) }]
noncomputable def to_spec_PairCauses (r : List (List Int) × Bool) : Tup r_spec_PairCauses × OutD := ((r.1, r.2, ()), none)
noncomputable def of_spec_PairCauses : Tup r_spec_PairCauses × OutD → Option (List (List Int) × Bool)
  | (a, none) => some (a.1, a.2.1)
  | _ => none
theorem to_of_spec_PairCauses : ∀ b r, of_spec_PairCauses b = some r → to_spec_PairCauses r = b := by
  rintro ⟨a, o⟩ r h
  cases o with
  | none => injection h with h; subst h; rfl
  | some _ => cases h
noncomputable def f_spec_PairCauses : Nat → Int × Int × List (Int × Int) → List Int → List (Int × Int × Int) → Option (List (List Int) × Bool)
  | 0, _, _, _ => none
  | k + 1, p0, p1, p2 =>
    Option.bind (f_spec_dgGood k (Prod.fst p0, Prod.fst (Prod.snd p0), Prod.snd (Prod.snd p0)) p1 p2) fun z0 => if (!z0) = true then some ([], false) else Option.bind (f_spec_dgPairs k (Prod.fst p0, Prod.fst (Prod.snd p0), Prod.snd (Prod.snd p0)) p1 p2) fun z1 => some (z1, true)
noncomputable def d_spec_PairCauses : FnDef := .of q_spec_PairCauses r_spec_PairCauses (List (List Int) × Bool) (fun k x => f_spec_PairCauses k x.1 x.2.1 x.2.2.1) to_spec_PairCauses of_spec_PairCauses to_of_spec_PairCauses
noncomputable def c_spec_PairCauses : Code := Try.f31.body.getD .skip
noncomputable def x_spec_PairCauses : Ctx (Tup r_spec_PairCauses × OutD) := { T := T, G := [(70, d_spec_dgGood.E), (76, d_spec_dgPairs.E)], mvs := [], no := 0, n := 17, res := resOf T q_spec_PairCauses r_spec_PairCauses Try.f31.results.toList, loops := [], regs := [], conds := [] }
theorem g_spec_PairCauses (k : Nat) : EnvOK Try.prog k x_spec_PairCauses.G := (EnvOK.cons (s_spec_dgGood k) (EnvOK.cons (s_spec_dgPairs k) (EnvOK.nil mixed)))
theorem h_spec_PairCauses (k : Nat) (x : Tup d_spec_PairCauses.ps) : d_spec_PairCauses.f (k + 1) x = fnK d_spec_PairCauses x_spec_PairCauses c_spec_PairCauses k x := by kernel_rfl
theorem z_spec_PairCauses (x : Tup d_spec_PairCauses.ps) : d_spec_PairCauses.f 0 x = none := by kernel_rfl
theorem l_spec_PairCauses (k : Nat) : LOK Try.prog x_spec_PairCauses k c_spec_PairCauses := LOK.by [] (by kernel_rfl) AllOK.nil
theorem s_spec_PairCauses (k : Nat) : SoundAt Try.prog k 31 d_spec_PairCauses.E := @fn_all Try.prog d_spec_PairCauses x_spec_PairCauses 31 Try.f31 c_spec_PairCauses (by kernel_rfl) (by kernel_rfl) (by kernel_rfl) Try.func31 (by kernel_rfl) (by kernel_rfl) (by kernel_rfl) T_ok g_spec_PairCauses l_spec_PairCauses z_spec_PairCauses h_spec_PairCauses k
/-! function 32 -/
noncomputable def r_impl_PairCauses : List PK := [{ t := Ty.slice (25 : Nat) (Ty.slice (3 : Nat) (Ty.int IntKind.i64)) }, { t := Ty.bool }]
noncomputable def q_impl_PairCauses : List PK := [{ t := Ty.pair (Ty.int IntKind.i64) (Ty.pair (Ty.int IntKind.i64) (Ty.slice (116 : Nat) (Ty.pair (Ty.int IntKind.i64) (Ty.int IntKind.i64)))), agg := true }, { t := Ty.slice (3 : Nat) (Ty.int IntKind.i64) }, { t := Ty.slice (91 : Nat) (Ty.pair (Ty.int IntKind.i64) (Ty.pair (Ty.int IntKind.i64) (Ty.int IntKind.i64))) }]
noncomputable def to_impl_PairCauses (r : List (List Int) × Bool) : Tup r_impl_PairCauses × OutD := ((r.1, r.2, ()), none)
noncomputable def of_impl_PairCauses : Tup r_impl_PairCauses × OutD → Option (List (List Int) × Bool)
  | (a, none) => some (a.1, a.2.1)
  | _ => none
theorem to_of_impl_PairCauses : ∀ b r, of_impl_PairCauses b = some r → to_impl_PairCauses r = b := by
  rintro ⟨a, o⟩ r h
  cases o with
  | none => injection h with h; subst h; rfl
  | some _ => cases h
noncomputable def f_impl_PairCauses : Nat → Int × Int × List (Int × Int) → List Int → List (Int × Int × Int) → Option (List (List Int) × Bool)
  | 0, _, _, _ => none
  | k + 1, p0, p1, p2 =>
    Option.bind (f_impl_isSeen k (Prod.fst p0, Prod.fst (Prod.snd p0), Prod.snd (Prod.snd p0)) p1 p2) fun z0 => if (!z0) = true then some ([], false) else Option.bind (f_impl_pairCauses k (Prod.fst p0, Prod.fst (Prod.snd p0), Prod.snd (Prod.snd p0)) p1 p2) fun z1 => some (z1, true)
noncomputable def d_impl_PairCauses : FnDef := .of q_impl_PairCauses r_impl_PairCauses (List (List Int) × Bool) (fun k x => f_impl_PairCauses k x.1 x.2.1 x.2.2.1) to_impl_PairCauses of_impl_PairCauses to_of_impl_PairCauses
noncomputable def c_impl_PairCauses : Code := Try.f32.body.getD .skip
noncomputable def x_impl_PairCauses : Ctx (Tup r_impl_PairCauses × OutD) := { T := T, G := [(73, d_impl_isSeen.E), (77, d_impl_pairCauses.E)], mvs := [], no := 0, n := 17, res := resOf T q_impl_PairCauses r_impl_PairCauses Try.f32.results.toList, loops := [], regs := [], conds := [] }
theorem g_impl_PairCauses (k : Nat) : EnvOK Try.prog k x_impl_PairCauses.G := (EnvOK.cons (s_impl_isSeen k) (EnvOK.cons (s_impl_pairCauses k) (EnvOK.nil mixed)))
theorem h_impl_PairCauses (k : Nat) (x : Tup d_impl_PairCauses.ps) : d_impl_PairCauses.f (k + 1) x = fnK d_impl_PairCauses x_impl_PairCauses c_impl_PairCauses k x := by kernel_rfl
theorem z_impl_PairCauses (x : Tup d_impl_PairCauses.ps) : d_impl_PairCauses.f 0 x = none := by kernel_rfl
theorem l_impl_PairCauses (k : Nat) : LOK Try.prog x_impl_PairCauses k c_impl_PairCauses := LOK.by [] (by kernel_rfl) AllOK.nil
theorem s_impl_PairCauses (k : Nat) : SoundAt Try.prog k 32 d_impl_PairCauses.E := @fn_all Try.prog d_impl_PairCauses x_impl_PairCauses 32 Try.f32 c_impl_PairCauses (by kernel_rfl) (by kernel_rfl) (by kernel_rfl) Try.func32 (by kernel_rfl) (by kernel_rfl) (by kernel_rfl) T_ok g_impl_PairCauses l_impl_PairCauses z_impl_PairCauses h_impl_PairCauses k
/-! function 37 -/
noncomputable def r_impl_SuspectCells : List PK := [{ t := Ty.slice (3 : Nat) (Ty.int IntKind.i64) }, { t := Ty.bool }]
noncomputable def q_impl_SuspectCells : List PK := [{ t := Ty.pair (Ty.int IntKind.i64) (Ty.pair (Ty.int IntKind.i64) (Ty.slice (116 : Nat) (Ty.pair (Ty.int IntKind.i64) (Ty.int IntKind.i64)))), agg := true }, { t := Ty.slice (3 : Nat) (Ty.int IntKind.i64) }, { t := Ty.slice (91 : Nat) (Ty.pair (Ty.int IntKind.i64) (Ty.pair (Ty.int IntKind.i64) (Ty.int IntKind.i64))) }]
noncomputable def to_impl_SuspectCells (r : List Int × Bool) : Tup r_impl_SuspectCells × OutD := ((r.1, r.2, ()), none)
noncomputable def of_impl_SuspectCells : Tup r_impl_SuspectCells × OutD → Option (List Int × Bool)
  | (a, none) => some (a.1, a.2.1)
  | _ => none
theorem to_of_impl_SuspectCells : ∀ b r, of_impl_SuspectCells b = some r → to_impl_SuspectCells r = b := by
  rintro ⟨a, o⟩ r h
  cases o with
  | none => injection h with h; subst h; rfl
  | some _ => cases h
noncomputable def f_impl_SuspectCells : Nat → Int × Int × List (Int × Int) → List Int → List (Int × Int × Int) → Option (List Int × Bool)
  | 0, _, _, _ => none
  | k + 1, p0, p1, p2 =>
    Option.bind (f_impl_isSeen k (Prod.fst p0, Prod.fst (Prod.snd p0), Prod.snd (Prod.snd p0)) p1 p2) fun z0 => if (!z0) = true then some ([], false) else Option.bind (f_impl_singleCauses k (Prod.fst p0, Prod.fst (Prod.snd p0), Prod.snd (Prod.snd p0)) p1 p2) fun z1 => Option.bind (f_impl_cellsWith k (Prod.fst p0, Prod.fst (Prod.snd p0), Prod.snd (Prod.snd p0)) z1 true) fun z2 => some (z2, true)
noncomputable def d_impl_SuspectCells : FnDef := .of q_impl_SuspectCells r_impl_SuspectCells (List Int × Bool) (fun k x => f_impl_SuspectCells k x.1 x.2.1 x.2.2.1) to_impl_SuspectCells of_impl_SuspectCells to_of_impl_SuspectCells
noncomputable def c_impl_SuspectCells : Code := Try.f37.body.getD .skip
noncomputable def x_impl_SuspectCells : Ctx (Tup r_impl_SuspectCells × OutD) := { T := T, G := [(73, d_impl_isSeen.E), (74, d_impl_singleCauses.E), (79, d_impl_cellsWith.E)], mvs := [], no := 0, n := 19, res := resOf T q_impl_SuspectCells r_impl_SuspectCells Try.f37.results.toList, loops := [], regs := [], conds := [] }
theorem g_impl_SuspectCells (k : Nat) : EnvOK Try.prog k x_impl_SuspectCells.G := (EnvOK.cons (s_impl_isSeen k) (EnvOK.cons (s_impl_singleCauses k) (EnvOK.cons (s_impl_cellsWith k) (EnvOK.nil mixed))))
theorem h_impl_SuspectCells (k : Nat) (x : Tup d_impl_SuspectCells.ps) : d_impl_SuspectCells.f (k + 1) x = fnK d_impl_SuspectCells x_impl_SuspectCells c_impl_SuspectCells k x := by kernel_rfl
theorem z_impl_SuspectCells (x : Tup d_impl_SuspectCells.ps) : d_impl_SuspectCells.f 0 x = none := by kernel_rfl
theorem l_impl_SuspectCells (k : Nat) : LOK Try.prog x_impl_SuspectCells k c_impl_SuspectCells := LOK.by [] (by kernel_rfl) AllOK.nil
theorem s_impl_SuspectCells (k : Nat) : SoundAt Try.prog k 37 d_impl_SuspectCells.E := @fn_all Try.prog d_impl_SuspectCells x_impl_SuspectCells 37 Try.f37 c_impl_SuspectCells (by kernel_rfl) (by kernel_rfl) (by kernel_rfl) Try.func37 (by kernel_rfl) (by kernel_rfl) (by kernel_rfl) T_ok g_impl_SuspectCells l_impl_SuspectCells z_impl_SuspectCells h_impl_SuspectCells k
/-! function 40 -/
noncomputable def r_impl_SoundCells : List PK := [{ t := Ty.slice (3 : Nat) (Ty.int IntKind.i64) }, { t := Ty.bool }]
noncomputable def q_impl_SoundCells : List PK := [{ t := Ty.pair (Ty.int IntKind.i64) (Ty.pair (Ty.int IntKind.i64) (Ty.slice (116 : Nat) (Ty.pair (Ty.int IntKind.i64) (Ty.int IntKind.i64)))), agg := true }, { t := Ty.slice (3 : Nat) (Ty.int IntKind.i64) }, { t := Ty.slice (91 : Nat) (Ty.pair (Ty.int IntKind.i64) (Ty.pair (Ty.int IntKind.i64) (Ty.int IntKind.i64))) }]
noncomputable def to_impl_SoundCells (r : List Int × Bool) : Tup r_impl_SoundCells × OutD := ((r.1, r.2, ()), none)
noncomputable def of_impl_SoundCells : Tup r_impl_SoundCells × OutD → Option (List Int × Bool)
  | (a, none) => some (a.1, a.2.1)
  | _ => none
theorem to_of_impl_SoundCells : ∀ b r, of_impl_SoundCells b = some r → to_impl_SoundCells r = b := by
  rintro ⟨a, o⟩ r h
  cases o with
  | none => injection h with h; subst h; rfl
  | some _ => cases h
noncomputable def f_impl_SoundCells : Nat → Int × Int × List (Int × Int) → List Int → List (Int × Int × Int) → Option (List Int × Bool)
  | 0, _, _, _ => none
  | k + 1, p0, p1, p2 =>
    Option.bind (f_impl_isSeen k (Prod.fst p0, Prod.fst (Prod.snd p0), Prod.snd (Prod.snd p0)) p1 p2) fun z0 => if (!z0) = true then some ([], false) else Option.bind (f_impl_singleCauses k (Prod.fst p0, Prod.fst (Prod.snd p0), Prod.snd (Prod.snd p0)) p1 p2) fun z1 => if decide ((↑(List.length z1) : Int) = (0 : Int)) = true then some ([], false) else Option.bind (f_impl_cellsWith k (Prod.fst p0, Prod.fst (Prod.snd p0), Prod.snd (Prod.snd p0)) z1 false) fun z2 => some (z2, true)
noncomputable def d_impl_SoundCells : FnDef := .of q_impl_SoundCells r_impl_SoundCells (List Int × Bool) (fun k x => f_impl_SoundCells k x.1 x.2.1 x.2.2.1) to_impl_SoundCells of_impl_SoundCells to_of_impl_SoundCells
noncomputable def c_impl_SoundCells : Code := Try.f40.body.getD .skip
noncomputable def x_impl_SoundCells : Ctx (Tup r_impl_SoundCells × OutD) := { T := T, G := [(73, d_impl_isSeen.E), (74, d_impl_singleCauses.E), (79, d_impl_cellsWith.E)], mvs := [], no := 0, n := 24, res := resOf T q_impl_SoundCells r_impl_SoundCells Try.f40.results.toList, loops := [], regs := [], conds := [] }
theorem g_impl_SoundCells (k : Nat) : EnvOK Try.prog k x_impl_SoundCells.G := (EnvOK.cons (s_impl_isSeen k) (EnvOK.cons (s_impl_singleCauses k) (EnvOK.cons (s_impl_cellsWith k) (EnvOK.nil mixed))))
theorem h_impl_SoundCells (k : Nat) (x : Tup d_impl_SoundCells.ps) : d_impl_SoundCells.f (k + 1) x = fnK d_impl_SoundCells x_impl_SoundCells c_impl_SoundCells k x := by kernel_rfl
theorem z_impl_SoundCells (x : Tup d_impl_SoundCells.ps) : d_impl_SoundCells.f 0 x = none := by kernel_rfl
theorem l_impl_SoundCells (k : Nat) : LOK Try.prog x_impl_SoundCells k c_impl_SoundCells := LOK.by [] (by kernel_rfl) AllOK.nil
theorem s_impl_SoundCells (k : Nat) : SoundAt Try.prog k 40 d_impl_SoundCells.E := @fn_all Try.prog d_impl_SoundCells x_impl_SoundCells 40 Try.f40 c_impl_SoundCells (by kernel_rfl) (by kernel_rfl) (by kernel_rfl) Try.func40 (by kernel_rfl) (by kernel_rfl) (by kernel_rfl) T_ok g_impl_SoundCells l_impl_SoundCells z_impl_SoundCells h_impl_SoundCells k
/-! function 51 -/
/-! function 53 -/
/-! function 55 -/
/-! function 57 -/
/-! function 78 -/
noncomputable def r_spec_dgSuspects : List PK := [{ t := Ty.slice (3 : Nat) (Ty.int IntKind.i64) }]
noncomputable def q_spec_dgSuspects : List PK := [{ t := Ty.pair (Ty.int IntKind.i64) (Ty.pair (Ty.int IntKind.i64) (Ty.slice (116 : Nat) (Ty.pair (Ty.int IntKind.i64) (Ty.int IntKind.i64)))), agg := true }, { t := Ty.slice (3 : Nat) (Ty.int IntKind.i64) }, { t := Ty.slice (91 : Nat) (Ty.pair (Ty.int IntKind.i64) (Ty.pair (Ty.int IntKind.i64) (Ty.int IntKind.i64))) }]
noncomputable def to_spec_dgSuspects (r : List Int) : Tup r_spec_dgSuspects × OutD := ((r, ()), none)
noncomputable def of_spec_dgSuspects : Tup r_spec_dgSuspects × OutD → Option (List Int)
  | (a, none) => some (a.1)
  | _ => none
theorem to_of_spec_dgSuspects : ∀ b r, of_spec_dgSuspects b = some r → to_spec_dgSuspects r = b := by
  rintro ⟨a, o⟩ r h
  cases o with
  | none => injection h with h; subst h; rfl
  | some _ => cases h
noncomputable def f_spec_dgSuspects_0 : Nat → Int → Int → List (Int × Int) → List Int → List (Int × Int × Int) → Int → Int → Option (List Int)
  | 0, _, _, _, _, _, _, _ => none
  | k + 1, b1_0, b1_1, b1_2, o2, o3, v14, v15 =>
    if decide (v15 < v14) = true then if (0 : Int) ≤ v15 then if v15 < (↑(List.length o3) : Int) then Option.bind (f_spec_l1Put k o2 (wrap64 (wrap64 (Prod.fst (Prod.snd (List.getD o3 (Int.toNat v15) ((0 : Int), (0 : Int), (0 : Int)))) * b1_1) + Prod.snd (Prod.snd (List.getD o3 (Int.toNat v15) ((0 : Int), (0 : Int), (0 : Int))))))) fun z1 => f_spec_dgSuspects_0 k b1_0 b1_1 b1_2 z1 o3 v14 (wrap64 (v15 + (1 : Int))) else none else none else some o2
noncomputable def f_spec_dgSuspects_0i : Spec := { objs := [OSh.ro, OSh.box (32 : Nat) [Sh.int IntKind.i64, Sh.int IntKind.i64, Sh.snap (0 : Nat) (Ty.pair (Ty.int IntKind.i64) (Ty.int IntKind.i64))], OSh.row true (3 : Nat) (Ty.int IntKind.i64), OSh.row true (83 : Nat) (Ty.pair (Ty.int IntKind.i64) (Ty.pair (Ty.int IntKind.i64) (Ty.int IntKind.i64)))], tmps := [((3 : Nat), TSh.at (Sh.ptr (1 : Nat) (0 : Nat))), ((7 : Nat), TSh.at (Sh.sl (2 : Nat))), ((13 : Nat), TSh.at (Sh.sl (3 : Nat))), ((14 : Nat), TSh.at (Sh.int IntKind.i64)), ((15 : Nat), TSh.at (Sh.int IntKind.i64))] }
noncomputable def f_spec_dgSuspects_0o : Spec := { objs := [OSh.ro, OSh.row true (3 : Nat) (Ty.int IntKind.i64)], tmps := [((7 : Nat), TSh.at (Sh.sl (1 : Nat)))] }
noncomputable def f_spec_dgSuspects_0D : LoopDef (Tup r_spec_dgSuspects × OutD) := .plain f_spec_dgSuspects_0i f_spec_dgSuspects_0o (List Int) (fun k x => f_spec_dgSuspects_0 k x.1.2.1.1 x.1.2.1.2.1 x.1.2.1.2.2.1 x.1.2.2.1 x.1.2.2.2.1 x.2.2.2.2.1 x.2.2.2.2.2.1) (fun z => (((), z, ()), ((), ()))) (fun y => (y.1.2.1)) (fun _ => rfl)
noncomputable def f_spec_dgSuspects : Nat → Int × Int × List (Int × Int) → List Int → List (Int × Int × Int) → Option (List Int)
  | 0, _, _, _ => none
  | k + 1, p0, p1, p2 =>
    Option.bind (f_spec_dgSingle k (Prod.fst p0, Prod.fst (Prod.snd p0), Prod.snd (Prod.snd p0)) p1 p2) fun z0 => Option.bind (f_spec_dgSuspects_0 k (Prod.fst p0) (Prod.fst (Prod.snd p0)) (Prod.snd (Prod.snd p0)) [] z0 (↑(List.length z0) : Int) (0 : Int)) fun z2 => some z2
noncomputable def d_spec_dgSuspects : FnDef := .of q_spec_dgSuspects r_spec_dgSuspects (List Int) (fun k x => f_spec_dgSuspects k x.1 x.2.1 x.2.2.1) to_spec_dgSuspects of_spec_dgSuspects to_of_spec_dgSuspects
noncomputable def c_spec_dgSuspects : Code := Try.f78.body.getD .skip
noncomputable def x_spec_dgSuspects : Ctx (Tup r_spec_dgSuspects × OutD) := { T := T, G := [(71, d_spec_dgSingle.E), (117, d_spec_l1Put.E)], mvs := [], no := 0, n := 31, res := resOf T q_spec_dgSuspects r_spec_dgSuspects Try.f78.results.toList, loops := [(0, f_spec_dgSuspects_0D.E)], regs := [], conds := [] }
theorem g_spec_dgSuspects (k : Nat) : EnvOK Try.prog k x_spec_dgSuspects.G := (EnvOK.cons (s_spec_dgSingle k) (EnvOK.cons (s_spec_l1Put k) (EnvOK.nil mixed)))
noncomputable def f_spec_dgSuspects_0B : Code := (findLoop 0 c_spec_dgSuspects).getD .skip
theorem f_spec_dgSuspects_0h (k : Nat) (x : f_spec_dgSuspects_0i.D) : f_spec_dgSuspects_0D.lp (k + 1) x = loopK x_spec_dgSuspects f_spec_dgSuspects_0D 0 f_spec_dgSuspects_0B k x := by kernel_rfl
theorem f_spec_dgSuspects_0l (k : Nat) : LOK Try.prog x_spec_dgSuspects k f_spec_dgSuspects_0B := LOK.by [] (by kernel_rfl) AllOK.nil
theorem f_spec_dgSuspects_0z (x : f_spec_dgSuspects_0i.D) : f_spec_dgSuspects_0D.lp 0 x = none := by kernel_rfl
theorem f_spec_dgSuspects_0ok (k : Nat) : EOK Try.prog x_spec_dgSuspects k f_spec_dgSuspects_0D.E (.block 0 (.loop f_spec_dgSuspects_0B)) := loop_ok T_ok g_spec_dgSuspects f_spec_dgSuspects_0z f_spec_dgSuspects_0h f_spec_dgSuspects_0l k
theorem h_spec_dgSuspects (k : Nat) (x : Tup d_spec_dgSuspects.ps) : d_spec_dgSuspects.f (k + 1) x = fnK d_spec_dgSuspects x_spec_dgSuspects c_spec_dgSuspects k x := by kernel_rfl
theorem z_spec_dgSuspects (x : Tup d_spec_dgSuspects.ps) : d_spec_dgSuspects.f 0 x = none := by kernel_rfl
theorem l_spec_dgSuspects (k : Nat) : LOK Try.prog x_spec_dgSuspects k c_spec_dgSuspects := LOK.by [(f_spec_dgSuspects_0D.E, .block 0 (.loop f_spec_dgSuspects_0B))] (by kernel_rfl) (AllOK.cons (f_spec_dgSuspects_0ok k) AllOK.nil)
theorem s_spec_dgSuspects (k : Nat) : SoundAt Try.prog k 78 d_spec_dgSuspects.E := @fn_all Try.prog d_spec_dgSuspects x_spec_dgSuspects 78 Try.f78 c_spec_dgSuspects (by kernel_rfl) (by kernel_rfl) (by kernel_rfl) Try.func78 (by kernel_rfl) (by kernel_rfl) (by kernel_rfl) T_ok g_spec_dgSuspects l_spec_dgSuspects z_spec_dgSuspects h_spec_dgSuspects k
/-! function 91 -/
end
end Go.Proofs.Ytgpmbmnfcbippaa.Vs
