/- The proof, part 5. -/
import Derived.Test.Ytjjlmnbmpgfcbaaqdm3
set_option maxRecDepth 100000
set_option maxHeartbeats 2000000
set_option linter.unusedVariables false
set_option linter.unusedSimpArgs false
namespace Go.Proofs.Ytjjlmnbmpgfcbaa.Vs
open Go.RowKit
noncomputable section
/-! function 8 -/
noncomputable def r_laws_szBoard : List PK := [{ t := Ty.int IntKind.i64 }]
noncomputable def q_laws_szBoard : List PK := [{ t := Ty.pair (Ty.int IntKind.i64) (Ty.pair (Ty.int IntKind.i64) (Ty.slice (77 : Nat) (Ty.pair (Ty.int IntKind.i64) (Ty.int IntKind.i64)))), agg := true }, { t := Ty.int IntKind.i64 }]
noncomputable def to_laws_szBoard (r : Int) : Tup r_laws_szBoard × OutD := ((r, ()), none)
noncomputable def of_laws_szBoard : Tup r_laws_szBoard × OutD → Option (Int)
  | (a, none) => some (a.1)
  | _ => none
theorem to_of_laws_szBoard : ∀ b r, of_laws_szBoard b = some r → to_laws_szBoard r = b := by
  rintro ⟨a, o⟩ r h
  cases o with
  | none => injection h with h; subst h; rfl
  | some _ => cases h
noncomputable def f_laws_szBoard : Nat → Int × Int × List (Int × Int) → Int → Option Int
  | 0, _, _ => none
  | k + 1, p0, p1 =>
    Option.bind (f_laws_szCellS k (Prod.snd (Prod.snd p0)) p1) fun z0 => if decide (z0 < (0 : Int)) = true then some (-1 : Int) else some z0
noncomputable def d_laws_szBoard : FnDef := .of q_laws_szBoard r_laws_szBoard (Int) (fun k x => f_laws_szBoard k x.1 x.2.1) to_laws_szBoard of_laws_szBoard to_of_laws_szBoard
noncomputable def c_laws_szBoard : Code := Try.f8.body.getD .skip
noncomputable def x_laws_szBoard : Ctx (Tup r_laws_szBoard × OutD) := { T := T, G := [(30, d_laws_szCellS.E)], mvs := [], no := 0, n := 12, res := resOf T q_laws_szBoard r_laws_szBoard Try.f8.results.toList, loops := [], regs := [], conds := [] }
theorem g_laws_szBoard (k : Nat) : EnvOK Try.prog k x_laws_szBoard.G := (EnvOK.cons (s_laws_szCellS k) (EnvOK.nil mixed))
theorem h_laws_szBoard (k : Nat) (x : Tup d_laws_szBoard.ps) : d_laws_szBoard.f (k + 1) x = fnK d_laws_szBoard x_laws_szBoard c_laws_szBoard k x := by kernel_rfl
theorem z_laws_szBoard (x : Tup d_laws_szBoard.ps) : d_laws_szBoard.f 0 x = none := by kernel_rfl
theorem l_laws_szBoard (k : Nat) : LOK Try.prog x_laws_szBoard k c_laws_szBoard := LOK.by [] (by kernel_rfl) AllOK.nil
theorem s_laws_szBoard (k : Nat) : SoundAt Try.prog k 8 d_laws_szBoard.E := @fn_all Try.prog d_laws_szBoard x_laws_szBoard 8 Try.f8 c_laws_szBoard (by kernel_rfl) (by kernel_rfl) (by kernel_rfl) Try.func8 (by kernel_rfl) (by kernel_rfl) (by kernel_rfl) T_ok g_laws_szBoard l_laws_szBoard z_laws_szBoard h_laws_szBoard k
/-! function 14 -/
noncomputable def r_laws_markBoard : List PK := [{ t := Ty.int IntKind.i64 }]
noncomputable def q_laws_markBoard : List PK := [{ t := Ty.pair (Ty.int IntKind.i64) (Ty.pair (Ty.int IntKind.i64) (Ty.slice (75 : Nat) (Ty.pair (Ty.int IntKind.i64) (Ty.int IntKind.i64)))), agg := true, own := some ((2 : Nat), (75 : Nat), Ty.pair (Ty.int IntKind.i64) (Ty.int IntKind.i64)) }, { t := Ty.int IntKind.i64 }]
noncomputable def to_laws_markBoard (r : Int × List (Int × Int)) : Tup r_laws_markBoard × OutD := ((r.1, ()), some ⟨Ty.pair (Ty.int IntKind.i64) (Ty.int IntKind.i64), r.2⟩)
noncomputable def of_laws_markBoard : Tup r_laws_markBoard × OutD → Option (Int × List (Int × Int))
  | (a, some ⟨u, ys⟩) => if h : u = Ty.pair (Ty.int IntKind.i64) (Ty.int IntKind.i64) then some (a.1, castU h ys) else none
  | _ => none
theorem to_of_laws_markBoard : ∀ b r, of_laws_markBoard b = some r → to_laws_markBoard r = b := by
  rintro ⟨a, o⟩ r h
  cases o with
  | none => cases h
  | some s =>
    obtain ⟨u, ys⟩ := s
    simp only [of_laws_markBoard] at h
    split at h
    · rename_i hu; subst hu; injection h with h; subst h; rfl
    · cases h
noncomputable def f_laws_markBoard : Nat → Int × Int × List (Int × Int) → Int → Option (Int × List (Int × Int))
  | 0, _, _ => none
  | k + 1, p0, p1 =>
    Option.bind (f_laws_markCellS k (Prod.snd (Prod.snd p0)) p1) fun z0 => some (Prod.fst z0, Prod.snd z0)
noncomputable def d_laws_markBoard : FnDef := .of q_laws_markBoard r_laws_markBoard (Int × List (Int × Int)) (fun k x => f_laws_markBoard k x.1 x.2.1) to_laws_markBoard of_laws_markBoard to_of_laws_markBoard
noncomputable def c_laws_markBoard : Code := Try.f14.body.getD .skip
noncomputable def x_laws_markBoard : Ctx (Tup r_laws_markBoard × OutD) := { T := T, G := [(39, d_laws_markCellS.E)], mvs := [], no := 1, n := 10, res := resOf T q_laws_markBoard r_laws_markBoard Try.f14.results.toList, loops := [], regs := [], conds := [] }
theorem g_laws_markBoard (k : Nat) : EnvOK Try.prog k x_laws_markBoard.G := (EnvOK.cons (s_laws_markCellS k) (EnvOK.nil mixed))
theorem h_laws_markBoard (k : Nat) (x : Tup d_laws_markBoard.ps) : d_laws_markBoard.f (k + 1) x = fnK d_laws_markBoard x_laws_markBoard c_laws_markBoard k x := by kernel_rfl
theorem z_laws_markBoard (x : Tup d_laws_markBoard.ps) : d_laws_markBoard.f 0 x = none := by kernel_rfl
theorem l_laws_markBoard (k : Nat) : LOK Try.prog x_laws_markBoard k c_laws_markBoard := LOK.by [] (by kernel_rfl) AllOK.nil
theorem s_laws_markBoard (k : Nat) : SoundAt Try.prog k 14 d_laws_markBoard.E := @fn_all Try.prog d_laws_markBoard x_laws_markBoard 14 Try.f14 c_laws_markBoard (by kernel_rfl) (by kernel_rfl) (by kernel_rfl) Try.func14 (by kernel_rfl) (by kernel_rfl) (by kernel_rfl) T_ok g_laws_markBoard l_laws_markBoard z_laws_markBoard h_laws_markBoard k
/-! function 19 -/
/-! function 25 -/
noncomputable def r_laws_markBoardS : List PK := [{ t := Ty.int IntKind.i64 }]
noncomputable def q_laws_markBoardS : List PK := [{ t := Ty.slice (31 : Nat) (Ty.pair (Ty.int IntKind.i64) (Ty.pair (Ty.int IntKind.i64) (Ty.slice (75 : Nat) (Ty.pair (Ty.int IntKind.i64) (Ty.int IntKind.i64))))), own := some ((0 : Nat), (31 : Nat), Ty.pair (Ty.int IntKind.i64) (Ty.pair (Ty.int IntKind.i64) (Ty.slice (75 : Nat) (Ty.pair (Ty.int IntKind.i64) (Ty.int IntKind.i64))))) }, { t := Ty.int IntKind.i64 }]
noncomputable def to_laws_markBoardS (r : Int × List (Int × Int × List (Int × Int))) : Tup r_laws_markBoardS × OutD := ((r.1, ()), some ⟨Ty.pair (Ty.int IntKind.i64) (Ty.pair (Ty.int IntKind.i64) (Ty.slice (75 : Nat) (Ty.pair (Ty.int IntKind.i64) (Ty.int IntKind.i64)))), r.2⟩)
noncomputable def of_laws_markBoardS : Tup r_laws_markBoardS × OutD → Option (Int × List (Int × Int × List (Int × Int)))
  | (a, some ⟨u, ys⟩) => if h : u = Ty.pair (Ty.int IntKind.i64) (Ty.pair (Ty.int IntKind.i64) (Ty.slice (75 : Nat) (Ty.pair (Ty.int IntKind.i64) (Ty.int IntKind.i64)))) then some (a.1, castU h ys) else none
  | _ => none
theorem to_of_laws_markBoardS : ∀ b r, of_laws_markBoardS b = some r → to_laws_markBoardS r = b := by
  rintro ⟨a, o⟩ r h
  cases o with
  | none => cases h
  | some s =>
    obtain ⟨u, ys⟩ := s
    simp only [of_laws_markBoardS] at h
    split at h
    · rename_i hu; subst hu; injection h with h; subst h; rfl
    · cases h
noncomputable def f_laws_markBoardS_0 : Nat → List (Int × Int × List (Int × Int)) → Int → Int → Option (List (Int × Int × List (Int × Int)) × Int)
  | 0, _, _, _ => none
  | k + 1, o1, v1, v5 =>
    if decide (v5 < (↑(List.length o1) : Int)) = true then if (0 : Int) ≤ v5 then if v5 < (↑(List.length o1) : Int) then if (0 : Int) ≤ v5 then if v5 < (↑(List.length (List.set o1 (Int.toNat v5) (v1, Prod.snd (List.getD o1 (Int.toNat v5) ((0 : Int), (0 : Int), []))))) : Int) then if (0 : Int) ≤ v5 then if v5 < (↑(List.length (List.set (List.set o1 (Int.toNat v5) (v1, Prod.snd (List.getD o1 (Int.toNat v5) ((0 : Int), (0 : Int), [])))) (Int.toNat v5) (Prod.fst (List.getD (List.set o1 (Int.toNat v5) (v1, Prod.snd (List.getD o1 (Int.toNat v5) ((0 : Int), (0 : Int), [])))) (Int.toNat v5) ((0 : Int), (0 : Int), [])), wrap64 (v1 + (1 : Int)), Prod.snd (Prod.snd (List.getD (List.set o1 (Int.toNat v5) (v1, Prod.snd (List.getD o1 (Int.toNat v5) ((0 : Int), (0 : Int), [])))) (Int.toNat v5) ((0 : Int), (0 : Int), [])))))) : Int) then Option.bind (readArgsF { tmps := [TV.sv (SV.at (At.sl (1 : Nat))), TV.sv (SV.at (At.int IntKind.i64 (wrap64 (wrap64 (v1 + (1 : Int)) + (1 : Int))))), TV.sv (SV.at At.un), TV.sv (SV.at At.un), TV.sv (SV.at At.un), TV.sv (SV.at (At.int IntKind.i64 v5)), TV.sv (SV.at (At.int IntKind.i64 v5)), TV.sv (SV.at (At.sl (1 : Nat))), TV.sv (SV.at (At.int IntKind.i64 (↑(List.length o1) : Int))), TV.sv (SV.at (At.bool true)), TV.sv (SV.at At.un), TV.sv (SV.at At.un), TV.sv (SV.at (At.sl (1 : Nat))), TV.sv (SV.at (At.int IntKind.i64 v5)), TV.sv (SV.at (At.int IntKind.i64 v1)), TV.sv (SV.at (At.ep (1 : Nat) (Ty.pair (Ty.int IntKind.i64) (Ty.pair (Ty.int IntKind.i64) (Ty.slice (75 : Nat) (Ty.pair (Ty.int IntKind.i64) (Ty.int IntKind.i64))))) v5 (0 : Nat))), TV.sv (SV.at (At.ep (1 : Nat) (Ty.pair (Ty.int IntKind.i64) (Ty.pair (Ty.int IntKind.i64) (Ty.slice (75 : Nat) (Ty.pair (Ty.int IntKind.i64) (Ty.int IntKind.i64))))) v5 (0 : Nat))), TV.sv (SV.at (At.int IntKind.i64 v1)), TV.sv (SV.at (At.int IntKind.i64 (wrap64 (v1 + (1 : Int))))), TV.sv (SV.at (At.sl (1 : Nat))), TV.sv (SV.at (At.int IntKind.i64 v5)), TV.sv (SV.at (At.int IntKind.i64 (wrap64 (v1 + (1 : Int))))), TV.sv (SV.at (At.ep (1 : Nat) (Ty.pair (Ty.int IntKind.i64) (Ty.pair (Ty.int IntKind.i64) (Ty.slice (75 : Nat) (Ty.pair (Ty.int IntKind.i64) (Ty.int IntKind.i64))))) v5 (0 : Nat))), TV.sv (SV.at (At.ep (1 : Nat) (Ty.pair (Ty.int IntKind.i64) (Ty.pair (Ty.int IntKind.i64) (Ty.slice (75 : Nat) (Ty.pair (Ty.int IntKind.i64) (Ty.int IntKind.i64))))) v5 (1 : Nat))), TV.sv (SV.at (At.int IntKind.i64 (wrap64 (v1 + (1 : Int))))), TV.sv (SV.at (At.int IntKind.i64 (wrap64 (wrap64 (v1 + (1 : Int)) + (1 : Int))))), TV.sv (SV.at (At.sl (1 : Nat))), TV.sv (SV.at (At.int IntKind.i64 v5)), TV.sv (SV.at (At.ep (1 : Nat) (Ty.pair (Ty.int IntKind.i64) (Ty.pair (Ty.int IntKind.i64) (Ty.slice (75 : Nat) (Ty.pair (Ty.int IntKind.i64) (Ty.int IntKind.i64))))) v5 (0 : Nat))), TV.sv (SV.at (At.ep (1 : Nat) (Ty.pair (Ty.int IntKind.i64) (Ty.pair (Ty.int IntKind.i64) (Ty.slice (75 : Nat) (Ty.pair (Ty.int IntKind.i64) (Ty.int IntKind.i64))))) v5 (2 : Nat))), TV.sv (SV.at (At.inf (1 : Nat) v5 (Ty.pair (Ty.int IntKind.i64) (Ty.pair (Ty.int IntKind.i64) (Ty.slice (75 : Nat) (Ty.pair (Ty.int IntKind.i64) (Ty.int IntKind.i64))))) (2 : Nat))), TV.sv (SV.at (At.int IntKind.i64 (wrap64 (wrap64 (v1 + (1 : Int)) + (1 : Int))))), TV.sv (SV.at At.un), TV.sv (SV.at At.un)], objs := [Ob.ro, Ob.row false (31 : Nat) (Ty.pair (Ty.int IntKind.i64) (Ty.pair (Ty.int IntKind.i64) (Ty.slice (75 : Nat) (Ty.pair (Ty.int IntKind.i64) (Ty.int IntKind.i64))))) (List.set (List.set o1 (Int.toNat v5) (v1, Prod.snd (List.getD o1 (Int.toNat v5) ((0 : Int), (0 : Int), [])))) (Int.toNat v5) (Prod.fst (List.getD (List.set o1 (Int.toNat v5) (v1, Prod.snd (List.getD o1 (Int.toNat v5) ((0 : Int), (0 : Int), [])))) (Int.toNat v5) ((0 : Int), (0 : Int), [])), wrap64 (v1 + (1 : Int)), Prod.snd (Prod.snd (List.getD (List.set o1 (Int.toNat v5) (v1, Prod.snd (List.getD o1 (Int.toNat v5) ((0 : Int), (0 : Int), [])))) (Int.toNat v5) ((0 : Int), (0 : Int), [])))))] } (1 : Nat) v5 (Ty.pair (Ty.int IntKind.i64) (Ty.pair (Ty.int IntKind.i64) (Ty.slice (75 : Nat) (Ty.pair (Ty.int IntKind.i64) (Ty.int IntKind.i64))))) (2 : Nat) (75 : Nat) (Ty.pair (Ty.int IntKind.i64) (Ty.int IntKind.i64)) (leafG (Ty.pair (Ty.int IntKind.i64) (Ty.int IntKind.i64)) (Ty.pair (Ty.int IntKind.i64) (Ty.pair (Ty.int IntKind.i64) (Ty.slice (75 : Nat) (Ty.pair (Ty.int IntKind.i64) (Ty.int IntKind.i64))))) (List.getD (List.set (List.set o1 (Int.toNat v5) (v1, Prod.snd (List.getD o1 (Int.toNat v5) ((0 : Int), (0 : Int), [])))) (Int.toNat v5) (Prod.fst (List.getD (List.set o1 (Int.toNat v5) (v1, Prod.snd (List.getD o1 (Int.toNat v5) ((0 : Int), (0 : Int), [])))) (Int.toNat v5) ((0 : Int), (0 : Int), [])), wrap64 (v1 + (1 : Int)), Prod.snd (Prod.snd (List.getD (List.set o1 (Int.toNat v5) (v1, Prod.snd (List.getD o1 (Int.toNat v5) ((0 : Int), (0 : Int), [])))) (Int.toNat v5) ((0 : Int), (0 : Int), []))))) (Int.toNat v5) ((0 : Int), (0 : Int), [])) (2 : Nat)) (CallE.ps (FnDef.E d_laws_markCellS)) (List.map (St.ev { tmps := [TV.sv (SV.at (At.sl (1 : Nat))), TV.sv (SV.at (At.int IntKind.i64 (wrap64 (wrap64 (v1 + (1 : Int)) + (1 : Int))))), TV.sv (SV.at At.un), TV.sv (SV.at At.un), TV.sv (SV.at At.un), TV.sv (SV.at (At.int IntKind.i64 v5)), TV.sv (SV.at (At.int IntKind.i64 v5)), TV.sv (SV.at (At.sl (1 : Nat))), TV.sv (SV.at (At.int IntKind.i64 (↑(List.length o1) : Int))), TV.sv (SV.at (At.bool true)), TV.sv (SV.at At.un), TV.sv (SV.at At.un), TV.sv (SV.at (At.sl (1 : Nat))), TV.sv (SV.at (At.int IntKind.i64 v5)), TV.sv (SV.at (At.int IntKind.i64 v1)), TV.sv (SV.at (At.ep (1 : Nat) (Ty.pair (Ty.int IntKind.i64) (Ty.pair (Ty.int IntKind.i64) (Ty.slice (75 : Nat) (Ty.pair (Ty.int IntKind.i64) (Ty.int IntKind.i64))))) v5 (0 : Nat))), TV.sv (SV.at (At.ep (1 : Nat) (Ty.pair (Ty.int IntKind.i64) (Ty.pair (Ty.int IntKind.i64) (Ty.slice (75 : Nat) (Ty.pair (Ty.int IntKind.i64) (Ty.int IntKind.i64))))) v5 (0 : Nat))), TV.sv (SV.at (At.int IntKind.i64 v1)), TV.sv (SV.at (At.int IntKind.i64 (wrap64 (v1 + (1 : Int))))), TV.sv (SV.at (At.sl (1 : Nat))), TV.sv (SV.at (At.int IntKind.i64 v5)), TV.sv (SV.at (At.int IntKind.i64 (wrap64 (v1 + (1 : Int))))), TV.sv (SV.at (At.ep (1 : Nat) (Ty.pair (Ty.int IntKind.i64) (Ty.pair (Ty.int IntKind.i64) (Ty.slice (75 : Nat) (Ty.pair (Ty.int IntKind.i64) (Ty.int IntKind.i64))))) v5 (0 : Nat))), TV.sv (SV.at (At.ep (1 : Nat) (Ty.pair (Ty.int IntKind.i64) (Ty.pair (Ty.int IntKind.i64) (Ty.slice (75 : Nat) (Ty.pair (Ty.int IntKind.i64) (Ty.int IntKind.i64))))) v5 (1 : Nat))), TV.sv (SV.at (At.int IntKind.i64 (wrap64 (v1 + (1 : Int))))), TV.sv (SV.at (At.int IntKind.i64 (wrap64 (wrap64 (v1 + (1 : Int)) + (1 : Int))))), TV.sv (SV.at (At.sl (1 : Nat))), TV.sv (SV.at (At.int IntKind.i64 v5)), TV.sv (SV.at (At.ep (1 : Nat) (Ty.pair (Ty.int IntKind.i64) (Ty.pair (Ty.int IntKind.i64) (Ty.slice (75 : Nat) (Ty.pair (Ty.int IntKind.i64) (Ty.int IntKind.i64))))) v5 (0 : Nat))), TV.sv (SV.at (At.ep (1 : Nat) (Ty.pair (Ty.int IntKind.i64) (Ty.pair (Ty.int IntKind.i64) (Ty.slice (75 : Nat) (Ty.pair (Ty.int IntKind.i64) (Ty.int IntKind.i64))))) v5 (2 : Nat))), TV.sv (SV.at (At.inf (1 : Nat) v5 (Ty.pair (Ty.int IntKind.i64) (Ty.pair (Ty.int IntKind.i64) (Ty.slice (75 : Nat) (Ty.pair (Ty.int IntKind.i64) (Ty.int IntKind.i64))))) (2 : Nat))), TV.sv (SV.at (At.int IntKind.i64 (wrap64 (wrap64 (v1 + (1 : Int)) + (1 : Int))))), TV.sv (SV.at At.un), TV.sv (SV.at At.un)], objs := [Ob.ro, Ob.row false (31 : Nat) (Ty.pair (Ty.int IntKind.i64) (Ty.pair (Ty.int IntKind.i64) (Ty.slice (75 : Nat) (Ty.pair (Ty.int IntKind.i64) (Ty.int IntKind.i64))))) (List.set (List.set o1 (Int.toNat v5) (v1, Prod.snd (List.getD o1 (Int.toNat v5) ((0 : Int), (0 : Int), [])))) (Int.toNat v5) (Prod.fst (List.getD (List.set o1 (Int.toNat v5) (v1, Prod.snd (List.getD o1 (Int.toNat v5) ((0 : Int), (0 : Int), [])))) (Int.toNat v5) ((0 : Int), (0 : Int), [])), wrap64 (v1 + (1 : Int)), Prod.snd (Prod.snd (List.getD (List.set o1 (Int.toNat v5) (v1, Prod.snd (List.getD o1 (Int.toNat v5) ((0 : Int), (0 : Int), [])))) (Int.toNat v5) ((0 : Int), (0 : Int), [])))))] }) (Array.toList (Call.args { callee := Callee.value (Operand.func (39 : Nat)), args := #[Operand.tmp (30 : Nat), Operand.tmp (31 : Nat)], argTypes := #[(29 : Nat), (3 : Nat)] })))) fun z0 => Option.bind (f_laws_markCellS k (Prod.fst z0) (Prod.fst (Prod.snd z0))) fun z1 => f_laws_markBoardS_0 k (List.set (List.set (List.set o1 (Int.toNat v5) (v1, Prod.snd (List.getD o1 (Int.toNat v5) ((0 : Int), (0 : Int), [])))) (Int.toNat v5) (Prod.fst (List.getD (List.set o1 (Int.toNat v5) (v1, Prod.snd (List.getD o1 (Int.toNat v5) ((0 : Int), (0 : Int), [])))) (Int.toNat v5) ((0 : Int), (0 : Int), [])), wrap64 (v1 + (1 : Int)), Prod.snd (Prod.snd (List.getD (List.set o1 (Int.toNat v5) (v1, Prod.snd (List.getD o1 (Int.toNat v5) ((0 : Int), (0 : Int), [])))) (Int.toNat v5) ((0 : Int), (0 : Int), []))))) (Int.toNat v5) (leafS (Ty.pair (Ty.int IntKind.i64) (Ty.int IntKind.i64)) (Ty.pair (Ty.int IntKind.i64) (Ty.pair (Ty.int IntKind.i64) (Ty.slice (75 : Nat) (Ty.pair (Ty.int IntKind.i64) (Ty.int IntKind.i64))))) (List.getD (List.set (List.set o1 (Int.toNat v5) (v1, Prod.snd (List.getD o1 (Int.toNat v5) ((0 : Int), (0 : Int), [])))) (Int.toNat v5) (Prod.fst (List.getD (List.set o1 (Int.toNat v5) (v1, Prod.snd (List.getD o1 (Int.toNat v5) ((0 : Int), (0 : Int), [])))) (Int.toNat v5) ((0 : Int), (0 : Int), [])), wrap64 (v1 + (1 : Int)), Prod.snd (Prod.snd (List.getD (List.set o1 (Int.toNat v5) (v1, Prod.snd (List.getD o1 (Int.toNat v5) ((0 : Int), (0 : Int), [])))) (Int.toNat v5) ((0 : Int), (0 : Int), []))))) (Int.toNat v5) ((0 : Int), (0 : Int), [])) (2 : Nat) (Prod.snd z1))) (Prod.fst z1) (wrap64 (v5 + (1 : Int))) else none else none else none else none else none else none else some (o1, v1)
noncomputable def f_laws_markBoardS_0i : Spec := { objs := [OSh.ro, OSh.row false (31 : Nat) (Ty.pair (Ty.int IntKind.i64) (Ty.pair (Ty.int IntKind.i64) (Ty.slice (75 : Nat) (Ty.pair (Ty.int IntKind.i64) (Ty.int IntKind.i64)))))], tmps := [((0 : Nat), TSh.at (Sh.sl (1 : Nat))), ((1 : Nat), TSh.at (Sh.int IntKind.i64)), ((5 : Nat), TSh.at (Sh.int IntKind.i64))] }
noncomputable def f_laws_markBoardS_0o : Spec := { objs := [OSh.ro, OSh.row false (31 : Nat) (Ty.pair (Ty.int IntKind.i64) (Ty.pair (Ty.int IntKind.i64) (Ty.slice (75 : Nat) (Ty.pair (Ty.int IntKind.i64) (Ty.int IntKind.i64)))))], tmps := [((1 : Nat), TSh.at (Sh.int IntKind.i64))] }
noncomputable def f_laws_markBoardS_0D : LoopDef (Tup r_laws_markBoardS × OutD) := .plain f_laws_markBoardS_0i f_laws_markBoardS_0o (List (Int × Int × List (Int × Int)) × Int) (fun k x => f_laws_markBoardS_0 k x.1.2.1 x.2.2.1 x.2.2.2.1) (fun z => (((), z.1, ()), (z.2, ()))) (fun y => (y.1.2.1, y.2.1)) (fun _ => rfl)
noncomputable def f_laws_markBoardS : Nat → List (Int × Int × List (Int × Int)) → Int → Option (Int × List (Int × Int × List (Int × Int)))
  | 0, _, _ => none
  | k + 1, p0, p1 =>
    Option.bind (f_laws_markBoardS_0 k p0 p1 (0 : Int)) fun z2 => some (Prod.snd z2, Prod.fst z2)
noncomputable def d_laws_markBoardS : FnDef := .of q_laws_markBoardS r_laws_markBoardS (Int × List (Int × Int × List (Int × Int))) (fun k x => f_laws_markBoardS k x.1 x.2.1) to_laws_markBoardS of_laws_markBoardS to_of_laws_markBoardS
noncomputable def c_laws_markBoardS : Code := Try.f25.body.getD .skip
noncomputable def x_laws_markBoardS : Ctx (Tup r_laws_markBoardS × OutD) := { T := T, G := [(39, d_laws_markCellS.E)], mvs := [30], no := 1, n := 34, res := resOf T q_laws_markBoardS r_laws_markBoardS Try.f25.results.toList, loops := [(0, f_laws_markBoardS_0D.E)], regs := [], conds := [] }
theorem g_laws_markBoardS (k : Nat) : EnvOK Try.prog k x_laws_markBoardS.G := (EnvOK.cons (s_laws_markCellS k) (EnvOK.nil mixed))
noncomputable def f_laws_markBoardS_0B : Code := (findLoop 0 c_laws_markBoardS).getD .skip
theorem f_laws_markBoardS_0h (k : Nat) (x : f_laws_markBoardS_0i.D) : f_laws_markBoardS_0D.lp (k + 1) x = loopK x_laws_markBoardS f_laws_markBoardS_0D 0 f_laws_markBoardS_0B k x := by kernel_rfl
theorem f_laws_markBoardS_0l (k : Nat) : LOK Try.prog x_laws_markBoardS k f_laws_markBoardS_0B := LOK.by [] (by kernel_rfl) AllOK.nil
theorem f_laws_markBoardS_0z (x : f_laws_markBoardS_0i.D) : f_laws_markBoardS_0D.lp 0 x = none := by kernel_rfl
theorem f_laws_markBoardS_0ok (k : Nat) : EOK Try.prog x_laws_markBoardS k f_laws_markBoardS_0D.E (.block 0 (.loop f_laws_markBoardS_0B)) := loop_ok T_ok g_laws_markBoardS f_laws_markBoardS_0z f_laws_markBoardS_0h f_laws_markBoardS_0l k
theorem h_laws_markBoardS (k : Nat) (x : Tup d_laws_markBoardS.ps) : d_laws_markBoardS.f (k + 1) x = fnK d_laws_markBoardS x_laws_markBoardS c_laws_markBoardS k x := by kernel_rfl
theorem z_laws_markBoardS (x : Tup d_laws_markBoardS.ps) : d_laws_markBoardS.f 0 x = none := by kernel_rfl
theorem l_laws_markBoardS (k : Nat) : LOK Try.prog x_laws_markBoardS k c_laws_markBoardS := LOK.by [(f_laws_markBoardS_0D.E, .block 0 (.loop f_laws_markBoardS_0B))] (by kernel_rfl) (AllOK.cons (f_laws_markBoardS_0ok k) AllOK.nil)
theorem s_laws_markBoardS (k : Nat) : SoundAt Try.prog k 25 d_laws_markBoardS.E := @fn_all Try.prog d_laws_markBoardS x_laws_markBoardS 25 Try.f25 c_laws_markBoardS (by kernel_rfl) (by kernel_rfl) (by kernel_rfl) Try.func25 (by kernel_rfl) (by kernel_rfl) (by kernel_rfl) T_ok g_laws_markBoardS l_laws_markBoardS z_laws_markBoardS h_laws_markBoardS k
/-! function 26 -/
noncomputable def r_laws_heldBoardS : List PK := [{ t := Ty.int IntKind.i64 }]
noncomputable def q_laws_heldBoardS : List PK := [{ t := Ty.slice (31 : Nat) (Ty.pair (Ty.int IntKind.i64) (Ty.pair (Ty.int IntKind.i64) (Ty.slice (75 : Nat) (Ty.pair (Ty.int IntKind.i64) (Ty.int IntKind.i64))))) }, { t := Ty.int IntKind.i64 }]
noncomputable def to_laws_heldBoardS (r : Int) : Tup r_laws_heldBoardS × OutD := ((r, ()), none)
noncomputable def of_laws_heldBoardS : Tup r_laws_heldBoardS × OutD → Option (Int)
  | (a, none) => some (a.1)
  | _ => none
theorem to_of_laws_heldBoardS : ∀ b r, of_laws_heldBoardS b = some r → to_laws_heldBoardS r = b := by
  rintro ⟨a, o⟩ r h
  cases o with
  | none => injection h with h; subst h; rfl
  | some _ => cases h
noncomputable def f_laws_heldBoardS_0 : Nat → List (Int × Int × List (Int × Int)) → Int → Int → Option (LR Int Int)
  | 0, _, _, _ => none
  | k + 1, v0, v1, v5 =>
    if decide (v5 < (↑(List.length v0) : Int)) = true then if (0 : Int) ≤ v5 then if v5 < (↑(List.length v0) : Int) then if decide (Prod.fst (List.getD v0 (Int.toNat v5) ((0 : Int), (0 : Int), [])) ≠ v1) = true then some (LR.ret (-1 : Int)) else if (0 : Int) ≤ v5 then if v5 < (↑(List.length v0) : Int) then if decide (Prod.fst (Prod.snd (List.getD v0 (Int.toNat v5) ((0 : Int), (0 : Int), []))) ≠ wrap64 (v1 + (1 : Int))) = true then some (LR.ret (-1 : Int)) else if (0 : Int) ≤ v5 then if v5 < (↑(List.length v0) : Int) then Option.bind (f_laws_heldCellS k (Prod.snd (Prod.snd (List.getD v0 (Int.toNat v5) ((0 : Int), (0 : Int), [])))) (wrap64 (wrap64 (v1 + (1 : Int)) + (1 : Int)))) fun z0 => if decide (z0 < (0 : Int)) = true then some (LR.ret (-1 : Int)) else f_laws_heldBoardS_0 k v0 z0 (wrap64 (v5 + (1 : Int))) else none else none else none else none else none else none else some (LR.go v1)
noncomputable def f_laws_heldBoardS_0i : Spec := { objs := [OSh.ro], tmps := [((0 : Nat), TSh.at (Sh.snap (0 : Nat) (Ty.pair (Ty.int IntKind.i64) (Ty.pair (Ty.int IntKind.i64) (Ty.slice (75 : Nat) (Ty.pair (Ty.int IntKind.i64) (Ty.int IntKind.i64))))))), ((1 : Nat), TSh.at (Sh.int IntKind.i64)), ((5 : Nat), TSh.at (Sh.int IntKind.i64))] }
noncomputable def f_laws_heldBoardS_0o : Spec := { objs := [OSh.ro], tmps := [((1 : Nat), TSh.at (Sh.int IntKind.i64))] }
noncomputable def f_laws_heldBoardS_0D : LoopDef (Tup r_laws_heldBoardS × OutD) := .rets f_laws_heldBoardS_0i f_laws_heldBoardS_0o (Int) (Int) (fun k x => f_laws_heldBoardS_0 k x.2.1 x.2.2.1 x.2.2.2.1) (fun z => (((), ()), (z, ()))) (fun y => (y.2.1)) (fun _ => rfl) to_laws_heldBoardS of_laws_heldBoardS to_of_laws_heldBoardS
noncomputable def f_laws_heldBoardS : Nat → List (Int × Int × List (Int × Int)) → Int → Option Int
  | 0, _, _ => none
  | k + 1, p0, p1 =>
    Option.bind (f_laws_heldBoardS_0 k p0 p1 (0 : Int)) fun z1 => LR.on z1 (fun y1 => some y1) fun r1 => some r1
noncomputable def d_laws_heldBoardS : FnDef := .of q_laws_heldBoardS r_laws_heldBoardS (Int) (fun k x => f_laws_heldBoardS k x.1 x.2.1) to_laws_heldBoardS of_laws_heldBoardS to_of_laws_heldBoardS
noncomputable def c_laws_heldBoardS : Code := Try.f26.body.getD .skip
noncomputable def x_laws_heldBoardS : Ctx (Tup r_laws_heldBoardS × OutD) := { T := T, G := [(41, d_laws_heldCellS.E)], mvs := [], no := 0, n := 40, res := resOf T q_laws_heldBoardS r_laws_heldBoardS Try.f26.results.toList, loops := [(0, f_laws_heldBoardS_0D.E)], regs := [], conds := [] }
theorem g_laws_heldBoardS (k : Nat) : EnvOK Try.prog k x_laws_heldBoardS.G := (EnvOK.cons (s_laws_heldCellS k) (EnvOK.nil mixed))
noncomputable def f_laws_heldBoardS_0B : Code := (findLoop 0 c_laws_heldBoardS).getD .skip
theorem f_laws_heldBoardS_0h (k : Nat) (x : f_laws_heldBoardS_0i.D) : f_laws_heldBoardS_0D.lp (k + 1) x = loopK x_laws_heldBoardS f_laws_heldBoardS_0D 0 f_laws_heldBoardS_0B k x := by kernel_rfl
theorem f_laws_heldBoardS_0l (k : Nat) : LOK Try.prog x_laws_heldBoardS k f_laws_heldBoardS_0B := LOK.by [] (by kernel_rfl) AllOK.nil
theorem f_laws_heldBoardS_0z (x : f_laws_heldBoardS_0i.D) : f_laws_heldBoardS_0D.lp 0 x = none := by kernel_rfl
theorem f_laws_heldBoardS_0ok (k : Nat) : EOK Try.prog x_laws_heldBoardS k f_laws_heldBoardS_0D.E (.block 0 (.loop f_laws_heldBoardS_0B)) := loop_ok T_ok g_laws_heldBoardS f_laws_heldBoardS_0z f_laws_heldBoardS_0h f_laws_heldBoardS_0l k
theorem h_laws_heldBoardS (k : Nat) (x : Tup d_laws_heldBoardS.ps) : d_laws_heldBoardS.f (k + 1) x = fnK d_laws_heldBoardS x_laws_heldBoardS c_laws_heldBoardS k x := by kernel_rfl
theorem z_laws_heldBoardS (x : Tup d_laws_heldBoardS.ps) : d_laws_heldBoardS.f 0 x = none := by kernel_rfl
theorem l_laws_heldBoardS (k : Nat) : LOK Try.prog x_laws_heldBoardS k c_laws_heldBoardS := LOK.by [(f_laws_heldBoardS_0D.E, .block 0 (.loop f_laws_heldBoardS_0B))] (by kernel_rfl) (AllOK.cons (f_laws_heldBoardS_0ok k) AllOK.nil)
theorem s_laws_heldBoardS (k : Nat) : SoundAt Try.prog k 26 d_laws_heldBoardS.E := @fn_all Try.prog d_laws_heldBoardS x_laws_heldBoardS 26 Try.f26 c_laws_heldBoardS (by kernel_rfl) (by kernel_rfl) (by kernel_rfl) Try.func26 (by kernel_rfl) (by kernel_rfl) (by kernel_rfl) T_ok g_laws_heldBoardS l_laws_heldBoardS z_laws_heldBoardS h_laws_heldBoardS k
/-! function 34 -/
noncomputable def r_laws_toCellS : List PK := [{ t := Ty.slice (75 : Nat) (Ty.pair (Ty.int IntKind.i64) (Ty.int IntKind.i64)) }]
noncomputable def q_laws_toCellS : List PK := [{ t := Ty.slice (77 : Nat) (Ty.pair (Ty.int IntKind.i64) (Ty.int IntKind.i64)) }]
noncomputable def to_laws_toCellS (r : List (Int × Int)) : Tup r_laws_toCellS × OutD := ((r, ()), none)
noncomputable def of_laws_toCellS : Tup r_laws_toCellS × OutD → Option (List (Int × Int))
  | (a, none) => some (a.1)
  | _ => none
theorem to_of_laws_toCellS : ∀ b r, of_laws_toCellS b = some r → to_laws_toCellS r = b := by
  rintro ⟨a, o⟩ r h
  cases o with
  | none => injection h with h; subst h; rfl
  | some _ => cases h
noncomputable def f_laws_toCellS_0 : Nat → List (Int × Int) → List (Int × Int) → Int → Option (List (Int × Int))
  | 0, _, _, _ => none
  | k + 1, o1, v0, v4 =>
    if decide (v4 < (↑(List.length v0) : Int)) = true then if (0 : Int) ≤ v4 then if v4 < (↑(List.length v0) : Int) then Option.bind (f_laws_toCell k (Prod.fst (List.getD v0 (Int.toNat v4) ((0 : Int), (0 : Int))), Prod.snd (List.getD v0 (Int.toNat v4) ((0 : Int), (0 : Int))))) fun z0 => if (0 : Int) ≤ v4 then if v4 < (↑(List.length o1) : Int) then f_laws_toCellS_0 k (List.set o1 (Int.toNat v4) (Prod.fst z0, Prod.snd z0)) v0 (wrap64 (v4 + (1 : Int))) else none else none else none else none else some o1
noncomputable def f_laws_toCellS_0i : Spec := { objs := [OSh.ro, OSh.row true (75 : Nat) (Ty.pair (Ty.int IntKind.i64) (Ty.int IntKind.i64))], tmps := [((0 : Nat), TSh.at (Sh.snap (0 : Nat) (Ty.pair (Ty.int IntKind.i64) (Ty.int IntKind.i64)))), ((3 : Nat), TSh.at (Sh.sl (1 : Nat))), ((4 : Nat), TSh.at (Sh.int IntKind.i64))] }
noncomputable def f_laws_toCellS_0o : Spec := { objs := [OSh.ro, OSh.row true (75 : Nat) (Ty.pair (Ty.int IntKind.i64) (Ty.int IntKind.i64))], tmps := [((3 : Nat), TSh.at (Sh.sl (1 : Nat)))] }
noncomputable def f_laws_toCellS_0D : LoopDef (Tup r_laws_toCellS × OutD) := .plain f_laws_toCellS_0i f_laws_toCellS_0o (List (Int × Int)) (fun k x => f_laws_toCellS_0 k x.1.2.1 x.2.1 x.2.2.2.1) (fun z => (((), z, ()), ((), ()))) (fun y => (y.1.2.1)) (fun _ => rfl)
noncomputable def f_laws_toCellS : Nat → List (Int × Int) → Option (List (Int × Int))
  | 0, _ => none
  | k + 1, p0 =>
    if Int.toNat (↑(List.length p0) : Int) * (16 : Nat) ≤ (281474976710656 : Nat) then Option.bind (f_laws_toCellS_0 k (List.replicate (Int.toNat (↑(List.length p0) : Int)) ((0 : Int), (0 : Int))) p0 (0 : Int)) fun z1 => some z1 else none
noncomputable def d_laws_toCellS : FnDef := .of q_laws_toCellS r_laws_toCellS (List (Int × Int)) (fun k x => f_laws_toCellS k x.1) to_laws_toCellS of_laws_toCellS to_of_laws_toCellS
noncomputable def c_laws_toCellS : Code := Try.f34.body.getD .skip
noncomputable def x_laws_toCellS : Ctx (Tup r_laws_toCellS × OutD) := { T := T, G := [(59, d_laws_toCell.E)], mvs := [], no := 0, n := 23, res := resOf T q_laws_toCellS r_laws_toCellS Try.f34.results.toList, loops := [(0, f_laws_toCellS_0D.E)], regs := [], conds := [] }
theorem g_laws_toCellS (k : Nat) : EnvOK Try.prog k x_laws_toCellS.G := (EnvOK.cons (s_laws_toCell k) (EnvOK.nil mixed))
noncomputable def f_laws_toCellS_0B : Code := (findLoop 0 c_laws_toCellS).getD .skip
theorem f_laws_toCellS_0h (k : Nat) (x : f_laws_toCellS_0i.D) : f_laws_toCellS_0D.lp (k + 1) x = loopK x_laws_toCellS f_laws_toCellS_0D 0 f_laws_toCellS_0B k x := by kernel_rfl
theorem f_laws_toCellS_0l (k : Nat) : LOK Try.prog x_laws_toCellS k f_laws_toCellS_0B := LOK.by [] (by kernel_rfl) AllOK.nil
theorem f_laws_toCellS_0z (x : f_laws_toCellS_0i.D) : f_laws_toCellS_0D.lp 0 x = none := by kernel_rfl
theorem f_laws_toCellS_0ok (k : Nat) : EOK Try.prog x_laws_toCellS k f_laws_toCellS_0D.E (.block 0 (.loop f_laws_toCellS_0B)) := loop_ok T_ok g_laws_toCellS f_laws_toCellS_0z f_laws_toCellS_0h f_laws_toCellS_0l k
theorem h_laws_toCellS (k : Nat) (x : Tup d_laws_toCellS.ps) : d_laws_toCellS.f (k + 1) x = fnK d_laws_toCellS x_laws_toCellS c_laws_toCellS k x := by kernel_rfl
theorem z_laws_toCellS (x : Tup d_laws_toCellS.ps) : d_laws_toCellS.f 0 x = none := by kernel_rfl
theorem l_laws_toCellS (k : Nat) : LOK Try.prog x_laws_toCellS k c_laws_toCellS := LOK.by [(f_laws_toCellS_0D.E, .block 0 (.loop f_laws_toCellS_0B))] (by kernel_rfl) (AllOK.cons (f_laws_toCellS_0ok k) AllOK.nil)
theorem s_laws_toCellS (k : Nat) : SoundAt Try.prog k 34 d_laws_toCellS.E := @fn_all Try.prog d_laws_toCellS x_laws_toCellS 34 Try.f34 c_laws_toCellS (by kernel_rfl) (by kernel_rfl) (by kernel_rfl) Try.func34 (by kernel_rfl) (by kernel_rfl) (by kernel_rfl) T_ok g_laws_toCellS l_laws_toCellS z_laws_toCellS h_laws_toCellS k
/-! function 38 -/
noncomputable def r_laws_eqCellS : List PK := [{ t := Ty.bool }]
noncomputable def q_laws_eqCellS : List PK := [{ t := Ty.slice (75 : Nat) (Ty.pair (Ty.int IntKind.i64) (Ty.int IntKind.i64)) }, { t := Ty.slice (75 : Nat) (Ty.pair (Ty.int IntKind.i64) (Ty.int IntKind.i64)) }]
noncomputable def to_laws_eqCellS (r : Bool) : Tup r_laws_eqCellS × OutD := ((r, ()), none)
noncomputable def of_laws_eqCellS : Tup r_laws_eqCellS × OutD → Option (Bool)
  | (a, none) => some (a.1)
  | _ => none
theorem to_of_laws_eqCellS : ∀ b r, of_laws_eqCellS b = some r → to_laws_eqCellS r = b := by
  rintro ⟨a, o⟩ r h
  cases o with
  | none => injection h with h; subst h; rfl
  | some _ => cases h
noncomputable def f_laws_eqCellS_0 : Nat → List (Int × Int) → List (Int × Int) → Int → Option (LR Unit Bool)
  | 0, _, _, _ => none
  | k + 1, v0, v1, v5 =>
    if decide (v5 < (↑(List.length v0) : Int)) = true then if (0 : Int) ≤ v5 then if v5 < (↑(List.length v0) : Int) then if (0 : Int) ≤ v5 then if v5 < (↑(List.length v1) : Int) then Option.bind (f_laws_eqCell k (Prod.fst (List.getD v0 (Int.toNat v5) ((0 : Int), (0 : Int))), Prod.snd (List.getD v0 (Int.toNat v5) ((0 : Int), (0 : Int)))) (Prod.fst (List.getD v1 (Int.toNat v5) ((0 : Int), (0 : Int))), Prod.snd (List.getD v1 (Int.toNat v5) ((0 : Int), (0 : Int))))) fun z0 => if (!z0) = true then some (LR.ret false) else f_laws_eqCellS_0 k v0 v1 (wrap64 (v5 + (1 : Int))) else none else none else none else none else some (LR.go ())
noncomputable def f_laws_eqCellS_0i : Spec := { objs := [OSh.ro], tmps := [((0 : Nat), TSh.at (Sh.snap (0 : Nat) (Ty.pair (Ty.int IntKind.i64) (Ty.int IntKind.i64)))), ((1 : Nat), TSh.at (Sh.snap (0 : Nat) (Ty.pair (Ty.int IntKind.i64) (Ty.int IntKind.i64)))), ((5 : Nat), TSh.at (Sh.int IntKind.i64))] }
noncomputable def f_laws_eqCellS_0o : Spec := { objs := [OSh.ro], tmps := [] }
noncomputable def f_laws_eqCellS_0D : LoopDef (Tup r_laws_eqCellS × OutD) := .rets f_laws_eqCellS_0i f_laws_eqCellS_0o (Unit) (Bool) (fun k x => f_laws_eqCellS_0 k x.2.1 x.2.2.1 x.2.2.2.1) (fun z => (((), ()), (()))) (fun y => ()) (fun _ => rfl) to_laws_eqCellS of_laws_eqCellS to_of_laws_eqCellS
noncomputable def f_laws_eqCellS : Nat → List (Int × Int) → List (Int × Int) → Option Bool
  | 0, _, _ => none
  | k + 1, p0, p1 =>
    if decide ((↑(List.length p0) : Int) ≠ (↑(List.length p1) : Int)) = true then some false else Option.bind (f_laws_eqCellS_0 k p0 p1 (0 : Int)) fun z1 => LR.on z1 (fun y1 => some true) fun r1 => some r1
noncomputable def d_laws_eqCellS : FnDef := .of q_laws_eqCellS r_laws_eqCellS (Bool) (fun k x => f_laws_eqCellS k x.1 x.2.1) to_laws_eqCellS of_laws_eqCellS to_of_laws_eqCellS
noncomputable def c_laws_eqCellS : Code := Try.f38.body.getD .skip
noncomputable def x_laws_eqCellS : Ctx (Tup r_laws_eqCellS × OutD) := { T := T, G := [(66, d_laws_eqCell.E)], mvs := [], no := 0, n := 27, res := resOf T q_laws_eqCellS r_laws_eqCellS Try.f38.results.toList, loops := [(0, f_laws_eqCellS_0D.E)], regs := [], conds := [] }
theorem g_laws_eqCellS (k : Nat) : EnvOK Try.prog k x_laws_eqCellS.G := (EnvOK.cons (s_laws_eqCell k) (EnvOK.nil mixed))
noncomputable def f_laws_eqCellS_0B : Code := (findLoop 0 c_laws_eqCellS).getD .skip
theorem f_laws_eqCellS_0h (k : Nat) (x : f_laws_eqCellS_0i.D) : f_laws_eqCellS_0D.lp (k + 1) x = loopK x_laws_eqCellS f_laws_eqCellS_0D 0 f_laws_eqCellS_0B k x := by kernel_rfl
theorem f_laws_eqCellS_0l (k : Nat) : LOK Try.prog x_laws_eqCellS k f_laws_eqCellS_0B := LOK.by [] (by kernel_rfl) AllOK.nil
theorem f_laws_eqCellS_0z (x : f_laws_eqCellS_0i.D) : f_laws_eqCellS_0D.lp 0 x = none := by kernel_rfl
theorem f_laws_eqCellS_0ok (k : Nat) : EOK Try.prog x_laws_eqCellS k f_laws_eqCellS_0D.E (.block 0 (.loop f_laws_eqCellS_0B)) := loop_ok T_ok g_laws_eqCellS f_laws_eqCellS_0z f_laws_eqCellS_0h f_laws_eqCellS_0l k
theorem h_laws_eqCellS (k : Nat) (x : Tup d_laws_eqCellS.ps) : d_laws_eqCellS.f (k + 1) x = fnK d_laws_eqCellS x_laws_eqCellS c_laws_eqCellS k x := by kernel_rfl
theorem z_laws_eqCellS (x : Tup d_laws_eqCellS.ps) : d_laws_eqCellS.f 0 x = none := by kernel_rfl
theorem l_laws_eqCellS (k : Nat) : LOK Try.prog x_laws_eqCellS k c_laws_eqCellS := LOK.by [(f_laws_eqCellS_0D.E, .block 0 (.loop f_laws_eqCellS_0B))] (by kernel_rfl) (AllOK.cons (f_laws_eqCellS_0ok k) AllOK.nil)
theorem s_laws_eqCellS (k : Nat) : SoundAt Try.prog k 38 d_laws_eqCellS.E := @fn_all Try.prog d_laws_eqCellS x_laws_eqCellS 38 Try.f38 c_laws_eqCellS (by kernel_rfl) (by kernel_rfl) (by kernel_rfl) Try.func38 (by kernel_rfl) (by kernel_rfl) (by kernel_rfl) T_ok g_laws_eqCellS l_laws_eqCellS z_laws_eqCellS h_laws_eqCellS k
/-! function 53 -/
/-! function 61 -/
noncomputable def r_impl_groupNumbers : List PK := [{ t := Ty.slice (3 : Nat) (Ty.int IntKind.i64) }]
noncomputable def q_impl_groupNumbers : List PK := [{ t := Ty.pair (Ty.int IntKind.i64) (Ty.pair (Ty.int IntKind.i64) (Ty.slice (75 : Nat) (Ty.pair (Ty.int IntKind.i64) (Ty.int IntKind.i64)))), agg := true }]
noncomputable def to_impl_groupNumbers (r : List Int) : Tup r_impl_groupNumbers × OutD := ((r, ()), none)
noncomputable def of_impl_groupNumbers : Tup r_impl_groupNumbers × OutD → Option (List Int)
  | (a, none) => some (a.1)
  | _ => none
theorem to_of_impl_groupNumbers : ∀ b r, of_impl_groupNumbers b = some r → to_impl_groupNumbers r = b := by
  rintro ⟨a, o⟩ r h
  cases o with
  | none => injection h with h; subst h; rfl
  | some _ => cases h
noncomputable def f_impl_groupNumbers_0 : Nat → Int → Int → List (Int × Int) → List Int → Int → Int → Option (Int × Int × List (Int × Int) × List Int)
  | 0, _, _, _, _, _, _ => none
  | k + 1, b1_0, b1_1, b1_2, o2, v17, v18 =>
    if decide (v18 < v17) = true then if (0 : Int) ≤ v18 then if v18 < (↑(List.length o2) : Int) then f_impl_groupNumbers_0 k b1_0 b1_1 b1_2 (List.set o2 (Int.toNat v18) (-1 : Int)) v17 (wrap64 (v18 + (1 : Int))) else none else none else some (b1_0, b1_1, b1_2, o2)
noncomputable def f_impl_groupNumbers_0i : Spec := { objs := [OSh.ro, OSh.box (31 : Nat) [Sh.int IntKind.i64, Sh.int IntKind.i64, Sh.snap (0 : Nat) (Ty.pair (Ty.int IntKind.i64) (Ty.int IntKind.i64))], OSh.row true (3 : Nat) (Ty.int IntKind.i64)], tmps := [((1 : Nat), TSh.at (Sh.ptr (1 : Nat) (0 : Nat))), ((3 : Nat), TSh.at (Sh.sl (2 : Nat))), ((17 : Nat), TSh.at (Sh.int IntKind.i64)), ((18 : Nat), TSh.at (Sh.int IntKind.i64))] }
noncomputable def f_impl_groupNumbers_0o : Spec := { objs := [OSh.ro, OSh.box (31 : Nat) [Sh.int IntKind.i64, Sh.int IntKind.i64, Sh.snap (0 : Nat) (Ty.pair (Ty.int IntKind.i64) (Ty.int IntKind.i64))], OSh.row true (3 : Nat) (Ty.int IntKind.i64)], tmps := [((1 : Nat), TSh.at (Sh.ptr (1 : Nat) (0 : Nat))), ((3 : Nat), TSh.at (Sh.sl (2 : Nat)))] }
noncomputable def f_impl_groupNumbers_0D : LoopDef (Tup r_impl_groupNumbers × OutD) := .plain f_impl_groupNumbers_0i f_impl_groupNumbers_0o (Int × Int × List (Int × Int) × List Int) (fun k x => f_impl_groupNumbers_0 k x.1.2.1.1 x.1.2.1.2.1 x.1.2.1.2.2.1 x.1.2.2.1 x.2.2.2.1 x.2.2.2.2.1) (fun z => (((), (z.1, z.2.1, z.2.2.1, ()), z.2.2.2, ()), ((), (), ()))) (fun y => (y.1.2.1.1, y.1.2.1.2.1, y.1.2.1.2.2.1, y.1.2.2.1)) (fun _ => rfl)
noncomputable def f_impl_groupNumbers_6 : Nat → Int → Int → List (Int × Int) → List Int → List Int → List Int → Int → List (Int × Int) → Int → Int → Int → Int → Option (Int × Int × List (Int × Int) × List Int × List Int × Int × List (Int × Int) × Int × Int)
  | 0, _, _, _, _, _, _, _, _, _, _, _, _ => none
  | k + 1, b1_0, b1_1, b1_2, o2, o3, o4, v5, v26, v27, v28, v60, v61 =>
    if decide (v61 < v60) = true then if (0 : Int) ≤ v61 then if v61 < (↑(List.length o4) : Int) then if (0 : Int) ≤ List.getD o4 (Int.toNat v61) (0 : Int) then if List.getD o4 (Int.toNat v61) (0 : Int) < (↑(List.length b1_2) : Int) then Option.bind (f_impl_isGeared k (Prod.fst (List.getD b1_2 (Int.toNat (List.getD o4 (Int.toNat v61) (0 : Int))) ((0 : Int), (0 : Int))), Prod.snd (List.getD b1_2 (Int.toNat (List.getD o4 (Int.toNat v61) (0 : Int))) ((0 : Int), (0 : Int))))) fun z3 => if z3 = true then if (0 : Int) ≤ List.getD o4 (Int.toNat v61) (0 : Int) then if List.getD o4 (Int.toNat v61) (0 : Int) < (↑(List.length o2) : Int) then if decide (List.getD o2 (Int.toNat (List.getD o4 (Int.toNat v61) (0 : Int))) (0 : Int) < (0 : Int)) = true then if (0 : Int) ≤ List.getD o4 (Int.toNat v61) (0 : Int) then if List.getD o4 (Int.toNat v61) (0 : Int) < (↑(List.length o2) : Int) then if List.length o3 + List.length [List.getD o4 (Int.toNat v61) (0 : Int)] ≤ (140737488355328 / 8 : Nat) then f_impl_groupNumbers_6 k b1_0 b1_1 b1_2 (List.set o2 (Int.toNat (List.getD o4 (Int.toNat v61) (0 : Int))) v5) (o3 ++ [List.getD o4 (Int.toNat v61) (0 : Int)]) o4 v5 v26 v27 v28 v60 (wrap64 (v61 + (1 : Int))) else none else none else none else f_impl_groupNumbers_6 k b1_0 b1_1 b1_2 o2 o3 o4 v5 v26 v27 v28 v60 (wrap64 (v61 + (1 : Int))) else none else none else f_impl_groupNumbers_6 k b1_0 b1_1 b1_2 o2 o3 o4 v5 v26 v27 v28 v60 (wrap64 (v61 + (1 : Int))) else none else none else none else none else some (b1_0, b1_1, b1_2, o2, o3, v5, v26, v27, v28)
noncomputable def f_impl_groupNumbers_6i : Spec := { objs := [OSh.ro, OSh.box (31 : Nat) [Sh.int IntKind.i64, Sh.int IntKind.i64, Sh.snap (0 : Nat) (Ty.pair (Ty.int IntKind.i64) (Ty.int IntKind.i64))], OSh.row true (3 : Nat) (Ty.int IntKind.i64), OSh.row true (3 : Nat) (Ty.int IntKind.i64), OSh.row true (3 : Nat) (Ty.int IntKind.i64)], tmps := [((1 : Nat), TSh.at (Sh.ptr (1 : Nat) (0 : Nat))), ((3 : Nat), TSh.at (Sh.sl (2 : Nat))), ((5 : Nat), TSh.at (Sh.int IntKind.i64)), ((8 : Nat), TSh.at (Sh.sl (3 : Nat))), ((26 : Nat), TSh.at (Sh.snap (0 : Nat) (Ty.pair (Ty.int IntKind.i64) (Ty.int IntKind.i64)))), ((27 : Nat), TSh.at (Sh.int IntKind.i64)), ((28 : Nat), TSh.at (Sh.int IntKind.i64)), ((59 : Nat), TSh.at (Sh.sl (4 : Nat))), ((60 : Nat), TSh.at (Sh.int IntKind.i64)), ((61 : Nat), TSh.at (Sh.int IntKind.i64))] }
noncomputable def f_impl_groupNumbers_6o : Spec := { objs := [OSh.ro, OSh.box (31 : Nat) [Sh.int IntKind.i64, Sh.int IntKind.i64, Sh.snap (0 : Nat) (Ty.pair (Ty.int IntKind.i64) (Ty.int IntKind.i64))], OSh.row true (3 : Nat) (Ty.int IntKind.i64), OSh.row true (3 : Nat) (Ty.int IntKind.i64)], tmps := [((1 : Nat), TSh.at (Sh.ptr (1 : Nat) (0 : Nat))), ((3 : Nat), TSh.at (Sh.sl (2 : Nat))), ((5 : Nat), TSh.at (Sh.int IntKind.i64)), ((8 : Nat), TSh.at (Sh.sl (3 : Nat))), ((26 : Nat), TSh.at (Sh.snap (0 : Nat) (Ty.pair (Ty.int IntKind.i64) (Ty.int IntKind.i64)))), ((27 : Nat), TSh.at (Sh.int IntKind.i64)), ((28 : Nat), TSh.at (Sh.int IntKind.i64))] }
noncomputable def f_impl_groupNumbers_6D : LoopDef (Tup r_impl_groupNumbers × OutD) := .plain f_impl_groupNumbers_6i f_impl_groupNumbers_6o (Int × Int × List (Int × Int) × List Int × List Int × Int × List (Int × Int) × Int × Int) (fun k x => f_impl_groupNumbers_6 k x.1.2.1.1 x.1.2.1.2.1 x.1.2.1.2.2.1 x.1.2.2.1 x.1.2.2.2.1 x.1.2.2.2.2.1 x.2.2.2.1 x.2.2.2.2.2.1 x.2.2.2.2.2.2.1 x.2.2.2.2.2.2.2.1 x.2.2.2.2.2.2.2.2.2.1 x.2.2.2.2.2.2.2.2.2.2.1) (fun z => (((), (z.1, z.2.1, z.2.2.1, ()), z.2.2.2.1, z.2.2.2.2.1, ()), ((), (), z.2.2.2.2.2.1, (), z.2.2.2.2.2.2.1, z.2.2.2.2.2.2.2.1, z.2.2.2.2.2.2.2.2, ()))) (fun y => (y.1.2.1.1, y.1.2.1.2.1, y.1.2.1.2.2.1, y.1.2.2.1, y.1.2.2.2.1, y.2.2.2.1, y.2.2.2.2.2.1, y.2.2.2.2.2.2.1, y.2.2.2.2.2.2.2.1)) (fun _ => rfl)
noncomputable def f_impl_groupNumbers_4 : Nat → Int → Int → List (Int × Int) → List Int → List Int → Int → List (Int × Int) → Int → Int → Option (Int × Int × List (Int × Int) × List Int × Int × List (Int × Int) × Int × Int)
  | 0, _, _, _, _, _, _, _, _, _ => none
  | k + 1, b1_0, b1_1, b1_2, o2, o3, v5, v26, v27, v28 =>
    if decide ((↑(List.length o3) : Int) > (0 : Int)) = true then if (0 : Int) < (↑(List.length o3) : Int) then if (1 : Int) ≤ (↑(List.length o3) : Int) then if (↑(List.length o3) : Int) ≤ (↑(List.length o3) : Int) then Option.bind (f_impl_besideOf k (b1_0, b1_1, b1_2) (List.getD o3 (Int.toNat (0 : Int)) (0 : Int))) fun z2 => Option.bind (f_impl_groupNumbers_6 k b1_0 b1_1 b1_2 o2 (List.drop (Int.toNat (1 : Int)) o3) z2 v5 v26 v27 v28 (↑(List.length z2) : Int) (0 : Int)) fun z4 => f_impl_groupNumbers_4 k (Prod.fst z4) (Prod.fst (Prod.snd z4)) (Prod.fst (Prod.snd (Prod.snd z4))) (Prod.fst (Prod.snd (Prod.snd (Prod.snd z4)))) (Prod.fst (Prod.snd (Prod.snd (Prod.snd (Prod.snd z4))))) (Prod.fst (Prod.snd (Prod.snd (Prod.snd (Prod.snd (Prod.snd z4)))))) (Prod.fst (Prod.snd (Prod.snd (Prod.snd (Prod.snd (Prod.snd (Prod.snd z4))))))) (Prod.fst (Prod.snd (Prod.snd (Prod.snd (Prod.snd (Prod.snd (Prod.snd (Prod.snd z4)))))))) (Prod.snd (Prod.snd (Prod.snd (Prod.snd (Prod.snd (Prod.snd (Prod.snd (Prod.snd z4)))))))) else none else none else none else some (b1_0, b1_1, b1_2, o2, v5, v26, v27, v28)
noncomputable def f_impl_groupNumbers_4i : Spec := { objs := [OSh.ro, OSh.box (31 : Nat) [Sh.int IntKind.i64, Sh.int IntKind.i64, Sh.snap (0 : Nat) (Ty.pair (Ty.int IntKind.i64) (Ty.int IntKind.i64))], OSh.row true (3 : Nat) (Ty.int IntKind.i64), OSh.row true (3 : Nat) (Ty.int IntKind.i64)], tmps := [((1 : Nat), TSh.at (Sh.ptr (1 : Nat) (0 : Nat))), ((3 : Nat), TSh.at (Sh.sl (2 : Nat))), ((5 : Nat), TSh.at (Sh.int IntKind.i64)), ((8 : Nat), TSh.at (Sh.sl (3 : Nat))), ((26 : Nat), TSh.at (Sh.snap (0 : Nat) (Ty.pair (Ty.int IntKind.i64) (Ty.int IntKind.i64)))), ((27 : Nat), TSh.at (Sh.int IntKind.i64)), ((28 : Nat), TSh.at (Sh.int IntKind.i64))] }
noncomputable def f_impl_groupNumbers_4o : Spec := { objs := [OSh.ro, OSh.box (31 : Nat) [Sh.int IntKind.i64, Sh.int IntKind.i64, Sh.snap (0 : Nat) (Ty.pair (Ty.int IntKind.i64) (Ty.int IntKind.i64))], OSh.row true (3 : Nat) (Ty.int IntKind.i64)], tmps := [((1 : Nat), TSh.at (Sh.ptr (1 : Nat) (0 : Nat))), ((3 : Nat), TSh.at (Sh.sl (2 : Nat))), ((5 : Nat), TSh.at (Sh.int IntKind.i64)), ((26 : Nat), TSh.at (Sh.snap (0 : Nat) (Ty.pair (Ty.int IntKind.i64) (Ty.int IntKind.i64)))), ((27 : Nat), TSh.at (Sh.int IntKind.i64)), ((28 : Nat), TSh.at (Sh.int IntKind.i64))] }
noncomputable def f_impl_groupNumbers_4D : LoopDef (Tup r_impl_groupNumbers × OutD) := .plain f_impl_groupNumbers_4i f_impl_groupNumbers_4o (Int × Int × List (Int × Int) × List Int × Int × List (Int × Int) × Int × Int) (fun k x => f_impl_groupNumbers_4 k x.1.2.1.1 x.1.2.1.2.1 x.1.2.1.2.2.1 x.1.2.2.1 x.1.2.2.2.1 x.2.2.2.1 x.2.2.2.2.2.1 x.2.2.2.2.2.2.1 x.2.2.2.2.2.2.2.1) (fun z => (((), (z.1, z.2.1, z.2.2.1, ()), z.2.2.2.1, ()), ((), (), z.2.2.2.2.1, z.2.2.2.2.2.1, z.2.2.2.2.2.2.1, z.2.2.2.2.2.2.2, ()))) (fun y => (y.1.2.1.1, y.1.2.1.2.1, y.1.2.1.2.2.1, y.1.2.2.1, y.2.2.2.1, y.2.2.2.2.1, y.2.2.2.2.2.1, y.2.2.2.2.2.2.1)) (fun _ => rfl)
noncomputable def f_impl_groupNumbers_2 : Nat → Int → Int → List (Int × Int) → List Int → Int → List (Int × Int) → Int → Int → Option (List Int)
  | 0, _, _, _, _, _, _, _, _ => none
  | k + 1, b1_0, b1_1, b1_2, o2, v5, v26, v27, v28 =>
    if decide (v28 < v27) = true then if (0 : Int) ≤ v28 then if v28 < (↑(List.length v26) : Int) then Option.bind (f_impl_isGeared k (Prod.fst (List.getD v26 (Int.toNat v28) ((0 : Int), (0 : Int))), Prod.snd (List.getD v26 (Int.toNat v28) ((0 : Int), (0 : Int))))) fun z1 => if (!z1) = true then f_impl_groupNumbers_2 k b1_0 b1_1 b1_2 o2 v5 v26 v27 (wrap64 (v28 + (1 : Int))) else if (0 : Int) ≤ v28 then if v28 < (↑(List.length o2) : Int) then if decide (List.getD o2 (Int.toNat v28) (0 : Int) ≥ (0 : Int)) = true then f_impl_groupNumbers_2 k b1_0 b1_1 b1_2 o2 v5 v26 v27 (wrap64 (v28 + (1 : Int))) else if (0 : Int) ≤ v28 then if v28 < (↑(List.length o2) : Int) then Option.bind (f_impl_groupNumbers_4 k b1_0 b1_1 b1_2 (List.set o2 (Int.toNat v28) v5) [v28] v5 v26 v27 v28) fun z5 => f_impl_groupNumbers_2 k (Prod.fst z5) (Prod.fst (Prod.snd z5)) (Prod.fst (Prod.snd (Prod.snd z5))) (Prod.fst (Prod.snd (Prod.snd (Prod.snd z5)))) (wrap64 (Prod.fst (Prod.snd (Prod.snd (Prod.snd (Prod.snd z5)))) + (1 : Int))) (Prod.fst (Prod.snd (Prod.snd (Prod.snd (Prod.snd (Prod.snd z5)))))) (Prod.fst (Prod.snd (Prod.snd (Prod.snd (Prod.snd (Prod.snd (Prod.snd z5))))))) (wrap64 (Prod.snd (Prod.snd (Prod.snd (Prod.snd (Prod.snd (Prod.snd (Prod.snd z5)))))) + (1 : Int))) else none else none else none else none else none else none else some o2
noncomputable def f_impl_groupNumbers_2i : Spec := { objs := [OSh.ro, OSh.box (31 : Nat) [Sh.int IntKind.i64, Sh.int IntKind.i64, Sh.snap (0 : Nat) (Ty.pair (Ty.int IntKind.i64) (Ty.int IntKind.i64))], OSh.row true (3 : Nat) (Ty.int IntKind.i64)], tmps := [((1 : Nat), TSh.at (Sh.ptr (1 : Nat) (0 : Nat))), ((3 : Nat), TSh.at (Sh.sl (2 : Nat))), ((5 : Nat), TSh.at (Sh.int IntKind.i64)), ((26 : Nat), TSh.at (Sh.snap (0 : Nat) (Ty.pair (Ty.int IntKind.i64) (Ty.int IntKind.i64)))), ((27 : Nat), TSh.at (Sh.int IntKind.i64)), ((28 : Nat), TSh.at (Sh.int IntKind.i64))] }
noncomputable def f_impl_groupNumbers_2o : Spec := { objs := [OSh.ro, OSh.row true (3 : Nat) (Ty.int IntKind.i64)], tmps := [((3 : Nat), TSh.at (Sh.sl (1 : Nat)))] }
noncomputable def f_impl_groupNumbers_2D : LoopDef (Tup r_impl_groupNumbers × OutD) := .plain f_impl_groupNumbers_2i f_impl_groupNumbers_2o (List Int) (fun k x => f_impl_groupNumbers_2 k x.1.2.1.1 x.1.2.1.2.1 x.1.2.1.2.2.1 x.1.2.2.1 x.2.2.2.1 x.2.2.2.2.1 x.2.2.2.2.2.1 x.2.2.2.2.2.2.1) (fun z => (((), z, ()), ((), ()))) (fun y => (y.1.2.1)) (fun _ => rfl)
noncomputable def f_impl_groupNumbers : Nat → Int × Int × List (Int × Int) → Option (List Int)
  | 0, _ => none
  | k + 1, p0 =>
    if Int.toNat (↑(List.length (Prod.snd (Prod.snd p0))) : Int) * (8 : Nat) ≤ (281474976710656 : Nat) then Option.bind (f_impl_groupNumbers_0 k (Prod.fst p0) (Prod.fst (Prod.snd p0)) (Prod.snd (Prod.snd p0)) (List.replicate (Int.toNat (↑(List.length (Prod.snd (Prod.snd p0))) : Int)) (0 : Int)) (↑(List.length (List.replicate (Int.toNat (↑(List.length (Prod.snd (Prod.snd p0))) : Int)) (0 : Int))) : Int) (0 : Int)) fun z0 => Option.bind (f_impl_groupNumbers_2 k (Prod.fst z0) (Prod.fst (Prod.snd z0)) (Prod.fst (Prod.snd (Prod.snd z0))) (Prod.snd (Prod.snd (Prod.snd z0))) (0 : Int) (Prod.fst (Prod.snd (Prod.snd z0))) (↑(List.length (Prod.fst (Prod.snd (Prod.snd z0)))) : Int) (0 : Int)) fun z6 => some z6 else none
noncomputable def d_impl_groupNumbers : FnDef := .of q_impl_groupNumbers r_impl_groupNumbers (List Int) (fun k x => f_impl_groupNumbers k x.1) to_impl_groupNumbers of_impl_groupNumbers to_of_impl_groupNumbers
noncomputable def c_impl_groupNumbers : Code := Try.f61.body.getD .skip
noncomputable def x_impl_groupNumbers : Ctx (Tup r_impl_groupNumbers × OutD) := { T := T, G := [(77, d_impl_isGeared.E), (78, d_impl_besideOf.E)], mvs := [56], no := 0, n := 91, res := resOf T q_impl_groupNumbers r_impl_groupNumbers Try.f61.results.toList, loops := [(0, f_impl_groupNumbers_0D.E), (6, f_impl_groupNumbers_6D.E), (4, f_impl_groupNumbers_4D.E), (2, f_impl_groupNumbers_2D.E)], regs := [], conds := [] }
theorem g_impl_groupNumbers (k : Nat) : EnvOK Try.prog k x_impl_groupNumbers.G := (EnvOK.cons (s_impl_isGeared k) (EnvOK.cons (s_impl_besideOf k) (EnvOK.nil mixed)))
noncomputable def f_impl_groupNumbers_0B : Code := (findLoop 0 c_impl_groupNumbers).getD .skip
theorem f_impl_groupNumbers_0h (k : Nat) (x : f_impl_groupNumbers_0i.D) : f_impl_groupNumbers_0D.lp (k + 1) x = loopK x_impl_groupNumbers f_impl_groupNumbers_0D 0 f_impl_groupNumbers_0B k x := by kernel_rfl
theorem f_impl_groupNumbers_0l (k : Nat) : LOK Try.prog x_impl_groupNumbers k f_impl_groupNumbers_0B := LOK.by [] (by kernel_rfl) AllOK.nil
theorem f_impl_groupNumbers_0z (x : f_impl_groupNumbers_0i.D) : f_impl_groupNumbers_0D.lp 0 x = none := by kernel_rfl
theorem f_impl_groupNumbers_0ok (k : Nat) : EOK Try.prog x_impl_groupNumbers k f_impl_groupNumbers_0D.E (.block 0 (.loop f_impl_groupNumbers_0B)) := loop_ok T_ok g_impl_groupNumbers f_impl_groupNumbers_0z f_impl_groupNumbers_0h f_impl_groupNumbers_0l k
noncomputable def f_impl_groupNumbers_6B : Code := (findLoop 6 c_impl_groupNumbers).getD .skip
theorem f_impl_groupNumbers_6h (k : Nat) (x : f_impl_groupNumbers_6i.D) : f_impl_groupNumbers_6D.lp (k + 1) x = loopK x_impl_groupNumbers f_impl_groupNumbers_6D 6 f_impl_groupNumbers_6B k x := by kernel_rfl
theorem f_impl_groupNumbers_6l (k : Nat) : LOK Try.prog x_impl_groupNumbers k f_impl_groupNumbers_6B := LOK.by [] (by kernel_rfl) AllOK.nil
theorem f_impl_groupNumbers_6z (x : f_impl_groupNumbers_6i.D) : f_impl_groupNumbers_6D.lp 0 x = none := by kernel_rfl
theorem f_impl_groupNumbers_6ok (k : Nat) : EOK Try.prog x_impl_groupNumbers k f_impl_groupNumbers_6D.E (.block 6 (.loop f_impl_groupNumbers_6B)) := loop_ok T_ok g_impl_groupNumbers f_impl_groupNumbers_6z f_impl_groupNumbers_6h f_impl_groupNumbers_6l k
noncomputable def f_impl_groupNumbers_4B : Code := (findLoop 4 c_impl_groupNumbers).getD .skip
theorem f_impl_groupNumbers_4h (k : Nat) (x : f_impl_groupNumbers_4i.D) : f_impl_groupNumbers_4D.lp (k + 1) x = loopK x_impl_groupNumbers f_impl_groupNumbers_4D 4 f_impl_groupNumbers_4B k x := by kernel_rfl
theorem f_impl_groupNumbers_4l (k : Nat) : LOK Try.prog x_impl_groupNumbers k f_impl_groupNumbers_4B := LOK.by [(f_impl_groupNumbers_6D.E, .block 6 (.loop f_impl_groupNumbers_6B))] (by kernel_rfl) (AllOK.cons (f_impl_groupNumbers_6ok k) AllOK.nil)
theorem f_impl_groupNumbers_4z (x : f_impl_groupNumbers_4i.D) : f_impl_groupNumbers_4D.lp 0 x = none := by kernel_rfl
theorem f_impl_groupNumbers_4ok (k : Nat) : EOK Try.prog x_impl_groupNumbers k f_impl_groupNumbers_4D.E (.block 4 (.loop f_impl_groupNumbers_4B)) := loop_ok T_ok g_impl_groupNumbers f_impl_groupNumbers_4z f_impl_groupNumbers_4h f_impl_groupNumbers_4l k
noncomputable def f_impl_groupNumbers_2B : Code := (findLoop 2 c_impl_groupNumbers).getD .skip
theorem f_impl_groupNumbers_2h (k : Nat) (x : f_impl_groupNumbers_2i.D) : f_impl_groupNumbers_2D.lp (k + 1) x = loopK x_impl_groupNumbers f_impl_groupNumbers_2D 2 f_impl_groupNumbers_2B k x := by kernel_rfl
theorem f_impl_groupNumbers_2l (k : Nat) : LOK Try.prog x_impl_groupNumbers k f_impl_groupNumbers_2B := LOK.by [(f_impl_groupNumbers_4D.E, .block 4 (.loop f_impl_groupNumbers_4B))] (by kernel_rfl) (AllOK.cons (f_impl_groupNumbers_4ok k) AllOK.nil)
theorem f_impl_groupNumbers_2z (x : f_impl_groupNumbers_2i.D) : f_impl_groupNumbers_2D.lp 0 x = none := by kernel_rfl
theorem f_impl_groupNumbers_2ok (k : Nat) : EOK Try.prog x_impl_groupNumbers k f_impl_groupNumbers_2D.E (.block 2 (.loop f_impl_groupNumbers_2B)) := loop_ok T_ok g_impl_groupNumbers f_impl_groupNumbers_2z f_impl_groupNumbers_2h f_impl_groupNumbers_2l k
theorem h_impl_groupNumbers (k : Nat) (x : Tup d_impl_groupNumbers.ps) : d_impl_groupNumbers.f (k + 1) x = fnK d_impl_groupNumbers x_impl_groupNumbers c_impl_groupNumbers k x := by kernel_rfl
theorem z_impl_groupNumbers (x : Tup d_impl_groupNumbers.ps) : d_impl_groupNumbers.f 0 x = none := by kernel_rfl
theorem l_impl_groupNumbers (k : Nat) : LOK Try.prog x_impl_groupNumbers k c_impl_groupNumbers := LOK.by [(f_impl_groupNumbers_0D.E, .block 0 (.loop f_impl_groupNumbers_0B)), (f_impl_groupNumbers_2D.E, .block 2 (.loop f_impl_groupNumbers_2B))] (by kernel_rfl) (AllOK.cons (f_impl_groupNumbers_0ok k) (AllOK.cons (f_impl_groupNumbers_2ok k) AllOK.nil))
theorem s_impl_groupNumbers (k : Nat) : SoundAt Try.prog k 61 d_impl_groupNumbers.E := @fn_all Try.prog d_impl_groupNumbers x_impl_groupNumbers 61 Try.f61 c_impl_groupNumbers (by kernel_rfl) (by kernel_rfl) (by kernel_rfl) Try.func61 (by kernel_rfl) (by kernel_rfl) (by kernel_rfl) T_ok g_impl_groupNumbers l_impl_groupNumbers z_impl_groupNumbers h_impl_groupNumbers k
/-! function 68 -/
noncomputable def r_spec_saTurn : List PK := []
noncomputable def q_spec_saTurn : List PK := [{ t := Ty.pair (Ty.int IntKind.i64) (Ty.pair (Ty.int IntKind.i64) (Ty.slice (75 : Nat) (Ty.pair (Ty.int IntKind.i64) (Ty.int IntKind.i64)))), agg := true, own := some ((2 : Nat), (75 : Nat), Ty.pair (Ty.int IntKind.i64) (Ty.int IntKind.i64)) }, { t := Ty.slice (3 : Nat) (Ty.int IntKind.i64) }]
noncomputable def to_spec_saTurn (r : List (Int × Int)) : Tup r_spec_saTurn × OutD := ((()), some ⟨Ty.pair (Ty.int IntKind.i64) (Ty.int IntKind.i64), r⟩)
noncomputable def of_spec_saTurn : Tup r_spec_saTurn × OutD → Option (List (Int × Int))
  | (a, some ⟨u, ys⟩) => if h : u = Ty.pair (Ty.int IntKind.i64) (Ty.int IntKind.i64) then some (castU h ys) else none
  | _ => none
theorem to_of_spec_saTurn : ∀ b r, of_spec_saTurn b = some r → to_spec_saTurn r = b := by
  rintro ⟨a, o⟩ r h
  cases o with
  | none => cases h
  | some s =>
    obtain ⟨u, ys⟩ := s
    simp only [of_spec_saTurn] at h
    split at h
    · rename_i hu; subst hu; injection h with h; subst h; rfl
    · cases h
noncomputable def f_spec_saTurn_0 : Nat → List (Int × Int) → Int → Int → List Int → Int → Int → Option (List (Int × Int))
  | 0, _, _, _, _, _, _ => none
  | k + 1, o1, b2_0, b2_1, v6, v7, v8 =>
    if decide (v8 < v7) = true then if (0 : Int) ≤ v8 then if v8 < (↑(List.length v6) : Int) then if (0 : Int) ≤ List.getD v6 (Int.toNat v8) (0 : Int) then if List.getD v6 (Int.toNat v8) (0 : Int) < (↑(List.length o1) : Int) then Option.bind (f_spec_paTurn k (Prod.fst (List.getD o1 (Int.toNat (List.getD v6 (Int.toNat v8) (0 : Int))) ((0 : Int), (0 : Int))), Prod.snd (List.getD o1 (Int.toNat (List.getD v6 (Int.toNat v8) (0 : Int))) ((0 : Int), (0 : Int))))) fun z0 => if (0 : Int) ≤ List.getD v6 (Int.toNat v8) (0 : Int) then if List.getD v6 (Int.toNat v8) (0 : Int) < (↑(List.length o1) : Int) then f_spec_saTurn_0 k (List.set o1 (Int.toNat (List.getD v6 (Int.toNat v8) (0 : Int))) (Prod.fst z0, Prod.snd z0)) b2_0 b2_1 v6 v7 (wrap64 (v8 + (1 : Int))) else none else none else none else none else none else none else some o1
noncomputable def f_spec_saTurn_0i : Spec := { objs := [OSh.ro, OSh.row false (75 : Nat) (Ty.pair (Ty.int IntKind.i64) (Ty.int IntKind.i64)), OSh.box (31 : Nat) [Sh.int IntKind.i64, Sh.int IntKind.i64, Sh.sl (1 : Nat)]], tmps := [((2 : Nat), TSh.at (Sh.ptr (2 : Nat) (0 : Nat))), ((6 : Nat), TSh.at (Sh.snap (0 : Nat) (Ty.int IntKind.i64))), ((7 : Nat), TSh.at (Sh.int IntKind.i64)), ((8 : Nat), TSh.at (Sh.int IntKind.i64))] }
noncomputable def f_spec_saTurn_0o : Spec := { objs := [OSh.ro, OSh.row false (75 : Nat) (Ty.pair (Ty.int IntKind.i64) (Ty.int IntKind.i64))], tmps := [] }
noncomputable def f_spec_saTurn_0D : LoopDef (Tup r_spec_saTurn × OutD) := .plain f_spec_saTurn_0i f_spec_saTurn_0o (List (Int × Int)) (fun k x => f_spec_saTurn_0 k x.1.2.1 x.1.2.2.1.1 x.1.2.2.1.2.1 x.2.2.1 x.2.2.2.1 x.2.2.2.2.1) (fun z => (((), z, ()), (()))) (fun y => (y.1.2.1)) (fun _ => rfl)
noncomputable def f_spec_saTurn : Nat → Int × Int × List (Int × Int) → List Int → Option (List (Int × Int))
  | 0, _, _ => none
  | k + 1, p0, p1 =>
    Option.bind (f_spec_saTurn_0 k (Prod.snd (Prod.snd p0)) (Prod.fst p0) (Prod.fst (Prod.snd p0)) p1 (↑(List.length p1) : Int) (0 : Int)) fun z1 => some z1
noncomputable def d_spec_saTurn : FnDef := .of q_spec_saTurn r_spec_saTurn (List (Int × Int)) (fun k x => f_spec_saTurn k x.1 x.2.1) to_spec_saTurn of_spec_saTurn to_of_spec_saTurn
noncomputable def c_spec_saTurn : Code := Try.f68.body.getD .skip
noncomputable def x_spec_saTurn : Ctx (Tup r_spec_saTurn × OutD) := { T := T, G := [(82, d_spec_paTurn.E)], mvs := [], no := 1, n := 23, res := resOf T q_spec_saTurn r_spec_saTurn Try.f68.results.toList, loops := [(0, f_spec_saTurn_0D.E)], regs := [], conds := [] }
theorem g_spec_saTurn (k : Nat) : EnvOK Try.prog k x_spec_saTurn.G := (EnvOK.cons (s_spec_paTurn k) (EnvOK.nil mixed))
noncomputable def f_spec_saTurn_0B : Code := (findLoop 0 c_spec_saTurn).getD .skip
theorem f_spec_saTurn_0h (k : Nat) (x : f_spec_saTurn_0i.D) : f_spec_saTurn_0D.lp (k + 1) x = loopK x_spec_saTurn f_spec_saTurn_0D 0 f_spec_saTurn_0B k x := by kernel_rfl
theorem f_spec_saTurn_0l (k : Nat) : LOK Try.prog x_spec_saTurn k f_spec_saTurn_0B := LOK.by [] (by kernel_rfl) AllOK.nil
theorem f_spec_saTurn_0z (x : f_spec_saTurn_0i.D) : f_spec_saTurn_0D.lp 0 x = none := by kernel_rfl
theorem f_spec_saTurn_0ok (k : Nat) : EOK Try.prog x_spec_saTurn k f_spec_saTurn_0D.E (.block 0 (.loop f_spec_saTurn_0B)) := loop_ok T_ok g_spec_saTurn f_spec_saTurn_0z f_spec_saTurn_0h f_spec_saTurn_0l k
theorem h_spec_saTurn (k : Nat) (x : Tup d_spec_saTurn.ps) : d_spec_saTurn.f (k + 1) x = fnK d_spec_saTurn x_spec_saTurn c_spec_saTurn k x := by kernel_rfl
theorem z_spec_saTurn (x : Tup d_spec_saTurn.ps) : d_spec_saTurn.f 0 x = none := by kernel_rfl
theorem l_spec_saTurn (k : Nat) : LOK Try.prog x_spec_saTurn k c_spec_saTurn := LOK.by [(f_spec_saTurn_0D.E, .block 0 (.loop f_spec_saTurn_0B))] (by kernel_rfl) (AllOK.cons (f_spec_saTurn_0ok k) AllOK.nil)
theorem s_spec_saTurn (k : Nat) : SoundAt Try.prog k 68 d_spec_saTurn.E := @fn_all Try.prog d_spec_saTurn x_spec_saTurn 68 Try.f68 c_spec_saTurn (by kernel_rfl) (by kernel_rfl) (by kernel_rfl) Try.func68 (by kernel_rfl) (by kernel_rfl) (by kernel_rfl) T_ok g_spec_saTurn l_spec_saTurn z_spec_saTurn h_spec_saTurn k
/-! function 71 -/
noncomputable def r_impl_validCells : List PK := [{ t := Ty.bool }]
noncomputable def q_impl_validCells : List PK := [{ t := Ty.slice (75 : Nat) (Ty.pair (Ty.int IntKind.i64) (Ty.int IntKind.i64)) }]
noncomputable def to_impl_validCells (r : Bool) : Tup r_impl_validCells × OutD := ((r, ()), none)
noncomputable def of_impl_validCells : Tup r_impl_validCells × OutD → Option (Bool)
  | (a, none) => some (a.1)
  | _ => none
theorem to_of_impl_validCells : ∀ b r, of_impl_validCells b = some r → to_impl_validCells r = b := by
  rintro ⟨a, o⟩ r h
  cases o with
  | none => injection h with h; subst h; rfl
  | some _ => cases h
noncomputable def f_impl_validCells_0 : Nat → List (Int × Int) → Int → Int → Option (LR Unit Bool)
  | 0, _, _, _ => none
  | k + 1, v8, v9, v10 =>
    if decide (v10 < v9) = true then if (0 : Int) ≤ v10 then if v10 < (↑(List.length v8) : Int) then Option.bind (f_impl_IsCell k (Prod.fst (List.getD v8 (Int.toNat v10) ((0 : Int), (0 : Int))), Prod.snd (List.getD v8 (Int.toNat v10) ((0 : Int), (0 : Int))))) fun z0 => if (!z0) = true then some (LR.ret false) else f_impl_validCells_0 k v8 v9 (wrap64 (v10 + (1 : Int))) else none else none else some (LR.go ())
noncomputable def f_impl_validCells_0i : Spec := { objs := [OSh.ro], tmps := [((8 : Nat), TSh.at (Sh.snap (0 : Nat) (Ty.pair (Ty.int IntKind.i64) (Ty.int IntKind.i64)))), ((9 : Nat), TSh.at (Sh.int IntKind.i64)), ((10 : Nat), TSh.at (Sh.int IntKind.i64))] }
noncomputable def f_impl_validCells_0o : Spec := { objs := [OSh.ro], tmps := [] }
noncomputable def f_impl_validCells_0D : LoopDef (Tup r_impl_validCells × OutD) := .rets f_impl_validCells_0i f_impl_validCells_0o (Unit) (Bool) (fun k x => f_impl_validCells_0 k x.2.1 x.2.2.1 x.2.2.2.1) (fun z => (((), ()), (()))) (fun y => ()) (fun _ => rfl) to_impl_validCells of_impl_validCells to_of_impl_validCells
noncomputable def f_impl_validCells : Nat → List (Int × Int) → Option Bool
  | 0, _ => none
  | k + 1, p0 =>
    if decide ((↑(List.length p0) : Int) > (90 : Int)) = true then some false else Option.bind (f_impl_validCells_0 k p0 (↑(List.length p0) : Int) (0 : Int)) fun z1 => LR.on z1 (fun y1 => some true) fun r1 => some r1
noncomputable def d_impl_validCells : FnDef := .of q_impl_validCells r_impl_validCells (Bool) (fun k x => f_impl_validCells k x.1) to_impl_validCells of_impl_validCells to_of_impl_validCells
noncomputable def c_impl_validCells : Code := Try.f71.body.getD .skip
noncomputable def x_impl_validCells : Ctx (Tup r_impl_validCells × OutD) := { T := T, G := [(83, d_impl_IsCell.E)], mvs := [], no := 0, n := 18, res := resOf T q_impl_validCells r_impl_validCells Try.f71.results.toList, loops := [(0, f_impl_validCells_0D.E)], regs := [], conds := [] }
theorem g_impl_validCells (k : Nat) : EnvOK Try.prog k x_impl_validCells.G := (EnvOK.cons (s_impl_IsCell k) (EnvOK.nil mixed))
noncomputable def f_impl_validCells_0B : Code := (findLoop 0 c_impl_validCells).getD .skip
theorem f_impl_validCells_0h (k : Nat) (x : f_impl_validCells_0i.D) : f_impl_validCells_0D.lp (k + 1) x = loopK x_impl_validCells f_impl_validCells_0D 0 f_impl_validCells_0B k x := by kernel_rfl
theorem f_impl_validCells_0l (k : Nat) : LOK Try.prog x_impl_validCells k f_impl_validCells_0B := LOK.by [] (by kernel_rfl) AllOK.nil
theorem f_impl_validCells_0z (x : f_impl_validCells_0i.D) : f_impl_validCells_0D.lp 0 x = none := by kernel_rfl
theorem f_impl_validCells_0ok (k : Nat) : EOK Try.prog x_impl_validCells k f_impl_validCells_0D.E (.block 0 (.loop f_impl_validCells_0B)) := loop_ok T_ok g_impl_validCells f_impl_validCells_0z f_impl_validCells_0h f_impl_validCells_0l k
theorem h_impl_validCells (k : Nat) (x : Tup d_impl_validCells.ps) : d_impl_validCells.f (k + 1) x = fnK d_impl_validCells x_impl_validCells c_impl_validCells k x := by kernel_rfl
theorem z_impl_validCells (x : Tup d_impl_validCells.ps) : d_impl_validCells.f 0 x = none := by kernel_rfl
theorem l_impl_validCells (k : Nat) : LOK Try.prog x_impl_validCells k c_impl_validCells := LOK.by [(f_impl_validCells_0D.E, .block 0 (.loop f_impl_validCells_0B))] (by kernel_rfl) (AllOK.cons (f_impl_validCells_0ok k) AllOK.nil)
theorem s_impl_validCells (k : Nat) : SoundAt Try.prog k 71 d_impl_validCells.E := @fn_all Try.prog d_impl_validCells x_impl_validCells 71 Try.f71 c_impl_validCells (by kernel_rfl) (by kernel_rfl) (by kernel_rfl) Try.func71 (by kernel_rfl) (by kernel_rfl) (by kernel_rfl) T_ok g_impl_validCells l_impl_validCells z_impl_validCells h_impl_validCells k
/-! function 75 -/
noncomputable def r_spec_ggGroups : List PK := [{ t := Ty.slice (3 : Nat) (Ty.int IntKind.i64) }]
noncomputable def q_spec_ggGroups : List PK := [{ t := Ty.pair (Ty.int IntKind.i64) (Ty.pair (Ty.int IntKind.i64) (Ty.slice (75 : Nat) (Ty.pair (Ty.int IntKind.i64) (Ty.int IntKind.i64)))), agg := true }]
noncomputable def to_spec_ggGroups (r : List Int) : Tup r_spec_ggGroups × OutD := ((r, ()), none)
noncomputable def of_spec_ggGroups : Tup r_spec_ggGroups × OutD → Option (List Int)
  | (a, none) => some (a.1)
  | _ => none
theorem to_of_spec_ggGroups : ∀ b r, of_spec_ggGroups b = some r → to_spec_ggGroups r = b := by
  rintro ⟨a, o⟩ r h
  cases o with
  | none => injection h with h; subst h; rfl
  | some _ => cases h
noncomputable def f_spec_ggGroups_0 : Nat → Int → Int → List (Int × Int) → List Int → Int → Int → Option (Int × Int × List (Int × Int) × List Int)
  | 0, _, _, _, _, _, _ => none
  | k + 1, b1_0, b1_1, b1_2, o2, v17, v18 =>
    if decide (v18 < v17) = true then if (0 : Int) ≤ v18 then if v18 < (↑(List.length o2) : Int) then f_spec_ggGroups_0 k b1_0 b1_1 b1_2 (List.set o2 (Int.toNat v18) (-1 : Int)) v17 (wrap64 (v18 + (1 : Int))) else none else none else some (b1_0, b1_1, b1_2, o2)
noncomputable def f_spec_ggGroups_0i : Spec := { objs := [OSh.ro, OSh.box (31 : Nat) [Sh.int IntKind.i64, Sh.int IntKind.i64, Sh.snap (0 : Nat) (Ty.pair (Ty.int IntKind.i64) (Ty.int IntKind.i64))], OSh.row true (3 : Nat) (Ty.int IntKind.i64)], tmps := [((1 : Nat), TSh.at (Sh.ptr (1 : Nat) (0 : Nat))), ((3 : Nat), TSh.at (Sh.sl (2 : Nat))), ((17 : Nat), TSh.at (Sh.int IntKind.i64)), ((18 : Nat), TSh.at (Sh.int IntKind.i64))] }
noncomputable def f_spec_ggGroups_0o : Spec := { objs := [OSh.ro, OSh.box (31 : Nat) [Sh.int IntKind.i64, Sh.int IntKind.i64, Sh.snap (0 : Nat) (Ty.pair (Ty.int IntKind.i64) (Ty.int IntKind.i64))], OSh.row true (3 : Nat) (Ty.int IntKind.i64)], tmps := [((1 : Nat), TSh.at (Sh.ptr (1 : Nat) (0 : Nat))), ((3 : Nat), TSh.at (Sh.sl (2 : Nat)))] }
noncomputable def f_spec_ggGroups_0D : LoopDef (Tup r_spec_ggGroups × OutD) := .plain f_spec_ggGroups_0i f_spec_ggGroups_0o (Int × Int × List (Int × Int) × List Int) (fun k x => f_spec_ggGroups_0 k x.1.2.1.1 x.1.2.1.2.1 x.1.2.1.2.2.1 x.1.2.2.1 x.2.2.2.1 x.2.2.2.2.1) (fun z => (((), (z.1, z.2.1, z.2.2.1, ()), z.2.2.2, ()), ((), (), ()))) (fun y => (y.1.2.1.1, y.1.2.1.2.1, y.1.2.1.2.2.1, y.1.2.2.1)) (fun _ => rfl)
noncomputable def f_spec_ggGroups_6 : Nat → Int → Int → List (Int × Int) → List Int → List Int → List Int → Int → Int → List (Int × Int) → Int → Int → Int → Int → Option (Int × Int × List (Int × Int) × List Int × List Int × Int × Int × List (Int × Int) × Int × Int)
  | 0, _, _, _, _, _, _, _, _, _, _, _, _, _ => none
  | k + 1, b1_0, b1_1, b1_2, o2, o3, o4, v5, v9, v26, v27, v28, v61, v62 =>
    if decide (v62 < v61) = true then if (0 : Int) ≤ v62 then if v62 < (↑(List.length o4) : Int) then if (0 : Int) ≤ List.getD o4 (Int.toNat v62) (0 : Int) then if List.getD o4 (Int.toNat v62) (0 : Int) < (↑(List.length b1_2) : Int) then Option.bind (f_spec_ggGear k (Prod.fst (List.getD b1_2 (Int.toNat (List.getD o4 (Int.toNat v62) (0 : Int))) ((0 : Int), (0 : Int))), Prod.snd (List.getD b1_2 (Int.toNat (List.getD o4 (Int.toNat v62) (0 : Int))) ((0 : Int), (0 : Int))))) fun z3 => if z3 = true then if (0 : Int) ≤ List.getD o4 (Int.toNat v62) (0 : Int) then if List.getD o4 (Int.toNat v62) (0 : Int) < (↑(List.length o2) : Int) then if decide (List.getD o2 (Int.toNat (List.getD o4 (Int.toNat v62) (0 : Int))) (0 : Int) < (0 : Int)) = true then if (0 : Int) ≤ List.getD o4 (Int.toNat v62) (0 : Int) then if List.getD o4 (Int.toNat v62) (0 : Int) < (↑(List.length o2) : Int) then if List.length o3 + List.length [List.getD o4 (Int.toNat v62) (0 : Int)] ≤ (140737488355328 / 8 : Nat) then f_spec_ggGroups_6 k b1_0 b1_1 b1_2 (List.set o2 (Int.toNat (List.getD o4 (Int.toNat v62) (0 : Int))) v5) (o3 ++ [List.getD o4 (Int.toNat v62) (0 : Int)]) o4 v5 v9 v26 v27 v28 v61 (wrap64 (v62 + (1 : Int))) else none else none else none else f_spec_ggGroups_6 k b1_0 b1_1 b1_2 o2 o3 o4 v5 v9 v26 v27 v28 v61 (wrap64 (v62 + (1 : Int))) else none else none else f_spec_ggGroups_6 k b1_0 b1_1 b1_2 o2 o3 o4 v5 v9 v26 v27 v28 v61 (wrap64 (v62 + (1 : Int))) else none else none else none else none else some (b1_0, b1_1, b1_2, o2, o3, v5, v9, v26, v27, v28)
noncomputable def f_spec_ggGroups_6i : Spec := { objs := [OSh.ro, OSh.box (31 : Nat) [Sh.int IntKind.i64, Sh.int IntKind.i64, Sh.snap (0 : Nat) (Ty.pair (Ty.int IntKind.i64) (Ty.int IntKind.i64))], OSh.row true (3 : Nat) (Ty.int IntKind.i64), OSh.row true (3 : Nat) (Ty.int IntKind.i64), OSh.row true (3 : Nat) (Ty.int IntKind.i64)], tmps := [((1 : Nat), TSh.at (Sh.ptr (1 : Nat) (0 : Nat))), ((3 : Nat), TSh.at (Sh.sl (2 : Nat))), ((5 : Nat), TSh.at (Sh.int IntKind.i64)), ((8 : Nat), TSh.at (Sh.sl (3 : Nat))), ((9 : Nat), TSh.at (Sh.int IntKind.i64)), ((26 : Nat), TSh.at (Sh.snap (0 : Nat) (Ty.pair (Ty.int IntKind.i64) (Ty.int IntKind.i64)))), ((27 : Nat), TSh.at (Sh.int IntKind.i64)), ((28 : Nat), TSh.at (Sh.int IntKind.i64)), ((60 : Nat), TSh.at (Sh.sl (4 : Nat))), ((61 : Nat), TSh.at (Sh.int IntKind.i64)), ((62 : Nat), TSh.at (Sh.int IntKind.i64))] }
noncomputable def f_spec_ggGroups_6o : Spec := { objs := [OSh.ro, OSh.box (31 : Nat) [Sh.int IntKind.i64, Sh.int IntKind.i64, Sh.snap (0 : Nat) (Ty.pair (Ty.int IntKind.i64) (Ty.int IntKind.i64))], OSh.row true (3 : Nat) (Ty.int IntKind.i64), OSh.row true (3 : Nat) (Ty.int IntKind.i64)], tmps := [((1 : Nat), TSh.at (Sh.ptr (1 : Nat) (0 : Nat))), ((3 : Nat), TSh.at (Sh.sl (2 : Nat))), ((5 : Nat), TSh.at (Sh.int IntKind.i64)), ((8 : Nat), TSh.at (Sh.sl (3 : Nat))), ((9 : Nat), TSh.at (Sh.int IntKind.i64)), ((26 : Nat), TSh.at (Sh.snap (0 : Nat) (Ty.pair (Ty.int IntKind.i64) (Ty.int IntKind.i64)))), ((27 : Nat), TSh.at (Sh.int IntKind.i64)), ((28 : Nat), TSh.at (Sh.int IntKind.i64))] }
noncomputable def f_spec_ggGroups_6D : LoopDef (Tup r_spec_ggGroups × OutD) := .plain f_spec_ggGroups_6i f_spec_ggGroups_6o (Int × Int × List (Int × Int) × List Int × List Int × Int × Int × List (Int × Int) × Int × Int) (fun k x => f_spec_ggGroups_6 k x.1.2.1.1 x.1.2.1.2.1 x.1.2.1.2.2.1 x.1.2.2.1 x.1.2.2.2.1 x.1.2.2.2.2.1 x.2.2.2.1 x.2.2.2.2.2.1 x.2.2.2.2.2.2.1 x.2.2.2.2.2.2.2.1 x.2.2.2.2.2.2.2.2.1 x.2.2.2.2.2.2.2.2.2.2.1 x.2.2.2.2.2.2.2.2.2.2.2.1) (fun z => (((), (z.1, z.2.1, z.2.2.1, ()), z.2.2.2.1, z.2.2.2.2.1, ()), ((), (), z.2.2.2.2.2.1, (), z.2.2.2.2.2.2.1, z.2.2.2.2.2.2.2.1, z.2.2.2.2.2.2.2.2.1, z.2.2.2.2.2.2.2.2.2, ()))) (fun y => (y.1.2.1.1, y.1.2.1.2.1, y.1.2.1.2.2.1, y.1.2.2.1, y.1.2.2.2.1, y.2.2.2.1, y.2.2.2.2.2.1, y.2.2.2.2.2.2.1, y.2.2.2.2.2.2.2.1, y.2.2.2.2.2.2.2.2.1)) (fun _ => rfl)
noncomputable def f_spec_ggGroups_4 : Nat → Int → Int → List (Int × Int) → List Int → List Int → Int → Int → List (Int × Int) → Int → Int → Option (Int × Int × List (Int × Int) × List Int × Int × List (Int × Int) × Int × Int)
  | 0, _, _, _, _, _, _, _, _, _, _ => none
  | k + 1, b1_0, b1_1, b1_2, o2, o3, v5, v9, v26, v27, v28 =>
    if decide (v9 < (↑(List.length o3) : Int)) = true then if (0 : Int) ≤ v9 then if v9 < (↑(List.length o3) : Int) then Option.bind (f_spec_ggNear k (b1_0, b1_1, b1_2) (List.getD o3 (Int.toNat v9) (0 : Int))) fun z2 => Option.bind (f_spec_ggGroups_6 k b1_0 b1_1 b1_2 o2 o3 z2 v5 v9 v26 v27 v28 (↑(List.length z2) : Int) (0 : Int)) fun z4 => f_spec_ggGroups_4 k (Prod.fst z4) (Prod.fst (Prod.snd z4)) (Prod.fst (Prod.snd (Prod.snd z4))) (Prod.fst (Prod.snd (Prod.snd (Prod.snd z4)))) (Prod.fst (Prod.snd (Prod.snd (Prod.snd (Prod.snd z4))))) (Prod.fst (Prod.snd (Prod.snd (Prod.snd (Prod.snd (Prod.snd z4)))))) (wrap64 (Prod.fst (Prod.snd (Prod.snd (Prod.snd (Prod.snd (Prod.snd (Prod.snd z4)))))) + (1 : Int))) (Prod.fst (Prod.snd (Prod.snd (Prod.snd (Prod.snd (Prod.snd (Prod.snd (Prod.snd z4)))))))) (Prod.fst (Prod.snd (Prod.snd (Prod.snd (Prod.snd (Prod.snd (Prod.snd (Prod.snd (Prod.snd z4))))))))) (Prod.snd (Prod.snd (Prod.snd (Prod.snd (Prod.snd (Prod.snd (Prod.snd (Prod.snd (Prod.snd z4))))))))) else none else none else some (b1_0, b1_1, b1_2, o2, v5, v26, v27, v28)
noncomputable def f_spec_ggGroups_4i : Spec := { objs := [OSh.ro, OSh.box (31 : Nat) [Sh.int IntKind.i64, Sh.int IntKind.i64, Sh.snap (0 : Nat) (Ty.pair (Ty.int IntKind.i64) (Ty.int IntKind.i64))], OSh.row true (3 : Nat) (Ty.int IntKind.i64), OSh.row true (3 : Nat) (Ty.int IntKind.i64)], tmps := [((1 : Nat), TSh.at (Sh.ptr (1 : Nat) (0 : Nat))), ((3 : Nat), TSh.at (Sh.sl (2 : Nat))), ((5 : Nat), TSh.at (Sh.int IntKind.i64)), ((8 : Nat), TSh.at (Sh.sl (3 : Nat))), ((9 : Nat), TSh.at (Sh.int IntKind.i64)), ((26 : Nat), TSh.at (Sh.snap (0 : Nat) (Ty.pair (Ty.int IntKind.i64) (Ty.int IntKind.i64)))), ((27 : Nat), TSh.at (Sh.int IntKind.i64)), ((28 : Nat), TSh.at (Sh.int IntKind.i64))] }
noncomputable def f_spec_ggGroups_4o : Spec := { objs := [OSh.ro, OSh.box (31 : Nat) [Sh.int IntKind.i64, Sh.int IntKind.i64, Sh.snap (0 : Nat) (Ty.pair (Ty.int IntKind.i64) (Ty.int IntKind.i64))], OSh.row true (3 : Nat) (Ty.int IntKind.i64)], tmps := [((1 : Nat), TSh.at (Sh.ptr (1 : Nat) (0 : Nat))), ((3 : Nat), TSh.at (Sh.sl (2 : Nat))), ((5 : Nat), TSh.at (Sh.int IntKind.i64)), ((26 : Nat), TSh.at (Sh.snap (0 : Nat) (Ty.pair (Ty.int IntKind.i64) (Ty.int IntKind.i64)))), ((27 : Nat), TSh.at (Sh.int IntKind.i64)), ((28 : Nat), TSh.at (Sh.int IntKind.i64))] }
noncomputable def f_spec_ggGroups_4D : LoopDef (Tup r_spec_ggGroups × OutD) := .plain f_spec_ggGroups_4i f_spec_ggGroups_4o (Int × Int × List (Int × Int) × List Int × Int × List (Int × Int) × Int × Int) (fun k x => f_spec_ggGroups_4 k x.1.2.1.1 x.1.2.1.2.1 x.1.2.1.2.2.1 x.1.2.2.1 x.1.2.2.2.1 x.2.2.2.1 x.2.2.2.2.2.1 x.2.2.2.2.2.2.1 x.2.2.2.2.2.2.2.1 x.2.2.2.2.2.2.2.2.1) (fun z => (((), (z.1, z.2.1, z.2.2.1, ()), z.2.2.2.1, ()), ((), (), z.2.2.2.2.1, z.2.2.2.2.2.1, z.2.2.2.2.2.2.1, z.2.2.2.2.2.2.2, ()))) (fun y => (y.1.2.1.1, y.1.2.1.2.1, y.1.2.1.2.2.1, y.1.2.2.1, y.2.2.2.1, y.2.2.2.2.1, y.2.2.2.2.2.1, y.2.2.2.2.2.2.1)) (fun _ => rfl)
noncomputable def f_spec_ggGroups_2 : Nat → Int → Int → List (Int × Int) → List Int → Int → List (Int × Int) → Int → Int → Option (List Int)
  | 0, _, _, _, _, _, _, _, _ => none
  | k + 1, b1_0, b1_1, b1_2, o2, v5, v26, v27, v28 =>
    if decide (v28 < v27) = true then if (0 : Int) ≤ v28 then if v28 < (↑(List.length v26) : Int) then Option.bind (f_spec_ggGear k (Prod.fst (List.getD v26 (Int.toNat v28) ((0 : Int), (0 : Int))), Prod.snd (List.getD v26 (Int.toNat v28) ((0 : Int), (0 : Int))))) fun z1 => if (!z1) = true then f_spec_ggGroups_2 k b1_0 b1_1 b1_2 o2 v5 v26 v27 (wrap64 (v28 + (1 : Int))) else if (0 : Int) ≤ v28 then if v28 < (↑(List.length o2) : Int) then if decide (List.getD o2 (Int.toNat v28) (0 : Int) ≥ (0 : Int)) = true then f_spec_ggGroups_2 k b1_0 b1_1 b1_2 o2 v5 v26 v27 (wrap64 (v28 + (1 : Int))) else if (0 : Int) ≤ v28 then if v28 < (↑(List.length o2) : Int) then Option.bind (f_spec_ggGroups_4 k b1_0 b1_1 b1_2 (List.set o2 (Int.toNat v28) v5) [v28] v5 (0 : Int) v26 v27 v28) fun z5 => f_spec_ggGroups_2 k (Prod.fst z5) (Prod.fst (Prod.snd z5)) (Prod.fst (Prod.snd (Prod.snd z5))) (Prod.fst (Prod.snd (Prod.snd (Prod.snd z5)))) (wrap64 (Prod.fst (Prod.snd (Prod.snd (Prod.snd (Prod.snd z5)))) + (1 : Int))) (Prod.fst (Prod.snd (Prod.snd (Prod.snd (Prod.snd (Prod.snd z5)))))) (Prod.fst (Prod.snd (Prod.snd (Prod.snd (Prod.snd (Prod.snd (Prod.snd z5))))))) (wrap64 (Prod.snd (Prod.snd (Prod.snd (Prod.snd (Prod.snd (Prod.snd (Prod.snd z5)))))) + (1 : Int))) else none else none else none else none else none else none else some o2
noncomputable def f_spec_ggGroups_2i : Spec := { objs := [OSh.ro, OSh.box (31 : Nat) [Sh.int IntKind.i64, Sh.int IntKind.i64, Sh.snap (0 : Nat) (Ty.pair (Ty.int IntKind.i64) (Ty.int IntKind.i64))], OSh.row true (3 : Nat) (Ty.int IntKind.i64)], tmps := [((1 : Nat), TSh.at (Sh.ptr (1 : Nat) (0 : Nat))), ((3 : Nat), TSh.at (Sh.sl (2 : Nat))), ((5 : Nat), TSh.at (Sh.int IntKind.i64)), ((26 : Nat), TSh.at (Sh.snap (0 : Nat) (Ty.pair (Ty.int IntKind.i64) (Ty.int IntKind.i64)))), ((27 : Nat), TSh.at (Sh.int IntKind.i64)), ((28 : Nat), TSh.at (Sh.int IntKind.i64))] }
noncomputable def f_spec_ggGroups_2o : Spec := { objs := [OSh.ro, OSh.row true (3 : Nat) (Ty.int IntKind.i64)], tmps := [((3 : Nat), TSh.at (Sh.sl (1 : Nat)))] }
noncomputable def f_spec_ggGroups_2D : LoopDef (Tup r_spec_ggGroups × OutD) := .plain f_spec_ggGroups_2i f_spec_ggGroups_2o (List Int) (fun k x => f_spec_ggGroups_2 k x.1.2.1.1 x.1.2.1.2.1 x.1.2.1.2.2.1 x.1.2.2.1 x.2.2.2.1 x.2.2.2.2.1 x.2.2.2.2.2.1 x.2.2.2.2.2.2.1) (fun z => (((), z, ()), ((), ()))) (fun y => (y.1.2.1)) (fun _ => rfl)
noncomputable def f_spec_ggGroups : Nat → Int × Int × List (Int × Int) → Option (List Int)
  | 0, _ => none
  | k + 1, p0 =>
    if Int.toNat (↑(List.length (Prod.snd (Prod.snd p0))) : Int) * (8 : Nat) ≤ (281474976710656 : Nat) then Option.bind (f_spec_ggGroups_0 k (Prod.fst p0) (Prod.fst (Prod.snd p0)) (Prod.snd (Prod.snd p0)) (List.replicate (Int.toNat (↑(List.length (Prod.snd (Prod.snd p0))) : Int)) (0 : Int)) (↑(List.length (List.replicate (Int.toNat (↑(List.length (Prod.snd (Prod.snd p0))) : Int)) (0 : Int))) : Int) (0 : Int)) fun z0 => Option.bind (f_spec_ggGroups_2 k (Prod.fst z0) (Prod.fst (Prod.snd z0)) (Prod.fst (Prod.snd (Prod.snd z0))) (Prod.snd (Prod.snd (Prod.snd z0))) (0 : Int) (Prod.fst (Prod.snd (Prod.snd z0))) (↑(List.length (Prod.fst (Prod.snd (Prod.snd z0)))) : Int) (0 : Int)) fun z6 => some z6 else none
noncomputable def d_spec_ggGroups : FnDef := .of q_spec_ggGroups r_spec_ggGroups (List Int) (fun k x => f_spec_ggGroups k x.1) to_spec_ggGroups of_spec_ggGroups to_of_spec_ggGroups
noncomputable def c_spec_ggGroups : Code := Try.f75.body.getD .skip
noncomputable def x_spec_ggGroups : Ctx (Tup r_spec_ggGroups × OutD) := { T := T, G := [(84, d_spec_ggGear.E), (85, d_spec_ggNear.E)], mvs := [], no := 0, n := 92, res := resOf T q_spec_ggGroups r_spec_ggGroups Try.f75.results.toList, loops := [(0, f_spec_ggGroups_0D.E), (6, f_spec_ggGroups_6D.E), (4, f_spec_ggGroups_4D.E), (2, f_spec_ggGroups_2D.E)], regs := [], conds := [] }
theorem g_spec_ggGroups (k : Nat) : EnvOK Try.prog k x_spec_ggGroups.G := (EnvOK.cons (s_spec_ggGear k) (EnvOK.cons (s_spec_ggNear k) (EnvOK.nil mixed)))
noncomputable def f_spec_ggGroups_0B : Code := (findLoop 0 c_spec_ggGroups).getD .skip
theorem f_spec_ggGroups_0h (k : Nat) (x : f_spec_ggGroups_0i.D) : f_spec_ggGroups_0D.lp (k + 1) x = loopK x_spec_ggGroups f_spec_ggGroups_0D 0 f_spec_ggGroups_0B k x := by kernel_rfl
theorem f_spec_ggGroups_0l (k : Nat) : LOK Try.prog x_spec_ggGroups k f_spec_ggGroups_0B := LOK.by [] (by kernel_rfl) AllOK.nil
theorem f_spec_ggGroups_0z (x : f_spec_ggGroups_0i.D) : f_spec_ggGroups_0D.lp 0 x = none := by kernel_rfl
theorem f_spec_ggGroups_0ok (k : Nat) : EOK Try.prog x_spec_ggGroups k f_spec_ggGroups_0D.E (.block 0 (.loop f_spec_ggGroups_0B)) := loop_ok T_ok g_spec_ggGroups f_spec_ggGroups_0z f_spec_ggGroups_0h f_spec_ggGroups_0l k
noncomputable def f_spec_ggGroups_6B : Code := (findLoop 6 c_spec_ggGroups).getD .skip
theorem f_spec_ggGroups_6h (k : Nat) (x : f_spec_ggGroups_6i.D) : f_spec_ggGroups_6D.lp (k + 1) x = loopK x_spec_ggGroups f_spec_ggGroups_6D 6 f_spec_ggGroups_6B k x := by kernel_rfl
theorem f_spec_ggGroups_6l (k : Nat) : LOK Try.prog x_spec_ggGroups k f_spec_ggGroups_6B := LOK.by [] (by kernel_rfl) AllOK.nil
theorem f_spec_ggGroups_6z (x : f_spec_ggGroups_6i.D) : f_spec_ggGroups_6D.lp 0 x = none := by kernel_rfl
theorem f_spec_ggGroups_6ok (k : Nat) : EOK Try.prog x_spec_ggGroups k f_spec_ggGroups_6D.E (.block 6 (.loop f_spec_ggGroups_6B)) := loop_ok T_ok g_spec_ggGroups f_spec_ggGroups_6z f_spec_ggGroups_6h f_spec_ggGroups_6l k
noncomputable def f_spec_ggGroups_4B : Code := (findLoop 4 c_spec_ggGroups).getD .skip
theorem f_spec_ggGroups_4h (k : Nat) (x : f_spec_ggGroups_4i.D) : f_spec_ggGroups_4D.lp (k + 1) x = loopK x_spec_ggGroups f_spec_ggGroups_4D 4 f_spec_ggGroups_4B k x := by kernel_rfl
theorem f_spec_ggGroups_4l (k : Nat) : LOK Try.prog x_spec_ggGroups k f_spec_ggGroups_4B := LOK.by [(f_spec_ggGroups_6D.E, .block 6 (.loop f_spec_ggGroups_6B))] (by kernel_rfl) (AllOK.cons (f_spec_ggGroups_6ok k) AllOK.nil)
theorem f_spec_ggGroups_4z (x : f_spec_ggGroups_4i.D) : f_spec_ggGroups_4D.lp 0 x = none := by kernel_rfl
theorem f_spec_ggGroups_4ok (k : Nat) : EOK Try.prog x_spec_ggGroups k f_spec_ggGroups_4D.E (.block 4 (.loop f_spec_ggGroups_4B)) := loop_ok T_ok g_spec_ggGroups f_spec_ggGroups_4z f_spec_ggGroups_4h f_spec_ggGroups_4l k
noncomputable def f_spec_ggGroups_2B : Code := (findLoop 2 c_spec_ggGroups).getD .skip
theorem f_spec_ggGroups_2h (k : Nat) (x : f_spec_ggGroups_2i.D) : f_spec_ggGroups_2D.lp (k + 1) x = loopK x_spec_ggGroups f_spec_ggGroups_2D 2 f_spec_ggGroups_2B k x := by kernel_rfl
theorem f_spec_ggGroups_2l (k : Nat) : LOK Try.prog x_spec_ggGroups k f_spec_ggGroups_2B := LOK.by [(f_spec_ggGroups_4D.E, .block 4 (.loop f_spec_ggGroups_4B))] (by kernel_rfl) (AllOK.cons (f_spec_ggGroups_4ok k) AllOK.nil)
theorem f_spec_ggGroups_2z (x : f_spec_ggGroups_2i.D) : f_spec_ggGroups_2D.lp 0 x = none := by kernel_rfl
theorem f_spec_ggGroups_2ok (k : Nat) : EOK Try.prog x_spec_ggGroups k f_spec_ggGroups_2D.E (.block 2 (.loop f_spec_ggGroups_2B)) := loop_ok T_ok g_spec_ggGroups f_spec_ggGroups_2z f_spec_ggGroups_2h f_spec_ggGroups_2l k
theorem h_spec_ggGroups (k : Nat) (x : Tup d_spec_ggGroups.ps) : d_spec_ggGroups.f (k + 1) x = fnK d_spec_ggGroups x_spec_ggGroups c_spec_ggGroups k x := by kernel_rfl
theorem z_spec_ggGroups (x : Tup d_spec_ggGroups.ps) : d_spec_ggGroups.f 0 x = none := by kernel_rfl
theorem l_spec_ggGroups (k : Nat) : LOK Try.prog x_spec_ggGroups k c_spec_ggGroups := LOK.by [(f_spec_ggGroups_0D.E, .block 0 (.loop f_spec_ggGroups_0B)), (f_spec_ggGroups_2D.E, .block 2 (.loop f_spec_ggGroups_2B))] (by kernel_rfl) (AllOK.cons (f_spec_ggGroups_0ok k) (AllOK.cons (f_spec_ggGroups_2ok k) AllOK.nil))
theorem s_spec_ggGroups (k : Nat) : SoundAt Try.prog k 75 d_spec_ggGroups.E := @fn_all Try.prog d_spec_ggGroups x_spec_ggGroups 75 Try.f75 c_spec_ggGroups (by kernel_rfl) (by kernel_rfl) (by kernel_rfl) Try.func75 (by kernel_rfl) (by kernel_rfl) (by kernel_rfl) T_ok g_spec_ggGroups l_spec_ggGroups z_spec_ggGroups h_spec_ggGroups k
/-! function 79 -/
noncomputable def r_impl_GoesTo : List PK := [{ t := Ty.int IntKind.i64 }, { t := Ty.bool }]
noncomputable def q_impl_GoesTo : List PK := [{ t := Ty.pair (Ty.int IntKind.i64) (Ty.int IntKind.i64), agg := true }, { t := Ty.int IntKind.i64 }]
noncomputable def to_impl_GoesTo (r : Int × Bool) : Tup r_impl_GoesTo × OutD := ((r.1, r.2, ()), none)
noncomputable def of_impl_GoesTo : Tup r_impl_GoesTo × OutD → Option (Int × Bool)
  | (a, none) => some (a.1, a.2.1)
  | _ => none
theorem to_of_impl_GoesTo : ∀ b r, of_impl_GoesTo b = some r → to_impl_GoesTo r = b := by
  rintro ⟨a, o⟩ r h
  cases o with
  | none => injection h with h; subst h; rfl
  | some _ => cases h
noncomputable def f_impl_GoesTo : Nat → Int × Int → Int → Option (Int × Bool)
  | 0, _, _ => none
  | k + 1, p0, p1 =>
    Option.bind (f_impl_IsCell k (Prod.fst p0, Prod.snd p0)) fun z0 => if (!z0) = true then some ((0 : Int), false) else if decide (p1 < (-1 : Int)) = true then some ((0 : Int), false) else if decide (p1 > (1 : Int)) = true then some ((0 : Int), false) else if decide (Prod.fst p0 = (5 : Int)) = true then some ((0 : Int), false) else if decide (Prod.fst p0 = (1 : Int)) = true then some ((-1 : Int), true) else if decide (Prod.fst p0 = (2 : Int)) = true then some ((1 : Int), true) else if decide (Prod.fst p0 = (3 : Int)) = true then some (wrap64 (wrap64 ((2 : Int) * Prod.snd p0) - (1 : Int)), true) else if decide (Prod.fst p0 = (6 : Int)) = true then some (wrap64 (wrap64 ((2 : Int) * Prod.snd p0) - (1 : Int)), true) else if decide (Prod.fst p0 = (4 : Int)) = true then some (wrap64 ((0 : Int) - p1), true) else some ((0 : Int), true)
noncomputable def d_impl_GoesTo : FnDef := .of q_impl_GoesTo r_impl_GoesTo (Int × Bool) (fun k x => f_impl_GoesTo k x.1 x.2.1) to_impl_GoesTo of_impl_GoesTo to_of_impl_GoesTo
noncomputable def c_impl_GoesTo : Code := Try.f79.body.getD .skip
noncomputable def x_impl_GoesTo : Ctx (Tup r_impl_GoesTo × OutD) := { T := T, G := [(83, d_impl_IsCell.E)], mvs := [], no := 0, n := 39, res := resOf T q_impl_GoesTo r_impl_GoesTo Try.f79.results.toList, loops := [], regs := [], conds := [] }
theorem g_impl_GoesTo (k : Nat) : EnvOK Try.prog k x_impl_GoesTo.G := (EnvOK.cons (s_impl_IsCell k) (EnvOK.nil mixed))
theorem h_impl_GoesTo (k : Nat) (x : Tup d_impl_GoesTo.ps) : d_impl_GoesTo.f (k + 1) x = fnK d_impl_GoesTo x_impl_GoesTo c_impl_GoesTo k x := by kernel_rfl
theorem z_impl_GoesTo (x : Tup d_impl_GoesTo.ps) : d_impl_GoesTo.f 0 x = none := by kernel_rfl
theorem l_impl_GoesTo (k : Nat) : LOK Try.prog x_impl_GoesTo k c_impl_GoesTo := LOK.by [] (by kernel_rfl) AllOK.nil
theorem s_impl_GoesTo (k : Nat) : SoundAt Try.prog k 79 d_impl_GoesTo.E := @fn_all Try.prog d_impl_GoesTo x_impl_GoesTo 79 Try.f79 c_impl_GoesTo (by kernel_rfl) (by kernel_rfl) (by kernel_rfl) Try.func79 (by kernel_rfl) (by kernel_rfl) (by kernel_rfl) T_ok g_impl_GoesTo l_impl_GoesTo z_impl_GoesTo h_impl_GoesTo k
/-! function 81 -/
noncomputable def r_spec_paGood : List PK := [{ t := Ty.bool }]
noncomputable def q_spec_paGood : List PK := [{ t := Ty.pair (Ty.int IntKind.i64) (Ty.int IntKind.i64), agg := true }]
noncomputable def to_spec_paGood (r : Bool) : Tup r_spec_paGood × OutD := ((r, ()), none)
noncomputable def of_spec_paGood : Tup r_spec_paGood × OutD → Option (Bool)
  | (a, none) => some (a.1)
  | _ => none
theorem to_of_spec_paGood : ∀ b r, of_spec_paGood b = some r → to_spec_paGood r = b := by
  rintro ⟨a, o⟩ r h
  cases o with
  | none => injection h with h; subst h; rfl
  | some _ => cases h
noncomputable def f_spec_paGood : Nat → Int × Int → Option Bool
  | 0, _ => none
  | k + 1, p0 =>
    Option.bind (f_spec_l1In k (Prod.fst p0) (0 : Int) (7 : Int)) fun z0 => if z0 = true then if decide (Prod.snd p0 = (0 : Int)) = true then some true else if decide (Prod.snd p0 = (1 : Int)) = true then Option.bind (f_spec_paTurning k (Prod.fst p0, Prod.snd p0)) fun z1 => some z1 else some false else some false
noncomputable def d_spec_paGood : FnDef := .of q_spec_paGood r_spec_paGood (Bool) (fun k x => f_spec_paGood k x.1) to_spec_paGood of_spec_paGood to_of_spec_paGood
noncomputable def c_spec_paGood : Code := Try.f81.body.getD .skip
noncomputable def x_spec_paGood : Ctx (Tup r_spec_paGood × OutD) := { T := T, G := [(74, d_spec_l1In.E), (89, d_spec_paTurning.E)], mvs := [], no := 0, n := 20, res := resOf T q_spec_paGood r_spec_paGood Try.f81.results.toList, loops := [], regs := [], conds := [] }
theorem g_spec_paGood (k : Nat) : EnvOK Try.prog k x_spec_paGood.G := (EnvOK.cons (s_spec_l1In k) (EnvOK.cons (s_spec_paTurning k) (EnvOK.nil mixed)))
theorem h_spec_paGood (k : Nat) (x : Tup d_spec_paGood.ps) : d_spec_paGood.f (k + 1) x = fnK d_spec_paGood x_spec_paGood c_spec_paGood k x := by kernel_rfl
theorem z_spec_paGood (x : Tup d_spec_paGood.ps) : d_spec_paGood.f 0 x = none := by kernel_rfl
theorem l_spec_paGood (k : Nat) : LOK Try.prog x_spec_paGood k c_spec_paGood := LOK.by [] (by kernel_rfl) AllOK.nil
theorem s_spec_paGood (k : Nat) : SoundAt Try.prog k 81 d_spec_paGood.E := @fn_all Try.prog d_spec_paGood x_spec_paGood 81 Try.f81 c_spec_paGood (by kernel_rfl) (by kernel_rfl) (by kernel_rfl) Try.func81 (by kernel_rfl) (by kernel_rfl) (by kernel_rfl) T_ok g_spec_paGood l_spec_paGood z_spec_paGood h_spec_paGood k
/-! function 88 -/
noncomputable def r_spec_flPass : List PK := []
noncomputable def q_spec_flPass : List PK := [{ t := Ty.pair (Ty.int IntKind.i64) (Ty.pair (Ty.int IntKind.i64) (Ty.slice (75 : Nat) (Ty.pair (Ty.int IntKind.i64) (Ty.int IntKind.i64)))), agg := true, own := some ((2 : Nat), (75 : Nat), Ty.pair (Ty.int IntKind.i64) (Ty.int IntKind.i64)) }, { t := Ty.slice (3 : Nat) (Ty.int IntKind.i64) }, { t := Ty.int IntKind.i64 }]
noncomputable def to_spec_flPass (r : List (Int × Int)) : Tup r_spec_flPass × OutD := ((()), some ⟨Ty.pair (Ty.int IntKind.i64) (Ty.int IntKind.i64), r⟩)
noncomputable def of_spec_flPass : Tup r_spec_flPass × OutD → Option (List (Int × Int))
  | (a, some ⟨u, ys⟩) => if h : u = Ty.pair (Ty.int IntKind.i64) (Ty.int IntKind.i64) then some (castU h ys) else none
  | _ => none
theorem to_of_spec_flPass : ∀ b r, of_spec_flPass b = some r → to_spec_flPass r = b := by
  rintro ⟨a, o⟩ r h
  cases o with
  | none => cases h
  | some s =>
    obtain ⟨u, ys⟩ := s
    simp only [of_spec_flPass] at h
    split at h
    · rename_i hu; subst hu; injection h with h; subst h; rfl
    · cases h
noncomputable def f_spec_flPass_1 : Nat → List (Int × Int) → Int → Int → List Int → Int → Int → Int → Option (List (Int × Int))
  | 0, _, _, _, _, _, _, _ => none
  | k + 1, o1, b2_0, b2_1, v1, v2, v28, v29 =>
    if decide (v29 < v28) = true then if (0 : Int) ≤ v29 then if v29 < (↑(List.length o1) : Int) then if decide (Prod.fst (List.getD o1 (Int.toNat v29) ((0 : Int), (0 : Int))) = (6 : Int)) = true then if (0 : Int) ≤ v29 then if v29 < (↑(List.length v1) : Int) then if (0 : Int) ≤ v2 then if v2 < (↑(List.length v1) : Int) then if decide (List.getD v1 (Int.toNat v29) (0 : Int) = List.getD v1 (Int.toNat v2) (0 : Int)) = true then Option.bind (f_spec_paTurn k (Prod.fst (List.getD o1 (Int.toNat v29) ((0 : Int), (0 : Int))), Prod.snd (List.getD o1 (Int.toNat v29) ((0 : Int), (0 : Int))))) fun z1 => if (0 : Int) ≤ v29 then if v29 < (↑(List.length o1) : Int) then f_spec_flPass_1 k (List.set o1 (Int.toNat v29) (Prod.fst z1, Prod.snd z1)) b2_0 b2_1 v1 v2 v28 (wrap64 (v29 + (1 : Int))) else none else none else f_spec_flPass_1 k o1 b2_0 b2_1 v1 v2 v28 (wrap64 (v29 + (1 : Int))) else none else none else none else none else f_spec_flPass_1 k o1 b2_0 b2_1 v1 v2 v28 (wrap64 (v29 + (1 : Int))) else none else none else some o1
noncomputable def f_spec_flPass_1i : Spec := { objs := [OSh.ro, OSh.row false (75 : Nat) (Ty.pair (Ty.int IntKind.i64) (Ty.int IntKind.i64)), OSh.box (31 : Nat) [Sh.int IntKind.i64, Sh.int IntKind.i64, Sh.sl (1 : Nat)]], tmps := [((1 : Nat), TSh.at (Sh.snap (0 : Nat) (Ty.int IntKind.i64))), ((2 : Nat), TSh.at (Sh.int IntKind.i64)), ((3 : Nat), TSh.at (Sh.ptr (2 : Nat) (0 : Nat))), ((27 : Nat), TSh.at (Sh.sl (1 : Nat))), ((28 : Nat), TSh.at (Sh.int IntKind.i64)), ((29 : Nat), TSh.at (Sh.int IntKind.i64))] }
noncomputable def f_spec_flPass_1o : Spec := { objs := [OSh.ro, OSh.row false (75 : Nat) (Ty.pair (Ty.int IntKind.i64) (Ty.int IntKind.i64))], tmps := [] }
noncomputable def f_spec_flPass_1D : LoopDef (Tup r_spec_flPass × OutD) := .plain f_spec_flPass_1i f_spec_flPass_1o (List (Int × Int)) (fun k x => f_spec_flPass_1 k x.1.2.1 x.1.2.2.1.1 x.1.2.2.1.2.1 x.2.1 x.2.2.1 x.2.2.2.2.2.1 x.2.2.2.2.2.2.1) (fun z => (((), z, ()), (()))) (fun y => (y.1.2.1)) (fun _ => rfl)
noncomputable def f_spec_flPass : Nat → Int × Int × List (Int × Int) → List Int → Int → Option (List (Int × Int))
  | 0, _, _, _ => none
  | k + 1, p0, p1, p2 =>
    if (0 : Int) ≤ p2 then if p2 < (↑(List.length (Prod.snd (Prod.snd p0))) : Int) then if decide (Prod.fst (List.getD (Prod.snd (Prod.snd p0)) (Int.toNat p2) ((0 : Int), (0 : Int))) = (3 : Int)) = true then Option.bind (f_spec_paTurn k (Prod.fst (List.getD (Prod.snd (Prod.snd p0)) (Int.toNat p2) ((0 : Int), (0 : Int))), Prod.snd (List.getD (Prod.snd (Prod.snd p0)) (Int.toNat p2) ((0 : Int), (0 : Int))))) fun z0 => if (0 : Int) ≤ p2 then if p2 < (↑(List.length (Prod.snd (Prod.snd p0))) : Int) then some (List.set (Prod.snd (Prod.snd p0)) (Int.toNat p2) (Prod.fst z0, Prod.snd z0)) else none else none else if decide (Prod.fst (List.getD (Prod.snd (Prod.snd p0)) (Int.toNat p2) ((0 : Int), (0 : Int))) = (6 : Int)) = true then Option.bind (f_spec_flPass_1 k (Prod.snd (Prod.snd p0)) (Prod.fst p0) (Prod.fst (Prod.snd p0)) p1 p2 (↑(List.length (Prod.snd (Prod.snd p0))) : Int) (0 : Int)) fun z2 => some z2 else some (Prod.snd (Prod.snd p0)) else none else none
noncomputable def d_spec_flPass : FnDef := .of q_spec_flPass r_spec_flPass (List (Int × Int)) (fun k x => f_spec_flPass k x.1 x.2.1 x.2.2.1) to_spec_flPass of_spec_flPass to_of_spec_flPass
noncomputable def c_spec_flPass : Code := Try.f88.body.getD .skip
noncomputable def x_spec_flPass : Ctx (Tup r_spec_flPass × OutD) := { T := T, G := [(82, d_spec_paTurn.E)], mvs := [], no := 1, n := 55, res := resOf T q_spec_flPass r_spec_flPass Try.f88.results.toList, loops := [(1, f_spec_flPass_1D.E)], regs := [], conds := [] }
theorem g_spec_flPass (k : Nat) : EnvOK Try.prog k x_spec_flPass.G := (EnvOK.cons (s_spec_paTurn k) (EnvOK.nil mixed))
noncomputable def f_spec_flPass_1B : Code := (findLoop 1 c_spec_flPass).getD .skip
theorem f_spec_flPass_1h (k : Nat) (x : f_spec_flPass_1i.D) : f_spec_flPass_1D.lp (k + 1) x = loopK x_spec_flPass f_spec_flPass_1D 1 f_spec_flPass_1B k x := by kernel_rfl
theorem f_spec_flPass_1l (k : Nat) : LOK Try.prog x_spec_flPass k f_spec_flPass_1B := LOK.by [] (by kernel_rfl) AllOK.nil
theorem f_spec_flPass_1z (x : f_spec_flPass_1i.D) : f_spec_flPass_1D.lp 0 x = none := by kernel_rfl
theorem f_spec_flPass_1ok (k : Nat) : EOK Try.prog x_spec_flPass k f_spec_flPass_1D.E (.block 1 (.loop f_spec_flPass_1B)) := loop_ok T_ok g_spec_flPass f_spec_flPass_1z f_spec_flPass_1h f_spec_flPass_1l k
theorem h_spec_flPass (k : Nat) (x : Tup d_spec_flPass.ps) : d_spec_flPass.f (k + 1) x = fnK d_spec_flPass x_spec_flPass c_spec_flPass k x := by kernel_rfl
theorem z_spec_flPass (x : Tup d_spec_flPass.ps) : d_spec_flPass.f 0 x = none := by kernel_rfl
theorem l_spec_flPass (k : Nat) : LOK Try.prog x_spec_flPass k c_spec_flPass := LOK.by [(f_spec_flPass_1D.E, .block 1 (.loop f_spec_flPass_1B))] (by kernel_rfl) (AllOK.cons (f_spec_flPass_1ok k) AllOK.nil)
theorem s_spec_flPass (k : Nat) : SoundAt Try.prog k 88 d_spec_flPass.E := @fn_all Try.prog d_spec_flPass x_spec_flPass 88 Try.f88 c_spec_flPass (by kernel_rfl) (by kernel_rfl) (by kernel_rfl) Try.func88 (by kernel_rfl) (by kernel_rfl) (by kernel_rfl) T_ok g_spec_flPass l_spec_flPass z_spec_flPass h_spec_flPass k
end
end Go.Proofs.Ytjjlmnbmpgfcbaa.Vs

set_option maxRecDepth 100000
set_option maxHeartbeats 2000000
set_option linter.unusedVariables false
set_option linter.unusedSimpArgs false
namespace Go.Proofs.Ytjjlmnbmpgfcbaa.Vs
open Go.RowKit
noncomputable section
/-! function 10 -/
noncomputable def r_laws_toBoard : List PK := [{ t := Ty.pair (Ty.int IntKind.i64) (Ty.pair (Ty.int IntKind.i64) (Ty.slice (75 : Nat) (Ty.pair (Ty.int IntKind.i64) (Ty.int IntKind.i64)))), agg := true }]
noncomputable def q_laws_toBoard : List PK := [{ t := Ty.pair (Ty.int IntKind.i64) (Ty.pair (Ty.int IntKind.i64) (Ty.slice (77 : Nat) (Ty.pair (Ty.int IntKind.i64) (Ty.int IntKind.i64)))), agg := true }]
noncomputable def to_laws_toBoard (r : Int × Int × List (Int × Int)) : Tup r_laws_toBoard × OutD := ((r, ()), none)
noncomputable def of_laws_toBoard : Tup r_laws_toBoard × OutD → Option (Int × Int × List (Int × Int))
  | (a, none) => some (a.1)
  | _ => none
theorem to_of_laws_toBoard : ∀ b r, of_laws_toBoard b = some r → to_laws_toBoard r = b := by
  rintro ⟨a, o⟩ r h
  cases o with
  | none => injection h with h; subst h; rfl
  | some _ => cases h
noncomputable def f_laws_toBoard : Nat → Int × Int × List (Int × Int) → Option (Int × Int × List (Int × Int))
  | 0, _ => none
  | k + 1, p0 =>
    Option.bind (f_laws_toCellS k (Prod.snd (Prod.snd p0))) fun z0 => some (Prod.fst p0, Prod.fst (Prod.snd p0), z0)
noncomputable def d_laws_toBoard : FnDef := .of q_laws_toBoard r_laws_toBoard (Int × Int × List (Int × Int)) (fun k x => f_laws_toBoard k x.1) to_laws_toBoard of_laws_toBoard to_of_laws_toBoard
noncomputable def c_laws_toBoard : Code := Try.f10.body.getD .skip
noncomputable def x_laws_toBoard : Ctx (Tup r_laws_toBoard × OutD) := { T := T, G := [(34, d_laws_toCellS.E)], mvs := [], no := 0, n := 15, res := resOf T q_laws_toBoard r_laws_toBoard Try.f10.results.toList, loops := [], regs := [], conds := [] }
theorem g_laws_toBoard (k : Nat) : EnvOK Try.prog k x_laws_toBoard.G := (EnvOK.cons (s_laws_toCellS k) (EnvOK.nil mixed))
theorem h_laws_toBoard (k : Nat) (x : Tup d_laws_toBoard.ps) : d_laws_toBoard.f (k + 1) x = fnK d_laws_toBoard x_laws_toBoard c_laws_toBoard k x := by kernel_rfl
theorem z_laws_toBoard (x : Tup d_laws_toBoard.ps) : d_laws_toBoard.f 0 x = none := by kernel_rfl
theorem l_laws_toBoard (k : Nat) : LOK Try.prog x_laws_toBoard k c_laws_toBoard := LOK.by [] (by kernel_rfl) AllOK.nil
theorem s_laws_toBoard (k : Nat) : SoundAt Try.prog k 10 d_laws_toBoard.E := @fn_all Try.prog d_laws_toBoard x_laws_toBoard 10 Try.f10 c_laws_toBoard (by kernel_rfl) (by kernel_rfl) (by kernel_rfl) Try.func10 (by kernel_rfl) (by kernel_rfl) (by kernel_rfl) T_ok g_laws_toBoard l_laws_toBoard z_laws_toBoard h_laws_toBoard k
/-! function 13 -/
noncomputable def r_laws_eqBoard : List PK := [{ t := Ty.bool }]
noncomputable def q_laws_eqBoard : List PK := [{ t := Ty.pair (Ty.int IntKind.i64) (Ty.pair (Ty.int IntKind.i64) (Ty.slice (75 : Nat) (Ty.pair (Ty.int IntKind.i64) (Ty.int IntKind.i64)))), agg := true }, { t := Ty.pair (Ty.int IntKind.i64) (Ty.pair (Ty.int IntKind.i64) (Ty.slice (75 : Nat) (Ty.pair (Ty.int IntKind.i64) (Ty.int IntKind.i64)))), agg := true }]
noncomputable def to_laws_eqBoard (r : Bool) : Tup r_laws_eqBoard × OutD := ((r, ()), none)
noncomputable def of_laws_eqBoard : Tup r_laws_eqBoard × OutD → Option (Bool)
  | (a, none) => some (a.1)
  | _ => none
theorem to_of_laws_eqBoard : ∀ b r, of_laws_eqBoard b = some r → to_laws_eqBoard r = b := by
  rintro ⟨a, o⟩ r h
  cases o with
  | none => injection h with h; subst h; rfl
  | some _ => cases h
noncomputable def f_laws_eqBoard : Nat → Int × Int × List (Int × Int) → Int × Int × List (Int × Int) → Option Bool
  | 0, _, _ => none
  | k + 1, p0, p1 =>
    if decide (Prod.fst p0 ≠ Prod.fst p1) = true then some false else if decide (Prod.fst (Prod.snd p0) ≠ Prod.fst (Prod.snd p1)) = true then some false else Option.bind (f_laws_eqCellS k (Prod.snd (Prod.snd p0)) (Prod.snd (Prod.snd p1))) fun z0 => if (!z0) = true then some false else some true
noncomputable def d_laws_eqBoard : FnDef := .of q_laws_eqBoard r_laws_eqBoard (Bool) (fun k x => f_laws_eqBoard k x.1 x.2.1) to_laws_eqBoard of_laws_eqBoard to_of_laws_eqBoard
noncomputable def c_laws_eqBoard : Code := Try.f13.body.getD .skip
noncomputable def x_laws_eqBoard : Ctx (Tup r_laws_eqBoard × OutD) := { T := T, G := [(38, d_laws_eqCellS.E)], mvs := [], no := 0, n := 21, res := resOf T q_laws_eqBoard r_laws_eqBoard Try.f13.results.toList, loops := [], regs := [], conds := [] }
theorem g_laws_eqBoard (k : Nat) : EnvOK Try.prog k x_laws_eqBoard.G := (EnvOK.cons (s_laws_eqCellS k) (EnvOK.nil mixed))
theorem h_laws_eqBoard (k : Nat) (x : Tup d_laws_eqBoard.ps) : d_laws_eqBoard.f (k + 1) x = fnK d_laws_eqBoard x_laws_eqBoard c_laws_eqBoard k x := by kernel_rfl
theorem z_laws_eqBoard (x : Tup d_laws_eqBoard.ps) : d_laws_eqBoard.f 0 x = none := by kernel_rfl
theorem l_laws_eqBoard (k : Nat) : LOK Try.prog x_laws_eqBoard k c_laws_eqBoard := LOK.by [] (by kernel_rfl) AllOK.nil
theorem s_laws_eqBoard (k : Nat) : SoundAt Try.prog k 13 d_laws_eqBoard.E := @fn_all Try.prog d_laws_eqBoard x_laws_eqBoard 13 Try.f13 c_laws_eqBoard (by kernel_rfl) (by kernel_rfl) (by kernel_rfl) Try.func13 (by kernel_rfl) (by kernel_rfl) (by kernel_rfl) T_ok g_laws_eqBoard l_laws_eqBoard z_laws_eqBoard h_laws_eqBoard k
/-! function 45 -/
noncomputable def r_impl_IsBoard : List PK := [{ t := Ty.bool }]
noncomputable def q_impl_IsBoard : List PK := [{ t := Ty.pair (Ty.int IntKind.i64) (Ty.pair (Ty.int IntKind.i64) (Ty.slice (75 : Nat) (Ty.pair (Ty.int IntKind.i64) (Ty.int IntKind.i64)))), agg := true }]
noncomputable def to_impl_IsBoard (r : Bool) : Tup r_impl_IsBoard × OutD := ((r, ()), none)
noncomputable def of_impl_IsBoard : Tup r_impl_IsBoard × OutD → Option (Bool)
  | (a, none) => some (a.1)
  | _ => none
theorem to_of_impl_IsBoard : ∀ b r, of_impl_IsBoard b = some r → to_impl_IsBoard r = b := by
  rintro ⟨a, o⟩ r h
  cases o with
  | none => injection h with h; subst h; rfl
  | some _ => cases h
noncomputable def f_impl_IsBoard : Nat → Int × Int × List (Int × Int) → Option Bool
  | 0, _ => none
  | k + 1, p0 =>
    if decide (Prod.fst p0 ≥ (1 : Int)) = true then if decide (Prod.fst p0 ≤ (10 : Int)) = true then if decide (Prod.fst (Prod.snd p0) ≥ (1 : Int)) = true then if decide (Prod.fst (Prod.snd p0) ≤ (9 : Int)) = true then if decide ((↑(List.length (Prod.snd (Prod.snd p0))) : Int) = wrap64 (Prod.fst p0 * Prod.fst (Prod.snd p0))) = true then Option.bind (f_impl_validCells k (Prod.snd (Prod.snd p0))) fun z0 => some z0 else some false else some false else some false else some false else some false
noncomputable def d_impl_IsBoard : FnDef := .of q_impl_IsBoard r_impl_IsBoard (Bool) (fun k x => f_impl_IsBoard k x.1) to_impl_IsBoard of_impl_IsBoard to_of_impl_IsBoard
noncomputable def c_impl_IsBoard : Code := Try.f45.body.getD .skip
noncomputable def x_impl_IsBoard : Ctx (Tup r_impl_IsBoard × OutD) := { T := T, G := [(71, d_impl_validCells.E)], mvs := [], no := 0, n := 37, res := resOf T q_impl_IsBoard r_impl_IsBoard Try.f45.results.toList, loops := [], regs := [], conds := [] }
theorem g_impl_IsBoard (k : Nat) : EnvOK Try.prog k x_impl_IsBoard.G := (EnvOK.cons (s_impl_validCells k) (EnvOK.nil mixed))
theorem h_impl_IsBoard (k : Nat) (x : Tup d_impl_IsBoard.ps) : d_impl_IsBoard.f (k + 1) x = fnK d_impl_IsBoard x_impl_IsBoard c_impl_IsBoard k x := by kernel_rfl
theorem z_impl_IsBoard (x : Tup d_impl_IsBoard.ps) : d_impl_IsBoard.f 0 x = none := by kernel_rfl
theorem l_impl_IsBoard (k : Nat) : LOK Try.prog x_impl_IsBoard k c_impl_IsBoard := LOK.by [] (by kernel_rfl) AllOK.nil
theorem s_impl_IsBoard (k : Nat) : SoundAt Try.prog k 45 d_impl_IsBoard.E := @fn_all Try.prog d_impl_IsBoard x_impl_IsBoard 45 Try.f45 c_impl_IsBoard (by kernel_rfl) (by kernel_rfl) (by kernel_rfl) Try.func45 (by kernel_rfl) (by kernel_rfl) (by kernel_rfl) T_ok g_impl_IsBoard l_impl_IsBoard z_impl_IsBoard h_impl_IsBoard k
/-! function 46 -/
noncomputable def r_impl_unitsOf : List PK := [{ t := Ty.slice (26 : Nat) (Ty.slice (3 : Nat) (Ty.int IntKind.i64)) }]
noncomputable def q_impl_unitsOf : List PK := [{ t := Ty.pair (Ty.int IntKind.i64) (Ty.pair (Ty.int IntKind.i64) (Ty.slice (75 : Nat) (Ty.pair (Ty.int IntKind.i64) (Ty.int IntKind.i64)))), agg := true }]
noncomputable def to_impl_unitsOf (r : List (List Int)) : Tup r_impl_unitsOf × OutD := ((r, ()), none)
noncomputable def of_impl_unitsOf : Tup r_impl_unitsOf × OutD → Option (List (List Int))
  | (a, none) => some (a.1)
  | _ => none
theorem to_of_impl_unitsOf : ∀ b r, of_impl_unitsOf b = some r → to_impl_unitsOf r = b := by
  rintro ⟨a, o⟩ r h
  cases o with
  | none => injection h with h; subst h; rfl
  | some _ => cases h
noncomputable def f_impl_unitsOf_0 : Nat → List Int → List (List Int × Int) → List (List Int) → List (Int × Int) → Int → Int → Option (List (List Int))
  | 0, _, _, _, _, _, _ => none
  | k + 1, o1, o2, o3, v15, v16, v17 =>
    if decide (v17 < v16) = true then if (0 : Int) ≤ v17 then if v17 < (↑(List.length v15) : Int) then if decide (Prod.fst (List.getD v15 (Int.toNat v17) ((0 : Int), (0 : Int))) = (3 : Int)) = true then if List.length o3 + List.length [[v17]] ≤ (140737488355328 / 24 : Nat) then f_impl_unitsOf_0 k o1 o2 (o3 ++ [[v17]]) v15 v16 (wrap64 (v17 + (1 : Int))) else none else if decide (Prod.fst (List.getD v15 (Int.toNat v17) ((0 : Int), (0 : Int))) = (6 : Int)) = true then if (0 : Int) ≤ v17 then if v17 < (↑(List.length o1) : Int) then if (!Option.isSome (findK [List.getD o1 (Int.toNat v17) (0 : Int)] o2)) = true then if (0 : Int) ≤ v17 then if v17 < (↑(List.length o1) : Int) then if List.length o3 + (1 : Nat) ≤ (140737488355328 / 24 : Nat) then if (↑(List.length o3) : Int) < (↑(List.length (o3 ++ [[]])) : Int) then if List.length (List.getD (o3 ++ [[]]) (Int.toNat (↑(List.length o3) : Int)) []) + List.length [v17] ≤ (140737488355328 / 8 : Nat) then if (↑(List.length o3) : Int) < (↑(List.length (o3 ++ [[]])) : Int) then if (↑(List.length o3) : Int) = (↑(List.length o3) : Int) then f_impl_unitsOf_0 k o1 (putK [List.getD o1 (Int.toNat v17) (0 : Int)] (↑(List.length o3) : Int) o2) (List.set (o3 ++ [[]]) (Int.toNat (↑(List.length o3) : Int)) (List.getD (o3 ++ [[]]) (Int.toNat (↑(List.length o3) : Int)) [] ++ [v17])) v15 v16 (wrap64 (v17 + (1 : Int))) else none else none else none else none else none else none else none else if (0 : Int) ≤ Option.getD (findK [List.getD o1 (Int.toNat v17) (0 : Int)] o2) (0 : Int) then if Option.getD (findK [List.getD o1 (Int.toNat v17) (0 : Int)] o2) (0 : Int) < (↑(List.length o3) : Int) then if List.length (List.getD o3 (Int.toNat (Option.getD (findK [List.getD o1 (Int.toNat v17) (0 : Int)] o2) (0 : Int))) []) + List.length [v17] ≤ (140737488355328 / 8 : Nat) then if (0 : Int) ≤ Option.getD (findK [List.getD o1 (Int.toNat v17) (0 : Int)] o2) (0 : Int) then if Option.getD (findK [List.getD o1 (Int.toNat v17) (0 : Int)] o2) (0 : Int) < (↑(List.length o3) : Int) then if Option.getD (findK [List.getD o1 (Int.toNat v17) (0 : Int)] o2) (0 : Int) = Option.getD (findK [List.getD o1 (Int.toNat v17) (0 : Int)] o2) (0 : Int) then f_impl_unitsOf_0 k o1 o2 (List.set o3 (Int.toNat (Option.getD (findK [List.getD o1 (Int.toNat v17) (0 : Int)] o2) (0 : Int))) (List.getD o3 (Int.toNat (Option.getD (findK [List.getD o1 (Int.toNat v17) (0 : Int)] o2) (0 : Int))) [] ++ [v17])) v15 v16 (wrap64 (v17 + (1 : Int))) else none else none else none else none else none else none else none else none else f_impl_unitsOf_0 k o1 o2 o3 v15 v16 (wrap64 (v17 + (1 : Int))) else none else none else some o3
noncomputable def f_impl_unitsOf_0i : Spec := { objs := [OSh.ro, OSh.row true (3 : Nat) (Ty.int IntKind.i64), OSh.mp (87 : Nat) false (1 : Nat) (Ty.int IntKind.i64), OSh.row true (26 : Nat) (Ty.slice (3 : Nat) (Ty.int IntKind.i64))], tmps := [((3 : Nat), TSh.at (Sh.sl (1 : Nat))), ((4 : Nat), TSh.at (Sh.mp (2 : Nat))), ((5 : Nat), TSh.at (Sh.sl (3 : Nat))), ((15 : Nat), TSh.at (Sh.snap (0 : Nat) (Ty.pair (Ty.int IntKind.i64) (Ty.int IntKind.i64)))), ((16 : Nat), TSh.at (Sh.int IntKind.i64)), ((17 : Nat), TSh.at (Sh.int IntKind.i64))] }
noncomputable def f_impl_unitsOf_0o : Spec := { objs := [OSh.ro, OSh.row true (26 : Nat) (Ty.slice (3 : Nat) (Ty.int IntKind.i64))], tmps := [((5 : Nat), TSh.at (Sh.sl (1 : Nat)))] }
noncomputable def f_impl_unitsOf_0D : LoopDef (Tup r_impl_unitsOf × OutD) := .plain f_impl_unitsOf_0i f_impl_unitsOf_0o (List (List Int)) (fun k x => f_impl_unitsOf_0 k x.1.2.1 x.1.2.2.1 x.1.2.2.2.1 x.2.2.2.2.1 x.2.2.2.2.2.1 x.2.2.2.2.2.2.1) (fun z => (((), z, ()), ((), ()))) (fun y => (y.1.2.1)) (fun _ => rfl)
noncomputable def f_impl_unitsOf : Nat → Int × Int × List (Int × Int) → Option (List (List Int))
  | 0, _ => none
  | k + 1, p0 =>
    Option.bind (f_impl_groupNumbers k (Prod.fst p0, Prod.fst (Prod.snd p0), Prod.snd (Prod.snd p0))) fun z0 => Option.bind (f_impl_unitsOf_0 k z0 [] [] (Prod.snd (Prod.snd p0)) (↑(List.length (Prod.snd (Prod.snd p0))) : Int) (0 : Int)) fun z1 => some z1
noncomputable def d_impl_unitsOf : FnDef := .of q_impl_unitsOf r_impl_unitsOf (List (List Int)) (fun k x => f_impl_unitsOf k x.1) to_impl_unitsOf of_impl_unitsOf to_of_impl_unitsOf
noncomputable def c_impl_unitsOf : Code := Try.f46.body.getD .skip
noncomputable def x_impl_unitsOf : Ctx (Tup r_impl_unitsOf × OutD) := { T := T, G := [(61, d_impl_groupNumbers.E)], mvs := [], no := 0, n := 67, res := resOf T q_impl_unitsOf r_impl_unitsOf Try.f46.results.toList, loops := [(0, f_impl_unitsOf_0D.E)], regs := [], conds := [] }
theorem g_impl_unitsOf (k : Nat) : EnvOK Try.prog k x_impl_unitsOf.G := (EnvOK.cons (s_impl_groupNumbers k) (EnvOK.nil mixed))
noncomputable def f_impl_unitsOf_0B : Code := (findLoop 0 c_impl_unitsOf).getD .skip
theorem f_impl_unitsOf_0h (k : Nat) (x : f_impl_unitsOf_0i.D) : f_impl_unitsOf_0D.lp (k + 1) x = loopK x_impl_unitsOf f_impl_unitsOf_0D 0 f_impl_unitsOf_0B k x := by kernel_rfl
theorem f_impl_unitsOf_0l (k : Nat) : LOK Try.prog x_impl_unitsOf k f_impl_unitsOf_0B := LOK.by [] (by kernel_rfl) AllOK.nil
theorem f_impl_unitsOf_0z (x : f_impl_unitsOf_0i.D) : f_impl_unitsOf_0D.lp 0 x = none := by kernel_rfl
theorem f_impl_unitsOf_0ok (k : Nat) : EOK Try.prog x_impl_unitsOf k f_impl_unitsOf_0D.E (.block 0 (.loop f_impl_unitsOf_0B)) := loop_ok T_ok g_impl_unitsOf f_impl_unitsOf_0z f_impl_unitsOf_0h f_impl_unitsOf_0l k
theorem h_impl_unitsOf (k : Nat) (x : Tup d_impl_unitsOf.ps) : d_impl_unitsOf.f (k + 1) x = fnK d_impl_unitsOf x_impl_unitsOf c_impl_unitsOf k x := by kernel_rfl
theorem z_impl_unitsOf (x : Tup d_impl_unitsOf.ps) : d_impl_unitsOf.f 0 x = none := by kernel_rfl
theorem l_impl_unitsOf (k : Nat) : LOK Try.prog x_impl_unitsOf k c_impl_unitsOf := LOK.by [(f_impl_unitsOf_0D.E, .block 0 (.loop f_impl_unitsOf_0B))] (by kernel_rfl) (AllOK.cons (f_impl_unitsOf_0ok k) AllOK.nil)
theorem s_impl_unitsOf (k : Nat) : SoundAt Try.prog k 46 d_impl_unitsOf.E := @fn_all Try.prog d_impl_unitsOf x_impl_unitsOf 46 Try.f46 c_impl_unitsOf (by kernel_rfl) (by kernel_rfl) (by kernel_rfl) Try.func46 (by kernel_rfl) (by kernel_rfl) (by kernel_rfl) T_ok g_impl_unitsOf l_impl_unitsOf z_impl_unitsOf h_impl_unitsOf k
/-! function 56 -/
noncomputable def r_spec_saUnits : List PK := [{ t := Ty.slice (26 : Nat) (Ty.slice (3 : Nat) (Ty.int IntKind.i64)) }]
noncomputable def q_spec_saUnits : List PK := [{ t := Ty.pair (Ty.int IntKind.i64) (Ty.pair (Ty.int IntKind.i64) (Ty.slice (75 : Nat) (Ty.pair (Ty.int IntKind.i64) (Ty.int IntKind.i64)))), agg := true }]
noncomputable def to_spec_saUnits (r : List (List Int)) : Tup r_spec_saUnits × OutD := ((r, ()), none)
noncomputable def of_spec_saUnits : Tup r_spec_saUnits × OutD → Option (List (List Int))
  | (a, none) => some (a.1)
  | _ => none
theorem to_of_spec_saUnits : ∀ b r, of_spec_saUnits b = some r → to_spec_saUnits r = b := by
  rintro ⟨a, o⟩ r h
  cases o with
  | none => injection h with h; subst h; rfl
  | some _ => cases h
noncomputable def f_spec_saUnits_0 : Nat → Int → Int → List (Int × Int) → List Int → List Int → Int → Int → Option (Int × Int × List (Int × Int) × List Int × List Int)
  | 0, _, _, _, _, _, _, _ => none
  | k + 1, b1_0, b1_1, b1_2, o2, o3, v16, v17 =>
    if decide (v17 < v16) = true then if (0 : Int) ≤ v17 then if v17 < (↑(List.length o3) : Int) then f_spec_saUnits_0 k b1_0 b1_1 b1_2 o2 (List.set o3 (Int.toNat v17) (-1 : Int)) v16 (wrap64 (v17 + (1 : Int))) else none else none else some (b1_0, b1_1, b1_2, o2, o3)
noncomputable def f_spec_saUnits_0i : Spec := { objs := [OSh.ro, OSh.box (31 : Nat) [Sh.int IntKind.i64, Sh.int IntKind.i64, Sh.snap (0 : Nat) (Ty.pair (Ty.int IntKind.i64) (Ty.int IntKind.i64))], OSh.row true (3 : Nat) (Ty.int IntKind.i64), OSh.row true (3 : Nat) (Ty.int IntKind.i64)], tmps := [((1 : Nat), TSh.at (Sh.ptr (1 : Nat) (0 : Nat))), ((3 : Nat), TSh.at (Sh.sl (2 : Nat))), ((4 : Nat), TSh.at (Sh.sl (3 : Nat))), ((16 : Nat), TSh.at (Sh.int IntKind.i64)), ((17 : Nat), TSh.at (Sh.int IntKind.i64))] }
noncomputable def f_spec_saUnits_0o : Spec := { objs := [OSh.ro, OSh.box (31 : Nat) [Sh.int IntKind.i64, Sh.int IntKind.i64, Sh.snap (0 : Nat) (Ty.pair (Ty.int IntKind.i64) (Ty.int IntKind.i64))], OSh.row true (3 : Nat) (Ty.int IntKind.i64), OSh.row true (3 : Nat) (Ty.int IntKind.i64)], tmps := [((1 : Nat), TSh.at (Sh.ptr (1 : Nat) (0 : Nat))), ((3 : Nat), TSh.at (Sh.sl (2 : Nat))), ((4 : Nat), TSh.at (Sh.sl (3 : Nat)))] }
noncomputable def f_spec_saUnits_0D : LoopDef (Tup r_spec_saUnits × OutD) := .plain f_spec_saUnits_0i f_spec_saUnits_0o (Int × Int × List (Int × Int) × List Int × List Int) (fun k x => f_spec_saUnits_0 k x.1.2.1.1 x.1.2.1.2.1 x.1.2.1.2.2.1 x.1.2.2.1 x.1.2.2.2.1 x.2.2.2.2.1 x.2.2.2.2.2.1) (fun z => (((), (z.1, z.2.1, z.2.2.1, ()), z.2.2.2.1, z.2.2.2.2, ()), ((), (), (), ()))) (fun y => (y.1.2.1.1, y.1.2.1.2.1, y.1.2.1.2.2.1, y.1.2.2.1, y.1.2.2.2.1)) (fun _ => rfl)
noncomputable def f_spec_saUnits_g18 : Nat → List Int → List Int → List (List Int) → Int → List (Int × Int) → Int → Int → Option (List Int × List Int × List (List Int) × List (Int × Int) × Int × Int) := fun k o1 o2 o3 v7 v25 v26 v27 =>
    if (0 : Int) ≤ v7 then if v7 < (↑(List.length o1) : Int) then if (0 : Int) ≤ v7 then if v7 < (↑(List.length o1) : Int) then if (0 : Int) ≤ List.getD o1 (Int.toNat v7) (0 : Int) then if List.getD o1 (Int.toNat v7) (0 : Int) < (↑(List.length o2) : Int) then if (0 : Int) ≤ List.getD o2 (Int.toNat (List.getD o1 (Int.toNat v7) (0 : Int))) (0 : Int) then if List.getD o2 (Int.toNat (List.getD o1 (Int.toNat v7) (0 : Int))) (0 : Int) < (↑(List.length o3) : Int) then if (0 : Int) ≤ List.getD o1 (Int.toNat v7) (0 : Int) then if List.getD o1 (Int.toNat v7) (0 : Int) < (↑(List.length o2) : Int) then if List.length (List.getD o3 (Int.toNat (List.getD o2 (Int.toNat (List.getD o1 (Int.toNat v7) (0 : Int))) (0 : Int))) []) + List.length [v7] ≤ (140737488355328 / 8 : Nat) then if (0 : Int) ≤ List.getD o2 (Int.toNat (List.getD o1 (Int.toNat v7) (0 : Int))) (0 : Int) then if List.getD o2 (Int.toNat (List.getD o1 (Int.toNat v7) (0 : Int))) (0 : Int) < (↑(List.length o3) : Int) then if List.getD o2 (Int.toNat (List.getD o1 (Int.toNat v7) (0 : Int))) (0 : Int) = List.getD o2 (Int.toNat (List.getD o1 (Int.toNat v7) (0 : Int))) (0 : Int) then some (o1, o2, List.set o3 (Int.toNat (List.getD o2 (Int.toNat (List.getD o1 (Int.toNat v7) (0 : Int))) (0 : Int))) (List.getD o3 (Int.toNat (List.getD o2 (Int.toNat (List.getD o1 (Int.toNat v7) (0 : Int))) (0 : Int))) [] ++ [v7]), v25, v26, v27) else none else none else none else none else none else none else none else none else none else none else none else none else none else none
noncomputable def f_spec_saUnits_g18A : Nat → List Int → List Int → List (List Int) → Int → List (Int × Int) → Int → Int → Option (List (List Int × List Int × List (List Int) × List (Int × Int) × Int × Int)) := fun k o1 o2 o3 v7 v25 v26 v27 =>
    if (0 : Int) ≤ v7 then if v7 < (↑(List.length o1) : Int) then if (0 : Int) ≤ v7 then if v7 < (↑(List.length o1) : Int) then if (0 : Int) ≤ List.getD o1 (Int.toNat v7) (0 : Int) then if List.getD o1 (Int.toNat v7) (0 : Int) < (↑(List.length o2) : Int) then if (0 : Int) ≤ List.getD o2 (Int.toNat (List.getD o1 (Int.toNat v7) (0 : Int))) (0 : Int) then if List.getD o2 (Int.toNat (List.getD o1 (Int.toNat v7) (0 : Int))) (0 : Int) < (↑(List.length o3) : Int) then joinL (if (0 : Int) ≤ List.getD o1 (Int.toNat v7) (0 : Int) then if List.getD o1 (Int.toNat v7) (0 : Int) < (↑(List.length o2) : Int) then joinL (if List.length (List.getD o3 (Int.toNat (List.getD o2 (Int.toNat (List.getD o1 (Int.toNat v7) (0 : Int))) (0 : Int))) []) + List.length [v7] ≤ (140737488355328 / 8 : Nat) then if (0 : Int) ≤ List.getD o2 (Int.toNat (List.getD o1 (Int.toNat v7) (0 : Int))) (0 : Int) then if List.getD o2 (Int.toNat (List.getD o1 (Int.toNat v7) (0 : Int))) (0 : Int) < (↑(List.length o3) : Int) then if List.getD o2 (Int.toNat (List.getD o1 (Int.toNat v7) (0 : Int))) (0 : Int) = List.getD o2 (Int.toNat (List.getD o1 (Int.toNat v7) (0 : Int))) (0 : Int) then some [(o1, o2, List.set o3 (Int.toNat (List.getD o2 (Int.toNat (List.getD o1 (Int.toNat v7) (0 : Int))) (0 : Int))) (List.getD o3 (Int.toNat (List.getD o2 (Int.toNat (List.getD o1 (Int.toNat v7) (0 : Int))) (0 : Int))) [] ++ [v7]), v25, v26, v27)] else none else none else none else none) (joinL (if List.length (List.getD o3 (Int.toNat (List.getD o2 (Int.toNat (List.getD o1 (Int.toNat v7) (0 : Int))) (0 : Int))) []) + List.length [v7] ≤ (140737488355328 / 8 : Nat) then if (0 : Int) ≤ List.getD o2 (Int.toNat (List.getD o1 (Int.toNat v7) (0 : Int))) (0 : Int) then if List.getD o2 (Int.toNat (List.getD o1 (Int.toNat v7) (0 : Int))) (0 : Int) < (↑(List.length o3) : Int) then if List.getD o2 (Int.toNat (List.getD o1 (Int.toNat v7) (0 : Int))) (0 : Int) = List.getD o2 (Int.toNat (List.getD o1 (Int.toNat v7) (0 : Int))) (0 : Int) then some [(o1, o2, List.set o3 (Int.toNat (List.getD o2 (Int.toNat (List.getD o1 (Int.toNat v7) (0 : Int))) (0 : Int))) (List.getD o3 (Int.toNat (List.getD o2 (Int.toNat (List.getD o1 (Int.toNat v7) (0 : Int))) (0 : Int))) [] ++ [v7]), v25, v26, v27)] else none else none else none else none) (if List.length (List.getD o3 (Int.toNat (List.getD o2 (Int.toNat (List.getD o1 (Int.toNat v7) (0 : Int))) (0 : Int))) []) + List.length [v7] ≤ (140737488355328 / 8 : Nat) then if (0 : Int) ≤ List.getD o2 (Int.toNat (List.getD o1 (Int.toNat v7) (0 : Int))) (0 : Int) then if List.getD o2 (Int.toNat (List.getD o1 (Int.toNat v7) (0 : Int))) (0 : Int) < (↑(List.length o3) : Int) then if List.getD o2 (Int.toNat (List.getD o1 (Int.toNat v7) (0 : Int))) (0 : Int) = List.getD o2 (Int.toNat (List.getD o1 (Int.toNat v7) (0 : Int))) (0 : Int) then some [(o1, o2, List.set o3 (Int.toNat (List.getD o2 (Int.toNat (List.getD o1 (Int.toNat v7) (0 : Int))) (0 : Int))) (List.getD o3 (Int.toNat (List.getD o2 (Int.toNat (List.getD o1 (Int.toNat v7) (0 : Int))) (0 : Int))) [] ++ [v7]), v25, v26, v27)] else none else none else none else none)) else none else none) (joinL (if (0 : Int) ≤ List.getD o1 (Int.toNat v7) (0 : Int) then if List.getD o1 (Int.toNat v7) (0 : Int) < (↑(List.length o2) : Int) then joinL (if List.length (List.getD o3 (Int.toNat (List.getD o2 (Int.toNat (List.getD o1 (Int.toNat v7) (0 : Int))) (0 : Int))) []) + List.length [v7] ≤ (140737488355328 / 8 : Nat) then if (0 : Int) ≤ List.getD o2 (Int.toNat (List.getD o1 (Int.toNat v7) (0 : Int))) (0 : Int) then if List.getD o2 (Int.toNat (List.getD o1 (Int.toNat v7) (0 : Int))) (0 : Int) < (↑(List.length o3) : Int) then if List.getD o2 (Int.toNat (List.getD o1 (Int.toNat v7) (0 : Int))) (0 : Int) = List.getD o2 (Int.toNat (List.getD o1 (Int.toNat v7) (0 : Int))) (0 : Int) then some [(o1, o2, List.set o3 (Int.toNat (List.getD o2 (Int.toNat (List.getD o1 (Int.toNat v7) (0 : Int))) (0 : Int))) (List.getD o3 (Int.toNat (List.getD o2 (Int.toNat (List.getD o1 (Int.toNat v7) (0 : Int))) (0 : Int))) [] ++ [v7]), v25, v26, v27)] else none else none else none else none) (if List.length (List.getD o3 (Int.toNat (List.getD o2 (Int.toNat (List.getD o1 (Int.toNat v7) (0 : Int))) (0 : Int))) []) + List.length [v7] ≤ (140737488355328 / 8 : Nat) then if (0 : Int) ≤ List.getD o2 (Int.toNat (List.getD o1 (Int.toNat v7) (0 : Int))) (0 : Int) then if List.getD o2 (Int.toNat (List.getD o1 (Int.toNat v7) (0 : Int))) (0 : Int) < (↑(List.length o3) : Int) then if List.getD o2 (Int.toNat (List.getD o1 (Int.toNat v7) (0 : Int))) (0 : Int) = List.getD o2 (Int.toNat (List.getD o1 (Int.toNat v7) (0 : Int))) (0 : Int) then some [(o1, o2, List.set o3 (Int.toNat (List.getD o2 (Int.toNat (List.getD o1 (Int.toNat v7) (0 : Int))) (0 : Int))) (List.getD o3 (Int.toNat (List.getD o2 (Int.toNat (List.getD o1 (Int.toNat v7) (0 : Int))) (0 : Int))) [] ++ [v7]), v25, v26, v27)] else none else none else none else none) else none else none) (if List.length (List.getD o3 (Int.toNat (List.getD o2 (Int.toNat (List.getD o1 (Int.toNat v7) (0 : Int))) (0 : Int))) []) + List.length [v7] ≤ (140737488355328 / 8 : Nat) then if (0 : Int) ≤ List.getD o1 (Int.toNat v7) (0 : Int) then if List.getD o1 (Int.toNat v7) (0 : Int) < (↑(List.length o2) : Int) then if (0 : Int) ≤ List.getD o2 (Int.toNat (List.getD o1 (Int.toNat v7) (0 : Int))) (0 : Int) then if List.getD o2 (Int.toNat (List.getD o1 (Int.toNat v7) (0 : Int))) (0 : Int) < (↑(List.length o3) : Int) then if List.getD o2 (Int.toNat (List.getD o1 (Int.toNat v7) (0 : Int))) (0 : Int) = List.getD o2 (Int.toNat (List.getD o1 (Int.toNat v7) (0 : Int))) (0 : Int) then some [(o1, o2, List.set o3 (Int.toNat (List.getD o2 (Int.toNat (List.getD o1 (Int.toNat v7) (0 : Int))) (0 : Int))) (List.getD o3 (Int.toNat (List.getD o2 (Int.toNat (List.getD o1 (Int.toNat v7) (0 : Int))) (0 : Int))) [] ++ [v7]), v25, v26, v27)] else none else none else none else none else none else none)) else none else none else none else none else none else none else none else none
noncomputable def f_spec_saUnits_g18i : Spec := { objs := [OSh.ro, OSh.row true (3 : Nat) (Ty.int IntKind.i64), OSh.row true (3 : Nat) (Ty.int IntKind.i64), OSh.row true (26 : Nat) (Ty.slice (3 : Nat) (Ty.int IntKind.i64))], tmps := [((3 : Nat), TSh.at (Sh.sl (1 : Nat))), ((4 : Nat), TSh.at (Sh.sl (2 : Nat))), ((6 : Nat), TSh.at (Sh.sl (3 : Nat))), ((7 : Nat), TSh.at (Sh.int IntKind.i64)), ((25 : Nat), TSh.at (Sh.snap (0 : Nat) (Ty.pair (Ty.int IntKind.i64) (Ty.int IntKind.i64)))), ((26 : Nat), TSh.at (Sh.int IntKind.i64)), ((27 : Nat), TSh.at (Sh.int IntKind.i64))] }
noncomputable def f_spec_saUnits_g18o : Spec := { objs := [OSh.ro, OSh.row true (3 : Nat) (Ty.int IntKind.i64), OSh.row true (3 : Nat) (Ty.int IntKind.i64), OSh.row true (26 : Nat) (Ty.slice (3 : Nat) (Ty.int IntKind.i64))], tmps := [((3 : Nat), TSh.at (Sh.sl (1 : Nat))), ((4 : Nat), TSh.at (Sh.sl (2 : Nat))), ((6 : Nat), TSh.at (Sh.sl (3 : Nat))), ((25 : Nat), TSh.at (Sh.snap (0 : Nat) (Ty.pair (Ty.int IntKind.i64) (Ty.int IntKind.i64)))), ((26 : Nat), TSh.at (Sh.int IntKind.i64)), ((27 : Nat), TSh.at (Sh.int IntKind.i64))] }
noncomputable def f_spec_saUnits_g18D : LoopDef (Tup r_spec_saUnits × OutD) := .plain f_spec_saUnits_g18i f_spec_saUnits_g18o (List Int × List Int × List (List Int) × List (Int × Int) × Int × Int) (fun k x => f_spec_saUnits_g18 k x.1.2.1 x.1.2.2.1 x.1.2.2.2.1 x.2.2.2.2.1 x.2.2.2.2.2.1 x.2.2.2.2.2.2.1 x.2.2.2.2.2.2.2.1) (fun z => (((), z.1, z.2.1, z.2.2.1, ()), ((), (), (), z.2.2.2.1, z.2.2.2.2.1, z.2.2.2.2.2, ()))) (fun y => (y.1.2.1, y.1.2.2.1, y.1.2.2.2.1, y.2.2.2.2.1, y.2.2.2.2.2.1, y.2.2.2.2.2.2.1)) (fun _ => rfl)
theorem f_spec_saUnits_g18j (k : Nat) (o1 : List Int) (o2 : List Int) (o3 : List (List Int)) (v7 : Int) (v25 : List (Int × Int)) (v26 : Int) (v27 : Int) : f_spec_saUnits_g18A k o1 o2 o3 v7 v25 v26 v27 = repl 6 (f_spec_saUnits_g18 k o1 o2 o3 v7 v25 v26 v27) := by
  first
  | (simp only [f_spec_saUnits_g18A, f_spec_saUnits_g18, repl_some, repl_ite, repl_ite0, repl_ite1, repl_bind, joinL_repl, if_true]; done)
  | (simp only [f_spec_saUnits_g18A, f_spec_saUnits_g18, repl_some, repl_ite, repl_ite0, repl_ite1, repl_bind, joinL_repl, if_true]; simp only [joinL_grdl, joinL_grdr, repl_grd, joinL_repl]; simp only [grd_and]; exact grd_congr ⟨fun h => by simp only [h, and_self], fun h => by simp only [h, and_self]⟩)
noncomputable def f_spec_saUnits_2 : Nat → List Int → List Int → List (List Int) → List (Int × Int) → Int → Int → Option (List (List Int))
  | 0, _, _, _, _, _, _ => none
  | k + 1, o1, o2, o3, v25, v26, v27 =>
    if decide (v27 < v26) = true then if (0 : Int) ≤ v27 then if v27 < (↑(List.length v25) : Int) then if decide (Prod.fst (List.getD v25 (Int.toNat v27) ((0 : Int), (0 : Int))) = (3 : Int)) = true then if List.length o3 + List.length [[v27]] ≤ (140737488355328 / 24 : Nat) then f_spec_saUnits_2 k o1 o2 (o3 ++ [[v27]]) v25 v26 (wrap64 (v27 + (1 : Int))) else none else if decide (Prod.fst (List.getD v25 (Int.toNat v27) ((0 : Int), (0 : Int))) = (6 : Int)) = true then if (0 : Int) ≤ v27 then if v27 < (↑(List.length o1) : Int) then if (0 : Int) ≤ List.getD o1 (Int.toNat v27) (0 : Int) then if List.getD o1 (Int.toNat v27) (0 : Int) < (↑(List.length o2) : Int) then if decide (List.getD o2 (Int.toNat (List.getD o1 (Int.toNat v27) (0 : Int))) (0 : Int) < (0 : Int)) = true then if (0 : Int) ≤ v27 then if v27 < (↑(List.length o1) : Int) then if (0 : Int) ≤ List.getD o1 (Int.toNat v27) (0 : Int) then if List.getD o1 (Int.toNat v27) (0 : Int) < (↑(List.length o2) : Int) then if List.length o3 + List.length [[v27]] ≤ (140737488355328 / 24 : Nat) then f_spec_saUnits_2 k o1 (List.set o2 (Int.toNat (List.getD o1 (Int.toNat v27) (0 : Int))) (↑(List.length o3) : Int)) (o3 ++ [[v27]]) v25 v26 (wrap64 (v27 + (1 : Int))) else none else none else none else none else none else if decide (Prod.fst (List.getD v25 (Int.toNat v27) ((0 : Int), (0 : Int))) = (6 : Int)) = true then Option.bind (f_spec_saUnits_g18 k o1 o2 o3 v27 v25 v26 v27) fun z2 => f_spec_saUnits_2 k (Prod.fst z2) (Prod.fst (Prod.snd z2)) (Prod.fst (Prod.snd (Prod.snd z2))) (Prod.fst (Prod.snd (Prod.snd (Prod.snd z2)))) (Prod.fst (Prod.snd (Prod.snd (Prod.snd (Prod.snd z2))))) (wrap64 (Prod.snd (Prod.snd (Prod.snd (Prod.snd (Prod.snd z2)))) + (1 : Int))) else f_spec_saUnits_2 k o1 o2 o3 v25 v26 (wrap64 (v27 + (1 : Int))) else none else none else none else none else if decide (Prod.fst (List.getD v25 (Int.toNat v27) ((0 : Int), (0 : Int))) = (6 : Int)) = true then Option.bind (f_spec_saUnits_g18 k o1 o2 o3 v27 v25 v26 v27) fun z3 => f_spec_saUnits_2 k (Prod.fst z3) (Prod.fst (Prod.snd z3)) (Prod.fst (Prod.snd (Prod.snd z3))) (Prod.fst (Prod.snd (Prod.snd (Prod.snd z3)))) (Prod.fst (Prod.snd (Prod.snd (Prod.snd (Prod.snd z3))))) (wrap64 (Prod.snd (Prod.snd (Prod.snd (Prod.snd (Prod.snd z3)))) + (1 : Int))) else f_spec_saUnits_2 k o1 o2 o3 v25 v26 (wrap64 (v27 + (1 : Int))) else none else none else some o3
noncomputable def f_spec_saUnits_2i : Spec := { objs := [OSh.ro, OSh.row true (3 : Nat) (Ty.int IntKind.i64), OSh.row true (3 : Nat) (Ty.int IntKind.i64), OSh.row true (26 : Nat) (Ty.slice (3 : Nat) (Ty.int IntKind.i64))], tmps := [((3 : Nat), TSh.at (Sh.sl (1 : Nat))), ((4 : Nat), TSh.at (Sh.sl (2 : Nat))), ((6 : Nat), TSh.at (Sh.sl (3 : Nat))), ((25 : Nat), TSh.at (Sh.snap (0 : Nat) (Ty.pair (Ty.int IntKind.i64) (Ty.int IntKind.i64)))), ((26 : Nat), TSh.at (Sh.int IntKind.i64)), ((27 : Nat), TSh.at (Sh.int IntKind.i64))] }
noncomputable def f_spec_saUnits_2o : Spec := { objs := [OSh.ro, OSh.row true (26 : Nat) (Ty.slice (3 : Nat) (Ty.int IntKind.i64))], tmps := [((6 : Nat), TSh.at (Sh.sl (1 : Nat)))] }
noncomputable def f_spec_saUnits_2D : LoopDef (Tup r_spec_saUnits × OutD) := .plain f_spec_saUnits_2i f_spec_saUnits_2o (List (List Int)) (fun k x => f_spec_saUnits_2 k x.1.2.1 x.1.2.2.1 x.1.2.2.2.1 x.2.2.2.2.1 x.2.2.2.2.2.1 x.2.2.2.2.2.2.1) (fun z => (((), z, ()), ((), ()))) (fun y => (y.1.2.1)) (fun _ => rfl)
noncomputable def f_spec_saUnits : Nat → Int × Int × List (Int × Int) → Option (List (List Int))
  | 0, _ => none
  | k + 1, p0 =>
    Option.bind (f_spec_ggGroups k (Prod.fst p0, Prod.fst (Prod.snd p0), Prod.snd (Prod.snd p0))) fun z0 => if Int.toNat (↑(List.length (Prod.snd (Prod.snd p0))) : Int) * (8 : Nat) ≤ (281474976710656 : Nat) then Option.bind (f_spec_saUnits_0 k (Prod.fst p0) (Prod.fst (Prod.snd p0)) (Prod.snd (Prod.snd p0)) z0 (List.replicate (Int.toNat (↑(List.length (Prod.snd (Prod.snd p0))) : Int)) (0 : Int)) (↑(List.length (List.replicate (Int.toNat (↑(List.length (Prod.snd (Prod.snd p0))) : Int)) (0 : Int))) : Int) (0 : Int)) fun z1 => Option.bind (f_spec_saUnits_2 k (Prod.fst (Prod.snd (Prod.snd (Prod.snd z1)))) (Prod.snd (Prod.snd (Prod.snd (Prod.snd z1)))) [] (Prod.fst (Prod.snd (Prod.snd z1))) (↑(List.length (Prod.fst (Prod.snd (Prod.snd z1)))) : Int) (0 : Int)) fun z4 => some z4 else none
noncomputable def d_spec_saUnits : FnDef := .of q_spec_saUnits r_spec_saUnits (List (List Int)) (fun k x => f_spec_saUnits k x.1) to_spec_saUnits of_spec_saUnits to_of_spec_saUnits
noncomputable def c_spec_saUnits : Code := Try.f56.body.getD .skip
noncomputable def x_spec_saUnits : Ctx (Tup r_spec_saUnits × OutD) := { T := T, G := [(75, d_spec_ggGroups.E)], mvs := [], no := 0, n := 96, res := resOf T q_spec_saUnits r_spec_saUnits Try.f56.results.toList, loops := [(0, f_spec_saUnits_0D.E), (2, f_spec_saUnits_2D.E)], regs := [(18, f_spec_saUnits_g18D.E)], conds := [] }
theorem g_spec_saUnits (k : Nat) : EnvOK Try.prog k x_spec_saUnits.G := (EnvOK.cons (s_spec_ggGroups k) (EnvOK.nil mixed))
noncomputable def f_spec_saUnits_g18O : Array Oper := (findReg 18 c_spec_saUnits).getD #[]
theorem f_spec_saUnits_g18e (k : Nat) (x : f_spec_saUnits_g18i.D) : execD x_spec_saUnits.T x_spec_saUnits.G x_spec_saUnits.mvs k f_spec_saUnits_g18O (f_spec_saUnits_g18D.inp.st x_spec_saUnits.n x) (outK x_spec_saUnits f_spec_saUnits_g18D) = f_spec_saUnits_g18A k x.1.2.1 x.1.2.2.1 x.1.2.2.2.1 x.2.2.2.2.1 x.2.2.2.2.2.1 x.2.2.2.2.2.2.1 x.2.2.2.2.2.2.2.1 := by kernel_rfl
theorem f_spec_saUnits_g18ok (k : Nat) : EOK Try.prog x_spec_saUnits k f_spec_saUnits_g18D.E (.region 18 f_spec_saUnits_g18O true) := reg_ok (D := f_spec_saUnits_g18D) (m := 6) T_ok (g_spec_saUnits k) (fun x => (f_spec_saUnits_g18e k x).trans (f_spec_saUnits_g18j k x.1.2.1 x.1.2.2.1 x.1.2.2.2.1 x.2.2.2.2.1 x.2.2.2.2.2.1 x.2.2.2.2.2.2.1 x.2.2.2.2.2.2.2.1))
noncomputable def f_spec_saUnits_0B : Code := (findLoop 0 c_spec_saUnits).getD .skip
theorem f_spec_saUnits_0h (k : Nat) (x : f_spec_saUnits_0i.D) : f_spec_saUnits_0D.lp (k + 1) x = loopK x_spec_saUnits f_spec_saUnits_0D 0 f_spec_saUnits_0B k x := by kernel_rfl
theorem f_spec_saUnits_0l (k : Nat) : LOK Try.prog x_spec_saUnits k f_spec_saUnits_0B := LOK.by [] (by kernel_rfl) AllOK.nil
theorem f_spec_saUnits_0z (x : f_spec_saUnits_0i.D) : f_spec_saUnits_0D.lp 0 x = none := by kernel_rfl
theorem f_spec_saUnits_0ok (k : Nat) : EOK Try.prog x_spec_saUnits k f_spec_saUnits_0D.E (.block 0 (.loop f_spec_saUnits_0B)) := loop_ok T_ok g_spec_saUnits f_spec_saUnits_0z f_spec_saUnits_0h f_spec_saUnits_0l k
noncomputable def f_spec_saUnits_2B : Code := (findLoop 2 c_spec_saUnits).getD .skip
theorem f_spec_saUnits_2h (k : Nat) (x : f_spec_saUnits_2i.D) : f_spec_saUnits_2D.lp (k + 1) x = loopK x_spec_saUnits f_spec_saUnits_2D 2 f_spec_saUnits_2B k x := by kernel_rfl
theorem f_spec_saUnits_2l (k : Nat) : LOK Try.prog x_spec_saUnits k f_spec_saUnits_2B := LOK.by [(f_spec_saUnits_g18D.E, .region 18 f_spec_saUnits_g18O true)] (by kernel_rfl) (AllOK.cons (f_spec_saUnits_g18ok k) AllOK.nil)
theorem f_spec_saUnits_2z (x : f_spec_saUnits_2i.D) : f_spec_saUnits_2D.lp 0 x = none := by kernel_rfl
theorem f_spec_saUnits_2ok (k : Nat) : EOK Try.prog x_spec_saUnits k f_spec_saUnits_2D.E (.block 2 (.loop f_spec_saUnits_2B)) := loop_ok T_ok g_spec_saUnits f_spec_saUnits_2z f_spec_saUnits_2h f_spec_saUnits_2l k
theorem h_spec_saUnits (k : Nat) (x : Tup d_spec_saUnits.ps) : d_spec_saUnits.f (k + 1) x = fnK d_spec_saUnits x_spec_saUnits c_spec_saUnits k x := by kernel_rfl
theorem z_spec_saUnits (x : Tup d_spec_saUnits.ps) : d_spec_saUnits.f 0 x = none := by kernel_rfl
theorem l_spec_saUnits (k : Nat) : LOK Try.prog x_spec_saUnits k c_spec_saUnits := LOK.by [(f_spec_saUnits_0D.E, .block 0 (.loop f_spec_saUnits_0B)), (f_spec_saUnits_2D.E, .block 2 (.loop f_spec_saUnits_2B))] (by kernel_rfl) (AllOK.cons (f_spec_saUnits_0ok k) (AllOK.cons (f_spec_saUnits_2ok k) AllOK.nil))
theorem s_spec_saUnits (k : Nat) : SoundAt Try.prog k 56 d_spec_saUnits.E := @fn_all Try.prog d_spec_saUnits x_spec_saUnits 56 Try.f56 c_spec_saUnits (by kernel_rfl) (by kernel_rfl) (by kernel_rfl) Try.func56 (by kernel_rfl) (by kernel_rfl) (by kernel_rfl) T_ok g_spec_saUnits l_spec_saUnits z_spec_saUnits h_spec_saUnits k
/-! function 65 -/
noncomputable def r_impl_drop : List PK := [{ t := Ty.pair (Ty.int IntKind.i64) (Ty.pair (Ty.int IntKind.i64) (Ty.int IntKind.i64)), agg := true }, { t := Ty.slice (3 : Nat) (Ty.int IntKind.i64) }]
noncomputable def q_impl_drop : List PK := [{ t := Ty.pair (Ty.int IntKind.i64) (Ty.pair (Ty.int IntKind.i64) (Ty.slice (75 : Nat) (Ty.pair (Ty.int IntKind.i64) (Ty.int IntKind.i64)))), agg := true, own := some ((2 : Nat), (75 : Nat), Ty.pair (Ty.int IntKind.i64) (Ty.int IntKind.i64)) }, { t := Ty.slice (3 : Nat) (Ty.int IntKind.i64) }, { t := Ty.int IntKind.i64 }]
noncomputable def to_impl_drop (r : (Int × Int × Int) × List Int × List (Int × Int)) : Tup r_impl_drop × OutD := ((r.1, r.2.1, ()), some ⟨Ty.pair (Ty.int IntKind.i64) (Ty.int IntKind.i64), r.2.2⟩)
noncomputable def of_impl_drop : Tup r_impl_drop × OutD → Option ((Int × Int × Int) × List Int × List (Int × Int))
  | (a, some ⟨u, ys⟩) => if h : u = Ty.pair (Ty.int IntKind.i64) (Ty.int IntKind.i64) then some (a.1, a.2.1, castU h ys) else none
  | _ => none
theorem to_of_impl_drop : ∀ b r, of_impl_drop b = some r → to_impl_drop r = b := by
  rintro ⟨a, o⟩ r h
  cases o with
  | none => cases h
  | some s =>
    obtain ⟨u, ys⟩ := s
    simp only [of_impl_drop] at h
    split at h
    · rename_i hu; subst hu; injection h with h; subst h; rfl
    · cases h
noncomputable def f_impl_drop_0 : Nat → List (Int × Int) → Int → Int → Int → Int → Int → List Int → List Int → Int → Int → Int → Option (LR (List (Int × Int) × Int × Int × Int × Int × Int × List Int × Int) ((Int × Int × Int) × List Int × List (Int × Int)))
  | 0, _, _, _, _, _, _, _, _, _, _, _ => none
  | k + 1, o1, b2_0, b2_1, b3_0, b3_1, b3_2, o4, v1, v2, v9, v10 =>
    if decide (v10 < b2_0) = true then if List.length o4 + List.length [wrap64 (wrap64 (v10 * b2_1) + v2)] ≤ (140737488355328 / 8 : Nat) then if (0 : Int) ≤ wrap64 (wrap64 (v10 * b2_1) + v2) then if wrap64 (wrap64 (v10 * b2_1) + v2) < (↑(List.length o1) : Int) then Option.bind (f_impl_GoesTo k (Prod.fst (List.getD o1 (Int.toNat (wrap64 (wrap64 (v10 * b2_1) + v2))) ((0 : Int), (0 : Int))), Prod.snd (List.getD o1 (Int.toNat (wrap64 (wrap64 (v10 * b2_1) + v2))) ((0 : Int), (0 : Int)))) v9) fun z0 => if (!Prod.snd z0) = true then some (LR.ret (((2 : Int), v10, v2), o4 ++ [wrap64 (wrap64 (v10 * b2_1) + v2)], o1)) else if decide (Prod.fst (List.getD o1 (Int.toNat (wrap64 (wrap64 (v10 * b2_1) + v2))) ((0 : Int), (0 : Int))) = (3 : Int)) = true then if (0 : Int) ≤ wrap64 (wrap64 (v10 * b2_1) + v2) then if wrap64 (wrap64 (v10 * b2_1) + v2) < (↑(List.length o1) : Int) then if decide (Prod.fst (List.getD o1 (Int.toNat (wrap64 (wrap64 (v10 * b2_1) + v2))) ((0 : Int), (0 : Int))) = (6 : Int)) = true then Option.bind (f_impl_turnGroup k (b2_0, b2_1, List.set o1 (Int.toNat (wrap64 (wrap64 (v10 * b2_1) + v2))) (Prod.fst (List.getD o1 (Int.toNat (wrap64 (wrap64 (v10 * b2_1) + v2))) ((0 : Int), (0 : Int))), wrap64 ((1 : Int) - Prod.snd (List.getD o1 (Int.toNat (wrap64 (wrap64 (v10 * b2_1) + v2))) ((0 : Int), (0 : Int)))))) v1 (wrap64 (wrap64 (v10 * b2_1) + v2))) fun z1 => if decide (wrap64 (v2 + Prod.fst z0) < (0 : Int)) = true then some (LR.ret (((3 : Int), v10, wrap64 (v2 + Prod.fst z0)), o4 ++ [wrap64 (wrap64 (v10 * b2_1) + v2)], z1)) else if decide (wrap64 (v2 + Prod.fst z0) ≥ b2_1) = true then some (LR.ret (((3 : Int), v10, wrap64 (v2 + Prod.fst z0)), o4 ++ [wrap64 (wrap64 (v10 * b2_1) + v2)], z1)) else f_impl_drop_0 k z1 b2_0 b2_1 b3_0 b3_1 b3_2 (o4 ++ [wrap64 (wrap64 (v10 * b2_1) + v2)]) v1 (wrap64 (v2 + Prod.fst z0)) (wrap64 ((0 : Int) - Prod.fst z0)) (wrap64 (v10 + (1 : Int))) else if decide (wrap64 (v2 + Prod.fst z0) < (0 : Int)) = true then some (LR.ret (((3 : Int), v10, wrap64 (v2 + Prod.fst z0)), o4 ++ [wrap64 (wrap64 (v10 * b2_1) + v2)], List.set o1 (Int.toNat (wrap64 (wrap64 (v10 * b2_1) + v2))) (Prod.fst (List.getD o1 (Int.toNat (wrap64 (wrap64 (v10 * b2_1) + v2))) ((0 : Int), (0 : Int))), wrap64 ((1 : Int) - Prod.snd (List.getD o1 (Int.toNat (wrap64 (wrap64 (v10 * b2_1) + v2))) ((0 : Int), (0 : Int))))))) else if decide (wrap64 (v2 + Prod.fst z0) ≥ b2_1) = true then some (LR.ret (((3 : Int), v10, wrap64 (v2 + Prod.fst z0)), o4 ++ [wrap64 (wrap64 (v10 * b2_1) + v2)], List.set o1 (Int.toNat (wrap64 (wrap64 (v10 * b2_1) + v2))) (Prod.fst (List.getD o1 (Int.toNat (wrap64 (wrap64 (v10 * b2_1) + v2))) ((0 : Int), (0 : Int))), wrap64 ((1 : Int) - Prod.snd (List.getD o1 (Int.toNat (wrap64 (wrap64 (v10 * b2_1) + v2))) ((0 : Int), (0 : Int))))))) else f_impl_drop_0 k (List.set o1 (Int.toNat (wrap64 (wrap64 (v10 * b2_1) + v2))) (Prod.fst (List.getD o1 (Int.toNat (wrap64 (wrap64 (v10 * b2_1) + v2))) ((0 : Int), (0 : Int))), wrap64 ((1 : Int) - Prod.snd (List.getD o1 (Int.toNat (wrap64 (wrap64 (v10 * b2_1) + v2))) ((0 : Int), (0 : Int)))))) b2_0 b2_1 b3_0 b3_1 b3_2 (o4 ++ [wrap64 (wrap64 (v10 * b2_1) + v2)]) v1 (wrap64 (v2 + Prod.fst z0)) (wrap64 ((0 : Int) - Prod.fst z0)) (wrap64 (v10 + (1 : Int))) else none else none else if decide (Prod.fst (List.getD o1 (Int.toNat (wrap64 (wrap64 (v10 * b2_1) + v2))) ((0 : Int), (0 : Int))) = (6 : Int)) = true then Option.bind (f_impl_turnGroup k (b2_0, b2_1, o1) v1 (wrap64 (wrap64 (v10 * b2_1) + v2))) fun z2 => if decide (wrap64 (v2 + Prod.fst z0) < (0 : Int)) = true then some (LR.ret (((3 : Int), v10, wrap64 (v2 + Prod.fst z0)), o4 ++ [wrap64 (wrap64 (v10 * b2_1) + v2)], z2)) else if decide (wrap64 (v2 + Prod.fst z0) ≥ b2_1) = true then some (LR.ret (((3 : Int), v10, wrap64 (v2 + Prod.fst z0)), o4 ++ [wrap64 (wrap64 (v10 * b2_1) + v2)], z2)) else f_impl_drop_0 k z2 b2_0 b2_1 b3_0 b3_1 b3_2 (o4 ++ [wrap64 (wrap64 (v10 * b2_1) + v2)]) v1 (wrap64 (v2 + Prod.fst z0)) (wrap64 ((0 : Int) - Prod.fst z0)) (wrap64 (v10 + (1 : Int))) else if decide (wrap64 (v2 + Prod.fst z0) < (0 : Int)) = true then some (LR.ret (((3 : Int), v10, wrap64 (v2 + Prod.fst z0)), o4 ++ [wrap64 (wrap64 (v10 * b2_1) + v2)], o1)) else if decide (wrap64 (v2 + Prod.fst z0) ≥ b2_1) = true then some (LR.ret (((3 : Int), v10, wrap64 (v2 + Prod.fst z0)), o4 ++ [wrap64 (wrap64 (v10 * b2_1) + v2)], o1)) else f_impl_drop_0 k o1 b2_0 b2_1 b3_0 b3_1 b3_2 (o4 ++ [wrap64 (wrap64 (v10 * b2_1) + v2)]) v1 (wrap64 (v2 + Prod.fst z0)) (wrap64 ((0 : Int) - Prod.fst z0)) (wrap64 (v10 + (1 : Int))) else none else none else none else some (LR.go (o1, b2_0, b2_1, b3_0, b3_1, b3_2, o4, v2))
noncomputable def f_impl_drop_0i : Spec := { objs := [OSh.ro, OSh.row false (75 : Nat) (Ty.pair (Ty.int IntKind.i64) (Ty.int IntKind.i64)), OSh.box (31 : Nat) [Sh.int IntKind.i64, Sh.int IntKind.i64, Sh.sl (1 : Nat)], OSh.box (71 : Nat) [Sh.int IntKind.i64, Sh.int IntKind.i64, Sh.int IntKind.i64], OSh.row true (3 : Nat) (Ty.int IntKind.i64)], tmps := [((1 : Nat), TSh.at (Sh.snap (0 : Nat) (Ty.int IntKind.i64))), ((2 : Nat), TSh.at (Sh.int IntKind.i64)), ((3 : Nat), TSh.at (Sh.ptr (2 : Nat) (0 : Nat))), ((6 : Nat), TSh.at (Sh.ptr (3 : Nat) (0 : Nat))), ((8 : Nat), TSh.at (Sh.sl (4 : Nat))), ((9 : Nat), TSh.at (Sh.int IntKind.i64)), ((10 : Nat), TSh.at (Sh.int IntKind.i64))] }
noncomputable def f_impl_drop_0o : Spec := { objs := [OSh.ro, OSh.row false (75 : Nat) (Ty.pair (Ty.int IntKind.i64) (Ty.int IntKind.i64)), OSh.box (31 : Nat) [Sh.int IntKind.i64, Sh.int IntKind.i64, Sh.sl (1 : Nat)], OSh.box (71 : Nat) [Sh.int IntKind.i64, Sh.int IntKind.i64, Sh.int IntKind.i64], OSh.row true (3 : Nat) (Ty.int IntKind.i64)], tmps := [((2 : Nat), TSh.at (Sh.int IntKind.i64)), ((3 : Nat), TSh.at (Sh.ptr (2 : Nat) (0 : Nat))), ((6 : Nat), TSh.at (Sh.ptr (3 : Nat) (0 : Nat))), ((8 : Nat), TSh.at (Sh.sl (4 : Nat)))] }
noncomputable def f_impl_drop_0D : LoopDef (Tup r_impl_drop × OutD) := .rets f_impl_drop_0i f_impl_drop_0o (List (Int × Int) × Int × Int × Int × Int × Int × List Int × Int) ((Int × Int × Int) × List Int × List (Int × Int)) (fun k x => f_impl_drop_0 k x.1.2.1 x.1.2.2.1.1 x.1.2.2.1.2.1 x.1.2.2.2.1.1 x.1.2.2.2.1.2.1 x.1.2.2.2.1.2.2.1 x.1.2.2.2.2.1 x.2.1 x.2.2.1 x.2.2.2.2.2.2.1 x.2.2.2.2.2.2.2.1) (fun z => (((), z.1, (z.2.1, z.2.2.1, (), ()), (z.2.2.2.1, z.2.2.2.2.1, z.2.2.2.2.2.1, ()), z.2.2.2.2.2.2.1, ()), (z.2.2.2.2.2.2.2, (), (), (), ()))) (fun y => (y.1.2.1, y.1.2.2.1.1, y.1.2.2.1.2.1, y.1.2.2.2.1.1, y.1.2.2.2.1.2.1, y.1.2.2.2.1.2.2.1, y.1.2.2.2.2.1, y.2.1)) (fun _ => rfl) to_impl_drop of_impl_drop to_of_impl_drop
noncomputable def f_impl_drop : Nat → Int × Int × List (Int × Int) → List Int → Int → Option ((Int × Int × Int) × List Int × List (Int × Int))
  | 0, _, _, _ => none
  | k + 1, p0, p1, p2 =>
    Option.bind (f_impl_drop_0 k (Prod.snd (Prod.snd p0)) (Prod.fst p0) (Prod.fst (Prod.snd p0)) (0 : Int) (0 : Int) (0 : Int) [] p1 p2 (0 : Int) (0 : Int)) fun z3 => LR.on z3 (fun y3 => some (((1 : Int), Prod.fst (Prod.snd y3), Prod.snd (Prod.snd (Prod.snd (Prod.snd (Prod.snd (Prod.snd (Prod.snd y3))))))), Prod.fst (Prod.snd (Prod.snd (Prod.snd (Prod.snd (Prod.snd (Prod.snd y3)))))), Prod.fst y3)) fun r3 => some r3
noncomputable def d_impl_drop : FnDef := .of q_impl_drop r_impl_drop ((Int × Int × Int) × List Int × List (Int × Int)) (fun k x => f_impl_drop k x.1 x.2.1 x.2.2.1) to_impl_drop of_impl_drop to_of_impl_drop
noncomputable def c_impl_drop : Code := Try.f65.body.getD .skip
noncomputable def x_impl_drop : Ctx (Tup r_impl_drop × OutD) := { T := T, G := [(79, d_impl_GoesTo.E), (80, d_impl_turnGroup.E)], mvs := [], no := 1, n := 89, res := resOf T q_impl_drop r_impl_drop Try.f65.results.toList, loops := [(0, f_impl_drop_0D.E)], regs := [], conds := [] }
theorem g_impl_drop (k : Nat) : EnvOK Try.prog k x_impl_drop.G := (EnvOK.cons (s_impl_GoesTo k) (EnvOK.cons (s_impl_turnGroup k) (EnvOK.nil mixed)))
noncomputable def f_impl_drop_0B : Code := (findLoop 0 c_impl_drop).getD .skip
theorem f_impl_drop_0h (k : Nat) (x : f_impl_drop_0i.D) : f_impl_drop_0D.lp (k + 1) x = loopK x_impl_drop f_impl_drop_0D 0 f_impl_drop_0B k x := by kernel_rfl
theorem f_impl_drop_0l (k : Nat) : LOK Try.prog x_impl_drop k f_impl_drop_0B := LOK.by [] (by kernel_rfl) AllOK.nil
theorem f_impl_drop_0z (x : f_impl_drop_0i.D) : f_impl_drop_0D.lp 0 x = none := by kernel_rfl
theorem f_impl_drop_0ok (k : Nat) : EOK Try.prog x_impl_drop k f_impl_drop_0D.E (.block 0 (.loop f_impl_drop_0B)) := loop_ok T_ok g_impl_drop f_impl_drop_0z f_impl_drop_0h f_impl_drop_0l k
theorem h_impl_drop (k : Nat) (x : Tup d_impl_drop.ps) : d_impl_drop.f (k + 1) x = fnK d_impl_drop x_impl_drop c_impl_drop k x := by kernel_rfl
theorem z_impl_drop (x : Tup d_impl_drop.ps) : d_impl_drop.f 0 x = none := by kernel_rfl
theorem l_impl_drop (k : Nat) : LOK Try.prog x_impl_drop k c_impl_drop := LOK.by [(f_impl_drop_0D.E, .block 0 (.loop f_impl_drop_0B))] (by kernel_rfl) (AllOK.cons (f_impl_drop_0ok k) AllOK.nil)
theorem s_impl_drop (k : Nat) : SoundAt Try.prog k 65 d_impl_drop.E := @fn_all Try.prog d_impl_drop x_impl_drop 65 Try.f65 c_impl_drop (by kernel_rfl) (by kernel_rfl) (by kernel_rfl) Try.func65 (by kernel_rfl) (by kernel_rfl) (by kernel_rfl) T_ok g_impl_drop l_impl_drop z_impl_drop h_impl_drop k
/-! function 67 -/
noncomputable def r_spec_boGood : List PK := [{ t := Ty.bool }]
noncomputable def q_spec_boGood : List PK := [{ t := Ty.pair (Ty.int IntKind.i64) (Ty.pair (Ty.int IntKind.i64) (Ty.slice (75 : Nat) (Ty.pair (Ty.int IntKind.i64) (Ty.int IntKind.i64)))), agg := true }]
noncomputable def to_spec_boGood (r : Bool) : Tup r_spec_boGood × OutD := ((r, ()), none)
noncomputable def of_spec_boGood : Tup r_spec_boGood × OutD → Option (Bool)
  | (a, none) => some (a.1)
  | _ => none
theorem to_of_spec_boGood : ∀ b r, of_spec_boGood b = some r → to_spec_boGood r = b := by
  rintro ⟨a, o⟩ r h
  cases o with
  | none => injection h with h; subst h; rfl
  | some _ => cases h
noncomputable def f_spec_boGood_0 : Nat → List (Int × Int) → Int → Int → Option (LR Unit Bool)
  | 0, _, _, _ => none
  | k + 1, v27, v28, v29 =>
    if decide (v29 < v28) = true then if (0 : Int) ≤ v29 then if v29 < (↑(List.length v27) : Int) then Option.bind (f_spec_paGood k (Prod.fst (List.getD v27 (Int.toNat v29) ((0 : Int), (0 : Int))), Prod.snd (List.getD v27 (Int.toNat v29) ((0 : Int), (0 : Int))))) fun z2 => if (!z2) = true then some (LR.ret false) else f_spec_boGood_0 k v27 v28 (wrap64 (v29 + (1 : Int))) else none else none else some (LR.go ())
noncomputable def f_spec_boGood_0i : Spec := { objs := [OSh.ro], tmps := [((27 : Nat), TSh.at (Sh.snap (0 : Nat) (Ty.pair (Ty.int IntKind.i64) (Ty.int IntKind.i64)))), ((28 : Nat), TSh.at (Sh.int IntKind.i64)), ((29 : Nat), TSh.at (Sh.int IntKind.i64))] }
noncomputable def f_spec_boGood_0o : Spec := { objs := [OSh.ro], tmps := [] }
noncomputable def f_spec_boGood_0D : LoopDef (Tup r_spec_boGood × OutD) := .rets f_spec_boGood_0i f_spec_boGood_0o (Unit) (Bool) (fun k x => f_spec_boGood_0 k x.2.1 x.2.2.1 x.2.2.2.1) (fun z => (((), ()), (()))) (fun y => ()) (fun _ => rfl) to_spec_boGood of_spec_boGood to_of_spec_boGood
noncomputable def f_spec_boGood : Nat → Int × Int × List (Int × Int) → Option Bool
  | 0, _ => none
  | k + 1, p0 =>
    Option.bind (f_spec_l1In k (Prod.fst p0) (1 : Int) (10 : Int)) fun z0 => if (!z0) = true then some false else Option.bind (f_spec_l1In k (Prod.fst (Prod.snd p0)) (1 : Int) (9 : Int)) fun z1 => if (!z1) = true then some false else if decide ((↑(List.length (Prod.snd (Prod.snd p0))) : Int) ≠ wrap64 (Prod.fst p0 * Prod.fst (Prod.snd p0))) = true then some false else Option.bind (f_spec_boGood_0 k (Prod.snd (Prod.snd p0)) (↑(List.length (Prod.snd (Prod.snd p0))) : Int) (0 : Int)) fun z3 => LR.on z3 (fun y3 => some true) fun r3 => some r3
noncomputable def d_spec_boGood : FnDef := .of q_spec_boGood r_spec_boGood (Bool) (fun k x => f_spec_boGood k x.1) to_spec_boGood of_spec_boGood to_of_spec_boGood
noncomputable def c_spec_boGood : Code := Try.f67.body.getD .skip
noncomputable def x_spec_boGood : Ctx (Tup r_spec_boGood × OutD) := { T := T, G := [(74, d_spec_l1In.E), (81, d_spec_paGood.E)], mvs := [], no := 0, n := 37, res := resOf T q_spec_boGood r_spec_boGood Try.f67.results.toList, loops := [(0, f_spec_boGood_0D.E)], regs := [], conds := [] }
theorem g_spec_boGood (k : Nat) : EnvOK Try.prog k x_spec_boGood.G := (EnvOK.cons (s_spec_l1In k) (EnvOK.cons (s_spec_paGood k) (EnvOK.nil mixed)))
noncomputable def f_spec_boGood_0B : Code := (findLoop 0 c_spec_boGood).getD .skip
theorem f_spec_boGood_0h (k : Nat) (x : f_spec_boGood_0i.D) : f_spec_boGood_0D.lp (k + 1) x = loopK x_spec_boGood f_spec_boGood_0D 0 f_spec_boGood_0B k x := by kernel_rfl
theorem f_spec_boGood_0l (k : Nat) : LOK Try.prog x_spec_boGood k f_spec_boGood_0B := LOK.by [] (by kernel_rfl) AllOK.nil
theorem f_spec_boGood_0z (x : f_spec_boGood_0i.D) : f_spec_boGood_0D.lp 0 x = none := by kernel_rfl
theorem f_spec_boGood_0ok (k : Nat) : EOK Try.prog x_spec_boGood k f_spec_boGood_0D.E (.block 0 (.loop f_spec_boGood_0B)) := loop_ok T_ok g_spec_boGood f_spec_boGood_0z f_spec_boGood_0h f_spec_boGood_0l k
theorem h_spec_boGood (k : Nat) (x : Tup d_spec_boGood.ps) : d_spec_boGood.f (k + 1) x = fnK d_spec_boGood x_spec_boGood c_spec_boGood k x := by kernel_rfl
theorem z_spec_boGood (x : Tup d_spec_boGood.ps) : d_spec_boGood.f 0 x = none := by kernel_rfl
theorem l_spec_boGood (k : Nat) : LOK Try.prog x_spec_boGood k c_spec_boGood := LOK.by [(f_spec_boGood_0D.E, .block 0 (.loop f_spec_boGood_0B))] (by kernel_rfl) (AllOK.cons (f_spec_boGood_0ok k) AllOK.nil)
theorem s_spec_boGood (k : Nat) : SoundAt Try.prog k 67 d_spec_boGood.E := @fn_all Try.prog d_spec_boGood x_spec_boGood 67 Try.f67 c_spec_boGood (by kernel_rfl) (by kernel_rfl) (by kernel_rfl) Try.func67 (by kernel_rfl) (by kernel_rfl) (by kernel_rfl) T_ok g_spec_boGood l_spec_boGood z_spec_boGood h_spec_boGood k
/-! function 76 -/
noncomputable def r_spec_flGo : List PK := [{ t := Ty.pair (Ty.int IntKind.i64) (Ty.pair (Ty.int IntKind.i64) (Ty.int IntKind.i64)), agg := true }, { t := Ty.pair (Ty.int IntKind.i64) (Ty.pair (Ty.int IntKind.i64) (Ty.slice (75 : Nat) (Ty.pair (Ty.int IntKind.i64) (Ty.int IntKind.i64)))), agg := true }, { t := Ty.slice (26 : Nat) (Ty.slice (3 : Nat) (Ty.int IntKind.i64)) }]
noncomputable def q_spec_flGo : List PK := [{ t := Ty.pair (Ty.int IntKind.i64) (Ty.pair (Ty.int IntKind.i64) (Ty.slice (75 : Nat) (Ty.pair (Ty.int IntKind.i64) (Ty.int IntKind.i64)))), agg := true }, { t := Ty.slice (3 : Nat) (Ty.int IntKind.i64) }, { t := Ty.int IntKind.i64 }]
noncomputable def to_spec_flGo (r : (Int × Int × Int) × (Int × Int × List (Int × Int)) × List (List Int)) : Tup r_spec_flGo × OutD := ((r.1, r.2.1, r.2.2, ()), none)
noncomputable def of_spec_flGo : Tup r_spec_flGo × OutD → Option ((Int × Int × Int) × (Int × Int × List (Int × Int)) × List (List Int))
  | (a, none) => some (a.1, a.2.1, a.2.2.1)
  | _ => none
theorem to_of_spec_flGo : ∀ b r, of_spec_flGo b = some r → to_spec_flGo r = b := by
  rintro ⟨a, o⟩ r h
  cases o with
  | none => injection h with h; subst h; rfl
  | some _ => cases h
noncomputable def f_spec_flGo_g10 : Nat → Int → Int → Int → Int → Int → List (Int × Int) → Int → Int → List (Int × Int) → List (List Int) → Int → Int → Option (Int × Int × Int × Int × Int × List (Int × Int) × List (List Int)) := fun k b1_0 b1_1 b1_2 b2_0 b2_1 o3 b4_0 b4_1 o5 o6 v2 v12 =>
    some ((2 : Int), v12, v2, b4_0, b4_1, o5, o6)
noncomputable def f_spec_flGo_g10A : Nat → Int → Int → Int → Int → Int → List (Int × Int) → Int → Int → List (Int × Int) → List (List Int) → Int → Int → Option (List (Int × Int × Int × Int × Int × List (Int × Int) × List (List Int))) := fun k b1_0 b1_1 b1_2 b2_0 b2_1 o3 b4_0 b4_1 o5 o6 v2 v12 =>
    joinL (some [((2 : Int), v12, v2, b4_0, b4_1, o5, o6)]) (some [((2 : Int), v12, v2, b4_0, b4_1, o5, o6)])
noncomputable def f_spec_flGo_g10i : Spec := { objs := [OSh.ro, OSh.box (71 : Nat) [Sh.int IntKind.i64, Sh.int IntKind.i64, Sh.int IntKind.i64], OSh.box (31 : Nat) [Sh.int IntKind.i64, Sh.int IntKind.i64, Sh.sl (3 : Nat)], OSh.row true (75 : Nat) (Ty.pair (Ty.int IntKind.i64) (Ty.int IntKind.i64)), OSh.box (31 : Nat) [Sh.int IntKind.i64, Sh.int IntKind.i64, Sh.sl (5 : Nat)], OSh.row true (75 : Nat) (Ty.pair (Ty.int IntKind.i64) (Ty.int IntKind.i64)), OSh.row true (26 : Nat) (Ty.slice (3 : Nat) (Ty.int IntKind.i64))], tmps := [((2 : Nat), TSh.at (Sh.int IntKind.i64)), ((6 : Nat), TSh.at (Sh.ptr (1 : Nat) (0 : Nat))), ((7 : Nat), TSh.at (Sh.ptr (2 : Nat) (0 : Nat))), ((9 : Nat), TSh.at (Sh.ptr (4 : Nat) (0 : Nat))), ((10 : Nat), TSh.at (Sh.sl (6 : Nat))), ((12 : Nat), TSh.at (Sh.int IntKind.i64))] }
noncomputable def f_spec_flGo_g10o : Spec := { objs := [OSh.ro, OSh.box (71 : Nat) [Sh.int IntKind.i64, Sh.int IntKind.i64, Sh.int IntKind.i64], OSh.box (31 : Nat) [Sh.int IntKind.i64, Sh.int IntKind.i64, Sh.sl (3 : Nat)], OSh.row true (75 : Nat) (Ty.pair (Ty.int IntKind.i64) (Ty.int IntKind.i64)), OSh.row true (26 : Nat) (Ty.slice (3 : Nat) (Ty.int IntKind.i64))], tmps := [((6 : Nat), TSh.at (Sh.ptr (1 : Nat) (0 : Nat))), ((7 : Nat), TSh.at (Sh.ptr (2 : Nat) (0 : Nat))), ((8 : Nat), TSh.at (Sh.sl (4 : Nat)))] }
noncomputable def f_spec_flGo_g10D : LoopDef (Tup r_spec_flGo × OutD) := .plain f_spec_flGo_g10i f_spec_flGo_g10o (Int × Int × Int × Int × Int × List (Int × Int) × List (List Int)) (fun k x => f_spec_flGo_g10 k x.1.2.1.1 x.1.2.1.2.1 x.1.2.1.2.2.1 x.1.2.2.1.1 x.1.2.2.1.2.1 x.1.2.2.2.1 x.1.2.2.2.2.1.1 x.1.2.2.2.2.1.2.1 x.1.2.2.2.2.2.1 x.1.2.2.2.2.2.2.1 x.2.1 x.2.2.2.2.2.2.1) (fun z => (((), (z.1, z.2.1, z.2.2.1, ()), (z.2.2.2.1, z.2.2.2.2.1, (), ()), z.2.2.2.2.2.1, z.2.2.2.2.2.2, ()), ((), (), (), ()))) (fun y => (y.1.2.1.1, y.1.2.1.2.1, y.1.2.1.2.2.1, y.1.2.2.1.1, y.1.2.2.1.2.1, y.1.2.2.2.1, y.1.2.2.2.2.1)) (fun _ => rfl)
theorem f_spec_flGo_g10j (k : Nat) (b1_0 : Int) (b1_1 : Int) (b1_2 : Int) (b2_0 : Int) (b2_1 : Int) (o3 : List (Int × Int)) (b4_0 : Int) (b4_1 : Int) (o5 : List (Int × Int)) (o6 : List (List Int)) (v2 : Int) (v12 : Int) : f_spec_flGo_g10A k b1_0 b1_1 b1_2 b2_0 b2_1 o3 b4_0 b4_1 o5 o6 v2 v12 = repl 2 (f_spec_flGo_g10 k b1_0 b1_1 b1_2 b2_0 b2_1 o3 b4_0 b4_1 o5 o6 v2 v12) := by
  first
  | (simp only [f_spec_flGo_g10A, f_spec_flGo_g10, repl_some, repl_ite, repl_ite0, repl_ite1, repl_bind, joinL_repl, if_true]; done)
  | (simp only [f_spec_flGo_g10A, f_spec_flGo_g10, repl_some, repl_ite, repl_ite0, repl_ite1, repl_bind, joinL_repl, if_true]; simp only [joinL_grdl, joinL_grdr, repl_grd, joinL_repl]; simp only [grd_and]; exact grd_congr ⟨fun h => by simp only [h, and_self], fun h => by simp only [h, and_self]⟩)
noncomputable def f_spec_flGo_g16 : Nat → Int → Int → Int → Int → Int → List (Int × Int) → Int → Int → List (Int × Int) → List (List Int) → Int → Int → Option (Int × Int × Int × Int × Int × List (Int × Int) × List (List Int)) := fun k b1_0 b1_1 b1_2 b2_0 b2_1 o3 b4_0 b4_1 o5 o6 v2 v12 =>
    some ((3 : Int), v12, v2, b4_0, b4_1, o5, o6)
noncomputable def f_spec_flGo_g16A : Nat → Int → Int → Int → Int → Int → List (Int × Int) → Int → Int → List (Int × Int) → List (List Int) → Int → Int → Option (List (Int × Int × Int × Int × Int × List (Int × Int) × List (List Int))) := fun k b1_0 b1_1 b1_2 b2_0 b2_1 o3 b4_0 b4_1 o5 o6 v2 v12 =>
    joinL (some [((3 : Int), v12, v2, b4_0, b4_1, o5, o6)]) (some [((3 : Int), v12, v2, b4_0, b4_1, o5, o6)])
noncomputable def f_spec_flGo_g16i : Spec := { objs := [OSh.ro, OSh.box (71 : Nat) [Sh.int IntKind.i64, Sh.int IntKind.i64, Sh.int IntKind.i64], OSh.box (31 : Nat) [Sh.int IntKind.i64, Sh.int IntKind.i64, Sh.sl (3 : Nat)], OSh.row true (75 : Nat) (Ty.pair (Ty.int IntKind.i64) (Ty.int IntKind.i64)), OSh.box (31 : Nat) [Sh.int IntKind.i64, Sh.int IntKind.i64, Sh.sl (5 : Nat)], OSh.row true (75 : Nat) (Ty.pair (Ty.int IntKind.i64) (Ty.int IntKind.i64)), OSh.row true (26 : Nat) (Ty.slice (3 : Nat) (Ty.int IntKind.i64))], tmps := [((2 : Nat), TSh.at (Sh.int IntKind.i64)), ((6 : Nat), TSh.at (Sh.ptr (1 : Nat) (0 : Nat))), ((7 : Nat), TSh.at (Sh.ptr (2 : Nat) (0 : Nat))), ((9 : Nat), TSh.at (Sh.ptr (4 : Nat) (0 : Nat))), ((10 : Nat), TSh.at (Sh.sl (6 : Nat))), ((12 : Nat), TSh.at (Sh.int IntKind.i64))] }
noncomputable def f_spec_flGo_g16o : Spec := { objs := [OSh.ro, OSh.box (71 : Nat) [Sh.int IntKind.i64, Sh.int IntKind.i64, Sh.int IntKind.i64], OSh.box (31 : Nat) [Sh.int IntKind.i64, Sh.int IntKind.i64, Sh.sl (3 : Nat)], OSh.row true (75 : Nat) (Ty.pair (Ty.int IntKind.i64) (Ty.int IntKind.i64)), OSh.row true (26 : Nat) (Ty.slice (3 : Nat) (Ty.int IntKind.i64))], tmps := [((6 : Nat), TSh.at (Sh.ptr (1 : Nat) (0 : Nat))), ((7 : Nat), TSh.at (Sh.ptr (2 : Nat) (0 : Nat))), ((8 : Nat), TSh.at (Sh.sl (4 : Nat)))] }
noncomputable def f_spec_flGo_g16D : LoopDef (Tup r_spec_flGo × OutD) := .plain f_spec_flGo_g16i f_spec_flGo_g16o (Int × Int × Int × Int × Int × List (Int × Int) × List (List Int)) (fun k x => f_spec_flGo_g16 k x.1.2.1.1 x.1.2.1.2.1 x.1.2.1.2.2.1 x.1.2.2.1.1 x.1.2.2.1.2.1 x.1.2.2.2.1 x.1.2.2.2.2.1.1 x.1.2.2.2.2.1.2.1 x.1.2.2.2.2.2.1 x.1.2.2.2.2.2.2.1 x.2.1 x.2.2.2.2.2.2.1) (fun z => (((), (z.1, z.2.1, z.2.2.1, ()), (z.2.2.2.1, z.2.2.2.2.1, (), ()), z.2.2.2.2.2.1, z.2.2.2.2.2.2, ()), ((), (), (), ()))) (fun y => (y.1.2.1.1, y.1.2.1.2.1, y.1.2.1.2.2.1, y.1.2.2.1.1, y.1.2.2.1.2.1, y.1.2.2.2.1, y.1.2.2.2.2.1)) (fun _ => rfl)
theorem f_spec_flGo_g16j (k : Nat) (b1_0 : Int) (b1_1 : Int) (b1_2 : Int) (b2_0 : Int) (b2_1 : Int) (o3 : List (Int × Int)) (b4_0 : Int) (b4_1 : Int) (o5 : List (Int × Int)) (o6 : List (List Int)) (v2 : Int) (v12 : Int) : f_spec_flGo_g16A k b1_0 b1_1 b1_2 b2_0 b2_1 o3 b4_0 b4_1 o5 o6 v2 v12 = repl 2 (f_spec_flGo_g16 k b1_0 b1_1 b1_2 b2_0 b2_1 o3 b4_0 b4_1 o5 o6 v2 v12) := by
  first
  | (simp only [f_spec_flGo_g16A, f_spec_flGo_g16, repl_some, repl_ite, repl_ite0, repl_ite1, repl_bind, joinL_repl, if_true]; done)
  | (simp only [f_spec_flGo_g16A, f_spec_flGo_g16, repl_some, repl_ite, repl_ite0, repl_ite1, repl_bind, joinL_repl, if_true]; simp only [joinL_grdl, joinL_grdr, repl_grd, joinL_repl]; simp only [grd_and]; exact grd_congr ⟨fun h => by simp only [h, and_self], fun h => by simp only [h, and_self]⟩)
noncomputable def f_spec_flGo_0 : Nat → Int → Int → List (Int × Int) → Int → Int → Int → Int → Int → List (Int × Int) → Int → Int → List (Int × Int) → List (List Int) → List Int → Int → Int → Int → Option (LR (Int × Int × List (Int × Int) × Int × Int × Int × Int × Int × List (Int × Int) × Int × Int × List (Int × Int) × List (List Int) × Int) ((Int × Int × Int) × (Int × Int × List (Int × Int)) × List (List Int)))
  | 0, _, _, _, _, _, _, _, _, _, _, _, _, _, _, _, _, _ => none
  | k + 1, b1_0, b1_1, b1_2, b2_0, b2_1, b2_2, b3_0, b3_1, o4, b5_0, b5_1, o6, o7, v1, v2, v11, v12 =>
    if decide (v12 < b1_0) = true then if List.length o7 + List.length [[v12, v2]] ≤ (140737488355328 / 24 : Nat) then Option.bind (f_spec_boAt k (b5_0, b5_1, o6) v12 v2) fun z1 => if decide (Prod.fst z1 = (5 : Int)) = true then Option.bind (f_spec_flGo_g10 k b2_0 b2_1 b2_2 b3_0 b3_1 o4 b5_0 b5_1 o6 (o7 ++ [[v12, v2]]) v2 v12) fun z2 => some (LR.ret ((Prod.fst z2, Prod.fst (Prod.snd z2), Prod.fst (Prod.snd (Prod.snd z2))), (Prod.fst (Prod.snd (Prod.snd (Prod.snd z2))), Prod.fst (Prod.snd (Prod.snd (Prod.snd (Prod.snd z2)))), Prod.fst (Prod.snd (Prod.snd (Prod.snd (Prod.snd (Prod.snd z2)))))), Prod.snd (Prod.snd (Prod.snd (Prod.snd (Prod.snd (Prod.snd z2))))))) else Option.bind (f_spec_paGoes k (Prod.fst z1, Prod.snd z1) v11) fun z3 => Option.bind (f_spec_flPass k (b5_0, b5_1, o6) v1 (wrap64 (wrap64 (v12 * b1_1) + v2))) fun z4 => Option.bind (f_spec_l1In k (wrap64 (v2 + z3)) (0 : Int) (wrap64 (b1_1 - (1 : Int)))) fun z5 => if (!z5) = true then Option.bind (f_spec_flGo_g16 k b2_0 b2_1 b2_2 b3_0 b3_1 o4 b5_0 b5_1 z4 (o7 ++ [[v12, v2]]) (wrap64 (v2 + z3)) v12) fun z6 => some (LR.ret ((Prod.fst z6, Prod.fst (Prod.snd z6), Prod.fst (Prod.snd (Prod.snd z6))), (Prod.fst (Prod.snd (Prod.snd (Prod.snd z6))), Prod.fst (Prod.snd (Prod.snd (Prod.snd (Prod.snd z6)))), Prod.fst (Prod.snd (Prod.snd (Prod.snd (Prod.snd (Prod.snd z6)))))), Prod.snd (Prod.snd (Prod.snd (Prod.snd (Prod.snd (Prod.snd z6))))))) else f_spec_flGo_0 k b1_0 b1_1 b1_2 b2_0 b2_1 b2_2 b3_0 b3_1 o4 b5_0 b5_1 z4 (o7 ++ [[v12, v2]]) v1 (wrap64 (v2 + z3)) (wrap64 ((0 : Int) - z3)) (wrap64 (v12 + (1 : Int))) else none else some (LR.go (b1_0, b1_1, b1_2, b2_0, b2_1, b2_2, b3_0, b3_1, o4, b5_0, b5_1, o6, o7, v2))
noncomputable def f_spec_flGo_0i : Spec := { objs := [OSh.ro, OSh.box (31 : Nat) [Sh.int IntKind.i64, Sh.int IntKind.i64, Sh.snap (0 : Nat) (Ty.pair (Ty.int IntKind.i64) (Ty.int IntKind.i64))], OSh.box (71 : Nat) [Sh.int IntKind.i64, Sh.int IntKind.i64, Sh.int IntKind.i64], OSh.box (31 : Nat) [Sh.int IntKind.i64, Sh.int IntKind.i64, Sh.sl (4 : Nat)], OSh.row true (75 : Nat) (Ty.pair (Ty.int IntKind.i64) (Ty.int IntKind.i64)), OSh.box (31 : Nat) [Sh.int IntKind.i64, Sh.int IntKind.i64, Sh.sl (6 : Nat)], OSh.row true (75 : Nat) (Ty.pair (Ty.int IntKind.i64) (Ty.int IntKind.i64)), OSh.row true (26 : Nat) (Ty.slice (3 : Nat) (Ty.int IntKind.i64))], tmps := [((1 : Nat), TSh.at (Sh.snap (0 : Nat) (Ty.int IntKind.i64))), ((2 : Nat), TSh.at (Sh.int IntKind.i64)), ((3 : Nat), TSh.at (Sh.ptr (1 : Nat) (0 : Nat))), ((6 : Nat), TSh.at (Sh.ptr (2 : Nat) (0 : Nat))), ((7 : Nat), TSh.at (Sh.ptr (3 : Nat) (0 : Nat))), ((9 : Nat), TSh.at (Sh.ptr (5 : Nat) (0 : Nat))), ((10 : Nat), TSh.at (Sh.sl (7 : Nat))), ((11 : Nat), TSh.at (Sh.int IntKind.i64)), ((12 : Nat), TSh.at (Sh.int IntKind.i64))] }
noncomputable def f_spec_flGo_0o : Spec := { objs := [OSh.ro, OSh.box (31 : Nat) [Sh.int IntKind.i64, Sh.int IntKind.i64, Sh.snap (0 : Nat) (Ty.pair (Ty.int IntKind.i64) (Ty.int IntKind.i64))], OSh.box (71 : Nat) [Sh.int IntKind.i64, Sh.int IntKind.i64, Sh.int IntKind.i64], OSh.box (31 : Nat) [Sh.int IntKind.i64, Sh.int IntKind.i64, Sh.sl (4 : Nat)], OSh.row true (75 : Nat) (Ty.pair (Ty.int IntKind.i64) (Ty.int IntKind.i64)), OSh.box (31 : Nat) [Sh.int IntKind.i64, Sh.int IntKind.i64, Sh.sl (6 : Nat)], OSh.row true (75 : Nat) (Ty.pair (Ty.int IntKind.i64) (Ty.int IntKind.i64)), OSh.row true (26 : Nat) (Ty.slice (3 : Nat) (Ty.int IntKind.i64))], tmps := [((2 : Nat), TSh.at (Sh.int IntKind.i64)), ((3 : Nat), TSh.at (Sh.ptr (1 : Nat) (0 : Nat))), ((6 : Nat), TSh.at (Sh.ptr (2 : Nat) (0 : Nat))), ((7 : Nat), TSh.at (Sh.ptr (3 : Nat) (0 : Nat))), ((9 : Nat), TSh.at (Sh.ptr (5 : Nat) (0 : Nat))), ((10 : Nat), TSh.at (Sh.sl (7 : Nat)))] }
noncomputable def f_spec_flGo_0D : LoopDef (Tup r_spec_flGo × OutD) := .rets f_spec_flGo_0i f_spec_flGo_0o (Int × Int × List (Int × Int) × Int × Int × Int × Int × Int × List (Int × Int) × Int × Int × List (Int × Int) × List (List Int) × Int) ((Int × Int × Int) × (Int × Int × List (Int × Int)) × List (List Int)) (fun k x => f_spec_flGo_0 k x.1.2.1.1 x.1.2.1.2.1 x.1.2.1.2.2.1 x.1.2.2.1.1 x.1.2.2.1.2.1 x.1.2.2.1.2.2.1 x.1.2.2.2.1.1 x.1.2.2.2.1.2.1 x.1.2.2.2.2.1 x.1.2.2.2.2.2.1.1 x.1.2.2.2.2.2.1.2.1 x.1.2.2.2.2.2.2.1 x.1.2.2.2.2.2.2.2.1 x.2.1 x.2.2.1 x.2.2.2.2.2.2.2.2.1 x.2.2.2.2.2.2.2.2.2.1) (fun z => (((), (z.1, z.2.1, z.2.2.1, ()), (z.2.2.2.1, z.2.2.2.2.1, z.2.2.2.2.2.1, ()), (z.2.2.2.2.2.2.1, z.2.2.2.2.2.2.2.1, (), ()), z.2.2.2.2.2.2.2.2.1, (z.2.2.2.2.2.2.2.2.2.1, z.2.2.2.2.2.2.2.2.2.2.1, (), ()), z.2.2.2.2.2.2.2.2.2.2.2.1, z.2.2.2.2.2.2.2.2.2.2.2.2.1, ()), (z.2.2.2.2.2.2.2.2.2.2.2.2.2, (), (), (), (), (), ()))) (fun y => (y.1.2.1.1, y.1.2.1.2.1, y.1.2.1.2.2.1, y.1.2.2.1.1, y.1.2.2.1.2.1, y.1.2.2.1.2.2.1, y.1.2.2.2.1.1, y.1.2.2.2.1.2.1, y.1.2.2.2.2.1, y.1.2.2.2.2.2.1.1, y.1.2.2.2.2.2.1.2.1, y.1.2.2.2.2.2.2.1, y.1.2.2.2.2.2.2.2.1, y.2.1)) (fun _ => rfl) to_spec_flGo of_spec_flGo to_of_spec_flGo
noncomputable def f_spec_flGo_g17 : Nat → Int → Int → List (Int × Int) → Int → Int → Int → Int → Int → List (Int × Int) → Int → Int → List (Int × Int) → List (List Int) → Int → Option (Int × Int × Int × Int × Int × List (Int × Int) × List (List Int)) := fun k b1_0 b1_1 b1_2 b2_0 b2_1 b2_2 b3_0 b3_1 o4 b5_0 b5_1 o6 o7 v2 =>
    some ((1 : Int), b1_0, v2, b5_0, b5_1, o6, o7)
noncomputable def f_spec_flGo_g17A : Nat → Int → Int → List (Int × Int) → Int → Int → Int → Int → Int → List (Int × Int) → Int → Int → List (Int × Int) → List (List Int) → Int → Option (List (Int × Int × Int × Int × Int × List (Int × Int) × List (List Int))) := fun k b1_0 b1_1 b1_2 b2_0 b2_1 b2_2 b3_0 b3_1 o4 b5_0 b5_1 o6 o7 v2 =>
    joinL (some [((1 : Int), b1_0, v2, b5_0, b5_1, o6, o7)]) (some [((1 : Int), b1_0, v2, b5_0, b5_1, o6, o7)])
noncomputable def f_spec_flGo_g17i : Spec := { objs := [OSh.ro, OSh.box (31 : Nat) [Sh.int IntKind.i64, Sh.int IntKind.i64, Sh.snap (0 : Nat) (Ty.pair (Ty.int IntKind.i64) (Ty.int IntKind.i64))], OSh.box (71 : Nat) [Sh.int IntKind.i64, Sh.int IntKind.i64, Sh.int IntKind.i64], OSh.box (31 : Nat) [Sh.int IntKind.i64, Sh.int IntKind.i64, Sh.sl (4 : Nat)], OSh.row true (75 : Nat) (Ty.pair (Ty.int IntKind.i64) (Ty.int IntKind.i64)), OSh.box (31 : Nat) [Sh.int IntKind.i64, Sh.int IntKind.i64, Sh.sl (6 : Nat)], OSh.row true (75 : Nat) (Ty.pair (Ty.int IntKind.i64) (Ty.int IntKind.i64)), OSh.row true (26 : Nat) (Ty.slice (3 : Nat) (Ty.int IntKind.i64))], tmps := [((2 : Nat), TSh.at (Sh.int IntKind.i64)), ((3 : Nat), TSh.at (Sh.ptr (1 : Nat) (0 : Nat))), ((6 : Nat), TSh.at (Sh.ptr (2 : Nat) (0 : Nat))), ((7 : Nat), TSh.at (Sh.ptr (3 : Nat) (0 : Nat))), ((9 : Nat), TSh.at (Sh.ptr (5 : Nat) (0 : Nat))), ((10 : Nat), TSh.at (Sh.sl (7 : Nat)))] }
noncomputable def f_spec_flGo_g17o : Spec := { objs := [OSh.ro, OSh.box (71 : Nat) [Sh.int IntKind.i64, Sh.int IntKind.i64, Sh.int IntKind.i64], OSh.box (31 : Nat) [Sh.int IntKind.i64, Sh.int IntKind.i64, Sh.sl (3 : Nat)], OSh.row true (75 : Nat) (Ty.pair (Ty.int IntKind.i64) (Ty.int IntKind.i64)), OSh.row true (26 : Nat) (Ty.slice (3 : Nat) (Ty.int IntKind.i64))], tmps := [((6 : Nat), TSh.at (Sh.ptr (1 : Nat) (0 : Nat))), ((7 : Nat), TSh.at (Sh.ptr (2 : Nat) (0 : Nat))), ((8 : Nat), TSh.at (Sh.sl (4 : Nat)))] }
noncomputable def f_spec_flGo_g17D : LoopDef (Tup r_spec_flGo × OutD) := .plain f_spec_flGo_g17i f_spec_flGo_g17o (Int × Int × Int × Int × Int × List (Int × Int) × List (List Int)) (fun k x => f_spec_flGo_g17 k x.1.2.1.1 x.1.2.1.2.1 x.1.2.1.2.2.1 x.1.2.2.1.1 x.1.2.2.1.2.1 x.1.2.2.1.2.2.1 x.1.2.2.2.1.1 x.1.2.2.2.1.2.1 x.1.2.2.2.2.1 x.1.2.2.2.2.2.1.1 x.1.2.2.2.2.2.1.2.1 x.1.2.2.2.2.2.2.1 x.1.2.2.2.2.2.2.2.1 x.2.1) (fun z => (((), (z.1, z.2.1, z.2.2.1, ()), (z.2.2.2.1, z.2.2.2.2.1, (), ()), z.2.2.2.2.2.1, z.2.2.2.2.2.2, ()), ((), (), (), ()))) (fun y => (y.1.2.1.1, y.1.2.1.2.1, y.1.2.1.2.2.1, y.1.2.2.1.1, y.1.2.2.1.2.1, y.1.2.2.2.1, y.1.2.2.2.2.1)) (fun _ => rfl)
theorem f_spec_flGo_g17j (k : Nat) (b1_0 : Int) (b1_1 : Int) (b1_2 : List (Int × Int)) (b2_0 : Int) (b2_1 : Int) (b2_2 : Int) (b3_0 : Int) (b3_1 : Int) (o4 : List (Int × Int)) (b5_0 : Int) (b5_1 : Int) (o6 : List (Int × Int)) (o7 : List (List Int)) (v2 : Int) : f_spec_flGo_g17A k b1_0 b1_1 b1_2 b2_0 b2_1 b2_2 b3_0 b3_1 o4 b5_0 b5_1 o6 o7 v2 = repl 2 (f_spec_flGo_g17 k b1_0 b1_1 b1_2 b2_0 b2_1 b2_2 b3_0 b3_1 o4 b5_0 b5_1 o6 o7 v2) := by
  first
  | (simp only [f_spec_flGo_g17A, f_spec_flGo_g17, repl_some, repl_ite, repl_ite0, repl_ite1, repl_bind, joinL_repl, if_true]; done)
  | (simp only [f_spec_flGo_g17A, f_spec_flGo_g17, repl_some, repl_ite, repl_ite0, repl_ite1, repl_bind, joinL_repl, if_true]; simp only [joinL_grdl, joinL_grdr, repl_grd, joinL_repl]; simp only [grd_and]; exact grd_congr ⟨fun h => by simp only [h, and_self], fun h => by simp only [h, and_self]⟩)
noncomputable def f_spec_flGo : Nat → Int × Int × List (Int × Int) → List Int → Int → Option ((Int × Int × Int) × (Int × Int × List (Int × Int)) × List (List Int))
  | 0, _, _, _ => none
  | k + 1, p0, p1, p2 =>
    Option.bind (f_spec_boOwn k (Prod.fst p0, Prod.fst (Prod.snd p0), Prod.snd (Prod.snd p0))) fun z0 => Option.bind (f_spec_flGo_0 k (Prod.fst p0) (Prod.fst (Prod.snd p0)) (Prod.snd (Prod.snd p0)) (0 : Int) (0 : Int) (0 : Int) (0 : Int) (0 : Int) [] (Prod.fst z0) (Prod.fst (Prod.snd z0)) (Prod.snd (Prod.snd z0)) [] p1 p2 (0 : Int) (0 : Int)) fun z7 => LR.on z7 (fun y7 => Option.bind (f_spec_flGo_g17 k (Prod.fst y7) (Prod.fst (Prod.snd y7)) (Prod.fst (Prod.snd (Prod.snd y7))) (Prod.fst (Prod.snd (Prod.snd (Prod.snd y7)))) (Prod.fst (Prod.snd (Prod.snd (Prod.snd (Prod.snd y7))))) (Prod.fst (Prod.snd (Prod.snd (Prod.snd (Prod.snd (Prod.snd y7)))))) (Prod.fst (Prod.snd (Prod.snd (Prod.snd (Prod.snd (Prod.snd (Prod.snd y7))))))) (Prod.fst (Prod.snd (Prod.snd (Prod.snd (Prod.snd (Prod.snd (Prod.snd (Prod.snd y7)))))))) (Prod.fst (Prod.snd (Prod.snd (Prod.snd (Prod.snd (Prod.snd (Prod.snd (Prod.snd (Prod.snd y7))))))))) (Prod.fst (Prod.snd (Prod.snd (Prod.snd (Prod.snd (Prod.snd (Prod.snd (Prod.snd (Prod.snd (Prod.snd y7)))))))))) (Prod.fst (Prod.snd (Prod.snd (Prod.snd (Prod.snd (Prod.snd (Prod.snd (Prod.snd (Prod.snd (Prod.snd (Prod.snd y7))))))))))) (Prod.fst (Prod.snd (Prod.snd (Prod.snd (Prod.snd (Prod.snd (Prod.snd (Prod.snd (Prod.snd (Prod.snd (Prod.snd (Prod.snd y7)))))))))))) (Prod.fst (Prod.snd (Prod.snd (Prod.snd (Prod.snd (Prod.snd (Prod.snd (Prod.snd (Prod.snd (Prod.snd (Prod.snd (Prod.snd (Prod.snd y7))))))))))))) (Prod.snd (Prod.snd (Prod.snd (Prod.snd (Prod.snd (Prod.snd (Prod.snd (Prod.snd (Prod.snd (Prod.snd (Prod.snd (Prod.snd (Prod.snd y7)))))))))))))) fun z8 => some ((Prod.fst z8, Prod.fst (Prod.snd z8), Prod.fst (Prod.snd (Prod.snd z8))), (Prod.fst (Prod.snd (Prod.snd (Prod.snd z8))), Prod.fst (Prod.snd (Prod.snd (Prod.snd (Prod.snd z8)))), Prod.fst (Prod.snd (Prod.snd (Prod.snd (Prod.snd (Prod.snd z8)))))), Prod.snd (Prod.snd (Prod.snd (Prod.snd (Prod.snd (Prod.snd z8))))))) fun r7 => some r7
noncomputable def d_spec_flGo : FnDef := .of q_spec_flGo r_spec_flGo ((Int × Int × Int) × (Int × Int × List (Int × Int)) × List (List Int)) (fun k x => f_spec_flGo k x.1 x.2.1 x.2.2.1) to_spec_flGo of_spec_flGo to_of_spec_flGo
noncomputable def c_spec_flGo : Code := Try.f76.body.getD .skip
noncomputable def x_spec_flGo : Ctx (Tup r_spec_flGo × OutD) := { T := T, G := [(54, d_spec_boOwn.E), (86, d_spec_boAt.E), (87, d_spec_paGoes.E), (88, d_spec_flPass.E), (74, d_spec_l1In.E)], mvs := [], no := 0, n := 75, res := resOf T q_spec_flGo r_spec_flGo Try.f76.results.toList, loops := [(0, f_spec_flGo_0D.E)], regs := [(10, f_spec_flGo_g10D.E), (16, f_spec_flGo_g16D.E), (17, f_spec_flGo_g17D.E)], conds := [] }
theorem g_spec_flGo (k : Nat) : EnvOK Try.prog k x_spec_flGo.G := (EnvOK.cons (s_spec_boOwn k) (EnvOK.cons (s_spec_boAt k) (EnvOK.cons (s_spec_paGoes k) (EnvOK.cons (s_spec_flPass k) (EnvOK.cons (s_spec_l1In k) (EnvOK.nil mixed))))))
noncomputable def f_spec_flGo_g10O : Array Oper := (findReg 10 c_spec_flGo).getD #[]
theorem f_spec_flGo_g10e (k : Nat) (x : f_spec_flGo_g10i.D) : execD x_spec_flGo.T x_spec_flGo.G x_spec_flGo.mvs k f_spec_flGo_g10O (f_spec_flGo_g10D.inp.st x_spec_flGo.n x) (outK x_spec_flGo f_spec_flGo_g10D) = f_spec_flGo_g10A k x.1.2.1.1 x.1.2.1.2.1 x.1.2.1.2.2.1 x.1.2.2.1.1 x.1.2.2.1.2.1 x.1.2.2.2.1 x.1.2.2.2.2.1.1 x.1.2.2.2.2.1.2.1 x.1.2.2.2.2.2.1 x.1.2.2.2.2.2.2.1 x.2.1 x.2.2.2.2.2.2.1 := by kernel_rfl
theorem f_spec_flGo_g10ok (k : Nat) : EOK Try.prog x_spec_flGo k f_spec_flGo_g10D.E (.region 10 f_spec_flGo_g10O true) := reg_ok (D := f_spec_flGo_g10D) (m := 2) T_ok (g_spec_flGo k) (fun x => (f_spec_flGo_g10e k x).trans (f_spec_flGo_g10j k x.1.2.1.1 x.1.2.1.2.1 x.1.2.1.2.2.1 x.1.2.2.1.1 x.1.2.2.1.2.1 x.1.2.2.2.1 x.1.2.2.2.2.1.1 x.1.2.2.2.2.1.2.1 x.1.2.2.2.2.2.1 x.1.2.2.2.2.2.2.1 x.2.1 x.2.2.2.2.2.2.1))
noncomputable def f_spec_flGo_g16O : Array Oper := (findReg 16 c_spec_flGo).getD #[]
theorem f_spec_flGo_g16e (k : Nat) (x : f_spec_flGo_g16i.D) : execD x_spec_flGo.T x_spec_flGo.G x_spec_flGo.mvs k f_spec_flGo_g16O (f_spec_flGo_g16D.inp.st x_spec_flGo.n x) (outK x_spec_flGo f_spec_flGo_g16D) = f_spec_flGo_g16A k x.1.2.1.1 x.1.2.1.2.1 x.1.2.1.2.2.1 x.1.2.2.1.1 x.1.2.2.1.2.1 x.1.2.2.2.1 x.1.2.2.2.2.1.1 x.1.2.2.2.2.1.2.1 x.1.2.2.2.2.2.1 x.1.2.2.2.2.2.2.1 x.2.1 x.2.2.2.2.2.2.1 := by kernel_rfl
theorem f_spec_flGo_g16ok (k : Nat) : EOK Try.prog x_spec_flGo k f_spec_flGo_g16D.E (.region 16 f_spec_flGo_g16O true) := reg_ok (D := f_spec_flGo_g16D) (m := 2) T_ok (g_spec_flGo k) (fun x => (f_spec_flGo_g16e k x).trans (f_spec_flGo_g16j k x.1.2.1.1 x.1.2.1.2.1 x.1.2.1.2.2.1 x.1.2.2.1.1 x.1.2.2.1.2.1 x.1.2.2.2.1 x.1.2.2.2.2.1.1 x.1.2.2.2.2.1.2.1 x.1.2.2.2.2.2.1 x.1.2.2.2.2.2.2.1 x.2.1 x.2.2.2.2.2.2.1))
noncomputable def f_spec_flGo_g17O : Array Oper := (findReg 17 c_spec_flGo).getD #[]
theorem f_spec_flGo_g17e (k : Nat) (x : f_spec_flGo_g17i.D) : execD x_spec_flGo.T x_spec_flGo.G x_spec_flGo.mvs k f_spec_flGo_g17O (f_spec_flGo_g17D.inp.st x_spec_flGo.n x) (outK x_spec_flGo f_spec_flGo_g17D) = f_spec_flGo_g17A k x.1.2.1.1 x.1.2.1.2.1 x.1.2.1.2.2.1 x.1.2.2.1.1 x.1.2.2.1.2.1 x.1.2.2.1.2.2.1 x.1.2.2.2.1.1 x.1.2.2.2.1.2.1 x.1.2.2.2.2.1 x.1.2.2.2.2.2.1.1 x.1.2.2.2.2.2.1.2.1 x.1.2.2.2.2.2.2.1 x.1.2.2.2.2.2.2.2.1 x.2.1 := by kernel_rfl
theorem f_spec_flGo_g17ok (k : Nat) : EOK Try.prog x_spec_flGo k f_spec_flGo_g17D.E (.region 17 f_spec_flGo_g17O true) := reg_ok (D := f_spec_flGo_g17D) (m := 2) T_ok (g_spec_flGo k) (fun x => (f_spec_flGo_g17e k x).trans (f_spec_flGo_g17j k x.1.2.1.1 x.1.2.1.2.1 x.1.2.1.2.2.1 x.1.2.2.1.1 x.1.2.2.1.2.1 x.1.2.2.1.2.2.1 x.1.2.2.2.1.1 x.1.2.2.2.1.2.1 x.1.2.2.2.2.1 x.1.2.2.2.2.2.1.1 x.1.2.2.2.2.2.1.2.1 x.1.2.2.2.2.2.2.1 x.1.2.2.2.2.2.2.2.1 x.2.1))
noncomputable def f_spec_flGo_0B : Code := (findLoop 0 c_spec_flGo).getD .skip
theorem f_spec_flGo_0h (k : Nat) (x : f_spec_flGo_0i.D) : f_spec_flGo_0D.lp (k + 1) x = loopK x_spec_flGo f_spec_flGo_0D 0 f_spec_flGo_0B k x := by kernel_rfl
theorem f_spec_flGo_0l (k : Nat) : LOK Try.prog x_spec_flGo k f_spec_flGo_0B := LOK.by [(f_spec_flGo_g10D.E, .region 10 f_spec_flGo_g10O true), (f_spec_flGo_g16D.E, .region 16 f_spec_flGo_g16O true)] (by kernel_rfl) (AllOK.cons (f_spec_flGo_g10ok k) (AllOK.cons (f_spec_flGo_g16ok k) AllOK.nil))
theorem f_spec_flGo_0z (x : f_spec_flGo_0i.D) : f_spec_flGo_0D.lp 0 x = none := by kernel_rfl
theorem f_spec_flGo_0ok (k : Nat) : EOK Try.prog x_spec_flGo k f_spec_flGo_0D.E (.block 0 (.loop f_spec_flGo_0B)) := loop_ok T_ok g_spec_flGo f_spec_flGo_0z f_spec_flGo_0h f_spec_flGo_0l k
theorem h_spec_flGo (k : Nat) (x : Tup d_spec_flGo.ps) : d_spec_flGo.f (k + 1) x = fnK d_spec_flGo x_spec_flGo c_spec_flGo k x := by kernel_rfl
theorem z_spec_flGo (x : Tup d_spec_flGo.ps) : d_spec_flGo.f 0 x = none := by kernel_rfl
theorem l_spec_flGo (k : Nat) : LOK Try.prog x_spec_flGo k c_spec_flGo := LOK.by [(f_spec_flGo_0D.E, .block 0 (.loop f_spec_flGo_0B)), (f_spec_flGo_g17D.E, .region 17 f_spec_flGo_g17O true)] (by kernel_rfl) (AllOK.cons (f_spec_flGo_0ok k) (AllOK.cons (f_spec_flGo_g17ok k) AllOK.nil))
theorem s_spec_flGo (k : Nat) : SoundAt Try.prog k 76 d_spec_flGo.E := @fn_all Try.prog d_spec_flGo x_spec_flGo 76 Try.f76 c_spec_flGo (by kernel_rfl) (by kernel_rfl) (by kernel_rfl) Try.func76 (by kernel_rfl) (by kernel_rfl) (by kernel_rfl) T_ok g_spec_flGo l_spec_flGo z_spec_flGo h_spec_flGo k
end
end Go.Proofs.Ytjjlmnbmpgfcbaa.Vs
