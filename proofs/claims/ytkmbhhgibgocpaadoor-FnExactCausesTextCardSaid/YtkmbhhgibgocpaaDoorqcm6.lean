/- The proof, part 7. -/
import Derived.Test.YtkmbhhgibgocpaaDoorqcm5
import Derived.KernelRfl
set_option maxRecDepth 100000
set_option maxHeartbeats 2000000
set_option linter.unusedVariables false
set_option linter.unusedSimpArgs false
namespace Go.Proofs.YtkmbhhgibgocpaaDoor.Vs
open Go.RowKit
noncomputable section
/-! function 24 -/
noncomputable def r_strconv_Itoa : List PK := [PK.mk Ty.str false none false none]
noncomputable def q_strconv_Itoa : List PK := [PK.mk (Ty.int IntKind.i64) false none false none]
noncomputable def to_strconv_Itoa (r : ByteArray) : Tup r_strconv_Itoa × OutD := ((r, ()), none)
noncomputable def of_strconv_Itoa : Tup r_strconv_Itoa × OutD → Option (ByteArray)
  | (a, none) => some (a.1)
  | _ => none
theorem to_of_strconv_Itoa : ∀ b r, of_strconv_Itoa b = some r → to_strconv_Itoa r = b := by
  rintro ⟨a, o⟩ r h
  cases o with
  | none => injection h with h; subst h; rfl
  | some _ => cases h
noncomputable def f_strconv_Itoa : Nat → Int → Option ByteArray
  | 0, _ => none
  | k + 1, p0 =>
    Option.bind (f_internal_strconv_Itoa k p0) fun z0 => some z0
noncomputable def d_strconv_Itoa : FnDef := .of q_strconv_Itoa r_strconv_Itoa (ByteArray) (fun k x => f_strconv_Itoa k x.1) to_strconv_Itoa of_strconv_Itoa to_of_strconv_Itoa
noncomputable def c_strconv_Itoa : Code := Tryd.f24.body.getD .skip
noncomputable def x_strconv_Itoa : Ctx (Tup r_strconv_Itoa × OutD) := { T := T, G := [(40, d_internal_strconv_Itoa.E)], mvs := [], no := 0, n := 5, res := resOf T q_strconv_Itoa r_strconv_Itoa Tryd.f24.results.toList, loops := [], regs := [], conds := [] }
theorem g_strconv_Itoa (k : Nat) : EnvOK Tryd.prog k x_strconv_Itoa.G := (EnvOK.cons (s_internal_strconv_Itoa k) (EnvOK.nil mixed))
theorem h_strconv_Itoa (k : Nat) (x : Tup d_strconv_Itoa.ps) : d_strconv_Itoa.f (k + 1) x = fnK d_strconv_Itoa x_strconv_Itoa c_strconv_Itoa k x := by kernel_rfl
theorem z_strconv_Itoa (x : Tup d_strconv_Itoa.ps) : d_strconv_Itoa.f 0 x = none := by kernel_rfl
theorem l_strconv_Itoa (k : Nat) : LOK Tryd.prog x_strconv_Itoa k c_strconv_Itoa := LOK.by [] (by kernel_rfl) AllOK.nil
theorem s_strconv_Itoa (k : Nat) : SoundAt Tryd.prog k 24 d_strconv_Itoa.E := @fn_all Tryd.prog d_strconv_Itoa x_strconv_Itoa 24 Tryd.f24 c_strconv_Itoa (by kernel_rfl) (by kernel_rfl) (by kernel_rfl) Tryd.func24 (by kernel_rfl) (by kernel_rfl) (by kernel_rfl) T_ok g_strconv_Itoa l_strconv_Itoa z_strconv_Itoa h_strconv_Itoa k
/-! function 42 -/
noncomputable def r_spec_dgBoard : List PK := [PK.mk Ty.bool false none false none]
noncomputable def q_spec_dgBoard : List PK := [PK.mk (Ty.pair (Ty.int IntKind.i64) (Ty.pair (Ty.int IntKind.i64) (Ty.slice (78 : Nat) (Ty.pair (Ty.int IntKind.i64) (Ty.int IntKind.i64))))) true none false none]
noncomputable def to_spec_dgBoard (r : Bool) : Tup r_spec_dgBoard × OutD := ((r, ()), none)
noncomputable def of_spec_dgBoard : Tup r_spec_dgBoard × OutD → Option (Bool)
  | (a, none) => some (a.1)
  | _ => none
theorem to_of_spec_dgBoard : ∀ b r, of_spec_dgBoard b = some r → to_spec_dgBoard r = b := by
  rintro ⟨a, o⟩ r h
  cases o with
  | none => injection h with h; subst h; rfl
  | some _ => cases h
noncomputable def f_spec_dgBoard : Nat → Int × Int × List (Int × Int) → Option Bool
  | 0, _ => none
  | k + 1, p0 =>
    Option.bind (f_spec_boGood k (Prod.fst p0, Prod.fst (Prod.snd p0), Prod.snd (Prod.snd p0))) fun z0 => if z0 = true then some (decide ((↑(List.length (Prod.snd (Prod.snd p0))) : Int) ≤ (24 : Int))) else some false
noncomputable def d_spec_dgBoard : FnDef := .of q_spec_dgBoard r_spec_dgBoard (Bool) (fun k x => f_spec_dgBoard k x.1) to_spec_dgBoard of_spec_dgBoard to_of_spec_dgBoard
noncomputable def c_spec_dgBoard : Code := Tryd.f42.body.getD .skip
noncomputable def x_spec_dgBoard : Ctx (Tup r_spec_dgBoard × OutD) := { T := T, G := [(53, d_spec_boGood.E)], mvs := [], no := 0, n := 11, res := resOf T q_spec_dgBoard r_spec_dgBoard Tryd.f42.results.toList, loops := [], regs := [], conds := [] }
theorem g_spec_dgBoard (k : Nat) : EnvOK Tryd.prog k x_spec_dgBoard.G := (EnvOK.cons (s_spec_boGood k) (EnvOK.nil mixed))
theorem h_spec_dgBoard (k : Nat) (x : Tup d_spec_dgBoard.ps) : d_spec_dgBoard.f (k + 1) x = fnK d_spec_dgBoard x_spec_dgBoard c_spec_dgBoard k x := by kernel_rfl
theorem z_spec_dgBoard (x : Tup d_spec_dgBoard.ps) : d_spec_dgBoard.f 0 x = none := by kernel_rfl
theorem l_spec_dgBoard (k : Nat) : LOK Tryd.prog x_spec_dgBoard k c_spec_dgBoard := LOK.by [] (by kernel_rfl) AllOK.nil
theorem s_spec_dgBoard (k : Nat) : SoundAt Tryd.prog k 42 d_spec_dgBoard.E := @fn_all Tryd.prog d_spec_dgBoard x_spec_dgBoard 42 Tryd.f42 c_spec_dgBoard (by kernel_rfl) (by kernel_rfl) (by kernel_rfl) Tryd.func42 (by kernel_rfl) (by kernel_rfl) (by kernel_rfl) T_ok g_spec_dgBoard l_spec_dgBoard z_spec_dgBoard h_spec_dgBoard k
/-! function 47 -/
noncomputable def r_impl_validEntries : List PK := [PK.mk Ty.bool false none false none]
noncomputable def q_impl_validEntries : List PK := [PK.mk (Ty.pair (Ty.int IntKind.i64) (Ty.pair (Ty.int IntKind.i64) (Ty.slice (78 : Nat) (Ty.pair (Ty.int IntKind.i64) (Ty.int IntKind.i64))))) true none false none, PK.mk (Ty.slice (3 : Nat) (Ty.int IntKind.i64)) false none false none]
noncomputable def to_impl_validEntries (r : Bool) : Tup r_impl_validEntries × OutD := ((r, ()), none)
noncomputable def of_impl_validEntries : Tup r_impl_validEntries × OutD → Option (Bool)
  | (a, none) => some (a.1)
  | _ => none
theorem to_of_impl_validEntries : ∀ b r, of_impl_validEntries b = some r → to_impl_validEntries r = b := by
  rintro ⟨a, o⟩ r h
  cases o with
  | none => injection h with h; subst h; rfl
  | some _ => cases h
noncomputable def f_impl_validEntries_0 : Nat → Int → Int → List (Int × Int) → List Int → Int → Int → Option (LR Unit Bool)
  | 0, _, _, _, _, _, _ => none
  | k + 1, b1_0, b1_1, b1_2, v15, v16, v17 =>
    if decide (v17 < v16) = true then if (0 : Int) ≤ v17 then if v17 < (↑(List.length v15) : Int) then if decide (List.getD v15 (Int.toNat v17) (0 : Int) < (0 : Int)) = true then some (LR.ret false) else if decide (List.getD v15 (Int.toNat v17) (0 : Int) ≥ b1_1) = true then some (LR.ret false) else f_impl_validEntries_0 k b1_0 b1_1 b1_2 v15 v16 (wrap64 (v17 + (1 : Int))) else none else none else some (LR.go ())
noncomputable def f_impl_validEntries_0i : Spec := Spec.mk [OSh.ro, OSh.box (43 : Nat) [Sh.int IntKind.i64, Sh.int IntKind.i64, Sh.snap (0 : Nat) (Ty.pair (Ty.int IntKind.i64) (Ty.int IntKind.i64))]] [((2 : Nat), TSh.at (Sh.ptr (1 : Nat) (0 : Nat))), ((15 : Nat), TSh.at (Sh.snap (0 : Nat) (Ty.int IntKind.i64))), ((16 : Nat), TSh.at (Sh.int IntKind.i64)), ((17 : Nat), TSh.at (Sh.int IntKind.i64))]
noncomputable def f_impl_validEntries_0o : Spec := Spec.mk [OSh.ro] []
noncomputable def f_impl_validEntries_0D : LoopDef (Tup r_impl_validEntries × OutD) := .rets f_impl_validEntries_0i f_impl_validEntries_0o (Unit) (Bool) (fun k x => f_impl_validEntries_0 k x.1.2.1.1 x.1.2.1.2.1 x.1.2.1.2.2.1 x.2.2.1 x.2.2.2.1 x.2.2.2.2.1) (fun z => (((), ()), (()))) (fun y => ()) (fun _ => rfl) to_impl_validEntries of_impl_validEntries to_of_impl_validEntries
noncomputable def f_impl_validEntries : Nat → Int × Int × List (Int × Int) → List Int → Option Bool
  | 0, _, _ => none
  | k + 1, p0, p1 =>
    Option.bind (f_impl_IsBoard k (Prod.fst p0, Prod.fst (Prod.snd p0), Prod.snd (Prod.snd p0))) fun z0 => if (!z0) = true then some false else if decide ((↑(List.length p1) : Int) > (60 : Int)) = true then some false else Option.bind (f_impl_validEntries_0 k (Prod.fst p0) (Prod.fst (Prod.snd p0)) (Prod.snd (Prod.snd p0)) p1 (↑(List.length p1) : Int) (0 : Int)) fun z1 => LR.on z1 (fun y1 => some true) fun r1 => some r1
noncomputable def d_impl_validEntries : FnDef := .of q_impl_validEntries r_impl_validEntries (Bool) (fun k x => f_impl_validEntries k x.1 x.2.1) to_impl_validEntries of_impl_validEntries to_of_impl_validEntries
noncomputable def c_impl_validEntries : Code := Tryd.f47.body.getD .skip
noncomputable def x_impl_validEntries : Ctx (Tup r_impl_validEntries × OutD) := { T := T, G := [(57, d_impl_IsBoard.E)], mvs := [], no := 0, n := 30, res := resOf T q_impl_validEntries r_impl_validEntries Tryd.f47.results.toList, loops := [(0, f_impl_validEntries_0D.E)], regs := [], conds := [] }
theorem g_impl_validEntries (k : Nat) : EnvOK Tryd.prog k x_impl_validEntries.G := (EnvOK.cons (s_impl_IsBoard k) (EnvOK.nil mixed))
noncomputable def f_impl_validEntries_0B : Code := (findLoop 0 c_impl_validEntries).getD .skip
theorem f_impl_validEntries_0h (k : Nat) (x : f_impl_validEntries_0i.D) : f_impl_validEntries_0D.lp (k + 1) x = loopK x_impl_validEntries f_impl_validEntries_0D 0 f_impl_validEntries_0B k x := by kernel_rfl
theorem f_impl_validEntries_0l (k : Nat) : LOK Tryd.prog x_impl_validEntries k f_impl_validEntries_0B := LOK.by [] (by kernel_rfl) AllOK.nil
theorem f_impl_validEntries_0z (x : f_impl_validEntries_0i.D) : f_impl_validEntries_0D.lp 0 x = none := by kernel_rfl
theorem f_impl_validEntries_0ok (k : Nat) : EOK Tryd.prog x_impl_validEntries k f_impl_validEntries_0D.E (.block 0 (.loop f_impl_validEntries_0B)) := loop_ok T_ok g_impl_validEntries f_impl_validEntries_0z f_impl_validEntries_0h f_impl_validEntries_0l k
theorem h_impl_validEntries (k : Nat) (x : Tup d_impl_validEntries.ps) : d_impl_validEntries.f (k + 1) x = fnK d_impl_validEntries x_impl_validEntries c_impl_validEntries k x := by kernel_rfl
theorem z_impl_validEntries (x : Tup d_impl_validEntries.ps) : d_impl_validEntries.f 0 x = none := by kernel_rfl
theorem l_impl_validEntries (k : Nat) : LOK Tryd.prog x_impl_validEntries k c_impl_validEntries := LOK.by [(f_impl_validEntries_0D.E, .block 0 (.loop f_impl_validEntries_0B))] (by kernel_rfl) (AllOK.cons (f_impl_validEntries_0ok k) AllOK.nil)
theorem s_impl_validEntries (k : Nat) : SoundAt Tryd.prog k 47 d_impl_validEntries.E := @fn_all Tryd.prog d_impl_validEntries x_impl_validEntries 47 Tryd.f47 c_impl_validEntries (by kernel_rfl) (by kernel_rfl) (by kernel_rfl) Tryd.func47 (by kernel_rfl) (by kernel_rfl) (by kernel_rfl) T_ok g_impl_validEntries l_impl_validEntries z_impl_validEntries h_impl_validEntries k
/-! function 48 -/
noncomputable def r_impl_possibleFaults : List PK := [PK.mk (Ty.slice (26 : Nat) (Ty.pair (Ty.int IntKind.i64) (Ty.pair (Ty.int IntKind.i64) (Ty.int IntKind.i64)))) false none false none]
noncomputable def q_impl_possibleFaults : List PK := [PK.mk (Ty.pair (Ty.int IntKind.i64) (Ty.pair (Ty.int IntKind.i64) (Ty.slice (78 : Nat) (Ty.pair (Ty.int IntKind.i64) (Ty.int IntKind.i64))))) true none false none]
noncomputable def to_impl_possibleFaults (r : List (Int × Int × Int)) : Tup r_impl_possibleFaults × OutD := ((r, ()), none)
noncomputable def of_impl_possibleFaults : Tup r_impl_possibleFaults × OutD → Option (List (Int × Int × Int))
  | (a, none) => some (a.1)
  | _ => none
theorem to_of_impl_possibleFaults : ∀ b r, of_impl_possibleFaults b = some r → to_impl_possibleFaults r = b := by
  rintro ⟨a, o⟩ r h
  cases o with
  | none => injection h with h; subst h; rfl
  | some _ => cases h
noncomputable def f_impl_possibleFaults_2 : Nat → Int → Int → List (Int × Int) → List (Int × Int × Int) → Int → Int → Int → Int → List (Int × Int) → Int → Int → Option (Int × Int × List (Int × Int) × List (Int × Int × Int) × List (Int × Int) × Int × Int)
  | 0, _, _, _, _, _, _, _, _, _, _, _ => none
  | k + 1, b1_0, b1_1, b1_2, o2, b3_0, b3_1, v4, v6, v9, v10, v11 =>
    if decide (v6 ≤ (3 : Int)) = true then Option.bind (f_impl_canHave k (b3_0, b3_1) v6) fun z0 => if z0 = true then if b1_1 = (0 : Int) then none else if b1_1 = (0 : Int) then none else if List.length o2 + List.length [(v6, wrap64 (Int.tdiv v4 b1_1), Int.tmod v4 b1_1)] ≤ (140737488355328 / 24 : Nat) then f_impl_possibleFaults_2 k b1_0 b1_1 b1_2 (o2 ++ [(v6, wrap64 (Int.tdiv v4 b1_1), Int.tmod v4 b1_1)]) b3_0 b3_1 v4 (wrap64 (v6 + (1 : Int))) v9 v10 v11 else none else f_impl_possibleFaults_2 k b1_0 b1_1 b1_2 o2 b3_0 b3_1 v4 (wrap64 (v6 + (1 : Int))) v9 v10 v11 else some (b1_0, b1_1, b1_2, o2, v9, v10, v11)
noncomputable def f_impl_possibleFaults_2i : Spec := Spec.mk [OSh.ro, OSh.box (43 : Nat) [Sh.int IntKind.i64, Sh.int IntKind.i64, Sh.snap (0 : Nat) (Ty.pair (Ty.int IntKind.i64) (Ty.int IntKind.i64))], OSh.row true (26 : Nat) (Ty.pair (Ty.int IntKind.i64) (Ty.pair (Ty.int IntKind.i64) (Ty.int IntKind.i64))), OSh.box (78 : Nat) [Sh.int IntKind.i64, Sh.int IntKind.i64]] [((1 : Nat), TSh.at (Sh.ptr (1 : Nat) (0 : Nat))), ((3 : Nat), TSh.at (Sh.sl (2 : Nat))), ((4 : Nat), TSh.at (Sh.int IntKind.i64)), ((5 : Nat), TSh.at (Sh.ptr (3 : Nat) (0 : Nat))), ((6 : Nat), TSh.at (Sh.int IntKind.i64)), ((9 : Nat), TSh.at (Sh.snap (0 : Nat) (Ty.pair (Ty.int IntKind.i64) (Ty.int IntKind.i64)))), ((10 : Nat), TSh.at (Sh.int IntKind.i64)), ((11 : Nat), TSh.at (Sh.int IntKind.i64))]
noncomputable def f_impl_possibleFaults_2o : Spec := Spec.mk [OSh.ro, OSh.box (43 : Nat) [Sh.int IntKind.i64, Sh.int IntKind.i64, Sh.snap (0 : Nat) (Ty.pair (Ty.int IntKind.i64) (Ty.int IntKind.i64))], OSh.row true (26 : Nat) (Ty.pair (Ty.int IntKind.i64) (Ty.pair (Ty.int IntKind.i64) (Ty.int IntKind.i64)))] [((1 : Nat), TSh.at (Sh.ptr (1 : Nat) (0 : Nat))), ((3 : Nat), TSh.at (Sh.sl (2 : Nat))), ((9 : Nat), TSh.at (Sh.snap (0 : Nat) (Ty.pair (Ty.int IntKind.i64) (Ty.int IntKind.i64)))), ((10 : Nat), TSh.at (Sh.int IntKind.i64)), ((11 : Nat), TSh.at (Sh.int IntKind.i64))]
noncomputable def f_impl_possibleFaults_2D : LoopDef (Tup r_impl_possibleFaults × OutD) := .plain f_impl_possibleFaults_2i f_impl_possibleFaults_2o (Int × Int × List (Int × Int) × List (Int × Int × Int) × List (Int × Int) × Int × Int) (fun k x => f_impl_possibleFaults_2 k x.1.2.1.1 x.1.2.1.2.1 x.1.2.1.2.2.1 x.1.2.2.1 x.1.2.2.2.1.1 x.1.2.2.2.1.2.1 x.2.2.2.1 x.2.2.2.2.2.1 x.2.2.2.2.2.2.1 x.2.2.2.2.2.2.2.1 x.2.2.2.2.2.2.2.2.1) (fun z => (((), (z.1, z.2.1, z.2.2.1, ()), z.2.2.2.1, ()), ((), (), z.2.2.2.2.1, z.2.2.2.2.2.1, z.2.2.2.2.2.2, ()))) (fun y => (y.1.2.1.1, y.1.2.1.2.1, y.1.2.1.2.2.1, y.1.2.2.1, y.2.2.2.1, y.2.2.2.2.1, y.2.2.2.2.2.1)) (fun _ => rfl)
noncomputable def f_impl_possibleFaults_0 : Nat → Int → Int → List (Int × Int) → List (Int × Int × Int) → List (Int × Int) → Int → Int → Option (List (Int × Int × Int))
  | 0, _, _, _, _, _, _, _ => none
  | k + 1, b1_0, b1_1, b1_2, o2, v9, v10, v11 =>
    if decide (v11 < v10) = true then if (0 : Int) ≤ v11 then if v11 < (↑(List.length v9) : Int) then Option.bind (f_impl_possibleFaults_2 k b1_0 b1_1 b1_2 o2 (Prod.fst (List.getD v9 (Int.toNat v11) ((0 : Int), (0 : Int)))) (Prod.snd (List.getD v9 (Int.toNat v11) ((0 : Int), (0 : Int)))) v11 (1 : Int) v9 v10 v11) fun z1 => f_impl_possibleFaults_0 k (Prod.fst z1) (Prod.fst (Prod.snd z1)) (Prod.fst (Prod.snd (Prod.snd z1))) (Prod.fst (Prod.snd (Prod.snd (Prod.snd z1)))) (Prod.fst (Prod.snd (Prod.snd (Prod.snd (Prod.snd z1))))) (Prod.fst (Prod.snd (Prod.snd (Prod.snd (Prod.snd (Prod.snd z1)))))) (wrap64 (Prod.snd (Prod.snd (Prod.snd (Prod.snd (Prod.snd (Prod.snd z1))))) + (1 : Int))) else none else none else some o2
noncomputable def f_impl_possibleFaults_0i : Spec := Spec.mk [OSh.ro, OSh.box (43 : Nat) [Sh.int IntKind.i64, Sh.int IntKind.i64, Sh.snap (0 : Nat) (Ty.pair (Ty.int IntKind.i64) (Ty.int IntKind.i64))], OSh.row true (26 : Nat) (Ty.pair (Ty.int IntKind.i64) (Ty.pair (Ty.int IntKind.i64) (Ty.int IntKind.i64)))] [((1 : Nat), TSh.at (Sh.ptr (1 : Nat) (0 : Nat))), ((3 : Nat), TSh.at (Sh.sl (2 : Nat))), ((9 : Nat), TSh.at (Sh.snap (0 : Nat) (Ty.pair (Ty.int IntKind.i64) (Ty.int IntKind.i64)))), ((10 : Nat), TSh.at (Sh.int IntKind.i64)), ((11 : Nat), TSh.at (Sh.int IntKind.i64))]
noncomputable def f_impl_possibleFaults_0o : Spec := Spec.mk [OSh.ro, OSh.row true (26 : Nat) (Ty.pair (Ty.int IntKind.i64) (Ty.pair (Ty.int IntKind.i64) (Ty.int IntKind.i64)))] [((3 : Nat), TSh.at (Sh.sl (1 : Nat)))]
noncomputable def f_impl_possibleFaults_0D : LoopDef (Tup r_impl_possibleFaults × OutD) := .plain f_impl_possibleFaults_0i f_impl_possibleFaults_0o (List (Int × Int × Int)) (fun k x => f_impl_possibleFaults_0 k x.1.2.1.1 x.1.2.1.2.1 x.1.2.1.2.2.1 x.1.2.2.1 x.2.2.2.1 x.2.2.2.2.1 x.2.2.2.2.2.1) (fun z => (((), z, ()), ((), ()))) (fun y => (y.1.2.1)) (fun _ => rfl)
noncomputable def f_impl_possibleFaults : Nat → Int × Int × List (Int × Int) → Option (List (Int × Int × Int))
  | 0, _ => none
  | k + 1, p0 =>
    Option.bind (f_impl_possibleFaults_0 k (Prod.fst p0) (Prod.fst (Prod.snd p0)) (Prod.snd (Prod.snd p0)) [] (Prod.snd (Prod.snd p0)) (↑(List.length (Prod.snd (Prod.snd p0))) : Int) (0 : Int)) fun z2 => some z2
noncomputable def d_impl_possibleFaults : FnDef := .of q_impl_possibleFaults r_impl_possibleFaults (List (Int × Int × Int)) (fun k x => f_impl_possibleFaults k x.1) to_impl_possibleFaults of_impl_possibleFaults to_of_impl_possibleFaults
noncomputable def c_impl_possibleFaults : Code := Tryd.f48.body.getD .skip
noncomputable def x_impl_possibleFaults : Ctx (Tup r_impl_possibleFaults × OutD) := { T := T, G := [(58, d_impl_canHave.E)], mvs := [], no := 0, n := 38, res := resOf T q_impl_possibleFaults r_impl_possibleFaults Tryd.f48.results.toList, loops := [(2, f_impl_possibleFaults_2D.E), (0, f_impl_possibleFaults_0D.E)], regs := [], conds := [] }
theorem g_impl_possibleFaults (k : Nat) : EnvOK Tryd.prog k x_impl_possibleFaults.G := (EnvOK.cons (s_impl_canHave k) (EnvOK.nil mixed))
noncomputable def f_impl_possibleFaults_2B : Code := (findLoop 2 c_impl_possibleFaults).getD .skip
theorem f_impl_possibleFaults_2h (k : Nat) (x : f_impl_possibleFaults_2i.D) : f_impl_possibleFaults_2D.lp (k + 1) x = loopK x_impl_possibleFaults f_impl_possibleFaults_2D 2 f_impl_possibleFaults_2B k x := by kernel_rfl
theorem f_impl_possibleFaults_2l (k : Nat) : LOK Tryd.prog x_impl_possibleFaults k f_impl_possibleFaults_2B := LOK.by [] (by kernel_rfl) AllOK.nil
theorem f_impl_possibleFaults_2z (x : f_impl_possibleFaults_2i.D) : f_impl_possibleFaults_2D.lp 0 x = none := by kernel_rfl
theorem f_impl_possibleFaults_2ok (k : Nat) : EOK Tryd.prog x_impl_possibleFaults k f_impl_possibleFaults_2D.E (.block 2 (.loop f_impl_possibleFaults_2B)) := loop_ok T_ok g_impl_possibleFaults f_impl_possibleFaults_2z f_impl_possibleFaults_2h f_impl_possibleFaults_2l k
noncomputable def f_impl_possibleFaults_0B : Code := (findLoop 0 c_impl_possibleFaults).getD .skip
theorem f_impl_possibleFaults_0h (k : Nat) (x : f_impl_possibleFaults_0i.D) : f_impl_possibleFaults_0D.lp (k + 1) x = loopK x_impl_possibleFaults f_impl_possibleFaults_0D 0 f_impl_possibleFaults_0B k x := by kernel_rfl
theorem f_impl_possibleFaults_0l (k : Nat) : LOK Tryd.prog x_impl_possibleFaults k f_impl_possibleFaults_0B := LOK.by [(f_impl_possibleFaults_2D.E, .block 2 (.loop f_impl_possibleFaults_2B))] (by kernel_rfl) (AllOK.cons (f_impl_possibleFaults_2ok k) AllOK.nil)
theorem f_impl_possibleFaults_0z (x : f_impl_possibleFaults_0i.D) : f_impl_possibleFaults_0D.lp 0 x = none := by kernel_rfl
theorem f_impl_possibleFaults_0ok (k : Nat) : EOK Tryd.prog x_impl_possibleFaults k f_impl_possibleFaults_0D.E (.block 0 (.loop f_impl_possibleFaults_0B)) := loop_ok T_ok g_impl_possibleFaults f_impl_possibleFaults_0z f_impl_possibleFaults_0h f_impl_possibleFaults_0l k
theorem h_impl_possibleFaults (k : Nat) (x : Tup d_impl_possibleFaults.ps) : d_impl_possibleFaults.f (k + 1) x = fnK d_impl_possibleFaults x_impl_possibleFaults c_impl_possibleFaults k x := by kernel_rfl
theorem z_impl_possibleFaults (x : Tup d_impl_possibleFaults.ps) : d_impl_possibleFaults.f 0 x = none := by kernel_rfl
theorem l_impl_possibleFaults (k : Nat) : LOK Tryd.prog x_impl_possibleFaults k c_impl_possibleFaults := LOK.by [(f_impl_possibleFaults_0D.E, .block 0 (.loop f_impl_possibleFaults_0B))] (by kernel_rfl) (AllOK.cons (f_impl_possibleFaults_0ok k) AllOK.nil)
theorem s_impl_possibleFaults (k : Nat) : SoundAt Tryd.prog k 48 d_impl_possibleFaults.E := @fn_all Tryd.prog d_impl_possibleFaults x_impl_possibleFaults 48 Tryd.f48 c_impl_possibleFaults (by kernel_rfl) (by kernel_rfl) (by kernel_rfl) Tryd.func48 (by kernel_rfl) (by kernel_rfl) (by kernel_rfl) T_ok g_impl_possibleFaults l_impl_possibleFaults z_impl_possibleFaults h_impl_possibleFaults k
/-! function 55 -/
noncomputable def r_spec_faAll : List PK := [PK.mk (Ty.slice (67 : Nat) (Ty.pair (Ty.int IntKind.i64) (Ty.pair (Ty.int IntKind.i64) (Ty.int IntKind.i64)))) false none false none, PK.mk (Ty.pair (Ty.int IntKind.i64) (Ty.pair (Ty.int IntKind.i64) (Ty.slice (78 : Nat) (Ty.pair (Ty.int IntKind.i64) (Ty.int IntKind.i64))))) true none false none]
noncomputable def q_spec_faAll : List PK := [PK.mk (Ty.pair (Ty.int IntKind.i64) (Ty.pair (Ty.int IntKind.i64) (Ty.slice (78 : Nat) (Ty.pair (Ty.int IntKind.i64) (Ty.int IntKind.i64))))) true none false none, PK.mk (Ty.slice (26 : Nat) (Ty.pair (Ty.int IntKind.i64) (Ty.pair (Ty.int IntKind.i64) (Ty.int IntKind.i64)))) false none false none, PK.mk (Ty.slice (3 : Nat) (Ty.int IntKind.i64)) false none false none]
noncomputable def to_spec_faAll (r : List (Int × Int × Int) × Int × Int × List (Int × Int)) : Tup r_spec_faAll × OutD := ((r.1, r.2, ()), none)
noncomputable def of_spec_faAll : Tup r_spec_faAll × OutD → Option (List (Int × Int × Int) × Int × Int × List (Int × Int))
  | (a, none) => some (a.1, a.2.1)
  | _ => none
theorem to_of_spec_faAll : ∀ b r, of_spec_faAll b = some r → to_spec_faAll r = b := by
  rintro ⟨a, o⟩ r h
  cases o with
  | none => injection h with h; subst h; rfl
  | some _ => cases h
noncomputable def f_spec_faAll_g1 : Nat → Int → Int → List (Int × Int) → Int → Int → List (Int × Int) → List (Int × Int × Int) → List Int → Option (Int × Int × List (Int × Int) × Int × Int × List (Int × Int) × List Int × List (Int × Int × Int) × List Int) := fun k b1_0 b1_1 b1_2 b2_0 b2_1 o3 v1 v2 =>
    Option.bind (f_spec_boOwn k (b1_0, b1_1, b1_2)) fun z0 => Option.bind (f_spec_ggGroups k (b1_0, b1_1, b1_2)) fun z1 => some (b2_0, b2_1, o3, Prod.fst z0, Prod.fst (Prod.snd z0), Prod.snd (Prod.snd z0), z1, v1, v2)
noncomputable def f_spec_faAll_g1A : Nat → Int → Int → List (Int × Int) → Int → Int → List (Int × Int) → List (Int × Int × Int) → List Int → Option (List (Int × Int × List (Int × Int) × Int × Int × List (Int × Int) × List Int × List (Int × Int × Int) × List Int)) := fun k b1_0 b1_1 b1_2 b2_0 b2_1 o3 v1 v2 =>
    joinL (Option.bind (f_spec_boOwn k (b1_0, b1_1, b1_2)) fun z2 => joinL (Option.bind (f_spec_ggGroups k (b1_0, b1_1, b1_2)) fun z3 => some [(b2_0, b2_1, o3, Prod.fst z2, Prod.fst (Prod.snd z2), Prod.snd (Prod.snd z2), z3, v1, v2)]) (Option.bind (f_spec_ggGroups k (b1_0, b1_1, b1_2)) fun z4 => some [(b2_0, b2_1, o3, Prod.fst z2, Prod.fst (Prod.snd z2), Prod.snd (Prod.snd z2), z4, v1, v2)])) (Option.bind (f_spec_boOwn k (b1_0, b1_1, b1_2)) fun z5 => Option.bind (f_spec_ggGroups k (b1_0, b1_1, b1_2)) fun z6 => some [(b2_0, b2_1, o3, Prod.fst z5, Prod.fst (Prod.snd z5), Prod.snd (Prod.snd z5), z6, v1, v2)])
noncomputable def f_spec_faAll_g1i : Spec := Spec.mk [OSh.ro, OSh.box (43 : Nat) [Sh.int IntKind.i64, Sh.int IntKind.i64, Sh.snap (0 : Nat) (Ty.pair (Ty.int IntKind.i64) (Ty.int IntKind.i64))], OSh.box (43 : Nat) [Sh.int IntKind.i64, Sh.int IntKind.i64, Sh.sl (3 : Nat)], OSh.row true (78 : Nat) (Ty.pair (Ty.int IntKind.i64) (Ty.int IntKind.i64))] [((1 : Nat), TSh.at (Sh.snap (0 : Nat) (Ty.pair (Ty.int IntKind.i64) (Ty.pair (Ty.int IntKind.i64) (Ty.int IntKind.i64))))), ((2 : Nat), TSh.at (Sh.snap (0 : Nat) (Ty.int IntKind.i64))), ((3 : Nat), TSh.at (Sh.ptr (1 : Nat) (0 : Nat))), ((7 : Nat), TSh.at (Sh.ptr (2 : Nat) (0 : Nat)))]
noncomputable def f_spec_faAll_g1o : Spec := Spec.mk [OSh.ro, OSh.box (43 : Nat) [Sh.int IntKind.i64, Sh.int IntKind.i64, Sh.sl (2 : Nat)], OSh.row true (78 : Nat) (Ty.pair (Ty.int IntKind.i64) (Ty.int IntKind.i64)), OSh.box (43 : Nat) [Sh.int IntKind.i64, Sh.int IntKind.i64, Sh.sl (4 : Nat)], OSh.row true (78 : Nat) (Ty.pair (Ty.int IntKind.i64) (Ty.int IntKind.i64)), OSh.row true (3 : Nat) (Ty.int IntKind.i64)] [((1 : Nat), TSh.at (Sh.snap (0 : Nat) (Ty.pair (Ty.int IntKind.i64) (Ty.pair (Ty.int IntKind.i64) (Ty.int IntKind.i64))))), ((2 : Nat), TSh.at (Sh.snap (0 : Nat) (Ty.int IntKind.i64))), ((7 : Nat), TSh.at (Sh.ptr (1 : Nat) (0 : Nat))), ((8 : Nat), TSh.at (Sh.ptr (3 : Nat) (0 : Nat))), ((9 : Nat), TSh.at (Sh.sl (5 : Nat)))]
noncomputable def f_spec_faAll_g1D : LoopDef (Tup r_spec_faAll × OutD) := .plain f_spec_faAll_g1i f_spec_faAll_g1o (Int × Int × List (Int × Int) × Int × Int × List (Int × Int) × List Int × List (Int × Int × Int) × List Int) (fun k x => f_spec_faAll_g1 k x.1.2.1.1 x.1.2.1.2.1 x.1.2.1.2.2.1 x.1.2.2.1.1 x.1.2.2.1.2.1 x.1.2.2.2.1 x.2.1 x.2.2.1) (fun z => (((), (z.1, z.2.1, (), ()), z.2.2.1, (z.2.2.2.1, z.2.2.2.2.1, (), ()), z.2.2.2.2.2.1, z.2.2.2.2.2.2.1, ()), (z.2.2.2.2.2.2.2.1, z.2.2.2.2.2.2.2.2, (), (), (), ()))) (fun y => (y.1.2.1.1, y.1.2.1.2.1, y.1.2.2.1, y.1.2.2.2.1.1, y.1.2.2.2.1.2.1, y.1.2.2.2.2.1, y.1.2.2.2.2.2.1, y.2.1, y.2.2.1)) (fun _ => rfl)
theorem f_spec_faAll_g1j (k : Nat) (b1_0 : Int) (b1_1 : Int) (b1_2 : List (Int × Int)) (b2_0 : Int) (b2_1 : Int) (o3 : List (Int × Int)) (v1 : List (Int × Int × Int)) (v2 : List Int) : f_spec_faAll_g1A k b1_0 b1_1 b1_2 b2_0 b2_1 o3 v1 v2 = repl 3 (f_spec_faAll_g1 k b1_0 b1_1 b1_2 b2_0 b2_1 o3 v1 v2) := by
  first
  | (simp only [f_spec_faAll_g1A, f_spec_faAll_g1, repl_some, repl_ite, repl_ite0, repl_ite1, repl_bind, joinL_repl, if_true]; done)
  | (simp only [f_spec_faAll_g1A, f_spec_faAll_g1, repl_some, repl_ite, repl_ite0, repl_ite1, repl_bind, joinL_repl, if_true]; simp only [joinL_grdl, joinL_grdr, repl_grd, joinL_repl]; simp only [grd_and]; exact grd_congr ⟨fun h => by simp only [h, and_self], fun h => by simp only [h, and_self]⟩)
noncomputable def f_spec_faAll_0 : Nat → Int → Int → List (Int × Int) → Int → Int → List (Int × Int) → List Int → List (Int × Int × Int) → List (Int × Int × Int) → List Int → Int → Int → Option (Int × Int × List (Int × Int) × Int × Int × List (Int × Int) × List (Int × Int × Int))
  | 0, _, _, _, _, _, _, _, _, _, _, _, _ => none
  | k + 1, b1_0, b1_1, o2, b3_0, b3_1, o4, o5, o6, v1, v19, v20, v21 =>
    if decide (v21 < v20) = true then if (0 : Int) ≤ v21 then if v21 < (↑(List.length v19) : Int) then Option.bind (f_spec_faGo k (b3_0, b3_1, o4) o5 v1 (List.getD v19 (Int.toNat v21) (0 : Int))) fun z8 => if List.length o6 + List.length [(Prod.fst (Prod.fst z8), Prod.fst (Prod.snd (Prod.fst z8)), Prod.snd (Prod.snd (Prod.fst z8)))] ≤ (140737488355328 / 24 : Nat) then f_spec_faAll_0 k b1_0 b1_1 o2 (Prod.fst (Prod.snd z8)) (Prod.fst (Prod.snd (Prod.snd z8))) (Prod.snd (Prod.snd (Prod.snd z8))) o5 (o6 ++ [(Prod.fst (Prod.fst z8), Prod.fst (Prod.snd (Prod.fst z8)), Prod.snd (Prod.snd (Prod.fst z8)))]) v1 v19 v20 (wrap64 (v21 + (1 : Int))) else none else none else none else some (b1_0, b1_1, o2, b3_0, b3_1, o4, o6)
noncomputable def f_spec_faAll_0i : Spec := Spec.mk [OSh.ro, OSh.box (43 : Nat) [Sh.int IntKind.i64, Sh.int IntKind.i64, Sh.sl (2 : Nat)], OSh.row true (78 : Nat) (Ty.pair (Ty.int IntKind.i64) (Ty.int IntKind.i64)), OSh.box (43 : Nat) [Sh.int IntKind.i64, Sh.int IntKind.i64, Sh.sl (4 : Nat)], OSh.row true (78 : Nat) (Ty.pair (Ty.int IntKind.i64) (Ty.int IntKind.i64)), OSh.row true (3 : Nat) (Ty.int IntKind.i64), OSh.row true (67 : Nat) (Ty.pair (Ty.int IntKind.i64) (Ty.pair (Ty.int IntKind.i64) (Ty.int IntKind.i64)))] [((1 : Nat), TSh.at (Sh.snap (0 : Nat) (Ty.pair (Ty.int IntKind.i64) (Ty.pair (Ty.int IntKind.i64) (Ty.int IntKind.i64))))), ((7 : Nat), TSh.at (Sh.ptr (1 : Nat) (0 : Nat))), ((8 : Nat), TSh.at (Sh.ptr (3 : Nat) (0 : Nat))), ((9 : Nat), TSh.at (Sh.sl (5 : Nat))), ((10 : Nat), TSh.at (Sh.sl (6 : Nat))), ((19 : Nat), TSh.at (Sh.snap (0 : Nat) (Ty.int IntKind.i64))), ((20 : Nat), TSh.at (Sh.int IntKind.i64)), ((21 : Nat), TSh.at (Sh.int IntKind.i64))]
noncomputable def f_spec_faAll_0o : Spec := Spec.mk [OSh.ro, OSh.box (43 : Nat) [Sh.int IntKind.i64, Sh.int IntKind.i64, Sh.sl (2 : Nat)], OSh.row true (78 : Nat) (Ty.pair (Ty.int IntKind.i64) (Ty.int IntKind.i64)), OSh.box (43 : Nat) [Sh.int IntKind.i64, Sh.int IntKind.i64, Sh.sl (4 : Nat)], OSh.row true (78 : Nat) (Ty.pair (Ty.int IntKind.i64) (Ty.int IntKind.i64)), OSh.row true (67 : Nat) (Ty.pair (Ty.int IntKind.i64) (Ty.pair (Ty.int IntKind.i64) (Ty.int IntKind.i64)))] [((7 : Nat), TSh.at (Sh.ptr (1 : Nat) (0 : Nat))), ((8 : Nat), TSh.at (Sh.ptr (3 : Nat) (0 : Nat))), ((10 : Nat), TSh.at (Sh.sl (5 : Nat)))]
noncomputable def f_spec_faAll_0D : LoopDef (Tup r_spec_faAll × OutD) := .plain f_spec_faAll_0i f_spec_faAll_0o (Int × Int × List (Int × Int) × Int × Int × List (Int × Int) × List (Int × Int × Int)) (fun k x => f_spec_faAll_0 k x.1.2.1.1 x.1.2.1.2.1 x.1.2.2.1 x.1.2.2.2.1.1 x.1.2.2.2.1.2.1 x.1.2.2.2.2.1 x.1.2.2.2.2.2.1 x.1.2.2.2.2.2.2.1 x.2.1 x.2.2.2.2.2.2.1 x.2.2.2.2.2.2.2.1 x.2.2.2.2.2.2.2.2.1) (fun z => (((), (z.1, z.2.1, (), ()), z.2.2.1, (z.2.2.2.1, z.2.2.2.2.1, (), ()), z.2.2.2.2.2.1, z.2.2.2.2.2.2, ()), ((), (), (), ()))) (fun y => (y.1.2.1.1, y.1.2.1.2.1, y.1.2.2.1, y.1.2.2.2.1.1, y.1.2.2.2.1.2.1, y.1.2.2.2.2.1, y.1.2.2.2.2.2.1)) (fun _ => rfl)
noncomputable def f_spec_faAll : Nat → Int × Int × List (Int × Int) → List (Int × Int × Int) → List Int → Option (List (Int × Int × Int) × Int × Int × List (Int × Int))
  | 0, _, _, _ => none
  | k + 1, p0, p1, p2 =>
    Option.bind (f_spec_faAll_g1 k (Prod.fst p0) (Prod.fst (Prod.snd p0)) (Prod.snd (Prod.snd p0)) (0 : Int) (0 : Int) [] p1 p2) fun z7 => Option.bind (f_spec_faAll_0 k (Prod.fst z7) (Prod.fst (Prod.snd z7)) (Prod.fst (Prod.snd (Prod.snd z7))) (Prod.fst (Prod.snd (Prod.snd (Prod.snd z7)))) (Prod.fst (Prod.snd (Prod.snd (Prod.snd (Prod.snd z7))))) (Prod.fst (Prod.snd (Prod.snd (Prod.snd (Prod.snd (Prod.snd z7)))))) (Prod.fst (Prod.snd (Prod.snd (Prod.snd (Prod.snd (Prod.snd (Prod.snd z7))))))) [] (Prod.fst (Prod.snd (Prod.snd (Prod.snd (Prod.snd (Prod.snd (Prod.snd (Prod.snd z7)))))))) (Prod.snd (Prod.snd (Prod.snd (Prod.snd (Prod.snd (Prod.snd (Prod.snd (Prod.snd z7)))))))) (↑(List.length (Prod.snd (Prod.snd (Prod.snd (Prod.snd (Prod.snd (Prod.snd (Prod.snd (Prod.snd z7))))))))) : Int) (0 : Int)) fun z9 => some (Prod.snd (Prod.snd (Prod.snd (Prod.snd (Prod.snd (Prod.snd z9))))), Prod.fst (Prod.snd (Prod.snd (Prod.snd z9))), Prod.fst (Prod.snd (Prod.snd (Prod.snd (Prod.snd z9)))), Prod.fst (Prod.snd (Prod.snd (Prod.snd (Prod.snd (Prod.snd z9))))))
noncomputable def d_spec_faAll : FnDef := .of q_spec_faAll r_spec_faAll (List (Int × Int × Int) × Int × Int × List (Int × Int)) (fun k x => f_spec_faAll k x.1 x.2.1 x.2.2.1) to_spec_faAll of_spec_faAll to_of_spec_faAll
noncomputable def c_spec_faAll : Code := Tryd.f55.body.getD .skip
noncomputable def x_spec_faAll : Ctx (Tup r_spec_faAll × OutD) := { T := T, G := [(67, d_spec_boOwn.E), (68, d_spec_ggGroups.E), (69, d_spec_faGo.E)], mvs := [], no := 0, n := 41, res := resOf T q_spec_faAll r_spec_faAll Tryd.f55.results.toList, loops := [(0, f_spec_faAll_0D.E)], regs := [(1, f_spec_faAll_g1D.E)], conds := [] }
theorem g_spec_faAll (k : Nat) : EnvOK Tryd.prog k x_spec_faAll.G := (EnvOK.cons (s_spec_boOwn k) (EnvOK.cons (s_spec_ggGroups k) (EnvOK.cons (s_spec_faGo k) (EnvOK.nil mixed))))
noncomputable def f_spec_faAll_g1O : Array Oper := (findReg 1 c_spec_faAll).getD #[]
theorem f_spec_faAll_g1e (k : Nat) (x : f_spec_faAll_g1i.D) : execD x_spec_faAll.T x_spec_faAll.G x_spec_faAll.mvs k f_spec_faAll_g1O (f_spec_faAll_g1D.inp.st x_spec_faAll.n x) (outK x_spec_faAll f_spec_faAll_g1D) = f_spec_faAll_g1A k x.1.2.1.1 x.1.2.1.2.1 x.1.2.1.2.2.1 x.1.2.2.1.1 x.1.2.2.1.2.1 x.1.2.2.2.1 x.2.1 x.2.2.1 := by kernel_rfl
theorem f_spec_faAll_g1ok (k : Nat) : EOK Tryd.prog x_spec_faAll k f_spec_faAll_g1D.E (.region 1 f_spec_faAll_g1O true) := reg_ok (D := f_spec_faAll_g1D) (m := 3) T_ok (g_spec_faAll k) (fun x => (f_spec_faAll_g1e k x).trans (f_spec_faAll_g1j k x.1.2.1.1 x.1.2.1.2.1 x.1.2.1.2.2.1 x.1.2.2.1.1 x.1.2.2.1.2.1 x.1.2.2.2.1 x.2.1 x.2.2.1))
noncomputable def f_spec_faAll_0B : Code := (findLoop 0 c_spec_faAll).getD .skip
theorem f_spec_faAll_0h (k : Nat) (x : f_spec_faAll_0i.D) : f_spec_faAll_0D.lp (k + 1) x = loopK x_spec_faAll f_spec_faAll_0D 0 f_spec_faAll_0B k x := by kernel_rfl
theorem f_spec_faAll_0l (k : Nat) : LOK Tryd.prog x_spec_faAll k f_spec_faAll_0B := LOK.by [] (by kernel_rfl) AllOK.nil
theorem f_spec_faAll_0z (x : f_spec_faAll_0i.D) : f_spec_faAll_0D.lp 0 x = none := by kernel_rfl
theorem f_spec_faAll_0ok (k : Nat) : EOK Tryd.prog x_spec_faAll k f_spec_faAll_0D.E (.block 0 (.loop f_spec_faAll_0B)) := loop_ok T_ok g_spec_faAll f_spec_faAll_0z f_spec_faAll_0h f_spec_faAll_0l k
theorem h_spec_faAll (k : Nat) (x : Tup d_spec_faAll.ps) : d_spec_faAll.f (k + 1) x = fnK d_spec_faAll x_spec_faAll c_spec_faAll k x := by kernel_rfl
theorem z_spec_faAll (x : Tup d_spec_faAll.ps) : d_spec_faAll.f 0 x = none := by kernel_rfl
theorem l_spec_faAll (k : Nat) : LOK Tryd.prog x_spec_faAll k c_spec_faAll := LOK.by [(f_spec_faAll_g1D.E, .region 1 f_spec_faAll_g1O true), (f_spec_faAll_0D.E, .block 0 (.loop f_spec_faAll_0B))] (by kernel_rfl) (AllOK.cons (f_spec_faAll_g1ok k) (AllOK.cons (f_spec_faAll_0ok k) AllOK.nil))
theorem s_spec_faAll (k : Nat) : SoundAt Tryd.prog k 55 d_spec_faAll.E := @fn_all Tryd.prog d_spec_faAll x_spec_faAll 55 Tryd.f55 c_spec_faAll (by kernel_rfl) (by kernel_rfl) (by kernel_rfl) Tryd.func55 (by kernel_rfl) (by kernel_rfl) (by kernel_rfl) T_ok g_spec_faAll l_spec_faAll z_spec_faAll h_spec_faAll k
/-! function 59 -/
noncomputable def r_impl_faultyDrops : List PK := [PK.mk (Ty.slice (67 : Nat) (Ty.pair (Ty.int IntKind.i64) (Ty.pair (Ty.int IntKind.i64) (Ty.int IntKind.i64)))) false none false none, PK.mk (Ty.pair (Ty.int IntKind.i64) (Ty.pair (Ty.int IntKind.i64) (Ty.slice (78 : Nat) (Ty.pair (Ty.int IntKind.i64) (Ty.int IntKind.i64))))) true none false none]
noncomputable def q_impl_faultyDrops : List PK := [PK.mk (Ty.pair (Ty.int IntKind.i64) (Ty.pair (Ty.int IntKind.i64) (Ty.slice (78 : Nat) (Ty.pair (Ty.int IntKind.i64) (Ty.int IntKind.i64))))) true none false none, PK.mk (Ty.slice (26 : Nat) (Ty.pair (Ty.int IntKind.i64) (Ty.pair (Ty.int IntKind.i64) (Ty.int IntKind.i64)))) false none false none, PK.mk (Ty.slice (3 : Nat) (Ty.int IntKind.i64)) false none false none]
noncomputable def to_impl_faultyDrops (r : List (Int × Int × Int) × Int × Int × List (Int × Int)) : Tup r_impl_faultyDrops × OutD := ((r.1, r.2, ()), none)
noncomputable def of_impl_faultyDrops : Tup r_impl_faultyDrops × OutD → Option (List (Int × Int × Int) × Int × Int × List (Int × Int))
  | (a, none) => some (a.1, a.2.1)
  | _ => none
theorem to_of_impl_faultyDrops : ∀ b r, of_impl_faultyDrops b = some r → to_impl_faultyDrops r = b := by
  rintro ⟨a, o⟩ r h
  cases o with
  | none => injection h with h; subst h; rfl
  | some _ => cases h
noncomputable def f_impl_faultyDrops_0 : Nat → Int → Int → List (Int × Int) → Int → Int → List (Int × Int) → List Int → List Int → List (Int × Int × Int) → List Int → Int → Int → Option (Int × Int × List (Int × Int) × Int × Int × List (Int × Int) × List (Int × Int × Int))
  | 0, _, _, _, _, _, _, _, _, _, _, _, _ => none
  | k + 1, b1_0, b1_1, o2, b3_0, b3_1, o4, o5, o6, o7, v22, v23, v24 =>
    if decide (v24 < v23) = true then if (0 : Int) ≤ v24 then if v24 < (↑(List.length v22) : Int) then Option.bind (f_impl_faultyDrop k (b3_0, b3_1, o4) o5 o6 (List.getD v22 (Int.toNat v24) (0 : Int))) fun z3 => if List.length o7 + List.length [(Prod.fst (Prod.fst z3), Prod.fst (Prod.snd (Prod.fst z3)), Prod.snd (Prod.snd (Prod.fst z3)))] ≤ (140737488355328 / 24 : Nat) then f_impl_faultyDrops_0 k b1_0 b1_1 o2 b3_0 b3_1 (Prod.snd z3) o5 o6 (o7 ++ [(Prod.fst (Prod.fst z3), Prod.fst (Prod.snd (Prod.fst z3)), Prod.snd (Prod.snd (Prod.fst z3)))]) v22 v23 (wrap64 (v24 + (1 : Int))) else none else none else none else some (b1_0, b1_1, o2, b3_0, b3_1, o4, o7)
noncomputable def f_impl_faultyDrops_0i : Spec := Spec.mk [OSh.ro, OSh.box (43 : Nat) [Sh.int IntKind.i64, Sh.int IntKind.i64, Sh.sl (2 : Nat)], OSh.row true (78 : Nat) (Ty.pair (Ty.int IntKind.i64) (Ty.int IntKind.i64)), OSh.box (43 : Nat) [Sh.int IntKind.i64, Sh.int IntKind.i64, Sh.sl (4 : Nat)], OSh.row true (78 : Nat) (Ty.pair (Ty.int IntKind.i64) (Ty.int IntKind.i64)), OSh.row true (3 : Nat) (Ty.int IntKind.i64), OSh.row true (3 : Nat) (Ty.int IntKind.i64), OSh.row true (67 : Nat) (Ty.pair (Ty.int IntKind.i64) (Ty.pair (Ty.int IntKind.i64) (Ty.int IntKind.i64)))] [((7 : Nat), TSh.at (Sh.ptr (1 : Nat) (0 : Nat))), ((8 : Nat), TSh.at (Sh.ptr (3 : Nat) (0 : Nat))), ((9 : Nat), TSh.at (Sh.sl (5 : Nat))), ((10 : Nat), TSh.at (Sh.sl (6 : Nat))), ((11 : Nat), TSh.at (Sh.sl (7 : Nat))), ((22 : Nat), TSh.at (Sh.snap (0 : Nat) (Ty.int IntKind.i64))), ((23 : Nat), TSh.at (Sh.int IntKind.i64)), ((24 : Nat), TSh.at (Sh.int IntKind.i64))]
noncomputable def f_impl_faultyDrops_0o : Spec := Spec.mk [OSh.ro, OSh.box (43 : Nat) [Sh.int IntKind.i64, Sh.int IntKind.i64, Sh.sl (2 : Nat)], OSh.row true (78 : Nat) (Ty.pair (Ty.int IntKind.i64) (Ty.int IntKind.i64)), OSh.box (43 : Nat) [Sh.int IntKind.i64, Sh.int IntKind.i64, Sh.sl (4 : Nat)], OSh.row true (78 : Nat) (Ty.pair (Ty.int IntKind.i64) (Ty.int IntKind.i64)), OSh.row true (67 : Nat) (Ty.pair (Ty.int IntKind.i64) (Ty.pair (Ty.int IntKind.i64) (Ty.int IntKind.i64)))] [((7 : Nat), TSh.at (Sh.ptr (1 : Nat) (0 : Nat))), ((8 : Nat), TSh.at (Sh.ptr (3 : Nat) (0 : Nat))), ((11 : Nat), TSh.at (Sh.sl (5 : Nat)))]
noncomputable def f_impl_faultyDrops_0D : LoopDef (Tup r_impl_faultyDrops × OutD) := .plain f_impl_faultyDrops_0i f_impl_faultyDrops_0o (Int × Int × List (Int × Int) × Int × Int × List (Int × Int) × List (Int × Int × Int)) (fun k x => f_impl_faultyDrops_0 k x.1.2.1.1 x.1.2.1.2.1 x.1.2.2.1 x.1.2.2.2.1.1 x.1.2.2.2.1.2.1 x.1.2.2.2.2.1 x.1.2.2.2.2.2.1 x.1.2.2.2.2.2.2.1 x.1.2.2.2.2.2.2.2.1 x.2.2.2.2.2.2.1 x.2.2.2.2.2.2.2.1 x.2.2.2.2.2.2.2.2.1) (fun z => (((), (z.1, z.2.1, (), ()), z.2.2.1, (z.2.2.2.1, z.2.2.2.2.1, (), ()), z.2.2.2.2.2.1, z.2.2.2.2.2.2, ()), ((), (), (), ()))) (fun y => (y.1.2.1.1, y.1.2.1.2.1, y.1.2.2.1, y.1.2.2.2.1.1, y.1.2.2.2.1.2.1, y.1.2.2.2.2.1, y.1.2.2.2.2.2.1)) (fun _ => rfl)
noncomputable def f_impl_faultyDrops : Nat → Int × Int × List (Int × Int) → List (Int × Int × Int) → List Int → Option (List (Int × Int × Int) × Int × Int × List (Int × Int))
  | 0, _, _, _ => none
  | k + 1, p0, p1, p2 =>
    Option.bind (f_impl_copyBoard k (Prod.fst p0, Prod.fst (Prod.snd p0), Prod.snd (Prod.snd p0))) fun z0 => Option.bind (f_impl_groupNumbers k (Prod.fst p0, Prod.fst (Prod.snd p0), Prod.snd (Prod.snd p0))) fun z1 => Option.bind (f_impl_faultsByCell k (Prod.fst p0, Prod.fst (Prod.snd p0), Prod.snd (Prod.snd p0)) p1) fun z2 => Option.bind (f_impl_faultyDrops_0 k (0 : Int) (0 : Int) [] (Prod.fst z0) (Prod.fst (Prod.snd z0)) (Prod.snd (Prod.snd z0)) z1 z2 [] p2 (↑(List.length p2) : Int) (0 : Int)) fun z4 => some (Prod.snd (Prod.snd (Prod.snd (Prod.snd (Prod.snd (Prod.snd z4))))), Prod.fst (Prod.snd (Prod.snd (Prod.snd z4))), Prod.fst (Prod.snd (Prod.snd (Prod.snd (Prod.snd z4)))), Prod.fst (Prod.snd (Prod.snd (Prod.snd (Prod.snd (Prod.snd z4))))))
noncomputable def d_impl_faultyDrops : FnDef := .of q_impl_faultyDrops r_impl_faultyDrops (List (Int × Int × Int) × Int × Int × List (Int × Int)) (fun k x => f_impl_faultyDrops k x.1 x.2.1 x.2.2.1) to_impl_faultyDrops of_impl_faultyDrops to_of_impl_faultyDrops
noncomputable def c_impl_faultyDrops : Code := Tryd.f59.body.getD .skip
noncomputable def x_impl_faultyDrops : Ctx (Tup r_impl_faultyDrops × OutD) := { T := T, G := [(72, d_impl_copyBoard.E), (73, d_impl_groupNumbers.E), (74, d_impl_faultsByCell.E), (75, d_impl_faultyDrop.E)], mvs := [], no := 0, n := 39, res := resOf T q_impl_faultyDrops r_impl_faultyDrops Tryd.f59.results.toList, loops := [(0, f_impl_faultyDrops_0D.E)], regs := [], conds := [] }
theorem g_impl_faultyDrops (k : Nat) : EnvOK Tryd.prog k x_impl_faultyDrops.G := (EnvOK.cons (s_impl_copyBoard k) (EnvOK.cons (s_impl_groupNumbers k) (EnvOK.cons (s_impl_faultsByCell k) (EnvOK.cons (s_impl_faultyDrop k) (EnvOK.nil mixed)))))
noncomputable def f_impl_faultyDrops_0B : Code := (findLoop 0 c_impl_faultyDrops).getD .skip
theorem f_impl_faultyDrops_0h (k : Nat) (x : f_impl_faultyDrops_0i.D) : f_impl_faultyDrops_0D.lp (k + 1) x = loopK x_impl_faultyDrops f_impl_faultyDrops_0D 0 f_impl_faultyDrops_0B k x := by kernel_rfl
theorem f_impl_faultyDrops_0l (k : Nat) : LOK Tryd.prog x_impl_faultyDrops k f_impl_faultyDrops_0B := LOK.by [] (by kernel_rfl) AllOK.nil
theorem f_impl_faultyDrops_0z (x : f_impl_faultyDrops_0i.D) : f_impl_faultyDrops_0D.lp 0 x = none := by kernel_rfl
theorem f_impl_faultyDrops_0ok (k : Nat) : EOK Tryd.prog x_impl_faultyDrops k f_impl_faultyDrops_0D.E (.block 0 (.loop f_impl_faultyDrops_0B)) := loop_ok T_ok g_impl_faultyDrops f_impl_faultyDrops_0z f_impl_faultyDrops_0h f_impl_faultyDrops_0l k
theorem h_impl_faultyDrops (k : Nat) (x : Tup d_impl_faultyDrops.ps) : d_impl_faultyDrops.f (k + 1) x = fnK d_impl_faultyDrops x_impl_faultyDrops c_impl_faultyDrops k x := by kernel_rfl
theorem z_impl_faultyDrops (x : Tup d_impl_faultyDrops.ps) : d_impl_faultyDrops.f 0 x = none := by kernel_rfl
theorem l_impl_faultyDrops (k : Nat) : LOK Tryd.prog x_impl_faultyDrops k c_impl_faultyDrops := LOK.by [(f_impl_faultyDrops_0D.E, .block 0 (.loop f_impl_faultyDrops_0B))] (by kernel_rfl) (AllOK.cons (f_impl_faultyDrops_0ok k) AllOK.nil)
theorem s_impl_faultyDrops (k : Nat) : SoundAt Tryd.prog k 59 d_impl_faultyDrops.E := @fn_all Tryd.prog d_impl_faultyDrops x_impl_faultyDrops 59 Tryd.f59 c_impl_faultyDrops (by kernel_rfl) (by kernel_rfl) (by kernel_rfl) Tryd.func59 (by kernel_rfl) (by kernel_rfl) (by kernel_rfl) T_ok g_impl_faultyDrops l_impl_faultyDrops z_impl_faultyDrops h_impl_faultyDrops k
end
end Go.Proofs.YtkmbhhgibgocpaaDoor.Vs

set_option maxRecDepth 100000
set_option maxHeartbeats 2000000
set_option linter.unusedVariables false
set_option linter.unusedSimpArgs false
namespace Go.Proofs.YtkmbhhgibgocpaaDoor.Vs
open Go.RowKit
noncomputable section
/-! function 8 -/
noncomputable def r_impl_FaultName : List PK := [PK.mk Ty.str false none false none, PK.mk Ty.bool false none false none]
noncomputable def q_impl_FaultName : List PK := [PK.mk (Ty.pair (Ty.int IntKind.i64) (Ty.pair (Ty.int IntKind.i64) (Ty.int IntKind.i64))) true none false none]
noncomputable def to_impl_FaultName (r : ByteArray × Bool) : Tup r_impl_FaultName × OutD := ((r.1, r.2, ()), none)
noncomputable def of_impl_FaultName : Tup r_impl_FaultName × OutD → Option (ByteArray × Bool)
  | (a, none) => some (a.1, a.2.1)
  | _ => none
theorem to_of_impl_FaultName : ∀ b r, of_impl_FaultName b = some r → to_impl_FaultName r = b := by
  rintro ⟨a, o⟩ r h
  cases o with
  | none => injection h with h; subst h; rfl
  | some _ => cases h
noncomputable def f_impl_FaultName : Nat → Int × Int × Int → Option (ByteArray × Bool)
  | 0, _ => none
  | k + 1, p0 =>
    if decide (Prod.fst p0 < (1 : Int)) = true then some (ByteArray.mk #[], false) else if decide (Prod.fst p0 > (3 : Int)) = true then some (ByteArray.mk #[], false) else if decide (Prod.fst (Prod.snd p0) < (0 : Int)) = true then some (ByteArray.mk #[], false) else if decide (Prod.fst (Prod.snd p0) > (9 : Int)) = true then some (ByteArray.mk #[], false) else if decide (Prod.snd (Prod.snd p0) < (0 : Int)) = true then some (ByteArray.mk #[], false) else if decide (Prod.snd (Prod.snd p0) > (9 : Int)) = true then some (ByteArray.mk #[], false) else if (0 : Int) ≤ wrap64 (Prod.fst p0 - (1 : Int)) then if wrap64 (Prod.fst p0 - (1 : Int)) < (↑(3 : Nat) : Int) then if Int.toNat (wrap64 (Prod.fst p0 - (1 : Int))) < List.length [ByteArray.mk #[(115 : UInt8), (116 : UInt8), (117 : UInt8), (99 : UInt8), (107 : UInt8)], ByteArray.mk #[(104 : UInt8), (111 : UInt8), (108 : UInt8), (101 : UInt8)], ByteArray.mk #[(116 : UInt8), (117 : UInt8), (114 : UInt8), (110 : UInt8), (101 : UInt8), (100 : UInt8)]] then if ByteArray.size (List.getD [ByteArray.mk #[(115 : UInt8), (116 : UInt8), (117 : UInt8), (99 : UInt8), (107 : UInt8)], ByteArray.mk #[(104 : UInt8), (111 : UInt8), (108 : UInt8), (101 : UInt8)], ByteArray.mk #[(116 : UInt8), (117 : UInt8), (114 : UInt8), (110 : UInt8), (101 : UInt8), (100 : UInt8)]] (Int.toNat (wrap64 (Prod.fst p0 - (1 : Int)))) (ByteArray.mk #[])) + ByteArray.size (ByteArray.mk #[(32 : UInt8), (97 : UInt8), (116 : UInt8), (32 : UInt8)]) ≤ (9223372036854775807 : Nat) then Option.bind (f_strconv_Itoa k (Prod.fst (Prod.snd p0))) fun z0 => if ByteArray.size (List.getD [ByteArray.mk #[(115 : UInt8), (116 : UInt8), (117 : UInt8), (99 : UInt8), (107 : UInt8)], ByteArray.mk #[(104 : UInt8), (111 : UInt8), (108 : UInt8), (101 : UInt8)], ByteArray.mk #[(116 : UInt8), (117 : UInt8), (114 : UInt8), (110 : UInt8), (101 : UInt8), (100 : UInt8)]] (Int.toNat (wrap64 (Prod.fst p0 - (1 : Int)))) (ByteArray.mk #[]) ++ ByteArray.mk #[(32 : UInt8), (97 : UInt8), (116 : UInt8), (32 : UInt8)]) + ByteArray.size z0 ≤ (9223372036854775807 : Nat) then if ByteArray.size (List.getD [ByteArray.mk #[(115 : UInt8), (116 : UInt8), (117 : UInt8), (99 : UInt8), (107 : UInt8)], ByteArray.mk #[(104 : UInt8), (111 : UInt8), (108 : UInt8), (101 : UInt8)], ByteArray.mk #[(116 : UInt8), (117 : UInt8), (114 : UInt8), (110 : UInt8), (101 : UInt8), (100 : UInt8)]] (Int.toNat (wrap64 (Prod.fst p0 - (1 : Int)))) (ByteArray.mk #[]) ++ ByteArray.mk #[(32 : UInt8), (97 : UInt8), (116 : UInt8), (32 : UInt8)] ++ z0) + ByteArray.size (ByteArray.mk #[(44 : UInt8)]) ≤ (9223372036854775807 : Nat) then Option.bind (f_strconv_Itoa k (Prod.snd (Prod.snd p0))) fun z1 => if ByteArray.size (List.getD [ByteArray.mk #[(115 : UInt8), (116 : UInt8), (117 : UInt8), (99 : UInt8), (107 : UInt8)], ByteArray.mk #[(104 : UInt8), (111 : UInt8), (108 : UInt8), (101 : UInt8)], ByteArray.mk #[(116 : UInt8), (117 : UInt8), (114 : UInt8), (110 : UInt8), (101 : UInt8), (100 : UInt8)]] (Int.toNat (wrap64 (Prod.fst p0 - (1 : Int)))) (ByteArray.mk #[]) ++ ByteArray.mk #[(32 : UInt8), (97 : UInt8), (116 : UInt8), (32 : UInt8)] ++ z0 ++ ByteArray.mk #[(44 : UInt8)]) + ByteArray.size z1 ≤ (9223372036854775807 : Nat) then some (List.getD [ByteArray.mk #[(115 : UInt8), (116 : UInt8), (117 : UInt8), (99 : UInt8), (107 : UInt8)], ByteArray.mk #[(104 : UInt8), (111 : UInt8), (108 : UInt8), (101 : UInt8)], ByteArray.mk #[(116 : UInt8), (117 : UInt8), (114 : UInt8), (110 : UInt8), (101 : UInt8), (100 : UInt8)]] (Int.toNat (wrap64 (Prod.fst p0 - (1 : Int)))) (ByteArray.mk #[]) ++ ByteArray.mk #[(32 : UInt8), (97 : UInt8), (116 : UInt8), (32 : UInt8)] ++ z0 ++ ByteArray.mk #[(44 : UInt8)] ++ z1, true) else none else none else none else none else none else none else none
noncomputable def d_impl_FaultName : FnDef := .of q_impl_FaultName r_impl_FaultName (ByteArray × Bool) (fun k x => f_impl_FaultName k x.1) to_impl_FaultName of_impl_FaultName to_of_impl_FaultName
noncomputable def c_impl_FaultName : Code := Tryd.f8.body.getD .skip
noncomputable def x_impl_FaultName : Ctx (Tup r_impl_FaultName × OutD) := { T := T, G := [(24, d_strconv_Itoa.E)], mvs := [], no := 0, n := 47, res := resOf T q_impl_FaultName r_impl_FaultName Tryd.f8.results.toList, loops := [], regs := [], conds := [] }
theorem g_impl_FaultName (k : Nat) : EnvOK Tryd.prog k x_impl_FaultName.G := (EnvOK.cons (s_strconv_Itoa k) (EnvOK.nil mixed))
theorem h_impl_FaultName (k : Nat) (x : Tup d_impl_FaultName.ps) : d_impl_FaultName.f (k + 1) x = fnK d_impl_FaultName x_impl_FaultName c_impl_FaultName k x := by kernel_rfl
theorem z_impl_FaultName (x : Tup d_impl_FaultName.ps) : d_impl_FaultName.f 0 x = none := by kernel_rfl
theorem l_impl_FaultName (k : Nat) : LOK Tryd.prog x_impl_FaultName k c_impl_FaultName := LOK.by [] (by kernel_rfl) AllOK.nil
theorem s_impl_FaultName (k : Nat) : SoundAt Tryd.prog k 8 d_impl_FaultName.E := @fn_all Tryd.prog d_impl_FaultName x_impl_FaultName 8 Tryd.f8 c_impl_FaultName (by kernel_rfl) (by kernel_rfl) (by kernel_rfl) Tryd.func8 (by kernel_rfl) (by kernel_rfl) (by kernel_rfl) T_ok g_impl_FaultName l_impl_FaultName z_impl_FaultName h_impl_FaultName k
/-! function 30 -/
noncomputable def r_spec_dgGood : List PK := [PK.mk Ty.bool false none false none]
noncomputable def q_spec_dgGood : List PK := [PK.mk (Ty.pair (Ty.int IntKind.i64) (Ty.pair (Ty.int IntKind.i64) (Ty.slice (78 : Nat) (Ty.pair (Ty.int IntKind.i64) (Ty.int IntKind.i64))))) true none false none, PK.mk (Ty.slice (3 : Nat) (Ty.int IntKind.i64)) false none false none, PK.mk (Ty.slice (67 : Nat) (Ty.pair (Ty.int IntKind.i64) (Ty.pair (Ty.int IntKind.i64) (Ty.int IntKind.i64)))) false none false none]
noncomputable def to_spec_dgGood (r : Bool) : Tup r_spec_dgGood × OutD := ((r, ()), none)
noncomputable def of_spec_dgGood : Tup r_spec_dgGood × OutD → Option (Bool)
  | (a, none) => some (a.1)
  | _ => none
theorem to_of_spec_dgGood : ∀ b r, of_spec_dgGood b = some r → to_spec_dgGood r = b := by
  rintro ⟨a, o⟩ r h
  cases o with
  | none => injection h with h; subst h; rfl
  | some _ => cases h
noncomputable def f_spec_dgGood_0 : Nat → Int → Int → List (Int × Int) → List (Int × Int × Int) → Int → Int → Option (LR Unit Bool)
  | 0, _, _, _, _, _, _ => none
  | k + 1, b1_0, b1_1, b1_2, v32, v33, v34 =>
    if decide (v34 < v33) = true then if (0 : Int) ≤ v34 then if v34 < (↑(List.length v32) : Int) then Option.bind (f_spec_l1In k (Prod.fst (List.getD v32 (Int.toNat v34) ((0 : Int), (0 : Int), (0 : Int)))) (1 : Int) (3 : Int)) fun z2 => if (!z2) = true then some (LR.ret false) else Option.bind (f_spec_l1In k (Prod.fst (Prod.snd (List.getD v32 (Int.toNat v34) ((0 : Int), (0 : Int), (0 : Int))))) (0 : Int) b1_0) fun z3 => if (!z3) = true then some (LR.ret false) else Option.bind (f_spec_l1In k (Prod.snd (Prod.snd (List.getD v32 (Int.toNat v34) ((0 : Int), (0 : Int), (0 : Int))))) (-1 : Int) b1_1) fun z4 => if (!z4) = true then some (LR.ret false) else f_spec_dgGood_0 k b1_0 b1_1 b1_2 v32 v33 (wrap64 (v34 + (1 : Int))) else none else none else some (LR.go ())
noncomputable def f_spec_dgGood_0i : Spec := Spec.mk [OSh.ro, OSh.box (43 : Nat) [Sh.int IntKind.i64, Sh.int IntKind.i64, Sh.snap (0 : Nat) (Ty.pair (Ty.int IntKind.i64) (Ty.int IntKind.i64))]] [((3 : Nat), TSh.at (Sh.ptr (1 : Nat) (0 : Nat))), ((32 : Nat), TSh.at (Sh.snap (0 : Nat) (Ty.pair (Ty.int IntKind.i64) (Ty.pair (Ty.int IntKind.i64) (Ty.int IntKind.i64))))), ((33 : Nat), TSh.at (Sh.int IntKind.i64)), ((34 : Nat), TSh.at (Sh.int IntKind.i64))]
noncomputable def f_spec_dgGood_0o : Spec := Spec.mk [OSh.ro] []
noncomputable def f_spec_dgGood_0D : LoopDef (Tup r_spec_dgGood × OutD) := .rets f_spec_dgGood_0i f_spec_dgGood_0o (Unit) (Bool) (fun k x => f_spec_dgGood_0 k x.1.2.1.1 x.1.2.1.2.1 x.1.2.1.2.2.1 x.2.2.1 x.2.2.2.1 x.2.2.2.2.1) (fun z => (((), ()), (()))) (fun y => ()) (fun _ => rfl) to_spec_dgGood of_spec_dgGood to_of_spec_dgGood
noncomputable def f_spec_dgGood : Nat → Int × Int × List (Int × Int) → List Int → List (Int × Int × Int) → Option Bool
  | 0, _, _, _ => none
  | k + 1, p0, p1, p2 =>
    Option.bind (f_spec_dgBoard k (Prod.fst p0, Prod.fst (Prod.snd p0), Prod.snd (Prod.snd p0))) fun z0 => if (!z0) = true then some false else if decide ((↑(List.length p1) : Int) > (20 : Int)) = true then some false else Option.bind (f_spec_l1All k p1 (0 : Int) (wrap64 (Prod.fst (Prod.snd p0) - (1 : Int)))) fun z1 => if (!z1) = true then some false else if decide ((↑(List.length p2) : Int) ≠ (↑(List.length p1) : Int)) = true then some false else Option.bind (f_spec_dgGood_0 k (Prod.fst p0) (Prod.fst (Prod.snd p0)) (Prod.snd (Prod.snd p0)) p2 (↑(List.length p2) : Int) (0 : Int)) fun z5 => LR.on z5 (fun y5 => some true) fun r5 => some r5
noncomputable def d_spec_dgGood : FnDef := .of q_spec_dgGood r_spec_dgGood (Bool) (fun k x => f_spec_dgGood k x.1 x.2.1 x.2.2.1) to_spec_dgGood of_spec_dgGood to_of_spec_dgGood
noncomputable def c_spec_dgGood : Code := Tryd.f30.body.getD .skip
noncomputable def x_spec_dgGood : Ctx (Tup r_spec_dgGood × OutD) := { T := T, G := [(42, d_spec_dgBoard.E), (43, d_spec_l1All.E), (38, d_spec_l1In.E)], mvs := [], no := 0, n := 59, res := resOf T q_spec_dgGood r_spec_dgGood Tryd.f30.results.toList, loops := [(0, f_spec_dgGood_0D.E)], regs := [], conds := [] }
theorem g_spec_dgGood (k : Nat) : EnvOK Tryd.prog k x_spec_dgGood.G := (EnvOK.cons (s_spec_dgBoard k) (EnvOK.cons (s_spec_l1All k) (EnvOK.cons (s_spec_l1In k) (EnvOK.nil mixed))))
noncomputable def f_spec_dgGood_0B : Code := (findLoop 0 c_spec_dgGood).getD .skip
theorem f_spec_dgGood_0h (k : Nat) (x : f_spec_dgGood_0i.D) : f_spec_dgGood_0D.lp (k + 1) x = loopK x_spec_dgGood f_spec_dgGood_0D 0 f_spec_dgGood_0B k x := by kernel_rfl
theorem f_spec_dgGood_0l (k : Nat) : LOK Tryd.prog x_spec_dgGood k f_spec_dgGood_0B := LOK.by [] (by kernel_rfl) AllOK.nil
theorem f_spec_dgGood_0z (x : f_spec_dgGood_0i.D) : f_spec_dgGood_0D.lp 0 x = none := by kernel_rfl
theorem f_spec_dgGood_0ok (k : Nat) : EOK Tryd.prog x_spec_dgGood k f_spec_dgGood_0D.E (.block 0 (.loop f_spec_dgGood_0B)) := loop_ok T_ok g_spec_dgGood f_spec_dgGood_0z f_spec_dgGood_0h f_spec_dgGood_0l k
theorem h_spec_dgGood (k : Nat) (x : Tup d_spec_dgGood.ps) : d_spec_dgGood.f (k + 1) x = fnK d_spec_dgGood x_spec_dgGood c_spec_dgGood k x := by kernel_rfl
theorem z_spec_dgGood (x : Tup d_spec_dgGood.ps) : d_spec_dgGood.f 0 x = none := by kernel_rfl
theorem l_spec_dgGood (k : Nat) : LOK Tryd.prog x_spec_dgGood k c_spec_dgGood := LOK.by [(f_spec_dgGood_0D.E, .block 0 (.loop f_spec_dgGood_0B))] (by kernel_rfl) (AllOK.cons (f_spec_dgGood_0ok k) AllOK.nil)
theorem s_spec_dgGood (k : Nat) : SoundAt Tryd.prog k 30 d_spec_dgGood.E := @fn_all Tryd.prog d_spec_dgGood x_spec_dgGood 30 Tryd.f30 c_spec_dgGood (by kernel_rfl) (by kernel_rfl) (by kernel_rfl) Tryd.func30 (by kernel_rfl) (by kernel_rfl) (by kernel_rfl) T_ok g_spec_dgGood l_spec_dgGood z_spec_dgGood h_spec_dgGood k
/-! function 34 -/
noncomputable def r_impl_isSeen : List PK := [PK.mk Ty.bool false none false none]
noncomputable def q_impl_isSeen : List PK := [PK.mk (Ty.pair (Ty.int IntKind.i64) (Ty.pair (Ty.int IntKind.i64) (Ty.slice (78 : Nat) (Ty.pair (Ty.int IntKind.i64) (Ty.int IntKind.i64))))) true none false none, PK.mk (Ty.slice (3 : Nat) (Ty.int IntKind.i64)) false none false none, PK.mk (Ty.slice (67 : Nat) (Ty.pair (Ty.int IntKind.i64) (Ty.pair (Ty.int IntKind.i64) (Ty.int IntKind.i64)))) false none false none]
noncomputable def to_impl_isSeen (r : Bool) : Tup r_impl_isSeen × OutD := ((r, ()), none)
noncomputable def of_impl_isSeen : Tup r_impl_isSeen × OutD → Option (Bool)
  | (a, none) => some (a.1)
  | _ => none
theorem to_of_impl_isSeen : ∀ b r, of_impl_isSeen b = some r → to_impl_isSeen r = b := by
  rintro ⟨a, o⟩ r h
  cases o with
  | none => injection h with h; subst h; rfl
  | some _ => cases h
noncomputable def f_impl_isSeen_0 : Nat → Int → Int → List (Int × Int) → List (Int × Int × Int) → Int → Int → Option (LR Unit Bool)
  | 0, _, _, _, _, _, _ => none
  | k + 1, b1_0, b1_1, b1_2, v31, v32, v33 =>
    if decide (v33 < v32) = true then if (0 : Int) ≤ v33 then if v33 < (↑(List.length v31) : Int) then if decide (Prod.fst (List.getD v31 (Int.toNat v33) ((0 : Int), (0 : Int), (0 : Int))) < (1 : Int)) = true then some (LR.ret false) else if decide (Prod.fst (List.getD v31 (Int.toNat v33) ((0 : Int), (0 : Int), (0 : Int))) > (3 : Int)) = true then some (LR.ret false) else if decide (Prod.fst (Prod.snd (List.getD v31 (Int.toNat v33) ((0 : Int), (0 : Int), (0 : Int)))) < (0 : Int)) = true then some (LR.ret false) else if decide (Prod.fst (Prod.snd (List.getD v31 (Int.toNat v33) ((0 : Int), (0 : Int), (0 : Int)))) > b1_0) = true then some (LR.ret false) else if decide (Prod.snd (Prod.snd (List.getD v31 (Int.toNat v33) ((0 : Int), (0 : Int), (0 : Int)))) < (-1 : Int)) = true then some (LR.ret false) else if decide (Prod.snd (Prod.snd (List.getD v31 (Int.toNat v33) ((0 : Int), (0 : Int), (0 : Int)))) > b1_1) = true then some (LR.ret false) else f_impl_isSeen_0 k b1_0 b1_1 b1_2 v31 v32 (wrap64 (v33 + (1 : Int))) else none else none else some (LR.go ())
noncomputable def f_impl_isSeen_0i : Spec := Spec.mk [OSh.ro, OSh.box (43 : Nat) [Sh.int IntKind.i64, Sh.int IntKind.i64, Sh.snap (0 : Nat) (Ty.pair (Ty.int IntKind.i64) (Ty.int IntKind.i64))]] [((3 : Nat), TSh.at (Sh.ptr (1 : Nat) (0 : Nat))), ((31 : Nat), TSh.at (Sh.snap (0 : Nat) (Ty.pair (Ty.int IntKind.i64) (Ty.pair (Ty.int IntKind.i64) (Ty.int IntKind.i64))))), ((32 : Nat), TSh.at (Sh.int IntKind.i64)), ((33 : Nat), TSh.at (Sh.int IntKind.i64))]
noncomputable def f_impl_isSeen_0o : Spec := Spec.mk [OSh.ro] []
noncomputable def f_impl_isSeen_0D : LoopDef (Tup r_impl_isSeen × OutD) := .rets f_impl_isSeen_0i f_impl_isSeen_0o (Unit) (Bool) (fun k x => f_impl_isSeen_0 k x.1.2.1.1 x.1.2.1.2.1 x.1.2.1.2.2.1 x.2.2.1 x.2.2.2.1 x.2.2.2.2.1) (fun z => (((), ()), (()))) (fun y => ()) (fun _ => rfl) to_impl_isSeen of_impl_isSeen to_of_impl_isSeen
noncomputable def f_impl_isSeen : Nat → Int × Int × List (Int × Int) → List Int → List (Int × Int × Int) → Option Bool
  | 0, _, _, _ => none
  | k + 1, p0, p1, p2 =>
    Option.bind (f_impl_validEntries k (Prod.fst p0, Prod.fst (Prod.snd p0), Prod.snd (Prod.snd p0)) p1) fun z0 => if (!z0) = true then some false else if decide ((↑(List.length (Prod.snd (Prod.snd p0))) : Int) > (24 : Int)) = true then some false else if decide ((↑(List.length p1) : Int) > (20 : Int)) = true then some false else if decide ((↑(List.length p2) : Int) ≠ (↑(List.length p1) : Int)) = true then some false else Option.bind (f_impl_isSeen_0 k (Prod.fst p0) (Prod.fst (Prod.snd p0)) (Prod.snd (Prod.snd p0)) p2 (↑(List.length p2) : Int) (0 : Int)) fun z1 => LR.on z1 (fun y1 => some true) fun r1 => some r1
noncomputable def d_impl_isSeen : FnDef := .of q_impl_isSeen r_impl_isSeen (Bool) (fun k x => f_impl_isSeen k x.1 x.2.1 x.2.2.1) to_impl_isSeen of_impl_isSeen to_of_impl_isSeen
noncomputable def c_impl_isSeen : Code := Tryd.f34.body.getD .skip
noncomputable def x_impl_isSeen : Ctx (Tup r_impl_isSeen × OutD) := { T := T, G := [(47, d_impl_validEntries.E)], mvs := [], no := 0, n := 70, res := resOf T q_impl_isSeen r_impl_isSeen Tryd.f34.results.toList, loops := [(0, f_impl_isSeen_0D.E)], regs := [], conds := [] }
theorem g_impl_isSeen (k : Nat) : EnvOK Tryd.prog k x_impl_isSeen.G := (EnvOK.cons (s_impl_validEntries k) (EnvOK.nil mixed))
noncomputable def f_impl_isSeen_0B : Code := (findLoop 0 c_impl_isSeen).getD .skip
theorem f_impl_isSeen_0h (k : Nat) (x : f_impl_isSeen_0i.D) : f_impl_isSeen_0D.lp (k + 1) x = loopK x_impl_isSeen f_impl_isSeen_0D 0 f_impl_isSeen_0B k x := by kernel_rfl
theorem f_impl_isSeen_0l (k : Nat) : LOK Tryd.prog x_impl_isSeen k f_impl_isSeen_0B := LOK.by [] (by kernel_rfl) AllOK.nil
theorem f_impl_isSeen_0z (x : f_impl_isSeen_0i.D) : f_impl_isSeen_0D.lp 0 x = none := by kernel_rfl
theorem f_impl_isSeen_0ok (k : Nat) : EOK Tryd.prog x_impl_isSeen k f_impl_isSeen_0D.E (.block 0 (.loop f_impl_isSeen_0B)) := loop_ok T_ok g_impl_isSeen f_impl_isSeen_0z f_impl_isSeen_0h f_impl_isSeen_0l k
theorem h_impl_isSeen (k : Nat) (x : Tup d_impl_isSeen.ps) : d_impl_isSeen.f (k + 1) x = fnK d_impl_isSeen x_impl_isSeen c_impl_isSeen k x := by kernel_rfl
theorem z_impl_isSeen (x : Tup d_impl_isSeen.ps) : d_impl_isSeen.f 0 x = none := by kernel_rfl
theorem l_impl_isSeen (k : Nat) : LOK Tryd.prog x_impl_isSeen k c_impl_isSeen := LOK.by [(f_impl_isSeen_0D.E, .block 0 (.loop f_impl_isSeen_0B))] (by kernel_rfl) (AllOK.cons (f_impl_isSeen_0ok k) AllOK.nil)
theorem s_impl_isSeen (k : Nat) : SoundAt Tryd.prog k 34 d_impl_isSeen.E := @fn_all Tryd.prog d_impl_isSeen x_impl_isSeen 34 Tryd.f34 c_impl_isSeen (by kernel_rfl) (by kernel_rfl) (by kernel_rfl) Tryd.func34 (by kernel_rfl) (by kernel_rfl) (by kernel_rfl) T_ok g_impl_isSeen l_impl_isSeen z_impl_isSeen h_impl_isSeen k
/-! function 45 -/
noncomputable def r_spec_dgExplains : List PK := [PK.mk Ty.bool false none false none]
noncomputable def q_spec_dgExplains : List PK := [PK.mk (Ty.pair (Ty.int IntKind.i64) (Ty.pair (Ty.int IntKind.i64) (Ty.slice (78 : Nat) (Ty.pair (Ty.int IntKind.i64) (Ty.int IntKind.i64))))) true none false none, PK.mk (Ty.slice (26 : Nat) (Ty.pair (Ty.int IntKind.i64) (Ty.pair (Ty.int IntKind.i64) (Ty.int IntKind.i64)))) false none false none, PK.mk (Ty.slice (3 : Nat) (Ty.int IntKind.i64)) false none false none, PK.mk (Ty.slice (67 : Nat) (Ty.pair (Ty.int IntKind.i64) (Ty.pair (Ty.int IntKind.i64) (Ty.int IntKind.i64)))) false none false none]
noncomputable def to_spec_dgExplains (r : Bool) : Tup r_spec_dgExplains × OutD := ((r, ()), none)
noncomputable def of_spec_dgExplains : Tup r_spec_dgExplains × OutD → Option (Bool)
  | (a, none) => some (a.1)
  | _ => none
theorem to_of_spec_dgExplains : ∀ b r, of_spec_dgExplains b = some r → to_spec_dgExplains r = b := by
  rintro ⟨a, o⟩ r h
  cases o with
  | none => injection h with h; subst h; rfl
  | some _ => cases h
noncomputable def f_spec_dgExplains : Nat → Int × Int × List (Int × Int) → List (Int × Int × Int) → List Int → List (Int × Int × Int) → Option Bool
  | 0, _, _, _, _ => none
  | k + 1, p0, p1, p2, p3 =>
    Option.bind (f_spec_faAll k (Prod.fst p0, Prod.fst (Prod.snd p0), Prod.snd (Prod.snd p0)) p1 p2) fun z0 => Option.bind (f_spec_faSame k (Prod.fst z0) p3) fun z1 => some (decide (z1 < (0 : Int)))
noncomputable def d_spec_dgExplains : FnDef := .of q_spec_dgExplains r_spec_dgExplains (Bool) (fun k x => f_spec_dgExplains k x.1 x.2.1 x.2.2.1 x.2.2.2.1) to_spec_dgExplains of_spec_dgExplains to_of_spec_dgExplains
noncomputable def c_spec_dgExplains : Code := Tryd.f45.body.getD .skip
noncomputable def x_spec_dgExplains : Ctx (Tup r_spec_dgExplains × OutD) := { T := T, G := [(55, d_spec_faAll.E), (56, d_spec_faSame.E)], mvs := [], no := 0, n := 22, res := resOf T q_spec_dgExplains r_spec_dgExplains Tryd.f45.results.toList, loops := [], regs := [], conds := [] }
theorem g_spec_dgExplains (k : Nat) : EnvOK Tryd.prog k x_spec_dgExplains.G := (EnvOK.cons (s_spec_faAll k) (EnvOK.cons (s_spec_faSame k) (EnvOK.nil mixed)))
theorem h_spec_dgExplains (k : Nat) (x : Tup d_spec_dgExplains.ps) : d_spec_dgExplains.f (k + 1) x = fnK d_spec_dgExplains x_spec_dgExplains c_spec_dgExplains k x := by kernel_rfl
theorem z_spec_dgExplains (x : Tup d_spec_dgExplains.ps) : d_spec_dgExplains.f 0 x = none := by kernel_rfl
theorem l_spec_dgExplains (k : Nat) : LOK Tryd.prog x_spec_dgExplains k c_spec_dgExplains := LOK.by [] (by kernel_rfl) AllOK.nil
theorem s_spec_dgExplains (k : Nat) : SoundAt Tryd.prog k 45 d_spec_dgExplains.E := @fn_all Tryd.prog d_spec_dgExplains x_spec_dgExplains 45 Tryd.f45 c_spec_dgExplains (by kernel_rfl) (by kernel_rfl) (by kernel_rfl) Tryd.func45 (by kernel_rfl) (by kernel_rfl) (by kernel_rfl) T_ok g_spec_dgExplains l_spec_dgExplains z_spec_dgExplains h_spec_dgExplains k
/-! function 49 -/
noncomputable def r_impl_explainsEnds : List PK := [PK.mk Ty.bool false none false none]
noncomputable def q_impl_explainsEnds : List PK := [PK.mk (Ty.pair (Ty.int IntKind.i64) (Ty.pair (Ty.int IntKind.i64) (Ty.slice (78 : Nat) (Ty.pair (Ty.int IntKind.i64) (Ty.int IntKind.i64))))) true none false none, PK.mk (Ty.slice (26 : Nat) (Ty.pair (Ty.int IntKind.i64) (Ty.pair (Ty.int IntKind.i64) (Ty.int IntKind.i64)))) false none false none, PK.mk (Ty.slice (3 : Nat) (Ty.int IntKind.i64)) false none false none, PK.mk (Ty.slice (67 : Nat) (Ty.pair (Ty.int IntKind.i64) (Ty.pair (Ty.int IntKind.i64) (Ty.int IntKind.i64)))) false none false none]
noncomputable def to_impl_explainsEnds (r : Bool) : Tup r_impl_explainsEnds × OutD := ((r, ()), none)
noncomputable def of_impl_explainsEnds : Tup r_impl_explainsEnds × OutD → Option (Bool)
  | (a, none) => some (a.1)
  | _ => none
theorem to_of_impl_explainsEnds : ∀ b r, of_impl_explainsEnds b = some r → to_impl_explainsEnds r = b := by
  rintro ⟨a, o⟩ r h
  cases o with
  | none => injection h with h; subst h; rfl
  | some _ => cases h
noncomputable def f_impl_explainsEnds : Nat → Int × Int × List (Int × Int) → List (Int × Int × Int) → List Int → List (Int × Int × Int) → Option Bool
  | 0, _, _, _, _ => none
  | k + 1, p0, p1, p2, p3 =>
    Option.bind (f_impl_faultyDrops k (Prod.fst p0, Prod.fst (Prod.snd p0), Prod.snd (Prod.snd p0)) p1 p2) fun z0 => Option.bind (f_slices_Equal_impl_Fall_impl_Fall k (Prod.fst z0) p3) fun z1 => some z1
noncomputable def d_impl_explainsEnds : FnDef := .of q_impl_explainsEnds r_impl_explainsEnds (Bool) (fun k x => f_impl_explainsEnds k x.1 x.2.1 x.2.2.1 x.2.2.2.1) to_impl_explainsEnds of_impl_explainsEnds to_of_impl_explainsEnds
noncomputable def c_impl_explainsEnds : Code := Tryd.f49.body.getD .skip
noncomputable def x_impl_explainsEnds : Ctx (Tup r_impl_explainsEnds × OutD) := { T := T, G := [(59, d_impl_faultyDrops.E), (60, d_slices_Equal_impl_Fall_impl_Fall.E)], mvs := [], no := 0, n := 21, res := resOf T q_impl_explainsEnds r_impl_explainsEnds Tryd.f49.results.toList, loops := [], regs := [], conds := [] }
theorem g_impl_explainsEnds (k : Nat) : EnvOK Tryd.prog k x_impl_explainsEnds.G := (EnvOK.cons (s_impl_faultyDrops k) (EnvOK.cons (s_slices_Equal_impl_Fall_impl_Fall k) (EnvOK.nil mixed)))
theorem h_impl_explainsEnds (k : Nat) (x : Tup d_impl_explainsEnds.ps) : d_impl_explainsEnds.f (k + 1) x = fnK d_impl_explainsEnds x_impl_explainsEnds c_impl_explainsEnds k x := by kernel_rfl
theorem z_impl_explainsEnds (x : Tup d_impl_explainsEnds.ps) : d_impl_explainsEnds.f 0 x = none := by kernel_rfl
theorem l_impl_explainsEnds (k : Nat) : LOK Tryd.prog x_impl_explainsEnds k c_impl_explainsEnds := LOK.by [] (by kernel_rfl) AllOK.nil
theorem s_impl_explainsEnds (k : Nat) : SoundAt Tryd.prog k 49 d_impl_explainsEnds.E := @fn_all Tryd.prog d_impl_explainsEnds x_impl_explainsEnds 49 Tryd.f49 c_impl_explainsEnds (by kernel_rfl) (by kernel_rfl) (by kernel_rfl) Tryd.func49 (by kernel_rfl) (by kernel_rfl) (by kernel_rfl) T_ok g_impl_explainsEnds l_impl_explainsEnds z_impl_explainsEnds h_impl_explainsEnds k
end
end Go.Proofs.YtkmbhhgibgocpaaDoor.Vs

set_option maxRecDepth 100000
set_option maxHeartbeats 2000000
set_option linter.unusedVariables false
set_option linter.unusedSimpArgs false
namespace Go.Proofs.YtkmbhhgibgocpaaDoor.Vs
open Go.RowKit
noncomputable section
/-! function 3 -/
/-! function 10 -/
/-! function 31 -/
noncomputable def r_spec_dgSingle : List PK := [PK.mk (Ty.slice (26 : Nat) (Ty.pair (Ty.int IntKind.i64) (Ty.pair (Ty.int IntKind.i64) (Ty.int IntKind.i64)))) false none false none]
noncomputable def q_spec_dgSingle : List PK := [PK.mk (Ty.pair (Ty.int IntKind.i64) (Ty.pair (Ty.int IntKind.i64) (Ty.slice (78 : Nat) (Ty.pair (Ty.int IntKind.i64) (Ty.int IntKind.i64))))) true none false none, PK.mk (Ty.slice (3 : Nat) (Ty.int IntKind.i64)) false none false none, PK.mk (Ty.slice (67 : Nat) (Ty.pair (Ty.int IntKind.i64) (Ty.pair (Ty.int IntKind.i64) (Ty.int IntKind.i64)))) false none false none]
noncomputable def to_spec_dgSingle (r : List (Int × Int × Int)) : Tup r_spec_dgSingle × OutD := ((r, ()), none)
noncomputable def of_spec_dgSingle : Tup r_spec_dgSingle × OutD → Option (List (Int × Int × Int))
  | (a, none) => some (a.1)
  | _ => none
theorem to_of_spec_dgSingle : ∀ b r, of_spec_dgSingle b = some r → to_spec_dgSingle r = b := by
  rintro ⟨a, o⟩ r h
  cases o with
  | none => injection h with h; subst h; rfl
  | some _ => cases h
noncomputable def f_spec_dgSingle_0 : Nat → Int → Int → List (Int × Int) → List (Int × Int × Int) → List (Int × Int × Int) → List Int → List (Int × Int × Int) → Int → Int → Option (List (Int × Int × Int))
  | 0, _, _, _, _, _, _, _, _, _ => none
  | k + 1, b1_0, b1_1, b1_2, o2, o3, v1, v2, v12, v13 =>
    if decide (v13 < v12) = true then if (0 : Int) ≤ v13 then if v13 < (↑(List.length o3) : Int) then Option.bind (f_spec_dgExplains k (b1_0, b1_1, b1_2) [(Prod.fst (List.getD o3 (Int.toNat v13) ((0 : Int), (0 : Int), (0 : Int))), Prod.fst (Prod.snd (List.getD o3 (Int.toNat v13) ((0 : Int), (0 : Int), (0 : Int)))), Prod.snd (Prod.snd (List.getD o3 (Int.toNat v13) ((0 : Int), (0 : Int), (0 : Int)))))] v1 v2) fun z1 => if z1 = true then if List.length o2 + List.length [(Prod.fst (List.getD o3 (Int.toNat v13) ((0 : Int), (0 : Int), (0 : Int))), Prod.fst (Prod.snd (List.getD o3 (Int.toNat v13) ((0 : Int), (0 : Int), (0 : Int)))), Prod.snd (Prod.snd (List.getD o3 (Int.toNat v13) ((0 : Int), (0 : Int), (0 : Int)))))] ≤ (140737488355328 / 24 : Nat) then f_spec_dgSingle_0 k b1_0 b1_1 b1_2 (o2 ++ [(Prod.fst (List.getD o3 (Int.toNat v13) ((0 : Int), (0 : Int), (0 : Int))), Prod.fst (Prod.snd (List.getD o3 (Int.toNat v13) ((0 : Int), (0 : Int), (0 : Int)))), Prod.snd (Prod.snd (List.getD o3 (Int.toNat v13) ((0 : Int), (0 : Int), (0 : Int)))))]) o3 v1 v2 v12 (wrap64 (v13 + (1 : Int))) else none else f_spec_dgSingle_0 k b1_0 b1_1 b1_2 o2 o3 v1 v2 v12 (wrap64 (v13 + (1 : Int))) else none else none else some o2
noncomputable def f_spec_dgSingle_0i : Spec := Spec.mk [OSh.ro, OSh.box (43 : Nat) [Sh.int IntKind.i64, Sh.int IntKind.i64, Sh.snap (0 : Nat) (Ty.pair (Ty.int IntKind.i64) (Ty.int IntKind.i64))], OSh.row true (26 : Nat) (Ty.pair (Ty.int IntKind.i64) (Ty.pair (Ty.int IntKind.i64) (Ty.int IntKind.i64))), OSh.row true (26 : Nat) (Ty.pair (Ty.int IntKind.i64) (Ty.pair (Ty.int IntKind.i64) (Ty.int IntKind.i64)))] [((1 : Nat), TSh.at (Sh.snap (0 : Nat) (Ty.int IntKind.i64))), ((2 : Nat), TSh.at (Sh.snap (0 : Nat) (Ty.pair (Ty.int IntKind.i64) (Ty.pair (Ty.int IntKind.i64) (Ty.int IntKind.i64))))), ((3 : Nat), TSh.at (Sh.ptr (1 : Nat) (0 : Nat))), ((7 : Nat), TSh.at (Sh.sl (2 : Nat))), ((11 : Nat), TSh.at (Sh.sl (3 : Nat))), ((12 : Nat), TSh.at (Sh.int IntKind.i64)), ((13 : Nat), TSh.at (Sh.int IntKind.i64))]
noncomputable def f_spec_dgSingle_0o : Spec := Spec.mk [OSh.ro, OSh.row true (26 : Nat) (Ty.pair (Ty.int IntKind.i64) (Ty.pair (Ty.int IntKind.i64) (Ty.int IntKind.i64)))] [((7 : Nat), TSh.at (Sh.sl (1 : Nat)))]
noncomputable def f_spec_dgSingle_0D : LoopDef (Tup r_spec_dgSingle × OutD) := .plain f_spec_dgSingle_0i f_spec_dgSingle_0o (List (Int × Int × Int)) (fun k x => f_spec_dgSingle_0 k x.1.2.1.1 x.1.2.1.2.1 x.1.2.1.2.2.1 x.1.2.2.1 x.1.2.2.2.1 x.2.1 x.2.2.1 x.2.2.2.2.2.2.1 x.2.2.2.2.2.2.2.1) (fun z => (((), z, ()), ((), ()))) (fun y => (y.1.2.1)) (fun _ => rfl)
noncomputable def f_spec_dgSingle : Nat → Int × Int × List (Int × Int) → List Int → List (Int × Int × Int) → Option (List (Int × Int × Int))
  | 0, _, _, _ => none
  | k + 1, p0, p1, p2 =>
    Option.bind (f_spec_faPossible k (Prod.fst p0, Prod.fst (Prod.snd p0), Prod.snd (Prod.snd p0))) fun z0 => Option.bind (f_spec_dgSingle_0 k (Prod.fst p0) (Prod.fst (Prod.snd p0)) (Prod.snd (Prod.snd p0)) [] z0 p1 p2 (↑(List.length z0) : Int) (0 : Int)) fun z2 => some z2
noncomputable def d_spec_dgSingle : FnDef := .of q_spec_dgSingle r_spec_dgSingle (List (Int × Int × Int)) (fun k x => f_spec_dgSingle k x.1 x.2.1 x.2.2.1) to_spec_dgSingle of_spec_dgSingle to_of_spec_dgSingle
noncomputable def c_spec_dgSingle : Code := Tryd.f31.body.getD .skip
noncomputable def x_spec_dgSingle : Ctx (Tup r_spec_dgSingle × OutD) := { T := T, G := [(44, d_spec_faPossible.E), (45, d_spec_dgExplains.E)], mvs := [], no := 0, n := 29, res := resOf T q_spec_dgSingle r_spec_dgSingle Tryd.f31.results.toList, loops := [(0, f_spec_dgSingle_0D.E)], regs := [], conds := [] }
theorem g_spec_dgSingle (k : Nat) : EnvOK Tryd.prog k x_spec_dgSingle.G := (EnvOK.cons (s_spec_faPossible k) (EnvOK.cons (s_spec_dgExplains k) (EnvOK.nil mixed)))
noncomputable def f_spec_dgSingle_0B : Code := (findLoop 0 c_spec_dgSingle).getD .skip
theorem f_spec_dgSingle_0h (k : Nat) (x : f_spec_dgSingle_0i.D) : f_spec_dgSingle_0D.lp (k + 1) x = loopK x_spec_dgSingle f_spec_dgSingle_0D 0 f_spec_dgSingle_0B k x := by kernel_rfl
theorem f_spec_dgSingle_0l (k : Nat) : LOK Tryd.prog x_spec_dgSingle k f_spec_dgSingle_0B := LOK.by [] (by kernel_rfl) AllOK.nil
theorem f_spec_dgSingle_0z (x : f_spec_dgSingle_0i.D) : f_spec_dgSingle_0D.lp 0 x = none := by kernel_rfl
theorem f_spec_dgSingle_0ok (k : Nat) : EOK Tryd.prog x_spec_dgSingle k f_spec_dgSingle_0D.E (.block 0 (.loop f_spec_dgSingle_0B)) := loop_ok T_ok g_spec_dgSingle f_spec_dgSingle_0z f_spec_dgSingle_0h f_spec_dgSingle_0l k
theorem h_spec_dgSingle (k : Nat) (x : Tup d_spec_dgSingle.ps) : d_spec_dgSingle.f (k + 1) x = fnK d_spec_dgSingle x_spec_dgSingle c_spec_dgSingle k x := by kernel_rfl
theorem z_spec_dgSingle (x : Tup d_spec_dgSingle.ps) : d_spec_dgSingle.f 0 x = none := by kernel_rfl
theorem l_spec_dgSingle (k : Nat) : LOK Tryd.prog x_spec_dgSingle k c_spec_dgSingle := LOK.by [(f_spec_dgSingle_0D.E, .block 0 (.loop f_spec_dgSingle_0B))] (by kernel_rfl) (AllOK.cons (f_spec_dgSingle_0ok k) AllOK.nil)
theorem s_spec_dgSingle (k : Nat) : SoundAt Tryd.prog k 31 d_spec_dgSingle.E := @fn_all Tryd.prog d_spec_dgSingle x_spec_dgSingle 31 Tryd.f31 c_spec_dgSingle (by kernel_rfl) (by kernel_rfl) (by kernel_rfl) Tryd.func31 (by kernel_rfl) (by kernel_rfl) (by kernel_rfl) T_ok g_spec_dgSingle l_spec_dgSingle z_spec_dgSingle h_spec_dgSingle k
/-! function 35 -/
noncomputable def r_impl_singleCauses : List PK := [PK.mk (Ty.slice (26 : Nat) (Ty.pair (Ty.int IntKind.i64) (Ty.pair (Ty.int IntKind.i64) (Ty.int IntKind.i64)))) false none false none]
noncomputable def q_impl_singleCauses : List PK := [PK.mk (Ty.pair (Ty.int IntKind.i64) (Ty.pair (Ty.int IntKind.i64) (Ty.slice (78 : Nat) (Ty.pair (Ty.int IntKind.i64) (Ty.int IntKind.i64))))) true none false none, PK.mk (Ty.slice (3 : Nat) (Ty.int IntKind.i64)) false none false none, PK.mk (Ty.slice (67 : Nat) (Ty.pair (Ty.int IntKind.i64) (Ty.pair (Ty.int IntKind.i64) (Ty.int IntKind.i64)))) false none false none]
noncomputable def to_impl_singleCauses (r : List (Int × Int × Int)) : Tup r_impl_singleCauses × OutD := ((r, ()), none)
noncomputable def of_impl_singleCauses : Tup r_impl_singleCauses × OutD → Option (List (Int × Int × Int))
  | (a, none) => some (a.1)
  | _ => none
theorem to_of_impl_singleCauses : ∀ b r, of_impl_singleCauses b = some r → to_impl_singleCauses r = b := by
  rintro ⟨a, o⟩ r h
  cases o with
  | none => injection h with h; subst h; rfl
  | some _ => cases h
noncomputable def f_impl_singleCauses_0 : Nat → Int → Int → List (Int × Int) → List (Int × Int × Int) → List (Int × Int × Int) → List Int → List (Int × Int × Int) → Int → Int → Option (List (Int × Int × Int))
  | 0, _, _, _, _, _, _, _, _, _ => none
  | k + 1, b1_0, b1_1, b1_2, o2, o3, v1, v2, v13, v14 =>
    if decide (v14 < v13) = true then if (0 : Int) ≤ v14 then if v14 < (↑(List.length o3) : Int) then Option.bind (f_impl_explainsEnds k (b1_0, b1_1, b1_2) [(Prod.fst (List.getD o3 (Int.toNat v14) ((0 : Int), (0 : Int), (0 : Int))), Prod.fst (Prod.snd (List.getD o3 (Int.toNat v14) ((0 : Int), (0 : Int), (0 : Int)))), Prod.snd (Prod.snd (List.getD o3 (Int.toNat v14) ((0 : Int), (0 : Int), (0 : Int)))))] v1 v2) fun z1 => if z1 = true then if List.length o2 + List.length [(Prod.fst (List.getD o3 (Int.toNat v14) ((0 : Int), (0 : Int), (0 : Int))), Prod.fst (Prod.snd (List.getD o3 (Int.toNat v14) ((0 : Int), (0 : Int), (0 : Int)))), Prod.snd (Prod.snd (List.getD o3 (Int.toNat v14) ((0 : Int), (0 : Int), (0 : Int)))))] ≤ (140737488355328 / 24 : Nat) then f_impl_singleCauses_0 k b1_0 b1_1 b1_2 (o2 ++ [(Prod.fst (List.getD o3 (Int.toNat v14) ((0 : Int), (0 : Int), (0 : Int))), Prod.fst (Prod.snd (List.getD o3 (Int.toNat v14) ((0 : Int), (0 : Int), (0 : Int)))), Prod.snd (Prod.snd (List.getD o3 (Int.toNat v14) ((0 : Int), (0 : Int), (0 : Int)))))]) o3 v1 v2 v13 (wrap64 (v14 + (1 : Int))) else none else f_impl_singleCauses_0 k b1_0 b1_1 b1_2 o2 o3 v1 v2 v13 (wrap64 (v14 + (1 : Int))) else none else none else some o2
noncomputable def f_impl_singleCauses_0i : Spec := Spec.mk [OSh.ro, OSh.box (43 : Nat) [Sh.int IntKind.i64, Sh.int IntKind.i64, Sh.snap (0 : Nat) (Ty.pair (Ty.int IntKind.i64) (Ty.int IntKind.i64))], OSh.row true (26 : Nat) (Ty.pair (Ty.int IntKind.i64) (Ty.pair (Ty.int IntKind.i64) (Ty.int IntKind.i64))), OSh.row true (26 : Nat) (Ty.pair (Ty.int IntKind.i64) (Ty.pair (Ty.int IntKind.i64) (Ty.int IntKind.i64)))] [((1 : Nat), TSh.at (Sh.snap (0 : Nat) (Ty.int IntKind.i64))), ((2 : Nat), TSh.at (Sh.snap (0 : Nat) (Ty.pair (Ty.int IntKind.i64) (Ty.pair (Ty.int IntKind.i64) (Ty.int IntKind.i64))))), ((3 : Nat), TSh.at (Sh.ptr (1 : Nat) (0 : Nat))), ((7 : Nat), TSh.at (Sh.sl (2 : Nat))), ((12 : Nat), TSh.at (Sh.sl (3 : Nat))), ((13 : Nat), TSh.at (Sh.int IntKind.i64)), ((14 : Nat), TSh.at (Sh.int IntKind.i64))]
noncomputable def f_impl_singleCauses_0o : Spec := Spec.mk [OSh.ro, OSh.row true (26 : Nat) (Ty.pair (Ty.int IntKind.i64) (Ty.pair (Ty.int IntKind.i64) (Ty.int IntKind.i64)))] [((7 : Nat), TSh.at (Sh.sl (1 : Nat)))]
noncomputable def f_impl_singleCauses_0D : LoopDef (Tup r_impl_singleCauses × OutD) := .plain f_impl_singleCauses_0i f_impl_singleCauses_0o (List (Int × Int × Int)) (fun k x => f_impl_singleCauses_0 k x.1.2.1.1 x.1.2.1.2.1 x.1.2.1.2.2.1 x.1.2.2.1 x.1.2.2.2.1 x.2.1 x.2.2.1 x.2.2.2.2.2.2.1 x.2.2.2.2.2.2.2.1) (fun z => (((), z, ()), ((), ()))) (fun y => (y.1.2.1)) (fun _ => rfl)
noncomputable def f_impl_singleCauses : Nat → Int × Int × List (Int × Int) → List Int → List (Int × Int × Int) → Option (List (Int × Int × Int))
  | 0, _, _, _ => none
  | k + 1, p0, p1, p2 =>
    Option.bind (f_impl_possibleFaults k (Prod.fst p0, Prod.fst (Prod.snd p0), Prod.snd (Prod.snd p0))) fun z0 => Option.bind (f_impl_singleCauses_0 k (Prod.fst p0) (Prod.fst (Prod.snd p0)) (Prod.snd (Prod.snd p0)) [] z0 p1 p2 (↑(List.length z0) : Int) (0 : Int)) fun z2 => some z2
noncomputable def d_impl_singleCauses : FnDef := .of q_impl_singleCauses r_impl_singleCauses (List (Int × Int × Int)) (fun k x => f_impl_singleCauses k x.1 x.2.1 x.2.2.1) to_impl_singleCauses of_impl_singleCauses to_of_impl_singleCauses
noncomputable def c_impl_singleCauses : Code := Tryd.f35.body.getD .skip
noncomputable def x_impl_singleCauses : Ctx (Tup r_impl_singleCauses × OutD) := { T := T, G := [(48, d_impl_possibleFaults.E), (49, d_impl_explainsEnds.E)], mvs := [], no := 0, n := 30, res := resOf T q_impl_singleCauses r_impl_singleCauses Tryd.f35.results.toList, loops := [(0, f_impl_singleCauses_0D.E)], regs := [], conds := [] }
theorem g_impl_singleCauses (k : Nat) : EnvOK Tryd.prog k x_impl_singleCauses.G := (EnvOK.cons (s_impl_possibleFaults k) (EnvOK.cons (s_impl_explainsEnds k) (EnvOK.nil mixed)))
noncomputable def f_impl_singleCauses_0B : Code := (findLoop 0 c_impl_singleCauses).getD .skip
theorem f_impl_singleCauses_0h (k : Nat) (x : f_impl_singleCauses_0i.D) : f_impl_singleCauses_0D.lp (k + 1) x = loopK x_impl_singleCauses f_impl_singleCauses_0D 0 f_impl_singleCauses_0B k x := by kernel_rfl
theorem f_impl_singleCauses_0l (k : Nat) : LOK Tryd.prog x_impl_singleCauses k f_impl_singleCauses_0B := LOK.by [] (by kernel_rfl) AllOK.nil
theorem f_impl_singleCauses_0z (x : f_impl_singleCauses_0i.D) : f_impl_singleCauses_0D.lp 0 x = none := by kernel_rfl
theorem f_impl_singleCauses_0ok (k : Nat) : EOK Tryd.prog x_impl_singleCauses k f_impl_singleCauses_0D.E (.block 0 (.loop f_impl_singleCauses_0B)) := loop_ok T_ok g_impl_singleCauses f_impl_singleCauses_0z f_impl_singleCauses_0h f_impl_singleCauses_0l k
theorem h_impl_singleCauses (k : Nat) (x : Tup d_impl_singleCauses.ps) : d_impl_singleCauses.f (k + 1) x = fnK d_impl_singleCauses x_impl_singleCauses c_impl_singleCauses k x := by kernel_rfl
theorem z_impl_singleCauses (x : Tup d_impl_singleCauses.ps) : d_impl_singleCauses.f 0 x = none := by kernel_rfl
theorem l_impl_singleCauses (k : Nat) : LOK Tryd.prog x_impl_singleCauses k c_impl_singleCauses := LOK.by [(f_impl_singleCauses_0D.E, .block 0 (.loop f_impl_singleCauses_0B))] (by kernel_rfl) (AllOK.cons (f_impl_singleCauses_0ok k) AllOK.nil)
theorem s_impl_singleCauses (k : Nat) : SoundAt Tryd.prog k 35 d_impl_singleCauses.E := @fn_all Tryd.prog d_impl_singleCauses x_impl_singleCauses 35 Tryd.f35 c_impl_singleCauses (by kernel_rfl) (by kernel_rfl) (by kernel_rfl) Tryd.func35 (by kernel_rfl) (by kernel_rfl) (by kernel_rfl) T_ok g_impl_singleCauses l_impl_singleCauses z_impl_singleCauses h_impl_singleCauses k
end
end Go.Proofs.YtkmbhhgibgocpaaDoor.Vs

set_option maxRecDepth 100000
set_option maxHeartbeats 2000000
set_option linter.unusedVariables false
set_option linter.unusedSimpArgs false
namespace Go.Proofs.YtkmbhhgibgocpaaDoor.Vs
open Go.RowKit
noncomputable section
/-! function 4 -/
/-! function 14 -/
noncomputable def r_spec_CausesText : List PK := [PK.mk Ty.str false none false none, PK.mk Ty.bool false none false none]
noncomputable def q_spec_CausesText : List PK := [PK.mk (Ty.pair (Ty.int IntKind.i64) (Ty.pair (Ty.int IntKind.i64) (Ty.slice (78 : Nat) (Ty.pair (Ty.int IntKind.i64) (Ty.int IntKind.i64))))) true none false none, PK.mk (Ty.slice (3 : Nat) (Ty.int IntKind.i64)) false none false none, PK.mk (Ty.slice (67 : Nat) (Ty.pair (Ty.int IntKind.i64) (Ty.pair (Ty.int IntKind.i64) (Ty.int IntKind.i64)))) false none false none]
noncomputable def to_spec_CausesText (r : ByteArray × Bool) : Tup r_spec_CausesText × OutD := ((r.1, r.2, ()), none)
noncomputable def of_spec_CausesText : Tup r_spec_CausesText × OutD → Option (ByteArray × Bool)
  | (a, none) => some (a.1, a.2.1)
  | _ => none
theorem to_of_spec_CausesText : ∀ b r, of_spec_CausesText b = some r → to_spec_CausesText r = b := by
  rintro ⟨a, o⟩ r h
  cases o with
  | none => injection h with h; subst h; rfl
  | some _ => cases h
noncomputable def f_spec_CausesText_0 : Nat → List (Int × Int × Int) → ByteArray → Int → Int → Option ByteArray
  | 0, _, _, _, _ => none
  | k + 1, o1, v8, v20, v21 =>
    if decide (v21 < v20) = true then if (0 : Int) ≤ v21 then if v21 < (↑(List.length o1) : Int) then Option.bind (f_spec_faName k (Prod.fst (List.getD o1 (Int.toNat v21) ((0 : Int), (0 : Int), (0 : Int))), Prod.fst (Prod.snd (List.getD o1 (Int.toNat v21) ((0 : Int), (0 : Int), (0 : Int)))), Prod.snd (Prod.snd (List.getD o1 (Int.toNat v21) ((0 : Int), (0 : Int), (0 : Int)))))) fun z2 => if ByteArray.size z2 + ByteArray.size (ByteArray.mk #[(10 : UInt8)]) ≤ (9223372036854775807 : Nat) then if ByteArray.size v8 + ByteArray.size (z2 ++ ByteArray.mk #[(10 : UInt8)]) ≤ (9223372036854775807 : Nat) then f_spec_CausesText_0 k o1 (v8 ++ (z2 ++ ByteArray.mk #[(10 : UInt8)])) v20 (wrap64 (v21 + (1 : Int))) else none else none else none else none else some v8
noncomputable def f_spec_CausesText_0i : Spec := Spec.mk [OSh.ro, OSh.row true (26 : Nat) (Ty.pair (Ty.int IntKind.i64) (Ty.pair (Ty.int IntKind.i64) (Ty.int IntKind.i64)))] [((8 : Nat), TSh.at Sh.str), ((19 : Nat), TSh.at (Sh.sl (1 : Nat))), ((20 : Nat), TSh.at (Sh.int IntKind.i64)), ((21 : Nat), TSh.at (Sh.int IntKind.i64))]
noncomputable def f_spec_CausesText_0o : Spec := Spec.mk [OSh.ro] [((8 : Nat), TSh.at Sh.str)]
noncomputable def f_spec_CausesText_0D : LoopDef (Tup r_spec_CausesText × OutD) := .plain f_spec_CausesText_0i f_spec_CausesText_0o (ByteArray) (fun k x => f_spec_CausesText_0 k x.1.2.1 x.2.1 x.2.2.2.1 x.2.2.2.2.1) (fun z => (((), ()), (z, ()))) (fun y => (y.2.1)) (fun _ => rfl)
noncomputable def f_spec_CausesText : Nat → Int × Int × List (Int × Int) → List Int → List (Int × Int × Int) → Option (ByteArray × Bool)
  | 0, _, _, _ => none
  | k + 1, p0, p1, p2 =>
    Option.bind (f_spec_dgGood k (Prod.fst p0, Prod.fst (Prod.snd p0), Prod.snd (Prod.snd p0)) p1 p2) fun z0 => if (!z0) = true then some (ByteArray.mk #[], false) else Option.bind (f_spec_dgSingle k (Prod.fst p0, Prod.fst (Prod.snd p0), Prod.snd (Prod.snd p0)) p1 p2) fun z1 => Option.bind (f_spec_CausesText_0 k z1 (ByteArray.mk #[]) (↑(List.length z1) : Int) (0 : Int)) fun z3 => some (z3, true)
noncomputable def d_spec_CausesText : FnDef := .of q_spec_CausesText r_spec_CausesText (ByteArray × Bool) (fun k x => f_spec_CausesText k x.1 x.2.1 x.2.2.1) to_spec_CausesText of_spec_CausesText to_of_spec_CausesText
noncomputable def c_spec_CausesText : Code := Tryd.f14.body.getD .skip
noncomputable def x_spec_CausesText : Ctx (Tup r_spec_CausesText × OutD) := { T := T, G := [(30, d_spec_dgGood.E), (31, d_spec_dgSingle.E), (23, d_spec_faName.E)], mvs := [], no := 0, n := 32, res := resOf T q_spec_CausesText r_spec_CausesText Tryd.f14.results.toList, loops := [(0, f_spec_CausesText_0D.E)], regs := [], conds := [] }
theorem g_spec_CausesText (k : Nat) : EnvOK Tryd.prog k x_spec_CausesText.G := (EnvOK.cons (s_spec_dgGood k) (EnvOK.cons (s_spec_dgSingle k) (EnvOK.cons (s_spec_faName k) (EnvOK.nil mixed))))
noncomputable def f_spec_CausesText_0B : Code := (findLoop 0 c_spec_CausesText).getD .skip
theorem f_spec_CausesText_0h (k : Nat) (x : f_spec_CausesText_0i.D) : f_spec_CausesText_0D.lp (k + 1) x = loopK x_spec_CausesText f_spec_CausesText_0D 0 f_spec_CausesText_0B k x := by kernel_rfl
theorem f_spec_CausesText_0l (k : Nat) : LOK Tryd.prog x_spec_CausesText k f_spec_CausesText_0B := LOK.by [] (by kernel_rfl) AllOK.nil
theorem f_spec_CausesText_0z (x : f_spec_CausesText_0i.D) : f_spec_CausesText_0D.lp 0 x = none := by kernel_rfl
theorem f_spec_CausesText_0ok (k : Nat) : EOK Tryd.prog x_spec_CausesText k f_spec_CausesText_0D.E (.block 0 (.loop f_spec_CausesText_0B)) := loop_ok T_ok g_spec_CausesText f_spec_CausesText_0z f_spec_CausesText_0h f_spec_CausesText_0l k
theorem h_spec_CausesText (k : Nat) (x : Tup d_spec_CausesText.ps) : d_spec_CausesText.f (k + 1) x = fnK d_spec_CausesText x_spec_CausesText c_spec_CausesText k x := by kernel_rfl
theorem z_spec_CausesText (x : Tup d_spec_CausesText.ps) : d_spec_CausesText.f 0 x = none := by kernel_rfl
theorem l_spec_CausesText (k : Nat) : LOK Tryd.prog x_spec_CausesText k c_spec_CausesText := LOK.by [(f_spec_CausesText_0D.E, .block 0 (.loop f_spec_CausesText_0B))] (by kernel_rfl) (AllOK.cons (f_spec_CausesText_0ok k) AllOK.nil)
theorem s_spec_CausesText (k : Nat) : SoundAt Tryd.prog k 14 d_spec_CausesText.E := @fn_all Tryd.prog d_spec_CausesText x_spec_CausesText 14 Tryd.f14 c_spec_CausesText (by kernel_rfl) (by kernel_rfl) (by kernel_rfl) Tryd.func14 (by kernel_rfl) (by kernel_rfl) (by kernel_rfl) T_ok g_spec_CausesText l_spec_CausesText z_spec_CausesText h_spec_CausesText k
/-! function 18 -/
noncomputable def r_impl_CausesText : List PK := [PK.mk Ty.str false none false none, PK.mk Ty.bool false none false none]
noncomputable def q_impl_CausesText : List PK := [PK.mk (Ty.pair (Ty.int IntKind.i64) (Ty.pair (Ty.int IntKind.i64) (Ty.slice (78 : Nat) (Ty.pair (Ty.int IntKind.i64) (Ty.int IntKind.i64))))) true none false none, PK.mk (Ty.slice (3 : Nat) (Ty.int IntKind.i64)) false none false none, PK.mk (Ty.slice (67 : Nat) (Ty.pair (Ty.int IntKind.i64) (Ty.pair (Ty.int IntKind.i64) (Ty.int IntKind.i64)))) false none false none]
noncomputable def to_impl_CausesText (r : ByteArray × Bool) : Tup r_impl_CausesText × OutD := ((r.1, r.2, ()), none)
noncomputable def of_impl_CausesText : Tup r_impl_CausesText × OutD → Option (ByteArray × Bool)
  | (a, none) => some (a.1, a.2.1)
  | _ => none
theorem to_of_impl_CausesText : ∀ b r, of_impl_CausesText b = some r → to_impl_CausesText r = b := by
  rintro ⟨a, o⟩ r h
  cases o with
  | none => injection h with h; subst h; rfl
  | some _ => cases h
noncomputable def f_impl_CausesText_0 : Nat → List (Int × Int × Int) → ByteArray → Int → Int → Option ByteArray
  | 0, _, _, _, _ => none
  | k + 1, o1, v8, v22, v23 =>
    if decide (v23 < v22) = true then if (0 : Int) ≤ v23 then if v23 < (↑(List.length o1) : Int) then Option.bind (f_impl_FaultName k (Prod.fst (List.getD o1 (Int.toNat v23) ((0 : Int), (0 : Int), (0 : Int))), Prod.fst (Prod.snd (List.getD o1 (Int.toNat v23) ((0 : Int), (0 : Int), (0 : Int)))), Prod.snd (Prod.snd (List.getD o1 (Int.toNat v23) ((0 : Int), (0 : Int), (0 : Int)))))) fun z2 => if ByteArray.size (Prod.fst z2) + ByteArray.size (ByteArray.mk #[(10 : UInt8)]) ≤ (9223372036854775807 : Nat) then if ByteArray.size v8 + ByteArray.size (Prod.fst z2 ++ ByteArray.mk #[(10 : UInt8)]) ≤ (9223372036854775807 : Nat) then f_impl_CausesText_0 k o1 (v8 ++ (Prod.fst z2 ++ ByteArray.mk #[(10 : UInt8)])) v22 (wrap64 (v23 + (1 : Int))) else none else none else none else none else some v8
noncomputable def f_impl_CausesText_0i : Spec := Spec.mk [OSh.ro, OSh.row true (26 : Nat) (Ty.pair (Ty.int IntKind.i64) (Ty.pair (Ty.int IntKind.i64) (Ty.int IntKind.i64)))] [((8 : Nat), TSh.at Sh.str), ((21 : Nat), TSh.at (Sh.sl (1 : Nat))), ((22 : Nat), TSh.at (Sh.int IntKind.i64)), ((23 : Nat), TSh.at (Sh.int IntKind.i64))]
noncomputable def f_impl_CausesText_0o : Spec := Spec.mk [OSh.ro] [((8 : Nat), TSh.at Sh.str)]
noncomputable def f_impl_CausesText_0D : LoopDef (Tup r_impl_CausesText × OutD) := .plain f_impl_CausesText_0i f_impl_CausesText_0o (ByteArray) (fun k x => f_impl_CausesText_0 k x.1.2.1 x.2.1 x.2.2.2.1 x.2.2.2.2.1) (fun z => (((), ()), (z, ()))) (fun y => (y.2.1)) (fun _ => rfl)
noncomputable def f_impl_CausesText : Nat → Int × Int × List (Int × Int) → List Int → List (Int × Int × Int) → Option (ByteArray × Bool)
  | 0, _, _, _ => none
  | k + 1, p0, p1, p2 =>
    Option.bind (f_impl_isSeen k (Prod.fst p0, Prod.fst (Prod.snd p0), Prod.snd (Prod.snd p0)) p1 p2) fun z0 => if (!z0) = true then some (ByteArray.mk #[], false) else Option.bind (f_impl_singleCauses k (Prod.fst p0, Prod.fst (Prod.snd p0), Prod.snd (Prod.snd p0)) p1 p2) fun z1 => Option.bind (f_impl_CausesText_0 k z1 (ByteArray.mk #[]) (↑(List.length z1) : Int) (0 : Int)) fun z3 => some (z3, true)
noncomputable def d_impl_CausesText : FnDef := .of q_impl_CausesText r_impl_CausesText (ByteArray × Bool) (fun k x => f_impl_CausesText k x.1 x.2.1 x.2.2.1) to_impl_CausesText of_impl_CausesText to_of_impl_CausesText
noncomputable def c_impl_CausesText : Code := Tryd.f18.body.getD .skip
noncomputable def x_impl_CausesText : Ctx (Tup r_impl_CausesText × OutD) := { T := T, G := [(34, d_impl_isSeen.E), (35, d_impl_singleCauses.E), (8, d_impl_FaultName.E)], mvs := [], no := 0, n := 38, res := resOf T q_impl_CausesText r_impl_CausesText Tryd.f18.results.toList, loops := [(0, f_impl_CausesText_0D.E)], regs := [], conds := [] }
theorem g_impl_CausesText (k : Nat) : EnvOK Tryd.prog k x_impl_CausesText.G := (EnvOK.cons (s_impl_isSeen k) (EnvOK.cons (s_impl_singleCauses k) (EnvOK.cons (s_impl_FaultName k) (EnvOK.nil mixed))))
noncomputable def f_impl_CausesText_0B : Code := (findLoop 0 c_impl_CausesText).getD .skip
theorem f_impl_CausesText_0h (k : Nat) (x : f_impl_CausesText_0i.D) : f_impl_CausesText_0D.lp (k + 1) x = loopK x_impl_CausesText f_impl_CausesText_0D 0 f_impl_CausesText_0B k x := by kernel_rfl
theorem f_impl_CausesText_0l (k : Nat) : LOK Tryd.prog x_impl_CausesText k f_impl_CausesText_0B := LOK.by [] (by kernel_rfl) AllOK.nil
theorem f_impl_CausesText_0z (x : f_impl_CausesText_0i.D) : f_impl_CausesText_0D.lp 0 x = none := by kernel_rfl
theorem f_impl_CausesText_0ok (k : Nat) : EOK Tryd.prog x_impl_CausesText k f_impl_CausesText_0D.E (.block 0 (.loop f_impl_CausesText_0B)) := loop_ok T_ok g_impl_CausesText f_impl_CausesText_0z f_impl_CausesText_0h f_impl_CausesText_0l k
theorem h_impl_CausesText (k : Nat) (x : Tup d_impl_CausesText.ps) : d_impl_CausesText.f (k + 1) x = fnK d_impl_CausesText x_impl_CausesText c_impl_CausesText k x := by kernel_rfl
theorem z_impl_CausesText (x : Tup d_impl_CausesText.ps) : d_impl_CausesText.f 0 x = none := by kernel_rfl
theorem l_impl_CausesText (k : Nat) : LOK Tryd.prog x_impl_CausesText k c_impl_CausesText := LOK.by [(f_impl_CausesText_0D.E, .block 0 (.loop f_impl_CausesText_0B))] (by kernel_rfl) (AllOK.cons (f_impl_CausesText_0ok k) AllOK.nil)
theorem s_impl_CausesText (k : Nat) : SoundAt Tryd.prog k 18 d_impl_CausesText.E := @fn_all Tryd.prog d_impl_CausesText x_impl_CausesText 18 Tryd.f18 c_impl_CausesText (by kernel_rfl) (by kernel_rfl) (by kernel_rfl) Tryd.func18 (by kernel_rfl) (by kernel_rfl) (by kernel_rfl) T_ok g_impl_CausesText l_impl_CausesText z_impl_CausesText h_impl_CausesText k
end
end Go.Proofs.YtkmbhhgibgocpaaDoor.Vs

set_option maxRecDepth 100000
set_option maxHeartbeats 2000000
set_option linter.unusedVariables false
set_option linter.unusedSimpArgs false
namespace Go.Proofs.YtkmbhhgibgocpaaDoor.Vs
open Go.RowKit
noncomputable section
/-! function 5 -/
noncomputable def r_laws_FnExactCausesText : List PK := [PK.mk Ty.bool false none false none]
noncomputable def q_laws_FnExactCausesText : List PK := [PK.mk (Ty.pair (Ty.int IntKind.i64) (Ty.pair (Ty.int IntKind.i64) (Ty.slice (80 : Nat) (Ty.pair (Ty.int IntKind.i64) (Ty.int IntKind.i64))))) true none false none, PK.mk (Ty.slice (3 : Nat) (Ty.int IntKind.i64)) false none false none, PK.mk (Ty.slice (69 : Nat) (Ty.pair (Ty.int IntKind.i64) (Ty.pair (Ty.int IntKind.i64) (Ty.int IntKind.i64)))) false none false none]
noncomputable def to_laws_FnExactCausesText (r : Bool) : Tup r_laws_FnExactCausesText × OutD := ((r, ()), none)
noncomputable def of_laws_FnExactCausesText : Tup r_laws_FnExactCausesText × OutD → Option (Bool)
  | (a, none) => some (a.1)
  | _ => none
theorem to_of_laws_FnExactCausesText : ∀ b r, of_laws_FnExactCausesText b = some r → to_laws_FnExactCausesText r = b := by
  rintro ⟨a, o⟩ r h
  cases o with
  | none => injection h with h; subst h; rfl
  | some _ => cases h
noncomputable def f_laws_FnExactCausesText : Nat → Int × Int × List (Int × Int) → List Int → List (Int × Int × Int) → Option Bool
  | 0, _, _, _ => none
  | k + 1, p0, p1, p2 =>
    if decide ((↑(List.length p1) : Int) > (1048576 : Int)) = true then some true else Option.bind (f_laws_szBoard k (Prod.fst p0, Prod.fst (Prod.snd p0), Prod.snd (Prod.snd p0)) (1048576 : Int)) fun z0 => if decide (z0 < (0 : Int)) = true then some true else Option.bind (f_laws_szFallS k p2 z0) fun z1 => if decide (z1 < (0 : Int)) = true then some true else Option.bind (f_laws_toBoard k (Prod.fst p0, Prod.fst (Prod.snd p0), Prod.snd (Prod.snd p0))) fun z2 => Option.bind (f_laws_toIntS k p1) fun z3 => Option.bind (f_laws_toFallS k p2) fun z4 => Option.bind (f_spec_CausesText k (Prod.fst z2, Prod.fst (Prod.snd z2), Prod.snd (Prod.snd z2)) z3 z4) fun z5 => Option.bind (f_laws_toBoard k (Prod.fst p0, Prod.fst (Prod.snd p0), Prod.snd (Prod.snd p0))) fun z6 => Option.bind (f_laws_toIntS k p1) fun z7 => Option.bind (f_laws_toFallS k p2) fun z8 => Option.bind (f_impl_CausesText k (Prod.fst z6, Prod.fst (Prod.snd z6), Prod.snd (Prod.snd z6)) z7 z8) fun z9 => if (!ByteArray.toList (Prod.fst z9) == ByteArray.toList (Prod.fst z5)) = true then some false else if (!Prod.snd z9 == Prod.snd z5) = true then some false else Option.bind (f_laws_toBoard k (Prod.fst p0, Prod.fst (Prod.snd p0), Prod.snd (Prod.snd p0))) fun z10 => Option.bind (f_laws_eqBoard k (Prod.fst z6, Prod.fst (Prod.snd z6), Prod.snd (Prod.snd z6)) (Prod.fst z10, Prod.fst (Prod.snd z10), Prod.snd (Prod.snd z10))) fun z11 => if (!z11) = true then some false else Option.bind (f_laws_toIntS k p1) fun z12 => Option.bind (f_laws_eqIntS k z7 z12) fun z13 => if (!z13) = true then some false else Option.bind (f_laws_toFallS k p2) fun z14 => Option.bind (f_laws_eqFallS k z8 z14) fun z15 => if (!z15) = true then some false else some true
noncomputable def d_laws_FnExactCausesText : FnDef := .of q_laws_FnExactCausesText r_laws_FnExactCausesText (Bool) (fun k x => f_laws_FnExactCausesText k x.1 x.2.1 x.2.2.1) to_laws_FnExactCausesText of_laws_FnExactCausesText to_of_laws_FnExactCausesText
noncomputable def c_laws_FnExactCausesText : Code := Tryd.f5.body.getD .skip
noncomputable def x_laws_FnExactCausesText : Ctx (Tup r_laws_FnExactCausesText × OutD) := { T := T, G := [(12, d_laws_szBoard.E), (13, d_laws_szFallS.E), (15, d_laws_toBoard.E), (16, d_laws_toIntS.E), (17, d_laws_toFallS.E), (14, d_spec_CausesText.E), (18, d_impl_CausesText.E), (19, d_laws_eqBoard.E), (20, d_laws_eqIntS.E), (21, d_laws_eqFallS.E)], mvs := [], no := 0, n := 74, res := resOf T q_laws_FnExactCausesText r_laws_FnExactCausesText Tryd.f5.results.toList, loops := [], regs := [], conds := [] }
theorem g_laws_FnExactCausesText (k : Nat) : EnvOK Tryd.prog k x_laws_FnExactCausesText.G := (EnvOK.cons (s_laws_szBoard k) (EnvOK.cons (s_laws_szFallS k) (EnvOK.cons (s_laws_toBoard k) (EnvOK.cons (s_laws_toIntS k) (EnvOK.cons (s_laws_toFallS k) (EnvOK.cons (s_spec_CausesText k) (EnvOK.cons (s_impl_CausesText k) (EnvOK.cons (s_laws_eqBoard k) (EnvOK.cons (s_laws_eqIntS k) (EnvOK.cons (s_laws_eqFallS k) (EnvOK.nil mixed)))))))))))
theorem h_laws_FnExactCausesText (k : Nat) (x : Tup d_laws_FnExactCausesText.ps) : d_laws_FnExactCausesText.f (k + 1) x = fnK d_laws_FnExactCausesText x_laws_FnExactCausesText c_laws_FnExactCausesText k x := by kernel_rfl
theorem z_laws_FnExactCausesText (x : Tup d_laws_FnExactCausesText.ps) : d_laws_FnExactCausesText.f 0 x = none := by kernel_rfl
theorem l_laws_FnExactCausesText (k : Nat) : LOK Tryd.prog x_laws_FnExactCausesText k c_laws_FnExactCausesText := LOK.by [] (by kernel_rfl) AllOK.nil
theorem s_laws_FnExactCausesText (k : Nat) : SoundAt Tryd.prog k 5 d_laws_FnExactCausesText.E := @fn_all Tryd.prog d_laws_FnExactCausesText x_laws_FnExactCausesText 5 Tryd.f5 c_laws_FnExactCausesText (by kernel_rfl) (by kernel_rfl) (by kernel_rfl) Tryd.func5 (by kernel_rfl) (by kernel_rfl) (by kernel_rfl) T_ok g_laws_FnExactCausesText l_laws_FnExactCausesText z_laws_FnExactCausesText h_laws_FnExactCausesText k
end
end Go.Proofs.YtkmbhhgibgocpaaDoor.Vs

set_option linter.unusedVariables false
set_option linter.unusedSimpArgs false
namespace Go.Proofs.YtkmbhhgibgocpaaDoor.Vs
open Go.RowKit
theorem e_spec_l1In (a b c : Int) : Ev (fun k => f_spec_l1In k a b c) (decide (b ≤ a ∧ a ≤ c)) := by
  refine Ev.succ ?_
  simp only [f_spec_l1In]
  refine Ev.of ?_
  by_cases h1 : b ≤ a <;> by_cases h2 : a ≤ c <;> simp [h1, h2]
theorem e_spec_l1All_0 (lo hi : Int) : ∀ (r pre : List Int), (pre ++ r).length ≤ 9223372036854775806 → Ev (fun k => f_spec_l1All_0 k lo hi (pre ++ r) ((pre ++ r).length : Int) (pre.length : Int)) (if r.all (fun n => decide (lo ≤ n ∧ n ≤ hi)) then LR.go () else LR.ret false)
  | [], pre, hl => by
    refine Ev.succ ?_
    simp only [f_spec_l1All_0, nlt_end, decide_false, Bool.false_eq_true, if_false, List.all_nil, if_true]
    exact Ev.some _
  | x :: r, pre, hl => by
    have ih := e_spec_l1All_0 lo hi r (pre ++ [x]) (by simpa using hl)
    refine Ev.succ ?_
    simp only [f_spec_l1All_0, lt_mid, ge_mid, decide_true, if_true, Int.toNat_natCast, getD_mid]
    rw [next_mid pre x r (by omega)]
    rw [← shift_mid] at ih
    refine Ev.bind (e_spec_l1In x lo hi) ?_
    by_cases hx : lo ≤ x ∧ x ≤ hi
    · simp only [hx, and_self, List.all_cons, decide_true, Bool.true_and, Bool.not_true, Bool.false_eq_true, if_false]; exact ih
    · simp only [hx, List.all_cons, decide_false, Bool.false_and, Bool.not_false, if_true, Bool.false_eq_true, if_false]; exact Ev.some _
theorem e_spec_l1All (l : List Int) (lo hi : Int) (hl : l.length ≤ 9223372036854775806) : Ev (fun k => f_spec_l1All k l lo hi) (l.all fun n => decide (lo ≤ n ∧ n ≤ hi)) := by
  refine Ev.succ ?_
  simp only [f_spec_l1All]
  refine Ev.bind (e_spec_l1All_0 lo hi l [] (by simpa using hl)) ?_
  cases hx : l.all fun n => decide (lo ≤ n ∧ n ≤ hi) with
  | true => simp only [if_true]; exact Ev.go (Ev.some _)
  | false => simp only [Bool.false_eq_true, if_false]; exact Ev.ret (Ev.some _)
end Go.Proofs.YtkmbhhgibgocpaaDoor.Vs

set_option linter.unusedVariables false
set_option linter.unusedSimpArgs false
namespace Go.Proofs.YtkmbhhgibgocpaaDoor.Vs
open Go.RowKit
/-- The names of the kinds. -/
def nameK : List ByteArray := [ByteArray.mk #[115, 116, 117, 99, 107], ByteArray.mk #[104, 111, 108, 101], ByteArray.mk #[116, 117, 114, 110, 101, 100]]
def atS : ByteArray := ByteArray.mk #[32, 97, 116, 32]
def commaS : ByteArray := ByteArray.mk #[44]
def dig (n : Int) : ByteArray := bytesOf [IntKind.wrap IntKind.u8 (wrap64 ((48 : Int) + n))]
def validF (p : Int × Int × Int) : Prop := 1 ≤ p.1 ∧ p.1 ≤ 3 ∧ 0 ≤ p.2.1 ∧ p.2.1 ≤ 9 ∧ 0 ≤ p.2.2 ∧ p.2.2 ≤ 9
instance (p : Int × Int × Int) : Decidable (validF p) := by unfold validF; infer_instance
def nameF (p : Int × Int × Int) : ByteArray := List.getD nameK (Int.toNat (p.1 - 1)) (ByteArray.mk #[]) ++ atS ++ dig p.2.1 ++ commaS ++ dig p.2.2
theorem size_app (a b : ByteArray) : (a ++ b).size = a.size + b.size := ByteArray.size_append
theorem size_dig (n : Int) : (dig n).size = 1 := rfl
theorem ten {n : Int} (h0 : 0 ≤ n) (h1 : n ≤ 9) : n = 0 ∨ n = 1 ∨ n = 2 ∨ n = 3 ∨ n = 4 ∨ n = 5 ∨ n = 6 ∨ n = 7 ∨ n = 8 ∨ n = 9 := by omega
theorem e_internal_strconv_small (n : Int) (h0 : 0 ≤ n) (h1 : n ≤ 9) : Ev (fun k => f_internal_strconv_small k n) (dig n) := by
  rcases ten h0 h1 with rfl | rfl | rfl | rfl | rfl | rfl | rfl | rfl | rfl | rfl <;> exact Ev.succ (Ev.of (by kernel_rfl))
theorem e_strconv_Itoa (n : Int) (h0 : 0 ≤ n) (h1 : n ≤ 9) : Ev (fun k => f_strconv_Itoa k n) (dig n) := by
  refine Ev.succ (Ev.bind (Ev.succ (Ev.bind (a := dig n) (Ev.succ ?_) (Ev.some _))) (Ev.some _))
  have h2 : n < 100 := by omega
  simp only [f_internal_strconv_FormatInt, decide_eq_true_eq, if_true, h0, h2]
  exact Ev.bind (e_internal_strconv_small n h0 h1) (Ev.some _)
theorem e_spec_l1Num (n : Int) (h0 : 0 ≤ n) (h1 : n ≤ 9) : Ev (fun k => f_spec_l1Num k n) (dig n) := by
  refine Ev.succ ?_
  have h2 : n < 10 := by omega
  simp only [f_spec_l1Num, decide_eq_true_eq, if_true, h2]
  exact Ev.some _
theorem e_impl_FaultName (p : Int × Int × Int) (h : validF p) : Ev (fun k => f_impl_FaultName k p) (nameF p, true) := by
  obtain ⟨kind, row, column⟩ := p
  obtain ⟨a1, a2, a3, a4, a5, a6⟩ := h
  simp only at a1 a2 a3 a4 a5 a6
  refine Ev.succ ?_
  have b1 : ¬ kind < 1 := by omega
  have b2 : ¬ kind > 3 := by omega
  have b3 : ¬ row < 0 := by omega
  have b4 : ¬ row > 9 := by omega
  have b5 : ¬ column < 0 := by omega
  have b6 : ¬ column > 9 := by omega
  have b7 : wrap64 (kind - 1) = kind - 1 := w64 (by omega) (by omega)
  have b8 : (0 : Int) ≤ kind - 1 := by omega
  have b9 : kind - 1 < ((3 : Nat) : Int) := by omega
  have b10 : (kind - 1).toNat < 3 := by omega
  simp only [f_impl_FaultName, decide_eq_true_eq, if_false, if_true, b1, b2, b3, b4, b5, b6, b7, b8, b9, b10, List.length_cons, List.length_nil]
  have hk : kind = 1 ∨ kind = 2 ∨ kind = 3 := by omega
  have go : ∀ s : ByteArray, s.size ≤ 10 → Ev (fun k => if s.size + (ByteArray.mk #[32, 97, 116, 32]).size ≤ 9223372036854775807 then Option.bind (f_strconv_Itoa k row) fun z0 => if (s ++ ByteArray.mk #[32, 97, 116, 32]).size + z0.size ≤ 9223372036854775807 then if (s ++ ByteArray.mk #[32, 97, 116, 32] ++ z0).size + (ByteArray.mk #[44]).size ≤ 9223372036854775807 then Option.bind (f_strconv_Itoa k column) fun z1 => if (s ++ ByteArray.mk #[32, 97, 116, 32] ++ z0 ++ ByteArray.mk #[44]).size + z1.size ≤ 9223372036854775807 then some (s ++ ByteArray.mk #[32, 97, 116, 32] ++ z0 ++ ByteArray.mk #[44] ++ z1, true) else none else none else none else none)
      (s ++ atS ++ dig row ++ commaS ++ dig column, true) := by
    intro s hs
    have e1 : (ByteArray.mk #[32, 97, 116, 32]).size = 4 := rfl
    have e2 : (ByteArray.mk #[44]).size = 1 := rfl
    refine Ev.ite (fun _ => ?_) (fun hn => (hn (by rw [e1]; omega)).elim)
    refine Ev.bind (e_strconv_Itoa row a3 a4) ?_
    refine Ev.ite (fun _ => ?_) (fun hn => (hn (by simp only [size_app, e1, size_dig]; omega)).elim)
    refine Ev.ite (fun _ => ?_) (fun hn => (hn (by simp only [size_app, e1, e2, size_dig]; omega)).elim)
    refine Ev.bind (e_strconv_Itoa column a5 a6) ?_
    refine Ev.ite (fun _ => ?_) (fun hn => (hn (by simp only [size_app, e1, e2, size_dig]; omega)).elim)
    exact Ev.some _
  rcases hk with rfl | rfl | rfl
  · exact go (ByteArray.mk #[115, 116, 117, 99, 107]) (by decide)
  · exact go (ByteArray.mk #[104, 111, 108, 101]) (by decide)
  · exact go (ByteArray.mk #[116, 117, 114, 110, 101, 100]) (by decide)
theorem e_spec_faName (p : Int × Int × Int) (h : validF p) : Ev (fun k => f_spec_faName k p) (nameF p) := by
  obtain ⟨kind, row, column⟩ := p
  obtain ⟨a1, a2, a3, a4, a5, a6⟩ := h
  simp only at a1 a2 a3 a4 a5 a6
  refine Ev.succ ?_
  have b1 : (0 : Int) ≤ kind := by omega
  have b2 : kind < ((4 : Nat) : Int) := by omega
  simp only [f_spec_faName]
  refine Ev.bind (Ev.succ (Ev.some _)) ?_
  simp only [if_true, b1, b2, List.length_cons, List.length_nil, Nat.reduceAdd, Nat.zero_add]
  have hk : kind = 1 ∨ kind = 2 ∨ kind = 3 := by omega
  have go : ∀ s : ByteArray, s.size ≤ 10 → Ev (fun k => if s.size + (ByteArray.mk #[32, 97, 116, 32]).size ≤ 9223372036854775807 then Option.bind (f_spec_l1Num k row) fun z0 => if (s ++ ByteArray.mk #[32, 97, 116, 32]).size + z0.size ≤ 9223372036854775807 then if (s ++ ByteArray.mk #[32, 97, 116, 32] ++ z0).size + (ByteArray.mk #[44]).size ≤ 9223372036854775807 then Option.bind (f_spec_l1Num k column) fun z1 => if (s ++ ByteArray.mk #[32, 97, 116, 32] ++ z0 ++ ByteArray.mk #[44]).size + z1.size ≤ 9223372036854775807 then some (s ++ ByteArray.mk #[32, 97, 116, 32] ++ z0 ++ ByteArray.mk #[44] ++ z1) else none else none else none else none)
      (s ++ atS ++ dig row ++ commaS ++ dig column) := by
    intro s hs
    have e1 : (ByteArray.mk #[32, 97, 116, 32]).size = 4 := rfl
    have e2 : (ByteArray.mk #[44]).size = 1 := rfl
    refine Ev.ite (fun _ => ?_) (fun hn => (hn (by rw [e1]; omega)).elim)
    refine Ev.bind (e_spec_l1Num row a3 a4) ?_
    refine Ev.ite (fun _ => ?_) (fun hn => (hn (by simp only [size_app, e1, size_dig]; omega)).elim)
    refine Ev.ite (fun _ => ?_) (fun hn => (hn (by simp only [size_app, e1, e2, size_dig]; omega)).elim)
    refine Ev.bind (e_spec_l1Num column a5 a6) ?_
    refine Ev.ite (fun _ => ?_) (fun hn => (hn (by simp only [size_app, e1, e2, size_dig]; omega)).elim)
    exact Ev.some _
  rcases hk with rfl | rfl | rfl
  · exact go (ByteArray.mk #[115, 116, 117, 99, 107]) (by decide)
  · exact go (ByteArray.mk #[104, 111, 108, 101]) (by decide)
  · exact go (ByteArray.mk #[116, 117, 114, 110, 101, 100]) (by decide)
end Go.Proofs.YtkmbhhgibgocpaaDoor.Vs

set_option linter.unusedVariables false
set_option linter.unusedSimpArgs false
namespace Go.Proofs.YtkmbhhgibgocpaaDoor.Vs
open Go.RowKit
theorem e_laws_toCell (x : Int × Int) : Ev (fun k => f_laws_toCell k x) x := Ev.succ (Ev.of rfl)
theorem e_laws_eqCell (x y : Int × Int) : Ev (fun k => f_laws_eqCell k x y) (decide (x = y)) := by
  obtain ⟨a0, a1⟩ := x
  obtain ⟨b0, b1⟩ := y
  refine Ev.succ ?_
  simp only [f_laws_eqCell]
  refine Ev.of ?_
  by_cases h0 : a0 = b0 <;> by_cases h1 : a1 = b1 <;> simp [h0, h1]
theorem e_laws_szCellS (l : List (Int × Int)) (n : Int) (h0 : 0 ≤ n) (h1 : n ≤ 1048576) (hl : l.length ≤ 9223372036854775807) : Ev (fun k => f_laws_szCellS k l n) (if n - l.length < 0 then -1 else n - l.length) := by
  refine Ev.succ ?_
  simp only [f_laws_szCellS]
  refine Ev.of ?_
  rw [w64 (by omega) (by omega)]
  by_cases h : n - (l.length : Int) < 0 <;> simp [h]
theorem e_laws_toCellS_0 : ∀ (r pre rest : List (Int × Int)), rest.length = r.length → (pre ++ r).length ≤ 1048576 → Ev (fun k => f_laws_toCellS_0 k (pre ++ rest) (pre ++ r) (pre.length : Int)) (pre ++ r)
  | [], pre, rest, h, hl => by
    obtain rfl : rest = [] := List.eq_nil_of_length_eq_zero h
    refine Ev.succ ?_
    simp only [f_laws_toCellS_0, nlt_end, decide_false, Bool.false_eq_true, if_false]
    exact Ev.some _
  | x :: r, pre, [], h, hl => by simp at h
  | x :: r, pre, y :: rest, h, hl => by
    have ih := e_laws_toCellS_0 r (pre ++ [x]) rest (by simpa using h) (by simpa using hl)
    refine Ev.succ ?_
    simp only [f_laws_toCellS_0, lt_mid, ge_mid, decide_true, if_true, Int.toNat_natCast, getD_mid, set_mid]
    rw [next_mid pre x r (by omega)]
    refine Ev.bind (e_laws_toCell x) ?_
    rw [← shift_mid, ← shift_mid] at ih
    exact ih
theorem e_laws_toCellS (l : List (Int × Int)) (hl : l.length ≤ 1048576) : Ev (fun k => f_laws_toCellS k l) l := by
  refine Ev.succ ?_
  have hm : l.length * 16 ≤ 281474976710656 := by omega
  simp only [f_laws_toCellS, Int.toNat_natCast, hm, if_true]
  exact Ev.bind (e_laws_toCellS_0 l [] (List.replicate l.length (0, 0)) (by simp) (by simpa using hl)) (Ev.some _)
theorem e_laws_eqCellS_0 : ∀ (r s pre : List (Int × Int)) (pre' : List (Int × Int)), s.length = r.length → pre'.length = pre.length → (pre ++ r).length ≤ 9223372036854775806 → Ev (fun k => f_laws_eqCellS_0 k (pre ++ r) (pre' ++ s) (pre.length : Int)) (if r = s then LR.go () else LR.ret false)
  | [], s, pre, pre', h, hp, hl => by
    obtain rfl : s = [] := List.eq_nil_of_length_eq_zero h
    refine Ev.succ ?_
    simp only [f_laws_eqCellS_0, nlt_end, decide_false, Bool.false_eq_true, if_false, if_true]
    exact Ev.some _
  | x :: r, [], pre, pre', h, hp, hl => by simp at h
  | x :: r, y :: s, pre, pre', h, hp, hl => by
    have ih := e_laws_eqCellS_0 r s (pre ++ [x]) (pre' ++ [y]) (by simpa using h) (by simpa using hp) (by simpa using hl)
    have l2 : (pre.length : Int) < ((pre' ++ y :: s).length : Int) := by rw [← hp]; exact lt_mid _ _ _
    have g2 : List.getD (pre' ++ y :: s) pre.length (0, 0) = y := by rw [← hp]; exact getD_mid _ _ _ _
    refine Ev.succ ?_
    simp only [f_laws_eqCellS_0, lt_mid, ge_mid, l2, decide_true, if_true, Int.toNat_natCast, getD_mid, g2]
    rw [next_mid pre x r (by omega)]
    rw [← shift_mid, ← shift_mid] at ih
    refine Ev.bind (e_laws_eqCell x y) ?_
    by_cases hxy : x = y
    · subst hxy
      simp only [decide_true, Bool.not_true, Bool.false_eq_true, if_false]
      refine ih.congr ?_
      by_cases hrs : r = s <;> simp [hrs]
    · simp only [hxy, decide_false, Bool.not_false, if_true]
      refine Ev.of ?_
      rw [if_neg (by intro hc; injection hc with h1 h2; exact hxy h1)]
theorem e_laws_eqCellS (l m : List (Int × Int)) (hl : l.length ≤ 9223372036854775806) : Ev (fun k => f_laws_eqCellS k l m) (decide (l = m)) := by
  refine Ev.succ ?_
  simp only [f_laws_eqCellS]
  by_cases h : l.length = m.length
  · simp only [h, ne_eq, not_true_eq_false, decide_false, Bool.false_eq_true, if_false]
    refine Ev.bind (e_laws_eqCellS_0 l m [] [] h.symm rfl (by simpa using hl)) ?_
    by_cases hlm : l = m
    · rw [if_pos hlm]; simp only [hlm, decide_true]; exact Ev.go (Ev.some _)
    · rw [if_neg hlm]; simp only [hlm, decide_false]; exact Ev.ret (Ev.some _)
  · have h2 : ¬ (l.length : Int) = (m.length : Int) := by omega
    have h3 : ¬ l = m := fun hc => h (by rw [hc])
    simp only [ne_eq, h2, not_false_eq_true, decide_true, if_true, h3, decide_false]
    exact Ev.some _
abbrev CellD := Int × Int
abbrev BoardD := Int × Int × List (Int × Int)
abbrev FaultD := Int × Int × Int
def turning (x : CellD) : Bool := decide (x.1 = 3 ∨ x.1 = 6)
def cellOK (x : CellD) : Bool := decide (0 ≤ x.1 ∧ x.1 ≤ 7 ∧ (x.2 = 0 ∨ (x.2 = 1 ∧ (x.1 = 3 ∨ x.1 = 6))))
def boardOK (b : BoardD) : Bool := decide (1 ≤ b.1 ∧ b.1 ≤ 10 ∧ 1 ≤ b.2.1 ∧ b.2.1 ≤ 9 ∧ (b.2.2.length : Int) = b.1 * b.2.1) && b.2.2.all cellOK
theorem e_spec_paTurning (x : CellD) : Ev (fun k => f_spec_paTurning k x) (turning x) := by
  refine Ev.succ ?_
  simp only [f_spec_paTurning]
  refine Ev.of ?_
  by_cases h1 : x.1 = 3 <;> simp [turning, h1]
theorem e_impl_IsCell (x : CellD) : Ev (fun k => f_impl_IsCell k x) (cellOK x) := by
  refine Ev.succ ?_
  simp only [f_impl_IsCell, decide_eq_true_eq]
  refine Ev.of ?_
  unfold cellOK
  repeat' split
  all_goals (congr 1; first | (symm; rw [decide_eq_true_eq]; omega) | (symm; rw [decide_eq_false_iff_not]; omega) | (apply decide_eq_decide.2; omega))
theorem e_spec_paGood (x : CellD) : Ev (fun k => f_spec_paGood k x) (cellOK x) := by
  refine Ev.succ ?_
  simp only [f_spec_paGood]
  refine Ev.bind (e_spec_l1In _ _ _) ?_
  refine Ev.ite (fun h => ?_) (fun h => ?_)
  · simp only [decide_eq_true_eq] at h
    refine Ev.ite (fun h2 => ?_) (fun h2 => ?_)
    · simp only [decide_eq_true_eq] at h2
      refine Ev.of ?_
      congr 1; simp [cellOK]; omega
    · simp only [decide_eq_true_eq] at h2
      refine Ev.ite (fun h3 => ?_) (fun h3 => ?_)
      · simp only [decide_eq_true_eq] at h3
        refine Ev.bind (e_spec_paTurning x) (Ev.of ?_)
        congr 1; unfold turning cellOK; by_cases h4 : x.1 = 3 ∨ x.1 = 6 <;> simp [h4] <;> omega
      · simp only [decide_eq_true_eq] at h3
        refine Ev.of ?_
        congr 1; simp [cellOK]; omega
  · simp only [decide_eq_true_eq] at h
    refine Ev.of ?_
    congr 1; simp [cellOK]; omega
theorem e_impl_IsTurning (x : CellD) : Ev (fun k => f_impl_IsTurning k x) (cellOK x && turning x) := by
  refine Ev.succ ?_
  simp only [f_impl_IsTurning]
  refine Ev.bind (e_impl_IsCell x) ?_
  refine Ev.ite (fun h => ?_) (fun h => ?_)
  · rw [h, Bool.true_and]
    refine Ev.of ?_
    by_cases h1 : x.1 = 3 <;> simp [turning, h1]
  · refine Ev.of ?_
    simp only [Bool.not_eq_true] at h
    rw [h]; rfl

/-! ### Boards -/
theorem e_impl_validCells_0 : ∀ (r pre : List CellD), (pre ++ r).length ≤ 9223372036854775806 → Ev (fun k => f_impl_validCells_0 k (pre ++ r) ((pre ++ r).length : Int) (pre.length : Int)) (if r.all cellOK then LR.go () else LR.ret false)
  | [], pre, hl => by
    refine Ev.succ ?_
    simp only [f_impl_validCells_0, nlt_end, decide_false, Bool.false_eq_true, if_false, List.all_nil, if_true]
    exact Ev.some _
  | x :: r, pre, hl => by
    have ih := e_impl_validCells_0 r (pre ++ [x]) (by simpa using hl)
    refine Ev.succ ?_
    simp only [f_impl_validCells_0, lt_mid, ge_mid, decide_true, if_true, Int.toNat_natCast, getD_mid]
    rw [next_mid pre x r (by omega)]
    rw [← shift_mid] at ih
    refine Ev.bind (e_impl_IsCell x) ?_
    cases hx : cellOK x with
    | true => simp only [hx, List.all_cons, Bool.true_and, Bool.not_true, Bool.false_eq_true, if_false]; exact ih
    | false => simp only [hx, List.all_cons, Bool.false_and, Bool.not_false, if_true, Bool.false_eq_true, if_false]; exact Ev.some _
theorem e_impl_validCells (l : List CellD) (hl : l.length ≤ 9223372036854775806) : Ev (fun k => f_impl_validCells k l) (decide (l.length ≤ 90) && l.all cellOK) := by
  refine Ev.succ ?_
  simp only [f_impl_validCells]
  refine Ev.ite (fun h => ?_) (fun h => ?_)
  · simp only [decide_eq_true_eq] at h
    refine Ev.of ?_
    have : ¬ l.length ≤ 90 := by omega
    simp [this]
  · simp only [decide_eq_true_eq] at h
    have h2 : l.length ≤ 90 := by omega
    refine Ev.bind (e_impl_validCells_0 l [] (by simpa using hl)) ?_
    simp only [h2, decide_true, Bool.true_and]
    cases hx : l.all cellOK with
    | true => simp only [if_true]; exact Ev.go (Ev.some _)
    | false => simp only [Bool.false_eq_true, if_false]; exact Ev.ret (Ev.some _)
theorem prod_small {a b : Int} (h1 : 1 ≤ a) (h2 : a ≤ 10) (h3 : 1 ≤ b) (h4 : b ≤ 9) : 1 ≤ a * b ∧ a * b ≤ 90 :=
  ⟨by have := Int.mul_le_mul h1 h3 (by omega) (by omega); omega, by have := Int.mul_le_mul h2 h4 (by omega) (by omega); omega⟩
theorem e_impl_IsBoard (b : BoardD) (hl : b.2.2.length ≤ 9223372036854775806) : Ev (fun k => f_impl_IsBoard k b) (boardOK b) := by
  refine Ev.succ ?_
  simp only [f_impl_IsBoard, ge_iff_le]
  have no : ∀ {c : Prop}, ¬ c → (boardOK b = true → c) → Option.some false = Option.some (boardOK b) := by
    intro c h1 h2
    cases hb : boardOK b with
    | true => exact absurd (h2 hb) h1
    | false => rfl
  have hb : boardOK b = true → 1 ≤ b.1 ∧ b.1 ≤ 10 ∧ 1 ≤ b.2.1 ∧ b.2.1 ≤ 9 ∧ (b.2.2.length : Int) = b.1 * b.2.1 := fun h => by
    unfold boardOK at h; simp only [Bool.and_eq_true, decide_eq_true_eq] at h; exact h.1
  refine Ev.ite (fun h1 => ?_) (fun h => Ev.of (no h (fun hh => by simpa using (hb hh).1)))
  refine Ev.ite (fun h2 => ?_) (fun h => Ev.of (no h (fun hh => by simpa using (hb hh).2.1)))
  refine Ev.ite (fun h3 => ?_) (fun h => Ev.of (no h (fun hh => by simpa using (hb hh).2.2.1)))
  refine Ev.ite (fun h4 => ?_) (fun h => Ev.of (no h (fun hh => by simpa using (hb hh).2.2.2.1)))
  simp only [decide_eq_true_eq] at h1 h2 h3 h4
  have hp := prod_small h1 h2 h3 h4
  rw [w64 (by omega) (by omega)]
  refine Ev.ite (fun h5 => ?_) (fun h => Ev.of (no h (fun hh => by simpa using (hb hh).2.2.2.2)))
  simp only [decide_eq_true_eq] at h5
  refine Ev.bind (e_impl_validCells _ hl) (Ev.of ?_)
  have h6 : b.2.2.length ≤ 90 := by omega
  congr 1
  simp only [boardOK, h1, h2, h3, h4, ← h5, h6, and_self, decide_true, Bool.true_and]
theorem e_spec_boGood_0 : ∀ (r pre : List CellD), (pre ++ r).length ≤ 9223372036854775806 → Ev (fun k => f_spec_boGood_0 k (pre ++ r) ((pre ++ r).length : Int) (pre.length : Int)) (if r.all cellOK then LR.go () else LR.ret false)
  | [], pre, hl => by
    refine Ev.succ ?_
    simp only [f_spec_boGood_0, nlt_end, decide_false, Bool.false_eq_true, if_false, List.all_nil, if_true]
    exact Ev.some _
  | x :: r, pre, hl => by
    have ih := e_spec_boGood_0 r (pre ++ [x]) (by simpa using hl)
    refine Ev.succ ?_
    simp only [f_spec_boGood_0, lt_mid, ge_mid, decide_true, if_true, Int.toNat_natCast, getD_mid]
    rw [next_mid pre x r (by omega)]
    rw [← shift_mid] at ih
    refine Ev.bind (e_spec_paGood x) ?_
    cases hx : cellOK x with
    | true => simp only [hx, List.all_cons, Bool.true_and, Bool.not_true, Bool.false_eq_true, if_false]; exact ih
    | false => simp only [hx, List.all_cons, Bool.false_and, Bool.not_false, if_true, Bool.false_eq_true, if_false]; exact Ev.some _
theorem e_spec_boGood (b : BoardD) (hl : b.2.2.length ≤ 9223372036854775806) : Ev (fun k => f_spec_boGood k b) (boardOK b) := by
  refine Ev.succ ?_
  simp only [f_spec_boGood]
  have no : ∀ {c : Prop}, ¬ c → (boardOK b = true → c) → Option.some false = Option.some (boardOK b) := by
    intro c h1 h2
    cases hb : boardOK b with
    | true => exact absurd (h2 hb) h1
    | false => rfl
  have hb : boardOK b = true → 1 ≤ b.1 ∧ b.1 ≤ 10 ∧ 1 ≤ b.2.1 ∧ b.2.1 ≤ 9 ∧ (b.2.2.length : Int) = b.1 * b.2.1 := fun h => by
    unfold boardOK at h; simp only [Bool.and_eq_true, decide_eq_true_eq] at h; exact h.1
  refine Ev.bind (e_spec_l1In _ _ _) (Ev.ite (fun h => Ev.of (no (c := 1 ≤ b.1 ∧ b.1 ≤ 10) (nd h) (fun hh => ⟨(hb hh).1, (hb hh).2.1⟩))) (fun h1 => ?_))
  refine Ev.bind (e_spec_l1In _ _ _) (Ev.ite (fun h => Ev.of (no (c := 1 ≤ b.2.1 ∧ b.2.1 ≤ 9) (nd h) (fun hh => ⟨(hb hh).2.2.1, (hb hh).2.2.2.1⟩))) (fun h2 => ?_))
  have h1' : 1 ≤ b.1 ∧ b.1 ≤ 10 := yd h1
  have h2' : 1 ≤ b.2.1 ∧ b.2.1 ≤ 9 := yd h2
  have hp := prod_small h1'.1 h1'.2 h2'.1 h2'.2
  rw [w64 (by omega) (by omega)]
  refine Ev.ite (fun h => Ev.of (no (c := (b.2.2.length : Int) = b.1 * b.2.1) (by simpa using h) (fun hh => (hb hh).2.2.2.2))) (fun h3 => ?_)
  have h3' : (b.2.2.length : Int) = b.1 * b.2.1 := by simpa using h3
  refine Ev.bind (e_spec_boGood_0 b.2.2 [] (by simpa using hl)) ?_
  have hx2 : boardOK b = b.2.2.all cellOK := by unfold boardOK; simp only [h1'.1, h1'.2, h2'.1, h2'.2, h3', and_self, decide_true, Bool.true_and]
  rw [hx2]
  cases hx : b.2.2.all cellOK with
  | true => simp only [if_true]; exact Ev.go (Ev.some _)
  | false => simp only [Bool.false_eq_true, if_false]; exact Ev.ret (Ev.some _)
/-- What a valid board is. -/
theorem board_ok {b : BoardD} (h : boardOK b = true) : 1 ≤ b.1 ∧ b.1 ≤ 10 ∧ 1 ≤ b.2.1 ∧ b.2.1 ≤ 9 ∧ (b.2.2.length : Int) = b.1 * b.2.1 ∧ ∀ x ∈ b.2.2, cellOK x = true := by
  unfold boardOK at h
  simp only [Bool.and_eq_true, decide_eq_true_eq] at h
  exact ⟨h.1.1, h.1.2.1, h.1.2.2.1, h.1.2.2.2.1, h.1.2.2.2.2, List.all_eq_true.1 h.2⟩
/-- A place on a valid board. -/
theorem place_ok {b : BoardD} (h : boardOK b = true) {r c : Int} (h1 : 0 ≤ r) (h2 : r < b.1) (h3 : 0 ≤ c) (h4 : c < b.2.1) : 0 ≤ r * b.2.1 + c ∧ r * b.2.1 + c < (b.2.2.length : Int) ∧ r * b.2.1 + c ≤ 90 ∧ 0 ≤ r * b.2.1 ∧ r * b.2.1 ≤ 90 := by
  obtain ⟨g1, g2, g3, g4, g5, _⟩ := board_ok h
  have hp := prod_small g1 g2 g3 g4
  have k1 : 0 ≤ r * b.2.1 := Int.mul_nonneg h1 (by omega)
  have k2 : (r + 1) * b.2.1 ≤ b.1 * b.2.1 := Int.mul_le_mul_of_nonneg_right (by omega) (by omega)
  rw [Int.add_mul, Int.one_mul] at k2
  omega
theorem cell_in {l : List CellD} {i : Int} (h0 : 0 ≤ i) (h1 : i < (l.length : Int)) (d : CellD) : List.getD l i.toNat d ∈ l := by
  have : i.toNat < l.length := by omega
  simp [List.getD, List.getElem?_eq_getElem this]

theorem e_laws_szBoard (b : BoardD) (n : Int) (h0 : 0 ≤ n) (h1 : n ≤ 1048576) (hl : b.2.2.length ≤ 9223372036854775807) : Ev (fun k => f_laws_szBoard k b n) (if n - b.2.2.length < 0 then -1 else n - b.2.2.length) := by
  refine Ev.succ ?_
  simp only [f_laws_szBoard]
  refine Ev.bind (e_laws_szCellS _ n h0 h1 hl) ?_
  by_cases h : n - (b.2.2.length : Int) < 0 <;> simp only [h, if_true, if_false]
  · exact Ev.some _
  · simp only [h, decide_false, Bool.false_eq_true, if_false]; exact Ev.some _
theorem e_laws_toBoard (b : BoardD) (hl : b.2.2.length ≤ 1048576) : Ev (fun k => f_laws_toBoard k b) b := by
  refine Ev.succ ?_
  simp only [f_laws_toBoard]
  exact Ev.bind (e_laws_toCellS _ hl) (Ev.some _)
theorem e_laws_eqBoard (b c : BoardD) (hl : b.2.2.length ≤ 9223372036854775806) : Ev (fun k => f_laws_eqBoard k b c) (decide (b = c)) := by
  obtain ⟨b1, b2, b3⟩ := b
  obtain ⟨c1, c2, c3⟩ := c
  refine Ev.succ ?_
  simp only [f_laws_eqBoard]
  by_cases h1 : b1 = c1
  · by_cases h2 : b2 = c2
    · simp only [h1, h2, ne_eq, not_true_eq_false, decide_false, Bool.false_eq_true, if_false]
      refine Ev.bind (e_laws_eqCellS b3 c3 hl) ?_
      by_cases h3 : b3 = c3
      · simp only [h3, decide_true, Bool.not_true, Bool.false_eq_true, if_false]; exact Ev.some _
      · simp only [h3, decide_false, Bool.not_false, if_true, Prod.mk.injEq, and_false]; exact Ev.some _
    · simp only [h1, h2, ne_eq, not_true_eq_false, decide_false, Bool.false_eq_true, if_false, not_false_eq_true, decide_true, if_true, Prod.mk.injEq, false_and, and_false]; exact Ev.some _
  · simp only [h1, ne_eq, not_false_eq_true, decide_true, if_true, Prod.mk.injEq, false_and, decide_false]; exact Ev.some _
end Go.Proofs.YtkmbhhgibgocpaaDoor.Vs

set_option linter.unusedVariables false
set_option linter.unusedSimpArgs false
namespace Go.Proofs.YtkmbhhgibgocpaaDoor.Vs
open Go.RowKit
def geared (x : CellD) : Bool := decide (x.1 = 6 ∨ x.1 = 7)
theorem e_impl_isGeared (x : CellD) : Ev (fun k => f_impl_isGeared k x) (geared x) := by
  refine Ev.succ ?_
  simp only [f_impl_isGeared]
  refine Ev.of ?_
  by_cases h1 : x.1 = 6 <;> simp [geared, h1]
theorem e_spec_ggGear (x : CellD) : Ev (fun k => f_spec_ggGear k x) (geared x) := by
  refine Ev.succ ?_
  simp only [f_spec_ggGear]
  refine Ev.of ?_
  by_cases h1 : x.1 = 6 <;> simp [geared, h1]
/-- The places beside a place. -/
def nears (b : BoardD) (i : Int) : List Int := (if 0 < Int.tdiv i b.2.1 then [i - b.2.1] else []) ++ (if 0 < Int.tmod i b.2.1 then [i - 1] else []) ++ (if Int.tmod i b.2.1 + 1 < b.2.1 then [i + 1] else []) ++ (if Int.tdiv i b.2.1 + 1 < b.1 then [i + b.2.1] else [])
theorem place_parts {b : BoardD} (hb : boardOK b = true) {i : Int} (h0 : 0 ≤ i) (h1 : i < (b.2.2.length : Int)) : ∃ q m t : Int, Int.tdiv i b.2.1 = q ∧ Int.tmod i b.2.1 = m ∧ i = t + m ∧ 0 ≤ m ∧ m < b.2.1 ∧ 0 ≤ q ∧ q < b.1 ∧ 0 ≤ t ∧ t + b.2.1 ≤ (b.2.2.length : Int) ∧ (1 ≤ q → b.2.1 ≤ t) ∧ (q + 1 < b.1 → t + b.2.1 + b.2.1 ≤ (b.2.2.length : Int)) := by
  obtain ⟨g1, g2, g3, g4, g5, g6⟩ := board_ok hb
  have hq : Int.tdiv i b.2.1 = i / b.2.1 := Int.tdiv_eq_ediv_of_nonneg h0
  have hm : Int.tmod i b.2.1 = i % b.2.1 := Int.tmod_eq_emod_of_nonneg h0
  have e1 := Int.mul_ediv_add_emod i b.2.1
  have e2 := Int.emod_nonneg i (show b.2.1 ≠ 0 by omega)
  have e3 := Int.emod_lt_of_pos i (show 0 < b.2.1 by omega)
  have e4 : 0 ≤ i / b.2.1 := Int.ediv_nonneg h0 (by omega)
  have e5 : i / b.2.1 < b.1 := Int.ediv_lt_of_lt_mul (by omega) (by rw [← g5]; exact h1)
  have e6 : 0 ≤ b.2.1 * (i / b.2.1) := Int.mul_nonneg (by omega) e4
  have e7 : b.2.1 * (i / b.2.1 + 1) ≤ b.2.1 * b.1 := Int.mul_le_mul_of_nonneg_left (by omega) (by omega)
  rw [Int.mul_add, Int.mul_one, Int.mul_comm b.2.1 b.1, ← g5] at e7
  refine ⟨_, _, b.2.1 * (i / b.2.1), hq, hm, by omega, e2, e3, e4, e5, e6, e7, fun h => ?_, fun h => ?_⟩
  · have := Int.mul_le_mul_of_nonneg_left h (show 0 ≤ b.2.1 by omega)
    omega
  · have e8 : b.2.1 * (i / b.2.1 + 2) ≤ b.2.1 * b.1 := Int.mul_le_mul_of_nonneg_left (by omega) (by omega)
    rw [Int.mul_add, Int.mul_comm b.2.1 b.1, ← g5] at e8
    omega
theorem nears_in {b : BoardD} (hb : boardOK b = true) {i : Int} (h0 : 0 ≤ i) (h1 : i < (b.2.2.length : Int)) : ∀ n ∈ nears b i, 0 ≤ n ∧ n < (b.2.2.length : Int) := by
  obtain ⟨q, m, t, hq, hm, k1, k2, k3, k4, k5, k6, k7, k8, k9⟩ := place_parts hb h0 h1
  intro n hn
  unfold nears at hn
  rw [hq, hm] at hn
  simp only [List.mem_append] at hn
  rcases hn with ((hn | hn) | hn) | hn
  · split at hn
    · have := List.mem_singleton.1 hn; have := k8 (by omega); omega
    · cases hn
  · split at hn
    · have := List.mem_singleton.1 hn; omega
    · cases hn
  · split at hn
    · have := List.mem_singleton.1 hn; omega
    · cases hn
  · split at hn
    · have := List.mem_singleton.1 hn; have := k9 (by omega); omega
    · cases hn
theorem nears_len (b : BoardD) (i : Int) : (nears b i).length ≤ 4 := by
  unfold nears
  simp only [List.length_append]
  have h1 : ∀ (c : Prop) [Decidable c] (x : Int), (if c then [x] else []).length ≤ 1 := by intro c _ x; split <;> simp
  have a1 := h1 (0 < Int.tdiv i b.2.1) (i - b.2.1)
  have a2 := h1 (0 < Int.tmod i b.2.1) (i - 1)
  have a3 := h1 (Int.tmod i b.2.1 + 1 < b.2.1) (i + 1)
  have a4 := h1 (Int.tdiv i b.2.1 + 1 < b.1) (i + b.2.1)
  omega
theorem e_impl_besideOf (b : BoardD) (hb : boardOK b = true) (i : Int) (h0 : 0 ≤ i) (h1 : i < (b.2.2.length : Int)) : Ev (fun k => f_impl_besideOf k b i) (nears b i) := by
  obtain ⟨g1, g2, g3, g4, g5, g6⟩ := board_ok hb
  have hp := prod_small g1 g2 g3 g4
  obtain ⟨q, m, t, hq, hm, k1, k2, k3, k4, k5, k6, k7, k8, k9⟩ := place_parts hb h0 h1
  have hC : ¬ b.2.1 = 0 := by omega
  refine Ev.succ ?_
  simp only [f_impl_besideOf, hC, if_false, nears, hq, hm, gt_iff_lt]
  rw [w64 (n := q) (by omega) (by omega), w64 (n := q + 1) (by omega) (by omega), w64 (n := m + 1) (by omega) (by omega), w64 (n := i - b.2.1) (by omega) (by omega), w64 (n := i - 1) (by omega) (by omega), w64 (n := i + 1) (by omega) (by omega), w64 (n := i + b.2.1) (by omega) (by omega)]
  refine Ev.of ?_
  by_cases h1 : 0 < q <;> by_cases h2 : 0 < m <;> by_cases h3 : m + 1 < b.2.1 <;> by_cases h4 : q + 1 < b.1 <;> simp [h1, h2, h3, h4]
theorem e_spec_ggNear (b : BoardD) (hb : boardOK b = true) (i : Int) (h0 : 0 ≤ i) (h1 : i < (b.2.2.length : Int)) : Ev (fun k => f_spec_ggNear k b i) (nears b i) := by
  obtain ⟨g1, g2, g3, g4, g5, g6⟩ := board_ok hb
  have hp := prod_small g1 g2 g3 g4
  obtain ⟨q, m, t, hq, hm, k1, k2, k3, k4, k5, k6, k7, k8, k9⟩ := place_parts hb h0 h1
  have hC : ¬ b.2.1 = 0 := by omega
  refine Ev.succ ?_
  simp only [f_spec_ggNear, hC, if_false, nears, hq, hm, gt_iff_lt]
  rw [w64 (n := q) (by omega) (by omega), w64 (n := q + 1) (by omega) (by omega), w64 (n := m + 1) (by omega) (by omega), w64 (n := i - b.2.1) (by omega) (by omega), w64 (n := i - 1) (by omega) (by omega), w64 (n := i + 1) (by omega) (by omega), w64 (n := i + b.2.1) (by omega) (by omega)]
  refine Ev.of ?_
  by_cases h1 : 0 < q <;> by_cases h2 : 0 < m <;> by_cases h3 : m + 1 < b.2.1 <;> by_cases h4 : q + 1 < b.1 <;> simp [h1, h2, h3, h4]
/-! ### One wave -/
def visit (b : BoardD) (v : Int) (G : List Int × List Int) (n : Int) : List Int × List Int := if geared (List.getD b.2.2 n.toNat (0, 0)) && decide (List.getD G.1 n.toNat 0 < 0) then (List.set G.1 n.toNat v, G.2 ++ [n]) else G
/-- How many have no number yet. -/
def unl (l : List Int) : Nat := l.countP fun x => decide (x < 0)
theorem unl_set (v : Int) (hv : 0 ≤ v) : ∀ (l : List Int) (i : Nat), i < l.length → List.getD l i 0 < 0 → unl (l.set i v) + 1 = unl l
  | [], i, h, _ => by simp at h
  | x :: l, 0, _, h => by
    have h' : x < 0 := by simpa using h
    have : ¬ v < 0 := by omega
    simp [unl, h', this]
  | x :: l, i + 1, h, h2 => by
    have ih := unl_set v hv l i (by simpa using h) (by simpa using h2)
    simp only [unl, List.set_cons_succ, List.countP_cons] at ih ⊢
    omega
theorem unl_len (l : List Int) : unl l ≤ l.length := List.countP_le_length
theorem visit_len (b : BoardD) (v : Int) (G : List Int × List Int) (n : Int) : (visit b v G n).1.length = G.1.length := by
  unfold visit; split <;> simp
theorem visits_len (b : BoardD) (v : Int) : ∀ (r : List Int) (G : List Int × List Int), (r.foldl (visit b v) G).1.length = G.1.length
  | [], G => rfl
  | n :: r, G => by rw [List.foldl_cons, visits_len b v r, visit_len]
theorem visit_unl (b : BoardD) (v : Int) (hv : 0 ≤ v) (G : List Int × List Int) (n : Int) (h0 : 0 ≤ n) (h1 : n < (G.1.length : Int)) : unl (visit b v G n).1 + (visit b v G n).2.length = unl G.1 + G.2.length := by
  unfold visit
  split
  · rename_i hc
    simp only [Bool.and_eq_true, decide_eq_true_eq] at hc
    have := unl_set v hv G.1 n.toNat (by omega) hc.2
    simp only [List.length_append, List.length_singleton]
    omega
  · rfl
theorem visits_unl (b : BoardD) (v : Int) (hv : 0 ≤ v) : ∀ (r : List Int) (G : List Int × List Int), (∀ n ∈ r, 0 ≤ n ∧ n < (G.1.length : Int)) → unl (r.foldl (visit b v) G).1 + (r.foldl (visit b v) G).2.length = unl G.1 + G.2.length
  | [], G, _ => rfl
  | n :: r, G, h => by
    rw [List.foldl_cons, visits_unl b v hv r _ (fun m hm => by rw [visit_len]; exact h m (List.mem_cons_of_mem _ hm))]
    exact visit_unl b v hv G n (h n (List.mem_cons_self ..)).1 (h n (List.mem_cons_self ..)).2
theorem visits_app (b : BoardD) (v : Int) : ∀ (r : List Int) (o2 o3 a : List Int), (r.foldl (visit b v) (o2, o3 ++ a)) = ((r.foldl (visit b v) (o2, a)).1, o3 ++ (r.foldl (visit b v) (o2, a)).2)
  | [], o2, o3, a => rfl
  | n :: r, o2, o3, a => by
    simp only [List.foldl_cons]
    by_cases hc : (geared (List.getD b.2.2 n.toNat (0, 0)) && decide (List.getD o2 n.toNat 0 < 0)) = true
    · have e1 : visit b v (o2, o3 ++ a) n = (List.set o2 n.toNat v, o3 ++ (a ++ [n])) := by simp only [visit]; rw [if_pos hc, List.append_assoc]
      have e2 : visit b v (o2, a) n = (List.set o2 n.toNat v, a ++ [n]) := by simp only [visit]; rw [if_pos hc]
      rw [e1, e2]
      exact visits_app b v r _ o3 _
    · have e1 : visit b v (o2, o3 ++ a) n = (o2, o3 ++ a) := by simp only [visit]; rw [if_neg hc]
      have e2 : visit b v (o2, a) n = (o2, a) := by simp only [visit]; rw [if_neg hc]
      rw [e1, e2]
      exact visits_app b v r o2 o3 a
theorem visits_mem (b : BoardD) (v : Int) (P : Int → Prop) : ∀ (r : List Int) (G : List Int × List Int), (∀ n ∈ r, P n) → (∀ n ∈ G.2, P n) → ∀ n ∈ (r.foldl (visit b v) G).2, P n
  | [], G, _, h => h
  | m :: r, G, h, hg => by
    rw [List.foldl_cons]
    refine visits_mem b v P r _ (fun n hn => h n (List.mem_cons_of_mem _ hn)) (fun n hn => ?_)
    unfold visit at hn
    split at hn
    · rcases List.mem_append.1 hn with hn | hn
      · exact hg n hn
      · rw [List.mem_singleton.1 hn]; exact h m (List.mem_cons_self ..)
    · exact hg n hn
theorem e_impl_groupNumbers_6 (b : BoardD) (hb : boardOK b = true) (v : Int) (hv : 0 ≤ v) (v26 : List CellD) (v27 v28 : Int) : ∀ (r pre o2 o3 : List Int), (∀ n ∈ r, 0 ≤ n ∧ n < (b.2.2.length : Int)) → (pre ++ r).length ≤ 100 → o2.length = b.2.2.length → o3.length + unl o2 ≤ 1000 →
    Ev (fun k => f_impl_groupNumbers_6 k b.1 b.2.1 b.2.2 o2 o3 (pre ++ r) v  v26 v27 v28 ((pre ++ r).length : Int) (pre.length : Int)) (b.1, b.2.1, b.2.2, (r.foldl (visit b v) (o2, o3)).1, (r.foldl (visit b v) (o2, o3)).2, v, v26, v27, v28)
  | [], pre, o2, o3, hr, hl, h2, h3 => by
    refine Ev.succ ?_
    simp only [f_impl_groupNumbers_6, nlt_end, decide_false, Bool.false_eq_true, if_false]
    exact Ev.some _
  | x :: r, pre, o2, o3, hr, hl, h2, h3 => by
    obtain ⟨hx0, hx1⟩ := hr x (List.mem_cons_self ..)
    have hx2 : x < (o2.length : Int) := by omega
    have hr' : ∀ n ∈ r, 0 ≤ n ∧ n < (b.2.2.length : Int) := fun n hn => hr n (List.mem_cons_of_mem _ hn)
    have ih0 := e_impl_groupNumbers_6 b hb v hv  v26 v27 v28 r (pre ++ [x]) o2 o3 hr' (by simpa using hl) h2 h3
    rw [← shift_mid] at ih0
    have hn := next_mid pre x r (by omega)
    refine Ev.succ ?_
    simp only [f_impl_groupNumbers_6, lt_mid, ge_mid, decide_true, if_true, Int.toNat_natCast, getD_mid, hn, hx0, hx1, hx2]
    refine Ev.bind (e_impl_isGeared (List.getD b.2.2 x.toNat (0, 0))) ?_
    rw [List.foldl_cons]
    by_cases hg : geared (List.getD b.2.2 x.toNat (0, 0)) = true
    · simp only [hg, if_true]
      by_cases ho : List.getD o2 x.toNat 0 < 0
      · have e1 : visit b v (o2, o3) x = (List.set o2 x.toNat v, o3 ++ [x]) := by unfold visit; rw [if_pos (by simp only [hg, ho, decide_true, Bool.and_self])]
        have hu := unl_set v hv o2 x.toNat (by omega) ho
        have hle : o3.length + 1 ≤ 140737488355328 / 8 := by omega
        have ih := e_impl_groupNumbers_6 b hb v hv  v26 v27 v28 r (pre ++ [x]) (List.set o2 x.toNat v) (o3 ++ [x]) hr' (by simpa using hl) (by simpa using h2) (by simp; omega)
        rw [← shift_mid] at ih
        simp only [ho, decide_true, if_true, List.length_singleton, hle]
        rw [e1]
        exact ih
      · have e1 : visit b v (o2, o3) x = (o2, o3) := by unfold visit; rw [if_neg (by simp only [ho, decide_false, Bool.and_false, Bool.false_eq_true, not_false_eq_true])]
        simp only [ho, decide_false, Bool.false_eq_true, if_false]
        rw [e1]
        exact ih0
    · have e1 : visit b v (o2, o3) x = (o2, o3) := by unfold visit; rw [if_neg (by simp only [hg, Bool.false_and, Bool.false_eq_true, not_false_eq_true])]
      simp only [hg, Bool.false_eq_true, if_false]
      rw [e1]
      exact ih0
theorem e_spec_ggGroups_6 (b : BoardD) (hb : boardOK b = true) (v : Int) (hv : 0 ≤ v) (v9 : Int) (v26 : List CellD) (v27 v28 : Int) : ∀ (r pre o2 o3 : List Int), (∀ n ∈ r, 0 ≤ n ∧ n < (b.2.2.length : Int)) → (pre ++ r).length ≤ 100 → o2.length = b.2.2.length → o3.length + unl o2 ≤ 1000 →
    Ev (fun k => f_spec_ggGroups_6 k b.1 b.2.1 b.2.2 o2 o3 (pre ++ r) v v9 v26 v27 v28 ((pre ++ r).length : Int) (pre.length : Int)) (b.1, b.2.1, b.2.2, (r.foldl (visit b v) (o2, o3)).1, (r.foldl (visit b v) (o2, o3)).2, v, v9, v26, v27, v28)
  | [], pre, o2, o3, hr, hl, h2, h3 => by
    refine Ev.succ ?_
    simp only [f_spec_ggGroups_6, nlt_end, decide_false, Bool.false_eq_true, if_false]
    exact Ev.some _
  | x :: r, pre, o2, o3, hr, hl, h2, h3 => by
    obtain ⟨hx0, hx1⟩ := hr x (List.mem_cons_self ..)
    have hx2 : x < (o2.length : Int) := by omega
    have hr' : ∀ n ∈ r, 0 ≤ n ∧ n < (b.2.2.length : Int) := fun n hn => hr n (List.mem_cons_of_mem _ hn)
    have ih0 := e_spec_ggGroups_6 b hb v hv v9 v26 v27 v28 r (pre ++ [x]) o2 o3 hr' (by simpa using hl) h2 h3
    rw [← shift_mid] at ih0
    have hn := next_mid pre x r (by omega)
    refine Ev.succ ?_
    simp only [f_spec_ggGroups_6, lt_mid, ge_mid, decide_true, if_true, Int.toNat_natCast, getD_mid, hn, hx0, hx1, hx2]
    refine Ev.bind (e_spec_ggGear (List.getD b.2.2 x.toNat (0, 0))) ?_
    rw [List.foldl_cons]
    by_cases hg : geared (List.getD b.2.2 x.toNat (0, 0)) = true
    · simp only [hg, if_true]
      by_cases ho : List.getD o2 x.toNat 0 < 0
      · have e1 : visit b v (o2, o3) x = (List.set o2 x.toNat v, o3 ++ [x]) := by unfold visit; rw [if_pos (by simp only [hg, ho, decide_true, Bool.and_self])]
        have hu := unl_set v hv o2 x.toNat (by omega) ho
        have hle : o3.length + 1 ≤ 140737488355328 / 8 := by omega
        have ih := e_spec_ggGroups_6 b hb v hv v9 v26 v27 v28 r (pre ++ [x]) (List.set o2 x.toNat v) (o3 ++ [x]) hr' (by simpa using hl) (by simpa using h2) (by simp; omega)
        rw [← shift_mid] at ih
        simp only [ho, decide_true, if_true, List.length_singleton, hle]
        rw [e1]
        exact ih
      · have e1 : visit b v (o2, o3) x = (o2, o3) := by unfold visit; rw [if_neg (by simp only [ho, decide_false, Bool.and_false, Bool.false_eq_true, not_false_eq_true])]
        simp only [ho, decide_false, Bool.false_eq_true, if_false]
        rw [e1]
        exact ih0
    · have e1 : visit b v (o2, o3) x = (o2, o3) := by unfold visit; rw [if_neg (by simp only [hg, Bool.false_and, Bool.false_eq_true, not_false_eq_true])]
      simp only [hg, Bool.false_eq_true, if_false]
      rw [e1]
      exact ih0
/-- Waves, as long as there are places to look at. -/
def bfs (b : BoardD) (v : Int) : Nat → List Int → List Int → List Int
  | 0, o2, _ => o2
  | _ + 1, o2, [] => o2
  | n + 1, o2, x :: q => bfs b v n ((nears b x).foldl (visit b v) (o2, [])).1 (q ++ ((nears b x).foldl (visit b v) (o2, [])).2)
theorem bfs_len (b : BoardD) (v : Int) : ∀ (n : Nat) (o2 q : List Int), (bfs b v n o2 q).length = o2.length
  | 0, o2, _ => rfl
  | _ + 1, o2, [] => rfl
  | n + 1, o2, x :: q => by simp only [bfs]; rw [bfs_len b v n, visits_len]
theorem e_impl_groupNumbers_4 (b : BoardD) (hb : boardOK b = true) (v : Int) (hv : 0 ≤ v) (v26 : List CellD) (v27 v28 : Int) : ∀ (n : Nat) (o2 q : List Int), (∀ m ∈ q, 0 ≤ m ∧ m < (b.2.2.length : Int)) → o2.length = b.2.2.length → unl o2 + q.length + 1 ≤ n → q.length + unl o2 ≤ 1000 →
    Ev (fun k => f_impl_groupNumbers_4 k b.1 b.2.1 b.2.2 o2 q v v26 v27 v28) (b.1, b.2.1, b.2.2, bfs b v n o2 q, v, v26, v27, v28)
  | 0, o2, q, hq, h2, hn, hm => by omega
  | n + 1, o2, [], hq, h2, hn, hm => by
    refine Ev.succ ?_
    simp only [f_impl_groupNumbers_4, List.length_nil]
    have : ¬ ((0 : Nat) : Int) > 0 := by omega
    simp only [this, decide_false, Bool.false_eq_true, if_false]
    exact Ev.some _
  | n + 1, o2, x :: q, hq, h2, hn, hm => by
    obtain ⟨hx0, hx1⟩ := hq x (List.mem_cons_self ..)
    have hlen : (((x :: q).length : Nat) : Int) > 0 := by simp only [List.length_cons]; omega
    have hlen1 : (1 : Int) ≤ (((x :: q).length : Nat) : Int) := by omega
    have hlen0 : (0 : Int) < (((x :: q).length : Nat) : Int) := by omega
    have hin := nears_in hb hx0 hx1
    have hun := visits_unl b v hv (nears b x) (o2, []) (fun m hm => by rw [h2]; exact hin m hm)
    simp only [List.length_nil, Nat.add_zero] at hun
    simp only [List.length_cons] at hn hm
    refine Ev.succ ?_
    simp only [f_impl_groupNumbers_4, hlen, hlen1, hlen0, Int.le_refl, decide_true, if_true]
    refine Ev.bind (e_impl_besideOf b hb x hx0 hx1) ?_
    have h6 := e_impl_groupNumbers_6 b hb v hv v26 v27 v28 (nears b x) [] o2 q hin (by have := nears_len b x; simp; omega) h2 (by omega)
    refine Ev.bind h6 ?_
    have happ := visits_app b v (nears b x) o2 q []
    rw [List.append_nil] at happ
    rw [happ]
    show Ev (fun k => f_impl_groupNumbers_4 k b.1 b.2.1 b.2.2 (List.foldl (visit b v) (o2, []) (nears b x)).1 (q ++ (List.foldl (visit b v) (o2, []) (nears b x)).2) v v26 v27 v28) _
    exact e_impl_groupNumbers_4 b hb v hv v26 v27 v28 n _ _ (fun m hm => by
      rcases List.mem_append.1 hm with hm | hm
      · exact hq m (List.mem_cons_of_mem _ hm)
      · exact visits_mem b v (fun m => 0 ≤ m ∧ m < (b.2.2.length : Int)) (nears b x) (o2, []) hin (fun m hm => by cases hm) m hm) (by rw [visits_len]; exact h2) (by rw [List.length_append]; omega) (by rw [List.length_append]; omega)
theorem e_spec_ggGroups_4 (b : BoardD) (hb : boardOK b = true) (v : Int) (hv : 0 ≤ v) (v26 : List CellD) (v27 v28 : Int) : ∀ (n : Nat) (o2 q pre : List Int), (∀ m ∈ q, 0 ≤ m ∧ m < (b.2.2.length : Int)) → o2.length = b.2.2.length → unl o2 + q.length + 1 ≤ n → (pre ++ q).length + unl o2 ≤ 1000 →
    Ev (fun k => f_spec_ggGroups_4 k b.1 b.2.1 b.2.2 o2 (pre ++ q) v (pre.length : Int) v26 v27 v28) (b.1, b.2.1, b.2.2, bfs b v n o2 q, v, v26, v27, v28)
  | 0, o2, q, pre, hq, h2, hn, hm => by omega
  | n + 1, o2, [], pre, hq, h2, hn, hm => by
    refine Ev.succ ?_
    simp only [f_spec_ggGroups_4, nlt_end, decide_false, Bool.false_eq_true, if_false]
    exact Ev.some _
  | n + 1, o2, x :: q, pre, hq, h2, hn, hm => by
    obtain ⟨hx0, hx1⟩ := hq x (List.mem_cons_self ..)
    have hin := nears_in hb hx0 hx1
    have hun := visits_unl b v hv (nears b x) (o2, []) (fun m hm => by rw [h2]; exact hin m hm)
    simp only [List.length_nil, Nat.add_zero] at hun
    have hm' := hm
    simp only [List.length_cons, List.length_append] at hn hm'
    refine Ev.succ ?_
    simp only [f_spec_ggGroups_4, lt_mid, ge_mid, decide_true, if_true, Int.toNat_natCast, getD_mid]
    refine Ev.bind (e_spec_ggNear b hb x hx0 hx1) ?_
    have h6 := e_spec_ggGroups_6 b hb v hv (pre.length : Int) v26 v27 v28 (nears b x) [] o2 (pre ++ x :: q) hin (by have := nears_len b x; simp; omega) h2 hm
    refine Ev.bind h6 ?_
    have happ := visits_app b v (nears b x) o2 (pre ++ x :: q) []
    rw [List.append_nil] at happ
    rw [happ]
    show Ev (fun k => f_spec_ggGroups_4 k b.1 b.2.1 b.2.2 (List.foldl (visit b v) (o2, []) (nears b x)).1 ((pre ++ x :: q) ++ (List.foldl (visit b v) (o2, []) (nears b x)).2) v (wrap64 ((pre.length : Int) + 1)) v26 v27 v28) _
    rw [next_mid pre x q (by simp; omega), shift_mid, List.append_assoc]
    exact e_spec_ggGroups_4 b hb v hv v26 v27 v28 n _ _ (pre ++ [x]) (fun m hm => by
      rcases List.mem_append.1 hm with hm | hm
      · exact hq m (List.mem_cons_of_mem _ hm)
      · exact visits_mem b v (fun m => 0 ≤ m ∧ m < (b.2.2.length : Int)) (nears b x) (o2, []) hin (fun m hm => by cases hm) m hm) (by rw [visits_len]; exact h2) (by rw [List.length_append]; omega) (by simp only [List.length_append, List.length_singleton]; omega)
/-! ### All groups -/
def groupsFrom (b : BoardD) : Int → List CellD → List Int → Int → List Int
  | _, [], o2, _ => o2
  | i, x :: r, o2, v => if geared x && decide (List.getD o2 i.toNat 0 < 0) then groupsFrom b (i + 1) r (bfs b v 200 (List.set o2 i.toNat v) [i]) (v + 1) else groupsFrom b (i + 1) r o2 v
theorem groupsFrom_len (b : BoardD) : ∀ (r : List CellD) (i : Int) (o2 : List Int) (v : Int), (groupsFrom b i r o2 v).length = o2.length
  | [], _, _, _ => rfl
  | x :: r, i, o2, v => by
    simp only [groupsFrom]
    split
    · rw [groupsFrom_len b r, bfs_len, List.length_set]
    · exact groupsFrom_len b r _ _ _
def groupsOf (b : BoardD) : List Int := groupsFrom b 0 b.2.2 (List.replicate b.2.2.length (-1)) 0
theorem groupsOf_len (b : BoardD) : (groupsOf b).length = b.2.2.length := by unfold groupsOf; rw [groupsFrom_len]; simp
theorem e_impl_groupNumbers_0 (b : BoardD) (m : Int) : ∀ (r pre : List Int), m = ((pre ++ r).length : Int) → (pre ++ r).length ≤ 1000 → Ev (fun k => f_impl_groupNumbers_0 k b.1 b.2.1 b.2.2 (pre ++ r) m (pre.length : Int)) (b.1, b.2.1, b.2.2, pre ++ List.replicate r.length (-1))
  | [], pre, hm, hl => by
    refine Ev.succ ?_
    have : ¬ (pre.length : Int) < m := by rw [hm]; exact nlt_end pre
    simp only [f_impl_groupNumbers_0, this, decide_false, Bool.false_eq_true, if_false]
    exact Ev.of (by simp)
  | x :: r, pre, hm, hl => by
    have ih := e_impl_groupNumbers_0 b m r (pre ++ [-1]) (by rw [hm]; simp) (by simpa using hl)
    have hlt : (pre.length : Int) < m := by rw [hm]; exact lt_mid _ _ _
    have hn2 : ((pre ++ [x]).length : Int) = ((pre ++ [(-1 : Int)]).length : Int) := by simp
    refine Ev.succ ?_
    simp only [f_impl_groupNumbers_0, hlt, lt_mid, ge_mid, decide_true, if_true, Int.toNat_natCast, set_mid]
    rw [next_mid pre x r (by omega), hn2]
    rw [← shift_mid] at ih
    refine ih.congr ?_
    simp [List.replicate_succ]
theorem e_impl_groupNumbers_2 (b : BoardD) (hb : boardOK b = true) : ∀ (r pre : List CellD) (o2 : List Int) (v : Int), pre ++ r = b.2.2 → o2.length = b.2.2.length → 0 ≤ v → v ≤ pre.length → Ev (fun k => f_impl_groupNumbers_2 k b.1 b.2.1 b.2.2 o2 v (pre ++ r) ((pre ++ r).length : Int) (pre.length : Int)) (groupsFrom b pre.length r o2 v)
  | [], pre, o2, v, hpr, h2, hv, hv2 => by
    refine Ev.succ ?_
    simp only [f_impl_groupNumbers_2, nlt_end, decide_false, Bool.false_eq_true, if_false]
    exact Ev.some _
  | x :: r, pre, o2, v, hpr, h2, hv, hv2 => by
    obtain ⟨g1, g2, g3, g4, g5, g6⟩ := board_ok hb
    have hp := prod_small g1 g2 g3 g4
    have hl90 : (pre ++ x :: r).length ≤ 90 := by rw [hpr]; omega
    have hn := next_mid pre x r (by omega)
    have hc : ((pre ++ [x]).length : Int) = (pre.length : Int) + 1 := by simp
    have hlt := lt_mid pre x r
    have hlo : (pre.length : Int) < (o2.length : Int) := by rw [h2, ← hpr]; exact hlt
    have ih0 := e_impl_groupNumbers_2 b hb r (pre ++ [x]) o2 v (by rw [← hpr]; simp) h2 hv (by simp; omega)
    rw [← shift_mid, hc] at ih0
    refine Ev.succ ?_
    simp only [f_impl_groupNumbers_2, lt_mid, ge_mid, decide_true, if_true, Int.toNat_natCast, getD_mid, hn, hc, hlo]
    refine Ev.bind (e_impl_isGeared x) ?_
    cases hg : geared x with
    | false =>
      simp only [Bool.not_false, if_true, groupsFrom, hg, Bool.false_and, Bool.false_eq_true, if_false]
      exact ih0
    | true =>
      simp only [Bool.not_true, Bool.false_eq_true, if_false]
      refine Ev.ite (fun h => ?_) (fun h => ?_)
      · simp only [ge_iff_le, decide_eq_true_eq] at h
        have hno : ¬ List.getD o2 pre.length 0 < 0 := by omega
        simp only [groupsFrom, hg, Int.toNat_natCast, hno, decide_false, Bool.and_false, Bool.false_eq_true, if_false]
        exact ih0
      · simp only [ge_iff_le, decide_eq_true_eq] at h
        have hno : List.getD o2 pre.length 0 < 0 := by omega
        have hul := unl_len (List.set o2 pre.length v)
        rw [List.length_set, h2, ← hpr] at hul
        have h4 := e_impl_groupNumbers_4 b hb v hv (pre ++ x :: r) ((pre ++ x :: r).length : Int) (pre.length : Int) 200 (List.set o2 pre.length v) [(pre.length : Int)] (fun m hm => by rw [List.mem_singleton.1 hm, ← hpr]; exact ⟨by omega, hlt⟩) (by rw [List.length_set]; exact h2) (by simp; omega) (by simp; omega)
        refine Ev.bind h4 ?_
        have ih := e_impl_groupNumbers_2 b hb r (pre ++ [x]) (bfs b v 200 (List.set o2 pre.length v) [(pre.length : Int)]) (v + 1) (by rw [← hpr]; simp) (by rw [bfs_len, List.length_set]; exact h2) (by omega) (by simp; omega)
        rw [← shift_mid, hc] at ih
        show Ev (fun k => f_impl_groupNumbers_2 k b.1 b.2.1 b.2.2 (bfs b v 200 (List.set o2 pre.length v) [(pre.length : Int)]) (wrap64 (v + 1)) (pre ++ x :: r) ((pre ++ x :: r).length : Int) (wrap64 ((pre.length : Int) + 1))) _
        rw [w64 (n := v + 1) (by omega) (by omega), hn, hc]
        simp only [groupsFrom, hg, Int.toNat_natCast, hno, decide_true, Bool.and_self, if_true]
        exact ih
theorem e_impl_groupNumbers (b : BoardD) (hb : boardOK b = true) : Ev (fun k => f_impl_groupNumbers k b) (groupsOf b) := by
  obtain ⟨g1, g2, g3, g4, g5, g6⟩ := board_ok hb
  have hp := prod_small g1 g2 g3 g4
  have hm : b.2.2.length * 8 ≤ 281474976710656 := by omega
  refine Ev.succ ?_
  simp only [f_impl_groupNumbers, Int.toNat_natCast, hm, if_true]
  refine Ev.bind (e_impl_groupNumbers_0 b _ (List.replicate b.2.2.length 0) [] rfl (by simp; omega)) ?_
  have hrep : ([] : List Int) ++ List.replicate (List.replicate b.2.2.length (0 : Int)).length (-1) = List.replicate b.2.2.length (-1) := by simp
  rw [hrep]
  exact Ev.bind (e_impl_groupNumbers_2 b hb b.2.2 [] (List.replicate b.2.2.length (-1)) 0 rfl (by simp) (by omega) (by simp)) (Ev.some _)
theorem e_spec_ggGroups_0 (b : BoardD) (m : Int) : ∀ (r pre : List Int), m = ((pre ++ r).length : Int) → (pre ++ r).length ≤ 1000 → Ev (fun k => f_spec_ggGroups_0 k b.1 b.2.1 b.2.2 (pre ++ r) m (pre.length : Int)) (b.1, b.2.1, b.2.2, pre ++ List.replicate r.length (-1))
  | [], pre, hm, hl => by
    refine Ev.succ ?_
    have : ¬ (pre.length : Int) < m := by rw [hm]; exact nlt_end pre
    simp only [f_spec_ggGroups_0, this, decide_false, Bool.false_eq_true, if_false]
    exact Ev.of (by simp)
  | x :: r, pre, hm, hl => by
    have ih := e_spec_ggGroups_0 b m r (pre ++ [-1]) (by rw [hm]; simp) (by simpa using hl)
    have hlt : (pre.length : Int) < m := by rw [hm]; exact lt_mid _ _ _
    have hn2 : ((pre ++ [x]).length : Int) = ((pre ++ [(-1 : Int)]).length : Int) := by simp
    refine Ev.succ ?_
    simp only [f_spec_ggGroups_0, hlt, lt_mid, ge_mid, decide_true, if_true, Int.toNat_natCast, set_mid]
    rw [next_mid pre x r (by omega), hn2]
    rw [← shift_mid] at ih
    refine ih.congr ?_
    simp [List.replicate_succ]
theorem e_spec_ggGroups_2 (b : BoardD) (hb : boardOK b = true) : ∀ (r pre : List CellD) (o2 : List Int) (v : Int), pre ++ r = b.2.2 → o2.length = b.2.2.length → 0 ≤ v → v ≤ pre.length → Ev (fun k => f_spec_ggGroups_2 k b.1 b.2.1 b.2.2 o2 v (pre ++ r) ((pre ++ r).length : Int) (pre.length : Int)) (groupsFrom b pre.length r o2 v)
  | [], pre, o2, v, hpr, h2, hv, hv2 => by
    refine Ev.succ ?_
    simp only [f_spec_ggGroups_2, nlt_end, decide_false, Bool.false_eq_true, if_false]
    exact Ev.some _
  | x :: r, pre, o2, v, hpr, h2, hv, hv2 => by
    obtain ⟨g1, g2, g3, g4, g5, g6⟩ := board_ok hb
    have hp := prod_small g1 g2 g3 g4
    have hl90 : (pre ++ x :: r).length ≤ 90 := by rw [hpr]; omega
    have hn := next_mid pre x r (by omega)
    have hc : ((pre ++ [x]).length : Int) = (pre.length : Int) + 1 := by simp
    have hlt := lt_mid pre x r
    have hlo : (pre.length : Int) < (o2.length : Int) := by rw [h2, ← hpr]; exact hlt
    have ih0 := e_spec_ggGroups_2 b hb r (pre ++ [x]) o2 v (by rw [← hpr]; simp) h2 hv (by simp; omega)
    rw [← shift_mid, hc] at ih0
    refine Ev.succ ?_
    simp only [f_spec_ggGroups_2, lt_mid, ge_mid, decide_true, if_true, Int.toNat_natCast, getD_mid, hn, hc, hlo]
    refine Ev.bind (e_spec_ggGear x) ?_
    cases hg : geared x with
    | false =>
      simp only [Bool.not_false, if_true, groupsFrom, hg, Bool.false_and, Bool.false_eq_true, if_false]
      exact ih0
    | true =>
      simp only [Bool.not_true, Bool.false_eq_true, if_false]
      refine Ev.ite (fun h => ?_) (fun h => ?_)
      · simp only [ge_iff_le, decide_eq_true_eq] at h
        have hno : ¬ List.getD o2 pre.length 0 < 0 := by omega
        simp only [groupsFrom, hg, Int.toNat_natCast, hno, decide_false, Bool.and_false, Bool.false_eq_true, if_false]
        exact ih0
      · simp only [ge_iff_le, decide_eq_true_eq] at h
        have hno : List.getD o2 pre.length 0 < 0 := by omega
        have hul := unl_len (List.set o2 pre.length v)
        rw [List.length_set, h2, ← hpr] at hul
        have h4 := e_spec_ggGroups_4 b hb v hv (pre ++ x :: r) ((pre ++ x :: r).length : Int) (pre.length : Int) 200 (List.set o2 pre.length v) [(pre.length : Int)] [] (fun m hm => by rw [List.mem_singleton.1 hm, ← hpr]; exact ⟨by omega, hlt⟩) (by rw [List.length_set]; exact h2) (by simp; omega) (by simp; omega)
        refine Ev.bind h4 ?_
        have ih := e_spec_ggGroups_2 b hb r (pre ++ [x]) (bfs b v 200 (List.set o2 pre.length v) [(pre.length : Int)]) (v + 1) (by rw [← hpr]; simp) (by rw [bfs_len, List.length_set]; exact h2) (by omega) (by simp; omega)
        rw [← shift_mid, hc] at ih
        show Ev (fun k => f_spec_ggGroups_2 k b.1 b.2.1 b.2.2 (bfs b v 200 (List.set o2 pre.length v) [(pre.length : Int)]) (wrap64 (v + 1)) (pre ++ x :: r) ((pre ++ x :: r).length : Int) (wrap64 ((pre.length : Int) + 1))) _
        rw [w64 (n := v + 1) (by omega) (by omega), hn, hc]
        simp only [groupsFrom, hg, Int.toNat_natCast, hno, decide_true, Bool.and_self, if_true]
        exact ih
theorem e_spec_ggGroups (b : BoardD) (hb : boardOK b = true) : Ev (fun k => f_spec_ggGroups k b) (groupsOf b) := by
  obtain ⟨g1, g2, g3, g4, g5, g6⟩ := board_ok hb
  have hp := prod_small g1 g2 g3 g4
  have hm : b.2.2.length * 8 ≤ 281474976710656 := by omega
  refine Ev.succ ?_
  simp only [f_spec_ggGroups, Int.toNat_natCast, hm, if_true]
  refine Ev.bind (e_spec_ggGroups_0 b _ (List.replicate b.2.2.length 0) [] rfl (by simp; omega)) ?_
  have hrep : ([] : List Int) ++ List.replicate (List.replicate b.2.2.length (0 : Int)).length (-1) = List.replicate b.2.2.length (-1) := by simp
  rw [hrep]
  exact Ev.bind (e_spec_ggGroups_2 b hb b.2.2 [] (List.replicate b.2.2.length (-1)) 0 rfl (by simp) (by omega) (by simp)) (Ev.some _)
end Go.Proofs.YtkmbhhgibgocpaaDoor.Vs

set_option linter.unusedVariables false
set_option linter.unusedSimpArgs false
namespace Go.Proofs.YtkmbhhgibgocpaaDoor.Vs
open Go.RowKit
/-! ### Faults -/
def fits (x : CellD) (kd : Int) : Bool := decide (kd = 2) || (decide (kd = 1) && turning x) || (decide (kd = 3) && (turning x || decide (x.1 = 1 ∨ x.1 = 2)))
theorem e_spec_faFits (x : CellD) (kd : Int) : Ev (fun k => f_spec_faFits k x kd) (fits x kd) := by
  refine Ev.succ ?_
  simp only [f_spec_faFits]
  refine Ev.ite (fun h => ?_) (fun h => ?_)
  · simp only [decide_eq_true_eq] at h
    refine Ev.bind (e_spec_paTurning x) (Ev.of ?_)
    simp [fits, h]
  · simp only [decide_eq_true_eq] at h
    refine Ev.ite (fun h2 => ?_) (fun h2 => ?_)
    · simp only [decide_eq_true_eq] at h2
      exact Ev.of (by simp [fits, h2])
    · simp only [decide_eq_true_eq] at h2
      refine Ev.ite (fun h3 => ?_) (fun h3 => ?_)
      · simp only [decide_eq_true_eq] at h3
        refine Ev.bind (e_spec_paTurning x) (Ev.ite (fun h4 => ?_) (fun h4 => ?_))
        · exact Ev.of (by simp [fits, h3, h4])
        · refine Ev.of ?_
          simp only [Bool.not_eq_true] at h4
          by_cases h5 : x.1 = 1 <;> simp [fits, h3, h4, h5]
      · simp only [decide_eq_true_eq] at h3
        exact Ev.of (by simp [fits, h, h2, h3])
theorem e_impl_canHave (x : CellD) (kd : Int) (hx : cellOK x = true) : Ev (fun k => f_impl_canHave k x kd) (fits x kd) := by
  have ht : Ev (fun k => f_impl_IsTurning k x) (turning x) := by simpa [hx] using e_impl_IsTurning x
  refine Ev.succ ?_
  simp only [f_impl_canHave]
  refine Ev.ite (fun h => ?_) (fun h => ?_)
  · simp only [decide_eq_true_eq] at h
    refine Ev.bind ht (Ev.of ?_)
    simp [fits, h]
  · simp only [decide_eq_true_eq] at h
    refine Ev.ite (fun h2 => ?_) (fun h2 => ?_)
    · simp only [decide_eq_true_eq] at h2
      exact Ev.of (by simp [fits, h2])
    · simp only [decide_eq_true_eq] at h2
      refine Ev.ite (fun h3 => ?_) (fun h3 => ?_)
      · simp only [decide_eq_true_eq] at h3
        refine Ev.bind ht (Ev.ite (fun h4 => ?_) (fun h4 => ?_))
        · exact Ev.of (by simp [fits, h3, h4])
        · refine Ev.of ?_
          simp only [Bool.not_eq_true] at h4
          by_cases h5 : x.1 = 1 <;> simp [fits, h3, h4, h5]
      · simp only [decide_eq_true_eq] at h3
        exact Ev.of (by simp [fits, h, h2, h3])
/-- Faults in strictly increasing order of their cells, each on the board and of a kind that its cell can have. -/
def faultsOK (b : BoardD) : Int → List FaultD → Bool
  | _, [] => true
  | last, x :: r => decide (0 ≤ x.2.1 ∧ x.2.1 < b.1 ∧ 0 ≤ x.2.2 ∧ x.2.2 < b.2.1 ∧ last < x.2.1 * b.2.1 + x.2.2) && fits (List.getD b.2.2 (x.2.1 * b.2.1 + x.2.2).toNat (0, 0)) x.1 && faultsOK b (x.2.1 * b.2.1 + x.2.2) r
end Go.Proofs.YtkmbhhgibgocpaaDoor.Vs
