/- The proof, part 6. -/
import Derived.Test.Ytcpefeojijlmoaaqnxtm4
set_option maxRecDepth 100000
set_option maxHeartbeats 2000000
set_option linter.unusedVariables false
set_option linter.unusedSimpArgs false
namespace Go.Proofs.Ytcpefeojijlmoaa.Vs
open Go.RowKit
noncomputable section
/-! function 61 -/
noncomputable def r_spec_dgBoard : List PK := [{ t := Ty.bool }]
noncomputable def q_spec_dgBoard : List PK := [{ t := Ty.pair (Ty.int IntKind.i64) (Ty.pair (Ty.int IntKind.i64) (Ty.slice (89 : Nat) (Ty.pair (Ty.int IntKind.i64) (Ty.int IntKind.i64)))), agg := true }]
noncomputable def to_spec_dgBoard (r : Bool) : Tup r_spec_dgBoard × OutD := ((r, ()), none)
noncomputable def of_spec_dgBoard : Tup r_spec_dgBoard × OutD → Option (Bool)
  | (a, none) => some (a.1)
  | _ => none
theorem to_of_spec_dgBoard : ∀ b r, of_spec_dgBoard b = some r → to_spec_dgBoard r = b := by
  rintro ⟨a, o⟩ r h
  cases o with
  | none => injection h with h; subst h; rfl
  | some _ => cases h
noncomputable def f_spec_dgBoard : Nat → Int × Int × List (Int × Int) → Option Bool
  | 0, _ => none
  | k + 1, p0 =>
    Option.bind (f_spec_boGood k (Prod.fst p0, Prod.fst (Prod.snd p0), Prod.snd (Prod.snd p0))) fun z0 => if z0 = true then some (decide ((↑(List.length (Prod.snd (Prod.snd p0))) : Int) ≤ (24 : Int))) else some false
noncomputable def d_spec_dgBoard : FnDef := .of q_spec_dgBoard r_spec_dgBoard (Bool) (fun k x => f_spec_dgBoard k x.1) to_spec_dgBoard of_spec_dgBoard to_of_spec_dgBoard
noncomputable def c_spec_dgBoard : Code := Try.f61.body.getD .skip
noncomputable def x_spec_dgBoard : Ctx (Tup r_spec_dgBoard × OutD) := { T := T, G := [(82, d_spec_boGood.E)], mvs := [], no := 0, n := 11, res := resOf T q_spec_dgBoard r_spec_dgBoard Try.f61.results.toList, loops := [], regs := [], conds := [] }
theorem g_spec_dgBoard (k : Nat) : EnvOK Try.prog k x_spec_dgBoard.G := (EnvOK.cons (s_spec_boGood k) (EnvOK.nil mixed))
theorem h_spec_dgBoard (k : Nat) (x : Tup d_spec_dgBoard.ps) : d_spec_dgBoard.f (k + 1) x = fnK d_spec_dgBoard x_spec_dgBoard c_spec_dgBoard k x := by kernel_rfl
theorem z_spec_dgBoard (x : Tup d_spec_dgBoard.ps) : d_spec_dgBoard.f 0 x = none := by kernel_rfl
theorem l_spec_dgBoard (k : Nat) : LOK Try.prog x_spec_dgBoard k c_spec_dgBoard := LOK.by [] (by kernel_rfl) AllOK.nil
theorem s_spec_dgBoard (k : Nat) : SoundAt Try.prog k 61 d_spec_dgBoard.E := @fn_all Try.prog d_spec_dgBoard x_spec_dgBoard 61 Try.f61 c_spec_dgBoard (by kernel_rfl) (by kernel_rfl) (by kernel_rfl) Try.func61 (by kernel_rfl) (by kernel_rfl) (by kernel_rfl) T_ok g_spec_dgBoard l_spec_dgBoard z_spec_dgBoard h_spec_dgBoard k
/-! function 65 -/
noncomputable def r_spec_faAll : List PK := [{ t := Ty.slice (62 : Nat) (Ty.pair (Ty.int IntKind.i64) (Ty.pair (Ty.int IntKind.i64) (Ty.int IntKind.i64))) }, { t := Ty.pair (Ty.int IntKind.i64) (Ty.pair (Ty.int IntKind.i64) (Ty.slice (89 : Nat) (Ty.pair (Ty.int IntKind.i64) (Ty.int IntKind.i64)))), agg := true }]
noncomputable def q_spec_faAll : List PK := [{ t := Ty.pair (Ty.int IntKind.i64) (Ty.pair (Ty.int IntKind.i64) (Ty.slice (89 : Nat) (Ty.pair (Ty.int IntKind.i64) (Ty.int IntKind.i64)))), agg := true }, { t := Ty.slice (84 : Nat) (Ty.pair (Ty.int IntKind.i64) (Ty.pair (Ty.int IntKind.i64) (Ty.int IntKind.i64))) }, { t := Ty.slice (3 : Nat) (Ty.int IntKind.i64) }]
noncomputable def to_spec_faAll (r : List (Int × Int × Int) × Int × Int × List (Int × Int)) : Tup r_spec_faAll × OutD := ((r.1, r.2, ()), none)
noncomputable def of_spec_faAll : Tup r_spec_faAll × OutD → Option (List (Int × Int × Int) × Int × Int × List (Int × Int))
  | (a, none) => some (a.1, a.2.1)
  | _ => none
theorem to_of_spec_faAll : ∀ b r, of_spec_faAll b = some r → to_spec_faAll r = b := by
  rintro ⟨a, o⟩ r h
  cases o with
  | none => injection h with h; subst h; rfl
  | some _ => cases h
noncomputable def f_spec_faAll_g1 : Nat → Int → Int → List (Int × Int) → Int → Int → List (Int × Int) → List (Int × Int × Int) → List Int → Option (Int × Int × List (Int × Int) × Int × Int × List (Int × Int) × List Int × List (Int × Int × Int) × List Int) := fun k b1_0 b1_1 b1_2 b2_0 b2_1 o3 v1 v2 =>
    Option.bind (f_spec_boOwn k (b1_0, b1_1, b1_2)) fun z0 => Option.bind (f_spec_ggGroups k (b1_0, b1_1, b1_2)) fun z1 => some (b2_0, b2_1, o3, Prod.fst z0, Prod.fst (Prod.snd z0), Prod.snd (Prod.snd z0), z1, v1, v2)
noncomputable def f_spec_faAll_g1A : Nat → Int → Int → List (Int × Int) → Int → Int → List (Int × Int) → List (Int × Int × Int) → List Int → Option (List (Int × Int × List (Int × Int) × Int × Int × List (Int × Int) × List Int × List (Int × Int × Int) × List Int)) := fun k b1_0 b1_1 b1_2 b2_0 b2_1 o3 v1 v2 =>
    joinL (Option.bind (f_spec_boOwn k (b1_0, b1_1, b1_2)) fun z2 => joinL (Option.bind (f_spec_ggGroups k (b1_0, b1_1, b1_2)) fun z3 => some [(b2_0, b2_1, o3, Prod.fst z2, Prod.fst (Prod.snd z2), Prod.snd (Prod.snd z2), z3, v1, v2)]) (Option.bind (f_spec_ggGroups k (b1_0, b1_1, b1_2)) fun z4 => some [(b2_0, b2_1, o3, Prod.fst z2, Prod.fst (Prod.snd z2), Prod.snd (Prod.snd z2), z4, v1, v2)])) (Option.bind (f_spec_boOwn k (b1_0, b1_1, b1_2)) fun z5 => Option.bind (f_spec_ggGroups k (b1_0, b1_1, b1_2)) fun z6 => some [(b2_0, b2_1, o3, Prod.fst z5, Prod.fst (Prod.snd z5), Prod.snd (Prod.snd z5), z6, v1, v2)])
noncomputable def f_spec_faAll_g1i : Spec := { objs := [OSh.ro, OSh.box (33 : Nat) [Sh.int IntKind.i64, Sh.int IntKind.i64, Sh.snap (0 : Nat) (Ty.pair (Ty.int IntKind.i64) (Ty.int IntKind.i64))], OSh.box (33 : Nat) [Sh.int IntKind.i64, Sh.int IntKind.i64, Sh.sl (3 : Nat)], OSh.row true (89 : Nat) (Ty.pair (Ty.int IntKind.i64) (Ty.int IntKind.i64))], tmps := [((1 : Nat), TSh.at (Sh.snap (0 : Nat) (Ty.pair (Ty.int IntKind.i64) (Ty.pair (Ty.int IntKind.i64) (Ty.int IntKind.i64))))), ((2 : Nat), TSh.at (Sh.snap (0 : Nat) (Ty.int IntKind.i64))), ((3 : Nat), TSh.at (Sh.ptr (1 : Nat) (0 : Nat))), ((7 : Nat), TSh.at (Sh.ptr (2 : Nat) (0 : Nat)))] }
noncomputable def f_spec_faAll_g1o : Spec := { objs := [OSh.ro, OSh.box (33 : Nat) [Sh.int IntKind.i64, Sh.int IntKind.i64, Sh.sl (2 : Nat)], OSh.row true (89 : Nat) (Ty.pair (Ty.int IntKind.i64) (Ty.int IntKind.i64)), OSh.box (33 : Nat) [Sh.int IntKind.i64, Sh.int IntKind.i64, Sh.sl (4 : Nat)], OSh.row true (89 : Nat) (Ty.pair (Ty.int IntKind.i64) (Ty.int IntKind.i64)), OSh.row true (3 : Nat) (Ty.int IntKind.i64)], tmps := [((1 : Nat), TSh.at (Sh.snap (0 : Nat) (Ty.pair (Ty.int IntKind.i64) (Ty.pair (Ty.int IntKind.i64) (Ty.int IntKind.i64))))), ((2 : Nat), TSh.at (Sh.snap (0 : Nat) (Ty.int IntKind.i64))), ((7 : Nat), TSh.at (Sh.ptr (1 : Nat) (0 : Nat))), ((8 : Nat), TSh.at (Sh.ptr (3 : Nat) (0 : Nat))), ((9 : Nat), TSh.at (Sh.sl (5 : Nat)))] }
noncomputable def f_spec_faAll_g1D : LoopDef (Tup r_spec_faAll × OutD) := .plain f_spec_faAll_g1i f_spec_faAll_g1o (Int × Int × List (Int × Int) × Int × Int × List (Int × Int) × List Int × List (Int × Int × Int) × List Int) (fun k x => f_spec_faAll_g1 k x.1.2.1.1 x.1.2.1.2.1 x.1.2.1.2.2.1 x.1.2.2.1.1 x.1.2.2.1.2.1 x.1.2.2.2.1 x.2.1 x.2.2.1) (fun z => (((), (z.1, z.2.1, (), ()), z.2.2.1, (z.2.2.2.1, z.2.2.2.2.1, (), ()), z.2.2.2.2.2.1, z.2.2.2.2.2.2.1, ()), (z.2.2.2.2.2.2.2.1, z.2.2.2.2.2.2.2.2, (), (), (), ()))) (fun y => (y.1.2.1.1, y.1.2.1.2.1, y.1.2.2.1, y.1.2.2.2.1.1, y.1.2.2.2.1.2.1, y.1.2.2.2.2.1, y.1.2.2.2.2.2.1, y.2.1, y.2.2.1)) (fun _ => rfl)
theorem f_spec_faAll_g1j (k : Nat) (b1_0 : Int) (b1_1 : Int) (b1_2 : List (Int × Int)) (b2_0 : Int) (b2_1 : Int) (o3 : List (Int × Int)) (v1 : List (Int × Int × Int)) (v2 : List Int) : f_spec_faAll_g1A k b1_0 b1_1 b1_2 b2_0 b2_1 o3 v1 v2 = repl 3 (f_spec_faAll_g1 k b1_0 b1_1 b1_2 b2_0 b2_1 o3 v1 v2) := by
  simp only [f_spec_faAll_g1A, f_spec_faAll_g1, repl_some, repl_ite, repl_ite0, repl_ite1, repl_bind, joinL_repl]
noncomputable def f_spec_faAll_0 : Nat → Int → Int → List (Int × Int) → Int → Int → List (Int × Int) → List Int → List (Int × Int × Int) → List (Int × Int × Int) → List Int → Int → Int → Option (Int × Int × List (Int × Int) × Int × Int × List (Int × Int) × List (Int × Int × Int))
  | 0, _, _, _, _, _, _, _, _, _, _, _, _ => none
  | k + 1, b1_0, b1_1, o2, b3_0, b3_1, o4, o5, o6, v1, v19, v20, v21 =>
    if decide (v21 < v20) = true then if (0 : Int) ≤ v21 then if v21 < (↑(List.length v19) : Int) then Option.bind (f_spec_faGo k (b3_0, b3_1, o4) o5 v1 (List.getD v19 (Int.toNat v21) (0 : Int))) fun z8 => if List.length o6 + List.length [(Prod.fst (Prod.fst z8), Prod.fst (Prod.snd (Prod.fst z8)), Prod.snd (Prod.snd (Prod.fst z8)))] ≤ (140737488355328 / 24 : Nat) then f_spec_faAll_0 k b1_0 b1_1 o2 (Prod.fst (Prod.snd z8)) (Prod.fst (Prod.snd (Prod.snd z8))) (Prod.snd (Prod.snd (Prod.snd z8))) o5 (o6 ++ [(Prod.fst (Prod.fst z8), Prod.fst (Prod.snd (Prod.fst z8)), Prod.snd (Prod.snd (Prod.fst z8)))]) v1 v19 v20 (wrap64 (v21 + (1 : Int))) else none else none else none else some (b1_0, b1_1, o2, b3_0, b3_1, o4, o6)
noncomputable def f_spec_faAll_0i : Spec := { objs := [OSh.ro, OSh.box (33 : Nat) [Sh.int IntKind.i64, Sh.int IntKind.i64, Sh.sl (2 : Nat)], OSh.row true (89 : Nat) (Ty.pair (Ty.int IntKind.i64) (Ty.int IntKind.i64)), OSh.box (33 : Nat) [Sh.int IntKind.i64, Sh.int IntKind.i64, Sh.sl (4 : Nat)], OSh.row true (89 : Nat) (Ty.pair (Ty.int IntKind.i64) (Ty.int IntKind.i64)), OSh.row true (3 : Nat) (Ty.int IntKind.i64), OSh.row true (62 : Nat) (Ty.pair (Ty.int IntKind.i64) (Ty.pair (Ty.int IntKind.i64) (Ty.int IntKind.i64)))], tmps := [((1 : Nat), TSh.at (Sh.snap (0 : Nat) (Ty.pair (Ty.int IntKind.i64) (Ty.pair (Ty.int IntKind.i64) (Ty.int IntKind.i64))))), ((7 : Nat), TSh.at (Sh.ptr (1 : Nat) (0 : Nat))), ((8 : Nat), TSh.at (Sh.ptr (3 : Nat) (0 : Nat))), ((9 : Nat), TSh.at (Sh.sl (5 : Nat))), ((10 : Nat), TSh.at (Sh.sl (6 : Nat))), ((19 : Nat), TSh.at (Sh.snap (0 : Nat) (Ty.int IntKind.i64))), ((20 : Nat), TSh.at (Sh.int IntKind.i64)), ((21 : Nat), TSh.at (Sh.int IntKind.i64))] }
noncomputable def f_spec_faAll_0o : Spec := { objs := [OSh.ro, OSh.box (33 : Nat) [Sh.int IntKind.i64, Sh.int IntKind.i64, Sh.sl (2 : Nat)], OSh.row true (89 : Nat) (Ty.pair (Ty.int IntKind.i64) (Ty.int IntKind.i64)), OSh.box (33 : Nat) [Sh.int IntKind.i64, Sh.int IntKind.i64, Sh.sl (4 : Nat)], OSh.row true (89 : Nat) (Ty.pair (Ty.int IntKind.i64) (Ty.int IntKind.i64)), OSh.row true (62 : Nat) (Ty.pair (Ty.int IntKind.i64) (Ty.pair (Ty.int IntKind.i64) (Ty.int IntKind.i64)))], tmps := [((7 : Nat), TSh.at (Sh.ptr (1 : Nat) (0 : Nat))), ((8 : Nat), TSh.at (Sh.ptr (3 : Nat) (0 : Nat))), ((10 : Nat), TSh.at (Sh.sl (5 : Nat)))] }
noncomputable def f_spec_faAll_0D : LoopDef (Tup r_spec_faAll × OutD) := .plain f_spec_faAll_0i f_spec_faAll_0o (Int × Int × List (Int × Int) × Int × Int × List (Int × Int) × List (Int × Int × Int)) (fun k x => f_spec_faAll_0 k x.1.2.1.1 x.1.2.1.2.1 x.1.2.2.1 x.1.2.2.2.1.1 x.1.2.2.2.1.2.1 x.1.2.2.2.2.1 x.1.2.2.2.2.2.1 x.1.2.2.2.2.2.2.1 x.2.1 x.2.2.2.2.2.2.1 x.2.2.2.2.2.2.2.1 x.2.2.2.2.2.2.2.2.1) (fun z => (((), (z.1, z.2.1, (), ()), z.2.2.1, (z.2.2.2.1, z.2.2.2.2.1, (), ()), z.2.2.2.2.2.1, z.2.2.2.2.2.2, ()), ((), (), (), ()))) (fun y => (y.1.2.1.1, y.1.2.1.2.1, y.1.2.2.1, y.1.2.2.2.1.1, y.1.2.2.2.1.2.1, y.1.2.2.2.2.1, y.1.2.2.2.2.2.1)) (fun _ => rfl)
noncomputable def f_spec_faAll : Nat → Int × Int × List (Int × Int) → List (Int × Int × Int) → List Int → Option (List (Int × Int × Int) × Int × Int × List (Int × Int))
  | 0, _, _, _ => none
  | k + 1, p0, p1, p2 =>
    Option.bind (f_spec_faAll_g1 k (Prod.fst p0) (Prod.fst (Prod.snd p0)) (Prod.snd (Prod.snd p0)) (0 : Int) (0 : Int) [] p1 p2) fun z7 => Option.bind (f_spec_faAll_0 k (Prod.fst z7) (Prod.fst (Prod.snd z7)) (Prod.fst (Prod.snd (Prod.snd z7))) (Prod.fst (Prod.snd (Prod.snd (Prod.snd z7)))) (Prod.fst (Prod.snd (Prod.snd (Prod.snd (Prod.snd z7))))) (Prod.fst (Prod.snd (Prod.snd (Prod.snd (Prod.snd (Prod.snd z7)))))) (Prod.fst (Prod.snd (Prod.snd (Prod.snd (Prod.snd (Prod.snd (Prod.snd z7))))))) [] (Prod.fst (Prod.snd (Prod.snd (Prod.snd (Prod.snd (Prod.snd (Prod.snd (Prod.snd z7)))))))) (Prod.snd (Prod.snd (Prod.snd (Prod.snd (Prod.snd (Prod.snd (Prod.snd (Prod.snd z7)))))))) (↑(List.length (Prod.snd (Prod.snd (Prod.snd (Prod.snd (Prod.snd (Prod.snd (Prod.snd (Prod.snd z7))))))))) : Int) (0 : Int)) fun z9 => some (Prod.snd (Prod.snd (Prod.snd (Prod.snd (Prod.snd (Prod.snd z9))))), Prod.fst (Prod.snd (Prod.snd (Prod.snd z9))), Prod.fst (Prod.snd (Prod.snd (Prod.snd (Prod.snd z9)))), Prod.fst (Prod.snd (Prod.snd (Prod.snd (Prod.snd (Prod.snd z9))))))
noncomputable def d_spec_faAll : FnDef := .of q_spec_faAll r_spec_faAll (List (Int × Int × Int) × Int × Int × List (Int × Int)) (fun k x => f_spec_faAll k x.1 x.2.1 x.2.2.1) to_spec_faAll of_spec_faAll to_of_spec_faAll
noncomputable def c_spec_faAll : Code := Try.f65.body.getD .skip
noncomputable def x_spec_faAll : Ctx (Tup r_spec_faAll × OutD) := { T := T, G := [(84, d_spec_boOwn.E), (85, d_spec_ggGroups.E), (86, d_spec_faGo.E)], mvs := [], no := 0, n := 41, res := resOf T q_spec_faAll r_spec_faAll Try.f65.results.toList, loops := [(0, f_spec_faAll_0D.E)], regs := [(1, f_spec_faAll_g1D.E)], conds := [] }
theorem g_spec_faAll (k : Nat) : EnvOK Try.prog k x_spec_faAll.G := (EnvOK.cons (s_spec_boOwn k) (EnvOK.cons (s_spec_ggGroups k) (EnvOK.cons (s_spec_faGo k) (EnvOK.nil mixed))))
noncomputable def f_spec_faAll_g1O : Array Oper := (findReg 1 c_spec_faAll).getD #[]
theorem f_spec_faAll_g1e (k : Nat) (x : f_spec_faAll_g1i.D) : execD x_spec_faAll.T x_spec_faAll.G x_spec_faAll.mvs k f_spec_faAll_g1O (f_spec_faAll_g1D.inp.st x_spec_faAll.n x) (outK x_spec_faAll f_spec_faAll_g1D) = f_spec_faAll_g1A k x.1.2.1.1 x.1.2.1.2.1 x.1.2.1.2.2.1 x.1.2.2.1.1 x.1.2.2.1.2.1 x.1.2.2.2.1 x.2.1 x.2.2.1 := by kernel_rfl
theorem f_spec_faAll_g1ok (k : Nat) : EOK Try.prog x_spec_faAll k f_spec_faAll_g1D.E (.region 1 f_spec_faAll_g1O true) := reg_ok (D := f_spec_faAll_g1D) (m := 3) T_ok (g_spec_faAll k) (fun x => (f_spec_faAll_g1e k x).trans (f_spec_faAll_g1j k x.1.2.1.1 x.1.2.1.2.1 x.1.2.1.2.2.1 x.1.2.2.1.1 x.1.2.2.1.2.1 x.1.2.2.2.1 x.2.1 x.2.2.1))
noncomputable def f_spec_faAll_0B : Code := (findLoop 0 c_spec_faAll).getD .skip
theorem f_spec_faAll_0h (k : Nat) (x : f_spec_faAll_0i.D) : f_spec_faAll_0D.lp (k + 1) x = loopK x_spec_faAll f_spec_faAll_0D 0 f_spec_faAll_0B k x := by kernel_rfl
theorem f_spec_faAll_0l (k : Nat) : LOK Try.prog x_spec_faAll k f_spec_faAll_0B := LOK.by [] (by kernel_rfl) AllOK.nil
theorem f_spec_faAll_0z (x : f_spec_faAll_0i.D) : f_spec_faAll_0D.lp 0 x = none := by kernel_rfl
theorem f_spec_faAll_0ok (k : Nat) : EOK Try.prog x_spec_faAll k f_spec_faAll_0D.E (.block 0 (.loop f_spec_faAll_0B)) := loop_ok T_ok g_spec_faAll f_spec_faAll_0z f_spec_faAll_0h f_spec_faAll_0l k
theorem h_spec_faAll (k : Nat) (x : Tup d_spec_faAll.ps) : d_spec_faAll.f (k + 1) x = fnK d_spec_faAll x_spec_faAll c_spec_faAll k x := by kernel_rfl
theorem z_spec_faAll (x : Tup d_spec_faAll.ps) : d_spec_faAll.f 0 x = none := by kernel_rfl
theorem l_spec_faAll (k : Nat) : LOK Try.prog x_spec_faAll k c_spec_faAll := LOK.by [(f_spec_faAll_g1D.E, .region 1 f_spec_faAll_g1O true), (f_spec_faAll_0D.E, .block 0 (.loop f_spec_faAll_0B))] (by kernel_rfl) (AllOK.cons (f_spec_faAll_g1ok k) (AllOK.cons (f_spec_faAll_0ok k) AllOK.nil))
theorem s_spec_faAll (k : Nat) : SoundAt Try.prog k 65 d_spec_faAll.E := @fn_all Try.prog d_spec_faAll x_spec_faAll 65 Try.f65 c_spec_faAll (by kernel_rfl) (by kernel_rfl) (by kernel_rfl) Try.func65 (by kernel_rfl) (by kernel_rfl) (by kernel_rfl) T_ok g_spec_faAll l_spec_faAll z_spec_faAll h_spec_faAll k
/-! function 68 -/
noncomputable def r_impl_validEntries : List PK := [{ t := Ty.bool }]
noncomputable def q_impl_validEntries : List PK := [{ t := Ty.pair (Ty.int IntKind.i64) (Ty.pair (Ty.int IntKind.i64) (Ty.slice (89 : Nat) (Ty.pair (Ty.int IntKind.i64) (Ty.int IntKind.i64)))), agg := true }, { t := Ty.slice (3 : Nat) (Ty.int IntKind.i64) }]
noncomputable def to_impl_validEntries (r : Bool) : Tup r_impl_validEntries × OutD := ((r, ()), none)
noncomputable def of_impl_validEntries : Tup r_impl_validEntries × OutD → Option (Bool)
  | (a, none) => some (a.1)
  | _ => none
theorem to_of_impl_validEntries : ∀ b r, of_impl_validEntries b = some r → to_impl_validEntries r = b := by
  rintro ⟨a, o⟩ r h
  cases o with
  | none => injection h with h; subst h; rfl
  | some _ => cases h
noncomputable def f_impl_validEntries_0 : Nat → Int → Int → List (Int × Int) → List Int → Int → Int → Option (LR Unit Bool)
  | 0, _, _, _, _, _, _ => none
  | k + 1, b1_0, b1_1, b1_2, v15, v16, v17 =>
    if decide (v17 < v16) = true then if (0 : Int) ≤ v17 then if v17 < (↑(List.length v15) : Int) then if decide (List.getD v15 (Int.toNat v17) (0 : Int) < (0 : Int)) = true then some (LR.ret false) else if decide (List.getD v15 (Int.toNat v17) (0 : Int) ≥ b1_1) = true then some (LR.ret false) else f_impl_validEntries_0 k b1_0 b1_1 b1_2 v15 v16 (wrap64 (v17 + (1 : Int))) else none else none else some (LR.go ())
noncomputable def f_impl_validEntries_0i : Spec := { objs := [OSh.ro, OSh.box (33 : Nat) [Sh.int IntKind.i64, Sh.int IntKind.i64, Sh.snap (0 : Nat) (Ty.pair (Ty.int IntKind.i64) (Ty.int IntKind.i64))]], tmps := [((2 : Nat), TSh.at (Sh.ptr (1 : Nat) (0 : Nat))), ((15 : Nat), TSh.at (Sh.snap (0 : Nat) (Ty.int IntKind.i64))), ((16 : Nat), TSh.at (Sh.int IntKind.i64)), ((17 : Nat), TSh.at (Sh.int IntKind.i64))] }
noncomputable def f_impl_validEntries_0o : Spec := { objs := [OSh.ro], tmps := [] }
noncomputable def f_impl_validEntries_0D : LoopDef (Tup r_impl_validEntries × OutD) := .rets f_impl_validEntries_0i f_impl_validEntries_0o (Unit) (Bool) (fun k x => f_impl_validEntries_0 k x.1.2.1.1 x.1.2.1.2.1 x.1.2.1.2.2.1 x.2.2.1 x.2.2.2.1 x.2.2.2.2.1) (fun z => (((), ()), (()))) (fun y => ()) (fun _ => rfl) to_impl_validEntries of_impl_validEntries to_of_impl_validEntries
noncomputable def f_impl_validEntries : Nat → Int × Int × List (Int × Int) → List Int → Option Bool
  | 0, _, _ => none
  | k + 1, p0, p1 =>
    Option.bind (f_impl_IsBoard k (Prod.fst p0, Prod.fst (Prod.snd p0), Prod.snd (Prod.snd p0))) fun z0 => if (!z0) = true then some false else if decide ((↑(List.length p1) : Int) > (60 : Int)) = true then some false else Option.bind (f_impl_validEntries_0 k (Prod.fst p0) (Prod.fst (Prod.snd p0)) (Prod.snd (Prod.snd p0)) p1 (↑(List.length p1) : Int) (0 : Int)) fun z1 => LR.on z1 (fun y1 => some true) fun r1 => some r1
noncomputable def d_impl_validEntries : FnDef := .of q_impl_validEntries r_impl_validEntries (Bool) (fun k x => f_impl_validEntries k x.1 x.2.1) to_impl_validEntries of_impl_validEntries to_of_impl_validEntries
noncomputable def c_impl_validEntries : Code := Try.f68.body.getD .skip
noncomputable def x_impl_validEntries : Ctx (Tup r_impl_validEntries × OutD) := { T := T, G := [(77, d_impl_IsBoard.E)], mvs := [], no := 0, n := 30, res := resOf T q_impl_validEntries r_impl_validEntries Try.f68.results.toList, loops := [(0, f_impl_validEntries_0D.E)], regs := [], conds := [] }
theorem g_impl_validEntries (k : Nat) : EnvOK Try.prog k x_impl_validEntries.G := (EnvOK.cons (s_impl_IsBoard k) (EnvOK.nil mixed))
noncomputable def f_impl_validEntries_0B : Code := (findLoop 0 c_impl_validEntries).getD .skip
theorem f_impl_validEntries_0h (k : Nat) (x : f_impl_validEntries_0i.D) : f_impl_validEntries_0D.lp (k + 1) x = loopK x_impl_validEntries f_impl_validEntries_0D 0 f_impl_validEntries_0B k x := by kernel_rfl
theorem f_impl_validEntries_0l (k : Nat) : LOK Try.prog x_impl_validEntries k f_impl_validEntries_0B := LOK.by [] (by kernel_rfl) AllOK.nil
theorem f_impl_validEntries_0z (x : f_impl_validEntries_0i.D) : f_impl_validEntries_0D.lp 0 x = none := by kernel_rfl
theorem f_impl_validEntries_0ok (k : Nat) : EOK Try.prog x_impl_validEntries k f_impl_validEntries_0D.E (.block 0 (.loop f_impl_validEntries_0B)) := loop_ok T_ok g_impl_validEntries f_impl_validEntries_0z f_impl_validEntries_0h f_impl_validEntries_0l k
theorem h_impl_validEntries (k : Nat) (x : Tup d_impl_validEntries.ps) : d_impl_validEntries.f (k + 1) x = fnK d_impl_validEntries x_impl_validEntries c_impl_validEntries k x := by kernel_rfl
theorem z_impl_validEntries (x : Tup d_impl_validEntries.ps) : d_impl_validEntries.f 0 x = none := by kernel_rfl
theorem l_impl_validEntries (k : Nat) : LOK Try.prog x_impl_validEntries k c_impl_validEntries := LOK.by [(f_impl_validEntries_0D.E, .block 0 (.loop f_impl_validEntries_0B))] (by kernel_rfl) (AllOK.cons (f_impl_validEntries_0ok k) AllOK.nil)
theorem s_impl_validEntries (k : Nat) : SoundAt Try.prog k 68 d_impl_validEntries.E := @fn_all Try.prog d_impl_validEntries x_impl_validEntries 68 Try.f68 c_impl_validEntries (by kernel_rfl) (by kernel_rfl) (by kernel_rfl) Try.func68 (by kernel_rfl) (by kernel_rfl) (by kernel_rfl) T_ok g_impl_validEntries l_impl_validEntries z_impl_validEntries h_impl_validEntries k
/-! function 69 -/
noncomputable def r_impl_possibleFaults : List PK := [{ t := Ty.slice (84 : Nat) (Ty.pair (Ty.int IntKind.i64) (Ty.pair (Ty.int IntKind.i64) (Ty.int IntKind.i64))) }]
noncomputable def q_impl_possibleFaults : List PK := [{ t := Ty.pair (Ty.int IntKind.i64) (Ty.pair (Ty.int IntKind.i64) (Ty.slice (89 : Nat) (Ty.pair (Ty.int IntKind.i64) (Ty.int IntKind.i64)))), agg := true }]
noncomputable def to_impl_possibleFaults (r : List (Int × Int × Int)) : Tup r_impl_possibleFaults × OutD := ((r, ()), none)
noncomputable def of_impl_possibleFaults : Tup r_impl_possibleFaults × OutD → Option (List (Int × Int × Int))
  | (a, none) => some (a.1)
  | _ => none
theorem to_of_impl_possibleFaults : ∀ b r, of_impl_possibleFaults b = some r → to_impl_possibleFaults r = b := by
  rintro ⟨a, o⟩ r h
  cases o with
  | none => injection h with h; subst h; rfl
  | some _ => cases h
noncomputable def f_impl_possibleFaults_2 : Nat → Int → Int → List (Int × Int) → List (Int × Int × Int) → Int → Int → Int → Int → List (Int × Int) → Int → Int → Option (Int × Int × List (Int × Int) × List (Int × Int × Int) × List (Int × Int) × Int × Int)
  | 0, _, _, _, _, _, _, _, _, _, _, _ => none
  | k + 1, b1_0, b1_1, b1_2, o2, b3_0, b3_1, v4, v6, v9, v10, v11 =>
    if decide (v6 ≤ (3 : Int)) = true then Option.bind (f_impl_canHave k (b3_0, b3_1) v6) fun z0 => if z0 = true then if b1_1 = (0 : Int) then none else if b1_1 = (0 : Int) then none else if List.length o2 + List.length [(v6, wrap64 (Int.tdiv v4 b1_1), Int.tmod v4 b1_1)] ≤ (140737488355328 / 24 : Nat) then f_impl_possibleFaults_2 k b1_0 b1_1 b1_2 (o2 ++ [(v6, wrap64 (Int.tdiv v4 b1_1), Int.tmod v4 b1_1)]) b3_0 b3_1 v4 (wrap64 (v6 + (1 : Int))) v9 v10 v11 else none else f_impl_possibleFaults_2 k b1_0 b1_1 b1_2 o2 b3_0 b3_1 v4 (wrap64 (v6 + (1 : Int))) v9 v10 v11 else some (b1_0, b1_1, b1_2, o2, v9, v10, v11)
noncomputable def f_impl_possibleFaults_2i : Spec := { objs := [OSh.ro, OSh.box (33 : Nat) [Sh.int IntKind.i64, Sh.int IntKind.i64, Sh.snap (0 : Nat) (Ty.pair (Ty.int IntKind.i64) (Ty.int IntKind.i64))], OSh.row true (84 : Nat) (Ty.pair (Ty.int IntKind.i64) (Ty.pair (Ty.int IntKind.i64) (Ty.int IntKind.i64))), OSh.box (89 : Nat) [Sh.int IntKind.i64, Sh.int IntKind.i64]], tmps := [((1 : Nat), TSh.at (Sh.ptr (1 : Nat) (0 : Nat))), ((3 : Nat), TSh.at (Sh.sl (2 : Nat))), ((4 : Nat), TSh.at (Sh.int IntKind.i64)), ((5 : Nat), TSh.at (Sh.ptr (3 : Nat) (0 : Nat))), ((6 : Nat), TSh.at (Sh.int IntKind.i64)), ((9 : Nat), TSh.at (Sh.snap (0 : Nat) (Ty.pair (Ty.int IntKind.i64) (Ty.int IntKind.i64)))), ((10 : Nat), TSh.at (Sh.int IntKind.i64)), ((11 : Nat), TSh.at (Sh.int IntKind.i64))] }
noncomputable def f_impl_possibleFaults_2o : Spec := { objs := [OSh.ro, OSh.box (33 : Nat) [Sh.int IntKind.i64, Sh.int IntKind.i64, Sh.snap (0 : Nat) (Ty.pair (Ty.int IntKind.i64) (Ty.int IntKind.i64))], OSh.row true (84 : Nat) (Ty.pair (Ty.int IntKind.i64) (Ty.pair (Ty.int IntKind.i64) (Ty.int IntKind.i64)))], tmps := [((1 : Nat), TSh.at (Sh.ptr (1 : Nat) (0 : Nat))), ((3 : Nat), TSh.at (Sh.sl (2 : Nat))), ((9 : Nat), TSh.at (Sh.snap (0 : Nat) (Ty.pair (Ty.int IntKind.i64) (Ty.int IntKind.i64)))), ((10 : Nat), TSh.at (Sh.int IntKind.i64)), ((11 : Nat), TSh.at (Sh.int IntKind.i64))] }
noncomputable def f_impl_possibleFaults_2D : LoopDef (Tup r_impl_possibleFaults × OutD) := .plain f_impl_possibleFaults_2i f_impl_possibleFaults_2o (Int × Int × List (Int × Int) × List (Int × Int × Int) × List (Int × Int) × Int × Int) (fun k x => f_impl_possibleFaults_2 k x.1.2.1.1 x.1.2.1.2.1 x.1.2.1.2.2.1 x.1.2.2.1 x.1.2.2.2.1.1 x.1.2.2.2.1.2.1 x.2.2.2.1 x.2.2.2.2.2.1 x.2.2.2.2.2.2.1 x.2.2.2.2.2.2.2.1 x.2.2.2.2.2.2.2.2.1) (fun z => (((), (z.1, z.2.1, z.2.2.1, ()), z.2.2.2.1, ()), ((), (), z.2.2.2.2.1, z.2.2.2.2.2.1, z.2.2.2.2.2.2, ()))) (fun y => (y.1.2.1.1, y.1.2.1.2.1, y.1.2.1.2.2.1, y.1.2.2.1, y.2.2.2.1, y.2.2.2.2.1, y.2.2.2.2.2.1)) (fun _ => rfl)
noncomputable def f_impl_possibleFaults_0 : Nat → Int → Int → List (Int × Int) → List (Int × Int × Int) → List (Int × Int) → Int → Int → Option (List (Int × Int × Int))
  | 0, _, _, _, _, _, _, _ => none
  | k + 1, b1_0, b1_1, b1_2, o2, v9, v10, v11 =>
    if decide (v11 < v10) = true then if (0 : Int) ≤ v11 then if v11 < (↑(List.length v9) : Int) then Option.bind (f_impl_possibleFaults_2 k b1_0 b1_1 b1_2 o2 (Prod.fst (List.getD v9 (Int.toNat v11) ((0 : Int), (0 : Int)))) (Prod.snd (List.getD v9 (Int.toNat v11) ((0 : Int), (0 : Int)))) v11 (1 : Int) v9 v10 v11) fun z1 => f_impl_possibleFaults_0 k (Prod.fst z1) (Prod.fst (Prod.snd z1)) (Prod.fst (Prod.snd (Prod.snd z1))) (Prod.fst (Prod.snd (Prod.snd (Prod.snd z1)))) (Prod.fst (Prod.snd (Prod.snd (Prod.snd (Prod.snd z1))))) (Prod.fst (Prod.snd (Prod.snd (Prod.snd (Prod.snd (Prod.snd z1)))))) (wrap64 (Prod.snd (Prod.snd (Prod.snd (Prod.snd (Prod.snd (Prod.snd z1))))) + (1 : Int))) else none else none else some o2
noncomputable def f_impl_possibleFaults_0i : Spec := { objs := [OSh.ro, OSh.box (33 : Nat) [Sh.int IntKind.i64, Sh.int IntKind.i64, Sh.snap (0 : Nat) (Ty.pair (Ty.int IntKind.i64) (Ty.int IntKind.i64))], OSh.row true (84 : Nat) (Ty.pair (Ty.int IntKind.i64) (Ty.pair (Ty.int IntKind.i64) (Ty.int IntKind.i64)))], tmps := [((1 : Nat), TSh.at (Sh.ptr (1 : Nat) (0 : Nat))), ((3 : Nat), TSh.at (Sh.sl (2 : Nat))), ((9 : Nat), TSh.at (Sh.snap (0 : Nat) (Ty.pair (Ty.int IntKind.i64) (Ty.int IntKind.i64)))), ((10 : Nat), TSh.at (Sh.int IntKind.i64)), ((11 : Nat), TSh.at (Sh.int IntKind.i64))] }
noncomputable def f_impl_possibleFaults_0o : Spec := { objs := [OSh.ro, OSh.row true (84 : Nat) (Ty.pair (Ty.int IntKind.i64) (Ty.pair (Ty.int IntKind.i64) (Ty.int IntKind.i64)))], tmps := [((3 : Nat), TSh.at (Sh.sl (1 : Nat)))] }
noncomputable def f_impl_possibleFaults_0D : LoopDef (Tup r_impl_possibleFaults × OutD) := .plain f_impl_possibleFaults_0i f_impl_possibleFaults_0o (List (Int × Int × Int)) (fun k x => f_impl_possibleFaults_0 k x.1.2.1.1 x.1.2.1.2.1 x.1.2.1.2.2.1 x.1.2.2.1 x.2.2.2.1 x.2.2.2.2.1 x.2.2.2.2.2.1) (fun z => (((), z, ()), ((), ()))) (fun y => (y.1.2.1)) (fun _ => rfl)
noncomputable def f_impl_possibleFaults : Nat → Int × Int × List (Int × Int) → Option (List (Int × Int × Int))
  | 0, _ => none
  | k + 1, p0 =>
    Option.bind (f_impl_possibleFaults_0 k (Prod.fst p0) (Prod.fst (Prod.snd p0)) (Prod.snd (Prod.snd p0)) [] (Prod.snd (Prod.snd p0)) (↑(List.length (Prod.snd (Prod.snd p0))) : Int) (0 : Int)) fun z2 => some z2
noncomputable def d_impl_possibleFaults : FnDef := .of q_impl_possibleFaults r_impl_possibleFaults (List (Int × Int × Int)) (fun k x => f_impl_possibleFaults k x.1) to_impl_possibleFaults of_impl_possibleFaults to_of_impl_possibleFaults
noncomputable def c_impl_possibleFaults : Code := Try.f69.body.getD .skip
noncomputable def x_impl_possibleFaults : Ctx (Tup r_impl_possibleFaults × OutD) := { T := T, G := [(87, d_impl_canHave.E)], mvs := [], no := 0, n := 38, res := resOf T q_impl_possibleFaults r_impl_possibleFaults Try.f69.results.toList, loops := [(2, f_impl_possibleFaults_2D.E), (0, f_impl_possibleFaults_0D.E)], regs := [], conds := [] }
theorem g_impl_possibleFaults (k : Nat) : EnvOK Try.prog k x_impl_possibleFaults.G := (EnvOK.cons (s_impl_canHave k) (EnvOK.nil mixed))
noncomputable def f_impl_possibleFaults_2B : Code := (findLoop 2 c_impl_possibleFaults).getD .skip
theorem f_impl_possibleFaults_2h (k : Nat) (x : f_impl_possibleFaults_2i.D) : f_impl_possibleFaults_2D.lp (k + 1) x = loopK x_impl_possibleFaults f_impl_possibleFaults_2D 2 f_impl_possibleFaults_2B k x := by kernel_rfl
theorem f_impl_possibleFaults_2l (k : Nat) : LOK Try.prog x_impl_possibleFaults k f_impl_possibleFaults_2B := LOK.by [] (by kernel_rfl) AllOK.nil
theorem f_impl_possibleFaults_2z (x : f_impl_possibleFaults_2i.D) : f_impl_possibleFaults_2D.lp 0 x = none := by kernel_rfl
theorem f_impl_possibleFaults_2ok (k : Nat) : EOK Try.prog x_impl_possibleFaults k f_impl_possibleFaults_2D.E (.block 2 (.loop f_impl_possibleFaults_2B)) := loop_ok T_ok g_impl_possibleFaults f_impl_possibleFaults_2z f_impl_possibleFaults_2h f_impl_possibleFaults_2l k
noncomputable def f_impl_possibleFaults_0B : Code := (findLoop 0 c_impl_possibleFaults).getD .skip
theorem f_impl_possibleFaults_0h (k : Nat) (x : f_impl_possibleFaults_0i.D) : f_impl_possibleFaults_0D.lp (k + 1) x = loopK x_impl_possibleFaults f_impl_possibleFaults_0D 0 f_impl_possibleFaults_0B k x := by kernel_rfl
theorem f_impl_possibleFaults_0l (k : Nat) : LOK Try.prog x_impl_possibleFaults k f_impl_possibleFaults_0B := LOK.by [(f_impl_possibleFaults_2D.E, .block 2 (.loop f_impl_possibleFaults_2B))] (by kernel_rfl) (AllOK.cons (f_impl_possibleFaults_2ok k) AllOK.nil)
theorem f_impl_possibleFaults_0z (x : f_impl_possibleFaults_0i.D) : f_impl_possibleFaults_0D.lp 0 x = none := by kernel_rfl
theorem f_impl_possibleFaults_0ok (k : Nat) : EOK Try.prog x_impl_possibleFaults k f_impl_possibleFaults_0D.E (.block 0 (.loop f_impl_possibleFaults_0B)) := loop_ok T_ok g_impl_possibleFaults f_impl_possibleFaults_0z f_impl_possibleFaults_0h f_impl_possibleFaults_0l k
theorem h_impl_possibleFaults (k : Nat) (x : Tup d_impl_possibleFaults.ps) : d_impl_possibleFaults.f (k + 1) x = fnK d_impl_possibleFaults x_impl_possibleFaults c_impl_possibleFaults k x := by kernel_rfl
theorem z_impl_possibleFaults (x : Tup d_impl_possibleFaults.ps) : d_impl_possibleFaults.f 0 x = none := by kernel_rfl
theorem l_impl_possibleFaults (k : Nat) : LOK Try.prog x_impl_possibleFaults k c_impl_possibleFaults := LOK.by [(f_impl_possibleFaults_0D.E, .block 0 (.loop f_impl_possibleFaults_0B))] (by kernel_rfl) (AllOK.cons (f_impl_possibleFaults_0ok k) AllOK.nil)
theorem s_impl_possibleFaults (k : Nat) : SoundAt Try.prog k 69 d_impl_possibleFaults.E := @fn_all Try.prog d_impl_possibleFaults x_impl_possibleFaults 69 Try.f69 c_impl_possibleFaults (by kernel_rfl) (by kernel_rfl) (by kernel_rfl) Try.func69 (by kernel_rfl) (by kernel_rfl) (by kernel_rfl) T_ok g_impl_possibleFaults l_impl_possibleFaults z_impl_possibleFaults h_impl_possibleFaults k
/-! function 71 -/
noncomputable def r_impl_faultyDrops : List PK := [{ t := Ty.slice (62 : Nat) (Ty.pair (Ty.int IntKind.i64) (Ty.pair (Ty.int IntKind.i64) (Ty.int IntKind.i64))) }, { t := Ty.pair (Ty.int IntKind.i64) (Ty.pair (Ty.int IntKind.i64) (Ty.slice (89 : Nat) (Ty.pair (Ty.int IntKind.i64) (Ty.int IntKind.i64)))), agg := true }]
noncomputable def q_impl_faultyDrops : List PK := [{ t := Ty.pair (Ty.int IntKind.i64) (Ty.pair (Ty.int IntKind.i64) (Ty.slice (89 : Nat) (Ty.pair (Ty.int IntKind.i64) (Ty.int IntKind.i64)))), agg := true }, { t := Ty.slice (84 : Nat) (Ty.pair (Ty.int IntKind.i64) (Ty.pair (Ty.int IntKind.i64) (Ty.int IntKind.i64))) }, { t := Ty.slice (3 : Nat) (Ty.int IntKind.i64) }]
noncomputable def to_impl_faultyDrops (r : List (Int × Int × Int) × Int × Int × List (Int × Int)) : Tup r_impl_faultyDrops × OutD := ((r.1, r.2, ()), none)
noncomputable def of_impl_faultyDrops : Tup r_impl_faultyDrops × OutD → Option (List (Int × Int × Int) × Int × Int × List (Int × Int))
  | (a, none) => some (a.1, a.2.1)
  | _ => none
theorem to_of_impl_faultyDrops : ∀ b r, of_impl_faultyDrops b = some r → to_impl_faultyDrops r = b := by
  rintro ⟨a, o⟩ r h
  cases o with
  | none => injection h with h; subst h; rfl
  | some _ => cases h
noncomputable def f_impl_faultyDrops_0 : Nat → Int → Int → List (Int × Int) → Int → Int → List (Int × Int) → List Int → List Int → List (Int × Int × Int) → List Int → Int → Int → Option (Int × Int × List (Int × Int) × Int × Int × List (Int × Int) × List (Int × Int × Int))
  | 0, _, _, _, _, _, _, _, _, _, _, _, _ => none
  | k + 1, b1_0, b1_1, o2, b3_0, b3_1, o4, o5, o6, o7, v22, v23, v24 =>
    if decide (v24 < v23) = true then if (0 : Int) ≤ v24 then if v24 < (↑(List.length v22) : Int) then Option.bind (f_impl_faultyDrop k (b3_0, b3_1, o4) o5 o6 (List.getD v22 (Int.toNat v24) (0 : Int))) fun z3 => if List.length o7 + List.length [(Prod.fst (Prod.fst z3), Prod.fst (Prod.snd (Prod.fst z3)), Prod.snd (Prod.snd (Prod.fst z3)))] ≤ (140737488355328 / 24 : Nat) then f_impl_faultyDrops_0 k b1_0 b1_1 o2 b3_0 b3_1 (Prod.snd z3) o5 o6 (o7 ++ [(Prod.fst (Prod.fst z3), Prod.fst (Prod.snd (Prod.fst z3)), Prod.snd (Prod.snd (Prod.fst z3)))]) v22 v23 (wrap64 (v24 + (1 : Int))) else none else none else none else some (b1_0, b1_1, o2, b3_0, b3_1, o4, o7)
noncomputable def f_impl_faultyDrops_0i : Spec := { objs := [OSh.ro, OSh.box (33 : Nat) [Sh.int IntKind.i64, Sh.int IntKind.i64, Sh.sl (2 : Nat)], OSh.row true (89 : Nat) (Ty.pair (Ty.int IntKind.i64) (Ty.int IntKind.i64)), OSh.box (33 : Nat) [Sh.int IntKind.i64, Sh.int IntKind.i64, Sh.sl (4 : Nat)], OSh.row true (89 : Nat) (Ty.pair (Ty.int IntKind.i64) (Ty.int IntKind.i64)), OSh.row true (3 : Nat) (Ty.int IntKind.i64), OSh.row true (3 : Nat) (Ty.int IntKind.i64), OSh.row true (62 : Nat) (Ty.pair (Ty.int IntKind.i64) (Ty.pair (Ty.int IntKind.i64) (Ty.int IntKind.i64)))], tmps := [((7 : Nat), TSh.at (Sh.ptr (1 : Nat) (0 : Nat))), ((8 : Nat), TSh.at (Sh.ptr (3 : Nat) (0 : Nat))), ((9 : Nat), TSh.at (Sh.sl (5 : Nat))), ((10 : Nat), TSh.at (Sh.sl (6 : Nat))), ((11 : Nat), TSh.at (Sh.sl (7 : Nat))), ((22 : Nat), TSh.at (Sh.snap (0 : Nat) (Ty.int IntKind.i64))), ((23 : Nat), TSh.at (Sh.int IntKind.i64)), ((24 : Nat), TSh.at (Sh.int IntKind.i64))] }
noncomputable def f_impl_faultyDrops_0o : Spec := { objs := [OSh.ro, OSh.box (33 : Nat) [Sh.int IntKind.i64, Sh.int IntKind.i64, Sh.sl (2 : Nat)], OSh.row true (89 : Nat) (Ty.pair (Ty.int IntKind.i64) (Ty.int IntKind.i64)), OSh.box (33 : Nat) [Sh.int IntKind.i64, Sh.int IntKind.i64, Sh.sl (4 : Nat)], OSh.row true (89 : Nat) (Ty.pair (Ty.int IntKind.i64) (Ty.int IntKind.i64)), OSh.row true (62 : Nat) (Ty.pair (Ty.int IntKind.i64) (Ty.pair (Ty.int IntKind.i64) (Ty.int IntKind.i64)))], tmps := [((7 : Nat), TSh.at (Sh.ptr (1 : Nat) (0 : Nat))), ((8 : Nat), TSh.at (Sh.ptr (3 : Nat) (0 : Nat))), ((11 : Nat), TSh.at (Sh.sl (5 : Nat)))] }
noncomputable def f_impl_faultyDrops_0D : LoopDef (Tup r_impl_faultyDrops × OutD) := .plain f_impl_faultyDrops_0i f_impl_faultyDrops_0o (Int × Int × List (Int × Int) × Int × Int × List (Int × Int) × List (Int × Int × Int)) (fun k x => f_impl_faultyDrops_0 k x.1.2.1.1 x.1.2.1.2.1 x.1.2.2.1 x.1.2.2.2.1.1 x.1.2.2.2.1.2.1 x.1.2.2.2.2.1 x.1.2.2.2.2.2.1 x.1.2.2.2.2.2.2.1 x.1.2.2.2.2.2.2.2.1 x.2.2.2.2.2.2.1 x.2.2.2.2.2.2.2.1 x.2.2.2.2.2.2.2.2.1) (fun z => (((), (z.1, z.2.1, (), ()), z.2.2.1, (z.2.2.2.1, z.2.2.2.2.1, (), ()), z.2.2.2.2.2.1, z.2.2.2.2.2.2, ()), ((), (), (), ()))) (fun y => (y.1.2.1.1, y.1.2.1.2.1, y.1.2.2.1, y.1.2.2.2.1.1, y.1.2.2.2.1.2.1, y.1.2.2.2.2.1, y.1.2.2.2.2.2.1)) (fun _ => rfl)
noncomputable def f_impl_faultyDrops : Nat → Int × Int × List (Int × Int) → List (Int × Int × Int) → List Int → Option (List (Int × Int × Int) × Int × Int × List (Int × Int))
  | 0, _, _, _ => none
  | k + 1, p0, p1, p2 =>
    Option.bind (f_impl_copyBoard k (Prod.fst p0, Prod.fst (Prod.snd p0), Prod.snd (Prod.snd p0))) fun z0 => Option.bind (f_impl_groupNumbers k (Prod.fst p0, Prod.fst (Prod.snd p0), Prod.snd (Prod.snd p0))) fun z1 => Option.bind (f_impl_faultsByCell k (Prod.fst p0, Prod.fst (Prod.snd p0), Prod.snd (Prod.snd p0)) p1) fun z2 => Option.bind (f_impl_faultyDrops_0 k (0 : Int) (0 : Int) [] (Prod.fst z0) (Prod.fst (Prod.snd z0)) (Prod.snd (Prod.snd z0)) z1 z2 [] p2 (↑(List.length p2) : Int) (0 : Int)) fun z4 => some (Prod.snd (Prod.snd (Prod.snd (Prod.snd (Prod.snd (Prod.snd z4))))), Prod.fst (Prod.snd (Prod.snd (Prod.snd z4))), Prod.fst (Prod.snd (Prod.snd (Prod.snd (Prod.snd z4)))), Prod.fst (Prod.snd (Prod.snd (Prod.snd (Prod.snd (Prod.snd z4))))))
noncomputable def d_impl_faultyDrops : FnDef := .of q_impl_faultyDrops r_impl_faultyDrops (List (Int × Int × Int) × Int × Int × List (Int × Int)) (fun k x => f_impl_faultyDrops k x.1 x.2.1 x.2.2.1) to_impl_faultyDrops of_impl_faultyDrops to_of_impl_faultyDrops
noncomputable def c_impl_faultyDrops : Code := Try.f71.body.getD .skip
noncomputable def x_impl_faultyDrops : Ctx (Tup r_impl_faultyDrops × OutD) := { T := T, G := [(89, d_impl_copyBoard.E), (90, d_impl_groupNumbers.E), (91, d_impl_faultsByCell.E), (92, d_impl_faultyDrop.E)], mvs := [], no := 0, n := 39, res := resOf T q_impl_faultyDrops r_impl_faultyDrops Try.f71.results.toList, loops := [(0, f_impl_faultyDrops_0D.E)], regs := [], conds := [] }
theorem g_impl_faultyDrops (k : Nat) : EnvOK Try.prog k x_impl_faultyDrops.G := (EnvOK.cons (s_impl_copyBoard k) (EnvOK.cons (s_impl_groupNumbers k) (EnvOK.cons (s_impl_faultsByCell k) (EnvOK.cons (s_impl_faultyDrop k) (EnvOK.nil mixed)))))
noncomputable def f_impl_faultyDrops_0B : Code := (findLoop 0 c_impl_faultyDrops).getD .skip
theorem f_impl_faultyDrops_0h (k : Nat) (x : f_impl_faultyDrops_0i.D) : f_impl_faultyDrops_0D.lp (k + 1) x = loopK x_impl_faultyDrops f_impl_faultyDrops_0D 0 f_impl_faultyDrops_0B k x := by kernel_rfl
theorem f_impl_faultyDrops_0l (k : Nat) : LOK Try.prog x_impl_faultyDrops k f_impl_faultyDrops_0B := LOK.by [] (by kernel_rfl) AllOK.nil
theorem f_impl_faultyDrops_0z (x : f_impl_faultyDrops_0i.D) : f_impl_faultyDrops_0D.lp 0 x = none := by kernel_rfl
theorem f_impl_faultyDrops_0ok (k : Nat) : EOK Try.prog x_impl_faultyDrops k f_impl_faultyDrops_0D.E (.block 0 (.loop f_impl_faultyDrops_0B)) := loop_ok T_ok g_impl_faultyDrops f_impl_faultyDrops_0z f_impl_faultyDrops_0h f_impl_faultyDrops_0l k
theorem h_impl_faultyDrops (k : Nat) (x : Tup d_impl_faultyDrops.ps) : d_impl_faultyDrops.f (k + 1) x = fnK d_impl_faultyDrops x_impl_faultyDrops c_impl_faultyDrops k x := by kernel_rfl
theorem z_impl_faultyDrops (x : Tup d_impl_faultyDrops.ps) : d_impl_faultyDrops.f 0 x = none := by kernel_rfl
theorem l_impl_faultyDrops (k : Nat) : LOK Try.prog x_impl_faultyDrops k c_impl_faultyDrops := LOK.by [(f_impl_faultyDrops_0D.E, .block 0 (.loop f_impl_faultyDrops_0B))] (by kernel_rfl) (AllOK.cons (f_impl_faultyDrops_0ok k) AllOK.nil)
theorem s_impl_faultyDrops (k : Nat) : SoundAt Try.prog k 71 d_impl_faultyDrops.E := @fn_all Try.prog d_impl_faultyDrops x_impl_faultyDrops 71 Try.f71 c_impl_faultyDrops (by kernel_rfl) (by kernel_rfl) (by kernel_rfl) Try.func71 (by kernel_rfl) (by kernel_rfl) (by kernel_rfl) T_ok g_impl_faultyDrops l_impl_faultyDrops z_impl_faultyDrops h_impl_faultyDrops k
/-! function 73 -/
end
end Go.Proofs.Ytcpefeojijlmoaa.Vs

set_option maxRecDepth 100000
set_option maxHeartbeats 2000000
set_option linter.unusedVariables false
set_option linter.unusedSimpArgs false
namespace Go.Proofs.Ytcpefeojijlmoaa.Vs
open Go.RowKit
noncomputable section
/-! function 31 -/
noncomputable def r_spec_dgGood : List PK := [{ t := Ty.bool }]
noncomputable def q_spec_dgGood : List PK := [{ t := Ty.pair (Ty.int IntKind.i64) (Ty.pair (Ty.int IntKind.i64) (Ty.slice (89 : Nat) (Ty.pair (Ty.int IntKind.i64) (Ty.int IntKind.i64)))), agg := true }, { t := Ty.slice (3 : Nat) (Ty.int IntKind.i64) }, { t := Ty.slice (62 : Nat) (Ty.pair (Ty.int IntKind.i64) (Ty.pair (Ty.int IntKind.i64) (Ty.int IntKind.i64))) }]
noncomputable def to_spec_dgGood (r : Bool) : Tup r_spec_dgGood × OutD := ((r, ()), none)
noncomputable def of_spec_dgGood : Tup r_spec_dgGood × OutD → Option (Bool)
  | (a, none) => some (a.1)
  | _ => none
theorem to_of_spec_dgGood : ∀ b r, of_spec_dgGood b = some r → to_spec_dgGood r = b := by
  rintro ⟨a, o⟩ r h
  cases o with
  | none => injection h with h; subst h; rfl
  | some _ => cases h
noncomputable def f_spec_dgGood_0 : Nat → Int → Int → List (Int × Int) → List (Int × Int × Int) → Int → Int → Option (LR Unit Bool)
  | 0, _, _, _, _, _, _ => none
  | k + 1, b1_0, b1_1, b1_2, v32, v33, v34 =>
    if decide (v34 < v33) = true then if (0 : Int) ≤ v34 then if v34 < (↑(List.length v32) : Int) then Option.bind (f_spec_l1In k (Prod.fst (List.getD v32 (Int.toNat v34) ((0 : Int), (0 : Int), (0 : Int)))) (1 : Int) (3 : Int)) fun z2 => if (!z2) = true then some (LR.ret false) else Option.bind (f_spec_l1In k (Prod.fst (Prod.snd (List.getD v32 (Int.toNat v34) ((0 : Int), (0 : Int), (0 : Int))))) (0 : Int) b1_0) fun z3 => if (!z3) = true then some (LR.ret false) else Option.bind (f_spec_l1In k (Prod.snd (Prod.snd (List.getD v32 (Int.toNat v34) ((0 : Int), (0 : Int), (0 : Int))))) (-1 : Int) b1_1) fun z4 => if (!z4) = true then some (LR.ret false) else f_spec_dgGood_0 k b1_0 b1_1 b1_2 v32 v33 (wrap64 (v34 + (1 : Int))) else none else none else some (LR.go ())
noncomputable def f_spec_dgGood_0i : Spec := { objs := [OSh.ro, OSh.box (33 : Nat) [Sh.int IntKind.i64, Sh.int IntKind.i64, Sh.snap (0 : Nat) (Ty.pair (Ty.int IntKind.i64) (Ty.int IntKind.i64))]], tmps := [((3 : Nat), TSh.at (Sh.ptr (1 : Nat) (0 : Nat))), ((32 : Nat), TSh.at (Sh.snap (0 : Nat) (Ty.pair (Ty.int IntKind.i64) (Ty.pair (Ty.int IntKind.i64) (Ty.int IntKind.i64))))), ((33 : Nat), TSh.at (Sh.int IntKind.i64)), ((34 : Nat), TSh.at (Sh.int IntKind.i64))] }
noncomputable def f_spec_dgGood_0o : Spec := { objs := [OSh.ro], tmps := [] }
noncomputable def f_spec_dgGood_0D : LoopDef (Tup r_spec_dgGood × OutD) := .rets f_spec_dgGood_0i f_spec_dgGood_0o (Unit) (Bool) (fun k x => f_spec_dgGood_0 k x.1.2.1.1 x.1.2.1.2.1 x.1.2.1.2.2.1 x.2.2.1 x.2.2.2.1 x.2.2.2.2.1) (fun z => (((), ()), (()))) (fun y => ()) (fun _ => rfl) to_spec_dgGood of_spec_dgGood to_of_spec_dgGood
noncomputable def f_spec_dgGood : Nat → Int × Int × List (Int × Int) → List Int → List (Int × Int × Int) → Option Bool
  | 0, _, _, _ => none
  | k + 1, p0, p1, p2 =>
    Option.bind (f_spec_dgBoard k (Prod.fst p0, Prod.fst (Prod.snd p0), Prod.snd (Prod.snd p0))) fun z0 => if (!z0) = true then some false else if decide ((↑(List.length p1) : Int) > (20 : Int)) = true then some false else Option.bind (f_spec_l1All k p1 (0 : Int) (wrap64 (Prod.fst (Prod.snd p0) - (1 : Int)))) fun z1 => if (!z1) = true then some false else if decide ((↑(List.length p2) : Int) ≠ (↑(List.length p1) : Int)) = true then some false else Option.bind (f_spec_dgGood_0 k (Prod.fst p0) (Prod.fst (Prod.snd p0)) (Prod.snd (Prod.snd p0)) p2 (↑(List.length p2) : Int) (0 : Int)) fun z5 => LR.on z5 (fun y5 => some true) fun r5 => some r5
noncomputable def d_spec_dgGood : FnDef := .of q_spec_dgGood r_spec_dgGood (Bool) (fun k x => f_spec_dgGood k x.1 x.2.1 x.2.2.1) to_spec_dgGood of_spec_dgGood to_of_spec_dgGood
noncomputable def c_spec_dgGood : Code := Try.f31.body.getD .skip
noncomputable def x_spec_dgGood : Ctx (Tup r_spec_dgGood × OutD) := { T := T, G := [(61, d_spec_dgBoard.E), (62, d_spec_l1All.E), (32, d_spec_l1In.E)], mvs := [], no := 0, n := 59, res := resOf T q_spec_dgGood r_spec_dgGood Try.f31.results.toList, loops := [(0, f_spec_dgGood_0D.E)], regs := [], conds := [] }
theorem g_spec_dgGood (k : Nat) : EnvOK Try.prog k x_spec_dgGood.G := (EnvOK.cons (s_spec_dgBoard k) (EnvOK.cons (s_spec_l1All k) (EnvOK.cons (s_spec_l1In k) (EnvOK.nil mixed))))
noncomputable def f_spec_dgGood_0B : Code := (findLoop 0 c_spec_dgGood).getD .skip
theorem f_spec_dgGood_0h (k : Nat) (x : f_spec_dgGood_0i.D) : f_spec_dgGood_0D.lp (k + 1) x = loopK x_spec_dgGood f_spec_dgGood_0D 0 f_spec_dgGood_0B k x := by kernel_rfl
theorem f_spec_dgGood_0l (k : Nat) : LOK Try.prog x_spec_dgGood k f_spec_dgGood_0B := LOK.by [] (by kernel_rfl) AllOK.nil
theorem f_spec_dgGood_0z (x : f_spec_dgGood_0i.D) : f_spec_dgGood_0D.lp 0 x = none := by kernel_rfl
theorem f_spec_dgGood_0ok (k : Nat) : EOK Try.prog x_spec_dgGood k f_spec_dgGood_0D.E (.block 0 (.loop f_spec_dgGood_0B)) := loop_ok T_ok g_spec_dgGood f_spec_dgGood_0z f_spec_dgGood_0h f_spec_dgGood_0l k
theorem h_spec_dgGood (k : Nat) (x : Tup d_spec_dgGood.ps) : d_spec_dgGood.f (k + 1) x = fnK d_spec_dgGood x_spec_dgGood c_spec_dgGood k x := by kernel_rfl
theorem z_spec_dgGood (x : Tup d_spec_dgGood.ps) : d_spec_dgGood.f 0 x = none := by kernel_rfl
theorem l_spec_dgGood (k : Nat) : LOK Try.prog x_spec_dgGood k c_spec_dgGood := LOK.by [(f_spec_dgGood_0D.E, .block 0 (.loop f_spec_dgGood_0B))] (by kernel_rfl) (AllOK.cons (f_spec_dgGood_0ok k) AllOK.nil)
theorem s_spec_dgGood (k : Nat) : SoundAt Try.prog k 31 d_spec_dgGood.E := @fn_all Try.prog d_spec_dgGood x_spec_dgGood 31 Try.f31 c_spec_dgGood (by kernel_rfl) (by kernel_rfl) (by kernel_rfl) Try.func31 (by kernel_rfl) (by kernel_rfl) (by kernel_rfl) T_ok g_spec_dgGood l_spec_dgGood z_spec_dgGood h_spec_dgGood k
/-! function 37 -/
noncomputable def r_impl_isSeen : List PK := [{ t := Ty.bool }]
noncomputable def q_impl_isSeen : List PK := [{ t := Ty.pair (Ty.int IntKind.i64) (Ty.pair (Ty.int IntKind.i64) (Ty.slice (89 : Nat) (Ty.pair (Ty.int IntKind.i64) (Ty.int IntKind.i64)))), agg := true }, { t := Ty.slice (3 : Nat) (Ty.int IntKind.i64) }, { t := Ty.slice (62 : Nat) (Ty.pair (Ty.int IntKind.i64) (Ty.pair (Ty.int IntKind.i64) (Ty.int IntKind.i64))) }]
noncomputable def to_impl_isSeen (r : Bool) : Tup r_impl_isSeen × OutD := ((r, ()), none)
noncomputable def of_impl_isSeen : Tup r_impl_isSeen × OutD → Option (Bool)
  | (a, none) => some (a.1)
  | _ => none
theorem to_of_impl_isSeen : ∀ b r, of_impl_isSeen b = some r → to_impl_isSeen r = b := by
  rintro ⟨a, o⟩ r h
  cases o with
  | none => injection h with h; subst h; rfl
  | some _ => cases h
noncomputable def f_impl_isSeen_0 : Nat → Int → Int → List (Int × Int) → List (Int × Int × Int) → Int → Int → Option (LR Unit Bool)
  | 0, _, _, _, _, _, _ => none
  | k + 1, b1_0, b1_1, b1_2, v31, v32, v33 =>
    if decide (v33 < v32) = true then if (0 : Int) ≤ v33 then if v33 < (↑(List.length v31) : Int) then if decide (Prod.fst (List.getD v31 (Int.toNat v33) ((0 : Int), (0 : Int), (0 : Int))) < (1 : Int)) = true then some (LR.ret false) else if decide (Prod.fst (List.getD v31 (Int.toNat v33) ((0 : Int), (0 : Int), (0 : Int))) > (3 : Int)) = true then some (LR.ret false) else if decide (Prod.fst (Prod.snd (List.getD v31 (Int.toNat v33) ((0 : Int), (0 : Int), (0 : Int)))) < (0 : Int)) = true then some (LR.ret false) else if decide (Prod.fst (Prod.snd (List.getD v31 (Int.toNat v33) ((0 : Int), (0 : Int), (0 : Int)))) > b1_0) = true then some (LR.ret false) else if decide (Prod.snd (Prod.snd (List.getD v31 (Int.toNat v33) ((0 : Int), (0 : Int), (0 : Int)))) < (-1 : Int)) = true then some (LR.ret false) else if decide (Prod.snd (Prod.snd (List.getD v31 (Int.toNat v33) ((0 : Int), (0 : Int), (0 : Int)))) > b1_1) = true then some (LR.ret false) else f_impl_isSeen_0 k b1_0 b1_1 b1_2 v31 v32 (wrap64 (v33 + (1 : Int))) else none else none else some (LR.go ())
noncomputable def f_impl_isSeen_0i : Spec := { objs := [OSh.ro, OSh.box (33 : Nat) [Sh.int IntKind.i64, Sh.int IntKind.i64, Sh.snap (0 : Nat) (Ty.pair (Ty.int IntKind.i64) (Ty.int IntKind.i64))]], tmps := [((3 : Nat), TSh.at (Sh.ptr (1 : Nat) (0 : Nat))), ((31 : Nat), TSh.at (Sh.snap (0 : Nat) (Ty.pair (Ty.int IntKind.i64) (Ty.pair (Ty.int IntKind.i64) (Ty.int IntKind.i64))))), ((32 : Nat), TSh.at (Sh.int IntKind.i64)), ((33 : Nat), TSh.at (Sh.int IntKind.i64))] }
noncomputable def f_impl_isSeen_0o : Spec := { objs := [OSh.ro], tmps := [] }
noncomputable def f_impl_isSeen_0D : LoopDef (Tup r_impl_isSeen × OutD) := .rets f_impl_isSeen_0i f_impl_isSeen_0o (Unit) (Bool) (fun k x => f_impl_isSeen_0 k x.1.2.1.1 x.1.2.1.2.1 x.1.2.1.2.2.1 x.2.2.1 x.2.2.2.1 x.2.2.2.2.1) (fun z => (((), ()), (()))) (fun y => ()) (fun _ => rfl) to_impl_isSeen of_impl_isSeen to_of_impl_isSeen
noncomputable def f_impl_isSeen : Nat → Int × Int × List (Int × Int) → List Int → List (Int × Int × Int) → Option Bool
  | 0, _, _, _ => none
  | k + 1, p0, p1, p2 =>
    Option.bind (f_impl_validEntries k (Prod.fst p0, Prod.fst (Prod.snd p0), Prod.snd (Prod.snd p0)) p1) fun z0 => if (!z0) = true then some false else if decide ((↑(List.length (Prod.snd (Prod.snd p0))) : Int) > (24 : Int)) = true then some false else if decide ((↑(List.length p1) : Int) > (20 : Int)) = true then some false else if decide ((↑(List.length p2) : Int) ≠ (↑(List.length p1) : Int)) = true then some false else Option.bind (f_impl_isSeen_0 k (Prod.fst p0) (Prod.fst (Prod.snd p0)) (Prod.snd (Prod.snd p0)) p2 (↑(List.length p2) : Int) (0 : Int)) fun z1 => LR.on z1 (fun y1 => some true) fun r1 => some r1
noncomputable def d_impl_isSeen : FnDef := .of q_impl_isSeen r_impl_isSeen (Bool) (fun k x => f_impl_isSeen k x.1 x.2.1 x.2.2.1) to_impl_isSeen of_impl_isSeen to_of_impl_isSeen
noncomputable def c_impl_isSeen : Code := Try.f37.body.getD .skip
noncomputable def x_impl_isSeen : Ctx (Tup r_impl_isSeen × OutD) := { T := T, G := [(68, d_impl_validEntries.E)], mvs := [], no := 0, n := 70, res := resOf T q_impl_isSeen r_impl_isSeen Try.f37.results.toList, loops := [(0, f_impl_isSeen_0D.E)], regs := [], conds := [] }
theorem g_impl_isSeen (k : Nat) : EnvOK Try.prog k x_impl_isSeen.G := (EnvOK.cons (s_impl_validEntries k) (EnvOK.nil mixed))
noncomputable def f_impl_isSeen_0B : Code := (findLoop 0 c_impl_isSeen).getD .skip
theorem f_impl_isSeen_0h (k : Nat) (x : f_impl_isSeen_0i.D) : f_impl_isSeen_0D.lp (k + 1) x = loopK x_impl_isSeen f_impl_isSeen_0D 0 f_impl_isSeen_0B k x := by kernel_rfl
theorem f_impl_isSeen_0l (k : Nat) : LOK Try.prog x_impl_isSeen k f_impl_isSeen_0B := LOK.by [] (by kernel_rfl) AllOK.nil
theorem f_impl_isSeen_0z (x : f_impl_isSeen_0i.D) : f_impl_isSeen_0D.lp 0 x = none := by kernel_rfl
theorem f_impl_isSeen_0ok (k : Nat) : EOK Try.prog x_impl_isSeen k f_impl_isSeen_0D.E (.block 0 (.loop f_impl_isSeen_0B)) := loop_ok T_ok g_impl_isSeen f_impl_isSeen_0z f_impl_isSeen_0h f_impl_isSeen_0l k
theorem h_impl_isSeen (k : Nat) (x : Tup d_impl_isSeen.ps) : d_impl_isSeen.f (k + 1) x = fnK d_impl_isSeen x_impl_isSeen c_impl_isSeen k x := by kernel_rfl
theorem z_impl_isSeen (x : Tup d_impl_isSeen.ps) : d_impl_isSeen.f 0 x = none := by kernel_rfl
theorem l_impl_isSeen (k : Nat) : LOK Try.prog x_impl_isSeen k c_impl_isSeen := LOK.by [(f_impl_isSeen_0D.E, .block 0 (.loop f_impl_isSeen_0B))] (by kernel_rfl) (AllOK.cons (f_impl_isSeen_0ok k) AllOK.nil)
theorem s_impl_isSeen (k : Nat) : SoundAt Try.prog k 37 d_impl_isSeen.E := @fn_all Try.prog d_impl_isSeen x_impl_isSeen 37 Try.f37 c_impl_isSeen (by kernel_rfl) (by kernel_rfl) (by kernel_rfl) Try.func37 (by kernel_rfl) (by kernel_rfl) (by kernel_rfl) T_ok g_impl_isSeen l_impl_isSeen z_impl_isSeen h_impl_isSeen k
/-! function 39 -/
noncomputable def r_impl_splitsCauses : List PK := [{ t := Ty.int IntKind.i64 }]
noncomputable def q_impl_splitsCauses : List PK := [{ t := Ty.pair (Ty.int IntKind.i64) (Ty.pair (Ty.int IntKind.i64) (Ty.slice (89 : Nat) (Ty.pair (Ty.int IntKind.i64) (Ty.int IntKind.i64)))), agg := true }, { t := Ty.slice (84 : Nat) (Ty.pair (Ty.int IntKind.i64) (Ty.pair (Ty.int IntKind.i64) (Ty.int IntKind.i64))) }, { t := Ty.slice (3 : Nat) (Ty.int IntKind.i64) }, { t := Ty.int IntKind.i64 }]
noncomputable def to_impl_splitsCauses (r : Int) : Tup r_impl_splitsCauses × OutD := ((r, ()), none)
noncomputable def of_impl_splitsCauses : Tup r_impl_splitsCauses × OutD → Option (Int)
  | (a, none) => some (a.1)
  | _ => none
theorem to_of_impl_splitsCauses : ∀ b r, of_impl_splitsCauses b = some r → to_impl_splitsCauses r = b := by
  rintro ⟨a, o⟩ r h
  cases o with
  | none => injection h with h; subst h; rfl
  | some _ => cases h
noncomputable def f_impl_splitsCauses_0 : Nat → Int → Int → List (Int × Int) → List (List Int × Bool) → List Int → List (Int × Int × Int) → Int → Int → Option (List (List Int × Bool))
  | 0, _, _, _, _, _, _, _, _ => none
  | k + 1, b1_0, b1_1, b1_2, o2, o3, v22, v23, v24 =>
    if decide (v24 < v23) = true then if (0 : Int) ≤ v24 then if v24 < (↑(List.length v22) : Int) then Option.bind (f_impl_faultyDrops k (b1_0, b1_1, b1_2) [(Prod.fst (List.getD v22 (Int.toNat v24) ((0 : Int), (0 : Int), (0 : Int))), Prod.fst (Prod.snd (List.getD v22 (Int.toNat v24) ((0 : Int), (0 : Int), (0 : Int)))), Prod.snd (Prod.snd (List.getD v22 (Int.toNat v24) ((0 : Int), (0 : Int), (0 : Int)))))] o3) fun z0 => if (0 : Int) ≤ wrap64 ((↑(List.length (Prod.fst z0)) : Int) - (1 : Int)) then if wrap64 ((↑(List.length (Prod.fst z0)) : Int) - (1 : Int)) < (↑(List.length (Prod.fst z0)) : Int) then f_impl_splitsCauses_0 k b1_0 b1_1 b1_2 (putK [Prod.fst (List.getD (Prod.fst z0) (Int.toNat (wrap64 ((↑(List.length (Prod.fst z0)) : Int) - (1 : Int)))) ((0 : Int), (0 : Int), (0 : Int))), Prod.fst (Prod.snd (List.getD (Prod.fst z0) (Int.toNat (wrap64 ((↑(List.length (Prod.fst z0)) : Int) - (1 : Int)))) ((0 : Int), (0 : Int), (0 : Int)))), Prod.snd (Prod.snd (List.getD (Prod.fst z0) (Int.toNat (wrap64 ((↑(List.length (Prod.fst z0)) : Int) - (1 : Int)))) ((0 : Int), (0 : Int), (0 : Int))))] true o2) o3 v22 v23 (wrap64 (v24 + (1 : Int))) else none else none else none else none else some o2
noncomputable def f_impl_splitsCauses_0i : Spec := { objs := [OSh.ro, OSh.box (33 : Nat) [Sh.int IntKind.i64, Sh.int IntKind.i64, Sh.snap (0 : Nat) (Ty.pair (Ty.int IntKind.i64) (Ty.int IntKind.i64))], OSh.mp (93 : Nat) true (3 : Nat) Ty.bool, OSh.row true (3 : Nat) (Ty.int IntKind.i64)], tmps := [((4 : Nat), TSh.at (Sh.ptr (1 : Nat) (0 : Nat))), ((9 : Nat), TSh.at (Sh.mp (2 : Nat))), ((10 : Nat), TSh.at (Sh.sl (3 : Nat))), ((22 : Nat), TSh.at (Sh.snap (0 : Nat) (Ty.pair (Ty.int IntKind.i64) (Ty.pair (Ty.int IntKind.i64) (Ty.int IntKind.i64))))), ((23 : Nat), TSh.at (Sh.int IntKind.i64)), ((24 : Nat), TSh.at (Sh.int IntKind.i64))] }
noncomputable def f_impl_splitsCauses_0o : Spec := { objs := [OSh.ro, OSh.mp (93 : Nat) true (3 : Nat) Ty.bool], tmps := [((9 : Nat), TSh.at (Sh.mp (1 : Nat)))] }
noncomputable def f_impl_splitsCauses_0D : LoopDef (Tup r_impl_splitsCauses × OutD) := .plain f_impl_splitsCauses_0i f_impl_splitsCauses_0o (List (List Int × Bool)) (fun k x => f_impl_splitsCauses_0 k x.1.2.1.1 x.1.2.1.2.1 x.1.2.1.2.2.1 x.1.2.2.1 x.1.2.2.2.1 x.2.2.2.2.1 x.2.2.2.2.2.1 x.2.2.2.2.2.2.1) (fun z => (((), z, ()), ((), ()))) (fun y => (y.1.2.1)) (fun _ => rfl)
noncomputable def f_impl_splitsCauses : Nat → Int × Int × List (Int × Int) → List (Int × Int × Int) → List Int → Int → Option Int
  | 0, _, _, _, _ => none
  | k + 1, p0, p1, p2, p3 =>
    if (0 : Nat) + List.length p2 ≤ (140737488355328 / 8 : Nat) then if List.length p2 + List.length [p3] ≤ (140737488355328 / 8 : Nat) then Option.bind (f_impl_splitsCauses_0 k (Prod.fst p0) (Prod.fst (Prod.snd p0)) (Prod.snd (Prod.snd p0)) [] (p2 ++ [p3]) p1 (↑(List.length p1) : Int) (0 : Int)) fun z1 => some (↑(List.length z1) : Int) else none else none
noncomputable def d_impl_splitsCauses : FnDef := .of q_impl_splitsCauses r_impl_splitsCauses (Int) (fun k x => f_impl_splitsCauses k x.1 x.2.1 x.2.2.1 x.2.2.2.1) to_impl_splitsCauses of_impl_splitsCauses to_of_impl_splitsCauses
noncomputable def c_impl_splitsCauses : Code := Try.f39.body.getD .skip
noncomputable def x_impl_splitsCauses : Ctx (Tup r_impl_splitsCauses × OutD) := { T := T, G := [(71, d_impl_faultyDrops.E)], mvs := [], no := 0, n := 46, res := resOf T q_impl_splitsCauses r_impl_splitsCauses Try.f39.results.toList, loops := [(0, f_impl_splitsCauses_0D.E)], regs := [], conds := [] }
theorem g_impl_splitsCauses (k : Nat) : EnvOK Try.prog k x_impl_splitsCauses.G := (EnvOK.cons (s_impl_faultyDrops k) (EnvOK.nil mixed))
noncomputable def f_impl_splitsCauses_0B : Code := (findLoop 0 c_impl_splitsCauses).getD .skip
theorem f_impl_splitsCauses_0h (k : Nat) (x : f_impl_splitsCauses_0i.D) : f_impl_splitsCauses_0D.lp (k + 1) x = loopK x_impl_splitsCauses f_impl_splitsCauses_0D 0 f_impl_splitsCauses_0B k x := by kernel_rfl
theorem f_impl_splitsCauses_0l (k : Nat) : LOK Try.prog x_impl_splitsCauses k f_impl_splitsCauses_0B := LOK.by [] (by kernel_rfl) AllOK.nil
theorem f_impl_splitsCauses_0z (x : f_impl_splitsCauses_0i.D) : f_impl_splitsCauses_0D.lp 0 x = none := by kernel_rfl
theorem f_impl_splitsCauses_0ok (k : Nat) : EOK Try.prog x_impl_splitsCauses k f_impl_splitsCauses_0D.E (.block 0 (.loop f_impl_splitsCauses_0B)) := loop_ok T_ok g_impl_splitsCauses f_impl_splitsCauses_0z f_impl_splitsCauses_0h f_impl_splitsCauses_0l k
theorem h_impl_splitsCauses (k : Nat) (x : Tup d_impl_splitsCauses.ps) : d_impl_splitsCauses.f (k + 1) x = fnK d_impl_splitsCauses x_impl_splitsCauses c_impl_splitsCauses k x := by kernel_rfl
theorem z_impl_splitsCauses (x : Tup d_impl_splitsCauses.ps) : d_impl_splitsCauses.f 0 x = none := by kernel_rfl
theorem l_impl_splitsCauses (k : Nat) : LOK Try.prog x_impl_splitsCauses k c_impl_splitsCauses := LOK.by [(f_impl_splitsCauses_0D.E, .block 0 (.loop f_impl_splitsCauses_0B))] (by kernel_rfl) (AllOK.cons (f_impl_splitsCauses_0ok k) AllOK.nil)
theorem s_impl_splitsCauses (k : Nat) : SoundAt Try.prog k 39 d_impl_splitsCauses.E := @fn_all Try.prog d_impl_splitsCauses x_impl_splitsCauses 39 Try.f39 c_impl_splitsCauses (by kernel_rfl) (by kernel_rfl) (by kernel_rfl) Try.func39 (by kernel_rfl) (by kernel_rfl) (by kernel_rfl) T_ok g_impl_splitsCauses l_impl_splitsCauses z_impl_splitsCauses h_impl_splitsCauses k
/-! function 43 -/
/-! function 50 -/
/-! function 64 -/
noncomputable def r_spec_dgExplains : List PK := [{ t := Ty.bool }]
noncomputable def q_spec_dgExplains : List PK := [{ t := Ty.pair (Ty.int IntKind.i64) (Ty.pair (Ty.int IntKind.i64) (Ty.slice (89 : Nat) (Ty.pair (Ty.int IntKind.i64) (Ty.int IntKind.i64)))), agg := true }, { t := Ty.slice (84 : Nat) (Ty.pair (Ty.int IntKind.i64) (Ty.pair (Ty.int IntKind.i64) (Ty.int IntKind.i64))) }, { t := Ty.slice (3 : Nat) (Ty.int IntKind.i64) }, { t := Ty.slice (62 : Nat) (Ty.pair (Ty.int IntKind.i64) (Ty.pair (Ty.int IntKind.i64) (Ty.int IntKind.i64))) }]
noncomputable def to_spec_dgExplains (r : Bool) : Tup r_spec_dgExplains × OutD := ((r, ()), none)
noncomputable def of_spec_dgExplains : Tup r_spec_dgExplains × OutD → Option (Bool)
  | (a, none) => some (a.1)
  | _ => none
theorem to_of_spec_dgExplains : ∀ b r, of_spec_dgExplains b = some r → to_spec_dgExplains r = b := by
  rintro ⟨a, o⟩ r h
  cases o with
  | none => injection h with h; subst h; rfl
  | some _ => cases h
noncomputable def f_spec_dgExplains : Nat → Int × Int × List (Int × Int) → List (Int × Int × Int) → List Int → List (Int × Int × Int) → Option Bool
  | 0, _, _, _, _ => none
  | k + 1, p0, p1, p2, p3 =>
    Option.bind (f_spec_faAll k (Prod.fst p0, Prod.fst (Prod.snd p0), Prod.snd (Prod.snd p0)) p1 p2) fun z0 => Option.bind (f_spec_faSame k (Prod.fst z0) p3) fun z1 => some (decide (z1 < (0 : Int)))
noncomputable def d_spec_dgExplains : FnDef := .of q_spec_dgExplains r_spec_dgExplains (Bool) (fun k x => f_spec_dgExplains k x.1 x.2.1 x.2.2.1 x.2.2.2.1) to_spec_dgExplains of_spec_dgExplains to_of_spec_dgExplains
noncomputable def c_spec_dgExplains : Code := Try.f64.body.getD .skip
noncomputable def x_spec_dgExplains : Ctx (Tup r_spec_dgExplains × OutD) := { T := T, G := [(65, d_spec_faAll.E), (76, d_spec_faSame.E)], mvs := [], no := 0, n := 22, res := resOf T q_spec_dgExplains r_spec_dgExplains Try.f64.results.toList, loops := [], regs := [], conds := [] }
theorem g_spec_dgExplains (k : Nat) : EnvOK Try.prog k x_spec_dgExplains.G := (EnvOK.cons (s_spec_faAll k) (EnvOK.cons (s_spec_faSame k) (EnvOK.nil mixed)))
theorem h_spec_dgExplains (k : Nat) (x : Tup d_spec_dgExplains.ps) : d_spec_dgExplains.f (k + 1) x = fnK d_spec_dgExplains x_spec_dgExplains c_spec_dgExplains k x := by kernel_rfl
theorem z_spec_dgExplains (x : Tup d_spec_dgExplains.ps) : d_spec_dgExplains.f 0 x = none := by kernel_rfl
theorem l_spec_dgExplains (k : Nat) : LOK Try.prog x_spec_dgExplains k c_spec_dgExplains := LOK.by [] (by kernel_rfl) AllOK.nil
theorem s_spec_dgExplains (k : Nat) : SoundAt Try.prog k 64 d_spec_dgExplains.E := @fn_all Try.prog d_spec_dgExplains x_spec_dgExplains 64 Try.f64 c_spec_dgExplains (by kernel_rfl) (by kernel_rfl) (by kernel_rfl) Try.func64 (by kernel_rfl) (by kernel_rfl) (by kernel_rfl) T_ok g_spec_dgExplains l_spec_dgExplains z_spec_dgExplains h_spec_dgExplains k
/-! function 70 -/
noncomputable def r_impl_explainsEnds : List PK := [{ t := Ty.bool }]
noncomputable def q_impl_explainsEnds : List PK := [{ t := Ty.pair (Ty.int IntKind.i64) (Ty.pair (Ty.int IntKind.i64) (Ty.slice (89 : Nat) (Ty.pair (Ty.int IntKind.i64) (Ty.int IntKind.i64)))), agg := true }, { t := Ty.slice (84 : Nat) (Ty.pair (Ty.int IntKind.i64) (Ty.pair (Ty.int IntKind.i64) (Ty.int IntKind.i64))) }, { t := Ty.slice (3 : Nat) (Ty.int IntKind.i64) }, { t := Ty.slice (62 : Nat) (Ty.pair (Ty.int IntKind.i64) (Ty.pair (Ty.int IntKind.i64) (Ty.int IntKind.i64))) }]
noncomputable def to_impl_explainsEnds (r : Bool) : Tup r_impl_explainsEnds × OutD := ((r, ()), none)
noncomputable def of_impl_explainsEnds : Tup r_impl_explainsEnds × OutD → Option (Bool)
  | (a, none) => some (a.1)
  | _ => none
theorem to_of_impl_explainsEnds : ∀ b r, of_impl_explainsEnds b = some r → to_impl_explainsEnds r = b := by
  rintro ⟨a, o⟩ r h
  cases o with
  | none => injection h with h; subst h; rfl
  | some _ => cases h
noncomputable def f_impl_explainsEnds : Nat → Int × Int × List (Int × Int) → List (Int × Int × Int) → List Int → List (Int × Int × Int) → Option Bool
  | 0, _, _, _, _ => none
  | k + 1, p0, p1, p2, p3 =>
    Option.bind (f_impl_faultyDrops k (Prod.fst p0, Prod.fst (Prod.snd p0), Prod.snd (Prod.snd p0)) p1 p2) fun z0 => Option.bind (f_slices_Equal_impl_Fall_impl_Fall k (Prod.fst z0) p3) fun z1 => some z1
noncomputable def d_impl_explainsEnds : FnDef := .of q_impl_explainsEnds r_impl_explainsEnds (Bool) (fun k x => f_impl_explainsEnds k x.1 x.2.1 x.2.2.1 x.2.2.2.1) to_impl_explainsEnds of_impl_explainsEnds to_of_impl_explainsEnds
noncomputable def c_impl_explainsEnds : Code := Try.f70.body.getD .skip
noncomputable def x_impl_explainsEnds : Ctx (Tup r_impl_explainsEnds × OutD) := { T := T, G := [(71, d_impl_faultyDrops.E), (88, d_slices_Equal_impl_Fall_impl_Fall.E)], mvs := [], no := 0, n := 21, res := resOf T q_impl_explainsEnds r_impl_explainsEnds Try.f70.results.toList, loops := [], regs := [], conds := [] }
theorem g_impl_explainsEnds (k : Nat) : EnvOK Try.prog k x_impl_explainsEnds.G := (EnvOK.cons (s_impl_faultyDrops k) (EnvOK.cons (s_slices_Equal_impl_Fall_impl_Fall k) (EnvOK.nil mixed)))
theorem h_impl_explainsEnds (k : Nat) (x : Tup d_impl_explainsEnds.ps) : d_impl_explainsEnds.f (k + 1) x = fnK d_impl_explainsEnds x_impl_explainsEnds c_impl_explainsEnds k x := by kernel_rfl
theorem z_impl_explainsEnds (x : Tup d_impl_explainsEnds.ps) : d_impl_explainsEnds.f 0 x = none := by kernel_rfl
theorem l_impl_explainsEnds (k : Nat) : LOK Try.prog x_impl_explainsEnds k c_impl_explainsEnds := LOK.by [] (by kernel_rfl) AllOK.nil
theorem s_impl_explainsEnds (k : Nat) : SoundAt Try.prog k 70 d_impl_explainsEnds.E := @fn_all Try.prog d_impl_explainsEnds x_impl_explainsEnds 70 Try.f70 c_impl_explainsEnds (by kernel_rfl) (by kernel_rfl) (by kernel_rfl) Try.func70 (by kernel_rfl) (by kernel_rfl) (by kernel_rfl) T_ok g_impl_explainsEnds l_impl_explainsEnds z_impl_explainsEnds h_impl_explainsEnds k
/-! function 78 -/
/-! function 93 -/
end
end Go.Proofs.Ytcpefeojijlmoaa.Vs

set_option maxRecDepth 100000
set_option maxHeartbeats 2000000
set_option linter.unusedVariables false
set_option linter.unusedSimpArgs false
namespace Go.Proofs.Ytcpefeojijlmoaa.Vs
open Go.RowKit
noncomputable section
/-! function 33 -/
noncomputable def r_spec_dgSingle : List PK := [{ t := Ty.slice (84 : Nat) (Ty.pair (Ty.int IntKind.i64) (Ty.pair (Ty.int IntKind.i64) (Ty.int IntKind.i64))) }]
noncomputable def q_spec_dgSingle : List PK := [{ t := Ty.pair (Ty.int IntKind.i64) (Ty.pair (Ty.int IntKind.i64) (Ty.slice (89 : Nat) (Ty.pair (Ty.int IntKind.i64) (Ty.int IntKind.i64)))), agg := true }, { t := Ty.slice (3 : Nat) (Ty.int IntKind.i64) }, { t := Ty.slice (62 : Nat) (Ty.pair (Ty.int IntKind.i64) (Ty.pair (Ty.int IntKind.i64) (Ty.int IntKind.i64))) }]
noncomputable def to_spec_dgSingle (r : List (Int × Int × Int)) : Tup r_spec_dgSingle × OutD := ((r, ()), none)
noncomputable def of_spec_dgSingle : Tup r_spec_dgSingle × OutD → Option (List (Int × Int × Int))
  | (a, none) => some (a.1)
  | _ => none
theorem to_of_spec_dgSingle : ∀ b r, of_spec_dgSingle b = some r → to_spec_dgSingle r = b := by
  rintro ⟨a, o⟩ r h
  cases o with
  | none => injection h with h; subst h; rfl
  | some _ => cases h
noncomputable def f_spec_dgSingle_0 : Nat → Int → Int → List (Int × Int) → List (Int × Int × Int) → List (Int × Int × Int) → List Int → List (Int × Int × Int) → Int → Int → Option (List (Int × Int × Int))
  | 0, _, _, _, _, _, _, _, _, _ => none
  | k + 1, b1_0, b1_1, b1_2, o2, o3, v1, v2, v12, v13 =>
    if decide (v13 < v12) = true then if (0 : Int) ≤ v13 then if v13 < (↑(List.length o3) : Int) then Option.bind (f_spec_dgExplains k (b1_0, b1_1, b1_2) [(Prod.fst (List.getD o3 (Int.toNat v13) ((0 : Int), (0 : Int), (0 : Int))), Prod.fst (Prod.snd (List.getD o3 (Int.toNat v13) ((0 : Int), (0 : Int), (0 : Int)))), Prod.snd (Prod.snd (List.getD o3 (Int.toNat v13) ((0 : Int), (0 : Int), (0 : Int)))))] v1 v2) fun z1 => if z1 = true then if List.length o2 + List.length [(Prod.fst (List.getD o3 (Int.toNat v13) ((0 : Int), (0 : Int), (0 : Int))), Prod.fst (Prod.snd (List.getD o3 (Int.toNat v13) ((0 : Int), (0 : Int), (0 : Int)))), Prod.snd (Prod.snd (List.getD o3 (Int.toNat v13) ((0 : Int), (0 : Int), (0 : Int)))))] ≤ (140737488355328 / 24 : Nat) then f_spec_dgSingle_0 k b1_0 b1_1 b1_2 (o2 ++ [(Prod.fst (List.getD o3 (Int.toNat v13) ((0 : Int), (0 : Int), (0 : Int))), Prod.fst (Prod.snd (List.getD o3 (Int.toNat v13) ((0 : Int), (0 : Int), (0 : Int)))), Prod.snd (Prod.snd (List.getD o3 (Int.toNat v13) ((0 : Int), (0 : Int), (0 : Int)))))]) o3 v1 v2 v12 (wrap64 (v13 + (1 : Int))) else none else f_spec_dgSingle_0 k b1_0 b1_1 b1_2 o2 o3 v1 v2 v12 (wrap64 (v13 + (1 : Int))) else none else none else some o2
noncomputable def f_spec_dgSingle_0i : Spec := { objs := [OSh.ro, OSh.box (33 : Nat) [Sh.int IntKind.i64, Sh.int IntKind.i64, Sh.snap (0 : Nat) (Ty.pair (Ty.int IntKind.i64) (Ty.int IntKind.i64))], OSh.row true (84 : Nat) (Ty.pair (Ty.int IntKind.i64) (Ty.pair (Ty.int IntKind.i64) (Ty.int IntKind.i64))), OSh.row true (84 : Nat) (Ty.pair (Ty.int IntKind.i64) (Ty.pair (Ty.int IntKind.i64) (Ty.int IntKind.i64)))], tmps := [((1 : Nat), TSh.at (Sh.snap (0 : Nat) (Ty.int IntKind.i64))), ((2 : Nat), TSh.at (Sh.snap (0 : Nat) (Ty.pair (Ty.int IntKind.i64) (Ty.pair (Ty.int IntKind.i64) (Ty.int IntKind.i64))))), ((3 : Nat), TSh.at (Sh.ptr (1 : Nat) (0 : Nat))), ((7 : Nat), TSh.at (Sh.sl (2 : Nat))), ((11 : Nat), TSh.at (Sh.sl (3 : Nat))), ((12 : Nat), TSh.at (Sh.int IntKind.i64)), ((13 : Nat), TSh.at (Sh.int IntKind.i64))] }
noncomputable def f_spec_dgSingle_0o : Spec := { objs := [OSh.ro, OSh.row true (84 : Nat) (Ty.pair (Ty.int IntKind.i64) (Ty.pair (Ty.int IntKind.i64) (Ty.int IntKind.i64)))], tmps := [((7 : Nat), TSh.at (Sh.sl (1 : Nat)))] }
noncomputable def f_spec_dgSingle_0D : LoopDef (Tup r_spec_dgSingle × OutD) := .plain f_spec_dgSingle_0i f_spec_dgSingle_0o (List (Int × Int × Int)) (fun k x => f_spec_dgSingle_0 k x.1.2.1.1 x.1.2.1.2.1 x.1.2.1.2.2.1 x.1.2.2.1 x.1.2.2.2.1 x.2.1 x.2.2.1 x.2.2.2.2.2.2.1 x.2.2.2.2.2.2.2.1) (fun z => (((), z, ()), ((), ()))) (fun y => (y.1.2.1)) (fun _ => rfl)
noncomputable def f_spec_dgSingle : Nat → Int × Int × List (Int × Int) → List Int → List (Int × Int × Int) → Option (List (Int × Int × Int))
  | 0, _, _, _ => none
  | k + 1, p0, p1, p2 =>
    Option.bind (f_spec_faPossible k (Prod.fst p0, Prod.fst (Prod.snd p0), Prod.snd (Prod.snd p0))) fun z0 => Option.bind (f_spec_dgSingle_0 k (Prod.fst p0) (Prod.fst (Prod.snd p0)) (Prod.snd (Prod.snd p0)) [] z0 p1 p2 (↑(List.length z0) : Int) (0 : Int)) fun z2 => some z2
noncomputable def d_spec_dgSingle : FnDef := .of q_spec_dgSingle r_spec_dgSingle (List (Int × Int × Int)) (fun k x => f_spec_dgSingle k x.1 x.2.1 x.2.2.1) to_spec_dgSingle of_spec_dgSingle to_of_spec_dgSingle
noncomputable def c_spec_dgSingle : Code := Try.f33.body.getD .skip
noncomputable def x_spec_dgSingle : Ctx (Tup r_spec_dgSingle × OutD) := { T := T, G := [(63, d_spec_faPossible.E), (64, d_spec_dgExplains.E)], mvs := [], no := 0, n := 29, res := resOf T q_spec_dgSingle r_spec_dgSingle Try.f33.results.toList, loops := [(0, f_spec_dgSingle_0D.E)], regs := [], conds := [] }
theorem g_spec_dgSingle (k : Nat) : EnvOK Try.prog k x_spec_dgSingle.G := (EnvOK.cons (s_spec_faPossible k) (EnvOK.cons (s_spec_dgExplains k) (EnvOK.nil mixed)))
noncomputable def f_spec_dgSingle_0B : Code := (findLoop 0 c_spec_dgSingle).getD .skip
theorem f_spec_dgSingle_0h (k : Nat) (x : f_spec_dgSingle_0i.D) : f_spec_dgSingle_0D.lp (k + 1) x = loopK x_spec_dgSingle f_spec_dgSingle_0D 0 f_spec_dgSingle_0B k x := by kernel_rfl
theorem f_spec_dgSingle_0l (k : Nat) : LOK Try.prog x_spec_dgSingle k f_spec_dgSingle_0B := LOK.by [] (by kernel_rfl) AllOK.nil
theorem f_spec_dgSingle_0z (x : f_spec_dgSingle_0i.D) : f_spec_dgSingle_0D.lp 0 x = none := by kernel_rfl
theorem f_spec_dgSingle_0ok (k : Nat) : EOK Try.prog x_spec_dgSingle k f_spec_dgSingle_0D.E (.block 0 (.loop f_spec_dgSingle_0B)) := loop_ok T_ok g_spec_dgSingle f_spec_dgSingle_0z f_spec_dgSingle_0h f_spec_dgSingle_0l k
theorem h_spec_dgSingle (k : Nat) (x : Tup d_spec_dgSingle.ps) : d_spec_dgSingle.f (k + 1) x = fnK d_spec_dgSingle x_spec_dgSingle c_spec_dgSingle k x := by kernel_rfl
theorem z_spec_dgSingle (x : Tup d_spec_dgSingle.ps) : d_spec_dgSingle.f 0 x = none := by kernel_rfl
theorem l_spec_dgSingle (k : Nat) : LOK Try.prog x_spec_dgSingle k c_spec_dgSingle := LOK.by [(f_spec_dgSingle_0D.E, .block 0 (.loop f_spec_dgSingle_0B))] (by kernel_rfl) (AllOK.cons (f_spec_dgSingle_0ok k) AllOK.nil)
theorem s_spec_dgSingle (k : Nat) : SoundAt Try.prog k 33 d_spec_dgSingle.E := @fn_all Try.prog d_spec_dgSingle x_spec_dgSingle 33 Try.f33 c_spec_dgSingle (by kernel_rfl) (by kernel_rfl) (by kernel_rfl) Try.func33 (by kernel_rfl) (by kernel_rfl) (by kernel_rfl) T_ok g_spec_dgSingle l_spec_dgSingle z_spec_dgSingle h_spec_dgSingle k
/-! function 38 -/
noncomputable def r_impl_singleCauses : List PK := [{ t := Ty.slice (84 : Nat) (Ty.pair (Ty.int IntKind.i64) (Ty.pair (Ty.int IntKind.i64) (Ty.int IntKind.i64))) }]
noncomputable def q_impl_singleCauses : List PK := [{ t := Ty.pair (Ty.int IntKind.i64) (Ty.pair (Ty.int IntKind.i64) (Ty.slice (89 : Nat) (Ty.pair (Ty.int IntKind.i64) (Ty.int IntKind.i64)))), agg := true }, { t := Ty.slice (3 : Nat) (Ty.int IntKind.i64) }, { t := Ty.slice (62 : Nat) (Ty.pair (Ty.int IntKind.i64) (Ty.pair (Ty.int IntKind.i64) (Ty.int IntKind.i64))) }]
noncomputable def to_impl_singleCauses (r : List (Int × Int × Int)) : Tup r_impl_singleCauses × OutD := ((r, ()), none)
noncomputable def of_impl_singleCauses : Tup r_impl_singleCauses × OutD → Option (List (Int × Int × Int))
  | (a, none) => some (a.1)
  | _ => none
theorem to_of_impl_singleCauses : ∀ b r, of_impl_singleCauses b = some r → to_impl_singleCauses r = b := by
  rintro ⟨a, o⟩ r h
  cases o with
  | none => injection h with h; subst h; rfl
  | some _ => cases h
noncomputable def f_impl_singleCauses_0 : Nat → Int → Int → List (Int × Int) → List (Int × Int × Int) → List (Int × Int × Int) → List Int → List (Int × Int × Int) → Int → Int → Option (List (Int × Int × Int))
  | 0, _, _, _, _, _, _, _, _, _ => none
  | k + 1, b1_0, b1_1, b1_2, o2, o3, v1, v2, v13, v14 =>
    if decide (v14 < v13) = true then if (0 : Int) ≤ v14 then if v14 < (↑(List.length o3) : Int) then Option.bind (f_impl_explainsEnds k (b1_0, b1_1, b1_2) [(Prod.fst (List.getD o3 (Int.toNat v14) ((0 : Int), (0 : Int), (0 : Int))), Prod.fst (Prod.snd (List.getD o3 (Int.toNat v14) ((0 : Int), (0 : Int), (0 : Int)))), Prod.snd (Prod.snd (List.getD o3 (Int.toNat v14) ((0 : Int), (0 : Int), (0 : Int)))))] v1 v2) fun z1 => if z1 = true then if List.length o2 + List.length [(Prod.fst (List.getD o3 (Int.toNat v14) ((0 : Int), (0 : Int), (0 : Int))), Prod.fst (Prod.snd (List.getD o3 (Int.toNat v14) ((0 : Int), (0 : Int), (0 : Int)))), Prod.snd (Prod.snd (List.getD o3 (Int.toNat v14) ((0 : Int), (0 : Int), (0 : Int)))))] ≤ (140737488355328 / 24 : Nat) then f_impl_singleCauses_0 k b1_0 b1_1 b1_2 (o2 ++ [(Prod.fst (List.getD o3 (Int.toNat v14) ((0 : Int), (0 : Int), (0 : Int))), Prod.fst (Prod.snd (List.getD o3 (Int.toNat v14) ((0 : Int), (0 : Int), (0 : Int)))), Prod.snd (Prod.snd (List.getD o3 (Int.toNat v14) ((0 : Int), (0 : Int), (0 : Int)))))]) o3 v1 v2 v13 (wrap64 (v14 + (1 : Int))) else none else f_impl_singleCauses_0 k b1_0 b1_1 b1_2 o2 o3 v1 v2 v13 (wrap64 (v14 + (1 : Int))) else none else none else some o2
noncomputable def f_impl_singleCauses_0i : Spec := { objs := [OSh.ro, OSh.box (33 : Nat) [Sh.int IntKind.i64, Sh.int IntKind.i64, Sh.snap (0 : Nat) (Ty.pair (Ty.int IntKind.i64) (Ty.int IntKind.i64))], OSh.row true (84 : Nat) (Ty.pair (Ty.int IntKind.i64) (Ty.pair (Ty.int IntKind.i64) (Ty.int IntKind.i64))), OSh.row true (84 : Nat) (Ty.pair (Ty.int IntKind.i64) (Ty.pair (Ty.int IntKind.i64) (Ty.int IntKind.i64)))], tmps := [((1 : Nat), TSh.at (Sh.snap (0 : Nat) (Ty.int IntKind.i64))), ((2 : Nat), TSh.at (Sh.snap (0 : Nat) (Ty.pair (Ty.int IntKind.i64) (Ty.pair (Ty.int IntKind.i64) (Ty.int IntKind.i64))))), ((3 : Nat), TSh.at (Sh.ptr (1 : Nat) (0 : Nat))), ((7 : Nat), TSh.at (Sh.sl (2 : Nat))), ((12 : Nat), TSh.at (Sh.sl (3 : Nat))), ((13 : Nat), TSh.at (Sh.int IntKind.i64)), ((14 : Nat), TSh.at (Sh.int IntKind.i64))] }
noncomputable def f_impl_singleCauses_0o : Spec := { objs := [OSh.ro, OSh.row true (84 : Nat) (Ty.pair (Ty.int IntKind.i64) (Ty.pair (Ty.int IntKind.i64) (Ty.int IntKind.i64)))], tmps := [((7 : Nat), TSh.at (Sh.sl (1 : Nat)))] }
noncomputable def f_impl_singleCauses_0D : LoopDef (Tup r_impl_singleCauses × OutD) := .plain f_impl_singleCauses_0i f_impl_singleCauses_0o (List (Int × Int × Int)) (fun k x => f_impl_singleCauses_0 k x.1.2.1.1 x.1.2.1.2.1 x.1.2.1.2.2.1 x.1.2.2.1 x.1.2.2.2.1 x.2.1 x.2.2.1 x.2.2.2.2.2.2.1 x.2.2.2.2.2.2.2.1) (fun z => (((), z, ()), ((), ()))) (fun y => (y.1.2.1)) (fun _ => rfl)
noncomputable def f_impl_singleCauses : Nat → Int × Int × List (Int × Int) → List Int → List (Int × Int × Int) → Option (List (Int × Int × Int))
  | 0, _, _, _ => none
  | k + 1, p0, p1, p2 =>
    Option.bind (f_impl_possibleFaults k (Prod.fst p0, Prod.fst (Prod.snd p0), Prod.snd (Prod.snd p0))) fun z0 => Option.bind (f_impl_singleCauses_0 k (Prod.fst p0) (Prod.fst (Prod.snd p0)) (Prod.snd (Prod.snd p0)) [] z0 p1 p2 (↑(List.length z0) : Int) (0 : Int)) fun z2 => some z2
noncomputable def d_impl_singleCauses : FnDef := .of q_impl_singleCauses r_impl_singleCauses (List (Int × Int × Int)) (fun k x => f_impl_singleCauses k x.1 x.2.1 x.2.2.1) to_impl_singleCauses of_impl_singleCauses to_of_impl_singleCauses
noncomputable def c_impl_singleCauses : Code := Try.f38.body.getD .skip
noncomputable def x_impl_singleCauses : Ctx (Tup r_impl_singleCauses × OutD) := { T := T, G := [(69, d_impl_possibleFaults.E), (70, d_impl_explainsEnds.E)], mvs := [], no := 0, n := 30, res := resOf T q_impl_singleCauses r_impl_singleCauses Try.f38.results.toList, loops := [(0, f_impl_singleCauses_0D.E)], regs := [], conds := [] }
theorem g_impl_singleCauses (k : Nat) : EnvOK Try.prog k x_impl_singleCauses.G := (EnvOK.cons (s_impl_possibleFaults k) (EnvOK.cons (s_impl_explainsEnds k) (EnvOK.nil mixed)))
noncomputable def f_impl_singleCauses_0B : Code := (findLoop 0 c_impl_singleCauses).getD .skip
theorem f_impl_singleCauses_0h (k : Nat) (x : f_impl_singleCauses_0i.D) : f_impl_singleCauses_0D.lp (k + 1) x = loopK x_impl_singleCauses f_impl_singleCauses_0D 0 f_impl_singleCauses_0B k x := by kernel_rfl
theorem f_impl_singleCauses_0l (k : Nat) : LOK Try.prog x_impl_singleCauses k f_impl_singleCauses_0B := LOK.by [] (by kernel_rfl) AllOK.nil
theorem f_impl_singleCauses_0z (x : f_impl_singleCauses_0i.D) : f_impl_singleCauses_0D.lp 0 x = none := by kernel_rfl
theorem f_impl_singleCauses_0ok (k : Nat) : EOK Try.prog x_impl_singleCauses k f_impl_singleCauses_0D.E (.block 0 (.loop f_impl_singleCauses_0B)) := loop_ok T_ok g_impl_singleCauses f_impl_singleCauses_0z f_impl_singleCauses_0h f_impl_singleCauses_0l k
theorem h_impl_singleCauses (k : Nat) (x : Tup d_impl_singleCauses.ps) : d_impl_singleCauses.f (k + 1) x = fnK d_impl_singleCauses x_impl_singleCauses c_impl_singleCauses k x := by kernel_rfl
theorem z_impl_singleCauses (x : Tup d_impl_singleCauses.ps) : d_impl_singleCauses.f 0 x = none := by kernel_rfl
theorem l_impl_singleCauses (k : Nat) : LOK Try.prog x_impl_singleCauses k c_impl_singleCauses := LOK.by [(f_impl_singleCauses_0D.E, .block 0 (.loop f_impl_singleCauses_0B))] (by kernel_rfl) (AllOK.cons (f_impl_singleCauses_0ok k) AllOK.nil)
theorem s_impl_singleCauses (k : Nat) : SoundAt Try.prog k 38 d_impl_singleCauses.E := @fn_all Try.prog d_impl_singleCauses x_impl_singleCauses 38 Try.f38 c_impl_singleCauses (by kernel_rfl) (by kernel_rfl) (by kernel_rfl) Try.func38 (by kernel_rfl) (by kernel_rfl) (by kernel_rfl) T_ok g_impl_singleCauses l_impl_singleCauses z_impl_singleCauses h_impl_singleCauses k
/-! function 51 -/
/-! function 75 -/
end
end Go.Proofs.Ytcpefeojijlmoaa.Vs

set_option maxRecDepth 100000
set_option maxHeartbeats 2000000
set_option linter.unusedVariables false
set_option linter.unusedSimpArgs false
namespace Go.Proofs.Ytcpefeojijlmoaa.Vs
open Go.RowKit
noncomputable section
/-! function 13 -/
noncomputable def r_impl_SplitsCauses : List PK := [{ t := Ty.int IntKind.i64 }, { t := Ty.bool }]
noncomputable def q_impl_SplitsCauses : List PK := [{ t := Ty.pair (Ty.int IntKind.i64) (Ty.pair (Ty.int IntKind.i64) (Ty.slice (89 : Nat) (Ty.pair (Ty.int IntKind.i64) (Ty.int IntKind.i64)))), agg := true }, { t := Ty.slice (3 : Nat) (Ty.int IntKind.i64) }, { t := Ty.slice (62 : Nat) (Ty.pair (Ty.int IntKind.i64) (Ty.pair (Ty.int IntKind.i64) (Ty.int IntKind.i64))) }, { t := Ty.int IntKind.i64 }]
noncomputable def to_impl_SplitsCauses (r : Int × Bool) : Tup r_impl_SplitsCauses × OutD := ((r.1, r.2, ()), none)
noncomputable def of_impl_SplitsCauses : Tup r_impl_SplitsCauses × OutD → Option (Int × Bool)
  | (a, none) => some (a.1, a.2.1)
  | _ => none
theorem to_of_impl_SplitsCauses : ∀ b r, of_impl_SplitsCauses b = some r → to_impl_SplitsCauses r = b := by
  rintro ⟨a, o⟩ r h
  cases o with
  | none => injection h with h; subst h; rfl
  | some _ => cases h
noncomputable def f_impl_SplitsCauses : Nat → Int × Int × List (Int × Int) → List Int → List (Int × Int × Int) → Int → Option (Int × Bool)
  | 0, _, _, _, _ => none
  | k + 1, p0, p1, p2, p3 =>
    Option.bind (f_impl_isSeen k (Prod.fst p0, Prod.fst (Prod.snd p0), Prod.snd (Prod.snd p0)) p1 p2) fun z0 => if (!z0) = true then some ((0 : Int), false) else if decide (p3 < (0 : Int)) = true then some ((0 : Int), false) else if decide (p3 ≥ Prod.fst (Prod.snd p0)) = true then some ((0 : Int), false) else Option.bind (f_impl_singleCauses k (Prod.fst p0, Prod.fst (Prod.snd p0), Prod.snd (Prod.snd p0)) p1 p2) fun z1 => if decide ((↑(List.length z1) : Int) = (0 : Int)) = true then some ((0 : Int), false) else Option.bind (f_impl_splitsCauses k (Prod.fst p0, Prod.fst (Prod.snd p0), Prod.snd (Prod.snd p0)) z1 p1 p3) fun z2 => some (z2, true)
noncomputable def d_impl_SplitsCauses : FnDef := .of q_impl_SplitsCauses r_impl_SplitsCauses (Int × Bool) (fun k x => f_impl_SplitsCauses k x.1 x.2.1 x.2.2.1 x.2.2.2.1) to_impl_SplitsCauses of_impl_SplitsCauses to_of_impl_SplitsCauses
noncomputable def c_impl_SplitsCauses : Code := Try.f13.body.getD .skip
noncomputable def x_impl_SplitsCauses : Ctx (Tup r_impl_SplitsCauses × OutD) := { T := T, G := [(37, d_impl_isSeen.E), (38, d_impl_singleCauses.E), (39, d_impl_splitsCauses.E)], mvs := [], no := 0, n := 38, res := resOf T q_impl_SplitsCauses r_impl_SplitsCauses Try.f13.results.toList, loops := [], regs := [], conds := [] }
theorem g_impl_SplitsCauses (k : Nat) : EnvOK Try.prog k x_impl_SplitsCauses.G := (EnvOK.cons (s_impl_isSeen k) (EnvOK.cons (s_impl_singleCauses k) (EnvOK.cons (s_impl_splitsCauses k) (EnvOK.nil mixed))))
theorem h_impl_SplitsCauses (k : Nat) (x : Tup d_impl_SplitsCauses.ps) : d_impl_SplitsCauses.f (k + 1) x = fnK d_impl_SplitsCauses x_impl_SplitsCauses c_impl_SplitsCauses k x := by kernel_rfl
theorem z_impl_SplitsCauses (x : Tup d_impl_SplitsCauses.ps) : d_impl_SplitsCauses.f 0 x = none := by kernel_rfl
theorem l_impl_SplitsCauses (k : Nat) : LOK Try.prog x_impl_SplitsCauses k c_impl_SplitsCauses := LOK.by [] (by kernel_rfl) AllOK.nil
theorem s_impl_SplitsCauses (k : Nat) : SoundAt Try.prog k 13 d_impl_SplitsCauses.E := @fn_all Try.prog d_impl_SplitsCauses x_impl_SplitsCauses 13 Try.f13 c_impl_SplitsCauses (by kernel_rfl) (by kernel_rfl) (by kernel_rfl) Try.func13 (by kernel_rfl) (by kernel_rfl) (by kernel_rfl) T_ok g_impl_SplitsCauses l_impl_SplitsCauses z_impl_SplitsCauses h_impl_SplitsCauses k
/-! function 18 -/
noncomputable def r_impl_BestNextMarble : List PK := [{ t := Ty.int IntKind.i64 }, { t := Ty.int IntKind.i64 }, { t := Ty.bool }]
noncomputable def q_impl_BestNextMarble : List PK := [{ t := Ty.pair (Ty.int IntKind.i64) (Ty.pair (Ty.int IntKind.i64) (Ty.slice (89 : Nat) (Ty.pair (Ty.int IntKind.i64) (Ty.int IntKind.i64)))), agg := true }, { t := Ty.slice (3 : Nat) (Ty.int IntKind.i64) }, { t := Ty.slice (62 : Nat) (Ty.pair (Ty.int IntKind.i64) (Ty.pair (Ty.int IntKind.i64) (Ty.int IntKind.i64))) }]
noncomputable def to_impl_BestNextMarble (r : Int × Int × Bool) : Tup r_impl_BestNextMarble × OutD := ((r.1, r.2.1, r.2.2, ()), none)
noncomputable def of_impl_BestNextMarble : Tup r_impl_BestNextMarble × OutD → Option (Int × Int × Bool)
  | (a, none) => some (a.1, a.2.1, a.2.2.1)
  | _ => none
theorem to_of_impl_BestNextMarble : ∀ b r, of_impl_BestNextMarble b = some r → to_impl_BestNextMarble r = b := by
  rintro ⟨a, o⟩ r h
  cases o with
  | none => injection h with h; subst h; rfl
  | some _ => cases h
noncomputable def f_impl_BestNextMarble_0 : Nat → Int → Int → List (Int × Int) → List (Int × Int × Int) → List Int → Int → Int → Int → Option (Int × Int)
  | 0, _, _, _, _, _, _, _, _ => none
  | k + 1, b1_0, b1_1, b1_2, o2, v1, v10, v11, v12 =>
    if decide (v12 < b1_1) = true then Option.bind (f_impl_splitsCauses k (b1_0, b1_1, b1_2) o2 v1 v12) fun z2 => if decide (z2 > v11) = true then f_impl_BestNextMarble_0 k b1_0 b1_1 b1_2 o2 v1 v12 z2 (wrap64 (v12 + (1 : Int))) else f_impl_BestNextMarble_0 k b1_0 b1_1 b1_2 o2 v1 v10 v11 (wrap64 (v12 + (1 : Int))) else some (v10, v11)
noncomputable def f_impl_BestNextMarble_0i : Spec := { objs := [OSh.ro, OSh.box (33 : Nat) [Sh.int IntKind.i64, Sh.int IntKind.i64, Sh.snap (0 : Nat) (Ty.pair (Ty.int IntKind.i64) (Ty.int IntKind.i64))], OSh.row true (84 : Nat) (Ty.pair (Ty.int IntKind.i64) (Ty.pair (Ty.int IntKind.i64) (Ty.int IntKind.i64)))], tmps := [((1 : Nat), TSh.at (Sh.snap (0 : Nat) (Ty.int IntKind.i64))), ((3 : Nat), TSh.at (Sh.ptr (1 : Nat) (0 : Nat))), ((9 : Nat), TSh.at (Sh.sl (2 : Nat))), ((10 : Nat), TSh.at (Sh.int IntKind.i64)), ((11 : Nat), TSh.at (Sh.int IntKind.i64)), ((12 : Nat), TSh.at (Sh.int IntKind.i64))] }
noncomputable def f_impl_BestNextMarble_0o : Spec := { objs := [OSh.ro], tmps := [((10 : Nat), TSh.at (Sh.int IntKind.i64)), ((11 : Nat), TSh.at (Sh.int IntKind.i64))] }
noncomputable def f_impl_BestNextMarble_0D : LoopDef (Tup r_impl_BestNextMarble × OutD) := .plain f_impl_BestNextMarble_0i f_impl_BestNextMarble_0o (Int × Int) (fun k x => f_impl_BestNextMarble_0 k x.1.2.1.1 x.1.2.1.2.1 x.1.2.1.2.2.1 x.1.2.2.1 x.2.1 x.2.2.2.2.1 x.2.2.2.2.2.1 x.2.2.2.2.2.2.1) (fun z => (((), ()), (z.1, z.2, ()))) (fun y => (y.2.1, y.2.2.1)) (fun _ => rfl)
noncomputable def f_impl_BestNextMarble : Nat → Int × Int × List (Int × Int) → List Int → List (Int × Int × Int) → Option (Int × Int × Bool)
  | 0, _, _, _ => none
  | k + 1, p0, p1, p2 =>
    Option.bind (f_impl_isSeen k (Prod.fst p0, Prod.fst (Prod.snd p0), Prod.snd (Prod.snd p0)) p1 p2) fun z0 => if (!z0) = true then some ((0 : Int), (0 : Int), false) else Option.bind (f_impl_singleCauses k (Prod.fst p0, Prod.fst (Prod.snd p0), Prod.snd (Prod.snd p0)) p1 p2) fun z1 => if decide ((↑(List.length z1) : Int) = (0 : Int)) = true then some ((0 : Int), (0 : Int), false) else Option.bind (f_impl_BestNextMarble_0 k (Prod.fst p0) (Prod.fst (Prod.snd p0)) (Prod.snd (Prod.snd p0)) z1 p1 (0 : Int) (0 : Int) (0 : Int)) fun z3 => some (Prod.fst z3, Prod.snd z3, true)
noncomputable def d_impl_BestNextMarble : FnDef := .of q_impl_BestNextMarble r_impl_BestNextMarble (Int × Int × Bool) (fun k x => f_impl_BestNextMarble k x.1 x.2.1 x.2.2.1) to_impl_BestNextMarble of_impl_BestNextMarble to_of_impl_BestNextMarble
noncomputable def c_impl_BestNextMarble : Code := Try.f18.body.getD .skip
noncomputable def x_impl_BestNextMarble : Ctx (Tup r_impl_BestNextMarble × OutD) := { T := T, G := [(37, d_impl_isSeen.E), (38, d_impl_singleCauses.E), (39, d_impl_splitsCauses.E)], mvs := [], no := 0, n := 44, res := resOf T q_impl_BestNextMarble r_impl_BestNextMarble Try.f18.results.toList, loops := [(0, f_impl_BestNextMarble_0D.E)], regs := [], conds := [] }
theorem g_impl_BestNextMarble (k : Nat) : EnvOK Try.prog k x_impl_BestNextMarble.G := (EnvOK.cons (s_impl_isSeen k) (EnvOK.cons (s_impl_singleCauses k) (EnvOK.cons (s_impl_splitsCauses k) (EnvOK.nil mixed))))
noncomputable def f_impl_BestNextMarble_0B : Code := (findLoop 0 c_impl_BestNextMarble).getD .skip
theorem f_impl_BestNextMarble_0h (k : Nat) (x : f_impl_BestNextMarble_0i.D) : f_impl_BestNextMarble_0D.lp (k + 1) x = loopK x_impl_BestNextMarble f_impl_BestNextMarble_0D 0 f_impl_BestNextMarble_0B k x := by kernel_rfl
theorem f_impl_BestNextMarble_0l (k : Nat) : LOK Try.prog x_impl_BestNextMarble k f_impl_BestNextMarble_0B := LOK.by [] (by kernel_rfl) AllOK.nil
theorem f_impl_BestNextMarble_0z (x : f_impl_BestNextMarble_0i.D) : f_impl_BestNextMarble_0D.lp 0 x = none := by kernel_rfl
theorem f_impl_BestNextMarble_0ok (k : Nat) : EOK Try.prog x_impl_BestNextMarble k f_impl_BestNextMarble_0D.E (.block 0 (.loop f_impl_BestNextMarble_0B)) := loop_ok T_ok g_impl_BestNextMarble f_impl_BestNextMarble_0z f_impl_BestNextMarble_0h f_impl_BestNextMarble_0l k
theorem h_impl_BestNextMarble (k : Nat) (x : Tup d_impl_BestNextMarble.ps) : d_impl_BestNextMarble.f (k + 1) x = fnK d_impl_BestNextMarble x_impl_BestNextMarble c_impl_BestNextMarble k x := by kernel_rfl
theorem z_impl_BestNextMarble (x : Tup d_impl_BestNextMarble.ps) : d_impl_BestNextMarble.f 0 x = none := by kernel_rfl
theorem l_impl_BestNextMarble (k : Nat) : LOK Try.prog x_impl_BestNextMarble k c_impl_BestNextMarble := LOK.by [(f_impl_BestNextMarble_0D.E, .block 0 (.loop f_impl_BestNextMarble_0B))] (by kernel_rfl) (AllOK.cons (f_impl_BestNextMarble_0ok k) AllOK.nil)
theorem s_impl_BestNextMarble (k : Nat) : SoundAt Try.prog k 18 d_impl_BestNextMarble.E := @fn_all Try.prog d_impl_BestNextMarble x_impl_BestNextMarble 18 Try.f18 c_impl_BestNextMarble (by kernel_rfl) (by kernel_rfl) (by kernel_rfl) Try.func18 (by kernel_rfl) (by kernel_rfl) (by kernel_rfl) T_ok g_impl_BestNextMarble l_impl_BestNextMarble z_impl_BestNextMarble h_impl_BestNextMarble k
/-! function 44 -/
end
end Go.Proofs.Ytcpefeojijlmoaa.Vs

set_option maxRecDepth 100000
set_option maxHeartbeats 2000000
set_option linter.unusedVariables false
set_option linter.unusedSimpArgs false
namespace Go.Proofs.Ytcpefeojijlmoaa.Vs
open Go.RowKit
noncomputable section
end
end Go.Proofs.Ytcpefeojijlmoaa.Vs
