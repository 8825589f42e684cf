/- Functions of the program by plain functions, each with its contract. -/
import Derived.Test.YtgpmbmnfcbippaaqqflVsT
import Derived.Test.YtgpmbmnfcbippaaqqflVg0
import Derived.Test.YtgpmbmnfcbippaaqqflVg1
import Derived.Test.YtgpmbmnfcbippaaqqflVg2
import Derived.Test.YtgpmbmnfcbippaaqqflVg3
set_option maxRecDepth 100000
set_option linter.unusedVariables false
set_option linter.unusedSimpArgs false
namespace Go.Proofs.Ytgpmbmnfcbippaa.Vs
open Go.RowKit
noncomputable section
/-! function 66 -/
noncomputable def r_impl_firstSeen : List PK := [{ t := Ty.int IntKind.i64 }]
noncomputable def q_impl_firstSeen : List PK := [{ t := Ty.pair (Ty.int IntKind.i64) (Ty.pair (Ty.int IntKind.i64) (Ty.slice (116 : Nat) (Ty.pair (Ty.int IntKind.i64) (Ty.int IntKind.i64)))), agg := true }, { t := Ty.slice (83 : Nat) (Ty.pair (Ty.int IntKind.i64) (Ty.pair (Ty.int IntKind.i64) (Ty.int IntKind.i64))) }, { t := Ty.slice (3 : Nat) (Ty.int IntKind.i64) }]
noncomputable def to_impl_firstSeen (r : Int) : Tup r_impl_firstSeen × OutD := ((r, ()), none)
noncomputable def of_impl_firstSeen : Tup r_impl_firstSeen × OutD → Option (Int)
  | (a, none) => some (a.1)
  | _ => none
theorem to_of_impl_firstSeen : ∀ b r, of_impl_firstSeen b = some r → to_impl_firstSeen r = b := by
  rintro ⟨a, o⟩ r h
  cases o with
  | none => injection h with h; subst h; rfl
  | some _ => cases h
noncomputable def f_impl_firstSeen_0 : Nat → List (Int × Int × Int) → List (Int × Int × Int) → Int → Int → Option (LR Unit Int)
  | 0, _, _, _, _ => none
  | k + 1, o1, o2, v26, v27 =>
    if decide (v27 < v26) = true then if (0 : Int) ≤ v27 then if v27 < (↑(List.length o1) : Int) then if (0 : Int) ≤ v27 then if v27 < (↑(List.length o2) : Int) then if (!(decide (Prod.fst (List.getD o1 (Int.toNat v27) ((0 : Int), (0 : Int), (0 : Int))) = Prod.fst (List.getD o2 (Int.toNat v27) ((0 : Int), (0 : Int), (0 : Int)))) && (decide (Prod.fst (Prod.snd (List.getD o1 (Int.toNat v27) ((0 : Int), (0 : Int), (0 : Int)))) = Prod.fst (Prod.snd (List.getD o2 (Int.toNat v27) ((0 : Int), (0 : Int), (0 : Int))))) && (decide (Prod.snd (Prod.snd (List.getD o1 (Int.toNat v27) ((0 : Int), (0 : Int), (0 : Int)))) = Prod.snd (Prod.snd (List.getD o2 (Int.toNat v27) ((0 : Int), (0 : Int), (0 : Int))))) && true)))) = true then some (LR.ret v27) else f_impl_firstSeen_0 k o1 o2 v26 (wrap64 (v27 + (1 : Int))) else none else none else none else none else some (LR.go ())
noncomputable def f_impl_firstSeen_0i : Spec := { objs := [OSh.ro, OSh.row true (91 : Nat) (Ty.pair (Ty.int IntKind.i64) (Ty.pair (Ty.int IntKind.i64) (Ty.int IntKind.i64))), OSh.row true (91 : Nat) (Ty.pair (Ty.int IntKind.i64) (Ty.pair (Ty.int IntKind.i64) (Ty.int IntKind.i64)))], tmps := [((7 : Nat), TSh.at (Sh.sl (1 : Nat))), ((9 : Nat), TSh.at (Sh.sl (2 : Nat))), ((26 : Nat), TSh.at (Sh.int IntKind.i64)), ((27 : Nat), TSh.at (Sh.int IntKind.i64))] }
noncomputable def f_impl_firstSeen_0o : Spec := { objs := [OSh.ro], tmps := [] }
noncomputable def f_impl_firstSeen_0D : LoopDef (Tup r_impl_firstSeen × OutD) := .rets f_impl_firstSeen_0i f_impl_firstSeen_0o (Unit) (Int) (fun k x => f_impl_firstSeen_0 k x.1.2.1 x.1.2.2.1 x.2.2.2.1 x.2.2.2.2.1) (fun z => (((), ()), (()))) (fun y => ()) (fun _ => rfl) to_impl_firstSeen of_impl_firstSeen to_of_impl_firstSeen
noncomputable def f_impl_firstSeen : Nat → Int × Int × List (Int × Int) → List (Int × Int × Int) → List Int → Option Int
  | 0, _, _, _ => none
  | k + 1, p0, p1, p2 =>
    Option.bind (f_impl_dropAll k (Prod.fst p0, Prod.fst (Prod.snd p0), Prod.snd (Prod.snd p0)) p2) fun z0 => Option.bind (f_impl_faultyDrops k (Prod.fst p0, Prod.fst (Prod.snd p0), Prod.snd (Prod.snd p0)) p1 p2) fun z1 => Option.bind (f_impl_firstSeen_0 k (Prod.fst z0) (Prod.fst z1) (↑(List.length (Prod.fst z0)) : Int) (0 : Int)) fun z2 => LR.on z2 (fun y2 => some (-1 : Int)) fun r2 => some r2
noncomputable def d_impl_firstSeen : FnDef := .of q_impl_firstSeen r_impl_firstSeen (Int) (fun k x => f_impl_firstSeen k x.1 x.2.1 x.2.2.1) to_impl_firstSeen of_impl_firstSeen to_of_impl_firstSeen
noncomputable def c_impl_firstSeen : Code := Try.f66.body.getD .skip
noncomputable def x_impl_firstSeen : Ctx (Tup r_impl_firstSeen × OutD) := { T := T, G := [(110, d_impl_dropAll.E), (111, d_impl_faultyDrops.E)], mvs := [], no := 0, n := 41, res := resOf T q_impl_firstSeen r_impl_firstSeen Try.f66.results.toList, loops := [(0, f_impl_firstSeen_0D.E)], regs := [], conds := [] }
theorem g_impl_firstSeen (k : Nat) : EnvOK Try.prog k x_impl_firstSeen.G := (EnvOK.cons (s_impl_dropAll k) (EnvOK.cons (s_impl_faultyDrops k) (EnvOK.nil mixed)))
noncomputable def f_impl_firstSeen_0B : Code := (findLoop 0 c_impl_firstSeen).getD .skip
theorem f_impl_firstSeen_0h (k : Nat) (x : f_impl_firstSeen_0i.D) : f_impl_firstSeen_0D.lp (k + 1) x = loopK x_impl_firstSeen f_impl_firstSeen_0D 0 f_impl_firstSeen_0B k x := by kernel_rfl
theorem f_impl_firstSeen_0l (k : Nat) : LOK Try.prog x_impl_firstSeen k f_impl_firstSeen_0B := LOK.by [] (by kernel_rfl) AllOK.nil
theorem f_impl_firstSeen_0z (x : f_impl_firstSeen_0i.D) : f_impl_firstSeen_0D.lp 0 x = none := by kernel_rfl
theorem f_impl_firstSeen_0ok (k : Nat) : EOK Try.prog x_impl_firstSeen k f_impl_firstSeen_0D.E (.block 0 (.loop f_impl_firstSeen_0B)) := loop_ok T_ok g_impl_firstSeen f_impl_firstSeen_0z f_impl_firstSeen_0h f_impl_firstSeen_0l k
theorem h_impl_firstSeen (k : Nat) (x : Tup d_impl_firstSeen.ps) : d_impl_firstSeen.f (k + 1) x = fnK d_impl_firstSeen x_impl_firstSeen c_impl_firstSeen k x := by kernel_rfl
theorem z_impl_firstSeen (x : Tup d_impl_firstSeen.ps) : d_impl_firstSeen.f 0 x = none := by kernel_rfl
theorem l_impl_firstSeen (k : Nat) : LOK Try.prog x_impl_firstSeen k c_impl_firstSeen := LOK.by [(f_impl_firstSeen_0D.E, .block 0 (.loop f_impl_firstSeen_0B))] (by kernel_rfl) (AllOK.cons (f_impl_firstSeen_0ok k) AllOK.nil)
theorem s_impl_firstSeen (k : Nat) : SoundAt Try.prog k 66 d_impl_firstSeen.E := @fn_all Try.prog d_impl_firstSeen x_impl_firstSeen 66 Try.f66 c_impl_firstSeen (by kernel_rfl) (by kernel_rfl) (by kernel_rfl) Try.func66 (by kernel_rfl) (by kernel_rfl) (by kernel_rfl) T_ok g_impl_firstSeen l_impl_firstSeen z_impl_firstSeen h_impl_firstSeen k
/-! function 70 -/
/-! function 73 -/
/-! function 82 -/
/-! function 84 -/
/-! function 86 -/
/-! function 87 -/
/-! function 88 -/
/-! function 106 -/
noncomputable def r_spec_faSeen : List PK := [{ t := Ty.int IntKind.i64 }]
noncomputable def q_spec_faSeen : List PK := [{ t := Ty.pair (Ty.int IntKind.i64) (Ty.pair (Ty.int IntKind.i64) (Ty.slice (116 : Nat) (Ty.pair (Ty.int IntKind.i64) (Ty.int IntKind.i64)))), agg := true }, { t := Ty.slice (83 : Nat) (Ty.pair (Ty.int IntKind.i64) (Ty.pair (Ty.int IntKind.i64) (Ty.int IntKind.i64))) }, { t := Ty.slice (3 : Nat) (Ty.int IntKind.i64) }]
noncomputable def to_spec_faSeen (r : Int) : Tup r_spec_faSeen × OutD := ((r, ()), none)
noncomputable def of_spec_faSeen : Tup r_spec_faSeen × OutD → Option (Int)
  | (a, none) => some (a.1)
  | _ => none
theorem to_of_spec_faSeen : ∀ b r, of_spec_faSeen b = some r → to_spec_faSeen r = b := by
  rintro ⟨a, o⟩ r h
  cases o with
  | none => injection h with h; subst h; rfl
  | some _ => cases h
noncomputable def f_spec_faSeen : Nat → Int × Int × List (Int × Int) → List (Int × Int × Int) → List Int → Option Int
  | 0, _, _, _ => none
  | k + 1, p0, p1, p2 =>
    Option.bind (f_spec_flAll k (Prod.fst p0, Prod.fst (Prod.snd p0), Prod.snd (Prod.snd p0)) p2) fun z0 => Option.bind (f_spec_faAll k (Prod.fst p0, Prod.fst (Prod.snd p0), Prod.snd (Prod.snd p0)) p1 p2) fun z1 => Option.bind (f_spec_faSame k (Prod.fst z0) (Prod.fst z1)) fun z2 => some z2
noncomputable def d_spec_faSeen : FnDef := .of q_spec_faSeen r_spec_faSeen (Int) (fun k x => f_spec_faSeen k x.1 x.2.1 x.2.2.1) to_spec_faSeen of_spec_faSeen to_of_spec_faSeen
noncomputable def c_spec_faSeen : Code := Try.f106.body.getD .skip
noncomputable def x_spec_faSeen : Ctx (Tup r_spec_faSeen × OutD) := { T := T, G := [(127, d_spec_flAll.E), (122, d_spec_faAll.E), (100, d_spec_faSame.E)], mvs := [], no := 0, n := 27, res := resOf T q_spec_faSeen r_spec_faSeen Try.f106.results.toList, loops := [], regs := [], conds := [] }
theorem g_spec_faSeen (k : Nat) : EnvOK Try.prog k x_spec_faSeen.G := (EnvOK.cons (s_spec_flAll k) (EnvOK.cons (s_spec_faAll k) (EnvOK.cons (s_spec_faSame k) (EnvOK.nil mixed))))
theorem h_spec_faSeen (k : Nat) (x : Tup d_spec_faSeen.ps) : d_spec_faSeen.f (k + 1) x = fnK d_spec_faSeen x_spec_faSeen c_spec_faSeen k x := by kernel_rfl
theorem z_spec_faSeen (x : Tup d_spec_faSeen.ps) : d_spec_faSeen.f 0 x = none := by kernel_rfl
theorem l_spec_faSeen (k : Nat) : LOK Try.prog x_spec_faSeen k c_spec_faSeen := LOK.by [] (by kernel_rfl) AllOK.nil
theorem s_spec_faSeen (k : Nat) : SoundAt Try.prog k 106 d_spec_faSeen.E := @fn_all Try.prog d_spec_faSeen x_spec_faSeen 106 Try.f106 c_spec_faSeen (by kernel_rfl) (by kernel_rfl) (by kernel_rfl) Try.func106 (by kernel_rfl) (by kernel_rfl) (by kernel_rfl) T_ok g_spec_faSeen l_spec_faSeen z_spec_faSeen h_spec_faSeen k
/-! function 115 -/
/-! function 116 -/
end
end Go.Proofs.Ytgpmbmnfcbippaa.Vs
