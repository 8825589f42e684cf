/- The proof, part 7. -/
import Derived.Test.Ytgjmhbjdhihgaaaqfm5
set_option maxRecDepth 100000
set_option maxHeartbeats 2000000
set_option linter.unusedVariables false
set_option linter.unusedSimpArgs false
namespace Go.Proofs.Ytgjmhbjdhihgaaa.Vs
open Go.RowKit
noncomputable section
/-! function 12 -/
/-! function 20 -/
/-! function 22 -/
/-! function 26 -/
/-! function 28 -/
/-! function 30 -/
/-! function 35 -/
/-! function 37 -/
/-! function 48 -/
noncomputable def r_spec_AreFaults : List PK := [PK.mk Ty.bool false none false none, PK.mk Ty.bool false none false none]
noncomputable def q_spec_AreFaults : List PK := [PK.mk (Ty.pair (Ty.int IntKind.i64) (Ty.pair (Ty.int IntKind.i64) (Ty.slice (79 : Nat) (Ty.pair (Ty.int IntKind.i64) (Ty.int IntKind.i64))))) true none false none, PK.mk (Ty.slice (77 : Nat) (Ty.pair (Ty.int IntKind.i64) (Ty.pair (Ty.int IntKind.i64) (Ty.int IntKind.i64)))) false none false none]
noncomputable def to_spec_AreFaults (r : Bool × Bool) : Tup r_spec_AreFaults × OutD := ((r.1, r.2, ()), none)
noncomputable def of_spec_AreFaults : Tup r_spec_AreFaults × OutD → Option (Bool × Bool)
  | (a, none) => some (a.1, a.2.1)
  | _ => none
theorem to_of_spec_AreFaults : ∀ b r, of_spec_AreFaults b = some r → to_spec_AreFaults r = b := by
  rintro ⟨a, o⟩ r h
  cases o with
  | none => injection h with h; subst h; rfl
  | some _ => cases h
noncomputable def f_spec_AreFaults : Nat → Int × Int × List (Int × Int) → List (Int × Int × Int) → Option (Bool × Bool)
  | 0, _, _ => none
  | k + 1, p0, p1 =>
    Option.bind (f_spec_boGood k (Prod.fst p0, Prod.fst (Prod.snd p0), Prod.snd (Prod.snd p0))) fun z0 => if (!z0) = true then some (false, false) else Option.bind (f_spec_faGood k (Prod.fst p0, Prod.fst (Prod.snd p0), Prod.snd (Prod.snd p0)) p1) fun z1 => some (z1, true)
noncomputable def d_spec_AreFaults : FnDef := .of q_spec_AreFaults r_spec_AreFaults (Bool × Bool) (fun k x => f_spec_AreFaults k x.1 x.2.1) to_spec_AreFaults of_spec_AreFaults to_of_spec_AreFaults
noncomputable def c_spec_AreFaults : Code := Try.f48.body.getD .skip
noncomputable def x_spec_AreFaults : Ctx (Tup r_spec_AreFaults × OutD) := { T := T, G := [(133, d_spec_boGood.E), (122, d_spec_faGood.E)], mvs := [], no := 0, n := 12, res := resOf T q_spec_AreFaults r_spec_AreFaults Try.f48.results.toList, loops := [], regs := [], conds := [] }
theorem g_spec_AreFaults (k : Nat) : EnvOK Try.prog k x_spec_AreFaults.G := (EnvOK.cons (s_spec_boGood k) (EnvOK.cons (s_spec_faGood k) (EnvOK.nil mixed)))
theorem h_spec_AreFaults (k : Nat) (x : Tup d_spec_AreFaults.ps) : d_spec_AreFaults.f (k + 1) x = fnK d_spec_AreFaults x_spec_AreFaults c_spec_AreFaults k x := by kernel_rfl
theorem z_spec_AreFaults (x : Tup d_spec_AreFaults.ps) : d_spec_AreFaults.f 0 x = none := by kernel_rfl
theorem l_spec_AreFaults (k : Nat) : LOK Try.prog x_spec_AreFaults k c_spec_AreFaults := LOK.by [] (by kernel_rfl) AllOK.nil
theorem s_spec_AreFaults (k : Nat) : SoundAt Try.prog k 48 d_spec_AreFaults.E := @fn_all Try.prog d_spec_AreFaults x_spec_AreFaults 48 Try.f48 c_spec_AreFaults (by kernel_rfl) (by kernel_rfl) (by kernel_rfl) Try.func48 (by kernel_rfl) (by kernel_rfl) (by kernel_rfl) T_ok g_spec_AreFaults l_spec_AreFaults z_spec_AreFaults h_spec_AreFaults k
/-! function 66 -/
/-! function 91 -/
/-! function 95 -/
/-! function 97 -/
/-! function 102 -/
/-! function 117 -/
noncomputable def r_spec_l1Cur_entries : List PK := [PK.mk (Ty.slice (3 : Nat) (Ty.int IntKind.i64)) false none false none]
noncomputable def q_spec_l1Cur_entries : List PK := [PK.mk (Ty.pair (Ty.slice (5 : Nat) (Ty.int IntKind.u8)) (Ty.pair (Ty.int IntKind.i64) (Ty.int IntKind.u64))) false none false (some (114 : Nat)), PK.mk (Ty.pair (Ty.int IntKind.i64) (Ty.pair (Ty.int IntKind.i64) (Ty.slice (79 : Nat) (Ty.pair (Ty.int IntKind.i64) (Ty.int IntKind.i64))))) true none false none]
noncomputable def to_spec_l1Cur_entries (r : List Int × Int × Int) : Tup r_spec_l1Cur_entries × OutD := ((r.1, ()), some ⟨Ty.pair (Ty.slice (5 : Nat) (Ty.int IntKind.u8)) (Ty.pair (Ty.int IntKind.i64) (Ty.int IntKind.u64)), [([], r.2)]⟩)
noncomputable def of_spec_l1Cur_entries : Tup r_spec_l1Cur_entries × OutD → Option (List Int × Int × Int)
  | (a, some ⟨u, ys⟩) => if h : u = Ty.pair (Ty.slice (5 : Nat) (Ty.int IntKind.u8)) (Ty.pair (Ty.int IntKind.i64) (Ty.int IntKind.u64)) then (match castU h ys with
    | [([], y)] => some (a.1, y)
    | _ => none) else none
  | _ => none
theorem to_of_spec_l1Cur_entries : ∀ b r, of_spec_l1Cur_entries b = some r → to_spec_l1Cur_entries r = b := by
  rintro ⟨a, o⟩ r h
  cases o with
  | none => cases h
  | some s =>
    obtain ⟨u, ys⟩ := s
    simp only [of_spec_l1Cur_entries] at h
    split at h
    · rename_i hu
      subst hu
      match ys, h with
      | [], h => cases (show (none : Option _) = some r from h)
      | [([], y)], h => injection (show some _ = some r from h) with h; subst h; rfl
      | [(_ :: _, y)], h => cases (show (none : Option _) = some r from h)
      | (h1, _) :: _ :: _, h => cases h1 <;> cases (show (none : Option _) = some r from h)
    · cases h
noncomputable def f_spec_l1Cur_entries_j12 : Nat → Int → Int → List Int → Int → Int → List (Int × Int) → List Int → Int → Bool → Option (Int × Int × List Int × Int × Int × List (Int × Int) × List Int × Int) := fun k b1_1 b1_2 o2 b3_0 b3_1 b3_2 o4 v6 v12 =>
    if v12 = true then Option.bind (f_spec_l1Cur_pick k (o2, b1_1, b1_2) (2 : Int)) fun z2 => some (Prod.fst (Prod.snd z2), Prod.snd (Prod.snd z2), o2, b3_0, b3_1, b3_2, o4, wrap64 ((60 : Int) + Prod.fst z2)) else some (b1_1, b1_2, o2, b3_0, b3_1, b3_2, o4, v6)
noncomputable def f_spec_l1Cur_entries_j12i : Spec := Spec.mk [OSh.ro, OSh.box (114 : Nat) [Sh.sl (2 : Nat), Sh.int IntKind.i64, Sh.int IntKind.u64], OSh.fx (Ty.int IntKind.u8), OSh.box (53 : Nat) [Sh.int IntKind.i64, Sh.int IntKind.i64, Sh.snap (0 : Nat) (Ty.pair (Ty.int IntKind.i64) (Ty.int IntKind.i64))], OSh.row true (3 : Nat) (Ty.int IntKind.i64)] [((0 : Nat), TSh.at (Sh.ptr (1 : Nat) (0 : Nat))), ((3 : Nat), TSh.at (Sh.ptr (3 : Nat) (0 : Nat))), ((5 : Nat), TSh.at (Sh.sl (4 : Nat))), ((6 : Nat), TSh.at (Sh.int IntKind.i64)), ((12 : Nat), TSh.at Sh.bool)]
noncomputable def f_spec_l1Cur_entries_j12o : Spec := Spec.mk [OSh.ro, OSh.box (114 : Nat) [Sh.sl (2 : Nat), Sh.int IntKind.i64, Sh.int IntKind.u64], OSh.fx (Ty.int IntKind.u8), OSh.box (53 : Nat) [Sh.int IntKind.i64, Sh.int IntKind.i64, Sh.snap (0 : Nat) (Ty.pair (Ty.int IntKind.i64) (Ty.int IntKind.i64))], OSh.row true (3 : Nat) (Ty.int IntKind.i64)] [((0 : Nat), TSh.at (Sh.ptr (1 : Nat) (0 : Nat))), ((3 : Nat), TSh.at (Sh.ptr (3 : Nat) (0 : Nat))), ((5 : Nat), TSh.at (Sh.sl (4 : Nat))), ((6 : Nat), TSh.at (Sh.int IntKind.i64))]
noncomputable def f_spec_l1Cur_entries_j12D : LoopDef (Tup r_spec_l1Cur_entries × OutD) := .plain f_spec_l1Cur_entries_j12i f_spec_l1Cur_entries_j12o (Int × Int × List Int × Int × Int × List (Int × Int) × List Int × Int) (fun k x => f_spec_l1Cur_entries_j12 k x.1.2.1.2.1 x.1.2.1.2.2.1 x.1.2.2.1 x.1.2.2.2.1.1 x.1.2.2.2.1.2.1 x.1.2.2.2.1.2.2.1 x.1.2.2.2.2.1 x.2.2.2.2.1 x.2.2.2.2.2.1) (fun z => (((), ((), z.1, z.2.1, ()), z.2.2.1, (z.2.2.2.1, z.2.2.2.2.1, z.2.2.2.2.2.1, ()), z.2.2.2.2.2.2.1, ()), ((), (), (), z.2.2.2.2.2.2.2, ()))) (fun y => (y.1.2.1.2.1, y.1.2.1.2.2.1, y.1.2.2.1, y.1.2.2.2.1.1, y.1.2.2.2.1.2.1, y.1.2.2.2.1.2.2.1, y.1.2.2.2.2.1, y.2.2.2.2.1)) (fun _ => rfl)
noncomputable def f_spec_l1Cur_entries_0 : Nat → Int → Int → List Int → Int → Int → List (Int × Int) → List Int → Int → Bool → Int → Option (Int × Int × List Int × Int × Int × List (Int × Int) × List Int × Int)
  | 0, _, _, _, _, _, _, _, _, _, _ => none
  | k + 1, b1_1, b1_2, o2, b3_0, b3_1, b3_2, o4, v6, v7, v8 =>
    if decide ((↑(List.length o4) : Int) < v6) = true then if v7 = true then if List.length o4 + List.length [v8] ≤ (140737488355328 / 8 : Nat) then f_spec_l1Cur_entries_0 k b1_1 b1_2 o2 b3_0 b3_1 b3_2 (o4 ++ [v8]) v6 v7 v8 else none else Option.bind (f_spec_l1Most k (1 : Int) b3_1) fun z7 => Option.bind (f_spec_l1Cur_pick k (o2, b1_1, b1_2) z7) fun z8 => if List.length o4 + List.length [Prod.fst z8] ≤ (140737488355328 / 8 : Nat) then f_spec_l1Cur_entries_0 k (Prod.fst (Prod.snd z8)) (Prod.snd (Prod.snd z8)) o2 b3_0 b3_1 b3_2 (o4 ++ [Prod.fst z8]) v6 v7 v8 else none else some (b1_1, b1_2, o2, b3_0, b3_1, b3_2, o4, v6)
noncomputable def f_spec_l1Cur_entries_0i : Spec := Spec.mk [OSh.ro, OSh.box (114 : Nat) [Sh.sl (2 : Nat), Sh.int IntKind.i64, Sh.int IntKind.u64], OSh.fx (Ty.int IntKind.u8), OSh.box (53 : Nat) [Sh.int IntKind.i64, Sh.int IntKind.i64, Sh.snap (0 : Nat) (Ty.pair (Ty.int IntKind.i64) (Ty.int IntKind.i64))], OSh.row true (3 : Nat) (Ty.int IntKind.i64)] [((0 : Nat), TSh.at (Sh.ptr (1 : Nat) (0 : Nat))), ((3 : Nat), TSh.at (Sh.ptr (3 : Nat) (0 : Nat))), ((5 : Nat), TSh.at (Sh.sl (4 : Nat))), ((6 : Nat), TSh.at (Sh.int IntKind.i64)), ((7 : Nat), TSh.at Sh.bool), ((8 : Nat), TSh.at (Sh.int IntKind.i64))]
noncomputable def f_spec_l1Cur_entries_0o : Spec := Spec.mk [OSh.ro, OSh.box (114 : Nat) [Sh.sl (2 : Nat), Sh.int IntKind.i64, Sh.int IntKind.u64], OSh.fx (Ty.int IntKind.u8), OSh.box (53 : Nat) [Sh.int IntKind.i64, Sh.int IntKind.i64, Sh.snap (0 : Nat) (Ty.pair (Ty.int IntKind.i64) (Ty.int IntKind.i64))], OSh.row true (3 : Nat) (Ty.int IntKind.i64)] [((0 : Nat), TSh.at (Sh.ptr (1 : Nat) (0 : Nat))), ((3 : Nat), TSh.at (Sh.ptr (3 : Nat) (0 : Nat))), ((5 : Nat), TSh.at (Sh.sl (4 : Nat))), ((6 : Nat), TSh.at (Sh.int IntKind.i64))]
noncomputable def f_spec_l1Cur_entries_0D : LoopDef (Tup r_spec_l1Cur_entries × OutD) := .plain f_spec_l1Cur_entries_0i f_spec_l1Cur_entries_0o (Int × Int × List Int × Int × Int × List (Int × Int) × List Int × Int) (fun k x => f_spec_l1Cur_entries_0 k x.1.2.1.2.1 x.1.2.1.2.2.1 x.1.2.2.1 x.1.2.2.2.1.1 x.1.2.2.2.1.2.1 x.1.2.2.2.1.2.2.1 x.1.2.2.2.2.1 x.2.2.2.2.1 x.2.2.2.2.2.1 x.2.2.2.2.2.2.1) (fun z => (((), ((), z.1, z.2.1, ()), z.2.2.1, (z.2.2.2.1, z.2.2.2.2.1, z.2.2.2.2.2.1, ()), z.2.2.2.2.2.2.1, ()), ((), (), (), z.2.2.2.2.2.2.2, ()))) (fun y => (y.1.2.1.2.1, y.1.2.1.2.2.1, y.1.2.2.1, y.1.2.2.2.1.1, y.1.2.2.2.1.2.1, y.1.2.2.2.1.2.2.1, y.1.2.2.2.2.1, y.2.2.2.2.1)) (fun _ => rfl)
noncomputable def f_spec_l1Cur_entries_g12 : Nat → Int → Int → List Int → Int → Int → List (Int × Int) → List Int → Int → Option (Int × Int × List Int × List Int) := fun k b1_1 b1_2 o2 b3_0 b3_1 b3_2 o4 v6 =>
    Option.bind (f_spec_l1Cur_pick k (o2, b1_1, b1_2) v6) fun z11 => Option.bind (f_spec_l1Cur_among k (o2, Prod.fst (Prod.snd z11), Prod.snd (Prod.snd z11)) [(-1 : Int), b3_1]) fun z12 => if (0 : Int) ≤ Prod.fst z11 then if Prod.fst z11 < (↑(List.length o4) : Int) then some (Prod.fst (Prod.snd z12), Prod.snd (Prod.snd z12), o2, List.set o4 (Int.toNat (Prod.fst z11)) (Prod.fst z12)) else none else none
noncomputable def f_spec_l1Cur_entries_g12A : Nat → Int → Int → List Int → Int → Int → List (Int × Int) → List Int → Int → Option (List (Int × Int × List Int × List Int)) := fun k b1_1 b1_2 o2 b3_0 b3_1 b3_2 o4 v6 =>
    joinL (Option.bind (f_spec_l1Cur_pick k (o2, b1_1, b1_2) v6) fun z13 => Option.bind (f_spec_l1Cur_among k (o2, Prod.fst (Prod.snd z13), Prod.snd (Prod.snd z13)) [(-1 : Int), b3_1]) fun z14 => if (0 : Int) ≤ Prod.fst z13 then if Prod.fst z13 < (↑(List.length o4) : Int) then some [(Prod.fst (Prod.snd z14), Prod.snd (Prod.snd z14), o2, List.set o4 (Int.toNat (Prod.fst z13)) (Prod.fst z14))] else none else none) (joinL (Option.bind (f_spec_l1Cur_pick k (o2, b1_1, b1_2) v6) fun z15 => Option.bind (f_spec_l1Cur_among k (o2, Prod.fst (Prod.snd z15), Prod.snd (Prod.snd z15)) [(-1 : Int), b3_1]) fun z16 => if (0 : Int) ≤ Prod.fst z15 then if Prod.fst z15 < (↑(List.length o4) : Int) then some [(Prod.fst (Prod.snd z16), Prod.snd (Prod.snd z16), o2, List.set o4 (Int.toNat (Prod.fst z15)) (Prod.fst z16))] else none else none) (Option.bind (f_spec_l1Cur_pick k (o2, b1_1, b1_2) v6) fun z17 => Option.bind (f_spec_l1Cur_among k (o2, Prod.fst (Prod.snd z17), Prod.snd (Prod.snd z17)) [(-1 : Int), b3_1]) fun z18 => if (0 : Int) ≤ Prod.fst z17 then if Prod.fst z17 < (↑(List.length o4) : Int) then some [(Prod.fst (Prod.snd z18), Prod.snd (Prod.snd z18), o2, List.set o4 (Int.toNat (Prod.fst z17)) (Prod.fst z18))] else none else none))
noncomputable def f_spec_l1Cur_entries_g12i : Spec := Spec.mk [OSh.ro, OSh.box (114 : Nat) [Sh.sl (2 : Nat), Sh.int IntKind.i64, Sh.int IntKind.u64], OSh.fx (Ty.int IntKind.u8), OSh.box (53 : Nat) [Sh.int IntKind.i64, Sh.int IntKind.i64, Sh.snap (0 : Nat) (Ty.pair (Ty.int IntKind.i64) (Ty.int IntKind.i64))], OSh.row true (3 : Nat) (Ty.int IntKind.i64)] [((0 : Nat), TSh.at (Sh.ptr (1 : Nat) (0 : Nat))), ((3 : Nat), TSh.at (Sh.ptr (3 : Nat) (0 : Nat))), ((5 : Nat), TSh.at (Sh.sl (4 : Nat))), ((6 : Nat), TSh.at (Sh.int IntKind.i64))]
noncomputable def f_spec_l1Cur_entries_g12o : Spec := Spec.mk [OSh.ro, OSh.box (114 : Nat) [Sh.sl (2 : Nat), Sh.int IntKind.i64, Sh.int IntKind.u64], OSh.fx (Ty.int IntKind.u8), OSh.row true (3 : Nat) (Ty.int IntKind.i64)] [((5 : Nat), TSh.at (Sh.sl (3 : Nat)))]
noncomputable def f_spec_l1Cur_entries_g12D : LoopDef (Tup r_spec_l1Cur_entries × OutD) := .plain f_spec_l1Cur_entries_g12i f_spec_l1Cur_entries_g12o (Int × Int × List Int × List Int) (fun k x => f_spec_l1Cur_entries_g12 k x.1.2.1.2.1 x.1.2.1.2.2.1 x.1.2.2.1 x.1.2.2.2.1.1 x.1.2.2.2.1.2.1 x.1.2.2.2.1.2.2.1 x.1.2.2.2.2.1 x.2.2.2.2.1) (fun z => (((), ((), z.1, z.2.1, ()), z.2.2.1, z.2.2.2, ()), ((), ()))) (fun y => (y.1.2.1.2.1, y.1.2.1.2.2.1, y.1.2.2.1, y.1.2.2.2.1)) (fun _ => rfl)
theorem f_spec_l1Cur_entries_g12j (k : Nat) (b1_1 : Int) (b1_2 : Int) (o2 : List Int) (b3_0 : Int) (b3_1 : Int) (b3_2 : List (Int × Int)) (o4 : List Int) (v6 : Int) : f_spec_l1Cur_entries_g12A k b1_1 b1_2 o2 b3_0 b3_1 b3_2 o4 v6 = repl 3 (f_spec_l1Cur_entries_g12 k b1_1 b1_2 o2 b3_0 b3_1 b3_2 o4 v6) := by
  first
  | (simp only [f_spec_l1Cur_entries_g12A, f_spec_l1Cur_entries_g12, repl_some, repl_ite, repl_ite0, repl_ite1, repl_bind, joinL_repl, if_true]; done)
  | (simp only [f_spec_l1Cur_entries_g12A, f_spec_l1Cur_entries_g12, repl_some, repl_ite, repl_ite0, repl_ite1, repl_bind, joinL_repl, if_true]; simp only [joinL_grdl, joinL_grdr, repl_grd, joinL_repl]; simp only [grd_and]; exact grd_congr ⟨fun h => by simp only [h, and_self], fun h => by simp only [h, and_self]⟩)
noncomputable def f_spec_l1Cur_entries : Nat → List Int × Int × Int → Int × Int × List (Int × Int) → Option (List Int × Int × Int)
  | 0, _, _ => none
  | k + 1, p0, p1 =>
    Option.bind (f_spec_l1Cur_pick k (Prod.fst p0, Prod.fst (Prod.snd p0), Prod.snd (Prod.snd p0)) (9 : Int)) fun z0 => Option.bind (f_spec_l1Cur_one k (Prod.fst p0, Prod.fst (Prod.snd z0), Prod.snd (Prod.snd z0)) (20 : Int)) fun z1 => Option.bind (f_spec_l1Cur_entries_j12 k (Prod.fst (Prod.snd z1)) (Prod.snd (Prod.snd z1)) (Prod.fst p0) (Prod.fst p1) (Prod.fst (Prod.snd p1)) (Prod.snd (Prod.snd p1)) [] (Prod.fst z0) (Prod.fst z1)) fun z3 => Option.bind (f_spec_l1Cur_one k (Prod.fst (Prod.snd (Prod.snd z3)), Prod.fst z3, Prod.fst (Prod.snd z3)) (3 : Int)) fun z4 => Option.bind (f_spec_l1Most k (1 : Int) (Prod.fst (Prod.snd (Prod.snd (Prod.snd (Prod.snd z3)))))) fun z5 => Option.bind (f_spec_l1Cur_pick k (Prod.fst (Prod.snd (Prod.snd z3)), Prod.fst (Prod.snd z4), Prod.snd (Prod.snd z4)) z5) fun z6 => Option.bind (f_spec_l1Cur_entries_0 k (Prod.fst (Prod.snd z6)) (Prod.snd (Prod.snd z6)) (Prod.fst (Prod.snd (Prod.snd z3))) (Prod.fst (Prod.snd (Prod.snd (Prod.snd z3)))) (Prod.fst (Prod.snd (Prod.snd (Prod.snd (Prod.snd z3))))) (Prod.fst (Prod.snd (Prod.snd (Prod.snd (Prod.snd (Prod.snd z3)))))) (Prod.fst (Prod.snd (Prod.snd (Prod.snd (Prod.snd (Prod.snd (Prod.snd z3))))))) (Prod.snd (Prod.snd (Prod.snd (Prod.snd (Prod.snd (Prod.snd (Prod.snd z3))))))) (Prod.fst z4) (Prod.fst z6)) fun z9 => if decide (Prod.snd (Prod.snd (Prod.snd (Prod.snd (Prod.snd (Prod.snd (Prod.snd z9)))))) > (0 : Int)) = true then Option.bind (f_spec_l1Cur_one k (Prod.fst (Prod.snd (Prod.snd z9)), Prod.fst z9, Prod.fst (Prod.snd z9)) (24 : Int)) fun z10 => if Prod.fst z10 = true then Option.bind (f_spec_l1Cur_entries_g12 k (Prod.fst (Prod.snd z10)) (Prod.snd (Prod.snd z10)) (Prod.fst (Prod.snd (Prod.snd z9))) (Prod.fst (Prod.snd (Prod.snd (Prod.snd z9)))) (Prod.fst (Prod.snd (Prod.snd (Prod.snd (Prod.snd z9))))) (Prod.fst (Prod.snd (Prod.snd (Prod.snd (Prod.snd (Prod.snd z9)))))) (Prod.fst (Prod.snd (Prod.snd (Prod.snd (Prod.snd (Prod.snd (Prod.snd z9))))))) (Prod.snd (Prod.snd (Prod.snd (Prod.snd (Prod.snd (Prod.snd (Prod.snd z9)))))))) fun z19 => some (Prod.snd (Prod.snd (Prod.snd z19)), Prod.fst z19, Prod.fst (Prod.snd z19)) else some (Prod.fst (Prod.snd (Prod.snd (Prod.snd (Prod.snd (Prod.snd (Prod.snd z9)))))), Prod.fst (Prod.snd z10), Prod.snd (Prod.snd z10)) else some (Prod.fst (Prod.snd (Prod.snd (Prod.snd (Prod.snd (Prod.snd (Prod.snd z9)))))), Prod.fst z9, Prod.fst (Prod.snd z9))
noncomputable def d_spec_l1Cur_entries : FnDef := .of q_spec_l1Cur_entries r_spec_l1Cur_entries (List Int × Int × Int) (fun k x => f_spec_l1Cur_entries k x.1 x.2.1) to_spec_l1Cur_entries of_spec_l1Cur_entries to_of_spec_l1Cur_entries
noncomputable def c_spec_l1Cur_entries : Code := Try.f117.body.getD .skip
noncomputable def x_spec_l1Cur_entries : Ctx (Tup r_spec_l1Cur_entries × OutD) := { T := T, G := [(111, d_spec_l1Cur_pick.E), (150, d_spec_l1Cur_one.E), (115, d_spec_l1Most.E), (90, d_spec_l1Cur_among.E)], mvs := [], no := 2, n := 57, res := resOf T q_spec_l1Cur_entries r_spec_l1Cur_entries Try.f117.results.toList, loops := [(0, f_spec_l1Cur_entries_0D.E)], regs := [(12, f_spec_l1Cur_entries_g12D.E)], conds := [(12, f_spec_l1Cur_entries_j12D.E)] }
theorem g_spec_l1Cur_entries (k : Nat) : EnvOK Try.prog k x_spec_l1Cur_entries.G := (EnvOK.cons (s_spec_l1Cur_pick k) (EnvOK.cons (s_spec_l1Cur_one k) (EnvOK.cons (s_spec_l1Most k) (EnvOK.cons (s_spec_l1Cur_among k) (EnvOK.nil mixed)))))
noncomputable def f_spec_l1Cur_entries_g12O : Array Oper := (findReg 12 c_spec_l1Cur_entries).getD #[]
theorem f_spec_l1Cur_entries_g12e (k : Nat) (x : f_spec_l1Cur_entries_g12i.D) : execD x_spec_l1Cur_entries.T x_spec_l1Cur_entries.G x_spec_l1Cur_entries.mvs k f_spec_l1Cur_entries_g12O (f_spec_l1Cur_entries_g12D.inp.st x_spec_l1Cur_entries.n x) (outK x_spec_l1Cur_entries f_spec_l1Cur_entries_g12D) = f_spec_l1Cur_entries_g12A k x.1.2.1.2.1 x.1.2.1.2.2.1 x.1.2.2.1 x.1.2.2.2.1.1 x.1.2.2.2.1.2.1 x.1.2.2.2.1.2.2.1 x.1.2.2.2.2.1 x.2.2.2.2.1 := by kernel_rfl
theorem f_spec_l1Cur_entries_g12ok (k : Nat) : EOK Try.prog x_spec_l1Cur_entries k f_spec_l1Cur_entries_g12D.E (.region 12 f_spec_l1Cur_entries_g12O true) := reg_ok (D := f_spec_l1Cur_entries_g12D) (m := 3) T_ok (g_spec_l1Cur_entries k) (fun x => (f_spec_l1Cur_entries_g12e k x).trans (f_spec_l1Cur_entries_g12j k x.1.2.1.2.1 x.1.2.1.2.2.1 x.1.2.2.1 x.1.2.2.2.1.1 x.1.2.2.2.1.2.1 x.1.2.2.2.1.2.2.1 x.1.2.2.2.2.1 x.2.2.2.2.1))
noncomputable def f_spec_l1Cur_entries_j12X : Code := ((findCond 12 c_spec_l1Cur_entries).map (·.1)).getD .skip
noncomputable def f_spec_l1Cur_entries_j12Y : Code := ((findCond 12 c_spec_l1Cur_entries).map (·.2)).getD .skip
theorem f_spec_l1Cur_entries_j12h (k : Nat) (i : f_spec_l1Cur_entries_j12D.inp.D) : f_spec_l1Cur_entries_j12D.lp k i = branch (f_spec_l1Cur_entries_j12D.inp.st x_spec_l1Cur_entries.n i) (.tmp 12) (fun st => exec x_spec_l1Cur_entries k f_spec_l1Cur_entries_j12X st (outK x_spec_l1Cur_entries f_spec_l1Cur_entries_j12D) (fun _ _ => none) f_spec_l1Cur_entries_j12D.mkB) (fun st => exec x_spec_l1Cur_entries k f_spec_l1Cur_entries_j12Y st (outK x_spec_l1Cur_entries f_spec_l1Cur_entries_j12D) (fun _ _ => none) f_spec_l1Cur_entries_j12D.mkB) := by kernel_rfl
theorem f_spec_l1Cur_entries_j12ok (k : Nat) : EOK Try.prog x_spec_l1Cur_entries k f_spec_l1Cur_entries_j12D.E (.cond (.tmp 12) f_spec_l1Cur_entries_j12X f_spec_l1Cur_entries_j12Y) := join_ok (D := f_spec_l1Cur_entries_j12D) T_ok (g_spec_l1Cur_entries k) (f_spec_l1Cur_entries_j12h k) (@LOK.by _ _ _ _ f_spec_l1Cur_entries_j12X [] (by kernel_rfl) AllOK.nil) (@LOK.by _ _ _ _ f_spec_l1Cur_entries_j12Y [] (by kernel_rfl) AllOK.nil)
noncomputable def f_spec_l1Cur_entries_0B : Code := (findLoop 0 c_spec_l1Cur_entries).getD .skip
theorem f_spec_l1Cur_entries_0h (k : Nat) (x : f_spec_l1Cur_entries_0i.D) : f_spec_l1Cur_entries_0D.lp (k + 1) x = loopK x_spec_l1Cur_entries f_spec_l1Cur_entries_0D 0 f_spec_l1Cur_entries_0B k x := by kernel_rfl
theorem f_spec_l1Cur_entries_0l (k : Nat) : LOK Try.prog x_spec_l1Cur_entries k f_spec_l1Cur_entries_0B := LOK.by [] (by kernel_rfl) AllOK.nil
theorem f_spec_l1Cur_entries_0z (x : f_spec_l1Cur_entries_0i.D) : f_spec_l1Cur_entries_0D.lp 0 x = none := by kernel_rfl
theorem f_spec_l1Cur_entries_0ok (k : Nat) : EOK Try.prog x_spec_l1Cur_entries k f_spec_l1Cur_entries_0D.E (.block 0 (.loop f_spec_l1Cur_entries_0B)) := loop_ok T_ok g_spec_l1Cur_entries f_spec_l1Cur_entries_0z f_spec_l1Cur_entries_0h f_spec_l1Cur_entries_0l k
theorem h_spec_l1Cur_entries (k : Nat) (x : Tup d_spec_l1Cur_entries.ps) : d_spec_l1Cur_entries.f (k + 1) x = fnK d_spec_l1Cur_entries x_spec_l1Cur_entries c_spec_l1Cur_entries k x := by kernel_rfl
theorem z_spec_l1Cur_entries (x : Tup d_spec_l1Cur_entries.ps) : d_spec_l1Cur_entries.f 0 x = none := by kernel_rfl
theorem l_spec_l1Cur_entries (k : Nat) : LOK Try.prog x_spec_l1Cur_entries k c_spec_l1Cur_entries := LOK.by [(f_spec_l1Cur_entries_j12D.E, .cond (.tmp 12) f_spec_l1Cur_entries_j12X f_spec_l1Cur_entries_j12Y), (f_spec_l1Cur_entries_0D.E, .block 0 (.loop f_spec_l1Cur_entries_0B)), (f_spec_l1Cur_entries_g12D.E, .region 12 f_spec_l1Cur_entries_g12O true)] (by kernel_rfl) (AllOK.cons (f_spec_l1Cur_entries_j12ok k) (AllOK.cons (f_spec_l1Cur_entries_0ok k) (AllOK.cons (f_spec_l1Cur_entries_g12ok k) AllOK.nil)))
theorem s_spec_l1Cur_entries (k : Nat) : SoundAt Try.prog k 117 d_spec_l1Cur_entries.E := @fn_all Try.prog d_spec_l1Cur_entries x_spec_l1Cur_entries 117 Try.f117 c_spec_l1Cur_entries (by kernel_rfl) (by kernel_rfl) (by kernel_rfl) Try.func117 (by kernel_rfl) (by kernel_rfl) (by kernel_rfl) T_ok g_spec_l1Cur_entries l_spec_l1Cur_entries z_spec_l1Cur_entries h_spec_l1Cur_entries k
/-! function 118 -/
noncomputable def r_impl_validEntries : List PK := [PK.mk Ty.bool false none false none]
noncomputable def q_impl_validEntries : List PK := [PK.mk (Ty.pair (Ty.int IntKind.i64) (Ty.pair (Ty.int IntKind.i64) (Ty.slice (79 : Nat) (Ty.pair (Ty.int IntKind.i64) (Ty.int IntKind.i64))))) true none false none, PK.mk (Ty.slice (3 : Nat) (Ty.int IntKind.i64)) false none false none]
noncomputable def to_impl_validEntries (r : Bool) : Tup r_impl_validEntries × OutD := ((r, ()), none)
noncomputable def of_impl_validEntries : Tup r_impl_validEntries × OutD → Option (Bool)
  | (a, none) => some (a.1)
  | _ => none
theorem to_of_impl_validEntries : ∀ b r, of_impl_validEntries b = some r → to_impl_validEntries r = b := by
  rintro ⟨a, o⟩ r h
  cases o with
  | none => injection h with h; subst h; rfl
  | some _ => cases h
noncomputable def f_impl_validEntries_0 : Nat → Int → Int → List (Int × Int) → List Int → Int → Int → Option (LR Unit Bool)
  | 0, _, _, _, _, _, _ => none
  | k + 1, b1_0, b1_1, b1_2, v15, v16, v17 =>
    if decide (v17 < v16) = true then if (0 : Int) ≤ v17 then if v17 < (↑(List.length v15) : Int) then if decide (List.getD v15 (Int.toNat v17) (0 : Int) < (0 : Int)) = true then some (LR.ret false) else if decide (List.getD v15 (Int.toNat v17) (0 : Int) ≥ b1_1) = true then some (LR.ret false) else f_impl_validEntries_0 k b1_0 b1_1 b1_2 v15 v16 (wrap64 (v17 + (1 : Int))) else none else none else some (LR.go ())
noncomputable def f_impl_validEntries_0i : Spec := Spec.mk [OSh.ro, OSh.box (53 : Nat) [Sh.int IntKind.i64, Sh.int IntKind.i64, Sh.snap (0 : Nat) (Ty.pair (Ty.int IntKind.i64) (Ty.int IntKind.i64))]] [((2 : Nat), TSh.at (Sh.ptr (1 : Nat) (0 : Nat))), ((15 : Nat), TSh.at (Sh.snap (0 : Nat) (Ty.int IntKind.i64))), ((16 : Nat), TSh.at (Sh.int IntKind.i64)), ((17 : Nat), TSh.at (Sh.int IntKind.i64))]
noncomputable def f_impl_validEntries_0o : Spec := Spec.mk [OSh.ro] []
noncomputable def f_impl_validEntries_0D : LoopDef (Tup r_impl_validEntries × OutD) := .rets f_impl_validEntries_0i f_impl_validEntries_0o (Unit) (Bool) (fun k x => f_impl_validEntries_0 k x.1.2.1.1 x.1.2.1.2.1 x.1.2.1.2.2.1 x.2.2.1 x.2.2.2.1 x.2.2.2.2.1) (fun z => (((), ()), (()))) (fun y => ()) (fun _ => rfl) to_impl_validEntries of_impl_validEntries to_of_impl_validEntries
noncomputable def f_impl_validEntries : Nat → Int × Int × List (Int × Int) → List Int → Option Bool
  | 0, _, _ => none
  | k + 1, p0, p1 =>
    Option.bind (f_impl_IsBoard k (Prod.fst p0, Prod.fst (Prod.snd p0), Prod.snd (Prod.snd p0))) fun z0 => if (!z0) = true then some false else if decide ((↑(List.length p1) : Int) > (60 : Int)) = true then some false else Option.bind (f_impl_validEntries_0 k (Prod.fst p0) (Prod.fst (Prod.snd p0)) (Prod.snd (Prod.snd p0)) p1 (↑(List.length p1) : Int) (0 : Int)) fun z1 => LR.on z1 (fun y1 => some true) fun r1 => some r1
noncomputable def d_impl_validEntries : FnDef := .of q_impl_validEntries r_impl_validEntries (Bool) (fun k x => f_impl_validEntries k x.1 x.2.1) to_impl_validEntries of_impl_validEntries to_of_impl_validEntries
noncomputable def c_impl_validEntries : Code := Try.f118.body.getD .skip
noncomputable def x_impl_validEntries : Ctx (Tup r_impl_validEntries × OutD) := { T := T, G := [(132, d_impl_IsBoard.E)], mvs := [], no := 0, n := 30, res := resOf T q_impl_validEntries r_impl_validEntries Try.f118.results.toList, loops := [(0, f_impl_validEntries_0D.E)], regs := [], conds := [] }
theorem g_impl_validEntries (k : Nat) : EnvOK Try.prog k x_impl_validEntries.G := (EnvOK.cons (s_impl_IsBoard k) (EnvOK.nil mixed))
noncomputable def f_impl_validEntries_0B : Code := (findLoop 0 c_impl_validEntries).getD .skip
theorem f_impl_validEntries_0h (k : Nat) (x : f_impl_validEntries_0i.D) : f_impl_validEntries_0D.lp (k + 1) x = loopK x_impl_validEntries f_impl_validEntries_0D 0 f_impl_validEntries_0B k x := by kernel_rfl
theorem f_impl_validEntries_0l (k : Nat) : LOK Try.prog x_impl_validEntries k f_impl_validEntries_0B := LOK.by [] (by kernel_rfl) AllOK.nil
theorem f_impl_validEntries_0z (x : f_impl_validEntries_0i.D) : f_impl_validEntries_0D.lp 0 x = none := by kernel_rfl
theorem f_impl_validEntries_0ok (k : Nat) : EOK Try.prog x_impl_validEntries k f_impl_validEntries_0D.E (.block 0 (.loop f_impl_validEntries_0B)) := loop_ok T_ok g_impl_validEntries f_impl_validEntries_0z f_impl_validEntries_0h f_impl_validEntries_0l k
theorem h_impl_validEntries (k : Nat) (x : Tup d_impl_validEntries.ps) : d_impl_validEntries.f (k + 1) x = fnK d_impl_validEntries x_impl_validEntries c_impl_validEntries k x := by kernel_rfl
theorem z_impl_validEntries (x : Tup d_impl_validEntries.ps) : d_impl_validEntries.f 0 x = none := by kernel_rfl
theorem l_impl_validEntries (k : Nat) : LOK Try.prog x_impl_validEntries k c_impl_validEntries := LOK.by [(f_impl_validEntries_0D.E, .block 0 (.loop f_impl_validEntries_0B))] (by kernel_rfl) (AllOK.cons (f_impl_validEntries_0ok k) AllOK.nil)
theorem s_impl_validEntries (k : Nat) : SoundAt Try.prog k 118 d_impl_validEntries.E := @fn_all Try.prog d_impl_validEntries x_impl_validEntries 118 Try.f118 c_impl_validEntries (by kernel_rfl) (by kernel_rfl) (by kernel_rfl) Try.func118 (by kernel_rfl) (by kernel_rfl) (by kernel_rfl) T_ok g_impl_validEntries l_impl_validEntries z_impl_validEntries h_impl_validEntries k
/-! function 120 -/
noncomputable def r_impl_faultyDrops : List PK := [PK.mk (Ty.slice (63 : Nat) (Ty.pair (Ty.int IntKind.i64) (Ty.pair (Ty.int IntKind.i64) (Ty.int IntKind.i64)))) false none false none, PK.mk (Ty.pair (Ty.int IntKind.i64) (Ty.pair (Ty.int IntKind.i64) (Ty.slice (79 : Nat) (Ty.pair (Ty.int IntKind.i64) (Ty.int IntKind.i64))))) true none false none]
noncomputable def q_impl_faultyDrops : List PK := [PK.mk (Ty.pair (Ty.int IntKind.i64) (Ty.pair (Ty.int IntKind.i64) (Ty.slice (79 : Nat) (Ty.pair (Ty.int IntKind.i64) (Ty.int IntKind.i64))))) true none false none, PK.mk (Ty.slice (77 : Nat) (Ty.pair (Ty.int IntKind.i64) (Ty.pair (Ty.int IntKind.i64) (Ty.int IntKind.i64)))) false none false none, PK.mk (Ty.slice (3 : Nat) (Ty.int IntKind.i64)) false none false none]
noncomputable def to_impl_faultyDrops (r : List (Int × Int × Int) × Int × Int × List (Int × Int)) : Tup r_impl_faultyDrops × OutD := ((r.1, r.2, ()), none)
noncomputable def of_impl_faultyDrops : Tup r_impl_faultyDrops × OutD → Option (List (Int × Int × Int) × Int × Int × List (Int × Int))
  | (a, none) => some (a.1, a.2.1)
  | _ => none
theorem to_of_impl_faultyDrops : ∀ b r, of_impl_faultyDrops b = some r → to_impl_faultyDrops r = b := by
  rintro ⟨a, o⟩ r h
  cases o with
  | none => injection h with h; subst h; rfl
  | some _ => cases h
noncomputable def f_impl_faultyDrops_0 : Nat → Int → Int → List (Int × Int) → Int → Int → List (Int × Int) → List Int → List Int → List (Int × Int × Int) → List Int → Int → Int → Option (Int × Int × List (Int × Int) × Int × Int × List (Int × Int) × List (Int × Int × Int))
  | 0, _, _, _, _, _, _, _, _, _, _, _, _ => none
  | k + 1, b1_0, b1_1, o2, b3_0, b3_1, o4, o5, o6, o7, v22, v23, v24 =>
    if decide (v24 < v23) = true then if (0 : Int) ≤ v24 then if v24 < (↑(List.length v22) : Int) then Option.bind (f_impl_faultyDrop k (b3_0, b3_1, o4) o5 o6 (List.getD v22 (Int.toNat v24) (0 : Int))) fun z3 => if List.length o7 + List.length [(Prod.fst (Prod.fst z3), Prod.fst (Prod.snd (Prod.fst z3)), Prod.snd (Prod.snd (Prod.fst z3)))] ≤ (140737488355328 / 24 : Nat) then f_impl_faultyDrops_0 k b1_0 b1_1 o2 b3_0 b3_1 (Prod.snd z3) o5 o6 (o7 ++ [(Prod.fst (Prod.fst z3), Prod.fst (Prod.snd (Prod.fst z3)), Prod.snd (Prod.snd (Prod.fst z3)))]) v22 v23 (wrap64 (v24 + (1 : Int))) else none else none else none else some (b1_0, b1_1, o2, b3_0, b3_1, o4, o7)
noncomputable def f_impl_faultyDrops_0i : Spec := Spec.mk [OSh.ro, OSh.box (53 : Nat) [Sh.int IntKind.i64, Sh.int IntKind.i64, Sh.sl (2 : Nat)], OSh.row true (79 : Nat) (Ty.pair (Ty.int IntKind.i64) (Ty.int IntKind.i64)), OSh.box (53 : Nat) [Sh.int IntKind.i64, Sh.int IntKind.i64, Sh.sl (4 : Nat)], OSh.row true (79 : Nat) (Ty.pair (Ty.int IntKind.i64) (Ty.int IntKind.i64)), OSh.row true (3 : Nat) (Ty.int IntKind.i64), OSh.row true (3 : Nat) (Ty.int IntKind.i64), OSh.row true (63 : Nat) (Ty.pair (Ty.int IntKind.i64) (Ty.pair (Ty.int IntKind.i64) (Ty.int IntKind.i64)))] [((7 : Nat), TSh.at (Sh.ptr (1 : Nat) (0 : Nat))), ((8 : Nat), TSh.at (Sh.ptr (3 : Nat) (0 : Nat))), ((9 : Nat), TSh.at (Sh.sl (5 : Nat))), ((10 : Nat), TSh.at (Sh.sl (6 : Nat))), ((11 : Nat), TSh.at (Sh.sl (7 : Nat))), ((22 : Nat), TSh.at (Sh.snap (0 : Nat) (Ty.int IntKind.i64))), ((23 : Nat), TSh.at (Sh.int IntKind.i64)), ((24 : Nat), TSh.at (Sh.int IntKind.i64))]
noncomputable def f_impl_faultyDrops_0o : Spec := Spec.mk [OSh.ro, OSh.box (53 : Nat) [Sh.int IntKind.i64, Sh.int IntKind.i64, Sh.sl (2 : Nat)], OSh.row true (79 : Nat) (Ty.pair (Ty.int IntKind.i64) (Ty.int IntKind.i64)), OSh.box (53 : Nat) [Sh.int IntKind.i64, Sh.int IntKind.i64, Sh.sl (4 : Nat)], OSh.row true (79 : Nat) (Ty.pair (Ty.int IntKind.i64) (Ty.int IntKind.i64)), OSh.row true (63 : Nat) (Ty.pair (Ty.int IntKind.i64) (Ty.pair (Ty.int IntKind.i64) (Ty.int IntKind.i64)))] [((7 : Nat), TSh.at (Sh.ptr (1 : Nat) (0 : Nat))), ((8 : Nat), TSh.at (Sh.ptr (3 : Nat) (0 : Nat))), ((11 : Nat), TSh.at (Sh.sl (5 : Nat)))]
noncomputable def f_impl_faultyDrops_0D : LoopDef (Tup r_impl_faultyDrops × OutD) := .plain f_impl_faultyDrops_0i f_impl_faultyDrops_0o (Int × Int × List (Int × Int) × Int × Int × List (Int × Int) × List (Int × Int × Int)) (fun k x => f_impl_faultyDrops_0 k x.1.2.1.1 x.1.2.1.2.1 x.1.2.2.1 x.1.2.2.2.1.1 x.1.2.2.2.1.2.1 x.1.2.2.2.2.1 x.1.2.2.2.2.2.1 x.1.2.2.2.2.2.2.1 x.1.2.2.2.2.2.2.2.1 x.2.2.2.2.2.2.1 x.2.2.2.2.2.2.2.1 x.2.2.2.2.2.2.2.2.1) (fun z => (((), (z.1, z.2.1, (), ()), z.2.2.1, (z.2.2.2.1, z.2.2.2.2.1, (), ()), z.2.2.2.2.2.1, z.2.2.2.2.2.2, ()), ((), (), (), ()))) (fun y => (y.1.2.1.1, y.1.2.1.2.1, y.1.2.2.1, y.1.2.2.2.1.1, y.1.2.2.2.1.2.1, y.1.2.2.2.2.1, y.1.2.2.2.2.2.1)) (fun _ => rfl)
noncomputable def f_impl_faultyDrops : Nat → Int × Int × List (Int × Int) → List (Int × Int × Int) → List Int → Option (List (Int × Int × Int) × Int × Int × List (Int × Int))
  | 0, _, _, _ => none
  | k + 1, p0, p1, p2 =>
    Option.bind (f_impl_copyBoard k (Prod.fst p0, Prod.fst (Prod.snd p0), Prod.snd (Prod.snd p0))) fun z0 => Option.bind (f_impl_groupNumbers k (Prod.fst p0, Prod.fst (Prod.snd p0), Prod.snd (Prod.snd p0))) fun z1 => Option.bind (f_impl_faultsByCell k (Prod.fst p0, Prod.fst (Prod.snd p0), Prod.snd (Prod.snd p0)) p1) fun z2 => Option.bind (f_impl_faultyDrops_0 k (0 : Int) (0 : Int) [] (Prod.fst z0) (Prod.fst (Prod.snd z0)) (Prod.snd (Prod.snd z0)) z1 z2 [] p2 (↑(List.length p2) : Int) (0 : Int)) fun z4 => some (Prod.snd (Prod.snd (Prod.snd (Prod.snd (Prod.snd (Prod.snd z4))))), Prod.fst (Prod.snd (Prod.snd (Prod.snd z4))), Prod.fst (Prod.snd (Prod.snd (Prod.snd (Prod.snd z4)))), Prod.fst (Prod.snd (Prod.snd (Prod.snd (Prod.snd (Prod.snd z4))))))
noncomputable def d_impl_faultyDrops : FnDef := .of q_impl_faultyDrops r_impl_faultyDrops (List (Int × Int × Int) × Int × Int × List (Int × Int)) (fun k x => f_impl_faultyDrops k x.1 x.2.1 x.2.2.1) to_impl_faultyDrops of_impl_faultyDrops to_of_impl_faultyDrops
noncomputable def c_impl_faultyDrops : Code := Try.f120.body.getD .skip
noncomputable def x_impl_faultyDrops : Ctx (Tup r_impl_faultyDrops × OutD) := { T := T, G := [(127, d_impl_copyBoard.E), (128, d_impl_groupNumbers.E), (129, d_impl_faultsByCell.E), (126, d_impl_faultyDrop.E)], mvs := [], no := 0, n := 39, res := resOf T q_impl_faultyDrops r_impl_faultyDrops Try.f120.results.toList, loops := [(0, f_impl_faultyDrops_0D.E)], regs := [], conds := [] }
theorem g_impl_faultyDrops (k : Nat) : EnvOK Try.prog k x_impl_faultyDrops.G := (EnvOK.cons (s_impl_copyBoard k) (EnvOK.cons (s_impl_groupNumbers k) (EnvOK.cons (s_impl_faultsByCell k) (EnvOK.cons (s_impl_faultyDrop k) (EnvOK.nil mixed)))))
noncomputable def f_impl_faultyDrops_0B : Code := (findLoop 0 c_impl_faultyDrops).getD .skip
theorem f_impl_faultyDrops_0h (k : Nat) (x : f_impl_faultyDrops_0i.D) : f_impl_faultyDrops_0D.lp (k + 1) x = loopK x_impl_faultyDrops f_impl_faultyDrops_0D 0 f_impl_faultyDrops_0B k x := by kernel_rfl
theorem f_impl_faultyDrops_0l (k : Nat) : LOK Try.prog x_impl_faultyDrops k f_impl_faultyDrops_0B := LOK.by [] (by kernel_rfl) AllOK.nil
theorem f_impl_faultyDrops_0z (x : f_impl_faultyDrops_0i.D) : f_impl_faultyDrops_0D.lp 0 x = none := by kernel_rfl
theorem f_impl_faultyDrops_0ok (k : Nat) : EOK Try.prog x_impl_faultyDrops k f_impl_faultyDrops_0D.E (.block 0 (.loop f_impl_faultyDrops_0B)) := loop_ok T_ok g_impl_faultyDrops f_impl_faultyDrops_0z f_impl_faultyDrops_0h f_impl_faultyDrops_0l k
theorem h_impl_faultyDrops (k : Nat) (x : Tup d_impl_faultyDrops.ps) : d_impl_faultyDrops.f (k + 1) x = fnK d_impl_faultyDrops x_impl_faultyDrops c_impl_faultyDrops k x := by kernel_rfl
theorem z_impl_faultyDrops (x : Tup d_impl_faultyDrops.ps) : d_impl_faultyDrops.f 0 x = none := by kernel_rfl
theorem l_impl_faultyDrops (k : Nat) : LOK Try.prog x_impl_faultyDrops k c_impl_faultyDrops := LOK.by [(f_impl_faultyDrops_0D.E, .block 0 (.loop f_impl_faultyDrops_0B))] (by kernel_rfl) (AllOK.cons (f_impl_faultyDrops_0ok k) AllOK.nil)
theorem s_impl_faultyDrops (k : Nat) : SoundAt Try.prog k 120 d_impl_faultyDrops.E := @fn_all Try.prog d_impl_faultyDrops x_impl_faultyDrops 120 Try.f120 c_impl_faultyDrops (by kernel_rfl) (by kernel_rfl) (by kernel_rfl) Try.func120 (by kernel_rfl) (by kernel_rfl) (by kernel_rfl) T_ok g_impl_faultyDrops l_impl_faultyDrops z_impl_faultyDrops h_impl_faultyDrops k
/-! function 121 -/
noncomputable def r_spec_flColumns : List PK := [PK.mk Ty.bool false none false none]
noncomputable def q_spec_flColumns : List PK := [PK.mk (Ty.pair (Ty.int IntKind.i64) (Ty.pair (Ty.int IntKind.i64) (Ty.slice (79 : Nat) (Ty.pair (Ty.int IntKind.i64) (Ty.int IntKind.i64))))) true none false none, PK.mk (Ty.slice (3 : Nat) (Ty.int IntKind.i64)) false none false none]
noncomputable def to_spec_flColumns (r : Bool) : Tup r_spec_flColumns × OutD := ((r, ()), none)
noncomputable def of_spec_flColumns : Tup r_spec_flColumns × OutD → Option (Bool)
  | (a, none) => some (a.1)
  | _ => none
theorem to_of_spec_flColumns : ∀ b r, of_spec_flColumns b = some r → to_spec_flColumns r = b := by
  rintro ⟨a, o⟩ r h
  cases o with
  | none => injection h with h; subst h; rfl
  | some _ => cases h
noncomputable def f_spec_flColumns : Nat → Int × Int × List (Int × Int) → List Int → Option Bool
  | 0, _, _ => none
  | k + 1, p0, p1 =>
    Option.bind (f_spec_boGood k (Prod.fst p0, Prod.fst (Prod.snd p0), Prod.snd (Prod.snd p0))) fun z0 => if z0 = true then if decide ((↑(List.length p1) : Int) ≤ (60 : Int)) = true then Option.bind (f_spec_l1All k p1 (0 : Int) (wrap64 (Prod.fst (Prod.snd p0) - (1 : Int)))) fun z1 => some z1 else some false else some false
noncomputable def d_spec_flColumns : FnDef := .of q_spec_flColumns r_spec_flColumns (Bool) (fun k x => f_spec_flColumns k x.1 x.2.1) to_spec_flColumns of_spec_flColumns to_of_spec_flColumns
noncomputable def c_spec_flColumns : Code := Try.f121.body.getD .skip
noncomputable def x_spec_flColumns : Ctx (Tup r_spec_flColumns × OutD) := { T := T, G := [(133, d_spec_boGood.E), (113, d_spec_l1All.E)], mvs := [], no := 0, n := 19, res := resOf T q_spec_flColumns r_spec_flColumns Try.f121.results.toList, loops := [], regs := [], conds := [] }
theorem g_spec_flColumns (k : Nat) : EnvOK Try.prog k x_spec_flColumns.G := (EnvOK.cons (s_spec_boGood k) (EnvOK.cons (s_spec_l1All k) (EnvOK.nil mixed)))
theorem h_spec_flColumns (k : Nat) (x : Tup d_spec_flColumns.ps) : d_spec_flColumns.f (k + 1) x = fnK d_spec_flColumns x_spec_flColumns c_spec_flColumns k x := by kernel_rfl
theorem z_spec_flColumns (x : Tup d_spec_flColumns.ps) : d_spec_flColumns.f 0 x = none := by kernel_rfl
theorem l_spec_flColumns (k : Nat) : LOK Try.prog x_spec_flColumns k c_spec_flColumns := LOK.by [] (by kernel_rfl) AllOK.nil
theorem s_spec_flColumns (k : Nat) : SoundAt Try.prog k 121 d_spec_flColumns.E := @fn_all Try.prog d_spec_flColumns x_spec_flColumns 121 Try.f121 c_spec_flColumns (by kernel_rfl) (by kernel_rfl) (by kernel_rfl) Try.func121 (by kernel_rfl) (by kernel_rfl) (by kernel_rfl) T_ok g_spec_flColumns l_spec_flColumns z_spec_flColumns h_spec_flColumns k
/-! function 123 -/
noncomputable def r_spec_faAll : List PK := [PK.mk (Ty.slice (63 : Nat) (Ty.pair (Ty.int IntKind.i64) (Ty.pair (Ty.int IntKind.i64) (Ty.int IntKind.i64)))) false none false none, PK.mk (Ty.pair (Ty.int IntKind.i64) (Ty.pair (Ty.int IntKind.i64) (Ty.slice (79 : Nat) (Ty.pair (Ty.int IntKind.i64) (Ty.int IntKind.i64))))) true none false none]
noncomputable def q_spec_faAll : List PK := [PK.mk (Ty.pair (Ty.int IntKind.i64) (Ty.pair (Ty.int IntKind.i64) (Ty.slice (79 : Nat) (Ty.pair (Ty.int IntKind.i64) (Ty.int IntKind.i64))))) true none false none, PK.mk (Ty.slice (77 : Nat) (Ty.pair (Ty.int IntKind.i64) (Ty.pair (Ty.int IntKind.i64) (Ty.int IntKind.i64)))) false none false none, PK.mk (Ty.slice (3 : Nat) (Ty.int IntKind.i64)) false none false none]
noncomputable def to_spec_faAll (r : List (Int × Int × Int) × Int × Int × List (Int × Int)) : Tup r_spec_faAll × OutD := ((r.1, r.2, ()), none)
noncomputable def of_spec_faAll : Tup r_spec_faAll × OutD → Option (List (Int × Int × Int) × Int × Int × List (Int × Int))
  | (a, none) => some (a.1, a.2.1)
  | _ => none
theorem to_of_spec_faAll : ∀ b r, of_spec_faAll b = some r → to_spec_faAll r = b := by
  rintro ⟨a, o⟩ r h
  cases o with
  | none => injection h with h; subst h; rfl
  | some _ => cases h
noncomputable def f_spec_faAll_g1 : Nat → Int → Int → List (Int × Int) → Int → Int → List (Int × Int) → List (Int × Int × Int) → List Int → Option (Int × Int × List (Int × Int) × Int × Int × List (Int × Int) × List Int × List (Int × Int × Int) × List Int) := fun k b1_0 b1_1 b1_2 b2_0 b2_1 o3 v1 v2 =>
    Option.bind (f_spec_boOwn k (b1_0, b1_1, b1_2)) fun z0 => Option.bind (f_spec_ggGroups k (b1_0, b1_1, b1_2)) fun z1 => some (b2_0, b2_1, o3, Prod.fst z0, Prod.fst (Prod.snd z0), Prod.snd (Prod.snd z0), z1, v1, v2)
noncomputable def f_spec_faAll_g1A : Nat → Int → Int → List (Int × Int) → Int → Int → List (Int × Int) → List (Int × Int × Int) → List Int → Option (List (Int × Int × List (Int × Int) × Int × Int × List (Int × Int) × List Int × List (Int × Int × Int) × List Int)) := fun k b1_0 b1_1 b1_2 b2_0 b2_1 o3 v1 v2 =>
    joinL (Option.bind (f_spec_boOwn k (b1_0, b1_1, b1_2)) fun z2 => joinL (Option.bind (f_spec_ggGroups k (b1_0, b1_1, b1_2)) fun z3 => some [(b2_0, b2_1, o3, Prod.fst z2, Prod.fst (Prod.snd z2), Prod.snd (Prod.snd z2), z3, v1, v2)]) (Option.bind (f_spec_ggGroups k (b1_0, b1_1, b1_2)) fun z4 => some [(b2_0, b2_1, o3, Prod.fst z2, Prod.fst (Prod.snd z2), Prod.snd (Prod.snd z2), z4, v1, v2)])) (Option.bind (f_spec_boOwn k (b1_0, b1_1, b1_2)) fun z5 => Option.bind (f_spec_ggGroups k (b1_0, b1_1, b1_2)) fun z6 => some [(b2_0, b2_1, o3, Prod.fst z5, Prod.fst (Prod.snd z5), Prod.snd (Prod.snd z5), z6, v1, v2)])
noncomputable def f_spec_faAll_g1i : Spec := Spec.mk [OSh.ro, OSh.box (53 : Nat) [Sh.int IntKind.i64, Sh.int IntKind.i64, Sh.snap (0 : Nat) (Ty.pair (Ty.int IntKind.i64) (Ty.int IntKind.i64))], OSh.box (53 : Nat) [Sh.int IntKind.i64, Sh.int IntKind.i64, Sh.sl (3 : Nat)], OSh.row true (79 : Nat) (Ty.pair (Ty.int IntKind.i64) (Ty.int IntKind.i64))] [((1 : Nat), TSh.at (Sh.snap (0 : Nat) (Ty.pair (Ty.int IntKind.i64) (Ty.pair (Ty.int IntKind.i64) (Ty.int IntKind.i64))))), ((2 : Nat), TSh.at (Sh.snap (0 : Nat) (Ty.int IntKind.i64))), ((3 : Nat), TSh.at (Sh.ptr (1 : Nat) (0 : Nat))), ((7 : Nat), TSh.at (Sh.ptr (2 : Nat) (0 : Nat)))]
noncomputable def f_spec_faAll_g1o : Spec := Spec.mk [OSh.ro, OSh.box (53 : Nat) [Sh.int IntKind.i64, Sh.int IntKind.i64, Sh.sl (2 : Nat)], OSh.row true (79 : Nat) (Ty.pair (Ty.int IntKind.i64) (Ty.int IntKind.i64)), OSh.box (53 : Nat) [Sh.int IntKind.i64, Sh.int IntKind.i64, Sh.sl (4 : Nat)], OSh.row true (79 : Nat) (Ty.pair (Ty.int IntKind.i64) (Ty.int IntKind.i64)), OSh.row true (3 : Nat) (Ty.int IntKind.i64)] [((1 : Nat), TSh.at (Sh.snap (0 : Nat) (Ty.pair (Ty.int IntKind.i64) (Ty.pair (Ty.int IntKind.i64) (Ty.int IntKind.i64))))), ((2 : Nat), TSh.at (Sh.snap (0 : Nat) (Ty.int IntKind.i64))), ((7 : Nat), TSh.at (Sh.ptr (1 : Nat) (0 : Nat))), ((8 : Nat), TSh.at (Sh.ptr (3 : Nat) (0 : Nat))), ((9 : Nat), TSh.at (Sh.sl (5 : Nat)))]
noncomputable def f_spec_faAll_g1D : LoopDef (Tup r_spec_faAll × OutD) := .plain f_spec_faAll_g1i f_spec_faAll_g1o (Int × Int × List (Int × Int) × Int × Int × List (Int × Int) × List Int × List (Int × Int × Int) × List Int) (fun k x => f_spec_faAll_g1 k x.1.2.1.1 x.1.2.1.2.1 x.1.2.1.2.2.1 x.1.2.2.1.1 x.1.2.2.1.2.1 x.1.2.2.2.1 x.2.1 x.2.2.1) (fun z => (((), (z.1, z.2.1, (), ()), z.2.2.1, (z.2.2.2.1, z.2.2.2.2.1, (), ()), z.2.2.2.2.2.1, z.2.2.2.2.2.2.1, ()), (z.2.2.2.2.2.2.2.1, z.2.2.2.2.2.2.2.2, (), (), (), ()))) (fun y => (y.1.2.1.1, y.1.2.1.2.1, y.1.2.2.1, y.1.2.2.2.1.1, y.1.2.2.2.1.2.1, y.1.2.2.2.2.1, y.1.2.2.2.2.2.1, y.2.1, y.2.2.1)) (fun _ => rfl)
theorem f_spec_faAll_g1j (k : Nat) (b1_0 : Int) (b1_1 : Int) (b1_2 : List (Int × Int)) (b2_0 : Int) (b2_1 : Int) (o3 : List (Int × Int)) (v1 : List (Int × Int × Int)) (v2 : List Int) : f_spec_faAll_g1A k b1_0 b1_1 b1_2 b2_0 b2_1 o3 v1 v2 = repl 3 (f_spec_faAll_g1 k b1_0 b1_1 b1_2 b2_0 b2_1 o3 v1 v2) := by
  first
  | (simp only [f_spec_faAll_g1A, f_spec_faAll_g1, repl_some, repl_ite, repl_ite0, repl_ite1, repl_bind, joinL_repl, if_true]; done)
  | (simp only [f_spec_faAll_g1A, f_spec_faAll_g1, repl_some, repl_ite, repl_ite0, repl_ite1, repl_bind, joinL_repl, if_true]; simp only [joinL_grdl, joinL_grdr, repl_grd, joinL_repl]; simp only [grd_and]; exact grd_congr ⟨fun h => by simp only [h, and_self], fun h => by simp only [h, and_self]⟩)
noncomputable def f_spec_faAll_0 : Nat → Int → Int → List (Int × Int) → Int → Int → List (Int × Int) → List Int → List (Int × Int × Int) → List (Int × Int × Int) → List Int → Int → Int → Option (Int × Int × List (Int × Int) × Int × Int × List (Int × Int) × List (Int × Int × Int))
  | 0, _, _, _, _, _, _, _, _, _, _, _, _ => none
  | k + 1, b1_0, b1_1, o2, b3_0, b3_1, o4, o5, o6, v1, v19, v20, v21 =>
    if decide (v21 < v20) = true then if (0 : Int) ≤ v21 then if v21 < (↑(List.length v19) : Int) then Option.bind (f_spec_faGo k (b3_0, b3_1, o4) o5 v1 (List.getD v19 (Int.toNat v21) (0 : Int))) fun z8 => if List.length o6 + List.length [(Prod.fst (Prod.fst z8), Prod.fst (Prod.snd (Prod.fst z8)), Prod.snd (Prod.snd (Prod.fst z8)))] ≤ (140737488355328 / 24 : Nat) then f_spec_faAll_0 k b1_0 b1_1 o2 (Prod.fst (Prod.snd z8)) (Prod.fst (Prod.snd (Prod.snd z8))) (Prod.snd (Prod.snd (Prod.snd z8))) o5 (o6 ++ [(Prod.fst (Prod.fst z8), Prod.fst (Prod.snd (Prod.fst z8)), Prod.snd (Prod.snd (Prod.fst z8)))]) v1 v19 v20 (wrap64 (v21 + (1 : Int))) else none else none else none else some (b1_0, b1_1, o2, b3_0, b3_1, o4, o6)
noncomputable def f_spec_faAll_0i : Spec := Spec.mk [OSh.ro, OSh.box (53 : Nat) [Sh.int IntKind.i64, Sh.int IntKind.i64, Sh.sl (2 : Nat)], OSh.row true (79 : Nat) (Ty.pair (Ty.int IntKind.i64) (Ty.int IntKind.i64)), OSh.box (53 : Nat) [Sh.int IntKind.i64, Sh.int IntKind.i64, Sh.sl (4 : Nat)], OSh.row true (79 : Nat) (Ty.pair (Ty.int IntKind.i64) (Ty.int IntKind.i64)), OSh.row true (3 : Nat) (Ty.int IntKind.i64), OSh.row true (63 : Nat) (Ty.pair (Ty.int IntKind.i64) (Ty.pair (Ty.int IntKind.i64) (Ty.int IntKind.i64)))] [((1 : Nat), TSh.at (Sh.snap (0 : Nat) (Ty.pair (Ty.int IntKind.i64) (Ty.pair (Ty.int IntKind.i64) (Ty.int IntKind.i64))))), ((7 : Nat), TSh.at (Sh.ptr (1 : Nat) (0 : Nat))), ((8 : Nat), TSh.at (Sh.ptr (3 : Nat) (0 : Nat))), ((9 : Nat), TSh.at (Sh.sl (5 : Nat))), ((10 : Nat), TSh.at (Sh.sl (6 : Nat))), ((19 : Nat), TSh.at (Sh.snap (0 : Nat) (Ty.int IntKind.i64))), ((20 : Nat), TSh.at (Sh.int IntKind.i64)), ((21 : Nat), TSh.at (Sh.int IntKind.i64))]
noncomputable def f_spec_faAll_0o : Spec := Spec.mk [OSh.ro, OSh.box (53 : Nat) [Sh.int IntKind.i64, Sh.int IntKind.i64, Sh.sl (2 : Nat)], OSh.row true (79 : Nat) (Ty.pair (Ty.int IntKind.i64) (Ty.int IntKind.i64)), OSh.box (53 : Nat) [Sh.int IntKind.i64, Sh.int IntKind.i64, Sh.sl (4 : Nat)], OSh.row true (79 : Nat) (Ty.pair (Ty.int IntKind.i64) (Ty.int IntKind.i64)), OSh.row true (63 : Nat) (Ty.pair (Ty.int IntKind.i64) (Ty.pair (Ty.int IntKind.i64) (Ty.int IntKind.i64)))] [((7 : Nat), TSh.at (Sh.ptr (1 : Nat) (0 : Nat))), ((8 : Nat), TSh.at (Sh.ptr (3 : Nat) (0 : Nat))), ((10 : Nat), TSh.at (Sh.sl (5 : Nat)))]
noncomputable def f_spec_faAll_0D : LoopDef (Tup r_spec_faAll × OutD) := .plain f_spec_faAll_0i f_spec_faAll_0o (Int × Int × List (Int × Int) × Int × Int × List (Int × Int) × List (Int × Int × Int)) (fun k x => f_spec_faAll_0 k x.1.2.1.1 x.1.2.1.2.1 x.1.2.2.1 x.1.2.2.2.1.1 x.1.2.2.2.1.2.1 x.1.2.2.2.2.1 x.1.2.2.2.2.2.1 x.1.2.2.2.2.2.2.1 x.2.1 x.2.2.2.2.2.2.1 x.2.2.2.2.2.2.2.1 x.2.2.2.2.2.2.2.2.1) (fun z => (((), (z.1, z.2.1, (), ()), z.2.2.1, (z.2.2.2.1, z.2.2.2.2.1, (), ()), z.2.2.2.2.2.1, z.2.2.2.2.2.2, ()), ((), (), (), ()))) (fun y => (y.1.2.1.1, y.1.2.1.2.1, y.1.2.2.1, y.1.2.2.2.1.1, y.1.2.2.2.1.2.1, y.1.2.2.2.2.1, y.1.2.2.2.2.2.1)) (fun _ => rfl)
noncomputable def f_spec_faAll : Nat → Int × Int × List (Int × Int) → List (Int × Int × Int) → List Int → Option (List (Int × Int × Int) × Int × Int × List (Int × Int))
  | 0, _, _, _ => none
  | k + 1, p0, p1, p2 =>
    Option.bind (f_spec_faAll_g1 k (Prod.fst p0) (Prod.fst (Prod.snd p0)) (Prod.snd (Prod.snd p0)) (0 : Int) (0 : Int) [] p1 p2) fun z7 => Option.bind (f_spec_faAll_0 k (Prod.fst z7) (Prod.fst (Prod.snd z7)) (Prod.fst (Prod.snd (Prod.snd z7))) (Prod.fst (Prod.snd (Prod.snd (Prod.snd z7)))) (Prod.fst (Prod.snd (Prod.snd (Prod.snd (Prod.snd z7))))) (Prod.fst (Prod.snd (Prod.snd (Prod.snd (Prod.snd (Prod.snd z7)))))) (Prod.fst (Prod.snd (Prod.snd (Prod.snd (Prod.snd (Prod.snd (Prod.snd z7))))))) [] (Prod.fst (Prod.snd (Prod.snd (Prod.snd (Prod.snd (Prod.snd (Prod.snd (Prod.snd z7)))))))) (Prod.snd (Prod.snd (Prod.snd (Prod.snd (Prod.snd (Prod.snd (Prod.snd (Prod.snd z7)))))))) (↑(List.length (Prod.snd (Prod.snd (Prod.snd (Prod.snd (Prod.snd (Prod.snd (Prod.snd (Prod.snd z7))))))))) : Int) (0 : Int)) fun z9 => some (Prod.snd (Prod.snd (Prod.snd (Prod.snd (Prod.snd (Prod.snd z9))))), Prod.fst (Prod.snd (Prod.snd (Prod.snd z9))), Prod.fst (Prod.snd (Prod.snd (Prod.snd (Prod.snd z9)))), Prod.fst (Prod.snd (Prod.snd (Prod.snd (Prod.snd (Prod.snd z9))))))
noncomputable def d_spec_faAll : FnDef := .of q_spec_faAll r_spec_faAll (List (Int × Int × Int) × Int × Int × List (Int × Int)) (fun k x => f_spec_faAll k x.1 x.2.1 x.2.2.1) to_spec_faAll of_spec_faAll to_of_spec_faAll
noncomputable def c_spec_faAll : Code := Try.f123.body.getD .skip
noncomputable def x_spec_faAll : Ctx (Tup r_spec_faAll × OutD) := { T := T, G := [(184, d_spec_boOwn.E), (185, d_spec_ggGroups.E), (186, d_spec_faGo.E)], mvs := [], no := 0, n := 41, res := resOf T q_spec_faAll r_spec_faAll Try.f123.results.toList, loops := [(0, f_spec_faAll_0D.E)], regs := [(1, f_spec_faAll_g1D.E)], conds := [] }
theorem g_spec_faAll (k : Nat) : EnvOK Try.prog k x_spec_faAll.G := (EnvOK.cons (s_spec_boOwn k) (EnvOK.cons (s_spec_ggGroups k) (EnvOK.cons (s_spec_faGo k) (EnvOK.nil mixed))))
noncomputable def f_spec_faAll_g1O : Array Oper := (findReg 1 c_spec_faAll).getD #[]
theorem f_spec_faAll_g1e (k : Nat) (x : f_spec_faAll_g1i.D) : execD x_spec_faAll.T x_spec_faAll.G x_spec_faAll.mvs k f_spec_faAll_g1O (f_spec_faAll_g1D.inp.st x_spec_faAll.n x) (outK x_spec_faAll f_spec_faAll_g1D) = f_spec_faAll_g1A k x.1.2.1.1 x.1.2.1.2.1 x.1.2.1.2.2.1 x.1.2.2.1.1 x.1.2.2.1.2.1 x.1.2.2.2.1 x.2.1 x.2.2.1 := by kernel_rfl
theorem f_spec_faAll_g1ok (k : Nat) : EOK Try.prog x_spec_faAll k f_spec_faAll_g1D.E (.region 1 f_spec_faAll_g1O true) := reg_ok (D := f_spec_faAll_g1D) (m := 3) T_ok (g_spec_faAll k) (fun x => (f_spec_faAll_g1e k x).trans (f_spec_faAll_g1j k x.1.2.1.1 x.1.2.1.2.1 x.1.2.1.2.2.1 x.1.2.2.1.1 x.1.2.2.1.2.1 x.1.2.2.2.1 x.2.1 x.2.2.1))
noncomputable def f_spec_faAll_0B : Code := (findLoop 0 c_spec_faAll).getD .skip
theorem f_spec_faAll_0h (k : Nat) (x : f_spec_faAll_0i.D) : f_spec_faAll_0D.lp (k + 1) x = loopK x_spec_faAll f_spec_faAll_0D 0 f_spec_faAll_0B k x := by kernel_rfl
theorem f_spec_faAll_0l (k : Nat) : LOK Try.prog x_spec_faAll k f_spec_faAll_0B := LOK.by [] (by kernel_rfl) AllOK.nil
theorem f_spec_faAll_0z (x : f_spec_faAll_0i.D) : f_spec_faAll_0D.lp 0 x = none := by kernel_rfl
theorem f_spec_faAll_0ok (k : Nat) : EOK Try.prog x_spec_faAll k f_spec_faAll_0D.E (.block 0 (.loop f_spec_faAll_0B)) := loop_ok T_ok g_spec_faAll f_spec_faAll_0z f_spec_faAll_0h f_spec_faAll_0l k
theorem h_spec_faAll (k : Nat) (x : Tup d_spec_faAll.ps) : d_spec_faAll.f (k + 1) x = fnK d_spec_faAll x_spec_faAll c_spec_faAll k x := by kernel_rfl
theorem z_spec_faAll (x : Tup d_spec_faAll.ps) : d_spec_faAll.f 0 x = none := by kernel_rfl
theorem l_spec_faAll (k : Nat) : LOK Try.prog x_spec_faAll k c_spec_faAll := LOK.by [(f_spec_faAll_g1D.E, .region 1 f_spec_faAll_g1O true), (f_spec_faAll_0D.E, .block 0 (.loop f_spec_faAll_0B))] (by kernel_rfl) (AllOK.cons (f_spec_faAll_g1ok k) (AllOK.cons (f_spec_faAll_0ok k) AllOK.nil))
theorem s_spec_faAll (k : Nat) : SoundAt Try.prog k 123 d_spec_faAll.E := @fn_all Try.prog d_spec_faAll x_spec_faAll 123 Try.f123 c_spec_faAll (by kernel_rfl) (by kernel_rfl) (by kernel_rfl) Try.func123 (by kernel_rfl) (by kernel_rfl) (by kernel_rfl) T_ok g_spec_faAll l_spec_faAll z_spec_faAll h_spec_faAll k
/-! function 125 -/
noncomputable def r_impl_validEntry : List PK := [PK.mk Ty.bool false none false none]
noncomputable def q_impl_validEntry : List PK := [PK.mk (Ty.pair (Ty.int IntKind.i64) (Ty.pair (Ty.int IntKind.i64) (Ty.slice (79 : Nat) (Ty.pair (Ty.int IntKind.i64) (Ty.int IntKind.i64))))) true none false none, PK.mk (Ty.int IntKind.i64) false none false none]
noncomputable def to_impl_validEntry (r : Bool) : Tup r_impl_validEntry × OutD := ((r, ()), none)
noncomputable def of_impl_validEntry : Tup r_impl_validEntry × OutD → Option (Bool)
  | (a, none) => some (a.1)
  | _ => none
theorem to_of_impl_validEntry : ∀ b r, of_impl_validEntry b = some r → to_impl_validEntry r = b := by
  rintro ⟨a, o⟩ r h
  cases o with
  | none => injection h with h; subst h; rfl
  | some _ => cases h
noncomputable def f_impl_validEntry : Nat → Int × Int × List (Int × Int) → Int → Option Bool
  | 0, _, _ => none
  | k + 1, p0, p1 =>
    Option.bind (f_impl_IsBoard k (Prod.fst p0, Prod.fst (Prod.snd p0), Prod.snd (Prod.snd p0))) fun z0 => if z0 = true then if decide (p1 ≥ (0 : Int)) = true then some (decide (p1 < Prod.fst (Prod.snd p0))) else some false else some false
noncomputable def d_impl_validEntry : FnDef := .of q_impl_validEntry r_impl_validEntry (Bool) (fun k x => f_impl_validEntry k x.1 x.2.1) to_impl_validEntry of_impl_validEntry to_of_impl_validEntry
noncomputable def c_impl_validEntry : Code := Try.f125.body.getD .skip
noncomputable def x_impl_validEntry : Ctx (Tup r_impl_validEntry × OutD) := { T := T, G := [(132, d_impl_IsBoard.E)], mvs := [], no := 0, n := 17, res := resOf T q_impl_validEntry r_impl_validEntry Try.f125.results.toList, loops := [], regs := [], conds := [] }
theorem g_impl_validEntry (k : Nat) : EnvOK Try.prog k x_impl_validEntry.G := (EnvOK.cons (s_impl_IsBoard k) (EnvOK.nil mixed))
theorem h_impl_validEntry (k : Nat) (x : Tup d_impl_validEntry.ps) : d_impl_validEntry.f (k + 1) x = fnK d_impl_validEntry x_impl_validEntry c_impl_validEntry k x := by kernel_rfl
theorem z_impl_validEntry (x : Tup d_impl_validEntry.ps) : d_impl_validEntry.f 0 x = none := by kernel_rfl
theorem l_impl_validEntry (k : Nat) : LOK Try.prog x_impl_validEntry k c_impl_validEntry := LOK.by [] (by kernel_rfl) AllOK.nil
theorem s_impl_validEntry (k : Nat) : SoundAt Try.prog k 125 d_impl_validEntry.E := @fn_all Try.prog d_impl_validEntry x_impl_validEntry 125 Try.f125 c_impl_validEntry (by kernel_rfl) (by kernel_rfl) (by kernel_rfl) Try.func125 (by kernel_rfl) (by kernel_rfl) (by kernel_rfl) T_ok g_impl_validEntry l_impl_validEntry z_impl_validEntry h_impl_validEntry k
/-! function 131 -/
noncomputable def r_spec_faRun : List PK := [PK.mk (Ty.pair (Ty.int IntKind.i64) (Ty.pair (Ty.int IntKind.i64) (Ty.int IntKind.i64))) true none false none, PK.mk (Ty.pair (Ty.int IntKind.i64) (Ty.pair (Ty.int IntKind.i64) (Ty.slice (79 : Nat) (Ty.pair (Ty.int IntKind.i64) (Ty.int IntKind.i64))))) true none false none]
noncomputable def q_spec_faRun : List PK := [PK.mk (Ty.pair (Ty.int IntKind.i64) (Ty.pair (Ty.int IntKind.i64) (Ty.slice (79 : Nat) (Ty.pair (Ty.int IntKind.i64) (Ty.int IntKind.i64))))) true none false none, PK.mk (Ty.slice (77 : Nat) (Ty.pair (Ty.int IntKind.i64) (Ty.pair (Ty.int IntKind.i64) (Ty.int IntKind.i64)))) false none false none, PK.mk (Ty.int IntKind.i64) false none false none]
noncomputable def to_spec_faRun (r : (Int × Int × Int) × Int × Int × List (Int × Int)) : Tup r_spec_faRun × OutD := ((r.1, r.2, ()), none)
noncomputable def of_spec_faRun : Tup r_spec_faRun × OutD → Option ((Int × Int × Int) × Int × Int × List (Int × Int))
  | (a, none) => some (a.1, a.2.1)
  | _ => none
theorem to_of_spec_faRun : ∀ b r, of_spec_faRun b = some r → to_spec_faRun r = b := by
  rintro ⟨a, o⟩ r h
  cases o with
  | none => injection h with h; subst h; rfl
  | some _ => cases h
noncomputable def f_spec_faRun : Nat → Int × Int × List (Int × Int) → List (Int × Int × Int) → Int → Option ((Int × Int × Int) × Int × Int × List (Int × Int))
  | 0, _, _, _ => none
  | k + 1, p0, p1, p2 =>
    Option.bind (f_spec_ggGroups k (Prod.fst p0, Prod.fst (Prod.snd p0), Prod.snd (Prod.snd p0))) fun z0 => Option.bind (f_spec_faGo k (Prod.fst p0, Prod.fst (Prod.snd p0), Prod.snd (Prod.snd p0)) z0 p1 p2) fun z1 => some ((Prod.fst (Prod.fst z1), Prod.fst (Prod.snd (Prod.fst z1)), Prod.snd (Prod.snd (Prod.fst z1))), Prod.fst (Prod.snd z1), Prod.fst (Prod.snd (Prod.snd z1)), Prod.snd (Prod.snd (Prod.snd z1)))
noncomputable def d_spec_faRun : FnDef := .of q_spec_faRun r_spec_faRun ((Int × Int × Int) × Int × Int × List (Int × Int)) (fun k x => f_spec_faRun k x.1 x.2.1 x.2.2.1) to_spec_faRun of_spec_faRun to_of_spec_faRun
noncomputable def c_spec_faRun : Code := Try.f131.body.getD .skip
noncomputable def x_spec_faRun : Ctx (Tup r_spec_faRun × OutD) := { T := T, G := [(185, d_spec_ggGroups.E), (186, d_spec_faGo.E)], mvs := [], no := 0, n := 16, res := resOf T q_spec_faRun r_spec_faRun Try.f131.results.toList, loops := [], regs := [], conds := [] }
theorem g_spec_faRun (k : Nat) : EnvOK Try.prog k x_spec_faRun.G := (EnvOK.cons (s_spec_ggGroups k) (EnvOK.cons (s_spec_faGo k) (EnvOK.nil mixed)))
theorem h_spec_faRun (k : Nat) (x : Tup d_spec_faRun.ps) : d_spec_faRun.f (k + 1) x = fnK d_spec_faRun x_spec_faRun c_spec_faRun k x := by kernel_rfl
theorem z_spec_faRun (x : Tup d_spec_faRun.ps) : d_spec_faRun.f 0 x = none := by kernel_rfl
theorem l_spec_faRun (k : Nat) : LOK Try.prog x_spec_faRun k c_spec_faRun := LOK.by [] (by kernel_rfl) AllOK.nil
theorem s_spec_faRun (k : Nat) : SoundAt Try.prog k 131 d_spec_faRun.E := @fn_all Try.prog d_spec_faRun x_spec_faRun 131 Try.f131 c_spec_faRun (by kernel_rfl) (by kernel_rfl) (by kernel_rfl) Try.func131 (by kernel_rfl) (by kernel_rfl) (by kernel_rfl) T_ok g_spec_faRun l_spec_faRun z_spec_faRun h_spec_faRun k
/-! function 134 -/
noncomputable def r_spec_flHas : List PK := [PK.mk Ty.bool false none false none]
noncomputable def q_spec_flHas : List PK := [PK.mk (Ty.pair (Ty.int IntKind.i64) (Ty.pair (Ty.int IntKind.i64) (Ty.slice (79 : Nat) (Ty.pair (Ty.int IntKind.i64) (Ty.int IntKind.i64))))) true none false none, PK.mk (Ty.int IntKind.i64) false none false none]
noncomputable def to_spec_flHas (r : Bool) : Tup r_spec_flHas × OutD := ((r, ()), none)
noncomputable def of_spec_flHas : Tup r_spec_flHas × OutD → Option (Bool)
  | (a, none) => some (a.1)
  | _ => none
theorem to_of_spec_flHas : ∀ b r, of_spec_flHas b = some r → to_spec_flHas r = b := by
  rintro ⟨a, o⟩ r h
  cases o with
  | none => injection h with h; subst h; rfl
  | some _ => cases h
noncomputable def f_spec_flHas : Nat → Int × Int × List (Int × Int) → Int → Option Bool
  | 0, _, _ => none
  | k + 1, p0, p1 =>
    Option.bind (f_spec_boGood k (Prod.fst p0, Prod.fst (Prod.snd p0), Prod.snd (Prod.snd p0))) fun z0 => if z0 = true then Option.bind (f_spec_l1In k p1 (0 : Int) (wrap64 (Prod.fst (Prod.snd p0) - (1 : Int)))) fun z1 => some z1 else some false
noncomputable def d_spec_flHas : FnDef := .of q_spec_flHas r_spec_flHas (Bool) (fun k x => f_spec_flHas k x.1 x.2.1) to_spec_flHas of_spec_flHas to_of_spec_flHas
noncomputable def c_spec_flHas : Code := Try.f134.body.getD .skip
noncomputable def x_spec_flHas : Ctx (Tup r_spec_flHas × OutD) := { T := T, G := [(133, d_spec_boGood.E), (96, d_spec_l1In.E)], mvs := [], no := 0, n := 14, res := resOf T q_spec_flHas r_spec_flHas Try.f134.results.toList, loops := [], regs := [], conds := [] }
theorem g_spec_flHas (k : Nat) : EnvOK Try.prog k x_spec_flHas.G := (EnvOK.cons (s_spec_boGood k) (EnvOK.cons (s_spec_l1In k) (EnvOK.nil mixed)))
theorem h_spec_flHas (k : Nat) (x : Tup d_spec_flHas.ps) : d_spec_flHas.f (k + 1) x = fnK d_spec_flHas x_spec_flHas c_spec_flHas k x := by kernel_rfl
theorem z_spec_flHas (x : Tup d_spec_flHas.ps) : d_spec_flHas.f 0 x = none := by kernel_rfl
theorem l_spec_flHas (k : Nat) : LOK Try.prog x_spec_flHas k c_spec_flHas := LOK.by [] (by kernel_rfl) AllOK.nil
theorem s_spec_flHas (k : Nat) : SoundAt Try.prog k 134 d_spec_flHas.E := @fn_all Try.prog d_spec_flHas x_spec_flHas 134 Try.f134 c_spec_flHas (by kernel_rfl) (by kernel_rfl) (by kernel_rfl) Try.func134 (by kernel_rfl) (by kernel_rfl) (by kernel_rfl) T_ok g_spec_flHas l_spec_flHas z_spec_flHas h_spec_flHas k
/-! function 135 -/
noncomputable def r_spec_flRun : List PK := [PK.mk (Ty.pair (Ty.int IntKind.i64) (Ty.pair (Ty.int IntKind.i64) (Ty.int IntKind.i64))) true none false none, PK.mk (Ty.pair (Ty.int IntKind.i64) (Ty.pair (Ty.int IntKind.i64) (Ty.slice (79 : Nat) (Ty.pair (Ty.int IntKind.i64) (Ty.int IntKind.i64))))) true none false none]
noncomputable def q_spec_flRun : List PK := [PK.mk (Ty.pair (Ty.int IntKind.i64) (Ty.pair (Ty.int IntKind.i64) (Ty.slice (79 : Nat) (Ty.pair (Ty.int IntKind.i64) (Ty.int IntKind.i64))))) true none false none, PK.mk (Ty.int IntKind.i64) false none false none]
noncomputable def to_spec_flRun (r : (Int × Int × Int) × Int × Int × List (Int × Int)) : Tup r_spec_flRun × OutD := ((r.1, r.2, ()), none)
noncomputable def of_spec_flRun : Tup r_spec_flRun × OutD → Option ((Int × Int × Int) × Int × Int × List (Int × Int))
  | (a, none) => some (a.1, a.2.1)
  | _ => none
theorem to_of_spec_flRun : ∀ b r, of_spec_flRun b = some r → to_spec_flRun r = b := by
  rintro ⟨a, o⟩ r h
  cases o with
  | none => injection h with h; subst h; rfl
  | some _ => cases h
noncomputable def f_spec_flRun_g1 : Nat → Int → Int → List (Int × Int) → Int → Int → Int → Int → Int → List (Int × Int) → Int → Option (Int × Int × Int × Int × Int × List (Int × Int) × Int × Int × Int × Int × Int × List (Int × Int)) := fun k b1_0 b1_1 b1_2 b2_0 b2_1 b2_2 b3_0 b3_1 o4 v1 =>
    Option.bind (f_spec_ggGroups k (b1_0, b1_1, b1_2)) fun z0 => Option.bind (f_spec_flGo k (b1_0, b1_1, b1_2) z0 v1) fun z1 => some (b2_0, b2_1, b2_2, b3_0, b3_1, o4, Prod.fst (Prod.fst z1), Prod.fst (Prod.snd (Prod.fst z1)), Prod.snd (Prod.snd (Prod.fst z1)), Prod.fst (Prod.fst (Prod.snd z1)), Prod.fst (Prod.snd (Prod.fst (Prod.snd z1))), Prod.snd (Prod.snd (Prod.fst (Prod.snd z1))))
noncomputable def f_spec_flRun_g1A : Nat → Int → Int → List (Int × Int) → Int → Int → Int → Int → Int → List (Int × Int) → Int → Option (List (Int × Int × Int × Int × Int × List (Int × Int) × Int × Int × Int × Int × Int × List (Int × Int))) := fun k b1_0 b1_1 b1_2 b2_0 b2_1 b2_2 b3_0 b3_1 o4 v1 =>
    joinL (Option.bind (f_spec_ggGroups k (b1_0, b1_1, b1_2)) fun z2 => joinL (Option.bind (f_spec_flGo k (b1_0, b1_1, b1_2) z2 v1) fun z3 => joinL (some [(b2_0, b2_1, b2_2, b3_0, b3_1, o4, Prod.fst (Prod.fst z3), Prod.fst (Prod.snd (Prod.fst z3)), Prod.snd (Prod.snd (Prod.fst z3)), Prod.fst (Prod.fst (Prod.snd z3)), Prod.fst (Prod.snd (Prod.fst (Prod.snd z3))), Prod.snd (Prod.snd (Prod.fst (Prod.snd z3))))]) (some [(b2_0, b2_1, b2_2, b3_0, b3_1, o4, Prod.fst (Prod.fst z3), Prod.fst (Prod.snd (Prod.fst z3)), Prod.snd (Prod.snd (Prod.fst z3)), Prod.fst (Prod.fst (Prod.snd z3)), Prod.fst (Prod.snd (Prod.fst (Prod.snd z3))), Prod.snd (Prod.snd (Prod.fst (Prod.snd z3))))])) (joinL (joinL (Option.bind (f_spec_flGo k (b1_0, b1_1, b1_2) z2 v1) fun z4 => some [(b2_0, b2_1, b2_2, b3_0, b3_1, o4, Prod.fst (Prod.fst z4), Prod.fst (Prod.snd (Prod.fst z4)), Prod.snd (Prod.snd (Prod.fst z4)), Prod.fst (Prod.fst (Prod.snd z4)), Prod.fst (Prod.snd (Prod.fst (Prod.snd z4))), Prod.snd (Prod.snd (Prod.fst (Prod.snd z4))))]) (Option.bind (f_spec_flGo k (b1_0, b1_1, b1_2) z2 v1) fun z5 => some [(b2_0, b2_1, b2_2, b3_0, b3_1, o4, Prod.fst (Prod.fst z5), Prod.fst (Prod.snd (Prod.fst z5)), Prod.snd (Prod.snd (Prod.fst z5)), Prod.fst (Prod.fst (Prod.snd z5)), Prod.fst (Prod.snd (Prod.fst (Prod.snd z5))), Prod.snd (Prod.snd (Prod.fst (Prod.snd z5))))])) (joinL (Option.bind (f_spec_flGo k (b1_0, b1_1, b1_2) z2 v1) fun z6 => some [(b2_0, b2_1, b2_2, b3_0, b3_1, o4, Prod.fst (Prod.fst z6), Prod.fst (Prod.snd (Prod.fst z6)), Prod.snd (Prod.snd (Prod.fst z6)), Prod.fst (Prod.fst (Prod.snd z6)), Prod.fst (Prod.snd (Prod.fst (Prod.snd z6))), Prod.snd (Prod.snd (Prod.fst (Prod.snd z6))))]) (Option.bind (f_spec_flGo k (b1_0, b1_1, b1_2) z2 v1) fun z7 => some [(b2_0, b2_1, b2_2, b3_0, b3_1, o4, Prod.fst (Prod.fst z7), Prod.fst (Prod.snd (Prod.fst z7)), Prod.snd (Prod.snd (Prod.fst z7)), Prod.fst (Prod.fst (Prod.snd z7)), Prod.fst (Prod.snd (Prod.fst (Prod.snd z7))), Prod.snd (Prod.snd (Prod.fst (Prod.snd z7))))])))) (joinL (joinL (Option.bind (f_spec_ggGroups k (b1_0, b1_1, b1_2)) fun z8 => joinL (Option.bind (f_spec_flGo k (b1_0, b1_1, b1_2) z8 v1) fun z9 => some [(b2_0, b2_1, b2_2, b3_0, b3_1, o4, Prod.fst (Prod.fst z9), Prod.fst (Prod.snd (Prod.fst z9)), Prod.snd (Prod.snd (Prod.fst z9)), Prod.fst (Prod.fst (Prod.snd z9)), Prod.fst (Prod.snd (Prod.fst (Prod.snd z9))), Prod.snd (Prod.snd (Prod.fst (Prod.snd z9))))]) (Option.bind (f_spec_flGo k (b1_0, b1_1, b1_2) z8 v1) fun z10 => some [(b2_0, b2_1, b2_2, b3_0, b3_1, o4, Prod.fst (Prod.fst z10), Prod.fst (Prod.snd (Prod.fst z10)), Prod.snd (Prod.snd (Prod.fst z10)), Prod.fst (Prod.fst (Prod.snd z10)), Prod.fst (Prod.snd (Prod.fst (Prod.snd z10))), Prod.snd (Prod.snd (Prod.fst (Prod.snd z10))))])) (Option.bind (f_spec_ggGroups k (b1_0, b1_1, b1_2)) fun z11 => Option.bind (f_spec_flGo k (b1_0, b1_1, b1_2) z11 v1) fun z12 => some [(b2_0, b2_1, b2_2, b3_0, b3_1, o4, Prod.fst (Prod.fst z12), Prod.fst (Prod.snd (Prod.fst z12)), Prod.snd (Prod.snd (Prod.fst z12)), Prod.fst (Prod.fst (Prod.snd z12)), Prod.fst (Prod.snd (Prod.fst (Prod.snd z12))), Prod.snd (Prod.snd (Prod.fst (Prod.snd z12))))])) (joinL (Option.bind (f_spec_ggGroups k (b1_0, b1_1, b1_2)) fun z13 => joinL (Option.bind (f_spec_flGo k (b1_0, b1_1, b1_2) z13 v1) fun z14 => some [(b2_0, b2_1, b2_2, b3_0, b3_1, o4, Prod.fst (Prod.fst z14), Prod.fst (Prod.snd (Prod.fst z14)), Prod.snd (Prod.snd (Prod.fst z14)), Prod.fst (Prod.fst (Prod.snd z14)), Prod.fst (Prod.snd (Prod.fst (Prod.snd z14))), Prod.snd (Prod.snd (Prod.fst (Prod.snd z14))))]) (Option.bind (f_spec_flGo k (b1_0, b1_1, b1_2) z13 v1) fun z15 => some [(b2_0, b2_1, b2_2, b3_0, b3_1, o4, Prod.fst (Prod.fst z15), Prod.fst (Prod.snd (Prod.fst z15)), Prod.snd (Prod.snd (Prod.fst z15)), Prod.fst (Prod.fst (Prod.snd z15)), Prod.fst (Prod.snd (Prod.fst (Prod.snd z15))), Prod.snd (Prod.snd (Prod.fst (Prod.snd z15))))])) (Option.bind (f_spec_ggGroups k (b1_0, b1_1, b1_2)) fun z16 => Option.bind (f_spec_flGo k (b1_0, b1_1, b1_2) z16 v1) fun z17 => some [(b2_0, b2_1, b2_2, b3_0, b3_1, o4, Prod.fst (Prod.fst z17), Prod.fst (Prod.snd (Prod.fst z17)), Prod.snd (Prod.snd (Prod.fst z17)), Prod.fst (Prod.fst (Prod.snd z17)), Prod.fst (Prod.snd (Prod.fst (Prod.snd z17))), Prod.snd (Prod.snd (Prod.fst (Prod.snd z17))))])))
noncomputable def f_spec_flRun_g1i : Spec := Spec.mk [OSh.ro, OSh.box (53 : Nat) [Sh.int IntKind.i64, Sh.int IntKind.i64, Sh.snap (0 : Nat) (Ty.pair (Ty.int IntKind.i64) (Ty.int IntKind.i64))], OSh.box (63 : Nat) [Sh.int IntKind.i64, Sh.int IntKind.i64, Sh.int IntKind.i64], OSh.box (53 : Nat) [Sh.int IntKind.i64, Sh.int IntKind.i64, Sh.sl (4 : Nat)], OSh.row true (79 : Nat) (Ty.pair (Ty.int IntKind.i64) (Ty.int IntKind.i64))] [((1 : Nat), TSh.at (Sh.int IntKind.i64)), ((2 : Nat), TSh.at (Sh.ptr (1 : Nat) (0 : Nat))), ((4 : Nat), TSh.at (Sh.ptr (2 : Nat) (0 : Nat))), ((5 : Nat), TSh.at (Sh.ptr (3 : Nat) (0 : Nat)))]
noncomputable def f_spec_flRun_g1o : Spec := Spec.mk [OSh.ro, OSh.box (63 : Nat) [Sh.int IntKind.i64, Sh.int IntKind.i64, Sh.int IntKind.i64], OSh.box (53 : Nat) [Sh.int IntKind.i64, Sh.int IntKind.i64, Sh.sl (3 : Nat)], OSh.row true (79 : Nat) (Ty.pair (Ty.int IntKind.i64) (Ty.int IntKind.i64)), OSh.box (63 : Nat) [Sh.int IntKind.i64, Sh.int IntKind.i64, Sh.int IntKind.i64], OSh.box (53 : Nat) [Sh.int IntKind.i64, Sh.int IntKind.i64, Sh.sl (6 : Nat)], OSh.row true (79 : Nat) (Ty.pair (Ty.int IntKind.i64) (Ty.int IntKind.i64))] [((4 : Nat), TSh.at (Sh.ptr (1 : Nat) (0 : Nat))), ((5 : Nat), TSh.at (Sh.ptr (2 : Nat) (0 : Nat))), ((6 : Nat), TSh.at (Sh.ptr (4 : Nat) (0 : Nat))), ((7 : Nat), TSh.at (Sh.ptr (5 : Nat) (0 : Nat)))]
noncomputable def f_spec_flRun_g1D : LoopDef (Tup r_spec_flRun × OutD) := .plain f_spec_flRun_g1i f_spec_flRun_g1o (Int × Int × Int × Int × Int × List (Int × Int) × Int × Int × Int × Int × Int × List (Int × Int)) (fun k x => f_spec_flRun_g1 k x.1.2.1.1 x.1.2.1.2.1 x.1.2.1.2.2.1 x.1.2.2.1.1 x.1.2.2.1.2.1 x.1.2.2.1.2.2.1 x.1.2.2.2.1.1 x.1.2.2.2.1.2.1 x.1.2.2.2.2.1 x.2.1) (fun z => (((), (z.1, z.2.1, z.2.2.1, ()), (z.2.2.2.1, z.2.2.2.2.1, (), ()), z.2.2.2.2.2.1, (z.2.2.2.2.2.2.1, z.2.2.2.2.2.2.2.1, z.2.2.2.2.2.2.2.2.1, ()), (z.2.2.2.2.2.2.2.2.2.1, z.2.2.2.2.2.2.2.2.2.2.1, (), ()), z.2.2.2.2.2.2.2.2.2.2.2, ()), ((), (), (), (), ()))) (fun y => (y.1.2.1.1, y.1.2.1.2.1, y.1.2.1.2.2.1, y.1.2.2.1.1, y.1.2.2.1.2.1, y.1.2.2.2.1, y.1.2.2.2.2.1.1, y.1.2.2.2.2.1.2.1, y.1.2.2.2.2.1.2.2.1, y.1.2.2.2.2.2.1.1, y.1.2.2.2.2.2.1.2.1, y.1.2.2.2.2.2.2.1)) (fun _ => rfl)
theorem f_spec_flRun_g1j (k : Nat) (b1_0 : Int) (b1_1 : Int) (b1_2 : List (Int × Int)) (b2_0 : Int) (b2_1 : Int) (b2_2 : Int) (b3_0 : Int) (b3_1 : Int) (o4 : List (Int × Int)) (v1 : Int) : f_spec_flRun_g1A k b1_0 b1_1 b1_2 b2_0 b2_1 b2_2 b3_0 b3_1 o4 v1 = repl 12 (f_spec_flRun_g1 k b1_0 b1_1 b1_2 b2_0 b2_1 b2_2 b3_0 b3_1 o4 v1) := by
  first
  | (simp only [f_spec_flRun_g1A, f_spec_flRun_g1, repl_some, repl_ite, repl_ite0, repl_ite1, repl_bind, joinL_repl, if_true]; done)
  | (simp only [f_spec_flRun_g1A, f_spec_flRun_g1, repl_some, repl_ite, repl_ite0, repl_ite1, repl_bind, joinL_repl, if_true]; simp only [joinL_grdl, joinL_grdr, repl_grd, joinL_repl]; simp only [grd_and]; exact grd_congr ⟨fun h => by simp only [h, and_self], fun h => by simp only [h, and_self]⟩)
noncomputable def f_spec_flRun_g2 : Nat → Int → Int → Int → Int → Int → List (Int × Int) → Int → Int → Int → Int → Int → List (Int × Int) → Option (Int × Int × Int × Int × Int × List (Int × Int)) := fun k b1_0 b1_1 b1_2 b2_0 b2_1 o3 b4_0 b4_1 b4_2 b5_0 b5_1 o6 =>
    some (b4_0, b4_1, b4_2, b5_0, b5_1, o6)
noncomputable def f_spec_flRun_g2A : Nat → Int → Int → Int → Int → Int → List (Int × Int) → Int → Int → Int → Int → Int → List (Int × Int) → Option (List (Int × Int × Int × Int × Int × List (Int × Int))) := fun k b1_0 b1_1 b1_2 b2_0 b2_1 o3 b4_0 b4_1 b4_2 b5_0 b5_1 o6 =>
    joinL (some [(b4_0, b4_1, b4_2, b5_0, b5_1, o6)]) (some [(b4_0, b4_1, b4_2, b5_0, b5_1, o6)])
noncomputable def f_spec_flRun_g2i : Spec := Spec.mk [OSh.ro, OSh.box (63 : Nat) [Sh.int IntKind.i64, Sh.int IntKind.i64, Sh.int IntKind.i64], OSh.box (53 : Nat) [Sh.int IntKind.i64, Sh.int IntKind.i64, Sh.sl (3 : Nat)], OSh.row true (79 : Nat) (Ty.pair (Ty.int IntKind.i64) (Ty.int IntKind.i64)), OSh.box (63 : Nat) [Sh.int IntKind.i64, Sh.int IntKind.i64, Sh.int IntKind.i64], OSh.box (53 : Nat) [Sh.int IntKind.i64, Sh.int IntKind.i64, Sh.sl (6 : Nat)], OSh.row true (79 : Nat) (Ty.pair (Ty.int IntKind.i64) (Ty.int IntKind.i64))] [((4 : Nat), TSh.at (Sh.ptr (1 : Nat) (0 : Nat))), ((5 : Nat), TSh.at (Sh.ptr (2 : Nat) (0 : Nat))), ((6 : Nat), TSh.at (Sh.ptr (4 : Nat) (0 : Nat))), ((7 : Nat), TSh.at (Sh.ptr (5 : Nat) (0 : Nat)))]
noncomputable def f_spec_flRun_g2o : Spec := Spec.mk [OSh.ro, OSh.box (63 : Nat) [Sh.int IntKind.i64, Sh.int IntKind.i64, Sh.int IntKind.i64], OSh.box (53 : Nat) [Sh.int IntKind.i64, Sh.int IntKind.i64, Sh.sl (3 : Nat)], OSh.row true (79 : Nat) (Ty.pair (Ty.int IntKind.i64) (Ty.int IntKind.i64))] [((4 : Nat), TSh.at (Sh.ptr (1 : Nat) (0 : Nat))), ((5 : Nat), TSh.at (Sh.ptr (2 : Nat) (0 : Nat)))]
noncomputable def f_spec_flRun_g2D : LoopDef (Tup r_spec_flRun × OutD) := .plain f_spec_flRun_g2i f_spec_flRun_g2o (Int × Int × Int × Int × Int × List (Int × Int)) (fun k x => f_spec_flRun_g2 k x.1.2.1.1 x.1.2.1.2.1 x.1.2.1.2.2.1 x.1.2.2.1.1 x.1.2.2.1.2.1 x.1.2.2.2.1 x.1.2.2.2.2.1.1 x.1.2.2.2.2.1.2.1 x.1.2.2.2.2.1.2.2.1 x.1.2.2.2.2.2.1.1 x.1.2.2.2.2.2.1.2.1 x.1.2.2.2.2.2.2.1) (fun z => (((), (z.1, z.2.1, z.2.2.1, ()), (z.2.2.2.1, z.2.2.2.2.1, (), ()), z.2.2.2.2.2, ()), ((), (), ()))) (fun y => (y.1.2.1.1, y.1.2.1.2.1, y.1.2.1.2.2.1, y.1.2.2.1.1, y.1.2.2.1.2.1, y.1.2.2.2.1)) (fun _ => rfl)
theorem f_spec_flRun_g2j (k : Nat) (b1_0 : Int) (b1_1 : Int) (b1_2 : Int) (b2_0 : Int) (b2_1 : Int) (o3 : List (Int × Int)) (b4_0 : Int) (b4_1 : Int) (b4_2 : Int) (b5_0 : Int) (b5_1 : Int) (o6 : List (Int × Int)) : f_spec_flRun_g2A k b1_0 b1_1 b1_2 b2_0 b2_1 o3 b4_0 b4_1 b4_2 b5_0 b5_1 o6 = repl 2 (f_spec_flRun_g2 k b1_0 b1_1 b1_2 b2_0 b2_1 o3 b4_0 b4_1 b4_2 b5_0 b5_1 o6) := by
  first
  | (simp only [f_spec_flRun_g2A, f_spec_flRun_g2, repl_some, repl_ite, repl_ite0, repl_ite1, repl_bind, joinL_repl, if_true]; done)
  | (simp only [f_spec_flRun_g2A, f_spec_flRun_g2, repl_some, repl_ite, repl_ite0, repl_ite1, repl_bind, joinL_repl, if_true]; simp only [joinL_grdl, joinL_grdr, repl_grd, joinL_repl]; simp only [grd_and]; exact grd_congr ⟨fun h => by simp only [h, and_self], fun h => by simp only [h, and_self]⟩)
noncomputable def f_spec_flRun : Nat → Int × Int × List (Int × Int) → Int → Option ((Int × Int × Int) × Int × Int × List (Int × Int))
  | 0, _, _ => none
  | k + 1, p0, p1 =>
    Option.bind (f_spec_flRun_g1 k (Prod.fst p0) (Prod.fst (Prod.snd p0)) (Prod.snd (Prod.snd p0)) (0 : Int) (0 : Int) (0 : Int) (0 : Int) (0 : Int) [] p1) fun z18 => Option.bind (f_spec_flRun_g2 k (Prod.fst z18) (Prod.fst (Prod.snd z18)) (Prod.fst (Prod.snd (Prod.snd z18))) (Prod.fst (Prod.snd (Prod.snd (Prod.snd z18)))) (Prod.fst (Prod.snd (Prod.snd (Prod.snd (Prod.snd z18))))) (Prod.fst (Prod.snd (Prod.snd (Prod.snd (Prod.snd (Prod.snd z18)))))) (Prod.fst (Prod.snd (Prod.snd (Prod.snd (Prod.snd (Prod.snd (Prod.snd z18))))))) (Prod.fst (Prod.snd (Prod.snd (Prod.snd (Prod.snd (Prod.snd (Prod.snd (Prod.snd z18)))))))) (Prod.fst (Prod.snd (Prod.snd (Prod.snd (Prod.snd (Prod.snd (Prod.snd (Prod.snd (Prod.snd z18))))))))) (Prod.fst (Prod.snd (Prod.snd (Prod.snd (Prod.snd (Prod.snd (Prod.snd (Prod.snd (Prod.snd (Prod.snd z18)))))))))) (Prod.fst (Prod.snd (Prod.snd (Prod.snd (Prod.snd (Prod.snd (Prod.snd (Prod.snd (Prod.snd (Prod.snd (Prod.snd z18))))))))))) (Prod.snd (Prod.snd (Prod.snd (Prod.snd (Prod.snd (Prod.snd (Prod.snd (Prod.snd (Prod.snd (Prod.snd (Prod.snd z18)))))))))))) fun z19 => some ((Prod.fst z19, Prod.fst (Prod.snd z19), Prod.fst (Prod.snd (Prod.snd z19))), Prod.fst (Prod.snd (Prod.snd (Prod.snd z19))), Prod.fst (Prod.snd (Prod.snd (Prod.snd (Prod.snd z19)))), Prod.snd (Prod.snd (Prod.snd (Prod.snd (Prod.snd z19)))))
noncomputable def d_spec_flRun : FnDef := .of q_spec_flRun r_spec_flRun ((Int × Int × Int) × Int × Int × List (Int × Int)) (fun k x => f_spec_flRun k x.1 x.2.1) to_spec_flRun of_spec_flRun to_of_spec_flRun
noncomputable def c_spec_flRun : Code := Try.f135.body.getD .skip
noncomputable def x_spec_flRun : Ctx (Tup r_spec_flRun × OutD) := { T := T, G := [(185, d_spec_ggGroups.E), (194, d_spec_flGo.E)], mvs := [], no := 0, n := 20, res := resOf T q_spec_flRun r_spec_flRun Try.f135.results.toList, loops := [], regs := [(1, f_spec_flRun_g1D.E), (2, f_spec_flRun_g2D.E)], conds := [] }
theorem g_spec_flRun (k : Nat) : EnvOK Try.prog k x_spec_flRun.G := (EnvOK.cons (s_spec_ggGroups k) (EnvOK.cons (s_spec_flGo k) (EnvOK.nil mixed)))
noncomputable def f_spec_flRun_g1O : Array Oper := (findReg 1 c_spec_flRun).getD #[]
theorem f_spec_flRun_g1e (k : Nat) (x : f_spec_flRun_g1i.D) : execD x_spec_flRun.T x_spec_flRun.G x_spec_flRun.mvs k f_spec_flRun_g1O (f_spec_flRun_g1D.inp.st x_spec_flRun.n x) (outK x_spec_flRun f_spec_flRun_g1D) = f_spec_flRun_g1A k x.1.2.1.1 x.1.2.1.2.1 x.1.2.1.2.2.1 x.1.2.2.1.1 x.1.2.2.1.2.1 x.1.2.2.1.2.2.1 x.1.2.2.2.1.1 x.1.2.2.2.1.2.1 x.1.2.2.2.2.1 x.2.1 := by kernel_rfl
theorem f_spec_flRun_g1ok (k : Nat) : EOK Try.prog x_spec_flRun k f_spec_flRun_g1D.E (.region 1 f_spec_flRun_g1O true) := reg_ok (D := f_spec_flRun_g1D) (m := 12) T_ok (g_spec_flRun k) (fun x => (f_spec_flRun_g1e k x).trans (f_spec_flRun_g1j k x.1.2.1.1 x.1.2.1.2.1 x.1.2.1.2.2.1 x.1.2.2.1.1 x.1.2.2.1.2.1 x.1.2.2.1.2.2.1 x.1.2.2.2.1.1 x.1.2.2.2.1.2.1 x.1.2.2.2.2.1 x.2.1))
noncomputable def f_spec_flRun_g2O : Array Oper := (findReg 2 c_spec_flRun).getD #[]
theorem f_spec_flRun_g2e (k : Nat) (x : f_spec_flRun_g2i.D) : execD x_spec_flRun.T x_spec_flRun.G x_spec_flRun.mvs k f_spec_flRun_g2O (f_spec_flRun_g2D.inp.st x_spec_flRun.n x) (outK x_spec_flRun f_spec_flRun_g2D) = f_spec_flRun_g2A k x.1.2.1.1 x.1.2.1.2.1 x.1.2.1.2.2.1 x.1.2.2.1.1 x.1.2.2.1.2.1 x.1.2.2.2.1 x.1.2.2.2.2.1.1 x.1.2.2.2.2.1.2.1 x.1.2.2.2.2.1.2.2.1 x.1.2.2.2.2.2.1.1 x.1.2.2.2.2.2.1.2.1 x.1.2.2.2.2.2.2.1 := by kernel_rfl
theorem f_spec_flRun_g2ok (k : Nat) : EOK Try.prog x_spec_flRun k f_spec_flRun_g2D.E (.region 2 f_spec_flRun_g2O true) := reg_ok (D := f_spec_flRun_g2D) (m := 2) T_ok (g_spec_flRun k) (fun x => (f_spec_flRun_g2e k x).trans (f_spec_flRun_g2j k x.1.2.1.1 x.1.2.1.2.1 x.1.2.1.2.2.1 x.1.2.2.1.1 x.1.2.2.1.2.1 x.1.2.2.2.1 x.1.2.2.2.2.1.1 x.1.2.2.2.2.1.2.1 x.1.2.2.2.2.1.2.2.1 x.1.2.2.2.2.2.1.1 x.1.2.2.2.2.2.1.2.1 x.1.2.2.2.2.2.2.1))
theorem h_spec_flRun (k : Nat) (x : Tup d_spec_flRun.ps) : d_spec_flRun.f (k + 1) x = fnK d_spec_flRun x_spec_flRun c_spec_flRun k x := by kernel_rfl
theorem z_spec_flRun (x : Tup d_spec_flRun.ps) : d_spec_flRun.f 0 x = none := by kernel_rfl
theorem l_spec_flRun (k : Nat) : LOK Try.prog x_spec_flRun k c_spec_flRun := LOK.by [(f_spec_flRun_g1D.E, .region 1 f_spec_flRun_g1O true), (f_spec_flRun_g2D.E, .region 2 f_spec_flRun_g2O true)] (by kernel_rfl) (AllOK.cons (f_spec_flRun_g1ok k) (AllOK.cons (f_spec_flRun_g2ok k) AllOK.nil))
theorem s_spec_flRun (k : Nat) : SoundAt Try.prog k 135 d_spec_flRun.E := @fn_all Try.prog d_spec_flRun x_spec_flRun 135 Try.f135 c_spec_flRun (by kernel_rfl) (by kernel_rfl) (by kernel_rfl) Try.func135 (by kernel_rfl) (by kernel_rfl) (by kernel_rfl) T_ok g_spec_flRun l_spec_flRun z_spec_flRun h_spec_flRun k
/-! function 145 -/
/-! function 146 -/
/-! function 147 -/
/-! function 163 -/
/-! function 169 -/
/-! function 180 -/
noncomputable def r_impl_onBoard : List PK := [PK.mk Ty.bool false none false none]
noncomputable def q_impl_onBoard : List PK := [PK.mk (Ty.pair (Ty.int IntKind.i64) (Ty.pair (Ty.int IntKind.i64) (Ty.slice (79 : Nat) (Ty.pair (Ty.int IntKind.i64) (Ty.int IntKind.i64))))) true none false none, PK.mk (Ty.int IntKind.i64) false none false none, PK.mk (Ty.int IntKind.i64) false none false none]
noncomputable def to_impl_onBoard (r : Bool) : Tup r_impl_onBoard × OutD := ((r, ()), none)
noncomputable def of_impl_onBoard : Tup r_impl_onBoard × OutD → Option (Bool)
  | (a, none) => some (a.1)
  | _ => none
theorem to_of_impl_onBoard : ∀ b r, of_impl_onBoard b = some r → to_impl_onBoard r = b := by
  rintro ⟨a, o⟩ r h
  cases o with
  | none => injection h with h; subst h; rfl
  | some _ => cases h
noncomputable def f_impl_onBoard : Nat → Int × Int × List (Int × Int) → Int → Int → Option Bool
  | 0, _, _, _ => none
  | k + 1, p0, p1, p2 =>
    Option.bind (f_impl_IsBoard k (Prod.fst p0, Prod.fst (Prod.snd p0), Prod.snd (Prod.snd p0))) fun z0 => if z0 = true then if decide (p1 ≥ (0 : Int)) = true then if decide (p1 < Prod.fst p0) = true then if decide (p2 ≥ (0 : Int)) = true then some (decide (p2 < Prod.fst (Prod.snd p0))) else some false else some false else some false else some false
noncomputable def d_impl_onBoard : FnDef := .of q_impl_onBoard r_impl_onBoard (Bool) (fun k x => f_impl_onBoard k x.1 x.2.1 x.2.2.1) to_impl_onBoard of_impl_onBoard to_of_impl_onBoard
noncomputable def c_impl_onBoard : Code := Try.f180.body.getD .skip
noncomputable def x_impl_onBoard : Ctx (Tup r_impl_onBoard × OutD) := { T := T, G := [(132, d_impl_IsBoard.E)], mvs := [], no := 0, n := 29, res := resOf T q_impl_onBoard r_impl_onBoard Try.f180.results.toList, loops := [], regs := [], conds := [] }
theorem g_impl_onBoard (k : Nat) : EnvOK Try.prog k x_impl_onBoard.G := (EnvOK.cons (s_impl_IsBoard k) (EnvOK.nil mixed))
theorem h_impl_onBoard (k : Nat) (x : Tup d_impl_onBoard.ps) : d_impl_onBoard.f (k + 1) x = fnK d_impl_onBoard x_impl_onBoard c_impl_onBoard k x := by kernel_rfl
theorem z_impl_onBoard (x : Tup d_impl_onBoard.ps) : d_impl_onBoard.f 0 x = none := by kernel_rfl
theorem l_impl_onBoard (k : Nat) : LOK Try.prog x_impl_onBoard k c_impl_onBoard := LOK.by [] (by kernel_rfl) AllOK.nil
theorem s_impl_onBoard (k : Nat) : SoundAt Try.prog k 180 d_impl_onBoard.E := @fn_all Try.prog d_impl_onBoard x_impl_onBoard 180 Try.f180 c_impl_onBoard (by kernel_rfl) (by kernel_rfl) (by kernel_rfl) Try.func180 (by kernel_rfl) (by kernel_rfl) (by kernel_rfl) T_ok g_impl_onBoard l_impl_onBoard z_impl_onBoard h_impl_onBoard k
/-! function 195 -/
/-! function 197 -/
noncomputable def r_spec_l1Cur_boardOf : List PK := [PK.mk (Ty.pair (Ty.int IntKind.i64) (Ty.pair (Ty.int IntKind.i64) (Ty.slice (79 : Nat) (Ty.pair (Ty.int IntKind.i64) (Ty.int IntKind.i64))))) true none false none]
noncomputable def q_spec_l1Cur_boardOf : List PK := [PK.mk (Ty.pair (Ty.slice (5 : Nat) (Ty.int IntKind.u8)) (Ty.pair (Ty.int IntKind.i64) (Ty.int IntKind.u64))) false none false (some (114 : Nat)), PK.mk (Ty.int IntKind.i64) false none false none, PK.mk (Ty.int IntKind.i64) false none false none]
noncomputable def to_spec_l1Cur_boardOf (r : (Int × Int × List (Int × Int)) × Int × Int) : Tup r_spec_l1Cur_boardOf × OutD := ((r.1, ()), some ⟨Ty.pair (Ty.slice (5 : Nat) (Ty.int IntKind.u8)) (Ty.pair (Ty.int IntKind.i64) (Ty.int IntKind.u64)), [([], r.2)]⟩)
noncomputable def of_spec_l1Cur_boardOf : Tup r_spec_l1Cur_boardOf × OutD → Option ((Int × Int × List (Int × Int)) × Int × Int)
  | (a, some ⟨u, ys⟩) => if h : u = Ty.pair (Ty.slice (5 : Nat) (Ty.int IntKind.u8)) (Ty.pair (Ty.int IntKind.i64) (Ty.int IntKind.u64)) then (match castU h ys with
    | [([], y)] => some (a.1, y)
    | _ => none) else none
  | _ => none
theorem to_of_spec_l1Cur_boardOf : ∀ b r, of_spec_l1Cur_boardOf b = some r → to_spec_l1Cur_boardOf r = b := by
  rintro ⟨a, o⟩ r h
  cases o with
  | none => cases h
  | some s =>
    obtain ⟨u, ys⟩ := s
    simp only [of_spec_l1Cur_boardOf] at h
    split at h
    · rename_i hu
      subst hu
      match ys, h with
      | [], h => cases (show (none : Option _) = some r from h)
      | [([], y)], h => injection (show some _ = some r from h) with h; subst h; rfl
      | [(_ :: _, y)], h => cases (show (none : Option _) = some r from h)
      | (h1, _) :: _ :: _, h => cases h1 <;> cases (show (none : Option _) = some r from h)
    · cases h
noncomputable def f_spec_l1Cur_boardOf_0 : Nat → Int → Int → List Int → Int → Int → List (Int × Int) → Int → Int → List (Int × Int) → Int → Int → Int → Option (Int × Int × List Int × Int × Int × List (Int × Int) × Int × Int × List (Int × Int))
  | 0, _, _, _, _, _, _, _, _, _, _, _, _ => none
  | k + 1, b1_1, b1_2, o2, b3_0, b3_1, o4, b5_0, b5_1, o6, v1, v2, v8 =>
    if decide ((↑(List.length o6) : Int) < wrap64 (v1 * v2)) = true then Option.bind (f_spec_l1Cur_one k (o2, b1_1, b1_2) v8) fun z1 => if Prod.fst z1 = true then Option.bind (f_spec_l1Cur_cell k (o2, Prod.fst (Prod.snd z1), Prod.snd (Prod.snd z1))) fun z2 => if decide (Prod.fst (Prod.fst z2) = (5 : Int)) = true then Option.bind (f_spec_l1Cur_one k (o2, Prod.fst (Prod.snd z2), Prod.snd (Prod.snd z2)) (3 : Int)) fun z3 => if (!Prod.fst z3) = true then Option.bind (f_spec_l1Cur_pick k (o2, Prod.fst (Prod.snd z3), Prod.snd (Prod.snd z3)) (2 : Int)) fun z4 => if List.length o6 + List.length [((3 : Int), Prod.fst z4)] ≤ (140737488355328 / 16 : Nat) then f_spec_l1Cur_boardOf_0 k (Prod.fst (Prod.snd z4)) (Prod.snd (Prod.snd z4)) o2 b3_0 b3_1 o4 b5_0 b5_1 (o6 ++ [((3 : Int), Prod.fst z4)]) v1 v2 v8 else none else if List.length o6 + List.length [(Prod.fst (Prod.fst z2), Prod.snd (Prod.fst z2))] ≤ (140737488355328 / 16 : Nat) then f_spec_l1Cur_boardOf_0 k (Prod.fst (Prod.snd z3)) (Prod.snd (Prod.snd z3)) o2 b3_0 b3_1 o4 b5_0 b5_1 (o6 ++ [(Prod.fst (Prod.fst z2), Prod.snd (Prod.fst z2))]) v1 v2 v8 else none else if List.length o6 + List.length [(Prod.fst (Prod.fst z2), Prod.snd (Prod.fst z2))] ≤ (140737488355328 / 16 : Nat) then f_spec_l1Cur_boardOf_0 k (Prod.fst (Prod.snd z2)) (Prod.snd (Prod.snd z2)) o2 b3_0 b3_1 o4 b5_0 b5_1 (o6 ++ [(Prod.fst (Prod.fst z2), Prod.snd (Prod.fst z2))]) v1 v2 v8 else none else Option.bind (f_spec_l1Cur_one k (o2, Prod.fst (Prod.snd z1), Prod.snd (Prod.snd z1)) (3 : Int)) fun z5 => if Prod.fst z5 = true then Option.bind (f_spec_l1Cur_cell k (o2, Prod.fst (Prod.snd z5), Prod.snd (Prod.snd z5))) fun z6 => if decide (Prod.fst (Prod.fst z6) = (5 : Int)) = true then Option.bind (f_spec_l1Cur_one k (o2, Prod.fst (Prod.snd z6), Prod.snd (Prod.snd z6)) (3 : Int)) fun z7 => if (!Prod.fst z7) = true then Option.bind (f_spec_l1Cur_pick k (o2, Prod.fst (Prod.snd z7), Prod.snd (Prod.snd z7)) (2 : Int)) fun z8 => if List.length o6 + List.length [((3 : Int), Prod.fst z8)] ≤ (140737488355328 / 16 : Nat) then f_spec_l1Cur_boardOf_0 k (Prod.fst (Prod.snd z8)) (Prod.snd (Prod.snd z8)) o2 b3_0 b3_1 o4 b5_0 b5_1 (o6 ++ [((3 : Int), Prod.fst z8)]) v1 v2 v8 else none else if List.length o6 + List.length [(Prod.fst (Prod.fst z6), Prod.snd (Prod.fst z6))] ≤ (140737488355328 / 16 : Nat) then f_spec_l1Cur_boardOf_0 k (Prod.fst (Prod.snd z7)) (Prod.snd (Prod.snd z7)) o2 b3_0 b3_1 o4 b5_0 b5_1 (o6 ++ [(Prod.fst (Prod.fst z6), Prod.snd (Prod.fst z6))]) v1 v2 v8 else none else if List.length o6 + List.length [(Prod.fst (Prod.fst z6), Prod.snd (Prod.fst z6))] ≤ (140737488355328 / 16 : Nat) then f_spec_l1Cur_boardOf_0 k (Prod.fst (Prod.snd z6)) (Prod.snd (Prod.snd z6)) o2 b3_0 b3_1 o4 b5_0 b5_1 (o6 ++ [(Prod.fst (Prod.fst z6), Prod.snd (Prod.fst z6))]) v1 v2 v8 else none else if List.length o6 + List.length [((0 : Int), (0 : Int))] ≤ (140737488355328 / 16 : Nat) then f_spec_l1Cur_boardOf_0 k (Prod.fst (Prod.snd z5)) (Prod.snd (Prod.snd z5)) o2 b3_0 b3_1 o4 b5_0 b5_1 (o6 ++ [((0 : Int), (0 : Int))]) v1 v2 v8 else none else some (b1_1, b1_2, o2, b3_0, b3_1, o4, b5_0, b5_1, o6)
noncomputable def f_spec_l1Cur_boardOf_0i : Spec := Spec.mk [OSh.ro, OSh.box (114 : Nat) [Sh.sl (2 : Nat), Sh.int IntKind.i64, Sh.int IntKind.u64], OSh.fx (Ty.int IntKind.u8), OSh.box (53 : Nat) [Sh.int IntKind.i64, Sh.int IntKind.i64, Sh.sl (4 : Nat)], OSh.row true (79 : Nat) (Ty.pair (Ty.int IntKind.i64) (Ty.int IntKind.i64)), OSh.box (53 : Nat) [Sh.int IntKind.i64, Sh.int IntKind.i64, Sh.sl (6 : Nat)], OSh.row true (79 : Nat) (Ty.pair (Ty.int IntKind.i64) (Ty.int IntKind.i64))] [((0 : Nat), TSh.at (Sh.ptr (1 : Nat) (0 : Nat))), ((1 : Nat), TSh.at (Sh.int IntKind.i64)), ((2 : Nat), TSh.at (Sh.int IntKind.i64)), ((6 : Nat), TSh.at (Sh.ptr (3 : Nat) (0 : Nat))), ((7 : Nat), TSh.at (Sh.ptr (5 : Nat) (0 : Nat))), ((8 : Nat), TSh.at (Sh.int IntKind.i64))]
noncomputable def f_spec_l1Cur_boardOf_0o : Spec := Spec.mk [OSh.ro, OSh.box (114 : Nat) [Sh.sl (2 : Nat), Sh.int IntKind.i64, Sh.int IntKind.u64], OSh.fx (Ty.int IntKind.u8), OSh.box (53 : Nat) [Sh.int IntKind.i64, Sh.int IntKind.i64, Sh.sl (4 : Nat)], OSh.row true (79 : Nat) (Ty.pair (Ty.int IntKind.i64) (Ty.int IntKind.i64)), OSh.box (53 : Nat) [Sh.int IntKind.i64, Sh.int IntKind.i64, Sh.sl (6 : Nat)], OSh.row true (79 : Nat) (Ty.pair (Ty.int IntKind.i64) (Ty.int IntKind.i64))] [((6 : Nat), TSh.at (Sh.ptr (3 : Nat) (0 : Nat))), ((7 : Nat), TSh.at (Sh.ptr (5 : Nat) (0 : Nat)))]
noncomputable def f_spec_l1Cur_boardOf_0D : LoopDef (Tup r_spec_l1Cur_boardOf × OutD) := .plain f_spec_l1Cur_boardOf_0i f_spec_l1Cur_boardOf_0o (Int × Int × List Int × Int × Int × List (Int × Int) × Int × Int × List (Int × Int)) (fun k x => f_spec_l1Cur_boardOf_0 k x.1.2.1.2.1 x.1.2.1.2.2.1 x.1.2.2.1 x.1.2.2.2.1.1 x.1.2.2.2.1.2.1 x.1.2.2.2.2.1 x.1.2.2.2.2.2.1.1 x.1.2.2.2.2.2.1.2.1 x.1.2.2.2.2.2.2.1 x.2.2.1 x.2.2.2.1 x.2.2.2.2.2.2.1) (fun z => (((), ((), z.1, z.2.1, ()), z.2.2.1, (z.2.2.2.1, z.2.2.2.2.1, (), ()), z.2.2.2.2.2.1, (z.2.2.2.2.2.2.1, z.2.2.2.2.2.2.2.1, (), ()), z.2.2.2.2.2.2.2.2, ()), ((), (), ()))) (fun y => (y.1.2.1.2.1, y.1.2.1.2.2.1, y.1.2.2.1, y.1.2.2.2.1.1, y.1.2.2.2.1.2.1, y.1.2.2.2.2.1, y.1.2.2.2.2.2.1.1, y.1.2.2.2.2.2.1.2.1, y.1.2.2.2.2.2.2.1)) (fun _ => rfl)
noncomputable def f_spec_l1Cur_boardOf : Nat → List Int × Int × Int → Int → Int → Option ((Int × Int × List (Int × Int)) × Int × Int)
  | 0, _, _, _ => none
  | k + 1, p0, p1, p2 =>
    Option.bind (f_spec_l1Cur_among k (Prod.fst p0, Prod.fst (Prod.snd p0), Prod.snd (Prod.snd p0)) [(1 : Int), (2 : Int), (2 : Int)]) fun z0 => Option.bind (f_spec_l1Cur_boardOf_0 k (Prod.fst (Prod.snd z0)) (Prod.snd (Prod.snd z0)) (Prod.fst p0) (0 : Int) (0 : Int) [] p1 p2 [] p1 p2 (Prod.fst z0)) fun z9 => some ((Prod.fst (Prod.snd (Prod.snd (Prod.snd (Prod.snd (Prod.snd (Prod.snd z9)))))), Prod.fst (Prod.snd (Prod.snd (Prod.snd (Prod.snd (Prod.snd (Prod.snd (Prod.snd z9))))))), Prod.snd (Prod.snd (Prod.snd (Prod.snd (Prod.snd (Prod.snd (Prod.snd (Prod.snd z9)))))))), Prod.fst z9, Prod.fst (Prod.snd z9))
noncomputable def d_spec_l1Cur_boardOf : FnDef := .of q_spec_l1Cur_boardOf r_spec_l1Cur_boardOf ((Int × Int × List (Int × Int)) × Int × Int) (fun k x => f_spec_l1Cur_boardOf k x.1 x.2.1 x.2.2.1) to_spec_l1Cur_boardOf of_spec_l1Cur_boardOf to_of_spec_l1Cur_boardOf
noncomputable def c_spec_l1Cur_boardOf : Code := Try.f197.body.getD .skip
noncomputable def x_spec_l1Cur_boardOf : Ctx (Tup r_spec_l1Cur_boardOf × OutD) := { T := T, G := [(90, d_spec_l1Cur_among.E), (150, d_spec_l1Cur_one.E), (205, d_spec_l1Cur_cell.E), (111, d_spec_l1Cur_pick.E)], mvs := [], no := 2, n := 51, res := resOf T q_spec_l1Cur_boardOf r_spec_l1Cur_boardOf Try.f197.results.toList, loops := [(0, f_spec_l1Cur_boardOf_0D.E)], regs := [], conds := [] }
theorem g_spec_l1Cur_boardOf (k : Nat) : EnvOK Try.prog k x_spec_l1Cur_boardOf.G := (EnvOK.cons (s_spec_l1Cur_among k) (EnvOK.cons (s_spec_l1Cur_one k) (EnvOK.cons (s_spec_l1Cur_cell k) (EnvOK.cons (s_spec_l1Cur_pick k) (EnvOK.nil mixed)))))
noncomputable def f_spec_l1Cur_boardOf_0B : Code := (findLoop 0 c_spec_l1Cur_boardOf).getD .skip
theorem f_spec_l1Cur_boardOf_0h (k : Nat) (x : f_spec_l1Cur_boardOf_0i.D) : f_spec_l1Cur_boardOf_0D.lp (k + 1) x = loopK x_spec_l1Cur_boardOf f_spec_l1Cur_boardOf_0D 0 f_spec_l1Cur_boardOf_0B k x := by kernel_rfl
theorem f_spec_l1Cur_boardOf_0l (k : Nat) : LOK Try.prog x_spec_l1Cur_boardOf k f_spec_l1Cur_boardOf_0B := LOK.by [] (by kernel_rfl) AllOK.nil
theorem f_spec_l1Cur_boardOf_0z (x : f_spec_l1Cur_boardOf_0i.D) : f_spec_l1Cur_boardOf_0D.lp 0 x = none := by kernel_rfl
theorem f_spec_l1Cur_boardOf_0ok (k : Nat) : EOK Try.prog x_spec_l1Cur_boardOf k f_spec_l1Cur_boardOf_0D.E (.block 0 (.loop f_spec_l1Cur_boardOf_0B)) := loop_ok T_ok g_spec_l1Cur_boardOf f_spec_l1Cur_boardOf_0z f_spec_l1Cur_boardOf_0h f_spec_l1Cur_boardOf_0l k
theorem h_spec_l1Cur_boardOf (k : Nat) (x : Tup d_spec_l1Cur_boardOf.ps) : d_spec_l1Cur_boardOf.f (k + 1) x = fnK d_spec_l1Cur_boardOf x_spec_l1Cur_boardOf c_spec_l1Cur_boardOf k x := by kernel_rfl
theorem z_spec_l1Cur_boardOf (x : Tup d_spec_l1Cur_boardOf.ps) : d_spec_l1Cur_boardOf.f 0 x = none := by kernel_rfl
theorem l_spec_l1Cur_boardOf (k : Nat) : LOK Try.prog x_spec_l1Cur_boardOf k c_spec_l1Cur_boardOf := LOK.by [(f_spec_l1Cur_boardOf_0D.E, .block 0 (.loop f_spec_l1Cur_boardOf_0B))] (by kernel_rfl) (AllOK.cons (f_spec_l1Cur_boardOf_0ok k) AllOK.nil)
theorem s_spec_l1Cur_boardOf (k : Nat) : SoundAt Try.prog k 197 d_spec_l1Cur_boardOf.E := @fn_all Try.prog d_spec_l1Cur_boardOf x_spec_l1Cur_boardOf 197 Try.f197 c_spec_l1Cur_boardOf (by kernel_rfl) (by kernel_rfl) (by kernel_rfl) Try.func197 (by kernel_rfl) (by kernel_rfl) (by kernel_rfl) T_ok g_spec_l1Cur_boardOf l_spec_l1Cur_boardOf z_spec_l1Cur_boardOf h_spec_l1Cur_boardOf k
/-! function 203 -/
noncomputable def r_spec_l1Cur_anyCell : List PK := [PK.mk (Ty.pair (Ty.int IntKind.i64) (Ty.int IntKind.i64)) true none false none]
noncomputable def q_spec_l1Cur_anyCell : List PK := [PK.mk (Ty.pair (Ty.slice (5 : Nat) (Ty.int IntKind.u8)) (Ty.pair (Ty.int IntKind.i64) (Ty.int IntKind.u64))) false none false (some (114 : Nat))]
noncomputable def to_spec_l1Cur_anyCell (r : (Int × Int) × Int × Int) : Tup r_spec_l1Cur_anyCell × OutD := ((r.1, ()), some ⟨Ty.pair (Ty.slice (5 : Nat) (Ty.int IntKind.u8)) (Ty.pair (Ty.int IntKind.i64) (Ty.int IntKind.u64)), [([], r.2)]⟩)
noncomputable def of_spec_l1Cur_anyCell : Tup r_spec_l1Cur_anyCell × OutD → Option ((Int × Int) × Int × Int)
  | (a, some ⟨u, ys⟩) => if h : u = Ty.pair (Ty.slice (5 : Nat) (Ty.int IntKind.u8)) (Ty.pair (Ty.int IntKind.i64) (Ty.int IntKind.u64)) then (match castU h ys with
    | [([], y)] => some (a.1, y)
    | _ => none) else none
  | _ => none
theorem to_of_spec_l1Cur_anyCell : ∀ b r, of_spec_l1Cur_anyCell b = some r → to_spec_l1Cur_anyCell r = b := by
  rintro ⟨a, o⟩ r h
  cases o with
  | none => cases h
  | some s =>
    obtain ⟨u, ys⟩ := s
    simp only [of_spec_l1Cur_anyCell] at h
    split at h
    · rename_i hu
      subst hu
      match ys, h with
      | [], h => cases (show (none : Option _) = some r from h)
      | [([], y)], h => injection (show some _ = some r from h) with h; subst h; rfl
      | [(_ :: _, y)], h => cases (show (none : Option _) = some r from h)
      | (h1, _) :: _ :: _, h => cases h1 <;> cases (show (none : Option _) = some r from h)
    · cases h
noncomputable def f_spec_l1Cur_anyCell : Nat → List Int × Int × Int → Option ((Int × Int) × Int × Int)
  | 0, _ => none
  | k + 1, p0 =>
    Option.bind (f_spec_l1Cur_cell k (Prod.fst p0, Prod.fst (Prod.snd p0), Prod.snd (Prod.snd p0))) fun z0 => Option.bind (f_spec_l1Cur_pick k (Prod.fst p0, Prod.fst (Prod.snd z0), Prod.snd (Prod.snd z0)) (20 : Int)) fun z1 => if decide (Prod.fst z1 = (0 : Int)) = true then Option.bind (f_spec_l1Cur_among k (Prod.fst p0, Prod.fst (Prod.snd z1), Prod.snd (Prod.snd z1)) [(-1 : Int), (8 : Int)]) fun z2 => some ((Prod.fst z2, Prod.snd (Prod.fst z0)), Prod.fst (Prod.snd z2), Prod.snd (Prod.snd z2)) else if decide (Prod.fst z1 = (1 : Int)) = true then Option.bind (f_spec_l1Cur_among k (Prod.fst p0, Prod.fst (Prod.snd z1), Prod.snd (Prod.snd z1)) [(-1 : Int), (1 : Int), (2 : Int)]) fun z3 => some ((Prod.fst (Prod.fst z0), Prod.fst z3), Prod.fst (Prod.snd z3), Prod.snd (Prod.snd z3)) else some ((Prod.fst (Prod.fst z0), Prod.snd (Prod.fst z0)), Prod.fst (Prod.snd z1), Prod.snd (Prod.snd z1))
noncomputable def d_spec_l1Cur_anyCell : FnDef := .of q_spec_l1Cur_anyCell r_spec_l1Cur_anyCell ((Int × Int) × Int × Int) (fun k x => f_spec_l1Cur_anyCell k x.1) to_spec_l1Cur_anyCell of_spec_l1Cur_anyCell to_of_spec_l1Cur_anyCell
noncomputable def c_spec_l1Cur_anyCell : Code := Try.f203.body.getD .skip
noncomputable def x_spec_l1Cur_anyCell : Ctx (Tup r_spec_l1Cur_anyCell × OutD) := { T := T, G := [(205, d_spec_l1Cur_cell.E), (111, d_spec_l1Cur_pick.E), (90, d_spec_l1Cur_among.E)], mvs := [], no := 2, n := 21, res := resOf T q_spec_l1Cur_anyCell r_spec_l1Cur_anyCell Try.f203.results.toList, loops := [], regs := [], conds := [] }
theorem g_spec_l1Cur_anyCell (k : Nat) : EnvOK Try.prog k x_spec_l1Cur_anyCell.G := (EnvOK.cons (s_spec_l1Cur_cell k) (EnvOK.cons (s_spec_l1Cur_pick k) (EnvOK.cons (s_spec_l1Cur_among k) (EnvOK.nil mixed))))
theorem h_spec_l1Cur_anyCell (k : Nat) (x : Tup d_spec_l1Cur_anyCell.ps) : d_spec_l1Cur_anyCell.f (k + 1) x = fnK d_spec_l1Cur_anyCell x_spec_l1Cur_anyCell c_spec_l1Cur_anyCell k x := by kernel_rfl
theorem z_spec_l1Cur_anyCell (x : Tup d_spec_l1Cur_anyCell.ps) : d_spec_l1Cur_anyCell.f 0 x = none := by kernel_rfl
theorem l_spec_l1Cur_anyCell (k : Nat) : LOK Try.prog x_spec_l1Cur_anyCell k c_spec_l1Cur_anyCell := LOK.by [] (by kernel_rfl) AllOK.nil
theorem s_spec_l1Cur_anyCell (k : Nat) : SoundAt Try.prog k 203 d_spec_l1Cur_anyCell.E := @fn_all Try.prog d_spec_l1Cur_anyCell x_spec_l1Cur_anyCell 203 Try.f203 c_spec_l1Cur_anyCell (by kernel_rfl) (by kernel_rfl) (by kernel_rfl) Try.func203 (by kernel_rfl) (by kernel_rfl) (by kernel_rfl) T_ok g_spec_l1Cur_anyCell l_spec_l1Cur_anyCell z_spec_l1Cur_anyCell h_spec_l1Cur_anyCell k
end
end Go.Proofs.Ytgjmhbjdhihgaaa.Vs

set_option maxRecDepth 100000
set_option maxHeartbeats 2000000
set_option linter.unusedVariables false
set_option linter.unusedSimpArgs false
namespace Go.Proofs.Ytgjmhbjdhihgaaa.Vs
open Go.RowKit
noncomputable section
/-! function 9 -/
/-! function 11 -/
/-! function 14 -/
/-! function 15 -/
/-! function 18 -/
/-! function 24 -/
/-! function 33 -/
/-! function 36 -/
/-! function 40 -/
noncomputable def r_spec_FaultyFalls : List PK := [PK.mk (Ty.slice (63 : Nat) (Ty.pair (Ty.int IntKind.i64) (Ty.pair (Ty.int IntKind.i64) (Ty.int IntKind.i64)))) false none false none, PK.mk (Ty.pair (Ty.int IntKind.i64) (Ty.pair (Ty.int IntKind.i64) (Ty.slice (79 : Nat) (Ty.pair (Ty.int IntKind.i64) (Ty.int IntKind.i64))))) true none false none, PK.mk Ty.bool false none false none]
noncomputable def q_spec_FaultyFalls : List PK := [PK.mk (Ty.pair (Ty.int IntKind.i64) (Ty.pair (Ty.int IntKind.i64) (Ty.slice (79 : Nat) (Ty.pair (Ty.int IntKind.i64) (Ty.int IntKind.i64))))) true none false none, PK.mk (Ty.slice (77 : Nat) (Ty.pair (Ty.int IntKind.i64) (Ty.pair (Ty.int IntKind.i64) (Ty.int IntKind.i64)))) false none false none, PK.mk (Ty.slice (3 : Nat) (Ty.int IntKind.i64)) false none false none]
noncomputable def to_spec_FaultyFalls (r : List (Int × Int × Int) × (Int × Int × List (Int × Int)) × Bool) : Tup r_spec_FaultyFalls × OutD := ((r.1, r.2.1, r.2.2, ()), none)
noncomputable def of_spec_FaultyFalls : Tup r_spec_FaultyFalls × OutD → Option (List (Int × Int × Int) × (Int × Int × List (Int × Int)) × Bool)
  | (a, none) => some (a.1, a.2.1, a.2.2.1)
  | _ => none
theorem to_of_spec_FaultyFalls : ∀ b r, of_spec_FaultyFalls b = some r → to_spec_FaultyFalls r = b := by
  rintro ⟨a, o⟩ r h
  cases o with
  | none => injection h with h; subst h; rfl
  | some _ => cases h
noncomputable def f_spec_FaultyFalls : Nat → Int × Int × List (Int × Int) → List (Int × Int × Int) → List Int → Option (List (Int × Int × Int) × (Int × Int × List (Int × Int)) × Bool)
  | 0, _, _, _ => none
  | k + 1, p0, p1, p2 =>
    Option.bind (f_spec_flColumns k (Prod.fst p0, Prod.fst (Prod.snd p0), Prod.snd (Prod.snd p0)) p2) fun z0 => if (!z0) = true then some ([], ((0 : Int), (0 : Int), []), false) else Option.bind (f_spec_faGood k (Prod.fst p0, Prod.fst (Prod.snd p0), Prod.snd (Prod.snd p0)) p1) fun z1 => if (!z1) = true then some ([], ((0 : Int), (0 : Int), []), false) else Option.bind (f_spec_faAll k (Prod.fst p0, Prod.fst (Prod.snd p0), Prod.snd (Prod.snd p0)) p1 p2) fun z2 => some (Prod.fst z2, (Prod.fst (Prod.snd z2), Prod.fst (Prod.snd (Prod.snd z2)), Prod.snd (Prod.snd (Prod.snd z2))), true)
noncomputable def d_spec_FaultyFalls : FnDef := .of q_spec_FaultyFalls r_spec_FaultyFalls (List (Int × Int × Int) × (Int × Int × List (Int × Int)) × Bool) (fun k x => f_spec_FaultyFalls k x.1 x.2.1 x.2.2.1) to_spec_FaultyFalls of_spec_FaultyFalls to_of_spec_FaultyFalls
noncomputable def c_spec_FaultyFalls : Code := Try.f40.body.getD .skip
noncomputable def x_spec_FaultyFalls : Ctx (Tup r_spec_FaultyFalls × OutD) := { T := T, G := [(121, d_spec_flColumns.E), (122, d_spec_faGood.E), (123, d_spec_faAll.E)], mvs := [], no := 0, n := 31, res := resOf T q_spec_FaultyFalls r_spec_FaultyFalls Try.f40.results.toList, loops := [], regs := [], conds := [] }
theorem g_spec_FaultyFalls (k : Nat) : EnvOK Try.prog k x_spec_FaultyFalls.G := (EnvOK.cons (s_spec_flColumns k) (EnvOK.cons (s_spec_faGood k) (EnvOK.cons (s_spec_faAll k) (EnvOK.nil mixed))))
theorem h_spec_FaultyFalls (k : Nat) (x : Tup d_spec_FaultyFalls.ps) : d_spec_FaultyFalls.f (k + 1) x = fnK d_spec_FaultyFalls x_spec_FaultyFalls c_spec_FaultyFalls k x := by kernel_rfl
theorem z_spec_FaultyFalls (x : Tup d_spec_FaultyFalls.ps) : d_spec_FaultyFalls.f 0 x = none := by kernel_rfl
theorem l_spec_FaultyFalls (k : Nat) : LOK Try.prog x_spec_FaultyFalls k c_spec_FaultyFalls := LOK.by [] (by kernel_rfl) AllOK.nil
theorem s_spec_FaultyFalls (k : Nat) : SoundAt Try.prog k 40 d_spec_FaultyFalls.E := @fn_all Try.prog d_spec_FaultyFalls x_spec_FaultyFalls 40 Try.f40 c_spec_FaultyFalls (by kernel_rfl) (by kernel_rfl) (by kernel_rfl) Try.func40 (by kernel_rfl) (by kernel_rfl) (by kernel_rfl) T_ok g_spec_FaultyFalls l_spec_FaultyFalls z_spec_FaultyFalls h_spec_FaultyFalls k
/-! function 51 -/
noncomputable def r_spec_FallOf : List PK := [PK.mk (Ty.pair (Ty.int IntKind.i64) (Ty.pair (Ty.int IntKind.i64) (Ty.int IntKind.i64))) true none false none, PK.mk Ty.bool false none false none]
noncomputable def q_spec_FallOf : List PK := [PK.mk (Ty.pair (Ty.int IntKind.i64) (Ty.pair (Ty.int IntKind.i64) (Ty.slice (79 : Nat) (Ty.pair (Ty.int IntKind.i64) (Ty.int IntKind.i64))))) true none false none, PK.mk (Ty.int IntKind.i64) false none false none]
noncomputable def to_spec_FallOf (r : (Int × Int × Int) × Bool) : Tup r_spec_FallOf × OutD := ((r.1, r.2, ()), none)
noncomputable def of_spec_FallOf : Tup r_spec_FallOf × OutD → Option ((Int × Int × Int) × Bool)
  | (a, none) => some (a.1, a.2.1)
  | _ => none
theorem to_of_spec_FallOf : ∀ b r, of_spec_FallOf b = some r → to_spec_FallOf r = b := by
  rintro ⟨a, o⟩ r h
  cases o with
  | none => injection h with h; subst h; rfl
  | some _ => cases h
noncomputable def f_spec_FallOf : Nat → Int × Int × List (Int × Int) → Int → Option ((Int × Int × Int) × Bool)
  | 0, _, _ => none
  | k + 1, p0, p1 =>
    Option.bind (f_spec_flHas k (Prod.fst p0, Prod.fst (Prod.snd p0), Prod.snd (Prod.snd p0)) p1) fun z0 => if (!z0) = true then some (((0 : Int), (0 : Int), (0 : Int)), false) else Option.bind (f_spec_flRun k (Prod.fst p0, Prod.fst (Prod.snd p0), Prod.snd (Prod.snd p0)) p1) fun z1 => some ((Prod.fst (Prod.fst z1), Prod.fst (Prod.snd (Prod.fst z1)), Prod.snd (Prod.snd (Prod.fst z1))), true)
noncomputable def d_spec_FallOf : FnDef := .of q_spec_FallOf r_spec_FallOf ((Int × Int × Int) × Bool) (fun k x => f_spec_FallOf k x.1 x.2.1) to_spec_FallOf of_spec_FallOf to_of_spec_FallOf
noncomputable def c_spec_FallOf : Code := Try.f51.body.getD .skip
noncomputable def x_spec_FallOf : Ctx (Tup r_spec_FallOf × OutD) := { T := T, G := [(134, d_spec_flHas.E), (135, d_spec_flRun.E)], mvs := [], no := 0, n := 20, res := resOf T q_spec_FallOf r_spec_FallOf Try.f51.results.toList, loops := [], regs := [], conds := [] }
theorem g_spec_FallOf (k : Nat) : EnvOK Try.prog k x_spec_FallOf.G := (EnvOK.cons (s_spec_flHas k) (EnvOK.cons (s_spec_flRun k) (EnvOK.nil mixed)))
theorem h_spec_FallOf (k : Nat) (x : Tup d_spec_FallOf.ps) : d_spec_FallOf.f (k + 1) x = fnK d_spec_FallOf x_spec_FallOf c_spec_FallOf k x := by kernel_rfl
theorem z_spec_FallOf (x : Tup d_spec_FallOf.ps) : d_spec_FallOf.f 0 x = none := by kernel_rfl
theorem l_spec_FallOf (k : Nat) : LOK Try.prog x_spec_FallOf k c_spec_FallOf := LOK.by [] (by kernel_rfl) AllOK.nil
theorem s_spec_FallOf (k : Nat) : SoundAt Try.prog k 51 d_spec_FallOf.E := @fn_all Try.prog d_spec_FallOf x_spec_FallOf 51 Try.f51 c_spec_FallOf (by kernel_rfl) (by kernel_rfl) (by kernel_rfl) Try.func51 (by kernel_rfl) (by kernel_rfl) (by kernel_rfl) T_ok g_spec_FallOf l_spec_FallOf z_spec_FallOf h_spec_FallOf k
/-! function 52 -/
noncomputable def r_spec_BoardAfter : List PK := [PK.mk (Ty.pair (Ty.int IntKind.i64) (Ty.pair (Ty.int IntKind.i64) (Ty.slice (79 : Nat) (Ty.pair (Ty.int IntKind.i64) (Ty.int IntKind.i64))))) true none false none, PK.mk Ty.bool false none false none]
noncomputable def q_spec_BoardAfter : List PK := [PK.mk (Ty.pair (Ty.int IntKind.i64) (Ty.pair (Ty.int IntKind.i64) (Ty.slice (79 : Nat) (Ty.pair (Ty.int IntKind.i64) (Ty.int IntKind.i64))))) true none false none, PK.mk (Ty.int IntKind.i64) false none false none]
noncomputable def to_spec_BoardAfter (r : (Int × Int × List (Int × Int)) × Bool) : Tup r_spec_BoardAfter × OutD := ((r.1, r.2, ()), none)
noncomputable def of_spec_BoardAfter : Tup r_spec_BoardAfter × OutD → Option ((Int × Int × List (Int × Int)) × Bool)
  | (a, none) => some (a.1, a.2.1)
  | _ => none
theorem to_of_spec_BoardAfter : ∀ b r, of_spec_BoardAfter b = some r → to_spec_BoardAfter r = b := by
  rintro ⟨a, o⟩ r h
  cases o with
  | none => injection h with h; subst h; rfl
  | some _ => cases h
noncomputable def f_spec_BoardAfter : Nat → Int × Int × List (Int × Int) → Int → Option ((Int × Int × List (Int × Int)) × Bool)
  | 0, _, _ => none
  | k + 1, p0, p1 =>
    Option.bind (f_spec_flHas k (Prod.fst p0, Prod.fst (Prod.snd p0), Prod.snd (Prod.snd p0)) p1) fun z0 => if (!z0) = true then some (((0 : Int), (0 : Int), []), false) else Option.bind (f_spec_flRun k (Prod.fst p0, Prod.fst (Prod.snd p0), Prod.snd (Prod.snd p0)) p1) fun z1 => some ((Prod.fst (Prod.snd z1), Prod.fst (Prod.snd (Prod.snd z1)), Prod.snd (Prod.snd (Prod.snd z1))), true)
noncomputable def d_spec_BoardAfter : FnDef := .of q_spec_BoardAfter r_spec_BoardAfter ((Int × Int × List (Int × Int)) × Bool) (fun k x => f_spec_BoardAfter k x.1 x.2.1) to_spec_BoardAfter of_spec_BoardAfter to_of_spec_BoardAfter
noncomputable def c_spec_BoardAfter : Code := Try.f52.body.getD .skip
noncomputable def x_spec_BoardAfter : Ctx (Tup r_spec_BoardAfter × OutD) := { T := T, G := [(134, d_spec_flHas.E), (135, d_spec_flRun.E)], mvs := [], no := 0, n := 20, res := resOf T q_spec_BoardAfter r_spec_BoardAfter Try.f52.results.toList, loops := [], regs := [], conds := [] }
theorem g_spec_BoardAfter (k : Nat) : EnvOK Try.prog k x_spec_BoardAfter.G := (EnvOK.cons (s_spec_flHas k) (EnvOK.cons (s_spec_flRun k) (EnvOK.nil mixed)))
theorem h_spec_BoardAfter (k : Nat) (x : Tup d_spec_BoardAfter.ps) : d_spec_BoardAfter.f (k + 1) x = fnK d_spec_BoardAfter x_spec_BoardAfter c_spec_BoardAfter k x := by kernel_rfl
theorem z_spec_BoardAfter (x : Tup d_spec_BoardAfter.ps) : d_spec_BoardAfter.f 0 x = none := by kernel_rfl
theorem l_spec_BoardAfter (k : Nat) : LOK Try.prog x_spec_BoardAfter k c_spec_BoardAfter := LOK.by [] (by kernel_rfl) AllOK.nil
theorem s_spec_BoardAfter (k : Nat) : SoundAt Try.prog k 52 d_spec_BoardAfter.E := @fn_all Try.prog d_spec_BoardAfter x_spec_BoardAfter 52 Try.f52 c_spec_BoardAfter (by kernel_rfl) (by kernel_rfl) (by kernel_rfl) Try.func52 (by kernel_rfl) (by kernel_rfl) (by kernel_rfl) T_ok g_spec_BoardAfter l_spec_BoardAfter z_spec_BoardAfter h_spec_BoardAfter k
/-! function 65 -/
/-! function 85 -/
/-! function 119 -/
noncomputable def r_impl_areFaults : List PK := [PK.mk Ty.bool false none false none]
noncomputable def q_impl_areFaults : List PK := [PK.mk (Ty.pair (Ty.int IntKind.i64) (Ty.pair (Ty.int IntKind.i64) (Ty.slice (79 : Nat) (Ty.pair (Ty.int IntKind.i64) (Ty.int IntKind.i64))))) true none false none, PK.mk (Ty.slice (77 : Nat) (Ty.pair (Ty.int IntKind.i64) (Ty.pair (Ty.int IntKind.i64) (Ty.int IntKind.i64)))) false none false none]
noncomputable def to_impl_areFaults (r : Bool) : Tup r_impl_areFaults × OutD := ((r, ()), none)
noncomputable def of_impl_areFaults : Tup r_impl_areFaults × OutD → Option (Bool)
  | (a, none) => some (a.1)
  | _ => none
theorem to_of_impl_areFaults : ∀ b r, of_impl_areFaults b = some r → to_impl_areFaults r = b := by
  rintro ⟨a, o⟩ r h
  cases o with
  | none => injection h with h; subst h; rfl
  | some _ => cases h
noncomputable def f_impl_areFaults_0 : Nat → Int → Int → List (Int × Int) → Int → List (Int × Int × Int) → Int → Int → Option (LR Unit Bool)
  | 0, _, _, _, _, _, _, _ => none
  | k + 1, b1_0, b1_1, b1_2, v5, v12, v13, v14 =>
    if decide (v14 < v13) = true then if (0 : Int) ≤ v14 then if v14 < (↑(List.length v12) : Int) then Option.bind (f_impl_onBoard k (b1_0, b1_1, b1_2) (Prod.fst (Prod.snd (List.getD v12 (Int.toNat v14) ((0 : Int), (0 : Int), (0 : Int))))) (Prod.snd (Prod.snd (List.getD v12 (Int.toNat v14) ((0 : Int), (0 : Int), (0 : Int)))))) fun z0 => if (!z0) = true then some (LR.ret false) else if decide (wrap64 (wrap64 (Prod.fst (Prod.snd (List.getD v12 (Int.toNat v14) ((0 : Int), (0 : Int), (0 : Int)))) * b1_1) + Prod.snd (Prod.snd (List.getD v12 (Int.toNat v14) ((0 : Int), (0 : Int), (0 : Int))))) ≤ v5) = true then some (LR.ret false) else if (0 : Int) ≤ wrap64 (wrap64 (Prod.fst (Prod.snd (List.getD v12 (Int.toNat v14) ((0 : Int), (0 : Int), (0 : Int)))) * b1_1) + Prod.snd (Prod.snd (List.getD v12 (Int.toNat v14) ((0 : Int), (0 : Int), (0 : Int))))) then if wrap64 (wrap64 (Prod.fst (Prod.snd (List.getD v12 (Int.toNat v14) ((0 : Int), (0 : Int), (0 : Int)))) * b1_1) + Prod.snd (Prod.snd (List.getD v12 (Int.toNat v14) ((0 : Int), (0 : Int), (0 : Int))))) < (↑(List.length b1_2) : Int) then Option.bind (f_impl_canHave k (Prod.fst (List.getD b1_2 (Int.toNat (wrap64 (wrap64 (Prod.fst (Prod.snd (List.getD v12 (Int.toNat v14) ((0 : Int), (0 : Int), (0 : Int)))) * b1_1) + Prod.snd (Prod.snd (List.getD v12 (Int.toNat v14) ((0 : Int), (0 : Int), (0 : Int))))))) ((0 : Int), (0 : Int))), Prod.snd (List.getD b1_2 (Int.toNat (wrap64 (wrap64 (Prod.fst (Prod.snd (List.getD v12 (Int.toNat v14) ((0 : Int), (0 : Int), (0 : Int)))) * b1_1) + Prod.snd (Prod.snd (List.getD v12 (Int.toNat v14) ((0 : Int), (0 : Int), (0 : Int))))))) ((0 : Int), (0 : Int)))) (Prod.fst (List.getD v12 (Int.toNat v14) ((0 : Int), (0 : Int), (0 : Int))))) fun z1 => if (!z1) = true then some (LR.ret false) else f_impl_areFaults_0 k b1_0 b1_1 b1_2 (wrap64 (wrap64 (Prod.fst (Prod.snd (List.getD v12 (Int.toNat v14) ((0 : Int), (0 : Int), (0 : Int)))) * b1_1) + Prod.snd (Prod.snd (List.getD v12 (Int.toNat v14) ((0 : Int), (0 : Int), (0 : Int)))))) v12 v13 (wrap64 (v14 + (1 : Int))) else none else none else none else none else some (LR.go ())
noncomputable def f_impl_areFaults_0i : Spec := Spec.mk [OSh.ro, OSh.box (53 : Nat) [Sh.int IntKind.i64, Sh.int IntKind.i64, Sh.snap (0 : Nat) (Ty.pair (Ty.int IntKind.i64) (Ty.int IntKind.i64))]] [((2 : Nat), TSh.at (Sh.ptr (1 : Nat) (0 : Nat))), ((5 : Nat), TSh.at (Sh.int IntKind.i64)), ((12 : Nat), TSh.at (Sh.snap (0 : Nat) (Ty.pair (Ty.int IntKind.i64) (Ty.pair (Ty.int IntKind.i64) (Ty.int IntKind.i64))))), ((13 : Nat), TSh.at (Sh.int IntKind.i64)), ((14 : Nat), TSh.at (Sh.int IntKind.i64))]
noncomputable def f_impl_areFaults_0o : Spec := Spec.mk [OSh.ro] []
noncomputable def f_impl_areFaults_0D : LoopDef (Tup r_impl_areFaults × OutD) := .rets f_impl_areFaults_0i f_impl_areFaults_0o (Unit) (Bool) (fun k x => f_impl_areFaults_0 k x.1.2.1.1 x.1.2.1.2.1 x.1.2.1.2.2.1 x.2.2.1 x.2.2.2.1 x.2.2.2.2.1 x.2.2.2.2.2.1) (fun z => (((), ()), (()))) (fun y => ()) (fun _ => rfl) to_impl_areFaults of_impl_areFaults to_of_impl_areFaults
noncomputable def f_impl_areFaults : Nat → Int × Int × List (Int × Int) → List (Int × Int × Int) → Option Bool
  | 0, _, _ => none
  | k + 1, p0, p1 =>
    if decide ((↑(List.length p1) : Int) > (4 : Int)) = true then some false else Option.bind (f_impl_areFaults_0 k (Prod.fst p0) (Prod.fst (Prod.snd p0)) (Prod.snd (Prod.snd p0)) (-1 : Int) p1 (↑(List.length p1) : Int) (0 : Int)) fun z2 => LR.on z2 (fun y2 => some true) fun r2 => some r2
noncomputable def d_impl_areFaults : FnDef := .of q_impl_areFaults r_impl_areFaults (Bool) (fun k x => f_impl_areFaults k x.1 x.2.1) to_impl_areFaults of_impl_areFaults to_of_impl_areFaults
noncomputable def c_impl_areFaults : Code := Try.f119.body.getD .skip
noncomputable def x_impl_areFaults : Ctx (Tup r_impl_areFaults × OutD) := { T := T, G := [(180, d_impl_onBoard.E), (181, d_impl_canHave.E)], mvs := [], no := 0, n := 49, res := resOf T q_impl_areFaults r_impl_areFaults Try.f119.results.toList, loops := [(0, f_impl_areFaults_0D.E)], regs := [], conds := [] }
theorem g_impl_areFaults (k : Nat) : EnvOK Try.prog k x_impl_areFaults.G := (EnvOK.cons (s_impl_onBoard k) (EnvOK.cons (s_impl_canHave k) (EnvOK.nil mixed)))
noncomputable def f_impl_areFaults_0B : Code := (findLoop 0 c_impl_areFaults).getD .skip
theorem f_impl_areFaults_0h (k : Nat) (x : f_impl_areFaults_0i.D) : f_impl_areFaults_0D.lp (k + 1) x = loopK x_impl_areFaults f_impl_areFaults_0D 0 f_impl_areFaults_0B k x := by kernel_rfl
theorem f_impl_areFaults_0l (k : Nat) : LOK Try.prog x_impl_areFaults k f_impl_areFaults_0B := LOK.by [] (by kernel_rfl) AllOK.nil
theorem f_impl_areFaults_0z (x : f_impl_areFaults_0i.D) : f_impl_areFaults_0D.lp 0 x = none := by kernel_rfl
theorem f_impl_areFaults_0ok (k : Nat) : EOK Try.prog x_impl_areFaults k f_impl_areFaults_0D.E (.block 0 (.loop f_impl_areFaults_0B)) := loop_ok T_ok g_impl_areFaults f_impl_areFaults_0z f_impl_areFaults_0h f_impl_areFaults_0l k
theorem h_impl_areFaults (k : Nat) (x : Tup d_impl_areFaults.ps) : d_impl_areFaults.f (k + 1) x = fnK d_impl_areFaults x_impl_areFaults c_impl_areFaults k x := by kernel_rfl
theorem z_impl_areFaults (x : Tup d_impl_areFaults.ps) : d_impl_areFaults.f 0 x = none := by kernel_rfl
theorem l_impl_areFaults (k : Nat) : LOK Try.prog x_impl_areFaults k c_impl_areFaults := LOK.by [(f_impl_areFaults_0D.E, .block 0 (.loop f_impl_areFaults_0B))] (by kernel_rfl) (AllOK.cons (f_impl_areFaults_0ok k) AllOK.nil)
theorem s_impl_areFaults (k : Nat) : SoundAt Try.prog k 119 d_impl_areFaults.E := @fn_all Try.prog d_impl_areFaults x_impl_areFaults 119 Try.f119 c_impl_areFaults (by kernel_rfl) (by kernel_rfl) (by kernel_rfl) Try.func119 (by kernel_rfl) (by kernel_rfl) (by kernel_rfl) T_ok g_impl_areFaults l_impl_areFaults z_impl_areFaults h_impl_areFaults k
/-! function 130 -/
noncomputable def r_spec_faHas : List PK := [PK.mk Ty.bool false none false none]
noncomputable def q_spec_faHas : List PK := [PK.mk (Ty.pair (Ty.int IntKind.i64) (Ty.pair (Ty.int IntKind.i64) (Ty.slice (79 : Nat) (Ty.pair (Ty.int IntKind.i64) (Ty.int IntKind.i64))))) true none false none, PK.mk (Ty.slice (77 : Nat) (Ty.pair (Ty.int IntKind.i64) (Ty.pair (Ty.int IntKind.i64) (Ty.int IntKind.i64)))) false none false none, PK.mk (Ty.int IntKind.i64) false none false none]
noncomputable def to_spec_faHas (r : Bool) : Tup r_spec_faHas × OutD := ((r, ()), none)
noncomputable def of_spec_faHas : Tup r_spec_faHas × OutD → Option (Bool)
  | (a, none) => some (a.1)
  | _ => none
theorem to_of_spec_faHas : ∀ b r, of_spec_faHas b = some r → to_spec_faHas r = b := by
  rintro ⟨a, o⟩ r h
  cases o with
  | none => injection h with h; subst h; rfl
  | some _ => cases h
noncomputable def f_spec_faHas : Nat → Int × Int × List (Int × Int) → List (Int × Int × Int) → Int → Option Bool
  | 0, _, _, _ => none
  | k + 1, p0, p1, p2 =>
    Option.bind (f_spec_flHas k (Prod.fst p0, Prod.fst (Prod.snd p0), Prod.snd (Prod.snd p0)) p2) fun z0 => if z0 = true then Option.bind (f_spec_faGood k (Prod.fst p0, Prod.fst (Prod.snd p0), Prod.snd (Prod.snd p0)) p1) fun z1 => some z1 else some false
noncomputable def d_spec_faHas : FnDef := .of q_spec_faHas r_spec_faHas (Bool) (fun k x => f_spec_faHas k x.1 x.2.1 x.2.2.1) to_spec_faHas of_spec_faHas to_of_spec_faHas
noncomputable def c_spec_faHas : Code := Try.f130.body.getD .skip
noncomputable def x_spec_faHas : Ctx (Tup r_spec_faHas × OutD) := { T := T, G := [(134, d_spec_flHas.E), (122, d_spec_faGood.E)], mvs := [], no := 0, n := 15, res := resOf T q_spec_faHas r_spec_faHas Try.f130.results.toList, loops := [], regs := [], conds := [] }
theorem g_spec_faHas (k : Nat) : EnvOK Try.prog k x_spec_faHas.G := (EnvOK.cons (s_spec_flHas k) (EnvOK.cons (s_spec_faGood k) (EnvOK.nil mixed)))
theorem h_spec_faHas (k : Nat) (x : Tup d_spec_faHas.ps) : d_spec_faHas.f (k + 1) x = fnK d_spec_faHas x_spec_faHas c_spec_faHas k x := by kernel_rfl
theorem z_spec_faHas (x : Tup d_spec_faHas.ps) : d_spec_faHas.f 0 x = none := by kernel_rfl
theorem l_spec_faHas (k : Nat) : LOK Try.prog x_spec_faHas k c_spec_faHas := LOK.by [] (by kernel_rfl) AllOK.nil
theorem s_spec_faHas (k : Nat) : SoundAt Try.prog k 130 d_spec_faHas.E := @fn_all Try.prog d_spec_faHas x_spec_faHas 130 Try.f130 c_spec_faHas (by kernel_rfl) (by kernel_rfl) (by kernel_rfl) Try.func130 (by kernel_rfl) (by kernel_rfl) (by kernel_rfl) T_ok g_spec_faHas l_spec_faHas z_spec_faHas h_spec_faHas k
/-! function 137 -/
/-! function 139 -/
/-! function 143 -/
/-! function 144 -/
/-! function 151 -/
/-! function 155 -/
/-! function 164 -/
/-! function 165 -/
/-! function 202 -/
noncomputable def r_spec_l1Cur_board : List PK := [PK.mk (Ty.pair (Ty.int IntKind.i64) (Ty.pair (Ty.int IntKind.i64) (Ty.slice (79 : Nat) (Ty.pair (Ty.int IntKind.i64) (Ty.int IntKind.i64))))) true none false none]
noncomputable def q_spec_l1Cur_board : List PK := [PK.mk (Ty.pair (Ty.slice (5 : Nat) (Ty.int IntKind.u8)) (Ty.pair (Ty.int IntKind.i64) (Ty.int IntKind.u64))) false none false (some (114 : Nat))]
noncomputable def to_spec_l1Cur_board (r : (Int × Int × List (Int × Int)) × Int × Int) : Tup r_spec_l1Cur_board × OutD := ((r.1, ()), some ⟨Ty.pair (Ty.slice (5 : Nat) (Ty.int IntKind.u8)) (Ty.pair (Ty.int IntKind.i64) (Ty.int IntKind.u64)), [([], r.2)]⟩)
noncomputable def of_spec_l1Cur_board : Tup r_spec_l1Cur_board × OutD → Option ((Int × Int × List (Int × Int)) × Int × Int)
  | (a, some ⟨u, ys⟩) => if h : u = Ty.pair (Ty.slice (5 : Nat) (Ty.int IntKind.u8)) (Ty.pair (Ty.int IntKind.i64) (Ty.int IntKind.u64)) then (match castU h ys with
    | [([], y)] => some (a.1, y)
    | _ => none) else none
  | _ => none
theorem to_of_spec_l1Cur_board : ∀ b r, of_spec_l1Cur_board b = some r → to_spec_l1Cur_board r = b := by
  rintro ⟨a, o⟩ r h
  cases o with
  | none => cases h
  | some s =>
    obtain ⟨u, ys⟩ := s
    simp only [of_spec_l1Cur_board] at h
    split at h
    · rename_i hu
      subst hu
      match ys, h with
      | [], h => cases (show (none : Option _) = some r from h)
      | [([], y)], h => injection (show some _ = some r from h) with h; subst h; rfl
      | [(_ :: _, y)], h => cases (show (none : Option _) = some r from h)
      | (h1, _) :: _ :: _, h => cases h1 <;> cases (show (none : Option _) = some r from h)
    · cases h
noncomputable def f_spec_l1Cur_board : Nat → List Int × Int × Int → Option ((Int × Int × List (Int × Int)) × Int × Int)
  | 0, _ => none
  | k + 1, p0 =>
    Option.bind (f_spec_l1Cur_one k (Prod.fst p0, Prod.fst (Prod.snd p0), Prod.snd (Prod.snd p0)) (20 : Int)) fun z0 => if Prod.fst z0 = true then Option.bind (f_spec_l1Cur_among k (Prod.fst p0, Prod.fst (Prod.snd z0), Prod.snd (Prod.snd z0)) [(1 : Int), (10 : Int)]) fun z1 => Option.bind (f_spec_l1Cur_among k (Prod.fst p0, Prod.fst (Prod.snd z1), Prod.snd (Prod.snd z1)) [(1 : Int), (9 : Int)]) fun z2 => Option.bind (f_spec_l1Cur_boardOf k (Prod.fst p0, Prod.fst (Prod.snd z2), Prod.snd (Prod.snd z2)) (Prod.fst z1) (Prod.fst z2)) fun z3 => some ((Prod.fst (Prod.fst z3), Prod.fst (Prod.snd (Prod.fst z3)), Prod.snd (Prod.snd (Prod.fst z3))), Prod.fst (Prod.snd z3), Prod.snd (Prod.snd z3)) else Option.bind (f_spec_l1Cur_pick k (Prod.fst p0, Prod.fst (Prod.snd z0), Prod.snd (Prod.snd z0)) (5 : Int)) fun z4 => Option.bind (f_spec_l1Cur_pick k (Prod.fst p0, Prod.fst (Prod.snd z4), Prod.snd (Prod.snd z4)) (5 : Int)) fun z5 => Option.bind (f_spec_l1Cur_boardOf k (Prod.fst p0, Prod.fst (Prod.snd z5), Prod.snd (Prod.snd z5)) (wrap64 ((1 : Int) + Prod.fst z4)) (wrap64 ((1 : Int) + Prod.fst z5))) fun z6 => some ((Prod.fst (Prod.fst z6), Prod.fst (Prod.snd (Prod.fst z6)), Prod.snd (Prod.snd (Prod.fst z6))), Prod.fst (Prod.snd z6), Prod.snd (Prod.snd z6))
noncomputable def d_spec_l1Cur_board : FnDef := .of q_spec_l1Cur_board r_spec_l1Cur_board ((Int × Int × List (Int × Int)) × Int × Int) (fun k x => f_spec_l1Cur_board k x.1) to_spec_l1Cur_board of_spec_l1Cur_board to_of_spec_l1Cur_board
noncomputable def c_spec_l1Cur_board : Code := Try.f202.body.getD .skip
noncomputable def x_spec_l1Cur_board : Ctx (Tup r_spec_l1Cur_board × OutD) := { T := T, G := [(150, d_spec_l1Cur_one.E), (90, d_spec_l1Cur_among.E), (197, d_spec_l1Cur_boardOf.E), (111, d_spec_l1Cur_pick.E)], mvs := [], no := 2, n := 21, res := resOf T q_spec_l1Cur_board r_spec_l1Cur_board Try.f202.results.toList, loops := [], regs := [], conds := [] }
theorem g_spec_l1Cur_board (k : Nat) : EnvOK Try.prog k x_spec_l1Cur_board.G := (EnvOK.cons (s_spec_l1Cur_one k) (EnvOK.cons (s_spec_l1Cur_among k) (EnvOK.cons (s_spec_l1Cur_boardOf k) (EnvOK.cons (s_spec_l1Cur_pick k) (EnvOK.nil mixed)))))
theorem h_spec_l1Cur_board (k : Nat) (x : Tup d_spec_l1Cur_board.ps) : d_spec_l1Cur_board.f (k + 1) x = fnK d_spec_l1Cur_board x_spec_l1Cur_board c_spec_l1Cur_board k x := by kernel_rfl
theorem z_spec_l1Cur_board (x : Tup d_spec_l1Cur_board.ps) : d_spec_l1Cur_board.f 0 x = none := by kernel_rfl
theorem l_spec_l1Cur_board (k : Nat) : LOK Try.prog x_spec_l1Cur_board k c_spec_l1Cur_board := LOK.by [] (by kernel_rfl) AllOK.nil
theorem s_spec_l1Cur_board (k : Nat) : SoundAt Try.prog k 202 d_spec_l1Cur_board.E := @fn_all Try.prog d_spec_l1Cur_board x_spec_l1Cur_board 202 Try.f202 c_spec_l1Cur_board (by kernel_rfl) (by kernel_rfl) (by kernel_rfl) Try.func202 (by kernel_rfl) (by kernel_rfl) (by kernel_rfl) T_ok g_spec_l1Cur_board l_spec_l1Cur_board z_spec_l1Cur_board h_spec_l1Cur_board k
end
end Go.Proofs.Ytgjmhbjdhihgaaa.Vs

set_option maxRecDepth 100000
set_option maxHeartbeats 2000000
set_option linter.unusedVariables false
set_option linter.unusedSimpArgs false
namespace Go.Proofs.Ytgjmhbjdhihgaaa.Vs
open Go.RowKit
noncomputable section
/-! function 3 -/
/-! function 39 -/
noncomputable def r_impl_FaultyFalls : List PK := [PK.mk (Ty.slice (63 : Nat) (Ty.pair (Ty.int IntKind.i64) (Ty.pair (Ty.int IntKind.i64) (Ty.int IntKind.i64)))) false none false none, PK.mk (Ty.pair (Ty.int IntKind.i64) (Ty.pair (Ty.int IntKind.i64) (Ty.slice (79 : Nat) (Ty.pair (Ty.int IntKind.i64) (Ty.int IntKind.i64))))) true none false none, PK.mk Ty.bool false none false none]
noncomputable def q_impl_FaultyFalls : List PK := [PK.mk (Ty.pair (Ty.int IntKind.i64) (Ty.pair (Ty.int IntKind.i64) (Ty.slice (79 : Nat) (Ty.pair (Ty.int IntKind.i64) (Ty.int IntKind.i64))))) true none false none, PK.mk (Ty.slice (77 : Nat) (Ty.pair (Ty.int IntKind.i64) (Ty.pair (Ty.int IntKind.i64) (Ty.int IntKind.i64)))) false none false none, PK.mk (Ty.slice (3 : Nat) (Ty.int IntKind.i64)) false none false none]
noncomputable def to_impl_FaultyFalls (r : List (Int × Int × Int) × (Int × Int × List (Int × Int)) × Bool) : Tup r_impl_FaultyFalls × OutD := ((r.1, r.2.1, r.2.2, ()), none)
noncomputable def of_impl_FaultyFalls : Tup r_impl_FaultyFalls × OutD → Option (List (Int × Int × Int) × (Int × Int × List (Int × Int)) × Bool)
  | (a, none) => some (a.1, a.2.1, a.2.2.1)
  | _ => none
theorem to_of_impl_FaultyFalls : ∀ b r, of_impl_FaultyFalls b = some r → to_impl_FaultyFalls r = b := by
  rintro ⟨a, o⟩ r h
  cases o with
  | none => injection h with h; subst h; rfl
  | some _ => cases h
noncomputable def f_impl_FaultyFalls : Nat → Int × Int × List (Int × Int) → List (Int × Int × Int) → List Int → Option (List (Int × Int × Int) × (Int × Int × List (Int × Int)) × Bool)
  | 0, _, _, _ => none
  | k + 1, p0, p1, p2 =>
    Option.bind (f_impl_validEntries k (Prod.fst p0, Prod.fst (Prod.snd p0), Prod.snd (Prod.snd p0)) p2) fun z0 => if (!z0) = true then some ([], ((0 : Int), (0 : Int), []), false) else Option.bind (f_impl_areFaults k (Prod.fst p0, Prod.fst (Prod.snd p0), Prod.snd (Prod.snd p0)) p1) fun z1 => if (!z1) = true then some ([], ((0 : Int), (0 : Int), []), false) else Option.bind (f_impl_faultyDrops k (Prod.fst p0, Prod.fst (Prod.snd p0), Prod.snd (Prod.snd p0)) p1 p2) fun z2 => some (Prod.fst z2, (Prod.fst (Prod.snd z2), Prod.fst (Prod.snd (Prod.snd z2)), Prod.snd (Prod.snd (Prod.snd z2))), true)
noncomputable def d_impl_FaultyFalls : FnDef := .of q_impl_FaultyFalls r_impl_FaultyFalls (List (Int × Int × Int) × (Int × Int × List (Int × Int)) × Bool) (fun k x => f_impl_FaultyFalls k x.1 x.2.1 x.2.2.1) to_impl_FaultyFalls of_impl_FaultyFalls to_of_impl_FaultyFalls
noncomputable def c_impl_FaultyFalls : Code := Try.f39.body.getD .skip
noncomputable def x_impl_FaultyFalls : Ctx (Tup r_impl_FaultyFalls × OutD) := { T := T, G := [(118, d_impl_validEntries.E), (119, d_impl_areFaults.E), (120, d_impl_faultyDrops.E)], mvs := [], no := 0, n := 31, res := resOf T q_impl_FaultyFalls r_impl_FaultyFalls Try.f39.results.toList, loops := [], regs := [], conds := [] }
theorem g_impl_FaultyFalls (k : Nat) : EnvOK Try.prog k x_impl_FaultyFalls.G := (EnvOK.cons (s_impl_validEntries k) (EnvOK.cons (s_impl_areFaults k) (EnvOK.cons (s_impl_faultyDrops k) (EnvOK.nil mixed))))
theorem h_impl_FaultyFalls (k : Nat) (x : Tup d_impl_FaultyFalls.ps) : d_impl_FaultyFalls.f (k + 1) x = fnK d_impl_FaultyFalls x_impl_FaultyFalls c_impl_FaultyFalls k x := by kernel_rfl
theorem z_impl_FaultyFalls (x : Tup d_impl_FaultyFalls.ps) : d_impl_FaultyFalls.f 0 x = none := by kernel_rfl
theorem l_impl_FaultyFalls (k : Nat) : LOK Try.prog x_impl_FaultyFalls k c_impl_FaultyFalls := LOK.by [] (by kernel_rfl) AllOK.nil
theorem s_impl_FaultyFalls (k : Nat) : SoundAt Try.prog k 39 d_impl_FaultyFalls.E := @fn_all Try.prog d_impl_FaultyFalls x_impl_FaultyFalls 39 Try.f39 c_impl_FaultyFalls (by kernel_rfl) (by kernel_rfl) (by kernel_rfl) Try.func39 (by kernel_rfl) (by kernel_rfl) (by kernel_rfl) T_ok g_impl_FaultyFalls l_impl_FaultyFalls z_impl_FaultyFalls h_impl_FaultyFalls k
/-! function 42 -/
noncomputable def r_impl_FaultyFall : List PK := [PK.mk (Ty.pair (Ty.int IntKind.i64) (Ty.pair (Ty.int IntKind.i64) (Ty.int IntKind.i64))) true none false none, PK.mk Ty.bool false none false none]
noncomputable def q_impl_FaultyFall : List PK := [PK.mk (Ty.pair (Ty.int IntKind.i64) (Ty.pair (Ty.int IntKind.i64) (Ty.slice (79 : Nat) (Ty.pair (Ty.int IntKind.i64) (Ty.int IntKind.i64))))) true none false none, PK.mk (Ty.slice (77 : Nat) (Ty.pair (Ty.int IntKind.i64) (Ty.pair (Ty.int IntKind.i64) (Ty.int IntKind.i64)))) false none false none, PK.mk (Ty.int IntKind.i64) false none false none]
noncomputable def to_impl_FaultyFall (r : (Int × Int × Int) × Bool) : Tup r_impl_FaultyFall × OutD := ((r.1, r.2, ()), none)
noncomputable def of_impl_FaultyFall : Tup r_impl_FaultyFall × OutD → Option ((Int × Int × Int) × Bool)
  | (a, none) => some (a.1, a.2.1)
  | _ => none
theorem to_of_impl_FaultyFall : ∀ b r, of_impl_FaultyFall b = some r → to_impl_FaultyFall r = b := by
  rintro ⟨a, o⟩ r h
  cases o with
  | none => injection h with h; subst h; rfl
  | some _ => cases h
noncomputable def f_impl_FaultyFall : Nat → Int × Int × List (Int × Int) → List (Int × Int × Int) → Int → Option ((Int × Int × Int) × Bool)
  | 0, _, _, _ => none
  | k + 1, p0, p1, p2 =>
    Option.bind (f_impl_validEntry k (Prod.fst p0, Prod.fst (Prod.snd p0), Prod.snd (Prod.snd p0)) p2) fun z0 => if (!z0) = true then some (((0 : Int), (0 : Int), (0 : Int)), false) else Option.bind (f_impl_areFaults k (Prod.fst p0, Prod.fst (Prod.snd p0), Prod.snd (Prod.snd p0)) p1) fun z1 => if (!z1) = true then some (((0 : Int), (0 : Int), (0 : Int)), false) else Option.bind (f_impl_copyBoard k (Prod.fst p0, Prod.fst (Prod.snd p0), Prod.snd (Prod.snd p0))) fun z2 => Option.bind (f_impl_groupNumbers k (Prod.fst p0, Prod.fst (Prod.snd p0), Prod.snd (Prod.snd p0))) fun z3 => Option.bind (f_impl_faultsByCell k (Prod.fst p0, Prod.fst (Prod.snd p0), Prod.snd (Prod.snd p0)) p1) fun z4 => Option.bind (f_impl_faultyDrop k (Prod.fst z2, Prod.fst (Prod.snd z2), Prod.snd (Prod.snd z2)) z3 z4 p2) fun z5 => some ((Prod.fst (Prod.fst z5), Prod.fst (Prod.snd (Prod.fst z5)), Prod.snd (Prod.snd (Prod.fst z5))), true)
noncomputable def d_impl_FaultyFall : FnDef := .of q_impl_FaultyFall r_impl_FaultyFall ((Int × Int × Int) × Bool) (fun k x => f_impl_FaultyFall k x.1 x.2.1 x.2.2.1) to_impl_FaultyFall of_impl_FaultyFall to_of_impl_FaultyFall
noncomputable def c_impl_FaultyFall : Code := Try.f42.body.getD .skip
noncomputable def x_impl_FaultyFall : Ctx (Tup r_impl_FaultyFall × OutD) := { T := T, G := [(125, d_impl_validEntry.E), (119, d_impl_areFaults.E), (127, d_impl_copyBoard.E), (128, d_impl_groupNumbers.E), (129, d_impl_faultsByCell.E), (126, d_impl_faultyDrop.E)], mvs := [], no := 0, n := 28, res := resOf T q_impl_FaultyFall r_impl_FaultyFall Try.f42.results.toList, loops := [], regs := [], conds := [] }
theorem g_impl_FaultyFall (k : Nat) : EnvOK Try.prog k x_impl_FaultyFall.G := (EnvOK.cons (s_impl_validEntry k) (EnvOK.cons (s_impl_areFaults k) (EnvOK.cons (s_impl_copyBoard k) (EnvOK.cons (s_impl_groupNumbers k) (EnvOK.cons (s_impl_faultsByCell k) (EnvOK.cons (s_impl_faultyDrop k) (EnvOK.nil mixed)))))))
theorem h_impl_FaultyFall (k : Nat) (x : Tup d_impl_FaultyFall.ps) : d_impl_FaultyFall.f (k + 1) x = fnK d_impl_FaultyFall x_impl_FaultyFall c_impl_FaultyFall k x := by kernel_rfl
theorem z_impl_FaultyFall (x : Tup d_impl_FaultyFall.ps) : d_impl_FaultyFall.f 0 x = none := by kernel_rfl
theorem l_impl_FaultyFall (k : Nat) : LOK Try.prog x_impl_FaultyFall k c_impl_FaultyFall := LOK.by [] (by kernel_rfl) AllOK.nil
theorem s_impl_FaultyFall (k : Nat) : SoundAt Try.prog k 42 d_impl_FaultyFall.E := @fn_all Try.prog d_impl_FaultyFall x_impl_FaultyFall 42 Try.f42 c_impl_FaultyFall (by kernel_rfl) (by kernel_rfl) (by kernel_rfl) Try.func42 (by kernel_rfl) (by kernel_rfl) (by kernel_rfl) T_ok g_impl_FaultyFall l_impl_FaultyFall z_impl_FaultyFall h_impl_FaultyFall k
/-! function 43 -/
noncomputable def r_spec_FaultyFall : List PK := [PK.mk (Ty.pair (Ty.int IntKind.i64) (Ty.pair (Ty.int IntKind.i64) (Ty.int IntKind.i64))) true none false none, PK.mk Ty.bool false none false none]
noncomputable def q_spec_FaultyFall : List PK := [PK.mk (Ty.pair (Ty.int IntKind.i64) (Ty.pair (Ty.int IntKind.i64) (Ty.slice (79 : Nat) (Ty.pair (Ty.int IntKind.i64) (Ty.int IntKind.i64))))) true none false none, PK.mk (Ty.slice (77 : Nat) (Ty.pair (Ty.int IntKind.i64) (Ty.pair (Ty.int IntKind.i64) (Ty.int IntKind.i64)))) false none false none, PK.mk (Ty.int IntKind.i64) false none false none]
noncomputable def to_spec_FaultyFall (r : (Int × Int × Int) × Bool) : Tup r_spec_FaultyFall × OutD := ((r.1, r.2, ()), none)
noncomputable def of_spec_FaultyFall : Tup r_spec_FaultyFall × OutD → Option ((Int × Int × Int) × Bool)
  | (a, none) => some (a.1, a.2.1)
  | _ => none
theorem to_of_spec_FaultyFall : ∀ b r, of_spec_FaultyFall b = some r → to_spec_FaultyFall r = b := by
  rintro ⟨a, o⟩ r h
  cases o with
  | none => injection h with h; subst h; rfl
  | some _ => cases h
noncomputable def f_spec_FaultyFall : Nat → Int × Int × List (Int × Int) → List (Int × Int × Int) → Int → Option ((Int × Int × Int) × Bool)
  | 0, _, _, _ => none
  | k + 1, p0, p1, p2 =>
    Option.bind (f_spec_faHas k (Prod.fst p0, Prod.fst (Prod.snd p0), Prod.snd (Prod.snd p0)) p1 p2) fun z0 => if (!z0) = true then some (((0 : Int), (0 : Int), (0 : Int)), false) else Option.bind (f_spec_faRun k (Prod.fst p0, Prod.fst (Prod.snd p0), Prod.snd (Prod.snd p0)) p1 p2) fun z1 => some ((Prod.fst (Prod.fst z1), Prod.fst (Prod.snd (Prod.fst z1)), Prod.snd (Prod.snd (Prod.fst z1))), true)
noncomputable def d_spec_FaultyFall : FnDef := .of q_spec_FaultyFall r_spec_FaultyFall ((Int × Int × Int) × Bool) (fun k x => f_spec_FaultyFall k x.1 x.2.1 x.2.2.1) to_spec_FaultyFall of_spec_FaultyFall to_of_spec_FaultyFall
noncomputable def c_spec_FaultyFall : Code := Try.f43.body.getD .skip
noncomputable def x_spec_FaultyFall : Ctx (Tup r_spec_FaultyFall × OutD) := { T := T, G := [(130, d_spec_faHas.E), (131, d_spec_faRun.E)], mvs := [], no := 0, n := 24, res := resOf T q_spec_FaultyFall r_spec_FaultyFall Try.f43.results.toList, loops := [], regs := [], conds := [] }
theorem g_spec_FaultyFall (k : Nat) : EnvOK Try.prog k x_spec_FaultyFall.G := (EnvOK.cons (s_spec_faHas k) (EnvOK.cons (s_spec_faRun k) (EnvOK.nil mixed)))
theorem h_spec_FaultyFall (k : Nat) (x : Tup d_spec_FaultyFall.ps) : d_spec_FaultyFall.f (k + 1) x = fnK d_spec_FaultyFall x_spec_FaultyFall c_spec_FaultyFall k x := by kernel_rfl
theorem z_spec_FaultyFall (x : Tup d_spec_FaultyFall.ps) : d_spec_FaultyFall.f 0 x = none := by kernel_rfl
theorem l_spec_FaultyFall (k : Nat) : LOK Try.prog x_spec_FaultyFall k c_spec_FaultyFall := LOK.by [] (by kernel_rfl) AllOK.nil
theorem s_spec_FaultyFall (k : Nat) : SoundAt Try.prog k 43 d_spec_FaultyFall.E := @fn_all Try.prog d_spec_FaultyFall x_spec_FaultyFall 43 Try.f43 c_spec_FaultyFall (by kernel_rfl) (by kernel_rfl) (by kernel_rfl) Try.func43 (by kernel_rfl) (by kernel_rfl) (by kernel_rfl) T_ok g_spec_FaultyFall l_spec_FaultyFall z_spec_FaultyFall h_spec_FaultyFall k
/-! function 44 -/
noncomputable def r_impl_FaultyBoard : List PK := [PK.mk (Ty.pair (Ty.int IntKind.i64) (Ty.pair (Ty.int IntKind.i64) (Ty.slice (79 : Nat) (Ty.pair (Ty.int IntKind.i64) (Ty.int IntKind.i64))))) true none false none, PK.mk Ty.bool false none false none]
noncomputable def q_impl_FaultyBoard : List PK := [PK.mk (Ty.pair (Ty.int IntKind.i64) (Ty.pair (Ty.int IntKind.i64) (Ty.slice (79 : Nat) (Ty.pair (Ty.int IntKind.i64) (Ty.int IntKind.i64))))) true none false none, PK.mk (Ty.slice (77 : Nat) (Ty.pair (Ty.int IntKind.i64) (Ty.pair (Ty.int IntKind.i64) (Ty.int IntKind.i64)))) false none false none, PK.mk (Ty.int IntKind.i64) false none false none]
noncomputable def to_impl_FaultyBoard (r : (Int × Int × List (Int × Int)) × Bool) : Tup r_impl_FaultyBoard × OutD := ((r.1, r.2, ()), none)
noncomputable def of_impl_FaultyBoard : Tup r_impl_FaultyBoard × OutD → Option ((Int × Int × List (Int × Int)) × Bool)
  | (a, none) => some (a.1, a.2.1)
  | _ => none
theorem to_of_impl_FaultyBoard : ∀ b r, of_impl_FaultyBoard b = some r → to_impl_FaultyBoard r = b := by
  rintro ⟨a, o⟩ r h
  cases o with
  | none => injection h with h; subst h; rfl
  | some _ => cases h
noncomputable def f_impl_FaultyBoard : Nat → Int × Int × List (Int × Int) → List (Int × Int × Int) → Int → Option ((Int × Int × List (Int × Int)) × Bool)
  | 0, _, _, _ => none
  | k + 1, p0, p1, p2 =>
    Option.bind (f_impl_validEntry k (Prod.fst p0, Prod.fst (Prod.snd p0), Prod.snd (Prod.snd p0)) p2) fun z0 => if (!z0) = true then some (((0 : Int), (0 : Int), []), false) else Option.bind (f_impl_areFaults k (Prod.fst p0, Prod.fst (Prod.snd p0), Prod.snd (Prod.snd p0)) p1) fun z1 => if (!z1) = true then some (((0 : Int), (0 : Int), []), false) else Option.bind (f_impl_copyBoard k (Prod.fst p0, Prod.fst (Prod.snd p0), Prod.snd (Prod.snd p0))) fun z2 => Option.bind (f_impl_groupNumbers k (Prod.fst p0, Prod.fst (Prod.snd p0), Prod.snd (Prod.snd p0))) fun z3 => Option.bind (f_impl_faultsByCell k (Prod.fst p0, Prod.fst (Prod.snd p0), Prod.snd (Prod.snd p0)) p1) fun z4 => Option.bind (f_impl_faultyDrop k (Prod.fst z2, Prod.fst (Prod.snd z2), Prod.snd (Prod.snd z2)) z3 z4 p2) fun z5 => some ((Prod.fst z2, Prod.fst (Prod.snd z2), Prod.snd z5), true)
noncomputable def d_impl_FaultyBoard : FnDef := .of q_impl_FaultyBoard r_impl_FaultyBoard ((Int × Int × List (Int × Int)) × Bool) (fun k x => f_impl_FaultyBoard k x.1 x.2.1 x.2.2.1) to_impl_FaultyBoard of_impl_FaultyBoard to_of_impl_FaultyBoard
noncomputable def c_impl_FaultyBoard : Code := Try.f44.body.getD .skip
noncomputable def x_impl_FaultyBoard : Ctx (Tup r_impl_FaultyBoard × OutD) := { T := T, G := [(125, d_impl_validEntry.E), (119, d_impl_areFaults.E), (127, d_impl_copyBoard.E), (128, d_impl_groupNumbers.E), (129, d_impl_faultsByCell.E), (126, d_impl_faultyDrop.E)], mvs := [], no := 0, n := 31, res := resOf T q_impl_FaultyBoard r_impl_FaultyBoard Try.f44.results.toList, loops := [], regs := [], conds := [] }
theorem g_impl_FaultyBoard (k : Nat) : EnvOK Try.prog k x_impl_FaultyBoard.G := (EnvOK.cons (s_impl_validEntry k) (EnvOK.cons (s_impl_areFaults k) (EnvOK.cons (s_impl_copyBoard k) (EnvOK.cons (s_impl_groupNumbers k) (EnvOK.cons (s_impl_faultsByCell k) (EnvOK.cons (s_impl_faultyDrop k) (EnvOK.nil mixed)))))))
theorem h_impl_FaultyBoard (k : Nat) (x : Tup d_impl_FaultyBoard.ps) : d_impl_FaultyBoard.f (k + 1) x = fnK d_impl_FaultyBoard x_impl_FaultyBoard c_impl_FaultyBoard k x := by kernel_rfl
theorem z_impl_FaultyBoard (x : Tup d_impl_FaultyBoard.ps) : d_impl_FaultyBoard.f 0 x = none := by kernel_rfl
theorem l_impl_FaultyBoard (k : Nat) : LOK Try.prog x_impl_FaultyBoard k c_impl_FaultyBoard := LOK.by [] (by kernel_rfl) AllOK.nil
theorem s_impl_FaultyBoard (k : Nat) : SoundAt Try.prog k 44 d_impl_FaultyBoard.E := @fn_all Try.prog d_impl_FaultyBoard x_impl_FaultyBoard 44 Try.f44 c_impl_FaultyBoard (by kernel_rfl) (by kernel_rfl) (by kernel_rfl) Try.func44 (by kernel_rfl) (by kernel_rfl) (by kernel_rfl) T_ok g_impl_FaultyBoard l_impl_FaultyBoard z_impl_FaultyBoard h_impl_FaultyBoard k
/-! function 45 -/
noncomputable def r_spec_FaultyBoard : List PK := [PK.mk (Ty.pair (Ty.int IntKind.i64) (Ty.pair (Ty.int IntKind.i64) (Ty.slice (79 : Nat) (Ty.pair (Ty.int IntKind.i64) (Ty.int IntKind.i64))))) true none false none, PK.mk Ty.bool false none false none]
noncomputable def q_spec_FaultyBoard : List PK := [PK.mk (Ty.pair (Ty.int IntKind.i64) (Ty.pair (Ty.int IntKind.i64) (Ty.slice (79 : Nat) (Ty.pair (Ty.int IntKind.i64) (Ty.int IntKind.i64))))) true none false none, PK.mk (Ty.slice (77 : Nat) (Ty.pair (Ty.int IntKind.i64) (Ty.pair (Ty.int IntKind.i64) (Ty.int IntKind.i64)))) false none false none, PK.mk (Ty.int IntKind.i64) false none false none]
noncomputable def to_spec_FaultyBoard (r : (Int × Int × List (Int × Int)) × Bool) : Tup r_spec_FaultyBoard × OutD := ((r.1, r.2, ()), none)
noncomputable def of_spec_FaultyBoard : Tup r_spec_FaultyBoard × OutD → Option ((Int × Int × List (Int × Int)) × Bool)
  | (a, none) => some (a.1, a.2.1)
  | _ => none
theorem to_of_spec_FaultyBoard : ∀ b r, of_spec_FaultyBoard b = some r → to_spec_FaultyBoard r = b := by
  rintro ⟨a, o⟩ r h
  cases o with
  | none => injection h with h; subst h; rfl
  | some _ => cases h
noncomputable def f_spec_FaultyBoard : Nat → Int × Int × List (Int × Int) → List (Int × Int × Int) → Int → Option ((Int × Int × List (Int × Int)) × Bool)
  | 0, _, _, _ => none
  | k + 1, p0, p1, p2 =>
    Option.bind (f_spec_faHas k (Prod.fst p0, Prod.fst (Prod.snd p0), Prod.snd (Prod.snd p0)) p1 p2) fun z0 => if (!z0) = true then some (((0 : Int), (0 : Int), []), false) else Option.bind (f_spec_faRun k (Prod.fst p0, Prod.fst (Prod.snd p0), Prod.snd (Prod.snd p0)) p1 p2) fun z1 => some ((Prod.fst (Prod.snd z1), Prod.fst (Prod.snd (Prod.snd z1)), Prod.snd (Prod.snd (Prod.snd z1))), true)
noncomputable def d_spec_FaultyBoard : FnDef := .of q_spec_FaultyBoard r_spec_FaultyBoard ((Int × Int × List (Int × Int)) × Bool) (fun k x => f_spec_FaultyBoard k x.1 x.2.1 x.2.2.1) to_spec_FaultyBoard of_spec_FaultyBoard to_of_spec_FaultyBoard
noncomputable def c_spec_FaultyBoard : Code := Try.f45.body.getD .skip
noncomputable def x_spec_FaultyBoard : Ctx (Tup r_spec_FaultyBoard × OutD) := { T := T, G := [(130, d_spec_faHas.E), (131, d_spec_faRun.E)], mvs := [], no := 0, n := 24, res := resOf T q_spec_FaultyBoard r_spec_FaultyBoard Try.f45.results.toList, loops := [], regs := [], conds := [] }
theorem g_spec_FaultyBoard (k : Nat) : EnvOK Try.prog k x_spec_FaultyBoard.G := (EnvOK.cons (s_spec_faHas k) (EnvOK.cons (s_spec_faRun k) (EnvOK.nil mixed)))
theorem h_spec_FaultyBoard (k : Nat) (x : Tup d_spec_FaultyBoard.ps) : d_spec_FaultyBoard.f (k + 1) x = fnK d_spec_FaultyBoard x_spec_FaultyBoard c_spec_FaultyBoard k x := by kernel_rfl
theorem z_spec_FaultyBoard (x : Tup d_spec_FaultyBoard.ps) : d_spec_FaultyBoard.f 0 x = none := by kernel_rfl
theorem l_spec_FaultyBoard (k : Nat) : LOK Try.prog x_spec_FaultyBoard k c_spec_FaultyBoard := LOK.by [] (by kernel_rfl) AllOK.nil
theorem s_spec_FaultyBoard (k : Nat) : SoundAt Try.prog k 45 d_spec_FaultyBoard.E := @fn_all Try.prog d_spec_FaultyBoard x_spec_FaultyBoard 45 Try.f45 c_spec_FaultyBoard (by kernel_rfl) (by kernel_rfl) (by kernel_rfl) Try.func45 (by kernel_rfl) (by kernel_rfl) (by kernel_rfl) T_ok g_spec_FaultyBoard l_spec_FaultyBoard z_spec_FaultyBoard h_spec_FaultyBoard k
/-! function 47 -/
noncomputable def r_impl_AreFaults : List PK := [PK.mk Ty.bool false none false none, PK.mk Ty.bool false none false none]
noncomputable def q_impl_AreFaults : List PK := [PK.mk (Ty.pair (Ty.int IntKind.i64) (Ty.pair (Ty.int IntKind.i64) (Ty.slice (79 : Nat) (Ty.pair (Ty.int IntKind.i64) (Ty.int IntKind.i64))))) true none false none, PK.mk (Ty.slice (77 : Nat) (Ty.pair (Ty.int IntKind.i64) (Ty.pair (Ty.int IntKind.i64) (Ty.int IntKind.i64)))) false none false none]
noncomputable def to_impl_AreFaults (r : Bool × Bool) : Tup r_impl_AreFaults × OutD := ((r.1, r.2, ()), none)
noncomputable def of_impl_AreFaults : Tup r_impl_AreFaults × OutD → Option (Bool × Bool)
  | (a, none) => some (a.1, a.2.1)
  | _ => none
theorem to_of_impl_AreFaults : ∀ b r, of_impl_AreFaults b = some r → to_impl_AreFaults r = b := by
  rintro ⟨a, o⟩ r h
  cases o with
  | none => injection h with h; subst h; rfl
  | some _ => cases h
noncomputable def f_impl_AreFaults : Nat → Int × Int × List (Int × Int) → List (Int × Int × Int) → Option (Bool × Bool)
  | 0, _, _ => none
  | k + 1, p0, p1 =>
    Option.bind (f_impl_IsBoard k (Prod.fst p0, Prod.fst (Prod.snd p0), Prod.snd (Prod.snd p0))) fun z0 => if (!z0) = true then some (false, false) else Option.bind (f_impl_areFaults k (Prod.fst p0, Prod.fst (Prod.snd p0), Prod.snd (Prod.snd p0)) p1) fun z1 => some (z1, true)
noncomputable def d_impl_AreFaults : FnDef := .of q_impl_AreFaults r_impl_AreFaults (Bool × Bool) (fun k x => f_impl_AreFaults k x.1 x.2.1) to_impl_AreFaults of_impl_AreFaults to_of_impl_AreFaults
noncomputable def c_impl_AreFaults : Code := Try.f47.body.getD .skip
noncomputable def x_impl_AreFaults : Ctx (Tup r_impl_AreFaults × OutD) := { T := T, G := [(132, d_impl_IsBoard.E), (119, d_impl_areFaults.E)], mvs := [], no := 0, n := 12, res := resOf T q_impl_AreFaults r_impl_AreFaults Try.f47.results.toList, loops := [], regs := [], conds := [] }
theorem g_impl_AreFaults (k : Nat) : EnvOK Try.prog k x_impl_AreFaults.G := (EnvOK.cons (s_impl_IsBoard k) (EnvOK.cons (s_impl_areFaults k) (EnvOK.nil mixed)))
theorem h_impl_AreFaults (k : Nat) (x : Tup d_impl_AreFaults.ps) : d_impl_AreFaults.f (k + 1) x = fnK d_impl_AreFaults x_impl_AreFaults c_impl_AreFaults k x := by kernel_rfl
theorem z_impl_AreFaults (x : Tup d_impl_AreFaults.ps) : d_impl_AreFaults.f 0 x = none := by kernel_rfl
theorem l_impl_AreFaults (k : Nat) : LOK Try.prog x_impl_AreFaults k c_impl_AreFaults := LOK.by [] (by kernel_rfl) AllOK.nil
theorem s_impl_AreFaults (k : Nat) : SoundAt Try.prog k 47 d_impl_AreFaults.E := @fn_all Try.prog d_impl_AreFaults x_impl_AreFaults 47 Try.f47 c_impl_AreFaults (by kernel_rfl) (by kernel_rfl) (by kernel_rfl) Try.func47 (by kernel_rfl) (by kernel_rfl) (by kernel_rfl) T_ok g_impl_AreFaults l_impl_AreFaults z_impl_AreFaults h_impl_AreFaults k
/-! function 60 -/
/-! function 61 -/
/-! function 64 -/
/-! function 68 -/
/-! function 75 -/
/-! function 76 -/
/-! function 81 -/
/-! function 82 -/
/-! function 84 -/
/-! function 138 -/
/-! function 140 -/
/-! function 141 -/
/-! function 142 -/
/-! function 153 -/
/-! function 167 -/
/-! function 177 -/
noncomputable def r_spec_l1Cur_anyBoard : List PK := [PK.mk (Ty.pair (Ty.int IntKind.i64) (Ty.pair (Ty.int IntKind.i64) (Ty.slice (79 : Nat) (Ty.pair (Ty.int IntKind.i64) (Ty.int IntKind.i64))))) true none false none]
noncomputable def q_spec_l1Cur_anyBoard : List PK := [PK.mk (Ty.pair (Ty.slice (5 : Nat) (Ty.int IntKind.u8)) (Ty.pair (Ty.int IntKind.i64) (Ty.int IntKind.u64))) false none false (some (114 : Nat))]
noncomputable def to_spec_l1Cur_anyBoard (r : (Int × Int × List (Int × Int)) × Int × Int) : Tup r_spec_l1Cur_anyBoard × OutD := ((r.1, ()), some ⟨Ty.pair (Ty.slice (5 : Nat) (Ty.int IntKind.u8)) (Ty.pair (Ty.int IntKind.i64) (Ty.int IntKind.u64)), [([], r.2)]⟩)
noncomputable def of_spec_l1Cur_anyBoard : Tup r_spec_l1Cur_anyBoard × OutD → Option ((Int × Int × List (Int × Int)) × Int × Int)
  | (a, some ⟨u, ys⟩) => if h : u = Ty.pair (Ty.slice (5 : Nat) (Ty.int IntKind.u8)) (Ty.pair (Ty.int IntKind.i64) (Ty.int IntKind.u64)) then (match castU h ys with
    | [([], y)] => some (a.1, y)
    | _ => none) else none
  | _ => none
theorem to_of_spec_l1Cur_anyBoard : ∀ b r, of_spec_l1Cur_anyBoard b = some r → to_spec_l1Cur_anyBoard r = b := by
  rintro ⟨a, o⟩ r h
  cases o with
  | none => cases h
  | some s =>
    obtain ⟨u, ys⟩ := s
    simp only [of_spec_l1Cur_anyBoard] at h
    split at h
    · rename_i hu
      subst hu
      match ys, h with
      | [], h => cases (show (none : Option _) = some r from h)
      | [([], y)], h => injection (show some _ = some r from h) with h; subst h; rfl
      | [(_ :: _, y)], h => cases (show (none : Option _) = some r from h)
      | (h1, _) :: _ :: _, h => cases h1 <;> cases (show (none : Option _) = some r from h)
    · cases h
noncomputable def f_spec_l1Cur_anyBoard_g8 : Nat → Int → Int → List Int → Int → Int → List (Int × Int) → Int → Int → List (Int × Int) → Option (Int × Int × List Int × Int × Int × List (Int × Int) × Int × Int × List (Int × Int)) := fun k b1_1 b1_2 o2 b3_0 b3_1 o4 b5_0 b5_1 o6 =>
    Option.bind (f_spec_l1Cur_pick k (o2, b1_1, b1_2) (↑(List.length o6) : Int)) fun z4 => Option.bind (f_spec_l1Cur_anyCell k (o2, Prod.fst (Prod.snd z4), Prod.snd (Prod.snd z4))) fun z5 => if (0 : Int) ≤ Prod.fst z4 then if Prod.fst z4 < (↑(List.length o6) : Int) then some (Prod.fst (Prod.snd z5), Prod.snd (Prod.snd z5), o2, b3_0, b3_1, o4, b5_0, b5_1, List.set o6 (Int.toNat (Prod.fst z4)) (Prod.fst (Prod.fst z5), Prod.snd (Prod.fst z5))) else none else none
noncomputable def f_spec_l1Cur_anyBoard_g8A : Nat → Int → Int → List Int → Int → Int → List (Int × Int) → Int → Int → List (Int × Int) → Option (List (Int × Int × List Int × Int × Int × List (Int × Int) × Int × Int × List (Int × Int))) := fun k b1_1 b1_2 o2 b3_0 b3_1 o4 b5_0 b5_1 o6 =>
    joinL (Option.bind (f_spec_l1Cur_pick k (o2, b1_1, b1_2) (↑(List.length o6) : Int)) fun z6 => Option.bind (f_spec_l1Cur_anyCell k (o2, Prod.fst (Prod.snd z6), Prod.snd (Prod.snd z6))) fun z7 => if (0 : Int) ≤ Prod.fst z6 then if Prod.fst z6 < (↑(List.length o6) : Int) then some [(Prod.fst (Prod.snd z7), Prod.snd (Prod.snd z7), o2, b3_0, b3_1, o4, b5_0, b5_1, List.set o6 (Int.toNat (Prod.fst z6)) (Prod.fst (Prod.fst z7), Prod.snd (Prod.fst z7)))] else none else none) (Option.bind (f_spec_l1Cur_pick k (o2, b1_1, b1_2) (↑(List.length o6) : Int)) fun z8 => joinL (Option.bind (f_spec_l1Cur_anyCell k (o2, Prod.fst (Prod.snd z8), Prod.snd (Prod.snd z8))) fun z9 => if (0 : Int) ≤ Prod.fst z8 then if Prod.fst z8 < (↑(List.length o6) : Int) then some [(Prod.fst (Prod.snd z9), Prod.snd (Prod.snd z9), o2, b3_0, b3_1, o4, b5_0, b5_1, List.set o6 (Int.toNat (Prod.fst z8)) (Prod.fst (Prod.fst z9), Prod.snd (Prod.fst z9)))] else none else none) (Option.bind (f_spec_l1Cur_anyCell k (o2, Prod.fst (Prod.snd z8), Prod.snd (Prod.snd z8))) fun z10 => if (0 : Int) ≤ Prod.fst z8 then if Prod.fst z8 < (↑(List.length o6) : Int) then some [(Prod.fst (Prod.snd z10), Prod.snd (Prod.snd z10), o2, b3_0, b3_1, o4, b5_0, b5_1, List.set o6 (Int.toNat (Prod.fst z8)) (Prod.fst (Prod.fst z10), Prod.snd (Prod.fst z10)))] else none else none))
noncomputable def f_spec_l1Cur_anyBoard_g8i : Spec := Spec.mk [OSh.ro, OSh.box (114 : Nat) [Sh.sl (2 : Nat), Sh.int IntKind.i64, Sh.int IntKind.u64], OSh.fx (Ty.int IntKind.u8), OSh.box (53 : Nat) [Sh.int IntKind.i64, Sh.int IntKind.i64, Sh.sl (4 : Nat)], OSh.row true (79 : Nat) (Ty.pair (Ty.int IntKind.i64) (Ty.int IntKind.i64)), OSh.box (53 : Nat) [Sh.int IntKind.i64, Sh.int IntKind.i64, Sh.sl (6 : Nat)], OSh.row true (79 : Nat) (Ty.pair (Ty.int IntKind.i64) (Ty.int IntKind.i64))] [((0 : Nat), TSh.at (Sh.ptr (1 : Nat) (0 : Nat))), ((2 : Nat), TSh.at (Sh.ptr (3 : Nat) (0 : Nat))), ((3 : Nat), TSh.at (Sh.ptr (5 : Nat) (0 : Nat)))]
noncomputable def f_spec_l1Cur_anyBoard_g8o : Spec := Spec.mk [OSh.ro, OSh.box (114 : Nat) [Sh.sl (2 : Nat), Sh.int IntKind.i64, Sh.int IntKind.u64], OSh.fx (Ty.int IntKind.u8), OSh.box (53 : Nat) [Sh.int IntKind.i64, Sh.int IntKind.i64, Sh.sl (4 : Nat)], OSh.row true (79 : Nat) (Ty.pair (Ty.int IntKind.i64) (Ty.int IntKind.i64)), OSh.box (53 : Nat) [Sh.int IntKind.i64, Sh.int IntKind.i64, Sh.sl (6 : Nat)], OSh.row true (79 : Nat) (Ty.pair (Ty.int IntKind.i64) (Ty.int IntKind.i64))] [((2 : Nat), TSh.at (Sh.ptr (3 : Nat) (0 : Nat))), ((3 : Nat), TSh.at (Sh.ptr (5 : Nat) (0 : Nat)))]
noncomputable def f_spec_l1Cur_anyBoard_g8D : LoopDef (Tup r_spec_l1Cur_anyBoard × OutD) := .plain f_spec_l1Cur_anyBoard_g8i f_spec_l1Cur_anyBoard_g8o (Int × Int × List Int × Int × Int × List (Int × Int) × Int × Int × List (Int × Int)) (fun k x => f_spec_l1Cur_anyBoard_g8 k x.1.2.1.2.1 x.1.2.1.2.2.1 x.1.2.2.1 x.1.2.2.2.1.1 x.1.2.2.2.1.2.1 x.1.2.2.2.2.1 x.1.2.2.2.2.2.1.1 x.1.2.2.2.2.2.1.2.1 x.1.2.2.2.2.2.2.1) (fun z => (((), ((), z.1, z.2.1, ()), z.2.2.1, (z.2.2.2.1, z.2.2.2.2.1, (), ()), z.2.2.2.2.2.1, (z.2.2.2.2.2.2.1, z.2.2.2.2.2.2.2.1, (), ()), z.2.2.2.2.2.2.2.2, ()), ((), (), ()))) (fun y => (y.1.2.1.2.1, y.1.2.1.2.2.1, y.1.2.2.1, y.1.2.2.2.1.1, y.1.2.2.2.1.2.1, y.1.2.2.2.2.1, y.1.2.2.2.2.2.1.1, y.1.2.2.2.2.2.1.2.1, y.1.2.2.2.2.2.2.1)) (fun _ => rfl)
theorem f_spec_l1Cur_anyBoard_g8j (k : Nat) (b1_1 : Int) (b1_2 : Int) (o2 : List Int) (b3_0 : Int) (b3_1 : Int) (o4 : List (Int × Int)) (b5_0 : Int) (b5_1 : Int) (o6 : List (Int × Int)) : f_spec_l1Cur_anyBoard_g8A k b1_1 b1_2 o2 b3_0 b3_1 o4 b5_0 b5_1 o6 = repl 3 (f_spec_l1Cur_anyBoard_g8 k b1_1 b1_2 o2 b3_0 b3_1 o4 b5_0 b5_1 o6) := by
  first
  | (simp only [f_spec_l1Cur_anyBoard_g8A, f_spec_l1Cur_anyBoard_g8, repl_some, repl_ite, repl_ite0, repl_ite1, repl_bind, joinL_repl, if_true]; done)
  | (simp only [f_spec_l1Cur_anyBoard_g8A, f_spec_l1Cur_anyBoard_g8, repl_some, repl_ite, repl_ite0, repl_ite1, repl_bind, joinL_repl, if_true]; simp only [joinL_grdl, joinL_grdr, repl_grd, joinL_repl]; simp only [grd_and]; exact grd_congr ⟨fun h => by simp only [h, and_self], fun h => by simp only [h, and_self]⟩)
noncomputable def f_spec_l1Cur_anyBoard : Nat → List Int × Int × Int → Option ((Int × Int × List (Int × Int)) × Int × Int)
  | 0, _ => none
  | k + 1, p0 =>
    Option.bind (f_spec_l1Cur_board k (Prod.fst p0, Prod.fst (Prod.snd p0), Prod.snd (Prod.snd p0))) fun z0 => Option.bind (f_spec_l1Cur_pick k (Prod.fst p0, Prod.fst (Prod.snd z0), Prod.snd (Prod.snd z0)) (36 : Int)) fun z1 => if decide (Prod.fst z1 = (0 : Int)) = true then Option.bind (f_spec_l1Cur_among k (Prod.fst p0, Prod.fst (Prod.snd z1), Prod.snd (Prod.snd z1)) [(0 : Int), wrap64 (Prod.fst (Prod.fst z0) + (1 : Int)), (10 : Int), (11 : Int)]) fun z2 => some ((Prod.fst z2, Prod.fst (Prod.snd (Prod.fst z0)), Prod.snd (Prod.snd (Prod.fst z0))), Prod.fst (Prod.snd z2), Prod.snd (Prod.snd z2)) else if decide (Prod.fst z1 = (1 : Int)) = true then Option.bind (f_spec_l1Cur_among k (Prod.fst p0, Prod.fst (Prod.snd z1), Prod.snd (Prod.snd z1)) [(0 : Int), wrap64 (Prod.fst (Prod.snd (Prod.fst z0)) + (1 : Int)), (9 : Int), (10 : Int)]) fun z3 => some ((Prod.fst (Prod.fst z0), Prod.fst z3, Prod.snd (Prod.snd (Prod.fst z0))), Prod.fst (Prod.snd z3), Prod.snd (Prod.snd z3)) else if decide (Prod.fst z1 = (2 : Int)) = true then Option.bind (f_spec_l1Cur_anyBoard_g8 k (Prod.fst (Prod.snd z1)) (Prod.snd (Prod.snd z1)) (Prod.fst p0) (0 : Int) (0 : Int) [] (Prod.fst (Prod.fst z0)) (Prod.fst (Prod.snd (Prod.fst z0))) (Prod.snd (Prod.snd (Prod.fst z0)))) fun z11 => some ((Prod.fst (Prod.snd (Prod.snd (Prod.snd (Prod.snd (Prod.snd (Prod.snd z11)))))), Prod.fst (Prod.snd (Prod.snd (Prod.snd (Prod.snd (Prod.snd (Prod.snd (Prod.snd z11))))))), Prod.snd (Prod.snd (Prod.snd (Prod.snd (Prod.snd (Prod.snd (Prod.snd (Prod.snd z11)))))))), Prod.fst z11, Prod.fst (Prod.snd z11)) else if decide (Prod.fst z1 = (3 : Int)) = true then if (1 : Int) ≤ (↑(List.length (Prod.snd (Prod.snd (Prod.fst z0)))) : Int) then if (↑(List.length (Prod.snd (Prod.snd (Prod.fst z0)))) : Int) ≤ (↑(List.length (Prod.snd (Prod.snd (Prod.fst z0)))) : Int) then some ((Prod.fst (Prod.fst z0), Prod.fst (Prod.snd (Prod.fst z0)), List.drop (Int.toNat (1 : Int)) (Prod.snd (Prod.snd (Prod.fst z0)))), Prod.fst (Prod.snd z1), Prod.snd (Prod.snd z1)) else none else none else if decide (Prod.fst z1 = (4 : Int)) = true then some (((11 : Int), (2 : Int), List.replicate (Int.toNat (22 : Int)) ((0 : Int), (0 : Int))), Prod.fst (Prod.snd z1), Prod.snd (Prod.snd z1)) else if decide (Prod.fst z1 = (5 : Int)) = true then some (((2 : Int), (10 : Int), List.replicate (Int.toNat (20 : Int)) ((0 : Int), (0 : Int))), Prod.fst (Prod.snd z1), Prod.snd (Prod.snd z1)) else some ((Prod.fst (Prod.fst z0), Prod.fst (Prod.snd (Prod.fst z0)), Prod.snd (Prod.snd (Prod.fst z0))), Prod.fst (Prod.snd z1), Prod.snd (Prod.snd z1))
noncomputable def d_spec_l1Cur_anyBoard : FnDef := .of q_spec_l1Cur_anyBoard r_spec_l1Cur_anyBoard ((Int × Int × List (Int × Int)) × Int × Int) (fun k x => f_spec_l1Cur_anyBoard k x.1) to_spec_l1Cur_anyBoard of_spec_l1Cur_anyBoard to_of_spec_l1Cur_anyBoard
noncomputable def c_spec_l1Cur_anyBoard : Code := Try.f177.body.getD .skip
noncomputable def x_spec_l1Cur_anyBoard : Ctx (Tup r_spec_l1Cur_anyBoard × OutD) := { T := T, G := [(202, d_spec_l1Cur_board.E), (111, d_spec_l1Cur_pick.E), (90, d_spec_l1Cur_among.E), (203, d_spec_l1Cur_anyCell.E)], mvs := [42], no := 2, n := 53, res := resOf T q_spec_l1Cur_anyBoard r_spec_l1Cur_anyBoard Try.f177.results.toList, loops := [], regs := [(8, f_spec_l1Cur_anyBoard_g8D.E)], conds := [] }
theorem g_spec_l1Cur_anyBoard (k : Nat) : EnvOK Try.prog k x_spec_l1Cur_anyBoard.G := (EnvOK.cons (s_spec_l1Cur_board k) (EnvOK.cons (s_spec_l1Cur_pick k) (EnvOK.cons (s_spec_l1Cur_among k) (EnvOK.cons (s_spec_l1Cur_anyCell k) (EnvOK.nil mixed)))))
noncomputable def f_spec_l1Cur_anyBoard_g8O : Array Oper := (findReg 8 c_spec_l1Cur_anyBoard).getD #[]
theorem f_spec_l1Cur_anyBoard_g8e (k : Nat) (x : f_spec_l1Cur_anyBoard_g8i.D) : execD x_spec_l1Cur_anyBoard.T x_spec_l1Cur_anyBoard.G x_spec_l1Cur_anyBoard.mvs k f_spec_l1Cur_anyBoard_g8O (f_spec_l1Cur_anyBoard_g8D.inp.st x_spec_l1Cur_anyBoard.n x) (outK x_spec_l1Cur_anyBoard f_spec_l1Cur_anyBoard_g8D) = f_spec_l1Cur_anyBoard_g8A k x.1.2.1.2.1 x.1.2.1.2.2.1 x.1.2.2.1 x.1.2.2.2.1.1 x.1.2.2.2.1.2.1 x.1.2.2.2.2.1 x.1.2.2.2.2.2.1.1 x.1.2.2.2.2.2.1.2.1 x.1.2.2.2.2.2.2.1 := by kernel_rfl
theorem f_spec_l1Cur_anyBoard_g8ok (k : Nat) : EOK Try.prog x_spec_l1Cur_anyBoard k f_spec_l1Cur_anyBoard_g8D.E (.region 8 f_spec_l1Cur_anyBoard_g8O true) := reg_ok (D := f_spec_l1Cur_anyBoard_g8D) (m := 3) T_ok (g_spec_l1Cur_anyBoard k) (fun x => (f_spec_l1Cur_anyBoard_g8e k x).trans (f_spec_l1Cur_anyBoard_g8j k x.1.2.1.2.1 x.1.2.1.2.2.1 x.1.2.2.1 x.1.2.2.2.1.1 x.1.2.2.2.1.2.1 x.1.2.2.2.2.1 x.1.2.2.2.2.2.1.1 x.1.2.2.2.2.2.1.2.1 x.1.2.2.2.2.2.2.1))
theorem h_spec_l1Cur_anyBoard (k : Nat) (x : Tup d_spec_l1Cur_anyBoard.ps) : d_spec_l1Cur_anyBoard.f (k + 1) x = fnK d_spec_l1Cur_anyBoard x_spec_l1Cur_anyBoard c_spec_l1Cur_anyBoard k x := by kernel_rfl
theorem z_spec_l1Cur_anyBoard (x : Tup d_spec_l1Cur_anyBoard.ps) : d_spec_l1Cur_anyBoard.f 0 x = none := by kernel_rfl
theorem l_spec_l1Cur_anyBoard (k : Nat) : LOK Try.prog x_spec_l1Cur_anyBoard k c_spec_l1Cur_anyBoard := LOK.by [(f_spec_l1Cur_anyBoard_g8D.E, .region 8 f_spec_l1Cur_anyBoard_g8O true)] (by kernel_rfl) (AllOK.cons (f_spec_l1Cur_anyBoard_g8ok k) AllOK.nil)
theorem s_spec_l1Cur_anyBoard (k : Nat) : SoundAt Try.prog k 177 d_spec_l1Cur_anyBoard.E := @fn_all Try.prog d_spec_l1Cur_anyBoard x_spec_l1Cur_anyBoard 177 Try.f177 c_spec_l1Cur_anyBoard (by kernel_rfl) (by kernel_rfl) (by kernel_rfl) Try.func177 (by kernel_rfl) (by kernel_rfl) (by kernel_rfl) T_ok g_spec_l1Cur_anyBoard l_spec_l1Cur_anyBoard z_spec_l1Cur_anyBoard h_spec_l1Cur_anyBoard k
end
end Go.Proofs.Ytgjmhbjdhihgaaa.Vs
