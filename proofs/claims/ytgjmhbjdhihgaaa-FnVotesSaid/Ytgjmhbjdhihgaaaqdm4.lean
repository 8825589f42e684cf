/- The proof, part 5. -/
import Derived.Test.Ytgjmhbjdhihgaaaqdm3
set_option maxRecDepth 100000
set_option maxHeartbeats 2000000
set_option linter.unusedVariables false
set_option linter.unusedSimpArgs false
namespace Go.Proofs.Ytgjmhbjdhihgaaa.Vs
open Go.RowKit
noncomputable section
/-! function 8 -/
noncomputable def r_laws_big : List PK := [{ t := Ty.bool }]
noncomputable def q_laws_big : List PK := [{ t := Ty.slice (5 : Nat) (Ty.int IntKind.u8) }, { t := Ty.slice (5 : Nat) (Ty.int IntKind.u8) }]
noncomputable def to_laws_big (r : Bool) : Tup r_laws_big × OutD := ((r, ()), none)
noncomputable def of_laws_big : Tup r_laws_big × OutD → Option (Bool)
  | (a, none) => some (a.1)
  | _ => none
theorem to_of_laws_big : ∀ b r, of_laws_big b = some r → to_laws_big r = b := by
  rintro ⟨a, o⟩ r h
  cases o with
  | none => injection h with h; subst h; rfl
  | some _ => cases h
noncomputable def f_laws_big : Nat → List Int → List Int → Option Bool
  | 0, _, _ => none
  | k + 1, p0, p1 =>
    if decide ((↑(List.length p0) : Int) > (1048576 : Int)) = true then some true else some (decide ((↑(List.length p1) : Int) > wrap64 ((1048576 : Int) - (↑(List.length p0) : Int))))
noncomputable def d_laws_big : FnDef := .of q_laws_big r_laws_big (Bool) (fun k x => f_laws_big k x.1 x.2.1) to_laws_big of_laws_big to_of_laws_big
noncomputable def c_laws_big : Code := Try.f8.body.getD .skip
noncomputable def x_laws_big : Ctx (Tup r_laws_big × OutD) := { T := T, G := [], mvs := [], no := 0, n := 16, res := resOf T q_laws_big r_laws_big Try.f8.results.toList, loops := [], regs := [], conds := [] }
theorem g_laws_big (k : Nat) : EnvOK Try.prog k x_laws_big.G := (EnvOK.nil mixed)
theorem h_laws_big (k : Nat) (x : Tup d_laws_big.ps) : d_laws_big.f (k + 1) x = fnK d_laws_big x_laws_big c_laws_big k x := by kernel_rfl
theorem z_laws_big (x : Tup d_laws_big.ps) : d_laws_big.f 0 x = none := by kernel_rfl
theorem l_laws_big (k : Nat) : LOK Try.prog x_laws_big k c_laws_big := LOK.by [] (by kernel_rfl) AllOK.nil
theorem s_laws_big (k : Nat) : SoundAt Try.prog k 8 d_laws_big.E := @fn_all Try.prog d_laws_big x_laws_big 8 Try.f8 c_laws_big (by kernel_rfl) (by kernel_rfl) (by kernel_rfl) Try.func8 (by kernel_rfl) (by kernel_rfl) (by kernel_rfl) T_ok g_laws_big l_laws_big z_laws_big h_laws_big k
/-! function 31 -/
noncomputable def r_laws_sameInts : List PK := [{ t := Ty.bool }]
noncomputable def q_laws_sameInts : List PK := [{ t := Ty.slice (3 : Nat) (Ty.int IntKind.i64) }, { t := Ty.slice (3 : Nat) (Ty.int IntKind.i64) }]
noncomputable def to_laws_sameInts (r : Bool) : Tup r_laws_sameInts × OutD := ((r, ()), none)
noncomputable def of_laws_sameInts : Tup r_laws_sameInts × OutD → Option (Bool)
  | (a, none) => some (a.1)
  | _ => none
theorem to_of_laws_sameInts : ∀ b r, of_laws_sameInts b = some r → to_laws_sameInts r = b := by
  rintro ⟨a, o⟩ r h
  cases o with
  | none => injection h with h; subst h; rfl
  | some _ => cases h
noncomputable def f_laws_sameInts_0 : Nat → List Int → List Int → Int → Int → Option (LR Unit Bool)
  | 0, _, _, _, _ => none
  | k + 1, v0, v1, v12, v13 =>
    if decide (v13 < v12) = true then if (0 : Int) ≤ v13 then if v13 < (↑(List.length v0) : Int) then if (0 : Int) ≤ v13 then if v13 < (↑(List.length v1) : Int) then if decide (List.getD v0 (Int.toNat v13) (0 : Int) ≠ List.getD v1 (Int.toNat v13) (0 : Int)) = true then some (LR.ret false) else f_laws_sameInts_0 k v0 v1 v12 (wrap64 (v13 + (1 : Int))) else none else none else none else none else some (LR.go ())
noncomputable def f_laws_sameInts_0i : Spec := { objs := [OSh.ro], tmps := [((0 : Nat), TSh.at (Sh.snap (0 : Nat) (Ty.int IntKind.i64))), ((1 : Nat), TSh.at (Sh.snap (0 : Nat) (Ty.int IntKind.i64))), ((12 : Nat), TSh.at (Sh.int IntKind.i64)), ((13 : Nat), TSh.at (Sh.int IntKind.i64))] }
noncomputable def f_laws_sameInts_0o : Spec := { objs := [OSh.ro], tmps := [] }
noncomputable def f_laws_sameInts_0D : LoopDef (Tup r_laws_sameInts × OutD) := .rets f_laws_sameInts_0i f_laws_sameInts_0o (Unit) (Bool) (fun k x => f_laws_sameInts_0 k x.2.1 x.2.2.1 x.2.2.2.1 x.2.2.2.2.1) (fun z => (((), ()), (()))) (fun y => ()) (fun _ => rfl) to_laws_sameInts of_laws_sameInts to_of_laws_sameInts
noncomputable def f_laws_sameInts : Nat → List Int → List Int → Option Bool
  | 0, _, _ => none
  | k + 1, p0, p1 =>
    if decide ((↑(List.length p0) : Int) ≠ (↑(List.length p1) : Int)) = true then some false else Option.bind (f_laws_sameInts_0 k p0 p1 (↑(List.length p0) : Int) (0 : Int)) fun z0 => LR.on z0 (fun y0 => some true) fun r0 => some r0
noncomputable def d_laws_sameInts : FnDef := .of q_laws_sameInts r_laws_sameInts (Bool) (fun k x => f_laws_sameInts k x.1 x.2.1) to_laws_sameInts of_laws_sameInts to_of_laws_sameInts
noncomputable def c_laws_sameInts : Code := Try.f31.body.getD .skip
noncomputable def x_laws_sameInts : Ctx (Tup r_laws_sameInts × OutD) := { T := T, G := [], mvs := [], no := 0, n := 26, res := resOf T q_laws_sameInts r_laws_sameInts Try.f31.results.toList, loops := [(0, f_laws_sameInts_0D.E)], regs := [], conds := [] }
theorem g_laws_sameInts (k : Nat) : EnvOK Try.prog k x_laws_sameInts.G := (EnvOK.nil mixed)
noncomputable def f_laws_sameInts_0B : Code := (findLoop 0 c_laws_sameInts).getD .skip
theorem f_laws_sameInts_0h (k : Nat) (x : f_laws_sameInts_0i.D) : f_laws_sameInts_0D.lp (k + 1) x = loopK x_laws_sameInts f_laws_sameInts_0D 0 f_laws_sameInts_0B k x := by kernel_rfl
theorem f_laws_sameInts_0l (k : Nat) : LOK Try.prog x_laws_sameInts k f_laws_sameInts_0B := LOK.by [] (by kernel_rfl) AllOK.nil
theorem f_laws_sameInts_0z (x : f_laws_sameInts_0i.D) : f_laws_sameInts_0D.lp 0 x = none := by kernel_rfl
theorem f_laws_sameInts_0ok (k : Nat) : EOK Try.prog x_laws_sameInts k f_laws_sameInts_0D.E (.block 0 (.loop f_laws_sameInts_0B)) := loop_ok T_ok g_laws_sameInts f_laws_sameInts_0z f_laws_sameInts_0h f_laws_sameInts_0l k
theorem h_laws_sameInts (k : Nat) (x : Tup d_laws_sameInts.ps) : d_laws_sameInts.f (k + 1) x = fnK d_laws_sameInts x_laws_sameInts c_laws_sameInts k x := by kernel_rfl
theorem z_laws_sameInts (x : Tup d_laws_sameInts.ps) : d_laws_sameInts.f 0 x = none := by kernel_rfl
theorem l_laws_sameInts (k : Nat) : LOK Try.prog x_laws_sameInts k c_laws_sameInts := LOK.by [(f_laws_sameInts_0D.E, .block 0 (.loop f_laws_sameInts_0B))] (by kernel_rfl) (AllOK.cons (f_laws_sameInts_0ok k) AllOK.nil)
theorem s_laws_sameInts (k : Nat) : SoundAt Try.prog k 31 d_laws_sameInts.E := @fn_all Try.prog d_laws_sameInts x_laws_sameInts 31 Try.f31 c_laws_sameInts (by kernel_rfl) (by kernel_rfl) (by kernel_rfl) Try.func31 (by kernel_rfl) (by kernel_rfl) (by kernel_rfl) T_ok g_laws_sameInts l_laws_sameInts z_laws_sameInts h_laws_sameInts k
/-! function 32 -/
noncomputable def r_laws_pIn : List PK := [{ t := Ty.bool }]
noncomputable def q_laws_pIn : List PK := [{ t := Ty.slice (3 : Nat) (Ty.int IntKind.i64) }, { t := Ty.int IntKind.i64 }]
noncomputable def to_laws_pIn (r : Bool) : Tup r_laws_pIn × OutD := ((r, ()), none)
noncomputable def of_laws_pIn : Tup r_laws_pIn × OutD → Option (Bool)
  | (a, none) => some (a.1)
  | _ => none
theorem to_of_laws_pIn : ∀ b r, of_laws_pIn b = some r → to_laws_pIn r = b := by
  rintro ⟨a, o⟩ r h
  cases o with
  | none => injection h with h; subst h; rfl
  | some _ => cases h
noncomputable def f_laws_pIn_0 : Nat → Int → List Int → Int → Int → Option (LR Unit Bool)
  | 0, _, _, _, _ => none
  | k + 1, v1, v7, v8, v9 =>
    if decide (v9 < v8) = true then if (0 : Int) ≤ v9 then if v9 < (↑(List.length v7) : Int) then if decide (List.getD v7 (Int.toNat v9) (0 : Int) = v1) = true then some (LR.ret true) else f_laws_pIn_0 k v1 v7 v8 (wrap64 (v9 + (1 : Int))) else none else none else some (LR.go ())
noncomputable def f_laws_pIn_0i : Spec := { objs := [OSh.ro], tmps := [((1 : Nat), TSh.at (Sh.int IntKind.i64)), ((7 : Nat), TSh.at (Sh.snap (0 : Nat) (Ty.int IntKind.i64))), ((8 : Nat), TSh.at (Sh.int IntKind.i64)), ((9 : Nat), TSh.at (Sh.int IntKind.i64))] }
noncomputable def f_laws_pIn_0o : Spec := { objs := [OSh.ro], tmps := [] }
noncomputable def f_laws_pIn_0D : LoopDef (Tup r_laws_pIn × OutD) := .rets f_laws_pIn_0i f_laws_pIn_0o (Unit) (Bool) (fun k x => f_laws_pIn_0 k x.2.1 x.2.2.1 x.2.2.2.1 x.2.2.2.2.1) (fun z => (((), ()), (()))) (fun y => ()) (fun _ => rfl) to_laws_pIn of_laws_pIn to_of_laws_pIn
noncomputable def f_laws_pIn : Nat → List Int → Int → Option Bool
  | 0, _, _ => none
  | k + 1, p0, p1 =>
    Option.bind (f_laws_pIn_0 k p1 p0 (↑(List.length p0) : Int) (0 : Int)) fun z0 => LR.on z0 (fun y0 => some false) fun r0 => some r0
noncomputable def d_laws_pIn : FnDef := .of q_laws_pIn r_laws_pIn (Bool) (fun k x => f_laws_pIn k x.1 x.2.1) to_laws_pIn of_laws_pIn to_of_laws_pIn
noncomputable def c_laws_pIn : Code := Try.f32.body.getD .skip
noncomputable def x_laws_pIn : Ctx (Tup r_laws_pIn × OutD) := { T := T, G := [], mvs := [], no := 0, n := 17, res := resOf T q_laws_pIn r_laws_pIn Try.f32.results.toList, loops := [(0, f_laws_pIn_0D.E)], regs := [], conds := [] }
theorem g_laws_pIn (k : Nat) : EnvOK Try.prog k x_laws_pIn.G := (EnvOK.nil mixed)
noncomputable def f_laws_pIn_0B : Code := (findLoop 0 c_laws_pIn).getD .skip
theorem f_laws_pIn_0h (k : Nat) (x : f_laws_pIn_0i.D) : f_laws_pIn_0D.lp (k + 1) x = loopK x_laws_pIn f_laws_pIn_0D 0 f_laws_pIn_0B k x := by kernel_rfl
theorem f_laws_pIn_0l (k : Nat) : LOK Try.prog x_laws_pIn k f_laws_pIn_0B := LOK.by [] (by kernel_rfl) AllOK.nil
theorem f_laws_pIn_0z (x : f_laws_pIn_0i.D) : f_laws_pIn_0D.lp 0 x = none := by kernel_rfl
theorem f_laws_pIn_0ok (k : Nat) : EOK Try.prog x_laws_pIn k f_laws_pIn_0D.E (.block 0 (.loop f_laws_pIn_0B)) := loop_ok T_ok g_laws_pIn f_laws_pIn_0z f_laws_pIn_0h f_laws_pIn_0l k
theorem h_laws_pIn (k : Nat) (x : Tup d_laws_pIn.ps) : d_laws_pIn.f (k + 1) x = fnK d_laws_pIn x_laws_pIn c_laws_pIn k x := by kernel_rfl
theorem z_laws_pIn (x : Tup d_laws_pIn.ps) : d_laws_pIn.f 0 x = none := by kernel_rfl
theorem l_laws_pIn (k : Nat) : LOK Try.prog x_laws_pIn k c_laws_pIn := LOK.by [(f_laws_pIn_0D.E, .block 0 (.loop f_laws_pIn_0B))] (by kernel_rfl) (AllOK.cons (f_laws_pIn_0ok k) AllOK.nil)
theorem s_laws_pIn (k : Nat) : SoundAt Try.prog k 32 d_laws_pIn.E := @fn_all Try.prog d_laws_pIn x_laws_pIn 32 Try.f32 c_laws_pIn (by kernel_rfl) (by kernel_rfl) (by kernel_rfl) Try.func32 (by kernel_rfl) (by kernel_rfl) (by kernel_rfl) T_ok g_laws_pIn l_laws_pIn z_laws_pIn h_laws_pIn k
/-! function 96 -/
noncomputable def r_spec_l1In : List PK := [{ t := Ty.bool }]
noncomputable def q_spec_l1In : List PK := [{ t := Ty.int IntKind.i64 }, { t := Ty.int IntKind.i64 }, { t := Ty.int IntKind.i64 }]
noncomputable def to_spec_l1In (r : Bool) : Tup r_spec_l1In × OutD := ((r, ()), none)
noncomputable def of_spec_l1In : Tup r_spec_l1In × OutD → Option (Bool)
  | (a, none) => some (a.1)
  | _ => none
theorem to_of_spec_l1In : ∀ b r, of_spec_l1In b = some r → to_spec_l1In r = b := by
  rintro ⟨a, o⟩ r h
  cases o with
  | none => injection h with h; subst h; rfl
  | some _ => cases h
noncomputable def f_spec_l1In : Nat → Int → Int → Int → Option Bool
  | 0, _, _, _ => none
  | k + 1, p0, p1, p2 =>
    if decide (p0 ≥ p1) = true then some (decide (p0 ≤ p2)) else some false
noncomputable def d_spec_l1In : FnDef := .of q_spec_l1In r_spec_l1In (Bool) (fun k x => f_spec_l1In k x.1 x.2.1 x.2.2.1) to_spec_l1In of_spec_l1In to_of_spec_l1In
noncomputable def c_spec_l1In : Code := Try.f96.body.getD .skip
noncomputable def x_spec_l1In : Ctx (Tup r_spec_l1In × OutD) := { T := T, G := [], mvs := [], no := 0, n := 15, res := resOf T q_spec_l1In r_spec_l1In Try.f96.results.toList, loops := [], regs := [], conds := [] }
theorem g_spec_l1In (k : Nat) : EnvOK Try.prog k x_spec_l1In.G := (EnvOK.nil mixed)
theorem h_spec_l1In (k : Nat) (x : Tup d_spec_l1In.ps) : d_spec_l1In.f (k + 1) x = fnK d_spec_l1In x_spec_l1In c_spec_l1In k x := by kernel_rfl
theorem z_spec_l1In (x : Tup d_spec_l1In.ps) : d_spec_l1In.f 0 x = none := by kernel_rfl
theorem l_spec_l1In (k : Nat) : LOK Try.prog x_spec_l1In k c_spec_l1In := LOK.by [] (by kernel_rfl) AllOK.nil
theorem s_spec_l1In (k : Nat) : SoundAt Try.prog k 96 d_spec_l1In.E := @fn_all Try.prog d_spec_l1In x_spec_l1In 96 Try.f96 c_spec_l1In (by kernel_rfl) (by kernel_rfl) (by kernel_rfl) Try.func96 (by kernel_rfl) (by kernel_rfl) (by kernel_rfl) T_ok g_spec_l1In l_spec_l1In z_spec_l1In h_spec_l1In k
/-! function 99 -/
noncomputable def r_impl_mostVoted : List PK := [{ t := Ty.int IntKind.i64 }, { t := Ty.int IntKind.i64 }]
noncomputable def q_impl_mostVoted : List PK := [{ t := Ty.slice (3 : Nat) (Ty.int IntKind.i64) }]
noncomputable def to_impl_mostVoted (r : Int × Int) : Tup r_impl_mostVoted × OutD := ((r.1, r.2, ()), none)
noncomputable def of_impl_mostVoted : Tup r_impl_mostVoted × OutD → Option (Int × Int)
  | (a, none) => some (a.1, a.2.1)
  | _ => none
theorem to_of_impl_mostVoted : ∀ b r, of_impl_mostVoted b = some r → to_impl_mostVoted r = b := by
  rintro ⟨a, o⟩ r h
  cases o with
  | none => injection h with h; subst h; rfl
  | some _ => cases h
noncomputable def f_impl_mostVoted_0 : Nat → Int → Int → Int → Int → Int → Int → Int → Int → Int → Int → List Int → Int → Int → Option (Int × Int × Int × Int × Int × Int × Int × Int × Int × Int)
  | 0, _, _, _, _, _, _, _, _, _, _, _, _, _ => none
  | k + 1, b1_0, b1_1, b1_2, b1_3, b1_4, b1_5, b1_6, b1_7, b1_8, b1_9, v11, v12, v13 =>
    if decide (v13 < v12) = true then if (0 : Int) ≤ v13 then if v13 < (↑(List.length v11) : Int) then if (0 : Int) ≤ List.getD v11 (Int.toNat v13) (0 : Int) then if List.getD v11 (Int.toNat v13) (0 : Int) < (↑(10 : Nat) : Int) then if Int.toNat (List.getD v11 (Int.toNat v13) (0 : Int)) < List.length [b1_0, b1_1, b1_2, b1_3, b1_4, b1_5, b1_6, b1_7, b1_8, b1_9] then if (0 : Int) ≤ List.getD v11 (Int.toNat v13) (0 : Int) then if List.getD v11 (Int.toNat v13) (0 : Int) < (↑(10 : Nat) : Int) then if Int.toNat (List.getD v11 (Int.toNat v13) (0 : Int)) < List.length [b1_0, b1_1, b1_2, b1_3, b1_4, b1_5, b1_6, b1_7, b1_8, b1_9] then f_impl_mostVoted_0 k (List.getD (List.set [b1_0, b1_1, b1_2, b1_3, b1_4, b1_5, b1_6, b1_7, b1_8, b1_9] (Int.toNat (List.getD v11 (Int.toNat v13) (0 : Int))) (wrap64 (List.getD [b1_0, b1_1, b1_2, b1_3, b1_4, b1_5, b1_6, b1_7, b1_8, b1_9] (Int.toNat (List.getD v11 (Int.toNat v13) (0 : Int))) (0 : Int) + (1 : Int)))) (0 : Nat) (0 : Int)) (List.getD (List.set [b1_0, b1_1, b1_2, b1_3, b1_4, b1_5, b1_6, b1_7, b1_8, b1_9] (Int.toNat (List.getD v11 (Int.toNat v13) (0 : Int))) (wrap64 (List.getD [b1_0, b1_1, b1_2, b1_3, b1_4, b1_5, b1_6, b1_7, b1_8, b1_9] (Int.toNat (List.getD v11 (Int.toNat v13) (0 : Int))) (0 : Int) + (1 : Int)))) ((0 : Nat) + (1 : Nat)) (0 : Int)) (List.getD (List.set [b1_0, b1_1, b1_2, b1_3, b1_4, b1_5, b1_6, b1_7, b1_8, b1_9] (Int.toNat (List.getD v11 (Int.toNat v13) (0 : Int))) (wrap64 (List.getD [b1_0, b1_1, b1_2, b1_3, b1_4, b1_5, b1_6, b1_7, b1_8, b1_9] (Int.toNat (List.getD v11 (Int.toNat v13) (0 : Int))) (0 : Int) + (1 : Int)))) ((0 : Nat) + (1 : Nat) + (1 : Nat)) (0 : Int)) (List.getD (List.set [b1_0, b1_1, b1_2, b1_3, b1_4, b1_5, b1_6, b1_7, b1_8, b1_9] (Int.toNat (List.getD v11 (Int.toNat v13) (0 : Int))) (wrap64 (List.getD [b1_0, b1_1, b1_2, b1_3, b1_4, b1_5, b1_6, b1_7, b1_8, b1_9] (Int.toNat (List.getD v11 (Int.toNat v13) (0 : Int))) (0 : Int) + (1 : Int)))) ((0 : Nat) + (1 : Nat) + (1 : Nat) + (1 : Nat)) (0 : Int)) (List.getD (List.set [b1_0, b1_1, b1_2, b1_3, b1_4, b1_5, b1_6, b1_7, b1_8, b1_9] (Int.toNat (List.getD v11 (Int.toNat v13) (0 : Int))) (wrap64 (List.getD [b1_0, b1_1, b1_2, b1_3, b1_4, b1_5, b1_6, b1_7, b1_8, b1_9] (Int.toNat (List.getD v11 (Int.toNat v13) (0 : Int))) (0 : Int) + (1 : Int)))) ((0 : Nat) + (1 : Nat) + (1 : Nat) + (1 : Nat) + (1 : Nat)) (0 : Int)) (List.getD (List.set [b1_0, b1_1, b1_2, b1_3, b1_4, b1_5, b1_6, b1_7, b1_8, b1_9] (Int.toNat (List.getD v11 (Int.toNat v13) (0 : Int))) (wrap64 (List.getD [b1_0, b1_1, b1_2, b1_3, b1_4, b1_5, b1_6, b1_7, b1_8, b1_9] (Int.toNat (List.getD v11 (Int.toNat v13) (0 : Int))) (0 : Int) + (1 : Int)))) ((0 : Nat) + (1 : Nat) + (1 : Nat) + (1 : Nat) + (1 : Nat) + (1 : Nat)) (0 : Int)) (List.getD (List.set [b1_0, b1_1, b1_2, b1_3, b1_4, b1_5, b1_6, b1_7, b1_8, b1_9] (Int.toNat (List.getD v11 (Int.toNat v13) (0 : Int))) (wrap64 (List.getD [b1_0, b1_1, b1_2, b1_3, b1_4, b1_5, b1_6, b1_7, b1_8, b1_9] (Int.toNat (List.getD v11 (Int.toNat v13) (0 : Int))) (0 : Int) + (1 : Int)))) ((0 : Nat) + (1 : Nat) + (1 : Nat) + (1 : Nat) + (1 : Nat) + (1 : Nat) + (1 : Nat)) (0 : Int)) (List.getD (List.set [b1_0, b1_1, b1_2, b1_3, b1_4, b1_5, b1_6, b1_7, b1_8, b1_9] (Int.toNat (List.getD v11 (Int.toNat v13) (0 : Int))) (wrap64 (List.getD [b1_0, b1_1, b1_2, b1_3, b1_4, b1_5, b1_6, b1_7, b1_8, b1_9] (Int.toNat (List.getD v11 (Int.toNat v13) (0 : Int))) (0 : Int) + (1 : Int)))) ((0 : Nat) + (1 : Nat) + (1 : Nat) + (1 : Nat) + (1 : Nat) + (1 : Nat) + (1 : Nat) + (1 : Nat)) (0 : Int)) (List.getD (List.set [b1_0, b1_1, b1_2, b1_3, b1_4, b1_5, b1_6, b1_7, b1_8, b1_9] (Int.toNat (List.getD v11 (Int.toNat v13) (0 : Int))) (wrap64 (List.getD [b1_0, b1_1, b1_2, b1_3, b1_4, b1_5, b1_6, b1_7, b1_8, b1_9] (Int.toNat (List.getD v11 (Int.toNat v13) (0 : Int))) (0 : Int) + (1 : Int)))) ((0 : Nat) + (1 : Nat) + (1 : Nat) + (1 : Nat) + (1 : Nat) + (1 : Nat) + (1 : Nat) + (1 : Nat) + (1 : Nat)) (0 : Int)) (List.getD (List.set [b1_0, b1_1, b1_2, b1_3, b1_4, b1_5, b1_6, b1_7, b1_8, b1_9] (Int.toNat (List.getD v11 (Int.toNat v13) (0 : Int))) (wrap64 (List.getD [b1_0, b1_1, b1_2, b1_3, b1_4, b1_5, b1_6, b1_7, b1_8, b1_9] (Int.toNat (List.getD v11 (Int.toNat v13) (0 : Int))) (0 : Int) + (1 : Int)))) ((0 : Nat) + (1 : Nat) + (1 : Nat) + (1 : Nat) + (1 : Nat) + (1 : Nat) + (1 : Nat) + (1 : Nat) + (1 : Nat) + (1 : Nat)) (0 : Int)) v11 v12 (wrap64 (v13 + (1 : Int))) else none else none else none else none else none else none else none else none else some (b1_0, b1_1, b1_2, b1_3, b1_4, b1_5, b1_6, b1_7, b1_8, b1_9)
noncomputable def f_impl_mostVoted_0i : Spec := { objs := [OSh.ro, OSh.box (128 : Nat) [Sh.int IntKind.i64, Sh.int IntKind.i64, Sh.int IntKind.i64, Sh.int IntKind.i64, Sh.int IntKind.i64, Sh.int IntKind.i64, Sh.int IntKind.i64, Sh.int IntKind.i64, Sh.int IntKind.i64, Sh.int IntKind.i64]], tmps := [((4 : Nat), TSh.at (Sh.ptr (1 : Nat) (0 : Nat))), ((11 : Nat), TSh.at (Sh.snap (0 : Nat) (Ty.int IntKind.i64))), ((12 : Nat), TSh.at (Sh.int IntKind.i64)), ((13 : Nat), TSh.at (Sh.int IntKind.i64))] }
noncomputable def f_impl_mostVoted_0o : Spec := { objs := [OSh.ro, OSh.box (128 : Nat) [Sh.int IntKind.i64, Sh.int IntKind.i64, Sh.int IntKind.i64, Sh.int IntKind.i64, Sh.int IntKind.i64, Sh.int IntKind.i64, Sh.int IntKind.i64, Sh.int IntKind.i64, Sh.int IntKind.i64, Sh.int IntKind.i64]], tmps := [((4 : Nat), TSh.at (Sh.ptr (1 : Nat) (0 : Nat)))] }
noncomputable def f_impl_mostVoted_0D : LoopDef (Tup r_impl_mostVoted × OutD) := .plain f_impl_mostVoted_0i f_impl_mostVoted_0o (Int × Int × Int × Int × Int × Int × Int × Int × Int × Int) (fun k x => f_impl_mostVoted_0 k x.1.2.1.1 x.1.2.1.2.1 x.1.2.1.2.2.1 x.1.2.1.2.2.2.1 x.1.2.1.2.2.2.2.1 x.1.2.1.2.2.2.2.2.1 x.1.2.1.2.2.2.2.2.2.1 x.1.2.1.2.2.2.2.2.2.2.1 x.1.2.1.2.2.2.2.2.2.2.2.1 x.1.2.1.2.2.2.2.2.2.2.2.2.1 x.2.2.1 x.2.2.2.1 x.2.2.2.2.1) (fun z => (((), (z.1, z.2.1, z.2.2.1, z.2.2.2.1, z.2.2.2.2.1, z.2.2.2.2.2.1, z.2.2.2.2.2.2.1, z.2.2.2.2.2.2.2.1, z.2.2.2.2.2.2.2.2.1, z.2.2.2.2.2.2.2.2.2, ()), ()), ((), ()))) (fun y => (y.1.2.1.1, y.1.2.1.2.1, y.1.2.1.2.2.1, y.1.2.1.2.2.2.1, y.1.2.1.2.2.2.2.1, y.1.2.1.2.2.2.2.2.1, y.1.2.1.2.2.2.2.2.2.1, y.1.2.1.2.2.2.2.2.2.2.1, y.1.2.1.2.2.2.2.2.2.2.2.1, y.1.2.1.2.2.2.2.2.2.2.2.2.1)) (fun _ => rfl)
noncomputable def f_impl_mostVoted_2 : Nat → Int → Int → Int → Int → Int → Int → Int → Int → Int → Int → Int → Int → Int → Int → Int → Int → Int → Int → Int → Int → Int → Int → Option (Int × Int × Int × Int × Int × Int × Int × Int × Int × Int × Int)
  | 0, _, _, _, _, _, _, _, _, _, _, _, _, _, _, _, _, _, _, _, _, _, _ => none
  | k + 1, b1_0, b1_1, b1_2, b1_3, b1_4, b1_5, b1_6, b1_7, b1_8, b1_9, v7, v23_0, v23_1, v23_2, v23_3, v23_4, v23_5, v23_6, v23_7, v23_8, v23_9, v24 =>
    if decide (v24 < (10 : Int)) = true then if (0 : Int) ≤ v24 then if v24 < (↑(10 : Nat) : Int) then if (0 : Int) ≤ v7 then if v7 < (↑(10 : Nat) : Int) then if Int.toNat v7 < List.length [b1_0, b1_1, b1_2, b1_3, b1_4, b1_5, b1_6, b1_7, b1_8, b1_9] then if decide (List.getD [v23_0, v23_1, v23_2, v23_3, v23_4, v23_5, v23_6, v23_7, v23_8, v23_9] (Int.toNat v24) (0 : Int) > List.getD [b1_0, b1_1, b1_2, b1_3, b1_4, b1_5, b1_6, b1_7, b1_8, b1_9] (Int.toNat v7) (0 : Int)) = true then f_impl_mostVoted_2 k b1_0 b1_1 b1_2 b1_3 b1_4 b1_5 b1_6 b1_7 b1_8 b1_9 v24 v23_0 v23_1 v23_2 v23_3 v23_4 v23_5 v23_6 v23_7 v23_8 v23_9 (wrap64 (v24 + (1 : Int))) else f_impl_mostVoted_2 k b1_0 b1_1 b1_2 b1_3 b1_4 b1_5 b1_6 b1_7 b1_8 b1_9 v7 v23_0 v23_1 v23_2 v23_3 v23_4 v23_5 v23_6 v23_7 v23_8 v23_9 (wrap64 (v24 + (1 : Int))) else none else none else none else none else none else some (b1_0, b1_1, b1_2, b1_3, b1_4, b1_5, b1_6, b1_7, b1_8, b1_9, v7)
noncomputable def f_impl_mostVoted_2i : Spec := { objs := [OSh.ro, OSh.box (128 : Nat) [Sh.int IntKind.i64, Sh.int IntKind.i64, Sh.int IntKind.i64, Sh.int IntKind.i64, Sh.int IntKind.i64, Sh.int IntKind.i64, Sh.int IntKind.i64, Sh.int IntKind.i64, Sh.int IntKind.i64, Sh.int IntKind.i64]], tmps := [((4 : Nat), TSh.at (Sh.ptr (1 : Nat) (0 : Nat))), ((7 : Nat), TSh.at (Sh.int IntKind.i64)), ((23 : Nat), TSh.agg [Sh.int IntKind.i64, Sh.int IntKind.i64, Sh.int IntKind.i64, Sh.int IntKind.i64, Sh.int IntKind.i64, Sh.int IntKind.i64, Sh.int IntKind.i64, Sh.int IntKind.i64, Sh.int IntKind.i64, Sh.int IntKind.i64]), ((24 : Nat), TSh.at (Sh.int IntKind.i64))] }
noncomputable def f_impl_mostVoted_2o : Spec := { objs := [OSh.ro, OSh.box (128 : Nat) [Sh.int IntKind.i64, Sh.int IntKind.i64, Sh.int IntKind.i64, Sh.int IntKind.i64, Sh.int IntKind.i64, Sh.int IntKind.i64, Sh.int IntKind.i64, Sh.int IntKind.i64, Sh.int IntKind.i64, Sh.int IntKind.i64]], tmps := [((4 : Nat), TSh.at (Sh.ptr (1 : Nat) (0 : Nat))), ((7 : Nat), TSh.at (Sh.int IntKind.i64))] }
noncomputable def f_impl_mostVoted_2D : LoopDef (Tup r_impl_mostVoted × OutD) := .plain f_impl_mostVoted_2i f_impl_mostVoted_2o (Int × Int × Int × Int × Int × Int × Int × Int × Int × Int × Int) (fun k x => f_impl_mostVoted_2 k x.1.2.1.1 x.1.2.1.2.1 x.1.2.1.2.2.1 x.1.2.1.2.2.2.1 x.1.2.1.2.2.2.2.1 x.1.2.1.2.2.2.2.2.1 x.1.2.1.2.2.2.2.2.2.1 x.1.2.1.2.2.2.2.2.2.2.1 x.1.2.1.2.2.2.2.2.2.2.2.1 x.1.2.1.2.2.2.2.2.2.2.2.2.1 x.2.2.1 x.2.2.2.1.1 x.2.2.2.1.2.1 x.2.2.2.1.2.2.1 x.2.2.2.1.2.2.2.1 x.2.2.2.1.2.2.2.2.1 x.2.2.2.1.2.2.2.2.2.1 x.2.2.2.1.2.2.2.2.2.2.1 x.2.2.2.1.2.2.2.2.2.2.2.1 x.2.2.2.1.2.2.2.2.2.2.2.2.1 x.2.2.2.1.2.2.2.2.2.2.2.2.2.1 x.2.2.2.2.1) (fun z => (((), (z.1, z.2.1, z.2.2.1, z.2.2.2.1, z.2.2.2.2.1, z.2.2.2.2.2.1, z.2.2.2.2.2.2.1, z.2.2.2.2.2.2.2.1, z.2.2.2.2.2.2.2.2.1, z.2.2.2.2.2.2.2.2.2.1, ()), ()), ((), z.2.2.2.2.2.2.2.2.2.2, ()))) (fun y => (y.1.2.1.1, y.1.2.1.2.1, y.1.2.1.2.2.1, y.1.2.1.2.2.2.1, y.1.2.1.2.2.2.2.1, y.1.2.1.2.2.2.2.2.1, y.1.2.1.2.2.2.2.2.2.1, y.1.2.1.2.2.2.2.2.2.2.1, y.1.2.1.2.2.2.2.2.2.2.2.1, y.1.2.1.2.2.2.2.2.2.2.2.2.1, y.2.2.1)) (fun _ => rfl)
noncomputable def f_impl_mostVoted : Nat → List Int → Option (Int × Int)
  | 0, _ => none
  | k + 1, p0 =>
    Option.bind (f_impl_mostVoted_0 k (0 : Int) (0 : Int) (0 : Int) (0 : Int) (0 : Int) (0 : Int) (0 : Int) (0 : Int) (0 : Int) (0 : Int) p0 (↑(List.length p0) : Int) (0 : Int)) fun z0 => Option.bind (f_impl_mostVoted_2 k (Prod.fst z0) (Prod.fst (Prod.snd z0)) (Prod.fst (Prod.snd (Prod.snd z0))) (Prod.fst (Prod.snd (Prod.snd (Prod.snd z0)))) (Prod.fst (Prod.snd (Prod.snd (Prod.snd (Prod.snd z0))))) (Prod.fst (Prod.snd (Prod.snd (Prod.snd (Prod.snd (Prod.snd z0)))))) (Prod.fst (Prod.snd (Prod.snd (Prod.snd (Prod.snd (Prod.snd (Prod.snd z0))))))) (Prod.fst (Prod.snd (Prod.snd (Prod.snd (Prod.snd (Prod.snd (Prod.snd (Prod.snd z0)))))))) (Prod.fst (Prod.snd (Prod.snd (Prod.snd (Prod.snd (Prod.snd (Prod.snd (Prod.snd (Prod.snd z0))))))))) (Prod.snd (Prod.snd (Prod.snd (Prod.snd (Prod.snd (Prod.snd (Prod.snd (Prod.snd (Prod.snd z0))))))))) (0 : Int) (Prod.fst z0) (Prod.fst (Prod.snd z0)) (Prod.fst (Prod.snd (Prod.snd z0))) (Prod.fst (Prod.snd (Prod.snd (Prod.snd z0)))) (Prod.fst (Prod.snd (Prod.snd (Prod.snd (Prod.snd z0))))) (Prod.fst (Prod.snd (Prod.snd (Prod.snd (Prod.snd (Prod.snd z0)))))) (Prod.fst (Prod.snd (Prod.snd (Prod.snd (Prod.snd (Prod.snd (Prod.snd z0))))))) (Prod.fst (Prod.snd (Prod.snd (Prod.snd (Prod.snd (Prod.snd (Prod.snd (Prod.snd z0)))))))) (Prod.fst (Prod.snd (Prod.snd (Prod.snd (Prod.snd (Prod.snd (Prod.snd (Prod.snd (Prod.snd z0))))))))) (Prod.snd (Prod.snd (Prod.snd (Prod.snd (Prod.snd (Prod.snd (Prod.snd (Prod.snd (Prod.snd z0))))))))) (0 : Int)) fun z1 => if (0 : Int) ≤ Prod.snd (Prod.snd (Prod.snd (Prod.snd (Prod.snd (Prod.snd (Prod.snd (Prod.snd (Prod.snd (Prod.snd z1))))))))) then if Prod.snd (Prod.snd (Prod.snd (Prod.snd (Prod.snd (Prod.snd (Prod.snd (Prod.snd (Prod.snd (Prod.snd z1))))))))) < (↑(10 : Nat) : Int) then if Int.toNat (Prod.snd (Prod.snd (Prod.snd (Prod.snd (Prod.snd (Prod.snd (Prod.snd (Prod.snd (Prod.snd (Prod.snd z1)))))))))) < List.length [Prod.fst z1, Prod.fst (Prod.snd z1), Prod.fst (Prod.snd (Prod.snd z1)), Prod.fst (Prod.snd (Prod.snd (Prod.snd z1))), Prod.fst (Prod.snd (Prod.snd (Prod.snd (Prod.snd z1)))), Prod.fst (Prod.snd (Prod.snd (Prod.snd (Prod.snd (Prod.snd z1))))), Prod.fst (Prod.snd (Prod.snd (Prod.snd (Prod.snd (Prod.snd (Prod.snd z1)))))), Prod.fst (Prod.snd (Prod.snd (Prod.snd (Prod.snd (Prod.snd (Prod.snd (Prod.snd z1))))))), Prod.fst (Prod.snd (Prod.snd (Prod.snd (Prod.snd (Prod.snd (Prod.snd (Prod.snd (Prod.snd z1)))))))), Prod.fst (Prod.snd (Prod.snd (Prod.snd (Prod.snd (Prod.snd (Prod.snd (Prod.snd (Prod.snd (Prod.snd z1)))))))))] then some (Prod.snd (Prod.snd (Prod.snd (Prod.snd (Prod.snd (Prod.snd (Prod.snd (Prod.snd (Prod.snd (Prod.snd z1))))))))), List.getD [Prod.fst z1, Prod.fst (Prod.snd z1), Prod.fst (Prod.snd (Prod.snd z1)), Prod.fst (Prod.snd (Prod.snd (Prod.snd z1))), Prod.fst (Prod.snd (Prod.snd (Prod.snd (Prod.snd z1)))), Prod.fst (Prod.snd (Prod.snd (Prod.snd (Prod.snd (Prod.snd z1))))), Prod.fst (Prod.snd (Prod.snd (Prod.snd (Prod.snd (Prod.snd (Prod.snd z1)))))), Prod.fst (Prod.snd (Prod.snd (Prod.snd (Prod.snd (Prod.snd (Prod.snd (Prod.snd z1))))))), Prod.fst (Prod.snd (Prod.snd (Prod.snd (Prod.snd (Prod.snd (Prod.snd (Prod.snd (Prod.snd z1)))))))), Prod.fst (Prod.snd (Prod.snd (Prod.snd (Prod.snd (Prod.snd (Prod.snd (Prod.snd (Prod.snd (Prod.snd z1)))))))))] (Int.toNat (Prod.snd (Prod.snd (Prod.snd (Prod.snd (Prod.snd (Prod.snd (Prod.snd (Prod.snd (Prod.snd (Prod.snd z1))))))))))) (0 : Int)) else none else none else none
noncomputable def d_impl_mostVoted : FnDef := .of q_impl_mostVoted r_impl_mostVoted (Int × Int) (fun k x => f_impl_mostVoted k x.1) to_impl_mostVoted of_impl_mostVoted to_of_impl_mostVoted
noncomputable def c_impl_mostVoted : Code := Try.f99.body.getD .skip
noncomputable def x_impl_mostVoted : Ctx (Tup r_impl_mostVoted × OutD) := { T := T, G := [], mvs := [], no := 0, n := 39, res := resOf T q_impl_mostVoted r_impl_mostVoted Try.f99.results.toList, loops := [(0, f_impl_mostVoted_0D.E), (2, f_impl_mostVoted_2D.E)], regs := [], conds := [] }
theorem g_impl_mostVoted (k : Nat) : EnvOK Try.prog k x_impl_mostVoted.G := (EnvOK.nil mixed)
noncomputable def f_impl_mostVoted_0B : Code := (findLoop 0 c_impl_mostVoted).getD .skip
theorem f_impl_mostVoted_0h (k : Nat) (x : f_impl_mostVoted_0i.D) : f_impl_mostVoted_0D.lp (k + 1) x = loopK x_impl_mostVoted f_impl_mostVoted_0D 0 f_impl_mostVoted_0B k x := by kernel_rfl
theorem f_impl_mostVoted_0l (k : Nat) : LOK Try.prog x_impl_mostVoted k f_impl_mostVoted_0B := LOK.by [] (by kernel_rfl) AllOK.nil
theorem f_impl_mostVoted_0z (x : f_impl_mostVoted_0i.D) : f_impl_mostVoted_0D.lp 0 x = none := by kernel_rfl
theorem f_impl_mostVoted_0ok (k : Nat) : EOK Try.prog x_impl_mostVoted k f_impl_mostVoted_0D.E (.block 0 (.loop f_impl_mostVoted_0B)) := loop_ok T_ok g_impl_mostVoted f_impl_mostVoted_0z f_impl_mostVoted_0h f_impl_mostVoted_0l k
noncomputable def f_impl_mostVoted_2B : Code := (findLoop 2 c_impl_mostVoted).getD .skip
theorem f_impl_mostVoted_2h (k : Nat) (x : f_impl_mostVoted_2i.D) : f_impl_mostVoted_2D.lp (k + 1) x = loopK x_impl_mostVoted f_impl_mostVoted_2D 2 f_impl_mostVoted_2B k x := by kernel_rfl
theorem f_impl_mostVoted_2l (k : Nat) : LOK Try.prog x_impl_mostVoted k f_impl_mostVoted_2B := LOK.by [] (by kernel_rfl) AllOK.nil
theorem f_impl_mostVoted_2z (x : f_impl_mostVoted_2i.D) : f_impl_mostVoted_2D.lp 0 x = none := by kernel_rfl
theorem f_impl_mostVoted_2ok (k : Nat) : EOK Try.prog x_impl_mostVoted k f_impl_mostVoted_2D.E (.block 2 (.loop f_impl_mostVoted_2B)) := loop_ok T_ok g_impl_mostVoted f_impl_mostVoted_2z f_impl_mostVoted_2h f_impl_mostVoted_2l k
theorem h_impl_mostVoted (k : Nat) (x : Tup d_impl_mostVoted.ps) : d_impl_mostVoted.f (k + 1) x = fnK d_impl_mostVoted x_impl_mostVoted c_impl_mostVoted k x := by kernel_rfl
theorem z_impl_mostVoted (x : Tup d_impl_mostVoted.ps) : d_impl_mostVoted.f 0 x = none := by kernel_rfl
theorem l_impl_mostVoted (k : Nat) : LOK Try.prog x_impl_mostVoted k c_impl_mostVoted := LOK.by [(f_impl_mostVoted_0D.E, .block 0 (.loop f_impl_mostVoted_0B)), (f_impl_mostVoted_2D.E, .block 2 (.loop f_impl_mostVoted_2B))] (by kernel_rfl) (AllOK.cons (f_impl_mostVoted_0ok k) (AllOK.cons (f_impl_mostVoted_2ok k) AllOK.nil))
theorem s_impl_mostVoted (k : Nat) : SoundAt Try.prog k 99 d_impl_mostVoted.E := @fn_all Try.prog d_impl_mostVoted x_impl_mostVoted 99 Try.f99 c_impl_mostVoted (by kernel_rfl) (by kernel_rfl) (by kernel_rfl) Try.func99 (by kernel_rfl) (by kernel_rfl) (by kernel_rfl) T_ok g_impl_mostVoted l_impl_mostVoted z_impl_mostVoted h_impl_mostVoted k
/-! function 101 -/
noncomputable def r_spec_voMost : List PK := [{ t := Ty.int IntKind.i64 }, { t := Ty.int IntKind.i64 }]
noncomputable def q_spec_voMost : List PK := [{ t := Ty.slice (3 : Nat) (Ty.int IntKind.i64) }]
noncomputable def to_spec_voMost (r : Int × Int) : Tup r_spec_voMost × OutD := ((r.1, r.2, ()), none)
noncomputable def of_spec_voMost : Tup r_spec_voMost × OutD → Option (Int × Int)
  | (a, none) => some (a.1, a.2.1)
  | _ => none
theorem to_of_spec_voMost : ∀ b r, of_spec_voMost b = some r → to_spec_voMost r = b := by
  rintro ⟨a, o⟩ r h
  cases o with
  | none => injection h with h; subst h; rfl
  | some _ => cases h
noncomputable def f_spec_voMost_0 : Nat → List Int → List Int → Int → Int → Option (List Int)
  | 0, _, _, _, _ => none
  | k + 1, o1, v11, v12, v13 =>
    if decide (v13 < v12) = true then if (0 : Int) ≤ v13 then if v13 < (↑(List.length v11) : Int) then if (0 : Int) ≤ List.getD v11 (Int.toNat v13) (0 : Int) then if List.getD v11 (Int.toNat v13) (0 : Int) < (↑(List.length o1) : Int) then if (0 : Int) ≤ List.getD v11 (Int.toNat v13) (0 : Int) then if List.getD v11 (Int.toNat v13) (0 : Int) < (↑(List.length o1) : Int) then f_spec_voMost_0 k (List.set o1 (Int.toNat (List.getD v11 (Int.toNat v13) (0 : Int))) (wrap64 (List.getD o1 (Int.toNat (List.getD v11 (Int.toNat v13) (0 : Int))) (0 : Int) + (1 : Int)))) v11 v12 (wrap64 (v13 + (1 : Int))) else none else none else none else none else none else none else some o1
noncomputable def f_spec_voMost_0i : Spec := { objs := [OSh.ro, OSh.row true (3 : Nat) (Ty.int IntKind.i64)], tmps := [((4 : Nat), TSh.at (Sh.sl (1 : Nat))), ((11 : Nat), TSh.at (Sh.snap (0 : Nat) (Ty.int IntKind.i64))), ((12 : Nat), TSh.at (Sh.int IntKind.i64)), ((13 : Nat), TSh.at (Sh.int IntKind.i64))] }
noncomputable def f_spec_voMost_0o : Spec := { objs := [OSh.ro, OSh.row true (3 : Nat) (Ty.int IntKind.i64)], tmps := [((4 : Nat), TSh.at (Sh.sl (1 : Nat)))] }
noncomputable def f_spec_voMost_0D : LoopDef (Tup r_spec_voMost × OutD) := .plain f_spec_voMost_0i f_spec_voMost_0o (List Int) (fun k x => f_spec_voMost_0 k x.1.2.1 x.2.2.1 x.2.2.2.1 x.2.2.2.2.1) (fun z => (((), z, ()), ((), ()))) (fun y => (y.1.2.1)) (fun _ => rfl)
noncomputable def f_spec_voMost_2 : Nat → List Int → Int → Int → Int → Option (List Int × Int)
  | 0, _, _, _, _ => none
  | k + 1, o1, v7, v25, v26 =>
    if decide (v26 < v25) = true then if (0 : Int) ≤ v26 then if v26 < (↑(List.length o1) : Int) then if (0 : Int) ≤ v7 then if v7 < (↑(List.length o1) : Int) then if decide (List.getD o1 (Int.toNat v26) (0 : Int) > List.getD o1 (Int.toNat v7) (0 : Int)) = true then f_spec_voMost_2 k o1 v26 v25 (wrap64 (v26 + (1 : Int))) else f_spec_voMost_2 k o1 v7 v25 (wrap64 (v26 + (1 : Int))) else none else none else none else none else some (o1, v7)
noncomputable def f_spec_voMost_2i : Spec := { objs := [OSh.ro, OSh.row true (3 : Nat) (Ty.int IntKind.i64)], tmps := [((4 : Nat), TSh.at (Sh.sl (1 : Nat))), ((7 : Nat), TSh.at (Sh.int IntKind.i64)), ((24 : Nat), TSh.at (Sh.sl (1 : Nat))), ((25 : Nat), TSh.at (Sh.int IntKind.i64)), ((26 : Nat), TSh.at (Sh.int IntKind.i64))] }
noncomputable def f_spec_voMost_2o : Spec := { objs := [OSh.ro, OSh.row true (3 : Nat) (Ty.int IntKind.i64)], tmps := [((4 : Nat), TSh.at (Sh.sl (1 : Nat))), ((7 : Nat), TSh.at (Sh.int IntKind.i64))] }
noncomputable def f_spec_voMost_2D : LoopDef (Tup r_spec_voMost × OutD) := .plain f_spec_voMost_2i f_spec_voMost_2o (List Int × Int) (fun k x => f_spec_voMost_2 k x.1.2.1 x.2.2.1 x.2.2.2.2.1 x.2.2.2.2.2.1) (fun z => (((), z.1, ()), ((), z.2, ()))) (fun y => (y.1.2.1, y.2.2.1)) (fun _ => rfl)
noncomputable def f_spec_voMost : Nat → List Int → Option (Int × Int)
  | 0, _ => none
  | k + 1, p0 =>
    Option.bind (f_spec_voMost_0 k (List.replicate (Int.toNat (10 : Int)) (0 : Int)) p0 (↑(List.length p0) : Int) (0 : Int)) fun z0 => Option.bind (f_spec_voMost_2 k z0 (0 : Int) (↑(List.length z0) : Int) (0 : Int)) fun z1 => if (0 : Int) ≤ Prod.snd z1 then if Prod.snd z1 < (↑(List.length (Prod.fst z1)) : Int) then some (Prod.snd z1, List.getD (Prod.fst z1) (Int.toNat (Prod.snd z1)) (0 : Int)) else none else none
noncomputable def d_spec_voMost : FnDef := .of q_spec_voMost r_spec_voMost (Int × Int) (fun k x => f_spec_voMost k x.1) to_spec_voMost of_spec_voMost to_of_spec_voMost
noncomputable def c_spec_voMost : Code := Try.f101.body.getD .skip
noncomputable def x_spec_voMost : Ctx (Tup r_spec_voMost × OutD) := { T := T, G := [], mvs := [], no := 0, n := 44, res := resOf T q_spec_voMost r_spec_voMost Try.f101.results.toList, loops := [(0, f_spec_voMost_0D.E), (2, f_spec_voMost_2D.E)], regs := [], conds := [] }
theorem g_spec_voMost (k : Nat) : EnvOK Try.prog k x_spec_voMost.G := (EnvOK.nil mixed)
noncomputable def f_spec_voMost_0B : Code := (findLoop 0 c_spec_voMost).getD .skip
theorem f_spec_voMost_0h (k : Nat) (x : f_spec_voMost_0i.D) : f_spec_voMost_0D.lp (k + 1) x = loopK x_spec_voMost f_spec_voMost_0D 0 f_spec_voMost_0B k x := by kernel_rfl
theorem f_spec_voMost_0l (k : Nat) : LOK Try.prog x_spec_voMost k f_spec_voMost_0B := LOK.by [] (by kernel_rfl) AllOK.nil
theorem f_spec_voMost_0z (x : f_spec_voMost_0i.D) : f_spec_voMost_0D.lp 0 x = none := by kernel_rfl
theorem f_spec_voMost_0ok (k : Nat) : EOK Try.prog x_spec_voMost k f_spec_voMost_0D.E (.block 0 (.loop f_spec_voMost_0B)) := loop_ok T_ok g_spec_voMost f_spec_voMost_0z f_spec_voMost_0h f_spec_voMost_0l k
noncomputable def f_spec_voMost_2B : Code := (findLoop 2 c_spec_voMost).getD .skip
theorem f_spec_voMost_2h (k : Nat) (x : f_spec_voMost_2i.D) : f_spec_voMost_2D.lp (k + 1) x = loopK x_spec_voMost f_spec_voMost_2D 2 f_spec_voMost_2B k x := by kernel_rfl
theorem f_spec_voMost_2l (k : Nat) : LOK Try.prog x_spec_voMost k f_spec_voMost_2B := LOK.by [] (by kernel_rfl) AllOK.nil
theorem f_spec_voMost_2z (x : f_spec_voMost_2i.D) : f_spec_voMost_2D.lp 0 x = none := by kernel_rfl
theorem f_spec_voMost_2ok (k : Nat) : EOK Try.prog x_spec_voMost k f_spec_voMost_2D.E (.block 2 (.loop f_spec_voMost_2B)) := loop_ok T_ok g_spec_voMost f_spec_voMost_2z f_spec_voMost_2h f_spec_voMost_2l k
theorem h_spec_voMost (k : Nat) (x : Tup d_spec_voMost.ps) : d_spec_voMost.f (k + 1) x = fnK d_spec_voMost x_spec_voMost c_spec_voMost k x := by kernel_rfl
theorem z_spec_voMost (x : Tup d_spec_voMost.ps) : d_spec_voMost.f 0 x = none := by kernel_rfl
theorem l_spec_voMost (k : Nat) : LOK Try.prog x_spec_voMost k c_spec_voMost := LOK.by [(f_spec_voMost_0D.E, .block 0 (.loop f_spec_voMost_0B)), (f_spec_voMost_2D.E, .block 2 (.loop f_spec_voMost_2B))] (by kernel_rfl) (AllOK.cons (f_spec_voMost_0ok k) (AllOK.cons (f_spec_voMost_2ok k) AllOK.nil))
theorem s_spec_voMost (k : Nat) : SoundAt Try.prog k 101 d_spec_voMost.E := @fn_all Try.prog d_spec_voMost x_spec_voMost 101 Try.f101 c_spec_voMost (by kernel_rfl) (by kernel_rfl) (by kernel_rfl) Try.func101 (by kernel_rfl) (by kernel_rfl) (by kernel_rfl) T_ok g_spec_voMost l_spec_voMost z_spec_voMost h_spec_voMost k
/-! function 107 -/
noncomputable def r_slices_Equal_int_int : List PK := [{ t := Ty.bool }]
noncomputable def q_slices_Equal_int_int : List PK := [{ t := Ty.slice (3 : Nat) (Ty.int IntKind.i64) }, { t := Ty.slice (3 : Nat) (Ty.int IntKind.i64) }]
noncomputable def to_slices_Equal_int_int (r : Bool) : Tup r_slices_Equal_int_int × OutD := ((r, ()), none)
noncomputable def of_slices_Equal_int_int : Tup r_slices_Equal_int_int × OutD → Option (Bool)
  | (a, none) => some (a.1)
  | _ => none
theorem to_of_slices_Equal_int_int : ∀ b r, of_slices_Equal_int_int b = some r → to_slices_Equal_int_int r = b := by
  rintro ⟨a, o⟩ r h
  cases o with
  | none => injection h with h; subst h; rfl
  | some _ => cases h
noncomputable def f_slices_Equal_int_int_0 : Nat → List Int → List Int → Int → Int → Option (LR Unit Bool)
  | 0, _, _, _, _ => none
  | k + 1, v0, v1, v12, v13 =>
    if decide (v13 < v12) = true then if (0 : Int) ≤ v13 then if v13 < (↑(List.length v0) : Int) then if (0 : Int) ≤ v13 then if v13 < (↑(List.length v1) : Int) then if decide (List.getD v0 (Int.toNat v13) (0 : Int) ≠ List.getD v1 (Int.toNat v13) (0 : Int)) = true then some (LR.ret false) else f_slices_Equal_int_int_0 k v0 v1 v12 (wrap64 (v13 + (1 : Int))) else none else none else none else none else some (LR.go ())
noncomputable def f_slices_Equal_int_int_0i : Spec := { objs := [OSh.ro], tmps := [((0 : Nat), TSh.at (Sh.snap (0 : Nat) (Ty.int IntKind.i64))), ((1 : Nat), TSh.at (Sh.snap (0 : Nat) (Ty.int IntKind.i64))), ((12 : Nat), TSh.at (Sh.int IntKind.i64)), ((13 : Nat), TSh.at (Sh.int IntKind.i64))] }
noncomputable def f_slices_Equal_int_int_0o : Spec := { objs := [OSh.ro], tmps := [] }
noncomputable def f_slices_Equal_int_int_0D : LoopDef (Tup r_slices_Equal_int_int × OutD) := .rets f_slices_Equal_int_int_0i f_slices_Equal_int_int_0o (Unit) (Bool) (fun k x => f_slices_Equal_int_int_0 k x.2.1 x.2.2.1 x.2.2.2.1 x.2.2.2.2.1) (fun z => (((), ()), (()))) (fun y => ()) (fun _ => rfl) to_slices_Equal_int_int of_slices_Equal_int_int to_of_slices_Equal_int_int
noncomputable def f_slices_Equal_int_int : Nat → List Int → List Int → Option Bool
  | 0, _, _ => none
  | k + 1, p0, p1 =>
    if decide ((↑(List.length p0) : Int) ≠ (↑(List.length p1) : Int)) = true then some false else Option.bind (f_slices_Equal_int_int_0 k p0 p1 (↑(List.length p0) : Int) (0 : Int)) fun z0 => LR.on z0 (fun y0 => some true) fun r0 => some r0
noncomputable def d_slices_Equal_int_int : FnDef := .of q_slices_Equal_int_int r_slices_Equal_int_int (Bool) (fun k x => f_slices_Equal_int_int k x.1 x.2.1) to_slices_Equal_int_int of_slices_Equal_int_int to_of_slices_Equal_int_int
noncomputable def c_slices_Equal_int_int : Code := Try.f107.body.getD .skip
noncomputable def x_slices_Equal_int_int : Ctx (Tup r_slices_Equal_int_int × OutD) := { T := T, G := [], mvs := [], no := 0, n := 26, res := resOf T q_slices_Equal_int_int r_slices_Equal_int_int Try.f107.results.toList, loops := [(0, f_slices_Equal_int_int_0D.E)], regs := [], conds := [] }
theorem g_slices_Equal_int_int (k : Nat) : EnvOK Try.prog k x_slices_Equal_int_int.G := (EnvOK.nil mixed)
noncomputable def f_slices_Equal_int_int_0B : Code := (findLoop 0 c_slices_Equal_int_int).getD .skip
theorem f_slices_Equal_int_int_0h (k : Nat) (x : f_slices_Equal_int_int_0i.D) : f_slices_Equal_int_int_0D.lp (k + 1) x = loopK x_slices_Equal_int_int f_slices_Equal_int_int_0D 0 f_slices_Equal_int_int_0B k x := by kernel_rfl
theorem f_slices_Equal_int_int_0l (k : Nat) : LOK Try.prog x_slices_Equal_int_int k f_slices_Equal_int_int_0B := LOK.by [] (by kernel_rfl) AllOK.nil
theorem f_slices_Equal_int_int_0z (x : f_slices_Equal_int_int_0i.D) : f_slices_Equal_int_int_0D.lp 0 x = none := by kernel_rfl
theorem f_slices_Equal_int_int_0ok (k : Nat) : EOK Try.prog x_slices_Equal_int_int k f_slices_Equal_int_int_0D.E (.block 0 (.loop f_slices_Equal_int_int_0B)) := loop_ok T_ok g_slices_Equal_int_int f_slices_Equal_int_int_0z f_slices_Equal_int_int_0h f_slices_Equal_int_int_0l k
theorem h_slices_Equal_int_int (k : Nat) (x : Tup d_slices_Equal_int_int.ps) : d_slices_Equal_int_int.f (k + 1) x = fnK d_slices_Equal_int_int x_slices_Equal_int_int c_slices_Equal_int_int k x := by kernel_rfl
theorem z_slices_Equal_int_int (x : Tup d_slices_Equal_int_int.ps) : d_slices_Equal_int_int.f 0 x = none := by kernel_rfl
theorem l_slices_Equal_int_int (k : Nat) : LOK Try.prog x_slices_Equal_int_int k c_slices_Equal_int_int := LOK.by [(f_slices_Equal_int_int_0D.E, .block 0 (.loop f_slices_Equal_int_int_0B))] (by kernel_rfl) (AllOK.cons (f_slices_Equal_int_int_0ok k) AllOK.nil)
theorem s_slices_Equal_int_int (k : Nat) : SoundAt Try.prog k 107 d_slices_Equal_int_int.E := @fn_all Try.prog d_slices_Equal_int_int x_slices_Equal_int_int 107 Try.f107 c_slices_Equal_int_int (by kernel_rfl) (by kernel_rfl) (by kernel_rfl) Try.func107 (by kernel_rfl) (by kernel_rfl) (by kernel_rfl) T_ok g_slices_Equal_int_int l_slices_Equal_int_int z_slices_Equal_int_int h_slices_Equal_int_int k
/-! function 108 -/
noncomputable def r_spec_l1Same : List PK := [{ t := Ty.bool }]
noncomputable def q_spec_l1Same : List PK := [{ t := Ty.slice (3 : Nat) (Ty.int IntKind.i64) }, { t := Ty.slice (3 : Nat) (Ty.int IntKind.i64) }]
noncomputable def to_spec_l1Same (r : Bool) : Tup r_spec_l1Same × OutD := ((r, ()), none)
noncomputable def of_spec_l1Same : Tup r_spec_l1Same × OutD → Option (Bool)
  | (a, none) => some (a.1)
  | _ => none
theorem to_of_spec_l1Same : ∀ b r, of_spec_l1Same b = some r → to_spec_l1Same r = b := by
  rintro ⟨a, o⟩ r h
  cases o with
  | none => injection h with h; subst h; rfl
  | some _ => cases h
noncomputable def f_spec_l1Same_0 : Nat → List Int → List Int → Int → Int → Option (LR Unit Bool)
  | 0, _, _, _, _ => none
  | k + 1, v0, v1, v12, v13 =>
    if decide (v13 < v12) = true then if (0 : Int) ≤ v13 then if v13 < (↑(List.length v0) : Int) then if (0 : Int) ≤ v13 then if v13 < (↑(List.length v1) : Int) then if decide (List.getD v0 (Int.toNat v13) (0 : Int) ≠ List.getD v1 (Int.toNat v13) (0 : Int)) = true then some (LR.ret false) else f_spec_l1Same_0 k v0 v1 v12 (wrap64 (v13 + (1 : Int))) else none else none else none else none else some (LR.go ())
noncomputable def f_spec_l1Same_0i : Spec := { objs := [OSh.ro], tmps := [((0 : Nat), TSh.at (Sh.snap (0 : Nat) (Ty.int IntKind.i64))), ((1 : Nat), TSh.at (Sh.snap (0 : Nat) (Ty.int IntKind.i64))), ((12 : Nat), TSh.at (Sh.int IntKind.i64)), ((13 : Nat), TSh.at (Sh.int IntKind.i64))] }
noncomputable def f_spec_l1Same_0o : Spec := { objs := [OSh.ro], tmps := [] }
noncomputable def f_spec_l1Same_0D : LoopDef (Tup r_spec_l1Same × OutD) := .rets f_spec_l1Same_0i f_spec_l1Same_0o (Unit) (Bool) (fun k x => f_spec_l1Same_0 k x.2.1 x.2.2.1 x.2.2.2.1 x.2.2.2.2.1) (fun z => (((), ()), (()))) (fun y => ()) (fun _ => rfl) to_spec_l1Same of_spec_l1Same to_of_spec_l1Same
noncomputable def f_spec_l1Same : Nat → List Int → List Int → Option Bool
  | 0, _, _ => none
  | k + 1, p0, p1 =>
    if decide ((↑(List.length p0) : Int) ≠ (↑(List.length p1) : Int)) = true then some false else Option.bind (f_spec_l1Same_0 k p0 p1 (↑(List.length p0) : Int) (0 : Int)) fun z0 => LR.on z0 (fun y0 => some true) fun r0 => some r0
noncomputable def d_spec_l1Same : FnDef := .of q_spec_l1Same r_spec_l1Same (Bool) (fun k x => f_spec_l1Same k x.1 x.2.1) to_spec_l1Same of_spec_l1Same to_of_spec_l1Same
noncomputable def c_spec_l1Same : Code := Try.f108.body.getD .skip
noncomputable def x_spec_l1Same : Ctx (Tup r_spec_l1Same × OutD) := { T := T, G := [], mvs := [], no := 0, n := 26, res := resOf T q_spec_l1Same r_spec_l1Same Try.f108.results.toList, loops := [(0, f_spec_l1Same_0D.E)], regs := [], conds := [] }
theorem g_spec_l1Same (k : Nat) : EnvOK Try.prog k x_spec_l1Same.G := (EnvOK.nil mixed)
noncomputable def f_spec_l1Same_0B : Code := (findLoop 0 c_spec_l1Same).getD .skip
theorem f_spec_l1Same_0h (k : Nat) (x : f_spec_l1Same_0i.D) : f_spec_l1Same_0D.lp (k + 1) x = loopK x_spec_l1Same f_spec_l1Same_0D 0 f_spec_l1Same_0B k x := by kernel_rfl
theorem f_spec_l1Same_0l (k : Nat) : LOK Try.prog x_spec_l1Same k f_spec_l1Same_0B := LOK.by [] (by kernel_rfl) AllOK.nil
theorem f_spec_l1Same_0z (x : f_spec_l1Same_0i.D) : f_spec_l1Same_0D.lp 0 x = none := by kernel_rfl
theorem f_spec_l1Same_0ok (k : Nat) : EOK Try.prog x_spec_l1Same k f_spec_l1Same_0D.E (.block 0 (.loop f_spec_l1Same_0B)) := loop_ok T_ok g_spec_l1Same f_spec_l1Same_0z f_spec_l1Same_0h f_spec_l1Same_0l k
theorem h_spec_l1Same (k : Nat) (x : Tup d_spec_l1Same.ps) : d_spec_l1Same.f (k + 1) x = fnK d_spec_l1Same x_spec_l1Same c_spec_l1Same k x := by kernel_rfl
theorem z_spec_l1Same (x : Tup d_spec_l1Same.ps) : d_spec_l1Same.f 0 x = none := by kernel_rfl
theorem l_spec_l1Same (k : Nat) : LOK Try.prog x_spec_l1Same k c_spec_l1Same := LOK.by [(f_spec_l1Same_0D.E, .block 0 (.loop f_spec_l1Same_0B))] (by kernel_rfl) (AllOK.cons (f_spec_l1Same_0ok k) AllOK.nil)
theorem s_spec_l1Same (k : Nat) : SoundAt Try.prog k 108 d_spec_l1Same.E := @fn_all Try.prog d_spec_l1Same x_spec_l1Same 108 Try.f108 c_spec_l1Same (by kernel_rfl) (by kernel_rfl) (by kernel_rfl) Try.func108 (by kernel_rfl) (by kernel_rfl) (by kernel_rfl) T_ok g_spec_l1Same l_spec_l1Same z_spec_l1Same h_spec_l1Same k
/-! function 109 -/
noncomputable def r_impl_column : List PK := [{ t := Ty.slice (3 : Nat) (Ty.int IntKind.i64) }]
noncomputable def q_impl_column : List PK := [{ t := Ty.slice (34 : Nat) (Ty.slice (3 : Nat) (Ty.int IntKind.i64)) }, { t := Ty.int IntKind.i64 }]
noncomputable def to_impl_column (r : List Int) : Tup r_impl_column × OutD := ((r, ()), none)
noncomputable def of_impl_column : Tup r_impl_column × OutD → Option (List Int)
  | (a, none) => some (a.1)
  | _ => none
theorem to_of_impl_column : ∀ b r, of_impl_column b = some r → to_impl_column r = b := by
  rintro ⟨a, o⟩ r h
  cases o with
  | none => injection h with h; subst h; rfl
  | some _ => cases h
noncomputable def f_impl_column_0 : Nat → List Int → Int → List (List Int) → Int → Int → Option (List Int)
  | 0, _, _, _, _, _ => none
  | k + 1, o1, v1, v9, v10, v11 =>
    if decide (v11 < v10) = true then if (0 : Int) ≤ v11 then if v11 < (↑(List.length v9) : Int) then if (0 : Int) ≤ v1 then if v1 < (↑(List.length (List.getD v9 (Int.toNat v11) [])) : Int) then if List.length o1 + List.length [List.getD (List.getD v9 (Int.toNat v11) []) (Int.toNat v1) (0 : Int)] ≤ (140737488355328 / 8 : Nat) then f_impl_column_0 k (o1 ++ [List.getD (List.getD v9 (Int.toNat v11) []) (Int.toNat v1) (0 : Int)]) v1 v9 v10 (wrap64 (v11 + (1 : Int))) else none else none else none else none else none else some o1
noncomputable def f_impl_column_0i : Spec := { objs := [OSh.ro, OSh.row true (3 : Nat) (Ty.int IntKind.i64)], tmps := [((1 : Nat), TSh.at (Sh.int IntKind.i64)), ((5 : Nat), TSh.at (Sh.sl (1 : Nat))), ((9 : Nat), TSh.at (Sh.snap (0 : Nat) (Ty.slice (3 : Nat) (Ty.int IntKind.i64)))), ((10 : Nat), TSh.at (Sh.int IntKind.i64)), ((11 : Nat), TSh.at (Sh.int IntKind.i64))] }
noncomputable def f_impl_column_0o : Spec := { objs := [OSh.ro, OSh.row true (3 : Nat) (Ty.int IntKind.i64)], tmps := [((5 : Nat), TSh.at (Sh.sl (1 : Nat)))] }
noncomputable def f_impl_column_0D : LoopDef (Tup r_impl_column × OutD) := .plain f_impl_column_0i f_impl_column_0o (List Int) (fun k x => f_impl_column_0 k x.1.2.1 x.2.1 x.2.2.2.1 x.2.2.2.2.1 x.2.2.2.2.2.1) (fun z => (((), z, ()), ((), ()))) (fun y => (y.1.2.1)) (fun _ => rfl)
noncomputable def f_impl_column : Nat → List (List Int) → Int → Option (List Int)
  | 0, _, _ => none
  | k + 1, p0, p1 =>
    Option.bind (f_impl_column_0 k [] p1 p0 (↑(List.length p0) : Int) (0 : Int)) fun z0 => some z0
noncomputable def d_impl_column : FnDef := .of q_impl_column r_impl_column (List Int) (fun k x => f_impl_column k x.1 x.2.1) to_impl_column of_impl_column to_of_impl_column
noncomputable def c_impl_column : Code := Try.f109.body.getD .skip
noncomputable def x_impl_column : Ctx (Tup r_impl_column × OutD) := { T := T, G := [], mvs := [], no := 0, n := 24, res := resOf T q_impl_column r_impl_column Try.f109.results.toList, loops := [(0, f_impl_column_0D.E)], regs := [], conds := [] }
theorem g_impl_column (k : Nat) : EnvOK Try.prog k x_impl_column.G := (EnvOK.nil mixed)
noncomputable def f_impl_column_0B : Code := (findLoop 0 c_impl_column).getD .skip
theorem f_impl_column_0h (k : Nat) (x : f_impl_column_0i.D) : f_impl_column_0D.lp (k + 1) x = loopK x_impl_column f_impl_column_0D 0 f_impl_column_0B k x := by kernel_rfl
theorem f_impl_column_0l (k : Nat) : LOK Try.prog x_impl_column k f_impl_column_0B := LOK.by [] (by kernel_rfl) AllOK.nil
theorem f_impl_column_0z (x : f_impl_column_0i.D) : f_impl_column_0D.lp 0 x = none := by kernel_rfl
theorem f_impl_column_0ok (k : Nat) : EOK Try.prog x_impl_column k f_impl_column_0D.E (.block 0 (.loop f_impl_column_0B)) := loop_ok T_ok g_impl_column f_impl_column_0z f_impl_column_0h f_impl_column_0l k
theorem h_impl_column (k : Nat) (x : Tup d_impl_column.ps) : d_impl_column.f (k + 1) x = fnK d_impl_column x_impl_column c_impl_column k x := by kernel_rfl
theorem z_impl_column (x : Tup d_impl_column.ps) : d_impl_column.f 0 x = none := by kernel_rfl
theorem l_impl_column (k : Nat) : LOK Try.prog x_impl_column k c_impl_column := LOK.by [(f_impl_column_0D.E, .block 0 (.loop f_impl_column_0B))] (by kernel_rfl) (AllOK.cons (f_impl_column_0ok k) AllOK.nil)
theorem s_impl_column (k : Nat) : SoundAt Try.prog k 109 d_impl_column.E := @fn_all Try.prog d_impl_column x_impl_column 109 Try.f109 c_impl_column (by kernel_rfl) (by kernel_rfl) (by kernel_rfl) Try.func109 (by kernel_rfl) (by kernel_rfl) (by kernel_rfl) T_ok g_impl_column l_impl_column z_impl_column h_impl_column k
/-! function 110 -/
noncomputable def r_spec_voPlace : List PK := [{ t := Ty.slice (3 : Nat) (Ty.int IntKind.i64) }]
noncomputable def q_spec_voPlace : List PK := [{ t := Ty.slice (34 : Nat) (Ty.slice (3 : Nat) (Ty.int IntKind.i64)) }, { t := Ty.int IntKind.i64 }]
noncomputable def to_spec_voPlace (r : List Int) : Tup r_spec_voPlace × OutD := ((r, ()), none)
noncomputable def of_spec_voPlace : Tup r_spec_voPlace × OutD → Option (List Int)
  | (a, none) => some (a.1)
  | _ => none
theorem to_of_spec_voPlace : ∀ b r, of_spec_voPlace b = some r → to_spec_voPlace r = b := by
  rintro ⟨a, o⟩ r h
  cases o with
  | none => injection h with h; subst h; rfl
  | some _ => cases h
noncomputable def f_spec_voPlace_0 : Nat → List Int → Int → List (List Int) → Int → Int → Option (List Int)
  | 0, _, _, _, _, _ => none
  | k + 1, o1, v1, v8, v9, v10 =>
    if decide (v10 < v9) = true then if (0 : Int) ≤ v10 then if v10 < (↑(List.length v8) : Int) then if (0 : Int) ≤ v1 then if v1 < (↑(List.length (List.getD v8 (Int.toNat v10) [])) : Int) then if List.length o1 + List.length [List.getD (List.getD v8 (Int.toNat v10) []) (Int.toNat v1) (0 : Int)] ≤ (140737488355328 / 8 : Nat) then f_spec_voPlace_0 k (o1 ++ [List.getD (List.getD v8 (Int.toNat v10) []) (Int.toNat v1) (0 : Int)]) v1 v8 v9 (wrap64 (v10 + (1 : Int))) else none else none else none else none else none else some o1
noncomputable def f_spec_voPlace_0i : Spec := { objs := [OSh.ro, OSh.row true (3 : Nat) (Ty.int IntKind.i64)], tmps := [((1 : Nat), TSh.at (Sh.int IntKind.i64)), ((5 : Nat), TSh.at (Sh.sl (1 : Nat))), ((8 : Nat), TSh.at (Sh.snap (0 : Nat) (Ty.slice (3 : Nat) (Ty.int IntKind.i64)))), ((9 : Nat), TSh.at (Sh.int IntKind.i64)), ((10 : Nat), TSh.at (Sh.int IntKind.i64))] }
noncomputable def f_spec_voPlace_0o : Spec := { objs := [OSh.ro, OSh.row true (3 : Nat) (Ty.int IntKind.i64)], tmps := [((5 : Nat), TSh.at (Sh.sl (1 : Nat)))] }
noncomputable def f_spec_voPlace_0D : LoopDef (Tup r_spec_voPlace × OutD) := .plain f_spec_voPlace_0i f_spec_voPlace_0o (List Int) (fun k x => f_spec_voPlace_0 k x.1.2.1 x.2.1 x.2.2.2.1 x.2.2.2.2.1 x.2.2.2.2.2.1) (fun z => (((), z, ()), ((), ()))) (fun y => (y.1.2.1)) (fun _ => rfl)
noncomputable def f_spec_voPlace : Nat → List (List Int) → Int → Option (List Int)
  | 0, _, _ => none
  | k + 1, p0, p1 =>
    Option.bind (f_spec_voPlace_0 k [] p1 p0 (↑(List.length p0) : Int) (0 : Int)) fun z0 => some z0
noncomputable def d_spec_voPlace : FnDef := .of q_spec_voPlace r_spec_voPlace (List Int) (fun k x => f_spec_voPlace k x.1 x.2.1) to_spec_voPlace of_spec_voPlace to_of_spec_voPlace
noncomputable def c_spec_voPlace : Code := Try.f110.body.getD .skip
noncomputable def x_spec_voPlace : Ctx (Tup r_spec_voPlace × OutD) := { T := T, G := [], mvs := [], no := 0, n := 23, res := resOf T q_spec_voPlace r_spec_voPlace Try.f110.results.toList, loops := [(0, f_spec_voPlace_0D.E)], regs := [], conds := [] }
theorem g_spec_voPlace (k : Nat) : EnvOK Try.prog k x_spec_voPlace.G := (EnvOK.nil mixed)
noncomputable def f_spec_voPlace_0B : Code := (findLoop 0 c_spec_voPlace).getD .skip
theorem f_spec_voPlace_0h (k : Nat) (x : f_spec_voPlace_0i.D) : f_spec_voPlace_0D.lp (k + 1) x = loopK x_spec_voPlace f_spec_voPlace_0D 0 f_spec_voPlace_0B k x := by kernel_rfl
theorem f_spec_voPlace_0l (k : Nat) : LOK Try.prog x_spec_voPlace k f_spec_voPlace_0B := LOK.by [] (by kernel_rfl) AllOK.nil
theorem f_spec_voPlace_0z (x : f_spec_voPlace_0i.D) : f_spec_voPlace_0D.lp 0 x = none := by kernel_rfl
theorem f_spec_voPlace_0ok (k : Nat) : EOK Try.prog x_spec_voPlace k f_spec_voPlace_0D.E (.block 0 (.loop f_spec_voPlace_0B)) := loop_ok T_ok g_spec_voPlace f_spec_voPlace_0z f_spec_voPlace_0h f_spec_voPlace_0l k
theorem h_spec_voPlace (k : Nat) (x : Tup d_spec_voPlace.ps) : d_spec_voPlace.f (k + 1) x = fnK d_spec_voPlace x_spec_voPlace c_spec_voPlace k x := by kernel_rfl
theorem z_spec_voPlace (x : Tup d_spec_voPlace.ps) : d_spec_voPlace.f 0 x = none := by kernel_rfl
theorem l_spec_voPlace (k : Nat) : LOK Try.prog x_spec_voPlace k c_spec_voPlace := LOK.by [(f_spec_voPlace_0D.E, .block 0 (.loop f_spec_voPlace_0B))] (by kernel_rfl) (AllOK.cons (f_spec_voPlace_0ok k) AllOK.nil)
theorem s_spec_voPlace (k : Nat) : SoundAt Try.prog k 110 d_spec_voPlace.E := @fn_all Try.prog d_spec_voPlace x_spec_voPlace 110 Try.f110 c_spec_voPlace (by kernel_rfl) (by kernel_rfl) (by kernel_rfl) Try.func110 (by kernel_rfl) (by kernel_rfl) (by kernel_rfl) T_ok g_spec_voPlace l_spec_voPlace z_spec_voPlace h_spec_voPlace k
/-! function 114 -/
noncomputable def r_spec_l1Has : List PK := [{ t := Ty.bool }]
noncomputable def q_spec_l1Has : List PK := [{ t := Ty.slice (3 : Nat) (Ty.int IntKind.i64) }, { t := Ty.int IntKind.i64 }]
noncomputable def to_spec_l1Has (r : Bool) : Tup r_spec_l1Has × OutD := ((r, ()), none)
noncomputable def of_spec_l1Has : Tup r_spec_l1Has × OutD → Option (Bool)
  | (a, none) => some (a.1)
  | _ => none
theorem to_of_spec_l1Has : ∀ b r, of_spec_l1Has b = some r → to_spec_l1Has r = b := by
  rintro ⟨a, o⟩ r h
  cases o with
  | none => injection h with h; subst h; rfl
  | some _ => cases h
noncomputable def f_spec_l1Has_0 : Nat → Int → List Int → Int → Int → Option (LR Unit Bool)
  | 0, _, _, _, _ => none
  | k + 1, v1, v7, v8, v9 =>
    if decide (v9 < v8) = true then if (0 : Int) ≤ v9 then if v9 < (↑(List.length v7) : Int) then if decide (List.getD v7 (Int.toNat v9) (0 : Int) = v1) = true then some (LR.ret true) else f_spec_l1Has_0 k v1 v7 v8 (wrap64 (v9 + (1 : Int))) else none else none else some (LR.go ())
noncomputable def f_spec_l1Has_0i : Spec := { objs := [OSh.ro], tmps := [((1 : Nat), TSh.at (Sh.int IntKind.i64)), ((7 : Nat), TSh.at (Sh.snap (0 : Nat) (Ty.int IntKind.i64))), ((8 : Nat), TSh.at (Sh.int IntKind.i64)), ((9 : Nat), TSh.at (Sh.int IntKind.i64))] }
noncomputable def f_spec_l1Has_0o : Spec := { objs := [OSh.ro], tmps := [] }
noncomputable def f_spec_l1Has_0D : LoopDef (Tup r_spec_l1Has × OutD) := .rets f_spec_l1Has_0i f_spec_l1Has_0o (Unit) (Bool) (fun k x => f_spec_l1Has_0 k x.2.1 x.2.2.1 x.2.2.2.1 x.2.2.2.2.1) (fun z => (((), ()), (()))) (fun y => ()) (fun _ => rfl) to_spec_l1Has of_spec_l1Has to_of_spec_l1Has
noncomputable def f_spec_l1Has : Nat → List Int → Int → Option Bool
  | 0, _, _ => none
  | k + 1, p0, p1 =>
    Option.bind (f_spec_l1Has_0 k p1 p0 (↑(List.length p0) : Int) (0 : Int)) fun z0 => LR.on z0 (fun y0 => some false) fun r0 => some r0
noncomputable def d_spec_l1Has : FnDef := .of q_spec_l1Has r_spec_l1Has (Bool) (fun k x => f_spec_l1Has k x.1 x.2.1) to_spec_l1Has of_spec_l1Has to_of_spec_l1Has
noncomputable def c_spec_l1Has : Code := Try.f114.body.getD .skip
noncomputable def x_spec_l1Has : Ctx (Tup r_spec_l1Has × OutD) := { T := T, G := [], mvs := [], no := 0, n := 17, res := resOf T q_spec_l1Has r_spec_l1Has Try.f114.results.toList, loops := [(0, f_spec_l1Has_0D.E)], regs := [], conds := [] }
theorem g_spec_l1Has (k : Nat) : EnvOK Try.prog k x_spec_l1Has.G := (EnvOK.nil mixed)
noncomputable def f_spec_l1Has_0B : Code := (findLoop 0 c_spec_l1Has).getD .skip
theorem f_spec_l1Has_0h (k : Nat) (x : f_spec_l1Has_0i.D) : f_spec_l1Has_0D.lp (k + 1) x = loopK x_spec_l1Has f_spec_l1Has_0D 0 f_spec_l1Has_0B k x := by kernel_rfl
theorem f_spec_l1Has_0l (k : Nat) : LOK Try.prog x_spec_l1Has k f_spec_l1Has_0B := LOK.by [] (by kernel_rfl) AllOK.nil
theorem f_spec_l1Has_0z (x : f_spec_l1Has_0i.D) : f_spec_l1Has_0D.lp 0 x = none := by kernel_rfl
theorem f_spec_l1Has_0ok (k : Nat) : EOK Try.prog x_spec_l1Has k f_spec_l1Has_0D.E (.block 0 (.loop f_spec_l1Has_0B)) := loop_ok T_ok g_spec_l1Has f_spec_l1Has_0z f_spec_l1Has_0h f_spec_l1Has_0l k
theorem h_spec_l1Has (k : Nat) (x : Tup d_spec_l1Has.ps) : d_spec_l1Has.f (k + 1) x = fnK d_spec_l1Has x_spec_l1Has c_spec_l1Has k x := by kernel_rfl
theorem z_spec_l1Has (x : Tup d_spec_l1Has.ps) : d_spec_l1Has.f 0 x = none := by kernel_rfl
theorem l_spec_l1Has (k : Nat) : LOK Try.prog x_spec_l1Has k c_spec_l1Has := LOK.by [(f_spec_l1Has_0D.E, .block 0 (.loop f_spec_l1Has_0B))] (by kernel_rfl) (AllOK.cons (f_spec_l1Has_0ok k) AllOK.nil)
theorem s_spec_l1Has (k : Nat) : SoundAt Try.prog k 114 d_spec_l1Has.E := @fn_all Try.prog d_spec_l1Has x_spec_l1Has 114 Try.f114 c_spec_l1Has (by kernel_rfl) (by kernel_rfl) (by kernel_rfl) Try.func114 (by kernel_rfl) (by kernel_rfl) (by kernel_rfl) T_ok g_spec_l1Has l_spec_l1Has z_spec_l1Has h_spec_l1Has k
/-! function 115 -/
noncomputable def r_spec_l1Most : List PK := [{ t := Ty.int IntKind.i64 }]
noncomputable def q_spec_l1Most : List PK := [{ t := Ty.int IntKind.i64 }, { t := Ty.int IntKind.i64 }]
noncomputable def to_spec_l1Most (r : Int) : Tup r_spec_l1Most × OutD := ((r, ()), none)
noncomputable def of_spec_l1Most : Tup r_spec_l1Most × OutD → Option (Int)
  | (a, none) => some (a.1)
  | _ => none
theorem to_of_spec_l1Most : ∀ b r, of_spec_l1Most b = some r → to_spec_l1Most r = b := by
  rintro ⟨a, o⟩ r h
  cases o with
  | none => injection h with h; subst h; rfl
  | some _ => cases h
noncomputable def f_spec_l1Most : Nat → Int → Int → Option Int
  | 0, _, _ => none
  | k + 1, p0, p1 =>
    if decide (p0 > p1) = true then some p0 else some p1
noncomputable def d_spec_l1Most : FnDef := .of q_spec_l1Most r_spec_l1Most (Int) (fun k x => f_spec_l1Most k x.1 x.2.1) to_spec_l1Most of_spec_l1Most to_of_spec_l1Most
noncomputable def c_spec_l1Most : Code := Try.f115.body.getD .skip
noncomputable def x_spec_l1Most : Ctx (Tup r_spec_l1Most × OutD) := { T := T, G := [], mvs := [], no := 0, n := 10, res := resOf T q_spec_l1Most r_spec_l1Most Try.f115.results.toList, loops := [], regs := [], conds := [] }
theorem g_spec_l1Most (k : Nat) : EnvOK Try.prog k x_spec_l1Most.G := (EnvOK.nil mixed)
theorem h_spec_l1Most (k : Nat) (x : Tup d_spec_l1Most.ps) : d_spec_l1Most.f (k + 1) x = fnK d_spec_l1Most x_spec_l1Most c_spec_l1Most k x := by kernel_rfl
theorem z_spec_l1Most (x : Tup d_spec_l1Most.ps) : d_spec_l1Most.f 0 x = none := by kernel_rfl
theorem l_spec_l1Most (k : Nat) : LOK Try.prog x_spec_l1Most k c_spec_l1Most := LOK.by [] (by kernel_rfl) AllOK.nil
theorem s_spec_l1Most (k : Nat) : SoundAt Try.prog k 115 d_spec_l1Most.E := @fn_all Try.prog d_spec_l1Most x_spec_l1Most 115 Try.f115 c_spec_l1Most (by kernel_rfl) (by kernel_rfl) (by kernel_rfl) Try.func115 (by kernel_rfl) (by kernel_rfl) (by kernel_rfl) T_ok g_spec_l1Most l_spec_l1Most z_spec_l1Most h_spec_l1Most k
/-! function 173 -/
noncomputable def r_impl_areDigits : List PK := [{ t := Ty.bool }]
noncomputable def q_impl_areDigits : List PK := [{ t := Ty.slice (3 : Nat) (Ty.int IntKind.i64) }]
noncomputable def to_impl_areDigits (r : Bool) : Tup r_impl_areDigits × OutD := ((r, ()), none)
noncomputable def of_impl_areDigits : Tup r_impl_areDigits × OutD → Option (Bool)
  | (a, none) => some (a.1)
  | _ => none
theorem to_of_impl_areDigits : ∀ b r, of_impl_areDigits b = some r → to_impl_areDigits r = b := by
  rintro ⟨a, o⟩ r h
  cases o with
  | none => injection h with h; subst h; rfl
  | some _ => cases h
noncomputable def f_impl_areDigits_0 : Nat → List Int → Int → Int → Option (LR Unit Bool)
  | 0, _, _, _ => none
  | k + 1, v5, v6, v7 =>
    if decide (v7 < v6) = true then if (0 : Int) ≤ v7 then if v7 < (↑(List.length v5) : Int) then if decide (List.getD v5 (Int.toNat v7) (0 : Int) < (0 : Int)) = true then some (LR.ret false) else if decide (List.getD v5 (Int.toNat v7) (0 : Int) > (9 : Int)) = true then some (LR.ret false) else f_impl_areDigits_0 k v5 v6 (wrap64 (v7 + (1 : Int))) else none else none else some (LR.go ())
noncomputable def f_impl_areDigits_0i : Spec := { objs := [OSh.ro], tmps := [((5 : Nat), TSh.at (Sh.snap (0 : Nat) (Ty.int IntKind.i64))), ((6 : Nat), TSh.at (Sh.int IntKind.i64)), ((7 : Nat), TSh.at (Sh.int IntKind.i64))] }
noncomputable def f_impl_areDigits_0o : Spec := { objs := [OSh.ro], tmps := [] }
noncomputable def f_impl_areDigits_0D : LoopDef (Tup r_impl_areDigits × OutD) := .rets f_impl_areDigits_0i f_impl_areDigits_0o (Unit) (Bool) (fun k x => f_impl_areDigits_0 k x.2.1 x.2.2.1 x.2.2.2.1) (fun z => (((), ()), (()))) (fun y => ()) (fun _ => rfl) to_impl_areDigits of_impl_areDigits to_of_impl_areDigits
noncomputable def f_impl_areDigits : Nat → List Int → Option Bool
  | 0, _ => none
  | k + 1, p0 =>
    Option.bind (f_impl_areDigits_0 k p0 (↑(List.length p0) : Int) (0 : Int)) fun z0 => LR.on z0 (fun y0 => some true) fun r0 => some r0
noncomputable def d_impl_areDigits : FnDef := .of q_impl_areDigits r_impl_areDigits (Bool) (fun k x => f_impl_areDigits k x.1) to_impl_areDigits of_impl_areDigits to_of_impl_areDigits
noncomputable def c_impl_areDigits : Code := Try.f173.body.getD .skip
noncomputable def x_impl_areDigits : Ctx (Tup r_impl_areDigits × OutD) := { T := T, G := [], mvs := [], no := 0, n := 18, res := resOf T q_impl_areDigits r_impl_areDigits Try.f173.results.toList, loops := [(0, f_impl_areDigits_0D.E)], regs := [], conds := [] }
theorem g_impl_areDigits (k : Nat) : EnvOK Try.prog k x_impl_areDigits.G := (EnvOK.nil mixed)
noncomputable def f_impl_areDigits_0B : Code := (findLoop 0 c_impl_areDigits).getD .skip
theorem f_impl_areDigits_0h (k : Nat) (x : f_impl_areDigits_0i.D) : f_impl_areDigits_0D.lp (k + 1) x = loopK x_impl_areDigits f_impl_areDigits_0D 0 f_impl_areDigits_0B k x := by kernel_rfl
theorem f_impl_areDigits_0l (k : Nat) : LOK Try.prog x_impl_areDigits k f_impl_areDigits_0B := LOK.by [] (by kernel_rfl) AllOK.nil
theorem f_impl_areDigits_0z (x : f_impl_areDigits_0i.D) : f_impl_areDigits_0D.lp 0 x = none := by kernel_rfl
theorem f_impl_areDigits_0ok (k : Nat) : EOK Try.prog x_impl_areDigits k f_impl_areDigits_0D.E (.block 0 (.loop f_impl_areDigits_0B)) := loop_ok T_ok g_impl_areDigits f_impl_areDigits_0z f_impl_areDigits_0h f_impl_areDigits_0l k
theorem h_impl_areDigits (k : Nat) (x : Tup d_impl_areDigits.ps) : d_impl_areDigits.f (k + 1) x = fnK d_impl_areDigits x_impl_areDigits c_impl_areDigits k x := by kernel_rfl
theorem z_impl_areDigits (x : Tup d_impl_areDigits.ps) : d_impl_areDigits.f 0 x = none := by kernel_rfl
theorem l_impl_areDigits (k : Nat) : LOK Try.prog x_impl_areDigits k c_impl_areDigits := LOK.by [(f_impl_areDigits_0D.E, .block 0 (.loop f_impl_areDigits_0B))] (by kernel_rfl) (AllOK.cons (f_impl_areDigits_0ok k) AllOK.nil)
theorem s_impl_areDigits (k : Nat) : SoundAt Try.prog k 173 d_impl_areDigits.E := @fn_all Try.prog d_impl_areDigits x_impl_areDigits 173 Try.f173 c_impl_areDigits (by kernel_rfl) (by kernel_rfl) (by kernel_rfl) Try.func173 (by kernel_rfl) (by kernel_rfl) (by kernel_rfl) T_ok g_impl_areDigits l_impl_areDigits z_impl_areDigits h_impl_areDigits k
/-! function 174 -/
noncomputable def r_spec_l1Own : List PK := [{ t := Ty.slice (3 : Nat) (Ty.int IntKind.i64) }]
noncomputable def q_spec_l1Own : List PK := [{ t := Ty.slice (3 : Nat) (Ty.int IntKind.i64) }]
noncomputable def to_spec_l1Own (r : List Int) : Tup r_spec_l1Own × OutD := ((r, ()), none)
noncomputable def of_spec_l1Own : Tup r_spec_l1Own × OutD → Option (List Int)
  | (a, none) => some (a.1)
  | _ => none
theorem to_of_spec_l1Own : ∀ b r, of_spec_l1Own b = some r → to_spec_l1Own r = b := by
  rintro ⟨a, o⟩ r h
  cases o with
  | none => injection h with h; subst h; rfl
  | some _ => cases h
noncomputable def f_spec_l1Own : Nat → List Int → Option (List Int)
  | 0, _ => none
  | k + 1, p0 =>
    if (0 : Nat) + List.length p0 ≤ (140737488355328 / 8 : Nat) then some p0 else none
noncomputable def d_spec_l1Own : FnDef := .of q_spec_l1Own r_spec_l1Own (List Int) (fun k x => f_spec_l1Own k x.1) to_spec_l1Own of_spec_l1Own to_of_spec_l1Own
noncomputable def c_spec_l1Own : Code := Try.f174.body.getD .skip
noncomputable def x_spec_l1Own : Ctx (Tup r_spec_l1Own × OutD) := { T := T, G := [], mvs := [], no := 0, n := 6, res := resOf T q_spec_l1Own r_spec_l1Own Try.f174.results.toList, loops := [], regs := [], conds := [] }
theorem g_spec_l1Own (k : Nat) : EnvOK Try.prog k x_spec_l1Own.G := (EnvOK.nil mixed)
theorem h_spec_l1Own (k : Nat) (x : Tup d_spec_l1Own.ps) : d_spec_l1Own.f (k + 1) x = fnK d_spec_l1Own x_spec_l1Own c_spec_l1Own k x := by kernel_rfl
theorem z_spec_l1Own (x : Tup d_spec_l1Own.ps) : d_spec_l1Own.f 0 x = none := by kernel_rfl
theorem l_spec_l1Own (k : Nat) : LOK Try.prog x_spec_l1Own k c_spec_l1Own := LOK.by [] (by kernel_rfl) AllOK.nil
theorem s_spec_l1Own (k : Nat) : SoundAt Try.prog k 174 d_spec_l1Own.E := @fn_all Try.prog d_spec_l1Own x_spec_l1Own 174 Try.f174 c_spec_l1Own (by kernel_rfl) (by kernel_rfl) (by kernel_rfl) Try.func174 (by kernel_rfl) (by kernel_rfl) (by kernel_rfl) T_ok g_spec_l1Own l_spec_l1Own z_spec_l1Own h_spec_l1Own k
/-! function 175 -/
noncomputable def r_spec_l1Cur_next : List PK := [{ t := Ty.int IntKind.i64 }]
noncomputable def q_spec_l1Cur_next : List PK := [{ t := Ty.pair (Ty.slice (5 : Nat) (Ty.int IntKind.u8)) (Ty.pair (Ty.int IntKind.i64) (Ty.int IntKind.u64)), box := some (114 : Nat) }]
noncomputable def to_spec_l1Cur_next (r : Int × Int × Int) : Tup r_spec_l1Cur_next × OutD := ((r.1, ()), some ⟨Ty.pair (Ty.slice (5 : Nat) (Ty.int IntKind.u8)) (Ty.pair (Ty.int IntKind.i64) (Ty.int IntKind.u64)), [([], r.2)]⟩)
noncomputable def of_spec_l1Cur_next : Tup r_spec_l1Cur_next × OutD → Option (Int × Int × Int)
  | (a, some ⟨u, ys⟩) => if h : u = Ty.pair (Ty.slice (5 : Nat) (Ty.int IntKind.u8)) (Ty.pair (Ty.int IntKind.i64) (Ty.int IntKind.u64)) then (match castU h ys with
    | [([], y)] => some (a.1, y)
    | _ => none) else none
  | _ => none
theorem to_of_spec_l1Cur_next : ∀ b r, of_spec_l1Cur_next b = some r → to_spec_l1Cur_next r = b := by
  rintro ⟨a, o⟩ r h
  cases o with
  | none => cases h
  | some s =>
    obtain ⟨u, ys⟩ := s
    simp only [of_spec_l1Cur_next] at h
    split at h
    · rename_i hu
      subst hu
      match ys, h with
      | [], h => cases (show (none : Option _) = some r from h)
      | [([], y)], h => injection (show some _ = some r from h) with h; subst h; rfl
      | [(_ :: _, y)], h => cases (show (none : Option _) = some r from h)
      | (h1, _) :: _ :: _, h => cases h1 <;> cases (show (none : Option _) = some r from h)
    · cases h
noncomputable def f_spec_l1Cur_next : Nat → List Int × Int × Int → Option (Int × Int × Int)
  | 0, _ => none
  | k + 1, p0 =>
    if decide (Prod.fst (Prod.snd p0) < (↑(List.length (Prod.fst p0)) : Int)) = true then if (0 : Int) ≤ Prod.fst (Prod.snd p0) then if Prod.fst (Prod.snd p0) < (↑(List.length (Prod.fst p0)) : Int) then if decide (wrap64 (Prod.fst (Prod.snd p0) + (1 : Int)) ≤ (↑(List.length (Prod.fst p0)) : Int)) = true then some (wrap64 (List.getD (Prod.fst p0) (Int.toNat (Prod.fst (Prod.snd p0))) (0 : Int)), wrap64 (Prod.fst (Prod.snd p0) + (1 : Int)), IntKind.wrap IntKind.u64 (IntKind.wrap IntKind.u64 (IntKind.wrap IntKind.u64 (Prod.snd (Prod.snd p0) * (6364136223846793005 : Int)) + IntKind.wrap IntKind.u64 (wrap64 (List.getD (Prod.fst p0) (Int.toNat (Prod.fst (Prod.snd p0))) (0 : Int)))) + (1442695040888963407 : Int))) else some (wrap64 (bits BinOp.and IntKind.u64 (Int.fdiv (IntKind.wrap IntKind.u64 (IntKind.wrap IntKind.u64 (IntKind.wrap IntKind.u64 (Prod.snd (Prod.snd p0) * (6364136223846793005 : Int)) + IntKind.wrap IntKind.u64 (wrap64 (List.getD (Prod.fst p0) (Int.toNat (Prod.fst (Prod.snd p0))) (0 : Int)))) + (1442695040888963407 : Int))) ((2 : Int) ^ min (Int.toNat (40 : Int)) (IntKind.bits IntKind.u64))) (255 : Int)), wrap64 (Prod.fst (Prod.snd p0) + (1 : Int)), IntKind.wrap IntKind.u64 (IntKind.wrap IntKind.u64 (IntKind.wrap IntKind.u64 (Prod.snd (Prod.snd p0) * (6364136223846793005 : Int)) + IntKind.wrap IntKind.u64 (wrap64 (List.getD (Prod.fst p0) (Int.toNat (Prod.fst (Prod.snd p0))) (0 : Int)))) + (1442695040888963407 : Int))) else none else none else if decide (wrap64 (Prod.fst (Prod.snd p0) + (1 : Int)) ≤ (↑(List.length (Prod.fst p0)) : Int)) = true then some ((0 : Int), wrap64 (Prod.fst (Prod.snd p0) + (1 : Int)), IntKind.wrap IntKind.u64 (IntKind.wrap IntKind.u64 (IntKind.wrap IntKind.u64 (Prod.snd (Prod.snd p0) * (6364136223846793005 : Int)) + IntKind.wrap IntKind.u64 (0 : Int)) + (1442695040888963407 : Int))) else some (wrap64 (bits BinOp.and IntKind.u64 (Int.fdiv (IntKind.wrap IntKind.u64 (IntKind.wrap IntKind.u64 (IntKind.wrap IntKind.u64 (Prod.snd (Prod.snd p0) * (6364136223846793005 : Int)) + IntKind.wrap IntKind.u64 (0 : Int)) + (1442695040888963407 : Int))) ((2 : Int) ^ min (Int.toNat (40 : Int)) (IntKind.bits IntKind.u64))) (255 : Int)), wrap64 (Prod.fst (Prod.snd p0) + (1 : Int)), IntKind.wrap IntKind.u64 (IntKind.wrap IntKind.u64 (IntKind.wrap IntKind.u64 (Prod.snd (Prod.snd p0) * (6364136223846793005 : Int)) + IntKind.wrap IntKind.u64 (0 : Int)) + (1442695040888963407 : Int)))
noncomputable def d_spec_l1Cur_next : FnDef := .of q_spec_l1Cur_next r_spec_l1Cur_next (Int × Int × Int) (fun k x => f_spec_l1Cur_next k x.1) to_spec_l1Cur_next of_spec_l1Cur_next to_of_spec_l1Cur_next
noncomputable def c_spec_l1Cur_next : Code := Try.f175.body.getD .skip
noncomputable def x_spec_l1Cur_next : Ctx (Tup r_spec_l1Cur_next × OutD) := { T := T, G := [], mvs := [], no := 2, n := 62, res := resOf T q_spec_l1Cur_next r_spec_l1Cur_next Try.f175.results.toList, loops := [], regs := [], conds := [] }
theorem g_spec_l1Cur_next (k : Nat) : EnvOK Try.prog k x_spec_l1Cur_next.G := (EnvOK.nil mixed)
theorem h_spec_l1Cur_next (k : Nat) (x : Tup d_spec_l1Cur_next.ps) : d_spec_l1Cur_next.f (k + 1) x = fnK d_spec_l1Cur_next x_spec_l1Cur_next c_spec_l1Cur_next k x := by kernel_rfl
theorem z_spec_l1Cur_next (x : Tup d_spec_l1Cur_next.ps) : d_spec_l1Cur_next.f 0 x = none := by kernel_rfl
theorem l_spec_l1Cur_next (k : Nat) : LOK Try.prog x_spec_l1Cur_next k c_spec_l1Cur_next := LOK.by [] (by kernel_rfl) AllOK.nil
theorem s_spec_l1Cur_next (k : Nat) : SoundAt Try.prog k 175 d_spec_l1Cur_next.E := @fn_all Try.prog d_spec_l1Cur_next x_spec_l1Cur_next 175 Try.f175 c_spec_l1Cur_next (by kernel_rfl) (by kernel_rfl) (by kernel_rfl) Try.func175 (by kernel_rfl) (by kernel_rfl) (by kernel_rfl) T_ok g_spec_l1Cur_next l_spec_l1Cur_next z_spec_l1Cur_next h_spec_l1Cur_next k
/-! function 176 -/
noncomputable def r_slices_Index_int_int : List PK := [{ t := Ty.int IntKind.i64 }]
noncomputable def q_slices_Index_int_int : List PK := [{ t := Ty.slice (3 : Nat) (Ty.int IntKind.i64) }, { t := Ty.int IntKind.i64 }]
noncomputable def to_slices_Index_int_int (r : Int) : Tup r_slices_Index_int_int × OutD := ((r, ()), none)
noncomputable def of_slices_Index_int_int : Tup r_slices_Index_int_int × OutD → Option (Int)
  | (a, none) => some (a.1)
  | _ => none
theorem to_of_slices_Index_int_int : ∀ b r, of_slices_Index_int_int b = some r → to_slices_Index_int_int r = b := by
  rintro ⟨a, o⟩ r h
  cases o with
  | none => injection h with h; subst h; rfl
  | some _ => cases h
noncomputable def f_slices_Index_int_int_0 : Nat → List Int → Int → Int → Int → Option (LR Unit Int)
  | 0, _, _, _, _ => none
  | k + 1, v0, v1, v7, v8 =>
    if decide (v8 < v7) = true then if (0 : Int) ≤ v8 then if v8 < (↑(List.length v0) : Int) then if decide (v1 = List.getD v0 (Int.toNat v8) (0 : Int)) = true then some (LR.ret v8) else f_slices_Index_int_int_0 k v0 v1 v7 (wrap64 (v8 + (1 : Int))) else none else none else some (LR.go ())
noncomputable def f_slices_Index_int_int_0i : Spec := { objs := [OSh.ro], tmps := [((0 : Nat), TSh.at (Sh.snap (0 : Nat) (Ty.int IntKind.i64))), ((1 : Nat), TSh.at (Sh.int IntKind.i64)), ((7 : Nat), TSh.at (Sh.int IntKind.i64)), ((8 : Nat), TSh.at (Sh.int IntKind.i64))] }
noncomputable def f_slices_Index_int_int_0o : Spec := { objs := [OSh.ro], tmps := [] }
noncomputable def f_slices_Index_int_int_0D : LoopDef (Tup r_slices_Index_int_int × OutD) := .rets f_slices_Index_int_int_0i f_slices_Index_int_int_0o (Unit) (Int) (fun k x => f_slices_Index_int_int_0 k x.2.1 x.2.2.1 x.2.2.2.1 x.2.2.2.2.1) (fun z => (((), ()), (()))) (fun y => ()) (fun _ => rfl) to_slices_Index_int_int of_slices_Index_int_int to_of_slices_Index_int_int
noncomputable def f_slices_Index_int_int : Nat → List Int → Int → Option Int
  | 0, _, _ => none
  | k + 1, p0, p1 =>
    Option.bind (f_slices_Index_int_int_0 k p0 p1 (↑(List.length p0) : Int) (0 : Int)) fun z0 => LR.on z0 (fun y0 => some (-1 : Int)) fun r0 => some r0
noncomputable def d_slices_Index_int_int : FnDef := .of q_slices_Index_int_int r_slices_Index_int_int (Int) (fun k x => f_slices_Index_int_int k x.1 x.2.1) to_slices_Index_int_int of_slices_Index_int_int to_of_slices_Index_int_int
noncomputable def c_slices_Index_int_int : Code := Try.f176.body.getD .skip
noncomputable def x_slices_Index_int_int : Ctx (Tup r_slices_Index_int_int × OutD) := { T := T, G := [], mvs := [], no := 0, n := 19, res := resOf T q_slices_Index_int_int r_slices_Index_int_int Try.f176.results.toList, loops := [(0, f_slices_Index_int_int_0D.E)], regs := [], conds := [] }
theorem g_slices_Index_int_int (k : Nat) : EnvOK Try.prog k x_slices_Index_int_int.G := (EnvOK.nil mixed)
noncomputable def f_slices_Index_int_int_0B : Code := (findLoop 0 c_slices_Index_int_int).getD .skip
theorem f_slices_Index_int_int_0h (k : Nat) (x : f_slices_Index_int_int_0i.D) : f_slices_Index_int_int_0D.lp (k + 1) x = loopK x_slices_Index_int_int f_slices_Index_int_int_0D 0 f_slices_Index_int_int_0B k x := by kernel_rfl
theorem f_slices_Index_int_int_0l (k : Nat) : LOK Try.prog x_slices_Index_int_int k f_slices_Index_int_int_0B := LOK.by [] (by kernel_rfl) AllOK.nil
theorem f_slices_Index_int_int_0z (x : f_slices_Index_int_int_0i.D) : f_slices_Index_int_int_0D.lp 0 x = none := by kernel_rfl
theorem f_slices_Index_int_int_0ok (k : Nat) : EOK Try.prog x_slices_Index_int_int k f_slices_Index_int_int_0D.E (.block 0 (.loop f_slices_Index_int_int_0B)) := loop_ok T_ok g_slices_Index_int_int f_slices_Index_int_int_0z f_slices_Index_int_int_0h f_slices_Index_int_int_0l k
theorem h_slices_Index_int_int (k : Nat) (x : Tup d_slices_Index_int_int.ps) : d_slices_Index_int_int.f (k + 1) x = fnK d_slices_Index_int_int x_slices_Index_int_int c_slices_Index_int_int k x := by kernel_rfl
theorem z_slices_Index_int_int (x : Tup d_slices_Index_int_int.ps) : d_slices_Index_int_int.f 0 x = none := by kernel_rfl
theorem l_slices_Index_int_int (k : Nat) : LOK Try.prog x_slices_Index_int_int k c_slices_Index_int_int := LOK.by [(f_slices_Index_int_int_0D.E, .block 0 (.loop f_slices_Index_int_int_0B))] (by kernel_rfl) (AllOK.cons (f_slices_Index_int_int_0ok k) AllOK.nil)
theorem s_slices_Index_int_int (k : Nat) : SoundAt Try.prog k 176 d_slices_Index_int_int.E := @fn_all Try.prog d_slices_Index_int_int x_slices_Index_int_int 176 Try.f176 c_slices_Index_int_int (by kernel_rfl) (by kernel_rfl) (by kernel_rfl) Try.func176 (by kernel_rfl) (by kernel_rfl) (by kernel_rfl) T_ok g_slices_Index_int_int l_slices_Index_int_int z_slices_Index_int_int h_slices_Index_int_int k
end
end Go.Proofs.Ytgjmhbjdhihgaaa.Vs

set_option maxRecDepth 100000
set_option maxHeartbeats 2000000
set_option linter.unusedVariables false
set_option linter.unusedSimpArgs false
namespace Go.Proofs.Ytgjmhbjdhihgaaa.Vs
open Go.RowKit
noncomputable section
/-! function 93 -/
noncomputable def r_spec_voCopies : List PK := [{ t := Ty.bool }]
noncomputable def q_spec_voCopies : List PK := [{ t := Ty.int IntKind.i64 }]
noncomputable def to_spec_voCopies (r : Bool) : Tup r_spec_voCopies × OutD := ((r, ()), none)
noncomputable def of_spec_voCopies : Tup r_spec_voCopies × OutD → Option (Bool)
  | (a, none) => some (a.1)
  | _ => none
theorem to_of_spec_voCopies : ∀ b r, of_spec_voCopies b = some r → to_spec_voCopies r = b := by
  rintro ⟨a, o⟩ r h
  cases o with
  | none => injection h with h; subst h; rfl
  | some _ => cases h
noncomputable def f_spec_voCopies : Nat → Int → Option Bool
  | 0, _ => none
  | k + 1, p0 =>
    Option.bind (f_spec_l1In k p0 (1 : Int) (9 : Int)) fun z0 => some z0
noncomputable def d_spec_voCopies : FnDef := .of q_spec_voCopies r_spec_voCopies (Bool) (fun k x => f_spec_voCopies k x.1) to_spec_voCopies of_spec_voCopies to_of_spec_voCopies
noncomputable def c_spec_voCopies : Code := Try.f93.body.getD .skip
noncomputable def x_spec_voCopies : Ctx (Tup r_spec_voCopies × OutD) := { T := T, G := [(96, d_spec_l1In.E)], mvs := [], no := 0, n := 5, res := resOf T q_spec_voCopies r_spec_voCopies Try.f93.results.toList, loops := [], regs := [], conds := [] }
theorem g_spec_voCopies (k : Nat) : EnvOK Try.prog k x_spec_voCopies.G := (EnvOK.cons (s_spec_l1In k) (EnvOK.nil mixed))
theorem h_spec_voCopies (k : Nat) (x : Tup d_spec_voCopies.ps) : d_spec_voCopies.f (k + 1) x = fnK d_spec_voCopies x_spec_voCopies c_spec_voCopies k x := by kernel_rfl
theorem z_spec_voCopies (x : Tup d_spec_voCopies.ps) : d_spec_voCopies.f 0 x = none := by kernel_rfl
theorem l_spec_voCopies (k : Nat) : LOK Try.prog x_spec_voCopies k c_spec_voCopies := LOK.by [] (by kernel_rfl) AllOK.nil
theorem s_spec_voCopies (k : Nat) : SoundAt Try.prog k 93 d_spec_voCopies.E := @fn_all Try.prog d_spec_voCopies x_spec_voCopies 93 Try.f93 c_spec_voCopies (by kernel_rfl) (by kernel_rfl) (by kernel_rfl) Try.func93 (by kernel_rfl) (by kernel_rfl) (by kernel_rfl) T_ok g_spec_voCopies l_spec_voCopies z_spec_voCopies h_spec_voCopies k
/-! function 98 -/
noncomputable def r_impl_areVotes : List PK := [{ t := Ty.bool }]
noncomputable def q_impl_areVotes : List PK := [{ t := Ty.slice (3 : Nat) (Ty.int IntKind.i64) }]
noncomputable def to_impl_areVotes (r : Bool) : Tup r_impl_areVotes × OutD := ((r, ()), none)
noncomputable def of_impl_areVotes : Tup r_impl_areVotes × OutD → Option (Bool)
  | (a, none) => some (a.1)
  | _ => none
theorem to_of_impl_areVotes : ∀ b r, of_impl_areVotes b = some r → to_impl_areVotes r = b := by
  rintro ⟨a, o⟩ r h
  cases o with
  | none => injection h with h; subst h; rfl
  | some _ => cases h
noncomputable def f_impl_areVotes : Nat → List Int → Option Bool
  | 0, _ => none
  | k + 1, p0 =>
    if decide ((↑(List.length p0) : Int) ≥ (1 : Int)) = true then if decide ((↑(List.length p0) : Int) ≤ (9 : Int)) = true then Option.bind (f_impl_areDigits k p0) fun z0 => some z0 else some false else some false
noncomputable def d_impl_areVotes : FnDef := .of q_impl_areVotes r_impl_areVotes (Bool) (fun k x => f_impl_areVotes k x.1) to_impl_areVotes of_impl_areVotes to_of_impl_areVotes
noncomputable def c_impl_areVotes : Code := Try.f98.body.getD .skip
noncomputable def x_impl_areVotes : Ctx (Tup r_impl_areVotes × OutD) := { T := T, G := [(173, d_impl_areDigits.E)], mvs := [], no := 0, n := 15, res := resOf T q_impl_areVotes r_impl_areVotes Try.f98.results.toList, loops := [], regs := [], conds := [] }
theorem g_impl_areVotes (k : Nat) : EnvOK Try.prog k x_impl_areVotes.G := (EnvOK.cons (s_impl_areDigits k) (EnvOK.nil mixed))
theorem h_impl_areVotes (k : Nat) (x : Tup d_impl_areVotes.ps) : d_impl_areVotes.f (k + 1) x = fnK d_impl_areVotes x_impl_areVotes c_impl_areVotes k x := by kernel_rfl
theorem z_impl_areVotes (x : Tup d_impl_areVotes.ps) : d_impl_areVotes.f 0 x = none := by kernel_rfl
theorem l_impl_areVotes (k : Nat) : LOK Try.prog x_impl_areVotes k c_impl_areVotes := LOK.by [] (by kernel_rfl) AllOK.nil
theorem s_impl_areVotes (k : Nat) : SoundAt Try.prog k 98 d_impl_areVotes.E := @fn_all Try.prog d_impl_areVotes x_impl_areVotes 98 Try.f98 c_impl_areVotes (by kernel_rfl) (by kernel_rfl) (by kernel_rfl) Try.func98 (by kernel_rfl) (by kernel_rfl) (by kernel_rfl) T_ok g_impl_areVotes l_impl_areVotes z_impl_areVotes h_impl_areVotes k
/-! function 103 -/
noncomputable def r_impl_areRows : List PK := [{ t := Ty.bool }]
noncomputable def q_impl_areRows : List PK := [{ t := Ty.slice (34 : Nat) (Ty.slice (3 : Nat) (Ty.int IntKind.i64)) }]
noncomputable def to_impl_areRows (r : Bool) : Tup r_impl_areRows × OutD := ((r, ()), none)
noncomputable def of_impl_areRows : Tup r_impl_areRows × OutD → Option (Bool)
  | (a, none) => some (a.1)
  | _ => none
theorem to_of_impl_areRows : ∀ b r, of_impl_areRows b = some r → to_impl_areRows r = b := by
  rintro ⟨a, o⟩ r h
  cases o with
  | none => injection h with h; subst h; rfl
  | some _ => cases h
noncomputable def f_impl_areRows_0 : Nat → List (List Int) → List (List Int) → Int → Int → Option (LR Unit Bool)
  | 0, _, _, _, _ => none
  | k + 1, v0, v13, v14, v15 =>
    if decide (v15 < v14) = true then if (0 : Int) ≤ v15 then if v15 < (↑(List.length v13) : Int) then if (0 : Int) < (↑(List.length v0) : Int) then if decide ((↑(List.length (List.getD v13 (Int.toNat v15) [])) : Int) ≠ (↑(List.length (List.getD v0 (Int.toNat (0 : Int)) [])) : Int)) = true then some (LR.ret false) else if decide ((↑(List.length (List.getD v13 (Int.toNat v15) [])) : Int) > (40 : Int)) = true then some (LR.ret false) else Option.bind (f_impl_areDigits k (List.getD v13 (Int.toNat v15) [])) fun z0 => if (!z0) = true then some (LR.ret false) else f_impl_areRows_0 k v0 v13 v14 (wrap64 (v15 + (1 : Int))) else none else none else none else some (LR.go ())
noncomputable def f_impl_areRows_0i : Spec := { objs := [OSh.ro], tmps := [((0 : Nat), TSh.at (Sh.snap (0 : Nat) (Ty.slice (3 : Nat) (Ty.int IntKind.i64)))), ((13 : Nat), TSh.at (Sh.snap (0 : Nat) (Ty.slice (3 : Nat) (Ty.int IntKind.i64)))), ((14 : Nat), TSh.at (Sh.int IntKind.i64)), ((15 : Nat), TSh.at (Sh.int IntKind.i64))] }
noncomputable def f_impl_areRows_0o : Spec := { objs := [OSh.ro], tmps := [] }
noncomputable def f_impl_areRows_0D : LoopDef (Tup r_impl_areRows × OutD) := .rets f_impl_areRows_0i f_impl_areRows_0o (Unit) (Bool) (fun k x => f_impl_areRows_0 k x.2.1 x.2.2.1 x.2.2.2.1 x.2.2.2.2.1) (fun z => (((), ()), (()))) (fun y => ()) (fun _ => rfl) to_impl_areRows of_impl_areRows to_of_impl_areRows
noncomputable def f_impl_areRows : Nat → List (List Int) → Option Bool
  | 0, _ => none
  | k + 1, p0 =>
    if decide ((↑(List.length p0) : Int) < (1 : Int)) = true then some false else if decide ((↑(List.length p0) : Int) > (9 : Int)) = true then some false else Option.bind (f_impl_areRows_0 k p0 p0 (↑(List.length p0) : Int) (0 : Int)) fun z1 => LR.on z1 (fun y1 => some true) fun r1 => some r1
noncomputable def d_impl_areRows : FnDef := .of q_impl_areRows r_impl_areRows (Bool) (fun k x => f_impl_areRows k x.1) to_impl_areRows of_impl_areRows to_of_impl_areRows
noncomputable def c_impl_areRows : Code := Try.f103.body.getD .skip
noncomputable def x_impl_areRows : Ctx (Tup r_impl_areRows × OutD) := { T := T, G := [(173, d_impl_areDigits.E)], mvs := [], no := 0, n := 37, res := resOf T q_impl_areRows r_impl_areRows Try.f103.results.toList, loops := [(0, f_impl_areRows_0D.E)], regs := [], conds := [] }
theorem g_impl_areRows (k : Nat) : EnvOK Try.prog k x_impl_areRows.G := (EnvOK.cons (s_impl_areDigits k) (EnvOK.nil mixed))
noncomputable def f_impl_areRows_0B : Code := (findLoop 0 c_impl_areRows).getD .skip
theorem f_impl_areRows_0h (k : Nat) (x : f_impl_areRows_0i.D) : f_impl_areRows_0D.lp (k + 1) x = loopK x_impl_areRows f_impl_areRows_0D 0 f_impl_areRows_0B k x := by kernel_rfl
theorem f_impl_areRows_0l (k : Nat) : LOK Try.prog x_impl_areRows k f_impl_areRows_0B := LOK.by [] (by kernel_rfl) AllOK.nil
theorem f_impl_areRows_0z (x : f_impl_areRows_0i.D) : f_impl_areRows_0D.lp 0 x = none := by kernel_rfl
theorem f_impl_areRows_0ok (k : Nat) : EOK Try.prog x_impl_areRows k f_impl_areRows_0D.E (.block 0 (.loop f_impl_areRows_0B)) := loop_ok T_ok g_impl_areRows f_impl_areRows_0z f_impl_areRows_0h f_impl_areRows_0l k
theorem h_impl_areRows (k : Nat) (x : Tup d_impl_areRows.ps) : d_impl_areRows.f (k + 1) x = fnK d_impl_areRows x_impl_areRows c_impl_areRows k x := by kernel_rfl
theorem z_impl_areRows (x : Tup d_impl_areRows.ps) : d_impl_areRows.f 0 x = none := by kernel_rfl
theorem l_impl_areRows (k : Nat) : LOK Try.prog x_impl_areRows k c_impl_areRows := LOK.by [(f_impl_areRows_0D.E, .block 0 (.loop f_impl_areRows_0B))] (by kernel_rfl) (AllOK.cons (f_impl_areRows_0ok k) AllOK.nil)
theorem s_impl_areRows (k : Nat) : SoundAt Try.prog k 103 d_impl_areRows.E := @fn_all Try.prog d_impl_areRows x_impl_areRows 103 Try.f103 c_impl_areRows (by kernel_rfl) (by kernel_rfl) (by kernel_rfl) Try.func103 (by kernel_rfl) (by kernel_rfl) (by kernel_rfl) T_ok g_impl_areRows l_impl_areRows z_impl_areRows h_impl_areRows k
/-! function 104 -/
noncomputable def r_impl_votedRows : List PK := [{ t := Ty.slice (3 : Nat) (Ty.int IntKind.i64) }]
noncomputable def q_impl_votedRows : List PK := [{ t := Ty.slice (34 : Nat) (Ty.slice (3 : Nat) (Ty.int IntKind.i64)) }]
noncomputable def to_impl_votedRows (r : List Int) : Tup r_impl_votedRows × OutD := ((r, ()), none)
noncomputable def of_impl_votedRows : Tup r_impl_votedRows × OutD → Option (List Int)
  | (a, none) => some (a.1)
  | _ => none
theorem to_of_impl_votedRows : ∀ b r, of_impl_votedRows b = some r → to_impl_votedRows r = b := by
  rintro ⟨a, o⟩ r h
  cases o with
  | none => injection h with h; subst h; rfl
  | some _ => cases h
noncomputable def f_impl_votedRows_0 : Nat → List Int → List (List Int) → Int → Int → Option (List Int)
  | 0, _, _, _, _ => none
  | k + 1, o1, v0, v11, v12 =>
    if decide (v12 < v11) = true then Option.bind (f_impl_column k v0 v12) fun z0 => Option.bind (f_impl_mostVoted k z0) fun z1 => if List.length o1 + List.length [Prod.fst z1] ≤ (140737488355328 / 8 : Nat) then f_impl_votedRows_0 k (o1 ++ [Prod.fst z1]) v0 v11 (wrap64 (v12 + (1 : Int))) else none else some o1
noncomputable def f_impl_votedRows_0i : Spec := { objs := [OSh.ro, OSh.row true (3 : Nat) (Ty.int IntKind.i64)], tmps := [((0 : Nat), TSh.at (Sh.snap (0 : Nat) (Ty.slice (3 : Nat) (Ty.int IntKind.i64)))), ((3 : Nat), TSh.at (Sh.sl (1 : Nat))), ((11 : Nat), TSh.at (Sh.int IntKind.i64)), ((12 : Nat), TSh.at (Sh.int IntKind.i64))] }
noncomputable def f_impl_votedRows_0o : Spec := { objs := [OSh.ro, OSh.row true (3 : Nat) (Ty.int IntKind.i64)], tmps := [((3 : Nat), TSh.at (Sh.sl (1 : Nat)))] }
noncomputable def f_impl_votedRows_0D : LoopDef (Tup r_impl_votedRows × OutD) := .plain f_impl_votedRows_0i f_impl_votedRows_0o (List Int) (fun k x => f_impl_votedRows_0 k x.1.2.1 x.2.1 x.2.2.2.1 x.2.2.2.2.1) (fun z => (((), z, ()), ((), ()))) (fun y => (y.1.2.1)) (fun _ => rfl)
noncomputable def f_impl_votedRows : Nat → List (List Int) → Option (List Int)
  | 0, _ => none
  | k + 1, p0 =>
    if (0 : Int) < (↑(List.length p0) : Int) then Option.bind (f_impl_votedRows_0 k [] p0 (↑(List.length (List.getD p0 (Int.toNat (0 : Int)) [])) : Int) (0 : Int)) fun z2 => some z2 else none
noncomputable def d_impl_votedRows : FnDef := .of q_impl_votedRows r_impl_votedRows (List Int) (fun k x => f_impl_votedRows k x.1) to_impl_votedRows of_impl_votedRows to_of_impl_votedRows
noncomputable def c_impl_votedRows : Code := Try.f104.body.getD .skip
noncomputable def x_impl_votedRows : Ctx (Tup r_impl_votedRows × OutD) := { T := T, G := [(109, d_impl_column.E), (99, d_impl_mostVoted.E)], mvs := [], no := 0, n := 28, res := resOf T q_impl_votedRows r_impl_votedRows Try.f104.results.toList, loops := [(0, f_impl_votedRows_0D.E)], regs := [], conds := [] }
theorem g_impl_votedRows (k : Nat) : EnvOK Try.prog k x_impl_votedRows.G := (EnvOK.cons (s_impl_column k) (EnvOK.cons (s_impl_mostVoted k) (EnvOK.nil mixed)))
noncomputable def f_impl_votedRows_0B : Code := (findLoop 0 c_impl_votedRows).getD .skip
theorem f_impl_votedRows_0h (k : Nat) (x : f_impl_votedRows_0i.D) : f_impl_votedRows_0D.lp (k + 1) x = loopK x_impl_votedRows f_impl_votedRows_0D 0 f_impl_votedRows_0B k x := by kernel_rfl
theorem f_impl_votedRows_0l (k : Nat) : LOK Try.prog x_impl_votedRows k f_impl_votedRows_0B := LOK.by [] (by kernel_rfl) AllOK.nil
theorem f_impl_votedRows_0z (x : f_impl_votedRows_0i.D) : f_impl_votedRows_0D.lp 0 x = none := by kernel_rfl
theorem f_impl_votedRows_0ok (k : Nat) : EOK Try.prog x_impl_votedRows k f_impl_votedRows_0D.E (.block 0 (.loop f_impl_votedRows_0B)) := loop_ok T_ok g_impl_votedRows f_impl_votedRows_0z f_impl_votedRows_0h f_impl_votedRows_0l k
theorem h_impl_votedRows (k : Nat) (x : Tup d_impl_votedRows.ps) : d_impl_votedRows.f (k + 1) x = fnK d_impl_votedRows x_impl_votedRows c_impl_votedRows k x := by kernel_rfl
theorem z_impl_votedRows (x : Tup d_impl_votedRows.ps) : d_impl_votedRows.f 0 x = none := by kernel_rfl
theorem l_impl_votedRows (k : Nat) : LOK Try.prog x_impl_votedRows k c_impl_votedRows := LOK.by [(f_impl_votedRows_0D.E, .block 0 (.loop f_impl_votedRows_0B))] (by kernel_rfl) (AllOK.cons (f_impl_votedRows_0ok k) AllOK.nil)
theorem s_impl_votedRows (k : Nat) : SoundAt Try.prog k 104 d_impl_votedRows.E := @fn_all Try.prog d_impl_votedRows x_impl_votedRows 104 Try.f104 c_impl_votedRows (by kernel_rfl) (by kernel_rfl) (by kernel_rfl) Try.func104 (by kernel_rfl) (by kernel_rfl) (by kernel_rfl) T_ok g_impl_votedRows l_impl_votedRows z_impl_votedRows h_impl_votedRows k
/-! function 106 -/
noncomputable def r_spec_voVoted : List PK := [{ t := Ty.slice (3 : Nat) (Ty.int IntKind.i64) }]
noncomputable def q_spec_voVoted : List PK := [{ t := Ty.slice (34 : Nat) (Ty.slice (3 : Nat) (Ty.int IntKind.i64)) }]
noncomputable def to_spec_voVoted (r : List Int) : Tup r_spec_voVoted × OutD := ((r, ()), none)
noncomputable def of_spec_voVoted : Tup r_spec_voVoted × OutD → Option (List Int)
  | (a, none) => some (a.1)
  | _ => none
theorem to_of_spec_voVoted : ∀ b r, of_spec_voVoted b = some r → to_spec_voVoted r = b := by
  rintro ⟨a, o⟩ r h
  cases o with
  | none => injection h with h; subst h; rfl
  | some _ => cases h
noncomputable def f_spec_voVoted_0 : Nat → List Int → List (List Int) → Int → Int → Option (List Int)
  | 0, _, _, _, _ => none
  | k + 1, o1, v0, v10, v11 =>
    if decide (v11 < v10) = true then Option.bind (f_spec_voPlace k v0 v11) fun z0 => Option.bind (f_spec_voMost k z0) fun z1 => if List.length o1 + List.length [Prod.fst z1] ≤ (140737488355328 / 8 : Nat) then f_spec_voVoted_0 k (o1 ++ [Prod.fst z1]) v0 v10 (wrap64 (v11 + (1 : Int))) else none else some o1
noncomputable def f_spec_voVoted_0i : Spec := { objs := [OSh.ro, OSh.row true (3 : Nat) (Ty.int IntKind.i64)], tmps := [((0 : Nat), TSh.at (Sh.snap (0 : Nat) (Ty.slice (3 : Nat) (Ty.int IntKind.i64)))), ((3 : Nat), TSh.at (Sh.sl (1 : Nat))), ((10 : Nat), TSh.at (Sh.int IntKind.i64)), ((11 : Nat), TSh.at (Sh.int IntKind.i64))] }
noncomputable def f_spec_voVoted_0o : Spec := { objs := [OSh.ro, OSh.row true (3 : Nat) (Ty.int IntKind.i64)], tmps := [((3 : Nat), TSh.at (Sh.sl (1 : Nat)))] }
noncomputable def f_spec_voVoted_0D : LoopDef (Tup r_spec_voVoted × OutD) := .plain f_spec_voVoted_0i f_spec_voVoted_0o (List Int) (fun k x => f_spec_voVoted_0 k x.1.2.1 x.2.1 x.2.2.2.1 x.2.2.2.2.1) (fun z => (((), z, ()), ((), ()))) (fun y => (y.1.2.1)) (fun _ => rfl)
noncomputable def f_spec_voVoted : Nat → List (List Int) → Option (List Int)
  | 0, _ => none
  | k + 1, p0 =>
    if (0 : Int) < (↑(List.length p0) : Int) then Option.bind (f_spec_voVoted_0 k [] p0 (↑(List.length (List.getD p0 (Int.toNat (0 : Int)) [])) : Int) (0 : Int)) fun z2 => some z2 else none
noncomputable def d_spec_voVoted : FnDef := .of q_spec_voVoted r_spec_voVoted (List Int) (fun k x => f_spec_voVoted k x.1) to_spec_voVoted of_spec_voVoted to_of_spec_voVoted
noncomputable def c_spec_voVoted : Code := Try.f106.body.getD .skip
noncomputable def x_spec_voVoted : Ctx (Tup r_spec_voVoted × OutD) := { T := T, G := [(110, d_spec_voPlace.E), (101, d_spec_voMost.E)], mvs := [], no := 0, n := 27, res := resOf T q_spec_voVoted r_spec_voVoted Try.f106.results.toList, loops := [(0, f_spec_voVoted_0D.E)], regs := [], conds := [] }
theorem g_spec_voVoted (k : Nat) : EnvOK Try.prog k x_spec_voVoted.G := (EnvOK.cons (s_spec_voPlace k) (EnvOK.cons (s_spec_voMost k) (EnvOK.nil mixed)))
noncomputable def f_spec_voVoted_0B : Code := (findLoop 0 c_spec_voVoted).getD .skip
theorem f_spec_voVoted_0h (k : Nat) (x : f_spec_voVoted_0i.D) : f_spec_voVoted_0D.lp (k + 1) x = loopK x_spec_voVoted f_spec_voVoted_0D 0 f_spec_voVoted_0B k x := by kernel_rfl
theorem f_spec_voVoted_0l (k : Nat) : LOK Try.prog x_spec_voVoted k f_spec_voVoted_0B := LOK.by [] (by kernel_rfl) AllOK.nil
theorem f_spec_voVoted_0z (x : f_spec_voVoted_0i.D) : f_spec_voVoted_0D.lp 0 x = none := by kernel_rfl
theorem f_spec_voVoted_0ok (k : Nat) : EOK Try.prog x_spec_voVoted k f_spec_voVoted_0D.E (.block 0 (.loop f_spec_voVoted_0B)) := loop_ok T_ok g_spec_voVoted f_spec_voVoted_0z f_spec_voVoted_0h f_spec_voVoted_0l k
theorem h_spec_voVoted (k : Nat) (x : Tup d_spec_voVoted.ps) : d_spec_voVoted.f (k + 1) x = fnK d_spec_voVoted x_spec_voVoted c_spec_voVoted k x := by kernel_rfl
theorem z_spec_voVoted (x : Tup d_spec_voVoted.ps) : d_spec_voVoted.f 0 x = none := by kernel_rfl
theorem l_spec_voVoted (k : Nat) : LOK Try.prog x_spec_voVoted k c_spec_voVoted := LOK.by [(f_spec_voVoted_0D.E, .block 0 (.loop f_spec_voVoted_0B))] (by kernel_rfl) (AllOK.cons (f_spec_voVoted_0ok k) AllOK.nil)
theorem s_spec_voVoted (k : Nat) : SoundAt Try.prog k 106 d_spec_voVoted.E := @fn_all Try.prog d_spec_voVoted x_spec_voVoted 106 Try.f106 c_spec_voVoted (by kernel_rfl) (by kernel_rfl) (by kernel_rfl) Try.func106 (by kernel_rfl) (by kernel_rfl) (by kernel_rfl) T_ok g_spec_voVoted l_spec_voVoted z_spec_voVoted h_spec_voVoted k
/-! function 111 -/
noncomputable def r_spec_l1Cur_pick : List PK := [{ t := Ty.int IntKind.i64 }]
noncomputable def q_spec_l1Cur_pick : List PK := [{ t := Ty.pair (Ty.slice (5 : Nat) (Ty.int IntKind.u8)) (Ty.pair (Ty.int IntKind.i64) (Ty.int IntKind.u64)), box := some (114 : Nat) }, { t := Ty.int IntKind.i64 }]
noncomputable def to_spec_l1Cur_pick (r : Int × Int × Int) : Tup r_spec_l1Cur_pick × OutD := ((r.1, ()), some ⟨Ty.pair (Ty.slice (5 : Nat) (Ty.int IntKind.u8)) (Ty.pair (Ty.int IntKind.i64) (Ty.int IntKind.u64)), [([], r.2)]⟩)
noncomputable def of_spec_l1Cur_pick : Tup r_spec_l1Cur_pick × OutD → Option (Int × Int × Int)
  | (a, some ⟨u, ys⟩) => if h : u = Ty.pair (Ty.slice (5 : Nat) (Ty.int IntKind.u8)) (Ty.pair (Ty.int IntKind.i64) (Ty.int IntKind.u64)) then (match castU h ys with
    | [([], y)] => some (a.1, y)
    | _ => none) else none
  | _ => none
theorem to_of_spec_l1Cur_pick : ∀ b r, of_spec_l1Cur_pick b = some r → to_spec_l1Cur_pick r = b := by
  rintro ⟨a, o⟩ r h
  cases o with
  | none => cases h
  | some s =>
    obtain ⟨u, ys⟩ := s
    simp only [of_spec_l1Cur_pick] at h
    split at h
    · rename_i hu
      subst hu
      match ys, h with
      | [], h => cases (show (none : Option _) = some r from h)
      | [([], y)], h => injection (show some _ = some r from h) with h; subst h; rfl
      | [(_ :: _, y)], h => cases (show (none : Option _) = some r from h)
      | (h1, _) :: _ :: _, h => cases h1 <;> cases (show (none : Option _) = some r from h)
    · cases h
noncomputable def f_spec_l1Cur_pick : Nat → List Int × Int × Int → Int → Option (Int × Int × Int)
  | 0, _, _ => none
  | k + 1, p0, p1 =>
    if decide (p1 ≤ (1 : Int)) = true then some ((0 : Int), Prod.fst (Prod.snd p0), Prod.snd (Prod.snd p0)) else Option.bind (f_spec_l1Cur_next k (Prod.fst p0, Prod.fst (Prod.snd p0), Prod.snd (Prod.snd p0))) fun z0 => if decide (p1 > (200 : Int)) = true then Option.bind (f_spec_l1Cur_next k (Prod.fst p0, Prod.fst (Prod.snd z0), Prod.snd (Prod.snd z0))) fun z1 => if p1 = (0 : Int) then none else some (Int.tmod (wrap64 (wrap64 (Prod.fst z0 * (256 : Int)) + Prod.fst z1)) p1, Prod.fst (Prod.snd z1), Prod.snd (Prod.snd z1)) else if p1 = (0 : Int) then none else some (Int.tmod (Prod.fst z0) p1, Prod.fst (Prod.snd z0), Prod.snd (Prod.snd z0))
noncomputable def d_spec_l1Cur_pick : FnDef := .of q_spec_l1Cur_pick r_spec_l1Cur_pick (Int × Int × Int) (fun k x => f_spec_l1Cur_pick k x.1 x.2.1) to_spec_l1Cur_pick of_spec_l1Cur_pick to_of_spec_l1Cur_pick
noncomputable def c_spec_l1Cur_pick : Code := Try.f111.body.getD .skip
noncomputable def x_spec_l1Cur_pick : Ctx (Tup r_spec_l1Cur_pick × OutD) := { T := T, G := [(175, d_spec_l1Cur_next.E)], mvs := [], no := 2, n := 20, res := resOf T q_spec_l1Cur_pick r_spec_l1Cur_pick Try.f111.results.toList, loops := [], regs := [], conds := [] }
theorem g_spec_l1Cur_pick (k : Nat) : EnvOK Try.prog k x_spec_l1Cur_pick.G := (EnvOK.cons (s_spec_l1Cur_next k) (EnvOK.nil mixed))
theorem h_spec_l1Cur_pick (k : Nat) (x : Tup d_spec_l1Cur_pick.ps) : d_spec_l1Cur_pick.f (k + 1) x = fnK d_spec_l1Cur_pick x_spec_l1Cur_pick c_spec_l1Cur_pick k x := by kernel_rfl
theorem z_spec_l1Cur_pick (x : Tup d_spec_l1Cur_pick.ps) : d_spec_l1Cur_pick.f 0 x = none := by kernel_rfl
theorem l_spec_l1Cur_pick (k : Nat) : LOK Try.prog x_spec_l1Cur_pick k c_spec_l1Cur_pick := LOK.by [] (by kernel_rfl) AllOK.nil
theorem s_spec_l1Cur_pick (k : Nat) : SoundAt Try.prog k 111 d_spec_l1Cur_pick.E := @fn_all Try.prog d_spec_l1Cur_pick x_spec_l1Cur_pick 111 Try.f111 c_spec_l1Cur_pick (by kernel_rfl) (by kernel_rfl) (by kernel_rfl) Try.func111 (by kernel_rfl) (by kernel_rfl) (by kernel_rfl) T_ok g_spec_l1Cur_pick l_spec_l1Cur_pick z_spec_l1Cur_pick h_spec_l1Cur_pick k
/-! function 112 -/
noncomputable def r_slices_Contains_int_int : List PK := [{ t := Ty.bool }]
noncomputable def q_slices_Contains_int_int : List PK := [{ t := Ty.slice (3 : Nat) (Ty.int IntKind.i64) }, { t := Ty.int IntKind.i64 }]
noncomputable def to_slices_Contains_int_int (r : Bool) : Tup r_slices_Contains_int_int × OutD := ((r, ()), none)
noncomputable def of_slices_Contains_int_int : Tup r_slices_Contains_int_int × OutD → Option (Bool)
  | (a, none) => some (a.1)
  | _ => none
theorem to_of_slices_Contains_int_int : ∀ b r, of_slices_Contains_int_int b = some r → to_slices_Contains_int_int r = b := by
  rintro ⟨a, o⟩ r h
  cases o with
  | none => injection h with h; subst h; rfl
  | some _ => cases h
noncomputable def f_slices_Contains_int_int : Nat → List Int → Int → Option Bool
  | 0, _, _ => none
  | k + 1, p0, p1 =>
    Option.bind (f_slices_Index_int_int k p0 p1) fun z0 => some (decide (z0 ≥ (0 : Int)))
noncomputable def d_slices_Contains_int_int : FnDef := .of q_slices_Contains_int_int r_slices_Contains_int_int (Bool) (fun k x => f_slices_Contains_int_int k x.1 x.2.1) to_slices_Contains_int_int of_slices_Contains_int_int to_of_slices_Contains_int_int
noncomputable def c_slices_Contains_int_int : Code := Try.f112.body.getD .skip
noncomputable def x_slices_Contains_int_int : Ctx (Tup r_slices_Contains_int_int × OutD) := { T := T, G := [(176, d_slices_Index_int_int.E)], mvs := [], no := 0, n := 9, res := resOf T q_slices_Contains_int_int r_slices_Contains_int_int Try.f112.results.toList, loops := [], regs := [], conds := [] }
theorem g_slices_Contains_int_int (k : Nat) : EnvOK Try.prog k x_slices_Contains_int_int.G := (EnvOK.cons (s_slices_Index_int_int k) (EnvOK.nil mixed))
theorem h_slices_Contains_int_int (k : Nat) (x : Tup d_slices_Contains_int_int.ps) : d_slices_Contains_int_int.f (k + 1) x = fnK d_slices_Contains_int_int x_slices_Contains_int_int c_slices_Contains_int_int k x := by kernel_rfl
theorem z_slices_Contains_int_int (x : Tup d_slices_Contains_int_int.ps) : d_slices_Contains_int_int.f 0 x = none := by kernel_rfl
theorem l_slices_Contains_int_int (k : Nat) : LOK Try.prog x_slices_Contains_int_int k c_slices_Contains_int_int := LOK.by [] (by kernel_rfl) AllOK.nil
theorem s_slices_Contains_int_int (k : Nat) : SoundAt Try.prog k 112 d_slices_Contains_int_int.E := @fn_all Try.prog d_slices_Contains_int_int x_slices_Contains_int_int 112 Try.f112 c_slices_Contains_int_int (by kernel_rfl) (by kernel_rfl) (by kernel_rfl) Try.func112 (by kernel_rfl) (by kernel_rfl) (by kernel_rfl) T_ok g_slices_Contains_int_int l_slices_Contains_int_int z_slices_Contains_int_int h_slices_Contains_int_int k
/-! function 113 -/
noncomputable def r_spec_l1All : List PK := [{ t := Ty.bool }]
noncomputable def q_spec_l1All : List PK := [{ t := Ty.slice (3 : Nat) (Ty.int IntKind.i64) }, { t := Ty.int IntKind.i64 }, { t := Ty.int IntKind.i64 }]
noncomputable def to_spec_l1All (r : Bool) : Tup r_spec_l1All × OutD := ((r, ()), none)
noncomputable def of_spec_l1All : Tup r_spec_l1All × OutD → Option (Bool)
  | (a, none) => some (a.1)
  | _ => none
theorem to_of_spec_l1All : ∀ b r, of_spec_l1All b = some r → to_spec_l1All r = b := by
  rintro ⟨a, o⟩ r h
  cases o with
  | none => injection h with h; subst h; rfl
  | some _ => cases h
noncomputable def f_spec_l1All_0 : Nat → Int → Int → List Int → Int → Int → Option (LR Unit Bool)
  | 0, _, _, _, _, _ => none
  | k + 1, v1, v2, v9, v10, v11 =>
    if decide (v11 < v10) = true then if (0 : Int) ≤ v11 then if v11 < (↑(List.length v9) : Int) then Option.bind (f_spec_l1In k (List.getD v9 (Int.toNat v11) (0 : Int)) v1 v2) fun z0 => if (!z0) = true then some (LR.ret false) else f_spec_l1All_0 k v1 v2 v9 v10 (wrap64 (v11 + (1 : Int))) else none else none else some (LR.go ())
noncomputable def f_spec_l1All_0i : Spec := { objs := [OSh.ro], tmps := [((1 : Nat), TSh.at (Sh.int IntKind.i64)), ((2 : Nat), TSh.at (Sh.int IntKind.i64)), ((9 : Nat), TSh.at (Sh.snap (0 : Nat) (Ty.int IntKind.i64))), ((10 : Nat), TSh.at (Sh.int IntKind.i64)), ((11 : Nat), TSh.at (Sh.int IntKind.i64))] }
noncomputable def f_spec_l1All_0o : Spec := { objs := [OSh.ro], tmps := [] }
noncomputable def f_spec_l1All_0D : LoopDef (Tup r_spec_l1All × OutD) := .rets f_spec_l1All_0i f_spec_l1All_0o (Unit) (Bool) (fun k x => f_spec_l1All_0 k x.2.1 x.2.2.1 x.2.2.2.1 x.2.2.2.2.1 x.2.2.2.2.2.1) (fun z => (((), ()), (()))) (fun y => ()) (fun _ => rfl) to_spec_l1All of_spec_l1All to_of_spec_l1All
noncomputable def f_spec_l1All : Nat → List Int → Int → Int → Option Bool
  | 0, _, _, _ => none
  | k + 1, p0, p1, p2 =>
    Option.bind (f_spec_l1All_0 k p1 p2 p0 (↑(List.length p0) : Int) (0 : Int)) fun z1 => LR.on z1 (fun y1 => some true) fun r1 => some r1
noncomputable def d_spec_l1All : FnDef := .of q_spec_l1All r_spec_l1All (Bool) (fun k x => f_spec_l1All k x.1 x.2.1 x.2.2.1) to_spec_l1All of_spec_l1All to_of_spec_l1All
noncomputable def c_spec_l1All : Code := Try.f113.body.getD .skip
noncomputable def x_spec_l1All : Ctx (Tup r_spec_l1All × OutD) := { T := T, G := [(96, d_spec_l1In.E)], mvs := [], no := 0, n := 21, res := resOf T q_spec_l1All r_spec_l1All Try.f113.results.toList, loops := [(0, f_spec_l1All_0D.E)], regs := [], conds := [] }
theorem g_spec_l1All (k : Nat) : EnvOK Try.prog k x_spec_l1All.G := (EnvOK.cons (s_spec_l1In k) (EnvOK.nil mixed))
noncomputable def f_spec_l1All_0B : Code := (findLoop 0 c_spec_l1All).getD .skip
theorem f_spec_l1All_0h (k : Nat) (x : f_spec_l1All_0i.D) : f_spec_l1All_0D.lp (k + 1) x = loopK x_spec_l1All f_spec_l1All_0D 0 f_spec_l1All_0B k x := by kernel_rfl
theorem f_spec_l1All_0l (k : Nat) : LOK Try.prog x_spec_l1All k f_spec_l1All_0B := LOK.by [] (by kernel_rfl) AllOK.nil
theorem f_spec_l1All_0z (x : f_spec_l1All_0i.D) : f_spec_l1All_0D.lp 0 x = none := by kernel_rfl
theorem f_spec_l1All_0ok (k : Nat) : EOK Try.prog x_spec_l1All k f_spec_l1All_0D.E (.block 0 (.loop f_spec_l1All_0B)) := loop_ok T_ok g_spec_l1All f_spec_l1All_0z f_spec_l1All_0h f_spec_l1All_0l k
theorem h_spec_l1All (k : Nat) (x : Tup d_spec_l1All.ps) : d_spec_l1All.f (k + 1) x = fnK d_spec_l1All x_spec_l1All c_spec_l1All k x := by kernel_rfl
theorem z_spec_l1All (x : Tup d_spec_l1All.ps) : d_spec_l1All.f 0 x = none := by kernel_rfl
theorem l_spec_l1All (k : Nat) : LOK Try.prog x_spec_l1All k c_spec_l1All := LOK.by [(f_spec_l1All_0D.E, .block 0 (.loop f_spec_l1All_0B))] (by kernel_rfl) (AllOK.cons (f_spec_l1All_0ok k) AllOK.nil)
theorem s_spec_l1All (k : Nat) : SoundAt Try.prog k 113 d_spec_l1All.E := @fn_all Try.prog d_spec_l1All x_spec_l1All 113 Try.f113 c_spec_l1All (by kernel_rfl) (by kernel_rfl) (by kernel_rfl) Try.func113 (by kernel_rfl) (by kernel_rfl) (by kernel_rfl) T_ok g_spec_l1All l_spec_l1All z_spec_l1All h_spec_l1All k
end
end Go.Proofs.Ytgjmhbjdhihgaaa.Vs

set_option maxRecDepth 100000
set_option maxHeartbeats 2000000
set_option linter.unusedVariables false
set_option linter.unusedSimpArgs false
namespace Go.Proofs.Ytgjmhbjdhihgaaa.Vs
open Go.RowKit
noncomputable section
/-! function 19 -/
noncomputable def r_impl_MostVoted : List PK := [{ t := Ty.int IntKind.i64 }, { t := Ty.int IntKind.i64 }, { t := Ty.bool }]
noncomputable def q_impl_MostVoted : List PK := [{ t := Ty.slice (3 : Nat) (Ty.int IntKind.i64) }]
noncomputable def to_impl_MostVoted (r : Int × Int × Bool) : Tup r_impl_MostVoted × OutD := ((r.1, r.2.1, r.2.2, ()), none)
noncomputable def of_impl_MostVoted : Tup r_impl_MostVoted × OutD → Option (Int × Int × Bool)
  | (a, none) => some (a.1, a.2.1, a.2.2.1)
  | _ => none
theorem to_of_impl_MostVoted : ∀ b r, of_impl_MostVoted b = some r → to_impl_MostVoted r = b := by
  rintro ⟨a, o⟩ r h
  cases o with
  | none => injection h with h; subst h; rfl
  | some _ => cases h
noncomputable def f_impl_MostVoted : Nat → List Int → Option (Int × Int × Bool)
  | 0, _ => none
  | k + 1, p0 =>
    Option.bind (f_impl_areVotes k p0) fun z0 => if (!z0) = true then some ((0 : Int), (0 : Int), false) else Option.bind (f_impl_mostVoted k p0) fun z1 => some (Prod.fst z1, Prod.snd z1, true)
noncomputable def d_impl_MostVoted : FnDef := .of q_impl_MostVoted r_impl_MostVoted (Int × Int × Bool) (fun k x => f_impl_MostVoted k x.1) to_impl_MostVoted of_impl_MostVoted to_of_impl_MostVoted
noncomputable def c_impl_MostVoted : Code := Try.f19.body.getD .skip
noncomputable def x_impl_MostVoted : Ctx (Tup r_impl_MostVoted × OutD) := { T := T, G := [(98, d_impl_areVotes.E), (99, d_impl_mostVoted.E)], mvs := [], no := 0, n := 17, res := resOf T q_impl_MostVoted r_impl_MostVoted Try.f19.results.toList, loops := [], regs := [], conds := [] }
theorem g_impl_MostVoted (k : Nat) : EnvOK Try.prog k x_impl_MostVoted.G := (EnvOK.cons (s_impl_areVotes k) (EnvOK.cons (s_impl_mostVoted k) (EnvOK.nil mixed)))
theorem h_impl_MostVoted (k : Nat) (x : Tup d_impl_MostVoted.ps) : d_impl_MostVoted.f (k + 1) x = fnK d_impl_MostVoted x_impl_MostVoted c_impl_MostVoted k x := by kernel_rfl
theorem z_impl_MostVoted (x : Tup d_impl_MostVoted.ps) : d_impl_MostVoted.f 0 x = none := by kernel_rfl
theorem l_impl_MostVoted (k : Nat) : LOK Try.prog x_impl_MostVoted k c_impl_MostVoted := LOK.by [] (by kernel_rfl) AllOK.nil
theorem s_impl_MostVoted (k : Nat) : SoundAt Try.prog k 19 d_impl_MostVoted.E := @fn_all Try.prog d_impl_MostVoted x_impl_MostVoted 19 Try.f19 c_impl_MostVoted (by kernel_rfl) (by kernel_rfl) (by kernel_rfl) Try.func19 (by kernel_rfl) (by kernel_rfl) (by kernel_rfl) T_ok g_impl_MostVoted l_impl_MostVoted z_impl_MostVoted h_impl_MostVoted k
/-! function 21 -/
noncomputable def r_impl_MajorityOf : List PK := [{ t := Ty.int IntKind.i64 }, { t := Ty.bool }]
noncomputable def q_impl_MajorityOf : List PK := [{ t := Ty.slice (3 : Nat) (Ty.int IntKind.i64) }]
noncomputable def to_impl_MajorityOf (r : Int × Bool) : Tup r_impl_MajorityOf × OutD := ((r.1, r.2, ()), none)
noncomputable def of_impl_MajorityOf : Tup r_impl_MajorityOf × OutD → Option (Int × Bool)
  | (a, none) => some (a.1, a.2.1)
  | _ => none
theorem to_of_impl_MajorityOf : ∀ b r, of_impl_MajorityOf b = some r → to_impl_MajorityOf r = b := by
  rintro ⟨a, o⟩ r h
  cases o with
  | none => injection h with h; subst h; rfl
  | some _ => cases h
noncomputable def f_impl_MajorityOf : Nat → List Int → Option (Int × Bool)
  | 0, _ => none
  | k + 1, p0 =>
    Option.bind (f_impl_areVotes k p0) fun z0 => if (!z0) = true then some ((0 : Int), false) else Option.bind (f_impl_mostVoted k p0) fun z1 => if decide (wrap64 ((2 : Int) * Prod.snd z1) ≤ (↑(List.length p0) : Int)) = true then some ((0 : Int), false) else some (Prod.fst z1, true)
noncomputable def d_impl_MajorityOf : FnDef := .of q_impl_MajorityOf r_impl_MajorityOf (Int × Bool) (fun k x => f_impl_MajorityOf k x.1) to_impl_MajorityOf of_impl_MajorityOf to_of_impl_MajorityOf
noncomputable def c_impl_MajorityOf : Code := Try.f21.body.getD .skip
noncomputable def x_impl_MajorityOf : Ctx (Tup r_impl_MajorityOf × OutD) := { T := T, G := [(98, d_impl_areVotes.E), (99, d_impl_mostVoted.E)], mvs := [], no := 0, n := 20, res := resOf T q_impl_MajorityOf r_impl_MajorityOf Try.f21.results.toList, loops := [], regs := [], conds := [] }
theorem g_impl_MajorityOf (k : Nat) : EnvOK Try.prog k x_impl_MajorityOf.G := (EnvOK.cons (s_impl_areVotes k) (EnvOK.cons (s_impl_mostVoted k) (EnvOK.nil mixed)))
theorem h_impl_MajorityOf (k : Nat) (x : Tup d_impl_MajorityOf.ps) : d_impl_MajorityOf.f (k + 1) x = fnK d_impl_MajorityOf x_impl_MajorityOf c_impl_MajorityOf k x := by kernel_rfl
theorem z_impl_MajorityOf (x : Tup d_impl_MajorityOf.ps) : d_impl_MajorityOf.f 0 x = none := by kernel_rfl
theorem l_impl_MajorityOf (k : Nat) : LOK Try.prog x_impl_MajorityOf k c_impl_MajorityOf := LOK.by [] (by kernel_rfl) AllOK.nil
theorem s_impl_MajorityOf (k : Nat) : SoundAt Try.prog k 21 d_impl_MajorityOf.E := @fn_all Try.prog d_impl_MajorityOf x_impl_MajorityOf 21 Try.f21 c_impl_MajorityOf (by kernel_rfl) (by kernel_rfl) (by kernel_rfl) Try.func21 (by kernel_rfl) (by kernel_rfl) (by kernel_rfl) T_ok g_impl_MajorityOf l_impl_MajorityOf z_impl_MajorityOf h_impl_MajorityOf k
/-! function 23 -/
noncomputable def r_impl_FlipsToWin : List PK := [{ t := Ty.int IntKind.i64 }, { t := Ty.bool }]
noncomputable def q_impl_FlipsToWin : List PK := [{ t := Ty.slice (3 : Nat) (Ty.int IntKind.i64) }, { t := Ty.int IntKind.i64 }]
noncomputable def to_impl_FlipsToWin (r : Int × Bool) : Tup r_impl_FlipsToWin × OutD := ((r.1, r.2, ()), none)
noncomputable def of_impl_FlipsToWin : Tup r_impl_FlipsToWin × OutD → Option (Int × Bool)
  | (a, none) => some (a.1, a.2.1)
  | _ => none
theorem to_of_impl_FlipsToWin : ∀ b r, of_impl_FlipsToWin b = some r → to_impl_FlipsToWin r = b := by
  rintro ⟨a, o⟩ r h
  cases o with
  | none => injection h with h; subst h; rfl
  | some _ => cases h
noncomputable def f_impl_FlipsToWin_0 : Nat → List Int → Int → Int → List Int → Int → Int → Option (List Int × Int)
  | 0, _, _, _, _, _, _ => none
  | k + 1, v0, v1, v6, v20, v21, v22 =>
    if decide (v22 < v21) = true then if (0 : Int) ≤ v22 then if v22 < (↑(List.length v20) : Int) then if decide (List.getD v20 (Int.toNat v22) (0 : Int) = v1) = true then f_impl_FlipsToWin_0 k v0 v1 (wrap64 (v6 + (1 : Int))) v20 v21 (wrap64 (v22 + (1 : Int))) else f_impl_FlipsToWin_0 k v0 v1 v6 v20 v21 (wrap64 (v22 + (1 : Int))) else none else none else some (v0, v6)
noncomputable def f_impl_FlipsToWin_0i : Spec := { objs := [OSh.ro], tmps := [((0 : Nat), TSh.at (Sh.snap (0 : Nat) (Ty.int IntKind.i64))), ((1 : Nat), TSh.at (Sh.int IntKind.i64)), ((6 : Nat), TSh.at (Sh.int IntKind.i64)), ((20 : Nat), TSh.at (Sh.snap (0 : Nat) (Ty.int IntKind.i64))), ((21 : Nat), TSh.at (Sh.int IntKind.i64)), ((22 : Nat), TSh.at (Sh.int IntKind.i64))] }
noncomputable def f_impl_FlipsToWin_0o : Spec := { objs := [OSh.ro], tmps := [((0 : Nat), TSh.at (Sh.snap (0 : Nat) (Ty.int IntKind.i64))), ((6 : Nat), TSh.at (Sh.int IntKind.i64))] }
noncomputable def f_impl_FlipsToWin_0D : LoopDef (Tup r_impl_FlipsToWin × OutD) := .plain f_impl_FlipsToWin_0i f_impl_FlipsToWin_0o (List Int × Int) (fun k x => f_impl_FlipsToWin_0 k x.2.1 x.2.2.1 x.2.2.2.1 x.2.2.2.2.1 x.2.2.2.2.2.1 x.2.2.2.2.2.2.1) (fun z => (((), ()), (z.1, z.2, ()))) (fun y => (y.2.1, y.2.2.1)) (fun _ => rfl)
noncomputable def f_impl_FlipsToWin : Nat → List Int → Int → Option (Int × Bool)
  | 0, _, _ => none
  | k + 1, p0, p1 =>
    Option.bind (f_impl_areVotes k p0) fun z0 => if (!z0) = true then some ((0 : Int), false) else if decide (p1 < (0 : Int)) = true then some ((0 : Int), false) else if decide (p1 > (9 : Int)) = true then some ((0 : Int), false) else Option.bind (f_impl_FlipsToWin_0 k p0 p1 (0 : Int) p0 (↑(List.length p0) : Int) (0 : Int)) fun z1 => some (maxS (0 : Int) (wrap64 (wrap64 (wrap64 (Int.tdiv (↑(List.length (Prod.fst z1)) : Int) (2 : Int)) + (1 : Int)) - Prod.snd z1)), true)
noncomputable def d_impl_FlipsToWin : FnDef := .of q_impl_FlipsToWin r_impl_FlipsToWin (Int × Bool) (fun k x => f_impl_FlipsToWin k x.1 x.2.1) to_impl_FlipsToWin of_impl_FlipsToWin to_of_impl_FlipsToWin
noncomputable def c_impl_FlipsToWin : Code := Try.f23.body.getD .skip
noncomputable def x_impl_FlipsToWin : Ctx (Tup r_impl_FlipsToWin × OutD) := { T := T, G := [(98, d_impl_areVotes.E)], mvs := [], no := 0, n := 39, res := resOf T q_impl_FlipsToWin r_impl_FlipsToWin Try.f23.results.toList, loops := [(0, f_impl_FlipsToWin_0D.E)], regs := [], conds := [] }
theorem g_impl_FlipsToWin (k : Nat) : EnvOK Try.prog k x_impl_FlipsToWin.G := (EnvOK.cons (s_impl_areVotes k) (EnvOK.nil mixed))
noncomputable def f_impl_FlipsToWin_0B : Code := (findLoop 0 c_impl_FlipsToWin).getD .skip
theorem f_impl_FlipsToWin_0h (k : Nat) (x : f_impl_FlipsToWin_0i.D) : f_impl_FlipsToWin_0D.lp (k + 1) x = loopK x_impl_FlipsToWin f_impl_FlipsToWin_0D 0 f_impl_FlipsToWin_0B k x := by kernel_rfl
theorem f_impl_FlipsToWin_0l (k : Nat) : LOK Try.prog x_impl_FlipsToWin k f_impl_FlipsToWin_0B := LOK.by [] (by kernel_rfl) AllOK.nil
theorem f_impl_FlipsToWin_0z (x : f_impl_FlipsToWin_0i.D) : f_impl_FlipsToWin_0D.lp 0 x = none := by kernel_rfl
theorem f_impl_FlipsToWin_0ok (k : Nat) : EOK Try.prog x_impl_FlipsToWin k f_impl_FlipsToWin_0D.E (.block 0 (.loop f_impl_FlipsToWin_0B)) := loop_ok T_ok g_impl_FlipsToWin f_impl_FlipsToWin_0z f_impl_FlipsToWin_0h f_impl_FlipsToWin_0l k
theorem h_impl_FlipsToWin (k : Nat) (x : Tup d_impl_FlipsToWin.ps) : d_impl_FlipsToWin.f (k + 1) x = fnK d_impl_FlipsToWin x_impl_FlipsToWin c_impl_FlipsToWin k x := by kernel_rfl
theorem z_impl_FlipsToWin (x : Tup d_impl_FlipsToWin.ps) : d_impl_FlipsToWin.f 0 x = none := by kernel_rfl
theorem l_impl_FlipsToWin (k : Nat) : LOK Try.prog x_impl_FlipsToWin k c_impl_FlipsToWin := LOK.by [(f_impl_FlipsToWin_0D.E, .block 0 (.loop f_impl_FlipsToWin_0B))] (by kernel_rfl) (AllOK.cons (f_impl_FlipsToWin_0ok k) AllOK.nil)
theorem s_impl_FlipsToWin (k : Nat) : SoundAt Try.prog k 23 d_impl_FlipsToWin.E := @fn_all Try.prog d_impl_FlipsToWin x_impl_FlipsToWin 23 Try.f23 c_impl_FlipsToWin (by kernel_rfl) (by kernel_rfl) (by kernel_rfl) Try.func23 (by kernel_rfl) (by kernel_rfl) (by kernel_rfl) T_ok g_impl_FlipsToWin l_impl_FlipsToWin z_impl_FlipsToWin h_impl_FlipsToWin k
/-! function 25 -/
noncomputable def r_impl_VotedRows : List PK := [{ t := Ty.slice (3 : Nat) (Ty.int IntKind.i64) }, { t := Ty.bool }]
noncomputable def q_impl_VotedRows : List PK := [{ t := Ty.slice (34 : Nat) (Ty.slice (3 : Nat) (Ty.int IntKind.i64)) }]
noncomputable def to_impl_VotedRows (r : List Int × Bool) : Tup r_impl_VotedRows × OutD := ((r.1, r.2, ()), none)
noncomputable def of_impl_VotedRows : Tup r_impl_VotedRows × OutD → Option (List Int × Bool)
  | (a, none) => some (a.1, a.2.1)
  | _ => none
theorem to_of_impl_VotedRows : ∀ b r, of_impl_VotedRows b = some r → to_impl_VotedRows r = b := by
  rintro ⟨a, o⟩ r h
  cases o with
  | none => injection h with h; subst h; rfl
  | some _ => cases h
noncomputable def f_impl_VotedRows : Nat → List (List Int) → Option (List Int × Bool)
  | 0, _ => none
  | k + 1, p0 =>
    Option.bind (f_impl_areRows k p0) fun z0 => if (!z0) = true then some ([], false) else Option.bind (f_impl_votedRows k p0) fun z1 => some (z1, true)
noncomputable def d_impl_VotedRows : FnDef := .of q_impl_VotedRows r_impl_VotedRows (List Int × Bool) (fun k x => f_impl_VotedRows k x.1) to_impl_VotedRows of_impl_VotedRows to_of_impl_VotedRows
noncomputable def c_impl_VotedRows : Code := Try.f25.body.getD .skip
noncomputable def x_impl_VotedRows : Ctx (Tup r_impl_VotedRows × OutD) := { T := T, G := [(103, d_impl_areRows.E), (104, d_impl_votedRows.E)], mvs := [], no := 0, n := 9, res := resOf T q_impl_VotedRows r_impl_VotedRows Try.f25.results.toList, loops := [], regs := [], conds := [] }
theorem g_impl_VotedRows (k : Nat) : EnvOK Try.prog k x_impl_VotedRows.G := (EnvOK.cons (s_impl_areRows k) (EnvOK.cons (s_impl_votedRows k) (EnvOK.nil mixed)))
theorem h_impl_VotedRows (k : Nat) (x : Tup d_impl_VotedRows.ps) : d_impl_VotedRows.f (k + 1) x = fnK d_impl_VotedRows x_impl_VotedRows c_impl_VotedRows k x := by kernel_rfl
theorem z_impl_VotedRows (x : Tup d_impl_VotedRows.ps) : d_impl_VotedRows.f 0 x = none := by kernel_rfl
theorem l_impl_VotedRows (k : Nat) : LOK Try.prog x_impl_VotedRows k c_impl_VotedRows := LOK.by [] (by kernel_rfl) AllOK.nil
theorem s_impl_VotedRows (k : Nat) : SoundAt Try.prog k 25 d_impl_VotedRows.E := @fn_all Try.prog d_impl_VotedRows x_impl_VotedRows 25 Try.f25 c_impl_VotedRows (by kernel_rfl) (by kernel_rfl) (by kernel_rfl) Try.func25 (by kernel_rfl) (by kernel_rfl) (by kernel_rfl) T_ok g_impl_VotedRows l_impl_VotedRows z_impl_VotedRows h_impl_VotedRows k
/-! function 27 -/
noncomputable def r_impl_SuspectCopies : List PK := [{ t := Ty.slice (3 : Nat) (Ty.int IntKind.i64) }, { t := Ty.bool }]
noncomputable def q_impl_SuspectCopies : List PK := [{ t := Ty.slice (34 : Nat) (Ty.slice (3 : Nat) (Ty.int IntKind.i64)) }]
noncomputable def to_impl_SuspectCopies (r : List Int × Bool) : Tup r_impl_SuspectCopies × OutD := ((r.1, r.2, ()), none)
noncomputable def of_impl_SuspectCopies : Tup r_impl_SuspectCopies × OutD → Option (List Int × Bool)
  | (a, none) => some (a.1, a.2.1)
  | _ => none
theorem to_of_impl_SuspectCopies : ∀ b r, of_impl_SuspectCopies b = some r → to_impl_SuspectCopies r = b := by
  rintro ⟨a, o⟩ r h
  cases o with
  | none => injection h with h; subst h; rfl
  | some _ => cases h
noncomputable def f_impl_SuspectCopies_0 : Nat → List Int → List Int → List (List Int) → Int → Int → Option (List Int)
  | 0, _, _, _, _, _ => none
  | k + 1, o1, o2, v14, v15, v16 =>
    if decide (v16 < v15) = true then if (0 : Int) ≤ v16 then if v16 < (↑(List.length v14) : Int) then Option.bind (f_slices_Equal_int_int k (List.getD v14 (Int.toNat v16) []) o1) fun z2 => if (!z2) = true then if List.length o2 + List.length [v16] ≤ (140737488355328 / 8 : Nat) then f_impl_SuspectCopies_0 k o1 (o2 ++ [v16]) v14 v15 (wrap64 (v16 + (1 : Int))) else none else f_impl_SuspectCopies_0 k o1 o2 v14 v15 (wrap64 (v16 + (1 : Int))) else none else none else some o2
noncomputable def f_impl_SuspectCopies_0i : Spec := { objs := [OSh.ro, OSh.row true (3 : Nat) (Ty.int IntKind.i64), OSh.row true (3 : Nat) (Ty.int IntKind.i64)], tmps := [((4 : Nat), TSh.at (Sh.sl (1 : Nat))), ((5 : Nat), TSh.at (Sh.sl (2 : Nat))), ((14 : Nat), TSh.at (Sh.snap (0 : Nat) (Ty.slice (3 : Nat) (Ty.int IntKind.i64)))), ((15 : Nat), TSh.at (Sh.int IntKind.i64)), ((16 : Nat), TSh.at (Sh.int IntKind.i64))] }
noncomputable def f_impl_SuspectCopies_0o : Spec := { objs := [OSh.ro, OSh.row true (3 : Nat) (Ty.int IntKind.i64)], tmps := [((5 : Nat), TSh.at (Sh.sl (1 : Nat)))] }
noncomputable def f_impl_SuspectCopies_0D : LoopDef (Tup r_impl_SuspectCopies × OutD) := .plain f_impl_SuspectCopies_0i f_impl_SuspectCopies_0o (List Int) (fun k x => f_impl_SuspectCopies_0 k x.1.2.1 x.1.2.2.1 x.2.2.2.1 x.2.2.2.2.1 x.2.2.2.2.2.1) (fun z => (((), z, ()), ((), ()))) (fun y => (y.1.2.1)) (fun _ => rfl)
noncomputable def f_impl_SuspectCopies : Nat → List (List Int) → Option (List Int × Bool)
  | 0, _ => none
  | k + 1, p0 =>
    Option.bind (f_impl_areRows k p0) fun z0 => if (!z0) = true then some ([], false) else Option.bind (f_impl_votedRows k p0) fun z1 => Option.bind (f_impl_SuspectCopies_0 k z1 [] p0 (↑(List.length p0) : Int) (0 : Int)) fun z3 => some (z3, true)
noncomputable def d_impl_SuspectCopies : FnDef := .of q_impl_SuspectCopies r_impl_SuspectCopies (List Int × Bool) (fun k x => f_impl_SuspectCopies k x.1) to_impl_SuspectCopies of_impl_SuspectCopies to_of_impl_SuspectCopies
noncomputable def c_impl_SuspectCopies : Code := Try.f27.body.getD .skip
noncomputable def x_impl_SuspectCopies : Ctx (Tup r_impl_SuspectCopies × OutD) := { T := T, G := [(103, d_impl_areRows.E), (104, d_impl_votedRows.E), (107, d_slices_Equal_int_int.E)], mvs := [], no := 0, n := 31, res := resOf T q_impl_SuspectCopies r_impl_SuspectCopies Try.f27.results.toList, loops := [(0, f_impl_SuspectCopies_0D.E)], regs := [], conds := [] }
theorem g_impl_SuspectCopies (k : Nat) : EnvOK Try.prog k x_impl_SuspectCopies.G := (EnvOK.cons (s_impl_areRows k) (EnvOK.cons (s_impl_votedRows k) (EnvOK.cons (s_slices_Equal_int_int k) (EnvOK.nil mixed))))
noncomputable def f_impl_SuspectCopies_0B : Code := (findLoop 0 c_impl_SuspectCopies).getD .skip
theorem f_impl_SuspectCopies_0h (k : Nat) (x : f_impl_SuspectCopies_0i.D) : f_impl_SuspectCopies_0D.lp (k + 1) x = loopK x_impl_SuspectCopies f_impl_SuspectCopies_0D 0 f_impl_SuspectCopies_0B k x := by kernel_rfl
theorem f_impl_SuspectCopies_0l (k : Nat) : LOK Try.prog x_impl_SuspectCopies k f_impl_SuspectCopies_0B := LOK.by [] (by kernel_rfl) AllOK.nil
theorem f_impl_SuspectCopies_0z (x : f_impl_SuspectCopies_0i.D) : f_impl_SuspectCopies_0D.lp 0 x = none := by kernel_rfl
theorem f_impl_SuspectCopies_0ok (k : Nat) : EOK Try.prog x_impl_SuspectCopies k f_impl_SuspectCopies_0D.E (.block 0 (.loop f_impl_SuspectCopies_0B)) := loop_ok T_ok g_impl_SuspectCopies f_impl_SuspectCopies_0z f_impl_SuspectCopies_0h f_impl_SuspectCopies_0l k
theorem h_impl_SuspectCopies (k : Nat) (x : Tup d_impl_SuspectCopies.ps) : d_impl_SuspectCopies.f (k + 1) x = fnK d_impl_SuspectCopies x_impl_SuspectCopies c_impl_SuspectCopies k x := by kernel_rfl
theorem z_impl_SuspectCopies (x : Tup d_impl_SuspectCopies.ps) : d_impl_SuspectCopies.f 0 x = none := by kernel_rfl
theorem l_impl_SuspectCopies (k : Nat) : LOK Try.prog x_impl_SuspectCopies k c_impl_SuspectCopies := LOK.by [(f_impl_SuspectCopies_0D.E, .block 0 (.loop f_impl_SuspectCopies_0B))] (by kernel_rfl) (AllOK.cons (f_impl_SuspectCopies_0ok k) AllOK.nil)
theorem s_impl_SuspectCopies (k : Nat) : SoundAt Try.prog k 27 d_impl_SuspectCopies.E := @fn_all Try.prog d_impl_SuspectCopies x_impl_SuspectCopies 27 Try.f27 c_impl_SuspectCopies (by kernel_rfl) (by kernel_rfl) (by kernel_rfl) Try.func27 (by kernel_rfl) (by kernel_rfl) (by kernel_rfl) T_ok g_impl_SuspectCopies l_impl_SuspectCopies z_impl_SuspectCopies h_impl_SuspectCopies k
/-! function 29 -/
noncomputable def r_impl_TieCount : List PK := [{ t := Ty.int IntKind.i64 }, { t := Ty.bool }]
noncomputable def q_impl_TieCount : List PK := [{ t := Ty.slice (34 : Nat) (Ty.slice (3 : Nat) (Ty.int IntKind.i64)) }]
noncomputable def to_impl_TieCount (r : Int × Bool) : Tup r_impl_TieCount × OutD := ((r.1, r.2, ()), none)
noncomputable def of_impl_TieCount : Tup r_impl_TieCount × OutD → Option (Int × Bool)
  | (a, none) => some (a.1, a.2.1)
  | _ => none
theorem to_of_impl_TieCount : ∀ b r, of_impl_TieCount b = some r → to_impl_TieCount r = b := by
  rintro ⟨a, o⟩ r h
  cases o with
  | none => injection h with h; subst h; rfl
  | some _ => cases h
noncomputable def f_impl_TieCount_2 : Nat → Int → Int → Int → Int → Int → Int → Int → Int → Int → Int → List (List Int) → Int → Int → Int → Int → List (List Int) → Int → Int → Option (Int × Int × Int × Int × Int × Int × Int × Int × Int × Int × List (List Int) × Int × Int × Int × Int)
  | 0, _, _, _, _, _, _, _, _, _, _, _, _, _, _, _, _, _, _ => none
  | k + 1, b1_0, b1_1, b1_2, b1_3, b1_4, b1_5, b1_6, b1_7, b1_8, b1_9, v0, v4, v5, v20, v21, v25, v26, v27 =>
    if decide (v27 < v26) = true then if (0 : Int) ≤ v27 then if v27 < (↑(List.length v25) : Int) then if (0 : Int) ≤ v5 then if v5 < (↑(List.length (List.getD v25 (Int.toNat v27) [])) : Int) then if (0 : Int) ≤ List.getD (List.getD v25 (Int.toNat v27) []) (Int.toNat v5) (0 : Int) then if List.getD (List.getD v25 (Int.toNat v27) []) (Int.toNat v5) (0 : Int) < (↑(10 : Nat) : Int) then if Int.toNat (List.getD (List.getD v25 (Int.toNat v27) []) (Int.toNat v5) (0 : Int)) < List.length [b1_0, b1_1, b1_2, b1_3, b1_4, b1_5, b1_6, b1_7, b1_8, b1_9] then if (0 : Int) ≤ List.getD (List.getD v25 (Int.toNat v27) []) (Int.toNat v5) (0 : Int) then if List.getD (List.getD v25 (Int.toNat v27) []) (Int.toNat v5) (0 : Int) < (↑(10 : Nat) : Int) then if Int.toNat (List.getD (List.getD v25 (Int.toNat v27) []) (Int.toNat v5) (0 : Int)) < List.length [b1_0, b1_1, b1_2, b1_3, b1_4, b1_5, b1_6, b1_7, b1_8, b1_9] then f_impl_TieCount_2 k (List.getD (List.set [b1_0, b1_1, b1_2, b1_3, b1_4, b1_5, b1_6, b1_7, b1_8, b1_9] (Int.toNat (List.getD (List.getD v25 (Int.toNat v27) []) (Int.toNat v5) (0 : Int))) (wrap64 (List.getD [b1_0, b1_1, b1_2, b1_3, b1_4, b1_5, b1_6, b1_7, b1_8, b1_9] (Int.toNat (List.getD (List.getD v25 (Int.toNat v27) []) (Int.toNat v5) (0 : Int))) (0 : Int) + (1 : Int)))) (0 : Nat) (0 : Int)) (List.getD (List.set [b1_0, b1_1, b1_2, b1_3, b1_4, b1_5, b1_6, b1_7, b1_8, b1_9] (Int.toNat (List.getD (List.getD v25 (Int.toNat v27) []) (Int.toNat v5) (0 : Int))) (wrap64 (List.getD [b1_0, b1_1, b1_2, b1_3, b1_4, b1_5, b1_6, b1_7, b1_8, b1_9] (Int.toNat (List.getD (List.getD v25 (Int.toNat v27) []) (Int.toNat v5) (0 : Int))) (0 : Int) + (1 : Int)))) ((0 : Nat) + (1 : Nat)) (0 : Int)) (List.getD (List.set [b1_0, b1_1, b1_2, b1_3, b1_4, b1_5, b1_6, b1_7, b1_8, b1_9] (Int.toNat (List.getD (List.getD v25 (Int.toNat v27) []) (Int.toNat v5) (0 : Int))) (wrap64 (List.getD [b1_0, b1_1, b1_2, b1_3, b1_4, b1_5, b1_6, b1_7, b1_8, b1_9] (Int.toNat (List.getD (List.getD v25 (Int.toNat v27) []) (Int.toNat v5) (0 : Int))) (0 : Int) + (1 : Int)))) ((0 : Nat) + (1 : Nat) + (1 : Nat)) (0 : Int)) (List.getD (List.set [b1_0, b1_1, b1_2, b1_3, b1_4, b1_5, b1_6, b1_7, b1_8, b1_9] (Int.toNat (List.getD (List.getD v25 (Int.toNat v27) []) (Int.toNat v5) (0 : Int))) (wrap64 (List.getD [b1_0, b1_1, b1_2, b1_3, b1_4, b1_5, b1_6, b1_7, b1_8, b1_9] (Int.toNat (List.getD (List.getD v25 (Int.toNat v27) []) (Int.toNat v5) (0 : Int))) (0 : Int) + (1 : Int)))) ((0 : Nat) + (1 : Nat) + (1 : Nat) + (1 : Nat)) (0 : Int)) (List.getD (List.set [b1_0, b1_1, b1_2, b1_3, b1_4, b1_5, b1_6, b1_7, b1_8, b1_9] (Int.toNat (List.getD (List.getD v25 (Int.toNat v27) []) (Int.toNat v5) (0 : Int))) (wrap64 (List.getD [b1_0, b1_1, b1_2, b1_3, b1_4, b1_5, b1_6, b1_7, b1_8, b1_9] (Int.toNat (List.getD (List.getD v25 (Int.toNat v27) []) (Int.toNat v5) (0 : Int))) (0 : Int) + (1 : Int)))) ((0 : Nat) + (1 : Nat) + (1 : Nat) + (1 : Nat) + (1 : Nat)) (0 : Int)) (List.getD (List.set [b1_0, b1_1, b1_2, b1_3, b1_4, b1_5, b1_6, b1_7, b1_8, b1_9] (Int.toNat (List.getD (List.getD v25 (Int.toNat v27) []) (Int.toNat v5) (0 : Int))) (wrap64 (List.getD [b1_0, b1_1, b1_2, b1_3, b1_4, b1_5, b1_6, b1_7, b1_8, b1_9] (Int.toNat (List.getD (List.getD v25 (Int.toNat v27) []) (Int.toNat v5) (0 : Int))) (0 : Int) + (1 : Int)))) ((0 : Nat) + (1 : Nat) + (1 : Nat) + (1 : Nat) + (1 : Nat) + (1 : Nat)) (0 : Int)) (List.getD (List.set [b1_0, b1_1, b1_2, b1_3, b1_4, b1_5, b1_6, b1_7, b1_8, b1_9] (Int.toNat (List.getD (List.getD v25 (Int.toNat v27) []) (Int.toNat v5) (0 : Int))) (wrap64 (List.getD [b1_0, b1_1, b1_2, b1_3, b1_4, b1_5, b1_6, b1_7, b1_8, b1_9] (Int.toNat (List.getD (List.getD v25 (Int.toNat v27) []) (Int.toNat v5) (0 : Int))) (0 : Int) + (1 : Int)))) ((0 : Nat) + (1 : Nat) + (1 : Nat) + (1 : Nat) + (1 : Nat) + (1 : Nat) + (1 : Nat)) (0 : Int)) (List.getD (List.set [b1_0, b1_1, b1_2, b1_3, b1_4, b1_5, b1_6, b1_7, b1_8, b1_9] (Int.toNat (List.getD (List.getD v25 (Int.toNat v27) []) (Int.toNat v5) (0 : Int))) (wrap64 (List.getD [b1_0, b1_1, b1_2, b1_3, b1_4, b1_5, b1_6, b1_7, b1_8, b1_9] (Int.toNat (List.getD (List.getD v25 (Int.toNat v27) []) (Int.toNat v5) (0 : Int))) (0 : Int) + (1 : Int)))) ((0 : Nat) + (1 : Nat) + (1 : Nat) + (1 : Nat) + (1 : Nat) + (1 : Nat) + (1 : Nat) + (1 : Nat)) (0 : Int)) (List.getD (List.set [b1_0, b1_1, b1_2, b1_3, b1_4, b1_5, b1_6, b1_7, b1_8, b1_9] (Int.toNat (List.getD (List.getD v25 (Int.toNat v27) []) (Int.toNat v5) (0 : Int))) (wrap64 (List.getD [b1_0, b1_1, b1_2, b1_3, b1_4, b1_5, b1_6, b1_7, b1_8, b1_9] (Int.toNat (List.getD (List.getD v25 (Int.toNat v27) []) (Int.toNat v5) (0 : Int))) (0 : Int) + (1 : Int)))) ((0 : Nat) + (1 : Nat) + (1 : Nat) + (1 : Nat) + (1 : Nat) + (1 : Nat) + (1 : Nat) + (1 : Nat) + (1 : Nat)) (0 : Int)) (List.getD (List.set [b1_0, b1_1, b1_2, b1_3, b1_4, b1_5, b1_6, b1_7, b1_8, b1_9] (Int.toNat (List.getD (List.getD v25 (Int.toNat v27) []) (Int.toNat v5) (0 : Int))) (wrap64 (List.getD [b1_0, b1_1, b1_2, b1_3, b1_4, b1_5, b1_6, b1_7, b1_8, b1_9] (Int.toNat (List.getD (List.getD v25 (Int.toNat v27) []) (Int.toNat v5) (0 : Int))) (0 : Int) + (1 : Int)))) ((0 : Nat) + (1 : Nat) + (1 : Nat) + (1 : Nat) + (1 : Nat) + (1 : Nat) + (1 : Nat) + (1 : Nat) + (1 : Nat) + (1 : Nat)) (0 : Int)) v0 v4 v5 v20 v21 v25 v26 (wrap64 (v27 + (1 : Int))) else none else none else none else none else none else none else none else none else none else none else some (b1_0, b1_1, b1_2, b1_3, b1_4, b1_5, b1_6, b1_7, b1_8, b1_9, v0, v4, v5, v20, v21)
noncomputable def f_impl_TieCount_2i : Spec := { objs := [OSh.ro, OSh.box (128 : Nat) [Sh.int IntKind.i64, Sh.int IntKind.i64, Sh.int IntKind.i64, Sh.int IntKind.i64, Sh.int IntKind.i64, Sh.int IntKind.i64, Sh.int IntKind.i64, Sh.int IntKind.i64, Sh.int IntKind.i64, Sh.int IntKind.i64]], tmps := [((0 : Nat), TSh.at (Sh.snap (0 : Nat) (Ty.slice (3 : Nat) (Ty.int IntKind.i64)))), ((4 : Nat), TSh.at (Sh.int IntKind.i64)), ((5 : Nat), TSh.at (Sh.int IntKind.i64)), ((6 : Nat), TSh.at (Sh.ptr (1 : Nat) (0 : Nat))), ((20 : Nat), TSh.at (Sh.int IntKind.i64)), ((21 : Nat), TSh.at (Sh.int IntKind.i64)), ((25 : Nat), TSh.at (Sh.snap (0 : Nat) (Ty.slice (3 : Nat) (Ty.int IntKind.i64)))), ((26 : Nat), TSh.at (Sh.int IntKind.i64)), ((27 : Nat), TSh.at (Sh.int IntKind.i64))] }
noncomputable def f_impl_TieCount_2o : Spec := { objs := [OSh.ro, OSh.box (128 : Nat) [Sh.int IntKind.i64, Sh.int IntKind.i64, Sh.int IntKind.i64, Sh.int IntKind.i64, Sh.int IntKind.i64, Sh.int IntKind.i64, Sh.int IntKind.i64, Sh.int IntKind.i64, Sh.int IntKind.i64, Sh.int IntKind.i64]], tmps := [((0 : Nat), TSh.at (Sh.snap (0 : Nat) (Ty.slice (3 : Nat) (Ty.int IntKind.i64)))), ((4 : Nat), TSh.at (Sh.int IntKind.i64)), ((5 : Nat), TSh.at (Sh.int IntKind.i64)), ((6 : Nat), TSh.at (Sh.ptr (1 : Nat) (0 : Nat))), ((20 : Nat), TSh.at (Sh.int IntKind.i64)), ((21 : Nat), TSh.at (Sh.int IntKind.i64))] }
noncomputable def f_impl_TieCount_2D : LoopDef (Tup r_impl_TieCount × OutD) := .plain f_impl_TieCount_2i f_impl_TieCount_2o (Int × Int × Int × Int × Int × Int × Int × Int × Int × Int × List (List Int) × Int × Int × Int × Int) (fun k x => f_impl_TieCount_2 k x.1.2.1.1 x.1.2.1.2.1 x.1.2.1.2.2.1 x.1.2.1.2.2.2.1 x.1.2.1.2.2.2.2.1 x.1.2.1.2.2.2.2.2.1 x.1.2.1.2.2.2.2.2.2.1 x.1.2.1.2.2.2.2.2.2.2.1 x.1.2.1.2.2.2.2.2.2.2.2.1 x.1.2.1.2.2.2.2.2.2.2.2.2.1 x.2.1 x.2.2.1 x.2.2.2.1 x.2.2.2.2.2.1 x.2.2.2.2.2.2.1 x.2.2.2.2.2.2.2.1 x.2.2.2.2.2.2.2.2.1 x.2.2.2.2.2.2.2.2.2.1) (fun z => (((), (z.1, z.2.1, z.2.2.1, z.2.2.2.1, z.2.2.2.2.1, z.2.2.2.2.2.1, z.2.2.2.2.2.2.1, z.2.2.2.2.2.2.2.1, z.2.2.2.2.2.2.2.2.1, z.2.2.2.2.2.2.2.2.2.1, ()), ()), (z.2.2.2.2.2.2.2.2.2.2.1, z.2.2.2.2.2.2.2.2.2.2.2.1, z.2.2.2.2.2.2.2.2.2.2.2.2.1, (), z.2.2.2.2.2.2.2.2.2.2.2.2.2.1, z.2.2.2.2.2.2.2.2.2.2.2.2.2.2, ()))) (fun y => (y.1.2.1.1, y.1.2.1.2.1, y.1.2.1.2.2.1, y.1.2.1.2.2.2.1, y.1.2.1.2.2.2.2.1, y.1.2.1.2.2.2.2.2.1, y.1.2.1.2.2.2.2.2.2.1, y.1.2.1.2.2.2.2.2.2.2.1, y.1.2.1.2.2.2.2.2.2.2.2.1, y.1.2.1.2.2.2.2.2.2.2.2.2.1, y.2.1, y.2.2.1, y.2.2.2.1, y.2.2.2.2.2.1, y.2.2.2.2.2.2.1)) (fun _ => rfl)
noncomputable def f_impl_TieCount_4 : Nat → List (List Int) → Int → Int → Int → Int → Int → Int → Int → Int → Int → Int → Int → Int → Int → Int → Int → Int → Option (List (List Int) × Int × Int × Int × Int)
  | 0, _, _, _, _, _, _, _, _, _, _, _, _, _, _, _, _, _ => none
  | k + 1, v0, v4, v10, v11, v20, v21, v47_0, v47_1, v47_2, v47_3, v47_4, v47_5, v47_6, v47_7, v47_8, v47_9, v48 =>
    if decide (v48 < (10 : Int)) = true then if (0 : Int) ≤ v48 then if v48 < (↑(10 : Nat) : Int) then if decide (List.getD [v47_0, v47_1, v47_2, v47_3, v47_4, v47_5, v47_6, v47_7, v47_8, v47_9] (Int.toNat v48) (0 : Int) = v10) = true then f_impl_TieCount_4 k v0 v4 v10 (wrap64 (v11 + (1 : Int))) v20 v21 v47_0 v47_1 v47_2 v47_3 v47_4 v47_5 v47_6 v47_7 v47_8 v47_9 (wrap64 (v48 + (1 : Int))) else f_impl_TieCount_4 k v0 v4 v10 v11 v20 v21 v47_0 v47_1 v47_2 v47_3 v47_4 v47_5 v47_6 v47_7 v47_8 v47_9 (wrap64 (v48 + (1 : Int))) else none else none else some (v0, v4, v11, v20, v21)
noncomputable def f_impl_TieCount_4i : Spec := { objs := [OSh.ro], tmps := [((0 : Nat), TSh.at (Sh.snap (0 : Nat) (Ty.slice (3 : Nat) (Ty.int IntKind.i64)))), ((4 : Nat), TSh.at (Sh.int IntKind.i64)), ((10 : Nat), TSh.at (Sh.int IntKind.i64)), ((11 : Nat), TSh.at (Sh.int IntKind.i64)), ((20 : Nat), TSh.at (Sh.int IntKind.i64)), ((21 : Nat), TSh.at (Sh.int IntKind.i64)), ((47 : Nat), TSh.agg [Sh.int IntKind.i64, Sh.int IntKind.i64, Sh.int IntKind.i64, Sh.int IntKind.i64, Sh.int IntKind.i64, Sh.int IntKind.i64, Sh.int IntKind.i64, Sh.int IntKind.i64, Sh.int IntKind.i64, Sh.int IntKind.i64]), ((48 : Nat), TSh.at (Sh.int IntKind.i64))] }
noncomputable def f_impl_TieCount_4o : Spec := { objs := [OSh.ro], tmps := [((0 : Nat), TSh.at (Sh.snap (0 : Nat) (Ty.slice (3 : Nat) (Ty.int IntKind.i64)))), ((4 : Nat), TSh.at (Sh.int IntKind.i64)), ((11 : Nat), TSh.at (Sh.int IntKind.i64)), ((20 : Nat), TSh.at (Sh.int IntKind.i64)), ((21 : Nat), TSh.at (Sh.int IntKind.i64))] }
noncomputable def f_impl_TieCount_4D : LoopDef (Tup r_impl_TieCount × OutD) := .plain f_impl_TieCount_4i f_impl_TieCount_4o (List (List Int) × Int × Int × Int × Int) (fun k x => f_impl_TieCount_4 k x.2.1 x.2.2.1 x.2.2.2.1 x.2.2.2.2.1 x.2.2.2.2.2.1 x.2.2.2.2.2.2.1 x.2.2.2.2.2.2.2.1.1 x.2.2.2.2.2.2.2.1.2.1 x.2.2.2.2.2.2.2.1.2.2.1 x.2.2.2.2.2.2.2.1.2.2.2.1 x.2.2.2.2.2.2.2.1.2.2.2.2.1 x.2.2.2.2.2.2.2.1.2.2.2.2.2.1 x.2.2.2.2.2.2.2.1.2.2.2.2.2.2.1 x.2.2.2.2.2.2.2.1.2.2.2.2.2.2.2.1 x.2.2.2.2.2.2.2.1.2.2.2.2.2.2.2.2.1 x.2.2.2.2.2.2.2.1.2.2.2.2.2.2.2.2.2.1 x.2.2.2.2.2.2.2.2.1) (fun z => (((), ()), (z.1, z.2.1, z.2.2.1, z.2.2.2.1, z.2.2.2.2, ()))) (fun y => (y.2.1, y.2.2.1, y.2.2.2.1, y.2.2.2.2.1, y.2.2.2.2.2.1)) (fun _ => rfl)
noncomputable def f_impl_TieCount_0 : Nat → List (List Int) → Int → Int → Int → Option Int
  | 0, _, _, _, _ => none
  | k + 1, v0, v4, v20, v21 =>
    if decide (v21 < v20) = true then Option.bind (f_impl_TieCount_2 k (0 : Int) (0 : Int) (0 : Int) (0 : Int) (0 : Int) (0 : Int) (0 : Int) (0 : Int) (0 : Int) (0 : Int) v0 v4 v21 v20 v21 v0 (↑(List.length v0) : Int) (0 : Int)) fun z1 => Option.bind (f_impl_column k (Prod.fst (Prod.snd (Prod.snd (Prod.snd (Prod.snd (Prod.snd (Prod.snd (Prod.snd (Prod.snd (Prod.snd (Prod.snd z1))))))))))) (Prod.fst (Prod.snd (Prod.snd (Prod.snd (Prod.snd (Prod.snd (Prod.snd (Prod.snd (Prod.snd (Prod.snd (Prod.snd (Prod.snd (Prod.snd z1)))))))))))))) fun z2 => Option.bind (f_impl_mostVoted k z2) fun z3 => Option.bind (f_impl_TieCount_4 k (Prod.fst (Prod.snd (Prod.snd (Prod.snd (Prod.snd (Prod.snd (Prod.snd (Prod.snd (Prod.snd (Prod.snd (Prod.snd z1))))))))))) (Prod.fst (Prod.snd (Prod.snd (Prod.snd (Prod.snd (Prod.snd (Prod.snd (Prod.snd (Prod.snd (Prod.snd (Prod.snd (Prod.snd z1)))))))))))) (Prod.snd z3) (0 : Int) (Prod.fst (Prod.snd (Prod.snd (Prod.snd (Prod.snd (Prod.snd (Prod.snd (Prod.snd (Prod.snd (Prod.snd (Prod.snd (Prod.snd (Prod.snd (Prod.snd z1)))))))))))))) (Prod.snd (Prod.snd (Prod.snd (Prod.snd (Prod.snd (Prod.snd (Prod.snd (Prod.snd (Prod.snd (Prod.snd (Prod.snd (Prod.snd (Prod.snd (Prod.snd z1)))))))))))))) (Prod.fst z1) (Prod.fst (Prod.snd z1)) (Prod.fst (Prod.snd (Prod.snd z1))) (Prod.fst (Prod.snd (Prod.snd (Prod.snd z1)))) (Prod.fst (Prod.snd (Prod.snd (Prod.snd (Prod.snd z1))))) (Prod.fst (Prod.snd (Prod.snd (Prod.snd (Prod.snd (Prod.snd z1)))))) (Prod.fst (Prod.snd (Prod.snd (Prod.snd (Prod.snd (Prod.snd (Prod.snd z1))))))) (Prod.fst (Prod.snd (Prod.snd (Prod.snd (Prod.snd (Prod.snd (Prod.snd (Prod.snd z1)))))))) (Prod.fst (Prod.snd (Prod.snd (Prod.snd (Prod.snd (Prod.snd (Prod.snd (Prod.snd (Prod.snd z1))))))))) (Prod.fst (Prod.snd (Prod.snd (Prod.snd (Prod.snd (Prod.snd (Prod.snd (Prod.snd (Prod.snd (Prod.snd z1)))))))))) (0 : Int)) fun z4 => if decide (Prod.fst (Prod.snd (Prod.snd z4)) > (1 : Int)) = true then f_impl_TieCount_0 k (Prod.fst z4) (wrap64 (Prod.fst (Prod.snd z4) + (1 : Int))) (Prod.fst (Prod.snd (Prod.snd (Prod.snd z4)))) (wrap64 (Prod.snd (Prod.snd (Prod.snd (Prod.snd z4))) + (1 : Int))) else f_impl_TieCount_0 k (Prod.fst z4) (Prod.fst (Prod.snd z4)) (Prod.fst (Prod.snd (Prod.snd (Prod.snd z4)))) (wrap64 (Prod.snd (Prod.snd (Prod.snd (Prod.snd z4))) + (1 : Int))) else some v4
noncomputable def f_impl_TieCount_0i : Spec := { objs := [OSh.ro], tmps := [((0 : Nat), TSh.at (Sh.snap (0 : Nat) (Ty.slice (3 : Nat) (Ty.int IntKind.i64)))), ((4 : Nat), TSh.at (Sh.int IntKind.i64)), ((20 : Nat), TSh.at (Sh.int IntKind.i64)), ((21 : Nat), TSh.at (Sh.int IntKind.i64))] }
noncomputable def f_impl_TieCount_0o : Spec := { objs := [OSh.ro], tmps := [((4 : Nat), TSh.at (Sh.int IntKind.i64))] }
noncomputable def f_impl_TieCount_0D : LoopDef (Tup r_impl_TieCount × OutD) := .plain f_impl_TieCount_0i f_impl_TieCount_0o (Int) (fun k x => f_impl_TieCount_0 k x.2.1 x.2.2.1 x.2.2.2.1 x.2.2.2.2.1) (fun z => (((), ()), (z, ()))) (fun y => (y.2.1)) (fun _ => rfl)
noncomputable def f_impl_TieCount : Nat → List (List Int) → Option (Int × Bool)
  | 0, _ => none
  | k + 1, p0 =>
    Option.bind (f_impl_areRows k p0) fun z0 => if (!z0) = true then some ((0 : Int), false) else if (0 : Int) < (↑(List.length p0) : Int) then Option.bind (f_impl_TieCount_0 k p0 (0 : Int) (↑(List.length (List.getD p0 (Int.toNat (0 : Int)) [])) : Int) (0 : Int)) fun z5 => some (z5, true) else none
noncomputable def d_impl_TieCount : FnDef := .of q_impl_TieCount r_impl_TieCount (Int × Bool) (fun k x => f_impl_TieCount k x.1) to_impl_TieCount of_impl_TieCount to_of_impl_TieCount
noncomputable def c_impl_TieCount : Code := Try.f29.body.getD .skip
noncomputable def x_impl_TieCount : Ctx (Tup r_impl_TieCount × OutD) := { T := T, G := [(103, d_impl_areRows.E), (109, d_impl_column.E), (99, d_impl_mostVoted.E)], mvs := [], no := 0, n := 63, res := resOf T q_impl_TieCount r_impl_TieCount Try.f29.results.toList, loops := [(2, f_impl_TieCount_2D.E), (4, f_impl_TieCount_4D.E), (0, f_impl_TieCount_0D.E)], regs := [], conds := [] }
theorem g_impl_TieCount (k : Nat) : EnvOK Try.prog k x_impl_TieCount.G := (EnvOK.cons (s_impl_areRows k) (EnvOK.cons (s_impl_column k) (EnvOK.cons (s_impl_mostVoted k) (EnvOK.nil mixed))))
noncomputable def f_impl_TieCount_2B : Code := (findLoop 2 c_impl_TieCount).getD .skip
theorem f_impl_TieCount_2h (k : Nat) (x : f_impl_TieCount_2i.D) : f_impl_TieCount_2D.lp (k + 1) x = loopK x_impl_TieCount f_impl_TieCount_2D 2 f_impl_TieCount_2B k x := by kernel_rfl
theorem f_impl_TieCount_2l (k : Nat) : LOK Try.prog x_impl_TieCount k f_impl_TieCount_2B := LOK.by [] (by kernel_rfl) AllOK.nil
theorem f_impl_TieCount_2z (x : f_impl_TieCount_2i.D) : f_impl_TieCount_2D.lp 0 x = none := by kernel_rfl
theorem f_impl_TieCount_2ok (k : Nat) : EOK Try.prog x_impl_TieCount k f_impl_TieCount_2D.E (.block 2 (.loop f_impl_TieCount_2B)) := loop_ok T_ok g_impl_TieCount f_impl_TieCount_2z f_impl_TieCount_2h f_impl_TieCount_2l k
noncomputable def f_impl_TieCount_4B : Code := (findLoop 4 c_impl_TieCount).getD .skip
theorem f_impl_TieCount_4h (k : Nat) (x : f_impl_TieCount_4i.D) : f_impl_TieCount_4D.lp (k + 1) x = loopK x_impl_TieCount f_impl_TieCount_4D 4 f_impl_TieCount_4B k x := by kernel_rfl
theorem f_impl_TieCount_4l (k : Nat) : LOK Try.prog x_impl_TieCount k f_impl_TieCount_4B := LOK.by [] (by kernel_rfl) AllOK.nil
theorem f_impl_TieCount_4z (x : f_impl_TieCount_4i.D) : f_impl_TieCount_4D.lp 0 x = none := by kernel_rfl
theorem f_impl_TieCount_4ok (k : Nat) : EOK Try.prog x_impl_TieCount k f_impl_TieCount_4D.E (.block 4 (.loop f_impl_TieCount_4B)) := loop_ok T_ok g_impl_TieCount f_impl_TieCount_4z f_impl_TieCount_4h f_impl_TieCount_4l k
noncomputable def f_impl_TieCount_0B : Code := (findLoop 0 c_impl_TieCount).getD .skip
theorem f_impl_TieCount_0h (k : Nat) (x : f_impl_TieCount_0i.D) : f_impl_TieCount_0D.lp (k + 1) x = loopK x_impl_TieCount f_impl_TieCount_0D 0 f_impl_TieCount_0B k x := by kernel_rfl
theorem f_impl_TieCount_0l (k : Nat) : LOK Try.prog x_impl_TieCount k f_impl_TieCount_0B := LOK.by [(f_impl_TieCount_2D.E, .block 2 (.loop f_impl_TieCount_2B)), (f_impl_TieCount_4D.E, .block 4 (.loop f_impl_TieCount_4B))] (by kernel_rfl) (AllOK.cons (f_impl_TieCount_2ok k) (AllOK.cons (f_impl_TieCount_4ok k) AllOK.nil))
theorem f_impl_TieCount_0z (x : f_impl_TieCount_0i.D) : f_impl_TieCount_0D.lp 0 x = none := by kernel_rfl
theorem f_impl_TieCount_0ok (k : Nat) : EOK Try.prog x_impl_TieCount k f_impl_TieCount_0D.E (.block 0 (.loop f_impl_TieCount_0B)) := loop_ok T_ok g_impl_TieCount f_impl_TieCount_0z f_impl_TieCount_0h f_impl_TieCount_0l k
theorem h_impl_TieCount (k : Nat) (x : Tup d_impl_TieCount.ps) : d_impl_TieCount.f (k + 1) x = fnK d_impl_TieCount x_impl_TieCount c_impl_TieCount k x := by kernel_rfl
theorem z_impl_TieCount (x : Tup d_impl_TieCount.ps) : d_impl_TieCount.f 0 x = none := by kernel_rfl
theorem l_impl_TieCount (k : Nat) : LOK Try.prog x_impl_TieCount k c_impl_TieCount := LOK.by [(f_impl_TieCount_0D.E, .block 0 (.loop f_impl_TieCount_0B))] (by kernel_rfl) (AllOK.cons (f_impl_TieCount_0ok k) AllOK.nil)
theorem s_impl_TieCount (k : Nat) : SoundAt Try.prog k 29 d_impl_TieCount.E := @fn_all Try.prog d_impl_TieCount x_impl_TieCount 29 Try.f29 c_impl_TieCount (by kernel_rfl) (by kernel_rfl) (by kernel_rfl) Try.func29 (by kernel_rfl) (by kernel_rfl) (by kernel_rfl) T_ok g_impl_TieCount l_impl_TieCount z_impl_TieCount h_impl_TieCount k
/-! function 34 -/
noncomputable def r_impl_WeightedVote : List PK := [{ t := Ty.int IntKind.i64 }, { t := Ty.bool }]
noncomputable def q_impl_WeightedVote : List PK := [{ t := Ty.slice (3 : Nat) (Ty.int IntKind.i64) }, { t := Ty.slice (3 : Nat) (Ty.int IntKind.i64) }]
noncomputable def to_impl_WeightedVote (r : Int × Bool) : Tup r_impl_WeightedVote × OutD := ((r.1, r.2, ()), none)
noncomputable def of_impl_WeightedVote : Tup r_impl_WeightedVote × OutD → Option (Int × Bool)
  | (a, none) => some (a.1, a.2.1)
  | _ => none
theorem to_of_impl_WeightedVote : ∀ b r, of_impl_WeightedVote b = some r → to_impl_WeightedVote r = b := by
  rintro ⟨a, o⟩ r h
  cases o with
  | none => injection h with h; subst h; rfl
  | some _ => cases h
noncomputable def f_impl_WeightedVote_0 : Nat → Int → Int → Int → Int → Int → Int → Int → Int → Int → Int → List Int → List Int → Int → Int → Option (LR (Int × Int × Int × Int × Int × Int × Int × Int × Int × Int × List Int) (Int × Bool))
  | 0, _, _, _, _, _, _, _, _, _, _, _, _, _, _ => none
  | k + 1, b1_0, b1_1, b1_2, b1_3, b1_4, b1_5, b1_6, b1_7, b1_8, b1_9, v0, v22, v23, v24 =>
    if decide (v24 < v23) = true then if (0 : Int) ≤ v24 then if v24 < (↑(List.length v22) : Int) then if decide (List.getD v22 (Int.toNat v24) (0 : Int) < (0 : Int)) = true then some (LR.ret ((0 : Int), false)) else if decide (List.getD v22 (Int.toNat v24) (0 : Int) > (100 : Int)) = true then some (LR.ret ((0 : Int), false)) else if (0 : Int) ≤ v24 then if v24 < (↑(List.length v0) : Int) then if (0 : Int) ≤ List.getD v0 (Int.toNat v24) (0 : Int) then if List.getD v0 (Int.toNat v24) (0 : Int) < (↑(10 : Nat) : Int) then if Int.toNat (List.getD v0 (Int.toNat v24) (0 : Int)) < List.length [b1_0, b1_1, b1_2, b1_3, b1_4, b1_5, b1_6, b1_7, b1_8, b1_9] then if (0 : Int) ≤ List.getD v0 (Int.toNat v24) (0 : Int) then if List.getD v0 (Int.toNat v24) (0 : Int) < (↑(10 : Nat) : Int) then if Int.toNat (List.getD v0 (Int.toNat v24) (0 : Int)) < List.length [b1_0, b1_1, b1_2, b1_3, b1_4, b1_5, b1_6, b1_7, b1_8, b1_9] then f_impl_WeightedVote_0 k (List.getD (List.set [b1_0, b1_1, b1_2, b1_3, b1_4, b1_5, b1_6, b1_7, b1_8, b1_9] (Int.toNat (List.getD v0 (Int.toNat v24) (0 : Int))) (wrap64 (List.getD [b1_0, b1_1, b1_2, b1_3, b1_4, b1_5, b1_6, b1_7, b1_8, b1_9] (Int.toNat (List.getD v0 (Int.toNat v24) (0 : Int))) (0 : Int) + List.getD v22 (Int.toNat v24) (0 : Int)))) (0 : Nat) (0 : Int)) (List.getD (List.set [b1_0, b1_1, b1_2, b1_3, b1_4, b1_5, b1_6, b1_7, b1_8, b1_9] (Int.toNat (List.getD v0 (Int.toNat v24) (0 : Int))) (wrap64 (List.getD [b1_0, b1_1, b1_2, b1_3, b1_4, b1_5, b1_6, b1_7, b1_8, b1_9] (Int.toNat (List.getD v0 (Int.toNat v24) (0 : Int))) (0 : Int) + List.getD v22 (Int.toNat v24) (0 : Int)))) ((0 : Nat) + (1 : Nat)) (0 : Int)) (List.getD (List.set [b1_0, b1_1, b1_2, b1_3, b1_4, b1_5, b1_6, b1_7, b1_8, b1_9] (Int.toNat (List.getD v0 (Int.toNat v24) (0 : Int))) (wrap64 (List.getD [b1_0, b1_1, b1_2, b1_3, b1_4, b1_5, b1_6, b1_7, b1_8, b1_9] (Int.toNat (List.getD v0 (Int.toNat v24) (0 : Int))) (0 : Int) + List.getD v22 (Int.toNat v24) (0 : Int)))) ((0 : Nat) + (1 : Nat) + (1 : Nat)) (0 : Int)) (List.getD (List.set [b1_0, b1_1, b1_2, b1_3, b1_4, b1_5, b1_6, b1_7, b1_8, b1_9] (Int.toNat (List.getD v0 (Int.toNat v24) (0 : Int))) (wrap64 (List.getD [b1_0, b1_1, b1_2, b1_3, b1_4, b1_5, b1_6, b1_7, b1_8, b1_9] (Int.toNat (List.getD v0 (Int.toNat v24) (0 : Int))) (0 : Int) + List.getD v22 (Int.toNat v24) (0 : Int)))) ((0 : Nat) + (1 : Nat) + (1 : Nat) + (1 : Nat)) (0 : Int)) (List.getD (List.set [b1_0, b1_1, b1_2, b1_3, b1_4, b1_5, b1_6, b1_7, b1_8, b1_9] (Int.toNat (List.getD v0 (Int.toNat v24) (0 : Int))) (wrap64 (List.getD [b1_0, b1_1, b1_2, b1_3, b1_4, b1_5, b1_6, b1_7, b1_8, b1_9] (Int.toNat (List.getD v0 (Int.toNat v24) (0 : Int))) (0 : Int) + List.getD v22 (Int.toNat v24) (0 : Int)))) ((0 : Nat) + (1 : Nat) + (1 : Nat) + (1 : Nat) + (1 : Nat)) (0 : Int)) (List.getD (List.set [b1_0, b1_1, b1_2, b1_3, b1_4, b1_5, b1_6, b1_7, b1_8, b1_9] (Int.toNat (List.getD v0 (Int.toNat v24) (0 : Int))) (wrap64 (List.getD [b1_0, b1_1, b1_2, b1_3, b1_4, b1_5, b1_6, b1_7, b1_8, b1_9] (Int.toNat (List.getD v0 (Int.toNat v24) (0 : Int))) (0 : Int) + List.getD v22 (Int.toNat v24) (0 : Int)))) ((0 : Nat) + (1 : Nat) + (1 : Nat) + (1 : Nat) + (1 : Nat) + (1 : Nat)) (0 : Int)) (List.getD (List.set [b1_0, b1_1, b1_2, b1_3, b1_4, b1_5, b1_6, b1_7, b1_8, b1_9] (Int.toNat (List.getD v0 (Int.toNat v24) (0 : Int))) (wrap64 (List.getD [b1_0, b1_1, b1_2, b1_3, b1_4, b1_5, b1_6, b1_7, b1_8, b1_9] (Int.toNat (List.getD v0 (Int.toNat v24) (0 : Int))) (0 : Int) + List.getD v22 (Int.toNat v24) (0 : Int)))) ((0 : Nat) + (1 : Nat) + (1 : Nat) + (1 : Nat) + (1 : Nat) + (1 : Nat) + (1 : Nat)) (0 : Int)) (List.getD (List.set [b1_0, b1_1, b1_2, b1_3, b1_4, b1_5, b1_6, b1_7, b1_8, b1_9] (Int.toNat (List.getD v0 (Int.toNat v24) (0 : Int))) (wrap64 (List.getD [b1_0, b1_1, b1_2, b1_3, b1_4, b1_5, b1_6, b1_7, b1_8, b1_9] (Int.toNat (List.getD v0 (Int.toNat v24) (0 : Int))) (0 : Int) + List.getD v22 (Int.toNat v24) (0 : Int)))) ((0 : Nat) + (1 : Nat) + (1 : Nat) + (1 : Nat) + (1 : Nat) + (1 : Nat) + (1 : Nat) + (1 : Nat)) (0 : Int)) (List.getD (List.set [b1_0, b1_1, b1_2, b1_3, b1_4, b1_5, b1_6, b1_7, b1_8, b1_9] (Int.toNat (List.getD v0 (Int.toNat v24) (0 : Int))) (wrap64 (List.getD [b1_0, b1_1, b1_2, b1_3, b1_4, b1_5, b1_6, b1_7, b1_8, b1_9] (Int.toNat (List.getD v0 (Int.toNat v24) (0 : Int))) (0 : Int) + List.getD v22 (Int.toNat v24) (0 : Int)))) ((0 : Nat) + (1 : Nat) + (1 : Nat) + (1 : Nat) + (1 : Nat) + (1 : Nat) + (1 : Nat) + (1 : Nat) + (1 : Nat)) (0 : Int)) (List.getD (List.set [b1_0, b1_1, b1_2, b1_3, b1_4, b1_5, b1_6, b1_7, b1_8, b1_9] (Int.toNat (List.getD v0 (Int.toNat v24) (0 : Int))) (wrap64 (List.getD [b1_0, b1_1, b1_2, b1_3, b1_4, b1_5, b1_6, b1_7, b1_8, b1_9] (Int.toNat (List.getD v0 (Int.toNat v24) (0 : Int))) (0 : Int) + List.getD v22 (Int.toNat v24) (0 : Int)))) ((0 : Nat) + (1 : Nat) + (1 : Nat) + (1 : Nat) + (1 : Nat) + (1 : Nat) + (1 : Nat) + (1 : Nat) + (1 : Nat) + (1 : Nat)) (0 : Int)) v0 v22 v23 (wrap64 (v24 + (1 : Int))) else none else none else none else none else none else none else none else none else none else none else some (LR.go (b1_0, b1_1, b1_2, b1_3, b1_4, b1_5, b1_6, b1_7, b1_8, b1_9, v0))
noncomputable def f_impl_WeightedVote_0i : Spec := { objs := [OSh.ro, OSh.box (128 : Nat) [Sh.int IntKind.i64, Sh.int IntKind.i64, Sh.int IntKind.i64, Sh.int IntKind.i64, Sh.int IntKind.i64, Sh.int IntKind.i64, Sh.int IntKind.i64, Sh.int IntKind.i64, Sh.int IntKind.i64, Sh.int IntKind.i64]], tmps := [((0 : Nat), TSh.at (Sh.snap (0 : Nat) (Ty.int IntKind.i64))), ((6 : Nat), TSh.at (Sh.ptr (1 : Nat) (0 : Nat))), ((22 : Nat), TSh.at (Sh.snap (0 : Nat) (Ty.int IntKind.i64))), ((23 : Nat), TSh.at (Sh.int IntKind.i64)), ((24 : Nat), TSh.at (Sh.int IntKind.i64))] }
noncomputable def f_impl_WeightedVote_0o : Spec := { objs := [OSh.ro, OSh.box (128 : Nat) [Sh.int IntKind.i64, Sh.int IntKind.i64, Sh.int IntKind.i64, Sh.int IntKind.i64, Sh.int IntKind.i64, Sh.int IntKind.i64, Sh.int IntKind.i64, Sh.int IntKind.i64, Sh.int IntKind.i64, Sh.int IntKind.i64]], tmps := [((0 : Nat), TSh.at (Sh.snap (0 : Nat) (Ty.int IntKind.i64))), ((6 : Nat), TSh.at (Sh.ptr (1 : Nat) (0 : Nat)))] }
noncomputable def f_impl_WeightedVote_0D : LoopDef (Tup r_impl_WeightedVote × OutD) := .rets f_impl_WeightedVote_0i f_impl_WeightedVote_0o (Int × Int × Int × Int × Int × Int × Int × Int × Int × Int × List Int) (Int × Bool) (fun k x => f_impl_WeightedVote_0 k x.1.2.1.1 x.1.2.1.2.1 x.1.2.1.2.2.1 x.1.2.1.2.2.2.1 x.1.2.1.2.2.2.2.1 x.1.2.1.2.2.2.2.2.1 x.1.2.1.2.2.2.2.2.2.1 x.1.2.1.2.2.2.2.2.2.2.1 x.1.2.1.2.2.2.2.2.2.2.2.1 x.1.2.1.2.2.2.2.2.2.2.2.2.1 x.2.1 x.2.2.2.1 x.2.2.2.2.1 x.2.2.2.2.2.1) (fun z => (((), (z.1, z.2.1, z.2.2.1, z.2.2.2.1, z.2.2.2.2.1, z.2.2.2.2.2.1, z.2.2.2.2.2.2.1, z.2.2.2.2.2.2.2.1, z.2.2.2.2.2.2.2.2.1, z.2.2.2.2.2.2.2.2.2.1, ()), ()), (z.2.2.2.2.2.2.2.2.2.2, (), ()))) (fun y => (y.1.2.1.1, y.1.2.1.2.1, y.1.2.1.2.2.1, y.1.2.1.2.2.2.1, y.1.2.1.2.2.2.2.1, y.1.2.1.2.2.2.2.2.1, y.1.2.1.2.2.2.2.2.2.1, y.1.2.1.2.2.2.2.2.2.2.1, y.1.2.1.2.2.2.2.2.2.2.2.1, y.1.2.1.2.2.2.2.2.2.2.2.2.1, y.2.1)) (fun _ => rfl) to_impl_WeightedVote of_impl_WeightedVote to_of_impl_WeightedVote
noncomputable def f_impl_WeightedVote_2 : Nat → Int → Int → Int → Int → Int → Int → Int → Int → Int → Int → List Int → Int → Int → Option Int
  | 0, _, _, _, _, _, _, _, _, _, _, _, _, _ => none
  | k + 1, b1_0, b1_1, b1_2, b1_3, b1_4, b1_5, b1_6, b1_7, b1_8, b1_9, v0, v9, v45 =>
    if decide (v45 < (10 : Int)) = true then Option.bind (f_slices_Contains_int_int k v0 v45) fun z2 => if z2 = true then if decide (v9 < (0 : Int)) = true then f_impl_WeightedVote_2 k b1_0 b1_1 b1_2 b1_3 b1_4 b1_5 b1_6 b1_7 b1_8 b1_9 v0 v45 (wrap64 (v45 + (1 : Int))) else if (0 : Int) ≤ v45 then if v45 < (↑(10 : Nat) : Int) then if Int.toNat v45 < List.length [b1_0, b1_1, b1_2, b1_3, b1_4, b1_5, b1_6, b1_7, b1_8, b1_9] then if (0 : Int) ≤ v9 then if v9 < (↑(10 : Nat) : Int) then if Int.toNat v9 < List.length [b1_0, b1_1, b1_2, b1_3, b1_4, b1_5, b1_6, b1_7, b1_8, b1_9] then if decide (List.getD [b1_0, b1_1, b1_2, b1_3, b1_4, b1_5, b1_6, b1_7, b1_8, b1_9] (Int.toNat v45) (0 : Int) > List.getD [b1_0, b1_1, b1_2, b1_3, b1_4, b1_5, b1_6, b1_7, b1_8, b1_9] (Int.toNat v9) (0 : Int)) = true then f_impl_WeightedVote_2 k b1_0 b1_1 b1_2 b1_3 b1_4 b1_5 b1_6 b1_7 b1_8 b1_9 v0 v45 (wrap64 (v45 + (1 : Int))) else f_impl_WeightedVote_2 k b1_0 b1_1 b1_2 b1_3 b1_4 b1_5 b1_6 b1_7 b1_8 b1_9 v0 v9 (wrap64 (v45 + (1 : Int))) else none else none else none else none else none else none else f_impl_WeightedVote_2 k b1_0 b1_1 b1_2 b1_3 b1_4 b1_5 b1_6 b1_7 b1_8 b1_9 v0 v9 (wrap64 (v45 + (1 : Int))) else some v9
noncomputable def f_impl_WeightedVote_2i : Spec := { objs := [OSh.ro, OSh.box (128 : Nat) [Sh.int IntKind.i64, Sh.int IntKind.i64, Sh.int IntKind.i64, Sh.int IntKind.i64, Sh.int IntKind.i64, Sh.int IntKind.i64, Sh.int IntKind.i64, Sh.int IntKind.i64, Sh.int IntKind.i64, Sh.int IntKind.i64]], tmps := [((0 : Nat), TSh.at (Sh.snap (0 : Nat) (Ty.int IntKind.i64))), ((6 : Nat), TSh.at (Sh.ptr (1 : Nat) (0 : Nat))), ((9 : Nat), TSh.at (Sh.int IntKind.i64)), ((45 : Nat), TSh.at (Sh.int IntKind.i64))] }
noncomputable def f_impl_WeightedVote_2o : Spec := { objs := [OSh.ro], tmps := [((9 : Nat), TSh.at (Sh.int IntKind.i64))] }
noncomputable def f_impl_WeightedVote_2D : LoopDef (Tup r_impl_WeightedVote × OutD) := .plain f_impl_WeightedVote_2i f_impl_WeightedVote_2o (Int) (fun k x => f_impl_WeightedVote_2 k x.1.2.1.1 x.1.2.1.2.1 x.1.2.1.2.2.1 x.1.2.1.2.2.2.1 x.1.2.1.2.2.2.2.1 x.1.2.1.2.2.2.2.2.1 x.1.2.1.2.2.2.2.2.2.1 x.1.2.1.2.2.2.2.2.2.2.1 x.1.2.1.2.2.2.2.2.2.2.2.1 x.1.2.1.2.2.2.2.2.2.2.2.2.1 x.2.1 x.2.2.2.1 x.2.2.2.2.1) (fun z => (((), ()), (z, ()))) (fun y => (y.2.1)) (fun _ => rfl)
noncomputable def f_impl_WeightedVote : Nat → List Int → List Int → Option (Int × Bool)
  | 0, _, _ => none
  | k + 1, p0, p1 =>
    Option.bind (f_impl_areVotes k p0) fun z0 => if (!z0) = true then some ((0 : Int), false) else if decide ((↑(List.length p1) : Int) ≠ (↑(List.length p0) : Int)) = true then some ((0 : Int), false) else Option.bind (f_impl_WeightedVote_0 k (0 : Int) (0 : Int) (0 : Int) (0 : Int) (0 : Int) (0 : Int) (0 : Int) (0 : Int) (0 : Int) (0 : Int) p0 p1 (↑(List.length p1) : Int) (0 : Int)) fun z1 => LR.on z1 (fun y1 => Option.bind (f_impl_WeightedVote_2 k (Prod.fst y1) (Prod.fst (Prod.snd y1)) (Prod.fst (Prod.snd (Prod.snd y1))) (Prod.fst (Prod.snd (Prod.snd (Prod.snd y1)))) (Prod.fst (Prod.snd (Prod.snd (Prod.snd (Prod.snd y1))))) (Prod.fst (Prod.snd (Prod.snd (Prod.snd (Prod.snd (Prod.snd y1)))))) (Prod.fst (Prod.snd (Prod.snd (Prod.snd (Prod.snd (Prod.snd (Prod.snd y1))))))) (Prod.fst (Prod.snd (Prod.snd (Prod.snd (Prod.snd (Prod.snd (Prod.snd (Prod.snd y1)))))))) (Prod.fst (Prod.snd (Prod.snd (Prod.snd (Prod.snd (Prod.snd (Prod.snd (Prod.snd (Prod.snd y1))))))))) (Prod.fst (Prod.snd (Prod.snd (Prod.snd (Prod.snd (Prod.snd (Prod.snd (Prod.snd (Prod.snd (Prod.snd y1)))))))))) (Prod.snd (Prod.snd (Prod.snd (Prod.snd (Prod.snd (Prod.snd (Prod.snd (Prod.snd (Prod.snd (Prod.snd y1)))))))))) (-1 : Int) (0 : Int)) fun z3 => some (z3, true)) fun r1 => some r1
noncomputable def d_impl_WeightedVote : FnDef := .of q_impl_WeightedVote r_impl_WeightedVote (Int × Bool) (fun k x => f_impl_WeightedVote k x.1 x.2.1) to_impl_WeightedVote of_impl_WeightedVote to_of_impl_WeightedVote
noncomputable def c_impl_WeightedVote : Code := Try.f34.body.getD .skip
noncomputable def x_impl_WeightedVote : Ctx (Tup r_impl_WeightedVote × OutD) := { T := T, G := [(98, d_impl_areVotes.E), (112, d_slices_Contains_int_int.E)], mvs := [], no := 0, n := 67, res := resOf T q_impl_WeightedVote r_impl_WeightedVote Try.f34.results.toList, loops := [(0, f_impl_WeightedVote_0D.E), (2, f_impl_WeightedVote_2D.E)], regs := [], conds := [] }
theorem g_impl_WeightedVote (k : Nat) : EnvOK Try.prog k x_impl_WeightedVote.G := (EnvOK.cons (s_impl_areVotes k) (EnvOK.cons (s_slices_Contains_int_int k) (EnvOK.nil mixed)))
noncomputable def f_impl_WeightedVote_0B : Code := (findLoop 0 c_impl_WeightedVote).getD .skip
theorem f_impl_WeightedVote_0h (k : Nat) (x : f_impl_WeightedVote_0i.D) : f_impl_WeightedVote_0D.lp (k + 1) x = loopK x_impl_WeightedVote f_impl_WeightedVote_0D 0 f_impl_WeightedVote_0B k x := by kernel_rfl
theorem f_impl_WeightedVote_0l (k : Nat) : LOK Try.prog x_impl_WeightedVote k f_impl_WeightedVote_0B := LOK.by [] (by kernel_rfl) AllOK.nil
theorem f_impl_WeightedVote_0z (x : f_impl_WeightedVote_0i.D) : f_impl_WeightedVote_0D.lp 0 x = none := by kernel_rfl
theorem f_impl_WeightedVote_0ok (k : Nat) : EOK Try.prog x_impl_WeightedVote k f_impl_WeightedVote_0D.E (.block 0 (.loop f_impl_WeightedVote_0B)) := loop_ok T_ok g_impl_WeightedVote f_impl_WeightedVote_0z f_impl_WeightedVote_0h f_impl_WeightedVote_0l k
noncomputable def f_impl_WeightedVote_2B : Code := (findLoop 2 c_impl_WeightedVote).getD .skip
theorem f_impl_WeightedVote_2h (k : Nat) (x : f_impl_WeightedVote_2i.D) : f_impl_WeightedVote_2D.lp (k + 1) x = loopK x_impl_WeightedVote f_impl_WeightedVote_2D 2 f_impl_WeightedVote_2B k x := by kernel_rfl
theorem f_impl_WeightedVote_2l (k : Nat) : LOK Try.prog x_impl_WeightedVote k f_impl_WeightedVote_2B := LOK.by [] (by kernel_rfl) AllOK.nil
theorem f_impl_WeightedVote_2z (x : f_impl_WeightedVote_2i.D) : f_impl_WeightedVote_2D.lp 0 x = none := by kernel_rfl
theorem f_impl_WeightedVote_2ok (k : Nat) : EOK Try.prog x_impl_WeightedVote k f_impl_WeightedVote_2D.E (.block 2 (.loop f_impl_WeightedVote_2B)) := loop_ok T_ok g_impl_WeightedVote f_impl_WeightedVote_2z f_impl_WeightedVote_2h f_impl_WeightedVote_2l k
theorem h_impl_WeightedVote (k : Nat) (x : Tup d_impl_WeightedVote.ps) : d_impl_WeightedVote.f (k + 1) x = fnK d_impl_WeightedVote x_impl_WeightedVote c_impl_WeightedVote k x := by kernel_rfl
theorem z_impl_WeightedVote (x : Tup d_impl_WeightedVote.ps) : d_impl_WeightedVote.f 0 x = none := by kernel_rfl
theorem l_impl_WeightedVote (k : Nat) : LOK Try.prog x_impl_WeightedVote k c_impl_WeightedVote := LOK.by [(f_impl_WeightedVote_0D.E, .block 0 (.loop f_impl_WeightedVote_0B)), (f_impl_WeightedVote_2D.E, .block 2 (.loop f_impl_WeightedVote_2B))] (by kernel_rfl) (AllOK.cons (f_impl_WeightedVote_0ok k) (AllOK.cons (f_impl_WeightedVote_2ok k) AllOK.nil))
theorem s_impl_WeightedVote (k : Nat) : SoundAt Try.prog k 34 d_impl_WeightedVote.E := @fn_all Try.prog d_impl_WeightedVote x_impl_WeightedVote 34 Try.f34 c_impl_WeightedVote (by kernel_rfl) (by kernel_rfl) (by kernel_rfl) Try.func34 (by kernel_rfl) (by kernel_rfl) (by kernel_rfl) T_ok g_impl_WeightedVote l_impl_WeightedVote z_impl_WeightedVote h_impl_WeightedVote k
/-! function 90 -/
noncomputable def r_spec_l1Cur_among : List PK := [{ t := Ty.int IntKind.i64 }]
noncomputable def q_spec_l1Cur_among : List PK := [{ t := Ty.pair (Ty.slice (5 : Nat) (Ty.int IntKind.u8)) (Ty.pair (Ty.int IntKind.i64) (Ty.int IntKind.u64)), box := some (114 : Nat) }, { t := Ty.slice (3 : Nat) (Ty.int IntKind.i64) }]
noncomputable def to_spec_l1Cur_among (r : Int × Int × Int) : Tup r_spec_l1Cur_among × OutD := ((r.1, ()), some ⟨Ty.pair (Ty.slice (5 : Nat) (Ty.int IntKind.u8)) (Ty.pair (Ty.int IntKind.i64) (Ty.int IntKind.u64)), [([], r.2)]⟩)
noncomputable def of_spec_l1Cur_among : Tup r_spec_l1Cur_among × OutD → Option (Int × Int × Int)
  | (a, some ⟨u, ys⟩) => if h : u = Ty.pair (Ty.slice (5 : Nat) (Ty.int IntKind.u8)) (Ty.pair (Ty.int IntKind.i64) (Ty.int IntKind.u64)) then (match castU h ys with
    | [([], y)] => some (a.1, y)
    | _ => none) else none
  | _ => none
theorem to_of_spec_l1Cur_among : ∀ b r, of_spec_l1Cur_among b = some r → to_spec_l1Cur_among r = b := by
  rintro ⟨a, o⟩ r h
  cases o with
  | none => cases h
  | some s =>
    obtain ⟨u, ys⟩ := s
    simp only [of_spec_l1Cur_among] at h
    split at h
    · rename_i hu
      subst hu
      match ys, h with
      | [], h => cases (show (none : Option _) = some r from h)
      | [([], y)], h => injection (show some _ = some r from h) with h; subst h; rfl
      | [(_ :: _, y)], h => cases (show (none : Option _) = some r from h)
      | (h1, _) :: _ :: _, h => cases h1 <;> cases (show (none : Option _) = some r from h)
    · cases h
noncomputable def f_spec_l1Cur_among : Nat → List Int × Int × Int → List Int → Option (Int × Int × Int)
  | 0, _, _ => none
  | k + 1, p0, p1 =>
    Option.bind (f_spec_l1Cur_pick k (Prod.fst p0, Prod.fst (Prod.snd p0), Prod.snd (Prod.snd p0)) (↑(List.length p1) : Int)) fun z0 => if (0 : Int) ≤ Prod.fst z0 then if Prod.fst z0 < (↑(List.length p1) : Int) then some (List.getD p1 (Int.toNat (Prod.fst z0)) (0 : Int), Prod.fst (Prod.snd z0), Prod.snd (Prod.snd z0)) else none else none
noncomputable def d_spec_l1Cur_among : FnDef := .of q_spec_l1Cur_among r_spec_l1Cur_among (Int × Int × Int) (fun k x => f_spec_l1Cur_among k x.1 x.2.1) to_spec_l1Cur_among of_spec_l1Cur_among to_of_spec_l1Cur_among
noncomputable def c_spec_l1Cur_among : Code := Try.f90.body.getD .skip
noncomputable def x_spec_l1Cur_among : Ctx (Tup r_spec_l1Cur_among × OutD) := { T := T, G := [(111, d_spec_l1Cur_pick.E)], mvs := [], no := 2, n := 12, res := resOf T q_spec_l1Cur_among r_spec_l1Cur_among Try.f90.results.toList, loops := [], regs := [], conds := [] }
theorem g_spec_l1Cur_among (k : Nat) : EnvOK Try.prog k x_spec_l1Cur_among.G := (EnvOK.cons (s_spec_l1Cur_pick k) (EnvOK.nil mixed))
theorem h_spec_l1Cur_among (k : Nat) (x : Tup d_spec_l1Cur_among.ps) : d_spec_l1Cur_among.f (k + 1) x = fnK d_spec_l1Cur_among x_spec_l1Cur_among c_spec_l1Cur_among k x := by kernel_rfl
theorem z_spec_l1Cur_among (x : Tup d_spec_l1Cur_among.ps) : d_spec_l1Cur_among.f 0 x = none := by kernel_rfl
theorem l_spec_l1Cur_among (k : Nat) : LOK Try.prog x_spec_l1Cur_among k c_spec_l1Cur_among := LOK.by [] (by kernel_rfl) AllOK.nil
theorem s_spec_l1Cur_among (k : Nat) : SoundAt Try.prog k 90 d_spec_l1Cur_among.E := @fn_all Try.prog d_spec_l1Cur_among x_spec_l1Cur_among 90 Try.f90 c_spec_l1Cur_among (by kernel_rfl) (by kernel_rfl) (by kernel_rfl) Try.func90 (by kernel_rfl) (by kernel_rfl) (by kernel_rfl) T_ok g_spec_l1Cur_among l_spec_l1Cur_among z_spec_l1Cur_among h_spec_l1Cur_among k
/-! function 100 -/
noncomputable def r_spec_voVotes : List PK := [{ t := Ty.bool }]
noncomputable def q_spec_voVotes : List PK := [{ t := Ty.slice (3 : Nat) (Ty.int IntKind.i64) }]
noncomputable def to_spec_voVotes (r : Bool) : Tup r_spec_voVotes × OutD := ((r, ()), none)
noncomputable def of_spec_voVotes : Tup r_spec_voVotes × OutD → Option (Bool)
  | (a, none) => some (a.1)
  | _ => none
theorem to_of_spec_voVotes : ∀ b r, of_spec_voVotes b = some r → to_spec_voVotes r = b := by
  rintro ⟨a, o⟩ r h
  cases o with
  | none => injection h with h; subst h; rfl
  | some _ => cases h
noncomputable def f_spec_voVotes : Nat → List Int → Option Bool
  | 0, _ => none
  | k + 1, p0 =>
    Option.bind (f_spec_l1In k (↑(List.length p0) : Int) (1 : Int) (9 : Int)) fun z0 => if z0 = true then Option.bind (f_spec_l1All k p0 (0 : Int) (9 : Int)) fun z1 => some z1 else some false
noncomputable def d_spec_voVotes : FnDef := .of q_spec_voVotes r_spec_voVotes (Bool) (fun k x => f_spec_voVotes k x.1) to_spec_voVotes of_spec_voVotes to_of_spec_voVotes
noncomputable def c_spec_voVotes : Code := Try.f100.body.getD .skip
noncomputable def x_spec_voVotes : Ctx (Tup r_spec_voVotes × OutD) := { T := T, G := [(96, d_spec_l1In.E), (113, d_spec_l1All.E)], mvs := [], no := 0, n := 10, res := resOf T q_spec_voVotes r_spec_voVotes Try.f100.results.toList, loops := [], regs := [], conds := [] }
theorem g_spec_voVotes (k : Nat) : EnvOK Try.prog k x_spec_voVotes.G := (EnvOK.cons (s_spec_l1In k) (EnvOK.cons (s_spec_l1All k) (EnvOK.nil mixed)))
theorem h_spec_voVotes (k : Nat) (x : Tup d_spec_voVotes.ps) : d_spec_voVotes.f (k + 1) x = fnK d_spec_voVotes x_spec_voVotes c_spec_voVotes k x := by kernel_rfl
theorem z_spec_voVotes (x : Tup d_spec_voVotes.ps) : d_spec_voVotes.f 0 x = none := by kernel_rfl
theorem l_spec_voVotes (k : Nat) : LOK Try.prog x_spec_voVotes k c_spec_voVotes := LOK.by [] (by kernel_rfl) AllOK.nil
theorem s_spec_voVotes (k : Nat) : SoundAt Try.prog k 100 d_spec_voVotes.E := @fn_all Try.prog d_spec_voVotes x_spec_voVotes 100 Try.f100 c_spec_voVotes (by kernel_rfl) (by kernel_rfl) (by kernel_rfl) Try.func100 (by kernel_rfl) (by kernel_rfl) (by kernel_rfl) T_ok g_spec_voVotes l_spec_voVotes z_spec_voVotes h_spec_voVotes k
/-! function 105 -/
noncomputable def r_spec_voRows : List PK := [{ t := Ty.bool }]
noncomputable def q_spec_voRows : List PK := [{ t := Ty.slice (34 : Nat) (Ty.slice (3 : Nat) (Ty.int IntKind.i64)) }]
noncomputable def to_spec_voRows (r : Bool) : Tup r_spec_voRows × OutD := ((r, ()), none)
noncomputable def of_spec_voRows : Tup r_spec_voRows × OutD → Option (Bool)
  | (a, none) => some (a.1)
  | _ => none
theorem to_of_spec_voRows : ∀ b r, of_spec_voRows b = some r → to_spec_voRows r = b := by
  rintro ⟨a, o⟩ r h
  cases o with
  | none => injection h with h; subst h; rfl
  | some _ => cases h
noncomputable def f_spec_voRows_0 : Nat → List (List Int) → List (List Int) → Int → Int → Option (LR (List (List Int)) Bool)
  | 0, _, _, _, _ => none
  | k + 1, v0, v5, v6, v7 =>
    if decide (v7 < v6) = true then if (0 : Int) ≤ v7 then if v7 < (↑(List.length v5) : Int) then if (0 : Int) < (↑(List.length v0) : Int) then if decide ((↑(List.length (List.getD v5 (Int.toNat v7) [])) : Int) ≠ (↑(List.length (List.getD v0 (Int.toNat (0 : Int)) [])) : Int)) = true then some (LR.ret false) else if decide ((↑(List.length (List.getD v5 (Int.toNat v7) [])) : Int) > (40 : Int)) = true then some (LR.ret false) else Option.bind (f_spec_l1All k (List.getD v5 (Int.toNat v7) []) (0 : Int) (9 : Int)) fun z0 => if (!z0) = true then some (LR.ret false) else f_spec_voRows_0 k v0 v5 v6 (wrap64 (v7 + (1 : Int))) else none else none else none else some (LR.go v0)
noncomputable def f_spec_voRows_0i : Spec := { objs := [OSh.ro], tmps := [((0 : Nat), TSh.at (Sh.snap (0 : Nat) (Ty.slice (3 : Nat) (Ty.int IntKind.i64)))), ((5 : Nat), TSh.at (Sh.snap (0 : Nat) (Ty.slice (3 : Nat) (Ty.int IntKind.i64)))), ((6 : Nat), TSh.at (Sh.int IntKind.i64)), ((7 : Nat), TSh.at (Sh.int IntKind.i64))] }
noncomputable def f_spec_voRows_0o : Spec := { objs := [OSh.ro], tmps := [((0 : Nat), TSh.at (Sh.snap (0 : Nat) (Ty.slice (3 : Nat) (Ty.int IntKind.i64))))] }
noncomputable def f_spec_voRows_0D : LoopDef (Tup r_spec_voRows × OutD) := .rets f_spec_voRows_0i f_spec_voRows_0o (List (List Int)) (Bool) (fun k x => f_spec_voRows_0 k x.2.1 x.2.2.1 x.2.2.2.1 x.2.2.2.2.1) (fun z => (((), ()), (z, ()))) (fun y => (y.2.1)) (fun _ => rfl) to_spec_voRows of_spec_voRows to_of_spec_voRows
noncomputable def f_spec_voRows : Nat → List (List Int) → Option Bool
  | 0, _ => none
  | k + 1, p0 =>
    Option.bind (f_spec_voRows_0 k p0 p0 (↑(List.length p0) : Int) (0 : Int)) fun z1 => LR.on z1 (fun y1 => Option.bind (f_spec_voCopies k (↑(List.length y1) : Int)) fun z2 => some z2) fun r1 => some r1
noncomputable def d_spec_voRows : FnDef := .of q_spec_voRows r_spec_voRows (Bool) (fun k x => f_spec_voRows k x.1) to_spec_voRows of_spec_voRows to_of_spec_voRows
noncomputable def c_spec_voRows : Code := Try.f105.body.getD .skip
noncomputable def x_spec_voRows : Ctx (Tup r_spec_voRows × OutD) := { T := T, G := [(113, d_spec_l1All.E), (93, d_spec_voCopies.E)], mvs := [], no := 0, n := 32, res := resOf T q_spec_voRows r_spec_voRows Try.f105.results.toList, loops := [(0, f_spec_voRows_0D.E)], regs := [], conds := [] }
theorem g_spec_voRows (k : Nat) : EnvOK Try.prog k x_spec_voRows.G := (EnvOK.cons (s_spec_l1All k) (EnvOK.cons (s_spec_voCopies k) (EnvOK.nil mixed)))
noncomputable def f_spec_voRows_0B : Code := (findLoop 0 c_spec_voRows).getD .skip
theorem f_spec_voRows_0h (k : Nat) (x : f_spec_voRows_0i.D) : f_spec_voRows_0D.lp (k + 1) x = loopK x_spec_voRows f_spec_voRows_0D 0 f_spec_voRows_0B k x := by kernel_rfl
theorem f_spec_voRows_0l (k : Nat) : LOK Try.prog x_spec_voRows k f_spec_voRows_0B := LOK.by [] (by kernel_rfl) AllOK.nil
theorem f_spec_voRows_0z (x : f_spec_voRows_0i.D) : f_spec_voRows_0D.lp 0 x = none := by kernel_rfl
theorem f_spec_voRows_0ok (k : Nat) : EOK Try.prog x_spec_voRows k f_spec_voRows_0D.E (.block 0 (.loop f_spec_voRows_0B)) := loop_ok T_ok g_spec_voRows f_spec_voRows_0z f_spec_voRows_0h f_spec_voRows_0l k
theorem h_spec_voRows (k : Nat) (x : Tup d_spec_voRows.ps) : d_spec_voRows.f (k + 1) x = fnK d_spec_voRows x_spec_voRows c_spec_voRows k x := by kernel_rfl
theorem z_spec_voRows (x : Tup d_spec_voRows.ps) : d_spec_voRows.f 0 x = none := by kernel_rfl
theorem l_spec_voRows (k : Nat) : LOK Try.prog x_spec_voRows k c_spec_voRows := LOK.by [(f_spec_voRows_0D.E, .block 0 (.loop f_spec_voRows_0B))] (by kernel_rfl) (AllOK.cons (f_spec_voRows_0ok k) AllOK.nil)
theorem s_spec_voRows (k : Nat) : SoundAt Try.prog k 105 d_spec_voRows.E := @fn_all Try.prog d_spec_voRows x_spec_voRows 105 Try.f105 c_spec_voRows (by kernel_rfl) (by kernel_rfl) (by kernel_rfl) Try.func105 (by kernel_rfl) (by kernel_rfl) (by kernel_rfl) T_ok g_spec_voRows l_spec_voRows z_spec_voRows h_spec_voRows k
/-! function 150 -/
noncomputable def r_spec_l1Cur_one : List PK := [{ t := Ty.bool }]
noncomputable def q_spec_l1Cur_one : List PK := [{ t := Ty.pair (Ty.slice (5 : Nat) (Ty.int IntKind.u8)) (Ty.pair (Ty.int IntKind.i64) (Ty.int IntKind.u64)), box := some (114 : Nat) }, { t := Ty.int IntKind.i64 }]
noncomputable def to_spec_l1Cur_one (r : Bool × Int × Int) : Tup r_spec_l1Cur_one × OutD := ((r.1, ()), some ⟨Ty.pair (Ty.slice (5 : Nat) (Ty.int IntKind.u8)) (Ty.pair (Ty.int IntKind.i64) (Ty.int IntKind.u64)), [([], r.2)]⟩)
noncomputable def of_spec_l1Cur_one : Tup r_spec_l1Cur_one × OutD → Option (Bool × Int × Int)
  | (a, some ⟨u, ys⟩) => if h : u = Ty.pair (Ty.slice (5 : Nat) (Ty.int IntKind.u8)) (Ty.pair (Ty.int IntKind.i64) (Ty.int IntKind.u64)) then (match castU h ys with
    | [([], y)] => some (a.1, y)
    | _ => none) else none
  | _ => none
theorem to_of_spec_l1Cur_one : ∀ b r, of_spec_l1Cur_one b = some r → to_spec_l1Cur_one r = b := by
  rintro ⟨a, o⟩ r h
  cases o with
  | none => cases h
  | some s =>
    obtain ⟨u, ys⟩ := s
    simp only [of_spec_l1Cur_one] at h
    split at h
    · rename_i hu
      subst hu
      match ys, h with
      | [], h => cases (show (none : Option _) = some r from h)
      | [([], y)], h => injection (show some _ = some r from h) with h; subst h; rfl
      | [(_ :: _, y)], h => cases (show (none : Option _) = some r from h)
      | (h1, _) :: _ :: _, h => cases h1 <;> cases (show (none : Option _) = some r from h)
    · cases h
noncomputable def f_spec_l1Cur_one : Nat → List Int × Int × Int → Int → Option (Bool × Int × Int)
  | 0, _, _ => none
  | k + 1, p0, p1 =>
    Option.bind (f_spec_l1Cur_pick k (Prod.fst p0, Prod.fst (Prod.snd p0), Prod.snd (Prod.snd p0)) p1) fun z0 => some (decide (Prod.fst z0 = (0 : Int)), Prod.fst (Prod.snd z0), Prod.snd (Prod.snd z0))
noncomputable def d_spec_l1Cur_one : FnDef := .of q_spec_l1Cur_one r_spec_l1Cur_one (Bool × Int × Int) (fun k x => f_spec_l1Cur_one k x.1 x.2.1) to_spec_l1Cur_one of_spec_l1Cur_one to_of_spec_l1Cur_one
noncomputable def c_spec_l1Cur_one : Code := Try.f150.body.getD .skip
noncomputable def x_spec_l1Cur_one : Ctx (Tup r_spec_l1Cur_one × OutD) := { T := T, G := [(111, d_spec_l1Cur_pick.E)], mvs := [], no := 2, n := 9, res := resOf T q_spec_l1Cur_one r_spec_l1Cur_one Try.f150.results.toList, loops := [], regs := [], conds := [] }
theorem g_spec_l1Cur_one (k : Nat) : EnvOK Try.prog k x_spec_l1Cur_one.G := (EnvOK.cons (s_spec_l1Cur_pick k) (EnvOK.nil mixed))
theorem h_spec_l1Cur_one (k : Nat) (x : Tup d_spec_l1Cur_one.ps) : d_spec_l1Cur_one.f (k + 1) x = fnK d_spec_l1Cur_one x_spec_l1Cur_one c_spec_l1Cur_one k x := by kernel_rfl
theorem z_spec_l1Cur_one (x : Tup d_spec_l1Cur_one.ps) : d_spec_l1Cur_one.f 0 x = none := by kernel_rfl
theorem l_spec_l1Cur_one (k : Nat) : LOK Try.prog x_spec_l1Cur_one k c_spec_l1Cur_one := LOK.by [] (by kernel_rfl) AllOK.nil
theorem s_spec_l1Cur_one (k : Nat) : SoundAt Try.prog k 150 d_spec_l1Cur_one.E := @fn_all Try.prog d_spec_l1Cur_one x_spec_l1Cur_one 150 Try.f150 c_spec_l1Cur_one (by kernel_rfl) (by kernel_rfl) (by kernel_rfl) Try.func150 (by kernel_rfl) (by kernel_rfl) (by kernel_rfl) T_ok g_spec_l1Cur_one l_spec_l1Cur_one z_spec_l1Cur_one h_spec_l1Cur_one k
end
end Go.Proofs.Ytgjmhbjdhihgaaa.Vs
