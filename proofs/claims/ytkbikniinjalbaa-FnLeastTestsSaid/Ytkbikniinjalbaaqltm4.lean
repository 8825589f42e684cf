/- The proof, part 5. -/
import Derived.Test.Ytkbikniinjalbaaqltm3
import Derived.Test.YtkbikniinjalbaaProg
import Derived.KernelRfl
set_option maxRecDepth 100000
namespace Go.Proofs.Ytkbikniinjalbaa.Vs
open Go.RowKit
section
noncomputable section
theorem Zai {α : Type} {c d : Prop} [Decidable c] [Decidable d] {x : Option α} : (if c then (if d then x else none) else none) = if c ∧ d then x else none := by
 by_cases h : c <;> by_cases h2 : d <;> simp [h, h2]
theorem Z4Q {α : Type} {c : Prop} [Decidable c] {x y : Option (List α)} : joinL (if c then x else none) y = if c then joinL x y else none := by
 by_cases h : c <;> simp [h, joinL]
theorem Z4K {α : Type} {c : Prop} [Decidable c] {x y : Option (List α)} : joinL x (if c then y else none) = if c then joinL x y else none := by
 by_cases h : c <;> simp [h, joinL]
theorem Z8t {α : Type} {c : Prop} [Decidable c] {m : Nat} {x : Option α} : repl m (if c then x else none) = if c then repl m x else none := by
 by_cases h : c <;> simp [h, repl]
theorem Z6s {α : Type} {c d : Prop} [Decidable c] [Decidable d] {x : Option α} (h : c ↔ d) : (if c then x else none) = if d then x else none := by
 by_cases h1 : c
 ·rw [if_pos h1, if_pos (h.1 h1)]
 ·rw [if_neg h1, if_neg (fun h2 => h1 (h.2 h2))]
def i3 : TI := ⟨.scal, .int Go.IntKind.i64, 8, false⟩
theorem t3 : TyOK Try.prog 3 i3 := .scal (by kernel_rfl) (by decide) rfl rfl (by kernel_rfl)
def i75 : TI := ⟨.struct [(0, 3), (1, 3)], .pair (.int Go.IntKind.i64) (.int Go.IntKind.i64), 16, true⟩
theorem t75 : TyOK Try.prog 75 i75 := .structE (by kernel_rfl) (by kernel_rfl) (by decide) (by kernel_rfl) (by kernel_rfl)
def i22 : TI := ⟨.slice 75, .slice 75 (.pair (.int Go.IntKind.i64) (.int Go.IntKind.i64)), 24, false⟩
theorem t22 : TyOK Try.prog 22 i22 := .slice (by kernel_rfl) (by decide) rfl (by kernel_rfl)
def i24 : TI := ⟨.struct [(0, 3), (1, 3), (2, 22)], .pair (.int Go.IntKind.i64) (.pair (.int Go.IntKind.i64) (.slice 75 (.pair (.int Go.IntKind.i64) (.int Go.IntKind.i64)))), 40, false⟩
theorem t24 : TyOK Try.prog 24 i24 := .struct (by kernel_rfl) (by decide) (by kernel_rfl) (by kernel_rfl)
def i28 : TI := ⟨.slice 3, .slice 3 (.int Go.IntKind.i64), 24, false⟩
theorem t28 : TyOK Try.prog 28 i28 := .slice (by kernel_rfl) (by decide) rfl (by kernel_rfl)
def i25 : TI := ⟨.slice 28, .slice 28 (.slice 3 (.int Go.IntKind.i64)), 24, false⟩
theorem t25 : TyOK Try.prog 25 i25 := .slice (by kernel_rfl) (by decide) rfl (by kernel_rfl)
def i4 : TI := ⟨.scal, .bool, 1, false⟩
theorem t4 : TyOK Try.prog 4 i4 := .scal (by kernel_rfl) (by decide) rfl rfl (by kernel_rfl)
def i73 : TI := ⟨.struct [(0, 3), (1, 3)], .pair (.int Go.IntKind.i64) (.int Go.IntKind.i64), 16, true⟩
theorem t73 : TyOK Try.prog 73 i73 := .structE (by kernel_rfl) (by kernel_rfl) (by decide) (by kernel_rfl) (by kernel_rfl)
def i31 : TI := ⟨.slice 73, .slice 73 (.pair (.int Go.IntKind.i64) (.int Go.IntKind.i64)), 24, false⟩
theorem t31 : TyOK Try.prog 31 i31 := .slice (by kernel_rfl) (by decide) rfl (by kernel_rfl)
def i33 : TI := ⟨.struct [(0, 3), (1, 3), (2, 31)], .pair (.int Go.IntKind.i64) (.pair (.int Go.IntKind.i64) (.slice 73 (.pair (.int Go.IntKind.i64) (.int Go.IntKind.i64)))), 40, false⟩
theorem t33 : TyOK Try.prog 33 i33 := .struct (by kernel_rfl) (by decide) (by kernel_rfl) (by kernel_rfl)
def i5 : TI := ⟨.scal, .int Go.IntKind.u8, 1, false⟩
theorem t5 : TyOK Try.prog 5 i5 := .scal (by kernel_rfl) (by decide) rfl rfl (by kernel_rfl)
theorem dp5 : Deep Try.prog 5 (.int Go.IntKind.u8) := .int (by kernel_rfl)
def i42 : TI := ⟨.slice 5, .slice 5 (.int Go.IntKind.u8), 24, false⟩
theorem t42 : TyOK Try.prog 42 i42 := .slice (by kernel_rfl) (by decide) rfl (by kernel_rfl)
theorem dp42 : Deep Try.prog 42 (.slice 5 (.int Go.IntKind.u8)) := .slice (by kernel_rfl) (by kernel_rfl) dp5
def i55 : TI := ⟨.scal, .int Go.IntKind.u64, 8, false⟩
theorem t55 : TyOK Try.prog 55 i55 := .scal (by kernel_rfl) (by decide) rfl rfl (by kernel_rfl)
def i94 : TI := ⟨.struct [(0, 3), (1, 3), (2, 3)], .pair (.int Go.IntKind.i64) (.pair (.int Go.IntKind.i64) (.int Go.IntKind.i64)), 24, true⟩
theorem t94 : TyOK Try.prog 94 i94 := .structE (by kernel_rfl) (by kernel_rfl) (by decide) (by kernel_rfl) (by kernel_rfl)
def i71 : TI := ⟨.slice 94, .slice 94 (.pair (.int Go.IntKind.i64) (.pair (.int Go.IntKind.i64) (.int Go.IntKind.i64))), 24, false⟩
theorem t71 : TyOK Try.prog 71 i71 := .slice (by kernel_rfl) (by decide) rfl (by kernel_rfl)
def i69 : TI := ⟨.slice 71, .slice 71 (.slice 94 (.pair (.int Go.IntKind.i64) (.pair (.int Go.IntKind.i64) (.int Go.IntKind.i64)))), 24, false⟩
theorem t69 : TyOK Try.prog 69 i69 := .slice (by kernel_rfl) (by decide) rfl (by kernel_rfl)
def i59 : TI := ⟨.slice 69, .slice 69 (.slice 71 (.slice 94 (.pair (.int Go.IntKind.i64) (.pair (.int Go.IntKind.i64) (.int Go.IntKind.i64))))), 24, false⟩
theorem t59 : TyOK Try.prog 59 i59 := .slice (by kernel_rfl) (by decide) rfl (by kernel_rfl)
def i63 : TI := ⟨.fn, .bool, 1, false⟩
theorem t63 : FnTy Try.prog 63 := ⟨⟨({ toList := [28] }), ({ toList := [4] }), (false), by kernel_rfl⟩, by kernel_rfl⟩
def i81 : TI := ⟨.struct [(0, 3), (1, 3), (2, 3)], .pair (.int Go.IntKind.i64) (.pair (.int Go.IntKind.i64) (.int Go.IntKind.i64)), 24, true⟩
theorem t81 : TyOK Try.prog 81 i81 := .structE (by kernel_rfl) (by kernel_rfl) (by decide) (by kernel_rfl) (by kernel_rfl)
def i78 : TI := ⟨.slice 81, .slice 81 (.pair (.int Go.IntKind.i64) (.pair (.int Go.IntKind.i64) (.int Go.IntKind.i64))), 24, false⟩
theorem t78 : TyOK Try.prog 78 i78 := .slice (by kernel_rfl) (by decide) rfl (by kernel_rfl)
def i83 : TI := ⟨.fn, .bool, 1, false⟩
theorem t83 : FnTy Try.prog 83 := ⟨⟨({ toList := [28, 3, 3] }), ({ toList := [] }), (false), by kernel_rfl⟩, by kernel_rfl⟩
def i87 : TI := ⟨.scal, .int Go.IntKind.u64, 8, false⟩
theorem t87 : TyOK Try.prog 87 i87 := .scal (by kernel_rfl) (by decide) rfl rfl (by kernel_rfl)
def i89 : TI := ⟨.struct [(0, 42), (1, 3), (2, 87)], .pair (.slice 5 (.int Go.IntKind.u8)) (.pair (.int Go.IntKind.i64) (.int Go.IntKind.u64)), 40, false⟩
theorem t89 : TyOK Try.prog 89 i89 := .struct (by kernel_rfl) (by decide) (by kernel_rfl) (by kernel_rfl)
theorem mixed : Try.prog.follows .mixedOrders = true := by kernel_rfl
def T : TT := [(3, i3), (75, i75), (22, i22), (24, i24), (28, i28), (25, i25), (4, i4), (73, i73), (31, i31), (33, i33), (5, i5), (42, i42), (55, i55), (94, i94), (71, i71), (69, i69), (59, i59), (63, i63), (81, i81), (78, i78), (83, i83), (87, i87), (89, i89)]
theorem T_ok : TTok Try.prog T := .of (by unfold T; exact (List.forall_mem_cons.2 ⟨t3, (List.forall_mem_cons.2 ⟨t75, (List.forall_mem_cons.2 ⟨t22, (List.forall_mem_cons.2 ⟨t24, (List.forall_mem_cons.2 ⟨t28, (List.forall_mem_cons.2 ⟨t25, (List.forall_mem_cons.2 ⟨t4, (List.forall_mem_cons.2 ⟨t73, (List.forall_mem_cons.2 ⟨t31, (List.forall_mem_cons.2 ⟨t33, (List.forall_mem_cons.2 ⟨t5, (List.forall_mem_cons.2 ⟨t42, (List.forall_mem_cons.2 ⟨t55, (List.forall_mem_cons.2 ⟨t94, (List.forall_mem_cons.2 ⟨t71, (List.forall_mem_cons.2 ⟨t69, (List.forall_mem_cons.2 ⟨t59, (List.forall_mem_cons.2 ⟨t63, (List.forall_mem_cons.2 ⟨t81, (List.forall_mem_cons.2 ⟨t78, (List.forall_mem_cons.2 ⟨t83, (List.forall_mem_cons.2 ⟨t87, (List.forall_mem_cons.2 ⟨t89, (fun _ h => nomatch h)⟩)⟩)⟩)⟩)⟩)⟩)⟩)⟩)⟩)⟩)⟩)⟩)⟩)⟩)⟩)⟩)⟩)⟩)⟩)⟩)⟩)⟩)⟩))
end
end
set_option maxHeartbeats 2000000
set_option linter.unusedVariables false
set_option linter.unusedSimpArgs false
section
noncomputable section
noncomputable def ZbB : List PK := [PK.mk .bool false none false none]
noncomputable def Zx8 : List PK := [PK.mk (.slice 3 I6) false none false none, PK.mk (.slice 3 I6) false none false none]
noncomputable def ZjC (r : Bool) : Tup ZbB × OutD := ((r, ()), none)
noncomputable def Zji : Tup ZbB × OutD → Option (Bool)
 | (a, none) => some (a.1)
 | _ => none
theorem ZmF : ∀ b r, Zji b = some r → ZjC r = b := by
 rintro ⟨a, _ | _⟩ r h <;> cases h; rfl
noncomputable def Z99 : Nat → List Int → List Int → Int → Int → Option (LR Unit Bool)
 | 0, _, _, _, _ => none
 | k + 1, v0, v1, v12, v13 =>
  if decide (v13 < v12) = true then if (0 : Int) ≤ v13 then if v13 < (↑(List.length v0) : Int) then if (0 : Int) ≤ v13 then if v13 < (↑(List.length v1) : Int) then if decide (List.getD v0 (Int.toNat v13) (0 : Int) ≠ List.getD v1 (Int.toNat v13) (0 : Int)) = true then some (LR.ret false) else Z99 k v0 v1 v12 (wrap64 (v13 + 1)) else none else none else none else none else some (LR.go ())
noncomputable def Zh3 : Spec := Spec.mk [.ro] [(0, .at (.snap 0 I6)), (1, .at (.snap 0 I6)), (12, .at (.int .i64)), (13, .at (.int .i64))]
noncomputable def ZC7 : Spec := Spec.mk [.ro] []
noncomputable def Z7U : LoopDef (Tup ZbB × OutD) := .rets Zh3 ZC7 (Unit) (Bool) (fun k x => Z99 k x.2.1 x.2.2.1 x.2.2.2.1 x.2.2.2.2.1) (fun z => (((), ()), (()))) (fun y => ()) (fun _ => rfl) ZjC Zji ZmF
noncomputable def Z7L : Nat → List Int → List Int → Option Bool
 | 0, _, _ => none
 | k + 1, p0, p1 =>
  if decide ((↑(List.length p0) : Int) ≠ (↑(List.length p1) : Int)) = true then some false else Option.bind (Z99 k p0 p1 (↑(List.length p0) : Int) (0 : Int)) fun z0 => LR.on z0 (fun y0 => some true) fun r0 => some r0
noncomputable def Z5M : FnDef := .of Zx8 ZbB (Bool) (fun k x => Z7L k x.1 x.2.1) ZjC Zji ZmF
noncomputable def Zhr : Code := Try.f24.body.getD .skip
noncomputable def Z9D : Ctx (Tup ZbB × OutD) := { T := T, G := [], mvs := [], no := 0, n := 26, res := resOf T Zx8 ZbB Try.f24.results.toList, loops := [(0, Z7U.E)], regs := [], conds := [], cuts := [] }
theorem Zvf (k : Nat) : EnvOK Try.prog k Z9D.G := (EnvOK.nil mixed)
noncomputable def Zdq : Code := (findLoop 0 Zhr).getD .skip
theorem ZBo (k : Nat) (x : Zh3.D) : Z7U.lp (k + 1) x = loopK Z9D Z7U 0 Zdq k x := by kernel_rfl
theorem ZBk (k : Nat) : LOK Try.prog Z9D k Zdq := LOK.by [] (by kernel_rfl) AllOK.nil
theorem ZCa (x : Zh3.D) : Z7U.lp 0 x = none := by kernel_rfl
theorem ZAr (k : Nat) : EOK Try.prog Z9D k Z7U.E (.block 0 (.loop Zdq)) := Z4 T_ok Zvf ZCa ZBo ZBk k
theorem ZG7 (k : Nat) (x : Tup Z5M.ps) : Z5M.f (k + 1) x = fnK Z5M Z9D Zhr k x := by kernel_rfl
theorem ZGf (x : Tup Z5M.ps) : Z5M.f 0 x = none := by kernel_rfl
theorem ZFG (k : Nat) : LOK Try.prog Z9D k Zhr := LOK.by [(Z7U.E, .block 0 (.loop Zdq))] (by kernel_rfl) (AllOK.cons (ZAr k) AllOK.nil)
theorem Zvt (k : Nat) : SoundAt Try.prog k 24 Z5M.E := @Z5 Try.prog Z5M Z9D 24 Try.f24 Zhr (by kernel_rfl) (by kernel_rfl) (by kernel_rfl) Try.func24 (by kernel_rfl) (by kernel_rfl) (by kernel_rfl) T_ok Zvf ZFG ZGf ZG7 k
noncomputable def ZbL : List PK := [PK.mk (.slice 3 I6) false none false none]
noncomputable def ZwF : List PK := [PK.mk (.slice 28 (.slice 3 I6)) false none false none]
noncomputable def Ztz (r : List Int) : Tup ZbL × OutD := ((r, ()), none)
noncomputable def Zth : Tup ZbL × OutD → Option (List Int)
 | (a, none) => some (a.1)
 | _ => none
theorem ZzQ : ∀ b r, Zth b = some r → Ztz r = b := by
 rintro ⟨a, _ | _⟩ r h <;> cases h; rfl
noncomputable def Z9g : Nat → List Int → Int → Int → Option (List Int)
 | 0, _, _, _ => none
 | k + 1, o1, v6, v7 =>
  if decide (v7 < v6) = true then if List.length o1 + List.length [v7] ≤ (140737488355328 / 8 : Nat) then Z9g k (o1 ++ [v7]) v6 (wrap64 (v7 + 1)) else none else some o1
noncomputable def Zh7 : Spec := Spec.mk [.ro, O3] [(3, .at (.sl 1)), (6, .at (.int .i64)), (7, .at (.int .i64))]
noncomputable def ZAW : Spec := Spec.mk [.ro, O3] [(3, .at (.sl 1))]
noncomputable def Z8j : LoopDef (Tup ZbL × OutD) := .plain Zh7 ZAW (List Int) (fun k x => Z9g k x.1.2.1 x.2.2.1 x.2.2.2.1) (fun z => (((), z, ()), ((), ()))) (fun y => (y.1.2.1)) (fun _ => rfl)
noncomputable def Z9n : Nat → List (List Int) → Option (List Int)
 | 0, _ => none
 | k + 1, p0 =>
  Option.bind (Z9g k [] (↑(List.length p0) : Int) (0 : Int)) fun z0 => some z0
noncomputable def Z3N : FnDef := .of ZwF ZbL (List Int) (fun k x => Z9n k x.1) Ztz Zth ZzQ
noncomputable def Zhw : Code := Try.f34.body.getD .skip
noncomputable def Z9y : Ctx (Tup ZbL × OutD) := { T := T, G := [], mvs := [], no := 0, n := 16, res := resOf T ZwF ZbL Try.f34.results.toList, loops := [(0, Z8j.E)], regs := [], conds := [], cuts := [] }
theorem Zwv (k : Nat) : EnvOK Try.prog k Z9y.G := (EnvOK.nil mixed)
noncomputable def Zdl : Code := (findLoop 0 Zhw).getD .skip
theorem ZCr (k : Nat) (x : Zh7.D) : Z8j.lp (k + 1) x = loopK Z9y Z8j 0 Zdl k x := by kernel_rfl
theorem ZAY (k : Nat) : LOK Try.prog Z9y k Zdl := LOK.by [] (by kernel_rfl) AllOK.nil
theorem ZCm (x : Zh7.D) : Z8j.lp 0 x = none := by kernel_rfl
theorem ZzB (k : Nat) : EOK Try.prog Z9y k Z8j.E (.block 0 (.loop Zdl)) := Z4 T_ok Zwv ZCm ZCr ZAY k
theorem ZFS (k : Nat) (x : Tup Z3N.ps) : Z3N.f (k + 1) x = fnK Z3N Z9y Zhw k x := by kernel_rfl
theorem ZFD (x : Tup Z3N.ps) : Z3N.f 0 x = none := by kernel_rfl
theorem ZFK (k : Nat) : LOK Try.prog Z9y k Zhw := LOK.by [(Z8j.E, .block 0 (.loop Zdl))] (by kernel_rfl) (AllOK.cons (ZzB k) AllOK.nil)
theorem Zhe (k : Nat) : SoundAt Try.prog k 34 Z3N.E := @Z5 Try.prog Z3N Z9y 34 Try.f34 Zhw (by kernel_rfl) (by kernel_rfl) (by kernel_rfl) Try.func34 (by kernel_rfl) (by kernel_rfl) (by kernel_rfl) T_ok Zwv ZFK ZFD ZFS k
noncomputable def Z3G : List PK := [PK.mk (.slice 3 I6) false none false none]
noncomputable def Zma : List PK := [PK.mk (.slice 28 (.slice 3 I6)) false none false none, PK.mk (.slice 3 I6) false none false none]
noncomputable def ZjQ (r : List Int) : Tup Z3G × OutD := ((r, ()), none)
noncomputable def Zkc : Tup Z3G × OutD → Option (List Int)
 | (a, none) => some (a.1)
 | _ => none
theorem Zss : ∀ b r, Zkc b = some r → ZjQ r = b := by
 rintro ⟨a, _ | _⟩ r h <;> cases h; rfl
noncomputable def Z3M : Nat → List Int → List (List Int) → List Int → Int → List Int → Int → Bool → List (List Int) → Int → Int → List Int → Int → Int → Option (List Int × List (List Int) × List Int × Int × List Int × Int × Bool × List (List Int) × Int × Int)
 | 0, _, _, _, _, _, _, _, _, _, _, _, _, _ => none
 | k + 1, o1, v0, v1, v6, v7, v8, v9, v12, v13, v14, v22, v23, v24 =>
  if decide (v24 < v23) = true then if (0 : Int) ≤ v24 then if v24 < (↑(List.length v22) : Int) then if v9 = true then if (0 : Int) ≤ List.getD v22 (Int.toNat v24) (0 : Int) then if List.getD v22 (Int.toNat v24) (0 : Int) < (↑(List.length v7) : Int) then if (0 : Int) ≤ v8 then if v8 < (↑(List.length v0) : Int) then if (0 : Int) ≤ List.getD v22 (Int.toNat v24) (0 : Int) then if List.getD v22 (Int.toNat v24) (0 : Int) < (↑(List.length (List.getD v0 (Int.toNat v8) [])) : Int) then Z3M k o1 v0 v1 v6 v7 v8 (decide (List.getD v7 (Int.toNat (List.getD v22 (Int.toNat v24) (0 : Int))) (0 : Int) = List.getD (List.getD v0 (Int.toNat v8) []) (Int.toNat (List.getD v22 (Int.toNat v24) (0 : Int))) (0 : Int))) v12 v13 v14 v22 v23 (wrap64 (v24 + 1)) else none else none else none else none else none else none else Z3M k o1 v0 v1 v6 v7 v8 false v12 v13 v14 v22 v23 (wrap64 (v24 + 1)) else none else none else some (o1, v0, v1, v6, v7, v8, v9, v12, v13, v14)
noncomputable def Zd6 : Spec := Spec.mk [.ro, O3] [(0, .at (.snap 0 (.slice 3 I6))), (1, .at (.snap 0 I6)), (5, .at (.sl 1)), (6, .at (.int .i64)), (7, .at (.snap 0 I6)), (8, .at (.int .i64)), (9, .at .bool), (12, .at (.snap 0 (.slice 3 I6))), (13, .at (.int .i64)), (14, .at (.int .i64)), (22, .at (.snap 0 I6)), (23, .at (.int .i64)), (24, .at (.int .i64))]
noncomputable def Zuj : Spec := Spec.mk [.ro, O3] [(0, .at (.snap 0 (.slice 3 I6))), (1, .at (.snap 0 I6)), (5, .at (.sl 1)), (6, .at (.int .i64)), (7, .at (.snap 0 I6)), (8, .at (.int .i64)), (9, .at .bool), (12, .at (.snap 0 (.slice 3 I6))), (13, .at (.int .i64)), (14, .at (.int .i64))]
noncomputable def Z4p : LoopDef (Tup Z3G × OutD) := .plain Zd6 Zuj (List Int × List (List Int) × List Int × Int × List Int × Int × Bool × List (List Int) × Int × Int) (fun k x => Z3M k x.1.2.1 x.2.1 x.2.2.1 x.2.2.2.2.1 x.2.2.2.2.2.1 x.2.2.2.2.2.2.1 x.2.2.2.2.2.2.2.1 x.2.2.2.2.2.2.2.2.1 x.2.2.2.2.2.2.2.2.2.1 x.2.2.2.2.2.2.2.2.2.2.1 x.2.2.2.2.2.2.2.2.2.2.2.1 x.2.2.2.2.2.2.2.2.2.2.2.2.1 x.2.2.2.2.2.2.2.2.2.2.2.2.2.1) (fun z => (((), z.1, ()), (z.2.1, z.2.2.1, (), z.2.2.2.1, z.2.2.2.2.1, z.2.2.2.2.2.1, z.2.2.2.2.2.2.1, z.2.2.2.2.2.2.2.1, z.2.2.2.2.2.2.2.2.1, z.2.2.2.2.2.2.2.2.2, ()))) (fun y => (y.1.2.1, y.2.1, y.2.2.1, y.2.2.2.2.1, y.2.2.2.2.2.1, y.2.2.2.2.2.2.1, y.2.2.2.2.2.2.2.1, y.2.2.2.2.2.2.2.2.1, y.2.2.2.2.2.2.2.2.2.1, y.2.2.2.2.2.2.2.2.2.2.1)) (fun _ => rfl)
noncomputable def Z50 : Nat → List Int → List (List Int) → List Int → Int → List Int → Int → List (List Int) → Int → Int → Option (List Int × List (List Int) × List Int × Int × List (List Int) × Int × Int)
 | 0, _, _, _, _, _, _, _, _, _ => none
 | k + 1, o1, v0, v1, v6, v7, v8, v12, v13, v14 =>
  if decide (v8 < v6) = true then Option.bind (Z3M k o1 v0 v1 v6 v7 v8 true v12 v13 v14 v1 (↑(List.length v1) : Int) (0 : Int)) fun z0 => if z0.2.2.2.2.2.2.1 = true then some (z0.1, z0.2.1, z0.2.2.1, z0.2.2.2.2.2.1, z0.2.2.2.2.2.2.2.1, z0.2.2.2.2.2.2.2.2.1, z0.2.2.2.2.2.2.2.2.2) else Z50 k z0.1 z0.2.1 z0.2.2.1 z0.2.2.2.1 z0.2.2.2.2.1 (wrap64 (z0.2.2.2.2.2.1 + 1)) z0.2.2.2.2.2.2.2.1 z0.2.2.2.2.2.2.2.2.1 z0.2.2.2.2.2.2.2.2.2 else some (o1, v0, v1, v8, v12, v13, v14)
noncomputable def Zdc : Spec := Spec.mk [.ro, O3] [(0, .at (.snap 0 (.slice 3 I6))), (1, .at (.snap 0 I6)), (5, .at (.sl 1)), (6, .at (.int .i64)), (7, .at (.snap 0 I6)), (8, .at (.int .i64)), (12, .at (.snap 0 (.slice 3 I6))), (13, .at (.int .i64)), (14, .at (.int .i64))]
noncomputable def ZuY : Spec := Spec.mk [.ro, O3] [(0, .at (.snap 0 (.slice 3 I6))), (1, .at (.snap 0 I6)), (5, .at (.sl 1)), (8, .at (.int .i64)), (12, .at (.snap 0 (.slice 3 I6))), (13, .at (.int .i64)), (14, .at (.int .i64))]
noncomputable def Z4C : LoopDef (Tup Z3G × OutD) := .plain Zdc ZuY (List Int × List (List Int) × List Int × Int × List (List Int) × Int × Int) (fun k x => Z50 k x.1.2.1 x.2.1 x.2.2.1 x.2.2.2.2.1 x.2.2.2.2.2.1 x.2.2.2.2.2.2.1 x.2.2.2.2.2.2.2.1 x.2.2.2.2.2.2.2.2.1 x.2.2.2.2.2.2.2.2.2.1) (fun z => (((), z.1, ()), (z.2.1, z.2.2.1, (), z.2.2.2.1, z.2.2.2.2.1, z.2.2.2.2.2.1, z.2.2.2.2.2.2, ()))) (fun y => (y.1.2.1, y.2.1, y.2.2.1, y.2.2.2.2.1, y.2.2.2.2.2.1, y.2.2.2.2.2.2.1, y.2.2.2.2.2.2.2.1)) (fun _ => rfl)
noncomputable def Z5g : Nat → List Int → List (List Int) → List Int → List (List Int) → Int → Int → Option (List Int)
 | 0, _, _, _, _, _, _ => none
 | k + 1, o1, v0, v1, v12, v13, v14 =>
  if decide (v14 < v13) = true then if (0 : Int) ≤ v14 then if v14 < (↑(List.length v12) : Int) then Option.bind (Z50 k o1 v0 v1 v14 (List.getD v12 (Int.toNat v14) []) (0 : Int) v12 v13 v14) fun z1 => if List.length z1.1 + List.length [z1.2.2.2.1] ≤ (140737488355328 / 8 : Nat) then Z5g k (z1.1 ++ [z1.2.2.2.1]) z1.2.1 z1.2.2.1 z1.2.2.2.2.1 z1.2.2.2.2.2.1 (wrap64 (z1.2.2.2.2.2.2 + 1)) else none else none else none else some o1
noncomputable def Zd7 : Spec := Spec.mk [.ro, O3] [(0, .at (.snap 0 (.slice 3 I6))), (1, .at (.snap 0 I6)), (5, .at (.sl 1)), (12, .at (.snap 0 (.slice 3 I6))), (13, .at (.int .i64)), (14, .at (.int .i64))]
noncomputable def ZuK : Spec := Spec.mk [.ro, O3] [(5, .at (.sl 1))]
noncomputable def Z4y : LoopDef (Tup Z3G × OutD) := .plain Zd7 ZuK (List Int) (fun k x => Z5g k x.1.2.1 x.2.1 x.2.2.1 x.2.2.2.2.1 x.2.2.2.2.2.1 x.2.2.2.2.2.2.1) (fun z => (((), z, ()), ((), ()))) (fun y => (y.1.2.1)) (fun _ => rfl)
noncomputable def Z4X : Nat → List (List Int) → List Int → Option (List Int)
 | 0, _, _ => none
 | k + 1, p0, p1 =>
  Option.bind (Z5g k [] p0 p1 p0 (↑(List.length p0) : Int) (0 : Int)) fun z2 => some z2
noncomputable def Z1W : FnDef := .of Zma Z3G (List Int) (fun k x => Z4X k x.1 x.2.1) ZjQ Zkc Zss
noncomputable def Z6U : Code := Try.f35.body.getD .skip
noncomputable def Z13 : Ctx (Tup Z3G × OutD) := { T := T, G := [], mvs := [], no := 0, n := 53, res := resOf T Zma Z3G Try.f35.results.toList, loops := [(4, Z4p.E), (2, Z4C.E), (0, Z4y.E)], regs := [], conds := [], cuts := [] }
theorem Zci (k : Nat) : EnvOK Try.prog k Z13.G := (EnvOK.nil mixed)
noncomputable def Z9S : Code := (findLoop 4 Z6U).getD .skip
theorem Zu4 (k : Nat) (x : Zd6.D) : Z4p.lp (k + 1) x = loopK Z13 Z4p 4 Z9S k x := by kernel_rfl
theorem Zu3 (k : Nat) : LOK Try.prog Z13 k Z9S := LOK.by [] (by kernel_rfl) AllOK.nil
theorem ZtK (x : Zd6.D) : Z4p.lp 0 x = none := by kernel_rfl
theorem ZsM (k : Nat) : EOK Try.prog Z13 k Z4p.E (.block 4 (.loop Z9S)) := Z4 T_ok Zci ZtK Zu4 Zu3 k
noncomputable def Z9P : Code := (findLoop 2 Z6U).getD .skip
theorem Zv8 (k : Nat) (x : Zdc.D) : Z4C.lp (k + 1) x = loopK Z13 Z4C 2 Z9P k x := by kernel_rfl
theorem Zuf (k : Nat) : LOK Try.prog Z13 k Z9P := LOK.by [(Z4p.E, .block 4 (.loop Z9S))] (by kernel_rfl) (AllOK.cons (ZsM k) AllOK.nil)
theorem ZuX (x : Zdc.D) : Z4C.lp 0 x = none := by kernel_rfl
theorem ZrF (k : Nat) : EOK Try.prog Z13 k Z4C.E (.block 2 (.loop Z9P)) := Z4 T_ok Zci ZuX Zv8 Zuf k
noncomputable def Z9L : Code := (findLoop 0 Z6U).getD .skip
theorem Zuk (k : Nat) (x : Zd7.D) : Z4y.lp (k + 1) x = loopK Z13 Z4y 0 Z9L k x := by kernel_rfl
theorem Zv0 (k : Nat) : LOK Try.prog Z13 k Z9L := LOK.by [(Z4C.E, .block 2 (.loop Z9P))] (by kernel_rfl) (AllOK.cons (ZrF k) AllOK.nil)
theorem Zub (x : Zd7.D) : Z4y.lp 0 x = none := by kernel_rfl
theorem Zsh (k : Nat) : EOK Try.prog Z13 k Z4y.E (.block 0 (.loop Z9L)) := Z4 T_ok Zci Zub Zuk Zv0 k
theorem ZzU (k : Nat) (x : Tup Z1W.ps) : Z1W.f (k + 1) x = fnK Z1W Z13 Z6U k x := by kernel_rfl
theorem ZAR (x : Tup Z1W.ps) : Z1W.f 0 x = none := by kernel_rfl
theorem ZzZ (k : Nat) : LOK Try.prog Z13 k Z6U := LOK.by [(Z4y.E, .block 0 (.loop Z9L))] (by kernel_rfl) (AllOK.cons (Zsh k) AllOK.nil)
theorem ZfY (k : Nat) : SoundAt Try.prog k 35 Z1W.E := @Z5 Try.prog Z1W Z13 35 Try.f35 Z6U (by kernel_rfl) (by kernel_rfl) (by kernel_rfl) Try.func35 (by kernel_rfl) (by kernel_rfl) (by kernel_rfl) T_ok Zci ZzZ ZAR ZzU k
noncomputable def Z83 : List PK := [PK.mk (.slice 3 I6) false none false none]
noncomputable def ZnH : List PK := [PK.mk I6 false none false none, PK.mk I6 false none false none]
noncomputable def ZmJ (r : List Int) : Tup Z83 × OutD := ((r, ()), none)
noncomputable def Zmr : Tup Z83 × OutD → Option (List Int)
 | (a, none) => some (a.1)
 | _ => none
theorem Zv5 : ∀ b r, Zmr b = some r → ZmJ r = b := by
 rintro ⟨a, _ | _⟩ r h <;> cases h; rfl
noncomputable def Z4h : Nat → List Int → Int → Int → Int → Option (List Int)
 | 0, _, _, _, _ => none
 | k + 1, o1, v0, v1, v6 =>
  if decide (v6 < v1) = true then if IntKind.wrap IntKind.u64 v6 < 0 then none else if decide (bits BinOp.and IntKind.i64 (Int.fdiv v0 ((2 : Int) ^ min (Int.toNat (IntKind.wrap IntKind.u64 v6)) (IntKind.bits IntKind.i64))) (1 : Int) = 1) = true then if List.length o1 + List.length [v6] ≤ (140737488355328 / 8 : Nat) then Z4h k (o1 ++ [v6]) v0 v1 (wrap64 (v6 + 1)) else none else Z4h k o1 v0 v1 (wrap64 (v6 + 1)) else some o1
noncomputable def ZdZ : Spec := Spec.mk [.ro, O3] [(0, .at (.int .i64)), (1, .at (.int .i64)), (5, .at (.sl 1)), (6, .at (.int .i64))]
noncomputable def ZvZ : Spec := Spec.mk [.ro, O3] [(5, .at (.sl 1))]
noncomputable def Z52 : LoopDef (Tup Z83 × OutD) := .plain ZdZ ZvZ (List Int) (fun k x => Z4h k x.1.2.1 x.2.1 x.2.2.1 x.2.2.2.2.1) (fun z => (((), z, ()), ((), ()))) (fun y => (y.1.2.1)) (fun _ => rfl)
noncomputable def ZaN : Nat → Int → Int → Option (List Int)
 | 0, _, _ => none
 | k + 1, p0, p1 =>
  Option.bind (Z4h k [] p0 p1 (0 : Int)) fun z0 => some z0
noncomputable def Z3o : FnDef := .of ZnH Z83 (List Int) (fun k x => ZaN k x.1 x.2.1) ZmJ Zmr Zv5
noncomputable def Zdw : Code := Try.f36.body.getD .skip
noncomputable def Z5J : Ctx (Tup Z83 × OutD) := { T := T, G := [], mvs := [], no := 0, n := 23, res := resOf T ZnH Z83 Try.f36.results.toList, loops := [(0, Z52.E)], regs := [], conds := [], cuts := [] }
theorem ZnO (k : Nat) : EnvOK Try.prog k Z5J.G := (EnvOK.nil mixed)
noncomputable def ZaI : Code := (findLoop 0 Zdw).getD .skip
theorem Zw5 (k : Nat) (x : ZdZ.D) : Z52.lp (k + 1) x = loopK Z5J Z52 0 ZaI k x := by kernel_rfl
theorem ZvT (k : Nat) : LOK Try.prog Z5J k ZaI := LOK.by [] (by kernel_rfl) AllOK.nil
theorem Zx0 (x : ZdZ.D) : Z52.lp 0 x = none := by kernel_rfl
theorem Zup (k : Nat) : EOK Try.prog Z5J k Z52.E (.block 0 (.loop ZaI)) := Z4 T_ok ZnO Zx0 Zw5 ZvT k
theorem ZCc (k : Nat) (x : Tup Z3o.ps) : Z3o.f (k + 1) x = fnK Z3o Z5J Zdw k x := by kernel_rfl
theorem ZBR (x : Tup Z3o.ps) : Z3o.f 0 x = none := by kernel_rfl
theorem ZC5 (k : Nat) : LOK Try.prog Z5J k Zdw := LOK.by [(Z52.E, .block 0 (.loop ZaI))] (by kernel_rfl) (AllOK.cons (Zup k) AllOK.nil)
theorem Zoj (k : Nat) : SoundAt Try.prog k 36 Z3o.E := @Z5 Try.prog Z3o Z5J 36 Try.f36 Zdw (by kernel_rfl) (by kernel_rfl) (by kernel_rfl) Try.func36 (by kernel_rfl) (by kernel_rfl) (by kernel_rfl) T_ok ZnO ZC5 ZBR ZCc k
noncomputable def Z84 : List PK := [PK.mk .bool false none false none]
noncomputable def Zob : List PK := [PK.mk (.slice 3 I6) false none false none, PK.mk (.slice 3 I6) false none false none]
noncomputable def Zg2 (r : Bool) : Tup Z84 × OutD := ((r, ()), none)
noncomputable def ZfU : Tup Z84 × OutD → Option (Bool)
 | (a, none) => some (a.1)
 | _ => none
theorem ZhZ : ∀ b r, ZfU b = some r → Zg2 r = b := by
 rintro ⟨a, _ | _⟩ r h <;> cases h; rfl
noncomputable def Z62 : Nat → List Int → List Int → Int → Int → Option (LR Unit Bool)
 | 0, _, _, _, _ => none
 | k + 1, v1, v17, v18, v19 =>
  if decide (v19 < v18) = true then if (0 : Int) ≤ v19 then if v19 < (↑(List.length v17) : Int) then if (0 : Int) ≤ v19 then if v19 < (↑(List.length v1) : Int) then if decide (List.getD v17 (Int.toNat v19) (0 : Int) ≠ List.getD v1 (Int.toNat v19) (0 : Int)) = true then if (0 : Int) ≤ v19 then if v19 < (↑(List.length v1) : Int) then some (LR.ret (decide (List.getD v17 (Int.toNat v19) (0 : Int) < List.getD v1 (Int.toNat v19) (0 : Int)))) else none else none else Z62 k v1 v17 v18 (wrap64 (v19 + 1)) else none else none else none else none else some (LR.go ())
noncomputable def ZdN : Spec := Spec.mk [.ro] [(1, .at (.snap 0 I6)), (17, .at (.snap 0 I6)), (18, .at (.int .i64)), (19, .at (.int .i64))]
noncomputable def Zww : Spec := Spec.mk [.ro] []
noncomputable def Z59 : LoopDef (Tup Z84 × OutD) := .rets ZdN Zww (Unit) (Bool) (fun k x => Z62 k x.2.1 x.2.2.1 x.2.2.2.1 x.2.2.2.2.1) (fun z => (((), ()), (()))) (fun y => ()) (fun _ => rfl) Zg2 ZfU ZhZ
noncomputable def ZaA : Nat → List Int → List Int → Option Bool
 | 0, _, _ => none
 | k + 1, p0, p1 =>
  if decide ((↑(List.length p0) : Int) ≠ (↑(List.length p1) : Int)) = true then some (decide ((↑(List.length p0) : Int) < (↑(List.length p1) : Int))) else Option.bind (Z62 k p1 p0 (↑(List.length p0) : Int) (0 : Int)) fun z0 => LR.on z0 (fun y0 => some false) fun r0 => some r0
noncomputable def Z3q : FnDef := .of Zob Z84 (Bool) (fun k x => ZaA k x.1 x.2.1) Zg2 ZfU ZhZ
noncomputable def Zdr : Code := Try.f37.body.getD .skip
noncomputable def Z5H : Ctx (Tup Z84 × OutD) := { T := T, G := [], mvs := [], no := 0, n := 37, res := resOf T Zob Z84 Try.f37.results.toList, loops := [(0, Z59.E)], regs := [], conds := [], cuts := [] }
theorem Zo8 (k : Nat) : EnvOK Try.prog k Z5H.G := (EnvOK.nil mixed)
noncomputable def Zax : Code := (findLoop 0 Zdr).getD .skip
theorem Zvm (k : Nat) (x : ZdN.D) : Z59.lp (k + 1) x = loopK Z5H Z59 0 Zax k x := by kernel_rfl
theorem Zwh (k : Nat) : LOK Try.prog Z5H k Zax := LOK.by [] (by kernel_rfl) AllOK.nil
theorem ZvN (x : ZdN.D) : Z59.lp 0 x = none := by kernel_rfl
theorem ZtO (k : Nat) : EOK Try.prog Z5H k Z59.E (.block 0 (.loop Zax)) := Z4 T_ok Zo8 ZvN Zvm Zwh k
theorem ZBC (k : Nat) (x : Tup Z3q.ps) : Z3q.f (k + 1) x = fnK Z3q Z5H Zdr k x := by kernel_rfl
theorem ZBN (x : Tup Z3q.ps) : Z3q.f 0 x = none := by kernel_rfl
theorem ZAZ (k : Nat) : LOK Try.prog Z5H k Zdr := LOK.by [(Z59.E, .block 0 (.loop Zax))] (by kernel_rfl) (AllOK.cons (ZtO k) AllOK.nil)
theorem Zo3 (k : Nat) : SoundAt Try.prog k 37 Z3q.E := @Z5 Try.prog Z3q Z5H 37 Try.f37 Zdr (by kernel_rfl) (by kernel_rfl) (by kernel_rfl) Try.func37 (by kernel_rfl) (by kernel_rfl) (by kernel_rfl) T_ok Zo8 ZAZ ZBN ZBC k
noncomputable def Zah : List PK := [PK.mk .bool false none false none]
noncomputable def Ztq : List PK := [PK.mk (.slice 3 I6) false none false none, PK.mk (.slice 3 I6) false none false none]
noncomputable def Zi9 (r : Bool) : Tup Zah × OutD := ((r, ()), none)
noncomputable def Zig : Tup Zah × OutD → Option (Bool)
 | (a, none) => some (a.1)
 | _ => none
theorem ZjO : ∀ b r, Zig b = some r → Zi9 r = b := by
 rintro ⟨a, _ | _⟩ r h <;> cases h; rfl
noncomputable def Z7V : Nat → List Int → List Int → Int → Int → Option (LR Unit Bool)
 | 0, _, _, _, _ => none
 | k + 1, v0, v1, v12, v13 =>
  if decide (v13 < v12) = true then if (0 : Int) ≤ v13 then if v13 < (↑(List.length v0) : Int) then if (0 : Int) ≤ v13 then if v13 < (↑(List.length v1) : Int) then if decide (List.getD v0 (Int.toNat v13) (0 : Int) ≠ List.getD v1 (Int.toNat v13) (0 : Int)) = true then some (LR.ret false) else Z7V k v0 v1 v12 (wrap64 (v13 + 1)) else none else none else none else none else some (LR.go ())
noncomputable def ZfQ : Spec := Spec.mk [.ro] [(0, .at (.snap 0 I6)), (1, .at (.snap 0 I6)), (12, .at (.int .i64)), (13, .at (.int .i64))]
noncomputable def Zzx : Spec := Spec.mk [.ro] []
noncomputable def Z6Q : LoopDef (Tup Zah × OutD) := .rets ZfQ Zzx (Unit) (Bool) (fun k x => Z7V k x.2.1 x.2.2.1 x.2.2.2.1 x.2.2.2.2.1) (fun z => (((), ()), (()))) (fun y => ()) (fun _ => rfl) Zi9 Zig ZjO
noncomputable def ZcR : Nat → List Int → List Int → Option Bool
 | 0, _, _ => none
 | k + 1, p0, p1 =>
  if decide ((↑(List.length p0) : Int) ≠ (↑(List.length p1) : Int)) = true then some false else Option.bind (Z7V k p0 p1 (↑(List.length p0) : Int) (0 : Int)) fun z0 => LR.on z0 (fun y0 => some true) fun r0 => some r0
noncomputable def Z4N : FnDef := .of Ztq Zah (Bool) (fun k x => ZcR k x.1 x.2.1) Zi9 Zig ZjO
noncomputable def Zfp : Code := Try.f38.body.getD .skip
noncomputable def Z8o : Ctx (Tup Zah × OutD) := { T := T, G := [], mvs := [], no := 0, n := 26, res := resOf T Ztq Zah Try.f38.results.toList, loops := [(0, Z6Q.E)], regs := [], conds := [], cuts := [] }
theorem Zte (k : Nat) : EnvOK Try.prog k Z8o.G := (EnvOK.nil mixed)
noncomputable def Zc0 : Code := (findLoop 0 Zfp).getD .skip
theorem ZAS (k : Nat) (x : ZfQ.D) : Z6Q.lp (k + 1) x = loopK Z8o Z6Q 0 Zc0 k x := by kernel_rfl
theorem ZAf (k : Nat) : LOK Try.prog Z8o k Zc0 := LOK.by [] (by kernel_rfl) AllOK.nil
theorem ZzN (x : ZfQ.D) : Z6Q.lp 0 x = none := by kernel_rfl
theorem ZyC (k : Nat) : EOK Try.prog Z8o k Z6Q.E (.block 0 (.loop Zc0)) := Z4 T_ok Zte ZzN ZAS ZAf k
theorem ZE5 (k : Nat) (x : Tup Z4N.ps) : Z4N.f (k + 1) x = fnK Z4N Z8o Zfp k x := by kernel_rfl
theorem ZEn (x : Tup Z4N.ps) : Z4N.f 0 x = none := by kernel_rfl
theorem ZEv (k : Nat) : LOK Try.prog Z8o k Zfp := LOK.by [(Z6Q.E, .block 0 (.loop Zc0))] (by kernel_rfl) (AllOK.cons (ZyC k) AllOK.nil)
theorem Zts (k : Nat) : SoundAt Try.prog k 38 Z4N.E := @Z5 Try.prog Z4N Z8o 38 Try.f38 Zfp (by kernel_rfl) (by kernel_rfl) (by kernel_rfl) Try.func38 (by kernel_rfl) (by kernel_rfl) (by kernel_rfl) T_ok Zte ZEv ZEn ZE5 k
noncomputable def Z6W : List PK := [PK.mk (.slice 3 I6) false none false none]
noncomputable def Zln : List PK := [PK.mk (.slice 28 (.slice 3 I6)) false none false none]
noncomputable def Zkg (r : List Int) : Tup Z6W × OutD := ((r, ()), none)
noncomputable def Zk8 : Tup Z6W × OutD → Option (List Int)
 | (a, none) => some (a.1)
 | _ => none
theorem ZrT : ∀ b r, Zk8 b = some r → Zkg r = b := by
 rintro ⟨a, _ | _⟩ r h <;> cases h; rfl
noncomputable def Z5b : Nat → List Int → Int → Int → Option (List Int)
 | 0, _, _, _ => none
 | k + 1, o1, v7, v8 =>
  if decide (v8 < v7) = true then if List.length o1 + List.length [v8] ≤ (140737488355328 / 8 : Nat) then Z5b k (o1 ++ [v8]) v7 (wrap64 (v8 + 1)) else none else some o1
noncomputable def Zde : Spec := Spec.mk [.ro, O3] [(3, .at (.sl 1)), (7, .at (.int .i64)), (8, .at (.int .i64))]
noncomputable def Zv4 : Spec := Spec.mk [.ro, O3] [(3, .at (.sl 1))]
noncomputable def Z4s : LoopDef (Tup Z6W × OutD) := .plain Zde Zv4 (List Int) (fun k x => Z5b k x.1.2.1 x.2.2.1 x.2.2.2.1) (fun z => (((), z, ()), ((), ()))) (fun y => (y.1.2.1)) (fun _ => rfl)
noncomputable def Z1s : Nat → List (List Int) → Option (List Int)
 | 0, _ => none
 | k + 1, p0 =>
  Option.bind (Z5b k [] (↑(List.length p0) : Int) (0 : Int)) fun z0 => some z0
noncomputable def Z1v : FnDef := .of Zln Z6W (List Int) (fun k x => Z1s k x.1) Zkg Zk8 ZrT
noncomputable def Zc9 : Code := Try.f44.body.getD .skip
noncomputable def Z4U : Ctx (Tup Z6W × OutD) := { T := T, G := [], mvs := [], no := 0, n := 17, res := resOf T Zln Z6W Try.f44.results.toList, loops := [(0, Z4s.E)], regs := [], conds := [], cuts := [] }
theorem ZlZ (k : Nat) : EnvOK Try.prog k Z4U.G := (EnvOK.nil mixed)
noncomputable def Z9G : Code := (findLoop 0 Zc9).getD .skip
theorem Zuw (k : Nat) (x : Zde.D) : Z4s.lp (k + 1) x = loopK Z4U Z4s 0 Z9G k x := by kernel_rfl
theorem ZuM (k : Nat) : LOK Try.prog Z4U k Z9G := LOK.by [] (by kernel_rfl) AllOK.nil
theorem Zuz (x : Zde.D) : Z4s.lp 0 x = none := by kernel_rfl
theorem Zso (k : Nat) : EOK Try.prog Z4U k Z4s.E (.block 0 (.loop Z9G)) := Z4 T_ok ZlZ Zuz Zuw ZuM k
theorem Zzh (k : Nat) (x : Tup Z1v.ps) : Z1v.f (k + 1) x = fnK Z1v Z4U Zc9 k x := by kernel_rfl
theorem ZAt (x : Tup Z1v.ps) : Z1v.f 0 x = none := by kernel_rfl
theorem ZA3 (k : Nat) : LOK Try.prog Z4U k Zc9 := LOK.by [(Z4s.E, .block 0 (.loop Z9G))] (by kernel_rfl) (AllOK.cons (Zso k) AllOK.nil)
theorem Zct (k : Nat) : SoundAt Try.prog k 44 Z1v.E := @Z5 Try.prog Z1v Z4U 44 Try.f44 Zc9 (by kernel_rfl) (by kernel_rfl) (by kernel_rfl) Try.func44 (by kernel_rfl) (by kernel_rfl) (by kernel_rfl) T_ok ZlZ ZA3 ZAt Zzh k
noncomputable def Z7d : List PK := [PK.mk (.slice 28 (.slice 3 I6)) false none false none]
noncomputable def ZqZ : List PK := [PK.mk (.slice 3 I6) false none false none]
noncomputable def ZnQ (r : List (List Int)) : Tup Z7d × OutD := ((r, ()), none)
noncomputable def ZnW : Tup Z7d × OutD → Option (List (List Int))
 | (a, none) => some (a.1)
 | _ => none
theorem Zx3 : ∀ b r, ZnW b = some r → ZnQ r = b := by
 rintro ⟨a, _ | _⟩ r h <;> cases h; rfl
noncomputable def Z4T : Nat → List (List Int) → List Int → List Int → Int → Int → Int → List Int → Int → Int → Option (List (List Int) × List Int × List Int × Int × Int)
 | 0, _, _, _, _, _, _, _, _, _ => none
 | k + 1, o1, o2, v0, v4, v9, v10, v13, v14, v15 =>
  if decide (v15 < v14) = true then if (0 : Int) ≤ v15 then if v15 < (↑(List.length v13) : Int) then if decide (List.getD v13 (Int.toNat v15) (0 : Int) = v4) = true then if List.length o2 + List.length [wrap64 (v15 - 1)] ≤ (140737488355328 / 8 : Nat) then Z4T k o1 (o2 ++ [wrap64 (v15 - 1)]) v0 v4 v9 v10 v13 v14 (wrap64 (v15 + 1)) else none else Z4T k o1 o2 v0 v4 v9 v10 v13 v14 (wrap64 (v15 + 1)) else none else none else some (o1, o2, v0, v9, v10)
noncomputable def ZeU : Spec := Spec.mk [.ro, O5, O3] [(0, .at (.snap 0 I6)), (3, .at (.sl 1)), (4, .at (.int .i64)), (5, .at (.sl 2)), (9, .at (.int .i64)), (10, .at (.int .i64)), (13, .at (.snap 0 I6)), (14, .at (.int .i64)), (15, .at (.int .i64))]
noncomputable def Zxr : Spec := Spec.mk [.ro, O5, O3] [(0, .at (.snap 0 I6)), (3, .at (.sl 1)), (5, .at (.sl 2)), (9, .at (.int .i64)), (10, .at (.int .i64))]
noncomputable def Z6b : LoopDef (Tup Z7d × OutD) := .plain ZeU Zxr (List (List Int) × List Int × List Int × Int × Int) (fun k x => Z4T k x.1.2.1 x.1.2.2.1 x.2.1 x.2.2.2.1 x.2.2.2.2.2.1 x.2.2.2.2.2.2.1 x.2.2.2.2.2.2.2.1 x.2.2.2.2.2.2.2.2.1 x.2.2.2.2.2.2.2.2.2.1) (fun z => (((), z.1, z.2.1, ()), (z.2.2.1, (), (), z.2.2.2.1, z.2.2.2.2, ()))) (fun y => (y.1.2.1, y.1.2.2.1, y.2.1, y.2.2.2.2.1, y.2.2.2.2.2.1)) (fun _ => rfl)
noncomputable def Z4W : Nat → List (List Int) → List Int → Int → Int → Option (List (List Int))
 | 0, _, _, _, _ => none
 | k + 1, o1, v0, v9, v10 =>
  if decide (v10 < v9) = true then Option.bind (Z4T k o1 [] v0 v10 v9 v10 v0 (↑(List.length v0) : Int) (0 : Int)) fun z0 => if decide ((↑(List.length z0.2.1) : Int) > 0) = true then if List.length z0.1 + List.length [z0.2.1] ≤ (140737488355328 / 24 : Nat) then Z4W k (z0.1 ++ [z0.2.1]) z0.2.2.1 z0.2.2.2.1 (wrap64 (z0.2.2.2.2 + 1)) else none else Z4W k z0.1 z0.2.2.1 z0.2.2.2.1 (wrap64 (z0.2.2.2.2 + 1)) else some o1
noncomputable def ZeE : Spec := Spec.mk [.ro, O5] [(0, .at (.snap 0 I6)), (3, .at (.sl 1)), (9, .at (.int .i64)), (10, .at (.int .i64))]
noncomputable def Zy4 : Spec := Spec.mk [.ro, O5] [(3, .at (.sl 1))]
noncomputable def Z6d : LoopDef (Tup Z7d × OutD) := .plain ZeE Zy4 (List (List Int)) (fun k x => Z4W k x.1.2.1 x.2.1 x.2.2.2.1 x.2.2.2.2.1) (fun z => (((), z, ()), ((), ()))) (fun y => (y.1.2.1)) (fun _ => rfl)
noncomputable def ZbF : Nat → List Int → Option (List (List Int))
 | 0, _ => none
 | k + 1, p0 =>
  Option.bind (Z4W k [] p0 (↑(List.length p0) : Int) (0 : Int)) fun z1 => some z1
noncomputable def Z3Z : FnDef := .of ZqZ Z7d (List (List Int)) (fun k x => ZbF k x.1) ZnQ ZnW Zx3
noncomputable def ZbT : Code := Try.f55.body.getD .skip
noncomputable def Z2U : Ctx (Tup Z7d × OutD) := { T := T, G := [], mvs := [], no := 0, n := 38, res := resOf T ZqZ Z7d Try.f55.results.toList, loops := [(2, Z6b.E), (0, Z6d.E)], regs := [], conds := [], cuts := [] }
theorem Zih (k : Nat) : EnvOK Try.prog k Z2U.G := (EnvOK.nil mixed)
noncomputable def Zbl : Code := (findLoop 2 ZbT).getD .skip
theorem Zym (k : Nat) (x : ZeU.D) : Z6b.lp (k + 1) x = loopK Z2U Z6b 2 Zbl k x := by kernel_rfl
theorem ZxS (k : Nat) : LOK Try.prog Z2U k Zbl := LOK.by [] (by kernel_rfl) AllOK.nil
theorem ZxF (x : ZeU.D) : Z6b.lp 0 x = none := by kernel_rfl
theorem Zwk (k : Nat) : EOK Try.prog Z2U k Z6b.E (.block 2 (.loop Zbl)) := Z4 T_ok Zih ZxF Zym ZxS k
noncomputable def Zbr : Code := (findLoop 0 ZbT).getD .skip
theorem Zyj (k : Nat) (x : ZeE.D) : Z6d.lp (k + 1) x = loopK Z2U Z6d 0 Zbr k x := by kernel_rfl
theorem Zxw (k : Nat) : LOK Try.prog Z2U k Zbr := LOK.by [(Z6b.E, .block 2 (.loop Zbl))] (by kernel_rfl) (AllOK.cons (Zwk k) AllOK.nil)
theorem Zyv (x : ZeE.D) : Z6d.lp 0 x = none := by kernel_rfl
theorem ZvB (k : Nat) : EOK Try.prog Z2U k Z6d.E (.block 0 (.loop Zbr)) := Z4 T_ok Zih Zyv Zyj Zxw k
theorem ZCQ (k : Nat) (x : Tup Z3Z.ps) : Z3Z.f (k + 1) x = fnK Z3Z Z2U ZbT k x := by kernel_rfl
theorem ZCH (x : Tup Z3Z.ps) : Z3Z.f 0 x = none := by kernel_rfl
theorem ZCI (k : Nat) : LOK Try.prog Z2U k ZbT := LOK.by [(Z6d.E, .block 0 (.loop Zbr))] (by kernel_rfl) (AllOK.cons (ZvB k) AllOK.nil)
theorem Zqf (k : Nat) : SoundAt Try.prog k 55 Z3Z.E := @Z5 Try.prog Z3Z Z2U 55 Try.f55 ZbT (by kernel_rfl) (by kernel_rfl) (by kernel_rfl) Try.func55 (by kernel_rfl) (by kernel_rfl) (by kernel_rfl) T_ok Zih ZCI ZCH ZCQ k
noncomputable def Zan : List PK := [PK.mk I6 false none false none]
noncomputable def Zt0 : List PK := [PK.mk (.slice 94 T6) false none false none, PK.mk (.slice 94 T6) false none false none]
noncomputable def Zi8 (r : Int) : Tup Zan × OutD := ((r, ()), none)
noncomputable def Zi5 : Tup Zan × OutD → Option (Int)
 | (a, none) => some (a.1)
 | _ => none
theorem ZjS : ∀ b r, Zi5 b = some r → Zi8 r = b := by
 rintro ⟨a, _ | _⟩ r h <;> cases h; rfl
noncomputable def Z7Z : Nat → List (Int × Int × Int) → List (Int × Int × Int) → Int → Int → Option (LR Unit Int)
 | 0, _, _, _, _ => none
 | k + 1, v1, v7, v8, v9 =>
  if decide (v9 < v8) = true then if (0 : Int) ≤ v9 then if v9 < (↑(List.length v7) : Int) then if (0 : Int) ≤ v9 then if v9 < (↑(List.length v1) : Int) then if (!(decide (Prod.fst (List.getD v7 (Int.toNat v9) ((0 : Int), (0 : Int), (0 : Int))) = Prod.fst (List.getD v1 (Int.toNat v9) ((0 : Int), (0 : Int), (0 : Int)))) && (decide (Prod.fst (Prod.snd (List.getD v7 (Int.toNat v9) ((0 : Int), (0 : Int), (0 : Int)))) = Prod.fst (Prod.snd (List.getD v1 (Int.toNat v9) ((0 : Int), (0 : Int), (0 : Int))))) && (decide (Prod.snd (Prod.snd (List.getD v7 (Int.toNat v9) ((0 : Int), (0 : Int), (0 : Int)))) = Prod.snd (Prod.snd (List.getD v1 (Int.toNat v9) ((0 : Int), (0 : Int), (0 : Int))))) && true)))) = true then some (LR.ret v9) else Z7Z k v1 v7 v8 (wrap64 (v9 + 1)) else none else none else none else none else some (LR.go ())
noncomputable def ZfX : Spec := Spec.mk [.ro] [(1, .at (.snap 0 T6)), (7, .at (.snap 0 T6)), (8, .at (.int .i64)), (9, .at (.int .i64))]
noncomputable def ZAj : Spec := Spec.mk [.ro] []
noncomputable def Z76 : LoopDef (Tup Zan × OutD) := .rets ZfX ZAj (Unit) (Int) (fun k x => Z7Z k x.2.1 x.2.2.1 x.2.2.2.1 x.2.2.2.2.1) (fun z => (((), ()), (()))) (fun y => ()) (fun _ => rfl) Zi8 Zi5 ZjS
noncomputable def ZfF : Nat → List (Int × Int × Int) → List (Int × Int × Int) → Option Int
 | 0, _, _ => none
 | k + 1, p0, p1 =>
  Option.bind (Z7Z k p1 p0 (↑(List.length p0) : Int) (0 : Int)) fun z0 => LR.on z0 (fun y0 => some (-1 : Int)) fun r0 => some r0
noncomputable def Z6u : FnDef := .of Zt0 Zan (Int) (fun k x => ZfF k x.1 x.2.1) Zi8 Zi5 ZjS
noncomputable def Zfr : Code := Try.f59.body.getD .skip
noncomputable def Z8q : Ctx (Tup Zan × OutD) := { T := T, G := [], mvs := [], no := 0, n := 22, res := resOf T Zt0 Zan Try.f59.results.toList, loops := [(0, Z76.E)], regs := [], conds := [], cuts := [] }
theorem Ztp (k : Nat) : EnvOK Try.prog k Z8q.G := (EnvOK.nil mixed)
noncomputable def Zc1 : Code := (findLoop 0 Zfr).getD .skip
theorem ZA1 (k : Nat) (x : ZfX.D) : Z76.lp (k + 1) x = loopK Z8q Z76 0 Zc1 k x := by kernel_rfl
theorem ZA4 (k : Nat) : LOK Try.prog Z8q k Zc1 := LOK.by [] (by kernel_rfl) AllOK.nil
theorem Zzr (x : ZfX.D) : Z76.lp 0 x = none := by kernel_rfl
theorem ZxX (k : Nat) : EOK Try.prog Z8q k Z76.E (.block 0 (.loop Zc1)) := Z4 T_ok Ztp Zzr ZA1 ZA4 k
theorem ZEG (k : Nat) (x : Tup Z6u.ps) : Z6u.f (k + 1) x = fnK Z6u Z8q Zfr k x := by kernel_rfl
theorem ZDT (x : Tup Z6u.ps) : Z6u.f 0 x = none := by kernel_rfl
theorem ZEg (k : Nat) : LOK Try.prog Z8q k Zfr := LOK.by [(Z76.E, .block 0 (.loop Zc1))] (by kernel_rfl) (AllOK.cons (ZxX k) AllOK.nil)
theorem ZEQ (k : Nat) : SoundAt Try.prog k 59 Z6u.E := @Z5 Try.prog Z6u Z8q 59 Try.f59 Zfr (by kernel_rfl) (by kernel_rfl) (by kernel_rfl) Try.func59 (by kernel_rfl) (by kernel_rfl) (by kernel_rfl) T_ok Ztp ZEg ZDT ZEG k
noncomputable def ZbP : List PK := [PK.mk (.slice 3 I6) false none false none]
noncomputable def Zvo : List PK := [PK.mk (.slice 3 I6) false (some (0, 3, .int .i64)) true none, PK.mk I6 false none false none]
noncomputable def ZtF (r : List Int) : Tup ZbP × OutD := ((r, ()), none)
noncomputable def Zt5 : Tup ZbP × OutD → Option (List Int)
 | (a, none) => some (a.1)
 | _ => none
theorem ZA6 : ∀ b r, Zt5 b = some r → ZtF r = b := by
 rintro ⟨a, _ | _⟩ r h <;> cases h; rfl
noncomputable def Z6S : Nat → List Int → Int → Int → Option (List Int × Int × Int)
 | 0, _, _, _ => none
 | k + 1, o1, v1, v5 =>
  if decide (v5 < (↑(List.length o1) : Int)) = true then if (0 : Int) ≤ v5 then if v5 < (↑(List.length o1) : Int) then if decide (List.getD o1 (Int.toNat v5) (0 : Int) < v1) = true then Z6S k o1 v1 (wrap64 (v5 + 1)) else some (o1, v1, v5) else none else none else some (o1, v1, v5)
noncomputable def ZhA : Spec := Spec.mk [.ro, O3] [(0, .at (.sl 1)), (1, .at (.int .i64)), (5, .at (.int .i64))]
noncomputable def ZCy : Spec := Spec.mk [.ro, O3] [(0, .at (.sl 1)), (1, .at (.int .i64)), (5, .at (.int .i64))]
noncomputable def Z8g : LoopDef (Tup ZbP × OutD) := .plain ZhA ZCy (List Int × Int × Int) (fun k x => Z6S k x.1.2.1 x.2.2.1 x.2.2.2.1) (fun z => (((), z.1, ()), ((), z.2.1, z.2.2, ()))) (fun y => (y.1.2.1, y.2.2.1, y.2.2.2.1)) (fun _ => rfl)
noncomputable def Zh9 : Nat → List Int → Int → Option (List Int)
 | 0, _, _ => none
 | k + 1, p0, p1 =>
  Option.bind (Z6S k p0 p1 (0 : Int)) fun z0 => if decide (z0.2.2 < (↑(List.length z0.1) : Int)) = true then if (0 : Int) ≤ z0.2.2 then if z0.2.2 < (↑(List.length z0.1) : Int) then if decide (List.getD z0.1 (Int.toNat z0.2.2) (0 : Int) = z0.2.1) = true then some z0.1 else if (0 : Int) ≤ z0.2.2 then if z0.2.2 ≤ (↑(List.length z0.1) : Int) then if (0 : Nat) + List.length (List.take (Int.toNat z0.2.2 - Int.toNat (0 : Int)) (List.drop (Int.toNat (0 : Int)) z0.1)) ≤ (140737488355328 / 8 : Nat) then if List.length (List.take (Int.toNat z0.2.2 - Int.toNat (0 : Int)) (List.drop (Int.toNat (0 : Int)) z0.1)) + List.length [z0.2.1] ≤ (140737488355328 / 8 : Nat) then if (0 : Int) ≤ z0.2.2 then if z0.2.2 ≤ (↑(List.length z0.1) : Int) then if (↑(List.length z0.1) : Int) ≤ (↑(List.length z0.1) : Int) then if List.length (List.take (Int.toNat z0.2.2 - Int.toNat (0 : Int)) (List.drop (Int.toNat (0 : Int)) z0.1) ++ [z0.2.1]) + List.length (List.take (Int.toNat (↑(List.length z0.1) : Int) - Int.toNat z0.2.2) (List.drop (Int.toNat z0.2.2) z0.1)) ≤ (140737488355328 / 8 : Nat) then some (List.take (Int.toNat z0.2.2 - Int.toNat (0 : Int)) (List.drop (Int.toNat (0 : Int)) z0.1) ++ [z0.2.1] ++ List.take (Int.toNat (↑(List.length z0.1) : Int) - Int.toNat z0.2.2) (List.drop (Int.toNat z0.2.2) z0.1)) else none else none else none else none else none else none else none else none else none else none else if (0 : Int) ≤ z0.2.2 then if z0.2.2 ≤ (↑(List.length z0.1) : Int) then if (0 : Nat) + List.length (List.take (Int.toNat z0.2.2 - Int.toNat (0 : Int)) (List.drop (Int.toNat (0 : Int)) z0.1)) ≤ (140737488355328 / 8 : Nat) then if List.length (List.take (Int.toNat z0.2.2 - Int.toNat (0 : Int)) (List.drop (Int.toNat (0 : Int)) z0.1)) + List.length [z0.2.1] ≤ (140737488355328 / 8 : Nat) then if (0 : Int) ≤ z0.2.2 then if z0.2.2 ≤ (↑(List.length z0.1) : Int) then if (↑(List.length z0.1) : Int) ≤ (↑(List.length z0.1) : Int) then if List.length (List.take (Int.toNat z0.2.2 - Int.toNat (0 : Int)) (List.drop (Int.toNat (0 : Int)) z0.1) ++ [z0.2.1]) + List.length (List.take (Int.toNat (↑(List.length z0.1) : Int) - Int.toNat z0.2.2) (List.drop (Int.toNat z0.2.2) z0.1)) ≤ (140737488355328 / 8 : Nat) then some (List.take (Int.toNat z0.2.2 - Int.toNat (0 : Int)) (List.drop (Int.toNat (0 : Int)) z0.1) ++ [z0.2.1] ++ List.take (Int.toNat (↑(List.length z0.1) : Int) - Int.toNat z0.2.2) (List.drop (Int.toNat z0.2.2) z0.1)) else none else none else none else none else none else none else none else none
noncomputable def Z7E : FnDef := .of Zvo ZbP (List Int) (fun k x => Zh9 k x.1 x.2.1) ZtF Zt5 ZA6
noncomputable def ZgP : Code := Try.f68.body.getD .skip
noncomputable def Z9j : Ctx (Tup ZbP × OutD) := { T := T, G := [], mvs := [], no := 1, n := 48, res := resOf T Zvo ZbP Try.f68.results.toList, loops := [(0, Z8g.E)], regs := [], conds := [], cuts := [] }
theorem ZvM (k : Nat) : EnvOK Try.prog k Z9j.G := (EnvOK.nil mixed)
noncomputable def Zdk : Code := (findLoop 0 ZgP).getD .skip
theorem ZCq (k : Nat) (x : ZhA.D) : Z8g.lp (k + 1) x = loopK Z9j Z8g 0 Zdk k x := by kernel_rfl
theorem ZBK (k : Nat) : LOK Try.prog Z9j k Zdk := LOK.by [] (by kernel_rfl) AllOK.nil
theorem ZBS (x : ZhA.D) : Z8g.lp 0 x = none := by kernel_rfl
theorem ZzM (k : Nat) : EOK Try.prog Z9j k Z8g.E (.block 0 (.loop Zdk)) := Z4 T_ok ZvM ZBS ZCq ZBK k
theorem ZFL (k : Nat) (x : Tup Z7E.ps) : Z7E.f (k + 1) x = fnK Z7E Z9j ZgP k x := by kernel_rfl
theorem ZFo (x : Tup Z7E.ps) : Z7E.f 0 x = none := by kernel_rfl
theorem ZG2 (k : Nat) : LOK Try.prog Z9j k ZgP := LOK.by [(Z8g.E, .block 0 (.loop Zdk))] (by kernel_rfl) (AllOK.cons (ZzM k) AllOK.nil)
theorem ZG0 (k : Nat) : SoundAt Try.prog k 68 Z7E.E := @Z5 Try.prog Z7E Z9j 68 Try.f68 ZgP (by kernel_rfl) (by kernel_rfl) (by kernel_rfl) Try.func68 (by kernel_rfl) (by kernel_rfl) (by kernel_rfl) T_ok ZvM ZG2 ZFo ZFL k
noncomputable def ZcU : List PK := [PK.mk I6 false none false none]
noncomputable def Ztu : List PK := [PK.mk I6 false none false none, PK.mk I6 false none false none]
noncomputable def Zq0 (r : Int) : Tup ZcU × OutD := ((r, ()), none)
noncomputable def Zr2 : Tup ZcU × OutD → Option (Int)
 | (a, none) => some (a.1)
 | _ => none
theorem Zy0 : ∀ b r, Zr2 b = some r → Zq0 r = b := by
 rintro ⟨a, _ | _⟩ r h <;> cases h; rfl
noncomputable def Z4R : Nat → Int → Int → Option Int
 | 0, _, _ => none
 | k + 1, p0, p1 =>
  if decide (p0 > p1) = true then some p0 else some p1
noncomputable def Z4O : FnDef := .of Ztu ZcU (Int) (fun k x => Z4R k x.1 x.2.1) Zq0 Zr2 Zy0
noncomputable def Zjg : Code := Try.f70.body.getD .skip
noncomputable def Zfm : Ctx (Tup ZcU × OutD) := { T := T, G := [], mvs := [], no := 0, n := 10, res := resOf T Ztu ZcU Try.f70.results.toList, loops := [], regs := [], conds := [], cuts := [] }
theorem ZE8 (k : Nat) : EnvOK Try.prog k Zfm.G := (EnvOK.nil mixed)
theorem ZDQ (k : Nat) (x : Tup Z4O.ps) : Z4O.f (k + 1) x = fnK Z4O Zfm Zjg k x := by kernel_rfl
theorem ZER (x : Tup Z4O.ps) : Z4O.f 0 x = none := by kernel_rfl
theorem ZEl (k : Nat) : LOK Try.prog Zfm k Zjg := LOK.by [] (by kernel_rfl) AllOK.nil
theorem Ztm (k : Nat) : SoundAt Try.prog k 70 Z4O.E := @Z5 Try.prog Z4O Zfm 70 Try.f70 Zjg (by kernel_rfl) (by kernel_rfl) (by kernel_rfl) Try.func70 (by kernel_rfl) (by kernel_rfl) (by kernel_rfl) T_ok ZE8 ZEl ZER ZDQ k
noncomputable def ZT : List PK := [PK.mk .bool false none false none]
noncomputable def Z8D : List PK := [PK.mk (.slice 94 T6) false none false none, PK.mk (.slice 94 T6) false none false none]
noncomputable def Z3Y (r : Bool) : Tup ZT × OutD := ((r, ()), none)
noncomputable def Z3W : Tup ZT × OutD → Option (Bool)
 | (a, none) => some (a.1)
 | _ => none
theorem Z6I : ∀ b r, Z3W b = some r → Z3Y r = b := by
 rintro ⟨a, _ | _⟩ r h <;> cases h; rfl
noncomputable def ZG : Nat → List (Int × Int × Int) → List (Int × Int × Int) → Int → Int → Option (LR Unit Bool)
 | 0, _, _, _, _ => none
 | k + 1, v0, v1, v12, v13 =>
  if decide (v13 < v12) = true then if (0 : Int) ≤ v13 then if v13 < (↑(List.length v0) : Int) then if (0 : Int) ≤ v13 then if v13 < (↑(List.length v1) : Int) then if (!(decide (Prod.fst (List.getD v0 (Int.toNat v13) ((0 : Int), (0 : Int), (0 : Int))) = Prod.fst (List.getD v1 (Int.toNat v13) ((0 : Int), (0 : Int), (0 : Int)))) && (decide (Prod.fst (Prod.snd (List.getD v0 (Int.toNat v13) ((0 : Int), (0 : Int), (0 : Int)))) = Prod.fst (Prod.snd (List.getD v1 (Int.toNat v13) ((0 : Int), (0 : Int), (0 : Int))))) && (decide (Prod.snd (Prod.snd (List.getD v0 (Int.toNat v13) ((0 : Int), (0 : Int), (0 : Int)))) = Prod.snd (Prod.snd (List.getD v1 (Int.toNat v13) ((0 : Int), (0 : Int), (0 : Int))))) && true)))) = true then some (LR.ret false) else ZG k v0 v1 v12 (wrap64 (v13 + 1)) else none else none else none else none else some (LR.go ())
noncomputable def Z3s : Spec := Spec.mk [.ro] [(0, .at (.snap 0 T6)), (1, .at (.snap 0 T6)), (12, .at (.int .i64)), (13, .at (.int .i64))]
noncomputable def ZdD : Spec := Spec.mk [.ro] []
noncomputable def ZB : LoopDef (Tup ZT × OutD) := .rets Z3s ZdD (Unit) (Bool) (fun k x => ZG k x.2.1 x.2.2.1 x.2.2.2.1 x.2.2.2.2.1) (fun z => (((), ()), (()))) (fun y => ()) (fun _ => rfl) Z3Y Z3W Z6I
noncomputable def Z2i : Nat → List (Int × Int × Int) → List (Int × Int × Int) → Option Bool
 | 0, _, _ => none
 | k + 1, p0, p1 =>
  if decide ((↑(List.length p0) : Int) ≠ (↑(List.length p1) : Int)) = true then some false else Option.bind (ZG k p0 p1 (↑(List.length p0) : Int) (0 : Int)) fun z0 => LR.on z0 (fun y0 => some true) fun r0 => some r0
noncomputable def Zh : FnDef := .of Z8D ZT (Bool) (fun k x => Z2i k x.1 x.2.1) Z3Y Z3W Z6I
noncomputable def Z2l : Code := Try.f78.body.getD .skip
noncomputable def Zu : Ctx (Tup ZT × OutD) := { T := T, G := [], mvs := [], no := 0, n := 26, res := resOf T Z8D ZT Try.f78.results.toList, loops := [(0, ZB.E)], regs := [], conds := [], cuts := [] }
theorem Z8z (k : Nat) : EnvOK Try.prog k Zu.G := (EnvOK.nil mixed)
noncomputable def Z1K : Code := (findLoop 0 Z2l).getD .skip
theorem ZdA (k : Nat) (x : Z3s.D) : ZB.lp (k + 1) x = loopK Zu ZB 0 Z1K k x := by kernel_rfl
theorem ZdB (k : Nat) : LOK Try.prog Zu k Z1K := LOK.by [] (by kernel_rfl) AllOK.nil
theorem ZdC (x : Z3s.D) : ZB.lp 0 x = none := by kernel_rfl
theorem Zdf (k : Nat) : EOK Try.prog Zu k ZB.E (.block 0 (.loop Z1K)) := Z4 T_ok Z8z ZdC ZdA ZdB k
theorem ZeN (k : Nat) (x : Tup Zh.ps) : Zh.f (k + 1) x = fnK Zh Zu Z2l k x := by kernel_rfl
theorem Zez (x : Tup Zh.ps) : Zh.f 0 x = none := by kernel_rfl
theorem ZeL (k : Nat) : LOK Try.prog Zu k Z2l := LOK.by [(ZB.E, .block 0 (.loop Z1K))] (by kernel_rfl) (AllOK.cons (Zdf k) AllOK.nil)
theorem ZeM (k : Nat) : SoundAt Try.prog k 78 Zh.E := @Z5 Try.prog Zh Zu 78 Try.f78 Z2l (by kernel_rfl) (by kernel_rfl) (by kernel_rfl) Try.func78 (by kernel_rfl) (by kernel_rfl) (by kernel_rfl) T_ok Z8z ZeL Zez ZeN k
noncomputable def Zff : List PK := [PK.mk .bool false none false none]
noncomputable def ZyT : List PK := [PK.mk I6 false none false none, PK.mk I6 false none false none, PK.mk I6 false none false none]
noncomputable def Zwi (r : Bool) : Tup Zff × OutD := ((r, ()), none)
noncomputable def Zwc : Tup Zff × OutD → Option (Bool)
 | (a, none) => some (a.1)
 | _ => none
theorem ZBE : ∀ b r, Zwc b = some r → Zwi r = b := by
 rintro ⟨a, _ | _⟩ r h <;> cases h; rfl
noncomputable def Z92 : Nat → Int → Int → Int → Option Bool
 | 0, _, _, _ => none
 | k + 1, p0, p1, p2 =>
  if decide (p0 ≥ p1) = true then some (decide (p0 ≤ p2)) else some false
noncomputable def Z4E : FnDef := .of ZyT Zff (Bool) (fun k x => Z92 k x.1 x.2.1 x.2.2.1) Zwi Zwc ZBE
noncomputable def Zp0 : Code := Try.f85.body.getD .skip
noncomputable def Zis : Ctx (Tup Zff × OutD) := { T := T, G := [], mvs := [], no := 0, n := 15, res := resOf T ZyT Zff Try.f85.results.toList, loops := [], regs := [], conds := [], cuts := [] }
theorem ZH4 (k : Nat) : EnvOK Try.prog k Zis.G := (EnvOK.nil mixed)
theorem ZGn (k : Nat) (x : Tup Z4E.ps) : Z4E.f (k + 1) x = fnK Z4E Zis Zp0 k x := by kernel_rfl
theorem ZGH (x : Tup Z4E.ps) : Z4E.f 0 x = none := by kernel_rfl
theorem ZGj (k : Nat) : LOK Try.prog Zis k Zp0 := LOK.by [] (by kernel_rfl) AllOK.nil
theorem Zin (k : Nat) : SoundAt Try.prog k 85 Z4E.E := @Z5 Try.prog Z4E Zis 85 Try.f85 Zp0 (by kernel_rfl) (by kernel_rfl) (by kernel_rfl) Try.func85 (by kernel_rfl) (by kernel_rfl) (by kernel_rfl) T_ok ZH4 ZGj ZGH ZGn k
noncomputable def ZcL : List PK := [PK.mk .bool false none false none]
noncomputable def Zt4 : List PK := [PK.mk P6 true none false none]
noncomputable def Zr4 (r : Bool) : Tup ZcL × OutD := ((r, ()), none)
noncomputable def Zre : Tup ZcL × OutD → Option (Bool)
 | (a, none) => some (a.1)
 | _ => none
theorem ZyP : ∀ b r, Zre b = some r → Zr4 r = b := by
 rintro ⟨a, _ | _⟩ r h <;> cases h; rfl
noncomputable def Zag : Nat → Int × Int → Option Bool
 | 0, _ => none
 | k + 1, p0 =>
  if decide (p0.1 < (0 : Int)) = true then some false else if decide (p0.1 > (7 : Int)) = true then some false else if decide (p0.2 < (0 : Int)) = true then some false else if decide (p0.2 > (1 : Int)) = true then some false else if decide (p0.2 = (0 : Int)) = true then some true else if decide (p0.1 = (3 : Int)) = true then some true else some (decide (p0.1 = (6 : Int)))
noncomputable def Z3Q : FnDef := .of Zt4 ZcL (Bool) (fun k x => Zag k x.1) Zr4 Zre ZyP
noncomputable def Zjx : Code := Try.f89.body.getD .skip
noncomputable def ZfC : Ctx (Tup ZcL × OutD) := { T := T, G := [], mvs := [], no := 0, n := 34, res := resOf T Zt4 ZcL Try.f89.results.toList, loops := [], regs := [], conds := [], cuts := [] }
theorem ZEU (k : Nat) : EnvOK Try.prog k ZfC.G := (EnvOK.nil mixed)
theorem ZET (k : Nat) (x : Tup Z3Q.ps) : Z3Q.f (k + 1) x = fnK Z3Q ZfC Zjx k x := by kernel_rfl
theorem ZEF (x : Tup Z3Q.ps) : Z3Q.f 0 x = none := by kernel_rfl
theorem ZEd (k : Nat) : LOK Try.prog ZfC k Zjx := LOK.by [] (by kernel_rfl) AllOK.nil
theorem Zj7 (k : Nat) : SoundAt Try.prog k 89 Z3Q.E := @Z5 Try.prog Z3Q ZfC 89 Try.f89 Zjx (by kernel_rfl) (by kernel_rfl) (by kernel_rfl) Try.func89 (by kernel_rfl) (by kernel_rfl) (by kernel_rfl) T_ok ZEU ZEd ZEF ZET k
noncomputable def Z7f : List PK := [PK.mk (.pair I6 (.pair I6 (.slice 73 P6))) true none false none]
noncomputable def Zli : List PK := [PK.mk (.pair I6 (.pair I6 (.slice 73 P6))) true none false none]
noncomputable def Zk2 (r : Int × Int × List (Int × Int)) : Tup Z7f × OutD := ((r, ()), none)
noncomputable def ZjV : Tup Z7f × OutD → Option (Int × Int × List (Int × Int))
 | (a, none) => some (a.1)
 | _ => none
theorem ZsK : ∀ b r, ZjV b = some r → Zk2 r = b := by
 rintro ⟨a, _ | _⟩ r h <;> cases h; rfl
noncomputable def Z4w : Nat → Int → Int → List (Int × Int) → Int → Int → List (Int × Int) → Option (Int × Int × List (Int × Int)) := fun k b1_0 b1_1 b1_2 b2_0 b2_1 o3 =>
    if (0 : Nat) + List.length b1_2 ≤ (140737488355328 / 16 : Nat) then some (b1_0, b1_1, b1_2) else none
noncomputable def Z8S : Nat → Int → Int → List (Int × Int) → Int → Int → List (Int × Int) → Option (List (Int × Int × List (Int × Int))) := fun k b1_0 b1_1 b1_2 b2_0 b2_1 o3 =>
    joinL (joinL (if (0 : Nat) + List.length b1_2 ≤ (140737488355328 / 16 : Nat) then some [(b1_0, b1_1, b1_2)] else none) (joinL (if (0 : Nat) + List.length b1_2 ≤ (140737488355328 / 16 : Nat) then some [(b1_0, b1_1, b1_2)] else none) (if (0 : Nat) + List.length b1_2 ≤ (140737488355328 / 16 : Nat) then some [(b1_0, b1_1, b1_2)] else none))) (joinL (joinL (if (0 : Nat) + List.length b1_2 ≤ (140737488355328 / 16 : Nat) then some [(b1_0, b1_1, b1_2)] else none) (joinL (if (0 : Nat) + List.length b1_2 ≤ (140737488355328 / 16 : Nat) then some [(b1_0, b1_1, b1_2)] else none) (if (0 : Nat) + List.length b1_2 ≤ (140737488355328 / 16 : Nat) then some [(b1_0, b1_1, b1_2)] else none))) (joinL (joinL (if (0 : Nat) + List.length b1_2 ≤ (140737488355328 / 16 : Nat) then some [(b1_0, b1_1, b1_2)] else none) (if (0 : Nat) + List.length b1_2 ≤ (140737488355328 / 16 : Nat) then some [(b1_0, b1_1, b1_2)] else none)) (joinL (joinL (if (0 : Nat) + List.length b1_2 ≤ (140737488355328 / 16 : Nat) then some [(b1_0, b1_1, b1_2)] else none) (if (0 : Nat) + List.length b1_2 ≤ (140737488355328 / 16 : Nat) then some [(b1_0, b1_1, b1_2)] else none)) (if (0 : Nat) + List.length b1_2 ≤ (140737488355328 / 16 : Nat) then joinL (some [(b1_0, b1_1, b1_2)]) (some [(b1_0, b1_1, b1_2)]) else none))))
noncomputable def ZhC : Spec := Spec.mk [.ro, O1, Oc, O0] [(1, .at (.ptr 1 0)), (2, .at (.ptr 2 0))]
noncomputable def Zs9 : Spec := Spec.mk [.ro, O7, O0] [(2, .at (.ptr 1 0))]
noncomputable def Z3S : LoopDef (Tup Z7f × OutD) := .plain ZhC Zs9 (Int × Int × List (Int × Int)) (fun k x => Z4w k x.1.2.1.1 x.1.2.1.2.1 x.1.2.1.2.2.1 x.1.2.2.1.1 x.1.2.2.1.2.1 x.1.2.2.2.1) (fun z => (((), (z.1, z.2.1, (), ()), z.2.2, ()), ((), ()))) (fun y => (y.1.2.1.1, y.1.2.1.2.1, y.1.2.2.1)) (fun _ => rfl)
theorem ZrD (k : Nat) (b1_0 : Int) (b1_1 : Int) (b1_2 : List (Int × Int)) (b2_0 : Int) (b2_1 : Int) (o3 : List (Int × Int)) : Z8S k b1_0 b1_1 b1_2 b2_0 b2_1 o3 = repl 12 (Z4w k b1_0 b1_1 b1_2 b2_0 b2_1 o3) := by
 first
 | (simp only [Z8S, Z4w, Zy, ZV, Zz, ZA, Zx, Z9, if_true]; done)
 | (simp only [Z8S, Z4w, Zy, ZV, Zz, ZA, Zx, Z9, if_true]; simp only [Z4Q, Z4K, Z8t, Z9]; simp only [Zai]; exact Z6s ⟨fun h => by simp only [h, and_self], fun h => by simp only [h, and_self]⟩)
noncomputable def Zc3 : Nat → Int × Int × List (Int × Int) → Option (Int × Int × List (Int × Int))
 | 0, _ => none
 | k + 1, p0 =>
  Option.bind (Z4w k p0.1 p0.2.1 p0.2.2 (0 : Int) (0 : Int) []) fun z0 => some (z0.1, z0.2.1, z0.2.2)
noncomputable def Z3J : FnDef := .of Zli Z7f (Int × Int × List (Int × Int)) (fun k x => Zc3 k x.1) Zk2 ZjV ZsK
noncomputable def Zcb : Code := Try.f90.body.getD .skip
noncomputable def Z1Y : Ctx (Tup Z7f × OutD) := { T := T, G := [], mvs := [], no := 0, n := 12, res := resOf T Zli Z7f Try.f90.results.toList, loops := [], regs := [(1, Z3S.E)], conds := [], cuts := [] }
theorem Zlx (k : Nat) : EnvOK Try.prog k Z1Y.G := (EnvOK.nil mixed)
noncomputable def Zcd : Array Oper := (findReg 1 Zcb).getD #[]
theorem Zsu (k : Nat) (x : ZhC.D) : execD Z1Y.T Z1Y.G Z1Y.mvs k Zcd (Z3S.inp.st Z1Y.n x) (outK Z1Y Z3S) = Z8S k x.1.2.1.1 x.1.2.1.2.1 x.1.2.1.2.2.1 x.1.2.2.1.1 x.1.2.2.1.2.1 x.1.2.2.2.1 := by kernel_rfl
theorem Zql (k : Nat) : EOK Try.prog Z1Y k Z3S.E (.region 1 Zcd true) := Z8y (D := Z3S) (m := 12) T_ok (Zlx k) (fun x => (Zsu k x).trans (ZrD k x.1.2.1.1 x.1.2.1.2.1 x.1.2.1.2.2.1 x.1.2.2.1.1 x.1.2.2.1.2.1 x.1.2.2.2.1))
theorem ZAl (k : Nat) (x : Tup Z3J.ps) : Z3J.f (k + 1) x = fnK Z3J Z1Y Zcb k x := by kernel_rfl
theorem Zzm (x : Tup Z3J.ps) : Z3J.f 0 x = none := by kernel_rfl
theorem ZAB (k : Nat) : LOK Try.prog Z1Y k Zcb := LOK.by [(Z3S.E, .region 1 Zcd true)] (by kernel_rfl) (AllOK.cons (Zql k) AllOK.nil)
theorem ZA5 (k : Nat) : SoundAt Try.prog k 90 Z3J.E := @Z5 Try.prog Z3J Z1Y 90 Try.f90 Zcb (by kernel_rfl) (by kernel_rfl) (by kernel_rfl) Try.func90 (by kernel_rfl) (by kernel_rfl) (by kernel_rfl) T_ok Zlx ZAB Zzm ZAl k
noncomputable def Z4r : List PK := [PK.mk (.slice 3 I6) false none false none]
noncomputable def ZhW : List PK := [PK.mk (.pair I6 (.pair I6 (.slice 73 P6))) true none false none, PK.mk (.slice 81 T6) false none false none]
noncomputable def ZgM (r : List Int) : Tup Z4r × OutD := ((r, ()), none)
noncomputable def ZgK : Tup Z4r × OutD → Option (List Int)
 | (a, none) => some (a.1)
 | _ => none
theorem Zna : ∀ b r, ZgK b = some r → ZgM r = b := by
 rintro ⟨a, _ | _⟩ r h <;> cases h; rfl
noncomputable def Z3D : Nat → Int → Int → List (Int × Int) → List Int → List (Int × Int × Int) → Int → Int → Option (List Int)
 | 0, _, _, _, _, _, _, _ => none
 | k + 1, b1_0, b1_1, b1_2, o2, v12, v13, v14 =>
  if decide (v14 < v13) = true then if (0 : Int) ≤ v14 then if v14 < (↑(List.length v12) : Int) then if (0 : Int) ≤ wrap64 (wrap64 (Prod.fst (Prod.snd (List.getD v12 (Int.toNat v14) ((0 : Int), (0 : Int), (0 : Int)))) * b1_1) + Prod.snd (Prod.snd (List.getD v12 (Int.toNat v14) ((0 : Int), (0 : Int), (0 : Int))))) then if wrap64 (wrap64 (Prod.fst (Prod.snd (List.getD v12 (Int.toNat v14) ((0 : Int), (0 : Int), (0 : Int)))) * b1_1) + Prod.snd (Prod.snd (List.getD v12 (Int.toNat v14) ((0 : Int), (0 : Int), (0 : Int))))) < (↑(List.length o2) : Int) then Z3D k b1_0 b1_1 b1_2 (List.set o2 (Int.toNat (wrap64 (wrap64 (Prod.fst (Prod.snd (List.getD v12 (Int.toNat v14) ((0 : Int), (0 : Int), (0 : Int)))) * b1_1) + Prod.snd (Prod.snd (List.getD v12 (Int.toNat v14) ((0 : Int), (0 : Int), (0 : Int))))))) (Prod.fst (List.getD v12 (Int.toNat v14) ((0 : Int), (0 : Int), (0 : Int))))) v12 v13 (wrap64 (v14 + 1)) else none else none else none else none else some o2
noncomputable def Zb5 : Spec := Spec.mk [.ro, O1, O3] [(2, .at (.ptr 1 0)), (5, .at (.sl 2)), (12, .at (.snap 0 T6)), (13, .at (.int .i64)), (14, .at (.int .i64))]
noncomputable def Zpq : Spec := Spec.mk [.ro, O3] [(5, .at (.sl 1))]
noncomputable def Z2Z : LoopDef (Tup Z4r × OutD) := .plain Zb5 Zpq (List Int) (fun k x => Z3D k x.1.2.1.1 x.1.2.1.2.1 x.1.2.1.2.2.1 x.1.2.2.1 x.2.2.2.1 x.2.2.2.2.1 x.2.2.2.2.2.1) (fun z => (((), z, ()), ((), ()))) (fun y => (y.1.2.1)) (fun _ => rfl)
noncomputable def Z9V : Nat → Int × Int × List (Int × Int) → List (Int × Int × Int) → Option (List Int)
 | 0, _, _ => none
 | k + 1, p0, p1 =>
  if Int.toNat (↑(List.length p0.2.2) : Int) * (8 : Nat) ≤ (281474976710656 : Nat) then Option.bind (Z3D k p0.1 p0.2.1 p0.2.2 (List.replicate (Int.toNat (↑(List.length p0.2.2) : Int)) (0 : Int)) p1 (↑(List.length p1) : Int) (0 : Int)) fun z0 => some z0 else none
noncomputable def Z28 : FnDef := .of ZhW Z4r (List Int) (fun k x => Z9V k x.1 x.2.1) ZgM ZgK Zna
noncomputable def Z9M : Code := Try.f92.body.getD .skip
noncomputable def Z3j : Ctx (Tup Z4r × OutD) := { T := T, G := [], mvs := [], no := 0, n := 32, res := resOf T ZhW Z4r Try.f92.results.toList, loops := [(0, Z2Z.E)], regs := [], conds := [], cuts := [] }
theorem ZhY (k : Nat) : EnvOK Try.prog k Z3j.G := (EnvOK.nil mixed)
noncomputable def Z7r : Code := (findLoop 0 Z9M).getD .skip
theorem Zpy (k : Nat) (x : Zb5.D) : Z2Z.lp (k + 1) x = loopK Z3j Z2Z 0 Z7r k x := by kernel_rfl
theorem ZoY (k : Nat) : LOK Try.prog Z3j k Z7r := LOK.by [] (by kernel_rfl) AllOK.nil
theorem ZpD (x : Zb5.D) : Z2Z.lp 0 x = none := by kernel_rfl
theorem ZmY (k : Nat) : EOK Try.prog Z3j k Z2Z.E (.block 0 (.loop Z7r)) := Z4 T_ok ZhY ZpD Zpy ZoY k
theorem Zu8 (k : Nat) (x : Tup Z28.ps) : Z28.f (k + 1) x = fnK Z28 Z3j Z9M k x := by kernel_rfl
theorem Zv6 (x : Tup Z28.ps) : Z28.f 0 x = none := by kernel_rfl
theorem ZuD (k : Nat) : LOK Try.prog Z3j k Z9M := LOK.by [(Z2Z.E, .block 0 (.loop Z7r))] (by kernel_rfl) (AllOK.cons (ZmY k) AllOK.nil)
theorem Zu1 (k : Nat) : SoundAt Try.prog k 92 Z28.E := @Z5 Try.prog Z28 Z3j 92 Try.f92 Z9M (by kernel_rfl) (by kernel_rfl) (by kernel_rfl) Try.func92 (by kernel_rfl) (by kernel_rfl) (by kernel_rfl) T_ok ZhY ZuD Zv6 Zu8 k
noncomputable def Z9w : List PK := [PK.mk .bool false none false none]
noncomputable def Zmn : List PK := [PK.mk P6 true none false none]
noncomputable def Zke (r : Bool) : Tup Z9w × OutD := ((r, ()), none)
noncomputable def ZjR : Tup Z9w × OutD → Option (Bool)
 | (a, none) => some (a.1)
 | _ => none
theorem ZrZ : ∀ b r, ZjR b = some r → Zke r = b := by
 rintro ⟨a, _ | _⟩ r h <;> cases h; rfl
noncomputable def Z3K : Nat → Int × Int → Option Bool
 | 0, _ => none
 | k + 1, p0 =>
  if decide (p0.1 = (3 : Int)) = true then some true else some (decide (p0.1 = (6 : Int)))
noncomputable def Z1t : FnDef := .of Zmn Z9w (Bool) (fun k x => Z3K k x.1) Zke ZjR ZrZ
noncomputable def ZfS : Code := Try.f96.body.getD .skip
noncomputable def ZcF : Ctx (Tup Z9w × OutD) := { T := T, G := [], mvs := [], no := 0, n := 11, res := resOf T Zmn Z9w Try.f96.results.toList, loops := [], regs := [], conds := [], cuts := [] }
theorem Zzy (k : Nat) : EnvOK Try.prog k ZcF.G := (EnvOK.nil mixed)
theorem ZA7 (k : Nat) (x : Tup Z1t.ps) : Z1t.f (k + 1) x = fnK Z1t ZcF ZfS k x := by kernel_rfl
theorem ZAs (x : Tup Z1t.ps) : Z1t.f 0 x = none := by kernel_rfl
theorem ZAu (k : Nat) : LOK Try.prog ZcF k ZfS := LOK.by [] (by kernel_rfl) AllOK.nil
theorem ZbY (k : Nat) : SoundAt Try.prog k 96 Z1t.E := @Z5 Try.prog Z1t ZcF 96 Try.f96 ZfS (by kernel_rfl) (by kernel_rfl) (by kernel_rfl) Try.func96 (by kernel_rfl) (by kernel_rfl) (by kernel_rfl) T_ok Zzy ZAu ZAs ZA7 k
noncomputable def Z8C : List PK := [PK.mk I6 false none false none]
noncomputable def ZjL : List PK := [PK.mk (.pair (.slice 5 (.int .u8)) (.pair I6 (.int .u64))) false none false (some 89)]
noncomputable def ZiD (r : Int × Int × Int) : Tup Z8C × OutD := ((r.1, ()), some ⟨Ty.pair (Ty.slice (5 : Nat) (Ty.int .u8)) (Ty.pair (Ty.int .i64) (Ty.int .u64)), [([], r.2)]⟩)
noncomputable def Ze4 : Tup Z8C × OutD → Option (Int × Int × Int)
 | (a, some ⟨u, ys⟩) => if h : u = Ty.pair (Ty.slice (5 : Nat) (Ty.int .u8)) (Ty.pair (Ty.int .i64) (Ty.int .u64)) then (match castU h ys with
  | [([], y)] => some (a.1, y)
  | _ => none) else none
 | _ => none
theorem Zr3 : ∀ b r, Ze4 b = some r → ZiD r = b := by
 rintro ⟨a, o⟩ r h
 cases o with
 | none => cases h
 | some s =>
  obtain ⟨u, ys⟩ := s
  simp only [Ze4] at h
  split at h
  ·rename_i hu
   subst hu
   match ys, h with
   | [], h => cases (show (none : Option _) = some r from h)
   | [([], y)], h => injection (show some _ = some r from h) with h; subst h; rfl
   | [(_ :: _, y)], h => cases (show (none : Option _) = some r from h)
   | (h1, _) :: _ :: _, h => cases h1 <;> cases (show (none : Option _) = some r from h)
  ·cases h
noncomputable def Z5Z : Nat → List Int × Int × Int → Option (Int × Int × Int)
 | 0, _ => none
 | k + 1, p0 =>
  if decide (p0.2.1 < (↑(List.length p0.1) : Int)) = true then if (0 : Int) ≤ p0.2.1 then if p0.2.1 < (↑(List.length p0.1) : Int) then if decide (wrap64 (p0.2.1 + 1) ≤ (↑(List.length p0.1) : Int)) = true then some (wrap64 (List.getD p0.1 (Int.toNat p0.2.1) (0 : Int)), wrap64 (p0.2.1 + 1), IntKind.wrap IntKind.u64 (IntKind.wrap IntKind.u64 (IntKind.wrap IntKind.u64 (p0.2.2 * (6364136223846793005 : Int)) + IntKind.wrap IntKind.u64 (wrap64 (List.getD p0.1 (Int.toNat p0.2.1) (0 : Int)))) + 1442695040888963407)) else some (wrap64 (bits BinOp.and IntKind.u64 (Int.fdiv (IntKind.wrap IntKind.u64 (IntKind.wrap IntKind.u64 (IntKind.wrap IntKind.u64 (p0.2.2 * (6364136223846793005 : Int)) + IntKind.wrap IntKind.u64 (wrap64 (List.getD p0.1 (Int.toNat p0.2.1) (0 : Int)))) + 1442695040888963407)) ((2 : Int) ^ min (Int.toNat (40 : Int)) (IntKind.bits IntKind.u64))) (255 : Int)), wrap64 (p0.2.1 + 1), IntKind.wrap IntKind.u64 (IntKind.wrap IntKind.u64 (IntKind.wrap IntKind.u64 (p0.2.2 * (6364136223846793005 : Int)) + IntKind.wrap IntKind.u64 (wrap64 (List.getD p0.1 (Int.toNat p0.2.1) (0 : Int)))) + 1442695040888963407)) else none else none else if decide (wrap64 (p0.2.1 + 1) ≤ (↑(List.length p0.1) : Int)) = true then some ((0 : Int), wrap64 (p0.2.1 + 1), IntKind.wrap IntKind.u64 (IntKind.wrap IntKind.u64 (IntKind.wrap IntKind.u64 (p0.2.2 * (6364136223846793005 : Int)) + IntKind.wrap IntKind.u64 (0 : Int)) + 1442695040888963407)) else some (wrap64 (bits BinOp.and IntKind.u64 (Int.fdiv (IntKind.wrap IntKind.u64 (IntKind.wrap IntKind.u64 (IntKind.wrap IntKind.u64 (p0.2.2 * (6364136223846793005 : Int)) + IntKind.wrap IntKind.u64 (0 : Int)) + 1442695040888963407)) ((2 : Int) ^ min (Int.toNat (40 : Int)) (IntKind.bits IntKind.u64))) (255 : Int)), wrap64 (p0.2.1 + 1), IntKind.wrap IntKind.u64 (IntKind.wrap IntKind.u64 (IntKind.wrap IntKind.u64 (p0.2.2 * (6364136223846793005 : Int)) + IntKind.wrap IntKind.u64 (0 : Int)) + 1442695040888963407))
noncomputable def Z3b : FnDef := .of ZjL Z8C (Int × Int × Int) (fun k x => Z5Z k x.1) ZiD Ze4 Zr3
noncomputable def ZeK : Code := Try.f97.body.getD .skip
noncomputable def Zbs : Ctx (Tup Z8C × OutD) := { T := T, G := [], mvs := [], no := 2, n := 62, res := resOf T ZjL Z8C Try.f97.results.toList, loops := [], regs := [], conds := [], cuts := [] }
theorem Zyf (k : Nat) : EnvOK Try.prog k Zbs.G := (EnvOK.nil mixed)
theorem Zxs (k : Nat) (x : Tup Z3b.ps) : Z3b.f (k + 1) x = fnK Z3b Zbs ZeK k x := by kernel_rfl
theorem ZyF (x : Tup Z3b.ps) : Z3b.f 0 x = none := by kernel_rfl
theorem Zxo (k : Nat) : LOK Try.prog Zbs k ZeK := LOK.by [] (by kernel_rfl) AllOK.nil
theorem Zxu (k : Nat) : SoundAt Try.prog k 97 Z3b.E := @Z5 Try.prog Z3b Zbs 97 Try.f97 ZeK (by kernel_rfl) (by kernel_rfl) (by kernel_rfl) Try.func97 (by kernel_rfl) (by kernel_rfl) (by kernel_rfl) T_ok Zyf Zxo ZyF Zxs k
noncomputable def Zbx : List PK := [PK.mk (.pair I6 (.pair I6 (.slice 73 P6))) true none false none]
noncomputable def Zws : List PK := [PK.mk (.pair I6 (.pair I6 (.slice 73 P6))) true none false none]
noncomputable def Zt9 (r : Int × Int × List (Int × Int)) : Tup Zbx × OutD := ((r, ()), none)
noncomputable def Zt2 : Tup Zbx × OutD → Option (Int × Int × List (Int × Int))
 | (a, none) => some (a.1)
 | _ => none
theorem ZzP : ∀ b r, Zt2 b = some r → Zt9 r = b := by
 rintro ⟨a, _ | _⟩ r h <;> cases h; rfl
noncomputable def Z85 : Nat → Int → Int → List (Int × Int) → Int → Int → List (Int × Int) → Option (Int × Int × List (Int × Int)) := fun k b1_0 b1_1 b1_2 b2_0 b2_1 o3 =>
    if (0 : Nat) + List.length b1_2 ≤ (140737488355328 / 16 : Nat) then some (b1_0, b1_1, b1_2) else none
noncomputable def Zce : Nat → Int → Int → List (Int × Int) → Int → Int → List (Int × Int) → Option (List (Int × Int × List (Int × Int))) := fun k b1_0 b1_1 b1_2 b2_0 b2_1 o3 =>
    joinL (joinL (if (0 : Nat) + List.length b1_2 ≤ (140737488355328 / 16 : Nat) then some [(b1_0, b1_1, b1_2)] else none) (joinL (if (0 : Nat) + List.length b1_2 ≤ (140737488355328 / 16 : Nat) then some [(b1_0, b1_1, b1_2)] else none) (if (0 : Nat) + List.length b1_2 ≤ (140737488355328 / 16 : Nat) then some [(b1_0, b1_1, b1_2)] else none))) (joinL (joinL (if (0 : Nat) + List.length b1_2 ≤ (140737488355328 / 16 : Nat) then some [(b1_0, b1_1, b1_2)] else none) (joinL (if (0 : Nat) + List.length b1_2 ≤ (140737488355328 / 16 : Nat) then some [(b1_0, b1_1, b1_2)] else none) (if (0 : Nat) + List.length b1_2 ≤ (140737488355328 / 16 : Nat) then some [(b1_0, b1_1, b1_2)] else none))) (joinL (joinL (if (0 : Nat) + List.length b1_2 ≤ (140737488355328 / 16 : Nat) then some [(b1_0, b1_1, b1_2)] else none) (if (0 : Nat) + List.length b1_2 ≤ (140737488355328 / 16 : Nat) then some [(b1_0, b1_1, b1_2)] else none)) (joinL (joinL (if (0 : Nat) + List.length b1_2 ≤ (140737488355328 / 16 : Nat) then some [(b1_0, b1_1, b1_2)] else none) (if (0 : Nat) + List.length b1_2 ≤ (140737488355328 / 16 : Nat) then some [(b1_0, b1_1, b1_2)] else none)) (if (0 : Nat) + List.length b1_2 ≤ (140737488355328 / 16 : Nat) then joinL (some [(b1_0, b1_1, b1_2)]) (some [(b1_0, b1_1, b1_2)]) else none))))
noncomputable def ZmH : Spec := Spec.mk [.ro, O1, Oc, O0] [(1, .at (.ptr 1 0)), (2, .at (.ptr 2 0))]
noncomputable def ZzA : Spec := Spec.mk [.ro, O7, O0] [(2, .at (.ptr 1 0))]
noncomputable def Z79 : LoopDef (Tup Zbx × OutD) := .plain ZmH ZzA (Int × Int × List (Int × Int)) (fun k x => Z85 k x.1.2.1.1 x.1.2.1.2.1 x.1.2.1.2.2.1 x.1.2.2.1.1 x.1.2.2.1.2.1 x.1.2.2.2.1) (fun z => (((), (z.1, z.2.1, (), ()), z.2.2, ()), ((), ()))) (fun y => (y.1.2.1.1, y.1.2.1.2.1, y.1.2.2.1)) (fun _ => rfl)
theorem Zzv (k : Nat) (b1_0 : Int) (b1_1 : Int) (b1_2 : List (Int × Int)) (b2_0 : Int) (b2_1 : Int) (o3 : List (Int × Int)) : Zce k b1_0 b1_1 b1_2 b2_0 b2_1 o3 = repl 12 (Z85 k b1_0 b1_1 b1_2 b2_0 b2_1 o3) := by
 first
 | (simp only [Zce, Z85, Zy, ZV, Zz, ZA, Zx, Z9, if_true]; done)
 | (simp only [Zce, Z85, Zy, ZV, Zz, ZA, Zx, Z9, if_true]; simp only [Z4Q, Z4K, Z8t, Z9]; simp only [Zai]; exact Z6s ⟨fun h => by simp only [h, and_self], fun h => by simp only [h, and_self]⟩)
noncomputable def Z9C : Nat → Int × Int × List (Int × Int) → Option (Int × Int × List (Int × Int))
 | 0, _ => none
 | k + 1, p0 =>
  Option.bind (Z85 k p0.1 p0.2.1 p0.2.2 (0 : Int) (0 : Int) []) fun z0 => some (z0.1, z0.2.1, z0.2.2)
noncomputable def Z5L : FnDef := .of Zws Zbx (Int × Int × List (Int × Int)) (fun k x => Z9C k x.1) Zt9 Zt2 ZzP
noncomputable def Zhs : Code := Try.f101.body.getD .skip
noncomputable def Z4H : Ctx (Tup Zbx × OutD) := { T := T, G := [], mvs := [], no := 0, n := 12, res := resOf T Zws Zbx Try.f101.results.toList, loops := [], regs := [(1, Z79.E)], conds := [], cuts := [] }
theorem Zvr (k : Nat) : EnvOK Try.prog k Z4H.G := (EnvOK.nil mixed)
noncomputable def ZfN : Array Oper := (findReg 1 Zhs).getD #[]
theorem Zzu (k : Nat) (x : ZmH.D) : execD Z4H.T Z4H.G Z4H.mvs k ZfN (Z79.inp.st Z4H.n x) (outK Z4H Z79) = Zce k x.1.2.1.1 x.1.2.1.2.1 x.1.2.1.2.2.1 x.1.2.2.1.1 x.1.2.2.1.2.1 x.1.2.2.2.1 := by kernel_rfl
theorem Zxi (k : Nat) : EOK Try.prog Z4H k Z79.E (.region 1 ZfN true) := Z8y (D := Z79) (m := 12) T_ok (Zvr k) (fun x => (Zzu k x).trans (Zzv k x.1.2.1.1 x.1.2.1.2.1 x.1.2.1.2.2.1 x.1.2.2.1.1 x.1.2.2.1.2.1 x.1.2.2.2.1))
theorem ZFT (k : Nat) (x : Tup Z5L.ps) : Z5L.f (k + 1) x = fnK Z5L Z4H Zhs k x := by kernel_rfl
theorem ZFj (x : Tup Z5L.ps) : Z5L.f 0 x = none := by kernel_rfl
theorem ZFM (k : Nat) : LOK Try.prog Z4H k Zhs := LOK.by [(Z79.E, .region 1 ZfN true)] (by kernel_rfl) (AllOK.cons (Zxi k) AllOK.nil)
theorem ZwP (k : Nat) : SoundAt Try.prog k 101 Z5L.E := @Z5 Try.prog Z5L Z4H 101 Try.f101 Zhs (by kernel_rfl) (by kernel_rfl) (by kernel_rfl) Try.func101 (by kernel_rfl) (by kernel_rfl) (by kernel_rfl) T_ok Zvr ZFM ZFj ZFT k
noncomputable def ZaF : List PK := [PK.mk .bool false none false none]
noncomputable def ZnV : List PK := [PK.mk P6 true none false none]
noncomputable def ZlU (r : Bool) : Tup ZaF × OutD := ((r, ()), none)
noncomputable def Zl6 : Tup ZaF × OutD → Option (Bool)
 | (a, none) => some (a.1)
 | _ => none
theorem Zv3 : ∀ b r, Zl6 b = some r → ZlU r = b := by
 rintro ⟨a, _ | _⟩ r h <;> cases h; rfl
noncomputable def ZaR : Nat → Int × Int → Option Bool
 | 0, _ => none
 | k + 1, p0 =>
  if decide (p0.1 = (6 : Int)) = true then some true else some (decide (p0.1 = (7 : Int)))
noncomputable def Z4j : FnDef := .of ZnV ZaF (Bool) (fun k x => ZaR k x.1) ZlU Zl6 Zv3
noncomputable def Zhh : Code := Try.f104.body.getD .skip
noncomputable def Zdo : Ctx (Tup ZaF × OutD) := { T := T, G := [], mvs := [], no := 0, n := 11, res := resOf T ZnV ZaF Try.f104.results.toList, loops := [], regs := [], conds := [], cuts := [] }
theorem ZBl (k : Nat) : EnvOK Try.prog k Zdo.G := (EnvOK.nil mixed)
theorem ZBm (k : Nat) (x : Tup Z4j.ps) : Z4j.f (k + 1) x = fnK Z4j Zdo Zhh k x := by kernel_rfl
theorem ZBd (x : Tup Z4j.ps) : Z4j.f 0 x = none := by kernel_rfl
theorem ZBz (k : Nat) : LOK Try.prog Zdo k Zhh := LOK.by [] (by kernel_rfl) AllOK.nil
theorem ZCj (k : Nat) : SoundAt Try.prog k 104 Z4j.E := @Z5 Try.prog Z4j Zdo 104 Try.f104 Zhh (by kernel_rfl) (by kernel_rfl) (by kernel_rfl) Try.func104 (by kernel_rfl) (by kernel_rfl) (by kernel_rfl) T_ok ZBl ZBz ZBd ZBm k
noncomputable def ZaQ : List PK := [PK.mk (.slice 3 I6) false none false none]
noncomputable def Zol : List PK := [PK.mk (.pair I6 (.pair I6 (.slice 73 P6))) true none false none, PK.mk I6 false none false none]
noncomputable def Zmk (r : List Int) : Tup ZaQ × OutD := ((r, ()), none)
noncomputable def Zmu : Tup ZaQ × OutD → Option (List Int)
 | (a, none) => some (a.1)
 | _ => none
theorem Zul : ∀ b r, Zmu b = some r → Zmk r = b := by
 rintro ⟨a, _ | _⟩ r h <;> cases h; rfl
noncomputable def Zdi : Nat → Int × Int × List (Int × Int) → Int → Option (List Int)
 | 0, _, _ => none
 | k + 1, p0, p1 =>
  if p0.2.1 = 0 then none else if p0.2.1 = 0 then none else if decide (wrap64 (Int.tdiv p1 p0.2.1) > 0) = true then if decide (Int.tmod p1 p0.2.1 > 0) = true then if decide (wrap64 (Int.tmod p1 p0.2.1 + 1) < p0.2.1) = true then if decide (wrap64 (wrap64 (Int.tdiv p1 p0.2.1) + 1) < p0.1) = true then some ([wrap64 (p1 - p0.2.1)] ++ [wrap64 (p1 - 1)] ++ [wrap64 (p1 + 1)] ++ [wrap64 (p1 + p0.2.1)]) else some ([wrap64 (p1 - p0.2.1)] ++ [wrap64 (p1 - 1)] ++ [wrap64 (p1 + 1)]) else if decide (wrap64 (wrap64 (Int.tdiv p1 p0.2.1) + 1) < p0.1) = true then some ([wrap64 (p1 - p0.2.1)] ++ [wrap64 (p1 - 1)] ++ [wrap64 (p1 + p0.2.1)]) else some ([wrap64 (p1 - p0.2.1)] ++ [wrap64 (p1 - 1)]) else if decide (wrap64 (Int.tmod p1 p0.2.1 + 1) < p0.2.1) = true then if decide (wrap64 (wrap64 (Int.tdiv p1 p0.2.1) + 1) < p0.1) = true then some ([wrap64 (p1 - p0.2.1)] ++ [wrap64 (p1 + 1)] ++ [wrap64 (p1 + p0.2.1)]) else some ([wrap64 (p1 - p0.2.1)] ++ [wrap64 (p1 + 1)]) else if decide (wrap64 (wrap64 (Int.tdiv p1 p0.2.1) + 1) < p0.1) = true then some ([wrap64 (p1 - p0.2.1)] ++ [wrap64 (p1 + p0.2.1)]) else some [wrap64 (p1 - p0.2.1)] else if decide (Int.tmod p1 p0.2.1 > 0) = true then if decide (wrap64 (Int.tmod p1 p0.2.1 + 1) < p0.2.1) = true then if decide (wrap64 (wrap64 (Int.tdiv p1 p0.2.1) + 1) < p0.1) = true then some ([wrap64 (p1 - 1)] ++ [wrap64 (p1 + 1)] ++ [wrap64 (p1 + p0.2.1)]) else some ([wrap64 (p1 - 1)] ++ [wrap64 (p1 + 1)]) else if decide (wrap64 (wrap64 (Int.tdiv p1 p0.2.1) + 1) < p0.1) = true then some ([wrap64 (p1 - 1)] ++ [wrap64 (p1 + p0.2.1)]) else some [wrap64 (p1 - 1)] else if decide (wrap64 (Int.tmod p1 p0.2.1 + 1) < p0.2.1) = true then if decide (wrap64 (wrap64 (Int.tdiv p1 p0.2.1) + 1) < p0.1) = true then some ([wrap64 (p1 + 1)] ++ [wrap64 (p1 + p0.2.1)]) else some [wrap64 (p1 + 1)] else if decide (wrap64 (wrap64 (Int.tdiv p1 p0.2.1) + 1) < p0.1) = true then some [wrap64 (p1 + p0.2.1)] else some []
noncomputable def Z4o : FnDef := .of Zol ZaQ (List Int) (fun k x => Zdi k x.1 x.2.1) Zmk Zmu Zul
noncomputable def ZhB : Code := Try.f105.body.getD .skip
noncomputable def Zdz : Ctx (Tup ZaQ × OutD) := { T := T, G := [], mvs := [], no := 0, n := 56, res := resOf T Zol ZaQ Try.f105.results.toList, loops := [], regs := [], conds := [], cuts := [] }
theorem ZBY (k : Nat) : EnvOK Try.prog k Zdz.G := (EnvOK.nil mixed)
theorem ZBU (k : Nat) (x : Tup Z4o.ps) : Z4o.f (k + 1) x = fnK Z4o Zdz ZhB k x := by kernel_rfl
theorem ZBB (x : Tup Z4o.ps) : Z4o.f 0 x = none := by kernel_rfl
theorem ZBF (k : Nat) : LOK Try.prog Zdz k ZhB := LOK.by [] (by kernel_rfl) AllOK.nil
theorem ZBt (k : Nat) : SoundAt Try.prog k 105 Z4o.E := @Z5 Try.prog Z4o Zdz 105 Try.f105 ZhB (by kernel_rfl) (by kernel_rfl) (by kernel_rfl) Try.func105 (by kernel_rfl) (by kernel_rfl) (by kernel_rfl) T_ok ZBY ZBF ZBB ZBU k
noncomputable def Z5Y : List PK := []
noncomputable def Zk1 : List PK := [PK.mk (.pair I6 (.pair I6 (.slice 73 P6))) true (some (2, 73, .pair I6 I6)) false none, PK.mk (.slice 3 I6) false none false none, PK.mk (.slice 3 I6) false none false none, PK.mk I6 false none false none]
noncomputable def ZiU (r : List (Int × Int)) : Tup Z5Y × OutD := ((()), some ⟨Ty.pair (Ty.int .i64) (Ty.int .i64), r⟩)
noncomputable def ZdI : Tup Z5Y × OutD → Option (List (Int × Int))
 | (a, some ⟨u, ys⟩) => if h : u = Ty.pair (Ty.int .i64) (Ty.int .i64) then some (castU h ys) else none
 | _ => none
theorem Zqx : ∀ b r, ZdI b = some r → ZiU r = b := by
 rintro ⟨a, o⟩ r h
 cases o with
 | none => cases h
 | some s =>
  obtain ⟨u, ys⟩ := s
  simp only [ZdI] at h
  split at h
  ·rename_i hu; subst hu; injection h with h; subst h; rfl
  ·cases h
noncomputable def Zq : Nat → List (Int × Int) → Int → Int → List Int → List Int → Int → Int → Int → Option (List (Int × Int))
 | 0, _, _, _, _, _, _, _, _ => none
 | k + 1, o1, b2_0, b2_1, v1, v2, v3, v12, v13 =>
  if decide (v13 < v12) = true then if decide (v13 = v3) = true then if (0 : Int) ≤ v13 then if v13 < (↑(List.length v2) : Int) then if decide (List.getD v2 (Int.toNat v13) (0 : Int) ≠ 1) = true then if (0 : Int) ≤ v13 then if v13 < (↑(List.length o1) : Int) then if (0 : Int) ≤ v13 then if v13 < (↑(List.length o1) : Int) then Zq k (List.set o1 (Int.toNat v13) (Prod.fst (List.getD o1 (Int.toNat v13) ((0 : Int), (0 : Int))), wrap64 ((1 : Int) - Prod.snd (List.getD o1 (Int.toNat v13) ((0 : Int), (0 : Int)))))) b2_0 b2_1 v1 v2 v3 v12 (wrap64 (v13 + 1)) else none else none else none else none else Zq k o1 b2_0 b2_1 v1 v2 v3 v12 (wrap64 (v13 + 1)) else none else none else if (0 : Int) ≤ v3 then if v3 < (↑(List.length o1) : Int) then if decide (Prod.fst (List.getD o1 (Int.toNat v3) ((0 : Int), (0 : Int))) = 6) = true then if (0 : Int) ≤ v13 then if v13 < (↑(List.length o1) : Int) then if decide (Prod.fst (List.getD o1 (Int.toNat v13) ((0 : Int), (0 : Int))) = 6) = true then if (0 : Int) ≤ v13 then if v13 < (↑(List.length v1) : Int) then if (0 : Int) ≤ v3 then if v3 < (↑(List.length v1) : Int) then if decide (List.getD v1 (Int.toNat v13) (0 : Int) = List.getD v1 (Int.toNat v3) (0 : Int)) = true then if (0 : Int) ≤ v13 then if v13 < (↑(List.length v2) : Int) then if decide (List.getD v2 (Int.toNat v13) (0 : Int) ≠ 1) = true then if (0 : Int) ≤ v13 then if v13 < (↑(List.length o1) : Int) then if (0 : Int) ≤ v13 then if v13 < (↑(List.length o1) : Int) then Zq k (List.set o1 (Int.toNat v13) (Prod.fst (List.getD o1 (Int.toNat v13) ((0 : Int), (0 : Int))), wrap64 ((1 : Int) - Prod.snd (List.getD o1 (Int.toNat v13) ((0 : Int), (0 : Int)))))) b2_0 b2_1 v1 v2 v3 v12 (wrap64 (v13 + 1)) else none else none else none else none else Zq k o1 b2_0 b2_1 v1 v2 v3 v12 (wrap64 (v13 + 1)) else none else none else Zq k o1 b2_0 b2_1 v1 v2 v3 v12 (wrap64 (v13 + 1)) else none else none else none else none else Zq k o1 b2_0 b2_1 v1 v2 v3 v12 (wrap64 (v13 + 1)) else none else none else Zq k o1 b2_0 b2_1 v1 v2 v3 v12 (wrap64 (v13 + 1)) else none else none else some o1
noncomputable def Zco : Spec := Spec.mk [.ro, Ol, Og] [(1, .at (.snap 0 I6)), (2, .at (.snap 0 I6)), (3, .at (.int .i64)), (4, .at (.ptr 2 0)), (12, .at (.int .i64)), (13, .at (.int .i64))]
noncomputable def ZsO : Spec := Spec.mk [.ro, Ol] []
noncomputable def Z3V : LoopDef (Tup Z5Y × OutD) := .plain Zco ZsO (List (Int × Int)) (fun k x => Zq k x.1.2.1 x.1.2.2.1.1 x.1.2.2.1.2.1 x.2.1 x.2.2.1 x.2.2.2.1 x.2.2.2.2.2.1 x.2.2.2.2.2.2.1) (fun z => (((), z, ()), (()))) (fun y => (y.1.2.1)) (fun _ => rfl)
noncomputable def Z65 : Nat → Int × Int × List (Int × Int) → List Int → List Int → Int → Option (List (Int × Int))
 | 0, _, _, _, _ => none
 | k + 1, p0, p1, p2, p3 =>
  Option.bind (Zq k p0.2.2 p0.1 p0.2.1 p1 p2 p3 (↑(List.length p0.2.2) : Int) (0 : Int)) fun z0 => some z0
noncomputable def Z38 : FnDef := .of Zk1 Z5Y (List (Int × Int)) (fun k x => Z65 k x.1 x.2.1 x.2.2.1 x.2.2.2.1) ZiU ZdI Zqx
noncomputable def Zbq : Code := Try.f107.body.getD .skip
noncomputable def Z4d : Ctx (Tup Z5Y × OutD) := { T := T, G := [], mvs := [], no := 1, n := 69, res := resOf T Zk1 Z5Y Try.f107.results.toList, loops := [(0, Z3V.E)], regs := [], conds := [], cuts := [] }
theorem Zkh (k : Nat) : EnvOK Try.prog k Z4d.G := (EnvOK.nil mixed)
noncomputable def Z8H : Code := (findLoop 0 Zbq).getD .skip
theorem Zs2 (k : Nat) (x : Zco.D) : Z3V.lp (k + 1) x = loopK Z4d Z3V 0 Z8H k x := by kernel_rfl
theorem ZsB (k : Nat) : LOK Try.prog Z4d k Z8H := LOK.by [] (by kernel_rfl) AllOK.nil
theorem ZrE (x : Zco.D) : Z3V.lp 0 x = none := by kernel_rfl
theorem ZpZ (k : Nat) : EOK Try.prog Z4d k Z3V.E (.block 0 (.loop Z8H)) := Z4 T_ok Zkh ZrE Zs2 ZsB k
theorem ZyI (k : Nat) (x : Tup Z38.ps) : Z38.f (k + 1) x = fnK Z38 Z4d Zbq k x := by kernel_rfl
theorem ZyL (x : Tup Z38.ps) : Z38.f 0 x = none := by kernel_rfl
theorem Zy2 (k : Nat) : LOK Try.prog Z4d k Zbq := LOK.by [(Z3V.E, .block 0 (.loop Z8H))] (by kernel_rfl) (AllOK.cons (ZpZ k) AllOK.nil)
theorem Zyg (k : Nat) : SoundAt Try.prog k 107 Z38.E := @Z5 Try.prog Z38 Z4d 107 Try.f107 Zbq (by kernel_rfl) (by kernel_rfl) (by kernel_rfl) Try.func107 (by kernel_rfl) (by kernel_rfl) (by kernel_rfl) T_ok Zkh Zy2 ZyL ZyI k
noncomputable def Ze1 : List PK := [PK.mk I6 false none false none]
noncomputable def Zwj : List PK := [PK.mk I6 false none false none, PK.mk I6 false none false none]
noncomputable def Ztr (r : Int) : Tup Ze1 × OutD := ((r, ()), none)
noncomputable def Ztg : Tup Ze1 × OutD → Option (Int)
 | (a, none) => some (a.1)
 | _ => none
theorem ZzL : ∀ b r, Ztg b = some r → Ztr r = b := by
 rintro ⟨a, _ | _⟩ r h <;> cases h; rfl
noncomputable def ZgX : Nat → Int → Int → Option Int
 | 0, _, _ => none
 | k + 1, p0, p1 =>
  if IntKind.wrap IntKind.u64 p1 < (0 : Int) then none else some (bits BinOp.and IntKind.i64 (Int.fdiv p0 ((2 : Int) ^ min (Int.toNat (IntKind.wrap IntKind.u64 p1)) (IntKind.bits IntKind.i64))) (1 : Int))
noncomputable def Z7Q : FnDef := .of Zwj Ze1 (Int) (fun k x => ZgX k x.1 x.2.1) Ztr Ztg ZzL
noncomputable def Zmc : Code := Try.f108.body.getD .skip
noncomputable def ZgB : Ctx (Tup Ze1 × OutD) := { T := T, G := [], mvs := [], no := 0, n := 10, res := resOf T Zwj Ze1 Try.f108.results.toList, loops := [], regs := [], conds := [], cuts := [] }
theorem ZFw (k : Nat) : EnvOK Try.prog k ZgB.G := (EnvOK.nil mixed)
theorem ZFk (k : Nat) (x : Tup Z7Q.ps) : Z7Q.f (k + 1) x = fnK Z7Q ZgB Zmc k x := by kernel_rfl
theorem ZG1 (x : Tup Z7Q.ps) : Z7Q.f 0 x = none := by kernel_rfl
theorem ZFA (k : Nat) : LOK Try.prog ZgB k Zmc := LOK.by [] (by kernel_rfl) AllOK.nil
theorem ZGi (k : Nat) : SoundAt Try.prog k 108 Z7Q.E := @Z5 Try.prog Z7Q ZgB 108 Try.f108 Zmc (by kernel_rfl) (by kernel_rfl) (by kernel_rfl) Try.func108 (by kernel_rfl) (by kernel_rfl) (by kernel_rfl) T_ok ZFw ZFA ZG1 ZFk k
noncomputable def ZcI : List PK := [PK.mk .bool false none false none]
noncomputable def ZsR : List PK := [PK.mk P6 true none false none]
noncomputable def ZpG (r : Bool) : Tup ZcI × OutD := ((r, ()), none)
noncomputable def ZqO : Tup ZcI × OutD → Option (Bool)
 | (a, none) => some (a.1)
 | _ => none
theorem Zyp : ∀ b r, ZqO b = some r → ZpG r = b := by
 rintro ⟨a, _ | _⟩ r h <;> cases h; rfl
noncomputable def ZcJ : Nat → Int × Int → Option Bool
 | 0, _ => none
 | k + 1, p0 =>
  if decide (p0.1 = (6 : Int)) = true then some true else some (decide (p0.1 = (7 : Int)))
noncomputable def Z6r : FnDef := .of ZsR ZcI (Bool) (fun k x => ZcJ k x.1) ZpG ZqO Zyp
noncomputable def Zj9 : Code := Try.f110.body.getD .skip
noncomputable def ZfE : Ctx (Tup ZcI × OutD) := { T := T, G := [], mvs := [], no := 0, n := 11, res := resOf T ZsR ZcI Try.f110.results.toList, loops := [], regs := [], conds := [], cuts := [] }
theorem ZEt (k : Nat) : EnvOK Try.prog k ZfE.G := (EnvOK.nil mixed)
theorem ZF1 (k : Nat) (x : Tup Z6r.ps) : Z6r.f (k + 1) x = fnK Z6r ZfE Zj9 k x := by kernel_rfl
theorem ZEe (x : Tup Z6r.ps) : Z6r.f 0 x = none := by kernel_rfl
theorem ZF0 (k : Nat) : LOK Try.prog ZfE k Zj9 := LOK.by [] (by kernel_rfl) AllOK.nil
theorem ZES (k : Nat) : SoundAt Try.prog k 110 Z6r.E := @Z5 Try.prog Z6r ZfE 110 Try.f110 Zj9 (by kernel_rfl) (by kernel_rfl) (by kernel_rfl) Try.func110 (by kernel_rfl) (by kernel_rfl) (by kernel_rfl) T_ok ZEt ZF0 ZEe ZF1 k
noncomputable def ZcS : List PK := [PK.mk (.slice 3 I6) false none false none]
noncomputable def Ztj : List PK := [PK.mk (.pair I6 (.pair I6 (.slice 73 P6))) true none false none, PK.mk I6 false none false none]
noncomputable def Zr6 (r : List Int) : Tup ZcS × OutD := ((r, ()), none)
noncomputable def Zr8 : Tup ZcS × OutD → Option (List Int)
 | (a, none) => some (a.1)
 | _ => none
theorem ZyG : ∀ b r, Zr8 b = some r → Zr6 r = b := by
 rintro ⟨a, _ | _⟩ r h <;> cases h; rfl
noncomputable def Zfz : Nat → Int × Int × List (Int × Int) → Int → Option (List Int)
 | 0, _, _ => none
 | k + 1, p0, p1 =>
  if p0.2.1 = 0 then none else if p0.2.1 = 0 then none else if decide (wrap64 (Int.tdiv p1 p0.2.1) > 0) = true then if decide (Int.tmod p1 p0.2.1 > 0) = true then if decide (wrap64 (Int.tmod p1 p0.2.1 + 1) < p0.2.1) = true then if decide (wrap64 (wrap64 (Int.tdiv p1 p0.2.1) + 1) < p0.1) = true then some ([wrap64 (p1 - p0.2.1)] ++ [wrap64 (p1 - 1)] ++ [wrap64 (p1 + 1)] ++ [wrap64 (p1 + p0.2.1)]) else some ([wrap64 (p1 - p0.2.1)] ++ [wrap64 (p1 - 1)] ++ [wrap64 (p1 + 1)]) else if decide (wrap64 (wrap64 (Int.tdiv p1 p0.2.1) + 1) < p0.1) = true then some ([wrap64 (p1 - p0.2.1)] ++ [wrap64 (p1 - 1)] ++ [wrap64 (p1 + p0.2.1)]) else some ([wrap64 (p1 - p0.2.1)] ++ [wrap64 (p1 - 1)]) else if decide (wrap64 (Int.tmod p1 p0.2.1 + 1) < p0.2.1) = true then if decide (wrap64 (wrap64 (Int.tdiv p1 p0.2.1) + 1) < p0.1) = true then some ([wrap64 (p1 - p0.2.1)] ++ [wrap64 (p1 + 1)] ++ [wrap64 (p1 + p0.2.1)]) else some ([wrap64 (p1 - p0.2.1)] ++ [wrap64 (p1 + 1)]) else if decide (wrap64 (wrap64 (Int.tdiv p1 p0.2.1) + 1) < p0.1) = true then some ([wrap64 (p1 - p0.2.1)] ++ [wrap64 (p1 + p0.2.1)]) else some [wrap64 (p1 - p0.2.1)] else if decide (Int.tmod p1 p0.2.1 > 0) = true then if decide (wrap64 (Int.tmod p1 p0.2.1 + 1) < p0.2.1) = true then if decide (wrap64 (wrap64 (Int.tdiv p1 p0.2.1) + 1) < p0.1) = true then some ([wrap64 (p1 - 1)] ++ [wrap64 (p1 + 1)] ++ [wrap64 (p1 + p0.2.1)]) else some ([wrap64 (p1 - 1)] ++ [wrap64 (p1 + 1)]) else if decide (wrap64 (wrap64 (Int.tdiv p1 p0.2.1) + 1) < p0.1) = true then some ([wrap64 (p1 - 1)] ++ [wrap64 (p1 + p0.2.1)]) else some [wrap64 (p1 - 1)] else if decide (wrap64 (Int.tmod p1 p0.2.1 + 1) < p0.2.1) = true then if decide (wrap64 (wrap64 (Int.tdiv p1 p0.2.1) + 1) < p0.1) = true then some ([wrap64 (p1 + 1)] ++ [wrap64 (p1 + p0.2.1)]) else some [wrap64 (p1 + 1)] else if decide (wrap64 (wrap64 (Int.tdiv p1 p0.2.1) + 1) < p0.1) = true then some [wrap64 (p1 + p0.2.1)] else some []
noncomputable def Z6q : FnDef := .of Ztj ZcS (List Int) (fun k x => Zfz k x.1 x.2.1) Zr6 Zr8 ZyG
noncomputable def Zjp : Code := Try.f111.body.getD .skip
noncomputable def Zfx : Ctx (Tup ZcS × OutD) := { T := T, G := [], mvs := [], no := 0, n := 55, res := resOf T Ztj ZcS Try.f111.results.toList, loops := [], regs := [], conds := [], cuts := [] }
theorem ZDZ (k : Nat) : EnvOK Try.prog k Zfx.G := (EnvOK.nil mixed)
theorem ZDU (k : Nat) (x : Tup Z6q.ps) : Z6q.f (k + 1) x = fnK Z6q Zfx Zjp k x := by kernel_rfl
theorem ZEu (x : Tup Z6q.ps) : Z6q.f 0 x = none := by kernel_rfl
theorem ZE2 (k : Nat) : LOK Try.prog Zfx k Zjp := LOK.by [] (by kernel_rfl) AllOK.nil
theorem ZE3 (k : Nat) : SoundAt Try.prog k 111 Z6q.E := @Z5 Try.prog Z6q Zfx 111 Try.f111 Zjp (by kernel_rfl) (by kernel_rfl) (by kernel_rfl) Try.func111 (by kernel_rfl) (by kernel_rfl) (by kernel_rfl) T_ok ZDZ ZE2 ZEu ZDU k
noncomputable def ZeW : List PK := [PK.mk P6 true none false none]
noncomputable def Zz6 : List PK := [PK.mk (.pair I6 (.pair I6 (.slice 73 P6))) true none false none, PK.mk I6 false none false none, PK.mk I6 false none false none]
noncomputable def ZvP (r : Int × Int) : Tup ZeW × OutD := ((r, ()), none)
noncomputable def ZwE : Tup ZeW × OutD → Option (Int × Int)
 | (a, none) => some (a.1)
 | _ => none
theorem ZC6 : ∀ b r, ZwE b = some r → ZvP r = b := by
 rintro ⟨a, _ | _⟩ r h <;> cases h; rfl
noncomputable def Ziq : Nat → Int × Int × List (Int × Int) → Int → Int → Option (Int × Int)
 | 0, _, _, _ => none
 | k + 1, p0, p1, p2 =>
  if (0 : Int) ≤ wrap64 (wrap64 (p1 * p0.2.1) + p2) then if wrap64 (wrap64 (p1 * p0.2.1) + p2) < (↑(List.length p0.2.2) : Int) then some (Prod.fst (List.getD p0.2.2 (Int.toNat (wrap64 (wrap64 (p1 * p0.2.1) + p2))) ((0 : Int), (0 : Int))), Prod.snd (List.getD p0.2.2 (Int.toNat (wrap64 (wrap64 (p1 * p0.2.1) + p2))) ((0 : Int), (0 : Int)))) else none else none
noncomputable def Z90 : FnDef := .of Zz6 ZeW (Int × Int) (fun k x => Ziq k x.1 x.2.1 x.2.2.1) ZvP ZwE ZC6
noncomputable def Zos : Code := Try.f112.body.getD .skip
noncomputable def Zit : Ctx (Tup ZeW × OutD) := { T := T, G := [], mvs := [], no := 0, n := 17, res := resOf T Zz6 ZeW Try.f112.results.toList, loops := [], regs := [], conds := [], cuts := [] }
theorem ZGD (k : Nat) : EnvOK Try.prog k Zit.G := (EnvOK.nil mixed)
theorem ZGC (k : Nat) (x : Tup Z90.ps) : Z90.f (k + 1) x = fnK Z90 Zit Zos k x := by kernel_rfl
theorem ZGN (x : Tup Z90.ps) : Z90.f 0 x = none := by kernel_rfl
theorem ZGY (k : Nat) : LOK Try.prog Zit k Zos := LOK.by [] (by kernel_rfl) AllOK.nil
theorem ZGq (k : Nat) : SoundAt Try.prog k 112 Z90.E := @Z5 Try.prog Z90 Zit 112 Try.f112 Zos (by kernel_rfl) (by kernel_rfl) (by kernel_rfl) Try.func112 (by kernel_rfl) (by kernel_rfl) (by kernel_rfl) T_ok ZGD ZGY ZGN ZGC k
noncomputable def Zd2 : List PK := [PK.mk I6 false none false none]
noncomputable def Zz8 : List PK := [PK.mk (.slice 81 T6) false none false none, PK.mk I6 false none false none, PK.mk I6 false none false none]
noncomputable def Zmm (r : Int) : Tup Zd2 × OutD := ((r, ()), none)
noncomputable def ZlB : Tup Zd2 × OutD → Option (Int)
 | (a, none) => some (a.1)
 | _ => none
theorem ZnM : ∀ b r, ZlB b = some r → Zmm r = b := by
 rintro ⟨a, _ | _⟩ r h <;> cases h; rfl
noncomputable def Z6w : Nat → Int → Int → List (Int × Int × Int) → Int → Int → Option (LR Unit Int)
 | 0, _, _, _, _, _ => none
 | k + 1, v1, v2, v9, v10, v11 =>
  if decide (v11 < v10) = true then if (0 : Int) ≤ v11 then if v11 < (↑(List.length v9) : Int) then if decide (Prod.fst (Prod.snd (List.getD v9 (Int.toNat v11) ((0 : Int), (0 : Int), (0 : Int)))) = v1) = true then if decide (Prod.snd (Prod.snd (List.getD v9 (Int.toNat v11) ((0 : Int), (0 : Int), (0 : Int)))) = v2) = true then some (LR.ret (Prod.fst (List.getD v9 (Int.toNat v11) ((0 : Int), (0 : Int), (0 : Int))))) else Z6w k v1 v2 v9 v10 (wrap64 (v11 + 1)) else Z6w k v1 v2 v9 v10 (wrap64 (v11 + 1)) else none else none else some (LR.go ())
noncomputable def Zie : Spec := Spec.mk [.ro] [(1, .at (.int .i64)), (2, .at (.int .i64)), (9, .at (.snap 0 T6)), (10, .at (.int .i64)), (11, .at (.int .i64))]
noncomputable def ZD0 : Spec := Spec.mk [.ro] []
noncomputable def Z97 : LoopDef (Tup Zd2 × OutD) := .rets Zie ZD0 (Unit) (Int) (fun k x => Z6w k x.2.1 x.2.2.1 x.2.2.2.1 x.2.2.2.2.1 x.2.2.2.2.2.1) (fun z => (((), ()), (()))) (fun y => ()) (fun _ => rfl) Zmm ZlB ZnM
noncomputable def Ziu : Nat → List (Int × Int × Int) → Int → Int → Option Int
 | 0, _, _, _ => none
 | k + 1, p0, p1, p2 =>
  Option.bind (Z6w k p1 p2 p0 (↑(List.length p0) : Int) (0 : Int)) fun z0 => LR.on z0 (fun y0 => some (0 : Int)) fun r0 => some r0
noncomputable def Z93 : FnDef := .of Zz8 Zd2 (Int) (fun k x => Ziu k x.1 x.2.1 x.2.2.1) Zmm ZlB ZnM
noncomputable def Zip : Code := Try.f113.body.getD .skip
noncomputable def Zb1 : Ctx (Tup Zd2 × OutD) := { T := T, G := [], mvs := [], no := 0, n := 28, res := resOf T Zz8 Zd2 Try.f113.results.toList, loops := [(0, Z97.E)], regs := [], conds := [], cuts := [] }
theorem Zz0 (k : Nat) : EnvOK Try.prog k Zb1.G := (EnvOK.nil mixed)
noncomputable def Ze8 : Code := (findLoop 0 Zip).getD .skip
theorem ZDt (k : Nat) (x : Zie.D) : Z97.lp (k + 1) x = loopK Zb1 Z97 0 Ze8 k x := by kernel_rfl
theorem ZD7 (k : Nat) : LOK Try.prog Zb1 k Ze8 := LOK.by [] (by kernel_rfl) AllOK.nil
theorem ZCD (x : Zie.D) : Z97.lp 0 x = none := by kernel_rfl
theorem ZB8 (k : Nat) : EOK Try.prog Zb1 k Z97.E (.block 0 (.loop Ze8)) := Z4 T_ok Zz0 ZCD ZDt ZD7 k
theorem ZGP (k : Nat) (x : Tup Z93.ps) : Z93.f (k + 1) x = fnK Z93 Zb1 Zip k x := by kernel_rfl
theorem ZGA (x : Tup Z93.ps) : Z93.f 0 x = none := by kernel_rfl
theorem ZGu (k : Nat) : LOK Try.prog Zb1 k Zip := LOK.by [(Z97.E, .block 0 (.loop Ze8))] (by kernel_rfl) (AllOK.cons (ZB8 k) AllOK.nil)
theorem ZGw (k : Nat) : SoundAt Try.prog k 113 Z93.E := @Z5 Try.prog Z93 Zb1 113 Try.f113 Zip (by kernel_rfl) (by kernel_rfl) (by kernel_rfl) Try.func113 (by kernel_rfl) (by kernel_rfl) (by kernel_rfl) T_ok Zz0 ZGu ZGA ZGP k
noncomputable def ZcW : List PK := [PK.mk I6 false none false none]
noncomputable def ZsW : List PK := [PK.mk P6 true none false none, PK.mk I6 false none false none]
noncomputable def Zqe (r : Int) : Tup ZcW × OutD := ((r, ()), none)
noncomputable def Zqm : Tup ZcW × OutD → Option (Int)
 | (a, none) => some (a.1)
 | _ => none
theorem Zyr : ∀ b r, Zqm b = some r → Zqe r = b := by
 rintro ⟨a, _ | _⟩ r h <;> cases h; rfl
noncomputable def ZfG : Nat → Int × Int → Int → Option Int
 | 0, _, _ => none
 | k + 1, p0, p1 =>
  if decide (p0.1 = 1) = true then some (-1 : Int) else if decide (p0.1 = 2) = true then some (1 : Int) else if decide (p0.1 = 3) = true then some (wrap64 (wrap64 ((2 : Int) * p0.2) - 1)) else if decide (p0.1 = 6) = true then some (wrap64 (wrap64 ((2 : Int) * p0.2) - 1)) else if decide (p0.1 = 4) = true then some (wrap64 ((0 : Int) - p1)) else some (0 : Int)
noncomputable def Z6t : FnDef := .of ZsW ZcW (Int) (fun k x => ZfG k x.1 x.2.1) Zqe Zqm Zyr
noncomputable def Zj3 : Code := Try.f114.body.getD .skip
noncomputable def Zfs : Ctx (Tup ZcW × OutD) := { T := T, G := [], mvs := [], no := 0, n := 22, res := resOf T ZsW ZcW Try.f114.results.toList, loops := [], regs := [], conds := [], cuts := [] }
theorem ZDY (k : Nat) : EnvOK Try.prog k Zfs.G := (EnvOK.nil mixed)
theorem ZF9 (k : Nat) (x : Tup Z6t.ps) : Z6t.f (k + 1) x = fnK Z6t Zfs Zj3 k x := by kernel_rfl
theorem ZEy (x : Tup Z6t.ps) : Z6t.f 0 x = none := by kernel_rfl
theorem ZEk (k : Nat) : LOK Try.prog Zfs k Zj3 := LOK.by [] (by kernel_rfl) AllOK.nil
theorem ZDX (k : Nat) : SoundAt Try.prog k 114 Z6t.E := @Z5 Try.prog Z6t Zfs 114 Try.f114 Zj3 (by kernel_rfl) (by kernel_rfl) (by kernel_rfl) Try.func114 (by kernel_rfl) (by kernel_rfl) (by kernel_rfl) T_ok ZDY ZEk ZEy ZF9 k
noncomputable def ZcN : List PK := [PK.mk P6 true none false none]
noncomputable def ZsX : List PK := [PK.mk P6 true none false none]
noncomputable def Zrk (r : Int × Int) : Tup ZcN × OutD := ((r, ()), none)
noncomputable def ZqI : Tup ZcN × OutD → Option (Int × Int)
 | (a, none) => some (a.1)
 | _ => none
theorem Zyn : ∀ b r, ZqI b = some r → Zrk r = b := by
 rintro ⟨a, _ | _⟩ r h <;> cases h; rfl
noncomputable def ZcY : Nat → Int × Int → Option (Int × Int)
 | 0, _ => none
 | k + 1, p0 =>
  some (p0.1, wrap64 ((1 : Int) - p0.2))
noncomputable def Z6i : FnDef := .of ZsX ZcN (Int × Int) (fun k x => ZcY k x.1) Zrk ZqI Zyn
noncomputable def Zj8 : Code := Try.f116.body.getD .skip
noncomputable def Zfn : Ctx (Tup ZcN × OutD) := { T := T, G := [], mvs := [], no := 0, n := 9, res := resOf T ZsX ZcN Try.f116.results.toList, loops := [], regs := [], conds := [], cuts := [] }
theorem ZEM (k : Nat) : EnvOK Try.prog k Zfn.G := (EnvOK.nil mixed)
theorem ZEJ (k : Nat) (x : Tup Z6i.ps) : Z6i.f (k + 1) x = fnK Z6i Zfn Zj8 k x := by kernel_rfl
theorem ZEs (x : Tup Z6i.ps) : Z6i.f 0 x = none := by kernel_rfl
theorem ZEY (k : Nat) : LOK Try.prog Zfn k Zj8 := LOK.by [] (by kernel_rfl) AllOK.nil
theorem ZF5 (k : Nat) : SoundAt Try.prog k 116 Z6i.E := @Z5 Try.prog Z6i Zfn 116 Try.f116 Zj8 (by kernel_rfl) (by kernel_rfl) (by kernel_rfl) Try.func116 (by kernel_rfl) (by kernel_rfl) (by kernel_rfl) T_ok ZEM ZEY ZEs ZEJ k
end
end
end Go.Proofs.Ytkbikniinjalbaa.Vs
