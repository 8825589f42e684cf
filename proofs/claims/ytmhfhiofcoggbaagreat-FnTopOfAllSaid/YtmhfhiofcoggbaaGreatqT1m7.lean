/- The proof, part 8. -/
import Derived.Test.YtmhfhiofcoggbaaGreatqT1m6
set_option maxRecDepth 100000
set_option maxHeartbeats 2000000
set_option linter.unusedVariables false
set_option linter.unusedSimpArgs false
namespace Go.Proofs.YtmhfhiofcoggbaaGreat.Vs
open Go.RowKit
noncomputable section
noncomputable def Z5W : List PK := [PK.mk (.pair I6 (.pair I6 (.slice 76 P6))) true none false none, PK.mk I6 false none false none, PK.mk .bool false none false none]
noncomputable def ZiV : List PK := [PK.mk (.pair I6 (.slice 3 I6)) true none false none]
noncomputable def Zim (r : (Int × Int × List (Int × Int)) × Int × Bool) : Tup Z5W × OutD := ((r.1, r.2.1, r.2.2, ()), none)
noncomputable def Zik : Tup Z5W × OutD → Option ((Int × Int × List (Int × Int)) × Int × Bool)
 | (a, none) => some (a.1, a.2.1, a.2.2.1)
 | _ => none
theorem Zn4 : ∀ b r, Zik b = some r → Zim r = b := by
 rintro ⟨a, _ | _⟩ r h <;> cases h; rfl
noncomputable def Z9A : Nat → Int × List Int → Option ((Int × Int × List (Int × Int)) × Int × Bool)
 | 0, _ => none
 | k + 1, p0 =>
  Option.bind (ZbA k (p0.1, p0.2)) fun z0 => if (!z0) = true then some (((0 : Int), (0 : Int), []), (0 : Int), false) else if decide (p0.1 > 3) = true then some (((0 : Int), (0 : Int), []), (0 : Int), false) else Option.bind (Z41 k (p0.1, p0.2)) fun z1 => some ((z1.1.1, z1.1.2.1, z1.1.2.2), z1.2.1, true)
noncomputable def Z1D : FnDef := .of ZiV Z5W ((Int × Int × List (Int × Int)) × Int × Bool) (fun k x => Z9A k x.1) Zim Zik Zn4
noncomputable def Zdm : Code := Tryz.f5.body.getD .skip
noncomputable def Z9V : Ctx (Tup Z5W × OutD) := { T := T, G := [(30, Z3o.E), (31, Z1G.E)], mvs := [], no := 0, n := 25, res := resOf T ZiV Z5W Tryz.f5.results.toList, loops := [], regs := [], conds := [], cuts := [] }
theorem Zvv (k : Nat) : EnvOK Tryz.prog k Z9V.G := (EnvOK.cons (ZqK k) (EnvOK.cons (ZvB k) (EnvOK.nil mixed)))
theorem ZuX (k : Nat) (x : Tup Z1D.ps) : Z1D.f (k + 1) x = fnK Z1D Z9V Zdm k x := by kernel_rfl
theorem ZuL (x : Tup Z1D.ps) : Z1D.f 0 x = none := by kernel_rfl
theorem ZuC (k : Nat) : LOK Tryz.prog Z9V k Zdm := LOK.by [] (by kernel_rfl) AllOK.nil
theorem ZvV (k : Nat) : SoundAt Tryz.prog k 5 Z1D.E := @Z0 Tryz.prog Z1D Z9V 5 Tryz.f5 Zdm (by kernel_rfl) (by kernel_rfl) (by kernel_rfl) Tryz.func5 (by kernel_rfl) (by kernel_rfl) (by kernel_rfl) T_ok Zvv ZuC ZuL ZuX k
noncomputable def Zbq : List PK := [PK.mk (.pair I6 (.pair I6 (.slice 76 P6))) true none false none]
noncomputable def ZqH : List PK := [PK.mk (.pair I6 (.slice 3 I6)) true none false none]
noncomputable def Znu (r : Int × Int × List (Int × Int)) : Tup Zbq × OutD := ((r, ()), none)
noncomputable def ZnJ : Tup Zbq × OutD → Option (Int × Int × List (Int × Int))
 | (a, none) => some (a.1)
 | _ => none
theorem ZwP : ∀ b r, ZnJ b = some r → Znu r = b := by
 rintro ⟨a, _ | _⟩ r h <;> cases h; rfl
noncomputable def ZbG : Nat → Int × List Int → Option (Int × Int × List (Int × Int))
 | 0, _ => none
 | k + 1, p0 =>
  Option.bind (PDef.f Z4h k ((p0.1, p0.2), ())) fun z0 => some (z0.2.2.2.1, (↑(List.length p0.2) : Int), z0.2.2.1)
noncomputable def Z4M : FnDef := .of ZqH Zbq (Int × Int × List (Int × Int)) (fun k x => ZbG k x.1) Znu ZnJ ZwP
noncomputable def Zjm : Code := Tryz.f33.body.getD .skip
noncomputable def ZeP : Ctx (Tup Zbq × OutD) := { T := T, G := [(66, cloE Z4h.E)], mvs := [], no := 0, n := 18, res := resOf T ZqH Zbq Tryz.f33.results.toList, loops := [], regs := [], conds := [], cuts := [] }
theorem ZEl (k : Nat) : EnvOK Tryz.prog k ZeP.G := (EnvOK.consC (ZHn k) (EnvOK.nil mixed))
theorem ZEE (k : Nat) (x : Tup Z4M.ps) : Z4M.f (k + 1) x = fnK Z4M ZeP Zjm k x := by kernel_rfl
theorem ZF9 (x : Tup Z4M.ps) : Z4M.f 0 x = none := by kernel_rfl
theorem ZEe (k : Nat) : LOK Tryz.prog ZeP k Zjm := LOK.by [] (by kernel_rfl) AllOK.nil
theorem ZFz (k : Nat) : SoundAt Tryz.prog k 33 Z4M.E := @Z0 Tryz.prog Z4M ZeP 33 Tryz.f33 Zjm (by kernel_rfl) (by kernel_rfl) (by kernel_rfl) Tryz.func33 (by kernel_rfl) (by kernel_rfl) (by kernel_rfl) T_ok ZEl ZEe ZF9 ZEE k
noncomputable def ZbV : List PK := [PK.mk .bool false none false none]
noncomputable def ZrM : List PK := [PK.mk (.pair I6 (.pair I6 (.slice 76 P6))) true none false none]
noncomputable def ZnV (r : Bool) : Tup ZbV × OutD := ((r, ()), none)
noncomputable def Zok : Tup ZbV × OutD → Option (Bool)
 | (a, none) => some (a.1)
 | _ => none
theorem ZwH : ∀ b r, Zok b = some r → ZnV r = b := by
 rintro ⟨a, _ | _⟩ r h <;> cases h; rfl
noncomputable def Z2q : Nat → Int × Int × List (Int × Int) → Option Bool
 | 0, _ => none
 | k + 1, p0 =>
  if decide (p0.1 ≥ 1) = true then if decide (p0.1 ≤ 10) = true then if decide (p0.2.1 ≥ 1) = true then if decide (p0.2.1 ≤ 9) = true then if decide ((↑(List.length p0.2.2) : Int) = wrap64 (p0.1 * p0.2.1)) = true then Option.bind (Zbd k p0.2.2) fun z0 => some z0 else some false else some false else some false else some false else some false
noncomputable def ZT : FnDef := .of ZrM ZbV (Bool) (fun k x => Z2q k x.1) ZnV Zok ZwH
noncomputable def Zjl : Code := Tryz.f38.body.getD .skip
noncomputable def ZeL : Ctx (Tup ZbV × OutD) := { T := T, G := [(69, Z2v.E)], mvs := [], no := 0, n := 37, res := resOf T ZrM ZbV Tryz.f38.results.toList, loops := [], regs := [], conds := [], cuts := [] }
theorem ZEy (k : Nat) : EnvOK Tryz.prog k ZeL.G := (EnvOK.cons (ZyO k) (EnvOK.nil mixed))
theorem ZEB (k : Nat) (x : Tup ZT.ps) : ZT.f (k + 1) x = fnK ZT ZeL Zjl k x := by kernel_rfl
theorem ZF6 (x : Tup ZT.ps) : ZT.f 0 x = none := by kernel_rfl
theorem ZEw (k : Nat) : LOK Tryz.prog ZeL k Zjl := LOK.by [] (by kernel_rfl) AllOK.nil
theorem Z6f (k : Nat) : SoundAt Tryz.prog k 38 ZT.E := @Z0 Tryz.prog ZT ZeL 38 Tryz.f38 Zjl (by kernel_rfl) (by kernel_rfl) (by kernel_rfl) Tryz.func38 (by kernel_rfl) (by kernel_rfl) (by kernel_rfl) T_ok ZEy ZEw ZF6 ZEB k
noncomputable def Zdd : List PK := [PK.mk T6 true none false none, PK.mk (.slice 3 I6) false none false none]
noncomputable def ZAo : List PK := [PK.mk (.pair I6 (.pair I6 (.slice 76 P6))) true (some (2, 76, .pair I6 I6)) false none, PK.mk (.slice 3 I6) false none false none, PK.mk I6 false none false none]
noncomputable def Zm1 (r : (Int × Int × Int) × List Int × List (Int × Int)) : Tup Zdd × OutD := ((r.1, r.2.1, ()), some ⟨Ty.pair (Ty.int .i64) (Ty.int .i64), r.2.2⟩)
noncomputable def Zhe : Tup Zdd × OutD → Option ((Int × Int × Int) × List Int × List (Int × Int))
 | (a, some ⟨u, ys⟩) => if h : u = Ty.pair (Ty.int .i64) (Ty.int .i64) then some (a.1, a.2.1, castU h ys) else none
 | _ => none
theorem Zom : ∀ b r, Zhe b = some r → Zm1 r = b := by
 rintro ⟨a, o⟩ r h
 cases o with
 | none => cases h
 | some s =>
  obtain ⟨u, ys⟩ := s
  simp only [Zhe] at h
  split at h
  ·rename_i hu; subst hu; injection h with h; subst h; rfl
  ·cases h
noncomputable def Z2g : Nat → List (Int × Int) → Int → Int → Int → Int → Int → List Int → List Int → Int → Int → Int → Option (LR (List (Int × Int) × Int × Int × Int × Int × Int × List Int × Int) ((Int × Int × Int) × List Int × List (Int × Int)))
 | 0, _, _, _, _, _, _, _, _, _, _, _ => none
 | k + 1, o1, b2_0, b2_1, b3_0, b3_1, b3_2, o4, v1, v2, v9, v10 =>
  if decide (v10 < b2_0) = true then if List.length o4 + List.length [wrap64 (wrap64 (v10 * b2_1) + v2)] ≤ (140737488355328 / 8 : Nat) then if (0 : Int) ≤ wrap64 (wrap64 (v10 * b2_1) + v2) then if wrap64 (wrap64 (v10 * b2_1) + v2) < (↑(List.length o1) : Int) then Option.bind (Zd2 k (Prod.fst (List.getD o1 (Int.toNat (wrap64 (wrap64 (v10 * b2_1) + v2))) ((0 : Int), (0 : Int))), Prod.snd (List.getD o1 (Int.toNat (wrap64 (wrap64 (v10 * b2_1) + v2))) ((0 : Int), (0 : Int)))) v9) fun z0 => if (!z0.2) = true then some (LR.ret (((2 : Int), v10, v2), o4 ++ [wrap64 (wrap64 (v10 * b2_1) + v2)], o1)) else if decide (Prod.fst (List.getD o1 (Int.toNat (wrap64 (wrap64 (v10 * b2_1) + v2))) ((0 : Int), (0 : Int))) = 3) = true then if (0 : Int) ≤ wrap64 (wrap64 (v10 * b2_1) + v2) then if wrap64 (wrap64 (v10 * b2_1) + v2) < (↑(List.length o1) : Int) then if decide (Prod.fst (List.getD o1 (Int.toNat (wrap64 (wrap64 (v10 * b2_1) + v2))) ((0 : Int), (0 : Int))) = 6) = true then Option.bind (Z9r k (b2_0, b2_1, List.set o1 (Int.toNat (wrap64 (wrap64 (v10 * b2_1) + v2))) (Prod.fst (List.getD o1 (Int.toNat (wrap64 (wrap64 (v10 * b2_1) + v2))) ((0 : Int), (0 : Int))), wrap64 ((1 : Int) - Prod.snd (List.getD o1 (Int.toNat (wrap64 (wrap64 (v10 * b2_1) + v2))) ((0 : Int), (0 : Int)))))) v1 (wrap64 (wrap64 (v10 * b2_1) + v2))) fun z1 => if decide (wrap64 (v2 + z0.1) < 0) = true then some (LR.ret (((3 : Int), v10, wrap64 (v2 + z0.1)), o4 ++ [wrap64 (wrap64 (v10 * b2_1) + v2)], z1)) else if decide (wrap64 (v2 + z0.1) ≥ b2_1) = true then some (LR.ret (((3 : Int), v10, wrap64 (v2 + z0.1)), o4 ++ [wrap64 (wrap64 (v10 * b2_1) + v2)], z1)) else Z2g k z1 b2_0 b2_1 b3_0 b3_1 b3_2 (o4 ++ [wrap64 (wrap64 (v10 * b2_1) + v2)]) v1 (wrap64 (v2 + z0.1)) (wrap64 ((0 : Int) - z0.1)) (wrap64 (v10 + 1)) else if decide (wrap64 (v2 + z0.1) < 0) = true then some (LR.ret (((3 : Int), v10, wrap64 (v2 + z0.1)), o4 ++ [wrap64 (wrap64 (v10 * b2_1) + v2)], List.set o1 (Int.toNat (wrap64 (wrap64 (v10 * b2_1) + v2))) (Prod.fst (List.getD o1 (Int.toNat (wrap64 (wrap64 (v10 * b2_1) + v2))) ((0 : Int), (0 : Int))), wrap64 ((1 : Int) - Prod.snd (List.getD o1 (Int.toNat (wrap64 (wrap64 (v10 * b2_1) + v2))) ((0 : Int), (0 : Int))))))) else if decide (wrap64 (v2 + z0.1) ≥ b2_1) = true then some (LR.ret (((3 : Int), v10, wrap64 (v2 + z0.1)), o4 ++ [wrap64 (wrap64 (v10 * b2_1) + v2)], List.set o1 (Int.toNat (wrap64 (wrap64 (v10 * b2_1) + v2))) (Prod.fst (List.getD o1 (Int.toNat (wrap64 (wrap64 (v10 * b2_1) + v2))) ((0 : Int), (0 : Int))), wrap64 ((1 : Int) - Prod.snd (List.getD o1 (Int.toNat (wrap64 (wrap64 (v10 * b2_1) + v2))) ((0 : Int), (0 : Int))))))) else Z2g k (List.set o1 (Int.toNat (wrap64 (wrap64 (v10 * b2_1) + v2))) (Prod.fst (List.getD o1 (Int.toNat (wrap64 (wrap64 (v10 * b2_1) + v2))) ((0 : Int), (0 : Int))), wrap64 ((1 : Int) - Prod.snd (List.getD o1 (Int.toNat (wrap64 (wrap64 (v10 * b2_1) + v2))) ((0 : Int), (0 : Int)))))) b2_0 b2_1 b3_0 b3_1 b3_2 (o4 ++ [wrap64 (wrap64 (v10 * b2_1) + v2)]) v1 (wrap64 (v2 + z0.1)) (wrap64 ((0 : Int) - z0.1)) (wrap64 (v10 + 1)) else none else none else if decide (Prod.fst (List.getD o1 (Int.toNat (wrap64 (wrap64 (v10 * b2_1) + v2))) ((0 : Int), (0 : Int))) = 6) = true then Option.bind (Z9r k (b2_0, b2_1, o1) v1 (wrap64 (wrap64 (v10 * b2_1) + v2))) fun z2 => if decide (wrap64 (v2 + z0.1) < 0) = true then some (LR.ret (((3 : Int), v10, wrap64 (v2 + z0.1)), o4 ++ [wrap64 (wrap64 (v10 * b2_1) + v2)], z2)) else if decide (wrap64 (v2 + z0.1) ≥ b2_1) = true then some (LR.ret (((3 : Int), v10, wrap64 (v2 + z0.1)), o4 ++ [wrap64 (wrap64 (v10 * b2_1) + v2)], z2)) else Z2g k z2 b2_0 b2_1 b3_0 b3_1 b3_2 (o4 ++ [wrap64 (wrap64 (v10 * b2_1) + v2)]) v1 (wrap64 (v2 + z0.1)) (wrap64 ((0 : Int) - z0.1)) (wrap64 (v10 + 1)) else if decide (wrap64 (v2 + z0.1) < 0) = true then some (LR.ret (((3 : Int), v10, wrap64 (v2 + z0.1)), o4 ++ [wrap64 (wrap64 (v10 * b2_1) + v2)], o1)) else if decide (wrap64 (v2 + z0.1) ≥ b2_1) = true then some (LR.ret (((3 : Int), v10, wrap64 (v2 + z0.1)), o4 ++ [wrap64 (wrap64 (v10 * b2_1) + v2)], o1)) else Z2g k o1 b2_0 b2_1 b3_0 b3_1 b3_2 (o4 ++ [wrap64 (wrap64 (v10 * b2_1) + v2)]) v1 (wrap64 (v2 + z0.1)) (wrap64 ((0 : Int) - z0.1)) (wrap64 (v10 + 1)) else none else none else none else some (LR.go (o1, b2_0, b2_1, b3_0, b3_1, b3_2, o4, v2))
noncomputable def Zju : Spec := Spec.mk [.ro, Oe, Obq, O3, O4] [(1, .at (.snap 0 I6)), (2, .at (.int .i64)), (3, .at (.ptr 2 0)), (6, .at (.ptr 3 0)), (8, .at (.sl 4)), (9, .at (.int .i64)), (10, .at (.int .i64))]
noncomputable def ZF2 : Spec := Spec.mk [.ro, Oe, Obq, O3, O4] [(2, .at (.int .i64)), (3, .at (.ptr 2 0)), (6, .at (.ptr 3 0)), (8, .at (.sl 4))]
noncomputable def Z8Z : LoopDef (Tup Zdd × OutD) := .rets Zju ZF2 (List (Int × Int) × Int × Int × Int × Int × Int × List Int × Int) ((Int × Int × Int) × List Int × List (Int × Int)) (fun k x => Z2g k x.1.2.1 x.1.2.2.1.1 x.1.2.2.1.2.1 x.1.2.2.2.1.1 x.1.2.2.2.1.2.1 x.1.2.2.2.1.2.2.1 x.1.2.2.2.2.1 x.2.1 x.2.2.1 x.2.2.2.2.2.2.1 x.2.2.2.2.2.2.2.1) (fun z => (((), z.1, (z.2.1, z.2.2.1, (), ()), (z.2.2.2.1, z.2.2.2.2.1, z.2.2.2.2.2.1, ()), z.2.2.2.2.2.2.1, ()), (z.2.2.2.2.2.2.2, (), (), (), ()))) (fun y => (y.1.2.1, y.1.2.2.1.1, y.1.2.2.1.2.1, y.1.2.2.2.1.1, y.1.2.2.2.1.2.1, y.1.2.2.2.1.2.2.1, y.1.2.2.2.2.1, y.2.1)) (fun _ => rfl) Zm1 Zhe Zom
noncomputable def Z73 : Nat → Int × Int × List (Int × Int) → List Int → Int → Option ((Int × Int × Int) × List Int × List (Int × Int))
 | 0, _, _, _ => none
 | k + 1, p0, p1, p2 =>
  Option.bind (Z2g k p0.2.2 p0.1 p0.2.1 (0 : Int) (0 : Int) (0 : Int) [] p1 p2 (0 : Int) (0 : Int)) fun z3 => LR.on z3 (fun y3 => some (((1 : Int), y3.2.1, y3.2.2.2.2.2.2.2), y3.2.2.2.2.2.2.1, y3.1)) fun r3 => some r3
noncomputable def Z7a : FnDef := .of ZAo Zdd ((Int × Int × Int) × List Int × List (Int × Int)) (fun k x => Z73 k x.1 x.2.1 x.2.2.1) Zm1 Zhe Zom
noncomputable def ZjI : Code := Tryz.f40.body.getD .skip
noncomputable def Zb0 : Ctx (Tup Zdd × OutD) := { T := T, G := [(70, Z4i.E), (71, Z38.E)], mvs := [], no := 1, n := 89, res := resOf T ZAo Zdd Tryz.f40.results.toList, loops := [(0, Z8Z.E)], regs := [], conds := [], cuts := [] }
theorem ZA9 (k : Nat) : EnvOK Tryz.prog k Zb0.G := (EnvOK.cons (Zui k) (EnvOK.cons (ZBr k) (EnvOK.nil mixed)))
noncomputable def Zey : Code := (findLoop 0 ZjI).getD .skip
theorem ZEj (k : Nat) (x : Zju.D) : Z8Z.lp (k + 1) x = loopK Zb0 Z8Z 0 Zey k x := by kernel_rfl
theorem ZEF (k : Nat) : LOK Tryz.prog Zb0 k Zey := LOK.by [] (by kernel_rfl) AllOK.nil
theorem ZEk (x : Zju.D) : Z8Z.lp 0 x = none := by kernel_rfl
theorem ZDW (k : Nat) : EOK Tryz.prog Zb0 k Z8Z.E (.block 0 (.loop Zey)) := Z2 T_ok ZA9 ZEk ZEj ZEF k
theorem ZJ8 (k : Nat) (x : Tup Z7a.ps) : Z7a.f (k + 1) x = fnK Z7a Zb0 ZjI k x := by kernel_rfl
theorem ZIW (x : Tup Z7a.ps) : Z7a.f 0 x = none := by kernel_rfl
theorem ZJv (k : Nat) : LOK Tryz.prog Zb0 k ZjI := LOK.by [(Z8Z.E, .block 0 (.loop Zey))] (by kernel_rfl) (AllOK.cons (ZDW k) AllOK.nil)
theorem ZAt (k : Nat) : SoundAt Tryz.prog k 40 Z7a.E := @Z0 Tryz.prog Z7a Zb0 40 Tryz.f40 ZjI (by kernel_rfl) (by kernel_rfl) (by kernel_rfl) Tryz.func40 (by kernel_rfl) (by kernel_rfl) (by kernel_rfl) T_ok ZA9 ZJv ZIW ZJ8 k
noncomputable def Z23 : List PK := [PK.mk .bool false none false none]
noncomputable def Zka : List PK := [PK.mk (.pair I6 (.pair I6 (.pair (.slice 76 P6) (.pair (.slice 3 I6) (.slice 3 I6))))) true none false none]
noncomputable def Z5S (r : Bool) : Tup Z23 × OutD := ((r, ()), none)
noncomputable def Z61 : Tup Z23 × OutD → Option (Bool)
 | (a, none) => some (a.1)
 | _ => none
theorem Z7n : ∀ b r, Z61 b = some r → Z5S r = b := by
 rintro ⟨a, _ | _⟩ r h <;> cases h; rfl
noncomputable def Z3h : Nat → Int → Int → List (Int × Int) → List Int → List Int → List (Int × Int) → Int → Int → Option (LR (Int × Int × List (Int × Int) × List Int × List Int) Bool)
 | 0, _, _, _, _, _, _, _, _ => none
 | k + 1, b1_0, b1_1, b1_2, b1_3, b1_4, v61, v62, v63 =>
  if decide (v63 < v62) = true then if (0 : Int) ≤ v63 then if v63 < (↑(List.length v61) : Int) then Option.bind (Z8a k (Prod.fst (List.getD v61 (Int.toNat v63) ((0 : Int), (0 : Int))), Prod.snd (List.getD v61 (Int.toNat v63) ((0 : Int), (0 : Int))))) fun z0 => if (!z0) = true then some (LR.ret false) else if decide (Prod.fst (List.getD v61 (Int.toNat v63) ((0 : Int), (0 : Int))) = 0) = true then some (LR.ret false) else if (0 : Int) ≤ v63 then if v63 ≤ (↑(List.length b1_2) : Int) then Option.bind (ZI k (List.take (Int.toNat v63 - Int.toNat (0 : Int)) (List.drop (Int.toNat (0 : Int)) b1_2)) (Prod.fst (List.getD v61 (Int.toNat v63) ((0 : Int), (0 : Int))), Prod.snd (List.getD v61 (Int.toNat v63) ((0 : Int), (0 : Int))))) fun z1 => if z1 = true then some (LR.ret false) else Z3h k b1_0 b1_1 b1_2 b1_3 b1_4 v61 v62 (wrap64 (v63 + 1)) else none else none else none else none else some (LR.go (b1_0, b1_1, b1_2, b1_3, b1_4))
noncomputable def Zbx : Spec := Spec.mk [.ro, O1] [(1, .at (.ptr 1 0)), (61, .at (.snap 0 P6)), (62, .at (.int .i64)), (63, .at (.int .i64))]
noncomputable def ZrY : Spec := Spec.mk [.ro, O1] [(1, .at (.ptr 1 0))]
noncomputable def Z2T : LoopDef (Tup Z23 × OutD) := .rets Zbx ZrY (Int × Int × List (Int × Int) × List Int × List Int) (Bool) (fun k x => Z3h k x.1.2.1.1 x.1.2.1.2.1 x.1.2.1.2.2.1 x.1.2.1.2.2.2.1 x.1.2.1.2.2.2.2.1 x.2.2.1 x.2.2.2.1 x.2.2.2.2.1) (fun z => (((), (z.1, z.2.1, z.2.2.1, z.2.2.2.1, z.2.2.2.2, ()), ()), ((), ()))) (fun y => (y.1.2.1.1, y.1.2.1.2.1, y.1.2.1.2.2.1, y.1.2.1.2.2.2.1, y.1.2.1.2.2.2.2.1)) (fun _ => rfl) Z5S Z61 Z7n
noncomputable def Z3y : Nat → Int → Int → List (Int × Int) → List Int → List Int → List Int → Int → Int → Option (LR (Int × Int × List (Int × Int) × List Int × List Int) Bool)
 | 0, _, _, _, _, _, _, _, _ => none
 | k + 1, b1_0, b1_1, b1_2, b1_3, b1_4, v86, v87, v88 =>
  if decide (v88 < v87) = true then if (0 : Int) ≤ v88 then if v88 < (↑(List.length v86) : Int) then if decide (List.getD v86 (Int.toNat v88) (0 : Int) < 0) = true then some (LR.ret false) else if decide (List.getD v86 (Int.toNat v88) (0 : Int) ≥ b1_1) = true then some (LR.ret false) else if (0 : Int) ≤ v88 then if v88 < (↑(List.length b1_4) : Int) then if decide (List.getD b1_4 (Int.toNat v88) (0 : Int) < 0) = true then some (LR.ret false) else if (0 : Int) ≤ v88 then if v88 < (↑(List.length b1_4) : Int) then if decide (List.getD b1_4 (Int.toNat v88) (0 : Int) > wrap64 (b1_1 + 1)) = true then some (LR.ret false) else Z3y k b1_0 b1_1 b1_2 b1_3 b1_4 v86 v87 (wrap64 (v88 + 1)) else none else none else none else none else none else none else some (LR.go (b1_0, b1_1, b1_2, b1_3, b1_4))
noncomputable def Zbz : Spec := Spec.mk [.ro, O1] [(1, .at (.ptr 1 0)), (86, .at (.snap 0 I6)), (87, .at (.int .i64)), (88, .at (.int .i64))]
noncomputable def Zqj : Spec := Spec.mk [.ro, O1] [(1, .at (.ptr 1 0))]
noncomputable def Z31 : LoopDef (Tup Z23 × OutD) := .rets Zbz Zqj (Int × Int × List (Int × Int) × List Int × List Int) (Bool) (fun k x => Z3y k x.1.2.1.1 x.1.2.1.2.1 x.1.2.1.2.2.1 x.1.2.1.2.2.2.1 x.1.2.1.2.2.2.2.1 x.2.2.1 x.2.2.2.1 x.2.2.2.2.1) (fun z => (((), (z.1, z.2.1, z.2.2.1, z.2.2.2.1, z.2.2.2.2, ()), ()), ((), ()))) (fun y => (y.1.2.1.1, y.1.2.1.2.1, y.1.2.1.2.2.1, y.1.2.1.2.2.2.1, y.1.2.1.2.2.2.2.1)) (fun _ => rfl) Z5S Z61 Z7n
noncomputable def Z3q : Nat → Int → Int → List (Int × Int) → List Int → List Int → Int → Int → Option (LR Unit Bool)
 | 0, _, _, _, _, _, _, _ => none
 | k + 1, b1_0, b1_1, b1_2, b1_3, b1_4, v7, v8 =>
  if decide (v8 < wrap64 (b1_0 * b1_1)) = true then if decide (wrap64 (v7 * wrap64 ((↑(List.length b1_2) : Int) + 1)) > 7000) = true then some (LR.ret false) else Z3q k b1_0 b1_1 b1_2 b1_3 b1_4 (wrap64 (v7 * wrap64 ((↑(List.length b1_2) : Int) + 1))) (wrap64 (v8 + 1)) else some (LR.go ())
noncomputable def ZbQ : Spec := Spec.mk [.ro, O1] [(1, .at (.ptr 1 0)), (7, .at (.int .i64)), (8, .at (.int .i64))]
noncomputable def Zqz : Spec := Spec.mk [.ro] []
noncomputable def Z30 : LoopDef (Tup Z23 × OutD) := .rets ZbQ Zqz (Unit) (Bool) (fun k x => Z3q k x.1.2.1.1 x.1.2.1.2.1 x.1.2.1.2.2.1 x.1.2.1.2.2.2.1 x.1.2.1.2.2.2.2.1 x.2.2.1 x.2.2.2.1) (fun z => (((), ()), (()))) (fun y => ()) (fun _ => rfl) Z5S Z61 Z7n
noncomputable def Z35 : Nat → Int × Int × List (Int × Int) × List Int × List Int → Option Bool
 | 0, _ => none
 | k + 1, p0 =>
  if decide (p0.1 < 1) = true then some false else if decide (p0.1 > 4) = true then some false else if decide (p0.2.1 < 1) = true then some false else if decide (p0.2.1 > 4) = true then some false else if decide ((↑(List.length p0.2.2.1) : Int) < 1) = true then some false else if decide ((↑(List.length p0.2.2.1) : Int) > 6) = true then some false else if decide ((↑(List.length p0.2.2.2.1) : Int) < 1) = true then some false else if decide ((↑(List.length p0.2.2.2.1) : Int) > 8) = true then some false else if decide ((↑(List.length p0.2.2.2.2) : Int) ≠ (↑(List.length p0.2.2.2.1) : Int)) = true then some false else Option.bind (Z3h k p0.1 p0.2.1 p0.2.2.1 p0.2.2.2.1 p0.2.2.2.2 p0.2.2.1 (↑(List.length p0.2.2.1) : Int) (0 : Int)) fun z2 => LR.on z2 (fun y2 => Option.bind (Z3y k y2.1 y2.2.1 y2.2.2.1 y2.2.2.2.1 y2.2.2.2.2 y2.2.2.2.1 (↑(List.length y2.2.2.2.1) : Int) (0 : Int)) fun z3 => LR.on z3 (fun y3 => Option.bind (Z3q k y3.1 y3.2.1 y3.2.2.1 y3.2.2.2.1 y3.2.2.2.2 (1 : Int) (0 : Int)) fun z4 => LR.on z4 (fun y4 => some true) fun r4 => some r4) fun r3 => some r3) fun r2 => some r2
noncomputable def ZO : FnDef := .of Zka Z23 (Bool) (fun k x => Z35 k x.1) Z5S Z61 Z7n
noncomputable def Z4C : Code := Tryz.f43.body.getD .skip
noncomputable def Zt : Ctx (Tup Z23 × OutD) := { T := T, G := [(74, Z2f.E), (48, Z9.E)], mvs := [], no := 0, n := 138, res := resOf T Zka Z23 Tryz.f43.results.toList, loops := [(0, Z2T.E), (2, Z31.E), (4, Z30.E)], regs := [], conds := [], cuts := [] }
theorem Zaz (k : Nat) : EnvOK Tryz.prog k Zt.G := (EnvOK.cons (ZfO k) (EnvOK.cons (Z6U k) (EnvOK.nil mixed)))
noncomputable def Z7C : Code := (findLoop 0 Z4C).getD .skip
theorem ZrI (k : Nat) (x : Zbx.D) : Z2T.lp (k + 1) x = loopK Zt Z2T 0 Z7C k x := by kernel_rfl
theorem Zrr (k : Nat) : LOK Tryz.prog Zt k Z7C := LOK.by [] (by kernel_rfl) AllOK.nil
theorem ZrA (x : Zbx.D) : Z2T.lp 0 x = none := by kernel_rfl
theorem Zp9 (k : Nat) : EOK Tryz.prog Zt k Z2T.E (.block 0 (.loop Z7C)) := Z2 T_ok Zaz ZrA ZrI Zrr k
noncomputable def Z7T : Code := (findLoop 2 Z4C).getD .skip
theorem Zre (k : Nat) (x : Zbz.D) : Z31.lp (k + 1) x = loopK Zt Z31 2 Z7T k x := by kernel_rfl
theorem ZrG (k : Nat) : LOK Tryz.prog Zt k Z7T := LOK.by [] (by kernel_rfl) AllOK.nil
theorem Zq3 (x : Zbz.D) : Z31.lp 0 x = none := by kernel_rfl
theorem ZpK (k : Nat) : EOK Tryz.prog Zt k Z31.E (.block 2 (.loop Z7T)) := Z2 T_ok Zaz Zq3 Zre ZrG k
noncomputable def Z85 : Code := (findLoop 4 Z4C).getD .skip
theorem Zr5 (k : Nat) (x : ZbQ.D) : Z30.lp (k + 1) x = loopK Zt Z30 4 Z85 k x := by kernel_rfl
theorem Zrm (k : Nat) : LOK Tryz.prog Zt k Z85 := LOK.by [] (by kernel_rfl) AllOK.nil
theorem ZpT (x : ZbQ.D) : Z30.lp 0 x = none := by kernel_rfl
theorem Zpz (k : Nat) : EOK Tryz.prog Zt k Z30.E (.block 4 (.loop Z85)) := Z2 T_ok Zaz ZpT Zr5 Zrm k
theorem Zxn (k : Nat) (x : Tup ZO.ps) : ZO.f (k + 1) x = fnK ZO Zt Z4C k x := by kernel_rfl
theorem Zxu (x : Tup ZO.ps) : ZO.f 0 x = none := by kernel_rfl
theorem ZxZ (k : Nat) : LOK Tryz.prog Zt k Z4C := LOK.by [(Z2T.E, .block 0 (.loop Z7C)), (Z31.E, .block 2 (.loop Z7T)), (Z30.E, .block 4 (.loop Z85))] (by kernel_rfl) (AllOK.cons (Zp9 k) (AllOK.cons (ZpK k) (AllOK.cons (Zpz k) AllOK.nil)))
theorem Zai (k : Nat) : SoundAt Tryz.prog k 43 ZO.E := @Z0 Tryz.prog ZO Zt 43 Tryz.f43 Z4C (by kernel_rfl) (by kernel_rfl) (by kernel_rfl) Tryz.func43 (by kernel_rfl) (by kernel_rfl) (by kernel_rfl) T_ok Zaz ZxZ Zxu Zxn k
noncomputable def Z8h : List PK := [PK.mk .bool false none false none]
noncomputable def ZtT : List PK := [PK.mk (.pair I6 (.pair I6 (.pair (.slice 76 P6) (.pair (.slice 3 I6) (.slice 3 I6))))) true none false none]
noncomputable def ZeC (r : Bool) : Tup Z8h × OutD := ((r, ()), none)
noncomputable def Zew : Tup Z8h × OutD → Option (Bool)
 | (a, none) => some (a.1)
 | _ => none
theorem Zfx : ∀ b r, Zew b = some r → ZeC r = b := by
 rintro ⟨a, _ | _⟩ r h <;> cases h; rfl
noncomputable def Z84 : Nat → Int → Int → List (Int × Int) → List Int → List Int → Int → Int → List (Int × Int) → Int → Int → List (Int × Int) → Int → Int → Option (LR (Int × Int × List (Int × Int) × List Int × List Int × List (Int × Int) × Int × Int) Bool)
 | 0, _, _, _, _, _, _, _, _, _, _, _, _, _ => none
 | k + 1, b1_0, b1_1, b1_2, b1_3, b1_4, b2_0, b2_1, v8, v9, v10, v26, v27, v28 =>
  if decide (v28 < v27) = true then if (0 : Int) ≤ v28 then if v28 < (↑(List.length v26) : Int) then if (decide (b2_0 = Prod.fst (List.getD v26 (Int.toNat v28) ((0 : Int), (0 : Int)))) && (decide (b2_1 = Prod.snd (List.getD v26 (Int.toNat v28) ((0 : Int), (0 : Int)))) && true)) = true then some (LR.ret false) else Z84 k b1_0 b1_1 b1_2 b1_3 b1_4 b2_0 b2_1 v8 v9 v10 v26 v27 (wrap64 (v28 + 1)) else none else none else some (LR.go (b1_0, b1_1, b1_2, b1_3, b1_4, v8, v9, v10))
noncomputable def Zgk : Spec := Spec.mk [.ro, O1, Of] [(1, .at (.ptr 1 0)), (4, .at (.ptr 2 0)), (8, .at (.snap 0 P6)), (9, .at (.int .i64)), (10, .at (.int .i64)), (26, .at (.snap 0 P6)), (27, .at (.int .i64)), (28, .at (.int .i64))]
noncomputable def ZBk : Spec := Spec.mk [.ro, O1] [(1, .at (.ptr 1 0)), (8, .at (.snap 0 P6)), (9, .at (.int .i64)), (10, .at (.int .i64))]
noncomputable def Z6S : LoopDef (Tup Z8h × OutD) := .rets Zgk ZBk (Int × Int × List (Int × Int) × List Int × List Int × List (Int × Int) × Int × Int) (Bool) (fun k x => Z84 k x.1.2.1.1 x.1.2.1.2.1 x.1.2.1.2.2.1 x.1.2.1.2.2.2.1 x.1.2.1.2.2.2.2.1 x.1.2.2.1.1 x.1.2.2.1.2.1 x.2.2.2.1 x.2.2.2.2.1 x.2.2.2.2.2.1 x.2.2.2.2.2.2.1 x.2.2.2.2.2.2.2.1 x.2.2.2.2.2.2.2.2.1) (fun z => (((), (z.1, z.2.1, z.2.2.1, z.2.2.2.1, z.2.2.2.2.1, ()), ()), ((), z.2.2.2.2.2.1, z.2.2.2.2.2.2.1, z.2.2.2.2.2.2.2, ()))) (fun y => (y.1.2.1.1, y.1.2.1.2.1, y.1.2.1.2.2.1, y.1.2.1.2.2.2.1, y.1.2.1.2.2.2.2.1, y.2.2.1, y.2.2.2.1, y.2.2.2.2.1)) (fun _ => rfl) ZeC Zew Zfx
noncomputable def Z7I : Nat → Int → Int → List (Int × Int) → List Int → List Int → List (Int × Int) → Int → Int → Option (LR (Int × Int × List (Int × Int) × List Int × List Int) Bool)
 | 0, _, _, _, _, _, _, _, _ => none
 | k + 1, b1_0, b1_1, b1_2, b1_3, b1_4, v8, v9, v10 =>
  if decide (v10 < v9) = true then if (0 : Int) ≤ v10 then if v10 < (↑(List.length v8) : Int) then Option.bind (ZcV k (Prod.fst (List.getD v8 (Int.toNat v10) ((0 : Int), (0 : Int))), Prod.snd (List.getD v8 (Int.toNat v10) ((0 : Int), (0 : Int))))) fun z0 => if (!z0) = true then some (LR.ret false) else if decide (Prod.fst (List.getD v8 (Int.toNat v10) ((0 : Int), (0 : Int))) = 0) = true then some (LR.ret false) else if (0 : Int) ≤ v10 then if v10 ≤ (↑(List.length b1_2) : Int) then Option.bind (Z84 k b1_0 b1_1 b1_2 b1_3 b1_4 (Prod.fst (List.getD v8 (Int.toNat v10) ((0 : Int), (0 : Int)))) (Prod.snd (List.getD v8 (Int.toNat v10) ((0 : Int), (0 : Int)))) v8 v9 v10 (List.take (Int.toNat v10 - Int.toNat (0 : Int)) (List.drop (Int.toNat (0 : Int)) b1_2)) (↑(List.length (List.take (Int.toNat v10 - Int.toNat (0 : Int)) (List.drop (Int.toNat (0 : Int)) b1_2))) : Int) (0 : Int)) fun z1 => LR.on z1 (fun y1 => Z7I k y1.1 y1.2.1 y1.2.2.1 y1.2.2.2.1 y1.2.2.2.2.1 y1.2.2.2.2.2.1 y1.2.2.2.2.2.2.1 (wrap64 (y1.2.2.2.2.2.2.2 + 1))) fun r1 => some (LR.ret r1) else none else none else none else none else some (LR.go (b1_0, b1_1, b1_2, b1_3, b1_4))
noncomputable def ZgD : Spec := Spec.mk [.ro, O1] [(1, .at (.ptr 1 0)), (8, .at (.snap 0 P6)), (9, .at (.int .i64)), (10, .at (.int .i64))]
noncomputable def ZAY : Spec := Spec.mk [.ro, O1] [(1, .at (.ptr 1 0))]
noncomputable def Z6d : LoopDef (Tup Z8h × OutD) := .rets ZgD ZAY (Int × Int × List (Int × Int) × List Int × List Int) (Bool) (fun k x => Z7I k x.1.2.1.1 x.1.2.1.2.1 x.1.2.1.2.2.1 x.1.2.1.2.2.2.1 x.1.2.1.2.2.2.2.1 x.2.2.1 x.2.2.2.1 x.2.2.2.2.1) (fun z => (((), (z.1, z.2.1, z.2.2.1, z.2.2.2.1, z.2.2.2.2, ()), ()), ((), ()))) (fun y => (y.1.2.1.1, y.1.2.1.2.1, y.1.2.1.2.2.1, y.1.2.1.2.2.2.1, y.1.2.1.2.2.2.2.1)) (fun _ => rfl) ZeC Zew Zfx
noncomputable def Zda : Nat → Int × Int × List (Int × Int) × List Int × List Int → Option Bool
 | 0, _ => none
 | k + 1, p0 =>
  Option.bind (Z7I k p0.1 p0.2.1 p0.2.2.1 p0.2.2.2.1 p0.2.2.2.2 p0.2.2.1 (↑(List.length p0.2.2.1) : Int) (0 : Int)) fun z2 => LR.on z2 (fun y2 => Option.bind (ZW k y2.1 (1 : Int) (4 : Int)) fun z3 => if (!z3) = true then some false else Option.bind (ZW k y2.2.1 (1 : Int) (4 : Int)) fun z4 => if (!z4) = true then some false else Option.bind (ZW k (↑(List.length y2.2.2.1) : Int) (1 : Int) (6 : Int)) fun z5 => if (!z5) = true then some false else Option.bind (ZW k (↑(List.length y2.2.2.2.1) : Int) (1 : Int) (8 : Int)) fun z6 => if (!z6) = true then some false else if decide ((↑(List.length y2.2.2.2.2) : Int) ≠ (↑(List.length y2.2.2.2.1) : Int)) = true then some false else Option.bind (Z9n k y2.2.2.2.1 (0 : Int) (wrap64 (y2.2.1 - 1))) fun z7 => if z7 = true then Option.bind (Z9n k y2.2.2.2.2 (0 : Int) (wrap64 (y2.2.1 + 1))) fun z8 => if z8 = true then Option.bind (Z9d k (y2.1, y2.2.1, y2.2.2.1, y2.2.2.2.1, y2.2.2.2.2)) fun z9 => some (decide (z9 ≤ 7000)) else some false else some false) fun r2 => some r2
noncomputable def Z4n : FnDef := .of ZtT Z8h (Bool) (fun k x => Zda k x.1) ZeC Zew Zfx
noncomputable def Zd9 : Code := Tryz.f45.body.getD .skip
noncomputable def Z3g : Ctx (Tup Z8h × OutD) := { T := T, G := [(75, Z4j.E), (76, Z1r.E), (77, Z4d.E), (78, Z3G.E)], mvs := [], no := 0, n := 89, res := resOf T ZtT Z8h Tryz.f45.results.toList, loops := [(2, Z6S.E), (0, Z6d.E)], regs := [], conds := [], cuts := [] }
theorem Zkj (k : Nat) : EnvOK Tryz.prog k Z3g.G := (EnvOK.cons (Ztt k) (EnvOK.cons (Z8T k) (EnvOK.cons (Zlz k) (EnvOK.cons (Zqo k) (EnvOK.nil mixed)))))
noncomputable def Zca : Code := (findLoop 2 Zd9).getD .skip
theorem ZBd (k : Nat) (x : Zgk.D) : Z6S.lp (k + 1) x = loopK Z3g Z6S 2 Zca k x := by kernel_rfl
theorem ZBC (k : Nat) : LOK Tryz.prog Z3g k Zca := LOK.by [] (by kernel_rfl) AllOK.nil
theorem ZBe (x : Zgk.D) : Z6S.lp 0 x = none := by kernel_rfl
theorem Zyu (k : Nat) : EOK Tryz.prog Z3g k Z6S.E (.block 2 (.loop Zca)) := Z2 T_ok Zkj ZBe ZBd ZBC k
noncomputable def ZcG : Code := (findLoop 0 Zd9).getD .skip
theorem ZBS (k : Nat) (x : ZgD.D) : Z6d.lp (k + 1) x = loopK Z3g Z6d 0 ZcG k x := by kernel_rfl
theorem ZCj (k : Nat) : LOK Tryz.prog Z3g k ZcG := LOK.by [(Z6S.E, .block 2 (.loop Zca))] (by kernel_rfl) (AllOK.cons (Zyu k) AllOK.nil)
theorem ZBK (x : ZgD.D) : Z6d.lp 0 x = none := by kernel_rfl
theorem ZzT (k : Nat) : EOK Tryz.prog Z3g k Z6d.E (.block 0 (.loop ZcG)) := Z2 T_ok Zkj ZBK ZBS ZCj k
theorem ZGQ (k : Nat) (x : Tup Z4n.ps) : Z4n.f (k + 1) x = fnK Z4n Z3g Zd9 k x := by kernel_rfl
theorem ZGj (x : Tup Z4n.ps) : Z4n.f 0 x = none := by kernel_rfl
theorem ZH4 (k : Nat) : LOK Tryz.prog Z3g k Zd9 := LOK.by [(Z6d.E, .block 0 (.loop ZcG))] (by kernel_rfl) (AllOK.cons (ZzT k) AllOK.nil)
theorem ZtH (k : Nat) : SoundAt Tryz.prog k 45 Z4n.E := @Z0 Tryz.prog Z4n Z3g 45 Tryz.f45 Zd9 (by kernel_rfl) (by kernel_rfl) (by kernel_rfl) Tryz.func45 (by kernel_rfl) (by kernel_rfl) (by kernel_rfl) T_ok Zkj ZH4 ZGj ZGQ k
noncomputable def Zd0 : List PK := [PK.mk .bool false none false none]
noncomputable def Zup : List PK := [PK.mk (.pair I6 (.slice 3 I6)) true none false none]
noncomputable def ZqB (r : Bool) : Tup Zd0 × OutD := ((r, ()), none)
noncomputable def Zqq : Tup Zd0 × OutD → Option (Bool)
 | (a, none) => some (a.1)
 | _ => none
theorem Zzq : ∀ b r, Zqq b = some r → ZqB r = b := by
 rintro ⟨a, _ | _⟩ r h <;> cases h; rfl
noncomputable def ZfP : Nat → Int × List Int → Option Bool
 | 0, _ => none
 | k + 1, p0 =>
  Option.bind (ZdC k p0.1) fun z0 => if z0 = true then if IntKind.wrap IntKind.u64 p0.1 < 0 then none else if decide ((↑(List.length p0.2) : Int) = shlS (1 : Int) (IntKind.wrap IntKind.u64 p0.1)) = true then Option.bind (Z9n k p0.2 (0 : Int) (1 : Int)) fun z1 => some z1 else some false else some false
noncomputable def Z5F : FnDef := .of Zup Zd0 (Bool) (fun k x => ZfP k x.1) ZqB Zqq Zzq
noncomputable def Zkw : Code := Tryz.f65.body.getD .skip
noncomputable def ZfV : Ctx (Tup Zd0 × OutD) := { T := T, G := [(101, Z3U.E), (77, Z4d.E)], mvs := [], no := 0, n := 21, res := resOf T Zup Zd0 Tryz.f65.results.toList, loops := [], regs := [], conds := [], cuts := [] }
theorem ZHC (k : Nat) : EnvOK Tryz.prog k ZfV.G := (EnvOK.cons (ZDD k) (EnvOK.cons (Zlz k) (EnvOK.nil mixed)))
theorem ZHT (k : Nat) (x : Tup Z5F.ps) : Z5F.f (k + 1) x = fnK Z5F ZfV Zkw k x := by kernel_rfl
theorem ZGz (x : Tup Z5F.ps) : Z5F.f 0 x = none := by kernel_rfl
theorem ZGd (k : Nat) : LOK Tryz.prog ZfV k Zkw := LOK.by [] (by kernel_rfl) AllOK.nil
theorem ZHf (k : Nat) : SoundAt Tryz.prog k 65 Z5F.E := @Z0 Tryz.prog Z5F ZfV 65 Tryz.f65 Zkw (by kernel_rfl) (by kernel_rfl) (by kernel_rfl) Tryz.func65 (by kernel_rfl) (by kernel_rfl) (by kernel_rfl) T_ok ZHC ZGd ZGz ZHT k
noncomputable def Z3M : List PK := [PK.mk (.slice 58 T6) false none false none]
noncomputable def Zl4 : List PK := [PK.mk (.pair I6 (.pair I6 (.slice 76 P6))) true none false none]
noncomputable def Zkc (r : List (Int × Int × Int)) : Tup Z3M × OutD := ((r, ()), none)
noncomputable def Zk0 : Tup Z3M × OutD → Option (List (Int × Int × Int))
 | (a, none) => some (a.1)
 | _ => none
theorem Zqx : ∀ b r, Zk0 b = some r → Zkc r = b := by
 rintro ⟨a, _ | _⟩ r h <;> cases h; rfl
noncomputable def Z15 : Nat → Int → Int → List (Int × Int) → List (Int × Int × Int) → Int → Int → Int → Int → List (Int × Int) → Int → Int → Option (Int × Int × List (Int × Int) × List (Int × Int × Int) × List (Int × Int) × Int × Int)
 | 0, _, _, _, _, _, _, _, _, _, _, _ => none
 | k + 1, b1_0, b1_1, b1_2, o2, b3_0, b3_1, v4, v6, v8, v9, v10 =>
  if decide (v6 ≤ 3) = true then Option.bind (ZfN k (b3_0, b3_1) v6) fun z0 => if z0 = true then if b1_1 = 0 then none else if b1_1 = 0 then none else if List.length o2 + List.length [(v6, wrap64 (Int.tdiv v4 b1_1), Int.tmod v4 b1_1)] ≤ (140737488355328 / 24 : Nat) then Z15 k b1_0 b1_1 b1_2 (o2 ++ [(v6, wrap64 (Int.tdiv v4 b1_1), Int.tmod v4 b1_1)]) b3_0 b3_1 v4 (wrap64 (v6 + 1)) v8 v9 v10 else none else Z15 k b1_0 b1_1 b1_2 o2 b3_0 b3_1 v4 (wrap64 (v6 + 1)) v8 v9 v10 else some (b1_0, b1_1, b1_2, o2, v8, v9, v10)
noncomputable def Zcq : Spec := Spec.mk [.ro, O0, Oc, Of] [(1, .at (.ptr 1 0)), (3, .at (.sl 2)), (4, .at (.int .i64)), (5, .at (.ptr 3 0)), (6, .at (.int .i64)), (8, .at (.snap 0 P6)), (9, .at (.int .i64)), (10, .at (.int .i64))]
noncomputable def ZsJ : Spec := Spec.mk [.ro, O0, Oc] [(1, .at (.ptr 1 0)), (3, .at (.sl 2)), (8, .at (.snap 0 P6)), (9, .at (.int .i64)), (10, .at (.int .i64))]
noncomputable def Z3z : LoopDef (Tup Z3M × OutD) := .plain Zcq ZsJ (Int × Int × List (Int × Int) × List (Int × Int × Int) × List (Int × Int) × Int × Int) (fun k x => Z15 k x.1.2.1.1 x.1.2.1.2.1 x.1.2.1.2.2.1 x.1.2.2.1 x.1.2.2.2.1.1 x.1.2.2.2.1.2.1 x.2.2.2.1 x.2.2.2.2.2.1 x.2.2.2.2.2.2.1 x.2.2.2.2.2.2.2.1 x.2.2.2.2.2.2.2.2.1) (fun z => (((), (z.1, z.2.1, z.2.2.1, ()), z.2.2.2.1, ()), ((), (), z.2.2.2.2.1, z.2.2.2.2.2.1, z.2.2.2.2.2.2, ()))) (fun y => (y.1.2.1.1, y.1.2.1.2.1, y.1.2.1.2.2.1, y.1.2.2.1, y.2.2.2.1, y.2.2.2.2.1, y.2.2.2.2.2.1)) (fun _ => rfl)
noncomputable def Z2E : Nat → Int → Int → List (Int × Int) → List (Int × Int × Int) → List (Int × Int) → Int → Int → Option (List (Int × Int × Int))
 | 0, _, _, _, _, _, _, _ => none
 | k + 1, b1_0, b1_1, b1_2, o2, v8, v9, v10 =>
  if decide (v10 < v9) = true then if (0 : Int) ≤ v10 then if v10 < (↑(List.length v8) : Int) then Option.bind (Z15 k b1_0 b1_1 b1_2 o2 (Prod.fst (List.getD v8 (Int.toNat v10) ((0 : Int), (0 : Int)))) (Prod.snd (List.getD v8 (Int.toNat v10) ((0 : Int), (0 : Int)))) v10 (1 : Int) v8 v9 v10) fun z1 => Z2E k z1.1 z1.2.1 z1.2.2.1 z1.2.2.2.1 z1.2.2.2.2.1 z1.2.2.2.2.2.1 (wrap64 (z1.2.2.2.2.2.2 + 1)) else none else none else some o2
noncomputable def Zct : Spec := Spec.mk [.ro, O0, Oc] [(1, .at (.ptr 1 0)), (3, .at (.sl 2)), (8, .at (.snap 0 P6)), (9, .at (.int .i64)), (10, .at (.int .i64))]
noncomputable def ZsB : Spec := Spec.mk [.ro, Oc] [(3, .at (.sl 1))]
noncomputable def Z3r : LoopDef (Tup Z3M × OutD) := .plain Zct ZsB (List (Int × Int × Int)) (fun k x => Z2E k x.1.2.1.1 x.1.2.1.2.1 x.1.2.1.2.2.1 x.1.2.2.1 x.2.2.2.1 x.2.2.2.2.1 x.2.2.2.2.2.1) (fun z => (((), z, ()), ((), ()))) (fun y => (y.1.2.1)) (fun _ => rfl)
noncomputable def Zb3 : Nat → Int × Int × List (Int × Int) → Option (List (Int × Int × Int))
 | 0, _ => none
 | k + 1, p0 =>
  Option.bind (Z2E k p0.1 p0.2.1 p0.2.2 [] p0.2.2 (↑(List.length p0.2.2) : Int) (0 : Int)) fun z2 => some z2
noncomputable def Z2A : FnDef := .of Zl4 Z3M (List (Int × Int × Int)) (fun k x => Zb3 k x.1) Zkc Zk0 Zqx
noncomputable def Z8m : Code := Tryz.f88.body.getD .skip
noncomputable def Z1c : Ctx (Tup Z3M × OutD) := { T := T, G := [(111, Z5D.E)], mvs := [], no := 0, n := 37, res := resOf T Zl4 Z3M Tryz.f88.results.toList, loops := [(2, Z3z.E), (0, Z3r.E)], regs := [], conds := [], cuts := [] }
theorem Zfc (k : Nat) : EnvOK Tryz.prog k Z1c.G := (EnvOK.cons (ZGi k) (EnvOK.nil mixed))
noncomputable def Z8A : Code := (findLoop 2 Z8m).getD .skip
theorem Zst (k : Nat) (x : Zcq.D) : Z3z.lp (k + 1) x = loopK Z1c Z3z 2 Z8A k x := by kernel_rfl
theorem Zs0 (k : Nat) : LOK Tryz.prog Z1c k Z8A := LOK.by [] (by kernel_rfl) AllOK.nil
theorem ZsT (x : Zcq.D) : Z3z.lp 0 x = none := by kernel_rfl
theorem Zql (k : Nat) : EOK Tryz.prog Z1c k Z3z.E (.block 2 (.loop Z8A)) := Z2 T_ok Zfc ZsT Zst Zs0 k
noncomputable def Z8y : Code := (findLoop 0 Z8m).getD .skip
theorem Zso (k : Nat) (x : Zct.D) : Z3r.lp (k + 1) x = loopK Z1c Z3r 0 Z8y k x := by kernel_rfl
theorem Zsb (k : Nat) : LOK Tryz.prog Z1c k Z8y := LOK.by [(Z3z.E, .block 2 (.loop Z8A))] (by kernel_rfl) (AllOK.cons (Zql k) AllOK.nil)
theorem ZsF (x : Zct.D) : Z3r.lp 0 x = none := by kernel_rfl
theorem Zqg (k : Nat) : EOK Tryz.prog Z1c k Z3r.E (.block 0 (.loop Z8y)) := Z2 T_ok Zfc ZsF Zso Zsb k
theorem Zzj (k : Nat) (x : Tup Z2A.ps) : Z2A.f (k + 1) x = fnK Z2A Z1c Z8m k x := by kernel_rfl
theorem ZzR (x : Tup Z2A.ps) : Z2A.f 0 x = none := by kernel_rfl
theorem Zzx (k : Nat) : LOK Tryz.prog Z1c k Z8m := LOK.by [(Z3r.E, .block 0 (.loop Z8y))] (by kernel_rfl) (AllOK.cons (Zqg k) AllOK.nil)
theorem ZzX (k : Nat) : SoundAt Tryz.prog k 88 Z2A.E := @Z0 Tryz.prog Z2A Z1c 88 Tryz.f88 Z8m (by kernel_rfl) (by kernel_rfl) (by kernel_rfl) Tryz.func88 (by kernel_rfl) (by kernel_rfl) (by kernel_rfl) T_ok Zfc Zzx ZzR Zzj k
noncomputable def ZbL : List PK := [PK.mk .bool false none false none]
noncomputable def ZqY : List PK := [PK.mk P6 true none false none, PK.mk I6 false none false none]
noncomputable def Zol (r : Bool) : Tup ZbL × OutD := ((r, ()), none)
noncomputable def Zon : Tup ZbL × OutD → Option (Bool)
 | (a, none) => some (a.1)
 | _ => none
theorem Zwu : ∀ b r, Zon b = some r → Zol r = b := by
 rintro ⟨a, _ | _⟩ r h <;> cases h; rfl
noncomputable def ZbP : Nat → Int × Int → Int → Option Bool
 | 0, _, _ => none
 | k + 1, p0, p1 =>
  if decide (p1 = 1) = true then Option.bind (Z29 k (p0.1, p0.2)) fun z0 => some z0 else if decide (p1 = 2) = true then some true else if decide (p1 = 3) = true then Option.bind (Z29 k (p0.1, p0.2)) fun z1 => if z1 = true then some true else if decide (p0.1 = 1) = true then some true else some (decide (p0.1 = 2)) else some false
noncomputable def Z3i : FnDef := .of ZqY ZbL (Bool) (fun k x => ZbP k x.1 x.2.1) Zol Zon Zwu
noncomputable def Zj2 : Code := Tryz.f91.body.getD .skip
noncomputable def Zeu : Ctx (Tup ZbL × OutD) := { T := T, G := [(114, Z2c.E)], mvs := [], no := 0, n := 26, res := resOf T ZqY ZbL Tryz.f91.results.toList, loops := [], regs := [], conds := [], cuts := [] }
theorem ZEG (k : Nat) : EnvOK Tryz.prog k Zeu.G := (EnvOK.cons (ZlC k) (EnvOK.nil mixed))
theorem ZFE (k : Nat) (x : Tup Z3i.ps) : Z3i.f (k + 1) x = fnK Z3i Zeu Zj2 k x := by kernel_rfl
theorem ZER (x : Tup Z3i.ps) : Z3i.f 0 x = none := by kernel_rfl
theorem ZF5 (k : Nat) : LOK Tryz.prog Zeu k Zj2 := LOK.by [] (by kernel_rfl) AllOK.nil
theorem ZrC (k : Nat) : SoundAt Tryz.prog k 91 Z3i.E := @Z0 Tryz.prog Z3i Zeu 91 Tryz.f91 Zj2 (by kernel_rfl) (by kernel_rfl) (by kernel_rfl) Tryz.func91 (by kernel_rfl) (by kernel_rfl) (by kernel_rfl) T_ok ZEG ZF5 ZER ZFE k
noncomputable def Z5s : List PK := [PK.mk T6 true none false none]
noncomputable def Zl7 : List PK := [PK.mk (.pair I6 (.pair I6 (.slice 76 P6))) true (some (2, 76, .pair I6 I6)) false none, PK.mk (.slice 3 I6) false none false none, PK.mk (.slice 3 I6) false none false none, PK.mk I6 false none false none]
noncomputable def ZdY (r : (Int × Int × Int) × List (Int × Int)) : Tup Z5s × OutD := ((r.1, ()), some ⟨Ty.pair (Ty.int .i64) (Ty.int .i64), r.2⟩)
noncomputable def Zav : Tup Z5s × OutD → Option ((Int × Int × Int) × List (Int × Int))
 | (a, some ⟨u, ys⟩) => if h : u = Ty.pair (Ty.int .i64) (Ty.int .i64) then some (a.1, castU h ys) else none
 | _ => none
theorem ZgR : ∀ b r, Zav b = some r → ZdY r = b := by
 rintro ⟨a, o⟩ r h
 cases o with
 | none => cases h
 | some s =>
  obtain ⟨u, ys⟩ := s
  simp only [Zav] at h
  split at h
  ·rename_i hu; subst hu; injection h with h; subst h; rfl
  ·cases h
noncomputable def Zx : Nat → List (Int × Int) → Int → Int → Int → Int → Int → List Int → List Int → Int → Int → Int → Option (LR (List (Int × Int) × Int × Int × Int × Int × Int × Int) ((Int × Int × Int) × List (Int × Int)))
 | 0, _, _, _, _, _, _, _, _, _, _, _ => none
 | k + 1, o1, b2_0, b2_1, b3_0, b3_1, b3_2, v1, v2, v3, v9, v10 =>
  if decide (v10 < b2_0) = true then if (0 : Int) ≤ wrap64 (wrap64 (v10 * b2_1) + v3) then if wrap64 (wrap64 (v10 * b2_1) + v3) < (↑(List.length v2) : Int) then if decide (List.getD v2 (Int.toNat (wrap64 (wrap64 (v10 * b2_1) + v3))) (0 : Int) = 2) = true then some (LR.ret (((3 : Int), v10, v3), o1)) else if (0 : Int) ≤ wrap64 (wrap64 (v10 * b2_1) + v3) then if wrap64 (wrap64 (v10 * b2_1) + v3) < (↑(List.length o1) : Int) then Option.bind (Zd2 k (Prod.fst (List.getD o1 (Int.toNat (wrap64 (wrap64 (v10 * b2_1) + v3))) ((0 : Int), (0 : Int))), Prod.snd (List.getD o1 (Int.toNat (wrap64 (wrap64 (v10 * b2_1) + v3))) ((0 : Int), (0 : Int)))) v9) fun z0 => if (!z0.2) = true then some (LR.ret (((2 : Int), v10, v3), o1)) else if (0 : Int) ≤ wrap64 (wrap64 (v10 * b2_1) + v3) then if wrap64 (wrap64 (v10 * b2_1) + v3) < (↑(List.length v2) : Int) then if decide (List.getD v2 (Int.toNat (wrap64 (wrap64 (v10 * b2_1) + v3))) (0 : Int) = 3) = true then if (0 : Int) ≤ wrap64 (wrap64 (v10 * b2_1) + v3) then if wrap64 (wrap64 (v10 * b2_1) + v3) < (↑(List.length o1) : Int) then Option.bind (Z29 k (Prod.fst (List.getD o1 (Int.toNat (wrap64 (wrap64 (v10 * b2_1) + v3))) ((0 : Int), (0 : Int))), Prod.snd (List.getD o1 (Int.toNat (wrap64 (wrap64 (v10 * b2_1) + v3))) ((0 : Int), (0 : Int))))) fun z1 => if z1 = true then Option.bind (Z5t k (b2_0, b2_1, o1) v1 v2 (wrap64 (wrap64 (v10 * b2_1) + v3))) fun z2 => if decide (wrap64 (v3 + wrap64 ((0 : Int) - z0.1)) < 0) = true then some (LR.ret (((3 : Int), v10, wrap64 (v3 + wrap64 ((0 : Int) - z0.1))), z2)) else if decide (wrap64 (v3 + wrap64 ((0 : Int) - z0.1)) ≥ b2_1) = true then some (LR.ret (((3 : Int), v10, wrap64 (v3 + wrap64 ((0 : Int) - z0.1))), z2)) else Zx k z2 b2_0 b2_1 b3_0 b3_1 b3_2 v1 v2 (wrap64 (v3 + wrap64 ((0 : Int) - z0.1))) (wrap64 ((0 : Int) - wrap64 ((0 : Int) - z0.1))) (wrap64 (v10 + 1)) else if decide (wrap64 (v3 + wrap64 ((0 : Int) - z0.1)) < 0) = true then some (LR.ret (((3 : Int), v10, wrap64 (v3 + wrap64 ((0 : Int) - z0.1))), o1)) else if decide (wrap64 (v3 + wrap64 ((0 : Int) - z0.1)) ≥ b2_1) = true then some (LR.ret (((3 : Int), v10, wrap64 (v3 + wrap64 ((0 : Int) - z0.1))), o1)) else Zx k o1 b2_0 b2_1 b3_0 b3_1 b3_2 v1 v2 (wrap64 (v3 + wrap64 ((0 : Int) - z0.1))) (wrap64 ((0 : Int) - wrap64 ((0 : Int) - z0.1))) (wrap64 (v10 + 1)) else none else none else if (0 : Int) ≤ wrap64 (wrap64 (v10 * b2_1) + v3) then if wrap64 (wrap64 (v10 * b2_1) + v3) < (↑(List.length o1) : Int) then Option.bind (Z29 k (Prod.fst (List.getD o1 (Int.toNat (wrap64 (wrap64 (v10 * b2_1) + v3))) ((0 : Int), (0 : Int))), Prod.snd (List.getD o1 (Int.toNat (wrap64 (wrap64 (v10 * b2_1) + v3))) ((0 : Int), (0 : Int))))) fun z3 => if z3 = true then Option.bind (Z5t k (b2_0, b2_1, o1) v1 v2 (wrap64 (wrap64 (v10 * b2_1) + v3))) fun z4 => if decide (wrap64 (v3 + z0.1) < 0) = true then some (LR.ret (((3 : Int), v10, wrap64 (v3 + z0.1)), z4)) else if decide (wrap64 (v3 + z0.1) ≥ b2_1) = true then some (LR.ret (((3 : Int), v10, wrap64 (v3 + z0.1)), z4)) else Zx k z4 b2_0 b2_1 b3_0 b3_1 b3_2 v1 v2 (wrap64 (v3 + z0.1)) (wrap64 ((0 : Int) - z0.1)) (wrap64 (v10 + 1)) else if decide (wrap64 (v3 + z0.1) < 0) = true then some (LR.ret (((3 : Int), v10, wrap64 (v3 + z0.1)), o1)) else if decide (wrap64 (v3 + z0.1) ≥ b2_1) = true then some (LR.ret (((3 : Int), v10, wrap64 (v3 + z0.1)), o1)) else Zx k o1 b2_0 b2_1 b3_0 b3_1 b3_2 v1 v2 (wrap64 (v3 + z0.1)) (wrap64 ((0 : Int) - z0.1)) (wrap64 (v10 + 1)) else none else none else none else none else none else none else none else none else some (LR.go (o1, b2_0, b2_1, b3_0, b3_1, b3_2, v3))
noncomputable def Zci : Spec := Spec.mk [.ro, Oe, Obq, O3] [(1, .at (.snap 0 I6)), (2, .at (.snap 0 I6)), (3, .at (.int .i64)), (4, .at (.ptr 2 0)), (8, .at (.ptr 3 0)), (9, .at (.int .i64)), (10, .at (.int .i64))]
noncomputable def Zsl : Spec := Spec.mk [.ro, Oe, Obq, O3] [(3, .at (.int .i64)), (4, .at (.ptr 2 0)), (8, .at (.ptr 3 0))]
noncomputable def Z3F : LoopDef (Tup Z5s × OutD) := .rets Zci Zsl (List (Int × Int) × Int × Int × Int × Int × Int × Int) ((Int × Int × Int) × List (Int × Int)) (fun k x => Zx k x.1.2.1 x.1.2.2.1.1 x.1.2.2.1.2.1 x.1.2.2.2.1.1 x.1.2.2.2.1.2.1 x.1.2.2.2.1.2.2.1 x.2.1 x.2.2.1 x.2.2.2.1 x.2.2.2.2.2.2.1 x.2.2.2.2.2.2.2.1) (fun z => (((), z.1, (z.2.1, z.2.2.1, (), ()), (z.2.2.2.1, z.2.2.2.2.1, z.2.2.2.2.2.1, ()), ()), (z.2.2.2.2.2.2, (), (), ()))) (fun y => (y.1.2.1, y.1.2.2.1.1, y.1.2.2.1.2.1, y.1.2.2.2.1.1, y.1.2.2.2.1.2.1, y.1.2.2.2.1.2.2.1, y.2.1)) (fun _ => rfl) ZdY Zav ZgR
noncomputable def Zb2 : Nat → Int × Int × List (Int × Int) → List Int → List Int → Int → Option ((Int × Int × Int) × List (Int × Int))
 | 0, _, _, _, _ => none
 | k + 1, p0, p1, p2, p3 =>
  Option.bind (Zx k p0.2.2 p0.1 p0.2.1 (0 : Int) (0 : Int) (0 : Int) p1 p2 p3 (0 : Int) (0 : Int)) fun z5 => LR.on z5 (fun y5 => some (((1 : Int), y5.2.1, y5.2.2.2.2.2.2), y5.1)) fun r5 => some r5
noncomputable def Z2w : FnDef := .of Zl7 Z5s ((Int × Int × Int) × List (Int × Int)) (fun k x => Zb2 k x.1 x.2.1 x.2.2.1 x.2.2.2.1) ZdY Zav ZgR
noncomputable def Zb8 : Code := Tryz.f94.body.getD .skip
noncomputable def Z3O : Ctx (Tup Z5s × OutD) := { T := T, G := [(70, Z4i.E), (114, Z2c.E), (115, Z2B.E)], mvs := [], no := 1, n := 87, res := resOf T Zl7 Z5s Tryz.f94.results.toList, loops := [(0, Z3F.E)], regs := [], conds := [], cuts := [] }
theorem Zl8 (k : Nat) : EnvOK Tryz.prog k Z3O.G := (EnvOK.cons (Zui k) (EnvOK.cons (ZlC k) (EnvOK.cons (ZyF k) (EnvOK.nil mixed))))
noncomputable def Z8J : Code := (findLoop 0 Zb8).getD .skip
theorem ZsW (k : Nat) (x : Zci.D) : Z3F.lp (k + 1) x = loopK Z3O Z3F 0 Z8J k x := by kernel_rfl
theorem Zsk (k : Nat) : LOK Tryz.prog Z3O k Z8J := LOK.by [] (by kernel_rfl) AllOK.nil
theorem ZsX (x : Zci.D) : Z3F.lp 0 x = none := by kernel_rfl
theorem Zru (k : Nat) : EOK Tryz.prog Z3O k Z3F.E (.block 0 (.loop Z8J)) := Z2 T_ok Zl8 ZsX ZsW Zsk k
theorem ZzI (k : Nat) (x : Tup Z2w.ps) : Z2w.f (k + 1) x = fnK Z2w Z3O Zb8 k x := by kernel_rfl
theorem ZyY (x : Tup Z2w.ps) : Z2w.f 0 x = none := by kernel_rfl
theorem Zyj (k : Nat) : LOK Tryz.prog Z3O k Zb8 := LOK.by [(Z3F.E, .block 0 (.loop Z8J))] (by kernel_rfl) (AllOK.cons (Zru k) AllOK.nil)
theorem ZzU (k : Nat) : SoundAt Tryz.prog k 94 Z2w.E := @Z0 Tryz.prog Z2w Z3O 94 Tryz.f94 Zb8 (by kernel_rfl) (by kernel_rfl) (by kernel_rfl) Tryz.func94 (by kernel_rfl) (by kernel_rfl) (by kernel_rfl) T_ok Zl8 Zyj ZyY ZzI k
noncomputable def Za4 : List PK := [PK.mk .bool false none false none]
noncomputable def ZtO : List PK := [PK.mk (.pair I6 (.pair I6 (.slice 76 P6))) true none false none]
noncomputable def Zj5 (r : Bool) : Tup Za4 × OutD := ((r, ()), none)
noncomputable def Zj6 : Tup Za4 × OutD → Option (Bool)
 | (a, none) => some (a.1)
 | _ => none
theorem ZkM : ∀ b r, Zj6 b = some r → Zj5 r = b := by
 rintro ⟨a, _ | _⟩ r h <;> cases h; rfl
noncomputable def Z7O : Nat → List (Int × Int) → Int → Int → Option (LR Unit Bool)
 | 0, _, _, _ => none
 | k + 1, v27, v28, v29 =>
  if decide (v29 < v28) = true then if (0 : Int) ≤ v29 then if v29 < (↑(List.length v27) : Int) then Option.bind (ZcV k (Prod.fst (List.getD v27 (Int.toNat v29) ((0 : Int), (0 : Int))), Prod.snd (List.getD v27 (Int.toNat v29) ((0 : Int), (0 : Int))))) fun z2 => if (!z2) = true then some (LR.ret false) else Z7O k v27 v28 (wrap64 (v29 + 1)) else none else none else some (LR.go ())
noncomputable def Zgy : Spec := Spec.mk [.ro] [(27, .at (.snap 0 P6)), (28, .at (.int .i64)), (29, .at (.int .i64))]
noncomputable def ZCo : Spec := Spec.mk [.ro] []
noncomputable def Z6x : LoopDef (Tup Za4 × OutD) := .rets Zgy ZCo (Unit) (Bool) (fun k x => Z7O k x.2.1 x.2.2.1 x.2.2.2.1) (fun z => (((), ()), (()))) (fun y => ()) (fun _ => rfl) Zj5 Zj6 ZkM
noncomputable def Zgg : Nat → Int × Int × List (Int × Int) → Option Bool
 | 0, _ => none
 | k + 1, p0 =>
  Option.bind (ZW k p0.1 (1 : Int) (10 : Int)) fun z0 => if (!z0) = true then some false else Option.bind (ZW k p0.2.1 (1 : Int) (9 : Int)) fun z1 => if (!z1) = true then some false else if decide ((↑(List.length p0.2.2) : Int) ≠ wrap64 (p0.1 * p0.2.1)) = true then some false else Option.bind (Z7O k p0.2.2 (↑(List.length p0.2.2) : Int) (0 : Int)) fun z3 => LR.on z3 (fun y3 => some true) fun r3 => some r3
noncomputable def Z5J : FnDef := .of ZtO Za4 (Bool) (fun k x => Zgg k x.1) Zj5 Zj6 ZkM
noncomputable def Zg6 : Code := Tryz.f110.body.getD .skip
noncomputable def Z87 : Ctx (Tup Za4 × OutD) := { T := T, G := [(76, Z1r.E), (75, Z4j.E)], mvs := [], no := 0, n := 37, res := resOf T ZtO Za4 Tryz.f110.results.toList, loops := [(0, Z6x.E)], regs := [], conds := [], cuts := [] }
theorem Zur (k : Nat) : EnvOK Tryz.prog k Z87.G := (EnvOK.cons (Z8T k) (EnvOK.cons (Ztt k) (EnvOK.nil mixed)))
noncomputable def Zcy : Code := (findLoop 0 Zg6).getD .skip
theorem ZBL (k : Nat) (x : Zgy.D) : Z6x.lp (k + 1) x = loopK Z87 Z6x 0 Zcy k x := by kernel_rfl
theorem ZBg (k : Nat) : LOK Tryz.prog Z87 k Zcy := LOK.by [] (by kernel_rfl) AllOK.nil
theorem ZAH (x : Zgy.D) : Z6x.lp 0 x = none := by kernel_rfl
theorem ZzN (k : Nat) : EOK Tryz.prog Z87 k Z6x.E (.block 0 (.loop Zcy)) := Z2 T_ok Zur ZAH ZBL ZBg k
theorem ZHw (k : Nat) (x : Tup Z5J.ps) : Z5J.f (k + 1) x = fnK Z5J Z87 Zg6 k x := by kernel_rfl
theorem ZGD (x : Tup Z5J.ps) : Z5J.f 0 x = none := by kernel_rfl
theorem ZGw (k : Nat) : LOK Tryz.prog Z87 k Zg6 := LOK.by [(Z6x.E, .block 0 (.loop Zcy))] (by kernel_rfl) (AllOK.cons (ZzN k) AllOK.nil)
theorem ZGN (k : Nat) : SoundAt Tryz.prog k 110 Z5J.E := @Z0 Tryz.prog Z5J Z87 110 Tryz.f110 Zg6 (by kernel_rfl) (by kernel_rfl) (by kernel_rfl) Tryz.func110 (by kernel_rfl) (by kernel_rfl) (by kernel_rfl) T_ok Zur ZGw ZGD ZHw k
noncomputable def Z6X : List PK := [PK.mk T6 true none false none, PK.mk (.pair I6 (.pair I6 (.slice 76 P6))) true none false none, PK.mk (.slice 22 (.slice 3 I6)) false none false none]
noncomputable def ZAz : List PK := [PK.mk (.pair I6 (.pair I6 (.slice 76 P6))) true none false none, PK.mk (.slice 3 I6) false none false none, PK.mk I6 false none false none]
noncomputable def Zls (r : (Int × Int × Int) × (Int × Int × List (Int × Int)) × List (List Int)) : Tup Z6X × OutD := ((r.1, r.2.1, r.2.2, ()), none)
noncomputable def ZmI : Tup Z6X × OutD → Option ((Int × Int × Int) × (Int × Int × List (Int × Int)) × List (List Int))
 | (a, none) => some (a.1, a.2.1, a.2.2.1)
 | _ => none
theorem ZnS : ∀ b r, ZmI b = some r → Zls r = b := by
 rintro ⟨a, _ | _⟩ r h <;> cases h; rfl
noncomputable def Z5a : Nat → Int → Int → Int → Int → Int → List (Int × Int) → Int → Int → List (Int × Int) → List (List Int) → Int → Int → Option (Int × Int × Int × Int × Int × List (Int × Int) × List (List Int)) := fun k b1_0 b1_1 b1_2 b2_0 b2_1 o3 b4_0 b4_1 o5 o6 v2 v12 =>
  some ((2 : Int), v12, v2, b4_0, b4_1, o5, o6)
noncomputable def Zcf : Nat → Int → Int → Int → Int → Int → List (Int × Int) → Int → Int → List (Int × Int) → List (List Int) → Int → Int → Option (List (Int × Int × Int × Int × Int × List (Int × Int) × List (List Int))) := fun k b1_0 b1_1 b1_2 b2_0 b2_1 o3 b4_0 b4_1 o5 o6 v2 v12 =>
  joinL (some [((2 : Int), v12, v2, b4_0, b4_1, o5, o6)]) (some [((2 : Int), v12, v2, b4_0, b4_1, o5, o6)])
noncomputable def ZlQ : Spec := Spec.mk [.ro, O3, O5, O2, O9, O2, Od] [(2, .at (.int .i64)), (6, .at (.ptr 1 0)), (7, .at (.ptr 2 0)), (9, .at (.ptr 4 0)), (10, .at (.sl 6)), (12, .at (.int .i64))]
noncomputable def ZCD : Spec := Spec.mk [.ro, O3, O5, O2, Od] [(6, .at (.ptr 1 0)), (7, .at (.ptr 2 0)), (8, .at (.sl 4))]
noncomputable def Z6n : LoopDef (Tup Z6X × OutD) := .plain ZlQ ZCD (Int × Int × Int × Int × Int × List (Int × Int) × List (List Int)) (fun k x => Z5a k x.1.2.1.1 x.1.2.1.2.1 x.1.2.1.2.2.1 x.1.2.2.1.1 x.1.2.2.1.2.1 x.1.2.2.2.1 x.1.2.2.2.2.1.1 x.1.2.2.2.2.1.2.1 x.1.2.2.2.2.2.1 x.1.2.2.2.2.2.2.1 x.2.1 x.2.2.2.2.2.2.1) (fun z => (((), (z.1, z.2.1, z.2.2.1, ()), (z.2.2.2.1, z.2.2.2.2.1, (), ()), z.2.2.2.2.2.1, z.2.2.2.2.2.2, ()), ((), (), (), ()))) (fun y => (y.1.2.1.1, y.1.2.1.2.1, y.1.2.1.2.2.1, y.1.2.2.1.1, y.1.2.2.1.2.1, y.1.2.2.2.1, y.1.2.2.2.2.1)) (fun _ => rfl)
theorem ZBD (k : Nat) (b1_0 : Int) (b1_1 : Int) (b1_2 : Int) (b2_0 : Int) (b2_1 : Int) (o3 : List (Int × Int)) (b4_0 : Int) (b4_1 : Int) (o5 : List (Int × Int)) (o6 : List (List Int)) (v2 : Int) (v12 : Int) : Zcf k b1_0 b1_1 b1_2 b2_0 b2_1 o3 b4_0 b4_1 o5 o6 v2 v12 = repl 2 (Z5a k b1_0 b1_1 b1_2 b2_0 b2_1 o3 b4_0 b4_1 o5 o6 v2 v12) := by
 first
 | (simp only [Zcf, Z5a, Zj, Zv, Zl, Zi, Zk, Z4, if_true]; done)
 | (simp only [Zcf, Z5a, Zj, Zv, Zl, Zi, Zk, Z4, if_true]; simp only [Z28, Z2b, Z4s, Z4]; simp only [Z6A]; exact Z3b ⟨fun h => by simp only [h, and_self], fun h => by simp only [h, and_self]⟩)
noncomputable def Z58 : Nat → Int → Int → Int → Int → Int → List (Int × Int) → Int → Int → List (Int × Int) → List (List Int) → Int → Int → Option (Int × Int × Int × Int × Int × List (Int × Int) × List (List Int)) := fun k b1_0 b1_1 b1_2 b2_0 b2_1 o3 b4_0 b4_1 o5 o6 v2 v12 =>
  some ((3 : Int), v12, v2, b4_0, b4_1, o5, o6)
noncomputable def Zcp : Nat → Int → Int → Int → Int → Int → List (Int × Int) → Int → Int → List (Int × Int) → List (List Int) → Int → Int → Option (List (Int × Int × Int × Int × Int × List (Int × Int) × List (List Int))) := fun k b1_0 b1_1 b1_2 b2_0 b2_1 o3 b4_0 b4_1 o5 o6 v2 v12 =>
  joinL (some [((3 : Int), v12, v2, b4_0, b4_1, o5, o6)]) (some [((3 : Int), v12, v2, b4_0, b4_1, o5, o6)])
noncomputable def Zmm : Spec := Spec.mk [.ro, O3, O5, O2, O9, O2, Od] [(2, .at (.int .i64)), (6, .at (.ptr 1 0)), (7, .at (.ptr 2 0)), (9, .at (.ptr 4 0)), (10, .at (.sl 6)), (12, .at (.int .i64))]
noncomputable def ZBy : Spec := Spec.mk [.ro, O3, O5, O2, Od] [(6, .at (.ptr 1 0)), (7, .at (.ptr 2 0)), (8, .at (.sl 4))]
noncomputable def Z6J : LoopDef (Tup Z6X × OutD) := .plain Zmm ZBy (Int × Int × Int × Int × Int × List (Int × Int) × List (List Int)) (fun k x => Z58 k x.1.2.1.1 x.1.2.1.2.1 x.1.2.1.2.2.1 x.1.2.2.1.1 x.1.2.2.1.2.1 x.1.2.2.2.1 x.1.2.2.2.2.1.1 x.1.2.2.2.2.1.2.1 x.1.2.2.2.2.2.1 x.1.2.2.2.2.2.2.1 x.2.1 x.2.2.2.2.2.2.1) (fun z => (((), (z.1, z.2.1, z.2.2.1, ()), (z.2.2.2.1, z.2.2.2.2.1, (), ()), z.2.2.2.2.2.1, z.2.2.2.2.2.2, ()), ((), (), (), ()))) (fun y => (y.1.2.1.1, y.1.2.1.2.1, y.1.2.1.2.2.1, y.1.2.2.1.1, y.1.2.2.1.2.1, y.1.2.2.2.1, y.1.2.2.2.2.1)) (fun _ => rfl)
theorem ZB3 (k : Nat) (b1_0 : Int) (b1_1 : Int) (b1_2 : Int) (b2_0 : Int) (b2_1 : Int) (o3 : List (Int × Int)) (b4_0 : Int) (b4_1 : Int) (o5 : List (Int × Int)) (o6 : List (List Int)) (v2 : Int) (v12 : Int) : Zcp k b1_0 b1_1 b1_2 b2_0 b2_1 o3 b4_0 b4_1 o5 o6 v2 v12 = repl 2 (Z58 k b1_0 b1_1 b1_2 b2_0 b2_1 o3 b4_0 b4_1 o5 o6 v2 v12) := by
 first
 | (simp only [Zcp, Z58, Zj, Zv, Zl, Zi, Zk, Z4, if_true]; done)
 | (simp only [Zcp, Z58, Zj, Zv, Zl, Zi, Zk, Z4, if_true]; simp only [Z28, Z2b, Z4s, Z4]; simp only [Z6A]; exact Z3b ⟨fun h => by simp only [h, and_self], fun h => by simp only [h, and_self]⟩)
noncomputable def Z5A : Nat → Int → Int → List (Int × Int) → Int → Int → Int → Int → Int → List (Int × Int) → Int → Int → List (Int × Int) → List (List Int) → List Int → Int → Int → Int → Option (LR (Int × Int × List (Int × Int) × Int × Int × Int × Int × Int × List (Int × Int) × Int × Int × List (Int × Int) × List (List Int) × Int) ((Int × Int × Int) × (Int × Int × List (Int × Int)) × List (List Int)))
 | 0, _, _, _, _, _, _, _, _, _, _, _, _, _, _, _, _, _ => none
 | k + 1, b1_0, b1_1, b1_2, b2_0, b2_1, b2_2, b3_0, b3_1, o4, b5_0, b5_1, o6, o7, v1, v2, v11, v12 =>
  if decide (v12 < b1_0) = true then if List.length o7 + List.length [[v12, v2]] ≤ (140737488355328 / 24 : Nat) then Option.bind (Zfz k (b5_0, b5_1, o6) v12 v2) fun z1 => if decide (z1.1 = 5) = true then Option.bind (Z5a k b2_0 b2_1 b2_2 b3_0 b3_1 o4 b5_0 b5_1 o6 (o7 ++ [[v12, v2]]) v2 v12) fun z2 => some (LR.ret ((z2.1, z2.2.1, z2.2.2.1), (z2.2.2.2.1, z2.2.2.2.2.1, z2.2.2.2.2.2.1), z2.2.2.2.2.2.2)) else Option.bind (Za7 k (z1.1, z1.2) v11) fun z3 => Option.bind (Za6 k (b5_0, b5_1, o6) v1 (wrap64 (wrap64 (v12 * b1_1) + v2))) fun z4 => Option.bind (ZW k (wrap64 (v2 + z3)) (0 : Int) (wrap64 (b1_1 - 1))) fun z5 => if (!z5) = true then Option.bind (Z58 k b2_0 b2_1 b2_2 b3_0 b3_1 o4 b5_0 b5_1 z4 (o7 ++ [[v12, v2]]) (wrap64 (v2 + z3)) v12) fun z6 => some (LR.ret ((z6.1, z6.2.1, z6.2.2.1), (z6.2.2.2.1, z6.2.2.2.2.1, z6.2.2.2.2.2.1), z6.2.2.2.2.2.2)) else Z5A k b1_0 b1_1 b1_2 b2_0 b2_1 b2_2 b3_0 b3_1 o4 b5_0 b5_1 z4 (o7 ++ [[v12, v2]]) v1 (wrap64 (v2 + z3)) (wrap64 ((0 : Int) - z3)) (wrap64 (v12 + 1)) else none else some (LR.go (b1_0, b1_1, b1_2, b2_0, b2_1, b2_2, b3_0, b3_1, o4, b5_0, b5_1, o6, o7, v2))
noncomputable def Zji : Spec := Spec.mk [.ro, O0, O3, O6, O2, O8, O2, Od] [(1, .at (.snap 0 I6)), (2, .at (.int .i64)), (3, .at (.ptr 1 0)), (6, .at (.ptr 2 0)), (7, .at (.ptr 3 0)), (9, .at (.ptr 5 0)), (10, .at (.sl 7)), (11, .at (.int .i64)), (12, .at (.int .i64))]
noncomputable def ZFb : Spec := Spec.mk [.ro, O0, O3, O6, O2, O8, O2, Od] [(2, .at (.int .i64)), (3, .at (.ptr 1 0)), (6, .at (.ptr 2 0)), (7, .at (.ptr 3 0)), (9, .at (.ptr 5 0)), (10, .at (.sl 7))]
noncomputable def Z8V : LoopDef (Tup Z6X × OutD) := .rets Zji ZFb (Int × Int × List (Int × Int) × Int × Int × Int × Int × Int × List (Int × Int) × Int × Int × List (Int × Int) × List (List Int) × Int) ((Int × Int × Int) × (Int × Int × List (Int × Int)) × List (List Int)) (fun k x => Z5A k x.1.2.1.1 x.1.2.1.2.1 x.1.2.1.2.2.1 x.1.2.2.1.1 x.1.2.2.1.2.1 x.1.2.2.1.2.2.1 x.1.2.2.2.1.1 x.1.2.2.2.1.2.1 x.1.2.2.2.2.1 x.1.2.2.2.2.2.1.1 x.1.2.2.2.2.2.1.2.1 x.1.2.2.2.2.2.2.1 x.1.2.2.2.2.2.2.2.1 x.2.1 x.2.2.1 x.2.2.2.2.2.2.2.2.1 x.2.2.2.2.2.2.2.2.2.1) (fun z => (((), (z.1, z.2.1, z.2.2.1, ()), (z.2.2.2.1, z.2.2.2.2.1, z.2.2.2.2.2.1, ()), (z.2.2.2.2.2.2.1, z.2.2.2.2.2.2.2.1, (), ()), z.2.2.2.2.2.2.2.2.1, (z.2.2.2.2.2.2.2.2.2.1, z.2.2.2.2.2.2.2.2.2.2.1, (), ()), z.2.2.2.2.2.2.2.2.2.2.2.1, z.2.2.2.2.2.2.2.2.2.2.2.2.1, ()), (z.2.2.2.2.2.2.2.2.2.2.2.2.2, (), (), (), (), (), ()))) (fun y => (y.1.2.1.1, y.1.2.1.2.1, y.1.2.1.2.2.1, y.1.2.2.1.1, y.1.2.2.1.2.1, y.1.2.2.1.2.2.1, y.1.2.2.2.1.1, y.1.2.2.2.1.2.1, y.1.2.2.2.2.1, y.1.2.2.2.2.2.1.1, y.1.2.2.2.2.2.1.2.1, y.1.2.2.2.2.2.2.1, y.1.2.2.2.2.2.2.2.1, y.2.1)) (fun _ => rfl) Zls ZmI ZnS
noncomputable def Z7W : Nat → Int → Int → List (Int × Int) → Int → Int → Int → Int → Int → List (Int × Int) → Int → Int → List (Int × Int) → List (List Int) → Int → Option (Int × Int × Int × Int × Int × List (Int × Int) × List (List Int)) := fun k b1_0 b1_1 b1_2 b2_0 b2_1 b2_2 b3_0 b3_1 o4 b5_0 b5_1 o6 o7 v2 =>
  some ((1 : Int), b1_0, v2, b5_0, b5_1, o6, o7)
noncomputable def Zcu : Nat → Int → Int → List (Int × Int) → Int → Int → Int → Int → Int → List (Int × Int) → Int → Int → List (Int × Int) → List (List Int) → Int → Option (List (Int × Int × Int × Int × Int × List (Int × Int) × List (List Int))) := fun k b1_0 b1_1 b1_2 b2_0 b2_1 b2_2 b3_0 b3_1 o4 b5_0 b5_1 o6 o7 v2 =>
  joinL (some [((1 : Int), b1_0, v2, b5_0, b5_1, o6, o7)]) (some [((1 : Int), b1_0, v2, b5_0, b5_1, o6, o7)])
noncomputable def Zmn : Spec := Spec.mk [.ro, O0, O3, O6, O2, O8, O2, Od] [(2, .at (.int .i64)), (3, .at (.ptr 1 0)), (6, .at (.ptr 2 0)), (7, .at (.ptr 3 0)), (9, .at (.ptr 5 0)), (10, .at (.sl 7))]
noncomputable def ZBc : Spec := Spec.mk [.ro, O3, O5, O2, Od] [(6, .at (.ptr 1 0)), (7, .at (.ptr 2 0)), (8, .at (.sl 4))]
noncomputable def Z6m : LoopDef (Tup Z6X × OutD) := .plain Zmn ZBc (Int × Int × Int × Int × Int × List (Int × Int) × List (List Int)) (fun k x => Z7W k x.1.2.1.1 x.1.2.1.2.1 x.1.2.1.2.2.1 x.1.2.2.1.1 x.1.2.2.1.2.1 x.1.2.2.1.2.2.1 x.1.2.2.2.1.1 x.1.2.2.2.1.2.1 x.1.2.2.2.2.1 x.1.2.2.2.2.2.1.1 x.1.2.2.2.2.2.1.2.1 x.1.2.2.2.2.2.2.1 x.1.2.2.2.2.2.2.2.1 x.2.1) (fun z => (((), (z.1, z.2.1, z.2.2.1, ()), (z.2.2.2.1, z.2.2.2.2.1, (), ()), z.2.2.2.2.2.1, z.2.2.2.2.2.2, ()), ((), (), (), ()))) (fun y => (y.1.2.1.1, y.1.2.1.2.1, y.1.2.1.2.2.1, y.1.2.2.1.1, y.1.2.2.1.2.1, y.1.2.2.2.1, y.1.2.2.2.2.1)) (fun _ => rfl)
theorem ZCA (k : Nat) (b1_0 : Int) (b1_1 : Int) (b1_2 : List (Int × Int)) (b2_0 : Int) (b2_1 : Int) (b2_2 : Int) (b3_0 : Int) (b3_1 : Int) (o4 : List (Int × Int)) (b5_0 : Int) (b5_1 : Int) (o6 : List (Int × Int)) (o7 : List (List Int)) (v2 : Int) : Zcu k b1_0 b1_1 b1_2 b2_0 b2_1 b2_2 b3_0 b3_1 o4 b5_0 b5_1 o6 o7 v2 = repl 2 (Z7W k b1_0 b1_1 b1_2 b2_0 b2_1 b2_2 b3_0 b3_1 o4 b5_0 b5_1 o6 o7 v2) := by
 first
 | (simp only [Zcu, Z7W, Zj, Zv, Zl, Zi, Zk, Z4, if_true]; done)
 | (simp only [Zcu, Z7W, Zj, Zv, Zl, Zi, Zk, Z4, if_true]; simp only [Z28, Z2b, Z4s, Z4]; simp only [Z6A]; exact Z3b ⟨fun h => by simp only [h, and_self], fun h => by simp only [h, and_self]⟩)
noncomputable def Z1q : Nat → Int × Int × List (Int × Int) → List Int → Int → Option ((Int × Int × Int) × (Int × Int × List (Int × Int)) × List (List Int))
 | 0, _, _, _ => none
 | k + 1, p0, p1, p2 =>
  Option.bind (Z7u k (p0.1, p0.2.1, p0.2.2)) fun z0 => Option.bind (Z5A k p0.1 p0.2.1 p0.2.2 (0 : Int) (0 : Int) (0 : Int) (0 : Int) (0 : Int) [] z0.1 z0.2.1 z0.2.2 [] p1 p2 (0 : Int) (0 : Int)) fun z7 => LR.on z7 (fun y7 => Option.bind (Z7W k y7.1 y7.2.1 y7.2.2.1 y7.2.2.2.1 y7.2.2.2.2.1 y7.2.2.2.2.2.1 y7.2.2.2.2.2.2.1 y7.2.2.2.2.2.2.2.1 y7.2.2.2.2.2.2.2.2.1 y7.2.2.2.2.2.2.2.2.2.1 y7.2.2.2.2.2.2.2.2.2.2.1 y7.2.2.2.2.2.2.2.2.2.2.2.1 y7.2.2.2.2.2.2.2.2.2.2.2.2.1 y7.2.2.2.2.2.2.2.2.2.2.2.2.2) fun z8 => some ((z8.1, z8.2.1, z8.2.2.1), (z8.2.2.2.1, z8.2.2.2.2.1, z8.2.2.2.2.2.1), z8.2.2.2.2.2.2)) fun r7 => some r7
noncomputable def Z8R : FnDef := .of ZAz Z6X ((Int × Int × Int) × (Int × Int × List (Int × Int)) × List (List Int)) (fun k x => Z1q k x.1 x.2.1 x.2.2.1) Zls ZmI ZnS
noncomputable def ZaV : Code := Tryz.f124.body.getD .skip
noncomputable def Zg : Ctx (Tup Z6X × OutD) := { T := T, G := [(126, Z4b.E), (133, Z7g.E), (134, Z4o.E), (135, Z4l.E), (76, Z1r.E)], mvs := [], no := 0, n := 75, res := resOf T ZAz Z6X Tryz.f124.results.toList, loops := [(0, Z8V.E)], regs := [(10, Z6n.E), (16, Z6J.E), (17, Z6m.E)], conds := [], cuts := [] }
theorem ZfF (k : Nat) : EnvOK Tryz.prog k Zg.G := (EnvOK.cons (ZmB k) (EnvOK.cons (ZAr k) (EnvOK.cons (Zun k) (EnvOK.cons (Zu0 k) (EnvOK.cons (Z8T k) (EnvOK.nil mixed))))))
noncomputable def ZgN : Array Oper := (findReg 10 ZaV).getD #[]
theorem ZCf (k : Nat) (x : ZlQ.D) : execD Zg.T Zg.G Zg.mvs k ZgN (Z6n.inp.st Zg.n x) (outK Zg Z6n) = Zcf k x.1.2.1.1 x.1.2.1.2.1 x.1.2.1.2.2.1 x.1.2.2.1.1 x.1.2.2.1.2.1 x.1.2.2.2.1 x.1.2.2.2.2.1.1 x.1.2.2.2.2.1.2.1 x.1.2.2.2.2.2.1 x.1.2.2.2.2.2.2.1 x.2.1 x.2.2.2.2.2.2.1 := by kernel_rfl
theorem Zzf (k : Nat) : EOK Tryz.prog Zg k Z6n.E (.region 10 ZgN true) := Z8o (D := Z6n) (m := 2) T_ok (ZfF k) (fun x => (ZCf k x).trans (ZBD k x.1.2.1.1 x.1.2.1.2.1 x.1.2.1.2.2.1 x.1.2.2.1.1 x.1.2.2.1.2.1 x.1.2.2.2.1 x.1.2.2.2.2.1.1 x.1.2.2.2.2.1.2.1 x.1.2.2.2.2.2.1 x.1.2.2.2.2.2.2.1 x.2.1 x.2.2.2.2.2.2.1))
noncomputable def ZgO : Array Oper := (findReg 16 ZaV).getD #[]
theorem ZCt (k : Nat) (x : Zmm.D) : execD Zg.T Zg.G Zg.mvs k ZgO (Z6J.inp.st Zg.n x) (outK Zg Z6J) = Zcp k x.1.2.1.1 x.1.2.1.2.1 x.1.2.1.2.2.1 x.1.2.2.1.1 x.1.2.2.1.2.1 x.1.2.2.2.1 x.1.2.2.2.2.1.1 x.1.2.2.2.2.1.2.1 x.1.2.2.2.2.2.1 x.1.2.2.2.2.2.2.1 x.2.1 x.2.2.2.2.2.2.1 := by kernel_rfl
theorem ZyR (k : Nat) : EOK Tryz.prog Zg k Z6J.E (.region 16 ZgO true) := Z8o (D := Z6J) (m := 2) T_ok (ZfF k) (fun x => (ZCt k x).trans (ZB3 k x.1.2.1.1 x.1.2.1.2.1 x.1.2.1.2.2.1 x.1.2.2.1.1 x.1.2.2.1.2.1 x.1.2.2.2.1 x.1.2.2.2.2.1.1 x.1.2.2.2.2.1.2.1 x.1.2.2.2.2.2.1 x.1.2.2.2.2.2.2.1 x.2.1 x.2.2.2.2.2.2.1))
noncomputable def ZgC : Array Oper := (findReg 17 ZaV).getD #[]
theorem ZAN (k : Nat) (x : Zmn.D) : execD Zg.T Zg.G Zg.mvs k ZgC (Z6m.inp.st Zg.n x) (outK Zg Z6m) = Zcu k x.1.2.1.1 x.1.2.1.2.1 x.1.2.1.2.2.1 x.1.2.2.1.1 x.1.2.2.1.2.1 x.1.2.2.1.2.2.1 x.1.2.2.2.1.1 x.1.2.2.2.1.2.1 x.1.2.2.2.2.1 x.1.2.2.2.2.2.1.1 x.1.2.2.2.2.2.1.2.1 x.1.2.2.2.2.2.2.1 x.1.2.2.2.2.2.2.2.1 x.2.1 := by kernel_rfl
theorem ZzC (k : Nat) : EOK Tryz.prog Zg k Z6m.E (.region 17 ZgC true) := Z8o (D := Z6m) (m := 2) T_ok (ZfF k) (fun x => (ZAN k x).trans (ZCA k x.1.2.1.1 x.1.2.1.2.1 x.1.2.1.2.2.1 x.1.2.2.1.1 x.1.2.2.1.2.1 x.1.2.2.1.2.2.1 x.1.2.2.2.1.1 x.1.2.2.2.1.2.1 x.1.2.2.2.2.1 x.1.2.2.2.2.2.1.1 x.1.2.2.2.2.2.1.2.1 x.1.2.2.2.2.2.2.1 x.1.2.2.2.2.2.2.2.1 x.2.1))
noncomputable def Zet : Code := (findLoop 0 ZaV).getD .skip
theorem ZF3 (k : Nat) (x : Zji.D) : Z8V.lp (k + 1) x = loopK Zg Z8V 0 Zet k x := by kernel_rfl
theorem ZEP (k : Nat) : LOK Tryz.prog Zg k Zet := LOK.by [(Z6n.E, .region 10 ZgN true), (Z6J.E, .region 16 ZgO true)] (by kernel_rfl) (AllOK.cons (Zzf k) (AllOK.cons (ZyR k) AllOK.nil))
theorem ZFw (x : Zji.D) : Z8V.lp 0 x = none := by kernel_rfl
theorem ZDC (k : Nat) : EOK Tryz.prog Zg k Z8V.E (.block 0 (.loop Zet)) := Z2 T_ok ZfF ZFw ZF3 ZEP k
theorem ZJ3 (k : Nat) (x : Tup Z8R.ps) : Z8R.f (k + 1) x = fnK Z8R Zg ZaV k x := by kernel_rfl
theorem ZJ9 (x : Tup Z8R.ps) : Z8R.f 0 x = none := by kernel_rfl
theorem ZJk (k : Nat) : LOK Tryz.prog Zg k ZaV := LOK.by [(Z8V.E, .block 0 (.loop Zet)), (Z6m.E, .region 17 ZgC true)] (by kernel_rfl) (AllOK.cons (ZDC k) (AllOK.cons (ZzC k) AllOK.nil))
theorem ZJy (k : Nat) : SoundAt Tryz.prog k 124 Z8R.E := @Z0 Tryz.prog Z8R Zg 124 Tryz.f124 ZaV (by kernel_rfl) (by kernel_rfl) (by kernel_rfl) Tryz.func124 (by kernel_rfl) (by kernel_rfl) (by kernel_rfl) T_ok ZfF ZJk ZJ9 ZJ3 k
noncomputable def Z3d : List PK := [PK.mk T6 true none false none, PK.mk (.pair I6 (.pair I6 (.slice 76 P6))) true none false none]
noncomputable def ZAx : List PK := [PK.mk (.pair I6 (.pair I6 (.slice 76 P6))) true none false none, PK.mk (.slice 3 I6) false none false none, PK.mk (.slice 58 T6) false none false none, PK.mk I6 false none false none]
noncomputable def ZmN (r : (Int × Int × Int) × Int × Int × List (Int × Int)) : Tup Z3d × OutD := ((r.1, r.2, ()), none)
noncomputable def ZlX : Tup Z3d × OutD → Option ((Int × Int × Int) × Int × Int × List (Int × Int))
 | (a, none) => some (a.1, a.2.1)
 | _ => none
theorem ZnE : ∀ b r, ZlX b = some r → ZmN r = b := by
 rintro ⟨a, _ | _⟩ r h <;> cases h; rfl
noncomputable def Z9a : Nat → Int → Int → Int → Int → Int → List (Int × Int) → Int → Int → List (Int × Int) → Int → Int → Option (Int × Int × Int × Int × Int × List (Int × Int)) := fun k b1_0 b1_1 b1_2 b2_0 b2_1 o3 b4_0 b4_1 o5 v3 v12 =>
  some ((3 : Int), v12, v3, b4_0, b4_1, o5)
noncomputable def ZdH : Nat → Int → Int → Int → Int → Int → List (Int × Int) → Int → Int → List (Int × Int) → Int → Int → Option (List (Int × Int × Int × Int × Int × List (Int × Int))) := fun k b1_0 b1_1 b1_2 b2_0 b2_1 o3 b4_0 b4_1 o5 v3 v12 =>
  joinL (some [((3 : Int), v12, v3, b4_0, b4_1, o5)]) (some [((3 : Int), v12, v3, b4_0, b4_1, o5)])
noncomputable def Zno : Spec := Spec.mk [.ro, O3, O5, O2, O9, O2] [(3, .at (.int .i64)), (8, .at (.ptr 1 0)), (9, .at (.ptr 2 0)), (10, .at (.ptr 4 0)), (12, .at (.int .i64))]
noncomputable def ZDI : Spec := Spec.mk [.ro, O3, O5, O2] [(8, .at (.ptr 1 0)), (9, .at (.ptr 2 0))]
noncomputable def Z7D : LoopDef (Tup Z3d × OutD) := .plain Zno ZDI (Int × Int × Int × Int × Int × List (Int × Int)) (fun k x => Z9a k x.1.2.1.1 x.1.2.1.2.1 x.1.2.1.2.2.1 x.1.2.2.1.1 x.1.2.2.1.2.1 x.1.2.2.2.1 x.1.2.2.2.2.1.1 x.1.2.2.2.2.1.2.1 x.1.2.2.2.2.2.1 x.2.1 x.2.2.2.2.2.1) (fun z => (((), (z.1, z.2.1, z.2.2.1, ()), (z.2.2.2.1, z.2.2.2.2.1, (), ()), z.2.2.2.2.2, ()), ((), (), ()))) (fun y => (y.1.2.1.1, y.1.2.1.2.1, y.1.2.1.2.2.1, y.1.2.2.1.1, y.1.2.2.1.2.1, y.1.2.2.2.1)) (fun _ => rfl)
theorem ZDK (k : Nat) (b1_0 : Int) (b1_1 : Int) (b1_2 : Int) (b2_0 : Int) (b2_1 : Int) (o3 : List (Int × Int)) (b4_0 : Int) (b4_1 : Int) (o5 : List (Int × Int)) (v3 : Int) (v12 : Int) : ZdH k b1_0 b1_1 b1_2 b2_0 b2_1 o3 b4_0 b4_1 o5 v3 v12 = repl 2 (Z9a k b1_0 b1_1 b1_2 b2_0 b2_1 o3 b4_0 b4_1 o5 v3 v12) := by
 first
 | (simp only [ZdH, Z9a, Zj, Zv, Zl, Zi, Zk, Z4, if_true]; done)
 | (simp only [ZdH, Z9a, Zj, Zv, Zl, Zi, Zk, Z4, if_true]; simp only [Z28, Z2b, Z4s, Z4]; simp only [Z6A]; exact Z3b ⟨fun h => by simp only [h, and_self], fun h => by simp only [h, and_self]⟩)
noncomputable def Z7N : Nat → Int → Int → Int → Int → Int → List (Int × Int) → Int → Int → List (Int × Int) → Int → Int → Option (Int × Int × Int × Int × Int × List (Int × Int)) := fun k b1_0 b1_1 b1_2 b2_0 b2_1 o3 b4_0 b4_1 o5 v3 v12 =>
  some ((2 : Int), v12, v3, b4_0, b4_1, o5)
noncomputable def ZbZ : Nat → Int → Int → Int → Int → Int → List (Int × Int) → Int → Int → List (Int × Int) → Int → Int → Option (List (Int × Int × Int × Int × Int × List (Int × Int))) := fun k b1_0 b1_1 b1_2 b2_0 b2_1 o3 b4_0 b4_1 o5 v3 v12 =>
  joinL (some [((2 : Int), v12, v3, b4_0, b4_1, o5)]) (some [((2 : Int), v12, v3, b4_0, b4_1, o5)])
noncomputable def ZlB : Spec := Spec.mk [.ro, O3, O5, O2, O9, O2] [(3, .at (.int .i64)), (8, .at (.ptr 1 0)), (9, .at (.ptr 2 0)), (10, .at (.ptr 4 0)), (12, .at (.int .i64))]
noncomputable def ZB5 : Spec := Spec.mk [.ro, O3, O5, O2] [(8, .at (.ptr 1 0)), (9, .at (.ptr 2 0))]
noncomputable def Z6r : LoopDef (Tup Z3d × OutD) := .plain ZlB ZB5 (Int × Int × Int × Int × Int × List (Int × Int)) (fun k x => Z7N k x.1.2.1.1 x.1.2.1.2.1 x.1.2.1.2.2.1 x.1.2.2.1.1 x.1.2.2.1.2.1 x.1.2.2.2.1 x.1.2.2.2.2.1.1 x.1.2.2.2.2.1.2.1 x.1.2.2.2.2.2.1 x.2.1 x.2.2.2.2.2.1) (fun z => (((), (z.1, z.2.1, z.2.2.1, ()), (z.2.2.2.1, z.2.2.2.2.1, (), ()), z.2.2.2.2.2, ()), ((), (), ()))) (fun y => (y.1.2.1.1, y.1.2.1.2.1, y.1.2.1.2.2.1, y.1.2.2.1.1, y.1.2.2.1.2.1, y.1.2.2.2.1)) (fun _ => rfl)
theorem ZAX (k : Nat) (b1_0 : Int) (b1_1 : Int) (b1_2 : Int) (b2_0 : Int) (b2_1 : Int) (o3 : List (Int × Int)) (b4_0 : Int) (b4_1 : Int) (o5 : List (Int × Int)) (v3 : Int) (v12 : Int) : ZbZ k b1_0 b1_1 b1_2 b2_0 b2_1 o3 b4_0 b4_1 o5 v3 v12 = repl 2 (Z7N k b1_0 b1_1 b1_2 b2_0 b2_1 o3 b4_0 b4_1 o5 v3 v12) := by
 first
 | (simp only [ZbZ, Z7N, Zj, Zv, Zl, Zi, Zk, Z4, if_true]; done)
 | (simp only [ZbZ, Z7N, Zj, Zv, Zl, Zi, Zk, Z4, if_true]; simp only [Z28, Z2b, Z4s, Z4]; simp only [Z6A]; exact Z3b ⟨fun h => by simp only [h, and_self], fun h => by simp only [h, and_self]⟩)
noncomputable def Zdw : Nat → Int → Int → List (Int × Int) → Int → Int → Int → Int → Int → List (Int × Int) → Int → Int → List (Int × Int) → List Int → List (Int × Int × Int) → Int → Int → Int → Bool → Option (Int × Int × List (Int × Int) × Int × Int × Int × Int × Int × List (Int × Int) × Int × Int × List (Int × Int) × List Int × List (Int × Int × Int) × Int × Int × Int) := fun k b1_0 b1_1 b1_2 b2_0 b2_1 b2_2 b3_0 b3_1 o4 b5_0 b5_1 o6 v1 v2 v3 v12 v15 v52 =>
  if v52 = true then some (b1_0, b1_1, b1_2, b2_0, b2_1, b2_2, b3_0, b3_1, o4, b5_0, b5_1, o6, v1, v2, v3, v12, wrap64 ((0 : Int) - v15)) else some (b1_0, b1_1, b1_2, b2_0, b2_1, b2_2, b3_0, b3_1, o4, b5_0, b5_1, o6, v1, v2, v3, v12, v15)
noncomputable def ZBa : Spec := Spec.mk [.ro, O0, O3, O6, O2, O8, O2] [(1, .at (.snap 0 I6)), (2, .at (.snap 0 T6)), (3, .at (.int .i64)), (4, .at (.ptr 1 0)), (8, .at (.ptr 2 0)), (9, .at (.ptr 3 0)), (10, .at (.ptr 5 0)), (12, .at (.int .i64)), (15, .at (.int .i64)), (52, .at .bool)]
noncomputable def ZBJ : Spec := Spec.mk [.ro, O0, O3, O6, O2, O8, O2] [(1, .at (.snap 0 I6)), (2, .at (.snap 0 T6)), (3, .at (.int .i64)), (4, .at (.ptr 1 0)), (8, .at (.ptr 2 0)), (9, .at (.ptr 3 0)), (10, .at (.ptr 5 0)), (12, .at (.int .i64)), (15, .at (.int .i64))]
noncomputable def Z13 : LoopDef (Tup Z3d × OutD) := .plain ZBa ZBJ (Int × Int × List (Int × Int) × Int × Int × Int × Int × Int × List (Int × Int) × Int × Int × List (Int × Int) × List Int × List (Int × Int × Int) × Int × Int × Int) (fun k x => Zdw k x.1.2.1.1 x.1.2.1.2.1 x.1.2.1.2.2.1 x.1.2.2.1.1 x.1.2.2.1.2.1 x.1.2.2.1.2.2.1 x.1.2.2.2.1.1 x.1.2.2.2.1.2.1 x.1.2.2.2.2.1 x.1.2.2.2.2.2.1.1 x.1.2.2.2.2.2.1.2.1 x.1.2.2.2.2.2.2.1 x.2.1 x.2.2.1 x.2.2.2.1 x.2.2.2.2.2.2.2.2.1 x.2.2.2.2.2.2.2.2.2.1 x.2.2.2.2.2.2.2.2.2.2.1) (fun z => (((), (z.1, z.2.1, z.2.2.1, ()), (z.2.2.2.1, z.2.2.2.2.1, z.2.2.2.2.2.1, ()), (z.2.2.2.2.2.2.1, z.2.2.2.2.2.2.2.1, (), ()), z.2.2.2.2.2.2.2.2.1, (z.2.2.2.2.2.2.2.2.2.1, z.2.2.2.2.2.2.2.2.2.2.1, (), ()), z.2.2.2.2.2.2.2.2.2.2.2.1, ()), (z.2.2.2.2.2.2.2.2.2.2.2.2.1, z.2.2.2.2.2.2.2.2.2.2.2.2.2.1, z.2.2.2.2.2.2.2.2.2.2.2.2.2.2.1, (), (), (), (), z.2.2.2.2.2.2.2.2.2.2.2.2.2.2.2.1, z.2.2.2.2.2.2.2.2.2.2.2.2.2.2.2.2, ()))) (fun y => (y.1.2.1.1, y.1.2.1.2.1, y.1.2.1.2.2.1, y.1.2.2.1.1, y.1.2.2.1.2.1, y.1.2.2.1.2.2.1, y.1.2.2.2.1.1, y.1.2.2.2.1.2.1, y.1.2.2.2.2.1, y.1.2.2.2.2.2.1.1, y.1.2.2.2.2.2.1.2.1, y.1.2.2.2.2.2.2.1, y.2.1, y.2.2.1, y.2.2.2.1, y.2.2.2.2.2.2.2.2.1, y.2.2.2.2.2.2.2.2.2.1)) (fun _ => rfl)
noncomputable def Z8b : Nat → Int → Int → List (Int × Int) → Int → Int → Int → Int → Int → List (Int × Int) → Int → Int → List (Int × Int) → List Int → List (Int × Int × Int) → Int → Int → Int → List (Int × Int × Int) → Int → Int → Option (Int × Int × List (Int × Int) × Int × Int × Int × Int × Int × List (Int × Int) × Int × Int × List (Int × Int) × List Int × List (Int × Int × Int) × Int × Int × Int)
 | 0, _, _, _, _, _, _, _, _, _, _, _, _, _, _, _, _, _, _, _, _ => none
 | k + 1, b1_0, b1_1, b1_2, b2_0, b2_1, b2_2, b3_0, b3_1, o4, b5_0, b5_1, o6, v1, v2, v3, v12, v15, v64, v65, v66 =>
  if decide (v66 < v65) = true then if (0 : Int) ≤ v66 then if v66 < (↑(List.length v64) : Int) then if decide (Prod.fst (List.getD v64 (Int.toNat v66) ((0 : Int), (0 : Int), (0 : Int))) = 1) = true then if (0 : Int) ≤ wrap64 (wrap64 (Prod.fst (Prod.snd (List.getD v64 (Int.toNat v66) ((0 : Int), (0 : Int), (0 : Int)))) * b1_1) + Prod.snd (Prod.snd (List.getD v64 (Int.toNat v66) ((0 : Int), (0 : Int), (0 : Int))))) then if wrap64 (wrap64 (Prod.fst (Prod.snd (List.getD v64 (Int.toNat v66) ((0 : Int), (0 : Int), (0 : Int)))) * b1_1) + Prod.snd (Prod.snd (List.getD v64 (Int.toNat v66) ((0 : Int), (0 : Int), (0 : Int))))) < (↑(List.length b1_2) : Int) then if (0 : Int) ≤ wrap64 (wrap64 (Prod.fst (Prod.snd (List.getD v64 (Int.toNat v66) ((0 : Int), (0 : Int), (0 : Int)))) * b1_1) + Prod.snd (Prod.snd (List.getD v64 (Int.toNat v66) ((0 : Int), (0 : Int), (0 : Int))))) then if wrap64 (wrap64 (Prod.fst (Prod.snd (List.getD v64 (Int.toNat v66) ((0 : Int), (0 : Int), (0 : Int)))) * b1_1) + Prod.snd (Prod.snd (List.getD v64 (Int.toNat v66) ((0 : Int), (0 : Int), (0 : Int))))) < (↑(List.length o6) : Int) then Z8b k b1_0 b1_1 b1_2 b2_0 b2_1 b2_2 b3_0 b3_1 o4 b5_0 b5_1 (List.set o6 (Int.toNat (wrap64 (wrap64 (Prod.fst (Prod.snd (List.getD v64 (Int.toNat v66) ((0 : Int), (0 : Int), (0 : Int)))) * b1_1) + Prod.snd (Prod.snd (List.getD v64 (Int.toNat v66) ((0 : Int), (0 : Int), (0 : Int))))))) (Prod.fst (List.getD b1_2 (Int.toNat (wrap64 (wrap64 (Prod.fst (Prod.snd (List.getD v64 (Int.toNat v66) ((0 : Int), (0 : Int), (0 : Int)))) * b1_1) + Prod.snd (Prod.snd (List.getD v64 (Int.toNat v66) ((0 : Int), (0 : Int), (0 : Int))))))) ((0 : Int), (0 : Int))), Prod.snd (List.getD b1_2 (Int.toNat (wrap64 (wrap64 (Prod.fst (Prod.snd (List.getD v64 (Int.toNat v66) ((0 : Int), (0 : Int), (0 : Int)))) * b1_1) + Prod.snd (Prod.snd (List.getD v64 (Int.toNat v66) ((0 : Int), (0 : Int), (0 : Int))))))) ((0 : Int), (0 : Int))))) v1 v2 v3 v12 v15 v64 v65 (wrap64 (v66 + 1)) else none else none else none else none else Z8b k b1_0 b1_1 b1_2 b2_0 b2_1 b2_2 b3_0 b3_1 o4 b5_0 b5_1 o6 v1 v2 v3 v12 v15 v64 v65 (wrap64 (v66 + 1)) else none else none else some (b1_0, b1_1, b1_2, b2_0, b2_1, b2_2, b3_0, b3_1, o4, b5_0, b5_1, o6, v1, v2, v3, v12, v15)
noncomputable def ZjA : Spec := Spec.mk [.ro, O0, O3, O6, O2, O8, O2] [(1, .at (.snap 0 I6)), (2, .at (.snap 0 T6)), (3, .at (.int .i64)), (4, .at (.ptr 1 0)), (8, .at (.ptr 2 0)), (9, .at (.ptr 3 0)), (10, .at (.ptr 5 0)), (12, .at (.int .i64)), (15, .at (.int .i64)), (64, .at (.snap 0 T6)), (65, .at (.int .i64)), (66, .at (.int .i64))]
noncomputable def ZE4 : Spec := Spec.mk [.ro, O0, O3, O6, O2, O8, O2] [(1, .at (.snap 0 I6)), (2, .at (.snap 0 T6)), (3, .at (.int .i64)), (4, .at (.ptr 1 0)), (8, .at (.ptr 2 0)), (9, .at (.ptr 3 0)), (10, .at (.ptr 5 0)), (12, .at (.int .i64)), (15, .at (.int .i64))]
noncomputable def Z8Y : LoopDef (Tup Z3d × OutD) := .plain ZjA ZE4 (Int × Int × List (Int × Int) × Int × Int × Int × Int × Int × List (Int × Int) × Int × Int × List (Int × Int) × List Int × List (Int × Int × Int) × Int × Int × Int) (fun k x => Z8b k x.1.2.1.1 x.1.2.1.2.1 x.1.2.1.2.2.1 x.1.2.2.1.1 x.1.2.2.1.2.1 x.1.2.2.1.2.2.1 x.1.2.2.2.1.1 x.1.2.2.2.1.2.1 x.1.2.2.2.2.1 x.1.2.2.2.2.2.1.1 x.1.2.2.2.2.2.1.2.1 x.1.2.2.2.2.2.2.1 x.2.1 x.2.2.1 x.2.2.2.1 x.2.2.2.2.2.2.2.2.1 x.2.2.2.2.2.2.2.2.2.1 x.2.2.2.2.2.2.2.2.2.2.1 x.2.2.2.2.2.2.2.2.2.2.2.1 x.2.2.2.2.2.2.2.2.2.2.2.2.1) (fun z => (((), (z.1, z.2.1, z.2.2.1, ()), (z.2.2.2.1, z.2.2.2.2.1, z.2.2.2.2.2.1, ()), (z.2.2.2.2.2.2.1, z.2.2.2.2.2.2.2.1, (), ()), z.2.2.2.2.2.2.2.2.1, (z.2.2.2.2.2.2.2.2.2.1, z.2.2.2.2.2.2.2.2.2.2.1, (), ()), z.2.2.2.2.2.2.2.2.2.2.2.1, ()), (z.2.2.2.2.2.2.2.2.2.2.2.2.1, z.2.2.2.2.2.2.2.2.2.2.2.2.2.1, z.2.2.2.2.2.2.2.2.2.2.2.2.2.2.1, (), (), (), (), z.2.2.2.2.2.2.2.2.2.2.2.2.2.2.2.1, z.2.2.2.2.2.2.2.2.2.2.2.2.2.2.2.2, ()))) (fun y => (y.1.2.1.1, y.1.2.1.2.1, y.1.2.1.2.2.1, y.1.2.2.1.1, y.1.2.2.1.2.1, y.1.2.2.1.2.2.1, y.1.2.2.2.1.1, y.1.2.2.2.1.2.1, y.1.2.2.2.2.1, y.1.2.2.2.2.2.1.1, y.1.2.2.2.2.2.1.2.1, y.1.2.2.2.2.2.2.1, y.2.1, y.2.2.1, y.2.2.2.1, y.2.2.2.2.2.2.2.2.1, y.2.2.2.2.2.2.2.2.2.1)) (fun _ => rfl)
noncomputable def Z7z : Nat → Int → Int → Int → Int → Int → List (Int × Int) → Int → Int → List (Int × Int) → Int → Int → Option (Int × Int × Int × Int × Int × List (Int × Int)) := fun k b1_0 b1_1 b1_2 b2_0 b2_1 o3 b4_0 b4_1 o5 v3 v12 =>
  some ((3 : Int), v12, v3, b4_0, b4_1, o5)
noncomputable def Zc0 : Nat → Int → Int → Int → Int → Int → List (Int × Int) → Int → Int → List (Int × Int) → Int → Int → Option (List (Int × Int × Int × Int × Int × List (Int × Int))) := fun k b1_0 b1_1 b1_2 b2_0 b2_1 o3 b4_0 b4_1 o5 v3 v12 =>
  joinL (some [((3 : Int), v12, v3, b4_0, b4_1, o5)]) (some [((3 : Int), v12, v3, b4_0, b4_1, o5)])
noncomputable def Zlv : Spec := Spec.mk [.ro, O3, O5, O2, O9, O2] [(3, .at (.int .i64)), (8, .at (.ptr 1 0)), (9, .at (.ptr 2 0)), (10, .at (.ptr 4 0)), (12, .at (.int .i64))]
noncomputable def ZBH : Spec := Spec.mk [.ro, O3, O5, O2] [(8, .at (.ptr 1 0)), (9, .at (.ptr 2 0))]
noncomputable def Z6O : LoopDef (Tup Z3d × OutD) := .plain Zlv ZBH (Int × Int × Int × Int × Int × List (Int × Int)) (fun k x => Z7z k x.1.2.1.1 x.1.2.1.2.1 x.1.2.1.2.2.1 x.1.2.2.1.1 x.1.2.2.1.2.1 x.1.2.2.2.1 x.1.2.2.2.2.1.1 x.1.2.2.2.2.1.2.1 x.1.2.2.2.2.2.1 x.2.1 x.2.2.2.2.2.1) (fun z => (((), (z.1, z.2.1, z.2.2.1, ()), (z.2.2.2.1, z.2.2.2.2.1, (), ()), z.2.2.2.2.2, ()), ((), (), ()))) (fun y => (y.1.2.1.1, y.1.2.1.2.1, y.1.2.1.2.2.1, y.1.2.2.1.1, y.1.2.2.1.2.1, y.1.2.2.2.1)) (fun _ => rfl)
theorem ZAK (k : Nat) (b1_0 : Int) (b1_1 : Int) (b1_2 : Int) (b2_0 : Int) (b2_1 : Int) (o3 : List (Int × Int)) (b4_0 : Int) (b4_1 : Int) (o5 : List (Int × Int)) (v3 : Int) (v12 : Int) : Zc0 k b1_0 b1_1 b1_2 b2_0 b2_1 o3 b4_0 b4_1 o5 v3 v12 = repl 2 (Z7z k b1_0 b1_1 b1_2 b2_0 b2_1 o3 b4_0 b4_1 o5 v3 v12) := by
 first
 | (simp only [Zc0, Z7z, Zj, Zv, Zl, Zi, Zk, Z4, if_true]; done)
 | (simp only [Zc0, Z7z, Zj, Zv, Zl, Zi, Zk, Z4, if_true]; simp only [Z28, Z2b, Z4s, Z4]; simp only [Z6A]; exact Z3b ⟨fun h => by simp only [h, and_self], fun h => by simp only [h, and_self]⟩)
noncomputable def Za1 : Nat → Int → Int → List (Int × Int) → Int → Int → Int → Int → Int → List (Int × Int) → Int → Int → List (Int × Int) → List Int → List (Int × Int × Int) → Int → Int → Int → Option (LR (Int × Int × List (Int × Int) × Int × Int × Int × Int × Int × List (Int × Int) × Int × Int × List (Int × Int) × Int) ((Int × Int × Int) × Int × Int × List (Int × Int)))
 | 0, _, _, _, _, _, _, _, _, _, _, _, _, _, _, _, _, _ => none
 | k + 1, b1_0, b1_1, b1_2, b2_0, b2_1, b2_2, b3_0, b3_1, o4, b5_0, b5_1, o6, v1, v2, v3, v11, v12 =>
  if decide (v12 < b1_0) = true then Option.bind (Zfz k (b5_0, b5_1, o6) v12 v3) fun z1 => Option.bind (ZjC k v2 v12 v3) fun z2 => if decide (z2 = 2) = true then Option.bind (Z9a k b2_0 b2_1 b2_2 b3_0 b3_1 o4 b5_0 b5_1 o6 v3 v12) fun z3 => some (LR.ret ((z3.1, z3.2.1, z3.2.2.1), z3.2.2.2.1, z3.2.2.2.2.1, z3.2.2.2.2.2)) else if decide (z1.1 = 5) = true then Option.bind (Z7N k b2_0 b2_1 b2_2 b3_0 b3_1 o4 b5_0 b5_1 o6 v3 v12) fun z4 => some (LR.ret ((z4.1, z4.2.1, z4.2.2.1), z4.2.2.2.1, z4.2.2.2.2.1, z4.2.2.2.2.2)) else Option.bind (Za7 k (z1.1, z1.2) v11) fun z5 => Option.bind (Zdw k b1_0 b1_1 b1_2 b2_0 b2_1 b2_2 b3_0 b3_1 o4 b5_0 b5_1 o6 v1 v2 v3 v12 z5 (decide (z2 = 3))) fun z6 => Option.bind (Za6 k (z6.2.2.2.2.2.2.2.2.2.1, z6.2.2.2.2.2.2.2.2.2.2.1, z6.2.2.2.2.2.2.2.2.2.2.2.1) z6.2.2.2.2.2.2.2.2.2.2.2.2.1 (wrap64 (wrap64 (z6.2.2.2.2.2.2.2.2.2.2.2.2.2.2.2.1 * z6.2.1) + z6.2.2.2.2.2.2.2.2.2.2.2.2.2.2.1))) fun z7 => Option.bind (Z8b k z6.1 z6.2.1 z6.2.2.1 z6.2.2.2.1 z6.2.2.2.2.1 z6.2.2.2.2.2.1 z6.2.2.2.2.2.2.1 z6.2.2.2.2.2.2.2.1 z6.2.2.2.2.2.2.2.2.1 z6.2.2.2.2.2.2.2.2.2.1 z6.2.2.2.2.2.2.2.2.2.2.1 z7 z6.2.2.2.2.2.2.2.2.2.2.2.2.1 z6.2.2.2.2.2.2.2.2.2.2.2.2.2.1 z6.2.2.2.2.2.2.2.2.2.2.2.2.2.2.1 z6.2.2.2.2.2.2.2.2.2.2.2.2.2.2.2.1 z6.2.2.2.2.2.2.2.2.2.2.2.2.2.2.2.2 z6.2.2.2.2.2.2.2.2.2.2.2.2.2.1 (↑(List.length z6.2.2.2.2.2.2.2.2.2.2.2.2.2.1) : Int) (0 : Int)) fun z8 => Option.bind (ZW k (wrap64 (z8.2.2.2.2.2.2.2.2.2.2.2.2.2.2.1 + z8.2.2.2.2.2.2.2.2.2.2.2.2.2.2.2.2)) (0 : Int) (wrap64 (z8.2.1 - 1))) fun z9 => if (!z9) = true then Option.bind (Z7z k z8.2.2.2.1 z8.2.2.2.2.1 z8.2.2.2.2.2.1 z8.2.2.2.2.2.2.1 z8.2.2.2.2.2.2.2.1 z8.2.2.2.2.2.2.2.2.1 z8.2.2.2.2.2.2.2.2.2.1 z8.2.2.2.2.2.2.2.2.2.2.1 z8.2.2.2.2.2.2.2.2.2.2.2.1 (wrap64 (z8.2.2.2.2.2.2.2.2.2.2.2.2.2.2.1 + z8.2.2.2.2.2.2.2.2.2.2.2.2.2.2.2.2)) z8.2.2.2.2.2.2.2.2.2.2.2.2.2.2.2.1) fun z10 => some (LR.ret ((z10.1, z10.2.1, z10.2.2.1), z10.2.2.2.1, z10.2.2.2.2.1, z10.2.2.2.2.2)) else Za1 k z8.1 z8.2.1 z8.2.2.1 z8.2.2.2.1 z8.2.2.2.2.1 z8.2.2.2.2.2.1 z8.2.2.2.2.2.2.1 z8.2.2.2.2.2.2.2.1 z8.2.2.2.2.2.2.2.2.1 z8.2.2.2.2.2.2.2.2.2.1 z8.2.2.2.2.2.2.2.2.2.2.1 z8.2.2.2.2.2.2.2.2.2.2.2.1 z8.2.2.2.2.2.2.2.2.2.2.2.2.1 z8.2.2.2.2.2.2.2.2.2.2.2.2.2.1 (wrap64 (z8.2.2.2.2.2.2.2.2.2.2.2.2.2.2.1 + z8.2.2.2.2.2.2.2.2.2.2.2.2.2.2.2.2)) (wrap64 ((0 : Int) - z8.2.2.2.2.2.2.2.2.2.2.2.2.2.2.2.2)) (wrap64 (z8.2.2.2.2.2.2.2.2.2.2.2.2.2.2.2.1 + 1)) else some (LR.go (b1_0, b1_1, b1_2, b2_0, b2_1, b2_2, b3_0, b3_1, o4, b5_0, b5_1, o6, v3))
noncomputable def Zjt : Spec := Spec.mk [.ro, O0, O3, O6, O2, O8, O2] [(1, .at (.snap 0 I6)), (2, .at (.snap 0 T6)), (3, .at (.int .i64)), (4, .at (.ptr 1 0)), (8, .at (.ptr 2 0)), (9, .at (.ptr 3 0)), (10, .at (.ptr 5 0)), (11, .at (.int .i64)), (12, .at (.int .i64))]
noncomputable def ZEc : Spec := Spec.mk [.ro, O0, O3, O6, O2, O8, O2] [(3, .at (.int .i64)), (4, .at (.ptr 1 0)), (8, .at (.ptr 2 0)), (9, .at (.ptr 3 0)), (10, .at (.ptr 5 0))]
noncomputable def Z90 : LoopDef (Tup Z3d × OutD) := .rets Zjt ZEc (Int × Int × List (Int × Int) × Int × Int × Int × Int × Int × List (Int × Int) × Int × Int × List (Int × Int) × Int) ((Int × Int × Int) × Int × Int × List (Int × Int)) (fun k x => Za1 k x.1.2.1.1 x.1.2.1.2.1 x.1.2.1.2.2.1 x.1.2.2.1.1 x.1.2.2.1.2.1 x.1.2.2.1.2.2.1 x.1.2.2.2.1.1 x.1.2.2.2.1.2.1 x.1.2.2.2.2.1 x.1.2.2.2.2.2.1.1 x.1.2.2.2.2.2.1.2.1 x.1.2.2.2.2.2.2.1 x.2.1 x.2.2.1 x.2.2.2.1 x.2.2.2.2.2.2.2.2.1 x.2.2.2.2.2.2.2.2.2.1) (fun z => (((), (z.1, z.2.1, z.2.2.1, ()), (z.2.2.2.1, z.2.2.2.2.1, z.2.2.2.2.2.1, ()), (z.2.2.2.2.2.2.1, z.2.2.2.2.2.2.2.1, (), ()), z.2.2.2.2.2.2.2.2.1, (z.2.2.2.2.2.2.2.2.2.1, z.2.2.2.2.2.2.2.2.2.2.1, (), ()), z.2.2.2.2.2.2.2.2.2.2.2.1, ()), (z.2.2.2.2.2.2.2.2.2.2.2.2, (), (), (), (), ()))) (fun y => (y.1.2.1.1, y.1.2.1.2.1, y.1.2.1.2.2.1, y.1.2.2.1.1, y.1.2.2.1.2.1, y.1.2.2.1.2.2.1, y.1.2.2.2.1.1, y.1.2.2.2.1.2.1, y.1.2.2.2.2.1, y.1.2.2.2.2.2.1.1, y.1.2.2.2.2.2.1.2.1, y.1.2.2.2.2.2.2.1, y.2.1)) (fun _ => rfl) ZmN ZlX ZnE
noncomputable def Z7F : Nat → Int → Int → List (Int × Int) → Int → Int → Int → Int → Int → List (Int × Int) → Int → Int → List (Int × Int) → Int → Option (Int × Int × Int × Int × Int × List (Int × Int)) := fun k b1_0 b1_1 b1_2 b2_0 b2_1 b2_2 b3_0 b3_1 o4 b5_0 b5_1 o6 v3 =>
  some ((1 : Int), b1_0, v3, b5_0, b5_1, o6)
noncomputable def Zc2 : Nat → Int → Int → List (Int × Int) → Int → Int → Int → Int → Int → List (Int × Int) → Int → Int → List (Int × Int) → Int → Option (List (Int × Int × Int × Int × Int × List (Int × Int))) := fun k b1_0 b1_1 b1_2 b2_0 b2_1 b2_2 b3_0 b3_1 o4 b5_0 b5_1 o6 v3 =>
  joinL (some [((1 : Int), b1_0, v3, b5_0, b5_1, o6)]) (some [((1 : Int), b1_0, v3, b5_0, b5_1, o6)])
noncomputable def Zm4 : Spec := Spec.mk [.ro, O0, O3, O6, O2, O8, O2] [(3, .at (.int .i64)), (4, .at (.ptr 1 0)), (8, .at (.ptr 2 0)), (9, .at (.ptr 3 0)), (10, .at (.ptr 5 0))]
noncomputable def ZCe : Spec := Spec.mk [.ro, O3, O5, O2] [(8, .at (.ptr 1 0)), (9, .at (.ptr 2 0))]
noncomputable def Z6F : LoopDef (Tup Z3d × OutD) := .plain Zm4 ZCe (Int × Int × Int × Int × Int × List (Int × Int)) (fun k x => Z7F k x.1.2.1.1 x.1.2.1.2.1 x.1.2.1.2.2.1 x.1.2.2.1.1 x.1.2.2.1.2.1 x.1.2.2.1.2.2.1 x.1.2.2.2.1.1 x.1.2.2.2.1.2.1 x.1.2.2.2.2.1 x.1.2.2.2.2.2.1.1 x.1.2.2.2.2.2.1.2.1 x.1.2.2.2.2.2.2.1 x.2.1) (fun z => (((), (z.1, z.2.1, z.2.2.1, ()), (z.2.2.2.1, z.2.2.2.2.1, (), ()), z.2.2.2.2.2, ()), ((), (), ()))) (fun y => (y.1.2.1.1, y.1.2.1.2.1, y.1.2.1.2.2.1, y.1.2.2.1.1, y.1.2.2.1.2.1, y.1.2.2.2.1)) (fun _ => rfl)
theorem ZBf (k : Nat) (b1_0 : Int) (b1_1 : Int) (b1_2 : List (Int × Int)) (b2_0 : Int) (b2_1 : Int) (b2_2 : Int) (b3_0 : Int) (b3_1 : Int) (o4 : List (Int × Int)) (b5_0 : Int) (b5_1 : Int) (o6 : List (Int × Int)) (v3 : Int) : Zc2 k b1_0 b1_1 b1_2 b2_0 b2_1 b2_2 b3_0 b3_1 o4 b5_0 b5_1 o6 v3 = repl 2 (Z7F k b1_0 b1_1 b1_2 b2_0 b2_1 b2_2 b3_0 b3_1 o4 b5_0 b5_1 o6 v3) := by
 first
 | (simp only [Zc2, Z7F, Zj, Zv, Zl, Zi, Zk, Z4, if_true]; done)
 | (simp only [Zc2, Z7F, Zj, Zv, Zl, Zi, Zk, Z4, if_true]; simp only [Z28, Z2b, Z4s, Z4]; simp only [Z6A]; exact Z3b ⟨fun h => by simp only [h, and_self], fun h => by simp only [h, and_self]⟩)
noncomputable def ZjD : Nat → Int × Int × List (Int × Int) → List Int → List (Int × Int × Int) → Int → Option ((Int × Int × Int) × Int × Int × List (Int × Int))
 | 0, _, _, _, _ => none
 | k + 1, p0, p1, p2, p3 =>
  Option.bind (Z7u k (p0.1, p0.2.1, p0.2.2)) fun z0 => Option.bind (Za1 k p0.1 p0.2.1 p0.2.2 (0 : Int) (0 : Int) (0 : Int) (0 : Int) (0 : Int) [] z0.1 z0.2.1 z0.2.2 p1 p2 p3 (0 : Int) (0 : Int)) fun z11 => LR.on z11 (fun y11 => Option.bind (Z7F k y11.1 y11.2.1 y11.2.2.1 y11.2.2.2.1 y11.2.2.2.2.1 y11.2.2.2.2.2.1 y11.2.2.2.2.2.2.1 y11.2.2.2.2.2.2.2.1 y11.2.2.2.2.2.2.2.2.1 y11.2.2.2.2.2.2.2.2.2.1 y11.2.2.2.2.2.2.2.2.2.2.1 y11.2.2.2.2.2.2.2.2.2.2.2.1 y11.2.2.2.2.2.2.2.2.2.2.2.2) fun z12 => some ((z12.1, z12.2.1, z12.2.2.1), z12.2.2.2.1, z12.2.2.2.2.1, z12.2.2.2.2.2)) fun r11 => some r11
noncomputable def Z8S : FnDef := .of ZAx Z3d ((Int × Int × Int) × Int × Int × List (Int × Int)) (fun k x => ZjD k x.1 x.2.1 x.2.2.1 x.2.2.2.1) ZmN ZlX ZnE
noncomputable def Z4e : Code := Tryz.f127.body.getD .skip
noncomputable def Z6 : Ctx (Tup Z3d × OutD) := { T := T, G := [(126, Z4b.E), (133, Z7g.E), (138, Z8O.E), (134, Z4o.E), (135, Z4l.E), (76, Z1r.E)], mvs := [], no := 0, n := 111, res := resOf T ZAx Z3d Tryz.f127.results.toList, loops := [(2, Z8Y.E), (0, Z90.E)], regs := [(9, Z7D.E), (11, Z6r.E), (26, Z6O.E), (27, Z6F.E)], conds := [(52, Z13.E)], cuts := [] }
theorem Z8P (k : Nat) : EnvOK Tryz.prog k Z6.G := (EnvOK.cons (ZmB k) (EnvOK.cons (ZAr k) (EnvOK.cons (ZJF k) (EnvOK.cons (Zun k) (EnvOK.cons (Zu0 k) (EnvOK.cons (Z8T k) (EnvOK.nil mixed)))))))
noncomputable def Zin : Array Oper := (findReg 9 Z4e).getD #[]
theorem ZDe (k : Nat) (x : Zno.D) : execD Z6.T Z6.G Z6.mvs k Zin (Z7D.inp.st Z6.n x) (outK Z6 Z7D) = ZdH k x.1.2.1.1 x.1.2.1.2.1 x.1.2.1.2.2.1 x.1.2.2.1.1 x.1.2.2.1.2.1 x.1.2.2.2.1 x.1.2.2.2.2.1.1 x.1.2.2.2.2.1.2.1 x.1.2.2.2.2.2.1 x.2.1 x.2.2.2.2.2.1 := by kernel_rfl
theorem ZBu (k : Nat) : EOK Tryz.prog Z6 k Z7D.E (.region 9 Zin true) := Z8o (D := Z7D) (m := 2) T_ok (Z8P k) (fun x => (ZDe k x).trans (ZDK k x.1.2.1.1 x.1.2.1.2.1 x.1.2.1.2.2.1 x.1.2.2.1.1 x.1.2.2.1.2.1 x.1.2.2.2.1 x.1.2.2.2.2.1.1 x.1.2.2.2.2.1.2.1 x.1.2.2.2.2.2.1 x.2.1 x.2.2.2.2.2.1))
noncomputable def Zgt : Array Oper := (findReg 11 Z4e).getD #[]
theorem ZAQ (k : Nat) (x : ZlB.D) : execD Z6.T Z6.G Z6.mvs k Zgt (Z6r.inp.st Z6.n x) (outK Z6 Z6r) = ZbZ k x.1.2.1.1 x.1.2.1.2.1 x.1.2.1.2.2.1 x.1.2.2.1.1 x.1.2.2.1.2.1 x.1.2.2.2.1 x.1.2.2.2.2.1.1 x.1.2.2.2.2.1.2.1 x.1.2.2.2.2.2.1 x.2.1 x.2.2.2.2.2.1 := by kernel_rfl
theorem ZzO (k : Nat) : EOK Tryz.prog Z6 k Z6r.E (.region 11 Zgt true) := Z8o (D := Z6r) (m := 2) T_ok (Z8P k) (fun x => (ZAQ k x).trans (ZAX k x.1.2.1.1 x.1.2.1.2.1 x.1.2.1.2.2.1 x.1.2.2.1.1 x.1.2.2.1.2.1 x.1.2.2.2.1 x.1.2.2.2.2.1.1 x.1.2.2.2.2.1.2.1 x.1.2.2.2.2.2.1 x.2.1 x.2.2.2.2.2.1))
noncomputable def ZgL : Array Oper := (findReg 26 Z4e).getD #[]
theorem ZBN (k : Nat) (x : Zlv.D) : execD Z6.T Z6.G Z6.mvs k ZgL (Z6O.inp.st Z6.n x) (outK Z6 Z6O) = Zc0 k x.1.2.1.1 x.1.2.1.2.1 x.1.2.1.2.2.1 x.1.2.2.1.1 x.1.2.2.1.2.1 x.1.2.2.2.1 x.1.2.2.2.2.1.1 x.1.2.2.2.2.1.2.1 x.1.2.2.2.2.2.1 x.2.1 x.2.2.2.2.2.1 := by kernel_rfl
theorem Zz0 (k : Nat) : EOK Tryz.prog Z6 k Z6O.E (.region 26 ZgL true) := Z8o (D := Z6O) (m := 2) T_ok (Z8P k) (fun x => (ZBN k x).trans (ZAK k x.1.2.1.1 x.1.2.1.2.1 x.1.2.1.2.2.1 x.1.2.2.1.1 x.1.2.2.1.2.1 x.1.2.2.2.1 x.1.2.2.2.2.1.1 x.1.2.2.2.2.1.2.1 x.1.2.2.2.2.2.1 x.2.1 x.2.2.2.2.2.1))
noncomputable def Zgz : Array Oper := (findReg 27 Z4e).getD #[]
theorem ZAO (k : Nat) (x : Zm4.D) : execD Z6.T Z6.G Z6.mvs k Zgz (Z6F.inp.st Z6.n x) (outK Z6 Z6F) = Zc2 k x.1.2.1.1 x.1.2.1.2.1 x.1.2.1.2.2.1 x.1.2.2.1.1 x.1.2.2.1.2.1 x.1.2.2.1.2.2.1 x.1.2.2.2.1.1 x.1.2.2.2.1.2.1 x.1.2.2.2.2.1 x.1.2.2.2.2.2.1.1 x.1.2.2.2.2.2.1.2.1 x.1.2.2.2.2.2.2.1 x.2.1 := by kernel_rfl
theorem ZyC (k : Nat) : EOK Tryz.prog Z6 k Z6F.E (.region 27 Zgz true) := Z8o (D := Z6F) (m := 2) T_ok (Z8P k) (fun x => (ZAO k x).trans (ZBf k x.1.2.1.1 x.1.2.1.2.1 x.1.2.1.2.2.1 x.1.2.2.1.1 x.1.2.2.1.2.1 x.1.2.2.1.2.2.1 x.1.2.2.2.1.1 x.1.2.2.2.1.2.1 x.1.2.2.2.2.1 x.1.2.2.2.2.2.1.1 x.1.2.2.2.2.2.1.2.1 x.1.2.2.2.2.2.2.1 x.2.1))
noncomputable def ZcJ : Code := ((findCond 52 Z4e).map (·.1)).getD .skip
noncomputable def Zc9 : Code := ((findCond 52 Z4e).map (·.2)).getD .skip
theorem ZBW (k : Nat) (i : Z13.inp.D) : Z13.lp k i = branch (Z13.inp.st Z6.n i) (.tmp 52) (fun st => exec Z6 k ZcJ st (outK Z6 Z13) (fun _ _ => none) Z13.mkB) (fun st => exec Z6 k Zc9 st (outK Z6 Z13) (fun _ _ => none) Z13.mkB) := by kernel_rfl
theorem ZyI (k : Nat) : EOK Tryz.prog Z6 k Z13.E (.cond (.tmp 52) ZcJ Zc9) := ZLt (D := Z13) T_ok (Z8P k) (ZBW k) (@LOK.by _ _ _ _ ZcJ [] (by kernel_rfl) AllOK.nil) (@LOK.by _ _ _ _ Zc9 [] (by kernel_rfl) AllOK.nil)
noncomputable def ZeU : Code := (findLoop 2 Z4e).getD .skip
theorem ZED (k : Nat) (x : ZjA.D) : Z8Y.lp (k + 1) x = loopK Z6 Z8Y 2 ZeU k x := by kernel_rfl
theorem ZET (k : Nat) : LOK Tryz.prog Z6 k ZeU := LOK.by [] (by kernel_rfl) AllOK.nil
theorem ZFm (x : ZjA.D) : Z8Y.lp 0 x = none := by kernel_rfl
theorem ZDg (k : Nat) : EOK Tryz.prog Z6 k Z8Y.E (.block 2 (.loop ZeU)) := Z2 T_ok Z8P ZFm ZED ZET k
noncomputable def ZeH : Code := (findLoop 0 Z4e).getD .skip
theorem ZEz (k : Nat) (x : Zjt.D) : Z90.lp (k + 1) x = loopK Z6 Z90 0 ZeH k x := by kernel_rfl
theorem ZE1 (k : Nat) : LOK Tryz.prog Z6 k ZeH := LOK.by [(Z7D.E, .region 9 Zin true), (Z6r.E, .region 11 Zgt true), (Z13.E, .cond (.tmp 52) ZcJ Zc9), (Z8Y.E, .block 2 (.loop ZeU)), (Z6O.E, .region 26 ZgL true)] (by kernel_rfl) (AllOK.cons (ZBu k) (AllOK.cons (ZzO k) (AllOK.cons (ZyI k) (AllOK.cons (ZDg k) (AllOK.cons (Zz0 k) AllOK.nil)))))
theorem ZFn (x : Zjt.D) : Z90.lp 0 x = none := by kernel_rfl
theorem ZDm (k : Nat) : EOK Tryz.prog Z6 k Z90.E (.block 0 (.loop ZeH)) := Z2 T_ok Z8P ZFn ZEz ZE1 k
theorem ZJ7 (k : Nat) (x : Tup Z8S.ps) : Z8S.f (k + 1) x = fnK Z8S Z6 Z4e k x := by kernel_rfl
theorem ZJE (x : Tup Z8S.ps) : Z8S.f 0 x = none := by kernel_rfl
theorem ZJm (k : Nat) : LOK Tryz.prog Z6 k Z4e := LOK.by [(Z90.E, .block 0 (.loop ZeH)), (Z6F.E, .region 27 Zgz true)] (by kernel_rfl) (AllOK.cons (ZDm k) (AllOK.cons (ZyC k) AllOK.nil))
theorem ZJi (k : Nat) : SoundAt Tryz.prog k 127 Z8S.E := @Z0 Tryz.prog Z8S Z6 127 Tryz.f127 Z4e (by kernel_rfl) (by kernel_rfl) (by kernel_rfl) Tryz.func127 (by kernel_rfl) (by kernel_rfl) (by kernel_rfl) T_ok Z8P ZJm ZJE ZJ7 k
end
end Go.Proofs.YtmhfhiofcoggbaaGreat.Vs
