/- The proof, part 9. -/
import Derived.Test.Ytkbikniinjalbaaqltm7
set_option maxRecDepth 100000
set_option maxHeartbeats 2000000
set_option linter.unusedVariables false
set_option linter.unusedSimpArgs false
namespace Go.Proofs.Ytkbikniinjalbaa.Vs
open Go.RowKit
section
noncomputable section
noncomputable def Z4z : List PK := [PK.mk (.slice 3 I6) false none false none, PK.mk .bool false none false none]
noncomputable def ZhX : List PK := [PK.mk (.pair I6 (.pair I6 (.slice 73 P6))) true none false none, PK.mk (.slice 28 (.slice 3 I6)) false none false none]
noncomputable def Zhz (r : List Int × Bool) : Tup Z4z × OutD := ((r.1, r.2, ()), none)
noncomputable def ZgW : Tup Z4z × OutD → Option (List Int × Bool)
 | (a, none) => some (a.1, a.2.1)
 | _ => none
theorem Zng : ∀ b r, ZgW b = some r → Zhz r = b := by
 rintro ⟨a, _ | _⟩ r h <;> cases h; rfl
noncomputable def Z1D : Nat → List (List Int) → List Int → List Int → List (List Int) → Int → Option (List Int)
 | 0, _, _, _, _, _ => none
 | k + 1, o1, o2, o3, v1, v9 =>
  if decide (v9 < shlS (1 : Int) (IntKind.wrap IntKind.u64 (↑(List.length v1) : Int))) = true then Option.bind (ZaN k v9 (↑(List.length v1) : Int)) fun z4 => Option.bind (ZaA k z4 o2) fun z5 => if z5 = true then Option.bind (Z4X k o1 z4) fun z6 => Option.bind (ZcR k z6 o3) fun z7 => if z7 = true then Z1D k o1 z4 o3 v1 (wrap64 (v9 + 1)) else Z1D k o1 o2 o3 v1 (wrap64 (v9 + 1)) else Z1D k o1 o2 o3 v1 (wrap64 (v9 + 1)) else some o2
noncomputable def Zbc : Spec := Spec.mk [.ro, O5, O3, O3] [(1, .at (.snap 0 (.slice 3 I6))), (6, .at (.sl 1)), (7, .at (.sl 2)), (8, .at (.sl 3)), (9, .at (.int .i64))]
noncomputable def ZpE : Spec := Spec.mk [.ro, O3] [(7, .at (.sl 1))]
noncomputable def Z2Y : LoopDef (Tup Z4z × OutD) := .plain Zbc ZpE (List Int) (fun k x => Z1D k x.1.2.1 x.1.2.2.1 x.1.2.2.2.1 x.2.1 x.2.2.2.2.2.1) (fun z => (((), z, ()), ((), ()))) (fun y => (y.1.2.1)) (fun _ => rfl)
noncomputable def Z9Q : Nat → Int × Int × List (Int × Int) → List (List Int) → Option (List Int × Bool)
 | 0, _, _ => none
 | k + 1, p0, p1 =>
  Option.bind (Z5q k (p0.1, p0.2.1, p0.2.2) p1) fun z0 => if (!z0) = true then some ([], false) else Option.bind (Z5j k (p0.1, p0.2.1, p0.2.2) p1) fun z1 => Option.bind (Z9n k p1) fun z2 => Option.bind (Z4X k z1 z2) fun z3 => Option.bind (Z1D k z1 z2 z3 p1 (0 : Int)) fun z8 => some (z8, true)
noncomputable def Z2a : FnDef := .of ZhX Z4z (List Int × Bool) (fun k x => Z9Q k x.1 x.2.1) Zhz ZgW Zng
noncomputable def Z9H : Code := Try.f8.body.getD .skip
noncomputable def Z3l : Ctx (Tup Z4z × OutD) := { T := T, G := [(32, Z1P.E), (33, Z1R.E), (34, Z3N.E), (35, Z1W.E), (36, Z3o.E), (37, Z3q.E), (38, Z4N.E)], mvs := [], no := 0, n := 47, res := resOf T ZhX Z4z Try.f8.results.toList, loops := [(0, Z2Y.E)], regs := [], conds := [], cuts := [] }
theorem Zi1 (k : Nat) : EnvOK Try.prog k Z3l.G := (EnvOK.cons (ZbJ k) (EnvOK.cons (ZbO k) (EnvOK.cons (Zhe k) (EnvOK.cons (ZfY k) (EnvOK.cons (Zoj k) (EnvOK.cons (Zo3 k) (EnvOK.cons (Zts k) (EnvOK.nil mixed))))))))
noncomputable def Z7t : Code := (findLoop 0 Z9H).getD .skip
theorem Zoz (k : Nat) (x : Zbc.D) : Z2Y.lp (k + 1) x = loopK Z3l Z2Y 0 Z7t k x := by kernel_rfl
theorem Zp2 (k : Nat) : LOK Try.prog Z3l k Z7t := LOK.by [] (by kernel_rfl) AllOK.nil
theorem Zps (x : Zbc.D) : Z2Y.lp 0 x = none := by kernel_rfl
theorem Zns (k : Nat) : EOK Try.prog Z3l k Z2Y.E (.block 0 (.loop Z7t)) := Z4 T_ok Zi1 Zps Zoz Zp2 k
theorem ZuW (k : Nat) (x : Tup Z2a.ps) : Z2a.f (k + 1) x = fnK Z2a Z3l Z9H k x := by kernel_rfl
theorem Zvc (x : Tup Z2a.ps) : Z2a.f 0 x = none := by kernel_rfl
theorem ZuF (k : Nat) : LOK Try.prog Z3l k Z9H := LOK.by [(Z2Y.E, .block 0 (.loop Z7t))] (by kernel_rfl) (AllOK.cons (Zns k) AllOK.nil)
theorem Zum (k : Nat) : SoundAt Try.prog k 8 Z2a.E := @Z5 Try.prog Z2a Z3l 8 Try.f8 Z9H (by kernel_rfl) (by kernel_rfl) (by kernel_rfl) Try.func8 (by kernel_rfl) (by kernel_rfl) (by kernel_rfl) T_ok Zi1 ZuF Zvc ZuW k
noncomputable def Z3w : List PK := [PK.mk (.slice 3 I6) false none false none, PK.mk .bool false none false none]
noncomputable def Zgj : List PK := [PK.mk (.pair I6 (.pair I6 (.slice 73 P6))) true none false none, PK.mk (.slice 28 (.slice 3 I6)) false none false none]
noncomputable def Zf8 (r : List Int × Bool) : Tup Z3w × OutD := ((r.1, r.2, ()), none)
noncomputable def Zf7 : Tup Z3w × OutD → Option (List Int × Bool)
 | (a, none) => some (a.1, a.2.1)
 | _ => none
theorem ZkE : ∀ b r, Zf7 b = some r → Zf8 r = b := by
 rintro ⟨a, _ | _⟩ r h <;> cases h; rfl
noncomputable def Z1c : Nat → List (List Int) → List Int → List Int → List (List Int) → Int → Option (List Int)
 | 0, _, _, _, _, _ => none
 | k + 1, o1, o2, o3, v1, v9 =>
  if decide (v9 < shlS (1 : Int) (IntKind.wrap IntKind.u64 (↑(List.length v1) : Int))) = true then Option.bind (ZaN k v9 (↑(List.length v1) : Int)) fun z4 => Option.bind (ZaA k z4 o2) fun z5 => if z5 = true then Option.bind (Z63 k o1 z4) fun z6 => Option.bind (ZcR k z6 o3) fun z7 => if z7 = true then Z1c k o1 z4 o3 v1 (wrap64 (v9 + 1)) else Z1c k o1 o2 o3 v1 (wrap64 (v9 + 1)) else Z1c k o1 o2 o3 v1 (wrap64 (v9 + 1)) else some o2
noncomputable def Z9A : Spec := Spec.mk [.ro, O5, O3, O3] [(1, .at (.snap 0 (.slice 3 I6))), (6, .at (.sl 1)), (7, .at (.sl 2)), (8, .at (.sl 3)), (9, .at (.int .i64))]
noncomputable def ZlX : Spec := Spec.mk [.ro, O3] [(7, .at (.sl 1))]
noncomputable def Z2A : LoopDef (Tup Z3w × OutD) := .plain Z9A ZlX (List Int) (fun k x => Z1c k x.1.2.1 x.1.2.2.1 x.1.2.2.2.1 x.2.1 x.2.2.2.2.2.1) (fun z => (((), z, ()), ((), ()))) (fun y => (y.1.2.1)) (fun _ => rfl)
noncomputable def Z8l : Nat → Int × Int × List (Int × Int) → List (List Int) → Option (List Int × Bool)
 | 0, _, _ => none
 | k + 1, p0, p1 =>
  Option.bind (Z5q k (p0.1, p0.2.1, p0.2.2) p1) fun z0 => if (!z0) = true then some ([], false) else Option.bind (Z5j k (p0.1, p0.2.1, p0.2.2) p1) fun z1 => Option.bind (Z9n k p1) fun z2 => Option.bind (Z63 k z1 z2) fun z3 => Option.bind (Z1c k z1 z2 z3 p1 (0 : Int)) fun z8 => some (z8, true)
noncomputable def Z1F : FnDef := .of Zgj Z3w (List Int × Bool) (fun k x => Z8l k x.1 x.2.1) Zf8 Zf7 ZkE
noncomputable def Z7W : Code := Try.f19.body.getD .skip
noncomputable def Z2t : Ctx (Tup Z3w × OutD) := { T := T, G := [(32, Z1P.E), (33, Z1R.E), (34, Z3N.E), (49, Z2k.E), (36, Z3o.E), (37, Z3q.E), (38, Z4N.E)], mvs := [], no := 0, n := 47, res := resOf T Zgj Z3w Try.f19.results.toList, loops := [(0, Z2A.E)], regs := [], conds := [], cuts := [] }
theorem Zgg (k : Nat) : EnvOK Try.prog k Z2t.G := (EnvOK.cons (ZbJ k) (EnvOK.cons (ZbO k) (EnvOK.cons (Zhe k) (EnvOK.cons (ZjM k) (EnvOK.cons (Zoj k) (EnvOK.cons (Zo3 k) (EnvOK.cons (Zts k) (EnvOK.nil mixed))))))))
noncomputable def Z5v : Code := (findLoop 0 Z7W).getD .skip
theorem Zlj (k : Nat) (x : Z9A.D) : Z2A.lp (k + 1) x = loopK Z2t Z2A 0 Z5v k x := by kernel_rfl
theorem Zl2 (k : Nat) : LOK Try.prog Z2t k Z5v := LOK.by [] (by kernel_rfl) AllOK.nil
theorem Zmi (x : Z9A.D) : Z2A.lp 0 x = none := by kernel_rfl
theorem ZkQ (k : Nat) : EOK Try.prog Z2t k Z2A.E (.block 0 (.loop Z5v)) := Z4 T_ok Zgg Zmi Zlj Zl2 k
theorem ZqQ (k : Nat) (x : Tup Z1F.ps) : Z1F.f (k + 1) x = fnK Z1F Z2t Z7W k x := by kernel_rfl
theorem Zqg (x : Tup Z1F.ps) : Z1F.f 0 x = none := by kernel_rfl
theorem Zqi (k : Nat) : LOK Try.prog Z2t k Z7W := LOK.by [(Z2A.E, .block 0 (.loop Z5v))] (by kernel_rfl) (AllOK.cons (ZkQ k) AllOK.nil)
theorem ZqU (k : Nat) : SoundAt Try.prog k 19 Z1F.E := @Z5 Try.prog Z1F Z2t 19 Try.f19 Z7W (by kernel_rfl) (by kernel_rfl) (by kernel_rfl) Try.func19 (by kernel_rfl) (by kernel_rfl) (by kernel_rfl) T_ok Zgg Zqi Zqg ZqQ k
noncomputable def Z47 : List PK := [PK.mk I6 false none false none, PK.mk I6 false none false none, PK.mk .bool false none false none]
noncomputable def ZgH : List PK := [PK.mk (.pair I6 (.pair I6 (.slice 73 P6))) true none false none, PK.mk (.slice 28 (.slice 3 I6)) false none false none]
noncomputable def Zgx (r : Int × Int × Bool) : Tup Z47 × OutD := ((r.1, r.2.1, r.2.2, ()), none)
noncomputable def Zgn : Tup Z47 × OutD → Option (Int × Int × Bool)
 | (a, none) => some (a.1, a.2.1, a.2.2.1)
 | _ => none
theorem Zmg : ∀ b r, Zgn b = some r → Zgx r = b := by
 rintro ⟨a, _ | _⟩ r h <;> cases h; rfl
noncomputable def Z1i : Nat → List (List Int) → Int → Int → Int → Int → Option (Int × Int)
 | 0, _, _, _, _, _ => none
 | k + 1, o1, v8, v9, v25, v26 =>
  if decide (v26 < v25) = true then Option.bind (Zcc k o1 v26) fun z2 => if decide (v9 < 0) = true then Z1i k o1 v26 z2 v25 (wrap64 (v26 + 1)) else if decide (z2 < v9) = true then Z1i k o1 v26 z2 v25 (wrap64 (v26 + 1)) else Z1i k o1 v8 v9 v25 (wrap64 (v26 + 1)) else some (v8, v9)
noncomputable def Za2 : Spec := Spec.mk [.ro, O5] [(7, .at (.sl 1)), (8, .at (.int .i64)), (9, .at (.int .i64)), (25, .at (.int .i64)), (26, .at (.int .i64))]
noncomputable def Znw : Spec := Spec.mk [.ro] [(8, .at (.int .i64)), (9, .at (.int .i64))]
noncomputable def Z2F : LoopDef (Tup Z47 × OutD) := .plain Za2 Znw (Int × Int) (fun k x => Z1i k x.1.2.1 x.2.2.1 x.2.2.2.1 x.2.2.2.2.1 x.2.2.2.2.2.1) (fun z => (((), ()), (z.1, z.2, ()))) (fun y => (y.2.1, y.2.2.1)) (fun _ => rfl)
noncomputable def Z8P : Nat → Int × Int × List (Int × Int) → List (List Int) → Option (Int × Int × Bool)
 | 0, _, _ => none
 | k + 1, p0, p1 =>
  Option.bind (Z5q k (p0.1, p0.2.1, p0.2.2) p1) fun z0 => if (!z0) = true then some ((0 : Int), (0 : Int), false) else if decide ((↑(List.length p1) : Int) = 0) = true then some ((0 : Int), (0 : Int), false) else Option.bind (Z5j k (p0.1, p0.2.1, p0.2.2) p1) fun z1 => Option.bind (Z1i k z1 (0 : Int) (-1 : Int) (↑(List.length p1) : Int) (0 : Int)) fun z3 => some (z3.1, z3.2, true)
noncomputable def Z1S : FnDef := .of ZgH Z47 (Int × Int × Bool) (fun k x => Z8P k x.1 x.2.1) Zgx Zgn Zmg
noncomputable def Z8M : Code := Try.f23.body.getD .skip
noncomputable def Z2M : Ctx (Tup Z47 × OutD) := { T := T, G := [(32, Z1P.E), (33, Z1R.E), (54, Z3F.E)], mvs := [], no := 0, n := 44, res := resOf T ZgH Z47 Try.f23.results.toList, loops := [(0, Z2F.E)], regs := [], conds := [], cuts := [] }
theorem Zhn (k : Nat) : EnvOK Try.prog k Z2M.G := (EnvOK.cons (ZbJ k) (EnvOK.cons (ZbO k) (EnvOK.cons (ZAJ k) (EnvOK.nil mixed))))
noncomputable def Z6z : Code := (findLoop 0 Z8M).getD .skip
theorem Znb (k : Nat) (x : Za2.D) : Z2F.lp (k + 1) x = loopK Z2M Z2F 0 Z6z k x := by kernel_rfl
theorem Zn4 (k : Nat) : LOK Try.prog Z2M k Z6z := LOK.by [] (by kernel_rfl) AllOK.nil
theorem ZnA (x : Za2.D) : Z2F.lp 0 x = none := by kernel_rfl
theorem Zm2 (k : Nat) : EOK Try.prog Z2M k Z2F.E (.block 0 (.loop Z6z)) := Z4 T_ok Zhn ZnA Znb Zn4 k
theorem ZrL (k : Nat) (x : Tup Z1S.ps) : Z1S.f (k + 1) x = fnK Z1S Z2M Z8M k x := by kernel_rfl
theorem ZrU (x : Tup Z1S.ps) : Z1S.f 0 x = none := by kernel_rfl
theorem Zsc (k : Nat) : LOK Try.prog Z2M k Z8M := LOK.by [(Z2F.E, .block 0 (.loop Z6z))] (by kernel_rfl) (AllOK.cons (Zm2 k) AllOK.nil)
theorem ZrH (k : Nat) : SoundAt Try.prog k 23 Z1S.E := @Z5 Try.prog Z1S Z2M 23 Try.f23 Z8M (by kernel_rfl) (by kernel_rfl) (by kernel_rfl) Try.func23 (by kernel_rfl) (by kernel_rfl) (by kernel_rfl) T_ok Zhn Zsc ZrU ZrL k
noncomputable def Z6J : List PK := [PK.mk (.slice 28 (.slice 3 I6)) false none false none, PK.mk .bool false none false none]
noncomputable def ZhN : List PK := [PK.mk (.pair I6 (.pair I6 (.slice 73 P6))) true none false none, PK.mk (.slice 28 (.slice 3 I6)) false none false none]
noncomputable def Zhc (r : List (List Int) × Bool) : Tup Z6J × OutD := ((r.1, r.2, ()), none)
noncomputable def ZgA : Tup Z6J × OutD → Option (List (List Int) × Bool)
 | (a, none) => some (a.1, a.2.1)
 | _ => none
theorem Znu : ∀ b r, ZgA b = some r → Zhc r = b := by
 rintro ⟨a, _ | _⟩ r h <;> cases h; rfl
noncomputable def Z3g : Nat → Int × Int × List (Int × Int) → List (List Int) → Option (List (List Int) × Bool)
 | 0, _, _ => none
 | k + 1, p0, p1 =>
  Option.bind (Z5q k (p0.1, p0.2.1, p0.2.2) p1) fun z0 => if (!z0) = true then some ([], false) else Option.bind (Z5j k (p0.1, p0.2.1, p0.2.2) p1) fun z1 => Option.bind (Z9n k p1) fun z2 => Option.bind (Z4X k z1 z2) fun z3 => Option.bind (ZbF k z3) fun z4 => some (z4, true)
noncomputable def Z2e : FnDef := .of ZhN Z6J (List (List Int) × Bool) (fun k x => Z3g k x.1 x.2.1) Zhc ZgA Znu
noncomputable def Zd4 : Code := Try.f25.body.getD .skip
noncomputable def Z9Z : Ctx (Tup Z6J × OutD) := { T := T, G := [(32, Z1P.E), (33, Z1R.E), (34, Z3N.E), (35, Z1W.E), (55, Z3Z.E)], mvs := [], no := 0, n := 17, res := resOf T ZhN Z6J Try.f25.results.toList, loops := [], regs := [], conds := [], cuts := [] }
theorem Zuy (k : Nat) : EnvOK Try.prog k Z9Z.G := (EnvOK.cons (ZbJ k) (EnvOK.cons (ZbO k) (EnvOK.cons (Zhe k) (EnvOK.cons (ZfY k) (EnvOK.cons (Zqf k) (EnvOK.nil mixed))))))
theorem Zv9 (k : Nat) (x : Tup Z2e.ps) : Z2e.f (k + 1) x = fnK Z2e Z9Z Zd4 k x := by kernel_rfl
theorem ZuH (x : Tup Z2e.ps) : Z2e.f 0 x = none := by kernel_rfl
theorem Zus (k : Nat) : LOK Try.prog Z9Z k Zd4 := LOK.by [] (by kernel_rfl) AllOK.nil
theorem Zux (k : Nat) : SoundAt Try.prog k 25 Z2e.E := @Z5 Try.prog Z2e Z9Z 25 Try.f25 Zd4 (by kernel_rfl) (by kernel_rfl) (by kernel_rfl) Try.func25 (by kernel_rfl) (by kernel_rfl) (by kernel_rfl) T_ok Zuy Zus ZuH Zv9 k
noncomputable def Z5c : List PK := [PK.mk (.slice 3 I6) false none false none, PK.mk .bool false none false none]
noncomputable def Zgu : List PK := [PK.mk (.pair I6 (.pair I6 (.slice 73 P6))) true none false none, PK.mk (.slice 28 (.slice 3 I6)) false none false none]
noncomputable def ZeX (r : List Int × Bool) : Tup Z5c × OutD := ((r.1, r.2, ()), none)
noncomputable def Zfh : Tup Z5c × OutD → Option (List Int × Bool)
 | (a, none) => some (a.1, a.2.1)
 | _ => none
theorem ZkL : ∀ b r, Zfh b = some r → ZeX r = b := by
 rintro ⟨a, _ | _⟩ r h <;> cases h; rfl
noncomputable def Z3t : Nat → Int × Int × List (Int × Int) → List (List Int) → Option (List Int × Bool)
 | 0, _, _ => none
 | k + 1, p0, p1 =>
  Option.bind (Z5q k (p0.1, p0.2.1, p0.2.2) p1) fun z0 => if (!z0) = true then some ([], false) else Option.bind (Z5j k (p0.1, p0.2.1, p0.2.2) p1) fun z1 => Option.bind (Z9n k p1) fun z2 => Option.bind (Z63 k z1 z2) fun z3 => some (z3, true)
noncomputable def Z1z : FnDef := .of Zgu Z5c (List Int × Bool) (fun k x => Z3t k x.1 x.2.1) ZeX Zfh ZkL
noncomputable def ZbA : Code := Try.f26.body.getD .skip
noncomputable def Z8c : Ctx (Tup Z5c × OutD) := { T := T, G := [(32, Z1P.E), (33, Z1R.E), (34, Z3N.E), (49, Z2k.E)], mvs := [], no := 0, n := 16, res := resOf T Zgu Z5c Try.f26.results.toList, loops := [], regs := [], conds := [], cuts := [] }
theorem ZpX (k : Nat) : EnvOK Try.prog k Z8c.G := (EnvOK.cons (ZbJ k) (EnvOK.cons (ZbO k) (EnvOK.cons (Zhe k) (EnvOK.cons (ZjM k) (EnvOK.nil mixed)))))
theorem ZqM (k : Nat) (x : Tup Z1z.ps) : Z1z.f (k + 1) x = fnK Z1z Z8c ZbA k x := by kernel_rfl
theorem ZqW (x : Tup Z1z.ps) : Z1z.f 0 x = none := by kernel_rfl
theorem ZqF (k : Nat) : LOK Try.prog Z8c k ZbA := LOK.by [] (by kernel_rfl) AllOK.nil
theorem Zr5 (k : Nat) : SoundAt Try.prog k 26 Z1z.E := @Z5 Try.prog Z1z Z8c 26 Try.f26 ZbA (by kernel_rfl) (by kernel_rfl) (by kernel_rfl) Try.func26 (by kernel_rfl) (by kernel_rfl) (by kernel_rfl) T_ok ZpX ZqF ZqW ZqM k
noncomputable def Z12 : List PK := [PK.mk (.pair I6 (.pair I6 (.slice 73 P6))) true none false none, PK.mk (.slice 28 (.slice 3 I6)) false none false none]
noncomputable def ZhL : List PK := [PK.mk (.pair (.slice 5 (.int .u8)) (.pair I6 (.int .u64))) false none false (some 89)]
noncomputable def ZgV (r : (Int × Int × List (Int × Int)) × List (List Int) × Int × Int) : Tup Z12 × OutD := ((r.1, r.2.1, ()), some ⟨Ty.pair (Ty.slice (5 : Nat) (Ty.int .u8)) (Ty.pair (Ty.int .i64) (Ty.int .u64)), [([], r.2.2)]⟩)
noncomputable def ZbX : Tup Z12 × OutD → Option ((Int × Int × List (Int × Int)) × List (List Int) × Int × Int)
 | (a, some ⟨u, ys⟩) => if h : u = Ty.pair (Ty.slice (5 : Nat) (Ty.int .u8)) (Ty.pair (Ty.int .i64) (Ty.int .u64)) then (match castU h ys with
  | [([], y)] => some (a.1, a.2.1, y)
  | _ => none) else none
 | _ => none
theorem ZmN : ∀ b r, ZbX b = some r → ZgV r = b := by
 rintro ⟨a, o⟩ r h
 cases o with
 | none => cases h
 | some s =>
  obtain ⟨u, ys⟩ := s
  simp only [ZbX] at h
  split at h
  ·rename_i hu
   subst hu
   match ys, h with
   | [], h => cases (show (none : Option _) = some r from h)
   | [([], y)], h => injection (show some _ = some r from h) with h; subst h; rfl
   | [(_ :: _, y)], h => cases (show (none : Option _) = some r from h)
   | (h1, _) :: _ :: _, h => cases h1 <;> cases (show (none : Option _) = some r from h)
  ·cases h
noncomputable def Zaf : Nat → Int → Int → List Int → Int → Int → List (Int × Int) → Int → Int → List (Int × Int) → Int → Bool → Option (Int × Int × List Int × Int × Int × List (Int × Int) × Int × Int × List (Int × Int)) := fun k b1_1 b1_2 o2 b3_0 b3_1 o4 b5_0 b5_1 o6 v12 v13 =>
    if v13 = true then Option.bind (Zs k (o2, b1_1, b1_2)) fun z2 => some (z2.2.1, z2.2.2, o2, b3_0, b3_1, o4, z2.1.1, z2.1.2.1, z2.1.2.2) else if decide (v12 = 1) = true then Option.bind (Z1g k (o2, b1_1, b1_2) (6 : Int) (5 : Int)) fun z3 => Option.bind (ZC k (o2, z3.2.1, z3.2.2) (3 : Int)) fun z4 => if z4.1 = true then Option.bind (Z1g k (o2, z4.2.1, z4.2.2) (8 : Int) (4 : Int)) fun z5 => some (z5.2.1, z5.2.2, o2, b3_0, b3_1, o4, z5.1.1, z5.1.2.1, z5.1.2.2) else some (z4.2.1, z4.2.2, o2, b3_0, b3_1, o4, z3.1.1, z3.1.2.1, z3.1.2.2) else some (b1_1, b1_2, o2, b3_0, b3_1, o4, b5_0, b5_1, o6)
noncomputable def Zmo : Spec := Spec.mk [.ro, O6, Obq, O2, O0, O4, O0] [(0, .at (.ptr 1 0)), (2, .at (.ptr 3 0)), (4, .at (.ptr 5 0)), (12, .at (.int .i64)), (13, .at .bool)]
noncomputable def ZmI : Spec := Spec.mk [.ro, O6, Obq, O2, O0, O4, O0] [(0, .at (.ptr 1 0)), (2, .at (.ptr 3 0)), (4, .at (.ptr 5 0))]
noncomputable def Zm : LoopDef (Tup Z12 × OutD) := .plain Zmo ZmI (Int × Int × List Int × Int × Int × List (Int × Int) × Int × Int × List (Int × Int)) (fun k x => Zaf k x.1.2.1.2.1 x.1.2.1.2.2.1 x.1.2.2.1 x.1.2.2.2.1.1 x.1.2.2.2.1.2.1 x.1.2.2.2.2.1 x.1.2.2.2.2.2.1.1 x.1.2.2.2.2.2.1.2.1 x.1.2.2.2.2.2.2.1 x.2.2.2.2.1 x.2.2.2.2.2.1) (fun z => (((), ((), z.1, z.2.1, ()), z.2.2.1, (z.2.2.2.1, z.2.2.2.2.1, (), ()), z.2.2.2.2.2.1, (z.2.2.2.2.2.2.1, z.2.2.2.2.2.2.2.1, (), ()), z.2.2.2.2.2.2.2.2, ()), ((), (), (), ()))) (fun y => (y.1.2.1.2.1, y.1.2.1.2.2.1, y.1.2.2.1, y.1.2.2.2.1.1, y.1.2.2.2.1.2.1, y.1.2.2.2.2.1, y.1.2.2.2.2.2.1.1, y.1.2.2.2.2.2.1.2.1, y.1.2.2.2.2.2.2.1)) (fun _ => rfl)
noncomputable def Za7 : Nat → Int → Int → List Int → Int → Int → List (Int × Int) → Int → Int → List (Int × Int) → List (List Int) → Int → Bool → Option (Int × Int × List Int × Int × Int × List (Int × Int) × Int × Int × List (Int × Int) × List (List Int) × Int) := fun k b1_1 b1_2 o2 b3_0 b3_1 o4 b5_0 b5_1 o6 o7 v6 v28 =>
    if v28 = true then Option.bind (Z1 k (o2, b1_1, b1_2) (2 : Int)) fun z9 => some (z9.2.1, z9.2.2, o2, b3_0, b3_1, o4, b5_0, b5_1, o6, o7, wrap64 ((10 : Int) + z9.1)) else some (b1_1, b1_2, o2, b3_0, b3_1, o4, b5_0, b5_1, o6, o7, v6)
noncomputable def ZlY : Spec := Spec.mk [.ro, O6, Obq, O2, O0, O4, O0, O5] [(0, .at (.ptr 1 0)), (2, .at (.ptr 3 0)), (4, .at (.ptr 5 0)), (5, .at (.sl 7)), (6, .at (.int .i64)), (28, .at .bool)]
noncomputable def Zmq : Spec := Spec.mk [.ro, O6, Obq, O2, O0, O4, O0, O5] [(0, .at (.ptr 1 0)), (2, .at (.ptr 3 0)), (4, .at (.ptr 5 0)), (5, .at (.sl 7)), (6, .at (.int .i64))]
noncomputable def Zo : LoopDef (Tup Z12 × OutD) := .plain ZlY Zmq (Int × Int × List Int × Int × Int × List (Int × Int) × Int × Int × List (Int × Int) × List (List Int) × Int) (fun k x => Za7 k x.1.2.1.2.1 x.1.2.1.2.2.1 x.1.2.2.1 x.1.2.2.2.1.1 x.1.2.2.2.1.2.1 x.1.2.2.2.2.1 x.1.2.2.2.2.2.1.1 x.1.2.2.2.2.2.1.2.1 x.1.2.2.2.2.2.2.1 x.1.2.2.2.2.2.2.2.1 x.2.2.2.2.2.1 x.2.2.2.2.2.2.1) (fun z => (((), ((), z.1, z.2.1, ()), z.2.2.1, (z.2.2.2.1, z.2.2.2.2.1, (), ()), z.2.2.2.2.2.1, (z.2.2.2.2.2.2.1, z.2.2.2.2.2.2.2.1, (), ()), z.2.2.2.2.2.2.2.2.1, z.2.2.2.2.2.2.2.2.2.1, ()), ((), (), (), (), z.2.2.2.2.2.2.2.2.2.2, ()))) (fun y => (y.1.2.1.2.1, y.1.2.1.2.2.1, y.1.2.2.1, y.1.2.2.2.1.1, y.1.2.2.2.1.2.1, y.1.2.2.2.2.1, y.1.2.2.2.2.2.1.1, y.1.2.2.2.2.2.1.2.1, y.1.2.2.2.2.2.2.1, y.1.2.2.2.2.2.2.2.1, y.2.2.2.2.2.1)) (fun _ => rfl)
noncomputable def Za3 : Nat → Int → Int → List Int → Int → Int → List (Int × Int) → Int → Int → List (Int × Int) → List (List Int) → List Int → Int → Int → Bool → Option (Int × Int × List Int × Int × Int × List (Int × Int) × Int × Int × List (Int × Int) × List (List Int) × List Int × Int × Int) := fun k b1_1 b1_2 o2 b3_0 b3_1 o4 b5_0 b5_1 o6 o7 o8 v6 v8 v39 =>
    if v39 = true then Option.bind (Z1 k (o2, b1_1, b1_2) (2 : Int)) fun z13 => Option.bind (Z1 k (o2, z13.2.1, z13.2.2) (2 : Int)) fun z14 => some (z14.2.1, z14.2.2, o2, b3_0, b3_1, o4, b5_0, b5_1, o6, o7, o8, v6, wrap64 ((8 : Int) + wrap64 (z13.1 * z14.1))) else some (b1_1, b1_2, o2, b3_0, b3_1, o4, b5_0, b5_1, o6, o7, o8, v6, v8)
noncomputable def ZmE : Spec := Spec.mk [.ro, O6, Obq, O2, O0, O4, O0, O5, O3] [(0, .at (.ptr 1 0)), (2, .at (.ptr 3 0)), (4, .at (.ptr 5 0)), (5, .at (.sl 7)), (6, .at (.int .i64)), (7, .at (.sl 8)), (8, .at (.int .i64)), (39, .at .bool)]
noncomputable def Zlv : Spec := Spec.mk [.ro, O6, Obq, O2, O0, O4, O0, O5, O3] [(0, .at (.ptr 1 0)), (2, .at (.ptr 3 0)), (4, .at (.ptr 5 0)), (5, .at (.sl 7)), (6, .at (.int .i64)), (7, .at (.sl 8)), (8, .at (.int .i64))]
noncomputable def Zn : LoopDef (Tup Z12 × OutD) := .plain ZmE Zlv (Int × Int × List Int × Int × Int × List (Int × Int) × Int × Int × List (Int × Int) × List (List Int) × List Int × Int × Int) (fun k x => Za3 k x.1.2.1.2.1 x.1.2.1.2.2.1 x.1.2.2.1 x.1.2.2.2.1.1 x.1.2.2.2.1.2.1 x.1.2.2.2.2.1 x.1.2.2.2.2.2.1.1 x.1.2.2.2.2.2.1.2.1 x.1.2.2.2.2.2.2.1 x.1.2.2.2.2.2.2.2.1 x.1.2.2.2.2.2.2.2.2.1 x.2.2.2.2.2.1 x.2.2.2.2.2.2.2.1 x.2.2.2.2.2.2.2.2.1) (fun z => (((), ((), z.1, z.2.1, ()), z.2.2.1, (z.2.2.2.1, z.2.2.2.2.1, (), ()), z.2.2.2.2.2.1, (z.2.2.2.2.2.2.1, z.2.2.2.2.2.2.2.1, (), ()), z.2.2.2.2.2.2.2.2.1, z.2.2.2.2.2.2.2.2.2.1, z.2.2.2.2.2.2.2.2.2.2.1, ()), ((), (), (), (), z.2.2.2.2.2.2.2.2.2.2.2.1, (), z.2.2.2.2.2.2.2.2.2.2.2.2, ()))) (fun y => (y.1.2.1.2.1, y.1.2.1.2.2.1, y.1.2.2.1, y.1.2.2.2.1.1, y.1.2.2.2.1.2.1, y.1.2.2.2.2.1, y.1.2.2.2.2.2.1.1, y.1.2.2.2.2.2.1.2.1, y.1.2.2.2.2.2.2.1, y.1.2.2.2.2.2.2.2.1, y.1.2.2.2.2.2.2.2.2.1, y.2.2.2.2.2.1, y.2.2.2.2.2.2.2.1)) (fun _ => rfl)
noncomputable def Z3x : Nat → Int → Int → List Int → Int → Int → List (Int × Int) → Int → Int → List (Int × Int) → List (List Int) → List Int → Int → Int → Option (Int × Int × List Int × Int × Int × List (Int × Int) × Int × Int × List (Int × Int) × List (List Int) × List Int × Int)
 | 0, _, _, _, _, _, _, _, _, _, _, _, _, _ => none
 | k + 1, b1_1, b1_2, o2, b3_0, b3_1, o4, b5_0, b5_1, o6, o7, o8, v6, v8 =>
  if decide ((↑(List.length o8) : Int) < v8) = true then Option.bind (Z4R k (1 : Int) b5_1) fun z16 => Option.bind (Z1 k (o2, b1_1, b1_2) z16) fun z17 => if List.length o8 + List.length [z17.1] ≤ (140737488355328 / 8 : Nat) then Z3x k z17.2.1 z17.2.2 o2 b3_0 b3_1 o4 b5_0 b5_1 o6 o7 (o8 ++ [z17.1]) v6 v8 else none else some (b1_1, b1_2, o2, b3_0, b3_1, o4, b5_0, b5_1, o6, o7, o8, v6)
noncomputable def Zbb : Spec := Spec.mk [.ro, O6, Obq, O2, O0, O4, O0, O5, O3] [(0, .at (.ptr 1 0)), (2, .at (.ptr 3 0)), (4, .at (.ptr 5 0)), (5, .at (.sl 7)), (6, .at (.int .i64)), (7, .at (.sl 8)), (8, .at (.int .i64))]
noncomputable def Zpr : Spec := Spec.mk [.ro, O6, Obq, O2, O0, O4, O0, O5, O3] [(0, .at (.ptr 1 0)), (2, .at (.ptr 3 0)), (4, .at (.ptr 5 0)), (5, .at (.sl 7)), (6, .at (.int .i64)), (7, .at (.sl 8))]
noncomputable def Z31 : LoopDef (Tup Z12 × OutD) := .plain Zbb Zpr (Int × Int × List Int × Int × Int × List (Int × Int) × Int × Int × List (Int × Int) × List (List Int) × List Int × Int) (fun k x => Z3x k x.1.2.1.2.1 x.1.2.1.2.2.1 x.1.2.2.1 x.1.2.2.2.1.1 x.1.2.2.2.1.2.1 x.1.2.2.2.2.1 x.1.2.2.2.2.2.1.1 x.1.2.2.2.2.2.1.2.1 x.1.2.2.2.2.2.2.1 x.1.2.2.2.2.2.2.2.1 x.1.2.2.2.2.2.2.2.2.1 x.2.2.2.2.2.1 x.2.2.2.2.2.2.2.1) (fun z => (((), ((), z.1, z.2.1, ()), z.2.2.1, (z.2.2.2.1, z.2.2.2.2.1, (), ()), z.2.2.2.2.2.1, (z.2.2.2.2.2.2.1, z.2.2.2.2.2.2.2.1, (), ()), z.2.2.2.2.2.2.2.2.1, z.2.2.2.2.2.2.2.2.2.1, z.2.2.2.2.2.2.2.2.2.2.1, ()), ((), (), (), (), z.2.2.2.2.2.2.2.2.2.2.2, (), ()))) (fun y => (y.1.2.1.2.1, y.1.2.1.2.2.1, y.1.2.2.1, y.1.2.2.2.1.1, y.1.2.2.2.1.2.1, y.1.2.2.2.2.1, y.1.2.2.2.2.2.1.1, y.1.2.2.2.2.2.1.2.1, y.1.2.2.2.2.2.2.1, y.1.2.2.2.2.2.2.2.1, y.1.2.2.2.2.2.2.2.2.1, y.2.2.2.2.2.1)) (fun _ => rfl)
noncomputable def Z3u : Nat → Int → Int → List Int → Int → Int → List (Int × Int) → Int → Int → List (Int × Int) → List (List Int) → Int → Option (Int × Int × List Int × Int × Int × List (Int × Int) × Int × Int × List (Int × Int) × List (List Int) × Int)
 | 0, _, _, _, _, _, _, _, _, _, _, _ => none
 | k + 1, b1_1, b1_2, o2, b3_0, b3_1, o4, b5_0, b5_1, o6, o7, v6 =>
  if decide ((↑(List.length o7) : Int) < v6) = true then Option.bind (Z1 k (o2, b1_1, b1_2) (4 : Int)) fun z11 => Option.bind (ZC k (o2, z11.2.1, z11.2.2) (12 : Int)) fun z12 => Option.bind (Za3 k z12.2.1 z12.2.2 o2 b3_0 b3_1 o4 b5_0 b5_1 o6 o7 [] v6 z11.1 z12.1) fun z15 => Option.bind (Z3x k z15.1 z15.2.1 z15.2.2.1 z15.2.2.2.1 z15.2.2.2.2.1 z15.2.2.2.2.2.1 z15.2.2.2.2.2.2.1 z15.2.2.2.2.2.2.2.1 z15.2.2.2.2.2.2.2.2.1 z15.2.2.2.2.2.2.2.2.2.1 z15.2.2.2.2.2.2.2.2.2.2.1 z15.2.2.2.2.2.2.2.2.2.2.2.1 z15.2.2.2.2.2.2.2.2.2.2.2.2) fun z18 => if List.length z18.2.2.2.2.2.2.2.2.2.1 + List.length [z18.2.2.2.2.2.2.2.2.2.2.1] ≤ (140737488355328 / 24 : Nat) then Z3u k z18.1 z18.2.1 z18.2.2.1 z18.2.2.2.1 z18.2.2.2.2.1 z18.2.2.2.2.2.1 z18.2.2.2.2.2.2.1 z18.2.2.2.2.2.2.2.1 z18.2.2.2.2.2.2.2.2.1 (z18.2.2.2.2.2.2.2.2.2.1 ++ [z18.2.2.2.2.2.2.2.2.2.2.1]) z18.2.2.2.2.2.2.2.2.2.2.2 else none else some (b1_1, b1_2, o2, b3_0, b3_1, o4, b5_0, b5_1, o6, o7, v6)
noncomputable def Zba : Spec := Spec.mk [.ro, O6, Obq, O2, O0, O4, O0, O5] [(0, .at (.ptr 1 0)), (2, .at (.ptr 3 0)), (4, .at (.ptr 5 0)), (5, .at (.sl 7)), (6, .at (.int .i64))]
noncomputable def ZoU : Spec := Spec.mk [.ro, O6, Obq, O2, O0, O4, O0, O5] [(0, .at (.ptr 1 0)), (2, .at (.ptr 3 0)), (4, .at (.ptr 5 0)), (5, .at (.sl 7)), (6, .at (.int .i64))]
noncomputable def Z34 : LoopDef (Tup Z12 × OutD) := .plain Zba ZoU (Int × Int × List Int × Int × Int × List (Int × Int) × Int × Int × List (Int × Int) × List (List Int) × Int) (fun k x => Z3u k x.1.2.1.2.1 x.1.2.1.2.2.1 x.1.2.2.1 x.1.2.2.2.1.1 x.1.2.2.2.1.2.1 x.1.2.2.2.2.1 x.1.2.2.2.2.2.1.1 x.1.2.2.2.2.2.1.2.1 x.1.2.2.2.2.2.2.1 x.1.2.2.2.2.2.2.2.1 x.2.2.2.2.2.1) (fun z => (((), ((), z.1, z.2.1, ()), z.2.2.1, (z.2.2.2.1, z.2.2.2.2.1, (), ()), z.2.2.2.2.2.1, (z.2.2.2.2.2.2.1, z.2.2.2.2.2.2.2.1, (), ()), z.2.2.2.2.2.2.2.2.1, z.2.2.2.2.2.2.2.2.2.1, ()), ((), (), (), (), z.2.2.2.2.2.2.2.2.2.2, ()))) (fun y => (y.1.2.1.2.1, y.1.2.1.2.2.1, y.1.2.2.1, y.1.2.2.2.1.1, y.1.2.2.2.1.2.1, y.1.2.2.2.2.1, y.1.2.2.2.2.2.1.1, y.1.2.2.2.2.2.1.2.1, y.1.2.2.2.2.2.2.1, y.1.2.2.2.2.2.2.2.1, y.2.2.2.2.2.1)) (fun _ => rfl)
noncomputable def Z2E : Nat → Int → Int → List Int → Int → Int → List (Int × Int) → Int → Int → List (Int × Int) → List (List Int) → Int → Option (Int × Int × List Int × Int × Int × List (Int × Int) × Int × Int × List (Int × Int) × List (List Int)) := fun k b1_1 b1_2 o2 b3_0 b3_1 o4 b5_0 b5_1 o6 o7 v6 =>
    Option.bind (Z1 k (o2, b1_1, b1_2) v6) fun z21 => Option.bind (Zb k (o2, z21.2.1, z21.2.2) [(-1 : Int), b5_1]) fun z22 => if (0 : Int) ≤ z21.1 then if z21.1 < (↑(List.length o7) : Int) then some (z22.2.1, z22.2.2, o2, b3_0, b3_1, o4, b5_0, b5_1, o6, List.set o7 (Int.toNat z21.1) [z22.1]) else none else none
noncomputable def Z5F : Nat → Int → Int → List Int → Int → Int → List (Int × Int) → Int → Int → List (Int × Int) → List (List Int) → Int → Option (List (Int × Int × List Int × Int × Int × List (Int × Int) × Int × Int × List (Int × Int) × List (List Int))) := fun k b1_1 b1_2 o2 b3_0 b3_1 o4 b5_0 b5_1 o6 o7 v6 =>
    joinL (Option.bind (Z1 k (o2, b1_1, b1_2) v6) fun z23 => Option.bind (Zb k (o2, z23.2.1, z23.2.2) [(-1 : Int), b5_1]) fun z24 => if (0 : Int) ≤ z23.1 then if z23.1 < (↑(List.length o7) : Int) then some [(z24.2.1, z24.2.2, o2, b3_0, b3_1, o4, b5_0, b5_1, o6, List.set o7 (Int.toNat z23.1) [z24.1])] else none else none) (joinL (Option.bind (Z1 k (o2, b1_1, b1_2) v6) fun z25 => Option.bind (Zb k (o2, z25.2.1, z25.2.2) [(-1 : Int), b5_1]) fun z26 => if (0 : Int) ≤ z25.1 then if z25.1 < (↑(List.length o7) : Int) then some [(z26.2.1, z26.2.2, o2, b3_0, b3_1, o4, b5_0, b5_1, o6, List.set o7 (Int.toNat z25.1) [z26.1])] else none else none) (Option.bind (Z1 k (o2, b1_1, b1_2) v6) fun z27 => Option.bind (Zb k (o2, z27.2.1, z27.2.2) [(-1 : Int), b5_1]) fun z28 => if (0 : Int) ≤ z27.1 then if z27.1 < (↑(List.length o7) : Int) then some [(z28.2.1, z28.2.2, o2, b3_0, b3_1, o4, b5_0, b5_1, o6, List.set o7 (Int.toNat z27.1) [z28.1])] else none else none))
noncomputable def ZdL : Spec := Spec.mk [.ro, O6, Obq, O2, O0, O4, O0, O5] [(0, .at (.ptr 1 0)), (2, .at (.ptr 3 0)), (4, .at (.ptr 5 0)), (5, .at (.sl 7)), (6, .at (.int .i64))]
noncomputable def ZlP : Spec := Spec.mk [.ro, O6, Obq, O2, O0, O4, O0, O5] [(2, .at (.ptr 3 0)), (4, .at (.ptr 5 0)), (5, .at (.sl 7))]
noncomputable def Z2u : LoopDef (Tup Z12 × OutD) := .plain ZdL ZlP (Int × Int × List Int × Int × Int × List (Int × Int) × Int × Int × List (Int × Int) × List (List Int)) (fun k x => Z2E k x.1.2.1.2.1 x.1.2.1.2.2.1 x.1.2.2.1 x.1.2.2.2.1.1 x.1.2.2.2.1.2.1 x.1.2.2.2.2.1 x.1.2.2.2.2.2.1.1 x.1.2.2.2.2.2.1.2.1 x.1.2.2.2.2.2.2.1 x.1.2.2.2.2.2.2.2.1 x.2.2.2.2.2.1) (fun z => (((), ((), z.1, z.2.1, ()), z.2.2.1, (z.2.2.2.1, z.2.2.2.2.1, (), ()), z.2.2.2.2.2.1, (z.2.2.2.2.2.2.1, z.2.2.2.2.2.2.2.1, (), ()), z.2.2.2.2.2.2.2.2.1, z.2.2.2.2.2.2.2.2.2, ()), ((), (), (), ()))) (fun y => (y.1.2.1.2.1, y.1.2.1.2.2.1, y.1.2.2.1, y.1.2.2.2.1.1, y.1.2.2.2.1.2.1, y.1.2.2.2.2.1, y.1.2.2.2.2.2.1.1, y.1.2.2.2.2.2.1.2.1, y.1.2.2.2.2.2.2.1, y.1.2.2.2.2.2.2.2.1)) (fun _ => rfl)
theorem Zmp (k : Nat) (b1_1 : Int) (b1_2 : Int) (o2 : List Int) (b3_0 : Int) (b3_1 : Int) (o4 : List (Int × Int)) (b5_0 : Int) (b5_1 : Int) (o6 : List (Int × Int)) (o7 : List (List Int)) (v6 : Int) : Z5F k b1_1 b1_2 o2 b3_0 b3_1 o4 b5_0 b5_1 o6 o7 v6 = repl 3 (Z2E k b1_1 b1_2 o2 b3_0 b3_1 o4 b5_0 b5_1 o6 o7 v6) := by
 first
 | (simp only [Z5F, Z2E, Zy, ZV, Zz, ZA, Zx, Z9, if_true]; done)
 | (simp only [Z5F, Z2E, Zy, ZV, Zz, ZA, Zx, Z9, if_true]; simp only [Z4Q, Z4K, Z8t, Z9]; simp only [Zai]; exact Z6s ⟨fun h => by simp only [h, and_self], fun h => by simp only [h, and_self]⟩)
noncomputable def Z9U : Nat → List Int × Int × Int → Option ((Int × Int × List (Int × Int)) × List (List Int) × Int × Int)
 | 0, _ => none
 | k + 1, p0 =>
  Option.bind (Z86 k (p0.1, p0.2.1, p0.2.2)) fun z0 => Option.bind (Z1 k (p0.1, z0.2.1, z0.2.2) (20 : Int)) fun z1 => Option.bind (Zaf k z1.2.1 z1.2.2 p0.1 (0 : Int) (0 : Int) [] z0.1.1 z0.1.2.1 z0.1.2.2 z1.1 (decide (z1.1 = 0))) fun z6 => Option.bind (Z1 k (z6.2.2.1, z6.1, z6.2.1) (4 : Int)) fun z7 => Option.bind (ZC k (z6.2.2.1, z7.2.1, z7.2.2) (16 : Int)) fun z8 => Option.bind (Za7 k z8.2.1 z8.2.2 z6.2.2.1 z6.2.2.2.1 z6.2.2.2.2.1 z6.2.2.2.2.2.1 z6.2.2.2.2.2.2.1 z6.2.2.2.2.2.2.2.1 z6.2.2.2.2.2.2.2.2 [] z7.1 z8.1) fun z10 => Option.bind (Z3u k z10.1 z10.2.1 z10.2.2.1 z10.2.2.2.1 z10.2.2.2.2.1 z10.2.2.2.2.2.1 z10.2.2.2.2.2.2.1 z10.2.2.2.2.2.2.2.1 z10.2.2.2.2.2.2.2.2.1 z10.2.2.2.2.2.2.2.2.2.1 z10.2.2.2.2.2.2.2.2.2.2) fun z19 => if decide (z19.2.2.2.2.2.2.2.2.2.2 > 0) = true then Option.bind (ZC k (z19.2.2.1, z19.1, z19.2.1) (24 : Int)) fun z20 => if z20.1 = true then Option.bind (Z2E k z20.2.1 z20.2.2 z19.2.2.1 z19.2.2.2.1 z19.2.2.2.2.1 z19.2.2.2.2.2.1 z19.2.2.2.2.2.2.1 z19.2.2.2.2.2.2.2.1 z19.2.2.2.2.2.2.2.2.1 z19.2.2.2.2.2.2.2.2.2.1 z19.2.2.2.2.2.2.2.2.2.2) fun z29 => some ((z29.2.2.2.2.2.2.1, z29.2.2.2.2.2.2.2.1, z29.2.2.2.2.2.2.2.2.1), z29.2.2.2.2.2.2.2.2.2, z29.1, z29.2.1) else some ((z19.2.2.2.2.2.2.1, z19.2.2.2.2.2.2.2.1, z19.2.2.2.2.2.2.2.2.1), z19.2.2.2.2.2.2.2.2.2.1, z20.2.1, z20.2.2) else some ((z19.2.2.2.2.2.2.1, z19.2.2.2.2.2.2.2.1, z19.2.2.2.2.2.2.2.2.1), z19.2.2.2.2.2.2.2.2.2.1, z19.1, z19.2.1)
noncomputable def Z2g : FnDef := .of ZhL Z12 ((Int × Int × List (Int × Int)) × List (List Int) × Int × Int) (fun k x => Z9U k x.1) ZgV ZbX ZmN
noncomputable def ZL : Code := Try.f69.body.getD .skip
noncomputable def Z3 : Ctx (Tup Z12 × OutD) := { T := T, G := [(79, Z1G.E), (80, Zk.E), (81, Z17.E), (82, Z16.E), (83, Z1r.E), (70, Z4O.E), (84, ZI.E)], mvs := [], no := 2, n := 81, res := resOf T ZhL Z12 Try.f69.results.toList, loops := [(3, Z31.E), (1, Z34.E)], regs := [(22, Z2u.E)], conds := [(13, Zm.E), (28, Zo.E), (39, Zn.E)], cuts := [] }
theorem Z3m (k : Nat) : EnvOK Try.prog k Z3.G := (EnvOK.cons (Zrq k) (EnvOK.cons (Z2n k) (EnvOK.cons (Zgl k) (EnvOK.cons (Zcg k) (EnvOK.cons (Zcq k) (EnvOK.cons (Ztm k) (EnvOK.cons (Z57 k) (EnvOK.nil mixed))))))))
noncomputable def Z9v : Array Oper := (findReg 22 ZL).getD #[]
theorem ZmM (k : Nat) (x : ZdL.D) : execD Z3.T Z3.G Z3.mvs k Z9v (Z2u.inp.st Z3.n x) (outK Z3 Z2u) = Z5F k x.1.2.1.2.1 x.1.2.1.2.2.1 x.1.2.2.1 x.1.2.2.2.1.1 x.1.2.2.2.1.2.1 x.1.2.2.2.2.1 x.1.2.2.2.2.2.1.1 x.1.2.2.2.2.2.1.2.1 x.1.2.2.2.2.2.2.1 x.1.2.2.2.2.2.2.2.1 x.2.2.2.2.2.1 := by kernel_rfl
theorem ZkW (k : Nat) : EOK Try.prog Z3 k Z2u.E (.region 22 Z9v true) := Z8y (D := Z2u) (m := 3) T_ok (Z3m k) (fun x => (ZmM k x).trans (Zmp k x.1.2.1.2.1 x.1.2.1.2.2.1 x.1.2.2.1 x.1.2.2.2.1.1 x.1.2.2.2.1.2.1 x.1.2.2.2.2.1 x.1.2.2.2.2.2.1.1 x.1.2.2.2.2.2.1.2.1 x.1.2.2.2.2.2.2.1 x.1.2.2.2.2.2.2.2.1 x.2.2.2.2.2.1))
noncomputable def Z5U : Code := ((findCond 13 ZL).map (·.1)).getD .skip
noncomputable def Z5S : Code := ((findCond 13 ZL).map (·.2)).getD .skip
theorem Zm3 (k : Nat) (i : Zm.inp.D) : Zm.lp k i = branch (Zm.inp.st Z3.n i) (.tmp 13) (fun st => exec Z3 k Z5U st (outK Z3 Zm) (fun _ _ => none) Zm.mkB) (fun st => exec Z3 k Z5S st (outK Z3 Zm) (fun _ _ => none) Zm.mkB) := by kernel_rfl
theorem Zky (k : Nat) : EOK Try.prog Z3 k Zm.E (.cond (.tmp 13) Z5U Z5S) := ZqA (D := Zm) T_ok (Z3m k) (Zm3 k) (@LOK.by _ _ _ _ Z5U [] (by kernel_rfl) AllOK.nil) (@LOK.by _ _ _ _ Z5S [] (by kernel_rfl) AllOK.nil)
noncomputable def Z5B : Code := ((findCond 28 ZL).map (·.1)).getD .skip
noncomputable def Z5D : Code := ((findCond 28 ZL).map (·.2)).getD .skip
theorem Zl1 (k : Nat) (i : Zo.inp.D) : Zo.lp k i = branch (Zo.inp.st Z3.n i) (.tmp 28) (fun st => exec Z3 k Z5B st (outK Z3 Zo) (fun _ _ => none) Zo.mkB) (fun st => exec Z3 k Z5D st (outK Z3 Zo) (fun _ _ => none) Zo.mkB) := by kernel_rfl
theorem Zkv (k : Nat) : EOK Try.prog Z3 k Zo.E (.cond (.tmp 28) Z5B Z5D) := ZqA (D := Zo) T_ok (Z3m k) (Zl1 k) (@LOK.by _ _ _ _ Z5B [] (by kernel_rfl) AllOK.nil) (@LOK.by _ _ _ _ Z5D [] (by kernel_rfl) AllOK.nil)
noncomputable def Z5G : Code := ((findCond 39 ZL).map (·.1)).getD .skip
noncomputable def Z5R : Code := ((findCond 39 ZL).map (·.2)).getD .skip
theorem Zm0 (k : Nat) (i : Zn.inp.D) : Zn.lp k i = branch (Zn.inp.st Z3.n i) (.tmp 39) (fun st => exec Z3 k Z5G st (outK Z3 Zn) (fun _ _ => none) Zn.mkB) (fun st => exec Z3 k Z5R st (outK Z3 Zn) (fun _ _ => none) Zn.mkB) := by kernel_rfl
theorem ZkB (k : Nat) : EOK Try.prog Z3 k Zn.E (.cond (.tmp 39) Z5G Z5R) := ZqA (D := Zn) T_ok (Z3m k) (Zm0 k) (@LOK.by _ _ _ _ Z5G [] (by kernel_rfl) AllOK.nil) (@LOK.by _ _ _ _ Z5R [] (by kernel_rfl) AllOK.nil)
noncomputable def Z7n : Code := (findLoop 3 ZL).getD .skip
theorem Zpk (k : Nat) (x : Zbb.D) : Z31.lp (k + 1) x = loopK Z3 Z31 3 Z7n k x := by kernel_rfl
theorem Zot (k : Nat) : LOK Try.prog Z3 k Z7n := LOK.by [] (by kernel_rfl) AllOK.nil
theorem Zpi (x : Zbb.D) : Z31.lp 0 x = none := by kernel_rfl
theorem Zno (k : Nat) : EOK Try.prog Z3 k Z31.E (.block 3 (.loop Z7n)) := Z4 T_ok Z3m Zpi Zpk Zot k
noncomputable def Z7D : Code := (findLoop 1 ZL).getD .skip
theorem Zph (k : Nat) (x : Zba.D) : Z34.lp (k + 1) x = loopK Z3 Z34 1 Z7D k x := by kernel_rfl
theorem ZoD (k : Nat) : LOK Try.prog Z3 k Z7D := LOK.by [(Zn.E, .cond (.tmp 39) Z5G Z5R), (Z31.E, .block 3 (.loop Z7n))] (by kernel_rfl) (AllOK.cons (ZkB k) (AllOK.cons (Zno k) AllOK.nil))
theorem Zpw (x : Zba.D) : Z34.lp 0 x = none := by kernel_rfl
theorem ZmQ (k : Nat) : EOK Try.prog Z3 k Z34.E (.block 1 (.loop Z7D)) := Z4 T_ok Z3m Zpw Zph ZoD k
theorem ZuT (k : Nat) (x : Tup Z2g.ps) : Z2g.f (k + 1) x = fnK Z2g Z3 ZL k x := by kernel_rfl
theorem Zuu (x : Tup Z2g.ps) : Z2g.f 0 x = none := by kernel_rfl
theorem Zu0 (k : Nat) : LOK Try.prog Z3 k ZL := LOK.by [(Zm.E, .cond (.tmp 13) Z5U Z5S), (Zo.E, .cond (.tmp 28) Z5B Z5D), (Z34.E, .block 1 (.loop Z7D)), (Z2u.E, .region 22 Z9v true)] (by kernel_rfl) (AllOK.cons (Zky k) (AllOK.cons (Zkv k) (AllOK.cons (ZmQ k) (AllOK.cons (ZkW k) AllOK.nil))))
theorem Zuh (k : Nat) : SoundAt Try.prog k 69 Z2g.E := @Z5 Try.prog Z2g Z3 69 Try.f69 ZL (by kernel_rfl) (by kernel_rfl) (by kernel_rfl) Try.func69 (by kernel_rfl) (by kernel_rfl) (by kernel_rfl) T_ok Z3m Zu0 Zuu ZuT k
end
end
section
noncomputable section
noncomputable def Z6L : List PK := [PK.mk (.pair I6 (.pair I6 (.slice 73 P6))) true none false none, PK.mk (.slice 28 (.slice 3 I6)) false none false none]
noncomputable def ZhQ : List PK := [PK.mk (.slice 5 (.int .u8)) false none false none]
noncomputable def ZgS (r : (Int × Int × List (Int × Int)) × List (List Int)) : Tup Z6L × OutD := ((r.1, r.2, ()), none)
noncomputable def Zhf : Tup Z6L × OutD → Option ((Int × Int × List (Int × Int)) × List (List Int))
 | (a, none) => some (a.1, a.2.1)
 | _ => none
theorem ZmW : ∀ b r, Zhf b = some r → ZgS r = b := by
 rintro ⟨a, _ | _⟩ r h <;> cases h; rfl
noncomputable def Z9J : Nat → List Int → Option ((Int × Int × List (Int × Int)) × List (List Int))
 | 0, _ => none
 | k + 1, p0 =>
  Option.bind (Z9U k (p0, (0 : Int), (0 : Int))) fun z0 => some ((z0.1.1, z0.1.2.1, z0.1.2.2), z0.2.1)
noncomputable def Z2f : FnDef := .of ZhQ Z6L ((Int × Int × List (Int × Int)) × List (List Int)) (fun k x => Z9J k x.1) ZgS Zhf ZmW
noncomputable def Zdh : Code := Try.f53.body.getD .skip
noncomputable def Z9F : Ctx (Tup Z6L × OutD) := { T := T, G := [(69, Z2g.E)], mvs := [], no := 0, n := 12, res := resOf T ZhQ Z6L Try.f53.results.toList, loops := [], regs := [], conds := [], cuts := [] }
theorem ZtV (k : Nat) : EnvOK Try.prog k Z9F.G := (EnvOK.cons (Zuh k) (EnvOK.nil mixed))
theorem ZuC (k : Nat) (x : Tup Z2f.ps) : Z2f.f (k + 1) x = fnK Z2f Z9F Zdh k x := by kernel_rfl
theorem ZtY (x : Tup Z2f.ps) : Z2f.f 0 x = none := by kernel_rfl
theorem ZtJ (k : Nat) : LOK Try.prog Z9F k Zdh := LOK.by [] (by kernel_rfl) AllOK.nil
theorem ZuR (k : Nat) : SoundAt Try.prog k 53 Z2f.E := @Z5 Try.prog Z2f Z9F 53 Try.f53 Zdh (by kernel_rfl) (by kernel_rfl) (by kernel_rfl) Try.func53 (by kernel_rfl) (by kernel_rfl) (by kernel_rfl) T_ok ZtV ZtJ ZtY ZuC k
end
end
section
noncomputable section
noncomputable def Z49 : List PK := [PK.mk (.pair I6 (.pair I6 (.slice 73 P6))) true none false none, PK.mk (.slice 28 (.slice 3 I6)) false none false none]
noncomputable def Zev : List PK := [PK.mk (.slice 5 (.int .u8)) false none false none]
noncomputable def ZdK (r : (Int × Int × List (Int × Int)) × List (List Int)) : Tup Z49 × OutD := ((r.1, r.2, ()), none)
noncomputable def Ze0 : Tup Z49 × OutD → Option ((Int × Int × List (Int × Int)) × List (List Int))
 | (a, none) => some (a.1, a.2.1)
 | _ => none
theorem Ziz : ∀ b r, Ze0 b = some r → ZdK r = b := by
 rintro ⟨a, _ | _⟩ r h <;> cases h; rfl
noncomputable def Z6G : Nat → List Int → Option ((Int × Int × List (Int × Int)) × List (List Int))
 | 0, _ => none
 | k + 1, p0 =>
  Option.bind (Z9J k p0) fun z0 => some ((z0.1.1, z0.1.2.1, z0.1.2.2), z0.2)
noncomputable def Z1d : FnDef := .of Zev Z49 ((Int × Int × List (Int × Int)) × List (List Int)) (fun k x => Z6G k x.1) ZdK Ze0 Ziz
noncomputable def Za6 : Code := Try.f21.body.getD .skip
noncomputable def Z6E : Ctx (Tup Z49 × OutD) := { T := T, G := [(53, Z2f.E)], mvs := [], no := 0, n := 8, res := resOf T Zev Z49 Try.f21.results.toList, loops := [], regs := [], conds := [], cuts := [] }
theorem Znx (k : Nat) : EnvOK Try.prog k Z6E.G := (EnvOK.cons (ZuR k) (EnvOK.nil mixed))
theorem Znr (k : Nat) (x : Tup Z1d.ps) : Z1d.f (k + 1) x = fnK Z1d Z6E Za6 k x := by kernel_rfl
theorem Zne (x : Tup Z1d.ps) : Z1d.f 0 x = none := by kernel_rfl
theorem ZmR (k : Nat) : LOK Try.prog Z6E k Za6 := LOK.by [] (by kernel_rfl) AllOK.nil
theorem Zny (k : Nat) : SoundAt Try.prog k 21 Z1d.E := @Z5 Try.prog Z1d Z6E 21 Try.f21 Za6 (by kernel_rfl) (by kernel_rfl) (by kernel_rfl) Try.func21 (by kernel_rfl) (by kernel_rfl) (by kernel_rfl) T_ok Znx ZmR Zne Znr k
end
end
section
theorem Zf4 (a b c : Int) : Ev (fun k => Z92 k a b c) (decide (b ≤ a ∧ a ≤ c)) := by
 refine Ev.succ ?_
 simp only [Z92]
 refine Ev.of ?_
 by_cases h1 : b ≤ a <;> by_cases h2 : a ≤ c <;> simp [h1, h2]
theorem ZqE (lo hi : Int) : ∀ (r pre : List Int), (pre ++ r).length ≤ 9223372036854775806 → Ev (fun k => Z9c k lo hi (pre ++ r) ((pre ++ r).length : Int) (pre.length : Int)) (if r.all (fun n => decide (lo ≤ n ∧ n ≤ hi)) then LR.go () else LR.ret false)
 | [], pre, hl => by
  refine Ev.succ ?_
  simp only [Z9c, Zj, decide_false, Bool.false_eq_true, if_false, List.all_nil, if_true]
  exact Ev.some _
 | x :: r, pre, hl => by
  have ih := ZqE lo hi r (pre ++ [x]) (by simpa using hl)
  refine Ev.succ ?_
  simp only [Z9c, Zc, Zr, decide_true, if_true, Int.toNat_natCast, Za]
  rw [Zd pre x r (by omega)]
  rw [← Z6] at ih
  refine Ev.bind (Zf4 x lo hi) ?_
  by_cases hx : lo ≤ x ∧ x ≤ hi
  ·simp only [hx, and_self, List.all_cons, decide_true, Bool.true_and, Bool.not_true, Bool.false_eq_true, if_false]; exact ih
  ·simp only [hx, List.all_cons, decide_false, Bool.false_and, Bool.not_false, if_true, Bool.false_eq_true, if_false]; exact Ev.some _
theorem ZGa (l : List Int) (lo hi : Int) (hl : l.length ≤ 9223372036854775806) : Ev (fun k => ZgO k l lo hi) (l.all fun n => decide (lo ≤ n ∧ n ≤ hi)) := by
 refine Ev.succ ?_
 simp only [ZgO]
 refine Ev.bind (ZqE lo hi l [] (by simpa using hl)) ?_
 cases hx : l.all fun n => decide (lo ≤ n ∧ n ≤ hi) with
 | true => simp only [if_true]; exact Ev.go (Ev.some _)
 | false => simp only [Bool.false_eq_true, if_false]; exact Ev.ret (Ev.some _)
end
section
abbrev CellD := Int × Int
abbrev BoardD := Int × Int × List (Int × Int)
abbrev FaultD := Int × Int × Int
def turning (x : CellD) : Bool := decide (x.1 = 3 ∨ x.1 = 6)
def cellOK (x : CellD) : Bool := decide (0 ≤ x.1 ∧ x.1 ≤ 7 ∧ (x.2 = 0 ∨ (x.2 = 1 ∧ (x.1 = 3 ∨ x.1 = 6))))
def boardOK (b : BoardD) : Bool := decide (1 ≤ b.1 ∧ b.1 ≤ 10 ∧ 1 ≤ b.2.1 ∧ b.2.1 ≤ 9 ∧ (b.2.2.length : Int) = b.1 * b.2.1) && b.2.2.all cellOK
theorem Z9k (x : CellD) : Ev (fun k => Z3K k x) (turning x) := by
 refine Ev.succ ?_
 simp only [Z3K]
 refine Ev.of ?_
 by_cases h1 : x.1 = 3 <;> simp [turning, h1]
theorem ZjB (x : CellD) : Ev (fun k => Zag k x) (cellOK x) := by
 refine Ev.succ ?_
 simp only [Zag, decide_eq_true_eq]
 refine Ev.of ?_
 unfold cellOK
 repeat' split
 all_goals (congr 1; first | (symm; rw [decide_eq_true_eq]; omega) | (symm; rw [decide_eq_false_iff_not]; omega) | (apply decide_eq_decide.2; omega))
theorem ZEE (x : CellD) : Ev (fun k => Zfq k x) (cellOK x) := by
 refine Ev.succ ?_
 simp only [Zfq]
 refine Ev.bind (Zf4 _ _ _) ?_
 refine Ev.ite (fun h => ?_) (fun h => ?_)
 ·simp only [decide_eq_true_eq] at h
  refine Ev.ite (fun h2 => ?_) (fun h2 => ?_)
  ·simp only [decide_eq_true_eq] at h2
   refine Ev.of ?_
   congr 1; simp [cellOK]; omega
  ·simp only [decide_eq_true_eq] at h2
   refine Ev.ite (fun h3 => ?_) (fun h3 => ?_)
   ·simp only [decide_eq_true_eq] at h3
    refine Ev.bind (Z9k x) (Ev.of ?_)
    congr 1; unfold turning cellOK; by_cases h4 : x.1 = 3 ∨ x.1 = 6 <;> simp [h4] <;> omega
   ·simp only [decide_eq_true_eq] at h3
    refine Ev.of ?_
    congr 1; simp [cellOK]; omega
 ·simp only [decide_eq_true_eq] at h
  refine Ev.of ?_
  congr 1; simp [cellOK]; omega
theorem ZlW (x : CellD) : Ev (fun k => Z2Q k x) (cellOK x && turning x) := by
 refine Ev.succ ?_
 simp only [Z2Q]
 refine Ev.bind (ZjB x) ?_
 refine Ev.ite (fun h => ?_) (fun h => ?_)
 ·rw [h, Bool.true_and]
  refine Ev.of ?_
  by_cases h1 : x.1 = 3 <;> simp [turning, h1]
 ·refine Ev.of ?_
  simp only [Bool.not_eq_true] at h
  rw [h]; rfl
theorem Zi2 : ∀ (r pre : List CellD), (pre ++ r).length ≤ 9223372036854775806 → Ev (fun k => Z4B k (pre ++ r) ((pre ++ r).length : Int) (pre.length : Int)) (if r.all cellOK then LR.go () else LR.ret false)
 | [], pre, hl => by
  refine Ev.succ ?_
  simp only [Z4B, Zj, decide_false, Bool.false_eq_true, if_false, List.all_nil, if_true]
  exact Ev.some _
 | x :: r, pre, hl => by
  have ih := Zi2 r (pre ++ [x]) (by simpa using hl)
  refine Ev.succ ?_
  simp only [Z4B, Zc, Zr, decide_true, if_true, Int.toNat_natCast, Za]
  rw [Zd pre x r (by omega)]
  rw [← Z6] at ih
  refine Ev.bind (ZjB x) ?_
  cases hx : cellOK x with
  | true => simp only [hx, List.all_cons, Bool.true_and, Bool.not_true, Bool.false_eq_true, if_false]; exact ih
  | false => simp only [hx, List.all_cons, Bool.false_and, Bool.not_false, if_true, Bool.false_eq_true, if_false]; exact Ev.some _
theorem ZxU (l : List CellD) (hl : l.length ≤ 9223372036854775806) : Ev (fun k => Zbg k l) (decide (l.length ≤ 90) && l.all cellOK) := by
 refine Ev.succ ?_
 simp only [Zbg]
 refine Ev.ite (fun h => ?_) (fun h => ?_)
 ·simp only [decide_eq_true_eq] at h
  refine Ev.of ?_
  have : ¬ l.length ≤ 90 := by omega
  simp [this]
 ·simp only [decide_eq_true_eq] at h
  have h2 : l.length ≤ 90 := by omega
  refine Ev.bind (Zi2 l [] (by simpa using hl)) ?_
  simp only [h2, decide_true, Bool.true_and]
  cases hx : l.all cellOK with
  | true => simp only [if_true]; exact Ev.go (Ev.some _)
  | false => simp only [Bool.false_eq_true, if_false]; exact Ev.ret (Ev.some _)
theorem Z1h {a b : Int} (h1 : 1 ≤ a) (h2 : a ≤ 10) (h3 : 1 ≤ b) (h4 : b ≤ 9) : 1 ≤ a * b ∧ a * b ≤ 90 :=
 ⟨by have := Int.mul_le_mul h1 h3 (by omega) (by omega); omega, by have := Int.mul_le_mul h2 h4 (by omega) (by omega); omega⟩
theorem Zrs (b : BoardD) (hl : b.2.2.length ≤ 9223372036854775806) : Ev (fun k => ZbR k b) (boardOK b) := by
 refine Ev.succ ?_
 simp only [ZbR, ge_iff_le]
 have no : ∀ {c : Prop}, ¬ c → (boardOK b = true → c) → Option.some false = Option.some (boardOK b) := by
  intro c h1 h2
  cases hb : boardOK b with
  | true => exact absurd (h2 hb) h1
  | false => rfl
 have hb : boardOK b = true → 1 ≤ b.1 ∧ b.1 ≤ 10 ∧ 1 ≤ b.2.1 ∧ b.2.1 ≤ 9 ∧ (b.2.2.length : Int) = b.1 * b.2.1 := fun h => by
  unfold boardOK at h; simp only [Bool.and_eq_true, decide_eq_true_eq] at h; exact h.1
 refine Ev.ite (fun h1 => ?_) (fun h => Ev.of (no h (fun hh => by simpa using (hb hh).1)))
 refine Ev.ite (fun h2 => ?_) (fun h => Ev.of (no h (fun hh => by simpa using (hb hh).2.1)))
 refine Ev.ite (fun h3 => ?_) (fun h => Ev.of (no h (fun hh => by simpa using (hb hh).2.2.1)))
 refine Ev.ite (fun h4 => ?_) (fun h => Ev.of (no h (fun hh => by simpa using (hb hh).2.2.2.1)))
 simp only [decide_eq_true_eq] at h1 h2 h3 h4
 have hp := Z1h h1 h2 h3 h4
 rw [w64 (by omega) (by omega)]
 refine Ev.ite (fun h5 => ?_) (fun h => Ev.of (no h (fun hh => by simpa using (hb hh).2.2.2.2)))
 simp only [decide_eq_true_eq] at h5
 refine Ev.bind (ZxU _ hl) (Ev.of ?_)
 have h6 : b.2.2.length ≤ 90 := by omega
 congr 1
 simp only [boardOK, h1, h2, h3, h4, ← h5, h6, and_self, decide_true, Bool.true_and]
theorem Zo5 : ∀ (r pre : List CellD), (pre ++ r).length ≤ 9223372036854775806 → Ev (fun k => Z88 k (pre ++ r) ((pre ++ r).length : Int) (pre.length : Int)) (if r.all cellOK then LR.go () else LR.ret false)
 | [], pre, hl => by
  refine Ev.succ ?_
  simp only [Z88, Zj, decide_false, Bool.false_eq_true, if_false, List.all_nil, if_true]
  exact Ev.some _
 | x :: r, pre, hl => by
  have ih := Zo5 r (pre ++ [x]) (by simpa using hl)
  refine Ev.succ ?_
  simp only [Z88, Zc, Zr, decide_true, if_true, Int.toNat_natCast, Za]
  rw [Zd pre x r (by omega)]
  rw [← Z6] at ih
  refine Ev.bind (ZEE x) ?_
  cases hx : cellOK x with
  | true => simp only [hx, List.all_cons, Bool.true_and, Bool.not_true, Bool.false_eq_true, if_false]; exact ih
  | false => simp only [hx, List.all_cons, Bool.false_and, Bool.not_false, if_true, Bool.false_eq_true, if_false]; exact Ev.some _
theorem ZEc (b : BoardD) (hl : b.2.2.length ≤ 9223372036854775806) : Ev (fun k => ZfB k b) (boardOK b) := by
 refine Ev.succ ?_
 simp only [ZfB]
 have no : ∀ {c : Prop}, ¬ c → (boardOK b = true → c) → Option.some false = Option.some (boardOK b) := by
  intro c h1 h2
  cases hb : boardOK b with
  | true => exact absurd (h2 hb) h1
  | false => rfl
 have hb : boardOK b = true → 1 ≤ b.1 ∧ b.1 ≤ 10 ∧ 1 ≤ b.2.1 ∧ b.2.1 ≤ 9 ∧ (b.2.2.length : Int) = b.1 * b.2.1 := fun h => by
  unfold boardOK at h; simp only [Bool.and_eq_true, decide_eq_true_eq] at h; exact h.1
 refine Ev.bind (Zf4 _ _ _) (Ev.ite (fun h => Ev.of (no (c := 1 ≤ b.1 ∧ b.1 ≤ 10) (nd h) (fun hh => ⟨(hb hh).1, (hb hh).2.1⟩))) (fun h1 => ?_))
 refine Ev.bind (Zf4 _ _ _) (Ev.ite (fun h => Ev.of (no (c := 1 ≤ b.2.1 ∧ b.2.1 ≤ 9) (nd h) (fun hh => ⟨(hb hh).2.2.1, (hb hh).2.2.2.1⟩))) (fun h2 => ?_))
 have h1' : 1 ≤ b.1 ∧ b.1 ≤ 10 := yd h1
 have h2' : 1 ≤ b.2.1 ∧ b.2.1 ≤ 9 := yd h2
 have hp := Z1h h1'.1 h1'.2 h2'.1 h2'.2
 rw [w64 (by omega) (by omega)]
 refine Ev.ite (fun h => Ev.of (no (c := (b.2.2.length : Int) = b.1 * b.2.1) (by simpa using h) (fun hh => (hb hh).2.2.2.2))) (fun h3 => ?_)
 have h3' : (b.2.2.length : Int) = b.1 * b.2.1 := by simpa using h3
 refine Ev.bind (Zo5 b.2.2 [] (by simpa using hl)) ?_
 have hx2 : boardOK b = b.2.2.all cellOK := by unfold boardOK; simp only [h1'.1, h1'.2, h2'.1, h2'.2, h3', and_self, decide_true, Bool.true_and]
 rw [hx2]
 cases hx : b.2.2.all cellOK with
 | true => simp only [if_true]; exact Ev.go (Ev.some _)
 | false => simp only [Bool.false_eq_true, if_false]; exact Ev.ret (Ev.some _)
theorem Z1L {b : BoardD} (h : boardOK b = true) : 1 ≤ b.1 ∧ b.1 ≤ 10 ∧ 1 ≤ b.2.1 ∧ b.2.1 ≤ 9 ∧ (b.2.2.length : Int) = b.1 * b.2.1 ∧ ∀ x ∈ b.2.2, cellOK x = true := by
 unfold boardOK at h
 simp only [Bool.and_eq_true, decide_eq_true_eq] at h
 exact ⟨h.1.1, h.1.2.1, h.1.2.2.1, h.1.2.2.2.1, h.1.2.2.2.2, List.all_eq_true.1 h.2⟩
theorem Zcm {b : BoardD} (h : boardOK b = true) {r c : Int} (h1 : 0 ≤ r) (h2 : r < b.1) (h3 : 0 ≤ c) (h4 : c < b.2.1) : 0 ≤ r * b.2.1 + c ∧ r * b.2.1 + c < (b.2.2.length : Int) ∧ r * b.2.1 + c ≤ 90 ∧ 0 ≤ r * b.2.1 ∧ r * b.2.1 ≤ 90 := by
 obtain ⟨g1, g2, g3, g4, g5, _⟩ := Z1L h
 have hp := Z1h g1 g2 g3 g4
 have k1 : 0 ≤ r * b.2.1 := Int.mul_nonneg h1 (by omega)
 have k2 : (r + 1) * b.2.1 ≤ b.1 * b.2.1 := Int.mul_le_mul_of_nonneg_right (by omega) (by omega)
 rw [Int.add_mul, Int.one_mul] at k2
 omega
theorem ZDe {l : List CellD} {i : Int} (h0 : 0 ≤ i) (h1 : i < (l.length : Int)) (d : CellD) : List.getD l i.toNat d ∈ l := by
 have : i.toNat < l.length := by omega
 simp [List.getD, List.getElem?_eq_getElem this]
end
section
def geared (x : CellD) : Bool := decide (x.1 = 6 ∨ x.1 = 7)
theorem ZnS (x : CellD) : Ev (fun k => ZaR k x) (geared x) := by
 refine Ev.succ ?_
 simp only [ZaR]
 refine Ev.of ?_
 by_cases h1 : x.1 = 6 <;> simp [geared, h1]
theorem Ztf (x : CellD) : Ev (fun k => ZcJ k x) (geared x) := by
 refine Ev.succ ?_
 simp only [ZcJ]
 refine Ev.of ?_
 by_cases h1 : x.1 = 6 <;> simp [geared, h1]
def nears (b : BoardD) (i : Int) : List Int := (if 0 < Int.tdiv i b.2.1 then [i - b.2.1] else []) ++ (if 0 < Int.tmod i b.2.1 then [i - 1] else []) ++ (if Int.tmod i b.2.1 + 1 < b.2.1 then [i + 1] else []) ++ (if Int.tdiv i b.2.1 + 1 < b.1 then [i + b.2.1] else [])
theorem Zio {b : BoardD} (hb : boardOK b = true) {i : Int} (h0 : 0 ≤ i) (h1 : i < (b.2.2.length : Int)) : ∃ q m t : Int, Int.tdiv i b.2.1 = q ∧ Int.tmod i b.2.1 = m ∧ i = t + m ∧ 0 ≤ m ∧ m < b.2.1 ∧ 0 ≤ q ∧ q < b.1 ∧ 0 ≤ t ∧ t + b.2.1 ≤ (b.2.2.length : Int) ∧ (1 ≤ q → b.2.1 ≤ t) ∧ (q + 1 < b.1 → t + b.2.1 + b.2.1 ≤ (b.2.2.length : Int)) := by
 obtain ⟨g1, g2, g3, g4, g5, g6⟩ := Z1L hb
 have hq : Int.tdiv i b.2.1 = i / b.2.1 := Int.tdiv_eq_ediv_of_nonneg h0
 have hm : Int.tmod i b.2.1 = i % b.2.1 := Int.tmod_eq_emod_of_nonneg h0
 have e1 := Int.mul_ediv_add_emod i b.2.1
 have e2 := Int.emod_nonneg i (show b.2.1 ≠ 0 by omega)
 have e3 := Int.emod_lt_of_pos i (show 0 < b.2.1 by omega)
 have e4 : 0 ≤ i / b.2.1 := Int.ediv_nonneg h0 (by omega)
 have e5 : i / b.2.1 < b.1 := Int.ediv_lt_of_lt_mul (by omega) (by rw [← g5]; exact h1)
 have e6 : 0 ≤ b.2.1 * (i / b.2.1) := Int.mul_nonneg (by omega) e4
 have e7 : b.2.1 * (i / b.2.1 + 1) ≤ b.2.1 * b.1 := Int.mul_le_mul_of_nonneg_left (by omega) (by omega)
 rw [Int.mul_add, Int.mul_one, Int.mul_comm b.2.1 b.1, ← g5] at e7
 refine ⟨_, _, b.2.1 * (i / b.2.1), hq, hm, by omega, e2, e3, e4, e5, e6, e7, fun h => ?_, fun h => ?_⟩
 ·have := Int.mul_le_mul_of_nonneg_left h (show 0 ≤ b.2.1 by omega)
  omega
 ·have e8 : b.2.1 * (i / b.2.1 + 2) ≤ b.2.1 * b.1 := Int.mul_le_mul_of_nonneg_left (by omega) (by omega)
  rw [Int.mul_add, Int.mul_comm b.2.1 b.1, ← g5] at e8
  omega
theorem ZFN {b : BoardD} (hb : boardOK b = true) {i : Int} (h0 : 0 ≤ i) (h1 : i < (b.2.2.length : Int)) : ∀ n ∈ nears b i, 0 ≤ n ∧ n < (b.2.2.length : Int) := by
 obtain ⟨q, m, t, hq, hm, k1, k2, k3, k4, k5, k6, k7, k8, k9⟩ := Zio hb h0 h1
 intro n hn
 unfold nears at hn
 rw [hq, hm] at hn
 simp only [List.mem_append] at hn
 rcases hn with ((hn | hn) | hn) | hn
 ·split at hn
  ·have := List.mem_singleton.1 hn; have := k8 (by omega); omega
  ·cases hn
 ·split at hn
  ·have := List.mem_singleton.1 hn; omega
  ·cases hn
 ·split at hn
  ·have := List.mem_singleton.1 hn; omega
  ·cases hn
 ·split at hn
  ·have := List.mem_singleton.1 hn; have := k9 (by omega); omega
  ·cases hn
theorem ZDN (b : BoardD) (i : Int) : (nears b i).length ≤ 4 := by
 unfold nears
 simp only [List.length_append]
 have h1 : ∀ (c : Prop) [Decidable c] (x : Int), (if c then [x] else []).length ≤ 1 := by intro c _ x; split <;> simp
 have a1 := h1 (0 < Int.tdiv i b.2.1) (i - b.2.1)
 have a2 := h1 (0 < Int.tmod i b.2.1) (i - 1)
 have a3 := h1 (Int.tmod i b.2.1 + 1 < b.2.1) (i + 1)
 have a4 := h1 (Int.tdiv i b.2.1 + 1 < b.1) (i + b.2.1)
 omega
theorem ZBf (b : BoardD) (hb : boardOK b = true) (i : Int) (h0 : 0 ≤ i) (h1 : i < (b.2.2.length : Int)) : Ev (fun k => Zdi k b i) (nears b i) := by
 obtain ⟨g1, g2, g3, g4, g5, g6⟩ := Z1L hb
 have hp := Z1h g1 g2 g3 g4
 obtain ⟨q, m, t, hq, hm, k1, k2, k3, k4, k5, k6, k7, k8, k9⟩ := Zio hb h0 h1
 have hC : ¬ b.2.1 = 0 := by omega
 refine Ev.succ ?_
 simp only [Zdi, hC, if_false, nears, hq, hm, gt_iff_lt]
 rw [w64 (n := q) (by omega) (by omega), w64 (n := q + 1) (by omega) (by omega), w64 (n := m + 1) (by omega) (by omega), w64 (n := i - b.2.1) (by omega) (by omega), w64 (n := i - 1) (by omega) (by omega), w64 (n := i + 1) (by omega) (by omega), w64 (n := i + b.2.1) (by omega) (by omega)]
 refine Ev.of ?_
 by_cases h1 : 0 < q <;> by_cases h2 : 0 < m <;> by_cases h3 : m + 1 < b.2.1 <;> by_cases h4 : q + 1 < b.1 <;> simp [h1, h2, h3, h4]
theorem ZEf (b : BoardD) (hb : boardOK b = true) (i : Int) (h0 : 0 ≤ i) (h1 : i < (b.2.2.length : Int)) : Ev (fun k => Zfz k b i) (nears b i) := by
 obtain ⟨g1, g2, g3, g4, g5, g6⟩ := Z1L hb
 have hp := Z1h g1 g2 g3 g4
 obtain ⟨q, m, t, hq, hm, k1, k2, k3, k4, k5, k6, k7, k8, k9⟩ := Zio hb h0 h1
 have hC : ¬ b.2.1 = 0 := by omega
 refine Ev.succ ?_
 simp only [Zfz, hC, if_false, nears, hq, hm, gt_iff_lt]
 rw [w64 (n := q) (by omega) (by omega), w64 (n := q + 1) (by omega) (by omega), w64 (n := m + 1) (by omega) (by omega), w64 (n := i - b.2.1) (by omega) (by omega), w64 (n := i - 1) (by omega) (by omega), w64 (n := i + 1) (by omega) (by omega), w64 (n := i + b.2.1) (by omega) (by omega)]
 refine Ev.of ?_
 by_cases h1 : 0 < q <;> by_cases h2 : 0 < m <;> by_cases h3 : m + 1 < b.2.1 <;> by_cases h4 : q + 1 < b.1 <;> simp [h1, h2, h3, h4]
def visit (b : BoardD) (v : Int) (G : List Int × List Int) (n : Int) : List Int × List Int := if geared (List.getD b.2.2 n.toNat (0, 0)) && decide (List.getD G.1 n.toNat 0 < 0) then (List.set G.1 n.toNat v, G.2 ++ [n]) else G
def unl (l : List Int) : Nat := l.countP fun x => decide (x < 0)
theorem Zxg (v : Int) (hv : 0 ≤ v) : ∀ (l : List Int) (i : Nat), i < l.length → List.getD l i 0 < 0 → unl (l.set i v) + 1 = unl l
 | [], i, h, _ => by simp at h
 | x :: l, 0, _, h => by
  have h' : x < 0 := by simpa using h
  have : ¬ v < 0 := by omega
  simp [unl, h', this]
 | x :: l, i + 1, h, h2 => by
  have ih := Zxg v hv l i (by simpa using h) (by simpa using h2)
  simp only [unl, List.set_cons_succ, List.countP_cons] at ih ⊢
  omega
theorem ZHh (l : List Int) : unl l ≤ l.length := List.countP_le_length
theorem ZDx (b : BoardD) (v : Int) (G : List Int × List Int) (n : Int) : (visit b v G n).1.length = G.1.length := by
 unfold visit; split <;> simp
theorem ZkV (b : BoardD) (v : Int) : ∀ (r : List Int) (G : List Int × List Int), (r.foldl (visit b v) G).1.length = G.1.length
 | [], G => rfl
 | n :: r, G => by rw [List.foldl_cons, ZkV b v r, ZDx]
theorem ZIt (b : BoardD) (v : Int) (hv : 0 ≤ v) (G : List Int × List Int) (n : Int) (h0 : 0 ≤ n) (h1 : n < (G.1.length : Int)) : unl (visit b v G n).1 + (visit b v G n).2.length = unl G.1 + G.2.length := by
 unfold visit
 split
 ·rename_i hc
  simp only [Bool.and_eq_true, decide_eq_true_eq] at hc
  have := Zxg v hv G.1 n.toNat (by omega) hc.2
  simp only [List.length_append, List.length_singleton]
  omega
 ·rfl
theorem ZrW (b : BoardD) (v : Int) (hv : 0 ≤ v) : ∀ (r : List Int) (G : List Int × List Int), (∀ n ∈ r, 0 ≤ n ∧ n < (G.1.length : Int)) → unl (r.foldl (visit b v) G).1 + (r.foldl (visit b v) G).2.length = unl G.1 + G.2.length
 | [], G, _ => rfl
 | n :: r, G, h => by
  rw [List.foldl_cons, ZrW b v hv r _ (fun m hm => by rw [ZDx]; exact h m (List.mem_cons_of_mem _ hm))]
  exact ZIt b v hv G n (h n (List.mem_cons_self ..)).1 (h n (List.mem_cons_self ..)).2
theorem ZkM (b : BoardD) (v : Int) : ∀ (r : List Int) (o2 o3 a : List Int), (r.foldl (visit b v) (o2, o3 ++ a)) = ((r.foldl (visit b v) (o2, a)).1, o3 ++ (r.foldl (visit b v) (o2, a)).2)
 | [], o2, o3, a => rfl
 | n :: r, o2, o3, a => by
  simp only [List.foldl_cons]
  by_cases hc : (geared (List.getD b.2.2 n.toNat (0, 0)) && decide (List.getD o2 n.toNat 0 < 0)) = true
  ·have e1 : visit b v (o2, o3 ++ a) n = (List.set o2 n.toNat v, o3 ++ (a ++ [n])) := by simp only [visit]; rw [if_pos hc, List.append_assoc]
   have e2 : visit b v (o2, a) n = (List.set o2 n.toNat v, a ++ [n]) := by simp only [visit]; rw [if_pos hc]
   rw [e1, e2]
   exact ZkM b v r _ o3 _
  ·have e1 : visit b v (o2, o3 ++ a) n = (o2, o3 ++ a) := by simp only [visit]; rw [if_neg hc]
   have e2 : visit b v (o2, a) n = (o2, a) := by simp only [visit]; rw [if_neg hc]
   rw [e1, e2]
   exact ZkM b v r o2 o3 a
theorem Zsq (b : BoardD) (v : Int) (P : Int → Prop) : ∀ (r : List Int) (G : List Int × List Int), (∀ n ∈ r, P n) → (∀ n ∈ G.2, P n) → ∀ n ∈ (r.foldl (visit b v) G).2, P n
 | [], G, _, h => h
 | m :: r, G, h, hg => by
  rw [List.foldl_cons]
  refine Zsq b v P r _ (fun n hn => h n (List.mem_cons_of_mem _ hn)) (fun n hn => ?_)
  unfold visit at hn
  split at hn
  ·rcases List.mem_append.1 hn with hn | hn
   ·exact hg n hn
   ·rw [List.mem_singleton.1 hn]; exact h m (List.mem_cons_self ..)
  ·exact hg n hn
theorem ZbN (b : BoardD) (hb : boardOK b = true) (v : Int) (hv : 0 ≤ v) (v26 : List CellD) (v27 v28 : Int) : ∀ (r pre o2 o3 : List Int), (∀ n ∈ r, 0 ≤ n ∧ n < (b.2.2.length : Int)) → (pre ++ r).length ≤ 100 → o2.length = b.2.2.length → o3.length + unl o2 ≤ 1000 →
    Ev (fun k => Z1B k b.1 b.2.1 b.2.2 o2 o3 (pre ++ r) v  v26 v27 v28 ((pre ++ r).length : Int) (pre.length : Int)) (b.1, b.2.1, b.2.2, (r.foldl (visit b v) (o2, o3)).1, (r.foldl (visit b v) (o2, o3)).2, v, v26, v27, v28)
  | [], pre, o2, o3, hr, hl, h2, h3 => by
    refine Ev.succ ?_
    simp only [Z1B, Zj, decide_false, Bool.false_eq_true, if_false]
    exact Ev.some _
  | x :: r, pre, o2, o3, hr, hl, h2, h3 => by
    obtain ⟨hx0, hx1⟩ := hr x (List.mem_cons_self ..)
    have hx2 : x < (o2.length : Int) := by omega
    have hr' : ∀ n ∈ r, 0 ≤ n ∧ n < (b.2.2.length : Int) := fun n hn => hr n (List.mem_cons_of_mem _ hn)
    have ih0 := ZbN b hb v hv  v26 v27 v28 r (pre ++ [x]) o2 o3 hr' (by simpa using hl) h2 h3
    rw [← Z6] at ih0
    have hn := Zd pre x r (by omega)
    refine Ev.succ ?_
    simp only [Z1B, Zc, Zr, decide_true, if_true, Int.toNat_natCast, Za, hn, hx0, hx1, hx2]
    refine Ev.bind (ZnS (List.getD b.2.2 x.toNat (0, 0))) ?_
    rw [List.foldl_cons]
    by_cases hg : geared (List.getD b.2.2 x.toNat (0, 0)) = true
    · simp only [hg, if_true]
      by_cases ho : List.getD o2 x.toNat 0 < 0
      · have e1 : visit b v (o2, o3) x = (List.set o2 x.toNat v, o3 ++ [x]) := by unfold visit; rw [if_pos (by simp only [hg, ho, decide_true, Bool.and_self])]
        have hu := Zxg v hv o2 x.toNat (by omega) ho
        have hle : o3.length + 1 ≤ 140737488355328 / 8 := by omega
        have ih := ZbN b hb v hv  v26 v27 v28 r (pre ++ [x]) (List.set o2 x.toNat v) (o3 ++ [x]) hr' (by simpa using hl) (by simpa using h2) (by simp; omega)
        rw [← Z6] at ih
        simp only [ho, decide_true, if_true, List.length_singleton, hle]
        rw [e1]
        exact ih
      · have e1 : visit b v (o2, o3) x = (o2, o3) := by unfold visit; rw [if_neg (by simp only [ho, decide_false, Bool.and_false, Bool.false_eq_true, not_false_eq_true])]
        simp only [ho, decide_false, Bool.false_eq_true, if_false]
        rw [e1]
        exact ih0
    · have e1 : visit b v (o2, o3) x = (o2, o3) := by unfold visit; rw [if_neg (by simp only [hg, Bool.false_and, Bool.false_eq_true, not_false_eq_true])]
      simp only [hg, Bool.false_eq_true, if_false]
      rw [e1]
      exact ih0
theorem ZeS (b : BoardD) (hb : boardOK b = true) (v : Int) (hv : 0 ≤ v) (v9 : Int) (v26 : List CellD) (v27 v28 : Int) : ∀ (r pre o2 o3 : List Int), (∀ n ∈ r, 0 ≤ n ∧ n < (b.2.2.length : Int)) → (pre ++ r).length ≤ 100 → o2.length = b.2.2.length → o3.length + unl o2 ≤ 1000 →
    Ev (fun k => Z3c k b.1 b.2.1 b.2.2 o2 o3 (pre ++ r) v v9 v26 v27 v28 ((pre ++ r).length : Int) (pre.length : Int)) (b.1, b.2.1, b.2.2, (r.foldl (visit b v) (o2, o3)).1, (r.foldl (visit b v) (o2, o3)).2, v, v9, v26, v27, v28)
  | [], pre, o2, o3, hr, hl, h2, h3 => by
    refine Ev.succ ?_
    simp only [Z3c, Zj, decide_false, Bool.false_eq_true, if_false]
    exact Ev.some _
  | x :: r, pre, o2, o3, hr, hl, h2, h3 => by
    obtain ⟨hx0, hx1⟩ := hr x (List.mem_cons_self ..)
    have hx2 : x < (o2.length : Int) := by omega
    have hr' : ∀ n ∈ r, 0 ≤ n ∧ n < (b.2.2.length : Int) := fun n hn => hr n (List.mem_cons_of_mem _ hn)
    have ih0 := ZeS b hb v hv v9 v26 v27 v28 r (pre ++ [x]) o2 o3 hr' (by simpa using hl) h2 h3
    rw [← Z6] at ih0
    have hn := Zd pre x r (by omega)
    refine Ev.succ ?_
    simp only [Z3c, Zc, Zr, decide_true, if_true, Int.toNat_natCast, Za, hn, hx0, hx1, hx2]
    refine Ev.bind (Ztf (List.getD b.2.2 x.toNat (0, 0))) ?_
    rw [List.foldl_cons]
    by_cases hg : geared (List.getD b.2.2 x.toNat (0, 0)) = true
    · simp only [hg, if_true]
      by_cases ho : List.getD o2 x.toNat 0 < 0
      · have e1 : visit b v (o2, o3) x = (List.set o2 x.toNat v, o3 ++ [x]) := by unfold visit; rw [if_pos (by simp only [hg, ho, decide_true, Bool.and_self])]
        have hu := Zxg v hv o2 x.toNat (by omega) ho
        have hle : o3.length + 1 ≤ 140737488355328 / 8 := by omega
        have ih := ZeS b hb v hv v9 v26 v27 v28 r (pre ++ [x]) (List.set o2 x.toNat v) (o3 ++ [x]) hr' (by simpa using hl) (by simpa using h2) (by simp; omega)
        rw [← Z6] at ih
        simp only [ho, decide_true, if_true, List.length_singleton, hle]
        rw [e1]
        exact ih
      · have e1 : visit b v (o2, o3) x = (o2, o3) := by unfold visit; rw [if_neg (by simp only [ho, decide_false, Bool.and_false, Bool.false_eq_true, not_false_eq_true])]
        simp only [ho, decide_false, Bool.false_eq_true, if_false]
        rw [e1]
        exact ih0
    · have e1 : visit b v (o2, o3) x = (o2, o3) := by unfold visit; rw [if_neg (by simp only [hg, Bool.false_and, Bool.false_eq_true, not_false_eq_true])]
      simp only [hg, Bool.false_eq_true, if_false]
      rw [e1]
      exact ih0
def bfs (b : BoardD) (v : Int) : Nat → List Int → List Int → List Int
 | 0, o2, _ => o2
 | _ + 1, o2, [] => o2
 | n + 1, o2, x :: q => bfs b v n ((nears b x).foldl (visit b v) (o2, [])).1 (q ++ ((nears b x).foldl (visit b v) (o2, [])).2)
theorem Zxd (b : BoardD) (v : Int) : ∀ (n : Nat) (o2 q : List Int), (bfs b v n o2 q).length = o2.length
 | 0, o2, _ => rfl
 | _ + 1, o2, [] => rfl
 | n + 1, o2, x :: q => by simp only [bfs]; rw [Zxd b v n, ZkV]
theorem Zgv (b : BoardD) (hb : boardOK b = true) (v : Int) (hv : 0 ≤ v) (v26 : List CellD) (v27 v28 : Int) : ∀ (n : Nat) (o2 q : List Int), (∀ m ∈ q, 0 ≤ m ∧ m < (b.2.2.length : Int)) → o2.length = b.2.2.length → unl o2 + q.length + 1 ≤ n → q.length + unl o2 ≤ 1000 →
    Ev (fun k => Z2y k b.1 b.2.1 b.2.2 o2 q v v26 v27 v28) (b.1, b.2.1, b.2.2, bfs b v n o2 q, v, v26, v27, v28)
  | 0, o2, q, hq, h2, hn, hm => by omega
  | n + 1, o2, [], hq, h2, hn, hm => by
    refine Ev.succ ?_
    simp only [Z2y, List.length_nil]
    have : ¬ ((0 : Nat) : Int) > 0 := by omega
    simp only [this, decide_false, Bool.false_eq_true, if_false]
    exact Ev.some _
  | n + 1, o2, x :: q, hq, h2, hn, hm => by
    obtain ⟨hx0, hx1⟩ := hq x (List.mem_cons_self ..)
    have hlen : (((x :: q).length : Nat) : Int) > 0 := by simp only [List.length_cons]; omega
    have hlen1 : (1 : Int) ≤ (((x :: q).length : Nat) : Int) := by omega
    have hlen0 : (0 : Int) < (((x :: q).length : Nat) : Int) := by omega
    have hin := ZFN hb hx0 hx1
    have hun := ZrW b v hv (nears b x) (o2, []) (fun m hm => by rw [h2]; exact hin m hm)
    simp only [List.length_nil, Nat.add_zero] at hun
    simp only [List.length_cons] at hn hm
    refine Ev.succ ?_
    simp only [Z2y, hlen, hlen1, hlen0, Int.le_refl, decide_true, if_true]
    refine Ev.bind (ZBf b hb x hx0 hx1) ?_
    have h6 := ZbN b hb v hv v26 v27 v28 (nears b x) [] o2 q hin (by have := ZDN b x; simp; omega) h2 (by omega)
    refine Ev.bind h6 ?_
    have happ := ZkM b v (nears b x) o2 q []
    rw [List.append_nil] at happ
    rw [happ]
    show Ev (fun k => Z2y k b.1 b.2.1 b.2.2 (List.foldl (visit b v) (o2, []) (nears b x)).1 (q ++ (List.foldl (visit b v) (o2, []) (nears b x)).2) v v26 v27 v28) _
    exact Zgv b hb v hv v26 v27 v28 n _ _ (fun m hm => by
      rcases List.mem_append.1 hm with hm | hm
      · exact hq m (List.mem_cons_of_mem _ hm)
      · exact Zsq b v (fun m => 0 ≤ m ∧ m < (b.2.2.length : Int)) (nears b x) (o2, []) hin (fun m hm => by cases hm) m hm) (by rw [ZkV]; exact h2) (by rw [List.length_append]; omega) (by rw [List.length_append]; omega)
theorem ZjP (b : BoardD) (hb : boardOK b = true) (v : Int) (hv : 0 ≤ v) (v26 : List CellD) (v27 v28 : Int) : ∀ (n : Nat) (o2 q pre : List Int), (∀ m ∈ q, 0 ≤ m ∧ m < (b.2.2.length : Int)) → o2.length = b.2.2.length → unl o2 + q.length + 1 ≤ n → (pre ++ q).length + unl o2 ≤ 1000 →
    Ev (fun k => Z4g k b.1 b.2.1 b.2.2 o2 (pre ++ q) v (pre.length : Int) v26 v27 v28) (b.1, b.2.1, b.2.2, bfs b v n o2 q, v, v26, v27, v28)
  | 0, o2, q, pre, hq, h2, hn, hm => by omega
  | n + 1, o2, [], pre, hq, h2, hn, hm => by
    refine Ev.succ ?_
    simp only [Z4g, Zj, decide_false, Bool.false_eq_true, if_false]
    exact Ev.some _
  | n + 1, o2, x :: q, pre, hq, h2, hn, hm => by
    obtain ⟨hx0, hx1⟩ := hq x (List.mem_cons_self ..)
    have hin := ZFN hb hx0 hx1
    have hun := ZrW b v hv (nears b x) (o2, []) (fun m hm => by rw [h2]; exact hin m hm)
    simp only [List.length_nil, Nat.add_zero] at hun
    have hm' := hm
    simp only [List.length_cons, List.length_append] at hn hm'
    refine Ev.succ ?_
    simp only [Z4g, Zc, Zr, decide_true, if_true, Int.toNat_natCast, Za]
    refine Ev.bind (ZEf b hb x hx0 hx1) ?_
    have h6 := ZeS b hb v hv (pre.length : Int) v26 v27 v28 (nears b x) [] o2 (pre ++ x :: q) hin (by have := ZDN b x; simp; omega) h2 hm
    refine Ev.bind h6 ?_
    have happ := ZkM b v (nears b x) o2 (pre ++ x :: q) []
    rw [List.append_nil] at happ
    rw [happ]
    show Ev (fun k => Z4g k b.1 b.2.1 b.2.2 (List.foldl (visit b v) (o2, []) (nears b x)).1 ((pre ++ x :: q) ++ (List.foldl (visit b v) (o2, []) (nears b x)).2) v (wrap64 ((pre.length : Int) + 1)) v26 v27 v28) _
    rw [Zd pre x q (by simp; omega), Z6, List.append_assoc]
    exact ZjP b hb v hv v26 v27 v28 n _ _ (pre ++ [x]) (fun m hm => by
      rcases List.mem_append.1 hm with hm | hm
      · exact hq m (List.mem_cons_of_mem _ hm)
      · exact Zsq b v (fun m => 0 ≤ m ∧ m < (b.2.2.length : Int)) (nears b x) (o2, []) hin (fun m hm => by cases hm) m hm) (by rw [ZkV]; exact h2) (by rw [List.length_append]; omega) (by simp only [List.length_append, List.length_singleton]; omega)
def groupsFrom (b : BoardD) : Int → List CellD → List Int → Int → List Int
 | _, [], o2, _ => o2
 | i, x :: r, o2, v => if geared x && decide (List.getD o2 i.toNat 0 < 0) then groupsFrom b (i + 1) r (bfs b v 200 (List.set o2 i.toNat v) [i]) (v + 1) else groupsFrom b (i + 1) r o2 v
theorem Zif (b : BoardD) : ∀ (r : List CellD) (i : Int) (o2 : List Int) (v : Int), (groupsFrom b i r o2 v).length = o2.length
 | [], _, _, _ => rfl
 | x :: r, i, o2, v => by
  simp only [groupsFrom]
  split
  ·rw [Zif b r, Zxd, List.length_set]
  ·exact Zif b r _ _ _
def groupsOf (b : BoardD) : List Int := groupsFrom b 0 b.2.2 (List.replicate b.2.2.length (-1)) 0
theorem ZvA (b : BoardD) : (groupsOf b).length = b.2.2.length := by unfold groupsOf; rw [Zif]; simp
theorem Zg4 (b : BoardD) (m : Int) : ∀ (r pre : List Int), m = ((pre ++ r).length : Int) → (pre ++ r).length ≤ 1000 → Ev (fun k => Z3z k b.1 b.2.1 b.2.2 (pre ++ r) m (pre.length : Int)) (b.1, b.2.1, b.2.2, pre ++ List.replicate r.length (-1))
 | [], pre, hm, hl => by
  refine Ev.succ ?_
  have : ¬ (pre.length : Int) < m := by rw [hm]; exact Zj pre
  simp only [Z3z, this, decide_false, Bool.false_eq_true, if_false]
  exact Ev.of (by simp)
 | x :: r, pre, hm, hl => by
  have ih := Zg4 b m r (pre ++ [-1]) (by rw [hm]; simp) (by simpa using hl)
  have hlt : (pre.length : Int) < m := by rw [hm]; exact Zc _ _ _
  have hn2 : ((pre ++ [x]).length : Int) = ((pre ++ [(-1 : Int)]).length : Int) := by simp
  refine Ev.succ ?_
  simp only [Z3z, hlt, Zc, Zr, decide_true, if_true, Int.toNat_natCast, Zr7]
  rw [Zd pre x r (by omega), hn2]
  rw [← Z6] at ih
  refine ih.congr ?_
  simp [List.replicate_succ]
theorem Zbw (b : BoardD) (hb : boardOK b = true) : ∀ (r pre : List CellD) (o2 : List Int) (v : Int), pre ++ r = b.2.2 → o2.length = b.2.2.length → 0 ≤ v → v ≤ pre.length → Ev (fun k => Z1a k b.1 b.2.1 b.2.2 o2 v (pre ++ r) ((pre ++ r).length : Int) (pre.length : Int)) (groupsFrom b pre.length r o2 v)
 | [], pre, o2, v, hpr, h2, hv, hv2 => by
  refine Ev.succ ?_
  simp only [Z1a, Zj, decide_false, Bool.false_eq_true, if_false]
  exact Ev.some _
 | x :: r, pre, o2, v, hpr, h2, hv, hv2 => by
  obtain ⟨g1, g2, g3, g4, g5, g6⟩ := Z1L hb
  have hp := Z1h g1 g2 g3 g4
  have hl90 : (pre ++ x :: r).length ≤ 90 := by rw [hpr]; omega
  have hn := Zd pre x r (by omega)
  have hc : ((pre ++ [x]).length : Int) = (pre.length : Int) + 1 := by simp
  have hlt := Zc pre x r
  have hlo : (pre.length : Int) < (o2.length : Int) := by rw [h2, ← hpr]; exact hlt
  have ih0 := Zbw b hb r (pre ++ [x]) o2 v (by rw [← hpr]; simp) h2 hv (by simp; omega)
  rw [← Z6, hc] at ih0
  refine Ev.succ ?_
  simp only [Z1a, Zc, Zr, decide_true, if_true, Int.toNat_natCast, Za, hn, hc, hlo]
  refine Ev.bind (ZnS x) ?_
  cases hg : geared x with
  | false =>
   simp only [Bool.not_false, if_true, groupsFrom, hg, Bool.false_and, Bool.false_eq_true, if_false]
   exact ih0
  | true =>
   simp only [Bool.not_true, Bool.false_eq_true, if_false]
   refine Ev.ite (fun h => ?_) (fun h => ?_)
   ·simp only [ge_iff_le, decide_eq_true_eq] at h
    have hno : ¬ List.getD o2 pre.length 0 < 0 := by omega
    simp only [groupsFrom, hg, Int.toNat_natCast, hno, decide_false, Bool.and_false, Bool.false_eq_true, if_false]
    exact ih0
   ·simp only [ge_iff_le, decide_eq_true_eq] at h
    have hno : List.getD o2 pre.length 0 < 0 := by omega
    have hul := ZHh (List.set o2 pre.length v)
    rw [List.length_set, h2, ← hpr] at hul
    have h4 := Zgv b hb v hv (pre ++ x :: r) ((pre ++ x :: r).length : Int) (pre.length : Int) 200 (List.set o2 pre.length v) [(pre.length : Int)] (fun m hm => by rw [List.mem_singleton.1 hm, ← hpr]; exact ⟨by omega, hlt⟩) (by rw [List.length_set]; exact h2) (by simp; omega) (by simp; omega)
    refine Ev.bind h4 ?_
    have ih := Zbw b hb r (pre ++ [x]) (bfs b v 200 (List.set o2 pre.length v) [(pre.length : Int)]) (v + 1) (by rw [← hpr]; simp) (by rw [Zxd, List.length_set]; exact h2) (by omega) (by simp; omega)
    rw [← Z6, hc] at ih
    show Ev (fun k => Z1a k b.1 b.2.1 b.2.2 (bfs b v 200 (List.set o2 pre.length v) [(pre.length : Int)]) (wrap64 (v + 1)) (pre ++ x :: r) ((pre ++ x :: r).length : Int) (wrap64 ((pre.length : Int) + 1))) _
    rw [w64 (n := v + 1) (by omega) (by omega), hn, hc]
    simp only [groupsFrom, hg, Int.toNat_natCast, hno, decide_true, Bool.and_self, if_true]
    exact ih
theorem ZtS (b : BoardD) (hb : boardOK b = true) : Ev (fun k => Z9W k b) (groupsOf b) := by
 obtain ⟨g1, g2, g3, g4, g5, g6⟩ := Z1L hb
 have hp := Z1h g1 g2 g3 g4
 have hm : b.2.2.length * 8 ≤ 281474976710656 := by omega
 refine Ev.succ ?_
 simp only [Z9W, Int.toNat_natCast, hm, if_true]
 refine Ev.bind (Zg4 b _ (List.replicate b.2.2.length 0) [] rfl (by simp; omega)) ?_
 have hrep : ([] : List Int) ++ List.replicate (List.replicate b.2.2.length (0 : Int)).length (-1) = List.replicate b.2.2.length (-1) := by simp
 rw [hrep]
 exact Ev.bind (Zbw b hb b.2.2 [] (List.replicate b.2.2.length (-1)) 0 rfl (by simp) (by omega) (by simp)) (Ev.some _)
theorem ZjT (b : BoardD) (m : Int) : ∀ (r pre : List Int), m = ((pre ++ r).length : Int) → (pre ++ r).length ≤ 1000 → Ev (fun k => Z66 k b.1 b.2.1 b.2.2 (pre ++ r) m (pre.length : Int)) (b.1, b.2.1, b.2.2, pre ++ List.replicate r.length (-1))
 | [], pre, hm, hl => by
  refine Ev.succ ?_
  have : ¬ (pre.length : Int) < m := by rw [hm]; exact Zj pre
  simp only [Z66, this, decide_false, Bool.false_eq_true, if_false]
  exact Ev.of (by simp)
 | x :: r, pre, hm, hl => by
  have ih := ZjT b m r (pre ++ [-1]) (by rw [hm]; simp) (by simpa using hl)
  have hlt : (pre.length : Int) < m := by rw [hm]; exact Zc _ _ _
  have hn2 : ((pre ++ [x]).length : Int) = ((pre ++ [(-1 : Int)]).length : Int) := by simp
  refine Ev.succ ?_
  simp only [Z66, hlt, Zc, Zr, decide_true, if_true, Int.toNat_natCast, Zr7]
  rw [Zd pre x r (by omega), hn2]
  rw [← Z6] at ih
  refine ih.congr ?_
  simp [List.replicate_succ]
theorem ZeP (b : BoardD) (hb : boardOK b = true) : ∀ (r pre : List CellD) (o2 : List Int) (v : Int), pre ++ r = b.2.2 → o2.length = b.2.2.length → 0 ≤ v → v ≤ pre.length → Ev (fun k => Z2h k b.1 b.2.1 b.2.2 o2 v (pre ++ r) ((pre ++ r).length : Int) (pre.length : Int)) (groupsFrom b pre.length r o2 v)
 | [], pre, o2, v, hpr, h2, hv, hv2 => by
  refine Ev.succ ?_
  simp only [Z2h, Zj, decide_false, Bool.false_eq_true, if_false]
  exact Ev.some _
 | x :: r, pre, o2, v, hpr, h2, hv, hv2 => by
  obtain ⟨g1, g2, g3, g4, g5, g6⟩ := Z1L hb
  have hp := Z1h g1 g2 g3 g4
  have hl90 : (pre ++ x :: r).length ≤ 90 := by rw [hpr]; omega
  have hn := Zd pre x r (by omega)
  have hc : ((pre ++ [x]).length : Int) = (pre.length : Int) + 1 := by simp
  have hlt := Zc pre x r
  have hlo : (pre.length : Int) < (o2.length : Int) := by rw [h2, ← hpr]; exact hlt
  have ih0 := ZeP b hb r (pre ++ [x]) o2 v (by rw [← hpr]; simp) h2 hv (by simp; omega)
  rw [← Z6, hc] at ih0
  refine Ev.succ ?_
  simp only [Z2h, Zc, Zr, decide_true, if_true, Int.toNat_natCast, Za, hn, hc, hlo]
  refine Ev.bind (Ztf x) ?_
  cases hg : geared x with
  | false =>
   simp only [Bool.not_false, if_true, groupsFrom, hg, Bool.false_and, Bool.false_eq_true, if_false]
   exact ih0
  | true =>
   simp only [Bool.not_true, Bool.false_eq_true, if_false]
   refine Ev.ite (fun h => ?_) (fun h => ?_)
   ·simp only [ge_iff_le, decide_eq_true_eq] at h
    have hno : ¬ List.getD o2 pre.length 0 < 0 := by omega
    simp only [groupsFrom, hg, Int.toNat_natCast, hno, decide_false, Bool.and_false, Bool.false_eq_true, if_false]
    exact ih0
   ·simp only [ge_iff_le, decide_eq_true_eq] at h
    have hno : List.getD o2 pre.length 0 < 0 := by omega
    have hul := ZHh (List.set o2 pre.length v)
    rw [List.length_set, h2, ← hpr] at hul
    have h4 := ZjP b hb v hv (pre ++ x :: r) ((pre ++ x :: r).length : Int) (pre.length : Int) 200 (List.set o2 pre.length v) [(pre.length : Int)] [] (fun m hm => by rw [List.mem_singleton.1 hm, ← hpr]; exact ⟨by omega, hlt⟩) (by rw [List.length_set]; exact h2) (by simp; omega) (by simp; omega)
    refine Ev.bind h4 ?_
    have ih := ZeP b hb r (pre ++ [x]) (bfs b v 200 (List.set o2 pre.length v) [(pre.length : Int)]) (v + 1) (by rw [← hpr]; simp) (by rw [Zxd, List.length_set]; exact h2) (by omega) (by simp; omega)
    rw [← Z6, hc] at ih
    show Ev (fun k => Z2h k b.1 b.2.1 b.2.2 (bfs b v 200 (List.set o2 pre.length v) [(pre.length : Int)]) (wrap64 (v + 1)) (pre ++ x :: r) ((pre ++ x :: r).length : Int) (wrap64 ((pre.length : Int) + 1))) _
    rw [w64 (n := v + 1) (by omega) (by omega), hn, hc]
    simp only [groupsFrom, hg, Int.toNat_natCast, hno, decide_true, Bool.and_self, if_true]
    exact ih
theorem ZBj (b : BoardD) (hb : boardOK b = true) : Ev (fun k => Z5Q k b) (groupsOf b) := by
 obtain ⟨g1, g2, g3, g4, g5, g6⟩ := Z1L hb
 have hp := Z1h g1 g2 g3 g4
 have hm : b.2.2.length * 8 ≤ 281474976710656 := by omega
 refine Ev.succ ?_
 simp only [Z5Q, Int.toNat_natCast, hm, if_true]
 refine Ev.bind (ZjT b _ (List.replicate b.2.2.length 0) [] rfl (by simp; omega)) ?_
 have hrep : ([] : List Int) ++ List.replicate (List.replicate b.2.2.length (0 : Int)).length (-1) = List.replicate b.2.2.length (-1) := by simp
 rw [hrep]
 exact Ev.bind (ZeP b hb b.2.2 [] (List.replicate b.2.2.length (-1)) 0 rfl (by simp) (by omega) (by simp)) (Ev.some _)
end
section
def fits (x : CellD) (kd : Int) : Bool := decide (kd = 2) || (decide (kd = 1) && turning x) || (decide (kd = 3) && (turning x || decide (x.1 = 1 ∨ x.1 = 2)))
theorem ZE0 (x : CellD) (kd : Int) : Ev (fun k => ZfI k x kd) (fits x kd) := by
 refine Ev.succ ?_
 simp only [ZfI]
 refine Ev.ite (fun h => ?_) (fun h => ?_)
 ·simp only [decide_eq_true_eq] at h
  refine Ev.bind (Z9k x) (Ev.of ?_)
  simp [fits, h]
 ·simp only [decide_eq_true_eq] at h
  refine Ev.ite (fun h2 => ?_) (fun h2 => ?_)
  ·simp only [decide_eq_true_eq] at h2
   exact Ev.of (by simp [fits, h2])
  ·simp only [decide_eq_true_eq] at h2
   refine Ev.ite (fun h3 => ?_) (fun h3 => ?_)
   ·simp only [decide_eq_true_eq] at h3
    refine Ev.bind (Z9k x) (Ev.ite (fun h4 => ?_) (fun h4 => ?_))
    ·exact Ev.of (by simp [fits, h3, h4])
    ·refine Ev.of ?_
     simp only [Bool.not_eq_true] at h4
     by_cases h5 : x.1 = 1 <;> simp [fits, h3, h4, h5]
   ·simp only [decide_eq_true_eq] at h3
    exact Ev.of (by simp [fits, h, h2, h3])
theorem ZDg (x : CellD) (kd : Int) (hx : cellOK x = true) : Ev (fun k => Zeq k x kd) (fits x kd) := by
 have ht : Ev (fun k => Z2Q k x) (turning x) := by simpa [hx] using ZlW x
 refine Ev.succ ?_
 simp only [Zeq]
 refine Ev.ite (fun h => ?_) (fun h => ?_)
 ·simp only [decide_eq_true_eq] at h
  refine Ev.bind ht (Ev.of ?_)
  simp [fits, h]
 ·simp only [decide_eq_true_eq] at h
  refine Ev.ite (fun h2 => ?_) (fun h2 => ?_)
  ·simp only [decide_eq_true_eq] at h2
   exact Ev.of (by simp [fits, h2])
  ·simp only [decide_eq_true_eq] at h2
   refine Ev.ite (fun h3 => ?_) (fun h3 => ?_)
   ·simp only [decide_eq_true_eq] at h3
    refine Ev.bind ht (Ev.ite (fun h4 => ?_) (fun h4 => ?_))
    ·exact Ev.of (by simp [fits, h3, h4])
    ·refine Ev.of ?_
     simp only [Bool.not_eq_true] at h4
     by_cases h5 : x.1 = 1 <;> simp [fits, h3, h4, h5]
   ·simp only [decide_eq_true_eq] at h3
    exact Ev.of (by simp [fits, h, h2, h3])
def faultsOK (b : BoardD) : Int → List FaultD → Bool
 | _, [] => true
 | last, x :: r => decide (0 ≤ x.2.1 ∧ x.2.1 < b.1 ∧ 0 ≤ x.2.2 ∧ x.2.2 < b.2.1 ∧ last < x.2.1 * b.2.1 + x.2.2) && fits (List.getD b.2.2 (x.2.1 * b.2.1 + x.2.2).toNat (0, 0)) x.1 && faultsOK b (x.2.1 * b.2.1 + x.2.2) r
end
section
def placeOf (b : BoardD) (f : FaultD) : Int := f.2.1 * b.2.1 + f.2.2
def kindsOf (b : BoardD) (l : List FaultD) (K : List Int) : List Int := l.foldl (fun K f => List.set K (placeOf b f).toNat f.1) K
def faAtD (r c d : Int) : List FaultD → Int
 | [] => d
 | f :: l => if f.2.1 = r ∧ f.2.2 = c then f.1 else faAtD r c d l
theorem Zf2 {b : BoardD} {last : Int} {f : FaultD} {l : List FaultD} (h : faultsOK b last (f :: l) = true) : (0 ≤ f.2.1 ∧ f.2.1 < b.1 ∧ 0 ≤ f.2.2 ∧ f.2.2 < b.2.1 ∧ last < placeOf b f) ∧ faultsOK b (placeOf b f) l = true := by
 simp only [faultsOK, Bool.and_eq_true, decide_eq_true_eq] at h
 exact ⟨h.1.1, h.2⟩
theorem ZnZ {b : BoardD} : ∀ {l : List FaultD} {last : Int}, faultsOK b last l = true → ∀ f ∈ l, 0 ≤ f.2.1 ∧ f.2.1 < b.1 ∧ 0 ≤ f.2.2 ∧ f.2.2 < b.2.1
 | [], _, _, f, hf => by cases hf
 | g :: l, last, h, f, hf => by
  obtain ⟨h1, h2⟩ := Zf2 h
  rcases List.mem_cons.1 hf with rfl | hf
  ·exact ⟨h1.1, h1.2.1, h1.2.2.1, h1.2.2.2.1⟩
  ·exact ZnZ h2 f hf
theorem ZDC {C r c r' c' : Int} (h1 : 0 ≤ c) (h2 : c < C) (h3 : 0 ≤ c') (h4 : c' < C) (h : r * C + c = r' * C + c') : r = r' ∧ c = c' := by
 have key : ∀ {x y : Int}, x < y → x * C + C ≤ y * C := by
  intro x y hxy
  have := Int.mul_le_mul_of_nonneg_right (show x + 1 ≤ y by omega) (show 0 ≤ C by omega)
  rw [Int.add_mul, Int.one_mul] at this
  exact this
 rcases Int.lt_trichotomy r r' with hr | hr | hr
 ·have := key hr; omega
 ·subst hr; omega
 ·have := key hr; omega
theorem Zz4 {b : BoardD} {r c : Int} (d : Int) : ∀ {l : List FaultD} {last : Int}, faultsOK b last l = true → r * b.2.1 + c ≤ last → faAtD r c d l = d
 | [], _, _, _ => rfl
 | f :: l, last, h, hp => by
  obtain ⟨h1, h2⟩ := Zf2 h
  unfold placeOf at h1 h2
  simp only [faAtD]
  rw [if_neg (by rintro ⟨rfl, rfl⟩; omega)]
  exact Zz4 d h2 (by omega)
theorem Zze (b : BoardD) : ∀ (l : List FaultD) (K : List Int), (kindsOf b l K).length = K.length
 | [], _ => rfl
 | f :: l, K => by
  show (kindsOf b l (List.set K (placeOf b f).toNat f.1)).length = _
  rw [Zze b l, List.length_set]
theorem ZH6 {α : Type} (l : List α) (i j : Nat) (x d : α) (hi : i < l.length) : List.getD (List.set l i x) j d = if i = j then x else List.getD l j d := by
 simp only [List.getD, List.getElem?_set]
 by_cases h : i = j
 ·subst h; simp [hi]
 ·simp [h]
theorem Zs0 {b : BoardD} (hb : boardOK b = true) {r c : Int} (h1 : 0 ≤ r) (h2 : r < b.1) (h3 : 0 ≤ c) (h4 : c < b.2.1) : ∀ {l : List FaultD} {last : Int} {K : List Int}, faultsOK b last l = true → K.length = b.2.2.length → List.getD (kindsOf b l K) (r * b.2.1 + c).toNat 0 = faAtD r c (List.getD K (r * b.2.1 + c).toNat 0) l
 | [], _, _, _, _ => rfl
 | f :: l, last, K, h, hK => by
  obtain ⟨g1, g2⟩ := Zf2 h
  have hp := Zcm hb h1 h2 h3 h4
  have hf := Zcm hb g1.1 g1.2.1 g1.2.2.1 g1.2.2.2.1
  show List.getD (kindsOf b l (List.set K (placeOf b f).toNat f.1)) _ 0 = _
  rw [Zs0 hb h1 h2 h3 h4 g2 (by rw [List.length_set]; exact hK)]
  rw [ZH6 _ _ _ _ _ (by unfold placeOf; omega)]
  simp only [faAtD]
  by_cases hm : f.2.1 = r ∧ f.2.2 = c
  ·rw [if_pos hm, if_pos (by unfold placeOf; rw [hm.1, hm.2])]
   exact Zz4 _ g2 (by unfold placeOf; rw [hm.1, hm.2]; omega)
  ·rw [if_neg hm, if_neg (fun he => hm (ZDC g1.2.2.1 g1.2.2.2.1 h3 h4 (by unfold placeOf at he; omega)))]
theorem Zgd (b : BoardD) (hb : boardOK b = true) : ∀ (r pre : List FaultD) (K : List Int), (∀ f ∈ r, 0 ≤ f.2.1 ∧ f.2.1 < b.1 ∧ 0 ≤ f.2.2 ∧ f.2.2 < b.2.1) → (pre ++ r).length ≤ 9223372036854775806 → K.length = b.2.2.length → Ev (fun k => Z3D k b.1 b.2.1 b.2.2 K (pre ++ r) ((pre ++ r).length : Int) (pre.length : Int)) (kindsOf b r K)
 | [], pre, K, hr, hl, hK => by
  refine Ev.succ ?_
  simp only [Z3D, Zj, decide_false, Bool.false_eq_true, if_false]
  exact Ev.some _
 | f :: r, pre, K, hr, hl, hK => by
  obtain ⟨k1, k2, k3, k4⟩ := hr f (List.mem_cons_self ..)
  have hp := Zcm hb k1 k2 k3 k4
  have hpK : f.2.1 * b.2.1 + f.2.2 < (K.length : Int) := by omega
  have ih := Zgd b hb r (pre ++ [f]) (List.set K (placeOf b f).toNat f.1) (fun g hg => hr g (List.mem_cons_of_mem _ hg)) (by simpa using hl) (by rw [List.length_set]; exact hK)
  refine Ev.succ ?_
  simp only [Z3D, Zc, Zr, decide_true, if_true, Int.toNat_natCast, Za]
  rw [Zd pre f r (by omega), w64 (n := f.2.1 * b.2.1) (by omega) (by omega), w64 (n := f.2.1 * b.2.1 + f.2.2) (by omega) (by omega)]
  simp only [hp.1, hpK, if_true]
  rw [← Z6] at ih
  exact ih
def kindsB (b : BoardD) (l : List FaultD) : List Int := kindsOf b l (List.replicate b.2.2.length 0)
theorem ZHU (b : BoardD) (l : List FaultD) : (kindsB b l).length = b.2.2.length := by unfold kindsB; rw [Zze]; simp
theorem Zv2 (b : BoardD) (hb : boardOK b = true) (l : List FaultD) (hl : faultsOK b (-1) l = true) (hlen : l.length ≤ 9223372036854775806) : Ev (fun k => Z9V k b l) (kindsB b l) := by
 obtain ⟨g1, g2, g3, g4, g5, g6⟩ := Z1L hb
 have hp := Z1h g1 g2 g3 g4
 have hm : b.2.2.length * 8 ≤ 281474976710656 := by omega
 refine Ev.succ ?_
 simp only [Z9V, Int.toNat_natCast, hm, if_true]
 exact Ev.bind (Zgd b hb l [] _ (ZnZ hl) (by simpa using hlen) (by simp)) (Ev.some _)
theorem Zjf (r c : Int) : ∀ (l pre : List FaultD), (pre ++ l).length ≤ 9223372036854775806 → ∀ {z : LR Unit Int}, (z = LR.go () ∧ faAtD r c 0 l = 0 ∨ z = LR.ret (faAtD r c 0 l)) → (∀ f ∈ l, ¬ (f.2.1 = r ∧ f.2.2 = c)) ∧ z = LR.go () ∨ (∃ f ∈ l, f.2.1 = r ∧ f.2.2 = c) ∧ z = LR.ret (faAtD r c 0 l) → Ev (fun k => Z6w k r c (pre ++ l) ((pre ++ l).length : Int) (pre.length : Int)) z
 | [], pre, hl, z, _, hz => by
  refine Ev.succ ?_
  simp only [Z6w, Zj, decide_false, Bool.false_eq_true, if_false]
  rcases hz with ⟨_, rfl⟩ | ⟨⟨f, hf, _⟩, _⟩
  ·exact Ev.some _
  ·cases hf
 | f :: l, pre, hl, z, hz0, hz => by
  have hn := Zd pre f l (by omega)
  have hl' : ((pre ++ [f]) ++ l).length ≤ 9223372036854775806 := by simpa using hl
  refine Ev.succ ?_
  simp only [Z6w, Zc, Zr, decide_true, if_true, Int.toNat_natCast, Za, hn]
  by_cases hm : f.2.1 = r ∧ f.2.2 = c
  ·simp only [hm.1, hm.2, decide_true, if_true]
   rcases hz with ⟨h, _⟩ | ⟨_, rfl⟩
   ·exact absurd hm (h f (List.mem_cons_self ..))
   ·simp only [faAtD, hm, and_self, if_true]; exact Ev.some _
  ·have hfa : faAtD r c 0 (f :: l) = faAtD r c 0 l := by simp only [faAtD]; rw [if_neg hm]
   have ih : Ev (fun k => Z6w k r c (pre ++ f :: l) ((pre ++ f :: l).length : Int) ((pre ++ [f]).length : Int)) z := by
    rw [Z6]
    refine Zjf r c l (pre ++ [f]) hl' (by rw [← hfa]; exact hz0) ?_
    rcases hz with ⟨h, h2⟩ | ⟨⟨g, hg, hgm⟩, h2⟩
    ·exact .inl ⟨fun g hg => h g (List.mem_cons_of_mem _ hg), h2⟩
    ·rcases List.mem_cons.1 hg with rfl | hg
     ·exact absurd hgm hm
     ·exact .inr ⟨⟨g, hg, hgm⟩, by rw [← hfa]; exact h2⟩
   refine Ev.ite (fun g1 => Ev.ite (fun g2 => ?_) (fun _ => ih)) (fun _ => ih)
   simp only [decide_eq_true_eq] at g1 g2
   exact absurd ⟨g1, g2⟩ hm
theorem ZCe {r c d : Int} : ∀ {l : List FaultD}, (∀ f ∈ l, ¬ (f.2.1 = r ∧ f.2.2 = c)) → faAtD r c d l = d
 | [], _ => rfl
 | f :: l, h => by
  simp only [faAtD]
  rw [if_neg (h f (List.mem_cons_self ..))]
  exact ZCe (fun g hg => h g (List.mem_cons_of_mem _ hg))
theorem ZH0 (l : List FaultD) (r c : Int) (hl : l.length ≤ 9223372036854775806) : Ev (fun k => Ziu k l r c) (faAtD r c 0 l) := by
 refine Ev.succ ?_
 simp only [Ziu]
 by_cases h : ∃ f ∈ l, f.2.1 = r ∧ f.2.2 = c
 ·exact Ev.bind (Zjf r c l [] (by simpa using hl) (z := LR.ret (faAtD r c 0 l)) (.inr rfl) (.inr ⟨h, rfl⟩)) (Ev.ret (Ev.some _))
 ·have h' : ∀ f ∈ l, ¬ (f.2.1 = r ∧ f.2.2 = c) := fun f hf hm => h ⟨f, hf, hm⟩
  have h0 := ZCe (d := 0) h'
  refine Ev.bind (Zjf r c l [] (by simpa using hl) (z := LR.go ()) (.inl ⟨rfl, h0⟩) (.inl ⟨h', rfl⟩)) ?_
  rw [h0]
  exact Ev.go (Ev.some _)
def flip1 (x : CellD) : CellD := (x.1, 1 - x.2)
def turnGo (G K : List Int) (at' : Nat) (ka : Int) : Nat → List CellD → List CellD
 | _, [] => []
 | i, x :: r => (if (i = at' ∨ (ka = 6 ∧ x.1 = 6 ∧ List.getD G i 0 = List.getD G at' 0)) ∧ List.getD K i 0 ≠ 1 then flip1 x else x) :: turnGo G K at' ka (i + 1) r
def passGo (G : List Int) (ga : Int) : Nat → List CellD → List CellD
 | _, [] => []
 | i, x :: r => (if x.1 = 6 ∧ List.getD G i 0 = ga then flip1 x else x) :: passGo G ga (i + 1) r
theorem Zij {x : CellD} (h : cellOK x = true) : 0 ≤ x.1 ∧ x.1 ≤ 7 ∧ (x.2 = 0 ∨ x.2 = 1) := by
 unfold cellOK at h
 simp only [decide_eq_true_eq] at h
 omega
theorem ZIA {p r : List CellD} {x y d : CellD} (h : y.1 = x.1) (n : Nat) : (List.getD (p ++ y :: r) n d).1 = (List.getD (p ++ x :: r) n d).1 := by
 simp only [List.getD]
 rcases Nat.lt_trichotomy n p.length with hn | hn | hn
 ·rw [List.getElem?_append_left hn, List.getElem?_append_left hn]
 ·subst hn; simp [h]
 ·rw [List.getElem?_append_right (by omega), List.getElem?_append_right (by omega)]
  have : ∃ m, n - p.length = m + 1 := ⟨n - p.length - 1, by omega⟩
  obtain ⟨m, hm⟩ := this
  rw [hm]
  rfl
theorem ZhR (R C : Int) (G K : List Int) (at' : Nat) (ka : Int) : ∀ (r pre : List CellD), (pre ++ r).length ≤ 1000 → at' < (pre ++ r).length → G.length = (pre ++ r).length → K.length = (pre ++ r).length → (List.getD (pre ++ r) at' (0, 0)).1 = ka → (∀ x ∈ r, cellOK x = true) →
    Ev (fun k => Zq k (pre ++ r) R C G K (at' : Int) ((pre ++ r).length : Int) (pre.length : Int)) (pre ++ turnGo G K at' ka pre.length r)
  | [], pre, hl, ha, hG, hK, hka, hx => by
    refine Ev.succ ?_
    simp only [Zq, Zj, decide_false, Bool.false_eq_true, if_false, turnGo]
    exact Ev.some _
  | x :: r, pre, hl, ha, hG, hK, hka, hx => by
    have hn := Zd pre x r (by omega)
    have hlt := Zc pre x r
    have hGl : (pre.length : Int) < (G.length : Int) := by rw [hG]; exact hlt
    have hKl : (pre.length : Int) < (K.length : Int) := by rw [hK]; exact hlt
    have ha0 : (0 : Int) ≤ (at' : Int) := Int.natCast_nonneg _
    have ha1 : (at' : Int) < ((pre ++ x :: r).length : Int) := by omega
    have haG : (at' : Int) < (G.length : Int) := by rw [hG]; exact ha1
    obtain ⟨c1, c2, c3⟩ := Zij (hx x (List.mem_cons_self ..))
    have hr' : ∀ y ∈ r, cellOK y = true := fun y hy => hx y (List.mem_cons_of_mem _ hy)
    have next : ∀ y : CellD, y.1 = x.1 → Ev (fun k => Zq k (pre ++ y :: r) R C G K (at' : Int) ((pre ++ x :: r).length : Int) ((pre ++ [x]).length : Int)) (pre ++ y :: turnGo G K at' ka (pre.length + 1) r) := by
      intro y hy
      have ih := ZhR R C G K at' ka r (pre ++ [y]) (by simpa using hl) (by simpa using ha) (by simpa using hG) (by simpa using hK) (by rw [← Z6, ZIA hy]; exact hka) hr'
      have e1 : ((pre ++ [y] ++ r).length : Int) = ((pre ++ x :: r).length : Int) := by simp
      have e2 : ((pre ++ [y]).length : Int) = ((pre ++ [x]).length : Int) := by simp
      have e3 : (pre ++ [y]).length = pre.length + 1 := by simp
      rw [e1, e2, e3, ← Z6, ← Z6] at ih
      exact ih
    refine Ev.succ ?_
    simp only [Zq, Zc, Zr, decide_true, if_true, Int.toNat_natCast, Za, Zr7, hn, hGl, hKl, ha0, ha1, haG, hka]
    rw [w64 (n := 1 - x.2) (by omega) (by omega)]
    simp only [turnGo]
    by_cases hia : pre.length = at'
    · have hia' : (pre.length : Int) = (at' : Int) := by omega
      simp only [hia', decide_true, if_true]
      rw [← hia]
      refine Ev.ite (fun h => ?_) (fun h => ?_)
      · simp only [ne_eq, decide_eq_true_eq] at h
        rw [if_pos ⟨.inl rfl, h⟩]
        have := next (flip1 x) rfl
        rw [← hia] at this
        exact this
      · simp only [ne_eq, decide_eq_true_eq, Decidable.not_not] at h
        rw [if_neg (fun hc => hc.2 h)]
        have := next x rfl
        rw [← hia] at this
        exact this
    · have hia' : ¬ (pre.length : Int) = (at' : Int) := by omega
      simp only [hia', decide_false, Bool.false_eq_true, if_false]
      have no : ¬ (ka = 6 ∧ x.1 = 6 ∧ List.getD G pre.length 0 = List.getD G at' 0) → Ev (fun k => Zq k (pre ++ x :: r) R C G K (at' : Int) ((pre ++ x :: r).length : Int) ((pre ++ [x]).length : Int)) (pre ++ (if (pre.length = at' ∨ (ka = 6 ∧ x.1 = 6 ∧ List.getD G pre.length 0 = List.getD G at' 0)) ∧ List.getD K pre.length 0 ≠ 1 then flip1 x else x) :: turnGo G K at' ka (pre.length + 1) r) := by
        intro hno
        rw [if_neg (fun hc => hc.1.elim hia hno)]
        exact next x rfl
      refine Ev.ite (fun h1 => ?_) (fun h1 => no (fun hc => h1 (decide_eq_true hc.1)))
      refine Ev.ite (fun h2 => ?_) (fun h2 => no (fun hc => h2 (decide_eq_true hc.2.1)))
      refine Ev.ite (fun h3 => ?_) (fun h3 => no (fun hc => h3 (decide_eq_true hc.2.2)))
      simp only [decide_eq_true_eq] at h1 h2 h3
      refine Ev.ite (fun h => ?_) (fun h => ?_)
      · simp only [ne_eq, decide_eq_true_eq] at h
        rw [if_pos ⟨.inr ⟨h1, h2, h3⟩, h⟩]
        exact next (flip1 x) rfl
      · simp only [ne_eq, decide_eq_true_eq, Decidable.not_not] at h
        rw [if_neg (fun hc => hc.2 h)]
        exact next x rfl
def turnAt (G K : List Int) (at' : Nat) (o : List CellD) : List CellD := turnGo G K at' (List.getD o at' (0, 0)).1 0 o
theorem ZxV (R C : Int) (o : List CellD) (G K : List Int) (at' : Nat) (hl : o.length ≤ 1000) (ha : at' < o.length) (hG : G.length = o.length) (hK : K.length = o.length) (hx : ∀ x ∈ o, cellOK x = true) : Ev (fun k => Z65 k (R, C, o) G K (at' : Int)) (turnAt G K at' o) := by
 refine Ev.succ ?_
 simp only [Z65]
 exact Ev.bind (ZhR R C G K at' _ o [] hl ha hG hK rfl hx) (Ev.some _)
theorem Zt3 (x : CellD) (h : cellOK x = true) : Ev (fun k => ZcY k x) (flip1 x) := by
 obtain ⟨c1, c2, c3⟩ := Zij h
 refine Ev.succ ?_
 simp only [ZcY]
 rw [w64 (n := 1 - x.2) (by omega) (by omega)]
 exact Ev.some _
theorem ZnJ (R C : Int) (G : List Int) (at' : Nat) : ∀ (r pre : List CellD), (pre ++ r).length ≤ 1000 → at' < (pre ++ r).length → G.length = (pre ++ r).length → (∀ x ∈ r, cellOK x = true) →
    Ev (fun k => Z3p k (pre ++ r) R C G (at' : Int) ((pre ++ r).length : Int) (pre.length : Int)) (pre ++ passGo G (List.getD G at' 0) pre.length r)
  | [], pre, hl, ha, hG, hx => by
    refine Ev.succ ?_
    simp only [Z3p, Zj, decide_false, Bool.false_eq_true, if_false, passGo]
    exact Ev.some _
  | x :: r, pre, hl, ha, hG, hx => by
    have hn := Zd pre x r (by omega)
    have hlt := Zc pre x r
    have hGl : (pre.length : Int) < (G.length : Int) := by rw [hG]; exact hlt
    have ha0 : (0 : Int) ≤ (at' : Int) := Int.natCast_nonneg _
    have ha1 : (at' : Int) < ((pre ++ x :: r).length : Int) := by omega
    have haG : (at' : Int) < (G.length : Int) := by rw [hG]; exact ha1
    have hr' : ∀ y ∈ r, cellOK y = true := fun y hy => hx y (List.mem_cons_of_mem _ hy)
    have next : ∀ y : CellD, Ev (fun k => Z3p k (pre ++ y :: r) R C G (at' : Int) ((pre ++ x :: r).length : Int) ((pre ++ [x]).length : Int)) (pre ++ y :: passGo G (List.getD G at' 0) (pre.length + 1) r) := by
      intro y
      have ih := ZnJ R C G at' r (pre ++ [y]) (by simpa using hl) (by simpa using ha) (by simpa using hG) hr'
      have e1 : ((pre ++ [y] ++ r).length : Int) = ((pre ++ x :: r).length : Int) := by simp
      have e2 : ((pre ++ [y]).length : Int) = ((pre ++ [x]).length : Int) := by simp
      have e3 : (pre ++ [y]).length = pre.length + 1 := by simp
      rw [e1, e2, e3, ← Z6, ← Z6] at ih
      exact ih
    refine Ev.succ ?_
    simp only [Z3p, Zc, Zr, decide_true, if_true, Int.toNat_natCast, Za, Zr7, hn, hGl, ha0, haG]
    simp only [passGo]
    refine Ev.ite (fun h1 => Ev.ite (fun h2 => ?_) (fun h2 => ?_)) (fun h1 => ?_)
    · simp only [decide_eq_true_eq] at h1 h2
      rw [if_pos ⟨h1, h2⟩]
      exact Ev.bind (Zt3 x (hx x (List.mem_cons_self ..))) (next (flip1 x))
    · simp only [decide_eq_true_eq] at h2
      rw [if_neg (fun hc => h2 hc.2)]
      exact next x
    · simp only [decide_eq_true_eq] at h1
      rw [if_neg (fun hc => h1 hc.1)]
      exact next x
def passAt (G : List Int) (at' : Nat) (o : List CellD) : List CellD := if (List.getD o at' (0, 0)).1 = 3 then List.set o at' (flip1 (List.getD o at' (0, 0))) else if (List.getD o at' (0, 0)).1 = 6 then passGo G (List.getD G at' 0) 0 o else o
theorem ZFc (R C : Int) (o : List CellD) (G : List Int) (at' : Nat) (hl : o.length ≤ 1000) (ha : at' < o.length) (hG : G.length = o.length) (hx : ∀ x ∈ o, cellOK x = true) : Ev (fun k => Zft k (R, C, o) G (at' : Int)) (passAt G at' o) := by
 have ha0 : (0 : Int) ≤ (at' : Int) := Int.natCast_nonneg _
 have ha1 : (at' : Int) < (o.length : Int) := by omega
 refine Ev.succ ?_
 simp only [Zft, ha0, ha1, if_true, Int.toNat_natCast]
 unfold passAt
 refine Ev.ite (fun h1 => ?_) (fun h1 => Ev.ite (fun h2 => ?_) (fun h2 => ?_))
 ·simp only [decide_eq_true_eq] at h1
  rw [if_pos h1]
  exact Ev.bind (Zt3 _ (hx _ (ZDe ha0 ha1 _))) (Ev.some _)
 ·simp only [decide_eq_true_eq] at h1 h2
  rw [if_neg h1, if_pos h2]
  exact Ev.bind (ZnJ R C G at' o [] hl ha hG hx) (Ev.some _)
 ·simp only [decide_eq_true_eq] at h1 h2
  rw [if_neg h1, if_neg h2]
  exact Ev.some _
theorem ZrA (G K : List Int) (at' : Nat) (ka : Int) : ∀ (l : List CellD) (i : Nat), (turnGo G K at' ka i l).length = l.length
 | [], _ => rfl
 | x :: r, i => by simp [turnGo, ZrA G K at' ka r]
theorem ZBG (G : List Int) (ga : Int) : ∀ (l : List CellD) (i : Nat), (passGo G ga i l).length = l.length
 | [], _ => rfl
 | x :: r, i => by simp [passGo, ZBG G ga r]
theorem ZdF (G K : List Int) (at' : Nat) (ka : Int) : ∀ (l : List CellD) (j i : Nat), (turnGo G K at' ka j l)[i]? = l[i]?.map fun x => if (j + i = at' ∨ (ka = 6 ∧ x.1 = 6 ∧ List.getD G (j + i) 0 = List.getD G at' 0)) ∧ List.getD K (j + i) 0 ≠ 1 then flip1 x else x
 | [], _, i => by simp [turnGo]
 | x :: r, j, 0 => by simp [turnGo]
 | x :: r, j, i + 1 => by
  simp only [turnGo, List.getElem?_cons_succ]
  rw [ZdF G K at' ka r (j + 1) i, show j + 1 + i = j + (i + 1) by omega]
theorem ZDO (G : List Int) (ga : Int) : ∀ (l : List CellD) (j i : Nat), (passGo G ga j l)[i]? = l[i]?.map fun x => if x.1 = 6 ∧ List.getD G (j + i) 0 = ga then flip1 x else x
 | [], _, i => by simp [passGo]
 | x :: r, j, 0 => by simp [passGo]
 | x :: r, j, i + 1 => by
  simp only [passGo, List.getElem?_cons_succ]
  rw [ZDO G ga r (j + 1) i, show j + 1 + i = j + (i + 1) by omega]
def restore (b : BoardD) (l : List FaultD) (o : List CellD) : List CellD := l.foldl (fun o f => if f.1 = 1 then List.set o (placeOf b f).toNat (List.getD b.2.2 (placeOf b f).toNat (0, 0)) else o) o
theorem Zop (b : BoardD) : ∀ (l : List FaultD) (o : List CellD), (restore b l o).length = o.length
 | [], _ => rfl
 | f :: l, o => by
  show (restore b l (if f.1 = 1 then _ else _)).length = _
  rw [Zop b l]
  split <;> simp
theorem ZrG (b : BoardD) : ∀ (l : List FaultD) (o : List CellD) (i : Nat), i < o.length → (restore b l o)[i]? = if ∃ f ∈ l, f.1 = 1 ∧ (placeOf b f).toNat = i then some (List.getD b.2.2 i (0, 0)) else o[i]?
  | [], o, i, hi => by rw [if_neg (by rintro ⟨f, hf, _⟩; cases hf)]; rfl
  | f :: l, o, i, hi => by
    show (restore b l (if f.1 = 1 then _ else _))[i]? = _
    by_cases hf : f.1 = 1
    · rw [if_pos hf, ZrG b l _ i (by rw [List.length_set]; exact hi)]
      by_cases h : ∃ g ∈ l, g.1 = 1 ∧ (placeOf b g).toNat = i
      · rw [if_pos h]
        obtain ⟨g, hg, h2⟩ := h
        rw [if_pos ⟨g, List.mem_cons_of_mem _ hg, h2⟩]
      · rw [if_neg h]
        by_cases hp : (placeOf b f).toNat = i
        · rw [if_pos ⟨f, List.mem_cons_self .., hf, hp⟩, hp, List.getElem?_set_self hi]
        · rw [List.getElem?_set_ne hp, if_neg (by
            rintro ⟨g, hg, h2, h3⟩
            rcases List.mem_cons.1 hg with rfl | hg
            · exact hp h3
            · exact h ⟨g, hg, h2, h3⟩)]
    · rw [if_neg hf, ZrG b l o i hi]
      by_cases h : ∃ g ∈ l, g.1 = 1 ∧ (placeOf b g).toNat = i
      · rw [if_pos h]
        obtain ⟨g, hg, h2⟩ := h
        rw [if_pos ⟨g, List.mem_cons_of_mem _ hg, h2⟩]
      · rw [if_neg h, if_neg (by
            rintro ⟨g, hg, h2, h3⟩
            rcases List.mem_cons.1 hg with rfl | hg
            · exact hf h2
            · exact h ⟨g, hg, h2, h3⟩)]
theorem ZDG {r c : Int} : ∀ {l : List FaultD} {f : FaultD}, f ∈ l → f.2.1 = r → f.2.2 = c → ∀ {b : BoardD} {last : Int}, faultsOK b last l = true → faAtD r c 0 l = f.1
 | g :: l, f, hf, h1, h2, b, last, hok => by
  obtain ⟨k1, k2⟩ := Zf2 hok
  simp only [faAtD]
  rcases List.mem_cons.1 hf with rfl | hf
  ·rw [if_pos ⟨h1, h2⟩]
  ·have hno : ¬ (g.2.1 = r ∧ g.2.2 = c) := by
    rintro ⟨e1, e2⟩
    have key : ∀ {l : List FaultD} {last : Int}, faultsOK b last l = true → ∀ f ∈ l, last < placeOf b f := by
     intro l
     induction l with
     | nil => intro last _ f hf; cases hf
     | cons g l ih =>
      intro last h f hf
      obtain ⟨a1, a2⟩ := Zf2 h
      rcases List.mem_cons.1 hf with rfl | hf
      ·exact a1.2.2.2.2
      ·have := ih a2 f hf; omega
    have := key k2 f hf
    unfold placeOf at this
    rw [h1, h2, e1, e2] at this
    omega
   rw [if_neg hno]
   exact ZDG hf h1 h2 k2
theorem ZDz {r c : Int} : ∀ {l : List FaultD}, faAtD r c 0 l = 1 → ∃ f ∈ l, f.1 = 1 ∧ f.2.1 = r ∧ f.2.2 = c
 | [], h => by simp [faAtD] at h
 | f :: l, h => by
  simp only [faAtD] at h
  split at h
  ·rename_i hm
   exact ⟨f, List.mem_cons_self .., h, hm.1, hm.2⟩
  ·obtain ⟨g, hg, h2⟩ := ZDz h
   exact ⟨g, List.mem_cons_of_mem _ hg, h2⟩
theorem ZIq {b : BoardD} (hb : boardOK b = true) {l : List FaultD} (hl : faultsOK b (-1) l = true) {i : Nat} (hi : i < b.2.2.length) : List.getD (kindsB b l) i 0 = 1 ↔ ∃ f ∈ l, f.1 = 1 ∧ (placeOf b f).toNat = i := by
 obtain ⟨q, m, t, hq, hm, k1, k2, k3, k4, k5, k6, k7, k8, k9⟩ := Zio hb (i := (i : Int)) (by omega) (by omega)
 have hC : 0 < b.2.1 := by omega
 have e0 : Int.tdiv (i : Int) b.2.1 = (i : Int) / b.2.1 := Int.tdiv_eq_ediv_of_nonneg (by omega)
 have e1 : Int.tmod (i : Int) b.2.1 = (i : Int) % b.2.1 := Int.tmod_eq_emod_of_nonneg (by omega)
 have e2 := Int.mul_ediv_add_emod (i : Int) b.2.1
 rw [← e0, ← e1, hq, hm] at e2
 have hi2 : (i : Int) = q * b.2.1 + m := by rw [Int.mul_comm]; omega
 have hi3 : i = (q * b.2.1 + m).toNat := by omega
 have hk : List.getD (kindsB b l) i 0 = faAtD q m 0 l := by
  unfold kindsB
  rw [hi3, Zs0 hb k4 k5 k2 k3 hl (by simp)]
  congr 1
  simp only [List.getD, List.getElem?_replicate]
  split <;> rfl
 rw [hk]
 constructor
 ·intro h
  obtain ⟨f, hf, h1, h2, h3⟩ := ZDz h
  exact ⟨f, hf, h1, by unfold placeOf; rw [h2, h3]; exact hi3.symm⟩
 ·rintro ⟨f, hf, h1, h2⟩
  obtain ⟨o1, o2, o3, o4⟩ := ZnZ hl f hf
  have hp := Zcm hb o1 o2 o3 o4
  have := ZDC o3 o4 k2 k3 (show f.2.1 * b.2.1 + f.2.2 = q * b.2.1 + m by unfold placeOf at h2; omega)
  rw [ZDG hf this.1 this.2 hl, h1]
def stepAt (G K : List Int) (at' : Nat) (o : List CellD) : List CellD := if turning (List.getD o at' (0, 0)) then turnAt G K at' o else o
theorem ZFv {b : BoardD} (hb : boardOK b = true) {l : List FaultD} (hl : faultsOK b (-1) l = true) (G : List Int) {at' : Nat} {o : List CellD} (ho : o.length = b.2.2.length) (ha : at' < o.length) (hs : ∀ i, i < o.length → List.getD (kindsB b l) i 0 = 1 → o[i]? = some (List.getD b.2.2 i (0, 0))) :
    restore b l (passAt G at' o) = stepAt G (kindsB b l) at' o := by
  have hpl : (passAt G at' o).length = o.length := by
    unfold passAt; split
    · simp
    · split
      · exact ZBG _ _ _ _
      · rfl
  apply List.ext_getElem?
  intro i
  rcases Nat.lt_or_ge i o.length with hi | hi
  · rw [ZrG b l _ i (by rw [hpl]; exact hi)]
    have hst := ZIq hb hl (i := i) (by omega)
    have hox : o[i]? = some o[i] := List.getElem?_eq_getElem hi
    have hax : List.getD o at' (0, 0) = o[at'] := by simp [List.getD, List.getElem?_eq_getElem ha]
    by_cases hk : List.getD (kindsB b l) i 0 = 1
    · rw [if_pos (hst.1 hk), ← hs i hi hk]
      unfold stepAt turnAt
      split
      · rw [ZdF, hox, Option.map_some, if_neg (fun hc => hc.2 (by rw [Nat.zero_add]; exact hk))]
      · rfl
    · rw [if_neg (fun h => hk (hst.2 h))]
      unfold stepAt turnAt passAt turning
      rw [hax]
      by_cases h3 : (o[at']).1 = 3
      · simp only [h3, true_or, decide_true, if_true]
        rw [ZdF, hox, Option.map_some, Nat.zero_add]
        by_cases hia : at' = i
        · subst hia
          rw [List.getElem?_set_self hi, if_pos ⟨.inl rfl, hk⟩]
        · have hno : ¬ ((i = at' ∨ ((3 : Int) = 6 ∧ (o[i]).1 = 6 ∧ List.getD G i 0 = List.getD G at' 0)) ∧ List.getD (kindsB b l) i 0 ≠ 1) := by
            rintro ⟨h | ⟨h, _⟩, _⟩
            · exact hia h.symm
            · omega
          rw [List.getElem?_set_ne hia, hox, if_neg hno]
      · by_cases h6 : (o[at']).1 = 6
        · have h36 : ¬ (6 : Int) = 3 := by omega
          simp only [h6, h36, or_true, decide_true, if_true, if_false]
          rw [ZdF, ZDO, hox, Option.map_some, Option.map_some, Nat.zero_add]
          congr 1
          by_cases hc : (o[i]).1 = 6 ∧ List.getD G i 0 = List.getD G at' 0
          · rw [if_pos hc, if_pos ⟨.inr ⟨rfl, hc⟩, hk⟩]
          · rw [if_neg hc, if_neg (by
              rintro ⟨h | ⟨_, h⟩, _⟩
              · subst h; exact hc ⟨h6, rfl⟩
              · exact hc h)]
        · simp only [h3, h6, or_self, decide_false, Bool.false_eq_true, if_false]
  · rw [List.getElem?_eq_none (by rw [Zop, hpl]; exact hi), List.getElem?_eq_none ?_]
    unfold stepAt turnAt
    split
    · rw [ZrA]; exact hi
    · exact hi
end
section
abbrev FallD := Int × Int × Int
def goesOf (x : CellD) (side : Int) : Int := if x.1 = 1 then -1 else if x.1 = 2 then 1 else if x.1 = 3 then 2 * x.2 - 1 else if x.1 = 6 then 2 * x.2 - 1 else if x.1 = 4 then 0 - side else 0
theorem ZDH {x : CellD} (hx : cellOK x = true) {side : Int} (h1 : -1 ≤ side) (h2 : side ≤ 1) : -1 ≤ goesOf x side ∧ goesOf x side ≤ 1 := by
 obtain ⟨c1, c2, c3⟩ := Zij hx
 unfold goesOf
 repeat' split
 all_goals omega
theorem ZF6 (x : CellD) (side : Int) (hx : cellOK x = true) (h1 : -1 ≤ side) (h2 : side ≤ 1) : Ev (fun k => Zfl k x side) (if x.1 = 5 then (0, false) else (goesOf x side, true)) := by
 obtain ⟨c1, c2, c3⟩ := Zij hx
 have n1 : ¬ side < -1 := by omega
 have n2 : ¬ side > 1 := by omega
 refine Ev.succ ?_
 simp only [Zfl]
 refine Ev.bind (ZjB x) ?_
 simp only [hx, Bool.not_true, Bool.false_eq_true, if_false, n1, n2, decide_false]
 rw [w64 (n := 2 * x.2) (by omega) (by omega), w64 (n := 2 * x.2 - 1) (by omega) (by omega), w64 (n := 0 - side) (by omega) (by omega)]
 refine Ev.of ?_
 unfold goesOf
 by_cases a5 : x.1 = 5
 ·simp [a5]
 ·by_cases a1 : x.1 = 1 <;> by_cases a2 : x.1 = 2 <;> by_cases a3 : x.1 = 3 <;> by_cases a6 : x.1 = 6 <;> by_cases a4 : x.1 = 4 <;> simp [a1, a2, a3, a4, a5, a6]
theorem ZEb (x : CellD) (side : Int) (hx : cellOK x = true) (h1 : -1 ≤ side) (h2 : side ≤ 1) : Ev (fun k => ZfG k x side) (goesOf x side) := by
 obtain ⟨c1, c2, c3⟩ := Zij hx
 refine Ev.succ ?_
 simp only [ZfG]
 rw [w64 (n := 2 * x.2) (by omega) (by omega), w64 (n := 2 * x.2 - 1) (by omega) (by omega), w64 (n := 0 - side) (by omega) (by omega)]
 refine Ev.of ?_
 unfold goesOf
 by_cases a1 : x.1 = 1 <;> by_cases a2 : x.1 = 2 <;> by_cases a3 : x.1 = 3 <;> by_cases a6 : x.1 = 6 <;> by_cases a4 : x.1 = 4 <;> simp [a1, a2, a3, a4, a6]
theorem ZIG {x : CellD} (hx : cellOK x = true) (h : x.1 = 3 ∨ x.1 = 6) : cellOK (flip1 x) = true := by
 obtain ⟨c1, c2, c3⟩ := Zij hx
 unfold cellOK flip1
 simp only [decide_eq_true_eq]
 omega
theorem ZJk {α : Type} {l : List α} {x : α} (h : x ∈ l) : ∃ i : Nat, l[i]? = some x := List.getElem?_of_mem h
theorem Zed (G K : List Int) (at' : Nat) (o : List CellD) : (stepAt G K at' o).length = o.length := by
 unfold stepAt turnAt
 split
 ·exact ZrA _ _ _ _ _ _
 ·rfl
theorem ZvX (G K : List Int) {at' : Nat} {o : List CellD} (hx : ∀ x ∈ o, cellOK x = true) : ∀ x ∈ stepAt G K at' o, cellOK x = true := by
 unfold stepAt turnAt
 split
 ·rename_i ht
  unfold turning at ht
  simp only [decide_eq_true_eq] at ht
  intro y hy
  obtain ⟨i, hi⟩ := ZJk hy
  rw [ZdF] at hi
  obtain ⟨x, h1, h2⟩ := Option.map_eq_some_iff.1 hi
  have hxo := hx x (List.mem_of_getElem? h1)
  split at h2
  ·rename_i hc
   rw [← h2]
   refine ZIG hxo ?_
   rcases hc.1 with h | ⟨_, h, _⟩
   ·rw [Nat.zero_add] at h
    subst h
    simpa [List.getD, h1] using ht
   ·exact .inr h
  ·rw [← h2]; exact hxo
 ·exact hx
theorem ZGe (G K : List Int) {at' i : Nat} {o : List CellD} (hk : List.getD K i 0 = 1) : (stepAt G K at' o)[i]? = o[i]? := by
 unfold stepAt turnAt
 split
 ·rw [ZdF, Nat.zero_add]
  cases h : o[i]? with
  | none => rfl
  | some x => rw [Option.map_some, if_neg (fun hc => hc.2 hk)]
 ·rfl
def fallL (b : BoardD) (G K : List Int) : Nat → Int → Int → Int → List CellD → LR (Int × List CellD) (FallD × List CellD)
 | 0, _, col, _, o => .go (col, o)
 | n + 1, row, col, side, o =>
  let at' := (row * b.2.1 + col).toNat
  let x := List.getD o at' (0, 0)
  if List.getD K at' 0 = 2 then .ret ((3, row, col), o)
  else if x.1 = 5 then .ret ((2, row, col), o)
  else
   let g := if List.getD K at' 0 = 3 then 0 - goesOf x side else goesOf x side
   if 0 ≤ col + g ∧ col + g < b.2.1 then fallL b G K n (row + 1) (col + g) (0 - g) (stepAt G K at' o) else .ret ((3, row, col + g), stepAt G K at' o)
def LR.map2 {Z R Z' R' : Type} (f : Z → Z') (g : R → R') : LR Z R → LR Z' R'
 | .go z => .go (f z) | .ret r => .ret (g r)
theorem ZhU (b : BoardD) (hb : boardOK b = true) (G K : List Int) (hG : G.length = b.2.2.length) (hK : K.length = b.2.2.length) (c0 c1 c2 : Int) : ∀ (n : Nat) (row col side : Int) (o : List CellD), row + n = b.1 → 0 ≤ row → 0 ≤ col → col < b.2.1 → -1 ≤ side → side ≤ 1 → o.length = b.2.2.length → (∀ x ∈ o, cellOK x = true) →
    Ev (fun k => ZJ k o b.1 b.2.1 c0 c1 c2 G K col side row) ((fallL b G K n row col side o).map2 (fun z => (z.2, b.1, b.2.1, c0, c1, c2, z.1)) id)
  | 0, row, col, side, o, hn, hr, hc, hc2, hs, hs2, ho, hx => by
    refine Ev.succ ?_
    have : ¬ row < b.1 := by omega
    simp only [ZJ, this, decide_false, Bool.false_eq_true, if_false, fallL, LR.map2]
    exact Ev.some _
  | n + 1, row, col, side, o, hn, hr, hc, hc2, hs, hs2, ho, hx => by
    obtain ⟨g1, g2, g3, g4, g5, g6⟩ := Z1L hb
    have hpp := Z1h g1 g2 g3 g4
    have hrow : row < b.1 := by omega
    have hp := Zcm hb hr hrow hc hc2
    have hoI : row * b.2.1 + col < (o.length : Int) := by omega
    have hKI : row * b.2.1 + col < (K.length : Int) := by omega
    have hcast : ((row * b.2.1 + col).toNat : Int) = row * b.2.1 + col := Int.toNat_of_nonneg hp.1
    refine Ev.succ ?_
    simp only [ZJ, fallL]
    rw [w64 (n := row * b.2.1) (by omega) (by omega), w64 (n := row * b.2.1 + col) (by omega) (by omega), w64 (n := row + 1) (by omega) (by omega)]
    simp only [hrow, hp.1, hKI, hoI, decide_true, if_true]
    have hxo := hx _ (ZDe hp.1 hoI (0, 0))
    have hgo := ZDH hxo hs hs2
    have ht := ZlW (List.getD o (row * b.2.1 + col).toNat (0, 0))
    rw [hxo, Bool.true_and] at ht
    have hturn := ZxV b.1 b.2.1 o G K (row * b.2.1 + col).toNat (by omega) (by omega) (by omega) (by omega) hx
    rw [hcast] at hturn
    generalize hX : List.getD o (row * b.2.1 + col).toNat (0, 0) = X at *
    refine Ev.ite (fun h => ?_) (fun h => ?_)
    · simp only [decide_eq_true_eq] at h
      rw [if_pos h]
      exact Ev.some _
    simp only [decide_eq_true_eq] at h
    rw [if_neg h]
    refine Ev.bind (ZF6 X side hxo hs hs2) ?_
    by_cases h5 : X.1 = 5
    · simp only [h5, if_true, Bool.not_false]
      exact Ev.some _
    simp only [h5, if_false, Bool.not_true, Bool.false_eq_true]
    have tail : ∀ g : Int, -1 ≤ g → g ≤ 1 → Ev (fun k => Option.bind (Z2Q k X) fun z => if z = true then Option.bind (Z65 k (b.1, b.2.1, o) G K (row * b.2.1 + col)) fun z2 => if decide (wrap64 (col + g) < 0) = true then some (LR.ret ((3, row, wrap64 (col + g)), z2)) else if decide (wrap64 (col + g) ≥ b.2.1) = true then some (LR.ret ((3, row, wrap64 (col + g)), z2)) else ZJ k z2 b.1 b.2.1 c0 c1 c2 G K (wrap64 (col + g)) (wrap64 (0 - g)) (row + 1)
        else if decide (wrap64 (col + g) < 0) = true then some (LR.ret ((3, row, wrap64 (col + g)), o)) else if decide (wrap64 (col + g) ≥ b.2.1) = true then some (LR.ret ((3, row, wrap64 (col + g)), o)) else ZJ k o b.1 b.2.1 c0 c1 c2 G K (wrap64 (col + g)) (wrap64 (0 - g)) (row + 1))
        (LR.map2 (fun z => (z.2, b.1, b.2.1, c0, c1, c2, z.1)) id (if 0 ≤ col + g ∧ col + g < b.2.1 then fallL b G K n (row + 1) (col + g) (0 - g) (stepAt G K (row * b.2.1 + col).toNat o) else .ret ((3, row, col + g), stepAt G K (row * b.2.1 + col).toNat o))) := by
      intro g hg hg2
      rw [w64 (n := col + g) (by omega) (by omega), w64 (n := 0 - g) (by omega) (by omega)]
      have last : ∀ o' : List CellD, o' = stepAt G K (row * b.2.1 + col).toNat o → Ev (fun k => if decide (col + g < 0) = true then some (LR.ret ((3, row, col + g), o')) else if decide (col + g ≥ b.2.1) = true then some (LR.ret ((3, row, col + g), o')) else ZJ k o' b.1 b.2.1 c0 c1 c2 G K (col + g) (0 - g) (row + 1))
          (LR.map2 (fun z => (z.2, b.1, b.2.1, c0, c1, c2, z.1)) id (if 0 ≤ col + g ∧ col + g < b.2.1 then fallL b G K n (row + 1) (col + g) (0 - g) (stepAt G K (row * b.2.1 + col).toNat o) else .ret ((3, row, col + g), stepAt G K (row * b.2.1 + col).toNat o))) := by
        intro o' ho'
        refine Ev.ite (fun q => ?_) (fun q => Ev.ite (fun q2 => ?_) (fun q2 => ?_))
        · simp only [decide_eq_true_eq] at q
          rw [if_neg (by omega), ho']
          exact Ev.some _
        · simp only [decide_eq_true_eq] at q2
          rw [if_neg (by omega), ho']
          exact Ev.some _
        · simp only [decide_eq_true_eq] at q q2
          rw [if_pos (by omega), ho']
          exact ZhU b hb G K hG hK c0 c1 c2 n (row + 1) (col + g) (0 - g) _ (by omega) (by omega) (by omega) (by omega) (by omega) (by omega) (by rw [Zed]; exact ho) (ZvX G K hx)
      refine Ev.bind ht ?_
      have hstep : stepAt G K (row * b.2.1 + col).toNat o = if turning X then turnAt G K (row * b.2.1 + col).toNat o else o := by unfold stepAt; rw [hX]
      cases htx : turning X with
      | true =>
        simp only [if_true]
        exact Ev.bind hturn (last _ (by rw [hstep, htx]; rfl))
      | false =>
        simp only [Bool.false_eq_true, if_false]
        exact last _ (by rw [hstep, htx]; rfl)
    refine Ev.ite (fun h3 => ?_) (fun h3 => ?_)
    · simp only [decide_eq_true_eq] at h3
      simp only [h3, if_true]
      rw [w64 (n := 0 - goesOf X side) (by omega) (by omega)]
      exact tail _ (by omega) (by omega)
    · simp only [decide_eq_true_eq] at h3
      simp only [h3, if_false]
      exact tail _ hgo.1 hgo.2
def fallEnd (b : BoardD) (z : LR (Int × List CellD) (FallD × List CellD)) : FallD × List CellD := match z with
 | .go z => ((1, b.1, z.1), z.2)
 | .ret r => r
def fallOf (b : BoardD) (G K : List Int) (col : Int) (o : List CellD) : FallD × List CellD := fallEnd b (fallL b G K b.1.toNat 0 col 0 o)
theorem Zyx (b : BoardD) (hb : boardOK b = true) (G K : List Int) (hG : G.length = b.2.2.length) (hK : K.length = b.2.2.length) (col : Int) (hc : 0 ≤ col) (hc2 : col < b.2.1) (o : List CellD) (ho : o.length = b.2.2.length) (hx : ∀ x ∈ o, cellOK x = true) : Ev (fun k => Zbo k (b.1, b.2.1, o) G K col) (fallOf b G K col o) := by
 obtain ⟨g1, g2, g3, g4, g5, g6⟩ := Z1L hb
 refine Ev.succ ?_
 simp only [Zbo]
 refine Ev.bind (ZhU b hb G K hG hK 0 0 0 b.1.toNat 0 col 0 o (by omega) (by omega) hc hc2 (by omega) (by omega) ho hx) ?_
 unfold fallOf
 cases fallL b G K b.1.toNat 0 col 0 o with
 | go z => exact Ev.go (Ev.some _)
 | ret r => exact Ev.ret (Ev.some _)
theorem Ztb (b : BoardD) (hb : boardOK b = true) (d1 d2 d3 d4 d5 : Int) (o4 : List CellD) (e1 e2 : Int) (v1 : List Int) (v2 : List FaultD) (v3 v12 v15 : Int) : ∀ (r pre : List FaultD) (o : List CellD), (∀ f ∈ r, 0 ≤ f.2.1 ∧ f.2.1 < b.1 ∧ 0 ≤ f.2.2 ∧ f.2.2 < b.2.1) → (pre ++ r).length ≤ 9223372036854775806 → o.length = b.2.2.length →
    Ev (fun k => Z8r k b.1 b.2.1 b.2.2 d1 d2 d3 d4 d5 o4 e1 e2 o v1 v2 v3 v12 v15 (pre ++ r) ((pre ++ r).length : Int) (pre.length : Int)) (b.1, b.2.1, b.2.2, d1, d2, d3, d4, d5, o4, e1, e2, restore b r o, v1, v2, v3, v12, v15)
  | [], pre, o, hr, hl, ho => by
    refine Ev.succ ?_
    simp only [Z8r, Zj, decide_false, Bool.false_eq_true, if_false]
    exact Ev.some _
  | f :: r, pre, o, hr, hl, ho => by
    obtain ⟨k1, k2, k3, k4⟩ := hr f (List.mem_cons_self ..)
    have hp := Zcm hb k1 k2 k3 k4
    have hpo : f.2.1 * b.2.1 + f.2.2 < (o.length : Int) := by omega
    have hr' : ∀ g ∈ r, 0 ≤ g.2.1 ∧ g.2.1 < b.1 ∧ 0 ≤ g.2.2 ∧ g.2.2 < b.2.1 := fun g hg => hr g (List.mem_cons_of_mem _ hg)
    have ih := fun (o' : List CellD) (ho' : o'.length = b.2.2.length) => Ztb b hb d1 d2 d3 d4 d5 o4 e1 e2 v1 v2 v3 v12 v15 r (pre ++ [f]) o' hr' (by simpa using hl) ho'
    simp only [← Z6] at ih
    have hrest : restore b (f :: r) o = restore b r (if f.1 = 1 then List.set o (placeOf b f).toNat (List.getD b.2.2 (placeOf b f).toNat (0, 0)) else o) := rfl
    rw [hrest]
    refine Ev.succ ?_
    simp only [Z8r, Zc, Zr, decide_true, if_true, Int.toNat_natCast, Za]
    rw [Zd pre f r (by omega), w64 (n := f.2.1 * b.2.1) (by omega) (by omega), w64 (n := f.2.1 * b.2.1 + f.2.2) (by omega) (by omega)]
    simp only [hp.1, hp.2.1, hpo, if_true]
    refine Ev.ite (fun h => ?_) (fun h => ?_)
    · simp only [decide_eq_true_eq] at h
      rw [if_pos h]
      exact ih _ (by rw [List.length_set]; exact ho)
    · simp only [decide_eq_true_eq] at h
      rw [if_neg h]
      exact ih _ ho
theorem Zvq (b : BoardD) (h : b.2.2.length ≤ 1000000) : Ev (fun k => Z9C k b) b := by
 refine Ev.succ ?_
 simp only [Z9C, Z85]
 have : 0 + b.2.2.length ≤ 140737488355328 / 16 := by omega
 simp only [this, if_true]
 exact Ev.some _
theorem ZzY (b : BoardD) (h : b.2.2.length ≤ 1000000) : Ev (fun k => Zc3 k b) b := by
 refine Ev.succ ?_
 simp only [Zc3, Z4w]
 have : 0 + b.2.2.length ≤ 140737488355328 / 16 := by omega
 simp only [this, if_true]
 exact Ev.some _
theorem ZDk (b : BoardD) (hb : boardOK b = true) (o : List CellD) (ho : o.length = b.2.2.length) {r c : Int} (h1 : 0 ≤ r) (h2 : r < b.1) (h3 : 0 ≤ c) (h4 : c < b.2.1) : Ev (fun k => Ziq k (b.1, b.2.1, o) r c) (List.getD o (r * b.2.1 + c).toNat (0, 0)) := by
 have hp := Zcm hb h1 h2 h3 h4
 have hpo : r * b.2.1 + c < (o.length : Int) := by omega
 refine Ev.succ ?_
 simp only [Ziq]
 rw [w64 (n := r * b.2.1) (by omega) (by omega), w64 (n := r * b.2.1 + c) (by omega) (by omega)]
 simp only [hp.1, hpo, if_true]
 exact Ev.some _
theorem Zt8 (b : BoardD) (hb : boardOK b = true) (G : List Int) (hG : G.length = b.2.2.length) (l : List FaultD) (hl : faultsOK b (-1) l = true) (hll : l.length ≤ 9223372036854775806) (d1 d2 d3 d4 d5 : Int) (o4 : List CellD) : ∀ (n : Nat) (row col side : Int) (o : List CellD), row + n = b.1 → 0 ≤ row → 0 ≤ col → col < b.2.1 → -1 ≤ side → side ≤ 1 → o.length = b.2.2.length → (∀ x ∈ o, cellOK x = true) → (∀ i, i < o.length → List.getD (kindsB b l) i 0 = 1 → o[i]? = some (List.getD b.2.2 i (0, 0))) →
    Ev (fun k => Zaq k b.1 b.2.1 b.2.2 d1 d2 d3 d4 d5 o4 b.1 b.2.1 o G l col side row) ((fallL b G (kindsB b l) n row col side o).map2 (fun z => (b.1, b.2.1, b.2.2, d1, d2, d3, d4, d5, o4, b.1, b.2.1, z.2, z.1)) (fun r => (r.1, b.1, b.2.1, r.2)))
  | 0, row, col, side, o, hn, hr, hc, hc2, hs, hs2, ho, hx, hst => by
    refine Ev.succ ?_
    have : ¬ row < b.1 := by omega
    simp only [Zaq, this, decide_false, Bool.false_eq_true, if_false, fallL, LR.map2]
    exact Ev.some _
  | n + 1, row, col, side, o, hn, hr, hc, hc2, hs, hs2, ho, hx, hst => by
    obtain ⟨g1, g2, g3, g4, g5, g6⟩ := Z1L hb
    have hpp := Z1h g1 g2 g3 g4
    have hrow : row < b.1 := by omega
    have hp := Zcm hb hr hrow hc hc2
    have hoI : row * b.2.1 + col < (o.length : Int) := by omega
    have hcast : ((row * b.2.1 + col).toNat : Int) = row * b.2.1 + col := Int.toNat_of_nonneg hp.1
    have hK : List.getD (kindsB b l) (row * b.2.1 + col).toNat 0 = faAtD row col 0 l := by
      unfold kindsB
      rw [Zs0 hb hr hrow hc hc2 hl (by simp)]
      congr 1
      simp only [List.getD, List.getElem?_replicate]
      split <;> rfl
    have hxo := hx _ (ZDe hp.1 hoI (0, 0))
    have hgo := ZDH hxo hs hs2
    have hpass := ZFc b.1 b.2.1 o G (row * b.2.1 + col).toNat (by omega) (by omega) (by omega) hx
    rw [hcast] at hpass
    have hres := ZFv hb hl G ho (at' := (row * b.2.1 + col).toNat) (by omega) hst
    have hpl : (passAt G (row * b.2.1 + col).toNat o).length = b.2.2.length := by
      have := congrArg List.length hres
      rw [Zop, Zed] at this
      omega
    refine Ev.succ ?_
    simp only [Zaq, fallL]
    simp only [hrow, decide_true, if_true]
    refine Ev.bind (ZDk b hb o ho hr hrow hc hc2) ?_
    generalize hX : List.getD o (row * b.2.1 + col).toNat (0, 0) = X at *
    refine Ev.bind (ZH0 l row col hll) ?_
    rw [hK]
    refine Ev.ite (fun h => ?_) (fun h => ?_)
    · simp only [decide_eq_true_eq] at h
      rw [if_pos h]
      simp only [Z98]
      exact Ev.bind (Ev.some _) (Ev.some _)
    simp only [decide_eq_true_eq] at h
    rw [if_neg h]
    refine Ev.ite (fun h5 => ?_) (fun h5 => ?_)
    · simp only [decide_eq_true_eq] at h5
      rw [if_pos h5]
      simp only [Z8e]
      exact Ev.bind (Ev.some _) (Ev.some _)
    simp only [decide_eq_true_eq] at h5
    rw [if_neg h5]
    refine Ev.bind (ZEb X side hxo hs hs2) ?_
    have hg : -1 ≤ (if faAtD row col 0 l = 3 then 0 - goesOf X side else goesOf X side) ∧ (if faAtD row col 0 l = 3 then 0 - goesOf X side else goesOf X side) ≤ 1 := by split <;> omega
    have hj : Ev (fun k => Zdv k b.1 b.2.1 b.2.2 d1 d2 d3 d4 d5 o4 b.1 b.2.1 o G l col row (goesOf X side) (decide (faAtD row col 0 l = 3))) (b.1, b.2.1, b.2.2, d1, d2, d3, d4, d5, o4, b.1, b.2.1, o, G, l, col, row, if faAtD row col 0 l = 3 then 0 - goesOf X side else goesOf X side) := by
      simp only [Zdv]
      rw [w64 (n := 0 - goesOf X side) (by omega) (by omega)]
      refine Ev.of ?_
      by_cases h3 : faAtD row col 0 l = 3 <;> simp [h3]
    refine Ev.bind hj ?_
    generalize (if faAtD row col 0 l = 3 then 0 - goesOf X side else goesOf X side) = g at *
    dsimp only
    rw [w64 (n := row * b.2.1) (by omega) (by omega), w64 (n := row * b.2.1 + col) (by omega) (by omega)]
    refine Ev.bind hpass ?_
    refine Ev.bind (Ztb b hb d1 d2 d3 d4 d5 o4 b.1 b.2.1 G l col row g l [] _ (ZnZ hl) (by simpa using hll) hpl) ?_
    rw [hres]
    dsimp only
    rw [w64 (n := col + g) (by omega) (by omega), w64 (n := b.2.1 - 1) (by omega) (by omega), w64 (n := 0 - g) (by omega) (by omega), w64 (n := row + 1) (by omega) (by omega)]
    refine Ev.bind (Zf4 _ _ _) (Ev.ite (fun q => ?_) (fun q => ?_))
    · have q : ¬ (0 ≤ col + g ∧ col + g ≤ b.2.1 - 1) := nd q
      rw [if_neg (by omega)]
      simp only [Z8b]
      exact Ev.bind (Ev.some _) (Ev.some _)
    · have q : 0 ≤ col + g ∧ col + g ≤ b.2.1 - 1 := yd q
      rw [if_pos (by omega)]
      refine Zt8 b hb G hG l hl hll d1 d2 d3 d4 d5 o4 n (row + 1) (col + g) (0 - g) _ (by omega) (by omega) (by omega) (by omega) (by omega) (by omega) (by rw [Zed]; exact ho) (ZvX G _ hx) (fun i hi hk => ?_)
      rw [ZGe G _ hk]
      rw [Zed] at hi
      exact hst i hi hk
theorem ZH9 (b : BoardD) (hb : boardOK b = true) (G : List Int) (hG : G.length = b.2.2.length) (l : List FaultD) (hl : faultsOK b (-1) l = true) (hll : l.length ≤ 9223372036854775806) (col : Int) (hc : 0 ≤ col) (hc2 : col < b.2.1) : Ev (fun k => Zir k b G l col) ((fallOf b G (kindsB b l) col b.2.2).1, b.1, b.2.1, (fallOf b G (kindsB b l) col b.2.2).2) := by
 obtain ⟨g1, g2, g3, g4, g5, g6⟩ := Z1L hb
 have hpp := Z1h g1 g2 g3 g4
 refine Ev.succ ?_
 simp only [Zir]
 refine Ev.bind (Zvq b (by omega)) ?_
 refine Ev.bind (Zt8 b hb G hG l hl hll 0 0 0 0 0 [] b.1.toNat 0 col 0 b.2.2 (by omega) (by omega) hc hc2 (by omega) (by omega) rfl g6 (fun i hi _ => by simp [List.getD, List.getElem?_eq_getElem hi])) ?_
 unfold fallOf
 cases fallL b G (kindsB b l) b.1.toNat 0 col 0 b.2.2 with
 | go z =>
  refine Ev.go ?_
  simp only [Z8i]
  exact Ev.bind (Ev.some _) (Ev.some _)
 | ret r => exact Ev.ret (Ev.some _)
end
section
end
section
theorem ZwK (b : BoardD) (G K : List Int) : ∀ (n : Nat) (row col side : Int) (o : List CellD), (fallEnd b (fallL b G K n row col side o)).2.length = o.length
 | 0, _, _, _, _ => rfl
 | n + 1, row, col, side, o => by
  unfold fallL
  dsimp only
  repeat' split
  all_goals first | rfl | (rw [ZwK]; exact Zed _ _ _ _) | exact Zed _ _ _ _
end
section
theorem ZG3 (G K : List Int) (at' : Nat) (o : List CellD) : (stepAt G K at' o).map Prod.fst = o.map Prod.fst := by
 unfold stepAt turnAt
 split
 ·apply List.ext_getElem?
  intro i
  simp only [List.getElem?_map, ZdF]
  cases o[i]? with
  | none => rfl
  | some x =>
   simp only [Option.map_some]
   split <;> simp [flip1]
 ·rfl
theorem ZoX (b : BoardD) (G K : List Int) : ∀ (n : Nat) (row col side : Int) (o : List CellD), (∀ x ∈ o, cellOK x = true) → (∀ x ∈ (fallEnd b (fallL b G K n row col side o)).2, cellOK x = true) ∧ (fallEnd b (fallL b G K n row col side o)).2.map Prod.fst = o.map Prod.fst
 | 0, _, _, _, o, hx => ⟨hx, rfl⟩
 | n + 1, row, col, side, o, hx => by
  have h1 := ZoX b G K n (row + 1)
  unfold fallL
  dsimp only
  have h2 := ZvX G K (at' := (row * b.2.1 + col).toNat) hx
  have h3 := ZG3 G K (row * b.2.1 + col).toNat o
  repeat' split
  all_goals first | exact ⟨hx, rfl⟩ | exact ⟨h2, h3⟩ | exact ⟨(h1 _ _ _ h2).1, (h1 _ _ _ h2).2.trans h3⟩
theorem Zvd (b : BoardD) (G K : List Int) (c : Int) {o : List CellD} (hx : ∀ x ∈ o, cellOK x = true) : ∀ x ∈ (fallOf b G K c o).2, cellOK x = true := (ZoX b G K _ _ _ _ o hx).1
theorem ZFh (b : BoardD) (G K : List Int) (c : Int) {o : List CellD} (hx : ∀ x ∈ o, cellOK x = true) : (fallOf b G K c o).2.map Prod.fst = o.map Prod.fst := (ZoX b G K _ _ _ _ o hx).2
theorem ZC9 {b b' : BoardD} (h : b.2.1 = b'.2.1) (G K : List Int) : ∀ (n : Nat) (row col side : Int) (o : List CellD), fallL b G K n row col side o = fallL b' G K n row col side o
 | 0, _, _, _, _ => rfl
 | n + 1, row, col, side, o => by simp only [fallL, h, ZC9 h G K n]
theorem ZH3 {b b' : BoardD} (h1 : b.1 = b'.1) (h2 : b.2.1 = b'.2.1) (G K : List Int) (c : Int) (o : List CellD) : fallOf b G K c o = fallOf b' G K c o := by
 have : fallEnd b = fallEnd b' := by funext z; cases z <;> simp [fallEnd, h1]
 unfold fallOf
 rw [this, ZC9 h2, h1]
theorem ZGF {b b' : BoardD} (h : b.2.1 = b'.2.1) (hl : b.2.2.length = b'.2.2.length) (l : List FaultD) : kindsB b l = kindsB b' l := by simp only [kindsB, kindsOf, placeOf, h, hl]
theorem ZIk {x y : CellD} (h : x.1 = y.1) (k : Int) : fits x k = fits y k := by unfold fits turning; rw [h]
theorem ZIn {o o' : List CellD} (h : o.map Prod.fst = o'.map Prod.fst) (i : Nat) : (List.getD o i (0, 0)).1 = (List.getD o' i (0, 0)).1 := by
 have := congrArg (fun l => l[i]?) h
 simp only [List.getElem?_map] at this
 simp only [List.getD]
 cases h1 : o[i]? <;> cases h2 : o'[i]? <;> simp [h1, h2] at this ⊢
 exact this
theorem Zt1 {b b' : BoardD} (h1 : b.1 = b'.1) (h2 : b.2.1 = b'.2.1) (h : b.2.2.map Prod.fst = b'.2.2.map Prod.fst) : ∀ (l : List FaultD) (last : Int), faultsOK b last l = faultsOK b' last l
 | [], _ => rfl
 | x :: r, last => by
  simp only [faultsOK, h1, h2, Zt1 h1 h2 h r]
  rw [ZIk (ZIn h _)]
theorem ZIx {b : BoardD} (hb : boardOK b = true) {o : List CellD} (ho : o.length = b.2.2.length) (hx : ∀ x ∈ o, cellOK x = true) : boardOK (b.1, b.2.1, o) = true := by
 obtain ⟨g1, g2, g3, g4, g5, g6⟩ := Z1L hb
 unfold boardOK
 have : (o.length : Int) = b.1 * b.2.1 := by omega
 simp only [g1, g2, g3, g4, this, and_self, decide_true, Bool.true_and]
 exact List.all_eq_true.2 hx
def runsOf (b : BoardD) (G K : List Int) : List Int → List CellD → List FallD × List CellD
 | [], o => ([], o)
 | c :: r, o => ((fallOf b G K c o).1 :: (runsOf b G K r (fallOf b G K c o).2).1, (runsOf b G K r (fallOf b G K c o).2).2)
theorem ZCw (b : BoardD) (G K : List Int) : ∀ (l : List Int) (o : List CellD), (runsOf b G K l o).1.length = l.length
 | [], _ => rfl
 | c :: r, o => by simp [runsOf, ZCw b G K r]
def colsOK (b : BoardD) (l : List Int) : Prop := ∀ c ∈ l, 0 ≤ c ∧ c < b.2.1
theorem ZqC (b : BoardD) (hb : boardOK b = true) (G : List Int) (hG : G.length = b.2.2.length) (l : List FaultD) (hl : faultsOK b (-1) l = true) (hll : l.length ≤ 9223372036854775806) (d1 d2 : Int) (d3 : List CellD) : ∀ (r pre : List Int) (o : List CellD) (w : List FallD), colsOK b r → (pre ++ r).length ≤ 1000 → w.length = pre.length → o.length = b.2.2.length → (∀ x ∈ o, cellOK x = true) → o.map Prod.fst = b.2.2.map Prod.fst →
    Ev (fun k => Z9d k d1 d2 d3 b.1 b.2.1 o G w l (pre ++ r) ((pre ++ r).length : Int) (pre.length : Int)) (d1, d2, d3, b.1, b.2.1, (runsOf b G (kindsB b l) r o).2, w ++ (runsOf b G (kindsB b l) r o).1)
  | [], pre, o, w, hc, hl1, hw, ho, hx, hp => by
    refine Ev.succ ?_
    simp only [Z9d, Zj, decide_false, Bool.false_eq_true, if_false]
    simp only [runsOf, List.append_nil]
    exact Ev.some _
  | c :: r, pre, o, w, hc, hl1, hw, ho, hx, hp => by
    obtain ⟨k1, k2⟩ := hc c (List.mem_cons_self ..)
    have hb' := ZIx hb ho hx
    have hg := ZH9 (b.1, b.2.1, o) hb' G (hG.trans ho.symm) l (by rw [Zt1 (b := (b.1, b.2.1, o)) (b' := b) rfl rfl hp]; exact hl) hll c k1 k2
    rw [ZH3 (b := (b.1, b.2.1, o)) (b' := b) rfl rfl, ZGF (b := (b.1, b.2.1, o)) (b' := b) rfl ho] at hg
    have hlw : w.length + 1 ≤ 140737488355328 / 24 := by simp at hl1; omega
    refine Ev.succ ?_
    simp only [Z9d, Zc, Zr, decide_true, if_true, Int.toNat_natCast, Za]
    refine Ev.bind hg ?_
    simp only [List.length_singleton, hlw, if_true]
    rw [Zd pre c r (by omega)]
    have ih := ZqC b hb G hG l hl hll d1 d2 d3 r (pre ++ [c]) (fallOf b G (kindsB b l) c o).2 (w ++ [(fallOf b G (kindsB b l) c o).1]) (fun y hy => hc y (List.mem_cons_of_mem _ hy)) (by simpa using hl1) (by simp [hw]) ((ZwK b G _ _ _ _ _ o).trans ho) (Zvd _ _ _ _ hx) ((ZFh _ _ _ _ hx).trans hp)
    rw [← Z6] at ih
    refine ih.congr ?_
    simp [runsOf]
theorem ZGg (b : BoardD) (hb : boardOK b = true) (l : List FaultD) (hl : faultsOK b (-1) l = true) (hll : l.length ≤ 9223372036854775806) (t : List Int) (ht : t.length ≤ 1000) (hc : colsOK b t) : Ev (fun k => ZgG k b l t) ((runsOf b (groupsOf b) (kindsB b l) t b.2.2).1, b.1, b.2.1, (runsOf b (groupsOf b) (kindsB b l) t b.2.2).2) := by
 obtain ⟨g1, g2, g3, g4, g5, g6⟩ := Z1L hb
 have hpp := Z1h g1 g2 g3 g4
 refine Ev.succ ?_
 simp only [ZgG]
 have h0 : Ev (fun k => Z5x k b.1 b.2.1 b.2.2 0 0 [] l t) (0, 0, [], b.1, b.2.1, b.2.2, groupsOf b, l, t) := by
  simp only [Z5x]
  exact Ev.bind (Zvq b (by omega)) (Ev.bind (ZBj b hb) (Ev.some _))
 refine Ev.bind h0 ?_
 refine Ev.bind (ZqC b hb (groupsOf b) (ZvA b) l hl hll 0 0 [] t [] b.2.2 [] hc (by simpa using ht) rfl rfl g6 rfl) ?_
 exact Ev.some _
theorem ZgD (b : BoardD) (hb : boardOK b = true) (G K : List Int) (hG : G.length = b.2.2.length) (hK : K.length = b.2.2.length) (d1 d2 : Int) (d3 : List CellD) : ∀ (r pre : List Int) (o : List CellD) (w : List FallD), colsOK b r → (pre ++ r).length ≤ 1000 → w.length = pre.length → o.length = b.2.2.length → (∀ x ∈ o, cellOK x = true) →
    Ev (fun k => Z43 k d1 d2 d3 b.1 b.2.1 o G K w (pre ++ r) ((pre ++ r).length : Int) (pre.length : Int)) (d1, d2, d3, b.1, b.2.1, (runsOf b G K r o).2, w ++ (runsOf b G K r o).1)
  | [], pre, o, w, hc, hl1, hw, ho, hx => by
    refine Ev.succ ?_
    simp only [Z43, Zj, decide_false, Bool.false_eq_true, if_false]
    simp only [runsOf, List.append_nil]
    exact Ev.some _
  | c :: r, pre, o, w, hc, hl1, hw, ho, hx => by
    obtain ⟨k1, k2⟩ := hc c (List.mem_cons_self ..)
    have hg := Zyx b hb G K hG hK c k1 k2 o ho hx
    have hlw : w.length + 1 ≤ 140737488355328 / 24 := by simp at hl1; omega
    refine Ev.succ ?_
    simp only [Z43, Zc, Zr, decide_true, if_true, Int.toNat_natCast, Za]
    refine Ev.bind hg ?_
    simp only [List.length_singleton, hlw, if_true]
    rw [Zd pre c r (by omega)]
    have ih := ZgD b hb G K hG hK d1 d2 d3 r (pre ++ [c]) (fallOf b G K c o).2 (w ++ [(fallOf b G K c o).1]) (fun y hy => hc y (List.mem_cons_of_mem _ hy)) (by simpa using hl1) (by simp [hw]) ((ZwK b G _ _ _ _ _ o).trans ho) (Zvd _ _ _ _ hx)
    rw [← Z6] at ih
    refine ih.congr ?_
    simp [runsOf]
theorem ZwM (b : BoardD) (hb : boardOK b = true) (l : List FaultD) (hl : faultsOK b (-1) l = true) (hll : l.length ≤ 9223372036854775806) (t : List Int) (ht : t.length ≤ 1000) (hc : colsOK b t) : Ev (fun k => Zat k b l t) ((runsOf b (groupsOf b) (kindsB b l) t b.2.2).1, b.1, b.2.1, (runsOf b (groupsOf b) (kindsB b l) t b.2.2).2) := by
 obtain ⟨g1, g2, g3, g4, g5, g6⟩ := Z1L hb
 have hpp := Z1h g1 g2 g3 g4
 refine Ev.succ ?_
 simp only [Zat]
 refine Ev.bind (ZzY b (by omega)) (Ev.bind (ZtS b hb) (Ev.bind (Zv2 b hb l hl hll) ?_))
 refine Ev.bind (ZgD b hb (groupsOf b) (kindsB b l) (ZvA b) (ZHU b l) 0 0 [] t [] b.2.2 [] hc (by simpa using ht) rfl rfl g6) ?_
 exact Ev.some _
end
end Go.Proofs.Ytkbikniinjalbaa.Vs
