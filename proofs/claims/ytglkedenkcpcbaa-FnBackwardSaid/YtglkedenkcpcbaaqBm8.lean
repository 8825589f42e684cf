/- The proof, part 9. -/
import Derived.Test.YtglkedenkcpcbaaqBm7
set_option maxRecDepth 100000
set_option maxHeartbeats 2000000
set_option linter.unusedVariables false
set_option linter.unusedSimpArgs false
namespace Go.Proofs.Ytglkedenkcpcbaa.Vs
open Go.RowKit
noncomputable section
noncomputable def Z1e : List PK := [PK.mk Ty.bool false none false none]
noncomputable def Z7Q : List PK := [PK.mk (Ty.slice (5 : Nat) (Ty.int .u8)) false none false none, PK.mk (Ty.slice (5 : Nat) (Ty.int .u8)) false none false none]
noncomputable def Z3t (r : Bool) : Tup Z1e × OutD := ((r, ()), none)
noncomputable def Z3s : Tup Z1e × OutD → Option (Bool)
 | (a, none) => some (a.1)
 | _ => none
theorem Z33 : ∀ b r, Z3s b = some r → Z3t r = b := by
 rintro ⟨a, o⟩ r h
 cases o with
 | none => injection h with h; subst h; rfl
 | some _ => cases h
noncomputable def Z4b : Nat → Int → Int → List (Int × Int) → List (Int × Int × List (Int × Int)) → List Int → Int → Int → Int → Option (LR (List Int) Bool)
 | 0, _, _, _, _, _, _, _, _ => none
 | k + 1, b1_0, b1_1, o2, o3, v1, v6, v199, v200 =>
  if decide (v200 < v199) = true then if (0 : Int) ≤ v200 then if v200 < (↑(List.length o3) : Int) then Option.bind (Zaf k (Prod.fst (List.getD o3 (Int.toNat v200) ((0 : Int), (0 : Int), [])), Prod.fst (Prod.snd (List.getD o3 (Int.toNat v200) ((0 : Int), (0 : Int), []))), Prod.snd (Prod.snd (List.getD o3 (Int.toNat v200) ((0 : Int), (0 : Int), [])))) v6) fun z16 => if (!Prod.snd z16) = true then some (LR.ret false) else Option.bind (Z2M k (Prod.fst z16.1, Prod.fst z16.1.2, Prod.snd z16.1.2) (b1_0, b1_1, o2)) fun z17 => if (!z17) = true then some (LR.ret false) else Z4b k b1_0 b1_1 o2 o3 v1 v6 v199 (wrap64 (v200 + (1 : Int))) else none else none else some (LR.go v1)
noncomputable def Zbr : Spec := Spec.mk [OSh.ro, OSh.box (26 : Nat) [Sh.int .i64, Sh.int .i64, Sh.sl (2 : Nat)], OSh.row true (71 : Nat) (Ty.pair (Ty.int .i64) (Ty.int .i64)), OSh.row true (26 : Nat) (Ty.pair (Ty.int .i64) (Ty.pair (Ty.int .i64) (Ty.slice (71 : Nat) (Ty.pair (Ty.int .i64) (Ty.int .i64)))))] [((1 : Nat), TSh.at (Sh.snap (0 : Nat) (Ty.int .u8))), ((5 : Nat), TSh.at (Sh.ptr (1 : Nat) (0 : Nat))), ((6 : Nat), TSh.at (Sh.int .i64)), ((198 : Nat), TSh.at (Sh.sl (3 : Nat))), ((199 : Nat), TSh.at (Sh.int .i64)), ((200 : Nat), TSh.at (Sh.int .i64))]
noncomputable def ZpX : Spec := Spec.mk [OSh.ro] [((1 : Nat), TSh.at (Sh.snap (0 : Nat) (Ty.int .u8)))]
noncomputable def Z3y : LoopDef (Tup Z1e × OutD) := .rets Zbr ZpX (List Int) (Bool) (fun k x => Z4b k x.1.2.1.1 x.1.2.1.2.1 x.1.2.2.1 x.1.2.2.2.1 x.2.1 x.2.2.2.1 x.2.2.2.2.2.1 x.2.2.2.2.2.2.1) (fun z => (((), ()), (z, ()))) (fun y => (y.2.1)) (fun _ => rfl) Z3t Z3s Z33
noncomputable def Z4K : Nat → Option Bool := fun k =>
    some true
noncomputable def Zng : Spec := Spec.mk [OSh.ro] []
noncomputable def ZI : LoopDef (Tup Z1e × OutD) := .ends Zng (Bool) (fun k x => Z4K k) Z3t Z3s Z33
noncomputable def Z4y : Nat → List Int → Option Bool := fun k v1 =>
    Option.bind (Z6w k v1) fun z19 => Option.bind (Z9c k (Prod.fst z19.1, Prod.fst z19.1.2, Prod.snd z19.1.2) z19.2) fun z20 => Option.bind (Z9w k (Prod.fst z19.1, Prod.fst z19.1.2, Prod.snd z19.1.2) z19.2) fun z21 => if (!Prod.snd z20 == Prod.snd z21) = true then some false else Option.bind (Z2M k (Prod.fst z20.1, Prod.fst z20.1.2, Prod.snd z20.1.2) (Prod.fst z21.1, Prod.fst z21.1.2, Prod.snd z21.1.2)) fun z22 => if (!z22) = true then some false else if Prod.snd z20 = true then Option.bind (Zay k (Prod.fst z20.1, Prod.fst z20.1.2, Prod.snd z20.1.2) z19.2) fun z23 => if (!Prod.snd z23.2) = true then some false else Option.bind (Z2M k (Prod.fst z23.2.1, Prod.fst z23.2.1.2, Prod.snd z23.2.1.2) (Prod.fst z19.1, Prod.fst z19.1.2, Prod.snd z19.1.2)) fun z24 => if (!z24) = true then some false else Option.bind (Z4K k) fun z25 => some z25 else Option.bind (Z4K k) fun z26 => some z26
noncomputable def ZlV : Spec := Spec.mk [OSh.ro] [((1 : Nat), TSh.at (Sh.snap (0 : Nat) (Ty.int .u8)))]
noncomputable def ZJ : LoopDef (Tup Z1e × OutD) := .ends ZlV (Bool) (fun k x => Z4y k x.2.1) Z3t Z3s Z33
noncomputable def Z1c : Nat → Int → Int → List (Int × Int) → List (Int × Int × List (Int × Int)) → List Int → List Int → Int → Bool → Option Bool := fun k b1_0 b1_1 o2 o3 o4 v1 v6 v8 =>
    if v8 = true then Option.bind (Z96 k (b1_0, b1_1, o2)) fun z13 => Option.bind (Z9y k (b1_0, b1_1, o2)) fun z14 => if (!Prod.snd z13) = true then some false else if (!Prod.snd z14) = true then some false else if decide (Prod.fst z13 ≠ Prod.fst z14) = true then some false else Option.bind (Zjh k o4 z14.1) fun z15 => if (!decide ((↑(List.length o3) : Int) = (0 : Int)) == z15) = true then some false else Option.bind (Z4b k b1_0 b1_1 o2 o3 v1 v6 (↑(List.length o3) : Int) (0 : Int)) fun z18 => LR.on z18 (fun y18 => Option.bind (Z4y k y18) fun z27 => some z27) fun r18 => some r18 else Option.bind (Z4y k v1) fun z28 => some z28
noncomputable def ZmS : Spec := Spec.mk [OSh.ro, OSh.box (26 : Nat) [Sh.int .i64, Sh.int .i64, Sh.sl (2 : Nat)], OSh.row true (71 : Nat) (Ty.pair (Ty.int .i64) (Ty.int .i64)), OSh.row true (26 : Nat) (Ty.pair (Ty.int .i64) (Ty.pair (Ty.int .i64) (Ty.slice (71 : Nat) (Ty.pair (Ty.int .i64) (Ty.int .i64))))), OSh.row true (3 : Nat) (Ty.int .i64)] [((1 : Nat), TSh.at (Sh.snap (0 : Nat) (Ty.int .u8))), ((5 : Nat), TSh.at (Sh.ptr (1 : Nat) (0 : Nat))), ((6 : Nat), TSh.at (Sh.int .i64)), ((8 : Nat), TSh.at Sh.bool), ((9 : Nat), TSh.at (Sh.sl (3 : Nat))), ((21 : Nat), TSh.at (Sh.sl (4 : Nat)))]
noncomputable def ZM : LoopDef (Tup Z1e × OutD) := .ends ZmS (Bool) (fun k x => Z1c k x.1.2.1.1 x.1.2.1.2.1 x.1.2.2.1 x.1.2.2.2.1 x.1.2.2.2.2.1 x.2.1 x.2.2.2.1 x.2.2.2.2.1) Z3t Z3s Z33
noncomputable def ZaB : Nat → Int → Int → List (Int × Int) → List (Int × Int × List (Int × Int)) → List (Int × Int × List (Int × Int)) → Int → Int → List (Int × Int) → Int → Int → List (Int × Int) → List Int → Int → Bool → Bool → Bool → Bool → Bool → Bool → Bool → Bool → Option Bool := fun k b1_0 b1_1 o2 o3 o4 b5_0 b5_1 o6 b7_0 b7_1 o8 v1 v6 v8 v10 v12 v14 v15 v16 v17 v18 =>
    Option.bind (Z9t k (b1_0, b1_1, o2) v6) fun z8 => Option.bind (Z9A k (b1_0, b1_1, o2) v6) fun z9 => if (!v8 == v10) = true then some false else Option.bind (Z9r k o3 o4) fun z10 => if (!z10) = true then some false else if (!v12 == v14) = true then some false else Option.bind (Z2M k (b5_0, b5_1, o6) (b7_0, b7_1, o8)) fun z11 => if (!z11) = true then some false else if (!v16 == v18) = true then some false else if (!v15 == v17) = true then some false else if (!Prod.snd z8 == Prod.snd z9) = true then some false else Option.bind (Zc8 k z8.1 z9.1) fun z12 => if (!z12) = true then some false else if (!v16 == v8) = true then some false else if (!Prod.snd z8 == v8) = true then some false else if v8 = true then if (!v12 == decide ((↑(List.length o4) : Int) = (1 : Int))) = true then some false else if v8 = true then if (!v17 == decide ((↑(List.length z9.1) : Int) = (0 : Int))) = true then some false else Option.bind (Z1c k b1_0 b1_1 o2 o4 z9.1 v1 v6 v8) fun z29 => some z29 else Option.bind (Z1c k b1_0 b1_1 o2 o4 z9.1 v1 v6 v8) fun z30 => some z30 else if (!v12 == false) = true then some false else if v8 = true then if (!v17 == decide ((↑(List.length z9.1) : Int) = (0 : Int))) = true then some false else Option.bind (Z1c k b1_0 b1_1 o2 o4 z9.1 v1 v6 v8) fun z31 => some z31 else Option.bind (Z1c k b1_0 b1_1 o2 o4 z9.1 v1 v6 v8) fun z32 => some z32
noncomputable def Zmw : Spec := Spec.mk [OSh.ro, OSh.box (26 : Nat) [Sh.int .i64, Sh.int .i64, Sh.sl (2 : Nat)], OSh.row true (71 : Nat) (Ty.pair (Ty.int .i64) (Ty.int .i64)), OSh.row true (26 : Nat) (Ty.pair (Ty.int .i64) (Ty.pair (Ty.int .i64) (Ty.slice (71 : Nat) (Ty.pair (Ty.int .i64) (Ty.int .i64))))), OSh.row true (26 : Nat) (Ty.pair (Ty.int .i64) (Ty.pair (Ty.int .i64) (Ty.slice (71 : Nat) (Ty.pair (Ty.int .i64) (Ty.int .i64))))), OSh.box (26 : Nat) [Sh.int .i64, Sh.int .i64, Sh.sl (6 : Nat)], OSh.row true (71 : Nat) (Ty.pair (Ty.int .i64) (Ty.int .i64)), OSh.box (26 : Nat) [Sh.int .i64, Sh.int .i64, Sh.sl (8 : Nat)], OSh.row true (71 : Nat) (Ty.pair (Ty.int .i64) (Ty.int .i64))] [((1 : Nat), TSh.at (Sh.snap (0 : Nat) (Ty.int .u8))), ((5 : Nat), TSh.at (Sh.ptr (1 : Nat) (0 : Nat))), ((6 : Nat), TSh.at (Sh.int .i64)), ((7 : Nat), TSh.at (Sh.sl (3 : Nat))), ((8 : Nat), TSh.at Sh.bool), ((9 : Nat), TSh.at (Sh.sl (4 : Nat))), ((10 : Nat), TSh.at Sh.bool), ((11 : Nat), TSh.at (Sh.ptr (5 : Nat) (0 : Nat))), ((12 : Nat), TSh.at Sh.bool), ((13 : Nat), TSh.at (Sh.ptr (7 : Nat) (0 : Nat))), ((14 : Nat), TSh.at Sh.bool), ((15 : Nat), TSh.at Sh.bool), ((16 : Nat), TSh.at Sh.bool), ((17 : Nat), TSh.at Sh.bool), ((18 : Nat), TSh.at Sh.bool)]
noncomputable def ZL : LoopDef (Tup Z1e × OutD) := .ends Zmw (Bool) (fun k x => ZaB k x.1.2.1.1 x.1.2.1.2.1 x.1.2.2.1 x.1.2.2.2.1 x.1.2.2.2.2.1 x.1.2.2.2.2.2.1.1 x.1.2.2.2.2.2.1.2.1 x.1.2.2.2.2.2.2.1 x.1.2.2.2.2.2.2.2.1.1 x.1.2.2.2.2.2.2.2.1.2.1 x.1.2.2.2.2.2.2.2.2.1 x.2.1 x.2.2.2.1 x.2.2.2.2.2.1 x.2.2.2.2.2.2.2.1 x.2.2.2.2.2.2.2.2.2.1 x.2.2.2.2.2.2.2.2.2.2.2.1 x.2.2.2.2.2.2.2.2.2.2.2.2.1 x.2.2.2.2.2.2.2.2.2.2.2.2.2.1 x.2.2.2.2.2.2.2.2.2.2.2.2.2.2.1 x.2.2.2.2.2.2.2.2.2.2.2.2.2.2.2.1) Z3t Z3s Z33
noncomputable def ZdF : Nat → List Int → List Int → Option Bool
 | 0, _, _ => none
 | k + 1, p0, p1 =>
  Option.bind (Zfo k p0 p1) fun z0 => if z0 = true then some true else Option.bind (Z5G k p0) fun z1 => Option.bind (Z5O k (Prod.fst z1.1, Prod.fst z1.1.2, Prod.snd z1.1.2) z1.2) fun z2 => Option.bind (Z8D k (Prod.fst z1.1, Prod.fst z1.1.2, Prod.snd z1.1.2) z1.2) fun z3 => Option.bind (Za0 k (Prod.fst z1.1, Prod.fst z1.1.2, Prod.snd z1.1.2) z1.2) fun z4 => Option.bind (Z9Y k (Prod.fst z1.1, Prod.fst z1.1.2, Prod.snd z1.1.2) z1.2) fun z5 => Option.bind (Z8J k (Prod.fst z1.1, Prod.fst z1.1.2, Prod.snd z1.1.2) z1.2) fun z6 => Option.bind (Z8z k (Prod.fst z1.1, Prod.fst z1.1.2, Prod.snd z1.1.2) z1.2) fun z7 => Option.bind (ZaB k z1.1.1 z1.1.2.1 z1.1.2.2 z2.1 z3.1 z4.1.1 z4.1.2.1 z4.1.2.2 z5.1.1 z5.1.2.1 z5.1.2.2 p1 z1.2 z2.2 z3.2 z4.2 z5.2 z6.1 z6.2 z7.1 z7.2) fun z33 => some z33
noncomputable def Z1O : FnDef := .of Z7Q Z1e (Bool) (fun k x => ZdF k x.1 x.2.1) Z3t Z3s Z33
noncomputable def Z2K : Code := Try.f3.body.getD .skip
noncomputable def Z8 : Ctx (Tup Z1e × OutD) := { T := T, G := [(5, Z9m.E), (6, ZS.E), (7, Z15.E), (8, Z1G.E), (9, Z2F.E), (10, Z2G.E), (11, Z1I.E), (12, Z1E.E), (13, Z27.E), (14, Z22.E), (15, Z25.E), (16, Z1M.E), (17, Z40.E), (18, Z26.E), (19, Z24.E), (20, Z9h.E), (21, Z2I.E), (22, ZW.E), (23, Z23.E), (24, Z21.E), (25, Z4G.E)], mvs := [], no := 0, n := 261, res := resOf T Z7Q Z1e Try.f3.results.toList, loops := [(0, Z3y.E)], regs := [], conds := [], cuts := [(35, ZI.E), (26, ZJ.E), (14, ZM.E), (10, ZL.E)] }
theorem Z5g (k : Nat) : EnvOK Try.prog k Z8.G := (EnvOK.cons (ZEg k) (EnvOK.cons (Zl8 k) (EnvOK.cons (Zgl k) (EnvOK.cons (Zr7 k) (EnvOK.cons (ZvT k) (EnvOK.cons (ZuV k) (EnvOK.cons (ZrH k) (EnvOK.cons (Zrh k) (EnvOK.cons (Zsm k) (EnvOK.cons (Ztr k) (EnvOK.cons (Zsa k) (EnvOK.cons (ZiB k) (EnvOK.cons (Zyj k) (EnvOK.cons (Zu2 k) (EnvOK.cons (Ztx k) (EnvOK.cons (ZE9 k) (EnvOK.cons (Zvg k) (EnvOK.cons (Zmt k) (EnvOK.cons (Zub k) (EnvOK.cons (ZtG k) (EnvOK.cons (ZzU k) (EnvOK.nil mixed))))))))))))))))))))))
noncomputable def Z80 : Code := (findLoop 0 Z2K).getD .skip
theorem Zpx (k : Nat) (x : Zbr.D) : Z3y.lp (k + 1) x = loopK Z8 Z3y 0 Z80 k x := by kernel_rfl
theorem Zpg (k : Nat) : LOK Try.prog Z8 k Z80 := LOK.by [] (by kernel_rfl) AllOK.nil
theorem ZpG (x : Zbr.D) : Z3y.lp 0 x = none := by kernel_rfl
theorem ZnU (k : Nat) : EOK Try.prog Z8 k Z3y.E (.block 0 (.loop Z80)) := Z5 T_ok Z5g ZpG Zpx Zpg k
noncomputable def Z6K : Code := (findCut 35 Z2K).getD .skip
theorem Zmy (k : Nat) (i : ZI.inp.D) : ZI.lp k i = exec Z8 k Z6K (ZI.inp.st Z8.n i) (outK Z8 ZI) (fun _ _ => none) ZI.mkB := by kernel_rfl
theorem ZkP (k : Nat) : EOK Try.prog Z8 k ZI.E Z6K := ZyV (D := ZI) T_ok (Z5g k) (Zmy k) (@LOK.by _ _ _ _ Z6K [] (by kernel_rfl) AllOK.nil)
noncomputable def Z6C : Code := (findCut 26 Z2K).getD .skip
theorem Zno (k : Nat) (i : ZJ.inp.D) : ZJ.lp k i = exec Z8 k Z6C (ZJ.inp.st Z8.n i) (outK Z8 ZJ) (fun _ _ => none) ZJ.mkB := by kernel_rfl
theorem ZkR (k : Nat) : EOK Try.prog Z8 k ZJ.E Z6C := ZyV (D := ZJ) T_ok (Z5g k) (Zno k) (@LOK.by _ _ _ _ Z6C [(ZI.E, Z6K)] (by kernel_rfl) (AllOK.cons (ZkP k) AllOK.nil))
noncomputable def Z6J : Code := (findCut 14 Z2K).getD .skip
theorem Znt (k : Nat) (i : ZM.inp.D) : ZM.lp k i = exec Z8 k Z6J (ZM.inp.st Z8.n i) (outK Z8 ZM) (fun _ _ => none) ZM.mkB := by kernel_rfl
theorem ZkY (k : Nat) : EOK Try.prog Z8 k ZM.E Z6J := ZyV (D := ZM) T_ok (Z5g k) (Znt k) (@LOK.by _ _ _ _ Z6J [(Z3y.E, .block 0 (.loop Z80)), (ZJ.E, Z6C)] (by kernel_rfl) (AllOK.cons (ZnU k) (AllOK.cons (ZkR k) AllOK.nil)))
noncomputable def Z6I : Code := (findCut 10 Z2K).getD .skip
theorem Zm9 (k : Nat) (i : ZL.inp.D) : ZL.lp k i = exec Z8 k Z6I (ZL.inp.st Z8.n i) (outK Z8 ZL) (fun _ _ => none) ZL.mkB := by kernel_rfl
theorem Zl7 (k : Nat) : EOK Try.prog Z8 k ZL.E Z6I := ZyV (D := ZL) T_ok (Z5g k) (Zm9 k) (@LOK.by _ _ _ _ Z6I [(ZM.E, Z6J)] (by kernel_rfl) (AllOK.cons (ZkY k) AllOK.nil))
theorem Zvq (k : Nat) (x : Tup Z1O.ps) : Z1O.f (k + 1) x = fnK Z1O Z8 Z2K k x := by kernel_rfl
theorem ZvA (x : Tup Z1O.ps) : Z1O.f 0 x = none := by kernel_rfl
theorem ZvI (k : Nat) : LOK Try.prog Z8 k Z2K := LOK.by [(ZL.E, Z6I)] (by kernel_rfl) (AllOK.cons (Zl7 k) AllOK.nil)
theorem ZvW (k : Nat) : SoundAt Try.prog k 3 Z1O.E := @Z1 Try.prog Z1O Z8 3 Try.f3 Z2K (by kernel_rfl) (by kernel_rfl) (by kernel_rfl) Try.func3 (by kernel_rfl) (by kernel_rfl) (by kernel_rfl) T_ok Z5g ZvI ZvA Zvq k
end
end Go.Proofs.Ytglkedenkcpcbaa.Vs

set_option maxRecDepth 100000
set_option maxHeartbeats 2000000
set_option linter.unusedVariables false
set_option linter.unusedSimpArgs false
namespace Go.Proofs.Ytglkedenkcpcbaa.Vs
open Go.RowKit
noncomputable section
end
end Go.Proofs.Ytglkedenkcpcbaa.Vs

set_option maxRecDepth 100000
set_option maxHeartbeats 2000000
set_option linter.unusedVariables false
set_option linter.unusedSimpArgs false
namespace Go.Proofs.Ytglkedenkcpcbaa.Vs
open Go.RowKit
noncomputable section
end
end Go.Proofs.Ytglkedenkcpcbaa.Vs

set_option linter.unusedVariables false
set_option linter.unusedSimpArgs false
namespace Go.Proofs.Ytglkedenkcpcbaa.Vs
open Go.RowKit
theorem ZCa {l : List Int} (h : ∀ x ∈ l, Wf (.int .u8) x) : ∀ x ∈ l, 0 ≤ x ∧ x ≤ 255 := by
 intro x hx
 have h2 : (Lit.int .u8 x).wf = true := h x hx
 simp only [Lit.wf, Bool.and_eq_true, decide_eq_true_eq] at h2
 have e1 : IntKind.u8.min = 0 := by decide
 have e2 : IntKind.u8.max = 255 := by decide
 omega
def Cur (code : List Int) (at' n : Int) : Prop := (∀ x ∈ code, 0 ≤ x ∧ x ≤ 255) ∧ code.length ≤ 9223372036854775807 ∧ 0 ≤ at' ∧ at' + n ≤ 4611686018427387904
theorem Cur.to {code : List Int} {at' n at2 m : Int} (h : Cur code at' n) (h1 : at' ≤ at2) (h2 : at2 + m ≤ at' + n) : Cur code at2 m := ⟨h.1, h.2.1, by have := h.2.2.1; omega, by have := h.2.2.2; omega⟩
theorem ZDm (n : Int) (h0 : 0 ≤ n) (h1 : n < 2 ^ 64) : IntKind.u64.wrap n = n := by
 have : (2 : Int) ^ 64 = 18446744073709551616 := by decide
 simp [IntKind.wrap, IntKind.bits, IntKind.signed]
 omega
theorem and255 (x : Int) : 0 ≤ bits BinOp.and IntKind.u64 x 255 ∧ bits BinOp.and IntKind.u64 x 255 ≤ 255 := by
 unfold bits
 simp only
 have h : ((BitVec.ofInt IntKind.u64.bits x &&& BitVec.ofInt IntKind.u64.bits 255).toNat) ≤ 255 := by
  rw [BitVec.toNat_and]
  exact Nat.and_le_right
 have h2 : ((2 : Int) ^ 64) = 18446744073709551616 := by decide
 rw [ZDm _ (Int.natCast_nonneg _) (by omega)]
 omega
theorem ZAu {l : List Int} {i : Int} (h : i < (l.length : Int)) (h0 : 0 ≤ i) : List.getD l i.toNat 0 ∈ l := by
 have hi : i.toNat < l.length := by omega
 simp only [List.getD, List.getElem?_eq_getElem hi, Option.getD_some]
 exact List.getElem_mem hi
def seedN (s b : Int) : Int := IntKind.wrap IntKind.u64 (IntKind.wrap IntKind.u64 (IntKind.wrap IntKind.u64 (s * 6364136223846793005) + IntKind.wrap IntKind.u64 b) + 1442695040888963407)
theorem ZEC {code : List Int} {at' : Int} (seed : Int) (h : Cur code at' 1) : ∃ v s, Ev (fun k => Z5l k (code, at', seed)) (v, at' + 1, s) ∧ 0 ≤ v ∧ v ≤ 255 := by
 obtain ⟨hb, hl, h0, h1⟩ := h
 have w1 : wrap64 (at' + 1) = at' + 1 := w64 (by omega) (by omega)
 have big : ∀ x : Int, 0 ≤ wrap64 (bits BinOp.and IntKind.u64 x 255) ∧ wrap64 (bits BinOp.and IntKind.u64 x 255) ≤ 255 := fun x => by
  have := and255 x
  rw [w64 (by omega) (by omega)]
  exact this
 by_cases hin : at' < (code.length : Int)
 ·have hx := hb _ (ZAu hin h0)
  have w2 : wrap64 (List.getD code at'.toNat 0) = List.getD code at'.toNat 0 := w64 (by omega) (by omega)
  have hle : at' + 1 ≤ (code.length : Int) := by omega
  refine ⟨List.getD code at'.toNat 0, seedN seed (List.getD code at'.toNat 0), Ev.succ ?_, hx.1, hx.2⟩
  simp only [Z5l, hin, h0, w1, hle, decide_true, if_true, w2]
  exact Ev.some _
 ·have hle : ¬ at' + 1 ≤ (code.length : Int) := by omega
  refine ⟨wrap64 (bits BinOp.and IntKind.u64 (Int.fdiv (seedN seed 0) (2 ^ min (Int.toNat 40) (IntKind.bits IntKind.u64))) 255), seedN seed 0, Ev.succ ?_, (big _).1, (big _).2⟩
  simp only [Z5l, hin, w1, hle, decide_false, Bool.false_eq_true, if_false]
  exact Ev.some _
theorem Zo4 {code : List Int} {at' : Int} (seed n : Int) (h : Cur code at' 2) : ∃ v at2 s, Ev (fun k => Z0 k (code, at', seed) n) (v, at2, s) ∧ at' ≤ at2 ∧ at2 ≤ at' + 2 ∧ 0 ≤ v ∧ (n ≤ 1 → v = 0) ∧ (1 < n → v < n) := by
 by_cases hn : n ≤ 1
 ·refine ⟨0, at', seed, Ev.succ ?_, by omega, by omega, by omega, fun _ => rfl, fun h => by omega⟩
  simp only [Z0, hn, decide_true, if_true]
  exact Ev.some _
 ·obtain ⟨v1, s1, e1, b1, b2⟩ := ZEC seed (h.to (at2 := at') (m := 1) (by omega) (by omega))
  by_cases hb : n > 200
  ·obtain ⟨v2, s2, e2, b3, b4⟩ := ZEC s1 (h.to (at2 := at' + 1) (m := 1) (by omega) (by omega))
   have hp : 0 ≤ v1 * 256 + v2 := by omega
   refine ⟨Int.tmod (v1 * 256 + v2) n, at' + 1 + 1, s2, Ev.succ ?_, by omega, by omega, Int.tmod_nonneg _ hp, fun h => by omega, fun _ => Int.tmod_lt_of_pos _ (by omega)⟩
   have hn0 : ¬ n = 0 := by omega
   simp only [Z0, hn, decide_false, Bool.false_eq_true, if_false]
   refine Ev.bind e1 ?_
   simp only [hb, decide_true, if_true]
   refine Ev.bind e2 ?_
   simp only [hn0, if_false]
   rw [w64 (n := v1 * 256) (by omega) (by omega), w64 (n := v1 * 256 + v2) (by omega) (by omega)]
   exact Ev.some _
  ·refine ⟨Int.tmod v1 n, at' + 1, s1, Ev.succ ?_, by omega, by omega, Int.tmod_nonneg _ b1, fun h => by omega, fun _ => Int.tmod_lt_of_pos _ (by omega)⟩
   have hn0 : ¬ n = 0 := by omega
   simp only [Z0, hn, decide_false, Bool.false_eq_true, if_false]
   refine Ev.bind e1 ?_
   simp only [hb, decide_false, Bool.false_eq_true, if_false, hn0]
   exact Ev.some _
theorem Zdc {code : List Int} {at' : Int} (seed : Int) (l : List Int) (hl : 0 < l.length) (h : Cur code at' 2) : ∃ v at2 s, Ev (fun k => Za k (code, at', seed) l) (v, at2, s) ∧ at' ≤ at2 ∧ at2 ≤ at' + 2 ∧ v ∈ l := by
 obtain ⟨v, at2, s, e1, b1, b2, b3, b4, b5⟩ := Zo4 seed (l.length : Int) h
 have hlt : v < (l.length : Int) := by
  by_cases h1 : (l.length : Int) ≤ 1
  ·rw [b4 h1]; omega
  ·exact b5 (by omega)
 refine ⟨List.getD l v.toNat 0, at2, s, Ev.succ ?_, b1, b2, ZAu hlt b3⟩
 simp only [Za]
 refine Ev.bind e1 ?_
 simp only [b3, hlt, if_true]
 exact Ev.some _
end Go.Proofs.Ytglkedenkcpcbaa.Vs

set_option linter.unusedVariables false
set_option linter.unusedSimpArgs false
namespace Go.Proofs.Ytglkedenkcpcbaa.Vs
open Go.RowKit
theorem Zue {code : List Int} {at' : Int} (seed n : Int) (h : Cur code at' 2) : ∃ b at2 s, Ev (fun k => Zc k (code, at', seed) n) (b, at2, s) ∧ at' ≤ at2 ∧ at2 ≤ at' + 2 := by
 obtain ⟨v, at2, s, e1, b1, b2, _⟩ := Zo4 seed n h
 refine ⟨decide (v = 0), at2, s, Ev.succ ?_, b1, b2⟩
 simp only [Zc]
 exact Ev.bind e1 (Ev.some _)
theorem Zd4 {code : List Int} {at' : Int} (seed n : Int) (h : Cur code at' 2) (hn : 0 < n) : ∃ v at2 s, Ev (fun k => Z0 k (code, at', seed) n) (v, at2, s) ∧ at' ≤ at2 ∧ at2 ≤ at' + 2 ∧ 0 ≤ v ∧ v < n := by
 obtain ⟨v, at2, s, e1, b1, b2, b3, b4, b5⟩ := Zo4 seed n h
 refine ⟨v, at2, s, e1, b1, b2, b3, ?_⟩
 by_cases h1 : n ≤ 1
 ·rw [b4 h1]; exact hn
 ·exact b5 (by omega)
end Go.Proofs.Ytglkedenkcpcbaa.Vs

set_option linter.unusedVariables false
set_option linter.unusedSimpArgs false
namespace Go.Proofs.Ytglkedenkcpcbaa.Vs
open Go.RowKit
theorem Z9K (a b c : Int) : Ev (fun k => Z4V k a b c) (decide (b ≤ a ∧ a ≤ c)) := by
 refine Ev.succ ?_
 simp only [Z4V]
 refine Ev.of ?_
 by_cases h1 : b ≤ a <;> by_cases h2 : a ≤ c <;> simp [h1, h2]
theorem Zou (lo hi : Int) : ∀ (r pre : List Int), (pre ++ r).length ≤ 9223372036854775806 → Ev (fun k => Z8g k lo hi (pre ++ r) ((pre ++ r).length : Int) (pre.length : Int)) (if r.all (fun n => decide (lo ≤ n ∧ n ≤ hi)) then LR.go () else LR.ret false)
 | [], pre, hl => by
  refine Ev.succ ?_
  simp only [Z8g, Zm, decide_false, Bool.false_eq_true, if_false, List.all_nil, if_true]
  exact Ev.some _
 | x :: r, pre, hl => by
  have ih := Zou lo hi r (pre ++ [x]) (by simpa using hl)
  refine Ev.succ ?_
  simp only [Z8g, Zg, Zp, decide_true, if_true, Int.toNat_natCast, Z7]
  rw [Zb pre x r (by omega)]
  rw [← Z4] at ih
  refine Ev.bind (Z9K x lo hi) ?_
  by_cases hx : lo ≤ x ∧ x ≤ hi
  ·simp only [hx, and_self, List.all_cons, decide_true, Bool.true_and, Bool.not_true, Bool.false_eq_true, if_false]; exact ih
  ·simp only [hx, List.all_cons, decide_false, Bool.false_and, Bool.not_false, if_true, Bool.false_eq_true, if_false]; exact Ev.some _
theorem ZrY (l : List Int) (lo hi : Int) (hl : l.length ≤ 9223372036854775806) : Ev (fun k => ZcN k l lo hi) (l.all fun n => decide (lo ≤ n ∧ n ≤ hi)) := by
 refine Ev.succ ?_
 simp only [ZcN]
 refine Ev.bind (Zou lo hi l [] (by simpa using hl)) ?_
 cases hx : l.all fun n => decide (lo ≤ n ∧ n ≤ hi) with
 | true => simp only [if_true]; exact Ev.go (Ev.some _)
 | false => simp only [Bool.false_eq_true, if_false]; exact Ev.ret (Ev.some _)
end Go.Proofs.Ytglkedenkcpcbaa.Vs

set_option linter.unusedVariables false
set_option linter.unusedSimpArgs false
namespace Go.Proofs.Ytglkedenkcpcbaa.Vs
open Go.RowKit
abbrev CellD := Int × Int
abbrev BoardD := Int × Int × List (Int × Int)
abbrev FaultD := Int × Int × Int
def turning (x : CellD) : Bool := decide (x.1 = 3 ∨ x.1 = 6)
def cellOK (x : CellD) : Bool := decide (0 ≤ x.1 ∧ x.1 ≤ 7 ∧ (x.2 = 0 ∨ (x.2 = 1 ∧ (x.1 = 3 ∨ x.1 = 6))))
def boardOK (b : BoardD) : Bool := decide (1 ≤ b.1 ∧ b.1 ≤ 10 ∧ 1 ≤ b.2.1 ∧ b.2.1 ≤ 9 ∧ (b.2.2.length : Int) = b.1 * b.2.1) && b.2.2.all cellOK
theorem Zki (x : CellD) : Ev (fun k => Z8v k x) (turning x) := by
 refine Ev.succ ?_
 simp only [Z8v]
 refine Ev.of ?_
 by_cases h1 : x.1 = 3 <;> simp [turning, h1]
theorem Zqz (x : CellD) : Ev (fun k => ZbH k x) (cellOK x) := by
 refine Ev.succ ?_
 simp only [ZbH, decide_eq_true_eq]
 refine Ev.of ?_
 unfold cellOK
 repeat' split
 all_goals (congr 1; first | (symm; rw [decide_eq_true_eq]; omega) | (symm; rw [decide_eq_false_iff_not]; omega) | (apply decide_eq_decide.2; omega))
theorem ZBg (x : CellD) : Ev (fun k => Zej k x) (cellOK x) := by
 refine Ev.succ ?_
 simp only [Zej]
 refine Ev.bind (Z9K _ _ _) ?_
 refine Ev.ite (fun h => ?_) (fun h => ?_)
 ·simp only [decide_eq_true_eq] at h
  refine Ev.ite (fun h2 => ?_) (fun h2 => ?_)
  ·simp only [decide_eq_true_eq] at h2
   refine Ev.of ?_
   congr 1; simp [cellOK]; omega
  ·simp only [decide_eq_true_eq] at h2
   refine Ev.ite (fun h3 => ?_) (fun h3 => ?_)
   ·simp only [decide_eq_true_eq] at h3
    refine Ev.bind (Zki x) (Ev.of ?_)
    congr 1; unfold turning cellOK; by_cases h4 : x.1 = 3 ∨ x.1 = 6 <;> simp [h4] <;> omega
   ·simp only [decide_eq_true_eq] at h3
    refine Ev.of ?_
    congr 1; simp [cellOK]; omega
 ·simp only [decide_eq_true_eq] at h
  refine Ev.of ?_
  congr 1; simp [cellOK]; omega
theorem Zgm : ∀ (r pre : List CellD), (pre ++ r).length ≤ 9223372036854775806 → Ev (fun k => Z48 k (pre ++ r) ((pre ++ r).length : Int) (pre.length : Int)) (if r.all cellOK then LR.go () else LR.ret false)
 | [], pre, hl => by
  refine Ev.succ ?_
  simp only [Z48, Zm, decide_false, Bool.false_eq_true, if_false, List.all_nil, if_true]
  exact Ev.some _
 | x :: r, pre, hl => by
  have ih := Zgm r (pre ++ [x]) (by simpa using hl)
  refine Ev.succ ?_
  simp only [Z48, Zg, Zp, decide_true, if_true, Int.toNat_natCast, Z7]
  rw [Zb pre x r (by omega)]
  rw [← Z4] at ih
  refine Ev.bind (Zqz x) ?_
  cases hx : cellOK x with
  | true => simp only [hx, List.all_cons, Bool.true_and, Bool.not_true, Bool.false_eq_true, if_false]; exact ih
  | false => simp only [hx, List.all_cons, Bool.false_and, Bool.not_false, if_true, Bool.false_eq_true, if_false]; exact Ev.some _
theorem ZuA (l : List CellD) (hl : l.length ≤ 9223372036854775806) : Ev (fun k => Za5 k l) (decide (l.length ≤ 90) && l.all cellOK) := by
 refine Ev.succ ?_
 simp only [Za5]
 refine Ev.ite (fun h => ?_) (fun h => ?_)
 ·simp only [decide_eq_true_eq] at h
  refine Ev.of ?_
  have : ¬ l.length ≤ 90 := by omega
  simp [this]
 ·simp only [decide_eq_true_eq] at h
  have h2 : l.length ≤ 90 := by omega
  refine Ev.bind (Zgm l [] (by simpa using hl)) ?_
  simp only [h2, decide_true, Bool.true_and]
  cases hx : l.all cellOK with
  | true => simp only [if_true]; exact Ev.go (Ev.some _)
  | false => simp only [Bool.false_eq_true, if_false]; exact Ev.ret (Ev.some _)
theorem Zu {a b : Int} (h1 : 1 ≤ a) (h2 : a ≤ 10) (h3 : 1 ≤ b) (h4 : b ≤ 9) : 1 ≤ a * b ∧ a * b ≤ 90 :=
 ⟨by have := Int.mul_le_mul h1 h3 (by omega) (by omega); omega, by have := Int.mul_le_mul h2 h4 (by omega) (by omega); omega⟩
theorem Zaz (b : BoardD) (hl : b.2.2.length ≤ 9223372036854775806) : Ev (fun k => Z4s k b) (boardOK b) := by
 refine Ev.succ ?_
 simp only [Z4s, ge_iff_le]
 have no : ∀ {c : Prop}, ¬ c → (boardOK b = true → c) → Option.some false = Option.some (boardOK b) := by
  intro c h1 h2
  cases hb : boardOK b with
  | true => exact absurd (h2 hb) h1
  | false => rfl
 have hb : boardOK b = true → 1 ≤ b.1 ∧ b.1 ≤ 10 ∧ 1 ≤ b.2.1 ∧ b.2.1 ≤ 9 ∧ (b.2.2.length : Int) = b.1 * b.2.1 := fun h => by
  unfold boardOK at h; simp only [Bool.and_eq_true, decide_eq_true_eq] at h; exact h.1
 refine Ev.ite (fun h1 => ?_) (fun h => Ev.of (no h (fun hh => by simpa using (hb hh).1)))
 refine Ev.ite (fun h2 => ?_) (fun h => Ev.of (no h (fun hh => by simpa using (hb hh).2.1)))
 refine Ev.ite (fun h3 => ?_) (fun h => Ev.of (no h (fun hh => by simpa using (hb hh).2.2.1)))
 refine Ev.ite (fun h4 => ?_) (fun h => Ev.of (no h (fun hh => by simpa using (hb hh).2.2.2.1)))
 simp only [decide_eq_true_eq] at h1 h2 h3 h4
 have hp := Zu h1 h2 h3 h4
 rw [w64 (by omega) (by omega)]
 refine Ev.ite (fun h5 => ?_) (fun h => Ev.of (no h (fun hh => by simpa using (hb hh).2.2.2.2)))
 simp only [decide_eq_true_eq] at h5
 refine Ev.bind (ZuA _ hl) (Ev.of ?_)
 have h6 : b.2.2.length ≤ 90 := by omega
 congr 1
 simp only [boardOK, h1, h2, h3, h4, ← h5, h6, and_self, decide_true, Bool.true_and]
theorem ZlM : ∀ (r pre : List CellD), (pre ++ r).length ≤ 9223372036854775806 → Ev (fun k => Z7i k (pre ++ r) ((pre ++ r).length : Int) (pre.length : Int)) (if r.all cellOK then LR.go () else LR.ret false)
 | [], pre, hl => by
  refine Ev.succ ?_
  simp only [Z7i, Zm, decide_false, Bool.false_eq_true, if_false, List.all_nil, if_true]
  exact Ev.some _
 | x :: r, pre, hl => by
  have ih := ZlM r (pre ++ [x]) (by simpa using hl)
  refine Ev.succ ?_
  simp only [Z7i, Zg, Zp, decide_true, if_true, Int.toNat_natCast, Z7]
  rw [Zb pre x r (by omega)]
  rw [← Z4] at ih
  refine Ev.bind (ZBg x) ?_
  cases hx : cellOK x with
  | true => simp only [hx, List.all_cons, Bool.true_and, Bool.not_true, Bool.false_eq_true, if_false]; exact ih
  | false => simp only [hx, List.all_cons, Bool.false_and, Bool.not_false, if_true, Bool.false_eq_true, if_false]; exact Ev.some _
theorem ZhX (b : BoardD) (hl : b.2.2.length ≤ 9223372036854775806) : Ev (fun k => Z8Z k b) (boardOK b) := by
 refine Ev.succ ?_
 simp only [Z8Z]
 have no : ∀ {c : Prop}, ¬ c → (boardOK b = true → c) → Option.some false = Option.some (boardOK b) := by
  intro c h1 h2
  cases hb : boardOK b with
  | true => exact absurd (h2 hb) h1
  | false => rfl
 have hb : boardOK b = true → 1 ≤ b.1 ∧ b.1 ≤ 10 ∧ 1 ≤ b.2.1 ∧ b.2.1 ≤ 9 ∧ (b.2.2.length : Int) = b.1 * b.2.1 := fun h => by
  unfold boardOK at h; simp only [Bool.and_eq_true, decide_eq_true_eq] at h; exact h.1
 refine Ev.bind (Z9K _ _ _) (Ev.ite (fun h => Ev.of (no (c := 1 ≤ b.1 ∧ b.1 ≤ 10) (nd h) (fun hh => ⟨(hb hh).1, (hb hh).2.1⟩))) (fun h1 => ?_))
 refine Ev.bind (Z9K _ _ _) (Ev.ite (fun h => Ev.of (no (c := 1 ≤ b.2.1 ∧ b.2.1 ≤ 9) (nd h) (fun hh => ⟨(hb hh).2.2.1, (hb hh).2.2.2.1⟩))) (fun h2 => ?_))
 have h1' : 1 ≤ b.1 ∧ b.1 ≤ 10 := yd h1
 have h2' : 1 ≤ b.2.1 ∧ b.2.1 ≤ 9 := yd h2
 have hp := Zu h1'.1 h1'.2 h2'.1 h2'.2
 rw [w64 (by omega) (by omega)]
 refine Ev.ite (fun h => Ev.of (no (c := (b.2.2.length : Int) = b.1 * b.2.1) (by simpa using h) (fun hh => (hb hh).2.2.2.2))) (fun h3 => ?_)
 have h3' : (b.2.2.length : Int) = b.1 * b.2.1 := by simpa using h3
 refine Ev.bind (ZlM b.2.2 [] (by simpa using hl)) ?_
 have hx2 : boardOK b = b.2.2.all cellOK := by unfold boardOK; simp only [h1'.1, h1'.2, h2'.1, h2'.2, h3', and_self, decide_true, Bool.true_and]
 rw [hx2]
 cases hx : b.2.2.all cellOK with
 | true => simp only [if_true]; exact Ev.go (Ev.some _)
 | false => simp only [Bool.false_eq_true, if_false]; exact Ev.ret (Ev.some _)
theorem Zn {b : BoardD} (h : boardOK b = true) : 1 ≤ b.1 ∧ b.1 ≤ 10 ∧ 1 ≤ b.2.1 ∧ b.2.1 ≤ 9 ∧ (b.2.2.length : Int) = b.1 * b.2.1 ∧ ∀ x ∈ b.2.2, cellOK x = true := by
 unfold boardOK at h
 simp only [Bool.and_eq_true, decide_eq_true_eq] at h
 exact ⟨h.1.1, h.1.2.1, h.1.2.2.1, h.1.2.2.2.1, h.1.2.2.2.2, List.all_eq_true.1 h.2⟩
theorem ZgW {b : BoardD} (h : boardOK b = true) {r c : Int} (h1 : 0 ≤ r) (h2 : r < b.1) (h3 : 0 ≤ c) (h4 : c < b.2.1) : 0 ≤ r * b.2.1 + c ∧ r * b.2.1 + c < (b.2.2.length : Int) ∧ r * b.2.1 + c ≤ 90 ∧ 0 ≤ r * b.2.1 ∧ r * b.2.1 ≤ 90 := by
 obtain ⟨g1, g2, g3, g4, g5, _⟩ := Zn h
 have hp := Zu g1 g2 g3 g4
 have k1 : 0 ≤ r * b.2.1 := Int.mul_nonneg h1 (by omega)
 have k2 : (r + 1) * b.2.1 ≤ b.1 * b.2.1 := Int.mul_le_mul_of_nonneg_right (by omega) (by omega)
 rw [Int.add_mul, Int.one_mul] at k2
 omega
theorem Z8c {l : List CellD} {i : Int} (h0 : 0 ≤ i) (h1 : i < (l.length : Int)) (d : CellD) : List.getD l i.toNat d ∈ l := by
 have : i.toNat < l.length := by omega
 simp [List.getD, List.getElem?_eq_getElem this]

end Go.Proofs.Ytglkedenkcpcbaa.Vs

set_option linter.unusedVariables false
set_option linter.unusedSimpArgs false
namespace Go.Proofs.Ytglkedenkcpcbaa.Vs
open Go.RowKit
theorem Zsq : ∀ (d : Nat) (v : Int) (acc : List (Int × Int)), v + d = 8 → 0 ≤ v → (acc.length : Int) ≤ 2 * v → (0 < v → 0 < acc.length) → ∃ l, Ev (fun k => Z4B k acc v) l ∧ 0 < l.length ∧ l.length ≤ 16
 | 0, v, acc, hv, h0, h1, h2 => by
  have hn : ¬ v ≤ 7 := by omega
  refine ⟨acc, Ev.succ ?_, h2 (by omega), by omega⟩
  simp only [Z4B, hn, decide_false, Bool.false_eq_true, if_false]
  exact Ev.some _
 | d + 1, v, acc, hv, h0, h1, h2 => by
  have hle : v ≤ 7 := by omega
  have hw : wrap64 (v + 1) = v + 1 := w64 (by omega) (by omega)
  have hal : acc.length + 1 ≤ 140737488355328 / 16 := by omega
  have hal2 : (acc ++ [(v, (0 : Int))]).length + 1 ≤ 140737488355328 / 16 := by simp; omega
  have ht := Zki (v, 1)
  cases hb : turning (v, 1) with
  | true =>
   rw [hb] at ht
   obtain ⟨l, e1, g1, g2⟩ := Zsq d (v + 1) (acc ++ [(v, 0)] ++ [(v, 1)]) (by omega) (by omega) (by simp; omega) (by simp)
   refine ⟨l, Ev.succ ?_, g1, g2⟩
   simp only [Z4B, hle, decide_true, if_true, List.length_singleton, hal, hw]
   refine Ev.bind ht ?_
   simp only [if_true, hal2]
   exact e1
  | false =>
   rw [hb] at ht
   obtain ⟨l, e1, g1, g2⟩ := Zsq d (v + 1) (acc ++ [(v, 0)]) (by omega) (by omega) (by simp; omega) (by simp)
   refine ⟨l, Ev.succ ?_, g1, g2⟩
   simp only [Z4B, hle, decide_true, if_true, List.length_singleton, hal, hw]
   refine Ev.bind ht ?_
   simp only [Bool.false_eq_true, if_false]
   exact e1
theorem ZEU {code : List Int} {at' : Int} (seed : Int) (h : Cur code at' 2) : ∃ x at2 s, Ev (fun k => Z3N k (code, at', seed)) (x, at2, s) ∧ at' ≤ at2 ∧ at2 ≤ at' + 2 := by
 obtain ⟨l, e0, g1, g2⟩ := Zsq 8 0 [] (by omega) (by omega) (by simp) (by omega)
 obtain ⟨v, at2, s, e1, b1, b2, b3, b4⟩ := Zd4 seed (l.length : Int) h (by omega)
 refine ⟨(List.getD l v.toNat (0, 0)), at2, s, Ev.succ ?_, b1, b2⟩
 have hp : Ev (fun k => Zfs k) l := by
  refine Ev.succ ?_
  simp only [Zfs]
  exact Ev.bind e0 (Ev.some _)
 simp only [Z3N]
 refine Ev.bind hp (Ev.bind e1 ?_)
 simp only [b3, b4, if_true]
 exact Ev.some _
theorem ZEt {code : List Int} {at' : Int} (seed : Int) (h : Cur code at' 6) : ∃ x at2 s, Ev (fun k => ZV k (code, at', seed)) (x, at2, s) ∧ at' ≤ at2 ∧ at2 ≤ at' + 6 := by
 obtain ⟨x, a0, s0, e0, b1, b2⟩ := ZEU seed (h.to (at2 := at') (m := 2) (by omega) (by omega))
 obtain ⟨v, a1, s1, e1, b3, b4, _⟩ := Zd4 s0 20 (h.to (at2 := a0) (m := 2) (by omega) (by omega)) (by omega)
 by_cases h0 : v = 0
 ·obtain ⟨y, a2, s2, e2, b5, b6, _⟩ := Zdc s1 [-1, 8] (by simp) (h.to (at2 := a1) (m := 2) (by omega) (by omega))
  refine ⟨(y, x.2), a2, s2, Ev.succ ?_, by omega, by omega⟩
  simp only [ZV]
  refine Ev.bind e0 (Ev.bind e1 ?_)
  simp only [h0, decide_true, if_true]
  exact Ev.bind e2 (Ev.some _)
 ·by_cases h1 : v = 1
  ·obtain ⟨y, a2, s2, e2, b5, b6, _⟩ := Zdc s1 [-1, 1, 2] (by simp) (h.to (at2 := a1) (m := 2) (by omega) (by omega))
   refine ⟨(x.1, y), a2, s2, Ev.succ ?_, by omega, by omega⟩
   simp only [ZV]
   refine Ev.bind e0 (Ev.bind e1 ?_)
   subst h1
   simp only [h0, decide_true, decide_false, Bool.false_eq_true, if_false, if_true]
   exact Ev.bind e2 (Ev.some _)
  ·refine ⟨(x.1, x.2), a1, s1, Ev.succ ?_, by omega, by omega⟩
   simp only [ZV]
   refine Ev.bind e0 (Ev.bind e1 ?_)
   simp only [h0, h1, decide_false, Bool.false_eq_true, if_false]
   exact Ev.some _
theorem Zw9 (code : List Int) (n : Nat) (hn : n ≤ 1000) (v1 v2 v8 b30 b31 b50 b51 : Int) (o4 : List (Int × Int)) (hw : wrap64 (v1 * v2) = (n : Int)) : ∀ (d : Nat) (acc : List (Int × Int)) (at' seed : Int), acc.length + d = n → Cur code at' (10 * d) → ∃ at2 s l, Ev (fun k => Z6 k at' seed code b30 b31 o4 b50 b51 acc v1 v2 v8) (at2, s, code, b30, b31, o4, b50, b51, l) ∧ l.length = n ∧ at' ≤ at2 ∧ at2 ≤ at' + 10 * d
 | 0, acc, at', seed, h, hc => by
  have hlt : ¬ (acc.length : Int) < (n : Int) := by omega
  refine ⟨at', seed, acc, Ev.succ ?_, by omega, by omega, by omega⟩
  simp only [Z6, hw, hlt, decide_false, Bool.false_eq_true, if_false]
  exact Ev.some _
 | d + 1, acc, at', seed, h, hc => by
  have hlt : (acc.length : Int) < (n : Int) := by omega
  have hal : acc.length + 1 ≤ 140737488355328 / 16 := by omega
  have step : ∀ (x : Int × Int) (a1 s1 : Int), at' ≤ a1 → a1 ≤ at' + 10 → ∃ at2 s l, Ev (fun k => Z6 k a1 s1 code b30 b31 o4 b50 b51 (acc ++ [x]) v1 v2 v8) (at2, s, code, b30, b31, o4, b50, b51, l) ∧ l.length = n ∧ at' ≤ at2 ∧ at2 ≤ at' + 10 * ((d + 1 : Nat) : Int) := by
   intro x a1 s1 g1 g2
   obtain ⟨a2, s2, l, e, c1, c2, c3⟩ := Zw9 code n hn v1 v2 v8 b30 b31 b50 b51 o4 hw d (acc ++ [x]) a1 s1 (by simp; omega) (hc.to (at2 := a1) (by omega) (by omega))
   exact ⟨a2, s2, l, e, c1, by omega, by omega⟩
  have part : ∀ (a1 s1 : Int), at' ≤ a1 → a1 ≤ at' + 4 → ∃ at2 s l, Ev (fun k => Option.bind (Z3N k (code, a1, s1)) fun z2 => if decide (z2.1.1 = 5) = true then Option.bind (Zc k (code, z2.2.1, z2.2.2) 3) fun z3 => if (!z3.1) = true then Option.bind (Z0 k (code, z3.2.1, z3.2.2) 2) fun z4 => Z6 k z4.2.1 z4.2.2 code b30 b31 o4 b50 b51 (acc ++ [(3, z4.1)]) v1 v2 v8 else Z6 k z3.2.1 z3.2.2 code b30 b31 o4 b50 b51 (acc ++ [(z2.1.1, z2.1.2)]) v1 v2 v8 else Z6 k z2.2.1 z2.2.2 code b30 b31 o4 b50 b51 (acc ++ [(z2.1.1, z2.1.2)]) v1 v2 v8) (at2, s, code, b30, b31, o4, b50, b51, l) ∧ l.length = n ∧ at' ≤ at2 ∧ at2 ≤ at' + 10 * ((d + 1 : Nat) : Int) := by
   intro a1 s1 g1 g2
   obtain ⟨x, a2, s2, e2, b1, b2⟩ := ZEU s1 (hc.to (at2 := a1) (m := 2) (by omega) (by omega))
   by_cases hx : x.1 = 5
   ·obtain ⟨q, a3, s3, e3, b3, b4⟩ := Zue s2 3 (hc.to (at2 := a2) (m := 2) (by omega) (by omega))
    cases q with
    | true =>
     obtain ⟨a5, s5, l, e5, c1, c2, c3⟩ := step (x.1, x.2) a3 s3 (by omega) (by omega)
     refine ⟨a5, s5, l, Ev.bind e2 ?_, c1, c2, c3⟩
     simp only [hx, decide_true, if_true]
     refine Ev.bind e3 ?_
     simp only [Bool.not_true, Bool.false_eq_true, if_false]
     rw [hx] at e5
     exact e5
    | false =>
     obtain ⟨v, a4, s4, e4, b5, b6, _⟩ := Zd4 s3 2 (hc.to (at2 := a3) (m := 2) (by omega) (by omega)) (by omega)
     obtain ⟨a5, s5, l, e5, c1, c2, c3⟩ := step (3, v) a4 s4 (by omega) (by omega)
     refine ⟨a5, s5, l, Ev.bind e2 ?_, c1, c2, c3⟩
     simp only [hx, decide_true, if_true]
     refine Ev.bind e3 ?_
     simp only [Bool.not_false, if_true]
     exact Ev.bind e4 e5
   ·obtain ⟨a5, s5, l, e5, c1, c2, c3⟩ := step (x.1, x.2) a2 s2 (by omega) (by omega)
    refine ⟨a5, s5, l, Ev.bind e2 ?_, c1, c2, c3⟩
    simp only [hx, decide_false, Bool.false_eq_true, if_false]
    exact e5
  obtain ⟨q, a1, s1, e1, b1, b2⟩ := Zue seed v8 (hc.to (at2 := at') (m := 2) (by omega) (by omega))
  cases q with
  | true =>
   obtain ⟨a5, s5, l, e5, c1, c2, c3⟩ := part a1 s1 b1 (by omega)
   refine ⟨a5, s5, l, Ev.succ ?_, c1, c2, c3⟩
   simp only [Z6, hw, hlt, decide_true, if_true]
   refine Ev.bind e1 ?_
   simp only [if_true, List.length_singleton, hal]
   exact e5
  | false =>
   obtain ⟨q2, a2, s2, e2, b3, b4⟩ := Zue s1 3 (hc.to (at2 := a1) (m := 2) (by omega) (by omega))
   cases q2 with
   | true =>
    obtain ⟨a5, s5, l, e5, c1, c2, c3⟩ := part a2 s2 (by omega) (by omega)
    refine ⟨a5, s5, l, Ev.succ ?_, c1, c2, c3⟩
    simp only [Z6, hw, hlt, decide_true, if_true]
    refine Ev.bind e1 ?_
    simp only [Bool.false_eq_true, if_false]
    refine Ev.bind e2 ?_
    simp only [if_true, List.length_singleton, hal]
    exact e5
   | false =>
    obtain ⟨a5, s5, l, e5, c1, c2, c3⟩ := step (0, 0) a2 s2 (by omega) (by omega)
    refine ⟨a5, s5, l, Ev.succ ?_, c1, c2, c3⟩
    simp only [Z6, hw, hlt, decide_true, if_true]
    refine Ev.bind e1 ?_
    simp only [Bool.false_eq_true, if_false]
    refine Ev.bind e2 ?_
    simp only [Bool.false_eq_true, if_false, List.length_singleton, hal, if_true]
    exact e5
theorem Zu6 {code : List Int} {at' : Int} (seed r c : Int) (n : Nat) (hw : wrap64 (r * c) = (n : Int)) (hn : n ≤ 100) (h : Cur code at' 1010) : ∃ l at2 s, Ev (fun k => Z2f k (code, at', seed) r c) ((r, c, l), at2, s) ∧ at' ≤ at2 ∧ at2 ≤ at' + 1010 ∧ l.length = n := by
 obtain ⟨v, a0, s0, e0, b1, b2, _⟩ := Zdc seed [1, 2, 2] (by simp) (h.to (at2 := at') (m := 2) (by omega) (by omega))
 obtain ⟨a1, s1, l, e1, c1, c2, c3⟩ := Zw9 code n (by omega) r c v 0 0 r c [] hw n [] a0 s0 (by simp) (h.to (at2 := a0) (by omega) (by omega))
 refine ⟨l, a1, s1, Ev.succ ?_, by omega, by omega, c1⟩
 simp only [Z2f]
 exact Ev.bind e0 (Ev.bind e1 (Ev.some _))
theorem Zzr {r c : Int} (r1 : 1 ≤ r) (r2 : r ≤ 10) (c1 : 1 ≤ c) (c2 : c ≤ 9) : 1 ≤ r * c ∧ r * c ≤ 90 := by
 have h1 : r * c ≤ 10 * 9 := Int.mul_le_mul r2 c2 (by omega) (by omega)
 have h2 : 1 * 1 ≤ r * c := Int.mul_le_mul r1 c1 (by omega) (by omega)
 omega
theorem ZFx {code : List Int} {at' : Int} (seed : Int) (h : Cur code at' 1020) : ∃ r c l at2 s, Ev (fun k => Z6S k (code, at', seed)) ((r, c, l), at2, s) ∧ at' ≤ at2 ∧ at2 ≤ at' + 1020 ∧ 1 ≤ r ∧ r ≤ 10 ∧ 1 ≤ c ∧ c ≤ 9 ∧ (l.length : Int) = r * c := by
 obtain ⟨q, a0, s0, e0, b1, b2⟩ := Zue seed 20 (h.to (at2 := at') (m := 2) (by omega) (by omega))
 cases q with
 | true =>
  obtain ⟨r, a1, s1, e1, b3, b4, b5⟩ := Zdc s0 [1, 10] (by simp) (h.to (at2 := a0) (m := 2) (by omega) (by omega))
  obtain ⟨c, a2, s2, e2, b6, b7, b8⟩ := Zdc s1 [1, 9] (by simp) (h.to (at2 := a1) (m := 2) (by omega) (by omega))
  simp only [List.mem_cons, List.not_mem_nil, or_false] at b5 b8
  have hp := Zzr (r := r) (c := c) (by omega) (by omega) (by omega) (by omega)
  obtain ⟨l, a3, s3, e3, c1, c2, c3⟩ := Zu6 s2 r c (r * c).toNat (by rw [w64 (by omega) (by omega)]; omega) (by omega) (h.to (at2 := a2) (by omega) (by omega))
  refine ⟨r, c, l, a3, s3, Ev.succ ?_, by omega, by omega, by omega, by omega, by omega, by omega, by omega⟩
  simp only [Z6S]
  refine Ev.bind e0 ?_
  simp only [if_true]
  exact Ev.bind e1 (Ev.bind e2 (Ev.bind e3 (Ev.some _)))
 | false =>
  obtain ⟨r, a1, s1, e1, b3, b4, b5, b6⟩ := Zd4 s0 5 (h.to (at2 := a0) (m := 2) (by omega) (by omega)) (by omega)
  obtain ⟨c, a2, s2, e2, b7, b8, b9, b10⟩ := Zd4 s1 5 (h.to (at2 := a1) (m := 2) (by omega) (by omega)) (by omega)
  have w1 : wrap64 (1 + r) = 1 + r := w64 (by omega) (by omega)
  have w2 : wrap64 (1 + c) = 1 + c := w64 (by omega) (by omega)
  have hp := Zzr (r := 1 + r) (c := 1 + c) (by omega) (by omega) (by omega) (by omega)
  obtain ⟨l, a3, s3, e3, c1, c2, c3⟩ := Zu6 s2 (1 + r) (1 + c) ((1 + r) * (1 + c)).toNat (by rw [w64 (by omega) (by omega)]; omega) (by omega) (h.to (at2 := a2) (by omega) (by omega))
  refine ⟨1 + r, 1 + c, l, a3, s3, Ev.succ ?_, by omega, by omega, by omega, by omega, by omega, by omega, by omega⟩
  simp only [Z6S]
  refine Ev.bind e0 ?_
  simp only [Bool.false_eq_true, if_false]
  refine Ev.bind e1 (Ev.bind e2 ?_)
  simp only [w1, w2]
  exact Ev.bind e3 (Ev.some _)
theorem ZEo {code : List Int} {at' : Int} (seed : Int) (h : Cur code at' 1040) : ∃ b at2 s, Ev (fun k => ZB k (code, at', seed)) (b, at2, s) ∧ at' ≤ at2 ∧ at2 ≤ at' + 1040 ∧ b.2.2.length ≤ 91 := by
 obtain ⟨r, c, l, a0, s0, e0, b1, b2, r1, r2, c1, c2, hl⟩ := ZFx seed (h.to (at2 := at') (by omega) (by omega))
 obtain ⟨v, a1, s1, e1, b3, b4, _⟩ := Zd4 s0 36 (h.to (at2 := a0) (m := 2) (by omega) (by omega)) (by omega)
 have hp := Zzr r1 r2 c1 c2
 by_cases v0 : v = 0
 ·subst v0
  obtain ⟨x, a2, s2, e2, b5, b6, _⟩ := Zdc s1 [0, wrap64 (r + 1), 10, 11] (by simp) (h.to (at2 := a1) (m := 2) (by omega) (by omega))
  refine ⟨(x, c, l), a2, s2, Ev.succ ?_, by omega, by omega, by dsimp only; omega⟩
  simp only [ZB]
  refine Ev.bind e0 (Ev.bind e1 ?_)
  simp only [decide_true, if_true]
  exact Ev.bind e2 (Ev.some _)
 by_cases v1 : v = 1
 ·subst v1
  obtain ⟨x, a2, s2, e2, b5, b6, _⟩ := Zdc s1 [0, wrap64 (c + 1), 9, 10] (by simp) (h.to (at2 := a1) (m := 2) (by omega) (by omega))
  refine ⟨(r, x, l), a2, s2, Ev.succ ?_, by omega, by omega, by dsimp only; omega⟩
  simp only [ZB]
  refine Ev.bind e0 (Ev.bind e1 ?_)
  simp only [v0, decide_true, decide_false, Bool.false_eq_true, if_false, if_true]
  exact Ev.bind e2 (Ev.some _)
 by_cases v2 : v = 2
 ·subst v2
  obtain ⟨i, a2, s2, e2, b5, b6, b7, b8⟩ := Zd4 s1 (l.length : Int) (h.to (at2 := a1) (m := 2) (by omega) (by omega)) (by omega)
  obtain ⟨x, a3, s3, e3, b9, b10⟩ := ZEt s2 (h.to (at2 := a2) (by omega) (by omega))
  have hg : Ev (fun k => Z12 k a1 s1 code 0 0 [] r c l) (a3, s3, code, 0, 0, [], r, c, List.set l i.toNat (x.1, x.2)) := by
   simp only [Z12]
   refine Ev.bind e2 (Ev.bind e3 ?_)
   simp only [b7, b8, if_true]
   exact Ev.some _
  refine ⟨(r, c, List.set l i.toNat (x.1, x.2)), a3, s3, Ev.succ ?_, by omega, by omega, by dsimp only; rw [List.length_set]; omega⟩
  simp only [ZB]
  refine Ev.bind e0 (Ev.bind e1 ?_)
  simp only [v0, v1, decide_true, decide_false, Bool.false_eq_true, if_false, if_true]
  exact Ev.bind hg (Ev.some _)
 by_cases v3 : v = 3
 ·subst v3
  have h1 : 1 ≤ (l.length : Int) := by omega
  refine ⟨(r, c, List.drop (Int.toNat 1) l), a1, s1, Ev.succ ?_, by omega, by omega, by dsimp only; rw [List.length_drop]; omega⟩
  simp only [ZB]
  refine Ev.bind e0 (Ev.bind e1 ?_)
  simp only [v0, v1, v2, decide_true, decide_false, Bool.false_eq_true, if_false, if_true, h1, Int.le_refl]
  exact Ev.some _
 by_cases v4 : v = 4
 ·subst v4
  refine ⟨(11, 2, List.replicate (Int.toNat 22) (0, 0)), a1, s1, Ev.succ ?_, by omega, by omega, by dsimp only; rw [List.length_replicate]; decide⟩
  simp only [ZB]
  refine Ev.bind e0 (Ev.bind e1 ?_)
  simp only [v0, v1, v2, v3, decide_true, decide_false, Bool.false_eq_true, if_false, if_true]
  exact Ev.some _
 by_cases v5 : v = 5
 ·subst v5
  refine ⟨(2, 10, List.replicate (Int.toNat 20) (0, 0)), a1, s1, Ev.succ ?_, by omega, by omega, by dsimp only; rw [List.length_replicate]; decide⟩
  simp only [ZB]
  refine Ev.bind e0 (Ev.bind e1 ?_)
  simp only [v0, v1, v2, v3, v4, decide_true, decide_false, Bool.false_eq_true, if_false, if_true]
  exact Ev.some _
 refine ⟨(r, c, l), a1, s1, Ev.succ ?_, by omega, by omega, by dsimp only; omega⟩
 simp only [ZB]
 refine Ev.bind e0 (Ev.bind e1 ?_)
 simp only [v0, v1, v2, v3, v4, v5, decide_false, Bool.false_eq_true, if_false]
 exact Ev.some _
end Go.Proofs.Ytglkedenkcpcbaa.Vs

set_option linter.unusedVariables false
set_option linter.unusedSimpArgs false
namespace Go.Proofs.Ytglkedenkcpcbaa.Vs
open Go.RowKit
theorem ZEE (a b : Int) : ∃ m, Ev (fun k => Z7G k a b) m ∧ a ≤ m ∧ (m = a ∨ m = b) := by
 by_cases h : a > b
 ·refine ⟨a, Ev.succ ?_, by omega, .inl rfl⟩
  simp only [Z7G, h, decide_true, if_true]
  exact Ev.some _
 ·refine ⟨b, Ev.succ ?_, by omega, .inr rfl⟩
  simp only [Z7G, h, decide_false, Bool.false_eq_true, if_false]
  exact Ev.some _
theorem ZDZ {code : List Int} {at' : Int} (seed : Int) (b : Int × Int × List (Int × Int)) (h : Cur code at' 6) : ∃ x at2 s, Ev (fun k => Z1S k (code, at', seed) b) (x, at2, s) ∧ at' ≤ at2 ∧ at2 ≤ at' + 6 := by
 obtain ⟨m, e0, _⟩ := ZEE 1 b.2.1
 obtain ⟨v1, a1, s1, e1, b1, b2, _⟩ := Zo4 seed 16 (h.to (at2 := at') (m := 2) (by omega) (by omega))
 obtain ⟨v2, a2, s2, e2, b3, b4, _⟩ := Zo4 s1 (wrap64 (m + wrap64 (Int.tdiv v1 15))) (h.to (at2 := a1) (m := 2) (by omega) (by omega))
 obtain ⟨v3, a3, s3, e3, b5, b6, _⟩ := Zo4 s2 24 (h.to (at2 := a2) (m := 2) (by omega) (by omega))
 refine ⟨wrap64 (v2 - wrap64 (Int.tdiv v3 23)), a3, s3, Ev.succ ?_, by omega, by omega⟩
 simp only [Z1S]
 exact Ev.bind e0 (Ev.bind e1 (Ev.bind e2 (Ev.bind e3 (Ev.some _))))
end Go.Proofs.Ytglkedenkcpcbaa.Vs

set_option linter.unusedVariables false
set_option linter.unusedSimpArgs false
namespace Go.Proofs.Ytglkedenkcpcbaa.Vs
open Go.RowKit
theorem Zji (code : List Int) (n : Nat) (hn : n ≤ 1000) (b30 b31 b50 b51 : Int) (o4 : List (Int × Int)) : ∀ (d i : Nat) (acc : List (Int × Int)) (at' seed : Int), i + d = n → acc.length = n → Cur code at' (6 * d) → ∃ at2 s l, Ev (fun k => ZC k at' seed code b30 b31 o4 b50 b51 acc (n : Int) (i : Int)) (at2, s, code, b30, b31, o4, b50, b51, l) ∧ l.length = n ∧ at' ≤ at2 ∧ at2 ≤ at' + 6 * d
 | 0, i, acc, at', seed, h, ha, hc => by
  have hlt : ¬ (i : Int) < (n : Int) := by omega
  refine ⟨at', seed, acc, Ev.succ ?_, ha, by omega, by omega⟩
  simp only [ZC, hlt, decide_false, Bool.false_eq_true, if_false]
  exact Ev.some _
 | d + 1, i, acc, at', seed, h, ha, hc => by
  have hlt : (i : Int) < (n : Int) := by omega
  have h5 : wrap64 ((i : Int) + 1) = ((i + 1 : Nat) : Int) := by rw [w64 (by omega) (by omega)]; omega
  obtain ⟨q, a1, s1, e1, b1, b2⟩ := Zue seed 2 (hc.to (at2 := at') (m := 2) (by omega) (by omega))
  cases q with
  | false =>
   obtain ⟨a3, s3, l, e3, c1, c2, c3⟩ := Zji code n hn b30 b31 b50 b51 o4 d (i + 1) acc a1 s1 (by omega) ha (hc.to (at2 := a1) (by omega) (by omega))
   refine ⟨a3, s3, l, Ev.succ ?_, c1, by omega, by omega⟩
   simp only [ZC, hlt, decide_true, if_true]
   refine Ev.bind e1 ?_
   simp only [Bool.false_eq_true, if_false, h5]
   exact e3
  | true =>
   obtain ⟨x, a2, s2, e2, b3, b4, _⟩ := Zdc s1 [6, 6, 7, 0] (by simp) (hc.to (at2 := a1) (m := 2) (by omega) (by omega))
   have hia : (i : Int) < (acc.length : Int) := by omega
   have hset : (i : Int) < ((List.set acc i (x, 0)).length : Int) := by rw [List.length_set]; omega
   have hg : Ev (fun k => Z1u k a1 s1 code b30 b31 o4 b50 b51 acc (i : Int) (n : Int) (i : Int)) (a2, s2, code, b30, b31, o4, b50, b51, List.set acc i (x, 0), (i : Int), (n : Int), (i : Int)) := by
    simp only [Z1u]
    refine Ev.bind e2 ?_
    simp only [Int.natCast_nonneg, hia, if_true, Int.toNat_natCast]
    exact Ev.some _
   have hget : List.getD (List.set acc i (x, (0 : Int))) i (0, 0) = (x, 0) := by
    simp [List.getD, List.getElem?_set, show i < acc.length by omega]
   by_cases hx : x = 6
   ·subst hx
    obtain ⟨v, a3, s3, e3, b5, b6, _⟩ := Zd4 s2 2 (hc.to (at2 := a2) (m := 2) (by omega) (by omega)) (by omega)
    have hg8 : Ev (fun k => Z1t k a2 s2 code b30 b31 o4 b50 b51 (List.set acc i (6, 0)) (i : Int) (n : Int) (i : Int)) (a3, s3, code, b30, b31, o4, b50, b51, List.set (List.set acc i (6, 0)) i (6, v), (n : Int), (i : Int)) := by
     simp only [Z1t]
     refine Ev.bind e3 ?_
     simp only [Int.natCast_nonneg, hset, if_true, Int.toNat_natCast, hget]
     exact Ev.some _
    obtain ⟨a4, s4, l, e4, c1, c2, c3⟩ := Zji code n hn b30 b31 b50 b51 o4 d (i + 1) (List.set (List.set acc i (6, 0)) i (6, v)) a3 s3 (by omega) (by rw [List.length_set, List.length_set]; exact ha) (hc.to (at2 := a3) (by omega) (by omega))
    refine ⟨a4, s4, l, Ev.succ ?_, c1, by omega, by omega⟩
    simp only [ZC, hlt, decide_true, if_true]
    refine Ev.bind e1 ?_
    simp only [if_true]
    refine Ev.bind hg ?_
    simp only [Int.natCast_nonneg, hset, if_true, Int.toNat_natCast, hget, eq_self, decide_true]
    refine Ev.bind hg8 ?_
    simp only [h5]
    exact e4
   ·obtain ⟨a4, s4, l, e4, c1, c2, c3⟩ := Zji code n hn b30 b31 b50 b51 o4 d (i + 1) (List.set acc i (x, 0)) a2 s2 (by omega) (by rw [List.length_set]; exact ha) (hc.to (at2 := a2) (by omega) (by omega))
    refine ⟨a4, s4, l, Ev.succ ?_, c1, by omega, by omega⟩
    simp only [ZC, hlt, decide_true, if_true]
    refine Ev.bind e1 ?_
    simp only [if_true]
    refine Ev.bind hg ?_
    simp only [Int.natCast_nonneg, hset, if_true, Int.toNat_natCast, hget, hx, decide_false, Bool.false_eq_true, if_false, h5]
    exact e4
theorem ZF8 {code : List Int} {at' : Int} (seed : Int) (h : Cur code at' 1600) : ∃ b at2 s, Ev (fun k => Z5P k (code, at', seed)) (b, at2, s) ∧ at' ≤ at2 ∧ at2 ≤ at' + 1600 ∧ b.2.2.length ≤ 91 := by
 obtain ⟨b, a0, s0, e0, b1, b2, hl⟩ := ZEo seed (h.to (at2 := at') (by omega) (by omega))
 obtain ⟨a1, s1, l, e1, c1, c2, c3⟩ := Zji code b.2.2.length (by omega) 0 0 b.1 b.2.1 [] b.2.2.length 0 b.2.2 a0 s0 (by omega) rfl (h.to (at2 := a0) (by omega) (by omega))
 refine ⟨(b.1, b.2.1, l), a1, s1, Ev.succ ?_, by omega, by omega, by dsimp only; omega⟩
 simp only [Z5P]
 exact Ev.bind e0 (Ev.bind e1 (Ev.some _))
end Go.Proofs.Ytglkedenkcpcbaa.Vs

set_option linter.unusedVariables false
set_option linter.unusedSimpArgs false
namespace Go.Proofs.Ytglkedenkcpcbaa.Vs
open Go.RowKit
def EvP {α : Type} (f : Nat → Option α) (Q : α → Prop) : Prop := ∃ v, Ev f v ∧ Q v
section
variable {α β : Type} {f g : Nat → Option α} {Q : α → Prop} {Q1 : β → Prop}
theorem EvP.some {v : α} (h : Q v) : EvP (fun _ => some v) Q := ⟨v, Ev.some v, h⟩
theorem EvP.succ (h : EvP (fun k => f (k + 1)) Q) : EvP f Q := by
 obtain ⟨v, h1, h2⟩ := h
 exact ⟨v, Ev.succ h1, h2⟩
theorem EvP.bind {x : Nat → Option β} {y : β → Nat → Option α} (h : EvP x Q1) (h2 : ∀ a, Q1 a → EvP (y a) Q) : EvP (fun k => Option.bind (x k) fun z => y z k) Q := by
 obtain ⟨a, h1, h3⟩ := h
 obtain ⟨v, h4, h5⟩ := h2 a h3
 exact ⟨v, Ev.bind h1 h4, h5⟩
theorem EvP.ite {c : Prop} [Decidable c] (h1 : c → EvP f Q) (h2 : ¬ c → EvP g Q) : EvP (fun k => if c then f k else g k) Q := by
 by_cases hc : c
 ·simp only [if_pos hc]; exact h1 hc
 ·simp only [if_neg hc]; exact h2 hc
theorem EvP.guard {c : Prop} [Decidable c] (hc : c) (h : EvP f Q) : EvP (fun k => if c then f k else none) Q := by
 simp only [if_pos hc]; exact h
theorem EvP.mono {Q' : α → Prop} (h : EvP f Q) (hq : ∀ v, Q v → Q' v) : EvP f Q' := by
 obtain ⟨v, h1, h2⟩ := h
 exact ⟨v, h1, hq v h2⟩
theorem EvP.ev {v : α} (h : Ev f v) (hq : Q v) : EvP f Q := ⟨v, h, hq⟩
end
section
variable {code : List Int} {at' seed : Int}
theorem ZfM (n : Int) (h : Cur code at' 2) (hn : 0 < n) : EvP (fun k => Z0 k (code, at', seed) n) (fun r => at' ≤ r.2.1 ∧ r.2.1 ≤ at' + 2 ∧ 0 ≤ r.1 ∧ r.1 < n) := by
 obtain ⟨v, a, s, e, h1, h2, h3, h4⟩ := Zd4 seed n h hn
 exact ⟨_, e, h1, h2, h3, h4⟩
theorem ZpS (n : Int) (h : Cur code at' 2) : EvP (fun k => Zc k (code, at', seed) n) (fun r => at' ≤ r.2.1 ∧ r.2.1 ≤ at' + 2) := by
 obtain ⟨v, a, s, e, h1, h2⟩ := Zue seed n h
 exact ⟨_, e, h1, h2⟩
theorem ZDN (l : List Int) (hl : 0 < l.length) (h : Cur code at' 2) : EvP (fun k => Za k (code, at', seed) l) (fun r => at' ≤ r.2.1 ∧ r.2.1 ≤ at' + 2 ∧ r.1 ∈ l) := by
 obtain ⟨v, a, s, e, h1, h2, h3⟩ := Zdc seed l hl h
 exact ⟨_, e, h1, h2, h3⟩
theorem ZFg (h : Cur code at' 1600) : EvP (fun k => Z5P k (code, at', seed)) (fun r => at' ≤ r.2.1 ∧ r.2.1 ≤ at' + 1600 ∧ r.1.2.2.length ≤ 91) := by
 obtain ⟨x, a, s, e, h1, h2, h3⟩ := ZF8 seed h
 exact ⟨_, e, h1, h2, h3⟩
end
end Go.Proofs.Ytglkedenkcpcbaa.Vs

set_option linter.unusedVariables false
set_option linter.unusedSimpArgs false
namespace Go.Proofs.Ytglkedenkcpcbaa.Vs
open Go.RowKit
def geared (x : CellD) : Bool := decide (x.1 = 6 ∨ x.1 = 7)
theorem Zlc (x : CellD) : Ev (fun k => Z9i k x) (geared x) := by
 refine Ev.succ ?_
 simp only [Z9i]
 refine Ev.of ?_
 by_cases h1 : x.1 = 6 <;> simp [geared, h1]
theorem Zq9 (x : CellD) : Ev (fun k => ZbF k x) (geared x) := by
 refine Ev.succ ?_
 simp only [ZbF]
 refine Ev.of ?_
 by_cases h1 : x.1 = 6 <;> simp [geared, h1]
def nears (b : BoardD) (i : Int) : List Int := (if 0 < Int.tdiv i b.2.1 then [i - b.2.1] else []) ++ (if 0 < Int.tmod i b.2.1 then [i - 1] else []) ++ (if Int.tmod i b.2.1 + 1 < b.2.1 then [i + 1] else []) ++ (if Int.tdiv i b.2.1 + 1 < b.1 then [i + b.2.1] else [])
theorem Zhd {b : BoardD} (hb : boardOK b = true) {i : Int} (h0 : 0 ≤ i) (h1 : i < (b.2.2.length : Int)) : ∃ q m t : Int, Int.tdiv i b.2.1 = q ∧ Int.tmod i b.2.1 = m ∧ i = t + m ∧ 0 ≤ m ∧ m < b.2.1 ∧ 0 ≤ q ∧ q < b.1 ∧ 0 ≤ t ∧ t + b.2.1 ≤ (b.2.2.length : Int) ∧ (1 ≤ q → b.2.1 ≤ t) ∧ (q + 1 < b.1 → t + b.2.1 + b.2.1 ≤ (b.2.2.length : Int)) := by
 obtain ⟨g1, g2, g3, g4, g5, g6⟩ := Zn hb
 have hq : Int.tdiv i b.2.1 = i / b.2.1 := Int.tdiv_eq_ediv_of_nonneg h0
 have hm : Int.tmod i b.2.1 = i % b.2.1 := Int.tmod_eq_emod_of_nonneg h0
 have e1 := Int.mul_ediv_add_emod i b.2.1
 have e2 := Int.emod_nonneg i (show b.2.1 ≠ 0 by omega)
 have e3 := Int.emod_lt_of_pos i (show 0 < b.2.1 by omega)
 have e4 : 0 ≤ i / b.2.1 := Int.ediv_nonneg h0 (by omega)
 have e5 : i / b.2.1 < b.1 := Int.ediv_lt_of_lt_mul (by omega) (by rw [← g5]; exact h1)
 have e6 : 0 ≤ b.2.1 * (i / b.2.1) := Int.mul_nonneg (by omega) e4
 have e7 : b.2.1 * (i / b.2.1 + 1) ≤ b.2.1 * b.1 := Int.mul_le_mul_of_nonneg_left (by omega) (by omega)
 rw [Int.mul_add, Int.mul_one, Int.mul_comm b.2.1 b.1, ← g5] at e7
 refine ⟨_, _, b.2.1 * (i / b.2.1), hq, hm, by omega, e2, e3, e4, e5, e6, e7, fun h => ?_, fun h => ?_⟩
 ·have := Int.mul_le_mul_of_nonneg_left h (show 0 ≤ b.2.1 by omega)
  omega
 ·have e8 : b.2.1 * (i / b.2.1 + 2) ≤ b.2.1 * b.1 := Int.mul_le_mul_of_nonneg_left (by omega) (by omega)
  rw [Int.mul_add, Int.mul_comm b.2.1 b.1, ← g5] at e8
  omega
theorem ZC0 {b : BoardD} (hb : boardOK b = true) {i : Int} (h0 : 0 ≤ i) (h1 : i < (b.2.2.length : Int)) : ∀ n ∈ nears b i, 0 ≤ n ∧ n < (b.2.2.length : Int) := by
 obtain ⟨q, m, t, hq, hm, k1, k2, k3, k4, k5, k6, k7, k8, k9⟩ := Zhd hb h0 h1
 intro n hn
 unfold nears at hn
 rw [hq, hm] at hn
 simp only [List.mem_append] at hn
 rcases hn with ((hn | hn) | hn) | hn
 ·split at hn
  ·have := List.mem_singleton.1 hn; have := k8 (by omega); omega
  ·cases hn
 ·split at hn
  ·have := List.mem_singleton.1 hn; omega
  ·cases hn
 ·split at hn
  ·have := List.mem_singleton.1 hn; omega
  ·cases hn
 ·split at hn
  ·have := List.mem_singleton.1 hn; have := k9 (by omega); omega
  ·cases hn
theorem ZAv (b : BoardD) (i : Int) : (nears b i).length ≤ 4 := by
 unfold nears
 simp only [List.length_append]
 have h1 : ∀ (c : Prop) [Decidable c] (x : Int), (if c then [x] else []).length ≤ 1 := by intro c _ x; split <;> simp
 have a1 := h1 (0 < Int.tdiv i b.2.1) (i - b.2.1)
 have a2 := h1 (0 < Int.tmod i b.2.1) (i - 1)
 have a3 := h1 (Int.tmod i b.2.1 + 1 < b.2.1) (i + 1)
 have a4 := h1 (Int.tdiv i b.2.1 + 1 < b.1) (i + b.2.1)
 omega
theorem ZyH (b : BoardD) (hb : boardOK b = true) (i : Int) (h0 : 0 ≤ i) (h1 : i < (b.2.2.length : Int)) : Ev (fun k => Zcd k b i) (nears b i) := by
 obtain ⟨g1, g2, g3, g4, g5, g6⟩ := Zn hb
 have hp := Zu g1 g2 g3 g4
 obtain ⟨q, m, t, hq, hm, k1, k2, k3, k4, k5, k6, k7, k8, k9⟩ := Zhd hb h0 h1
 have hC : ¬ b.2.1 = 0 := by omega
 refine Ev.succ ?_
 simp only [Zcd, hC, if_false, nears, hq, hm, gt_iff_lt]
 rw [w64 (n := q) (by omega) (by omega), w64 (n := q + 1) (by omega) (by omega), w64 (n := m + 1) (by omega) (by omega), w64 (n := i - b.2.1) (by omega) (by omega), w64 (n := i - 1) (by omega) (by omega), w64 (n := i + 1) (by omega) (by omega), w64 (n := i + b.2.1) (by omega) (by omega)]
 refine Ev.of ?_
 by_cases h1 : 0 < q <;> by_cases h2 : 0 < m <;> by_cases h3 : m + 1 < b.2.1 <;> by_cases h4 : q + 1 < b.1 <;> simp [h1, h2, h3, h4]
theorem ZB1 (b : BoardD) (hb : boardOK b = true) (i : Int) (h0 : 0 ≤ i) (h1 : i < (b.2.2.length : Int)) : Ev (fun k => Zek k b i) (nears b i) := by
 obtain ⟨g1, g2, g3, g4, g5, g6⟩ := Zn hb
 have hp := Zu g1 g2 g3 g4
 obtain ⟨q, m, t, hq, hm, k1, k2, k3, k4, k5, k6, k7, k8, k9⟩ := Zhd hb h0 h1
 have hC : ¬ b.2.1 = 0 := by omega
 refine Ev.succ ?_
 simp only [Zek, hC, if_false, nears, hq, hm, gt_iff_lt]
 rw [w64 (n := q) (by omega) (by omega), w64 (n := q + 1) (by omega) (by omega), w64 (n := m + 1) (by omega) (by omega), w64 (n := i - b.2.1) (by omega) (by omega), w64 (n := i - 1) (by omega) (by omega), w64 (n := i + 1) (by omega) (by omega), w64 (n := i + b.2.1) (by omega) (by omega)]
 refine Ev.of ?_
 by_cases h1 : 0 < q <;> by_cases h2 : 0 < m <;> by_cases h3 : m + 1 < b.2.1 <;> by_cases h4 : q + 1 < b.1 <;> simp [h1, h2, h3, h4]
def visit (b : BoardD) (v : Int) (G : List Int × List Int) (n : Int) : List Int × List Int := if geared (List.getD b.2.2 n.toNat (0, 0)) && decide (List.getD G.1 n.toNat 0 < 0) then (List.set G.1 n.toNat v, G.2 ++ [n]) else G
def unl (l : List Int) : Nat := l.countP fun x => decide (x < 0)
theorem Zuf (v : Int) (hv : 0 ≤ v) : ∀ (l : List Int) (i : Nat), i < l.length → List.getD l i 0 < 0 → unl (l.set i v) + 1 = unl l
 | [], i, h, _ => by simp at h
 | x :: l, 0, _, h => by
  have h' : x < 0 := by simpa using h
  have : ¬ v < 0 := by omega
  simp [unl, h', this]
 | x :: l, i + 1, h, h2 => by
  have ih := Zuf v hv l i (by simpa using h) (by simpa using h2)
  simp only [unl, List.set_cons_succ, List.countP_cons] at ih ⊢
  omega
theorem ZDT (l : List Int) : unl l ≤ l.length := List.countP_le_length
theorem Zs7 (b : BoardD) (v : Int) (G : List Int × List Int) (n : Int) : (visit b v G n).1.length = G.1.length := by
 unfold visit; split <;> simp
theorem ZfK (b : BoardD) (v : Int) : ∀ (r : List Int) (G : List Int × List Int), (r.foldl (visit b v) G).1.length = G.1.length
 | [], G => rfl
 | n :: r, G => by rw [List.foldl_cons, ZfK b v r, Zs7]
theorem ZEH (b : BoardD) (v : Int) (hv : 0 ≤ v) (G : List Int × List Int) (n : Int) (h0 : 0 ≤ n) (h1 : n < (G.1.length : Int)) : unl (visit b v G n).1 + (visit b v G n).2.length = unl G.1 + G.2.length := by
 unfold visit
 split
 ·rename_i hc
  simp only [Bool.and_eq_true, decide_eq_true_eq] at hc
  have := Zuf v hv G.1 n.toNat (by omega) hc.2
  simp only [List.length_append, List.length_singleton]
  omega
 ·rfl
theorem Zpt (b : BoardD) (v : Int) (hv : 0 ≤ v) : ∀ (r : List Int) (G : List Int × List Int), (∀ n ∈ r, 0 ≤ n ∧ n < (G.1.length : Int)) → unl (r.foldl (visit b v) G).1 + (r.foldl (visit b v) G).2.length = unl G.1 + G.2.length
 | [], G, _ => rfl
 | n :: r, G, h => by
  rw [List.foldl_cons, Zpt b v hv r _ (fun m hm => by rw [Zs7]; exact h m (List.mem_cons_of_mem _ hm))]
  exact ZEH b v hv G n (h n (List.mem_cons_self ..)).1 (h n (List.mem_cons_self ..)).2
theorem Zj3 (b : BoardD) (v : Int) : ∀ (r : List Int) (o2 o3 a : List Int), (r.foldl (visit b v) (o2, o3 ++ a)) = ((r.foldl (visit b v) (o2, a)).1, o3 ++ (r.foldl (visit b v) (o2, a)).2)
 | [], o2, o3, a => rfl
 | n :: r, o2, o3, a => by
  simp only [List.foldl_cons]
  by_cases hc : (geared (List.getD b.2.2 n.toNat (0, 0)) && decide (List.getD o2 n.toNat 0 < 0)) = true
  ·have e1 : visit b v (o2, o3 ++ a) n = (List.set o2 n.toNat v, o3 ++ (a ++ [n])) := by simp only [visit]; rw [if_pos hc, List.append_assoc]
   have e2 : visit b v (o2, a) n = (List.set o2 n.toNat v, a ++ [n]) := by simp only [visit]; rw [if_pos hc]
   rw [e1, e2]
   exact Zj3 b v r _ o3 _
  ·have e1 : visit b v (o2, o3 ++ a) n = (o2, o3 ++ a) := by simp only [visit]; rw [if_neg hc]
   have e2 : visit b v (o2, a) n = (o2, a) := by simp only [visit]; rw [if_neg hc]
   rw [e1, e2]
   exact Zj3 b v r o2 o3 a
theorem Zpj (b : BoardD) (v : Int) (P : Int → Prop) : ∀ (r : List Int) (G : List Int × List Int), (∀ n ∈ r, P n) → (∀ n ∈ G.2, P n) → ∀ n ∈ (r.foldl (visit b v) G).2, P n
 | [], G, _, h => h
 | m :: r, G, h, hg => by
  rw [List.foldl_cons]
  refine Zpj b v P r _ (fun n hn => h n (List.mem_cons_of_mem _ hn)) (fun n hn => ?_)
  unfold visit at hn
  split at hn
  ·rcases List.mem_append.1 hn with hn | hn
   ·exact hg n hn
   ·rw [List.mem_singleton.1 hn]; exact h m (List.mem_cons_self ..)
  ·exact hg n hn
theorem ZaF (b : BoardD) (hb : boardOK b = true) (v : Int) (hv : 0 ≤ v) (v26 : List CellD) (v27 v28 : Int) : ∀ (r pre o2 o3 : List Int), (∀ n ∈ r, 0 ≤ n ∧ n < (b.2.2.length : Int)) → (pre ++ r).length ≤ 100 → o2.length = b.2.2.length → o3.length + unl o2 ≤ 1000 →
    Ev (fun k => Z19 k b.1 b.2.1 b.2.2 o2 o3 (pre ++ r) v  v26 v27 v28 ((pre ++ r).length : Int) (pre.length : Int)) (b.1, b.2.1, b.2.2, (r.foldl (visit b v) (o2, o3)).1, (r.foldl (visit b v) (o2, o3)).2, v, v26, v27, v28)
  | [], pre, o2, o3, hr, hl, h2, h3 => by
    refine Ev.succ ?_
    simp only [Z19, Zm, decide_false, Bool.false_eq_true, if_false]
    exact Ev.some _
  | x :: r, pre, o2, o3, hr, hl, h2, h3 => by
    obtain ⟨hx0, hx1⟩ := hr x (List.mem_cons_self ..)
    have hx2 : x < (o2.length : Int) := by omega
    have hr' : ∀ n ∈ r, 0 ≤ n ∧ n < (b.2.2.length : Int) := fun n hn => hr n (List.mem_cons_of_mem _ hn)
    have ih0 := ZaF b hb v hv  v26 v27 v28 r (pre ++ [x]) o2 o3 hr' (by simpa using hl) h2 h3
    rw [← Z4] at ih0
    have hn := Zb pre x r (by omega)
    refine Ev.succ ?_
    simp only [Z19, Zg, Zp, decide_true, if_true, Int.toNat_natCast, Z7, hn, hx0, hx1, hx2]
    refine Ev.bind (Zlc (List.getD b.2.2 x.toNat (0, 0))) ?_
    rw [List.foldl_cons]
    by_cases hg : geared (List.getD b.2.2 x.toNat (0, 0)) = true
    · simp only [hg, if_true]
      by_cases ho : List.getD o2 x.toNat 0 < 0
      · have e1 : visit b v (o2, o3) x = (List.set o2 x.toNat v, o3 ++ [x]) := by unfold visit; rw [if_pos (by simp only [hg, ho, decide_true, Bool.and_self])]
        have hu := Zuf v hv o2 x.toNat (by omega) ho
        have hle : o3.length + 1 ≤ 140737488355328 / 8 := by omega
        have ih := ZaF b hb v hv  v26 v27 v28 r (pre ++ [x]) (List.set o2 x.toNat v) (o3 ++ [x]) hr' (by simpa using hl) (by simpa using h2) (by simp; omega)
        rw [← Z4] at ih
        simp only [ho, decide_true, if_true, List.length_singleton, hle]
        rw [e1]
        exact ih
      · have e1 : visit b v (o2, o3) x = (o2, o3) := by unfold visit; rw [if_neg (by simp only [ho, decide_false, Bool.and_false, Bool.false_eq_true, not_false_eq_true])]
        simp only [ho, decide_false, Bool.false_eq_true, if_false]
        rw [e1]
        exact ih0
    · have e1 : visit b v (o2, o3) x = (o2, o3) := by unfold visit; rw [if_neg (by simp only [hg, Bool.false_and, Bool.false_eq_true, not_false_eq_true])]
      simp only [hg, Bool.false_eq_true, if_false]
      rw [e1]
      exact ih0
theorem Zdv (b : BoardD) (hb : boardOK b = true) (v : Int) (hv : 0 ≤ v) (v9 : Int) (v26 : List CellD) (v27 v28 : Int) : ∀ (r pre o2 o3 : List Int), (∀ n ∈ r, 0 ≤ n ∧ n < (b.2.2.length : Int)) → (pre ++ r).length ≤ 100 → o2.length = b.2.2.length → o3.length + unl o2 ≤ 1000 →
    Ev (fun k => Z2J k b.1 b.2.1 b.2.2 o2 o3 (pre ++ r) v v9 v26 v27 v28 ((pre ++ r).length : Int) (pre.length : Int)) (b.1, b.2.1, b.2.2, (r.foldl (visit b v) (o2, o3)).1, (r.foldl (visit b v) (o2, o3)).2, v, v9, v26, v27, v28)
  | [], pre, o2, o3, hr, hl, h2, h3 => by
    refine Ev.succ ?_
    simp only [Z2J, Zm, decide_false, Bool.false_eq_true, if_false]
    exact Ev.some _
  | x :: r, pre, o2, o3, hr, hl, h2, h3 => by
    obtain ⟨hx0, hx1⟩ := hr x (List.mem_cons_self ..)
    have hx2 : x < (o2.length : Int) := by omega
    have hr' : ∀ n ∈ r, 0 ≤ n ∧ n < (b.2.2.length : Int) := fun n hn => hr n (List.mem_cons_of_mem _ hn)
    have ih0 := Zdv b hb v hv v9 v26 v27 v28 r (pre ++ [x]) o2 o3 hr' (by simpa using hl) h2 h3
    rw [← Z4] at ih0
    have hn := Zb pre x r (by omega)
    refine Ev.succ ?_
    simp only [Z2J, Zg, Zp, decide_true, if_true, Int.toNat_natCast, Z7, hn, hx0, hx1, hx2]
    refine Ev.bind (Zq9 (List.getD b.2.2 x.toNat (0, 0))) ?_
    rw [List.foldl_cons]
    by_cases hg : geared (List.getD b.2.2 x.toNat (0, 0)) = true
    · simp only [hg, if_true]
      by_cases ho : List.getD o2 x.toNat 0 < 0
      · have e1 : visit b v (o2, o3) x = (List.set o2 x.toNat v, o3 ++ [x]) := by unfold visit; rw [if_pos (by simp only [hg, ho, decide_true, Bool.and_self])]
        have hu := Zuf v hv o2 x.toNat (by omega) ho
        have hle : o3.length + 1 ≤ 140737488355328 / 8 := by omega
        have ih := Zdv b hb v hv v9 v26 v27 v28 r (pre ++ [x]) (List.set o2 x.toNat v) (o3 ++ [x]) hr' (by simpa using hl) (by simpa using h2) (by simp; omega)
        rw [← Z4] at ih
        simp only [ho, decide_true, if_true, List.length_singleton, hle]
        rw [e1]
        exact ih
      · have e1 : visit b v (o2, o3) x = (o2, o3) := by unfold visit; rw [if_neg (by simp only [ho, decide_false, Bool.and_false, Bool.false_eq_true, not_false_eq_true])]
        simp only [ho, decide_false, Bool.false_eq_true, if_false]
        rw [e1]
        exact ih0
    · have e1 : visit b v (o2, o3) x = (o2, o3) := by unfold visit; rw [if_neg (by simp only [hg, Bool.false_and, Bool.false_eq_true, not_false_eq_true])]
      simp only [hg, Bool.false_eq_true, if_false]
      rw [e1]
      exact ih0
def bfs (b : BoardD) (v : Int) : Nat → List Int → List Int → List Int
 | 0, o2, _ => o2
 | _ + 1, o2, [] => o2
 | n + 1, o2, x :: q => bfs b v n ((nears b x).foldl (visit b v) (o2, [])).1 (q ++ ((nears b x).foldl (visit b v) (o2, [])).2)
theorem ZgY (b : BoardD) (v : Int) : ∀ (n : Nat) (o2 q : List Int), (bfs b v n o2 q).length = o2.length
 | 0, o2, _ => rfl
 | _ + 1, o2, [] => rfl
 | n + 1, o2, x :: q => by simp only [bfs]; rw [ZgY b v n, ZfK]
theorem Zf7 (b : BoardD) (hb : boardOK b = true) (v : Int) (hv : 0 ≤ v) (v26 : List CellD) (v27 v28 : Int) : ∀ (n : Nat) (o2 q : List Int), (∀ m ∈ q, 0 ≤ m ∧ m < (b.2.2.length : Int)) → o2.length = b.2.2.length → unl o2 + q.length + 1 ≤ n → q.length + unl o2 ≤ 1000 →
    Ev (fun k => Z1R k b.1 b.2.1 b.2.2 o2 q v v26 v27 v28) (b.1, b.2.1, b.2.2, bfs b v n o2 q, v, v26, v27, v28)
  | 0, o2, q, hq, h2, hn, hm => by omega
  | n + 1, o2, [], hq, h2, hn, hm => by
    refine Ev.succ ?_
    simp only [Z1R, List.length_nil]
    have : ¬ ((0 : Nat) : Int) > 0 := by omega
    simp only [this, decide_false, Bool.false_eq_true, if_false]
    exact Ev.some _
  | n + 1, o2, x :: q, hq, h2, hn, hm => by
    obtain ⟨hx0, hx1⟩ := hq x (List.mem_cons_self ..)
    have hlen : (((x :: q).length : Nat) : Int) > 0 := by simp only [List.length_cons]; omega
    have hlen1 : (1 : Int) ≤ (((x :: q).length : Nat) : Int) := by omega
    have hlen0 : (0 : Int) < (((x :: q).length : Nat) : Int) := by omega
    have hin := ZC0 hb hx0 hx1
    have hun := Zpt b v hv (nears b x) (o2, []) (fun m hm => by rw [h2]; exact hin m hm)
    simp only [List.length_nil, Nat.add_zero] at hun
    simp only [List.length_cons] at hn hm
    refine Ev.succ ?_
    simp only [Z1R, hlen, hlen1, hlen0, Int.le_refl, decide_true, if_true]
    refine Ev.bind (ZyH b hb x hx0 hx1) ?_
    have h6 := ZaF b hb v hv v26 v27 v28 (nears b x) [] o2 q hin (by have := ZAv b x; simp; omega) h2 (by omega)
    refine Ev.bind h6 ?_
    have happ := Zj3 b v (nears b x) o2 q []
    rw [List.append_nil] at happ
    rw [happ]
    show Ev (fun k => Z1R k b.1 b.2.1 b.2.2 (List.foldl (visit b v) (o2, []) (nears b x)).1 (q ++ (List.foldl (visit b v) (o2, []) (nears b x)).2) v v26 v27 v28) _
    exact Zf7 b hb v hv v26 v27 v28 n _ _ (fun m hm => by
      rcases List.mem_append.1 hm with hm | hm
      · exact hq m (List.mem_cons_of_mem _ hm)
      · exact Zpj b v (fun m => 0 ≤ m ∧ m < (b.2.2.length : Int)) (nears b x) (o2, []) hin (fun m hm => by cases hm) m hm) (by rw [ZfK]; exact h2) (by rw [List.length_append]; omega) (by rw [List.length_append]; omega)
theorem ZiC (b : BoardD) (hb : boardOK b = true) (v : Int) (hv : 0 ≤ v) (v26 : List CellD) (v27 v28 : Int) : ∀ (n : Nat) (o2 q pre : List Int), (∀ m ∈ q, 0 ≤ m ∧ m < (b.2.2.length : Int)) → o2.length = b.2.2.length → unl o2 + q.length + 1 ≤ n → (pre ++ q).length + unl o2 ≤ 1000 →
    Ev (fun k => Z3O k b.1 b.2.1 b.2.2 o2 (pre ++ q) v (pre.length : Int) v26 v27 v28) (b.1, b.2.1, b.2.2, bfs b v n o2 q, v, v26, v27, v28)
  | 0, o2, q, pre, hq, h2, hn, hm => by omega
  | n + 1, o2, [], pre, hq, h2, hn, hm => by
    refine Ev.succ ?_
    simp only [Z3O, Zm, decide_false, Bool.false_eq_true, if_false]
    exact Ev.some _
  | n + 1, o2, x :: q, pre, hq, h2, hn, hm => by
    obtain ⟨hx0, hx1⟩ := hq x (List.mem_cons_self ..)
    have hin := ZC0 hb hx0 hx1
    have hun := Zpt b v hv (nears b x) (o2, []) (fun m hm => by rw [h2]; exact hin m hm)
    simp only [List.length_nil, Nat.add_zero] at hun
    have hm' := hm
    simp only [List.length_cons, List.length_append] at hn hm'
    refine Ev.succ ?_
    simp only [Z3O, Zg, Zp, decide_true, if_true, Int.toNat_natCast, Z7]
    refine Ev.bind (ZB1 b hb x hx0 hx1) ?_
    have h6 := Zdv b hb v hv (pre.length : Int) v26 v27 v28 (nears b x) [] o2 (pre ++ x :: q) hin (by have := ZAv b x; simp; omega) h2 hm
    refine Ev.bind h6 ?_
    have happ := Zj3 b v (nears b x) o2 (pre ++ x :: q) []
    rw [List.append_nil] at happ
    rw [happ]
    show Ev (fun k => Z3O k b.1 b.2.1 b.2.2 (List.foldl (visit b v) (o2, []) (nears b x)).1 ((pre ++ x :: q) ++ (List.foldl (visit b v) (o2, []) (nears b x)).2) v (wrap64 ((pre.length : Int) + 1)) v26 v27 v28) _
    rw [Zb pre x q (by simp; omega), Z4, List.append_assoc]
    exact ZiC b hb v hv v26 v27 v28 n _ _ (pre ++ [x]) (fun m hm => by
      rcases List.mem_append.1 hm with hm | hm
      · exact hq m (List.mem_cons_of_mem _ hm)
      · exact Zpj b v (fun m => 0 ≤ m ∧ m < (b.2.2.length : Int)) (nears b x) (o2, []) hin (fun m hm => by cases hm) m hm) (by rw [ZfK]; exact h2) (by rw [List.length_append]; omega) (by simp only [List.length_append, List.length_singleton]; omega)
def groupsFrom (b : BoardD) : Int → List CellD → List Int → Int → List Int
 | _, [], o2, _ => o2
 | i, x :: r, o2, v => if geared x && decide (List.getD o2 i.toNat 0 < 0) then groupsFrom b (i + 1) r (bfs b v 200 (List.set o2 i.toNat v) [i]) (v + 1) else groupsFrom b (i + 1) r o2 v
theorem Zh1 (b : BoardD) : ∀ (r : List CellD) (i : Int) (o2 : List Int) (v : Int), (groupsFrom b i r o2 v).length = o2.length
 | [], _, _, _ => rfl
 | x :: r, i, o2, v => by
  simp only [groupsFrom]
  split
  ·rw [Zh1 b r, ZgY, List.length_set]
  ·exact Zh1 b r _ _ _
def groupsOf (b : BoardD) : List Int := groupsFrom b 0 b.2.2 (List.replicate b.2.2.length (-1)) 0
theorem Z1W (b : BoardD) : (groupsOf b).length = b.2.2.length := by unfold groupsOf; rw [Zh1]; simp
theorem Zfd (b : BoardD) (m : Int) : ∀ (r pre : List Int), m = ((pre ++ r).length : Int) → (pre ++ r).length ≤ 1000 → Ev (fun k => Z32 k b.1 b.2.1 b.2.2 (pre ++ r) m (pre.length : Int)) (b.1, b.2.1, b.2.2, pre ++ List.replicate r.length (-1))
 | [], pre, hm, hl => by
  refine Ev.succ ?_
  have : ¬ (pre.length : Int) < m := by rw [hm]; exact Zm pre
  simp only [Z32, this, decide_false, Bool.false_eq_true, if_false]
  exact Ev.of (by simp)
 | x :: r, pre, hm, hl => by
  have ih := Zfd b m r (pre ++ [-1]) (by rw [hm]; simp) (by simpa using hl)
  have hlt : (pre.length : Int) < m := by rw [hm]; exact Zg _ _ _
  have hn2 : ((pre ++ [x]).length : Int) = ((pre ++ [(-1 : Int)]).length : Int) := by simp
  refine Ev.succ ?_
  simp only [Z32, hlt, Zg, Zp, decide_true, if_true, Int.toNat_natCast, Zak]
  rw [Zb pre x r (by omega), hn2]
  rw [← Z4] at ih
  refine ih.congr ?_
  simp [List.replicate_succ]
theorem ZaK (b : BoardD) (hb : boardOK b = true) : ∀ (r pre : List CellD) (o2 : List Int) (v : Int), pre ++ r = b.2.2 → o2.length = b.2.2.length → 0 ≤ v → v ≤ pre.length → Ev (fun k => ZQ k b.1 b.2.1 b.2.2 o2 v (pre ++ r) ((pre ++ r).length : Int) (pre.length : Int)) (groupsFrom b pre.length r o2 v)
 | [], pre, o2, v, hpr, h2, hv, hv2 => by
  refine Ev.succ ?_
  simp only [ZQ, Zm, decide_false, Bool.false_eq_true, if_false]
  exact Ev.some _
 | x :: r, pre, o2, v, hpr, h2, hv, hv2 => by
  obtain ⟨g1, g2, g3, g4, g5, g6⟩ := Zn hb
  have hp := Zu g1 g2 g3 g4
  have hl90 : (pre ++ x :: r).length ≤ 90 := by rw [hpr]; omega
  have hn := Zb pre x r (by omega)
  have hc : ((pre ++ [x]).length : Int) = (pre.length : Int) + 1 := by simp
  have hlt := Zg pre x r
  have hlo : (pre.length : Int) < (o2.length : Int) := by rw [h2, ← hpr]; exact hlt
  have ih0 := ZaK b hb r (pre ++ [x]) o2 v (by rw [← hpr]; simp) h2 hv (by simp; omega)
  rw [← Z4, hc] at ih0
  refine Ev.succ ?_
  simp only [ZQ, Zg, Zp, decide_true, if_true, Int.toNat_natCast, Z7, hn, hc, hlo]
  refine Ev.bind (Zlc x) ?_
  cases hg : geared x with
  | false =>
   simp only [Bool.not_false, if_true, groupsFrom, hg, Bool.false_and, Bool.false_eq_true, if_false]
   exact ih0
  | true =>
   simp only [Bool.not_true, Bool.false_eq_true, if_false]
   refine Ev.ite (fun h => ?_) (fun h => ?_)
   ·simp only [ge_iff_le, decide_eq_true_eq] at h
    have hno : ¬ List.getD o2 pre.length 0 < 0 := by omega
    simp only [groupsFrom, hg, Int.toNat_natCast, hno, decide_false, Bool.and_false, Bool.false_eq_true, if_false]
    exact ih0
   ·simp only [ge_iff_le, decide_eq_true_eq] at h
    have hno : List.getD o2 pre.length 0 < 0 := by omega
    have hul := ZDT (List.set o2 pre.length v)
    rw [List.length_set, h2, ← hpr] at hul
    have h4 := Zf7 b hb v hv (pre ++ x :: r) ((pre ++ x :: r).length : Int) (pre.length : Int) 200 (List.set o2 pre.length v) [(pre.length : Int)] (fun m hm => by rw [List.mem_singleton.1 hm, ← hpr]; exact ⟨by omega, hlt⟩) (by rw [List.length_set]; exact h2) (by simp; omega) (by simp; omega)
    refine Ev.bind h4 ?_
    have ih := ZaK b hb r (pre ++ [x]) (bfs b v 200 (List.set o2 pre.length v) [(pre.length : Int)]) (v + 1) (by rw [← hpr]; simp) (by rw [ZgY, List.length_set]; exact h2) (by omega) (by simp; omega)
    rw [← Z4, hc] at ih
    show Ev (fun k => ZQ k b.1 b.2.1 b.2.2 (bfs b v 200 (List.set o2 pre.length v) [(pre.length : Int)]) (wrap64 (v + 1)) (pre ++ x :: r) ((pre ++ x :: r).length : Int) (wrap64 ((pre.length : Int) + 1))) _
    rw [w64 (n := v + 1) (by omega) (by omega), hn, hc]
    simp only [groupsFrom, hg, Int.toNat_natCast, hno, decide_true, Bool.and_self, if_true]
    exact ih
theorem Z8M (b : BoardD) (hb : boardOK b = true) : Ev (fun k => Z2R k b) (groupsOf b) := by
 obtain ⟨g1, g2, g3, g4, g5, g6⟩ := Zn hb
 have hp := Zu g1 g2 g3 g4
 have hm : b.2.2.length * 8 ≤ 281474976710656 := by omega
 refine Ev.succ ?_
 simp only [Z2R, Int.toNat_natCast, hm, if_true]
 refine Ev.bind (Zfd b _ (List.replicate b.2.2.length 0) [] rfl (by simp; omega)) ?_
 have hrep : ([] : List Int) ++ List.replicate (List.replicate b.2.2.length (0 : Int)).length (-1) = List.replicate b.2.2.length (-1) := by simp
 rw [hrep]
 exact Ev.bind (ZaK b hb b.2.2 [] (List.replicate b.2.2.length (-1)) 0 rfl (by simp) (by omega) (by simp)) (Ev.some _)
theorem ZiO (b : BoardD) (m : Int) : ∀ (r pre : List Int), m = ((pre ++ r).length : Int) → (pre ++ r).length ≤ 1000 → Ev (fun k => Z5s k b.1 b.2.1 b.2.2 (pre ++ r) m (pre.length : Int)) (b.1, b.2.1, b.2.2, pre ++ List.replicate r.length (-1))
 | [], pre, hm, hl => by
  refine Ev.succ ?_
  have : ¬ (pre.length : Int) < m := by rw [hm]; exact Zm pre
  simp only [Z5s, this, decide_false, Bool.false_eq_true, if_false]
  exact Ev.of (by simp)
 | x :: r, pre, hm, hl => by
  have ih := ZiO b m r (pre ++ [-1]) (by rw [hm]; simp) (by simpa using hl)
  have hlt : (pre.length : Int) < m := by rw [hm]; exact Zg _ _ _
  have hn2 : ((pre ++ [x]).length : Int) = ((pre ++ [(-1 : Int)]).length : Int) := by simp
  refine Ev.succ ?_
  simp only [Z5s, hlt, Zg, Zp, decide_true, if_true, Int.toNat_natCast, Zak]
  rw [Zb pre x r (by omega), hn2]
  rw [← Z4] at ih
  refine ih.congr ?_
  simp [List.replicate_succ]
theorem Zdw (b : BoardD) (hb : boardOK b = true) : ∀ (r pre : List CellD) (o2 : List Int) (v : Int), pre ++ r = b.2.2 → o2.length = b.2.2.length → 0 ≤ v → v ≤ pre.length → Ev (fun k => Z1P k b.1 b.2.1 b.2.2 o2 v (pre ++ r) ((pre ++ r).length : Int) (pre.length : Int)) (groupsFrom b pre.length r o2 v)
 | [], pre, o2, v, hpr, h2, hv, hv2 => by
  refine Ev.succ ?_
  simp only [Z1P, Zm, decide_false, Bool.false_eq_true, if_false]
  exact Ev.some _
 | x :: r, pre, o2, v, hpr, h2, hv, hv2 => by
  obtain ⟨g1, g2, g3, g4, g5, g6⟩ := Zn hb
  have hp := Zu g1 g2 g3 g4
  have hl90 : (pre ++ x :: r).length ≤ 90 := by rw [hpr]; omega
  have hn := Zb pre x r (by omega)
  have hc : ((pre ++ [x]).length : Int) = (pre.length : Int) + 1 := by simp
  have hlt := Zg pre x r
  have hlo : (pre.length : Int) < (o2.length : Int) := by rw [h2, ← hpr]; exact hlt
  have ih0 := Zdw b hb r (pre ++ [x]) o2 v (by rw [← hpr]; simp) h2 hv (by simp; omega)
  rw [← Z4, hc] at ih0
  refine Ev.succ ?_
  simp only [Z1P, Zg, Zp, decide_true, if_true, Int.toNat_natCast, Z7, hn, hc, hlo]
  refine Ev.bind (Zq9 x) ?_
  cases hg : geared x with
  | false =>
   simp only [Bool.not_false, if_true, groupsFrom, hg, Bool.false_and, Bool.false_eq_true, if_false]
   exact ih0
  | true =>
   simp only [Bool.not_true, Bool.false_eq_true, if_false]
   refine Ev.ite (fun h => ?_) (fun h => ?_)
   ·simp only [ge_iff_le, decide_eq_true_eq] at h
    have hno : ¬ List.getD o2 pre.length 0 < 0 := by omega
    simp only [groupsFrom, hg, Int.toNat_natCast, hno, decide_false, Bool.and_false, Bool.false_eq_true, if_false]
    exact ih0
   ·simp only [ge_iff_le, decide_eq_true_eq] at h
    have hno : List.getD o2 pre.length 0 < 0 := by omega
    have hul := ZDT (List.set o2 pre.length v)
    rw [List.length_set, h2, ← hpr] at hul
    have h4 := ZiC b hb v hv (pre ++ x :: r) ((pre ++ x :: r).length : Int) (pre.length : Int) 200 (List.set o2 pre.length v) [(pre.length : Int)] [] (fun m hm => by rw [List.mem_singleton.1 hm, ← hpr]; exact ⟨by omega, hlt⟩) (by rw [List.length_set]; exact h2) (by simp; omega) (by simp; omega)
    refine Ev.bind h4 ?_
    have ih := Zdw b hb r (pre ++ [x]) (bfs b v 200 (List.set o2 pre.length v) [(pre.length : Int)]) (v + 1) (by rw [← hpr]; simp) (by rw [ZgY, List.length_set]; exact h2) (by omega) (by simp; omega)
    rw [← Z4, hc] at ih
    show Ev (fun k => Z1P k b.1 b.2.1 b.2.2 (bfs b v 200 (List.set o2 pre.length v) [(pre.length : Int)]) (wrap64 (v + 1)) (pre ++ x :: r) ((pre ++ x :: r).length : Int) (wrap64 ((pre.length : Int) + 1))) _
    rw [w64 (n := v + 1) (by omega) (by omega), hn, hc]
    simp only [groupsFrom, hg, Int.toNat_natCast, hno, decide_true, Bool.and_self, if_true]
    exact ih
theorem ZfY (b : BoardD) (hb : boardOK b = true) : Ev (fun k => ZF k b) (groupsOf b) := by
 obtain ⟨g1, g2, g3, g4, g5, g6⟩ := Zn hb
 have hp := Zu g1 g2 g3 g4
 have hm : b.2.2.length * 8 ≤ 281474976710656 := by omega
 refine Ev.succ ?_
 simp only [ZF, Int.toNat_natCast, hm, if_true]
 refine Ev.bind (ZiO b _ (List.replicate b.2.2.length 0) [] rfl (by simp; omega)) ?_
 have hrep : ([] : List Int) ++ List.replicate (List.replicate b.2.2.length (0 : Int)).length (-1) = List.replicate b.2.2.length (-1) := by simp
 rw [hrep]
 exact Ev.bind (Zdw b hb b.2.2 [] (List.replicate b.2.2.length (-1)) 0 rfl (by simp) (by omega) (by simp)) (Ev.some _)
end Go.Proofs.Ytglkedenkcpcbaa.Vs

set_option linter.unusedVariables false
set_option linter.unusedSimpArgs false
namespace Go.Proofs.Ytglkedenkcpcbaa.Vs
open Go.RowKit
def fits (x : CellD) (kd : Int) : Bool := decide (kd = 2) || (decide (kd = 1) && turning x) || (decide (kd = 3) && (turning x || decide (x.1 = 1 ∨ x.1 = 2)))
def faultsOK (b : BoardD) : Int → List FaultD → Bool
 | _, [] => true
 | last, x :: r => decide (0 ≤ x.2.1 ∧ x.2.1 < b.1 ∧ 0 ≤ x.2.2 ∧ x.2.2 < b.2.1 ∧ last < x.2.1 * b.2.1 + x.2.2) && fits (List.getD b.2.2 (x.2.1 * b.2.1 + x.2.2).toNat (0, 0)) x.1 && faultsOK b (x.2.1 * b.2.1 + x.2.2) r
end Go.Proofs.Ytglkedenkcpcbaa.Vs

set_option linter.unusedVariables false
set_option linter.unusedSimpArgs false
namespace Go.Proofs.Ytglkedenkcpcbaa.Vs
open Go.RowKit
def placeOf (b : BoardD) (f : FaultD) : Int := f.2.1 * b.2.1 + f.2.2
def kindsOf (b : BoardD) (l : List FaultD) (K : List Int) : List Int := l.foldl (fun K f => List.set K (placeOf b f).toNat f.1) K
def faAtD (r c d : Int) : List FaultD → Int
 | [] => d
 | f :: l => if f.2.1 = r ∧ f.2.2 = c then f.1 else faAtD r c d l
theorem Ze1 {b : BoardD} {last : Int} {f : FaultD} {l : List FaultD} (h : faultsOK b last (f :: l) = true) : (0 ≤ f.2.1 ∧ f.2.1 < b.1 ∧ 0 ≤ f.2.2 ∧ f.2.2 < b.2.1 ∧ last < placeOf b f) ∧ faultsOK b (placeOf b f) l = true := by
 simp only [faultsOK, Bool.and_eq_true, decide_eq_true_eq] at h
 exact ⟨h.1.1, h.2⟩
theorem ZAA {b : BoardD} : ∀ {l : List FaultD} {last : Int}, faultsOK b last l = true → ∀ f ∈ l, 0 ≤ f.2.1 ∧ f.2.1 < b.1 ∧ 0 ≤ f.2.2 ∧ f.2.2 < b.2.1
 | [], _, _, f, hf => by cases hf
 | g :: l, last, h, f, hf => by
  obtain ⟨h1, h2⟩ := Ze1 h
  rcases List.mem_cons.1 hf with rfl | hf
  ·exact ⟨h1.1, h1.2.1, h1.2.2.1, h1.2.2.2.1⟩
  ·exact ZAA h2 f hf
theorem ZAa {C r c r' c' : Int} (h1 : 0 ≤ c) (h2 : c < C) (h3 : 0 ≤ c') (h4 : c' < C) (h : r * C + c = r' * C + c') : r = r' ∧ c = c' := by
 have key : ∀ {x y : Int}, x < y → x * C + C ≤ y * C := by
  intro x y hxy
  have := Int.mul_le_mul_of_nonneg_right (show x + 1 ≤ y by omega) (show 0 ≤ C by omega)
  rw [Int.add_mul, Int.one_mul] at this
  exact this
 rcases Int.lt_trichotomy r r' with hr | hr | hr
 ·have := key hr; omega
 ·subst hr; omega
 ·have := key hr; omega
theorem Zwq {b : BoardD} {r c : Int} (d : Int) : ∀ {l : List FaultD} {last : Int}, faultsOK b last l = true → r * b.2.1 + c ≤ last → faAtD r c d l = d
 | [], _, _, _ => rfl
 | f :: l, last, h, hp => by
  obtain ⟨h1, h2⟩ := Ze1 h
  unfold placeOf at h1 h2
  simp only [faAtD]
  rw [if_neg (by rintro ⟨rfl, rfl⟩; omega)]
  exact Zwq d h2 (by omega)
theorem Ze3 {α : Type} (l : List α) (i j : Nat) (x d : α) (hi : i < l.length) : List.getD (List.set l i x) j d = if i = j then x else List.getD l j d := by
 simp only [List.getD, List.getElem?_set]
 by_cases h : i = j
 ·subst h; simp [hi]
 ·simp [h]
theorem ZxZ {b : BoardD} (hb : boardOK b = true) {r c : Int} (h1 : 0 ≤ r) (h2 : r < b.1) (h3 : 0 ≤ c) (h4 : c < b.2.1) : ∀ {l : List FaultD} {last : Int} {K : List Int}, faultsOK b last l = true → K.length = b.2.2.length → List.getD (kindsOf b l K) (r * b.2.1 + c).toNat 0 = faAtD r c (List.getD K (r * b.2.1 + c).toNat 0) l
 | [], _, _, _, _ => rfl
 | f :: l, last, K, h, hK => by
  obtain ⟨g1, g2⟩ := Ze1 h
  have hp := ZgW hb h1 h2 h3 h4
  have hf := ZgW hb g1.1 g1.2.1 g1.2.2.1 g1.2.2.2.1
  show List.getD (kindsOf b l (List.set K (placeOf b f).toNat f.1)) _ 0 = _
  rw [ZxZ hb h1 h2 h3 h4 g2 (by rw [List.length_set]; exact hK)]
  rw [Ze3 _ _ _ _ _ (by unfold placeOf; omega)]
  simp only [faAtD]
  by_cases hm : f.2.1 = r ∧ f.2.2 = c
  ·rw [if_pos hm, if_pos (by unfold placeOf; rw [hm.1, hm.2])]
   exact Zwq _ g2 (by unfold placeOf; rw [hm.1, hm.2]; omega)
  ·rw [if_neg hm, if_neg (fun he => hm (ZAa g1.2.2.1 g1.2.2.2.1 h3 h4 (by unfold placeOf at he; omega)))]
def kindsB (b : BoardD) (l : List FaultD) : List Int := kindsOf b l (List.replicate b.2.2.length 0)
def flip1 (x : CellD) : CellD := (x.1, 1 - x.2)
def turnGo (G K : List Int) (at' : Nat) (ka : Int) : Nat → List CellD → List CellD
 | _, [] => []
 | i, x :: r => (if (i = at' ∨ (ka = 6 ∧ x.1 = 6 ∧ List.getD G i 0 = List.getD G at' 0)) ∧ List.getD K i 0 ≠ 1 then flip1 x else x) :: turnGo G K at' ka (i + 1) r
def passGo (G : List Int) (ga : Int) : Nat → List CellD → List CellD
 | _, [] => []
 | i, x :: r => (if x.1 = 6 ∧ List.getD G i 0 = ga then flip1 x else x) :: passGo G ga (i + 1) r
theorem ZeM {x : CellD} (h : cellOK x = true) : 0 ≤ x.1 ∧ x.1 ≤ 7 ∧ (x.2 = 0 ∨ x.2 = 1) := by
 unfold cellOK at h
 simp only [decide_eq_true_eq] at h
 omega
def turnAt (G K : List Int) (at' : Nat) (o : List CellD) : List CellD := turnGo G K at' (List.getD o at' (0, 0)).1 0 o
theorem Zqc (x : CellD) (h : cellOK x = true) : Ev (fun k => Z5D k x) (flip1 x) := by
 obtain ⟨c1, c2, c3⟩ := ZeM h
 refine Ev.succ ?_
 simp only [Z5D]
 rw [w64 (n := 1 - x.2) (by omega) (by omega)]
 exact Ev.some _
theorem Zlh (R C : Int) (G : List Int) (at' : Nat) : ∀ (r pre : List CellD), (pre ++ r).length ≤ 1000 → at' < (pre ++ r).length → G.length = (pre ++ r).length → (∀ x ∈ r, cellOK x = true) →
    Ev (fun k => Z2X k (pre ++ r) R C G (at' : Int) ((pre ++ r).length : Int) (pre.length : Int)) (pre ++ passGo G (List.getD G at' 0) pre.length r)
  | [], pre, hl, ha, hG, hx => by
    refine Ev.succ ?_
    simp only [Z2X, Zm, decide_false, Bool.false_eq_true, if_false, passGo]
    exact Ev.some _
  | x :: r, pre, hl, ha, hG, hx => by
    have hn := Zb pre x r (by omega)
    have hlt := Zg pre x r
    have hGl : (pre.length : Int) < (G.length : Int) := by rw [hG]; exact hlt
    have ha0 : (0 : Int) ≤ (at' : Int) := Int.natCast_nonneg _
    have ha1 : (at' : Int) < ((pre ++ x :: r).length : Int) := by omega
    have haG : (at' : Int) < (G.length : Int) := by rw [hG]; exact ha1
    have hr' : ∀ y ∈ r, cellOK y = true := fun y hy => hx y (List.mem_cons_of_mem _ hy)
    have next : ∀ y : CellD, Ev (fun k => Z2X k (pre ++ y :: r) R C G (at' : Int) ((pre ++ x :: r).length : Int) ((pre ++ [x]).length : Int)) (pre ++ y :: passGo G (List.getD G at' 0) (pre.length + 1) r) := by
      intro y
      have ih := Zlh R C G at' r (pre ++ [y]) (by simpa using hl) (by simpa using ha) (by simpa using hG) hr'
      have e1 : ((pre ++ [y] ++ r).length : Int) = ((pre ++ x :: r).length : Int) := by simp
      have e2 : ((pre ++ [y]).length : Int) = ((pre ++ [x]).length : Int) := by simp
      have e3 : (pre ++ [y]).length = pre.length + 1 := by simp
      rw [e1, e2, e3, ← Z4, ← Z4] at ih
      exact ih
    refine Ev.succ ?_
    simp only [Z2X, Zg, Zp, decide_true, if_true, Int.toNat_natCast, Z7, Zak, hn, hGl, ha0, haG]
    simp only [passGo]
    refine Ev.ite (fun h1 => Ev.ite (fun h2 => ?_) (fun h2 => ?_)) (fun h1 => ?_)
    · simp only [decide_eq_true_eq] at h1 h2
      rw [if_pos ⟨h1, h2⟩]
      exact Ev.bind (Zqc x (hx x (List.mem_cons_self ..))) (next (flip1 x))
    · simp only [decide_eq_true_eq] at h2
      rw [if_neg (fun hc => h2 hc.2)]
      exact next x
    · simp only [decide_eq_true_eq] at h1
      rw [if_neg (fun hc => h1 hc.1)]
      exact next x
def passAt (G : List Int) (at' : Nat) (o : List CellD) : List CellD := if (List.getD o at' (0, 0)).1 = 3 then List.set o at' (flip1 (List.getD o at' (0, 0))) else if (List.getD o at' (0, 0)).1 = 6 then passGo G (List.getD G at' 0) 0 o else o
theorem ZBP (R C : Int) (o : List CellD) (G : List Int) (at' : Nat) (hl : o.length ≤ 1000) (ha : at' < o.length) (hG : G.length = o.length) (hx : ∀ x ∈ o, cellOK x = true) : Ev (fun k => ZbE k (R, C, o) G (at' : Int)) (passAt G at' o) := by
 have ha0 : (0 : Int) ≤ (at' : Int) := Int.natCast_nonneg _
 have ha1 : (at' : Int) < (o.length : Int) := by omega
 refine Ev.succ ?_
 simp only [ZbE, ha0, ha1, if_true, Int.toNat_natCast]
 unfold passAt
 refine Ev.ite (fun h1 => ?_) (fun h1 => Ev.ite (fun h2 => ?_) (fun h2 => ?_))
 ·simp only [decide_eq_true_eq] at h1
  rw [if_pos h1]
  exact Ev.bind (Zqc _ (hx _ (Z8c ha0 ha1 _))) (Ev.some _)
 ·simp only [decide_eq_true_eq] at h1 h2
  rw [if_neg h1, if_pos h2]
  exact Ev.bind (Zlh R C G at' o [] hl ha hG hx) (Ev.some _)
 ·simp only [decide_eq_true_eq] at h1 h2
  rw [if_neg h1, if_neg h2]
  exact Ev.some _
theorem ZpT (G K : List Int) (at' : Nat) (ka : Int) : ∀ (l : List CellD) (i : Nat), (turnGo G K at' ka i l).length = l.length
 | [], _ => rfl
 | x :: r, i => by simp [turnGo, ZpT G K at' ka r]
theorem ZyN (G : List Int) (ga : Int) : ∀ (l : List CellD) (i : Nat), (passGo G ga i l).length = l.length
 | [], _ => rfl
 | x :: r, i => by simp [passGo, ZyN G ga r]
theorem ZcK (G K : List Int) (at' : Nat) (ka : Int) : ∀ (l : List CellD) (j i : Nat), (turnGo G K at' ka j l)[i]? = l[i]?.map fun x => if (j + i = at' ∨ (ka = 6 ∧ x.1 = 6 ∧ List.getD G (j + i) 0 = List.getD G at' 0)) ∧ List.getD K (j + i) 0 ≠ 1 then flip1 x else x
 | [], _, i => by simp [turnGo]
 | x :: r, j, 0 => by simp [turnGo]
 | x :: r, j, i + 1 => by
  simp only [turnGo, List.getElem?_cons_succ]
  rw [ZcK G K at' ka r (j + 1) i, show j + 1 + i = j + (i + 1) by omega]
theorem ZAp (G : List Int) (ga : Int) : ∀ (l : List CellD) (j i : Nat), (passGo G ga j l)[i]? = l[i]?.map fun x => if x.1 = 6 ∧ List.getD G (j + i) 0 = ga then flip1 x else x
 | [], _, i => by simp [passGo]
 | x :: r, j, 0 => by simp [passGo]
 | x :: r, j, i + 1 => by
  simp only [passGo, List.getElem?_cons_succ]
  rw [ZAp G ga r (j + 1) i, show j + 1 + i = j + (i + 1) by omega]
def restore (b : BoardD) (l : List FaultD) (o : List CellD) : List CellD := l.foldl (fun o f => if f.1 = 1 then List.set o (placeOf b f).toNat (List.getD b.2.2 (placeOf b f).toNat (0, 0)) else o) o
theorem Zw4 (b : BoardD) : ∀ (l : List FaultD) (o : List CellD), (restore b l o).length = o.length
 | [], _ => rfl
 | f :: l, o => by
  show (restore b l (if f.1 = 1 then _ else _)).length = _
  rw [Zw4 b l]
  split <;> simp
theorem ZpH (b : BoardD) : ∀ (l : List FaultD) (o : List CellD) (i : Nat), i < o.length → (restore b l o)[i]? = if ∃ f ∈ l, f.1 = 1 ∧ (placeOf b f).toNat = i then some (List.getD b.2.2 i (0, 0)) else o[i]?
  | [], o, i, hi => by rw [if_neg (by rintro ⟨f, hf, _⟩; cases hf)]; rfl
  | f :: l, o, i, hi => by
    show (restore b l (if f.1 = 1 then _ else _))[i]? = _
    by_cases hf : f.1 = 1
    · rw [if_pos hf, ZpH b l _ i (by rw [List.length_set]; exact hi)]
      by_cases h : ∃ g ∈ l, g.1 = 1 ∧ (placeOf b g).toNat = i
      · rw [if_pos h]
        obtain ⟨g, hg, h2⟩ := h
        rw [if_pos ⟨g, List.mem_cons_of_mem _ hg, h2⟩]
      · rw [if_neg h]
        by_cases hp : (placeOf b f).toNat = i
        · rw [if_pos ⟨f, List.mem_cons_self .., hf, hp⟩, hp, List.getElem?_set_self hi]
        · rw [List.getElem?_set_ne hp, if_neg (by
            rintro ⟨g, hg, h2, h3⟩
            rcases List.mem_cons.1 hg with rfl | hg
            · exact hp h3
            · exact h ⟨g, hg, h2, h3⟩)]
    · rw [if_neg hf, ZpH b l o i hi]
      by_cases h : ∃ g ∈ l, g.1 = 1 ∧ (placeOf b g).toNat = i
      · rw [if_pos h]
        obtain ⟨g, hg, h2⟩ := h
        rw [if_pos ⟨g, List.mem_cons_of_mem _ hg, h2⟩]
      · rw [if_neg h, if_neg (by
            rintro ⟨g, hg, h2, h3⟩
            rcases List.mem_cons.1 hg with rfl | hg
            · exact hf h2
            · exact h ⟨g, hg, h2, h3⟩)]
theorem ZAb {r c : Int} : ∀ {l : List FaultD} {f : FaultD}, f ∈ l → f.2.1 = r → f.2.2 = c → ∀ {b : BoardD} {last : Int}, faultsOK b last l = true → faAtD r c 0 l = f.1
 | g :: l, f, hf, h1, h2, b, last, hok => by
  obtain ⟨k1, k2⟩ := Ze1 hok
  simp only [faAtD]
  rcases List.mem_cons.1 hf with rfl | hf
  ·rw [if_pos ⟨h1, h2⟩]
  ·have hno : ¬ (g.2.1 = r ∧ g.2.2 = c) := by
    rintro ⟨e1, e2⟩
    have key : ∀ {l : List FaultD} {last : Int}, faultsOK b last l = true → ∀ f ∈ l, last < placeOf b f := by
     intro l
     induction l with
     | nil => intro last _ f hf; cases hf
     | cons g l ih =>
      intro last h f hf
      obtain ⟨a1, a2⟩ := Ze1 h
      rcases List.mem_cons.1 hf with rfl | hf
      ·exact a1.2.2.2.2
      ·have := ih a2 f hf; omega
    have := key k2 f hf
    unfold placeOf at this
    rw [h1, h2, e1, e2] at this
    omega
   rw [if_neg hno]
   exact ZAb hf h1 h2 k2
theorem ZAi {r c : Int} : ∀ {l : List FaultD}, faAtD r c 0 l = 1 → ∃ f ∈ l, f.1 = 1 ∧ f.2.1 = r ∧ f.2.2 = c
 | [], h => by simp [faAtD] at h
 | f :: l, h => by
  simp only [faAtD] at h
  split at h
  ·rename_i hm
   exact ⟨f, List.mem_cons_self .., h, hm.1, hm.2⟩
  ·obtain ⟨g, hg, h2⟩ := ZAi h
   exact ⟨g, List.mem_cons_of_mem _ hg, h2⟩
theorem ZEz {b : BoardD} (hb : boardOK b = true) {l : List FaultD} (hl : faultsOK b (-1) l = true) {i : Nat} (hi : i < b.2.2.length) : List.getD (kindsB b l) i 0 = 1 ↔ ∃ f ∈ l, f.1 = 1 ∧ (placeOf b f).toNat = i := by
 obtain ⟨q, m, t, hq, hm, k1, k2, k3, k4, k5, k6, k7, k8, k9⟩ := Zhd hb (i := (i : Int)) (by omega) (by omega)
 have hC : 0 < b.2.1 := by omega
 have e0 : Int.tdiv (i : Int) b.2.1 = (i : Int) / b.2.1 := Int.tdiv_eq_ediv_of_nonneg (by omega)
 have e1 : Int.tmod (i : Int) b.2.1 = (i : Int) % b.2.1 := Int.tmod_eq_emod_of_nonneg (by omega)
 have e2 := Int.mul_ediv_add_emod (i : Int) b.2.1
 rw [← e0, ← e1, hq, hm] at e2
 have hi2 : (i : Int) = q * b.2.1 + m := by rw [Int.mul_comm]; omega
 have hi3 : i = (q * b.2.1 + m).toNat := by omega
 have hk : List.getD (kindsB b l) i 0 = faAtD q m 0 l := by
  unfold kindsB
  rw [hi3, ZxZ hb k4 k5 k2 k3 hl (by simp)]
  congr 1
  simp only [List.getD, List.getElem?_replicate]
  split <;> rfl
 rw [hk]
 constructor
 ·intro h
  obtain ⟨f, hf, h1, h2, h3⟩ := ZAi h
  exact ⟨f, hf, h1, by unfold placeOf; rw [h2, h3]; exact hi3.symm⟩
 ·rintro ⟨f, hf, h1, h2⟩
  obtain ⟨o1, o2, o3, o4⟩ := ZAA hl f hf
  have hp := ZgW hb o1 o2 o3 o4
  have := ZAa o3 o4 k2 k3 (show f.2.1 * b.2.1 + f.2.2 = q * b.2.1 + m by unfold placeOf at h2; omega)
  rw [ZAb hf this.1 this.2 hl, h1]
def stepAt (G K : List Int) (at' : Nat) (o : List CellD) : List CellD := if turning (List.getD o at' (0, 0)) then turnAt G K at' o else o
theorem ZCw {b : BoardD} (hb : boardOK b = true) {l : List FaultD} (hl : faultsOK b (-1) l = true) (G : List Int) {at' : Nat} {o : List CellD} (ho : o.length = b.2.2.length) (ha : at' < o.length) (hs : ∀ i, i < o.length → List.getD (kindsB b l) i 0 = 1 → o[i]? = some (List.getD b.2.2 i (0, 0))) :
    restore b l (passAt G at' o) = stepAt G (kindsB b l) at' o := by
  have hpl : (passAt G at' o).length = o.length := by
    unfold passAt; split
    · simp
    · split
      · exact ZyN _ _ _ _
      · rfl
  apply List.ext_getElem?
  intro i
  rcases Nat.lt_or_ge i o.length with hi | hi
  · rw [ZpH b l _ i (by rw [hpl]; exact hi)]
    have hst := ZEz hb hl (i := i) (by omega)
    have hox : o[i]? = some o[i] := List.getElem?_eq_getElem hi
    have hax : List.getD o at' (0, 0) = o[at'] := by simp [List.getD, List.getElem?_eq_getElem ha]
    by_cases hk : List.getD (kindsB b l) i 0 = 1
    · rw [if_pos (hst.1 hk), ← hs i hi hk]
      unfold stepAt turnAt
      split
      · rw [ZcK, hox, Option.map_some, if_neg (fun hc => hc.2 (by rw [Nat.zero_add]; exact hk))]
      · rfl
    · rw [if_neg (fun h => hk (hst.2 h))]
      unfold stepAt turnAt passAt turning
      rw [hax]
      by_cases h3 : (o[at']).1 = 3
      · simp only [h3, true_or, decide_true, if_true]
        rw [ZcK, hox, Option.map_some, Nat.zero_add]
        by_cases hia : at' = i
        · subst hia
          rw [List.getElem?_set_self hi, if_pos ⟨.inl rfl, hk⟩]
        · have hno : ¬ ((i = at' ∨ ((3 : Int) = 6 ∧ (o[i]).1 = 6 ∧ List.getD G i 0 = List.getD G at' 0)) ∧ List.getD (kindsB b l) i 0 ≠ 1) := by
            rintro ⟨h | ⟨h, _⟩, _⟩
            · exact hia h.symm
            · omega
          rw [List.getElem?_set_ne hia, hox, if_neg hno]
      · by_cases h6 : (o[at']).1 = 6
        · have h36 : ¬ (6 : Int) = 3 := by omega
          simp only [h6, h36, or_true, decide_true, if_true, if_false]
          rw [ZcK, ZAp, hox, Option.map_some, Option.map_some, Nat.zero_add]
          congr 1
          by_cases hc : (o[i]).1 = 6 ∧ List.getD G i 0 = List.getD G at' 0
          · rw [if_pos hc, if_pos ⟨.inr ⟨rfl, hc⟩, hk⟩]
          · rw [if_neg hc, if_neg (by
              rintro ⟨h | ⟨_, h⟩, _⟩
              · subst h; exact hc ⟨h6, rfl⟩
              · exact hc h)]
        · simp only [h3, h6, or_self, decide_false, Bool.false_eq_true, if_false]
  · rw [List.getElem?_eq_none (by rw [Zw4, hpl]; exact hi), List.getElem?_eq_none ?_]
    unfold stepAt turnAt
    split
    · rw [ZpT]; exact hi
    · exact hi
end Go.Proofs.Ytglkedenkcpcbaa.Vs

set_option linter.unusedVariables false
set_option linter.unusedSimpArgs false
namespace Go.Proofs.Ytglkedenkcpcbaa.Vs
open Go.RowKit
abbrev FallD := Int × Int × Int
def goesOf (x : CellD) (side : Int) : Int := if x.1 = 1 then -1 else if x.1 = 2 then 1 else if x.1 = 3 then 2 * x.2 - 1 else if x.1 = 6 then 2 * x.2 - 1 else if x.1 = 4 then 0 - side else 0
theorem ZAf {x : CellD} (hx : cellOK x = true) {side : Int} (h1 : -1 ≤ side) (h2 : side ≤ 1) : -1 ≤ goesOf x side ∧ goesOf x side ≤ 1 := by
 obtain ⟨c1, c2, c3⟩ := ZeM hx
 unfold goesOf
 repeat' split
 all_goals omega
theorem ZBE (x : CellD) (side : Int) (hx : cellOK x = true) (h1 : -1 ≤ side) (h2 : side ≤ 1) : Ev (fun k => Zel k x side) (if x.1 = 5 then (0, false) else (goesOf x side, true)) := by
 obtain ⟨c1, c2, c3⟩ := ZeM hx
 have n1 : ¬ side < -1 := by omega
 have n2 : ¬ side > 1 := by omega
 refine Ev.succ ?_
 simp only [Zel]
 refine Ev.bind (Zqz x) ?_
 simp only [hx, Bool.not_true, Bool.false_eq_true, if_false, n1, n2, decide_false]
 rw [w64 (n := 2 * x.2) (by omega) (by omega), w64 (n := 2 * x.2 - 1) (by omega) (by omega), w64 (n := 0 - side) (by omega) (by omega)]
 refine Ev.of ?_
 unfold goesOf
 by_cases a5 : x.1 = 5
 ·simp [a5]
 ·by_cases a1 : x.1 = 1 <;> by_cases a2 : x.1 = 2 <;> by_cases a3 : x.1 = 3 <;> by_cases a6 : x.1 = 6 <;> by_cases a4 : x.1 = 4 <;> simp [a1, a2, a3, a4, a5, a6]
theorem ZBD (x : CellD) (side : Int) (hx : cellOK x = true) (h1 : -1 ≤ side) (h2 : side ≤ 1) : Ev (fun k => ZbC k x side) (goesOf x side) := by
 obtain ⟨c1, c2, c3⟩ := ZeM hx
 refine Ev.succ ?_
 simp only [ZbC]
 rw [w64 (n := 2 * x.2) (by omega) (by omega), w64 (n := 2 * x.2 - 1) (by omega) (by omega), w64 (n := 0 - side) (by omega) (by omega)]
 refine Ev.of ?_
 unfold goesOf
 by_cases a1 : x.1 = 1 <;> by_cases a2 : x.1 = 2 <;> by_cases a3 : x.1 = 3 <;> by_cases a6 : x.1 = 6 <;> by_cases a4 : x.1 = 4 <;> simp [a1, a2, a3, a4, a6]
theorem ZF0 {x : CellD} (hx : cellOK x = true) (h : x.1 = 3 ∨ x.1 = 6) : cellOK (flip1 x) = true := by
 obtain ⟨c1, c2, c3⟩ := ZeM hx
 unfold cellOK flip1
 simp only [decide_eq_true_eq]
 omega
theorem ZFz {α : Type} {l : List α} {x : α} (h : x ∈ l) : ∃ i : Nat, l[i]? = some x := List.getElem?_of_mem h
theorem Zd5 (G K : List Int) (at' : Nat) (o : List CellD) : (stepAt G K at' o).length = o.length := by
 unfold stepAt turnAt
 split
 ·exact ZpT _ _ _ _ _ _
 ·rfl
theorem Zlq (G K : List Int) {at' : Nat} {o : List CellD} (hx : ∀ x ∈ o, cellOK x = true) : ∀ x ∈ stepAt G K at' o, cellOK x = true := by
 unfold stepAt turnAt
 split
 ·rename_i ht
  unfold turning at ht
  simp only [decide_eq_true_eq] at ht
  intro y hy
  obtain ⟨i, hi⟩ := ZFz hy
  rw [ZcK] at hi
  obtain ⟨x, h1, h2⟩ := Option.map_eq_some_iff.1 hi
  have hxo := hx x (List.mem_of_getElem? h1)
  split at h2
  ·rename_i hc
   rw [← h2]
   refine ZF0 hxo ?_
   rcases hc.1 with h | ⟨_, h, _⟩
   ·rw [Nat.zero_add] at h
    subst h
    simpa [List.getD, h1] using ht
   ·exact .inr h
  ·rw [← h2]; exact hxo
 ·exact hx
def fallL (b : BoardD) (G K : List Int) : Nat → Int → Int → Int → List CellD → LR (Int × List CellD) (FallD × List CellD)
 | 0, _, col, _, o => .go (col, o)
 | n + 1, row, col, side, o =>
  let at' := (row * b.2.1 + col).toNat
  let x := List.getD o at' (0, 0)
  if List.getD K at' 0 = 2 then .ret ((3, row, col), o)
  else if x.1 = 5 then .ret ((2, row, col), o)
  else
   let g := if List.getD K at' 0 = 3 then 0 - goesOf x side else goesOf x side
   if 0 ≤ col + g ∧ col + g < b.2.1 then fallL b G K n (row + 1) (col + g) (0 - g) (stepAt G K at' o) else .ret ((3, row, col + g), stepAt G K at' o)
def LR.map2 {Z R Z' R' : Type} (f : Z → Z') (g : R → R') : LR Z R → LR Z' R'
 | .go z => .go (f z) | .ret r => .ret (g r)
def fallEnd (b : BoardD) (z : LR (Int × List CellD) (FallD × List CellD)) : FallD × List CellD := match z with
 | .go z => ((1, b.1, z.1), z.2)
 | .ret r => r
def fallOf (b : BoardD) (G K : List Int) (col : Int) (o : List CellD) : FallD × List CellD := fallEnd b (fallL b G K b.1.toNat 0 col 0 o)
theorem Zfr (b : BoardD) (h : b.2.2.length ≤ 1000000) : Ev (fun k => Z58 k b) b := by
 refine Ev.succ ?_
 simp only [Z58, Z7k]
 have : 0 + b.2.2.length ≤ 140737488355328 / 16 := by omega
 simp only [this, if_true]
 exact Ev.some _
theorem Zb5 (b : BoardD) (h : b.2.2.length ≤ 1000000) : Ev (fun k => Z4p k b) b := by
 refine Ev.succ ?_
 simp only [Z4p, Z43]
 have : 0 + b.2.2.length ≤ 140737488355328 / 16 := by omega
 simp only [this, if_true]
 exact Ev.some _
theorem Zzu (b : BoardD) (hb : boardOK b = true) (o : List CellD) (ho : o.length = b.2.2.length) {r c : Int} (h1 : 0 ≤ r) (h2 : r < b.1) (h3 : 0 ≤ c) (h4 : c < b.2.1) : Ev (fun k => Zha k (b.1, b.2.1, o) r c) (List.getD o (r * b.2.1 + c).toNat (0, 0)) := by
 have hp := ZgW hb h1 h2 h3 h4
 have hpo : r * b.2.1 + c < (o.length : Int) := by omega
 refine Ev.succ ?_
 simp only [Zha]
 rw [w64 (n := r * b.2.1) (by omega) (by omega), w64 (n := r * b.2.1 + c) (by omega) (by omega)]
 simp only [hp.1, hpo, if_true]
 exact Ev.some _
end Go.Proofs.Ytglkedenkcpcbaa.Vs

set_option linter.unusedVariables false
set_option linter.unusedSimpArgs false
namespace Go.Proofs.Ytglkedenkcpcbaa.Vs
open Go.RowKit
end Go.Proofs.Ytglkedenkcpcbaa.Vs

set_option linter.unusedVariables false
set_option linter.unusedSimpArgs false
namespace Go.Proofs.Ytglkedenkcpcbaa.Vs
open Go.RowKit
abbrev FallT := Int × Int × Int
theorem ZiA (b : BoardD) (c : Int) (hl : b.2.2.length ≤ 9223372036854775806) : Ev (fun k => Z7K k b c) (boardOK b && decide (0 ≤ c ∧ c < b.2.1)) := by
 refine Ev.succ ?_
 simp only [Z7K]
 refine Ev.bind (Zaz b hl) ?_
 cases hb : boardOK b with
 | false => simp only [Bool.false_eq_true, if_false, Bool.false_and]; exact Ev.some _
 | true =>
  simp only [if_true, Bool.true_and]
  refine Ev.of ?_
  by_cases h1 : c ≥ 0 <;> by_cases h2 : c < b.2.1 <;> simp [h1, h2]
  all_goals omega
theorem ZCh (b : BoardD) (c : Int) (hl : b.2.2.length ≤ 9223372036854775806) : Ev (fun k => ZfV k b c) (boardOK b && decide (0 ≤ c ∧ c < b.2.1)) := by
 refine Ev.succ ?_
 simp only [ZfV]
 refine Ev.bind (ZhX b hl) ?_
 cases hb : boardOK b with
 | false => simp only [Bool.false_eq_true, if_false, Bool.false_and]; exact Ev.some _
 | true =>
  obtain ⟨g1, g2, g3, g4, g5, g6⟩ := Zn hb
  simp only [if_true, Bool.true_and]
  rw [w64 (n := b.2.1 - 1) (by omega) (by omega)]
  refine Ev.bind (Z9K _ _ _) (Ev.of ?_)
  have : (0 ≤ c ∧ c ≤ b.2.1 - 1) ↔ (0 ≤ c ∧ c < b.2.1) := by omega
  simp only [this]
def faRunOf (b : BoardD) (l : List FaultD) (c : Int) : FallT × BoardD := ((fallOf b (groupsOf b) (kindsB b l) c b.2.2).1, b.1, b.2.1, (fallOf b (groupsOf b) (kindsB b l) c b.2.2).2)
theorem Zlu (b : BoardD) (G K : List Int) : ∀ (n : Nat) (row col side : Int) (o : List CellD), (fallEnd b (fallL b G K n row col side o)).2.length = o.length
 | 0, _, _, _, _ => rfl
 | n + 1, row, col, side, o => by
  unfold fallL
  dsimp only
  repeat' split
  all_goals first | rfl | (rw [Zlu]; exact Zd5 _ _ _ _) | exact Zd5 _ _ _ _
end Go.Proofs.Ytglkedenkcpcbaa.Vs

set_option linter.unusedVariables false
set_option linter.unusedSimpArgs false
namespace Go.Proofs.Ytglkedenkcpcbaa.Vs
open Go.RowKit
theorem ZtL (G K : List Int) (at' : Nat) (o : List CellD) : (stepAt G K at' o).map Prod.fst = o.map Prod.fst := by
 unfold stepAt turnAt
 split
 ·apply List.ext_getElem?
  intro i
  simp only [List.getElem?_map, ZcK]
  cases o[i]? with
  | none => rfl
  | some x =>
   simp only [Option.map_some]
   split <;> simp [flip1]
 ·rfl
theorem Zm1 (b : BoardD) (G K : List Int) : ∀ (n : Nat) (row col side : Int) (o : List CellD), (∀ x ∈ o, cellOK x = true) → (∀ x ∈ (fallEnd b (fallL b G K n row col side o)).2, cellOK x = true) ∧ (fallEnd b (fallL b G K n row col side o)).2.map Prod.fst = o.map Prod.fst
 | 0, _, _, _, o, hx => ⟨hx, rfl⟩
 | n + 1, row, col, side, o, hx => by
  have h1 := Zm1 b G K n (row + 1)
  unfold fallL
  dsimp only
  have h2 := Zlq G K (at' := (row * b.2.1 + col).toNat) hx
  have h3 := ZtL G K (row * b.2.1 + col).toNat o
  repeat' split
  all_goals first | exact ⟨hx, rfl⟩ | exact ⟨h2, h3⟩ | exact ⟨(h1 _ _ _ h2).1, (h1 _ _ _ h2).2.trans h3⟩
theorem Zkt (b : BoardD) (G K : List Int) (c : Int) {o : List CellD} (hx : ∀ x ∈ o, cellOK x = true) : ∀ x ∈ (fallOf b G K c o).2, cellOK x = true := (Zm1 b G K _ _ _ _ o hx).1
theorem ZCo (b : BoardD) (G K : List Int) (c : Int) {o : List CellD} (hx : ∀ x ∈ o, cellOK x = true) : (fallOf b G K c o).2.map Prod.fst = o.map Prod.fst := (Zm1 b G K _ _ _ _ o hx).2
theorem Zyi {b b' : BoardD} (h : b.2.1 = b'.2.1) (G K : List Int) : ∀ (n : Nat) (row col side : Int) (o : List CellD), fallL b G K n row col side o = fallL b' G K n row col side o
 | 0, _, _, _, _ => rfl
 | n + 1, row, col, side, o => by simp only [fallL, h, Zyi h G K n]
theorem ZdM {b b' : BoardD} (h1 : b.1 = b'.1) (h2 : b.2.1 = b'.2.1) (G K : List Int) (c : Int) (o : List CellD) : fallOf b G K c o = fallOf b' G K c o := by
 have : fallEnd b = fallEnd b' := by funext z; cases z <;> simp [fallEnd, h1]
 unfold fallOf
 rw [this, Zyi h2, h1]
theorem Ze4 {b b' : BoardD} (h : b.2.1 = b'.2.1) (hl : b.2.2.length = b'.2.2.length) (l : List FaultD) : kindsB b l = kindsB b' l := by simp only [kindsB, kindsOf, placeOf, h, hl]
theorem ZlQ {o o' : List CellD} (h : o.map Prod.fst = o'.map Prod.fst) (i : Nat) : (List.getD o i (0, 0)).1 = (List.getD o' i (0, 0)).1 := by
 have := congrArg (fun l => l[i]?) h
 simp only [List.getElem?_map] at this
 simp only [List.getD]
 cases h1 : o[i]? <;> cases h2 : o'[i]? <;> simp [h1, h2] at this ⊢
 exact this
theorem ZwR {b : BoardD} (hb : boardOK b = true) {o : List CellD} (ho : o.length = b.2.2.length) (hx : ∀ x ∈ o, cellOK x = true) : boardOK (b.1, b.2.1, o) = true := by
 obtain ⟨g1, g2, g3, g4, g5, g6⟩ := Zn hb
 unfold boardOK
 have : (o.length : Int) = b.1 * b.2.1 := by omega
 simp only [g1, g2, g3, g4, this, and_self, decide_true, Bool.true_and]
 exact List.all_eq_true.2 hx
def runsOf (b : BoardD) (G K : List Int) : List Int → List CellD → List FallD × List CellD
 | [], o => ([], o)
 | c :: r, o => ((fallOf b G K c o).1 :: (runsOf b G K r (fallOf b G K c o).2).1, (runsOf b G K r (fallOf b G K c o).2).2)
def colsOK (b : BoardD) (l : List Int) : Prop := ∀ c ∈ l, 0 ≤ c ∧ c < b.2.1
theorem ZiY (b : BoardD) (i : Nat) : List.getD (kindsB b []) i 0 = 0 := by
 show List.getD (List.replicate b.2.2.length (0 : Int)) i 0 = 0
 simp only [List.getD, List.getElem?_replicate]
 split <;> rfl
theorem ZAg {b : BoardD} (hb : boardOK b = true) (G : List Int) {at' : Nat} {o : List CellD} (ho : o.length = b.2.2.length) (ha : at' < o.length) : passAt G at' o = stepAt G (kindsB b []) at' o :=
 ZCw (l := []) hb rfl G ho ha (fun i _ h => by rw [ZiY] at h; cases h)
theorem Zqt (b : BoardD) (hb : boardOK b = true) (G : List Int) (hG : G.length = b.2.2.length) (d1 d2 d3 d4 d5 : Int) (o4 : List CellD) : ∀ (n : Nat) (row col side : Int) (o : List CellD) (q : List (List Int)), row + n = b.1 → 0 ≤ row → 0 ≤ col → col < b.2.1 → -1 ≤ side → side ≤ 1 → o.length = b.2.2.length → (∀ x ∈ o, cellOK x = true) → (q.length : Int) = row →
    ∃ p, Ev (fun k => Z5A k b.1 b.2.1 b.2.2 d1 d2 d3 d4 d5 o4 b.1 b.2.1 o q G col side row) ((fallL b G (kindsB b []) n row col side o).map2 (fun z => (b.1, b.2.1, b.2.2, d1, d2, d3, d4, d5, o4, b.1, b.2.1, z.2, p, z.1)) (fun r => (r.1, (b.1, b.2.1, r.2), p)))
  | 0, row, col, side, o, q, hn, hr, hc, hc2, hs, hs2, ho, hx, hq => by
    refine ⟨q, Ev.succ ?_⟩
    have : ¬ row < b.1 := by omega
    simp only [Z5A, this, decide_false, Bool.false_eq_true, if_false, fallL, LR.map2]
    exact Ev.some _
  | n + 1, row, col, side, o, q, hn, hr, hc, hc2, hs, hs2, ho, hx, hq => by
    obtain ⟨g1, g2, g3, g4, g5, g6⟩ := Zn hb
    have hpp := Zu g1 g2 g3 g4
    have hrow : row < b.1 := by omega
    have hp := ZgW hb hr hrow hc hc2
    have hoI : row * b.2.1 + col < (o.length : Int) := by omega
    have hcast : ((row * b.2.1 + col).toNat : Int) = row * b.2.1 + col := Int.toNat_of_nonneg hp.1
    have hxo := hx _ (Z8c hp.1 hoI (0, 0))
    have hgo := ZAf hxo hs hs2
    have hpass := ZBP b.1 b.2.1 o G (row * b.2.1 + col).toNat (by omega) (by omega) (by omega) hx
    rw [hcast, ZAg hb G ho (by omega)] at hpass
    have hql : q.length + 1 ≤ 140737488355328 / 24 := by omega
    have hk2 : ¬ (0 : Int) = 2 := by omega
    have hk3 : ¬ (0 : Int) = 3 := by omega
    generalize hX : List.getD o (row * b.2.1 + col).toNat (0, 0) = X at *
    have start : ∀ {v : List (List Int) → LR (Int × Int × List CellD × Int × Int × Int × Int × Int × List CellD × Int × Int × List CellD × List (List Int) × Int) (FallD × BoardD × List (List Int))}, (∃ p, Ev (fun k => if decide (X.1 = 5) = true then Option.bind (Z5c k d1 d2 d3 d4 d5 o4 b.1 b.2.1 o (q ++ [[row, col]]) col row) fun z2 => some (LR.ret ((z2.1, z2.2.1, z2.2.2.1), (z2.2.2.2.1, z2.2.2.2.2.1, z2.2.2.2.2.2.1), z2.2.2.2.2.2.2))
        else Option.bind (ZbC k X side) fun z3 => Option.bind (ZbE k (b.1, b.2.1, o) G (row * b.2.1 + col)) fun z4 => Option.bind (Z4V k (wrap64 (col + z3)) (0 : Int) (b.2.1 - 1)) fun z5 => if (!z5) = true then Option.bind (Z4Y k d1 d2 d3 d4 d5 o4 b.1 b.2.1 z4 (q ++ [[row, col]]) (wrap64 (col + z3)) row) fun z6 => some (LR.ret ((z6.1, z6.2.1, z6.2.2.1), (z6.2.2.2.1, z6.2.2.2.2.1, z6.2.2.2.2.2.1), z6.2.2.2.2.2.2)) else Z5A k b.1 b.2.1 b.2.2 d1 d2 d3 d4 d5 o4 b.1 b.2.1 z4 (q ++ [[row, col]]) G (wrap64 (col + z3)) (wrap64 ((0 : Int) - z3)) (wrap64 (row + (1 : Int)))) (v p)) →
        ∃ p, Ev (fun k => Z5A k b.1 b.2.1 b.2.2 d1 d2 d3 d4 d5 o4 b.1 b.2.1 o q G col side row) (v p) := by
      rintro v ⟨p, h⟩
      refine ⟨p, Ev.succ ?_⟩
      simp only [Z5A, hrow, decide_true, if_true, List.length_singleton, hql]
      rw [w64 (n := row * b.2.1) (by omega) (by omega), w64 (n := row * b.2.1 + col) (by omega) (by omega), w64 (n := b.2.1 - 1) (by omega) (by omega)]
      have := Zzu b hb o ho hr hrow hc hc2
      rw [hX] at this
      exact Ev.bind this h
    refine start ?_
    simp only [fallL, hX, ZiY, hk2, hk3, if_false]
    by_cases h5 : X.1 = 5
    · refine ⟨q ++ [[row, col]], ?_⟩
      simp only [h5, decide_true, if_true, Z5c]
      exact Ev.bind (Ev.some _) (Ev.some _)
    simp only [h5, decide_false, Bool.false_eq_true, if_false]
    generalize hgg : goesOf X side = g at *
    have hgo' := ZBD X side hxo hs hs2
    rw [hgg] at hgo'
    by_cases hin : 0 ≤ col + g ∧ col + g < b.2.1
    · rw [if_pos hin]
      obtain ⟨p, ih⟩ := Zqt b hb G hG d1 d2 d3 d4 d5 o4 n (row + 1) (col + g) (0 - g) (stepAt G (kindsB b []) (row * b.2.1 + col).toNat o) (q ++ [[row, col]]) (by omega) (by omega) (by omega) (by omega) (by omega) (by omega) (by rw [Zd5]; exact ho) (Zlq G _ hx) (by simp; omega)
      refine ⟨p, Ev.bind hgo' (Ev.bind hpass ?_)⟩
      rw [w64 (n := col + g) (by omega) (by omega), w64 (n := 0 - g) (by omega) (by omega), w64 (n := row + 1) (by omega) (by omega)]
      refine Ev.bind (Z9K _ _ _) (Ev.ite (fun hh => ?_) (fun hh => ih))
      have hh : ¬ (0 ≤ col + g ∧ col + g ≤ b.2.1 - 1) := nd hh
      omega
    · rw [if_neg hin]
      refine ⟨q ++ [[row, col]], Ev.bind hgo' (Ev.bind hpass ?_)⟩
      rw [w64 (n := col + g) (by omega) (by omega)]
      refine Ev.bind (Z9K _ _ _) (Ev.ite (fun hh => ?_) (fun hh => ?_))
      · simp only [Z4Y]
        exact Ev.bind (Ev.some _) (Ev.some _)
      · have hh : 0 ≤ col + g ∧ col + g ≤ b.2.1 - 1 := yd hh
        omega
theorem Zwo (b : BoardD) (hb : boardOK b = true) (G : List Int) (hG : G.length = b.2.2.length) (col : Int) (hc : 0 ≤ col) (hc2 : col < b.2.1) : ∃ p, Ev (fun k => Z1d k b G col) ((fallOf b G (kindsB b []) col b.2.2).1, (b.1, b.2.1, (fallOf b G (kindsB b []) col b.2.2).2), p) := by
 obtain ⟨g1, g2, g3, g4, g5, g6⟩ := Zn hb
 have hpp := Zu g1 g2 g3 g4
 obtain ⟨p, h⟩ := Zqt b hb G hG 0 0 0 0 0 [] b.1.toNat 0 col 0 b.2.2 [] (by omega) (by omega) hc hc2 (by omega) (by omega) rfl g6 rfl
 refine ⟨p, Ev.succ ?_⟩
 simp only [Z1d]
 refine Ev.bind (Zfr b (by omega)) (Ev.bind h ?_)
 unfold fallOf
 cases fallL b G (kindsB b []) b.1.toNat 0 col 0 b.2.2 with
 | go z =>
  refine Ev.go ?_
  simp only [Z7c]
  exact Ev.bind (Ev.some _) (Ev.some _)
 | ret r => exact Ev.ret (Ev.some _)
theorem Zhu (R C : Int) (G : List Int) (at' : Nat) : ∀ (r pre : List CellD), (pre ++ r).length ≤ 1000 → at' < (pre ++ r).length → G.length = (pre ++ r).length → (∀ x ∈ r, cellOK x = true) →
    Ev (fun k => Z1p k (pre ++ r) R C G (at' : Int) ((pre ++ r).length : Int) (pre.length : Int)) (pre ++ passGo G (List.getD G at' 0) pre.length r)
  | [], pre, hl, ha, hG, hx => by
    refine Ev.succ ?_
    simp only [Z1p, Zm, decide_false, Bool.false_eq_true, if_false, passGo]
    exact Ev.some _
  | x :: r, pre, hl, ha, hG, hx => by
    have hn := Zb pre x r (by omega)
    have hlt := Zg pre x r
    have hGl : (pre.length : Int) < (G.length : Int) := by rw [hG]; exact hlt
    have ha0 : (0 : Int) ≤ (at' : Int) := Int.natCast_nonneg _
    have ha1 : (at' : Int) < ((pre ++ x :: r).length : Int) := by omega
    have haG : (at' : Int) < (G.length : Int) := by rw [hG]; exact ha1
    obtain ⟨c1, c2, c3⟩ := ZeM (hx x (List.mem_cons_self ..))
    have hr' : ∀ y ∈ r, cellOK y = true := fun y hy => hx y (List.mem_cons_of_mem _ hy)
    have next : ∀ y : CellD, Ev (fun k => Z1p k (pre ++ y :: r) R C G (at' : Int) ((pre ++ x :: r).length : Int) ((pre ++ [x]).length : Int)) (pre ++ y :: passGo G (List.getD G at' 0) (pre.length + 1) r) := by
      intro y
      have ih := Zhu R C G at' r (pre ++ [y]) (by simpa using hl) (by simpa using ha) (by simpa using hG) hr'
      have e1 : ((pre ++ [y] ++ r).length : Int) = ((pre ++ x :: r).length : Int) := by simp
      have e2 : ((pre ++ [y]).length : Int) = ((pre ++ [x]).length : Int) := by simp
      have e3 : (pre ++ [y]).length = pre.length + 1 := by simp
      rw [e1, e2, e3, ← Z4, ← Z4] at ih
      exact ih
    refine Ev.succ ?_
    simp only [Z1p, Zg, Zp, decide_true, if_true, Int.toNat_natCast, Z7, Zak, hn, hGl, ha0, haG]
    rw [w64 (n := 1 - x.2) (by omega) (by omega)]
    simp only [passGo]
    refine Ev.ite (fun h1 => Ev.ite (fun h2 => ?_) (fun h2 => ?_)) (fun h1 => ?_)
    · simp only [decide_eq_true_eq] at h1 h2
      rw [if_pos ⟨h1, h2⟩]
      exact next (flip1 x)
    · simp only [decide_eq_true_eq] at h2
      rw [if_neg (fun hc => h2 hc.2)]
      exact next x
    · simp only [decide_eq_true_eq] at h1
      rw [if_neg (fun hc => h1 hc.1)]
      exact next x
theorem Zx3 (R C : Int) (o : List CellD) (G : List Int) (at' : Nat) (hl : o.length ≤ 1000) (ha : at' < o.length) (hG : G.length = o.length) (hx : ∀ x ∈ o, cellOK x = true) : Ev (fun k => Z8t k (R, C, o) G (at' : Int)) (passGo G (List.getD G at' 0) 0 o) := by
 refine Ev.succ ?_
 simp only [Z8t]
 exact Ev.bind (Zhu R C G at' o [] hl ha hG hx) (Ev.some _)
theorem ZqR (b : BoardD) (hb : boardOK b = true) (G : List Int) (hG : G.length = b.2.2.length) (c0 c1 c2 : Int) : ∀ (n : Nat) (row col side : Int) (o : List CellD) (q : List Int), row + n = b.1 → 0 ≤ row → 0 ≤ col → col < b.2.1 → -1 ≤ side → side ≤ 1 → o.length = b.2.2.length → (∀ x ∈ o, cellOK x = true) → (q.length : Int) = row →
    ∃ p, Ev (fun k => Z2k k o b.1 b.2.1 c0 c1 c2 q G col side row) ((fallL b G (kindsB b []) n row col side o).map2 (fun z => (z.2, b.1, b.2.1, c0, c1, c2, p, z.1)) (fun r => (r.1, p, r.2)))
  | 0, row, col, side, o, q, hn, hr, hc, hc2, hs, hs2, ho, hx, hq => by
    refine ⟨q, Ev.succ ?_⟩
    have : ¬ row < b.1 := by omega
    simp only [Z2k, this, decide_false, Bool.false_eq_true, if_false, fallL, LR.map2]
    exact Ev.some _
  | n + 1, row, col, side, o, q, hn, hr, hc, hc2, hs, hs2, ho, hx, hq => by
    obtain ⟨g1, g2, g3, g4, g5, g6⟩ := Zn hb
    have hpp := Zu g1 g2 g3 g4
    have hrow : row < b.1 := by omega
    have hp := ZgW hb hr hrow hc hc2
    have hoI : row * b.2.1 + col < (o.length : Int) := by omega
    have hcast : ((row * b.2.1 + col).toNat : Int) = row * b.2.1 + col := Int.toNat_of_nonneg hp.1
    have hxo := hx _ (Z8c hp.1 hoI (0, 0))
    have hgo := ZAf hxo hs hs2
    have hgt := ZBE (List.getD o (row * b.2.1 + col).toNat (0, 0)) side hxo hs hs2
    have hturn := Zx3 b.1 b.2.1 o G (row * b.2.1 + col).toNat (by omega) (by omega) (by omega) hx
    rw [hcast] at hturn
    have hpass := ZAg hb G ho (show (row * b.2.1 + col).toNat < o.length by omega)
    unfold passAt at hpass
    have hql : q.length + 1 ≤ 140737488355328 / 8 := by omega
    have hk2 : ¬ (0 : Int) = 2 := by omega
    have hk3 : ¬ (0 : Int) = 3 := by omega
    obtain ⟨cc1, cc2, cc3⟩ := ZeM hxo
    simp only [fallL, ZiY, hk2, hk3, if_false]
    generalize hS : stepAt G (kindsB b []) (row * b.2.1 + col).toNat o = S at *
    have hSl : S.length = b.2.2.length := by rw [← hS, Zd5]; exact ho
    have hSx : ∀ x ∈ S, cellOK x = true := by rw [← hS]; exact Zlq G _ hx
    generalize hX : List.getD o (row * b.2.1 + col).toNat (0, 0) = X at *
    by_cases h5 : X.1 = 5
    · refine ⟨q ++ [row * b.2.1 + col], Ev.succ ?_⟩
      simp only [Z2k, hrow, decide_true, if_true, List.length_singleton, hql]
      rw [w64 (n := row * b.2.1) (by omega) (by omega), w64 (n := row * b.2.1 + col) (by omega) (by omega)]
      simp only [hp.1, hoI, if_true, hX]
      refine Ev.bind hgt ?_
      simp only [h5, if_true, Bool.not_false]
      exact Ev.some _
    simp only [h5, if_false] at hgt ⊢
    generalize goesOf X side = g at *
    have tail : ∃ p, ∀ o', o' = S → Ev (fun k => if decide (wrap64 (col + g) < 0) = true then some (LR.ret ((3, row, wrap64 (col + g)), q ++ [row * b.2.1 + col], o')) else if decide (wrap64 (col + g) ≥ b.2.1) = true then some (LR.ret ((3, row, wrap64 (col + g)), q ++ [row * b.2.1 + col], o')) else Z2k k o' b.1 b.2.1 c0 c1 c2 (q ++ [row * b.2.1 + col]) G (wrap64 (col + g)) (wrap64 (0 - g)) (wrap64 (row + 1)))
        (LR.map2 (fun z => (z.2, b.1, b.2.1, c0, c1, c2, p, z.1)) (fun r => (r.1, p, r.2)) (if 0 ≤ col + g ∧ col + g < b.2.1 then fallL b G (kindsB b []) n (row + 1) (col + g) (0 - g) S else .ret ((3, row, col + g), S))) := by
      rw [w64 (n := col + g) (by omega) (by omega), w64 (n := 0 - g) (by omega) (by omega), w64 (n := row + 1) (by omega) (by omega)]
      by_cases hin : 0 ≤ col + g ∧ col + g < b.2.1
      · obtain ⟨p, ih⟩ := ZqR b hb G hG c0 c1 c2 n (row + 1) (col + g) (0 - g) S (q ++ [row * b.2.1 + col]) (by omega) (by omega) (by omega) (by omega) (by omega) (by omega) hSl hSx (by simp; omega)
        refine ⟨p, fun o' ho' => ?_⟩
        subst ho'
        rw [if_pos hin]
        refine Ev.ite (fun h => ?_) (fun _ => Ev.ite (fun h => ?_) (fun _ => ih))
        · simp only [decide_eq_true_eq] at h; omega
        · simp only [decide_eq_true_eq] at h; omega
      · refine ⟨q ++ [row * b.2.1 + col], fun o' ho' => ?_⟩
        subst ho'
        rw [if_neg hin]
        refine Ev.ite (fun _ => Ev.some _) (fun h => Ev.ite (fun _ => Ev.some _) (fun h2 => ?_))
        simp only [decide_eq_true_eq] at h h2
        omega
    obtain ⟨p, tail⟩ := tail
    refine ⟨p, Ev.succ ?_⟩
    simp only [Z2k, hrow, decide_true, if_true, List.length_singleton, hql]
    rw [w64 (n := row * b.2.1) (by omega) (by omega), w64 (n := row * b.2.1 + col) (by omega) (by omega)]
    simp only [hp.1, hoI, if_true, hX]
    rw [w64 (n := 1 - X.2) (by omega) (by omega)]
    refine Ev.bind hgt ?_
    simp only [Bool.not_true, Bool.false_eq_true, if_false]
    by_cases h3 : X.1 = 3
    · have h36 : ¬ (3 : Int) = 6 := by omega
      simp only [h3, decide_true, if_true, h36, decide_false, Bool.false_eq_true, if_false]
      rw [if_pos h3] at hpass
      refine tail _ ?_
      rw [← hpass]
      simp [flip1, h3]
    · simp only [h3, decide_false, Bool.false_eq_true, if_false]
      rw [if_neg h3] at hpass
      by_cases h6 : X.1 = 6
      · simp only [h6, decide_true, if_true]
        rw [if_pos h6] at hpass
        exact Ev.bind hturn (tail _ hpass)
      · simp only [h6, decide_false, Bool.false_eq_true, if_false]
        rw [if_neg h6] at hpass
        exact tail _ hpass
theorem Zne (b : BoardD) (hb : boardOK b = true) (G : List Int) (hG : G.length = b.2.2.length) (col : Int) (hc : 0 ≤ col) (hc2 : col < b.2.1) (o : List CellD) (ho : o.length = b.2.2.length) (hx : ∀ x ∈ o, cellOK x = true) : ∃ p, Ev (fun k => ZbR k (b.1, b.2.1, o) G col) ((fallOf b G (kindsB b []) col o).1, p, (fallOf b G (kindsB b []) col o).2) := by
 obtain ⟨g1, g2, g3, g4, g5, g6⟩ := Zn hb
 obtain ⟨p, h⟩ := ZqR b hb G hG 0 0 0 b.1.toNat 0 col 0 o [] (by omega) (by omega) hc hc2 (by omega) (by omega) ho hx rfl
 refine ⟨p, Ev.succ ?_⟩
 simp only [ZbR]
 refine Ev.bind h ?_
 unfold fallOf
 cases fallL b G (kindsB b []) b.1.toNat 0 col 0 o with
 | go z => exact Ev.go (Ev.some _)
 | ret r => exact Ev.ret (Ev.some _)
theorem Zoj (b : BoardD) (hb : boardOK b = true) (G : List Int) (hG : G.length = b.2.2.length) (d1 d2 : Int) (d3 : List CellD) : ∀ (r pre : List Int) (o : List CellD) (w : List FallD), colsOK b r → (pre ++ r).length ≤ 1000 → w.length = pre.length → o.length = b.2.2.length → (∀ x ∈ o, cellOK x = true) →
    Ev (fun k => Z88 k d1 d2 d3 b.1 b.2.1 o G w (pre ++ r) ((pre ++ r).length : Int) (pre.length : Int)) (d1, d2, d3, b.1, b.2.1, (runsOf b G (kindsB b []) r o).2, w ++ (runsOf b G (kindsB b []) r o).1)
  | [], pre, o, w, hc, hl1, hw, ho, hx => by
    refine Ev.succ ?_
    simp only [Z88, Zm, decide_false, Bool.false_eq_true, if_false]
    simp only [runsOf, List.append_nil]
    exact Ev.some _
  | c :: r, pre, o, w, hc, hl1, hw, ho, hx => by
    obtain ⟨k1, k2⟩ := hc c (List.mem_cons_self ..)
    have hb' := ZwR hb ho hx
    obtain ⟨p, hg⟩ := Zwo (b.1, b.2.1, o) hb' G (hG.trans ho.symm) c k1 k2
    rw [ZdM (b := (b.1, b.2.1, o)) (b' := b) rfl rfl, Ze4 (b := (b.1, b.2.1, o)) (b' := b) rfl ho] at hg
    have hlw : w.length + 1 ≤ 140737488355328 / 24 := by simp at hl1; omega
    refine Ev.succ ?_
    simp only [Z88, Zg, Zp, decide_true, if_true, Int.toNat_natCast, Z7]
    refine Ev.bind hg ?_
    simp only [List.length_singleton, hlw, if_true]
    rw [Zb pre c r (by omega)]
    have ih := Zoj b hb G hG d1 d2 d3 r (pre ++ [c]) (fallOf b G (kindsB b []) c o).2 (w ++ [(fallOf b G (kindsB b []) c o).1]) (fun y hy => hc y (List.mem_cons_of_mem _ hy)) (by simpa using hl1) (by simp [hw]) ((Zlu b G _ _ _ _ _ o).trans ho) (Zkt _ _ _ _ hx)
    rw [← Z4] at ih
    refine ih.congr ?_
    simp [runsOf]
theorem ZBZ (b : BoardD) (hb : boardOK b = true) (t : List Int) (ht : t.length ≤ 1000) (hc : colsOK b t) : Ev (fun k => Z8u k b t) ((runsOf b (groupsOf b) (kindsB b []) t b.2.2).1, b.1, b.2.1, (runsOf b (groupsOf b) (kindsB b []) t b.2.2).2) := by
 obtain ⟨g1, g2, g3, g4, g5, g6⟩ := Zn hb
 have hpp := Zu g1 g2 g3 g4
 refine Ev.succ ?_
 simp only [Z8u]
 have h0 : Ev (fun k => Z5a k b.1 b.2.1 b.2.2 0 0 [] t) (0, 0, [], b.1, b.2.1, b.2.2, groupsOf b, t) := by
  simp only [Z5a]
  exact Ev.bind (Zfr b (by omega)) (Ev.bind (ZfY b hb) (Ev.some _))
 refine Ev.bind h0 ?_
 refine Ev.bind (Zoj b hb (groupsOf b) (Z1W b) 0 0 [] t [] b.2.2 [] hc (by simpa using ht) rfl rfl g6) ?_
 exact Ev.some _
theorem Zka (b : BoardD) (hb : boardOK b = true) (G : List Int) (hG : G.length = b.2.2.length) (d1 d2 : Int) (d3 : List CellD) : ∀ (r pre : List Int) (o : List CellD) (w : List FallD), colsOK b r → (pre ++ r).length ≤ 1000 → w.length = pre.length → o.length = b.2.2.length → (∀ x ∈ o, cellOK x = true) →
    Ev (fun k => Z62 k d1 d2 d3 b.1 b.2.1 o G w (pre ++ r) ((pre ++ r).length : Int) (pre.length : Int)) (d1, d2, d3, b.1, b.2.1, (runsOf b G (kindsB b []) r o).2, w ++ (runsOf b G (kindsB b []) r o).1)
  | [], pre, o, w, hc, hl1, hw, ho, hx => by
    refine Ev.succ ?_
    simp only [Z62, Zm, decide_false, Bool.false_eq_true, if_false]
    simp only [runsOf, List.append_nil]
    exact Ev.some _
  | c :: r, pre, o, w, hc, hl1, hw, ho, hx => by
    obtain ⟨k1, k2⟩ := hc c (List.mem_cons_self ..)
    obtain ⟨p, hg⟩ := Zne b hb G hG c k1 k2 o ho hx
    have hlw : w.length + 1 ≤ 140737488355328 / 24 := by simp at hl1; omega
    refine Ev.succ ?_
    simp only [Z62, Zg, Zp, decide_true, if_true, Int.toNat_natCast, Z7]
    refine Ev.bind hg ?_
    simp only [List.length_singleton, hlw, if_true]
    rw [Zb pre c r (by omega)]
    have ih := Zka b hb G hG d1 d2 d3 r (pre ++ [c]) (fallOf b G (kindsB b []) c o).2 (w ++ [(fallOf b G (kindsB b []) c o).1]) (fun y hy => hc y (List.mem_cons_of_mem _ hy)) (by simpa using hl1) (by simp [hw]) ((Zlu b G _ _ _ _ _ o).trans ho) (Zkt _ _ _ _ hx)
    rw [← Z4] at ih
    refine ih.congr ?_
    simp [runsOf]
theorem ZzY (b : BoardD) (hb : boardOK b = true) (t : List Int) (ht : t.length ≤ 1000) (hc : colsOK b t) : Ev (fun k => Zd1 k b t) ((runsOf b (groupsOf b) (kindsB b []) t b.2.2).1, b.1, b.2.1, (runsOf b (groupsOf b) (kindsB b []) t b.2.2).2) := by
 obtain ⟨g1, g2, g3, g4, g5, g6⟩ := Zn hb
 have hpp := Zu g1 g2 g3 g4
 refine Ev.succ ?_
 simp only [Zd1]
 refine Ev.bind (Zb5 b (by omega)) (Ev.bind (Z8M b hb) ?_)
 refine Ev.bind (Zka b hb (groupsOf b) (Z1W b) 0 0 [] t [] b.2.2 [] hc (by simpa using ht) rfl rfl g6) ?_
 exact Ev.some _
end Go.Proofs.Ytglkedenkcpcbaa.Vs

set_option linter.unusedVariables false
set_option linter.unusedSimpArgs false
namespace Go.Proofs.Ytglkedenkcpcbaa.Vs
open Go.RowKit
theorem Zwr {x y : CellD} (h : x.1 = y.1) : geared x = geared y := by unfold geared; rw [h]
theorem ZDd {b b' : BoardD} (h1 : b.1 = b'.1) (h2 : b.2.1 = b'.2.1) (i : Int) : nears b i = nears b' i := by unfold nears; rw [h1, h2]
theorem ZDk {b b' : BoardD} (h : b.2.2.map Prod.fst = b'.2.2.map Prod.fst) (v : Int) : visit b v = visit b' v := by
 funext G n
 unfold visit
 rw [Zwr (ZlQ h n.toNat)]
theorem ZAh {b b' : BoardD} (h1 : b.1 = b'.1) (h2 : b.2.1 = b'.2.1) (h : b.2.2.map Prod.fst = b'.2.2.map Prod.fst) (v : Int) : ∀ (n : Nat) (o q : List Int), bfs b v n o q = bfs b' v n o q
 | 0, o, q => rfl
 | _ + 1, o, [] => rfl
 | n + 1, o, x :: q => by simp only [bfs]; rw [ZDd h1 h2, ZDk h, ZAh h1 h2 h v n]
theorem ZeN {b b' : BoardD} (h1 : b.1 = b'.1) (h2 : b.2.1 = b'.2.1) (h : b.2.2.map Prod.fst = b'.2.2.map Prod.fst) : ∀ (r r' : List CellD) (i : Int) (o : List Int) (v : Int), r.map Prod.fst = r'.map Prod.fst → groupsFrom b i r o v = groupsFrom b' i r' o v
 | [], [], i, o, v, hr => rfl
 | [], y :: r', i, o, v, hr => by simp at hr
 | x :: r, [], i, o, v, hr => by simp at hr
 | x :: r, y :: r', i, o, v, hr => by
  simp only [List.map_cons, List.cons.injEq] at hr
  simp only [groupsFrom]
  rw [Zwr hr.1, ZAh h1 h2 h, ZeN h1 h2 h r r' _ _ _ hr.2, ZeN h1 h2 h r r' _ _ _ hr.2]
theorem ZaP {o o' : List CellD} (h : o.map Prod.fst = o'.map Prod.fst) : o.length = o'.length := by
 have := congrArg List.length h
 simpa using this
theorem Zot {b b' : BoardD} (h1 : b.1 = b'.1) (h2 : b.2.1 = b'.2.1) (h : b.2.2.map Prod.fst = b'.2.2.map Prod.fst) : groupsOf b = groupsOf b' := by
 unfold groupsOf
 rw [ZaP h, ZeN h1 h2 h _ _ _ _ _ h]
def Told (o o' : List Int) : Prop := ∀ j : Nat, j < o.length → 0 ≤ List.getD o j 0 → 0 ≤ List.getD o' j 0
theorem Told.set {o : List Int} {v : Int} (hv : 0 ≤ v) (i : Nat) : Told o (List.set o i v) := by
 intro j hj h
 by_cases hi : i < o.length
 ·rw [Ze3 o i j v 0 hi]
  split
  ·exact hv
  ·exact h
 ·rw [List.set_eq_of_length_le (by omega)]
  exact h
theorem Told.trans {o o' o2 : List Int} (h : Told o o') (hl : o'.length = o.length) (h2 : Told o' o2) : Told o o2 := fun j hj h0 => h2 j (by omega) (h j hj h0)
theorem ZE1 (b : BoardD) {v : Int} (hv : 0 ≤ v) (G : List Int × List Int) (n : Int) : Told G.1 (visit b v G n).1 := by
 unfold visit
 split
 ·exact Told.set hv _
 ·exact fun _ _ h => h
theorem Zwp (b : BoardD) {v : Int} (hv : 0 ≤ v) : ∀ (r : List Int) (G : List Int × List Int), Told G.1 (r.foldl (visit b v) G).1
 | [], G => fun _ _ h => h
 | n :: r, G => (ZE1 b hv G n).trans (Zs7 b v G n) (Zwp b hv r _)
theorem ZwX (b : BoardD) {v : Int} (hv : 0 ≤ v) : ∀ (n : Nat) (o q : List Int), Told o (bfs b v n o q)
 | 0, o, q => fun _ _ h => h
 | _ + 1, o, [] => fun _ _ h => h
 | n + 1, o, x :: q => by
  simp only [bfs]
  exact (Zwp b hv (nears b x) (o, [])).trans (ZfK b v _ _) (ZwX b hv n _ _)
theorem Zck (b : BoardD) : ∀ (r : List CellD) (i : Int) (o : List Int) (v : Int), 0 ≤ v → Told o (groupsFrom b i r o v)
 | [], i, o, v, hv => fun _ _ h => h
 | x :: r, i, o, v, hv => by
  simp only [groupsFrom]
  split
  ·exact ((Told.set hv _).trans (by simp) ((ZwX b hv 200 _ _))).trans (by rw [ZgY]; simp) (Zck b r _ _ _ (by omega))
  ·exact Zck b r _ _ _ hv
theorem ZiV (b : BoardD) : ∀ (r pre : List CellD) (o : List Int) (v : Int), 0 ≤ v → o.length = (pre ++ r).length → ∀ j : Nat, j < r.length → geared (List.getD r j (0, 0)) = true → 0 ≤ List.getD (groupsFrom b pre.length r o v) (pre.length + j) 0
 | [], pre, o, v, hv, ho, j, hj, hg => by simp at hj
 | x :: r, pre, o, v, hv, ho, 0, hj, hg => by
  have hg' : geared x = true := hg
  have hpl : pre.length < o.length := by rw [ho]; simp
  simp only [groupsFrom, hg', Bool.true_and, Nat.add_zero, Int.toNat_natCast, decide_eq_true_eq]
  split
  ·refine Zck b r _ _ _ (by omega) _ (by rw [ZgY]; simpa using hpl) (ZwX b hv 200 _ _ _ (by simpa using hpl) ?_)
   rw [Ze3 o _ _ v 0 hpl, if_pos rfl]
   exact hv
  ·exact Zck b r _ _ _ hv _ hpl (by omega)
 | x :: r, pre, o, v, hv, ho, j + 1, hj, hg => by
  have ih := fun (o2 : List Int) (v2 : Int) (h2 : 0 ≤ v2) (hl : o2.length = o.length) => ZiV b r (pre ++ [x]) o2 v2 h2 (by rw [hl, ho]; simp) j (by simpa using hj) (by simpa using hg)
  simp only [List.length_append, List.length_singleton] at ih
  have e1 : ((pre.length + 1 : Nat) : Int) = (pre.length : Int) + 1 := by omega
  have e2 : pre.length + 1 + j = pre.length + (j + 1) := by omega
  simp only [groupsFrom]
  rw [e1, e2] at ih
  split
  ·exact ih _ _ (by omega) (by rw [ZgY]; simp)
  ·exact ih _ _ hv rfl
theorem Z8V (b : BoardD) {j : Nat} (hj : j < b.2.2.length) (hg : geared (List.getD b.2.2 j (0, 0)) = true) : 0 ≤ List.getD (groupsOf b) j 0 := by
 have := ZiV b b.2.2 [] (List.replicate b.2.2.length (-1)) 0 (Int.le_refl 0) (by simp) j hj hg
 simpa [groupsOf] using this
theorem ZDP {P : Int → Prop} {o : List Int} (h : ∀ x ∈ o, P x) {v : Int} (hv : P v) (i : Nat) : ∀ x ∈ List.set o i v, P x := fun x hx => by
 rcases List.mem_or_eq_of_mem_set hx with h1 | rfl
 ·exact h x h1
 ·exact hv
theorem Zyr (b : BoardD) {P : Int → Prop} {v : Int} (hv : P v) : ∀ (r : List Int) (G : List Int × List Int), (∀ x ∈ G.1, P x) → ∀ x ∈ (r.foldl (visit b v) G).1, P x
 | [], G, h => h
 | n :: r, G, h => Zyr b hv r _ (by unfold visit; split; exact ZDP h hv _; exact h)
theorem ZDK (b : BoardD) {P : Int → Prop} {v : Int} (hv : P v) : ∀ (n : Nat) (o q : List Int), (∀ x ∈ o, P x) → ∀ x ∈ bfs b v n o q, P x
 | 0, o, q, h => h
 | _ + 1, o, [], h => h
 | n + 1, o, x :: q, h => by
  simp only [bfs]
  exact ZDK b hv n _ _ (Zyr b hv _ (o, []) h)
theorem ZeJ (b : BoardD) (m : Int) : ∀ (r : List CellD) (i : Int) (o : List Int) (v : Int), v + r.length ≤ m → (∀ x ∈ o, x < m) → ∀ x ∈ groupsFrom b i r o v, x < m
 | [], i, o, v, hv, h => h
 | y :: r, i, o, v, hv, h => by
  simp only [List.length_cons] at hv
  simp only [groupsFrom]
  split
  ·exact ZeJ b m r _ _ _ (by omega) (ZDK b (P := fun x => x < m) (show v < m by omega) 200 _ _ (ZDP (P := fun x => x < m) h (show v < m by omega) _))
  ·exact ZeJ b m r _ _ _ (by omega) h
theorem Zcs (b : BoardD) : ∀ x ∈ groupsOf b, x < (b.2.2.length : Int) := by
 by_cases h0 : b.2.2.length = 0
 ·intro x hx
  have : groupsOf b = [] := List.eq_nil_of_length_eq_zero (by rw [Z1W]; exact h0)
  rw [this] at hx
  cases hx
 ·refine ZeJ b _ _ _ _ _ (by omega) ?_
  intro x hx
  rw [(List.mem_replicate.1 hx).2]
  omega
def unitsGo (G : List Int) : Int → List CellD → List Int → List (List Int) → List (List Int)
  | _, [], _, o => o
  | i, x :: r, N, o => if x.1 = 3 then unitsGo G (i + 1) r N (o ++ [[i]]) else if x.1 = 6 then (if List.getD N (List.getD G i.toNat 0).toNat 0 < 0 then unitsGo G (i + 1) r (List.set N (List.getD G i.toNat 0).toNat (o.length : Int)) (o ++ [[i]])
      else unitsGo G (i + 1) r N (List.set o (List.getD N (List.getD G i.toNat 0).toNat 0).toNat (List.getD o (List.getD N (List.getD G i.toNat 0).toNat 0).toNat [] ++ [i]))) else unitsGo G (i + 1) r N o
def unitsP (b : BoardD) : List (List Int) := unitsGo (groupsOf b) 0 b.2.2 (List.replicate b.2.2.length (-1)) []
theorem Zbx (G : List Int) : ∀ (r r' : List CellD) (i : Int) (N : List Int) (o : List (List Int)), r.map Prod.fst = r'.map Prod.fst → unitsGo G i r N o = unitsGo G i r' N o
 | [], [], i, N, o, hr => rfl
 | [], y :: r', i, N, o, hr => by simp at hr
 | x :: r, [], i, N, o, hr => by simp at hr
 | x :: r, y :: r', i, N, o, hr => by
  simp only [List.map_cons, List.cons.injEq] at hr
  simp only [unitsGo, hr.1]
  rw [Zbx G r r' _ _ _ hr.2, Zbx G r r' _ _ _ hr.2, Zbx G r r' _ _ _ hr.2, Zbx G r r' _ _ _ hr.2]
theorem ZsS {b b' : BoardD} (h1 : b.1 = b'.1) (h2 : b.2.1 = b'.2.1) (h : b.2.2.map Prod.fst = b'.2.2.map Prod.fst) : unitsP b = unitsP b' := by
 unfold unitsP
 rw [Zot h1 h2 h, ZaP h, Zbx _ _ _ _ _ _ h]
structure UnitsOK (L : List CellD) (i : Int) (o : List (List Int)) : Prop where
 some : ∀ u ∈ o, u ≠ []
 on : ∀ u ∈ o, ∀ m ∈ u, 0 ≤ m ∧ m < i ∧ turning (List.getD L m.toNat (0, 0)) = true
 once : ∀ u ∈ o, u.Nodup
 no : ∃ f : Int → Nat, ∀ (k : Nat) u, o[k]? = Option.some u → ∀ m ∈ u, f m = k
theorem UnitsOK.next {L : List CellD} {i : Int} {o : List (List Int)} (h : UnitsOK L i o) : UnitsOK L (i + 1) o :=
 ⟨h.some, fun u hu m hm => by obtain ⟨a, b, c⟩ := h.on u hu m hm; exact ⟨a, by omega, c⟩, h.once, h.no⟩
theorem UnitsOK.fresh {L : List CellD} {i : Int} {o : List (List Int)} (h : UnitsOK L i o) (h0 : 0 ≤ i) (ht : turning (List.getD L i.toNat (0, 0)) = true) : UnitsOK L (i + 1) (o ++ [[i]]) := by
 obtain ⟨f, hf⟩ := h.no
 refine ⟨fun u hu => ?_, fun u hu m hm => ?_, fun u hu => ?_, fun m => if m = i then o.length else f m, fun k u hk m hm => ?_⟩
 ·rcases List.mem_append.1 hu with hu | hu
  ·exact h.some u hu
  ·rw [List.mem_singleton.1 hu]; simp
 ·rcases List.mem_append.1 hu with hu | hu
  ·exact h.next.on u hu m hm
  ·rw [List.mem_singleton.1 hu] at hm
   rw [List.mem_singleton.1 hm]
   exact ⟨h0, by omega, ht⟩
 ·rcases List.mem_append.1 hu with hu | hu
  ·exact h.once u hu
  ·rw [List.mem_singleton.1 hu]; simp
 ·rcases Nat.lt_or_ge k o.length with hlt | hge
  ·rw [List.getElem?_append_left hlt] at hk
   have h1 := (h.on u (List.mem_of_getElem? hk) m hm).2.1
   simp only [show ¬ m = i by omega, if_false]
   exact hf k u hk m hm
  ·rw [List.getElem?_append_right hge] at hk
   have h2 := (List.getElem?_eq_some_iff.1 hk).1
   simp at h2
   have : k = o.length := by omega
   subst this
   simp at hk
   subst hk
   simp [List.mem_singleton.1 hm]
theorem UnitsOK.join {L : List CellD} {i : Int} {o : List (List Int)} (h : UnitsOK L i o) (h0 : 0 ≤ i) (ht : turning (List.getD L i.toNat (0, 0)) = true) {n : Nat} (hn : n < o.length) : UnitsOK L (i + 1) (List.set o n (List.getD o n [] ++ [i])) := by
 obtain ⟨f, hf⟩ := h.no
 have hg : List.getD o n [] = o[n] := by simp [List.getD, List.getElem?_eq_getElem hn]
 rw [hg]
 have hin : o[n] ∈ o := List.getElem_mem hn
 have split : ∀ u ∈ List.set o n (o[n] ++ [i]), u ∈ o ∨ u = o[n] ++ [i] := fun u hu => List.mem_or_eq_of_mem_set hu
 refine ⟨fun u hu => ?_, fun u hu m hm => ?_, fun u hu => ?_, fun m => if m = i then n else f m, fun k u hk m hm => ?_⟩
 ·rcases split u hu with hu | rfl
  ·exact h.some u hu
  ·simp
 ·rcases split u hu with hu | rfl
  ·exact h.next.on u hu m hm
  ·rcases List.mem_append.1 hm with hm | hm
   ·exact h.next.on _ hin m hm
   ·rw [List.mem_singleton.1 hm]
    exact ⟨h0, by omega, ht⟩
 ·rcases split u hu with hu | rfl
  ·exact h.once u hu
  ·rw [List.nodup_append]
   refine ⟨h.once _ hin, by simp, fun a ha b hb => ?_⟩
   rw [List.mem_singleton.1 hb]
   have := (h.on _ hin a ha).2.1
   omega
 ·rw [List.getElem?_set] at hk
  split at hk
  ·rename_i hnk
   subst hnk
   injection hk with hk
   subst hk
   rcases List.mem_append.1 hm with hm | hm
   ·have h1 := (h.on _ hin m hm).2.1
    simp only [show ¬ m = i by omega, if_false]
    exact hf n _ (List.getElem?_eq_getElem hn) m hm
   ·simp [List.mem_singleton.1 hm]
  ·have h1 := (h.on u (List.mem_of_getElem? hk) m hm).2.1
   simp only [show ¬ m = i by omega, if_false]
   exact hf k u hk m hm
def Below (N : List Int) (n : Nat) : Prop := ∀ x ∈ N, -1 ≤ x ∧ x < (n : Int)
theorem Below.more {N : List Int} {n m : Nat} (h : Below N n) (hm : n ≤ m) : Below N m := fun x hx => ⟨(h x hx).1, by have := (h x hx).2; omega⟩
theorem ZcL {l : List Int} {i : Nat} (h : i < l.length) (d : Int) : List.getD l i d ∈ l := by
 simp only [List.getD, List.getElem?_eq_getElem h, Option.getD_some]
 exact List.getElem_mem h
theorem ZyG (b : BoardD) : ∀ (r pre : List CellD) (N : List Int) (o : List (List Int)), pre ++ r = b.2.2 → N.length = b.2.2.length → Below N o.length → o.length ≤ pre.length → UnitsOK b.2.2 pre.length o → UnitsOK b.2.2 b.2.2.length (unitsGo (groupsOf b) pre.length r N o) ∧ (unitsGo (groupsOf b) pre.length r N o).length ≤ b.2.2.length
 | [], pre, N, o, hp, hN, hB, hlen, ho => by
  rw [List.append_nil] at hp
  subst hp
  exact ⟨ho, hlen⟩
 | x :: r, pre, N, o, hp, hN, hB, hlen, ho => by
  have hlt : pre.length < b.2.2.length := by rw [← hp]; simp
  have hx : List.getD b.2.2 pre.length (0, 0) = x := by rw [← hp]; exact Z7 _ _ _ _
  have hcast : ((pre ++ [x]).length : Int) = (pre.length : Int) + 1 := by simp
  have h0 : (0 : Int) ≤ (pre.length : Int) := Int.natCast_nonneg _
  have hp' : (pre ++ [x]) ++ r = b.2.2 := by rw [← hp]; simp
  have ih := fun N o h1 h2 h3 h4 => ZyG b r (pre ++ [x]) N o hp' h1 h2 h3 h4
  rw [hcast] at ih
  simp only [unitsGo, Int.toNat_natCast]
  split
  ·rename_i h3
   exact ih _ _ hN (hB.more (by simp)) (by simp; omega) (ho.fresh h0 (by rw [Int.toNat_natCast, hx]; simp [turning, h3]))
  ·split
   ·rename_i h6
    have hg : geared x = true := by simp [geared, h6]
    have ht : turning (List.getD b.2.2 (pre.length : Int).toNat (0, 0)) = true := by rw [Int.toNat_natCast, hx]; simp [turning, h6]
    have hG0 := Z8V b hlt (by rw [hx]; exact hg)
    have hG1 := Zcs b _ (ZcL (l := groupsOf b) (i := pre.length) (by rw [Z1W]; exact hlt) 0)
    have hNl : (List.getD (groupsOf b) pre.length 0).toNat < N.length := by rw [hN]; omega
    have hNB := hB _ (ZcL hNl 0)
    split
    ·refine ih _ _ (by simpa using hN) ?_ (by simp; omega) (ho.fresh h0 ht)
     intro y hy
     rcases List.mem_or_eq_of_mem_set hy with hy | rfl
     ·have := hB y hy
      simp only [List.length_append, List.length_singleton]
      omega
     ·simp only [List.length_append, List.length_singleton]
      omega
    ·refine ih _ _ hN (by rw [List.length_set]; exact hB) (by rw [List.length_set]; simp; omega) (ho.join h0 ht (by omega))
   ·exact ih _ _ hN hB (by simp; omega) ho.next
theorem Zbi (b : BoardD) : UnitsOK b.2.2 b.2.2.length (unitsP b) ∧ (unitsP b).length ≤ b.2.2.length := by
 refine ZyG b b.2.2 [] (List.replicate b.2.2.length (-1)) [] rfl (by simp) (fun x hx => ?_) (Nat.le_refl _) ⟨by simp, by simp, by simp, fun _ => 0, by simp⟩
 rw [(List.mem_replicate.1 hx).2]
 simp
end Go.Proofs.Ytglkedenkcpcbaa.Vs

set_option linter.unusedVariables false
set_option linter.unusedSimpArgs false
namespace Go.Proofs.Ytglkedenkcpcbaa.Vs
open Go.RowKit
def cellAt (o : List CellD) (m : Int) : CellD := List.getD o m.toNat (0, 0)
def flipC (x : CellD) : CellD := (x.1, 1 - x.2)
def flipAt (o : List CellD) (m : Int) : List CellD := List.set o m.toNat (flipC (cellAt o m))
def turnU (u : List Int) (o : List CellD) : List CellD := u.foldl flipAt o
theorem Z6M : ∀ (u : List Int) (o : List CellD), (turnU u o).length = o.length
 | [], o => rfl
 | m :: u, o => by
  show (turnU u (flipAt o m)).length = _
  rw [Z6M u]; simp [flipAt]
theorem ZDg {o : List CellD} {i m : Int} (h0 : 0 ≤ i) (h1 : i < (o.length : Int)) (hm : 0 ≤ m) : cellAt (flipAt o i) m = if m = i then flipC (cellAt o m) else cellAt o m := by
 unfold flipAt cellAt
 rw [Ze3 o i.toNat m.toNat _ _ (by omega)]
 by_cases h : m = i
 ·subst h; simp
 ·rw [if_neg h, if_neg (by omega)]
theorem Z4X : ∀ (u : List Int) (o : List CellD) (m : Int), (∀ i ∈ u, 0 ≤ i ∧ i < (o.length : Int)) → u.Nodup → 0 ≤ m → cellAt (turnU u o) m = if m ∈ u then flipC (cellAt o m) else cellAt o m
 | [], o, m, hi, hn, hm => by simp [turnU]
 | i :: u, o, m, hi, hn, hm => by
  obtain ⟨hn1, hn2⟩ := List.nodup_cons.1 hn
  obtain ⟨h0, h1⟩ := hi i (List.mem_cons_self ..)
  show cellAt (turnU u (flipAt o i)) m = _
  rw [Z4X u (flipAt o i) m (fun j hj => by have := hi j (List.mem_cons_of_mem _ hj); simpa [flipAt] using this) hn2 hm, ZDg h0 h1 hm]
  by_cases hmi : m = i
  ·subst hmi
   simp [hn1]
  ·simp [hmi]
def bitOf (o : List CellD) (u : List Int) : Int := (cellAt o (List.getD u 0 0)).2
def bitsP (o : List CellD) (us : List (List Int)) : List Int := us.map (bitOf o)
def setGo : List (List Int) → List Int → List CellD → List CellD
 | u :: us, x :: xs, o => setGo us xs (if bitOf o u = x then o else turnU u o)
 | _, _, o => o
structure Units (us : List (List Int)) (n : Nat) : Prop where
 some : ∀ u ∈ us, u ≠ []
 on : ∀ u ∈ us, ∀ m ∈ u, 0 ≤ m ∧ m < (n : Int)
 once : ∀ u ∈ us, u.Nodup
 apart : us.Pairwise fun u v => ∀ m ∈ u, m ∉ v
theorem Units.tail {u : List Int} {us : List (List Int)} {n : Nat} (h : Units (u :: us) n) : Units us n :=
 ⟨fun v hv => h.some v (List.mem_cons_of_mem _ hv), fun v hv => h.on v (List.mem_cons_of_mem _ hv), fun v hv => h.once v (List.mem_cons_of_mem _ hv), (List.pairwise_cons.1 h.apart).2⟩
theorem UnitsOK.units {L : List CellD} {n : Nat} {us : List (List Int)} (h : UnitsOK L n us) : Units us n := by
 refine ⟨h.some, fun u hu m hm => ⟨(h.on u hu m hm).1, (h.on u hu m hm).2.1⟩, h.once, ?_⟩
 obtain ⟨f, hf⟩ := h.no
 rw [List.pairwise_iff_getElem]
 intro i j hi hj hij m hm hm2
 have h1 := hf i _ (List.getElem?_eq_getElem hi) m hm
 have h2 := hf j _ (List.getElem?_eq_getElem hj) m hm2
 omega
theorem ZeD {u : List Int} (h : u ≠ []) : List.getD u 0 0 ∈ u := by
 cases u with
 | nil => exact absurd rfl h
 | cons a u => simp
theorem ZsK {us : List (List Int)} {u : List Int} {n : Nat} (h : Units (u :: us) n) {o : List CellD} (ho : o.length = n) {v : List Int} (hv : v ∈ us) : bitOf (turnU u o) v = bitOf o v := by
 have hin := ZeD (h.tail.some v hv)
 have hap := (List.pairwise_cons.1 h.apart).1 v hv
 unfold bitOf
 rw [Z4X u o _ (fun i hi => by have := h.on u (List.mem_cons_self ..) i hi; omega) (h.once u (List.mem_cons_self ..)) (h.tail.on v hv _ hin).1, if_neg (fun hm => hap _ hm hin)]
theorem ZaV : ∀ (us : List (List Int)) (xs : List Int) (o : List CellD), (setGo us xs o).length = o.length
 | [], _, o => by simp [setGo]
 | u :: us, [], o => by simp [setGo]
 | u :: us, x :: xs, o => by
  simp only [setGo]
  rw [ZaV us xs]
  split
  ·rfl
  ·exact Z6M u o
theorem Z9k : ∀ (us : List (List Int)) (xs : List Int) (o : List CellD) (m : Int), Units us o.length → 0 ≤ m → (∀ u ∈ us, m ∉ u) → cellAt (setGo us xs o) m = cellAt o m
 | [], _, o, m, h, hm, hn => by simp [setGo]
 | u :: us, [], o, m, h, hm, hn => by simp [setGo]
 | u :: us, x :: xs, o, m, h, hm, hn => by
  simp only [setGo]
  split
  ·exact Z9k us xs o m h.tail hm (fun v hv => hn v (List.mem_cons_of_mem _ hv))
  ·rw [Z9k us xs _ m (by rw [Z6M]; exact h.tail) hm (fun v hv => hn v (List.mem_cons_of_mem _ hv)), Z4X u o m (fun i hi => h.on u (List.mem_cons_self ..) i hi) (h.once u (List.mem_cons_self ..)) hm, if_neg (hn u (List.mem_cons_self ..))]
theorem ZcA : ∀ (us : List (List Int)) (xs : List Int) (o : List CellD) (m : Int) (k : Nat) (u : List Int) (x : Int), Units us o.length → us[k]? = some u → xs[k]? = some x → m ∈ u → cellAt (setGo us xs o) m = if bitOf o u = x then cellAt o m else flipC (cellAt o m)
 | [], _, o, m, k, u, x, h, hu, hx, hm => by simp at hu
 | v :: us, [], o, m, k, u, x, h, hu, hx, hm => by simp at hx
 | v :: us, y :: xs, o, m, 0, u, x, h, hu, hx, hm => by
  simp only [List.getElem?_cons_zero, Option.some.injEq] at hu hx
  subst hu hx
  have hm0 := (h.on v (List.mem_cons_self ..) m hm).1
  have hap := (List.pairwise_cons.1 h.apart).1
  have hnot : ∀ w ∈ us, m ∉ w := fun w hw => hap w hw m hm
  simp only [setGo]
  split
  ·exact Z9k us xs o m h.tail hm0 hnot
  ·rw [Z9k us xs _ m (by rw [Z6M]; exact h.tail) hm0 hnot, Z4X v o m (fun i hi => h.on v (List.mem_cons_self ..) i hi) (h.once v (List.mem_cons_self ..)) hm0, if_pos hm]
 | v :: us, y :: xs, o, m, k + 1, u, x, h, hu, hx, hm => by
  simp only [List.getElem?_cons_succ] at hu hx
  have hin := List.mem_of_getElem? hu
  have hm0 := (h.tail.on u hin m hm).1
  have hap := (List.pairwise_cons.1 h.apart).1 u hin
  simp only [setGo]
  split
  ·exact ZcA us xs o m k u x h.tail hu hx hm
  ·rw [ZcA us xs _ m k u x (by rw [Z6M]; exact h.tail) hu hx hm, ZsK h rfl hin, Z4X v o m (fun i hi => h.on v (List.mem_cons_self ..) i hi) (h.once v (List.mem_cons_self ..)) hm0, if_neg (fun hmv => hap m hmv hm)]
theorem Zsc {o o' : List CellD} (hl : o.length = o'.length) (h : ∀ m : Int, 0 ≤ m → m < (o.length : Int) → cellAt o m = cellAt o' m) : o = o' := by
 apply List.ext_getElem hl
 intro i h1 h2
 have := h (i : Int) (by omega) (by omega)
 simpa [cellAt, List.getD, List.getElem?_eq_getElem h1, List.getElem?_eq_getElem h2] using this
def isBit (x : Int) : Prop := x = 0 ∨ x = 1
theorem ZF3 {x : CellD} (h : isBit x.2) : isBit (flipC x).2 := by
 rcases h with h | h <;> simp [isBit, flipC, h]
theorem ZDL (us : List (List Int)) (m : Int) : (∀ u ∈ us, m ∉ u) ∨ ∃ (k : Nat) (u : List Int), us[k]? = some u ∧ m ∈ u := by
 by_cases h : ∃ u ∈ us, m ∈ u
 ·obtain ⟨u, hu, hm⟩ := h
  obtain ⟨k, hk⟩ := List.getElem?_of_mem hu
  exact .inr ⟨k, u, hk, hm⟩
 ·exact .inl (fun u hu hm => h ⟨u, hu, hm⟩)
theorem ZCD {us : List (List Int)} {xs : List Int} (hl : xs.length = us.length) {k : Nat} {u : List Int} (hu : us[k]? = some u) : ∃ x, xs[k]? = some x ∧ x ∈ xs := by
 have hk := (List.getElem?_eq_some_iff.1 hu).1
 exact ⟨xs[k], List.getElem?_eq_getElem (by omega), List.getElem_mem _⟩
theorem ZAr {us : List (List Int)} {xs : List Int} {o : List CellD} (h : Units us o.length) (hx : ∀ x ∈ xs, isBit x) (ho : ∀ c ∈ o, isBit c.2) {k : Nat} {u : List Int} {x : Int} (hu : us[k]? = some u) (hxk : xs[k]? = some x) : bitOf (setGo us xs o) u = x := by
 have hin := ZeD (h.some u (List.mem_of_getElem? hu))
 have hon := h.on u (List.mem_of_getElem? hu) _ hin
 have h1 := ZcA us xs o _ k u x h hu hxk hin
 have hb : isBit (bitOf o u) := ho _ (Z8c hon.1 hon.2 (0, 0))
 have hxb := hx x (List.mem_of_getElem? hxk)
 unfold bitOf at h1 hb ⊢
 rw [h1]
 split
 ·assumption
 ·rename_i hne
  simp only [flipC]
  rcases hb with hb | hb <;> rcases hxb with hxb | hxb <;> rw [hb, hxb] at hne <;> first | exact absurd rfl hne | (rw [hb, hxb]; rfl)
theorem Zz5 {us : List (List Int)} {xs : List Int} {o : List CellD} (h : Units us o.length) (hl : xs.length = us.length) (hx : ∀ x ∈ xs, isBit x) (ho : ∀ c ∈ o, isBit c.2) : bitsP (setGo us xs o) us = xs := by
 apply List.ext_getElem?
 intro k
 simp only [bitsP, List.getElem?_map]
 cases hu : us[k]? with
 | none =>
  have := List.getElem?_eq_none_iff.1 hu
  rw [List.getElem?_eq_none (by omega)]; rfl
 | some u =>
  obtain ⟨x, hxk, _⟩ := ZCD hl hu
  rw [hxk, Option.map_some, ZAr h hx ho hu hxk]
theorem ZyO : ∀ (us : List (List Int)) (o : List CellD), setGo us (bitsP o us) o = o
 | [], o => rfl
 | u :: us, o => by
  show setGo us (bitsP o us) (if bitOf o u = bitOf o u then o else turnU u o) = o
  rw [if_pos rfl]; exact ZyO us o
theorem ZAs (x : CellD) : flipC (flipC x) = x := by
 unfold flipC
 ext
 ·rfl
 ·show 1 - (1 - x.2) = x.2
  omega
theorem ZEx {us : List (List Int)} {xs ys : List Int} {o : List CellD} (h : Units us o.length) (hl : xs.length = us.length) (hl2 : ys.length = us.length) (hx : ∀ x ∈ xs, isBit x) (hy : ∀ x ∈ ys, isBit x) (ho : ∀ c ∈ o, isBit c.2) : setGo us ys (setGo us xs o) = setGo us ys o := by
 refine Zsc (by rw [ZaV, ZaV, ZaV]) (fun m h0 h1 => ?_)
 have h' : Units us (setGo us xs o).length := by rw [ZaV]; exact h
 rcases ZDL us m with hm | ⟨k, u, hu, hm⟩
 ·rw [Z9k us ys _ m h' h0 hm, Z9k us xs _ m h h0 hm, Z9k us ys _ m h h0 hm]
 ·obtain ⟨x, hxk, hxm⟩ := ZCD hl hu
  obtain ⟨y, hyk, hym⟩ := ZCD hl2 hu
  rw [ZcA us ys _ m k u y h' hu hyk hm, ZcA us xs _ m k u x h hu hxk hm, ZcA us ys _ m k u y h hu hyk hm, ZAr h hx ho hu hxk]
  have hin := ZeD (h.some u (List.mem_of_getElem? hu))
  have hon := h.on u (List.mem_of_getElem? hu) _ hin
  have hb : isBit (bitOf o u) := ho _ (Z8c hon.1 hon.2 (0, 0))
  have hxb := hx x hxm
  have hyb := hy y hym
  generalize bitOf o u = s at hb ⊢
  rcases hb with rfl | rfl <;> rcases hxb with rfl | rfl <;> rcases hyb with rfl | rfl <;> simp [ZAs]
theorem ZDw : ∀ (us : List (List Int)) (xs : List Int) (o : List CellD), (∀ u ∈ us, ∀ m ∈ u, 0 ≤ m ∧ m < (o.length : Int) ∧ turning (cellAt o m) = true) → (∀ c ∈ o, cellOK c = true) → (∀ c ∈ setGo us xs o, cellOK c = true) ∧ (setGo us xs o).map Prod.fst = o.map Prod.fst := by
 have one : ∀ (u : List Int) (o : List CellD), (∀ m ∈ u, 0 ≤ m ∧ m < (o.length : Int) ∧ turning (cellAt o m) = true) → (∀ c ∈ o, cellOK c = true) → (∀ c ∈ turnU u o, cellOK c = true) ∧ (turnU u o).map Prod.fst = o.map Prod.fst := by
  intro u
  induction u with
  | nil => intro o _ ho; exact ⟨ho, rfl⟩
  | cons i u ih =>
   intro o hu ho
   obtain ⟨h0, h1, ht⟩ := hu i (List.mem_cons_self ..)
   have hp : (flipAt o i).map Prod.fst = o.map Prod.fst := by
    have hil : i.toNat < o.length := by omega
    unfold flipAt
    rw [List.map_set]
    show List.set (o.map Prod.fst) i.toNat (cellAt o i).1 = _
    apply List.ext_getElem?
    intro j
    rw [List.getElem?_set]
    split
    ·rename_i hij
     subst hij
     simp [cellAt, List.getD, List.getElem?_eq_getElem hil, hil]
    ·rfl
   have hok : ∀ c ∈ flipAt o i, cellOK c = true := by
    intro c hc
    rcases List.mem_or_eq_of_mem_set hc with hc | rfl
    ·exact ho c hc
    ·have hx := ho _ (Z8c h0 h1 (0, 0))
     have hxx : cellOK (cellAt o i) = true := hx
     unfold turning at ht
     unfold cellOK flipC at *
     simp only [decide_eq_true_eq] at *
     omega
   have := ih (flipAt o i) (fun m hm => by
    obtain ⟨a, b, c⟩ := hu m (List.mem_cons_of_mem _ hm)
    refine ⟨a, by simpa [flipAt] using b, ?_⟩
    have : (cellAt (flipAt o i) m).1 = (cellAt o m).1 := ZlQ hp _
    unfold turning at c ⊢
    rw [this]; exact c) hok
   exact ⟨this.1, this.2.trans hp⟩
 intro us
 induction us with
 | nil => intro xs o _ ho; exact ⟨by simpa [setGo] using ho, by simp [setGo]⟩
 | cons u us ih =>
  intro xs o hu ho
  cases xs with
  | nil => exact ⟨by simpa [setGo] using ho, by simp [setGo]⟩
  | cons x xs =>
   simp only [setGo]
   split
   ·exact ih xs o (fun v hv => hu v (List.mem_cons_of_mem _ hv)) ho
   ·obtain ⟨h1, h2⟩ := one u o (hu u (List.mem_cons_self ..)) ho
    have := ih xs (turnU u o) (fun v hv m hm => by
     obtain ⟨a, b, c⟩ := hu v (List.mem_cons_of_mem _ hv) m hm
     refine ⟨a, by rw [Z6M]; exact b, ?_⟩
     have : (cellAt (turnU u o) m).1 = (cellAt o m).1 := ZlQ h2 _
     unfold turning at c ⊢
     rw [this]; exact c) h1
    exact ⟨this.1, this.2.trans h2⟩
theorem ZgR {x : CellD} (h : cellOK x = true) : isBit x.2 := by
 unfold cellOK at h
 simp only [decide_eq_true_eq] at h
 unfold isBit
 omega
def numP : List Int → Int
 | [] => 0
 | x :: r => x + 2 * numP r
def bitsN : Nat → Int → List Int
 | 0, _ => []
 | u + 1, n => n % 2 :: bitsN u (n / 2)
theorem Z3S : ∀ (u : Nat) (n : Int), (bitsN u n).length = u
 | 0, _ => rfl
 | u + 1, n => by simp [bitsN, Z3S u]
theorem ZhC : ∀ (u : Nat) (n : Int), ∀ x ∈ bitsN u n, isBit x
 | 0, _, x, hx => by cases hx
 | u + 1, n, x, hx => by
  rcases List.mem_cons.1 hx with rfl | hx
  ·unfold isBit; omega
  ·exact ZhC u _ x hx
theorem Zjl : ∀ (xs : List Int), (∀ x ∈ xs, isBit x) → 0 ≤ numP xs ∧ numP xs < 2 ^ xs.length
 | [], _ => by simp [numP]
 | x :: r, h => by
  have ih := Zjl r (fun y hy => h y (List.mem_cons_of_mem _ hy))
  have hx := h x (List.mem_cons_self ..)
  simp only [numP, List.length_cons, Int.pow_succ]
  unfold isBit at hx
  omega
theorem Zsu : ∀ (xs : List Int) (y : Int), numP (xs ++ [y]) = numP xs + y * 2 ^ xs.length
 | [], y => by simp [numP]
 | x :: r, y => by
  simp only [List.cons_append, numP, List.length_cons, Int.pow_succ]
  rw [Zsu r y, Int.mul_add, ← Int.mul_assoc y, Int.mul_comm (y * 2 ^ r.length) 2]
  omega
theorem Zy6 : ∀ (u : Nat) (n : Int), 0 ≤ n → n < 2 ^ u → numP (bitsN u n) = n
 | 0, n, h0, h1 => by simp at h1; simp [bitsN, numP]; omega
 | u + 1, n, h0, h1 => by
  rw [Int.pow_succ] at h1
  simp only [bitsN, numP]
  rw [Zy6 u (n / 2) (by omega) (by omega)]
  omega
theorem ZpA : ∀ (xs : List Int), (∀ x ∈ xs, isBit x) → bitsN xs.length (numP xs) = xs
 | [], _ => rfl
 | x :: r, h => by
  have ih := ZpA r (fun y hy => h y (List.mem_cons_of_mem _ hy))
  have hx := h x (List.mem_cons_self ..)
  unfold isBit at hx
  have e1 : (x + 2 * numP r) % 2 = x := by omega
  have e2 : (x + 2 * numP r) / 2 = numP r := by omega
  simp only [numP, List.length_cons, bitsN, e1, e2, ih]
theorem Zpp : ∀ (u : Nat) (n : Int) (k : Nat), k < u → (bitsN u n)[k]? = some (n / 2 ^ k % 2)
 | 0, n, k, h => by omega
 | u + 1, n, 0, h => by simp [bitsN]
 | u + 1, n, k + 1, h => by
  simp only [bitsN, List.getElem?_cons_succ]
  rw [Zpp u (n / 2) k (by omega), Int.pow_succ, Int.mul_comm, Int.ediv_ediv_of_nonneg (by omega)]
theorem ZyK (u : Nat) (n : Int) : bitsN (u + 1) n = bitsN u n ++ [n / 2 ^ u % 2] := by
 apply List.ext_getElem?
 intro k
 rcases Nat.lt_trichotomy k u with h | h | h
 ·rw [Zpp _ _ _ (by omega), List.getElem?_append_left (by rw [Z3S]; exact h), Zpp _ _ _ h]
 ·subst h
  rw [Zpp _ _ _ (by omega), List.getElem?_append_right (by rw [Z3S]; omega), Z3S]
  simp
 ·rw [List.getElem?_eq_none (by rw [Z3S]; omega), List.getElem?_eq_none (by simp [Z3S]; omega)]
end Go.Proofs.Ytglkedenkcpcbaa.Vs
