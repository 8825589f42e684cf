/- The proof, part 10. -/
import Derived.Test.YtpeflcbadgfebaaqAm8
set_option maxRecDepth 100000
set_option maxHeartbeats 2000000
set_option linter.unusedVariables false
set_option linter.unusedSimpArgs false
namespace Go.Proofs.Ytpeflcbadgfebaa.Vs
open Go.RowKit
noncomputable section
noncomputable def rKT : List PK := [PK.mk Ty.bool false none false none]
noncomputable def toKT (r : Bool) : Tup rKT × OutD := ((r, ()), none)
noncomputable def ofKT : Tup rKT × OutD → Option (Bool)
 | (a, none) => some (a.1)
 | _ => none
theorem ZCX : ∀ b r, ofKT b = some r → toKT r = b := by
 rintro ⟨a, o⟩ r h
 cases o with
 | none => injection h with h; subst h; rfl
 | some _ => cases h
noncomputable def qKT : List KP := [.tree false (Ty.slice 3 (Ty.int .i64)), .cp (Ty.slice 69 (.slice 71 (.slice 94 (.pair (.int Go.IntKind.i64) (.pair (.int Go.IntKind.i64) (.int Go.IntKind.i64)))))), .cp (Ty.int .i64)]
noncomputable def fKT : Nat → List Int → List (List (List (Int × Int × Int))) → Int → Option Bool
 | 0, _, _, _ => none
 | k + 1, p0, e, a => Option.bind (Z28 k e p0) fun z0 => some (decide ((↑(List.length z0) : Int) = a))
noncomputable def dKT : KDef := .of qKT rKT Bool (fun k x => fKT k x.1 x.2.1 x.2.2.1) toKT ofKT ZCX
noncomputable def cKT : Code := Try.f46.body.getD .skip
noncomputable def xKT : Ctx (Tup rKT × OutD) := { T := T, G := [(43, Z1p.E)], no := 0, n := 11, res := resOf T [] rKT Try.f46.results.toList }
theorem gKT (k : Nat) : EnvOK Try.prog k xKT.G := (EnvOK.cons (Zhq k) (EnvOK.nil mixed))
theorem hKT (k : Nat) (x : KTup dKT.ps) : dKT.f (k + 1) x = fnKK dKT xKT cKT k x := by kernel_rfl
theorem zKT (x : KTup dKT.ps) : dKT.f 0 x = none := by kernel_rfl
theorem lKT (k : Nat) : LOK Try.prog xKT k cKT := LOK.by [] (by kernel_rfl) AllOK.nil
theorem sKT (k : Nat) : ClSound Try.prog k 46 dKT.E := @Zvk Try.prog dKT xKT 46 Try.f46 cKT (by kernel_rfl) (by kernel_rfl) (by kernel_rfl) Try.func46 (by kernel_rfl) (by kernel_rfl) T_ok gKT lKT zKT hKT k
noncomputable def qXT : QSig := { ps := [.tree false (Ty.slice 3 (Ty.int .i64)), .tree false (Ty.int .i64), .tree false (Ty.int .i64)], fe := 46, ts := [(Ty.slice 69 (.slice 71 (.slice 94 (.pair (.int Go.IntKind.i64) (.pair (.int Go.IntKind.i64) (.int Go.IntKind.i64)))))), (Ty.int .i64)], fs := 66, eF := 4, eB := 28, eR := 3, t := (Ty.int .i64) }
noncomputable def FXT : Nat → (List Int → Int → Int → List (List (List (Int × Int × Int))) → Int → Int → Int → Bool → List Int → Option (Bool × List Int)) × (List (List (List (Int × Int × Int))) → Int → Int → List Int → Int → Int → Int → Bool → List Int → Option (Bool × List Int))
  | 0 => (fun _ _ _ _ _ _ _ _ _ => none, fun _ _ _ _ _ _ _ _ _ => none)
  | k + 1 => (fun l fr lf e a n n2 fd b =>
      if fd = true then some (fd, b)
      else if decide (lf = (0 : Int)) = true then
        Option.bind (fKT k l e a) fun z0 => if z0 = true then (if List.length ([] : List Int) + List.length l ≤ (140737488355328 / 8 : Nat) then some (true, [] ++ l) else none) else some (fd, b)
      else Option.bind ((FXT k).2 e a n2 l lf n fr fd b) fun z0 => some z0,
    fun e a n2 l lf n i fd b =>
      if decide (wrap64 (i + lf) ≤ n) = true then
        Option.bind (if List.length ([] : List Int) + List.length l ≤ (140737488355328 / 8 : Nat) then
          if List.length ([] ++ l) + List.length [i] ≤ (140737488355328 / 8 : Nat) then
            Option.bind ((FXT k).1 ([] ++ l ++ [i]) (wrap64 (i + (1 : Int))) (wrap64 (lf - (1 : Int))) e a n2 n2 fd b) fun z0 => some (z0.1, z0.2, e, a, n2, l, lf, n, i)
          else none
        else none) fun z => (FXT k).2 z.2.2.1 z.2.2.2.1 z.2.2.2.2.1 z.2.2.2.2.2.1 z.2.2.2.2.2.2.1 z.2.2.2.2.2.2.2.1 (wrap64 (z.2.2.2.2.2.2.2.2 + (1 : Int))) z.1 z.2.1
      else some (fd, b))
noncomputable def dXT : QDef := .of qXT (fun k x => (FXT k).1 x.1.1 x.1.2.1 x.1.2.2.1 x.2.1.1 x.2.1.2.1 x.2.2.1 x.2.2.2.1 x.2.2.2.2.1 x.2.2.2.2.2)
noncomputable def cXT : Code := Try.f66.body.getD .skip
noncomputable def iXT : Spec := Spec.mk [OSh.ro, OSh.box 4 [Sh.bool], OSh.box 28 [Sh.sl 3], OSh.row true 3 (Ty.int .i64), OSh.clo 46 [Sh.es 0 (Ty.slice 69 (.slice 71 (.slice 94 (.pair (.int Go.IntKind.i64) (.pair (.int Go.IntKind.i64) (.int Go.IntKind.i64)))))), Sh.es 0 (Ty.int .i64)], OSh.clo 66 [Sh.ptr 1 0, Sh.pc 0 4, Sh.ptr 2 0, Sh.es 0 (Ty.int .i64), Sh.pc 0 5]] [(0, TSh.at (Sh.snap 0 (Ty.int .i64))), (2, TSh.at (Sh.int .i64)), (6, TSh.at (Sh.es 0 (Ty.int .i64))), (7, TSh.at (Sh.pc 0 5)), (11, TSh.at (Sh.int .i64))]
noncomputable def oXT : Spec := Spec.mk [OSh.ro, OSh.box 4 [Sh.bool], OSh.box 28 [Sh.sl 3], OSh.row true 3 (Ty.int .i64)] []
noncomputable def LXT : LoopDef (Bool × List Int) := .plain iXT oXT (Bool × List Int) (fun k x => (FXT k).2 x.1.2.2.2.2.1.1 x.1.2.2.2.2.1.2.1 x.1.2.2.2.2.2.1.2.2.2.1 x.2.1 x.2.2.1 x.2.2.2.1 x.2.2.2.2.2.1 x.1.2.1.1 x.1.2.2.2.1) (fun z => (((), (z.1, ()), ((), ()), z.2, ()), ())) (fun y => (y.1.2.1.1, y.1.2.2.2.1)) (fun _ => rfl)
noncomputable def GXT (k : Nat) (e : List (List (List (Int × Int × Int)))) (a : Int) (n2 : Int) (l : List Int) (lf n i : Int) (fd : Bool) (b : List Int) : Option (Bool × List Int × List (List (List (Int × Int × Int))) × Int × Int × List Int × Int × Int × Int) := if List.length ([] : List Int) + List.length l ≤ (140737488355328 / 8 : Nat) then if List.length ([] ++ l) + List.length [i] ≤ (140737488355328 / 8 : Nat) then Option.bind ((FXT k).1 ([] ++ l ++ [i]) (wrap64 (i + (1 : Int))) (wrap64 (lf - (1 : Int))) e a n2 n2 fd b) fun z0 => some (z0.1, z0.2, e, a, n2, l, lf, n, i) else none else none
noncomputable def AXT (k : Nat) (e : List (List (List (Int × Int × Int)))) (a : Int) (n2 : Int) (l : List Int) (lf n i : Int) (fd : Bool) (b : List Int) : Option (List (Bool × List Int × List (List (List (Int × Int × Int))) × Int × Int × List Int × Int × Int × Int)) := (joinL (joinL (joinL (if List.length ([] : List Int) + List.length l ≤ (140737488355328 / 8 : Nat) then (if List.length ([] ++ l) + List.length [i] ≤ (140737488355328 / 8 : Nat) then (Option.bind ((FXT k).1 ([] ++ l ++ [i]) (wrap64 (i + (1 : Int))) (wrap64 (lf - (1 : Int))) e a n2 n2 fd b) fun z0 => some [(z0.1, z0.2, e, a, n2, l, lf, n, i)]) else none) else none) (if List.length ([] : List Int) + List.length l ≤ (140737488355328 / 8 : Nat) then (if List.length ([] ++ l) + List.length [i] ≤ (140737488355328 / 8 : Nat) then (Option.bind ((FXT k).1 ([] ++ l ++ [i]) (wrap64 (i + (1 : Int))) (wrap64 (lf - (1 : Int))) e a n2 n2 fd b) fun z0 => some [(z0.1, z0.2, e, a, n2, l, lf, n, i)]) else none) else none)) (if List.length ([] : List Int) + List.length l ≤ (140737488355328 / 8 : Nat) then (if List.length ([] ++ l) + List.length [i] ≤ (140737488355328 / 8 : Nat) then (Option.bind ((FXT k).1 ([] ++ l ++ [i]) (wrap64 (i + (1 : Int))) (wrap64 (lf - (1 : Int))) e a n2 n2 fd b) fun z0 => some [(z0.1, z0.2, e, a, n2, l, lf, n, i)]) else none) else none)) (joinL (joinL (joinL (if List.length ([] : List Int) + List.length l ≤ (140737488355328 / 8 : Nat) then (if List.length ([] ++ l) + List.length [i] ≤ (140737488355328 / 8 : Nat) then (Option.bind ((FXT k).1 ([] ++ l ++ [i]) (wrap64 (i + (1 : Int))) (wrap64 (lf - (1 : Int))) e a n2 n2 fd b) fun z0 => some [(z0.1, z0.2, e, a, n2, l, lf, n, i)]) else none) else none) (if List.length ([] : List Int) + List.length l ≤ (140737488355328 / 8 : Nat) then (if List.length ([] ++ l) + List.length [i] ≤ (140737488355328 / 8 : Nat) then (Option.bind ((FXT k).1 ([] ++ l ++ [i]) (wrap64 (i + (1 : Int))) (wrap64 (lf - (1 : Int))) e a n2 n2 fd b) fun z0 => some [(z0.1, z0.2, e, a, n2, l, lf, n, i)]) else none) else none)) (joinL (if List.length ([] : List Int) + List.length l ≤ (140737488355328 / 8 : Nat) then (joinL (if List.length ([] ++ l) + List.length [i] ≤ (140737488355328 / 8 : Nat) then (Option.bind ((FXT k).1 ([] ++ l ++ [i]) (wrap64 (i + (1 : Int))) (wrap64 (lf - (1 : Int))) e a n2 n2 fd b) fun z0 => some [(z0.1, z0.2, e, a, n2, l, lf, n, i)]) else none) (joinL (if List.length ([] ++ l) + List.length [i] ≤ (140737488355328 / 8 : Nat) then (Option.bind ((FXT k).1 ([] ++ l ++ [i]) (wrap64 (i + (1 : Int))) (wrap64 (lf - (1 : Int))) e a n2 n2 fd b) fun z0 => some [(z0.1, z0.2, e, a, n2, l, lf, n, i)]) else none) (if List.length ([] ++ l) + List.length [i] ≤ (140737488355328 / 8 : Nat) then (Option.bind ((FXT k).1 ([] ++ l ++ [i]) (wrap64 (i + (1 : Int))) (wrap64 (lf - (1 : Int))) e a n2 n2 fd b) fun z0 => some [(z0.1, z0.2, e, a, n2, l, lf, n, i)]) else none))) else none) (joinL (if List.length ([] : List Int) + List.length l ≤ (140737488355328 / 8 : Nat) then (if List.length ([] ++ l) + List.length [i] ≤ (140737488355328 / 8 : Nat) then (Option.bind ((FXT k).1 ([] ++ l ++ [i]) (wrap64 (i + (1 : Int))) (wrap64 (lf - (1 : Int))) e a n2 n2 fd b) fun z0 => some [(z0.1, z0.2, e, a, n2, l, lf, n, i)]) else none) else none) (if List.length ([] : List Int) + List.length l ≤ (140737488355328 / 8 : Nat) then (joinL (if List.length ([] ++ l) + List.length [i] ≤ (140737488355328 / 8 : Nat) then (Option.bind ((FXT k).1 ([] ++ l ++ [i]) (wrap64 (i + (1 : Int))) (wrap64 (lf - (1 : Int))) e a n2 n2 fd b) fun z0 => some [(z0.1, z0.2, e, a, n2, l, lf, n, i)]) else none) (if List.length ([] ++ l) + List.length [i] ≤ (140737488355328 / 8 : Nat) then (Option.bind ((FXT k).1 ([] ++ l ++ [i]) (wrap64 (i + (1 : Int))) (wrap64 (lf - (1 : Int))) e a n2 n2 fd b) fun z0 => some [(z0.1, z0.2, e, a, n2, l, lf, n, i)]) else none)) else none)))) (joinL (if List.length ([] : List Int) + List.length l ≤ (140737488355328 / 8 : Nat) then (if List.length ([] ++ l) + List.length [i] ≤ (140737488355328 / 8 : Nat) then (Option.bind ((FXT k).1 ([] ++ l ++ [i]) (wrap64 (i + (1 : Int))) (wrap64 (lf - (1 : Int))) e a n2 n2 fd b) fun z0 => some [(z0.1, z0.2, e, a, n2, l, lf, n, i)]) else none) else none) (joinL (if List.length ([] : List Int) + List.length l ≤ (140737488355328 / 8 : Nat) then (if List.length ([] ++ l) + List.length [i] ≤ (140737488355328 / 8 : Nat) then (Option.bind ((FXT k).1 ([] ++ l ++ [i]) (wrap64 (i + (1 : Int))) (wrap64 (lf - (1 : Int))) e a n2 n2 fd b) fun z0 => some [(z0.1, z0.2, e, a, n2, l, lf, n, i)]) else none) else none) (if List.length ([] : List Int) + List.length l ≤ (140737488355328 / 8 : Nat) then (joinL (if List.length ([] ++ l) + List.length [i] ≤ (140737488355328 / 8 : Nat) then (Option.bind ((FXT k).1 ([] ++ l ++ [i]) (wrap64 (i + (1 : Int))) (wrap64 (lf - (1 : Int))) e a n2 n2 fd b) fun z0 => some [(z0.1, z0.2, e, a, n2, l, lf, n, i)]) else none) (if List.length ([] ++ l) + List.length [i] ≤ (140737488355328 / 8 : Nat) then (Option.bind ((FXT k).1 ([] ++ l ++ [i]) (wrap64 (i + (1 : Int))) (wrap64 (lf - (1 : Int))) e a n2 n2 fd b) fun z0 => some [(z0.1, z0.2, e, a, n2, l, lf, n, i)]) else none)) else none)))))
noncomputable def DXT : LoopDef (Bool × List Int) := .plain iXT iXT (Bool × List Int × List (List (List (Int × Int × Int))) × Int × Int × List Int × Int × Int × Int) (fun k x => GXT k x.1.2.2.2.2.1.1 x.1.2.2.2.2.1.2.1 x.1.2.2.2.2.2.1.2.2.2.1 x.2.1 x.2.2.1 x.2.2.2.1 x.2.2.2.2.2.1 x.1.2.1.1 x.1.2.2.2.1) (fun z => (((), (z.1, ()), ((), ()), z.2.1, (z.2.2.1, z.2.2.2.1, ()), ((), (), (), z.2.2.2.2.1, (), ()), ()), (z.2.2.2.2.2.1, z.2.2.2.2.2.2.1, z.2.2.2.2.2.2.2.1, (), z.2.2.2.2.2.2.2.2, ()))) (fun y => (y.1.2.1.1, y.1.2.2.2.1, y.1.2.2.2.2.1.1, y.1.2.2.2.2.1.2.1, y.1.2.2.2.2.2.1.2.2.2.1, y.2.1, y.2.2.1, y.2.2.2.1, y.2.2.2.2.2.1)) (fun _ => rfl)
theorem jXT (k : Nat) (e : List (List (List (Int × Int × Int)))) (a : Int) (n2 : Int) (l : List Int) (lf n i : Int) (fd : Bool) (b : List Int) : AXT k e a n2 l lf n i fd b = repl 15 (GXT k e a n2 l lf n i fd b) := by
 simp only [AXT, GXT, ZS, Z1Q, Z10, ZV, ZY, Zg, if_true]
noncomputable def OXT : Array Oper := (findReg 7 cXT).getD #[]
noncomputable def BXT : Code := (findLoop 0 cXT).getD .skip
noncomputable def xXT : Ctx (Bool × List Int) := { T := T, G := [(66, cloE dXT.E), (46, cloE dKT.E)], no := 2, n := 41, res := qXT.res, loops := [(0, LXT.E)], regs := [(7, DXT.E)] }
theorem eXT (k : Nat) (x : iXT.D) : execD xXT.T xXT.G xXT.mvs k OXT (DXT.inp.st xXT.n x) (outK xXT DXT) = AXT k x.1.2.2.2.2.1.1 x.1.2.2.2.2.1.2.1 x.1.2.2.2.2.2.1.2.2.2.1 x.2.1 x.2.2.1 x.2.2.2.1 x.2.2.2.2.2.1 x.1.2.1.1 x.1.2.2.2.1 := by kernel_rfl
theorem gXT (k : Nat) : EnvOK Try.prog k [(46, cloE dKT.E)] := .consC (sKT k) (.nil mixed)
theorem aXT (k : Nat) (x : iXT.D) : LXT.lp (k + 1) x = loopK xXT LXT 0 BXT k x := by kernel_rfl
theorem bXT (k : Nat) (hG : EnvOK Try.prog k xXT.G) : LOK Try.prog xXT k BXT := LOK.by [(DXT.E, .region 7 OXT true)] (by kernel_rfl) (AllOK.cons (ZaY (D := DXT) (m := 15) T_ok hG (fun x => (eXT k x).trans (jXT k x.1.2.2.2.2.1.1 x.1.2.2.2.2.1.2.1 x.1.2.2.2.2.2.1.2.2.2.1 x.2.1 x.2.2.1 x.2.2.2.1 x.2.2.2.2.2.1 x.1.2.1.1 x.1.2.2.2.1))) AllOK.nil)
theorem yXT (x : iXT.D) : LXT.lp 0 x = none := by kernel_rfl
theorem hXT (k : Nat) (x : qXT.In) : dXT.f (k + 1) x = fnKQ dXT xXT cXT k x := by kernel_rfl
theorem zXT (x : qXT.In) : dXT.f 0 x = none := by kernel_rfl
theorem lXT (k : Nat) (hG : ∀ j, j ≤ k → EnvOK Try.prog j xXT.G) : LOK Try.prog xXT k cXT := LOK.by [(LXT.E, .block 0 (.loop BXT))] (by kernel_rfl) (AllOK.cons (ZBA T_ok k hG yXT aXT (fun j hj => bXT j (hG j hj))) AllOK.nil)
theorem sXT (k : Nat) : ClSound Try.prog k 66 dXT.E := @ZC4 Try.prog dXT xXT 66 Try.f66 cXT [(46, cloE dKT.E)] (fun _ => rfl) (by kernel_rfl) (by kernel_rfl) (by kernel_rfl) (by kernel_rfl) Try.func66 (by kernel_rfl) (by kernel_rfl) (by kernel_rfl) T_ok gXT lXT zXT hXT k k (Nat.le_refl k)
noncomputable def rYT : List PK := [PK.mk (Ty.slice 3 (Ty.int .i64)) false none false none]
noncomputable def toYT (r : List Int) : Tup rYT × OutD := ((r, ()), none)
noncomputable def ofYT : Tup rYT × OutD → Option (List Int)
 | (a, none) => some (a.1)
 | _ => none
theorem ZD1 : ∀ b r, ofYT b = some r → toYT r = b := by
 rintro ⟨a, o⟩ r h
 cases o with
 | none => injection h with h; subst h; rfl
 | some _ => cases h
noncomputable def qYT : List KP := [.tree false (Ty.int .i64), .fn 46 [(Ty.slice 69 (.slice 71 (.slice 94 (.pair (.int Go.IntKind.i64) (.pair (.int Go.IntKind.i64) (.int Go.IntKind.i64)))))), (Ty.int .i64)]]
noncomputable def Zn0 : Nat → Int → List Int → Bool → List (List (List (Int × Int × Int))) → Int → Int → Option (List Int)
 | 0, _, _, _, _, _, _ => none
 | k + 1, n, b, fd, e, a, i =>
  if decide (i ≤ n) = true then if (!fd) = true then Option.bind ((FXT k).1 [] (0 : Int) i e a n n fd b) fun z0 => Zn0 k n z0.2 z0.1 e a (wrap64 (i + (1 : Int))) else some b else some b
noncomputable def fYT : Nat → Int → List (List (List (Int × Int × Int))) → Int → Option (List Int)
 | 0, _, _, _ => none
 | k + 1, n, e, a => Option.bind (Zn0 k n [] false e a (0 : Int)) fun z0 => some z0
noncomputable def dYT : KDef := .of qYT rYT (List Int) (fun k x => fYT k x.1 x.2.1.1 x.2.1.2.1) toYT ofYT ZD1
noncomputable def cYT : Code := Try.f45.body.getD .skip
noncomputable def iYT : Spec := Spec.mk [OSh.ro, OSh.box 3 [Sh.int .i64], OSh.box 28 [Sh.sl 3], OSh.row true 3 (Ty.int .i64), OSh.box 4 [Sh.bool], OSh.box 83 [Sh.cv 6], OSh.clo 66 [Sh.ptr 4 0, Sh.ptr 7 0, Sh.ptr 2 0, Sh.ptr 1 0, Sh.ptr 5 0], OSh.box 63 [Sh.cv 8], OSh.clo 46 [Sh.es 0 (Ty.slice 69 (.slice 71 (.slice 94 (.pair (.int Go.IntKind.i64) (.pair (.int Go.IntKind.i64) (.int Go.IntKind.i64)))))), Sh.es 0 (Ty.int .i64)]] [(2, TSh.at (Sh.ptr 1 0)), (5, TSh.at (Sh.ptr 2 0)), (6, TSh.at (Sh.ptr 4 0)), (7, TSh.at (Sh.ptr 5 0)), (8, TSh.at (Sh.int .i64))]
noncomputable def oYT : Spec := Spec.mk [OSh.ro, OSh.box 28 [Sh.sl 2], OSh.row true 3 (Ty.int .i64)] [(5, TSh.at (Sh.ptr 1 0))]
noncomputable def LYT : LoopDef (Tup rYT × OutD) := .plain iYT oYT (List Int) (fun k x => Zn0 k x.1.2.1.1 x.1.2.2.2.1 x.1.2.2.2.2.1.1 x.1.2.2.2.2.2.2.2.2.1.1 x.1.2.2.2.2.2.2.2.2.1.2.1 x.2.2.2.2.2.1) (fun z => (((), ((), ()), z, ()), ((), ()))) (fun y => y.1.2.2.1) (fun _ => rfl)
noncomputable def BYT : Code := (findLoop 0 cYT).getD .skip
noncomputable def xYT : Ctx (Tup rYT × OutD) := { T := T, G := [(66, cloE dXT.E)], no := 0, n := 24, res := resOf T [] rYT Try.f45.results.toList, loops := [(0, LYT.E)] }
theorem gYT (k : Nat) : EnvOK Try.prog k xYT.G := .consC (sXT k) (.nil mixed)
theorem aYT (k : Nat) (x : iYT.D) : LYT.lp (k + 1) x = loopK xYT LYT 0 BYT k x := by kernel_rfl
theorem bYT (k : Nat) : LOK Try.prog xYT k BYT := LOK.by [] (by kernel_rfl) AllOK.nil
theorem yYT (x : iYT.D) : LYT.lp 0 x = none := by kernel_rfl
theorem hYT (k : Nat) (x : KTup dYT.ps) : dYT.f (k + 1) x = fnKK dYT xYT cYT k x := by kernel_rfl
theorem zYT (x : KTup dYT.ps) : dYT.f 0 x = none := by kernel_rfl
theorem lYT (k : Nat) : LOK Try.prog xYT k cYT := LOK.by [(LYT.E, .block 0 (.loop BYT))] (by kernel_rfl) (AllOK.cons (Z2 T_ok gYT yYT aYT bYT k) AllOK.nil)
theorem sYT (k : Nat) : ClSound Try.prog k 45 dYT.E := @Zvk Try.prog dYT xYT 45 Try.f45 cYT (by kernel_rfl) (by kernel_rfl) (by kernel_rfl) Try.func45 (by kernel_rfl) (by kernel_rfl) T_ok gYT lYT zYT hYT k
end
end Go.Proofs.Ytpeflcbadgfebaa.Vs

set_option maxRecDepth 100000
set_option maxHeartbeats 2000000
set_option linter.unusedVariables false
set_option linter.unusedSimpArgs false
namespace Go.Proofs.Ytpeflcbadgfebaa.Vs
open Go.RowKit
noncomputable section
noncomputable def Z2X : List PK := [PK.mk (Ty.slice (3 : Nat) (Ty.int .i64)) false none false none, PK.mk Ty.bool false none false none]
noncomputable def Zek : List PK := [PK.mk (Ty.pair (Ty.int .i64) (Ty.pair (Ty.int .i64) (Ty.slice (73 : Nat) (Ty.pair (Ty.int .i64) (Ty.int .i64))))) true none false none, PK.mk (Ty.slice (28 : Nat) (Ty.slice (3 : Nat) (Ty.int .i64))) false none false none]
noncomputable def Zea (r : List Int × Bool) : Tup Z2X × OutD := ((r.1, r.2, ()), none)
noncomputable def Ze7 : Tup Z2X × OutD → Option (List Int × Bool)
 | (a, none) => some (a.1, a.2.1)
 | _ => none
theorem Ziz : ∀ b r, Ze7 b = some r → Zea r = b := by
 rintro ⟨a, o⟩ r h
 cases o with
 | none => injection h with h; subst h; rfl
 | some _ => cases h
noncomputable def Z38 : Nat → List (List (List (Int × Int × Int))) → List (List Int) → Option (List (List (List (Int × Int × Int))) × Int × List (List Int)) := fun k e p1 => Option.bind (Z1l k p1) fun z0 => Option.bind (Z28 k e z0) fun z1 => some (e, (↑(List.length z1) : Int), p1)
noncomputable def Z7A : Nat → List (List (List (Int × Int × Int))) → List (List Int) → Option (List (List (List (List (Int × Int × Int))) × Int × List (List Int))) := fun k e p1 => joinL (Option.bind (Z1l k p1) fun z0 => joinL (Option.bind (Z28 k e z0) fun z1 => some [(e, (↑(List.length z1) : Int), p1)]) (Option.bind (Z28 k e z0) fun z1 => some [(e, (↑(List.length z1) : Int), p1)])) (Option.bind (Z1l k p1) fun z0 => Option.bind (Z28 k e z0) fun z1 => some [(e, (↑(List.length z1) : Int), p1)])
noncomputable def Zbw : Spec := Spec.mk [OSh.ro, OSh.box 59 [Sh.sl 2], OSh.row true 69 (Ty.slice 71 (.slice 94 (.pair (.int Go.IntKind.i64) (.pair (.int Go.IntKind.i64) (.int Go.IntKind.i64)))))] [(1, TSh.at (Sh.snap 0 (Ty.slice 3 (Ty.int .i64)))), (6, TSh.at (Sh.ptr 1 0))]
noncomputable def Ziv : Spec := Spec.mk [OSh.ro, OSh.box 59 [Sh.sl 2], OSh.row true 69 (Ty.slice 71 (.slice 94 (.pair (.int Go.IntKind.i64) (.pair (.int Go.IntKind.i64) (.int Go.IntKind.i64))))), OSh.box 3 [Sh.int .i64]] [(1, TSh.at (Sh.snap 0 (Ty.slice 3 (Ty.int .i64)))), (6, TSh.at (Sh.ptr 1 0)), (7, TSh.at (Sh.ptr 3 0))]
noncomputable def Z1k : LoopDef (Tup Z2X × OutD) := .plain Zbw Ziv (List (List (List (Int × Int × Int))) × Int × List (List Int)) (fun k x => Z38 k x.1.2.2.1 x.2.1) (fun z => (((), ((), ()), z.1, (z.2.1, ()), ()), (z.2.2, (), (), ()))) (fun y => (y.1.2.2.1, y.1.2.2.2.1.1, y.2.1)) (fun _ => rfl)
theorem ZiI (k : Nat) (e : List (List (List (Int × Int × Int)))) (p1 : List (List Int)) : Z7A k e p1 = repl 3 (Z38 k e p1) := by
 simp only [Z7A, Z38, ZS, Z1Q, Z10, ZV, ZY, Zg, if_true]
noncomputable def Z4J : Nat → Int × Int × List (Int × Int) → List (List Int) → Option (List Int × Bool)
 | 0, _, _ => none
 | k + 1, p0, p1 =>
  Option.bind (Z7Z k (Prod.fst p0, Prod.fst p0.2, Prod.snd p0.2) p1) fun z0 => if (!z0) = true then some ([], false) else Option.bind (Z88 k (Prod.fst p0, Prod.fst p0.2, Prod.snd p0.2) p1) fun z1 => Option.bind (Z38 k z1 p1) fun z2 => Option.bind (fYT k (↑(List.length z2.2.2) : Int) z2.1 z2.2.1) fun z4 => some (z4, true)
noncomputable def ZX : FnDef := .of Zek Z2X (List Int × Bool) (fun k x => Z4J k x.1 x.2.1) Zea Ze7 Ziz
noncomputable def Z7x : Code := Try.f11.body.getD .skip
noncomputable def Zu : Ctx (Tup Z2X × OutD) := { T := T, G := [(41, Z1S.E), (42, Z1U.E), (44, Z1r.E), (43, Z1p.E), (45, cloE dYT.E)], mvs := [], no := 0, n := 24, res := resOf T Zek Z2X Try.f11.results.toList, loops := [], regs := [(4, Z1k.E)], conds := [], cuts := [] }
theorem Zej (k : Nat) : EnvOK Try.prog k Zu.G := (EnvOK.cons (Zjo k) (EnvOK.cons (Zjp k) (EnvOK.cons (Zil k) (EnvOK.cons (Zhq k) (EnvOK.consC (sYT k) (EnvOK.nil mixed))))))
noncomputable def Z7z : Array Oper := (findReg 4 Z7x).getD #[]
theorem Ziw (k : Nat) (x : Zbw.D) : execD Zu.T Zu.G Zu.mvs k Z7z (Z1k.inp.st Zu.n x) (outK Zu Z1k) = Z7A k x.1.2.2.1 x.2.1 := by kernel_rfl
theorem Zi3 (k : Nat) : EOK Try.prog Zu k Z1k.E (.region 4 Z7z true) := ZaY (D := Z1k) (m := 3) T_ok (Zej k) (fun x => (Ziw k x).trans (ZiI k x.1.2.2.1 x.2.1))
theorem ZpA (k : Nat) (x : Tup ZX.ps) : ZX.f (k + 1) x = fnK ZX Zu Z7x k x := by kernel_rfl
theorem ZoS (x : Tup ZX.ps) : ZX.f 0 x = none := by kernel_rfl
theorem ZoC (k : Nat) : LOK Try.prog Zu k Z7x := LOK.by [(Z1k.E, .region 4 Z7z true)] (by kernel_rfl) (AllOK.cons (Zi3 k) AllOK.nil)
theorem ZoZ (k : Nat) : SoundAt Try.prog k 11 ZX.E := @Z1 Try.prog ZX Zu 11 Try.f11 Z7x (by kernel_rfl) (by kernel_rfl) (by kernel_rfl) Try.func11 (by kernel_rfl) (by kernel_rfl) (by kernel_rfl) T_ok Zej ZoC ZoS ZpA k
end
end Go.Proofs.Ytpeflcbadgfebaa.Vs

set_option maxRecDepth 100000
set_option maxHeartbeats 2000000
set_option linter.unusedVariables false
set_option linter.unusedSimpArgs false
namespace Go.Proofs.Ytpeflcbadgfebaa.Vs
open Go.RowKit
noncomputable section
noncomputable def Z1w : List PK := [PK.mk Ty.bool false none false none]
noncomputable def ZbY : List PK := [PK.mk (Ty.slice (3 : Nat) (Ty.int .i64)) false none false none, PK.mk (Ty.slice (3 : Nat) (Ty.int .i64)) false none false none]
noncomputable def Z7y (r : Bool) : Tup Z1w × OutD := ((r, ()), none)
noncomputable def Z7B : Tup Z1w × OutD → Option (Bool)
 | (a, none) => some (a.1)
 | _ => none
theorem Za4 : ∀ b r, Z7B b = some r → Z7y r = b := by
 rintro ⟨a, o⟩ r h
 cases o with
 | none => injection h with h; subst h; rfl
 | some _ => cases h
noncomputable def Z1f : Nat → List Int → List Int → Int → Int → Option (LR Unit Bool)
 | 0, _, _, _, _ => none
 | k + 1, v0, v1, v12, v13 =>
  if decide (v13 < v12) = true then if (0 : Int) ≤ v13 then if v13 < (↑(List.length v0) : Int) then if (0 : Int) ≤ v13 then if v13 < (↑(List.length v1) : Int) then if decide (List.getD v0 (Int.toNat v13) (0 : Int) ≠ List.getD v1 (Int.toNat v13) (0 : Int)) = true then some (LR.ret false) else Z1f k v0 v1 v12 (wrap64 (v13 + (1 : Int))) else none else none else none else none else some (LR.go ())
noncomputable def Z6w : Spec := Spec.mk [OSh.ro] [((0 : Nat), TSh.at (Sh.snap (0 : Nat) (Ty.int .i64))), ((1 : Nat), TSh.at (Sh.snap (0 : Nat) (Ty.int .i64))), ((12 : Nat), TSh.at (Sh.int .i64)), ((13 : Nat), TSh.at (Sh.int .i64))]
noncomputable def Zh1 : Spec := Spec.mk [OSh.ro] []
noncomputable def ZQ : LoopDef (Tup Z1w × OutD) := .rets Z6w Zh1 (Unit) (Bool) (fun k x => Z1f k x.2.1 x.2.2.1 x.2.2.2.1 x.2.2.2.2.1) (fun z => (((), ()), (()))) (fun y => ()) (fun _ => rfl) Z7y Z7B Za4
noncomputable def Z5v : Nat → List Int → List Int → Option Bool
 | 0, _, _ => none
 | k + 1, p0, p1 =>
  if decide ((↑(List.length p0) : Int) ≠ (↑(List.length p1) : Int)) = true then some false else Option.bind (Z1f k p0 p1 (↑(List.length p0) : Int) (0 : Int)) fun z0 => LR.on z0 (fun y0 => some true) fun r0 => some r0
noncomputable def Zx : FnDef := .of ZbY Z1w (Bool) (fun k x => Z5v k x.1 x.2.1) Z7y Z7B Za4
noncomputable def Z5w : Code := Try.f52.body.getD .skip
noncomputable def ZP : Ctx (Tup Z1w × OutD) := { T := T, G := [], mvs := [], no := 0, n := 26, res := resOf T ZbY Z1w Try.f52.results.toList, loops := [(0, ZQ.E)], regs := [], conds := [], cuts := [] }
theorem Zc4 (k : Nat) : EnvOK Try.prog k ZP.G := (EnvOK.nil mixed)
noncomputable def Z3N : Code := (findLoop 0 Z5w).getD .skip
theorem ZgQ (k : Nat) (x : Z6w.D) : ZQ.lp (k + 1) x = loopK ZP ZQ 0 Z3N k x := by kernel_rfl
theorem ZgN (k : Nat) : LOK Try.prog ZP k Z3N := LOK.by [] (by kernel_rfl) AllOK.nil
theorem ZgW (x : Z6w.D) : ZQ.lp 0 x = none := by kernel_rfl
theorem ZfW (k : Nat) : EOK Try.prog ZP k ZQ.E (.block 0 (.loop Z3N)) := Z2 T_ok Zc4 ZgW ZgQ ZgN k
theorem Zkc (k : Nat) (x : Tup Zx.ps) : Zx.f (k + 1) x = fnK Zx ZP Z5w k x := by kernel_rfl
theorem Zki (x : Tup Zx.ps) : Zx.f 0 x = none := by kernel_rfl
theorem Zko (k : Nat) : LOK Try.prog ZP k Z5w := LOK.by [(ZQ.E, .block 0 (.loop Z3N))] (by kernel_rfl) (AllOK.cons (ZfW k) AllOK.nil)
theorem Zkv (k : Nat) : SoundAt Try.prog k 52 Zx.E := @Z1 Try.prog Zx ZP 52 Try.f52 Z5w (by kernel_rfl) (by kernel_rfl) (by kernel_rfl) Try.func52 (by kernel_rfl) (by kernel_rfl) (by kernel_rfl) T_ok Zc4 Zko Zki Zkc k
end
end Go.Proofs.Ytpeflcbadgfebaa.Vs

set_option maxRecDepth 100000
set_option maxHeartbeats 2000000
set_option linter.unusedVariables false
set_option linter.unusedSimpArgs false
namespace Go.Proofs.Ytpeflcbadgfebaa.Vs
open Go.RowKit
noncomputable section
noncomputable def rKD : List PK := [PK.mk Ty.bool false none false none]
noncomputable def toKD (r : Bool) : Tup rKD × OutD := ((r, ()), none)
noncomputable def ofKD : Tup rKD × OutD → Option (Bool)
 | (a, none) => some (a.1)
 | _ => none
theorem ZDa : ∀ b r, ofKD b = some r → toKD r = b := by
 rintro ⟨a, o⟩ r h
 cases o with
 | none => injection h with h; subst h; rfl
 | some _ => cases h
noncomputable def qKD : List KP := [.tree false (Ty.slice 3 (Ty.int .i64)), .cp (Ty.slice 69 (.slice 71 (.slice 94 (.pair (.int Go.IntKind.i64) (.pair (.int Go.IntKind.i64) (.int Go.IntKind.i64)))))), .cp (Ty.slice 3 (Ty.int .i64))]
noncomputable def fKD : Nat → List Int → List (List (List (Int × Int × Int))) → List Int → Option Bool
 | 0, _, _, _ => none
 | k + 1, p0, e, a => Option.bind (Z1H k e p0) fun z0 => Option.bind (Z5v k z0 a) fun z1 => some z1
noncomputable def dKD : KDef := .of qKD rKD Bool (fun k x => fKD k x.1 x.2.1 x.2.2.1) toKD ofKD ZDa
noncomputable def cKD : Code := Try.f51.body.getD .skip
noncomputable def xKD : Ctx (Tup rKD × OutD) := { T := T, G := [(50, Z11.E), (52, Zx.E)], no := 0, n := 10, res := resOf T [] rKD Try.f51.results.toList }
theorem gKD (k : Nat) : EnvOK Try.prog k xKD.G := (EnvOK.cons (ZgA k) (EnvOK.cons (Zkv k) (EnvOK.nil mixed)))
theorem hKD (k : Nat) (x : KTup dKD.ps) : dKD.f (k + 1) x = fnKK dKD xKD cKD k x := by kernel_rfl
theorem zKD (x : KTup dKD.ps) : dKD.f 0 x = none := by kernel_rfl
theorem lKD (k : Nat) : LOK Try.prog xKD k cKD := LOK.by [] (by kernel_rfl) AllOK.nil
theorem sKD (k : Nat) : ClSound Try.prog k 51 dKD.E := @Zvk Try.prog dKD xKD 51 Try.f51 cKD (by kernel_rfl) (by kernel_rfl) (by kernel_rfl) Try.func51 (by kernel_rfl) (by kernel_rfl) T_ok gKD lKD zKD hKD k
noncomputable def qXD : QSig := { ps := [.tree false (Ty.slice 3 (Ty.int .i64)), .tree false (Ty.int .i64), .tree false (Ty.int .i64)], fe := 51, ts := [(Ty.slice 69 (.slice 71 (.slice 94 (.pair (.int Go.IntKind.i64) (.pair (.int Go.IntKind.i64) (.int Go.IntKind.i64)))))), (Ty.slice 3 (Ty.int .i64))], fs := 66, eF := 4, eB := 28, eR := 3, t := (Ty.int .i64) }
noncomputable def FXD : Nat → (List Int → Int → Int → List (List (List (Int × Int × Int))) → List Int → Int → Int → Bool → List Int → Option (Bool × List Int)) × (List (List (List (Int × Int × Int))) → List Int → Int → List Int → Int → Int → Int → Bool → List Int → Option (Bool × List Int))
  | 0 => (fun _ _ _ _ _ _ _ _ _ => none, fun _ _ _ _ _ _ _ _ _ => none)
  | k + 1 => (fun l fr lf e a n n2 fd b =>
      if fd = true then some (fd, b)
      else if decide (lf = (0 : Int)) = true then
        Option.bind (fKD k l e a) fun z0 => if z0 = true then (if List.length ([] : List Int) + List.length l ≤ (140737488355328 / 8 : Nat) then some (true, [] ++ l) else none) else some (fd, b)
      else Option.bind ((FXD k).2 e a n2 l lf n fr fd b) fun z0 => some z0,
    fun e a n2 l lf n i fd b =>
      if decide (wrap64 (i + lf) ≤ n) = true then
        Option.bind (if List.length ([] : List Int) + List.length l ≤ (140737488355328 / 8 : Nat) then
          if List.length ([] ++ l) + List.length [i] ≤ (140737488355328 / 8 : Nat) then
            Option.bind ((FXD k).1 ([] ++ l ++ [i]) (wrap64 (i + (1 : Int))) (wrap64 (lf - (1 : Int))) e a n2 n2 fd b) fun z0 => some (z0.1, z0.2, e, a, n2, l, lf, n, i)
          else none
        else none) fun z => (FXD k).2 z.2.2.1 z.2.2.2.1 z.2.2.2.2.1 z.2.2.2.2.2.1 z.2.2.2.2.2.2.1 z.2.2.2.2.2.2.2.1 (wrap64 (z.2.2.2.2.2.2.2.2 + (1 : Int))) z.1 z.2.1
      else some (fd, b))
noncomputable def dXD : QDef := .of qXD (fun k x => (FXD k).1 x.1.1 x.1.2.1 x.1.2.2.1 x.2.1.1 x.2.1.2.1 x.2.2.1 x.2.2.2.1 x.2.2.2.2.1 x.2.2.2.2.2)
noncomputable def cXD : Code := Try.f66.body.getD .skip
noncomputable def iXD : Spec := Spec.mk [OSh.ro, OSh.box 4 [Sh.bool], OSh.box 28 [Sh.sl 3], OSh.row true 3 (Ty.int .i64), OSh.clo 51 [Sh.es 0 (Ty.slice 69 (.slice 71 (.slice 94 (.pair (.int Go.IntKind.i64) (.pair (.int Go.IntKind.i64) (.int Go.IntKind.i64)))))), Sh.es 0 (Ty.slice 3 (Ty.int .i64))], OSh.clo 66 [Sh.ptr 1 0, Sh.pc 0 4, Sh.ptr 2 0, Sh.es 0 (Ty.int .i64), Sh.pc 0 5]] [(0, TSh.at (Sh.snap 0 (Ty.int .i64))), (2, TSh.at (Sh.int .i64)), (6, TSh.at (Sh.es 0 (Ty.int .i64))), (7, TSh.at (Sh.pc 0 5)), (11, TSh.at (Sh.int .i64))]
noncomputable def oXD : Spec := Spec.mk [OSh.ro, OSh.box 4 [Sh.bool], OSh.box 28 [Sh.sl 3], OSh.row true 3 (Ty.int .i64)] []
noncomputable def LXD : LoopDef (Bool × List Int) := .plain iXD oXD (Bool × List Int) (fun k x => (FXD k).2 x.1.2.2.2.2.1.1 x.1.2.2.2.2.1.2.1 x.1.2.2.2.2.2.1.2.2.2.1 x.2.1 x.2.2.1 x.2.2.2.1 x.2.2.2.2.2.1 x.1.2.1.1 x.1.2.2.2.1) (fun z => (((), (z.1, ()), ((), ()), z.2, ()), ())) (fun y => (y.1.2.1.1, y.1.2.2.2.1)) (fun _ => rfl)
noncomputable def GXD (k : Nat) (e : List (List (List (Int × Int × Int)))) (a : List Int) (n2 : Int) (l : List Int) (lf n i : Int) (fd : Bool) (b : List Int) : Option (Bool × List Int × List (List (List (Int × Int × Int))) × List Int × Int × List Int × Int × Int × Int) := if List.length ([] : List Int) + List.length l ≤ (140737488355328 / 8 : Nat) then if List.length ([] ++ l) + List.length [i] ≤ (140737488355328 / 8 : Nat) then Option.bind ((FXD k).1 ([] ++ l ++ [i]) (wrap64 (i + (1 : Int))) (wrap64 (lf - (1 : Int))) e a n2 n2 fd b) fun z0 => some (z0.1, z0.2, e, a, n2, l, lf, n, i) else none else none
noncomputable def AXD (k : Nat) (e : List (List (List (Int × Int × Int)))) (a : List Int) (n2 : Int) (l : List Int) (lf n i : Int) (fd : Bool) (b : List Int) : Option (List (Bool × List Int × List (List (List (Int × Int × Int))) × List Int × Int × List Int × Int × Int × Int)) := (joinL (joinL (joinL (if List.length ([] : List Int) + List.length l ≤ (140737488355328 / 8 : Nat) then (if List.length ([] ++ l) + List.length [i] ≤ (140737488355328 / 8 : Nat) then (Option.bind ((FXD k).1 ([] ++ l ++ [i]) (wrap64 (i + (1 : Int))) (wrap64 (lf - (1 : Int))) e a n2 n2 fd b) fun z0 => some [(z0.1, z0.2, e, a, n2, l, lf, n, i)]) else none) else none) (if List.length ([] : List Int) + List.length l ≤ (140737488355328 / 8 : Nat) then (if List.length ([] ++ l) + List.length [i] ≤ (140737488355328 / 8 : Nat) then (Option.bind ((FXD k).1 ([] ++ l ++ [i]) (wrap64 (i + (1 : Int))) (wrap64 (lf - (1 : Int))) e a n2 n2 fd b) fun z0 => some [(z0.1, z0.2, e, a, n2, l, lf, n, i)]) else none) else none)) (if List.length ([] : List Int) + List.length l ≤ (140737488355328 / 8 : Nat) then (if List.length ([] ++ l) + List.length [i] ≤ (140737488355328 / 8 : Nat) then (Option.bind ((FXD k).1 ([] ++ l ++ [i]) (wrap64 (i + (1 : Int))) (wrap64 (lf - (1 : Int))) e a n2 n2 fd b) fun z0 => some [(z0.1, z0.2, e, a, n2, l, lf, n, i)]) else none) else none)) (joinL (joinL (joinL (if List.length ([] : List Int) + List.length l ≤ (140737488355328 / 8 : Nat) then (if List.length ([] ++ l) + List.length [i] ≤ (140737488355328 / 8 : Nat) then (Option.bind ((FXD k).1 ([] ++ l ++ [i]) (wrap64 (i + (1 : Int))) (wrap64 (lf - (1 : Int))) e a n2 n2 fd b) fun z0 => some [(z0.1, z0.2, e, a, n2, l, lf, n, i)]) else none) else none) (if List.length ([] : List Int) + List.length l ≤ (140737488355328 / 8 : Nat) then (if List.length ([] ++ l) + List.length [i] ≤ (140737488355328 / 8 : Nat) then (Option.bind ((FXD k).1 ([] ++ l ++ [i]) (wrap64 (i + (1 : Int))) (wrap64 (lf - (1 : Int))) e a n2 n2 fd b) fun z0 => some [(z0.1, z0.2, e, a, n2, l, lf, n, i)]) else none) else none)) (joinL (if List.length ([] : List Int) + List.length l ≤ (140737488355328 / 8 : Nat) then (joinL (if List.length ([] ++ l) + List.length [i] ≤ (140737488355328 / 8 : Nat) then (Option.bind ((FXD k).1 ([] ++ l ++ [i]) (wrap64 (i + (1 : Int))) (wrap64 (lf - (1 : Int))) e a n2 n2 fd b) fun z0 => some [(z0.1, z0.2, e, a, n2, l, lf, n, i)]) else none) (joinL (if List.length ([] ++ l) + List.length [i] ≤ (140737488355328 / 8 : Nat) then (Option.bind ((FXD k).1 ([] ++ l ++ [i]) (wrap64 (i + (1 : Int))) (wrap64 (lf - (1 : Int))) e a n2 n2 fd b) fun z0 => some [(z0.1, z0.2, e, a, n2, l, lf, n, i)]) else none) (if List.length ([] ++ l) + List.length [i] ≤ (140737488355328 / 8 : Nat) then (Option.bind ((FXD k).1 ([] ++ l ++ [i]) (wrap64 (i + (1 : Int))) (wrap64 (lf - (1 : Int))) e a n2 n2 fd b) fun z0 => some [(z0.1, z0.2, e, a, n2, l, lf, n, i)]) else none))) else none) (joinL (if List.length ([] : List Int) + List.length l ≤ (140737488355328 / 8 : Nat) then (if List.length ([] ++ l) + List.length [i] ≤ (140737488355328 / 8 : Nat) then (Option.bind ((FXD k).1 ([] ++ l ++ [i]) (wrap64 (i + (1 : Int))) (wrap64 (lf - (1 : Int))) e a n2 n2 fd b) fun z0 => some [(z0.1, z0.2, e, a, n2, l, lf, n, i)]) else none) else none) (if List.length ([] : List Int) + List.length l ≤ (140737488355328 / 8 : Nat) then (joinL (if List.length ([] ++ l) + List.length [i] ≤ (140737488355328 / 8 : Nat) then (Option.bind ((FXD k).1 ([] ++ l ++ [i]) (wrap64 (i + (1 : Int))) (wrap64 (lf - (1 : Int))) e a n2 n2 fd b) fun z0 => some [(z0.1, z0.2, e, a, n2, l, lf, n, i)]) else none) (if List.length ([] ++ l) + List.length [i] ≤ (140737488355328 / 8 : Nat) then (Option.bind ((FXD k).1 ([] ++ l ++ [i]) (wrap64 (i + (1 : Int))) (wrap64 (lf - (1 : Int))) e a n2 n2 fd b) fun z0 => some [(z0.1, z0.2, e, a, n2, l, lf, n, i)]) else none)) else none)))) (joinL (if List.length ([] : List Int) + List.length l ≤ (140737488355328 / 8 : Nat) then (if List.length ([] ++ l) + List.length [i] ≤ (140737488355328 / 8 : Nat) then (Option.bind ((FXD k).1 ([] ++ l ++ [i]) (wrap64 (i + (1 : Int))) (wrap64 (lf - (1 : Int))) e a n2 n2 fd b) fun z0 => some [(z0.1, z0.2, e, a, n2, l, lf, n, i)]) else none) else none) (joinL (if List.length ([] : List Int) + List.length l ≤ (140737488355328 / 8 : Nat) then (if List.length ([] ++ l) + List.length [i] ≤ (140737488355328 / 8 : Nat) then (Option.bind ((FXD k).1 ([] ++ l ++ [i]) (wrap64 (i + (1 : Int))) (wrap64 (lf - (1 : Int))) e a n2 n2 fd b) fun z0 => some [(z0.1, z0.2, e, a, n2, l, lf, n, i)]) else none) else none) (if List.length ([] : List Int) + List.length l ≤ (140737488355328 / 8 : Nat) then (joinL (if List.length ([] ++ l) + List.length [i] ≤ (140737488355328 / 8 : Nat) then (Option.bind ((FXD k).1 ([] ++ l ++ [i]) (wrap64 (i + (1 : Int))) (wrap64 (lf - (1 : Int))) e a n2 n2 fd b) fun z0 => some [(z0.1, z0.2, e, a, n2, l, lf, n, i)]) else none) (if List.length ([] ++ l) + List.length [i] ≤ (140737488355328 / 8 : Nat) then (Option.bind ((FXD k).1 ([] ++ l ++ [i]) (wrap64 (i + (1 : Int))) (wrap64 (lf - (1 : Int))) e a n2 n2 fd b) fun z0 => some [(z0.1, z0.2, e, a, n2, l, lf, n, i)]) else none)) else none)))))
noncomputable def DXD : LoopDef (Bool × List Int) := .plain iXD iXD (Bool × List Int × List (List (List (Int × Int × Int))) × List Int × Int × List Int × Int × Int × Int) (fun k x => GXD k x.1.2.2.2.2.1.1 x.1.2.2.2.2.1.2.1 x.1.2.2.2.2.2.1.2.2.2.1 x.2.1 x.2.2.1 x.2.2.2.1 x.2.2.2.2.2.1 x.1.2.1.1 x.1.2.2.2.1) (fun z => (((), (z.1, ()), ((), ()), z.2.1, (z.2.2.1, z.2.2.2.1, ()), ((), (), (), z.2.2.2.2.1, (), ()), ()), (z.2.2.2.2.2.1, z.2.2.2.2.2.2.1, z.2.2.2.2.2.2.2.1, (), z.2.2.2.2.2.2.2.2, ()))) (fun y => (y.1.2.1.1, y.1.2.2.2.1, y.1.2.2.2.2.1.1, y.1.2.2.2.2.1.2.1, y.1.2.2.2.2.2.1.2.2.2.1, y.2.1, y.2.2.1, y.2.2.2.1, y.2.2.2.2.2.1)) (fun _ => rfl)
theorem jXD (k : Nat) (e : List (List (List (Int × Int × Int)))) (a : List Int) (n2 : Int) (l : List Int) (lf n i : Int) (fd : Bool) (b : List Int) : AXD k e a n2 l lf n i fd b = repl 15 (GXD k e a n2 l lf n i fd b) := by
 simp only [AXD, GXD, ZS, Z1Q, Z10, ZV, ZY, Zg, if_true]
noncomputable def OXD : Array Oper := (findReg 7 cXD).getD #[]
noncomputable def BXD : Code := (findLoop 0 cXD).getD .skip
noncomputable def xXD : Ctx (Bool × List Int) := { T := T, G := [(66, cloE dXD.E), (51, cloE dKD.E)], no := 2, n := 41, res := qXD.res, loops := [(0, LXD.E)], regs := [(7, DXD.E)] }
theorem eXD (k : Nat) (x : iXD.D) : execD xXD.T xXD.G xXD.mvs k OXD (DXD.inp.st xXD.n x) (outK xXD DXD) = AXD k x.1.2.2.2.2.1.1 x.1.2.2.2.2.1.2.1 x.1.2.2.2.2.2.1.2.2.2.1 x.2.1 x.2.2.1 x.2.2.2.1 x.2.2.2.2.2.1 x.1.2.1.1 x.1.2.2.2.1 := by kernel_rfl
theorem gXD (k : Nat) : EnvOK Try.prog k [(51, cloE dKD.E)] := .consC (sKD k) (.nil mixed)
theorem aXD (k : Nat) (x : iXD.D) : LXD.lp (k + 1) x = loopK xXD LXD 0 BXD k x := by kernel_rfl
theorem bXD (k : Nat) (hG : EnvOK Try.prog k xXD.G) : LOK Try.prog xXD k BXD := LOK.by [(DXD.E, .region 7 OXD true)] (by kernel_rfl) (AllOK.cons (ZaY (D := DXD) (m := 15) T_ok hG (fun x => (eXD k x).trans (jXD k x.1.2.2.2.2.1.1 x.1.2.2.2.2.1.2.1 x.1.2.2.2.2.2.1.2.2.2.1 x.2.1 x.2.2.1 x.2.2.2.1 x.2.2.2.2.2.1 x.1.2.1.1 x.1.2.2.2.1))) AllOK.nil)
theorem yXD (x : iXD.D) : LXD.lp 0 x = none := by kernel_rfl
theorem hXD (k : Nat) (x : qXD.In) : dXD.f (k + 1) x = fnKQ dXD xXD cXD k x := by kernel_rfl
theorem zXD (x : qXD.In) : dXD.f 0 x = none := by kernel_rfl
theorem lXD (k : Nat) (hG : ∀ j, j ≤ k → EnvOK Try.prog j xXD.G) : LOK Try.prog xXD k cXD := LOK.by [(LXD.E, .block 0 (.loop BXD))] (by kernel_rfl) (AllOK.cons (ZBA T_ok k hG yXD aXD (fun j hj => bXD j (hG j hj))) AllOK.nil)
theorem sXD (k : Nat) : ClSound Try.prog k 66 dXD.E := @ZC4 Try.prog dXD xXD 66 Try.f66 cXD [(51, cloE dKD.E)] (fun _ => rfl) (by kernel_rfl) (by kernel_rfl) (by kernel_rfl) (by kernel_rfl) Try.func66 (by kernel_rfl) (by kernel_rfl) (by kernel_rfl) T_ok gXD lXD zXD hXD k k (Nat.le_refl k)
noncomputable def rYD : List PK := [PK.mk (Ty.slice 3 (Ty.int .i64)) false none false none]
noncomputable def toYD (r : List Int) : Tup rYD × OutD := ((r, ()), none)
noncomputable def ofYD : Tup rYD × OutD → Option (List Int)
 | (a, none) => some (a.1)
 | _ => none
theorem ZCZ : ∀ b r, ofYD b = some r → toYD r = b := by
 rintro ⟨a, o⟩ r h
 cases o with
 | none => injection h with h; subst h; rfl
 | some _ => cases h
noncomputable def qYD : List KP := [.tree false (Ty.int .i64), .fn 51 [(Ty.slice 69 (.slice 71 (.slice 94 (.pair (.int Go.IntKind.i64) (.pair (.int Go.IntKind.i64) (.int Go.IntKind.i64)))))), (Ty.slice 3 (Ty.int .i64))]]
noncomputable def Zn8 : Nat → Int → List Int → Bool → List (List (List (Int × Int × Int))) → List Int → Int → Option (List Int)
 | 0, _, _, _, _, _, _ => none
 | k + 1, n, b, fd, e, a, i =>
  if decide (i ≤ n) = true then if (!fd) = true then Option.bind ((FXD k).1 [] (0 : Int) i e a n n fd b) fun z0 => Zn8 k n z0.2 z0.1 e a (wrap64 (i + (1 : Int))) else some b else some b
noncomputable def fYD : Nat → Int → List (List (List (Int × Int × Int))) → List Int → Option (List Int)
 | 0, _, _, _ => none
 | k + 1, n, e, a => Option.bind (Zn8 k n [] false e a (0 : Int)) fun z0 => some z0
noncomputable def dYD : KDef := .of qYD rYD (List Int) (fun k x => fYD k x.1 x.2.1.1 x.2.1.2.1) toYD ofYD ZCZ
noncomputable def cYD : Code := Try.f45.body.getD .skip
noncomputable def iYD : Spec := Spec.mk [OSh.ro, OSh.box 3 [Sh.int .i64], OSh.box 28 [Sh.sl 3], OSh.row true 3 (Ty.int .i64), OSh.box 4 [Sh.bool], OSh.box 83 [Sh.cv 6], OSh.clo 66 [Sh.ptr 4 0, Sh.ptr 7 0, Sh.ptr 2 0, Sh.ptr 1 0, Sh.ptr 5 0], OSh.box 63 [Sh.cv 8], OSh.clo 51 [Sh.es 0 (Ty.slice 69 (.slice 71 (.slice 94 (.pair (.int Go.IntKind.i64) (.pair (.int Go.IntKind.i64) (.int Go.IntKind.i64)))))), Sh.es 0 (Ty.slice 3 (Ty.int .i64))]] [(2, TSh.at (Sh.ptr 1 0)), (5, TSh.at (Sh.ptr 2 0)), (6, TSh.at (Sh.ptr 4 0)), (7, TSh.at (Sh.ptr 5 0)), (8, TSh.at (Sh.int .i64))]
noncomputable def oYD : Spec := Spec.mk [OSh.ro, OSh.box 28 [Sh.sl 2], OSh.row true 3 (Ty.int .i64)] [(5, TSh.at (Sh.ptr 1 0))]
noncomputable def LYD : LoopDef (Tup rYD × OutD) := .plain iYD oYD (List Int) (fun k x => Zn8 k x.1.2.1.1 x.1.2.2.2.1 x.1.2.2.2.2.1.1 x.1.2.2.2.2.2.2.2.2.1.1 x.1.2.2.2.2.2.2.2.2.1.2.1 x.2.2.2.2.2.1) (fun z => (((), ((), ()), z, ()), ((), ()))) (fun y => y.1.2.2.1) (fun _ => rfl)
noncomputable def BYD : Code := (findLoop 0 cYD).getD .skip
noncomputable def xYD : Ctx (Tup rYD × OutD) := { T := T, G := [(66, cloE dXD.E)], no := 0, n := 24, res := resOf T [] rYD Try.f45.results.toList, loops := [(0, LYD.E)] }
theorem gYD (k : Nat) : EnvOK Try.prog k xYD.G := .consC (sXD k) (.nil mixed)
theorem aYD (k : Nat) (x : iYD.D) : LYD.lp (k + 1) x = loopK xYD LYD 0 BYD k x := by kernel_rfl
theorem bYD (k : Nat) : LOK Try.prog xYD k BYD := LOK.by [] (by kernel_rfl) AllOK.nil
theorem yYD (x : iYD.D) : LYD.lp 0 x = none := by kernel_rfl
theorem hYD (k : Nat) (x : KTup dYD.ps) : dYD.f (k + 1) x = fnKK dYD xYD cYD k x := by kernel_rfl
theorem zYD (x : KTup dYD.ps) : dYD.f 0 x = none := by kernel_rfl
theorem lYD (k : Nat) : LOK Try.prog xYD k cYD := LOK.by [(LYD.E, .block 0 (.loop BYD))] (by kernel_rfl) (AllOK.cons (Z2 T_ok gYD yYD aYD bYD k) AllOK.nil)
theorem sYD (k : Nat) : ClSound Try.prog k 45 dYD.E := @Zvk Try.prog dYD xYD 45 Try.f45 cYD (by kernel_rfl) (by kernel_rfl) (by kernel_rfl) Try.func45 (by kernel_rfl) (by kernel_rfl) T_ok gYD lYD zYD hYD k
end
end Go.Proofs.Ytpeflcbadgfebaa.Vs

set_option maxRecDepth 100000
set_option maxHeartbeats 2000000
set_option linter.unusedVariables false
set_option linter.unusedSimpArgs false
namespace Go.Proofs.Ytpeflcbadgfebaa.Vs
open Go.RowKit
noncomputable section
noncomputable def Z25 : List PK := [PK.mk (Ty.slice (3 : Nat) (Ty.int .i64)) false none false none, PK.mk Ty.bool false none false none]
noncomputable def Zdd : List PK := [PK.mk (Ty.pair (Ty.int .i64) (Ty.pair (Ty.int .i64) (Ty.slice (73 : Nat) (Ty.pair (Ty.int .i64) (Ty.int .i64))))) true none false none, PK.mk (Ty.slice (28 : Nat) (Ty.slice (3 : Nat) (Ty.int .i64))) false none false none]
noncomputable def Zc7 (r : List Int × Bool) : Tup Z25 × OutD := ((r.1, r.2, ()), none)
noncomputable def Zc0 : Tup Z25 × OutD → Option (List Int × Bool)
 | (a, none) => some (a.1, a.2.1)
 | _ => none
theorem ZgV : ∀ b r, Zc0 b = some r → Zc7 r = b := by
 rintro ⟨a, o⟩ r h
 cases o with
 | none => injection h with h; subst h; rfl
 | some _ => cases h
noncomputable def Z2c : Nat → List (List (List (Int × Int × Int))) → List (List Int) → Option (List (List (List (Int × Int × Int))) × List Int × List (List Int)) := fun k e p1 => Option.bind (Z1l k p1) fun z0 => Option.bind (Z1H k e z0) fun z1 => some (e, z1, p1)
noncomputable def Z6E : Nat → List (List (List (Int × Int × Int))) → List (List Int) → Option (List (List (List (List (Int × Int × Int))) × List Int × List (List Int))) := fun k e p1 => joinL (Option.bind (Z1l k p1) fun z0 => joinL (Option.bind (Z1H k e z0) fun z1 => some [(e, z1, p1)]) (Option.bind (Z1H k e z0) fun z1 => some [(e, z1, p1)])) (Option.bind (Z1l k p1) fun z0 => Option.bind (Z1H k e z0) fun z1 => some [(e, z1, p1)])
noncomputable def Zai : Spec := Spec.mk [OSh.ro, OSh.box 59 [Sh.sl 2], OSh.row true 69 (Ty.slice 71 (.slice 94 (.pair (.int Go.IntKind.i64) (.pair (.int Go.IntKind.i64) (.int Go.IntKind.i64)))))] [(1, TSh.at (Sh.snap 0 (Ty.slice 3 (Ty.int .i64)))), (6, TSh.at (Sh.ptr 1 0))]
noncomputable def ZgO : Spec := Spec.mk [OSh.ro, OSh.box 59 [Sh.sl 2], OSh.row true 69 (Ty.slice 71 (.slice 94 (.pair (.int Go.IntKind.i64) (.pair (.int Go.IntKind.i64) (.int Go.IntKind.i64))))), OSh.box 28 [Sh.sl 4], OSh.row true 3 (Ty.int .i64)] [(1, TSh.at (Sh.snap 0 (Ty.slice 3 (Ty.int .i64)))), (6, TSh.at (Sh.ptr 1 0)), (7, TSh.at (Sh.ptr 3 0))]
noncomputable def ZR : LoopDef (Tup Z25 × OutD) := .plain Zai ZgO (List (List (List (Int × Int × Int))) × List Int × List (List Int)) (fun k x => Z2c k x.1.2.2.1 x.2.1) (fun z => (((), ((), ()), z.1, ((), ()), z.2.1, ()), (z.2.2, (), (), ()))) (fun y => (y.1.2.2.1, y.1.2.2.2.2.1, y.2.1)) (fun _ => rfl)
theorem ZgT (k : Nat) (e : List (List (List (Int × Int × Int)))) (p1 : List (List Int)) : Z6E k e p1 = repl 3 (Z2c k e p1) := by
 simp only [Z6E, Z2c, ZS, Z1Q, Z10, ZV, ZY, Zg, if_true]
noncomputable def Z3t : Nat → Int × Int × List (Int × Int) → List (List Int) → Option (List Int × Bool)
 | 0, _, _ => none
 | k + 1, p0, p1 =>
  Option.bind (Z7Z k (Prod.fst p0, Prod.fst p0.2, Prod.snd p0.2) p1) fun z0 => if (!z0) = true then some ([], false) else Option.bind (Z88 k (Prod.fst p0, Prod.fst p0.2, Prod.snd p0.2) p1) fun z1 => Option.bind (Z2c k z1 p1) fun z2 => Option.bind (fYD k (↑(List.length z2.2.2) : Int) z2.1 z2.2.1) fun z4 => some (z4, true)
noncomputable def ZG : FnDef := .of Zdd Z25 (List Int × Bool) (fun k x => Z3t k x.1 x.2.1) Zc7 Zc0 ZgV
noncomputable def Z5S : Code := Try.f20.body.getD .skip
noncomputable def Zo : Ctx (Tup Z25 × OutD) := { T := T, G := [(41, Z1S.E), (42, Z1U.E), (44, Z1r.E), (50, Z11.E), (45, cloE dYD.E)], mvs := [], no := 0, n := 23, res := resOf T Zdd Z25 Try.f20.results.toList, loops := [], regs := [(4, ZR.E)], conds := [], cuts := [] }
theorem Zd8 (k : Nat) : EnvOK Try.prog k Zo.G := (EnvOK.cons (Zjo k) (EnvOK.cons (Zjp k) (EnvOK.cons (Zil k) (EnvOK.cons (ZgA k) (EnvOK.consC (sYD k) (EnvOK.nil mixed))))))
noncomputable def Z6F : Array Oper := (findReg 4 Z5S).getD #[]
theorem Zh7 (k : Nat) (x : Zai.D) : execD Zo.T Zo.G Zo.mvs k Z6F (ZR.inp.st Zo.n x) (outK Zo ZR) = Z6E k x.1.2.2.1 x.2.1 := by kernel_rfl
theorem ZfV (k : Nat) : EOK Try.prog Zo k ZR.E (.region 4 Z6F true) := ZaY (D := ZR) (m := 3) T_ok (Zd8 k) (fun x => (Zh7 k x).trans (ZgT k x.1.2.2.1 x.2.1))
theorem Zmg (k : Nat) (x : Tup ZG.ps) : ZG.f (k + 1) x = fnK ZG Zo Z5S k x := by kernel_rfl
theorem Zml (x : Tup ZG.ps) : ZG.f 0 x = none := by kernel_rfl
theorem Zl8 (k : Nat) : LOK Try.prog Zo k Z5S := LOK.by [(ZR.E, .region 4 Z6F true)] (by kernel_rfl) (AllOK.cons (ZfV k) AllOK.nil)
theorem Zlc (k : Nat) : SoundAt Try.prog k 20 ZG.E := @Z1 Try.prog ZG Zo 20 Try.f20 Z5S (by kernel_rfl) (by kernel_rfl) (by kernel_rfl) Try.func20 (by kernel_rfl) (by kernel_rfl) (by kernel_rfl) T_ok Zd8 Zl8 Zml Zmg k
end
end Go.Proofs.Ytpeflcbadgfebaa.Vs

set_option linter.unusedVariables false
set_option linter.unusedSimpArgs false
namespace Go.Proofs.Ytpeflcbadgfebaa.Vs
open Go.RowKit
def stepF (P : List Int → Bool) (cs : List (List Int)) (fd : Bool) (b : List Int) : Bool × List Int := if fd = true then (true, b) else match cs.find? P with
 | some x => (true, x)
 | none => (false, b)
theorem ZvC (P : List Int → Bool) (cs : List (List Int)) (b : List Int) : stepF P cs true b = (true, b) := rfl
theorem Zdj (P : List Int → Bool) (fd : Bool) (b : List Int) : stepF P [] fd b = (fd, b) := by cases fd <;> rfl
theorem ZdE (P : List Int → Bool) (c1 c2 : List (List Int)) (fd : Bool) (b : List Int) : stepF P (c1 ++ c2) fd b = stepF P c2 (stepF P c1 fd b).1 (stepF P c1 fd b).2 := by
 cases fd with
 | true => rfl
 | false =>
  unfold stepF
  simp only [Bool.false_eq_true, if_false, List.find?_append]
  cases h : c1.find? P with
  | none => simp
  | some x => simp
theorem ZA1 {n left i : Nat} (h : i + (left + 1) ≤ n) : extL n (left + 1) i = (extL n left (i + 1)).map (fun s => (i : Int) :: s) ++ extL n (left + 1) (i + 1) := by
 simp only [extL]
 rw [show n - (i + left) = (n - (i + 1 + left)) + 1 by omega, List.range_succ_eq_map, List.flatMap_cons, List.flatMap_map]
 congr 1
 unfold List.flatMap
 congr 1
 refine List.map_congr_left (fun j _ => ?_)
 simp only [Nat.succ_eq_add_one]
 rw [show i + (j + 1) = i + 1 + j by omega]
theorem Znl {n left i : Nat} (h : ¬ i + (left + 1) ≤ n) : extL n (left + 1) i = [] := by
 simp only [extL]
 rw [show n - (i + left) = 0 by omega]
 rfl
theorem Zwk (n i d : Nat) : ((List.range (d + 1)).flatMap fun j => extL n (i + j) 0) = extL n i 0 ++ (List.range d).flatMap fun j => extL n (i + 1 + j) 0 := by
 rw [List.range_succ_eq_map, List.flatMap_cons, List.flatMap_map]
 congr 1
 unfold List.flatMap
 congr 1
 refine List.map_congr_left (fun j _ => ?_)
 simp only [Nat.succ_eq_add_one]
 rw [show i + (j + 1) = i + 1 + j by omega]
theorem Zy6 (n : Nat) : ((List.range (n + 1)).flatMap fun j => extL n (0 + j) 0) = allL n := by
 unfold allL List.flatMap
 congr 1
 exact List.map_congr_left (fun j _ => by rw [Nat.zero_add])
theorem Znb (n : Nat) : Inc n 0 (rangeI n) := by
 refine ZfF (List.Pairwise.map _ (fun a b h => by omega) List.pairwise_lt_range) (fun x hx => ?_)
 have := Zff n x hx
 omega
theorem Zwq (n : Nat) (P : List Int → Bool) (hP : P (rangeI n) = true) : (stepF P (allL n) false []).2 = foldB P ((List.range (2 ^ n)).map (choiceL n)) (rangeI n) := by
 unfold stepF
 rw [ZC3 n P (rangeI n) (Znb n) hP]
 rfl
theorem ZBQ {n : Nat} {t : Int} (h0 : 0 ≤ t) (h1 : t < (n : Int)) : t ∈ rangeI n := by
 unfold rangeI
 exact List.mem_map.2 ⟨t.toNat, List.mem_range.2 (by omega), by omega⟩
theorem ZCG (C : List (List (List FallD))) (n : Nat) (l : List Int) (hl : chOK l n) : (classesL (keyC C l) C.length).length = (classesL (keyC C (rangeI n)) C.length).length ↔ classI C l C.length = classI C (rangeI n) C.length := by
 rw [Zuf (keyC C l) (keyC C (rangeI n)) (fun i j h => ZkP.2 (fun t ht => ZkP.1 h t (ZBQ (hl t ht).1 (hl t ht).2))) C.length]
 unfold classI
 rw [List.map_inj_left]
 constructor
 ·intro h j hj
  rw [h j (List.mem_range.1 hj)]
 ·intro h j hj
  have := h j (List.mem_range.2 hj)
  omega
theorem ZaV : ∀ (r s pre pre' : List Int), s.length = r.length → pre'.length = pre.length → (pre ++ r).length ≤ 9223372036854775806 → Ev (fun k => Z1f k (pre ++ r) (pre' ++ s) ((pre ++ r).length : Int) (pre.length : Int)) (if r = s then LR.go () else LR.ret false)
 | [], s, pre, pre', h, hp, hl => by
  obtain rfl : s = [] := List.eq_nil_of_length_eq_zero h
  refine Ev.succ ?_
  simp only [Z1f, Z7, decide_false, Bool.false_eq_true, if_false, if_true]
  exact Ev.some _
 | x :: r, [], pre, pre', h, hp, hl => by simp at h
 | x :: r, y :: s, pre, pre', h, hp, hl => by
  have ih := ZaV r s (pre ++ [x]) (pre' ++ [y]) (by simpa using h) (by simpa using hp) (by simpa using hl)
  have l2 : (pre.length : Int) < ((pre' ++ y :: s).length : Int) := by rw [← hp]; exact Z5 _ _ _
  have g2 : List.getD (pre' ++ y :: s) pre.length 0 = y := by rw [← hp]; exact Z4 _ _ _ _
  refine Ev.succ ?_
  simp only [Z1f, Z5, Za, l2, decide_true, if_true, Int.toNat_natCast, Z4, g2]
  rw [Z6 pre x r (by omega)]
  rw [← Z0, ← Z0] at ih
  by_cases hxy : x = y
  ·subst hxy
   simp only [ne_eq, not_true_eq_false, decide_false, Bool.false_eq_true, if_false]
   refine ih.congr ?_
   by_cases hrs : r = s <;> simp [hrs]
  ·simp only [ne_eq, hxy, not_false_eq_true, decide_true, if_true]
   refine Ev.of ?_
   rw [if_neg (by intro hc; injection hc with h1 h2; exact hxy h1)]
theorem Zku (l m : List Int) (hl : l.length ≤ 9223372036854775806) : Ev (fun k => Z5v k l m) (decide (l = m)) := by
 refine Ev.succ ?_
 simp only [Z5v]
 by_cases h : l.length = m.length
 ·simp only [h, ne_eq, not_true_eq_false, decide_false, Bool.false_eq_true, if_false]
  have h8 := ZaV l m [] [] h.symm rfl (by simpa using hl)
  simp only [List.nil_append, List.length_nil, Int.natCast_zero, h] at h8
  refine Ev.bind h8 ?_
  by_cases hlm : l = m
  ·rw [if_pos hlm]; simp only [hlm, decide_true]; exact Ev.go (Ev.some _)
  ·rw [if_neg hlm]; simp only [hlm, decide_false]; exact Ev.ret (Ev.some _)
 ·have h2 : ¬ (l.length : Int) = (m.length : Int) := by omega
  have h3 : ¬ l = m := fun hc => h (by rw [hc])
  simp only [ne_eq, h2, not_false_eq_true, decide_true, if_true, h3, decide_false]
  exact Ev.some _
section
variable (e : List (List (List (Int × Int × Int)))) (a : Int) (n : Nat) (P : List Int → Bool) (hn : n ≤ 10) (hP : ∀ l, chOK l n → l.length ≤ n → Ev (fun k => fKT k l e a) (P l))
include hn hP
theorem ZDq : ∀ (left fr : Nat) (l : List Int) (fd : Bool) (b : List Int), chOK l n → l.length + left ≤ n → fr ≤ n → Ev (fun k => (FXT k).1 l (fr : Int) (left : Int) e a (n : Int) (n : Int) fd b) (stepF P ((extL n left fr).map fun s => l ++ s) fd b) := by
 intro left
 induction left with
 | zero =>
  intro fr l fd b hl hlen hfr
  refine Ev.succ ?_
  cases fd with
  | true => simp only [FXT, if_true]; exact Ev.some _
  | false =>
   have g1 : l.length ≤ 140737488355328 / 8 := by omega
   simp only [FXT, Bool.false_eq_true, if_false, Int.natCast_zero, decide_true, if_true, List.length_nil, Nat.zero_add, List.nil_append, g1]
   refine Ev.bind (hP l hl (by omega)) ?_
   cases hp : P l with
   | false => simp only [Bool.false_eq_true, if_false]; exact Ev.of (by simp [stepF, extL, hp])
   | true => simp only [if_true]; exact Ev.of (by simp [stepF, extL, hp])
 | succ left ihL =>
  intro fr l fd b hl hlen hfr
  have loop : ∀ (d i : Nat) (fd : Bool) (b : List Int), n ≤ i + d → i ≤ n → Ev (fun k => (FXT k).2 e a (n : Int) l ((left + 1 : Nat) : Int) (n : Int) (i : Int) fd b) (stepF P ((extL n (left + 1) i).map fun s => l ++ s) fd b) := by
   intro d
   induction d with
   | zero =>
    intro i fd b hd hi
    have hw : wrap64 ((i : Int) + ((left + 1 : Nat) : Int)) = ((i + (left + 1) : Nat) : Int) := by rw [w64 (by omega) (by omega)]; omega
    have hc : ¬ ((i + (left + 1) : Nat) : Int) ≤ (n : Int) := by omega
    rw [Znl (by omega), List.map_nil, Zdj]
    refine Ev.succ ?_
    simp only [FXT, hw, hc, decide_false, Bool.false_eq_true, if_false]
    exact Ev.some _
   | succ d ihd =>
    intro i fd b hd hi
    have hw : wrap64 ((i : Int) + ((left + 1 : Nat) : Int)) = ((i + (left + 1) : Nat) : Int) := by rw [w64 (by omega) (by omega)]; omega
    by_cases hcc : i + (left + 1) ≤ n
    ·have hc : ((i + (left + 1) : Nat) : Int) ≤ (n : Int) := by omega
     have hw1 : wrap64 ((i : Int) + 1) = ((i + 1 : Nat) : Int) := by rw [w64 (by omega) (by omega)]; omega
     have hw2 : wrap64 (((left + 1 : Nat) : Int) - 1) = (left : Int) := by rw [w64 (by omega) (by omega)]; omega
     have g1 : l.length ≤ 140737488355328 / 8 := by omega
     have g2 : l.length + 1 ≤ 140737488355328 / 8 := by omega
     have h1 := ihL (i + 1) (l ++ [(i : Int)]) fd b (fun t ht => by
      rcases List.mem_append.1 ht with ht | ht
      ·exact hl t ht
      ·rw [List.mem_singleton.1 ht]; omega) (by simp; omega) (by omega)
     have hm : ((extL n left (i + 1)).map fun s => (l ++ [(i : Int)]) ++ s) = ((extL n left (i + 1)).map (fun s => (i : Int) :: s)).map fun s => l ++ s := by
      rw [List.map_map]
      refine List.map_congr_left (fun s _ => ?_)
      simp
     rw [hm] at h1
     rw [ZA1 hcc, List.map_append, ZdE]
     refine Ev.succ ?_
     simp only [FXT, hw, hc, hw1, hw2, decide_true, if_true, List.length_nil, Nat.zero_add, List.nil_append, List.length_singleton, g1, g2]
     refine Ev.bind (Ev.bind h1 (Ev.some _)) ?_
     simp only [hw1]
     exact ihd (i + 1) _ _ (by omega) (by omega)
    ·have hc : ¬ ((i + (left + 1) : Nat) : Int) ≤ (n : Int) := by omega
     rw [Znl hcc, List.map_nil, Zdj]
     refine Ev.succ ?_
     simp only [FXT, hw, hc, decide_false, Bool.false_eq_true, if_false]
     exact Ev.some _
  refine Ev.succ ?_
  cases fd with
  | true => simp only [FXT, if_true]; exact Ev.some _
  | false =>
   have h0 : ¬ ((left + 1 : Nat) : Int) = 0 := by omega
   simp only [FXT, Bool.false_eq_true, if_false, h0, decide_false]
   exact Ev.bind (loop n fr false b (by omega) hfr) (Ev.some _)
theorem ZBH : ∀ (d i : Nat) (fd : Bool) (b : List Int), i + d = n + 1 → Ev (fun k => Zn0 k (n : Int) b fd e a (i : Int)) (stepF P ((List.range d).flatMap fun j => extL n (i + j) 0) fd b).2
 | 0, i, fd, b, h => by
  have hc : ¬ (i : Int) ≤ (n : Int) := by omega
  refine Ev.succ ?_
  simp only [Zn0, hc, decide_false, Bool.false_eq_true, if_false, List.range_zero, List.flatMap_nil, Zdj]
  exact Ev.some _
 | d + 1, i, fd, b, h => by
  have hc : (i : Int) ≤ (n : Int) := by omega
  have hw1 : wrap64 ((i : Int) + 1) = ((i + 1 : Nat) : Int) := by rw [w64 (by omega) (by omega)]; omega
  refine Ev.succ ?_
  cases fd with
  | true =>
   simp only [Zn0, hc, decide_true, if_true, Bool.not_true, Bool.false_eq_true, if_false, ZvC]
   exact Ev.some _
  | false =>
   have h1 := ZDq e a n P hn hP i 0 [] false b (fun t ht => by cases ht) (by simp; omega) (by omega)
   simp only [List.nil_append, List.map_id', Int.natCast_zero] at h1
   rw [Zwk, ZdE]
   simp only [Zn0, hc, hw1, decide_true, if_true, Bool.not_false]
   exact Ev.bind h1 (ZBH d (i + 1) _ _ (by omega))
theorem ZDo : Ev (fun k => fYT k (n : Int) e a) (stepF P (allL n) false []).2 := by
 have h8 := ZBH e a n P hn hP (n + 1) 0 false [] (by omega)
 rw [Zy6] at h8
 refine Ev.succ ?_
 simp only [fYT]
 exact Ev.bind h8 (Ev.some _)
end
section
variable (e : List (List (List (Int × Int × Int)))) (a : List Int) (n : Nat) (P : List Int → Bool) (hn : n ≤ 10) (hP : ∀ l, chOK l n → l.length ≤ n → Ev (fun k => fKD k l e a) (P l))
include hn hP
theorem ZDm : ∀ (left fr : Nat) (l : List Int) (fd : Bool) (b : List Int), chOK l n → l.length + left ≤ n → fr ≤ n → Ev (fun k => (FXD k).1 l (fr : Int) (left : Int) e a (n : Int) (n : Int) fd b) (stepF P ((extL n left fr).map fun s => l ++ s) fd b) := by
 intro left
 induction left with
 | zero =>
  intro fr l fd b hl hlen hfr
  refine Ev.succ ?_
  cases fd with
  | true => simp only [FXD, if_true]; exact Ev.some _
  | false =>
   have g1 : l.length ≤ 140737488355328 / 8 := by omega
   simp only [FXD, Bool.false_eq_true, if_false, Int.natCast_zero, decide_true, if_true, List.length_nil, Nat.zero_add, List.nil_append, g1]
   refine Ev.bind (hP l hl (by omega)) ?_
   cases hp : P l with
   | false => simp only [Bool.false_eq_true, if_false]; exact Ev.of (by simp [stepF, extL, hp])
   | true => simp only [if_true]; exact Ev.of (by simp [stepF, extL, hp])
 | succ left ihL =>
  intro fr l fd b hl hlen hfr
  have loop : ∀ (d i : Nat) (fd : Bool) (b : List Int), n ≤ i + d → i ≤ n → Ev (fun k => (FXD k).2 e a (n : Int) l ((left + 1 : Nat) : Int) (n : Int) (i : Int) fd b) (stepF P ((extL n (left + 1) i).map fun s => l ++ s) fd b) := by
   intro d
   induction d with
   | zero =>
    intro i fd b hd hi
    have hw : wrap64 ((i : Int) + ((left + 1 : Nat) : Int)) = ((i + (left + 1) : Nat) : Int) := by rw [w64 (by omega) (by omega)]; omega
    have hc : ¬ ((i + (left + 1) : Nat) : Int) ≤ (n : Int) := by omega
    rw [Znl (by omega), List.map_nil, Zdj]
    refine Ev.succ ?_
    simp only [FXD, hw, hc, decide_false, Bool.false_eq_true, if_false]
    exact Ev.some _
   | succ d ihd =>
    intro i fd b hd hi
    have hw : wrap64 ((i : Int) + ((left + 1 : Nat) : Int)) = ((i + (left + 1) : Nat) : Int) := by rw [w64 (by omega) (by omega)]; omega
    by_cases hcc : i + (left + 1) ≤ n
    ·have hc : ((i + (left + 1) : Nat) : Int) ≤ (n : Int) := by omega
     have hw1 : wrap64 ((i : Int) + 1) = ((i + 1 : Nat) : Int) := by rw [w64 (by omega) (by omega)]; omega
     have hw2 : wrap64 (((left + 1 : Nat) : Int) - 1) = (left : Int) := by rw [w64 (by omega) (by omega)]; omega
     have g1 : l.length ≤ 140737488355328 / 8 := by omega
     have g2 : l.length + 1 ≤ 140737488355328 / 8 := by omega
     have h1 := ihL (i + 1) (l ++ [(i : Int)]) fd b (fun t ht => by
      rcases List.mem_append.1 ht with ht | ht
      ·exact hl t ht
      ·rw [List.mem_singleton.1 ht]; omega) (by simp; omega) (by omega)
     have hm : ((extL n left (i + 1)).map fun s => (l ++ [(i : Int)]) ++ s) = ((extL n left (i + 1)).map (fun s => (i : Int) :: s)).map fun s => l ++ s := by
      rw [List.map_map]
      refine List.map_congr_left (fun s _ => ?_)
      simp
     rw [hm] at h1
     rw [ZA1 hcc, List.map_append, ZdE]
     refine Ev.succ ?_
     simp only [FXD, hw, hc, hw1, hw2, decide_true, if_true, List.length_nil, Nat.zero_add, List.nil_append, List.length_singleton, g1, g2]
     refine Ev.bind (Ev.bind h1 (Ev.some _)) ?_
     simp only [hw1]
     exact ihd (i + 1) _ _ (by omega) (by omega)
    ·have hc : ¬ ((i + (left + 1) : Nat) : Int) ≤ (n : Int) := by omega
     rw [Znl hcc, List.map_nil, Zdj]
     refine Ev.succ ?_
     simp only [FXD, hw, hc, decide_false, Bool.false_eq_true, if_false]
     exact Ev.some _
  refine Ev.succ ?_
  cases fd with
  | true => simp only [FXD, if_true]; exact Ev.some _
  | false =>
   have h0 : ¬ ((left + 1 : Nat) : Int) = 0 := by omega
   simp only [FXD, Bool.false_eq_true, if_false, h0, decide_false]
   exact Ev.bind (loop n fr false b (by omega) hfr) (Ev.some _)
theorem ZBJ : ∀ (d i : Nat) (fd : Bool) (b : List Int), i + d = n + 1 → Ev (fun k => Zn8 k (n : Int) b fd e a (i : Int)) (stepF P ((List.range d).flatMap fun j => extL n (i + j) 0) fd b).2
 | 0, i, fd, b, h => by
  have hc : ¬ (i : Int) ≤ (n : Int) := by omega
  refine Ev.succ ?_
  simp only [Zn8, hc, decide_false, Bool.false_eq_true, if_false, List.range_zero, List.flatMap_nil, Zdj]
  exact Ev.some _
 | d + 1, i, fd, b, h => by
  have hc : (i : Int) ≤ (n : Int) := by omega
  have hw1 : wrap64 ((i : Int) + 1) = ((i + 1 : Nat) : Int) := by rw [w64 (by omega) (by omega)]; omega
  refine Ev.succ ?_
  cases fd with
  | true =>
   simp only [Zn8, hc, decide_true, if_true, Bool.not_true, Bool.false_eq_true, if_false, ZvC]
   exact Ev.some _
  | false =>
   have h1 := ZDm e a n P hn hP i 0 [] false b (fun t ht => by cases ht) (by simp; omega) (by omega)
   simp only [List.nil_append, List.map_id', Int.natCast_zero] at h1
   rw [Zwk, ZdE]
   simp only [Zn8, hc, hw1, decide_true, if_true, Bool.not_false]
   exact Ev.bind h1 (ZBJ d (i + 1) _ _ (by omega))
theorem ZDp : Ev (fun k => fYD k (n : Int) e a) (stepF P (allL n) false []).2 := by
 have h8 := ZBJ e a n P hn hP (n + 1) 0 false [] (by omega)
 rw [Zy6] at h8
 refine Ev.succ ?_
 simp only [fYD]
 exact Ev.bind h8 (Ev.some _)
end
theorem Zot (b : BoardD) (T : List (List Int)) (h0 : b.2.2.length ≤ 9223372036854775806) (h1 : T.length ≤ 9223372036854775806) (hx : ∀ x ∈ T, x.length ≤ 9223372036854775806) : Ev (fun k => Z4J k b T) (Z5n b T) := by
 refine Ev.succ ?_
 simp only [Z4J, Z38]
 unfold Z5n
 refine Ev.bind (a := (smallB b && testsOK b T)) (Zjy b T h0 h1 hx) ?_
 cases g0 : (smallB b && testsOK b T) with
 | false => simp only [Bool.not_false, if_true, Bool.false_eq_true, if_false, Bool.false_and, Bool.and_false]; exact Ev.some _
 | true =>
  simp only [Bool.not_true, Bool.false_eq_true, if_false, if_true, Bool.and_self]
  obtain ⟨hb, hn, hT⟩ := ZeL g0
  have hT1 : ∀ t ∈ T, t.length ≤ 1000 ∧ colsOK b t := fun t ht => ⟨by have := (hT t ht).1; omega, (hT t ht).2⟩
  have hC := Zfg hb hT1
  have hP : ∀ l, chOK l T.length → l.length ≤ T.length → Ev (fun k => fKT k l (casesL b T) ((classesL (keyC (casesL b T) (rangeI T.length)) (casesL b T).length).length : Int)) (tellP (casesL b T) T.length l) := by
   intro l hl hlen
   refine Ev.succ ?_
   simp only [fKT]
   refine Ev.bind (ZhM hC l hl (by omega)) (Ev.of ?_)
   unfold tellP
   congr 1
   have := ZCG (casesL b T) T.length l hl
   rw [decide_eq_decide, ← this]
   omega
  have h8 := ZDo (casesL b T) ((classesL (keyC (casesL b T) (rangeI T.length)) (casesL b T).length).length : Int) T.length (tellP (casesL b T) T.length) hn hP
  rw [Zwq _ _ (by unfold tellP; exact decide_eq_true rfl)] at h8
  refine Ev.bind (Zjv b hb T hT1 (by omega)) ?_
  refine Ev.bind (Ev.bind (Zis T (by omega)) (Ev.bind (ZhM hC _ (Zff _) (by rw [Zbp]; omega)) (Ev.some _))) ?_
  exact Ev.bind h8 (Ev.some _)
theorem Zlx (b : BoardD) (T : List (List Int)) (h0 : b.2.2.length ≤ 9223372036854775806) (h1 : T.length ≤ 9223372036854775806) (hx : ∀ x ∈ T, x.length ≤ 9223372036854775806) : Ev (fun k => Z3t k b T) (Z3i b T) := by
 refine Ev.succ ?_
 simp only [Z3t, Z2c]
 unfold Z3i
 refine Ev.bind (a := (smallB b && testsOK b T)) (Zjy b T h0 h1 hx) ?_
 cases g0 : (smallB b && testsOK b T) with
 | false => simp only [Bool.not_false, if_true, Bool.false_eq_true, if_false, Bool.false_and, Bool.and_false]; exact Ev.some _
 | true =>
  simp only [Bool.not_true, Bool.false_eq_true, if_false, if_true, Bool.and_self]
  obtain ⟨hb, hn, hT⟩ := ZeL g0
  have hT1 : ∀ t ∈ T, t.length ≤ 1000 ∧ colsOK b t := fun t ht => ⟨by have := (hT t ht).1; omega, (hT t ht).2⟩
  have hC := Zfg hb hT1
  have hP : ∀ l, chOK l T.length → l.length ≤ T.length → Ev (fun k => fKD k l (casesL b T) (detI (casesL b T) (rangeI T.length))) (detPP (casesL b T) T.length l) := by
   intro l hl hlen
   have hdl := Zf9 (fun j => !decide (keyC (casesL b T) l 0 = keyC (casesL b T) l (j + 1))) ((casesL b T).length - 1) 0
   have := hC.len
   refine Ev.succ ?_
   simp only [fKD]
   refine Ev.bind (a := detI (casesL b T) l) (Zgz hC l hl (by omega)) ?_
   exact Ev.bind (Zku _ _ (by unfold detI; omega)) (Ev.some _)
  have h8 := ZDp (casesL b T) (detI (casesL b T) (rangeI T.length)) T.length (detPP (casesL b T) T.length) hn hP
  rw [Zwq _ _ (by unfold detPP; exact decide_eq_true rfl)] at h8
  refine Ev.bind (Zjv b hb T hT1 (by omega)) ?_
  refine Ev.bind (Ev.bind (Zis T (by omega)) (Ev.bind (Zgz hC _ (Zff _) (by rw [Zbp]; omega)) (Ev.some _))) ?_
  exact Ev.bind h8 (Ev.some _)
end Go.Proofs.Ytpeflcbadgfebaa.Vs

set_option maxRecDepth 100000
set_option maxHeartbeats 2000000
set_option linter.unusedVariables false
set_option linter.unusedSimpArgs false
namespace Go.Proofs.Ytpeflcbadgfebaa.Vs
open Go.RowKit
noncomputable section
noncomputable def Z1t : List PK := [PK.mk Ty.bool false none false none]
noncomputable def Z1u : List PK := [PK.mk (Ty.pair (Ty.int .i64) (Ty.pair (Ty.int .i64) (Ty.slice (75 : Nat) (Ty.pair (Ty.int .i64) (Ty.int .i64))))) true none false none, PK.mk (Ty.slice (28 : Nat) (Ty.slice (3 : Nat) (Ty.int .i64))) false none false none]
noncomputable def Z97 (r : Bool) : Tup Z1t × OutD := ((r, ()), none)
noncomputable def Z94 : Tup Z1t × OutD → Option (Bool)
 | (a, none) => some (a.1)
 | _ => none
theorem Ze1 : ∀ b r, Z94 b = some r → Z97 r = b := by
 rintro ⟨a, o⟩ r h
 cases o with
 | none => injection h with h; subst h; rfl
 | some _ => cases h
noncomputable def Z6d : Nat → Int × Int × List (Int × Int) → List (List Int) → Option Bool
 | 0, _, _ => none
 | k + 1, p0, p1 =>
  Option.bind (Z8E k (Prod.fst p0, Prod.fst p0.2, Prod.snd p0.2) (1048576 : Int)) fun z0 => if decide (z0 < (0 : Int)) = true then some true else Option.bind (Z93 k p1 z0) fun z1 => if decide (z1 < (0 : Int)) = true then some true else Option.bind (Z16 k (Prod.fst p0, Prod.fst p0.2, Prod.snd p0.2)) fun z2 => Option.bind (Z1a k p1) fun z3 => Option.bind (Z7n k (Prod.fst z2, Prod.fst z2.2, Prod.snd z2.2) z3) fun z4 => Option.bind (Z16 k (Prod.fst p0, Prod.fst p0.2, Prod.snd p0.2)) fun z5 => Option.bind (Z1a k p1) fun z6 => Option.bind (Z4J k (Prod.fst z5, Prod.fst z5.2, Prod.snd z5.2) z6) fun z7 => Option.bind (Z2g k z7.1 z4.1) fun z8 => if (!z8) = true then some false else if (!Prod.snd z7 == Prod.snd z4) = true then some false else Option.bind (Z16 k (Prod.fst p0, Prod.fst p0.2, Prod.snd p0.2)) fun z9 => Option.bind (Z8S k (Prod.fst z5, Prod.fst z5.2, Prod.snd z5.2) (Prod.fst z9, Prod.fst z9.2, Prod.snd z9.2)) fun z10 => if (!z10) = true then some false else Option.bind (Z1a k p1) fun z11 => Option.bind (Z8Z k z6 z11) fun z12 => if (!z12) = true then some false else Option.bind (Z7e k (Prod.fst z5, Prod.fst z5.2, Prod.snd z5.2) (1 : Int)) fun z13 => Option.bind (Z9n k z6 z13.1) fun z14 => if decide (Prod.fst z14 < (0 : Int)) = true then some false else Option.bind (Z2g k z7.1 z4.1) fun z15 => if (!z15) = true then some false else if (!Prod.snd z7 == Prod.snd z4) = true then some false else Option.bind (Z7Y k z7.1 (1 : Int)) fun z16 => Option.bind (Z60 k z16.2 (1 : Int)) fun z17 => if decide (z17 < (0 : Int)) = true then some false else if decide (z17 ≠ Prod.fst z16) = true then some false else Option.bind (Z16 k (Prod.fst p0, Prod.fst p0.2, Prod.snd p0.2)) fun z18 => Option.bind (Z1a k p1) fun z19 => Option.bind (Z4J k (Prod.fst z18, Prod.fst z18.2, Prod.snd z18.2) z19) fun z20 => Option.bind (Z2g k z20.1 z4.1) fun z21 => if (!z21) = true then some false else if (!Prod.snd z20 == Prod.snd z4) = true then some false else Option.bind (Z60 k z16.2 (1 : Int)) fun z22 => if decide (z22 < (0 : Int)) = true then some false else if decide (z22 ≠ Prod.fst z16) = true then some false else some true
noncomputable def Zf : FnDef := .of Z1u Z1t (Bool) (fun k x => Z6d k x.1 x.2.1) Z97 Z94 Ze1
noncomputable def Z6j : Code := Try.f3.body.getD .skip
noncomputable def Z3d : Ctx (Tup Z1t × OutD) := { T := T, G := [(6, Z2n.E), (7, Z2D.E), (9, Z2p.E), (10, Z2s.E), (8, ZW.E), (11, ZX.E), (12, Z2f.E), (13, Z2l.E), (14, Z2x.E), (15, Z1n.E), (16, Z1q.E), (17, ZM.E), (18, Z1Y.E)], mvs := [], no := 0, n := 119, res := resOf T Z1u Z1t Try.f3.results.toList, loops := [], regs := [], conds := [], cuts := [] }
theorem Zg5 (k : Nat) : EnvOK Try.prog k Z3d.G := (EnvOK.cons (Zmc k) (EnvOK.cons (ZlH k) (EnvOK.cons (Zkw k) (EnvOK.cons (Zln k) (EnvOK.cons (Zp4 k) (EnvOK.cons (ZoZ k) (EnvOK.cons (ZfU k) (EnvOK.cons (ZkQ k) (EnvOK.cons (ZkJ k) (EnvOK.cons (ZhE k) (EnvOK.cons (ZhN k) (EnvOK.cons (ZdY k) (EnvOK.cons (Zjk k) (EnvOK.nil mixed))))))))))))))
theorem ZfZ (k : Nat) (x : Tup Zf.ps) : Zf.f (k + 1) x = fnK Zf Z3d Z6j k x := by kernel_rfl
theorem ZfB (x : Tup Zf.ps) : Zf.f 0 x = none := by kernel_rfl
theorem ZfH (k : Nat) : LOK Try.prog Z3d k Z6j := LOK.by [] (by kernel_rfl) AllOK.nil
theorem Zg0 (k : Nat) : SoundAt Try.prog k 3 Zf.E := @Z1 Try.prog Zf Z3d 3 Try.f3 Z6j (by kernel_rfl) (by kernel_rfl) (by kernel_rfl) Try.func3 (by kernel_rfl) (by kernel_rfl) (by kernel_rfl) T_ok Zg5 ZfH ZfB ZfZ k
end
end Go.Proofs.Ytpeflcbadgfebaa.Vs

set_option linter.unusedVariables false
set_option linter.unusedSimpArgs false
namespace Go.Proofs.Ytpeflcbadgfebaa.Vs
open Go.RowKit
theorem Zre (b : BoardD) (T : List (List Int)) : (Z5n b T).1.length ≤ 271 := by
 unfold Z5n
 split
 ·rename_i g0
  obtain ⟨hb, hn, hT⟩ := ZeL g0
  have h := (ZhL T.length (tellP (casesL b T) T.length) (rangeI T.length) (Znb _) (by unfold tellP; exact decide_eq_true rfl)).inc
  rcases ZkH h with h1 | h1
  ·show (foldB _ _ _).length ≤ 271
   rw [h1]
   exact Nat.zero_le _
  ·show (foldB _ _ _).length ≤ 271
   omega
 ·exact Nat.zero_le _
theorem ZiD (p0 : BoardD) (p1 : List (List Int)) (h0 : p0.2.2.length ≤ 9223372036854775807) (h1 : p1.length ≤ 9223372036854775807) (g1 : ∀ x ∈ p1, x.length ≤ 9223372036854775807) : Ev (fun k => Z6d k p0 p1) true := by
 refine Ev.succ ?_
 simp only [Z6d]
 refine Ev.bind (ZlC _ _ (by first | omega | (dsimp only; omega)) (by first | omega | (dsimp only; omega)) (by first | omega | (dsimp only; omega))) ?_
 by_cases q1 : (1048576 : Int) - (p0.2.2.length : Int) < 0
 ·simp only [q1, if_true]; exact Ev.some _
 simp only [q1, if_false, decide_false, Bool.false_eq_true]
 refine Ev.bind (Zm4 _ _ (by omega) (by omega) (by omega) g1) ?_
 by_cases q2 : (1048576 : Int) - (p0.2.2.length : Int) - (p1.length : Int) < 0
 ·simp only [q2, if_true]; exact Ev.some _
 simp only [q2, if_false]
 by_cases r2 : (1048576 : Int) - (p0.2.2.length : Int) - (p1.length : Int) - szRows p1 < 0
 ·simp only [r2, if_true]; exact Ev.some _
 simp only [r2, if_false, decide_false, Bool.false_eq_true]
 have y1 := Z7K p1
 have u1 : ∀ x ∈ p1, x.length ≤ 1048576 := fun x hx => by have := Znf hx; omega
 have v1 : ∀ x ∈ p1, x.length ≤ 9223372036854775806 := fun x hxl => by have := u1 x hxl; omega
 have es := Zoz p0 p1 (by omega) (by omega) (by assumption)
 have ei := Zot p0 p1 (by omega) (by omega) (by assumption)
 have hr := Zre p0 p1
 generalize Z5n p0 p1 = R at es ei hr
 refine Ev.bind (Z3C _ (by first | omega | (dsimp only; omega))) ?_
 refine Ev.bind (Z3k _ (by first | omega | (dsimp only; omega)) (by assumption)) ?_
 refine Ev.bind es ?_
 refine Ev.bind (Z3C _ (by first | omega | (dsimp only; omega))) ?_
 refine Ev.bind (Z3k _ (by first | omega | (dsimp only; omega)) (by assumption)) ?_
 refine Ev.bind ei ?_
 refine Ev.bind (Z6n _ _ (by first | omega | (dsimp only; omega))) ?_
 simp only [decide_true, beq_self_eq_true, ne_eq, not_true_eq_false, decide_false, Bool.not_true, Bool.false_eq_true, if_false]
 refine Ev.bind (Z3C _ (by first | omega | (dsimp only; omega))) ?_
 refine Ev.bind (Zl1 _ _ (by first | omega | (dsimp only; omega))) ?_
 simp only [decide_true, beq_self_eq_true, ne_eq, not_true_eq_false, decide_false, Bool.not_true, Bool.false_eq_true, if_false]
 refine Ev.bind (Z3k _ (by first | omega | (dsimp only; omega)) (by assumption)) ?_
 refine Ev.bind (ZkV _ _ (by first | omega | (dsimp only; omega)) (by assumption)) ?_
 simp only [decide_true, beq_self_eq_true, ne_eq, not_true_eq_false, decide_false, Bool.not_true, Bool.false_eq_true, if_false]
 refine Ev.bind (Ziq _ _ (by first | omega | (dsimp only; omega)) (by first | omega | (dsimp only; omega))) ?_
 try dsimp only
 refine Ev.bind (ZhZ _ _ (by first | omega | (dsimp only; omega)) (by first | omega | (dsimp only; omega)) (by first | omega | (dsimp only; omega))) ?_
 try dsimp only
 refine Ev.ite (fun h => by simp only [decide_eq_true_eq] at h; omega) (fun h => ?_)
 refine Ev.bind (Z6n _ _ (by first | omega | (dsimp only; omega))) ?_
 simp only [decide_true, beq_self_eq_true, ne_eq, not_true_eq_false, decide_false, Bool.not_true, Bool.false_eq_true, if_false]
 refine Ev.bind (ZdP _ _ (by first | omega | (dsimp only; omega)) (by first | omega | (dsimp only; omega))) ?_
 try dsimp only
 refine Ev.bind (Zan _ _ (by first | omega | (dsimp only; omega)) (by first | omega | (dsimp only; omega))) ?_
 try dsimp only
 refine Ev.ite (fun h => by simp only [decide_eq_true_eq] at h; omega) (fun h => ?_)
 simp only [decide_true, beq_self_eq_true, ne_eq, not_true_eq_false, decide_false, Bool.not_true, Bool.false_eq_true, if_false]
 refine Ev.bind (Z3C _ (by first | omega | (dsimp only; omega))) ?_
 refine Ev.bind (Z3k _ (by first | omega | (dsimp only; omega)) (by assumption)) ?_
 refine Ev.bind ei ?_
 refine Ev.bind (Z6n _ _ (by first | omega | (dsimp only; omega))) ?_
 simp only [decide_true, beq_self_eq_true, ne_eq, not_true_eq_false, decide_false, Bool.not_true, Bool.false_eq_true, if_false]
 refine Ev.bind (Zan _ _ (by first | omega | (dsimp only; omega)) (by first | omega | (dsimp only; omega))) ?_
 try dsimp only
 refine Ev.ite (fun h => by simp only [decide_eq_true_eq] at h; omega) (fun h => ?_)
 simp only [decide_true, beq_self_eq_true, ne_eq, not_true_eq_false, decide_false, Bool.not_true, Bool.false_eq_true, if_false]
 exact Ev.some _
end Go.Proofs.Ytpeflcbadgfebaa.Vs

set_option maxRecDepth 100000
set_option maxHeartbeats 2000000
set_option linter.unusedVariables false
set_option linter.unusedSimpArgs false
namespace Go.Proofs.Ytpeflcbadgfebaa.Vs
open Go.RowKit
noncomputable section
noncomputable def Z1h : List PK := [PK.mk Ty.bool false none false none]
noncomputable def Z1g : List PK := [PK.mk (Ty.pair (Ty.int .i64) (Ty.pair (Ty.int .i64) (Ty.slice (75 : Nat) (Ty.pair (Ty.int .i64) (Ty.int .i64))))) true none false none, PK.mk (Ty.slice (28 : Nat) (Ty.slice (3 : Nat) (Ty.int .i64))) false none false none]
noncomputable def Z8l (r : Bool) : Tup Z1h × OutD := ((r, ()), none)
noncomputable def Z8k : Tup Z1h × OutD → Option (Bool)
 | (a, none) => some (a.1)
 | _ => none
theorem ZcZ : ∀ b r, Z8k b = some r → Z8l r = b := by
 rintro ⟨a, o⟩ r h
 cases o with
 | none => injection h with h; subst h; rfl
 | some _ => cases h
noncomputable def Z5p : Nat → Int × Int × List (Int × Int) → List (List Int) → Option Bool
 | 0, _, _ => none
 | k + 1, p0, p1 =>
  Option.bind (Z8E k (Prod.fst p0, Prod.fst p0.2, Prod.snd p0.2) (1048576 : Int)) fun z0 => if decide (z0 < (0 : Int)) = true then some true else Option.bind (Z93 k p1 z0) fun z1 => if decide (z1 < (0 : Int)) = true then some true else Option.bind (Z16 k (Prod.fst p0, Prod.fst p0.2, Prod.snd p0.2)) fun z2 => Option.bind (Z1a k p1) fun z3 => Option.bind (Z5T k (Prod.fst z2, Prod.fst z2.2, Prod.snd z2.2) z3) fun z4 => Option.bind (Z16 k (Prod.fst p0, Prod.fst p0.2, Prod.snd p0.2)) fun z5 => Option.bind (Z1a k p1) fun z6 => Option.bind (Z3t k (Prod.fst z5, Prod.fst z5.2, Prod.snd z5.2) z6) fun z7 => Option.bind (Z2g k z7.1 z4.1) fun z8 => if (!z8) = true then some false else if (!Prod.snd z7 == Prod.snd z4) = true then some false else Option.bind (Z16 k (Prod.fst p0, Prod.fst p0.2, Prod.snd p0.2)) fun z9 => Option.bind (Z8S k (Prod.fst z5, Prod.fst z5.2, Prod.snd z5.2) (Prod.fst z9, Prod.fst z9.2, Prod.snd z9.2)) fun z10 => if (!z10) = true then some false else Option.bind (Z1a k p1) fun z11 => Option.bind (Z8Z k z6 z11) fun z12 => if (!z12) = true then some false else Option.bind (Z7e k (Prod.fst z5, Prod.fst z5.2, Prod.snd z5.2) (1 : Int)) fun z13 => Option.bind (Z9n k z6 z13.1) fun z14 => if decide (Prod.fst z14 < (0 : Int)) = true then some false else Option.bind (Z2g k z7.1 z4.1) fun z15 => if (!z15) = true then some false else if (!Prod.snd z7 == Prod.snd z4) = true then some false else Option.bind (Z7Y k z7.1 (1 : Int)) fun z16 => Option.bind (Z60 k z16.2 (1 : Int)) fun z17 => if decide (z17 < (0 : Int)) = true then some false else if decide (z17 ≠ Prod.fst z16) = true then some false else Option.bind (Z16 k (Prod.fst p0, Prod.fst p0.2, Prod.snd p0.2)) fun z18 => Option.bind (Z1a k p1) fun z19 => Option.bind (Z3t k (Prod.fst z18, Prod.fst z18.2, Prod.snd z18.2) z19) fun z20 => Option.bind (Z2g k z20.1 z4.1) fun z21 => if (!z21) = true then some false else if (!Prod.snd z20 == Prod.snd z4) = true then some false else Option.bind (Z60 k z16.2 (1 : Int)) fun z22 => if decide (z22 < (0 : Int)) = true then some false else if decide (z22 ≠ Prod.fst z16) = true then some false else some true
noncomputable def Zc : FnDef := .of Z1g Z1h (Bool) (fun k x => Z5p k x.1 x.2.1) Z8l Z8k ZcZ
noncomputable def Z4U : Code := Try.f4.body.getD .skip
noncomputable def Z2o : Ctx (Tup Z1h × OutD) := { T := T, G := [(6, Z2n.E), (7, Z2D.E), (9, Z2p.E), (10, Z2s.E), (19, ZC.E), (20, ZG.E), (12, Z2f.E), (13, Z2l.E), (14, Z2x.E), (15, Z1n.E), (16, Z1q.E), (17, ZM.E), (18, Z1Y.E)], mvs := [], no := 0, n := 119, res := resOf T Z1g Z1h Try.f4.results.toList, loops := [], regs := [], conds := [], cuts := [] }
theorem ZeE (k : Nat) : EnvOK Try.prog k Z2o.G := (EnvOK.cons (Zmc k) (EnvOK.cons (ZlH k) (EnvOK.cons (Zkw k) (EnvOK.cons (Zln k) (EnvOK.cons (Zm8 k) (EnvOK.cons (Zlc k) (EnvOK.cons (ZfU k) (EnvOK.cons (ZkQ k) (EnvOK.cons (ZkJ k) (EnvOK.cons (ZhE k) (EnvOK.cons (ZhN k) (EnvOK.cons (ZdY k) (EnvOK.cons (Zjk k) (EnvOK.nil mixed))))))))))))))
theorem ZeD (k : Nat) (x : Tup Zc.ps) : Zc.f (k + 1) x = fnK Zc Z2o Z4U k x := by kernel_rfl
theorem ZeH (x : Tup Zc.ps) : Zc.f 0 x = none := by kernel_rfl
theorem ZeF (k : Nat) : LOK Try.prog Z2o k Z4U := LOK.by [] (by kernel_rfl) AllOK.nil
theorem ZeI (k : Nat) : SoundAt Try.prog k 4 Zc.E := @Z1 Try.prog Zc Z2o 4 Try.f4 Z4U (by kernel_rfl) (by kernel_rfl) (by kernel_rfl) Try.func4 (by kernel_rfl) (by kernel_rfl) (by kernel_rfl) T_ok ZeE ZeF ZeH ZeD k
end
end Go.Proofs.Ytpeflcbadgfebaa.Vs

set_option linter.unusedVariables false
set_option linter.unusedSimpArgs false
namespace Go.Proofs.Ytpeflcbadgfebaa.Vs
open Go.RowKit
theorem Zne (b : BoardD) (T : List (List Int)) : (Z3i b T).1.length ≤ 271 := by
 unfold Z3i
 split
 ·rename_i g0
  obtain ⟨hb, hn, hT⟩ := ZeL g0
  have h := (ZhL T.length (detPP (casesL b T) T.length) (rangeI T.length) (Znb _) (by unfold detPP; exact decide_eq_true rfl)).inc
  rcases ZkH h with h1 | h1
  ·show (foldB _ _ _).length ≤ 271
   rw [h1]
   exact Nat.zero_le _
  ·show (foldB _ _ _).length ≤ 271
   omega
 ·exact Nat.zero_le _
theorem Zh6 (p0 : BoardD) (p1 : List (List Int)) (h0 : p0.2.2.length ≤ 9223372036854775807) (h1 : p1.length ≤ 9223372036854775807) (g1 : ∀ x ∈ p1, x.length ≤ 9223372036854775807) : Ev (fun k => Z5p k p0 p1) true := by
 refine Ev.succ ?_
 simp only [Z5p]
 refine Ev.bind (ZlC _ _ (by first | omega | (dsimp only; omega)) (by first | omega | (dsimp only; omega)) (by first | omega | (dsimp only; omega))) ?_
 by_cases q1 : (1048576 : Int) - (p0.2.2.length : Int) < 0
 ·simp only [q1, if_true]; exact Ev.some _
 simp only [q1, if_false, decide_false, Bool.false_eq_true]
 refine Ev.bind (Zm4 _ _ (by omega) (by omega) (by omega) g1) ?_
 by_cases q2 : (1048576 : Int) - (p0.2.2.length : Int) - (p1.length : Int) < 0
 ·simp only [q2, if_true]; exact Ev.some _
 simp only [q2, if_false]
 by_cases r2 : (1048576 : Int) - (p0.2.2.length : Int) - (p1.length : Int) - szRows p1 < 0
 ·simp only [r2, if_true]; exact Ev.some _
 simp only [r2, if_false, decide_false, Bool.false_eq_true]
 have y1 := Z7K p1
 have u1 : ∀ x ∈ p1, x.length ≤ 1048576 := fun x hx => by have := Znf hx; omega
 have v1 : ∀ x ∈ p1, x.length ≤ 9223372036854775806 := fun x hxl => by have := u1 x hxl; omega
 have es := Zmj p0 p1 (by omega) (by omega) (by assumption)
 have ei := Zlx p0 p1 (by omega) (by omega) (by assumption)
 have hr := Zne p0 p1
 generalize Z3i p0 p1 = R at es ei hr
 refine Ev.bind (Z3C _ (by first | omega | (dsimp only; omega))) ?_
 refine Ev.bind (Z3k _ (by first | omega | (dsimp only; omega)) (by assumption)) ?_
 refine Ev.bind es ?_
 refine Ev.bind (Z3C _ (by first | omega | (dsimp only; omega))) ?_
 refine Ev.bind (Z3k _ (by first | omega | (dsimp only; omega)) (by assumption)) ?_
 refine Ev.bind ei ?_
 refine Ev.bind (Z6n _ _ (by first | omega | (dsimp only; omega))) ?_
 simp only [decide_true, beq_self_eq_true, ne_eq, not_true_eq_false, decide_false, Bool.not_true, Bool.false_eq_true, if_false]
 refine Ev.bind (Z3C _ (by first | omega | (dsimp only; omega))) ?_
 refine Ev.bind (Zl1 _ _ (by first | omega | (dsimp only; omega))) ?_
 simp only [decide_true, beq_self_eq_true, ne_eq, not_true_eq_false, decide_false, Bool.not_true, Bool.false_eq_true, if_false]
 refine Ev.bind (Z3k _ (by first | omega | (dsimp only; omega)) (by assumption)) ?_
 refine Ev.bind (ZkV _ _ (by first | omega | (dsimp only; omega)) (by assumption)) ?_
 simp only [decide_true, beq_self_eq_true, ne_eq, not_true_eq_false, decide_false, Bool.not_true, Bool.false_eq_true, if_false]
 refine Ev.bind (Ziq _ _ (by first | omega | (dsimp only; omega)) (by first | omega | (dsimp only; omega))) ?_
 try dsimp only
 refine Ev.bind (ZhZ _ _ (by first | omega | (dsimp only; omega)) (by first | omega | (dsimp only; omega)) (by first | omega | (dsimp only; omega))) ?_
 try dsimp only
 refine Ev.ite (fun h => by simp only [decide_eq_true_eq] at h; omega) (fun h => ?_)
 refine Ev.bind (Z6n _ _ (by first | omega | (dsimp only; omega))) ?_
 simp only [decide_true, beq_self_eq_true, ne_eq, not_true_eq_false, decide_false, Bool.not_true, Bool.false_eq_true, if_false]
 refine Ev.bind (ZdP _ _ (by first | omega | (dsimp only; omega)) (by first | omega | (dsimp only; omega))) ?_
 try dsimp only
 refine Ev.bind (Zan _ _ (by first | omega | (dsimp only; omega)) (by first | omega | (dsimp only; omega))) ?_
 try dsimp only
 refine Ev.ite (fun h => by simp only [decide_eq_true_eq] at h; omega) (fun h => ?_)
 simp only [decide_true, beq_self_eq_true, ne_eq, not_true_eq_false, decide_false, Bool.not_true, Bool.false_eq_true, if_false]
 refine Ev.bind (Z3C _ (by first | omega | (dsimp only; omega))) ?_
 refine Ev.bind (Z3k _ (by first | omega | (dsimp only; omega)) (by assumption)) ?_
 refine Ev.bind ei ?_
 refine Ev.bind (Z6n _ _ (by first | omega | (dsimp only; omega))) ?_
 simp only [decide_true, beq_self_eq_true, ne_eq, not_true_eq_false, decide_false, Bool.not_true, Bool.false_eq_true, if_false]
 refine Ev.bind (Zan _ _ (by first | omega | (dsimp only; omega)) (by first | omega | (dsimp only; omega))) ?_
 try dsimp only
 refine Ev.ite (fun h => by simp only [decide_eq_true_eq] at h; omega) (fun h => ?_)
 simp only [decide_true, beq_self_eq_true, ne_eq, not_true_eq_false, decide_false, Bool.not_true, Bool.false_eq_true, if_false]
 exact Ev.some _
end Go.Proofs.Ytpeflcbadgfebaa.Vs
