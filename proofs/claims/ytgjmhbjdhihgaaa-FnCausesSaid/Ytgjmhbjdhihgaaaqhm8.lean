/- The proof, part 9. -/
import Derived.Test.Ytgjmhbjdhihgaaaqhm7
set_option maxRecDepth 100000
set_option maxHeartbeats 2000000
set_option linter.unusedVariables false
set_option linter.unusedSimpArgs false
namespace Go.Proofs.Ytgjmhbjdhihgaaa.Vs
open Go.RowKit
noncomputable section
noncomputable def Z5P : List PK := [PK.mk (Ty.slice (77 : Nat) (Ty.pair (Ty.int .i64) (Ty.pair (Ty.int .i64) (Ty.int .i64)))) false none false none, PK.mk Ty.bool false none false none]
noncomputable def Zgj : List PK := [PK.mk (Ty.pair (Ty.int .i64) (Ty.pair (Ty.int .i64) (Ty.slice (79 : Nat) (Ty.pair (Ty.int .i64) (Ty.int .i64))))) true none false none, PK.mk (Ty.slice (3 : Nat) (Ty.int .i64)) false none false none, PK.mk (Ty.slice (63 : Nat) (Ty.pair (Ty.int .i64) (Ty.pair (Ty.int .i64) (Ty.int .i64)))) false none false none]
noncomputable def Zfo (r : List (Int × Int × Int) × Bool) : Tup Z5P × OutD := ((r.1, r.2, ()), none)
noncomputable def Zfc : Tup Z5P × OutD → Option (List (Int × Int × Int) × Bool)
 | (a, none) => some (a.1, a.2.1)
 | _ => none
theorem ZkF : ∀ b r, Zfc b = some r → Zfo r = b := by
 rintro ⟨a, o⟩ r h
 cases o with
 | none => injection h with h; subst h; rfl
 | some _ => cases h
noncomputable def Z8K : Nat → Int × Int × List (Int × Int) → List Int → List (Int × Int × Int) → Option (List (Int × Int × Int) × Bool)
 | 0, _, _, _ => none
 | k + 1, p0, p1, p2 =>
  Option.bind (Z5E k (Prod.fst p0, Prod.fst p0.2, Prod.snd p0.2) p1 p2) fun z0 => if (!z0) = true then some ([], false) else Option.bind (Z5W k (Prod.fst p0, Prod.fst p0.2, Prod.snd p0.2) p1 p2) fun z1 => some (z1, true)
noncomputable def Z2a : FnDef := .of Zgj Z5P (List (Int × Int × Int) × Bool) (fun k x => Z8K k x.1 x.2.1 x.2.2.1) Zfo Zfc ZkF
noncomputable def ZbU : Code := Try.f54.body.getD .skip
noncomputable def Z8V : Ctx (Tup Z5P × OutD) := { T := T, G := [(137, Z2i.E), (138, Z1E.E)], mvs := [], no := 0, n := 17, res := resOf T Zgj Z5P Try.f54.results.toList, loops := [], regs := [], conds := [] }
theorem Zqg (k : Nat) : EnvOK Try.prog k Z8V.G := (EnvOK.cons (Zbv k) (EnvOK.cons (Zg8 k) (EnvOK.nil mixed)))
theorem Zri (k : Nat) (x : Tup Z2a.ps) : Z2a.f (k + 1) x = fnK Z2a Z8V ZbU k x := by kernel_rfl
theorem Zrb (x : Tup Z2a.ps) : Z2a.f 0 x = none := by kernel_rfl
theorem Zr1 (k : Nat) : LOK Try.prog Z8V k ZbU := LOK.by [] (by kernel_rfl) AllOK.nil
theorem Zrd (k : Nat) : SoundAt Try.prog k 54 Z2a.E := @Ze Try.prog Z2a Z8V 54 Try.f54 ZbU (by kernel_rfl) (by kernel_rfl) (by kernel_rfl) Try.func54 (by kernel_rfl) (by kernel_rfl) (by kernel_rfl) T_ok Zqg Zr1 Zrb Zri k
noncomputable def Z5Z : List PK := [PK.mk (Ty.slice (77 : Nat) (Ty.pair (Ty.int .i64) (Ty.pair (Ty.int .i64) (Ty.int .i64)))) false none false none, PK.mk Ty.bool false none false none]
noncomputable def Zg4 : List PK := [PK.mk (Ty.pair (Ty.int .i64) (Ty.pair (Ty.int .i64) (Ty.slice (79 : Nat) (Ty.pair (Ty.int .i64) (Ty.int .i64))))) true none false none, PK.mk (Ty.slice (3 : Nat) (Ty.int .i64)) false none false none, PK.mk (Ty.slice (63 : Nat) (Ty.pair (Ty.int .i64) (Ty.pair (Ty.int .i64) (Ty.int .i64)))) false none false none]
noncomputable def ZeR (r : List (Int × Int × Int) × Bool) : Tup Z5Z × OutD := ((r.1, r.2, ()), none)
noncomputable def Zfe : Tup Z5Z × OutD → Option (List (Int × Int × Int) × Bool)
 | (a, none) => some (a.1, a.2.1)
 | _ => none
theorem ZkE : ∀ b r, Zfe b = some r → ZeR r = b := by
 rintro ⟨a, o⟩ r h
 cases o with
 | none => injection h with h; subst h; rfl
 | some _ => cases h
noncomputable def Z8S : Nat → Int × Int × List (Int × Int) → List Int → List (Int × Int × Int) → Option (List (Int × Int × Int) × Bool)
 | 0, _, _, _ => none
 | k + 1, p0, p1, p2 =>
  Option.bind (Z4s k (Prod.fst p0, Prod.fst p0.2, Prod.snd p0.2) p1 p2) fun z0 => if (!z0) = true then some ([], false) else Option.bind (Z74 k (Prod.fst p0, Prod.fst p0.2, Prod.snd p0.2) p1 p2) fun z1 => some (z1, true)
noncomputable def Z29 : FnDef := .of Zg4 Z5Z (List (Int × Int × Int) × Bool) (fun k x => Z8S k x.1 x.2.1 x.2.2.1) ZeR Zfe ZkE
noncomputable def ZbI : Code := Try.f55.body.getD .skip
noncomputable def Z8R : Ctx (Tup Z5Z × OutD) := { T := T, G := [(139, Z1R.E), (140, Z2s.E)], mvs := [], no := 0, n := 17, res := resOf T Zg4 Z5Z Try.f55.results.toList, loops := [], regs := [], conds := [] }
theorem ZqC (k : Nat) : EnvOK Try.prog k Z8R.G := (EnvOK.cons (Z95 k) (EnvOK.cons (ZfA k) (EnvOK.nil mixed)))
theorem ZqH (k : Nat) (x : Tup Z29.ps) : Z29.f (k + 1) x = fnK Z29 Z8R ZbI k x := by kernel_rfl
theorem Zra (x : Tup Z29.ps) : Z29.f 0 x = none := by kernel_rfl
theorem Zrg (k : Nat) : LOK Try.prog Z8R k ZbI := LOK.by [] (by kernel_rfl) AllOK.nil
theorem Zrk (k : Nat) : SoundAt Try.prog k 55 Z29.E := @Ze Try.prog Z29 Z8R 55 Try.f55 ZbI (by kernel_rfl) (by kernel_rfl) (by kernel_rfl) Try.func55 (by kernel_rfl) (by kernel_rfl) (by kernel_rfl) T_ok ZqC Zrg Zra ZqH k
noncomputable def Z7F : List PK := [PK.mk (Ty.slice (34 : Nat) (Ty.slice (3 : Nat) (Ty.int .i64))) false none false none, PK.mk Ty.bool false none false none]
noncomputable def ZhX : List PK := [PK.mk (Ty.pair (Ty.int .i64) (Ty.pair (Ty.int .i64) (Ty.slice (79 : Nat) (Ty.pair (Ty.int .i64) (Ty.int .i64))))) true none false none, PK.mk (Ty.slice (3 : Nat) (Ty.int .i64)) false none false none, PK.mk (Ty.slice (63 : Nat) (Ty.pair (Ty.int .i64) (Ty.pair (Ty.int .i64) (Ty.int .i64)))) false none false none]
noncomputable def Zhb (r : List (List Int) × Bool) : Tup Z7F × OutD := ((r.1, r.2, ()), none)
noncomputable def Zhi : Tup Z7F × OutD → Option (List (List Int) × Bool)
 | (a, none) => some (a.1, a.2.1)
 | _ => none
theorem Znx : ∀ b r, Zhi b = some r → Zhb r = b := by
 rintro ⟨a, o⟩ r h
 cases o with
 | none => injection h with h; subst h; rfl
 | some _ => cases h
noncomputable def Za7 : Nat → Int × Int × List (Int × Int) → List Int → List (Int × Int × Int) → Option (List (List Int) × Bool)
 | 0, _, _, _ => none
 | k + 1, p0, p1, p2 =>
  Option.bind (Z5E k (Prod.fst p0, Prod.fst p0.2, Prod.snd p0.2) p1 p2) fun z0 => if (!z0) = true then some ([], false) else Option.bind (Z7J k (Prod.fst p0, Prod.fst p0.2, Prod.snd p0.2) p1 p2) fun z1 => some (z1, true)
noncomputable def Z33 : FnDef := .of ZhX Z7F (List (List Int) × Bool) (fun k x => Za7 k x.1 x.2.1 x.2.2.1) Zhb Zhi Znx
noncomputable def Zd8 : Code := Try.f56.body.getD .skip
noncomputable def Zad : Ctx (Tup Z7F × OutD) := { T := T, G := [(137, Z2i.E), (141, Z2g.E)], mvs := [], no := 0, n := 17, res := resOf T ZhX Z7F Try.f56.results.toList, loops := [], regs := [], conds := [] }
theorem Zuk (k : Nat) : EnvOK Try.prog k Zad.G := (EnvOK.cons (Zbv k) (EnvOK.cons (Zio k) (EnvOK.nil mixed)))
theorem Zv3 (k : Nat) (x : Tup Z33.ps) : Z33.f (k + 1) x = fnK Z33 Zad Zd8 k x := by kernel_rfl
theorem ZtZ (x : Tup Z33.ps) : Z33.f 0 x = none := by kernel_rfl
theorem Zu3 (k : Nat) : LOK Try.prog Zad k Zd8 := LOK.by [] (by kernel_rfl) AllOK.nil
theorem Zul (k : Nat) : SoundAt Try.prog k 56 Z33.E := @Ze Try.prog Z33 Zad 56 Try.f56 Zd8 (by kernel_rfl) (by kernel_rfl) (by kernel_rfl) Try.func56 (by kernel_rfl) (by kernel_rfl) (by kernel_rfl) T_ok Zuk Zu3 ZtZ Zv3 k
noncomputable def Z7I : List PK := [PK.mk (Ty.slice (34 : Nat) (Ty.slice (3 : Nat) (Ty.int .i64))) false none false none, PK.mk Ty.bool false none false none]
noncomputable def Zi6 : List PK := [PK.mk (Ty.pair (Ty.int .i64) (Ty.pair (Ty.int .i64) (Ty.slice (79 : Nat) (Ty.pair (Ty.int .i64) (Ty.int .i64))))) true none false none, PK.mk (Ty.slice (3 : Nat) (Ty.int .i64)) false none false none, PK.mk (Ty.slice (63 : Nat) (Ty.pair (Ty.int .i64) (Ty.pair (Ty.int .i64) (Ty.int .i64)))) false none false none]
noncomputable def Zhx (r : List (List Int) × Bool) : Tup Z7I × OutD := ((r.1, r.2, ()), none)
noncomputable def Zhc : Tup Z7I × OutD → Option (List (List Int) × Bool)
 | (a, none) => some (a.1, a.2.1)
 | _ => none
theorem Zmt : ∀ b r, Zhc b = some r → Zhx r = b := by
 rintro ⟨a, o⟩ r h
 cases o with
 | none => injection h with h; subst h; rfl
 | some _ => cases h
noncomputable def Za9 : Nat → Int × Int × List (Int × Int) → List Int → List (Int × Int × Int) → Option (List (List Int) × Bool)
 | 0, _, _, _ => none
 | k + 1, p0, p1, p2 =>
  Option.bind (Z4s k (Prod.fst p0, Prod.fst p0.2, Prod.snd p0.2) p1 p2) fun z0 => if (!z0) = true then some ([], false) else Option.bind (Zak k (Prod.fst p0, Prod.fst p0.2, Prod.snd p0.2) p1 p2) fun z1 => some (z1, true)
noncomputable def Z34 : FnDef := .of Zi6 Z7I (List (List Int) × Bool) (fun k x => Za9 k x.1 x.2.1 x.2.2.1) Zhx Zhc Zmt
noncomputable def Zdr : Code := Try.f57.body.getD .skip
noncomputable def Za6 : Ctx (Tup Z7I × OutD) := { T := T, G := [(139, Z1R.E), (142, Z3Q.E)], mvs := [], no := 0, n := 17, res := resOf T Zi6 Z7I Try.f57.results.toList, loops := [], regs := [], conds := [] }
theorem ZtS (k : Nat) : EnvOK Try.prog k Za6.G := (EnvOK.cons (Z95 k) (EnvOK.cons (Zmv k) (EnvOK.nil mixed)))
theorem Zua (k : Nat) (x : Tup Z34.ps) : Z34.f (k + 1) x = fnK Z34 Za6 Zdr k x := by kernel_rfl
theorem Zu9 (x : Tup Z34.ps) : Z34.f 0 x = none := by kernel_rfl
theorem Zu2 (k : Nat) : LOK Try.prog Za6 k Zdr := LOK.by [] (by kernel_rfl) AllOK.nil
theorem Zun (k : Nat) : SoundAt Try.prog k 57 Z34.E := @Ze Try.prog Z34 Za6 57 Try.f57 Zdr (by kernel_rfl) (by kernel_rfl) (by kernel_rfl) Try.func57 (by kernel_rfl) (by kernel_rfl) (by kernel_rfl) T_ok ZtS Zu2 Zu9 Zua k
noncomputable def Z6O : List PK := [PK.mk (Ty.int .i64) false none false none, PK.mk Ty.bool false none false none]
noncomputable def Zh3 : List PK := [PK.mk (Ty.pair (Ty.int .i64) (Ty.pair (Ty.int .i64) (Ty.slice (79 : Nat) (Ty.pair (Ty.int .i64) (Ty.int .i64))))) true none false none, PK.mk (Ty.slice (3 : Nat) (Ty.int .i64)) false none false none, PK.mk (Ty.slice (63 : Nat) (Ty.pair (Ty.int .i64) (Ty.pair (Ty.int .i64) (Ty.int .i64)))) false none false none]
noncomputable def ZfY (r : Int × Bool) : Tup Z6O × OutD := ((r.1, r.2, ()), none)
noncomputable def ZfN : Tup Z6O × OutD → Option (Int × Bool)
 | (a, none) => some (a.1, a.2.1)
 | _ => none
theorem Zm3 : ∀ b r, ZfN b = some r → ZfY r = b := by
 rintro ⟨a, o⟩ r h
 cases o with
 | none => injection h with h; subst h; rfl
 | some _ => cases h
noncomputable def Z9y : Nat → Int × Int × List (Int × Int) → List Int → List (Int × Int × Int) → Option (Int × Bool)
 | 0, _, _, _ => none
 | k + 1, p0, p1, p2 =>
  Option.bind (Z5E k (Prod.fst p0, Prod.fst p0.2, Prod.snd p0.2) p1 p2) fun z0 => if (!z0) = true then some ((0 : Int), false) else Option.bind (Z2c k (Prod.fst p0, Prod.fst p0.2, Prod.snd p0.2) [] p1 p2) fun z1 => if z1 = true then some ((0 : Int), true) else Option.bind (Z5W k (Prod.fst p0, Prod.fst p0.2, Prod.snd p0.2) p1 p2) fun z2 => if decide ((↑(List.length z2) : Int) > (0 : Int)) = true then some ((1 : Int), true) else Option.bind (Z7J k (Prod.fst p0, Prod.fst p0.2, Prod.snd p0.2) p1 p2) fun z3 => if decide ((↑(List.length z3) : Int) > (0 : Int)) = true then some ((2 : Int), true) else some ((0 : Int), false)
noncomputable def Z2y : FnDef := .of Zh3 Z6O (Int × Bool) (fun k x => Z9y k x.1 x.2.1 x.2.2.1) ZfY ZfN Zm3
noncomputable def Zcz : Code := Try.f58.body.getD .skip
noncomputable def Z9x : Ctx (Tup Z6O × OutD) := { T := T, G := [(137, Z2i.E), (143, Z17.E), (138, Z1E.E), (141, Z2g.E)], mvs := [], no := 0, n := 32, res := resOf T Zh3 Z6O Try.f58.results.toList, loops := [], regs := [], conds := [] }
theorem ZrY (k : Nat) : EnvOK Try.prog k Z9x.G := (EnvOK.cons (Zbv k) (EnvOK.cons (Z8Q k) (EnvOK.cons (Zg8 k) (EnvOK.cons (Zio k) (EnvOK.nil mixed)))))
theorem Ztp (k : Nat) (x : Tup Z2y.ps) : Z2y.f (k + 1) x = fnK Z2y Z9x Zcz k x := by kernel_rfl
theorem ZsW (x : Tup Z2y.ps) : Z2y.f 0 x = none := by kernel_rfl
theorem Zt2 (k : Nat) : LOK Try.prog Z9x k Zcz := LOK.by [] (by kernel_rfl) AllOK.nil
theorem ZsQ (k : Nat) : SoundAt Try.prog k 58 Z2y.E := @Ze Try.prog Z2y Z9x 58 Try.f58 Zcz (by kernel_rfl) (by kernel_rfl) (by kernel_rfl) Try.func58 (by kernel_rfl) (by kernel_rfl) (by kernel_rfl) T_ok ZrY Zt2 ZsW Ztp k
noncomputable def Z6J : List PK := [PK.mk (Ty.int .i64) false none false none, PK.mk Ty.bool false none false none]
noncomputable def Zh5 : List PK := [PK.mk (Ty.pair (Ty.int .i64) (Ty.pair (Ty.int .i64) (Ty.slice (79 : Nat) (Ty.pair (Ty.int .i64) (Ty.int .i64))))) true none false none, PK.mk (Ty.slice (3 : Nat) (Ty.int .i64)) false none false none, PK.mk (Ty.slice (63 : Nat) (Ty.pair (Ty.int .i64) (Ty.pair (Ty.int .i64) (Ty.int .i64)))) false none false none]
noncomputable def ZfZ (r : Int × Bool) : Tup Z6J × OutD := ((r.1, r.2, ()), none)
noncomputable def Zg3 : Tup Z6J × OutD → Option (Int × Bool)
 | (a, none) => some (a.1, a.2.1)
 | _ => none
theorem ZlX : ∀ b r, Zg3 b = some r → ZfZ r = b := by
 rintro ⟨a, o⟩ r h
 cases o with
 | none => injection h with h; subst h; rfl
 | some _ => cases h
noncomputable def Z9E : Nat → Int × Int × List (Int × Int) → List Int → List (Int × Int × Int) → Option (Int × Bool)
 | 0, _, _, _ => none
 | k + 1, p0, p1, p2 =>
  Option.bind (Z4s k (Prod.fst p0, Prod.fst p0.2, Prod.snd p0.2) p1 p2) fun z0 => if (!z0) = true then some ((0 : Int), false) else Option.bind (Z2Z k (Prod.fst p0, Prod.fst p0.2, Prod.snd p0.2) [] p1 p2) fun z1 => if z1 = true then some ((0 : Int), true) else Option.bind (Z74 k (Prod.fst p0, Prod.fst p0.2, Prod.snd p0.2) p1 p2) fun z2 => if decide ((↑(List.length z2) : Int) > (0 : Int)) = true then some ((1 : Int), true) else Option.bind (Zak k (Prod.fst p0, Prod.fst p0.2, Prod.snd p0.2) p1 p2) fun z3 => if decide ((↑(List.length z3) : Int) > (0 : Int)) = true then some ((2 : Int), true) else some ((0 : Int), false)
noncomputable def Z2A : FnDef := .of Zh5 Z6J (Int × Bool) (fun k x => Z9E k x.1 x.2.1 x.2.2.1) ZfZ Zg3 ZlX
noncomputable def Zcq : Code := Try.f59.body.getD .skip
noncomputable def Z9s : Ctx (Tup Z6J × OutD) := { T := T, G := [(139, Z1R.E), (144, Z1i.E), (140, Z2s.E), (142, Z3Q.E)], mvs := [], no := 0, n := 32, res := resOf T Zh5 Z6J Try.f59.results.toList, loops := [], regs := [], conds := [] }
theorem Ztg (k : Nat) : EnvOK Try.prog k Z9s.G := (EnvOK.cons (Z95 k) (EnvOK.cons (Za2 k) (EnvOK.cons (ZfA k) (EnvOK.cons (Zmv k) (EnvOK.nil mixed)))))
theorem Ztl (k : Nat) (x : Tup Z2A.ps) : Z2A.f (k + 1) x = fnK Z2A Z9s Zcq k x := by kernel_rfl
theorem Zsw (x : Tup Z2A.ps) : Z2A.f 0 x = none := by kernel_rfl
theorem Zsj (k : Nat) : LOK Try.prog Z9s k Zcq := LOK.by [] (by kernel_rfl) AllOK.nil
theorem Zsh (k : Nat) : SoundAt Try.prog k 59 Z2A.E := @Ze Try.prog Z2A Z9s 59 Try.f59 Zcq (by kernel_rfl) (by kernel_rfl) (by kernel_rfl) Try.func59 (by kernel_rfl) (by kernel_rfl) (by kernel_rfl) T_ok Ztg Zsj Zsw Ztl k
noncomputable def Z1D : List PK := [PK.mk (Ty.pair (Ty.int .i64) (Ty.pair (Ty.int .i64) (Ty.slice (79 : Nat) (Ty.pair (Ty.int .i64) (Ty.int .i64))))) true none false none, PK.mk (Ty.slice (3 : Nat) (Ty.int .i64)) false none false none, PK.mk (Ty.slice (63 : Nat) (Ty.pair (Ty.int .i64) (Ty.pair (Ty.int .i64) (Ty.int .i64)))) false none false none]
noncomputable def ZfQ : List PK := [PK.mk (Ty.pair (Ty.slice (5 : Nat) (Ty.int .u8)) (Ty.pair (Ty.int .i64) (Ty.int .u64))) false none false (some (114 : Nat))]
noncomputable def Zfj (r : (Int × Int × List (Int × Int)) × List Int × List (Int × Int × Int) × Int × Int) : Tup Z1D × OutD := ((r.1, r.2.1, r.2.2.1, ()), some ⟨Ty.pair (Ty.slice (5 : Nat) (Ty.int .u8)) (Ty.pair (Ty.int .i64) (Ty.int .u64)), [([], r.2.2.2)]⟩)
noncomputable def Zba : Tup Z1D × OutD → Option ((Int × Int × List (Int × Int)) × List Int × List (Int × Int × Int) × Int × Int)
 | (a, some ⟨u, ys⟩) => if h : u = Ty.pair (Ty.slice (5 : Nat) (Ty.int .u8)) (Ty.pair (Ty.int .i64) (Ty.int .u64)) then (match castU h ys with
  | [([], y)] => some (a.1, a.2.1, a.2.2.1, y)
  | _ => none) else none
 | _ => none
theorem Zku : ∀ b r, Zba b = some r → Zfj r = b := by
 rintro ⟨a, o⟩ r h
 cases o with
 | none => cases h
 | some s =>
  obtain ⟨u, ys⟩ := s
  simp only [Zba] at h
  split at h
  ·rename_i hu
   subst hu
   match ys, h with
   | [], h => cases (show (none : Option _) = some r from h)
   | [([], y)], h => injection (show some _ = some r from h) with h; subst h; rfl
   | [(_ :: _, y)], h => cases (show (none : Option _) = some r from h)
   | (h1, _) :: _ :: _, h => cases h1 <;> cases (show (none : Option _) = some r from h)
  ·cases h
noncomputable def Z8Z : Nat → Int → Int → List Int → Int → Int → List (Int × Int) → Int → Int → List (Int × Int) → Int → Bool → Option (Int × Int × List Int × Int × Int × List (Int × Int) × Int × Int × List (Int × Int)) := fun k b1_1 b1_2 o2 b3_0 b3_1 o4 b5_0 b5_1 o6 v24 v25 =>
    if v25 = true then Option.bind (ZP k (o2, b1_1, b1_2)) fun z4 => some (Prod.fst z4.2, Prod.snd z4.2, o2, b3_0, b3_1, o4, Prod.fst z4.1, Prod.fst z4.1.2, Prod.snd z4.1.2) else if decide (v24 = (1 : Int)) = true then Option.bind (Z2 k (o2, b1_1, b1_2) (2 : Int)) fun z5 => Option.bind (Z1W k (o2, Prod.fst z5.2, Prod.snd z5.2) (wrap64 ((4 : Int) + Prod.fst z5)) (6 : Int)) fun z6 => some (Prod.fst z6.2, Prod.snd z6.2, o2, b3_0, b3_1, o4, Prod.fst z6.1, Prod.fst z6.1.2, Prod.snd z6.1.2) else some (b1_1, b1_2, o2, b3_0, b3_1, o4, b5_0, b5_1, o6)
noncomputable def Zk9 : Spec := Spec.mk [OSh.ro, OSh.box (114 : Nat) [Sh.sl (2 : Nat), Sh.int .i64, Sh.int .u64], OSh.fx (Ty.int .u8), OSh.box (53 : Nat) [Sh.int .i64, Sh.int .i64, Sh.sl (4 : Nat)], OSh.row true (79 : Nat) (Ty.pair (Ty.int .i64) (Ty.int .i64)), OSh.box (53 : Nat) [Sh.int .i64, Sh.int .i64, Sh.sl (6 : Nat)], OSh.row true (79 : Nat) (Ty.pair (Ty.int .i64) (Ty.int .i64))] [((0 : Nat), TSh.at (Sh.ptr (1 : Nat) (0 : Nat))), ((2 : Nat), TSh.at (Sh.ptr (3 : Nat) (0 : Nat))), ((5 : Nat), TSh.at (Sh.ptr (5 : Nat) (0 : Nat))), ((24 : Nat), TSh.at (Sh.int .i64)), ((25 : Nat), TSh.at Sh.bool)]
noncomputable def ZiY : Spec := Spec.mk [OSh.ro, OSh.box (114 : Nat) [Sh.sl (2 : Nat), Sh.int .i64, Sh.int .u64], OSh.fx (Ty.int .u8), OSh.box (53 : Nat) [Sh.int .i64, Sh.int .i64, Sh.sl (4 : Nat)], OSh.row true (79 : Nat) (Ty.pair (Ty.int .i64) (Ty.int .i64)), OSh.box (53 : Nat) [Sh.int .i64, Sh.int .i64, Sh.sl (6 : Nat)], OSh.row true (79 : Nat) (Ty.pair (Ty.int .i64) (Ty.int .i64))] [((0 : Nat), TSh.at (Sh.ptr (1 : Nat) (0 : Nat))), ((2 : Nat), TSh.at (Sh.ptr (3 : Nat) (0 : Nat))), ((5 : Nat), TSh.at (Sh.ptr (5 : Nat) (0 : Nat)))]
noncomputable def ZC : LoopDef (Tup Z1D × OutD) := .plain Zk9 ZiY (Int × Int × List Int × Int × Int × List (Int × Int) × Int × Int × List (Int × Int)) (fun k x => Z8Z k x.1.2.1.2.1 x.1.2.1.2.2.1 x.1.2.2.1 x.1.2.2.2.1.1 x.1.2.2.2.1.2.1 x.1.2.2.2.2.1 x.1.2.2.2.2.2.1.1 x.1.2.2.2.2.2.1.2.1 x.1.2.2.2.2.2.2.1 x.2.2.2.2.1 x.2.2.2.2.2.1) (fun z => (((), ((), z.1, z.2.1, ()), z.2.2.1, (z.2.2.2.1, z.2.2.2.2.1, (), ()), z.2.2.2.2.2.1, (z.2.2.2.2.2.2.1, z.2.2.2.2.2.2.2.1, (), ()), z.2.2.2.2.2.2.2.2, ()), ((), (), (), ()))) (fun y => (y.1.2.1.2.1, y.1.2.1.2.2.1, y.1.2.2.1, y.1.2.2.2.1.1, y.1.2.2.2.1.2.1, y.1.2.2.2.2.1, y.1.2.2.2.2.2.1.1, y.1.2.2.2.2.2.1.2.1, y.1.2.2.2.2.2.2.1)) (fun _ => rfl)
noncomputable def Z90 : Nat → Int → Int → List Int → Int → Int → List (Int × Int) → Int → Int → List (Int × Int) → List Int → Int → Bool → Option (Int × Int × List Int × Int × Int × List (Int × Int) × Int × Int × List (Int × Int) × List Int × Int) := fun k b1_1 b1_2 o2 b3_0 b3_1 o4 b5_0 b5_1 o6 o7 v7 v44 =>
    if v44 = true then Option.bind (Z2 k (o2, b1_1, b1_2) (2 : Int)) fun z11 => some (Prod.fst z11.2, Prod.snd z11.2, o2, b3_0, b3_1, o4, b5_0, b5_1, o6, o7, wrap64 ((20 : Int) + Prod.fst z11)) else some (b1_1, b1_2, o2, b3_0, b3_1, o4, b5_0, b5_1, o6, o7, v7)
noncomputable def Zj7 : Spec := Spec.mk [OSh.ro, OSh.box (114 : Nat) [Sh.sl (2 : Nat), Sh.int .i64, Sh.int .u64], OSh.fx (Ty.int .u8), OSh.box (53 : Nat) [Sh.int .i64, Sh.int .i64, Sh.sl (4 : Nat)], OSh.row true (79 : Nat) (Ty.pair (Ty.int .i64) (Ty.int .i64)), OSh.box (53 : Nat) [Sh.int .i64, Sh.int .i64, Sh.sl (6 : Nat)], OSh.row true (79 : Nat) (Ty.pair (Ty.int .i64) (Ty.int .i64)), OSh.row true (3 : Nat) (Ty.int .i64)] [((0 : Nat), TSh.at (Sh.ptr (1 : Nat) (0 : Nat))), ((2 : Nat), TSh.at (Sh.ptr (3 : Nat) (0 : Nat))), ((5 : Nat), TSh.at (Sh.ptr (5 : Nat) (0 : Nat))), ((6 : Nat), TSh.at (Sh.sl (7 : Nat))), ((7 : Nat), TSh.at (Sh.int .i64)), ((44 : Nat), TSh.at Sh.bool)]
noncomputable def ZjQ : Spec := Spec.mk [OSh.ro, OSh.box (114 : Nat) [Sh.sl (2 : Nat), Sh.int .i64, Sh.int .u64], OSh.fx (Ty.int .u8), OSh.box (53 : Nat) [Sh.int .i64, Sh.int .i64, Sh.sl (4 : Nat)], OSh.row true (79 : Nat) (Ty.pair (Ty.int .i64) (Ty.int .i64)), OSh.box (53 : Nat) [Sh.int .i64, Sh.int .i64, Sh.sl (6 : Nat)], OSh.row true (79 : Nat) (Ty.pair (Ty.int .i64) (Ty.int .i64)), OSh.row true (3 : Nat) (Ty.int .i64)] [((0 : Nat), TSh.at (Sh.ptr (1 : Nat) (0 : Nat))), ((2 : Nat), TSh.at (Sh.ptr (3 : Nat) (0 : Nat))), ((5 : Nat), TSh.at (Sh.ptr (5 : Nat) (0 : Nat))), ((6 : Nat), TSh.at (Sh.sl (7 : Nat))), ((7 : Nat), TSh.at (Sh.int .i64))]
noncomputable def ZB : LoopDef (Tup Z1D × OutD) := .plain Zj7 ZjQ (Int × Int × List Int × Int × Int × List (Int × Int) × Int × Int × List (Int × Int) × List Int × Int) (fun k x => Z90 k x.1.2.1.2.1 x.1.2.1.2.2.1 x.1.2.2.1 x.1.2.2.2.1.1 x.1.2.2.2.1.2.1 x.1.2.2.2.2.1 x.1.2.2.2.2.2.1.1 x.1.2.2.2.2.2.1.2.1 x.1.2.2.2.2.2.2.1 x.1.2.2.2.2.2.2.2.1 x.2.2.2.2.2.1 x.2.2.2.2.2.2.1) (fun z => (((), ((), z.1, z.2.1, ()), z.2.2.1, (z.2.2.2.1, z.2.2.2.2.1, (), ()), z.2.2.2.2.2.1, (z.2.2.2.2.2.2.1, z.2.2.2.2.2.2.2.1, (), ()), z.2.2.2.2.2.2.2.2.1, z.2.2.2.2.2.2.2.2.2.1, ()), ((), (), (), (), z.2.2.2.2.2.2.2.2.2.2, ()))) (fun y => (y.1.2.1.2.1, y.1.2.1.2.2.1, y.1.2.2.1, y.1.2.2.2.1.1, y.1.2.2.2.1.2.1, y.1.2.2.2.2.1, y.1.2.2.2.2.2.1.1, y.1.2.2.2.2.2.1.2.1, y.1.2.2.2.2.2.2.1, y.1.2.2.2.2.2.2.2.1, y.2.2.2.2.2.1)) (fun _ => rfl)
noncomputable def Z3p : Nat → Int → Int → List Int → Int → Int → List (Int × Int) → Int → Int → List (Int × Int) → List Int → Int → Option (Int × Int × List Int × Int × Int × List (Int × Int) × Int × Int × List (Int × Int) × List Int)
 | 0, _, _, _, _, _, _, _, _, _, _, _ => none
 | k + 1, b1_1, b1_2, o2, b3_0, b3_1, o4, b5_0, b5_1, o6, o7, v7 =>
  if decide ((↑(List.length o7) : Int) < v7) = true then Option.bind (Z2 k (o2, b1_1, b1_2) b5_1) fun z13 => if List.length o7 + List.length [Prod.fst z13] ≤ (140737488355328 / 8 : Nat) then Z3p k z13.2.1 z13.2.2 o2 b3_0 b3_1 o4 b5_0 b5_1 o6 (o7 ++ [Prod.fst z13]) v7 else none else some (b1_1, b1_2, o2, b3_0, b3_1, o4, b5_0, b5_1, o6, o7)
noncomputable def Z9Q : Spec := Spec.mk [OSh.ro, OSh.box (114 : Nat) [Sh.sl (2 : Nat), Sh.int .i64, Sh.int .u64], OSh.fx (Ty.int .u8), OSh.box (53 : Nat) [Sh.int .i64, Sh.int .i64, Sh.sl (4 : Nat)], OSh.row true (79 : Nat) (Ty.pair (Ty.int .i64) (Ty.int .i64)), OSh.box (53 : Nat) [Sh.int .i64, Sh.int .i64, Sh.sl (6 : Nat)], OSh.row true (79 : Nat) (Ty.pair (Ty.int .i64) (Ty.int .i64)), OSh.row true (3 : Nat) (Ty.int .i64)] [((0 : Nat), TSh.at (Sh.ptr (1 : Nat) (0 : Nat))), ((2 : Nat), TSh.at (Sh.ptr (3 : Nat) (0 : Nat))), ((5 : Nat), TSh.at (Sh.ptr (5 : Nat) (0 : Nat))), ((6 : Nat), TSh.at (Sh.sl (7 : Nat))), ((7 : Nat), TSh.at (Sh.int .i64))]
noncomputable def Zly : Spec := Spec.mk [OSh.ro, OSh.box (114 : Nat) [Sh.sl (2 : Nat), Sh.int .i64, Sh.int .u64], OSh.fx (Ty.int .u8), OSh.box (53 : Nat) [Sh.int .i64, Sh.int .i64, Sh.sl (4 : Nat)], OSh.row true (79 : Nat) (Ty.pair (Ty.int .i64) (Ty.int .i64)), OSh.box (53 : Nat) [Sh.int .i64, Sh.int .i64, Sh.sl (6 : Nat)], OSh.row true (79 : Nat) (Ty.pair (Ty.int .i64) (Ty.int .i64)), OSh.row true (3 : Nat) (Ty.int .i64)] [((0 : Nat), TSh.at (Sh.ptr (1 : Nat) (0 : Nat))), ((2 : Nat), TSh.at (Sh.ptr (3 : Nat) (0 : Nat))), ((5 : Nat), TSh.at (Sh.ptr (5 : Nat) (0 : Nat))), ((6 : Nat), TSh.at (Sh.sl (7 : Nat)))]
noncomputable def Z2V : LoopDef (Tup Z1D × OutD) := .plain Z9Q Zly (Int × Int × List Int × Int × Int × List (Int × Int) × Int × Int × List (Int × Int) × List Int) (fun k x => Z3p k x.1.2.1.2.1 x.1.2.1.2.2.1 x.1.2.2.1 x.1.2.2.2.1.1 x.1.2.2.2.1.2.1 x.1.2.2.2.2.1 x.1.2.2.2.2.2.1.1 x.1.2.2.2.2.2.1.2.1 x.1.2.2.2.2.2.2.1 x.1.2.2.2.2.2.2.2.1 x.2.2.2.2.2.1) (fun z => (((), ((), z.1, z.2.1, ()), z.2.2.1, (z.2.2.2.1, z.2.2.2.2.1, (), ()), z.2.2.2.2.2.1, (z.2.2.2.2.2.2.1, z.2.2.2.2.2.2.2.1, (), ()), z.2.2.2.2.2.2.2.2.1, z.2.2.2.2.2.2.2.2.2, ()), ((), (), (), (), ()))) (fun y => (y.1.2.1.2.1, y.1.2.1.2.2.1, y.1.2.2.1, y.1.2.2.2.1.1, y.1.2.2.2.1.2.1, y.1.2.2.2.2.1, y.1.2.2.2.2.2.1.1, y.1.2.2.2.2.2.1.2.1, y.1.2.2.2.2.2.2.1, y.1.2.2.2.2.2.2.2.1)) (fun _ => rfl)
noncomputable def Z8Y : Nat → Int → Int → List Int → Int → Int → List (Int × Int) → Int → Int → List (Int × Int) → List Int → List (Int × Int × Int) → Option (Int × Int × List Int × Int × Int × List (Int × Int) × Int × Int × List (Int × Int) × List Int × Int × Int × Int × Int × Int × Int) := fun k b1_1 b1_2 o2 b3_0 b3_1 o4 b5_0 b5_1 o6 o7 o8 =>
    Option.bind (Z2 k (o2, b1_1, b1_2) (↑(List.length o8) : Int)) fun z24 => if (0 : Int) ≤ Prod.fst z24 then if Prod.fst z24 < (↑(List.length o8) : Int) then Option.bind (Z2 k (o2, Prod.fst z24.2, Prod.snd z24.2) (↑(List.length o8) : Int)) fun z25 => if (0 : Int) ≤ Prod.fst z25 then if Prod.fst z25 < (↑(List.length o8) : Int) then some (Prod.fst z25.2, Prod.snd z25.2, o2, b3_0, b3_1, o4, b5_0, b5_1, o6, o7, Prod.fst (List.getD o8 (Int.toNat z24.1) ((0 : Int), (0 : Int), (0 : Int))), Prod.fst (Prod.snd (List.getD o8 (Int.toNat z24.1) ((0 : Int), (0 : Int), (0 : Int)))), Prod.snd (Prod.snd (List.getD o8 (Int.toNat z24.1) ((0 : Int), (0 : Int), (0 : Int)))), Prod.fst (List.getD o8 (Int.toNat z25.1) ((0 : Int), (0 : Int), (0 : Int))), Prod.fst (Prod.snd (List.getD o8 (Int.toNat z25.1) ((0 : Int), (0 : Int), (0 : Int)))), Prod.snd (Prod.snd (List.getD o8 (Int.toNat z25.1) ((0 : Int), (0 : Int), (0 : Int))))) else none else none else none else none
noncomputable def ZcG : Spec := Spec.mk [OSh.ro, OSh.box (114 : Nat) [Sh.sl (2 : Nat), Sh.int .i64, Sh.int .u64], OSh.fx (Ty.int .u8), OSh.box (53 : Nat) [Sh.int .i64, Sh.int .i64, Sh.sl (4 : Nat)], OSh.row true (79 : Nat) (Ty.pair (Ty.int .i64) (Ty.int .i64)), OSh.box (53 : Nat) [Sh.int .i64, Sh.int .i64, Sh.sl (6 : Nat)], OSh.row true (79 : Nat) (Ty.pair (Ty.int .i64) (Ty.int .i64)), OSh.row true (3 : Nat) (Ty.int .i64), OSh.row true (77 : Nat) (Ty.pair (Ty.int .i64) (Ty.pair (Ty.int .i64) (Ty.int .i64)))] [((0 : Nat), TSh.at (Sh.ptr (1 : Nat) (0 : Nat))), ((2 : Nat), TSh.at (Sh.ptr (3 : Nat) (0 : Nat))), ((5 : Nat), TSh.at (Sh.ptr (5 : Nat) (0 : Nat))), ((6 : Nat), TSh.at (Sh.sl (7 : Nat))), ((8 : Nat), TSh.at (Sh.sl (8 : Nat)))]
noncomputable def Zjz : Spec := Spec.mk [OSh.ro, OSh.box (114 : Nat) [Sh.sl (2 : Nat), Sh.int .i64, Sh.int .u64], OSh.fx (Ty.int .u8), OSh.box (53 : Nat) [Sh.int .i64, Sh.int .i64, Sh.sl (4 : Nat)], OSh.row true (79 : Nat) (Ty.pair (Ty.int .i64) (Ty.int .i64)), OSh.box (53 : Nat) [Sh.int .i64, Sh.int .i64, Sh.sl (6 : Nat)], OSh.row true (79 : Nat) (Ty.pair (Ty.int .i64) (Ty.int .i64)), OSh.row true (3 : Nat) (Ty.int .i64), OSh.box (77 : Nat) [Sh.int .i64, Sh.int .i64, Sh.int .i64], OSh.box (77 : Nat) [Sh.int .i64, Sh.int .i64, Sh.int .i64]] [((0 : Nat), TSh.at (Sh.ptr (1 : Nat) (0 : Nat))), ((2 : Nat), TSh.at (Sh.ptr (3 : Nat) (0 : Nat))), ((5 : Nat), TSh.at (Sh.ptr (5 : Nat) (0 : Nat))), ((6 : Nat), TSh.at (Sh.sl (7 : Nat))), ((10 : Nat), TSh.at (Sh.ptr (8 : Nat) (0 : Nat))), ((11 : Nat), TSh.at (Sh.ptr (9 : Nat) (0 : Nat)))]
noncomputable def Z5 : LoopDef (Tup Z1D × OutD) := .plain ZcG Zjz (Int × Int × List Int × Int × Int × List (Int × Int) × Int × Int × List (Int × Int) × List Int × Int × Int × Int × Int × Int × Int) (fun k x => Z8Y k x.1.2.1.2.1 x.1.2.1.2.2.1 x.1.2.2.1 x.1.2.2.2.1.1 x.1.2.2.2.1.2.1 x.1.2.2.2.2.1 x.1.2.2.2.2.2.1.1 x.1.2.2.2.2.2.1.2.1 x.1.2.2.2.2.2.2.1 x.1.2.2.2.2.2.2.2.1 x.1.2.2.2.2.2.2.2.2.1) (fun z => (((), ((), z.1, z.2.1, ()), z.2.2.1, (z.2.2.2.1, z.2.2.2.2.1, (), ()), z.2.2.2.2.2.1, (z.2.2.2.2.2.2.1, z.2.2.2.2.2.2.2.1, (), ()), z.2.2.2.2.2.2.2.2.1, z.2.2.2.2.2.2.2.2.2.1, (z.2.2.2.2.2.2.2.2.2.2.1, z.2.2.2.2.2.2.2.2.2.2.2.1, z.2.2.2.2.2.2.2.2.2.2.2.2.1, ()), (z.2.2.2.2.2.2.2.2.2.2.2.2.2.1, z.2.2.2.2.2.2.2.2.2.2.2.2.2.2.1, z.2.2.2.2.2.2.2.2.2.2.2.2.2.2.2, ()), ()), ((), (), (), (), (), (), ()))) (fun y => (y.1.2.1.2.1, y.1.2.1.2.2.1, y.1.2.2.1, y.1.2.2.2.1.1, y.1.2.2.2.1.2.1, y.1.2.2.2.2.1, y.1.2.2.2.2.2.1.1, y.1.2.2.2.2.2.1.2.1, y.1.2.2.2.2.2.2.1, y.1.2.2.2.2.2.2.2.1, y.1.2.2.2.2.2.2.2.2.1.1, y.1.2.2.2.2.2.2.2.2.1.2.1, y.1.2.2.2.2.2.2.2.2.1.2.2.1, y.1.2.2.2.2.2.2.2.2.2.1.1, y.1.2.2.2.2.2.2.2.2.2.1.2.1, y.1.2.2.2.2.2.2.2.2.2.1.2.2.1)) (fun _ => rfl)
noncomputable def Z5V : Nat → List Int × Int × Int → Option ((Int × Int × List (Int × Int)) × List Int × List (Int × Int × Int) × Int × Int)
 | 0, _ => none
 | k + 1, p0 =>
  Option.bind (Z2 k (Prod.fst p0, Prod.fst p0.2, Prod.snd p0.2) (4 : Int)) fun z0 => Option.bind (Z2 k (Prod.fst p0, Prod.fst z0.2, Prod.snd z0.2) (4 : Int)) fun z1 => Option.bind (Z1W k (Prod.fst p0, Prod.fst z1.2, Prod.snd z1.2) (wrap64 ((1 : Int) + Prod.fst z0)) (wrap64 ((1 : Int) + Prod.fst z1))) fun z2 => Option.bind (Z2 k (Prod.fst p0, Prod.fst z2.2, Prod.snd z2.2) (20 : Int)) fun z3 => Option.bind (Z8Z k z3.2.1 z3.2.2 p0.1 (0 : Int) (0 : Int) [] z2.1.1 z2.1.2.1 z2.1.2.2 z3.1 (decide (Prod.fst z3 = (0 : Int)))) fun z7 => Option.bind (Z7v k (Prod.fst z7.2.2.2.2.2.2, Prod.fst z7.2.2.2.2.2.2.2, Prod.snd z7.2.2.2.2.2.2.2)) fun z8 => if (!z8) = true then some ((Prod.fst z7.2.2.2.2.2.2, Prod.fst z7.2.2.2.2.2.2.2, Prod.snd z7.2.2.2.2.2.2.2), [], [], Prod.fst z7, Prod.fst z7.2) else Option.bind (Z2 k (Prod.fst z7.2.2, Prod.fst z7, Prod.fst z7.2) (6 : Int)) fun z9 => Option.bind (Z19 k (Prod.fst z7.2.2, Prod.fst z9.2, Prod.snd z9.2) (20 : Int)) fun z10 => Option.bind (Z90 k z10.2.1 z10.2.2 z7.2.2.1 z7.2.2.2.1 z7.2.2.2.2.1 z7.2.2.2.2.2.1 z7.2.2.2.2.2.2.1 z7.2.2.2.2.2.2.2.1 z7.2.2.2.2.2.2.2.2 [] (wrap64 ((1 : Int) + Prod.fst z9)) z10.1) fun z12 => Option.bind (Z3p k z12.1 z12.2.1 z12.2.2.1 z12.2.2.2.1 z12.2.2.2.2.1 z12.2.2.2.2.2.1 z12.2.2.2.2.2.2.1 z12.2.2.2.2.2.2.2.1 z12.2.2.2.2.2.2.2.2.1 z12.2.2.2.2.2.2.2.2.2.1 z12.2.2.2.2.2.2.2.2.2.2) fun z14 => Option.bind (Z31 k (Prod.fst z14.2.2.2.2.2.2, Prod.fst z14.2.2.2.2.2.2.2, Prod.fst z14.2.2.2.2.2.2.2.2)) fun z15 => Option.bind (Z2 k (Prod.fst z14.2.2, Prod.fst z14, Prod.fst z14.2) (4 : Int)) fun z16 => if decide (Prod.fst z16 = (0 : Int)) = true then Option.bind (Z6K k (Prod.fst z14.2.2.2.2.2.2, Prod.fst z14.2.2.2.2.2.2.2, Prod.fst z14.2.2.2.2.2.2.2.2) [] z14.2.2.2.2.2.2.2.2.2) fun z17 => if decide ((↑(List.length z17.1) : Int) > (0 : Int)) = true then Option.bind (Z2 k (Prod.fst z14.2.2, Prod.fst z16.2, Prod.snd z16.2) (↑(List.length z17.1) : Int)) fun z18 => if (0 : Int) ≤ Prod.fst z18 then if Prod.fst z18 < (↑(List.length z17.1) : Int) then Option.bind (Z2 k (Prod.fst z14.2.2, Prod.fst z18.2, Prod.snd z18.2) (30 : Int)) fun z19 => if decide (Prod.fst z19 = (0 : Int)) = true then Option.bind (Zf k (Prod.fst z14.2.2, Prod.fst z19.2, Prod.snd z19.2) [(0 : Int), (1 : Int), (3 : Int), (4 : Int)]) fun z20 => some ((Prod.fst z14.2.2.2.2.2.2, Prod.fst z14.2.2.2.2.2.2.2, Prod.fst z14.2.2.2.2.2.2.2.2), Prod.snd z14.2.2.2.2.2.2.2.2, List.set z17.1 (Int.toNat z18.1) (Prod.fst z20, Prod.snd (List.getD z17.1 (Int.toNat z18.1) ((0 : Int), (0 : Int), (0 : Int)))), Prod.fst z20.2, Prod.snd z20.2) else if decide (Prod.fst z19 = (1 : Int)) = true then Option.bind (Zf k (Prod.fst z14.2.2, Prod.fst z19.2, Prod.snd z19.2) [(-1 : Int), (0 : Int), Prod.fst z14.2.2.2.2.2.2, wrap64 (Prod.fst z14.2.2.2.2.2.2 + (1 : Int))]) fun z21 => some ((Prod.fst z14.2.2.2.2.2.2, Prod.fst z14.2.2.2.2.2.2.2, Prod.fst z14.2.2.2.2.2.2.2.2), Prod.snd z14.2.2.2.2.2.2.2.2, List.set z17.1 (Int.toNat z18.1) (Prod.fst (List.getD z17.1 (Int.toNat z18.1) ((0 : Int), (0 : Int), (0 : Int))), Prod.fst z21, Prod.snd (Prod.snd (List.getD z17.1 (Int.toNat z18.1) ((0 : Int), (0 : Int), (0 : Int))))), Prod.fst z21.2, Prod.snd z21.2) else if decide (Prod.fst z19 = (2 : Int)) = true then Option.bind (Zf k (Prod.fst z14.2.2, Prod.fst z19.2, Prod.snd z19.2) [(-2 : Int), (-1 : Int), Prod.fst z14.2.2.2.2.2.2.2, wrap64 (Prod.fst z14.2.2.2.2.2.2.2 + (1 : Int))]) fun z22 => some ((Prod.fst z14.2.2.2.2.2.2, Prod.fst z14.2.2.2.2.2.2.2, Prod.fst z14.2.2.2.2.2.2.2.2), Prod.snd z14.2.2.2.2.2.2.2.2, List.set z17.1 (Int.toNat z18.1) (Prod.fst (List.getD z17.1 (Int.toNat z18.1) ((0 : Int), (0 : Int), (0 : Int))), Prod.fst (Prod.snd (List.getD z17.1 (Int.toNat z18.1) ((0 : Int), (0 : Int), (0 : Int)))), Prod.fst z22), Prod.fst z22.2, Prod.snd z22.2) else if decide (Prod.fst z19 = (3 : Int)) = true then if (1 : Int) ≤ (↑(List.length z17.1) : Int) then if (↑(List.length z17.1) : Int) ≤ (↑(List.length z17.1) : Int) then some ((Prod.fst z14.2.2.2.2.2.2, Prod.fst z14.2.2.2.2.2.2.2, Prod.fst z14.2.2.2.2.2.2.2.2), Prod.snd z14.2.2.2.2.2.2.2.2, List.drop (Int.toNat (1 : Int)) z17.1, Prod.fst z19.2, Prod.snd z19.2) else none else none else if decide (Prod.fst z19 = (4 : Int)) = true then Option.bind (Zf k (Prod.fst z14.2.2, Prod.fst z19.2, Prod.snd z19.2) [(-1 : Int), Prod.fst z14.2.2.2.2.2.2.2]) fun z23 => if (0 : Int) < (↑(List.length z14.2.2.2.2.2.2.2.2.2) : Int) then some ((Prod.fst z14.2.2.2.2.2.2, Prod.fst z14.2.2.2.2.2.2.2, Prod.fst z14.2.2.2.2.2.2.2.2), List.set z14.2.2.2.2.2.2.2.2.2 (Int.toNat (0 : Int)) z23.1, Prod.fst z17, Prod.fst z23.2, Prod.snd z23.2) else none else some ((Prod.fst z14.2.2.2.2.2.2, Prod.fst z14.2.2.2.2.2.2.2, Prod.fst z14.2.2.2.2.2.2.2.2), Prod.snd z14.2.2.2.2.2.2.2.2, Prod.fst z17, Prod.fst z19.2, Prod.snd z19.2) else none else none else some ((Prod.fst z14.2.2.2.2.2.2, Prod.fst z14.2.2.2.2.2.2.2, Prod.fst z14.2.2.2.2.2.2.2.2), Prod.snd z14.2.2.2.2.2.2.2.2, Prod.fst z17, Prod.fst z16.2, Prod.snd z16.2) else if decide (Prod.fst z16 = (1 : Int)) = true then Option.bind (Z8Y k z16.2.1 z16.2.2 z14.2.2.1 z14.2.2.2.1 z14.2.2.2.2.1 z14.2.2.2.2.2.1 z14.2.2.2.2.2.2.1 z14.2.2.2.2.2.2.2.1 z14.2.2.2.2.2.2.2.2.1 z14.2.2.2.2.2.2.2.2.2 z15) fun z86 => Option.bind (Zbu k (Prod.fst z86.2.2.2.2.2.2, Prod.fst z86.2.2.2.2.2.2.2, Prod.fst z86.2.2.2.2.2.2.2.2) [(Prod.fst z86.2.2.2.2.2.2.2.2.2.2, Prod.fst z86.2.2.2.2.2.2.2.2.2.2.2, Prod.fst z86.2.2.2.2.2.2.2.2.2.2.2.2), (Prod.fst z86.2.2.2.2.2.2.2.2.2.2.2.2.2, Prod.fst z86.2.2.2.2.2.2.2.2.2.2.2.2.2.2, Prod.snd z86.2.2.2.2.2.2.2.2.2.2.2.2.2.2)]) fun z87 => if (!z87) = true then Option.bind (Z6K k (Prod.fst z86.2.2.2.2.2.2, Prod.fst z86.2.2.2.2.2.2.2, Prod.fst z86.2.2.2.2.2.2.2.2) [(Prod.fst z86.2.2.2.2.2.2.2.2.2.2, Prod.fst z86.2.2.2.2.2.2.2.2.2.2.2, Prod.fst z86.2.2.2.2.2.2.2.2.2.2.2.2)] z86.2.2.2.2.2.2.2.2.2.1) fun z88 => if decide ((↑(List.length z88.1) : Int) > (0 : Int)) = true then Option.bind (Z2 k (Prod.fst z86.2.2, Prod.fst z86, Prod.fst z86.2) (↑(List.length z88.1) : Int)) fun z89 => if (0 : Int) ≤ Prod.fst z89 then if Prod.fst z89 < (↑(List.length z88.1) : Int) then Option.bind (Z2 k (Prod.fst z86.2.2, Prod.fst z89.2, Prod.snd z89.2) (30 : Int)) fun z90 => if decide (Prod.fst z90 = (0 : Int)) = true then Option.bind (Zf k (Prod.fst z86.2.2, Prod.fst z90.2, Prod.snd z90.2) [(0 : Int), (1 : Int), (3 : Int), (4 : Int)]) fun z91 => some ((Prod.fst z86.2.2.2.2.2.2, Prod.fst z86.2.2.2.2.2.2.2, Prod.fst z86.2.2.2.2.2.2.2.2), Prod.fst z86.2.2.2.2.2.2.2.2.2, List.set z88.1 (Int.toNat z89.1) (Prod.fst z91, Prod.snd (List.getD z88.1 (Int.toNat z89.1) ((0 : Int), (0 : Int), (0 : Int)))), Prod.fst z91.2, Prod.snd z91.2) else if decide (Prod.fst z90 = (1 : Int)) = true then Option.bind (Zf k (Prod.fst z86.2.2, Prod.fst z90.2, Prod.snd z90.2) [(-1 : Int), (0 : Int), Prod.fst z86.2.2.2.2.2.2, wrap64 (Prod.fst z86.2.2.2.2.2.2 + (1 : Int))]) fun z92 => some ((Prod.fst z86.2.2.2.2.2.2, Prod.fst z86.2.2.2.2.2.2.2, Prod.fst z86.2.2.2.2.2.2.2.2), Prod.fst z86.2.2.2.2.2.2.2.2.2, List.set z88.1 (Int.toNat z89.1) (Prod.fst (List.getD z88.1 (Int.toNat z89.1) ((0 : Int), (0 : Int), (0 : Int))), Prod.fst z92, Prod.snd (Prod.snd (List.getD z88.1 (Int.toNat z89.1) ((0 : Int), (0 : Int), (0 : Int))))), Prod.fst z92.2, Prod.snd z92.2) else if decide (Prod.fst z90 = (2 : Int)) = true then Option.bind (Zf k (Prod.fst z86.2.2, Prod.fst z90.2, Prod.snd z90.2) [(-2 : Int), (-1 : Int), Prod.fst z86.2.2.2.2.2.2.2, wrap64 (Prod.fst z86.2.2.2.2.2.2.2 + (1 : Int))]) fun z93 => some ((Prod.fst z86.2.2.2.2.2.2, Prod.fst z86.2.2.2.2.2.2.2, Prod.fst z86.2.2.2.2.2.2.2.2), Prod.fst z86.2.2.2.2.2.2.2.2.2, List.set z88.1 (Int.toNat z89.1) (Prod.fst (List.getD z88.1 (Int.toNat z89.1) ((0 : Int), (0 : Int), (0 : Int))), Prod.fst (Prod.snd (List.getD z88.1 (Int.toNat z89.1) ((0 : Int), (0 : Int), (0 : Int)))), Prod.fst z93), Prod.fst z93.2, Prod.snd z93.2) else if decide (Prod.fst z90 = (3 : Int)) = true then if (1 : Int) ≤ (↑(List.length z88.1) : Int) then if (↑(List.length z88.1) : Int) ≤ (↑(List.length z88.1) : Int) then some ((Prod.fst z86.2.2.2.2.2.2, Prod.fst z86.2.2.2.2.2.2.2, Prod.fst z86.2.2.2.2.2.2.2.2), Prod.fst z86.2.2.2.2.2.2.2.2.2, List.drop (Int.toNat (1 : Int)) z88.1, Prod.fst z90.2, Prod.snd z90.2) else none else none else if decide (Prod.fst z90 = (4 : Int)) = true then Option.bind (Zf k (Prod.fst z86.2.2, Prod.fst z90.2, Prod.snd z90.2) [(-1 : Int), Prod.fst z86.2.2.2.2.2.2.2]) fun z94 => if (0 : Int) < (↑(List.length z86.2.2.2.2.2.2.2.2.2.1) : Int) then some ((Prod.fst z86.2.2.2.2.2.2, Prod.fst z86.2.2.2.2.2.2.2, Prod.fst z86.2.2.2.2.2.2.2.2), List.set z86.2.2.2.2.2.2.2.2.2.1 (Int.toNat (0 : Int)) z94.1, Prod.fst z88, Prod.fst z94.2, Prod.snd z94.2) else none else some ((Prod.fst z86.2.2.2.2.2.2, Prod.fst z86.2.2.2.2.2.2.2, Prod.fst z86.2.2.2.2.2.2.2.2), Prod.fst z86.2.2.2.2.2.2.2.2.2, Prod.fst z88, Prod.fst z90.2, Prod.snd z90.2) else none else none else some ((Prod.fst z86.2.2.2.2.2.2, Prod.fst z86.2.2.2.2.2.2.2, Prod.fst z86.2.2.2.2.2.2.2.2), Prod.fst z86.2.2.2.2.2.2.2.2.2, Prod.fst z88, Prod.fst z86, Prod.fst z86.2) else Option.bind (Z6K k (Prod.fst z86.2.2.2.2.2.2, Prod.fst z86.2.2.2.2.2.2.2, Prod.fst z86.2.2.2.2.2.2.2.2) [(Prod.fst z86.2.2.2.2.2.2.2.2.2.2, Prod.fst z86.2.2.2.2.2.2.2.2.2.2.2, Prod.fst z86.2.2.2.2.2.2.2.2.2.2.2.2), (Prod.fst z86.2.2.2.2.2.2.2.2.2.2.2.2.2, Prod.fst z86.2.2.2.2.2.2.2.2.2.2.2.2.2.2, Prod.snd z86.2.2.2.2.2.2.2.2.2.2.2.2.2.2)] z86.2.2.2.2.2.2.2.2.2.1) fun z95 => if decide ((↑(List.length z95.1) : Int) > (0 : Int)) = true then Option.bind (Z2 k (Prod.fst z86.2.2, Prod.fst z86, Prod.fst z86.2) (↑(List.length z95.1) : Int)) fun z96 => if (0 : Int) ≤ Prod.fst z96 then if Prod.fst z96 < (↑(List.length z95.1) : Int) then Option.bind (Z2 k (Prod.fst z86.2.2, Prod.fst z96.2, Prod.snd z96.2) (30 : Int)) fun z97 => if decide (Prod.fst z97 = (0 : Int)) = true then Option.bind (Zf k (Prod.fst z86.2.2, Prod.fst z97.2, Prod.snd z97.2) [(0 : Int), (1 : Int), (3 : Int), (4 : Int)]) fun z98 => some ((Prod.fst z86.2.2.2.2.2.2, Prod.fst z86.2.2.2.2.2.2.2, Prod.fst z86.2.2.2.2.2.2.2.2), Prod.fst z86.2.2.2.2.2.2.2.2.2, List.set z95.1 (Int.toNat z96.1) (Prod.fst z98, Prod.snd (List.getD z95.1 (Int.toNat z96.1) ((0 : Int), (0 : Int), (0 : Int)))), Prod.fst z98.2, Prod.snd z98.2) else if decide (Prod.fst z97 = (1 : Int)) = true then Option.bind (Zf k (Prod.fst z86.2.2, Prod.fst z97.2, Prod.snd z97.2) [(-1 : Int), (0 : Int), Prod.fst z86.2.2.2.2.2.2, wrap64 (Prod.fst z86.2.2.2.2.2.2 + (1 : Int))]) fun z99 => some ((Prod.fst z86.2.2.2.2.2.2, Prod.fst z86.2.2.2.2.2.2.2, Prod.fst z86.2.2.2.2.2.2.2.2), Prod.fst z86.2.2.2.2.2.2.2.2.2, List.set z95.1 (Int.toNat z96.1) (Prod.fst (List.getD z95.1 (Int.toNat z96.1) ((0 : Int), (0 : Int), (0 : Int))), Prod.fst z99, Prod.snd (Prod.snd (List.getD z95.1 (Int.toNat z96.1) ((0 : Int), (0 : Int), (0 : Int))))), Prod.fst z99.2, Prod.snd z99.2) else if decide (Prod.fst z97 = (2 : Int)) = true then Option.bind (Zf k (Prod.fst z86.2.2, Prod.fst z97.2, Prod.snd z97.2) [(-2 : Int), (-1 : Int), Prod.fst z86.2.2.2.2.2.2.2, wrap64 (Prod.fst z86.2.2.2.2.2.2.2 + (1 : Int))]) fun z100 => some ((Prod.fst z86.2.2.2.2.2.2, Prod.fst z86.2.2.2.2.2.2.2, Prod.fst z86.2.2.2.2.2.2.2.2), Prod.fst z86.2.2.2.2.2.2.2.2.2, List.set z95.1 (Int.toNat z96.1) (Prod.fst (List.getD z95.1 (Int.toNat z96.1) ((0 : Int), (0 : Int), (0 : Int))), Prod.fst (Prod.snd (List.getD z95.1 (Int.toNat z96.1) ((0 : Int), (0 : Int), (0 : Int)))), Prod.fst z100), Prod.fst z100.2, Prod.snd z100.2) else if decide (Prod.fst z97 = (3 : Int)) = true then if (1 : Int) ≤ (↑(List.length z95.1) : Int) then if (↑(List.length z95.1) : Int) ≤ (↑(List.length z95.1) : Int) then some ((Prod.fst z86.2.2.2.2.2.2, Prod.fst z86.2.2.2.2.2.2.2, Prod.fst z86.2.2.2.2.2.2.2.2), Prod.fst z86.2.2.2.2.2.2.2.2.2, List.drop (Int.toNat (1 : Int)) z95.1, Prod.fst z97.2, Prod.snd z97.2) else none else none else if decide (Prod.fst z97 = (4 : Int)) = true then Option.bind (Zf k (Prod.fst z86.2.2, Prod.fst z97.2, Prod.snd z97.2) [(-1 : Int), Prod.fst z86.2.2.2.2.2.2.2]) fun z101 => if (0 : Int) < (↑(List.length z86.2.2.2.2.2.2.2.2.2.1) : Int) then some ((Prod.fst z86.2.2.2.2.2.2, Prod.fst z86.2.2.2.2.2.2.2, Prod.fst z86.2.2.2.2.2.2.2.2), List.set z86.2.2.2.2.2.2.2.2.2.1 (Int.toNat (0 : Int)) z101.1, Prod.fst z95, Prod.fst z101.2, Prod.snd z101.2) else none else some ((Prod.fst z86.2.2.2.2.2.2, Prod.fst z86.2.2.2.2.2.2.2, Prod.fst z86.2.2.2.2.2.2.2.2), Prod.fst z86.2.2.2.2.2.2.2.2.2, Prod.fst z95, Prod.fst z97.2, Prod.snd z97.2) else none else none else some ((Prod.fst z86.2.2.2.2.2.2, Prod.fst z86.2.2.2.2.2.2.2, Prod.fst z86.2.2.2.2.2.2.2.2), Prod.fst z86.2.2.2.2.2.2.2.2.2, Prod.fst z95, Prod.fst z86, Prod.fst z86.2) else Option.bind (Z2 k (Prod.fst z14.2.2, Prod.fst z16.2, Prod.snd z16.2) (↑(List.length z15) : Int)) fun z102 => if (0 : Int) ≤ Prod.fst z102 then if Prod.fst z102 < (↑(List.length z15) : Int) then Option.bind (Z6K k (Prod.fst z14.2.2.2.2.2.2, Prod.fst z14.2.2.2.2.2.2.2, Prod.fst z14.2.2.2.2.2.2.2.2) [(Prod.fst (List.getD z15 (Int.toNat z102.1) ((0 : Int), (0 : Int), (0 : Int))), Prod.fst (Prod.snd (List.getD z15 (Int.toNat z102.1) ((0 : Int), (0 : Int), (0 : Int)))), Prod.snd (Prod.snd (List.getD z15 (Int.toNat z102.1) ((0 : Int), (0 : Int), (0 : Int)))))] z14.2.2.2.2.2.2.2.2.2) fun z103 => if decide ((↑(List.length z103.1) : Int) > (0 : Int)) = true then Option.bind (Z2 k (Prod.fst z14.2.2, Prod.fst z102.2, Prod.snd z102.2) (↑(List.length z103.1) : Int)) fun z104 => if (0 : Int) ≤ Prod.fst z104 then if Prod.fst z104 < (↑(List.length z103.1) : Int) then Option.bind (Z2 k (Prod.fst z14.2.2, Prod.fst z104.2, Prod.snd z104.2) (30 : Int)) fun z105 => if decide (Prod.fst z105 = (0 : Int)) = true then Option.bind (Zf k (Prod.fst z14.2.2, Prod.fst z105.2, Prod.snd z105.2) [(0 : Int), (1 : Int), (3 : Int), (4 : Int)]) fun z106 => some ((Prod.fst z14.2.2.2.2.2.2, Prod.fst z14.2.2.2.2.2.2.2, Prod.fst z14.2.2.2.2.2.2.2.2), Prod.snd z14.2.2.2.2.2.2.2.2, List.set z103.1 (Int.toNat z104.1) (Prod.fst z106, Prod.snd (List.getD z103.1 (Int.toNat z104.1) ((0 : Int), (0 : Int), (0 : Int)))), Prod.fst z106.2, Prod.snd z106.2) else if decide (Prod.fst z105 = (1 : Int)) = true then Option.bind (Zf k (Prod.fst z14.2.2, Prod.fst z105.2, Prod.snd z105.2) [(-1 : Int), (0 : Int), Prod.fst z14.2.2.2.2.2.2, wrap64 (Prod.fst z14.2.2.2.2.2.2 + (1 : Int))]) fun z107 => some ((Prod.fst z14.2.2.2.2.2.2, Prod.fst z14.2.2.2.2.2.2.2, Prod.fst z14.2.2.2.2.2.2.2.2), Prod.snd z14.2.2.2.2.2.2.2.2, List.set z103.1 (Int.toNat z104.1) (Prod.fst (List.getD z103.1 (Int.toNat z104.1) ((0 : Int), (0 : Int), (0 : Int))), Prod.fst z107, Prod.snd (Prod.snd (List.getD z103.1 (Int.toNat z104.1) ((0 : Int), (0 : Int), (0 : Int))))), Prod.fst z107.2, Prod.snd z107.2) else if decide (Prod.fst z105 = (2 : Int)) = true then Option.bind (Zf k (Prod.fst z14.2.2, Prod.fst z105.2, Prod.snd z105.2) [(-2 : Int), (-1 : Int), Prod.fst z14.2.2.2.2.2.2.2, wrap64 (Prod.fst z14.2.2.2.2.2.2.2 + (1 : Int))]) fun z108 => some ((Prod.fst z14.2.2.2.2.2.2, Prod.fst z14.2.2.2.2.2.2.2, Prod.fst z14.2.2.2.2.2.2.2.2), Prod.snd z14.2.2.2.2.2.2.2.2, List.set z103.1 (Int.toNat z104.1) (Prod.fst (List.getD z103.1 (Int.toNat z104.1) ((0 : Int), (0 : Int), (0 : Int))), Prod.fst (Prod.snd (List.getD z103.1 (Int.toNat z104.1) ((0 : Int), (0 : Int), (0 : Int)))), Prod.fst z108), Prod.fst z108.2, Prod.snd z108.2) else if decide (Prod.fst z105 = (3 : Int)) = true then if (1 : Int) ≤ (↑(List.length z103.1) : Int) then if (↑(List.length z103.1) : Int) ≤ (↑(List.length z103.1) : Int) then some ((Prod.fst z14.2.2.2.2.2.2, Prod.fst z14.2.2.2.2.2.2.2, Prod.fst z14.2.2.2.2.2.2.2.2), Prod.snd z14.2.2.2.2.2.2.2.2, List.drop (Int.toNat (1 : Int)) z103.1, Prod.fst z105.2, Prod.snd z105.2) else none else none else if decide (Prod.fst z105 = (4 : Int)) = true then Option.bind (Zf k (Prod.fst z14.2.2, Prod.fst z105.2, Prod.snd z105.2) [(-1 : Int), Prod.fst z14.2.2.2.2.2.2.2]) fun z109 => if (0 : Int) < (↑(List.length z14.2.2.2.2.2.2.2.2.2) : Int) then some ((Prod.fst z14.2.2.2.2.2.2, Prod.fst z14.2.2.2.2.2.2.2, Prod.fst z14.2.2.2.2.2.2.2.2), List.set z14.2.2.2.2.2.2.2.2.2 (Int.toNat (0 : Int)) z109.1, Prod.fst z103, Prod.fst z109.2, Prod.snd z109.2) else none else some ((Prod.fst z14.2.2.2.2.2.2, Prod.fst z14.2.2.2.2.2.2.2, Prod.fst z14.2.2.2.2.2.2.2.2), Prod.snd z14.2.2.2.2.2.2.2.2, Prod.fst z103, Prod.fst z105.2, Prod.snd z105.2) else none else none else some ((Prod.fst z14.2.2.2.2.2.2, Prod.fst z14.2.2.2.2.2.2.2, Prod.fst z14.2.2.2.2.2.2.2.2), Prod.snd z14.2.2.2.2.2.2.2.2, Prod.fst z103, Prod.fst z102.2, Prod.snd z102.2) else none else none
noncomputable def Z1z : FnDef := .of ZfQ Z1D ((Int × Int × List (Int × Int)) × List Int × List (Int × Int × Int) × Int × Int) (fun k x => Z5V k x.1) Zfj Zba Zku
noncomputable def Z1F : Code := Try.f149.body.getD .skip
noncomputable def Z0 : Ctx (Tup Z1D × OutD) := { T := T, G := [(111, ZI.E), (197, Z1j.E), (177, Z1J.E), (133, Z2K.E), (150, Z1v.E), (148, Z1a.E), (122, Z4r.E), (123, Z5h.E), (90, Z10.E)], mvs := [153], no := 2, n := 166, res := resOf T ZfQ Z1D Try.f149.results.toList, loops := [(1, Z2V.E)], regs := [(22, Z5.E)], conds := [(25, ZC.E), (44, ZB.E)] }
theorem Z5Q (k : Nat) : EnvOK Try.prog k Z0.G := (EnvOK.cons (Z32 k) (EnvOK.cons (Zfs k) (EnvOK.cons (ZnP k) (EnvOK.cons (ZdM k) (EnvOK.cons (Zbl k) (EnvOK.cons (Z7z k) (EnvOK.cons (ZpS k) (EnvOK.cons (Zsm k) (EnvOK.cons (Z6V k) (EnvOK.nil mixed))))))))))
noncomputable def Z7 : Array Oper := (findReg 22 Z1F).getD #[]
noncomputable abbrev U0 : TV := TV.sv (SV.at At.un)
noncomputable abbrev J0 (x : Int) : At := At.int .i64 x
noncomputable abbrev L0 (n : Nat) : TV := TV.sv (SV.at (At.sl n))
noncomputable abbrev P0 (n : Nat) : TV := TV.sv (SV.at (At.ptr n 0))
noncomputable abbrev T1 : Ty := Ty.int .i64
noncomputable abbrev T2 : Ty := Ty.pair T1 T1
noncomputable abbrev T3 : Ty := Ty.pair T1 T2
noncomputable def sets (l : List TV) (s : List (Nat × TV)) : List TV := s.foldl (fun a p => a.set p.1 p.2) l
noncomputable abbrev Z1c : Type := Int × Int × List Int × Int × Int × List (Int × Int) × Int × Int × List (Int × Int) × List Int × Int × Int × Int × Int × Int × Int
section
variable (k : Nat) (b1_1 : Int) (b1_2 : Int) (o2 : List Int) (b3_0 : Int) (b3_1 : Int) (o4 : List (Int × Int)) (b5_0 : Int) (b5_1 : Int) (o6 : List (Int × Int)) (o7 : List Int) (o8 : List (Int × Int × Int))
noncomputable def Z1r : List TV := [P0 1, U0, P0 3, U0, U0, P0 5, L0 7, U0, L0 8, U0, U0, U0, U0, U0, U0, U0, U0, U0, U0, U0, U0, U0, U0, U0, U0, U0, U0, U0, U0, U0, U0, U0, U0, U0, U0, U0, U0, U0, U0, U0, U0, U0, U0, U0, U0, U0, U0, U0, U0, U0, U0, U0, U0, U0, U0, U0, U0, U0, U0, U0, U0, U0, U0, U0, U0, U0, U0, U0, U0, U0, U0, U0, U0, U0, U0, L0 8, P0 1, L0 8, TV.sv (SV.at (J0 (↑(List.length o8) : Int))), U0, U0, U0, L0 8, P0 1, L0 8, U0, U0, U0, U0, U0, U0, U0, U0, U0, U0, U0, U0, U0, U0, U0, U0, U0, U0, U0, U0, U0, U0, U0, U0, U0, U0, U0, U0, U0, U0, U0, U0, U0, U0, U0, U0, U0, U0, U0, U0, U0, U0, U0, U0, U0, U0, U0, U0, U0, U0, U0, U0, U0, U0, U0, U0, U0, U0, U0, U0, U0, U0, U0, U0, U0, U0, U0, U0, U0, U0, U0, U0, U0, U0, U0, U0, U0, U0, U0, U0, U0]
noncomputable def ZV : Ob := Ob.fx (Ty.int .u8) o2
noncomputable def ZX : Ob := Ob.box 53 [J0 b3_0, J0 b3_1, At.sl 4]
noncomputable def Z11 : Ob := Ob.row true 79 T2 o4
noncomputable def ZY : Ob := Ob.box 53 [J0 b5_0, J0 b5_1, At.sl 6]
noncomputable def ZU : Ob := Ob.row true 79 T2 o6
noncomputable def ZW : Ob := Ob.row true 3 T1 o7
noncomputable def ZZ : Ob := Ob.row true 77 T3 o8
noncomputable def Z12 : Ob := Ob.box 77 [J0 (0 : Int), J0 (0 : Int), J0 (0 : Int)]
noncomputable def Zey : Ob := Ob.box 114 [At.sl 2, J0 b1_1, At.int IntKind.u64 b1_2]
noncomputable def Z2L : TV := TV.sv (SV.at (J0 (↑(List.length o8) : Int)))
noncomputable def Zx (f0 : Int × Int × Int) (f1 : Int × Int × Int) : Option Z1c := some (Prod.fst f0.2, Prod.snd f0.2, o2, b3_0, b3_1, o4, b5_0, b5_1, o6, o7, Prod.fst (List.getD o8 (Int.toNat f1.1) ((0 : Int), (0 : Int), (0 : Int))), Prod.fst (Prod.snd (List.getD o8 (Int.toNat f1.1) ((0 : Int), (0 : Int), (0 : Int)))), Prod.snd (Prod.snd (List.getD o8 (Int.toNat f1.1) ((0 : Int), (0 : Int), (0 : Int)))), Prod.fst (List.getD o8 (Int.toNat f0.1) ((0 : Int), (0 : Int), (0 : Int))), Prod.fst (Prod.snd (List.getD o8 (Int.toNat f0.1) ((0 : Int), (0 : Int), (0 : Int)))), Prod.snd (Prod.snd (List.getD o8 (Int.toNat f0.1) ((0 : Int), (0 : Int), (0 : Int)))))
noncomputable def Zu (f0 : Int × Int × Int) : Option Z1c := Option.bind (Z2 k (o2, Prod.fst f0.2, Prod.snd f0.2) (↑(List.length o8) : Int)) fun y0 => if (0 : Int) ≤ Prod.fst y0 then if Prod.fst y0 < (↑(List.length o8) : Int) then some (Prod.fst y0.2, Prod.snd y0.2, o2, b3_0, b3_1, o4, b5_0, b5_1, o6, o7, Prod.fst (List.getD o8 (Int.toNat f0.1) ((0 : Int), (0 : Int), (0 : Int))), Prod.fst (Prod.snd (List.getD o8 (Int.toNat f0.1) ((0 : Int), (0 : Int), (0 : Int)))), Prod.snd (Prod.snd (List.getD o8 (Int.toNat f0.1) ((0 : Int), (0 : Int), (0 : Int)))), Prod.fst (List.getD o8 (Int.toNat y0.1) ((0 : Int), (0 : Int), (0 : Int))), Prod.fst (Prod.snd (List.getD o8 (Int.toNat y0.1) ((0 : Int), (0 : Int), (0 : Int)))), Prod.snd (Prod.snd (List.getD o8 (Int.toNat y0.1) ((0 : Int), (0 : Int), (0 : Int))))) else none else none
noncomputable def ZG : Option Z1c := Option.bind (Z2 k (o2, b1_1, b1_2) (↑(List.length o8) : Int)) fun y0 => if (0 : Int) ≤ Prod.fst y0 then if Prod.fst y0 < (↑(List.length o8) : Int) then Option.bind (Z2 k (o2, Prod.fst y0.2, Prod.snd y0.2) (↑(List.length o8) : Int)) fun y1 => if (0 : Int) ≤ Prod.fst y1 then if Prod.fst y1 < (↑(List.length o8) : Int) then some (Prod.fst y1.2, Prod.snd y1.2, o2, b3_0, b3_1, o4, b5_0, b5_1, o6, o7, Prod.fst (List.getD o8 (Int.toNat y0.1) ((0 : Int), (0 : Int), (0 : Int))), Prod.fst (Prod.snd (List.getD o8 (Int.toNat y0.1) ((0 : Int), (0 : Int), (0 : Int)))), Prod.snd (Prod.snd (List.getD o8 (Int.toNat y0.1) ((0 : Int), (0 : Int), (0 : Int)))), Prod.fst (List.getD o8 (Int.toNat y1.1) ((0 : Int), (0 : Int), (0 : Int))), Prod.fst (Prod.snd (List.getD o8 (Int.toNat y1.1) ((0 : Int), (0 : Int), (0 : Int)))), Prod.snd (Prod.snd (List.getD o8 (Int.toNat y1.1) ((0 : Int), (0 : Int), (0 : Int))))) else none else none else none else none
noncomputable def ZAL (z26 : Int × Int × Int) (z27 : Int × Int × Int) : Option (List Z1c) := execT Z0.G (stepOp Z0.T Z0.G Z0.mvs k) Z7 4 #[true, true, true, true, true, true, true, true, true, true, true, true, true, true, false, false, false, false] ⟨sets (Z1r o8) [(79, TV.sv (SV.at (J0 z26.1))), (80, TV.sv (SV.at (At.ep 8 T3 z26.1 0))), (81, TV.sv (SV.agg [J0 (Prod.fst (List.getD o8 (Int.toNat z26.1) ((0 : Int), (0 : Int), (0 : Int)))), J0 (Prod.fst (Prod.snd (List.getD o8 (Int.toNat z26.1) ((0 : Int), (0 : Int), (0 : Int))))), J0 (Prod.snd (Prod.snd (List.getD o8 (Int.toNat z26.1) ((0 : Int), (0 : Int), (0 : Int)))))])), (85, Z2L o8), (86, TV.sv (SV.at (J0 z27.1))), (87, TV.sv (SV.at (At.ep 8 T3 z27.1 0))), (88, TV.sv (SV.agg [J0 (Prod.fst (List.getD o8 (Int.toNat z27.1) ((0 : Int), (0 : Int), (0 : Int)))), J0 (Prod.fst (Prod.snd (List.getD o8 (Int.toNat z27.1) ((0 : Int), (0 : Int), (0 : Int))))), J0 (Prod.snd (Prod.snd (List.getD o8 (Int.toNat z27.1) ((0 : Int), (0 : Int), (0 : Int)))))]))], [Ob.ro, Ob.box 114 [At.sl 2, J0 z27.2.1, At.int IntKind.u64 z27.2.2], ZV o2, ZX b3_0 b3_1, Z11 o4, ZY b5_0 b5_1, ZU o6, ZW o7, ZZ o8]⟩ (outK Z0 Z5)
theorem ZFb (z26 : Int × Int × Int) (z27 : Int × Int × Int) : ZAL k o2 b3_0 b3_1 o4 b5_0 b5_1 o6 o7 o8 z26 z27 = joinL (some [(Prod.fst z27.2, Prod.snd z27.2, o2, b3_0, b3_1, o4, b5_0, b5_1, o6, o7, Prod.fst (List.getD o8 (Int.toNat z26.1) ((0 : Int), (0 : Int), (0 : Int))), Prod.fst (Prod.snd (List.getD o8 (Int.toNat z26.1) ((0 : Int), (0 : Int), (0 : Int)))), Prod.snd (Prod.snd (List.getD o8 (Int.toNat z26.1) ((0 : Int), (0 : Int), (0 : Int)))), Prod.fst (List.getD o8 (Int.toNat z27.1) ((0 : Int), (0 : Int), (0 : Int))), Prod.fst (Prod.snd (List.getD o8 (Int.toNat z27.1) ((0 : Int), (0 : Int), (0 : Int)))), Prod.snd (Prod.snd (List.getD o8 (Int.toNat z27.1) ((0 : Int), (0 : Int), (0 : Int)))))]) (some [(Prod.fst z27.2, Prod.snd z27.2, o2, b3_0, b3_1, o4, b5_0, b5_1, o6, o7, Prod.fst (List.getD o8 (Int.toNat z26.1) ((0 : Int), (0 : Int), (0 : Int))), Prod.fst (Prod.snd (List.getD o8 (Int.toNat z26.1) ((0 : Int), (0 : Int), (0 : Int)))), Prod.snd (Prod.snd (List.getD o8 (Int.toNat z26.1) ((0 : Int), (0 : Int), (0 : Int)))), Prod.fst (List.getD o8 (Int.toNat z27.1) ((0 : Int), (0 : Int), (0 : Int))), Prod.fst (Prod.snd (List.getD o8 (Int.toNat z27.1) ((0 : Int), (0 : Int), (0 : Int)))), Prod.snd (Prod.snd (List.getD o8 (Int.toNat z27.1) ((0 : Int), (0 : Int), (0 : Int)))))]) := by kernel_rfl
theorem ZDB (z26 : Int × Int × Int) (z27 : Int × Int × Int) : ZAL k o2 b3_0 b3_1 o4 b5_0 b5_1 o6 o7 o8 z26 z27 = repl 2 (Zx k o2 b3_0 b3_1 o4 b5_0 b5_1 o6 o7 o8 z27 z26) := by
 rw [ZFb]
 simp only [Zx, Zu, ZG, Zb, Zg, Zc, Za, Z9, Z8, if_true]
noncomputable def ZkO (z26 : Int × Int × Int) (z27 : Int × Int × Int) : Option (List Z1c) := execT Z0.G (stepOp Z0.T Z0.G Z0.mvs k) Z7 3 #[true, true, true, true, true, true, true, true, true, true, true, true, true, false, true, true, false, false] ⟨sets (Z1r o8) [(10, P0 9), (11, P0 10), (79, TV.sv (SV.at (J0 z26.1))), (80, TV.sv (SV.at (At.ep 8 T3 z26.1 0))), (81, TV.sv (SV.agg [J0 (Prod.fst (List.getD o8 (Int.toNat z26.1) ((0 : Int), (0 : Int), (0 : Int)))), J0 (Prod.fst (Prod.snd (List.getD o8 (Int.toNat z26.1) ((0 : Int), (0 : Int), (0 : Int))))), J0 (Prod.snd (Prod.snd (List.getD o8 (Int.toNat z26.1) ((0 : Int), (0 : Int), (0 : Int)))))])), (85, Z2L o8), (86, TV.sv (SV.at (J0 z27.1))), (87, TV.sv (SV.at (At.ep 8 T3 z27.1 0)))], [Ob.ro, Ob.box 114 [At.sl 2, J0 z27.2.1, At.int IntKind.u64 z27.2.2], ZV o2, ZX b3_0 b3_1, Z11 o4, ZY b5_0 b5_1, ZU o6, ZW o7, ZZ o8, Z12, Z12]⟩ (outK Z0 Z5)
theorem ZF9 (z26 : Int × Int × Int) (z27 : Int × Int × Int) : ZkO k o2 b3_0 b3_1 o4 b5_0 b5_1 o6 o7 o8 z26 z27 = joinL (some [(Prod.fst z27.2, Prod.snd z27.2, o2, b3_0, b3_1, o4, b5_0, b5_1, o6, o7, Prod.fst (List.getD o8 (Int.toNat z26.1) ((0 : Int), (0 : Int), (0 : Int))), Prod.fst (Prod.snd (List.getD o8 (Int.toNat z26.1) ((0 : Int), (0 : Int), (0 : Int)))), Prod.snd (Prod.snd (List.getD o8 (Int.toNat z26.1) ((0 : Int), (0 : Int), (0 : Int)))), Prod.fst (List.getD o8 (Int.toNat z27.1) ((0 : Int), (0 : Int), (0 : Int))), Prod.fst (Prod.snd (List.getD o8 (Int.toNat z27.1) ((0 : Int), (0 : Int), (0 : Int)))), Prod.snd (Prod.snd (List.getD o8 (Int.toNat z27.1) ((0 : Int), (0 : Int), (0 : Int)))))]) (some [(Prod.fst z27.2, Prod.snd z27.2, o2, b3_0, b3_1, o4, b5_0, b5_1, o6, o7, Prod.fst (List.getD o8 (Int.toNat z26.1) ((0 : Int), (0 : Int), (0 : Int))), Prod.fst (Prod.snd (List.getD o8 (Int.toNat z26.1) ((0 : Int), (0 : Int), (0 : Int)))), Prod.snd (Prod.snd (List.getD o8 (Int.toNat z26.1) ((0 : Int), (0 : Int), (0 : Int)))), Prod.fst (List.getD o8 (Int.toNat z27.1) ((0 : Int), (0 : Int), (0 : Int))), Prod.fst (Prod.snd (List.getD o8 (Int.toNat z27.1) ((0 : Int), (0 : Int), (0 : Int)))), Prod.snd (Prod.snd (List.getD o8 (Int.toNat z27.1) ((0 : Int), (0 : Int), (0 : Int)))))]) := by kernel_rfl
theorem Znf (z26 : Int × Int × Int) (z27 : Int × Int × Int) : ZkO k o2 b3_0 b3_1 o4 b5_0 b5_1 o6 o7 o8 z26 z27 = repl 2 (Zx k o2 b3_0 b3_1 o4 b5_0 b5_1 o6 o7 o8 z27 z26) := by
 rw [ZF9]
 simp only [Zx, Zu, ZG, Zb, Zg, Zc, Za, Z9, Z8, if_true]
noncomputable def ZxL (z26 : Int × Int × Int) (z27 : Int × Int × Int) : Option (List Z1c) := execT Z0.G (stepOp Z0.T Z0.G Z0.mvs k) Z7 4 #[true, true, true, true, true, true, true, true, true, true, true, true, true, false, true, false, false, false] ⟨sets (Z1r o8) [(10, P0 9), (79, TV.sv (SV.at (J0 z26.1))), (80, TV.sv (SV.at (At.ep 8 T3 z26.1 0))), (81, TV.sv (SV.agg [J0 (Prod.fst (List.getD o8 (Int.toNat z26.1) ((0 : Int), (0 : Int), (0 : Int)))), J0 (Prod.fst (Prod.snd (List.getD o8 (Int.toNat z26.1) ((0 : Int), (0 : Int), (0 : Int))))), J0 (Prod.snd (Prod.snd (List.getD o8 (Int.toNat z26.1) ((0 : Int), (0 : Int), (0 : Int)))))])), (85, Z2L o8), (86, TV.sv (SV.at (J0 z27.1))), (87, TV.sv (SV.at (At.ep 8 T3 z27.1 0)))], [Ob.ro, Ob.box 114 [At.sl 2, J0 z27.2.1, At.int IntKind.u64 z27.2.2], ZV o2, ZX b3_0 b3_1, Z11 o4, ZY b5_0 b5_1, ZU o6, ZW o7, ZZ o8, Z12]⟩ (outK Z0 Z5)
theorem ZF3 (z26 : Int × Int × Int) (z27 : Int × Int × Int) : ZxL k o2 b3_0 b3_1 o4 b5_0 b5_1 o6 o7 o8 z26 z27 = joinL (some [(Prod.fst z27.2, Prod.snd z27.2, o2, b3_0, b3_1, o4, b5_0, b5_1, o6, o7, Prod.fst (List.getD o8 (Int.toNat z26.1) ((0 : Int), (0 : Int), (0 : Int))), Prod.fst (Prod.snd (List.getD o8 (Int.toNat z26.1) ((0 : Int), (0 : Int), (0 : Int)))), Prod.snd (Prod.snd (List.getD o8 (Int.toNat z26.1) ((0 : Int), (0 : Int), (0 : Int)))), Prod.fst (List.getD o8 (Int.toNat z27.1) ((0 : Int), (0 : Int), (0 : Int))), Prod.fst (Prod.snd (List.getD o8 (Int.toNat z27.1) ((0 : Int), (0 : Int), (0 : Int)))), Prod.snd (Prod.snd (List.getD o8 (Int.toNat z27.1) ((0 : Int), (0 : Int), (0 : Int)))))]) (ZkO k o2 b3_0 b3_1 o4 b5_0 b5_1 o6 o7 o8 z26 z27) := by kernel_rfl
theorem ZBx (z26 : Int × Int × Int) (z27 : Int × Int × Int) : ZxL k o2 b3_0 b3_1 o4 b5_0 b5_1 o6 o7 o8 z26 z27 = repl 3 (Zx k o2 b3_0 b3_1 o4 b5_0 b5_1 o6 o7 o8 z27 z26) := by
 rw [ZF3]
 simp only [Znf, Zx, Zu, ZG, Zb, Zg, Zc, Za, Z9, Z8, if_true]
noncomputable def ZkU (z26 : Int × Int × Int) (z27 : Int × Int × Int) : Option (List Z1c) := execT Z0.G (stepOp Z0.T Z0.G Z0.mvs k) Z7 3 #[true, true, true, true, true, true, true, true, true, true, true, true, true, false, true, true, false, false] ⟨sets (Z1r o8) [(10, P0 10), (11, P0 9), (79, TV.sv (SV.at (J0 z26.1))), (80, TV.sv (SV.at (At.ep 8 T3 z26.1 0))), (81, TV.sv (SV.agg [J0 (Prod.fst (List.getD o8 (Int.toNat z26.1) ((0 : Int), (0 : Int), (0 : Int)))), J0 (Prod.fst (Prod.snd (List.getD o8 (Int.toNat z26.1) ((0 : Int), (0 : Int), (0 : Int))))), J0 (Prod.snd (Prod.snd (List.getD o8 (Int.toNat z26.1) ((0 : Int), (0 : Int), (0 : Int)))))])), (85, Z2L o8), (86, TV.sv (SV.at (J0 z27.1))), (87, TV.sv (SV.at (At.ep 8 T3 z27.1 0)))], [Ob.ro, Ob.box 114 [At.sl 2, J0 z27.2.1, At.int IntKind.u64 z27.2.2], ZV o2, ZX b3_0 b3_1, Z11 o4, ZY b5_0 b5_1, ZU o6, ZW o7, ZZ o8, Z12, Z12]⟩ (outK Z0 Z5)
theorem ZFd (z26 : Int × Int × Int) (z27 : Int × Int × Int) : ZkU k o2 b3_0 b3_1 o4 b5_0 b5_1 o6 o7 o8 z26 z27 = joinL (some [(Prod.fst z27.2, Prod.snd z27.2, o2, b3_0, b3_1, o4, b5_0, b5_1, o6, o7, Prod.fst (List.getD o8 (Int.toNat z26.1) ((0 : Int), (0 : Int), (0 : Int))), Prod.fst (Prod.snd (List.getD o8 (Int.toNat z26.1) ((0 : Int), (0 : Int), (0 : Int)))), Prod.snd (Prod.snd (List.getD o8 (Int.toNat z26.1) ((0 : Int), (0 : Int), (0 : Int)))), Prod.fst (List.getD o8 (Int.toNat z27.1) ((0 : Int), (0 : Int), (0 : Int))), Prod.fst (Prod.snd (List.getD o8 (Int.toNat z27.1) ((0 : Int), (0 : Int), (0 : Int)))), Prod.snd (Prod.snd (List.getD o8 (Int.toNat z27.1) ((0 : Int), (0 : Int), (0 : Int)))))]) (some [(Prod.fst z27.2, Prod.snd z27.2, o2, b3_0, b3_1, o4, b5_0, b5_1, o6, o7, Prod.fst (List.getD o8 (Int.toNat z26.1) ((0 : Int), (0 : Int), (0 : Int))), Prod.fst (Prod.snd (List.getD o8 (Int.toNat z26.1) ((0 : Int), (0 : Int), (0 : Int)))), Prod.snd (Prod.snd (List.getD o8 (Int.toNat z26.1) ((0 : Int), (0 : Int), (0 : Int)))), Prod.fst (List.getD o8 (Int.toNat z27.1) ((0 : Int), (0 : Int), (0 : Int))), Prod.fst (Prod.snd (List.getD o8 (Int.toNat z27.1) ((0 : Int), (0 : Int), (0 : Int)))), Prod.snd (Prod.snd (List.getD o8 (Int.toNat z27.1) ((0 : Int), (0 : Int), (0 : Int)))))]) := by kernel_rfl
theorem ZmM (z26 : Int × Int × Int) (z27 : Int × Int × Int) : ZkU k o2 b3_0 b3_1 o4 b5_0 b5_1 o6 o7 o8 z26 z27 = repl 2 (Zx k o2 b3_0 b3_1 o4 b5_0 b5_1 o6 o7 o8 z27 z26) := by
 rw [ZFd]
 simp only [Zx, Zu, ZG, Zb, Zg, Zc, Za, Z9, Z8, if_true]
noncomputable def Zya (z26 : Int × Int × Int) (z27 : Int × Int × Int) : Option (List Z1c) := execT Z0.G (stepOp Z0.T Z0.G Z0.mvs k) Z7 4 #[true, true, true, true, true, true, true, true, true, true, true, true, true, false, false, true, false, false] ⟨sets (Z1r o8) [(11, P0 9), (79, TV.sv (SV.at (J0 z26.1))), (80, TV.sv (SV.at (At.ep 8 T3 z26.1 0))), (81, TV.sv (SV.agg [J0 (Prod.fst (List.getD o8 (Int.toNat z26.1) ((0 : Int), (0 : Int), (0 : Int)))), J0 (Prod.fst (Prod.snd (List.getD o8 (Int.toNat z26.1) ((0 : Int), (0 : Int), (0 : Int))))), J0 (Prod.snd (Prod.snd (List.getD o8 (Int.toNat z26.1) ((0 : Int), (0 : Int), (0 : Int)))))])), (85, Z2L o8), (86, TV.sv (SV.at (J0 z27.1))), (87, TV.sv (SV.at (At.ep 8 T3 z27.1 0)))], [Ob.ro, Ob.box 114 [At.sl 2, J0 z27.2.1, At.int IntKind.u64 z27.2.2], ZV o2, ZX b3_0 b3_1, Z11 o4, ZY b5_0 b5_1, ZU o6, ZW o7, ZZ o8, Z12]⟩ (outK Z0 Z5)
theorem ZFc (z26 : Int × Int × Int) (z27 : Int × Int × Int) : Zya k o2 b3_0 b3_1 o4 b5_0 b5_1 o6 o7 o8 z26 z27 = joinL (some [(Prod.fst z27.2, Prod.snd z27.2, o2, b3_0, b3_1, o4, b5_0, b5_1, o6, o7, Prod.fst (List.getD o8 (Int.toNat z26.1) ((0 : Int), (0 : Int), (0 : Int))), Prod.fst (Prod.snd (List.getD o8 (Int.toNat z26.1) ((0 : Int), (0 : Int), (0 : Int)))), Prod.snd (Prod.snd (List.getD o8 (Int.toNat z26.1) ((0 : Int), (0 : Int), (0 : Int)))), Prod.fst (List.getD o8 (Int.toNat z27.1) ((0 : Int), (0 : Int), (0 : Int))), Prod.fst (Prod.snd (List.getD o8 (Int.toNat z27.1) ((0 : Int), (0 : Int), (0 : Int)))), Prod.snd (Prod.snd (List.getD o8 (Int.toNat z27.1) ((0 : Int), (0 : Int), (0 : Int)))))]) (ZkU k o2 b3_0 b3_1 o4 b5_0 b5_1 o6 o7 o8 z26 z27) := by kernel_rfl
theorem ZAT (z26 : Int × Int × Int) (z27 : Int × Int × Int) : Zya k o2 b3_0 b3_1 o4 b5_0 b5_1 o6 o7 o8 z26 z27 = repl 3 (Zx k o2 b3_0 b3_1 o4 b5_0 b5_1 o6 o7 o8 z27 z26) := by
 rw [ZFc]
 simp only [ZmM, Zx, Zu, ZG, Zb, Zg, Zc, Za, Z9, Z8, if_true]
noncomputable def ZAN (z26 : Int × Int × Int) (z27 : Int × Int × Int) : Option (List Z1c) := execT Z0.G (stepOp Z0.T Z0.G Z0.mvs k) Z7 5 #[true, true, true, true, true, true, true, true, true, true, true, true, true, false, false, false, false, false] ⟨sets (Z1r o8) [(79, TV.sv (SV.at (J0 z26.1))), (80, TV.sv (SV.at (At.ep 8 T3 z26.1 0))), (81, TV.sv (SV.agg [J0 (Prod.fst (List.getD o8 (Int.toNat z26.1) ((0 : Int), (0 : Int), (0 : Int)))), J0 (Prod.fst (Prod.snd (List.getD o8 (Int.toNat z26.1) ((0 : Int), (0 : Int), (0 : Int))))), J0 (Prod.snd (Prod.snd (List.getD o8 (Int.toNat z26.1) ((0 : Int), (0 : Int), (0 : Int)))))])), (85, Z2L o8), (86, TV.sv (SV.at (J0 z27.1))), (87, TV.sv (SV.at (At.ep 8 T3 z27.1 0)))], [Ob.ro, Ob.box 114 [At.sl 2, J0 z27.2.1, At.int IntKind.u64 z27.2.2], ZV o2, ZX b3_0 b3_1, Z11 o4, ZY b5_0 b5_1, ZU o6, ZW o7, ZZ o8]⟩ (outK Z0 Z5)
theorem ZFe (z26 : Int × Int × Int) (z27 : Int × Int × Int) : ZAN k o2 b3_0 b3_1 o4 b5_0 b5_1 o6 o7 o8 z26 z27 = joinL (ZAL k o2 b3_0 b3_1 o4 b5_0 b5_1 o6 o7 o8 z26 z27) (joinL (ZxL k o2 b3_0 b3_1 o4 b5_0 b5_1 o6 o7 o8 z26 z27) (Zya k o2 b3_0 b3_1 o4 b5_0 b5_1 o6 o7 o8 z26 z27)) := by kernel_rfl
theorem ZDV (z26 : Int × Int × Int) (z27 : Int × Int × Int) : ZAN k o2 b3_0 b3_1 o4 b5_0 b5_1 o6 o7 o8 z26 z27 = repl 8 (Zx k o2 b3_0 b3_1 o4 b5_0 b5_1 o6 o7 o8 z27 z26) := by
 rw [ZFe]
 simp only [ZDB, ZBx, ZAT, Zx, Zu, ZG, Zb, Zg, Zc, Za, Z9, Z8, if_true]
noncomputable def ZxZ (z26 : Int × Int × Int) : Option (List Z1c) := execT Z0.G (stepOp Z0.T Z0.G Z0.mvs k) Z7 6 #[true, true, true, true, true, true, true, true, true, true, true, false, false, false, true, false, false, false] ⟨sets (Z1r o8) [(10, P0 9), (79, TV.sv (SV.at (J0 z26.1))), (80, TV.sv (SV.at (At.ep 8 T3 z26.1 0))), (81, TV.sv (SV.agg [J0 (Prod.fst (List.getD o8 (Int.toNat z26.1) ((0 : Int), (0 : Int), (0 : Int)))), J0 (Prod.fst (Prod.snd (List.getD o8 (Int.toNat z26.1) ((0 : Int), (0 : Int), (0 : Int))))), J0 (Prod.snd (Prod.snd (List.getD o8 (Int.toNat z26.1) ((0 : Int), (0 : Int), (0 : Int)))))])), (85, Z2L o8)], [Ob.ro, Ob.box 114 [At.sl 2, J0 z26.2.1, At.int IntKind.u64 z26.2.2], ZV o2, ZX b3_0 b3_1, Z11 o4, ZY b5_0 b5_1, ZU o6, ZW o7, ZZ o8, Z12]⟩ (outK Z0 Z5)
theorem ZF5 (z26 : Int × Int × Int) : ZxZ k o2 b3_0 b3_1 o4 b5_0 b5_1 o6 o7 o8 z26 = joinL (Option.bind (Z2 k (o2, Prod.fst z26.2, Prod.snd z26.2) (↑(List.length o8) : Int)) fun z28 => if (0 : Int) ≤ Prod.fst z28 then if Prod.fst z28 < (↑(List.length o8) : Int) then ZxL k o2 b3_0 b3_1 o4 b5_0 b5_1 o6 o7 o8 z26 z28 else none else none) (Option.bind (Z2 k (o2, Prod.fst z26.2, Prod.snd z26.2) (↑(List.length o8) : Int)) fun z29 => if (0 : Int) ≤ Prod.fst z29 then if Prod.fst z29 < (↑(List.length o8) : Int) then ZkO k o2 b3_0 b3_1 o4 b5_0 b5_1 o6 o7 o8 z26 z29 else none else none) := by kernel_rfl
theorem ZBe (z26 : Int × Int × Int) : ZxZ k o2 b3_0 b3_1 o4 b5_0 b5_1 o6 o7 o8 z26 = repl 5 (Zu k o2 b3_0 b3_1 o4 b5_0 b5_1 o6 o7 o8 z26) := by
 rw [ZF5]
 simp only [ZBx, Znf, Zx, Zu, ZG, Zb, Zg, Zc, Za, Z9, Z8, if_true]
noncomputable def Zxl (z26 : Int × Int × Int) : Option (List Z1c) := execT Z0.G (stepOp Z0.T Z0.G Z0.mvs k) Z7 6 #[true, true, true, true, true, true, true, true, true, true, true, false, false, false, false, true, false, false] ⟨sets (Z1r o8) [(11, P0 9), (79, TV.sv (SV.at (J0 z26.1))), (80, TV.sv (SV.at (At.ep 8 T3 z26.1 0))), (81, TV.sv (SV.agg [J0 (Prod.fst (List.getD o8 (Int.toNat z26.1) ((0 : Int), (0 : Int), (0 : Int)))), J0 (Prod.fst (Prod.snd (List.getD o8 (Int.toNat z26.1) ((0 : Int), (0 : Int), (0 : Int))))), J0 (Prod.snd (Prod.snd (List.getD o8 (Int.toNat z26.1) ((0 : Int), (0 : Int), (0 : Int)))))])), (85, Z2L o8)], [Ob.ro, Ob.box 114 [At.sl 2, J0 z26.2.1, At.int IntKind.u64 z26.2.2], ZV o2, ZX b3_0 b3_1, Z11 o4, ZY b5_0 b5_1, ZU o6, ZW o7, ZZ o8, Z12]⟩ (outK Z0 Z5)
theorem ZF6 (z26 : Int × Int × Int) : Zxl k o2 b3_0 b3_1 o4 b5_0 b5_1 o6 o7 o8 z26 = joinL (Option.bind (Z2 k (o2, Prod.fst z26.2, Prod.snd z26.2) (↑(List.length o8) : Int)) fun z31 => if (0 : Int) ≤ Prod.fst z31 then if Prod.fst z31 < (↑(List.length o8) : Int) then Zya k o2 b3_0 b3_1 o4 b5_0 b5_1 o6 o7 o8 z26 z31 else none else none) (Option.bind (Z2 k (o2, Prod.fst z26.2, Prod.snd z26.2) (↑(List.length o8) : Int)) fun z32 => if (0 : Int) ≤ Prod.fst z32 then if Prod.fst z32 < (↑(List.length o8) : Int) then ZkU k o2 b3_0 b3_1 o4 b5_0 b5_1 o6 o7 o8 z26 z32 else none else none) := by kernel_rfl
theorem ZBa (z26 : Int × Int × Int) : Zxl k o2 b3_0 b3_1 o4 b5_0 b5_1 o6 o7 o8 z26 = repl 5 (Zu k o2 b3_0 b3_1 o4 b5_0 b5_1 o6 o7 o8 z26) := by
 rw [ZF6]
 simp only [ZAT, ZmM, Zx, Zu, ZG, Zb, Zg, Zc, Za, Z9, Z8, if_true]
noncomputable def ZAK (z26 : Int × Int × Int) : Option (List Z1c) := execT Z0.G (stepOp Z0.T Z0.G Z0.mvs k) Z7 7 #[true, true, true, true, true, true, true, true, true, true, true, false, false, false, false, false, false, false] ⟨sets (Z1r o8) [(79, TV.sv (SV.at (J0 z26.1))), (80, TV.sv (SV.at (At.ep 8 T3 z26.1 0))), (81, TV.sv (SV.agg [J0 (Prod.fst (List.getD o8 (Int.toNat z26.1) ((0 : Int), (0 : Int), (0 : Int)))), J0 (Prod.fst (Prod.snd (List.getD o8 (Int.toNat z26.1) ((0 : Int), (0 : Int), (0 : Int))))), J0 (Prod.snd (Prod.snd (List.getD o8 (Int.toNat z26.1) ((0 : Int), (0 : Int), (0 : Int)))))])), (85, Z2L o8)], [Ob.ro, Ob.box 114 [At.sl 2, J0 z26.2.1, At.int IntKind.u64 z26.2.2], ZV o2, ZX b3_0 b3_1, Z11 o4, ZY b5_0 b5_1, ZU o6, ZW o7, ZZ o8]⟩ (outK Z0 Z5)
theorem ZF7 (z26 : Int × Int × Int) : ZAK k o2 b3_0 b3_1 o4 b5_0 b5_1 o6 o7 o8 z26 = joinL (Option.bind (Z2 k (o2, Prod.fst z26.2, Prod.snd z26.2) (↑(List.length o8) : Int)) fun z27 => if (0 : Int) ≤ Prod.fst z27 then if Prod.fst z27 < (↑(List.length o8) : Int) then ZAN k o2 b3_0 b3_1 o4 b5_0 b5_1 o6 o7 o8 z26 z27 else none else none) (joinL (ZxZ k o2 b3_0 b3_1 o4 b5_0 b5_1 o6 o7 o8 z26) (Zxl k o2 b3_0 b3_1 o4 b5_0 b5_1 o6 o7 o8 z26)) := by kernel_rfl
theorem ZDL (z26 : Int × Int × Int) : ZAK k o2 b3_0 b3_1 o4 b5_0 b5_1 o6 o7 o8 z26 = repl 18 (Zu k o2 b3_0 b3_1 o4 b5_0 b5_1 o6 o7 o8 z26) := by
 rw [ZF7]
 simp only [ZDV, ZBe, ZBa, Zx, Zu, ZG, Zb, Zg, Zc, Za, Z9, Z8, if_true]
noncomputable def ZAM (z26 : Int × Int × Int) : Option (List Z1c) := execT Z0.G (stepOp Z0.T Z0.G Z0.mvs k) Z7 7 #[true, true, true, true, true, true, true, true, true, true, false, false, false, false, true, false, false, false] ⟨sets (Z1r o8) [(10, P0 9), (79, TV.sv (SV.at (J0 z26.1))), (80, TV.sv (SV.at (At.ep 8 T3 z26.1 0))), (81, TV.sv (SV.agg [J0 (Prod.fst (List.getD o8 (Int.toNat z26.1) ((0 : Int), (0 : Int), (0 : Int)))), J0 (Prod.fst (Prod.snd (List.getD o8 (Int.toNat z26.1) ((0 : Int), (0 : Int), (0 : Int))))), J0 (Prod.snd (Prod.snd (List.getD o8 (Int.toNat z26.1) ((0 : Int), (0 : Int), (0 : Int)))))]))], [Ob.ro, Ob.box 114 [At.sl 2, J0 z26.2.1, At.int IntKind.u64 z26.2.2], ZV o2, ZX b3_0 b3_1, Z11 o4, ZY b5_0 b5_1, ZU o6, ZW o7, ZZ o8, Z12]⟩ (outK Z0 Z5)
theorem ZF2 (z26 : Int × Int × Int) : ZAM k o2 b3_0 b3_1 o4 b5_0 b5_1 o6 o7 o8 z26 = joinL (ZxZ k o2 b3_0 b3_1 o4 b5_0 b5_1 o6 o7 o8 z26) (Option.bind (Z2 k (o2, Prod.fst z26.2, Prod.snd z26.2) (↑(List.length o8) : Int)) fun z35 => if (0 : Int) ≤ Prod.fst z35 then if Prod.fst z35 < (↑(List.length o8) : Int) then ZkO k o2 b3_0 b3_1 o4 b5_0 b5_1 o6 o7 o8 z26 z35 else none else none) := by kernel_rfl
theorem ZDQ (z26 : Int × Int × Int) : ZAM k o2 b3_0 b3_1 o4 b5_0 b5_1 o6 o7 o8 z26 = repl 7 (Zu k o2 b3_0 b3_1 o4 b5_0 b5_1 o6 o7 o8 z26) := by
 rw [ZF2]
 simp only [ZBe, Znf, Zx, Zu, ZG, Zb, Zg, Zc, Za, Z9, Z8, if_true]
noncomputable def Zy1 (z26 : Int × Int × Int) : Option (List Z1c) := execT Z0.G (stepOp Z0.T Z0.G Z0.mvs k) Z7 7 #[true, true, true, true, true, true, true, true, true, true, false, false, false, false, false, true, false, false] ⟨sets (Z1r o8) [(11, P0 9), (79, TV.sv (SV.at (J0 z26.1))), (80, TV.sv (SV.at (At.ep 8 T3 z26.1 0))), (81, TV.sv (SV.agg [J0 (Prod.fst (List.getD o8 (Int.toNat z26.1) ((0 : Int), (0 : Int), (0 : Int)))), J0 (Prod.fst (Prod.snd (List.getD o8 (Int.toNat z26.1) ((0 : Int), (0 : Int), (0 : Int))))), J0 (Prod.snd (Prod.snd (List.getD o8 (Int.toNat z26.1) ((0 : Int), (0 : Int), (0 : Int)))))]))], [Ob.ro, Ob.box 114 [At.sl 2, J0 z26.2.1, At.int IntKind.u64 z26.2.2], ZV o2, ZX b3_0 b3_1, Z11 o4, ZY b5_0 b5_1, ZU o6, ZW o7, ZZ o8, Z12]⟩ (outK Z0 Z5)
theorem ZEL (z26 : Int × Int × Int) : Zy1 k o2 b3_0 b3_1 o4 b5_0 b5_1 o6 o7 o8 z26 = joinL (Zxl k o2 b3_0 b3_1 o4 b5_0 b5_1 o6 o7 o8 z26) (Option.bind (Z2 k (o2, Prod.fst z26.2, Prod.snd z26.2) (↑(List.length o8) : Int)) fun z37 => if (0 : Int) ≤ Prod.fst z37 then if Prod.fst z37 < (↑(List.length o8) : Int) then ZkU k o2 b3_0 b3_1 o4 b5_0 b5_1 o6 o7 o8 z26 z37 else none else none) := by kernel_rfl
theorem ZCO (z26 : Int × Int × Int) : Zy1 k o2 b3_0 b3_1 o4 b5_0 b5_1 o6 o7 o8 z26 = repl 7 (Zu k o2 b3_0 b3_1 o4 b5_0 b5_1 o6 o7 o8 z26) := by
 rw [ZEL]
 simp only [ZBa, ZmM, Zx, Zu, ZG, Zb, Zg, Zc, Za, Z9, Z8, if_true]
noncomputable def ZBG (z26 : Int × Int × Int) : Option (List Z1c) := execT Z0.G (stepOp Z0.T Z0.G Z0.mvs k) Z7 8 #[true, true, true, true, true, true, true, true, true, true, false, false, false, false, false, false, false, false] ⟨sets (Z1r o8) [(79, TV.sv (SV.at (J0 z26.1))), (80, TV.sv (SV.at (At.ep 8 T3 z26.1 0))), (81, TV.sv (SV.agg [J0 (Prod.fst (List.getD o8 (Int.toNat z26.1) ((0 : Int), (0 : Int), (0 : Int)))), J0 (Prod.fst (Prod.snd (List.getD o8 (Int.toNat z26.1) ((0 : Int), (0 : Int), (0 : Int))))), J0 (Prod.snd (Prod.snd (List.getD o8 (Int.toNat z26.1) ((0 : Int), (0 : Int), (0 : Int)))))]))], [Ob.ro, Ob.box 114 [At.sl 2, J0 z26.2.1, At.int IntKind.u64 z26.2.2], ZV o2, ZX b3_0 b3_1, Z11 o4, ZY b5_0 b5_1, ZU o6, ZW o7, ZZ o8]⟩ (outK Z0 Z5)
theorem ZEv (z26 : Int × Int × Int) : ZBG k o2 b3_0 b3_1 o4 b5_0 b5_1 o6 o7 o8 z26 = joinL (ZAK k o2 b3_0 b3_1 o4 b5_0 b5_1 o6 o7 o8 z26) (joinL (ZAM k o2 b3_0 b3_1 o4 b5_0 b5_1 o6 o7 o8 z26) (Zy1 k o2 b3_0 b3_1 o4 b5_0 b5_1 o6 o7 o8 z26)) := by kernel_rfl
theorem ZEC (z26 : Int × Int × Int) : ZBG k o2 b3_0 b3_1 o4 b5_0 b5_1 o6 o7 o8 z26 = repl 32 (Zu k o2 b3_0 b3_1 o4 b5_0 b5_1 o6 o7 o8 z26) := by
 rw [ZEv]
 simp only [ZDL, ZDQ, ZCO, Zx, Zu, ZG, Zb, Zg, Zc, Za, Z9, Z8, if_true]
noncomputable def Zxr (z26 : Int × Int × Int) (z40 : Int × Int × Int) : Option (List Z1c) := execT Z0.G (stepOp Z0.T Z0.G Z0.mvs k) Z7 4 #[true, true, true, true, true, true, false, true, true, true, true, true, true, true, true, false, false, false] ⟨sets (Z1r o8) [(10, P0 9), (79, TV.sv (SV.at (J0 z26.1))), (80, TV.sv (SV.at (At.ep 8 T3 z26.1 0))), (85, Z2L o8), (86, TV.sv (SV.at (J0 z40.1))), (87, TV.sv (SV.at (At.ep 8 T3 z40.1 0))), (88, TV.sv (SV.agg [J0 (Prod.fst (List.getD o8 (Int.toNat z40.1) ((0 : Int), (0 : Int), (0 : Int)))), J0 (Prod.fst (Prod.snd (List.getD o8 (Int.toNat z40.1) ((0 : Int), (0 : Int), (0 : Int))))), J0 (Prod.snd (Prod.snd (List.getD o8 (Int.toNat z40.1) ((0 : Int), (0 : Int), (0 : Int)))))]))], [Ob.ro, Ob.box 114 [At.sl 2, J0 z40.2.1, At.int IntKind.u64 z40.2.2], ZV o2, ZX b3_0 b3_1, Z11 o4, ZY b5_0 b5_1, ZU o6, ZW o7, ZZ o8, Z12]⟩ (outK Z0 Z5)
theorem ZEE (z26 : Int × Int × Int) (z40 : Int × Int × Int) : Zxr k o2 b3_0 b3_1 o4 b5_0 b5_1 o6 o7 o8 z26 z40 = joinL (some [(Prod.fst z40.2, Prod.snd z40.2, o2, b3_0, b3_1, o4, b5_0, b5_1, o6, o7, Prod.fst (List.getD o8 (Int.toNat z26.1) ((0 : Int), (0 : Int), (0 : Int))), Prod.fst (Prod.snd (List.getD o8 (Int.toNat z26.1) ((0 : Int), (0 : Int), (0 : Int)))), Prod.snd (Prod.snd (List.getD o8 (Int.toNat z26.1) ((0 : Int), (0 : Int), (0 : Int)))), Prod.fst (List.getD o8 (Int.toNat z40.1) ((0 : Int), (0 : Int), (0 : Int))), Prod.fst (Prod.snd (List.getD o8 (Int.toNat z40.1) ((0 : Int), (0 : Int), (0 : Int)))), Prod.snd (Prod.snd (List.getD o8 (Int.toNat z40.1) ((0 : Int), (0 : Int), (0 : Int)))))]) (some [(Prod.fst z40.2, Prod.snd z40.2, o2, b3_0, b3_1, o4, b5_0, b5_1, o6, o7, Prod.fst (List.getD o8 (Int.toNat z26.1) ((0 : Int), (0 : Int), (0 : Int))), Prod.fst (Prod.snd (List.getD o8 (Int.toNat z26.1) ((0 : Int), (0 : Int), (0 : Int)))), Prod.snd (Prod.snd (List.getD o8 (Int.toNat z26.1) ((0 : Int), (0 : Int), (0 : Int)))), Prod.fst (List.getD o8 (Int.toNat z40.1) ((0 : Int), (0 : Int), (0 : Int))), Prod.fst (Prod.snd (List.getD o8 (Int.toNat z40.1) ((0 : Int), (0 : Int), (0 : Int)))), Prod.snd (Prod.snd (List.getD o8 (Int.toNat z40.1) ((0 : Int), (0 : Int), (0 : Int)))))]) := by kernel_rfl
theorem ZD0 (z26 : Int × Int × Int) (z40 : Int × Int × Int) : Zxr k o2 b3_0 b3_1 o4 b5_0 b5_1 o6 o7 o8 z26 z40 = repl 2 (Zx k o2 b3_0 b3_1 o4 b5_0 b5_1 o6 o7 o8 z40 z26) := by
 rw [ZEE]
 simp only [Zx, Zu, ZG, Zb, Zg, Zc, Za, Z9, Z8, if_true]
noncomputable def ZxC (z26 : Int × Int × Int) (z40 : Int × Int × Int) : Option (List Z1c) := execT Z0.G (stepOp Z0.T Z0.G Z0.mvs k) Z7 4 #[true, true, true, true, true, true, false, true, true, true, true, true, true, true, false, true, false, false] ⟨sets (Z1r o8) [(11, P0 9), (79, TV.sv (SV.at (J0 z26.1))), (80, TV.sv (SV.at (At.ep 8 T3 z26.1 0))), (85, Z2L o8), (86, TV.sv (SV.at (J0 z40.1))), (87, TV.sv (SV.at (At.ep 8 T3 z40.1 0))), (88, TV.sv (SV.agg [J0 (Prod.fst (List.getD o8 (Int.toNat z40.1) ((0 : Int), (0 : Int), (0 : Int)))), J0 (Prod.fst (Prod.snd (List.getD o8 (Int.toNat z40.1) ((0 : Int), (0 : Int), (0 : Int))))), J0 (Prod.snd (Prod.snd (List.getD o8 (Int.toNat z40.1) ((0 : Int), (0 : Int), (0 : Int)))))]))], [Ob.ro, Ob.box 114 [At.sl 2, J0 z40.2.1, At.int IntKind.u64 z40.2.2], ZV o2, ZX b3_0 b3_1, Z11 o4, ZY b5_0 b5_1, ZU o6, ZW o7, ZZ o8, Z12]⟩ (outK Z0 Z5)
theorem ZEj (z26 : Int × Int × Int) (z40 : Int × Int × Int) : ZxC k o2 b3_0 b3_1 o4 b5_0 b5_1 o6 o7 o8 z26 z40 = joinL (some [(Prod.fst z40.2, Prod.snd z40.2, o2, b3_0, b3_1, o4, b5_0, b5_1, o6, o7, Prod.fst (List.getD o8 (Int.toNat z26.1) ((0 : Int), (0 : Int), (0 : Int))), Prod.fst (Prod.snd (List.getD o8 (Int.toNat z26.1) ((0 : Int), (0 : Int), (0 : Int)))), Prod.snd (Prod.snd (List.getD o8 (Int.toNat z26.1) ((0 : Int), (0 : Int), (0 : Int)))), Prod.fst (List.getD o8 (Int.toNat z40.1) ((0 : Int), (0 : Int), (0 : Int))), Prod.fst (Prod.snd (List.getD o8 (Int.toNat z40.1) ((0 : Int), (0 : Int), (0 : Int)))), Prod.snd (Prod.snd (List.getD o8 (Int.toNat z40.1) ((0 : Int), (0 : Int), (0 : Int)))))]) (some [(Prod.fst z40.2, Prod.snd z40.2, o2, b3_0, b3_1, o4, b5_0, b5_1, o6, o7, Prod.fst (List.getD o8 (Int.toNat z26.1) ((0 : Int), (0 : Int), (0 : Int))), Prod.fst (Prod.snd (List.getD o8 (Int.toNat z26.1) ((0 : Int), (0 : Int), (0 : Int)))), Prod.snd (Prod.snd (List.getD o8 (Int.toNat z26.1) ((0 : Int), (0 : Int), (0 : Int)))), Prod.fst (List.getD o8 (Int.toNat z40.1) ((0 : Int), (0 : Int), (0 : Int))), Prod.fst (Prod.snd (List.getD o8 (Int.toNat z40.1) ((0 : Int), (0 : Int), (0 : Int)))), Prod.snd (Prod.snd (List.getD o8 (Int.toNat z40.1) ((0 : Int), (0 : Int), (0 : Int)))))]) := by kernel_rfl
theorem ZD1 (z26 : Int × Int × Int) (z40 : Int × Int × Int) : ZxC k o2 b3_0 b3_1 o4 b5_0 b5_1 o6 o7 o8 z26 z40 = repl 2 (Zx k o2 b3_0 b3_1 o4 b5_0 b5_1 o6 o7 o8 z40 z26) := by
 rw [ZEj]
 simp only [Zx, Zu, ZG, Zb, Zg, Zc, Za, Z9, Z8, if_true]
noncomputable def ZB7 (z26 : Int × Int × Int) (z40 : Int × Int × Int) : Option (List Z1c) := execT Z0.G (stepOp Z0.T Z0.G Z0.mvs k) Z7 5 #[true, true, true, true, true, true, false, true, true, true, true, true, true, true, false, false, false, false] ⟨sets (Z1r o8) [(79, TV.sv (SV.at (J0 z26.1))), (80, TV.sv (SV.at (At.ep 8 T3 z26.1 0))), (85, Z2L o8), (86, TV.sv (SV.at (J0 z40.1))), (87, TV.sv (SV.at (At.ep 8 T3 z40.1 0))), (88, TV.sv (SV.agg [J0 (Prod.fst (List.getD o8 (Int.toNat z40.1) ((0 : Int), (0 : Int), (0 : Int)))), J0 (Prod.fst (Prod.snd (List.getD o8 (Int.toNat z40.1) ((0 : Int), (0 : Int), (0 : Int))))), J0 (Prod.snd (Prod.snd (List.getD o8 (Int.toNat z40.1) ((0 : Int), (0 : Int), (0 : Int)))))]))], [Ob.ro, Ob.box 114 [At.sl 2, J0 z40.2.1, At.int IntKind.u64 z40.2.2], ZV o2, ZX b3_0 b3_1, Z11 o4, ZY b5_0 b5_1, ZU o6, ZW o7, ZZ o8]⟩ (outK Z0 Z5)
theorem ZEu (z26 : Int × Int × Int) (z40 : Int × Int × Int) : ZB7 k o2 b3_0 b3_1 o4 b5_0 b5_1 o6 o7 o8 z26 z40 = joinL (ZAL k o2 b3_0 b3_1 o4 b5_0 b5_1 o6 o7 o8 z26 z40) (joinL (Zxr k o2 b3_0 b3_1 o4 b5_0 b5_1 o6 o7 o8 z26 z40) (ZxC k o2 b3_0 b3_1 o4 b5_0 b5_1 o6 o7 o8 z26 z40)) := by kernel_rfl
theorem ZEy (z26 : Int × Int × Int) (z40 : Int × Int × Int) : ZB7 k o2 b3_0 b3_1 o4 b5_0 b5_1 o6 o7 o8 z26 z40 = repl 6 (Zx k o2 b3_0 b3_1 o4 b5_0 b5_1 o6 o7 o8 z40 z26) := by
 rw [ZEu]
 simp only [ZDB, ZD0, ZD1, Zx, Zu, ZG, Zb, Zg, Zc, Za, Z9, Z8, if_true]
noncomputable def ZxG (z26 : Int × Int × Int) (z40 : Int × Int × Int) : Option (List Z1c) := execT Z0.G (stepOp Z0.T Z0.G Z0.mvs k) Z7 4 #[true, true, true, true, true, true, false, true, true, true, true, true, true, false, true, true, false, false] ⟨sets (Z1r o8) [(10, P0 9), (11, P0 10), (79, TV.sv (SV.at (J0 z26.1))), (80, TV.sv (SV.at (At.ep 8 T3 z26.1 0))), (85, Z2L o8), (86, TV.sv (SV.at (J0 z40.1))), (87, TV.sv (SV.at (At.ep 8 T3 z40.1 0)))], [Ob.ro, Ob.box 114 [At.sl 2, J0 z40.2.1, At.int IntKind.u64 z40.2.2], ZV o2, ZX b3_0 b3_1, Z11 o4, ZY b5_0 b5_1, ZU o6, ZW o7, ZZ o8, Z12, Z12]⟩ (outK Z0 Z5)
theorem ZEQ (z26 : Int × Int × Int) (z40 : Int × Int × Int) : ZxG k o2 b3_0 b3_1 o4 b5_0 b5_1 o6 o7 o8 z26 z40 = joinL (ZkO k o2 b3_0 b3_1 o4 b5_0 b5_1 o6 o7 o8 z26 z40) (some [(Prod.fst z40.2, Prod.snd z40.2, o2, b3_0, b3_1, o4, b5_0, b5_1, o6, o7, Prod.fst (List.getD o8 (Int.toNat z26.1) ((0 : Int), (0 : Int), (0 : Int))), Prod.fst (Prod.snd (List.getD o8 (Int.toNat z26.1) ((0 : Int), (0 : Int), (0 : Int)))), Prod.snd (Prod.snd (List.getD o8 (Int.toNat z26.1) ((0 : Int), (0 : Int), (0 : Int)))), Prod.fst (List.getD o8 (Int.toNat z40.1) ((0 : Int), (0 : Int), (0 : Int))), Prod.fst (Prod.snd (List.getD o8 (Int.toNat z40.1) ((0 : Int), (0 : Int), (0 : Int)))), Prod.snd (Prod.snd (List.getD o8 (Int.toNat z40.1) ((0 : Int), (0 : Int), (0 : Int)))))]) := by kernel_rfl
theorem ZCP (z26 : Int × Int × Int) (z40 : Int × Int × Int) : ZxG k o2 b3_0 b3_1 o4 b5_0 b5_1 o6 o7 o8 z26 z40 = repl 3 (Zx k o2 b3_0 b3_1 o4 b5_0 b5_1 o6 o7 o8 z40 z26) := by
 rw [ZEQ]
 simp only [Znf, Zx, Zu, ZG, Zb, Zg, Zc, Za, Z9, Z8, if_true]
noncomputable def ZxH (z26 : Int × Int × Int) (z40 : Int × Int × Int) : Option (List Z1c) := execT Z0.G (stepOp Z0.T Z0.G Z0.mvs k) Z7 5 #[true, true, true, true, true, true, false, true, true, true, true, true, true, false, true, false, false, false] ⟨sets (Z1r o8) [(10, P0 9), (79, TV.sv (SV.at (J0 z26.1))), (80, TV.sv (SV.at (At.ep 8 T3 z26.1 0))), (85, Z2L o8), (86, TV.sv (SV.at (J0 z40.1))), (87, TV.sv (SV.at (At.ep 8 T3 z40.1 0)))], [Ob.ro, Ob.box 114 [At.sl 2, J0 z40.2.1, At.int IntKind.u64 z40.2.2], ZV o2, ZX b3_0 b3_1, Z11 o4, ZY b5_0 b5_1, ZU o6, ZW o7, ZZ o8, Z12]⟩ (outK Z0 Z5)
theorem ZEJ (z26 : Int × Int × Int) (z40 : Int × Int × Int) : ZxH k o2 b3_0 b3_1 o4 b5_0 b5_1 o6 o7 o8 z26 z40 = joinL (ZxL k o2 b3_0 b3_1 o4 b5_0 b5_1 o6 o7 o8 z26 z40) (joinL (Zxr k o2 b3_0 b3_1 o4 b5_0 b5_1 o6 o7 o8 z26 z40) (ZxG k o2 b3_0 b3_1 o4 b5_0 b5_1 o6 o7 o8 z26 z40)) := by kernel_rfl
theorem ZCE (z26 : Int × Int × Int) (z40 : Int × Int × Int) : ZxH k o2 b3_0 b3_1 o4 b5_0 b5_1 o6 o7 o8 z26 z40 = repl 8 (Zx k o2 b3_0 b3_1 o4 b5_0 b5_1 o6 o7 o8 z40 z26) := by
 rw [ZEJ]
 simp only [ZBx, ZD0, ZCP, Zx, Zu, ZG, Zb, Zg, Zc, Za, Z9, Z8, if_true]
noncomputable def ZxB (z26 : Int × Int × Int) (z40 : Int × Int × Int) : Option (List Z1c) := execT Z0.G (stepOp Z0.T Z0.G Z0.mvs k) Z7 4 #[true, true, true, true, true, true, false, true, true, true, true, true, true, false, true, true, false, false] ⟨sets (Z1r o8) [(10, P0 10), (11, P0 9), (79, TV.sv (SV.at (J0 z26.1))), (80, TV.sv (SV.at (At.ep 8 T3 z26.1 0))), (85, Z2L o8), (86, TV.sv (SV.at (J0 z40.1))), (87, TV.sv (SV.at (At.ep 8 T3 z40.1 0)))], [Ob.ro, Ob.box 114 [At.sl 2, J0 z40.2.1, At.int IntKind.u64 z40.2.2], ZV o2, ZX b3_0 b3_1, Z11 o4, ZY b5_0 b5_1, ZU o6, ZW o7, ZZ o8, Z12, Z12]⟩ (outK Z0 Z5)
theorem ZEM (z26 : Int × Int × Int) (z40 : Int × Int × Int) : ZxB k o2 b3_0 b3_1 o4 b5_0 b5_1 o6 o7 o8 z26 z40 = joinL (ZkU k o2 b3_0 b3_1 o4 b5_0 b5_1 o6 o7 o8 z26 z40) (some [(Prod.fst z40.2, Prod.snd z40.2, o2, b3_0, b3_1, o4, b5_0, b5_1, o6, o7, Prod.fst (List.getD o8 (Int.toNat z26.1) ((0 : Int), (0 : Int), (0 : Int))), Prod.fst (Prod.snd (List.getD o8 (Int.toNat z26.1) ((0 : Int), (0 : Int), (0 : Int)))), Prod.snd (Prod.snd (List.getD o8 (Int.toNat z26.1) ((0 : Int), (0 : Int), (0 : Int)))), Prod.fst (List.getD o8 (Int.toNat z40.1) ((0 : Int), (0 : Int), (0 : Int))), Prod.fst (Prod.snd (List.getD o8 (Int.toNat z40.1) ((0 : Int), (0 : Int), (0 : Int)))), Prod.snd (Prod.snd (List.getD o8 (Int.toNat z40.1) ((0 : Int), (0 : Int), (0 : Int)))))]) := by kernel_rfl
theorem ZCZ (z26 : Int × Int × Int) (z40 : Int × Int × Int) : ZxB k o2 b3_0 b3_1 o4 b5_0 b5_1 o6 o7 o8 z26 z40 = repl 3 (Zx k o2 b3_0 b3_1 o4 b5_0 b5_1 o6 o7 o8 z40 z26) := by
 rw [ZEM]
 simp only [ZmM, Zx, Zu, ZG, Zb, Zg, Zc, Za, Z9, Z8, if_true]
noncomputable def Zyz (z26 : Int × Int × Int) (z40 : Int × Int × Int) : Option (List Z1c) := execT Z0.G (stepOp Z0.T Z0.G Z0.mvs k) Z7 5 #[true, true, true, true, true, true, false, true, true, true, true, true, true, false, false, true, false, false] ⟨sets (Z1r o8) [(11, P0 9), (79, TV.sv (SV.at (J0 z26.1))), (80, TV.sv (SV.at (At.ep 8 T3 z26.1 0))), (85, Z2L o8), (86, TV.sv (SV.at (J0 z40.1))), (87, TV.sv (SV.at (At.ep 8 T3 z40.1 0)))], [Ob.ro, Ob.box 114 [At.sl 2, J0 z40.2.1, At.int IntKind.u64 z40.2.2], ZV o2, ZX b3_0 b3_1, Z11 o4, ZY b5_0 b5_1, ZU o6, ZW o7, ZZ o8, Z12]⟩ (outK Z0 Z5)
theorem ZEz (z26 : Int × Int × Int) (z40 : Int × Int × Int) : Zyz k o2 b3_0 b3_1 o4 b5_0 b5_1 o6 o7 o8 z26 z40 = joinL (Zya k o2 b3_0 b3_1 o4 b5_0 b5_1 o6 o7 o8 z26 z40) (joinL (ZxC k o2 b3_0 b3_1 o4 b5_0 b5_1 o6 o7 o8 z26 z40) (ZxB k o2 b3_0 b3_1 o4 b5_0 b5_1 o6 o7 o8 z26 z40)) := by kernel_rfl
theorem ZCU (z26 : Int × Int × Int) (z40 : Int × Int × Int) : Zyz k o2 b3_0 b3_1 o4 b5_0 b5_1 o6 o7 o8 z26 z40 = repl 8 (Zx k o2 b3_0 b3_1 o4 b5_0 b5_1 o6 o7 o8 z40 z26) := by
 rw [ZEz]
 simp only [ZAT, ZD1, ZCZ, Zx, Zu, ZG, Zb, Zg, Zc, Za, Z9, Z8, if_true]
noncomputable def ZBo (z26 : Int × Int × Int) (z40 : Int × Int × Int) : Option (List Z1c) := execT Z0.G (stepOp Z0.T Z0.G Z0.mvs k) Z7 6 #[true, true, true, true, true, true, false, true, true, true, true, true, true, false, false, false, false, false] ⟨sets (Z1r o8) [(79, TV.sv (SV.at (J0 z26.1))), (80, TV.sv (SV.at (At.ep 8 T3 z26.1 0))), (85, Z2L o8), (86, TV.sv (SV.at (J0 z40.1))), (87, TV.sv (SV.at (At.ep 8 T3 z40.1 0)))], [Ob.ro, Ob.box 114 [At.sl 2, J0 z40.2.1, At.int IntKind.u64 z40.2.2], ZV o2, ZX b3_0 b3_1, Z11 o4, ZY b5_0 b5_1, ZU o6, ZW o7, ZZ o8]⟩ (outK Z0 Z5)
theorem ZEA (z26 : Int × Int × Int) (z40 : Int × Int × Int) : ZBo k o2 b3_0 b3_1 o4 b5_0 b5_1 o6 o7 o8 z26 z40 = joinL (ZAN k o2 b3_0 b3_1 o4 b5_0 b5_1 o6 o7 o8 z26 z40) (joinL (ZB7 k o2 b3_0 b3_1 o4 b5_0 b5_1 o6 o7 o8 z26 z40) (joinL (ZxH k o2 b3_0 b3_1 o4 b5_0 b5_1 o6 o7 o8 z26 z40) (Zyz k o2 b3_0 b3_1 o4 b5_0 b5_1 o6 o7 o8 z26 z40))) := by kernel_rfl
theorem ZES (z26 : Int × Int × Int) (z40 : Int × Int × Int) : ZBo k o2 b3_0 b3_1 o4 b5_0 b5_1 o6 o7 o8 z26 z40 = repl 30 (Zx k o2 b3_0 b3_1 o4 b5_0 b5_1 o6 o7 o8 z40 z26) := by
 rw [ZEA]
 simp only [ZDV, ZEy, ZCE, ZCU, Zx, Zu, ZG, Zb, Zg, Zc, Za, Z9, Z8, if_true]
noncomputable def ZnA (z26 : Int × Int × Int) : Option (List Z1c) := execT Z0.G (stepOp Z0.T Z0.G Z0.mvs k) Z7 6 #[true, true, true, true, true, true, false, true, true, true, true, false, false, false, true, true, false, false] ⟨sets (Z1r o8) [(10, P0 9), (11, P0 10), (79, TV.sv (SV.at (J0 z26.1))), (80, TV.sv (SV.at (At.ep 8 T3 z26.1 0))), (85, Z2L o8)], [Ob.ro, Ob.box 114 [At.sl 2, J0 z26.2.1, At.int IntKind.u64 z26.2.2], ZV o2, ZX b3_0 b3_1, Z11 o4, ZY b5_0 b5_1, ZU o6, ZW o7, ZZ o8, Z12, Z12]⟩ (outK Z0 Z5)
theorem ZEr (z26 : Int × Int × Int) : ZnA k o2 b3_0 b3_1 o4 b5_0 b5_1 o6 o7 o8 z26 = joinL (Option.bind (Z2 k (o2, Prod.fst z26.2, Prod.snd z26.2) (↑(List.length o8) : Int)) fun z42 => if (0 : Int) ≤ Prod.fst z42 then if Prod.fst z42 < (↑(List.length o8) : Int) then ZkO k o2 b3_0 b3_1 o4 b5_0 b5_1 o6 o7 o8 z26 z42 else none else none) (Option.bind (Z2 k (o2, Prod.fst z26.2, Prod.snd z26.2) (↑(List.length o8) : Int)) fun z43 => if (0 : Int) ≤ Prod.fst z43 then if Prod.fst z43 < (↑(List.length o8) : Int) then ZxG k o2 b3_0 b3_1 o4 b5_0 b5_1 o6 o7 o8 z26 z43 else none else none) := by kernel_rfl
theorem Ztx (z26 : Int × Int × Int) : ZnA k o2 b3_0 b3_1 o4 b5_0 b5_1 o6 o7 o8 z26 = repl 5 (Zu k o2 b3_0 b3_1 o4 b5_0 b5_1 o6 o7 o8 z26) := by
 rw [ZEr]
 simp only [Znf, ZCP, Zx, Zu, ZG, Zb, Zg, Zc, Za, Z9, Z8, if_true]
noncomputable def Zsa (z26 : Int × Int × Int) : Option (List Z1c) := execT Z0.G (stepOp Z0.T Z0.G Z0.mvs k) Z7 7 #[true, true, true, true, true, true, false, true, true, true, true, false, false, false, true, false, false, false] ⟨sets (Z1r o8) [(10, P0 9), (79, TV.sv (SV.at (J0 z26.1))), (80, TV.sv (SV.at (At.ep 8 T3 z26.1 0))), (85, Z2L o8)], [Ob.ro, Ob.box 114 [At.sl 2, J0 z26.2.1, At.int IntKind.u64 z26.2.2], ZV o2, ZX b3_0 b3_1, Z11 o4, ZY b5_0 b5_1, ZU o6, ZW o7, ZZ o8, Z12]⟩ (outK Z0 Z5)
theorem ZEs (z26 : Int × Int × Int) : Zsa k o2 b3_0 b3_1 o4 b5_0 b5_1 o6 o7 o8 z26 = joinL (ZxZ k o2 b3_0 b3_1 o4 b5_0 b5_1 o6 o7 o8 z26) (joinL (Option.bind (Z2 k (o2, Prod.fst z26.2, Prod.snd z26.2) (↑(List.length o8) : Int)) fun z41 => if (0 : Int) ≤ Prod.fst z41 then if Prod.fst z41 < (↑(List.length o8) : Int) then ZxH k o2 b3_0 b3_1 o4 b5_0 b5_1 o6 o7 o8 z26 z41 else none else none) (ZnA k o2 b3_0 b3_1 o4 b5_0 b5_1 o6 o7 o8 z26)) := by kernel_rfl
theorem Zz1 (z26 : Int × Int × Int) : Zsa k o2 b3_0 b3_1 o4 b5_0 b5_1 o6 o7 o8 z26 = repl 18 (Zu k o2 b3_0 b3_1 o4 b5_0 b5_1 o6 o7 o8 z26) := by
 rw [ZEs]
 simp only [ZBe, ZCE, Ztx, Zx, Zu, ZG, Zb, Zg, Zc, Za, Z9, Z8, if_true]
noncomputable def Zmq (z26 : Int × Int × Int) : Option (List Z1c) := execT Z0.G (stepOp Z0.T Z0.G Z0.mvs k) Z7 6 #[true, true, true, true, true, true, false, true, true, true, true, false, false, false, true, true, false, false] ⟨sets (Z1r o8) [(10, P0 10), (11, P0 9), (79, TV.sv (SV.at (J0 z26.1))), (80, TV.sv (SV.at (At.ep 8 T3 z26.1 0))), (85, Z2L o8)], [Ob.ro, Ob.box 114 [At.sl 2, J0 z26.2.1, At.int IntKind.u64 z26.2.2], ZV o2, ZX b3_0 b3_1, Z11 o4, ZY b5_0 b5_1, ZU o6, ZW o7, ZZ o8, Z12, Z12]⟩ (outK Z0 Z5)
theorem ZEK (z26 : Int × Int × Int) : Zmq k o2 b3_0 b3_1 o4 b5_0 b5_1 o6 o7 o8 z26 = joinL (Option.bind (Z2 k (o2, Prod.fst z26.2, Prod.snd z26.2) (↑(List.length o8) : Int)) fun z47 => if (0 : Int) ≤ Prod.fst z47 then if Prod.fst z47 < (↑(List.length o8) : Int) then ZkU k o2 b3_0 b3_1 o4 b5_0 b5_1 o6 o7 o8 z26 z47 else none else none) (Option.bind (Z2 k (o2, Prod.fst z26.2, Prod.snd z26.2) (↑(List.length o8) : Int)) fun z48 => if (0 : Int) ≤ Prod.fst z48 then if Prod.fst z48 < (↑(List.length o8) : Int) then ZxB k o2 b3_0 b3_1 o4 b5_0 b5_1 o6 o7 o8 z26 z48 else none else none) := by kernel_rfl
theorem Ztu (z26 : Int × Int × Int) : Zmq k o2 b3_0 b3_1 o4 b5_0 b5_1 o6 o7 o8 z26 = repl 5 (Zu k o2 b3_0 b3_1 o4 b5_0 b5_1 o6 o7 o8 z26) := by
 rw [ZEK]
 simp only [ZmM, ZCZ, Zx, Zu, ZG, Zb, Zg, Zc, Za, Z9, Z8, if_true]
noncomputable def Ztm (z26 : Int × Int × Int) : Option (List Z1c) := execT Z0.G (stepOp Z0.T Z0.G Z0.mvs k) Z7 7 #[true, true, true, true, true, true, false, true, true, true, true, false, false, false, false, true, false, false] ⟨sets (Z1r o8) [(11, P0 9), (79, TV.sv (SV.at (J0 z26.1))), (80, TV.sv (SV.at (At.ep 8 T3 z26.1 0))), (85, Z2L o8)], [Ob.ro, Ob.box 114 [At.sl 2, J0 z26.2.1, At.int IntKind.u64 z26.2.2], ZV o2, ZX b3_0 b3_1, Z11 o4, ZY b5_0 b5_1, ZU o6, ZW o7, ZZ o8, Z12]⟩ (outK Z0 Z5)
theorem ZEt (z26 : Int × Int × Int) : Ztm k o2 b3_0 b3_1 o4 b5_0 b5_1 o6 o7 o8 z26 = joinL (Zxl k o2 b3_0 b3_1 o4 b5_0 b5_1 o6 o7 o8 z26) (joinL (Option.bind (Z2 k (o2, Prod.fst z26.2, Prod.snd z26.2) (↑(List.length o8) : Int)) fun z46 => if (0 : Int) ≤ Prod.fst z46 then if Prod.fst z46 < (↑(List.length o8) : Int) then Zyz k o2 b3_0 b3_1 o4 b5_0 b5_1 o6 o7 o8 z26 z46 else none else none) (Zmq k o2 b3_0 b3_1 o4 b5_0 b5_1 o6 o7 o8 z26)) := by kernel_rfl
theorem Zzp (z26 : Int × Int × Int) : Ztm k o2 b3_0 b3_1 o4 b5_0 b5_1 o6 o7 o8 z26 = repl 18 (Zu k o2 b3_0 b3_1 o4 b5_0 b5_1 o6 o7 o8 z26) := by
 rw [ZEt]
 simp only [ZBa, ZCU, Ztu, Zx, Zu, ZG, Zb, Zg, Zc, Za, Z9, Z8, if_true]
noncomputable def Zxe (z26 : Int × Int × Int) : Option (List Z1c) := execT Z0.G (stepOp Z0.T Z0.G Z0.mvs k) Z7 8 #[true, true, true, true, true, true, false, true, true, true, true, false, false, false, false, false, false, false] ⟨sets (Z1r o8) [(79, TV.sv (SV.at (J0 z26.1))), (80, TV.sv (SV.at (At.ep 8 T3 z26.1 0))), (85, Z2L o8)], [Ob.ro, Ob.box 114 [At.sl 2, J0 z26.2.1, At.int IntKind.u64 z26.2.2], ZV o2, ZX b3_0 b3_1, Z11 o4, ZY b5_0 b5_1, ZU o6, ZW o7, ZZ o8]⟩ (outK Z0 Z5)
theorem ZEU (z26 : Int × Int × Int) : Zxe k o2 b3_0 b3_1 o4 b5_0 b5_1 o6 o7 o8 z26 = joinL (ZAK k o2 b3_0 b3_1 o4 b5_0 b5_1 o6 o7 o8 z26) (joinL (Option.bind (Z2 k (o2, Prod.fst z26.2, Prod.snd z26.2) (↑(List.length o8) : Int)) fun z40 => if (0 : Int) ≤ Prod.fst z40 then if Prod.fst z40 < (↑(List.length o8) : Int) then ZBo k o2 b3_0 b3_1 o4 b5_0 b5_1 o6 o7 o8 z26 z40 else none else none) (joinL (Zsa k o2 b3_0 b3_1 o4 b5_0 b5_1 o6 o7 o8 z26) (Ztm k o2 b3_0 b3_1 o4 b5_0 b5_1 o6 o7 o8 z26))) := by kernel_rfl
theorem ZCY (z26 : Int × Int × Int) : Zxe k o2 b3_0 b3_1 o4 b5_0 b5_1 o6 o7 o8 z26 = repl 84 (Zu k o2 b3_0 b3_1 o4 b5_0 b5_1 o6 o7 o8 z26) := by
 rw [ZEU]
 simp only [ZDL, ZES, Zz1, Zzp, Zx, Zu, ZG, Zb, Zg, Zc, Za, Z9, Z8, if_true]
noncomputable def Zxo (z26 : Int × Int × Int) : Option (List Z1c) := execT Z0.G (stepOp Z0.T Z0.G Z0.mvs k) Z7 7 #[true, true, true, true, true, true, false, true, true, true, false, false, false, false, true, true, false, false] ⟨sets (Z1r o8) [(10, P0 9), (11, P0 10), (79, TV.sv (SV.at (J0 z26.1))), (80, TV.sv (SV.at (At.ep 8 T3 z26.1 0)))], [Ob.ro, Ob.box 114 [At.sl 2, J0 z26.2.1, At.int IntKind.u64 z26.2.2], ZV o2, ZX b3_0 b3_1, Z11 o4, ZY b5_0 b5_1, ZU o6, ZW o7, ZZ o8, Z12, Z12]⟩ (outK Z0 Z5)
theorem ZEP (z26 : Int × Int × Int) : Zxo k o2 b3_0 b3_1 o4 b5_0 b5_1 o6 o7 o8 z26 = joinL (Option.bind (Z2 k (o2, Prod.fst z26.2, Prod.snd z26.2) (↑(List.length o8) : Int)) fun z52 => if (0 : Int) ≤ Prod.fst z52 then if Prod.fst z52 < (↑(List.length o8) : Int) then ZkO k o2 b3_0 b3_1 o4 b5_0 b5_1 o6 o7 o8 z26 z52 else none else none) (ZnA k o2 b3_0 b3_1 o4 b5_0 b5_1 o6 o7 o8 z26) := by kernel_rfl
theorem ZCR (z26 : Int × Int × Int) : Zxo k o2 b3_0 b3_1 o4 b5_0 b5_1 o6 o7 o8 z26 = repl 7 (Zu k o2 b3_0 b3_1 o4 b5_0 b5_1 o6 o7 o8 z26) := by
 rw [ZEP]
 simp only [Znf, Ztx, Zx, Zu, ZG, Zb, Zg, Zc, Za, Z9, Z8, if_true]
noncomputable def ZxQ (z26 : Int × Int × Int) : Option (List Z1c) := execT Z0.G (stepOp Z0.T Z0.G Z0.mvs k) Z7 8 #[true, true, true, true, true, true, false, true, true, true, false, false, false, false, true, false, false, false] ⟨sets (Z1r o8) [(10, P0 9), (79, TV.sv (SV.at (J0 z26.1))), (80, TV.sv (SV.at (At.ep 8 T3 z26.1 0)))], [Ob.ro, Ob.box 114 [At.sl 2, J0 z26.2.1, At.int IntKind.u64 z26.2.2], ZV o2, ZX b3_0 b3_1, Z11 o4, ZY b5_0 b5_1, ZU o6, ZW o7, ZZ o8, Z12]⟩ (outK Z0 Z5)
theorem ZEB (z26 : Int × Int × Int) : ZxQ k o2 b3_0 b3_1 o4 b5_0 b5_1 o6 o7 o8 z26 = joinL (ZAM k o2 b3_0 b3_1 o4 b5_0 b5_1 o6 o7 o8 z26) (joinL (Zsa k o2 b3_0 b3_1 o4 b5_0 b5_1 o6 o7 o8 z26) (Zxo k o2 b3_0 b3_1 o4 b5_0 b5_1 o6 o7 o8 z26)) := by kernel_rfl
theorem ZCG (z26 : Int × Int × Int) : ZxQ k o2 b3_0 b3_1 o4 b5_0 b5_1 o6 o7 o8 z26 = repl 32 (Zu k o2 b3_0 b3_1 o4 b5_0 b5_1 o6 o7 o8 z26) := by
 rw [ZEB]
 simp only [ZDQ, Zz1, ZCR, Zx, Zu, ZG, Zb, Zg, Zc, Za, Z9, Z8, if_true]
noncomputable def ZxU (z26 : Int × Int × Int) : Option (List Z1c) := execT Z0.G (stepOp Z0.T Z0.G Z0.mvs k) Z7 7 #[true, true, true, true, true, true, false, true, true, true, false, false, false, false, true, true, false, false] ⟨sets (Z1r o8) [(10, P0 10), (11, P0 9), (79, TV.sv (SV.at (J0 z26.1))), (80, TV.sv (SV.at (At.ep 8 T3 z26.1 0)))], [Ob.ro, Ob.box 114 [At.sl 2, J0 z26.2.1, At.int IntKind.u64 z26.2.2], ZV o2, ZX b3_0 b3_1, Z11 o4, ZY b5_0 b5_1, ZU o6, ZW o7, ZZ o8, Z12, Z12]⟩ (outK Z0 Z5)
theorem ZEV (z26 : Int × Int × Int) : ZxU k o2 b3_0 b3_1 o4 b5_0 b5_1 o6 o7 o8 z26 = joinL (Option.bind (Z2 k (o2, Prod.fst z26.2, Prod.snd z26.2) (↑(List.length o8) : Int)) fun z55 => if (0 : Int) ≤ Prod.fst z55 then if Prod.fst z55 < (↑(List.length o8) : Int) then ZkU k o2 b3_0 b3_1 o4 b5_0 b5_1 o6 o7 o8 z26 z55 else none else none) (Zmq k o2 b3_0 b3_1 o4 b5_0 b5_1 o6 o7 o8 z26) := by kernel_rfl
theorem ZCN (z26 : Int × Int × Int) : ZxU k o2 b3_0 b3_1 o4 b5_0 b5_1 o6 o7 o8 z26 = repl 7 (Zu k o2 b3_0 b3_1 o4 b5_0 b5_1 o6 o7 o8 z26) := by
 rw [ZEV]
 simp only [ZmM, Ztu, Zx, Zu, ZG, Zb, Zg, Zc, Za, Z9, Z8, if_true]
noncomputable def Zxq (z26 : Int × Int × Int) : Option (List Z1c) := execT Z0.G (stepOp Z0.T Z0.G Z0.mvs k) Z7 8 #[true, true, true, true, true, true, false, true, true, true, false, false, false, false, false, true, false, false] ⟨sets (Z1r o8) [(11, P0 9), (79, TV.sv (SV.at (J0 z26.1))), (80, TV.sv (SV.at (At.ep 8 T3 z26.1 0)))], [Ob.ro, Ob.box 114 [At.sl 2, J0 z26.2.1, At.int IntKind.u64 z26.2.2], ZV o2, ZX b3_0 b3_1, Z11 o4, ZY b5_0 b5_1, ZU o6, ZW o7, ZZ o8, Z12]⟩ (outK Z0 Z5)
theorem ZF0 (z26 : Int × Int × Int) : Zxq k o2 b3_0 b3_1 o4 b5_0 b5_1 o6 o7 o8 z26 = joinL (Zy1 k o2 b3_0 b3_1 o4 b5_0 b5_1 o6 o7 o8 z26) (joinL (Ztm k o2 b3_0 b3_1 o4 b5_0 b5_1 o6 o7 o8 z26) (ZxU k o2 b3_0 b3_1 o4 b5_0 b5_1 o6 o7 o8 z26)) := by kernel_rfl
theorem ZCV (z26 : Int × Int × Int) : Zxq k o2 b3_0 b3_1 o4 b5_0 b5_1 o6 o7 o8 z26 = repl 32 (Zu k o2 b3_0 b3_1 o4 b5_0 b5_1 o6 o7 o8 z26) := by
 rw [ZF0]
 simp only [ZCO, Zzp, ZCN, Zx, Zu, ZG, Zb, Zg, Zc, Za, Z9, Z8, if_true]
noncomputable def ZBn (z26 : Int × Int × Int) : Option (List Z1c) := execT Z0.G (stepOp Z0.T Z0.G Z0.mvs k) Z7 9 #[true, true, true, true, true, true, false, true, true, true, false, false, false, false, false, false, false, false] ⟨sets (Z1r o8) [(79, TV.sv (SV.at (J0 z26.1))), (80, TV.sv (SV.at (At.ep 8 T3 z26.1 0)))], [Ob.ro, Ob.box 114 [At.sl 2, J0 z26.2.1, At.int IntKind.u64 z26.2.2], ZV o2, ZX b3_0 b3_1, Z11 o4, ZY b5_0 b5_1, ZU o6, ZW o7, ZZ o8]⟩ (outK Z0 Z5)
theorem ZEH (z26 : Int × Int × Int) : ZBn k o2 b3_0 b3_1 o4 b5_0 b5_1 o6 o7 o8 z26 = joinL (ZBG k o2 b3_0 b3_1 o4 b5_0 b5_1 o6 o7 o8 z26) (joinL (Zxe k o2 b3_0 b3_1 o4 b5_0 b5_1 o6 o7 o8 z26) (joinL (ZxQ k o2 b3_0 b3_1 o4 b5_0 b5_1 o6 o7 o8 z26) (Zxq k o2 b3_0 b3_1 o4 b5_0 b5_1 o6 o7 o8 z26))) := by kernel_rfl
theorem ZEW (z26 : Int × Int × Int) : ZBn k o2 b3_0 b3_1 o4 b5_0 b5_1 o6 o7 o8 z26 = repl 180 (Zu k o2 b3_0 b3_1 o4 b5_0 b5_1 o6 o7 o8 z26) := by
 rw [ZEH]
 simp only [ZEC, ZCY, ZCG, ZCV, Zx, Zu, ZG, Zb, Zg, Zc, Za, Z9, Z8, if_true]
noncomputable def ZxP : Option (List Z1c) := execT Z0.G (stepOp Z0.T Z0.G Z0.mvs k) Z7 9 #[true, true, true, true, false, false, false, true, true, true, true, false, false, false, true, false, false, false] ⟨sets (Z1r o8) [(10, P0 9), (85, Z2L o8)], [Ob.ro, Zey b1_1 b1_2, ZV o2, ZX b3_0 b3_1, Z11 o4, ZY b5_0 b5_1, ZU o6, ZW o7, ZZ o8, Z12]⟩ (outK Z0 Z5)
theorem ZEl : ZxP k b1_1 b1_2 o2 b3_0 b3_1 o4 b5_0 b5_1 o6 o7 o8 = joinL (Option.bind (Z2 k (o2, b1_1, b1_2) (↑(List.length o8) : Int)) fun z60 => if (0 : Int) ≤ Prod.fst z60 then if Prod.fst z60 < (↑(List.length o8) : Int) then Zsa k o2 b3_0 b3_1 o4 b5_0 b5_1 o6 o7 o8 z60 else none else none) (Option.bind (Z2 k (o2, b1_1, b1_2) (↑(List.length o8) : Int)) fun z61 => if (0 : Int) ≤ Prod.fst z61 then if Prod.fst z61 < (↑(List.length o8) : Int) then ZnA k o2 b3_0 b3_1 o4 b5_0 b5_1 o6 o7 o8 z61 else none else none) := by kernel_rfl
theorem ZCX : ZxP k b1_1 b1_2 o2 b3_0 b3_1 o4 b5_0 b5_1 o6 o7 o8 = repl 23 (ZG k b1_1 b1_2 o2 b3_0 b3_1 o4 b5_0 b5_1 o6 o7 o8) := by
 rw [ZEl]
 simp only [Zz1, Ztx, Zx, Zu, ZG, Zb, Zg, Zc, Za, Z9, Z8, if_true]
noncomputable def ZxD : Option (List Z1c) := execT Z0.G (stepOp Z0.T Z0.G Z0.mvs k) Z7 9 #[true, true, true, true, false, false, false, true, true, true, true, false, false, false, false, true, false, false] ⟨sets (Z1r o8) [(11, P0 9), (85, Z2L o8)], [Ob.ro, Zey b1_1 b1_2, ZV o2, ZX b3_0 b3_1, Z11 o4, ZY b5_0 b5_1, ZU o6, ZW o7, ZZ o8, Z12]⟩ (outK Z0 Z5)
theorem ZEd : ZxD k b1_1 b1_2 o2 b3_0 b3_1 o4 b5_0 b5_1 o6 o7 o8 = joinL (Option.bind (Z2 k (o2, b1_1, b1_2) (↑(List.length o8) : Int)) fun z64 => if (0 : Int) ≤ Prod.fst z64 then if Prod.fst z64 < (↑(List.length o8) : Int) then Ztm k o2 b3_0 b3_1 o4 b5_0 b5_1 o6 o7 o8 z64 else none else none) (Option.bind (Z2 k (o2, b1_1, b1_2) (↑(List.length o8) : Int)) fun z65 => if (0 : Int) ≤ Prod.fst z65 then if Prod.fst z65 < (↑(List.length o8) : Int) then Zmq k o2 b3_0 b3_1 o4 b5_0 b5_1 o6 o7 o8 z65 else none else none) := by kernel_rfl
theorem ZD3 : ZxD k b1_1 b1_2 o2 b3_0 b3_1 o4 b5_0 b5_1 o6 o7 o8 = repl 23 (ZG k b1_1 b1_2 o2 b3_0 b3_1 o4 b5_0 b5_1 o6 o7 o8) := by
 rw [ZEd]
 simp only [Zzp, Ztu, Zx, Zu, ZG, Zb, Zg, Zc, Za, Z9, Z8, if_true]
noncomputable def ZBi : Option (List Z1c) := execT Z0.G (stepOp Z0.T Z0.G Z0.mvs k) Z7 10 #[true, true, true, true, false, false, false, true, true, true, true, false, false, false, false, false, false, false] ⟨sets (Z1r o8) [(85, Z2L o8)], [Ob.ro, Zey b1_1 b1_2, ZV o2, ZX b3_0 b3_1, Z11 o4, ZY b5_0 b5_1, ZU o6, ZW o7, ZZ o8]⟩ (outK Z0 Z5)
theorem ZEI : ZBi k b1_1 b1_2 o2 b3_0 b3_1 o4 b5_0 b5_1 o6 o7 o8 = joinL (Option.bind (Z2 k (o2, b1_1, b1_2) (↑(List.length o8) : Int)) fun z59 => if (0 : Int) ≤ Prod.fst z59 then if Prod.fst z59 < (↑(List.length o8) : Int) then Zxe k o2 b3_0 b3_1 o4 b5_0 b5_1 o6 o7 o8 z59 else none else none) (joinL (ZxP k b1_1 b1_2 o2 b3_0 b3_1 o4 b5_0 b5_1 o6 o7 o8) (ZxD k b1_1 b1_2 o2 b3_0 b3_1 o4 b5_0 b5_1 o6 o7 o8)) := by kernel_rfl
theorem ZED : ZBi k b1_1 b1_2 o2 b3_0 b3_1 o4 b5_0 b5_1 o6 o7 o8 = repl 130 (ZG k b1_1 b1_2 o2 b3_0 b3_1 o4 b5_0 b5_1 o6 o7 o8) := by
 rw [ZEI]
 simp only [ZCY, ZCX, ZD3, Zx, Zu, ZG, Zb, Zg, Zc, Za, Z9, Z8, if_true]
noncomputable def ZBw : Option (List Z1c) := execT Z0.G (stepOp Z0.T Z0.G Z0.mvs k) Z7 9 #[true, true, true, true, false, false, false, true, true, true, false, false, false, false, true, true, false, false] ⟨sets (Z1r o8) [(10, P0 9), (11, P0 10)], [Ob.ro, Zey b1_1 b1_2, ZV o2, ZX b3_0 b3_1, Z11 o4, ZY b5_0 b5_1, ZU o6, ZW o7, ZZ o8, Z12, Z12]⟩ (outK Z0 Z5)
theorem ZER : ZBw k b1_1 b1_2 o2 b3_0 b3_1 o4 b5_0 b5_1 o6 o7 o8 = joinL (Option.bind (Z2 k (o2, b1_1, b1_2) (↑(List.length o8) : Int)) fun z71 => if (0 : Int) ≤ Prod.fst z71 then if Prod.fst z71 < (↑(List.length o8) : Int) then Zxo k o2 b3_0 b3_1 o4 b5_0 b5_1 o6 o7 o8 z71 else none else none) (Option.bind (Z2 k (o2, b1_1, b1_2) (↑(List.length o8) : Int)) fun z72 => if (0 : Int) ≤ Prod.fst z72 then if Prod.fst z72 < (↑(List.length o8) : Int) then ZnA k o2 b3_0 b3_1 o4 b5_0 b5_1 o6 o7 o8 z72 else none else none) := by kernel_rfl
theorem ZEY : ZBw k b1_1 b1_2 o2 b3_0 b3_1 o4 b5_0 b5_1 o6 o7 o8 = repl 12 (ZG k b1_1 b1_2 o2 b3_0 b3_1 o4 b5_0 b5_1 o6 o7 o8) := by
 rw [ZER]
 simp only [ZCR, Ztx, Zx, Zu, ZG, Zb, Zg, Zc, Za, Z9, Z8, if_true]
noncomputable def ZBH : Option (List Z1c) := execT Z0.G (stepOp Z0.T Z0.G Z0.mvs k) Z7 10 #[true, true, true, true, false, false, false, true, true, true, false, false, false, false, true, false, false, false] ⟨sets (Z1r o8) [(10, P0 9)], [Ob.ro, Zey b1_1 b1_2, ZV o2, ZX b3_0 b3_1, Z11 o4, ZY b5_0 b5_1, ZU o6, ZW o7, ZZ o8, Z12]⟩ (outK Z0 Z5)
theorem ZEf : ZBH k b1_1 b1_2 o2 b3_0 b3_1 o4 b5_0 b5_1 o6 o7 o8 = joinL (Option.bind (Z2 k (o2, b1_1, b1_2) (↑(List.length o8) : Int)) fun z70 => if (0 : Int) ≤ Prod.fst z70 then if Prod.fst z70 < (↑(List.length o8) : Int) then ZxQ k o2 b3_0 b3_1 o4 b5_0 b5_1 o6 o7 o8 z70 else none else none) (joinL (ZxP k b1_1 b1_2 o2 b3_0 b3_1 o4 b5_0 b5_1 o6 o7 o8) (ZBw k b1_1 b1_2 o2 b3_0 b3_1 o4 b5_0 b5_1 o6 o7 o8)) := by kernel_rfl
theorem ZEk : ZBH k b1_1 b1_2 o2 b3_0 b3_1 o4 b5_0 b5_1 o6 o7 o8 = repl 67 (ZG k b1_1 b1_2 o2 b3_0 b3_1 o4 b5_0 b5_1 o6 o7 o8) := by
 rw [ZEf]
 simp only [ZCG, ZCX, ZEY, Zx, Zu, ZG, Zb, Zg, Zc, Za, Z9, Z8, if_true]
noncomputable def ZAO : Option (List Z1c) := execT Z0.G (stepOp Z0.T Z0.G Z0.mvs k) Z7 9 #[true, true, true, true, false, false, false, true, true, true, false, false, false, false, true, true, false, false] ⟨sets (Z1r o8) [(10, P0 10), (11, P0 9)], [Ob.ro, Zey b1_1 b1_2, ZV o2, ZX b3_0 b3_1, Z11 o4, ZY b5_0 b5_1, ZU o6, ZW o7, ZZ o8, Z12, Z12]⟩ (outK Z0 Z5)
theorem ZEi : ZAO k b1_1 b1_2 o2 b3_0 b3_1 o4 b5_0 b5_1 o6 o7 o8 = joinL (Option.bind (Z2 k (o2, b1_1, b1_2) (↑(List.length o8) : Int)) fun z78 => if (0 : Int) ≤ Prod.fst z78 then if Prod.fst z78 < (↑(List.length o8) : Int) then ZxU k o2 b3_0 b3_1 o4 b5_0 b5_1 o6 o7 o8 z78 else none else none) (Option.bind (Z2 k (o2, b1_1, b1_2) (↑(List.length o8) : Int)) fun z79 => if (0 : Int) ≤ Prod.fst z79 then if Prod.fst z79 < (↑(List.length o8) : Int) then Zmq k o2 b3_0 b3_1 o4 b5_0 b5_1 o6 o7 o8 z79 else none else none) := by kernel_rfl
theorem ZEp : ZAO k b1_1 b1_2 o2 b3_0 b3_1 o4 b5_0 b5_1 o6 o7 o8 = repl 12 (ZG k b1_1 b1_2 o2 b3_0 b3_1 o4 b5_0 b5_1 o6 o7 o8) := by
 rw [ZEi]
 simp only [ZCN, Ztu, Zx, Zu, ZG, Zb, Zg, Zc, Za, Z9, Z8, if_true]
noncomputable def ZB6 : Option (List Z1c) := execT Z0.G (stepOp Z0.T Z0.G Z0.mvs k) Z7 10 #[true, true, true, true, false, false, false, true, true, true, false, false, false, false, false, true, false, false] ⟨sets (Z1r o8) [(11, P0 9)], [Ob.ro, Zey b1_1 b1_2, ZV o2, ZX b3_0 b3_1, Z11 o4, ZY b5_0 b5_1, ZU o6, ZW o7, ZZ o8, Z12]⟩ (outK Z0 Z5)
theorem ZEX : ZB6 k b1_1 b1_2 o2 b3_0 b3_1 o4 b5_0 b5_1 o6 o7 o8 = joinL (Option.bind (Z2 k (o2, b1_1, b1_2) (↑(List.length o8) : Int)) fun z77 => if (0 : Int) ≤ Prod.fst z77 then if Prod.fst z77 < (↑(List.length o8) : Int) then Zxq k o2 b3_0 b3_1 o4 b5_0 b5_1 o6 o7 o8 z77 else none else none) (joinL (ZxD k b1_1 b1_2 o2 b3_0 b3_1 o4 b5_0 b5_1 o6 o7 o8) (ZAO k b1_1 b1_2 o2 b3_0 b3_1 o4 b5_0 b5_1 o6 o7 o8)) := by kernel_rfl
theorem ZEo : ZB6 k b1_1 b1_2 o2 b3_0 b3_1 o4 b5_0 b5_1 o6 o7 o8 = repl 67 (ZG k b1_1 b1_2 o2 b3_0 b3_1 o4 b5_0 b5_1 o6 o7 o8) := by
 rw [ZEX]
 simp only [ZCV, ZD3, ZEp, Zx, Zu, ZG, Zb, Zg, Zc, Za, Z9, Z8, if_true]
noncomputable def ZB9 : Option (List Z1c) := execT Z0.G (stepOp Z0.T Z0.G Z0.mvs k) Z7 11 #[true, true, true, true, false, false, false, true, true, true, false, false, false, false, false, false, false, false] ⟨sets (Z1r o8) [], [Ob.ro, Zey b1_1 b1_2, ZV o2, ZX b3_0 b3_1, Z11 o4, ZY b5_0 b5_1, ZU o6, ZW o7, ZZ o8]⟩ (outK Z0 Z5)
theorem ZEN : ZB9 k b1_1 b1_2 o2 b3_0 b3_1 o4 b5_0 b5_1 o6 o7 o8 = joinL (Option.bind (Z2 k (o2, b1_1, b1_2) (↑(List.length o8) : Int)) fun z26 => if (0 : Int) ≤ Prod.fst z26 then if Prod.fst z26 < (↑(List.length o8) : Int) then ZBn k o2 b3_0 b3_1 o4 b5_0 b5_1 o6 o7 o8 z26 else none else none) (joinL (ZBi k b1_1 b1_2 o2 b3_0 b3_1 o4 b5_0 b5_1 o6 o7 o8) (joinL (ZBH k b1_1 b1_2 o2 b3_0 b3_1 o4 b5_0 b5_1 o6 o7 o8) (ZB6 k b1_1 b1_2 o2 b3_0 b3_1 o4 b5_0 b5_1 o6 o7 o8))) := by kernel_rfl
theorem ZEg : ZB9 k b1_1 b1_2 o2 b3_0 b3_1 o4 b5_0 b5_1 o6 o7 o8 = repl 444 (ZG k b1_1 b1_2 o2 b3_0 b3_1 o4 b5_0 b5_1 o6 o7 o8) := by
 rw [ZEN]
 simp only [ZEW, ZED, ZEk, ZEo, Zx, Zu, ZG, Zb, Zg, Zc, Za, Z9, Z8, if_true]
end
theorem ZiX (k : Nat) (x : ZcG.D) : execD Z0.T Z0.G Z0.mvs k Z7 (Z5.inp.st Z0.n x) (outK Z0 Z5) = ZB9 k x.1.2.1.2.1 x.1.2.1.2.2.1 x.1.2.2.1 x.1.2.2.2.1.1 x.1.2.2.2.1.2.1 x.1.2.2.2.2.1 x.1.2.2.2.2.2.1.1 x.1.2.2.2.2.2.1.2.1 x.1.2.2.2.2.2.2.1 x.1.2.2.2.2.2.2.2.1 x.1.2.2.2.2.2.2.2.2.1 := by kernel_rfl
theorem Ziw (k : Nat) : EOK Try.prog Z0 k Z5.E (.region 22 Z7 true) := Zau (D := Z5) (m := 444) T_ok (Z5Q k) (fun x => (ZiX k x).trans (ZEg k x.1.2.1.2.1 x.1.2.1.2.2.1 x.1.2.2.1 x.1.2.2.2.1.1 x.1.2.2.2.1.2.1 x.1.2.2.2.2.1 x.1.2.2.2.2.2.1.1 x.1.2.2.2.2.2.1.2.1 x.1.2.2.2.2.2.2.1 x.1.2.2.2.2.2.2.2.1 x.1.2.2.2.2.2.2.2.2.1))
noncomputable def Z56 : Code := ((findCond 25 Z1F).map (·.1)).getD .skip
noncomputable def Z5l : Code := ((findCond 25 Z1F).map (·.2)).getD .skip
theorem Zj1 (k : Nat) (i : ZC.inp.D) : ZC.lp k i = branch (ZC.inp.st Z0.n i) (.tmp 25) (fun st => exec Z0 k Z56 st (outK Z0 ZC) (fun _ _ => none) ZC.mkB) (fun st => exec Z0 k Z5l st (outK Z0 ZC) (fun _ _ => none) ZC.mkB) := by kernel_rfl
theorem ZiI (k : Nat) : EOK Try.prog Z0 k ZC.E (.cond (.tmp 25) Z56 Z5l) := ZtA (D := ZC) T_ok (Z5Q k) (Zj1 k) (@LOK.by _ _ _ _ Z56 [] (by kernel_rfl) AllOK.nil) (@LOK.by _ _ _ _ Z5l [] (by kernel_rfl) AllOK.nil)
noncomputable def Z57 : Code := ((findCond 44 Z1F).map (·.1)).getD .skip
noncomputable def Z59 : Code := ((findCond 44 Z1F).map (·.2)).getD .skip
theorem ZjC (k : Nat) (i : ZB.inp.D) : ZB.lp k i = branch (ZB.inp.st Z0.n i) (.tmp 44) (fun st => exec Z0 k Z57 st (outK Z0 ZB) (fun _ _ => none) ZB.mkB) (fun st => exec Z0 k Z59 st (outK Z0 ZB) (fun _ _ => none) ZB.mkB) := by kernel_rfl
theorem Ziy (k : Nat) : EOK Try.prog Z0 k ZB.E (.cond (.tmp 44) Z57 Z59) := ZtA (D := ZB) T_ok (Z5Q k) (ZjC k) (@LOK.by _ _ _ _ Z57 [] (by kernel_rfl) AllOK.nil) (@LOK.by _ _ _ _ Z59 [] (by kernel_rfl) AllOK.nil)
noncomputable def Z6G : Code := (findLoop 1 Z1F).getD .skip
theorem ZlJ (k : Nat) (x : Z9Q.D) : Z2V.lp (k + 1) x = loopK Z0 Z2V 1 Z6G k x := by kernel_rfl
theorem Zlq (k : Nat) : LOK Try.prog Z0 k Z6G := LOK.by [] (by kernel_rfl) AllOK.nil
theorem Zlp (x : Z9Q.D) : Z2V.lp 0 x = none := by kernel_rfl
theorem Zko (k : Nat) : EOK Try.prog Z0 k Z2V.E (.block 1 (.loop Z6G)) := Zp T_ok Z5Q Zlp ZlJ Zlq k
theorem ZqZ (k : Nat) (x : Tup Z1z.ps) : Z1z.f (k + 1) x = fnK Z1z Z0 Z1F k x := by kernel_rfl
theorem Zqi (x : Tup Z1z.ps) : Z1z.f 0 x = none := by kernel_rfl
theorem Zqr (k : Nat) : LOK Try.prog Z0 k Z1F := LOK.by [(ZC.E, .cond (.tmp 25) Z56 Z5l), (ZB.E, .cond (.tmp 44) Z57 Z59), (Z2V.E, .block 1 (.loop Z6G)), (Z5.E, .region 22 Z7 true)] (by kernel_rfl) (AllOK.cons (ZiI k) (AllOK.cons (Ziy k) (AllOK.cons (Zko k) (AllOK.cons (Ziw k) AllOK.nil))))
theorem Zg1 (k : Nat) : SoundAt Try.prog k 149 Z1z.E := @Ze Try.prog Z1z Z0 149 Try.f149 Z1F (by kernel_rfl) (by kernel_rfl) (by kernel_rfl) Try.func149 (by kernel_rfl) (by kernel_rfl) (by kernel_rfl) T_ok Z5Q Zqr Zqi ZqZ k
end
end Go.Proofs.Ytgjmhbjdhihgaaa.Vs

set_option maxRecDepth 100000
set_option maxHeartbeats 2000000
set_option linter.unusedVariables false
set_option linter.unusedSimpArgs false
namespace Go.Proofs.Ytgjmhbjdhihgaaa.Vs
open Go.RowKit
noncomputable section
noncomputable def Z4o : List PK := [PK.mk (Ty.pair (Ty.int .i64) (Ty.pair (Ty.int .i64) (Ty.slice (79 : Nat) (Ty.pair (Ty.int .i64) (Ty.int .i64))))) true none false none, PK.mk (Ty.slice (3 : Nat) (Ty.int .i64)) false none false none, PK.mk (Ty.slice (63 : Nat) (Ty.pair (Ty.int .i64) (Ty.pair (Ty.int .i64) (Ty.int .i64)))) false none false none]
noncomputable def Zdx : List PK := [PK.mk (Ty.slice (5 : Nat) (Ty.int .u8)) false none false none]
noncomputable def Zd1 (r : (Int × Int × List (Int × Int)) × List Int × List (Int × Int × Int)) : Tup Z4o × OutD := ((r.1, r.2.1, r.2.2, ()), none)
noncomputable def Zd4 : Tup Z4o × OutD → Option ((Int × Int × List (Int × Int)) × List Int × List (Int × Int × Int))
 | (a, none) => some (a.1, a.2.1, a.2.2.1)
 | _ => none
theorem Zhz : ∀ b r, Zd4 b = some r → Zd1 r = b := by
 rintro ⟨a, o⟩ r h
 cases o with
 | none => injection h with h; subst h; rfl
 | some _ => cases h
noncomputable def Z6w : Nat → List Int → Option ((Int × Int × List (Int × Int)) × List Int × List (Int × Int × Int))
 | 0, _ => none
 | k + 1, p0 =>
  Option.bind (Z5V k (p0, (0 : Int), (0 : Int))) fun z0 => some ((Prod.fst z0.1, Prod.fst z0.1.2, Prod.snd z0.1.2), Prod.fst z0.2, Prod.fst z0.2.2)
noncomputable def Z1q : FnDef := .of Zdx Z4o ((Int × Int × List (Int × Int)) × List Int × List (Int × Int × Int)) (fun k x => Z6w k x.1) Zd1 Zd4 Zhz
noncomputable def Z9O : Code := Try.f136.body.getD .skip
noncomputable def Z6B : Ctx (Tup Z4o × OutD) := { T := T, G := [(149, Z1z.E)], mvs := [], no := 0, n := 14, res := resOf T Zdx Z4o Try.f136.results.toList, loops := [], regs := [], conds := [] }
theorem ZlG (k : Nat) : EnvOK Try.prog k Z6B.G := (EnvOK.cons (Zg1 k) (EnvOK.nil mixed))
theorem ZlU (k : Nat) (x : Tup Z1q.ps) : Z1q.f (k + 1) x = fnK Z1q Z6B Z9O k x := by kernel_rfl
theorem Zm1 (x : Tup Z1q.ps) : Z1q.f 0 x = none := by kernel_rfl
theorem Zma (k : Nat) : LOK Try.prog Z6B k Z9O := LOK.by [] (by kernel_rfl) AllOK.nil
theorem ZlD (k : Nat) : SoundAt Try.prog k 136 Z1q.E := @Ze Try.prog Z1q Z6B 136 Try.f136 Z9O (by kernel_rfl) (by kernel_rfl) (by kernel_rfl) Try.func136 (by kernel_rfl) (by kernel_rfl) (by kernel_rfl) T_ok ZlG Zma Zm1 ZlU k
end
end Go.Proofs.Ytgjmhbjdhihgaaa.Vs

set_option maxRecDepth 100000
set_option maxHeartbeats 2000000
set_option linter.unusedVariables false
set_option linter.unusedSimpArgs false
namespace Go.Proofs.Ytgjmhbjdhihgaaa.Vs
open Go.RowKit
noncomputable section
noncomputable def Z42 : List PK := [PK.mk (Ty.pair (Ty.int .i64) (Ty.pair (Ty.int .i64) (Ty.slice (79 : Nat) (Ty.pair (Ty.int .i64) (Ty.int .i64))))) true none false none, PK.mk (Ty.slice (3 : Nat) (Ty.int .i64)) false none false none, PK.mk (Ty.slice (63 : Nat) (Ty.pair (Ty.int .i64) (Ty.pair (Ty.int .i64) (Ty.int .i64)))) false none false none]
noncomputable def Zd5 : List PK := [PK.mk (Ty.slice (5 : Nat) (Ty.int .u8)) false none false none]
noncomputable def Zcv (r : (Int × Int × List (Int × Int)) × List Int × List (Int × Int × Int)) : Tup Z42 × OutD := ((r.1, r.2.1, r.2.2, ()), none)
noncomputable def Zcg : Tup Z42 × OutD → Option ((Int × Int × List (Int × Int)) × List Int × List (Int × Int × Int))
 | (a, none) => some (a.1, a.2.1, a.2.2.1)
 | _ => none
theorem Zhw : ∀ b r, Zcg b = some r → Zcv r = b := by
 rintro ⟨a, o⟩ r h
 cases o with
 | none => injection h with h; subst h; rfl
 | some _ => cases h
noncomputable def Z5L : Nat → List Int → Option ((Int × Int × List (Int × Int)) × List Int × List (Int × Int × Int))
 | 0, _ => none
 | k + 1, p0 =>
  Option.bind (Z6w k p0) fun z0 => some ((Prod.fst z0.1, Prod.fst z0.1.2, Prod.snd z0.1.2), Prod.fst z0.2, Prod.snd z0.2)
noncomputable def Z1h : FnDef := .of Zd5 Z42 ((Int × Int × List (Int × Int)) × List Int × List (Int × Int × Int)) (fun k x => Z5L k x.1) Zcv Zcg Zhw
noncomputable def Z8X : Code := Try.f53.body.getD .skip
noncomputable def Z5M : Ctx (Tup Z42 × OutD) := { T := T, G := [(136, Z1q.E)], mvs := [], no := 0, n := 10, res := resOf T Zd5 Z42 Try.f53.results.toList, loops := [], regs := [], conds := [] }
theorem Zke (k : Nat) : EnvOK Try.prog k Z5M.G := (EnvOK.cons (ZlD k) (EnvOK.nil mixed))
theorem ZkA (k : Nat) (x : Tup Z1h.ps) : Z1h.f (k + 1) x = fnK Z1h Z5M Z8X k x := by kernel_rfl
theorem Zkv (x : Tup Z1h.ps) : Z1h.f 0 x = none := by kernel_rfl
theorem Zkz (k : Nat) : LOK Try.prog Z5M k Z8X := LOK.by [] (by kernel_rfl) AllOK.nil
theorem Zkr (k : Nat) : SoundAt Try.prog k 53 Z1h.E := @Ze Try.prog Z1h Z5M 53 Try.f53 Z8X (by kernel_rfl) (by kernel_rfl) (by kernel_rfl) Try.func53 (by kernel_rfl) (by kernel_rfl) (by kernel_rfl) T_ok Zke Zkz Zkv ZkA k
end
end Go.Proofs.Ytgjmhbjdhihgaaa.Vs

set_option maxRecDepth 100000
set_option maxHeartbeats 2000000
set_option linter.unusedVariables false
set_option linter.unusedSimpArgs false
namespace Go.Proofs.Ytgjmhbjdhihgaaa.Vs
open Go.RowKit
noncomputable section
end
end Go.Proofs.Ytgjmhbjdhihgaaa.Vs

set_option linter.unusedVariables false
set_option linter.unusedSimpArgs false
namespace Go.Proofs.Ytgjmhbjdhihgaaa.Vs
open Go.RowKit
theorem ZBh {l : List Int} (h : ∀ x ∈ l, Wf (.int .u8) x) : ∀ x ∈ l, 0 ≤ x ∧ x ≤ 255 := by
 intro x hx
 have h2 : (Lit.int .u8 x).wf = true := h x hx
 simp only [Lit.wf, Bool.and_eq_true, decide_eq_true_eq] at h2
 have e1 : IntKind.u8.min = 0 := by decide
 have e2 : IntKind.u8.max = 255 := by decide
 omega
def Cur (code : List Int) (at' n : Int) : Prop := (∀ x ∈ code, 0 ≤ x ∧ x ≤ 255) ∧ code.length ≤ 9223372036854775807 ∧ 0 ≤ at' ∧ at' + n ≤ 4611686018427387904
theorem Cur.to {code : List Int} {at' n at2 m : Int} (h : Cur code at' n) (h1 : at' ≤ at2) (h2 : at2 + m ≤ at' + n) : Cur code at2 m := ⟨h.1, h.2.1, by have := h.2.2.1; omega, by have := h.2.2.2; omega⟩
theorem ZC8 (n : Int) (h0 : 0 ≤ n) (h1 : n < 2 ^ 64) : IntKind.u64.wrap n = n := by
 have : (2 : Int) ^ 64 = 18446744073709551616 := by decide
 simp [IntKind.wrap, IntKind.bits, IntKind.signed]
 omega
theorem and255 (x : Int) : 0 ≤ bits BinOp.and IntKind.u64 x 255 ∧ bits BinOp.and IntKind.u64 x 255 ≤ 255 := by
 unfold bits
 simp only
 have h : ((BitVec.ofInt IntKind.u64.bits x &&& BitVec.ofInt IntKind.u64.bits 255).toNat) ≤ 255 := by
  rw [BitVec.toNat_and]
  exact Nat.and_le_right
 have h2 : ((2 : Int) ^ 64) = 18446744073709551616 := by decide
 rw [ZC8 _ (Int.natCast_nonneg _) (by omega)]
 omega
theorem ZzC {l : List Int} {i : Int} (h : i < (l.length : Int)) (h0 : 0 ≤ i) : List.getD l i.toNat 0 ∈ l := by
 have hi : i.toNat < l.length := by omega
 simp only [List.getD, List.getElem?_eq_getElem hi, Option.getD_some]
 exact List.getElem_mem hi
def seedN (s b : Int) : Int := IntKind.wrap IntKind.u64 (IntKind.wrap IntKind.u64 (IntKind.wrap IntKind.u64 (s * 6364136223846793005) + IntKind.wrap IntKind.u64 b) + 1442695040888963407)
theorem ZDU {code : List Int} {at' : Int} (seed : Int) (h : Cur code at' 1) : ∃ v s, Ev (fun k => Z5q k (code, at', seed)) (v, at' + 1, s) ∧ 0 ≤ v ∧ v ≤ 255 := by
 obtain ⟨hb, hl, h0, h1⟩ := h
 have w1 : wrap64 (at' + 1) = at' + 1 := w64 (by omega) (by omega)
 have big : ∀ x : Int, 0 ≤ wrap64 (bits BinOp.and IntKind.u64 x 255) ∧ wrap64 (bits BinOp.and IntKind.u64 x 255) ≤ 255 := fun x => by
  have := and255 x
  rw [w64 (by omega) (by omega)]
  exact this
 by_cases hin : at' < (code.length : Int)
 ·have hx := hb _ (ZzC hin h0)
  have w2 : wrap64 (List.getD code at'.toNat 0) = List.getD code at'.toNat 0 := w64 (by omega) (by omega)
  have hle : at' + 1 ≤ (code.length : Int) := by omega
  refine ⟨List.getD code at'.toNat 0, seedN seed (List.getD code at'.toNat 0), Ev.succ ?_, hx.1, hx.2⟩
  simp only [Z5q, hin, h0, w1, hle, decide_true, if_true, w2]
  exact Ev.some _
 ·have hle : ¬ at' + 1 ≤ (code.length : Int) := by omega
  refine ⟨wrap64 (bits BinOp.and IntKind.u64 (Int.fdiv (seedN seed 0) (2 ^ min (Int.toNat 40) (IntKind.bits IntKind.u64))) 255), seedN seed 0, Ev.succ ?_, (big _).1, (big _).2⟩
  simp only [Z5q, hin, w1, hle, decide_false, Bool.false_eq_true, if_false]
  exact Ev.some _
theorem ZBM {code : List Int} {at' : Int} (seed n : Int) (h : Cur code at' 2) : ∃ v at2 s, Ev (fun k => Z2 k (code, at', seed) n) (v, at2, s) ∧ at' ≤ at2 ∧ at2 ≤ at' + 2 ∧ 0 ≤ v ∧ (n ≤ 1 → v = 0) ∧ (1 < n → v < n) := by
 by_cases hn : n ≤ 1
 ·refine ⟨0, at', seed, Ev.succ ?_, by omega, by omega, by omega, fun _ => rfl, fun h => by omega⟩
  simp only [Z2, hn, decide_true, if_true]
  exact Ev.some _
 ·obtain ⟨v1, s1, e1, b1, b2⟩ := ZDU seed (h.to (at2 := at') (m := 1) (by omega) (by omega))
  by_cases hb : n > 200
  ·obtain ⟨v2, s2, e2, b3, b4⟩ := ZDU s1 (h.to (at2 := at' + 1) (m := 1) (by omega) (by omega))
   have hp : 0 ≤ v1 * 256 + v2 := by omega
   refine ⟨Int.tmod (v1 * 256 + v2) n, at' + 1 + 1, s2, Ev.succ ?_, by omega, by omega, Int.tmod_nonneg _ hp, fun h => by omega, fun _ => Int.tmod_lt_of_pos _ (by omega)⟩
   have hn0 : ¬ n = 0 := by omega
   simp only [Z2, hn, decide_false, Bool.false_eq_true, if_false]
   refine Ev.bind e1 ?_
   simp only [hb, decide_true, if_true]
   refine Ev.bind e2 ?_
   simp only [hn0, if_false]
   rw [w64 (n := v1 * 256) (by omega) (by omega), w64 (n := v1 * 256 + v2) (by omega) (by omega)]
   exact Ev.some _
  ·refine ⟨Int.tmod v1 n, at' + 1, s1, Ev.succ ?_, by omega, by omega, Int.tmod_nonneg _ b1, fun h => by omega, fun _ => Int.tmod_lt_of_pos _ (by omega)⟩
   have hn0 : ¬ n = 0 := by omega
   simp only [Z2, hn, decide_false, Bool.false_eq_true, if_false]
   refine Ev.bind e1 ?_
   simp only [hb, decide_false, Bool.false_eq_true, if_false, hn0]
   exact Ev.some _
theorem Zew {code : List Int} {at' : Int} (seed : Int) (l : List Int) (hl : 0 < l.length) (h : Cur code at' 2) : ∃ v at2 s, Ev (fun k => Zf k (code, at', seed) l) (v, at2, s) ∧ at' ≤ at2 ∧ at2 ≤ at' + 2 ∧ v ∈ l := by
 obtain ⟨v, at2, s, e1, b1, b2, b3, b4, b5⟩ := ZBM seed (l.length : Int) h
 have hlt : v < (l.length : Int) := by
  by_cases h1 : (l.length : Int) ≤ 1
  ·rw [b4 h1]; omega
  ·exact b5 (by omega)
 refine ⟨List.getD l v.toNat 0, at2, s, Ev.succ ?_, b1, b2, ZzC hlt b3⟩
 simp only [Zf]
 refine Ev.bind e1 ?_
 simp only [b3, hlt, if_true]
 exact Ev.some _
end Go.Proofs.Ytgjmhbjdhihgaaa.Vs

set_option linter.unusedVariables false
set_option linter.unusedSimpArgs false
namespace Go.Proofs.Ytgjmhbjdhihgaaa.Vs
open Go.RowKit
theorem Zyw {code : List Int} {at' : Int} (seed n : Int) (h : Cur code at' 2) : ∃ b at2 s, Ev (fun k => Z19 k (code, at', seed) n) (b, at2, s) ∧ at' ≤ at2 ∧ at2 ≤ at' + 2 := by
 obtain ⟨v, at2, s, e1, b1, b2, _⟩ := ZBM seed n h
 refine ⟨decide (v = 0), at2, s, Ev.succ ?_, b1, b2⟩
 simp only [Z19]
 exact Ev.bind e1 (Ev.some _)
theorem Zes {code : List Int} {at' : Int} (seed n : Int) (h : Cur code at' 2) (hn : 0 < n) : ∃ v at2 s, Ev (fun k => Z2 k (code, at', seed) n) (v, at2, s) ∧ at' ≤ at2 ∧ at2 ≤ at' + 2 ∧ 0 ≤ v ∧ v < n := by
 obtain ⟨v, at2, s, e1, b1, b2, b3, b4, b5⟩ := ZBM seed n h
 refine ⟨v, at2, s, e1, b1, b2, b3, ?_⟩
 by_cases h1 : n ≤ 1
 ·rw [b4 h1]; exact hn
 ·exact b5 (by omega)
end Go.Proofs.Ytgjmhbjdhihgaaa.Vs

set_option linter.unusedVariables false
set_option linter.unusedSimpArgs false
namespace Go.Proofs.Ytgjmhbjdhihgaaa.Vs
open Go.RowKit
theorem Z3G (a b c : Int) : Ev (fun k => Z21 k a b c) (decide (b ≤ a ∧ a ≤ c)) := by
 refine Ev.succ ?_
 simp only [Z21]
 refine Ev.of ?_
 by_cases h1 : b ≤ a <;> by_cases h2 : a ≤ c <;> simp [h1, h2]
theorem Znc (lo hi : Int) : ∀ (r pre : List Int), (pre ++ r).length ≤ 9223372036854775806 → Ev (fun k => Z8d k lo hi (pre ++ r) ((pre ++ r).length : Int) (pre.length : Int)) (if r.all (fun n => decide (lo ≤ n ∧ n ≤ hi)) then LR.go () else LR.ret false)
 | [], pre, hl => by
  refine Ev.succ ?_
  simp only [Z8d, Zz, decide_false, Bool.false_eq_true, if_false, List.all_nil, if_true]
  exact Ev.some _
 | x :: r, pre, hl => by
  have ih := Znc lo hi r (pre ++ [x]) (by simpa using hl)
  refine Ev.succ ?_
  simp only [Z8d, Zs, ZN, decide_true, if_true, Int.toNat_natCast, Zo]
  rw [Zq pre x r (by omega)]
  rw [← Zh] at ih
  refine Ev.bind (Z3G x lo hi) ?_
  by_cases hx : lo ≤ x ∧ x ≤ hi
  ·simp only [hx, and_self, List.all_cons, decide_true, Bool.true_and, Bool.not_true, Bool.false_eq_true, if_false]; exact ih
  ·simp only [hx, List.all_cons, decide_false, Bool.false_and, Bool.not_false, if_true, Bool.false_eq_true, if_false]; exact Ev.some _
theorem ZBJ (l : List Int) (lo hi : Int) (hl : l.length ≤ 9223372036854775806) : Ev (fun k => Zfg k l lo hi) (l.all fun n => decide (lo ≤ n ∧ n ≤ hi)) := by
 refine Ev.succ ?_
 simp only [Zfg]
 refine Ev.bind (Znc lo hi l [] (by simpa using hl)) ?_
 cases hx : l.all fun n => decide (lo ≤ n ∧ n ≤ hi) with
 | true => simp only [if_true]; exact Ev.go (Ev.some _)
 | false => simp only [Bool.false_eq_true, if_false]; exact Ev.ret (Ev.some _)
end Go.Proofs.Ytgjmhbjdhihgaaa.Vs

set_option linter.unusedVariables false
set_option linter.unusedSimpArgs false
namespace Go.Proofs.Ytgjmhbjdhihgaaa.Vs
open Go.RowKit
abbrev CellD := Int × Int
abbrev BoardD := Int × Int × List (Int × Int)
abbrev FaultD := Int × Int × Int
def turning (x : CellD) : Bool := decide (x.1 = 3 ∨ x.1 = 6)
def cellOK (x : CellD) : Bool := decide (0 ≤ x.1 ∧ x.1 ≤ 7 ∧ (x.2 = 0 ∨ (x.2 = 1 ∧ (x.1 = 3 ∨ x.1 = 6))))
def boardOK (b : BoardD) : Bool := decide (1 ≤ b.1 ∧ b.1 ≤ 10 ∧ 1 ≤ b.2.1 ∧ b.2.1 ≤ 9 ∧ (b.2.2.length : Int) = b.1 * b.2.1) && b.2.2.all cellOK
theorem ZaR (x : CellD) : Ev (fun k => Z4B k x) (turning x) := by
 refine Ev.succ ?_
 simp only [Z4B]
 refine Ev.of ?_
 by_cases h1 : x.1 = 3 <;> simp [turning, h1]
theorem ZhS (x : CellD) : Ev (fun k => Z9g k x) (cellOK x) := by
 refine Ev.succ ?_
 simp only [Z9g, decide_eq_true_eq]
 refine Ev.of ?_
 unfold cellOK
 repeat' split
 all_goals (congr 1; first | (symm; rw [decide_eq_true_eq]; omega) | (symm; rw [decide_eq_false_iff_not]; omega) | (apply decide_eq_decide.2; omega))
theorem ZAr (x : CellD) : Ev (fun k => ZdX k x) (cellOK x) := by
 refine Ev.succ ?_
 simp only [ZdX]
 refine Ev.bind (Z3G _ _ _) ?_
 refine Ev.ite (fun h => ?_) (fun h => ?_)
 ·simp only [decide_eq_true_eq] at h
  refine Ev.ite (fun h2 => ?_) (fun h2 => ?_)
  ·simp only [decide_eq_true_eq] at h2
   refine Ev.of ?_
   congr 1; simp [cellOK]; omega
  ·simp only [decide_eq_true_eq] at h2
   refine Ev.ite (fun h3 => ?_) (fun h3 => ?_)
   ·simp only [decide_eq_true_eq] at h3
    refine Ev.bind (ZaR x) (Ev.of ?_)
    congr 1; unfold turning cellOK; by_cases h4 : x.1 = 3 ∨ x.1 = 6 <;> simp [h4] <;> omega
   ·simp only [decide_eq_true_eq] at h3
    refine Ev.of ?_
    congr 1; simp [cellOK]; omega
 ·simp only [decide_eq_true_eq] at h
  refine Ev.of ?_
  congr 1; simp [cellOK]; omega
theorem Zjm (x : CellD) : Ev (fun k => Z2J k x) (cellOK x && turning x) := by
 refine Ev.succ ?_
 simp only [Z2J]
 refine Ev.bind (ZhS x) ?_
 refine Ev.ite (fun h => ?_) (fun h => ?_)
 ·rw [h, Bool.true_and]
  refine Ev.of ?_
  by_cases h1 : x.1 = 3 <;> simp [turning, h1]
 ·refine Ev.of ?_
  simp only [Bool.not_eq_true] at h
  rw [h]; rfl

theorem Zgd : ∀ (r pre : List CellD), (pre ++ r).length ≤ 9223372036854775806 → Ev (fun k => Z4h k (pre ++ r) ((pre ++ r).length : Int) (pre.length : Int)) (if r.all cellOK then LR.go () else LR.ret false)
 | [], pre, hl => by
  refine Ev.succ ?_
  simp only [Z4h, Zz, decide_false, Bool.false_eq_true, if_false, List.all_nil, if_true]
  exact Ev.some _
 | x :: r, pre, hl => by
  have ih := Zgd r (pre ++ [x]) (by simpa using hl)
  refine Ev.succ ?_
  simp only [Z4h, Zs, ZN, decide_true, if_true, Int.toNat_natCast, Zo]
  rw [Zq pre x r (by omega)]
  rw [← Zh] at ih
  refine Ev.bind (ZhS x) ?_
  cases hx : cellOK x with
  | true => simp only [hx, List.all_cons, Bool.true_and, Bool.not_true, Bool.false_eq_true, if_false]; exact ih
  | false => simp only [hx, List.all_cons, Bool.false_and, Bool.not_false, if_true, Bool.false_eq_true, if_false]; exact Ev.some _
theorem ZtK (l : List CellD) (hl : l.length ≤ 9223372036854775806) : Ev (fun k => Za4 k l) (decide (l.length ≤ 90) && l.all cellOK) := by
 refine Ev.succ ?_
 simp only [Za4]
 refine Ev.ite (fun h => ?_) (fun h => ?_)
 ·simp only [decide_eq_true_eq] at h
  refine Ev.of ?_
  have : ¬ l.length ≤ 90 := by omega
  simp [this]
 ·simp only [decide_eq_true_eq] at h
  have h2 : l.length ≤ 90 := by omega
  refine Ev.bind (Zgd l [] (by simpa using hl)) ?_
  simp only [h2, decide_true, Bool.true_and]
  cases hx : l.all cellOK with
  | true => simp only [if_true]; exact Ev.go (Ev.some _)
  | false => simp only [Bool.false_eq_true, if_false]; exact Ev.ret (Ev.some _)
theorem ZL {a b : Int} (h1 : 1 ≤ a) (h2 : a ≤ 10) (h3 : 1 ≤ b) (h4 : b ≤ 9) : 1 ≤ a * b ∧ a * b ≤ 90 :=
 ⟨by have := Int.mul_le_mul h1 h3 (by omega) (by omega); omega, by have := Int.mul_le_mul h2 h4 (by omega) (by omega); omega⟩
theorem Zgk (b : BoardD) (hl : b.2.2.length ≤ 9223372036854775806) : Ev (fun k => Z8i k b) (boardOK b) := by
 refine Ev.succ ?_
 simp only [Z8i, ge_iff_le]
 have no : ∀ {c : Prop}, ¬ c → (boardOK b = true → c) → Option.some false = Option.some (boardOK b) := by
  intro c h1 h2
  cases hb : boardOK b with
  | true => exact absurd (h2 hb) h1
  | false => rfl
 have hb : boardOK b = true → 1 ≤ b.1 ∧ b.1 ≤ 10 ∧ 1 ≤ b.2.1 ∧ b.2.1 ≤ 9 ∧ (b.2.2.length : Int) = b.1 * b.2.1 := fun h => by
  unfold boardOK at h; simp only [Bool.and_eq_true, decide_eq_true_eq] at h; exact h.1
 refine Ev.ite (fun h1 => ?_) (fun h => Ev.of (no h (fun hh => by simpa using (hb hh).1)))
 refine Ev.ite (fun h2 => ?_) (fun h => Ev.of (no h (fun hh => by simpa using (hb hh).2.1)))
 refine Ev.ite (fun h3 => ?_) (fun h => Ev.of (no h (fun hh => by simpa using (hb hh).2.2.1)))
 refine Ev.ite (fun h4 => ?_) (fun h => Ev.of (no h (fun hh => by simpa using (hb hh).2.2.2.1)))
 simp only [decide_eq_true_eq] at h1 h2 h3 h4
 have hp := ZL h1 h2 h3 h4
 rw [w64 (by omega) (by omega)]
 refine Ev.ite (fun h5 => ?_) (fun h => Ev.of (no h (fun hh => by simpa using (hb hh).2.2.2.2)))
 simp only [decide_eq_true_eq] at h5
 refine Ev.bind (ZtK _ hl) (Ev.of ?_)
 have h6 : b.2.2.length ≤ 90 := by omega
 congr 1
 simp only [boardOK, h1, h2, h3, h4, ← h5, h6, and_self, decide_true, Bool.true_and]
theorem Zld : ∀ (r pre : List CellD), (pre ++ r).length ≤ 9223372036854775806 → Ev (fun k => Z73 k (pre ++ r) ((pre ++ r).length : Int) (pre.length : Int)) (if r.all cellOK then LR.go () else LR.ret false)
 | [], pre, hl => by
  refine Ev.succ ?_
  simp only [Z73, Zz, decide_false, Bool.false_eq_true, if_false, List.all_nil, if_true]
  exact Ev.some _
 | x :: r, pre, hl => by
  have ih := Zld r (pre ++ [x]) (by simpa using hl)
  refine Ev.succ ?_
  simp only [Z73, Zs, ZN, decide_true, if_true, Int.toNat_natCast, Zo]
  rw [Zq pre x r (by omega)]
  rw [← Zh] at ih
  refine Ev.bind (ZAr x) ?_
  cases hx : cellOK x with
  | true => simp only [hx, List.all_cons, Bool.true_and, Bool.not_true, Bool.false_eq_true, if_false]; exact ih
  | false => simp only [hx, List.all_cons, Bool.false_and, Bool.not_false, if_true, Bool.false_eq_true, if_false]; exact Ev.some _
theorem ZdT (b : BoardD) (hl : b.2.2.length ≤ 9223372036854775806) : Ev (fun k => Z7v k b) (boardOK b) := by
 refine Ev.succ ?_
 simp only [Z7v]
 have no : ∀ {c : Prop}, ¬ c → (boardOK b = true → c) → Option.some false = Option.some (boardOK b) := by
  intro c h1 h2
  cases hb : boardOK b with
  | true => exact absurd (h2 hb) h1
  | false => rfl
 have hb : boardOK b = true → 1 ≤ b.1 ∧ b.1 ≤ 10 ∧ 1 ≤ b.2.1 ∧ b.2.1 ≤ 9 ∧ (b.2.2.length : Int) = b.1 * b.2.1 := fun h => by
  unfold boardOK at h; simp only [Bool.and_eq_true, decide_eq_true_eq] at h; exact h.1
 refine Ev.bind (Z3G _ _ _) (Ev.ite (fun h => Ev.of (no (c := 1 ≤ b.1 ∧ b.1 ≤ 10) (nd h) (fun hh => ⟨(hb hh).1, (hb hh).2.1⟩))) (fun h1 => ?_))
 refine Ev.bind (Z3G _ _ _) (Ev.ite (fun h => Ev.of (no (c := 1 ≤ b.2.1 ∧ b.2.1 ≤ 9) (nd h) (fun hh => ⟨(hb hh).2.2.1, (hb hh).2.2.2.1⟩))) (fun h2 => ?_))
 have h1' : 1 ≤ b.1 ∧ b.1 ≤ 10 := yd h1
 have h2' : 1 ≤ b.2.1 ∧ b.2.1 ≤ 9 := yd h2
 have hp := ZL h1'.1 h1'.2 h2'.1 h2'.2
 rw [w64 (by omega) (by omega)]
 refine Ev.ite (fun h => Ev.of (no (c := (b.2.2.length : Int) = b.1 * b.2.1) (by simpa using h) (fun hh => (hb hh).2.2.2.2))) (fun h3 => ?_)
 have h3' : (b.2.2.length : Int) = b.1 * b.2.1 := by simpa using h3
 refine Ev.bind (Zld b.2.2 [] (by simpa using hl)) ?_
 have hx2 : boardOK b = b.2.2.all cellOK := by unfold boardOK; simp only [h1'.1, h1'.2, h2'.1, h2'.2, h3', and_self, decide_true, Bool.true_and]
 rw [hx2]
 cases hx : b.2.2.all cellOK with
 | true => simp only [if_true]; exact Ev.go (Ev.some _)
 | false => simp only [Bool.false_eq_true, if_false]; exact Ev.ret (Ev.some _)
theorem ZH {b : BoardD} (h : boardOK b = true) : 1 ≤ b.1 ∧ b.1 ≤ 10 ∧ 1 ≤ b.2.1 ∧ b.2.1 ≤ 9 ∧ (b.2.2.length : Int) = b.1 * b.2.1 ∧ ∀ x ∈ b.2.2, cellOK x = true := by
 unfold boardOK at h
 simp only [Bool.and_eq_true, decide_eq_true_eq] at h
 exact ⟨h.1.1, h.1.2.1, h.1.2.2.1, h.1.2.2.2.1, h.1.2.2.2.2, List.all_eq_true.1 h.2⟩
theorem ZyJ (b : BoardD) (r c : Int) (hl : b.2.2.length ≤ 9223372036854775806) : Ev (fun k => ZcP k b r c) (boardOK b && decide (0 ≤ r ∧ r < b.1 ∧ 0 ≤ c ∧ c < b.2.1)) := by
 refine Ev.succ ?_
 simp only [ZcP, ge_iff_le]
 refine Ev.bind (Zgk b hl) (Ev.ite (fun h => ?_) (fun h => ?_))
 ·rw [h, Bool.true_and]
  refine Ev.of ?_
  simp only [decide_eq_true_eq]
  repeat' split
  all_goals (congr 1; first | (symm; rw [decide_eq_true_eq]; omega) | (symm; rw [decide_eq_false_iff_not]; omega) | (apply decide_eq_decide.2; omega))
 ·refine Ev.of ?_
  simp only [Bool.not_eq_true] at h
  rw [h]; rfl
theorem Z4E {b : BoardD} (h : boardOK b = true) {r c : Int} (h1 : 0 ≤ r) (h2 : r < b.1) (h3 : 0 ≤ c) (h4 : c < b.2.1) : 0 ≤ r * b.2.1 + c ∧ r * b.2.1 + c < (b.2.2.length : Int) ∧ r * b.2.1 + c ≤ 90 ∧ 0 ≤ r * b.2.1 ∧ r * b.2.1 ≤ 90 := by
 obtain ⟨g1, g2, g3, g4, g5, _⟩ := ZH h
 have hp := ZL g1 g2 g3 g4
 have k1 : 0 ≤ r * b.2.1 := Int.mul_nonneg h1 (by omega)
 have k2 : (r + 1) * b.2.1 ≤ b.1 * b.2.1 := Int.mul_le_mul_of_nonneg_right (by omega) (by omega)
 rw [Int.add_mul, Int.one_mul] at k2
 omega
theorem ZiQ {l : List CellD} {i : Int} (h0 : 0 ≤ i) (h1 : i < (l.length : Int)) (d : CellD) : List.getD l i.toNat d ∈ l := by
 have : i.toNat < l.length := by omega
 simp [List.getD, List.getElem?_eq_getElem this]

end Go.Proofs.Ytgjmhbjdhihgaaa.Vs
