/- The proof, part 9. -/
import Derived.Test.Ytgjmhbjdhihgaaaqhm7
set_option maxRecDepth 100000
set_option maxHeartbeats 2000000
set_option linter.unusedVariables false
set_option linter.unusedSimpArgs false
namespace Go.Proofs.Ytgjmhbjdhihgaaa.Vs
open Go.RowKit
noncomputable section
noncomputable def Z5R : List PK := [PK.mk (Ty.slice (77 : Nat) (Ty.pair (Ty.int .i64) (Ty.pair (Ty.int .i64) (Ty.int .i64)))) false none false none, PK.mk Ty.bool false none false none]
noncomputable def Zge : List PK := [PK.mk (Ty.pair (Ty.int .i64) (Ty.pair (Ty.int .i64) (Ty.slice (79 : Nat) (Ty.pair (Ty.int .i64) (Ty.int .i64))))) true none false none, PK.mk (Ty.slice (3 : Nat) (Ty.int .i64)) false none false none, PK.mk (Ty.slice (63 : Nat) (Ty.pair (Ty.int .i64) (Ty.pair (Ty.int .i64) (Ty.int .i64)))) false none false none]
noncomputable def Zfx (r : List (Int × Int × Int) × Bool) : Tup Z5R × OutD := ((r.1, r.2, ()), none)
noncomputable def ZeJ : Tup Z5R × OutD → Option (List (Int × Int × Int) × Bool)
 | (a, none) => some (a.1, a.2.1)
 | _ => none
theorem Zkp : ∀ b r, ZeJ b = some r → Zfx r = b := by
 rintro ⟨a, o⟩ r h
 cases o with
 | none => injection h with h; subst h; rfl
 | some _ => cases h
noncomputable def Z8U : Nat → Int × Int × List (Int × Int) → List Int → List (Int × Int × Int) → Option (List (Int × Int × Int) × Bool)
 | 0, _, _, _ => none
 | k + 1, p0, p1, p2 =>
  Option.bind (Z5B k (Prod.fst p0, Prod.fst p0.2, Prod.snd p0.2) p1 p2) fun z0 => if (!z0) = true then some ([], false) else Option.bind (Z5Q k (Prod.fst p0, Prod.fst p0.2, Prod.snd p0.2) p1 p2) fun z1 => some (z1, true)
noncomputable def Z27 : FnDef := .of Zge Z5R (List (Int × Int × Int) × Bool) (fun k x => Z8U k x.1 x.2.1 x.2.2.1) Zfx ZeJ Zkp
noncomputable def ZbL : Code := Try.f54.body.getD .skip
noncomputable def Z8F : Ctx (Tup Z5R × OutD) := { T := T, G := [(137, Z2i.E), (138, Z1E.E)], mvs := [], no := 0, n := 17, res := resOf T Zge Z5R Try.f54.results.toList, loops := [], regs := [], conds := [] }
theorem Zqw (k : Nat) : EnvOK Try.prog k Z8F.G := (EnvOK.cons (Zbw k) (EnvOK.cons (ZfZ k) (EnvOK.nil mixed)))
theorem Zrj (k : Nat) (x : Tup Z27.ps) : Z27.f (k + 1) x = fnK Z27 Z8F ZbL k x := by kernel_rfl
theorem Zql (x : Tup Z27.ps) : Z27.f 0 x = none := by kernel_rfl
theorem Zrd (k : Nat) : LOK Try.prog Z8F k ZbL := LOK.by [] (by kernel_rfl) AllOK.nil
theorem Zqv (k : Nat) : SoundAt Try.prog k 54 Z27.E := @Ze Try.prog Z27 Z8F 54 Try.f54 ZbL (by kernel_rfl) (by kernel_rfl) (by kernel_rfl) Try.func54 (by kernel_rfl) (by kernel_rfl) (by kernel_rfl) T_ok Zqw Zrd Zql Zrj k
noncomputable def Z5U : List PK := [PK.mk (Ty.slice (77 : Nat) (Ty.pair (Ty.int .i64) (Ty.pair (Ty.int .i64) (Ty.int .i64)))) false none false none, PK.mk Ty.bool false none false none]
noncomputable def Zg2 : List PK := [PK.mk (Ty.pair (Ty.int .i64) (Ty.pair (Ty.int .i64) (Ty.slice (79 : Nat) (Ty.pair (Ty.int .i64) (Ty.int .i64))))) true none false none, PK.mk (Ty.slice (3 : Nat) (Ty.int .i64)) false none false none, PK.mk (Ty.slice (63 : Nat) (Ty.pair (Ty.int .i64) (Ty.pair (Ty.int .i64) (Ty.int .i64)))) false none false none]
noncomputable def Zfg (r : List (Int × Int × Int) × Bool) : Tup Z5U × OutD := ((r.1, r.2, ()), none)
noncomputable def Zfj : Tup Z5U × OutD → Option (List (Int × Int × Int) × Bool)
 | (a, none) => some (a.1, a.2.1)
 | _ => none
theorem Zks : ∀ b r, Zfj b = some r → Zfg r = b := by
 rintro ⟨a, o⟩ r h
 cases o with
 | none => injection h with h; subst h; rfl
 | some _ => cases h
noncomputable def Z8M : Nat → Int × Int × List (Int × Int) → List Int → List (Int × Int × Int) → Option (List (Int × Int × Int) × Bool)
 | 0, _, _, _ => none
 | k + 1, p0, p1, p2 =>
  Option.bind (Z4t k (Prod.fst p0, Prod.fst p0.2, Prod.snd p0.2) p1 p2) fun z0 => if (!z0) = true then some ([], false) else Option.bind (Z70 k (Prod.fst p0, Prod.fst p0.2, Prod.snd p0.2) p1 p2) fun z1 => some (z1, true)
noncomputable def Z26 : FnDef := .of Zg2 Z5U (List (Int × Int × Int) × Bool) (fun k x => Z8M k x.1 x.2.1 x.2.2.1) Zfg Zfj Zks
noncomputable def ZbM : Code := Try.f55.body.getD .skip
noncomputable def Z8E : Ctx (Tup Z5U × OutD) := { T := T, G := [(139, Z1S.E), (140, Z2r.E)], mvs := [], no := 0, n := 17, res := resOf T Zg2 Z5U Try.f55.results.toList, loops := [], regs := [], conds := [] }
theorem ZqV (k : Nat) : EnvOK Try.prog k Z8E.G := (EnvOK.cons (Z9g k) (EnvOK.cons (ZeM k) (EnvOK.nil mixed)))
theorem ZqA (k : Nat) (x : Tup Z26.ps) : Z26.f (k + 1) x = fnK Z26 Z8E ZbM k x := by kernel_rfl
theorem Zr6 (x : Tup Z26.ps) : Z26.f 0 x = none := by kernel_rfl
theorem Zqj (k : Nat) : LOK Try.prog Z8E k ZbM := LOK.by [] (by kernel_rfl) AllOK.nil
theorem ZqG (k : Nat) : SoundAt Try.prog k 55 Z26.E := @Ze Try.prog Z26 Z8E 55 Try.f55 ZbM (by kernel_rfl) (by kernel_rfl) (by kernel_rfl) Try.func55 (by kernel_rfl) (by kernel_rfl) (by kernel_rfl) T_ok ZqV Zqj Zr6 ZqA k
noncomputable def Z7I : List PK := [PK.mk (Ty.slice (34 : Nat) (Ty.slice (3 : Nat) (Ty.int .i64))) false none false none, PK.mk Ty.bool false none false none]
noncomputable def Zi9 : List PK := [PK.mk (Ty.pair (Ty.int .i64) (Ty.pair (Ty.int .i64) (Ty.slice (79 : Nat) (Ty.pair (Ty.int .i64) (Ty.int .i64))))) true none false none, PK.mk (Ty.slice (3 : Nat) (Ty.int .i64)) false none false none, PK.mk (Ty.slice (63 : Nat) (Ty.pair (Ty.int .i64) (Ty.pair (Ty.int .i64) (Ty.int .i64)))) false none false none]
noncomputable def Zhg (r : List (List Int) × Bool) : Tup Z7I × OutD := ((r.1, r.2, ()), none)
noncomputable def Zhk : Tup Z7I × OutD → Option (List (List Int) × Bool)
 | (a, none) => some (a.1, a.2.1)
 | _ => none
theorem Zng : ∀ b r, Zhk b = some r → Zhg r = b := by
 rintro ⟨a, o⟩ r h
 cases o with
 | none => injection h with h; subst h; rfl
 | some _ => cases h
noncomputable def Z9Z : Nat → Int × Int × List (Int × Int) → List Int → List (Int × Int × Int) → Option (List (List Int) × Bool)
 | 0, _, _, _ => none
 | k + 1, p0, p1, p2 =>
  Option.bind (Z5B k (Prod.fst p0, Prod.fst p0.2, Prod.snd p0.2) p1 p2) fun z0 => if (!z0) = true then some ([], false) else Option.bind (Z7G k (Prod.fst p0, Prod.fst p0.2, Prod.snd p0.2) p1 p2) fun z1 => some (z1, true)
noncomputable def Z32 : FnDef := .of Zi9 Z7I (List (List Int) × Bool) (fun k x => Z9Z k x.1 x.2.1 x.2.2.1) Zhg Zhk Zng
noncomputable def Zdc : Code := Try.f56.body.getD .skip
noncomputable def Zaf : Ctx (Tup Z7I × OutD) := { T := T, G := [(137, Z2i.E), (141, Z2g.E)], mvs := [], no := 0, n := 17, res := resOf T Zi9 Z7I Try.f56.results.toList, loops := [], regs := [], conds := [] }
theorem ZuG (k : Nat) : EnvOK Try.prog k Zaf.G := (EnvOK.cons (Zbw k) (EnvOK.cons (Zij k) (EnvOK.nil mixed)))
theorem Zut (k : Nat) (x : Tup Z32.ps) : Z32.f (k + 1) x = fnK Z32 Zaf Zdc k x := by kernel_rfl
theorem Zu6 (x : Tup Z32.ps) : Z32.f 0 x = none := by kernel_rfl
theorem Zug (k : Nat) : LOK Try.prog Zaf k Zdc := LOK.by [] (by kernel_rfl) AllOK.nil
theorem ZtC (k : Nat) : SoundAt Try.prog k 56 Z32.E := @Ze Try.prog Z32 Zaf 56 Try.f56 Zdc (by kernel_rfl) (by kernel_rfl) (by kernel_rfl) Try.func56 (by kernel_rfl) (by kernel_rfl) (by kernel_rfl) T_ok ZuG Zug Zu6 Zut k
noncomputable def Z7F : List PK := [PK.mk (Ty.slice (34 : Nat) (Ty.slice (3 : Nat) (Ty.int .i64))) false none false none, PK.mk Ty.bool false none false none]
noncomputable def Zib : List PK := [PK.mk (Ty.pair (Ty.int .i64) (Ty.pair (Ty.int .i64) (Ty.slice (79 : Nat) (Ty.pair (Ty.int .i64) (Ty.int .i64))))) true none false none, PK.mk (Ty.slice (3 : Nat) (Ty.int .i64)) false none false none, PK.mk (Ty.slice (63 : Nat) (Ty.pair (Ty.int .i64) (Ty.pair (Ty.int .i64) (Ty.int .i64)))) false none false none]
noncomputable def Zhh (r : List (List Int) × Bool) : Tup Z7F × OutD := ((r.1, r.2, ()), none)
noncomputable def Zhb : Tup Z7F × OutD → Option (List (List Int) × Bool)
 | (a, none) => some (a.1, a.2.1)
 | _ => none
theorem Znk : ∀ b r, Zhb b = some r → Zhh r = b := by
 rintro ⟨a, o⟩ r h
 cases o with
 | none => injection h with h; subst h; rfl
 | some _ => cases h
noncomputable def Za2 : Nat → Int × Int × List (Int × Int) → List Int → List (Int × Int × Int) → Option (List (List Int) × Bool)
 | 0, _, _, _ => none
 | k + 1, p0, p1, p2 =>
  Option.bind (Z4t k (Prod.fst p0, Prod.fst p0.2, Prod.snd p0.2) p1 p2) fun z0 => if (!z0) = true then some ([], false) else Option.bind (Zar k (Prod.fst p0, Prod.fst p0.2, Prod.snd p0.2) p1 p2) fun z1 => some (z1, true)
noncomputable def Z35 : FnDef := .of Zib Z7F (List (List Int) × Bool) (fun k x => Za2 k x.1 x.2.1 x.2.2.1) Zhh Zhb Znk
noncomputable def Zdq : Code := Try.f57.body.getD .skip
noncomputable def Za9 : Ctx (Tup Z7F × OutD) := { T := T, G := [(139, Z1S.E), (142, Z3N.E)], mvs := [], no := 0, n := 17, res := resOf T Zib Z7F Try.f57.results.toList, loops := [], regs := [], conds := [] }
theorem ZtS (k : Nat) : EnvOK Try.prog k Za9.G := (EnvOK.cons (Z9g k) (EnvOK.cons (ZmX k) (EnvOK.nil mixed)))
theorem ZuI (k : Nat) (x : Tup Z35.ps) : Z35.f (k + 1) x = fnK Z35 Za9 Zdq k x := by kernel_rfl
theorem Zuu (x : Tup Z35.ps) : Z35.f 0 x = none := by kernel_rfl
theorem ZuW (k : Nat) : LOK Try.prog Za9 k Zdq := LOK.by [] (by kernel_rfl) AllOK.nil
theorem ZuV (k : Nat) : SoundAt Try.prog k 57 Z35.E := @Ze Try.prog Z35 Za9 57 Try.f57 Zdq (by kernel_rfl) (by kernel_rfl) (by kernel_rfl) Try.func57 (by kernel_rfl) (by kernel_rfl) (by kernel_rfl) T_ok ZtS ZuW Zuu ZuI k
noncomputable def Z6S : List PK := [PK.mk (Ty.int .i64) false none false none, PK.mk Ty.bool false none false none]
noncomputable def Zh5 : List PK := [PK.mk (Ty.pair (Ty.int .i64) (Ty.pair (Ty.int .i64) (Ty.slice (79 : Nat) (Ty.pair (Ty.int .i64) (Ty.int .i64))))) true none false none, PK.mk (Ty.slice (3 : Nat) (Ty.int .i64)) false none false none, PK.mk (Ty.slice (63 : Nat) (Ty.pair (Ty.int .i64) (Ty.pair (Ty.int .i64) (Ty.int .i64)))) false none false none]
noncomputable def ZfY (r : Int × Bool) : Tup Z6S × OutD := ((r.1, r.2, ()), none)
noncomputable def ZfJ : Tup Z6S × OutD → Option (Int × Bool)
 | (a, none) => some (a.1, a.2.1)
 | _ => none
theorem Zlv : ∀ b r, ZfJ b = some r → ZfY r = b := by
 rintro ⟨a, o⟩ r h
 cases o with
 | none => injection h with h; subst h; rfl
 | some _ => cases h
noncomputable def Z9n : Nat → Int × Int × List (Int × Int) → List Int → List (Int × Int × Int) → Option (Int × Bool)
 | 0, _, _, _ => none
 | k + 1, p0, p1, p2 =>
  Option.bind (Z5B k (Prod.fst p0, Prod.fst p0.2, Prod.snd p0.2) p1 p2) fun z0 => if (!z0) = true then some ((0 : Int), false) else Option.bind (Z2b k (Prod.fst p0, Prod.fst p0.2, Prod.snd p0.2) [] p1 p2) fun z1 => if z1 = true then some ((0 : Int), true) else Option.bind (Z5Q k (Prod.fst p0, Prod.fst p0.2, Prod.snd p0.2) p1 p2) fun z2 => if decide ((↑(List.length z2) : Int) > (0 : Int)) = true then some ((1 : Int), true) else Option.bind (Z7G k (Prod.fst p0, Prod.fst p0.2, Prod.snd p0.2) p1 p2) fun z3 => if decide ((↑(List.length z3) : Int) > (0 : Int)) = true then some ((2 : Int), true) else some ((0 : Int), false)
noncomputable def Z2z : FnDef := .of Zh5 Z6S (Int × Bool) (fun k x => Z9n k x.1 x.2.1 x.2.2.1) ZfY ZfJ Zlv
noncomputable def Zcn : Code := Try.f58.body.getD .skip
noncomputable def Z9u : Ctx (Tup Z6S × OutD) := { T := T, G := [(137, Z2i.E), (143, Z17.E), (138, Z1E.E), (141, Z2g.E)], mvs := [], no := 0, n := 32, res := resOf T Zh5 Z6S Try.f58.results.toList, loops := [], regs := [], conds := [] }
theorem Zsv (k : Nat) : EnvOK Try.prog k Z9u.G := (EnvOK.cons (Zbw k) (EnvOK.cons (Z8H k) (EnvOK.cons (ZfZ k) (EnvOK.cons (Zij k) (EnvOK.nil mixed)))))
theorem ZsQ (k : Nat) (x : Tup Z2z.ps) : Z2z.f (k + 1) x = fnK Z2z Z9u Zcn k x := by kernel_rfl
theorem Zsl (x : Tup Z2z.ps) : Z2z.f 0 x = none := by kernel_rfl
theorem ZsV (k : Nat) : LOK Try.prog Z9u k Zcn := LOK.by [] (by kernel_rfl) AllOK.nil
theorem ZsU (k : Nat) : SoundAt Try.prog k 58 Z2z.E := @Ze Try.prog Z2z Z9u 58 Try.f58 Zcn (by kernel_rfl) (by kernel_rfl) (by kernel_rfl) Try.func58 (by kernel_rfl) (by kernel_rfl) (by kernel_rfl) T_ok Zsv ZsV Zsl ZsQ k
noncomputable def Z6R : List PK := [PK.mk (Ty.int .i64) false none false none, PK.mk Ty.bool false none false none]
noncomputable def Zh7 : List PK := [PK.mk (Ty.pair (Ty.int .i64) (Ty.pair (Ty.int .i64) (Ty.slice (79 : Nat) (Ty.pair (Ty.int .i64) (Ty.int .i64))))) true none false none, PK.mk (Ty.slice (3 : Nat) (Ty.int .i64)) false none false none, PK.mk (Ty.slice (63 : Nat) (Ty.pair (Ty.int .i64) (Ty.pair (Ty.int .i64) (Ty.int .i64)))) false none false none]
noncomputable def Zg7 (r : Int × Bool) : Tup Z6R × OutD := ((r.1, r.2, ()), none)
noncomputable def ZfL : Tup Z6R × OutD → Option (Int × Bool)
 | (a, none) => some (a.1, a.2.1)
 | _ => none
theorem ZlT : ∀ b r, ZfL b = some r → Zg7 r = b := by
 rintro ⟨a, o⟩ r h
 cases o with
 | none => injection h with h; subst h; rfl
 | some _ => cases h
noncomputable def Z9H : Nat → Int × Int × List (Int × Int) → List Int → List (Int × Int × Int) → Option (Int × Bool)
 | 0, _, _, _ => none
 | k + 1, p0, p1, p2 =>
  Option.bind (Z4t k (Prod.fst p0, Prod.fst p0.2, Prod.snd p0.2) p1 p2) fun z0 => if (!z0) = true then some ((0 : Int), false) else Option.bind (Z34 k (Prod.fst p0, Prod.fst p0.2, Prod.snd p0.2) [] p1 p2) fun z1 => if z1 = true then some ((0 : Int), true) else Option.bind (Z70 k (Prod.fst p0, Prod.fst p0.2, Prod.snd p0.2) p1 p2) fun z2 => if decide ((↑(List.length z2) : Int) > (0 : Int)) = true then some ((1 : Int), true) else Option.bind (Zar k (Prod.fst p0, Prod.fst p0.2, Prod.snd p0.2) p1 p2) fun z3 => if decide ((↑(List.length z3) : Int) > (0 : Int)) = true then some ((2 : Int), true) else some ((0 : Int), false)
noncomputable def Z2y : FnDef := .of Zh7 Z6R (Int × Bool) (fun k x => Z9H k x.1 x.2.1 x.2.2.1) Zg7 ZfL ZlT
noncomputable def Zcd : Code := Try.f59.body.getD .skip
noncomputable def Z9i : Ctx (Tup Z6R × OutD) := { T := T, G := [(139, Z1S.E), (144, Z1i.E), (140, Z2r.E), (142, Z3N.E)], mvs := [], no := 0, n := 32, res := resOf T Zh7 Z6R Try.f59.results.toList, loops := [], regs := [], conds := [] }
theorem Zs5 (k : Nat) : EnvOK Try.prog k Z9i.G := (EnvOK.cons (Z9g k) (EnvOK.cons (Zaa k) (EnvOK.cons (ZeM k) (EnvOK.cons (ZmX k) (EnvOK.nil mixed)))))
theorem Zry (k : Nat) (x : Tup Z2y.ps) : Z2y.f (k + 1) x = fnK Z2y Z9i Zcd k x := by kernel_rfl
theorem Zsy (x : Tup Z2y.ps) : Z2y.f 0 x = none := by kernel_rfl
theorem Ztn (k : Nat) : LOK Try.prog Z9i k Zcd := LOK.by [] (by kernel_rfl) AllOK.nil
theorem Ztr (k : Nat) : SoundAt Try.prog k 59 Z2y.E := @Ze Try.prog Z2y Z9i 59 Try.f59 Zcd (by kernel_rfl) (by kernel_rfl) (by kernel_rfl) Try.func59 (by kernel_rfl) (by kernel_rfl) (by kernel_rfl) T_ok Zs5 Ztn Zsy Zry k
noncomputable def Z1G : List PK := [PK.mk (Ty.pair (Ty.int .i64) (Ty.pair (Ty.int .i64) (Ty.slice (79 : Nat) (Ty.pair (Ty.int .i64) (Ty.int .i64))))) true none false none, PK.mk (Ty.slice (3 : Nat) (Ty.int .i64)) false none false none, PK.mk (Ty.slice (63 : Nat) (Ty.pair (Ty.int .i64) (Ty.pair (Ty.int .i64) (Ty.int .i64)))) false none false none]
noncomputable def Zg0 : List PK := [PK.mk (Ty.pair (Ty.slice (5 : Nat) (Ty.int .u8)) (Ty.pair (Ty.int .i64) (Ty.int .u64))) false none false (some (114 : Nat))]
noncomputable def Zf0 (r : (Int × Int × List (Int × Int)) × List Int × List (Int × Int × Int) × Int × Int) : Tup Z1G × OutD := ((r.1, r.2.1, r.2.2.1, ()), some ⟨Ty.pair (Ty.slice (5 : Nat) (Ty.int .u8)) (Ty.pair (Ty.int .i64) (Ty.int .u64)), [([], r.2.2.2)]⟩)
noncomputable def Zb8 : Tup Z1G × OutD → Option ((Int × Int × List (Int × Int)) × List Int × List (Int × Int × Int) × Int × Int)
 | (a, some ⟨u, ys⟩) => if h : u = Ty.pair (Ty.slice (5 : Nat) (Ty.int .u8)) (Ty.pair (Ty.int .i64) (Ty.int .u64)) then (match castU h ys with
  | [([], y)] => some (a.1, a.2.1, a.2.2.1, y)
  | _ => none) else none
 | _ => none
theorem Zke : ∀ b r, Zb8 b = some r → Zf0 r = b := by
 rintro ⟨a, o⟩ r h
 cases o with
 | none => cases h
 | some s =>
  obtain ⟨u, ys⟩ := s
  simp only [Zb8] at h
  split at h
  ·rename_i hu
   subst hu
   match ys, h with
   | [], h => cases (show (none : Option _) = some r from h)
   | [([], y)], h => injection (show some _ = some r from h) with h; subst h; rfl
   | [(_ :: _, y)], h => cases (show (none : Option _) = some r from h)
   | (h1, _) :: _ :: _, h => cases h1 <;> cases (show (none : Option _) = some r from h)
  ·cases h
noncomputable def Z91 : Nat → Int → Int → List Int → Int → Int → List (Int × Int) → Int → Int → List (Int × Int) → Int → Bool → Option (Int × Int × List Int × Int × Int × List (Int × Int) × Int × Int × List (Int × Int)) := fun k b1_1 b1_2 o2 b3_0 b3_1 o4 b5_0 b5_1 o6 v24 v25 =>
    if v25 = true then Option.bind (ZP k (o2, b1_1, b1_2)) fun z4 => some (Prod.fst z4.2, Prod.snd z4.2, o2, b3_0, b3_1, o4, Prod.fst z4.1, Prod.fst z4.1.2, Prod.snd z4.1.2) else if decide (v24 = (1 : Int)) = true then Option.bind (Z2 k (o2, b1_1, b1_2) (2 : Int)) fun z5 => Option.bind (Z1W k (o2, Prod.fst z5.2, Prod.snd z5.2) (wrap64 ((4 : Int) + Prod.fst z5)) (6 : Int)) fun z6 => some (Prod.fst z6.2, Prod.snd z6.2, o2, b3_0, b3_1, o4, Prod.fst z6.1, Prod.fst z6.1.2, Prod.snd z6.1.2) else some (b1_1, b1_2, o2, b3_0, b3_1, o4, b5_0, b5_1, o6)
noncomputable def ZjO : Spec := Spec.mk [OSh.ro, OSh.box (114 : Nat) [Sh.sl (2 : Nat), Sh.int .i64, Sh.int .u64], OSh.fx (Ty.int .u8), OSh.box (53 : Nat) [Sh.int .i64, Sh.int .i64, Sh.sl (4 : Nat)], OSh.row true (79 : Nat) (Ty.pair (Ty.int .i64) (Ty.int .i64)), OSh.box (53 : Nat) [Sh.int .i64, Sh.int .i64, Sh.sl (6 : Nat)], OSh.row true (79 : Nat) (Ty.pair (Ty.int .i64) (Ty.int .i64))] [((0 : Nat), TSh.at (Sh.ptr (1 : Nat) (0 : Nat))), ((2 : Nat), TSh.at (Sh.ptr (3 : Nat) (0 : Nat))), ((5 : Nat), TSh.at (Sh.ptr (5 : Nat) (0 : Nat))), ((24 : Nat), TSh.at (Sh.int .i64)), ((25 : Nat), TSh.at Sh.bool)]
noncomputable def ZjE : Spec := Spec.mk [OSh.ro, OSh.box (114 : Nat) [Sh.sl (2 : Nat), Sh.int .i64, Sh.int .u64], OSh.fx (Ty.int .u8), OSh.box (53 : Nat) [Sh.int .i64, Sh.int .i64, Sh.sl (4 : Nat)], OSh.row true (79 : Nat) (Ty.pair (Ty.int .i64) (Ty.int .i64)), OSh.box (53 : Nat) [Sh.int .i64, Sh.int .i64, Sh.sl (6 : Nat)], OSh.row true (79 : Nat) (Ty.pair (Ty.int .i64) (Ty.int .i64))] [((0 : Nat), TSh.at (Sh.ptr (1 : Nat) (0 : Nat))), ((2 : Nat), TSh.at (Sh.ptr (3 : Nat) (0 : Nat))), ((5 : Nat), TSh.at (Sh.ptr (5 : Nat) (0 : Nat)))]
noncomputable def ZC : LoopDef (Tup Z1G × OutD) := .plain ZjO ZjE (Int × Int × List Int × Int × Int × List (Int × Int) × Int × Int × List (Int × Int)) (fun k x => Z91 k x.1.2.1.2.1 x.1.2.1.2.2.1 x.1.2.2.1 x.1.2.2.2.1.1 x.1.2.2.2.1.2.1 x.1.2.2.2.2.1 x.1.2.2.2.2.2.1.1 x.1.2.2.2.2.2.1.2.1 x.1.2.2.2.2.2.2.1 x.2.2.2.2.1 x.2.2.2.2.2.1) (fun z => (((), ((), z.1, z.2.1, ()), z.2.2.1, (z.2.2.2.1, z.2.2.2.2.1, (), ()), z.2.2.2.2.2.1, (z.2.2.2.2.2.2.1, z.2.2.2.2.2.2.2.1, (), ()), z.2.2.2.2.2.2.2.2, ()), ((), (), (), ()))) (fun y => (y.1.2.1.2.1, y.1.2.1.2.2.1, y.1.2.2.1, y.1.2.2.2.1.1, y.1.2.2.2.1.2.1, y.1.2.2.2.2.1, y.1.2.2.2.2.2.1.1, y.1.2.2.2.2.2.1.2.1, y.1.2.2.2.2.2.2.1)) (fun _ => rfl)
noncomputable def Z8W : Nat → Int → Int → List Int → Int → Int → List (Int × Int) → Int → Int → List (Int × Int) → List Int → Int → Bool → Option (Int × Int × List Int × Int × Int × List (Int × Int) × Int × Int × List (Int × Int) × List Int × Int) := fun k b1_1 b1_2 o2 b3_0 b3_1 o4 b5_0 b5_1 o6 o7 v7 v44 =>
    if v44 = true then Option.bind (Z2 k (o2, b1_1, b1_2) (2 : Int)) fun z11 => some (Prod.fst z11.2, Prod.snd z11.2, o2, b3_0, b3_1, o4, b5_0, b5_1, o6, o7, wrap64 ((20 : Int) + Prod.fst z11)) else some (b1_1, b1_2, o2, b3_0, b3_1, o4, b5_0, b5_1, o6, o7, v7)
noncomputable def Zka : Spec := Spec.mk [OSh.ro, OSh.box (114 : Nat) [Sh.sl (2 : Nat), Sh.int .i64, Sh.int .u64], OSh.fx (Ty.int .u8), OSh.box (53 : Nat) [Sh.int .i64, Sh.int .i64, Sh.sl (4 : Nat)], OSh.row true (79 : Nat) (Ty.pair (Ty.int .i64) (Ty.int .i64)), OSh.box (53 : Nat) [Sh.int .i64, Sh.int .i64, Sh.sl (6 : Nat)], OSh.row true (79 : Nat) (Ty.pair (Ty.int .i64) (Ty.int .i64)), OSh.row true (3 : Nat) (Ty.int .i64)] [((0 : Nat), TSh.at (Sh.ptr (1 : Nat) (0 : Nat))), ((2 : Nat), TSh.at (Sh.ptr (3 : Nat) (0 : Nat))), ((5 : Nat), TSh.at (Sh.ptr (5 : Nat) (0 : Nat))), ((6 : Nat), TSh.at (Sh.sl (7 : Nat))), ((7 : Nat), TSh.at (Sh.int .i64)), ((44 : Nat), TSh.at Sh.bool)]
noncomputable def Zjz : Spec := Spec.mk [OSh.ro, OSh.box (114 : Nat) [Sh.sl (2 : Nat), Sh.int .i64, Sh.int .u64], OSh.fx (Ty.int .u8), OSh.box (53 : Nat) [Sh.int .i64, Sh.int .i64, Sh.sl (4 : Nat)], OSh.row true (79 : Nat) (Ty.pair (Ty.int .i64) (Ty.int .i64)), OSh.box (53 : Nat) [Sh.int .i64, Sh.int .i64, Sh.sl (6 : Nat)], OSh.row true (79 : Nat) (Ty.pair (Ty.int .i64) (Ty.int .i64)), OSh.row true (3 : Nat) (Ty.int .i64)] [((0 : Nat), TSh.at (Sh.ptr (1 : Nat) (0 : Nat))), ((2 : Nat), TSh.at (Sh.ptr (3 : Nat) (0 : Nat))), ((5 : Nat), TSh.at (Sh.ptr (5 : Nat) (0 : Nat))), ((6 : Nat), TSh.at (Sh.sl (7 : Nat))), ((7 : Nat), TSh.at (Sh.int .i64))]
noncomputable def ZB : LoopDef (Tup Z1G × OutD) := .plain Zka Zjz (Int × Int × List Int × Int × Int × List (Int × Int) × Int × Int × List (Int × Int) × List Int × Int) (fun k x => Z8W k x.1.2.1.2.1 x.1.2.1.2.2.1 x.1.2.2.1 x.1.2.2.2.1.1 x.1.2.2.2.1.2.1 x.1.2.2.2.2.1 x.1.2.2.2.2.2.1.1 x.1.2.2.2.2.2.1.2.1 x.1.2.2.2.2.2.2.1 x.1.2.2.2.2.2.2.2.1 x.2.2.2.2.2.1 x.2.2.2.2.2.2.1) (fun z => (((), ((), z.1, z.2.1, ()), z.2.2.1, (z.2.2.2.1, z.2.2.2.2.1, (), ()), z.2.2.2.2.2.1, (z.2.2.2.2.2.2.1, z.2.2.2.2.2.2.2.1, (), ()), z.2.2.2.2.2.2.2.2.1, z.2.2.2.2.2.2.2.2.2.1, ()), ((), (), (), (), z.2.2.2.2.2.2.2.2.2.2, ()))) (fun y => (y.1.2.1.2.1, y.1.2.1.2.2.1, y.1.2.2.1, y.1.2.2.2.1.1, y.1.2.2.2.1.2.1, y.1.2.2.2.2.1, y.1.2.2.2.2.2.1.1, y.1.2.2.2.2.2.1.2.1, y.1.2.2.2.2.2.2.1, y.1.2.2.2.2.2.2.2.1, y.2.2.2.2.2.1)) (fun _ => rfl)
noncomputable def Z3n : Nat → Int → Int → List Int → Int → Int → List (Int × Int) → Int → Int → List (Int × Int) → List Int → Int → Option (Int × Int × List Int × Int × Int × List (Int × Int) × Int × Int × List (Int × Int) × List Int)
 | 0, _, _, _, _, _, _, _, _, _, _, _ => none
 | k + 1, b1_1, b1_2, o2, b3_0, b3_1, o4, b5_0, b5_1, o6, o7, v7 =>
  if decide ((↑(List.length o7) : Int) < v7) = true then Option.bind (Z2 k (o2, b1_1, b1_2) b5_1) fun z13 => if List.length o7 + List.length [Prod.fst z13] ≤ (140737488355328 / 8 : Nat) then Z3n k z13.2.1 z13.2.2 o2 b3_0 b3_1 o4 b5_0 b5_1 o6 (o7 ++ [Prod.fst z13]) v7 else none else some (b1_1, b1_2, o2, b3_0, b3_1, o4, b5_0, b5_1, o6, o7)
noncomputable def Z9X : Spec := Spec.mk [OSh.ro, OSh.box (114 : Nat) [Sh.sl (2 : Nat), Sh.int .i64, Sh.int .u64], OSh.fx (Ty.int .u8), OSh.box (53 : Nat) [Sh.int .i64, Sh.int .i64, Sh.sl (4 : Nat)], OSh.row true (79 : Nat) (Ty.pair (Ty.int .i64) (Ty.int .i64)), OSh.box (53 : Nat) [Sh.int .i64, Sh.int .i64, Sh.sl (6 : Nat)], OSh.row true (79 : Nat) (Ty.pair (Ty.int .i64) (Ty.int .i64)), OSh.row true (3 : Nat) (Ty.int .i64)] [((0 : Nat), TSh.at (Sh.ptr (1 : Nat) (0 : Nat))), ((2 : Nat), TSh.at (Sh.ptr (3 : Nat) (0 : Nat))), ((5 : Nat), TSh.at (Sh.ptr (5 : Nat) (0 : Nat))), ((6 : Nat), TSh.at (Sh.sl (7 : Nat))), ((7 : Nat), TSh.at (Sh.int .i64))]
noncomputable def ZlY : Spec := Spec.mk [OSh.ro, OSh.box (114 : Nat) [Sh.sl (2 : Nat), Sh.int .i64, Sh.int .u64], OSh.fx (Ty.int .u8), OSh.box (53 : Nat) [Sh.int .i64, Sh.int .i64, Sh.sl (4 : Nat)], OSh.row true (79 : Nat) (Ty.pair (Ty.int .i64) (Ty.int .i64)), OSh.box (53 : Nat) [Sh.int .i64, Sh.int .i64, Sh.sl (6 : Nat)], OSh.row true (79 : Nat) (Ty.pair (Ty.int .i64) (Ty.int .i64)), OSh.row true (3 : Nat) (Ty.int .i64)] [((0 : Nat), TSh.at (Sh.ptr (1 : Nat) (0 : Nat))), ((2 : Nat), TSh.at (Sh.ptr (3 : Nat) (0 : Nat))), ((5 : Nat), TSh.at (Sh.ptr (5 : Nat) (0 : Nat))), ((6 : Nat), TSh.at (Sh.sl (7 : Nat)))]
noncomputable def Z2Q : LoopDef (Tup Z1G × OutD) := .plain Z9X ZlY (Int × Int × List Int × Int × Int × List (Int × Int) × Int × Int × List (Int × Int) × List Int) (fun k x => Z3n k x.1.2.1.2.1 x.1.2.1.2.2.1 x.1.2.2.1 x.1.2.2.2.1.1 x.1.2.2.2.1.2.1 x.1.2.2.2.2.1 x.1.2.2.2.2.2.1.1 x.1.2.2.2.2.2.1.2.1 x.1.2.2.2.2.2.2.1 x.1.2.2.2.2.2.2.2.1 x.2.2.2.2.2.1) (fun z => (((), ((), z.1, z.2.1, ()), z.2.2.1, (z.2.2.2.1, z.2.2.2.2.1, (), ()), z.2.2.2.2.2.1, (z.2.2.2.2.2.2.1, z.2.2.2.2.2.2.2.1, (), ()), z.2.2.2.2.2.2.2.2.1, z.2.2.2.2.2.2.2.2.2, ()), ((), (), (), (), ()))) (fun y => (y.1.2.1.2.1, y.1.2.1.2.2.1, y.1.2.2.1, y.1.2.2.2.1.1, y.1.2.2.2.1.2.1, y.1.2.2.2.2.1, y.1.2.2.2.2.2.1.1, y.1.2.2.2.2.2.1.2.1, y.1.2.2.2.2.2.2.1, y.1.2.2.2.2.2.2.2.1)) (fun _ => rfl)
noncomputable def Z8Z : Nat → Int → Int → List Int → Int → Int → List (Int × Int) → Int → Int → List (Int × Int) → List Int → List (Int × Int × Int) → Option (Int × Int × List Int × Int × Int × List (Int × Int) × Int × Int × List (Int × Int) × List Int × Int × Int × Int × Int × Int × Int) := fun k b1_1 b1_2 o2 b3_0 b3_1 o4 b5_0 b5_1 o6 o7 o8 =>
    Option.bind (Z2 k (o2, b1_1, b1_2) (↑(List.length o8) : Int)) fun z24 => if (0 : Int) ≤ Prod.fst z24 then if Prod.fst z24 < (↑(List.length o8) : Int) then Option.bind (Z2 k (o2, Prod.fst z24.2, Prod.snd z24.2) (↑(List.length o8) : Int)) fun z25 => if (0 : Int) ≤ Prod.fst z25 then if Prod.fst z25 < (↑(List.length o8) : Int) then some (Prod.fst z25.2, Prod.snd z25.2, o2, b3_0, b3_1, o4, b5_0, b5_1, o6, o7, Prod.fst (List.getD o8 (Int.toNat z24.1) ((0 : Int), (0 : Int), (0 : Int))), Prod.fst (Prod.snd (List.getD o8 (Int.toNat z24.1) ((0 : Int), (0 : Int), (0 : Int)))), Prod.snd (Prod.snd (List.getD o8 (Int.toNat z24.1) ((0 : Int), (0 : Int), (0 : Int)))), Prod.fst (List.getD o8 (Int.toNat z25.1) ((0 : Int), (0 : Int), (0 : Int))), Prod.fst (Prod.snd (List.getD o8 (Int.toNat z25.1) ((0 : Int), (0 : Int), (0 : Int)))), Prod.snd (Prod.snd (List.getD o8 (Int.toNat z25.1) ((0 : Int), (0 : Int), (0 : Int))))) else none else none else none else none
noncomputable def Zci : Spec := Spec.mk [OSh.ro, OSh.box (114 : Nat) [Sh.sl (2 : Nat), Sh.int .i64, Sh.int .u64], OSh.fx (Ty.int .u8), OSh.box (53 : Nat) [Sh.int .i64, Sh.int .i64, Sh.sl (4 : Nat)], OSh.row true (79 : Nat) (Ty.pair (Ty.int .i64) (Ty.int .i64)), OSh.box (53 : Nat) [Sh.int .i64, Sh.int .i64, Sh.sl (6 : Nat)], OSh.row true (79 : Nat) (Ty.pair (Ty.int .i64) (Ty.int .i64)), OSh.row true (3 : Nat) (Ty.int .i64), OSh.row true (77 : Nat) (Ty.pair (Ty.int .i64) (Ty.pair (Ty.int .i64) (Ty.int .i64)))] [((0 : Nat), TSh.at (Sh.ptr (1 : Nat) (0 : Nat))), ((2 : Nat), TSh.at (Sh.ptr (3 : Nat) (0 : Nat))), ((5 : Nat), TSh.at (Sh.ptr (5 : Nat) (0 : Nat))), ((6 : Nat), TSh.at (Sh.sl (7 : Nat))), ((8 : Nat), TSh.at (Sh.sl (8 : Nat)))]
noncomputable def Zjq : Spec := Spec.mk [OSh.ro, OSh.box (114 : Nat) [Sh.sl (2 : Nat), Sh.int .i64, Sh.int .u64], OSh.fx (Ty.int .u8), OSh.box (53 : Nat) [Sh.int .i64, Sh.int .i64, Sh.sl (4 : Nat)], OSh.row true (79 : Nat) (Ty.pair (Ty.int .i64) (Ty.int .i64)), OSh.box (53 : Nat) [Sh.int .i64, Sh.int .i64, Sh.sl (6 : Nat)], OSh.row true (79 : Nat) (Ty.pair (Ty.int .i64) (Ty.int .i64)), OSh.row true (3 : Nat) (Ty.int .i64), OSh.box (77 : Nat) [Sh.int .i64, Sh.int .i64, Sh.int .i64], OSh.box (77 : Nat) [Sh.int .i64, Sh.int .i64, Sh.int .i64]] [((0 : Nat), TSh.at (Sh.ptr (1 : Nat) (0 : Nat))), ((2 : Nat), TSh.at (Sh.ptr (3 : Nat) (0 : Nat))), ((5 : Nat), TSh.at (Sh.ptr (5 : Nat) (0 : Nat))), ((6 : Nat), TSh.at (Sh.sl (7 : Nat))), ((10 : Nat), TSh.at (Sh.ptr (8 : Nat) (0 : Nat))), ((11 : Nat), TSh.at (Sh.ptr (9 : Nat) (0 : Nat)))]
noncomputable def Z5 : LoopDef (Tup Z1G × OutD) := .plain Zci Zjq (Int × Int × List Int × Int × Int × List (Int × Int) × Int × Int × List (Int × Int) × List Int × Int × Int × Int × Int × Int × Int) (fun k x => Z8Z k x.1.2.1.2.1 x.1.2.1.2.2.1 x.1.2.2.1 x.1.2.2.2.1.1 x.1.2.2.2.1.2.1 x.1.2.2.2.2.1 x.1.2.2.2.2.2.1.1 x.1.2.2.2.2.2.1.2.1 x.1.2.2.2.2.2.2.1 x.1.2.2.2.2.2.2.2.1 x.1.2.2.2.2.2.2.2.2.1) (fun z => (((), ((), z.1, z.2.1, ()), z.2.2.1, (z.2.2.2.1, z.2.2.2.2.1, (), ()), z.2.2.2.2.2.1, (z.2.2.2.2.2.2.1, z.2.2.2.2.2.2.2.1, (), ()), z.2.2.2.2.2.2.2.2.1, z.2.2.2.2.2.2.2.2.2.1, (z.2.2.2.2.2.2.2.2.2.2.1, z.2.2.2.2.2.2.2.2.2.2.2.1, z.2.2.2.2.2.2.2.2.2.2.2.2.1, ()), (z.2.2.2.2.2.2.2.2.2.2.2.2.2.1, z.2.2.2.2.2.2.2.2.2.2.2.2.2.2.1, z.2.2.2.2.2.2.2.2.2.2.2.2.2.2.2, ()), ()), ((), (), (), (), (), (), ()))) (fun y => (y.1.2.1.2.1, y.1.2.1.2.2.1, y.1.2.2.1, y.1.2.2.2.1.1, y.1.2.2.2.1.2.1, y.1.2.2.2.2.1, y.1.2.2.2.2.2.1.1, y.1.2.2.2.2.2.1.2.1, y.1.2.2.2.2.2.2.1, y.1.2.2.2.2.2.2.2.1, y.1.2.2.2.2.2.2.2.2.1.1, y.1.2.2.2.2.2.2.2.2.1.2.1, y.1.2.2.2.2.2.2.2.2.1.2.2.1, y.1.2.2.2.2.2.2.2.2.2.1.1, y.1.2.2.2.2.2.2.2.2.2.1.2.1, y.1.2.2.2.2.2.2.2.2.2.1.2.2.1)) (fun _ => rfl)
noncomputable def Z5Y : Nat → List Int × Int × Int → Option ((Int × Int × List (Int × Int)) × List Int × List (Int × Int × Int) × Int × Int)
 | 0, _ => none
 | k + 1, p0 =>
  Option.bind (Z2 k (Prod.fst p0, Prod.fst p0.2, Prod.snd p0.2) (4 : Int)) fun z0 => Option.bind (Z2 k (Prod.fst p0, Prod.fst z0.2, Prod.snd z0.2) (4 : Int)) fun z1 => Option.bind (Z1W k (Prod.fst p0, Prod.fst z1.2, Prod.snd z1.2) (wrap64 ((1 : Int) + Prod.fst z0)) (wrap64 ((1 : Int) + Prod.fst z1))) fun z2 => Option.bind (Z2 k (Prod.fst p0, Prod.fst z2.2, Prod.snd z2.2) (20 : Int)) fun z3 => Option.bind (Z91 k z3.2.1 z3.2.2 p0.1 (0 : Int) (0 : Int) [] z2.1.1 z2.1.2.1 z2.1.2.2 z3.1 (decide (Prod.fst z3 = (0 : Int)))) fun z7 => Option.bind (Z7o k (Prod.fst z7.2.2.2.2.2.2, Prod.fst z7.2.2.2.2.2.2.2, Prod.snd z7.2.2.2.2.2.2.2)) fun z8 => if (!z8) = true then some ((Prod.fst z7.2.2.2.2.2.2, Prod.fst z7.2.2.2.2.2.2.2, Prod.snd z7.2.2.2.2.2.2.2), [], [], Prod.fst z7, Prod.fst z7.2) else Option.bind (Z2 k (Prod.fst z7.2.2, Prod.fst z7, Prod.fst z7.2) (6 : Int)) fun z9 => Option.bind (Z19 k (Prod.fst z7.2.2, Prod.fst z9.2, Prod.snd z9.2) (20 : Int)) fun z10 => Option.bind (Z8W k z10.2.1 z10.2.2 z7.2.2.1 z7.2.2.2.1 z7.2.2.2.2.1 z7.2.2.2.2.2.1 z7.2.2.2.2.2.2.1 z7.2.2.2.2.2.2.2.1 z7.2.2.2.2.2.2.2.2 [] (wrap64 ((1 : Int) + Prod.fst z9)) z10.1) fun z12 => Option.bind (Z3n k z12.1 z12.2.1 z12.2.2.1 z12.2.2.2.1 z12.2.2.2.2.1 z12.2.2.2.2.2.1 z12.2.2.2.2.2.2.1 z12.2.2.2.2.2.2.2.1 z12.2.2.2.2.2.2.2.2.1 z12.2.2.2.2.2.2.2.2.2.1 z12.2.2.2.2.2.2.2.2.2.2) fun z14 => Option.bind (Z30 k (Prod.fst z14.2.2.2.2.2.2, Prod.fst z14.2.2.2.2.2.2.2, Prod.fst z14.2.2.2.2.2.2.2.2)) fun z15 => Option.bind (Z2 k (Prod.fst z14.2.2, Prod.fst z14, Prod.fst z14.2) (4 : Int)) fun z16 => if decide (Prod.fst z16 = (0 : Int)) = true then Option.bind (Z6Q k (Prod.fst z14.2.2.2.2.2.2, Prod.fst z14.2.2.2.2.2.2.2, Prod.fst z14.2.2.2.2.2.2.2.2) [] z14.2.2.2.2.2.2.2.2.2) fun z17 => if decide ((↑(List.length z17.1) : Int) > (0 : Int)) = true then Option.bind (Z2 k (Prod.fst z14.2.2, Prod.fst z16.2, Prod.snd z16.2) (↑(List.length z17.1) : Int)) fun z18 => if (0 : Int) ≤ Prod.fst z18 then if Prod.fst z18 < (↑(List.length z17.1) : Int) then Option.bind (Z2 k (Prod.fst z14.2.2, Prod.fst z18.2, Prod.snd z18.2) (30 : Int)) fun z19 => if decide (Prod.fst z19 = (0 : Int)) = true then Option.bind (Zg k (Prod.fst z14.2.2, Prod.fst z19.2, Prod.snd z19.2) [(0 : Int), (1 : Int), (3 : Int), (4 : Int)]) fun z20 => some ((Prod.fst z14.2.2.2.2.2.2, Prod.fst z14.2.2.2.2.2.2.2, Prod.fst z14.2.2.2.2.2.2.2.2), Prod.snd z14.2.2.2.2.2.2.2.2, List.set z17.1 (Int.toNat z18.1) (Prod.fst z20, Prod.snd (List.getD z17.1 (Int.toNat z18.1) ((0 : Int), (0 : Int), (0 : Int)))), Prod.fst z20.2, Prod.snd z20.2) else if decide (Prod.fst z19 = (1 : Int)) = true then Option.bind (Zg k (Prod.fst z14.2.2, Prod.fst z19.2, Prod.snd z19.2) [(-1 : Int), (0 : Int), Prod.fst z14.2.2.2.2.2.2, wrap64 (Prod.fst z14.2.2.2.2.2.2 + (1 : Int))]) fun z21 => some ((Prod.fst z14.2.2.2.2.2.2, Prod.fst z14.2.2.2.2.2.2.2, Prod.fst z14.2.2.2.2.2.2.2.2), Prod.snd z14.2.2.2.2.2.2.2.2, List.set z17.1 (Int.toNat z18.1) (Prod.fst (List.getD z17.1 (Int.toNat z18.1) ((0 : Int), (0 : Int), (0 : Int))), Prod.fst z21, Prod.snd (Prod.snd (List.getD z17.1 (Int.toNat z18.1) ((0 : Int), (0 : Int), (0 : Int))))), Prod.fst z21.2, Prod.snd z21.2) else if decide (Prod.fst z19 = (2 : Int)) = true then Option.bind (Zg k (Prod.fst z14.2.2, Prod.fst z19.2, Prod.snd z19.2) [(-2 : Int), (-1 : Int), Prod.fst z14.2.2.2.2.2.2.2, wrap64 (Prod.fst z14.2.2.2.2.2.2.2 + (1 : Int))]) fun z22 => some ((Prod.fst z14.2.2.2.2.2.2, Prod.fst z14.2.2.2.2.2.2.2, Prod.fst z14.2.2.2.2.2.2.2.2), Prod.snd z14.2.2.2.2.2.2.2.2, List.set z17.1 (Int.toNat z18.1) (Prod.fst (List.getD z17.1 (Int.toNat z18.1) ((0 : Int), (0 : Int), (0 : Int))), Prod.fst (Prod.snd (List.getD z17.1 (Int.toNat z18.1) ((0 : Int), (0 : Int), (0 : Int)))), Prod.fst z22), Prod.fst z22.2, Prod.snd z22.2) else if decide (Prod.fst z19 = (3 : Int)) = true then if (1 : Int) ≤ (↑(List.length z17.1) : Int) then if (↑(List.length z17.1) : Int) ≤ (↑(List.length z17.1) : Int) then some ((Prod.fst z14.2.2.2.2.2.2, Prod.fst z14.2.2.2.2.2.2.2, Prod.fst z14.2.2.2.2.2.2.2.2), Prod.snd z14.2.2.2.2.2.2.2.2, List.drop (Int.toNat (1 : Int)) z17.1, Prod.fst z19.2, Prod.snd z19.2) else none else none else if decide (Prod.fst z19 = (4 : Int)) = true then Option.bind (Zg k (Prod.fst z14.2.2, Prod.fst z19.2, Prod.snd z19.2) [(-1 : Int), Prod.fst z14.2.2.2.2.2.2.2]) fun z23 => if (0 : Int) < (↑(List.length z14.2.2.2.2.2.2.2.2.2) : Int) then some ((Prod.fst z14.2.2.2.2.2.2, Prod.fst z14.2.2.2.2.2.2.2, Prod.fst z14.2.2.2.2.2.2.2.2), List.set z14.2.2.2.2.2.2.2.2.2 (Int.toNat (0 : Int)) z23.1, Prod.fst z17, Prod.fst z23.2, Prod.snd z23.2) else none else some ((Prod.fst z14.2.2.2.2.2.2, Prod.fst z14.2.2.2.2.2.2.2, Prod.fst z14.2.2.2.2.2.2.2.2), Prod.snd z14.2.2.2.2.2.2.2.2, Prod.fst z17, Prod.fst z19.2, Prod.snd z19.2) else none else none else some ((Prod.fst z14.2.2.2.2.2.2, Prod.fst z14.2.2.2.2.2.2.2, Prod.fst z14.2.2.2.2.2.2.2.2), Prod.snd z14.2.2.2.2.2.2.2.2, Prod.fst z17, Prod.fst z16.2, Prod.snd z16.2) else if decide (Prod.fst z16 = (1 : Int)) = true then Option.bind (Z8Z k z16.2.1 z16.2.2 z14.2.2.1 z14.2.2.2.1 z14.2.2.2.2.1 z14.2.2.2.2.2.1 z14.2.2.2.2.2.2.1 z14.2.2.2.2.2.2.2.1 z14.2.2.2.2.2.2.2.2.1 z14.2.2.2.2.2.2.2.2.2 z15) fun z86 => Option.bind (Zbp k (Prod.fst z86.2.2.2.2.2.2, Prod.fst z86.2.2.2.2.2.2.2, Prod.fst z86.2.2.2.2.2.2.2.2) [(Prod.fst z86.2.2.2.2.2.2.2.2.2.2, Prod.fst z86.2.2.2.2.2.2.2.2.2.2.2, Prod.fst z86.2.2.2.2.2.2.2.2.2.2.2.2), (Prod.fst z86.2.2.2.2.2.2.2.2.2.2.2.2.2, Prod.fst z86.2.2.2.2.2.2.2.2.2.2.2.2.2.2, Prod.snd z86.2.2.2.2.2.2.2.2.2.2.2.2.2.2)]) fun z87 => if (!z87) = true then Option.bind (Z6Q k (Prod.fst z86.2.2.2.2.2.2, Prod.fst z86.2.2.2.2.2.2.2, Prod.fst z86.2.2.2.2.2.2.2.2) [(Prod.fst z86.2.2.2.2.2.2.2.2.2.2, Prod.fst z86.2.2.2.2.2.2.2.2.2.2.2, Prod.fst z86.2.2.2.2.2.2.2.2.2.2.2.2)] z86.2.2.2.2.2.2.2.2.2.1) fun z88 => if decide ((↑(List.length z88.1) : Int) > (0 : Int)) = true then Option.bind (Z2 k (Prod.fst z86.2.2, Prod.fst z86, Prod.fst z86.2) (↑(List.length z88.1) : Int)) fun z89 => if (0 : Int) ≤ Prod.fst z89 then if Prod.fst z89 < (↑(List.length z88.1) : Int) then Option.bind (Z2 k (Prod.fst z86.2.2, Prod.fst z89.2, Prod.snd z89.2) (30 : Int)) fun z90 => if decide (Prod.fst z90 = (0 : Int)) = true then Option.bind (Zg k (Prod.fst z86.2.2, Prod.fst z90.2, Prod.snd z90.2) [(0 : Int), (1 : Int), (3 : Int), (4 : Int)]) fun z91 => some ((Prod.fst z86.2.2.2.2.2.2, Prod.fst z86.2.2.2.2.2.2.2, Prod.fst z86.2.2.2.2.2.2.2.2), Prod.fst z86.2.2.2.2.2.2.2.2.2, List.set z88.1 (Int.toNat z89.1) (Prod.fst z91, Prod.snd (List.getD z88.1 (Int.toNat z89.1) ((0 : Int), (0 : Int), (0 : Int)))), Prod.fst z91.2, Prod.snd z91.2) else if decide (Prod.fst z90 = (1 : Int)) = true then Option.bind (Zg k (Prod.fst z86.2.2, Prod.fst z90.2, Prod.snd z90.2) [(-1 : Int), (0 : Int), Prod.fst z86.2.2.2.2.2.2, wrap64 (Prod.fst z86.2.2.2.2.2.2 + (1 : Int))]) fun z92 => some ((Prod.fst z86.2.2.2.2.2.2, Prod.fst z86.2.2.2.2.2.2.2, Prod.fst z86.2.2.2.2.2.2.2.2), Prod.fst z86.2.2.2.2.2.2.2.2.2, List.set z88.1 (Int.toNat z89.1) (Prod.fst (List.getD z88.1 (Int.toNat z89.1) ((0 : Int), (0 : Int), (0 : Int))), Prod.fst z92, Prod.snd (Prod.snd (List.getD z88.1 (Int.toNat z89.1) ((0 : Int), (0 : Int), (0 : Int))))), Prod.fst z92.2, Prod.snd z92.2) else if decide (Prod.fst z90 = (2 : Int)) = true then Option.bind (Zg k (Prod.fst z86.2.2, Prod.fst z90.2, Prod.snd z90.2) [(-2 : Int), (-1 : Int), Prod.fst z86.2.2.2.2.2.2.2, wrap64 (Prod.fst z86.2.2.2.2.2.2.2 + (1 : Int))]) fun z93 => some ((Prod.fst z86.2.2.2.2.2.2, Prod.fst z86.2.2.2.2.2.2.2, Prod.fst z86.2.2.2.2.2.2.2.2), Prod.fst z86.2.2.2.2.2.2.2.2.2, List.set z88.1 (Int.toNat z89.1) (Prod.fst (List.getD z88.1 (Int.toNat z89.1) ((0 : Int), (0 : Int), (0 : Int))), Prod.fst (Prod.snd (List.getD z88.1 (Int.toNat z89.1) ((0 : Int), (0 : Int), (0 : Int)))), Prod.fst z93), Prod.fst z93.2, Prod.snd z93.2) else if decide (Prod.fst z90 = (3 : Int)) = true then if (1 : Int) ≤ (↑(List.length z88.1) : Int) then if (↑(List.length z88.1) : Int) ≤ (↑(List.length z88.1) : Int) then some ((Prod.fst z86.2.2.2.2.2.2, Prod.fst z86.2.2.2.2.2.2.2, Prod.fst z86.2.2.2.2.2.2.2.2), Prod.fst z86.2.2.2.2.2.2.2.2.2, List.drop (Int.toNat (1 : Int)) z88.1, Prod.fst z90.2, Prod.snd z90.2) else none else none else if decide (Prod.fst z90 = (4 : Int)) = true then Option.bind (Zg k (Prod.fst z86.2.2, Prod.fst z90.2, Prod.snd z90.2) [(-1 : Int), Prod.fst z86.2.2.2.2.2.2.2]) fun z94 => if (0 : Int) < (↑(List.length z86.2.2.2.2.2.2.2.2.2.1) : Int) then some ((Prod.fst z86.2.2.2.2.2.2, Prod.fst z86.2.2.2.2.2.2.2, Prod.fst z86.2.2.2.2.2.2.2.2), List.set z86.2.2.2.2.2.2.2.2.2.1 (Int.toNat (0 : Int)) z94.1, Prod.fst z88, Prod.fst z94.2, Prod.snd z94.2) else none else some ((Prod.fst z86.2.2.2.2.2.2, Prod.fst z86.2.2.2.2.2.2.2, Prod.fst z86.2.2.2.2.2.2.2.2), Prod.fst z86.2.2.2.2.2.2.2.2.2, Prod.fst z88, Prod.fst z90.2, Prod.snd z90.2) else none else none else some ((Prod.fst z86.2.2.2.2.2.2, Prod.fst z86.2.2.2.2.2.2.2, Prod.fst z86.2.2.2.2.2.2.2.2), Prod.fst z86.2.2.2.2.2.2.2.2.2, Prod.fst z88, Prod.fst z86, Prod.fst z86.2) else Option.bind (Z6Q k (Prod.fst z86.2.2.2.2.2.2, Prod.fst z86.2.2.2.2.2.2.2, Prod.fst z86.2.2.2.2.2.2.2.2) [(Prod.fst z86.2.2.2.2.2.2.2.2.2.2, Prod.fst z86.2.2.2.2.2.2.2.2.2.2.2, Prod.fst z86.2.2.2.2.2.2.2.2.2.2.2.2), (Prod.fst z86.2.2.2.2.2.2.2.2.2.2.2.2.2, Prod.fst z86.2.2.2.2.2.2.2.2.2.2.2.2.2.2, Prod.snd z86.2.2.2.2.2.2.2.2.2.2.2.2.2.2)] z86.2.2.2.2.2.2.2.2.2.1) fun z95 => if decide ((↑(List.length z95.1) : Int) > (0 : Int)) = true then Option.bind (Z2 k (Prod.fst z86.2.2, Prod.fst z86, Prod.fst z86.2) (↑(List.length z95.1) : Int)) fun z96 => if (0 : Int) ≤ Prod.fst z96 then if Prod.fst z96 < (↑(List.length z95.1) : Int) then Option.bind (Z2 k (Prod.fst z86.2.2, Prod.fst z96.2, Prod.snd z96.2) (30 : Int)) fun z97 => if decide (Prod.fst z97 = (0 : Int)) = true then Option.bind (Zg k (Prod.fst z86.2.2, Prod.fst z97.2, Prod.snd z97.2) [(0 : Int), (1 : Int), (3 : Int), (4 : Int)]) fun z98 => some ((Prod.fst z86.2.2.2.2.2.2, Prod.fst z86.2.2.2.2.2.2.2, Prod.fst z86.2.2.2.2.2.2.2.2), Prod.fst z86.2.2.2.2.2.2.2.2.2, List.set z95.1 (Int.toNat z96.1) (Prod.fst z98, Prod.snd (List.getD z95.1 (Int.toNat z96.1) ((0 : Int), (0 : Int), (0 : Int)))), Prod.fst z98.2, Prod.snd z98.2) else if decide (Prod.fst z97 = (1 : Int)) = true then Option.bind (Zg k (Prod.fst z86.2.2, Prod.fst z97.2, Prod.snd z97.2) [(-1 : Int), (0 : Int), Prod.fst z86.2.2.2.2.2.2, wrap64 (Prod.fst z86.2.2.2.2.2.2 + (1 : Int))]) fun z99 => some ((Prod.fst z86.2.2.2.2.2.2, Prod.fst z86.2.2.2.2.2.2.2, Prod.fst z86.2.2.2.2.2.2.2.2), Prod.fst z86.2.2.2.2.2.2.2.2.2, List.set z95.1 (Int.toNat z96.1) (Prod.fst (List.getD z95.1 (Int.toNat z96.1) ((0 : Int), (0 : Int), (0 : Int))), Prod.fst z99, Prod.snd (Prod.snd (List.getD z95.1 (Int.toNat z96.1) ((0 : Int), (0 : Int), (0 : Int))))), Prod.fst z99.2, Prod.snd z99.2) else if decide (Prod.fst z97 = (2 : Int)) = true then Option.bind (Zg k (Prod.fst z86.2.2, Prod.fst z97.2, Prod.snd z97.2) [(-2 : Int), (-1 : Int), Prod.fst z86.2.2.2.2.2.2.2, wrap64 (Prod.fst z86.2.2.2.2.2.2.2 + (1 : Int))]) fun z100 => some ((Prod.fst z86.2.2.2.2.2.2, Prod.fst z86.2.2.2.2.2.2.2, Prod.fst z86.2.2.2.2.2.2.2.2), Prod.fst z86.2.2.2.2.2.2.2.2.2, List.set z95.1 (Int.toNat z96.1) (Prod.fst (List.getD z95.1 (Int.toNat z96.1) ((0 : Int), (0 : Int), (0 : Int))), Prod.fst (Prod.snd (List.getD z95.1 (Int.toNat z96.1) ((0 : Int), (0 : Int), (0 : Int)))), Prod.fst z100), Prod.fst z100.2, Prod.snd z100.2) else if decide (Prod.fst z97 = (3 : Int)) = true then if (1 : Int) ≤ (↑(List.length z95.1) : Int) then if (↑(List.length z95.1) : Int) ≤ (↑(List.length z95.1) : Int) then some ((Prod.fst z86.2.2.2.2.2.2, Prod.fst z86.2.2.2.2.2.2.2, Prod.fst z86.2.2.2.2.2.2.2.2), Prod.fst z86.2.2.2.2.2.2.2.2.2, List.drop (Int.toNat (1 : Int)) z95.1, Prod.fst z97.2, Prod.snd z97.2) else none else none else if decide (Prod.fst z97 = (4 : Int)) = true then Option.bind (Zg k (Prod.fst z86.2.2, Prod.fst z97.2, Prod.snd z97.2) [(-1 : Int), Prod.fst z86.2.2.2.2.2.2.2]) fun z101 => if (0 : Int) < (↑(List.length z86.2.2.2.2.2.2.2.2.2.1) : Int) then some ((Prod.fst z86.2.2.2.2.2.2, Prod.fst z86.2.2.2.2.2.2.2, Prod.fst z86.2.2.2.2.2.2.2.2), List.set z86.2.2.2.2.2.2.2.2.2.1 (Int.toNat (0 : Int)) z101.1, Prod.fst z95, Prod.fst z101.2, Prod.snd z101.2) else none else some ((Prod.fst z86.2.2.2.2.2.2, Prod.fst z86.2.2.2.2.2.2.2, Prod.fst z86.2.2.2.2.2.2.2.2), Prod.fst z86.2.2.2.2.2.2.2.2.2, Prod.fst z95, Prod.fst z97.2, Prod.snd z97.2) else none else none else some ((Prod.fst z86.2.2.2.2.2.2, Prod.fst z86.2.2.2.2.2.2.2, Prod.fst z86.2.2.2.2.2.2.2.2), Prod.fst z86.2.2.2.2.2.2.2.2.2, Prod.fst z95, Prod.fst z86, Prod.fst z86.2) else Option.bind (Z2 k (Prod.fst z14.2.2, Prod.fst z16.2, Prod.snd z16.2) (↑(List.length z15) : Int)) fun z102 => if (0 : Int) ≤ Prod.fst z102 then if Prod.fst z102 < (↑(List.length z15) : Int) then Option.bind (Z6Q k (Prod.fst z14.2.2.2.2.2.2, Prod.fst z14.2.2.2.2.2.2.2, Prod.fst z14.2.2.2.2.2.2.2.2) [(Prod.fst (List.getD z15 (Int.toNat z102.1) ((0 : Int), (0 : Int), (0 : Int))), Prod.fst (Prod.snd (List.getD z15 (Int.toNat z102.1) ((0 : Int), (0 : Int), (0 : Int)))), Prod.snd (Prod.snd (List.getD z15 (Int.toNat z102.1) ((0 : Int), (0 : Int), (0 : Int)))))] z14.2.2.2.2.2.2.2.2.2) fun z103 => if decide ((↑(List.length z103.1) : Int) > (0 : Int)) = true then Option.bind (Z2 k (Prod.fst z14.2.2, Prod.fst z102.2, Prod.snd z102.2) (↑(List.length z103.1) : Int)) fun z104 => if (0 : Int) ≤ Prod.fst z104 then if Prod.fst z104 < (↑(List.length z103.1) : Int) then Option.bind (Z2 k (Prod.fst z14.2.2, Prod.fst z104.2, Prod.snd z104.2) (30 : Int)) fun z105 => if decide (Prod.fst z105 = (0 : Int)) = true then Option.bind (Zg k (Prod.fst z14.2.2, Prod.fst z105.2, Prod.snd z105.2) [(0 : Int), (1 : Int), (3 : Int), (4 : Int)]) fun z106 => some ((Prod.fst z14.2.2.2.2.2.2, Prod.fst z14.2.2.2.2.2.2.2, Prod.fst z14.2.2.2.2.2.2.2.2), Prod.snd z14.2.2.2.2.2.2.2.2, List.set z103.1 (Int.toNat z104.1) (Prod.fst z106, Prod.snd (List.getD z103.1 (Int.toNat z104.1) ((0 : Int), (0 : Int), (0 : Int)))), Prod.fst z106.2, Prod.snd z106.2) else if decide (Prod.fst z105 = (1 : Int)) = true then Option.bind (Zg k (Prod.fst z14.2.2, Prod.fst z105.2, Prod.snd z105.2) [(-1 : Int), (0 : Int), Prod.fst z14.2.2.2.2.2.2, wrap64 (Prod.fst z14.2.2.2.2.2.2 + (1 : Int))]) fun z107 => some ((Prod.fst z14.2.2.2.2.2.2, Prod.fst z14.2.2.2.2.2.2.2, Prod.fst z14.2.2.2.2.2.2.2.2), Prod.snd z14.2.2.2.2.2.2.2.2, List.set z103.1 (Int.toNat z104.1) (Prod.fst (List.getD z103.1 (Int.toNat z104.1) ((0 : Int), (0 : Int), (0 : Int))), Prod.fst z107, Prod.snd (Prod.snd (List.getD z103.1 (Int.toNat z104.1) ((0 : Int), (0 : Int), (0 : Int))))), Prod.fst z107.2, Prod.snd z107.2) else if decide (Prod.fst z105 = (2 : Int)) = true then Option.bind (Zg k (Prod.fst z14.2.2, Prod.fst z105.2, Prod.snd z105.2) [(-2 : Int), (-1 : Int), Prod.fst z14.2.2.2.2.2.2.2, wrap64 (Prod.fst z14.2.2.2.2.2.2.2 + (1 : Int))]) fun z108 => some ((Prod.fst z14.2.2.2.2.2.2, Prod.fst z14.2.2.2.2.2.2.2, Prod.fst z14.2.2.2.2.2.2.2.2), Prod.snd z14.2.2.2.2.2.2.2.2, List.set z103.1 (Int.toNat z104.1) (Prod.fst (List.getD z103.1 (Int.toNat z104.1) ((0 : Int), (0 : Int), (0 : Int))), Prod.fst (Prod.snd (List.getD z103.1 (Int.toNat z104.1) ((0 : Int), (0 : Int), (0 : Int)))), Prod.fst z108), Prod.fst z108.2, Prod.snd z108.2) else if decide (Prod.fst z105 = (3 : Int)) = true then if (1 : Int) ≤ (↑(List.length z103.1) : Int) then if (↑(List.length z103.1) : Int) ≤ (↑(List.length z103.1) : Int) then some ((Prod.fst z14.2.2.2.2.2.2, Prod.fst z14.2.2.2.2.2.2.2, Prod.fst z14.2.2.2.2.2.2.2.2), Prod.snd z14.2.2.2.2.2.2.2.2, List.drop (Int.toNat (1 : Int)) z103.1, Prod.fst z105.2, Prod.snd z105.2) else none else none else if decide (Prod.fst z105 = (4 : Int)) = true then Option.bind (Zg k (Prod.fst z14.2.2, Prod.fst z105.2, Prod.snd z105.2) [(-1 : Int), Prod.fst z14.2.2.2.2.2.2.2]) fun z109 => if (0 : Int) < (↑(List.length z14.2.2.2.2.2.2.2.2.2) : Int) then some ((Prod.fst z14.2.2.2.2.2.2, Prod.fst z14.2.2.2.2.2.2.2, Prod.fst z14.2.2.2.2.2.2.2.2), List.set z14.2.2.2.2.2.2.2.2.2 (Int.toNat (0 : Int)) z109.1, Prod.fst z103, Prod.fst z109.2, Prod.snd z109.2) else none else some ((Prod.fst z14.2.2.2.2.2.2, Prod.fst z14.2.2.2.2.2.2.2, Prod.fst z14.2.2.2.2.2.2.2.2), Prod.snd z14.2.2.2.2.2.2.2.2, Prod.fst z103, Prod.fst z105.2, Prod.snd z105.2) else none else none else some ((Prod.fst z14.2.2.2.2.2.2, Prod.fst z14.2.2.2.2.2.2.2, Prod.fst z14.2.2.2.2.2.2.2.2), Prod.snd z14.2.2.2.2.2.2.2.2, Prod.fst z103, Prod.fst z102.2, Prod.snd z102.2) else none else none
noncomputable def Z1z : FnDef := .of Zg0 Z1G ((Int × Int × List (Int × Int)) × List Int × List (Int × Int × Int) × Int × Int) (fun k x => Z5Y k x.1) Zf0 Zb8 Zke
noncomputable def Z1B : Code := Try.f149.body.getD .skip
noncomputable def Z0 : Ctx (Tup Z1G × OutD) := { T := T, G := [(111, ZJ.E), (197, Z1l.E), (177, Z1L.E), (133, Z2M.E), (150, Z1v.E), (148, Z1a.E), (122, Z4z.E), (123, Z56.E), (90, Z11.E)], mvs := [153], no := 2, n := 166, res := resOf T Zg0 Z1G Try.f149.results.toList, loops := [(1, Z2Q.E)], regs := [(22, Z5.E)], conds := [(25, ZC.E), (44, ZB.E)] }
theorem Z62 (k : Nat) : EnvOK Try.prog k Z0.G := (EnvOK.cons (Z2Y k) (EnvOK.cons (ZeL k) (EnvOK.cons (Zn1 k) (EnvOK.cons (ZdT k) (EnvOK.cons (Zb3 k) (EnvOK.cons (Z7B k) (EnvOK.cons (Zq1 k) (EnvOK.cons (Ztg k) (EnvOK.cons (Z6M k) (EnvOK.nil mixed))))))))))
noncomputable def Z7 : Array Oper := (findReg 22 Z1B).getD #[]
noncomputable abbrev U0 : TV := TV.sv (SV.at At.un)
noncomputable abbrev J0 (x : Int) : At := At.int .i64 x
noncomputable abbrev L0 (n : Nat) : TV := TV.sv (SV.at (At.sl n))
noncomputable abbrev P0 (n : Nat) : TV := TV.sv (SV.at (At.ptr n 0))
noncomputable abbrev T1 : Ty := Ty.int .i64
noncomputable abbrev T2 : Ty := Ty.pair T1 T1
noncomputable abbrev T3 : Ty := Ty.pair T1 T2
noncomputable def sets (l : List TV) (s : List (Nat × TV)) : List TV := s.foldl (fun a p => a.set p.1 p.2) l
noncomputable abbrev Z1b : Type := Int × Int × List Int × Int × Int × List (Int × Int) × Int × Int × List (Int × Int) × List Int × Int × Int × Int × Int × Int × Int
section
variable (k : Nat) (b1_1 : Int) (b1_2 : Int) (o2 : List Int) (b3_0 : Int) (b3_1 : Int) (o4 : List (Int × Int)) (b5_0 : Int) (b5_1 : Int) (o6 : List (Int × Int)) (o7 : List Int) (o8 : List (Int × Int × Int))
noncomputable def Z1s : List TV := [P0 1, U0, P0 3, U0, U0, P0 5, L0 7, U0, L0 8, U0, U0, U0, U0, U0, U0, U0, U0, U0, U0, U0, U0, U0, U0, U0, U0, U0, U0, U0, U0, U0, U0, U0, U0, U0, U0, U0, U0, U0, U0, U0, U0, U0, U0, U0, U0, U0, U0, U0, U0, U0, U0, U0, U0, U0, U0, U0, U0, U0, U0, U0, U0, U0, U0, U0, U0, U0, U0, U0, U0, U0, U0, U0, U0, U0, U0, L0 8, P0 1, L0 8, TV.sv (SV.at (J0 (↑(List.length o8) : Int))), U0, U0, U0, L0 8, P0 1, L0 8, U0, U0, U0, U0, U0, U0, U0, U0, U0, U0, U0, U0, U0, U0, U0, U0, U0, U0, U0, U0, U0, U0, U0, U0, U0, U0, U0, U0, U0, U0, U0, U0, U0, U0, U0, U0, U0, U0, U0, U0, U0, U0, U0, U0, U0, U0, U0, U0, U0, U0, U0, U0, U0, U0, U0, U0, U0, U0, U0, U0, U0, U0, U0, U0, U0, U0, U0, U0, U0, U0, U0, U0, U0, U0, U0, U0, U0, U0, U0, U0, U0]
noncomputable def ZU : Ob := Ob.fx (Ty.int .u8) o2
noncomputable def ZZ : Ob := Ob.box 53 [J0 b3_0, J0 b3_1, At.sl 4]
noncomputable def ZY : Ob := Ob.row true 79 T2 o4
noncomputable def ZW : Ob := Ob.box 53 [J0 b5_0, J0 b5_1, At.sl 6]
noncomputable def Z12 : Ob := Ob.row true 79 T2 o6
noncomputable def Z10 : Ob := Ob.row true 3 T1 o7
noncomputable def ZX : Ob := Ob.row true 77 T3 o8
noncomputable def ZV : Ob := Ob.box 77 [J0 (0 : Int), J0 (0 : Int), J0 (0 : Int)]
noncomputable def Zeu : Ob := Ob.box 114 [At.sl 2, J0 b1_1, At.int IntKind.u64 b1_2]
noncomputable def Z2K : TV := TV.sv (SV.at (J0 (↑(List.length o8) : Int)))
noncomputable def Zx (f0 : Int × Int × Int) (f1 : Int × Int × Int) : Option Z1b := some (Prod.fst f0.2, Prod.snd f0.2, o2, b3_0, b3_1, o4, b5_0, b5_1, o6, o7, Prod.fst (List.getD o8 (Int.toNat f1.1) ((0 : Int), (0 : Int), (0 : Int))), Prod.fst (Prod.snd (List.getD o8 (Int.toNat f1.1) ((0 : Int), (0 : Int), (0 : Int)))), Prod.snd (Prod.snd (List.getD o8 (Int.toNat f1.1) ((0 : Int), (0 : Int), (0 : Int)))), Prod.fst (List.getD o8 (Int.toNat f0.1) ((0 : Int), (0 : Int), (0 : Int))), Prod.fst (Prod.snd (List.getD o8 (Int.toNat f0.1) ((0 : Int), (0 : Int), (0 : Int)))), Prod.snd (Prod.snd (List.getD o8 (Int.toNat f0.1) ((0 : Int), (0 : Int), (0 : Int)))))
noncomputable def Zu (f0 : Int × Int × Int) : Option Z1b := Option.bind (Z2 k (o2, Prod.fst f0.2, Prod.snd f0.2) (↑(List.length o8) : Int)) fun y0 => if (0 : Int) ≤ Prod.fst y0 then if Prod.fst y0 < (↑(List.length o8) : Int) then some (Prod.fst y0.2, Prod.snd y0.2, o2, b3_0, b3_1, o4, b5_0, b5_1, o6, o7, Prod.fst (List.getD o8 (Int.toNat f0.1) ((0 : Int), (0 : Int), (0 : Int))), Prod.fst (Prod.snd (List.getD o8 (Int.toNat f0.1) ((0 : Int), (0 : Int), (0 : Int)))), Prod.snd (Prod.snd (List.getD o8 (Int.toNat f0.1) ((0 : Int), (0 : Int), (0 : Int)))), Prod.fst (List.getD o8 (Int.toNat y0.1) ((0 : Int), (0 : Int), (0 : Int))), Prod.fst (Prod.snd (List.getD o8 (Int.toNat y0.1) ((0 : Int), (0 : Int), (0 : Int)))), Prod.snd (Prod.snd (List.getD o8 (Int.toNat y0.1) ((0 : Int), (0 : Int), (0 : Int))))) else none else none
noncomputable def ZG : Option Z1b := Option.bind (Z2 k (o2, b1_1, b1_2) (↑(List.length o8) : Int)) fun y0 => if (0 : Int) ≤ Prod.fst y0 then if Prod.fst y0 < (↑(List.length o8) : Int) then Option.bind (Z2 k (o2, Prod.fst y0.2, Prod.snd y0.2) (↑(List.length o8) : Int)) fun y1 => if (0 : Int) ≤ Prod.fst y1 then if Prod.fst y1 < (↑(List.length o8) : Int) then some (Prod.fst y1.2, Prod.snd y1.2, o2, b3_0, b3_1, o4, b5_0, b5_1, o6, o7, Prod.fst (List.getD o8 (Int.toNat y0.1) ((0 : Int), (0 : Int), (0 : Int))), Prod.fst (Prod.snd (List.getD o8 (Int.toNat y0.1) ((0 : Int), (0 : Int), (0 : Int)))), Prod.snd (Prod.snd (List.getD o8 (Int.toNat y0.1) ((0 : Int), (0 : Int), (0 : Int)))), Prod.fst (List.getD o8 (Int.toNat y1.1) ((0 : Int), (0 : Int), (0 : Int))), Prod.fst (Prod.snd (List.getD o8 (Int.toNat y1.1) ((0 : Int), (0 : Int), (0 : Int)))), Prod.snd (Prod.snd (List.getD o8 (Int.toNat y1.1) ((0 : Int), (0 : Int), (0 : Int))))) else none else none else none else none
noncomputable def ZAL (z26 : Int × Int × Int) (z27 : Int × Int × Int) : Option (List Z1b) := execT Z0.G (stepOp Z0.T Z0.G Z0.mvs k) Z7 4 #[true, true, true, true, true, true, true, true, true, true, true, true, true, true, false, false, false, false] ⟨sets (Z1s o8) [(79, TV.sv (SV.at (J0 z26.1))), (80, TV.sv (SV.at (At.ep 8 T3 z26.1 0))), (81, TV.sv (SV.agg [J0 (Prod.fst (List.getD o8 (Int.toNat z26.1) ((0 : Int), (0 : Int), (0 : Int)))), J0 (Prod.fst (Prod.snd (List.getD o8 (Int.toNat z26.1) ((0 : Int), (0 : Int), (0 : Int))))), J0 (Prod.snd (Prod.snd (List.getD o8 (Int.toNat z26.1) ((0 : Int), (0 : Int), (0 : Int)))))])), (85, Z2K o8), (86, TV.sv (SV.at (J0 z27.1))), (87, TV.sv (SV.at (At.ep 8 T3 z27.1 0))), (88, TV.sv (SV.agg [J0 (Prod.fst (List.getD o8 (Int.toNat z27.1) ((0 : Int), (0 : Int), (0 : Int)))), J0 (Prod.fst (Prod.snd (List.getD o8 (Int.toNat z27.1) ((0 : Int), (0 : Int), (0 : Int))))), J0 (Prod.snd (Prod.snd (List.getD o8 (Int.toNat z27.1) ((0 : Int), (0 : Int), (0 : Int)))))]))], [Ob.ro, Ob.box 114 [At.sl 2, J0 z27.2.1, At.int IntKind.u64 z27.2.2], ZU o2, ZZ b3_0 b3_1, ZY o4, ZW b5_0 b5_1, Z12 o6, Z10 o7, ZX o8]⟩ (outK Z0 Z5)
theorem ZFg (z26 : Int × Int × Int) (z27 : Int × Int × Int) : ZAL k o2 b3_0 b3_1 o4 b5_0 b5_1 o6 o7 o8 z26 z27 = joinL (some [(Prod.fst z27.2, Prod.snd z27.2, o2, b3_0, b3_1, o4, b5_0, b5_1, o6, o7, Prod.fst (List.getD o8 (Int.toNat z26.1) ((0 : Int), (0 : Int), (0 : Int))), Prod.fst (Prod.snd (List.getD o8 (Int.toNat z26.1) ((0 : Int), (0 : Int), (0 : Int)))), Prod.snd (Prod.snd (List.getD o8 (Int.toNat z26.1) ((0 : Int), (0 : Int), (0 : Int)))), Prod.fst (List.getD o8 (Int.toNat z27.1) ((0 : Int), (0 : Int), (0 : Int))), Prod.fst (Prod.snd (List.getD o8 (Int.toNat z27.1) ((0 : Int), (0 : Int), (0 : Int)))), Prod.snd (Prod.snd (List.getD o8 (Int.toNat z27.1) ((0 : Int), (0 : Int), (0 : Int)))))]) (some [(Prod.fst z27.2, Prod.snd z27.2, o2, b3_0, b3_1, o4, b5_0, b5_1, o6, o7, Prod.fst (List.getD o8 (Int.toNat z26.1) ((0 : Int), (0 : Int), (0 : Int))), Prod.fst (Prod.snd (List.getD o8 (Int.toNat z26.1) ((0 : Int), (0 : Int), (0 : Int)))), Prod.snd (Prod.snd (List.getD o8 (Int.toNat z26.1) ((0 : Int), (0 : Int), (0 : Int)))), Prod.fst (List.getD o8 (Int.toNat z27.1) ((0 : Int), (0 : Int), (0 : Int))), Prod.fst (Prod.snd (List.getD o8 (Int.toNat z27.1) ((0 : Int), (0 : Int), (0 : Int)))), Prod.snd (Prod.snd (List.getD o8 (Int.toNat z27.1) ((0 : Int), (0 : Int), (0 : Int)))))]) := by kernel_rfl
theorem ZDD (z26 : Int × Int × Int) (z27 : Int × Int × Int) : ZAL k o2 b3_0 b3_1 o4 b5_0 b5_1 o6 o7 o8 z26 z27 = repl 2 (Zx o2 b3_0 b3_1 o4 b5_0 b5_1 o6 o7 o8 z27 z26) := by
 rw [ZFg]
 simp only [Zx, Zu, ZG, Zc, Zf, Za, Z9, Zb, Z8, if_true]
noncomputable def Zlm (z26 : Int × Int × Int) (z27 : Int × Int × Int) : Option (List Z1b) := execT Z0.G (stepOp Z0.T Z0.G Z0.mvs k) Z7 3 #[true, true, true, true, true, true, true, true, true, true, true, true, true, false, true, true, false, false] ⟨sets (Z1s o8) [(10, P0 9), (11, P0 10), (79, TV.sv (SV.at (J0 z26.1))), (80, TV.sv (SV.at (At.ep 8 T3 z26.1 0))), (81, TV.sv (SV.agg [J0 (Prod.fst (List.getD o8 (Int.toNat z26.1) ((0 : Int), (0 : Int), (0 : Int)))), J0 (Prod.fst (Prod.snd (List.getD o8 (Int.toNat z26.1) ((0 : Int), (0 : Int), (0 : Int))))), J0 (Prod.snd (Prod.snd (List.getD o8 (Int.toNat z26.1) ((0 : Int), (0 : Int), (0 : Int)))))])), (85, Z2K o8), (86, TV.sv (SV.at (J0 z27.1))), (87, TV.sv (SV.at (At.ep 8 T3 z27.1 0)))], [Ob.ro, Ob.box 114 [At.sl 2, J0 z27.2.1, At.int IntKind.u64 z27.2.2], ZU o2, ZZ b3_0 b3_1, ZY o4, ZW b5_0 b5_1, Z12 o6, Z10 o7, ZX o8, ZV, ZV]⟩ (outK Z0 Z5)
theorem ZF8 (z26 : Int × Int × Int) (z27 : Int × Int × Int) : Zlm k o2 b3_0 b3_1 o4 b5_0 b5_1 o6 o7 o8 z26 z27 = joinL (some [(Prod.fst z27.2, Prod.snd z27.2, o2, b3_0, b3_1, o4, b5_0, b5_1, o6, o7, Prod.fst (List.getD o8 (Int.toNat z26.1) ((0 : Int), (0 : Int), (0 : Int))), Prod.fst (Prod.snd (List.getD o8 (Int.toNat z26.1) ((0 : Int), (0 : Int), (0 : Int)))), Prod.snd (Prod.snd (List.getD o8 (Int.toNat z26.1) ((0 : Int), (0 : Int), (0 : Int)))), Prod.fst (List.getD o8 (Int.toNat z27.1) ((0 : Int), (0 : Int), (0 : Int))), Prod.fst (Prod.snd (List.getD o8 (Int.toNat z27.1) ((0 : Int), (0 : Int), (0 : Int)))), Prod.snd (Prod.snd (List.getD o8 (Int.toNat z27.1) ((0 : Int), (0 : Int), (0 : Int)))))]) (some [(Prod.fst z27.2, Prod.snd z27.2, o2, b3_0, b3_1, o4, b5_0, b5_1, o6, o7, Prod.fst (List.getD o8 (Int.toNat z26.1) ((0 : Int), (0 : Int), (0 : Int))), Prod.fst (Prod.snd (List.getD o8 (Int.toNat z26.1) ((0 : Int), (0 : Int), (0 : Int)))), Prod.snd (Prod.snd (List.getD o8 (Int.toNat z26.1) ((0 : Int), (0 : Int), (0 : Int)))), Prod.fst (List.getD o8 (Int.toNat z27.1) ((0 : Int), (0 : Int), (0 : Int))), Prod.fst (Prod.snd (List.getD o8 (Int.toNat z27.1) ((0 : Int), (0 : Int), (0 : Int)))), Prod.snd (Prod.snd (List.getD o8 (Int.toNat z27.1) ((0 : Int), (0 : Int), (0 : Int)))))]) := by kernel_rfl
theorem ZnU (z26 : Int × Int × Int) (z27 : Int × Int × Int) : Zlm k o2 b3_0 b3_1 o4 b5_0 b5_1 o6 o7 o8 z26 z27 = repl 2 (Zx o2 b3_0 b3_1 o4 b5_0 b5_1 o6 o7 o8 z27 z26) := by
 rw [ZF8]
 simp only [Zx, Zu, ZG, Zc, Zf, Za, Z9, Zb, Z8, if_true]
noncomputable def Zxq (z26 : Int × Int × Int) (z27 : Int × Int × Int) : Option (List Z1b) := execT Z0.G (stepOp Z0.T Z0.G Z0.mvs k) Z7 4 #[true, true, true, true, true, true, true, true, true, true, true, true, true, false, true, false, false, false] ⟨sets (Z1s o8) [(10, P0 9), (79, TV.sv (SV.at (J0 z26.1))), (80, TV.sv (SV.at (At.ep 8 T3 z26.1 0))), (81, TV.sv (SV.agg [J0 (Prod.fst (List.getD o8 (Int.toNat z26.1) ((0 : Int), (0 : Int), (0 : Int)))), J0 (Prod.fst (Prod.snd (List.getD o8 (Int.toNat z26.1) ((0 : Int), (0 : Int), (0 : Int))))), J0 (Prod.snd (Prod.snd (List.getD o8 (Int.toNat z26.1) ((0 : Int), (0 : Int), (0 : Int)))))])), (85, Z2K o8), (86, TV.sv (SV.at (J0 z27.1))), (87, TV.sv (SV.at (At.ep 8 T3 z27.1 0)))], [Ob.ro, Ob.box 114 [At.sl 2, J0 z27.2.1, At.int IntKind.u64 z27.2.2], ZU o2, ZZ b3_0 b3_1, ZY o4, ZW b5_0 b5_1, Z12 o6, Z10 o7, ZX o8, ZV]⟩ (outK Z0 Z5)
theorem ZF6 (z26 : Int × Int × Int) (z27 : Int × Int × Int) : Zxq k o2 b3_0 b3_1 o4 b5_0 b5_1 o6 o7 o8 z26 z27 = joinL (some [(Prod.fst z27.2, Prod.snd z27.2, o2, b3_0, b3_1, o4, b5_0, b5_1, o6, o7, Prod.fst (List.getD o8 (Int.toNat z26.1) ((0 : Int), (0 : Int), (0 : Int))), Prod.fst (Prod.snd (List.getD o8 (Int.toNat z26.1) ((0 : Int), (0 : Int), (0 : Int)))), Prod.snd (Prod.snd (List.getD o8 (Int.toNat z26.1) ((0 : Int), (0 : Int), (0 : Int)))), Prod.fst (List.getD o8 (Int.toNat z27.1) ((0 : Int), (0 : Int), (0 : Int))), Prod.fst (Prod.snd (List.getD o8 (Int.toNat z27.1) ((0 : Int), (0 : Int), (0 : Int)))), Prod.snd (Prod.snd (List.getD o8 (Int.toNat z27.1) ((0 : Int), (0 : Int), (0 : Int)))))]) (Zlm k o2 b3_0 b3_1 o4 b5_0 b5_1 o6 o7 o8 z26 z27) := by kernel_rfl
theorem ZB5 (z26 : Int × Int × Int) (z27 : Int × Int × Int) : Zxq k o2 b3_0 b3_1 o4 b5_0 b5_1 o6 o7 o8 z26 z27 = repl 3 (Zx o2 b3_0 b3_1 o4 b5_0 b5_1 o6 o7 o8 z27 z26) := by
 rw [ZF6]
 simp only [ZnU, Zx, Zu, ZG, Zc, Zf, Za, Z9, Zb, Z8, if_true]
noncomputable def Zlg (z26 : Int × Int × Int) (z27 : Int × Int × Int) : Option (List Z1b) := execT Z0.G (stepOp Z0.T Z0.G Z0.mvs k) Z7 3 #[true, true, true, true, true, true, true, true, true, true, true, true, true, false, true, true, false, false] ⟨sets (Z1s o8) [(10, P0 10), (11, P0 9), (79, TV.sv (SV.at (J0 z26.1))), (80, TV.sv (SV.at (At.ep 8 T3 z26.1 0))), (81, TV.sv (SV.agg [J0 (Prod.fst (List.getD o8 (Int.toNat z26.1) ((0 : Int), (0 : Int), (0 : Int)))), J0 (Prod.fst (Prod.snd (List.getD o8 (Int.toNat z26.1) ((0 : Int), (0 : Int), (0 : Int))))), J0 (Prod.snd (Prod.snd (List.getD o8 (Int.toNat z26.1) ((0 : Int), (0 : Int), (0 : Int)))))])), (85, Z2K o8), (86, TV.sv (SV.at (J0 z27.1))), (87, TV.sv (SV.at (At.ep 8 T3 z27.1 0)))], [Ob.ro, Ob.box 114 [At.sl 2, J0 z27.2.1, At.int IntKind.u64 z27.2.2], ZU o2, ZZ b3_0 b3_1, ZY o4, ZW b5_0 b5_1, Z12 o6, Z10 o7, ZX o8, ZV, ZV]⟩ (outK Z0 Z5)
theorem ZF4 (z26 : Int × Int × Int) (z27 : Int × Int × Int) : Zlg k o2 b3_0 b3_1 o4 b5_0 b5_1 o6 o7 o8 z26 z27 = joinL (some [(Prod.fst z27.2, Prod.snd z27.2, o2, b3_0, b3_1, o4, b5_0, b5_1, o6, o7, Prod.fst (List.getD o8 (Int.toNat z26.1) ((0 : Int), (0 : Int), (0 : Int))), Prod.fst (Prod.snd (List.getD o8 (Int.toNat z26.1) ((0 : Int), (0 : Int), (0 : Int)))), Prod.snd (Prod.snd (List.getD o8 (Int.toNat z26.1) ((0 : Int), (0 : Int), (0 : Int)))), Prod.fst (List.getD o8 (Int.toNat z27.1) ((0 : Int), (0 : Int), (0 : Int))), Prod.fst (Prod.snd (List.getD o8 (Int.toNat z27.1) ((0 : Int), (0 : Int), (0 : Int)))), Prod.snd (Prod.snd (List.getD o8 (Int.toNat z27.1) ((0 : Int), (0 : Int), (0 : Int)))))]) (some [(Prod.fst z27.2, Prod.snd z27.2, o2, b3_0, b3_1, o4, b5_0, b5_1, o6, o7, Prod.fst (List.getD o8 (Int.toNat z26.1) ((0 : Int), (0 : Int), (0 : Int))), Prod.fst (Prod.snd (List.getD o8 (Int.toNat z26.1) ((0 : Int), (0 : Int), (0 : Int)))), Prod.snd (Prod.snd (List.getD o8 (Int.toNat z26.1) ((0 : Int), (0 : Int), (0 : Int)))), Prod.fst (List.getD o8 (Int.toNat z27.1) ((0 : Int), (0 : Int), (0 : Int))), Prod.fst (Prod.snd (List.getD o8 (Int.toNat z27.1) ((0 : Int), (0 : Int), (0 : Int)))), Prod.snd (Prod.snd (List.getD o8 (Int.toNat z27.1) ((0 : Int), (0 : Int), (0 : Int)))))]) := by kernel_rfl
theorem ZnA (z26 : Int × Int × Int) (z27 : Int × Int × Int) : Zlg k o2 b3_0 b3_1 o4 b5_0 b5_1 o6 o7 o8 z26 z27 = repl 2 (Zx o2 b3_0 b3_1 o4 b5_0 b5_1 o6 o7 o8 z27 z26) := by
 rw [ZF4]
 simp only [Zx, Zu, ZG, Zc, Zf, Za, Z9, Zb, Z8, if_true]
noncomputable def ZxJ (z26 : Int × Int × Int) (z27 : Int × Int × Int) : Option (List Z1b) := execT Z0.G (stepOp Z0.T Z0.G Z0.mvs k) Z7 4 #[true, true, true, true, true, true, true, true, true, true, true, true, true, false, false, true, false, false] ⟨sets (Z1s o8) [(11, P0 9), (79, TV.sv (SV.at (J0 z26.1))), (80, TV.sv (SV.at (At.ep 8 T3 z26.1 0))), (81, TV.sv (SV.agg [J0 (Prod.fst (List.getD o8 (Int.toNat z26.1) ((0 : Int), (0 : Int), (0 : Int)))), J0 (Prod.fst (Prod.snd (List.getD o8 (Int.toNat z26.1) ((0 : Int), (0 : Int), (0 : Int))))), J0 (Prod.snd (Prod.snd (List.getD o8 (Int.toNat z26.1) ((0 : Int), (0 : Int), (0 : Int)))))])), (85, Z2K o8), (86, TV.sv (SV.at (J0 z27.1))), (87, TV.sv (SV.at (At.ep 8 T3 z27.1 0)))], [Ob.ro, Ob.box 114 [At.sl 2, J0 z27.2.1, At.int IntKind.u64 z27.2.2], ZU o2, ZZ b3_0 b3_1, ZY o4, ZW b5_0 b5_1, Z12 o6, Z10 o7, ZX o8, ZV]⟩ (outK Z0 Z5)
theorem ZFa (z26 : Int × Int × Int) (z27 : Int × Int × Int) : ZxJ k o2 b3_0 b3_1 o4 b5_0 b5_1 o6 o7 o8 z26 z27 = joinL (some [(Prod.fst z27.2, Prod.snd z27.2, o2, b3_0, b3_1, o4, b5_0, b5_1, o6, o7, Prod.fst (List.getD o8 (Int.toNat z26.1) ((0 : Int), (0 : Int), (0 : Int))), Prod.fst (Prod.snd (List.getD o8 (Int.toNat z26.1) ((0 : Int), (0 : Int), (0 : Int)))), Prod.snd (Prod.snd (List.getD o8 (Int.toNat z26.1) ((0 : Int), (0 : Int), (0 : Int)))), Prod.fst (List.getD o8 (Int.toNat z27.1) ((0 : Int), (0 : Int), (0 : Int))), Prod.fst (Prod.snd (List.getD o8 (Int.toNat z27.1) ((0 : Int), (0 : Int), (0 : Int)))), Prod.snd (Prod.snd (List.getD o8 (Int.toNat z27.1) ((0 : Int), (0 : Int), (0 : Int)))))]) (Zlg k o2 b3_0 b3_1 o4 b5_0 b5_1 o6 o7 o8 z26 z27) := by kernel_rfl
theorem ZAR (z26 : Int × Int × Int) (z27 : Int × Int × Int) : ZxJ k o2 b3_0 b3_1 o4 b5_0 b5_1 o6 o7 o8 z26 z27 = repl 3 (Zx o2 b3_0 b3_1 o4 b5_0 b5_1 o6 o7 o8 z27 z26) := by
 rw [ZFa]
 simp only [ZnA, Zx, Zu, ZG, Zc, Zf, Za, Z9, Zb, Z8, if_true]
noncomputable def ZAN (z26 : Int × Int × Int) (z27 : Int × Int × Int) : Option (List Z1b) := execT Z0.G (stepOp Z0.T Z0.G Z0.mvs k) Z7 5 #[true, true, true, true, true, true, true, true, true, true, true, true, true, false, false, false, false, false] ⟨sets (Z1s o8) [(79, TV.sv (SV.at (J0 z26.1))), (80, TV.sv (SV.at (At.ep 8 T3 z26.1 0))), (81, TV.sv (SV.agg [J0 (Prod.fst (List.getD o8 (Int.toNat z26.1) ((0 : Int), (0 : Int), (0 : Int)))), J0 (Prod.fst (Prod.snd (List.getD o8 (Int.toNat z26.1) ((0 : Int), (0 : Int), (0 : Int))))), J0 (Prod.snd (Prod.snd (List.getD o8 (Int.toNat z26.1) ((0 : Int), (0 : Int), (0 : Int)))))])), (85, Z2K o8), (86, TV.sv (SV.at (J0 z27.1))), (87, TV.sv (SV.at (At.ep 8 T3 z27.1 0)))], [Ob.ro, Ob.box 114 [At.sl 2, J0 z27.2.1, At.int IntKind.u64 z27.2.2], ZU o2, ZZ b3_0 b3_1, ZY o4, ZW b5_0 b5_1, Z12 o6, Z10 o7, ZX o8]⟩ (outK Z0 Z5)
theorem ZF9 (z26 : Int × Int × Int) (z27 : Int × Int × Int) : ZAN k o2 b3_0 b3_1 o4 b5_0 b5_1 o6 o7 o8 z26 z27 = joinL (ZAL k o2 b3_0 b3_1 o4 b5_0 b5_1 o6 o7 o8 z26 z27) (joinL (Zxq k o2 b3_0 b3_1 o4 b5_0 b5_1 o6 o7 o8 z26 z27) (ZxJ k o2 b3_0 b3_1 o4 b5_0 b5_1 o6 o7 o8 z26 z27)) := by kernel_rfl
theorem ZDR (z26 : Int × Int × Int) (z27 : Int × Int × Int) : ZAN k o2 b3_0 b3_1 o4 b5_0 b5_1 o6 o7 o8 z26 z27 = repl 8 (Zx o2 b3_0 b3_1 o4 b5_0 b5_1 o6 o7 o8 z27 z26) := by
 rw [ZF9]
 simp only [ZDD, ZB5, ZAR, Zx, Zu, ZG, Zc, Zf, Za, Z9, Zb, Z8, if_true]
noncomputable def Zyd (z26 : Int × Int × Int) : Option (List Z1b) := execT Z0.G (stepOp Z0.T Z0.G Z0.mvs k) Z7 6 #[true, true, true, true, true, true, true, true, true, true, true, false, false, false, true, false, false, false] ⟨sets (Z1s o8) [(10, P0 9), (79, TV.sv (SV.at (J0 z26.1))), (80, TV.sv (SV.at (At.ep 8 T3 z26.1 0))), (81, TV.sv (SV.agg [J0 (Prod.fst (List.getD o8 (Int.toNat z26.1) ((0 : Int), (0 : Int), (0 : Int)))), J0 (Prod.fst (Prod.snd (List.getD o8 (Int.toNat z26.1) ((0 : Int), (0 : Int), (0 : Int))))), J0 (Prod.snd (Prod.snd (List.getD o8 (Int.toNat z26.1) ((0 : Int), (0 : Int), (0 : Int)))))])), (85, Z2K o8)], [Ob.ro, Ob.box 114 [At.sl 2, J0 z26.2.1, At.int IntKind.u64 z26.2.2], ZU o2, ZZ b3_0 b3_1, ZY o4, ZW b5_0 b5_1, Z12 o6, Z10 o7, ZX o8, ZV]⟩ (outK Z0 Z5)
theorem ZF1 (z26 : Int × Int × Int) : Zyd k o2 b3_0 b3_1 o4 b5_0 b5_1 o6 o7 o8 z26 = joinL (Option.bind (Z2 k (o2, Prod.fst z26.2, Prod.snd z26.2) (↑(List.length o8) : Int)) fun z28 => if (0 : Int) ≤ Prod.fst z28 then if Prod.fst z28 < (↑(List.length o8) : Int) then Zxq k o2 b3_0 b3_1 o4 b5_0 b5_1 o6 o7 o8 z26 z28 else none else none) (Option.bind (Z2 k (o2, Prod.fst z26.2, Prod.snd z26.2) (↑(List.length o8) : Int)) fun z29 => if (0 : Int) ≤ Prod.fst z29 then if Prod.fst z29 < (↑(List.length o8) : Int) then Zlm k o2 b3_0 b3_1 o4 b5_0 b5_1 o6 o7 o8 z26 z29 else none else none) := by kernel_rfl
theorem ZBu (z26 : Int × Int × Int) : Zyd k o2 b3_0 b3_1 o4 b5_0 b5_1 o6 o7 o8 z26 = repl 5 (Zu k o2 b3_0 b3_1 o4 b5_0 b5_1 o6 o7 o8 z26) := by
 rw [ZF1]
 simp only [ZB5, ZnU, Zx, Zu, ZG, Zc, Zf, Za, Z9, Zb, Z8, if_true]
noncomputable def ZxQ (z26 : Int × Int × Int) : Option (List Z1b) := execT Z0.G (stepOp Z0.T Z0.G Z0.mvs k) Z7 6 #[true, true, true, true, true, true, true, true, true, true, true, false, false, false, false, true, false, false] ⟨sets (Z1s o8) [(11, P0 9), (79, TV.sv (SV.at (J0 z26.1))), (80, TV.sv (SV.at (At.ep 8 T3 z26.1 0))), (81, TV.sv (SV.agg [J0 (Prod.fst (List.getD o8 (Int.toNat z26.1) ((0 : Int), (0 : Int), (0 : Int)))), J0 (Prod.fst (Prod.snd (List.getD o8 (Int.toNat z26.1) ((0 : Int), (0 : Int), (0 : Int))))), J0 (Prod.snd (Prod.snd (List.getD o8 (Int.toNat z26.1) ((0 : Int), (0 : Int), (0 : Int)))))])), (85, Z2K o8)], [Ob.ro, Ob.box 114 [At.sl 2, J0 z26.2.1, At.int IntKind.u64 z26.2.2], ZU o2, ZZ b3_0 b3_1, ZY o4, ZW b5_0 b5_1, Z12 o6, Z10 o7, ZX o8, ZV]⟩ (outK Z0 Z5)
theorem ZFj (z26 : Int × Int × Int) : ZxQ k o2 b3_0 b3_1 o4 b5_0 b5_1 o6 o7 o8 z26 = joinL (Option.bind (Z2 k (o2, Prod.fst z26.2, Prod.snd z26.2) (↑(List.length o8) : Int)) fun z31 => if (0 : Int) ≤ Prod.fst z31 then if Prod.fst z31 < (↑(List.length o8) : Int) then ZxJ k o2 b3_0 b3_1 o4 b5_0 b5_1 o6 o7 o8 z26 z31 else none else none) (Option.bind (Z2 k (o2, Prod.fst z26.2, Prod.snd z26.2) (↑(List.length o8) : Int)) fun z32 => if (0 : Int) ≤ Prod.fst z32 then if Prod.fst z32 < (↑(List.length o8) : Int) then Zlg k o2 b3_0 b3_1 o4 b5_0 b5_1 o6 o7 o8 z26 z32 else none else none) := by kernel_rfl
theorem ZAV (z26 : Int × Int × Int) : ZxQ k o2 b3_0 b3_1 o4 b5_0 b5_1 o6 o7 o8 z26 = repl 5 (Zu k o2 b3_0 b3_1 o4 b5_0 b5_1 o6 o7 o8 z26) := by
 rw [ZFj]
 simp only [ZAR, ZnA, Zx, Zu, ZG, Zc, Zf, Za, Z9, Zb, Z8, if_true]
noncomputable def ZAK (z26 : Int × Int × Int) : Option (List Z1b) := execT Z0.G (stepOp Z0.T Z0.G Z0.mvs k) Z7 7 #[true, true, true, true, true, true, true, true, true, true, true, false, false, false, false, false, false, false] ⟨sets (Z1s o8) [(79, TV.sv (SV.at (J0 z26.1))), (80, TV.sv (SV.at (At.ep 8 T3 z26.1 0))), (81, TV.sv (SV.agg [J0 (Prod.fst (List.getD o8 (Int.toNat z26.1) ((0 : Int), (0 : Int), (0 : Int)))), J0 (Prod.fst (Prod.snd (List.getD o8 (Int.toNat z26.1) ((0 : Int), (0 : Int), (0 : Int))))), J0 (Prod.snd (Prod.snd (List.getD o8 (Int.toNat z26.1) ((0 : Int), (0 : Int), (0 : Int)))))])), (85, Z2K o8)], [Ob.ro, Ob.box 114 [At.sl 2, J0 z26.2.1, At.int IntKind.u64 z26.2.2], ZU o2, ZZ b3_0 b3_1, ZY o4, ZW b5_0 b5_1, Z12 o6, Z10 o7, ZX o8]⟩ (outK Z0 Z5)
theorem ZFi (z26 : Int × Int × Int) : ZAK k o2 b3_0 b3_1 o4 b5_0 b5_1 o6 o7 o8 z26 = joinL (Option.bind (Z2 k (o2, Prod.fst z26.2, Prod.snd z26.2) (↑(List.length o8) : Int)) fun z27 => if (0 : Int) ≤ Prod.fst z27 then if Prod.fst z27 < (↑(List.length o8) : Int) then ZAN k o2 b3_0 b3_1 o4 b5_0 b5_1 o6 o7 o8 z26 z27 else none else none) (joinL (Zyd k o2 b3_0 b3_1 o4 b5_0 b5_1 o6 o7 o8 z26) (ZxQ k o2 b3_0 b3_1 o4 b5_0 b5_1 o6 o7 o8 z26)) := by kernel_rfl
theorem ZDw (z26 : Int × Int × Int) : ZAK k o2 b3_0 b3_1 o4 b5_0 b5_1 o6 o7 o8 z26 = repl 18 (Zu k o2 b3_0 b3_1 o4 b5_0 b5_1 o6 o7 o8 z26) := by
 rw [ZFi]
 simp only [ZDR, ZBu, ZAV, Zx, Zu, ZG, Zc, Zf, Za, Z9, Zb, Z8, if_true]
noncomputable def ZAM (z26 : Int × Int × Int) : Option (List Z1b) := execT Z0.G (stepOp Z0.T Z0.G Z0.mvs k) Z7 7 #[true, true, true, true, true, true, true, true, true, true, false, false, false, false, true, false, false, false] ⟨sets (Z1s o8) [(10, P0 9), (79, TV.sv (SV.at (J0 z26.1))), (80, TV.sv (SV.at (At.ep 8 T3 z26.1 0))), (81, TV.sv (SV.agg [J0 (Prod.fst (List.getD o8 (Int.toNat z26.1) ((0 : Int), (0 : Int), (0 : Int)))), J0 (Prod.fst (Prod.snd (List.getD o8 (Int.toNat z26.1) ((0 : Int), (0 : Int), (0 : Int))))), J0 (Prod.snd (Prod.snd (List.getD o8 (Int.toNat z26.1) ((0 : Int), (0 : Int), (0 : Int)))))]))], [Ob.ro, Ob.box 114 [At.sl 2, J0 z26.2.1, At.int IntKind.u64 z26.2.2], ZU o2, ZZ b3_0 b3_1, ZY o4, ZW b5_0 b5_1, Z12 o6, Z10 o7, ZX o8, ZV]⟩ (outK Z0 Z5)
theorem ZFd (z26 : Int × Int × Int) : ZAM k o2 b3_0 b3_1 o4 b5_0 b5_1 o6 o7 o8 z26 = joinL (Zyd k o2 b3_0 b3_1 o4 b5_0 b5_1 o6 o7 o8 z26) (Option.bind (Z2 k (o2, Prod.fst z26.2, Prod.snd z26.2) (↑(List.length o8) : Int)) fun z35 => if (0 : Int) ≤ Prod.fst z35 then if Prod.fst z35 < (↑(List.length o8) : Int) then Zlm k o2 b3_0 b3_1 o4 b5_0 b5_1 o6 o7 o8 z26 z35 else none else none) := by kernel_rfl
theorem ZDV (z26 : Int × Int × Int) : ZAM k o2 b3_0 b3_1 o4 b5_0 b5_1 o6 o7 o8 z26 = repl 7 (Zu k o2 b3_0 b3_1 o4 b5_0 b5_1 o6 o7 o8 z26) := by
 rw [ZFd]
 simp only [ZBu, ZnU, Zx, Zu, ZG, Zc, Zf, Za, Z9, Zb, Z8, if_true]
noncomputable def ZxY (z26 : Int × Int × Int) : Option (List Z1b) := execT Z0.G (stepOp Z0.T Z0.G Z0.mvs k) Z7 7 #[true, true, true, true, true, true, true, true, true, true, false, false, false, false, false, true, false, false] ⟨sets (Z1s o8) [(11, P0 9), (79, TV.sv (SV.at (J0 z26.1))), (80, TV.sv (SV.at (At.ep 8 T3 z26.1 0))), (81, TV.sv (SV.agg [J0 (Prod.fst (List.getD o8 (Int.toNat z26.1) ((0 : Int), (0 : Int), (0 : Int)))), J0 (Prod.fst (Prod.snd (List.getD o8 (Int.toNat z26.1) ((0 : Int), (0 : Int), (0 : Int))))), J0 (Prod.snd (Prod.snd (List.getD o8 (Int.toNat z26.1) ((0 : Int), (0 : Int), (0 : Int)))))]))], [Ob.ro, Ob.box 114 [At.sl 2, J0 z26.2.1, At.int IntKind.u64 z26.2.2], ZU o2, ZZ b3_0 b3_1, ZY o4, ZW b5_0 b5_1, Z12 o6, Z10 o7, ZX o8, ZV]⟩ (outK Z0 Z5)
theorem ZEN (z26 : Int × Int × Int) : ZxY k o2 b3_0 b3_1 o4 b5_0 b5_1 o6 o7 o8 z26 = joinL (ZxQ k o2 b3_0 b3_1 o4 b5_0 b5_1 o6 o7 o8 z26) (Option.bind (Z2 k (o2, Prod.fst z26.2, Prod.snd z26.2) (↑(List.length o8) : Int)) fun z37 => if (0 : Int) ≤ Prod.fst z37 then if Prod.fst z37 < (↑(List.length o8) : Int) then Zlg k o2 b3_0 b3_1 o4 b5_0 b5_1 o6 o7 o8 z26 z37 else none else none) := by kernel_rfl
theorem ZCV (z26 : Int × Int × Int) : ZxY k o2 b3_0 b3_1 o4 b5_0 b5_1 o6 o7 o8 z26 = repl 7 (Zu k o2 b3_0 b3_1 o4 b5_0 b5_1 o6 o7 o8 z26) := by
 rw [ZEN]
 simp only [ZAV, ZnA, Zx, Zu, ZG, Zc, Zf, Za, Z9, Zb, Z8, if_true]
noncomputable def ZB4 (z26 : Int × Int × Int) : Option (List Z1b) := execT Z0.G (stepOp Z0.T Z0.G Z0.mvs k) Z7 8 #[true, true, true, true, true, true, true, true, true, true, false, false, false, false, false, false, false, false] ⟨sets (Z1s o8) [(79, TV.sv (SV.at (J0 z26.1))), (80, TV.sv (SV.at (At.ep 8 T3 z26.1 0))), (81, TV.sv (SV.agg [J0 (Prod.fst (List.getD o8 (Int.toNat z26.1) ((0 : Int), (0 : Int), (0 : Int)))), J0 (Prod.fst (Prod.snd (List.getD o8 (Int.toNat z26.1) ((0 : Int), (0 : Int), (0 : Int))))), J0 (Prod.snd (Prod.snd (List.getD o8 (Int.toNat z26.1) ((0 : Int), (0 : Int), (0 : Int)))))]))], [Ob.ro, Ob.box 114 [At.sl 2, J0 z26.2.1, At.int IntKind.u64 z26.2.2], ZU o2, ZZ b3_0 b3_1, ZY o4, ZW b5_0 b5_1, Z12 o6, Z10 o7, ZX o8]⟩ (outK Z0 Z5)
theorem ZEu (z26 : Int × Int × Int) : ZB4 k o2 b3_0 b3_1 o4 b5_0 b5_1 o6 o7 o8 z26 = joinL (ZAK k o2 b3_0 b3_1 o4 b5_0 b5_1 o6 o7 o8 z26) (joinL (ZAM k o2 b3_0 b3_1 o4 b5_0 b5_1 o6 o7 o8 z26) (ZxY k o2 b3_0 b3_1 o4 b5_0 b5_1 o6 o7 o8 z26)) := by kernel_rfl
theorem ZEx (z26 : Int × Int × Int) : ZB4 k o2 b3_0 b3_1 o4 b5_0 b5_1 o6 o7 o8 z26 = repl 32 (Zu k o2 b3_0 b3_1 o4 b5_0 b5_1 o6 o7 o8 z26) := by
 rw [ZEu]
 simp only [ZDw, ZDV, ZCV, Zx, Zu, ZG, Zc, Zf, Za, Z9, Zb, Z8, if_true]
noncomputable def Zyw (z26 : Int × Int × Int) (z40 : Int × Int × Int) : Option (List Z1b) := execT Z0.G (stepOp Z0.T Z0.G Z0.mvs k) Z7 4 #[true, true, true, true, true, true, false, true, true, true, true, true, true, true, true, false, false, false] ⟨sets (Z1s o8) [(10, P0 9), (79, TV.sv (SV.at (J0 z26.1))), (80, TV.sv (SV.at (At.ep 8 T3 z26.1 0))), (85, Z2K o8), (86, TV.sv (SV.at (J0 z40.1))), (87, TV.sv (SV.at (At.ep 8 T3 z40.1 0))), (88, TV.sv (SV.agg [J0 (Prod.fst (List.getD o8 (Int.toNat z40.1) ((0 : Int), (0 : Int), (0 : Int)))), J0 (Prod.fst (Prod.snd (List.getD o8 (Int.toNat z40.1) ((0 : Int), (0 : Int), (0 : Int))))), J0 (Prod.snd (Prod.snd (List.getD o8 (Int.toNat z40.1) ((0 : Int), (0 : Int), (0 : Int)))))]))], [Ob.ro, Ob.box 114 [At.sl 2, J0 z40.2.1, At.int IntKind.u64 z40.2.2], ZU o2, ZZ b3_0 b3_1, ZY o4, ZW b5_0 b5_1, Z12 o6, Z10 o7, ZX o8, ZV]⟩ (outK Z0 Z5)
theorem ZEq (z26 : Int × Int × Int) (z40 : Int × Int × Int) : Zyw k o2 b3_0 b3_1 o4 b5_0 b5_1 o6 o7 o8 z26 z40 = joinL (some [(Prod.fst z40.2, Prod.snd z40.2, o2, b3_0, b3_1, o4, b5_0, b5_1, o6, o7, Prod.fst (List.getD o8 (Int.toNat z26.1) ((0 : Int), (0 : Int), (0 : Int))), Prod.fst (Prod.snd (List.getD o8 (Int.toNat z26.1) ((0 : Int), (0 : Int), (0 : Int)))), Prod.snd (Prod.snd (List.getD o8 (Int.toNat z26.1) ((0 : Int), (0 : Int), (0 : Int)))), Prod.fst (List.getD o8 (Int.toNat z40.1) ((0 : Int), (0 : Int), (0 : Int))), Prod.fst (Prod.snd (List.getD o8 (Int.toNat z40.1) ((0 : Int), (0 : Int), (0 : Int)))), Prod.snd (Prod.snd (List.getD o8 (Int.toNat z40.1) ((0 : Int), (0 : Int), (0 : Int)))))]) (some [(Prod.fst z40.2, Prod.snd z40.2, o2, b3_0, b3_1, o4, b5_0, b5_1, o6, o7, Prod.fst (List.getD o8 (Int.toNat z26.1) ((0 : Int), (0 : Int), (0 : Int))), Prod.fst (Prod.snd (List.getD o8 (Int.toNat z26.1) ((0 : Int), (0 : Int), (0 : Int)))), Prod.snd (Prod.snd (List.getD o8 (Int.toNat z26.1) ((0 : Int), (0 : Int), (0 : Int)))), Prod.fst (List.getD o8 (Int.toNat z40.1) ((0 : Int), (0 : Int), (0 : Int))), Prod.fst (Prod.snd (List.getD o8 (Int.toNat z40.1) ((0 : Int), (0 : Int), (0 : Int)))), Prod.snd (Prod.snd (List.getD o8 (Int.toNat z40.1) ((0 : Int), (0 : Int), (0 : Int)))))]) := by kernel_rfl
theorem ZCM (z26 : Int × Int × Int) (z40 : Int × Int × Int) : Zyw k o2 b3_0 b3_1 o4 b5_0 b5_1 o6 o7 o8 z26 z40 = repl 2 (Zx o2 b3_0 b3_1 o4 b5_0 b5_1 o6 o7 o8 z40 z26) := by
 rw [ZEq]
 simp only [Zx, Zu, ZG, Zc, Zf, Za, Z9, Zb, Z8, if_true]
noncomputable def Zyt (z26 : Int × Int × Int) (z40 : Int × Int × Int) : Option (List Z1b) := execT Z0.G (stepOp Z0.T Z0.G Z0.mvs k) Z7 4 #[true, true, true, true, true, true, false, true, true, true, true, true, true, true, false, true, false, false] ⟨sets (Z1s o8) [(11, P0 9), (79, TV.sv (SV.at (J0 z26.1))), (80, TV.sv (SV.at (At.ep 8 T3 z26.1 0))), (85, Z2K o8), (86, TV.sv (SV.at (J0 z40.1))), (87, TV.sv (SV.at (At.ep 8 T3 z40.1 0))), (88, TV.sv (SV.agg [J0 (Prod.fst (List.getD o8 (Int.toNat z40.1) ((0 : Int), (0 : Int), (0 : Int)))), J0 (Prod.fst (Prod.snd (List.getD o8 (Int.toNat z40.1) ((0 : Int), (0 : Int), (0 : Int))))), J0 (Prod.snd (Prod.snd (List.getD o8 (Int.toNat z40.1) ((0 : Int), (0 : Int), (0 : Int)))))]))], [Ob.ro, Ob.box 114 [At.sl 2, J0 z40.2.1, At.int IntKind.u64 z40.2.2], ZU o2, ZZ b3_0 b3_1, ZY o4, ZW b5_0 b5_1, Z12 o6, Z10 o7, ZX o8, ZV]⟩ (outK Z0 Z5)
theorem ZEm (z26 : Int × Int × Int) (z40 : Int × Int × Int) : Zyt k o2 b3_0 b3_1 o4 b5_0 b5_1 o6 o7 o8 z26 z40 = joinL (some [(Prod.fst z40.2, Prod.snd z40.2, o2, b3_0, b3_1, o4, b5_0, b5_1, o6, o7, Prod.fst (List.getD o8 (Int.toNat z26.1) ((0 : Int), (0 : Int), (0 : Int))), Prod.fst (Prod.snd (List.getD o8 (Int.toNat z26.1) ((0 : Int), (0 : Int), (0 : Int)))), Prod.snd (Prod.snd (List.getD o8 (Int.toNat z26.1) ((0 : Int), (0 : Int), (0 : Int)))), Prod.fst (List.getD o8 (Int.toNat z40.1) ((0 : Int), (0 : Int), (0 : Int))), Prod.fst (Prod.snd (List.getD o8 (Int.toNat z40.1) ((0 : Int), (0 : Int), (0 : Int)))), Prod.snd (Prod.snd (List.getD o8 (Int.toNat z40.1) ((0 : Int), (0 : Int), (0 : Int)))))]) (some [(Prod.fst z40.2, Prod.snd z40.2, o2, b3_0, b3_1, o4, b5_0, b5_1, o6, o7, Prod.fst (List.getD o8 (Int.toNat z26.1) ((0 : Int), (0 : Int), (0 : Int))), Prod.fst (Prod.snd (List.getD o8 (Int.toNat z26.1) ((0 : Int), (0 : Int), (0 : Int)))), Prod.snd (Prod.snd (List.getD o8 (Int.toNat z26.1) ((0 : Int), (0 : Int), (0 : Int)))), Prod.fst (List.getD o8 (Int.toNat z40.1) ((0 : Int), (0 : Int), (0 : Int))), Prod.fst (Prod.snd (List.getD o8 (Int.toNat z40.1) ((0 : Int), (0 : Int), (0 : Int)))), Prod.snd (Prod.snd (List.getD o8 (Int.toNat z40.1) ((0 : Int), (0 : Int), (0 : Int)))))]) := by kernel_rfl
theorem ZCH (z26 : Int × Int × Int) (z40 : Int × Int × Int) : Zyt k o2 b3_0 b3_1 o4 b5_0 b5_1 o6 o7 o8 z26 z40 = repl 2 (Zx o2 b3_0 b3_1 o4 b5_0 b5_1 o6 o7 o8 z40 z26) := by
 rw [ZEm]
 simp only [Zx, Zu, ZG, Zc, Zf, Za, Z9, Zb, Z8, if_true]
noncomputable def ZBq (z26 : Int × Int × Int) (z40 : Int × Int × Int) : Option (List Z1b) := execT Z0.G (stepOp Z0.T Z0.G Z0.mvs k) Z7 5 #[true, true, true, true, true, true, false, true, true, true, true, true, true, true, false, false, false, false] ⟨sets (Z1s o8) [(79, TV.sv (SV.at (J0 z26.1))), (80, TV.sv (SV.at (At.ep 8 T3 z26.1 0))), (85, Z2K o8), (86, TV.sv (SV.at (J0 z40.1))), (87, TV.sv (SV.at (At.ep 8 T3 z40.1 0))), (88, TV.sv (SV.agg [J0 (Prod.fst (List.getD o8 (Int.toNat z40.1) ((0 : Int), (0 : Int), (0 : Int)))), J0 (Prod.fst (Prod.snd (List.getD o8 (Int.toNat z40.1) ((0 : Int), (0 : Int), (0 : Int))))), J0 (Prod.snd (Prod.snd (List.getD o8 (Int.toNat z40.1) ((0 : Int), (0 : Int), (0 : Int)))))]))], [Ob.ro, Ob.box 114 [At.sl 2, J0 z40.2.1, At.int IntKind.u64 z40.2.2], ZU o2, ZZ b3_0 b3_1, ZY o4, ZW b5_0 b5_1, Z12 o6, Z10 o7, ZX o8]⟩ (outK Z0 Z5)
theorem ZEK (z26 : Int × Int × Int) (z40 : Int × Int × Int) : ZBq k o2 b3_0 b3_1 o4 b5_0 b5_1 o6 o7 o8 z26 z40 = joinL (ZAL k o2 b3_0 b3_1 o4 b5_0 b5_1 o6 o7 o8 z26 z40) (joinL (Zyw k o2 b3_0 b3_1 o4 b5_0 b5_1 o6 o7 o8 z26 z40) (Zyt k o2 b3_0 b3_1 o4 b5_0 b5_1 o6 o7 o8 z26 z40)) := by kernel_rfl
theorem ZED (z26 : Int × Int × Int) (z40 : Int × Int × Int) : ZBq k o2 b3_0 b3_1 o4 b5_0 b5_1 o6 o7 o8 z26 z40 = repl 6 (Zx o2 b3_0 b3_1 o4 b5_0 b5_1 o6 o7 o8 z40 z26) := by
 rw [ZEK]
 simp only [ZDD, ZCM, ZCH, Zx, Zu, ZG, Zc, Zf, Za, Z9, Zb, Z8, if_true]
noncomputable def Zxs (z26 : Int × Int × Int) (z40 : Int × Int × Int) : Option (List Z1b) := execT Z0.G (stepOp Z0.T Z0.G Z0.mvs k) Z7 4 #[true, true, true, true, true, true, false, true, true, true, true, true, true, false, true, true, false, false] ⟨sets (Z1s o8) [(10, P0 9), (11, P0 10), (79, TV.sv (SV.at (J0 z26.1))), (80, TV.sv (SV.at (At.ep 8 T3 z26.1 0))), (85, Z2K o8), (86, TV.sv (SV.at (J0 z40.1))), (87, TV.sv (SV.at (At.ep 8 T3 z40.1 0)))], [Ob.ro, Ob.box 114 [At.sl 2, J0 z40.2.1, At.int IntKind.u64 z40.2.2], ZU o2, ZZ b3_0 b3_1, ZY o4, ZW b5_0 b5_1, Z12 o6, Z10 o7, ZX o8, ZV, ZV]⟩ (outK Z0 Z5)
theorem ZEk (z26 : Int × Int × Int) (z40 : Int × Int × Int) : Zxs k o2 b3_0 b3_1 o4 b5_0 b5_1 o6 o7 o8 z26 z40 = joinL (Zlm k o2 b3_0 b3_1 o4 b5_0 b5_1 o6 o7 o8 z26 z40) (some [(Prod.fst z40.2, Prod.snd z40.2, o2, b3_0, b3_1, o4, b5_0, b5_1, o6, o7, Prod.fst (List.getD o8 (Int.toNat z26.1) ((0 : Int), (0 : Int), (0 : Int))), Prod.fst (Prod.snd (List.getD o8 (Int.toNat z26.1) ((0 : Int), (0 : Int), (0 : Int)))), Prod.snd (Prod.snd (List.getD o8 (Int.toNat z26.1) ((0 : Int), (0 : Int), (0 : Int)))), Prod.fst (List.getD o8 (Int.toNat z40.1) ((0 : Int), (0 : Int), (0 : Int))), Prod.fst (Prod.snd (List.getD o8 (Int.toNat z40.1) ((0 : Int), (0 : Int), (0 : Int)))), Prod.snd (Prod.snd (List.getD o8 (Int.toNat z40.1) ((0 : Int), (0 : Int), (0 : Int)))))]) := by kernel_rfl
theorem ZCY (z26 : Int × Int × Int) (z40 : Int × Int × Int) : Zxs k o2 b3_0 b3_1 o4 b5_0 b5_1 o6 o7 o8 z26 z40 = repl 3 (Zx o2 b3_0 b3_1 o4 b5_0 b5_1 o6 o7 o8 z40 z26) := by
 rw [ZEk]
 simp only [ZnU, Zx, Zu, ZG, Zc, Zf, Za, Z9, Zb, Z8, if_true]
noncomputable def ZxH (z26 : Int × Int × Int) (z40 : Int × Int × Int) : Option (List Z1b) := execT Z0.G (stepOp Z0.T Z0.G Z0.mvs k) Z7 5 #[true, true, true, true, true, true, false, true, true, true, true, true, true, false, true, false, false, false] ⟨sets (Z1s o8) [(10, P0 9), (79, TV.sv (SV.at (J0 z26.1))), (80, TV.sv (SV.at (At.ep 8 T3 z26.1 0))), (85, Z2K o8), (86, TV.sv (SV.at (J0 z40.1))), (87, TV.sv (SV.at (At.ep 8 T3 z40.1 0)))], [Ob.ro, Ob.box 114 [At.sl 2, J0 z40.2.1, At.int IntKind.u64 z40.2.2], ZU o2, ZZ b3_0 b3_1, ZY o4, ZW b5_0 b5_1, Z12 o6, Z10 o7, ZX o8, ZV]⟩ (outK Z0 Z5)
theorem ZEv (z26 : Int × Int × Int) (z40 : Int × Int × Int) : ZxH k o2 b3_0 b3_1 o4 b5_0 b5_1 o6 o7 o8 z26 z40 = joinL (Zxq k o2 b3_0 b3_1 o4 b5_0 b5_1 o6 o7 o8 z26 z40) (joinL (Zyw k o2 b3_0 b3_1 o4 b5_0 b5_1 o6 o7 o8 z26 z40) (Zxs k o2 b3_0 b3_1 o4 b5_0 b5_1 o6 o7 o8 z26 z40)) := by kernel_rfl
theorem ZCO (z26 : Int × Int × Int) (z40 : Int × Int × Int) : ZxH k o2 b3_0 b3_1 o4 b5_0 b5_1 o6 o7 o8 z26 z40 = repl 8 (Zx o2 b3_0 b3_1 o4 b5_0 b5_1 o6 o7 o8 z40 z26) := by
 rw [ZEv]
 simp only [ZB5, ZCM, ZCY, Zx, Zu, ZG, Zc, Zf, Za, Z9, Zb, Z8, if_true]
noncomputable def Zxi (z26 : Int × Int × Int) (z40 : Int × Int × Int) : Option (List Z1b) := execT Z0.G (stepOp Z0.T Z0.G Z0.mvs k) Z7 4 #[true, true, true, true, true, true, false, true, true, true, true, true, true, false, true, true, false, false] ⟨sets (Z1s o8) [(10, P0 10), (11, P0 9), (79, TV.sv (SV.at (J0 z26.1))), (80, TV.sv (SV.at (At.ep 8 T3 z26.1 0))), (85, Z2K o8), (86, TV.sv (SV.at (J0 z40.1))), (87, TV.sv (SV.at (At.ep 8 T3 z40.1 0)))], [Ob.ro, Ob.box 114 [At.sl 2, J0 z40.2.1, At.int IntKind.u64 z40.2.2], ZU o2, ZZ b3_0 b3_1, ZY o4, ZW b5_0 b5_1, Z12 o6, Z10 o7, ZX o8, ZV, ZV]⟩ (outK Z0 Z5)
theorem ZEE (z26 : Int × Int × Int) (z40 : Int × Int × Int) : Zxi k o2 b3_0 b3_1 o4 b5_0 b5_1 o6 o7 o8 z26 z40 = joinL (Zlg k o2 b3_0 b3_1 o4 b5_0 b5_1 o6 o7 o8 z26 z40) (some [(Prod.fst z40.2, Prod.snd z40.2, o2, b3_0, b3_1, o4, b5_0, b5_1, o6, o7, Prod.fst (List.getD o8 (Int.toNat z26.1) ((0 : Int), (0 : Int), (0 : Int))), Prod.fst (Prod.snd (List.getD o8 (Int.toNat z26.1) ((0 : Int), (0 : Int), (0 : Int)))), Prod.snd (Prod.snd (List.getD o8 (Int.toNat z26.1) ((0 : Int), (0 : Int), (0 : Int)))), Prod.fst (List.getD o8 (Int.toNat z40.1) ((0 : Int), (0 : Int), (0 : Int))), Prod.fst (Prod.snd (List.getD o8 (Int.toNat z40.1) ((0 : Int), (0 : Int), (0 : Int)))), Prod.snd (Prod.snd (List.getD o8 (Int.toNat z40.1) ((0 : Int), (0 : Int), (0 : Int)))))]) := by kernel_rfl
theorem ZCR (z26 : Int × Int × Int) (z40 : Int × Int × Int) : Zxi k o2 b3_0 b3_1 o4 b5_0 b5_1 o6 o7 o8 z26 z40 = repl 3 (Zx o2 b3_0 b3_1 o4 b5_0 b5_1 o6 o7 o8 z40 z26) := by
 rw [ZEE]
 simp only [ZnA, Zx, Zu, ZG, Zc, Zf, Za, Z9, Zb, Z8, if_true]
noncomputable def Zy7 (z26 : Int × Int × Int) (z40 : Int × Int × Int) : Option (List Z1b) := execT Z0.G (stepOp Z0.T Z0.G Z0.mvs k) Z7 5 #[true, true, true, true, true, true, false, true, true, true, true, true, true, false, false, true, false, false] ⟨sets (Z1s o8) [(11, P0 9), (79, TV.sv (SV.at (J0 z26.1))), (80, TV.sv (SV.at (At.ep 8 T3 z26.1 0))), (85, Z2K o8), (86, TV.sv (SV.at (J0 z40.1))), (87, TV.sv (SV.at (At.ep 8 T3 z40.1 0)))], [Ob.ro, Ob.box 114 [At.sl 2, J0 z40.2.1, At.int IntKind.u64 z40.2.2], ZU o2, ZZ b3_0 b3_1, ZY o4, ZW b5_0 b5_1, Z12 o6, Z10 o7, ZX o8, ZV]⟩ (outK Z0 Z5)
theorem ZEB (z26 : Int × Int × Int) (z40 : Int × Int × Int) : Zy7 k o2 b3_0 b3_1 o4 b5_0 b5_1 o6 o7 o8 z26 z40 = joinL (ZxJ k o2 b3_0 b3_1 o4 b5_0 b5_1 o6 o7 o8 z26 z40) (joinL (Zyt k o2 b3_0 b3_1 o4 b5_0 b5_1 o6 o7 o8 z26 z40) (Zxi k o2 b3_0 b3_1 o4 b5_0 b5_1 o6 o7 o8 z26 z40)) := by kernel_rfl
theorem ZCN (z26 : Int × Int × Int) (z40 : Int × Int × Int) : Zy7 k o2 b3_0 b3_1 o4 b5_0 b5_1 o6 o7 o8 z26 z40 = repl 8 (Zx o2 b3_0 b3_1 o4 b5_0 b5_1 o6 o7 o8 z40 z26) := by
 rw [ZEB]
 simp only [ZAR, ZCH, ZCR, Zx, Zu, ZG, Zc, Zf, Za, Z9, Zb, Z8, if_true]
noncomputable def ZBL (z26 : Int × Int × Int) (z40 : Int × Int × Int) : Option (List Z1b) := execT Z0.G (stepOp Z0.T Z0.G Z0.mvs k) Z7 6 #[true, true, true, true, true, true, false, true, true, true, true, true, true, false, false, false, false, false] ⟨sets (Z1s o8) [(79, TV.sv (SV.at (J0 z26.1))), (80, TV.sv (SV.at (At.ep 8 T3 z26.1 0))), (85, Z2K o8), (86, TV.sv (SV.at (J0 z40.1))), (87, TV.sv (SV.at (At.ep 8 T3 z40.1 0)))], [Ob.ro, Ob.box 114 [At.sl 2, J0 z40.2.1, At.int IntKind.u64 z40.2.2], ZU o2, ZZ b3_0 b3_1, ZY o4, ZW b5_0 b5_1, Z12 o6, Z10 o7, ZX o8]⟩ (outK Z0 Z5)
theorem ZEV (z26 : Int × Int × Int) (z40 : Int × Int × Int) : ZBL k o2 b3_0 b3_1 o4 b5_0 b5_1 o6 o7 o8 z26 z40 = joinL (ZAN k o2 b3_0 b3_1 o4 b5_0 b5_1 o6 o7 o8 z26 z40) (joinL (ZBq k o2 b3_0 b3_1 o4 b5_0 b5_1 o6 o7 o8 z26 z40) (joinL (ZxH k o2 b3_0 b3_1 o4 b5_0 b5_1 o6 o7 o8 z26 z40) (Zy7 k o2 b3_0 b3_1 o4 b5_0 b5_1 o6 o7 o8 z26 z40))) := by kernel_rfl
theorem ZEw (z26 : Int × Int × Int) (z40 : Int × Int × Int) : ZBL k o2 b3_0 b3_1 o4 b5_0 b5_1 o6 o7 o8 z26 z40 = repl 30 (Zx o2 b3_0 b3_1 o4 b5_0 b5_1 o6 o7 o8 z40 z26) := by
 rw [ZEV]
 simp only [ZDR, ZED, ZCO, ZCN, Zx, Zu, ZG, Zc, Zf, Za, Z9, Zb, Z8, if_true]
noncomputable def Zne (z26 : Int × Int × Int) : Option (List Z1b) := execT Z0.G (stepOp Z0.T Z0.G Z0.mvs k) Z7 6 #[true, true, true, true, true, true, false, true, true, true, true, false, false, false, true, true, false, false] ⟨sets (Z1s o8) [(10, P0 9), (11, P0 10), (79, TV.sv (SV.at (J0 z26.1))), (80, TV.sv (SV.at (At.ep 8 T3 z26.1 0))), (85, Z2K o8)], [Ob.ro, Ob.box 114 [At.sl 2, J0 z26.2.1, At.int IntKind.u64 z26.2.2], ZU o2, ZZ b3_0 b3_1, ZY o4, ZW b5_0 b5_1, Z12 o6, Z10 o7, ZX o8, ZV, ZV]⟩ (outK Z0 Z5)
theorem ZEz (z26 : Int × Int × Int) : Zne k o2 b3_0 b3_1 o4 b5_0 b5_1 o6 o7 o8 z26 = joinL (Option.bind (Z2 k (o2, Prod.fst z26.2, Prod.snd z26.2) (↑(List.length o8) : Int)) fun z42 => if (0 : Int) ≤ Prod.fst z42 then if Prod.fst z42 < (↑(List.length o8) : Int) then Zlm k o2 b3_0 b3_1 o4 b5_0 b5_1 o6 o7 o8 z26 z42 else none else none) (Option.bind (Z2 k (o2, Prod.fst z26.2, Prod.snd z26.2) (↑(List.length o8) : Int)) fun z43 => if (0 : Int) ≤ Prod.fst z43 then if Prod.fst z43 < (↑(List.length o8) : Int) then Zxs k o2 b3_0 b3_1 o4 b5_0 b5_1 o6 o7 o8 z26 z43 else none else none) := by kernel_rfl
theorem Ztw (z26 : Int × Int × Int) : Zne k o2 b3_0 b3_1 o4 b5_0 b5_1 o6 o7 o8 z26 = repl 5 (Zu k o2 b3_0 b3_1 o4 b5_0 b5_1 o6 o7 o8 z26) := by
 rw [ZEz]
 simp only [ZnU, ZCY, Zx, Zu, ZG, Zc, Zf, Za, Z9, Zb, Z8, if_true]
noncomputable def ZsM (z26 : Int × Int × Int) : Option (List Z1b) := execT Z0.G (stepOp Z0.T Z0.G Z0.mvs k) Z7 7 #[true, true, true, true, true, true, false, true, true, true, true, false, false, false, true, false, false, false] ⟨sets (Z1s o8) [(10, P0 9), (79, TV.sv (SV.at (J0 z26.1))), (80, TV.sv (SV.at (At.ep 8 T3 z26.1 0))), (85, Z2K o8)], [Ob.ro, Ob.box 114 [At.sl 2, J0 z26.2.1, At.int IntKind.u64 z26.2.2], ZU o2, ZZ b3_0 b3_1, ZY o4, ZW b5_0 b5_1, Z12 o6, Z10 o7, ZX o8, ZV]⟩ (outK Z0 Z5)
theorem ZET (z26 : Int × Int × Int) : ZsM k o2 b3_0 b3_1 o4 b5_0 b5_1 o6 o7 o8 z26 = joinL (Zyd k o2 b3_0 b3_1 o4 b5_0 b5_1 o6 o7 o8 z26) (joinL (Option.bind (Z2 k (o2, Prod.fst z26.2, Prod.snd z26.2) (↑(List.length o8) : Int)) fun z41 => if (0 : Int) ≤ Prod.fst z41 then if Prod.fst z41 < (↑(List.length o8) : Int) then ZxH k o2 b3_0 b3_1 o4 b5_0 b5_1 o6 o7 o8 z26 z41 else none else none) (Zne k o2 b3_0 b3_1 o4 b5_0 b5_1 o6 o7 o8 z26)) := by kernel_rfl
theorem Zzj (z26 : Int × Int × Int) : ZsM k o2 b3_0 b3_1 o4 b5_0 b5_1 o6 o7 o8 z26 = repl 18 (Zu k o2 b3_0 b3_1 o4 b5_0 b5_1 o6 o7 o8 z26) := by
 rw [ZET]
 simp only [ZBu, ZCO, Ztw, Zx, Zu, ZG, Zc, Zf, Za, Z9, Zb, Z8, if_true]
noncomputable def ZnG (z26 : Int × Int × Int) : Option (List Z1b) := execT Z0.G (stepOp Z0.T Z0.G Z0.mvs k) Z7 6 #[true, true, true, true, true, true, false, true, true, true, true, false, false, false, true, true, false, false] ⟨sets (Z1s o8) [(10, P0 10), (11, P0 9), (79, TV.sv (SV.at (J0 z26.1))), (80, TV.sv (SV.at (At.ep 8 T3 z26.1 0))), (85, Z2K o8)], [Ob.ro, Ob.box 114 [At.sl 2, J0 z26.2.1, At.int IntKind.u64 z26.2.2], ZU o2, ZZ b3_0 b3_1, ZY o4, ZW b5_0 b5_1, Z12 o6, Z10 o7, ZX o8, ZV, ZV]⟩ (outK Z0 Z5)
theorem ZEt (z26 : Int × Int × Int) : ZnG k o2 b3_0 b3_1 o4 b5_0 b5_1 o6 o7 o8 z26 = joinL (Option.bind (Z2 k (o2, Prod.fst z26.2, Prod.snd z26.2) (↑(List.length o8) : Int)) fun z47 => if (0 : Int) ≤ Prod.fst z47 then if Prod.fst z47 < (↑(List.length o8) : Int) then Zlg k o2 b3_0 b3_1 o4 b5_0 b5_1 o6 o7 o8 z26 z47 else none else none) (Option.bind (Z2 k (o2, Prod.fst z26.2, Prod.snd z26.2) (↑(List.length o8) : Int)) fun z48 => if (0 : Int) ≤ Prod.fst z48 then if Prod.fst z48 < (↑(List.length o8) : Int) then Zxi k o2 b3_0 b3_1 o4 b5_0 b5_1 o6 o7 o8 z26 z48 else none else none) := by kernel_rfl
theorem ZtB (z26 : Int × Int × Int) : ZnG k o2 b3_0 b3_1 o4 b5_0 b5_1 o6 o7 o8 z26 = repl 5 (Zu k o2 b3_0 b3_1 o4 b5_0 b5_1 o6 o7 o8 z26) := by
 rw [ZEt]
 simp only [ZnA, ZCR, Zx, Zu, ZG, Zc, Zf, Za, Z9, Zb, Z8, if_true]
noncomputable def ZrV (z26 : Int × Int × Int) : Option (List Z1b) := execT Z0.G (stepOp Z0.T Z0.G Z0.mvs k) Z7 7 #[true, true, true, true, true, true, false, true, true, true, true, false, false, false, false, true, false, false] ⟨sets (Z1s o8) [(11, P0 9), (79, TV.sv (SV.at (J0 z26.1))), (80, TV.sv (SV.at (At.ep 8 T3 z26.1 0))), (85, Z2K o8)], [Ob.ro, Ob.box 114 [At.sl 2, J0 z26.2.1, At.int IntKind.u64 z26.2.2], ZU o2, ZZ b3_0 b3_1, ZY o4, ZW b5_0 b5_1, Z12 o6, Z10 o7, ZX o8, ZV]⟩ (outK Z0 Z5)
theorem ZEf (z26 : Int × Int × Int) : ZrV k o2 b3_0 b3_1 o4 b5_0 b5_1 o6 o7 o8 z26 = joinL (ZxQ k o2 b3_0 b3_1 o4 b5_0 b5_1 o6 o7 o8 z26) (joinL (Option.bind (Z2 k (o2, Prod.fst z26.2, Prod.snd z26.2) (↑(List.length o8) : Int)) fun z46 => if (0 : Int) ≤ Prod.fst z46 then if Prod.fst z46 < (↑(List.length o8) : Int) then Zy7 k o2 b3_0 b3_1 o4 b5_0 b5_1 o6 o7 o8 z26 z46 else none else none) (ZnG k o2 b3_0 b3_1 o4 b5_0 b5_1 o6 o7 o8 z26)) := by kernel_rfl
theorem Zz6 (z26 : Int × Int × Int) : ZrV k o2 b3_0 b3_1 o4 b5_0 b5_1 o6 o7 o8 z26 = repl 18 (Zu k o2 b3_0 b3_1 o4 b5_0 b5_1 o6 o7 o8 z26) := by
 rw [ZEf]
 simp only [ZAV, ZCN, ZtB, Zx, Zu, ZG, Zc, Zf, Za, Z9, Zb, Z8, if_true]
noncomputable def ZxB (z26 : Int × Int × Int) : Option (List Z1b) := execT Z0.G (stepOp Z0.T Z0.G Z0.mvs k) Z7 8 #[true, true, true, true, true, true, false, true, true, true, true, false, false, false, false, false, false, false] ⟨sets (Z1s o8) [(79, TV.sv (SV.at (J0 z26.1))), (80, TV.sv (SV.at (At.ep 8 T3 z26.1 0))), (85, Z2K o8)], [Ob.ro, Ob.box 114 [At.sl 2, J0 z26.2.1, At.int IntKind.u64 z26.2.2], ZU o2, ZZ b3_0 b3_1, ZY o4, ZW b5_0 b5_1, Z12 o6, Z10 o7, ZX o8]⟩ (outK Z0 Z5)
theorem ZEG (z26 : Int × Int × Int) : ZxB k o2 b3_0 b3_1 o4 b5_0 b5_1 o6 o7 o8 z26 = joinL (ZAK k o2 b3_0 b3_1 o4 b5_0 b5_1 o6 o7 o8 z26) (joinL (Option.bind (Z2 k (o2, Prod.fst z26.2, Prod.snd z26.2) (↑(List.length o8) : Int)) fun z40 => if (0 : Int) ≤ Prod.fst z40 then if Prod.fst z40 < (↑(List.length o8) : Int) then ZBL k o2 b3_0 b3_1 o4 b5_0 b5_1 o6 o7 o8 z26 z40 else none else none) (joinL (ZsM k o2 b3_0 b3_1 o4 b5_0 b5_1 o6 o7 o8 z26) (ZrV k o2 b3_0 b3_1 o4 b5_0 b5_1 o6 o7 o8 z26))) := by kernel_rfl
theorem ZCG (z26 : Int × Int × Int) : ZxB k o2 b3_0 b3_1 o4 b5_0 b5_1 o6 o7 o8 z26 = repl 84 (Zu k o2 b3_0 b3_1 o4 b5_0 b5_1 o6 o7 o8 z26) := by
 rw [ZEG]
 simp only [ZDw, ZEw, Zzj, Zz6, Zx, Zu, ZG, Zc, Zf, Za, Z9, Zb, Z8, if_true]
noncomputable def Zy8 (z26 : Int × Int × Int) : Option (List Z1b) := execT Z0.G (stepOp Z0.T Z0.G Z0.mvs k) Z7 7 #[true, true, true, true, true, true, false, true, true, true, false, false, false, false, true, true, false, false] ⟨sets (Z1s o8) [(10, P0 9), (11, P0 10), (79, TV.sv (SV.at (J0 z26.1))), (80, TV.sv (SV.at (At.ep 8 T3 z26.1 0)))], [Ob.ro, Ob.box 114 [At.sl 2, J0 z26.2.1, At.int IntKind.u64 z26.2.2], ZU o2, ZZ b3_0 b3_1, ZY o4, ZW b5_0 b5_1, Z12 o6, Z10 o7, ZX o8, ZV, ZV]⟩ (outK Z0 Z5)
theorem ZEy (z26 : Int × Int × Int) : Zy8 k o2 b3_0 b3_1 o4 b5_0 b5_1 o6 o7 o8 z26 = joinL (Option.bind (Z2 k (o2, Prod.fst z26.2, Prod.snd z26.2) (↑(List.length o8) : Int)) fun z52 => if (0 : Int) ≤ Prod.fst z52 then if Prod.fst z52 < (↑(List.length o8) : Int) then Zlm k o2 b3_0 b3_1 o4 b5_0 b5_1 o6 o7 o8 z26 z52 else none else none) (Zne k o2 b3_0 b3_1 o4 b5_0 b5_1 o6 o7 o8 z26) := by kernel_rfl
theorem ZCS (z26 : Int × Int × Int) : Zy8 k o2 b3_0 b3_1 o4 b5_0 b5_1 o6 o7 o8 z26 = repl 7 (Zu k o2 b3_0 b3_1 o4 b5_0 b5_1 o6 o7 o8 z26) := by
 rw [ZEy]
 simp only [ZnU, Ztw, Zx, Zu, ZG, Zc, Zf, Za, Z9, Zb, Z8, if_true]
noncomputable def Zxf (z26 : Int × Int × Int) : Option (List Z1b) := execT Z0.G (stepOp Z0.T Z0.G Z0.mvs k) Z7 8 #[true, true, true, true, true, true, false, true, true, true, false, false, false, false, true, false, false, false] ⟨sets (Z1s o8) [(10, P0 9), (79, TV.sv (SV.at (J0 z26.1))), (80, TV.sv (SV.at (At.ep 8 T3 z26.1 0)))], [Ob.ro, Ob.box 114 [At.sl 2, J0 z26.2.1, At.int IntKind.u64 z26.2.2], ZU o2, ZZ b3_0 b3_1, ZY o4, ZW b5_0 b5_1, Z12 o6, Z10 o7, ZX o8, ZV]⟩ (outK Z0 Z5)
theorem ZEj (z26 : Int × Int × Int) : Zxf k o2 b3_0 b3_1 o4 b5_0 b5_1 o6 o7 o8 z26 = joinL (ZAM k o2 b3_0 b3_1 o4 b5_0 b5_1 o6 o7 o8 z26) (joinL (ZsM k o2 b3_0 b3_1 o4 b5_0 b5_1 o6 o7 o8 z26) (Zy8 k o2 b3_0 b3_1 o4 b5_0 b5_1 o6 o7 o8 z26)) := by kernel_rfl
theorem ZD1 (z26 : Int × Int × Int) : Zxf k o2 b3_0 b3_1 o4 b5_0 b5_1 o6 o7 o8 z26 = repl 32 (Zu k o2 b3_0 b3_1 o4 b5_0 b5_1 o6 o7 o8 z26) := by
 rw [ZEj]
 simp only [ZDV, Zzj, ZCS, Zx, Zu, ZG, Zc, Zf, Za, Z9, Zb, Z8, if_true]
noncomputable def Zxw (z26 : Int × Int × Int) : Option (List Z1b) := execT Z0.G (stepOp Z0.T Z0.G Z0.mvs k) Z7 7 #[true, true, true, true, true, true, false, true, true, true, false, false, false, false, true, true, false, false] ⟨sets (Z1s o8) [(10, P0 10), (11, P0 9), (79, TV.sv (SV.at (J0 z26.1))), (80, TV.sv (SV.at (At.ep 8 T3 z26.1 0)))], [Ob.ro, Ob.box 114 [At.sl 2, J0 z26.2.1, At.int IntKind.u64 z26.2.2], ZU o2, ZZ b3_0 b3_1, ZY o4, ZW b5_0 b5_1, Z12 o6, Z10 o7, ZX o8, ZV, ZV]⟩ (outK Z0 Z5)
theorem ZEA (z26 : Int × Int × Int) : Zxw k o2 b3_0 b3_1 o4 b5_0 b5_1 o6 o7 o8 z26 = joinL (Option.bind (Z2 k (o2, Prod.fst z26.2, Prod.snd z26.2) (↑(List.length o8) : Int)) fun z55 => if (0 : Int) ≤ Prod.fst z55 then if Prod.fst z55 < (↑(List.length o8) : Int) then Zlg k o2 b3_0 b3_1 o4 b5_0 b5_1 o6 o7 o8 z26 z55 else none else none) (ZnG k o2 b3_0 b3_1 o4 b5_0 b5_1 o6 o7 o8 z26) := by kernel_rfl
theorem ZCX (z26 : Int × Int × Int) : Zxw k o2 b3_0 b3_1 o4 b5_0 b5_1 o6 o7 o8 z26 = repl 7 (Zu k o2 b3_0 b3_1 o4 b5_0 b5_1 o6 o7 o8 z26) := by
 rw [ZEA]
 simp only [ZnA, ZtB, Zx, Zu, ZG, Zc, Zf, Za, Z9, Zb, Z8, if_true]
noncomputable def Zyr (z26 : Int × Int × Int) : Option (List Z1b) := execT Z0.G (stepOp Z0.T Z0.G Z0.mvs k) Z7 8 #[true, true, true, true, true, true, false, true, true, true, false, false, false, false, false, true, false, false] ⟨sets (Z1s o8) [(11, P0 9), (79, TV.sv (SV.at (J0 z26.1))), (80, TV.sv (SV.at (At.ep 8 T3 z26.1 0)))], [Ob.ro, Ob.box 114 [At.sl 2, J0 z26.2.1, At.int IntKind.u64 z26.2.2], ZU o2, ZZ b3_0 b3_1, ZY o4, ZW b5_0 b5_1, Z12 o6, Z10 o7, ZX o8, ZV]⟩ (outK Z0 Z5)
theorem ZEF (z26 : Int × Int × Int) : Zyr k o2 b3_0 b3_1 o4 b5_0 b5_1 o6 o7 o8 z26 = joinL (ZxY k o2 b3_0 b3_1 o4 b5_0 b5_1 o6 o7 o8 z26) (joinL (ZrV k o2 b3_0 b3_1 o4 b5_0 b5_1 o6 o7 o8 z26) (Zxw k o2 b3_0 b3_1 o4 b5_0 b5_1 o6 o7 o8 z26)) := by kernel_rfl
theorem ZCE (z26 : Int × Int × Int) : Zyr k o2 b3_0 b3_1 o4 b5_0 b5_1 o6 o7 o8 z26 = repl 32 (Zu k o2 b3_0 b3_1 o4 b5_0 b5_1 o6 o7 o8 z26) := by
 rw [ZEF]
 simp only [ZCV, Zz6, ZCX, Zx, Zu, ZG, Zc, Zf, Za, Z9, Zb, Z8, if_true]
noncomputable def ZBx (z26 : Int × Int × Int) : Option (List Z1b) := execT Z0.G (stepOp Z0.T Z0.G Z0.mvs k) Z7 9 #[true, true, true, true, true, true, false, true, true, true, false, false, false, false, false, false, false, false] ⟨sets (Z1s o8) [(79, TV.sv (SV.at (J0 z26.1))), (80, TV.sv (SV.at (At.ep 8 T3 z26.1 0)))], [Ob.ro, Ob.box 114 [At.sl 2, J0 z26.2.1, At.int IntKind.u64 z26.2.2], ZU o2, ZZ b3_0 b3_1, ZY o4, ZW b5_0 b5_1, Z12 o6, Z10 o7, ZX o8]⟩ (outK Z0 Z5)
theorem ZEp (z26 : Int × Int × Int) : ZBx k o2 b3_0 b3_1 o4 b5_0 b5_1 o6 o7 o8 z26 = joinL (ZB4 k o2 b3_0 b3_1 o4 b5_0 b5_1 o6 o7 o8 z26) (joinL (ZxB k o2 b3_0 b3_1 o4 b5_0 b5_1 o6 o7 o8 z26) (joinL (Zxf k o2 b3_0 b3_1 o4 b5_0 b5_1 o6 o7 o8 z26) (Zyr k o2 b3_0 b3_1 o4 b5_0 b5_1 o6 o7 o8 z26))) := by kernel_rfl
theorem ZF0 (z26 : Int × Int × Int) : ZBx k o2 b3_0 b3_1 o4 b5_0 b5_1 o6 o7 o8 z26 = repl 180 (Zu k o2 b3_0 b3_1 o4 b5_0 b5_1 o6 o7 o8 z26) := by
 rw [ZEp]
 simp only [ZEx, ZCG, ZD1, ZCE, Zx, Zu, ZG, Zc, Zf, Za, Z9, Zb, Z8, if_true]
noncomputable def Zxo : Option (List Z1b) := execT Z0.G (stepOp Z0.T Z0.G Z0.mvs k) Z7 9 #[true, true, true, true, false, false, false, true, true, true, true, false, false, false, true, false, false, false] ⟨sets (Z1s o8) [(10, P0 9), (85, Z2K o8)], [Ob.ro, Zeu b1_1 b1_2, ZU o2, ZZ b3_0 b3_1, ZY o4, ZW b5_0 b5_1, Z12 o6, Z10 o7, ZX o8, ZV]⟩ (outK Z0 Z5)
theorem ZEh : Zxo k b1_1 b1_2 o2 b3_0 b3_1 o4 b5_0 b5_1 o6 o7 o8 = joinL (Option.bind (Z2 k (o2, b1_1, b1_2) (↑(List.length o8) : Int)) fun z60 => if (0 : Int) ≤ Prod.fst z60 then if Prod.fst z60 < (↑(List.length o8) : Int) then ZsM k o2 b3_0 b3_1 o4 b5_0 b5_1 o6 o7 o8 z60 else none else none) (Option.bind (Z2 k (o2, b1_1, b1_2) (↑(List.length o8) : Int)) fun z61 => if (0 : Int) ≤ Prod.fst z61 then if Prod.fst z61 < (↑(List.length o8) : Int) then Zne k o2 b3_0 b3_1 o4 b5_0 b5_1 o6 o7 o8 z61 else none else none) := by kernel_rfl
theorem ZCP : Zxo k b1_1 b1_2 o2 b3_0 b3_1 o4 b5_0 b5_1 o6 o7 o8 = repl 23 (ZG k b1_1 b1_2 o2 b3_0 b3_1 o4 b5_0 b5_1 o6 o7 o8) := by
 rw [ZEh]
 simp only [Zzj, Ztw, Zx, Zu, ZG, Zc, Zf, Za, Z9, Zb, Z8, if_true]
noncomputable def Zyj : Option (List Z1b) := execT Z0.G (stepOp Z0.T Z0.G Z0.mvs k) Z7 9 #[true, true, true, true, false, false, false, true, true, true, true, false, false, false, false, true, false, false] ⟨sets (Z1s o8) [(11, P0 9), (85, Z2K o8)], [Ob.ro, Zeu b1_1 b1_2, ZU o2, ZZ b3_0 b3_1, ZY o4, ZW b5_0 b5_1, Z12 o6, Z10 o7, ZX o8, ZV]⟩ (outK Z0 Z5)
theorem ZES : Zyj k b1_1 b1_2 o2 b3_0 b3_1 o4 b5_0 b5_1 o6 o7 o8 = joinL (Option.bind (Z2 k (o2, b1_1, b1_2) (↑(List.length o8) : Int)) fun z64 => if (0 : Int) ≤ Prod.fst z64 then if Prod.fst z64 < (↑(List.length o8) : Int) then ZrV k o2 b3_0 b3_1 o4 b5_0 b5_1 o6 o7 o8 z64 else none else none) (Option.bind (Z2 k (o2, b1_1, b1_2) (↑(List.length o8) : Int)) fun z65 => if (0 : Int) ≤ Prod.fst z65 then if Prod.fst z65 < (↑(List.length o8) : Int) then ZnG k o2 b3_0 b3_1 o4 b5_0 b5_1 o6 o7 o8 z65 else none else none) := by kernel_rfl
theorem ZCQ : Zyj k b1_1 b1_2 o2 b3_0 b3_1 o4 b5_0 b5_1 o6 o7 o8 = repl 23 (ZG k b1_1 b1_2 o2 b3_0 b3_1 o4 b5_0 b5_1 o6 o7 o8) := by
 rw [ZES]
 simp only [Zz6, ZtB, Zx, Zu, ZG, Zc, Zf, Za, Z9, Zb, Z8, if_true]
noncomputable def ZBn : Option (List Z1b) := execT Z0.G (stepOp Z0.T Z0.G Z0.mvs k) Z7 10 #[true, true, true, true, false, false, false, true, true, true, true, false, false, false, false, false, false, false] ⟨sets (Z1s o8) [(85, Z2K o8)], [Ob.ro, Zeu b1_1 b1_2, ZU o2, ZZ b3_0 b3_1, ZY o4, ZW b5_0 b5_1, Z12 o6, Z10 o7, ZX o8]⟩ (outK Z0 Z5)
theorem ZEe : ZBn k b1_1 b1_2 o2 b3_0 b3_1 o4 b5_0 b5_1 o6 o7 o8 = joinL (Option.bind (Z2 k (o2, b1_1, b1_2) (↑(List.length o8) : Int)) fun z59 => if (0 : Int) ≤ Prod.fst z59 then if Prod.fst z59 < (↑(List.length o8) : Int) then ZxB k o2 b3_0 b3_1 o4 b5_0 b5_1 o6 o7 o8 z59 else none else none) (joinL (Zxo k b1_1 b1_2 o2 b3_0 b3_1 o4 b5_0 b5_1 o6 o7 o8) (Zyj k b1_1 b1_2 o2 b3_0 b3_1 o4 b5_0 b5_1 o6 o7 o8)) := by kernel_rfl
theorem ZEr : ZBn k b1_1 b1_2 o2 b3_0 b3_1 o4 b5_0 b5_1 o6 o7 o8 = repl 130 (ZG k b1_1 b1_2 o2 b3_0 b3_1 o4 b5_0 b5_1 o6 o7 o8) := by
 rw [ZEe]
 simp only [ZCG, ZCP, ZCQ, Zx, Zu, ZG, Zc, Zf, Za, Z9, Zb, Z8, if_true]
noncomputable def ZBl : Option (List Z1b) := execT Z0.G (stepOp Z0.T Z0.G Z0.mvs k) Z7 9 #[true, true, true, true, false, false, false, true, true, true, false, false, false, false, true, true, false, false] ⟨sets (Z1s o8) [(10, P0 9), (11, P0 10)], [Ob.ro, Zeu b1_1 b1_2, ZU o2, ZZ b3_0 b3_1, ZY o4, ZW b5_0 b5_1, Z12 o6, Z10 o7, ZX o8, ZV, ZV]⟩ (outK Z0 Z5)
theorem ZEY : ZBl k b1_1 b1_2 o2 b3_0 b3_1 o4 b5_0 b5_1 o6 o7 o8 = joinL (Option.bind (Z2 k (o2, b1_1, b1_2) (↑(List.length o8) : Int)) fun z71 => if (0 : Int) ≤ Prod.fst z71 then if Prod.fst z71 < (↑(List.length o8) : Int) then Zy8 k o2 b3_0 b3_1 o4 b5_0 b5_1 o6 o7 o8 z71 else none else none) (Option.bind (Z2 k (o2, b1_1, b1_2) (↑(List.length o8) : Int)) fun z72 => if (0 : Int) ≤ Prod.fst z72 then if Prod.fst z72 < (↑(List.length o8) : Int) then Zne k o2 b3_0 b3_1 o4 b5_0 b5_1 o6 o7 o8 z72 else none else none) := by kernel_rfl
theorem ZEP : ZBl k b1_1 b1_2 o2 b3_0 b3_1 o4 b5_0 b5_1 o6 o7 o8 = repl 12 (ZG k b1_1 b1_2 o2 b3_0 b3_1 o4 b5_0 b5_1 o6 o7 o8) := by
 rw [ZEY]
 simp only [ZCS, Ztw, Zx, Zu, ZG, Zc, Zf, Za, Z9, Zb, Z8, if_true]
noncomputable def ZAO : Option (List Z1b) := execT Z0.G (stepOp Z0.T Z0.G Z0.mvs k) Z7 10 #[true, true, true, true, false, false, false, true, true, true, false, false, false, false, true, false, false, false] ⟨sets (Z1s o8) [(10, P0 9)], [Ob.ro, Zeu b1_1 b1_2, ZU o2, ZZ b3_0 b3_1, ZY o4, ZW b5_0 b5_1, Z12 o6, Z10 o7, ZX o8, ZV]⟩ (outK Z0 Z5)
theorem ZEn : ZAO k b1_1 b1_2 o2 b3_0 b3_1 o4 b5_0 b5_1 o6 o7 o8 = joinL (Option.bind (Z2 k (o2, b1_1, b1_2) (↑(List.length o8) : Int)) fun z70 => if (0 : Int) ≤ Prod.fst z70 then if Prod.fst z70 < (↑(List.length o8) : Int) then Zxf k o2 b3_0 b3_1 o4 b5_0 b5_1 o6 o7 o8 z70 else none else none) (joinL (Zxo k b1_1 b1_2 o2 b3_0 b3_1 o4 b5_0 b5_1 o6 o7 o8) (ZBl k b1_1 b1_2 o2 b3_0 b3_1 o4 b5_0 b5_1 o6 o7 o8)) := by kernel_rfl
theorem ZEU : ZAO k b1_1 b1_2 o2 b3_0 b3_1 o4 b5_0 b5_1 o6 o7 o8 = repl 67 (ZG k b1_1 b1_2 o2 b3_0 b3_1 o4 b5_0 b5_1 o6 o7 o8) := by
 rw [ZEn]
 simp only [ZD1, ZCP, ZEP, Zx, Zu, ZG, Zc, Zf, Za, Z9, Zb, Z8, if_true]
noncomputable def ZAY : Option (List Z1b) := execT Z0.G (stepOp Z0.T Z0.G Z0.mvs k) Z7 9 #[true, true, true, true, false, false, false, true, true, true, false, false, false, false, true, true, false, false] ⟨sets (Z1s o8) [(10, P0 10), (11, P0 9)], [Ob.ro, Zeu b1_1 b1_2, ZU o2, ZZ b3_0 b3_1, ZY o4, ZW b5_0 b5_1, Z12 o6, Z10 o7, ZX o8, ZV, ZV]⟩ (outK Z0 Z5)
theorem ZEW : ZAY k b1_1 b1_2 o2 b3_0 b3_1 o4 b5_0 b5_1 o6 o7 o8 = joinL (Option.bind (Z2 k (o2, b1_1, b1_2) (↑(List.length o8) : Int)) fun z78 => if (0 : Int) ≤ Prod.fst z78 then if Prod.fst z78 < (↑(List.length o8) : Int) then Zxw k o2 b3_0 b3_1 o4 b5_0 b5_1 o6 o7 o8 z78 else none else none) (Option.bind (Z2 k (o2, b1_1, b1_2) (↑(List.length o8) : Int)) fun z79 => if (0 : Int) ≤ Prod.fst z79 then if Prod.fst z79 < (↑(List.length o8) : Int) then ZnG k o2 b3_0 b3_1 o4 b5_0 b5_1 o6 o7 o8 z79 else none else none) := by kernel_rfl
theorem ZEl : ZAY k b1_1 b1_2 o2 b3_0 b3_1 o4 b5_0 b5_1 o6 o7 o8 = repl 12 (ZG k b1_1 b1_2 o2 b3_0 b3_1 o4 b5_0 b5_1 o6 o7 o8) := by
 rw [ZEW]
 simp only [ZCX, ZtB, Zx, Zu, ZG, Zc, Zf, Za, Z9, Zb, Z8, if_true]
noncomputable def ZB2 : Option (List Z1b) := execT Z0.G (stepOp Z0.T Z0.G Z0.mvs k) Z7 10 #[true, true, true, true, false, false, false, true, true, true, false, false, false, false, false, true, false, false] ⟨sets (Z1s o8) [(11, P0 9)], [Ob.ro, Zeu b1_1 b1_2, ZU o2, ZZ b3_0 b3_1, ZY o4, ZW b5_0 b5_1, Z12 o6, Z10 o7, ZX o8, ZV]⟩ (outK Z0 Z5)
theorem ZEH : ZB2 k b1_1 b1_2 o2 b3_0 b3_1 o4 b5_0 b5_1 o6 o7 o8 = joinL (Option.bind (Z2 k (o2, b1_1, b1_2) (↑(List.length o8) : Int)) fun z77 => if (0 : Int) ≤ Prod.fst z77 then if Prod.fst z77 < (↑(List.length o8) : Int) then Zyr k o2 b3_0 b3_1 o4 b5_0 b5_1 o6 o7 o8 z77 else none else none) (joinL (Zyj k b1_1 b1_2 o2 b3_0 b3_1 o4 b5_0 b5_1 o6 o7 o8) (ZAY k b1_1 b1_2 o2 b3_0 b3_1 o4 b5_0 b5_1 o6 o7 o8)) := by kernel_rfl
theorem ZEd : ZB2 k b1_1 b1_2 o2 b3_0 b3_1 o4 b5_0 b5_1 o6 o7 o8 = repl 67 (ZG k b1_1 b1_2 o2 b3_0 b3_1 o4 b5_0 b5_1 o6 o7 o8) := by
 rw [ZEH]
 simp only [ZCE, ZCQ, ZEl, Zx, Zu, ZG, Zc, Zf, Za, Z9, Zb, Z8, if_true]
noncomputable def ZBB : Option (List Z1b) := execT Z0.G (stepOp Z0.T Z0.G Z0.mvs k) Z7 11 #[true, true, true, true, false, false, false, true, true, true, false, false, false, false, false, false, false, false] ⟨sets (Z1s o8) [], [Ob.ro, Zeu b1_1 b1_2, ZU o2, ZZ b3_0 b3_1, ZY o4, ZW b5_0 b5_1, Z12 o6, Z10 o7, ZX o8]⟩ (outK Z0 Z5)
theorem ZEZ : ZBB k b1_1 b1_2 o2 b3_0 b3_1 o4 b5_0 b5_1 o6 o7 o8 = joinL (Option.bind (Z2 k (o2, b1_1, b1_2) (↑(List.length o8) : Int)) fun z26 => if (0 : Int) ≤ Prod.fst z26 then if Prod.fst z26 < (↑(List.length o8) : Int) then ZBx k o2 b3_0 b3_1 o4 b5_0 b5_1 o6 o7 o8 z26 else none else none) (joinL (ZBn k b1_1 b1_2 o2 b3_0 b3_1 o4 b5_0 b5_1 o6 o7 o8) (joinL (ZAO k b1_1 b1_2 o2 b3_0 b3_1 o4 b5_0 b5_1 o6 o7 o8) (ZB2 k b1_1 b1_2 o2 b3_0 b3_1 o4 b5_0 b5_1 o6 o7 o8))) := by kernel_rfl
theorem ZEQ : ZBB k b1_1 b1_2 o2 b3_0 b3_1 o4 b5_0 b5_1 o6 o7 o8 = repl 444 (ZG k b1_1 b1_2 o2 b3_0 b3_1 o4 b5_0 b5_1 o6 o7 o8) := by
 rw [ZEZ]
 simp only [ZF0, ZEr, ZEU, ZEd, Zx, Zu, ZG, Zc, Zf, Za, Z9, Zb, Z8, if_true]
end
theorem ZjZ (k : Nat) (x : Zci.D) : execD Z0.T Z0.G Z0.mvs k Z7 (Z5.inp.st Z0.n x) (outK Z0 Z5) = ZBB k x.1.2.1.2.1 x.1.2.1.2.2.1 x.1.2.2.1 x.1.2.2.2.1.1 x.1.2.2.2.1.2.1 x.1.2.2.2.2.1 x.1.2.2.2.2.2.1.1 x.1.2.2.2.2.2.1.2.1 x.1.2.2.2.2.2.2.1 x.1.2.2.2.2.2.2.2.1 x.1.2.2.2.2.2.2.2.2.1 := by kernel_rfl
theorem Ziy (k : Nat) : EOK Try.prog Z0 k Z5.E (.region 22 Z7 true) := Zan (D := Z5) (m := 444) T_ok (Z62 k) (fun x => (ZjZ k x).trans (ZEQ k x.1.2.1.2.1 x.1.2.1.2.2.1 x.1.2.2.1 x.1.2.2.2.1.1 x.1.2.2.2.1.2.1 x.1.2.2.2.2.1 x.1.2.2.2.2.2.1.1 x.1.2.2.2.2.2.1.2.1 x.1.2.2.2.2.2.2.1 x.1.2.2.2.2.2.2.2.1 x.1.2.2.2.2.2.2.2.2.1))
noncomputable def Z5d : Code := ((findCond 25 Z1B).map (·.1)).getD .skip
noncomputable def Z57 : Code := ((findCond 25 Z1B).map (·.2)).getD .skip
theorem Zk4 (k : Nat) (i : ZC.inp.D) : ZC.lp k i = branch (ZC.inp.st Z0.n i) (.tmp 25) (fun st => exec Z0 k Z5d st (outK Z0 ZC) (fun _ _ => none) ZC.mkB) (fun st => exec Z0 k Z57 st (outK Z0 ZC) (fun _ _ => none) ZC.mkB) := by kernel_rfl
theorem ZiO (k : Nat) : EOK Try.prog Z0 k ZC.E (.cond (.tmp 25) Z5d Z57) := Ztv (D := ZC) T_ok (Z62 k) (Zk4 k) (@LOK.by _ _ _ _ Z5d [] (by kernel_rfl) AllOK.nil) (@LOK.by _ _ _ _ Z57 [] (by kernel_rfl) AllOK.nil)
noncomputable def Z5e : Code := ((findCond 44 Z1B).map (·.1)).getD .skip
noncomputable def Z5a : Code := ((findCond 44 Z1B).map (·.2)).getD .skip
theorem ZjT (k : Nat) (i : ZB.inp.D) : ZB.lp k i = branch (ZB.inp.st Z0.n i) (.tmp 44) (fun st => exec Z0 k Z5e st (outK Z0 ZB) (fun _ _ => none) ZB.mkB) (fun st => exec Z0 k Z5a st (outK Z0 ZB) (fun _ _ => none) ZB.mkB) := by kernel_rfl
theorem ZiJ (k : Nat) : EOK Try.prog Z0 k ZB.E (.cond (.tmp 44) Z5e Z5a) := Ztv (D := ZB) T_ok (Z62 k) (ZjT k) (@LOK.by _ _ _ _ Z5e [] (by kernel_rfl) AllOK.nil) (@LOK.by _ _ _ _ Z5a [] (by kernel_rfl) AllOK.nil)
noncomputable def Z6B : Code := (findLoop 1 Z1B).getD .skip
theorem ZlI (k : Nat) (x : Z9X.D) : Z2Q.lp (k + 1) x = loopK Z0 Z2Q 1 Z6B k x := by kernel_rfl
theorem ZlV (k : Nat) : LOK Try.prog Z0 k Z6B := LOK.by [] (by kernel_rfl) AllOK.nil
theorem Zmh (x : Z9X.D) : Z2Q.lp 0 x = none := by kernel_rfl
theorem Zkq (k : Nat) : EOK Try.prog Z0 k Z2Q.E (.block 1 (.loop Z6B)) := Zp T_ok Z62 Zmh ZlI ZlV k
theorem ZqR (k : Nat) (x : Tup Z1z.ps) : Z1z.f (k + 1) x = fnK Z1z Z0 Z1B k x := by kernel_rfl
theorem Zr3 (x : Tup Z1z.ps) : Z1z.f 0 x = none := by kernel_rfl
theorem Zqb (k : Nat) : LOK Try.prog Z0 k Z1B := LOK.by [(ZC.E, .cond (.tmp 25) Z5d Z57), (ZB.E, .cond (.tmp 44) Z5e Z5a), (Z2Q.E, .block 1 (.loop Z6B)), (Z5.E, .region 22 Z7 true)] (by kernel_rfl) (AllOK.cons (ZiO k) (AllOK.cons (ZiJ k) (AllOK.cons (Zkq k) (AllOK.cons (Ziy k) AllOK.nil))))
theorem ZfO (k : Nat) : SoundAt Try.prog k 149 Z1z.E := @Ze Try.prog Z1z Z0 149 Try.f149 Z1B (by kernel_rfl) (by kernel_rfl) (by kernel_rfl) Try.func149 (by kernel_rfl) (by kernel_rfl) (by kernel_rfl) T_ok Z62 Zqb Zr3 ZqR k
end
end Go.Proofs.Ytgjmhbjdhihgaaa.Vs

set_option maxRecDepth 100000
set_option maxHeartbeats 2000000
set_option linter.unusedVariables false
set_option linter.unusedSimpArgs false
namespace Go.Proofs.Ytgjmhbjdhihgaaa.Vs
open Go.RowKit
noncomputable section
noncomputable def Z4q : List PK := [PK.mk (Ty.pair (Ty.int .i64) (Ty.pair (Ty.int .i64) (Ty.slice (79 : Nat) (Ty.pair (Ty.int .i64) (Ty.int .i64))))) true none false none, PK.mk (Ty.slice (3 : Nat) (Ty.int .i64)) false none false none, PK.mk (Ty.slice (63 : Nat) (Ty.pair (Ty.int .i64) (Ty.pair (Ty.int .i64) (Ty.int .i64)))) false none false none]
noncomputable def Zdz : List PK := [PK.mk (Ty.slice (5 : Nat) (Ty.int .u8)) false none false none]
noncomputable def Zd6 (r : (Int × Int × List (Int × Int)) × List Int × List (Int × Int × Int)) : Tup Z4q × OutD := ((r.1, r.2.1, r.2.2, ()), none)
noncomputable def Zd5 : Tup Z4q × OutD → Option ((Int × Int × List (Int × Int)) × List Int × List (Int × Int × Int))
 | (a, none) => some (a.1, a.2.1, a.2.2.1)
 | _ => none
theorem ZhN : ∀ b r, Zd5 b = some r → Zd6 r = b := by
 rintro ⟨a, o⟩ r h
 cases o with
 | none => injection h with h; subst h; rfl
 | some _ => cases h
noncomputable def Z6G : Nat → List Int → Option ((Int × Int × List (Int × Int)) × List Int × List (Int × Int × Int))
 | 0, _ => none
 | k + 1, p0 =>
  Option.bind (Z5Y k (p0, (0 : Int), (0 : Int))) fun z0 => some ((Prod.fst z0.1, Prod.fst z0.1.2, Prod.snd z0.1.2), Prod.fst z0.2, Prod.fst z0.2.2)
noncomputable def Z1q : FnDef := .of Zdz Z4q ((Int × Int × List (Int × Int)) × List Int × List (Int × Int × Int)) (fun k x => Z6G k x.1) Zd6 Zd5 ZhN
noncomputable def Z9R : Code := Try.f136.body.getD .skip
noncomputable def Z6H : Ctx (Tup Z4q × OutD) := { T := T, G := [(149, Z1z.E)], mvs := [], no := 0, n := 14, res := resOf T Zdz Z4q Try.f136.results.toList, loops := [], regs := [], conds := [] }
theorem Zm6 (k : Nat) : EnvOK Try.prog k Z6H.G := (EnvOK.cons (ZfO k) (EnvOK.nil mixed))
theorem Zm3 (k : Nat) (x : Tup Z1q.ps) : Z1q.f (k + 1) x = fnK Z1q Z6H Z9R k x := by kernel_rfl
theorem Zmd (x : Tup Z1q.ps) : Z1q.f 0 x = none := by kernel_rfl
theorem Zmi (k : Nat) : LOK Try.prog Z6H k Z9R := LOK.by [] (by kernel_rfl) AllOK.nil
theorem Zmg (k : Nat) : SoundAt Try.prog k 136 Z1q.E := @Ze Try.prog Z1q Z6H 136 Try.f136 Z9R (by kernel_rfl) (by kernel_rfl) (by kernel_rfl) Try.func136 (by kernel_rfl) (by kernel_rfl) (by kernel_rfl) T_ok Zm6 Zmi Zmd Zm3 k
end
end Go.Proofs.Ytgjmhbjdhihgaaa.Vs

set_option maxRecDepth 100000
set_option maxHeartbeats 2000000
set_option linter.unusedVariables false
set_option linter.unusedSimpArgs false
namespace Go.Proofs.Ytgjmhbjdhihgaaa.Vs
open Go.RowKit
noncomputable section
noncomputable def Z42 : List PK := [PK.mk (Ty.pair (Ty.int .i64) (Ty.pair (Ty.int .i64) (Ty.slice (79 : Nat) (Ty.pair (Ty.int .i64) (Ty.int .i64))))) true none false none, PK.mk (Ty.slice (3 : Nat) (Ty.int .i64)) false none false none, PK.mk (Ty.slice (63 : Nat) (Ty.pair (Ty.int .i64) (Ty.pair (Ty.int .i64) (Ty.int .i64)))) false none false none]
noncomputable def Zd1 : List PK := [PK.mk (Ty.slice (5 : Nat) (Ty.int .u8)) false none false none]
noncomputable def ZcC (r : (Int × Int × List (Int × Int)) × List Int × List (Int × Int × Int)) : Tup Z42 × OutD := ((r.1, r.2.1, r.2.2, ()), none)
noncomputable def ZcA : Tup Z42 × OutD → Option ((Int × Int × List (Int × Int)) × List Int × List (Int × Int × Int))
 | (a, none) => some (a.1, a.2.1, a.2.2.1)
 | _ => none
theorem Zho : ∀ b r, ZcA b = some r → ZcC r = b := by
 rintro ⟨a, o⟩ r h
 cases o with
 | none => injection h with h; subst h; rfl
 | some _ => cases h
noncomputable def Z5L : Nat → List Int → Option ((Int × Int × List (Int × Int)) × List Int × List (Int × Int × Int))
 | 0, _ => none
 | k + 1, p0 =>
  Option.bind (Z6G k p0) fun z0 => some ((Prod.fst z0.1, Prod.fst z0.1.2, Prod.snd z0.1.2), Prod.fst z0.2, Prod.snd z0.2)
noncomputable def Z1g : FnDef := .of Zd1 Z42 ((Int × Int × List (Int × Int)) × List Int × List (Int × Int × Int)) (fun k x => Z5L k x.1) ZcC ZcA Zho
noncomputable def Z8Y : Code := Try.f53.body.getD .skip
noncomputable def Z5N : Ctx (Tup Z42 × OutD) := { T := T, G := [(136, Z1q.E)], mvs := [], no := 0, n := 10, res := resOf T Zd1 Z42 Try.f53.results.toList, loops := [], regs := [], conds := [] }
theorem ZkG (k : Nat) : EnvOK Try.prog k Z5N.G := (EnvOK.cons (Zmg k) (EnvOK.nil mixed))
theorem Zko (k : Nat) (x : Tup Z1g.ps) : Z1g.f (k + 1) x = fnK Z1g Z5N Z8Y k x := by kernel_rfl
theorem ZkH (x : Tup Z1g.ps) : Z1g.f 0 x = none := by kernel_rfl
theorem ZkF (k : Nat) : LOK Try.prog Z5N k Z8Y := LOK.by [] (by kernel_rfl) AllOK.nil
theorem Zkm (k : Nat) : SoundAt Try.prog k 53 Z1g.E := @Ze Try.prog Z1g Z5N 53 Try.f53 Z8Y (by kernel_rfl) (by kernel_rfl) (by kernel_rfl) Try.func53 (by kernel_rfl) (by kernel_rfl) (by kernel_rfl) T_ok ZkG ZkF ZkH Zko k
end
end Go.Proofs.Ytgjmhbjdhihgaaa.Vs

set_option maxRecDepth 100000
set_option maxHeartbeats 2000000
set_option linter.unusedVariables false
set_option linter.unusedSimpArgs false
namespace Go.Proofs.Ytgjmhbjdhihgaaa.Vs
open Go.RowKit
noncomputable section
end
end Go.Proofs.Ytgjmhbjdhihgaaa.Vs

set_option linter.unusedVariables false
set_option linter.unusedSimpArgs false
namespace Go.Proofs.Ytgjmhbjdhihgaaa.Vs
open Go.RowKit
theorem ZB0 {l : List Int} (h : ∀ x ∈ l, Wf (.int .u8) x) : ∀ x ∈ l, 0 ≤ x ∧ x ≤ 255 := by
 intro x hx
 have h2 : (Lit.int .u8 x).wf = true := h x hx
 simp only [Lit.wf, Bool.and_eq_true, decide_eq_true_eq] at h2
 have e1 : IntKind.u8.min = 0 := by decide
 have e2 : IntKind.u8.max = 255 := by decide
 omega
def Cur (code : List Int) (at' n : Int) : Prop := (∀ x ∈ code, 0 ≤ x ∧ x ≤ 255) ∧ code.length ≤ 9223372036854775807 ∧ 0 ≤ at' ∧ at' + n ≤ 4611686018427387904
theorem Cur.to {code : List Int} {at' n at2 m : Int} (h : Cur code at' n) (h1 : at' ≤ at2) (h2 : at2 + m ≤ at' + n) : Cur code at2 m := ⟨h.1, h.2.1, by have := h.2.2.1; omega, by have := h.2.2.2; omega⟩
theorem ZBZ (n : Int) (h0 : 0 ≤ n) (h1 : n < 2 ^ 64) : IntKind.u64.wrap n = n := by
 have : (2 : Int) ^ 64 = 18446744073709551616 := by decide
 simp [IntKind.wrap, IntKind.bits, IntKind.signed]
 omega
theorem and255 (x : Int) : 0 ≤ bits BinOp.and IntKind.u64 x 255 ∧ bits BinOp.and IntKind.u64 x 255 ≤ 255 := by
 unfold bits
 simp only
 have h : ((BitVec.ofInt IntKind.u64.bits x &&& BitVec.ofInt IntKind.u64.bits 255).toNat) ≤ 255 := by
  rw [BitVec.toNat_and]
  exact Nat.and_le_right
 have h2 : ((2 : Int) ^ 64) = 18446744073709551616 := by decide
 rw [ZBZ _ (Int.natCast_nonneg _) (by omega)]
 omega
theorem Zzx {l : List Int} {i : Int} (h : i < (l.length : Int)) (h0 : 0 ≤ i) : List.getD l i.toNat 0 ∈ l := by
 have hi : i.toNat < l.length := by omega
 simp only [List.getD, List.getElem?_eq_getElem hi, Option.getD_some]
 exact List.getElem_mem hi
def seedN (s b : Int) : Int := IntKind.wrap IntKind.u64 (IntKind.wrap IntKind.u64 (IntKind.wrap IntKind.u64 (s * 6364136223846793005) + IntKind.wrap IntKind.u64 b) + 1442695040888963407)
theorem ZDE {code : List Int} {at' : Int} (seed : Int) (h : Cur code at' 1) : ∃ v s, Ev (fun k => Z5A k (code, at', seed)) (v, at' + 1, s) ∧ 0 ≤ v ∧ v ≤ 255 := by
 obtain ⟨hb, hl, h0, h1⟩ := h
 have w1 : wrap64 (at' + 1) = at' + 1 := w64 (by omega) (by omega)
 have big : ∀ x : Int, 0 ≤ wrap64 (bits BinOp.and IntKind.u64 x 255) ∧ wrap64 (bits BinOp.and IntKind.u64 x 255) ≤ 255 := fun x => by
  have := and255 x
  rw [w64 (by omega) (by omega)]
  exact this
 by_cases hin : at' < (code.length : Int)
 ·have hx := hb _ (Zzx hin h0)
  have w2 : wrap64 (List.getD code at'.toNat 0) = List.getD code at'.toNat 0 := w64 (by omega) (by omega)
  have hle : at' + 1 ≤ (code.length : Int) := by omega
  refine ⟨List.getD code at'.toNat 0, seedN seed (List.getD code at'.toNat 0), Ev.succ ?_, hx.1, hx.2⟩
  simp only [Z5A, hin, h0, w1, hle, decide_true, if_true, w2]
  exact Ev.some _
 ·have hle : ¬ at' + 1 ≤ (code.length : Int) := by omega
  refine ⟨wrap64 (bits BinOp.and IntKind.u64 (Int.fdiv (seedN seed 0) (2 ^ min (Int.toNat 40) (IntKind.bits IntKind.u64))) 255), seedN seed 0, Ev.succ ?_, (big _).1, (big _).2⟩
  simp only [Z5A, hin, w1, hle, decide_false, Bool.false_eq_true, if_false]
  exact Ev.some _
theorem ZBv {code : List Int} {at' : Int} (seed n : Int) (h : Cur code at' 2) : ∃ v at2 s, Ev (fun k => Z2 k (code, at', seed) n) (v, at2, s) ∧ at' ≤ at2 ∧ at2 ≤ at' + 2 ∧ 0 ≤ v ∧ (n ≤ 1 → v = 0) ∧ (1 < n → v < n) := by
 by_cases hn : n ≤ 1
 ·refine ⟨0, at', seed, Ev.succ ?_, by omega, by omega, by omega, fun _ => rfl, fun h => by omega⟩
  simp only [Z2, hn, decide_true, if_true]
  exact Ev.some _
 ·obtain ⟨v1, s1, e1, b1, b2⟩ := ZDE seed (h.to (at2 := at') (m := 1) (by omega) (by omega))
  by_cases hb : n > 200
  ·obtain ⟨v2, s2, e2, b3, b4⟩ := ZDE s1 (h.to (at2 := at' + 1) (m := 1) (by omega) (by omega))
   have hp : 0 ≤ v1 * 256 + v2 := by omega
   refine ⟨Int.tmod (v1 * 256 + v2) n, at' + 1 + 1, s2, Ev.succ ?_, by omega, by omega, Int.tmod_nonneg _ hp, fun h => by omega, fun _ => Int.tmod_lt_of_pos _ (by omega)⟩
   have hn0 : ¬ n = 0 := by omega
   simp only [Z2, hn, decide_false, Bool.false_eq_true, if_false]
   refine Ev.bind e1 ?_
   simp only [hb, decide_true, if_true]
   refine Ev.bind e2 ?_
   simp only [hn0, if_false]
   rw [w64 (n := v1 * 256) (by omega) (by omega), w64 (n := v1 * 256 + v2) (by omega) (by omega)]
   exact Ev.some _
  ·refine ⟨Int.tmod v1 n, at' + 1, s1, Ev.succ ?_, by omega, by omega, Int.tmod_nonneg _ b1, fun h => by omega, fun _ => Int.tmod_lt_of_pos _ (by omega)⟩
   have hn0 : ¬ n = 0 := by omega
   simp only [Z2, hn, decide_false, Bool.false_eq_true, if_false]
   refine Ev.bind e1 ?_
   simp only [hb, decide_false, Bool.false_eq_true, if_false, hn0]
   exact Ev.some _
theorem ZeE {code : List Int} {at' : Int} (seed : Int) (l : List Int) (hl : 0 < l.length) (h : Cur code at' 2) : ∃ v at2 s, Ev (fun k => Zg k (code, at', seed) l) (v, at2, s) ∧ at' ≤ at2 ∧ at2 ≤ at' + 2 ∧ v ∈ l := by
 obtain ⟨v, at2, s, e1, b1, b2, b3, b4, b5⟩ := ZBv seed (l.length : Int) h
 have hlt : v < (l.length : Int) := by
  by_cases h1 : (l.length : Int) ≤ 1
  ·rw [b4 h1]; omega
  ·exact b5 (by omega)
 refine ⟨List.getD l v.toNat 0, at2, s, Ev.succ ?_, b1, b2, Zzx hlt b3⟩
 simp only [Zg]
 refine Ev.bind e1 ?_
 simp only [b3, hlt, if_true]
 exact Ev.some _
end Go.Proofs.Ytgjmhbjdhihgaaa.Vs

set_option linter.unusedVariables false
set_option linter.unusedSimpArgs false
namespace Go.Proofs.Ytgjmhbjdhihgaaa.Vs
open Go.RowKit
theorem Zyp {code : List Int} {at' : Int} (seed n : Int) (h : Cur code at' 2) : ∃ b at2 s, Ev (fun k => Z19 k (code, at', seed) n) (b, at2, s) ∧ at' ≤ at2 ∧ at2 ≤ at' + 2 := by
 obtain ⟨v, at2, s, e1, b1, b2, _⟩ := ZBv seed n h
 refine ⟨decide (v = 0), at2, s, Ev.succ ?_, b1, b2⟩
 simp only [Z19]
 exact Ev.bind e1 (Ev.some _)
theorem ZeA {code : List Int} {at' : Int} (seed n : Int) (h : Cur code at' 2) (hn : 0 < n) : ∃ v at2 s, Ev (fun k => Z2 k (code, at', seed) n) (v, at2, s) ∧ at' ≤ at2 ∧ at2 ≤ at' + 2 ∧ 0 ≤ v ∧ v < n := by
 obtain ⟨v, at2, s, e1, b1, b2, b3, b4, b5⟩ := ZBv seed n h
 refine ⟨v, at2, s, e1, b1, b2, b3, ?_⟩
 by_cases h1 : n ≤ 1
 ·rw [b4 h1]; exact hn
 ·exact b5 (by omega)
end Go.Proofs.Ytgjmhbjdhihgaaa.Vs

set_option linter.unusedVariables false
set_option linter.unusedSimpArgs false
namespace Go.Proofs.Ytgjmhbjdhihgaaa.Vs
open Go.RowKit
theorem Z3G (a b c : Int) : Ev (fun k => Z21 k a b c) (decide (b ≤ a ∧ a ≤ c)) := by
 refine Ev.succ ?_
 simp only [Z21]
 refine Ev.of ?_
 by_cases h1 : b ≤ a <;> by_cases h2 : a ≤ c <;> simp [h1, h2]
theorem Zn0 (lo hi : Int) : ∀ (r pre : List Int), (pre ++ r).length ≤ 9223372036854775806 → Ev (fun k => Z8j k lo hi (pre ++ r) ((pre ++ r).length : Int) (pre.length : Int)) (if r.all (fun n => decide (lo ≤ n ∧ n ≤ hi)) then LR.go () else LR.ret false)
 | [], pre, hl => by
  refine Ev.succ ?_
  simp only [Z8j, Zz, decide_false, Bool.false_eq_true, if_false, List.all_nil, if_true]
  exact Ev.some _
 | x :: r, pre, hl => by
  have ih := Zn0 lo hi r (pre ++ [x]) (by simpa using hl)
  refine Ev.succ ?_
  simp only [Z8j, Zs, ZN, decide_true, if_true, Int.toNat_natCast, Zo]
  rw [Zq pre x r (by omega)]
  rw [← Zh] at ih
  refine Ev.bind (Z3G x lo hi) ?_
  by_cases hx : lo ≤ x ∧ x ≤ hi
  ·simp only [hx, and_self, List.all_cons, decide_true, Bool.true_and, Bool.not_true, Bool.false_eq_true, if_false]; exact ih
  ·simp only [hx, List.all_cons, decide_false, Bool.false_and, Bool.not_false, if_true, Bool.false_eq_true, if_false]; exact Ev.some _
theorem ZB8 (l : List Int) (lo hi : Int) (hl : l.length ≤ 9223372036854775806) : Ev (fun k => Zfh k l lo hi) (l.all fun n => decide (lo ≤ n ∧ n ≤ hi)) := by
 refine Ev.succ ?_
 simp only [Zfh]
 refine Ev.bind (Zn0 lo hi l [] (by simpa using hl)) ?_
 cases hx : l.all fun n => decide (lo ≤ n ∧ n ≤ hi) with
 | true => simp only [if_true]; exact Ev.go (Ev.some _)
 | false => simp only [Bool.false_eq_true, if_false]; exact Ev.ret (Ev.some _)
end Go.Proofs.Ytgjmhbjdhihgaaa.Vs

set_option linter.unusedVariables false
set_option linter.unusedSimpArgs false
namespace Go.Proofs.Ytgjmhbjdhihgaaa.Vs
open Go.RowKit
abbrev CellD := Int × Int
abbrev BoardD := Int × Int × List (Int × Int)
abbrev FaultD := Int × Int × Int
def turning (x : CellD) : Bool := decide (x.1 = 3 ∨ x.1 = 6)
def cellOK (x : CellD) : Bool := decide (0 ≤ x.1 ∧ x.1 ≤ 7 ∧ (x.2 = 0 ∨ (x.2 = 1 ∧ (x.1 = 3 ∨ x.1 = 6))))
def boardOK (b : BoardD) : Bool := decide (1 ≤ b.1 ∧ b.1 ≤ 10 ∧ 1 ≤ b.2.1 ∧ b.2.1 ≤ 9 ∧ (b.2.2.length : Int) = b.1 * b.2.1) && b.2.2.all cellOK
theorem ZaP (x : CellD) : Ev (fun k => Z4A k x) (turning x) := by
 refine Ev.succ ?_
 simp only [Z4A]
 refine Ev.of ?_
 by_cases h1 : x.1 = 3 <;> simp [turning, h1]
theorem ZhA (x : CellD) : Ev (fun k => Z9d k x) (cellOK x) := by
 refine Ev.succ ?_
 simp only [Z9d, decide_eq_true_eq]
 refine Ev.of ?_
 unfold cellOK
 repeat' split
 all_goals (congr 1; first | (symm; rw [decide_eq_true_eq]; omega) | (symm; rw [decide_eq_false_iff_not]; omega) | (apply decide_eq_decide.2; omega))
theorem ZAd (x : CellD) : Ev (fun k => Ze0 k x) (cellOK x) := by
 refine Ev.succ ?_
 simp only [Ze0]
 refine Ev.bind (Z3G _ _ _) ?_
 refine Ev.ite (fun h => ?_) (fun h => ?_)
 ·simp only [decide_eq_true_eq] at h
  refine Ev.ite (fun h2 => ?_) (fun h2 => ?_)
  ·simp only [decide_eq_true_eq] at h2
   refine Ev.of ?_
   congr 1; simp [cellOK]; omega
  ·simp only [decide_eq_true_eq] at h2
   refine Ev.ite (fun h3 => ?_) (fun h3 => ?_)
   ·simp only [decide_eq_true_eq] at h3
    refine Ev.bind (ZaP x) (Ev.of ?_)
    congr 1; unfold turning cellOK; by_cases h4 : x.1 = 3 ∨ x.1 = 6 <;> simp [h4] <;> omega
   ·simp only [decide_eq_true_eq] at h3
    refine Ev.of ?_
    congr 1; simp [cellOK]; omega
 ·simp only [decide_eq_true_eq] at h
  refine Ev.of ?_
  congr 1; simp [cellOK]; omega
theorem Zj1 (x : CellD) : Ev (fun k => Z2I k x) (cellOK x && turning x) := by
 refine Ev.succ ?_
 simp only [Z2I]
 refine Ev.bind (ZhA x) ?_
 refine Ev.ite (fun h => ?_) (fun h => ?_)
 ·rw [h, Bool.true_and]
  refine Ev.of ?_
  by_cases h1 : x.1 = 3 <;> simp [turning, h1]
 ·refine Ev.of ?_
  simp only [Bool.not_eq_true] at h
  rw [h]; rfl

theorem ZfR : ∀ (r pre : List CellD), (pre ++ r).length ≤ 9223372036854775806 → Ev (fun k => Z4m k (pre ++ r) ((pre ++ r).length : Int) (pre.length : Int)) (if r.all cellOK then LR.go () else LR.ret false)
 | [], pre, hl => by
  refine Ev.succ ?_
  simp only [Z4m, Zz, decide_false, Bool.false_eq_true, if_false, List.all_nil, if_true]
  exact Ev.some _
 | x :: r, pre, hl => by
  have ih := ZfR r (pre ++ [x]) (by simpa using hl)
  refine Ev.succ ?_
  simp only [Z4m, Zs, ZN, decide_true, if_true, Int.toNat_natCast, Zo]
  rw [Zq pre x r (by omega)]
  rw [← Zh] at ih
  refine Ev.bind (ZhA x) ?_
  cases hx : cellOK x with
  | true => simp only [hx, List.all_cons, Bool.true_and, Bool.not_true, Bool.false_eq_true, if_false]; exact ih
  | false => simp only [hx, List.all_cons, Bool.false_and, Bool.not_false, if_true, Bool.false_eq_true, if_false]; exact Ev.some _
theorem ZuX (l : List CellD) (hl : l.length ≤ 9223372036854775806) : Ev (fun k => Za8 k l) (decide (l.length ≤ 90) && l.all cellOK) := by
 refine Ev.succ ?_
 simp only [Za8]
 refine Ev.ite (fun h => ?_) (fun h => ?_)
 ·simp only [decide_eq_true_eq] at h
  refine Ev.of ?_
  have : ¬ l.length ≤ 90 := by omega
  simp [this]
 ·simp only [decide_eq_true_eq] at h
  have h2 : l.length ≤ 90 := by omega
  refine Ev.bind (ZfR l [] (by simpa using hl)) ?_
  simp only [h2, decide_true, Bool.true_and]
  cases hx : l.all cellOK with
  | true => simp only [if_true]; exact Ev.go (Ev.some _)
  | false => simp only [Bool.false_eq_true, if_false]; exact Ev.ret (Ev.some _)
theorem ZL {a b : Int} (h1 : 1 ≤ a) (h2 : a ≤ 10) (h3 : 1 ≤ b) (h4 : b ≤ 9) : 1 ≤ a * b ∧ a * b ≤ 90 :=
 ⟨by have := Int.mul_le_mul h1 h3 (by omega) (by omega); omega, by have := Int.mul_le_mul h2 h4 (by omega) (by omega); omega⟩
theorem Zgo (b : BoardD) (hl : b.2.2.length ≤ 9223372036854775806) : Ev (fun k => Z8h k b) (boardOK b) := by
 refine Ev.succ ?_
 simp only [Z8h, ge_iff_le]
 have no : ∀ {c : Prop}, ¬ c → (boardOK b = true → c) → Option.some false = Option.some (boardOK b) := by
  intro c h1 h2
  cases hb : boardOK b with
  | true => exact absurd (h2 hb) h1
  | false => rfl
 have hb : boardOK b = true → 1 ≤ b.1 ∧ b.1 ≤ 10 ∧ 1 ≤ b.2.1 ∧ b.2.1 ≤ 9 ∧ (b.2.2.length : Int) = b.1 * b.2.1 := fun h => by
  unfold boardOK at h; simp only [Bool.and_eq_true, decide_eq_true_eq] at h; exact h.1
 refine Ev.ite (fun h1 => ?_) (fun h => Ev.of (no h (fun hh => by simpa using (hb hh).1)))
 refine Ev.ite (fun h2 => ?_) (fun h => Ev.of (no h (fun hh => by simpa using (hb hh).2.1)))
 refine Ev.ite (fun h3 => ?_) (fun h => Ev.of (no h (fun hh => by simpa using (hb hh).2.2.1)))
 refine Ev.ite (fun h4 => ?_) (fun h => Ev.of (no h (fun hh => by simpa using (hb hh).2.2.2.1)))
 simp only [decide_eq_true_eq] at h1 h2 h3 h4
 have hp := ZL h1 h2 h3 h4
 rw [w64 (by omega) (by omega)]
 refine Ev.ite (fun h5 => ?_) (fun h => Ev.of (no h (fun hh => by simpa using (hb hh).2.2.2.2)))
 simp only [decide_eq_true_eq] at h5
 refine Ev.bind (ZuX _ hl) (Ev.of ?_)
 have h6 : b.2.2.length ≤ 90 := by omega
 congr 1
 simp only [boardOK, h1, h2, h3, h4, ← h5, h6, and_self, decide_true, Bool.true_and]
theorem ZkJ : ∀ (r pre : List CellD), (pre ++ r).length ≤ 9223372036854775806 → Ev (fun k => Z7m k (pre ++ r) ((pre ++ r).length : Int) (pre.length : Int)) (if r.all cellOK then LR.go () else LR.ret false)
 | [], pre, hl => by
  refine Ev.succ ?_
  simp only [Z7m, Zz, decide_false, Bool.false_eq_true, if_false, List.all_nil, if_true]
  exact Ev.some _
 | x :: r, pre, hl => by
  have ih := ZkJ r (pre ++ [x]) (by simpa using hl)
  refine Ev.succ ?_
  simp only [Z7m, Zs, ZN, decide_true, if_true, Int.toNat_natCast, Zo]
  rw [Zq pre x r (by omega)]
  rw [← Zh] at ih
  refine Ev.bind (ZAd x) ?_
  cases hx : cellOK x with
  | true => simp only [hx, List.all_cons, Bool.true_and, Bool.not_true, Bool.false_eq_true, if_false]; exact ih
  | false => simp only [hx, List.all_cons, Bool.false_and, Bool.not_false, if_true, Bool.false_eq_true, if_false]; exact Ev.some _
theorem ZdR (b : BoardD) (hl : b.2.2.length ≤ 9223372036854775806) : Ev (fun k => Z7o k b) (boardOK b) := by
 refine Ev.succ ?_
 simp only [Z7o]
 have no : ∀ {c : Prop}, ¬ c → (boardOK b = true → c) → Option.some false = Option.some (boardOK b) := by
  intro c h1 h2
  cases hb : boardOK b with
  | true => exact absurd (h2 hb) h1
  | false => rfl
 have hb : boardOK b = true → 1 ≤ b.1 ∧ b.1 ≤ 10 ∧ 1 ≤ b.2.1 ∧ b.2.1 ≤ 9 ∧ (b.2.2.length : Int) = b.1 * b.2.1 := fun h => by
  unfold boardOK at h; simp only [Bool.and_eq_true, decide_eq_true_eq] at h; exact h.1
 refine Ev.bind (Z3G _ _ _) (Ev.ite (fun h => Ev.of (no (c := 1 ≤ b.1 ∧ b.1 ≤ 10) (nd h) (fun hh => ⟨(hb hh).1, (hb hh).2.1⟩))) (fun h1 => ?_))
 refine Ev.bind (Z3G _ _ _) (Ev.ite (fun h => Ev.of (no (c := 1 ≤ b.2.1 ∧ b.2.1 ≤ 9) (nd h) (fun hh => ⟨(hb hh).2.2.1, (hb hh).2.2.2.1⟩))) (fun h2 => ?_))
 have h1' : 1 ≤ b.1 ∧ b.1 ≤ 10 := yd h1
 have h2' : 1 ≤ b.2.1 ∧ b.2.1 ≤ 9 := yd h2
 have hp := ZL h1'.1 h1'.2 h2'.1 h2'.2
 rw [w64 (by omega) (by omega)]
 refine Ev.ite (fun h => Ev.of (no (c := (b.2.2.length : Int) = b.1 * b.2.1) (by simpa using h) (fun hh => (hb hh).2.2.2.2))) (fun h3 => ?_)
 have h3' : (b.2.2.length : Int) = b.1 * b.2.1 := by simpa using h3
 refine Ev.bind (ZkJ b.2.2 [] (by simpa using hl)) ?_
 have hx2 : boardOK b = b.2.2.all cellOK := by unfold boardOK; simp only [h1'.1, h1'.2, h2'.1, h2'.2, h3', and_self, decide_true, Bool.true_and]
 rw [hx2]
 cases hx : b.2.2.all cellOK with
 | true => simp only [if_true]; exact Ev.go (Ev.some _)
 | false => simp only [Bool.false_eq_true, if_false]; exact Ev.ret (Ev.some _)
theorem ZH {b : BoardD} (h : boardOK b = true) : 1 ≤ b.1 ∧ b.1 ≤ 10 ∧ 1 ≤ b.2.1 ∧ b.2.1 ≤ 9 ∧ (b.2.2.length : Int) = b.1 * b.2.1 ∧ ∀ x ∈ b.2.2, cellOK x = true := by
 unfold boardOK at h
 simp only [Bool.and_eq_true, decide_eq_true_eq] at h
 exact ⟨h.1.1, h.1.2.1, h.1.2.2.1, h.1.2.2.2.1, h.1.2.2.2.2, List.all_eq_true.1 h.2⟩
theorem Zz3 (b : BoardD) (r c : Int) (hl : b.2.2.length ≤ 9223372036854775806) : Ev (fun k => ZcT k b r c) (boardOK b && decide (0 ≤ r ∧ r < b.1 ∧ 0 ≤ c ∧ c < b.2.1)) := by
 refine Ev.succ ?_
 simp only [ZcT, ge_iff_le]
 refine Ev.bind (Zgo b hl) (Ev.ite (fun h => ?_) (fun h => ?_))
 ·rw [h, Bool.true_and]
  refine Ev.of ?_
  simp only [decide_eq_true_eq]
  repeat' split
  all_goals (congr 1; first | (symm; rw [decide_eq_true_eq]; omega) | (symm; rw [decide_eq_false_iff_not]; omega) | (apply decide_eq_decide.2; omega))
 ·refine Ev.of ?_
  simp only [Bool.not_eq_true] at h
  rw [h]; rfl
theorem Z4E {b : BoardD} (h : boardOK b = true) {r c : Int} (h1 : 0 ≤ r) (h2 : r < b.1) (h3 : 0 ≤ c) (h4 : c < b.2.1) : 0 ≤ r * b.2.1 + c ∧ r * b.2.1 + c < (b.2.2.length : Int) ∧ r * b.2.1 + c ≤ 90 ∧ 0 ≤ r * b.2.1 ∧ r * b.2.1 ≤ 90 := by
 obtain ⟨g1, g2, g3, g4, g5, _⟩ := ZH h
 have hp := ZL g1 g2 g3 g4
 have k1 : 0 ≤ r * b.2.1 := Int.mul_nonneg h1 (by omega)
 have k2 : (r + 1) * b.2.1 ≤ b.1 * b.2.1 := Int.mul_le_mul_of_nonneg_right (by omega) (by omega)
 rw [Int.add_mul, Int.one_mul] at k2
 omega
theorem ZiP {l : List CellD} {i : Int} (h0 : 0 ≤ i) (h1 : i < (l.length : Int)) (d : CellD) : List.getD l i.toNat d ∈ l := by
 have : i.toNat < l.length := by omega
 simp [List.getD, List.getElem?_eq_getElem this]

end Go.Proofs.Ytgjmhbjdhihgaaa.Vs
