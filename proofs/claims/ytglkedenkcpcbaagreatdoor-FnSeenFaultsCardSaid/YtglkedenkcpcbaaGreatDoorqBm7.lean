/- The proof, part 8. -/
import Derived.Test.YtglkedenkcpcbaaGreatDoorqBm6
set_option maxRecDepth 100000
set_option maxHeartbeats 2000000
set_option linter.unusedVariables false
set_option linter.unusedSimpArgs false
namespace Go.Proofs.YtglkedenkcpcbaaGreatDoor.Vs
open Go.RowKit
noncomputable section
noncomputable def Z62 : List PK := [PK.mk (Ty.pair (Ty.int .i64) (Ty.pair (Ty.int .i64) (Ty.int .i64))) true none false none]
noncomputable def Zhq : List PK := [PK.mk (Ty.slice (5 : Nat) (Ty.int .u8)) false none false none]
noncomputable def ZgC (r : Int × Int × Int) : Tup Z62 × OutD := ((r, ()), none)
noncomputable def Zgv : Tup Z62 × OutD → Option (Int × Int × Int)
 | (a, none) => some (a.1)
 | _ => none
theorem ZlH : ∀ b r, Zgv b = some r → ZgC r = b := by
 rintro ⟨a, o⟩ r h
 cases o with
 | none => injection h with h; subst h; rfl
 | some _ => cases h
noncomputable def Z8w : Nat → List Int → Option (Int × Int × Int)
 | 0, _ => none
 | k + 1, p0 =>
  Option.bind (Z5 k (p0, (0 : Int), (0 : Int)) [(0 : Int), (4 : Int)]) fun z0 => Option.bind (Z5 k (p0, Prod.fst z0.2, Prod.snd z0.2) [(1 : Int), (2 : Int), (3 : Int), (1 : Int), Prod.fst z0]) fun z1 => Option.bind (Z0 k (p0, Prod.fst z1.2, Prod.snd z1.2) (10 : Int)) fun z2 => Option.bind (Z5 k (p0, Prod.fst z2.2, Prod.snd z2.2) [(10 : Int), (-1 : Int)]) fun z3 => Option.bind (Z5 k (p0, Prod.fst z3.2, Prod.snd z3.2) [(0 : Int), Prod.fst z2, (9 : Int), Prod.fst z3]) fun z4 => Option.bind (Z0 k (p0, Prod.fst z4.2, Prod.snd z4.2) (10 : Int)) fun z5 => Option.bind (Z5 k (p0, Prod.fst z5.2, Prod.snd z5.2) [(10 : Int), (-1 : Int)]) fun z6 => Option.bind (Z5 k (p0, Prod.fst z6.2, Prod.snd z6.2) [(0 : Int), Prod.fst z5, (9 : Int), Prod.fst z6]) fun z7 => some (Prod.fst z1, Prod.fst z4, Prod.fst z7)
noncomputable def Z1W : FnDef := .of Zhq Z62 (Int × Int × Int) (fun k x => Z8w k x.1) ZgC Zgv ZlH
noncomputable def Zc6 : Code := Tryz.f32.body.getD .skip
noncomputable def Z8u : Ctx (Tup Z62 × OutD) := { T := T, G := [(72, Zq.E), (73, Za.E)], mvs := [], no := 0, n := 30, res := resOf T Zhq Z62 Tryz.f32.results.toList, loops := [], regs := [], conds := [], cuts := [] }
theorem ZsW (k : Nat) : EnvOK Tryz.prog k Z8u.G := (EnvOK.cons (Z2z k) (EnvOK.cons (ZA k) (EnvOK.nil mixed)))
theorem Zsa (k : Nat) (x : Tup Z1W.ps) : Z1W.f (k + 1) x = fnK Z1W Z8u Zc6 k x := by kernel_rfl
theorem ZrR (x : Tup Z1W.ps) : Z1W.f 0 x = none := by kernel_rfl
theorem ZsK (k : Nat) : LOK Tryz.prog Z8u k Zc6 := LOK.by [] (by kernel_rfl) AllOK.nil
theorem Zrx (k : Nat) : SoundAt Tryz.prog k 32 Z1W.E := @Z3 Tryz.prog Z1W Z8u 32 Tryz.f32 Zc6 (by kernel_rfl) (by kernel_rfl) (by kernel_rfl) Tryz.func32 (by kernel_rfl) (by kernel_rfl) (by kernel_rfl) T_ok ZsW ZsK ZrR Zsa k
noncomputable def Z5x : List PK := [PK.mk Ty.str false none false none]
noncomputable def Zho : List PK := [PK.mk (Ty.slice (5 : Nat) (Ty.int .u8)) false none false none]
noncomputable def Zgz (r : ByteArray) : Tup Z5x × OutD := ((r, ()), none)
noncomputable def Zgw : Tup Z5x × OutD → Option (ByteArray)
 | (a, none) => some (a.1)
 | _ => none
theorem Zm1 : ∀ b r, Zgw b = some r → Zgz r = b := by
 rintro ⟨a, o⟩ r h
 cases o with
 | none => injection h with h; subst h; rfl
 | some _ => cases h
noncomputable def Z8z : Nat → List Int → Option ByteArray
 | 0, _ => none
 | k + 1, p0 =>
  Option.bind (Zas k (p0, (0 : Int), (0 : Int)) [ByteArray.mk #[(115 : UInt8), (116 : UInt8), (117 : UInt8), (99 : UInt8), (107 : UInt8)], ByteArray.mk #[(104 : UInt8), (111 : UInt8), (108 : UInt8), (101 : UInt8)], ByteArray.mk #[(116 : UInt8), (117 : UInt8), (114 : UInt8), (110 : UInt8), (101 : UInt8), (100 : UInt8)]]) fun z0 => if ByteArray.size z0.1 + ByteArray.size (ByteArray.mk #[(32 : UInt8), (97 : UInt8), (116 : UInt8), (32 : UInt8)]) ≤ (9223372036854775807 : Nat) then Option.bind (Z0 k (p0, Prod.fst z0.2, Prod.snd z0.2) (10 : Int)) fun z1 => Option.bind (Z5S k z1.1) fun z2 => if ByteArray.size (Prod.fst z0 ++ ByteArray.mk #[(32 : UInt8), (97 : UInt8), (116 : UInt8), (32 : UInt8)]) + ByteArray.size z2 ≤ (9223372036854775807 : Nat) then if ByteArray.size (Prod.fst z0 ++ ByteArray.mk #[(32 : UInt8), (97 : UInt8), (116 : UInt8), (32 : UInt8)] ++ z2) + ByteArray.size (ByteArray.mk #[(44 : UInt8)]) ≤ (9223372036854775807 : Nat) then Option.bind (Z0 k (p0, Prod.fst z1.2, Prod.snd z1.2) (10 : Int)) fun z3 => Option.bind (Z5S k z3.1) fun z4 => if ByteArray.size (Prod.fst z0 ++ ByteArray.mk #[(32 : UInt8), (97 : UInt8), (116 : UInt8), (32 : UInt8)] ++ z2 ++ ByteArray.mk #[(44 : UInt8)]) + ByteArray.size z4 ≤ (9223372036854775807 : Nat) then Option.bind (Z0 k (p0, Prod.fst z3.2, Prod.snd z3.2) (6 : Int)) fun z5 => if decide (Prod.fst z5 = (0 : Int)) = true then Option.bind (Z6D k (p0, Prod.fst z5.2, Prod.snd z5.2) (Prod.fst z0 ++ ByteArray.mk #[(32 : UInt8), (97 : UInt8), (116 : UInt8), (32 : UInt8)] ++ z2 ++ ByteArray.mk #[(44 : UInt8)] ++ z4) (ByteArray.mk #[(48 : UInt8), (32 : UInt8), (97 : UInt8), (116 : UInt8), (44 : UInt8), (49 : UInt8), (57 : UInt8)])) fun z6 => some z6.1 else if decide (Prod.fst z5 = (1 : Int)) = true then Option.bind (Z6D k (p0, Prod.fst z5.2, Prod.snd z5.2) (Prod.fst z0 ++ ByteArray.mk #[(32 : UInt8), (97 : UInt8), (116 : UInt8), (32 : UInt8)] ++ z2 ++ ByteArray.mk #[(44 : UInt8)] ++ z4) (ByteArray.mk #[(48 : UInt8), (32 : UInt8), (97 : UInt8), (116 : UInt8), (44 : UInt8), (49 : UInt8), (57 : UInt8)])) fun z7 => some z7.1 else if decide (Prod.fst z5 = (2 : Int)) = true then Option.bind (Zas k (p0, Prod.fst z5.2, Prod.snd z5.2) [ByteArray.mk #[], ByteArray.mk #[(32 : UInt8), (97 : UInt8), (116 : UInt8), (32 : UInt8), (48 : UInt8), (44 : UInt8), (48 : UInt8)], ByteArray.mk #[(115 : UInt8), (116 : UInt8), (117 : UInt8), (99 : UInt8), (107 : UInt8), (32 : UInt8), (97 : UInt8), (116 : UInt8), (32 : UInt8), (49 : UInt8), (48 : UInt8), (44 : UInt8), (48 : UInt8)], ByteArray.mk #[(115 : UInt8), (116 : UInt8), (117 : UInt8), (99 : UInt8), (107 : UInt8), (32 : UInt8), (97 : UInt8), (116 : UInt8), (32 : UInt8), (48 : UInt8), (48 : UInt8), (44 : UInt8), (49 : UInt8)], ByteArray.mk #[(104 : UInt8), (111 : UInt8), (108 : UInt8), (101 : UInt8), (32 : UInt8), (97 : UInt8), (116 : UInt8), (32 : UInt8), (49 : UInt8)], ByteArray.mk #[(104 : UInt8), (111 : UInt8), (108 : UInt8), (101 : UInt8), (32 : UInt8), (105 : UInt8), (110 : UInt8), (32 : UInt8), (49 : UInt8), (44 : UInt8), (49 : UInt8)], ByteArray.mk #[(116 : UInt8), (117 : UInt8), (114 : UInt8), (110 : UInt8), (101 : UInt8), (100 : UInt8), (32 : UInt8), (32 : UInt8), (97 : UInt8), (116 : UInt8), (32 : UInt8), (49 : UInt8), (44 : UInt8), (49 : UInt8)], ByteArray.mk #[(104 : UInt8), (111 : UInt8), (108 : UInt8), (101 : UInt8), (32 : UInt8), (97 : UInt8), (116 : UInt8), (32 : UInt8), (49 : UInt8), (44 : UInt8), (49 : UInt8), (32 : UInt8)]]) fun z8 => some z8.1 else some (Prod.fst z0 ++ ByteArray.mk #[(32 : UInt8), (97 : UInt8), (116 : UInt8), (32 : UInt8)] ++ z2 ++ ByteArray.mk #[(44 : UInt8)] ++ z4) else none else none else none else none
noncomputable def Z20 : FnDef := .of Zho Z5x (ByteArray) (fun k x => Z8z k x.1) Zgz Zgw Zm1
noncomputable def Zcs : Code := Tryz.f34.body.getD .skip
noncomputable def Z8l : Ctx (Tup Z5x × OutD) := { T := T, G := [(75, Z4h.E), (73, Za.E), (76, Z5G.E), (77, Z2f.E)], mvs := [], no := 0, n := 35, res := resOf T Zho Z5x Tryz.f34.results.toList, loops := [], regs := [], conds := [], cuts := [] }
theorem Zsr (k : Nat) : EnvOK Tryz.prog k Z8l.G := (EnvOK.cons (ZBZ k) (EnvOK.cons (ZA k) (EnvOK.cons (ZwT k) (EnvOK.cons (Zuk k) (EnvOK.nil mixed)))))
theorem Zsn (k : Nat) (x : Tup Z20.ps) : Z20.f (k + 1) x = fnK Z20 Z8l Zcs k x := by kernel_rfl
theorem Zt3 (x : Tup Z20.ps) : Z20.f 0 x = none := by kernel_rfl
theorem ZsU (k : Nat) : LOK Tryz.prog Z8l k Zcs := LOK.by [] (by kernel_rfl) AllOK.nil
theorem ZsZ (k : Nat) : SoundAt Tryz.prog k 34 Z20.E := @Z3 Tryz.prog Z20 Z8l 34 Tryz.f34 Zcs (by kernel_rfl) (by kernel_rfl) (by kernel_rfl) Tryz.func34 (by kernel_rfl) (by kernel_rfl) (by kernel_rfl) T_ok Zsr ZsU Zt3 Zsn k
noncomputable def Z5h : List PK := [PK.mk (Ty.slice (42 : Nat) (Ty.pair (Ty.int .i64) (Ty.pair (Ty.int .i64) (Ty.int .i64)))) false none false none, PK.mk Ty.bool false none false none]
noncomputable def ZgG : List PK := [PK.mk (Ty.pair (Ty.int .i64) (Ty.pair (Ty.int .i64) (Ty.slice (122 : Nat) (Ty.pair (Ty.int .i64) (Ty.int .i64))))) true none false none]
noncomputable def Zf8 (r : List (Int × Int × Int) × Bool) : Tup Z5h × OutD := ((r.1, r.2, ()), none)
noncomputable def Zf5 : Tup Z5h × OutD → Option (List (Int × Int × Int) × Bool)
 | (a, none) => some (a.1, a.2.1)
 | _ => none
theorem ZkY : ∀ b r, Zf5 b = some r → Zf8 r = b := by
 rintro ⟨a, o⟩ r h
 cases o with
 | none => injection h with h; subst h; rfl
 | some _ => cases h
noncomputable def Z5e : Nat → Int × Int × List (Int × Int) → Option (List (Int × Int × Int) × Bool)
 | 0, _ => none
 | k + 1, p0 =>
  Option.bind (Zaf k (Prod.fst p0, Prod.fst p0.2, Prod.snd p0.2)) fun z0 => if (!z0) = true then some ([], false) else Option.bind (Z4e k (Prod.fst p0, Prod.fst p0.2, Prod.snd p0.2)) fun z1 => some (z1, true)
noncomputable def Z1F : FnDef := .of ZgG Z5h (List (Int × Int × Int) × Bool) (fun k x => Z5e k x.1) Zf8 Zf5 ZkY
noncomputable def ZbH : Code := Tryz.f39.body.getD .skip
noncomputable def Z7M : Ctx (Tup Z5h × OutD) := { T := T, G := [(84, Z3M.E), (67, Z1k.E)], mvs := [], no := 0, n := 9, res := resOf T ZgG Z5h Tryz.f39.results.toList, loops := [], regs := [], conds := [], cuts := [] }
theorem Zrc (k : Nat) : EnvOK Tryz.prog k Z7M.G := (EnvOK.cons (ZjG k) (EnvOK.cons (Zba k) (EnvOK.nil mixed)))
theorem Zrk (k : Nat) (x : Tup Z1F.ps) : Z1F.f (k + 1) x = fnK Z1F Z7M ZbH k x := by kernel_rfl
theorem Zq9 (x : Tup Z1F.ps) : Z1F.f 0 x = none := by kernel_rfl
theorem ZqR (k : Nat) : LOK Tryz.prog Z7M k ZbH := LOK.by [] (by kernel_rfl) AllOK.nil
theorem Zra (k : Nat) : SoundAt Tryz.prog k 39 Z1F.E := @Z3 Tryz.prog Z1F Z7M 39 Tryz.f39 ZbH (by kernel_rfl) (by kernel_rfl) (by kernel_rfl) Tryz.func39 (by kernel_rfl) (by kernel_rfl) (by kernel_rfl) T_ok Zrc ZqR Zq9 Zrk k
noncomputable def ZbB : List PK := [PK.mk Ty.str false none false none]
noncomputable def ZqE : List PK := [PK.mk (Ty.int .i64) false none false none]
noncomputable def ZoP (r : ByteArray) : Tup ZbB × OutD := ((r, ()), none)
noncomputable def ZoJ : Tup ZbB × OutD → Option (ByteArray)
 | (a, none) => some (a.1)
 | _ => none
theorem Zw7 : ∀ b r, ZoJ b = some r → ZoP r = b := by
 rintro ⟨a, o⟩ r h
 cases o with
 | none => injection h with h; subst h; rfl
 | some _ => cases h
noncomputable def Z8U : Nat → Int → Option ByteArray
 | 0, _ => none
 | k + 1, p0 =>
  Option.bind (Zey k p0) fun z0 => some z0
noncomputable def Z5b : FnDef := .of ZqE ZbB (ByteArray) (fun k x => Z8U k x.1) ZoP ZoJ Zw7
noncomputable def Zir : Code := Tryz.f56.body.getD .skip
noncomputable def Zeh : Ctx (Tup ZbB × OutD) := { T := T, G := [(94, Z1i.E)], mvs := [], no := 0, n := 5, res := resOf T ZqE ZbB Tryz.f56.results.toList, loops := [], regs := [], conds := [], cuts := [] }
theorem ZCT (k : Nat) : EnvOK Tryz.prog k Zeh.G := (EnvOK.cons (ZnJ k) (EnvOK.nil mixed))
theorem ZCJ (k : Nat) (x : Tup Z5b.ps) : Z5b.f (k + 1) x = fnK Z5b Zeh Zir k x := by kernel_rfl
theorem ZD6 (x : Tup Z5b.ps) : Z5b.f 0 x = none := by kernel_rfl
theorem ZCR (k : Nat) : LOK Tryz.prog Zeh k Zir := LOK.by [] (by kernel_rfl) AllOK.nil
theorem ZDs (k : Nat) : SoundAt Tryz.prog k 56 Z5b.E := @Z3 Tryz.prog Z5b Zeh 56 Tryz.f56 Zir (by kernel_rfl) (by kernel_rfl) (by kernel_rfl) Tryz.func56 (by kernel_rfl) (by kernel_rfl) (by kernel_rfl) T_ok ZCT ZCR ZD6 ZCJ k
noncomputable def Z21 : List PK := [PK.mk (Ty.slice (3 : Nat) (Ty.int .i64)) false none false none]
noncomputable def Zha : List PK := [PK.mk (Ty.pair (Ty.slice (5 : Nat) (Ty.int .u8)) (Ty.pair (Ty.int .i64) (Ty.int .u64))) false none false (some (82 : Nat)), PK.mk (Ty.pair (Ty.int .i64) (Ty.pair (Ty.int .i64) (Ty.slice (122 : Nat) (Ty.pair (Ty.int .i64) (Ty.int .i64))))) true none false none]
noncomputable def Zgm (r : List Int × Int × Int) : Tup Z21 × OutD := ((r.1, ()), some ⟨Ty.pair (Ty.slice (5 : Nat) (Ty.int .u8)) (Ty.pair (Ty.int .i64) (Ty.int .u64)), [([], r.2)]⟩)
noncomputable def Zbh : Tup Z21 × OutD → Option (List Int × Int × Int)
 | (a, some ⟨u, ys⟩) => if h : u = Ty.pair (Ty.slice (5 : Nat) (Ty.int .u8)) (Ty.pair (Ty.int .i64) (Ty.int .u64)) then (match castU h ys with
  | [([], y)] => some (a.1, y)
  | _ => none) else none
 | _ => none
theorem Zmz : ∀ b r, Zbh b = some r → Zgm r = b := by
 rintro ⟨a, o⟩ r h
 cases o with
 | none => cases h
 | some s =>
  obtain ⟨u, ys⟩ := s
  simp only [Zbh] at h
  split at h
  ·rename_i hu
   subst hu
   match ys, h with
   | [], h => cases (show (none : Option _) = some r from h)
   | [([], y)], h => injection (show some _ = some r from h) with h; subst h; rfl
   | [(_ :: _, y)], h => cases (show (none : Option _) = some r from h)
   | (h1, _) :: _ :: _, h => cases h1 <;> cases (show (none : Option _) = some r from h)
  ·cases h
noncomputable def Z5R : Nat → Int → Int → List Int → Int → Int → List (Int × Int) → List Int → Int → Bool → Option (Int × Int × List Int × Int × Int × List (Int × Int) × List Int × Int) := fun k b1_1 b1_2 o2 b3_0 b3_1 b3_2 o4 v6 v12 =>
    if v12 = true then Option.bind (Z0 k (o2, b1_1, b1_2) (2 : Int)) fun z2 => some (Prod.fst z2.2, Prod.snd z2.2, o2, b3_0, b3_1, b3_2, o4, wrap64 ((60 : Int) + Prod.fst z2)) else some (b1_1, b1_2, o2, b3_0, b3_1, b3_2, o4, v6)
noncomputable def Zlb : Spec := Spec.mk [OSh.ro, OSh.box (82 : Nat) [Sh.sl (2 : Nat), Sh.int .i64, Sh.int .u64], OSh.fx (Ty.int .u8), OSh.box (26 : Nat) [Sh.int .i64, Sh.int .i64, Sh.snap (0 : Nat) (Ty.pair (Ty.int .i64) (Ty.int .i64))], OSh.row true (3 : Nat) (Ty.int .i64)] [((0 : Nat), TSh.at (Sh.ptr (1 : Nat) (0 : Nat))), ((3 : Nat), TSh.at (Sh.ptr (3 : Nat) (0 : Nat))), ((5 : Nat), TSh.at (Sh.sl (4 : Nat))), ((6 : Nat), TSh.at (Sh.int .i64)), ((12 : Nat), TSh.at Sh.bool)]
noncomputable def Zl3 : Spec := Spec.mk [OSh.ro, OSh.box (82 : Nat) [Sh.sl (2 : Nat), Sh.int .i64, Sh.int .u64], OSh.fx (Ty.int .u8), OSh.box (26 : Nat) [Sh.int .i64, Sh.int .i64, Sh.snap (0 : Nat) (Ty.pair (Ty.int .i64) (Ty.int .i64))], OSh.row true (3 : Nat) (Ty.int .i64)] [((0 : Nat), TSh.at (Sh.ptr (1 : Nat) (0 : Nat))), ((3 : Nat), TSh.at (Sh.ptr (3 : Nat) (0 : Nat))), ((5 : Nat), TSh.at (Sh.sl (4 : Nat))), ((6 : Nat), TSh.at (Sh.int .i64))]
noncomputable def Zl : LoopDef (Tup Z21 × OutD) := .plain Zlb Zl3 (Int × Int × List Int × Int × Int × List (Int × Int) × List Int × Int) (fun k x => Z5R k x.1.2.1.2.1 x.1.2.1.2.2.1 x.1.2.2.1 x.1.2.2.2.1.1 x.1.2.2.2.1.2.1 x.1.2.2.2.1.2.2.1 x.1.2.2.2.2.1 x.2.2.2.2.1 x.2.2.2.2.2.1) (fun z => (((), ((), z.1, z.2.1, ()), z.2.2.1, (z.2.2.2.1, z.2.2.2.2.1, z.2.2.2.2.2.1, ()), z.2.2.2.2.2.2.1, ()), ((), (), (), z.2.2.2.2.2.2.2, ()))) (fun y => (y.1.2.1.2.1, y.1.2.1.2.2.1, y.1.2.2.1, y.1.2.2.2.1.1, y.1.2.2.2.1.2.1, y.1.2.2.2.1.2.2.1, y.1.2.2.2.2.1, y.2.2.2.2.1)) (fun _ => rfl)
noncomputable def Z1q : Nat → Int → Int → List Int → Int → Int → List (Int × Int) → List Int → Int → Bool → Int → Option (Int × Int × List Int × Int × Int × List (Int × Int) × List Int × Int)
 | 0, _, _, _, _, _, _, _, _, _, _ => none
 | k + 1, b1_1, b1_2, o2, b3_0, b3_1, b3_2, o4, v6, v7, v8 =>
  if decide ((↑(List.length o4) : Int) < v6) = true then if v7 = true then if List.length o4 + List.length [v8] ≤ (140737488355328 / 8 : Nat) then Z1q k b1_1 b1_2 o2 b3_0 b3_1 b3_2 (o4 ++ [v8]) v6 v7 v8 else none else Option.bind (Za9 k (1 : Int) b3_1) fun z7 => Option.bind (Z0 k (o2, b1_1, b1_2) z7) fun z8 => if List.length o4 + List.length [Prod.fst z8] ≤ (140737488355328 / 8 : Nat) then Z1q k z8.2.1 z8.2.2 o2 b3_0 b3_1 b3_2 (o4 ++ [Prod.fst z8]) v6 v7 v8 else none else some (b1_1, b1_2, o2, b3_0, b3_1, b3_2, o4, v6)
noncomputable def Z9V : Spec := Spec.mk [OSh.ro, OSh.box (82 : Nat) [Sh.sl (2 : Nat), Sh.int .i64, Sh.int .u64], OSh.fx (Ty.int .u8), OSh.box (26 : Nat) [Sh.int .i64, Sh.int .i64, Sh.snap (0 : Nat) (Ty.pair (Ty.int .i64) (Ty.int .i64))], OSh.row true (3 : Nat) (Ty.int .i64)] [((0 : Nat), TSh.at (Sh.ptr (1 : Nat) (0 : Nat))), ((3 : Nat), TSh.at (Sh.ptr (3 : Nat) (0 : Nat))), ((5 : Nat), TSh.at (Sh.sl (4 : Nat))), ((6 : Nat), TSh.at (Sh.int .i64)), ((7 : Nat), TSh.at Sh.bool), ((8 : Nat), TSh.at (Sh.int .i64))]
noncomputable def ZnL : Spec := Spec.mk [OSh.ro, OSh.box (82 : Nat) [Sh.sl (2 : Nat), Sh.int .i64, Sh.int .u64], OSh.fx (Ty.int .u8), OSh.box (26 : Nat) [Sh.int .i64, Sh.int .i64, Sh.snap (0 : Nat) (Ty.pair (Ty.int .i64) (Ty.int .i64))], OSh.row true (3 : Nat) (Ty.int .i64)] [((0 : Nat), TSh.at (Sh.ptr (1 : Nat) (0 : Nat))), ((3 : Nat), TSh.at (Sh.ptr (3 : Nat) (0 : Nat))), ((5 : Nat), TSh.at (Sh.sl (4 : Nat))), ((6 : Nat), TSh.at (Sh.int .i64))]
noncomputable def Z2C : LoopDef (Tup Z21 × OutD) := .plain Z9V ZnL (Int × Int × List Int × Int × Int × List (Int × Int) × List Int × Int) (fun k x => Z1q k x.1.2.1.2.1 x.1.2.1.2.2.1 x.1.2.2.1 x.1.2.2.2.1.1 x.1.2.2.2.1.2.1 x.1.2.2.2.1.2.2.1 x.1.2.2.2.2.1 x.2.2.2.2.1 x.2.2.2.2.2.1 x.2.2.2.2.2.2.1) (fun z => (((), ((), z.1, z.2.1, ()), z.2.2.1, (z.2.2.2.1, z.2.2.2.2.1, z.2.2.2.2.2.1, ()), z.2.2.2.2.2.2.1, ()), ((), (), (), z.2.2.2.2.2.2.2, ()))) (fun y => (y.1.2.1.2.1, y.1.2.1.2.2.1, y.1.2.2.1, y.1.2.2.2.1.1, y.1.2.2.2.1.2.1, y.1.2.2.2.1.2.2.1, y.1.2.2.2.2.1, y.2.2.2.2.1)) (fun _ => rfl)
noncomputable def Z1t : Nat → Int → Int → List Int → Int → Int → List (Int × Int) → List Int → Int → Option (Int × Int × List Int × List Int) := fun k b1_1 b1_2 o2 b3_0 b3_1 b3_2 o4 v6 =>
    Option.bind (Z0 k (o2, b1_1, b1_2) v6) fun z11 => Option.bind (Z5 k (o2, Prod.fst z11.2, Prod.snd z11.2) [(-1 : Int), b3_1]) fun z12 => if (0 : Int) ≤ Prod.fst z11 then if Prod.fst z11 < (↑(List.length o4) : Int) then some (Prod.fst z12.2, Prod.snd z12.2, o2, List.set o4 (Int.toNat z11.1) z12.1) else none else none
noncomputable def Z5s : Nat → Int → Int → List Int → Int → Int → List (Int × Int) → List Int → Int → Option (List (Int × Int × List Int × List Int)) := fun k b1_1 b1_2 o2 b3_0 b3_1 b3_2 o4 v6 =>
    joinL (Option.bind (Z0 k (o2, b1_1, b1_2) v6) fun z13 => Option.bind (Z5 k (o2, Prod.fst z13.2, Prod.snd z13.2) [(-1 : Int), b3_1]) fun z14 => if (0 : Int) ≤ Prod.fst z13 then if Prod.fst z13 < (↑(List.length o4) : Int) then some [(Prod.fst z14.2, Prod.snd z14.2, o2, List.set o4 (Int.toNat z13.1) z14.1)] else none else none) (joinL (Option.bind (Z0 k (o2, b1_1, b1_2) v6) fun z15 => Option.bind (Z5 k (o2, Prod.fst z15.2, Prod.snd z15.2) [(-1 : Int), b3_1]) fun z16 => if (0 : Int) ≤ Prod.fst z15 then if Prod.fst z15 < (↑(List.length o4) : Int) then some [(Prod.fst z16.2, Prod.snd z16.2, o2, List.set o4 (Int.toNat z15.1) z16.1)] else none else none) (Option.bind (Z0 k (o2, b1_1, b1_2) v6) fun z17 => Option.bind (Z5 k (o2, Prod.fst z17.2, Prod.snd z17.2) [(-1 : Int), b3_1]) fun z18 => if (0 : Int) ≤ Prod.fst z17 then if Prod.fst z17 < (↑(List.length o4) : Int) then some [(Prod.fst z18.2, Prod.snd z18.2, o2, List.set o4 (Int.toNat z17.1) z18.1)] else none else none))
noncomputable def Zdv : Spec := Spec.mk [OSh.ro, OSh.box (82 : Nat) [Sh.sl (2 : Nat), Sh.int .i64, Sh.int .u64], OSh.fx (Ty.int .u8), OSh.box (26 : Nat) [Sh.int .i64, Sh.int .i64, Sh.snap (0 : Nat) (Ty.pair (Ty.int .i64) (Ty.int .i64))], OSh.row true (3 : Nat) (Ty.int .i64)] [((0 : Nat), TSh.at (Sh.ptr (1 : Nat) (0 : Nat))), ((3 : Nat), TSh.at (Sh.ptr (3 : Nat) (0 : Nat))), ((5 : Nat), TSh.at (Sh.sl (4 : Nat))), ((6 : Nat), TSh.at (Sh.int .i64))]
noncomputable def ZkX : Spec := Spec.mk [OSh.ro, OSh.box (82 : Nat) [Sh.sl (2 : Nat), Sh.int .i64, Sh.int .u64], OSh.fx (Ty.int .u8), OSh.row true (3 : Nat) (Ty.int .i64)] [((5 : Nat), TSh.at (Sh.sl (3 : Nat)))]
noncomputable def Z29 : LoopDef (Tup Z21 × OutD) := .plain Zdv ZkX (Int × Int × List Int × List Int) (fun k x => Z1t k x.1.2.1.2.1 x.1.2.1.2.2.1 x.1.2.2.1 x.1.2.2.2.1.1 x.1.2.2.2.1.2.1 x.1.2.2.2.1.2.2.1 x.1.2.2.2.2.1 x.2.2.2.2.1) (fun z => (((), ((), z.1, z.2.1, ()), z.2.2.1, z.2.2.2, ()), ((), ()))) (fun y => (y.1.2.1.2.1, y.1.2.1.2.2.1, y.1.2.2.1, y.1.2.2.2.1)) (fun _ => rfl)
theorem Zl6 (k : Nat) (b1_1 : Int) (b1_2 : Int) (o2 : List Int) (b3_0 : Int) (b3_1 : Int) (b3_2 : List (Int × Int)) (o4 : List Int) (v6 : Int) : Z5s k b1_1 b1_2 o2 b3_0 b3_1 b3_2 o4 v6 = repl 3 (Z1t k b1_1 b1_2 o2 b3_0 b3_1 b3_2 o4 v6) := by
 first
 | (simp only [Z5s, Z1t, Zd, Zi, Zf, Zg, Ze, Z4, if_true]; done)
 | (simp only [Z5s, Z1t, Zd, Zi, Zf, Zg, Ze, Z4, if_true]; simp only [Z1n, Z1o, Z2J, Z4]; simp only [Z44]; exact Z22 ⟨fun h => by simp only [h, and_self], fun h => by simp only [h, and_self]⟩)
noncomputable def ZF : Nat → List Int × Int × Int → Int × Int × List (Int × Int) → Option (List Int × Int × Int)
 | 0, _, _ => none
 | k + 1, p0, p1 =>
  Option.bind (Z0 k (Prod.fst p0, Prod.fst p0.2, Prod.snd p0.2) (9 : Int)) fun z0 => Option.bind (Zr k (Prod.fst p0, Prod.fst z0.2, Prod.snd z0.2) (20 : Int)) fun z1 => Option.bind (Z5R k z1.2.1 z1.2.2 p0.1 p1.1 p1.2.1 p1.2.2 [] z0.1 z1.1) fun z3 => Option.bind (Zr k (Prod.fst z3.2.2, Prod.fst z3, Prod.fst z3.2) (3 : Int)) fun z4 => Option.bind (Za9 k (1 : Int) z3.2.2.2.2.1) fun z5 => Option.bind (Z0 k (Prod.fst z3.2.2, Prod.fst z4.2, Prod.snd z4.2) z5) fun z6 => Option.bind (Z1q k z6.2.1 z6.2.2 z3.2.2.1 z3.2.2.2.1 z3.2.2.2.2.1 z3.2.2.2.2.2.1 z3.2.2.2.2.2.2.1 z3.2.2.2.2.2.2.2 z4.1 z6.1) fun z9 => if decide (Prod.snd z9.2.2.2.2.2.2 > (0 : Int)) = true then Option.bind (Zr k (Prod.fst z9.2.2, Prod.fst z9, Prod.fst z9.2) (24 : Int)) fun z10 => if Prod.fst z10 = true then Option.bind (Z1t k z10.2.1 z10.2.2 z9.2.2.1 z9.2.2.2.1 z9.2.2.2.2.1 z9.2.2.2.2.2.1 z9.2.2.2.2.2.2.1 z9.2.2.2.2.2.2.2) fun z19 => some (Prod.snd z19.2.2, Prod.fst z19, Prod.fst z19.2) else some (Prod.fst z9.2.2.2.2.2.2, Prod.fst z10.2, Prod.snd z10.2) else some (Prod.fst z9.2.2.2.2.2.2, Prod.fst z9, Prod.fst z9.2)
noncomputable def Z1m : FnDef := .of Zha Z21 (List Int × Int × Int) (fun k x => ZF k x.1 x.2.1) Zgm Zbh Zmz
noncomputable def Z2O : Code := Tryz.f61.body.getD .skip
noncomputable def Z9 : Ctx (Tup Z21 × OutD) := { T := T, G := [(73, Za.E), (97, Z1f.E), (98, Z6k.E), (72, Zq.E)], mvs := [], no := 2, n := 57, res := resOf T Zha Z21 Tryz.f61.results.toList, loops := [(0, Z2C.E)], regs := [(12, Z29.E)], conds := [(12, Zl.E)], cuts := [] }
theorem Z8h (k : Nat) : EnvOK Tryz.prog k Z9.G := (EnvOK.cons (ZA k) (EnvOK.cons (Z9y k) (EnvOK.cons (ZEX k) (EnvOK.cons (Z2z k) (EnvOK.nil mixed)))))
noncomputable def Z8y : Array Oper := (findReg 12 Z2O).getD #[]
theorem ZkP (k : Nat) (x : Zdv.D) : execD Z9.T Z9.G Z9.mvs k Z8y (Z29.inp.st Z9.n x) (outK Z9 Z29) = Z5s k x.1.2.1.2.1 x.1.2.1.2.2.1 x.1.2.2.1 x.1.2.2.2.1.1 x.1.2.2.2.1.2.1 x.1.2.2.2.1.2.2.1 x.1.2.2.2.2.1 x.2.2.2.2.1 := by kernel_rfl
theorem Zjt (k : Nat) : EOK Tryz.prog Z9 k Z29.E (.region 12 Z8y true) := Z5X (D := Z29) (m := 3) T_ok (Z8h k) (fun x => (ZkP k x).trans (Zl6 k x.1.2.1.2.1 x.1.2.1.2.2.1 x.1.2.2.1 x.1.2.2.2.1.1 x.1.2.2.2.1.2.1 x.1.2.2.2.1.2.2.1 x.1.2.2.2.2.1 x.2.2.2.2.1))
noncomputable def Z5t : Code := ((findCond 12 Z2O).map (·.1)).getD .skip
noncomputable def Z5q : Code := ((findCond 12 Z2O).map (·.2)).getD .skip
theorem Zld (k : Nat) (i : Zl.inp.D) : Zl.lp k i = branch (Zl.inp.st Z9.n i) (.tmp 12) (fun st => exec Z9 k Z5t st (outK Z9 Zl) (fun _ _ => none) Zl.mkB) (fun st => exec Z9 k Z5q st (outK Z9 Zl) (fun _ _ => none) Zl.mkB) := by kernel_rfl
theorem Zjs (k : Nat) : EOK Tryz.prog Z9 k Zl.E (.cond (.tmp 12) Z5t Z5q) := Zlh (D := Zl) T_ok (Z8h k) (Zld k) (@LOK.by _ _ _ _ Z5t [] (by kernel_rfl) AllOK.nil) (@LOK.by _ _ _ _ Z5q [] (by kernel_rfl) AllOK.nil)
noncomputable def Z6t : Code := (findLoop 0 Z2O).getD .skip
theorem Zns (k : Nat) (x : Z9V.D) : Z2C.lp (k + 1) x = loopK Z9 Z2C 0 Z6t k x := by kernel_rfl
theorem ZnO (k : Nat) : LOK Tryz.prog Z9 k Z6t := LOK.by [] (by kernel_rfl) AllOK.nil
theorem ZnI (x : Z9V.D) : Z2C.lp 0 x = none := by kernel_rfl
theorem Zlx (k : Nat) : EOK Tryz.prog Z9 k Z2C.E (.block 0 (.loop Z6t)) := Zb T_ok Z8h ZnI Zns ZnO k
theorem Zs3 (k : Nat) (x : Tup Z1m.ps) : Z1m.f (k + 1) x = fnK Z1m Z9 Z2O k x := by kernel_rfl
theorem Zrz (x : Tup Z1m.ps) : Z1m.f 0 x = none := by kernel_rfl
theorem ZrF (k : Nat) : LOK Tryz.prog Z9 k Z2O := LOK.by [(Zl.E, .cond (.tmp 12) Z5t Z5q), (Z2C.E, .block 0 (.loop Z6t)), (Z29.E, .region 12 Z8y true)] (by kernel_rfl) (AllOK.cons (Zjs k) (AllOK.cons (Zlx k) (AllOK.cons (Zjt k) AllOK.nil)))
theorem Zhy (k : Nat) : SoundAt Tryz.prog k 61 Z1m.E := @Z3 Tryz.prog Z1m Z9 61 Tryz.f61 Z2O (by kernel_rfl) (by kernel_rfl) (by kernel_rfl) Tryz.func61 (by kernel_rfl) (by kernel_rfl) (by kernel_rfl) T_ok Z8h ZrF Zrz Zs3 k
noncomputable def Z4u : List PK := [PK.mk Ty.bool false none false none]
noncomputable def ZhV : List PK := [PK.mk (Ty.pair (Ty.int .i64) (Ty.pair (Ty.int .i64) (Ty.slice (122 : Nat) (Ty.pair (Ty.int .i64) (Ty.int .i64))))) true none false none, PK.mk (Ty.slice (3 : Nat) (Ty.int .i64)) false none false none]
noncomputable def Zcw (r : Bool) : Tup Z4u × OutD := ((r, ()), none)
noncomputable def ZbR : Tup Z4u × OutD → Option (Bool)
 | (a, none) => some (a.1)
 | _ => none
theorem Zex : ∀ b r, ZbR b = some r → Zcw r = b := by
 rintro ⟨a, o⟩ r h
 cases o with
 | none => injection h with h; subst h; rfl
 | some _ => cases h
noncomputable def Z3t : Nat → Int → Int → List (Int × Int) → List Int → Int → Int → Option (LR Unit Bool)
 | 0, _, _, _, _, _, _ => none
 | k + 1, b1_0, b1_1, b1_2, v15, v16, v17 =>
  if decide (v17 < v16) = true then if (0 : Int) ≤ v17 then if v17 < (↑(List.length v15) : Int) then if decide (List.getD v15 (Int.toNat v17) (0 : Int) < (0 : Int)) = true then some (LR.ret false) else if decide (List.getD v15 (Int.toNat v17) (0 : Int) ≥ b1_1) = true then some (LR.ret false) else Z3t k b1_0 b1_1 b1_2 v15 v16 (wrap64 (v17 + (1 : Int))) else none else none else some (LR.go ())
noncomputable def ZaW : Spec := Spec.mk [OSh.ro, OSh.box (26 : Nat) [Sh.int .i64, Sh.int .i64, Sh.snap (0 : Nat) (Ty.pair (Ty.int .i64) (Ty.int .i64))]] [((2 : Nat), TSh.at (Sh.ptr (1 : Nat) (0 : Nat))), ((15 : Nat), TSh.at (Sh.snap (0 : Nat) (Ty.int .i64))), ((16 : Nat), TSh.at (Sh.int .i64)), ((17 : Nat), TSh.at (Sh.int .i64))]
noncomputable def Zpe : Spec := Spec.mk [OSh.ro] []
noncomputable def Z2W : LoopDef (Tup Z4u × OutD) := .rets ZaW Zpe (Unit) (Bool) (fun k x => Z3t k x.1.2.1.1 x.1.2.1.2.1 x.1.2.1.2.2.1 x.2.2.1 x.2.2.2.1 x.2.2.2.2.1) (fun z => (((), ()), (()))) (fun y => ()) (fun _ => rfl) Zcw ZbR Zex
noncomputable def Z6B : Nat → Int × Int × List (Int × Int) → List Int → Option Bool
 | 0, _, _ => none
 | k + 1, p0, p1 =>
  Option.bind (Z6Z k (Prod.fst p0, Prod.fst p0.2, Prod.snd p0.2)) fun z0 => if (!z0) = true then some false else if decide ((↑(List.length p1) : Int) > (60 : Int)) = true then some false else Option.bind (Z3t k p0.1 p0.2.1 p0.2.2 p1 (↑(List.length p1) : Int) (0 : Int)) fun z1 => LR.on z1 (fun y1 => some true) fun r1 => some r1
noncomputable def Z1C : FnDef := .of ZhV Z4u (Bool) (fun k x => Z6B k x.1 x.2.1) Zcw ZbR Zex
noncomputable def Z9H : Code := Tryz.f62.body.getD .skip
noncomputable def Z3c : Ctx (Tup Z4u × OutD) := { T := T, G := [(83, Z2u.E)], mvs := [], no := 0, n := 30, res := resOf T ZhV Z4u Tryz.f62.results.toList, loops := [(0, Z2W.E)], regs := [], conds := [], cuts := [] }
theorem Zid (k : Nat) : EnvOK Tryz.prog k Z3c.G := (EnvOK.cons (Zeb k) (EnvOK.nil mixed))
noncomputable def Z7v : Code := (findLoop 0 Z9H).getD .skip
theorem Zp4 (k : Nat) (x : ZaW.D) : Z2W.lp (k + 1) x = loopK Z3c Z2W 0 Z7v k x := by kernel_rfl
theorem ZpV (k : Nat) : LOK Tryz.prog Z3c k Z7v := LOK.by [] (by kernel_rfl) AllOK.nil
theorem Zpk (x : ZaW.D) : Z2W.lp 0 x = none := by kernel_rfl
theorem Zo7 (k : Nat) : EOK Tryz.prog Z3c k Z2W.E (.block 0 (.loop Z7v)) := Zb T_ok Zid Zpk Zp4 ZpV k
theorem Zu9 (k : Nat) (x : Tup Z1C.ps) : Z1C.f (k + 1) x = fnK Z1C Z3c Z9H k x := by kernel_rfl
theorem Zun (x : Tup Z1C.ps) : Z1C.f 0 x = none := by kernel_rfl
theorem ZuQ (k : Nat) : LOK Tryz.prog Z3c k Z9H := LOK.by [(Z2W.E, .block 0 (.loop Z7v))] (by kernel_rfl) (AllOK.cons (Zo7 k) AllOK.nil)
theorem ZhT (k : Nat) : SoundAt Tryz.prog k 62 Z1C.E := @Z3 Tryz.prog Z1C Z3c 62 Tryz.f62 Z9H (by kernel_rfl) (by kernel_rfl) (by kernel_rfl) Tryz.func62 (by kernel_rfl) (by kernel_rfl) (by kernel_rfl) T_ok Zid ZuQ Zun Zu9 k
noncomputable def Z2t : List PK := [PK.mk (Ty.slice (42 : Nat) (Ty.pair (Ty.int .i64) (Ty.pair (Ty.int .i64) (Ty.int .i64)))) false none false none]
noncomputable def Zgu : List PK := [PK.mk (Ty.pair (Ty.int .i64) (Ty.pair (Ty.int .i64) (Ty.slice (122 : Nat) (Ty.pair (Ty.int .i64) (Ty.int .i64))))) true none false none]
noncomputable def Zf4 (r : List (Int × Int × Int)) : Tup Z2t × OutD := ((r, ()), none)
noncomputable def Zf7 : Tup Z2t × OutD → Option (List (Int × Int × Int))
 | (a, none) => some (a.1)
 | _ => none
theorem ZkL : ∀ b r, Zf7 b = some r → Zf4 r = b := by
 rintro ⟨a, o⟩ r h
 cases o with
 | none => injection h with h; subst h; rfl
 | some _ => cases h
noncomputable def Z11 : Nat → Int → Int → List (Int × Int) → List (Int × Int × Int) → Int → Int → Int → Int → List (Int × Int) → Int → Int → Option (Int × Int × List (Int × Int) × List (Int × Int × Int) × List (Int × Int) × Int × Int)
 | 0, _, _, _, _, _, _, _, _, _, _, _ => none
 | k + 1, b1_0, b1_1, b1_2, o2, b3_0, b3_1, v4, v6, v9, v10, v11 =>
  if decide (v6 ≤ (3 : Int)) = true then Option.bind (ZbD k (b3_0, b3_1) v6) fun z0 => if z0 = true then if b1_1 = (0 : Int) then none else if b1_1 = (0 : Int) then none else if List.length o2 + List.length [(v6, wrap64 (Int.tdiv v4 b1_1), Int.tmod v4 b1_1)] ≤ (140737488355328 / 24 : Nat) then Z11 k b1_0 b1_1 b1_2 (o2 ++ [(v6, wrap64 (Int.tdiv v4 b1_1), Int.tmod v4 b1_1)]) b3_0 b3_1 v4 (wrap64 (v6 + (1 : Int))) v9 v10 v11 else none else Z11 k b1_0 b1_1 b1_2 o2 b3_0 b3_1 v4 (wrap64 (v6 + (1 : Int))) v9 v10 v11 else some (b1_0, b1_1, b1_2, o2, v9, v10, v11)
noncomputable def Z9d : Spec := Spec.mk [OSh.ro, OSh.box (26 : Nat) [Sh.int .i64, Sh.int .i64, Sh.snap (0 : Nat) (Ty.pair (Ty.int .i64) (Ty.int .i64))], OSh.row true (42 : Nat) (Ty.pair (Ty.int .i64) (Ty.pair (Ty.int .i64) (Ty.int .i64))), OSh.box (122 : Nat) [Sh.int .i64, Sh.int .i64]] [((1 : Nat), TSh.at (Sh.ptr (1 : Nat) (0 : Nat))), ((3 : Nat), TSh.at (Sh.sl (2 : Nat))), ((4 : Nat), TSh.at (Sh.int .i64)), ((5 : Nat), TSh.at (Sh.ptr (3 : Nat) (0 : Nat))), ((6 : Nat), TSh.at (Sh.int .i64)), ((9 : Nat), TSh.at (Sh.snap (0 : Nat) (Ty.pair (Ty.int .i64) (Ty.int .i64)))), ((10 : Nat), TSh.at (Sh.int .i64)), ((11 : Nat), TSh.at (Sh.int .i64))]
noncomputable def ZmB : Spec := Spec.mk [OSh.ro, OSh.box (26 : Nat) [Sh.int .i64, Sh.int .i64, Sh.snap (0 : Nat) (Ty.pair (Ty.int .i64) (Ty.int .i64))], OSh.row true (42 : Nat) (Ty.pair (Ty.int .i64) (Ty.pair (Ty.int .i64) (Ty.int .i64)))] [((1 : Nat), TSh.at (Sh.ptr (1 : Nat) (0 : Nat))), ((3 : Nat), TSh.at (Sh.sl (2 : Nat))), ((9 : Nat), TSh.at (Sh.snap (0 : Nat) (Ty.pair (Ty.int .i64) (Ty.int .i64)))), ((10 : Nat), TSh.at (Sh.int .i64)), ((11 : Nat), TSh.at (Sh.int .i64))]
noncomputable def Z2q : LoopDef (Tup Z2t × OutD) := .plain Z9d ZmB (Int × Int × List (Int × Int) × List (Int × Int × Int) × List (Int × Int) × Int × Int) (fun k x => Z11 k x.1.2.1.1 x.1.2.1.2.1 x.1.2.1.2.2.1 x.1.2.2.1 x.1.2.2.2.1.1 x.1.2.2.2.1.2.1 x.2.2.2.1 x.2.2.2.2.2.1 x.2.2.2.2.2.2.1 x.2.2.2.2.2.2.2.1 x.2.2.2.2.2.2.2.2.1) (fun z => (((), (z.1, z.2.1, z.2.2.1, ()), z.2.2.2.1, ()), ((), (), z.2.2.2.2.1, z.2.2.2.2.2.1, z.2.2.2.2.2.2, ()))) (fun y => (y.1.2.1.1, y.1.2.1.2.1, y.1.2.1.2.2.1, y.1.2.2.1, y.2.2.2.1, y.2.2.2.2.1, y.2.2.2.2.2.1)) (fun _ => rfl)
noncomputable def Z1N : Nat → Int → Int → List (Int × Int) → List (Int × Int × Int) → List (Int × Int) → Int → Int → Option (List (Int × Int × Int))
 | 0, _, _, _, _, _, _, _ => none
 | k + 1, b1_0, b1_1, b1_2, o2, v9, v10, v11 =>
  if decide (v11 < v10) = true then if (0 : Int) ≤ v11 then if v11 < (↑(List.length v9) : Int) then Option.bind (Z11 k b1_0 b1_1 b1_2 o2 (Prod.fst (List.getD v9 (Int.toNat v11) ((0 : Int), (0 : Int)))) (Prod.snd (List.getD v9 (Int.toNat v11) ((0 : Int), (0 : Int)))) v11 (1 : Int) v9 v10 v11) fun z1 => Z1N k z1.1 z1.2.1 z1.2.2.1 z1.2.2.2.1 z1.2.2.2.2.1 z1.2.2.2.2.2.1 (wrap64 (Prod.snd z1.2.2.2.2.2 + (1 : Int))) else none else none else some o2
noncomputable def Z9i : Spec := Spec.mk [OSh.ro, OSh.box (26 : Nat) [Sh.int .i64, Sh.int .i64, Sh.snap (0 : Nat) (Ty.pair (Ty.int .i64) (Ty.int .i64))], OSh.row true (42 : Nat) (Ty.pair (Ty.int .i64) (Ty.pair (Ty.int .i64) (Ty.int .i64)))] [((1 : Nat), TSh.at (Sh.ptr (1 : Nat) (0 : Nat))), ((3 : Nat), TSh.at (Sh.sl (2 : Nat))), ((9 : Nat), TSh.at (Sh.snap (0 : Nat) (Ty.pair (Ty.int .i64) (Ty.int .i64)))), ((10 : Nat), TSh.at (Sh.int .i64)), ((11 : Nat), TSh.at (Sh.int .i64))]
noncomputable def Zlt : Spec := Spec.mk [OSh.ro, OSh.row true (42 : Nat) (Ty.pair (Ty.int .i64) (Ty.pair (Ty.int .i64) (Ty.int .i64)))] [((3 : Nat), TSh.at (Sh.sl (1 : Nat)))]
noncomputable def Z2r : LoopDef (Tup Z2t × OutD) := .plain Z9i Zlt (List (Int × Int × Int)) (fun k x => Z1N k x.1.2.1.1 x.1.2.1.2.1 x.1.2.1.2.2.1 x.1.2.2.1 x.2.2.2.1 x.2.2.2.2.1 x.2.2.2.2.2.1) (fun z => (((), z, ()), ((), ()))) (fun y => (y.1.2.1)) (fun _ => rfl)
noncomputable def Z3u : Nat → Int × Int × List (Int × Int) → Option (List (Int × Int × Int))
 | 0, _ => none
 | k + 1, p0 =>
  Option.bind (Z1N k p0.1 p0.2.1 p0.2.2 [] p0.2.2 (↑(List.length p0.2.2) : Int) (0 : Int)) fun z2 => some z2
noncomputable def ZU : FnDef := .of Zgu Z2t (List (Int × Int × Int)) (fun k x => Z3u k x.1) Zf4 Zf7 ZkL
noncomputable def Z5k : Code := Tryz.f63.body.getD .skip
noncomputable def ZW : Ctx (Tup Z2t × OutD) := { T := T, G := [(101, Z3Z.E)], mvs := [], no := 0, n := 38, res := resOf T Zgu Z2t Tryz.f63.results.toList, loops := [(2, Z2q.E), (0, Z2r.E)], regs := [], conds := [], cuts := [] }
theorem Zbs (k : Nat) : EnvOK Tryz.prog k ZW.G := (EnvOK.cons (Zrn k) (EnvOK.nil mixed))
noncomputable def Z5J : Code := (findLoop 2 Z5k).getD .skip
theorem ZmP (k : Nat) (x : Z9d.D) : Z2q.lp (k + 1) x = loopK ZW Z2q 2 Z5J k x := by kernel_rfl
theorem ZmE (k : Nat) : LOK Tryz.prog ZW k Z5J := LOK.by [] (by kernel_rfl) AllOK.nil
theorem Zmc (x : Z9d.D) : Z2q.lp 0 x = none := by kernel_rfl
theorem ZkF (k : Nat) : EOK Tryz.prog ZW k Z2q.E (.block 2 (.loop Z5J)) := Zb T_ok Zbs Zmc ZmP ZmE k
noncomputable def Z5E : Code := (findLoop 0 Z5k).getD .skip
theorem Znd (k : Nat) (x : Z9i.D) : Z2r.lp (k + 1) x = loopK ZW Z2r 0 Z5E k x := by kernel_rfl
theorem ZlR (k : Nat) : LOK Tryz.prog ZW k Z5E := LOK.by [(Z2q.E, .block 2 (.loop Z5J))] (by kernel_rfl) (AllOK.cons (ZkF k) AllOK.nil)
theorem Zm4 (x : Z9i.D) : Z2r.lp 0 x = none := by kernel_rfl
theorem ZkJ (k : Nat) : EOK Tryz.prog ZW k Z2r.E (.block 0 (.loop Z5E)) := Zb T_ok Zbs Zm4 Znd ZlR k
theorem Zqv (k : Nat) (x : Tup ZU.ps) : ZU.f (k + 1) x = fnK ZU ZW Z5k k x := by kernel_rfl
theorem Zrs (x : Tup ZU.ps) : ZU.f 0 x = none := by kernel_rfl
theorem Zqy (k : Nat) : LOK Tryz.prog ZW k Z5k := LOK.by [(Z2r.E, .block 0 (.loop Z5E))] (by kernel_rfl) (AllOK.cons (ZkJ k) AllOK.nil)
theorem Zbw (k : Nat) : SoundAt Tryz.prog k 63 ZU.E := @Z3 Tryz.prog ZU ZW 63 Tryz.f63 Z5k (by kernel_rfl) (by kernel_rfl) (by kernel_rfl) Tryz.func63 (by kernel_rfl) (by kernel_rfl) (by kernel_rfl) T_ok Zbs Zqy Zrs Zqv k
noncomputable def Z9h : List PK := [PK.mk Ty.bool false none false none]
noncomputable def Zm3 : List PK := [PK.mk (Ty.pair (Ty.int .i64) (Ty.pair (Ty.int .i64) (Ty.slice (122 : Nat) (Ty.pair (Ty.int .i64) (Ty.int .i64))))) true none false none, PK.mk (Ty.slice (3 : Nat) (Ty.int .i64)) false none false none]
noncomputable def ZjZ (r : Bool) : Tup Z9h × OutD := ((r, ()), none)
noncomputable def ZkA : Tup Z9h × OutD → Option (Bool)
 | (a, none) => some (a.1)
 | _ => none
theorem Zsw : ∀ b r, ZkA b = some r → ZjZ r = b := by
 rintro ⟨a, o⟩ r h
 cases o with
 | none => injection h with h; subst h; rfl
 | some _ => cases h
noncomputable def Z3G : Nat → Int × Int × List (Int × Int) → List Int → Option Bool
 | 0, _, _ => none
 | k + 1, p0, p1 =>
  Option.bind (Zaf k (Prod.fst p0, Prod.fst p0.2, Prod.snd p0.2)) fun z0 => if z0 = true then if decide ((↑(List.length p1) : Int) ≤ (60 : Int)) = true then Option.bind (ZgQ k p1 (0 : Int) (wrap64 (Prod.fst p0.2 - (1 : Int)))) fun z1 => some z1 else some false else some false
noncomputable def Z1h : FnDef := .of Zm3 Z9h (Bool) (fun k x => Z3G k x.1 x.2.1) ZjZ ZkA Zsw
noncomputable def ZfN : Code := Tryz.f65.body.getD .skip
noncomputable def Zcp : Ctx (Tup Z9h × OutD) := { T := T, G := [(84, Z3M.E), (90, Z7A.E)], mvs := [], no := 0, n := 19, res := resOf T Zm3 Z9h Tryz.f65.results.toList, loops := [], regs := [], conds := [], cuts := [] }
theorem ZzL (k : Nat) : EnvOK Tryz.prog k Zcp.G := (EnvOK.cons (ZjG k) (EnvOK.cons (ZFJ k) (EnvOK.nil mixed)))
theorem ZAL (k : Nat) (x : Tup Z1h.ps) : Z1h.f (k + 1) x = fnK Z1h Zcp ZfN k x := by kernel_rfl
theorem ZB4 (x : Tup Z1h.ps) : Z1h.f 0 x = none := by kernel_rfl
theorem Zzz (k : Nat) : LOK Tryz.prog Zcp k ZfN := LOK.by [] (by kernel_rfl) AllOK.nil
theorem Z99 (k : Nat) : SoundAt Tryz.prog k 65 Z1h.E := @Z3 Tryz.prog Z1h Zcp 65 Tryz.f65 ZfN (by kernel_rfl) (by kernel_rfl) (by kernel_rfl) Tryz.func65 (by kernel_rfl) (by kernel_rfl) (by kernel_rfl) T_ok ZzL Zzz ZB4 ZAL k
noncomputable def Z9o : List PK := [PK.mk (Ty.slice (67 : Nat) (Ty.pair (Ty.int .i64) (Ty.pair (Ty.int .i64) (Ty.int .i64)))) false none false none, PK.mk (Ty.pair (Ty.int .i64) (Ty.pair (Ty.int .i64) (Ty.slice (122 : Nat) (Ty.pair (Ty.int .i64) (Ty.int .i64))))) true none false none]
noncomputable def Zvm : List PK := [PK.mk (Ty.pair (Ty.int .i64) (Ty.pair (Ty.int .i64) (Ty.slice (122 : Nat) (Ty.pair (Ty.int .i64) (Ty.int .i64))))) true none false none, PK.mk (Ty.slice (3 : Nat) (Ty.int .i64)) false none false none]
noncomputable def Ztw (r : List (Int × Int × Int) × Int × Int × List (Int × Int)) : Tup Z9o × OutD := ((r.1, r.2, ()), none)
noncomputable def ZtS : Tup Z9o × OutD → Option (List (Int × Int × Int) × Int × Int × List (Int × Int))
 | (a, none) => some (a.1, a.2.1)
 | _ => none
theorem ZyQ : ∀ b r, ZtS b = some r → Ztw r = b := by
 rintro ⟨a, o⟩ r h
 cases o with
 | none => injection h with h; subst h; rfl
 | some _ => cases h
noncomputable def Z5F : Nat → Int → Int → List (Int × Int) → Int → Int → List (Int × Int) → List Int → Option (Int × Int × List (Int × Int) × Int × Int × List (Int × Int) × List Int × List Int) := fun k b1_0 b1_1 b1_2 b2_0 b2_1 o3 v1 =>
    Option.bind (Z3y k (b1_0, b1_1, b1_2)) fun z0 => Option.bind (Z1U k (b1_0, b1_1, b1_2)) fun z1 => some (b2_0, b2_1, o3, Prod.fst z0, Prod.fst z0.2, Prod.snd z0.2, z1, v1)
noncomputable def Zc2 : Nat → Int → Int → List (Int × Int) → Int → Int → List (Int × Int) → List Int → Option (List (Int × Int × List (Int × Int) × Int × Int × List (Int × Int) × List Int × List Int)) := fun k b1_0 b1_1 b1_2 b2_0 b2_1 o3 v1 =>
    joinL (Option.bind (Z3y k (b1_0, b1_1, b1_2)) fun z2 => joinL (Option.bind (Z1U k (b1_0, b1_1, b1_2)) fun z3 => some [(b2_0, b2_1, o3, Prod.fst z2, Prod.fst z2.2, Prod.snd z2.2, z3, v1)]) (Option.bind (Z1U k (b1_0, b1_1, b1_2)) fun z4 => some [(b2_0, b2_1, o3, Prod.fst z2, Prod.fst z2.2, Prod.snd z2.2, z4, v1)])) (Option.bind (Z3y k (b1_0, b1_1, b1_2)) fun z5 => Option.bind (Z1U k (b1_0, b1_1, b1_2)) fun z6 => some [(b2_0, b2_1, o3, Prod.fst z5, Prod.fst z5.2, Prod.snd z5.2, z6, v1)])
noncomputable def Znb : Spec := Spec.mk [OSh.ro, OSh.box (26 : Nat) [Sh.int .i64, Sh.int .i64, Sh.snap (0 : Nat) (Ty.pair (Ty.int .i64) (Ty.int .i64))], OSh.box (26 : Nat) [Sh.int .i64, Sh.int .i64, Sh.sl (3 : Nat)], OSh.row true (122 : Nat) (Ty.pair (Ty.int .i64) (Ty.int .i64))] [((1 : Nat), TSh.at (Sh.snap (0 : Nat) (Ty.int .i64))), ((2 : Nat), TSh.at (Sh.ptr (1 : Nat) (0 : Nat))), ((5 : Nat), TSh.at (Sh.ptr (2 : Nat) (0 : Nat)))]
noncomputable def Zzr : Spec := Spec.mk [OSh.ro, OSh.box (26 : Nat) [Sh.int .i64, Sh.int .i64, Sh.sl (2 : Nat)], OSh.row true (122 : Nat) (Ty.pair (Ty.int .i64) (Ty.int .i64)), OSh.box (26 : Nat) [Sh.int .i64, Sh.int .i64, Sh.sl (4 : Nat)], OSh.row true (122 : Nat) (Ty.pair (Ty.int .i64) (Ty.int .i64)), OSh.row true (3 : Nat) (Ty.int .i64)] [((1 : Nat), TSh.at (Sh.snap (0 : Nat) (Ty.int .i64))), ((5 : Nat), TSh.at (Sh.ptr (1 : Nat) (0 : Nat))), ((6 : Nat), TSh.at (Sh.ptr (3 : Nat) (0 : Nat))), ((7 : Nat), TSh.at (Sh.sl (5 : Nat)))]
noncomputable def Z6P : LoopDef (Tup Z9o × OutD) := .plain Znb Zzr (Int × Int × List (Int × Int) × Int × Int × List (Int × Int) × List Int × List Int) (fun k x => Z5F k x.1.2.1.1 x.1.2.1.2.1 x.1.2.1.2.2.1 x.1.2.2.1.1 x.1.2.2.1.2.1 x.1.2.2.2.1 x.2.1) (fun z => (((), (z.1, z.2.1, (), ()), z.2.2.1, (z.2.2.2.1, z.2.2.2.2.1, (), ()), z.2.2.2.2.2.1, z.2.2.2.2.2.2.1, ()), (z.2.2.2.2.2.2.2, (), (), (), ()))) (fun y => (y.1.2.1.1, y.1.2.1.2.1, y.1.2.2.1, y.1.2.2.2.1.1, y.1.2.2.2.1.2.1, y.1.2.2.2.2.1, y.1.2.2.2.2.2.1, y.2.1)) (fun _ => rfl)
theorem Zzd (k : Nat) (b1_0 : Int) (b1_1 : Int) (b1_2 : List (Int × Int)) (b2_0 : Int) (b2_1 : Int) (o3 : List (Int × Int)) (v1 : List Int) : Zc2 k b1_0 b1_1 b1_2 b2_0 b2_1 o3 v1 = repl 3 (Z5F k b1_0 b1_1 b1_2 b2_0 b2_1 o3 v1) := by
 first
 | (simp only [Zc2, Z5F, Zd, Zi, Zf, Zg, Ze, Z4, if_true]; done)
 | (simp only [Zc2, Z5F, Zd, Zi, Zf, Zg, Ze, Z4, if_true]; simp only [Z1n, Z1o, Z2J, Z4]; simp only [Z44]; exact Z22 ⟨fun h => by simp only [h, and_self], fun h => by simp only [h, and_self]⟩)
noncomputable def Z94 : Nat → Int → Int → List (Int × Int) → Int → Int → List (Int × Int) → List Int → List (Int × Int × Int) → List Int → Int → Int → Option (Int × Int × List (Int × Int) × Int × Int × List (Int × Int) × List (Int × Int × Int))
 | 0, _, _, _, _, _, _, _, _, _, _, _ => none
 | k + 1, b1_0, b1_1, o2, b3_0, b3_1, o4, o5, o6, v18, v19, v20 =>
  if decide (v20 < v19) = true then if (0 : Int) ≤ v20 then if v20 < (↑(List.length v18) : Int) then Option.bind (ZiP k (b3_0, b3_1, o4) o5 (List.getD v18 (Int.toNat v20) (0 : Int))) fun z8 => if List.length o6 + List.length [(Prod.fst z8.1, Prod.fst z8.1.2, Prod.snd z8.1.2)] ≤ (140737488355328 / 24 : Nat) then Z94 k b1_0 b1_1 o2 z8.2.1.1 z8.2.1.2.1 z8.2.1.2.2 o5 (o6 ++ [(Prod.fst z8.1, Prod.fst z8.1.2, Prod.snd z8.1.2)]) v18 v19 (wrap64 (v20 + (1 : Int))) else none else none else none else some (b1_0, b1_1, o2, b3_0, b3_1, o4, o6)
noncomputable def ZhC : Spec := Spec.mk [OSh.ro, OSh.box (26 : Nat) [Sh.int .i64, Sh.int .i64, Sh.sl (2 : Nat)], OSh.row true (122 : Nat) (Ty.pair (Ty.int .i64) (Ty.int .i64)), OSh.box (26 : Nat) [Sh.int .i64, Sh.int .i64, Sh.sl (4 : Nat)], OSh.row true (122 : Nat) (Ty.pair (Ty.int .i64) (Ty.int .i64)), OSh.row true (3 : Nat) (Ty.int .i64), OSh.row true (67 : Nat) (Ty.pair (Ty.int .i64) (Ty.pair (Ty.int .i64) (Ty.int .i64)))] [((5 : Nat), TSh.at (Sh.ptr (1 : Nat) (0 : Nat))), ((6 : Nat), TSh.at (Sh.ptr (3 : Nat) (0 : Nat))), ((7 : Nat), TSh.at (Sh.sl (5 : Nat))), ((8 : Nat), TSh.at (Sh.sl (6 : Nat))), ((18 : Nat), TSh.at (Sh.snap (0 : Nat) (Ty.int .i64))), ((19 : Nat), TSh.at (Sh.int .i64)), ((20 : Nat), TSh.at (Sh.int .i64))]
noncomputable def ZBx : Spec := Spec.mk [OSh.ro, OSh.box (26 : Nat) [Sh.int .i64, Sh.int .i64, Sh.sl (2 : Nat)], OSh.row true (122 : Nat) (Ty.pair (Ty.int .i64) (Ty.int .i64)), OSh.box (26 : Nat) [Sh.int .i64, Sh.int .i64, Sh.sl (4 : Nat)], OSh.row true (122 : Nat) (Ty.pair (Ty.int .i64) (Ty.int .i64)), OSh.row true (67 : Nat) (Ty.pair (Ty.int .i64) (Ty.pair (Ty.int .i64) (Ty.int .i64)))] [((5 : Nat), TSh.at (Sh.ptr (1 : Nat) (0 : Nat))), ((6 : Nat), TSh.at (Sh.ptr (3 : Nat) (0 : Nat))), ((8 : Nat), TSh.at (Sh.sl (5 : Nat)))]
noncomputable def Z7Q : LoopDef (Tup Z9o × OutD) := .plain ZhC ZBx (Int × Int × List (Int × Int) × Int × Int × List (Int × Int) × List (Int × Int × Int)) (fun k x => Z94 k x.1.2.1.1 x.1.2.1.2.1 x.1.2.2.1 x.1.2.2.2.1.1 x.1.2.2.2.1.2.1 x.1.2.2.2.2.1 x.1.2.2.2.2.2.1 x.1.2.2.2.2.2.2.1 x.2.2.2.2.2.1 x.2.2.2.2.2.2.1 x.2.2.2.2.2.2.2.1) (fun z => (((), (z.1, z.2.1, (), ()), z.2.2.1, (z.2.2.2.1, z.2.2.2.2.1, (), ()), z.2.2.2.2.2.1, z.2.2.2.2.2.2, ()), ((), (), (), ()))) (fun y => (y.1.2.1.1, y.1.2.1.2.1, y.1.2.2.1, y.1.2.2.2.1.1, y.1.2.2.2.1.2.1, y.1.2.2.2.2.1, y.1.2.2.2.2.2.1)) (fun _ => rfl)
noncomputable def Ze0 : Nat → Int × Int × List (Int × Int) → List Int → Option (List (Int × Int × Int) × Int × Int × List (Int × Int))
 | 0, _, _ => none
 | k + 1, p0, p1 =>
  Option.bind (Z5F k p0.1 p0.2.1 p0.2.2 (0 : Int) (0 : Int) [] p1) fun z7 => Option.bind (Z94 k z7.1 z7.2.1 z7.2.2.1 z7.2.2.2.1 z7.2.2.2.2.1 z7.2.2.2.2.2.1 z7.2.2.2.2.2.2.1 [] z7.2.2.2.2.2.2.2 (↑(List.length z7.2.2.2.2.2.2.2) : Int) (0 : Int)) fun z9 => some (Prod.snd z9.2.2.2.2.2, Prod.fst z9.2.2.2, Prod.fst z9.2.2.2.2, Prod.fst z9.2.2.2.2.2)
noncomputable def Z5L : FnDef := .of Zvm Z9o (List (Int × Int × Int) × Int × Int × List (Int × Int)) (fun k x => Ze0 k x.1 x.2.1) Ztw ZtS ZyQ
noncomputable def ZdV : Code := Tryz.f85.body.getD .skip
noncomputable def Z2k : Ctx (Tup Z9o × OutD) := { T := T, G := [(111, Z3A.E), (112, Z3k.E), (113, Z8E.E)], mvs := [], no := 0, n := 40, res := resOf T Zvm Z9o Tryz.f85.results.toList, loops := [(0, Z7Q.E)], regs := [(1, Z6P.E)], conds := [], cuts := [] }
theorem Zmi (k : Nat) : EnvOK Tryz.prog k Z2k.G := (EnvOK.cons (Zhe k) (EnvOK.cons (ZoB k) (EnvOK.cons (ZGo k) (EnvOK.nil mixed))))
noncomputable def Zga : Array Oper := (findReg 1 ZdV).getD #[]
theorem ZzZ (k : Nat) (x : Znb.D) : execD Z2k.T Z2k.G Z2k.mvs k Zga (Z6P.inp.st Z2k.n x) (outK Z2k Z6P) = Zc2 k x.1.2.1.1 x.1.2.1.2.1 x.1.2.1.2.2.1 x.1.2.2.1.1 x.1.2.2.1.2.1 x.1.2.2.2.1 x.2.1 := by kernel_rfl
theorem ZxJ (k : Nat) : EOK Tryz.prog Z2k k Z6P.E (.region 1 Zga true) := Z5X (D := Z6P) (m := 3) T_ok (Zmi k) (fun x => (ZzZ k x).trans (Zzd k x.1.2.1.1 x.1.2.1.2.1 x.1.2.1.2.2.1 x.1.2.2.1.1 x.1.2.2.1.2.1 x.1.2.2.2.1 x.2.1))
noncomputable def Zdh : Code := (findLoop 0 ZdV).getD .skip
theorem ZCk (k : Nat) (x : ZhC.D) : Z7Q.lp (k + 1) x = loopK Z2k Z7Q 0 Zdh k x := by kernel_rfl
theorem ZBo (k : Nat) : LOK Tryz.prog Z2k k Zdh := LOK.by [] (by kernel_rfl) AllOK.nil
theorem ZBT (x : ZhC.D) : Z7Q.lp 0 x = none := by kernel_rfl
theorem ZAZ (k : Nat) : EOK Tryz.prog Z2k k Z7Q.E (.block 0 (.loop Zdh)) := Zb T_ok Zmi ZBT ZCk ZBo k
theorem ZFo (k : Nat) (x : Tup Z5L.ps) : Z5L.f (k + 1) x = fnK Z5L Z2k ZdV k x := by kernel_rfl
theorem ZFS (x : Tup Z5L.ps) : Z5L.f 0 x = none := by kernel_rfl
theorem ZFD (k : Nat) : LOK Tryz.prog Z2k k ZdV := LOK.by [(Z6P.E, .region 1 Zga true), (Z7Q.E, .block 0 (.loop Zdh))] (by kernel_rfl) (AllOK.cons (ZxJ k) (AllOK.cons (ZAZ k) AllOK.nil))
theorem ZvW (k : Nat) : SoundAt Tryz.prog k 85 Z5L.E := @Z3 Tryz.prog Z5L Z2k 85 Tryz.f85 ZdV (by kernel_rfl) (by kernel_rfl) (by kernel_rfl) Tryz.func85 (by kernel_rfl) (by kernel_rfl) (by kernel_rfl) T_ok Zmi ZFD ZFS ZFo k
noncomputable def Z9A : List PK := [PK.mk (Ty.slice (67 : Nat) (Ty.pair (Ty.int .i64) (Ty.pair (Ty.int .i64) (Ty.int .i64)))) false none false none, PK.mk (Ty.pair (Ty.int .i64) (Ty.pair (Ty.int .i64) (Ty.slice (122 : Nat) (Ty.pair (Ty.int .i64) (Ty.int .i64))))) true none false none]
noncomputable def ZvC : List PK := [PK.mk (Ty.pair (Ty.int .i64) (Ty.pair (Ty.int .i64) (Ty.slice (122 : Nat) (Ty.pair (Ty.int .i64) (Ty.int .i64))))) true none false none, PK.mk (Ty.slice (42 : Nat) (Ty.pair (Ty.int .i64) (Ty.pair (Ty.int .i64) (Ty.int .i64)))) false none false none, PK.mk (Ty.slice (3 : Nat) (Ty.int .i64)) false none false none]
noncomputable def Zt8 (r : List (Int × Int × Int) × Int × Int × List (Int × Int)) : Tup Z9A × OutD := ((r.1, r.2, ()), none)
noncomputable def Zte : Tup Z9A × OutD → Option (List (Int × Int × Int) × Int × Int × List (Int × Int))
 | (a, none) => some (a.1, a.2.1)
 | _ => none
theorem ZAQ : ∀ b r, Zte b = some r → Zt8 r = b := by
 rintro ⟨a, o⟩ r h
 cases o with
 | none => injection h with h; subst h; rfl
 | some _ => cases h
noncomputable def Z5H : Nat → Int → Int → List (Int × Int) → Int → Int → List (Int × Int) → List (Int × Int × Int) → List Int → Option (Int × Int × List (Int × Int) × Int × Int × List (Int × Int) × List Int × List (Int × Int × Int) × List Int) := fun k b1_0 b1_1 b1_2 b2_0 b2_1 o3 v1 v2 =>
    Option.bind (Z3y k (b1_0, b1_1, b1_2)) fun z0 => Option.bind (Z1U k (b1_0, b1_1, b1_2)) fun z1 => some (b2_0, b2_1, o3, Prod.fst z0, Prod.fst z0.2, Prod.snd z0.2, z1, v1, v2)
noncomputable def ZbP : Nat → Int → Int → List (Int × Int) → Int → Int → List (Int × Int) → List (Int × Int × Int) → List Int → Option (List (Int × Int × List (Int × Int) × Int × Int × List (Int × Int) × List Int × List (Int × Int × Int) × List Int)) := fun k b1_0 b1_1 b1_2 b2_0 b2_1 o3 v1 v2 =>
    joinL (Option.bind (Z3y k (b1_0, b1_1, b1_2)) fun z2 => joinL (Option.bind (Z1U k (b1_0, b1_1, b1_2)) fun z3 => some [(b2_0, b2_1, o3, Prod.fst z2, Prod.fst z2.2, Prod.snd z2.2, z3, v1, v2)]) (Option.bind (Z1U k (b1_0, b1_1, b1_2)) fun z4 => some [(b2_0, b2_1, o3, Prod.fst z2, Prod.fst z2.2, Prod.snd z2.2, z4, v1, v2)])) (Option.bind (Z3y k (b1_0, b1_1, b1_2)) fun z5 => Option.bind (Z1U k (b1_0, b1_1, b1_2)) fun z6 => some [(b2_0, b2_1, o3, Prod.fst z5, Prod.fst z5.2, Prod.snd z5.2, z6, v1, v2)])
noncomputable def ZlE : Spec := Spec.mk [OSh.ro, OSh.box (26 : Nat) [Sh.int .i64, Sh.int .i64, Sh.snap (0 : Nat) (Ty.pair (Ty.int .i64) (Ty.int .i64))], OSh.box (26 : Nat) [Sh.int .i64, Sh.int .i64, Sh.sl (3 : Nat)], OSh.row true (122 : Nat) (Ty.pair (Ty.int .i64) (Ty.int .i64))] [((1 : Nat), TSh.at (Sh.snap (0 : Nat) (Ty.pair (Ty.int .i64) (Ty.pair (Ty.int .i64) (Ty.int .i64))))), ((2 : Nat), TSh.at (Sh.snap (0 : Nat) (Ty.int .i64))), ((3 : Nat), TSh.at (Sh.ptr (1 : Nat) (0 : Nat))), ((7 : Nat), TSh.at (Sh.ptr (2 : Nat) (0 : Nat)))]
noncomputable def ZAX : Spec := Spec.mk [OSh.ro, OSh.box (26 : Nat) [Sh.int .i64, Sh.int .i64, Sh.sl (2 : Nat)], OSh.row true (122 : Nat) (Ty.pair (Ty.int .i64) (Ty.int .i64)), OSh.box (26 : Nat) [Sh.int .i64, Sh.int .i64, Sh.sl (4 : Nat)], OSh.row true (122 : Nat) (Ty.pair (Ty.int .i64) (Ty.int .i64)), OSh.row true (3 : Nat) (Ty.int .i64)] [((1 : Nat), TSh.at (Sh.snap (0 : Nat) (Ty.pair (Ty.int .i64) (Ty.pair (Ty.int .i64) (Ty.int .i64))))), ((2 : Nat), TSh.at (Sh.snap (0 : Nat) (Ty.int .i64))), ((7 : Nat), TSh.at (Sh.ptr (1 : Nat) (0 : Nat))), ((8 : Nat), TSh.at (Sh.ptr (3 : Nat) (0 : Nat))), ((9 : Nat), TSh.at (Sh.sl (5 : Nat)))]
noncomputable def Z6U : LoopDef (Tup Z9A × OutD) := .plain ZlE ZAX (Int × Int × List (Int × Int) × Int × Int × List (Int × Int) × List Int × List (Int × Int × Int) × List Int) (fun k x => Z5H k x.1.2.1.1 x.1.2.1.2.1 x.1.2.1.2.2.1 x.1.2.2.1.1 x.1.2.2.1.2.1 x.1.2.2.2.1 x.2.1 x.2.2.1) (fun z => (((), (z.1, z.2.1, (), ()), z.2.2.1, (z.2.2.2.1, z.2.2.2.2.1, (), ()), z.2.2.2.2.2.1, z.2.2.2.2.2.2.1, ()), (z.2.2.2.2.2.2.2.1, z.2.2.2.2.2.2.2.2, (), (), (), ()))) (fun y => (y.1.2.1.1, y.1.2.1.2.1, y.1.2.2.1, y.1.2.2.2.1.1, y.1.2.2.2.1.2.1, y.1.2.2.2.2.1, y.1.2.2.2.2.2.1, y.2.1, y.2.2.1)) (fun _ => rfl)
theorem ZzV (k : Nat) (b1_0 : Int) (b1_1 : Int) (b1_2 : List (Int × Int)) (b2_0 : Int) (b2_1 : Int) (o3 : List (Int × Int)) (v1 : List (Int × Int × Int)) (v2 : List Int) : ZbP k b1_0 b1_1 b1_2 b2_0 b2_1 o3 v1 v2 = repl 3 (Z5H k b1_0 b1_1 b1_2 b2_0 b2_1 o3 v1 v2) := by
 first
 | (simp only [ZbP, Z5H, Zd, Zi, Zf, Zg, Ze, Z4, if_true]; done)
 | (simp only [ZbP, Z5H, Zd, Zi, Zf, Zg, Ze, Z4, if_true]; simp only [Z1n, Z1o, Z2J, Z4]; simp only [Z44]; exact Z22 ⟨fun h => by simp only [h, and_self], fun h => by simp only [h, and_self]⟩)
noncomputable def Z8T : Nat → Int → Int → List (Int × Int) → Int → Int → List (Int × Int) → List Int → List (Int × Int × Int) → List (Int × Int × Int) → List Int → Int → Int → Option (Int × Int × List (Int × Int) × Int × Int × List (Int × Int) × List (Int × Int × Int))
 | 0, _, _, _, _, _, _, _, _, _, _, _, _ => none
 | k + 1, b1_0, b1_1, o2, b3_0, b3_1, o4, o5, o6, v1, v19, v20, v21 =>
  if decide (v21 < v20) = true then if (0 : Int) ≤ v21 then if v21 < (↑(List.length v19) : Int) then Option.bind (ZiW k (b3_0, b3_1, o4) o5 v1 (List.getD v19 (Int.toNat v21) (0 : Int))) fun z8 => if List.length o6 + List.length [(Prod.fst z8.1, Prod.fst z8.1.2, Prod.snd z8.1.2)] ≤ (140737488355328 / 24 : Nat) then Z8T k b1_0 b1_1 o2 z8.2.1 z8.2.2.1 z8.2.2.2 o5 (o6 ++ [(Prod.fst z8.1, Prod.fst z8.1.2, Prod.snd z8.1.2)]) v1 v19 v20 (wrap64 (v21 + (1 : Int))) else none else none else none else some (b1_0, b1_1, o2, b3_0, b3_1, o4, o6)
noncomputable def ZgZ : Spec := Spec.mk [OSh.ro, OSh.box (26 : Nat) [Sh.int .i64, Sh.int .i64, Sh.sl (2 : Nat)], OSh.row true (122 : Nat) (Ty.pair (Ty.int .i64) (Ty.int .i64)), OSh.box (26 : Nat) [Sh.int .i64, Sh.int .i64, Sh.sl (4 : Nat)], OSh.row true (122 : Nat) (Ty.pair (Ty.int .i64) (Ty.int .i64)), OSh.row true (3 : Nat) (Ty.int .i64), OSh.row true (67 : Nat) (Ty.pair (Ty.int .i64) (Ty.pair (Ty.int .i64) (Ty.int .i64)))] [((1 : Nat), TSh.at (Sh.snap (0 : Nat) (Ty.pair (Ty.int .i64) (Ty.pair (Ty.int .i64) (Ty.int .i64))))), ((7 : Nat), TSh.at (Sh.ptr (1 : Nat) (0 : Nat))), ((8 : Nat), TSh.at (Sh.ptr (3 : Nat) (0 : Nat))), ((9 : Nat), TSh.at (Sh.sl (5 : Nat))), ((10 : Nat), TSh.at (Sh.sl (6 : Nat))), ((19 : Nat), TSh.at (Sh.snap (0 : Nat) (Ty.int .i64))), ((20 : Nat), TSh.at (Sh.int .i64)), ((21 : Nat), TSh.at (Sh.int .i64))]
noncomputable def ZC2 : Spec := Spec.mk [OSh.ro, OSh.box (26 : Nat) [Sh.int .i64, Sh.int .i64, Sh.sl (2 : Nat)], OSh.row true (122 : Nat) (Ty.pair (Ty.int .i64) (Ty.int .i64)), OSh.box (26 : Nat) [Sh.int .i64, Sh.int .i64, Sh.sl (4 : Nat)], OSh.row true (122 : Nat) (Ty.pair (Ty.int .i64) (Ty.int .i64)), OSh.row true (67 : Nat) (Ty.pair (Ty.int .i64) (Ty.pair (Ty.int .i64) (Ty.int .i64)))] [((7 : Nat), TSh.at (Sh.ptr (1 : Nat) (0 : Nat))), ((8 : Nat), TSh.at (Sh.ptr (3 : Nat) (0 : Nat))), ((10 : Nat), TSh.at (Sh.sl (5 : Nat)))]
noncomputable def Z7R : LoopDef (Tup Z9A × OutD) := .plain ZgZ ZC2 (Int × Int × List (Int × Int) × Int × Int × List (Int × Int) × List (Int × Int × Int)) (fun k x => Z8T k x.1.2.1.1 x.1.2.1.2.1 x.1.2.2.1 x.1.2.2.2.1.1 x.1.2.2.2.1.2.1 x.1.2.2.2.2.1 x.1.2.2.2.2.2.1 x.1.2.2.2.2.2.2.1 x.2.1 x.2.2.2.2.2.2.1 x.2.2.2.2.2.2.2.1 x.2.2.2.2.2.2.2.2.1) (fun z => (((), (z.1, z.2.1, (), ()), z.2.2.1, (z.2.2.2.1, z.2.2.2.2.1, (), ()), z.2.2.2.2.2.1, z.2.2.2.2.2.2, ()), ((), (), (), ()))) (fun y => (y.1.2.1.1, y.1.2.1.2.1, y.1.2.2.1, y.1.2.2.2.1.1, y.1.2.2.2.1.2.1, y.1.2.2.2.2.1, y.1.2.2.2.2.2.1)) (fun _ => rfl)
noncomputable def ZdW : Nat → Int × Int × List (Int × Int) → List (Int × Int × Int) → List Int → Option (List (Int × Int × Int) × Int × Int × List (Int × Int))
 | 0, _, _, _ => none
 | k + 1, p0, p1, p2 =>
  Option.bind (Z5H k p0.1 p0.2.1 p0.2.2 (0 : Int) (0 : Int) [] p1 p2) fun z7 => Option.bind (Z8T k z7.1 z7.2.1 z7.2.2.1 z7.2.2.2.1 z7.2.2.2.2.1 z7.2.2.2.2.2.1 z7.2.2.2.2.2.2.1 [] z7.2.2.2.2.2.2.2.1 z7.2.2.2.2.2.2.2.2 (↑(List.length z7.2.2.2.2.2.2.2.2) : Int) (0 : Int)) fun z9 => some (Prod.snd z9.2.2.2.2.2, Prod.fst z9.2.2.2, Prod.fst z9.2.2.2.2, Prod.fst z9.2.2.2.2.2)
noncomputable def Z5N : FnDef := .of ZvC Z9A (List (Int × Int × Int) × Int × Int × List (Int × Int)) (fun k x => ZdW k x.1 x.2.1 x.2.2.1) Zt8 Zte ZAQ
noncomputable def ZdH : Code := Tryz.f86.body.getD .skip
noncomputable def Z2o : Ctx (Tup Z9A × OutD) := { T := T, G := [(111, Z3A.E), (112, Z3k.E), (114, Z8N.E)], mvs := [], no := 0, n := 41, res := resOf T ZvC Z9A Tryz.f86.results.toList, loops := [(0, Z7R.E)], regs := [(1, Z6U.E)], conds := [], cuts := [] }
theorem ZlQ (k : Nat) : EnvOK Tryz.prog k Z2o.G := (EnvOK.cons (Zhe k) (EnvOK.cons (ZoB k) (EnvOK.cons (ZGO k) (EnvOK.nil mixed))))
noncomputable def ZfU : Array Oper := (findReg 1 ZdH).getD #[]
theorem ZzB (k : Nat) (x : ZlE.D) : execD Z2o.T Z2o.G Z2o.mvs k ZfU (Z6U.inp.st Z2o.n x) (outK Z2o Z6U) = ZbP k x.1.2.1.1 x.1.2.1.2.1 x.1.2.1.2.2.1 x.1.2.2.1.1 x.1.2.2.1.2.1 x.1.2.2.2.1 x.2.1 x.2.2.1 := by kernel_rfl
theorem Zxp (k : Nat) : EOK Tryz.prog Z2o k Z6U.E (.region 1 ZfU true) := Z5X (D := Z6U) (m := 3) T_ok (ZlQ k) (fun x => (ZzB k x).trans (ZzV k x.1.2.1.1 x.1.2.1.2.1 x.1.2.1.2.2.1 x.1.2.2.1.1 x.1.2.2.1.2.1 x.1.2.2.2.1 x.2.1 x.2.2.1))
noncomputable def Zdo : Code := (findLoop 0 ZdH).getD .skip
theorem ZC4 (k : Nat) (x : ZgZ.D) : Z7R.lp (k + 1) x = loopK Z2o Z7R 0 Zdo k x := by kernel_rfl
theorem ZBz (k : Nat) : LOK Tryz.prog Z2o k Zdo := LOK.by [] (by kernel_rfl) AllOK.nil
theorem ZC5 (x : ZgZ.D) : Z7R.lp 0 x = none := by kernel_rfl
theorem Zzm (k : Nat) : EOK Tryz.prog Z2o k Z7R.E (.block 0 (.loop Zdo)) := Zb T_ok ZlQ ZC5 ZC4 ZBz k
theorem ZFs (k : Nat) (x : Tup Z5N.ps) : Z5N.f (k + 1) x = fnK Z5N Z2o ZdH k x := by kernel_rfl
theorem ZFP (x : Tup Z5N.ps) : Z5N.f 0 x = none := by kernel_rfl
theorem ZFZ (k : Nat) : LOK Tryz.prog Z2o k ZdH := LOK.by [(Z6U.E, .region 1 ZfU true), (Z7R.E, .block 0 (.loop Zdo))] (by kernel_rfl) (AllOK.cons (Zxp k) (AllOK.cons (Zzm k) AllOK.nil))
theorem ZvY (k : Nat) : SoundAt Tryz.prog k 86 Z5N.E := @Z3 Tryz.prog Z5N Z2o 86 Tryz.f86 ZdH (by kernel_rfl) (by kernel_rfl) (by kernel_rfl) Tryz.func86 (by kernel_rfl) (by kernel_rfl) (by kernel_rfl) T_ok ZlQ ZFZ ZFP ZFs k
noncomputable def Z51 : List PK := [PK.mk (Ty.slice (67 : Nat) (Ty.pair (Ty.int .i64) (Ty.pair (Ty.int .i64) (Ty.int .i64)))) false none false none, PK.mk (Ty.pair (Ty.int .i64) (Ty.pair (Ty.int .i64) (Ty.slice (122 : Nat) (Ty.pair (Ty.int .i64) (Ty.int .i64))))) true none false none]
noncomputable def Zj3 : List PK := [PK.mk (Ty.pair (Ty.int .i64) (Ty.pair (Ty.int .i64) (Ty.slice (122 : Nat) (Ty.pair (Ty.int .i64) (Ty.int .i64))))) true none false none, PK.mk (Ty.slice (42 : Nat) (Ty.pair (Ty.int .i64) (Ty.pair (Ty.int .i64) (Ty.int .i64)))) false none false none, PK.mk (Ty.slice (3 : Nat) (Ty.int .i64)) false none false none]
noncomputable def ZhR (r : List (Int × Int × Int) × Int × Int × List (Int × Int)) : Tup Z51 × OutD := ((r.1, r.2, ()), none)
noncomputable def Zic : Tup Z51 × OutD → Option (List (Int × Int × Int) × Int × Int × List (Int × Int))
 | (a, none) => some (a.1, a.2.1)
 | _ => none
theorem Zpn : ∀ b r, Zic b = some r → ZhR r = b := by
 rintro ⟨a, o⟩ r h
 cases o with
 | none => injection h with h; subst h; rfl
 | some _ => cases h
noncomputable def Z3Y : Nat → Int → Int → List (Int × Int) → Int → Int → List (Int × Int) → List Int → List Int → List (Int × Int × Int) → List Int → Int → Int → Option (Int × Int × List (Int × Int) × Int × Int × List (Int × Int) × List (Int × Int × Int))
 | 0, _, _, _, _, _, _, _, _, _, _, _, _ => none
 | k + 1, b1_0, b1_1, o2, b3_0, b3_1, o4, o5, o6, o7, v22, v23, v24 =>
  if decide (v24 < v23) = true then if (0 : Int) ≤ v24 then if v24 < (↑(List.length v22) : Int) then Option.bind (Zb3 k (b3_0, b3_1, o4) o5 o6 (List.getD v22 (Int.toNat v24) (0 : Int))) fun z3 => if List.length o7 + List.length [(Prod.fst z3.1, Prod.fst z3.1.2, Prod.snd z3.1.2)] ≤ (140737488355328 / 24 : Nat) then Z3Y k b1_0 b1_1 o2 b3_0 b3_1 z3.2 o5 o6 (o7 ++ [(Prod.fst z3.1, Prod.fst z3.1.2, Prod.snd z3.1.2)]) v22 v23 (wrap64 (v24 + (1 : Int))) else none else none else none else some (b1_0, b1_1, o2, b3_0, b3_1, o4, o7)
noncomputable def Zbl : Spec := Spec.mk [OSh.ro, OSh.box (26 : Nat) [Sh.int .i64, Sh.int .i64, Sh.sl (2 : Nat)], OSh.row true (122 : Nat) (Ty.pair (Ty.int .i64) (Ty.int .i64)), OSh.box (26 : Nat) [Sh.int .i64, Sh.int .i64, Sh.sl (4 : Nat)], OSh.row true (122 : Nat) (Ty.pair (Ty.int .i64) (Ty.int .i64)), OSh.row true (3 : Nat) (Ty.int .i64), OSh.row true (3 : Nat) (Ty.int .i64), OSh.row true (67 : Nat) (Ty.pair (Ty.int .i64) (Ty.pair (Ty.int .i64) (Ty.int .i64)))] [((7 : Nat), TSh.at (Sh.ptr (1 : Nat) (0 : Nat))), ((8 : Nat), TSh.at (Sh.ptr (3 : Nat) (0 : Nat))), ((9 : Nat), TSh.at (Sh.sl (5 : Nat))), ((10 : Nat), TSh.at (Sh.sl (6 : Nat))), ((11 : Nat), TSh.at (Sh.sl (7 : Nat))), ((22 : Nat), TSh.at (Sh.snap (0 : Nat) (Ty.int .i64))), ((23 : Nat), TSh.at (Sh.int .i64)), ((24 : Nat), TSh.at (Sh.int .i64))]
noncomputable def Zq4 : Spec := Spec.mk [OSh.ro, OSh.box (26 : Nat) [Sh.int .i64, Sh.int .i64, Sh.sl (2 : Nat)], OSh.row true (122 : Nat) (Ty.pair (Ty.int .i64) (Ty.int .i64)), OSh.box (26 : Nat) [Sh.int .i64, Sh.int .i64, Sh.sl (4 : Nat)], OSh.row true (122 : Nat) (Ty.pair (Ty.int .i64) (Ty.int .i64)), OSh.row true (67 : Nat) (Ty.pair (Ty.int .i64) (Ty.pair (Ty.int .i64) (Ty.int .i64)))] [((7 : Nat), TSh.at (Sh.ptr (1 : Nat) (0 : Nat))), ((8 : Nat), TSh.at (Sh.ptr (3 : Nat) (0 : Nat))), ((11 : Nat), TSh.at (Sh.sl (5 : Nat)))]
noncomputable def Z3r : LoopDef (Tup Z51 × OutD) := .plain Zbl Zq4 (Int × Int × List (Int × Int) × Int × Int × List (Int × Int) × List (Int × Int × Int)) (fun k x => Z3Y k x.1.2.1.1 x.1.2.1.2.1 x.1.2.2.1 x.1.2.2.2.1.1 x.1.2.2.2.1.2.1 x.1.2.2.2.2.1 x.1.2.2.2.2.2.1 x.1.2.2.2.2.2.2.1 x.1.2.2.2.2.2.2.2.1 x.2.2.2.2.2.2.1 x.2.2.2.2.2.2.2.1 x.2.2.2.2.2.2.2.2.1) (fun z => (((), (z.1, z.2.1, (), ()), z.2.2.1, (z.2.2.2.1, z.2.2.2.2.1, (), ()), z.2.2.2.2.2.1, z.2.2.2.2.2.2, ()), ((), (), (), ()))) (fun y => (y.1.2.1.1, y.1.2.1.2.1, y.1.2.2.1, y.1.2.2.2.1.1, y.1.2.2.2.1.2.1, y.1.2.2.2.2.1, y.1.2.2.2.2.2.1)) (fun _ => rfl)
noncomputable def Zay : Nat → Int × Int × List (Int × Int) → List (Int × Int × Int) → List Int → Option (List (Int × Int × Int) × Int × Int × List (Int × Int))
 | 0, _, _, _ => none
 | k + 1, p0, p1, p2 =>
  Option.bind (Z9r k (Prod.fst p0, Prod.fst p0.2, Prod.snd p0.2)) fun z0 => Option.bind (Z6z k (Prod.fst p0, Prod.fst p0.2, Prod.snd p0.2)) fun z1 => Option.bind (Z9P k (Prod.fst p0, Prod.fst p0.2, Prod.snd p0.2) p1) fun z2 => Option.bind (Z3Y k (0 : Int) (0 : Int) [] z0.1 z0.2.1 z0.2.2 z1 z2 [] p2 (↑(List.length p2) : Int) (0 : Int)) fun z4 => some (Prod.snd z4.2.2.2.2.2, Prod.fst z4.2.2.2, Prod.fst z4.2.2.2.2, Prod.fst z4.2.2.2.2.2)
noncomputable def Z2y : FnDef := .of Zj3 Z51 (List (Int × Int × Int) × Int × Int × List (Int × Int)) (fun k x => Zay k x.1 x.2.1 x.2.2.1) ZhR Zic Zpn
noncomputable def ZaB : Code := Tryz.f88.body.getD .skip
noncomputable def Z3L : Ctx (Tup Z51 × OutD) := { T := T, G := [(116, Z2G.E), (117, Z1z.E), (118, Z2d.E), (119, Z39.E)], mvs := [], no := 0, n := 39, res := resOf T Zj3 Z51 Tryz.f88.results.toList, loops := [(0, Z3r.E)], regs := [], conds := [], cuts := [] }
theorem Zj8 (k : Nat) : EnvOK Tryz.prog k Z3L.G := (EnvOK.cons (ZlV k) (EnvOK.cons (Zib k) (EnvOK.cons (ZuB k) (EnvOK.cons (ZxD k) (EnvOK.nil mixed)))))
noncomputable def Z7U : Code := (findLoop 0 ZaB).getD .skip
theorem Zqc (k : Nat) (x : Zbl.D) : Z3r.lp (k + 1) x = loopK Z3L Z3r 0 Z7U k x := by kernel_rfl
theorem Zro (k : Nat) : LOK Tryz.prog Z3L k Z7U := LOK.by [] (by kernel_rfl) AllOK.nil
theorem ZqZ (x : Zbl.D) : Z3r.lp 0 x = none := by kernel_rfl
theorem ZpP (k : Nat) : EOK Tryz.prog Z3L k Z3r.E (.block 0 (.loop Z7U)) := Zb T_ok Zj8 ZqZ Zqc Zro k
theorem ZwD (k : Nat) (x : Tup Z2y.ps) : Z2y.f (k + 1) x = fnK Z2y Z3L ZaB k x := by kernel_rfl
theorem Zx2 (x : Tup Z2y.ps) : Z2y.f 0 x = none := by kernel_rfl
theorem ZwF (k : Nat) : LOK Tryz.prog Z3L k ZaB := LOK.by [(Z3r.E, .block 0 (.loop Z7U))] (by kernel_rfl) (AllOK.cons (ZpP k) AllOK.nil)
theorem ZwI (k : Nat) : SoundAt Tryz.prog k 88 Z2y.E := @Z3 Tryz.prog Z2y Z3L 88 Tryz.f88 ZaB (by kernel_rfl) (by kernel_rfl) (by kernel_rfl) Tryz.func88 (by kernel_rfl) (by kernel_rfl) (by kernel_rfl) T_ok Zj8 ZwF Zx2 ZwD k
noncomputable def Z43 : List PK := [PK.mk (Ty.pair (Ty.int .i64) (Ty.pair (Ty.int .i64) (Ty.slice (122 : Nat) (Ty.pair (Ty.int .i64) (Ty.int .i64))))) true none false none]
noncomputable def ZgR : List PK := [PK.mk (Ty.pair (Ty.slice (5 : Nat) (Ty.int .u8)) (Ty.pair (Ty.int .i64) (Ty.int .u64))) false none false (some (82 : Nat)), PK.mk (Ty.int .i64) false none false none, PK.mk (Ty.int .i64) false none false none]
noncomputable def Zgy (r : (Int × Int × List (Int × Int)) × Int × Int) : Tup Z43 × OutD := ((r.1, ()), some ⟨Ty.pair (Ty.slice (5 : Nat) (Ty.int .u8)) (Ty.pair (Ty.int .i64) (Ty.int .u64)), [([], r.2)]⟩)
noncomputable def Zbu : Tup Z43 × OutD → Option ((Int × Int × List (Int × Int)) × Int × Int)
 | (a, some ⟨u, ys⟩) => if h : u = Ty.pair (Ty.slice (5 : Nat) (Ty.int .u8)) (Ty.pair (Ty.int .i64) (Ty.int .u64)) then (match castU h ys with
  | [([], y)] => some (a.1, y)
  | _ => none) else none
 | _ => none
theorem Zmp : ∀ b r, Zbu b = some r → Zgy r = b := by
 rintro ⟨a, o⟩ r h
 cases o with
 | none => cases h
 | some s =>
  obtain ⟨u, ys⟩ := s
  simp only [Zbu] at h
  split at h
  ·rename_i hu
   subst hu
   match ys, h with
   | [], h => cases (show (none : Option _) = some r from h)
   | [([], y)], h => injection (show some _ = some r from h) with h; subst h; rfl
   | [(_ :: _, y)], h => cases (show (none : Option _) = some r from h)
   | (h1, _) :: _ :: _, h => cases h1 <;> cases (show (none : Option _) = some r from h)
  ·cases h
noncomputable def Z8 : Nat → Int → Int → List Int → Int → Int → List (Int × Int) → Int → Int → List (Int × Int) → Int → Int → Int → Option (Int × Int × List Int × Int × Int × List (Int × Int) × Int × Int × List (Int × Int))
 | 0, _, _, _, _, _, _, _, _, _, _, _, _ => none
 | k + 1, b1_1, b1_2, o2, b3_0, b3_1, o4, b5_0, b5_1, o6, v1, v2, v8 =>
  if decide ((↑(List.length o6) : Int) < wrap64 (v1 * v2)) = true then Option.bind (Zr k (o2, b1_1, b1_2) v8) fun z1 => if Prod.fst z1 = true then Option.bind (Z17 k (o2, Prod.fst z1.2, Prod.snd z1.2)) fun z2 => if decide (Prod.fst z2.1 = (5 : Int)) = true then Option.bind (Zr k (o2, Prod.fst z2.2, Prod.snd z2.2) (3 : Int)) fun z3 => if (!Prod.fst z3) = true then Option.bind (Z0 k (o2, Prod.fst z3.2, Prod.snd z3.2) (2 : Int)) fun z4 => if List.length o6 + List.length [((3 : Int), Prod.fst z4)] ≤ (140737488355328 / 16 : Nat) then Z8 k z4.2.1 z4.2.2 o2 b3_0 b3_1 o4 b5_0 b5_1 (o6 ++ [((3 : Int), Prod.fst z4)]) v1 v2 v8 else none else if List.length o6 + List.length [(Prod.fst z2.1, Prod.snd z2.1)] ≤ (140737488355328 / 16 : Nat) then Z8 k z3.2.1 z3.2.2 o2 b3_0 b3_1 o4 b5_0 b5_1 (o6 ++ [(Prod.fst z2.1, Prod.snd z2.1)]) v1 v2 v8 else none else if List.length o6 + List.length [(Prod.fst z2.1, Prod.snd z2.1)] ≤ (140737488355328 / 16 : Nat) then Z8 k z2.2.1 z2.2.2 o2 b3_0 b3_1 o4 b5_0 b5_1 (o6 ++ [(Prod.fst z2.1, Prod.snd z2.1)]) v1 v2 v8 else none else Option.bind (Zr k (o2, Prod.fst z1.2, Prod.snd z1.2) (3 : Int)) fun z5 => if Prod.fst z5 = true then Option.bind (Z17 k (o2, Prod.fst z5.2, Prod.snd z5.2)) fun z6 => if decide (Prod.fst z6.1 = (5 : Int)) = true then Option.bind (Zr k (o2, Prod.fst z6.2, Prod.snd z6.2) (3 : Int)) fun z7 => if (!Prod.fst z7) = true then Option.bind (Z0 k (o2, Prod.fst z7.2, Prod.snd z7.2) (2 : Int)) fun z8 => if List.length o6 + List.length [((3 : Int), Prod.fst z8)] ≤ (140737488355328 / 16 : Nat) then Z8 k z8.2.1 z8.2.2 o2 b3_0 b3_1 o4 b5_0 b5_1 (o6 ++ [((3 : Int), Prod.fst z8)]) v1 v2 v8 else none else if List.length o6 + List.length [(Prod.fst z6.1, Prod.snd z6.1)] ≤ (140737488355328 / 16 : Nat) then Z8 k z7.2.1 z7.2.2 o2 b3_0 b3_1 o4 b5_0 b5_1 (o6 ++ [(Prod.fst z6.1, Prod.snd z6.1)]) v1 v2 v8 else none else if List.length o6 + List.length [(Prod.fst z6.1, Prod.snd z6.1)] ≤ (140737488355328 / 16 : Nat) then Z8 k z6.2.1 z6.2.2 o2 b3_0 b3_1 o4 b5_0 b5_1 (o6 ++ [(Prod.fst z6.1, Prod.snd z6.1)]) v1 v2 v8 else none else if List.length o6 + List.length [((0 : Int), (0 : Int))] ≤ (140737488355328 / 16 : Nat) then Z8 k z5.2.1 z5.2.2 o2 b3_0 b3_1 o4 b5_0 b5_1 (o6 ++ [((0 : Int), (0 : Int))]) v1 v2 v8 else none else some (b1_1, b1_2, o2, b3_0, b3_1, o4, b5_0, b5_1, o6)
noncomputable def Za0 : Spec := Spec.mk [OSh.ro, OSh.box (82 : Nat) [Sh.sl (2 : Nat), Sh.int .i64, Sh.int .u64], OSh.fx (Ty.int .u8), OSh.box (26 : Nat) [Sh.int .i64, Sh.int .i64, Sh.sl (4 : Nat)], OSh.row true (122 : Nat) (Ty.pair (Ty.int .i64) (Ty.int .i64)), OSh.box (26 : Nat) [Sh.int .i64, Sh.int .i64, Sh.sl (6 : Nat)], OSh.row true (122 : Nat) (Ty.pair (Ty.int .i64) (Ty.int .i64))] [((0 : Nat), TSh.at (Sh.ptr (1 : Nat) (0 : Nat))), ((1 : Nat), TSh.at (Sh.int .i64)), ((2 : Nat), TSh.at (Sh.int .i64)), ((6 : Nat), TSh.at (Sh.ptr (3 : Nat) (0 : Nat))), ((7 : Nat), TSh.at (Sh.ptr (5 : Nat) (0 : Nat))), ((8 : Nat), TSh.at (Sh.int .i64))]
noncomputable def ZnE : Spec := Spec.mk [OSh.ro, OSh.box (82 : Nat) [Sh.sl (2 : Nat), Sh.int .i64, Sh.int .u64], OSh.fx (Ty.int .u8), OSh.box (26 : Nat) [Sh.int .i64, Sh.int .i64, Sh.sl (4 : Nat)], OSh.row true (122 : Nat) (Ty.pair (Ty.int .i64) (Ty.int .i64)), OSh.box (26 : Nat) [Sh.int .i64, Sh.int .i64, Sh.sl (6 : Nat)], OSh.row true (122 : Nat) (Ty.pair (Ty.int .i64) (Ty.int .i64))] [((6 : Nat), TSh.at (Sh.ptr (3 : Nat) (0 : Nat))), ((7 : Nat), TSh.at (Sh.ptr (5 : Nat) (0 : Nat)))]
noncomputable def Z2E : LoopDef (Tup Z43 × OutD) := .plain Za0 ZnE (Int × Int × List Int × Int × Int × List (Int × Int) × Int × Int × List (Int × Int)) (fun k x => Z8 k x.1.2.1.2.1 x.1.2.1.2.2.1 x.1.2.2.1 x.1.2.2.2.1.1 x.1.2.2.2.1.2.1 x.1.2.2.2.2.1 x.1.2.2.2.2.2.1.1 x.1.2.2.2.2.2.1.2.1 x.1.2.2.2.2.2.2.1 x.2.2.1 x.2.2.2.1 x.2.2.2.2.2.2.1) (fun z => (((), ((), z.1, z.2.1, ()), z.2.2.1, (z.2.2.2.1, z.2.2.2.2.1, (), ()), z.2.2.2.2.2.1, (z.2.2.2.2.2.2.1, z.2.2.2.2.2.2.2.1, (), ()), z.2.2.2.2.2.2.2.2, ()), ((), (), ()))) (fun y => (y.1.2.1.2.1, y.1.2.1.2.2.1, y.1.2.2.1, y.1.2.2.2.1.1, y.1.2.2.2.1.2.1, y.1.2.2.2.2.1, y.1.2.2.2.2.2.1.1, y.1.2.2.2.2.2.1.2.1, y.1.2.2.2.2.2.2.1)) (fun _ => rfl)
noncomputable def Z5T : Nat → List Int × Int × Int → Int → Int → Option ((Int × Int × List (Int × Int)) × Int × Int)
 | 0, _, _, _ => none
 | k + 1, p0, p1, p2 =>
  Option.bind (Z5 k (Prod.fst p0, Prod.fst p0.2, Prod.snd p0.2) [(1 : Int), (2 : Int), (2 : Int)]) fun z0 => Option.bind (Z8 k z0.2.1 z0.2.2 p0.1 (0 : Int) (0 : Int) [] p1 p2 [] p1 p2 z0.1) fun z9 => some ((Prod.fst z9.2.2.2.2.2.2, Prod.fst z9.2.2.2.2.2.2.2, Prod.snd z9.2.2.2.2.2.2.2), Prod.fst z9, Prod.fst z9.2)
noncomputable def Z1X : FnDef := .of ZgR Z43 ((Int × Int × List (Int × Int)) × Int × Int) (fun k x => Z5T k x.1 x.2.1 x.2.2.1) Zgy Zbu Zmp
noncomputable def Z8o : Code := Tryz.f95.body.getD .skip
noncomputable def Z2M : Ctx (Tup Z43 × OutD) := { T := T, G := [(72, Zq.E), (97, Z1f.E), (121, Z1M.E), (73, Za.E)], mvs := [], no := 2, n := 51, res := resOf T ZgR Z43 Tryz.f95.results.toList, loops := [(0, Z2E.E)], regs := [], conds := [], cuts := [] }
theorem ZgT (k : Nat) : EnvOK Tryz.prog k Z2M.G := (EnvOK.cons (Z2z k) (EnvOK.cons (Z9y k) (EnvOK.cons (ZeY k) (EnvOK.cons (ZA k) (EnvOK.nil mixed)))))
noncomputable def Z6w : Code := (findLoop 0 Z8o).getD .skip
theorem Znw (k : Nat) (x : Za0.D) : Z2E.lp (k + 1) x = loopK Z2M Z2E 0 Z6w k x := by kernel_rfl
theorem ZnF (k : Nat) : LOK Tryz.prog Z2M k Z6w := LOK.by [] (by kernel_rfl) AllOK.nil
theorem Zo0 (x : Za0.D) : Z2E.lp 0 x = none := by kernel_rfl
theorem ZmQ (k : Nat) : EOK Tryz.prog Z2M k Z2E.E (.block 0 (.loop Z6w)) := Zb T_ok ZgT Zo0 Znw ZnF k
theorem Zsf (k : Nat) (x : Tup Z1X.ps) : Z1X.f (k + 1) x = fnK Z1X Z2M Z8o k x := by kernel_rfl
theorem ZrH (x : Tup Z1X.ps) : Z1X.f 0 x = none := by kernel_rfl
theorem Zs7 (k : Nat) : LOK Tryz.prog Z2M k Z8o := LOK.by [(Z2E.E, .block 0 (.loop Z6w))] (by kernel_rfl) (AllOK.cons (ZmQ k) AllOK.nil)
theorem ZsV (k : Nat) : SoundAt Tryz.prog k 95 Z1X.E := @Z3 Tryz.prog Z1X Z2M 95 Tryz.f95 Z8o (by kernel_rfl) (by kernel_rfl) (by kernel_rfl) Tryz.func95 (by kernel_rfl) (by kernel_rfl) (by kernel_rfl) T_ok ZgT Zs7 ZrH Zsf k
noncomputable def Z8V : List PK := [PK.mk (Ty.slice (67 : Nat) (Ty.pair (Ty.int .i64) (Ty.pair (Ty.int .i64) (Ty.int .i64)))) false none false none, PK.mk (Ty.pair (Ty.int .i64) (Ty.pair (Ty.int .i64) (Ty.slice (122 : Nat) (Ty.pair (Ty.int .i64) (Ty.int .i64))))) true none false none]
noncomputable def Zrj : List PK := [PK.mk (Ty.pair (Ty.int .i64) (Ty.pair (Ty.int .i64) (Ty.slice (122 : Nat) (Ty.pair (Ty.int .i64) (Ty.int .i64))))) true none false none, PK.mk (Ty.slice (3 : Nat) (Ty.int .i64)) false none false none]
noncomputable def Zoq (r : List (Int × Int × Int) × Int × Int × List (Int × Int)) : Tup Z8V × OutD := ((r.1, r.2, ()), none)
noncomputable def Zos : Tup Z8V × OutD → Option (List (Int × Int × Int) × Int × Int × List (Int × Int))
 | (a, none) => some (a.1, a.2.1)
 | _ => none
theorem ZwW : ∀ b r, Zos b = some r → Zoq r = b := by
 rintro ⟨a, o⟩ r h
 cases o with
 | none => injection h with h; subst h; rfl
 | some _ => cases h
noncomputable def Z6K : Nat → Int → Int → List (Int × Int) → Int → Int → List (Int × Int) → List Int → List (Int × Int × Int) → List Int → Int → Int → Option (Int × Int × List (Int × Int) × Int × Int × List (Int × Int) × List (Int × Int × Int))
 | 0, _, _, _, _, _, _, _, _, _, _, _ => none
 | k + 1, b1_0, b1_1, o2, b3_0, b3_1, o4, o5, o6, v18, v19, v20 =>
  if decide (v20 < v19) = true then if (0 : Int) ≤ v20 then if v20 < (↑(List.length v18) : Int) then Option.bind (ZiT k (b3_0, b3_1, o4) o5 (List.getD v18 (Int.toNat v20) (0 : Int))) fun z2 => if List.length o6 + List.length [(Prod.fst z2.1, Prod.fst z2.1.2, Prod.snd z2.1.2)] ≤ (140737488355328 / 24 : Nat) then Z6K k b1_0 b1_1 o2 b3_0 b3_1 z2.2.2 o5 (o6 ++ [(Prod.fst z2.1, Prod.fst z2.1.2, Prod.snd z2.1.2)]) v18 v19 (wrap64 (v20 + (1 : Int))) else none else none else none else some (b1_0, b1_1, o2, b3_0, b3_1, o4, o6)
noncomputable def ZeJ : Spec := Spec.mk [OSh.ro, OSh.box (26 : Nat) [Sh.int .i64, Sh.int .i64, Sh.sl (2 : Nat)], OSh.row true (122 : Nat) (Ty.pair (Ty.int .i64) (Ty.int .i64)), OSh.box (26 : Nat) [Sh.int .i64, Sh.int .i64, Sh.sl (4 : Nat)], OSh.row true (122 : Nat) (Ty.pair (Ty.int .i64) (Ty.int .i64)), OSh.row true (3 : Nat) (Ty.int .i64), OSh.row true (67 : Nat) (Ty.pair (Ty.int .i64) (Ty.pair (Ty.int .i64) (Ty.int .i64)))] [((5 : Nat), TSh.at (Sh.ptr (1 : Nat) (0 : Nat))), ((6 : Nat), TSh.at (Sh.ptr (3 : Nat) (0 : Nat))), ((7 : Nat), TSh.at (Sh.sl (5 : Nat))), ((8 : Nat), TSh.at (Sh.sl (6 : Nat))), ((18 : Nat), TSh.at (Sh.snap (0 : Nat) (Ty.int .i64))), ((19 : Nat), TSh.at (Sh.int .i64)), ((20 : Nat), TSh.at (Sh.int .i64))]
noncomputable def Zym : Spec := Spec.mk [OSh.ro, OSh.box (26 : Nat) [Sh.int .i64, Sh.int .i64, Sh.sl (2 : Nat)], OSh.row true (122 : Nat) (Ty.pair (Ty.int .i64) (Ty.int .i64)), OSh.box (26 : Nat) [Sh.int .i64, Sh.int .i64, Sh.sl (4 : Nat)], OSh.row true (122 : Nat) (Ty.pair (Ty.int .i64) (Ty.int .i64)), OSh.row true (67 : Nat) (Ty.pair (Ty.int .i64) (Ty.pair (Ty.int .i64) (Ty.int .i64)))] [((5 : Nat), TSh.at (Sh.ptr (1 : Nat) (0 : Nat))), ((6 : Nat), TSh.at (Sh.ptr (3 : Nat) (0 : Nat))), ((8 : Nat), TSh.at (Sh.sl (5 : Nat)))]
noncomputable def Z6h : LoopDef (Tup Z8V × OutD) := .plain ZeJ Zym (Int × Int × List (Int × Int) × Int × Int × List (Int × Int) × List (Int × Int × Int)) (fun k x => Z6K k x.1.2.1.1 x.1.2.1.2.1 x.1.2.2.1 x.1.2.2.2.1.1 x.1.2.2.2.1.2.1 x.1.2.2.2.2.1 x.1.2.2.2.2.2.1 x.1.2.2.2.2.2.2.1 x.2.2.2.2.2.1 x.2.2.2.2.2.2.1 x.2.2.2.2.2.2.2.1) (fun z => (((), (z.1, z.2.1, (), ()), z.2.2.1, (z.2.2.2.1, z.2.2.2.2.1, (), ()), z.2.2.2.2.2.1, z.2.2.2.2.2.2, ()), ((), (), (), ()))) (fun y => (y.1.2.1.1, y.1.2.1.2.1, y.1.2.2.1, y.1.2.2.2.1.1, y.1.2.2.2.1.2.1, y.1.2.2.2.2.1, y.1.2.2.2.2.2.1)) (fun _ => rfl)
noncomputable def Zei : Nat → Int × Int × List (Int × Int) → List Int → Option (List (Int × Int × Int) × Int × Int × List (Int × Int))
 | 0, _, _ => none
 | k + 1, p0, p1 =>
  Option.bind (Z9r k (Prod.fst p0, Prod.fst p0.2, Prod.snd p0.2)) fun z0 => Option.bind (Z6z k (Prod.fst p0, Prod.fst p0.2, Prod.snd p0.2)) fun z1 => Option.bind (Z6K k (0 : Int) (0 : Int) [] z0.1 z0.2.1 z0.2.2 z1 [] p1 (↑(List.length p1) : Int) (0 : Int)) fun z3 => some (Prod.snd z3.2.2.2.2.2, Prod.fst z3.2.2.2, Prod.fst z3.2.2.2.2, Prod.fst z3.2.2.2.2.2)
noncomputable def Z5l : FnDef := .of Zrj Z8V (List (Int × Int × Int) × Int × Int × List (Int × Int)) (fun k x => Zei k x.1 x.2.1) Zoq Zos ZwW
noncomputable def Zef : Code := Tryz.f102.body.getD .skip
noncomputable def Z7e : Ctx (Tup Z8V × OutD) := { T := T, G := [(116, Z2G.E), (117, Z1z.E), (127, Z8M.E)], mvs := [], no := 0, n := 38, res := resOf T Zrj Z8V Tryz.f102.results.toList, loops := [(0, Z6h.E)], regs := [], conds := [], cuts := [] }
theorem Zqb (k : Nat) : EnvOK Tryz.prog k Z7e.G := (EnvOK.cons (ZlV k) (EnvOK.cons (Zib k) (EnvOK.cons (ZGM k) (EnvOK.nil mixed))))
noncomputable def Zb4 : Code := (findLoop 0 Zef).getD .skip
theorem Zye (k : Nat) (x : ZeJ.D) : Z6h.lp (k + 1) x = loopK Z7e Z6h 0 Zb4 k x := by kernel_rfl
theorem Zy2 (k : Nat) : LOK Tryz.prog Z7e k Zb4 := LOK.by [] (by kernel_rfl) AllOK.nil
theorem ZxL (x : ZeJ.D) : Z6h.lp 0 x = none := by kernel_rfl
theorem ZvR (k : Nat) : EOK Tryz.prog Z7e k Z6h.E (.block 0 (.loop Zb4)) := Zb T_ok Zqb ZxL Zye Zy2 k
theorem ZCY (k : Nat) (x : Tup Z5l.ps) : Z5l.f (k + 1) x = fnK Z5l Z7e Zef k x := by kernel_rfl
theorem ZDp (x : Tup Z5l.ps) : Z5l.f 0 x = none := by kernel_rfl
theorem ZCX (k : Nat) : LOK Tryz.prog Z7e k Zef := LOK.by [(Z6h.E, .block 0 (.loop Zb4))] (by kernel_rfl) (AllOK.cons (ZvR k) AllOK.nil)
theorem ZCL (k : Nat) : SoundAt Tryz.prog k 102 Z5l.E := @Z3 Tryz.prog Z5l Z7e 102 Tryz.f102 Zef (by kernel_rfl) (by kernel_rfl) (by kernel_rfl) Tryz.func102 (by kernel_rfl) (by kernel_rfl) (by kernel_rfl) T_ok Zqb ZCX ZDp ZCY k
noncomputable def Zbz : List PK := [PK.mk Ty.bool false none false none]
noncomputable def Zr1 : List PK := [PK.mk (Ty.pair (Ty.int .i64) (Ty.pair (Ty.int .i64) (Ty.slice (122 : Nat) (Ty.pair (Ty.int .i64) (Ty.int .i64))))) true none false none, PK.mk (Ty.int .i64) false none false none, PK.mk (Ty.int .i64) false none false none]
noncomputable def Zol (r : Bool) : Tup Zbz × OutD := ((r, ()), none)
noncomputable def Zoz : Tup Zbz × OutD → Option (Bool)
 | (a, none) => some (a.1)
 | _ => none
theorem ZvU : ∀ b r, Zoz b = some r → Zol r = b := by
 rintro ⟨a, o⟩ r h
 cases o with
 | none => injection h with h; subst h; rfl
 | some _ => cases h
noncomputable def Ze8 : Nat → Int × Int × List (Int × Int) → Int → Int → Option Bool
 | 0, _, _, _ => none
 | k + 1, p0, p1, p2 =>
  Option.bind (Z6Z k (Prod.fst p0, Prod.fst p0.2, Prod.snd p0.2)) fun z0 => if z0 = true then if decide (p1 ≥ (0 : Int)) = true then if decide (p1 < Prod.fst p0) = true then if decide (p2 ≥ (0 : Int)) = true then some (decide (p2 < Prod.fst p0.2)) else some false else some false else some false else some false
noncomputable def Z5o : FnDef := .of Zr1 Zbz (Bool) (fun k x => Ze8 k x.1 x.2.1 x.2.2.1) Zol Zoz ZvU
noncomputable def ZiD : Code := Tryz.f104.body.getD .skip
noncomputable def Zen : Ctx (Tup Zbz × OutD) := { T := T, G := [(83, Z2u.E)], mvs := [], no := 0, n := 29, res := resOf T Zr1 Zbz Tryz.f104.results.toList, loops := [], regs := [], conds := [], cuts := [] }
theorem ZCM (k : Nat) : EnvOK Tryz.prog k Zen.G := (EnvOK.cons (Zeb k) (EnvOK.nil mixed))
theorem ZDy (k : Nat) (x : Tup Z5o.ps) : Z5o.f (k + 1) x = fnK Z5o Zen ZiD k x := by kernel_rfl
theorem ZCQ (x : Tup Z5o.ps) : Z5o.f 0 x = none := by kernel_rfl
theorem ZDM (k : Nat) : LOK Tryz.prog Zen k ZiD := LOK.by [] (by kernel_rfl) AllOK.nil
theorem ZD8 (k : Nat) : SoundAt Tryz.prog k 104 Z5o.E := @Z3 Tryz.prog Z5o Zen 104 Tryz.f104 ZiD (by kernel_rfl) (by kernel_rfl) (by kernel_rfl) Tryz.func104 (by kernel_rfl) (by kernel_rfl) (by kernel_rfl) T_ok ZCM ZDM ZCQ ZDy k
noncomputable def Z5Q : List PK := [PK.mk (Ty.pair (Ty.int .i64) (Ty.int .i64)) true none false none]
noncomputable def ZgU : List PK := [PK.mk (Ty.pair (Ty.slice (5 : Nat) (Ty.int .u8)) (Ty.pair (Ty.int .i64) (Ty.int .u64))) false none false (some (82 : Nat))]
noncomputable def Zgj (r : (Int × Int) × Int × Int) : Tup Z5Q × OutD := ((r.1, ()), some ⟨Ty.pair (Ty.slice (5 : Nat) (Ty.int .u8)) (Ty.pair (Ty.int .i64) (Ty.int .u64)), [([], r.2)]⟩)
noncomputable def ZbF : Tup Z5Q × OutD → Option ((Int × Int) × Int × Int)
 | (a, some ⟨u, ys⟩) => if h : u = Ty.pair (Ty.slice (5 : Nat) (Ty.int .u8)) (Ty.pair (Ty.int .i64) (Ty.int .u64)) then (match castU h ys with
  | [([], y)] => some (a.1, y)
  | _ => none) else none
 | _ => none
theorem Zmk : ∀ b r, ZbF b = some r → Zgj r = b := by
 rintro ⟨a, o⟩ r h
 cases o with
 | none => cases h
 | some s =>
  obtain ⟨u, ys⟩ := s
  simp only [ZbF] at h
  split at h
  ·rename_i hu
   subst hu
   match ys, h with
   | [], h => cases (show (none : Option _) = some r from h)
   | [([], y)], h => injection (show some _ = some r from h) with h; subst h; rfl
   | [(_ :: _, y)], h => cases (show (none : Option _) = some r from h)
   | (h1, _) :: _ :: _, h => cases h1 <;> cases (show (none : Option _) = some r from h)
  ·cases h
noncomputable def Z1l : Nat → List Int × Int × Int → Option ((Int × Int) × Int × Int)
 | 0, _ => none
 | k + 1, p0 =>
  Option.bind (Z17 k (Prod.fst p0, Prod.fst p0.2, Prod.snd p0.2)) fun z0 => Option.bind (Z0 k (Prod.fst p0, Prod.fst z0.2, Prod.snd z0.2) (20 : Int)) fun z1 => if decide (Prod.fst z1 = (0 : Int)) = true then Option.bind (Z5 k (Prod.fst p0, Prod.fst z1.2, Prod.snd z1.2) [(-1 : Int), (8 : Int)]) fun z2 => some ((Prod.fst z2, Prod.snd z0.1), Prod.fst z2.2, Prod.snd z2.2) else if decide (Prod.fst z1 = (1 : Int)) = true then Option.bind (Z5 k (Prod.fst p0, Prod.fst z1.2, Prod.snd z1.2) [(-1 : Int), (1 : Int), (2 : Int)]) fun z3 => some ((Prod.fst z0.1, Prod.fst z3), Prod.fst z3.2, Prod.snd z3.2) else some ((Prod.fst z0.1, Prod.snd z0.1), Prod.fst z1.2, Prod.snd z1.2)
noncomputable def Z1Y : FnDef := .of ZgU Z5Q ((Int × Int) × Int × Int) (fun k x => Z1l k x.1) Zgj ZbF Zmk
noncomputable def ZbU : Code := Tryz.f123.body.getD .skip
noncomputable def Z8q : Ctx (Tup Z5Q × OutD) := { T := T, G := [(121, Z1M.E), (73, Za.E), (72, Zq.E)], mvs := [], no := 2, n := 21, res := resOf T ZgU Z5Q Tryz.f123.results.toList, loops := [], regs := [], conds := [], cuts := [] }
theorem Zsy (k : Nat) : EnvOK Tryz.prog k Z8q.G := (EnvOK.cons (ZeY k) (EnvOK.cons (ZA k) (EnvOK.cons (Z2z k) (EnvOK.nil mixed))))
theorem ZrI (k : Nat) (x : Tup Z1Y.ps) : Z1Y.f (k + 1) x = fnK Z1Y Z8q ZbU k x := by kernel_rfl
theorem ZrZ (x : Tup Z1Y.ps) : Z1Y.f 0 x = none := by kernel_rfl
theorem ZrD (k : Nat) : LOK Tryz.prog Z8q k ZbU := LOK.by [] (by kernel_rfl) AllOK.nil
theorem ZrQ (k : Nat) : SoundAt Tryz.prog k 123 Z1Y.E := @Z3 Tryz.prog Z1Y Z8q 123 Tryz.f123 ZbU (by kernel_rfl) (by kernel_rfl) (by kernel_rfl) Tryz.func123 (by kernel_rfl) (by kernel_rfl) (by kernel_rfl) T_ok Zsy ZrD ZrZ ZrI k
end
end Go.Proofs.YtglkedenkcpcbaaGreatDoor.Vs

set_option maxRecDepth 100000
set_option maxHeartbeats 2000000
set_option linter.unusedVariables false
set_option linter.unusedSimpArgs false
namespace Go.Proofs.YtglkedenkcpcbaaGreatDoor.Vs
open Go.RowKit
noncomputable section
noncomputable def Z9e : List PK := [PK.mk Ty.str false none false none, PK.mk Ty.bool false none false none]
noncomputable def Zlm : List PK := [PK.mk (Ty.pair (Ty.int .i64) (Ty.pair (Ty.int .i64) (Ty.int .i64))) true none false none]
noncomputable def Zk4 (r : ByteArray × Bool) : Tup Z9e × OutD := ((r.1, r.2, ()), none)
noncomputable def Zks : Tup Z9e × OutD → Option (ByteArray × Bool)
 | (a, none) => some (a.1, a.2.1)
 | _ => none
theorem ZrP : ∀ b r, Zks b = some r → Zk4 r = b := by
 rintro ⟨a, o⟩ r h
 cases o with
 | none => injection h with h; subst h; rfl
 | some _ => cases h
noncomputable def Z3I : Nat → Int × Int × Int → Option (ByteArray × Bool)
 | 0, _ => none
 | k + 1, p0 =>
  if decide (Prod.fst p0 < (1 : Int)) = true then some (ByteArray.mk #[], false) else if decide (Prod.fst p0 > (3 : Int)) = true then some (ByteArray.mk #[], false) else if decide (Prod.fst p0.2 < (0 : Int)) = true then some (ByteArray.mk #[], false) else if decide (Prod.fst p0.2 > (9 : Int)) = true then some (ByteArray.mk #[], false) else if decide (Prod.snd p0.2 < (0 : Int)) = true then some (ByteArray.mk #[], false) else if decide (Prod.snd p0.2 > (9 : Int)) = true then some (ByteArray.mk #[], false) else if (0 : Int) ≤ wrap64 (Prod.fst p0 - (1 : Int)) then if wrap64 (Prod.fst p0 - (1 : Int)) < (↑(3 : Nat) : Int) then if Int.toNat (wrap64 (Prod.fst p0 - (1 : Int))) < List.length [ByteArray.mk #[(115 : UInt8), (116 : UInt8), (117 : UInt8), (99 : UInt8), (107 : UInt8)], ByteArray.mk #[(104 : UInt8), (111 : UInt8), (108 : UInt8), (101 : UInt8)], ByteArray.mk #[(116 : UInt8), (117 : UInt8), (114 : UInt8), (110 : UInt8), (101 : UInt8), (100 : UInt8)]] then if ByteArray.size (List.getD [ByteArray.mk #[(115 : UInt8), (116 : UInt8), (117 : UInt8), (99 : UInt8), (107 : UInt8)], ByteArray.mk #[(104 : UInt8), (111 : UInt8), (108 : UInt8), (101 : UInt8)], ByteArray.mk #[(116 : UInt8), (117 : UInt8), (114 : UInt8), (110 : UInt8), (101 : UInt8), (100 : UInt8)]] (Int.toNat (wrap64 (Prod.fst p0 - (1 : Int)))) (ByteArray.mk #[])) + ByteArray.size (ByteArray.mk #[(32 : UInt8), (97 : UInt8), (116 : UInt8), (32 : UInt8)]) ≤ (9223372036854775807 : Nat) then Option.bind (Z8U k p0.2.1) fun z0 => if ByteArray.size (List.getD [ByteArray.mk #[(115 : UInt8), (116 : UInt8), (117 : UInt8), (99 : UInt8), (107 : UInt8)], ByteArray.mk #[(104 : UInt8), (111 : UInt8), (108 : UInt8), (101 : UInt8)], ByteArray.mk #[(116 : UInt8), (117 : UInt8), (114 : UInt8), (110 : UInt8), (101 : UInt8), (100 : UInt8)]] (Int.toNat (wrap64 (Prod.fst p0 - (1 : Int)))) (ByteArray.mk #[]) ++ ByteArray.mk #[(32 : UInt8), (97 : UInt8), (116 : UInt8), (32 : UInt8)]) + ByteArray.size z0 ≤ (9223372036854775807 : Nat) then if ByteArray.size (List.getD [ByteArray.mk #[(115 : UInt8), (116 : UInt8), (117 : UInt8), (99 : UInt8), (107 : UInt8)], ByteArray.mk #[(104 : UInt8), (111 : UInt8), (108 : UInt8), (101 : UInt8)], ByteArray.mk #[(116 : UInt8), (117 : UInt8), (114 : UInt8), (110 : UInt8), (101 : UInt8), (100 : UInt8)]] (Int.toNat (wrap64 (Prod.fst p0 - (1 : Int)))) (ByteArray.mk #[]) ++ ByteArray.mk #[(32 : UInt8), (97 : UInt8), (116 : UInt8), (32 : UInt8)] ++ z0) + ByteArray.size (ByteArray.mk #[(44 : UInt8)]) ≤ (9223372036854775807 : Nat) then Option.bind (Z8U k p0.2.2) fun z1 => if ByteArray.size (List.getD [ByteArray.mk #[(115 : UInt8), (116 : UInt8), (117 : UInt8), (99 : UInt8), (107 : UInt8)], ByteArray.mk #[(104 : UInt8), (111 : UInt8), (108 : UInt8), (101 : UInt8)], ByteArray.mk #[(116 : UInt8), (117 : UInt8), (114 : UInt8), (110 : UInt8), (101 : UInt8), (100 : UInt8)]] (Int.toNat (wrap64 (Prod.fst p0 - (1 : Int)))) (ByteArray.mk #[]) ++ ByteArray.mk #[(32 : UInt8), (97 : UInt8), (116 : UInt8), (32 : UInt8)] ++ z0 ++ ByteArray.mk #[(44 : UInt8)]) + ByteArray.size z1 ≤ (9223372036854775807 : Nat) then some (List.getD [ByteArray.mk #[(115 : UInt8), (116 : UInt8), (117 : UInt8), (99 : UInt8), (107 : UInt8)], ByteArray.mk #[(104 : UInt8), (111 : UInt8), (108 : UInt8), (101 : UInt8)], ByteArray.mk #[(116 : UInt8), (117 : UInt8), (114 : UInt8), (110 : UInt8), (101 : UInt8), (100 : UInt8)]] (Int.toNat (wrap64 (Prod.fst p0 - (1 : Int)))) (ByteArray.mk #[]) ++ ByteArray.mk #[(32 : UInt8), (97 : UInt8), (116 : UInt8), (32 : UInt8)] ++ z0 ++ ByteArray.mk #[(44 : UInt8)] ++ z1, true) else none else none else none else none else none else none else none
noncomputable def Z2I : FnDef := .of Zlm Z9e (ByteArray × Bool) (fun k x => Z3I k x.1) Zk4 Zks ZrP
noncomputable def Zgf : Code := Tryz.f18.body.getD .skip
noncomputable def Zcl : Ctx (Tup Z9e × OutD) := { T := T, G := [(56, Z5b.E)], mvs := [], no := 0, n := 47, res := resOf T Zlm Z9e Tryz.f18.results.toList, loops := [], regs := [], conds := [], cuts := [] }
theorem ZAv (k : Nat) : EnvOK Tryz.prog k Zcl.G := (EnvOK.cons (ZDs k) (EnvOK.nil mixed))
theorem ZzN (k : Nat) (x : Tup Z2I.ps) : Z2I.f (k + 1) x = fnK Z2I Zcl Zgf k x := by kernel_rfl
theorem ZzG (x : Tup Z2I.ps) : Z2I.f 0 x = none := by kernel_rfl
theorem ZBa (k : Nat) : LOK Tryz.prog Zcl k Zgf := LOK.by [] (by kernel_rfl) AllOK.nil
theorem ZlY (k : Nat) : SoundAt Tryz.prog k 18 Z2I.E := @Z3 Tryz.prog Z2I Zcl 18 Tryz.f18 Zgf (by kernel_rfl) (by kernel_rfl) (by kernel_rfl) Tryz.func18 (by kernel_rfl) (by kernel_rfl) (by kernel_rfl) T_ok ZAv ZBa ZzG ZzN k
noncomputable def Z5d : List PK := [PK.mk (Ty.slice (42 : Nat) (Ty.pair (Ty.int .i64) (Ty.pair (Ty.int .i64) (Ty.int .i64)))) false none false none, PK.mk Ty.bool false none false none]
noncomputable def Zgt : List PK := [PK.mk (Ty.pair (Ty.int .i64) (Ty.pair (Ty.int .i64) (Ty.slice (122 : Nat) (Ty.pair (Ty.int .i64) (Ty.int .i64))))) true none false none]
noncomputable def Zfc (r : List (Int × Int × Int) × Bool) : Tup Z5d × OutD := ((r.1, r.2, ()), none)
noncomputable def Zf9 : Tup Z5d × OutD → Option (List (Int × Int × Int) × Bool)
 | (a, none) => some (a.1, a.2.1)
 | _ => none
theorem ZkE : ∀ b r, Zf9 b = some r → Zfc r = b := by
 rintro ⟨a, o⟩ r h
 cases o with
 | none => injection h with h; subst h; rfl
 | some _ => cases h
noncomputable def Z53 : Nat → Int × Int × List (Int × Int) → Option (List (Int × Int × Int) × Bool)
 | 0, _ => none
 | k + 1, p0 =>
  Option.bind (Z6Z k (Prod.fst p0, Prod.fst p0.2, Prod.snd p0.2)) fun z0 => if (!z0) = true then some ([], false) else Option.bind (Z3u k (Prod.fst p0, Prod.fst p0.2, Prod.snd p0.2)) fun z1 => some (z1, true)
noncomputable def Z1G : FnDef := .of Zgt Z5d (List (Int × Int × Int) × Bool) (fun k x => Z53 k x.1) Zfc Zf9 ZkE
noncomputable def ZbG : Code := Tryz.f38.body.getD .skip
noncomputable def Z7Y : Ctx (Tup Z5d × OutD) := { T := T, G := [(83, Z2u.E), (63, ZU.E)], mvs := [], no := 0, n := 9, res := resOf T Zgt Z5d Tryz.f38.results.toList, loops := [], regs := [], conds := [], cuts := [] }
theorem Zr6 (k : Nat) : EnvOK Tryz.prog k Z7Y.G := (EnvOK.cons (Zeb k) (EnvOK.cons (Zbw k) (EnvOK.nil mixed)))
theorem Zr3 (k : Nat) (x : Tup Z1G.ps) : Z1G.f (k + 1) x = fnK Z1G Z7Y ZbG k x := by kernel_rfl
theorem ZqT (x : Tup Z1G.ps) : Z1G.f 0 x = none := by kernel_rfl
theorem Zqf (k : Nat) : LOK Tryz.prog Z7Y k ZbG := LOK.by [] (by kernel_rfl) AllOK.nil
theorem Zqi (k : Nat) : SoundAt Tryz.prog k 38 Z1G.E := @Z3 Tryz.prog Z1G Z7Y 38 Tryz.f38 ZbG (by kernel_rfl) (by kernel_rfl) (by kernel_rfl) Tryz.func38 (by kernel_rfl) (by kernel_rfl) (by kernel_rfl) T_ok Zr6 Zqf ZqT Zr3 k
noncomputable def Zbk : List PK := [PK.mk (Ty.slice (67 : Nat) (Ty.pair (Ty.int .i64) (Ty.pair (Ty.int .i64) (Ty.int .i64)))) false none false none, PK.mk (Ty.pair (Ty.int .i64) (Ty.pair (Ty.int .i64) (Ty.slice (122 : Nat) (Ty.pair (Ty.int .i64) (Ty.int .i64))))) true none false none, PK.mk Ty.bool false none false none]
noncomputable def ZqU : List PK := [PK.mk (Ty.pair (Ty.int .i64) (Ty.pair (Ty.int .i64) (Ty.slice (122 : Nat) (Ty.pair (Ty.int .i64) (Ty.int .i64))))) true none false none, PK.mk (Ty.slice (3 : Nat) (Ty.int .i64)) false none false none]
noncomputable def ZoU (r : List (Int × Int × Int) × (Int × Int × List (Int × Int)) × Bool) : Tup Zbk × OutD := ((r.1, r.2.1, r.2.2, ()), none)
noncomputable def ZoV : Tup Zbk × OutD → Option (List (Int × Int × Int) × (Int × Int × List (Int × Int)) × Bool)
 | (a, none) => some (a.1, a.2.1, a.2.2.1)
 | _ => none
theorem Zwq : ∀ b r, ZoV b = some r → ZoU r = b := by
 rintro ⟨a, o⟩ r h
 cases o with
 | none => injection h with h; subst h; rfl
 | some _ => cases h
noncomputable def Z8S : Nat → Int × Int × List (Int × Int) → List Int → Option (List (Int × Int × Int) × (Int × Int × List (Int × Int)) × Bool)
 | 0, _, _ => none
 | k + 1, p0, p1 =>
  Option.bind (Z3G k (Prod.fst p0, Prod.fst p0.2, Prod.snd p0.2) p1) fun z0 => if (!z0) = true then some ([], ((0 : Int), (0 : Int), []), false) else Option.bind (Ze0 k (Prod.fst p0, Prod.fst p0.2, Prod.snd p0.2) p1) fun z1 => some (Prod.fst z1, (Prod.fst z1.2, Prod.fst z1.2.2, Prod.snd z1.2.2), true)
noncomputable def Z58 : FnDef := .of ZqU Zbk (List (Int × Int × Int) × (Int × Int × List (Int × Int)) × Bool) (fun k x => Z8S k x.1 x.2.1) ZoU ZoV Zwq
noncomputable def ZiN : Code := Tryz.f41.body.getD .skip
noncomputable def Zet : Ctx (Tup Zbk × OutD) := { T := T, G := [(65, Z1h.E), (85, Z5L.E)], mvs := [], no := 0, n := 22, res := resOf T ZqU Zbk Tryz.f41.results.toList, loops := [], regs := [], conds := [], cuts := [] }
theorem ZD5 (k : Nat) : EnvOK Tryz.prog k Zet.G := (EnvOK.cons (Z99 k) (EnvOK.cons (ZvW k) (EnvOK.nil mixed)))
theorem ZCP (k : Nat) (x : Tup Z58.ps) : Z58.f (k + 1) x = fnK Z58 Zet ZiN k x := by kernel_rfl
theorem ZDk (x : Tup Z58.ps) : Z58.f 0 x = none := by kernel_rfl
theorem ZDG (k : Nat) : LOK Tryz.prog Zet k ZiN := LOK.by [] (by kernel_rfl) AllOK.nil
theorem ZDA (k : Nat) : SoundAt Tryz.prog k 41 Z58.E := @Z3 Tryz.prog Z58 Zet 41 Tryz.f41 ZiN (by kernel_rfl) (by kernel_rfl) (by kernel_rfl) Tryz.func41 (by kernel_rfl) (by kernel_rfl) (by kernel_rfl) T_ok ZD5 ZDG ZDk ZCP k
noncomputable def Z7E : List PK := [PK.mk (Ty.slice (67 : Nat) (Ty.pair (Ty.int .i64) (Ty.pair (Ty.int .i64) (Ty.int .i64)))) false none false none, PK.mk (Ty.pair (Ty.int .i64) (Ty.pair (Ty.int .i64) (Ty.slice (122 : Nat) (Ty.pair (Ty.int .i64) (Ty.int .i64))))) true none false none, PK.mk Ty.bool false none false none]
noncomputable def Zj1 : List PK := [PK.mk (Ty.pair (Ty.int .i64) (Ty.pair (Ty.int .i64) (Ty.slice (122 : Nat) (Ty.pair (Ty.int .i64) (Ty.int .i64))))) true none false none, PK.mk (Ty.slice (42 : Nat) (Ty.pair (Ty.int .i64) (Ty.pair (Ty.int .i64) (Ty.int .i64)))) false none false none, PK.mk (Ty.slice (3 : Nat) (Ty.int .i64)) false none false none]
noncomputable def Zi3 (r : List (Int × Int × Int) × (Int × Int × List (Int × Int)) × Bool) : Tup Z7E × OutD := ((r.1, r.2.1, r.2.2, ()), none)
noncomputable def ZhY : Tup Z7E × OutD → Option (List (Int × Int × Int) × (Int × Int × List (Int × Int)) × Bool)
 | (a, none) => some (a.1, a.2.1, a.2.2.1)
 | _ => none
theorem Zpv : ∀ b r, ZhY b = some r → Zi3 r = b := by
 rintro ⟨a, o⟩ r h
 cases o with
 | none => injection h with h; subst h; rfl
 | some _ => cases h
noncomputable def Z52 : Nat → Int × Int × List (Int × Int) → List (Int × Int × Int) → List Int → Option (List (Int × Int × Int) × (Int × Int × List (Int × Int)) × Bool)
 | 0, _, _, _ => none
 | k + 1, p0, p1, p2 =>
  Option.bind (Z3G k (Prod.fst p0, Prod.fst p0.2, Prod.snd p0.2) p2) fun z0 => if (!z0) = true then some ([], ((0 : Int), (0 : Int), []), false) else Option.bind (ZcP k (Prod.fst p0, Prod.fst p0.2, Prod.snd p0.2) p1) fun z1 => if (!z1) = true then some ([], ((0 : Int), (0 : Int), []), false) else Option.bind (ZdW k (Prod.fst p0, Prod.fst p0.2, Prod.snd p0.2) p1 p2) fun z2 => some (Prod.fst z2, (Prod.fst z2.2, Prod.fst z2.2.2, Prod.snd z2.2.2), true)
noncomputable def Z2w : FnDef := .of Zj1 Z7E (List (Int × Int × Int) × (Int × Int × List (Int × Int)) × Bool) (fun k x => Z52 k x.1 x.2.1 x.2.2.1) Zi3 ZhY Zpv
noncomputable def ZdN : Code := Tryz.f42.body.getD .skip
noncomputable def Zal : Ctx (Tup Z7E × OutD) := { T := T, G := [(65, Z1h.E), (70, Z4G.E), (86, Z5N.E)], mvs := [], no := 0, n := 31, res := resOf T Zj1 Z7E Tryz.f42.results.toList, loops := [], regs := [], conds := [], cuts := [] }
theorem Zvu (k : Nat) : EnvOK Tryz.prog k Zal.G := (EnvOK.cons (Z99 k) (EnvOK.cons (Zti k) (EnvOK.cons (ZvY k) (EnvOK.nil mixed))))
theorem ZwS (k : Nat) (x : Tup Z2w.ps) : Z2w.f (k + 1) x = fnK Z2w Zal ZdN k x := by kernel_rfl
theorem ZvA (x : Tup Z2w.ps) : Z2w.f 0 x = none := by kernel_rfl
theorem Zwr (k : Nat) : LOK Tryz.prog Zal k ZdN := LOK.by [] (by kernel_rfl) AllOK.nil
theorem Zvw (k : Nat) : SoundAt Tryz.prog k 42 Z2w.E := @Z3 Tryz.prog Z2w Zal 42 Tryz.f42 ZdN (by kernel_rfl) (by kernel_rfl) (by kernel_rfl) Tryz.func42 (by kernel_rfl) (by kernel_rfl) (by kernel_rfl) T_ok Zvu Zwr ZvA ZwS k
noncomputable def Z6L : List PK := [PK.mk (Ty.int .i64) false none false none]
noncomputable def Zn5 : List PK := [PK.mk (Ty.pair (Ty.int .i64) (Ty.pair (Ty.int .i64) (Ty.slice (122 : Nat) (Ty.pair (Ty.int .i64) (Ty.int .i64))))) true none false none, PK.mk (Ty.slice (42 : Nat) (Ty.pair (Ty.int .i64) (Ty.pair (Ty.int .i64) (Ty.int .i64)))) false none false none, PK.mk (Ty.slice (3 : Nat) (Ty.int .i64)) false none false none]
noncomputable def ZeN (r : Int) : Tup Z6L × OutD := ((r, ()), none)
noncomputable def ZeX : Tup Z6L × OutD → Option (Int)
 | (a, none) => some (a.1)
 | _ => none
theorem ZhI : ∀ b r, ZeX b = some r → ZeN r = b := by
 rintro ⟨a, o⟩ r h
 cases o with
 | none => injection h with h; subst h; rfl
 | some _ => cases h
noncomputable def Z5f : Nat → List (Int × Int × Int) → List (Int × Int × Int) → Int → Int → Option (LR Unit Int)
 | 0, _, _, _, _ => none
 | k + 1, o1, o2, v26, v27 =>
  if decide (v27 < v26) = true then if (0 : Int) ≤ v27 then if v27 < (↑(List.length o1) : Int) then if (0 : Int) ≤ v27 then if v27 < (↑(List.length o2) : Int) then if (!(decide (Prod.fst (List.getD o1 (Int.toNat v27) ((0 : Int), (0 : Int), (0 : Int))) = Prod.fst (List.getD o2 (Int.toNat v27) ((0 : Int), (0 : Int), (0 : Int)))) && (decide (Prod.fst (Prod.snd (List.getD o1 (Int.toNat v27) ((0 : Int), (0 : Int), (0 : Int)))) = Prod.fst (Prod.snd (List.getD o2 (Int.toNat v27) ((0 : Int), (0 : Int), (0 : Int))))) && (decide (Prod.snd (Prod.snd (List.getD o1 (Int.toNat v27) ((0 : Int), (0 : Int), (0 : Int)))) = Prod.snd (Prod.snd (List.getD o2 (Int.toNat v27) ((0 : Int), (0 : Int), (0 : Int))))) && true)))) = true then some (LR.ret v27) else Z5f k o1 o2 v26 (wrap64 (v27 + (1 : Int))) else none else none else none else none else some (LR.go ())
noncomputable def Zd8 : Spec := Spec.mk [OSh.ro, OSh.row true (67 : Nat) (Ty.pair (Ty.int .i64) (Ty.pair (Ty.int .i64) (Ty.int .i64))), OSh.row true (67 : Nat) (Ty.pair (Ty.int .i64) (Ty.pair (Ty.int .i64) (Ty.int .i64)))] [((7 : Nat), TSh.at (Sh.sl (1 : Nat))), ((9 : Nat), TSh.at (Sh.sl (2 : Nat))), ((26 : Nat), TSh.at (Sh.int .i64)), ((27 : Nat), TSh.at (Sh.int .i64))]
noncomputable def Zut : Spec := Spec.mk [OSh.ro] []
noncomputable def Z4B : LoopDef (Tup Z6L × OutD) := .rets Zd8 Zut (Unit) (Int) (fun k x => Z5f k x.1.2.1 x.1.2.2.1 x.2.2.2.1 x.2.2.2.2.1) (fun z => (((), ()), (()))) (fun y => ()) (fun _ => rfl) ZeN ZeX ZhI
noncomputable def Z9p : Nat → Int × Int × List (Int × Int) → List (Int × Int × Int) → List Int → Option Int
 | 0, _, _, _ => none
 | k + 1, p0, p1, p2 =>
  Option.bind (Zei k (Prod.fst p0, Prod.fst p0.2, Prod.snd p0.2) p2) fun z0 => Option.bind (Zay k (Prod.fst p0, Prod.fst p0.2, Prod.snd p0.2) p1 p2) fun z1 => Option.bind (Z5f k z0.1 z1.1 (↑(List.length z0.1) : Int) (0 : Int)) fun z2 => LR.on z2 (fun y2 => some (-1 : Int)) fun r2 => some r2
noncomputable def Z2K : FnDef := .of Zn5 Z6L (Int) (fun k x => Z9p k x.1 x.2.1 x.2.2.1) ZeN ZeX ZhI
noncomputable def Zcz : Code := Tryz.f64.body.getD .skip
noncomputable def Z4T : Ctx (Tup Z6L × OutD) := { T := T, G := [(102, Z5l.E), (88, Z2y.E)], mvs := [], no := 0, n := 41, res := resOf T Zn5 Z6L Tryz.f64.results.toList, loops := [(0, Z4B.E)], regs := [], conds := [], cuts := [] }
theorem ZmO (k : Nat) : EnvOK Tryz.prog k Z4T.G := (EnvOK.cons (ZCL k) (EnvOK.cons (ZwI k) (EnvOK.nil mixed)))
noncomputable def Z9G : Code := (findLoop 0 Zcz).getD .skip
theorem ZuV (k : Nat) (x : Zd8.D) : Z4B.lp (k + 1) x = loopK Z4T Z4B 0 Z9G k x := by kernel_rfl
theorem Zug (k : Nat) : LOK Tryz.prog Z4T k Z9G := LOK.by [] (by kernel_rfl) AllOK.nil
theorem Zul (x : Zd8.D) : Z4B.lp 0 x = none := by kernel_rfl
theorem Zsu (k : Nat) : EOK Tryz.prog Z4T k Z4B.E (.block 0 (.loop Z9G)) := Zb T_ok ZmO Zul ZuV Zug k
theorem ZAM (k : Nat) (x : Tup Z2K.ps) : Z2K.f (k + 1) x = fnK Z2K Z4T Zcz k x := by kernel_rfl
theorem Zz3 (x : Tup Z2K.ps) : Z2K.f 0 x = none := by kernel_rfl
theorem ZzD (k : Nat) : LOK Tryz.prog Z4T k Zcz := LOK.by [(Z4B.E, .block 0 (.loop Z9G))] (by kernel_rfl) (AllOK.cons (Zsu k) AllOK.nil)
theorem Zn4 (k : Nat) : SoundAt Tryz.prog k 64 Z2K.E := @Z3 Tryz.prog Z2K Z4T 64 Tryz.f64 Zcz (by kernel_rfl) (by kernel_rfl) (by kernel_rfl) Tryz.func64 (by kernel_rfl) (by kernel_rfl) (by kernel_rfl) T_ok ZmO ZzD Zz3 ZAM k
noncomputable def Z6T : List PK := [PK.mk Ty.bool false none false none]
noncomputable def Zne : List PK := [PK.mk (Ty.pair (Ty.int .i64) (Ty.pair (Ty.int .i64) (Ty.slice (122 : Nat) (Ty.pair (Ty.int .i64) (Ty.int .i64))))) true none false none, PK.mk (Ty.slice (42 : Nat) (Ty.pair (Ty.int .i64) (Ty.pair (Ty.int .i64) (Ty.int .i64)))) false none false none]
noncomputable def ZeZ (r : Bool) : Tup Z6T × OutD := ((r, ()), none)
noncomputable def ZeM : Tup Z6T × OutD → Option (Bool)
 | (a, none) => some (a.1)
 | _ => none
theorem Zhz : ∀ b r, ZeM b = some r → ZeZ r = b := by
 rintro ⟨a, o⟩ r h
 cases o with
 | none => injection h with h; subst h; rfl
 | some _ => cases h
noncomputable def Z56 : Nat → Int → Int → List (Int × Int) → Int → List (Int × Int × Int) → Int → Int → Option (LR Unit Bool)
 | 0, _, _, _, _, _, _, _ => none
 | k + 1, b1_0, b1_1, b1_2, v5, v12, v13, v14 =>
  if decide (v14 < v13) = true then if (0 : Int) ≤ v14 then if v14 < (↑(List.length v12) : Int) then Option.bind (Ze8 k (b1_0, b1_1, b1_2) (Prod.fst (Prod.snd (List.getD v12 (Int.toNat v14) ((0 : Int), (0 : Int), (0 : Int))))) (Prod.snd (Prod.snd (List.getD v12 (Int.toNat v14) ((0 : Int), (0 : Int), (0 : Int)))))) fun z0 => if (!z0) = true then some (LR.ret false) else if decide (wrap64 (wrap64 (Prod.fst (Prod.snd (List.getD v12 (Int.toNat v14) ((0 : Int), (0 : Int), (0 : Int)))) * b1_1) + Prod.snd (Prod.snd (List.getD v12 (Int.toNat v14) ((0 : Int), (0 : Int), (0 : Int))))) ≤ v5) = true then some (LR.ret false) else if (0 : Int) ≤ wrap64 (wrap64 (Prod.fst (Prod.snd (List.getD v12 (Int.toNat v14) ((0 : Int), (0 : Int), (0 : Int)))) * b1_1) + Prod.snd (Prod.snd (List.getD v12 (Int.toNat v14) ((0 : Int), (0 : Int), (0 : Int))))) then if wrap64 (wrap64 (Prod.fst (Prod.snd (List.getD v12 (Int.toNat v14) ((0 : Int), (0 : Int), (0 : Int)))) * b1_1) + Prod.snd (Prod.snd (List.getD v12 (Int.toNat v14) ((0 : Int), (0 : Int), (0 : Int))))) < (↑(List.length b1_2) : Int) then Option.bind (ZbD k (Prod.fst (List.getD b1_2 (Int.toNat (wrap64 (wrap64 (Prod.fst (Prod.snd (List.getD v12 (Int.toNat v14) ((0 : Int), (0 : Int), (0 : Int)))) * b1_1) + Prod.snd (Prod.snd (List.getD v12 (Int.toNat v14) ((0 : Int), (0 : Int), (0 : Int))))))) ((0 : Int), (0 : Int))), Prod.snd (List.getD b1_2 (Int.toNat (wrap64 (wrap64 (Prod.fst (Prod.snd (List.getD v12 (Int.toNat v14) ((0 : Int), (0 : Int), (0 : Int)))) * b1_1) + Prod.snd (Prod.snd (List.getD v12 (Int.toNat v14) ((0 : Int), (0 : Int), (0 : Int))))))) ((0 : Int), (0 : Int)))) (Prod.fst (List.getD v12 (Int.toNat v14) ((0 : Int), (0 : Int), (0 : Int))))) fun z1 => if (!z1) = true then some (LR.ret false) else Z56 k b1_0 b1_1 b1_2 (wrap64 (wrap64 (Prod.fst (Prod.snd (List.getD v12 (Int.toNat v14) ((0 : Int), (0 : Int), (0 : Int)))) * b1_1) + Prod.snd (Prod.snd (List.getD v12 (Int.toNat v14) ((0 : Int), (0 : Int), (0 : Int)))))) v12 v13 (wrap64 (v14 + (1 : Int))) else none else none else none else none else some (LR.go ())
noncomputable def Zdd : Spec := Spec.mk [OSh.ro, OSh.box (26 : Nat) [Sh.int .i64, Sh.int .i64, Sh.snap (0 : Nat) (Ty.pair (Ty.int .i64) (Ty.int .i64))]] [((2 : Nat), TSh.at (Sh.ptr (1 : Nat) (0 : Nat))), ((5 : Nat), TSh.at (Sh.int .i64)), ((12 : Nat), TSh.at (Sh.snap (0 : Nat) (Ty.pair (Ty.int .i64) (Ty.pair (Ty.int .i64) (Ty.int .i64))))), ((13 : Nat), TSh.at (Sh.int .i64)), ((14 : Nat), TSh.at (Sh.int .i64))]
noncomputable def Zvb : Spec := Spec.mk [OSh.ro] []
noncomputable def Z4r : LoopDef (Tup Z6T × OutD) := .rets Zdd Zvb (Unit) (Bool) (fun k x => Z56 k x.1.2.1.1 x.1.2.1.2.1 x.1.2.1.2.2.1 x.2.2.1 x.2.2.2.1 x.2.2.2.2.1 x.2.2.2.2.2.1) (fun z => (((), ()), (()))) (fun y => ()) (fun _ => rfl) ZeZ ZeM Zhz
noncomputable def Z9a : Nat → Int × Int × List (Int × Int) → List (Int × Int × Int) → Option Bool
 | 0, _, _ => none
 | k + 1, p0, p1 =>
  if decide ((↑(List.length p1) : Int) > (4 : Int)) = true then some false else Option.bind (Z56 k p0.1 p0.2.1 p0.2.2 (-1 : Int) p1 (↑(List.length p1) : Int) (0 : Int)) fun z2 => LR.on z2 (fun y2 => some true) fun r2 => some r2
noncomputable def Z2L : FnDef := .of Zne Z6T (Bool) (fun k x => Z9a k x.1 x.2.1) ZeZ ZeM Zhz
noncomputable def ZbT : Code := Tryz.f69.body.getD .skip
noncomputable def Z4P : Ctx (Tup Z6T × OutD) := { T := T, G := [(104, Z5o.E), (101, Z3Z.E)], mvs := [], no := 0, n := 49, res := resOf T Zne Z6T Tryz.f69.results.toList, loops := [(0, Z4r.E)], regs := [], conds := [], cuts := [] }
theorem ZmJ (k : Nat) : EnvOK Tryz.prog k Z4P.G := (EnvOK.cons (ZD8 k) (EnvOK.cons (Zrn k) (EnvOK.nil mixed)))
noncomputable def Z9J : Code := (findLoop 0 ZbT).getD .skip
theorem Zv2 (k : Nat) (x : Zdd.D) : Z4r.lp (k + 1) x = loopK Z4P Z4r 0 Z9J k x := by kernel_rfl
theorem Zvd (k : Nat) : LOK Tryz.prog Z4P k Z9J := LOK.by [] (by kernel_rfl) AllOK.nil
theorem ZuX (x : Zdd.D) : Z4r.lp 0 x = none := by kernel_rfl
theorem ZrE (k : Nat) : EOK Tryz.prog Z4P k Z4r.E (.block 0 (.loop Z9J)) := Zb T_ok ZmJ ZuX Zv2 Zvd k
theorem Zz4 (k : Nat) (x : Tup Z2L.ps) : Z2L.f (k + 1) x = fnK Z2L Z4P ZbT k x := by kernel_rfl
theorem ZBd (x : Tup Z2L.ps) : Z2L.f 0 x = none := by kernel_rfl
theorem ZAF (k : Nat) : LOK Tryz.prog Z4P k ZbT := LOK.by [(Z4r.E, .block 0 (.loop Z9J))] (by kernel_rfl) (AllOK.cons (ZrE k) AllOK.nil)
theorem ZlX (k : Nat) : SoundAt Tryz.prog k 69 Z2L.E := @Z3 Tryz.prog Z2L Z4P 69 Tryz.f69 ZbT (by kernel_rfl) (by kernel_rfl) (by kernel_rfl) Tryz.func69 (by kernel_rfl) (by kernel_rfl) (by kernel_rfl) T_ok ZmJ ZAF ZBd Zz4 k
noncomputable def ZcS : List PK := [PK.mk (Ty.int .i64) false none false none]
noncomputable def Ztm : List PK := [PK.mk (Ty.pair (Ty.int .i64) (Ty.pair (Ty.int .i64) (Ty.slice (122 : Nat) (Ty.pair (Ty.int .i64) (Ty.int .i64))))) true none false none, PK.mk (Ty.slice (42 : Nat) (Ty.pair (Ty.int .i64) (Ty.pair (Ty.int .i64) (Ty.int .i64)))) false none false none, PK.mk (Ty.slice (3 : Nat) (Ty.int .i64)) false none false none]
noncomputable def Zq8 (r : Int) : Tup ZcS × OutD := ((r, ()), none)
noncomputable def Zqh : Tup ZcS × OutD → Option (Int)
 | (a, none) => some (a.1)
 | _ => none
theorem Zyn : ∀ b r, Zqh b = some r → Zq8 r = b := by
 rintro ⟨a, o⟩ r h
 cases o with
 | none => injection h with h; subst h; rfl
 | some _ => cases h
noncomputable def Za7 : Nat → Int × Int × List (Int × Int) → List (Int × Int × Int) → List Int → Option Int
 | 0, _, _, _ => none
 | k + 1, p0, p1, p2 =>
  Option.bind (Ze0 k (Prod.fst p0, Prod.fst p0.2, Prod.snd p0.2) p2) fun z0 => Option.bind (ZdW k (Prod.fst p0, Prod.fst p0.2, Prod.snd p0.2) p1 p2) fun z1 => Option.bind (Zfu k z0.1 z1.1) fun z2 => some z2
noncomputable def Z4I : FnDef := .of Ztm ZcS (Int) (fun k x => Za7 k x.1 x.2.1 x.2.2.1) Zq8 Zqh Zyn
noncomputable def ZjO : Code := Tryz.f71.body.getD .skip
noncomputable def Zfz : Ctx (Tup ZcS × OutD) := { T := T, G := [(85, Z5L.E), (86, Z5N.E), (106, Z6m.E)], mvs := [], no := 0, n := 27, res := resOf T Ztm ZcS Tryz.f71.results.toList, loops := [], regs := [], conds := [], cuts := [] }
theorem ZEy (k : Nat) : EnvOK Tryz.prog k Zfz.G := (EnvOK.cons (ZvW k) (EnvOK.cons (ZvY k) (EnvOK.cons (ZEm k) (EnvOK.nil mixed))))
theorem ZF1 (k : Nat) (x : Tup Z4I.ps) : Z4I.f (k + 1) x = fnK Z4I Zfz ZjO k x := by kernel_rfl
theorem ZE3 (x : Tup Z4I.ps) : Z4I.f 0 x = none := by kernel_rfl
theorem ZF7 (k : Nat) : LOK Tryz.prog Zfz k ZjO := LOK.by [] (by kernel_rfl) AllOK.nil
theorem ZtR (k : Nat) : SoundAt Tryz.prog k 71 Z4I.E := @Z3 Tryz.prog Z4I Zfz 71 Tryz.f71 ZjO (by kernel_rfl) (by kernel_rfl) (by kernel_rfl) Tryz.func71 (by kernel_rfl) (by kernel_rfl) (by kernel_rfl) T_ok ZEy ZF7 ZE3 ZF1 k
noncomputable def Z7G : List PK := [PK.mk (Ty.pair (Ty.int .i64) (Ty.pair (Ty.int .i64) (Ty.slice (122 : Nat) (Ty.pair (Ty.int .i64) (Ty.int .i64))))) true none false none]
noncomputable def Zj4 : List PK := [PK.mk (Ty.pair (Ty.slice (5 : Nat) (Ty.int .u8)) (Ty.pair (Ty.int .i64) (Ty.int .u64))) false none false (some (82 : Nat))]
noncomputable def ZhM (r : (Int × Int × List (Int × Int)) × Int × Int) : Tup Z7G × OutD := ((r.1, ()), some ⟨Ty.pair (Ty.slice (5 : Nat) (Ty.int .u8)) (Ty.pair (Ty.int .i64) (Ty.int .u64)), [([], r.2)]⟩)
noncomputable def Zd4 : Tup Z7G × OutD → Option ((Int × Int × List (Int × Int)) × Int × Int)
 | (a, some ⟨u, ys⟩) => if h : u = Ty.pair (Ty.slice (5 : Nat) (Ty.int .u8)) (Ty.pair (Ty.int .i64) (Ty.int .u64)) then (match castU h ys with
  | [([], y)] => some (a.1, y)
  | _ => none) else none
 | _ => none
theorem ZpW : ∀ b r, Zd4 b = some r → ZhM r = b := by
 rintro ⟨a, o⟩ r h
 cases o with
 | none => cases h
 | some s =>
  obtain ⟨u, ys⟩ := s
  simp only [Zd4] at h
  split at h
  ·rename_i hu
   subst hu
   match ys, h with
   | [], h => cases (show (none : Option _) = some r from h)
   | [([], y)], h => injection (show some _ = some r from h) with h; subst h; rfl
   | [(_ :: _, y)], h => cases (show (none : Option _) = some r from h)
   | (h1, _) :: _ :: _, h => cases h1 <;> cases (show (none : Option _) = some r from h)
  ·cases h
noncomputable def Z7z : Nat → List Int × Int × Int → Option ((Int × Int × List (Int × Int)) × Int × Int)
 | 0, _ => none
 | k + 1, p0 =>
  Option.bind (Zr k (Prod.fst p0, Prod.fst p0.2, Prod.snd p0.2) (20 : Int)) fun z0 => if Prod.fst z0 = true then Option.bind (Z5 k (Prod.fst p0, Prod.fst z0.2, Prod.snd z0.2) [(1 : Int), (10 : Int)]) fun z1 => Option.bind (Z5 k (Prod.fst p0, Prod.fst z1.2, Prod.snd z1.2) [(1 : Int), (9 : Int)]) fun z2 => Option.bind (Z5T k (Prod.fst p0, Prod.fst z2.2, Prod.snd z2.2) z1.1 z2.1) fun z3 => some ((Prod.fst z3.1, Prod.fst z3.1.2, Prod.snd z3.1.2), Prod.fst z3.2, Prod.snd z3.2) else Option.bind (Z0 k (Prod.fst p0, Prod.fst z0.2, Prod.snd z0.2) (5 : Int)) fun z4 => Option.bind (Z0 k (Prod.fst p0, Prod.fst z4.2, Prod.snd z4.2) (5 : Int)) fun z5 => Option.bind (Z5T k (Prod.fst p0, Prod.fst z5.2, Prod.snd z5.2) (wrap64 ((1 : Int) + Prod.fst z4)) (wrap64 ((1 : Int) + Prod.fst z5))) fun z6 => some ((Prod.fst z6.1, Prod.fst z6.1.2, Prod.snd z6.1.2), Prod.fst z6.2, Prod.snd z6.2)
noncomputable def Z2x : FnDef := .of Zj4 Z7G ((Int × Int × List (Int × Int)) × Int × Int) (fun k x => Z7z k x.1) ZhM Zd4 ZpW
noncomputable def Ze7 : Code := Tryz.f122.body.getD .skip
noncomputable def Zaz : Ctx (Tup Z7G × OutD) := { T := T, G := [(97, Z1f.E), (72, Zq.E), (95, Z1X.E), (73, Za.E)], mvs := [], no := 2, n := 21, res := resOf T Zj4 Z7G Tryz.f122.results.toList, loops := [], regs := [], conds := [], cuts := [] }
theorem Zvv (k : Nat) : EnvOK Tryz.prog k Zaz.G := (EnvOK.cons (Z9y k) (EnvOK.cons (Z2z k) (EnvOK.cons (ZsV k) (EnvOK.cons (ZA k) (EnvOK.nil mixed)))))
theorem Zx1 (k : Nat) (x : Tup Z2x.ps) : Z2x.f (k + 1) x = fnK Z2x Zaz Ze7 k x := by kernel_rfl
theorem Zwk (x : Tup Z2x.ps) : Z2x.f 0 x = none := by kernel_rfl
theorem Zwo (k : Nat) : LOK Tryz.prog Zaz k Ze7 := LOK.by [] (by kernel_rfl) AllOK.nil
theorem Zwj (k : Nat) : SoundAt Tryz.prog k 122 Z2x.E := @Z3 Tryz.prog Z2x Zaz 122 Tryz.f122 Ze7 (by kernel_rfl) (by kernel_rfl) (by kernel_rfl) Tryz.func122 (by kernel_rfl) (by kernel_rfl) (by kernel_rfl) T_ok Zvv Zwo Zwk Zx1 k
end
end Go.Proofs.YtglkedenkcpcbaaGreatDoor.Vs
