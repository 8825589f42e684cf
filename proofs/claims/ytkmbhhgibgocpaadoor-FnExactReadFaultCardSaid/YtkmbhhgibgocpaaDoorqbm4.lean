/- The proof, part 5. -/
import Derived.Test.YtkmbhhgibgocpaaDoorqbm3
import Derived.KernelRfl
set_option maxRecDepth 100000
set_option maxHeartbeats 2000000
set_option linter.unusedVariables false
set_option linter.unusedSimpArgs false
namespace Go.Proofs.YtkmbhhgibgocpaaDoor.Vs
open Go.RowKit
noncomputable section
/-! function 24 -/
noncomputable def r_strconv_Itoa : List PK := [PK.mk Ty.str false none false none]
noncomputable def q_strconv_Itoa : List PK := [PK.mk (Ty.int IntKind.i64) false none false none]
noncomputable def to_strconv_Itoa (r : ByteArray) : Tup r_strconv_Itoa × OutD := ((r, ()), none)
noncomputable def of_strconv_Itoa : Tup r_strconv_Itoa × OutD → Option (ByteArray)
  | (a, none) => some (a.1)
  | _ => none
theorem to_of_strconv_Itoa : ∀ b r, of_strconv_Itoa b = some r → to_strconv_Itoa r = b := by
  rintro ⟨a, o⟩ r h
  cases o with
  | none => injection h with h; subst h; rfl
  | some _ => cases h
noncomputable def f_strconv_Itoa : Nat → Int → Option ByteArray
  | 0, _ => none
  | k + 1, p0 =>
    Option.bind (f_internal_strconv_Itoa k p0) fun z0 => some z0
noncomputable def d_strconv_Itoa : FnDef := .of q_strconv_Itoa r_strconv_Itoa (ByteArray) (fun k x => f_strconv_Itoa k x.1) to_strconv_Itoa of_strconv_Itoa to_of_strconv_Itoa
noncomputable def c_strconv_Itoa : Code := Tryd.f24.body.getD .skip
noncomputable def x_strconv_Itoa : Ctx (Tup r_strconv_Itoa × OutD) := { T := T, G := [(40, d_internal_strconv_Itoa.E)], mvs := [], no := 0, n := 5, res := resOf T q_strconv_Itoa r_strconv_Itoa Tryd.f24.results.toList, loops := [], regs := [], conds := [] }
theorem g_strconv_Itoa (k : Nat) : EnvOK Tryd.prog k x_strconv_Itoa.G := (EnvOK.cons (s_internal_strconv_Itoa k) (EnvOK.nil mixed))
theorem h_strconv_Itoa (k : Nat) (x : Tup d_strconv_Itoa.ps) : d_strconv_Itoa.f (k + 1) x = fnK d_strconv_Itoa x_strconv_Itoa c_strconv_Itoa k x := by kernel_rfl
theorem z_strconv_Itoa (x : Tup d_strconv_Itoa.ps) : d_strconv_Itoa.f 0 x = none := by kernel_rfl
theorem l_strconv_Itoa (k : Nat) : LOK Tryd.prog x_strconv_Itoa k c_strconv_Itoa := LOK.by [] (by kernel_rfl) AllOK.nil
theorem s_strconv_Itoa (k : Nat) : SoundAt Tryd.prog k 24 d_strconv_Itoa.E := @fn_all Tryd.prog d_strconv_Itoa x_strconv_Itoa 24 Tryd.f24 c_strconv_Itoa (by kernel_rfl) (by kernel_rfl) (by kernel_rfl) Tryd.func24 (by kernel_rfl) (by kernel_rfl) (by kernel_rfl) T_ok g_strconv_Itoa l_strconv_Itoa z_strconv_Itoa h_strconv_Itoa k
/-! function 42 -/
/-! function 47 -/
/-! function 48 -/
/-! function 55 -/
/-! function 59 -/
end
end Go.Proofs.YtkmbhhgibgocpaaDoor.Vs

set_option maxRecDepth 100000
set_option maxHeartbeats 2000000
set_option linter.unusedVariables false
set_option linter.unusedSimpArgs false
namespace Go.Proofs.YtkmbhhgibgocpaaDoor.Vs
open Go.RowKit
noncomputable section
/-! function 8 -/
noncomputable def r_impl_FaultName : List PK := [PK.mk Ty.str false none false none, PK.mk Ty.bool false none false none]
noncomputable def q_impl_FaultName : List PK := [PK.mk (Ty.pair (Ty.int IntKind.i64) (Ty.pair (Ty.int IntKind.i64) (Ty.int IntKind.i64))) true none false none]
noncomputable def to_impl_FaultName (r : ByteArray × Bool) : Tup r_impl_FaultName × OutD := ((r.1, r.2, ()), none)
noncomputable def of_impl_FaultName : Tup r_impl_FaultName × OutD → Option (ByteArray × Bool)
  | (a, none) => some (a.1, a.2.1)
  | _ => none
theorem to_of_impl_FaultName : ∀ b r, of_impl_FaultName b = some r → to_impl_FaultName r = b := by
  rintro ⟨a, o⟩ r h
  cases o with
  | none => injection h with h; subst h; rfl
  | some _ => cases h
noncomputable def f_impl_FaultName : Nat → Int × Int × Int → Option (ByteArray × Bool)
  | 0, _ => none
  | k + 1, p0 =>
    if decide (Prod.fst p0 < (1 : Int)) = true then some (ByteArray.mk #[], false) else if decide (Prod.fst p0 > (3 : Int)) = true then some (ByteArray.mk #[], false) else if decide (Prod.fst (Prod.snd p0) < (0 : Int)) = true then some (ByteArray.mk #[], false) else if decide (Prod.fst (Prod.snd p0) > (9 : Int)) = true then some (ByteArray.mk #[], false) else if decide (Prod.snd (Prod.snd p0) < (0 : Int)) = true then some (ByteArray.mk #[], false) else if decide (Prod.snd (Prod.snd p0) > (9 : Int)) = true then some (ByteArray.mk #[], false) else if (0 : Int) ≤ wrap64 (Prod.fst p0 - (1 : Int)) then if wrap64 (Prod.fst p0 - (1 : Int)) < (↑(3 : Nat) : Int) then if Int.toNat (wrap64 (Prod.fst p0 - (1 : Int))) < List.length [ByteArray.mk #[(115 : UInt8), (116 : UInt8), (117 : UInt8), (99 : UInt8), (107 : UInt8)], ByteArray.mk #[(104 : UInt8), (111 : UInt8), (108 : UInt8), (101 : UInt8)], ByteArray.mk #[(116 : UInt8), (117 : UInt8), (114 : UInt8), (110 : UInt8), (101 : UInt8), (100 : UInt8)]] then if ByteArray.size (List.getD [ByteArray.mk #[(115 : UInt8), (116 : UInt8), (117 : UInt8), (99 : UInt8), (107 : UInt8)], ByteArray.mk #[(104 : UInt8), (111 : UInt8), (108 : UInt8), (101 : UInt8)], ByteArray.mk #[(116 : UInt8), (117 : UInt8), (114 : UInt8), (110 : UInt8), (101 : UInt8), (100 : UInt8)]] (Int.toNat (wrap64 (Prod.fst p0 - (1 : Int)))) (ByteArray.mk #[])) + ByteArray.size (ByteArray.mk #[(32 : UInt8), (97 : UInt8), (116 : UInt8), (32 : UInt8)]) ≤ (9223372036854775807 : Nat) then Option.bind (f_strconv_Itoa k (Prod.fst (Prod.snd p0))) fun z0 => if ByteArray.size (List.getD [ByteArray.mk #[(115 : UInt8), (116 : UInt8), (117 : UInt8), (99 : UInt8), (107 : UInt8)], ByteArray.mk #[(104 : UInt8), (111 : UInt8), (108 : UInt8), (101 : UInt8)], ByteArray.mk #[(116 : UInt8), (117 : UInt8), (114 : UInt8), (110 : UInt8), (101 : UInt8), (100 : UInt8)]] (Int.toNat (wrap64 (Prod.fst p0 - (1 : Int)))) (ByteArray.mk #[]) ++ ByteArray.mk #[(32 : UInt8), (97 : UInt8), (116 : UInt8), (32 : UInt8)]) + ByteArray.size z0 ≤ (9223372036854775807 : Nat) then if ByteArray.size (List.getD [ByteArray.mk #[(115 : UInt8), (116 : UInt8), (117 : UInt8), (99 : UInt8), (107 : UInt8)], ByteArray.mk #[(104 : UInt8), (111 : UInt8), (108 : UInt8), (101 : UInt8)], ByteArray.mk #[(116 : UInt8), (117 : UInt8), (114 : UInt8), (110 : UInt8), (101 : UInt8), (100 : UInt8)]] (Int.toNat (wrap64 (Prod.fst p0 - (1 : Int)))) (ByteArray.mk #[]) ++ ByteArray.mk #[(32 : UInt8), (97 : UInt8), (116 : UInt8), (32 : UInt8)] ++ z0) + ByteArray.size (ByteArray.mk #[(44 : UInt8)]) ≤ (9223372036854775807 : Nat) then Option.bind (f_strconv_Itoa k (Prod.snd (Prod.snd p0))) fun z1 => if ByteArray.size (List.getD [ByteArray.mk #[(115 : UInt8), (116 : UInt8), (117 : UInt8), (99 : UInt8), (107 : UInt8)], ByteArray.mk #[(104 : UInt8), (111 : UInt8), (108 : UInt8), (101 : UInt8)], ByteArray.mk #[(116 : UInt8), (117 : UInt8), (114 : UInt8), (110 : UInt8), (101 : UInt8), (100 : UInt8)]] (Int.toNat (wrap64 (Prod.fst p0 - (1 : Int)))) (ByteArray.mk #[]) ++ ByteArray.mk #[(32 : UInt8), (97 : UInt8), (116 : UInt8), (32 : UInt8)] ++ z0 ++ ByteArray.mk #[(44 : UInt8)]) + ByteArray.size z1 ≤ (9223372036854775807 : Nat) then some (List.getD [ByteArray.mk #[(115 : UInt8), (116 : UInt8), (117 : UInt8), (99 : UInt8), (107 : UInt8)], ByteArray.mk #[(104 : UInt8), (111 : UInt8), (108 : UInt8), (101 : UInt8)], ByteArray.mk #[(116 : UInt8), (117 : UInt8), (114 : UInt8), (110 : UInt8), (101 : UInt8), (100 : UInt8)]] (Int.toNat (wrap64 (Prod.fst p0 - (1 : Int)))) (ByteArray.mk #[]) ++ ByteArray.mk #[(32 : UInt8), (97 : UInt8), (116 : UInt8), (32 : UInt8)] ++ z0 ++ ByteArray.mk #[(44 : UInt8)] ++ z1, true) else none else none else none else none else none else none else none
noncomputable def d_impl_FaultName : FnDef := .of q_impl_FaultName r_impl_FaultName (ByteArray × Bool) (fun k x => f_impl_FaultName k x.1) to_impl_FaultName of_impl_FaultName to_of_impl_FaultName
noncomputable def c_impl_FaultName : Code := Tryd.f8.body.getD .skip
noncomputable def x_impl_FaultName : Ctx (Tup r_impl_FaultName × OutD) := { T := T, G := [(24, d_strconv_Itoa.E)], mvs := [], no := 0, n := 47, res := resOf T q_impl_FaultName r_impl_FaultName Tryd.f8.results.toList, loops := [], regs := [], conds := [] }
theorem g_impl_FaultName (k : Nat) : EnvOK Tryd.prog k x_impl_FaultName.G := (EnvOK.cons (s_strconv_Itoa k) (EnvOK.nil mixed))
theorem h_impl_FaultName (k : Nat) (x : Tup d_impl_FaultName.ps) : d_impl_FaultName.f (k + 1) x = fnK d_impl_FaultName x_impl_FaultName c_impl_FaultName k x := by kernel_rfl
theorem z_impl_FaultName (x : Tup d_impl_FaultName.ps) : d_impl_FaultName.f 0 x = none := by kernel_rfl
theorem l_impl_FaultName (k : Nat) : LOK Tryd.prog x_impl_FaultName k c_impl_FaultName := LOK.by [] (by kernel_rfl) AllOK.nil
theorem s_impl_FaultName (k : Nat) : SoundAt Tryd.prog k 8 d_impl_FaultName.E := @fn_all Tryd.prog d_impl_FaultName x_impl_FaultName 8 Tryd.f8 c_impl_FaultName (by kernel_rfl) (by kernel_rfl) (by kernel_rfl) Tryd.func8 (by kernel_rfl) (by kernel_rfl) (by kernel_rfl) T_ok g_impl_FaultName l_impl_FaultName z_impl_FaultName h_impl_FaultName k
/-! function 30 -/
/-! function 34 -/
/-! function 45 -/
/-! function 49 -/
end
end Go.Proofs.YtkmbhhgibgocpaaDoor.Vs

set_option maxRecDepth 100000
set_option maxHeartbeats 2000000
set_option linter.unusedVariables false
set_option linter.unusedSimpArgs false
namespace Go.Proofs.YtkmbhhgibgocpaaDoor.Vs
open Go.RowKit
noncomputable section
/-! function 3 -/
/-! function 10 -/
noncomputable def r_impl_ReadFault : List PK := [PK.mk (Ty.pair (Ty.int IntKind.i64) (Ty.pair (Ty.int IntKind.i64) (Ty.int IntKind.i64))) true none false none, PK.mk Ty.bool false none false none]
noncomputable def q_impl_ReadFault : List PK := [PK.mk Ty.str false none false none]
noncomputable def to_impl_ReadFault (r : (Int × Int × Int) × Bool) : Tup r_impl_ReadFault × OutD := ((r.1, r.2, ()), none)
noncomputable def of_impl_ReadFault : Tup r_impl_ReadFault × OutD → Option ((Int × Int × Int) × Bool)
  | (a, none) => some (a.1, a.2.1)
  | _ => none
theorem to_of_impl_ReadFault : ∀ b r, of_impl_ReadFault b = some r → to_impl_ReadFault r = b := by
  rintro ⟨a, o⟩ r h
  cases o with
  | none => injection h with h; subst h; rfl
  | some _ => cases h
noncomputable def f_impl_ReadFault_0 : Nat → Int → Int → Int → ByteArray → Int → Option (LR (Int × Int × Int) ((Int × Int × Int) × Bool))
  | 0, _, _, _, _, _ => none
  | k + 1, b1_0, b1_1, b1_2, v0, v4 =>
    if decide (v4 ≤ (3 : Int)) = true then if (0 : Int) ≤ wrap64 (v4 - (1 : Int)) then if wrap64 (v4 - (1 : Int)) < (↑(3 : Nat) : Int) then if Int.toNat (wrap64 (v4 - (1 : Int))) < List.length [ByteArray.mk #[(115 : UInt8), (116 : UInt8), (117 : UInt8), (99 : UInt8), (107 : UInt8)], ByteArray.mk #[(104 : UInt8), (111 : UInt8), (108 : UInt8), (101 : UInt8)], ByteArray.mk #[(116 : UInt8), (117 : UInt8), (114 : UInt8), (110 : UInt8), (101 : UInt8), (100 : UInt8)]] then if ByteArray.size (List.getD [ByteArray.mk #[(115 : UInt8), (116 : UInt8), (117 : UInt8), (99 : UInt8), (107 : UInt8)], ByteArray.mk #[(104 : UInt8), (111 : UInt8), (108 : UInt8), (101 : UInt8)], ByteArray.mk #[(116 : UInt8), (117 : UInt8), (114 : UInt8), (110 : UInt8), (101 : UInt8), (100 : UInt8)]] (Int.toNat (wrap64 (v4 - (1 : Int)))) (ByteArray.mk #[])) + ByteArray.size (ByteArray.mk #[(32 : UInt8), (97 : UInt8), (116 : UInt8), (32 : UInt8)]) ≤ (9223372036854775807 : Nat) then Option.bind (f_strings_CutPrefix k v0 (List.getD [ByteArray.mk #[(115 : UInt8), (116 : UInt8), (117 : UInt8), (99 : UInt8), (107 : UInt8)], ByteArray.mk #[(104 : UInt8), (111 : UInt8), (108 : UInt8), (101 : UInt8)], ByteArray.mk #[(116 : UInt8), (117 : UInt8), (114 : UInt8), (110 : UInt8), (101 : UInt8), (100 : UInt8)]] (Int.toNat (wrap64 (v4 - (1 : Int)))) (ByteArray.mk #[]) ++ ByteArray.mk #[(32 : UInt8), (97 : UInt8), (116 : UInt8), (32 : UInt8)])) fun z0 => if (!Prod.snd z0) = true then f_impl_ReadFault_0 k b1_0 b1_1 b1_2 v0 (wrap64 (v4 + (1 : Int))) else if decide ((↑(ByteArray.size (Prod.fst z0)) : Int) ≠ (3 : Int)) = true then f_impl_ReadFault_0 k b1_0 b1_1 b1_2 v0 (wrap64 (v4 + (1 : Int))) else if (0 : Int) < (↑(ByteArray.size (Prod.fst z0)) : Int) then if (2 : Int) < (↑(ByteArray.size (Prod.fst z0)) : Int) then Option.bind (f_impl_FaultName k (v4, wrap64 (wrap64 (byteAt (Prod.fst z0) (Int.toNat (0 : Int))) - (48 : Int)), wrap64 (wrap64 (byteAt (Prod.fst z0) (Int.toNat (2 : Int))) - (48 : Int)))) fun z1 => if Prod.snd z1 = true then if (ByteArray.toList (Prod.fst z1) == ByteArray.toList v0) = true then some (LR.ret ((v4, wrap64 (wrap64 (byteAt (Prod.fst z0) (Int.toNat (0 : Int))) - (48 : Int)), wrap64 (wrap64 (byteAt (Prod.fst z0) (Int.toNat (2 : Int))) - (48 : Int))), true)) else f_impl_ReadFault_0 k b1_0 b1_1 b1_2 v0 (wrap64 (v4 + (1 : Int))) else f_impl_ReadFault_0 k b1_0 b1_1 b1_2 v0 (wrap64 (v4 + (1 : Int))) else none else none else none else none else none else none else some (LR.go (b1_0, b1_1, b1_2))
noncomputable def f_impl_ReadFault_0i : Spec := Spec.mk [OSh.ro, OSh.box (26 : Nat) [Sh.int IntKind.i64, Sh.int IntKind.i64, Sh.int IntKind.i64]] [((0 : Nat), TSh.at Sh.str), ((2 : Nat), TSh.at (Sh.ptr (1 : Nat) (0 : Nat))), ((4 : Nat), TSh.at (Sh.int IntKind.i64))]
noncomputable def f_impl_ReadFault_0o : Spec := Spec.mk [OSh.ro, OSh.box (26 : Nat) [Sh.int IntKind.i64, Sh.int IntKind.i64, Sh.int IntKind.i64]] [((2 : Nat), TSh.at (Sh.ptr (1 : Nat) (0 : Nat)))]
noncomputable def f_impl_ReadFault_0D : LoopDef (Tup r_impl_ReadFault × OutD) := .rets f_impl_ReadFault_0i f_impl_ReadFault_0o (Int × Int × Int) ((Int × Int × Int) × Bool) (fun k x => f_impl_ReadFault_0 k x.1.2.1.1 x.1.2.1.2.1 x.1.2.1.2.2.1 x.2.1 x.2.2.2.1) (fun z => (((), (z.1, z.2.1, z.2.2, ()), ()), ((), ()))) (fun y => (y.1.2.1.1, y.1.2.1.2.1, y.1.2.1.2.2.1)) (fun _ => rfl) to_impl_ReadFault of_impl_ReadFault to_of_impl_ReadFault
noncomputable def f_impl_ReadFault : Nat → ByteArray → Option ((Int × Int × Int) × Bool)
  | 0, _ => none
  | k + 1, p0 =>
    Option.bind (f_impl_ReadFault_0 k (0 : Int) (0 : Int) (0 : Int) p0 (1 : Int)) fun z2 => LR.on z2 (fun y2 => some (((0 : Int), (0 : Int), (0 : Int)), false)) fun r2 => some r2
noncomputable def d_impl_ReadFault : FnDef := .of q_impl_ReadFault r_impl_ReadFault ((Int × Int × Int) × Bool) (fun k x => f_impl_ReadFault k x.1) to_impl_ReadFault of_impl_ReadFault to_of_impl_ReadFault
noncomputable def c_impl_ReadFault : Code := Tryd.f10.body.getD .skip
noncomputable def x_impl_ReadFault : Ctx (Tup r_impl_ReadFault × OutD) := { T := T, G := [(28, d_strings_CutPrefix.E), (8, d_impl_FaultName.E)], mvs := [], no := 0, n := 54, res := resOf T q_impl_ReadFault r_impl_ReadFault Tryd.f10.results.toList, loops := [(0, f_impl_ReadFault_0D.E)], regs := [], conds := [] }
theorem g_impl_ReadFault (k : Nat) : EnvOK Tryd.prog k x_impl_ReadFault.G := (EnvOK.cons (s_strings_CutPrefix k) (EnvOK.cons (s_impl_FaultName k) (EnvOK.nil mixed)))
noncomputable def f_impl_ReadFault_0B : Code := (findLoop 0 c_impl_ReadFault).getD .skip
theorem f_impl_ReadFault_0h (k : Nat) (x : f_impl_ReadFault_0i.D) : f_impl_ReadFault_0D.lp (k + 1) x = loopK x_impl_ReadFault f_impl_ReadFault_0D 0 f_impl_ReadFault_0B k x := by kernel_rfl
theorem f_impl_ReadFault_0l (k : Nat) : LOK Tryd.prog x_impl_ReadFault k f_impl_ReadFault_0B := LOK.by [] (by kernel_rfl) AllOK.nil
theorem f_impl_ReadFault_0z (x : f_impl_ReadFault_0i.D) : f_impl_ReadFault_0D.lp 0 x = none := by kernel_rfl
theorem f_impl_ReadFault_0ok (k : Nat) : EOK Tryd.prog x_impl_ReadFault k f_impl_ReadFault_0D.E (.block 0 (.loop f_impl_ReadFault_0B)) := loop_ok T_ok g_impl_ReadFault f_impl_ReadFault_0z f_impl_ReadFault_0h f_impl_ReadFault_0l k
theorem h_impl_ReadFault (k : Nat) (x : Tup d_impl_ReadFault.ps) : d_impl_ReadFault.f (k + 1) x = fnK d_impl_ReadFault x_impl_ReadFault c_impl_ReadFault k x := by kernel_rfl
theorem z_impl_ReadFault (x : Tup d_impl_ReadFault.ps) : d_impl_ReadFault.f 0 x = none := by kernel_rfl
theorem l_impl_ReadFault (k : Nat) : LOK Tryd.prog x_impl_ReadFault k c_impl_ReadFault := LOK.by [(f_impl_ReadFault_0D.E, .block 0 (.loop f_impl_ReadFault_0B))] (by kernel_rfl) (AllOK.cons (f_impl_ReadFault_0ok k) AllOK.nil)
theorem s_impl_ReadFault (k : Nat) : SoundAt Tryd.prog k 10 d_impl_ReadFault.E := @fn_all Tryd.prog d_impl_ReadFault x_impl_ReadFault 10 Tryd.f10 c_impl_ReadFault (by kernel_rfl) (by kernel_rfl) (by kernel_rfl) Tryd.func10 (by kernel_rfl) (by kernel_rfl) (by kernel_rfl) T_ok g_impl_ReadFault l_impl_ReadFault z_impl_ReadFault h_impl_ReadFault k
/-! function 31 -/
/-! function 35 -/
end
end Go.Proofs.YtkmbhhgibgocpaaDoor.Vs

set_option maxRecDepth 100000
set_option maxHeartbeats 2000000
set_option linter.unusedVariables false
set_option linter.unusedSimpArgs false
namespace Go.Proofs.YtkmbhhgibgocpaaDoor.Vs
open Go.RowKit
noncomputable section
/-! function 4 -/
noncomputable def r_laws_FnExactReadFault : List PK := [PK.mk Ty.bool false none false none]
noncomputable def q_laws_FnExactReadFault : List PK := [PK.mk Ty.str false none false none]
noncomputable def to_laws_FnExactReadFault (r : Bool) : Tup r_laws_FnExactReadFault × OutD := ((r, ()), none)
noncomputable def of_laws_FnExactReadFault : Tup r_laws_FnExactReadFault × OutD → Option (Bool)
  | (a, none) => some (a.1)
  | _ => none
theorem to_of_laws_FnExactReadFault : ∀ b r, of_laws_FnExactReadFault b = some r → to_laws_FnExactReadFault r = b := by
  rintro ⟨a, o⟩ r h
  cases o with
  | none => injection h with h; subst h; rfl
  | some _ => cases h
noncomputable def f_laws_FnExactReadFault : Nat → ByteArray → Option Bool
  | 0, _ => none
  | k + 1, p0 =>
    if decide ((↑(ByteArray.size p0) : Int) > (1048576 : Int)) = true then some true else Option.bind (f_spec_ReadFault k p0) fun z0 => Option.bind (f_impl_ReadFault k p0) fun z1 => Option.bind (f_laws_eqFault k (Prod.fst (Prod.fst z1), Prod.fst (Prod.snd (Prod.fst z1)), Prod.snd (Prod.snd (Prod.fst z1))) (Prod.fst (Prod.fst z0), Prod.fst (Prod.snd (Prod.fst z0)), Prod.snd (Prod.snd (Prod.fst z0)))) fun z2 => if (!z2) = true then some false else if (!Prod.snd z1 == Prod.snd z0) = true then some false else some true
noncomputable def d_laws_FnExactReadFault : FnDef := .of q_laws_FnExactReadFault r_laws_FnExactReadFault (Bool) (fun k x => f_laws_FnExactReadFault k x.1) to_laws_FnExactReadFault of_laws_FnExactReadFault to_of_laws_FnExactReadFault
noncomputable def c_laws_FnExactReadFault : Code := Tryd.f4.body.getD .skip
noncomputable def x_laws_FnExactReadFault : Ctx (Tup r_laws_FnExactReadFault × OutD) := { T := T, G := [(9, d_spec_ReadFault.E), (10, d_impl_ReadFault.E), (11, d_laws_eqFault.E)], mvs := [], no := 0, n := 29, res := resOf T q_laws_FnExactReadFault r_laws_FnExactReadFault Tryd.f4.results.toList, loops := [], regs := [], conds := [] }
theorem g_laws_FnExactReadFault (k : Nat) : EnvOK Tryd.prog k x_laws_FnExactReadFault.G := (EnvOK.cons (s_spec_ReadFault k) (EnvOK.cons (s_impl_ReadFault k) (EnvOK.cons (s_laws_eqFault k) (EnvOK.nil mixed))))
theorem h_laws_FnExactReadFault (k : Nat) (x : Tup d_laws_FnExactReadFault.ps) : d_laws_FnExactReadFault.f (k + 1) x = fnK d_laws_FnExactReadFault x_laws_FnExactReadFault c_laws_FnExactReadFault k x := by kernel_rfl
theorem z_laws_FnExactReadFault (x : Tup d_laws_FnExactReadFault.ps) : d_laws_FnExactReadFault.f 0 x = none := by kernel_rfl
theorem l_laws_FnExactReadFault (k : Nat) : LOK Tryd.prog x_laws_FnExactReadFault k c_laws_FnExactReadFault := LOK.by [] (by kernel_rfl) AllOK.nil
theorem s_laws_FnExactReadFault (k : Nat) : SoundAt Tryd.prog k 4 d_laws_FnExactReadFault.E := @fn_all Tryd.prog d_laws_FnExactReadFault x_laws_FnExactReadFault 4 Tryd.f4 c_laws_FnExactReadFault (by kernel_rfl) (by kernel_rfl) (by kernel_rfl) Tryd.func4 (by kernel_rfl) (by kernel_rfl) (by kernel_rfl) T_ok g_laws_FnExactReadFault l_laws_FnExactReadFault z_laws_FnExactReadFault h_laws_FnExactReadFault k
/-! function 14 -/
/-! function 18 -/
end
end Go.Proofs.YtkmbhhgibgocpaaDoor.Vs

set_option maxRecDepth 100000
set_option maxHeartbeats 2000000
set_option linter.unusedVariables false
set_option linter.unusedSimpArgs false
namespace Go.Proofs.YtkmbhhgibgocpaaDoor.Vs
open Go.RowKit
noncomputable section
/-! function 5 -/
end
end Go.Proofs.YtkmbhhgibgocpaaDoor.Vs

set_option linter.unusedVariables false
set_option linter.unusedSimpArgs false
namespace Go.Proofs.YtkmbhhgibgocpaaDoor.Vs
open Go.RowKit
theorem e_spec_l1In (a b c : Int) : Ev (fun k => f_spec_l1In k a b c) (decide (b ≤ a ∧ a ≤ c)) := by
  refine Ev.succ ?_
  simp only [f_spec_l1In]
  refine Ev.of ?_
  by_cases h1 : b ≤ a <;> by_cases h2 : a ≤ c <;> simp [h1, h2]
end Go.Proofs.YtkmbhhgibgocpaaDoor.Vs

set_option linter.unusedVariables false
set_option linter.unusedSimpArgs false
namespace Go.Proofs.YtkmbhhgibgocpaaDoor.Vs
open Go.RowKit
/-- The names of the kinds. -/
def nameK : List ByteArray := [ByteArray.mk #[115, 116, 117, 99, 107], ByteArray.mk #[104, 111, 108, 101], ByteArray.mk #[116, 117, 114, 110, 101, 100]]
def atS : ByteArray := ByteArray.mk #[32, 97, 116, 32]
def commaS : ByteArray := ByteArray.mk #[44]
def dig (n : Int) : ByteArray := bytesOf [IntKind.wrap IntKind.u8 (wrap64 ((48 : Int) + n))]
def validF (p : Int × Int × Int) : Prop := 1 ≤ p.1 ∧ p.1 ≤ 3 ∧ 0 ≤ p.2.1 ∧ p.2.1 ≤ 9 ∧ 0 ≤ p.2.2 ∧ p.2.2 ≤ 9
instance (p : Int × Int × Int) : Decidable (validF p) := by unfold validF; infer_instance
def nameF (p : Int × Int × Int) : ByteArray := List.getD nameK (Int.toNat (p.1 - 1)) (ByteArray.mk #[]) ++ atS ++ dig p.2.1 ++ commaS ++ dig p.2.2
theorem size_app (a b : ByteArray) : (a ++ b).size = a.size + b.size := ByteArray.size_append
theorem size_dig (n : Int) : (dig n).size = 1 := rfl
theorem ten {n : Int} (h0 : 0 ≤ n) (h1 : n ≤ 9) : n = 0 ∨ n = 1 ∨ n = 2 ∨ n = 3 ∨ n = 4 ∨ n = 5 ∨ n = 6 ∨ n = 7 ∨ n = 8 ∨ n = 9 := by omega
theorem e_internal_strconv_small (n : Int) (h0 : 0 ≤ n) (h1 : n ≤ 9) : Ev (fun k => f_internal_strconv_small k n) (dig n) := by
  rcases ten h0 h1 with rfl | rfl | rfl | rfl | rfl | rfl | rfl | rfl | rfl | rfl <;> exact Ev.succ (Ev.of (by kernel_rfl))
theorem e_strconv_Itoa (n : Int) (h0 : 0 ≤ n) (h1 : n ≤ 9) : Ev (fun k => f_strconv_Itoa k n) (dig n) := by
  refine Ev.succ (Ev.bind (Ev.succ (Ev.bind (a := dig n) (Ev.succ ?_) (Ev.some _))) (Ev.some _))
  have h2 : n < 100 := by omega
  simp only [f_internal_strconv_FormatInt, decide_eq_true_eq, if_true, h0, h2]
  exact Ev.bind (e_internal_strconv_small n h0 h1) (Ev.some _)
theorem e_spec_l1Num (n : Int) (h0 : 0 ≤ n) (h1 : n ≤ 9) : Ev (fun k => f_spec_l1Num k n) (dig n) := by
  refine Ev.succ ?_
  have h2 : n < 10 := by omega
  simp only [f_spec_l1Num, decide_eq_true_eq, if_true, h2]
  exact Ev.some _
theorem e_impl_FaultName (p : Int × Int × Int) (h : validF p) : Ev (fun k => f_impl_FaultName k p) (nameF p, true) := by
  obtain ⟨kind, row, column⟩ := p
  obtain ⟨a1, a2, a3, a4, a5, a6⟩ := h
  simp only at a1 a2 a3 a4 a5 a6
  refine Ev.succ ?_
  have b1 : ¬ kind < 1 := by omega
  have b2 : ¬ kind > 3 := by omega
  have b3 : ¬ row < 0 := by omega
  have b4 : ¬ row > 9 := by omega
  have b5 : ¬ column < 0 := by omega
  have b6 : ¬ column > 9 := by omega
  have b7 : wrap64 (kind - 1) = kind - 1 := w64 (by omega) (by omega)
  have b8 : (0 : Int) ≤ kind - 1 := by omega
  have b9 : kind - 1 < ((3 : Nat) : Int) := by omega
  have b10 : (kind - 1).toNat < 3 := by omega
  simp only [f_impl_FaultName, decide_eq_true_eq, if_false, if_true, b1, b2, b3, b4, b5, b6, b7, b8, b9, b10, List.length_cons, List.length_nil]
  have hk : kind = 1 ∨ kind = 2 ∨ kind = 3 := by omega
  have go : ∀ s : ByteArray, s.size ≤ 10 → Ev (fun k => if s.size + (ByteArray.mk #[32, 97, 116, 32]).size ≤ 9223372036854775807 then Option.bind (f_strconv_Itoa k row) fun z0 => if (s ++ ByteArray.mk #[32, 97, 116, 32]).size + z0.size ≤ 9223372036854775807 then if (s ++ ByteArray.mk #[32, 97, 116, 32] ++ z0).size + (ByteArray.mk #[44]).size ≤ 9223372036854775807 then Option.bind (f_strconv_Itoa k column) fun z1 => if (s ++ ByteArray.mk #[32, 97, 116, 32] ++ z0 ++ ByteArray.mk #[44]).size + z1.size ≤ 9223372036854775807 then some (s ++ ByteArray.mk #[32, 97, 116, 32] ++ z0 ++ ByteArray.mk #[44] ++ z1, true) else none else none else none else none)
      (s ++ atS ++ dig row ++ commaS ++ dig column, true) := by
    intro s hs
    have e1 : (ByteArray.mk #[32, 97, 116, 32]).size = 4 := rfl
    have e2 : (ByteArray.mk #[44]).size = 1 := rfl
    refine Ev.ite (fun _ => ?_) (fun hn => (hn (by rw [e1]; omega)).elim)
    refine Ev.bind (e_strconv_Itoa row a3 a4) ?_
    refine Ev.ite (fun _ => ?_) (fun hn => (hn (by simp only [size_app, e1, size_dig]; omega)).elim)
    refine Ev.ite (fun _ => ?_) (fun hn => (hn (by simp only [size_app, e1, e2, size_dig]; omega)).elim)
    refine Ev.bind (e_strconv_Itoa column a5 a6) ?_
    refine Ev.ite (fun _ => ?_) (fun hn => (hn (by simp only [size_app, e1, e2, size_dig]; omega)).elim)
    exact Ev.some _
  rcases hk with rfl | rfl | rfl
  · exact go (ByteArray.mk #[115, 116, 117, 99, 107]) (by decide)
  · exact go (ByteArray.mk #[104, 111, 108, 101]) (by decide)
  · exact go (ByteArray.mk #[116, 117, 114, 110, 101, 100]) (by decide)
theorem e_impl_FaultName_not (p : Int × Int × Int) (h : ¬ validF p) : Ev (fun k => f_impl_FaultName k p) (ByteArray.mk #[], false) := by
  obtain ⟨kind, row, column⟩ := p
  refine Ev.succ ?_
  simp only [f_impl_FaultName, decide_eq_true_eq]
  refine Ev.ite (fun _ => Ev.some _) (fun b1 => Ev.ite (fun _ => Ev.some _) (fun b2 => Ev.ite (fun _ => Ev.some _) (fun b3 => Ev.ite (fun _ => Ev.some _) (fun b4 => Ev.ite (fun _ => Ev.some _) (fun b5 => Ev.ite (fun _ => Ev.some _) (fun b6 => ?_))))))
  refine (h ⟨?_, ?_, ?_, ?_, ?_, ?_⟩).elim <;> simp only <;> omega
theorem e_spec_faNamed (p : Int × Int × Int) : Ev (fun k => f_spec_faNamed k p) (decide (validF p)) := by
  obtain ⟨kind, row, column⟩ := p
  refine Ev.succ ?_
  simp only [f_spec_faNamed]
  refine Ev.bind (e_spec_l1In _ _ _) ?_
  refine Ev.ite (fun h1 => ?_) (fun h1 => (Ev.some _).congr (by simp only [decide_eq_true_eq] at h1; symm; rw [decide_eq_false_iff_not]; intro hv; exact h1 ⟨hv.1, hv.2.1⟩))
  refine Ev.bind (e_spec_l1In _ _ _) ?_
  refine Ev.ite (fun h2 => ?_) (fun h2 => (Ev.some _).congr (by simp only [decide_eq_true_eq] at h2; symm; rw [decide_eq_false_iff_not]; intro hv; exact h2 ⟨hv.2.2.1, hv.2.2.2.1⟩))
  refine Ev.bind (e_spec_l1In _ _ _) ?_
  refine (Ev.some _).congr ?_
  simp only [decide_eq_true_eq] at h1 h2
  apply decide_eq_decide.2
  exact ⟨fun h3 => ⟨h1.1, h1.2, h2.1, h2.2, h3.1, h3.2⟩, fun hv => ⟨hv.2.2.2.2.1, hv.2.2.2.2.2⟩⟩
theorem e_spec_faName (p : Int × Int × Int) (h : validF p) : Ev (fun k => f_spec_faName k p) (nameF p) := by
  obtain ⟨kind, row, column⟩ := p
  obtain ⟨a1, a2, a3, a4, a5, a6⟩ := h
  simp only at a1 a2 a3 a4 a5 a6
  refine Ev.succ ?_
  have b1 : (0 : Int) ≤ kind := by omega
  have b2 : kind < ((4 : Nat) : Int) := by omega
  simp only [f_spec_faName]
  refine Ev.bind (Ev.succ (Ev.some _)) ?_
  simp only [if_true, b1, b2, List.length_cons, List.length_nil, Nat.reduceAdd, Nat.zero_add]
  have hk : kind = 1 ∨ kind = 2 ∨ kind = 3 := by omega
  have go : ∀ s : ByteArray, s.size ≤ 10 → Ev (fun k => if s.size + (ByteArray.mk #[32, 97, 116, 32]).size ≤ 9223372036854775807 then Option.bind (f_spec_l1Num k row) fun z0 => if (s ++ ByteArray.mk #[32, 97, 116, 32]).size + z0.size ≤ 9223372036854775807 then if (s ++ ByteArray.mk #[32, 97, 116, 32] ++ z0).size + (ByteArray.mk #[44]).size ≤ 9223372036854775807 then Option.bind (f_spec_l1Num k column) fun z1 => if (s ++ ByteArray.mk #[32, 97, 116, 32] ++ z0 ++ ByteArray.mk #[44]).size + z1.size ≤ 9223372036854775807 then some (s ++ ByteArray.mk #[32, 97, 116, 32] ++ z0 ++ ByteArray.mk #[44] ++ z1) else none else none else none else none)
      (s ++ atS ++ dig row ++ commaS ++ dig column) := by
    intro s hs
    have e1 : (ByteArray.mk #[32, 97, 116, 32]).size = 4 := rfl
    have e2 : (ByteArray.mk #[44]).size = 1 := rfl
    refine Ev.ite (fun _ => ?_) (fun hn => (hn (by rw [e1]; omega)).elim)
    refine Ev.bind (e_spec_l1Num row a3 a4) ?_
    refine Ev.ite (fun _ => ?_) (fun hn => (hn (by simp only [size_app, e1, size_dig]; omega)).elim)
    refine Ev.ite (fun _ => ?_) (fun hn => (hn (by simp only [size_app, e1, e2, size_dig]; omega)).elim)
    refine Ev.bind (e_spec_l1Num column a5 a6) ?_
    refine Ev.ite (fun _ => ?_) (fun hn => (hn (by simp only [size_app, e1, e2, size_dig]; omega)).elim)
    exact Ev.some _
  rcases hk with rfl | rfl | rfl
  · exact go (ByteArray.mk #[115, 116, 117, 99, 107]) (by decide)
  · exact go (ByteArray.mk #[104, 111, 108, 101]) (by decide)
  · exact go (ByteArray.mk #[116, 117, 114, 110, 101, 100]) (by decide)
/-- The name of a fault, if it has one. -/
def nameOf (p : Int × Int × Int) : ByteArray × Bool := if validF p then (nameF p, true) else (ByteArray.mk #[], false)
theorem e_impl_name (p : Int × Int × Int) : Ev (fun k => f_impl_FaultName k p) (nameOf p) := by
  unfold nameOf
  by_cases h : validF p
  · rw [if_pos h]; exact e_impl_FaultName p h
  · rw [if_neg h]; exact e_impl_FaultName_not p h
end Go.Proofs.YtkmbhhgibgocpaaDoor.Vs

set_option linter.unusedVariables false
set_option linter.unusedSimpArgs false
namespace Go.Proofs.YtkmbhhgibgocpaaDoor.Vs
open Go.RowKit
theorem bytes_beq (a b : ByteArray) : (a.toList == b.toList) = decide (a = b) := by
  rw [ByteArray.toList_eq, ByteArray.toList_eq]
  by_cases h : a = b
  · subst h; simp
  · have : a.data.toList ≠ b.data.toList := by
      intro he
      apply h
      have : a.data = b.data := by apply Array.ext'; exact he
      cases a; cases b; simp only at this; subst this; rfl
    rw [decide_eq_false h, beq_eq_false_iff_ne]; exact this
theorem size_sub (s : ByteArray) (a b : Nat) : (subS s a b).size = min b s.size - a := ByteArray.size_extract
/-! ### Parts -/
def spG (s : ByteArray) (b : Int) : Nat → List ByteArray → Nat → Nat → List ByteArray × Nat
  | 0, o, f, _ => (o, f)
  | n + 1, o, f, i => if byteAt s i = b then spG s b n (o ++ [subS s f i]) (i + 1) (i + 1) else spG s b n o f (i + 1)
theorem spG_bd (s : ByteArray) (b : Int) : ∀ (n : Nat) (o : List ByteArray) (f i : Nat), i + n = s.size → f ≤ i → o.length ≤ i → (∀ x ∈ o, x.size ≤ s.size) →
    (spG s b n o f i).2 ≤ s.size ∧ (spG s b n o f i).1.length ≤ s.size ∧ ∀ x ∈ (spG s b n o f i).1, x.size ≤ s.size
  | 0, o, f, i, h, hf, ho, hx => ⟨by simp only [spG]; omega, by simp only [spG]; omega, hx⟩
  | n + 1, o, f, i, h, hf, ho, hx => by
    simp only [spG]
    split
    · refine spG_bd s b n _ _ _ (by omega) (Nat.le_refl _) (by simp; omega) (fun x hx' => ?_)
      rcases List.mem_append.1 hx' with hx' | hx'
      · exact hx x hx'
      · rw [List.mem_singleton.1 hx', size_sub]; omega
    · exact spG_bd s b n _ _ _ (by omega) (by omega) (by omega) hx
def splitP (s : ByteArray) (b : Int) : List ByteArray := (spG s b s.size [] 0 0).1 ++ [subS s (spG s b s.size [] 0 0).2 s.size]
theorem split_bd (s : ByteArray) (b : Int) : ∀ x ∈ splitP s b, x.size ≤ s.size := by
  intro x hx
  rcases List.mem_append.1 hx with hx | hx
  · exact (spG_bd s b s.size [] 0 0 (by omega) (by omega) (by simp) (by simp)).2.2 x hx
  · rw [List.mem_singleton.1 hx, size_sub]; omega
theorem e_spec_l1Split_0 (s : ByteArray) (b : Int) (hs : s.size ≤ 1048576) : ∀ (n : Nat) (o : List ByteArray) (f i : Nat), i + n = s.size → f ≤ i → o.length ≤ i →
    Ev (fun k => f_spec_l1Split_0 k o s b (f : Int) (i : Int)) ((spG s b n o f i).1, s, ((spG s b n o f i).2 : Int))
  | 0, o, f, i, h, hf, ho => by
    refine Ev.succ ?_
    have h1 : ¬ ((i : Int) < (s.size : Int)) := by omega
    simp only [f_spec_l1Split_0, decide_eq_true_eq, h1, if_false, spG]
    exact Ev.some _
  | n + 1, o, f, i, h, hf, ho => by
    refine Ev.succ ?_
    have h1 : (i : Int) < (s.size : Int) := by omega
    have h2 : (0 : Int) ≤ (i : Int) := by omega
    have h3 : (0 : Int) ≤ (f : Int) := by omega
    have h4 : (f : Int) ≤ (i : Int) := by omega
    have h5 : (i : Int) ≤ (s.size : Int) := by omega
    have h6 : wrap64 ((i : Int) + 1) = ((i + 1 : Nat) : Int) := by rw [w64 (by omega) (by omega)]; omega
    have h7 : o.length + [subS s f i].length ≤ 140737488355328 / 16 := by simp only [List.length_cons, List.length_nil]; omega
    simp only [f_spec_l1Split_0, decide_eq_true_eq, h1, h2, h3, h4, h5, h6, if_true, Int.toNat_natCast, spG]
    by_cases hb : byteAt s i = b
    · simp only [hb, if_true]
      refine Ev.ite (fun _ => ?_) (fun hn => (hn h7).elim)
      exact e_spec_l1Split_0 s b hs n _ _ _ (by omega) (Nat.le_refl _) (by simp; omega)
    · simp only [hb, if_false]
      exact e_spec_l1Split_0 s b hs n _ _ _ (by omega) (by omega) (by omega)
theorem e_spec_l1Split (s : ByteArray) (b : Int) (hs : s.size ≤ 1048576) : Ev (fun k => f_spec_l1Split k s b) (splitP s b) := by
  refine Ev.succ ?_
  simp only [f_spec_l1Split]
  refine Ev.bind (e_spec_l1Split_0 s b hs s.size [] 0 0 (by omega) (by omega) (by simp)) ?_
  obtain ⟨h1, h2, _⟩ := spG_bd s b s.size [] 0 0 (by omega) (by omega) (by simp) (by simp)
  have h3 : (0 : Int) ≤ ((spG s b s.size [] 0 0).2 : Int) := by omega
  have h4 : ((spG s b s.size [] 0 0).2 : Int) ≤ (s.size : Int) := by omega
  have h5 : (s.size : Int) ≤ (s.size : Int) := by omega
  simp only [h3, h4, h5, if_true, Int.toNat_natCast]
  refine Ev.ite (fun _ => ?_) (fun hn => (hn (by simp only [List.length_cons, List.length_nil]; omega)).elim)
  exact Ev.some _
/-! ### Numbers -/
def rdG (s : ByteArray) : Nat → Int → Nat → LR Int Int
  | 0, v, _ => .go v
  | n + 1, v, i => if byteAt s i < 48 then .ret (-1) else if byteAt s i > 57 then .ret (-1) else rdG s n (wrap64 (wrap64 (10 * v) + wrap64 (IntKind.wrap IntKind.u8 (byteAt s i - 48)))) (i + 1)
def rdV : LR Int Int → Int
  | .go v => v
  | .ret v => v
def readN (s : ByteArray) : Int := if 1 ≤ s.size ∧ s.size ≤ 6 then (if byteAt s 0 = 48 ∧ 1 < s.size then -1 else rdV (rdG s s.size 0 0)) else -1
theorem e_spec_l1Read_0 (s : ByteArray) (hs : s.size ≤ 1048576) : ∀ (n : Nat) (v : Int) (i : Nat), i + n = s.size → Ev (fun k => f_spec_l1Read_0 k s v (i : Int)) (rdG s n v i)
  | 0, v, i, h => by
    refine Ev.succ ?_
    have h1 : ¬ ((i : Int) < (s.size : Int)) := by omega
    simp only [f_spec_l1Read_0, decide_eq_true_eq, h1, if_false, rdG]
    exact Ev.some _
  | n + 1, v, i, h => by
    refine Ev.succ ?_
    have h1 : (i : Int) < (s.size : Int) := by omega
    have h2 : (0 : Int) ≤ (i : Int) := by omega
    have h6 : wrap64 ((i : Int) + 1) = ((i + 1 : Nat) : Int) := by rw [w64 (by omega) (by omega)]; omega
    simp only [f_spec_l1Read_0, decide_eq_true_eq, h1, h2, h6, if_true, Int.toNat_natCast, rdG]
    by_cases g1 : byteAt s i < 48
    · simp only [g1, if_true]; exact Ev.some _
    · by_cases g2 : byteAt s i > 57
      · simp only [g1, g2, if_true, if_false]; exact Ev.some _
      · simp only [g1, g2, if_false]
        exact e_spec_l1Read_0 s hs n _ _ (by omega)
theorem e_spec_l1Read (s : ByteArray) (hs : s.size ≤ 1048576) : Ev (fun k => f_spec_l1Read k s) (readN s) := by
  refine Ev.succ ?_
  simp only [f_spec_l1Read]
  refine Ev.bind (e_spec_l1In _ _ _) ?_
  unfold readN
  by_cases h : 1 ≤ s.size ∧ s.size ≤ 6
  · have h1 : (1 : Int) ≤ (s.size : Int) ∧ (s.size : Int) ≤ 6 := by omega
    have h2 : (0 : Int) < (s.size : Int) := by omega
    have h0 := e_spec_l1Read_0 s hs s.size 0 0 (by omega)
    have go : Ev (fun k => Option.bind (f_spec_l1Read_0 k s 0 0) fun z1 => LR.on z1 (fun y1 => some y1) fun r1 => some r1) (rdV (rdG s s.size 0 0)) := by
      refine Ev.bind h0 ?_
      cases rdG s s.size 0 0 with
      | go v => exact Ev.go (Ev.some _)
      | ret v => exact Ev.ret (Ev.some _)
    simp only [h1, h, and_self, decide_true, Bool.not_true, Bool.false_eq_true, if_false, h2, if_true, decide_eq_true_eq, Int.toNat_zero, true_and]
    by_cases g1 : byteAt s 0 = 48
    · by_cases g2 : 1 < s.size
      · have g3 : (s.size : Int) > 1 := by omega
        simp only [g1, g2, g3, and_self, if_true]; exact Ev.some _
      · have g3 : ¬ (s.size : Int) > 1 := by omega
        simp only [g1, g2, g3, and_false, if_true, if_false]; exact go
    · simp only [g1, false_and, if_false]; exact go
  · have h1 : ¬ ((1 : Int) ≤ (s.size : Int) ∧ (s.size : Int) ≤ 6) := by omega
    simp only [h1, h, decide_false, Bool.not_false, if_true, if_false]
    exact Ev.some _
/-! ### The reference -/
def sameS (a b : ByteArray) : Bool := a.data.toList == b.data.toList
theorem sameS_eq (a b : ByteArray) : sameS a b = decide (a = b) := by rw [← bytes_beq, ByteArray.toList_eq, ByteArray.toList_eq]; rfl
theorem same_beq (a b : ByteArray) : (a.toList == b.toList) = sameS a b := by rw [ByteArray.toList_eq, ByteArray.toList_eq]; rfl
def kindG (w : ByteArray) : List ByteArray → Int → Int → Int
  | [], _, v => v
  | x :: l, i, v => kindG w l (i + 1) (if sameS x w then i else v)
def names4 : List ByteArray := [ByteArray.mk #[], ByteArray.mk #[115, 116, 117, 99, 107], ByteArray.mk #[104, 111, 108, 101], ByteArray.mk #[116, 117, 114, 110, 101, 100]]
def readP (s : ByteArray) : (Int × Int × Int) × Bool :=
  if (splitP s 32).length ≠ 3 then ((0, 0, 0), false) else if (splitP (List.getD (splitP s 32) 2 (ByteArray.mk #[])) 44).length ≠ 2 then ((0, 0, 0), false) else
  if validF (kindG (List.getD (splitP s 32) 0 (ByteArray.mk #[])) names4 0 0, readN (List.getD (splitP (List.getD (splitP s 32) 2 (ByteArray.mk #[])) 44) 0 (ByteArray.mk #[])), readN (List.getD (splitP (List.getD (splitP s 32) 2 (ByteArray.mk #[])) 44) 1 (ByteArray.mk #[]))) then
    (if sameS (nameF (kindG (List.getD (splitP s 32) 0 (ByteArray.mk #[])) names4 0 0, readN (List.getD (splitP (List.getD (splitP s 32) 2 (ByteArray.mk #[])) 44) 0 (ByteArray.mk #[])), readN (List.getD (splitP (List.getD (splitP s 32) 2 (ByteArray.mk #[])) 44) 1 (ByteArray.mk #[])))) s then
      ((kindG (List.getD (splitP s 32) 0 (ByteArray.mk #[])) names4 0 0, readN (List.getD (splitP (List.getD (splitP s 32) 2 (ByteArray.mk #[])) 44) 0 (ByteArray.mk #[])), readN (List.getD (splitP (List.getD (splitP s 32) 2 (ByteArray.mk #[])) 44) 1 (ByteArray.mk #[]))), true) else ((0, 0, 0), false))
  else ((0, 0, 0), false)
theorem e_spec_ReadFault_0 (s : ByteArray) (w : List ByteArray) (hw : 0 < w.length) (row column : Int) : ∀ (r pre : List ByteArray) (kind : Int), (pre ++ r).length ≤ 4 →
    Ev (fun k => f_spec_ReadFault_0 k 0 0 0 w kind row column (pre ++ r) s ((pre ++ r).length : Int) (pre.length : Int)) (0, 0, 0, kindG (List.getD w 0 (ByteArray.mk #[])) r (pre.length : Int) kind, row, column, s)
  | [], pre, kind, hl => by
    refine Ev.succ ?_
    simp only [f_spec_ReadFault_0, nlt_end, decide_false, Bool.false_eq_true, if_false, kindG]
    exact Ev.some _
  | x :: r, pre, kind, hl => by
    have ih := fun kd => e_spec_ReadFault_0 s w hw row column r (pre ++ [x]) kd (by simpa using hl)
    refine Ev.succ ?_
    have hw2 : (0 : Int) < (w.length : Int) := by omega
    simp only [f_spec_ReadFault_0, lt_mid, ge_mid, decide_true, if_true, Int.toNat_natCast, getD_mid, hw2, Int.toNat_zero, same_beq, kindG]
    rw [next_mid pre x r (by omega)]
    have hlen : ((pre ++ [x]).length : Int) = (pre.length : Int) + 1 := by simp
    simp only [← shift_mid] at ih
    by_cases hx : sameS x (List.getD w 0 (ByteArray.mk #[])) = true
    · simp only [hx, if_true]
      have := ih (pre.length : Int)
      rw [hlen] at this ⊢
      exact this
    · simp only [hx, Bool.false_eq_true, if_false]
      have := ih kind
      rw [hlen] at this ⊢
      exact this
theorem getD_size {l : List ByteArray} {n : Nat} {m : Nat} (h : ∀ x ∈ l, x.size ≤ m) : (List.getD l n (ByteArray.mk #[])).size ≤ m := by
  rw [List.getD]
  cases hn : l[n]? with
  | none => simp only [Option.getD_none]; exact Nat.zero_le _
  | some x => simp only [Option.getD_some]; exact h x (List.mem_of_getElem? hn)
theorem e_spec_ReadFault (s : ByteArray) (hs : s.size ≤ 1048576) : Ev (fun k => f_spec_ReadFault k s) (readP s) := by
  refine Ev.succ ?_
  simp only [f_spec_ReadFault]
  refine Ev.bind (e_spec_l1Split s 32 hs) ?_
  unfold readP
  by_cases h3 : (splitP s 32).length = 3
  · have h3' : ((splitP s 32).length : Int) = 3 := by omega
    have h2 : (2 : Int) < ((splitP s 32).length : Int) := by omega
    simp only [h3, show ((3 : Nat) : Int) = 3 from rfl, ne_eq, not_true_eq_false, decide_false, Bool.false_eq_true, if_false]
    refine Ev.ite (fun _ => ?_) (fun hn => (hn (by first | trivial | omega)).elim)
    have hs2 := getD_size (n := 2) (split_bd s 32)
    refine Ev.bind (e_spec_l1Split (List.getD (splitP s 32) 2 (ByteArray.mk #[])) 44 (by omega)) ?_
    by_cases h4 : (splitP (List.getD (splitP s 32) 2 (ByteArray.mk #[])) 44).length = 2
    · have h4' : ((splitP (List.getD (splitP s 32) 2 (ByteArray.mk #[])) 44).length : Int) = 2 := by omega
      simp only [h4, show ((2 : Nat) : Int) = 2 from rfl, ne_eq, not_true_eq_false, decide_false, Bool.false_eq_true, if_false]
      have g7 : Ev (fun k => f_spec_ReadFault_g7 k 0 0 0 (splitP s 32) (splitP (List.getD (splitP s 32) 2 (ByteArray.mk #[])) 44) s)
          (0, 0, 0, splitP s 32, 0, readN (List.getD (splitP (List.getD (splitP s 32) 2 (ByteArray.mk #[])) 44) 0 (ByteArray.mk #[])), readN (List.getD (splitP (List.getD (splitP s 32) 2 (ByteArray.mk #[])) 44) 1 (ByteArray.mk #[])), s) := by
        simp only [f_spec_ReadFault_g7]
        refine Ev.ite (fun _ => ?_) (fun hn => (hn (by omega)).elim)
        refine Ev.ite (fun _ => ?_) (fun hn => (hn (by omega)).elim)
        simp only [show Int.toNat 0 = 0 from rfl, show Int.toNat 1 = 1 from rfl]
        refine Ev.bind (e_spec_l1Read _ (Nat.le_trans (getD_size (split_bd _ 44)) (by omega))) ?_
        refine Ev.bind (e_spec_l1Read _ (Nat.le_trans (getD_size (split_bd _ 44)) (by omega))) ?_
        exact Ev.some _
      refine Ev.bind g7 ?_
      refine Ev.bind (Ev.succ (Ev.some _)) ?_
      have hl := e_spec_ReadFault_0 s (splitP s 32) (by omega) (readN (List.getD (splitP (List.getD (splitP s 32) 2 (ByteArray.mk #[])) 44) 0 (ByteArray.mk #[]))) (readN (List.getD (splitP (List.getD (splitP s 32) 2 (ByteArray.mk #[])) 44) 1 (ByteArray.mk #[]))) names4 [] 0 (by decide)
      refine Ev.bind hl ?_
      refine Ev.bind (e_spec_faNamed _) ?_
      simp only [List.length_nil, Int.natCast_zero]
      by_cases hv : validF (kindG (List.getD (splitP s 32) 0 (ByteArray.mk #[])) names4 0 0, readN (List.getD (splitP (List.getD (splitP s 32) 2 (ByteArray.mk #[])) 44) 0 (ByteArray.mk #[])), readN (List.getD (splitP (List.getD (splitP s 32) 2 (ByteArray.mk #[])) 44) 1 (ByteArray.mk #[])))
      · simp only [hv, decide_true, Bool.not_true, Bool.false_eq_true, if_false, if_true]
        refine Ev.bind (e_spec_faName _ hv) ?_
        simp only [same_beq]
        cases hn : sameS (nameF (kindG (List.getD (splitP s 32) 0 (ByteArray.mk #[])) names4 0 0, readN (List.getD (splitP (List.getD (splitP s 32) 2 (ByteArray.mk #[])) 44) 0 (ByteArray.mk #[])), readN (List.getD (splitP (List.getD (splitP s 32) 2 (ByteArray.mk #[])) 44) 1 (ByteArray.mk #[])))) s with
        | true => simp only [Bool.not_true, Bool.false_eq_true, if_false, if_true]; exact Ev.some _
        | false => simp only [Bool.not_false, Bool.false_eq_true, if_false, if_true]; exact Ev.some _
      · simp only [hv, decide_false, Bool.not_false, if_true, if_false]
        exact Ev.some _
    · have h4' : ¬ ((splitP (List.getD (splitP s 32) 2 (ByteArray.mk #[])) 44).length : Int) = 2 := by omega
      simp only [h4', h4, ne_eq, not_false_eq_true, decide_true, if_true]
      exact Ev.some _
  · have h3' : ¬ ((splitP s 32).length : Int) = 3 := by omega
    simp only [h3, h3', ne_eq, not_false_eq_true, decide_true, if_true]
    exact Ev.some _
/-! ### The program -/
def cutP (s p : ByteArray) : ByteArray × Bool := if p.size ≤ s.size then (if sameS (subS s 0 p.size) p then (subS s p.size s.size, true) else (s, false)) else (s, false)
theorem e_strings_CutPrefix (s p : ByteArray) : Ev (fun k => f_strings_CutPrefix k s p) (cutP s p) := by
  refine Ev.succ ?_
  simp only [f_strings_CutPrefix]
  refine Ev.bind (a := cutP s p) (Ev.succ ?_) (Ev.some _)
  simp only [f_internal_stringslite_CutPrefix]
  unfold cutP
  refine Ev.bind (a := decide (p.size ≤ s.size) && sameS (subS s 0 p.size) p) (Ev.succ ?_) ?_
  · simp only [f_internal_stringslite_HasPrefix, decide_eq_true_eq]
    by_cases h : p.size ≤ s.size
    · have h1 : (s.size : Int) ≥ (p.size : Int) := by omega
      have h2 : (p.size : Int) ≤ (s.size : Int) := by omega
      simp only [h, h1, h2, if_true, same_beq, Int.toNat_zero, Int.toNat_natCast, decide_true, Bool.true_and]
      exact Ev.some _
    · have h1 : ¬ (s.size : Int) ≥ (p.size : Int) := by omega
      simp only [h, h1, if_false, decide_false, Bool.false_and]
      exact Ev.some _
  · by_cases h : p.size ≤ s.size
    · have h2 : (p.size : Int) ≤ (s.size : Int) := by omega
      have h3 : (s.size : Int) ≤ (s.size : Int) := by omega
      simp only [h, decide_true, Bool.true_and, if_true, h2, h3, Int.toNat_natCast]
      cases sameS (subS s 0 p.size) p with
      | true => simp only [Bool.not_true, Bool.false_eq_true, if_false, if_true]; exact Ev.some _
      | false => simp only [Bool.not_false, Bool.false_eq_true, if_false, if_true]; exact Ev.some _
    · simp only [h, decide_false, Bool.false_and, Bool.not_false, if_true, if_false]
      exact Ev.some _
def candP (s : ByteArray) (v : Int) : Int × Int × Int :=
  (v, wrap64 (wrap64 (byteAt (cutP s (List.getD nameK (Int.toNat (v - 1)) (ByteArray.mk #[]) ++ atS)).1 0) - 48), wrap64 (wrap64 (byteAt (cutP s (List.getD nameK (Int.toNat (v - 1)) (ByteArray.mk #[]) ++ atS)).1 2) - 48))
def tryP (s : ByteArray) (v : Int) : Bool :=
  (cutP s (List.getD nameK (Int.toNat (v - 1)) (ByteArray.mk #[]) ++ atS)).2 && (decide ((cutP s (List.getD nameK (Int.toNat (v - 1)) (ByteArray.mk #[]) ++ atS)).1.size = 3) && (decide (validF (candP s v)) && sameS (nameF (candP s v)) s))
def implP (s : ByteArray) : (Int × Int × Int) × Bool := if tryP s 1 then (candP s 1, true) else if tryP s 2 then (candP s 2, true) else if tryP s 3 then (candP s 3, true) else ((0, 0, 0), false)
theorem size_nameK (n : Nat) : (List.getD nameK n (ByteArray.mk #[])).size ≤ 6 := by
  match n with
  | 0 => decide
  | 1 => decide
  | 2 => decide
  | n + 3 => exact Nat.zero_le _
theorem e_impl_ReadFault_step (s : ByteArray) (v : Int) (h1 : 1 ≤ v) (h2 : v ≤ 3) {r : LR (Int × Int × Int) ((Int × Int × Int) × Bool)} (hy : tryP s v = true → r = .ret (candP s v, true)) (hn : tryP s v = false → Ev (fun k => f_impl_ReadFault_0 k 0 0 0 s (v + 1)) r) :
    Ev (fun k => f_impl_ReadFault_0 k 0 0 0 s v) r := by
  refine Ev.succ ?_
  have b7 : wrap64 (v - 1) = v - 1 := w64 (by omega) (by omega)
  have b11 : wrap64 (v + 1) = v + 1 := w64 (by omega) (by omega)
  have b8 : (0 : Int) ≤ v - 1 := by omega
  have b9 : v - 1 < ((3 : Nat) : Int) := by omega
  have b10 : (v - 1).toNat < 3 := by omega
  have e1 : (ByteArray.mk #[32, 97, 116, 32]).size = 4 := rfl
  simp only [f_impl_ReadFault_0, decide_eq_true_eq, h2, b7, b8, b9, b10, b11, if_true, List.length_cons, List.length_nil]
  change Ev (fun k => if (List.getD nameK (Int.toNat (v - 1)) (ByteArray.mk #[])).size + (ByteArray.mk #[32, 97, 116, 32]).size ≤ 9223372036854775807 then _ else none) r
  refine Ev.ite (fun _ => ?_) (fun hf => (hf (by have := size_nameK (v - 1).toNat; rw [e1]; omega)).elim)
  refine Ev.bind (e_strings_CutPrefix s (List.getD nameK (Int.toNat (v - 1)) (ByteArray.mk #[]) ++ atS)) ?_
  unfold tryP at hy hn
  cases hc : (cutP s (List.getD nameK (Int.toNat (v - 1)) (ByteArray.mk #[]) ++ atS)).2 with
  | false =>
    rw [hc] at hn
    simp only [Bool.false_and, forall_const] at hn
    simp only [Bool.not_false, if_true]
    exact hn
  | true =>
    rw [hc] at hy hn
    simp only [Bool.true_and] at hy hn
    simp only [Bool.not_true, Bool.false_eq_true, if_false]
    by_cases h3 : (cutP s (List.getD nameK (Int.toNat (v - 1)) (ByteArray.mk #[]) ++ atS)).1.size = 3
    · have h3' : ((cutP s (List.getD nameK (Int.toNat (v - 1)) (ByteArray.mk #[]) ++ atS)).1.size : Int) = 3 := by omega
      simp only [h3, decide_true, Bool.true_and] at hy hn
      simp only [h3', ne_eq, not_true_eq_false, if_false, show ((0 : Int) < 3) from by omega, show ((2 : Int) < 3) from by omega, if_true, Int.toNat_zero, show Int.toNat 2 = 2 from rfl]
      refine Ev.bind (e_impl_name (candP s v)) ?_
      unfold nameOf
      by_cases hv : validF (candP s v)
      · simp only [hv, decide_true, Bool.true_and] at hy hn
        simp only [hv, if_true, same_beq]
        cases hs : sameS (nameF (candP s v)) s with
        | true =>
          simp only [if_true]
          rw [hy hs]
          exact Ev.some _
        | false =>
          simp only [Bool.false_eq_true, if_false]
          exact hn hs
      · simp only [hv, decide_false, Bool.false_and, forall_const] at hn
        simp only [hv, if_false, Bool.false_eq_true]
        exact hn
    · have h3' : ¬ ((cutP s (List.getD nameK (Int.toNat (v - 1)) (ByteArray.mk #[]) ++ atS)).1.size : Int) = 3 := by omega
      simp only [h3, decide_false, Bool.false_and, forall_const] at hn
      simp only [h3', ne_eq, not_false_eq_true, if_true]
      exact hn
theorem e_impl_ReadFault (s : ByteArray) : Ev (fun k => f_impl_ReadFault k s) (implP s) := by
  refine Ev.succ ?_
  simp only [f_impl_ReadFault]
  have h4 : Ev (fun k => f_impl_ReadFault_0 k 0 0 0 s (3 + 1)) (.go (0, 0, 0)) := by
    refine Ev.succ ?_
    have : ¬ ((3 : Int) + 1 ≤ 3) := by omega
    simp only [f_impl_ReadFault_0, decide_eq_true_eq, this, if_false]
    exact Ev.some _
  have h1 : Ev (fun k => f_impl_ReadFault_0 k 0 0 0 s 1) (if (implP s).2 then .ret (implP s) else .go (0, 0, 0)) := by
    refine e_impl_ReadFault_step s 1 (by omega) (by omega) (fun h => by simp [implP, h]) (fun hf1 => ?_)
    refine e_impl_ReadFault_step s (1 + 1) (by omega) (by omega) (fun h => by have h' : tryP s 2 = true := h; simp [implP, hf1, h']) (fun hf2 => ?_)
    refine e_impl_ReadFault_step s (1 + 1 + 1) (by omega) (by omega) (fun h => by have h' : tryP s 3 = true := h; have hf2' : tryP s 2 = false := hf2; simp [implP, hf1, hf2', h']) (fun hf3 => ?_)
    have hf3' : tryP s 3 = false := hf3
    have hf2' : tryP s 2 = false := hf2
    have : (implP s).2 = false := by simp [implP, hf1, hf2', hf3']
    rw [this]
    exact h4
  refine Ev.bind h1 ?_
  by_cases h : (implP s).2 = true
  · simp only [h, if_true]
    exact Ev.ret (Ev.some _)
  · simp only [h, Bool.false_eq_true, if_false]
    refine Ev.go ((Ev.some _).congr ?_)
    unfold implP at h ⊢
    split at h
    · simp at h
    · split at h
      · simp at h
      · split at h
        · simp at h
        · simp_all
/-! ### Both -/
theorem all_names : ∀ (a : _root_.Fin 3) (b c : _root_.Fin 10), (decide (readP (nameF ((a.val : Int) + 1, (b.val : Int), (c.val : Int))) = (((a.val : Int) + 1, (b.val : Int), (c.val : Int)), true)) && decide (implP (nameF ((a.val : Int) + 1, (b.val : Int), (c.val : Int))) = (((a.val : Int) + 1, (b.val : Int), (c.val : Int)), true))) = true := by decide +kernel
theorem names_read (x : Int × Int × Int) (h : validF x) : readP (nameF x) = (x, true) ∧ implP (nameF x) = (x, true) := by
  obtain ⟨a, b, c⟩ := x
  obtain ⟨h1, h2, h3, h4, h5, h6⟩ := h
  simp only at h1 h2 h3 h4 h5 h6
  have := all_names ⟨(a - 1).toNat, by omega⟩ ⟨b.toNat, by omega⟩ ⟨c.toNat, by omega⟩
  rw [Bool.and_eq_true, decide_eq_true_eq, decide_eq_true_eq] at this
  have ha : (((a - 1).toNat : Nat) : Int) + 1 = a := by omega
  have hb : ((b.toNat : Nat) : Int) = b := by omega
  have hc : ((c.toNat : Nat) : Int) = c := by omega
  simp only [ha, hb, hc] at this
  exact this
theorem readP_or (s : ByteArray) : readP s = ((0, 0, 0), false) ∨ ∃ x, validF x ∧ nameF x = s := by
  unfold readP
  split
  · exact .inl rfl
  · split
    · exact .inl rfl
    · split
      · rename_i hv
        split
        · rename_i hs
          rw [sameS_eq, decide_eq_true_eq] at hs
          exact .inr ⟨_, hv, hs⟩
        · exact .inl rfl
      · exact .inl rfl
theorem tryP_some {s : ByteArray} {v : Int} (h : tryP s v = true) : ∃ x, validF x ∧ nameF x = s := by
  unfold tryP at h
  simp only [Bool.and_eq_true, decide_eq_true_eq, sameS_eq] at h
  exact ⟨_, h.2.2.1, h.2.2.2⟩
theorem implP_or (s : ByteArray) : implP s = ((0, 0, 0), false) ∨ ∃ x, validF x ∧ nameF x = s := by
  unfold implP
  split
  · rename_i h; exact .inr (tryP_some h)
  · split
    · rename_i h; exact .inr (tryP_some h)
    · split
      · rename_i h; exact .inr (tryP_some h)
      · exact .inl rfl
theorem read_same (s : ByteArray) : readP s = implP s := by
  by_cases h : ∃ x, validF x ∧ nameF x = s
  · obtain ⟨x, hv, rfl⟩ := h
    obtain ⟨h1, h2⟩ := names_read x hv
    rw [h1, h2]
  · rw [(readP_or s).resolve_right h, (implP_or s).resolve_right h]
theorem law_FnExactReadFault (s : ByteArray) : Ev (fun k => f_laws_FnExactReadFault k s) true := by
  refine Ev.succ ?_
  simp only [f_laws_FnExactReadFault, decide_eq_true_eq]
  refine Ev.ite (fun _ => Ev.some _) (fun hs => ?_)
  have hs2 : s.size ≤ 1048576 := by omega
  refine Ev.bind (e_spec_ReadFault s hs2) ?_
  refine Ev.bind (e_impl_ReadFault s) ?_
  rw [← read_same s]
  refine Ev.bind (a := true) (Ev.succ ?_) ?_
  · simp only [f_laws_eqFault, ne_eq, not_true_eq_false, decide_false, Bool.false_eq_true, if_false]
    exact Ev.some _
  · simp only [Bool.not_true, Bool.false_eq_true, if_false, beq_self_eq_true]
    exact Ev.some _
end Go.Proofs.YtkmbhhgibgocpaaDoor.Vs
