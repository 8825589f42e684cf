/- The types of the program, for the machine. -/
import Derived.Test.YtkefbmaagdaodaaVsU
import Derived.Test.YtkefbmaagdaodaaProg
import Derived.KernelRfl
set_option maxRecDepth 100000
namespace Go.Proofs.Ytkefbmaagdaodaa.Vs
open Go.RowKit
noncomputable section
def i3 : TI := ⟨.scal, .int Go.IntKind.i64, 8, false⟩
theorem t3 : TyOK Try.prog 3 i3 := .scal (by kernel_rfl) (by decide) rfl rfl (by kernel_rfl)
theorem dp3 : Deep Try.prog 3 (.int Go.IntKind.i64) := .int (by kernel_rfl)
def i128 : TI := ⟨.struct [(0, 3), (1, 3)], .pair (.int Go.IntKind.i64) (.int Go.IntKind.i64), 16, true⟩
theorem t128 : TyOK Try.prog 128 i128 := .structE (by kernel_rfl) (by kernel_rfl) (by decide) (by kernel_rfl) (by kernel_rfl)
theorem dp128 : Deep Try.prog 128 (.pair (.int Go.IntKind.i64) (.int Go.IntKind.i64)) := .st [.int Go.IntKind.i64, .int Go.IntKind.i64] (tys := [3, 3]) (by simp) (by kernel_rfl) ⟨dp3, dp3, trivial⟩
def i22 : TI := ⟨.slice 128, .slice 128 (.pair (.int Go.IntKind.i64) (.int Go.IntKind.i64)), 24, false⟩
theorem t22 : TyOK Try.prog 22 i22 := .slice (by kernel_rfl) (by decide) rfl (by kernel_rfl)
theorem dp22 : Deep Try.prog 22 (.slice 128 (.pair (.int Go.IntKind.i64) (.int Go.IntKind.i64))) := .slice (by kernel_rfl) (by kernel_rfl) dp128
def i24 : TI := ⟨.struct [(0, 3), (1, 3), (2, 22)], .pair (.int Go.IntKind.i64) (.pair (.int Go.IntKind.i64) (.slice 128 (.pair (.int Go.IntKind.i64) (.int Go.IntKind.i64)))), 40, false⟩
theorem t24 : TyOK Try.prog 24 i24 := .struct (by kernel_rfl) (by decide) (by kernel_rfl) (by kernel_rfl)
theorem dp24 : Deep Try.prog 24 (.pair (.int Go.IntKind.i64) (.pair (.int Go.IntKind.i64) (.slice 128 (.pair (.int Go.IntKind.i64) (.int Go.IntKind.i64))))) := .st [.int Go.IntKind.i64, .int Go.IntKind.i64, .slice 128 (.pair (.int Go.IntKind.i64) (.int Go.IntKind.i64))] (tys := [3, 3, 22]) (by simp) (by kernel_rfl) ⟨dp3, dp3, dp22, trivial⟩
def i89 : TI := ⟨.struct [(0, 3), (1, 3), (2, 3)], .pair (.int Go.IntKind.i64) (.pair (.int Go.IntKind.i64) (.int Go.IntKind.i64)), 24, true⟩
theorem t89 : TyOK Try.prog 89 i89 := .structE (by kernel_rfl) (by kernel_rfl) (by decide) (by kernel_rfl) (by kernel_rfl)
theorem dp89 : Deep Try.prog 89 (.pair (.int Go.IntKind.i64) (.pair (.int Go.IntKind.i64) (.int Go.IntKind.i64))) := .st [.int Go.IntKind.i64, .int Go.IntKind.i64, .int Go.IntKind.i64] (tys := [3, 3, 3]) (by simp) (by kernel_rfl) ⟨dp3, dp3, dp3, trivial⟩
def i25 : TI := ⟨.slice 89, .slice 89 (.pair (.int Go.IntKind.i64) (.pair (.int Go.IntKind.i64) (.int Go.IntKind.i64))), 24, false⟩
theorem t25 : TyOK Try.prog 25 i25 := .slice (by kernel_rfl) (by decide) rfl (by kernel_rfl)
theorem dp25 : Deep Try.prog 25 (.slice 89 (.pair (.int Go.IntKind.i64) (.pair (.int Go.IntKind.i64) (.int Go.IntKind.i64)))) := .slice (by kernel_rfl) (by kernel_rfl) dp89
def i4 : TI := ⟨.scal, .bool, 1, false⟩
theorem t4 : TyOK Try.prog 4 i4 := .scal (by kernel_rfl) (by decide) rfl rfl (by kernel_rfl)
theorem dp4 : Deep Try.prog 4 (.bool) := .bool (by kernel_rfl)
def i123 : TI := ⟨.struct [(0, 3), (1, 3)], .pair (.int Go.IntKind.i64) (.int Go.IntKind.i64), 16, true⟩
theorem t123 : TyOK Try.prog 123 i123 := .structE (by kernel_rfl) (by kernel_rfl) (by decide) (by kernel_rfl) (by kernel_rfl)
theorem dp123 : Deep Try.prog 123 (.pair (.int Go.IntKind.i64) (.int Go.IntKind.i64)) := .st [.int Go.IntKind.i64, .int Go.IntKind.i64] (tys := [3, 3]) (by simp) (by kernel_rfl) ⟨dp3, dp3, trivial⟩
def i30 : TI := ⟨.slice 123, .slice 123 (.pair (.int Go.IntKind.i64) (.int Go.IntKind.i64)), 24, false⟩
theorem t30 : TyOK Try.prog 30 i30 := .slice (by kernel_rfl) (by decide) rfl (by kernel_rfl)
theorem dp30 : Deep Try.prog 30 (.slice 123 (.pair (.int Go.IntKind.i64) (.int Go.IntKind.i64))) := .slice (by kernel_rfl) (by kernel_rfl) dp123
def i32 : TI := ⟨.struct [(0, 3), (1, 3), (2, 30)], .pair (.int Go.IntKind.i64) (.pair (.int Go.IntKind.i64) (.slice 123 (.pair (.int Go.IntKind.i64) (.int Go.IntKind.i64)))), 40, false⟩
theorem t32 : TyOK Try.prog 32 i32 := .struct (by kernel_rfl) (by decide) (by kernel_rfl) (by kernel_rfl)
theorem dp32 : Deep Try.prog 32 (.pair (.int Go.IntKind.i64) (.pair (.int Go.IntKind.i64) (.slice 123 (.pair (.int Go.IntKind.i64) (.int Go.IntKind.i64))))) := .st [.int Go.IntKind.i64, .int Go.IntKind.i64, .slice 123 (.pair (.int Go.IntKind.i64) (.int Go.IntKind.i64))] (tys := [3, 3, 30]) (by simp) (by kernel_rfl) ⟨dp3, dp3, dp30, trivial⟩
def i87 : TI := ⟨.struct [(0, 3), (1, 3), (2, 3)], .pair (.int Go.IntKind.i64) (.pair (.int Go.IntKind.i64) (.int Go.IntKind.i64)), 24, true⟩
theorem t87 : TyOK Try.prog 87 i87 := .structE (by kernel_rfl) (by kernel_rfl) (by decide) (by kernel_rfl) (by kernel_rfl)
theorem dp87 : Deep Try.prog 87 (.pair (.int Go.IntKind.i64) (.pair (.int Go.IntKind.i64) (.int Go.IntKind.i64))) := .st [.int Go.IntKind.i64, .int Go.IntKind.i64, .int Go.IntKind.i64] (tys := [3, 3, 3]) (by simp) (by kernel_rfl) ⟨dp3, dp3, dp3, trivial⟩
def i34 : TI := ⟨.slice 87, .slice 87 (.pair (.int Go.IntKind.i64) (.pair (.int Go.IntKind.i64) (.int Go.IntKind.i64))), 24, false⟩
theorem t34 : TyOK Try.prog 34 i34 := .slice (by kernel_rfl) (by decide) rfl (by kernel_rfl)
theorem dp34 : Deep Try.prog 34 (.slice 87 (.pair (.int Go.IntKind.i64) (.pair (.int Go.IntKind.i64) (.int Go.IntKind.i64)))) := .slice (by kernel_rfl) (by kernel_rfl) dp87
def i45 : TI := ⟨.struct [(0, 3), (1, 3), (2, 3)], .pair (.int Go.IntKind.i64) (.pair (.int Go.IntKind.i64) (.int Go.IntKind.i64)), 24, true⟩
theorem t45 : TyOK Try.prog 45 i45 := .structE (by kernel_rfl) (by kernel_rfl) (by decide) (by kernel_rfl) (by kernel_rfl)
theorem dp45 : Deep Try.prog 45 (.pair (.int Go.IntKind.i64) (.pair (.int Go.IntKind.i64) (.int Go.IntKind.i64))) := .st [.int Go.IntKind.i64, .int Go.IntKind.i64, .int Go.IntKind.i64] (tys := [3, 3, 3]) (by simp) (by kernel_rfl) ⟨dp3, dp3, dp3, trivial⟩
def i50 : TI := ⟨.slice 3, .slice 3 (.int Go.IntKind.i64), 24, false⟩
theorem t50 : TyOK Try.prog 50 i50 := .slice (by kernel_rfl) (by decide) rfl (by kernel_rfl)
theorem dp50 : Deep Try.prog 50 (.slice 3 (.int Go.IntKind.i64)) := .slice (by kernel_rfl) (by kernel_rfl) dp3
def i106 : TI := ⟨.struct [(0, 3), (1, 3), (2, 3)], .pair (.int Go.IntKind.i64) (.pair (.int Go.IntKind.i64) (.int Go.IntKind.i64)), 24, true⟩
theorem t106 : TyOK Try.prog 106 i106 := .structE (by kernel_rfl) (by kernel_rfl) (by decide) (by kernel_rfl) (by kernel_rfl)
theorem dp106 : Deep Try.prog 106 (.pair (.int Go.IntKind.i64) (.pair (.int Go.IntKind.i64) (.int Go.IntKind.i64))) := .st [.int Go.IntKind.i64, .int Go.IntKind.i64, .int Go.IntKind.i64] (tys := [3, 3, 3]) (by simp) (by kernel_rfl) ⟨dp3, dp3, dp3, trivial⟩
def i51 : TI := ⟨.slice 106, .slice 106 (.pair (.int Go.IntKind.i64) (.pair (.int Go.IntKind.i64) (.int Go.IntKind.i64))), 24, false⟩
theorem t51 : TyOK Try.prog 51 i51 := .slice (by kernel_rfl) (by decide) rfl (by kernel_rfl)
theorem dp51 : Deep Try.prog 51 (.slice 106 (.pair (.int Go.IntKind.i64) (.pair (.int Go.IntKind.i64) (.int Go.IntKind.i64)))) := .slice (by kernel_rfl) (by kernel_rfl) dp106
def i56 : TI := ⟨.slice 45, .slice 45 (.pair (.int Go.IntKind.i64) (.pair (.int Go.IntKind.i64) (.int Go.IntKind.i64))), 24, false⟩
theorem t56 : TyOK Try.prog 56 i56 := .slice (by kernel_rfl) (by decide) rfl (by kernel_rfl)
theorem dp56 : Deep Try.prog 56 (.slice 45 (.pair (.int Go.IntKind.i64) (.pair (.int Go.IntKind.i64) (.int Go.IntKind.i64)))) := .slice (by kernel_rfl) (by kernel_rfl) dp45
def i74 : TI := ⟨.slice 50, .slice 50 (.slice 3 (.int Go.IntKind.i64)), 24, false⟩
theorem t74 : TyOK Try.prog 74 i74 := .slice (by kernel_rfl) (by decide) rfl (by kernel_rfl)
theorem dp74 : Deep Try.prog 74 (.slice 50 (.slice 3 (.int Go.IntKind.i64))) := .slice (by kernel_rfl) (by kernel_rfl) dp50
def i115 : TI := ⟨.slice 56, .slice 56 (.slice 45 (.pair (.int Go.IntKind.i64) (.pair (.int Go.IntKind.i64) (.int Go.IntKind.i64)))), 24, false⟩
theorem t115 : TyOK Try.prog 115 i115 := .slice (by kernel_rfl) (by decide) rfl (by kernel_rfl)
theorem dp115 : Deep Try.prog 115 (.slice 56 (.slice 45 (.pair (.int Go.IntKind.i64) (.pair (.int Go.IntKind.i64) (.int Go.IntKind.i64))))) := .slice (by kernel_rfl) (by kernel_rfl) dp56
def i142 : TI := ⟨.slice 4, .slice 4 (.bool), 24, false⟩
theorem t142 : TyOK Try.prog 142 i142 := .slice (by kernel_rfl) (by decide) rfl (by kernel_rfl)
theorem dp142 : Deep Try.prog 142 (.slice 4 (.bool)) := .slice (by kernel_rfl) (by kernel_rfl) dp4
theorem mixed : Try.prog.follows .mixedOrders = true := by kernel_rfl
def T : TT := [(3, i3), (128, i128), (22, i22), (24, i24), (89, i89), (25, i25), (4, i4), (123, i123), (30, i30), (32, i32), (87, i87), (34, i34), (45, i45), (50, i50), (106, i106), (51, i51), (56, i56), (74, i74), (115, i115), (142, i142)]
theorem T_ok : TTok Try.prog T := .of (by unfold T; exact (List.forall_mem_cons.2 ⟨t3, (List.forall_mem_cons.2 ⟨t128, (List.forall_mem_cons.2 ⟨t22, (List.forall_mem_cons.2 ⟨t24, (List.forall_mem_cons.2 ⟨t89, (List.forall_mem_cons.2 ⟨t25, (List.forall_mem_cons.2 ⟨t4, (List.forall_mem_cons.2 ⟨t123, (List.forall_mem_cons.2 ⟨t30, (List.forall_mem_cons.2 ⟨t32, (List.forall_mem_cons.2 ⟨t87, (List.forall_mem_cons.2 ⟨t34, (List.forall_mem_cons.2 ⟨t45, (List.forall_mem_cons.2 ⟨t50, (List.forall_mem_cons.2 ⟨t106, (List.forall_mem_cons.2 ⟨t51, (List.forall_mem_cons.2 ⟨t56, (List.forall_mem_cons.2 ⟨t74, (List.forall_mem_cons.2 ⟨t115, (List.forall_mem_cons.2 ⟨t142, (fun _ h => nomatch h)⟩)⟩)⟩)⟩)⟩)⟩)⟩)⟩)⟩)⟩)⟩)⟩)⟩)⟩)⟩)⟩)⟩)⟩)⟩)⟩))
end
end Go.Proofs.Ytkefbmaagdaodaa.Vs
