/- The types of the program, for the machine. -/
import Derived.Test.YtcmndffpmjinlaaVsU
import Derived.Test.YtcmndffpmjinlaaProg
import Derived.KernelRfl
set_option maxRecDepth 100000
namespace Go.Proofs.Ytcmndffpmjinlaa.Vs
open Go.RowKit
noncomputable section
def i3 : TI := ⟨.scal, .int Go.IntKind.i64, 8, false⟩
theorem t3 : TyOK Try.prog 3 i3 := .scal (by kernel_rfl) (by decide) rfl rfl (by kernel_rfl)
theorem dp3 : Deep Try.prog 3 (.int Go.IntKind.i64) := .int (by kernel_rfl)
def i4 : TI := ⟨.scal, .bool, 1, false⟩
theorem t4 : TyOK Try.prog 4 i4 := .scal (by kernel_rfl) (by decide) rfl rfl (by kernel_rfl)
theorem dp4 : Deep Try.prog 4 (.bool) := .bool (by kernel_rfl)
def i25 : TI := ⟨.slice 3, .slice 3 (.int Go.IntKind.i64), 24, false⟩
theorem t25 : TyOK Try.prog 25 i25 := .slice (by kernel_rfl) (by decide) rfl (by kernel_rfl)
theorem dp25 : Deep Try.prog 25 (.slice 3 (.int Go.IntKind.i64)) := .slice (by kernel_rfl) (by kernel_rfl) dp3
def i95 : TI := ⟨.struct [(0, 3), (1, 3), (2, 3), (3, 3)], .pair (.int Go.IntKind.i64) (.pair (.int Go.IntKind.i64) (.pair (.int Go.IntKind.i64) (.int Go.IntKind.i64))), 32, true⟩
theorem t95 : TyOK Try.prog 95 i95 := .structE (by kernel_rfl) (by kernel_rfl) (by decide) (by kernel_rfl) (by kernel_rfl)
theorem dp95 : Deep Try.prog 95 (.pair (.int Go.IntKind.i64) (.pair (.int Go.IntKind.i64) (.pair (.int Go.IntKind.i64) (.int Go.IntKind.i64)))) := .st [.int Go.IntKind.i64, .int Go.IntKind.i64, .int Go.IntKind.i64, .int Go.IntKind.i64] (tys := [3, 3, 3, 3]) (by simp) (by kernel_rfl) ⟨dp3, dp3, dp3, dp3, trivial⟩
def i39 : TI := ⟨.slice 95, .slice 95 (.pair (.int Go.IntKind.i64) (.pair (.int Go.IntKind.i64) (.pair (.int Go.IntKind.i64) (.int Go.IntKind.i64)))), 24, false⟩
theorem t39 : TyOK Try.prog 39 i39 := .slice (by kernel_rfl) (by decide) rfl (by kernel_rfl)
theorem dp39 : Deep Try.prog 39 (.slice 95 (.pair (.int Go.IntKind.i64) (.pair (.int Go.IntKind.i64) (.pair (.int Go.IntKind.i64) (.int Go.IntKind.i64))))) := .slice (by kernel_rfl) (by kernel_rfl) dp95
def i41 : TI := ⟨.struct [(0, 25), (1, 39)], .pair (.slice 3 (.int Go.IntKind.i64)) (.slice 95 (.pair (.int Go.IntKind.i64) (.pair (.int Go.IntKind.i64) (.pair (.int Go.IntKind.i64) (.int Go.IntKind.i64))))), 48, false⟩
theorem t41 : TyOK Try.prog 41 i41 := .struct (by kernel_rfl) (by decide) (by kernel_rfl) (by kernel_rfl)
theorem dp41 : Deep Try.prog 41 (.pair (.slice 3 (.int Go.IntKind.i64)) (.slice 95 (.pair (.int Go.IntKind.i64) (.pair (.int Go.IntKind.i64) (.pair (.int Go.IntKind.i64) (.int Go.IntKind.i64)))))) := .st [.slice 3 (.int Go.IntKind.i64), .slice 95 (.pair (.int Go.IntKind.i64) (.pair (.int Go.IntKind.i64) (.pair (.int Go.IntKind.i64) (.int Go.IntKind.i64))))] (tys := [25, 39]) (by simp) (by kernel_rfl) ⟨dp25, dp39, trivial⟩
def i81 : TI := ⟨.struct [(0, 3), (1, 3), (2, 3), (3, 3)], .pair (.int Go.IntKind.i64) (.pair (.int Go.IntKind.i64) (.pair (.int Go.IntKind.i64) (.int Go.IntKind.i64))), 32, true⟩
theorem t81 : TyOK Try.prog 81 i81 := .structE (by kernel_rfl) (by kernel_rfl) (by decide) (by kernel_rfl) (by kernel_rfl)
theorem dp81 : Deep Try.prog 81 (.pair (.int Go.IntKind.i64) (.pair (.int Go.IntKind.i64) (.pair (.int Go.IntKind.i64) (.int Go.IntKind.i64)))) := .st [.int Go.IntKind.i64, .int Go.IntKind.i64, .int Go.IntKind.i64, .int Go.IntKind.i64] (tys := [3, 3, 3, 3]) (by simp) (by kernel_rfl) ⟨dp3, dp3, dp3, dp3, trivial⟩
def i44 : TI := ⟨.slice 81, .slice 81 (.pair (.int Go.IntKind.i64) (.pair (.int Go.IntKind.i64) (.pair (.int Go.IntKind.i64) (.int Go.IntKind.i64)))), 24, false⟩
theorem t44 : TyOK Try.prog 44 i44 := .slice (by kernel_rfl) (by decide) rfl (by kernel_rfl)
theorem dp44 : Deep Try.prog 44 (.slice 81 (.pair (.int Go.IntKind.i64) (.pair (.int Go.IntKind.i64) (.pair (.int Go.IntKind.i64) (.int Go.IntKind.i64))))) := .slice (by kernel_rfl) (by kernel_rfl) dp81
def i46 : TI := ⟨.struct [(0, 25), (1, 44)], .pair (.slice 3 (.int Go.IntKind.i64)) (.slice 81 (.pair (.int Go.IntKind.i64) (.pair (.int Go.IntKind.i64) (.pair (.int Go.IntKind.i64) (.int Go.IntKind.i64))))), 48, false⟩
theorem t46 : TyOK Try.prog 46 i46 := .struct (by kernel_rfl) (by decide) (by kernel_rfl) (by kernel_rfl)
theorem dp46 : Deep Try.prog 46 (.pair (.slice 3 (.int Go.IntKind.i64)) (.slice 81 (.pair (.int Go.IntKind.i64) (.pair (.int Go.IntKind.i64) (.pair (.int Go.IntKind.i64) (.int Go.IntKind.i64)))))) := .st [.slice 3 (.int Go.IntKind.i64), .slice 81 (.pair (.int Go.IntKind.i64) (.pair (.int Go.IntKind.i64) (.pair (.int Go.IntKind.i64) (.int Go.IntKind.i64))))] (tys := [25, 44]) (by simp) (by kernel_rfl) ⟨dp25, dp44, trivial⟩
def i50 : TI := ⟨.slice 25, .slice 25 (.slice 3 (.int Go.IntKind.i64)), 24, false⟩
theorem t50 : TyOK Try.prog 50 i50 := .slice (by kernel_rfl) (by decide) rfl (by kernel_rfl)
theorem dp50 : Deep Try.prog 50 (.slice 25 (.slice 3 (.int Go.IntKind.i64))) := .slice (by kernel_rfl) (by kernel_rfl) dp25
def i100 : TI := ⟨.struct [(0, 3), (1, 3)], .pair (.int Go.IntKind.i64) (.int Go.IntKind.i64), 16, true⟩
theorem t100 : TyOK Try.prog 100 i100 := .structE (by kernel_rfl) (by kernel_rfl) (by decide) (by kernel_rfl) (by kernel_rfl)
theorem dp100 : Deep Try.prog 100 (.pair (.int Go.IntKind.i64) (.int Go.IntKind.i64)) := .st [.int Go.IntKind.i64, .int Go.IntKind.i64] (tys := [3, 3]) (by simp) (by kernel_rfl) ⟨dp3, dp3, trivial⟩
def i59 : TI := ⟨.slice 100, .slice 100 (.pair (.int Go.IntKind.i64) (.int Go.IntKind.i64)), 24, false⟩
theorem t59 : TyOK Try.prog 59 i59 := .slice (by kernel_rfl) (by decide) rfl (by kernel_rfl)
theorem dp59 : Deep Try.prog 59 (.slice 100 (.pair (.int Go.IntKind.i64) (.int Go.IntKind.i64))) := .slice (by kernel_rfl) (by kernel_rfl) dp100
def i61 : TI := ⟨.struct [(0, 3), (1, 3), (2, 59)], .pair (.int Go.IntKind.i64) (.pair (.int Go.IntKind.i64) (.slice 100 (.pair (.int Go.IntKind.i64) (.int Go.IntKind.i64)))), 40, false⟩
theorem t61 : TyOK Try.prog 61 i61 := .struct (by kernel_rfl) (by decide) (by kernel_rfl) (by kernel_rfl)
theorem dp61 : Deep Try.prog 61 (.pair (.int Go.IntKind.i64) (.pair (.int Go.IntKind.i64) (.slice 100 (.pair (.int Go.IntKind.i64) (.int Go.IntKind.i64))))) := .st [.int Go.IntKind.i64, .int Go.IntKind.i64, .slice 100 (.pair (.int Go.IntKind.i64) (.int Go.IntKind.i64))] (tys := [3, 3, 59]) (by simp) (by kernel_rfl) ⟨dp3, dp3, dp59, trivial⟩
def i98 : TI := ⟨.struct [(0, 3), (1, 3)], .pair (.int Go.IntKind.i64) (.int Go.IntKind.i64), 16, true⟩
theorem t98 : TyOK Try.prog 98 i98 := .structE (by kernel_rfl) (by kernel_rfl) (by decide) (by kernel_rfl) (by kernel_rfl)
theorem dp98 : Deep Try.prog 98 (.pair (.int Go.IntKind.i64) (.int Go.IntKind.i64)) := .st [.int Go.IntKind.i64, .int Go.IntKind.i64] (tys := [3, 3]) (by simp) (by kernel_rfl) ⟨dp3, dp3, trivial⟩
def i65 : TI := ⟨.slice 98, .slice 98 (.pair (.int Go.IntKind.i64) (.int Go.IntKind.i64)), 24, false⟩
theorem t65 : TyOK Try.prog 65 i65 := .slice (by kernel_rfl) (by decide) rfl (by kernel_rfl)
theorem dp65 : Deep Try.prog 65 (.slice 98 (.pair (.int Go.IntKind.i64) (.int Go.IntKind.i64))) := .slice (by kernel_rfl) (by kernel_rfl) dp98
def i67 : TI := ⟨.struct [(0, 3), (1, 3), (2, 65)], .pair (.int Go.IntKind.i64) (.pair (.int Go.IntKind.i64) (.slice 98 (.pair (.int Go.IntKind.i64) (.int Go.IntKind.i64)))), 40, false⟩
theorem t67 : TyOK Try.prog 67 i67 := .struct (by kernel_rfl) (by decide) (by kernel_rfl) (by kernel_rfl)
theorem dp67 : Deep Try.prog 67 (.pair (.int Go.IntKind.i64) (.pair (.int Go.IntKind.i64) (.slice 98 (.pair (.int Go.IntKind.i64) (.int Go.IntKind.i64))))) := .st [.int Go.IntKind.i64, .int Go.IntKind.i64, .slice 98 (.pair (.int Go.IntKind.i64) (.int Go.IntKind.i64))] (tys := [3, 3, 65]) (by simp) (by kernel_rfl) ⟨dp3, dp3, dp65, trivial⟩
theorem mixed : Try.prog.follows .mixedOrders = true := by kernel_rfl
def T : TT := [(3, i3), (4, i4), (25, i25), (95, i95), (39, i39), (41, i41), (81, i81), (44, i44), (46, i46), (50, i50), (100, i100), (59, i59), (61, i61), (98, i98), (65, i65), (67, i67)]
theorem T_ok : TTok Try.prog T := .of (by unfold T; exact (List.forall_mem_cons.2 ⟨t3, (List.forall_mem_cons.2 ⟨t4, (List.forall_mem_cons.2 ⟨t25, (List.forall_mem_cons.2 ⟨t95, (List.forall_mem_cons.2 ⟨t39, (List.forall_mem_cons.2 ⟨t41, (List.forall_mem_cons.2 ⟨t81, (List.forall_mem_cons.2 ⟨t44, (List.forall_mem_cons.2 ⟨t46, (List.forall_mem_cons.2 ⟨t50, (List.forall_mem_cons.2 ⟨t100, (List.forall_mem_cons.2 ⟨t59, (List.forall_mem_cons.2 ⟨t61, (List.forall_mem_cons.2 ⟨t98, (List.forall_mem_cons.2 ⟨t65, (List.forall_mem_cons.2 ⟨t67, (fun _ h => nomatch h)⟩)⟩)⟩)⟩)⟩)⟩)⟩)⟩)⟩)⟩)⟩)⟩)⟩)⟩)⟩)⟩))
end
end Go.Proofs.Ytcmndffpmjinlaa.Vs
