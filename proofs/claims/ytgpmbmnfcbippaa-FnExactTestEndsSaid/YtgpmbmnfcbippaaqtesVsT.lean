/- The types of the program, for the machine. -/
import Derived.Test.YtgpmbmnfcbippaaqtesVsU
import Derived.Test.YtgpmbmnfcbippaaProg
import Derived.KernelRfl
set_option maxRecDepth 100000
namespace Go.Proofs.Ytgpmbmnfcbippaa.Vs
open Go.RowKit
noncomputable section
def i3 : TI := ⟨.scal, .int Go.IntKind.i64, 8, false⟩
theorem t3 : TyOK Try.prog 3 i3 := .scal (by kernel_rfl) (by decide) rfl rfl (by kernel_rfl)
theorem dp3 : Deep Try.prog 3 (.int Go.IntKind.i64) := .int (by kernel_rfl)
def i118 : TI := ⟨.struct [(0, 3), (1, 3)], .pair (.int Go.IntKind.i64) (.int Go.IntKind.i64), 16, true⟩
theorem t118 : TyOK Try.prog 118 i118 := .structE (by kernel_rfl) (by kernel_rfl) (by decide) (by kernel_rfl) (by kernel_rfl)
theorem dp118 : Deep Try.prog 118 (.pair (.int Go.IntKind.i64) (.int Go.IntKind.i64)) := .st [.int Go.IntKind.i64, .int Go.IntKind.i64] (tys := [3, 3]) (by simp) (by kernel_rfl) ⟨dp3, dp3, trivial⟩
def i22 : TI := ⟨.slice 118, .slice 118 (.pair (.int Go.IntKind.i64) (.int Go.IntKind.i64)), 24, false⟩
theorem t22 : TyOK Try.prog 22 i22 := .slice (by kernel_rfl) (by decide) rfl (by kernel_rfl)
theorem dp22 : Deep Try.prog 22 (.slice 118 (.pair (.int Go.IntKind.i64) (.int Go.IntKind.i64))) := .slice (by kernel_rfl) (by kernel_rfl) dp118
def i24 : TI := ⟨.struct [(0, 3), (1, 3), (2, 22)], .pair (.int Go.IntKind.i64) (.pair (.int Go.IntKind.i64) (.slice 118 (.pair (.int Go.IntKind.i64) (.int Go.IntKind.i64)))), 40, false⟩
theorem t24 : TyOK Try.prog 24 i24 := .struct (by kernel_rfl) (by decide) (by kernel_rfl) (by kernel_rfl)
theorem dp24 : Deep Try.prog 24 (.pair (.int Go.IntKind.i64) (.pair (.int Go.IntKind.i64) (.slice 118 (.pair (.int Go.IntKind.i64) (.int Go.IntKind.i64))))) := .st [.int Go.IntKind.i64, .int Go.IntKind.i64, .slice 118 (.pair (.int Go.IntKind.i64) (.int Go.IntKind.i64))] (tys := [3, 3, 22]) (by simp) (by kernel_rfl) ⟨dp3, dp3, dp22, trivial⟩
def i25 : TI := ⟨.slice 3, .slice 3 (.int Go.IntKind.i64), 24, false⟩
theorem t25 : TyOK Try.prog 25 i25 := .slice (by kernel_rfl) (by decide) rfl (by kernel_rfl)
theorem dp25 : Deep Try.prog 25 (.slice 3 (.int Go.IntKind.i64)) := .slice (by kernel_rfl) (by kernel_rfl) dp3
def i4 : TI := ⟨.scal, .bool, 1, false⟩
theorem t4 : TyOK Try.prog 4 i4 := .scal (by kernel_rfl) (by decide) rfl rfl (by kernel_rfl)
def i116 : TI := ⟨.struct [(0, 3), (1, 3)], .pair (.int Go.IntKind.i64) (.int Go.IntKind.i64), 16, true⟩
theorem t116 : TyOK Try.prog 116 i116 := .structE (by kernel_rfl) (by kernel_rfl) (by decide) (by kernel_rfl) (by kernel_rfl)
def i30 : TI := ⟨.slice 116, .slice 116 (.pair (.int Go.IntKind.i64) (.int Go.IntKind.i64)), 24, false⟩
theorem t30 : TyOK Try.prog 30 i30 := .slice (by kernel_rfl) (by decide) rfl (by kernel_rfl)
def i32 : TI := ⟨.struct [(0, 3), (1, 3), (2, 30)], .pair (.int Go.IntKind.i64) (.pair (.int Go.IntKind.i64) (.slice 116 (.pair (.int Go.IntKind.i64) (.int Go.IntKind.i64)))), 40, false⟩
theorem t32 : TyOK Try.prog 32 i32 := .struct (by kernel_rfl) (by decide) (by kernel_rfl) (by kernel_rfl)
def i83 : TI := ⟨.struct [(0, 3), (1, 3), (2, 3)], .pair (.int Go.IntKind.i64) (.pair (.int Go.IntKind.i64) (.int Go.IntKind.i64)), 24, true⟩
theorem t83 : TyOK Try.prog 83 i83 := .structE (by kernel_rfl) (by kernel_rfl) (by decide) (by kernel_rfl) (by kernel_rfl)
def i27 : TI := ⟨.slice 83, .slice 83 (.pair (.int Go.IntKind.i64) (.pair (.int Go.IntKind.i64) (.int Go.IntKind.i64))), 24, false⟩
theorem t27 : TyOK Try.prog 27 i27 := .slice (by kernel_rfl) (by decide) rfl (by kernel_rfl)
def i93 : TI := ⟨.struct [(0, 3), (1, 3), (2, 3)], .pair (.int Go.IntKind.i64) (.pair (.int Go.IntKind.i64) (.int Go.IntKind.i64)), 24, true⟩
theorem t93 : TyOK Try.prog 93 i93 := .structE (by kernel_rfl) (by kernel_rfl) (by decide) (by kernel_rfl) (by kernel_rfl)
theorem dp93 : Deep Try.prog 93 (.pair (.int Go.IntKind.i64) (.pair (.int Go.IntKind.i64) (.int Go.IntKind.i64))) := .st [.int Go.IntKind.i64, .int Go.IntKind.i64, .int Go.IntKind.i64] (tys := [3, 3, 3]) (by simp) (by kernel_rfl) ⟨dp3, dp3, dp3, trivial⟩
def i42 : TI := ⟨.slice 93, .slice 93 (.pair (.int Go.IntKind.i64) (.pair (.int Go.IntKind.i64) (.int Go.IntKind.i64))), 24, false⟩
theorem t42 : TyOK Try.prog 42 i42 := .slice (by kernel_rfl) (by decide) rfl (by kernel_rfl)
theorem dp42 : Deep Try.prog 42 (.slice 93 (.pair (.int Go.IntKind.i64) (.pair (.int Go.IntKind.i64) (.int Go.IntKind.i64)))) := .slice (by kernel_rfl) (by kernel_rfl) dp93
def i91 : TI := ⟨.struct [(0, 3), (1, 3), (2, 3)], .pair (.int Go.IntKind.i64) (.pair (.int Go.IntKind.i64) (.int Go.IntKind.i64)), 24, true⟩
theorem t91 : TyOK Try.prog 91 i91 := .structE (by kernel_rfl) (by kernel_rfl) (by decide) (by kernel_rfl) (by kernel_rfl)
def i45 : TI := ⟨.slice 91, .slice 91 (.pair (.int Go.IntKind.i64) (.pair (.int Go.IntKind.i64) (.int Go.IntKind.i64))), 24, false⟩
theorem t45 : TyOK Try.prog 45 i45 := .slice (by kernel_rfl) (by decide) rfl (by kernel_rfl)
def i50 : TI := ⟨.slice 25, .slice 25 (.slice 3 (.int Go.IntKind.i64)), 24, false⟩
theorem t50 : TyOK Try.prog 50 i50 := .slice (by kernel_rfl) (by decide) rfl (by kernel_rfl)
theorem dp50 : Deep Try.prog 50 (.slice 25 (.slice 3 (.int Go.IntKind.i64))) := .slice (by kernel_rfl) (by kernel_rfl) dp25
def i103 : TI := ⟨.struct [(0, 3), (1, 3), (2, 3)], .pair (.int Go.IntKind.i64) (.pair (.int Go.IntKind.i64) (.int Go.IntKind.i64)), 24, true⟩
theorem t103 : TyOK Try.prog 103 i103 := .structE (by kernel_rfl) (by kernel_rfl) (by decide) (by kernel_rfl) (by kernel_rfl)
theorem dp103 : Deep Try.prog 103 (.pair (.int Go.IntKind.i64) (.pair (.int Go.IntKind.i64) (.int Go.IntKind.i64))) := .st [.int Go.IntKind.i64, .int Go.IntKind.i64, .int Go.IntKind.i64] (tys := [3, 3, 3]) (by simp) (by kernel_rfl) ⟨dp3, dp3, dp3, trivial⟩
def i57 : TI := ⟨.slice 103, .slice 103 (.pair (.int Go.IntKind.i64) (.pair (.int Go.IntKind.i64) (.int Go.IntKind.i64))), 24, false⟩
theorem t57 : TyOK Try.prog 57 i57 := .slice (by kernel_rfl) (by decide) rfl (by kernel_rfl)
theorem dp57 : Deep Try.prog 57 (.slice 103 (.pair (.int Go.IntKind.i64) (.pair (.int Go.IntKind.i64) (.int Go.IntKind.i64)))) := .slice (by kernel_rfl) (by kernel_rfl) dp103
def i59 : TI := ⟨.slice 45, .slice 45 (.slice 91 (.pair (.int Go.IntKind.i64) (.pair (.int Go.IntKind.i64) (.int Go.IntKind.i64)))), 24, false⟩
theorem t59 : TyOK Try.prog 59 i59 := .slice (by kernel_rfl) (by decide) rfl (by kernel_rfl)
def i70 : TI := ⟨.slice 42, .slice 42 (.slice 93 (.pair (.int Go.IntKind.i64) (.pair (.int Go.IntKind.i64) (.int Go.IntKind.i64)))), 24, false⟩
theorem t70 : TyOK Try.prog 70 i70 := .slice (by kernel_rfl) (by decide) rfl (by kernel_rfl)
theorem dp70 : Deep Try.prog 70 (.slice 42 (.slice 93 (.pair (.int Go.IntKind.i64) (.pair (.int Go.IntKind.i64) (.int Go.IntKind.i64))))) := .slice (by kernel_rfl) (by kernel_rfl) dp42
def i108 : TI := ⟨.slice 59, .slice 59 (.slice 45 (.slice 91 (.pair (.int Go.IntKind.i64) (.pair (.int Go.IntKind.i64) (.int Go.IntKind.i64))))), 24, false⟩
theorem t108 : TyOK Try.prog 108 i108 := .slice (by kernel_rfl) (by decide) rfl (by kernel_rfl)
def i127 : TI := ⟨.slice 4, .slice 4 (.bool), 24, false⟩
theorem t127 : TyOK Try.prog 127 i127 := .slice (by kernel_rfl) (by decide) rfl (by kernel_rfl)
theorem mixed : Try.prog.follows .mixedOrders = true := by kernel_rfl
def T : TT := [(3, i3), (118, i118), (22, i22), (24, i24), (25, i25), (4, i4), (116, i116), (30, i30), (32, i32), (83, i83), (27, i27), (93, i93), (42, i42), (91, i91), (45, i45), (50, i50), (103, i103), (57, i57), (59, i59), (70, i70), (108, i108), (127, i127)]
theorem T_ok : TTok Try.prog T := .of (by unfold T; exact (List.forall_mem_cons.2 ⟨t3, (List.forall_mem_cons.2 ⟨t118, (List.forall_mem_cons.2 ⟨t22, (List.forall_mem_cons.2 ⟨t24, (List.forall_mem_cons.2 ⟨t25, (List.forall_mem_cons.2 ⟨t4, (List.forall_mem_cons.2 ⟨t116, (List.forall_mem_cons.2 ⟨t30, (List.forall_mem_cons.2 ⟨t32, (List.forall_mem_cons.2 ⟨t83, (List.forall_mem_cons.2 ⟨t27, (List.forall_mem_cons.2 ⟨t93, (List.forall_mem_cons.2 ⟨t42, (List.forall_mem_cons.2 ⟨t91, (List.forall_mem_cons.2 ⟨t45, (List.forall_mem_cons.2 ⟨t50, (List.forall_mem_cons.2 ⟨t103, (List.forall_mem_cons.2 ⟨t57, (List.forall_mem_cons.2 ⟨t59, (List.forall_mem_cons.2 ⟨t70, (List.forall_mem_cons.2 ⟨t108, (List.forall_mem_cons.2 ⟨t127, (fun _ h => nomatch h)⟩)⟩)⟩)⟩)⟩)⟩)⟩)⟩)⟩)⟩)⟩)⟩)⟩)⟩)⟩)⟩)⟩)⟩)⟩)⟩)⟩)⟩))
end
end Go.Proofs.Ytgpmbmnfcbippaa.Vs
