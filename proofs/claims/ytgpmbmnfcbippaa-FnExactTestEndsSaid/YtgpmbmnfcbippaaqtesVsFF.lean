/- A marble on a board with faults: the laws on its end and on the board behind it. -/
import Derived.Test.YtgpmbmnfcbippaaqtesVsDs
import Derived.Test.YtgpmbmnfcbippaaqtesVsLb
set_option linter.unusedVariables false
set_option linter.unusedSimpArgs false
namespace Go.Proofs.Ytgpmbmnfcbippaa.Vs
open Go.RowKit
theorem fallL_len (b : BoardD) (G K : List Int) : ∀ (n : Nat) (row col side : Int) (o : List CellD), (fallEnd b (fallL b G K n row col side o)).2.length = o.length
  | 0, _, _, _, _ => rfl
  | n + 1, row, col, side, o => by
    unfold fallL
    dsimp only
    repeat' split
    all_goals first | rfl | (rw [fallL_len]; exact stepAt_len _ _ _ _) | exact stepAt_len _ _ _ _
end Go.Proofs.Ytgpmbmnfcbippaa.Vs
