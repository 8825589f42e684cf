/- Functions of the program by plain functions, each with its contract. -/
import Derived.Test.YtgpmbmnfcbippaaqnnuVsT
import Derived.Test.YtgpmbmnfcbippaaqnnuVg0
import Derived.Test.YtgpmbmnfcbippaaqnnuVg1
import Derived.Test.YtgpmbmnfcbippaaqnnuVg2
import Derived.Test.YtgpmbmnfcbippaaqnnuVg3
import Derived.Test.YtgpmbmnfcbippaaqnnuVg4
import Derived.Test.YtgpmbmnfcbippaaqnnuVg5
import Derived.Test.YtgpmbmnfcbippaaqnnuVg6
import Derived.Test.YtgpmbmnfcbippaaqnnuVg7
set_option maxRecDepth 100000
set_option linter.unusedVariables false
set_option linter.unusedSimpArgs false
namespace Go.Proofs.Ytgpmbmnfcbippaa.Vs
open Go.RowKit
noncomputable section
/-! function 6 -/
/-! function 7 -/
/-! function 9 -/
end
end Go.Proofs.Ytgpmbmnfcbippaa.Vs
