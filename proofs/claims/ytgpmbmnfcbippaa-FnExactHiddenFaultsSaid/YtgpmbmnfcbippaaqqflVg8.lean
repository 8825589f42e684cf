/- Functions of the program by plain functions, each with its contract. -/
import Derived.Test.YtgpmbmnfcbippaaqqflVsT
import Derived.Test.YtgpmbmnfcbippaaqqflVg0
import Derived.Test.YtgpmbmnfcbippaaqqflVg1
import Derived.Test.YtgpmbmnfcbippaaqqflVg2
import Derived.Test.YtgpmbmnfcbippaaqqflVg3
import Derived.Test.YtgpmbmnfcbippaaqqflVg4
import Derived.Test.YtgpmbmnfcbippaaqqflVg5
import Derived.Test.YtgpmbmnfcbippaaqqflVg6
import Derived.Test.YtgpmbmnfcbippaaqqflVg7
set_option maxRecDepth 100000
set_option linter.unusedVariables false
set_option linter.unusedSimpArgs false
namespace Go.Proofs.Ytgpmbmnfcbippaa.Vs
open Go.RowKit
noncomputable section
/-! function 6 -/
/-! function 7 -/
/-! function 9 -/
end
end Go.Proofs.Ytgpmbmnfcbippaa.Vs
