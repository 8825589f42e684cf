/- For every number of copies, the program's Tolerated returns what the reference's Tolerated returns. No condition beyond the statement's own. -/
import Derived.Test.YtcmndffpmjinlaaPFnExactToleratedx1
namespace Go.Proofs.Ytcmndffpmjinlaa.Pure
open Go.RowKit Go.Proofs.Ytcmndffpmjinlaa.PFnExactTolerated Go.Proofs.YtcmndffpmjinlaaW.PrintWords Go.Proofs.YtcmndffpmjinlaaW.PrintLast

theorem FnExactTolerated : laws_FnExactTolerated.Pure := by
  intro a0 _
  unfold laws_FnExactTolerated.f spec_Tolerated.f impl_Tolerated.f spec_voCopies.f spec_l1In.f
  by_cases h1 : a0 < 1
  · have h2 : ¬ a0 ≥ 1 := by omega
    simp [h1, h2]
  · have h2 : a0 ≥ 1 := by omega
    by_cases h3 : a0 > 9
    · have h4 : ¬ a0 ≤ 9 := by omega
      simp [h1, h2, h3, h4]
    · have h4 : a0 ≤ 9 := by omega
      simp [h1, h2, h3, h4]

end Go.Proofs.Ytcmndffpmjinlaa.Pure
