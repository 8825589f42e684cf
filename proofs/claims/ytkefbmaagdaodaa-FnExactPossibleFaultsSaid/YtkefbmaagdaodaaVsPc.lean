/- The laws on valid faults and on possible faults hold for all arguments. -/
import Derived.Test.YtkefbmaagdaodaaVsPb
set_option linter.unusedVariables false
set_option linter.unusedSimpArgs false
namespace Go.Proofs.Ytkefbmaagdaodaa.Vs
open Go.RowKit
theorem e_laws_szBoard (b : BoardD) (n : Int) (h0 : 0 ≤ n) (h1 : n ≤ 1048576) (hl : b.2.2.length ≤ 9223372036854775807) : Ev (fun k => f_laws_szBoard k b n) (if n - b.2.2.length < 0 then -1 else n - b.2.2.length) := by
  refine Ev.succ ?_
  simp only [f_laws_szBoard]
  refine Ev.bind (e_laws_szCellS _ n h0 h1 hl) ?_
  by_cases h : n - (b.2.2.length : Int) < 0 <;> simp only [h, if_true, if_false]
  · exact Ev.some _
  · simp only [h, decide_false, Bool.false_eq_true, if_false]; exact Ev.some _
theorem e_laws_toBoard (b : BoardD) (hl : b.2.2.length ≤ 1048576) : Ev (fun k => f_laws_toBoard k b) b := by
  refine Ev.succ ?_
  simp only [f_laws_toBoard]
  exact Ev.bind (e_laws_toCellS _ hl) (Ev.some _)
theorem e_laws_eqBoard (b c : BoardD) (hl : b.2.2.length ≤ 9223372036854775806) : Ev (fun k => f_laws_eqBoard k b c) (decide (b = c)) := by
  obtain ⟨b1, b2, b3⟩ := b
  obtain ⟨c1, c2, c3⟩ := c
  refine Ev.succ ?_
  simp only [f_laws_eqBoard]
  by_cases h1 : b1 = c1
  · by_cases h2 : b2 = c2
    · simp only [h1, h2, ne_eq, not_true_eq_false, decide_false, Bool.false_eq_true, if_false]
      refine Ev.bind (e_laws_eqCellS b3 c3 hl) ?_
      by_cases h3 : b3 = c3
      · simp only [h3, decide_true, Bool.not_true, Bool.false_eq_true, if_false]; exact Ev.some _
      · simp only [h3, decide_false, Bool.not_false, if_true, Prod.mk.injEq, and_false]; exact Ev.some _
    · simp only [h1, h2, ne_eq, not_true_eq_false, decide_false, Bool.false_eq_true, if_false, not_false_eq_true, decide_true, if_true, Prod.mk.injEq, false_and, and_false]; exact Ev.some _
  · simp only [h1, ne_eq, not_false_eq_true, decide_true, if_true, Prod.mk.injEq, false_and, decide_false]; exact Ev.some _
theorem e_spec_AreFaults (b : BoardD) (l : List FaultD) (hl : b.2.2.length ≤ 9223372036854775806) (hl2 : l.length ≤ 9223372036854775806) : Ev (fun k => f_spec_AreFaults k b l) (if boardOK b then (decide (l.length ≤ 4) && faultsOK b (-1) l, true) else (false, false)) := by
  refine Ev.succ ?_
  simp only [f_spec_AreFaults]
  refine Ev.bind (e_spec_boGood b hl) ?_
  cases hb : boardOK b with
  | false => simp only [Bool.not_false, if_true, Bool.false_eq_true, if_false]; exact Ev.some _
  | true =>
    simp only [Bool.not_true, Bool.false_eq_true, if_false, if_true]
    exact Ev.bind (e_spec_faGood b hb l hl2) (Ev.some _)
theorem e_impl_AreFaults (b : BoardD) (l : List FaultD) (hl : b.2.2.length ≤ 9223372036854775806) (hl2 : l.length ≤ 9223372036854775806) : Ev (fun k => f_impl_AreFaults k b l) (if boardOK b then (decide (l.length ≤ 4) && faultsOK b (-1) l, true) else (false, false)) := by
  refine Ev.succ ?_
  simp only [f_impl_AreFaults]
  refine Ev.bind (e_impl_IsBoard b hl) ?_
  cases hb : boardOK b with
  | false => simp only [Bool.not_false, if_true, Bool.false_eq_true, if_false]; exact Ev.some _
  | true =>
    simp only [Bool.not_true, Bool.false_eq_true, if_false, if_true]
    exact Ev.bind (e_impl_areFaults b hb l hl2) (Ev.some _)
theorem law_FnExactAreFaults (b : BoardD) (l : List FaultD) (h1 : b.2.2.length ≤ 9223372036854775807) (h2 : l.length ≤ 9223372036854775807) : Ev (fun k => f_laws_FnExactAreFaults k b l) true := by
  refine Ev.succ ?_
  simp only [f_laws_FnExactAreFaults]
  refine Ev.bind (e_laws_szBoard b 1048576 (by omega) (by omega) h1) ?_
  by_cases h3 : (1048576 : Int) - (b.2.2.length : Int) < 0
  · simp only [h3, if_true]; exact Ev.some _
  simp only [h3, if_false, decide_false, Bool.false_eq_true]
  refine Ev.bind (e_laws_szFaultS l _ (by omega) (by omega) h2) ?_
  by_cases h4 : (1048576 : Int) - (b.2.2.length : Int) - (l.length : Int) < 0
  · simp only [h4, if_true]; exact Ev.some _
  simp only [h4, if_false, decide_false, Bool.false_eq_true]
  refine Ev.bind (e_laws_toBoard b (by omega)) (Ev.bind (e_laws_toFaultS l (by omega)) ?_)
  refine Ev.bind (e_spec_AreFaults b l (by omega) (by omega)) ?_
  refine Ev.bind (e_laws_toBoard b (by omega)) (Ev.bind (e_laws_toFaultS l (by omega)) ?_)
  refine Ev.bind (e_impl_AreFaults b l (by omega) (by omega)) ?_
  simp only [beq_self_eq_true, Bool.not_true, Bool.false_eq_true, if_false]
  refine Ev.bind (e_laws_toBoard b (by omega)) (Ev.bind (e_laws_eqBoard b b (by omega)) ?_)
  simp only [decide_true, Bool.not_true, Bool.false_eq_true, if_false]
  refine Ev.bind (e_laws_toFaultS l (by omega)) (Ev.bind (e_laws_eqFaultS l l (by omega)) ?_)
  simp only [decide_true, Bool.not_true, Bool.false_eq_true, if_false]
  exact Ev.some _
end Go.Proofs.Ytkefbmaagdaodaa.Vs
