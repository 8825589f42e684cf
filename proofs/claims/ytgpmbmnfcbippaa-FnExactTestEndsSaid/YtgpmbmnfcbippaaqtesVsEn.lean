/- Entries. -/
import Derived.Test.YtgpmbmnfcbippaaqtesVsBd
set_option linter.unusedVariables false
set_option linter.unusedSimpArgs false
namespace Go.Proofs.Ytgpmbmnfcbippaa.Vs
open Go.RowKit
/-! ### Tests -/
def testOK (b : BoardD) (t : List Int) : Bool := decide (t.length ≤ 8) && t.all fun c => decide (0 ≤ c ∧ c < b.2.1)
theorem e_impl_validEntries_0 (b : BoardD) : ∀ (r pre : List Int), (pre ++ r).length ≤ 9223372036854775806 → Ev (fun k => f_impl_validEntries_0 k b.1 b.2.1 b.2.2 (pre ++ r) ((pre ++ r).length : Int) (pre.length : Int)) (if r.all (fun c => decide (0 ≤ c ∧ c < b.2.1)) then LR.go () else LR.ret false)
  | [], pre, hl => by
    refine Ev.succ ?_
    simp only [f_impl_validEntries_0, nlt_end, decide_false, Bool.false_eq_true, if_false, List.all_nil, if_true]
    exact Ev.some _
  | x :: r, pre, hl => by
    have ih := e_impl_validEntries_0 b r (pre ++ [x]) (by simpa using hl)
    refine Ev.succ ?_
    simp only [f_impl_validEntries_0, lt_mid, ge_mid, decide_true, if_true, Int.toNat_natCast, getD_mid]
    rw [next_mid pre x r (by omega)]
    rw [← shift_mid] at ih
    refine Ev.ite (fun h => ?_) (fun h => Ev.ite (fun h2 => ?_) (fun h2 => ?_))
    · simp only [decide_eq_true_eq] at h
      have hx : ¬ (0 ≤ x ∧ x < b.2.1) := by omega
      simp only [hx, List.all_cons, decide_false, Bool.false_and, Bool.false_eq_true, if_false]; exact Ev.some _
    · simp only [decide_eq_true_eq] at h2
      have hx : ¬ (0 ≤ x ∧ x < b.2.1) := by omega
      simp only [hx, List.all_cons, decide_false, Bool.false_and, Bool.false_eq_true, if_false]; exact Ev.some _
    · simp only [decide_eq_true_eq] at h h2
      have hx : 0 ≤ x ∧ x < b.2.1 := by omega
      simp only [hx, and_self, List.all_cons, decide_true, Bool.true_and]; exact ih
theorem e_impl_validEntries (b : BoardD) (l : List Int) (hb : b.2.2.length ≤ 9223372036854775806) (hl : l.length ≤ 9223372036854775806) : Ev (fun k => f_impl_validEntries k b l) (boardOK b && decide (l.length ≤ 60) && l.all fun c => decide (0 ≤ c ∧ c < b.2.1)) := by
  refine Ev.succ ?_
  simp only [f_impl_validEntries]
  refine Ev.bind (e_impl_IsBoard b hb) ?_
  cases hbo : boardOK b with
  | false => simp only [Bool.not_false, if_true, Bool.false_and]; exact Ev.some _
  | true =>
    simp only [Bool.not_true, Bool.false_eq_true, if_false, Bool.true_and]
    refine Ev.ite (fun h => Ev.of ?_) (fun h => ?_)
    · simp only [decide_eq_true_eq] at h
      have : ¬ l.length ≤ 60 := by omega
      simp [this]
    · simp only [decide_eq_true_eq] at h
      have h6 : l.length ≤ 60 := by omega
      refine Ev.bind (e_impl_validEntries_0 b l [] (by simpa using hl)) ?_
      simp only [h6, decide_true, Bool.true_and]
      cases hx : l.all (fun c => decide (0 ≤ c ∧ c < b.2.1)) with
      | true => simp only [if_true]; exact Ev.go (Ev.some _)
      | false => simp only [Bool.false_eq_true, if_false]; exact Ev.ret (Ev.some _)
end Go.Proofs.Ytgpmbmnfcbippaa.Vs
