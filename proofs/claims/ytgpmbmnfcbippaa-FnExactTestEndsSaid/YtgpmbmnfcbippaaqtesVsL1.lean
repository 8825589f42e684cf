/- Ranges. -/
import Derived.Test.YtgpmbmnfcbippaaqtesVsEv
import Derived.Test.YtgpmbmnfcbippaaqtesVg0
import Derived.Test.YtgpmbmnfcbippaaqtesVg1
import Derived.Test.YtgpmbmnfcbippaaqtesVg2
import Derived.Test.YtgpmbmnfcbippaaqtesVg3
import Derived.Test.YtgpmbmnfcbippaaqtesVg4
import Derived.Test.YtgpmbmnfcbippaaqtesVg5
import Derived.Test.YtgpmbmnfcbippaaqtesVg6
import Derived.Test.YtgpmbmnfcbippaaqtesVg7
import Derived.Test.YtgpmbmnfcbippaaqtesVg8
set_option linter.unusedVariables false
set_option linter.unusedSimpArgs false
namespace Go.Proofs.Ytgpmbmnfcbippaa.Vs
open Go.RowKit
theorem e_spec_l1In (a b c : Int) : Ev (fun k => f_spec_l1In k a b c) (decide (b ≤ a ∧ a ≤ c)) := by
  refine Ev.succ ?_
  simp only [f_spec_l1In]
  refine Ev.of ?_
  by_cases h1 : b ≤ a <;> by_cases h2 : a ≤ c <;> simp [h1, h2]
theorem e_spec_l1All_0 (lo hi : Int) : ∀ (r pre : List Int), (pre ++ r).length ≤ 9223372036854775806 → Ev (fun k => f_spec_l1All_0 k lo hi (pre ++ r) ((pre ++ r).length : Int) (pre.length : Int)) (if r.all (fun n => decide (lo ≤ n ∧ n ≤ hi)) then LR.go () else LR.ret false)
  | [], pre, hl => by
    refine Ev.succ ?_
    simp only [f_spec_l1All_0, nlt_end, decide_false, Bool.false_eq_true, if_false, List.all_nil, if_true]
    exact Ev.some _
  | x :: r, pre, hl => by
    have ih := e_spec_l1All_0 lo hi r (pre ++ [x]) (by simpa using hl)
    refine Ev.succ ?_
    simp only [f_spec_l1All_0, lt_mid, ge_mid, decide_true, if_true, Int.toNat_natCast, getD_mid]
    rw [next_mid pre x r (by omega)]
    rw [← shift_mid] at ih
    refine Ev.bind (e_spec_l1In x lo hi) ?_
    by_cases hx : lo ≤ x ∧ x ≤ hi
    · simp only [hx, and_self, List.all_cons, decide_true, Bool.true_and, Bool.not_true, Bool.false_eq_true, if_false]; exact ih
    · simp only [hx, List.all_cons, decide_false, Bool.false_and, Bool.not_false, if_true, Bool.false_eq_true, if_false]; exact Ev.some _
theorem e_spec_l1All (l : List Int) (lo hi : Int) (hl : l.length ≤ 9223372036854775806) : Ev (fun k => f_spec_l1All k l lo hi) (l.all fun n => decide (lo ≤ n ∧ n ≤ hi)) := by
  refine Ev.succ ?_
  simp only [f_spec_l1All]
  refine Ev.bind (e_spec_l1All_0 lo hi l [] (by simpa using hl)) ?_
  cases hx : l.all fun n => decide (lo ≤ n ∧ n ≤ hi) with
  | true => simp only [if_true]; exact Ev.go (Ev.some _)
  | false => simp only [Bool.false_eq_true, if_false]; exact Ev.ret (Ev.some _)
end Go.Proofs.Ytgpmbmnfcbippaa.Vs
