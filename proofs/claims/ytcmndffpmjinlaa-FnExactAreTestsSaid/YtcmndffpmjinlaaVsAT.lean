/- The law on tests holds for all arguments. -/
import Derived.Test.YtcmndffpmjinlaaVsTs
set_option linter.unusedVariables false
set_option linter.unusedSimpArgs false
namespace Go.Proofs.Ytcmndffpmjinlaa.Vs
open Go.RowKit
theorem e_spec_AreTests (b : BoardD) (l : List (List Int)) (hb : b.2.2.length ≤ 9223372036854775806) (hl : l.length ≤ 9223372036854775806) (hx : ∀ x ∈ l, x.length ≤ 9223372036854775806) : Ev (fun k => f_spec_AreTests k b l) (smallB b && testsOK b l, smallB b) := by
  refine Ev.succ ?_
  simp only [f_spec_AreTests]
  refine Ev.bind (e_spec_tsGood b hb) ?_
  cases hs : smallB b with
  | false => simp only [Bool.not_false, if_true, Bool.false_and]; exact Ev.some _
  | true =>
    have hbo : boardOK b = true := by unfold smallB at hs; simp only [Bool.and_eq_true] at hs; exact hs.1
    simp only [Bool.not_true, Bool.false_eq_true, if_false, Bool.true_and]
    exact Ev.bind (e_spec_tsTests b hbo l hl hx) (Ev.some _)
theorem e_impl_AreTests (b : BoardD) (l : List (List Int)) (hb : b.2.2.length ≤ 9223372036854775806) (hl : l.length ≤ 9223372036854775806) (hx : ∀ x ∈ l, x.length ≤ 9223372036854775806) : Ev (fun k => f_impl_AreTests k b l) (smallB b && testsOK b l, smallB b) := by
  refine Ev.succ ?_
  simp only [f_impl_AreTests]
  refine Ev.bind (e_impl_IsBoard b hb) ?_
  cases hbo : boardOK b with
  | false => simp only [Bool.not_false, if_true, smallB, hbo, Bool.false_and]; exact Ev.some _
  | true =>
    simp only [Bool.not_true, Bool.false_eq_true, if_false]
    refine Ev.ite (fun h => Ev.of ?_) (fun h => ?_)
    · simp only [decide_eq_true_eq] at h
      have : ¬ b.2.2.length ≤ 30 := by omega
      simp [smallB, this]
    · simp only [decide_eq_true_eq] at h
      have h3 : b.2.2.length ≤ 30 := by omega
      refine Ev.bind (e_impl_areTests b l hb hl hx) (Ev.of ?_)
      simp [smallB, hbo, h3]
theorem law_FnExactAreTests (b : BoardD) (l : List (List Int)) (h1 : b.2.2.length ≤ 9223372036854775807) (h2 : l.length ≤ 9223372036854775807) (h3 : ∀ x ∈ l, x.length ≤ 9223372036854775807) : Ev (fun k => f_laws_FnExactAreTests k b l) true := by
  refine Ev.succ ?_
  simp only [f_laws_FnExactAreTests]
  refine Ev.bind (e_laws_szBoard b 1048576 (by omega) (by omega) h1) ?_
  by_cases g3 : (1048576 : Int) - (b.2.2.length : Int) < 0
  · simp only [g3, if_true]; exact Ev.some _
  simp only [g3, if_false, decide_false, Bool.false_eq_true]
  refine Ev.bind (e_laws_szIntSS l _ (by omega) (by omega) h2 h3) ?_
  by_cases g4 : (1048576 : Int) - (b.2.2.length : Int) - (l.length : Int) < 0
  · simp only [g4, if_true]; exact Ev.some _
  simp only [g4, if_false]
  by_cases g5 : (1048576 : Int) - (b.2.2.length : Int) - (l.length : Int) - szRows l < 0
  · simp only [g5, if_true]; exact Ev.some _
  simp only [g5, if_false, decide_false, Bool.false_eq_true]
  have hr := szRows_nonneg l
  have hx : ∀ x ∈ l, x.length ≤ 1048576 := fun x hx => by have := szRows_mem hx; omega
  have hx2 : ∀ x ∈ l, x.length ≤ 9223372036854775806 := fun x hxl => by have := hx x hxl; omega
  refine Ev.bind (e_laws_toBoard b (by omega)) (Ev.bind (e_laws_toIntSS l (by omega) hx) ?_)
  refine Ev.bind (e_spec_AreTests b l (by omega) (by omega) hx2) ?_
  refine Ev.bind (e_laws_toBoard b (by omega)) (Ev.bind (e_laws_toIntSS l (by omega) hx) ?_)
  refine Ev.bind (e_impl_AreTests b l (by omega) (by omega) hx2) ?_
  simp only [beq_self_eq_true, Bool.not_true, Bool.false_eq_true, if_false]
  refine Ev.bind (e_laws_toBoard b (by omega)) (Ev.bind (e_laws_eqBoard b b (by omega)) ?_)
  simp only [decide_true, Bool.not_true, Bool.false_eq_true, if_false]
  refine Ev.bind (e_laws_toIntSS l (by omega) hx) (Ev.bind (e_laws_eqIntSS l l (by omega) hx2) ?_)
  simp only [decide_true, Bool.not_true, Bool.false_eq_true, if_false]
  exact Ev.some _
end Go.Proofs.Ytcmndffpmjinlaa.Vs
