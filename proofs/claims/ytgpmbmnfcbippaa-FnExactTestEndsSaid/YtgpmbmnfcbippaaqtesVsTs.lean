/- Tests. -/
import Derived.Test.YtgpmbmnfcbippaaqtesVsEn
import Derived.Test.YtgpmbmnfcbippaaqtesVsIS
set_option linter.unusedVariables false
set_option linter.unusedSimpArgs false
namespace Go.Proofs.Ytgpmbmnfcbippaa.Vs
open Go.RowKit
theorem e_impl_areTests_0 (b : BoardD) (hb : boardOK b = true) : ∀ (r pre : List (List Int)), (∀ x ∈ r, x.length ≤ 9223372036854775806) → (pre ++ r).length ≤ 9223372036854775806 → Ev (fun k => f_impl_areTests_0 k b.1 b.2.1 b.2.2 (pre ++ r) ((pre ++ r).length : Int) (pre.length : Int)) (if r.all (testOK b) then LR.go () else LR.ret false)
  | [], pre, hx, hl => by
    refine Ev.succ ?_
    simp only [f_impl_areTests_0, nlt_end, decide_false, Bool.false_eq_true, if_false, List.all_nil, if_true]
    exact Ev.some _
  | x :: r, pre, hx, hl => by
    obtain ⟨g1, g2, g3, g4, g5, g6⟩ := board_ok hb
    have hp := prod_small g1 g2 g3 g4
    have ih := e_impl_areTests_0 b hb r (pre ++ [x]) (fun y hy => hx y (List.mem_cons_of_mem _ hy)) (by simpa using hl)
    refine Ev.succ ?_
    simp only [f_impl_areTests_0, lt_mid, ge_mid, decide_true, if_true, Int.toNat_natCast, getD_mid]
    rw [next_mid pre x r (by omega)]
    rw [← shift_mid] at ih
    refine Ev.ite (fun h => ?_) (fun h => ?_)
    · simp only [decide_eq_true_eq] at h
      have : ¬ x.length ≤ 8 := by omega
      simp only [List.all_cons, testOK, this, decide_false, Bool.false_and, Bool.false_eq_true, if_false]; exact Ev.some _
    simp only [decide_eq_true_eq] at h
    have h8 : x.length ≤ 8 := by omega
    have h60 : x.length ≤ 60 := by omega
    refine Ev.bind (e_impl_validEntries b x (by omega) (hx x (List.mem_cons_self ..))) ?_
    simp only [hb, h60, decide_true, Bool.true_and]
    have ht : testOK b x = x.all (fun c => decide (0 ≤ c ∧ c < b.2.1)) := by simp only [testOK, h8, decide_true, Bool.true_and]
    rw [List.all_cons, ht]
    cases hxx : x.all (fun c => decide (0 ≤ c ∧ c < b.2.1)) with
    | true => simp only [Bool.not_true, Bool.false_eq_true, if_false, Bool.true_and]; exact ih
    | false => simp only [Bool.not_false, if_true, Bool.false_and, Bool.false_eq_true, if_false]; exact Ev.some _
theorem e_spec_tsTests_0 (b : BoardD) (hb : boardOK b = true) (w : List (List Int)) : ∀ (r pre : List (List Int)), (∀ x ∈ r, x.length ≤ 9223372036854775806) → (pre ++ r).length ≤ 9223372036854775806 → Ev (fun k => f_spec_tsTests_0 k b.1 b.2.1 b.2.2 w (pre ++ r) ((pre ++ r).length : Int) (pre.length : Int)) (if r.all (testOK b) then LR.go w else LR.ret false)
  | [], pre, hx, hl => by
    refine Ev.succ ?_
    simp only [f_spec_tsTests_0, nlt_end, decide_false, Bool.false_eq_true, if_false, List.all_nil, if_true]
    exact Ev.some _
  | x :: r, pre, hx, hl => by
    obtain ⟨g1, g2, g3, g4, g5, g6⟩ := board_ok hb
    have ih := e_spec_tsTests_0 b hb w r (pre ++ [x]) (fun y hy => hx y (List.mem_cons_of_mem _ hy)) (by simpa using hl)
    refine Ev.succ ?_
    simp only [f_spec_tsTests_0, lt_mid, ge_mid, decide_true, if_true, Int.toNat_natCast, getD_mid]
    rw [next_mid pre x r (by omega), w64 (n := b.2.1 - 1) (by omega) (by omega)]
    rw [← shift_mid] at ih
    refine Ev.ite (fun h => ?_) (fun h => ?_)
    · simp only [decide_eq_true_eq] at h
      have : ¬ x.length ≤ 8 := by omega
      simp only [List.all_cons, testOK, this, decide_false, Bool.false_and, Bool.false_eq_true, if_false]; exact Ev.some _
    simp only [decide_eq_true_eq] at h
    have h8 : x.length ≤ 8 := by omega
    refine Ev.bind (e_spec_l1All x 0 (b.2.1 - 1) (hx x (List.mem_cons_self ..))) ?_
    have hfun : (fun n : Int => decide (0 ≤ n ∧ n ≤ b.2.1 - 1)) = fun c => decide (0 ≤ c ∧ c < b.2.1) := by
      funext c
      apply decide_eq_decide.2
      omega
    rw [hfun]
    have ht : testOK b x = x.all (fun c => decide (0 ≤ c ∧ c < b.2.1)) := by simp only [testOK, h8, decide_true, Bool.true_and]
    rw [List.all_cons, ht]
    cases hxx : x.all (fun c => decide (0 ≤ c ∧ c < b.2.1)) with
    | true => simp only [Bool.not_true, Bool.false_eq_true, if_false, Bool.true_and]; exact ih
    | false => simp only [Bool.not_false, if_true, Bool.false_and, Bool.false_eq_true, if_false]; exact Ev.some _
def smallB (b : BoardD) : Bool := boardOK b && decide (b.2.2.length ≤ 30)
def testsOK (b : BoardD) (l : List (List Int)) : Bool := decide (l.length ≤ 10) && l.all (testOK b)
theorem e_impl_areTests (b : BoardD) (l : List (List Int)) (hb : b.2.2.length ≤ 9223372036854775806) (hl : l.length ≤ 9223372036854775806) (hx : ∀ x ∈ l, x.length ≤ 9223372036854775806) : Ev (fun k => f_impl_areTests k b l) (smallB b && testsOK b l) := by
  refine Ev.succ ?_
  simp only [f_impl_areTests]
  refine Ev.bind (e_impl_IsBoard b hb) ?_
  cases hbo : boardOK b with
  | false => simp only [Bool.not_false, if_true, smallB, hbo, Bool.false_and]; exact Ev.some _
  | true =>
    simp only [Bool.not_true, Bool.false_eq_true, if_false, smallB, hbo, Bool.true_and]
    refine Ev.ite (fun h => Ev.of ?_) (fun h => Ev.ite (fun h2 => Ev.of ?_) (fun h2 => ?_))
    · simp only [decide_eq_true_eq] at h
      have : ¬ b.2.2.length ≤ 30 := by omega
      simp [this]
    · simp only [decide_eq_true_eq] at h2
      have : ¬ l.length ≤ 10 := by omega
      simp [testsOK, this]
    · simp only [decide_eq_true_eq] at h h2
      have h3 : b.2.2.length ≤ 30 := by omega
      have h4 : l.length ≤ 10 := by omega
      refine Ev.bind (e_impl_areTests_0 b hbo l [] hx (by simpa using hl)) ?_
      simp only [h3, testsOK, h4, decide_true, Bool.true_and]
      cases hy : l.all (testOK b) with
      | true => simp only [if_true]; exact Ev.go (Ev.some _)
      | false => simp only [Bool.false_eq_true, if_false]; exact Ev.ret (Ev.some _)
theorem e_spec_tsGood (b : BoardD) (hb : b.2.2.length ≤ 9223372036854775806) : Ev (fun k => f_spec_tsGood k b) (smallB b) := by
  refine Ev.succ ?_
  simp only [f_spec_tsGood]
  refine Ev.bind (e_spec_boGood b hb) ?_
  cases hbo : boardOK b with
  | false => simp only [Bool.false_eq_true, if_false, smallB, hbo, Bool.false_and]; exact Ev.some _
  | true =>
    simp only [if_true, smallB, hbo, Bool.true_and]
    refine Ev.of ?_
    congr 1
    apply decide_eq_decide.2
    omega
theorem e_spec_tsTests (b : BoardD) (hbo : boardOK b = true) (l : List (List Int)) (hl : l.length ≤ 9223372036854775806) (hx : ∀ x ∈ l, x.length ≤ 9223372036854775806) : Ev (fun k => f_spec_tsTests k b l) (testsOK b l) := by
  refine Ev.succ ?_
  simp only [f_spec_tsTests]
  refine Ev.bind (e_spec_tsTests_0 b hbo l l [] hx (by simpa using hl)) ?_
  cases hy : l.all (testOK b) with
  | true =>
    simp only [if_true, testsOK, hy, Bool.and_true]
    refine Ev.go (Ev.of ?_)
    congr 1
    apply decide_eq_decide.2
    omega
  | false => simp only [Bool.false_eq_true, if_false, testsOK, hy, Bool.and_false]; exact Ev.ret (Ev.some _)
end Go.Proofs.Ytgpmbmnfcbippaa.Vs
