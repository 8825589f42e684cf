/- Laws on hidden faults and on single causes. -/
import Derived.Test.YtgpmbmnfcbippaaqqflVsDp
set_option linter.unusedVariables false
set_option linter.unusedSimpArgs false
namespace Go.Proofs.Ytgpmbmnfcbippaa.Vs
open Go.RowKit
def r_HiddenFaults (b : BoardD) (t : List Int) : List FaultD × Bool := if entriesOK b t then (hiddenOf b t, true) else ([], false)
theorem e_spec_HiddenFaults (b : BoardD) (t : List Int) (h0 : b.2.2.length ≤ 9223372036854775806) (h2 : t.length ≤ 9223372036854775806) : Ev (fun k => f_spec_HiddenFaults k b t) (r_HiddenFaults b t) := by
  refine Ev.succ ?_
  simp only [f_spec_HiddenFaults]
  unfold r_HiddenFaults
  refine Ev.bind (a := entriesOK b t) (e_spec_flColumns b t h0 h2) ?_
  cases g0 : entriesOK b t with
  | false => simp only [Bool.not_false, if_true, Bool.false_eq_true, if_false, Bool.false_and, Bool.and_false]; exact Ev.some _
  | true =>
    obtain ⟨hb, ht, hc⟩ := entries_ok g0
    simp only [Bool.not_true, Bool.false_eq_true, if_false, if_true, Bool.and_self]
    exact Ev.bind (e_spec_faHidden b hb t (by omega) hc) (Ev.some _)
theorem r_HiddenFaults_len (b : BoardD) (t : List Int) : (r_HiddenFaults b t).1.length ≤ 270 := by
  unfold r_HiddenFaults
  split
  · rename_i h
    exact Nat.le_trans (List.length_filter_le _ _) (poss_count (entries_ok h).1)
  · simp
theorem law_FnExactHiddenFaults (p0 : BoardD) (p1 : List Int) (h0 : p0.2.2.length ≤ 9223372036854775807) (h1 : p1.length ≤ 9223372036854775807) : Ev (fun k => f_laws_FnExactHiddenFaults k p0 p1) true := by
  refine Ev.succ ?_
  simp only [f_laws_FnExactHiddenFaults]
  by_cases q1 : (p1.length : Int) > 1048576
  · simp only [q1, decide_true, if_true]; exact Ev.some _
  simp only [q1, decide_false, Bool.false_eq_true, if_false]
  refine Ev.bind (e_laws_szBoard _ _ (by first | omega | (dsimp only; omega)) (by first | omega | (dsimp only; omega)) (by first | omega | (dsimp only; omega))) ?_
  by_cases q2 : (1048576 : Int) - (p0.2.2.length : Int) < 0
  · simp only [q2, if_true]; exact Ev.some _
  simp only [q2, if_false, decide_false, Bool.false_eq_true]
  have es := e_spec_HiddenFaults p0 p1 (by omega) (by omega)
  have ei := e_impl_HiddenFaults p0 p1 (by omega) (by omega)
  have hr := r_HiddenFaults_len p0 p1
  change Ev _ (r_HiddenFaults p0 p1) at ei
  generalize r_HiddenFaults p0 p1 = R at es ei hr
  refine Ev.bind (e_laws_toBoard _ (by first | omega | (dsimp only; omega))) ?_
  refine Ev.bind (e_laws_toIntS _ (by first | omega | (dsimp only; omega))) ?_
  refine Ev.bind es ?_
  refine Ev.bind (e_laws_toBoard _ (by first | omega | (dsimp only; omega))) ?_
  refine Ev.bind (e_laws_toIntS _ (by first | omega | (dsimp only; omega))) ?_
  refine Ev.bind ei ?_
  refine Ev.bind (e_laws_eqFaultS _ _ (by first | omega | (dsimp only; omega))) ?_
  simp only [decide_true, beq_self_eq_true, ne_eq, not_true_eq_false, decide_false, Bool.not_true, Bool.false_eq_true, if_false]
  refine Ev.bind (e_laws_toBoard _ (by first | omega | (dsimp only; omega))) ?_
  refine Ev.bind (e_laws_eqBoard _ _ (by first | omega | (dsimp only; omega))) ?_
  simp only [decide_true, beq_self_eq_true, ne_eq, not_true_eq_false, decide_false, Bool.not_true, Bool.false_eq_true, if_false]
  refine Ev.bind (e_laws_toIntS _ (by first | omega | (dsimp only; omega))) ?_
  refine Ev.bind (e_laws_eqIntS _ _ (by first | omega | (dsimp only; omega))) ?_
  simp only [decide_true, beq_self_eq_true, ne_eq, not_true_eq_false, decide_false, Bool.not_true, Bool.false_eq_true, if_false]
  refine Ev.bind (e_laws_markBoard _ _ (by first | omega | (dsimp only; omega)) (by first | omega | (dsimp only; omega))) ?_
  try dsimp only
  refine Ev.bind (e_laws_markIntS _ _ (by first | omega | (dsimp only; omega)) (by first | omega | (dsimp only; omega))) ?_
  try dsimp only
  refine Ev.ite (fun h => by simp only [decide_eq_true_eq] at h; omega) (fun h => ?_)
  refine Ev.bind (e_laws_eqFaultS _ _ (by first | omega | (dsimp only; omega))) ?_
  simp only [decide_true, beq_self_eq_true, ne_eq, not_true_eq_false, decide_false, Bool.not_true, Bool.false_eq_true, if_false]
  refine Ev.bind (e_laws_markFaultS _ _ (by first | omega | (dsimp only; omega)) (by first | omega | (dsimp only; omega))) ?_
  try dsimp only
  refine Ev.bind (e_laws_heldFaultS _ _ (by first | omega | (dsimp only; omega)) (by first | omega | (dsimp only; omega))) ?_
  try dsimp only
  refine Ev.ite (fun h => by simp only [decide_eq_true_eq] at h; omega) (fun h => ?_)
  simp only [decide_true, beq_self_eq_true, ne_eq, not_true_eq_false, decide_false, Bool.not_true, Bool.false_eq_true, if_false]
  refine Ev.bind (e_laws_toBoard _ (by first | omega | (dsimp only; omega))) ?_
  refine Ev.bind (e_laws_toIntS _ (by first | omega | (dsimp only; omega))) ?_
  refine Ev.bind ei ?_
  refine Ev.bind (e_laws_eqFaultS _ _ (by first | omega | (dsimp only; omega))) ?_
  simp only [decide_true, beq_self_eq_true, ne_eq, not_true_eq_false, decide_false, Bool.not_true, Bool.false_eq_true, if_false]
  refine Ev.bind (e_laws_heldFaultS _ _ (by first | omega | (dsimp only; omega)) (by first | omega | (dsimp only; omega))) ?_
  try dsimp only
  refine Ev.ite (fun h => by simp only [decide_eq_true_eq] at h; omega) (fun h => ?_)
  simp only [decide_true, beq_self_eq_true, ne_eq, not_true_eq_false, decide_false, Bool.not_true, Bool.false_eq_true, if_false]
  exact Ev.some _
end Go.Proofs.Ytgpmbmnfcbippaa.Vs
