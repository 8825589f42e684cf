/- Laws on hidden faults and on single causes. -/
import Derived.Test.YtgpmbmnfcbippaaqnnuVsDp
set_option linter.unusedVariables false
set_option linter.unusedSimpArgs false
namespace Go.Proofs.Ytgpmbmnfcbippaa.Vs
open Go.RowKit
def r_SingleCauses (b : BoardD) (t : List Int) (s : List FallD) : List FaultD × Bool := if seenOK b t s then (singlesOf b t s, true) else ([], false)
theorem e_spec_SingleCauses (b : BoardD) (t : List Int) (s : List FallD) (h0 : b.2.2.length ≤ 9223372036854775806) (h2 : t.length ≤ 9223372036854775806) (h3 : s.length ≤ 9223372036854775806) : Ev (fun k => f_spec_SingleCauses k b t s) (r_SingleCauses b t s) := by
  refine Ev.succ ?_
  simp only [f_spec_SingleCauses]
  unfold r_SingleCauses
  refine Ev.bind (a := seenOK b t s) (e_spec_dgGood b t s h0 h2 h3) ?_
  cases g0 : seenOK b t s with
  | false => simp only [Bool.not_false, if_true, Bool.false_eq_true, if_false, Bool.false_and, Bool.and_false]; exact Ev.some _
  | true =>
    simp only [Bool.not_true, Bool.false_eq_true, if_false, if_true, Bool.and_self]
    obtain ⟨hb, h24, ht, hc, hs⟩ := seen_ok g0
    exact Ev.bind (e_spec_dgSingle b hb t (by omega) hc s hs) (Ev.some _)
theorem e_impl_SingleCauses (b : BoardD) (t : List Int) (s : List FallD) (h0 : b.2.2.length ≤ 9223372036854775806) (h2 : t.length ≤ 9223372036854775806) (h3 : s.length ≤ 9223372036854775806) : Ev (fun k => f_impl_SingleCauses k b t s) (r_SingleCauses b t s) := by
  refine Ev.succ ?_
  simp only [f_impl_SingleCauses]
  unfold r_SingleCauses
  refine Ev.bind (a := seenOK b t s) (e_impl_isSeen b t s h0 h2 h3) ?_
  cases g0 : seenOK b t s with
  | false => simp only [Bool.not_false, if_true, Bool.false_eq_true, if_false, Bool.false_and, Bool.and_false]; exact Ev.some _
  | true =>
    simp only [Bool.not_true, Bool.false_eq_true, if_false, if_true, Bool.and_self]
    obtain ⟨hb, h24, ht, hc, hs⟩ := seen_ok g0
    exact Ev.bind (e_impl_singleCauses b hb t (by omega) hc s hs) (Ev.some _)
theorem singles_len {b : BoardD} (hb : boardOK b = true) (t : List Int) (s : List FallD) : (singlesOf b t s).length ≤ 270 :=
  Nat.le_trans (List.length_filter_le _ _) (poss_count hb)
theorem r_SingleCauses_len (b : BoardD) (t : List Int) (s : List FallD) : (r_SingleCauses b t s).1.length ≤ 270 := by
  unfold r_SingleCauses
  split
  · rename_i h
    exact singles_len (seen_ok h).1 _ _
  · simp
theorem law_FnExactSingleCauses (p0 : BoardD) (p1 : List Int) (p2 : List FallD) (h0 : p0.2.2.length ≤ 9223372036854775807) (h1 : p1.length ≤ 9223372036854775807) (h2 : p2.length ≤ 9223372036854775807) : Ev (fun k => f_laws_FnExactSingleCauses k p0 p1 p2) true := by
  refine Ev.succ ?_
  simp only [f_laws_FnExactSingleCauses]
  by_cases q1 : (p1.length : Int) > 1048576
  · simp only [q1, decide_true, if_true]; exact Ev.some _
  simp only [q1, decide_false, Bool.false_eq_true, if_false]
  refine Ev.bind (e_laws_szBoard _ _ (by first | omega | (dsimp only; omega)) (by first | omega | (dsimp only; omega)) (by first | omega | (dsimp only; omega))) ?_
  by_cases q2 : (1048576 : Int) - (p0.2.2.length : Int) < 0
  · simp only [q2, if_true]; exact Ev.some _
  simp only [q2, if_false, decide_false, Bool.false_eq_true]
  refine Ev.bind (e_laws_szFallS _ _ (by first | omega | (dsimp only; omega)) (by first | omega | (dsimp only; omega)) (by first | omega | (dsimp only; omega))) ?_
  by_cases q3 : (1048576 : Int) - (p0.2.2.length : Int) - (p2.length : Int) < 0
  · simp only [q3, if_true]; exact Ev.some _
  simp only [q3, if_false, decide_false, Bool.false_eq_true]
  have es := e_spec_SingleCauses p0 p1 p2 (by omega) (by omega) (by omega)
  have ei := e_impl_SingleCauses p0 p1 p2 (by omega) (by omega) (by omega)
  have hr := r_SingleCauses_len p0 p1 p2
  generalize r_SingleCauses p0 p1 p2 = R at es ei hr
  refine Ev.bind (e_laws_toBoard _ (by first | omega | (dsimp only; omega))) ?_
  refine Ev.bind (e_laws_toIntS _ (by first | omega | (dsimp only; omega))) ?_
  refine Ev.bind (e_laws_toFallS _ (by first | omega | (dsimp only; omega))) ?_
  refine Ev.bind es ?_
  refine Ev.bind (e_laws_toBoard _ (by first | omega | (dsimp only; omega))) ?_
  refine Ev.bind (e_laws_toIntS _ (by first | omega | (dsimp only; omega))) ?_
  refine Ev.bind (e_laws_toFallS _ (by first | omega | (dsimp only; omega))) ?_
  refine Ev.bind ei ?_
  refine Ev.bind (e_laws_eqFaultS _ _ (by first | omega | (dsimp only; omega))) ?_
  simp only [decide_true, beq_self_eq_true, ne_eq, not_true_eq_false, decide_false, Bool.not_true, Bool.false_eq_true, if_false]
  refine Ev.bind (e_laws_toBoard _ (by first | omega | (dsimp only; omega))) ?_
  refine Ev.bind (e_laws_eqBoard _ _ (by first | omega | (dsimp only; omega))) ?_
  simp only [decide_true, beq_self_eq_true, ne_eq, not_true_eq_false, decide_false, Bool.not_true, Bool.false_eq_true, if_false]
  refine Ev.bind (e_laws_toIntS _ (by first | omega | (dsimp only; omega))) ?_
  refine Ev.bind (e_laws_eqIntS _ _ (by first | omega | (dsimp only; omega))) ?_
  simp only [decide_true, beq_self_eq_true, ne_eq, not_true_eq_false, decide_false, Bool.not_true, Bool.false_eq_true, if_false]
  refine Ev.bind (e_laws_toFallS _ (by first | omega | (dsimp only; omega))) ?_
  refine Ev.bind (e_laws_eqFallS _ _ (by first | omega | (dsimp only; omega))) ?_
  simp only [decide_true, beq_self_eq_true, ne_eq, not_true_eq_false, decide_false, Bool.not_true, Bool.false_eq_true, if_false]
  refine Ev.bind (e_laws_markBoard _ _ (by first | omega | (dsimp only; omega)) (by first | omega | (dsimp only; omega))) ?_
  try dsimp only
  refine Ev.bind (e_laws_markIntS _ _ (by first | omega | (dsimp only; omega)) (by first | omega | (dsimp only; omega))) ?_
  try dsimp only
  refine Ev.bind (e_laws_markFallS _ _ (by first | omega | (dsimp only; omega)) (by first | omega | (dsimp only; omega))) ?_
  try dsimp only
  refine Ev.ite (fun h => by simp only [decide_eq_true_eq] at h; omega) (fun h => ?_)
  refine Ev.bind (e_laws_eqFaultS _ _ (by first | omega | (dsimp only; omega))) ?_
  simp only [decide_true, beq_self_eq_true, ne_eq, not_true_eq_false, decide_false, Bool.not_true, Bool.false_eq_true, if_false]
  refine Ev.bind (e_laws_markFaultS _ _ (by first | omega | (dsimp only; omega)) (by first | omega | (dsimp only; omega))) ?_
  try dsimp only
  refine Ev.bind (e_laws_heldFaultS _ _ (by first | omega | (dsimp only; omega)) (by first | omega | (dsimp only; omega))) ?_
  try dsimp only
  refine Ev.ite (fun h => by simp only [decide_eq_true_eq] at h; omega) (fun h => ?_)
  simp only [decide_true, beq_self_eq_true, ne_eq, not_true_eq_false, decide_false, Bool.not_true, Bool.false_eq_true, if_false]
  refine Ev.bind (e_laws_toBoard _ (by first | omega | (dsimp only; omega))) ?_
  refine Ev.bind (e_laws_toIntS _ (by first | omega | (dsimp only; omega))) ?_
  refine Ev.bind (e_laws_toFallS _ (by first | omega | (dsimp only; omega))) ?_
  refine Ev.bind ei ?_
  refine Ev.bind (e_laws_eqFaultS _ _ (by first | omega | (dsimp only; omega))) ?_
  simp only [decide_true, beq_self_eq_true, ne_eq, not_true_eq_false, decide_false, Bool.not_true, Bool.false_eq_true, if_false]
  refine Ev.bind (e_laws_heldFaultS _ _ (by first | omega | (dsimp only; omega)) (by first | omega | (dsimp only; omega))) ?_
  try dsimp only
  refine Ev.ite (fun h => by simp only [decide_eq_true_eq] at h; omega) (fun h => ?_)
  simp only [decide_true, beq_self_eq_true, ne_eq, not_true_eq_false, decide_false, Bool.not_true, Bool.false_eq_true, if_false]
  exact Ev.some _
end Go.Proofs.Ytgpmbmnfcbippaa.Vs
