/- Laws on hidden faults and on least causes. -/
import Derived.Test.YtkefbmaagdaodaaVsDp
set_option linter.unusedVariables false
set_option linter.unusedSimpArgs false
namespace Go.Proofs.Ytkefbmaagdaodaa.Vs
open Go.RowKit
def r_SeenShare (b : BoardD) (t : List Int) : Int × Int × Bool := if entriesOK b t then (wrap64 (((possFrom b.2.1 0 b.2.2).length : Int) - ((hiddenOf b t).length : Int)), ((possFrom b.2.1 0 b.2.2).length : Int), true) else (0, 0, false)
theorem e_spec_SeenShare (b : BoardD) (t : List Int) (h0 : b.2.2.length ≤ 9223372036854775806) (h2 : t.length ≤ 9223372036854775806) : Ev (fun k => f_spec_SeenShare k b t) (r_SeenShare b t) := by
  refine Ev.succ ?_
  simp only [f_spec_SeenShare]
  unfold r_SeenShare
  refine Ev.bind (a := entriesOK b t) (e_spec_flColumns b t h0 h2) ?_
  cases g0 : entriesOK b t with
  | false => simp only [Bool.not_false, if_true, Bool.false_eq_true, if_false, Bool.false_and, Bool.and_false]; exact Ev.some _
  | true =>
    obtain ⟨hb, ht, hc⟩ := entries_ok g0
    simp only [Bool.not_true, Bool.false_eq_true, if_false, if_true, Bool.and_self]
    exact Ev.bind (e_spec_faPossible b hb) (Ev.bind (e_spec_faHidden b hb t (by omega) hc) (Ev.some _))
theorem e_impl_SeenShare (b : BoardD) (t : List Int) (h0 : b.2.2.length ≤ 9223372036854775806) (h2 : t.length ≤ 9223372036854775806) : Ev (fun k => f_impl_SeenShare k b t) (r_SeenShare b t) := by
  refine Ev.succ ?_
  simp only [f_impl_SeenShare]
  unfold r_SeenShare
  refine Ev.bind (e_impl_HiddenFaults b t h0 h2) ?_
  cases g0 : entriesOK b t with
  | false => simp only [Bool.not_false, if_true, Bool.false_eq_true, if_false, Bool.false_and, Bool.and_false]; exact Ev.some _
  | true =>
    obtain ⟨hb, ht, hc⟩ := entries_ok g0
    simp only [Bool.not_true, Bool.false_eq_true, if_false, if_true, Bool.and_self]
    exact Ev.bind (e_impl_possibleFaults b hb) (Ev.some _)
theorem law_FnExactSeenShare (p0 : BoardD) (p1 : List Int) (h0 : p0.2.2.length ≤ 9223372036854775807) (h1 : p1.length ≤ 9223372036854775807) : Ev (fun k => f_laws_FnExactSeenShare k p0 p1) true := by
  refine Ev.succ ?_
  simp only [f_laws_FnExactSeenShare]
  by_cases q1 : (p1.length : Int) > 1048576
  · simp only [q1, decide_true, if_true]; exact Ev.some _
  simp only [q1, decide_false, Bool.false_eq_true, if_false]
  refine Ev.bind (e_laws_szBoard _ _ (by first | omega | (dsimp only; omega)) (by first | omega | (dsimp only; omega)) (by first | omega | (dsimp only; omega))) ?_
  by_cases q2 : (1048576 : Int) - (p0.2.2.length : Int) < 0
  · simp only [q2, if_true]; exact Ev.some _
  simp only [q2, if_false, decide_false, Bool.false_eq_true]
  have es := e_spec_SeenShare p0 p1 (by omega) (by omega)
  have ei := e_impl_SeenShare p0 p1 (by omega) (by omega)
  generalize r_SeenShare p0 p1 = R at es ei
  refine Ev.bind (e_laws_toBoard _ (by first | omega | (dsimp only; omega))) ?_
  refine Ev.bind (e_laws_toIntS _ (by first | omega | (dsimp only; omega))) ?_
  refine Ev.bind es ?_
  refine Ev.bind (e_laws_toBoard _ (by first | omega | (dsimp only; omega))) ?_
  refine Ev.bind (e_laws_toIntS _ (by first | omega | (dsimp only; omega))) ?_
  refine Ev.bind ei ?_
  simp only [decide_true, beq_self_eq_true, ne_eq, not_true_eq_false, decide_false, Bool.not_true, Bool.false_eq_true, if_false]
  refine Ev.bind (e_laws_toBoard _ (by first | omega | (dsimp only; omega))) ?_
  refine Ev.bind (e_laws_eqBoard _ _ (by first | omega | (dsimp only; omega))) ?_
  simp only [decide_true, beq_self_eq_true, ne_eq, not_true_eq_false, decide_false, Bool.not_true, Bool.false_eq_true, if_false]
  refine Ev.bind (e_laws_toIntS _ (by first | omega | (dsimp only; omega))) ?_
  refine Ev.bind (e_laws_eqIntS _ _ (by first | omega | (dsimp only; omega))) ?_
  simp only [decide_true, beq_self_eq_true, ne_eq, not_true_eq_false, decide_false, Bool.not_true, Bool.false_eq_true, if_false]
  exact Ev.some _
def r_LeastCauses (b : BoardD) (t : List Int) (s : List FallD) : Int × Bool := if seenOK b t s then (if endsOf b [] t = s then (0, true) else if ((singlesOf b t s).length : Int) > 0 then (1, true) else if ((pairsOf b t s).length : Int) > 0 then (2, true) else (0, false)) else (0, false)
theorem e_spec_LeastCauses (b : BoardD) (t : List Int) (s : List FallD) (h0 : b.2.2.length ≤ 9223372036854775806) (h2 : t.length ≤ 9223372036854775806) (h3 : s.length ≤ 9223372036854775806) : Ev (fun k => f_spec_LeastCauses k b t s) (r_LeastCauses b t s) := by
  refine Ev.succ ?_
  simp only [f_spec_LeastCauses]
  unfold r_LeastCauses
  refine Ev.bind (a := seenOK b t s) (e_spec_dgGood b t s h0 h2 h3) ?_
  cases g0 : seenOK b t s with
  | false => simp only [Bool.not_false, if_true, Bool.false_eq_true, if_false, Bool.false_and, Bool.and_false]; exact Ev.some _
  | true =>
    simp only [Bool.not_true, Bool.false_eq_true, if_false, if_true, Bool.and_self]
    obtain ⟨hb, h24, ht, hc, hs⟩ := seen_ok g0
    refine Ev.bind (e_spec_dgExplains b hb [] rfl (by simp) t (by omega) hc s hs) (Ev.ite (fun h => ?_) (fun h => ?_))
    · rw [if_pos (of_decide_eq_true h)]; exact Ev.some _
    rw [if_neg (fun hh => h (decide_eq_true hh))]
    refine Ev.bind (e_spec_dgSingle b hb t (by omega) hc s hs) (Ev.ite (fun h1 => ?_) (fun h1 => ?_))
    · simp only [decide_eq_true_eq] at h1; rw [if_pos h1]; exact Ev.some _
    simp only [decide_eq_true_eq] at h1
    rw [if_neg h1]
    refine Ev.bind (e_spec_dgPairs b hb t (by omega) hc s hs) (Ev.ite (fun h2 => ?_) (fun h2 => ?_))
    · simp only [decide_eq_true_eq] at h2; rw [if_pos h2]; exact Ev.some _
    simp only [decide_eq_true_eq] at h2
    rw [if_neg h2]
    exact Ev.some _
theorem e_impl_LeastCauses (b : BoardD) (t : List Int) (s : List FallD) (h0 : b.2.2.length ≤ 9223372036854775806) (h2 : t.length ≤ 9223372036854775806) (h3 : s.length ≤ 9223372036854775806) : Ev (fun k => f_impl_LeastCauses k b t s) (r_LeastCauses b t s) := by
  refine Ev.succ ?_
  simp only [f_impl_LeastCauses]
  unfold r_LeastCauses
  refine Ev.bind (a := seenOK b t s) (e_impl_isSeen b t s h0 h2 h3) ?_
  cases g0 : seenOK b t s with
  | false => simp only [Bool.not_false, if_true, Bool.false_eq_true, if_false, Bool.false_and, Bool.and_false]; exact Ev.some _
  | true =>
    simp only [Bool.not_true, Bool.false_eq_true, if_false, if_true, Bool.and_self]
    obtain ⟨hb, h24, ht, hc, hs⟩ := seen_ok g0
    refine Ev.bind (e_impl_explainsEnds b hb [] rfl (by simp) t (by omega) hc s) (Ev.ite (fun h => ?_) (fun h => ?_))
    · rw [if_pos (of_decide_eq_true h)]; exact Ev.some _
    rw [if_neg (fun hh => h (decide_eq_true hh))]
    refine Ev.bind (e_impl_singleCauses b hb t (by omega) hc s hs) (Ev.ite (fun h1 => ?_) (fun h1 => ?_))
    · simp only [decide_eq_true_eq] at h1; rw [if_pos h1]; exact Ev.some _
    simp only [decide_eq_true_eq] at h1
    rw [if_neg h1]
    refine Ev.bind (e_impl_pairCauses b hb t (by omega) hc s hs) (Ev.ite (fun h2 => ?_) (fun h2 => ?_))
    · simp only [decide_eq_true_eq] at h2; rw [if_pos h2]; exact Ev.some _
    simp only [decide_eq_true_eq] at h2
    rw [if_neg h2]
    exact Ev.some _
theorem law_FnExactLeastCauses (p0 : BoardD) (p1 : List Int) (p2 : List FallD) (h0 : p0.2.2.length ≤ 9223372036854775807) (h1 : p1.length ≤ 9223372036854775807) (h2 : p2.length ≤ 9223372036854775807) : Ev (fun k => f_laws_FnExactLeastCauses k p0 p1 p2) true := by
  refine Ev.succ ?_
  simp only [f_laws_FnExactLeastCauses]
  by_cases q1 : (p1.length : Int) > 1048576
  · simp only [q1, decide_true, if_true]; exact Ev.some _
  simp only [q1, decide_false, Bool.false_eq_true, if_false]
  refine Ev.bind (e_laws_szBoard _ _ (by first | omega | (dsimp only; omega)) (by first | omega | (dsimp only; omega)) (by first | omega | (dsimp only; omega))) ?_
  by_cases q2 : (1048576 : Int) - (p0.2.2.length : Int) < 0
  · simp only [q2, if_true]; exact Ev.some _
  simp only [q2, if_false, decide_false, Bool.false_eq_true]
  refine Ev.bind (e_laws_szFallS _ _ (by first | omega | (dsimp only; omega)) (by first | omega | (dsimp only; omega)) (by first | omega | (dsimp only; omega))) ?_
  by_cases q3 : (1048576 : Int) - (p0.2.2.length : Int) - (p2.length : Int) < 0
  · simp only [q3, if_true]; exact Ev.some _
  simp only [q3, if_false, decide_false, Bool.false_eq_true]
  have es := e_spec_LeastCauses p0 p1 p2 (by omega) (by omega) (by omega)
  have ei := e_impl_LeastCauses p0 p1 p2 (by omega) (by omega) (by omega)
  generalize r_LeastCauses p0 p1 p2 = R at es ei
  refine Ev.bind (e_laws_toBoard _ (by first | omega | (dsimp only; omega))) ?_
  refine Ev.bind (e_laws_toIntS _ (by first | omega | (dsimp only; omega))) ?_
  refine Ev.bind (e_laws_toFallS _ (by first | omega | (dsimp only; omega))) ?_
  refine Ev.bind es ?_
  refine Ev.bind (e_laws_toBoard _ (by first | omega | (dsimp only; omega))) ?_
  refine Ev.bind (e_laws_toIntS _ (by first | omega | (dsimp only; omega))) ?_
  refine Ev.bind (e_laws_toFallS _ (by first | omega | (dsimp only; omega))) ?_
  refine Ev.bind ei ?_
  simp only [decide_true, beq_self_eq_true, ne_eq, not_true_eq_false, decide_false, Bool.not_true, Bool.false_eq_true, if_false]
  refine Ev.bind (e_laws_toBoard _ (by first | omega | (dsimp only; omega))) ?_
  refine Ev.bind (e_laws_eqBoard _ _ (by first | omega | (dsimp only; omega))) ?_
  simp only [decide_true, beq_self_eq_true, ne_eq, not_true_eq_false, decide_false, Bool.not_true, Bool.false_eq_true, if_false]
  refine Ev.bind (e_laws_toIntS _ (by first | omega | (dsimp only; omega))) ?_
  refine Ev.bind (e_laws_eqIntS _ _ (by first | omega | (dsimp only; omega))) ?_
  simp only [decide_true, beq_self_eq_true, ne_eq, not_true_eq_false, decide_false, Bool.not_true, Bool.false_eq_true, if_false]
  refine Ev.bind (e_laws_toFallS _ (by first | omega | (dsimp only; omega))) ?_
  refine Ev.bind (e_laws_eqFallS _ _ (by first | omega | (dsimp only; omega))) ?_
  simp only [decide_true, beq_self_eq_true, ne_eq, not_true_eq_false, decide_false, Bool.not_true, Bool.false_eq_true, if_false]
  exact Ev.some _
end Go.Proofs.Ytkefbmaagdaodaa.Vs
