/- Hidden faults, single causes, pairs of causes. -/
import Derived.Test.YtgpmbmnfcbippaaqnnuVsPo
set_option linter.unusedVariables false
set_option linter.unusedSimpArgs false
namespace Go.Proofs.Ytgpmbmnfcbippaa.Vs
open Go.RowKit
def singlesOf (b : BoardD) (t : List Int) (s : List FallD) : List FaultD := (possFrom b.2.1 0 b.2.2).filter fun f => decide (endsOf b [f] t = s)
theorem e_spec_dgSingle_0 (b : BoardD) (hb : boardOK b = true) (t : List Int) (ht : t.length ≤ 1000) (hc : colsOK b t) (s : List FallD) (hs : s.length = t.length) : ∀ (r pre acc : List FaultD), (∀ f ∈ r, faultsOK b (-1) [f] = true) → (pre ++ r).length ≤ 1000 → acc.length ≤ pre.length → Ev (fun k => f_spec_dgSingle_0 k b.1 b.2.1 b.2.2 acc (pre ++ r) t s ((pre ++ r).length : Int) (pre.length : Int)) (acc ++ r.filter (fun f => decide (endsOf b [f] t = s)))
  | [], pre, acc, hf, hl, ha => by
    refine Ev.succ ?_
    simp only [f_spec_dgSingle_0, nlt_end, decide_false, Bool.false_eq_true, if_false]
    exact Ev.of (by simp)
  | f :: r, pre, acc, hf, hl, ha => by
    have ih := fun acc' ha' => e_spec_dgSingle_0 b hb t ht hc s hs r (pre ++ [f]) acc' (fun g hg => hf g (List.mem_cons_of_mem _ hg)) (by simpa using hl) ha'
    simp only [← shift_mid] at ih
    have hal : acc.length + 1 ≤ 140737488355328 / 24 := by simp at hl; omega
    have h1 := e_spec_dgExplains b hb [f] (hf f (List.mem_cons_self ..)) (by simp) t ht hc s hs
    refine Ev.succ ?_
    simp only [f_spec_dgSingle_0, lt_mid, ge_mid, decide_true, if_true, Int.toNat_natCast, getD_mid, List.length_singleton, hal]
    rw [next_mid pre f r (by omega)]
    refine Ev.bind h1 (Ev.ite (fun h => ?_) (fun h => ?_))
    · have h : (fun f => decide (endsOf b [f] t = s)) f = true := h
      refine (ih (acc ++ [f]) (by simp; omega)).congr ?_
      simp only [List.filter_cons, h, if_true, List.append_assoc, List.singleton_append]
    · have h : ¬ (fun f => decide (endsOf b [f] t = s)) f = true := h
      refine (ih acc (by simp; omega)).congr ?_
      exact congrArg (acc ++ ·) (List.filter_cons_of_neg (p := (fun f => decide (endsOf b [f] t = s))) h).symm
theorem e_spec_dgSingle (b : BoardD) (hb : boardOK b = true) (t : List Int) (ht : t.length ≤ 1000) (hc : colsOK b t) (s : List FallD) (hs : s.length = t.length) : Ev (fun k => f_spec_dgSingle k b t s) (singlesOf b t s) := by
  have hn := poss_count hb
  refine Ev.succ ?_
  simp only [f_spec_dgSingle]
  exact Ev.bind (e_spec_faPossible b hb) (Ev.bind (e_spec_dgSingle_0 b hb t ht hc s hs (possFrom b.2.1 0 b.2.2) [] [] (fun f hf => poss_one hb hf) (by simp; omega) (by simp)) (Ev.some _))
theorem e_impl_singleCauses_0 (b : BoardD) (hb : boardOK b = true) (t : List Int) (ht : t.length ≤ 1000) (hc : colsOK b t) (s : List FallD) (hs : s.length = t.length) : ∀ (r pre acc : List FaultD), (∀ f ∈ r, faultsOK b (-1) [f] = true) → (pre ++ r).length ≤ 1000 → acc.length ≤ pre.length → Ev (fun k => f_impl_singleCauses_0 k b.1 b.2.1 b.2.2 acc (pre ++ r) t s ((pre ++ r).length : Int) (pre.length : Int)) (acc ++ r.filter (fun f => decide (endsOf b [f] t = s)))
  | [], pre, acc, hf, hl, ha => by
    refine Ev.succ ?_
    simp only [f_impl_singleCauses_0, nlt_end, decide_false, Bool.false_eq_true, if_false]
    exact Ev.of (by simp)
  | f :: r, pre, acc, hf, hl, ha => by
    have ih := fun acc' ha' => e_impl_singleCauses_0 b hb t ht hc s hs r (pre ++ [f]) acc' (fun g hg => hf g (List.mem_cons_of_mem _ hg)) (by simpa using hl) ha'
    simp only [← shift_mid] at ih
    have hal : acc.length + 1 ≤ 140737488355328 / 24 := by simp at hl; omega
    have h1 := e_impl_explainsEnds b hb [f] (hf f (List.mem_cons_self ..)) (by simp) t ht hc s
    refine Ev.succ ?_
    simp only [f_impl_singleCauses_0, lt_mid, ge_mid, decide_true, if_true, Int.toNat_natCast, getD_mid, List.length_singleton, hal]
    rw [next_mid pre f r (by omega)]
    refine Ev.bind h1 (Ev.ite (fun h => ?_) (fun h => ?_))
    · have h : (fun f => decide (endsOf b [f] t = s)) f = true := h
      refine (ih (acc ++ [f]) (by simp; omega)).congr ?_
      simp only [List.filter_cons, h, if_true, List.append_assoc, List.singleton_append]
    · have h : ¬ (fun f => decide (endsOf b [f] t = s)) f = true := h
      refine (ih acc (by simp; omega)).congr ?_
      exact congrArg (acc ++ ·) (List.filter_cons_of_neg (p := (fun f => decide (endsOf b [f] t = s))) h).symm
theorem e_impl_singleCauses (b : BoardD) (hb : boardOK b = true) (t : List Int) (ht : t.length ≤ 1000) (hc : colsOK b t) (s : List FallD) (hs : s.length = t.length) : Ev (fun k => f_impl_singleCauses k b t s) (singlesOf b t s) := by
  have hn := poss_count hb
  refine Ev.succ ?_
  simp only [f_impl_singleCauses]
  exact Ev.bind (e_impl_possibleFaults b hb) (Ev.bind (e_impl_singleCauses_0 b hb t ht hc s hs (possFrom b.2.1 0 b.2.2) [] [] (fun f hf => poss_one hb hf) (by simp; omega) (by simp)) (Ev.some _))
end Go.Proofs.Ytgpmbmnfcbippaa.Vs
