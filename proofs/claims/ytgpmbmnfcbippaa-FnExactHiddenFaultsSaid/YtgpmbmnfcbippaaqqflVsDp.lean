/- Hidden faults, single causes, pairs of causes. -/
import Derived.Test.YtgpmbmnfcbippaaqqflVsPo
set_option linter.unusedVariables false
set_option linter.unusedSimpArgs false
namespace Go.Proofs.Ytgpmbmnfcbippaa.Vs
open Go.RowKit
def hiddenOf (b : BoardD) (t : List Int) : List FaultD := (possFrom b.2.1 0 b.2.2).filter fun f => decide (seenIx b [f] t < 0)
theorem e_spec_faHidden_0 (b : BoardD) (hb : boardOK b = true) (t : List Int) (ht : t.length ≤ 1000) (hc : colsOK b t) : ∀ (r pre acc : List FaultD), (∀ f ∈ r, faultsOK b (-1) [f] = true) → (pre ++ r).length ≤ 1000 → acc.length ≤ pre.length → Ev (fun k => f_spec_faHidden_0 k b.1 b.2.1 b.2.2 acc (pre ++ r) t ((pre ++ r).length : Int) (pre.length : Int)) (acc ++ r.filter (fun f => decide (seenIx b [f] t < 0)))
  | [], pre, acc, hf, hl, ha => by
    refine Ev.succ ?_
    simp only [f_spec_faHidden_0, nlt_end, decide_false, Bool.false_eq_true, if_false]
    exact Ev.of (by simp)
  | f :: r, pre, acc, hf, hl, ha => by
    have ih := fun acc' ha' => e_spec_faHidden_0 b hb t ht hc r (pre ++ [f]) acc' (fun g hg => hf g (List.mem_cons_of_mem _ hg)) (by simpa using hl) ha'
    simp only [← shift_mid] at ih
    have hal : acc.length + 1 ≤ 140737488355328 / 24 := by simp at hl; omega
    have h1 := e_spec_faSeen b hb [f] (hf f (List.mem_cons_self ..)) (by simp) t ht hc
    refine Ev.succ ?_
    simp only [f_spec_faHidden_0, lt_mid, ge_mid, decide_true, if_true, Int.toNat_natCast, getD_mid, List.length_singleton, hal]
    rw [next_mid pre f r (by omega)]
    refine Ev.bind h1 (Ev.ite (fun h => ?_) (fun h => ?_))
    · have h : (fun f => decide (seenIx b [f] t < 0)) f = true := h
      refine (ih (acc ++ [f]) (by simp; omega)).congr ?_
      simp only [List.filter_cons, h, if_true, List.append_assoc, List.singleton_append]
    · have h : ¬ (fun f => decide (seenIx b [f] t < 0)) f = true := h
      refine (ih acc (by simp; omega)).congr ?_
      exact congrArg (acc ++ ·) (List.filter_cons_of_neg (p := (fun f => decide (seenIx b [f] t < 0))) h).symm
theorem e_spec_faHidden (b : BoardD) (hb : boardOK b = true) (t : List Int) (ht : t.length ≤ 1000) (hc : colsOK b t) : Ev (fun k => f_spec_faHidden k b t) (hiddenOf b t) := by
  have hn := poss_count hb
  refine Ev.succ ?_
  simp only [f_spec_faHidden]
  exact Ev.bind (e_spec_faPossible b hb) (Ev.bind (e_spec_faHidden_0 b hb t ht hc (possFrom b.2.1 0 b.2.2) [] [] (fun f hf => poss_one hb hf) (by simp; omega) (by simp)) (Ev.some _))
theorem e_impl_HiddenFaults_0 (b : BoardD) (hb : boardOK b = true) (t : List Int) (ht : t.length ≤ 1000) (hc : colsOK b t) : ∀ (r pre acc : List FaultD), (∀ f ∈ r, faultsOK b (-1) [f] = true) → (pre ++ r).length ≤ 1000 → acc.length ≤ pre.length → Ev (fun k => f_impl_HiddenFaults_0 k b.1 b.2.1 b.2.2 acc (pre ++ r) t ((pre ++ r).length : Int) (pre.length : Int)) (acc ++ r.filter (fun f => decide (seenIx b [f] t < 0)))
  | [], pre, acc, hf, hl, ha => by
    refine Ev.succ ?_
    simp only [f_impl_HiddenFaults_0, nlt_end, decide_false, Bool.false_eq_true, if_false]
    exact Ev.of (by simp)
  | f :: r, pre, acc, hf, hl, ha => by
    have ih := fun acc' ha' => e_impl_HiddenFaults_0 b hb t ht hc r (pre ++ [f]) acc' (fun g hg => hf g (List.mem_cons_of_mem _ hg)) (by simpa using hl) ha'
    simp only [← shift_mid] at ih
    have hal : acc.length + 1 ≤ 140737488355328 / 24 := by simp at hl; omega
    have h1 := e_impl_firstSeen b hb [f] (hf f (List.mem_cons_self ..)) (by simp) t ht hc
    refine Ev.succ ?_
    simp only [f_impl_HiddenFaults_0, lt_mid, ge_mid, decide_true, if_true, Int.toNat_natCast, getD_mid, List.length_singleton, hal]
    rw [next_mid pre f r (by omega)]
    refine Ev.bind h1 (Ev.ite (fun h => ?_) (fun h => ?_))
    · have h : (fun f => decide (seenIx b [f] t < 0)) f = true := h
      refine (ih (acc ++ [f]) (by simp; omega)).congr ?_
      simp only [List.filter_cons, h, if_true, List.append_assoc, List.singleton_append]
    · have h : ¬ (fun f => decide (seenIx b [f] t < 0)) f = true := h
      refine (ih acc (by simp; omega)).congr ?_
      exact congrArg (acc ++ ·) (List.filter_cons_of_neg (p := (fun f => decide (seenIx b [f] t < 0))) h).symm
theorem e_impl_HiddenFaults (b : BoardD) (t : List Int) (h0 : b.2.2.length ≤ 9223372036854775806) (h2 : t.length ≤ 9223372036854775806) : Ev (fun k => f_impl_HiddenFaults k b t) (if entriesOK b t then (hiddenOf b t, true) else ([], false)) := by
  refine Ev.succ ?_
  simp only [f_impl_HiddenFaults]
  refine Ev.bind (a := entriesOK b t) (e_impl_validEntries b t h0 h2) ?_
  cases g0 : entriesOK b t with
  | false => simp only [Bool.not_false, if_true, Bool.false_eq_true, if_false, Bool.false_and, Bool.and_false]; exact Ev.some _
  | true =>
    obtain ⟨hb, ht, hc⟩ := entries_ok g0
    have hn := poss_count hb
    simp only [Bool.not_true, Bool.false_eq_true, if_false, if_true, Bool.and_self]
    exact Ev.bind (e_impl_possibleFaults b hb) (Ev.bind (e_impl_HiddenFaults_0 b hb t (by omega) hc (possFrom b.2.1 0 b.2.2) [] [] (fun f hf => poss_one hb hf) (by simp; omega) (by simp)) (Ev.some _))
end Go.Proofs.Ytgpmbmnfcbippaa.Vs
