/- Hidden faults, single causes, pairs of causes. -/
import Derived.Test.YtgpmbmnfcbippaaqsuaVsPo
set_option linter.unusedVariables false
set_option linter.unusedSimpArgs false
namespace Go.Proofs.Ytgpmbmnfcbippaa.Vs
open Go.RowKit
def singlesOf (b : BoardD) (t : List Int) (s : List FallD) : List FaultD := (possFrom b.2.1 0 b.2.2).filter fun f => decide (endsOf b [f] t = s)
theorem e_spec_dgSingle_0 (b : BoardD) (hb : boardOK b = true) (t : List Int) (ht : t.length ≤ 1000) (hc : colsOK b t) (s : List FallD) (hs : s.length = t.length) : ∀ (r pre acc : List FaultD), (∀ f ∈ r, faultsOK b (-1) [f] = true) → (pre ++ r).length ≤ 1000 → acc.length ≤ pre.length → Ev (fun k => f_spec_dgSingle_0 k b.1 b.2.1 b.2.2 acc (pre ++ r) t s ((pre ++ r).length : Int) (pre.length : Int)) (acc ++ r.filter (fun f => decide (endsOf b [f] t = s)))
  | [], pre, acc, hf, hl, ha => by
    refine Ev.succ ?_
    simp only [f_spec_dgSingle_0, nlt_end, decide_false, Bool.false_eq_true, if_false]
    exact Ev.of (by simp)
  | f :: r, pre, acc, hf, hl, ha => by
    have ih := fun acc' ha' => e_spec_dgSingle_0 b hb t ht hc s hs r (pre ++ [f]) acc' (fun g hg => hf g (List.mem_cons_of_mem _ hg)) (by simpa using hl) ha'
    simp only [← shift_mid] at ih
    have hal : acc.length + 1 ≤ 140737488355328 / 24 := by simp at hl; omega
    have h1 := e_spec_dgExplains b hb [f] (hf f (List.mem_cons_self ..)) (by simp) t ht hc s hs
    refine Ev.succ ?_
    simp only [f_spec_dgSingle_0, lt_mid, ge_mid, decide_true, if_true, Int.toNat_natCast, getD_mid, List.length_singleton, hal]
    rw [next_mid pre f r (by omega)]
    refine Ev.bind h1 (Ev.ite (fun h => ?_) (fun h => ?_))
    · have h : (fun f => decide (endsOf b [f] t = s)) f = true := h
      refine (ih (acc ++ [f]) (by simp; omega)).congr ?_
      simp only [List.filter_cons, h, if_true, List.append_assoc, List.singleton_append]
    · have h : ¬ (fun f => decide (endsOf b [f] t = s)) f = true := h
      refine (ih acc (by simp; omega)).congr ?_
      exact congrArg (acc ++ ·) (List.filter_cons_of_neg (p := (fun f => decide (endsOf b [f] t = s))) h).symm
theorem e_spec_dgSingle (b : BoardD) (hb : boardOK b = true) (t : List Int) (ht : t.length ≤ 1000) (hc : colsOK b t) (s : List FallD) (hs : s.length = t.length) : Ev (fun k => f_spec_dgSingle k b t s) (singlesOf b t s) := by
  have hn := poss_count hb
  refine Ev.succ ?_
  simp only [f_spec_dgSingle]
  exact Ev.bind (e_spec_faPossible b hb) (Ev.bind (e_spec_dgSingle_0 b hb t ht hc s hs (possFrom b.2.1 0 b.2.2) [] [] (fun f hf => poss_one hb hf) (by simp; omega) (by simp)) (Ev.some _))
theorem e_impl_singleCauses_0 (b : BoardD) (hb : boardOK b = true) (t : List Int) (ht : t.length ≤ 1000) (hc : colsOK b t) (s : List FallD) (hs : s.length = t.length) : ∀ (r pre acc : List FaultD), (∀ f ∈ r, faultsOK b (-1) [f] = true) → (pre ++ r).length ≤ 1000 → acc.length ≤ pre.length → Ev (fun k => f_impl_singleCauses_0 k b.1 b.2.1 b.2.2 acc (pre ++ r) t s ((pre ++ r).length : Int) (pre.length : Int)) (acc ++ r.filter (fun f => decide (endsOf b [f] t = s)))
  | [], pre, acc, hf, hl, ha => by
    refine Ev.succ ?_
    simp only [f_impl_singleCauses_0, nlt_end, decide_false, Bool.false_eq_true, if_false]
    exact Ev.of (by simp)
  | f :: r, pre, acc, hf, hl, ha => by
    have ih := fun acc' ha' => e_impl_singleCauses_0 b hb t ht hc s hs r (pre ++ [f]) acc' (fun g hg => hf g (List.mem_cons_of_mem _ hg)) (by simpa using hl) ha'
    simp only [← shift_mid] at ih
    have hal : acc.length + 1 ≤ 140737488355328 / 24 := by simp at hl; omega
    have h1 := e_impl_explainsEnds b hb [f] (hf f (List.mem_cons_self ..)) (by simp) t ht hc s
    refine Ev.succ ?_
    simp only [f_impl_singleCauses_0, lt_mid, ge_mid, decide_true, if_true, Int.toNat_natCast, getD_mid, List.length_singleton, hal]
    rw [next_mid pre f r (by omega)]
    refine Ev.bind h1 (Ev.ite (fun h => ?_) (fun h => ?_))
    · have h : (fun f => decide (endsOf b [f] t = s)) f = true := h
      refine (ih (acc ++ [f]) (by simp; omega)).congr ?_
      simp only [List.filter_cons, h, if_true, List.append_assoc, List.singleton_append]
    · have h : ¬ (fun f => decide (endsOf b [f] t = s)) f = true := h
      refine (ih acc (by simp; omega)).congr ?_
      exact congrArg (acc ++ ·) (List.filter_cons_of_neg (p := (fun f => decide (endsOf b [f] t = s))) h).symm
theorem e_impl_singleCauses (b : BoardD) (hb : boardOK b = true) (t : List Int) (ht : t.length ≤ 1000) (hc : colsOK b t) (s : List FallD) (hs : s.length = t.length) : Ev (fun k => f_impl_singleCauses k b t s) (singlesOf b t s) := by
  have hn := poss_count hb
  refine Ev.succ ?_
  simp only [f_impl_singleCauses]
  exact Ev.bind (e_impl_possibleFaults b hb) (Ev.bind (e_impl_singleCauses_0 b hb t ht hc s hs (possFrom b.2.1 0 b.2.2) [] [] (fun f hf => poss_one hb hf) (by simp; omega) (by simp)) (Ev.some _))
/-- The pairs with the fault f at place i. -/
def pairsRow (b : BoardD) (t : List Int) (s : List FallD) (f : FaultD) (i : Nat) : Nat → List FaultD → List (List Int)
  | _, [] => []
  | j, g :: r => if (f.2.1 ≠ g.2.1 ∨ f.2.2 ≠ g.2.2) ∧ endsOf b [f, g] t = s then [(i : Int), (j : Int)] :: pairsRow b t s f i (j + 1) r else pairsRow b t s f i (j + 1) r
def pairsAll (b : BoardD) (t : List Int) (s : List FallD) : Nat → List FaultD → List (List Int)
  | _, [] => []
  | i, f :: r => pairsRow b t s f i (i + 1) r ++ pairsAll b t s (i + 1) r
def pairsOf (b : BoardD) (t : List Int) (s : List FallD) : List (List Int) := pairsAll b t s 0 (possFrom b.2.1 0 b.2.2)
theorem pairsRow_len (b : BoardD) (t : List Int) (s : List FallD) (f : FaultD) (i : Nat) : ∀ (r : List FaultD) (j : Nat), (pairsRow b t s f i j r).length ≤ r.length
  | [], _ => by simp [pairsRow]
  | g :: r, j => by
    have ih := pairsRow_len b t s f i r (j + 1)
    simp only [pairsRow]
    split <;> simp <;> omega
theorem e_spec_dgPairs_2 (b : BoardD) (hb : boardOK b = true) (t : List Int) (ht : t.length ≤ 1000) (hc : colsOK b t) (s : List FallD) (hs : s.length = t.length) (f : FaultD) (i : Nat) (v16 v17 : Int) : ∀ (r pre : List FaultD) (acc : List (List Int)), (∀ g ∈ r, (f.2.1 ≠ g.2.1 ∨ f.2.2 ≠ g.2.2) → faultsOK b (-1) [f, g] = true) → (pre ++ r).length ≤ 1000 → acc.length + r.length ≤ 1000000 →
    Ev (fun k => f_spec_dgPairs_2 k b.1 b.2.1 b.2.2 (pre ++ r) acc f.1 f.2.1 f.2.2 t s (i : Int) (pre.length : Int) v16 v17) (b.1, b.2.1, b.2.2, pre ++ r, acc ++ pairsRow b t s f i pre.length r, t, s, v16, v17)
  | [], pre, acc, hfg, hl, ha => by
    refine Ev.succ ?_
    simp only [f_spec_dgPairs_2, nlt_end, decide_false, Bool.false_eq_true, if_false]
    exact Ev.of (by simp [pairsRow])
  | g :: r, pre, acc, hfg, hl, ha => by
    have ih := fun acc' ha' => e_spec_dgPairs_2 b hb t ht hc s hs f i v16 v17 r (pre ++ [g]) acc' (fun x hx => hfg x (List.mem_cons_of_mem _ hx)) (by simpa using hl) ha'
    simp only [← shift_mid] at ih
    have hal : acc.length + 1 ≤ 140737488355328 / 24 := by omega
    refine Ev.succ ?_
    simp only [f_spec_dgPairs_2, lt_mid, ge_mid, decide_true, if_true, Int.toNat_natCast, getD_mid, List.length_singleton, hal]
    rw [next_mid pre g r (by omega)]
    refine Ev.ite (fun h => ?_) (fun h => Ev.ite (fun h2 => ?_) (fun h2 => ?_))
    · simp only [ne_eq, decide_eq_true_eq] at h
      have h1 := e_spec_dgExplains b hb [f, g] (hfg g (List.mem_cons_self ..) (.inl h)) (by simp) t ht hc s hs
      refine Ev.bind h1 (Ev.ite (fun hh => ?_) (fun hh => ?_))
      · simp only [decide_eq_true_eq] at hh
        refine (ih (acc ++ [[(i : Int), (pre.length : Int)]]) (by simp only [List.length_append, List.length_singleton]; simp only [List.length_cons] at ha; omega)).congr ?_
        simp only [pairsRow]
        rw [if_pos ⟨.inl h, hh⟩]
        simp
      · simp only [decide_eq_true_eq] at hh
        refine (ih acc (by simp only [List.length_cons] at ha; omega)).congr ?_
        simp only [pairsRow]
        rw [if_neg (fun hc => hh hc.2)]
        simp
    · simp only [ne_eq, decide_eq_true_eq] at h2
      have h1 := e_spec_dgExplains b hb [f, g] (hfg g (List.mem_cons_self ..) (.inr h2)) (by simp) t ht hc s hs
      refine Ev.bind h1 (Ev.ite (fun hh => ?_) (fun hh => ?_))
      · simp only [decide_eq_true_eq] at hh
        refine (ih (acc ++ [[(i : Int), (pre.length : Int)]]) (by simp only [List.length_append, List.length_singleton]; simp only [List.length_cons] at ha; omega)).congr ?_
        simp only [pairsRow]
        rw [if_pos ⟨.inr h2, hh⟩]
        simp
      · simp only [decide_eq_true_eq] at hh
        refine (ih acc (by simp only [List.length_cons] at ha; omega)).congr ?_
        simp only [pairsRow]
        rw [if_neg (fun hc => hh hc.2)]
        simp
    · simp only [ne_eq, decide_eq_true_eq, Decidable.not_not] at h h2
      refine (ih acc (by simp only [List.length_cons] at ha; omega)).congr ?_
      simp only [pairsRow]
      rw [if_neg (fun hc => by rcases hc.1 with hx | hx; exact hx h; exact hx h2)]
      simp
theorem e_spec_dgPairs_0 (b : BoardD) (hb : boardOK b = true) (t : List Int) (ht : t.length ≤ 1000) (hc : colsOK b t) (s : List FallD) (hs : s.length = t.length) : ∀ (r pre : List FaultD) (acc : List (List Int)), List.Pairwise (fun f g => (f.2.1 ≠ g.2.1 ∨ f.2.2 ≠ g.2.2) → faultsOK b (-1) [f, g] = true) r → (pre ++ r).length ≤ 1000 → acc.length + 1000 * r.length ≤ 1000000 →
    Ev (fun k => f_spec_dgPairs_0 k b.1 b.2.1 b.2.2 (pre ++ r) acc t s ((pre ++ r).length : Int) (pre.length : Int)) (acc ++ pairsAll b t s pre.length r)
  | [], pre, acc, hf, hl, ha => by
    refine Ev.succ ?_
    simp only [f_spec_dgPairs_0, nlt_end, decide_false, Bool.false_eq_true, if_false]
    exact Ev.of (by simp [pairsAll])
  | f :: r, pre, acc, hf, hl, ha => by
    obtain ⟨hf1, hf2⟩ := List.pairwise_cons.1 hf
    have hrl : r.length ≤ 1000 := by simp at hl; omega
    have hrow := pairsRow_len b t s f pre.length r (pre.length + 1)
    have h2 := e_spec_dgPairs_2 b hb t ht hc s hs f pre.length ((pre ++ f :: r).length : Int) (pre.length : Int) r (pre ++ [f]) acc hf1 (by simpa using hl) (by simp only [List.length_cons] at ha; omega)
    have ih := e_spec_dgPairs_0 b hb t ht hc s hs r (pre ++ [f]) (acc ++ pairsRow b t s f pre.length (pre.length + 1) r) hf2 (by simpa using hl) (by simp only [List.length_append]; simp only [List.length_cons] at ha; omega)
    have e1 : (pre ++ [f]).length = pre.length + 1 := by simp
    rw [← shift_mid] at ih h2
    rw [e1] at ih h2
    have hn := next_mid pre f r (by omega)
    rw [e1] at hn
    refine Ev.succ ?_
    simp only [f_spec_dgPairs_0, lt_mid, ge_mid, decide_true, if_true, Int.toNat_natCast, getD_mid]
    rw [hn]
    refine Ev.bind h2 ?_
    show Ev (fun k => f_spec_dgPairs_0 k b.1 b.2.1 b.2.2 (pre ++ f :: r) (acc ++ pairsRow b t s f pre.length (pre.length + 1) r) t s ((pre ++ f :: r).length : Int) (wrap64 ((pre.length : Int) + 1))) _
    rw [hn]
    refine ih.congr ?_
    simp [pairsAll]
theorem e_spec_dgPairs (b : BoardD) (hb : boardOK b = true) (t : List Int) (ht : t.length ≤ 1000) (hc : colsOK b t) (s : List FallD) (hs : s.length = t.length) : Ev (fun k => f_spec_dgPairs k b t s) (pairsOf b t s) := by
  have hn := poss_count hb
  obtain ⟨g1, g2, g3, g4, g5, g6⟩ := board_ok hb
  have hpw : List.Pairwise (fun f g => (f.2.1 ≠ g.2.1 ∨ f.2.2 ≠ g.2.2) → faultsOK b (-1) [f, g] = true) (possFrom b.2.1 0 b.2.2) :=
    List.Pairwise.imp_of_mem (fun {f g} hf hg hle hne => poss_two hb hf hg hle hne) (poss_order (b := b) g3 b.2.2 0)
  refine Ev.succ ?_
  simp only [f_spec_dgPairs]
  exact Ev.bind (e_spec_faPossible b hb) (Ev.bind (e_spec_dgPairs_0 b hb t ht hc s hs (possFrom b.2.1 0 b.2.2) [] [] hpw (by simp; omega) (by simp; omega)) (Ev.some _))
theorem e_impl_pairCauses_2 (b : BoardD) (hb : boardOK b = true) (t : List Int) (ht : t.length ≤ 1000) (hc : colsOK b t) (s : List FallD) (hs : s.length = t.length) (f : FaultD) (i : Nat) (v16 v17 : Int) : ∀ (r pre : List FaultD) (acc : List (List Int)), (∀ g ∈ r, (f.2.1 ≠ g.2.1 ∨ f.2.2 ≠ g.2.2) → faultsOK b (-1) [f, g] = true) → (pre ++ r).length ≤ 1000 → acc.length + r.length ≤ 1000000 →
    Ev (fun k => f_impl_pairCauses_2 k b.1 b.2.1 b.2.2 acc (pre ++ r) f.1 f.2.1 f.2.2 t s (i : Int) (pre.length : Int) v16 v17) (b.1, b.2.1, b.2.2, acc ++ pairsRow b t s f i pre.length r, pre ++ r, t, s, v16, v17)
  | [], pre, acc, hfg, hl, ha => by
    refine Ev.succ ?_
    simp only [f_impl_pairCauses_2, nlt_end, decide_false, Bool.false_eq_true, if_false]
    exact Ev.of (by simp [pairsRow])
  | g :: r, pre, acc, hfg, hl, ha => by
    have ih := fun acc' ha' => e_impl_pairCauses_2 b hb t ht hc s hs f i v16 v17 r (pre ++ [g]) acc' (fun x hx => hfg x (List.mem_cons_of_mem _ hx)) (by simpa using hl) ha'
    simp only [← shift_mid] at ih
    have hal : acc.length + 1 ≤ 140737488355328 / 24 := by omega
    refine Ev.succ ?_
    simp only [f_impl_pairCauses_2, lt_mid, ge_mid, decide_true, if_true, Int.toNat_natCast, getD_mid, List.length_singleton, hal]
    rw [next_mid pre g r (by omega)]
    refine Ev.ite (fun h => ?_) (fun h => Ev.ite (fun h2 => ?_) (fun h2 => ?_))
    · simp only [ne_eq, decide_eq_true_eq] at h
      have h1 := e_impl_explainsEnds b hb [f, g] (hfg g (List.mem_cons_self ..) (.inl h)) (by simp) t ht hc s
      refine Ev.bind h1 (Ev.ite (fun hh => ?_) (fun hh => ?_))
      · simp only [decide_eq_true_eq] at hh
        refine (ih (acc ++ [[(i : Int), (pre.length : Int)]]) (by simp only [List.length_append, List.length_singleton]; simp only [List.length_cons] at ha; omega)).congr ?_
        simp only [pairsRow]
        rw [if_pos ⟨.inl h, hh⟩]
        simp
      · simp only [decide_eq_true_eq] at hh
        refine (ih acc (by simp only [List.length_cons] at ha; omega)).congr ?_
        simp only [pairsRow]
        rw [if_neg (fun hc => hh hc.2)]
        simp
    · simp only [ne_eq, decide_eq_true_eq] at h2
      have h1 := e_impl_explainsEnds b hb [f, g] (hfg g (List.mem_cons_self ..) (.inr h2)) (by simp) t ht hc s
      refine Ev.bind h1 (Ev.ite (fun hh => ?_) (fun hh => ?_))
      · simp only [decide_eq_true_eq] at hh
        refine (ih (acc ++ [[(i : Int), (pre.length : Int)]]) (by simp only [List.length_append, List.length_singleton]; simp only [List.length_cons] at ha; omega)).congr ?_
        simp only [pairsRow]
        rw [if_pos ⟨.inr h2, hh⟩]
        simp
      · simp only [decide_eq_true_eq] at hh
        refine (ih acc (by simp only [List.length_cons] at ha; omega)).congr ?_
        simp only [pairsRow]
        rw [if_neg (fun hc => hh hc.2)]
        simp
    · simp only [ne_eq, decide_eq_true_eq, Decidable.not_not] at h h2
      refine (ih acc (by simp only [List.length_cons] at ha; omega)).congr ?_
      simp only [pairsRow]
      rw [if_neg (fun hc => by rcases hc.1 with hx | hx; exact hx h; exact hx h2)]
      simp
theorem e_impl_pairCauses_0 (b : BoardD) (hb : boardOK b = true) (t : List Int) (ht : t.length ≤ 1000) (hc : colsOK b t) (s : List FallD) (hs : s.length = t.length) : ∀ (r pre : List FaultD) (acc : List (List Int)), List.Pairwise (fun f g => (f.2.1 ≠ g.2.1 ∨ f.2.2 ≠ g.2.2) → faultsOK b (-1) [f, g] = true) r → (pre ++ r).length ≤ 1000 → acc.length + 1000 * r.length ≤ 1000000 →
    Ev (fun k => f_impl_pairCauses_0 k b.1 b.2.1 b.2.2 acc (pre ++ r) t s ((pre ++ r).length : Int) (pre.length : Int)) (acc ++ pairsAll b t s pre.length r)
  | [], pre, acc, hf, hl, ha => by
    refine Ev.succ ?_
    simp only [f_impl_pairCauses_0, nlt_end, decide_false, Bool.false_eq_true, if_false]
    exact Ev.of (by simp [pairsAll])
  | f :: r, pre, acc, hf, hl, ha => by
    obtain ⟨hf1, hf2⟩ := List.pairwise_cons.1 hf
    have hrl : r.length ≤ 1000 := by simp at hl; omega
    have hrow := pairsRow_len b t s f pre.length r (pre.length + 1)
    have h2 := e_impl_pairCauses_2 b hb t ht hc s hs f pre.length ((pre ++ f :: r).length : Int) (pre.length : Int) r (pre ++ [f]) acc hf1 (by simpa using hl) (by simp only [List.length_cons] at ha; omega)
    have ih := e_impl_pairCauses_0 b hb t ht hc s hs r (pre ++ [f]) (acc ++ pairsRow b t s f pre.length (pre.length + 1) r) hf2 (by simpa using hl) (by simp only [List.length_append]; simp only [List.length_cons] at ha; omega)
    have e1 : (pre ++ [f]).length = pre.length + 1 := by simp
    rw [← shift_mid] at ih h2
    rw [e1] at ih h2
    have hn := next_mid pre f r (by omega)
    rw [e1] at hn
    refine Ev.succ ?_
    simp only [f_impl_pairCauses_0, lt_mid, ge_mid, decide_true, if_true, Int.toNat_natCast, getD_mid]
    rw [hn]
    refine Ev.bind h2 ?_
    show Ev (fun k => f_impl_pairCauses_0 k b.1 b.2.1 b.2.2 (acc ++ pairsRow b t s f pre.length (pre.length + 1) r) (pre ++ f :: r) t s ((pre ++ f :: r).length : Int) (wrap64 ((pre.length : Int) + 1))) _
    rw [hn]
    refine ih.congr ?_
    simp [pairsAll]
theorem e_impl_pairCauses (b : BoardD) (hb : boardOK b = true) (t : List Int) (ht : t.length ≤ 1000) (hc : colsOK b t) (s : List FallD) (hs : s.length = t.length) : Ev (fun k => f_impl_pairCauses k b t s) (pairsOf b t s) := by
  have hn := poss_count hb
  obtain ⟨g1, g2, g3, g4, g5, g6⟩ := board_ok hb
  have hpw : List.Pairwise (fun f g => (f.2.1 ≠ g.2.1 ∨ f.2.2 ≠ g.2.2) → faultsOK b (-1) [f, g] = true) (possFrom b.2.1 0 b.2.2) :=
    List.Pairwise.imp_of_mem (fun {f g} hf hg hle hne => poss_two hb hf hg hle hne) (poss_order (b := b) g3 b.2.2 0)
  refine Ev.succ ?_
  simp only [f_impl_pairCauses]
  exact Ev.bind (e_impl_possibleFaults b hb) (Ev.bind (e_impl_pairCauses_0 b hb t ht hc s hs (possFrom b.2.1 0 b.2.2) [] [] hpw (by simp; omega) (by simp; omega)) (Ev.some _))
end Go.Proofs.Ytgpmbmnfcbippaa.Vs
