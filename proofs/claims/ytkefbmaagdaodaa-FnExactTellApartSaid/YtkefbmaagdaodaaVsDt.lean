/- The law on tests that tell faults apart. -/
import Derived.Test.YtkefbmaagdaodaaVsDl
import Derived.Test.YtkefbmaagdaodaaVsTs
import Derived.Test.YtkefbmaagdaodaaVsIS
set_option linter.unusedVariables false
set_option linter.unusedSimpArgs false
namespace Go.Proofs.Ytkefbmaagdaodaa.Vs
open Go.RowKit
theorem e_spec_tsEnds_0 (b : BoardD) (hb : boardOK b = true) (l : List FaultD) (hl : faultsOK b (-1) l = true) (hll : l.length ≤ 9223372036854775806) : ∀ (r pre : List (List Int)) (acc : List (List FallD)), (∀ t ∈ r, t.length ≤ 1000 ∧ colsOK b t) → (pre ++ r).length ≤ 1000 → acc.length ≤ pre.length → Ev (fun k => f_spec_tsEnds_0 k b.1 b.2.1 b.2.2 acc l (pre ++ r) ((pre ++ r).length : Int) (pre.length : Int)) (acc ++ r.map (endsOf b l))
  | [], pre, acc, ht, hln, ha => by
    refine Ev.succ ?_
    simp only [f_spec_tsEnds_0, nlt_end, decide_false, Bool.false_eq_true, if_false]
    exact Ev.of (by simp)
  | t :: r, pre, acc, ht, hln, ha => by
    have ih := e_spec_tsEnds_0 b hb l hl hll r (pre ++ [t]) (acc ++ [endsOf b l t]) (fun x hx => ht x (List.mem_cons_of_mem _ hx)) (by simpa using hln) (by simp; omega)
    rw [← shift_mid] at ih
    have hal : acc.length + 1 ≤ 140737488355328 / 24 := by simp at hln; omega
    refine Ev.succ ?_
    simp only [f_spec_tsEnds_0, lt_mid, ge_mid, decide_true, if_true, Int.toNat_natCast, getD_mid, List.length_singleton, hal]
    rw [next_mid pre t r (by omega)]
    obtain ⟨t1, t2⟩ := ht t (List.mem_cons_self ..)
    refine Ev.bind (e_spec_faAll b hb l hl hll t t1 t2) ?_
    refine ih.congr ?_
    simp
theorem e_spec_tsEnds (b : BoardD) (hb : boardOK b = true) (l : List FaultD) (hl : faultsOK b (-1) l = true) (hll : l.length ≤ 9223372036854775806) (T : List (List Int)) (hT : ∀ t ∈ T, t.length ≤ 1000 ∧ colsOK b t) (hn : T.length ≤ 1000) : Ev (fun k => f_spec_tsEnds k b l T) (T.map (endsOf b l)) := by
  refine Ev.succ ?_
  simp only [f_spec_tsEnds]
  exact Ev.bind (e_spec_tsEnds_0 b hb l hl hll T [] [] hT (by simpa using hn) (by simp)) (Ev.some _)
theorem e_impl_testEnds_0 (b : BoardD) (hb : boardOK b = true) (l : List FaultD) (hl : faultsOK b (-1) l = true) (hll : l.length ≤ 9223372036854775806) : ∀ (r pre : List (List Int)) (acc : List (List FallD)), (∀ t ∈ r, t.length ≤ 1000 ∧ colsOK b t) → (pre ++ r).length ≤ 1000 → acc.length ≤ pre.length → Ev (fun k => f_impl_testEnds_0 k b.1 b.2.1 b.2.2 acc l (pre ++ r) ((pre ++ r).length : Int) (pre.length : Int)) (acc ++ r.map (endsOf b l))
  | [], pre, acc, ht, hln, ha => by
    refine Ev.succ ?_
    simp only [f_impl_testEnds_0, nlt_end, decide_false, Bool.false_eq_true, if_false]
    exact Ev.of (by simp)
  | t :: r, pre, acc, ht, hln, ha => by
    have ih := e_impl_testEnds_0 b hb l hl hll r (pre ++ [t]) (acc ++ [endsOf b l t]) (fun x hx => ht x (List.mem_cons_of_mem _ hx)) (by simpa using hln) (by simp; omega)
    rw [← shift_mid] at ih
    have hal : acc.length + 1 ≤ 140737488355328 / 24 := by simp at hln; omega
    refine Ev.succ ?_
    simp only [f_impl_testEnds_0, lt_mid, ge_mid, decide_true, if_true, Int.toNat_natCast, getD_mid, List.length_singleton, hal]
    rw [next_mid pre t r (by omega)]
    obtain ⟨t1, t2⟩ := ht t (List.mem_cons_self ..)
    refine Ev.bind (e_impl_faultyDrops b hb l hl hll t t1 t2) ?_
    refine ih.congr ?_
    simp
theorem e_impl_testEnds (b : BoardD) (hb : boardOK b = true) (l : List FaultD) (hl : faultsOK b (-1) l = true) (hll : l.length ≤ 9223372036854775806) (T : List (List Int)) (hT : ∀ t ∈ T, t.length ≤ 1000 ∧ colsOK b t) (hn : T.length ≤ 1000) : Ev (fun k => f_impl_testEnds k b l T) (T.map (endsOf b l)) := by
  refine Ev.succ ?_
  simp only [f_impl_testEnds]
  exact Ev.bind (e_impl_testEnds_0 b hb l hl hll T [] [] hT (by simpa using hn) (by simp)) (Ev.some _)
theorem tests_ok {b : BoardD} {T : List (List Int)} (h : (smallB b && testsOK b T) = true) : boardOK b = true ∧ T.length ≤ 10 ∧ ∀ t ∈ T, t.length ≤ 8 ∧ colsOK b t := by
  unfold smallB testsOK testOK at h
  simp only [Bool.and_eq_true, decide_eq_true_eq, List.all_eq_true] at h
  exact ⟨h.1.1, h.2.1, h.2.2⟩
theorem e_spec_tsAsked (b : BoardD) (T : List (List Int)) (hb : b.2.2.length ≤ 9223372036854775806) (hl : T.length ≤ 9223372036854775806) (hx : ∀ x ∈ T, x.length ≤ 9223372036854775806) : Ev (fun k => f_spec_tsAsked k b T) (smallB b && testsOK b T) := by
  refine Ev.succ ?_
  simp only [f_spec_tsAsked]
  refine Ev.bind (e_spec_tsGood b hb) ?_
  cases h : smallB b with
  | false => simp only [Bool.false_eq_true, if_false, Bool.false_and]; exact Ev.some _
  | true =>
    have hbo : boardOK b = true := by unfold smallB at h; rw [Bool.and_eq_true] at h; exact h.1
    simp only [if_true, Bool.true_and]
    exact Ev.bind (e_spec_tsTests b hbo T hl hx) (Ev.some _)
theorem e_spec_TellApart_0 (b : BoardD) (l m : List FaultD) : ∀ (r : List (List Int)) (pre pre' : List (List FallD)), (∀ t ∈ r, t.length ≤ 1000) → pre'.length = pre.length → (pre ++ r.map (endsOf b l)).length ≤ 1000 → Ev (fun k => f_spec_TellApart_0 k (pre' ++ r.map (endsOf b m)) (pre ++ r.map (endsOf b l)) ((pre ++ r.map (endsOf b l)).length : Int) (pre.length : Int)) (if r.map (endsOf b l) = r.map (endsOf b m) then LR.go () else LR.ret (true, true))
  | [], pre, pre', ht, hp, hln => by
    refine Ev.succ ?_
    simp only [f_spec_TellApart_0, List.map_nil, nlt_end, decide_false, Bool.false_eq_true, if_false, if_true]
    exact Ev.some _
  | t :: r, pre, pre', ht, hp, hln => by
    simp only [List.map_cons] at hln ⊢
    have e1 := endsOf_len b l t
    have e2 := endsOf_len b m t
    have t1 := ht t (List.mem_cons_self ..)
    generalize hx : endsOf b l t = x at *
    generalize hy : endsOf b m t = y at *
    have ih := e_spec_TellApart_0 b l m r (pre ++ [x]) (pre' ++ [y]) (fun z hz => ht z (List.mem_cons_of_mem _ hz)) (by simpa using hp) (by simpa using hln)
    have l2 : (pre.length : Int) < ((pre' ++ y :: r.map (endsOf b m)).length : Int) := by rw [← hp]; exact lt_mid _ _ _
    have g2 : List.getD (pre' ++ y :: r.map (endsOf b m)) pre.length [] = y := by rw [← hp]; exact getD_mid _ _ _ _
    refine Ev.succ ?_
    simp only [f_spec_TellApart_0, lt_mid, ge_mid, l2, decide_true, if_true, Int.toNat_natCast, getD_mid, g2]
    rw [next_mid pre x (r.map (endsOf b l)) (by omega)]
    rw [← shift_mid, ← shift_mid] at ih
    have hn := diffIx_none 0 x y (by omega)
    refine Ev.bind (e_spec_faSame x y (by omega) (by omega)) (Ev.ite (fun h => ?_) (fun h => ?_))
    · have hxy : ¬ x = y := fun hh => by rw [hn.2 hh] at h; simp [ixOf] at h
      rw [if_neg (fun hh => hxy (List.cons.inj hh).1)]
      exact Ev.some _
    · have hxy : x = y := hn.1 ((ix_neg _).1 (by simp only [decide_eq_true_eq] at h; omega))
      refine ih.congr ?_
      simp [hxy]
theorem e_impl_TellApart_0 (b : BoardD) (l m : List FaultD) : ∀ (r : List (List Int)) (pre pre' : List (List FallD)), (∀ t ∈ r, t.length ≤ 1000) → pre'.length = pre.length → (pre ++ r.map (endsOf b l)).length ≤ 1000 → Ev (fun k => f_impl_TellApart_0 k (pre ++ r.map (endsOf b l)) (pre' ++ r.map (endsOf b m)) ((pre ++ r.map (endsOf b l)).length : Int) (pre.length : Int)) (if r.map (endsOf b l) = r.map (endsOf b m) then LR.go () else LR.ret (true, true))
  | [], pre, pre', ht, hp, hln => by
    refine Ev.succ ?_
    simp only [f_impl_TellApart_0, List.map_nil, nlt_end, decide_false, Bool.false_eq_true, if_false, if_true]
    exact Ev.some _
  | t :: r, pre, pre', ht, hp, hln => by
    simp only [List.map_cons] at hln ⊢
    have e1 := endsOf_len b l t
    have e2 := endsOf_len b m t
    have t1 := ht t (List.mem_cons_self ..)
    generalize hx : endsOf b l t = x at *
    generalize hy : endsOf b m t = y at *
    have ih := e_impl_TellApart_0 b l m r (pre ++ [x]) (pre' ++ [y]) (fun z hz => ht z (List.mem_cons_of_mem _ hz)) (by simpa using hp) (by simpa using hln)
    have l2 : (pre.length : Int) < ((pre' ++ y :: r.map (endsOf b m)).length : Int) := by rw [← hp]; exact lt_mid _ _ _
    have g2 : List.getD (pre' ++ y :: r.map (endsOf b m)) pre.length [] = y := by rw [← hp]; exact getD_mid _ _ _ _
    refine Ev.succ ?_
    simp only [f_impl_TellApart_0, lt_mid, ge_mid, l2, decide_true, if_true, Int.toNat_natCast, getD_mid, g2]
    rw [next_mid pre x (r.map (endsOf b l)) (by omega)]
    rw [← shift_mid, ← shift_mid] at ih
    refine Ev.bind (e_slices_Equal_impl_Fall_impl_Fall x y (by omega)) (Ev.ite (fun h => ?_) (fun h => ?_))
    · have hxy : ¬ x = y := nd h
      rw [if_neg (fun hh => hxy (List.cons.inj hh).1)]
      exact Ev.some _
    · have hxy : x = y := yd h
      refine ih.congr ?_
      simp [hxy]
def r_TellApart (b : BoardD) (T : List (List Int)) (l m : List FaultD) : Bool × Bool := if (smallB b && testsOK b T) && (faultsB b l && faultsB b m) then (!decide (T.map (endsOf b l) = T.map (endsOf b m)), true) else (false, false)
theorem e_spec_TellApart (b : BoardD) (T : List (List Int)) (l m : List FaultD) (h0 : b.2.2.length ≤ 9223372036854775806) (h1 : T.length ≤ 9223372036854775806) (hx : ∀ x ∈ T, x.length ≤ 9223372036854775806) (h2 : l.length ≤ 9223372036854775806) (h3 : m.length ≤ 9223372036854775806) : Ev (fun k => f_spec_TellApart k b T l m) (r_TellApart b T l m) := by
  refine Ev.succ ?_
  simp only [f_spec_TellApart]
  unfold r_TellApart
  refine Ev.bind (a := (smallB b && testsOK b T)) (e_spec_tsAsked b T h0 h1 hx) ?_
  cases g0 : (smallB b && testsOK b T) with
  | false => simp only [Bool.not_false, if_true, Bool.false_eq_true, if_false, Bool.false_and, Bool.and_false]; exact Ev.some _
  | true =>
    simp only [Bool.not_true, Bool.false_eq_true, if_false, if_true, Bool.and_self]
    obtain ⟨hb, hn, hT⟩ := tests_ok g0
    refine Ev.bind (a := faultsB b l) (e_spec_faGood b hb l h2) ?_
    cases g1 : faultsB b l with
    | false => simp only [Bool.not_false, if_true, Bool.false_eq_true, if_false, Bool.false_and, Bool.and_false]; exact Ev.some _
    | true =>
      simp only [Bool.not_true, Bool.false_eq_true, if_false, if_true, Bool.and_self]
      obtain ⟨l4, lg⟩ := faultsB_ok g1
      refine Ev.bind (a := faultsB b m) (e_spec_faGood b hb m h3) ?_
      cases g2 : faultsB b m with
      | false => simp only [Bool.not_false, if_true, Bool.false_eq_true, if_false, Bool.false_and, Bool.and_false]; exact Ev.some _
      | true =>
        simp only [Bool.not_true, Bool.false_eq_true, if_false, if_true, Bool.and_self]
        obtain ⟨m4, mg⟩ := faultsB_ok g2
        have hT1 : ∀ t ∈ T, t.length ≤ 1000 ∧ colsOK b t := fun t ht => ⟨by have := (hT t ht).1; omega, (hT t ht).2⟩
        refine Ev.bind (e_spec_tsEnds b hb l lg h2 T hT1 (by omega)) (Ev.bind (e_spec_tsEnds b hb m mg h3 T hT1 (by omega)) ?_)
        refine Ev.bind (e_spec_TellApart_0 b l m T [] [] (fun t ht => (hT1 t ht).1) rfl (by simp; omega)) ?_
        by_cases he : T.map (endsOf b l) = T.map (endsOf b m)
        · rw [if_pos he, decide_eq_true he]; exact Ev.go (Ev.some _)
        · rw [if_neg he, decide_eq_false he]; exact Ev.ret (Ev.some _)
theorem e_impl_TellApart (b : BoardD) (T : List (List Int)) (l m : List FaultD) (h0 : b.2.2.length ≤ 9223372036854775806) (h1 : T.length ≤ 9223372036854775806) (hx : ∀ x ∈ T, x.length ≤ 9223372036854775806) (h2 : l.length ≤ 9223372036854775806) (h3 : m.length ≤ 9223372036854775806) : Ev (fun k => f_impl_TellApart k b T l m) (r_TellApart b T l m) := by
  refine Ev.succ ?_
  simp only [f_impl_TellApart]
  unfold r_TellApart
  refine Ev.bind (a := (smallB b && testsOK b T)) (e_impl_areTests b T h0 h1 hx) ?_
  cases g0 : (smallB b && testsOK b T) with
  | false => simp only [Bool.not_false, if_true, Bool.false_eq_true, if_false, Bool.false_and, Bool.and_false]; exact Ev.some _
  | true =>
    simp only [Bool.not_true, Bool.false_eq_true, if_false, if_true, Bool.and_self]
    obtain ⟨hb, hn, hT⟩ := tests_ok g0
    refine Ev.bind (a := faultsB b l) (e_impl_areFaults b hb l h2) ?_
    cases g1 : faultsB b l with
    | false => simp only [Bool.not_false, if_true, Bool.false_eq_true, if_false, Bool.false_and, Bool.and_false]; exact Ev.some _
    | true =>
      simp only [Bool.not_true, Bool.false_eq_true, if_false, if_true, Bool.and_self]
      obtain ⟨l4, lg⟩ := faultsB_ok g1
      refine Ev.bind (a := faultsB b m) (e_impl_areFaults b hb m h3) ?_
      cases g2 : faultsB b m with
      | false => simp only [Bool.not_false, if_true, Bool.false_eq_true, if_false, Bool.false_and, Bool.and_false]; exact Ev.some _
      | true =>
        simp only [Bool.not_true, Bool.false_eq_true, if_false, if_true, Bool.and_self]
        obtain ⟨m4, mg⟩ := faultsB_ok g2
        have hT1 : ∀ t ∈ T, t.length ≤ 1000 ∧ colsOK b t := fun t ht => ⟨by have := (hT t ht).1; omega, (hT t ht).2⟩
        refine Ev.bind (e_impl_testEnds b hb l lg h2 T hT1 (by omega)) (Ev.bind (e_impl_testEnds b hb m mg h3 T hT1 (by omega)) ?_)
        refine Ev.bind (e_impl_TellApart_0 b l m T [] [] (fun t ht => (hT1 t ht).1) rfl (by simp; omega)) ?_
        by_cases he : T.map (endsOf b l) = T.map (endsOf b m)
        · rw [if_pos he, decide_eq_true he]; exact Ev.go (Ev.some _)
        · rw [if_neg he, decide_eq_false he]; exact Ev.ret (Ev.some _)
theorem law_FnExactTellApart (p0 : BoardD) (p1 : List (List Int)) (p2 : List FaultD) (p3 : List FaultD) (h0 : p0.2.2.length ≤ 9223372036854775807) (h1 : p1.length ≤ 9223372036854775807) (g1 : ∀ x ∈ p1, x.length ≤ 9223372036854775807) (h2 : p2.length ≤ 9223372036854775807) (h3 : p3.length ≤ 9223372036854775807) : Ev (fun k => f_laws_FnExactTellApart k p0 p1 p2 p3) true := by
  refine Ev.succ ?_
  simp only [f_laws_FnExactTellApart]
  refine Ev.bind (e_laws_szBoard _ _ (by first | omega | (dsimp only; omega)) (by first | omega | (dsimp only; omega)) (by first | omega | (dsimp only; omega))) ?_
  by_cases q1 : (1048576 : Int) - (p0.2.2.length : Int) < 0
  · simp only [q1, if_true]; exact Ev.some _
  simp only [q1, if_false, decide_false, Bool.false_eq_true]
  refine Ev.bind (e_laws_szIntSS _ _ (by omega) (by omega) (by omega) g1) ?_
  by_cases q2 : (1048576 : Int) - (p0.2.2.length : Int) - (p1.length : Int) < 0
  · simp only [q2, if_true]; exact Ev.some _
  simp only [q2, if_false]
  by_cases r2 : (1048576 : Int) - (p0.2.2.length : Int) - (p1.length : Int) - szRows p1 < 0
  · simp only [r2, if_true]; exact Ev.some _
  simp only [r2, if_false, decide_false, Bool.false_eq_true]
  have y1 := szRows_nonneg p1
  have u1 : ∀ x ∈ p1, x.length ≤ 1048576 := fun x hx => by have := szRows_mem hx; omega
  have v1 : ∀ x ∈ p1, x.length ≤ 9223372036854775806 := fun x hxl => by have := u1 x hxl; omega
  refine Ev.bind (e_laws_szFaultS _ _ (by first | omega | (dsimp only; omega)) (by first | omega | (dsimp only; omega)) (by first | omega | (dsimp only; omega))) ?_
  by_cases q3 : (1048576 : Int) - (p0.2.2.length : Int) - (p1.length : Int) - szRows p1 - (p2.length : Int) < 0
  · simp only [q3, if_true]; exact Ev.some _
  simp only [q3, if_false, decide_false, Bool.false_eq_true]
  refine Ev.bind (e_laws_szFaultS _ _ (by first | omega | (dsimp only; omega)) (by first | omega | (dsimp only; omega)) (by first | omega | (dsimp only; omega))) ?_
  by_cases q4 : (1048576 : Int) - (p0.2.2.length : Int) - (p1.length : Int) - szRows p1 - (p2.length : Int) - (p3.length : Int) < 0
  · simp only [q4, if_true]; exact Ev.some _
  simp only [q4, if_false, decide_false, Bool.false_eq_true]
  have es := e_spec_TellApart p0 p1 p2 p3 (by omega) (by omega) v1 (by omega) (by omega)
  have ei := e_impl_TellApart p0 p1 p2 p3 (by omega) (by omega) v1 (by omega) (by omega)
  generalize r_TellApart p0 p1 p2 p3 = R at es ei
  refine Ev.bind (e_laws_toBoard _ (by first | omega | (dsimp only; omega))) ?_
  refine Ev.bind (e_laws_toIntSS _ (by first | omega | (dsimp only; omega)) u1) ?_
  refine Ev.bind (e_laws_toFaultS _ (by first | omega | (dsimp only; omega))) ?_
  refine Ev.bind (e_laws_toFaultS _ (by first | omega | (dsimp only; omega))) ?_
  refine Ev.bind es ?_
  refine Ev.bind (e_laws_toBoard _ (by first | omega | (dsimp only; omega))) ?_
  refine Ev.bind (e_laws_toIntSS _ (by first | omega | (dsimp only; omega)) u1) ?_
  refine Ev.bind (e_laws_toFaultS _ (by first | omega | (dsimp only; omega))) ?_
  refine Ev.bind (e_laws_toFaultS _ (by first | omega | (dsimp only; omega))) ?_
  refine Ev.bind ei ?_
  simp only [decide_true, beq_self_eq_true, ne_eq, not_true_eq_false, decide_false, Bool.not_true, Bool.false_eq_true, if_false]
  refine Ev.bind (e_laws_toBoard _ (by first | omega | (dsimp only; omega))) ?_
  refine Ev.bind (e_laws_eqBoard _ _ (by first | omega | (dsimp only; omega))) ?_
  simp only [decide_true, beq_self_eq_true, ne_eq, not_true_eq_false, decide_false, Bool.not_true, Bool.false_eq_true, if_false]
  refine Ev.bind (e_laws_toIntSS _ (by first | omega | (dsimp only; omega)) u1) ?_
  refine Ev.bind (e_laws_eqIntSS _ _ (by first | omega | (dsimp only; omega)) v1) ?_
  simp only [decide_true, beq_self_eq_true, ne_eq, not_true_eq_false, decide_false, Bool.not_true, Bool.false_eq_true, if_false]
  refine Ev.bind (e_laws_toFaultS _ (by first | omega | (dsimp only; omega))) ?_
  refine Ev.bind (e_laws_eqFaultS _ _ (by first | omega | (dsimp only; omega))) ?_
  simp only [decide_true, beq_self_eq_true, ne_eq, not_true_eq_false, decide_false, Bool.not_true, Bool.false_eq_true, if_false]
  refine Ev.bind (e_laws_toFaultS _ (by first | omega | (dsimp only; omega))) ?_
  refine Ev.bind (e_laws_eqFaultS _ _ (by first | omega | (dsimp only; omega))) ?_
  simp only [decide_true, beq_self_eq_true, ne_eq, not_true_eq_false, decide_false, Bool.not_true, Bool.false_eq_true, if_false]
  exact Ev.some _
end Go.Proofs.Ytkefbmaagdaodaa.Vs
