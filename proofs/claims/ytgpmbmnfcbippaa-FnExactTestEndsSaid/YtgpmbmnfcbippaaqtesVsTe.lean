/- The law on the ends of tests. -/
import Derived.Test.YtgpmbmnfcbippaaqtesVsPo
import Derived.Test.YtgpmbmnfcbippaaqtesVsTs
import Derived.Test.YtgpmbmnfcbippaaqtesVsFM
import Derived.Test.YtgpmbmnfcbippaaqtesVsIM
set_option linter.unusedVariables false
set_option linter.unusedSimpArgs false
namespace Go.Proofs.Ytgpmbmnfcbippaa.Vs
open Go.RowKit
theorem e_spec_tsEnds_0 (b : BoardD) (hb : boardOK b = true) (l : List FaultD) (hl : faultsOK b (-1) l = true) (hll : l.length ≤ 9223372036854775806) : ∀ (r pre : List (List Int)) (acc : List (List FallD)), (∀ t ∈ r, t.length ≤ 1000 ∧ colsOK b t) → (pre ++ r).length ≤ 1000 → acc.length ≤ pre.length → Ev (fun k => f_spec_tsEnds_0 k b.1 b.2.1 b.2.2 acc l (pre ++ r) ((pre ++ r).length : Int) (pre.length : Int)) (acc ++ r.map (endsOf b l))
  | [], pre, acc, ht, hln, ha => by
    refine Ev.succ ?_
    simp only [f_spec_tsEnds_0, nlt_end, decide_false, Bool.false_eq_true, if_false]
    exact Ev.of (by simp)
  | t :: r, pre, acc, ht, hln, ha => by
    have ih := e_spec_tsEnds_0 b hb l hl hll r (pre ++ [t]) (acc ++ [endsOf b l t]) (fun x hx => ht x (List.mem_cons_of_mem _ hx)) (by simpa using hln) (by simp; omega)
    rw [← shift_mid] at ih
    have hal : acc.length + 1 ≤ 140737488355328 / 24 := by simp at hln; omega
    refine Ev.succ ?_
    simp only [f_spec_tsEnds_0, lt_mid, ge_mid, decide_true, if_true, Int.toNat_natCast, getD_mid, List.length_singleton, hal]
    rw [next_mid pre t r (by omega)]
    obtain ⟨t1, t2⟩ := ht t (List.mem_cons_self ..)
    refine Ev.bind (e_spec_faAll b hb l hl hll t t1 t2) ?_
    refine ih.congr ?_
    simp
theorem e_spec_tsEnds (b : BoardD) (hb : boardOK b = true) (l : List FaultD) (hl : faultsOK b (-1) l = true) (hll : l.length ≤ 9223372036854775806) (T : List (List Int)) (hT : ∀ t ∈ T, t.length ≤ 1000 ∧ colsOK b t) (hn : T.length ≤ 1000) : Ev (fun k => f_spec_tsEnds k b l T) (T.map (endsOf b l)) := by
  refine Ev.succ ?_
  simp only [f_spec_tsEnds]
  exact Ev.bind (e_spec_tsEnds_0 b hb l hl hll T [] [] hT (by simpa using hn) (by simp)) (Ev.some _)
theorem e_impl_testEnds_0 (b : BoardD) (hb : boardOK b = true) (l : List FaultD) (hl : faultsOK b (-1) l = true) (hll : l.length ≤ 9223372036854775806) : ∀ (r pre : List (List Int)) (acc : List (List FallD)), (∀ t ∈ r, t.length ≤ 1000 ∧ colsOK b t) → (pre ++ r).length ≤ 1000 → acc.length ≤ pre.length → Ev (fun k => f_impl_testEnds_0 k b.1 b.2.1 b.2.2 acc l (pre ++ r) ((pre ++ r).length : Int) (pre.length : Int)) (acc ++ r.map (endsOf b l))
  | [], pre, acc, ht, hln, ha => by
    refine Ev.succ ?_
    simp only [f_impl_testEnds_0, nlt_end, decide_false, Bool.false_eq_true, if_false]
    exact Ev.of (by simp)
  | t :: r, pre, acc, ht, hln, ha => by
    have ih := e_impl_testEnds_0 b hb l hl hll r (pre ++ [t]) (acc ++ [endsOf b l t]) (fun x hx => ht x (List.mem_cons_of_mem _ hx)) (by simpa using hln) (by simp; omega)
    rw [← shift_mid] at ih
    have hal : acc.length + 1 ≤ 140737488355328 / 24 := by simp at hln; omega
    refine Ev.succ ?_
    simp only [f_impl_testEnds_0, lt_mid, ge_mid, decide_true, if_true, Int.toNat_natCast, getD_mid, List.length_singleton, hal]
    rw [next_mid pre t r (by omega)]
    obtain ⟨t1, t2⟩ := ht t (List.mem_cons_self ..)
    refine Ev.bind (e_impl_faultyDrops b hb l hl hll t t1 t2) ?_
    refine ih.congr ?_
    simp
theorem e_impl_testEnds (b : BoardD) (hb : boardOK b = true) (l : List FaultD) (hl : faultsOK b (-1) l = true) (hll : l.length ≤ 9223372036854775806) (T : List (List Int)) (hT : ∀ t ∈ T, t.length ≤ 1000 ∧ colsOK b t) (hn : T.length ≤ 1000) : Ev (fun k => f_impl_testEnds k b l T) (T.map (endsOf b l)) := by
  refine Ev.succ ?_
  simp only [f_impl_testEnds]
  exact Ev.bind (e_impl_testEnds_0 b hb l hl hll T [] [] hT (by simpa using hn) (by simp)) (Ev.some _)
theorem tests_ok {b : BoardD} {T : List (List Int)} (h : (smallB b && testsOK b T) = true) : boardOK b = true ∧ T.length ≤ 10 ∧ ∀ t ∈ T, t.length ≤ 8 ∧ colsOK b t := by
  unfold smallB testsOK testOK at h
  simp only [Bool.and_eq_true, decide_eq_true_eq, List.all_eq_true] at h
  exact ⟨h.1.1, h.2.1, h.2.2⟩
theorem e_spec_tsAsked (b : BoardD) (T : List (List Int)) (hb : b.2.2.length ≤ 9223372036854775806) (hl : T.length ≤ 9223372036854775806) (hx : ∀ x ∈ T, x.length ≤ 9223372036854775806) : Ev (fun k => f_spec_tsAsked k b T) (smallB b && testsOK b T) := by
  refine Ev.succ ?_
  simp only [f_spec_tsAsked]
  refine Ev.bind (e_spec_tsGood b hb) ?_
  cases h : smallB b with
  | false => simp only [Bool.false_eq_true, if_false, Bool.false_and]; exact Ev.some _
  | true =>
    have hbo : boardOK b = true := by unfold smallB at h; rw [Bool.and_eq_true] at h; exact h.1
    simp only [if_true, Bool.true_and]
    exact Ev.bind (e_spec_tsTests b hbo T hl hx) (Ev.some _)
def faultsB (b : BoardD) (l : List FaultD) : Bool := decide (l.length ≤ 4) && faultsOK b (-1) l
theorem faultsB_ok {b : BoardD} {l : List FaultD} (h : faultsB b l = true) : l.length ≤ 4 ∧ faultsOK b (-1) l = true := by
  unfold faultsB at h
  simp only [Bool.and_eq_true, decide_eq_true_eq] at h
  exact h
def r_TestEnds (b : BoardD) (l : List FaultD) (T : List (List Int)) : List (List FallD) × Bool := if (smallB b && testsOK b T) && faultsB b l then (T.map (endsOf b l), true) else ([], false)
theorem e_spec_TestEnds (b : BoardD) (l : List FaultD) (T : List (List Int)) (h0 : b.2.2.length ≤ 9223372036854775806) (h2 : l.length ≤ 9223372036854775806) (h1 : T.length ≤ 9223372036854775806) (hx : ∀ x ∈ T, x.length ≤ 9223372036854775806) : Ev (fun k => f_spec_TestEnds k b l T) (r_TestEnds b l T) := by
  refine Ev.succ ?_
  simp only [f_spec_TestEnds]
  unfold r_TestEnds
  refine Ev.bind (a := (smallB b && testsOK b T)) (e_spec_tsAsked b T h0 h1 hx) ?_
  cases g0 : (smallB b && testsOK b T) with
  | false => simp only [Bool.not_false, if_true, Bool.false_eq_true, if_false, Bool.false_and, Bool.and_false]; exact Ev.some _
  | true =>
    simp only [Bool.not_true, Bool.false_eq_true, if_false, if_true, Bool.and_self]
    obtain ⟨hb, hn, hT⟩ := tests_ok g0
    have hT1 : ∀ t ∈ T, t.length ≤ 1000 ∧ colsOK b t := fun t ht => ⟨by have := (hT t ht).1; omega, (hT t ht).2⟩
    refine Ev.bind (a := faultsB b l) (e_spec_faGood b hb l h2) ?_
    cases g1 : faultsB b l with
    | false => simp only [Bool.not_false, if_true, Bool.false_eq_true, if_false, Bool.false_and, Bool.and_false]; exact Ev.some _
    | true =>
      simp only [Bool.not_true, Bool.false_eq_true, if_false, if_true, Bool.and_self]
      obtain ⟨hl4, hl⟩ := faultsB_ok g1
      exact Ev.bind (e_spec_tsEnds b hb l hl h2 T hT1 (by omega)) (Ev.some _)
theorem e_impl_TestEnds (b : BoardD) (l : List FaultD) (T : List (List Int)) (h0 : b.2.2.length ≤ 9223372036854775806) (h2 : l.length ≤ 9223372036854775806) (h1 : T.length ≤ 9223372036854775806) (hx : ∀ x ∈ T, x.length ≤ 9223372036854775806) : Ev (fun k => f_impl_TestEnds k b l T) (r_TestEnds b l T) := by
  refine Ev.succ ?_
  simp only [f_impl_TestEnds]
  unfold r_TestEnds
  refine Ev.bind (a := (smallB b && testsOK b T)) (e_impl_areTests b T h0 h1 hx) ?_
  cases g0 : (smallB b && testsOK b T) with
  | false => simp only [Bool.not_false, if_true, Bool.false_eq_true, if_false, Bool.false_and, Bool.and_false]; exact Ev.some _
  | true =>
    simp only [Bool.not_true, Bool.false_eq_true, if_false, if_true, Bool.and_self]
    obtain ⟨hb, hn, hT⟩ := tests_ok g0
    have hT1 : ∀ t ∈ T, t.length ≤ 1000 ∧ colsOK b t := fun t ht => ⟨by have := (hT t ht).1; omega, (hT t ht).2⟩
    refine Ev.bind (a := faultsB b l) (e_impl_areFaults b hb l h2) ?_
    cases g1 : faultsB b l with
    | false => simp only [Bool.not_false, if_true, Bool.false_eq_true, if_false, Bool.false_and, Bool.and_false]; exact Ev.some _
    | true =>
      simp only [Bool.not_true, Bool.false_eq_true, if_false, if_true, Bool.and_self]
      obtain ⟨hl4, hl⟩ := faultsB_ok g1
      exact Ev.bind (e_impl_testEnds b hb l hl h2 T hT1 (by omega)) (Ev.some _)
theorem szRows_le {α : Type} {l : List (List α)} {n : Nat} (h : ∀ x ∈ l, x.length ≤ n) : szRows l ≤ (l.length : Int) * n := by
  induction l with
  | nil => simp [szRows]
  | cons x r ih =>
    have h1 := h x (List.mem_cons_self ..)
    have h2 := ih (fun y hy => h y (List.mem_cons_of_mem _ hy))
    simp only [szRows, List.length_cons]
    rw [Int.natCast_add, Int.add_mul]
    omega
theorem r_TestEnds_len (b : BoardD) (l : List FaultD) (T : List (List Int)) : (r_TestEnds b l T).1.length ≤ 10 ∧ szRows (r_TestEnds b l T).1 ≤ 80 ∧ ∀ x ∈ (r_TestEnds b l T).1, x.length ≤ 9223372036854775806 := by
  unfold r_TestEnds
  split
  · rename_i h
    rw [Bool.and_eq_true] at h
    obtain ⟨hb, hn, hT⟩ := tests_ok h.1
    have h8 : ∀ x ∈ T.map (endsOf b l), x.length ≤ 8 := fun x hx => by
      obtain ⟨t, ht, rfl⟩ := List.mem_map.1 hx
      rw [endsOf_len]
      exact (hT t ht).1
    have hs := szRows_le h8
    have hm : (T.map (endsOf b l)).length ≤ 10 := by rw [List.length_map]; exact hn
    refine ⟨hm, ?_, fun x hx => by have := h8 x hx; omega⟩
    show szRows (T.map (endsOf b l)) ≤ 80
    have : ((T.map (endsOf b l)).length : Int) * (8 : Nat) ≤ 80 := by omega
    omega
  · exact ⟨by simp, by simp [szRows], fun x hx => by simp at hx⟩
theorem law_FnExactTestEnds (p0 : BoardD) (p1 : List FaultD) (p2 : List (List Int)) (h0 : p0.2.2.length ≤ 9223372036854775807) (h1 : p1.length ≤ 9223372036854775807) (h2 : p2.length ≤ 9223372036854775807) (g2 : ∀ x ∈ p2, x.length ≤ 9223372036854775807) : Ev (fun k => f_laws_FnExactTestEnds k p0 p1 p2) true := by
  refine Ev.succ ?_
  simp only [f_laws_FnExactTestEnds]
  refine Ev.bind (e_laws_szBoard _ _ (by first | omega | (dsimp only; omega)) (by first | omega | (dsimp only; omega)) (by first | omega | (dsimp only; omega))) ?_
  by_cases q1 : (1048576 : Int) - (p0.2.2.length : Int) < 0
  · simp only [q1, if_true]; exact Ev.some _
  simp only [q1, if_false, decide_false, Bool.false_eq_true]
  refine Ev.bind (e_laws_szFaultS _ _ (by first | omega | (dsimp only; omega)) (by first | omega | (dsimp only; omega)) (by first | omega | (dsimp only; omega))) ?_
  by_cases q2 : (1048576 : Int) - (p0.2.2.length : Int) - (p1.length : Int) < 0
  · simp only [q2, if_true]; exact Ev.some _
  simp only [q2, if_false, decide_false, Bool.false_eq_true]
  refine Ev.bind (e_laws_szIntSS _ _ (by omega) (by omega) (by omega) g2) ?_
  by_cases q3 : (1048576 : Int) - (p0.2.2.length : Int) - (p1.length : Int) - (p2.length : Int) < 0
  · simp only [q3, if_true]; exact Ev.some _
  simp only [q3, if_false]
  by_cases r3 : (1048576 : Int) - (p0.2.2.length : Int) - (p1.length : Int) - (p2.length : Int) - szRows p2 < 0
  · simp only [r3, if_true]; exact Ev.some _
  simp only [r3, if_false, decide_false, Bool.false_eq_true]
  have y2 := szRows_nonneg p2
  have u2 : ∀ x ∈ p2, x.length ≤ 1048576 := fun x hx => by have := szRows_mem hx; omega
  have v2 : ∀ x ∈ p2, x.length ≤ 9223372036854775806 := fun x hxl => by have := u2 x hxl; omega
  have es := e_spec_TestEnds p0 p1 p2 (by omega) (by omega) (by omega) (by assumption)
  have ei := e_impl_TestEnds p0 p1 p2 (by omega) (by omega) (by omega) (by assumption)
  obtain ⟨hr, hr2, hrv⟩ := r_TestEnds_len p0 p1 p2
  have hrp := szRows_nonneg (r_TestEnds p0 p1 p2).1
  generalize r_TestEnds p0 p1 p2 = R at es ei hr hr2 hrv hrp
  refine Ev.bind (e_laws_toBoard _ (by first | omega | (dsimp only; omega))) ?_
  refine Ev.bind (e_laws_toFaultS _ (by first | omega | (dsimp only; omega))) ?_
  refine Ev.bind (e_laws_toIntSS _ (by first | omega | (dsimp only; omega)) (by assumption)) ?_
  refine Ev.bind es ?_
  refine Ev.bind (e_laws_toBoard _ (by first | omega | (dsimp only; omega))) ?_
  refine Ev.bind (e_laws_toFaultS _ (by first | omega | (dsimp only; omega))) ?_
  refine Ev.bind (e_laws_toIntSS _ (by first | omega | (dsimp only; omega)) (by assumption)) ?_
  refine Ev.bind ei ?_
  refine Ev.bind (e_laws_eqFallSS _ _ (by first | omega | (dsimp only; omega)) (by assumption)) ?_
  simp only [decide_true, beq_self_eq_true, ne_eq, not_true_eq_false, decide_false, Bool.not_true, Bool.false_eq_true, if_false]
  refine Ev.bind (e_laws_toBoard _ (by first | omega | (dsimp only; omega))) ?_
  refine Ev.bind (e_laws_eqBoard _ _ (by first | omega | (dsimp only; omega))) ?_
  simp only [decide_true, beq_self_eq_true, ne_eq, not_true_eq_false, decide_false, Bool.not_true, Bool.false_eq_true, if_false]
  refine Ev.bind (e_laws_toFaultS _ (by first | omega | (dsimp only; omega))) ?_
  refine Ev.bind (e_laws_eqFaultS _ _ (by first | omega | (dsimp only; omega))) ?_
  simp only [decide_true, beq_self_eq_true, ne_eq, not_true_eq_false, decide_false, Bool.not_true, Bool.false_eq_true, if_false]
  refine Ev.bind (e_laws_toIntSS _ (by first | omega | (dsimp only; omega)) (by assumption)) ?_
  refine Ev.bind (e_laws_eqIntSS _ _ (by first | omega | (dsimp only; omega)) (by assumption)) ?_
  simp only [decide_true, beq_self_eq_true, ne_eq, not_true_eq_false, decide_false, Bool.not_true, Bool.false_eq_true, if_false]
  refine Ev.bind (e_laws_markBoard _ _ (by first | omega | (dsimp only; omega)) (by first | omega | (dsimp only; omega))) ?_
  try dsimp only
  refine Ev.bind (e_laws_markFaultS _ _ (by first | omega | (dsimp only; omega)) (by first | omega | (dsimp only; omega))) ?_
  try dsimp only
  refine Ev.bind (e_laws_markIntSS _ _ (by first | omega | (dsimp only; omega)) (by first | omega | (dsimp only; omega)) (by first | omega | (dsimp only; omega))) ?_
  try dsimp only
  refine Ev.ite (fun h => by simp only [decide_eq_true_eq] at h; omega) (fun h => ?_)
  refine Ev.bind (e_laws_eqFallSS _ _ (by first | omega | (dsimp only; omega)) (by assumption)) ?_
  simp only [decide_true, beq_self_eq_true, ne_eq, not_true_eq_false, decide_false, Bool.not_true, Bool.false_eq_true, if_false]
  refine Ev.bind (e_laws_markFallSS _ _ (by first | omega | (dsimp only; omega)) (by first | omega | (dsimp only; omega)) (by first | omega | (dsimp only; omega))) ?_
  try dsimp only
  refine Ev.bind (e_laws_heldFallSS _ _ (by first | omega | (dsimp only; omega)) (by first | omega | (dsimp only; omega)) (by first | omega | (dsimp only; omega))) ?_
  try dsimp only
  refine Ev.ite (fun h => by simp only [decide_eq_true_eq] at h; omega) (fun h => ?_)
  simp only [decide_true, beq_self_eq_true, ne_eq, not_true_eq_false, decide_false, Bool.not_true, Bool.false_eq_true, if_false]
  refine Ev.bind (e_laws_toBoard _ (by first | omega | (dsimp only; omega))) ?_
  refine Ev.bind (e_laws_toFaultS _ (by first | omega | (dsimp only; omega))) ?_
  refine Ev.bind (e_laws_toIntSS _ (by first | omega | (dsimp only; omega)) (by assumption)) ?_
  refine Ev.bind ei ?_
  refine Ev.bind (e_laws_eqFallSS _ _ (by first | omega | (dsimp only; omega)) (by assumption)) ?_
  simp only [decide_true, beq_self_eq_true, ne_eq, not_true_eq_false, decide_false, Bool.not_true, Bool.false_eq_true, if_false]
  refine Ev.bind (e_laws_heldFallSS _ _ (by first | omega | (dsimp only; omega)) (by first | omega | (dsimp only; omega)) (by first | omega | (dsimp only; omega))) ?_
  try dsimp only
  refine Ev.ite (fun h => by simp only [decide_eq_true_eq] at h; omega) (fun h => ?_)
  simp only [decide_true, beq_self_eq_true, ne_eq, not_true_eq_false, decide_false, Bool.not_true, Bool.false_eq_true, if_false]
  exact Ev.some _
end Go.Proofs.Ytgpmbmnfcbippaa.Vs
