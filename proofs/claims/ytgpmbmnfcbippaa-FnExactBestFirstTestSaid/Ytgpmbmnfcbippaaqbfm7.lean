/- The proof, part 8. -/
import Derived.Test.Ytgpmbmnfcbippaaqbfm6
set_option linter.unusedVariables false
set_option linter.unusedSimpArgs false
namespace Go.Proofs.Ytgpmbmnfcbippaa.Vs
open Go.RowKit
/-- How many lie in all rows together. -/
def szRows {α : Type} : List (List α) → Int
  | [] => 0
  | x :: r => (x.length : Int) + szRows r
theorem szRows_nonneg {α : Type} : ∀ (l : List (List α)), 0 ≤ szRows l
  | [] => Int.le_refl _
  | x :: r => by have := szRows_nonneg r; simp only [szRows]; omega
theorem szRows_mem {α : Type} : ∀ {l : List (List α)} {x : List α}, x ∈ l → (x.length : Int) ≤ szRows l
  | y :: r, x, h => by
    have h1 := szRows_nonneg r
    simp only [szRows]
    rcases List.mem_cons.1 h with rfl | h
    · omega
    · have := szRows_mem h; omega
theorem e_laws_szIntSS_0 : ∀ (r pre : List (List Int)) (n : Int), 0 ≤ n → n ≤ 1048576 → (∀ x ∈ r, x.length ≤ 9223372036854775807) → (pre ++ r).length ≤ 9223372036854775806 → Ev (fun k => f_laws_szIntSS_0 k (pre ++ r) n (pre.length : Int)) (if n - szRows r < 0 then LR.ret (-1) else LR.go (n - szRows r))
  | [], pre, n, h0, h1, hx, hl => by
    refine Ev.succ ?_
    simp only [f_laws_szIntSS_0, nlt_end, decide_false, Bool.false_eq_true, if_false]
    rw [if_neg (show ¬ n - szRows ([] : List (List Int)) < 0 by simp only [szRows]; omega)]
    exact Ev.of (by simp [szRows])
  | x :: r, pre, n, h0, h1, hx, hl => by
    have hxl := hx x (List.mem_cons_self ..)
    have hr := szRows_nonneg r
    refine Ev.succ ?_
    simp only [f_laws_szIntSS_0, lt_mid, ge_mid, decide_true, if_true, Int.toNat_natCast, getD_mid]
    rw [next_mid pre x r (by omega)]
    refine Ev.bind (e_laws_szIntS x n h0 h1 hxl) ?_
    by_cases h : n - (x.length : Int) < 0
    · simp only [h, if_true]
      rw [if_pos (show n - szRows (x :: r) < 0 by simp only [szRows]; omega)]
      exact Ev.some _
    · simp only [h, if_false, decide_false, Bool.false_eq_true]
      have ih := e_laws_szIntSS_0 r (pre ++ [x]) (n - x.length) (by omega) (by omega) (fun y hy => hx y (List.mem_cons_of_mem _ hy)) (by simpa using hl)
      rw [← shift_mid] at ih
      have e1 : n - szRows (x :: r) = n - (x.length : Int) - szRows r := by simp only [szRows]; omega
      rw [e1]
      exact ih
theorem e_laws_szIntSS (l : List (List Int)) (n : Int) (h0 : 0 ≤ n) (h1 : n ≤ 1048576) (hl : l.length ≤ 9223372036854775807) (hx : ∀ x ∈ l, x.length ≤ 9223372036854775807) : Ev (fun k => f_laws_szIntSS k l n) (if n - l.length < 0 then -1 else if n - l.length - szRows l < 0 then -1 else n - l.length - szRows l) := by
  refine Ev.succ ?_
  simp only [f_laws_szIntSS]
  rw [w64 (by omega) (by omega)]
  by_cases h : n - (l.length : Int) < 0
  · simp only [h, decide_true, if_true]; exact Ev.some _
  · simp only [h, decide_false, Bool.false_eq_true, if_false]
    refine Ev.bind (e_laws_szIntSS_0 l [] _ (by omega) (by omega) hx (by simp; omega)) ?_
    by_cases g : n - (l.length : Int) - szRows l < 0
    · simp only [g, if_true]; exact Ev.ret (Ev.some _)
    · simp only [g, if_false]; exact Ev.go (Ev.some _)
theorem e_laws_toIntSS_0 : ∀ (r pre rest : List (List Int)), rest.length = r.length → (∀ x ∈ r, x.length ≤ 1048576) → (pre ++ r).length ≤ 1048576 → Ev (fun k => f_laws_toIntSS_0 k (pre ++ rest) (pre ++ r) (pre.length : Int)) (pre ++ r)
  | [], pre, rest, h, hx, hl => by
    obtain rfl : rest = [] := List.eq_nil_of_length_eq_zero h
    refine Ev.succ ?_
    simp only [f_laws_toIntSS_0, nlt_end, decide_false, Bool.false_eq_true, if_false]
    exact Ev.some _
  | x :: r, pre, [], h, hx, hl => by simp at h
  | x :: r, pre, y :: rest, h, hx, hl => by
    have ih := e_laws_toIntSS_0 r (pre ++ [x]) rest (by simpa using h) (fun y hy => hx y (List.mem_cons_of_mem _ hy)) (by simpa using hl)
    refine Ev.succ ?_
    simp only [f_laws_toIntSS_0, lt_mid, ge_mid, decide_true, if_true, Int.toNat_natCast, getD_mid, set_mid]
    rw [next_mid pre x r (by omega)]
    refine Ev.bind (e_laws_toIntS x (hx x (List.mem_cons_self ..))) ?_
    rw [← shift_mid, ← shift_mid] at ih
    exact ih
theorem e_laws_toIntSS (l : List (List Int)) (hl : l.length ≤ 1048576) (hx : ∀ x ∈ l, x.length ≤ 1048576) : Ev (fun k => f_laws_toIntSS k l) l := by
  refine Ev.succ ?_
  have hm : l.length * 24 ≤ 281474976710656 := by omega
  simp only [f_laws_toIntSS, Int.toNat_natCast, hm, if_true]
  exact Ev.bind (e_laws_toIntSS_0 l [] (List.replicate l.length []) (by simp) hx (by simpa using hl)) (Ev.some _)
theorem e_laws_eqIntSS_0 : ∀ (r s pre pre' : List (List Int)), s.length = r.length → pre'.length = pre.length → (∀ x ∈ r, x.length ≤ 9223372036854775806) → (pre ++ r).length ≤ 9223372036854775806 → Ev (fun k => f_laws_eqIntSS_0 k (pre ++ r) (pre' ++ s) (pre.length : Int)) (if r = s then LR.go () else LR.ret false)
  | [], s, pre, pre', h, hp, hx, hl => by
    obtain rfl : s = [] := List.eq_nil_of_length_eq_zero h
    refine Ev.succ ?_
    simp only [f_laws_eqIntSS_0, nlt_end, decide_false, Bool.false_eq_true, if_false, if_true]
    exact Ev.some _
  | x :: r, [], pre, pre', h, hp, hx, hl => by simp at h
  | x :: r, y :: s, pre, pre', h, hp, hx, hl => by
    have ih := e_laws_eqIntSS_0 r s (pre ++ [x]) (pre' ++ [y]) (by simpa using h) (by simpa using hp) (fun y hy => hx y (List.mem_cons_of_mem _ hy)) (by simpa using hl)
    have l2 : (pre.length : Int) < ((pre' ++ y :: s).length : Int) := by rw [← hp]; exact lt_mid _ _ _
    have g2 : List.getD (pre' ++ y :: s) pre.length [] = y := by rw [← hp]; exact getD_mid _ _ _ _
    refine Ev.succ ?_
    simp only [f_laws_eqIntSS_0, lt_mid, ge_mid, l2, decide_true, if_true, Int.toNat_natCast, getD_mid, g2]
    rw [next_mid pre x r (by omega)]
    rw [← shift_mid, ← shift_mid] at ih
    refine Ev.bind (e_laws_eqIntS x y (hx x (List.mem_cons_self ..))) ?_
    by_cases hxy : x = y
    · subst hxy
      simp only [decide_true, Bool.not_true, Bool.false_eq_true, if_false]
      refine ih.congr ?_
      by_cases hrs : r = s <;> simp [hrs]
    · simp only [hxy, decide_false, Bool.not_false, if_true]
      refine Ev.of ?_
      rw [if_neg (by intro hc; injection hc with h1 h2; exact hxy h1)]
theorem e_laws_eqIntSS (l m : List (List Int)) (hl : l.length ≤ 9223372036854775806) (hx : ∀ x ∈ l, x.length ≤ 9223372036854775806) : Ev (fun k => f_laws_eqIntSS k l m) (decide (l = m)) := by
  refine Ev.succ ?_
  simp only [f_laws_eqIntSS]
  by_cases h : l.length = m.length
  · simp only [h, ne_eq, not_true_eq_false, decide_false, Bool.false_eq_true, if_false]
    refine Ev.bind (e_laws_eqIntSS_0 l m [] [] h.symm rfl hx (by simpa using hl)) ?_
    by_cases hlm : l = m
    · rw [if_pos hlm]; simp only [hlm, decide_true]; exact Ev.go (Ev.some _)
    · rw [if_neg hlm]; simp only [hlm, decide_false]; exact Ev.ret (Ev.some _)
  · have h2 : ¬ (l.length : Int) = (m.length : Int) := by omega
    have h3 : ¬ l = m := fun hc => h (by rw [hc])
    simp only [ne_eq, h2, not_false_eq_true, decide_true, if_true, h3, decide_false]
    exact Ev.some _
end Go.Proofs.Ytgpmbmnfcbippaa.Vs

set_option linter.unusedVariables false
set_option linter.unusedSimpArgs false
namespace Go.Proofs.Ytgpmbmnfcbippaa.Vs
open Go.RowKit
theorem e_impl_areTests_0 (b : BoardD) (hb : boardOK b = true) : ∀ (r pre : List (List Int)), (∀ x ∈ r, x.length ≤ 9223372036854775806) → (pre ++ r).length ≤ 9223372036854775806 → Ev (fun k => f_impl_areTests_0 k b.1 b.2.1 b.2.2 (pre ++ r) ((pre ++ r).length : Int) (pre.length : Int)) (if r.all (testOK b) then LR.go () else LR.ret false)
  | [], pre, hx, hl => by
    refine Ev.succ ?_
    simp only [f_impl_areTests_0, nlt_end, decide_false, Bool.false_eq_true, if_false, List.all_nil, if_true]
    exact Ev.some _
  | x :: r, pre, hx, hl => by
    obtain ⟨g1, g2, g3, g4, g5, g6⟩ := board_ok hb
    have hp := prod_small g1 g2 g3 g4
    have ih := e_impl_areTests_0 b hb r (pre ++ [x]) (fun y hy => hx y (List.mem_cons_of_mem _ hy)) (by simpa using hl)
    refine Ev.succ ?_
    simp only [f_impl_areTests_0, lt_mid, ge_mid, decide_true, if_true, Int.toNat_natCast, getD_mid]
    rw [next_mid pre x r (by omega)]
    rw [← shift_mid] at ih
    refine Ev.ite (fun h => ?_) (fun h => ?_)
    · simp only [decide_eq_true_eq] at h
      have : ¬ x.length ≤ 8 := by omega
      simp only [List.all_cons, testOK, this, decide_false, Bool.false_and, Bool.false_eq_true, if_false]; exact Ev.some _
    simp only [decide_eq_true_eq] at h
    have h8 : x.length ≤ 8 := by omega
    have h60 : x.length ≤ 60 := by omega
    refine Ev.bind (e_impl_validEntries b x (by omega) (hx x (List.mem_cons_self ..))) ?_
    simp only [hb, h60, decide_true, Bool.true_and]
    have ht : testOK b x = x.all (fun c => decide (0 ≤ c ∧ c < b.2.1)) := by simp only [testOK, h8, decide_true, Bool.true_and]
    rw [List.all_cons, ht]
    cases hxx : x.all (fun c => decide (0 ≤ c ∧ c < b.2.1)) with
    | true => simp only [Bool.not_true, Bool.false_eq_true, if_false, Bool.true_and]; exact ih
    | false => simp only [Bool.not_false, if_true, Bool.false_and, Bool.false_eq_true, if_false]; exact Ev.some _
theorem e_spec_tsTests_0 (b : BoardD) (hb : boardOK b = true) (w : List (List Int)) : ∀ (r pre : List (List Int)), (∀ x ∈ r, x.length ≤ 9223372036854775806) → (pre ++ r).length ≤ 9223372036854775806 → Ev (fun k => f_spec_tsTests_0 k b.1 b.2.1 b.2.2 w (pre ++ r) ((pre ++ r).length : Int) (pre.length : Int)) (if r.all (testOK b) then LR.go w else LR.ret false)
  | [], pre, hx, hl => by
    refine Ev.succ ?_
    simp only [f_spec_tsTests_0, nlt_end, decide_false, Bool.false_eq_true, if_false, List.all_nil, if_true]
    exact Ev.some _
  | x :: r, pre, hx, hl => by
    obtain ⟨g1, g2, g3, g4, g5, g6⟩ := board_ok hb
    have ih := e_spec_tsTests_0 b hb w r (pre ++ [x]) (fun y hy => hx y (List.mem_cons_of_mem _ hy)) (by simpa using hl)
    refine Ev.succ ?_
    simp only [f_spec_tsTests_0, lt_mid, ge_mid, decide_true, if_true, Int.toNat_natCast, getD_mid]
    rw [next_mid pre x r (by omega), w64 (n := b.2.1 - 1) (by omega) (by omega)]
    rw [← shift_mid] at ih
    refine Ev.ite (fun h => ?_) (fun h => ?_)
    · simp only [decide_eq_true_eq] at h
      have : ¬ x.length ≤ 8 := by omega
      simp only [List.all_cons, testOK, this, decide_false, Bool.false_and, Bool.false_eq_true, if_false]; exact Ev.some _
    simp only [decide_eq_true_eq] at h
    have h8 : x.length ≤ 8 := by omega
    refine Ev.bind (e_spec_l1All x 0 (b.2.1 - 1) (hx x (List.mem_cons_self ..))) ?_
    have hfun : (fun n : Int => decide (0 ≤ n ∧ n ≤ b.2.1 - 1)) = fun c => decide (0 ≤ c ∧ c < b.2.1) := by
      funext c
      apply decide_eq_decide.2
      omega
    rw [hfun]
    have ht : testOK b x = x.all (fun c => decide (0 ≤ c ∧ c < b.2.1)) := by simp only [testOK, h8, decide_true, Bool.true_and]
    rw [List.all_cons, ht]
    cases hxx : x.all (fun c => decide (0 ≤ c ∧ c < b.2.1)) with
    | true => simp only [Bool.not_true, Bool.false_eq_true, if_false, Bool.true_and]; exact ih
    | false => simp only [Bool.not_false, if_true, Bool.false_and, Bool.false_eq_true, if_false]; exact Ev.some _
def smallB (b : BoardD) : Bool := boardOK b && decide (b.2.2.length ≤ 30)
def testsOK (b : BoardD) (l : List (List Int)) : Bool := decide (l.length ≤ 10) && l.all (testOK b)
theorem e_impl_areTests (b : BoardD) (l : List (List Int)) (hb : b.2.2.length ≤ 9223372036854775806) (hl : l.length ≤ 9223372036854775806) (hx : ∀ x ∈ l, x.length ≤ 9223372036854775806) : Ev (fun k => f_impl_areTests k b l) (smallB b && testsOK b l) := by
  refine Ev.succ ?_
  simp only [f_impl_areTests]
  refine Ev.bind (e_impl_IsBoard b hb) ?_
  cases hbo : boardOK b with
  | false => simp only [Bool.not_false, if_true, smallB, hbo, Bool.false_and]; exact Ev.some _
  | true =>
    simp only [Bool.not_true, Bool.false_eq_true, if_false, smallB, hbo, Bool.true_and]
    refine Ev.ite (fun h => Ev.of ?_) (fun h => Ev.ite (fun h2 => Ev.of ?_) (fun h2 => ?_))
    · simp only [decide_eq_true_eq] at h
      have : ¬ b.2.2.length ≤ 30 := by omega
      simp [this]
    · simp only [decide_eq_true_eq] at h2
      have : ¬ l.length ≤ 10 := by omega
      simp [testsOK, this]
    · simp only [decide_eq_true_eq] at h h2
      have h3 : b.2.2.length ≤ 30 := by omega
      have h4 : l.length ≤ 10 := by omega
      refine Ev.bind (e_impl_areTests_0 b hbo l [] hx (by simpa using hl)) ?_
      simp only [h3, testsOK, h4, decide_true, Bool.true_and]
      cases hy : l.all (testOK b) with
      | true => simp only [if_true]; exact Ev.go (Ev.some _)
      | false => simp only [Bool.false_eq_true, if_false]; exact Ev.ret (Ev.some _)
theorem e_spec_tsGood (b : BoardD) (hb : b.2.2.length ≤ 9223372036854775806) : Ev (fun k => f_spec_tsGood k b) (smallB b) := by
  refine Ev.succ ?_
  simp only [f_spec_tsGood]
  refine Ev.bind (e_spec_boGood b hb) ?_
  cases hbo : boardOK b with
  | false => simp only [Bool.false_eq_true, if_false, smallB, hbo, Bool.false_and]; exact Ev.some _
  | true =>
    simp only [if_true, smallB, hbo, Bool.true_and]
    refine Ev.of ?_
    congr 1
    apply decide_eq_decide.2
    omega
theorem e_spec_tsTests (b : BoardD) (hbo : boardOK b = true) (l : List (List Int)) (hl : l.length ≤ 9223372036854775806) (hx : ∀ x ∈ l, x.length ≤ 9223372036854775806) : Ev (fun k => f_spec_tsTests k b l) (testsOK b l) := by
  refine Ev.succ ?_
  simp only [f_spec_tsTests]
  refine Ev.bind (e_spec_tsTests_0 b hbo l l [] hx (by simpa using hl)) ?_
  cases hy : l.all (testOK b) with
  | true =>
    simp only [if_true, testsOK, hy, Bool.and_true]
    refine Ev.go (Ev.of ?_)
    congr 1
    apply decide_eq_decide.2
    omega
  | false => simp only [Bool.false_eq_true, if_false, testsOK, hy, Bool.and_false]; exact Ev.ret (Ev.some _)
end Go.Proofs.Ytgpmbmnfcbippaa.Vs

set_option linter.unusedVariables false
set_option linter.unusedSimpArgs false
namespace Go.Proofs.Ytgpmbmnfcbippaa.Vs
open Go.RowKit
end Go.Proofs.Ytgpmbmnfcbippaa.Vs

set_option linter.unusedVariables false
set_option linter.unusedSimpArgs false
namespace Go.Proofs.Ytgpmbmnfcbippaa.Vs
open Go.RowKit
end Go.Proofs.Ytgpmbmnfcbippaa.Vs

set_option linter.unusedVariables false
set_option linter.unusedSimpArgs false
namespace Go.Proofs.Ytgpmbmnfcbippaa.Vs
open Go.RowKit
end Go.Proofs.Ytgpmbmnfcbippaa.Vs

set_option linter.unusedVariables false
set_option linter.unusedSimpArgs false
namespace Go.Proofs.Ytgpmbmnfcbippaa.Vs
open Go.RowKit
theorem e_spec_tsEnds_0 (b : BoardD) (hb : boardOK b = true) (l : List FaultD) (hl : faultsOK b (-1) l = true) (hll : l.length ≤ 9223372036854775806) : ∀ (r pre : List (List Int)) (acc : List (List FallD)), (∀ t ∈ r, t.length ≤ 1000 ∧ colsOK b t) → (pre ++ r).length ≤ 1000 → acc.length ≤ pre.length → Ev (fun k => f_spec_tsEnds_0 k b.1 b.2.1 b.2.2 acc l (pre ++ r) ((pre ++ r).length : Int) (pre.length : Int)) (acc ++ r.map (endsOf b l))
  | [], pre, acc, ht, hln, ha => by
    refine Ev.succ ?_
    simp only [f_spec_tsEnds_0, nlt_end, decide_false, Bool.false_eq_true, if_false]
    exact Ev.of (by simp)
  | t :: r, pre, acc, ht, hln, ha => by
    have ih := e_spec_tsEnds_0 b hb l hl hll r (pre ++ [t]) (acc ++ [endsOf b l t]) (fun x hx => ht x (List.mem_cons_of_mem _ hx)) (by simpa using hln) (by simp; omega)
    rw [← shift_mid] at ih
    have hal : acc.length + 1 ≤ 140737488355328 / 24 := by simp at hln; omega
    refine Ev.succ ?_
    simp only [f_spec_tsEnds_0, lt_mid, ge_mid, decide_true, if_true, Int.toNat_natCast, getD_mid, List.length_singleton, hal]
    rw [next_mid pre t r (by omega)]
    obtain ⟨t1, t2⟩ := ht t (List.mem_cons_self ..)
    refine Ev.bind (e_spec_faAll b hb l hl hll t t1 t2) ?_
    refine ih.congr ?_
    simp
theorem e_spec_tsEnds (b : BoardD) (hb : boardOK b = true) (l : List FaultD) (hl : faultsOK b (-1) l = true) (hll : l.length ≤ 9223372036854775806) (T : List (List Int)) (hT : ∀ t ∈ T, t.length ≤ 1000 ∧ colsOK b t) (hn : T.length ≤ 1000) : Ev (fun k => f_spec_tsEnds k b l T) (T.map (endsOf b l)) := by
  refine Ev.succ ?_
  simp only [f_spec_tsEnds]
  exact Ev.bind (e_spec_tsEnds_0 b hb l hl hll T [] [] hT (by simpa using hn) (by simp)) (Ev.some _)
theorem e_impl_testEnds_0 (b : BoardD) (hb : boardOK b = true) (l : List FaultD) (hl : faultsOK b (-1) l = true) (hll : l.length ≤ 9223372036854775806) : ∀ (r pre : List (List Int)) (acc : List (List FallD)), (∀ t ∈ r, t.length ≤ 1000 ∧ colsOK b t) → (pre ++ r).length ≤ 1000 → acc.length ≤ pre.length → Ev (fun k => f_impl_testEnds_0 k b.1 b.2.1 b.2.2 acc l (pre ++ r) ((pre ++ r).length : Int) (pre.length : Int)) (acc ++ r.map (endsOf b l))
  | [], pre, acc, ht, hln, ha => by
    refine Ev.succ ?_
    simp only [f_impl_testEnds_0, nlt_end, decide_false, Bool.false_eq_true, if_false]
    exact Ev.of (by simp)
  | t :: r, pre, acc, ht, hln, ha => by
    have ih := e_impl_testEnds_0 b hb l hl hll r (pre ++ [t]) (acc ++ [endsOf b l t]) (fun x hx => ht x (List.mem_cons_of_mem _ hx)) (by simpa using hln) (by simp; omega)
    rw [← shift_mid] at ih
    have hal : acc.length + 1 ≤ 140737488355328 / 24 := by simp at hln; omega
    refine Ev.succ ?_
    simp only [f_impl_testEnds_0, lt_mid, ge_mid, decide_true, if_true, Int.toNat_natCast, getD_mid, List.length_singleton, hal]
    rw [next_mid pre t r (by omega)]
    obtain ⟨t1, t2⟩ := ht t (List.mem_cons_self ..)
    refine Ev.bind (e_impl_faultyDrops b hb l hl hll t t1 t2) ?_
    refine ih.congr ?_
    simp
theorem e_impl_testEnds (b : BoardD) (hb : boardOK b = true) (l : List FaultD) (hl : faultsOK b (-1) l = true) (hll : l.length ≤ 9223372036854775806) (T : List (List Int)) (hT : ∀ t ∈ T, t.length ≤ 1000 ∧ colsOK b t) (hn : T.length ≤ 1000) : Ev (fun k => f_impl_testEnds k b l T) (T.map (endsOf b l)) := by
  refine Ev.succ ?_
  simp only [f_impl_testEnds]
  exact Ev.bind (e_impl_testEnds_0 b hb l hl hll T [] [] hT (by simpa using hn) (by simp)) (Ev.some _)
theorem tests_ok {b : BoardD} {T : List (List Int)} (h : (smallB b && testsOK b T) = true) : boardOK b = true ∧ T.length ≤ 10 ∧ ∀ t ∈ T, t.length ≤ 8 ∧ colsOK b t := by
  unfold smallB testsOK testOK at h
  simp only [Bool.and_eq_true, decide_eq_true_eq, List.all_eq_true] at h
  exact ⟨h.1.1, h.2.1, h.2.2⟩
theorem e_spec_tsAsked (b : BoardD) (T : List (List Int)) (hb : b.2.2.length ≤ 9223372036854775806) (hl : T.length ≤ 9223372036854775806) (hx : ∀ x ∈ T, x.length ≤ 9223372036854775806) : Ev (fun k => f_spec_tsAsked k b T) (smallB b && testsOK b T) := by
  refine Ev.succ ?_
  simp only [f_spec_tsAsked]
  refine Ev.bind (e_spec_tsGood b hb) ?_
  cases h : smallB b with
  | false => simp only [Bool.false_eq_true, if_false, Bool.false_and]; exact Ev.some _
  | true =>
    have hbo : boardOK b = true := by unfold smallB at h; rw [Bool.and_eq_true] at h; exact h.1
    simp only [if_true, Bool.true_and]
    exact Ev.bind (e_spec_tsTests b hbo T hl hx) (Ev.some _)
end Go.Proofs.Ytgpmbmnfcbippaa.Vs

set_option linter.unusedVariables false
set_option linter.unusedSimpArgs false
namespace Go.Proofs.Ytgpmbmnfcbippaa.Vs
open Go.RowKit
section
variable {α : Type} [DecidableEq α] (key : Nat → α)
/-- No number before k has its key. -/
def isFirst (k : Nat) : Bool := (List.range k).all fun i => decide (key i ≠ key k)
def firsts (n : Nat) : List Nat := (List.range n).filter (isFirst key)
def members (n f : Nat) : List Int := ((List.range n).filter fun j => decide (key j = key f)).map fun (j : Nat) => (j : Int) - 1
/-- The numbers below n less one, by their keys, in the order of their first ones. -/
def classesL (n : Nat) : List (List Int) := (firsts key n).map (members key n)
theorem firsts_lt {n f : Nat} (h : f ∈ firsts key n) : f < n ∧ isFirst key f = true := by
  unfold firsts at h
  rw [List.mem_filter, List.mem_range] at h
  exact h
theorem isFirst_ne {k i : Nat} (h : isFirst key k = true) (hi : i < k) : key i ≠ key k := by
  unfold isFirst at h
  rw [List.all_eq_true] at h
  exact of_decide_eq_true (h i (List.mem_range.2 hi))
theorem firsts_pairwise (n : Nat) : List.Pairwise (fun f g => key f ≠ key g) (firsts key n) := by
  have h1 : List.Pairwise (fun a b => a < b) (firsts key n) := List.Pairwise.filter _ List.pairwise_lt_range
  refine List.Pairwise.imp_of_mem (fun {f g} hf hg hlt => ?_) h1
  exact isFirst_ne key (firsts_lt key hg).2 hlt
theorem firsts_succ (n : Nat) : firsts key (n + 1) = firsts key n ++ (if isFirst key n then [n] else []) := by
  unfold firsts
  rw [List.range_succ, List.filter_append]
  congr 1
  cases h : isFirst key n <;> simp [List.filter, h]
theorem members_succ (n f : Nat) : members key (n + 1) f = members key n f ++ (if key n = key f then [(n : Int) - 1] else []) := by
  unfold members
  rw [List.range_succ, List.filter_append, List.map_append]
  congr 1
  by_cases h : key n = key f <;> simp [List.filter, h]
theorem first_head {n f : Nat} (h : f ∈ firsts key n) : ∃ r, members key n f = ((f : Int) - 1) :: r := by
  obtain ⟨h1, h2⟩ := firsts_lt key h
  induction n with
  | zero => omega
  | succ n ih =>
    rw [members_succ]
    by_cases hf : f < n
    · have hm : f ∈ firsts key n := by unfold firsts; rw [List.mem_filter, List.mem_range]; exact ⟨hf, h2⟩
      obtain ⟨r, hr⟩ := ih hm hf
      exact ⟨_, by rw [hr]; rfl⟩
    · have hfn : f = n := by omega
      subst hfn
      have : members key f f = [] := by
        unfold members
        rw [List.map_eq_nil_iff, List.filter_eq_nil_iff]
        intro j hj
        have := isFirst_ne key h2 (List.mem_range.1 hj)
        simpa using this
      rw [this, if_pos rfl]
      exact ⟨[], rfl⟩
/-- How many of the first ones come before that with the key. -/
def placeIx (x : α) : List Nat → Nat
  | [] => 0
  | f :: r => if key f = x then 0 else placeIx x r + 1
theorem placeIx_le (x : α) : ∀ (F : List Nat), placeIx key x F ≤ F.length
  | [] => Nat.le_refl _
  | f :: r => by
    have := placeIx_le x r
    simp only [placeIx]
    split <;> simp
    omega
theorem placeIx_all {x : α} : ∀ {F : List Nat}, placeIx key x F = F.length → ∀ f ∈ F, key f ≠ x
  | [], _, f, hf => by cases hf
  | g :: r, h, f, hf => by
    simp only [placeIx] at h
    split at h
    · simp at h
    · rename_i hg
      rcases List.mem_cons.1 hf with rfl | hf
      · exact hg
      · exact placeIx_all (by simpa using h) f hf
theorem map_add (m : Nat → List Int) (x : α) (y : Int) : ∀ (F : List Nat), List.Pairwise (fun f g => key f ≠ key g) F →
    F.map (fun f => m f ++ (if x = key f then [y] else [])) = if placeIx key x F < F.length then List.set (F.map m) (placeIx key x F) (List.getD (F.map m) (placeIx key x F) [] ++ [y]) else F.map m
  | [], _ => by simp
  | f :: F, hp => by
    obtain ⟨h1, h2⟩ := List.pairwise_cons.1 hp
    have ih := map_add m x y F h2
    by_cases hf : key f = x
    · subst hf
      have h3 : F.map (fun g => m g ++ (if key f = key g then [y] else [])) = F.map m := List.map_congr_left (fun g hg => by rw [if_neg (h1 g hg), List.append_nil])
      simp only [List.map_cons, h3, placeIx, if_true, List.length_cons, Nat.zero_lt_succ, List.set_cons_zero, List.getD_cons_zero]
    · have hf' : ¬ x = key f := fun h => hf h.symm
      simp only [List.map_cons, placeIx, if_neg hf, if_neg hf', List.append_nil, ih, List.length_cons, Nat.add_lt_add_iff_right, List.set_cons_succ, List.getD_cons_succ]
      split <;> rfl
theorem classes_old {k : Nat} (h : placeIx key (key k) (firsts key k) < (firsts key k).length) : classesL key (k + 1) = List.set (classesL key k) (placeIx key (key k) (firsts key k)) (List.getD (classesL key k) (placeIx key (key k) (firsts key k)) [] ++ [(k : Int) - 1]) := by
  have hnf : isFirst key k = false := by
    cases hc : isFirst key k with
    | false => rfl
    | true =>
      exfalso
      have hall : ∀ f ∈ firsts key k, key f ≠ key k := fun f hf => isFirst_ne key hc (firsts_lt key hf).1
      have : ∀ (F : List Nat), (∀ f ∈ F, key f ≠ key k) → placeIx key (key k) F = F.length := by
        intro F
        induction F with
        | nil => intro _; rfl
        | cons g r ih =>
          intro hF
          simp only [placeIx]
          rw [if_neg (hF g (List.mem_cons_self ..)), ih (fun f hf => hF f (List.mem_cons_of_mem _ hf))]
          rfl
      have := this _ hall
      omega
  unfold classesL
  rw [firsts_succ, hnf]
  simp only [Bool.false_eq_true, if_false, List.append_nil]
  rw [show members key (k + 1) = fun f => members key k f ++ (if key k = key f then [(k : Int) - 1] else []) from funext (members_succ key k)]
  rw [map_add key _ _ _ _ (firsts_pairwise key k), if_pos h]
theorem classes_new {k : Nat} (h : placeIx key (key k) (firsts key k) = (firsts key k).length) : classesL key (k + 1) = classesL key k ++ [[(k : Int) - 1]] := by
  have hall := placeIx_all key h
  have hf : isFirst key k = true := by
    cases hc : isFirst key k with
    | true => rfl
    | false =>
      exfalso
      -- the least number with this key is a first one
      have : ∀ m, m < k → key m = key k → False := by
        intro m
        induction m using Nat.strongRecOn with
        | ind m ih =>
          intro hm hk
          by_cases hfm : isFirst key m = true
          · refine hall m ?_ hk
            unfold firsts
            rw [List.mem_filter, List.mem_range]
            exact ⟨hm, hfm⟩
          · unfold isFirst at hfm
            rw [List.all_eq_true] at hfm
            apply hfm
            intro i hi
            have hi := List.mem_range.1 hi
            refine decide_eq_true (fun he => ih i hi (by omega) (he.trans hk))
      unfold isFirst at hc
      rw [List.all_eq_false] at hc
      obtain ⟨i, hi, hd⟩ := hc
      exact this i (List.mem_range.1 hi) (by simpa using hd)
  unfold classesL
  rw [firsts_succ, hf]
  simp only [if_true, List.map_append, members_succ, List.map_cons, List.map_nil]
  have h1 : (firsts key k).map (fun f => members key k f ++ (if key k = key f then [(k : Int) - 1] else [])) = (firsts key k).map (members key k) :=
    List.map_congr_left (fun f hf => by rw [if_neg (fun he => hall f hf he.symm), List.append_nil])
  have h2 : members key k k = [] := by
    unfold members
    rw [List.map_eq_nil_iff, List.filter_eq_nil_iff]
    intro j hj
    have := isFirst_ne key hf (List.mem_range.1 hj)
    simpa using this
  rw [(List.map_congr_left (fun f _ => members_succ key k f)).trans h1, h2]
  simp
/-- The first number from i on (n of them) with the key of k. -/
def fstR (k : Nat) : Nat → Nat → Nat
  | 0, i => i
  | n + 1, i => if key i = key k then i else fstR k n (i + 1)
def fstOf (k : Nat) : Nat := fstR key k k 0
theorem fstR_ok (k : Nat) : ∀ (n i : Nat), i + n = k → (∀ j, j < i → key j ≠ key k) → fstR key k n i ≤ k ∧ key (fstR key k n i) = key k ∧ ∀ j, j < fstR key k n i → key j ≠ key k
  | 0, i, h, hj => by
    have : i = k := by omega
    subst this
    exact ⟨Nat.le_refl _, rfl, hj⟩
  | n + 1, i, h, hj => by
    simp only [fstR]
    split
    · rename_i hi
      exact ⟨by omega, hi, hj⟩
    · rename_i hi
      exact fstR_ok k n (i + 1) (by omega) (fun j hj2 => by
        rcases Nat.lt_or_eq_of_le (Nat.le_of_lt_succ hj2) with h3 | h3
        · exact hj j h3
        · rw [h3]; exact hi)
theorem fstOf_iff {f j : Nat} : fstOf key j = f ↔ isFirst key f = true ∧ key j = key f := by
  obtain ⟨h1, h2, h3⟩ := fstR_ok key j j 0 (by omega) (fun _ h => by omega)
  have hF : isFirst key (fstOf key j) = true := by
    unfold isFirst
    rw [List.all_eq_true]
    intro i hi
    exact decide_eq_true (by rw [show key (fstOf key j) = key j from h2]; exact h3 i (List.mem_range.1 hi))
  constructor
  · rintro rfl
    exact ⟨hF, h2.symm⟩
  · rintro ⟨g1, g2⟩
    rcases Nat.lt_trichotomy (fstOf key j) f with h | h | h
    · exact (isFirst_ne key g1 h (by rw [← g2]; exact h2)).elim
    · exact h
    · exact (h3 f h g2.symm).elim
/-- The rows of the numbers with the same first one. -/
def listsOf (n : Nat) : List (List Int) := ((List.range n).map fun f => ((List.range n).filter fun j => decide (fstOf key j = f)).map fun (j : Nat) => (j : Int) - 1).filter fun l => !l.isEmpty
theorem lists_classes (n : Nat) : listsOf key n = classesL key n := by
  unfold listsOf classesL firsts
  rw [List.filter_map]
  have h1 : (List.range n).filter ((fun l : List Int => !l.isEmpty) ∘ fun f => ((List.range n).filter fun j => decide (fstOf key j = f)).map fun (j : Nat) => (j : Int) - 1) = (List.range n).filter (isFirst key) := by
    refine List.filter_congr (fun f hf => ?_)
    simp only [Function.comp]
    rw [Bool.eq_iff_iff]
    simp only [Bool.not_eq_true', List.isEmpty_eq_false_iff, ne_eq, List.map_eq_nil_iff, List.filter_eq_nil_iff, decide_eq_true_eq]
    constructor
    · intro h
      by_cases hc : isFirst key f = true
      · exact hc
      · exact (h (fun j _ hj => hc ((fstOf_iff key).1 hj).1)).elim
    · intro hc h
      exact h f hf ((fstOf_iff key).2 ⟨hc, rfl⟩)
  rw [h1]
  refine List.map_congr_left (fun f hf => ?_)
  have hff := (List.mem_filter.1 hf).2
  unfold members
  congr 1
  refine List.filter_congr (fun j _ => ?_)
  apply decide_eq_decide.2
  rw [fstOf_iff]
  exact ⟨fun h => h.2, fun h => ⟨hff, h⟩⟩
end
end Go.Proofs.Ytgpmbmnfcbippaa.Vs

set_option linter.unusedVariables false
set_option linter.unusedSimpArgs false
namespace Go.Proofs.Ytgpmbmnfcbippaa.Vs
open Go.RowKit
end Go.Proofs.Ytgpmbmnfcbippaa.Vs

set_option linter.unusedVariables false
set_option linter.unusedSimpArgs false
namespace Go.Proofs.Ytgpmbmnfcbippaa.Vs
open Go.RowKit
end Go.Proofs.Ytgpmbmnfcbippaa.Vs

set_option linter.unusedVariables false
set_option linter.unusedSimpArgs false
namespace Go.Proofs.Ytgpmbmnfcbippaa.Vs
open Go.RowKit
/-! ### Cells with a cause -/
end Go.Proofs.Ytgpmbmnfcbippaa.Vs

set_option linter.unusedVariables false
set_option linter.unusedSimpArgs false
namespace Go.Proofs.Ytgpmbmnfcbippaa.Vs
open Go.RowKit
/-! ### The ends in all cases -/
def casesL (b : BoardD) (T : List (List Int)) : List (List (List FallD)) := T.map (endsOf b []) :: (possFrom b.2.1 0 b.2.2).map fun f => T.map (endsOf b [f])
theorem e_spec_tsCases_0 (b : BoardD) (hb : boardOK b = true) (T : List (List Int)) (hT : ∀ t ∈ T, t.length ≤ 1000 ∧ colsOK b t) (hn : T.length ≤ 1000) : ∀ (r pre : List FaultD) (acc : List (List (List FallD))), (∀ f ∈ r, faultsOK b (-1) [f] = true) → (pre ++ r).length ≤ 1000 → acc.length ≤ pre.length + 1 → Ev (fun k => f_spec_tsCases_0 k b.1 b.2.1 b.2.2 acc (pre ++ r) T ((pre ++ r).length : Int) (pre.length : Int)) (acc ++ r.map fun f => T.map (endsOf b [f]))
  | [], pre, acc, hf, hl, ha => by
    refine Ev.succ ?_
    simp only [f_spec_tsCases_0, nlt_end, decide_false, Bool.false_eq_true, if_false]
    exact Ev.of (by simp)
  | f :: r, pre, acc, hf, hl, ha => by
    have ih := e_spec_tsCases_0 b hb T hT hn r (pre ++ [f]) (acc ++ [T.map (endsOf b [f])]) (fun g hg => hf g (List.mem_cons_of_mem _ hg)) (by simpa using hl) (by simp; omega)
    rw [← shift_mid] at ih
    have hal : acc.length + 1 ≤ 140737488355328 / 24 := by simp at hl; omega
    refine Ev.succ ?_
    simp only [f_spec_tsCases_0, lt_mid, ge_mid, decide_true, if_true, Int.toNat_natCast, getD_mid, List.length_singleton, hal]
    rw [next_mid pre f r (by omega)]
    refine Ev.bind (e_spec_tsEnds b hb [f] (hf f (List.mem_cons_self ..)) (by simp) T hT hn) ?_
    refine ih.congr ?_
    simp
theorem e_spec_tsCases (b : BoardD) (hb : boardOK b = true) (T : List (List Int)) (hT : ∀ t ∈ T, t.length ≤ 1000 ∧ colsOK b t) (hn : T.length ≤ 1000) : Ev (fun k => f_spec_tsCases k b T) (casesL b T) := by
  have hp := poss_count hb
  refine Ev.succ ?_
  simp only [f_spec_tsCases]
  refine Ev.bind (e_spec_tsEnds b hb [] rfl (by simp) T hT hn) (Ev.bind (e_spec_faPossible b hb) ?_)
  exact Ev.bind (e_spec_tsCases_0 b hb T hT hn (possFrom b.2.1 0 b.2.2) [] [T.map (endsOf b [])] (fun f hf => poss_one hb hf) (by simp; omega) (by simp)) (Ev.some _)
theorem e_impl_caseEnds_0 (b : BoardD) (hb : boardOK b = true) (T : List (List Int)) (hT : ∀ t ∈ T, t.length ≤ 1000 ∧ colsOK b t) (hn : T.length ≤ 1000) : ∀ (r pre : List FaultD) (acc : List (List (List FallD))), (∀ f ∈ r, faultsOK b (-1) [f] = true) → (pre ++ r).length ≤ 1000 → acc.length ≤ pre.length + 1 → Ev (fun k => f_impl_caseEnds_0 k b.1 b.2.1 b.2.2 acc (pre ++ r) T ((pre ++ r).length : Int) (pre.length : Int)) (acc ++ r.map fun f => T.map (endsOf b [f]))
  | [], pre, acc, hf, hl, ha => by
    refine Ev.succ ?_
    simp only [f_impl_caseEnds_0, nlt_end, decide_false, Bool.false_eq_true, if_false]
    exact Ev.of (by simp)
  | f :: r, pre, acc, hf, hl, ha => by
    have ih := e_impl_caseEnds_0 b hb T hT hn r (pre ++ [f]) (acc ++ [T.map (endsOf b [f])]) (fun g hg => hf g (List.mem_cons_of_mem _ hg)) (by simpa using hl) (by simp; omega)
    rw [← shift_mid] at ih
    have hal : acc.length + 1 ≤ 140737488355328 / 24 := by simp at hl; omega
    refine Ev.succ ?_
    simp only [f_impl_caseEnds_0, lt_mid, ge_mid, decide_true, if_true, Int.toNat_natCast, getD_mid, List.length_singleton, hal]
    rw [next_mid pre f r (by omega)]
    refine Ev.bind (e_impl_testEnds b hb [f] (hf f (List.mem_cons_self ..)) (by simp) T hT hn) ?_
    refine ih.congr ?_
    simp
theorem e_impl_caseEnds (b : BoardD) (hb : boardOK b = true) (T : List (List Int)) (hT : ∀ t ∈ T, t.length ≤ 1000 ∧ colsOK b t) (hn : T.length ≤ 1000) : Ev (fun k => f_impl_caseEnds k b T) (casesL b T) := by
  have hp := poss_count hb
  refine Ev.succ ?_
  simp only [f_impl_caseEnds]
  refine Ev.bind (e_impl_testEnds b hb [] rfl (by simp) T hT hn) (Ev.bind (e_impl_possibleFaults b hb) ?_)
  exact Ev.bind (e_impl_caseEnds_0 b hb T hT hn (possFrom b.2.1 0 b.2.2) [] [T.map (endsOf b [])] (fun f hf => poss_one hb hf) (by simp; omega) (by simp)) (Ev.some _)
/-- A table of rows that are n long, with entries of set lengths. -/
structure Tab (C : List (List (List FallD))) (n : Nat) (L : Nat → Nat) : Prop where
  len : C.length ≤ 1000
  pos : 0 < C.length
  row : ∀ k, k < C.length → (List.getD C k []).length = n
  cell : ∀ k t, k < C.length → t < n → (List.getD (List.getD C k []) t []).length = L t
  small : ∀ t, t < n → L t ≤ 1000
theorem cases_tab {b : BoardD} (hb : boardOK b = true) {T : List (List Int)} (hT : ∀ t ∈ T, t.length ≤ 1000 ∧ colsOK b t) : Tab (casesL b T) T.length (fun t => (List.getD T t []).length) := by
  have hp := poss_count hb
  have hrow : ∀ row ∈ casesL b T, ∃ l, row = T.map (endsOf b l) := by
    intro row hr
    rcases List.mem_cons.1 hr with rfl | hr
    · exact ⟨[], rfl⟩
    · obtain ⟨f, _, rfl⟩ := List.mem_map.1 hr
      exact ⟨[f], rfl⟩
  have get : ∀ k, k < (casesL b T).length → ∃ l, List.getD (casesL b T) k [] = T.map (endsOf b l) := by
    intro k hk
    have : List.getD (casesL b T) k [] ∈ casesL b T := by simp [List.getD, List.getElem?_eq_getElem hk]
    exact hrow _ this
  refine ⟨by simp [casesL]; omega, by simp [casesL], fun k hk => ?_, fun k t hk ht => ?_, fun t ht => ?_⟩
  · obtain ⟨l, hl⟩ := get k hk
    rw [hl, List.length_map]
  · obtain ⟨l, hl⟩ := get k hk
    rw [hl]
    simp only [List.getD, List.getElem?_map, List.getElem?_eq_getElem ht, Option.map_some, Option.getD_some]
    exact endsOf_len _ _ _
  · have : List.getD T t [] ∈ T := by simp [List.getD, List.getElem?_eq_getElem ht]
    exact (hT _ this).1
def cellC (C : List (List (List FallD))) (t k : Nat) : List FallD := List.getD (List.getD C k []) t []
/-- What chosen tests see of case k. -/
def keyC (C : List (List (List FallD))) (ch : List Int) (k : Nat) : List (List FallD) := ch.map fun t => cellC C t.toNat k
theorem keyC_eq {C : List (List (List FallD))} {ch : List Int} {i j : Nat} : keyC C ch i = keyC C ch j ↔ ∀ t ∈ ch, cellC C t.toNat i = cellC C t.toNat j := by
  unfold keyC
  rw [List.map_inj_left]
def chOK (ch : List Int) (n : Nat) : Prop := ∀ t ∈ ch, 0 ≤ t ∧ t < (n : Int)
theorem e_impl_alikeBy_0 {C : List (List (List FallD))} {n : Nat} {L : Nat → Nat} (hC : Tab C n L) (i j : Nat) (hi : i < C.length) (hj : j < C.length) : ∀ (r pre : List Int), chOK r n → (pre ++ r).length ≤ 1000 → Ev (fun k => f_impl_alikeBy_0 k (List.getD C i []) (List.getD C j []) (pre ++ r) ((pre ++ r).length : Int) (pre.length : Int)) (if keyC C r i = keyC C r j then LR.go () else LR.ret false)
  | [], pre, hr, hl => by
    refine Ev.succ ?_
    simp only [f_impl_alikeBy_0, nlt_end, decide_false, Bool.false_eq_true, if_false, keyC, List.map_nil, if_true]
    exact Ev.some _
  | t :: r, pre, hr, hl => by
    obtain ⟨t0, tn⟩ := hr t (List.mem_cons_self ..)
    have ih := e_impl_alikeBy_0 hC i j hi hj r (pre ++ [t]) (fun x hx => hr x (List.mem_cons_of_mem _ hx)) (by simpa using hl)
    have h1 : t < ((List.getD C i []).length : Int) := by rw [hC.row i hi]; exact tn
    have h2 : t < ((List.getD C j []).length : Int) := by rw [hC.row j hj]; exact tn
    have c1 := hC.cell i t.toNat hi (by omega)
    have c3 := hC.small t.toNat (by omega)
    refine Ev.succ ?_
    simp only [f_impl_alikeBy_0, lt_mid, ge_mid, decide_true, if_true, Int.toNat_natCast, getD_mid, t0, h1, h2]
    rw [next_mid pre t r (by omega)]
    rw [← shift_mid] at ih
    refine Ev.bind (e_slices_Equal_impl_Fall_impl_Fall _ _ (by omega)) (Ev.ite (fun h => ?_) (fun h => ?_))
    · have h : ¬ cellC C t.toNat i = cellC C t.toNat j := nd h
      rw [if_neg (fun hh => h (keyC_eq.1 hh t (List.mem_cons_self ..)))]
      exact Ev.some _
    · have h : cellC C t.toNat i = cellC C t.toNat j := yd h
      refine ih.congr ?_
      have hk : keyC C (t :: r) i = keyC C (t :: r) j ↔ keyC C r i = keyC C r j := by simp only [keyC, List.map_cons, h, List.cons.injEq, true_and]
      by_cases h9 : keyC C r i = keyC C r j
      · rw [if_pos h9, if_pos (hk.2 h9)]
      · rw [if_neg h9, if_neg (fun h => h9 (hk.1 h))]
theorem e_impl_alikeBy {C : List (List (List FallD))} {n : Nat} {L : Nat → Nat} (hC : Tab C n L) (i j : Nat) (hi : i < C.length) (hj : j < C.length) (ch : List Int) (hch : chOK ch n) (hl : ch.length ≤ 1000) : Ev (fun k => f_impl_alikeBy k (List.getD C i []) (List.getD C j []) ch) (decide (keyC C ch i = keyC C ch j)) := by
  refine Ev.succ ?_
  simp only [f_impl_alikeBy]
  refine Ev.bind (e_impl_alikeBy_0 hC i j hi hj ch [] hch (by simpa using hl)) ?_
  by_cases h : keyC C ch i = keyC C ch j
  · rw [if_pos h, decide_eq_true h]; exact Ev.go (Ev.some _)
  · rw [if_neg h, decide_eq_false h]; exact Ev.ret (Ev.some _)
/-! ### Marks: the first case with the same ends -/
def markC (C : List (List (List FallD))) (t k : Nat) : Int := (fstOf (cellC C t) k : Int)
theorem e_spec_tsMarks_4 {C : List (List (List FallD))} {n : Nat} {L : Nat → Nat} (hC : Tab C n L) (o2 : List (List Int)) (o3 : List Int) (T : List (List Int)) (i t : Nat) (hi : i < C.length) (ht : t < n) (v16 v17 v23 v24 : Int) : ∀ (d j : Nat), j + d = i →
    Ev (fun k => f_spec_tsMarks_4 k C o2 o3 T (i : Int) (i : Int) (t : Int) (j : Int) v16 v17 v23 v24) (C, o2, o3, T, (i : Int), (i : Int), (fstR (cellC C t) i d j : Int), v16, v17, v23, v24)
  | 0, j, h => by
    obtain rfl : j = i := by omega
    refine Ev.succ ?_
    simp only [f_spec_tsMarks_4, Int.lt_irrefl, decide_false, Bool.false_eq_true, if_false, fstR]
    exact Ev.some _
  | d + 1, j, h => by
    have hcl := hC.len
    have h1 : (j : Int) < i := by omega
    have h2 : (t : Int) < ((List.getD C i []).length : Int) := by rw [hC.row i hi]; omega
    have h3 : (j : Int) < (C.length : Int) := by omega
    have h4 : (t : Int) < ((List.getD C j []).length : Int) := by rw [hC.row j (by omega)]; omega
    have h5 : wrap64 ((j : Int) + 1) = ((j + 1 : Nat) : Int) := by rw [w64 (by omega) (by omega)]; omega
    have c1 := hC.cell i t hi ht
    have c2 := hC.cell j t (by omega) ht
    have c3 := hC.small t ht
    have hn := diffIx_none 0 (cellC C t i) (cellC C t j) (by unfold cellC; omega)
    have ih := e_spec_tsMarks_4 hC o2 o3 T i t hi ht v16 v17 v23 v24 d (j + 1) (by omega)
    refine Ev.succ ?_
    simp only [f_spec_tsMarks_4, h1, h2, h3, h4, h5, decide_true, if_true, Int.natCast_nonneg, Int.toNat_natCast, fstR]
    refine Ev.bind (e_spec_faSame _ _ (by omega) (by omega)) (Ev.ite (fun hh => ?_) (fun hh => ?_))
    · have hne : ¬ cellC C t j = cellC C t i := fun hq => by
        have : ixOf (diffIx 0 (cellC C t i) (cellC C t j)) ≥ 0 := of_decide_eq_true hh
        rw [hn.2 hq.symm] at this
        simp [ixOf] at this
      rw [if_neg hne]
      exact ih
    · have heq : cellC C t j = cellC C t i := by
        have : ixOf (diffIx 0 (cellC C t i) (cellC C t j)) < 0 := by
          have : ¬ ixOf (diffIx 0 (cellC C t i) (cellC C t j)) ≥ 0 := fun hq => hh (decide_eq_true hq)
          omega
        exact (hn.1 ((ix_neg _).1 this)).symm
      rw [if_pos heq]
      exact Ev.some _
def marksRow (C : List (List (List FallD))) (i n : Nat) : List Int := (List.range n).map fun t => markC C t i
theorem marksRow_len (C : List (List (List FallD))) (i n : Nat) : (marksRow C i n).length = n := by simp [marksRow]
theorem marksRow_succ (C : List (List (List FallD))) (i n : Nat) : marksRow C i (n + 1) = marksRow C i n ++ [markC C n i] := by simp [marksRow, List.range_succ]
theorem e_spec_tsMarks_2 {C : List (List (List FallD))} {n : Nat} {L : Nat → Nat} (hC : Tab C n L) (hn : n ≤ 1000) (o2 : List (List Int)) (T : List (List Int)) (i : Nat) (hi : i < C.length) (v16 v17 : Int) : ∀ (d t : Nat), t + d = n →
    Ev (fun k => f_spec_tsMarks_2 k C o2 (marksRow C i t) T (i : Int) (i : Int) v16 v17 (n : Int) (t : Int)) (C, o2, marksRow C i n, T, v16, v17)
  | 0, t, h => by
    obtain rfl : t = n := by omega
    refine Ev.succ ?_
    simp only [f_spec_tsMarks_2, Int.lt_irrefl, decide_false, Bool.false_eq_true, if_false]
    exact Ev.some _
  | d + 1, t, h => by
    have h1 : (t : Int) < n := by omega
    have h5 : wrap64 ((t : Int) + 1) = ((t + 1 : Nat) : Int) := by rw [w64 (by omega) (by omega)]; omega
    have hal : t + 1 ≤ 140737488355328 / 8 := by omega
    have ih := e_spec_tsMarks_2 hC hn o2 T i hi v16 v17 d (t + 1) (by omega)
    refine Ev.succ ?_
    simp only [f_spec_tsMarks_2, h1, decide_true, if_true]
    refine Ev.bind (e_spec_tsMarks_4 hC o2 (marksRow C i t) T i t hi (by omega) v16 v17 (n : Int) (t : Int) i 0 (by omega)) ?_
    simp only [List.length_singleton, marksRow_len, hal, if_true, h5]
    rw [marksRow_succ] at ih
    exact ih
def marksM (C : List (List (List FallD))) (n m : Nat) : List (List Int) := (List.range m).map fun i => marksRow C i n
theorem marksM_len (C : List (List (List FallD))) (n m : Nat) : (marksM C n m).length = m := by simp [marksM]
theorem marksM_succ (C : List (List (List FallD))) (n m : Nat) : marksM C n (m + 1) = marksM C n m ++ [marksRow C m n] := by simp [marksM, List.range_succ]
theorem marksM_get (C : List (List (List FallD))) (n m i : Nat) (hi : i < m) : List.getD (marksM C n m) i [] = marksRow C i n := by simp [marksM, List.getD, List.getElem?_map, List.getElem?_range hi]
theorem marksRow_get (C : List (List (List FallD))) (n i t : Nat) (ht : t < n) : List.getD (marksRow C i n) t 0 = markC C t i := by simp [marksRow, List.getD, List.getElem?_map, List.getElem?_range ht]
theorem e_spec_tsMarks_0 {C : List (List (List FallD))} {n : Nat} {L : Nat → Nat} (hC : Tab C n L) (hn : n ≤ 1000) (T : List (List Int)) (hT : T.length = n) : ∀ (d i : Nat), i + d = C.length →
    Ev (fun k => f_spec_tsMarks_0 k C (marksM C n i) T (C.length : Int) (i : Int)) (marksM C n C.length)
  | 0, i, h => by
    obtain rfl : i = C.length := by omega
    refine Ev.succ ?_
    simp only [f_spec_tsMarks_0, Int.lt_irrefl, decide_false, Bool.false_eq_true, if_false]
    exact Ev.some _
  | d + 1, i, h => by
    have hcl := hC.len
    have h1 : (i : Int) < (C.length : Int) := by omega
    have h5 : wrap64 ((i : Int) + 1) = ((i + 1 : Nat) : Int) := by rw [w64 (by omega) (by omega)]; omega
    have hal : i + 1 ≤ 140737488355328 / 24 := by omega
    have ih := e_spec_tsMarks_0 hC hn T hT d (i + 1) (by omega)
    refine Ev.succ ?_
    simp only [f_spec_tsMarks_0, h1, decide_true, if_true, Int.natCast_nonneg, hT]
    refine Ev.bind (e_spec_tsMarks_2 hC hn (marksM C n i) T i (by omega) (C.length : Int) (i : Int) n 0 (by omega)) ?_
    simp only [List.length_singleton, marksM_len, hal, if_true, h5]
    rw [marksM_succ] at ih
    exact ih
theorem e_spec_tsMarks (b : BoardD) (hb : boardOK b = true) (T : List (List Int)) (hT : ∀ t ∈ T, t.length ≤ 1000 ∧ colsOK b t) (hn : T.length ≤ 1000) : Ev (fun k => f_spec_tsMarks k b T) (marksM (casesL b T) T.length (casesL b T).length) := by
  refine Ev.succ ?_
  simp only [f_spec_tsMarks]
  exact Ev.bind (e_spec_tsCases b hb T hT hn) (Ev.bind (e_spec_tsMarks_0 (cases_tab hb hT) hn T rfl (casesL b T).length 0 (by omega)) (Ev.some _))
theorem mark_eq {C : List (List (List FallD))} {t i j : Nat} : markC C t i = markC C t j ↔ cellC C t i = cellC C t j := by
  unfold markC
  have hi := (fstOf_iff (cellC C t) (f := fstOf (cellC C t) i) (j := i)).1 rfl
  have hj := (fstOf_iff (cellC C t) (f := fstOf (cellC C t) j) (j := j)).1 rfl
  constructor
  · intro h
    have h3 : fstOf (cellC C t) i = fstOf (cellC C t) j := by omega
    rw [hi.2, h3, ← hj.2]
  · intro h
    have h3 : fstOf (cellC C t) i = fstOf (cellC C t) j := (fstOf_iff (cellC C t)).2 ⟨hj.1, h.trans hj.2⟩
    rw [h3]
end Go.Proofs.Ytgpmbmnfcbippaa.Vs

set_option linter.unusedVariables false
set_option linter.unusedSimpArgs false
namespace Go.Proofs.Ytgpmbmnfcbippaa.Vs
open Go.RowKit
/-! ### Classes -/
theorem e_spec_tsClasses_4 {C : List (List (List FallD))} {n : Nat} {L : Nat → Nat} (hC : Tab C n L) (o1 : List Int) (v1 : List Int) (i j : Nat) (hi : i < C.length) (hj : j < C.length) (v12 : List (List Int)) (v13 v14 : Int) : ∀ (r pre : List Int) (same : Bool), chOK r n → (pre ++ r).length ≤ 1000 →
    Ev (fun k => f_spec_tsClasses_4 k o1 (marksM C n C.length) v1 (i : Int) (marksRow C i n) (j : Int) same v12 v13 v14 (pre ++ r) ((pre ++ r).length : Int) (pre.length : Int)) (o1, marksM C n C.length, v1, (i : Int), marksRow C i n, (j : Int), same && decide (keyC C r i = keyC C r j), v12, v13, v14)
  | [], pre, same, hr, hl => by
    refine Ev.succ ?_
    simp only [f_spec_tsClasses_4, nlt_end, decide_false, Bool.false_eq_true, if_false, keyC, List.map_nil, decide_true, Bool.and_true]
    exact Ev.some _
  | t :: r, pre, same, hr, hl => by
    obtain ⟨t0, tn⟩ := hr t (List.mem_cons_self ..)
    have ih := fun s => e_spec_tsClasses_4 hC o1 v1 i j hi hj v12 v13 v14 r (pre ++ [t]) s (fun x hx => hr x (List.mem_cons_of_mem _ hx)) (by simpa using hl)
    simp only [← shift_mid] at ih
    have h1 : t < ((marksRow C i n).length : Int) := by rw [marksRow_len]; exact tn
    have h2 : (j : Int) < ((marksM C n C.length).length : Int) := by rw [marksM_len]; omega
    have h3 : t < ((marksRow C j n).length : Int) := by rw [marksRow_len]; exact tn
    have hg1 := marksRow_get C n i t.toNat (by omega)
    have hg2 := marksRow_get C n j t.toNat (by omega)
    have hm := mark_eq (C := C) (t := t.toNat) (i := i) (j := j)
    have hk : keyC C (t :: r) i = keyC C (t :: r) j ↔ cellC C t.toNat i = cellC C t.toNat j ∧ keyC C r i = keyC C r j := by simp only [keyC, List.map_cons, List.cons.injEq]
    refine Ev.succ ?_
    simp only [f_spec_tsClasses_4, lt_mid, ge_mid, decide_true, if_true, Int.toNat_natCast, getD_mid, t0, h1, h2, marksM_get C n C.length j hj, h3, hg1, hg2]
    rw [next_mid pre t r (by omega)]
    cases same with
    | true =>
      simp only [if_true, Bool.true_and]
      refine (ih _).congr ?_
      simp only [hm, hk, Bool.decide_and]
    | false =>
      simp only [Bool.false_eq_true, if_false, Bool.false_and]
      exact (ih false).congr (by simp)
theorem e_spec_tsClasses_2 {C : List (List (List FallD))} {n : Nat} {L : Nat → Nat} (hC : Tab C n L) (ch : List Int) (hch : chOK ch n) (hl : ch.length ≤ 1000) (o1 : List Int) (i : Nat) (hi : i < C.length) (v12 : List (List Int)) (v13 v14 : Int) : ∀ (d j : Nat), j + d = i →
    Ev (fun k => f_spec_tsClasses_2 k o1 (marksM C n C.length) ch (i : Int) (marksRow C i n) (j : Int) v12 v13 v14) (o1, marksM C n C.length, ch, (fstR (keyC C ch) i d j : Int), v12, v13, v14)
  | 0, j, h => by
    obtain rfl : j = i := by omega
    refine Ev.succ ?_
    simp only [f_spec_tsClasses_2, Int.lt_irrefl, decide_false, Bool.false_eq_true, if_false, fstR]
    exact Ev.some _
  | d + 1, j, h => by
    have hcl := hC.len
    have h1 : (j : Int) < i := by omega
    have h5 : wrap64 ((j : Int) + 1) = ((j + 1 : Nat) : Int) := by rw [w64 (by omega) (by omega)]; omega
    have h8 := e_spec_tsClasses_4 hC o1 ch i j hi (by omega) v12 v13 v14 ch [] true hch (by simpa using hl)
    simp only [List.nil_append, List.length_nil, Int.natCast_zero, Bool.true_and] at h8
    have ih := e_spec_tsClasses_2 hC ch hch hl o1 i hi v12 v13 v14 d (j + 1) (by omega)
    refine Ev.succ ?_
    simp only [f_spec_tsClasses_2, h1, decide_true, if_true]
    refine Ev.bind h8 (Ev.ite (fun hh => ?_) (fun hh => ?_))
    · have hh : keyC C ch i = keyC C ch j := of_decide_eq_true hh
      simp only [fstR]
      rw [if_pos hh.symm]
      exact Ev.some _
    · have hh : ¬ keyC C ch i = keyC C ch j := fun hq => hh (decide_eq_true hq)
      simp only [fstR, h5]
      rw [if_neg (fun hq => hh hq.symm)]
      exact ih
def classI (C : List (List (List FallD))) (ch : List Int) (m : Nat) : List Int := (List.range m).map fun k => (fstOf (keyC C ch) k : Int)
theorem classI_len (C : List (List (List FallD))) (ch : List Int) (m : Nat) : (classI C ch m).length = m := by simp [classI]
theorem classI_succ (C : List (List (List FallD))) (ch : List Int) (m : Nat) : classI C ch (m + 1) = classI C ch m ++ [(fstOf (keyC C ch) m : Int)] := by simp [classI, List.range_succ]
theorem classI_get (C : List (List (List FallD))) (ch : List Int) {m k : Nat} (hk : k < m) : List.getD (classI C ch m) k 0 = (fstOf (keyC C ch) k : Int) := by simp [classI, List.getD, List.getElem?_map, List.getElem?_range hk]
theorem e_spec_tsClasses_0 {C : List (List (List FallD))} {n : Nat} {L : Nat → Nat} (hC : Tab C n L) (ch : List Int) (hch : chOK ch n) (hl : ch.length ≤ 1000) : ∀ (d i : Nat), i + d = C.length →
    Ev (fun k => f_spec_tsClasses_0 k (classI C ch i) (marksM C n C.length) ch (marksM C n C.length) (C.length : Int) (i : Int)) (classI C ch C.length)
  | 0, i, h => by
    obtain rfl : i = C.length := by omega
    refine Ev.succ ?_
    simp only [f_spec_tsClasses_0, Int.lt_irrefl, decide_false, Bool.false_eq_true, if_false]
    exact Ev.some _
  | d + 1, i, h => by
    have hcl := hC.len
    have h1 : (i : Int) < (C.length : Int) := by omega
    have h2 : (i : Int) < ((marksM C n C.length).length : Int) := by rw [marksM_len]; exact h1
    have h5 : wrap64 ((i : Int) + 1) = ((i + 1 : Nat) : Int) := by rw [w64 (by omega) (by omega)]; omega
    have hal : i + 1 ≤ 140737488355328 / 8 := by omega
    have ih := e_spec_tsClasses_0 hC ch hch hl d (i + 1) (by omega)
    rw [classI_succ] at ih
    refine Ev.succ ?_
    simp only [f_spec_tsClasses_0, h1, h2, decide_true, if_true, Int.natCast_nonneg, Int.toNat_natCast, marksM_get C n C.length i (by omega)]
    refine Ev.bind (e_spec_tsClasses_2 hC ch hch hl (classI C ch i) i (by omega) (marksM C n C.length) (C.length : Int) (i : Int) i 0 (by omega)) ?_
    simp only [List.length_singleton, classI_len, hal, if_true, h5]
    exact ih
theorem e_spec_tsClasses {C : List (List (List FallD))} {n : Nat} {L : Nat → Nat} (hC : Tab C n L) (ch : List Int) (hch : chOK ch n) (hl : ch.length ≤ 1000) : Ev (fun k => f_spec_tsClasses k (marksM C n C.length) ch) (classI C ch C.length) := by
  refine Ev.succ ?_
  simp only [f_spec_tsClasses, marksM_len]
  have h8 := e_spec_tsClasses_0 hC ch hch hl C.length 0 (by omega)
  exact Ev.bind h8 (Ev.some _)
def listF (C : List (List (List FallD))) (ch : List Int) (f m : Nat) : List Int := ((List.range m).filter fun j => decide (fstOf (keyC C ch) j = f)).map fun (j : Nat) => (j : Int) - 1
theorem listF_succ (C : List (List (List FallD))) (ch : List Int) (f m : Nat) : listF C ch f (m + 1) = listF C ch f m ++ (if fstOf (keyC C ch) m = f then [(m : Int) - 1] else []) := by
  unfold listF
  rw [List.range_succ, List.filter_append, List.map_append]
  congr 1
  by_cases h : fstOf (keyC C ch) m = f <;> simp [List.filter, h]
theorem listF_len (C : List (List (List FallD))) (ch : List Int) (f m : Nat) : (listF C ch f m).length ≤ m := by
  unfold listF
  rw [List.length_map]
  exact Nat.le_trans (List.length_filter_le _ _) (by simp)
theorem e_spec_tsLists_2 (C : List (List (List FallD))) (ch : List Int) (m : Nat) (hm : m ≤ 1000) (o1 : List (List Int)) (f : Nat) (v9 v10 : Int) : ∀ (d i : Nat), i + d = m →
    Ev (fun k => f_spec_tsLists_2 k o1 (listF C ch f i) (classI C ch m) (f : Int) v9 v10 (classI C ch m) (m : Int) (i : Int)) (o1, listF C ch f m, classI C ch m, v9, v10)
  | 0, i, h => by
    obtain rfl : i = m := by omega
    refine Ev.succ ?_
    simp only [f_spec_tsLists_2, Int.lt_irrefl, decide_false, Bool.false_eq_true, if_false]
    exact Ev.some _
  | d + 1, i, h => by
    have h1 : (i : Int) < (m : Int) := by omega
    have h2 : (i : Int) < ((classI C ch m).length : Int) := by rw [classI_len]; exact h1
    have h5 : wrap64 ((i : Int) + 1) = ((i + 1 : Nat) : Int) := by rw [w64 (by omega) (by omega)]; omega
    have h6 : wrap64 ((i : Int) - 1) = (i : Int) - 1 := by rw [w64 (by omega) (by omega)]
    have hll := listF_len C ch f i
    have hal : (listF C ch f i).length + 1 ≤ 140737488355328 / 8 := by omega
    have ih := e_spec_tsLists_2 C ch m hm o1 f v9 v10 d (i + 1) (by omega)
    rw [listF_succ] at ih
    refine Ev.succ ?_
    simp only [f_spec_tsLists_2, h1, h2, decide_true, if_true, Int.natCast_nonneg, Int.toNat_natCast, classI_get C ch (show i < m by omega), List.length_singleton, hal, h5, h6]
    refine Ev.ite (fun hh => ?_) (fun hh => ?_)
    · have hh : ((fstOf (keyC C ch) i : Nat) : Int) = f := of_decide_eq_true hh
      rw [if_pos (by omega)] at ih
      exact ih
    · have hh : ¬ ((fstOf (keyC C ch) i : Nat) : Int) = f := fun hq => hh (decide_eq_true hq)
      rw [if_neg (by omega), List.append_nil] at ih
      exact ih
def listsP (C : List (List (List FallD))) (ch : List Int) (m i : Nat) : List (List Int) := ((List.range i).map fun f => listF C ch f m).filter fun l => !l.isEmpty
theorem listsP_succ (C : List (List (List FallD))) (ch : List Int) (m i : Nat) : listsP C ch m (i + 1) = listsP C ch m i ++ (if (listF C ch i m).length > 0 then [listF C ch i m] else []) := by
  unfold listsP
  rw [List.range_succ, List.map_append, List.filter_append]
  congr 1
  cases h : listF C ch i m with
  | nil => simp [h]
  | cons x r => simp [h]
theorem listsP_len (C : List (List (List FallD))) (ch : List Int) (m i : Nat) : (listsP C ch m i).length ≤ i :=
  Nat.le_trans (List.length_filter_le _ _) (by simp)
theorem e_spec_tsLists_0 (C : List (List (List FallD))) (ch : List Int) (m : Nat) (hm : m ≤ 1000) : ∀ (d i : Nat), i + d = m →
    Ev (fun k => f_spec_tsLists_0 k (listsP C ch m i) (classI C ch m) (m : Int) (i : Int)) (listsP C ch m m)
  | 0, i, h => by
    obtain rfl : i = m := by omega
    refine Ev.succ ?_
    simp only [f_spec_tsLists_0, Int.lt_irrefl, decide_false, Bool.false_eq_true, if_false]
    exact Ev.some _
  | d + 1, i, h => by
    have h1 : (i : Int) < (m : Int) := by omega
    have h5 : wrap64 ((i : Int) + 1) = ((i + 1 : Nat) : Int) := by rw [w64 (by omega) (by omega)]; omega
    have hll := listsP_len C ch m i
    have hal : (listsP C ch m i).length + 1 ≤ 140737488355328 / 24 := by omega
    have ih := e_spec_tsLists_0 C ch m hm d (i + 1) (by omega)
    rw [listsP_succ] at ih
    have h8 := e_spec_tsLists_2 C ch m hm (listsP C ch m i) i (m : Int) (i : Int) m 0 (by omega)
    rw [show listF C ch i 0 = [] from rfl] at h8
    refine Ev.succ ?_
    simp only [f_spec_tsLists_0, h1, decide_true, if_true, classI_len]
    refine Ev.bind h8 ?_
    simp only [List.length_singleton, hal, if_true, h5]
    refine Ev.ite (fun hh => ?_) (fun hh => ?_)
    · have hh : ((listF C ch i m).length : Int) > 0 := of_decide_eq_true hh
      rw [if_pos (by omega)] at ih
      exact ih
    · have hh : ¬ ((listF C ch i m).length : Int) > 0 := fun hq => hh (decide_eq_true hq)
      rw [if_neg (by omega), List.append_nil] at ih
      exact ih
theorem e_spec_tsLists (C : List (List (List FallD))) (ch : List Int) (m : Nat) (hm : m ≤ 1000) : Ev (fun k => f_spec_tsLists k (classI C ch m)) (classesL (keyC C ch) m) := by
  have h0 : listsP C ch m m = classesL (keyC C ch) m := lists_classes (keyC C ch) m
  have h8 := e_spec_tsLists_0 C ch m hm m 0 (by omega)
  rw [h0] at h8
  refine Ev.succ ?_
  simp only [f_spec_tsLists, classI_len]
  exact Ev.bind h8 (Ev.some _)
theorem members_len {α : Type} [DecidableEq α] (key : Nat → α) (n f : Nat) : (members key n f).length ≤ n := by
  unfold members
  rw [List.length_map]
  exact Nat.le_trans (List.length_filter_le _ _) (by simp)
theorem classesL_len {α : Type} [DecidableEq α] (key : Nat → α) (n : Nat) : (classesL key n).length ≤ n := by
  unfold classesL firsts
  rw [List.length_map]
  exact Nat.le_trans (List.length_filter_le _ _) (by simp)
theorem classesL_mem {α : Type} [DecidableEq α] (key : Nat → α) (n : Nat) : ∀ x ∈ classesL key n, x.length ≤ n := by
  intro x hx
  obtain ⟨f, _, rfl⟩ := List.mem_map.1 hx
  exact members_len key n f
theorem e_impl_classesBy_2 {C : List (List (List FallD))} {n : Nat} {L : Nat → Nat} (hC : Tab C n L) (ch : List Int) (hch : chOK ch n) (hl : ch.length ≤ 1000) (i : Nat) (hi : i < C.length) (v10 v11 : Int) : ∀ (F pre : List Nat), firsts (keyC C ch) i = pre ++ F →
    Ev (fun k => f_impl_classesBy_2 k (classesL (keyC C ch) i) C ch (i : Int) (pre.length : Int) v10 v11) (classesL (keyC C ch) i, C, ch, (i : Int), ((pre.length + placeIx (keyC C ch) (keyC C ch i) F : Nat) : Int), v10, v11)
  | [], pre, h => by
    have hlen : (classesL (keyC C ch) i).length = pre.length := by unfold classesL; rw [List.length_map, h]; simp
    refine Ev.succ ?_
    simp only [f_impl_classesBy_2, hlen, Int.lt_irrefl, decide_false, Bool.false_eq_true, if_false, placeIx]
    exact Ev.some _
  | f :: F, pre, h => by
    have hcl := hC.len
    have hf : f ∈ firsts (keyC C ch) i := by rw [h]; simp
    obtain ⟨hfi, _⟩ := firsts_lt (keyC C ch) hf
    obtain ⟨r, hr⟩ := first_head (keyC C ch) hf
    have hlen : (classesL (keyC C ch) i).length = pre.length + (F.length + 1) := by unfold classesL; rw [List.length_map, h]; simp
    have hfl : (firsts (keyC C ch) i).length ≤ i := by unfold firsts; exact Nat.le_trans (List.length_filter_le _ _) (by simp)
    have hpl : pre.length ≤ i := by rw [h] at hfl; simp at hfl; omega
    have h1 : (pre.length : Int) < ((classesL (keyC C ch) i).length : Int) := by omega
    have hg : List.getD (classesL (keyC C ch) i) pre.length [] = ((f : Int) - 1) :: r := by
      unfold classesL
      rw [h]
      simp [List.getD, List.getElem?_map, hr]
    have h5 : wrap64 ((pre.length : Int) + 1) = (((pre ++ [f]).length : Nat) : Int) := by rw [w64 (by omega) (by omega)]; simp
    have h6 : wrap64 ((f : Int) - 1 + 1) = (f : Int) := by rw [w64 (by omega) (by omega)]; omega
    have h7 : (0 : Int) < ((((f : Int) - 1) :: r).length : Int) := by simp
    have h8 : (f : Int) < (C.length : Int) := by omega
    have h9 : (i : Int) < (C.length : Int) := by omega
    have ih := e_impl_classesBy_2 hC ch hch hl i hi v10 v11 F (pre ++ [f]) (by rw [h]; simp)
    refine Ev.succ ?_
    simp only [f_impl_classesBy_2, h1, decide_true, if_true, Int.natCast_nonneg, Int.toNat_natCast, hg, h7, Int.toNat_zero, List.getD_cons_zero, h6, h8, h9, h5]
    refine Ev.bind (e_impl_alikeBy hC f i (by omega) hi ch hch hl) (Ev.ite (fun hh => ?_) (fun hh => ?_))
    · have hh : ¬ keyC C ch f = keyC C ch i := nd hh
      refine ih.congr ?_
      simp only [placeIx, if_neg hh, List.length_append, List.length_singleton]
      congr 5
      omega
    · have hh : keyC C ch f = keyC C ch i := yd hh
      simp only [placeIx, if_pos hh, Nat.add_zero]
      exact Ev.some _
theorem e_impl_classesBy_0 {C : List (List (List FallD))} {n : Nat} {L : Nat → Nat} (hC : Tab C n L) (ch : List Int) (hch : chOK ch n) (hl : ch.length ≤ 1000) : ∀ (d i : Nat), i + d = C.length →
    Ev (fun k => f_impl_classesBy_0 k (classesL (keyC C ch) i) C ch (C.length : Int) (i : Int)) (classesL (keyC C ch) C.length)
  | 0, i, h => by
    obtain rfl : i = C.length := by omega
    refine Ev.succ ?_
    simp only [f_impl_classesBy_0, Int.lt_irrefl, decide_false, Bool.false_eq_true, if_false]
    exact Ev.some _
  | d + 1, i, h => by
    have hcl := hC.len
    have h1 : (i : Int) < (C.length : Int) := by omega
    have h5 : wrap64 ((i : Int) + 1) = ((i + 1 : Nat) : Int) := by rw [w64 (by omega) (by omega)]; omega
    have h6 : wrap64 ((i : Int) - 1) = (i : Int) - 1 := by rw [w64 (by omega) (by omega)]
    have hlen : (classesL (keyC C ch) i).length = (firsts (keyC C ch) i).length := by unfold classesL; rw [List.length_map]
    have hle := classesL_len (keyC C ch) i
    have hpl := placeIx_le (keyC C ch) (keyC C ch i) (firsts (keyC C ch) i)
    have ih := e_impl_classesBy_0 hC ch hch hl d (i + 1) (by omega)
    have h8 := e_impl_classesBy_2 hC ch hch hl i (by omega) (C.length : Int) (i : Int) (firsts (keyC C ch) i) [] rfl
    simp only [List.length_nil, Int.natCast_zero, Nat.zero_add] at h8
    refine Ev.succ ?_
    simp only [f_impl_classesBy_0, h1, decide_true, if_true]
    refine Ev.bind h8 ?_
    simp only [h5, h6, Int.natCast_nonneg, if_true, Int.toNat_natCast]
    refine Ev.ite (fun hh => ?_) (fun hh => ?_)
    · have hh : ((placeIx (keyC C ch) (keyC C ch i) (firsts (keyC C ch) i) : Nat) : Int) = ((classesL (keyC C ch) i).length : Int) := of_decide_eq_true hh
      have hp : placeIx (keyC C ch) (keyC C ch i) (firsts (keyC C ch) i) = (firsts (keyC C ch) i).length := by omega
      have hnew := classes_new (keyC C ch) hp
      have hp2 : placeIx (keyC C ch) (keyC C ch i) (firsts (keyC C ch) i) = (classesL (keyC C ch) i).length := by omega
      have g1 : (classesL (keyC C ch) i).length + 1 ≤ 140737488355328 / 24 := by omega
      have g2 : (((classesL (keyC C ch) i).length : Nat) : Int) < (((classesL (keyC C ch) i) ++ [[]]).length : Int) := by simp; omega
      have g3 : List.getD (classesL (keyC C ch) i ++ [[]]) (classesL (keyC C ch) i).length [] = [] := getD_mid _ _ _ _
      have g4 : ([] : List Int).length + [(i : Int) - 1].length ≤ 140737488355328 / 8 := by simp
      have g5 : List.set (classesL (keyC C ch) i ++ [[]]) (classesL (keyC C ch) i).length ([] ++ [(i : Int) - 1]) = classesL (keyC C ch) (i + 1) := by rw [set_mid, hnew]; rfl
      simp only [hp2, g1, g2, g3, g4, g5, if_true]
      exact ih
    · have hh : ¬ ((placeIx (keyC C ch) (keyC C ch i) (firsts (keyC C ch) i) : Nat) : Int) = ((classesL (keyC C ch) i).length : Int) := fun hq => hh (decide_eq_true hq)
      have hp : placeIx (keyC C ch) (keyC C ch i) (firsts (keyC C ch) i) < (firsts (keyC C ch) i).length := by omega
      have hold := classes_old (keyC C ch) hp
      have g2 : ((placeIx (keyC C ch) (keyC C ch i) (firsts (keyC C ch) i) : Nat) : Int) < ((classesL (keyC C ch) i).length : Int) := by omega
      have hm : (List.getD (classesL (keyC C ch) i) (placeIx (keyC C ch) (keyC C ch i) (firsts (keyC C ch) i)) []).length ≤ i := by
        have : List.getD (classesL (keyC C ch) i) (placeIx (keyC C ch) (keyC C ch i) (firsts (keyC C ch) i)) [] ∈ classesL (keyC C ch) i := by simp [List.getD, List.getElem?_eq_getElem (show placeIx (keyC C ch) (keyC C ch i) (firsts (keyC C ch) i) < (classesL (keyC C ch) i).length by omega)]
        exact classesL_mem _ _ _ this
      have g4 : (List.getD (classesL (keyC C ch) i) (placeIx (keyC C ch) (keyC C ch i) (firsts (keyC C ch) i)) []).length + [(i : Int) - 1].length ≤ 140737488355328 / 8 := by rw [List.length_singleton]; omega
      simp only [g2, g4, ← hold, if_true]
      exact ih
theorem e_impl_classesBy {C : List (List (List FallD))} {n : Nat} {L : Nat → Nat} (hC : Tab C n L) (ch : List Int) (hch : chOK ch n) (hl : ch.length ≤ 1000) : Ev (fun k => f_impl_classesBy k C ch) (classesL (keyC C ch) C.length) := by
  refine Ev.succ ?_
  simp only [f_impl_classesBy]
  have h8 := e_impl_classesBy_0 hC ch hch hl C.length 0 (by omega)
  exact Ev.bind h8 (Ev.some _)
/-! ### Cases with given ends -/
end Go.Proofs.Ytgpmbmnfcbippaa.Vs

set_option linter.unusedVariables false
set_option linter.unusedSimpArgs false
namespace Go.Proofs.Ytgpmbmnfcbippaa.Vs
open Go.RowKit
def mostL : List (List Int) → Int → Int
  | [], v => v
  | x :: r, v => mostL r (if (x.length : Int) > v then (x.length : Int) else v)
def bfR (f : Nat → Int) : Nat → Nat → Int → Int → Int × Int
  | 0, _, b, l => (b, l)
  | d + 1, i, b, l => if l < 0 then bfR f d (i + 1) (i : Int) (f i) else if f i < l then bfR f d (i + 1) (i : Int) (f i) else bfR f d (i + 1) b l
theorem most_eq (v n : Int) : (if v > n then v else n) = if n > v then n else v := by
  split <;> split <;> omega
theorem e_spec_tsLongest_0 : ∀ (r pre : List (List Int)) (v : Int), (pre ++ r).length ≤ 1000000 → Ev (fun k => f_spec_tsLongest_0 k (pre ++ r) v ((pre ++ r).length : Int) (pre.length : Int)) (mostL r v)
  | [], pre, v, hl => by
    refine Ev.succ ?_
    simp only [f_spec_tsLongest_0, nlt_end, decide_false, Bool.false_eq_true, if_false, mostL]
    exact Ev.some _
  | x :: r, pre, v, hl => by
    have ih := e_spec_tsLongest_0 r (pre ++ [x]) (if (x.length : Int) > v then (x.length : Int) else v) (by simpa using hl)
    refine Ev.succ ?_
    simp only [f_spec_tsLongest_0, lt_mid, ge_mid, decide_true, if_true, Int.toNat_natCast, getD_mid]
    rw [next_mid pre x r (by omega)]
    rw [← shift_mid] at ih
    have hm : Ev (fun k => f_spec_l1Most k v (x.length : Int)) (if (x.length : Int) > v then (x.length : Int) else v) := by
      refine Ev.succ ?_
      simp only [f_spec_l1Most, decide_eq_true_eq]
      rw [← most_eq]
      refine Ev.ite (fun h => ?_) (fun h => ?_)
      · rw [if_pos h]; exact Ev.some _
      · rw [if_neg h]; exact Ev.some _
    refine Ev.bind hm ?_
    simp only [mostL]
    exact ih
theorem one_ok {n i : Nat} (hi : i < n) : chOK [(i : Int)] n := fun t ht => by
  simp only [List.mem_singleton] at ht; omega
def longF (C : List (List (List FallD))) (t : Nat) : Int := mostL (classesL (keyC C [(t : Int)]) C.length) 0
theorem e_spec_tsLongest {C : List (List (List FallD))} {n : Nat} {L : Nat → Nat} (hC : Tab C n L) (t : Nat) (ht : t < n) : Ev (fun k => f_spec_tsLongest k (marksM C n C.length) (t : Int)) (longF C t) := by
  refine Ev.succ ?_
  simp only [f_spec_tsLongest]
  refine Ev.bind (e_spec_tsClasses hC [(t : Int)] (one_ok ht) (by simp)) (Ev.bind (e_spec_tsLists _ _ _ hC.len) ?_)
  have h1 := classesL_len (keyC C [(t : Int)]) C.length
  have h2 := hC.len
  exact Ev.bind (e_spec_tsLongest_0 (classesL (keyC C [(t : Int)]) C.length) [] 0 (by simp; omega)) (Ev.some _)
theorem e_spec_BestFirstTest_0 {C : List (List (List FallD))} {n : Nat} {L : Nat → Nat} (hC : Tab C n L) (hn : n ≤ 1000) : ∀ (d i : Nat) (b l : Int), i + d = n → Ev (fun k => f_spec_BestFirstTest_0 k (marksM C n C.length) b l (n : Int) (i : Int)) (bfR (longF C) d i b l)
  | 0, i, b, l, h => by
    have hi : ¬ ((i : Int) < (n : Int)) := by omega
    refine Ev.succ ?_
    simp only [f_spec_BestFirstTest_0, hi, decide_false, Bool.false_eq_true, if_false, bfR]
    exact Ev.some _
  | d + 1, i, b, l, h => by
    have hi : (i : Int) < (n : Int) := by omega
    have hw : wrap64 ((i : Int) + 1) = ((i + 1 : Nat) : Int) := by rw [w64 (by omega) (by omega)]; omega
    refine Ev.succ ?_
    simp only [f_spec_BestFirstTest_0, hi, decide_true, if_true, bfR, hw]
    refine Ev.bind (e_spec_tsLongest hC i (by omega)) ?_
    refine Ev.ite (fun h1 => ?_) (fun h1 => ?_)
    · simp only [decide_eq_true_eq] at h1; rw [if_pos h1]; exact e_spec_BestFirstTest_0 hC hn d (i + 1) _ _ (by omega)
    · simp only [decide_eq_true_eq] at h1; rw [if_neg h1]
      refine Ev.ite (fun h2 => ?_) (fun h2 => ?_)
      · simp only [decide_eq_true_eq] at h2; rw [if_pos h2]; exact e_spec_BestFirstTest_0 hC hn d (i + 1) _ _ (by omega)
      · simp only [decide_eq_true_eq] at h2; rw [if_neg h2]; exact e_spec_BestFirstTest_0 hC hn d (i + 1) _ _ (by omega)
theorem e_impl_BestFirstTest_2 (C : List (List (List FallD))) (a b t n i : Int) : ∀ (r pre : List (List Int)) (v : Int), (pre ++ r).length ≤ 1000000 → Ev (fun k => f_impl_BestFirstTest_2 k C (pre ++ r) a b t v n i ((pre ++ r).length : Int) (pre.length : Int)) (C, a, b, t, mostL r v, n, i)
  | [], pre, v, hl => by
    refine Ev.succ ?_
    simp only [f_impl_BestFirstTest_2, nlt_end, decide_false, Bool.false_eq_true, if_false, mostL]
    exact Ev.some _
  | x :: r, pre, v, hl => by
    have ih := e_impl_BestFirstTest_2 C a b t n i r (pre ++ [x]) (if (x.length : Int) > v then (x.length : Int) else v) (by simpa using hl)
    refine Ev.succ ?_
    simp only [f_impl_BestFirstTest_2, lt_mid, ge_mid, decide_true, if_true, Int.toNat_natCast, getD_mid]
    rw [next_mid pre x r (by omega)]
    rw [← shift_mid] at ih
    simp only [mostL]
    exact ih
theorem e_impl_BestFirstTest_0 {C : List (List (List FallD))} {n : Nat} {L : Nat → Nat} (hC : Tab C n L) (hn : n ≤ 1000) : ∀ (d i : Nat) (b l : Int), i + d = n → Ev (fun k => f_impl_BestFirstTest_0 k C b l (n : Int) (i : Int)) (bfR (longF C) d i b l)
  | 0, i, b, l, h => by
    have hi : ¬ ((i : Int) < (n : Int)) := by omega
    refine Ev.succ ?_
    simp only [f_impl_BestFirstTest_0, hi, decide_false, Bool.false_eq_true, if_false, bfR]
    exact Ev.some _
  | d + 1, i, b, l, h => by
    have hi : (i : Int) < (n : Int) := by omega
    have hw : wrap64 ((i : Int) + 1) = ((i + 1 : Nat) : Int) := by rw [w64 (by omega) (by omega)]; omega
    refine Ev.succ ?_
    simp only [f_impl_BestFirstTest_0, hi, decide_true, if_true, bfR]
    refine Ev.bind (e_impl_classesBy hC [(i : Int)] (one_ok (by omega)) (by simp)) ?_
    have h1 := classesL_len (keyC C [(i : Int)]) C.length
    have h2 := hC.len
    refine Ev.bind (e_impl_BestFirstTest_2 C b l (i : Int) (n : Int) (i : Int) (classesL (keyC C [(i : Int)]) C.length) [] 0 (by simp; omega)) ?_
    dsimp only
    rw [hw]
    refine Ev.ite (fun h1 => ?_) (fun h1 => ?_)
    · simp only [decide_eq_true_eq] at h1; rw [if_pos h1]; exact e_impl_BestFirstTest_0 hC hn d (i + 1) _ _ (by omega)
    · simp only [decide_eq_true_eq] at h1; rw [if_neg h1]
      refine Ev.ite (fun h2 => ?_) (fun h2 => ?_)
      · simp only [decide_eq_true_eq] at h2; rw [if_pos (show longF C i < l from h2)]; exact e_impl_BestFirstTest_0 hC hn d (i + 1) _ _ (by omega)
      · simp only [decide_eq_true_eq] at h2; rw [if_neg (show ¬ longF C i < l from h2)]; exact e_impl_BestFirstTest_0 hC hn d (i + 1) _ _ (by omega)
def r_BestFirstTest (b : BoardD) (T : List (List Int)) : Int × Int × Bool := if (smallB b && testsOK b T) then (if (T.length : Int) = 0 then (0, 0, false) else ((bfR (longF (casesL b T)) T.length 0 0 (-1)).1, (bfR (longF (casesL b T)) T.length 0 0 (-1)).2, true)) else (0, 0, false)
theorem e_spec_BestFirstTest (b : BoardD) (T : List (List Int)) (h0 : b.2.2.length ≤ 9223372036854775806) (h1 : T.length ≤ 9223372036854775806) (hx : ∀ x ∈ T, x.length ≤ 9223372036854775806) : Ev (fun k => f_spec_BestFirstTest k b T) (r_BestFirstTest b T) := by
  refine Ev.succ ?_
  simp only [f_spec_BestFirstTest]
  unfold r_BestFirstTest
  refine Ev.bind (a := (smallB b && testsOK b T)) (e_spec_tsAsked b T h0 h1 hx) ?_
  cases g0 : (smallB b && testsOK b T) with
  | false => simp only [Bool.not_false, if_true, Bool.false_eq_true, if_false, Bool.false_and, Bool.and_false]; exact Ev.some _
  | true =>
    simp only [Bool.not_true, Bool.false_eq_true, if_false, if_true, Bool.and_self]
    obtain ⟨hb, hn, hT⟩ := tests_ok g0
    have hT1 : ∀ t ∈ T, t.length ≤ 1000 ∧ colsOK b t := fun t ht => ⟨by have := (hT t ht).1; omega, (hT t ht).2⟩
    have hC := cases_tab hb hT1
    refine Ev.ite (fun h => ?_) (fun h => ?_)
    · simp only [decide_eq_true_eq] at h; rw [if_pos h]; exact Ev.some _
    · simp only [decide_eq_true_eq] at h; rw [if_neg h]
      exact Ev.bind (e_spec_tsMarks b hb T hT1 (by omega)) (Ev.bind (e_spec_BestFirstTest_0 hC (by omega) T.length 0 0 (-1) (by omega)) (Ev.some _))
theorem e_impl_BestFirstTest (b : BoardD) (T : List (List Int)) (h0 : b.2.2.length ≤ 9223372036854775806) (h1 : T.length ≤ 9223372036854775806) (hx : ∀ x ∈ T, x.length ≤ 9223372036854775806) : Ev (fun k => f_impl_BestFirstTest k b T) (r_BestFirstTest b T) := by
  refine Ev.succ ?_
  simp only [f_impl_BestFirstTest]
  unfold r_BestFirstTest
  refine Ev.bind (a := (smallB b && testsOK b T)) (e_impl_areTests b T h0 h1 hx) ?_
  cases g0 : (smallB b && testsOK b T) with
  | false => simp only [Bool.not_false, if_true, Bool.false_eq_true, if_false, Bool.false_and, Bool.and_false]; exact Ev.some _
  | true =>
    simp only [Bool.not_true, Bool.false_eq_true, if_false, if_true, Bool.and_self]
    obtain ⟨hb, hn, hT⟩ := tests_ok g0
    have hT1 : ∀ t ∈ T, t.length ≤ 1000 ∧ colsOK b t := fun t ht => ⟨by have := (hT t ht).1; omega, (hT t ht).2⟩
    have hC := cases_tab hb hT1
    refine Ev.ite (fun h => ?_) (fun h => ?_)
    · simp only [decide_eq_true_eq] at h; rw [if_pos h]; exact Ev.some _
    · simp only [decide_eq_true_eq] at h; rw [if_neg h]
      exact Ev.bind (e_impl_caseEnds b hb T hT1 (by omega)) (Ev.bind (e_impl_BestFirstTest_0 hC (by omega) T.length 0 0 (-1) (by omega)) (Ev.some _))
theorem law_FnExactBestFirstTest (p0 : BoardD) (p1 : List (List Int)) (h0 : p0.2.2.length ≤ 9223372036854775807) (h1 : p1.length ≤ 9223372036854775807) (g1 : ∀ x ∈ p1, x.length ≤ 9223372036854775807) : Ev (fun k => f_laws_FnExactBestFirstTest k p0 p1) true := by
  refine Ev.succ ?_
  simp only [f_laws_FnExactBestFirstTest]
  refine Ev.bind (e_laws_szBoard _ _ (by first | omega | (dsimp only; omega)) (by first | omega | (dsimp only; omega)) (by first | omega | (dsimp only; omega))) ?_
  by_cases q1 : (1048576 : Int) - (p0.2.2.length : Int) < 0
  · simp only [q1, if_true]; exact Ev.some _
  simp only [q1, if_false, decide_false, Bool.false_eq_true]
  refine Ev.bind (e_laws_szIntSS _ _ (by omega) (by omega) (by omega) g1) ?_
  by_cases q2 : (1048576 : Int) - (p0.2.2.length : Int) - (p1.length : Int) < 0
  · simp only [q2, if_true]; exact Ev.some _
  simp only [q2, if_false]
  by_cases r2 : (1048576 : Int) - (p0.2.2.length : Int) - (p1.length : Int) - szRows p1 < 0
  · simp only [r2, if_true]; exact Ev.some _
  simp only [r2, if_false, decide_false, Bool.false_eq_true]
  have y1 := szRows_nonneg p1
  have u1 : ∀ x ∈ p1, x.length ≤ 1048576 := fun x hx => by have := szRows_mem hx; omega
  have v1 : ∀ x ∈ p1, x.length ≤ 9223372036854775806 := fun x hxl => by have := u1 x hxl; omega
  have es := e_spec_BestFirstTest p0 p1 (by omega) (by omega) (by assumption)
  have ei := e_impl_BestFirstTest p0 p1 (by omega) (by omega) (by assumption)
  generalize r_BestFirstTest p0 p1 = R at es ei
  refine Ev.bind (e_laws_toBoard _ (by first | omega | (dsimp only; omega))) ?_
  refine Ev.bind (e_laws_toIntSS _ (by first | omega | (dsimp only; omega)) (by assumption)) ?_
  refine Ev.bind es ?_
  refine Ev.bind (e_laws_toBoard _ (by first | omega | (dsimp only; omega))) ?_
  refine Ev.bind (e_laws_toIntSS _ (by first | omega | (dsimp only; omega)) (by assumption)) ?_
  refine Ev.bind ei ?_
  simp only [decide_true, beq_self_eq_true, ne_eq, not_true_eq_false, decide_false, Bool.not_true, Bool.false_eq_true, if_false]
  refine Ev.bind (e_laws_toBoard _ (by first | omega | (dsimp only; omega))) ?_
  refine Ev.bind (e_laws_eqBoard _ _ (by first | omega | (dsimp only; omega))) ?_
  simp only [decide_true, beq_self_eq_true, ne_eq, not_true_eq_false, decide_false, Bool.not_true, Bool.false_eq_true, if_false]
  refine Ev.bind (e_laws_toIntSS _ (by first | omega | (dsimp only; omega)) (by assumption)) ?_
  refine Ev.bind (e_laws_eqIntSS _ _ (by first | omega | (dsimp only; omega)) (by assumption)) ?_
  simp only [decide_true, beq_self_eq_true, ne_eq, not_true_eq_false, decide_false, Bool.not_true, Bool.false_eq_true, if_false]
  exact Ev.some _
end Go.Proofs.Ytgpmbmnfcbippaa.Vs
