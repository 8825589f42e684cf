/- Laws on pairs of causes, on suspect and on sound cells. -/
import Derived.Test.YtgpmbmnfcbippaaqsuaVsDp
import Derived.Test.YtgpmbmnfcbippaaqsuaVsPt
import Derived.Test.YtgpmbmnfcbippaaqsuaVsIM
set_option linter.unusedVariables false
set_option linter.unusedSimpArgs false
namespace Go.Proofs.Ytgpmbmnfcbippaa.Vs
open Go.RowKit
def r_PairCauses (b : BoardD) (t : List Int) (s : List FallD) : List (List Int) × Bool := if seenOK b t s then (pairsOf b t s, true) else ([], false)
theorem e_spec_PairCauses (b : BoardD) (t : List Int) (s : List FallD) (h0 : b.2.2.length ≤ 9223372036854775806) (h2 : t.length ≤ 9223372036854775806) (h3 : s.length ≤ 9223372036854775806) : Ev (fun k => f_spec_PairCauses k b t s) (r_PairCauses b t s) := by
  refine Ev.succ ?_
  simp only [f_spec_PairCauses]
  unfold r_PairCauses
  refine Ev.bind (a := seenOK b t s) (e_spec_dgGood b t s h0 h2 h3) ?_
  cases g0 : seenOK b t s with
  | false => simp only [Bool.not_false, if_true, Bool.false_eq_true, if_false, Bool.false_and, Bool.and_false]; exact Ev.some _
  | true =>
    simp only [Bool.not_true, Bool.false_eq_true, if_false, if_true, Bool.and_self]
    obtain ⟨hb, h24, ht, hc, hs⟩ := seen_ok g0
    exact Ev.bind (e_spec_dgPairs b hb t (by omega) hc s hs) (Ev.some _)
theorem e_impl_PairCauses (b : BoardD) (t : List Int) (s : List FallD) (h0 : b.2.2.length ≤ 9223372036854775806) (h2 : t.length ≤ 9223372036854775806) (h3 : s.length ≤ 9223372036854775806) : Ev (fun k => f_impl_PairCauses k b t s) (r_PairCauses b t s) := by
  refine Ev.succ ?_
  simp only [f_impl_PairCauses]
  unfold r_PairCauses
  refine Ev.bind (a := seenOK b t s) (e_impl_isSeen b t s h0 h2 h3) ?_
  cases g0 : seenOK b t s with
  | false => simp only [Bool.not_false, if_true, Bool.false_eq_true, if_false, Bool.false_and, Bool.and_false]; exact Ev.some _
  | true =>
    simp only [Bool.not_true, Bool.false_eq_true, if_false, if_true, Bool.and_self]
    obtain ⟨hb, h24, ht, hc, hs⟩ := seen_ok g0
    exact Ev.bind (e_impl_pairCauses b hb t (by omega) hc s hs) (Ev.some _)
theorem pairsRow_two (b : BoardD) (t : List Int) (s : List FallD) (f : FaultD) (i : Nat) : ∀ (r : List FaultD) (j : Nat), ∀ x ∈ pairsRow b t s f i j r, x.length = 2
  | [], _, x, hx => by simp [pairsRow] at hx
  | g :: r, j, x, hx => by
    simp only [pairsRow] at hx
    split at hx
    · rcases List.mem_cons.1 hx with rfl | hx
      · rfl
      · exact pairsRow_two b t s f i r (j + 1) x hx
    · exact pairsRow_two b t s f i r (j + 1) x hx
theorem pairsAll_two (b : BoardD) (t : List Int) (s : List FallD) : ∀ (r : List FaultD) (i : Nat), ∀ x ∈ pairsAll b t s i r, x.length = 2
  | [], _, x, hx => by simp [pairsAll] at hx
  | f :: r, i, x, hx => by
    simp only [pairsAll, List.mem_append] at hx
    rcases hx with hx | hx
    · exact pairsRow_two b t s f i r (i + 1) x hx
    · exact pairsAll_two b t s r (i + 1) x hx
theorem pairsAll_len (b : BoardD) (t : List Int) (s : List FallD) : ∀ (r : List FaultD) (i : Nat), (pairsAll b t s i r).length ≤ r.length * r.length
  | [], _ => by simp [pairsAll]
  | f :: r, i => by
    have h1 := pairsRow_len b t s f i r (i + 1)
    have h2 := pairsAll_len b t s r (i + 1)
    simp only [pairsAll, List.length_append, List.length_cons, Nat.succ_mul, Nat.mul_succ]
    omega
theorem szRows_two {l : List (List Int)} (h : ∀ x ∈ l, x.length = 2) : szRows l = 2 * (l.length : Int) := by
  induction l with
  | nil => rfl
  | cons x r ih =>
    have h1 := h x (List.mem_cons_self ..)
    have h2 := ih (fun y hy => h y (List.mem_cons_of_mem _ hy))
    simp only [szRows, List.length_cons, h1, h2]
    omega
theorem r_PairCauses_len (b : BoardD) (t : List Int) (s : List FallD) : (r_PairCauses b t s).1.length ≤ 72900 ∧ szRows (r_PairCauses b t s).1 = 2 * ((r_PairCauses b t s).1.length : Int) ∧ ∀ x ∈ (r_PairCauses b t s).1, x.length ≤ 9223372036854775806 := by
  unfold r_PairCauses
  split
  · rename_i h
    have h1 := pairsAll_len b t s (possFrom b.2.1 0 b.2.2) 0
    have h2 := poss_count (seen_ok h).1
    have h3 : (possFrom b.2.1 0 b.2.2).length * (possFrom b.2.1 0 b.2.2).length ≤ 270 * 270 := Nat.mul_le_mul h2 h2
    have h4 := pairsAll_two b t s (possFrom b.2.1 0 b.2.2) 0
    exact ⟨by show (pairsAll b t s 0 (possFrom b.2.1 0 b.2.2)).length ≤ 72900; omega, szRows_two h4, fun x hx => by have := h4 x hx; omega⟩
  · exact ⟨by simp, rfl, fun x hx => by simp at hx⟩
theorem law_FnExactPairCauses (p0 : BoardD) (p1 : List Int) (p2 : List FallD) (h0 : p0.2.2.length ≤ 9223372036854775807) (h1 : p1.length ≤ 9223372036854775807) (h2 : p2.length ≤ 9223372036854775807) : Ev (fun k => f_laws_FnExactPairCauses k p0 p1 p2) true := by
  refine Ev.succ ?_
  simp only [f_laws_FnExactPairCauses]
  by_cases q1 : (p1.length : Int) > 1048576
  · simp only [q1, decide_true, if_true]; exact Ev.some _
  simp only [q1, decide_false, Bool.false_eq_true, if_false]
  refine Ev.bind (e_laws_szBoard _ _ (by first | omega | (dsimp only; omega)) (by first | omega | (dsimp only; omega)) (by first | omega | (dsimp only; omega))) ?_
  by_cases q2 : (1048576 : Int) - (p0.2.2.length : Int) < 0
  · simp only [q2, if_true]; exact Ev.some _
  simp only [q2, if_false, decide_false, Bool.false_eq_true]
  refine Ev.bind (e_laws_szFallS _ _ (by first | omega | (dsimp only; omega)) (by first | omega | (dsimp only; omega)) (by first | omega | (dsimp only; omega))) ?_
  by_cases q3 : (1048576 : Int) - (p0.2.2.length : Int) - (p2.length : Int) < 0
  · simp only [q3, if_true]; exact Ev.some _
  simp only [q3, if_false, decide_false, Bool.false_eq_true]
  have es := e_spec_PairCauses p0 p1 p2 (by omega) (by omega) (by omega)
  have ei := e_impl_PairCauses p0 p1 p2 (by omega) (by omega) (by omega)
  obtain ⟨hr, hr2, hrv⟩ := r_PairCauses_len p0 p1 p2
  generalize r_PairCauses p0 p1 p2 = R at es ei hr hr2 hrv
  refine Ev.bind (e_laws_toBoard _ (by first | omega | (dsimp only; omega))) ?_
  refine Ev.bind (e_laws_toIntS _ (by first | omega | (dsimp only; omega))) ?_
  refine Ev.bind (e_laws_toFallS _ (by first | omega | (dsimp only; omega))) ?_
  refine Ev.bind es ?_
  refine Ev.bind (e_laws_toBoard _ (by first | omega | (dsimp only; omega))) ?_
  refine Ev.bind (e_laws_toIntS _ (by first | omega | (dsimp only; omega))) ?_
  refine Ev.bind (e_laws_toFallS _ (by first | omega | (dsimp only; omega))) ?_
  refine Ev.bind ei ?_
  refine Ev.bind (e_laws_eqIntSS _ _ (by first | omega | (dsimp only; omega)) (by assumption)) ?_
  simp only [decide_true, beq_self_eq_true, ne_eq, not_true_eq_false, decide_false, Bool.not_true, Bool.false_eq_true, if_false]
  refine Ev.bind (e_laws_toBoard _ (by first | omega | (dsimp only; omega))) ?_
  refine Ev.bind (e_laws_eqBoard _ _ (by first | omega | (dsimp only; omega))) ?_
  simp only [decide_true, beq_self_eq_true, ne_eq, not_true_eq_false, decide_false, Bool.not_true, Bool.false_eq_true, if_false]
  refine Ev.bind (e_laws_toIntS _ (by first | omega | (dsimp only; omega))) ?_
  refine Ev.bind (e_laws_eqIntS _ _ (by first | omega | (dsimp only; omega))) ?_
  simp only [decide_true, beq_self_eq_true, ne_eq, not_true_eq_false, decide_false, Bool.not_true, Bool.false_eq_true, if_false]
  refine Ev.bind (e_laws_toFallS _ (by first | omega | (dsimp only; omega))) ?_
  refine Ev.bind (e_laws_eqFallS _ _ (by first | omega | (dsimp only; omega))) ?_
  simp only [decide_true, beq_self_eq_true, ne_eq, not_true_eq_false, decide_false, Bool.not_true, Bool.false_eq_true, if_false]
  refine Ev.bind (e_laws_markBoard _ _ (by first | omega | (dsimp only; omega)) (by first | omega | (dsimp only; omega))) ?_
  try dsimp only
  refine Ev.bind (e_laws_markIntS _ _ (by first | omega | (dsimp only; omega)) (by first | omega | (dsimp only; omega))) ?_
  try dsimp only
  refine Ev.bind (e_laws_markFallS _ _ (by first | omega | (dsimp only; omega)) (by first | omega | (dsimp only; omega))) ?_
  try dsimp only
  refine Ev.ite (fun h => by simp only [decide_eq_true_eq] at h; omega) (fun h => ?_)
  refine Ev.bind (e_laws_eqIntSS _ _ (by first | omega | (dsimp only; omega)) (by assumption)) ?_
  simp only [decide_true, beq_self_eq_true, ne_eq, not_true_eq_false, decide_false, Bool.not_true, Bool.false_eq_true, if_false]
  refine Ev.bind (e_laws_markIntSS _ _ (by first | omega | (dsimp only; omega)) (by first | omega | (dsimp only; omega)) (by first | omega | (dsimp only; omega))) ?_
  try dsimp only
  refine Ev.bind (e_laws_heldIntSS _ _ (by first | omega | (dsimp only; omega)) (by first | omega | (dsimp only; omega)) (by first | omega | (dsimp only; omega))) ?_
  try dsimp only
  refine Ev.ite (fun h => by simp only [decide_eq_true_eq] at h; omega) (fun h => ?_)
  simp only [decide_true, beq_self_eq_true, ne_eq, not_true_eq_false, decide_false, Bool.not_true, Bool.false_eq_true, if_false]
  refine Ev.bind (e_laws_toBoard _ (by first | omega | (dsimp only; omega))) ?_
  refine Ev.bind (e_laws_toIntS _ (by first | omega | (dsimp only; omega))) ?_
  refine Ev.bind (e_laws_toFallS _ (by first | omega | (dsimp only; omega))) ?_
  refine Ev.bind ei ?_
  refine Ev.bind (e_laws_eqIntSS _ _ (by first | omega | (dsimp only; omega)) (by assumption)) ?_
  simp only [decide_true, beq_self_eq_true, ne_eq, not_true_eq_false, decide_false, Bool.not_true, Bool.false_eq_true, if_false]
  refine Ev.bind (e_laws_heldIntSS _ _ (by first | omega | (dsimp only; omega)) (by first | omega | (dsimp only; omega)) (by first | omega | (dsimp only; omega))) ?_
  try dsimp only
  refine Ev.ite (fun h => by simp only [decide_eq_true_eq] at h; omega) (fun h => ?_)
  simp only [decide_true, beq_self_eq_true, ne_eq, not_true_eq_false, decide_false, Bool.not_true, Bool.false_eq_true, if_false]
  exact Ev.some _
/-! ### Cells with a cause -/
theorem putL_split : ∀ (l : List Int) (n : Int), ∃ t d, l = t ++ d ∧ (∀ x ∈ t, x < n) ∧ (∀ x s, d = x :: s → ¬ x < n) ∧ putL l n = t ++ putL d n
  | [], n => ⟨[], [], rfl, fun _ h => (by cases h), fun _ _ h => (by cases h), rfl⟩
  | y :: r, n => by
    by_cases hy : y < n
    · obtain ⟨t, d, h1, h2, h3, h4⟩ := putL_split r n
      refine ⟨y :: t, d, by rw [h1]; rfl, fun x hx => ?_, h3, ?_⟩
      · rcases List.mem_cons.1 hx with rfl | hx
        · exact hy
        · exact h2 x hx
      · simp only [putL, if_pos hy, h4, List.cons_append]
    · refine ⟨[], y :: r, rfl, fun _ h => (by cases h), fun x s h => ?_, rfl⟩
      injection h with h1 _
      rw [← h1]; exact hy
theorem e_spec_l1Put_0 (n : Int) : ∀ (t pre d : List Int), (∀ x ∈ t, x < n) → (∀ x s, d = x :: s → ¬ x < n) → (pre ++ (t ++ d)).length ≤ 1000000 → Ev (fun k => f_spec_l1Put_0 k (pre ++ (t ++ d)) n (pre.length : Int)) (pre ++ (t ++ d), n, ((pre ++ t).length : Int))
  | [], pre, [], ht, hd, hl => by
    refine Ev.succ ?_
    simp only [f_spec_l1Put_0, List.nil_append, nlt_end, Int.lt_irrefl, decide_false, Bool.false_eq_true, if_false, List.append_nil]
    exact Ev.some _
  | [], pre, x :: s, ht, hd, hl => by
    have hx := hd x s rfl
    refine Ev.succ ?_
    simp only [f_spec_l1Put_0, List.nil_append, lt_mid, ge_mid, decide_true, if_true, Int.toNat_natCast, getD_mid, hx, decide_false, Bool.false_eq_true, if_false, List.append_nil]
    exact Ev.some _
  | x :: t, pre, d, ht, hd, hl => by
    have hx := ht x (List.mem_cons_self ..)
    have ih := e_spec_l1Put_0 n t (pre ++ [x]) d (fun y hy => ht y (List.mem_cons_of_mem _ hy)) hd (by simpa using hl)
    simp only [List.cons_append] at hl ⊢
    refine Ev.succ ?_
    simp only [f_spec_l1Put_0, lt_mid, ge_mid, decide_true, if_true, Int.toNat_natCast, getD_mid, hx]
    rw [next_mid pre x (t ++ d) (by omega)]
    rw [← shift_mid] at ih
    refine ih.congr ?_
    simp
theorem e_spec_l1Put (l : List Int) (n : Int) (hl : l.length ≤ 1000000) : Ev (fun k => f_spec_l1Put k l n) (putL l n) := by
  obtain ⟨t, d, rfl, h2, h3, h4⟩ := putL_split l n
  have h0 := e_spec_l1Put_0 n t [] d h2 h3 (by simpa using hl)
  simp only [List.nil_append, List.length_nil, Int.natCast_zero] at h0
  rw [h4]
  have hlt : t.length + d.length ≤ 1000000 := by simpa using hl
  have z1 : (0 : Nat) + t.length ≤ 140737488355328 / 8 := by omega
  have z2 : t.length + 1 ≤ 140737488355328 / 8 := by omega
  refine Ev.succ ?_
  simp only [f_spec_l1Put]
  refine Ev.bind h0 ?_
  cases d with
  | nil =>
    have z3 : (t ++ [n]).length + 0 ≤ 140737488355328 / 8 := by simp; omega
    simp only [nlt_end, Int.lt_irrefl, decide_false, Bool.false_eq_true, if_false, ge_mid, Int.le_refl, if_true, Int.toNat_natCast, Int.toNat_zero, Nat.sub_zero, List.drop_zero, List.append_nil, List.take_length, List.length_singleton, z1, z2, List.drop_length, List.take_nil, List.length_nil, z3, putL]
    exact Ev.some _
  | cons x s =>
    have hx := h3 x s rfl
    have y1 : (t.length : Int) ≤ ((t ++ x :: s).length : Int) := by simp; omega
    have y2 : List.take t.length (t ++ x :: s) = t := List.take_left' rfl
    have y3 : List.drop t.length (t ++ x :: s) = x :: s := List.drop_left' rfl
    have y4 : List.take ((t ++ x :: s).length - t.length) (x :: s) = x :: s := List.take_of_length_le (by simp)
    have z3 : (t ++ [n]).length + (x :: s).length ≤ 140737488355328 / 8 := by simp at hlt ⊢; omega
    simp only [lt_mid, ge_mid, decide_true, if_true, Int.toNat_natCast, getD_mid, Int.toNat_zero, Nat.sub_zero, List.drop_zero, y1, y2, y3, y4, Int.le_refl, List.length_singleton, z1, z2, z3, putL, if_neg hx]
    refine Ev.ite (fun h => ?_) (fun h => ?_)
    · simp only [decide_eq_true_eq] at h
      rw [if_pos h]
      exact Ev.some _
    · simp only [decide_eq_true_eq] at h
      rw [if_neg h]
      exact Ev.of (by simp)
theorem e_spec_l1Has_0 (n : Int) : ∀ (r pre : List Int), (pre ++ r).length ≤ 1000000 → Ev (fun k => f_spec_l1Has_0 k n (pre ++ r) ((pre ++ r).length : Int) (pre.length : Int)) (if n ∈ r then LR.ret true else LR.go ())
  | [], pre, hl => by
    refine Ev.succ ?_
    simp only [f_spec_l1Has_0, nlt_end, decide_false, Bool.false_eq_true, if_false, List.not_mem_nil]
    exact Ev.some _
  | x :: r, pre, hl => by
    have ih := e_spec_l1Has_0 n r (pre ++ [x]) (by simpa using hl)
    refine Ev.succ ?_
    simp only [f_spec_l1Has_0, lt_mid, ge_mid, decide_true, if_true, Int.toNat_natCast, getD_mid]
    rw [next_mid pre x r (by omega)]
    rw [← shift_mid] at ih
    refine Ev.ite (fun h => ?_) (fun h => ?_)
    · simp only [decide_eq_true_eq] at h
      rw [if_pos (by rw [h]; exact List.mem_cons_self ..)]
      exact Ev.some _
    · simp only [decide_eq_true_eq] at h
      refine ih.congr ?_
      have : (n ∈ x :: r) ↔ n ∈ r := by rw [List.mem_cons]; exact ⟨fun h2 => h2.elim (fun h3 => (h h3.symm).elim) id, .inr⟩
      simp only [this]
theorem e_spec_l1Has (l : List Int) (n : Int) (hl : l.length ≤ 1000000) : Ev (fun k => f_spec_l1Has k l n) (decide (n ∈ l)) := by
  refine Ev.succ ?_
  simp only [f_spec_l1Has]
  refine Ev.bind (e_spec_l1Has_0 n l [] (by simpa using hl)) ?_
  by_cases h : n ∈ l
  · rw [if_pos h, decide_eq_true h]; exact Ev.ret (Ev.some _)
  · rw [if_neg h, decide_eq_false h]; exact Ev.go (Ev.some _)
/-- Some of the faults lies in cell i. -/
def hasAt (b : BoardD) (l : List FaultD) (i : Nat) : Bool := l.any fun f => decide (placeOf b f = i)
def inB (b : BoardD) (f : FaultD) : Prop := 0 ≤ f.2.1 * b.2.1 ∧ f.2.1 * b.2.1 ≤ 90 ∧ 0 ≤ placeOf b f ∧ placeOf b f < (b.2.2.length : Int) ∧ placeOf b f ≤ 90
theorem hasAt_add {b : BoardD} {f : FaultD} (h : inB b f) (pre : List FaultD) (j : Nat) : hasAt b (pre ++ [f]) j = (hasAt b pre j || j == (placeOf b f).toNat) := by
  unfold hasAt
  rw [List.any_append, List.any_cons, List.any_nil, Bool.or_false]
  congr 1
  have h0 := h.2.2.1
  rw [Bool.eq_iff_iff]
  simp only [decide_eq_true_eq, beq_iff_eq]
  omega
theorem poss_in {b : BoardD} (hb : boardOK b = true) {f : FaultD} (h : f ∈ possFrom b.2.1 0 b.2.2) : inB b f := by
  obtain ⟨h1, h2, h3, h4, h5⟩ := poss_fault hb h
  have hp := place_ok hb h1 h2 h3 h4
  unfold inB placeOf
  omega
theorem e_spec_dgSuspects_0 (b : BoardD) : ∀ (r pre : List FaultD), (∀ f ∈ r, inB b f) → b.2.2.length ≤ 1000 → (pre ++ r).length ≤ 1000000 → Ev (fun k => f_spec_dgSuspects_0 k b.1 b.2.1 b.2.2 (idxFrom (hasAt b pre) 0 b.2.2.length) (pre ++ r) ((pre ++ r).length : Int) (pre.length : Int)) (idxFrom (hasAt b (pre ++ r)) 0 b.2.2.length)
  | [], pre, hf, hn, hl => by
    refine Ev.succ ?_
    simp only [f_spec_dgSuspects_0, nlt_end, Int.lt_irrefl, decide_false, Bool.false_eq_true, if_false, List.append_nil]
    exact Ev.some _
  | f :: r, pre, hf, hn, hl => by
    have hi := hf f (List.mem_cons_self ..)
    have ih := e_spec_dgSuspects_0 b r (pre ++ [f]) (fun g hg => hf g (List.mem_cons_of_mem _ hg)) hn (by simpa using hl)
    have hlen := idxFrom_len (hasAt b pre) b.2.2.length 0
    have hput : putL (idxFrom (hasAt b pre) 0 b.2.2.length) (placeOf b f) = idxFrom (hasAt b (pre ++ [f])) 0 b.2.2.length := by
      have h1 := putL_idx (hasAt b pre) (placeOf b f).toNat b.2.2.length 0 (by omega) (by have := hi.2.2.1; have := hi.2.2.2.1; omega)
      rw [Int.toNat_of_nonneg hi.2.2.1] at h1
      rw [h1]
      exact idxFrom_congr _ _ (fun j _ _ => (hasAt_add hi pre j).symm)
    obtain ⟨i1, i2, i3, i4, i5⟩ := hi
    have hw : wrap64 (wrap64 (f.2.1 * b.2.1) + f.2.2) = placeOf b f := by
      rw [w64 (n := f.2.1 * b.2.1) (by omega) (by omega)]
      unfold placeOf at i3 i5 ⊢
      rw [w64 (by omega) (by omega)]
    refine Ev.succ ?_
    simp only [f_spec_dgSuspects_0, lt_mid, ge_mid, decide_true, if_true, Int.toNat_natCast, getD_mid]
    rw [next_mid pre f r (by omega), hw]
    refine Ev.bind (e_spec_l1Put _ _ (by omega)) ?_
    rw [hput]
    rw [← shift_mid] at ih
    exact ih
theorem range_set (n i : Nat) (p q : Nat → Bool) (hi : i < n) (hp : ∀ j, q j = (p j || j == i)) : List.set ((List.range n).map p) i true = (List.range n).map q := by
  apply List.ext_getElem?
  intro j
  rw [List.getElem?_set]
  by_cases hij : i = j
  · subst hij
    rw [if_pos rfl, if_pos (by simpa using hi), List.getElem?_map, List.getElem?_range hi]
    simp [hp]
  · rw [if_neg hij]
    simp only [List.getElem?_map]
    by_cases hj : j < n
    · rw [List.getElem?_range hj]
      have : (j == i) = false := by simp; omega
      simp [hp, this]
    · rw [List.getElem?_eq_none (by simpa using hj)]
      rfl
theorem range_get {n i : Nat} (p : Nat → Bool) (hi : i < n) : List.getD ((List.range n).map p) i false = p i := by
  simp [List.getD, List.getElem?_map, List.getElem?_range hi]
theorem e_impl_cellsWith_0 (b : BoardD) (wth : Bool) : ∀ (r pre : List FaultD), (∀ f ∈ r, inB b f) → (pre ++ r).length ≤ 1000000 → Ev (fun k => f_impl_cellsWith_0 k b.1 b.2.1 b.2.2 ((List.range b.2.2.length).map (hasAt b pre)) wth (pre ++ r) ((pre ++ r).length : Int) (pre.length : Int)) ((List.range b.2.2.length).map (hasAt b (pre ++ r)), wth)
  | [], pre, hf, hl => by
    refine Ev.succ ?_
    simp only [f_impl_cellsWith_0, nlt_end, Int.lt_irrefl, decide_false, Bool.false_eq_true, if_false, List.append_nil]
    exact Ev.some _
  | f :: r, pre, hf, hl => by
    have hi := hf f (List.mem_cons_self ..)
    have ih := e_impl_cellsWith_0 b wth r (pre ++ [f]) (fun g hg => hf g (List.mem_cons_of_mem _ hg)) (by simpa using hl)
    have hset := range_set b.2.2.length (placeOf b f).toNat (hasAt b pre) (hasAt b (pre ++ [f])) (by have := hi.2.2.1; have := hi.2.2.2.1; omega) (hasAt_add hi pre)
    obtain ⟨i1, i2, i3, i4, i5⟩ := hi
    have hw : wrap64 (wrap64 (f.2.1 * b.2.1) + f.2.2) = placeOf b f := by
      rw [w64 (n := f.2.1 * b.2.1) (by omega) (by omega)]
      unfold placeOf at i3 i5 ⊢
      rw [w64 (by omega) (by omega)]
    have i4' : placeOf b f < (((List.range b.2.2.length).map (hasAt b pre)).length : Int) := by simpa using i4
    refine Ev.succ ?_
    simp only [f_impl_cellsWith_0, lt_mid, ge_mid, decide_true, if_true, Int.toNat_natCast, getD_mid, hw, i3, i4', hset]
    rw [next_mid pre f r (by omega)]
    rw [← shift_mid] at ih
    exact ih
theorem e_impl_cellsWith_2 (n : Nat) (p : Nat → Bool) (wth : Bool) (hn : n ≤ 1000000) : ∀ (m i : Nat) (acc : List Int), i + m = n → acc.length ≤ i → Ev (fun k => f_impl_cellsWith_2 k acc ((List.range n).map p) wth (n : Int) (i : Int)) (acc ++ idxFrom (fun j => p j == wth) i m)
  | 0, i, acc, h, ha => by
    have : ¬ (i : Int) < n := by omega
    refine Ev.succ ?_
    simp only [f_impl_cellsWith_2, this, decide_false, Bool.false_eq_true, if_false, idxFrom, List.append_nil]
    exact Ev.some _
  | m + 1, i, acc, h, ha => by
    have h1 : (i : Int) < n := by omega
    have h2 : (i : Int) < (((List.range n).map p).length : Int) := by simp; omega
    have h3 : (0 : Int) ≤ i := by omega
    have h4 : wrap64 ((i : Int) + 1) = ((i + 1 : Nat) : Int) := by rw [w64 (by omega) (by omega)]; omega
    have hal : acc.length + 1 ≤ 140737488355328 / 8 := by omega
    refine Ev.succ ?_
    simp only [f_impl_cellsWith_2, h1, h2, h3, h4, decide_true, if_true, Int.toNat_natCast, range_get p (show i < n by omega), List.length_singleton, hal, idxFrom]
    refine Ev.ite (fun hh => ?_) (fun hh => ?_)
    · refine (e_impl_cellsWith_2 n p wth hn m (i + 1) (acc ++ [(i : Int)]) (by omega) (by simp; omega)).congr ?_
      rw [if_pos hh]; simp
    · refine (e_impl_cellsWith_2 n p wth hn m (i + 1) acc (by omega) (by omega)).congr ?_
      rw [if_neg hh]
theorem e_impl_cellsWith (b : BoardD) (l : List FaultD) (wth : Bool) (hl : ∀ f ∈ l, inB b f) (hn : b.2.2.length ≤ 1000) (hll : l.length ≤ 1000000) : Ev (fun k => f_impl_cellsWith k b l wth) (idxFrom (fun j => hasAt b l j == wth) 0 b.2.2.length) := by
  refine Ev.succ ?_
  have hm : b.2.2.length * 1 ≤ 281474976710656 := by omega
  simp only [f_impl_cellsWith, Int.toNat_natCast, hm, if_true]
  have e0 : List.replicate b.2.2.length false = (List.range b.2.2.length).map (hasAt b []) := by
    apply List.ext_getElem
    · simp
    · intro i h1 h2
      simp [hasAt]
  rw [e0]
  refine Ev.bind (e_impl_cellsWith_0 b wth l [] hl (by simpa using hll)) ?_
  have h2 := e_impl_cellsWith_2 b.2.2.length (hasAt b l) wth (by omega) b.2.2.length 0 [] (by omega) (by simp)
  simp only [List.nil_append, List.length_map, List.length_range]
  exact Ev.bind (by simpa using h2) (Ev.some _)
theorem singles_in {b : BoardD} (hb : boardOK b = true) (t : List Int) (s : List FallD) : ∀ f ∈ singlesOf b t s, inB b f := fun f hf => poss_in hb (List.mem_filter.1 hf).1
theorem singles_count {b : BoardD} (hb : boardOK b = true) (t : List Int) (s : List FallD) : (singlesOf b t s).length ≤ 270 :=
  Nat.le_trans (List.length_filter_le _ _) (poss_count hb)
theorem e_spec_dgSuspects (b : BoardD) (hb : boardOK b = true) (h24 : b.2.2.length ≤ 24) (t : List Int) (ht : t.length ≤ 1000) (hc : colsOK b t) (s : List FallD) (hs : s.length = t.length) : Ev (fun k => f_spec_dgSuspects k b t s) (idxFrom (hasAt b (singlesOf b t s)) 0 b.2.2.length) := by
  refine Ev.succ ?_
  simp only [f_spec_dgSuspects]
  have h0 := e_spec_dgSuspects_0 b (singlesOf b t s) [] (singles_in hb t s) (by omega) (by have := singles_count hb t s; simp; omega)
  have e0 : idxFrom (hasAt b []) 0 b.2.2.length = [] := idxFrom_none _ _
  rw [e0] at h0
  exact Ev.bind (e_spec_dgSingle b hb t ht hc s hs) (Ev.bind h0 (Ev.some _))
theorem idxFrom_mem (p : Nat → Bool) : ∀ (n k i : Nat), k ≤ i → i < k + n → (((i : Int) ∈ idxFrom p k n) ↔ p i = true)
  | 0, k, i, h1, h2 => by omega
  | n + 1, k, i, h1, h2 => by
    have hg := idxFrom_ge p n (k + 1)
    simp only [idxFrom]
    by_cases hki : k = i
    · subst hki
      have hno : ¬ (k : Int) ∈ idxFrom p (k + 1) n := fun hm => by have := hg _ hm; omega
      split
      · rename_i hp; simp [hp]
      · rename_i hp; simp [hno, hp]
    · have ih := idxFrom_mem p n (k + 1) i (by omega) (by omega)
      split
      · rw [List.mem_cons, ih]
        constructor
        · rintro (h3 | h3)
          · omega
          · exact h3
        · exact .inr
      · exact ih
theorem suspects_none {b : BoardD} {l : List FaultD} (hl : ∀ f ∈ l, inB b f) : (idxFrom (hasAt b l) 0 b.2.2.length).length = 0 ↔ l.length = 0 := by
  constructor
  · intro h
    cases l with
    | nil => rfl
    | cons f r =>
      exfalso
      have hi := hl f (List.mem_cons_self ..)
      have hm := (idxFrom_mem (hasAt b (f :: r)) b.2.2.length 0 (placeOf b f).toNat (by omega) (by have := hi.2.2.1; have := hi.2.2.2.1; omega)).2 (by
        unfold hasAt
        rw [List.any_cons]
        have : placeOf b f = ((placeOf b f).toNat : Int) := (Int.toNat_of_nonneg hi.2.2.1).symm
        rw [decide_eq_true this, Bool.true_or])
      rw [List.eq_nil_of_length_eq_zero h] at hm
      cases hm
  · intro h
    obtain rfl := List.eq_nil_of_length_eq_zero h
    have e0 : idxFrom (hasAt b []) 0 b.2.2.length = [] := idxFrom_none _ _
    rw [e0]; rfl
theorem e_spec_SoundCells_0 (n : Nat) (p : Nat → Bool) (hn : n ≤ 1000) : ∀ (m i : Nat) (acc : List Int), i + m = n → acc.length ≤ i → Ev (fun k => f_spec_SoundCells_0 k (idxFrom p 0 n) acc (n : Int) (i : Int)) (acc ++ idxFrom (fun j => !p j) i m)
  | 0, i, acc, h, ha => by
    have : ¬ (i : Int) < n := by omega
    refine Ev.succ ?_
    simp only [f_spec_SoundCells_0, this, decide_false, Bool.false_eq_true, if_false, idxFrom, List.append_nil]
    exact Ev.some _
  | m + 1, i, acc, h, ha => by
    have h1 : (i : Int) < n := by omega
    have h4 : wrap64 ((i : Int) + 1) = ((i + 1 : Nat) : Int) := by rw [w64 (by omega) (by omega)]; omega
    have hal : acc.length + 1 ≤ 140737488355328 / 8 := by omega
    have hlen := idxFrom_len p n 0
    have hmem := idxFrom_mem p n 0 i (by omega) (by omega)
    refine Ev.succ ?_
    simp only [f_spec_SoundCells_0, h1, h4, decide_true, if_true, List.length_singleton, hal, idxFrom]
    refine Ev.bind (e_spec_l1Has _ _ (by omega)) (Ev.ite (fun hh => ?_) (fun hh => ?_))
    · have hh : ¬ (i : Int) ∈ idxFrom p 0 n := nd hh
      have hp : p i = false := by simpa [hmem] using hh
      refine (e_spec_SoundCells_0 n p hn m (i + 1) (acc ++ [(i : Int)]) (by omega) (by simp; omega)).congr ?_
      simp [hp]
    · have hh : (i : Int) ∈ idxFrom p 0 n := yd hh
      have hp : p i = true := hmem.1 hh
      refine (e_spec_SoundCells_0 n p hn m (i + 1) acc (by omega) (by omega)).congr ?_
      simp [hp]
def r_SuspectCells (b : BoardD) (t : List Int) (s : List FallD) : List Int × Bool := if seenOK b t s then (idxFrom (hasAt b (singlesOf b t s)) 0 b.2.2.length, true) else ([], false)
theorem e_spec_SuspectCells (b : BoardD) (t : List Int) (s : List FallD) (h0 : b.2.2.length ≤ 9223372036854775806) (h2 : t.length ≤ 9223372036854775806) (h3 : s.length ≤ 9223372036854775806) : Ev (fun k => f_spec_SuspectCells k b t s) (r_SuspectCells b t s) := by
  refine Ev.succ ?_
  simp only [f_spec_SuspectCells]
  unfold r_SuspectCells
  refine Ev.bind (a := seenOK b t s) (e_spec_dgGood b t s h0 h2 h3) ?_
  cases g0 : seenOK b t s with
  | false => simp only [Bool.not_false, if_true, Bool.false_eq_true, if_false, Bool.false_and, Bool.and_false]; exact Ev.some _
  | true =>
    simp only [Bool.not_true, Bool.false_eq_true, if_false, if_true, Bool.and_self]
    obtain ⟨hb, h24, ht, hc, hs⟩ := seen_ok g0
    exact Ev.bind (e_spec_dgSuspects b hb h24 t (by omega) hc s hs) (Ev.some _)
theorem e_impl_SuspectCells (b : BoardD) (t : List Int) (s : List FallD) (h0 : b.2.2.length ≤ 9223372036854775806) (h2 : t.length ≤ 9223372036854775806) (h3 : s.length ≤ 9223372036854775806) : Ev (fun k => f_impl_SuspectCells k b t s) (r_SuspectCells b t s) := by
  refine Ev.succ ?_
  simp only [f_impl_SuspectCells]
  unfold r_SuspectCells
  refine Ev.bind (a := seenOK b t s) (e_impl_isSeen b t s h0 h2 h3) ?_
  cases g0 : seenOK b t s with
  | false => simp only [Bool.not_false, if_true, Bool.false_eq_true, if_false, Bool.false_and, Bool.and_false]; exact Ev.some _
  | true =>
    simp only [Bool.not_true, Bool.false_eq_true, if_false, if_true, Bool.and_self]
    obtain ⟨hb, h24, ht, hc, hs⟩ := seen_ok g0
    have hn := singles_count hb t s
    have h9 := e_impl_cellsWith b (singlesOf b t s) true (singles_in hb t s) (by omega) (by omega)
    have e9 : idxFrom (fun j => hasAt b (singlesOf b t s) j == true) 0 b.2.2.length = idxFrom (hasAt b (singlesOf b t s)) 0 b.2.2.length := idxFrom_congr _ _ (fun j _ _ => by simp)
    rw [e9] at h9
    exact Ev.bind (e_impl_singleCauses b hb t (by omega) hc s hs) (Ev.bind h9 (Ev.some _))
def r_SoundCells (b : BoardD) (t : List Int) (s : List FallD) : List Int × Bool := if seenOK b t s then (if (singlesOf b t s).length = 0 then ([], false) else (idxFrom (fun j => !hasAt b (singlesOf b t s) j) 0 b.2.2.length, true)) else ([], false)
theorem e_spec_SoundCells (b : BoardD) (t : List Int) (s : List FallD) (h0 : b.2.2.length ≤ 9223372036854775806) (h2 : t.length ≤ 9223372036854775806) (h3 : s.length ≤ 9223372036854775806) : Ev (fun k => f_spec_SoundCells k b t s) (r_SoundCells b t s) := by
  refine Ev.succ ?_
  simp only [f_spec_SoundCells]
  unfold r_SoundCells
  refine Ev.bind (a := seenOK b t s) (e_spec_dgGood b t s h0 h2 h3) ?_
  cases g0 : seenOK b t s with
  | false => simp only [Bool.not_false, if_true, Bool.false_eq_true, if_false, Bool.false_and, Bool.and_false]; exact Ev.some _
  | true =>
    simp only [Bool.not_true, Bool.false_eq_true, if_false, if_true, Bool.and_self]
    obtain ⟨hb, h24, ht, hc, hs⟩ := seen_ok g0
    have hz := suspects_none (singles_in hb t s)
    refine Ev.bind (e_spec_dgSuspects b hb h24 t (by omega) hc s hs) (Ev.ite (fun h => ?_) (fun h => ?_))
    · simp only [decide_eq_true_eq] at h; rw [if_pos (hz.1 (by omega))]; exact Ev.some _
    · simp only [decide_eq_true_eq] at h; rw [if_neg (fun h8 => h (by have := hz.2 h8; omega))]
      have h9 := e_spec_SoundCells_0 b.2.2.length (hasAt b (singlesOf b t s)) (by omega) b.2.2.length 0 [] (by omega) (by simp)
      simp only [List.nil_append] at h9
      exact Ev.bind h9 (Ev.some _)
theorem e_impl_SoundCells (b : BoardD) (t : List Int) (s : List FallD) (h0 : b.2.2.length ≤ 9223372036854775806) (h2 : t.length ≤ 9223372036854775806) (h3 : s.length ≤ 9223372036854775806) : Ev (fun k => f_impl_SoundCells k b t s) (r_SoundCells b t s) := by
  refine Ev.succ ?_
  simp only [f_impl_SoundCells]
  unfold r_SoundCells
  refine Ev.bind (a := seenOK b t s) (e_impl_isSeen b t s h0 h2 h3) ?_
  cases g0 : seenOK b t s with
  | false => simp only [Bool.not_false, if_true, Bool.false_eq_true, if_false, Bool.false_and, Bool.and_false]; exact Ev.some _
  | true =>
    simp only [Bool.not_true, Bool.false_eq_true, if_false, if_true, Bool.and_self]
    obtain ⟨hb, h24, ht, hc, hs⟩ := seen_ok g0
    have hn := singles_count hb t s
    have h9 := e_impl_cellsWith b (singlesOf b t s) false (singles_in hb t s) (by omega) (by omega)
    have e9 : idxFrom (fun j => hasAt b (singlesOf b t s) j == false) 0 b.2.2.length = idxFrom (fun j => !hasAt b (singlesOf b t s) j) 0 b.2.2.length := idxFrom_congr _ _ (fun j _ _ => by cases hasAt b (singlesOf b t s) j <;> rfl)
    rw [e9] at h9
    refine Ev.bind (e_impl_singleCauses b hb t (by omega) hc s hs) (Ev.ite (fun h => ?_) (fun h => ?_))
    · simp only [decide_eq_true_eq] at h; rw [if_pos (by omega)]; exact Ev.some _
    · simp only [decide_eq_true_eq] at h; rw [if_neg (by omega)]; exact Ev.bind h9 (Ev.some _)
theorem r_SuspectCells_len (b : BoardD) (t : List Int) (s : List FallD) : (r_SuspectCells b t s).1.length ≤ b.2.2.length := by
  unfold r_SuspectCells
  split
  · exact idxFrom_len _ _ _
  · simp
theorem law_FnExactSuspectCells (p0 : BoardD) (p1 : List Int) (p2 : List FallD) (h0 : p0.2.2.length ≤ 9223372036854775807) (h1 : p1.length ≤ 9223372036854775807) (h2 : p2.length ≤ 9223372036854775807) : Ev (fun k => f_laws_FnExactSuspectCells k p0 p1 p2) true := by
  refine Ev.succ ?_
  simp only [f_laws_FnExactSuspectCells]
  by_cases q1 : (p1.length : Int) > 1048576
  · simp only [q1, decide_true, if_true]; exact Ev.some _
  simp only [q1, decide_false, Bool.false_eq_true, if_false]
  refine Ev.bind (e_laws_szBoard _ _ (by first | omega | (dsimp only; omega)) (by first | omega | (dsimp only; omega)) (by first | omega | (dsimp only; omega))) ?_
  by_cases q2 : (1048576 : Int) - (p0.2.2.length : Int) < 0
  · simp only [q2, if_true]; exact Ev.some _
  simp only [q2, if_false, decide_false, Bool.false_eq_true]
  refine Ev.bind (e_laws_szFallS _ _ (by first | omega | (dsimp only; omega)) (by first | omega | (dsimp only; omega)) (by first | omega | (dsimp only; omega))) ?_
  by_cases q3 : (1048576 : Int) - (p0.2.2.length : Int) - (p2.length : Int) < 0
  · simp only [q3, if_true]; exact Ev.some _
  simp only [q3, if_false, decide_false, Bool.false_eq_true]
  have es := e_spec_SuspectCells p0 p1 p2 (by omega) (by omega) (by omega)
  have ei := e_impl_SuspectCells p0 p1 p2 (by omega) (by omega) (by omega)
  have hr := r_SuspectCells_len p0 p1 p2
  generalize r_SuspectCells p0 p1 p2 = R at es ei hr
  refine Ev.bind (e_laws_toBoard _ (by first | omega | (dsimp only; omega))) ?_
  refine Ev.bind (e_laws_toIntS _ (by first | omega | (dsimp only; omega))) ?_
  refine Ev.bind (e_laws_toFallS _ (by first | omega | (dsimp only; omega))) ?_
  refine Ev.bind es ?_
  refine Ev.bind (e_laws_toBoard _ (by first | omega | (dsimp only; omega))) ?_
  refine Ev.bind (e_laws_toIntS _ (by first | omega | (dsimp only; omega))) ?_
  refine Ev.bind (e_laws_toFallS _ (by first | omega | (dsimp only; omega))) ?_
  refine Ev.bind ei ?_
  refine Ev.bind (e_laws_eqIntS _ _ (by first | omega | (dsimp only; omega))) ?_
  simp only [decide_true, beq_self_eq_true, ne_eq, not_true_eq_false, decide_false, Bool.not_true, Bool.false_eq_true, if_false]
  refine Ev.bind (e_laws_toBoard _ (by first | omega | (dsimp only; omega))) ?_
  refine Ev.bind (e_laws_eqBoard _ _ (by first | omega | (dsimp only; omega))) ?_
  simp only [decide_true, beq_self_eq_true, ne_eq, not_true_eq_false, decide_false, Bool.not_true, Bool.false_eq_true, if_false]
  refine Ev.bind (e_laws_toIntS _ (by first | omega | (dsimp only; omega))) ?_
  refine Ev.bind (e_laws_eqIntS _ _ (by first | omega | (dsimp only; omega))) ?_
  simp only [decide_true, beq_self_eq_true, ne_eq, not_true_eq_false, decide_false, Bool.not_true, Bool.false_eq_true, if_false]
  refine Ev.bind (e_laws_toFallS _ (by first | omega | (dsimp only; omega))) ?_
  refine Ev.bind (e_laws_eqFallS _ _ (by first | omega | (dsimp only; omega))) ?_
  simp only [decide_true, beq_self_eq_true, ne_eq, not_true_eq_false, decide_false, Bool.not_true, Bool.false_eq_true, if_false]
  refine Ev.bind (e_laws_markBoard _ _ (by first | omega | (dsimp only; omega)) (by first | omega | (dsimp only; omega))) ?_
  try dsimp only
  refine Ev.bind (e_laws_markIntS _ _ (by first | omega | (dsimp only; omega)) (by first | omega | (dsimp only; omega))) ?_
  try dsimp only
  refine Ev.bind (e_laws_markFallS _ _ (by first | omega | (dsimp only; omega)) (by first | omega | (dsimp only; omega))) ?_
  try dsimp only
  refine Ev.ite (fun h => by simp only [decide_eq_true_eq] at h; omega) (fun h => ?_)
  refine Ev.bind (e_laws_eqIntS _ _ (by first | omega | (dsimp only; omega))) ?_
  simp only [decide_true, beq_self_eq_true, ne_eq, not_true_eq_false, decide_false, Bool.not_true, Bool.false_eq_true, if_false]
  refine Ev.bind (e_laws_markIntS _ _ (by first | omega | (dsimp only; omega)) (by first | omega | (dsimp only; omega))) ?_
  try dsimp only
  refine Ev.bind (e_laws_heldIntS _ _ (by first | omega | (dsimp only; omega)) (by first | omega | (dsimp only; omega))) ?_
  try dsimp only
  refine Ev.ite (fun h => by simp only [decide_eq_true_eq] at h; omega) (fun h => ?_)
  simp only [decide_true, beq_self_eq_true, ne_eq, not_true_eq_false, decide_false, Bool.not_true, Bool.false_eq_true, if_false]
  refine Ev.bind (e_laws_toBoard _ (by first | omega | (dsimp only; omega))) ?_
  refine Ev.bind (e_laws_toIntS _ (by first | omega | (dsimp only; omega))) ?_
  refine Ev.bind (e_laws_toFallS _ (by first | omega | (dsimp only; omega))) ?_
  refine Ev.bind ei ?_
  refine Ev.bind (e_laws_eqIntS _ _ (by first | omega | (dsimp only; omega))) ?_
  simp only [decide_true, beq_self_eq_true, ne_eq, not_true_eq_false, decide_false, Bool.not_true, Bool.false_eq_true, if_false]
  refine Ev.bind (e_laws_heldIntS _ _ (by first | omega | (dsimp only; omega)) (by first | omega | (dsimp only; omega))) ?_
  try dsimp only
  refine Ev.ite (fun h => by simp only [decide_eq_true_eq] at h; omega) (fun h => ?_)
  simp only [decide_true, beq_self_eq_true, ne_eq, not_true_eq_false, decide_false, Bool.not_true, Bool.false_eq_true, if_false]
  exact Ev.some _
theorem r_SoundCells_len (b : BoardD) (t : List Int) (s : List FallD) : (r_SoundCells b t s).1.length ≤ b.2.2.length := by
  unfold r_SoundCells
  split
  · split
    · simp
    · exact idxFrom_len _ _ _
  · simp
theorem law_FnExactSoundCells (p0 : BoardD) (p1 : List Int) (p2 : List FallD) (h0 : p0.2.2.length ≤ 9223372036854775807) (h1 : p1.length ≤ 9223372036854775807) (h2 : p2.length ≤ 9223372036854775807) : Ev (fun k => f_laws_FnExactSoundCells k p0 p1 p2) true := by
  refine Ev.succ ?_
  simp only [f_laws_FnExactSoundCells]
  by_cases q1 : (p1.length : Int) > 1048576
  · simp only [q1, decide_true, if_true]; exact Ev.some _
  simp only [q1, decide_false, Bool.false_eq_true, if_false]
  refine Ev.bind (e_laws_szBoard _ _ (by first | omega | (dsimp only; omega)) (by first | omega | (dsimp only; omega)) (by first | omega | (dsimp only; omega))) ?_
  by_cases q2 : (1048576 : Int) - (p0.2.2.length : Int) < 0
  · simp only [q2, if_true]; exact Ev.some _
  simp only [q2, if_false, decide_false, Bool.false_eq_true]
  refine Ev.bind (e_laws_szFallS _ _ (by first | omega | (dsimp only; omega)) (by first | omega | (dsimp only; omega)) (by first | omega | (dsimp only; omega))) ?_
  by_cases q3 : (1048576 : Int) - (p0.2.2.length : Int) - (p2.length : Int) < 0
  · simp only [q3, if_true]; exact Ev.some _
  simp only [q3, if_false, decide_false, Bool.false_eq_true]
  have es := e_spec_SoundCells p0 p1 p2 (by omega) (by omega) (by omega)
  have ei := e_impl_SoundCells p0 p1 p2 (by omega) (by omega) (by omega)
  have hr := r_SoundCells_len p0 p1 p2
  generalize r_SoundCells p0 p1 p2 = R at es ei hr
  refine Ev.bind (e_laws_toBoard _ (by first | omega | (dsimp only; omega))) ?_
  refine Ev.bind (e_laws_toIntS _ (by first | omega | (dsimp only; omega))) ?_
  refine Ev.bind (e_laws_toFallS _ (by first | omega | (dsimp only; omega))) ?_
  refine Ev.bind es ?_
  refine Ev.bind (e_laws_toBoard _ (by first | omega | (dsimp only; omega))) ?_
  refine Ev.bind (e_laws_toIntS _ (by first | omega | (dsimp only; omega))) ?_
  refine Ev.bind (e_laws_toFallS _ (by first | omega | (dsimp only; omega))) ?_
  refine Ev.bind ei ?_
  refine Ev.bind (e_laws_eqIntS _ _ (by first | omega | (dsimp only; omega))) ?_
  simp only [decide_true, beq_self_eq_true, ne_eq, not_true_eq_false, decide_false, Bool.not_true, Bool.false_eq_true, if_false]
  refine Ev.bind (e_laws_toBoard _ (by first | omega | (dsimp only; omega))) ?_
  refine Ev.bind (e_laws_eqBoard _ _ (by first | omega | (dsimp only; omega))) ?_
  simp only [decide_true, beq_self_eq_true, ne_eq, not_true_eq_false, decide_false, Bool.not_true, Bool.false_eq_true, if_false]
  refine Ev.bind (e_laws_toIntS _ (by first | omega | (dsimp only; omega))) ?_
  refine Ev.bind (e_laws_eqIntS _ _ (by first | omega | (dsimp only; omega))) ?_
  simp only [decide_true, beq_self_eq_true, ne_eq, not_true_eq_false, decide_false, Bool.not_true, Bool.false_eq_true, if_false]
  refine Ev.bind (e_laws_toFallS _ (by first | omega | (dsimp only; omega))) ?_
  refine Ev.bind (e_laws_eqFallS _ _ (by first | omega | (dsimp only; omega))) ?_
  simp only [decide_true, beq_self_eq_true, ne_eq, not_true_eq_false, decide_false, Bool.not_true, Bool.false_eq_true, if_false]
  refine Ev.bind (e_laws_markBoard _ _ (by first | omega | (dsimp only; omega)) (by first | omega | (dsimp only; omega))) ?_
  try dsimp only
  refine Ev.bind (e_laws_markIntS _ _ (by first | omega | (dsimp only; omega)) (by first | omega | (dsimp only; omega))) ?_
  try dsimp only
  refine Ev.bind (e_laws_markFallS _ _ (by first | omega | (dsimp only; omega)) (by first | omega | (dsimp only; omega))) ?_
  try dsimp only
  refine Ev.ite (fun h => by simp only [decide_eq_true_eq] at h; omega) (fun h => ?_)
  refine Ev.bind (e_laws_eqIntS _ _ (by first | omega | (dsimp only; omega))) ?_
  simp only [decide_true, beq_self_eq_true, ne_eq, not_true_eq_false, decide_false, Bool.not_true, Bool.false_eq_true, if_false]
  refine Ev.bind (e_laws_markIntS _ _ (by first | omega | (dsimp only; omega)) (by first | omega | (dsimp only; omega))) ?_
  try dsimp only
  refine Ev.bind (e_laws_heldIntS _ _ (by first | omega | (dsimp only; omega)) (by first | omega | (dsimp only; omega))) ?_
  try dsimp only
  refine Ev.ite (fun h => by simp only [decide_eq_true_eq] at h; omega) (fun h => ?_)
  simp only [decide_true, beq_self_eq_true, ne_eq, not_true_eq_false, decide_false, Bool.not_true, Bool.false_eq_true, if_false]
  refine Ev.bind (e_laws_toBoard _ (by first | omega | (dsimp only; omega))) ?_
  refine Ev.bind (e_laws_toIntS _ (by first | omega | (dsimp only; omega))) ?_
  refine Ev.bind (e_laws_toFallS _ (by first | omega | (dsimp only; omega))) ?_
  refine Ev.bind ei ?_
  refine Ev.bind (e_laws_eqIntS _ _ (by first | omega | (dsimp only; omega))) ?_
  simp only [decide_true, beq_self_eq_true, ne_eq, not_true_eq_false, decide_false, Bool.not_true, Bool.false_eq_true, if_false]
  refine Ev.bind (e_laws_heldIntS _ _ (by first | omega | (dsimp only; omega)) (by first | omega | (dsimp only; omega))) ?_
  try dsimp only
  refine Ev.ite (fun h => by simp only [decide_eq_true_eq] at h; omega) (fun h => ?_)
  simp only [decide_true, beq_self_eq_true, ne_eq, not_true_eq_false, decide_false, Bool.not_true, Bool.false_eq_true, if_false]
  exact Ev.some _
end Go.Proofs.Ytgpmbmnfcbippaa.Vs
