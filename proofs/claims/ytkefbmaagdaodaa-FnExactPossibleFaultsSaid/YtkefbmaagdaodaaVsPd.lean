/- The law on possible faults holds for all arguments. -/
import Derived.Test.YtkefbmaagdaodaaVsPc
set_option linter.unusedVariables false
set_option linter.unusedSimpArgs false
namespace Go.Proofs.Ytkefbmaagdaodaa.Vs
open Go.RowKit
def kindsAt (C i : Int) (x : CellD) : List FaultD := ([1, 2, 3].filter (fits x)).map fun kd => (kd, Int.tdiv i C, Int.tmod i C)
/-- All faults that the cells can have, by their cells, then by their kinds. -/
def possFrom (C : Int) : Int → List CellD → List FaultD
  | _, [] => []
  | i, x :: r => kindsAt C i x ++ possFrom C (i + 1) r
theorem kindsAt_len (C i : Int) (x : CellD) : (kindsAt C i x).length ≤ 3 := by
  unfold kindsAt
  rw [List.length_map]
  exact Nat.le_trans (List.length_filter_le _ _) (by simp)
theorem possFrom_len (C : Int) : ∀ (r : List CellD) (i : Int), (possFrom C i r).length ≤ 3 * r.length
  | [], _ => by simp [possFrom]
  | x :: r, i => by
    have h1 := kindsAt_len C i x
    have h2 := possFrom_len C r (i + 1)
    simp only [possFrom, List.length_append, List.length_cons]
    omega
theorem tdiv_in {i C : Int} (hi : 0 ≤ i) (hC : 1 ≤ C) : 0 ≤ Int.tdiv i C ∧ Int.tdiv i C ≤ i := by
  rw [Int.tdiv_eq_ediv_of_nonneg hi]
  exact ⟨Int.ediv_nonneg hi (by omega), Int.ediv_le_self _ hi⟩
theorem e_spec_faPossible_2_step (R C : Int) (cs : List CellD) (x : CellD) (i kd : Int) (hi : 0 ≤ i) (hi2 : i ≤ 90) (hC : 1 ≤ C) (hk : 1 ≤ kd) (hk2 : kd ≤ 3) (v8 : List CellD) (v9 v10 : Int) (o : List FaultD) (ho : o.length ≤ 1000) (z : Int × Int × List CellD × List FaultD × List CellD × Int × Int)
    (h : Ev (fun k => f_spec_faPossible_2 k R C cs (if fits x kd then o ++ [(kd, Int.tdiv i C, Int.tmod i C)] else o) x.1 x.2 i (kd + 1) v8 v9 v10) z) : Ev (fun k => f_spec_faPossible_2 k R C cs o x.1 x.2 i kd v8 v9 v10) z := by
  have hd := tdiv_in hi hC
  have hC0 : ¬ C = 0 := by omega
  have hlen : o.length + 1 ≤ 5864062014805 := by omega
  refine Ev.succ ?_
  simp only [f_spec_faPossible_2, hk2, decide_true, if_true]
  rw [w64 (n := kd + 1) (by omega) (by omega), w64 (n := Int.tdiv i C) (by omega) (by omega)]
  refine Ev.bind (e_spec_faFits x kd) ?_
  cases hf : fits x kd with
  | true =>
    simp only [hf, if_true] at h
    simp only [if_true, hC0, if_false, List.length_singleton]
    have : o.length + 1 ≤ 140737488355328 / 24 := by omega
    simp only [this, if_true]
    exact h
  | false =>
    simp only [hf, Bool.false_eq_true, if_false] at h
    simp only [Bool.false_eq_true, if_false]
    exact h
theorem e_spec_faPossible_2 (R C : Int) (cs : List CellD) (x : CellD) (i : Int) (hi : 0 ≤ i) (hi2 : i ≤ 90) (hC : 1 ≤ C) (v8 : List CellD) (v9 v10 : Int) (o : List FaultD) (ho : o.length ≤ 900) : Ev (fun k => f_spec_faPossible_2 k R C cs o x.1 x.2 i 1 v8 v9 v10) (R, C, cs, o ++ kindsAt C i x, v8, v9, v10) := by
  have e1 : (if fits x 1 then o ++ [(1, Int.tdiv i C, Int.tmod i C)] else o) = o ++ (if fits x 1 then [(1, Int.tdiv i C, Int.tmod i C)] else []) := by split <;> simp
  refine e_spec_faPossible_2_step R C cs x i 1 hi hi2 hC (by omega) (by omega) v8 v9 v10 o (by omega) _ ?_
  rw [e1]
  generalize h1 : (if fits x 1 then [((1 : Int), Int.tdiv i C, Int.tmod i C)] else []) = o1
  have l1 : o1.length ≤ 1 := by rw [← h1]; split <;> simp
  refine e_spec_faPossible_2_step R C cs x i 2 hi hi2 hC (by omega) (by omega) v8 v9 v10 _ (by simp; omega) _ ?_
  have e2 : (if fits x 2 then (o ++ o1) ++ [(2, Int.tdiv i C, Int.tmod i C)] else o ++ o1) = (o ++ o1) ++ (if fits x 2 then [(2, Int.tdiv i C, Int.tmod i C)] else []) := by split <;> simp
  rw [e2]
  generalize h2 : (if fits x 2 then [((2 : Int), Int.tdiv i C, Int.tmod i C)] else []) = o2
  have l2 : o2.length ≤ 1 := by rw [← h2]; split <;> simp
  refine e_spec_faPossible_2_step R C cs x i 3 hi hi2 hC (by omega) (by omega) v8 v9 v10 _ (by simp; omega) _ ?_
  refine Ev.succ ?_
  simp only [f_spec_faPossible_2]
  have h4 : ¬ (3 + 1 : Int) ≤ 3 := by omega
  simp only [h4, decide_false, Bool.false_eq_true, if_false]
  refine Ev.of ?_
  rw [← h1, ← h2]
  unfold kindsAt
  cases f1 : fits x 1 <;> cases f2 : fits x 2 <;> cases f3 : fits x 3 <;> simp [List.filter, f1, f2, f3]
theorem e_spec_faPossible_0 (R C : Int) (hC : 1 ≤ C) (cs : List CellD) : ∀ (r pre : List CellD) (o : List FaultD), (pre ++ r).length ≤ 90 → o.length ≤ 3 * pre.length → Ev (fun k => f_spec_faPossible_0 k R C cs o (pre ++ r) ((pre ++ r).length : Int) (pre.length : Int)) (o ++ possFrom C pre.length r)
  | [], pre, o, hl, ho => by
    refine Ev.succ ?_
    simp only [f_spec_faPossible_0, nlt_end, decide_false, Bool.false_eq_true, if_false, possFrom]
    rw [List.append_nil o]
    exact Ev.some _
  | x :: r, pre, o, hl, ho => by
    have hl2 := hl
    simp only [List.length_append, List.length_cons] at hl2
    have hka : (kindsAt C pre.length x).length ≤ 3 := kindsAt_len _ _ _
    have ih := e_spec_faPossible_0 R C hC cs r (pre ++ [x]) (o ++ kindsAt C pre.length x) (by simpa using hl) (by simp; omega)
    refine Ev.succ ?_
    simp only [f_spec_faPossible_0, lt_mid, ge_mid, decide_true, if_true, Int.toNat_natCast, getD_mid]
    refine Ev.bind (e_spec_faPossible_2 R C cs x (pre.length : Int) (by omega) (by omega) hC (pre ++ x :: r) ((pre ++ x :: r).length : Int) (pre.length : Int) o (by omega)) ?_
    show Ev (fun k => f_spec_faPossible_0 k R C cs (o ++ kindsAt C pre.length x) (pre ++ x :: r) ((pre ++ x :: r).length : Int) (wrap64 ((pre.length : Int) + 1))) _
    rw [next_mid pre x r (by omega)]
    rw [← shift_mid] at ih
    refine ih.congr ?_
    simp [possFrom]
theorem e_spec_faPossible (b : BoardD) (hb : boardOK b = true) : Ev (fun k => f_spec_faPossible k b) (possFrom b.2.1 0 b.2.2) := by
  obtain ⟨g1, g2, g3, g4, g5, g6⟩ := board_ok hb
  have hp := prod_small g1 g2 g3 g4
  refine Ev.succ ?_
  simp only [f_spec_faPossible]
  exact Ev.bind (e_spec_faPossible_0 b.1 b.2.1 g3 b.2.2 b.2.2 [] [] (by simp; omega) (by simp)) (Ev.some _)
theorem e_spec_PossibleFaults (b : BoardD) (hl : b.2.2.length ≤ 9223372036854775806) : Ev (fun k => f_spec_PossibleFaults k b) (if boardOK b then (possFrom b.2.1 0 b.2.2, true) else ([], false)) := by
  refine Ev.succ ?_
  simp only [f_spec_PossibleFaults]
  refine Ev.bind (e_spec_boGood b hl) ?_
  cases hb : boardOK b with
  | false => simp only [Bool.not_false, if_true, Bool.false_eq_true, if_false]; exact Ev.some _
  | true =>
    simp only [Bool.not_true, Bool.false_eq_true, if_false, if_true]
    exact Ev.bind (e_spec_faPossible b hb) (Ev.some _)
theorem e_impl_possibleFaults_2_step (R C : Int) (cs : List CellD) (x : CellD) (hx : cellOK x = true) (i kd : Int) (hi : 0 ≤ i) (hi2 : i ≤ 90) (hC : 1 ≤ C) (hk : 1 ≤ kd) (hk2 : kd ≤ 3) (v8 : List CellD) (v9 v10 : Int) (o : List FaultD) (ho : o.length ≤ 1000) (z : Int × Int × List CellD × List FaultD × List CellD × Int × Int)
    (h : Ev (fun k => f_impl_possibleFaults_2 k R C cs (if fits x kd then o ++ [(kd, Int.tdiv i C, Int.tmod i C)] else o) x.1 x.2 i (kd + 1) v8 v9 v10) z) : Ev (fun k => f_impl_possibleFaults_2 k R C cs o x.1 x.2 i kd v8 v9 v10) z := by
  have hd := tdiv_in hi hC
  have hC0 : ¬ C = 0 := by omega
  have hlen : o.length + 1 ≤ 5864062014805 := by omega
  refine Ev.succ ?_
  simp only [f_impl_possibleFaults_2, hk2, decide_true, if_true]
  rw [w64 (n := kd + 1) (by omega) (by omega), w64 (n := Int.tdiv i C) (by omega) (by omega)]
  refine Ev.bind (e_impl_canHave x kd hx) ?_
  cases hf : fits x kd with
  | true =>
    simp only [hf, if_true] at h
    simp only [if_true, hC0, if_false, List.length_singleton]
    have : o.length + 1 ≤ 140737488355328 / 24 := by omega
    simp only [this, if_true]
    exact h
  | false =>
    simp only [hf, Bool.false_eq_true, if_false] at h
    simp only [Bool.false_eq_true, if_false]
    exact h
theorem e_impl_possibleFaults_2 (R C : Int) (cs : List CellD) (x : CellD) (hx : cellOK x = true) (i : Int) (hi : 0 ≤ i) (hi2 : i ≤ 90) (hC : 1 ≤ C) (v8 : List CellD) (v9 v10 : Int) (o : List FaultD) (ho : o.length ≤ 900) : Ev (fun k => f_impl_possibleFaults_2 k R C cs o x.1 x.2 i 1 v8 v9 v10) (R, C, cs, o ++ kindsAt C i x, v8, v9, v10) := by
  have e1 : (if fits x 1 then o ++ [(1, Int.tdiv i C, Int.tmod i C)] else o) = o ++ (if fits x 1 then [(1, Int.tdiv i C, Int.tmod i C)] else []) := by split <;> simp
  refine e_impl_possibleFaults_2_step R C cs x hx i 1 hi hi2 hC (by omega) (by omega) v8 v9 v10 o (by omega) _ ?_
  rw [e1]
  generalize h1 : (if fits x 1 then [((1 : Int), Int.tdiv i C, Int.tmod i C)] else []) = o1
  have l1 : o1.length ≤ 1 := by rw [← h1]; split <;> simp
  refine e_impl_possibleFaults_2_step R C cs x hx i 2 hi hi2 hC (by omega) (by omega) v8 v9 v10 _ (by simp; omega) _ ?_
  have e2 : (if fits x 2 then (o ++ o1) ++ [(2, Int.tdiv i C, Int.tmod i C)] else o ++ o1) = (o ++ o1) ++ (if fits x 2 then [(2, Int.tdiv i C, Int.tmod i C)] else []) := by split <;> simp
  rw [e2]
  generalize h2 : (if fits x 2 then [((2 : Int), Int.tdiv i C, Int.tmod i C)] else []) = o2
  have l2 : o2.length ≤ 1 := by rw [← h2]; split <;> simp
  refine e_impl_possibleFaults_2_step R C cs x hx i 3 hi hi2 hC (by omega) (by omega) v8 v9 v10 _ (by simp; omega) _ ?_
  refine Ev.succ ?_
  simp only [f_impl_possibleFaults_2]
  have h4 : ¬ (3 + 1 : Int) ≤ 3 := by omega
  simp only [h4, decide_false, Bool.false_eq_true, if_false]
  refine Ev.of ?_
  rw [← h1, ← h2]
  unfold kindsAt
  cases f1 : fits x 1 <;> cases f2 : fits x 2 <;> cases f3 : fits x 3 <;> simp [List.filter, f1, f2, f3]
theorem e_impl_possibleFaults_0 (R C : Int) (hC : 1 ≤ C) (cs : List CellD) : ∀ (r pre : List CellD) (o : List FaultD), (∀ y ∈ r, cellOK y = true) → (pre ++ r).length ≤ 90 → o.length ≤ 3 * pre.length → Ev (fun k => f_impl_possibleFaults_0 k R C cs o (pre ++ r) ((pre ++ r).length : Int) (pre.length : Int)) (o ++ possFrom C pre.length r)
  | [], pre, o, hx, hl, ho => by
    refine Ev.succ ?_
    simp only [f_impl_possibleFaults_0, nlt_end, decide_false, Bool.false_eq_true, if_false, possFrom]
    rw [List.append_nil o]
    exact Ev.some _
  | x :: r, pre, o, hx, hl, ho => by
    have hl2 := hl
    simp only [List.length_append, List.length_cons] at hl2
    have hka : (kindsAt C pre.length x).length ≤ 3 := kindsAt_len _ _ _
    have ih := e_impl_possibleFaults_0 R C hC cs r (pre ++ [x]) (o ++ kindsAt C pre.length x) (fun y hy => hx y (List.mem_cons_of_mem _ hy)) (by simpa using hl) (by simp; omega)
    refine Ev.succ ?_
    simp only [f_impl_possibleFaults_0, lt_mid, ge_mid, decide_true, if_true, Int.toNat_natCast, getD_mid]
    refine Ev.bind (e_impl_possibleFaults_2 R C cs x (hx x (List.mem_cons_self ..)) (pre.length : Int) (by omega) (by omega) hC (pre ++ x :: r) ((pre ++ x :: r).length : Int) (pre.length : Int) o (by omega)) ?_
    show Ev (fun k => f_impl_possibleFaults_0 k R C cs (o ++ kindsAt C pre.length x) (pre ++ x :: r) ((pre ++ x :: r).length : Int) (wrap64 ((pre.length : Int) + 1))) _
    rw [next_mid pre x r (by omega)]
    rw [← shift_mid] at ih
    refine ih.congr ?_
    simp [possFrom]
theorem e_impl_possibleFaults (b : BoardD) (hb : boardOK b = true) : Ev (fun k => f_impl_possibleFaults k b) (possFrom b.2.1 0 b.2.2) := by
  obtain ⟨g1, g2, g3, g4, g5, g6⟩ := board_ok hb
  have hp := prod_small g1 g2 g3 g4
  refine Ev.succ ?_
  simp only [f_impl_possibleFaults]
  exact Ev.bind (e_impl_possibleFaults_0 b.1 b.2.1 g3 b.2.2 b.2.2 [] [] g6 (by simp; omega) (by simp)) (Ev.some _)
theorem e_impl_PossibleFaults (b : BoardD) (hl : b.2.2.length ≤ 9223372036854775806) : Ev (fun k => f_impl_PossibleFaults k b) (if boardOK b then (possFrom b.2.1 0 b.2.2, true) else ([], false)) := by
  refine Ev.succ ?_
  simp only [f_impl_PossibleFaults]
  refine Ev.bind (e_impl_IsBoard b hl) ?_
  cases hb : boardOK b with
  | false => simp only [Bool.not_false, if_true, Bool.false_eq_true, if_false]; exact Ev.some _
  | true =>
    simp only [Bool.not_true, Bool.false_eq_true, if_false, if_true]
    exact Ev.bind (e_impl_possibleFaults b hb) (Ev.some _)
theorem e_laws_markBoard (b : BoardD) (c : Int) (hc : 0 ≤ c) (h : c + 2 * b.2.2.length ≤ 4611686018427387904) : Ev (fun k => f_laws_markBoard k b c) (c + 2 * b.2.2.length, marksCellS b.2.2 c) := by
  refine Ev.succ ?_
  simp only [f_laws_markBoard]
  exact Ev.bind (e_laws_markCellS _ c hc h) (Ev.some _)
theorem law_FnExactPossibleFaults (b : BoardD) (h1 : b.2.2.length ≤ 9223372036854775807) : Ev (fun k => f_laws_FnExactPossibleFaults k b) true := by
  refine Ev.succ ?_
  simp only [f_laws_FnExactPossibleFaults]
  refine Ev.bind (e_laws_szBoard b 1048576 (by omega) (by omega) h1) ?_
  by_cases h3 : (1048576 : Int) - (b.2.2.length : Int) < 0
  · simp only [h3, if_true]; exact Ev.some _
  simp only [h3, if_false, decide_false, Bool.false_eq_true]
  have hr : (if boardOK b then (possFrom b.2.1 0 b.2.2, true) else ([], false) : List FaultD × Bool).1.length ≤ 3 * b.2.2.length := by
    split
    · exact possFrom_len _ _ _
    · simp
  generalize hR : (if boardOK b then (possFrom b.2.1 0 b.2.2, true) else ([], false) : List FaultD × Bool) = R at hr
  have es : Ev (fun k => f_spec_PossibleFaults k b) R := by rw [← hR]; exact e_spec_PossibleFaults b (by omega)
  have ei : Ev (fun k => f_impl_PossibleFaults k b) R := by rw [← hR]; exact e_impl_PossibleFaults b (by omega)
  refine Ev.bind (e_laws_toBoard b (by omega)) (Ev.bind es ?_)
  refine Ev.bind (e_laws_toBoard b (by omega)) (Ev.bind ei ?_)
  refine Ev.bind (e_laws_eqFaultS R.1 R.1 (by omega)) ?_
  simp only [decide_true, beq_self_eq_true, Bool.not_true, Bool.false_eq_true, if_false]
  refine Ev.bind (e_laws_toBoard b (by omega)) (Ev.bind (e_laws_eqBoard b b (by omega)) ?_)
  simp only [decide_true, Bool.not_true, Bool.false_eq_true, if_false]
  refine Ev.bind (e_laws_markBoard b 1 (by omega) (by omega)) ?_
  have n1 : ¬ (1 + 2 * (b.2.2.length : Int) < 0) := by omega
  simp only [n1, decide_false, Bool.false_eq_true, if_false]
  refine Ev.bind (e_laws_eqFaultS R.1 R.1 (by omega)) ?_
  simp only [decide_true, beq_self_eq_true, Bool.not_true, Bool.false_eq_true, if_false]
  refine Ev.bind (e_laws_markFaultS R.1 1 (by omega) (by omega)) (Ev.bind (e_laws_heldFaultS R.1 1 (by omega) (by omega)) ?_)
  have n2 : ¬ (1 + 3 * (R.1.length : Int) < 0) := by omega
  simp only [n2, ne_eq, not_true_eq_false, decide_false, Bool.false_eq_true, if_false]
  refine Ev.bind (e_laws_toBoard b (by omega)) (Ev.bind ei ?_)
  refine Ev.bind (e_laws_eqFaultS R.1 R.1 (by omega)) ?_
  simp only [decide_true, beq_self_eq_true, Bool.not_true, Bool.false_eq_true, if_false]
  refine Ev.bind (e_laws_heldFaultS R.1 1 (by omega) (by omega)) ?_
  simp only [n2, ne_eq, not_true_eq_false, decide_false, Bool.false_eq_true, if_false]
  exact Ev.some _
end Go.Proofs.Ytkefbmaagdaodaa.Vs
