/- Possible faults. -/
import Derived.Test.YtgpmbmnfcbippaaqtesVsDn
set_option linter.unusedVariables false
set_option linter.unusedSimpArgs false
namespace Go.Proofs.Ytgpmbmnfcbippaa.Vs
open Go.RowKit
def kindsAt (C i : Int) (x : CellD) : List FaultD := ([1, 2, 3].filter (fits x)).map fun kd => (kd, Int.tdiv i C, Int.tmod i C)
/-- All faults that the cells can have, by their cells, then by their kinds. -/
def possFrom (C : Int) : Int → List CellD → List FaultD
  | _, [] => []
  | i, x :: r => kindsAt C i x ++ possFrom C (i + 1) r
theorem kindsAt_len (C i : Int) (x : CellD) : (kindsAt C i x).length ≤ 3 := by
  unfold kindsAt
  rw [List.length_map]
  exact Nat.le_trans (List.length_filter_le _ _) (by simp)
theorem possFrom_len (C : Int) : ∀ (r : List CellD) (i : Int), (possFrom C i r).length ≤ 3 * r.length
  | [], _ => by simp [possFrom]
  | x :: r, i => by
    have h1 := kindsAt_len C i x
    have h2 := possFrom_len C r (i + 1)
    simp only [possFrom, List.length_append, List.length_cons]
    omega
theorem tdiv_in {i C : Int} (hi : 0 ≤ i) (hC : 1 ≤ C) : 0 ≤ Int.tdiv i C ∧ Int.tdiv i C ≤ i := by
  rw [Int.tdiv_eq_ediv_of_nonneg hi]
  exact ⟨Int.ediv_nonneg hi (by omega), Int.ediv_le_self _ hi⟩
theorem e_spec_faPossible_2_step (R C : Int) (cs : List CellD) (x : CellD) (i kd : Int) (hi : 0 ≤ i) (hi2 : i ≤ 90) (hC : 1 ≤ C) (hk : 1 ≤ kd) (hk2 : kd ≤ 3) (v8 : List CellD) (v9 v10 : Int) (o : List FaultD) (ho : o.length ≤ 1000) (z : Int × Int × List CellD × List FaultD × List CellD × Int × Int)
    (h : Ev (fun k => f_spec_faPossible_2 k R C cs (if fits x kd then o ++ [(kd, Int.tdiv i C, Int.tmod i C)] else o) x.1 x.2 i (kd + 1) v8 v9 v10) z) : Ev (fun k => f_spec_faPossible_2 k R C cs o x.1 x.2 i kd v8 v9 v10) z := by
  have hd := tdiv_in hi hC
  have hC0 : ¬ C = 0 := by omega
  have hlen : o.length + 1 ≤ 5864062014805 := by omega
  refine Ev.succ ?_
  simp only [f_spec_faPossible_2, hk2, decide_true, if_true]
  rw [w64 (n := kd + 1) (by omega) (by omega), w64 (n := Int.tdiv i C) (by omega) (by omega)]
  refine Ev.bind (e_spec_faFits x kd) ?_
  cases hf : fits x kd with
  | true =>
    simp only [hf, if_true] at h
    simp only [if_true, hC0, if_false, List.length_singleton]
    have : o.length + 1 ≤ 140737488355328 / 24 := by omega
    simp only [this, if_true]
    exact h
  | false =>
    simp only [hf, Bool.false_eq_true, if_false] at h
    simp only [Bool.false_eq_true, if_false]
    exact h
theorem e_spec_faPossible_2 (R C : Int) (cs : List CellD) (x : CellD) (i : Int) (hi : 0 ≤ i) (hi2 : i ≤ 90) (hC : 1 ≤ C) (v8 : List CellD) (v9 v10 : Int) (o : List FaultD) (ho : o.length ≤ 900) : Ev (fun k => f_spec_faPossible_2 k R C cs o x.1 x.2 i 1 v8 v9 v10) (R, C, cs, o ++ kindsAt C i x, v8, v9, v10) := by
  have e1 : (if fits x 1 then o ++ [(1, Int.tdiv i C, Int.tmod i C)] else o) = o ++ (if fits x 1 then [(1, Int.tdiv i C, Int.tmod i C)] else []) := by split <;> simp
  refine e_spec_faPossible_2_step R C cs x i 1 hi hi2 hC (by omega) (by omega) v8 v9 v10 o (by omega) _ ?_
  rw [e1]
  generalize h1 : (if fits x 1 then [((1 : Int), Int.tdiv i C, Int.tmod i C)] else []) = o1
  have l1 : o1.length ≤ 1 := by rw [← h1]; split <;> simp
  refine e_spec_faPossible_2_step R C cs x i 2 hi hi2 hC (by omega) (by omega) v8 v9 v10 _ (by simp; omega) _ ?_
  have e2 : (if fits x 2 then (o ++ o1) ++ [(2, Int.tdiv i C, Int.tmod i C)] else o ++ o1) = (o ++ o1) ++ (if fits x 2 then [(2, Int.tdiv i C, Int.tmod i C)] else []) := by split <;> simp
  rw [e2]
  generalize h2 : (if fits x 2 then [((2 : Int), Int.tdiv i C, Int.tmod i C)] else []) = o2
  have l2 : o2.length ≤ 1 := by rw [← h2]; split <;> simp
  refine e_spec_faPossible_2_step R C cs x i 3 hi hi2 hC (by omega) (by omega) v8 v9 v10 _ (by simp; omega) _ ?_
  refine Ev.succ ?_
  simp only [f_spec_faPossible_2]
  have h4 : ¬ (3 + 1 : Int) ≤ 3 := by omega
  simp only [h4, decide_false, Bool.false_eq_true, if_false]
  refine Ev.of ?_
  rw [← h1, ← h2]
  unfold kindsAt
  cases f1 : fits x 1 <;> cases f2 : fits x 2 <;> cases f3 : fits x 3 <;> simp [List.filter, f1, f2, f3]
theorem e_spec_faPossible_0 (R C : Int) (hC : 1 ≤ C) (cs : List CellD) : ∀ (r pre : List CellD) (o : List FaultD), (pre ++ r).length ≤ 90 → o.length ≤ 3 * pre.length → Ev (fun k => f_spec_faPossible_0 k R C cs o (pre ++ r) ((pre ++ r).length : Int) (pre.length : Int)) (o ++ possFrom C pre.length r)
  | [], pre, o, hl, ho => by
    refine Ev.succ ?_
    simp only [f_spec_faPossible_0, nlt_end, decide_false, Bool.false_eq_true, if_false, possFrom]
    rw [List.append_nil o]
    exact Ev.some _
  | x :: r, pre, o, hl, ho => by
    have hl2 := hl
    simp only [List.length_append, List.length_cons] at hl2
    have hka : (kindsAt C pre.length x).length ≤ 3 := kindsAt_len _ _ _
    have ih := e_spec_faPossible_0 R C hC cs r (pre ++ [x]) (o ++ kindsAt C pre.length x) (by simpa using hl) (by simp; omega)
    refine Ev.succ ?_
    simp only [f_spec_faPossible_0, lt_mid, ge_mid, decide_true, if_true, Int.toNat_natCast, getD_mid]
    refine Ev.bind (e_spec_faPossible_2 R C cs x (pre.length : Int) (by omega) (by omega) hC (pre ++ x :: r) ((pre ++ x :: r).length : Int) (pre.length : Int) o (by omega)) ?_
    show Ev (fun k => f_spec_faPossible_0 k R C cs (o ++ kindsAt C pre.length x) (pre ++ x :: r) ((pre ++ x :: r).length : Int) (wrap64 ((pre.length : Int) + 1))) _
    rw [next_mid pre x r (by omega)]
    rw [← shift_mid] at ih
    refine ih.congr ?_
    simp [possFrom]
theorem e_spec_faPossible (b : BoardD) (hb : boardOK b = true) : Ev (fun k => f_spec_faPossible k b) (possFrom b.2.1 0 b.2.2) := by
  obtain ⟨g1, g2, g3, g4, g5, g6⟩ := board_ok hb
  have hp := prod_small g1 g2 g3 g4
  refine Ev.succ ?_
  simp only [f_spec_faPossible]
  exact Ev.bind (e_spec_faPossible_0 b.1 b.2.1 g3 b.2.2 b.2.2 [] [] (by simp; omega) (by simp)) (Ev.some _)
theorem e_impl_possibleFaults_2_step (R C : Int) (cs : List CellD) (x : CellD) (hx : cellOK x = true) (i kd : Int) (hi : 0 ≤ i) (hi2 : i ≤ 90) (hC : 1 ≤ C) (hk : 1 ≤ kd) (hk2 : kd ≤ 3) (v8 : List CellD) (v9 v10 : Int) (o : List FaultD) (ho : o.length ≤ 1000) (z : Int × Int × List CellD × List FaultD × List CellD × Int × Int)
    (h : Ev (fun k => f_impl_possibleFaults_2 k R C cs (if fits x kd then o ++ [(kd, Int.tdiv i C, Int.tmod i C)] else o) x.1 x.2 i (kd + 1) v8 v9 v10) z) : Ev (fun k => f_impl_possibleFaults_2 k R C cs o x.1 x.2 i kd v8 v9 v10) z := by
  have hd := tdiv_in hi hC
  have hC0 : ¬ C = 0 := by omega
  have hlen : o.length + 1 ≤ 5864062014805 := by omega
  refine Ev.succ ?_
  simp only [f_impl_possibleFaults_2, hk2, decide_true, if_true]
  rw [w64 (n := kd + 1) (by omega) (by omega), w64 (n := Int.tdiv i C) (by omega) (by omega)]
  refine Ev.bind (e_impl_canHave x kd hx) ?_
  cases hf : fits x kd with
  | true =>
    simp only [hf, if_true] at h
    simp only [if_true, hC0, if_false, List.length_singleton]
    have : o.length + 1 ≤ 140737488355328 / 24 := by omega
    simp only [this, if_true]
    exact h
  | false =>
    simp only [hf, Bool.false_eq_true, if_false] at h
    simp only [Bool.false_eq_true, if_false]
    exact h
theorem e_impl_possibleFaults_2 (R C : Int) (cs : List CellD) (x : CellD) (hx : cellOK x = true) (i : Int) (hi : 0 ≤ i) (hi2 : i ≤ 90) (hC : 1 ≤ C) (v8 : List CellD) (v9 v10 : Int) (o : List FaultD) (ho : o.length ≤ 900) : Ev (fun k => f_impl_possibleFaults_2 k R C cs o x.1 x.2 i 1 v8 v9 v10) (R, C, cs, o ++ kindsAt C i x, v8, v9, v10) := by
  have e1 : (if fits x 1 then o ++ [(1, Int.tdiv i C, Int.tmod i C)] else o) = o ++ (if fits x 1 then [(1, Int.tdiv i C, Int.tmod i C)] else []) := by split <;> simp
  refine e_impl_possibleFaults_2_step R C cs x hx i 1 hi hi2 hC (by omega) (by omega) v8 v9 v10 o (by omega) _ ?_
  rw [e1]
  generalize h1 : (if fits x 1 then [((1 : Int), Int.tdiv i C, Int.tmod i C)] else []) = o1
  have l1 : o1.length ≤ 1 := by rw [← h1]; split <;> simp
  refine e_impl_possibleFaults_2_step R C cs x hx i 2 hi hi2 hC (by omega) (by omega) v8 v9 v10 _ (by simp; omega) _ ?_
  have e2 : (if fits x 2 then (o ++ o1) ++ [(2, Int.tdiv i C, Int.tmod i C)] else o ++ o1) = (o ++ o1) ++ (if fits x 2 then [(2, Int.tdiv i C, Int.tmod i C)] else []) := by split <;> simp
  rw [e2]
  generalize h2 : (if fits x 2 then [((2 : Int), Int.tdiv i C, Int.tmod i C)] else []) = o2
  have l2 : o2.length ≤ 1 := by rw [← h2]; split <;> simp
  refine e_impl_possibleFaults_2_step R C cs x hx i 3 hi hi2 hC (by omega) (by omega) v8 v9 v10 _ (by simp; omega) _ ?_
  refine Ev.succ ?_
  simp only [f_impl_possibleFaults_2]
  have h4 : ¬ (3 + 1 : Int) ≤ 3 := by omega
  simp only [h4, decide_false, Bool.false_eq_true, if_false]
  refine Ev.of ?_
  rw [← h1, ← h2]
  unfold kindsAt
  cases f1 : fits x 1 <;> cases f2 : fits x 2 <;> cases f3 : fits x 3 <;> simp [List.filter, f1, f2, f3]
theorem e_impl_possibleFaults_0 (R C : Int) (hC : 1 ≤ C) (cs : List CellD) : ∀ (r pre : List CellD) (o : List FaultD), (∀ y ∈ r, cellOK y = true) → (pre ++ r).length ≤ 90 → o.length ≤ 3 * pre.length → Ev (fun k => f_impl_possibleFaults_0 k R C cs o (pre ++ r) ((pre ++ r).length : Int) (pre.length : Int)) (o ++ possFrom C pre.length r)
  | [], pre, o, hx, hl, ho => by
    refine Ev.succ ?_
    simp only [f_impl_possibleFaults_0, nlt_end, decide_false, Bool.false_eq_true, if_false, possFrom]
    rw [List.append_nil o]
    exact Ev.some _
  | x :: r, pre, o, hx, hl, ho => by
    have hl2 := hl
    simp only [List.length_append, List.length_cons] at hl2
    have hka : (kindsAt C pre.length x).length ≤ 3 := kindsAt_len _ _ _
    have ih := e_impl_possibleFaults_0 R C hC cs r (pre ++ [x]) (o ++ kindsAt C pre.length x) (fun y hy => hx y (List.mem_cons_of_mem _ hy)) (by simpa using hl) (by simp; omega)
    refine Ev.succ ?_
    simp only [f_impl_possibleFaults_0, lt_mid, ge_mid, decide_true, if_true, Int.toNat_natCast, getD_mid]
    refine Ev.bind (e_impl_possibleFaults_2 R C cs x (hx x (List.mem_cons_self ..)) (pre.length : Int) (by omega) (by omega) hC (pre ++ x :: r) ((pre ++ x :: r).length : Int) (pre.length : Int) o (by omega)) ?_
    show Ev (fun k => f_impl_possibleFaults_0 k R C cs (o ++ kindsAt C pre.length x) (pre ++ x :: r) ((pre ++ x :: r).length : Int) (wrap64 ((pre.length : Int) + 1))) _
    rw [next_mid pre x r (by omega)]
    rw [← shift_mid] at ih
    refine ih.congr ?_
    simp [possFrom]
theorem e_impl_possibleFaults (b : BoardD) (hb : boardOK b = true) : Ev (fun k => f_impl_possibleFaults k b) (possFrom b.2.1 0 b.2.2) := by
  obtain ⟨g1, g2, g3, g4, g5, g6⟩ := board_ok hb
  have hp := prod_small g1 g2 g3 g4
  refine Ev.succ ?_
  simp only [f_impl_possibleFaults]
  exact Ev.bind (e_impl_possibleFaults_0 b.1 b.2.1 g3 b.2.2 b.2.2 [] [] g6 (by simp; omega) (by simp)) (Ev.some _)
theorem div_mod {i C : Int} (hi : 0 ≤ i) (hC : 1 ≤ C) : Int.tdiv i C * C + Int.tmod i C = i ∧ 0 ≤ Int.tmod i C ∧ Int.tmod i C < C ∧ 0 ≤ Int.tdiv i C := by
  rw [Int.tdiv_eq_ediv_of_nonneg hi, Int.tmod_eq_emod_of_nonneg hi]
  refine ⟨?_, Int.emod_nonneg _ (by omega), Int.emod_lt_of_pos _ (by omega), Int.ediv_nonneg hi (by omega)⟩
  rw [Int.mul_comm]
  exact Int.mul_ediv_add_emod i C
theorem kindsAt_mem {C i : Int} {x : CellD} {f : FaultD} (h : f ∈ kindsAt C i x) : f.2.1 = Int.tdiv i C ∧ f.2.2 = Int.tmod i C ∧ fits x f.1 = true := by
  unfold kindsAt at h
  obtain ⟨kd, h1, rfl⟩ := List.mem_map.1 h
  exact ⟨rfl, rfl, (List.mem_filter.1 h1).2⟩
theorem poss_mem {C : Int} : ∀ {r : List CellD} {i : Nat} {f : FaultD}, f ∈ possFrom C i r → ∃ j : Nat, i ≤ j ∧ j < i + r.length ∧ f.2.1 = Int.tdiv j C ∧ f.2.2 = Int.tmod j C ∧ fits (List.getD r (j - i) (0, 0)) f.1 = true
  | [], i, f, h => by simp [possFrom] at h
  | x :: r, i, f, h => by
    simp only [possFrom, List.mem_append] at h
    rcases h with h | h
    · obtain ⟨h1, h2, h3⟩ := kindsAt_mem h
      exact ⟨i, Nat.le_refl _, by simp, h1, h2, by simpa using h3⟩
    · have h' : f ∈ possFrom C ((i + 1 : Nat) : Int) r := h
      obtain ⟨j, h1, h2, h3, h4, h5⟩ := poss_mem h'
      refine ⟨j, by omega, by simp only [List.length_cons]; omega, h3, h4, ?_⟩
      rw [show j - i = (j - (i + 1)) + 1 by omega]
      exact h5
theorem poss_fault {b : BoardD} (hb : boardOK b = true) {f : FaultD} (h : f ∈ possFrom b.2.1 0 b.2.2) : 0 ≤ f.2.1 ∧ f.2.1 < b.1 ∧ 0 ≤ f.2.2 ∧ f.2.2 < b.2.1 ∧ fits (List.getD b.2.2 (placeOf b f).toNat (0, 0)) f.1 = true := by
  obtain ⟨g1, g2, g3, g4, g5, g6⟩ := board_ok hb
  have h' : f ∈ possFrom b.2.1 ((0 : Nat) : Int) b.2.2 := h
  obtain ⟨j, h1, h2, h3, h4, h5⟩ := poss_mem h'
  obtain ⟨d1, d2, d3, d4⟩ := div_mod (i := (j : Int)) (C := b.2.1) (by omega) g3
  have hp : placeOf b f = j := by unfold placeOf; rw [h3, h4]; exact d1
  refine ⟨by rw [h3]; exact d4, ?_, by rw [h4]; exact d2, by rw [h4]; exact d3, ?_⟩
  · rw [h3]
    by_cases hh : Int.tdiv (j : Int) b.2.1 < b.1
    · exact hh
    · have := Int.mul_le_mul_of_nonneg_right (show b.1 ≤ Int.tdiv (j : Int) b.2.1 by omega) (show 0 ≤ b.2.1 by omega)
      omega
  · rw [hp]
    simpa using h5
theorem poss_one {b : BoardD} (hb : boardOK b = true) {f : FaultD} (h : f ∈ possFrom b.2.1 0 b.2.2) : faultsOK b (-1) [f] = true := by
  obtain ⟨h1, h2, h3, h4, h5⟩ := poss_fault hb h
  have hp := place_ok hb h1 h2 h3 h4
  unfold placeOf at h5
  have h6 : 0 ≤ f.2.1 ∧ f.2.1 < b.1 ∧ 0 ≤ f.2.2 ∧ f.2.2 < b.2.1 ∧ -1 < f.2.1 * b.2.1 + f.2.2 := ⟨h1, h2, h3, h4, by omega⟩
  simp only [faultsOK, h5, h6, and_self, decide_true, Bool.and_self]
theorem poss_count {b : BoardD} (hb : boardOK b = true) : (possFrom b.2.1 0 b.2.2).length ≤ 270 := by
  obtain ⟨g1, g2, g3, g4, g5, g6⟩ := board_ok hb
  have hpp := prod_small g1 g2 g3 g4
  have := possFrom_len b.2.1 b.2.2 0
  omega
end Go.Proofs.Ytgpmbmnfcbippaa.Vs
