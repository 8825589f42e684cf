/- What the program and the reference say of faults, told once for both. -/
import Derived.Test.YtgpmbmnfcbippaaqtesVsBd
set_option linter.unusedVariables false
set_option linter.unusedSimpArgs false
namespace Go.Proofs.Ytgpmbmnfcbippaa.Vs
open Go.RowKit
/-! ### Faults -/
def fits (x : CellD) (kd : Int) : Bool := decide (kd = 2) || (decide (kd = 1) && turning x) || (decide (kd = 3) && (turning x || decide (x.1 = 1 ∨ x.1 = 2)))
theorem e_spec_faFits (x : CellD) (kd : Int) : Ev (fun k => f_spec_faFits k x kd) (fits x kd) := by
  refine Ev.succ ?_
  simp only [f_spec_faFits]
  refine Ev.ite (fun h => ?_) (fun h => ?_)
  · simp only [decide_eq_true_eq] at h
    refine Ev.bind (e_spec_paTurning x) (Ev.of ?_)
    simp [fits, h]
  · simp only [decide_eq_true_eq] at h
    refine Ev.ite (fun h2 => ?_) (fun h2 => ?_)
    · simp only [decide_eq_true_eq] at h2
      exact Ev.of (by simp [fits, h2])
    · simp only [decide_eq_true_eq] at h2
      refine Ev.ite (fun h3 => ?_) (fun h3 => ?_)
      · simp only [decide_eq_true_eq] at h3
        refine Ev.bind (e_spec_paTurning x) (Ev.ite (fun h4 => ?_) (fun h4 => ?_))
        · exact Ev.of (by simp [fits, h3, h4])
        · refine Ev.of ?_
          simp only [Bool.not_eq_true] at h4
          by_cases h5 : x.1 = 1 <;> simp [fits, h3, h4, h5]
      · simp only [decide_eq_true_eq] at h3
        exact Ev.of (by simp [fits, h, h2, h3])
theorem e_impl_canHave (x : CellD) (kd : Int) (hx : cellOK x = true) : Ev (fun k => f_impl_canHave k x kd) (fits x kd) := by
  have ht : Ev (fun k => f_impl_IsTurning k x) (turning x) := by simpa [hx] using e_impl_IsTurning x
  refine Ev.succ ?_
  simp only [f_impl_canHave]
  refine Ev.ite (fun h => ?_) (fun h => ?_)
  · simp only [decide_eq_true_eq] at h
    refine Ev.bind ht (Ev.of ?_)
    simp [fits, h]
  · simp only [decide_eq_true_eq] at h
    refine Ev.ite (fun h2 => ?_) (fun h2 => ?_)
    · simp only [decide_eq_true_eq] at h2
      exact Ev.of (by simp [fits, h2])
    · simp only [decide_eq_true_eq] at h2
      refine Ev.ite (fun h3 => ?_) (fun h3 => ?_)
      · simp only [decide_eq_true_eq] at h3
        refine Ev.bind ht (Ev.ite (fun h4 => ?_) (fun h4 => ?_))
        · exact Ev.of (by simp [fits, h3, h4])
        · refine Ev.of ?_
          simp only [Bool.not_eq_true] at h4
          by_cases h5 : x.1 = 1 <;> simp [fits, h3, h4, h5]
      · simp only [decide_eq_true_eq] at h3
        exact Ev.of (by simp [fits, h, h2, h3])
/-- Faults in strictly increasing order of their cells, each on the board and of a kind that its cell can have. -/
def faultsOK (b : BoardD) : Int → List FaultD → Bool
  | _, [] => true
  | last, x :: r => decide (0 ≤ x.2.1 ∧ x.2.1 < b.1 ∧ 0 ≤ x.2.2 ∧ x.2.2 < b.2.1 ∧ last < x.2.1 * b.2.1 + x.2.2) && fits (List.getD b.2.2 (x.2.1 * b.2.1 + x.2.2).toNat (0, 0)) x.1 && faultsOK b (x.2.1 * b.2.1 + x.2.2) r
theorem e_spec_boAt (b : BoardD) (hb : boardOK b = true) {r c : Int} (h1 : 0 ≤ r) (h2 : r < b.1) (h3 : 0 ≤ c) (h4 : c < b.2.1) : Ev (fun k => f_spec_boAt k b r c) (List.getD b.2.2 (r * b.2.1 + c).toNat (0, 0)) := by
  have hp := place_ok hb h1 h2 h3 h4
  refine Ev.succ ?_
  simp only [f_spec_boAt]
  rw [w64 (n := r * b.2.1) (by omega) (by omega), w64 (by omega) (by omega)]
  simp only [hp.1, hp.2.1, if_true]
  exact Ev.some _
theorem e_spec_faGood_0 (b : BoardD) (hb : boardOK b = true) (w : List FaultD) : ∀ (r pre : List FaultD) (last : Int), (pre ++ r).length ≤ 9223372036854775806 → Ev (fun k => f_spec_faGood_0 k b.1 b.2.1 b.2.2 w last (pre ++ r) ((pre ++ r).length : Int) (pre.length : Int)) (if faultsOK b last r then LR.go w else LR.ret false)
  | [], pre, last, hl => by
    refine Ev.succ ?_
    simp only [f_spec_faGood_0, nlt_end, decide_false, Bool.false_eq_true, if_false, faultsOK, if_true]
    exact Ev.some _
  | x :: r, pre, last, hl => by
    obtain ⟨g1, g2, g3, g4, g5, g6⟩ := board_ok hb
    refine Ev.succ ?_
    simp only [f_spec_faGood_0, lt_mid, ge_mid, decide_true, if_true, Int.toNat_natCast, getD_mid]
    rw [next_mid pre x r (by omega), w64 (n := b.1 - 1) (by omega) (by omega), w64 (n := b.2.1 - 1) (by omega) (by omega)]
    refine Ev.bind (e_spec_l1In _ _ _) (Ev.ite (fun h => Ev.of ?_) (fun h => ?_))
    · have h : ¬ (0 ≤ x.2.1 ∧ x.2.1 ≤ b.1 - 1) := nd h
      rw [if_neg (by simp only [faultsOK, Bool.and_eq_true, decide_eq_true_eq]; omega)]
    have h1 : 0 ≤ x.2.1 ∧ x.2.1 ≤ b.1 - 1 := yd h
    refine Ev.bind (e_spec_l1In _ _ _) (Ev.ite (fun h => Ev.of ?_) (fun h => ?_))
    · have h : ¬ (0 ≤ x.2.2 ∧ x.2.2 ≤ b.2.1 - 1) := nd h
      rw [if_neg (by simp only [faultsOK, Bool.and_eq_true, decide_eq_true_eq]; omega)]
    have h2 : 0 ≤ x.2.2 ∧ x.2.2 ≤ b.2.1 - 1 := yd h
    have hp := place_ok hb h1.1 (by omega) h2.1 (by omega)
    rw [w64 (n := x.2.1 * b.2.1) (by omega) (by omega), w64 (n := x.2.1 * b.2.1 + x.2.2) (by omega) (by omega)]
    refine Ev.bind (e_spec_boAt b hb h1.1 (by omega) h2.1 (by omega)) ?_
    refine Ev.bind (e_spec_faFits _ _) (Ev.ite (fun h => Ev.of ?_) (fun h => ?_))
    · have h : fits (List.getD b.2.2 (x.2.1 * b.2.1 + x.2.2).toNat (0, 0)) x.1 = false := by simpa using h
      simp only [faultsOK, h, Bool.and_false, Bool.false_and, Bool.false_eq_true, if_false]
    have h3 : fits (List.getD b.2.2 (x.2.1 * b.2.1 + x.2.2).toNat (0, 0)) x.1 = true := by simpa using h
    refine Ev.ite (fun h => Ev.of ?_) (fun h => ?_)
    · simp only [decide_eq_true_eq] at h
      rw [if_neg (by simp only [faultsOK, Bool.and_eq_true, decide_eq_true_eq]; omega)]
    simp only [decide_eq_true_eq] at h
    have ih := e_spec_faGood_0 b hb w r (pre ++ [x]) (x.2.1 * b.2.1 + x.2.2) (by simpa using hl)
    rw [← shift_mid] at ih
    refine ih.congr ?_
    have h5 : 0 ≤ x.2.1 ∧ x.2.1 < b.1 ∧ 0 ≤ x.2.2 ∧ x.2.2 < b.2.1 ∧ last < x.2.1 * b.2.1 + x.2.2 := by omega
    simp only [faultsOK, h3, h5, and_self, decide_true, Bool.true_and]
theorem e_spec_faGood (b : BoardD) (hb : boardOK b = true) (l : List FaultD) (hl : l.length ≤ 9223372036854775806) : Ev (fun k => f_spec_faGood k b l) (decide (l.length ≤ 4) && faultsOK b (-1) l) := by
  refine Ev.succ ?_
  simp only [f_spec_faGood]
  refine Ev.bind (e_spec_faGood_0 b hb l l [] (-1) (by simpa using hl)) ?_
  cases hx : faultsOK b (-1) l with
  | true =>
    simp only [if_true]
    refine Ev.go (Ev.of ?_)
    by_cases h4 : l.length ≤ 4
    · have : (l.length : Int) ≤ 4 := by omega
      simp [h4, this]
    · have : ¬ (l.length : Int) ≤ 4 := by omega
      simp [h4, this]
  | false =>
    simp only [Bool.false_eq_true, if_false, Bool.and_false]
    exact Ev.ret (Ev.some _)
theorem e_impl_areFaults_0 (b : BoardD) (hb : boardOK b = true) : ∀ (r pre : List FaultD) (last : Int), (pre ++ r).length ≤ 9223372036854775806 → Ev (fun k => f_impl_areFaults_0 k b.1 b.2.1 b.2.2 last (pre ++ r) ((pre ++ r).length : Int) (pre.length : Int)) (if faultsOK b last r then LR.go () else LR.ret false)
  | [], pre, last, hl => by
    refine Ev.succ ?_
    simp only [f_impl_areFaults_0, nlt_end, decide_false, Bool.false_eq_true, if_false, faultsOK, if_true]
    exact Ev.some _
  | x :: r, pre, last, hl => by
    obtain ⟨g1, g2, g3, g4, g5, g6⟩ := board_ok hb
    have hp := prod_small g1 g2 g3 g4
    refine Ev.succ ?_
    simp only [f_impl_areFaults_0, lt_mid, ge_mid, decide_true, if_true, Int.toNat_natCast, getD_mid]
    rw [next_mid pre x r (by omega)]
    refine Ev.bind (e_impl_onBoard b _ _ (by omega)) (Ev.ite (fun h => Ev.of ?_) (fun h => ?_))
    · rw [hb, Bool.true_and] at h
      have h : ¬ (0 ≤ x.2.1 ∧ x.2.1 < b.1 ∧ 0 ≤ x.2.2 ∧ x.2.2 < b.2.1) := nd h
      rw [if_neg (by simp only [faultsOK, Bool.and_eq_true, decide_eq_true_eq]; omega)]
    rw [hb, Bool.true_and] at h
    have h1 : 0 ≤ x.2.1 ∧ x.2.1 < b.1 ∧ 0 ≤ x.2.2 ∧ x.2.2 < b.2.1 := yd h
    have hp := place_ok hb h1.1 h1.2.1 h1.2.2.1 h1.2.2.2
    rw [w64 (n := x.2.1 * b.2.1) (by omega) (by omega), w64 (n := x.2.1 * b.2.1 + x.2.2) (by omega) (by omega)]
    refine Ev.ite (fun h => Ev.of ?_) (fun h => ?_)
    · simp only [decide_eq_true_eq] at h
      rw [if_neg (by simp only [faultsOK, Bool.and_eq_true, decide_eq_true_eq]; omega)]
    simp only [decide_eq_true_eq] at h
    simp only [hp.1, hp.2.1, if_true]
    refine Ev.bind (e_impl_canHave _ _ (g6 _ (cell_in hp.1 hp.2.1 _))) (Ev.ite (fun h => Ev.of ?_) (fun h => ?_))
    · have h : fits (List.getD b.2.2 (x.2.1 * b.2.1 + x.2.2).toNat (0, 0)) x.1 = false := by simpa using h
      simp only [faultsOK, h, Bool.and_false, Bool.false_and, Bool.false_eq_true, if_false]
    have h3 : fits (List.getD b.2.2 (x.2.1 * b.2.1 + x.2.2).toNat (0, 0)) x.1 = true := by simpa using h
    have ih := e_impl_areFaults_0 b hb r (pre ++ [x]) (x.2.1 * b.2.1 + x.2.2) (by simpa using hl)
    rw [← shift_mid] at ih
    refine ih.congr ?_
    have h5 : 0 ≤ x.2.1 ∧ x.2.1 < b.1 ∧ 0 ≤ x.2.2 ∧ x.2.2 < b.2.1 ∧ last < x.2.1 * b.2.1 + x.2.2 := by omega
    simp only [faultsOK, h3, h5, and_self, decide_true, Bool.true_and]
theorem e_impl_areFaults (b : BoardD) (hb : boardOK b = true) (l : List FaultD) (hl : l.length ≤ 9223372036854775806) : Ev (fun k => f_impl_areFaults k b l) (decide (l.length ≤ 4) && faultsOK b (-1) l) := by
  refine Ev.succ ?_
  simp only [f_impl_areFaults]
  refine Ev.ite (fun h => Ev.of ?_) (fun h => ?_)
  · simp only [decide_eq_true_eq] at h
    have : ¬ l.length ≤ 4 := by omega
    simp [this]
  simp only [decide_eq_true_eq] at h
  have h4 : l.length ≤ 4 := by omega
  refine Ev.bind (e_impl_areFaults_0 b hb l [] (-1) (by simpa using hl)) ?_
  simp only [h4, decide_true, Bool.true_and]
  cases hx : faultsOK b (-1) l with
  | true => simp only [if_true]; exact Ev.go (Ev.some _)
  | false => simp only [Bool.false_eq_true, if_false]; exact Ev.ret (Ev.some _)
end Go.Proofs.Ytgpmbmnfcbippaa.Vs
