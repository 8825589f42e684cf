/- The proof, part 8. -/
import Derived.Test.Ytjjlmnbmpgfcbaaqam6
set_option linter.unusedVariables false
set_option linter.unusedSimpArgs false
namespace Go.Proofs.Ytjjlmnbmpgfcbaa.Vs
open Go.RowKit
/-! ### Boards of one size that differ in whole units -/
def turnSt (L M : List CellD) : List (List Int) → List CellD → List CellD
  | [], o => o
  | u :: r, o => turnSt L M r (if cellAt L (List.getD u 0 0) = cellAt M (List.getD u 0 0) then o else turnU u o)
theorem turnSt_len (L M : List CellD) : ∀ (r : List (List Int)) (o : List CellD), (turnSt L M r o).length = o.length
  | [], _ => rfl
  | u :: r, o => by
    simp only [turnSt]
    rw [turnSt_len L M r]
    split
    · rfl
    · exact turnU_len u o
theorem cell_eq (x y : CellD) : (decide (x.1 = y.1) && (decide (x.2 = y.2) && true)) = decide (x = y) := by
  obtain ⟨a, b⟩ := x
  obtain ⟨c, d⟩ := y
  by_cases h1 : a = c <;> by_cases h2 : b = d <;> simp [h1, h2]
theorem e_impl_turnedUnits_2 (b1 b2 : Int) (b3 : List CellD) (c1 c2 : Int) (c3 : List CellD) (o3 : List Int) (d1 d2 : Int) (us : List (List Int)) (v17 v18 v42 : Int) (v43 : Int) (u : List Int) (hu : List.getD us v42.toNat [] = u) : ∀ (r pre : List Int) (o : List CellD), pre ++ r = u → v43 = (u.length : Int) → (∀ c ∈ o, isBit c.2) → (∀ m ∈ r, 0 ≤ m ∧ m < (o.length : Int)) → u.length ≤ 1000 →
    Ev (fun k => f_impl_turnedUnits_2 k b1 b2 b3 c1 c2 c3 o3 d1 d2 o us v17 v18 v42 v43 (pre.length : Int)) (b1, b2, b3, c1, c2, c3, o3, d1, d2, turnU r o, us, v17, v18)
  | [], pre, o, hp, h43, ho, hr, hl => by
    have hn : ¬ (pre.length : Int) < v43 := by rw [h43, ← hp]; exact nlt_end pre
    refine Ev.succ ?_
    simp only [f_impl_turnedUnits_2, hn, decide_false, Bool.false_eq_true, if_false]
    exact Ev.some _
  | m :: r, pre, o, hp, h43, ho, hr, hl => by
    obtain ⟨h0, h1⟩ := hr m (List.mem_cons_self ..)
    have hlt : (pre.length : Int) < v43 := by rw [h43, ← hp]; exact lt_mid pre m r
    have hlt2 : (pre.length : Int) < (u.length : Int) := by rw [← hp]; exact lt_mid pre m r
    have hg : List.getD u pre.length 0 = m := by rw [← hp]; exact getD_mid _ _ _ _
    have ih := e_impl_turnedUnits_2 b1 b2 b3 c1 c2 c3 o3 d1 d2 us v17 v18 v42 v43 u hu r (pre ++ [m]) (flipAt o m) (by rw [← hp]; simp) h43 (flipAt_bits ho h0 h1) (fun i hi => by have := hr i (List.mem_cons_of_mem _ hi); simpa [flipAt] using this) hl
    refine Ev.succ ?_
    simp only [f_impl_turnedUnits_2, hu, hlt, hlt2, ge_mid, decide_true, if_true, Int.toNat_natCast, hg, h0, h1]
    rw [flip_set ho h0 h1, next_mid pre m r (by rw [hp]; omega)]
    exact ih
theorem e_impl_turnedUnits_0 (L M : List CellD) (hM : M.length = L.length) (b1 b2 c1 c2 d1 d2 : Int) : ∀ (r pre : List (List Int)) (o : List CellD) (w : List Int), o.length = L.length → Units r o.length → (∀ c ∈ o, isBit c.2) → (∀ u ∈ r, u.length ≤ 1000) → (pre ++ r).length ≤ 1000 → w.length ≤ pre.length →
    ∃ w', Ev (fun k => f_impl_turnedUnits_0 k b1 b2 L c1 c2 M w d1 d2 o (pre ++ r) ((pre ++ r).length : Int) (pre.length : Int)) (c1, c2, M, w', d1, d2, turnSt L M r o)
  | [], pre, o, w, hL, hU, ho, hr, hl, hw => by
    refine ⟨w, Ev.succ ?_⟩
    simp only [f_impl_turnedUnits_0, nlt_end, decide_false, Bool.false_eq_true, if_false]
    exact Ev.some _
  | u :: r, pre, o, w, hL, hU, ho, hr, hl, hw => by
    have hon := hU.on u (List.mem_cons_self ..)
    obtain ⟨p1, p2, p3⟩ := hU.heads u (List.mem_cons_self ..)
    rw [hL] at p3
    have p4 : List.getD u 0 0 < (M.length : Int) := by omega
    have p1' : (0 : Int) < (u.length : Int) := by omega
    by_cases hc : cellAt L (List.getD u 0 0) = cellAt M (List.getD u 0 0)
    · obtain ⟨w', ih⟩ := e_impl_turnedUnits_0 L M hM b1 b2 c1 c2 d1 d2 r (pre ++ [u]) o w hL hU.tail ho (fun v hv => hr v (List.mem_cons_of_mem _ hv)) (by simpa using hl) (by simp; omega)
      rw [← shift_mid] at ih
      refine ⟨w', Ev.succ ?_⟩
      have hc' : decide (List.getD L (List.getD u 0 0).toNat (0, 0) = List.getD M (List.getD u 0 0).toNat (0, 0)) = true := by simpa [cellAt] using hc
      simp only [f_impl_turnedUnits_0, lt_mid, ge_mid, decide_true, if_true, Int.toNat_natCast, getD_mid, Int.toNat_zero, p1', p2, p3, p4, cell_eq, hc', turnSt, hc]
      rw [next_mid pre u r (by omega)]
      exact ih
    · have hwl : w.length + 1 ≤ 140737488355328 / 8 := by simp at hl; omega
      obtain ⟨w', ih⟩ := e_impl_turnedUnits_0 L M hM b1 b2 c1 c2 d1 d2 r (pre ++ [u]) (turnU u o) (w ++ [(pre.length : Int)]) (by rw [turnU_len]; exact hL) (by rw [turnU_len]; exact hU.tail) (turnU_bits u o ho hon) (fun v hv => hr v (List.mem_cons_of_mem _ hv)) (by simpa using hl) (by simp; omega)
      rw [← shift_mid] at ih
      refine ⟨w', Ev.succ ?_⟩
      have hc' : decide (List.getD L (List.getD u 0 0).toNat (0, 0) = List.getD M (List.getD u 0 0).toNat (0, 0)) = false := by simpa [cellAt] using hc
      simp only [f_impl_turnedUnits_0, lt_mid, ge_mid, decide_true, if_true, Int.toNat_natCast, getD_mid, Int.toNat_zero, p1', p2, p3, p4, cell_eq, hc', turnSt, hc, Bool.false_eq_true, if_false, List.length_singleton, hwl]
      refine Ev.bind (e_impl_turnedUnits_2 b1 b2 L c1 c2 M (w ++ [(pre.length : Int)]) d1 d2 (pre ++ u :: r) _ _ (pre.length : Int) _ u (by rw [Int.toNat_natCast]; exact getD_mid _ _ _ _) u [] o rfl rfl ho hon (hr u (List.mem_cons_self ..))) ?_
      simp only
      rw [next_mid pre u r (by omega)]
      exact ih
theorem e_spec_saTurned_0 (L M : List CellD) (hM : M.length = L.length) (b1 b2 c1 c2 d1 d2 : Int) : ∀ (r pre : List (List Int)) (o : List CellD) (w : List Int), o.length = L.length → Units r o.length → (∀ c ∈ o, isBit c.2) → (∀ u ∈ r, u.length ≤ 1000) → (pre ++ r).length ≤ 1000 → w.length ≤ pre.length →
    ∃ w', Ev (fun k => f_spec_saTurned_0 k b1 b2 L c1 c2 M d1 d2 o w (pre ++ r) ((pre ++ r).length : Int) (pre.length : Int)) (c1, c2, M, d1, d2, turnSt L M r o, w')
  | [], pre, o, w, hL, hU, ho, hr, hl, hw => by
    refine ⟨w, Ev.succ ?_⟩
    simp only [f_spec_saTurned_0, nlt_end, decide_false, Bool.false_eq_true, if_false]
    exact Ev.some _
  | u :: r, pre, o, w, hL, hU, ho, hr, hl, hw => by
    have hon := hU.on u (List.mem_cons_self ..)
    obtain ⟨p1, p2, p3⟩ := hU.heads u (List.mem_cons_self ..)
    rw [hL] at p3
    have p4 : List.getD u 0 0 < (M.length : Int) := by omega
    have p1' : (0 : Int) < (u.length : Int) := by omega
    by_cases hc : cellAt L (List.getD u 0 0) = cellAt M (List.getD u 0 0)
    · obtain ⟨w', ih⟩ := e_spec_saTurned_0 L M hM b1 b2 c1 c2 d1 d2 r (pre ++ [u]) o w hL hU.tail ho (fun v hv => hr v (List.mem_cons_of_mem _ hv)) (by simpa using hl) (by simp; omega)
      rw [← shift_mid] at ih
      refine ⟨w', Ev.succ ?_⟩
      have hc' : decide (List.getD L (List.getD u 0 0).toNat (0, 0) = List.getD M (List.getD u 0 0).toNat (0, 0)) = true := by simpa [cellAt] using hc
      simp only [f_spec_saTurned_0, lt_mid, ge_mid, decide_true, if_true, Int.toNat_natCast, getD_mid, Int.toNat_zero, p1', p2, p3, p4, cell_eq, hc', turnSt, hc, Bool.not_true, Bool.false_eq_true, if_false]
      rw [next_mid pre u r (by omega)]
      exact ih
    · have hwl : w.length + 1 ≤ 140737488355328 / 8 := by simp at hl; omega
      obtain ⟨w', ih⟩ := e_spec_saTurned_0 L M hM b1 b2 c1 c2 d1 d2 r (pre ++ [u]) (turnU u o) (w ++ [(pre.length : Int)]) (by rw [turnU_len]; exact hL) (by rw [turnU_len]; exact hU.tail) (turnU_bits u o ho hon) (fun v hv => hr v (List.mem_cons_of_mem _ hv)) (by simpa using hl) (by simp; omega)
      rw [← shift_mid] at ih
      refine ⟨w', Ev.succ ?_⟩
      have hc' : decide (List.getD L (List.getD u 0 0).toNat (0, 0) = List.getD M (List.getD u 0 0).toNat (0, 0)) = false := by simpa [cellAt] using hc
      simp only [f_spec_saTurned_0, lt_mid, ge_mid, decide_true, if_true, Int.toNat_natCast, getD_mid, Int.toNat_zero, p1', p2, p3, p4, cell_eq, hc', turnSt, hc, Bool.not_false, Bool.false_eq_true, if_false, List.length_singleton, hwl]
      refine Ev.bind (e_spec_saTurn d1 d2 o u ho hon (hr u (List.mem_cons_self ..))) ?_
      rw [next_mid pre u r (by omega)]
      exact ih
theorem e_impl_sameBoard_0 (R C R' C' : Int) : ∀ (r s pre pre' : List CellD), s.length = r.length → pre'.length = pre.length → (pre ++ r).length ≤ 1000 → Ev (fun k => f_impl_sameBoard_0 k R C (pre ++ r) R' C' (pre' ++ s) ((pre ++ r).length : Int) (pre.length : Int)) (if r = s then LR.go () else LR.ret false)
  | [], s, pre, pre', h, hp, hl => by
    obtain rfl : s = [] := List.eq_nil_of_length_eq_zero h
    refine Ev.succ ?_
    simp only [f_impl_sameBoard_0, nlt_end, decide_false, Bool.false_eq_true, if_false, if_true]
    exact Ev.some _
  | x :: r, [], pre, pre', h, hp, hl => by simp at h
  | x :: r, y :: s, pre, pre', h, hp, hl => by
    have ih := e_impl_sameBoard_0 R C R' C' r s (pre ++ [x]) (pre' ++ [y]) (by simpa using h) (by simpa using hp) (by simpa using hl)
    have l2 : (pre.length : Int) < ((pre' ++ y :: s).length : Int) := by rw [← hp]; exact lt_mid _ _ _
    have g2 : List.getD (pre' ++ y :: s) pre.length (0, 0) = y := by rw [← hp]; exact getD_mid _ _ _ _
    refine Ev.succ ?_
    simp only [f_impl_sameBoard_0, lt_mid, ge_mid, l2, decide_true, if_true, Int.toNat_natCast, getD_mid, g2, cell_eq]
    rw [next_mid pre x r (by omega)]
    rw [← shift_mid, ← shift_mid] at ih
    by_cases hxy : x = y
    · subst hxy
      simp only [decide_true, Bool.not_true, Bool.false_eq_true, if_false]
      refine ih.congr ?_
      by_cases hrs : r = s <;> simp [hrs]
    · simp only [hxy, decide_false, Bool.not_false, if_true]
      refine Ev.of ?_
      rw [if_neg (by intro hc; injection hc with h1 h2; exact hxy h1)]
theorem e_impl_sameBoard (R C : Int) (o M : List CellD) (h : M.length = o.length) (hl : o.length ≤ 1000) : Ev (fun k => f_impl_sameBoard k (R, C, o) (R, C, M)) (decide (o = M)) := by
  have hlen : ¬ ((o.length : Int) ≠ (M.length : Int)) := by omega
  refine Ev.succ ?_
  simp only [f_impl_sameBoard, ne_eq, not_true_eq_false, decide_false, Bool.false_eq_true, if_false, h]
  have h0 := e_impl_sameBoard_0 R C R C o M [] [] h rfl (by simpa using hl)
  refine Ev.bind h0 ?_
  by_cases hoM : o = M
  · simp only [hoM, if_true, decide_true]; exact Ev.go (Ev.some _)
  · simp only [hoM, if_false, decide_false]; exact Ev.ret (Ev.some _)
def diffs : List CellD → List CellD → Int → List Int
  | x :: r, y :: s, i => (if x = y then [] else [i]) ++ diffs r s (i + 1)
  | _, _, _ => []
theorem diffs_nil : ∀ (r s : List CellD) (i : Int), s.length = r.length → ((diffs r s i).length = 0 ↔ r = s)
  | [], s, i, h => by
    obtain rfl : s = [] := List.eq_nil_of_length_eq_zero h
    simp [diffs]
  | x :: r, [], i, h => by simp at h
  | x :: r, y :: s, i, h => by
    have ih := diffs_nil r s (i + 1) (by simpa using h)
    simp only [diffs]
    by_cases hxy : x = y
    · subst hxy
      simp only [if_true, List.nil_append]
      rw [ih]
      simp
    · simp [hxy]
theorem e_spec_boDifferent_0 (R C : Int) : ∀ (r s pre pre' : List CellD) (w : List Int), s.length = r.length → pre'.length = pre.length → (pre ++ r).length ≤ 1000 → w.length ≤ pre.length → Ev (fun k => f_spec_boDifferent_0 k R C (pre' ++ s) w (pre ++ r) ((pre ++ r).length : Int) (pre.length : Int)) (w ++ diffs r s pre.length)
  | [], s, pre, pre', w, h, hp, hl, hw => by
    obtain rfl : s = [] := List.eq_nil_of_length_eq_zero h
    refine Ev.succ ?_
    simp only [f_spec_boDifferent_0, nlt_end, decide_false, Bool.false_eq_true, if_false]
    exact (Ev.some _).congr (by simp [diffs])
  | x :: r, [], pre, pre', w, h, hp, hl, hw => by simp at h
  | x :: r, y :: s, pre, pre', w, h, hp, hl, hw => by
    have ih := fun w' hw' => e_spec_boDifferent_0 R C r s (pre ++ [x]) (pre' ++ [y]) w' (by simpa using h) (by simpa using hp) (by simpa using hl) hw'
    have l2 : (pre.length : Int) < ((pre' ++ y :: s).length : Int) := by rw [← hp]; exact lt_mid _ _ _
    have g2 : List.getD (pre' ++ y :: s) pre.length (0, 0) = y := by rw [← hp]; exact getD_mid _ _ _ _
    have hwl : w.length + 1 ≤ 140737488355328 / 8 := by simp at hl; omega
    have hcast : ((pre ++ [x]).length : Int) = (pre.length : Int) + 1 := by simp
    refine Ev.succ ?_
    simp only [f_spec_boDifferent_0, lt_mid, ge_mid, l2, decide_true, if_true, Int.toNat_natCast, getD_mid, g2, cell_eq, List.length_singleton, hwl]
    rw [next_mid pre x r (by omega)]
    rw [← shift_mid, ← shift_mid, hcast] at ih
    rw [hcast]
    by_cases hxy : x = y
    · subst hxy
      simp only [decide_true, Bool.not_true, Bool.false_eq_true, if_false]
      refine (ih w (by simp; omega)).congr ?_
      simp [diffs]
    · simp only [hxy, decide_false, Bool.not_false, if_true]
      refine (ih (w ++ [(pre.length : Int)]) (by simp; omega)).congr ?_
      simp [diffs, hxy]
theorem e_spec_boDifferent (R C R' C' : Int) (o M : List CellD) (h : M.length = o.length) (hl : o.length ≤ 1000) : Ev (fun k => f_spec_boDifferent k (R, C, o) (R', C', M)) (diffs o M 0) := by
  refine Ev.succ ?_
  simp only [f_spec_boDifferent]
  exact Ev.bind (e_spec_boDifferent_0 R' C' o M [] [] [] h rfl (by simpa using hl) (Nat.le_refl _)) (Ev.some _)
/-- Two boards are states of one. -/
def statesOf (a b : BoardD) : Bool := decide (turnSt a.2.2 b.2.2 (unitsP a) a.2.2 = b.2.2)
theorem board_len {b : BoardD} (hb : boardOK b = true) : b.2.2.length ≤ 90 := by
  obtain ⟨g1, g2, g3, g4, g5, g6⟩ := board_ok hb
  have hpp := prod_small g1 g2 g3 g4
  omega
theorem same_len {a b : BoardD} (ha : boardOK a = true) (hb : boardOK b = true) (h1 : a.1 = b.1) (h2 : a.2.1 = b.2.1) : b.2.2.length = a.2.2.length := by
  have e1 := (board_ok ha).2.2.2.2.1
  have e2 := (board_ok hb).2.2.2.2.1
  rw [h1, h2] at e1
  omega
theorem e_impl_turnedUnits (a b : BoardD) (ha : boardOK a = true) (hb : boardOK b = true) (h1 : a.1 = b.1) (h2 : a.2.1 = b.2.1) : ∃ w, Ev (fun k => f_impl_turnedUnits k a b) (w, statesOf a b) := by
  have hlen := same_len ha hb h1 h2
  have hal := board_len ha
  have hul := units_small a ha
  obtain ⟨w, hw⟩ := e_impl_turnedUnits_0 a.2.2 b.2.2 hlen a.1 a.2.1 b.1 b.2.1 a.1 a.2.1 (unitsP a) [] a.2.2 [] rfl (units_units a) (cells_bits ha) (unit_lens a ha) (by simp; omega) (Nat.le_refl _)
  have hs := e_impl_sameBoard a.1 a.2.1 (turnSt a.2.2 b.2.2 (unitsP a) a.2.2) b.2.2 (by rw [turnSt_len]; exact hlen) (by rw [turnSt_len]; omega)
  rw [show (a.1, a.2.1, b.2.2) = (b.1, b.2.1, b.2.2) by rw [h1, h2]] at hs
  refine ⟨if statesOf a b then w else [], Ev.succ ?_⟩
  simp only [f_impl_turnedUnits]
  refine Ev.bind (e_impl_copyBoard a (by omega)) (Ev.bind (e_impl_unitsOf a ha) (Ev.bind hw (Ev.bind hs ?_)))
  unfold statesOf
  cases hd : decide (turnSt a.2.2 b.2.2 (unitsP a) a.2.2 = b.2.2) with
  | false => simp only [Bool.not_false, if_true, Bool.false_eq_true, if_false]; exact Ev.some _
  | true => simp only [Bool.not_true, Bool.false_eq_true, if_false, if_true]; exact Ev.some _
theorem e_spec_saTurned (a b : BoardD) (ha : boardOK a = true) (hb : boardOK b = true) (h1 : a.1 = b.1) (h2 : a.2.1 = b.2.1) : ∃ w, Ev (fun k => f_spec_saTurned k a b) (w, statesOf a b) := by
  have hlen := same_len ha hb h1 h2
  have hal := board_len ha
  have hul := units_small a ha
  obtain ⟨w, hw⟩ := e_spec_saTurned_0 a.2.2 b.2.2 hlen a.1 a.2.1 b.1 b.2.1 a.1 a.2.1 (unitsP a) [] a.2.2 [] rfl (units_units a) (cells_bits ha) (unit_lens a ha) (by simp; omega) (Nat.le_refl _)
  have hs := e_spec_boDifferent a.1 a.2.1 b.1 b.2.1 (turnSt a.2.2 b.2.2 (unitsP a) a.2.2) b.2.2 (by rw [turnSt_len]; exact hlen) (by rw [turnSt_len]; omega)
  have hd := diffs_nil (turnSt a.2.2 b.2.2 (unitsP a) a.2.2) b.2.2 0 (by rw [turnSt_len]; exact hlen)
  refine ⟨w, Ev.succ ?_⟩
  simp only [f_spec_saTurned]
  refine Ev.bind (e_spec_boOwn a (by omega)) (Ev.bind (e_spec_saUnits a ha) (Ev.bind hw (Ev.bind hs ?_)))
  refine (Ev.some _).congr ?_
  simp only [statesOf]
  congr 1
  rw [decide_eq_decide, ← hd]
  omega
theorem turnU_parts : ∀ (u : List Int) (o : List CellD), (∀ m ∈ u, 0 ≤ m ∧ m < (o.length : Int)) → (turnU u o).map Prod.fst = o.map Prod.fst
  | [], o, h => rfl
  | m :: u, o, h => by
    obtain ⟨h0, h1⟩ := h m (List.mem_cons_self ..)
    have hil : m.toNat < o.length := by omega
    have hp : (flipAt o m).map Prod.fst = o.map Prod.fst := by
      unfold flipAt
      rw [List.map_set]
      apply List.ext_getElem?
      intro j
      rw [List.getElem?_set]
      split
      · rename_i hij
        subst hij
        simp [cellAt, flipC, List.getD, List.getElem?_eq_getElem hil, hil]
      · rfl
    exact (turnU_parts u (flipAt o m) (fun i hi => by have := h i (List.mem_cons_of_mem _ hi); simpa [flipAt] using this)).trans hp
theorem turnSt_parts (L M : List CellD) : ∀ (r : List (List Int)) (o : List CellD), (∀ u ∈ r, ∀ m ∈ u, 0 ≤ m ∧ m < (o.length : Int)) → (turnSt L M r o).map Prod.fst = o.map Prod.fst
  | [], o, h => rfl
  | u :: r, o, h => by
    simp only [turnSt]
    split
    · exact turnSt_parts L M r o (fun v hv => h v (List.mem_cons_of_mem _ hv))
    · exact (turnSt_parts L M r (turnU u o) (fun v hv m hm => by rw [turnU_len]; exact h v (List.mem_cons_of_mem _ hv) m hm)).trans (turnU_parts u o (h u (List.mem_cons_self ..)))
theorem states_units {a b : BoardD} (h1 : a.1 = b.1) (h2 : a.2.1 = b.2.1) (h : statesOf a b = true) : unitsP b = unitsP a := by
  have h' : turnSt a.2.2 b.2.2 (unitsP a) a.2.2 = b.2.2 := by simpa [statesOf] using h
  refine (unitsP_parts h1 h2 ?_).symm
  rw [← h']
  exact (turnSt_parts a.2.2 b.2.2 (unitsP a) a.2.2 (units_units a).on).symm
/-! ### Marbles from one board to another one -/
theorem e_spec_MarblesFromTo_0 (b : BoardD) (hb : boardOK b = true) (hu : (unitsP b).length ≤ 40) (next : List Int) (hn : inside next) (hl : next.length ≤ 1000000) : ∀ (r : Nat) (at' : Int) (n : Nat), n + r = next.length → 0 ≤ at' → at' < (next.length : Int) → Ev (fun k => f_spec_MarblesFromTo_0 k b.1 b.2.1 b.2.2 next at' (n : Int)) (if at' = numB b then LR.ret ((n : Int), true) else match trip next (numB b) r at' ((n : Int) + 1) with | some x => LR.ret (x, true) | none => LR.go ())
  | r, at', n, h, h0, h1 => by
    have hle : (n : Int) ≤ (next.length : Int) := by omega
    have hin := inside_at hn h0 h1
    have hw : wrap64 ((n : Int) + 1) = ((n + 1 : Nat) : Int) := by rw [w64 (by omega) (by omega)]; omega
    have hc : ((n + 1 : Nat) : Int) = (n : Int) + 1 := by omega
    refine Ev.succ ?_
    simp only [f_spec_MarblesFromTo_0, hle, decide_true, if_true, h0, h1]
    refine Ev.bind (a := numB b) (e_spec_saNumber b hb hu) ?_
    by_cases ha : at' = numB b
    · simp only [ha, decide_true, if_true]; exact Ev.some _
    · simp only [ha, decide_false, Bool.false_eq_true, if_false, hw]
      cases r with
      | zero =>
        refine Ev.succ ?_
        have : ¬ ((n + 1 : Nat) : Int) ≤ (next.length : Int) := by omega
        simp only [f_spec_MarblesFromTo_0, this, decide_false, Bool.false_eq_true, if_false, trip]
        exact Ev.some _
      | succ r =>
        refine (e_spec_MarblesFromTo_0 b hb hu next hn hl r _ (n + 1) (by omega) hin.1 hin.2).congr ?_
        simp only [trip, hc]
        by_cases hz : List.getD next at'.toNat 0 = numB b
        · simp only [hz, if_true]
        · simp only [hz, if_false]
def r_MarblesFromTo (a b : BoardD) (c : Int) : Int × Bool := if backOK a c && (boardOK b && decide (a.1 = b.1 ∧ a.2.1 = b.2.1)) && statesOf a b then (if numB a = numB b then (0, true) else match trip (nextL a c) (numB b) (nextL a c).length (numB a) 1 with | some x => (x, true) | none => (0, false)) else (0, false)
theorem e_spec_boSize (a b : BoardD) (h0 : a.2.2.length ≤ 9223372036854775806) (h1 : b.2.2.length ≤ 9223372036854775806) : Ev (fun k => f_spec_boSize k a b) (boardOK a && (boardOK b && decide (a.1 = b.1 ∧ a.2.1 = b.2.1))) := by
  refine Ev.succ ?_
  simp only [f_spec_boSize]
  refine Ev.bind (e_spec_boGood a h0) ?_
  cases ha : boardOK a with
  | false => simp only [Bool.false_eq_true, if_false, Bool.false_and]; exact Ev.some _
  | true =>
    simp only [if_true, Bool.true_and]
    refine Ev.bind (e_spec_boGood b h1) ?_
    cases hb : boardOK b with
    | false => simp only [Bool.false_eq_true, if_false, Bool.false_and]; exact Ev.some _
    | true =>
      simp only [if_true, Bool.true_and]
      by_cases e1 : a.1 = b.1
      · simp only [e1, decide_true, if_true, true_and]; exact Ev.some _
      · simp only [e1, decide_false, Bool.false_eq_true, if_false, false_and]; exact Ev.some _
theorem e_spec_MarblesFromTo (a b : BoardD) (c : Int) (h0 : a.2.2.length ≤ 9223372036854775806) (h1 : b.2.2.length ≤ 9223372036854775806) : Ev (fun k => f_spec_MarblesFromTo k a b c) (r_MarblesFromTo a b c) := by
  refine Ev.succ ?_
  simp only [f_spec_MarblesFromTo]
  unfold r_MarblesFromTo
  refine Ev.bind (e_spec_rvHas a c h0) ?_
  cases g0 : backOK a c with
  | false => simp only [Bool.not_false, if_true, Bool.false_eq_true, if_false, Bool.false_and]; exact Ev.some _
  | true =>
    obtain ⟨ha, k1, k2, hu⟩ := back_ok g0
    have hs := nextL_small a hu c
    simp only [Bool.not_true, Bool.false_eq_true, if_false, if_true, Bool.true_and]
    refine Ev.bind (e_spec_boSize a b h0 h1) ?_
    rw [ha, Bool.true_and]
    cases g1 : boardOK b && decide (a.1 = b.1 ∧ a.2.1 = b.2.1) with
    | false => simp only [Bool.not_false, if_true, Bool.false_eq_true, if_false, Bool.false_and]; exact Ev.some _
    | true =>
      simp only [Bool.and_eq_true, decide_eq_true_eq] at g1
      obtain ⟨hb, e1, e2⟩ := g1
      obtain ⟨w, hw⟩ := e_spec_saTurned a b ha hb e1 e2
      simp only [Bool.not_true, Bool.false_eq_true, if_false, if_true, Bool.true_and]
      refine Ev.bind hw ?_
      cases g2 : statesOf a b with
      | false => simp only [Bool.not_false, if_true, Bool.false_eq_true, if_false]; exact Ev.some _
      | true =>
        simp only [Bool.not_true, Bool.false_eq_true, if_false, if_true]
        have hub := states_units e1 e2 g2
        have hra := numB_range a ha
        refine Ev.bind (e_spec_rvNext a ha hu c k1 k2) (Ev.bind (a := numB a) (e_spec_saNumber a ha (by omega)) ?_)
        have h := e_spec_MarblesFromTo_0 b hb (by rw [hub]; omega) (nextL a c) (nextL_inside a ha c) (by omega) (nextL a c).length (numB a) 0 (by omega) hra.1 (by rw [nextL_len, cast_pow]; exact hra.2)
        refine Ev.bind h ?_
        by_cases e : numB a = numB b
        · simp only [e, if_true]; exact Ev.ret (Ev.some _)
        · simp only [e, if_false, show ((0 : Nat) : Int) + 1 = 1 from rfl]
          cases trip (nextL a c) (numB b) (nextL a c).length (numB a) 1 with
          | none => exact Ev.go (Ev.some _)
          | some x => exact Ev.ret (Ev.some _)
theorem e_impl_MarblesFromTo (a b : BoardD) (c : Int) (h0 : a.2.2.length ≤ 9223372036854775806) (h1 : b.2.2.length ≤ 9223372036854775806) : Ev (fun k => f_impl_MarblesFromTo k a b c) (r_MarblesFromTo a b c) := by
  refine Ev.succ ?_
  simp only [f_impl_MarblesFromTo]
  unfold r_MarblesFromTo
  refine Ev.bind (e_impl_goesBack a c h0) ?_
  cases g0 : backOK a c with
  | false => simp only [Bool.not_false, if_true, Bool.false_eq_true, if_false, Bool.false_and]; exact Ev.some _
  | true =>
    obtain ⟨ha, k1, k2, hu⟩ := back_ok g0
    have hs := nextL_small a hu c
    simp only [Bool.not_true, Bool.false_eq_true, if_false, if_true, Bool.true_and]
    refine Ev.bind (e_impl_IsBoard b h1) ?_
    cases hb : boardOK b with
    | false => simp only [Bool.not_false, if_true, Bool.false_eq_true, if_false, Bool.false_and]; exact Ev.some _
    | true =>
      simp only [Bool.not_true, Bool.false_eq_true, if_false, if_true, Bool.true_and]
      refine Ev.bind (e_impl_unitsOf b hb) ?_
      by_cases hbu : ((unitsP b).length : Int) > 10
      · simp only [hbu, decide_true, if_true]
        refine (Ev.some _).congr ?_
        rw [if_neg]
        intro hc
        simp only [Bool.and_eq_true, decide_eq_true_eq] at hc
        have := states_units hc.1.1 hc.1.2 hc.2
        rw [this] at hbu
        omega
      · simp only [hbu, decide_false, Bool.false_eq_true, if_false]
        by_cases e1 : a.1 = b.1
        · by_cases e2 : a.2.1 = b.2.1
          · obtain ⟨w, hw⟩ := e_impl_turnedUnits a b ha hb e1 e2
            simp only [e1, e2, ne_eq, not_true_eq_false, decide_false, Bool.false_eq_true, if_false, and_self, decide_true, Bool.true_and]
            rw [show (b.1, b.2.1, a.2.2) = a by rw [← e1, ← e2]]
            refine Ev.bind hw ?_
            cases g2 : statesOf a b with
            | false => simp only [Bool.not_false, if_true, Bool.false_eq_true, if_false]; exact Ev.some _
            | true =>
              simp only [Bool.not_true, Bool.false_eq_true, if_false, if_true]
              have hub := states_units e1 e2 g2
              have hra := numB_range a ha
              refine Ev.bind (e_impl_bitsOf a ha) (Ev.bind (a := numB a) (e_impl_numberOf _ (bits_are (cells_bits ha) (units_units a)) (by rw [bitsP_len]; omega)) ?_)
              refine Ev.bind (e_impl_bitsOf b hb) (Ev.bind (a := numB b) (e_impl_numberOf _ (bits_are (cells_bits hb) (units_units b)) (by rw [bitsP_len, hub]; omega)) ?_)
              by_cases e : numB a = numB b
              · simp only [e, decide_true, if_true]; exact Ev.some _
              · simp only [e, decide_false, Bool.false_eq_true, if_false]
                refine Ev.bind (e_impl_numbersAfter a ha hu [c] (fun x hx => by rw [List.mem_singleton.1 hx]; exact ⟨k1, k2⟩) (by simp)) ?_
                have hl : (0 : Int) < ((List.map (nextL a) [c]).length : Int) := by simp
                have hg : List.getD (List.map (nextL a) [c]) (Int.toNat 0) [] = nextL a c := rfl
                simp only [hl, if_true, hg]
                refine Ev.bind (e_impl_marblesTo (nextL a c) (nextL_inside a ha c) (by omega) (numB a) (numB b) hra.1 (by rw [nextL_len, cast_pow]; exact hra.2)) ?_
                exact Ev.some _
          · simp only [e1, e2, ne_eq, not_true_eq_false, not_false_eq_true, decide_false, decide_true, Bool.false_eq_true, if_false, if_true, and_false, Bool.false_and]; exact Ev.some _
        · simp only [e1, ne_eq, not_false_eq_true, decide_true, decide_false, if_true, false_and, Bool.false_and, Bool.false_eq_true, if_false]; exact Ev.some _
theorem law_FnExactMarblesFromTo (p0 : BoardD) (p1 : BoardD) (p2 : Int) (h0 : p0.2.2.length ≤ 9223372036854775807) (h1 : p1.2.2.length ≤ 9223372036854775807) : Ev (fun k => f_laws_FnExactMarblesFromTo k p0 p1 p2) true := by
  refine Ev.succ ?_
  simp only [f_laws_FnExactMarblesFromTo]
  refine Ev.bind (e_laws_szBoard _ _ (by first | omega | (dsimp only; omega)) (by first | omega | (dsimp only; omega)) (by first | omega | (dsimp only; omega))) ?_
  by_cases q1 : (1048576 : Int) - (p0.2.2.length : Int) < 0
  · simp only [q1, if_true]; exact Ev.some _
  simp only [q1, if_false, decide_false, Bool.false_eq_true]
  refine Ev.bind (e_laws_szBoard _ _ (by first | omega | (dsimp only; omega)) (by first | omega | (dsimp only; omega)) (by first | omega | (dsimp only; omega))) ?_
  by_cases q2 : (1048576 : Int) - (p0.2.2.length : Int) - (p1.2.2.length : Int) < 0
  · simp only [q2, if_true]; exact Ev.some _
  simp only [q2, if_false, decide_false, Bool.false_eq_true]
  have es := e_spec_MarblesFromTo p0 p1 p2 (by omega) (by omega)
  have ei := e_impl_MarblesFromTo p0 p1 p2 (by omega) (by omega)
  generalize r_MarblesFromTo p0 p1 p2 = R at es ei
  refine Ev.bind (e_laws_toBoard _ (by first | omega | (dsimp only; omega))) ?_
  refine Ev.bind (e_laws_toBoard _ (by first | omega | (dsimp only; omega))) ?_
  refine Ev.bind es ?_
  refine Ev.bind (e_laws_toBoard _ (by first | omega | (dsimp only; omega))) ?_
  refine Ev.bind (e_laws_toBoard _ (by first | omega | (dsimp only; omega))) ?_
  refine Ev.bind ei ?_
  simp only [decide_true, beq_self_eq_true, ne_eq, not_true_eq_false, decide_false, Bool.not_true, Bool.false_eq_true, if_false]
  refine Ev.bind (e_laws_toBoard _ (by first | omega | (dsimp only; omega))) ?_
  refine Ev.bind (e_laws_eqBoard _ _ (by first | omega | (dsimp only; omega))) ?_
  simp only [decide_true, beq_self_eq_true, ne_eq, not_true_eq_false, decide_false, Bool.not_true, Bool.false_eq_true, if_false]
  refine Ev.bind (e_laws_toBoard _ (by first | omega | (dsimp only; omega))) ?_
  refine Ev.bind (e_laws_eqBoard _ _ (by first | omega | (dsimp only; omega))) ?_
  simp only [decide_true, beq_self_eq_true, ne_eq, not_true_eq_false, decide_false, Bool.not_true, Bool.false_eq_true, if_false]
  exact Ev.some _
end Go.Proofs.Ytjjlmnbmpgfcbaa.Vs
