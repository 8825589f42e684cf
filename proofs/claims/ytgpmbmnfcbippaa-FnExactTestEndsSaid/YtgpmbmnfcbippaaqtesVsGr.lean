/- The groups of joined gears: the same for the program and the reference. -/
import Derived.Test.YtgpmbmnfcbippaaqtesVsBd
set_option linter.unusedVariables false
set_option linter.unusedSimpArgs false
namespace Go.Proofs.Ytgpmbmnfcbippaa.Vs
open Go.RowKit
def geared (x : CellD) : Bool := decide (x.1 = 6 ∨ x.1 = 7)
theorem e_impl_isGeared (x : CellD) : Ev (fun k => f_impl_isGeared k x) (geared x) := by
  refine Ev.succ ?_
  simp only [f_impl_isGeared]
  refine Ev.of ?_
  by_cases h1 : x.1 = 6 <;> simp [geared, h1]
theorem e_spec_ggGear (x : CellD) : Ev (fun k => f_spec_ggGear k x) (geared x) := by
  refine Ev.succ ?_
  simp only [f_spec_ggGear]
  refine Ev.of ?_
  by_cases h1 : x.1 = 6 <;> simp [geared, h1]
/-- The places beside a place. -/
def nears (b : BoardD) (i : Int) : List Int := (if 0 < Int.tdiv i b.2.1 then [i - b.2.1] else []) ++ (if 0 < Int.tmod i b.2.1 then [i - 1] else []) ++ (if Int.tmod i b.2.1 + 1 < b.2.1 then [i + 1] else []) ++ (if Int.tdiv i b.2.1 + 1 < b.1 then [i + b.2.1] else [])
theorem place_parts {b : BoardD} (hb : boardOK b = true) {i : Int} (h0 : 0 ≤ i) (h1 : i < (b.2.2.length : Int)) : ∃ q m t : Int, Int.tdiv i b.2.1 = q ∧ Int.tmod i b.2.1 = m ∧ i = t + m ∧ 0 ≤ m ∧ m < b.2.1 ∧ 0 ≤ q ∧ q < b.1 ∧ 0 ≤ t ∧ t + b.2.1 ≤ (b.2.2.length : Int) ∧ (1 ≤ q → b.2.1 ≤ t) ∧ (q + 1 < b.1 → t + b.2.1 + b.2.1 ≤ (b.2.2.length : Int)) := by
  obtain ⟨g1, g2, g3, g4, g5, g6⟩ := board_ok hb
  have hq : Int.tdiv i b.2.1 = i / b.2.1 := Int.tdiv_eq_ediv_of_nonneg h0
  have hm : Int.tmod i b.2.1 = i % b.2.1 := Int.tmod_eq_emod_of_nonneg h0
  have e1 := Int.mul_ediv_add_emod i b.2.1
  have e2 := Int.emod_nonneg i (show b.2.1 ≠ 0 by omega)
  have e3 := Int.emod_lt_of_pos i (show 0 < b.2.1 by omega)
  have e4 : 0 ≤ i / b.2.1 := Int.ediv_nonneg h0 (by omega)
  have e5 : i / b.2.1 < b.1 := Int.ediv_lt_of_lt_mul (by omega) (by rw [← g5]; exact h1)
  have e6 : 0 ≤ b.2.1 * (i / b.2.1) := Int.mul_nonneg (by omega) e4
  have e7 : b.2.1 * (i / b.2.1 + 1) ≤ b.2.1 * b.1 := Int.mul_le_mul_of_nonneg_left (by omega) (by omega)
  rw [Int.mul_add, Int.mul_one, Int.mul_comm b.2.1 b.1, ← g5] at e7
  refine ⟨_, _, b.2.1 * (i / b.2.1), hq, hm, by omega, e2, e3, e4, e5, e6, e7, fun h => ?_, fun h => ?_⟩
  · have := Int.mul_le_mul_of_nonneg_left h (show 0 ≤ b.2.1 by omega)
    omega
  · have e8 : b.2.1 * (i / b.2.1 + 2) ≤ b.2.1 * b.1 := Int.mul_le_mul_of_nonneg_left (by omega) (by omega)
    rw [Int.mul_add, Int.mul_comm b.2.1 b.1, ← g5] at e8
    omega
theorem nears_in {b : BoardD} (hb : boardOK b = true) {i : Int} (h0 : 0 ≤ i) (h1 : i < (b.2.2.length : Int)) : ∀ n ∈ nears b i, 0 ≤ n ∧ n < (b.2.2.length : Int) := by
  obtain ⟨q, m, t, hq, hm, k1, k2, k3, k4, k5, k6, k7, k8, k9⟩ := place_parts hb h0 h1
  intro n hn
  unfold nears at hn
  rw [hq, hm] at hn
  simp only [List.mem_append] at hn
  rcases hn with ((hn | hn) | hn) | hn
  · split at hn
    · have := List.mem_singleton.1 hn; have := k8 (by omega); omega
    · cases hn
  · split at hn
    · have := List.mem_singleton.1 hn; omega
    · cases hn
  · split at hn
    · have := List.mem_singleton.1 hn; omega
    · cases hn
  · split at hn
    · have := List.mem_singleton.1 hn; have := k9 (by omega); omega
    · cases hn
theorem nears_len (b : BoardD) (i : Int) : (nears b i).length ≤ 4 := by
  unfold nears
  simp only [List.length_append]
  have h1 : ∀ (c : Prop) [Decidable c] (x : Int), (if c then [x] else []).length ≤ 1 := by intro c _ x; split <;> simp
  have a1 := h1 (0 < Int.tdiv i b.2.1) (i - b.2.1)
  have a2 := h1 (0 < Int.tmod i b.2.1) (i - 1)
  have a3 := h1 (Int.tmod i b.2.1 + 1 < b.2.1) (i + 1)
  have a4 := h1 (Int.tdiv i b.2.1 + 1 < b.1) (i + b.2.1)
  omega
theorem e_impl_besideOf (b : BoardD) (hb : boardOK b = true) (i : Int) (h0 : 0 ≤ i) (h1 : i < (b.2.2.length : Int)) : Ev (fun k => f_impl_besideOf k b i) (nears b i) := by
  obtain ⟨g1, g2, g3, g4, g5, g6⟩ := board_ok hb
  have hp := prod_small g1 g2 g3 g4
  obtain ⟨q, m, t, hq, hm, k1, k2, k3, k4, k5, k6, k7, k8, k9⟩ := place_parts hb h0 h1
  have hC : ¬ b.2.1 = 0 := by omega
  refine Ev.succ ?_
  simp only [f_impl_besideOf, hC, if_false, nears, hq, hm, gt_iff_lt]
  rw [w64 (n := q) (by omega) (by omega), w64 (n := q + 1) (by omega) (by omega), w64 (n := m + 1) (by omega) (by omega), w64 (n := i - b.2.1) (by omega) (by omega), w64 (n := i - 1) (by omega) (by omega), w64 (n := i + 1) (by omega) (by omega), w64 (n := i + b.2.1) (by omega) (by omega)]
  refine Ev.of ?_
  by_cases h1 : 0 < q <;> by_cases h2 : 0 < m <;> by_cases h3 : m + 1 < b.2.1 <;> by_cases h4 : q + 1 < b.1 <;> simp [h1, h2, h3, h4]
theorem e_spec_ggNear (b : BoardD) (hb : boardOK b = true) (i : Int) (h0 : 0 ≤ i) (h1 : i < (b.2.2.length : Int)) : Ev (fun k => f_spec_ggNear k b i) (nears b i) := by
  obtain ⟨g1, g2, g3, g4, g5, g6⟩ := board_ok hb
  have hp := prod_small g1 g2 g3 g4
  obtain ⟨q, m, t, hq, hm, k1, k2, k3, k4, k5, k6, k7, k8, k9⟩ := place_parts hb h0 h1
  have hC : ¬ b.2.1 = 0 := by omega
  refine Ev.succ ?_
  simp only [f_spec_ggNear, hC, if_false, nears, hq, hm, gt_iff_lt]
  rw [w64 (n := q) (by omega) (by omega), w64 (n := q + 1) (by omega) (by omega), w64 (n := m + 1) (by omega) (by omega), w64 (n := i - b.2.1) (by omega) (by omega), w64 (n := i - 1) (by omega) (by omega), w64 (n := i + 1) (by omega) (by omega), w64 (n := i + b.2.1) (by omega) (by omega)]
  refine Ev.of ?_
  by_cases h1 : 0 < q <;> by_cases h2 : 0 < m <;> by_cases h3 : m + 1 < b.2.1 <;> by_cases h4 : q + 1 < b.1 <;> simp [h1, h2, h3, h4]
/-! ### One wave -/
def visit (b : BoardD) (v : Int) (G : List Int × List Int) (n : Int) : List Int × List Int := if geared (List.getD b.2.2 n.toNat (0, 0)) && decide (List.getD G.1 n.toNat 0 < 0) then (List.set G.1 n.toNat v, G.2 ++ [n]) else G
/-- How many have no number yet. -/
def unl (l : List Int) : Nat := l.countP fun x => decide (x < 0)
theorem unl_set (v : Int) (hv : 0 ≤ v) : ∀ (l : List Int) (i : Nat), i < l.length → List.getD l i 0 < 0 → unl (l.set i v) + 1 = unl l
  | [], i, h, _ => by simp at h
  | x :: l, 0, _, h => by
    have h' : x < 0 := by simpa using h
    have : ¬ v < 0 := by omega
    simp [unl, h', this]
  | x :: l, i + 1, h, h2 => by
    have ih := unl_set v hv l i (by simpa using h) (by simpa using h2)
    simp only [unl, List.set_cons_succ, List.countP_cons] at ih ⊢
    omega
theorem unl_len (l : List Int) : unl l ≤ l.length := List.countP_le_length
theorem visit_len (b : BoardD) (v : Int) (G : List Int × List Int) (n : Int) : (visit b v G n).1.length = G.1.length := by
  unfold visit; split <;> simp
theorem visits_len (b : BoardD) (v : Int) : ∀ (r : List Int) (G : List Int × List Int), (r.foldl (visit b v) G).1.length = G.1.length
  | [], G => rfl
  | n :: r, G => by rw [List.foldl_cons, visits_len b v r, visit_len]
theorem visit_unl (b : BoardD) (v : Int) (hv : 0 ≤ v) (G : List Int × List Int) (n : Int) (h0 : 0 ≤ n) (h1 : n < (G.1.length : Int)) : unl (visit b v G n).1 + (visit b v G n).2.length = unl G.1 + G.2.length := by
  unfold visit
  split
  · rename_i hc
    simp only [Bool.and_eq_true, decide_eq_true_eq] at hc
    have := unl_set v hv G.1 n.toNat (by omega) hc.2
    simp only [List.length_append, List.length_singleton]
    omega
  · rfl
theorem visits_unl (b : BoardD) (v : Int) (hv : 0 ≤ v) : ∀ (r : List Int) (G : List Int × List Int), (∀ n ∈ r, 0 ≤ n ∧ n < (G.1.length : Int)) → unl (r.foldl (visit b v) G).1 + (r.foldl (visit b v) G).2.length = unl G.1 + G.2.length
  | [], G, _ => rfl
  | n :: r, G, h => by
    rw [List.foldl_cons, visits_unl b v hv r _ (fun m hm => by rw [visit_len]; exact h m (List.mem_cons_of_mem _ hm))]
    exact visit_unl b v hv G n (h n (List.mem_cons_self ..)).1 (h n (List.mem_cons_self ..)).2
theorem visits_app (b : BoardD) (v : Int) : ∀ (r : List Int) (o2 o3 a : List Int), (r.foldl (visit b v) (o2, o3 ++ a)) = ((r.foldl (visit b v) (o2, a)).1, o3 ++ (r.foldl (visit b v) (o2, a)).2)
  | [], o2, o3, a => rfl
  | n :: r, o2, o3, a => by
    simp only [List.foldl_cons]
    by_cases hc : (geared (List.getD b.2.2 n.toNat (0, 0)) && decide (List.getD o2 n.toNat 0 < 0)) = true
    · have e1 : visit b v (o2, o3 ++ a) n = (List.set o2 n.toNat v, o3 ++ (a ++ [n])) := by simp only [visit]; rw [if_pos hc, List.append_assoc]
      have e2 : visit b v (o2, a) n = (List.set o2 n.toNat v, a ++ [n]) := by simp only [visit]; rw [if_pos hc]
      rw [e1, e2]
      exact visits_app b v r _ o3 _
    · have e1 : visit b v (o2, o3 ++ a) n = (o2, o3 ++ a) := by simp only [visit]; rw [if_neg hc]
      have e2 : visit b v (o2, a) n = (o2, a) := by simp only [visit]; rw [if_neg hc]
      rw [e1, e2]
      exact visits_app b v r o2 o3 a
theorem visits_mem (b : BoardD) (v : Int) (P : Int → Prop) : ∀ (r : List Int) (G : List Int × List Int), (∀ n ∈ r, P n) → (∀ n ∈ G.2, P n) → ∀ n ∈ (r.foldl (visit b v) G).2, P n
  | [], G, _, h => h
  | m :: r, G, h, hg => by
    rw [List.foldl_cons]
    refine visits_mem b v P r _ (fun n hn => h n (List.mem_cons_of_mem _ hn)) (fun n hn => ?_)
    unfold visit at hn
    split at hn
    · rcases List.mem_append.1 hn with hn | hn
      · exact hg n hn
      · rw [List.mem_singleton.1 hn]; exact h m (List.mem_cons_self ..)
    · exact hg n hn
theorem e_impl_groupNumbers_6 (b : BoardD) (hb : boardOK b = true) (v : Int) (hv : 0 ≤ v) (v26 : List CellD) (v27 v28 : Int) : ∀ (r pre o2 o3 : List Int), (∀ n ∈ r, 0 ≤ n ∧ n < (b.2.2.length : Int)) → (pre ++ r).length ≤ 100 → o2.length = b.2.2.length → o3.length + unl o2 ≤ 1000 →
    Ev (fun k => f_impl_groupNumbers_6 k b.1 b.2.1 b.2.2 o2 o3 (pre ++ r) v  v26 v27 v28 ((pre ++ r).length : Int) (pre.length : Int)) (b.1, b.2.1, b.2.2, (r.foldl (visit b v) (o2, o3)).1, (r.foldl (visit b v) (o2, o3)).2, v, v26, v27, v28)
  | [], pre, o2, o3, hr, hl, h2, h3 => by
    refine Ev.succ ?_
    simp only [f_impl_groupNumbers_6, nlt_end, decide_false, Bool.false_eq_true, if_false]
    exact Ev.some _
  | x :: r, pre, o2, o3, hr, hl, h2, h3 => by
    obtain ⟨hx0, hx1⟩ := hr x (List.mem_cons_self ..)
    have hx2 : x < (o2.length : Int) := by omega
    have hr' : ∀ n ∈ r, 0 ≤ n ∧ n < (b.2.2.length : Int) := fun n hn => hr n (List.mem_cons_of_mem _ hn)
    have ih0 := e_impl_groupNumbers_6 b hb v hv  v26 v27 v28 r (pre ++ [x]) o2 o3 hr' (by simpa using hl) h2 h3
    rw [← shift_mid] at ih0
    have hn := next_mid pre x r (by omega)
    refine Ev.succ ?_
    simp only [f_impl_groupNumbers_6, lt_mid, ge_mid, decide_true, if_true, Int.toNat_natCast, getD_mid, hn, hx0, hx1, hx2]
    refine Ev.bind (e_impl_isGeared (List.getD b.2.2 x.toNat (0, 0))) ?_
    rw [List.foldl_cons]
    by_cases hg : geared (List.getD b.2.2 x.toNat (0, 0)) = true
    · simp only [hg, if_true]
      by_cases ho : List.getD o2 x.toNat 0 < 0
      · have e1 : visit b v (o2, o3) x = (List.set o2 x.toNat v, o3 ++ [x]) := by unfold visit; rw [if_pos (by simp only [hg, ho, decide_true, Bool.and_self])]
        have hu := unl_set v hv o2 x.toNat (by omega) ho
        have hle : o3.length + 1 ≤ 140737488355328 / 8 := by omega
        have ih := e_impl_groupNumbers_6 b hb v hv  v26 v27 v28 r (pre ++ [x]) (List.set o2 x.toNat v) (o3 ++ [x]) hr' (by simpa using hl) (by simpa using h2) (by simp; omega)
        rw [← shift_mid] at ih
        simp only [ho, decide_true, if_true, List.length_singleton, hle]
        rw [e1]
        exact ih
      · have e1 : visit b v (o2, o3) x = (o2, o3) := by unfold visit; rw [if_neg (by simp only [ho, decide_false, Bool.and_false, Bool.false_eq_true, not_false_eq_true])]
        simp only [ho, decide_false, Bool.false_eq_true, if_false]
        rw [e1]
        exact ih0
    · have e1 : visit b v (o2, o3) x = (o2, o3) := by unfold visit; rw [if_neg (by simp only [hg, Bool.false_and, Bool.false_eq_true, not_false_eq_true])]
      simp only [hg, Bool.false_eq_true, if_false]
      rw [e1]
      exact ih0
theorem e_spec_ggGroups_6 (b : BoardD) (hb : boardOK b = true) (v : Int) (hv : 0 ≤ v) (v9 : Int) (v26 : List CellD) (v27 v28 : Int) : ∀ (r pre o2 o3 : List Int), (∀ n ∈ r, 0 ≤ n ∧ n < (b.2.2.length : Int)) → (pre ++ r).length ≤ 100 → o2.length = b.2.2.length → o3.length + unl o2 ≤ 1000 →
    Ev (fun k => f_spec_ggGroups_6 k b.1 b.2.1 b.2.2 o2 o3 (pre ++ r) v v9 v26 v27 v28 ((pre ++ r).length : Int) (pre.length : Int)) (b.1, b.2.1, b.2.2, (r.foldl (visit b v) (o2, o3)).1, (r.foldl (visit b v) (o2, o3)).2, v, v9, v26, v27, v28)
  | [], pre, o2, o3, hr, hl, h2, h3 => by
    refine Ev.succ ?_
    simp only [f_spec_ggGroups_6, nlt_end, decide_false, Bool.false_eq_true, if_false]
    exact Ev.some _
  | x :: r, pre, o2, o3, hr, hl, h2, h3 => by
    obtain ⟨hx0, hx1⟩ := hr x (List.mem_cons_self ..)
    have hx2 : x < (o2.length : Int) := by omega
    have hr' : ∀ n ∈ r, 0 ≤ n ∧ n < (b.2.2.length : Int) := fun n hn => hr n (List.mem_cons_of_mem _ hn)
    have ih0 := e_spec_ggGroups_6 b hb v hv v9 v26 v27 v28 r (pre ++ [x]) o2 o3 hr' (by simpa using hl) h2 h3
    rw [← shift_mid] at ih0
    have hn := next_mid pre x r (by omega)
    refine Ev.succ ?_
    simp only [f_spec_ggGroups_6, lt_mid, ge_mid, decide_true, if_true, Int.toNat_natCast, getD_mid, hn, hx0, hx1, hx2]
    refine Ev.bind (e_spec_ggGear (List.getD b.2.2 x.toNat (0, 0))) ?_
    rw [List.foldl_cons]
    by_cases hg : geared (List.getD b.2.2 x.toNat (0, 0)) = true
    · simp only [hg, if_true]
      by_cases ho : List.getD o2 x.toNat 0 < 0
      · have e1 : visit b v (o2, o3) x = (List.set o2 x.toNat v, o3 ++ [x]) := by unfold visit; rw [if_pos (by simp only [hg, ho, decide_true, Bool.and_self])]
        have hu := unl_set v hv o2 x.toNat (by omega) ho
        have hle : o3.length + 1 ≤ 140737488355328 / 8 := by omega
        have ih := e_spec_ggGroups_6 b hb v hv v9 v26 v27 v28 r (pre ++ [x]) (List.set o2 x.toNat v) (o3 ++ [x]) hr' (by simpa using hl) (by simpa using h2) (by simp; omega)
        rw [← shift_mid] at ih
        simp only [ho, decide_true, if_true, List.length_singleton, hle]
        rw [e1]
        exact ih
      · have e1 : visit b v (o2, o3) x = (o2, o3) := by unfold visit; rw [if_neg (by simp only [ho, decide_false, Bool.and_false, Bool.false_eq_true, not_false_eq_true])]
        simp only [ho, decide_false, Bool.false_eq_true, if_false]
        rw [e1]
        exact ih0
    · have e1 : visit b v (o2, o3) x = (o2, o3) := by unfold visit; rw [if_neg (by simp only [hg, Bool.false_and, Bool.false_eq_true, not_false_eq_true])]
      simp only [hg, Bool.false_eq_true, if_false]
      rw [e1]
      exact ih0
/-- Waves, as long as there are places to look at. -/
def bfs (b : BoardD) (v : Int) : Nat → List Int → List Int → List Int
  | 0, o2, _ => o2
  | _ + 1, o2, [] => o2
  | n + 1, o2, x :: q => bfs b v n ((nears b x).foldl (visit b v) (o2, [])).1 (q ++ ((nears b x).foldl (visit b v) (o2, [])).2)
theorem bfs_len (b : BoardD) (v : Int) : ∀ (n : Nat) (o2 q : List Int), (bfs b v n o2 q).length = o2.length
  | 0, o2, _ => rfl
  | _ + 1, o2, [] => rfl
  | n + 1, o2, x :: q => by simp only [bfs]; rw [bfs_len b v n, visits_len]
theorem e_impl_groupNumbers_4 (b : BoardD) (hb : boardOK b = true) (v : Int) (hv : 0 ≤ v) (v26 : List CellD) (v27 v28 : Int) : ∀ (n : Nat) (o2 q : List Int), (∀ m ∈ q, 0 ≤ m ∧ m < (b.2.2.length : Int)) → o2.length = b.2.2.length → unl o2 + q.length + 1 ≤ n → q.length + unl o2 ≤ 1000 →
    Ev (fun k => f_impl_groupNumbers_4 k b.1 b.2.1 b.2.2 o2 q v v26 v27 v28) (b.1, b.2.1, b.2.2, bfs b v n o2 q, v, v26, v27, v28)
  | 0, o2, q, hq, h2, hn, hm => by omega
  | n + 1, o2, [], hq, h2, hn, hm => by
    refine Ev.succ ?_
    simp only [f_impl_groupNumbers_4, List.length_nil]
    have : ¬ ((0 : Nat) : Int) > 0 := by omega
    simp only [this, decide_false, Bool.false_eq_true, if_false]
    exact Ev.some _
  | n + 1, o2, x :: q, hq, h2, hn, hm => by
    obtain ⟨hx0, hx1⟩ := hq x (List.mem_cons_self ..)
    have hlen : (((x :: q).length : Nat) : Int) > 0 := by simp only [List.length_cons]; omega
    have hlen1 : (1 : Int) ≤ (((x :: q).length : Nat) : Int) := by omega
    have hlen0 : (0 : Int) < (((x :: q).length : Nat) : Int) := by omega
    have hin := nears_in hb hx0 hx1
    have hun := visits_unl b v hv (nears b x) (o2, []) (fun m hm => by rw [h2]; exact hin m hm)
    simp only [List.length_nil, Nat.add_zero] at hun
    simp only [List.length_cons] at hn hm
    refine Ev.succ ?_
    simp only [f_impl_groupNumbers_4, hlen, hlen1, hlen0, Int.le_refl, decide_true, if_true]
    refine Ev.bind (e_impl_besideOf b hb x hx0 hx1) ?_
    have h6 := e_impl_groupNumbers_6 b hb v hv v26 v27 v28 (nears b x) [] o2 q hin (by have := nears_len b x; simp; omega) h2 (by omega)
    refine Ev.bind h6 ?_
    have happ := visits_app b v (nears b x) o2 q []
    rw [List.append_nil] at happ
    rw [happ]
    show Ev (fun k => f_impl_groupNumbers_4 k b.1 b.2.1 b.2.2 (List.foldl (visit b v) (o2, []) (nears b x)).1 (q ++ (List.foldl (visit b v) (o2, []) (nears b x)).2) v v26 v27 v28) _
    exact e_impl_groupNumbers_4 b hb v hv v26 v27 v28 n _ _ (fun m hm => by
      rcases List.mem_append.1 hm with hm | hm
      · exact hq m (List.mem_cons_of_mem _ hm)
      · exact visits_mem b v (fun m => 0 ≤ m ∧ m < (b.2.2.length : Int)) (nears b x) (o2, []) hin (fun m hm => by cases hm) m hm) (by rw [visits_len]; exact h2) (by rw [List.length_append]; omega) (by rw [List.length_append]; omega)
theorem e_spec_ggGroups_4 (b : BoardD) (hb : boardOK b = true) (v : Int) (hv : 0 ≤ v) (v26 : List CellD) (v27 v28 : Int) : ∀ (n : Nat) (o2 q pre : List Int), (∀ m ∈ q, 0 ≤ m ∧ m < (b.2.2.length : Int)) → o2.length = b.2.2.length → unl o2 + q.length + 1 ≤ n → (pre ++ q).length + unl o2 ≤ 1000 →
    Ev (fun k => f_spec_ggGroups_4 k b.1 b.2.1 b.2.2 o2 (pre ++ q) v (pre.length : Int) v26 v27 v28) (b.1, b.2.1, b.2.2, bfs b v n o2 q, v, v26, v27, v28)
  | 0, o2, q, pre, hq, h2, hn, hm => by omega
  | n + 1, o2, [], pre, hq, h2, hn, hm => by
    refine Ev.succ ?_
    simp only [f_spec_ggGroups_4, nlt_end, decide_false, Bool.false_eq_true, if_false]
    exact Ev.some _
  | n + 1, o2, x :: q, pre, hq, h2, hn, hm => by
    obtain ⟨hx0, hx1⟩ := hq x (List.mem_cons_self ..)
    have hin := nears_in hb hx0 hx1
    have hun := visits_unl b v hv (nears b x) (o2, []) (fun m hm => by rw [h2]; exact hin m hm)
    simp only [List.length_nil, Nat.add_zero] at hun
    have hm' := hm
    simp only [List.length_cons, List.length_append] at hn hm'
    refine Ev.succ ?_
    simp only [f_spec_ggGroups_4, lt_mid, ge_mid, decide_true, if_true, Int.toNat_natCast, getD_mid]
    refine Ev.bind (e_spec_ggNear b hb x hx0 hx1) ?_
    have h6 := e_spec_ggGroups_6 b hb v hv (pre.length : Int) v26 v27 v28 (nears b x) [] o2 (pre ++ x :: q) hin (by have := nears_len b x; simp; omega) h2 hm
    refine Ev.bind h6 ?_
    have happ := visits_app b v (nears b x) o2 (pre ++ x :: q) []
    rw [List.append_nil] at happ
    rw [happ]
    show Ev (fun k => f_spec_ggGroups_4 k b.1 b.2.1 b.2.2 (List.foldl (visit b v) (o2, []) (nears b x)).1 ((pre ++ x :: q) ++ (List.foldl (visit b v) (o2, []) (nears b x)).2) v (wrap64 ((pre.length : Int) + 1)) v26 v27 v28) _
    rw [next_mid pre x q (by simp; omega), shift_mid, List.append_assoc]
    exact e_spec_ggGroups_4 b hb v hv v26 v27 v28 n _ _ (pre ++ [x]) (fun m hm => by
      rcases List.mem_append.1 hm with hm | hm
      · exact hq m (List.mem_cons_of_mem _ hm)
      · exact visits_mem b v (fun m => 0 ≤ m ∧ m < (b.2.2.length : Int)) (nears b x) (o2, []) hin (fun m hm => by cases hm) m hm) (by rw [visits_len]; exact h2) (by rw [List.length_append]; omega) (by simp only [List.length_append, List.length_singleton]; omega)
/-! ### All groups -/
def groupsFrom (b : BoardD) : Int → List CellD → List Int → Int → List Int
  | _, [], o2, _ => o2
  | i, x :: r, o2, v => if geared x && decide (List.getD o2 i.toNat 0 < 0) then groupsFrom b (i + 1) r (bfs b v 200 (List.set o2 i.toNat v) [i]) (v + 1) else groupsFrom b (i + 1) r o2 v
theorem groupsFrom_len (b : BoardD) : ∀ (r : List CellD) (i : Int) (o2 : List Int) (v : Int), (groupsFrom b i r o2 v).length = o2.length
  | [], _, _, _ => rfl
  | x :: r, i, o2, v => by
    simp only [groupsFrom]
    split
    · rw [groupsFrom_len b r, bfs_len, List.length_set]
    · exact groupsFrom_len b r _ _ _
def groupsOf (b : BoardD) : List Int := groupsFrom b 0 b.2.2 (List.replicate b.2.2.length (-1)) 0
theorem groupsOf_len (b : BoardD) : (groupsOf b).length = b.2.2.length := by unfold groupsOf; rw [groupsFrom_len]; simp
theorem e_impl_groupNumbers_0 (b : BoardD) (m : Int) : ∀ (r pre : List Int), m = ((pre ++ r).length : Int) → (pre ++ r).length ≤ 1000 → Ev (fun k => f_impl_groupNumbers_0 k b.1 b.2.1 b.2.2 (pre ++ r) m (pre.length : Int)) (b.1, b.2.1, b.2.2, pre ++ List.replicate r.length (-1))
  | [], pre, hm, hl => by
    refine Ev.succ ?_
    have : ¬ (pre.length : Int) < m := by rw [hm]; exact nlt_end pre
    simp only [f_impl_groupNumbers_0, this, decide_false, Bool.false_eq_true, if_false]
    exact Ev.of (by simp)
  | x :: r, pre, hm, hl => by
    have ih := e_impl_groupNumbers_0 b m r (pre ++ [-1]) (by rw [hm]; simp) (by simpa using hl)
    have hlt : (pre.length : Int) < m := by rw [hm]; exact lt_mid _ _ _
    have hn2 : ((pre ++ [x]).length : Int) = ((pre ++ [(-1 : Int)]).length : Int) := by simp
    refine Ev.succ ?_
    simp only [f_impl_groupNumbers_0, hlt, lt_mid, ge_mid, decide_true, if_true, Int.toNat_natCast, set_mid]
    rw [next_mid pre x r (by omega), hn2]
    rw [← shift_mid] at ih
    refine ih.congr ?_
    simp [List.replicate_succ]
theorem e_impl_groupNumbers_2 (b : BoardD) (hb : boardOK b = true) : ∀ (r pre : List CellD) (o2 : List Int) (v : Int), pre ++ r = b.2.2 → o2.length = b.2.2.length → 0 ≤ v → v ≤ pre.length → Ev (fun k => f_impl_groupNumbers_2 k b.1 b.2.1 b.2.2 o2 v (pre ++ r) ((pre ++ r).length : Int) (pre.length : Int)) (groupsFrom b pre.length r o2 v)
  | [], pre, o2, v, hpr, h2, hv, hv2 => by
    refine Ev.succ ?_
    simp only [f_impl_groupNumbers_2, nlt_end, decide_false, Bool.false_eq_true, if_false]
    exact Ev.some _
  | x :: r, pre, o2, v, hpr, h2, hv, hv2 => by
    obtain ⟨g1, g2, g3, g4, g5, g6⟩ := board_ok hb
    have hp := prod_small g1 g2 g3 g4
    have hl90 : (pre ++ x :: r).length ≤ 90 := by rw [hpr]; omega
    have hn := next_mid pre x r (by omega)
    have hc : ((pre ++ [x]).length : Int) = (pre.length : Int) + 1 := by simp
    have hlt := lt_mid pre x r
    have hlo : (pre.length : Int) < (o2.length : Int) := by rw [h2, ← hpr]; exact hlt
    have ih0 := e_impl_groupNumbers_2 b hb r (pre ++ [x]) o2 v (by rw [← hpr]; simp) h2 hv (by simp; omega)
    rw [← shift_mid, hc] at ih0
    refine Ev.succ ?_
    simp only [f_impl_groupNumbers_2, lt_mid, ge_mid, decide_true, if_true, Int.toNat_natCast, getD_mid, hn, hc, hlo]
    refine Ev.bind (e_impl_isGeared x) ?_
    cases hg : geared x with
    | false =>
      simp only [Bool.not_false, if_true, groupsFrom, hg, Bool.false_and, Bool.false_eq_true, if_false]
      exact ih0
    | true =>
      simp only [Bool.not_true, Bool.false_eq_true, if_false]
      refine Ev.ite (fun h => ?_) (fun h => ?_)
      · simp only [ge_iff_le, decide_eq_true_eq] at h
        have hno : ¬ List.getD o2 pre.length 0 < 0 := by omega
        simp only [groupsFrom, hg, Int.toNat_natCast, hno, decide_false, Bool.and_false, Bool.false_eq_true, if_false]
        exact ih0
      · simp only [ge_iff_le, decide_eq_true_eq] at h
        have hno : List.getD o2 pre.length 0 < 0 := by omega
        have hul := unl_len (List.set o2 pre.length v)
        rw [List.length_set, h2, ← hpr] at hul
        have h4 := e_impl_groupNumbers_4 b hb v hv (pre ++ x :: r) ((pre ++ x :: r).length : Int) (pre.length : Int) 200 (List.set o2 pre.length v) [(pre.length : Int)] (fun m hm => by rw [List.mem_singleton.1 hm, ← hpr]; exact ⟨by omega, hlt⟩) (by rw [List.length_set]; exact h2) (by simp; omega) (by simp; omega)
        refine Ev.bind h4 ?_
        have ih := e_impl_groupNumbers_2 b hb r (pre ++ [x]) (bfs b v 200 (List.set o2 pre.length v) [(pre.length : Int)]) (v + 1) (by rw [← hpr]; simp) (by rw [bfs_len, List.length_set]; exact h2) (by omega) (by simp; omega)
        rw [← shift_mid, hc] at ih
        show Ev (fun k => f_impl_groupNumbers_2 k b.1 b.2.1 b.2.2 (bfs b v 200 (List.set o2 pre.length v) [(pre.length : Int)]) (wrap64 (v + 1)) (pre ++ x :: r) ((pre ++ x :: r).length : Int) (wrap64 ((pre.length : Int) + 1))) _
        rw [w64 (n := v + 1) (by omega) (by omega), hn, hc]
        simp only [groupsFrom, hg, Int.toNat_natCast, hno, decide_true, Bool.and_self, if_true]
        exact ih
theorem e_impl_groupNumbers (b : BoardD) (hb : boardOK b = true) : Ev (fun k => f_impl_groupNumbers k b) (groupsOf b) := by
  obtain ⟨g1, g2, g3, g4, g5, g6⟩ := board_ok hb
  have hp := prod_small g1 g2 g3 g4
  have hm : b.2.2.length * 8 ≤ 281474976710656 := by omega
  refine Ev.succ ?_
  simp only [f_impl_groupNumbers, Int.toNat_natCast, hm, if_true]
  refine Ev.bind (e_impl_groupNumbers_0 b _ (List.replicate b.2.2.length 0) [] rfl (by simp; omega)) ?_
  have hrep : ([] : List Int) ++ List.replicate (List.replicate b.2.2.length (0 : Int)).length (-1) = List.replicate b.2.2.length (-1) := by simp
  rw [hrep]
  exact Ev.bind (e_impl_groupNumbers_2 b hb b.2.2 [] (List.replicate b.2.2.length (-1)) 0 rfl (by simp) (by omega) (by simp)) (Ev.some _)
theorem e_spec_ggGroups_0 (b : BoardD) (m : Int) : ∀ (r pre : List Int), m = ((pre ++ r).length : Int) → (pre ++ r).length ≤ 1000 → Ev (fun k => f_spec_ggGroups_0 k b.1 b.2.1 b.2.2 (pre ++ r) m (pre.length : Int)) (b.1, b.2.1, b.2.2, pre ++ List.replicate r.length (-1))
  | [], pre, hm, hl => by
    refine Ev.succ ?_
    have : ¬ (pre.length : Int) < m := by rw [hm]; exact nlt_end pre
    simp only [f_spec_ggGroups_0, this, decide_false, Bool.false_eq_true, if_false]
    exact Ev.of (by simp)
  | x :: r, pre, hm, hl => by
    have ih := e_spec_ggGroups_0 b m r (pre ++ [-1]) (by rw [hm]; simp) (by simpa using hl)
    have hlt : (pre.length : Int) < m := by rw [hm]; exact lt_mid _ _ _
    have hn2 : ((pre ++ [x]).length : Int) = ((pre ++ [(-1 : Int)]).length : Int) := by simp
    refine Ev.succ ?_
    simp only [f_spec_ggGroups_0, hlt, lt_mid, ge_mid, decide_true, if_true, Int.toNat_natCast, set_mid]
    rw [next_mid pre x r (by omega), hn2]
    rw [← shift_mid] at ih
    refine ih.congr ?_
    simp [List.replicate_succ]
theorem e_spec_ggGroups_2 (b : BoardD) (hb : boardOK b = true) : ∀ (r pre : List CellD) (o2 : List Int) (v : Int), pre ++ r = b.2.2 → o2.length = b.2.2.length → 0 ≤ v → v ≤ pre.length → Ev (fun k => f_spec_ggGroups_2 k b.1 b.2.1 b.2.2 o2 v (pre ++ r) ((pre ++ r).length : Int) (pre.length : Int)) (groupsFrom b pre.length r o2 v)
  | [], pre, o2, v, hpr, h2, hv, hv2 => by
    refine Ev.succ ?_
    simp only [f_spec_ggGroups_2, nlt_end, decide_false, Bool.false_eq_true, if_false]
    exact Ev.some _
  | x :: r, pre, o2, v, hpr, h2, hv, hv2 => by
    obtain ⟨g1, g2, g3, g4, g5, g6⟩ := board_ok hb
    have hp := prod_small g1 g2 g3 g4
    have hl90 : (pre ++ x :: r).length ≤ 90 := by rw [hpr]; omega
    have hn := next_mid pre x r (by omega)
    have hc : ((pre ++ [x]).length : Int) = (pre.length : Int) + 1 := by simp
    have hlt := lt_mid pre x r
    have hlo : (pre.length : Int) < (o2.length : Int) := by rw [h2, ← hpr]; exact hlt
    have ih0 := e_spec_ggGroups_2 b hb r (pre ++ [x]) o2 v (by rw [← hpr]; simp) h2 hv (by simp; omega)
    rw [← shift_mid, hc] at ih0
    refine Ev.succ ?_
    simp only [f_spec_ggGroups_2, lt_mid, ge_mid, decide_true, if_true, Int.toNat_natCast, getD_mid, hn, hc, hlo]
    refine Ev.bind (e_spec_ggGear x) ?_
    cases hg : geared x with
    | false =>
      simp only [Bool.not_false, if_true, groupsFrom, hg, Bool.false_and, Bool.false_eq_true, if_false]
      exact ih0
    | true =>
      simp only [Bool.not_true, Bool.false_eq_true, if_false]
      refine Ev.ite (fun h => ?_) (fun h => ?_)
      · simp only [ge_iff_le, decide_eq_true_eq] at h
        have hno : ¬ List.getD o2 pre.length 0 < 0 := by omega
        simp only [groupsFrom, hg, Int.toNat_natCast, hno, decide_false, Bool.and_false, Bool.false_eq_true, if_false]
        exact ih0
      · simp only [ge_iff_le, decide_eq_true_eq] at h
        have hno : List.getD o2 pre.length 0 < 0 := by omega
        have hul := unl_len (List.set o2 pre.length v)
        rw [List.length_set, h2, ← hpr] at hul
        have h4 := e_spec_ggGroups_4 b hb v hv (pre ++ x :: r) ((pre ++ x :: r).length : Int) (pre.length : Int) 200 (List.set o2 pre.length v) [(pre.length : Int)] [] (fun m hm => by rw [List.mem_singleton.1 hm, ← hpr]; exact ⟨by omega, hlt⟩) (by rw [List.length_set]; exact h2) (by simp; omega) (by simp; omega)
        refine Ev.bind h4 ?_
        have ih := e_spec_ggGroups_2 b hb r (pre ++ [x]) (bfs b v 200 (List.set o2 pre.length v) [(pre.length : Int)]) (v + 1) (by rw [← hpr]; simp) (by rw [bfs_len, List.length_set]; exact h2) (by omega) (by simp; omega)
        rw [← shift_mid, hc] at ih
        show Ev (fun k => f_spec_ggGroups_2 k b.1 b.2.1 b.2.2 (bfs b v 200 (List.set o2 pre.length v) [(pre.length : Int)]) (wrap64 (v + 1)) (pre ++ x :: r) ((pre ++ x :: r).length : Int) (wrap64 ((pre.length : Int) + 1))) _
        rw [w64 (n := v + 1) (by omega) (by omega), hn, hc]
        simp only [groupsFrom, hg, Int.toNat_natCast, hno, decide_true, Bool.and_self, if_true]
        exact ih
theorem e_spec_ggGroups (b : BoardD) (hb : boardOK b = true) : Ev (fun k => f_spec_ggGroups k b) (groupsOf b) := by
  obtain ⟨g1, g2, g3, g4, g5, g6⟩ := board_ok hb
  have hp := prod_small g1 g2 g3 g4
  have hm : b.2.2.length * 8 ≤ 281474976710656 := by omega
  refine Ev.succ ?_
  simp only [f_spec_ggGroups, Int.toNat_natCast, hm, if_true]
  refine Ev.bind (e_spec_ggGroups_0 b _ (List.replicate b.2.2.length 0) [] rfl (by simp; omega)) ?_
  have hrep : ([] : List Int) ++ List.replicate (List.replicate b.2.2.length (0 : Int)).length (-1) = List.replicate b.2.2.length (-1) := by simp
  rw [hrep]
  exact Ev.bind (e_spec_ggGroups_2 b hb b.2.2 [] (List.replicate b.2.2.length (-1)) 0 rfl (by simp) (by omega) (by simp)) (Ev.some _)
end Go.Proofs.Ytgpmbmnfcbippaa.Vs
