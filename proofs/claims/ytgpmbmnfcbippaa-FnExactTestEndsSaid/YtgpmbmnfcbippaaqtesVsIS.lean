/- The copies and comparisons of rows of ints. -/
import Derived.Test.YtgpmbmnfcbippaaqtesVsIn
set_option linter.unusedVariables false
set_option linter.unusedSimpArgs false
namespace Go.Proofs.Ytgpmbmnfcbippaa.Vs
open Go.RowKit
/-- How many lie in all rows together. -/
def szRows {α : Type} : List (List α) → Int
  | [] => 0
  | x :: r => (x.length : Int) + szRows r
theorem szRows_nonneg {α : Type} : ∀ (l : List (List α)), 0 ≤ szRows l
  | [] => Int.le_refl _
  | x :: r => by have := szRows_nonneg r; simp only [szRows]; omega
theorem szRows_mem {α : Type} : ∀ {l : List (List α)} {x : List α}, x ∈ l → (x.length : Int) ≤ szRows l
  | y :: r, x, h => by
    have h1 := szRows_nonneg r
    simp only [szRows]
    rcases List.mem_cons.1 h with rfl | h
    · omega
    · have := szRows_mem h; omega
theorem e_laws_szIntSS_0 : ∀ (r pre : List (List Int)) (n : Int), 0 ≤ n → n ≤ 1048576 → (∀ x ∈ r, x.length ≤ 9223372036854775807) → (pre ++ r).length ≤ 9223372036854775806 → Ev (fun k => f_laws_szIntSS_0 k (pre ++ r) n (pre.length : Int)) (if n - szRows r < 0 then LR.ret (-1) else LR.go (n - szRows r))
  | [], pre, n, h0, h1, hx, hl => by
    refine Ev.succ ?_
    simp only [f_laws_szIntSS_0, nlt_end, decide_false, Bool.false_eq_true, if_false]
    rw [if_neg (show ¬ n - szRows ([] : List (List Int)) < 0 by simp only [szRows]; omega)]
    exact Ev.of (by simp [szRows])
  | x :: r, pre, n, h0, h1, hx, hl => by
    have hxl := hx x (List.mem_cons_self ..)
    have hr := szRows_nonneg r
    refine Ev.succ ?_
    simp only [f_laws_szIntSS_0, lt_mid, ge_mid, decide_true, if_true, Int.toNat_natCast, getD_mid]
    rw [next_mid pre x r (by omega)]
    refine Ev.bind (e_laws_szIntS x n h0 h1 hxl) ?_
    by_cases h : n - (x.length : Int) < 0
    · simp only [h, if_true]
      rw [if_pos (show n - szRows (x :: r) < 0 by simp only [szRows]; omega)]
      exact Ev.some _
    · simp only [h, if_false, decide_false, Bool.false_eq_true]
      have ih := e_laws_szIntSS_0 r (pre ++ [x]) (n - x.length) (by omega) (by omega) (fun y hy => hx y (List.mem_cons_of_mem _ hy)) (by simpa using hl)
      rw [← shift_mid] at ih
      have e1 : n - szRows (x :: r) = n - (x.length : Int) - szRows r := by simp only [szRows]; omega
      rw [e1]
      exact ih
theorem e_laws_szIntSS (l : List (List Int)) (n : Int) (h0 : 0 ≤ n) (h1 : n ≤ 1048576) (hl : l.length ≤ 9223372036854775807) (hx : ∀ x ∈ l, x.length ≤ 9223372036854775807) : Ev (fun k => f_laws_szIntSS k l n) (if n - l.length < 0 then -1 else if n - l.length - szRows l < 0 then -1 else n - l.length - szRows l) := by
  refine Ev.succ ?_
  simp only [f_laws_szIntSS]
  rw [w64 (by omega) (by omega)]
  by_cases h : n - (l.length : Int) < 0
  · simp only [h, decide_true, if_true]; exact Ev.some _
  · simp only [h, decide_false, Bool.false_eq_true, if_false]
    refine Ev.bind (e_laws_szIntSS_0 l [] _ (by omega) (by omega) hx (by simp; omega)) ?_
    by_cases g : n - (l.length : Int) - szRows l < 0
    · simp only [g, if_true]; exact Ev.ret (Ev.some _)
    · simp only [g, if_false]; exact Ev.go (Ev.some _)
theorem e_laws_toIntSS_0 : ∀ (r pre rest : List (List Int)), rest.length = r.length → (∀ x ∈ r, x.length ≤ 1048576) → (pre ++ r).length ≤ 1048576 → Ev (fun k => f_laws_toIntSS_0 k (pre ++ rest) (pre ++ r) (pre.length : Int)) (pre ++ r)
  | [], pre, rest, h, hx, hl => by
    obtain rfl : rest = [] := List.eq_nil_of_length_eq_zero h
    refine Ev.succ ?_
    simp only [f_laws_toIntSS_0, nlt_end, decide_false, Bool.false_eq_true, if_false]
    exact Ev.some _
  | x :: r, pre, [], h, hx, hl => by simp at h
  | x :: r, pre, y :: rest, h, hx, hl => by
    have ih := e_laws_toIntSS_0 r (pre ++ [x]) rest (by simpa using h) (fun y hy => hx y (List.mem_cons_of_mem _ hy)) (by simpa using hl)
    refine Ev.succ ?_
    simp only [f_laws_toIntSS_0, lt_mid, ge_mid, decide_true, if_true, Int.toNat_natCast, getD_mid, set_mid]
    rw [next_mid pre x r (by omega)]
    refine Ev.bind (e_laws_toIntS x (hx x (List.mem_cons_self ..))) ?_
    rw [← shift_mid, ← shift_mid] at ih
    exact ih
theorem e_laws_toIntSS (l : List (List Int)) (hl : l.length ≤ 1048576) (hx : ∀ x ∈ l, x.length ≤ 1048576) : Ev (fun k => f_laws_toIntSS k l) l := by
  refine Ev.succ ?_
  have hm : l.length * 24 ≤ 281474976710656 := by omega
  simp only [f_laws_toIntSS, Int.toNat_natCast, hm, if_true]
  exact Ev.bind (e_laws_toIntSS_0 l [] (List.replicate l.length []) (by simp) hx (by simpa using hl)) (Ev.some _)
theorem e_laws_eqIntSS_0 : ∀ (r s pre pre' : List (List Int)), s.length = r.length → pre'.length = pre.length → (∀ x ∈ r, x.length ≤ 9223372036854775806) → (pre ++ r).length ≤ 9223372036854775806 → Ev (fun k => f_laws_eqIntSS_0 k (pre ++ r) (pre' ++ s) (pre.length : Int)) (if r = s then LR.go () else LR.ret false)
  | [], s, pre, pre', h, hp, hx, hl => by
    obtain rfl : s = [] := List.eq_nil_of_length_eq_zero h
    refine Ev.succ ?_
    simp only [f_laws_eqIntSS_0, nlt_end, decide_false, Bool.false_eq_true, if_false, if_true]
    exact Ev.some _
  | x :: r, [], pre, pre', h, hp, hx, hl => by simp at h
  | x :: r, y :: s, pre, pre', h, hp, hx, hl => by
    have ih := e_laws_eqIntSS_0 r s (pre ++ [x]) (pre' ++ [y]) (by simpa using h) (by simpa using hp) (fun y hy => hx y (List.mem_cons_of_mem _ hy)) (by simpa using hl)
    have l2 : (pre.length : Int) < ((pre' ++ y :: s).length : Int) := by rw [← hp]; exact lt_mid _ _ _
    have g2 : List.getD (pre' ++ y :: s) pre.length [] = y := by rw [← hp]; exact getD_mid _ _ _ _
    refine Ev.succ ?_
    simp only [f_laws_eqIntSS_0, lt_mid, ge_mid, l2, decide_true, if_true, Int.toNat_natCast, getD_mid, g2]
    rw [next_mid pre x r (by omega)]
    rw [← shift_mid, ← shift_mid] at ih
    refine Ev.bind (e_laws_eqIntS x y (hx x (List.mem_cons_self ..))) ?_
    by_cases hxy : x = y
    · subst hxy
      simp only [decide_true, Bool.not_true, Bool.false_eq_true, if_false]
      refine ih.congr ?_
      by_cases hrs : r = s <;> simp [hrs]
    · simp only [hxy, decide_false, Bool.not_false, if_true]
      refine Ev.of ?_
      rw [if_neg (by intro hc; injection hc with h1 h2; exact hxy h1)]
theorem e_laws_eqIntSS (l m : List (List Int)) (hl : l.length ≤ 9223372036854775806) (hx : ∀ x ∈ l, x.length ≤ 9223372036854775806) : Ev (fun k => f_laws_eqIntSS k l m) (decide (l = m)) := by
  refine Ev.succ ?_
  simp only [f_laws_eqIntSS]
  by_cases h : l.length = m.length
  · simp only [h, ne_eq, not_true_eq_false, decide_false, Bool.false_eq_true, if_false]
    refine Ev.bind (e_laws_eqIntSS_0 l m [] [] h.symm rfl hx (by simpa using hl)) ?_
    by_cases hlm : l = m
    · rw [if_pos hlm]; simp only [hlm, decide_true]; exact Ev.go (Ev.some _)
    · rw [if_neg hlm]; simp only [hlm, decide_false]; exact Ev.ret (Ev.some _)
  · have h2 : ¬ (l.length : Int) = (m.length : Int) := by omega
    have h3 : ¬ l = m := fun hc => h (by rw [hc])
    simp only [ne_eq, h2, not_false_eq_true, decide_true, if_true, h3, decide_false]
    exact Ev.some _
end Go.Proofs.Ytgpmbmnfcbippaa.Vs
