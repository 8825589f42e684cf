/- The copies and comparisons of lists of ints. -/
import Derived.Test.YtgpmbmnfcbippaaqtesVsEv
import Derived.Test.YtgpmbmnfcbippaaqtesVg0
import Derived.Test.YtgpmbmnfcbippaaqtesVg1
import Derived.Test.YtgpmbmnfcbippaaqtesVg2
import Derived.Test.YtgpmbmnfcbippaaqtesVg3
import Derived.Test.YtgpmbmnfcbippaaqtesVg4
import Derived.Test.YtgpmbmnfcbippaaqtesVg5
import Derived.Test.YtgpmbmnfcbippaaqtesVg6
import Derived.Test.YtgpmbmnfcbippaaqtesVg7
import Derived.Test.YtgpmbmnfcbippaaqtesVg8
set_option linter.unusedVariables false
set_option linter.unusedSimpArgs false
namespace Go.Proofs.Ytgpmbmnfcbippaa.Vs
open Go.RowKit
theorem e_laws_szIntS (l : List Int) (n : Int) (h0 : 0 ≤ n) (h1 : n ≤ 1048576) (hl : l.length ≤ 9223372036854775807) : Ev (fun k => f_laws_szIntS k l n) (if n - l.length < 0 then -1 else n - l.length) := by
  refine Ev.succ ?_
  simp only [f_laws_szIntS]
  refine Ev.of ?_
  rw [w64 (by omega) (by omega)]
  by_cases h : n - (l.length : Int) < 0 <;> simp [h]
theorem e_laws_toIntS_0 : ∀ (r pre rest : List Int), rest.length = r.length → (pre ++ r).length ≤ 1048576 → Ev (fun k => f_laws_toIntS_0 k (pre ++ rest) (pre ++ r) (pre.length : Int)) (pre ++ r)
  | [], pre, rest, h, hl => by
    obtain rfl : rest = [] := List.eq_nil_of_length_eq_zero h
    refine Ev.succ ?_
    simp only [f_laws_toIntS_0, nlt_end, decide_false, Bool.false_eq_true, if_false]
    exact Ev.some _
  | x :: r, pre, [], h, hl => by simp at h
  | x :: r, pre, y :: rest, h, hl => by
    have ih := e_laws_toIntS_0 r (pre ++ [x]) rest (by simpa using h) (by simpa using hl)
    refine Ev.succ ?_
    simp only [f_laws_toIntS_0, lt_mid, ge_mid, decide_true, if_true, Int.toNat_natCast, getD_mid, set_mid]
    rw [next_mid pre x r (by omega)]
    rw [← shift_mid, ← shift_mid] at ih
    exact ih
theorem e_laws_toIntS (l : List Int) (hl : l.length ≤ 1048576) : Ev (fun k => f_laws_toIntS k l) l := by
  refine Ev.succ ?_
  have hm : l.length * 8 ≤ 281474976710656 := by omega
  simp only [f_laws_toIntS, Int.toNat_natCast, hm, if_true]
  exact Ev.bind (e_laws_toIntS_0 l [] (List.replicate l.length 0) (by simp) (by simpa using hl)) (Ev.some _)
theorem e_laws_eqIntS_0 : ∀ (r s pre : List Int) (pre' : List Int), s.length = r.length → pre'.length = pre.length → (pre ++ r).length ≤ 9223372036854775806 → Ev (fun k => f_laws_eqIntS_0 k (pre ++ r) (pre' ++ s) (pre.length : Int)) (if r = s then LR.go () else LR.ret false)
  | [], s, pre, pre', h, hp, hl => by
    obtain rfl : s = [] := List.eq_nil_of_length_eq_zero h
    refine Ev.succ ?_
    simp only [f_laws_eqIntS_0, nlt_end, decide_false, Bool.false_eq_true, if_false, if_true]
    exact Ev.some _
  | x :: r, [], pre, pre', h, hp, hl => by simp at h
  | x :: r, y :: s, pre, pre', h, hp, hl => by
    have ih := e_laws_eqIntS_0 r s (pre ++ [x]) (pre' ++ [y]) (by simpa using h) (by simpa using hp) (by simpa using hl)
    have l2 : (pre.length : Int) < ((pre' ++ y :: s).length : Int) := by rw [← hp]; exact lt_mid _ _ _
    have g2 : List.getD (pre' ++ y :: s) pre.length 0 = y := by rw [← hp]; exact getD_mid _ _ _ _
    refine Ev.succ ?_
    simp only [f_laws_eqIntS_0, lt_mid, ge_mid, l2, decide_true, if_true, Int.toNat_natCast, getD_mid, g2]
    rw [next_mid pre x r (by omega)]
    rw [← shift_mid, ← shift_mid] at ih
    by_cases hxy : x = y
    · subst hxy
      simp only [ne_eq, not_true_eq_false, decide_false, Bool.false_eq_true, if_false]
      refine ih.congr ?_
      by_cases hrs : r = s <;> simp [hrs]
    · simp only [ne_eq, hxy, not_false_eq_true, decide_true, if_true]
      refine Ev.of ?_
      rw [if_neg (by intro hc; injection hc with h1 h2; exact hxy h1)]
theorem e_laws_eqIntS (l m : List Int) (hl : l.length ≤ 9223372036854775806) : Ev (fun k => f_laws_eqIntS k l m) (decide (l = m)) := by
  refine Ev.succ ?_
  simp only [f_laws_eqIntS]
  by_cases h : l.length = m.length
  · simp only [h, ne_eq, not_true_eq_false, decide_false, Bool.false_eq_true, if_false]
    refine Ev.bind (e_laws_eqIntS_0 l m [] [] h.symm rfl (by simpa using hl)) ?_
    by_cases hlm : l = m
    · rw [if_pos hlm]; simp only [hlm, decide_true]; exact Ev.go (Ev.some _)
    · rw [if_neg hlm]; simp only [hlm, decide_false]; exact Ev.ret (Ev.some _)
  · have h2 : ¬ (l.length : Int) = (m.length : Int) := by omega
    have h3 : ¬ l = m := fun hc => h (by rw [hc])
    simp only [ne_eq, h2, not_false_eq_true, decide_true, if_true, h3, decide_false]
    exact Ev.some _
end Go.Proofs.Ytgpmbmnfcbippaa.Vs
