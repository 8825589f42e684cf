/- Copies, comparisons and marks of rows, for the laws on boards with faults. -/
import Derived.Test.YtgpmbmnfcbippaaqtesVsFt
set_option linter.unusedVariables false
set_option linter.unusedSimpArgs false
namespace Go.Proofs.Ytgpmbmnfcbippaa.Vs
open Go.RowKit
theorem e_laws_toFault (x : Int × Int × Int) : Ev (fun k => f_laws_toFault k x) x := Ev.succ (Ev.of rfl)
theorem e_laws_eqFault (x y : Int × Int × Int) : Ev (fun k => f_laws_eqFault k x y) (decide (x = y)) := by
  obtain ⟨a0, a1, a2⟩ := x
  obtain ⟨b0, b1, b2⟩ := y
  refine Ev.succ ?_
  simp only [f_laws_eqFault]
  refine Ev.of ?_
  by_cases h0 : a0 = b0 <;> by_cases h1 : a1 = b1 <;> by_cases h2 : a2 = b2 <;> simp [h0, h1, h2]
theorem e_laws_szFaultS (l : List (Int × Int × Int)) (n : Int) (h0 : 0 ≤ n) (h1 : n ≤ 1048576) (hl : l.length ≤ 9223372036854775807) : Ev (fun k => f_laws_szFaultS k l n) (if n - l.length < 0 then -1 else n - l.length) := by
  refine Ev.succ ?_
  simp only [f_laws_szFaultS]
  refine Ev.of ?_
  rw [w64 (by omega) (by omega)]
  by_cases h : n - (l.length : Int) < 0 <;> simp [h]
theorem e_laws_toFaultS_0 : ∀ (r pre rest : List (Int × Int × Int)), rest.length = r.length → (pre ++ r).length ≤ 1048576 → Ev (fun k => f_laws_toFaultS_0 k (pre ++ rest) (pre ++ r) (pre.length : Int)) (pre ++ r)
  | [], pre, rest, h, hl => by
    obtain rfl : rest = [] := List.eq_nil_of_length_eq_zero h
    refine Ev.succ ?_
    simp only [f_laws_toFaultS_0, nlt_end, decide_false, Bool.false_eq_true, if_false]
    exact Ev.some _
  | x :: r, pre, [], h, hl => by simp at h
  | x :: r, pre, y :: rest, h, hl => by
    have ih := e_laws_toFaultS_0 r (pre ++ [x]) rest (by simpa using h) (by simpa using hl)
    refine Ev.succ ?_
    simp only [f_laws_toFaultS_0, lt_mid, ge_mid, decide_true, if_true, Int.toNat_natCast, getD_mid, set_mid]
    rw [next_mid pre x r (by omega)]
    refine Ev.bind (e_laws_toFault x) ?_
    rw [← shift_mid, ← shift_mid] at ih
    exact ih
theorem e_laws_toFaultS (l : List (Int × Int × Int)) (hl : l.length ≤ 1048576) : Ev (fun k => f_laws_toFaultS k l) l := by
  refine Ev.succ ?_
  have hm : l.length * 24 ≤ 281474976710656 := by omega
  simp only [f_laws_toFaultS, Int.toNat_natCast, hm, if_true]
  exact Ev.bind (e_laws_toFaultS_0 l [] (List.replicate l.length (0, 0, 0)) (by simp) (by simpa using hl)) (Ev.some _)
theorem e_laws_eqFaultS_0 : ∀ (r s pre : List (Int × Int × Int)) (pre' : List (Int × Int × Int)), s.length = r.length → pre'.length = pre.length → (pre ++ r).length ≤ 9223372036854775806 → Ev (fun k => f_laws_eqFaultS_0 k (pre ++ r) (pre' ++ s) (pre.length : Int)) (if r = s then LR.go () else LR.ret false)
  | [], s, pre, pre', h, hp, hl => by
    obtain rfl : s = [] := List.eq_nil_of_length_eq_zero h
    refine Ev.succ ?_
    simp only [f_laws_eqFaultS_0, nlt_end, decide_false, Bool.false_eq_true, if_false, if_true]
    exact Ev.some _
  | x :: r, [], pre, pre', h, hp, hl => by simp at h
  | x :: r, y :: s, pre, pre', h, hp, hl => by
    have ih := e_laws_eqFaultS_0 r s (pre ++ [x]) (pre' ++ [y]) (by simpa using h) (by simpa using hp) (by simpa using hl)
    have l2 : (pre.length : Int) < ((pre' ++ y :: s).length : Int) := by rw [← hp]; exact lt_mid _ _ _
    have g2 : List.getD (pre' ++ y :: s) pre.length (0, 0, 0) = y := by rw [← hp]; exact getD_mid _ _ _ _
    refine Ev.succ ?_
    simp only [f_laws_eqFaultS_0, lt_mid, ge_mid, l2, decide_true, if_true, Int.toNat_natCast, getD_mid, g2]
    rw [next_mid pre x r (by omega)]
    rw [← shift_mid, ← shift_mid] at ih
    refine Ev.bind (e_laws_eqFault x y) ?_
    by_cases hxy : x = y
    · subst hxy
      simp only [decide_true, Bool.not_true, Bool.false_eq_true, if_false]
      refine ih.congr ?_
      by_cases hrs : r = s <;> simp [hrs]
    · simp only [hxy, decide_false, Bool.not_false, if_true]
      refine Ev.of ?_
      rw [if_neg (by intro hc; injection hc with h1 h2; exact hxy h1)]
theorem e_laws_eqFaultS (l m : List (Int × Int × Int)) (hl : l.length ≤ 9223372036854775806) : Ev (fun k => f_laws_eqFaultS k l m) (decide (l = m)) := by
  refine Ev.succ ?_
  simp only [f_laws_eqFaultS]
  by_cases h : l.length = m.length
  · simp only [h, ne_eq, not_true_eq_false, decide_false, Bool.false_eq_true, if_false]
    refine Ev.bind (e_laws_eqFaultS_0 l m [] [] h.symm rfl (by simpa using hl)) ?_
    by_cases hlm : l = m
    · rw [if_pos hlm]; simp only [hlm, decide_true]; exact Ev.go (Ev.some _)
    · rw [if_neg hlm]; simp only [hlm, decide_false]; exact Ev.ret (Ev.some _)
  · have h2 : ¬ (l.length : Int) = (m.length : Int) := by omega
    have h3 : ¬ l = m := fun hc => h (by rw [hc])
    simp only [ne_eq, h2, not_false_eq_true, decide_true, if_true, h3, decide_false]
    exact Ev.some _
/-- The marks from k on. -/
def marksFaultS : List (Int × Int × Int) → Int → List (Int × Int × Int)
  | [], _ => []
  | _ :: r, k => (k, k + 1, k + 2) :: marksFaultS r (k + 3)
theorem e_laws_markFaultS_0 : ∀ (r pre : List (Int × Int × Int)) (c : Int), 0 ≤ c → c + 3 * r.length ≤ 4611686018427387904 → (pre ++ r).length ≤ 4611686018427387904 → Ev (fun k => f_laws_markFaultS_0 k (pre ++ r) c (pre.length : Int)) (pre ++ marksFaultS r c, c + 3 * r.length)
  | [], pre, c, hc, h, hl => by
    refine Ev.succ ?_
    simp only [f_laws_markFaultS_0, nlt_end, decide_false, Bool.false_eq_true, if_false, marksFaultS, List.length_nil, Int.natCast_zero, Int.mul_zero, Int.add_zero]
    exact Ev.some _
  | x :: r, pre, c, hc, h, hl => by
    have h' : (c + 3) + 3 * (r.length : Int) = c + 3 * ((x :: r).length : Int) := by simp only [List.length_cons]; omega
    have ih := e_laws_markFaultS_0 r (pre ++ [(c, c + 1, c + 2)]) (c + 3) (by omega) (by omega) (by simpa using hl)
    have hn := next_mid pre x r (by omega)
    have hn2 : ((pre ++ [x]).length : Int) = ((pre ++ [(c, c + 1, c + 2)]).length : Int) := by simp
    refine Ev.succ ?_
    simp only [f_laws_markFaultS_0, lt_mid, ge_mid, decide_true, if_true, Int.toNat_natCast, getD_mid, set_mid, hn]
    simp only [List.length_cons] at h
    rw [w64 (n := c + 1) (by omega) (by omega), w64 (n := c + 1 + 1) (by omega) (by omega), w64 (n := c + 1 + 1 + 1) (by omega) (by omega)]
    rw [← shift_mid, h'] at ih
    rw [hn2]
    refine Ev.congr (f := _) (by simpa [Int.add_assoc] using ih) ?_
    simp [marksFaultS]
theorem e_laws_markFaultS (l : List (Int × Int × Int)) (c : Int) (hc : 0 ≤ c) (h : c + 3 * l.length ≤ 4611686018427387904) : Ev (fun k => f_laws_markFaultS k l c) (c + 3 * l.length, marksFaultS l c) :=
  Ev.succ (Ev.bind (e_laws_markFaultS_0 l [] c hc h (by simp; omega)) (Ev.some _))
/-- The marks from k on. -/
def marksCellS : List (Int × Int) → Int → List (Int × Int)
  | [], _ => []
  | _ :: r, k => (k, k + 1) :: marksCellS r (k + 2)
theorem e_laws_markCellS_0 : ∀ (r pre : List (Int × Int)) (c : Int), 0 ≤ c → c + 2 * r.length ≤ 4611686018427387904 → (pre ++ r).length ≤ 4611686018427387904 → Ev (fun k => f_laws_markCellS_0 k (pre ++ r) c (pre.length : Int)) (pre ++ marksCellS r c, c + 2 * r.length)
  | [], pre, c, hc, h, hl => by
    refine Ev.succ ?_
    simp only [f_laws_markCellS_0, nlt_end, decide_false, Bool.false_eq_true, if_false, marksCellS, List.length_nil, Int.natCast_zero, Int.mul_zero, Int.add_zero]
    exact Ev.some _
  | x :: r, pre, c, hc, h, hl => by
    have h' : (c + 2) + 2 * (r.length : Int) = c + 2 * ((x :: r).length : Int) := by simp only [List.length_cons]; omega
    have ih := e_laws_markCellS_0 r (pre ++ [(c, c + 1)]) (c + 2) (by omega) (by omega) (by simpa using hl)
    have hn := next_mid pre x r (by omega)
    have hn2 : ((pre ++ [x]).length : Int) = ((pre ++ [(c, c + 1)]).length : Int) := by simp
    refine Ev.succ ?_
    simp only [f_laws_markCellS_0, lt_mid, ge_mid, decide_true, if_true, Int.toNat_natCast, getD_mid, set_mid, hn]
    simp only [List.length_cons] at h
    rw [w64 (n := c + 1) (by omega) (by omega), w64 (n := c + 1 + 1) (by omega) (by omega)]
    rw [← shift_mid, h'] at ih
    rw [hn2]
    refine Ev.congr (f := _) (by simpa [Int.add_assoc] using ih) ?_
    simp [marksCellS]
theorem e_laws_markCellS (l : List (Int × Int)) (c : Int) (hc : 0 ≤ c) (h : c + 2 * l.length ≤ 4611686018427387904) : Ev (fun k => f_laws_markCellS k l c) (c + 2 * l.length, marksCellS l c) :=
  Ev.succ (Ev.bind (e_laws_markCellS_0 l [] c hc h (by simp; omega)) (Ev.some _))
theorem e_laws_toFall (x : Int × Int × Int) : Ev (fun k => f_laws_toFall k x) x := Ev.succ (Ev.of rfl)
theorem e_laws_eqFall (x y : Int × Int × Int) : Ev (fun k => f_laws_eqFall k x y) (decide (x = y)) := by
  obtain ⟨a0, a1, a2⟩ := x
  obtain ⟨b0, b1, b2⟩ := y
  refine Ev.succ ?_
  simp only [f_laws_eqFall]
  refine Ev.of ?_
  by_cases h0 : a0 = b0 <;> by_cases h1 : a1 = b1 <;> by_cases h2 : a2 = b2 <;> simp [h0, h1, h2]
theorem e_laws_szFallS (l : List (Int × Int × Int)) (n : Int) (h0 : 0 ≤ n) (h1 : n ≤ 1048576) (hl : l.length ≤ 9223372036854775807) : Ev (fun k => f_laws_szFallS k l n) (if n - l.length < 0 then -1 else n - l.length) := by
  refine Ev.succ ?_
  simp only [f_laws_szFallS]
  refine Ev.of ?_
  rw [w64 (by omega) (by omega)]
  by_cases h : n - (l.length : Int) < 0 <;> simp [h]
theorem e_laws_toFallS_0 : ∀ (r pre rest : List (Int × Int × Int)), rest.length = r.length → (pre ++ r).length ≤ 1048576 → Ev (fun k => f_laws_toFallS_0 k (pre ++ rest) (pre ++ r) (pre.length : Int)) (pre ++ r)
  | [], pre, rest, h, hl => by
    obtain rfl : rest = [] := List.eq_nil_of_length_eq_zero h
    refine Ev.succ ?_
    simp only [f_laws_toFallS_0, nlt_end, decide_false, Bool.false_eq_true, if_false]
    exact Ev.some _
  | x :: r, pre, [], h, hl => by simp at h
  | x :: r, pre, y :: rest, h, hl => by
    have ih := e_laws_toFallS_0 r (pre ++ [x]) rest (by simpa using h) (by simpa using hl)
    refine Ev.succ ?_
    simp only [f_laws_toFallS_0, lt_mid, ge_mid, decide_true, if_true, Int.toNat_natCast, getD_mid, set_mid]
    rw [next_mid pre x r (by omega)]
    refine Ev.bind (e_laws_toFall x) ?_
    rw [← shift_mid, ← shift_mid] at ih
    exact ih
theorem e_laws_toFallS (l : List (Int × Int × Int)) (hl : l.length ≤ 1048576) : Ev (fun k => f_laws_toFallS k l) l := by
  refine Ev.succ ?_
  have hm : l.length * 24 ≤ 281474976710656 := by omega
  simp only [f_laws_toFallS, Int.toNat_natCast, hm, if_true]
  exact Ev.bind (e_laws_toFallS_0 l [] (List.replicate l.length (0, 0, 0)) (by simp) (by simpa using hl)) (Ev.some _)
theorem e_laws_eqFallS_0 : ∀ (r s pre : List (Int × Int × Int)) (pre' : List (Int × Int × Int)), s.length = r.length → pre'.length = pre.length → (pre ++ r).length ≤ 9223372036854775806 → Ev (fun k => f_laws_eqFallS_0 k (pre ++ r) (pre' ++ s) (pre.length : Int)) (if r = s then LR.go () else LR.ret false)
  | [], s, pre, pre', h, hp, hl => by
    obtain rfl : s = [] := List.eq_nil_of_length_eq_zero h
    refine Ev.succ ?_
    simp only [f_laws_eqFallS_0, nlt_end, decide_false, Bool.false_eq_true, if_false, if_true]
    exact Ev.some _
  | x :: r, [], pre, pre', h, hp, hl => by simp at h
  | x :: r, y :: s, pre, pre', h, hp, hl => by
    have ih := e_laws_eqFallS_0 r s (pre ++ [x]) (pre' ++ [y]) (by simpa using h) (by simpa using hp) (by simpa using hl)
    have l2 : (pre.length : Int) < ((pre' ++ y :: s).length : Int) := by rw [← hp]; exact lt_mid _ _ _
    have g2 : List.getD (pre' ++ y :: s) pre.length (0, 0, 0) = y := by rw [← hp]; exact getD_mid _ _ _ _
    refine Ev.succ ?_
    simp only [f_laws_eqFallS_0, lt_mid, ge_mid, l2, decide_true, if_true, Int.toNat_natCast, getD_mid, g2]
    rw [next_mid pre x r (by omega)]
    rw [← shift_mid, ← shift_mid] at ih
    refine Ev.bind (e_laws_eqFall x y) ?_
    by_cases hxy : x = y
    · subst hxy
      simp only [decide_true, Bool.not_true, Bool.false_eq_true, if_false]
      refine ih.congr ?_
      by_cases hrs : r = s <;> simp [hrs]
    · simp only [hxy, decide_false, Bool.not_false, if_true]
      refine Ev.of ?_
      rw [if_neg (by intro hc; injection hc with h1 h2; exact hxy h1)]
theorem e_laws_eqFallS (l m : List (Int × Int × Int)) (hl : l.length ≤ 9223372036854775806) : Ev (fun k => f_laws_eqFallS k l m) (decide (l = m)) := by
  refine Ev.succ ?_
  simp only [f_laws_eqFallS]
  by_cases h : l.length = m.length
  · simp only [h, ne_eq, not_true_eq_false, decide_false, Bool.false_eq_true, if_false]
    refine Ev.bind (e_laws_eqFallS_0 l m [] [] h.symm rfl (by simpa using hl)) ?_
    by_cases hlm : l = m
    · rw [if_pos hlm]; simp only [hlm, decide_true]; exact Ev.go (Ev.some _)
    · rw [if_neg hlm]; simp only [hlm, decide_false]; exact Ev.ret (Ev.some _)
  · have h2 : ¬ (l.length : Int) = (m.length : Int) := by omega
    have h3 : ¬ l = m := fun hc => h (by rw [hc])
    simp only [ne_eq, h2, not_false_eq_true, decide_true, if_true, h3, decide_false]
    exact Ev.some _
/-- The marks from k on. -/
def marksFallS : List (Int × Int × Int) → Int → List (Int × Int × Int)
  | [], _ => []
  | _ :: r, k => (k, k + 1, k + 2) :: marksFallS r (k + 3)
theorem marksFallS_len : ∀ (l : List (Int × Int × Int)) (k : Int), (marksFallS l k).length = l.length
  | [], _ => rfl
  | _ :: r, k => by simp [marksFallS, marksFallS_len r]
theorem e_laws_markFallS_0 : ∀ (r pre : List (Int × Int × Int)) (c : Int), 0 ≤ c → c + 3 * r.length ≤ 4611686018427387904 → (pre ++ r).length ≤ 4611686018427387904 → Ev (fun k => f_laws_markFallS_0 k (pre ++ r) c (pre.length : Int)) (pre ++ marksFallS r c, c + 3 * r.length)
  | [], pre, c, hc, h, hl => by
    refine Ev.succ ?_
    simp only [f_laws_markFallS_0, nlt_end, decide_false, Bool.false_eq_true, if_false, marksFallS, List.length_nil, Int.natCast_zero, Int.mul_zero, Int.add_zero]
    exact Ev.some _
  | x :: r, pre, c, hc, h, hl => by
    have h' : (c + 3) + 3 * (r.length : Int) = c + 3 * ((x :: r).length : Int) := by simp only [List.length_cons]; omega
    have ih := e_laws_markFallS_0 r (pre ++ [(c, c + 1, c + 2)]) (c + 3) (by omega) (by omega) (by simpa using hl)
    have hn := next_mid pre x r (by omega)
    have hn2 : ((pre ++ [x]).length : Int) = ((pre ++ [(c, c + 1, c + 2)]).length : Int) := by simp
    refine Ev.succ ?_
    simp only [f_laws_markFallS_0, lt_mid, ge_mid, decide_true, if_true, Int.toNat_natCast, getD_mid, set_mid, hn]
    simp only [List.length_cons] at h
    rw [w64 (n := c + 1) (by omega) (by omega), w64 (n := c + 1 + 1) (by omega) (by omega), w64 (n := c + 1 + 1 + 1) (by omega) (by omega)]
    rw [← shift_mid, h'] at ih
    rw [hn2]
    refine Ev.congr (f := _) (by simpa [Int.add_assoc] using ih) ?_
    simp [marksFallS]
theorem e_laws_markFallS (l : List (Int × Int × Int)) (c : Int) (hc : 0 ≤ c) (h : c + 3 * l.length ≤ 4611686018427387904) : Ev (fun k => f_laws_markFallS k l c) (c + 3 * l.length, marksFallS l c) :=
  Ev.succ (Ev.bind (e_laws_markFallS_0 l [] c hc h (by simp; omega)) (Ev.some _))
theorem e_laws_heldFallS_0 : ∀ (r pre : List (Int × Int × Int)) (c : Int), 0 ≤ c → c + 3 * r.length ≤ 4611686018427387904 → (pre ++ marksFallS r c).length ≤ 4611686018427387904 → Ev (fun k => f_laws_heldFallS_0 k (pre ++ marksFallS r c) c (pre.length : Int)) (LR.go (c + 3 * r.length))
  | [], pre, c, hc, h, hl => by
    refine Ev.succ ?_
    simp only [f_laws_heldFallS_0, marksFallS, nlt_end, decide_false, Bool.false_eq_true, if_false, List.length_nil, Int.natCast_zero, Int.mul_zero, Int.add_zero]
    exact Ev.some _
  | x :: r, pre, c, hc, h, hl => by
    have h' : (c + 3) + 3 * (r.length : Int) = c + 3 * ((x :: r).length : Int) := by simp only [List.length_cons]; omega
    simp only [marksFallS] at hl ⊢
    have ih := e_laws_heldFallS_0 r (pre ++ [(c, c + 1, c + 2)]) (c + 3) (by omega) (by omega) (by simpa using hl)
    have hn := next_mid pre (c, c + 1, c + 2) (marksFallS r (c + 3)) (by omega)
    refine Ev.succ ?_
    simp only [f_laws_heldFallS_0, lt_mid, ge_mid, decide_true, if_true, Int.toNat_natCast, getD_mid, hn]
    simp only [List.length_cons] at h
    rw [w64 (n := c + 1) (by omega) (by omega), w64 (n := c + 1 + 1) (by omega) (by omega), w64 (n := c + 1 + 1 + 1) (by omega) (by omega)]
    rw [← shift_mid, h'] at ih
    simpa [Int.add_assoc] using ih
theorem e_laws_heldFallS (l : List (Int × Int × Int)) (c : Int) (hc : 0 ≤ c) (h : c + 3 * l.length ≤ 4611686018427387904) : Ev (fun k => f_laws_heldFallS k (marksFallS l c) c) (c + 3 * l.length) := by
  refine Ev.succ (Ev.bind (e_laws_heldFallS_0 l [] c hc h (by rw [List.nil_append, marksFallS_len]; omega)) ?_)
  exact Ev.go (Ev.some _)
/-- The marks from k on. -/
def marksIntS : List Int → Int → List Int
  | [], _ => []
  | _ :: r, k => k :: marksIntS r (k + 1)
theorem marksIntS_len : ∀ (l : List Int) (k : Int), (marksIntS l k).length = l.length
  | [], _ => rfl
  | _ :: r, k => by simp [marksIntS, marksIntS_len r]
theorem e_laws_markIntS_0 : ∀ (r pre : List Int) (c : Int), 0 ≤ c → c + 1 * r.length ≤ 4611686018427387904 → (pre ++ r).length ≤ 4611686018427387904 → Ev (fun k => f_laws_markIntS_0 k (pre ++ r) c (pre.length : Int)) (pre ++ marksIntS r c, c + 1 * r.length)
  | [], pre, c, hc, h, hl => by
    refine Ev.succ ?_
    simp only [f_laws_markIntS_0, nlt_end, decide_false, Bool.false_eq_true, if_false, marksIntS, List.length_nil, Int.natCast_zero, Int.mul_zero, Int.add_zero]
    exact Ev.some _
  | x :: r, pre, c, hc, h, hl => by
    have h' : (c + 1) + 1 * (r.length : Int) = c + 1 * ((x :: r).length : Int) := by simp only [List.length_cons]; omega
    have ih := e_laws_markIntS_0 r (pre ++ [c]) (c + 1) (by omega) (by omega) (by simpa using hl)
    have hn := next_mid pre x r (by omega)
    have hn2 : ((pre ++ [x]).length : Int) = ((pre ++ [c]).length : Int) := by simp
    refine Ev.succ ?_
    simp only [f_laws_markIntS_0, lt_mid, ge_mid, decide_true, if_true, Int.toNat_natCast, getD_mid, set_mid, hn]
    simp only [List.length_cons] at h
    rw [w64 (n := c + 1) (by omega) (by omega)]
    rw [← shift_mid, h'] at ih
    rw [hn2]
    refine Ev.congr (f := _) (by simpa [Int.add_assoc] using ih) ?_
    simp [marksIntS]
theorem e_laws_markIntS (l : List Int) (c : Int) (hc : 0 ≤ c) (h : c + 1 * l.length ≤ 4611686018427387904) : Ev (fun k => f_laws_markIntS k l c) (c + 1 * l.length, marksIntS l c) :=
  Ev.succ (Ev.bind (e_laws_markIntS_0 l [] c hc h (by simp; omega)) (Ev.some _))
theorem e_laws_heldIntS_0 : ∀ (r pre : List Int) (c : Int), 0 ≤ c → c + 1 * r.length ≤ 4611686018427387904 → (pre ++ marksIntS r c).length ≤ 4611686018427387904 → Ev (fun k => f_laws_heldIntS_0 k (pre ++ marksIntS r c) c (pre.length : Int)) (LR.go (c + 1 * r.length))
  | [], pre, c, hc, h, hl => by
    refine Ev.succ ?_
    simp only [f_laws_heldIntS_0, marksIntS, nlt_end, decide_false, Bool.false_eq_true, if_false, List.length_nil, Int.natCast_zero, Int.mul_zero, Int.add_zero]
    exact Ev.some _
  | x :: r, pre, c, hc, h, hl => by
    have h' : (c + 1) + 1 * (r.length : Int) = c + 1 * ((x :: r).length : Int) := by simp only [List.length_cons]; omega
    simp only [marksIntS] at hl ⊢
    have ih := e_laws_heldIntS_0 r (pre ++ [c]) (c + 1) (by omega) (by omega) (by simpa using hl)
    have hn := next_mid pre c (marksIntS r (c + 1)) (by omega)
    refine Ev.succ ?_
    simp only [f_laws_heldIntS_0, lt_mid, ge_mid, decide_true, if_true, Int.toNat_natCast, getD_mid, hn]
    simp only [List.length_cons] at h
    rw [w64 (n := c + 1) (by omega) (by omega)]
    rw [← shift_mid, h'] at ih
    simpa [Int.add_assoc] using ih
theorem e_laws_heldIntS (l : List Int) (c : Int) (hc : 0 ≤ c) (h : c + 1 * l.length ≤ 4611686018427387904) : Ev (fun k => f_laws_heldIntS k (marksIntS l c) c) (c + 1 * l.length) := by
  refine Ev.succ (Ev.bind (e_laws_heldIntS_0 l [] c hc h (by rw [List.nil_append, marksIntS_len]; omega)) ?_)
  exact Ev.go (Ev.some _)
theorem e_laws_markBoard (b : BoardD) (c : Int) (hc : 0 ≤ c) (h : c + 2 * b.2.2.length ≤ 4611686018427387904) : Ev (fun k => f_laws_markBoard k b c) (c + 2 * b.2.2.length, marksCellS b.2.2 c) := by
  refine Ev.succ ?_
  simp only [f_laws_markBoard]
  exact Ev.bind (e_laws_markCellS _ c hc h) (Ev.some _)
end Go.Proofs.Ytgpmbmnfcbippaa.Vs
