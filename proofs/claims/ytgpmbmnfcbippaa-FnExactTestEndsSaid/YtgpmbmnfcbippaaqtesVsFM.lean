/- Marks in rows of falls. -/
import Derived.Test.YtgpmbmnfcbippaaqtesVsFS
set_option linter.unusedVariables false
set_option linter.unusedSimpArgs false
namespace Go.Proofs.Ytgpmbmnfcbippaa.Vs
open Go.RowKit
/-- The marks from k on, row by row. -/
def marksFallSS : List (List (Int × Int × Int)) → Int → List (List (Int × Int × Int))
  | [], _ => []
  | x :: r, k => marksFallS x k :: marksFallSS r (k + 3 * x.length)
theorem marksFallSS_len : ∀ (l : List (List (Int × Int × Int))) (k : Int), (marksFallSS l k).length = l.length
  | [], _ => rfl
  | _ :: r, k => by simp [marksFallSS, marksFallSS_len r]
theorem e_laws_markFallSS_0 : ∀ (r pre : List (List (Int × Int × Int))) (c : Int), 0 ≤ c → c + 3 * szRows r ≤ 4611686018427387904 → (pre ++ r).length ≤ 4611686018427387904 → Ev (fun k => f_laws_markFallSS_0 k (pre ++ r) c (pre.length : Int)) (pre ++ marksFallSS r c, c + 3 * szRows r)
  | [], pre, c, hc, h, hl => by
    refine Ev.succ ?_
    simp only [f_laws_markFallSS_0, nlt_end, decide_false, Bool.false_eq_true, if_false, marksFallSS, szRows, Int.mul_zero, Int.add_zero]
    exact Ev.some _
  | x :: r, pre, c, hc, h, hl => by
    have hz := szRows_nonneg r
    simp only [szRows] at h ⊢
    have h' : (c + 3 * (x.length : Int)) + 3 * szRows r = c + 3 * ((x.length : Int) + szRows r) := by omega
    have ih := e_laws_markFallSS_0 r (pre ++ [marksFallS x c]) (c + 3 * x.length) (by omega) (by omega) (by simpa using hl)
    have hn := next_mid pre x r (by omega)
    have hn2 : ((pre ++ [x]).length : Int) = ((pre ++ [marksFallS x c]).length : Int) := by simp
    have hx := e_laws_markFallS x c hc (by omega)
    refine Ev.succ ?_
    unfold f_laws_markFallSS_0
    refine Ev.ite (fun _ => Ev.ite (fun _ => Ev.ite (fun _ => ?_) (fun h => absurd (lt_mid _ _ _) h)) (fun h => absurd (ge_mid _) h)) (fun h => absurd (decide_eq_true (lt_mid _ _ _)) h)
    refine Ev.bind (a := (List.getD (pre ++ x :: r) (Int.toNat (pre.length : Int)) [], c, ())) (Ev.of ((if_pos (c := (1 : Nat) = 1 ∧ (pre.length : Int) = pre.length) ⟨rfl, rfl⟩).trans rfl)) ?_
    simp only [Int.toNat_natCast, getD_mid]
    refine Ev.bind hx ?_
    simp only [set_mid, hn]
    rw [← shift_mid, h'] at ih
    rw [hn2]
    refine ih.congr ?_
    simp [marksFallSS]
theorem e_laws_markFallSS (l : List (List (Int × Int × Int))) (c : Int) (hc : 0 ≤ c) (h : c + 3 * szRows l ≤ 4611686018427387904) (hl : l.length ≤ 4611686018427387904) : Ev (fun k => f_laws_markFallSS k l c) (c + 3 * szRows l, marksFallSS l c) :=
  Ev.succ (Ev.bind (e_laws_markFallSS_0 l [] c hc h (by simpa using hl)) (Ev.some _))
theorem e_laws_heldFallSS_0 : ∀ (r pre : List (List (Int × Int × Int))) (c : Int), 0 ≤ c → c + 3 * szRows r ≤ 4611686018427387904 → (pre ++ marksFallSS r c).length ≤ 4611686018427387904 → Ev (fun k => f_laws_heldFallSS_0 k (pre ++ marksFallSS r c) c (pre.length : Int)) (LR.go (c + 3 * szRows r))
  | [], pre, c, hc, h, hl => by
    refine Ev.succ ?_
    simp only [f_laws_heldFallSS_0, marksFallSS, nlt_end, decide_false, Bool.false_eq_true, if_false, szRows, Int.mul_zero, Int.add_zero]
    exact Ev.some _
  | x :: r, pre, c, hc, h, hl => by
    have hz := szRows_nonneg r
    simp only [szRows] at h ⊢
    have h' : (c + 3 * (x.length : Int)) + 3 * szRows r = c + 3 * ((x.length : Int) + szRows r) := by omega
    simp only [marksFallSS] at hl ⊢
    have ih := e_laws_heldFallSS_0 r (pre ++ [marksFallS x c]) (c + 3 * x.length) (by omega) (by omega) (by simpa using hl)
    have hn := next_mid pre (marksFallS x c) (marksFallSS r (c + 3 * x.length)) (by omega)
    refine Ev.succ ?_
    simp only [f_laws_heldFallSS_0, lt_mid, ge_mid, decide_true, if_true, Int.toNat_natCast, getD_mid, hn]
    refine Ev.bind (e_laws_heldFallS x c hc (by omega)) (Ev.ite (fun h => ?_) (fun _ => ?_))
    · simp only [decide_eq_true_eq] at h; omega
    · rw [← shift_mid, h'] at ih
      exact ih
theorem e_laws_heldFallSS (l : List (List (Int × Int × Int))) (c : Int) (hc : 0 ≤ c) (h : c + 3 * szRows l ≤ 4611686018427387904) (hl : l.length ≤ 4611686018427387904) : Ev (fun k => f_laws_heldFallSS k (marksFallSS l c) c) (c + 3 * szRows l) := by
  refine Ev.succ (Ev.bind (e_laws_heldFallSS_0 l [] c hc h (by rw [List.nil_append, marksFallSS_len]; exact hl)) ?_)
  exact Ev.go (Ev.some _)
end Go.Proofs.Ytgpmbmnfcbippaa.Vs
