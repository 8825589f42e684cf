/- Where ends differ; who may ask; what is seen. -/
import Derived.Test.YtgpmbmnfcbippaaqtesVsSq
import Derived.Test.YtgpmbmnfcbippaaqtesVsEn
import Derived.Test.YtgpmbmnfcbippaaqtesVsIn
set_option linter.unusedVariables false
set_option linter.unusedSimpArgs false
namespace Go.Proofs.Ytgpmbmnfcbippaa.Vs
open Go.RowKit
theorem eq3 (x y : FallD) : (decide (x.1 = y.1) && (decide (x.2.1 = y.2.1) && (decide (x.2.2 = y.2.2) && true))) = decide (x = y) := by
  obtain ⟨a0, a1, a2⟩ := x
  obtain ⟨b0, b1, b2⟩ := y
  by_cases h0 : a0 = b0 <;> by_cases h1 : a1 = b1 <;> by_cases h2 : a2 = b2 <;> simp [h0, h1, h2]
/-- The first place where two rows differ. -/
def diffIx : Nat → List FallD → List FallD → Option Nat
  | i, x :: r, y :: s => if x = y then diffIx (i + 1) r s else some i
  | _, _, _ => none
def ixOf : Option Nat → Int
  | none => -1
  | some i => (i : Int)
def lrOf {R : Type} (f : Nat → R) : Option Nat → LR Unit R
  | none => .go ()
  | some i => .ret (f i)
theorem diffIx_none : ∀ (i : Nat) (r s : List FallD), s.length = r.length → (diffIx i r s = none ↔ r = s)
  | i, [], s, h => by
    obtain rfl : s = [] := List.eq_nil_of_length_eq_zero h
    simp [diffIx]
  | i, x :: r, [], h => by simp at h
  | i, x :: r, y :: s, h => by
    have ih := diffIx_none (i + 1) r s (by simpa using h)
    by_cases hxy : x = y <;> simp [diffIx, hxy, ih]
theorem ix_neg (z : Option Nat) : ixOf z < 0 ↔ z = none := by
  cases z with
  | none => simp [ixOf]
  | some i => simp only [ixOf, reduceCtorEq, iff_false]; omega
theorem e_spec_faSame_0 : ∀ (r s pre pre' : List FallD), s.length = r.length → pre'.length = pre.length → (pre ++ r).length ≤ 1000000 → Ev (fun k => f_spec_faSame_0 k (pre' ++ s) (pre ++ r) ((pre ++ r).length : Int) (pre.length : Int)) (lrOf (fun i => (i : Int)) (diffIx pre.length r s))
  | [], s, pre, pre', h, hp, hl => by
    obtain rfl : s = [] := List.eq_nil_of_length_eq_zero h
    refine Ev.succ ?_
    simp only [f_spec_faSame_0, nlt_end, decide_false, Bool.false_eq_true, if_false]
    exact Ev.some _
  | x :: r, [], pre, pre', h, hp, hl => by simp at h
  | x :: r, y :: s, pre, pre', h, hp, hl => by
    have ih := e_spec_faSame_0 r s (pre ++ [x]) (pre' ++ [y]) (by simpa using h) (by simpa using hp) (by simpa using hl)
    have l2 : (pre.length : Int) < ((pre' ++ y :: s).length : Int) := by rw [← hp]; exact lt_mid _ _ _
    have g2 : List.getD (pre' ++ y :: s) pre.length (0, 0, 0) = y := by rw [← hp]; exact getD_mid _ _ _ _
    refine Ev.succ ?_
    simp only [f_spec_faSame_0, lt_mid, ge_mid, l2, decide_true, if_true, Int.toNat_natCast, getD_mid, g2, eq3]
    rw [next_mid pre x r (by omega)]
    rw [← shift_mid, ← shift_mid] at ih
    refine Ev.ite (fun hh => ?_) (fun hh => ?_)
    · have hh : ¬ x = y := nd hh
      exact Ev.of (by simp [diffIx, hh, lrOf])
    · have hh : x = y := yd hh
      refine ih.congr ?_
      simp [diffIx, hh]
theorem e_slices_Equal_impl_Fall_impl_Fall_0 : ∀ (r s pre pre' : List FallD), s.length = r.length → pre'.length = pre.length → (pre ++ r).length ≤ 1000000 → Ev (fun k => f_slices_Equal_impl_Fall_impl_Fall_0 k (pre ++ r) (pre' ++ s) ((pre ++ r).length : Int) (pre.length : Int)) (lrOf (fun _ => false) (diffIx pre.length r s))
  | [], s, pre, pre', h, hp, hl => by
    obtain rfl : s = [] := List.eq_nil_of_length_eq_zero h
    refine Ev.succ ?_
    simp only [f_slices_Equal_impl_Fall_impl_Fall_0, nlt_end, decide_false, Bool.false_eq_true, if_false]
    exact Ev.some _
  | x :: r, [], pre, pre', h, hp, hl => by simp at h
  | x :: r, y :: s, pre, pre', h, hp, hl => by
    have ih := e_slices_Equal_impl_Fall_impl_Fall_0 r s (pre ++ [x]) (pre' ++ [y]) (by simpa using h) (by simpa using hp) (by simpa using hl)
    have l2 : (pre.length : Int) < ((pre' ++ y :: s).length : Int) := by rw [← hp]; exact lt_mid _ _ _
    have g2 : List.getD (pre' ++ y :: s) pre.length (0, 0, 0) = y := by rw [← hp]; exact getD_mid _ _ _ _
    refine Ev.succ ?_
    simp only [f_slices_Equal_impl_Fall_impl_Fall_0, lt_mid, ge_mid, l2, decide_true, if_true, Int.toNat_natCast, getD_mid, g2, eq3]
    rw [next_mid pre x r (by omega)]
    rw [← shift_mid, ← shift_mid] at ih
    refine Ev.ite (fun hh => ?_) (fun hh => ?_)
    · have hh : ¬ x = y := nd hh
      exact Ev.of (by simp [diffIx, hh, lrOf])
    · have hh : x = y := yd hh
      refine ih.congr ?_
      simp [diffIx, hh]
theorem e_spec_faSame (l m : List FallD) (h : m.length = l.length) (hl : l.length ≤ 1000000) : Ev (fun k => f_spec_faSame k l m) (ixOf (diffIx 0 l m)) := by
  refine Ev.succ ?_
  simp only [f_spec_faSame]
  refine Ev.bind (e_spec_faSame_0 l m [] [] h rfl (by simpa using hl)) ?_
  simp only [List.length_nil]
  cases diffIx 0 l m with
  | none => exact Ev.go (Ev.some _)
  | some i => exact Ev.ret (Ev.some _)
theorem e_slices_Equal_impl_Fall_impl_Fall (l m : List FallD) (hl : l.length ≤ 1000000) : Ev (fun k => f_slices_Equal_impl_Fall_impl_Fall k l m) (decide (l = m)) := by
  refine Ev.succ ?_
  simp only [f_slices_Equal_impl_Fall_impl_Fall]
  by_cases h : l.length = m.length
  · simp only [h, ne_eq, not_true_eq_false, decide_false, Bool.false_eq_true, if_false]
    have hh := e_slices_Equal_impl_Fall_impl_Fall_0 l m [] [] h.symm rfl (by simpa using hl)
    simp only [List.nil_append, List.length_nil, h] at hh
    refine Ev.bind hh ?_
    have hn := diffIx_none 0 l m h.symm
    cases hd : diffIx 0 l m with
    | none =>
      rw [hd] at hn
      simp only [hn.1 rfl, decide_true]
      exact Ev.go (Ev.some _)
    | some i =>
      rw [hd] at hn
      have : ¬ l = m := fun hc => by have := hn.2 hc; cases this
      simp only [this, decide_false]
      exact Ev.ret (Ev.some _)
  · have h2 : ¬ (l.length : Int) = (m.length : Int) := by omega
    have h3 : ¬ l = m := fun hc => h (by rw [hc])
    simp only [ne_eq, h2, not_false_eq_true, decide_true, if_true, h3, decide_false]
    exact Ev.some _
/-! ### What is seen -/
def endsOf (b : BoardD) (l : List FaultD) (t : List Int) : List FallD := (runsOf b (groupsOf b) (kindsB b l) t b.2.2).1
theorem endsOf_len (b : BoardD) (l : List FaultD) (t : List Int) : (endsOf b l t).length = t.length := runsOf_len _ _ _ _ _
end Go.Proofs.Ytgpmbmnfcbippaa.Vs
