/- Where ends differ; who may ask; what is seen. -/
import Derived.Test.YtgpmbmnfcbippaaqqflVsSq
import Derived.Test.YtgpmbmnfcbippaaqqflVsEn
import Derived.Test.YtgpmbmnfcbippaaqqflVsIn
set_option linter.unusedVariables false
set_option linter.unusedSimpArgs false
namespace Go.Proofs.Ytgpmbmnfcbippaa.Vs
open Go.RowKit
theorem eq3 (x y : FallD) : (decide (x.1 = y.1) && (decide (x.2.1 = y.2.1) && (decide (x.2.2 = y.2.2) && true))) = decide (x = y) := by
  obtain ⟨a0, a1, a2⟩ := x
  obtain ⟨b0, b1, b2⟩ := y
  by_cases h0 : a0 = b0 <;> by_cases h1 : a1 = b1 <;> by_cases h2 : a2 = b2 <;> simp [h0, h1, h2]
/-- The first place where two rows differ. -/
def diffIx : Nat → List FallD → List FallD → Option Nat
  | i, x :: r, y :: s => if x = y then diffIx (i + 1) r s else some i
  | _, _, _ => none
def ixOf : Option Nat → Int
  | none => -1
  | some i => (i : Int)
def lrOf {R : Type} (f : Nat → R) : Option Nat → LR Unit R
  | none => .go ()
  | some i => .ret (f i)
theorem e_spec_faSame_0 : ∀ (r s pre pre' : List FallD), s.length = r.length → pre'.length = pre.length → (pre ++ r).length ≤ 1000000 → Ev (fun k => f_spec_faSame_0 k (pre' ++ s) (pre ++ r) ((pre ++ r).length : Int) (pre.length : Int)) (lrOf (fun i => (i : Int)) (diffIx pre.length r s))
  | [], s, pre, pre', h, hp, hl => by
    obtain rfl : s = [] := List.eq_nil_of_length_eq_zero h
    refine Ev.succ ?_
    simp only [f_spec_faSame_0, nlt_end, decide_false, Bool.false_eq_true, if_false]
    exact Ev.some _
  | x :: r, [], pre, pre', h, hp, hl => by simp at h
  | x :: r, y :: s, pre, pre', h, hp, hl => by
    have ih := e_spec_faSame_0 r s (pre ++ [x]) (pre' ++ [y]) (by simpa using h) (by simpa using hp) (by simpa using hl)
    have l2 : (pre.length : Int) < ((pre' ++ y :: s).length : Int) := by rw [← hp]; exact lt_mid _ _ _
    have g2 : List.getD (pre' ++ y :: s) pre.length (0, 0, 0) = y := by rw [← hp]; exact getD_mid _ _ _ _
    refine Ev.succ ?_
    simp only [f_spec_faSame_0, lt_mid, ge_mid, l2, decide_true, if_true, Int.toNat_natCast, getD_mid, g2, eq3]
    rw [next_mid pre x r (by omega)]
    rw [← shift_mid, ← shift_mid] at ih
    refine Ev.ite (fun hh => ?_) (fun hh => ?_)
    · have hh : ¬ x = y := nd hh
      exact Ev.of (by simp [diffIx, hh, lrOf])
    · have hh : x = y := yd hh
      refine ih.congr ?_
      simp [diffIx, hh]
theorem e_impl_firstSeen_0 : ∀ (r s pre pre' : List FallD), s.length = r.length → pre'.length = pre.length → (pre ++ r).length ≤ 1000000 → Ev (fun k => f_impl_firstSeen_0 k (pre ++ r) (pre' ++ s) ((pre ++ r).length : Int) (pre.length : Int)) (lrOf (fun i => (i : Int)) (diffIx pre.length r s))
  | [], s, pre, pre', h, hp, hl => by
    obtain rfl : s = [] := List.eq_nil_of_length_eq_zero h
    refine Ev.succ ?_
    simp only [f_impl_firstSeen_0, nlt_end, decide_false, Bool.false_eq_true, if_false]
    exact Ev.some _
  | x :: r, [], pre, pre', h, hp, hl => by simp at h
  | x :: r, y :: s, pre, pre', h, hp, hl => by
    have ih := e_impl_firstSeen_0 r s (pre ++ [x]) (pre' ++ [y]) (by simpa using h) (by simpa using hp) (by simpa using hl)
    have l2 : (pre.length : Int) < ((pre' ++ y :: s).length : Int) := by rw [← hp]; exact lt_mid _ _ _
    have g2 : List.getD (pre' ++ y :: s) pre.length (0, 0, 0) = y := by rw [← hp]; exact getD_mid _ _ _ _
    refine Ev.succ ?_
    simp only [f_impl_firstSeen_0, lt_mid, ge_mid, l2, decide_true, if_true, Int.toNat_natCast, getD_mid, g2, eq3]
    rw [next_mid pre x r (by omega)]
    rw [← shift_mid, ← shift_mid] at ih
    refine Ev.ite (fun hh => ?_) (fun hh => ?_)
    · have hh : ¬ x = y := nd hh
      exact Ev.of (by simp [diffIx, hh, lrOf])
    · have hh : x = y := yd hh
      refine ih.congr ?_
      simp [diffIx, hh]
theorem e_spec_faSame (l m : List FallD) (h : m.length = l.length) (hl : l.length ≤ 1000000) : Ev (fun k => f_spec_faSame k l m) (ixOf (diffIx 0 l m)) := by
  refine Ev.succ ?_
  simp only [f_spec_faSame]
  refine Ev.bind (e_spec_faSame_0 l m [] [] h rfl (by simpa using hl)) ?_
  simp only [List.length_nil]
  cases diffIx 0 l m with
  | none => exact Ev.go (Ev.some _)
  | some i => exact Ev.ret (Ev.some _)
def entriesOK (b : BoardD) (t : List Int) : Bool := boardOK b && decide (t.length ≤ 60) && t.all fun c => decide (0 ≤ c ∧ c < b.2.1)
theorem entries_ok {b : BoardD} {t : List Int} (h : entriesOK b t = true) : boardOK b = true ∧ t.length ≤ 60 ∧ colsOK b t := by
  unfold entriesOK at h
  simp only [Bool.and_eq_true, decide_eq_true_eq, List.all_eq_true] at h
  exact ⟨h.1.1, h.1.2, h.2⟩
theorem e_spec_flColumns (b : BoardD) (l : List Int) (hb : b.2.2.length ≤ 9223372036854775806) (hl : l.length ≤ 9223372036854775806) : Ev (fun k => f_spec_flColumns k b l) (entriesOK b l) := by
  refine Ev.succ ?_
  simp only [f_spec_flColumns]
  refine Ev.bind (e_spec_boGood b hb) ?_
  unfold entriesOK
  cases hbo : boardOK b with
  | false => simp only [Bool.false_eq_true, if_false, Bool.false_and]; exact Ev.some _
  | true =>
    obtain ⟨g1, g2, g3, g4, g5, g6⟩ := board_ok hbo
    simp only [if_true, Bool.true_and]
    rw [w64 (n := b.2.1 - 1) (by omega) (by omega)]
    refine Ev.ite (fun h => ?_) (fun h => ?_)
    · simp only [decide_eq_true_eq] at h
      have : l.length ≤ 60 := by omega
      simp only [this, decide_true, Bool.true_and]
      refine (Ev.bind (e_spec_l1All l _ _ hl) (Ev.some _)).congr ?_
      congr 1
      funext c
      have : (0 ≤ c ∧ c ≤ b.2.1 - 1) ↔ (0 ≤ c ∧ c < b.2.1) := by omega
      simp only [this]
    · simp only [decide_eq_true_eq] at h
      have : ¬ l.length ≤ 60 := by omega
      simp only [this, decide_false, Bool.false_and]
      exact Ev.some _
/-! ### What is seen -/
def endsOf (b : BoardD) (l : List FaultD) (t : List Int) : List FallD := (runsOf b (groupsOf b) (kindsB b l) t b.2.2).1
theorem endsOf_len (b : BoardD) (l : List FaultD) (t : List Int) : (endsOf b l t).length = t.length := runsOf_len _ _ _ _ _
def seenIx (b : BoardD) (l : List FaultD) (t : List Int) : Int := ixOf (diffIx 0 (endsOf b [] t) (endsOf b l t))
theorem e_spec_faSeen (b : BoardD) (hb : boardOK b = true) (l : List FaultD) (hl : faultsOK b (-1) l = true) (hll : l.length ≤ 9223372036854775806) (t : List Int) (ht : t.length ≤ 1000) (hc : colsOK b t) : Ev (fun k => f_spec_faSeen k b l t) (seenIx b l t) := by
  refine Ev.succ ?_
  simp only [f_spec_faSeen]
  have he := endsOf_len b l t
  have he2 := endsOf_len b [] t
  exact Ev.bind (e_spec_flAll b hb t ht hc) (Ev.bind (e_spec_faAll b hb l hl hll t ht hc) (Ev.bind (e_spec_faSame (endsOf b [] t) (endsOf b l t) (by omega) (by omega)) (Ev.some _)))
theorem e_impl_firstSeen (b : BoardD) (hb : boardOK b = true) (l : List FaultD) (hl : faultsOK b (-1) l = true) (hll : l.length ≤ 9223372036854775806) (t : List Int) (ht : t.length ≤ 1000) (hc : colsOK b t) : Ev (fun k => f_impl_firstSeen k b l t) (seenIx b l t) := by
  refine Ev.succ ?_
  simp only [f_impl_firstSeen]
  have he := endsOf_len b l t
  have he2 := endsOf_len b [] t
  refine Ev.bind (e_impl_dropAll b hb t ht hc) (Ev.bind (e_impl_faultyDrops b hb l hl hll t ht hc) (Ev.bind (e_impl_firstSeen_0 (endsOf b [] t) (endsOf b l t) [] [] (by omega) rfl (by simp; omega)) ?_))
  unfold seenIx
  simp only [List.length_nil]
  cases diffIx 0 (endsOf b [] t) (endsOf b l t) with
  | none => exact Ev.go (Ev.some _)
  | some i => exact Ev.ret (Ev.some _)
end Go.Proofs.Ytgpmbmnfcbippaa.Vs
