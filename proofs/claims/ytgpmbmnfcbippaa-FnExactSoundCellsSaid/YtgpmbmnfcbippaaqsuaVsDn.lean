/- Where ends differ; who may ask; what is seen. -/
import Derived.Test.YtgpmbmnfcbippaaqsuaVsSq
import Derived.Test.YtgpmbmnfcbippaaqsuaVsEn
import Derived.Test.YtgpmbmnfcbippaaqsuaVsIn
set_option linter.unusedVariables false
set_option linter.unusedSimpArgs false
namespace Go.Proofs.Ytgpmbmnfcbippaa.Vs
open Go.RowKit
theorem eq3 (x y : FallD) : (decide (x.1 = y.1) && (decide (x.2.1 = y.2.1) && (decide (x.2.2 = y.2.2) && true))) = decide (x = y) := by
  obtain ⟨a0, a1, a2⟩ := x
  obtain ⟨b0, b1, b2⟩ := y
  by_cases h0 : a0 = b0 <;> by_cases h1 : a1 = b1 <;> by_cases h2 : a2 = b2 <;> simp [h0, h1, h2]
/-- The first place where two rows differ. -/
def diffIx : Nat → List FallD → List FallD → Option Nat
  | i, x :: r, y :: s => if x = y then diffIx (i + 1) r s else some i
  | _, _, _ => none
def ixOf : Option Nat → Int
  | none => -1
  | some i => (i : Int)
def lrOf {R : Type} (f : Nat → R) : Option Nat → LR Unit R
  | none => .go ()
  | some i => .ret (f i)
theorem diffIx_none : ∀ (i : Nat) (r s : List FallD), s.length = r.length → (diffIx i r s = none ↔ r = s)
  | i, [], s, h => by
    obtain rfl : s = [] := List.eq_nil_of_length_eq_zero h
    simp [diffIx]
  | i, x :: r, [], h => by simp at h
  | i, x :: r, y :: s, h => by
    have ih := diffIx_none (i + 1) r s (by simpa using h)
    by_cases hxy : x = y <;> simp [diffIx, hxy, ih]
theorem ix_neg (z : Option Nat) : ixOf z < 0 ↔ z = none := by
  cases z with
  | none => simp [ixOf]
  | some i => simp only [ixOf, reduceCtorEq, iff_false]; omega
theorem e_spec_faSame_0 : ∀ (r s pre pre' : List FallD), s.length = r.length → pre'.length = pre.length → (pre ++ r).length ≤ 1000000 → Ev (fun k => f_spec_faSame_0 k (pre' ++ s) (pre ++ r) ((pre ++ r).length : Int) (pre.length : Int)) (lrOf (fun i => (i : Int)) (diffIx pre.length r s))
  | [], s, pre, pre', h, hp, hl => by
    obtain rfl : s = [] := List.eq_nil_of_length_eq_zero h
    refine Ev.succ ?_
    simp only [f_spec_faSame_0, nlt_end, decide_false, Bool.false_eq_true, if_false]
    exact Ev.some _
  | x :: r, [], pre, pre', h, hp, hl => by simp at h
  | x :: r, y :: s, pre, pre', h, hp, hl => by
    have ih := e_spec_faSame_0 r s (pre ++ [x]) (pre' ++ [y]) (by simpa using h) (by simpa using hp) (by simpa using hl)
    have l2 : (pre.length : Int) < ((pre' ++ y :: s).length : Int) := by rw [← hp]; exact lt_mid _ _ _
    have g2 : List.getD (pre' ++ y :: s) pre.length (0, 0, 0) = y := by rw [← hp]; exact getD_mid _ _ _ _
    refine Ev.succ ?_
    simp only [f_spec_faSame_0, lt_mid, ge_mid, l2, decide_true, if_true, Int.toNat_natCast, getD_mid, g2, eq3]
    rw [next_mid pre x r (by omega)]
    rw [← shift_mid, ← shift_mid] at ih
    refine Ev.ite (fun hh => ?_) (fun hh => ?_)
    · have hh : ¬ x = y := nd hh
      exact Ev.of (by simp [diffIx, hh, lrOf])
    · have hh : x = y := yd hh
      refine ih.congr ?_
      simp [diffIx, hh]
theorem e_slices_Equal_impl_Fall_impl_Fall_0 : ∀ (r s pre pre' : List FallD), s.length = r.length → pre'.length = pre.length → (pre ++ r).length ≤ 1000000 → Ev (fun k => f_slices_Equal_impl_Fall_impl_Fall_0 k (pre ++ r) (pre' ++ s) ((pre ++ r).length : Int) (pre.length : Int)) (lrOf (fun _ => false) (diffIx pre.length r s))
  | [], s, pre, pre', h, hp, hl => by
    obtain rfl : s = [] := List.eq_nil_of_length_eq_zero h
    refine Ev.succ ?_
    simp only [f_slices_Equal_impl_Fall_impl_Fall_0, nlt_end, decide_false, Bool.false_eq_true, if_false]
    exact Ev.some _
  | x :: r, [], pre, pre', h, hp, hl => by simp at h
  | x :: r, y :: s, pre, pre', h, hp, hl => by
    have ih := e_slices_Equal_impl_Fall_impl_Fall_0 r s (pre ++ [x]) (pre' ++ [y]) (by simpa using h) (by simpa using hp) (by simpa using hl)
    have l2 : (pre.length : Int) < ((pre' ++ y :: s).length : Int) := by rw [← hp]; exact lt_mid _ _ _
    have g2 : List.getD (pre' ++ y :: s) pre.length (0, 0, 0) = y := by rw [← hp]; exact getD_mid _ _ _ _
    refine Ev.succ ?_
    simp only [f_slices_Equal_impl_Fall_impl_Fall_0, lt_mid, ge_mid, l2, decide_true, if_true, Int.toNat_natCast, getD_mid, g2, eq3]
    rw [next_mid pre x r (by omega)]
    rw [← shift_mid, ← shift_mid] at ih
    refine Ev.ite (fun hh => ?_) (fun hh => ?_)
    · have hh : ¬ x = y := nd hh
      exact Ev.of (by simp [diffIx, hh, lrOf])
    · have hh : x = y := yd hh
      refine ih.congr ?_
      simp [diffIx, hh]
theorem e_spec_faSame (l m : List FallD) (h : m.length = l.length) (hl : l.length ≤ 1000000) : Ev (fun k => f_spec_faSame k l m) (ixOf (diffIx 0 l m)) := by
  refine Ev.succ ?_
  simp only [f_spec_faSame]
  refine Ev.bind (e_spec_faSame_0 l m [] [] h rfl (by simpa using hl)) ?_
  simp only [List.length_nil]
  cases diffIx 0 l m with
  | none => exact Ev.go (Ev.some _)
  | some i => exact Ev.ret (Ev.some _)
theorem e_slices_Equal_impl_Fall_impl_Fall (l m : List FallD) (hl : l.length ≤ 1000000) : Ev (fun k => f_slices_Equal_impl_Fall_impl_Fall k l m) (decide (l = m)) := by
  refine Ev.succ ?_
  simp only [f_slices_Equal_impl_Fall_impl_Fall]
  by_cases h : l.length = m.length
  · simp only [h, ne_eq, not_true_eq_false, decide_false, Bool.false_eq_true, if_false]
    have hh := e_slices_Equal_impl_Fall_impl_Fall_0 l m [] [] h.symm rfl (by simpa using hl)
    simp only [List.nil_append, List.length_nil, h] at hh
    refine Ev.bind hh ?_
    have hn := diffIx_none 0 l m h.symm
    cases hd : diffIx 0 l m with
    | none =>
      rw [hd] at hn
      simp only [hn.1 rfl, decide_true]
      exact Ev.go (Ev.some _)
    | some i =>
      rw [hd] at hn
      have : ¬ l = m := fun hc => by have := hn.2 hc; cases this
      simp only [this, decide_false]
      exact Ev.ret (Ev.some _)
  · have h2 : ¬ (l.length : Int) = (m.length : Int) := by omega
    have h3 : ¬ l = m := fun hc => h (by rw [hc])
    simp only [ne_eq, h2, not_false_eq_true, decide_true, if_true, h3, decide_false]
    exact Ev.some _
def endOK (b : BoardD) (e : FallD) : Bool := decide (1 ≤ e.1 ∧ e.1 ≤ 3) && decide (0 ≤ e.2.1 ∧ e.2.1 ≤ b.1) && decide (-1 ≤ e.2.2 ∧ e.2.2 ≤ b.2.1)
/-- Marbles and what was seen of them. -/
def seenOK (b : BoardD) (t : List Int) (s : List FallD) : Bool := boardOK b && (decide (b.2.2.length ≤ 24) && (decide (t.length ≤ 20) && ((t.all fun c => decide (0 ≤ c ∧ c < b.2.1)) && (decide (s.length = t.length) && s.all (endOK b)))))
theorem seen_ok {b : BoardD} {t : List Int} {s : List FallD} (h : seenOK b t s = true) : boardOK b = true ∧ b.2.2.length ≤ 24 ∧ t.length ≤ 20 ∧ colsOK b t ∧ s.length = t.length := by
  unfold seenOK at h
  simp only [Bool.and_eq_true, decide_eq_true_eq, List.all_eq_true] at h
  exact ⟨h.1, h.2.1, h.2.2.1, h.2.2.2.1, h.2.2.2.2.1⟩
theorem e_spec_dgGood_0 (b : BoardD) : ∀ (r pre : List FallD), (pre ++ r).length ≤ 9223372036854775806 → Ev (fun k => f_spec_dgGood_0 k b.1 b.2.1 b.2.2 (pre ++ r) ((pre ++ r).length : Int) (pre.length : Int)) (if r.all (endOK b) then LR.go () else LR.ret false)
  | [], pre, hl => by
    refine Ev.succ ?_
    simp only [f_spec_dgGood_0, nlt_end, decide_false, Bool.false_eq_true, if_false, List.all_nil, if_true]
    exact Ev.some _
  | x :: r, pre, hl => by
    have ih := e_spec_dgGood_0 b r (pre ++ [x]) (by simpa using hl)
    refine Ev.succ ?_
    simp only [f_spec_dgGood_0, lt_mid, ge_mid, decide_true, if_true, Int.toNat_natCast, getD_mid]
    rw [next_mid pre x r (by omega)]
    rw [← shift_mid] at ih
    simp only [List.all_cons]
    have hd : endOK b x = (decide (1 ≤ x.1 ∧ x.1 ≤ 3) && decide (0 ≤ x.2.1 ∧ x.2.1 ≤ b.1) && decide (-1 ≤ x.2.2 ∧ x.2.2 ≤ b.2.1)) := rfl
    refine Ev.bind (e_spec_l1In _ _ _) (Ev.ite (fun h => ?_) (fun h1 => ?_))
    · have h := nd (c := 1 ≤ x.1 ∧ x.1 ≤ 3) h
      exact Ev.of (by simp [hd, h])
    refine Ev.bind (e_spec_l1In _ _ _) (Ev.ite (fun h => ?_) (fun h2 => ?_))
    · have h := nd (c := 0 ≤ x.2.1 ∧ x.2.1 ≤ b.1) h
      exact Ev.of (by simp only [hd, h, decide_false, Bool.and_false, Bool.false_and, Bool.false_eq_true, if_false])
    refine Ev.bind (e_spec_l1In _ _ _) (Ev.ite (fun h => ?_) (fun h3 => ?_))
    · have h := nd (c := -1 ≤ x.2.2 ∧ x.2.2 ≤ b.2.1) h
      exact Ev.of (by simp only [hd, h, decide_false, Bool.and_false, Bool.false_and, Bool.false_eq_true, if_false])
    have h1 := yd (c := 1 ≤ x.1 ∧ x.1 ≤ 3) h1
    have h2 := yd (c := 0 ≤ x.2.1 ∧ x.2.1 ≤ b.1) h2
    have h3 := yd (c := -1 ≤ x.2.2 ∧ x.2.2 ≤ b.2.1) h3
    refine ih.congr ?_
    simp only [hd, h1, h2, h3, and_self, decide_true, Bool.true_and]
theorem e_spec_dgGood (b : BoardD) (t : List Int) (s : List FallD) (hb : b.2.2.length ≤ 9223372036854775806) (ht : t.length ≤ 9223372036854775806) (hs : s.length ≤ 9223372036854775806) : Ev (fun k => f_spec_dgGood k b t s) (seenOK b t s) := by
  refine Ev.succ ?_
  simp only [f_spec_dgGood]
  have hdg : Ev (fun k => f_spec_dgBoard k b) (boardOK b && decide (b.2.2.length ≤ 24)) := by
    refine Ev.succ ?_
    simp only [f_spec_dgBoard]
    refine Ev.bind (e_spec_boGood b hb) (Ev.of ?_)
    have : ((b.2.2.length : Int) ≤ 24) ↔ b.2.2.length ≤ 24 := by omega
    cases boardOK b <;> simp [this]
  refine Ev.bind hdg ?_
  unfold seenOK
  rw [← Bool.and_assoc]
  cases h0 : (boardOK b && decide (b.2.2.length ≤ 24)) with
  | false => simp only [Bool.not_false, if_true, Bool.false_and]; exact Ev.some _
  | true =>
    have hbo : boardOK b = true := by rw [Bool.and_eq_true] at h0; exact h0.1
    obtain ⟨g1, g2, g3, g4, g5, g6⟩ := board_ok hbo
    simp only [Bool.not_true, Bool.false_eq_true, if_false, Bool.true_and]
    rw [w64 (n := b.2.1 - 1) (by omega) (by omega)]
    refine Ev.ite (fun h => ?_) (fun h => ?_)
    · simp only [decide_eq_true_eq] at h
      have : ¬ t.length ≤ 20 := by omega
      simp only [this, decide_false, Bool.false_and]
      exact Ev.some _
    simp only [decide_eq_true_eq] at h
    have h20 : t.length ≤ 20 := by omega
    simp only [h20, decide_true, Bool.true_and]
    have hall : (t.all fun n => decide (0 ≤ n ∧ n ≤ b.2.1 - 1)) = (t.all fun c => decide (0 ≤ c ∧ c < b.2.1)) := by
      congr 1
      funext c
      have : (0 ≤ c ∧ c ≤ b.2.1 - 1) ↔ (0 ≤ c ∧ c < b.2.1) := by omega
      simp only [this]
    refine Ev.bind (e_spec_l1All t _ _ ht) ?_
    rw [hall]
    cases h1 : (t.all fun c => decide (0 ≤ c ∧ c < b.2.1)) with
    | false => simp only [Bool.not_false, if_true, Bool.false_and]; exact Ev.some _
    | true =>
      simp only [Bool.not_true, Bool.false_eq_true, if_false, Bool.true_and]
      refine Ev.ite (fun h => ?_) (fun h => ?_)
      · simp only [decide_eq_true_eq] at h
        have : ¬ s.length = t.length := by omega
        simp only [this, decide_false, Bool.false_and]
        exact Ev.some _
      simp only [decide_eq_true_eq] at h
      have hst : s.length = t.length := by omega
      rw [decide_eq_true hst, Bool.true_and]
      refine Ev.bind (e_spec_dgGood_0 b s [] (by simpa using hs)) ?_
      cases s.all (endOK b) with
      | true => simp only [if_true]; exact Ev.go (Ev.some _)
      | false => simp only [Bool.false_eq_true, if_false]; exact Ev.ret (Ev.some _)
theorem e_impl_isSeen_0 (b : BoardD) : ∀ (r pre : List FallD), (pre ++ r).length ≤ 9223372036854775806 → Ev (fun k => f_impl_isSeen_0 k b.1 b.2.1 b.2.2 (pre ++ r) ((pre ++ r).length : Int) (pre.length : Int)) (if r.all (endOK b) then LR.go () else LR.ret false)
  | [], pre, hl => by
    refine Ev.succ ?_
    simp only [f_impl_isSeen_0, nlt_end, decide_false, Bool.false_eq_true, if_false, List.all_nil, if_true]
    exact Ev.some _
  | x :: r, pre, hl => by
    have ih := e_impl_isSeen_0 b r (pre ++ [x]) (by simpa using hl)
    refine Ev.succ ?_
    simp only [f_impl_isSeen_0, lt_mid, ge_mid, decide_true, if_true, Int.toNat_natCast, getD_mid]
    rw [next_mid pre x r (by omega)]
    rw [← shift_mid] at ih
    simp only [List.all_cons]
    have hd : endOK b x = decide (1 ≤ x.1 ∧ x.1 ≤ 3 ∧ 0 ≤ x.2.1 ∧ x.2.1 ≤ b.1 ∧ -1 ≤ x.2.2 ∧ x.2.2 ≤ b.2.1) := by
      unfold endOK
      rw [← Bool.decide_and, ← Bool.decide_and]
      exact decide_eq_decide.2 (by omega)
    have no : ¬ (1 ≤ x.1 ∧ x.1 ≤ 3 ∧ 0 ≤ x.2.1 ∧ x.2.1 ≤ b.1 ∧ -1 ≤ x.2.2 ∧ x.2.2 ≤ b.2.1) → (if (endOK b x && r.all (endOK b)) = true then LR.go () else LR.ret false : LR Unit Bool) = LR.ret false := by
      intro h
      simp only [hd, h, decide_false, Bool.false_and, Bool.false_eq_true, if_false]
    refine Ev.ite (fun h => Ev.of ?_) (fun a1 => Ev.ite (fun h => Ev.of ?_) (fun a2 => Ev.ite (fun h => Ev.of ?_) (fun a3 => Ev.ite (fun h => Ev.of ?_) (fun a4 => Ev.ite (fun h => Ev.of ?_) (fun a5 => Ev.ite (fun h => Ev.of ?_) (fun a6 => ?_))))))
    all_goals try (simp only [decide_eq_true_eq] at h; exact congrArg some (no (by omega)).symm)
    simp only [decide_eq_true_eq] at a1 a2 a3 a4 a5 a6
    have : 1 ≤ x.1 ∧ x.1 ≤ 3 ∧ 0 ≤ x.2.1 ∧ x.2.1 ≤ b.1 ∧ -1 ≤ x.2.2 ∧ x.2.2 ≤ b.2.1 := by omega
    refine ih.congr ?_
    simp only [hd, decide_eq_true this, Bool.true_and]
theorem e_impl_isSeen (b : BoardD) (t : List Int) (s : List FallD) (hb : b.2.2.length ≤ 9223372036854775806) (ht : t.length ≤ 9223372036854775806) (hs : s.length ≤ 9223372036854775806) : Ev (fun k => f_impl_isSeen k b t s) (seenOK b t s) := by
  refine Ev.succ ?_
  simp only [f_impl_isSeen]
  refine Ev.bind (e_impl_validEntries b t hb ht) ?_
  unfold seenOK
  have no : ∀ {p q r : Bool} {c : Bool}, (p && (q && (r && (c && (decide (s.length = t.length) && s.all (endOK b)))))) = true → p = true ∧ q = true ∧ r = true ∧ c = true ∧ s.length = t.length ∧ s.all (endOK b) = true := by
    intro p q r c h
    simp only [Bool.and_eq_true, decide_eq_true_eq] at h
    exact ⟨h.1, h.2.1, h.2.2.1, h.2.2.2.1, h.2.2.2.2.1, h.2.2.2.2.2⟩
  generalize hv : (boardOK b && (decide (b.2.2.length ≤ 24) && (decide (t.length ≤ 20) && ((t.all fun c => decide (0 ≤ c ∧ c < b.2.1)) && (decide (s.length = t.length) && s.all (endOK b)))))) = v
  have out : (∀ (h1 : boardOK b = true) (h2 : b.2.2.length ≤ 24) (h3 : t.length ≤ 20) (h4 : (t.all fun c => decide (0 ≤ c ∧ c < b.2.1)) = true) (h5 : s.length = t.length) (h6 : s.all (endOK b) = true), False) → v = false := by
    intro h
    cases hb : v with
    | false => rfl
    | true =>
      rw [hb] at hv
      obtain ⟨a1, a2, a3, a4, a5, a6⟩ := no hv
      exact (h a1 (of_decide_eq_true a2) (of_decide_eq_true a3) a4 a5 a6).elim
  refine Ev.ite (fun h => ?_) (fun h => ?_)
  · rw [out (fun h1 h2 h3 h4 h5 h6 => by
      have h3' : t.length ≤ 60 := by omega
      rw [h1, h4, decide_eq_true h3'] at h
      cases h)]
    exact Ev.some _
  simp only [Bool.not_eq_true, Bool.not_eq_false', Bool.and_eq_true, decide_eq_true_eq] at h
  obtain ⟨⟨a1, a2⟩, a3⟩ := h
  refine Ev.ite (fun h => ?_) (fun h => ?_)
  · simp only [decide_eq_true_eq] at h
    rw [out (fun h1 h2 h3 h4 h5 h6 => by omega)]
    exact Ev.some _
  refine Ev.ite (fun h' => ?_) (fun h' => ?_)
  · simp only [decide_eq_true_eq] at h'
    rw [out (fun h1 h2 h3 h4 h5 h6 => by omega)]
    exact Ev.some _
  refine Ev.ite (fun h'' => ?_) (fun h'' => ?_)
  · simp only [decide_eq_true_eq] at h''
    rw [out (fun h1 h2 h3 h4 h5 h6 => by omega)]
    exact Ev.some _
  simp only [decide_eq_true_eq] at h h' h''
  have b2 : b.2.2.length ≤ 24 := by omega
  have b3 : t.length ≤ 20 := by omega
  have b5 : s.length = t.length := by omega
  rw [a1, a3, decide_eq_true b2, decide_eq_true b3, decide_eq_true b5, Bool.true_and, Bool.true_and, Bool.true_and, Bool.true_and, Bool.true_and] at hv
  subst hv
  refine Ev.bind (e_impl_isSeen_0 b s [] (by simpa using hs)) ?_
  cases s.all (endOK b) with
  | true => simp only [if_true]; exact Ev.go (Ev.some _)
  | false => simp only [Bool.false_eq_true, if_false]; exact Ev.ret (Ev.some _)
/-! ### What is seen -/
def endsOf (b : BoardD) (l : List FaultD) (t : List Int) : List FallD := (runsOf b (groupsOf b) (kindsB b l) t b.2.2).1
theorem endsOf_len (b : BoardD) (l : List FaultD) (t : List Int) : (endsOf b l t).length = t.length := runsOf_len _ _ _ _ _
theorem e_spec_dgExplains (b : BoardD) (hb : boardOK b = true) (l : List FaultD) (hl : faultsOK b (-1) l = true) (hll : l.length ≤ 9223372036854775806) (t : List Int) (ht : t.length ≤ 1000) (hc : colsOK b t) (s : List FallD) (hs : s.length = t.length) : Ev (fun k => f_spec_dgExplains k b l t s) (decide (endsOf b l t = s)) := by
  refine Ev.succ ?_
  simp only [f_spec_dgExplains]
  have he := endsOf_len b l t
  refine Ev.bind (e_spec_faAll b hb l hl hll t ht hc) (Ev.bind (e_spec_faSame (endsOf b l t) s (by omega) (by omega)) (Ev.of ?_))
  congr 1
  exact decide_eq_decide.2 ((ix_neg _).trans (diffIx_none 0 _ _ (by omega)))
theorem e_impl_explainsEnds (b : BoardD) (hb : boardOK b = true) (l : List FaultD) (hl : faultsOK b (-1) l = true) (hll : l.length ≤ 9223372036854775806) (t : List Int) (ht : t.length ≤ 1000) (hc : colsOK b t) (s : List FallD) : Ev (fun k => f_impl_explainsEnds k b l t s) (decide (endsOf b l t = s)) := by
  refine Ev.succ ?_
  simp only [f_impl_explainsEnds]
  have he := endsOf_len b l t
  exact Ev.bind (e_impl_faultyDrops b hb l hl hll t ht hc) (Ev.bind (e_slices_Equal_impl_Fall_impl_Fall (endsOf b l t) s (by omega)) (Ev.some _))
end Go.Proofs.Ytgpmbmnfcbippaa.Vs
