/- The proof, part 4. -/
import Derived.Test.Ytcmndffpmjinlaaqwvm2
set_option linter.unusedVariables false
set_option linter.unusedSimpArgs false
namespace Go.Proofs.Ytcmndffpmjinlaa.Vs
open Go.RowKit
theorem e_laws_toIntS_0 : ∀ (r pre rest : List Int), rest.length = r.length → (pre ++ r).length ≤ 1048576 → Ev (fun k => f_laws_toIntS_0 k (pre ++ rest) (pre ++ r) (pre.length : Int)) (pre ++ r)
  | [], pre, rest, h, hl => by
    obtain rfl : rest = [] := List.eq_nil_of_length_eq_zero h
    refine Ev.succ ?_
    simp only [f_laws_toIntS_0, nlt_end, decide_false, Bool.false_eq_true, if_false]
    exact Ev.some _
  | x :: r, pre, [], h, hl => by simp at h
  | x :: r, pre, y :: rest, h, hl => by
    have ih := e_laws_toIntS_0 r (pre ++ [x]) rest (by simpa using h) (by simpa using hl)
    refine Ev.succ ?_
    simp only [f_laws_toIntS_0, lt_mid, ge_mid, decide_true, if_true, Int.toNat_natCast, getD_mid, set_mid]
    rw [next_mid pre x r (by omega)]
    rw [← shift_mid, ← shift_mid] at ih
    exact ih
theorem e_laws_toIntS (l : List Int) (hl : l.length ≤ 1048576) : Ev (fun k => f_laws_toIntS k l) l := by
  refine Ev.succ ?_
  have hm : l.length * 8 ≤ 281474976710656 := by omega
  simp only [f_laws_toIntS, Int.toNat_natCast, hm, if_true]
  exact Ev.bind (e_laws_toIntS_0 l [] (List.replicate l.length 0) (by simp) (by simpa using hl)) (Ev.some _)
theorem e_laws_eqIntS_0 : ∀ (r s pre : List Int) (pre' : List Int), s.length = r.length → pre'.length = pre.length → (pre ++ r).length ≤ 9223372036854775806 → Ev (fun k => f_laws_eqIntS_0 k (pre ++ r) (pre' ++ s) (pre.length : Int)) (if r = s then LR.go () else LR.ret false)
  | [], s, pre, pre', h, hp, hl => by
    obtain rfl : s = [] := List.eq_nil_of_length_eq_zero h
    refine Ev.succ ?_
    simp only [f_laws_eqIntS_0, nlt_end, decide_false, Bool.false_eq_true, if_false, if_true]
    exact Ev.some _
  | x :: r, [], pre, pre', h, hp, hl => by simp at h
  | x :: r, y :: s, pre, pre', h, hp, hl => by
    have ih := e_laws_eqIntS_0 r s (pre ++ [x]) (pre' ++ [y]) (by simpa using h) (by simpa using hp) (by simpa using hl)
    have l2 : (pre.length : Int) < ((pre' ++ y :: s).length : Int) := by rw [← hp]; exact lt_mid _ _ _
    have g2 : List.getD (pre' ++ y :: s) pre.length 0 = y := by rw [← hp]; exact getD_mid _ _ _ _
    refine Ev.succ ?_
    simp only [f_laws_eqIntS_0, lt_mid, ge_mid, l2, decide_true, if_true, Int.toNat_natCast, getD_mid, g2]
    rw [next_mid pre x r (by omega)]
    rw [← shift_mid, ← shift_mid] at ih
    by_cases hxy : x = y
    · subst hxy
      simp only [ne_eq, not_true_eq_false, decide_false, Bool.false_eq_true, if_false]
      refine ih.congr ?_
      by_cases hrs : r = s <;> simp [hrs]
    · simp only [ne_eq, hxy, not_false_eq_true, decide_true, if_true]
      refine Ev.of ?_
      rw [if_neg (by intro hc; injection hc with h1 h2; exact hxy h1)]
theorem e_laws_eqIntS (l m : List Int) (hl : l.length ≤ 9223372036854775806) : Ev (fun k => f_laws_eqIntS k l m) (decide (l = m)) := by
  refine Ev.succ ?_
  simp only [f_laws_eqIntS]
  by_cases h : l.length = m.length
  · simp only [h, ne_eq, not_true_eq_false, decide_false, Bool.false_eq_true, if_false]
    refine Ev.bind (e_laws_eqIntS_0 l m [] [] h.symm rfl (by simpa using hl)) ?_
    by_cases hlm : l = m
    · rw [if_pos hlm]; simp only [hlm, decide_true]; exact Ev.go (Ev.some _)
    · rw [if_neg hlm]; simp only [hlm, decide_false]; exact Ev.ret (Ev.some _)
  · have h2 : ¬ (l.length : Int) = (m.length : Int) := by omega
    have h3 : ¬ l = m := fun hc => h (by rw [hc])
    simp only [ne_eq, h2, not_false_eq_true, decide_true, if_true, h3, decide_false]
    exact Ev.some _
end Go.Proofs.Ytcmndffpmjinlaa.Vs

set_option linter.unusedVariables false
set_option linter.unusedSimpArgs false
namespace Go.Proofs.Ytcmndffpmjinlaa.Vs
open Go.RowKit
theorem ten {c : List Int} (h : c.length = 10) : [List.getD c 0 0, List.getD c 1 0, List.getD c 2 0, List.getD c 3 0, List.getD c 4 0, List.getD c 5 0, List.getD c 6 0, List.getD c 7 0, List.getD c 8 0, List.getD c 9 0] = c := by
  match c, h with
  | [_, _, _, _, _, _, _, _, _, _], _ => rfl
def digs (l : List Int) : Bool := l.all fun n => decide (0 ≤ n ∧ n ≤ 9)
theorem e_impl_areDigits_0 : ∀ (r pre : List Int), (pre ++ r).length ≤ 9223372036854775806 → Ev (fun k => f_impl_areDigits_0 k (pre ++ r) ((pre ++ r).length : Int) (pre.length : Int)) (if digs r then LR.go () else LR.ret false)
  | [], pre, hl => by
    refine Ev.succ ?_
    simp only [f_impl_areDigits_0, nlt_end, decide_false, Bool.false_eq_true, if_false, digs, List.all_nil, if_true]
    exact Ev.some _
  | x :: r, pre, hl => by
    have ih := e_impl_areDigits_0 r (pre ++ [x]) (by simpa using hl)
    refine Ev.succ ?_
    simp only [f_impl_areDigits_0, lt_mid, ge_mid, decide_true, if_true, Int.toNat_natCast, getD_mid]
    rw [next_mid pre x r (by omega)]
    rw [← shift_mid] at ih
    refine Ev.ite (fun h => ?_) (fun h => Ev.ite (fun h2 => ?_) (fun h2 => ?_))
    · simp only [decide_eq_true_eq] at h
      have hx : ¬ (0 ≤ x ∧ x ≤ 9) := by omega
      simp only [digs, List.all_cons, hx, decide_false, Bool.false_and, Bool.false_eq_true, if_false]; exact Ev.some _
    · simp only [decide_eq_true_eq] at h2
      have hx : ¬ (0 ≤ x ∧ x ≤ 9) := by omega
      simp only [digs, List.all_cons, hx, decide_false, Bool.false_and, Bool.false_eq_true, if_false]; exact Ev.some _
    · simp only [decide_eq_true_eq] at h h2
      have hx : 0 ≤ x ∧ x ≤ 9 := by omega
      simp only [digs, List.all_cons, hx, and_self, decide_true, Bool.true_and]; exact ih
theorem e_impl_areDigits (l : List Int) (hl : l.length ≤ 9223372036854775806) : Ev (fun k => f_impl_areDigits k l) (digs l) := by
  refine Ev.succ ?_
  simp only [f_impl_areDigits]
  refine Ev.bind (e_impl_areDigits_0 l [] (by simpa using hl)) ?_
  cases hx : digs l with
  | true => simp only [if_true]; exact Ev.go (Ev.some _)
  | false => simp only [Bool.false_eq_true, if_false]; exact Ev.ret (Ev.some _)
def votesOK (l : List Int) : Bool := decide (1 ≤ l.length ∧ l.length ≤ 9) && digs l
theorem votes_ok {l : List Int} (h : votesOK l = true) : l.length ≤ 9 ∧ ∀ x ∈ l, 0 ≤ x ∧ x ≤ 9 := by
  unfold votesOK digs at h
  simp only [Bool.and_eq_true, decide_eq_true_eq, List.all_eq_true] at h
  exact ⟨h.1.2, h.2⟩
theorem e_impl_areVotes (l : List Int) (hl : l.length ≤ 9223372036854775806) : Ev (fun k => f_impl_areVotes k l) (votesOK l) := by
  refine Ev.succ ?_
  simp only [f_impl_areVotes]
  refine Ev.ite (fun h => Ev.ite (fun h2 => ?_) (fun h2 => ?_)) (fun h => ?_)
  · simp only [decide_eq_true_eq] at h h2
    have h3 : 1 ≤ l.length ∧ l.length ≤ 9 := by omega
    refine (Ev.bind (e_impl_areDigits l hl) (Ev.some _)).congr ?_
    simp only [votesOK, h3, and_self, decide_true, Bool.true_and]
  · simp only [decide_eq_true_eq] at h h2
    have h3 : ¬ (1 ≤ l.length ∧ l.length ≤ 9) := by omega
    exact Ev.of (by simp only [votesOK, h3, decide_false, Bool.false_and])
  · simp only [decide_eq_true_eq] at h
    have h3 : ¬ (1 ≤ l.length ∧ l.length ≤ 9) := by omega
    exact Ev.of (by simp only [votesOK, h3, decide_false, Bool.false_and])
theorem e_spec_voVotes (l : List Int) (hl : l.length ≤ 9223372036854775806) : Ev (fun k => f_spec_voVotes k l) (votesOK l) := by
  refine Ev.succ ?_
  simp only [f_spec_voVotes]
  refine Ev.bind (e_spec_l1In _ _ _) (Ev.ite (fun h => ?_) (fun h => ?_))
  · simp only [decide_eq_true_eq] at h
    have h3 : 1 ≤ l.length ∧ l.length ≤ 9 := by omega
    refine (Ev.bind (e_spec_l1All l _ _ hl) (Ev.some _)).congr ?_
    simp only [votesOK, h3, and_self, decide_true, Bool.true_and, digs]
  · simp only [decide_eq_true_eq] at h
    have h3 : ¬ (1 ≤ l.length ∧ l.length ≤ 9) := by omega
    exact Ev.of (by simp only [votesOK, h3, decide_false, Bool.false_and])
/-! ### Counts -/
def zeros : List Int := List.replicate 10 0
theorem getD_set (c : List Int) (i j : Nat) (x : Int) (hi : i < c.length) : List.getD (List.set c i x) j 0 = if j = i then x else List.getD c j 0 := by
  simp only [List.getD, List.getElem?_set]
  by_cases h : j = i
  · subst h; simp [hi]
  · rw [if_neg h, if_neg (fun h2 => h h2.symm)]
def Small (c : List Int) (n : Int) : Prop := ∀ i, 0 ≤ List.getD c i 0 ∧ List.getD c i 0 ≤ n
theorem Small.set {c : List Int} {n : Int} (h : Small c n) {i : Nat} (hi : i < c.length) {x : Int} (hx : 0 ≤ x) : Small (List.set c i (List.getD c i 0 + x)) (n + x) := by
  intro j
  rw [getD_set c i j _ hi]
  have h1 := h i
  have h2 := h j
  split <;> omega
theorem getD_repl {α : Type} (n i : Nat) (x : α) : List.getD (List.replicate n x) i x = x := by
  simp only [List.getD, List.getElem?_replicate]
  split <;> rfl
theorem small_zeros : Small zeros 0 := by
  intro i
  have := getD_repl 10 i (0 : Int)
  unfold zeros
  omega
end Go.Proofs.Ytcmndffpmjinlaa.Vs

set_option linter.unusedVariables false
set_option linter.unusedSimpArgs false
namespace Go.Proofs.Ytcmndffpmjinlaa.Vs
open Go.RowKit
/-! ### Weights -/
def wsum : List Int → List Int → List Int → List Int
  | x :: vs, q :: ws, c => wsum vs ws (List.set c x.toNat (List.getD c x.toNat 0 + q))
  | _, _, c => c
theorem wsum_len : ∀ (vs ws c : List Int), (wsum vs ws c).length = c.length
  | [], _, _ => rfl
  | _ :: _, [], _ => rfl
  | x :: vs, q :: ws, c => by simp [wsum, wsum_len vs ws]
theorem Small.wide {c : List Int} {n m : Int} (h : Small c n) (hn : n ≤ m) : Small c m := fun i => by have := h i; omega
def wok (q : Int) : Bool := decide (0 ≤ q ∧ q ≤ 100)
theorem e_impl_WeightedVote_0 : ∀ (r pre vs vp c : List Int), vs.length = r.length → vp.length = pre.length → c.length = 10 → (∀ x ∈ vs, 0 ≤ x ∧ x ≤ 9) → Small c (100 * (pre.length : Int)) → (pre ++ r).length ≤ 1000 → Ev (fun k => f_impl_WeightedVote_0 k (List.getD c 0 0) (List.getD c 1 0) (List.getD c 2 0) (List.getD c 3 0) (List.getD c 4 0) (List.getD c 5 0) (List.getD c 6 0) (List.getD c 7 0) (List.getD c 8 0) (List.getD c 9 0) (vp ++ vs) (pre ++ r) ((pre ++ r).length : Int) (pre.length : Int)) (if r.all wok then LR.go (List.getD (wsum vs r c) 0 0, List.getD (wsum vs r c) 1 0, List.getD (wsum vs r c) 2 0, List.getD (wsum vs r c) 3 0, List.getD (wsum vs r c) 4 0, List.getD (wsum vs r c) 5 0, List.getD (wsum vs r c) 6 0, List.getD (wsum vs r c) 7 0, List.getD (wsum vs r c) 8 0, List.getD (wsum vs r c) 9 0, vp ++ vs) else LR.ret (0, false))
  | [], pre, vs, vp, c, h, hp, hc, hd, hs, hl => by
    obtain rfl : vs = [] := List.eq_nil_of_length_eq_zero h
    refine Ev.succ ?_
    simp only [f_impl_WeightedVote_0, nlt_end, decide_false, Bool.false_eq_true, if_false, List.all_nil, if_true, wsum]
    exact Ev.some _
  | q :: r, pre, [], vp, c, h, hp, hc, hd, hs, hl => by simp at h
  | q :: r, pre, x :: vs, vp, c, h, hp, hc, hd, hs, hl => by
    obtain ⟨x0, x9⟩ := hd x (List.mem_cons_self ..)
    have hx : x.toNat < c.length := by omega
    have h1 : x < ((10 : Nat) : Int) := by omega
    have hsx := hs x.toNat
    have hlen : pre.length + 1 ≤ 1000 := by simp at hl; omega
    have l2 : (pre.length : Int) < ((vp ++ x :: vs).length : Int) := by rw [← hp]; exact lt_mid _ _ _
    have g2 : List.getD (vp ++ x :: vs) pre.length 0 = x := by rw [← hp]; exact getD_mid _ _ _ _
    refine Ev.succ ?_
    simp only [f_impl_WeightedVote_0, lt_mid, ge_mid, l2, decide_true, if_true, Int.toNat_natCast, getD_mid, g2, x0, h1, ten hc, hx]
    rw [next_mid pre q r (by omega)]
    refine Ev.ite (fun hh => ?_) (fun hh => Ev.ite (fun hh2 => ?_) (fun hh2 => ?_))
    · have hh := of_decide_eq_true hh
      have hq : wok q = false := by unfold wok; apply decide_eq_false; omega
      simp only [List.all_cons, hq, Bool.false_and, Bool.false_eq_true, if_false]
      exact Ev.some _
    · have hh2 := of_decide_eq_true hh2
      have hq : wok q = false := by unfold wok; apply decide_eq_false; omega
      simp only [List.all_cons, hq, Bool.false_and, Bool.false_eq_true, if_false]
      exact Ev.some _
    · have hh : ¬ q < 0 := fun h9 => hh (decide_eq_true h9)
      have hh2 : ¬ q > 100 := fun h9 => hh2 (decide_eq_true h9)
      have hq : wok q = true := by unfold wok; apply decide_eq_true; omega
      have ih := e_impl_WeightedVote_0 r (pre ++ [q]) vs (vp ++ [x]) (List.set c x.toNat (List.getD c x.toNat 0 + q)) (by simpa using h) (by simpa using hp) (by simpa using hc) (fun y hy => hd y (List.mem_cons_of_mem _ hy)) ((hs.set hx (x := q) (by omega)).wide (by simp; omega)) (by simpa using hl)
      rw [w64 (n := List.getD c x.toNat 0 + q) (by omega) (by omega)]
      rw [← shift_mid, ← shift_mid] at ih
      refine (show Ev _ _ from ih).congr ?_
      simp only [List.all_cons, hq, Bool.true_and, wsum]
theorem e_spec_WeightedVote_0 (V : List Int) (v7 : Int) : ∀ (vs vp r pre c : List Int), vs.length = r.length → vp.length = pre.length → c.length = 10 → (∀ x ∈ vs, 0 ≤ x ∧ x ≤ 9) → (∀ q ∈ r, wok q = true) → Small c (100 * (vp.length : Int)) → (vp ++ vs).length ≤ 1000 → Ev (fun k => f_spec_WeightedVote_0 k c V (pre ++ r) v7 (vp ++ vs) ((vp ++ vs).length : Int) (vp.length : Int)) (wsum vs r c, V, v7)
  | [], vp, r, pre, c, h, hp, hc, hd, hr, hs, hl => by
    obtain rfl : r = [] := List.eq_nil_of_length_eq_zero h.symm
    refine Ev.succ ?_
    simp only [f_spec_WeightedVote_0, nlt_end, decide_false, Bool.false_eq_true, if_false, wsum]
    exact Ev.some _
  | x :: vs, vp, [], pre, c, h, hp, hc, hd, hr, hs, hl => by simp at h
  | x :: vs, vp, q :: r, pre, c, h, hp, hc, hd, hr, hs, hl => by
    obtain ⟨x0, x9⟩ := hd x (List.mem_cons_self ..)
    have hx : x.toNat < c.length := by omega
    have h1 : x < (c.length : Int) := by omega
    have hsx := hs x.toNat
    have hq : 0 ≤ q ∧ q ≤ 100 := by have := hr q (List.mem_cons_self ..); unfold wok at this; exact of_decide_eq_true this
    have hlen : vp.length + 1 ≤ 1000 := by simp at hl; omega
    have l2 : (vp.length : Int) < ((pre ++ q :: r).length : Int) := by rw [hp]; exact lt_mid _ _ _
    have g2 : List.getD (pre ++ q :: r) vp.length 0 = q := by rw [hp]; exact getD_mid _ _ _ _
    have ih := e_spec_WeightedVote_0 V v7 vs (vp ++ [x]) r (pre ++ [q]) (List.set c x.toNat (List.getD c x.toNat 0 + q)) (by simpa using h) (by simpa using hp) (by simpa using hc) (fun y hy => hd y (List.mem_cons_of_mem _ hy)) (fun y hy => hr y (List.mem_cons_of_mem _ hy)) ((hs.set hx (x := q) (by omega)).wide (by simp; omega)) (by simpa using hl)
    refine Ev.succ ?_
    simp only [f_spec_WeightedVote_0, lt_mid, ge_mid, l2, decide_true, if_true, Int.toNat_natCast, getD_mid, g2, x0, h1]
    rw [next_mid vp x vs (by omega), w64 (n := List.getD c x.toNat 0 + q) (by omega) (by omega)]
    rw [← shift_mid, ← shift_mid] at ih
    exact ih
def wbest (c V : List Int) : Nat → Nat → Int → Int
  | 0, _, b => b
  | d + 1, i, b => wbest c V d (i + 1) (if (i : Int) ∈ V then (if b < 0 then (i : Int) else if List.getD c i 0 > List.getD c b.toNat 0 then (i : Int) else b) else b)
theorem e_slices_Index_int_int_0 (n : Int) : ∀ (r pre : List Int), (pre ++ r).length ≤ 1000000 → ∃ z, Ev (fun k => f_slices_Index_int_int_0 k (pre ++ r) n ((pre ++ r).length : Int) (pre.length : Int)) z ∧ ((z = LR.go () ∧ n ∉ r) ∨ ∃ i : Nat, z = LR.ret (i : Int) ∧ n ∈ r)
  | [], pre, hl => by
    refine ⟨LR.go (), Ev.succ ?_, .inl ⟨rfl, by simp⟩⟩
    simp only [f_slices_Index_int_int_0, nlt_end, decide_false, Bool.false_eq_true, if_false]
    exact Ev.some _
  | x :: r, pre, hl => by
    by_cases hx : n = x
    · refine ⟨LR.ret (pre.length : Int), Ev.succ ?_, .inr ⟨pre.length, rfl, by rw [hx]; exact List.mem_cons_self ..⟩⟩
      simp only [f_slices_Index_int_int_0, lt_mid, ge_mid, decide_true, if_true, Int.toNat_natCast, getD_mid, hx]
      exact Ev.some _
    · obtain ⟨z, ih, hz⟩ := e_slices_Index_int_int_0 n r (pre ++ [x]) (by simpa using hl)
      refine ⟨z, Ev.succ ?_, ?_⟩
      · simp only [f_slices_Index_int_int_0, lt_mid, ge_mid, decide_true, if_true, Int.toNat_natCast, getD_mid, hx, decide_false, Bool.false_eq_true, if_false]
        rw [next_mid pre x r (by omega)]
        rw [← shift_mid] at ih
        exact ih
      · rcases hz with ⟨h1, h2⟩ | ⟨i, h1, h2⟩
        · exact .inl ⟨h1, fun h => by rcases List.mem_cons.1 h with h | h; exact hx h; exact h2 h⟩
        · exact .inr ⟨i, h1, List.mem_cons_of_mem _ h2⟩
theorem e_slices_Contains_int_int (l : List Int) (n : Int) (hl : l.length ≤ 1000000) : Ev (fun k => f_slices_Contains_int_int k l n) (decide (n ∈ l)) := by
  obtain ⟨z, hz, h⟩ := e_slices_Index_int_int_0 n l [] (by simpa using hl)
  have hi : Ev (fun k => f_slices_Index_int_int k l n) (match z with | LR.go _ => (-1 : Int) | LR.ret y => y) := by
    refine Ev.succ ?_
    simp only [f_slices_Index_int_int]
    refine Ev.bind hz ?_
    cases z with
    | go y => exact Ev.go (Ev.some _)
    | ret y => exact Ev.ret (Ev.some _)
  refine Ev.succ ?_
  simp only [f_slices_Contains_int_int]
  refine Ev.bind hi (Ev.of ?_)
  rcases h with ⟨rfl, h2⟩ | ⟨i, rfl, h2⟩
  · simp [h2]
  · simp [h2]
theorem e_spec_l1Has_v (n : Int) : ∀ (r pre : List Int), (pre ++ r).length ≤ 1000000 → Ev (fun k => f_spec_l1Has_0 k n (pre ++ r) ((pre ++ r).length : Int) (pre.length : Int)) (if n ∈ r then LR.ret true else LR.go ())
  | [], pre, hl => by
    refine Ev.succ ?_
    simp only [f_spec_l1Has_0, nlt_end, decide_false, Bool.false_eq_true, if_false, List.not_mem_nil]
    exact Ev.some _
  | x :: r, pre, hl => by
    have ih := e_spec_l1Has_v n r (pre ++ [x]) (by simpa using hl)
    refine Ev.succ ?_
    simp only [f_spec_l1Has_0, lt_mid, ge_mid, decide_true, if_true, Int.toNat_natCast, getD_mid]
    rw [next_mid pre x r (by omega)]
    rw [← shift_mid] at ih
    refine Ev.ite (fun h => ?_) (fun h => ?_)
    · simp only [decide_eq_true_eq] at h
      rw [if_pos (by rw [h]; exact List.mem_cons_self ..)]
      exact Ev.some _
    · simp only [decide_eq_true_eq] at h
      refine ih.congr ?_
      have : (n ∈ x :: r) ↔ n ∈ r := by rw [List.mem_cons]; exact ⟨fun h2 => h2.elim (fun h3 => (h h3.symm).elim) id, .inr⟩
      simp only [this]
theorem e_spec_l1Has_w (l : List Int) (n : Int) (hl : l.length ≤ 1000000) : Ev (fun k => f_spec_l1Has k l n) (decide (n ∈ l)) := by
  refine Ev.succ ?_
  simp only [f_spec_l1Has]
  refine Ev.bind (e_spec_l1Has_v n l [] (by simpa using hl)) ?_
  by_cases h : n ∈ l
  · rw [if_pos h, decide_eq_true h]; exact Ev.ret (Ev.some _)
  · rw [if_neg h, decide_eq_false h]; exact Ev.go (Ev.some _)
theorem e_impl_WeightedVote_2 {c : List Int} (hc : c.length = 10) (V : List Int) (hV : V.length ≤ 1000) : ∀ (d i : Nat) (b : Int), i + d = 10 → b < 10 → Ev (fun k => f_impl_WeightedVote_2 k (List.getD c 0 0) (List.getD c 1 0) (List.getD c 2 0) (List.getD c 3 0) (List.getD c 4 0) (List.getD c 5 0) (List.getD c 6 0) (List.getD c 7 0) (List.getD c 8 0) (List.getD c 9 0) V b (i : Int)) (wbest c V d i b)
  | 0, i, b, h, h1 => by
    have : ¬ (i : Int) < 10 := by omega
    refine Ev.succ ?_
    simp only [f_impl_WeightedVote_2, this, decide_false, Bool.false_eq_true, if_false, wbest]
    exact Ev.some _
  | d + 1, i, b, h, h1 => by
    have g1 : (i : Int) < 10 := by omega
    have g2 : (i : Int) < ((10 : Nat) : Int) := by omega
    have g3 : b < ((10 : Nat) : Int) := by omega
    have g6 : i < c.length := by omega
    have g4 : wrap64 ((i : Int) + 1) = ((i + 1 : Nat) : Int) := by rw [w64 (by omega) (by omega)]; omega
    refine Ev.succ ?_
    simp only [f_impl_WeightedVote_2, ten hc, g1, g2, g3, g4, g6, decide_true, if_true, Int.natCast_nonneg, Int.toNat_natCast, wbest]
    refine Ev.bind (e_slices_Contains_int_int V (i : Int) (by omega)) (Ev.ite (fun hh => Ev.ite (fun hb => ?_) (fun hb => ?_)) (fun hh => ?_))
    · rw [if_pos (of_decide_eq_true hh), if_pos (of_decide_eq_true hb)]
      exact e_impl_WeightedVote_2 hc V hV d (i + 1) i (by omega) (by omega)
    · have hb : ¬ b < 0 := fun h9 => hb (decide_eq_true h9)
      have b0 : 0 ≤ b := by omega
      have g5 : b.toNat < c.length := by omega
      rw [if_pos (of_decide_eq_true hh), if_neg hb]
      simp only [b0, g5, if_true]
      refine Ev.ite (fun hg => ?_) (fun hg => ?_)
      · rw [if_pos (of_decide_eq_true hg)]
        exact e_impl_WeightedVote_2 hc V hV d (i + 1) i (by omega) (by omega)
      · rw [if_neg (fun h9 => hg (decide_eq_true h9))]
        exact e_impl_WeightedVote_2 hc V hV d (i + 1) b (by omega) h1
    · rw [if_neg (fun h9 => hh (decide_eq_true h9))]
      exact e_impl_WeightedVote_2 hc V hV d (i + 1) b (by omega) h1
theorem e_spec_WeightedVote_2 {c : List Int} (hc : c.length = 10) (V : List Int) (hV : V.length ≤ 1000) : ∀ (d i : Nat) (b : Int), i + d = 10 → b < 10 → Ev (fun k => f_spec_WeightedVote_2 k c V b 10 (i : Int)) (wbest c V d i b)
  | 0, i, b, h, h1 => by
    have : ¬ (i : Int) < 10 := by omega
    refine Ev.succ ?_
    simp only [f_spec_WeightedVote_2, this, decide_false, Bool.false_eq_true, if_false, wbest]
    exact Ev.some _
  | d + 1, i, b, h, h1 => by
    have g1 : (i : Int) < 10 := by omega
    have g2 : (i : Int) < (c.length : Int) := by omega
    have g3 : b < (c.length : Int) := by omega
    have g4 : wrap64 ((i : Int) + 1) = ((i + 1 : Nat) : Int) := by rw [w64 (by omega) (by omega)]; omega
    refine Ev.succ ?_
    simp only [f_spec_WeightedVote_2, g1, g2, g3, g4, decide_true, if_true, Int.natCast_nonneg, Int.toNat_natCast, wbest]
    refine Ev.bind (e_spec_l1Has_w V (i : Int) (by omega)) (Ev.ite (fun hh => Ev.ite (fun hb => ?_) (fun hb => ?_)) (fun hh => ?_))
    · rw [if_pos (of_decide_eq_true hh), if_pos (of_decide_eq_true hb)]
      exact e_spec_WeightedVote_2 hc V hV d (i + 1) i (by omega) (by omega)
    · have hb : ¬ b < 0 := fun h9 => hb (decide_eq_true h9)
      have b0 : 0 ≤ b := by omega
      rw [if_pos (of_decide_eq_true hh), if_neg hb]
      simp only [b0, if_true]
      refine Ev.ite (fun hg => ?_) (fun hg => ?_)
      · rw [if_pos (of_decide_eq_true hg)]
        exact e_spec_WeightedVote_2 hc V hV d (i + 1) i (by omega) (by omega)
      · rw [if_neg (fun h9 => hg (decide_eq_true h9))]
        exact e_spec_WeightedVote_2 hc V hV d (i + 1) b (by omega) h1
    · rw [if_neg (fun h9 => hh (decide_eq_true h9))]
      exact e_spec_WeightedVote_2 hc V hV d (i + 1) b (by omega) h1
def r_WeightedVote (l ws : List Int) : Int × Bool := if votesOK l then (if ws.length = l.length then (if ws.all wok then (wbest (wsum l ws zeros) l 10 0 (-1), true) else (0, false)) else (0, false)) else (0, false)
theorem e_spec_WeightedVote (l ws : List Int) (h0 : l.length ≤ 9223372036854775806) (h1 : ws.length ≤ 9223372036854775806) : Ev (fun k => f_spec_WeightedVote k l ws) (r_WeightedVote l ws) := by
  refine Ev.succ ?_
  simp only [f_spec_WeightedVote]
  unfold r_WeightedVote
  refine Ev.bind (a := votesOK l) (e_spec_voVotes l h0) ?_
  cases g0 : votesOK l with
  | false => simp only [Bool.not_false, if_true, Bool.false_eq_true, if_false]; exact Ev.some _
  | true =>
    obtain ⟨h9, hd⟩ := votes_ok g0
    simp only [Bool.not_true, Bool.false_eq_true, if_false, if_true]
    refine Ev.ite (fun hh => ?_) (fun hh => ?_)
    · have hh : (ws.length : Int) ≠ (l.length : Int) := of_decide_eq_true hh
      rw [if_neg (by omega)]; exact Ev.some _
    · have hh : ws.length = l.length := by
        by_cases h8 : (ws.length : Int) ≠ (l.length : Int)
        · exact (hh (decide_eq_true h8)).elim
        · omega
      rw [if_pos hh]
      refine Ev.bind (a := ws.all wok) (e_spec_l1All ws 0 100 h1) ?_
      cases g1 : ws.all wok with
      | false => simp only [Bool.not_false, if_true, Bool.false_eq_true, if_false]; exact Ev.some _
      | true =>
        simp only [Bool.not_true, Bool.false_eq_true, if_false, if_true]
        have h8 := e_spec_WeightedVote_0 l (-1) l [] ws [] zeros hh.symm rfl rfl hd (List.all_eq_true.1 g1) (small_zeros.wide (by simp)) (by simp; omega)
        refine Ev.bind h8 ?_
        have hwl : (wsum l ws zeros).length = 10 := by rw [wsum_len]; rfl
        have h7 := e_spec_WeightedVote_2 hwl l (by omega) 10 0 (-1) rfl (by omega)
        show Ev (fun k => Option.bind (f_spec_WeightedVote_2 k (wsum l ws zeros) l (-1) ((wsum l ws zeros).length : Int) 0) _) _
        rw [hwl]
        exact Ev.bind h7 (Ev.some _)
theorem e_impl_WeightedVote (l ws : List Int) (h0 : l.length ≤ 9223372036854775806) (h1 : ws.length ≤ 9223372036854775806) : Ev (fun k => f_impl_WeightedVote k l ws) (r_WeightedVote l ws) := by
  refine Ev.succ ?_
  simp only [f_impl_WeightedVote]
  unfold r_WeightedVote
  refine Ev.bind (a := votesOK l) (e_impl_areVotes l h0) ?_
  cases g0 : votesOK l with
  | false => simp only [Bool.not_false, if_true, Bool.false_eq_true, if_false]; exact Ev.some _
  | true =>
    obtain ⟨h9, hd⟩ := votes_ok g0
    simp only [Bool.not_true, Bool.false_eq_true, if_false, if_true]
    refine Ev.ite (fun hh => ?_) (fun hh => ?_)
    · have hh : (ws.length : Int) ≠ (l.length : Int) := of_decide_eq_true hh
      rw [if_neg (by omega)]; exact Ev.some _
    · have hh : ws.length = l.length := by
        by_cases h8 : (ws.length : Int) ≠ (l.length : Int)
        · exact (hh (decide_eq_true h8)).elim
        · omega
      rw [if_pos hh]
      have h8 := e_impl_WeightedVote_0 ws [] l [] zeros hh.symm rfl rfl hd (small_zeros.wide (by simp)) (by simp; omega)
      refine Ev.bind h8 ?_
      cases g1 : ws.all wok with
      | false => simp only [Bool.false_eq_true, if_false]; exact Ev.ret (Ev.some _)
      | true =>
        simp only [if_true]
        have hwl : (wsum l ws zeros).length = 10 := by rw [wsum_len]; rfl
        have h7 := e_impl_WeightedVote_2 hwl l (by omega) 10 0 (-1) rfl (by omega)
        exact Ev.go (Ev.bind h7 (Ev.some _))
end Go.Proofs.Ytcmndffpmjinlaa.Vs

set_option maxRecDepth 100000
set_option maxHeartbeats 2000000
namespace Go.Proofs.Ytcmndffpmjinlaa.Vs
open Go.RowKit
noncomputable section
noncomputable def r_laws_FnExactWeightedVote : List PK := [{ t := Ty.bool }]
noncomputable def q_laws_FnExactWeightedVote : List PK := [{ t := Ty.slice (3 : Nat) (Ty.int IntKind.i64) }, { t := Ty.slice (3 : Nat) (Ty.int IntKind.i64) }]
noncomputable def to_laws_FnExactWeightedVote (r : Bool) : Tup r_laws_FnExactWeightedVote × OutD := ((r, ()), none)
noncomputable def of_laws_FnExactWeightedVote : Tup r_laws_FnExactWeightedVote × OutD → Option (Bool)
  | (a, none) => some (a.1)
  | _ => none
theorem to_of_laws_FnExactWeightedVote : ∀ b r, of_laws_FnExactWeightedVote b = some r → to_laws_FnExactWeightedVote r = b := by
  rintro ⟨a, o⟩ r h
  cases o with
  | none => injection h with h; subst h; rfl
  | some _ => cases h
noncomputable def F_wv (L : Int) (f18 : Nat → List Int → Option (List Int)) (f29 f30 : Nat → List Int → List Int → Option (Int × Bool)) (f20 : Nat → List Int → List Int → Option Bool) : Nat → List Int → List Int → Option Bool
  | 0, _, _ => none
  | k + 1, p0, p1 =>
    if decide ((↑(List.length p0) : Int) > L) = true then some true else if decide ((↑(List.length p1) : Int) > L) = true then some true else Option.bind (f18 k p0) fun z0 => Option.bind (f18 k p1) fun z1 => Option.bind (f29 k z0 z1) fun z2 => Option.bind (f18 k p0) fun z3 => Option.bind (f18 k p1) fun z4 => Option.bind (f30 k z3 z4) fun z5 => if decide (Prod.fst z5 ≠ Prod.fst z2) = true then some false else if (!Prod.snd z5 == Prod.snd z2) = true then some false else Option.bind (f18 k p0) fun z6 => Option.bind (f20 k z3 z6) fun z7 => if (!z7) = true then some false else Option.bind (f18 k p1) fun z8 => Option.bind (f20 k z4 z8) fun z9 => if (!z9) = true then some false else some true
noncomputable def D_wv (f : Nat → List Int → List Int → Option Bool) : FnDef := .of q_laws_FnExactWeightedVote r_laws_FnExactWeightedVote (Bool) (fun k x => f k x.1 x.2.1) to_laws_FnExactWeightedVote of_laws_FnExactWeightedVote to_of_laws_FnExactWeightedVote
noncomputable def c_laws_FnExactWeightedVote : Code := Try.f9.body.getD .skip
noncomputable def X_wv (f18 : Nat → List Int → Option (List Int)) (f29 f30 : Nat → List Int → List Int → Option (Int × Bool)) (f20 : Nat → List Int → List Int → Option Bool) : Ctx (Tup r_laws_FnExactWeightedVote × OutD) := { T := T, G := [(18, (FnDef.of q_laws_toIntS r_laws_toIntS (List Int) (fun k x => f18 k x.1) to_laws_toIntS of_laws_toIntS to_of_laws_toIntS).E), (29, (FnDef.of q_spec_WeightedVote r_spec_WeightedVote (Int × Bool) (fun k x => f29 k x.1 x.2.1) to_spec_WeightedVote of_spec_WeightedVote to_of_spec_WeightedVote).E), (30, (FnDef.of q_impl_WeightedVote r_impl_WeightedVote (Int × Bool) (fun k x => f30 k x.1 x.2.1) to_impl_WeightedVote of_impl_WeightedVote to_of_impl_WeightedVote).E), (20, (FnDef.of q_laws_eqIntS r_laws_eqIntS (Bool) (fun k x => f20 k x.1 x.2.1) to_laws_eqIntS of_laws_eqIntS to_of_laws_eqIntS).E)], mvs := [], no := 0, n := 53, res := resOf T q_laws_FnExactWeightedVote r_laws_FnExactWeightedVote Try.f9.results.toList, loops := [], regs := [], conds := [] }
noncomputable def absA (L : Int) : Operand → Operand
  | .const (.int .i64 n) => if n = 1048576 then .const (.int .i64 L) else .const (.int .i64 n)
  | o => o
noncomputable def absO (L : Int) : Op → Op
  | .binOp o t a b u => .binOp o t (absA L a) (absA L b) u
  | o => o
noncomputable def absI (L : Int) (i : Oper) : Oper := { i with op := absO L i.op }
noncomputable def absC (L : Int) : Code → Code
  | .seq a b => .seq (absC L a) (absC L b)
  | .cond c a b => .cond c (absC L a) (absC L b)
  | .region i ops d => .region i ⟨ops.toList.map (absI L)⟩ d
  | c => c
theorem abs_wv : absC 1048576 c_laws_FnExactWeightedVote = c_laws_FnExactWeightedVote := by kernel_rfl
theorem H_wv (L : Int) (f18 : Nat → List Int → Option (List Int)) (f29 f30 : Nat → List Int → List Int → Option (Int × Bool)) (f20 : Nat → List Int → List Int → Option Bool) (k : Nat) (x : Tup (D_wv (F_wv L f18 f29 f30 f20)).ps) : (D_wv (F_wv L f18 f29 f30 f20)).f (k + 1) x = fnK (D_wv (F_wv L f18 f29 f30 f20)) (X_wv f18 f29 f30 f20) (absC L c_laws_FnExactWeightedVote) k x := by kernel_rfl
noncomputable def f_laws_FnExactWeightedVote : Nat → List Int → List Int → Option Bool := F_wv 1048576 f_laws_toIntS f_spec_WeightedVote f_impl_WeightedVote f_laws_eqIntS
noncomputable def d_laws_FnExactWeightedVote : FnDef := D_wv f_laws_FnExactWeightedVote
noncomputable def x_laws_FnExactWeightedVote : Ctx (Tup r_laws_FnExactWeightedVote × OutD) := X_wv f_laws_toIntS f_spec_WeightedVote f_impl_WeightedVote f_laws_eqIntS
theorem g_laws_FnExactWeightedVote (k : Nat) : EnvOK Try.prog k x_laws_FnExactWeightedVote.G := (EnvOK.cons (s_laws_toIntS k) (EnvOK.cons (s_spec_WeightedVote k) (EnvOK.cons (s_impl_WeightedVote k) (EnvOK.cons (s_laws_eqIntS k) (EnvOK.nil mixed)))))
theorem h_laws_FnExactWeightedVote (k : Nat) (x : Tup d_laws_FnExactWeightedVote.ps) : d_laws_FnExactWeightedVote.f (k + 1) x = fnK d_laws_FnExactWeightedVote x_laws_FnExactWeightedVote c_laws_FnExactWeightedVote k x :=
  (H_wv 1048576 f_laws_toIntS f_spec_WeightedVote f_impl_WeightedVote f_laws_eqIntS k x).trans (congrArg (fun c => fnK d_laws_FnExactWeightedVote x_laws_FnExactWeightedVote c k x) abs_wv)
theorem z_laws_FnExactWeightedVote (x : Tup d_laws_FnExactWeightedVote.ps) : d_laws_FnExactWeightedVote.f 0 x = none := by kernel_rfl
theorem l_laws_FnExactWeightedVote (k : Nat) : LOK Try.prog x_laws_FnExactWeightedVote k c_laws_FnExactWeightedVote := LOK.by [] (by kernel_rfl) AllOK.nil
theorem s_laws_FnExactWeightedVote (k : Nat) : SoundAt Try.prog k 9 d_laws_FnExactWeightedVote.E := @fn_all Try.prog d_laws_FnExactWeightedVote x_laws_FnExactWeightedVote 9 Try.f9 c_laws_FnExactWeightedVote (by kernel_rfl) (by kernel_rfl) (by kernel_rfl) Try.func9 (by kernel_rfl) (by kernel_rfl) (by kernel_rfl) T_ok g_laws_FnExactWeightedVote l_laws_FnExactWeightedVote z_laws_FnExactWeightedVote h_laws_FnExactWeightedVote k
end
end Go.Proofs.Ytcmndffpmjinlaa.Vs

set_option linter.unusedVariables false
set_option linter.unusedSimpArgs false
namespace Go.Proofs.Ytcmndffpmjinlaa.Vs
open Go.RowKit
theorem law_FnExactWeightedVote (p0 p1 : List Int) (h0 : p0.length ≤ 9223372036854775807) (h1 : p1.length ≤ 9223372036854775807) : Ev (fun k => f_laws_FnExactWeightedVote k p0 p1) true := by
  refine Ev.succ ?_
  simp only [f_laws_FnExactWeightedVote, F_wv, decide_eq_true_eq, gt_iff_lt]
  by_cases q0 : (1048576 : Int) < (p0.length : Int)
  · simp only [q0, if_true]; exact Ev.some _
  simp only [q0, if_false]
  by_cases q1 : (1048576 : Int) < (p1.length : Int)
  · simp only [q1, if_true]; exact Ev.some _
  simp only [q1, if_false]
  have es := e_spec_WeightedVote p0 p1 (by omega) (by omega)
  have ei := e_impl_WeightedVote p0 p1 (by omega) (by omega)
  generalize r_WeightedVote p0 p1 = R at es ei
  refine Ev.bind (e_laws_toIntS _ (by omega)) ?_
  refine Ev.bind (e_laws_toIntS _ (by omega)) ?_
  refine Ev.bind es ?_
  refine Ev.bind (e_laws_toIntS _ (by omega)) ?_
  refine Ev.bind (e_laws_toIntS _ (by omega)) ?_
  refine Ev.bind ei ?_
  simp only [decide_true, beq_self_eq_true, ne_eq, not_true_eq_false, decide_false, Bool.not_true, Bool.false_eq_true, if_false]
  refine Ev.bind (e_laws_toIntS _ (by omega)) ?_
  refine Ev.bind (e_laws_eqIntS _ _ (by omega)) ?_
  simp only [decide_true, beq_self_eq_true, ne_eq, not_true_eq_false, decide_false, Bool.not_true, Bool.false_eq_true, if_false]
  refine Ev.bind (e_laws_toIntS _ (by omega)) ?_
  refine Ev.bind (e_laws_eqIntS _ _ (by omega)) ?_
  simp only [decide_true, beq_self_eq_true, ne_eq, not_true_eq_false, decide_false, Bool.not_true, Bool.false_eq_true, if_false]
  exact Ev.some _
end Go.Proofs.Ytcmndffpmjinlaa.Vs
