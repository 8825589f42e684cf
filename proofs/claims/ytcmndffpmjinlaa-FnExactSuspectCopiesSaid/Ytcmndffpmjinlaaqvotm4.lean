/- The proof, part 5. -/
import Derived.Test.Ytcmndffpmjinlaaqvotm3
set_option linter.unusedVariables false
set_option linter.unusedSimpArgs false
namespace Go.Proofs.Ytcmndffpmjinlaa.Vs
open Go.RowKit
theorem ten {c : List Int} (h : c.length = 10) : [List.getD c 0 0, List.getD c 1 0, List.getD c 2 0, List.getD c 3 0, List.getD c 4 0, List.getD c 5 0, List.getD c 6 0, List.getD c 7 0, List.getD c 8 0, List.getD c 9 0] = c := by
  match c, h with
  | [_, _, _, _, _, _, _, _, _, _], _ => rfl
def digs (l : List Int) : Bool := l.all fun n => decide (0 ≤ n ∧ n ≤ 9)
theorem e_impl_areDigits_0 : ∀ (r pre : List Int), (pre ++ r).length ≤ 9223372036854775806 → Ev (fun k => f_impl_areDigits_0 k (pre ++ r) ((pre ++ r).length : Int) (pre.length : Int)) (if digs r then LR.go () else LR.ret false)
  | [], pre, hl => by
    refine Ev.succ ?_
    simp only [f_impl_areDigits_0, nlt_end, decide_false, Bool.false_eq_true, if_false, digs, List.all_nil, if_true]
    exact Ev.some _
  | x :: r, pre, hl => by
    have ih := e_impl_areDigits_0 r (pre ++ [x]) (by simpa using hl)
    refine Ev.succ ?_
    simp only [f_impl_areDigits_0, lt_mid, ge_mid, decide_true, if_true, Int.toNat_natCast, getD_mid]
    rw [next_mid pre x r (by omega)]
    rw [← shift_mid] at ih
    refine Ev.ite (fun h => ?_) (fun h => Ev.ite (fun h2 => ?_) (fun h2 => ?_))
    · simp only [decide_eq_true_eq] at h
      have hx : ¬ (0 ≤ x ∧ x ≤ 9) := by omega
      simp only [digs, List.all_cons, hx, decide_false, Bool.false_and, Bool.false_eq_true, if_false]; exact Ev.some _
    · simp only [decide_eq_true_eq] at h2
      have hx : ¬ (0 ≤ x ∧ x ≤ 9) := by omega
      simp only [digs, List.all_cons, hx, decide_false, Bool.false_and, Bool.false_eq_true, if_false]; exact Ev.some _
    · simp only [decide_eq_true_eq] at h h2
      have hx : 0 ≤ x ∧ x ≤ 9 := by omega
      simp only [digs, List.all_cons, hx, and_self, decide_true, Bool.true_and]; exact ih
theorem e_impl_areDigits (l : List Int) (hl : l.length ≤ 9223372036854775806) : Ev (fun k => f_impl_areDigits k l) (digs l) := by
  refine Ev.succ ?_
  simp only [f_impl_areDigits]
  refine Ev.bind (e_impl_areDigits_0 l [] (by simpa using hl)) ?_
  cases hx : digs l with
  | true => simp only [if_true]; exact Ev.go (Ev.some _)
  | false => simp only [Bool.false_eq_true, if_false]; exact Ev.ret (Ev.some _)
def votesOK (l : List Int) : Bool := decide (1 ≤ l.length ∧ l.length ≤ 9) && digs l
theorem votes_ok {l : List Int} (h : votesOK l = true) : l.length ≤ 9 ∧ ∀ x ∈ l, 0 ≤ x ∧ x ≤ 9 := by
  unfold votesOK digs at h
  simp only [Bool.and_eq_true, decide_eq_true_eq, List.all_eq_true] at h
  exact ⟨h.1.2, h.2⟩
theorem e_impl_areVotes (l : List Int) (hl : l.length ≤ 9223372036854775806) : Ev (fun k => f_impl_areVotes k l) (votesOK l) := by
  refine Ev.succ ?_
  simp only [f_impl_areVotes]
  refine Ev.ite (fun h => Ev.ite (fun h2 => ?_) (fun h2 => ?_)) (fun h => ?_)
  · simp only [decide_eq_true_eq] at h h2
    have h3 : 1 ≤ l.length ∧ l.length ≤ 9 := by omega
    refine (Ev.bind (e_impl_areDigits l hl) (Ev.some _)).congr ?_
    simp only [votesOK, h3, and_self, decide_true, Bool.true_and]
  · simp only [decide_eq_true_eq] at h h2
    have h3 : ¬ (1 ≤ l.length ∧ l.length ≤ 9) := by omega
    exact Ev.of (by simp only [votesOK, h3, decide_false, Bool.false_and])
  · simp only [decide_eq_true_eq] at h
    have h3 : ¬ (1 ≤ l.length ∧ l.length ≤ 9) := by omega
    exact Ev.of (by simp only [votesOK, h3, decide_false, Bool.false_and])
theorem e_spec_voVotes (l : List Int) (hl : l.length ≤ 9223372036854775806) : Ev (fun k => f_spec_voVotes k l) (votesOK l) := by
  refine Ev.succ ?_
  simp only [f_spec_voVotes]
  refine Ev.bind (e_spec_l1In _ _ _) (Ev.ite (fun h => ?_) (fun h => ?_))
  · simp only [decide_eq_true_eq] at h
    have h3 : 1 ≤ l.length ∧ l.length ≤ 9 := by omega
    refine (Ev.bind (e_spec_l1All l _ _ hl) (Ev.some _)).congr ?_
    simp only [votesOK, h3, and_self, decide_true, Bool.true_and, digs]
  · simp only [decide_eq_true_eq] at h
    have h3 : ¬ (1 ≤ l.length ∧ l.length ≤ 9) := by omega
    exact Ev.of (by simp only [votesOK, h3, decide_false, Bool.false_and])
/-! ### Counts -/
def cnt : List Int → List Int → List Int
  | [], c => c
  | x :: r, c => cnt r (List.set c x.toNat (List.getD c x.toNat 0 + 1))
def zeros : List Int := List.replicate 10 0
theorem cnt_len : ∀ (r c : List Int), (cnt r c).length = c.length
  | [], _ => rfl
  | x :: r, c => by simp [cnt, cnt_len r]
theorem getD_set (c : List Int) (i j : Nat) (x : Int) (hi : i < c.length) : List.getD (List.set c i x) j 0 = if j = i then x else List.getD c j 0 := by
  simp only [List.getD, List.getElem?_set]
  by_cases h : j = i
  · subst h; simp [hi]
  · rw [if_neg h, if_neg (fun h2 => h h2.symm)]
def Small (c : List Int) (n : Int) : Prop := ∀ i, 0 ≤ List.getD c i 0 ∧ List.getD c i 0 ≤ n
theorem Small.set {c : List Int} {n : Int} (h : Small c n) {i : Nat} (hi : i < c.length) {x : Int} (hx : 0 ≤ x) : Small (List.set c i (List.getD c i 0 + x)) (n + x) := by
  intro j
  rw [getD_set c i j _ hi]
  have h1 := h i
  have h2 := h j
  split <;> omega
theorem getD_repl {α : Type} (n i : Nat) (x : α) : List.getD (List.replicate n x) i x = x := by
  simp only [List.getD, List.getElem?_replicate]
  split <;> rfl
theorem small_zeros : Small zeros 0 := by
  intro i
  have := getD_repl 10 i (0 : Int)
  unfold zeros
  omega
theorem e_spec_voMost_0 : ∀ (r pre c : List Int), c.length = 10 → (∀ x ∈ r, 0 ≤ x ∧ x ≤ 9) → Small c (pre.length : Int) → (pre ++ r).length ≤ 1000 → Ev (fun k => f_spec_voMost_0 k c (pre ++ r) ((pre ++ r).length : Int) (pre.length : Int)) (cnt r c)
  | [], pre, c, hc, hr, hs, hl => by
    refine Ev.succ ?_
    simp only [f_spec_voMost_0, nlt_end, decide_false, Bool.false_eq_true, if_false, cnt]
    exact Ev.some _
  | x :: r, pre, c, hc, hr, hs, hl => by
    obtain ⟨x0, x9⟩ := hr x (List.mem_cons_self ..)
    have hx : x.toNat < c.length := by omega
    have h1 : x < (c.length : Int) := by omega
    have hsx := hs x.toNat
    have hlen : pre.length + 1 ≤ 1000 := by simp at hl; omega
    have ih := e_spec_voMost_0 r (pre ++ [x]) (List.set c x.toNat (List.getD c x.toNat 0 + 1)) (by simpa using hc) (fun y hy => hr y (List.mem_cons_of_mem _ hy)) (by have := hs.set hx (x := 1) (by omega); simpa using this) (by simpa using hl)
    refine Ev.succ ?_
    simp only [f_spec_voMost_0, lt_mid, ge_mid, decide_true, if_true, Int.toNat_natCast, getD_mid, x0, h1]
    rw [next_mid pre x r (by omega), w64 (n := List.getD c x.toNat 0 + 1) (by omega) (by omega)]
    rw [← shift_mid] at ih
    exact ih
theorem e_impl_mostVoted_0 : ∀ (r pre c : List Int), c.length = 10 → (∀ x ∈ r, 0 ≤ x ∧ x ≤ 9) → Small c (pre.length : Int) → (pre ++ r).length ≤ 1000 → Ev (fun k => f_impl_mostVoted_0 k (List.getD c 0 0) (List.getD c 1 0) (List.getD c 2 0) (List.getD c 3 0) (List.getD c 4 0) (List.getD c 5 0) (List.getD c 6 0) (List.getD c 7 0) (List.getD c 8 0) (List.getD c 9 0) (pre ++ r) ((pre ++ r).length : Int) (pre.length : Int)) (List.getD (cnt r c) 0 0, List.getD (cnt r c) 1 0, List.getD (cnt r c) 2 0, List.getD (cnt r c) 3 0, List.getD (cnt r c) 4 0, List.getD (cnt r c) 5 0, List.getD (cnt r c) 6 0, List.getD (cnt r c) 7 0, List.getD (cnt r c) 8 0, List.getD (cnt r c) 9 0)
  | [], pre, c, hc, hr, hs, hl => by
    refine Ev.succ ?_
    simp only [f_impl_mostVoted_0, nlt_end, decide_false, Bool.false_eq_true, if_false, cnt]
    exact Ev.some _
  | x :: r, pre, c, hc, hr, hs, hl => by
    obtain ⟨x0, x9⟩ := hr x (List.mem_cons_self ..)
    have hx : x.toNat < c.length := by omega
    have h1 : x < ((10 : Nat) : Int) := by omega
    have hsx := hs x.toNat
    have hlen : pre.length + 1 ≤ 1000 := by simp at hl; omega
    have ih := e_impl_mostVoted_0 r (pre ++ [x]) (List.set c x.toNat (List.getD c x.toNat 0 + 1)) (by simpa using hc) (fun y hy => hr y (List.mem_cons_of_mem _ hy)) (by have := hs.set hx (x := 1) (by omega); simpa using this) (by simpa using hl)
    refine Ev.succ ?_
    simp only [f_impl_mostVoted_0, lt_mid, ge_mid, decide_true, if_true, Int.toNat_natCast, getD_mid, x0, h1, ten hc, hx]
    rw [next_mid pre x r (by omega), w64 (n := List.getD c x.toNat 0 + 1) (by omega) (by omega)]
    rw [← shift_mid] at ih
    exact ih
/-- The first one of the greatest from i on, b being the best till there. -/
def bestF (c : List Int) : Nat → Nat → Int → Int
  | 0, _, b => b
  | d + 1, i, b => bestF c d (i + 1) (if List.getD c i 0 > List.getD c b.toNat 0 then (i : Int) else b)
theorem bestF_in (c : List Int) : ∀ (d i : Nat) (b : Int), i + d = 10 → 0 ≤ b → b < 10 → 0 ≤ bestF c d i b ∧ bestF c d i b < 10
  | 0, i, b, h, h0, h1 => ⟨h0, h1⟩
  | d + 1, i, b, h, h0, h1 => by
    simp only [bestF]
    split
    · exact bestF_in c d (i + 1) i (by omega) (by omega) (by omega)
    · exact bestF_in c d (i + 1) b (by omega) h0 h1
theorem e_spec_voMost_2 {c : List Int} (hc : c.length = 10) : ∀ (d i : Nat) (b : Int), i + d = 10 → 0 ≤ b → b < 10 → Ev (fun k => f_spec_voMost_2 k c b 10 (i : Int)) (c, bestF c d i b)
  | 0, i, b, h, h0, h1 => by
    have : ¬ (i : Int) < 10 := by omega
    refine Ev.succ ?_
    simp only [f_spec_voMost_2, this, decide_false, Bool.false_eq_true, if_false, bestF]
    exact Ev.some _
  | d + 1, i, b, h, h0, h1 => by
    have g1 : (i : Int) < 10 := by omega
    have g2 : (i : Int) < (c.length : Int) := by omega
    have g3 : b < (c.length : Int) := by omega
    have g4 : wrap64 ((i : Int) + 1) = ((i + 1 : Nat) : Int) := by rw [w64 (by omega) (by omega)]; omega
    refine Ev.succ ?_
    simp only [f_spec_voMost_2, g1, g2, g3, g4, h0, decide_true, if_true, Int.natCast_nonneg, Int.toNat_natCast, bestF]
    refine Ev.ite (fun hh => ?_) (fun hh => ?_)
    · rw [if_pos (of_decide_eq_true hh)]
      exact e_spec_voMost_2 hc d (i + 1) i (by omega) (by omega) (by omega)
    · rw [if_neg (fun h9 => hh (decide_eq_true h9))]
      exact e_spec_voMost_2 hc d (i + 1) b (by omega) h0 h1
theorem e_impl_mostVoted_2 {c : List Int} (hc : c.length = 10) : ∀ (d i : Nat) (b : Int), i + d = 10 → 0 ≤ b → b < 10 → Ev (fun k => f_impl_mostVoted_2 k (List.getD c 0 0) (List.getD c 1 0) (List.getD c 2 0) (List.getD c 3 0) (List.getD c 4 0) (List.getD c 5 0) (List.getD c 6 0) (List.getD c 7 0) (List.getD c 8 0) (List.getD c 9 0) b (List.getD c 0 0) (List.getD c 1 0) (List.getD c 2 0) (List.getD c 3 0) (List.getD c 4 0) (List.getD c 5 0) (List.getD c 6 0) (List.getD c 7 0) (List.getD c 8 0) (List.getD c 9 0) (i : Int)) (List.getD c 0 0, List.getD c 1 0, List.getD c 2 0, List.getD c 3 0, List.getD c 4 0, List.getD c 5 0, List.getD c 6 0, List.getD c 7 0, List.getD c 8 0, List.getD c 9 0, bestF c d i b)
  | 0, i, b, h, h0, h1 => by
    have : ¬ (i : Int) < 10 := by omega
    refine Ev.succ ?_
    simp only [f_impl_mostVoted_2, this, decide_false, Bool.false_eq_true, if_false, bestF]
    exact Ev.some _
  | d + 1, i, b, h, h0, h1 => by
    have g1 : (i : Int) < 10 := by omega
    have g2 : (i : Int) < ((10 : Nat) : Int) := by omega
    have g3 : b < ((10 : Nat) : Int) := by omega
    have g5 : b.toNat < c.length := by omega
    have g4 : wrap64 ((i : Int) + 1) = ((i + 1 : Nat) : Int) := by rw [w64 (by omega) (by omega)]; omega
    refine Ev.succ ?_
    simp only [f_impl_mostVoted_2, ten hc, g1, g2, g3, g4, g5, h0, decide_true, if_true, Int.natCast_nonneg, Int.toNat_natCast, bestF]
    refine Ev.ite (fun hh => ?_) (fun hh => ?_)
    · rw [if_pos (of_decide_eq_true hh)]
      exact e_impl_mostVoted_2 hc d (i + 1) i (by omega) (by omega) (by omega)
    · rw [if_neg (fun h9 => hh (decide_eq_true h9))]
      exact e_impl_mostVoted_2 hc d (i + 1) b (by omega) h0 h1
def countsOf (l : List Int) : List Int := cnt l zeros
theorem counts_len (l : List Int) : (countsOf l).length = 10 := by unfold countsOf; rw [cnt_len]; rfl
def mostOf (l : List Int) : Int := bestF (countsOf l) 10 0 0
theorem most_in (l : List Int) : 0 ≤ mostOf l ∧ mostOf l < 10 := bestF_in _ 10 0 0 rfl (by omega) (by omega)
def manyOf (l : List Int) : Int := List.getD (countsOf l) (mostOf l).toNat 0
theorem cnt_small : ∀ (r c : List Int) (n : Int), c.length = 10 → (∀ x ∈ r, 0 ≤ x ∧ x ≤ 9) → Small c n → Small (cnt r c) (n + r.length)
  | [], c, n, hc, hr, hs => by simpa [cnt] using hs
  | x :: r, c, n, hc, hr, hs => by
    obtain ⟨x0, x9⟩ := hr x (List.mem_cons_self ..)
    have h1 := cnt_small r _ (n + 1) (by simpa using hc) (fun y hy => hr y (List.mem_cons_of_mem _ hy)) (hs.set (i := x.toNat) (by omega) (x := 1) (by omega))
    simp only [cnt]
    have e : n + 1 + (r.length : Int) = n + ((x :: r).length : Int) := by simp only [List.length_cons]; omega
    rw [← e]
    exact h1
theorem many_in {l : List Int} (h : ∀ x ∈ l, 0 ≤ x ∧ x ≤ 9) : 0 ≤ manyOf l ∧ manyOf l ≤ (l.length : Int) := by
  have := cnt_small l zeros 0 rfl h small_zeros (mostOf l).toNat
  unfold manyOf countsOf
  omega
theorem e_spec_voMost (l : List Int) (h : ∀ x ∈ l, 0 ≤ x ∧ x ≤ 9) (hl : l.length ≤ 1000) : Ev (fun k => f_spec_voMost k l) (mostOf l, manyOf l) := by
  have hm := most_in l
  have hlt : mostOf l < ((countsOf l).length : Int) := by rw [counts_len]; omega
  refine Ev.succ ?_
  simp only [f_spec_voMost]
  refine Ev.bind (e_spec_voMost_0 l [] zeros rfl h small_zeros (by simpa using hl)) ?_
  show Ev (fun k => Option.bind (f_spec_voMost_2 k (countsOf l) 0 ((countsOf l).length : Int) 0) _) _
  rw [counts_len]
  refine Ev.bind (e_spec_voMost_2 (counts_len l) 10 0 0 rfl (by omega) (by omega)) ?_
  show Ev (fun k => if 0 ≤ mostOf l then if mostOf l < ((countsOf l).length : Int) then some (mostOf l, manyOf l) else none else none) _
  rw [if_pos hm.1, if_pos hlt]
  exact Ev.some _
theorem e_impl_mostVoted (l : List Int) (h : ∀ x ∈ l, 0 ≤ x ∧ x ≤ 9) (hl : l.length ≤ 1000) : Ev (fun k => f_impl_mostVoted k l) (mostOf l, manyOf l) := by
  have hm := most_in l
  have hc := counts_len l
  have g5 : (mostOf l).toNat < (countsOf l).length := by omega
  have g3 : mostOf l < ((10 : Nat) : Int) := by omega
  refine Ev.succ ?_
  simp only [f_impl_mostVoted]
  refine Ev.bind (e_impl_mostVoted_0 l [] zeros rfl h small_zeros (by simpa using hl)) ?_
  refine Ev.bind (e_impl_mostVoted_2 (counts_len l) 10 0 0 rfl (by omega) (by omega)) ?_
  show Ev (fun k => if 0 ≤ mostOf l then if mostOf l < ((10 : Nat) : Int) then if (mostOf l).toNat < List.length [List.getD (countsOf l) 0 0, List.getD (countsOf l) 1 0, List.getD (countsOf l) 2 0, List.getD (countsOf l) 3 0, List.getD (countsOf l) 4 0, List.getD (countsOf l) 5 0, List.getD (countsOf l) 6 0, List.getD (countsOf l) 7 0, List.getD (countsOf l) 8 0, List.getD (countsOf l) 9 0] then some (mostOf l, List.getD [List.getD (countsOf l) 0 0, List.getD (countsOf l) 1 0, List.getD (countsOf l) 2 0, List.getD (countsOf l) 3 0, List.getD (countsOf l) 4 0, List.getD (countsOf l) 5 0, List.getD (countsOf l) 6 0, List.getD (countsOf l) 7 0, List.getD (countsOf l) 8 0, List.getD (countsOf l) 9 0] (mostOf l).toNat 0) else none else none else none) _
  rw [if_pos hm.1, if_pos g3, ten hc, if_pos g5]
  exact Ev.some _
def r_MostVoted (l : List Int) : Int × Int × Bool := if votesOK l then (mostOf l, manyOf l, true) else (0, 0, false)
theorem e_spec_MostVoted (l : List Int) (h0 : l.length ≤ 9223372036854775806) : Ev (fun k => f_spec_MostVoted k l) (r_MostVoted l) := by
  refine Ev.succ ?_
  simp only [f_spec_MostVoted]
  unfold r_MostVoted
  refine Ev.bind (a := votesOK l) (e_spec_voVotes l h0) ?_
  cases g0 : votesOK l with
  | false => simp only [Bool.not_false, if_true, Bool.false_eq_true, if_false, Bool.false_and, Bool.and_false]; exact Ev.some _
  | true =>
    simp only [Bool.not_true, Bool.false_eq_true, if_false, if_true, Bool.and_self]
    obtain ⟨h9, hd⟩ := votes_ok g0
    exact Ev.bind (e_spec_voMost l hd (by omega)) (Ev.some _)
theorem e_impl_MostVoted (l : List Int) (h0 : l.length ≤ 9223372036854775806) : Ev (fun k => f_impl_MostVoted k l) (r_MostVoted l) := by
  refine Ev.succ ?_
  simp only [f_impl_MostVoted]
  unfold r_MostVoted
  refine Ev.bind (a := votesOK l) (e_impl_areVotes l h0) ?_
  cases g0 : votesOK l with
  | false => simp only [Bool.not_false, if_true, Bool.false_eq_true, if_false, Bool.false_and, Bool.and_false]; exact Ev.some _
  | true =>
    simp only [Bool.not_true, Bool.false_eq_true, if_false, if_true, Bool.and_self]
    obtain ⟨h9, hd⟩ := votes_ok g0
    exact Ev.bind (e_impl_mostVoted l hd (by omega)) (Ev.some _)
def r_MajorityOf (l : List Int) : Int × Bool := if votesOK l then (if 2 * manyOf l ≤ (l.length : Int) then (0, false) else (mostOf l, true)) else (0, false)
theorem e_spec_MajorityOf (l : List Int) (h0 : l.length ≤ 9223372036854775806) : Ev (fun k => f_spec_MajorityOf k l) (r_MajorityOf l) := by
  refine Ev.succ ?_
  simp only [f_spec_MajorityOf]
  unfold r_MajorityOf
  refine Ev.bind (a := votesOK l) (e_spec_voVotes l h0) ?_
  cases g0 : votesOK l with
  | false => simp only [Bool.not_false, if_true, Bool.false_eq_true, if_false, Bool.false_and, Bool.and_false]; exact Ev.some _
  | true =>
    simp only [Bool.not_true, Bool.false_eq_true, if_false, if_true, Bool.and_self]
    obtain ⟨h9, hd⟩ := votes_ok g0
    have hm := many_in hd
    refine Ev.bind (e_spec_voMost l hd (by omega)) ?_
    simp only []
    rw [w64 (n := 2 * manyOf l) (by omega) (by omega)]
    refine Ev.ite (fun h => ?_) (fun h => ?_)
    · rw [if_pos (of_decide_eq_true h)]; exact Ev.some _
    · rw [if_neg (fun h8 => h (decide_eq_true h8))]; exact Ev.some _
theorem e_impl_MajorityOf (l : List Int) (h0 : l.length ≤ 9223372036854775806) : Ev (fun k => f_impl_MajorityOf k l) (r_MajorityOf l) := by
  refine Ev.succ ?_
  simp only [f_impl_MajorityOf]
  unfold r_MajorityOf
  refine Ev.bind (a := votesOK l) (e_impl_areVotes l h0) ?_
  cases g0 : votesOK l with
  | false => simp only [Bool.not_false, if_true, Bool.false_eq_true, if_false, Bool.false_and, Bool.and_false]; exact Ev.some _
  | true =>
    simp only [Bool.not_true, Bool.false_eq_true, if_false, if_true, Bool.and_self]
    obtain ⟨h9, hd⟩ := votes_ok g0
    have hm := many_in hd
    refine Ev.bind (e_impl_mostVoted l hd (by omega)) ?_
    simp only []
    rw [w64 (n := 2 * manyOf l) (by omega) (by omega)]
    refine Ev.ite (fun h => ?_) (fun h => ?_)
    · rw [if_pos (of_decide_eq_true h)]; exact Ev.some _
    · rw [if_neg (fun h8 => h (decide_eq_true h8))]; exact Ev.some _
theorem law_FnExactMostVoted (p0 : List Int) (h0 : p0.length ≤ 9223372036854775807) : Ev (fun k => f_laws_FnExactMostVoted k p0) true := by
  refine Ev.succ ?_
  simp only [f_laws_FnExactMostVoted]
  by_cases q1 : (p0.length : Int) > 1048576
  · simp only [q1, decide_true, if_true]; exact Ev.some _
  simp only [q1, decide_false, Bool.false_eq_true, if_false]
  have es := e_spec_MostVoted p0 (by omega)
  have ei := e_impl_MostVoted p0 (by omega)
  generalize r_MostVoted p0 = R at es ei
  refine Ev.bind (e_laws_toIntS _ (by first | omega | (dsimp only; omega))) ?_
  refine Ev.bind es ?_
  refine Ev.bind (e_laws_toIntS _ (by first | omega | (dsimp only; omega))) ?_
  refine Ev.bind ei ?_
  simp only [decide_true, beq_self_eq_true, ne_eq, not_true_eq_false, decide_false, Bool.not_true, Bool.false_eq_true, if_false]
  refine Ev.bind (e_laws_toIntS _ (by first | omega | (dsimp only; omega))) ?_
  refine Ev.bind (e_laws_eqIntS _ _ (by first | omega | (dsimp only; omega))) ?_
  simp only [decide_true, beq_self_eq_true, ne_eq, not_true_eq_false, decide_false, Bool.not_true, Bool.false_eq_true, if_false]
  exact Ev.some _
theorem law_FnExactMajorityOf (p0 : List Int) (h0 : p0.length ≤ 9223372036854775807) : Ev (fun k => f_laws_FnExactMajorityOf k p0) true := by
  refine Ev.succ ?_
  simp only [f_laws_FnExactMajorityOf]
  by_cases q1 : (p0.length : Int) > 1048576
  · simp only [q1, decide_true, if_true]; exact Ev.some _
  simp only [q1, decide_false, Bool.false_eq_true, if_false]
  have es := e_spec_MajorityOf p0 (by omega)
  have ei := e_impl_MajorityOf p0 (by omega)
  generalize r_MajorityOf p0 = R at es ei
  refine Ev.bind (e_laws_toIntS _ (by first | omega | (dsimp only; omega))) ?_
  refine Ev.bind es ?_
  refine Ev.bind (e_laws_toIntS _ (by first | omega | (dsimp only; omega))) ?_
  refine Ev.bind ei ?_
  simp only [decide_true, beq_self_eq_true, ne_eq, not_true_eq_false, decide_false, Bool.not_true, Bool.false_eq_true, if_false]
  refine Ev.bind (e_laws_toIntS _ (by first | omega | (dsimp only; omega))) ?_
  refine Ev.bind (e_laws_eqIntS _ _ (by first | omega | (dsimp only; omega))) ?_
  simp only [decide_true, beq_self_eq_true, ne_eq, not_true_eq_false, decide_false, Bool.not_true, Bool.false_eq_true, if_false]
  exact Ev.some _
end Go.Proofs.Ytcmndffpmjinlaa.Vs

set_option linter.unusedVariables false
set_option linter.unusedSimpArgs false
namespace Go.Proofs.Ytcmndffpmjinlaa.Vs
open Go.RowKit
/-- How many lie in all rows together. -/
def szRows {α : Type} : List (List α) → Int
  | [] => 0
  | x :: r => (x.length : Int) + szRows r
theorem szRows_nonneg {α : Type} : ∀ (l : List (List α)), 0 ≤ szRows l
  | [] => Int.le_refl _
  | x :: r => by have := szRows_nonneg r; simp only [szRows]; omega
theorem szRows_mem {α : Type} : ∀ {l : List (List α)} {x : List α}, x ∈ l → (x.length : Int) ≤ szRows l
  | y :: r, x, h => by
    have h1 := szRows_nonneg r
    simp only [szRows]
    rcases List.mem_cons.1 h with rfl | h
    · omega
    · have := szRows_mem h; omega
theorem e_laws_szIntSS_0 : ∀ (r pre : List (List Int)) (n : Int), 0 ≤ n → n ≤ 1048576 → (∀ x ∈ r, x.length ≤ 9223372036854775807) → (pre ++ r).length ≤ 9223372036854775806 → Ev (fun k => f_laws_szIntSS_0 k (pre ++ r) n (pre.length : Int)) (if n - szRows r < 0 then LR.ret (-1) else LR.go (n - szRows r))
  | [], pre, n, h0, h1, hx, hl => by
    refine Ev.succ ?_
    simp only [f_laws_szIntSS_0, nlt_end, decide_false, Bool.false_eq_true, if_false]
    rw [if_neg (show ¬ n - szRows ([] : List (List Int)) < 0 by simp only [szRows]; omega)]
    exact Ev.of (by simp [szRows])
  | x :: r, pre, n, h0, h1, hx, hl => by
    have hxl := hx x (List.mem_cons_self ..)
    have hr := szRows_nonneg r
    refine Ev.succ ?_
    simp only [f_laws_szIntSS_0, lt_mid, ge_mid, decide_true, if_true, Int.toNat_natCast, getD_mid]
    rw [next_mid pre x r (by omega)]
    refine Ev.bind (e_laws_szIntS x n h0 h1 hxl) ?_
    by_cases h : n - (x.length : Int) < 0
    · simp only [h, if_true]
      rw [if_pos (show n - szRows (x :: r) < 0 by simp only [szRows]; omega)]
      exact Ev.some _
    · simp only [h, if_false, decide_false, Bool.false_eq_true]
      have ih := e_laws_szIntSS_0 r (pre ++ [x]) (n - x.length) (by omega) (by omega) (fun y hy => hx y (List.mem_cons_of_mem _ hy)) (by simpa using hl)
      rw [← shift_mid] at ih
      have e1 : n - szRows (x :: r) = n - (x.length : Int) - szRows r := by simp only [szRows]; omega
      rw [e1]
      exact ih
theorem e_laws_szIntSS (l : List (List Int)) (n : Int) (h0 : 0 ≤ n) (h1 : n ≤ 1048576) (hl : l.length ≤ 9223372036854775807) (hx : ∀ x ∈ l, x.length ≤ 9223372036854775807) : Ev (fun k => f_laws_szIntSS k l n) (if n - l.length < 0 then -1 else if n - l.length - szRows l < 0 then -1 else n - l.length - szRows l) := by
  refine Ev.succ ?_
  simp only [f_laws_szIntSS]
  rw [w64 (by omega) (by omega)]
  by_cases h : n - (l.length : Int) < 0
  · simp only [h, decide_true, if_true]; exact Ev.some _
  · simp only [h, decide_false, Bool.false_eq_true, if_false]
    refine Ev.bind (e_laws_szIntSS_0 l [] _ (by omega) (by omega) hx (by simp; omega)) ?_
    by_cases g : n - (l.length : Int) - szRows l < 0
    · simp only [g, if_true]; exact Ev.ret (Ev.some _)
    · simp only [g, if_false]; exact Ev.go (Ev.some _)
theorem e_laws_toIntSS_0 : ∀ (r pre rest : List (List Int)), rest.length = r.length → (∀ x ∈ r, x.length ≤ 1048576) → (pre ++ r).length ≤ 1048576 → Ev (fun k => f_laws_toIntSS_0 k (pre ++ rest) (pre ++ r) (pre.length : Int)) (pre ++ r)
  | [], pre, rest, h, hx, hl => by
    obtain rfl : rest = [] := List.eq_nil_of_length_eq_zero h
    refine Ev.succ ?_
    simp only [f_laws_toIntSS_0, nlt_end, decide_false, Bool.false_eq_true, if_false]
    exact Ev.some _
  | x :: r, pre, [], h, hx, hl => by simp at h
  | x :: r, pre, y :: rest, h, hx, hl => by
    have ih := e_laws_toIntSS_0 r (pre ++ [x]) rest (by simpa using h) (fun y hy => hx y (List.mem_cons_of_mem _ hy)) (by simpa using hl)
    refine Ev.succ ?_
    simp only [f_laws_toIntSS_0, lt_mid, ge_mid, decide_true, if_true, Int.toNat_natCast, getD_mid, set_mid]
    rw [next_mid pre x r (by omega)]
    refine Ev.bind (e_laws_toIntS x (hx x (List.mem_cons_self ..))) ?_
    rw [← shift_mid, ← shift_mid] at ih
    exact ih
theorem e_laws_toIntSS (l : List (List Int)) (hl : l.length ≤ 1048576) (hx : ∀ x ∈ l, x.length ≤ 1048576) : Ev (fun k => f_laws_toIntSS k l) l := by
  refine Ev.succ ?_
  have hm : l.length * 24 ≤ 281474976710656 := by omega
  simp only [f_laws_toIntSS, Int.toNat_natCast, hm, if_true]
  exact Ev.bind (e_laws_toIntSS_0 l [] (List.replicate l.length []) (by simp) hx (by simpa using hl)) (Ev.some _)
theorem e_laws_eqIntSS_0 : ∀ (r s pre pre' : List (List Int)), s.length = r.length → pre'.length = pre.length → (∀ x ∈ r, x.length ≤ 9223372036854775806) → (pre ++ r).length ≤ 9223372036854775806 → Ev (fun k => f_laws_eqIntSS_0 k (pre ++ r) (pre' ++ s) (pre.length : Int)) (if r = s then LR.go () else LR.ret false)
  | [], s, pre, pre', h, hp, hx, hl => by
    obtain rfl : s = [] := List.eq_nil_of_length_eq_zero h
    refine Ev.succ ?_
    simp only [f_laws_eqIntSS_0, nlt_end, decide_false, Bool.false_eq_true, if_false, if_true]
    exact Ev.some _
  | x :: r, [], pre, pre', h, hp, hx, hl => by simp at h
  | x :: r, y :: s, pre, pre', h, hp, hx, hl => by
    have ih := e_laws_eqIntSS_0 r s (pre ++ [x]) (pre' ++ [y]) (by simpa using h) (by simpa using hp) (fun y hy => hx y (List.mem_cons_of_mem _ hy)) (by simpa using hl)
    have l2 : (pre.length : Int) < ((pre' ++ y :: s).length : Int) := by rw [← hp]; exact lt_mid _ _ _
    have g2 : List.getD (pre' ++ y :: s) pre.length [] = y := by rw [← hp]; exact getD_mid _ _ _ _
    refine Ev.succ ?_
    simp only [f_laws_eqIntSS_0, lt_mid, ge_mid, l2, decide_true, if_true, Int.toNat_natCast, getD_mid, g2]
    rw [next_mid pre x r (by omega)]
    rw [← shift_mid, ← shift_mid] at ih
    refine Ev.bind (e_laws_eqIntS x y (hx x (List.mem_cons_self ..))) ?_
    by_cases hxy : x = y
    · subst hxy
      simp only [decide_true, Bool.not_true, Bool.false_eq_true, if_false]
      refine ih.congr ?_
      by_cases hrs : r = s <;> simp [hrs]
    · simp only [hxy, decide_false, Bool.not_false, if_true]
      refine Ev.of ?_
      rw [if_neg (by intro hc; injection hc with h1 h2; exact hxy h1)]
theorem e_laws_eqIntSS (l m : List (List Int)) (hl : l.length ≤ 9223372036854775806) (hx : ∀ x ∈ l, x.length ≤ 9223372036854775806) : Ev (fun k => f_laws_eqIntSS k l m) (decide (l = m)) := by
  refine Ev.succ ?_
  simp only [f_laws_eqIntSS]
  by_cases h : l.length = m.length
  · simp only [h, ne_eq, not_true_eq_false, decide_false, Bool.false_eq_true, if_false]
    refine Ev.bind (e_laws_eqIntSS_0 l m [] [] h.symm rfl hx (by simpa using hl)) ?_
    by_cases hlm : l = m
    · rw [if_pos hlm]; simp only [hlm, decide_true]; exact Ev.go (Ev.some _)
    · rw [if_neg hlm]; simp only [hlm, decide_false]; exact Ev.ret (Ev.some _)
  · have h2 : ¬ (l.length : Int) = (m.length : Int) := by omega
    have h3 : ¬ l = m := fun hc => h (by rw [hc])
    simp only [ne_eq, h2, not_false_eq_true, decide_true, if_true, h3, decide_false]
    exact Ev.some _
end Go.Proofs.Ytcmndffpmjinlaa.Vs

set_option linter.unusedVariables false
set_option linter.unusedSimpArgs false
namespace Go.Proofs.Ytcmndffpmjinlaa.Vs
open Go.RowKit
/-- The marks from k on. -/
def marksIntS : List Int → Int → List Int
  | [], _ => []
  | _ :: r, k => k :: marksIntS r (k + 1)
theorem marksIntS_len : ∀ (l : List Int) (k : Int), (marksIntS l k).length = l.length
  | [], _ => rfl
  | _ :: r, k => by simp [marksIntS, marksIntS_len r]
theorem e_laws_markIntS_0 : ∀ (r pre : List Int) (c : Int), 0 ≤ c → c + 1 * r.length ≤ 4611686018427387904 → (pre ++ r).length ≤ 4611686018427387904 → Ev (fun k => f_laws_markIntS_0 k (pre ++ r) c (pre.length : Int)) (pre ++ marksIntS r c, c + 1 * r.length)
  | [], pre, c, hc, h, hl => by
    refine Ev.succ ?_
    simp only [f_laws_markIntS_0, nlt_end, decide_false, Bool.false_eq_true, if_false, marksIntS, List.length_nil, Int.natCast_zero, Int.mul_zero, Int.add_zero]
    exact Ev.some _
  | x :: r, pre, c, hc, h, hl => by
    have h' : (c + 1) + 1 * (r.length : Int) = c + 1 * ((x :: r).length : Int) := by simp only [List.length_cons]; omega
    have ih := e_laws_markIntS_0 r (pre ++ [c]) (c + 1) (by omega) (by omega) (by simpa using hl)
    have hn := next_mid pre x r (by omega)
    have hn2 : ((pre ++ [x]).length : Int) = ((pre ++ [c]).length : Int) := by simp
    refine Ev.succ ?_
    simp only [f_laws_markIntS_0, lt_mid, ge_mid, decide_true, if_true, Int.toNat_natCast, getD_mid, set_mid, hn]
    simp only [List.length_cons] at h
    rw [w64 (n := c + 1) (by omega) (by omega)]
    rw [← shift_mid, h'] at ih
    rw [hn2]
    refine Ev.congr (f := _) (by simpa [Int.add_assoc] using ih) ?_
    simp [marksIntS]
theorem e_laws_markIntS (l : List Int) (c : Int) (hc : 0 ≤ c) (h : c + 1 * l.length ≤ 4611686018427387904) : Ev (fun k => f_laws_markIntS k l c) (c + 1 * l.length, marksIntS l c) :=
  Ev.succ (Ev.bind (e_laws_markIntS_0 l [] c hc h (by simp; omega)) (Ev.some _))
theorem e_laws_heldIntS_0 : ∀ (r pre : List Int) (c : Int), 0 ≤ c → c + 1 * r.length ≤ 4611686018427387904 → (pre ++ marksIntS r c).length ≤ 4611686018427387904 → Ev (fun k => f_laws_heldIntS_0 k (pre ++ marksIntS r c) c (pre.length : Int)) (LR.go (c + 1 * r.length))
  | [], pre, c, hc, h, hl => by
    refine Ev.succ ?_
    simp only [f_laws_heldIntS_0, marksIntS, nlt_end, decide_false, Bool.false_eq_true, if_false, List.length_nil, Int.natCast_zero, Int.mul_zero, Int.add_zero]
    exact Ev.some _
  | x :: r, pre, c, hc, h, hl => by
    have h' : (c + 1) + 1 * (r.length : Int) = c + 1 * ((x :: r).length : Int) := by simp only [List.length_cons]; omega
    simp only [marksIntS] at hl ⊢
    have ih := e_laws_heldIntS_0 r (pre ++ [c]) (c + 1) (by omega) (by omega) (by simpa using hl)
    have hn := next_mid pre c (marksIntS r (c + 1)) (by omega)
    refine Ev.succ ?_
    simp only [f_laws_heldIntS_0, lt_mid, ge_mid, decide_true, if_true, Int.toNat_natCast, getD_mid, hn]
    simp only [List.length_cons] at h
    rw [w64 (n := c + 1) (by omega) (by omega)]
    rw [← shift_mid, h'] at ih
    simpa [Int.add_assoc] using ih
theorem e_laws_heldIntS (l : List Int) (c : Int) (hc : 0 ≤ c) (h : c + 1 * l.length ≤ 4611686018427387904) : Ev (fun k => f_laws_heldIntS k (marksIntS l c) c) (c + 1 * l.length) := by
  refine Ev.succ (Ev.bind (e_laws_heldIntS_0 l [] c hc h (by rw [List.nil_append, marksIntS_len]; omega)) ?_)
  exact Ev.go (Ev.some _)
end Go.Proofs.Ytcmndffpmjinlaa.Vs

set_option linter.unusedVariables false
set_option linter.unusedSimpArgs false
namespace Go.Proofs.Ytcmndffpmjinlaa.Vs
open Go.RowKit
/-- The marks from k on, row by row. -/
def marksIntSS : List (List Int) → Int → List (List Int)
  | [], _ => []
  | x :: r, k => marksIntS x k :: marksIntSS r (k + 1 * x.length)
theorem e_laws_markIntSS_0 : ∀ (r pre : List (List Int)) (c : Int), 0 ≤ c → c + 1 * szRows r ≤ 4611686018427387904 → (pre ++ r).length ≤ 4611686018427387904 → Ev (fun k => f_laws_markIntSS_0 k (pre ++ r) c (pre.length : Int)) (pre ++ marksIntSS r c, c + 1 * szRows r)
  | [], pre, c, hc, h, hl => by
    refine Ev.succ ?_
    simp only [f_laws_markIntSS_0, nlt_end, decide_false, Bool.false_eq_true, if_false, marksIntSS, szRows, Int.mul_zero, Int.add_zero]
    exact Ev.some _
  | x :: r, pre, c, hc, h, hl => by
    have hz := szRows_nonneg r
    simp only [szRows] at h ⊢
    have h' : (c + 1 * (x.length : Int)) + 1 * szRows r = c + 1 * ((x.length : Int) + szRows r) := by omega
    have ih := e_laws_markIntSS_0 r (pre ++ [marksIntS x c]) (c + 1 * x.length) (by omega) (by omega) (by simpa using hl)
    have hn := next_mid pre x r (by omega)
    have hn2 : ((pre ++ [x]).length : Int) = ((pre ++ [marksIntS x c]).length : Int) := by simp
    have hx := e_laws_markIntS x c hc (by omega)
    refine Ev.succ ?_
    unfold f_laws_markIntSS_0
    refine Ev.ite (fun _ => Ev.ite (fun _ => Ev.ite (fun _ => ?_) (fun h => absurd (lt_mid _ _ _) h)) (fun h => absurd (ge_mid _) h)) (fun h => absurd (decide_eq_true (lt_mid _ _ _)) h)
    refine Ev.bind (a := (List.getD (pre ++ x :: r) (Int.toNat (pre.length : Int)) [], c, ())) (Ev.of ((if_pos (c := (1 : Nat) = 1 ∧ (pre.length : Int) = pre.length) ⟨rfl, rfl⟩).trans rfl)) ?_
    simp only [Int.toNat_natCast, getD_mid]
    refine Ev.bind hx ?_
    simp only [set_mid, hn]
    rw [← shift_mid, h'] at ih
    rw [hn2]
    refine ih.congr ?_
    simp [marksIntSS]
theorem e_laws_markIntSS (l : List (List Int)) (c : Int) (hc : 0 ≤ c) (h : c + 1 * szRows l ≤ 4611686018427387904) (hl : l.length ≤ 4611686018427387904) : Ev (fun k => f_laws_markIntSS k l c) (c + 1 * szRows l, marksIntSS l c) :=
  Ev.succ (Ev.bind (e_laws_markIntSS_0 l [] c hc h (by simpa using hl)) (Ev.some _))
end Go.Proofs.Ytcmndffpmjinlaa.Vs

set_option linter.unusedVariables false
set_option linter.unusedSimpArgs false
namespace Go.Proofs.Ytcmndffpmjinlaa.Vs
open Go.RowKit
/-! ### Rows -/
def rowOK (n : Nat) (x : List Int) : Bool := decide (x.length = n) && (decide (x.length ≤ 40) && digs x)
def rowsOK (R : List (List Int)) : Bool := decide (1 ≤ R.length ∧ R.length ≤ 9) && R.all (rowOK (List.getD R 0 []).length)
theorem e_impl_areRows_0 (R : List (List Int)) (hR : 0 < R.length) : ∀ (r pre : List (List Int)), (∀ x ∈ r, x.length ≤ 9223372036854775806) → (pre ++ r).length ≤ 9223372036854775806 → Ev (fun k => f_impl_areRows_0 k R (pre ++ r) ((pre ++ r).length : Int) (pre.length : Int)) (if r.all (rowOK (List.getD R 0 []).length) then LR.go () else LR.ret false)
  | [], pre, hx, hl => by
    refine Ev.succ ?_
    simp only [f_impl_areRows_0, nlt_end, decide_false, Bool.false_eq_true, if_false, List.all_nil, if_true]
    exact Ev.some _
  | x :: r, pre, hx, hl => by
    have ih := e_impl_areRows_0 R hR r (pre ++ [x]) (fun y hy => hx y (List.mem_cons_of_mem _ hy)) (by simpa using hl)
    have h0 : (0 : Int) < (R.length : Int) := by omega
    have hd : ∀ q, rowOK q x = (decide (x.length = q) && (decide (x.length ≤ 40) && digs x)) := fun _ => rfl
    refine Ev.succ ?_
    simp only [f_impl_areRows_0, lt_mid, ge_mid, decide_true, if_true, Int.toNat_natCast, getD_mid, h0, Int.toNat_zero, List.all_cons]
    rw [next_mid pre x r (by omega)]
    rw [← shift_mid] at ih
    refine Ev.ite (fun h => ?_) (fun h => Ev.ite (fun h2 => ?_) (fun h2 => ?_))
    · simp only [decide_eq_true_eq] at h
      have h1 : ¬ x.length = (List.getD R 0 []).length := by omega
      exact Ev.of (by simp only [hd, h1, decide_false, Bool.false_and, Bool.false_eq_true, if_false])
    · simp only [decide_eq_true_eq] at h2
      have h1 : ¬ x.length ≤ 40 := by omega
      exact Ev.of (by simp only [hd, h1, decide_false, Bool.false_and, Bool.and_false, Bool.false_eq_true, if_false])
    · simp only [decide_eq_true_eq] at h h2
      have h1 : x.length = (List.getD R 0 []).length := by omega
      have h3 : x.length ≤ 40 := by omega
      refine Ev.bind (e_impl_areDigits x (hx x (List.mem_cons_self ..))) ?_
      simp only [hd, h3, decide_true, Bool.true_and]
      cases hg : digs x with
      | true => simp only [Bool.not_true, Bool.false_eq_true, if_false, decide_eq_true h1, Bool.true_and]; exact ih
      | false => simp only [Bool.not_false, if_true, Bool.and_false, Bool.false_and, Bool.false_eq_true, if_false]; exact Ev.some _
theorem e_spec_voRows_0 (R : List (List Int)) (hR : 0 < R.length) : ∀ (r pre : List (List Int)), (∀ x ∈ r, x.length ≤ 9223372036854775806) → (pre ++ r).length ≤ 9223372036854775806 → Ev (fun k => f_spec_voRows_0 k R (pre ++ r) ((pre ++ r).length : Int) (pre.length : Int)) (if r.all (rowOK (List.getD R 0 []).length) then LR.go R else LR.ret false)
  | [], pre, hx, hl => by
    refine Ev.succ ?_
    simp only [f_spec_voRows_0, nlt_end, decide_false, Bool.false_eq_true, if_false, List.all_nil, if_true]
    exact Ev.some _
  | x :: r, pre, hx, hl => by
    have ih := e_spec_voRows_0 R hR r (pre ++ [x]) (fun y hy => hx y (List.mem_cons_of_mem _ hy)) (by simpa using hl)
    have h0 : (0 : Int) < (R.length : Int) := by omega
    have hd : ∀ q, rowOK q x = (decide (x.length = q) && (decide (x.length ≤ 40) && digs x)) := fun _ => rfl
    refine Ev.succ ?_
    simp only [f_spec_voRows_0, lt_mid, ge_mid, decide_true, if_true, Int.toNat_natCast, getD_mid, h0, Int.toNat_zero, List.all_cons]
    rw [next_mid pre x r (by omega)]
    rw [← shift_mid] at ih
    refine Ev.ite (fun h => ?_) (fun h => Ev.ite (fun h2 => ?_) (fun h2 => ?_))
    · simp only [decide_eq_true_eq] at h
      have h1 : ¬ x.length = (List.getD R 0 []).length := by omega
      exact Ev.of (by simp only [hd, h1, decide_false, Bool.false_and, Bool.false_eq_true, if_false])
    · simp only [decide_eq_true_eq] at h2
      have h1 : ¬ x.length ≤ 40 := by omega
      exact Ev.of (by simp only [hd, h1, decide_false, Bool.false_and, Bool.and_false, Bool.false_eq_true, if_false])
    · simp only [decide_eq_true_eq] at h h2
      have h1 : x.length = (List.getD R 0 []).length := by omega
      have h3 : x.length ≤ 40 := by omega
      refine Ev.bind (a := digs x) (e_spec_l1All x 0 9 (hx x (List.mem_cons_self ..))) ?_
      simp only [hd, h3, decide_true, Bool.true_and]
      cases hg : digs x with
      | true => simp only [Bool.not_true, Bool.false_eq_true, if_false, decide_eq_true h1, Bool.true_and]; exact ih
      | false => simp only [Bool.not_false, if_true, Bool.and_false, Bool.false_and, Bool.false_eq_true, if_false]; exact Ev.some _
theorem e_impl_areRows (R : List (List Int)) (hx : ∀ x ∈ R, x.length ≤ 9223372036854775806) (hl : R.length ≤ 9223372036854775806) : Ev (fun k => f_impl_areRows k R) (rowsOK R) := by
  refine Ev.succ ?_
  simp only [f_impl_areRows]
  refine Ev.ite (fun h => ?_) (fun h => Ev.ite (fun h2 => ?_) (fun h2 => ?_))
  · simp only [decide_eq_true_eq] at h
    have h3 : ¬ (1 ≤ R.length ∧ R.length ≤ 9) := by omega
    exact Ev.of (by simp only [rowsOK, h3, decide_false, Bool.false_and])
  · simp only [decide_eq_true_eq] at h2
    have h3 : ¬ (1 ≤ R.length ∧ R.length ≤ 9) := by omega
    exact Ev.of (by simp only [rowsOK, h3, decide_false, Bool.false_and])
  · simp only [decide_eq_true_eq] at h h2
    have h3 : 1 ≤ R.length ∧ R.length ≤ 9 := by omega
    refine Ev.bind (e_impl_areRows_0 R (by omega) R [] hx (by simpa using hl)) ?_
    simp only [rowsOK, h3, and_self, decide_true, Bool.true_and]
    cases hg : R.all (rowOK (List.getD R 0 []).length) with
    | true => simp only [if_true]; exact Ev.go (Ev.some _)
    | false => simp only [Bool.false_eq_true, if_false]; exact Ev.ret (Ev.some _)
theorem e_spec_voRows (R : List (List Int)) (hx : ∀ x ∈ R, x.length ≤ 9223372036854775806) (hl : R.length ≤ 9223372036854775806) : Ev (fun k => f_spec_voRows k R) (rowsOK R) := by
  refine Ev.succ ?_
  simp only [f_spec_voRows]
  have hco : Ev (fun k => f_spec_voCopies k (R.length : Int)) (decide (1 ≤ R.length ∧ R.length ≤ 9)) := by
    refine Ev.succ ?_
    simp only [f_spec_voCopies]
    refine (Ev.bind (e_spec_l1In _ _ _) (Ev.some _)).congr ?_
    apply decide_eq_decide.2
    omega
  by_cases h0 : 0 < R.length
  · refine Ev.bind (e_spec_voRows_0 R h0 R [] hx (by simpa using hl)) ?_
    cases hg : R.all (rowOK (List.getD R 0 []).length) with
    | true =>
      simp only [if_true, rowsOK, hg, Bool.and_true]
      exact Ev.go (Ev.bind hco (Ev.some _))
    | false =>
      simp only [Bool.false_eq_true, if_false, rowsOK, hg, Bool.and_false]
      exact Ev.ret (Ev.some _)
  · have hn : R = [] := List.eq_nil_of_length_eq_zero (by omega)
    subst hn
    have hl0 : Ev (fun k => f_spec_voRows_0 k [] [] (([] : List (List Int)).length : Int) 0) (LR.go []) := by
      refine Ev.succ ?_
      simp only [f_spec_voRows_0, List.length_nil, Int.natCast_zero, Int.lt_irrefl, decide_false, Bool.false_eq_true, if_false]
      exact Ev.some _
    exact Ev.bind hl0 (Ev.go (Ev.bind hco (Ev.some _)))
theorem rows_ok {R : List (List Int)} (h : rowsOK R = true) : 0 < R.length ∧ R.length ≤ 9 ∧ (List.getD R 0 []).length ≤ 40 ∧ ∀ x ∈ R, x.length = (List.getD R 0 []).length ∧ ∀ y ∈ x, 0 ≤ y ∧ y ≤ 9 := by
  unfold rowsOK rowOK digs at h
  simp only [Bool.and_eq_true, decide_eq_true_eq, List.all_eq_true] at h
  have h0 : 0 < R.length := by omega
  have hm : List.getD R 0 [] ∈ R := by simp [List.getD, List.getElem?_eq_getElem h0]
  exact ⟨h0, h.1.2, (h.2 _ hm).2.1, fun x hx => ⟨(h.2 x hx).1, (h.2 x hx).2.2⟩⟩
def colOf (R : List (List Int)) (k : Nat) : List Int := R.map fun x => List.getD x k 0
theorem e_spec_voPlace_0 (n k0 : Nat) (hk : k0 < n) : ∀ (r pre : List (List Int)) (acc : List Int), (∀ x ∈ r, x.length = n) → (pre ++ r).length ≤ 1000 → acc.length ≤ pre.length → Ev (fun k => f_spec_voPlace_0 k acc (k0 : Int) (pre ++ r) ((pre ++ r).length : Int) (pre.length : Int)) (acc ++ colOf r k0)
  | [], pre, acc, hx, hl, ha => by
    refine Ev.succ ?_
    simp only [f_spec_voPlace_0, nlt_end, decide_false, Bool.false_eq_true, if_false]
    exact Ev.of (by simp [colOf])
  | x :: r, pre, acc, hx, hl, ha => by
    have hxn := hx x (List.mem_cons_self ..)
    have ih := e_spec_voPlace_0 n k0 hk r (pre ++ [x]) (acc ++ [List.getD x k0 0]) (fun y hy => hx y (List.mem_cons_of_mem _ hy)) (by simpa using hl) (by simp; omega)
    rw [← shift_mid] at ih
    have h1 : (k0 : Int) < (x.length : Int) := by omega
    have hal : acc.length + 1 ≤ 140737488355328 / 8 := by simp at hl; omega
    refine Ev.succ ?_
    simp only [f_spec_voPlace_0, lt_mid, ge_mid, decide_true, if_true, Int.toNat_natCast, getD_mid, List.length_singleton, hal, h1, Int.natCast_nonneg]
    rw [next_mid pre x r (by omega)]
    refine ih.congr ?_
    simp [colOf]
theorem e_spec_voPlace (R : List (List Int)) (n k0 : Nat) (hk : k0 < n) (hR : ∀ x ∈ R, x.length = n) (hl : R.length ≤ 1000) : Ev (fun k => f_spec_voPlace k R (k0 : Int)) (colOf R k0) := by
  refine Ev.succ ?_
  simp only [f_spec_voPlace]
  exact Ev.bind (e_spec_voPlace_0 n k0 hk R [] [] hR (by simpa using hl) (by simp)) (Ev.some _)
theorem e_impl_column_0 (n k0 : Nat) (hk : k0 < n) : ∀ (r pre : List (List Int)) (acc : List Int), (∀ x ∈ r, x.length = n) → (pre ++ r).length ≤ 1000 → acc.length ≤ pre.length → Ev (fun k => f_impl_column_0 k acc (k0 : Int) (pre ++ r) ((pre ++ r).length : Int) (pre.length : Int)) (acc ++ colOf r k0)
  | [], pre, acc, hx, hl, ha => by
    refine Ev.succ ?_
    simp only [f_impl_column_0, nlt_end, decide_false, Bool.false_eq_true, if_false]
    exact Ev.of (by simp [colOf])
  | x :: r, pre, acc, hx, hl, ha => by
    have hxn := hx x (List.mem_cons_self ..)
    have ih := e_impl_column_0 n k0 hk r (pre ++ [x]) (acc ++ [List.getD x k0 0]) (fun y hy => hx y (List.mem_cons_of_mem _ hy)) (by simpa using hl) (by simp; omega)
    rw [← shift_mid] at ih
    have h1 : (k0 : Int) < (x.length : Int) := by omega
    have hal : acc.length + 1 ≤ 140737488355328 / 8 := by simp at hl; omega
    refine Ev.succ ?_
    simp only [f_impl_column_0, lt_mid, ge_mid, decide_true, if_true, Int.toNat_natCast, getD_mid, List.length_singleton, hal, h1, Int.natCast_nonneg]
    rw [next_mid pre x r (by omega)]
    refine ih.congr ?_
    simp [colOf]
theorem e_impl_column (R : List (List Int)) (n k0 : Nat) (hk : k0 < n) (hR : ∀ x ∈ R, x.length = n) (hl : R.length ≤ 1000) : Ev (fun k => f_impl_column k R (k0 : Int)) (colOf R k0) := by
  refine Ev.succ ?_
  simp only [f_impl_column]
  exact Ev.bind (e_impl_column_0 n k0 hk R [] [] hR (by simpa using hl) (by simp)) (Ev.some _)
def votedF (R : List (List Int)) (n : Nat) : List Int := (List.range n).map fun k => mostOf (colOf R k)
theorem votedF_len (R : List (List Int)) (n : Nat) : (votedF R n).length = n := by simp [votedF]
theorem votedF_succ (R : List (List Int)) (n : Nat) : votedF R (n + 1) = votedF R n ++ [mostOf (colOf R n)] := by simp [votedF, List.range_succ]
theorem col_digs {R : List (List Int)} {n k : Nat} (hk : k < n) (hR : ∀ x ∈ R, x.length = n ∧ ∀ y ∈ x, 0 ≤ y ∧ y ≤ 9) : ∀ y ∈ colOf R k, 0 ≤ y ∧ y ≤ 9 := by
  intro y hy
  obtain ⟨x, hx, rfl⟩ := List.mem_map.1 hy
  obtain ⟨h1, h2⟩ := hR x hx
  exact h2 _ (by simp [List.getD, List.getElem?_eq_getElem (show k < x.length by omega)])
theorem col_len (R : List (List Int)) (k : Nat) : (colOf R k).length = R.length := by simp [colOf]
theorem e_spec_voVoted_0 (R : List (List Int)) (n : Nat) (hn : n ≤ 1000) (hR : ∀ x ∈ R, x.length = n ∧ ∀ y ∈ x, 0 ≤ y ∧ y ≤ 9) (hl : R.length ≤ 1000) : ∀ (d i : Nat), i + d = n → Ev (fun k => f_spec_voVoted_0 k (votedF R i) R (n : Int) (i : Int)) (votedF R n)
  | 0, i, h => by
    obtain rfl : i = n := by omega
    refine Ev.succ ?_
    simp only [f_spec_voVoted_0, Int.lt_irrefl, decide_false, Bool.false_eq_true, if_false]
    exact Ev.some _
  | d + 1, i, h => by
    have h1 : (i : Int) < n := by omega
    have h5 : wrap64 ((i : Int) + 1) = ((i + 1 : Nat) : Int) := by rw [w64 (by omega) (by omega)]; omega
    have hal : i + 1 ≤ 140737488355328 / 8 := by omega
    have ih := e_spec_voVoted_0 R n hn hR hl d (i + 1) (by omega)
    rw [votedF_succ] at ih
    refine Ev.succ ?_
    simp only [f_spec_voVoted_0, h1, decide_true, if_true]
    refine Ev.bind (e_spec_voPlace R n i (by omega) (fun x hx => (hR x hx).1) hl) (Ev.bind (e_spec_voMost (colOf R i) (col_digs (by omega) hR) (by rw [col_len]; exact hl)) ?_)
    simp only [List.length_singleton, votedF_len, hal, if_true, h5]
    exact ih
theorem e_spec_voVoted (R : List (List Int)) (n : Nat) (hn : n ≤ 1000) (h0 : 0 < R.length) (hn0 : (List.getD R 0 []).length = n) (hR : ∀ x ∈ R, x.length = n ∧ ∀ y ∈ x, 0 ≤ y ∧ y ≤ 9) (hl : R.length ≤ 1000) : Ev (fun k => f_spec_voVoted k R) (votedF R n) := by
  have h00 : (0 : Int) < (R.length : Int) := by omega
  refine Ev.succ ?_
  simp only [f_spec_voVoted, h00, if_true, Int.toNat_zero, hn0]
  have h8 := e_spec_voVoted_0 R n hn hR hl n 0 (by omega)
  exact Ev.bind h8 (Ev.some _)
theorem e_impl_votedRows_0 (R : List (List Int)) (n : Nat) (hn : n ≤ 1000) (hR : ∀ x ∈ R, x.length = n ∧ ∀ y ∈ x, 0 ≤ y ∧ y ≤ 9) (hl : R.length ≤ 1000) : ∀ (d i : Nat), i + d = n → Ev (fun k => f_impl_votedRows_0 k (votedF R i) R (n : Int) (i : Int)) (votedF R n)
  | 0, i, h => by
    obtain rfl : i = n := by omega
    refine Ev.succ ?_
    simp only [f_impl_votedRows_0, Int.lt_irrefl, decide_false, Bool.false_eq_true, if_false]
    exact Ev.some _
  | d + 1, i, h => by
    have h1 : (i : Int) < n := by omega
    have h5 : wrap64 ((i : Int) + 1) = ((i + 1 : Nat) : Int) := by rw [w64 (by omega) (by omega)]; omega
    have hal : i + 1 ≤ 140737488355328 / 8 := by omega
    have ih := e_impl_votedRows_0 R n hn hR hl d (i + 1) (by omega)
    rw [votedF_succ] at ih
    refine Ev.succ ?_
    simp only [f_impl_votedRows_0, h1, decide_true, if_true]
    refine Ev.bind (e_impl_column R n i (by omega) (fun x hx => (hR x hx).1) hl) (Ev.bind (e_impl_mostVoted (colOf R i) (col_digs (by omega) hR) (by rw [col_len]; exact hl)) ?_)
    simp only [List.length_singleton, votedF_len, hal, if_true, h5]
    exact ih
theorem e_impl_votedRows (R : List (List Int)) (n : Nat) (hn : n ≤ 1000) (h0 : 0 < R.length) (hn0 : (List.getD R 0 []).length = n) (hR : ∀ x ∈ R, x.length = n ∧ ∀ y ∈ x, 0 ≤ y ∧ y ≤ 9) (hl : R.length ≤ 1000) : Ev (fun k => f_impl_votedRows k R) (votedF R n) := by
  have h00 : (0 : Int) < (R.length : Int) := by omega
  refine Ev.succ ?_
  simp only [f_impl_votedRows, h00, if_true, Int.toNat_zero, hn0]
  have h8 := e_impl_votedRows_0 R n hn hR hl n 0 (by omega)
  exact Ev.bind h8 (Ev.some _)
theorem e_spec_l1Same_0 : ∀ (r s pre pre' : List Int), s.length = r.length → pre'.length = pre.length → (pre ++ r).length ≤ 9223372036854775806 → Ev (fun k => f_spec_l1Same_0 k (pre ++ r) (pre' ++ s) ((pre ++ r).length : Int) (pre.length : Int)) (if r = s then LR.go () else LR.ret false)
  | [], s, pre, pre', h, hp, hl => by
    obtain rfl : s = [] := List.eq_nil_of_length_eq_zero h
    refine Ev.succ ?_
    simp only [f_spec_l1Same_0, nlt_end, decide_false, Bool.false_eq_true, if_false, if_true]
    exact Ev.some _
  | x :: r, [], pre, pre', h, hp, hl => by simp at h
  | x :: r, y :: s, pre, pre', h, hp, hl => by
    have ih := e_spec_l1Same_0 r s (pre ++ [x]) (pre' ++ [y]) (by simpa using h) (by simpa using hp) (by simpa using hl)
    have l2 : (pre.length : Int) < ((pre' ++ y :: s).length : Int) := by rw [← hp]; exact lt_mid _ _ _
    have g2 : List.getD (pre' ++ y :: s) pre.length 0 = y := by rw [← hp]; exact getD_mid _ _ _ _
    refine Ev.succ ?_
    simp only [f_spec_l1Same_0, lt_mid, ge_mid, l2, decide_true, if_true, Int.toNat_natCast, getD_mid, g2]
    rw [next_mid pre x r (by omega)]
    rw [← shift_mid, ← shift_mid] at ih
    by_cases hxy : x = y
    · subst hxy
      simp only [ne_eq, not_true_eq_false, decide_false, Bool.false_eq_true, if_false]
      refine ih.congr ?_
      by_cases hrs : r = s <;> simp [hrs]
    · simp only [ne_eq, hxy, not_false_eq_true, decide_true, if_true]
      refine Ev.of ?_
      rw [if_neg (by intro hc; injection hc with h1 h2; exact hxy h1)]
theorem e_spec_l1Same (l m : List Int) (hl : l.length ≤ 9223372036854775806) : Ev (fun k => f_spec_l1Same k l m) (decide (l = m)) := by
  refine Ev.succ ?_
  simp only [f_spec_l1Same]
  by_cases h : l.length = m.length
  · simp only [h, ne_eq, not_true_eq_false, decide_false, Bool.false_eq_true, if_false]
    have h8 := e_spec_l1Same_0 l m [] [] h.symm rfl (by simpa using hl)
    simp only [List.nil_append, List.length_nil, Int.natCast_zero, h] at h8
    refine Ev.bind h8 ?_
    by_cases hlm : l = m
    · rw [if_pos hlm]; simp only [hlm, decide_true]; exact Ev.go (Ev.some _)
    · rw [if_neg hlm]; simp only [hlm, decide_false]; exact Ev.ret (Ev.some _)
  · have h2 : ¬ (l.length : Int) = (m.length : Int) := by omega
    have h3 : ¬ l = m := fun hc => h (by rw [hc])
    simp only [ne_eq, h2, not_false_eq_true, decide_true, if_true, h3, decide_false]
    exact Ev.some _
theorem e_slices_Equal_int_int_0 : ∀ (r s pre pre' : List Int), s.length = r.length → pre'.length = pre.length → (pre ++ r).length ≤ 9223372036854775806 → Ev (fun k => f_slices_Equal_int_int_0 k (pre ++ r) (pre' ++ s) ((pre ++ r).length : Int) (pre.length : Int)) (if r = s then LR.go () else LR.ret false)
  | [], s, pre, pre', h, hp, hl => by
    obtain rfl : s = [] := List.eq_nil_of_length_eq_zero h
    refine Ev.succ ?_
    simp only [f_slices_Equal_int_int_0, nlt_end, decide_false, Bool.false_eq_true, if_false, if_true]
    exact Ev.some _
  | x :: r, [], pre, pre', h, hp, hl => by simp at h
  | x :: r, y :: s, pre, pre', h, hp, hl => by
    have ih := e_slices_Equal_int_int_0 r s (pre ++ [x]) (pre' ++ [y]) (by simpa using h) (by simpa using hp) (by simpa using hl)
    have l2 : (pre.length : Int) < ((pre' ++ y :: s).length : Int) := by rw [← hp]; exact lt_mid _ _ _
    have g2 : List.getD (pre' ++ y :: s) pre.length 0 = y := by rw [← hp]; exact getD_mid _ _ _ _
    refine Ev.succ ?_
    simp only [f_slices_Equal_int_int_0, lt_mid, ge_mid, l2, decide_true, if_true, Int.toNat_natCast, getD_mid, g2]
    rw [next_mid pre x r (by omega)]
    rw [← shift_mid, ← shift_mid] at ih
    by_cases hxy : x = y
    · subst hxy
      simp only [ne_eq, not_true_eq_false, decide_false, Bool.false_eq_true, if_false]
      refine ih.congr ?_
      by_cases hrs : r = s <;> simp [hrs]
    · simp only [ne_eq, hxy, not_false_eq_true, decide_true, if_true]
      refine Ev.of ?_
      rw [if_neg (by intro hc; injection hc with h1 h2; exact hxy h1)]
theorem e_slices_Equal_int_int (l m : List Int) (hl : l.length ≤ 9223372036854775806) : Ev (fun k => f_slices_Equal_int_int k l m) (decide (l = m)) := by
  refine Ev.succ ?_
  simp only [f_slices_Equal_int_int]
  by_cases h : l.length = m.length
  · simp only [h, ne_eq, not_true_eq_false, decide_false, Bool.false_eq_true, if_false]
    have h8 := e_slices_Equal_int_int_0 l m [] [] h.symm rfl (by simpa using hl)
    simp only [List.nil_append, List.length_nil, Int.natCast_zero, h] at h8
    refine Ev.bind h8 ?_
    by_cases hlm : l = m
    · rw [if_pos hlm]; simp only [hlm, decide_true]; exact Ev.go (Ev.some _)
    · rw [if_neg hlm]; simp only [hlm, decide_false]; exact Ev.ret (Ev.some _)
  · have h2 : ¬ (l.length : Int) = (m.length : Int) := by omega
    have h3 : ¬ l = m := fun hc => h (by rw [hc])
    simp only [ne_eq, h2, not_false_eq_true, decide_true, if_true, h3, decide_false]
    exact Ev.some _
def oddB (R : List (List Int)) (v : List Int) (i : Nat) : Bool := !decide (List.getD R i [] = v)
def odds (R : List (List Int)) (v : List Int) (n : Nat) : List Int := ((List.range n).filter (oddB R v)).map fun (i : Nat) => (i : Int)
theorem odds_len (R : List (List Int)) (v : List Int) (n : Nat) : (odds R v n).length ≤ n := by
  unfold odds
  rw [List.length_map]
  exact Nat.le_trans (List.length_filter_le _ _) (by simp)
theorem odds_succ (R : List (List Int)) (v : List Int) (n : Nat) : odds R v (n + 1) = odds R v n ++ (if oddB R v n = true then [(n : Int)] else []) := by
  unfold odds
  rw [List.range_succ, List.filter_append, List.map_append]
  congr 1
  cases h : oddB R v n <;> simp [List.filter, h]
theorem e_spec_SuspectCopies_0 (R : List (List Int)) (v : List Int) (hl : R.length ≤ 1000) (hR : ∀ x ∈ R, x.length ≤ 1000) : ∀ (d i : Nat), i + d = R.length → Ev (fun k => f_spec_SuspectCopies_0 k v (odds R v i) R (R.length : Int) (i : Int)) (odds R v R.length)
  | 0, i, h => by
    obtain rfl : i = R.length := by omega
    refine Ev.succ ?_
    simp only [f_spec_SuspectCopies_0, Int.lt_irrefl, decide_false, Bool.false_eq_true, if_false]
    exact Ev.some _
  | d + 1, i, h => by
    have h1 : (i : Int) < (R.length : Int) := by omega
    have h5 : wrap64 ((i : Int) + 1) = ((i + 1 : Nat) : Int) := by rw [w64 (by omega) (by omega)]; omega
    have hll := odds_len R v i
    have hal : (odds R v i).length + 1 ≤ 140737488355328 / 8 := by omega
    have hm : List.getD R i [] ∈ R := by simp [List.getD, List.getElem?_eq_getElem (show i < R.length by omega)]
    have hx := hR _ hm
    have ih := e_spec_SuspectCopies_0 R v hl hR d (i + 1) (by omega)
    rw [odds_succ] at ih
    refine Ev.succ ?_
    simp only [f_spec_SuspectCopies_0, h1, decide_true, if_true, Int.natCast_nonneg, Int.toNat_natCast, List.length_singleton, hal, h5]
    refine Ev.bind (e_spec_l1Same _ _ (by omega)) (Ev.ite (fun hh => ?_) (fun hh => ?_))
    · have hh : oddB R v i = true := hh
      rw [if_pos hh] at ih; exact ih
    · have hh : ¬ oddB R v i = true := hh
      rw [if_neg hh, List.append_nil] at ih; exact ih
theorem e_impl_SuspectCopies_0 (R : List (List Int)) (v : List Int) (hl : R.length ≤ 1000) (hR : ∀ x ∈ R, x.length ≤ 1000) : ∀ (d i : Nat), i + d = R.length → Ev (fun k => f_impl_SuspectCopies_0 k v (odds R v i) R (R.length : Int) (i : Int)) (odds R v R.length)
  | 0, i, h => by
    obtain rfl : i = R.length := by omega
    refine Ev.succ ?_
    simp only [f_impl_SuspectCopies_0, Int.lt_irrefl, decide_false, Bool.false_eq_true, if_false]
    exact Ev.some _
  | d + 1, i, h => by
    have h1 : (i : Int) < (R.length : Int) := by omega
    have h5 : wrap64 ((i : Int) + 1) = ((i + 1 : Nat) : Int) := by rw [w64 (by omega) (by omega)]; omega
    have hll := odds_len R v i
    have hal : (odds R v i).length + 1 ≤ 140737488355328 / 8 := by omega
    have hm : List.getD R i [] ∈ R := by simp [List.getD, List.getElem?_eq_getElem (show i < R.length by omega)]
    have hx := hR _ hm
    have ih := e_impl_SuspectCopies_0 R v hl hR d (i + 1) (by omega)
    rw [odds_succ] at ih
    refine Ev.succ ?_
    simp only [f_impl_SuspectCopies_0, h1, decide_true, if_true, Int.natCast_nonneg, Int.toNat_natCast, List.length_singleton, hal, h5]
    refine Ev.bind (e_slices_Equal_int_int _ _ (by omega)) (Ev.ite (fun hh => ?_) (fun hh => ?_))
    · have hh : oddB R v i = true := hh
      rw [if_pos hh] at ih; exact ih
    · have hh : ¬ oddB R v i = true := hh
      rw [if_neg hh, List.append_nil] at ih; exact ih
def r_VotedRows (R : List (List Int)) : List Int × Bool := if rowsOK R then (votedF R (List.getD R 0 []).length, true) else ([], false)
theorem e_spec_VotedRows (R : List (List Int)) (h0 : R.length ≤ 9223372036854775806) (hx : ∀ x ∈ R, x.length ≤ 9223372036854775806) : Ev (fun k => f_spec_VotedRows k R) (r_VotedRows R) := by
  refine Ev.succ ?_
  simp only [f_spec_VotedRows]
  unfold r_VotedRows
  refine Ev.bind (a := rowsOK R) (e_spec_voRows R hx h0) ?_
  cases g0 : rowsOK R with
  | false => simp only [Bool.not_false, if_true, Bool.false_eq_true, if_false, Bool.false_and, Bool.and_false]; exact Ev.some _
  | true =>
    simp only [Bool.not_true, Bool.false_eq_true, if_false, if_true, Bool.and_self]
    obtain ⟨k1, k2, k3, k4⟩ := rows_ok g0
    exact Ev.bind (e_spec_voVoted R _ (by omega) k1 rfl k4 (by omega)) (Ev.some _)
theorem e_impl_VotedRows (R : List (List Int)) (h0 : R.length ≤ 9223372036854775806) (hx : ∀ x ∈ R, x.length ≤ 9223372036854775806) : Ev (fun k => f_impl_VotedRows k R) (r_VotedRows R) := by
  refine Ev.succ ?_
  simp only [f_impl_VotedRows]
  unfold r_VotedRows
  refine Ev.bind (a := rowsOK R) (e_impl_areRows R hx h0) ?_
  cases g0 : rowsOK R with
  | false => simp only [Bool.not_false, if_true, Bool.false_eq_true, if_false, Bool.false_and, Bool.and_false]; exact Ev.some _
  | true =>
    simp only [Bool.not_true, Bool.false_eq_true, if_false, if_true, Bool.and_self]
    obtain ⟨k1, k2, k3, k4⟩ := rows_ok g0
    exact Ev.bind (e_impl_votedRows R _ (by omega) k1 rfl k4 (by omega)) (Ev.some _)
def r_SuspectCopies (R : List (List Int)) : List Int × Bool := if rowsOK R then (odds R (votedF R (List.getD R 0 []).length) R.length, true) else ([], false)
theorem e_spec_SuspectCopies (R : List (List Int)) (h0 : R.length ≤ 9223372036854775806) (hx : ∀ x ∈ R, x.length ≤ 9223372036854775806) : Ev (fun k => f_spec_SuspectCopies k R) (r_SuspectCopies R) := by
  refine Ev.succ ?_
  simp only [f_spec_SuspectCopies]
  unfold r_SuspectCopies
  refine Ev.bind (a := rowsOK R) (e_spec_voRows R hx h0) ?_
  cases g0 : rowsOK R with
  | false => simp only [Bool.not_false, if_true, Bool.false_eq_true, if_false, Bool.false_and, Bool.and_false]; exact Ev.some _
  | true =>
    simp only [Bool.not_true, Bool.false_eq_true, if_false, if_true, Bool.and_self]
    obtain ⟨k1, k2, k3, k4⟩ := rows_ok g0
    exact Ev.bind (e_spec_voVoted R _ (by omega) k1 rfl k4 (by omega)) (Ev.bind (e_spec_SuspectCopies_0 R _ (by omega) (fun x hx => by have := (k4 x hx).1; omega) R.length 0 (by omega)) (Ev.some _))
theorem e_impl_SuspectCopies (R : List (List Int)) (h0 : R.length ≤ 9223372036854775806) (hx : ∀ x ∈ R, x.length ≤ 9223372036854775806) : Ev (fun k => f_impl_SuspectCopies k R) (r_SuspectCopies R) := by
  refine Ev.succ ?_
  simp only [f_impl_SuspectCopies]
  unfold r_SuspectCopies
  refine Ev.bind (a := rowsOK R) (e_impl_areRows R hx h0) ?_
  cases g0 : rowsOK R with
  | false => simp only [Bool.not_false, if_true, Bool.false_eq_true, if_false, Bool.false_and, Bool.and_false]; exact Ev.some _
  | true =>
    simp only [Bool.not_true, Bool.false_eq_true, if_false, if_true, Bool.and_self]
    obtain ⟨k1, k2, k3, k4⟩ := rows_ok g0
    exact Ev.bind (e_impl_votedRows R _ (by omega) k1 rfl k4 (by omega)) (Ev.bind (e_impl_SuspectCopies_0 R _ (by omega) (fun x hx => by have := (k4 x hx).1; omega) R.length 0 (by omega)) (Ev.some _))
theorem r_VotedRows_len (R : List (List Int)) : (r_VotedRows R).1.length ≤ 40 := by
  unfold r_VotedRows
  split
  · rename_i h
    rw [votedF_len]
    exact (rows_ok h).2.2.1
  · simp
theorem r_SuspectCopies_len (R : List (List Int)) : (r_SuspectCopies R).1.length ≤ 9 := by
  unfold r_SuspectCopies
  split
  · rename_i h
    exact Nat.le_trans (odds_len _ _ _) (rows_ok h).2.1
  · simp
theorem law_FnExactVotedRows (p0 : List (List Int)) (h0 : p0.length ≤ 9223372036854775807) (g0 : ∀ x ∈ p0, x.length ≤ 9223372036854775807) : Ev (fun k => f_laws_FnExactVotedRows k p0) true := by
  refine Ev.succ ?_
  simp only [f_laws_FnExactVotedRows]
  refine Ev.bind (e_laws_szIntSS _ _ (by omega) (by omega) (by omega) g0) ?_
  by_cases q1 : (1048576 : Int) - (p0.length : Int) < 0
  · simp only [q1, if_true]; exact Ev.some _
  simp only [q1, if_false]
  by_cases r1 : (1048576 : Int) - (p0.length : Int) - szRows p0 < 0
  · simp only [r1, if_true]; exact Ev.some _
  simp only [r1, if_false, decide_false, Bool.false_eq_true]
  have y0 := szRows_nonneg p0
  have u0 : ∀ x ∈ p0, x.length ≤ 1048576 := fun x hx => by have := szRows_mem hx; omega
  have v0 : ∀ x ∈ p0, x.length ≤ 9223372036854775806 := fun x hxl => by have := u0 x hxl; omega
  have es := e_spec_VotedRows p0 (by omega) (by assumption)
  have ei := e_impl_VotedRows p0 (by omega) (by assumption)
  have hr := r_VotedRows_len p0
  generalize r_VotedRows p0 = R at es ei hr
  refine Ev.bind (e_laws_toIntSS _ (by first | omega | (dsimp only; omega)) (by assumption)) ?_
  refine Ev.bind es ?_
  refine Ev.bind (e_laws_toIntSS _ (by first | omega | (dsimp only; omega)) (by assumption)) ?_
  refine Ev.bind ei ?_
  refine Ev.bind (e_laws_eqIntS _ _ (by first | omega | (dsimp only; omega))) ?_
  simp only [decide_true, beq_self_eq_true, ne_eq, not_true_eq_false, decide_false, Bool.not_true, Bool.false_eq_true, if_false]
  refine Ev.bind (e_laws_toIntSS _ (by first | omega | (dsimp only; omega)) (by assumption)) ?_
  refine Ev.bind (e_laws_eqIntSS _ _ (by first | omega | (dsimp only; omega)) (by assumption)) ?_
  simp only [decide_true, beq_self_eq_true, ne_eq, not_true_eq_false, decide_false, Bool.not_true, Bool.false_eq_true, if_false]
  refine Ev.bind (e_laws_markIntSS _ _ (by first | omega | (dsimp only; omega)) (by first | omega | (dsimp only; omega)) (by first | omega | (dsimp only; omega))) ?_
  try dsimp only
  refine Ev.ite (fun h => by simp only [decide_eq_true_eq] at h; omega) (fun h => ?_)
  refine Ev.bind (e_laws_eqIntS _ _ (by first | omega | (dsimp only; omega))) ?_
  simp only [decide_true, beq_self_eq_true, ne_eq, not_true_eq_false, decide_false, Bool.not_true, Bool.false_eq_true, if_false]
  refine Ev.bind (e_laws_markIntS _ _ (by first | omega | (dsimp only; omega)) (by first | omega | (dsimp only; omega))) ?_
  try dsimp only
  refine Ev.bind (e_laws_heldIntS _ _ (by first | omega | (dsimp only; omega)) (by first | omega | (dsimp only; omega))) ?_
  try dsimp only
  refine Ev.ite (fun h => by simp only [decide_eq_true_eq] at h; omega) (fun h => ?_)
  simp only [decide_true, beq_self_eq_true, ne_eq, not_true_eq_false, decide_false, Bool.not_true, Bool.false_eq_true, if_false]
  refine Ev.bind (e_laws_toIntSS _ (by first | omega | (dsimp only; omega)) (by assumption)) ?_
  refine Ev.bind ei ?_
  refine Ev.bind (e_laws_eqIntS _ _ (by first | omega | (dsimp only; omega))) ?_
  simp only [decide_true, beq_self_eq_true, ne_eq, not_true_eq_false, decide_false, Bool.not_true, Bool.false_eq_true, if_false]
  refine Ev.bind (e_laws_heldIntS _ _ (by first | omega | (dsimp only; omega)) (by first | omega | (dsimp only; omega))) ?_
  try dsimp only
  refine Ev.ite (fun h => by simp only [decide_eq_true_eq] at h; omega) (fun h => ?_)
  simp only [decide_true, beq_self_eq_true, ne_eq, not_true_eq_false, decide_false, Bool.not_true, Bool.false_eq_true, if_false]
  exact Ev.some _
theorem law_FnExactSuspectCopies (p0 : List (List Int)) (h0 : p0.length ≤ 9223372036854775807) (g0 : ∀ x ∈ p0, x.length ≤ 9223372036854775807) : Ev (fun k => f_laws_FnExactSuspectCopies k p0) true := by
  refine Ev.succ ?_
  simp only [f_laws_FnExactSuspectCopies]
  refine Ev.bind (e_laws_szIntSS _ _ (by omega) (by omega) (by omega) g0) ?_
  by_cases q1 : (1048576 : Int) - (p0.length : Int) < 0
  · simp only [q1, if_true]; exact Ev.some _
  simp only [q1, if_false]
  by_cases r1 : (1048576 : Int) - (p0.length : Int) - szRows p0 < 0
  · simp only [r1, if_true]; exact Ev.some _
  simp only [r1, if_false, decide_false, Bool.false_eq_true]
  have y0 := szRows_nonneg p0
  have u0 : ∀ x ∈ p0, x.length ≤ 1048576 := fun x hx => by have := szRows_mem hx; omega
  have v0 : ∀ x ∈ p0, x.length ≤ 9223372036854775806 := fun x hxl => by have := u0 x hxl; omega
  have es := e_spec_SuspectCopies p0 (by omega) (by assumption)
  have ei := e_impl_SuspectCopies p0 (by omega) (by assumption)
  have hr := r_SuspectCopies_len p0
  generalize r_SuspectCopies p0 = R at es ei hr
  refine Ev.bind (e_laws_toIntSS _ (by first | omega | (dsimp only; omega)) (by assumption)) ?_
  refine Ev.bind es ?_
  refine Ev.bind (e_laws_toIntSS _ (by first | omega | (dsimp only; omega)) (by assumption)) ?_
  refine Ev.bind ei ?_
  refine Ev.bind (e_laws_eqIntS _ _ (by first | omega | (dsimp only; omega))) ?_
  simp only [decide_true, beq_self_eq_true, ne_eq, not_true_eq_false, decide_false, Bool.not_true, Bool.false_eq_true, if_false]
  refine Ev.bind (e_laws_toIntSS _ (by first | omega | (dsimp only; omega)) (by assumption)) ?_
  refine Ev.bind (e_laws_eqIntSS _ _ (by first | omega | (dsimp only; omega)) (by assumption)) ?_
  simp only [decide_true, beq_self_eq_true, ne_eq, not_true_eq_false, decide_false, Bool.not_true, Bool.false_eq_true, if_false]
  refine Ev.bind (e_laws_markIntSS _ _ (by first | omega | (dsimp only; omega)) (by first | omega | (dsimp only; omega)) (by first | omega | (dsimp only; omega))) ?_
  try dsimp only
  refine Ev.ite (fun h => by simp only [decide_eq_true_eq] at h; omega) (fun h => ?_)
  refine Ev.bind (e_laws_eqIntS _ _ (by first | omega | (dsimp only; omega))) ?_
  simp only [decide_true, beq_self_eq_true, ne_eq, not_true_eq_false, decide_false, Bool.not_true, Bool.false_eq_true, if_false]
  refine Ev.bind (e_laws_markIntS _ _ (by first | omega | (dsimp only; omega)) (by first | omega | (dsimp only; omega))) ?_
  try dsimp only
  refine Ev.bind (e_laws_heldIntS _ _ (by first | omega | (dsimp only; omega)) (by first | omega | (dsimp only; omega))) ?_
  try dsimp only
  refine Ev.ite (fun h => by simp only [decide_eq_true_eq] at h; omega) (fun h => ?_)
  simp only [decide_true, beq_self_eq_true, ne_eq, not_true_eq_false, decide_false, Bool.not_true, Bool.false_eq_true, if_false]
  refine Ev.bind (e_laws_toIntSS _ (by first | omega | (dsimp only; omega)) (by assumption)) ?_
  refine Ev.bind ei ?_
  refine Ev.bind (e_laws_eqIntS _ _ (by first | omega | (dsimp only; omega))) ?_
  simp only [decide_true, beq_self_eq_true, ne_eq, not_true_eq_false, decide_false, Bool.not_true, Bool.false_eq_true, if_false]
  refine Ev.bind (e_laws_heldIntS _ _ (by first | omega | (dsimp only; omega)) (by first | omega | (dsimp only; omega))) ?_
  try dsimp only
  refine Ev.ite (fun h => by simp only [decide_eq_true_eq] at h; omega) (fun h => ?_)
  simp only [decide_true, beq_self_eq_true, ne_eq, not_true_eq_false, decide_false, Bool.not_true, Bool.false_eq_true, if_false]
  exact Ev.some _
end Go.Proofs.Ytcmndffpmjinlaa.Vs
