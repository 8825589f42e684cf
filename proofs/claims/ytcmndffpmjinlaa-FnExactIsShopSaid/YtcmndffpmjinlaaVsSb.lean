/- The law on shops holds for all arguments. -/
import Derived.Test.YtcmndffpmjinlaaVsSa
set_option linter.unusedVariables false
set_option linter.unusedSimpArgs false
namespace Go.Proofs.Ytcmndffpmjinlaa.Vs
open Go.RowKit
abbrev LoanD := Int × Int × Int × Int
abbrev ShopD := List Int × List LoanD
theorem e_spec_l1In (a b c : Int) : Ev (fun k => f_spec_l1In k a b c) (decide (b ≤ a ∧ a ≤ c)) := by
  refine Ev.succ ?_
  simp only [f_spec_l1In]
  refine Ev.of ?_
  by_cases h1 : b ≤ a <;> by_cases h2 : a ≤ c <;> simp [h1, h2]
theorem e_spec_l1All_0 (lo hi : Int) : ∀ (r pre : List Int), (pre ++ r).length ≤ 9223372036854775806 → Ev (fun k => f_spec_l1All_0 k lo hi (pre ++ r) ((pre ++ r).length : Int) (pre.length : Int)) (if r.all (fun n => decide (lo ≤ n ∧ n ≤ hi)) then LR.go () else LR.ret false)
  | [], pre, hl => by
    refine Ev.succ ?_
    simp only [f_spec_l1All_0, nlt_end, decide_false, Bool.false_eq_true, if_false, List.all_nil, if_true]
    exact Ev.some _
  | x :: r, pre, hl => by
    have ih := e_spec_l1All_0 lo hi r (pre ++ [x]) (by simpa using hl)
    refine Ev.succ ?_
    simp only [f_spec_l1All_0, lt_mid, ge_mid, decide_true, if_true, Int.toNat_natCast, getD_mid]
    rw [next_mid pre x r (by omega)]
    rw [← shift_mid] at ih
    refine Ev.bind (e_spec_l1In x lo hi) ?_
    by_cases hx : lo ≤ x ∧ x ≤ hi
    · simp only [hx, and_self, List.all_cons, decide_true, Bool.true_and, Bool.not_true, Bool.false_eq_true, if_false]; exact ih
    · simp only [hx, List.all_cons, decide_false, Bool.false_and, Bool.not_false, if_true, Bool.false_eq_true, if_false]; exact Ev.some _
theorem e_spec_l1All (l : List Int) (lo hi : Int) (hl : l.length ≤ 9223372036854775806) : Ev (fun k => f_spec_l1All k l lo hi) (l.all fun n => decide (lo ≤ n ∧ n ≤ hi)) := by
  refine Ev.succ ?_
  simp only [f_spec_l1All]
  refine Ev.bind (e_spec_l1All_0 lo hi l [] (by simpa using hl)) ?_
  cases hx : l.all fun n => decide (lo ≤ n ∧ n ≤ hi) with
  | true => simp only [if_true]; exact Ev.go (Ev.some _)
  | false => simp only [Bool.false_eq_true, if_false]; exact Ev.ret (Ev.some _)

/-! ### Loans -/
def loanOK (x : LoanD) : Bool := decide (1 ≤ x.1 ∧ x.1 ≤ 99 ∧ 1 ≤ x.2.1 ∧ x.2.1 ≤ 7 ∧ 1 ≤ x.2.2.1 ∧ x.2.2.1 ≤ 99 ∧ 0 ≤ x.2.2.2 ∧ x.2.2.2 ≤ 999)
def sameL (y x : LoanD) : Bool := decide (y.1 = x.1 ∧ y.2.1 = x.2.1 ∧ y.2.2.2 = x.2.2.2)
def firstSame (x : LoanD) : Int → List LoanD → Int
  | _, [] => -1
  | i, y :: r => if sameL y x then i else firstSame x (i + 1) r
def loansOK : List LoanD → List LoanD → Bool
  | _, [] => true
  | pre, x :: r => loanOK x && decide (firstSame x 0 pre < 0) && loansOK (pre ++ [x]) r
def shopOK (s : ShopD) : Bool := decide (s.1.length = 8 ∧ List.getD s.1 0 0 = 0 ∧ s.2.length ≤ 20) && s.1.all (fun n => decide (0 ≤ n ∧ n ≤ 999)) && loansOK [] s.2
theorem firstSame_range (x : LoanD) : ∀ (l : List LoanD) (i : Int), 0 ≤ i → firstSame x i l = -1 ∨ (i ≤ firstSame x i l ∧ firstSame x i l < i + l.length)
  | [], i, hi => .inl rfl
  | y :: r, i, hi => by
    simp only [firstSame, List.length_cons]
    split
    · right; omega
    · rcases firstSame_range x r (i + 1) (by omega) with h | h
      · exact .inl h
      · right; omega
theorem firstSame_mid (x : LoanD) (r : List LoanD) : ∀ (pre : List LoanD) (i : Int), 0 ≤ i → (firstSame x i (pre ++ x :: r) = i + pre.length ↔ firstSame x i pre < 0)
  | [], i, hi => by simp [firstSame, sameL]
  | y :: pre, i, hi => by
    simp only [List.cons_append, firstSame, List.length_cons]
    split
    · constructor <;> intro h <;> omega
    · have := firstSame_mid x r pre (i + 1) (by omega)
      constructor
      · intro h; exact this.1 (by omega)
      · intro h; have := this.2 h; omega
theorem e_impl_isDay (n : Int) : Ev (fun k => f_impl_isDay k n) (decide (0 ≤ n ∧ n ≤ 999)) := by
  refine Ev.succ ?_
  simp only [f_impl_isDay]
  refine Ev.of ?_
  by_cases h1 : 0 ≤ n <;> by_cases h2 : n ≤ 999 <;> simp [h1, h2]
theorem e_impl_isLoan (x : LoanD) : Ev (fun k => f_impl_isLoan k x) (loanOK x) := by
  refine Ev.succ ?_
  simp only [f_impl_isLoan, ge_iff_le]
  have no : ∀ {c : Prop}, ¬ c → (loanOK x = true → c) → Option.some false = Option.some (loanOK x) := by
    intro c h1 h2
    cases hb : loanOK x with
    | true => exact absurd (h2 hb) h1
    | false => rfl
  have hb : loanOK x = true → 1 ≤ x.1 ∧ x.1 ≤ 99 ∧ 1 ≤ x.2.1 ∧ x.2.1 ≤ 7 ∧ 1 ≤ x.2.2.1 ∧ x.2.2.1 ≤ 99 ∧ 0 ≤ x.2.2.2 ∧ x.2.2.2 ≤ 999 := fun h => by unfold loanOK at h; simpa using h
  refine Ev.ite (fun h1 => ?_) (fun h => Ev.of (no h (fun hh => decide_eq_true (hb hh).1)))
  refine Ev.ite (fun h2 => ?_) (fun h => Ev.of (no h (fun hh => decide_eq_true (hb hh).2.1)))
  refine Ev.ite (fun h3 => ?_) (fun h => Ev.of (no h (fun hh => decide_eq_true (hb hh).2.2.1)))
  refine Ev.ite (fun h4 => ?_) (fun h => Ev.of (no h (fun hh => decide_eq_true (hb hh).2.2.2.1)))
  refine Ev.ite (fun h5 => ?_) (fun h => Ev.of (no h (fun hh => decide_eq_true (hb hh).2.2.2.2.1)))
  refine Ev.ite (fun h6 => ?_) (fun h => Ev.of (no h (fun hh => decide_eq_true (hb hh).2.2.2.2.2.1)))
  simp only [decide_eq_true_eq] at h1 h2 h3 h4 h5 h6
  refine Ev.bind (e_impl_isDay _) (Ev.of ?_)
  congr 1
  unfold loanOK
  apply decide_eq_decide.2
  omega
theorem e_spec_psLoan (x : LoanD) : Ev (fun k => f_spec_psLoan k x) (loanOK x) := by
  refine Ev.succ ?_
  simp only [f_spec_psLoan]
  have no : ∀ {c : Prop}, ¬ c → (loanOK x = true → c) → Option.some false = Option.some (loanOK x) := by
    intro c h1 h2
    cases hb : loanOK x with
    | true => exact absurd (h2 hb) h1
    | false => rfl
  have hb : loanOK x = true → 1 ≤ x.1 ∧ x.1 ≤ 99 ∧ 1 ≤ x.2.1 ∧ x.2.1 ≤ 7 ∧ 1 ≤ x.2.2.1 ∧ x.2.2.1 ≤ 99 ∧ 0 ≤ x.2.2.2 ∧ x.2.2.2 ≤ 999 := fun h => by unfold loanOK at h; simpa using h
  refine Ev.bind (e_spec_l1In _ _ _) (Ev.ite (fun h1 => ?_) (fun h => Ev.of (no h (fun hh => decide_eq_true ⟨(hb hh).1, (hb hh).2.1⟩))))
  refine Ev.bind (e_spec_l1In _ _ _) (Ev.ite (fun h2 => ?_) (fun h => Ev.of (no h (fun hh => decide_eq_true ⟨(hb hh).2.2.1, (hb hh).2.2.2.1⟩))))
  refine Ev.bind (e_spec_l1In _ _ _) (Ev.ite (fun h3 => ?_) (fun h => Ev.of (no h (fun hh => decide_eq_true ⟨(hb hh).2.2.2.2.1, (hb hh).2.2.2.2.2.1⟩))))
  simp only [decide_eq_true_eq] at h1 h2 h3
  refine Ev.bind (e_spec_l1In _ _ _) (Ev.of ?_)
  congr 1
  unfold loanOK
  apply decide_eq_decide.2
  omega
theorem e_impl_sameLoan_0 (x : LoanD) : ∀ (r pre : List LoanD), (pre ++ r).length ≤ 9223372036854775806 → Ev (fun k => f_impl_sameLoan_0 k x.1 x.2.1 x.2.2.1 x.2.2.2 (pre ++ r) ((pre ++ r).length : Int) (pre.length : Int)) (if firstSame x pre.length r < 0 then LR.go () else LR.ret (firstSame x pre.length r))
  | [], pre, hl => by
    refine Ev.succ ?_
    simp only [f_impl_sameLoan_0, nlt_end, decide_false, Bool.false_eq_true, if_false]
    rw [if_pos (show firstSame x pre.length [] < 0 by show (-1 : Int) < 0; omega)]
    exact Ev.some _
  | y :: r, pre, hl => by
    have ih := e_impl_sameLoan_0 x r (pre ++ [y]) (by simpa using hl)
    have hn := next_mid pre y r (by omega)
    refine Ev.succ ?_
    simp only [f_impl_sameLoan_0, lt_mid, ge_mid, decide_true, if_true, Int.toNat_natCast, getD_mid, hn]
    have hc : ((pre ++ [y]).length : Int) = (pre.length : Int) + 1 := by simp
    rw [← shift_mid] at ih
    rw [hc] at ih ⊢
    by_cases hs : sameL y x = true
    · have h3 : y.1 = x.1 ∧ y.2.1 = x.2.1 ∧ y.2.2.2 = x.2.2.2 := by unfold sameL at hs; simpa using hs
      have hf : firstSame x pre.length (y :: r) = pre.length := by simp only [firstSame, hs, if_true]
      rw [hf, if_neg (by omega)]
      simp only [h3.1, h3.2.1, h3.2.2, decide_true, if_true]
      exact Ev.some _
    · have hf : firstSame x pre.length (y :: r) = firstSame x (pre.length + 1) r := by simp only [firstSame, hs, Bool.false_eq_true, if_false]
      rw [hf]
      have h3 : ¬ (y.1 = x.1 ∧ y.2.1 = x.2.1 ∧ y.2.2.2 = x.2.2.2) := fun hc => hs (by unfold sameL; simpa using hc)
      refine Ev.ite (fun g1 => Ev.ite (fun g2 => Ev.ite (fun g3 => ?_) (fun _ => ih)) (fun _ => ih)) (fun _ => ih)
      simp only [decide_eq_true_eq] at g1 g2 g3
      exact absurd ⟨g1.symm, g2.symm, g3.symm⟩ h3
theorem e_impl_sameLoan (l : List LoanD) (x : LoanD) (hl : l.length ≤ 9223372036854775806) : Ev (fun k => f_impl_sameLoan k l x) (firstSame x 0 l) := by
  refine Ev.succ ?_
  simp only [f_impl_sameLoan]
  refine Ev.bind (e_impl_sameLoan_0 x l [] (by simpa using hl)) ?_
  rcases firstSame_range x l 0 (by omega) with h | h
  · have : firstSame x (([] : List LoanD).length : Int) l = -1 := h
    rw [this, if_pos (by omega)]
    exact Ev.go (Ev.of (by rw [h]))
  · rw [if_neg (by simp only [List.length_nil, Int.natCast_zero]; omega)]
    exact Ev.ret (Ev.of rfl)
theorem e_spec_psSame_0 (x : LoanD) : ∀ (r pre : List LoanD), (pre ++ r).length ≤ 9223372036854775806 → Ev (fun k => f_spec_psSame_0 k x.1 x.2.1 x.2.2.1 x.2.2.2 (pre ++ r) ((pre ++ r).length : Int) (pre.length : Int)) (if firstSame x pre.length r < 0 then LR.go () else LR.ret (firstSame x pre.length r))
  | [], pre, hl => by
    refine Ev.succ ?_
    simp only [f_spec_psSame_0, nlt_end, decide_false, Bool.false_eq_true, if_false]
    rw [if_pos (show firstSame x pre.length [] < 0 by show (-1 : Int) < 0; omega)]
    exact Ev.some _
  | y :: r, pre, hl => by
    have ih := e_spec_psSame_0 x r (pre ++ [y]) (by simpa using hl)
    have hn := next_mid pre y r (by omega)
    refine Ev.succ ?_
    simp only [f_spec_psSame_0, lt_mid, ge_mid, decide_true, if_true, Int.toNat_natCast, getD_mid, hn]
    have hc : ((pre ++ [y]).length : Int) = (pre.length : Int) + 1 := by simp
    rw [← shift_mid] at ih
    rw [hc] at ih ⊢
    by_cases hs : sameL y x = true
    · have h3 : y.1 = x.1 ∧ y.2.1 = x.2.1 ∧ y.2.2.2 = x.2.2.2 := by unfold sameL at hs; simpa using hs
      have hf : firstSame x pre.length (y :: r) = pre.length := by simp only [firstSame, hs, if_true]
      rw [hf, if_neg (by omega)]
      simp only [h3.1, h3.2.1, h3.2.2, decide_true, if_true]
      exact Ev.some _
    · have hf : firstSame x pre.length (y :: r) = firstSame x (pre.length + 1) r := by simp only [firstSame, hs, Bool.false_eq_true, if_false]
      rw [hf]
      have h3 : ¬ (y.1 = x.1 ∧ y.2.1 = x.2.1 ∧ y.2.2.2 = x.2.2.2) := fun hc => hs (by unfold sameL; simpa using hc)
      refine Ev.ite (fun g1 => Ev.ite (fun g2 => Ev.ite (fun g3 => ?_) (fun _ => ih)) (fun _ => ih)) (fun _ => ih)
      simp only [decide_eq_true_eq] at g1 g2 g3
      exact absurd ⟨g1, g2, g3⟩ h3
theorem e_spec_psSame (s : ShopD) (x : LoanD) (hl : s.2.length ≤ 9223372036854775806) : Ev (fun k => f_spec_psSame k s x) (firstSame x 0 s.2) := by
  refine Ev.succ ?_
  simp only [f_spec_psSame]
  refine Ev.bind (e_spec_psSame_0 x s.2 [] (by simpa using hl)) ?_
  rcases firstSame_range x s.2 0 (by omega) with h | h
  · have : firstSame x (([] : List LoanD).length : Int) s.2 = -1 := h
    rw [this, if_pos (by omega)]
    exact Ev.go (Ev.of (by rw [h]))
  · rw [if_neg (by simp only [List.length_nil, Int.natCast_zero]; omega)]
    exact Ev.ret (Ev.of rfl)
/-! ### Shops -/
theorem e_impl_IsShop_0 (a : List Int) (c : List LoanD) : ∀ (r pre : List Int), (pre ++ r).length ≤ 9223372036854775806 → Ev (fun k => f_impl_IsShop_0 k a c (pre ++ r) ((pre ++ r).length : Int) (pre.length : Int)) (if r.all (fun n => decide (0 ≤ n ∧ n ≤ 999)) then LR.go (a, c) else LR.ret false)
  | [], pre, hl => by
    refine Ev.succ ?_
    simp only [f_impl_IsShop_0, nlt_end, decide_false, Bool.false_eq_true, if_false, List.all_nil, if_true]
    exact Ev.some _
  | x :: r, pre, hl => by
    have ih := e_impl_IsShop_0 a c r (pre ++ [x]) (by simpa using hl)
    refine Ev.succ ?_
    simp only [f_impl_IsShop_0, lt_mid, ge_mid, decide_true, if_true, Int.toNat_natCast, getD_mid]
    rw [next_mid pre x r (by omega)]
    rw [← shift_mid] at ih
    refine Ev.ite (fun h => ?_) (fun h => Ev.ite (fun h2 => ?_) (fun h2 => ?_))
    · simp only [decide_eq_true_eq] at h
      have hx : ¬ (0 ≤ x ∧ x ≤ 999) := by omega
      simp only [hx, List.all_cons, decide_false, Bool.false_and, Bool.false_eq_true, if_false]; exact Ev.some _
    · simp only [decide_eq_true_eq] at h2
      have hx : ¬ (0 ≤ x ∧ x ≤ 999) := by omega
      simp only [hx, List.all_cons, decide_false, Bool.false_and, Bool.false_eq_true, if_false]; exact Ev.some _
    · simp only [decide_eq_true_eq] at h h2
      have hx : 0 ≤ x ∧ x ≤ 999 := by omega
      simp only [hx, and_self, List.all_cons, decide_true, Bool.true_and]; exact ih
theorem e_impl_IsShop_2 (a : List Int) : ∀ (r pre : List LoanD), (pre ++ r).length ≤ 9223372036854775806 → Ev (fun k => f_impl_IsShop_2 k a (pre ++ r) (pre ++ r) ((pre ++ r).length : Int) (pre.length : Int)) (if loansOK pre r then LR.go () else LR.ret false)
  | [], pre, hl => by
    refine Ev.succ ?_
    simp only [f_impl_IsShop_2, nlt_end, decide_false, Bool.false_eq_true, if_false, loansOK, if_true]
    exact Ev.some _
  | x :: r, pre, hl => by
    have ih := e_impl_IsShop_2 a r (pre ++ [x]) (by simpa using hl)
    have hn := next_mid pre x r (by omega)
    have hle : (pre.length : Int) ≤ ((pre ++ x :: r).length : Int) := by have := lt_mid pre x r; omega
    have htk : List.take ((pre.length : Int).toNat - Int.toNat 0) (List.drop (Int.toNat 0) (pre ++ x :: r)) = pre := by simp
    have hpl : pre.length ≤ 9223372036854775806 := by simp at hl; omega
    refine Ev.succ ?_
    simp only [f_impl_IsShop_2]
    rw [htk]
    simp only [lt_mid, ge_mid, hle, decide_true, if_true, Int.toNat_natCast, getD_mid, hn]
    rw [← shift_mid] at ih
    refine Ev.bind (e_impl_isLoan x) ?_
    cases hx : loanOK x with
    | false => simp only [hx, loansOK, Bool.false_and, Bool.not_false, if_true, Bool.false_eq_true, if_false]; exact Ev.some _
    | true =>
      simp only [Bool.not_true, Bool.false_eq_true, if_false]
      refine Ev.bind (e_impl_sameLoan pre x hpl) (Ev.ite (fun h => ?_) (fun h => ?_))
      · simp only [decide_eq_true_eq] at h
        have h2 : ¬ firstSame x 0 pre < 0 := by omega
        simp only [loansOK, h2, decide_false, Bool.and_false, Bool.false_and, Bool.false_eq_true, if_false]; exact Ev.some _
      · simp only [decide_eq_true_eq] at h
        have h2 : firstSame x 0 pre < 0 := by omega
        simp only [loansOK, hx, h2, decide_true, Bool.true_and]; exact ih
theorem e_spec_psGood_0 (a : List Int) : ∀ (r pre : List LoanD), (pre ++ r).length ≤ 9223372036854775806 → Ev (fun k => f_spec_psGood_0 k a (pre ++ r) (pre ++ r) ((pre ++ r).length : Int) (pre.length : Int)) (if loansOK pre r then LR.go (a, pre ++ r) else LR.ret false)
  | [], pre, hl => by
    refine Ev.succ ?_
    simp only [f_spec_psGood_0, nlt_end, decide_false, Bool.false_eq_true, if_false, loansOK, if_true]
    exact Ev.some _
  | x :: r, pre, hl => by
    have ih := e_spec_psGood_0 a r (pre ++ [x]) (by simpa using hl)
    have hn := next_mid pre x r (by omega)
    refine Ev.succ ?_
    simp only [f_spec_psGood_0, lt_mid, ge_mid, decide_true, if_true, Int.toNat_natCast, getD_mid, hn]
    rw [← shift_mid] at ih
    refine Ev.bind (e_spec_psLoan x) ?_
    cases hx : loanOK x with
    | false => simp only [hx, loansOK, Bool.false_and, Bool.not_false, if_true, Bool.false_eq_true, if_false]; exact Ev.some _
    | true =>
      simp only [Bool.not_true, Bool.false_eq_true, if_false]
      have hm := firstSame_mid x r pre 0 (by omega)
      rw [Int.zero_add] at hm
      refine Ev.bind (e_spec_psSame (a, pre ++ x :: r) x hl) (Ev.ite (fun h => ?_) (fun h => ?_))
      · simp only [ne_eq, decide_eq_true_eq] at h
        have h2 : ¬ firstSame x 0 pre < 0 := fun hc => h (hm.2 hc)
        simp only [loansOK, h2, decide_false, Bool.and_false, Bool.false_and, Bool.false_eq_true, if_false]; exact Ev.some _
      · simp only [ne_eq, decide_eq_true_eq, Decidable.not_not] at h
        have h2 : firstSame x 0 pre < 0 := hm.1 h
        simp only [loansOK, hx, h2, decide_true, Bool.true_and]; exact ih
theorem e_impl_IsShop (s : ShopD) (h1 : s.1.length ≤ 9223372036854775806) (h2 : s.2.length ≤ 9223372036854775806) : Ev (fun k => f_impl_IsShop k s) (shopOK s) := by
  refine Ev.succ ?_
  simp only [f_impl_IsShop]
  refine Ev.ite (fun h => Ev.of ?_) (fun h => ?_)
  · simp only [ne_eq, decide_eq_true_eq] at h
    have : ¬ s.1.length = 8 := by omega
    simp [shopOK, this]
  simp only [ne_eq, decide_eq_true_eq, Decidable.not_not] at h
  have h8 : s.1.length = 8 := by omega
  have h0 : 0 < (s.1.length : Int) := by omega
  simp only [h0, if_true]
  refine Ev.ite (fun g => Ev.of ?_) (fun g => ?_)
  · simp only [ne_eq, decide_eq_true_eq] at g
    have g' : ¬ List.getD s.1 0 0 = 0 := g
    simp only [shopOK, g', and_false, false_and, decide_false, Bool.false_and]
  simp only [ne_eq, decide_eq_true_eq, Decidable.not_not] at g
  have g' : List.getD s.1 0 0 = 0 := g
  refine Ev.ite (fun g2 => Ev.of ?_) (fun g2 => ?_)
  · simp only [decide_eq_true_eq] at g2
    have : ¬ s.2.length ≤ 20 := by omega
    simp only [shopOK, this, and_false, decide_false, Bool.false_and]
  simp only [decide_eq_true_eq] at g2
  have g20 : s.2.length ≤ 20 := by omega
  refine Ev.bind (e_impl_IsShop_0 s.1 s.2 s.1 [] (by simpa using h1)) ?_
  simp only [shopOK, h8, g', g20, and_self, decide_true, Bool.true_and]
  cases hx : s.1.all (fun n => decide (0 ≤ n ∧ n ≤ 999)) with
  | false => simp only [Bool.false_eq_true, if_false, Bool.false_and]; exact Ev.ret (Ev.some _)
  | true =>
    simp only [if_true, Bool.true_and]
    refine Ev.go (Ev.bind (e_impl_IsShop_2 s.1 s.2 [] (by simpa using h2)) ?_)
    cases hy : loansOK [] s.2 with
    | false => simp only [Bool.false_eq_true, if_false]; exact Ev.ret (Ev.some _)
    | true => simp only [if_true]; exact Ev.go (Ev.some _)
theorem e_spec_IsShop (s : ShopD) (h1 : s.1.length ≤ 9223372036854775806) (h2 : s.2.length ≤ 9223372036854775806) : Ev (fun k => f_spec_IsShop k s) (shopOK s) := by
  refine Ev.succ ?_
  simp only [f_spec_IsShop]
  refine Ev.bind (a := shopOK s) ?_ (Ev.some _)
  refine Ev.succ ?_
  simp only [f_spec_psGood]
  refine Ev.bind (e_spec_psGood_0 s.1 s.2 [] (by simpa using h2)) ?_
  cases hy : loansOK [] s.2 with
  | false => simp only [Bool.false_eq_true, if_false, shopOK, hy, Bool.and_false]; exact Ev.ret (Ev.some _)
  | true =>
    simp only [if_true, List.nil_append]
    refine Ev.go (Ev.ite (fun h => ?_) (fun h => Ev.of ?_))
    · simp only [decide_eq_true_eq] at h
      have h8 : s.1.length = 8 := by omega
      have h0 : 0 < (s.1.length : Int) := by omega
      refine Ev.bind (e_spec_l1All s.1 0 999 h1) ?_
      cases hx : s.1.all (fun n => decide (0 ≤ n ∧ n ≤ 999)) with
      | false => simp only [Bool.false_eq_true, if_false, shopOK, hx, Bool.and_false, Bool.false_and]; exact Ev.some _
      | true =>
        simp only [if_true, h0]
        refine Ev.ite (fun g => Ev.of ?_) (fun g => Ev.of ?_)
        · simp only [decide_eq_true_eq] at g
          have g' : List.getD s.1 0 0 = 0 := g
          congr 1
          simp only [shopOK, h8, g', hx, hy, true_and, Bool.and_true]
          apply decide_eq_decide.2
          omega
        · simp only [decide_eq_true_eq] at g
          have g' : ¬ List.getD s.1 0 0 = 0 := g
          simp only [shopOK, g', and_false, false_and, decide_false, Bool.false_and]
    · simp only [decide_eq_true_eq] at h
      have : ¬ s.1.length = 8 := by omega
      simp only [shopOK, this, false_and, decide_false, Bool.false_and]
theorem e_laws_szShop (s : ShopD) (n : Int) (h0 : 0 ≤ n) (h1 : n ≤ 1048576) (hl : s.1.length ≤ 9223372036854775807) (hl2 : s.2.length ≤ 9223372036854775807) : Ev (fun k => f_laws_szShop k s n) (if n - s.1.length < 0 then -1 else if n - s.1.length - s.2.length < 0 then -1 else n - s.1.length - s.2.length) := by
  refine Ev.succ ?_
  simp only [f_laws_szShop]
  refine Ev.bind (e_laws_szIntS s.1 n h0 h1 hl) ?_
  by_cases h : n - (s.1.length : Int) < 0
  · simp only [h, if_true]; exact Ev.some _
  simp only [h, if_false, decide_false, Bool.false_eq_true]
  refine Ev.bind (e_laws_szLoanS s.2 _ (by omega) (by omega) hl2) ?_
  by_cases g : n - (s.1.length : Int) - (s.2.length : Int) < 0
  · simp only [g, if_true]; exact Ev.some _
  simp only [g, if_false, decide_false, Bool.false_eq_true]
  exact Ev.some _
theorem e_laws_toShop (s : ShopD) (hl : s.1.length ≤ 1048576) (hl2 : s.2.length ≤ 1048576) : Ev (fun k => f_laws_toShop k s) s := by
  refine Ev.succ ?_
  simp only [f_laws_toShop]
  exact Ev.bind (e_laws_toIntS _ hl) (Ev.bind (e_laws_toLoanS _ hl2) (Ev.some _))
theorem e_laws_eqShop_self (s : ShopD) (hl : s.1.length ≤ 9223372036854775806) (hl2 : s.2.length ≤ 9223372036854775806) : Ev (fun k => f_laws_eqShop k s s) true := by
  refine Ev.succ ?_
  simp only [f_laws_eqShop]
  refine Ev.bind (e_laws_eqIntS _ _ hl) ?_
  simp only [decide_true, Bool.not_true, Bool.false_eq_true, if_false]
  refine Ev.bind (e_laws_eqLoanS _ _ hl2) ?_
  simp only [decide_true, Bool.not_true, Bool.false_eq_true, if_false]
  exact Ev.some _
theorem law_FnExactIsShop (s : ShopD) (h1 : s.1.length ≤ 9223372036854775807) (h2 : s.2.length ≤ 9223372036854775807) : Ev (fun k => f_laws_FnExactIsShop k s) true := by
  refine Ev.succ ?_
  simp only [f_laws_FnExactIsShop]
  refine Ev.bind (e_laws_szShop s 1048576 (by omega) (by omega) h1 h2) ?_
  by_cases h3 : (1048576 : Int) - (s.1.length : Int) < 0
  · simp only [h3, if_true]; exact Ev.some _
  simp only [h3, if_false]
  by_cases h4 : (1048576 : Int) - (s.1.length : Int) - (s.2.length : Int) < 0
  · simp only [h4, if_true]; exact Ev.some _
  simp only [h4, if_false, decide_false, Bool.false_eq_true]
  refine Ev.bind (e_laws_toShop s (by omega) (by omega)) (Ev.bind (e_spec_IsShop s (by omega) (by omega)) ?_)
  refine Ev.bind (e_laws_toShop s (by omega) (by omega)) (Ev.bind (e_impl_IsShop s (by omega) (by omega)) ?_)
  simp only [beq_self_eq_true, Bool.not_true, Bool.false_eq_true, if_false]
  refine Ev.bind (e_laws_toShop s (by omega) (by omega)) (Ev.bind (e_laws_eqShop_self s (by omega) (by omega)) ?_)
  simp only [Bool.not_true, Bool.false_eq_true, if_false]
  exact Ev.some _
end Go.Proofs.Ytcmndffpmjinlaa.Vs
