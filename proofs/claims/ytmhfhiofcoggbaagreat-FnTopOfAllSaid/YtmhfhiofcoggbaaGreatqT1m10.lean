/- The proof, part 11. -/
import Derived.Test.YtmhfhiofcoggbaaGreatqT1m9
set_option linter.unusedVariables false
set_option linter.unusedSimpArgs false
namespace Go.Proofs.YtmhfhiofcoggbaaGreat.Vs
open Go.RowKit
section
abbrev CellD := Int × Int
abbrev BoardD := Int × Int × List (Int × Int)
abbrev FaultD := Int × Int × Int
def turning (x : CellD) : Bool := decide (x.1 = 3 ∨ x.1 = 6)
def cellOK (x : CellD) : Bool := decide (0 ≤ x.1 ∧ x.1 ≤ 7 ∧ (x.2 = 0 ∨ (x.2 = 1 ∧ (x.1 = 3 ∨ x.1 = 6))))
def boardOK (b : BoardD) : Bool := decide (1 ≤ b.1 ∧ b.1 ≤ 10 ∧ 1 ≤ b.2.1 ∧ b.2.1 ≤ 9 ∧ (b.2.2.length : Int) = b.1 * b.2.1) && b.2.2.all cellOK
theorem Zgx (x : CellD) : Ev (fun k => Z6y k x) (turning x) := by
 refine Ev.succ ?_
 simp only [Z6y]
 refine Ev.of ?_
 by_cases h1 : x.1 = 3 <;> simp [turning, h1]
theorem ZfW (x : CellD) : Ev (fun k => Z8a k x) (cellOK x) := by
 refine Ev.succ ?_
 simp only [Z8a, decide_eq_true_eq]
 refine Ev.of ?_
 unfold cellOK
 repeat' split
 all_goals (congr 1; first | (symm; rw [decide_eq_true_eq]; omega) | (symm; rw [decide_eq_false_iff_not]; omega) | (apply decide_eq_decide.2; omega))
theorem Ztm (x : CellD) : Ev (fun k => ZcV k x) (cellOK x) := by
 refine Ev.succ ?_
 simp only [ZcV]
 refine Ev.bind (Z1o _ _ _) ?_
 refine Ev.ite (fun h => ?_) (fun h => ?_)
 ·simp only [decide_eq_true_eq] at h
  refine Ev.ite (fun h2 => ?_) (fun h2 => ?_)
  ·simp only [decide_eq_true_eq] at h2
   refine Ev.of ?_
   congr 1; simp [cellOK]; omega
  ·simp only [decide_eq_true_eq] at h2
   refine Ev.ite (fun h3 => ?_) (fun h3 => ?_)
   ·simp only [decide_eq_true_eq] at h3
    refine Ev.bind (Zgx x) (Ev.of ?_)
    congr 1; unfold turning cellOK; by_cases h4 : x.1 = 3 ∨ x.1 = 6 <;> simp [h4] <;> omega
   ·simp only [decide_eq_true_eq] at h3
    refine Ev.of ?_
    congr 1; simp [cellOK]; omega
 ·simp only [decide_eq_true_eq] at h
  refine Ev.of ?_
  congr 1; simp [cellOK]; omega
theorem Zmk (x : CellD) : Ev (fun k => Z29 k x) (cellOK x && turning x) := by
 refine Ev.succ ?_
 simp only [Z29]
 refine Ev.bind (ZfW x) ?_
 refine Ev.ite (fun h => ?_) (fun h => ?_)
 ·rw [h, Bool.true_and]
  refine Ev.of ?_
  by_cases h1 : x.1 = 3 <;> simp [turning, h1]
 ·refine Ev.of ?_
  simp only [Bool.not_eq_true] at h
  rw [h]; rfl
theorem ZiA : ∀ (r pre : List CellD), (pre ++ r).length ≤ 9223372036854775806 → Ev (fun k => Z48 k (pre ++ r) ((pre ++ r).length : Int) (pre.length : Int)) (if r.all cellOK then LR.go () else LR.ret false)
 | [], pre, hl => by
  refine Ev.succ ?_
  simp only [Z48, Za, decide_false, Bool.false_eq_true, if_false, List.all_nil, if_true]
  exact Ev.some _
 | x :: r, pre, hl => by
  have ih := ZiA r (pre ++ [x]) (by simpa using hl)
  refine Ev.succ ?_
  simp only [Z48, Z8, Ze, decide_true, if_true, Int.toNat_natCast, Z3]
  rw [Z7 pre x r (by omega)]
  rw [← Z1] at ih
  refine Ev.bind (ZfW x) ?_
  cases hx : cellOK x with
  | true => simp only [hx, List.all_cons, Bool.true_and, Bool.not_true, Bool.false_eq_true, if_false]; exact ih
  | false => simp only [hx, List.all_cons, Bool.false_and, Bool.not_false, if_true, Bool.false_eq_true, if_false]; exact Ev.some _
theorem Zyl (l : List CellD) (hl : l.length ≤ 9223372036854775806) : Ev (fun k => Zbd k l) (decide (l.length ≤ 90) && l.all cellOK) := by
 refine Ev.succ ?_
 simp only [Zbd]
 refine Ev.ite (fun h => ?_) (fun h => ?_)
 ·simp only [decide_eq_true_eq] at h
  refine Ev.of ?_
  have : ¬ l.length ≤ 90 := by omega
  simp [this]
 ·simp only [decide_eq_true_eq] at h
  have h2 : l.length ≤ 90 := by omega
  refine Ev.bind (ZiA l [] (by simpa using hl)) ?_
  simp only [h2, decide_true, Bool.true_and]
  cases hx : l.all cellOK with
  | true => simp only [if_true]; exact Ev.go (Ev.some _)
  | false => simp only [Bool.false_eq_true, if_false]; exact Ev.ret (Ev.some _)
theorem ZD {a b : Int} (h1 : 1 ≤ a) (h2 : a ≤ 10) (h3 : 1 ≤ b) (h4 : b ≤ 9) : 1 ≤ a * b ∧ a * b ≤ 90 :=
 ⟨by have := Int.mul_le_mul h1 h3 (by omega) (by omega); omega, by have := Int.mul_le_mul h2 h4 (by omega) (by omega); omega⟩
theorem Z6G (b : BoardD) (hl : b.2.2.length ≤ 9223372036854775806) : Ev (fun k => Z2q k b) (boardOK b) := by
 refine Ev.succ ?_
 simp only [Z2q, ge_iff_le]
 have no : ∀ {c : Prop}, ¬ c → (boardOK b = true → c) → Option.some false = Option.some (boardOK b) := by
  intro c h1 h2
  cases hb : boardOK b with
  | true => exact absurd (h2 hb) h1
  | false => rfl
 have hb : boardOK b = true → 1 ≤ b.1 ∧ b.1 ≤ 10 ∧ 1 ≤ b.2.1 ∧ b.2.1 ≤ 9 ∧ (b.2.2.length : Int) = b.1 * b.2.1 := fun h => by
  unfold boardOK at h; simp only [Bool.and_eq_true, decide_eq_true_eq] at h; exact h.1
 refine Ev.ite (fun h1 => ?_) (fun h => Ev.of (no h (fun hh => by simpa using (hb hh).1)))
 refine Ev.ite (fun h2 => ?_) (fun h => Ev.of (no h (fun hh => by simpa using (hb hh).2.1)))
 refine Ev.ite (fun h3 => ?_) (fun h => Ev.of (no h (fun hh => by simpa using (hb hh).2.2.1)))
 refine Ev.ite (fun h4 => ?_) (fun h => Ev.of (no h (fun hh => by simpa using (hb hh).2.2.2.1)))
 simp only [decide_eq_true_eq] at h1 h2 h3 h4
 have hp := ZD h1 h2 h3 h4
 rw [w64 (by omega) (by omega)]
 refine Ev.ite (fun h5 => ?_) (fun h => Ev.of (no h (fun hh => by simpa using (hb hh).2.2.2.2)))
 simp only [decide_eq_true_eq] at h5
 refine Ev.bind (Zyl _ hl) (Ev.of ?_)
 have h6 : b.2.2.length ≤ 90 := by omega
 congr 1
 simp only [boardOK, h1, h2, h3, h4, ← h5, h6, and_self, decide_true, Bool.true_and]
theorem ZnQ : ∀ (r pre : List CellD), (pre ++ r).length ≤ 9223372036854775806 → Ev (fun k => Z7O k (pre ++ r) ((pre ++ r).length : Int) (pre.length : Int)) (if r.all cellOK then LR.go () else LR.ret false)
 | [], pre, hl => by
  refine Ev.succ ?_
  simp only [Z7O, Za, decide_false, Bool.false_eq_true, if_false, List.all_nil, if_true]
  exact Ev.some _
 | x :: r, pre, hl => by
  have ih := ZnQ r (pre ++ [x]) (by simpa using hl)
  refine Ev.succ ?_
  simp only [Z7O, Z8, Ze, decide_true, if_true, Int.toNat_natCast, Z3]
  rw [Z7 pre x r (by omega)]
  rw [← Z1] at ih
  refine Ev.bind (Ztm x) ?_
  cases hx : cellOK x with
  | true => simp only [hx, List.all_cons, Bool.true_and, Bool.not_true, Bool.false_eq_true, if_false]; exact ih
  | false => simp only [hx, List.all_cons, Bool.false_and, Bool.not_false, if_true, Bool.false_eq_true, if_false]; exact Ev.some _
theorem ZHk (b : BoardD) (hl : b.2.2.length ≤ 9223372036854775806) : Ev (fun k => Zgg k b) (boardOK b) := by
 refine Ev.succ ?_
 simp only [Zgg]
 have no : ∀ {c : Prop}, ¬ c → (boardOK b = true → c) → Option.some false = Option.some (boardOK b) := by
  intro c h1 h2
  cases hb : boardOK b with
  | true => exact absurd (h2 hb) h1
  | false => rfl
 have hb : boardOK b = true → 1 ≤ b.1 ∧ b.1 ≤ 10 ∧ 1 ≤ b.2.1 ∧ b.2.1 ≤ 9 ∧ (b.2.2.length : Int) = b.1 * b.2.1 := fun h => by
  unfold boardOK at h; simp only [Bool.and_eq_true, decide_eq_true_eq] at h; exact h.1
 refine Ev.bind (Z1o _ _ _) (Ev.ite (fun h => Ev.of (no (c := 1 ≤ b.1 ∧ b.1 ≤ 10) (nd h) (fun hh => ⟨(hb hh).1, (hb hh).2.1⟩))) (fun h1 => ?_))
 refine Ev.bind (Z1o _ _ _) (Ev.ite (fun h => Ev.of (no (c := 1 ≤ b.2.1 ∧ b.2.1 ≤ 9) (nd h) (fun hh => ⟨(hb hh).2.2.1, (hb hh).2.2.2.1⟩))) (fun h2 => ?_))
 have h1' : 1 ≤ b.1 ∧ b.1 ≤ 10 := yd h1
 have h2' : 1 ≤ b.2.1 ∧ b.2.1 ≤ 9 := yd h2
 have hp := ZD h1'.1 h1'.2 h2'.1 h2'.2
 rw [w64 (by omega) (by omega)]
 refine Ev.ite (fun h => Ev.of (no (c := (b.2.2.length : Int) = b.1 * b.2.1) (by simpa using h) (fun hh => (hb hh).2.2.2.2))) (fun h3 => ?_)
 have h3' : (b.2.2.length : Int) = b.1 * b.2.1 := by simpa using h3
 refine Ev.bind (ZnQ b.2.2 [] (by simpa using hl)) ?_
 have hx2 : boardOK b = b.2.2.all cellOK := by unfold boardOK; simp only [h1'.1, h1'.2, h2'.1, h2'.2, h3', and_self, decide_true, Bool.true_and]
 rw [hx2]
 cases hx : b.2.2.all cellOK with
 | true => simp only [if_true]; exact Ev.go (Ev.some _)
 | false => simp only [Bool.false_eq_true, if_false]; exact Ev.ret (Ev.some _)
theorem ZN {b : BoardD} (h : boardOK b = true) : 1 ≤ b.1 ∧ b.1 ≤ 10 ∧ 1 ≤ b.2.1 ∧ b.2.1 ≤ 9 ∧ (b.2.2.length : Int) = b.1 * b.2.1 ∧ ∀ x ∈ b.2.2, cellOK x = true := by
 unfold boardOK at h
 simp only [Bool.and_eq_true, decide_eq_true_eq] at h
 exact ⟨h.1.1, h.1.2.1, h.1.2.2.1, h.1.2.2.2.1, h.1.2.2.2.2, List.all_eq_true.1 h.2⟩
theorem ZEp (b : BoardD) (r c : Int) (hl : b.2.2.length ≤ 9223372036854775806) : Ev (fun k => ZeD k b r c) (boardOK b && decide (0 ≤ r ∧ r < b.1 ∧ 0 ≤ c ∧ c < b.2.1)) := by
 refine Ev.succ ?_
 simp only [ZeD, ge_iff_le]
 refine Ev.bind (Z6G b hl) (Ev.ite (fun h => ?_) (fun h => ?_))
 ·rw [h, Bool.true_and]
  refine Ev.of ?_
  simp only [decide_eq_true_eq]
  repeat' split
  all_goals (congr 1; first | (symm; rw [decide_eq_true_eq]; omega) | (symm; rw [decide_eq_false_iff_not]; omega) | (apply decide_eq_decide.2; omega))
 ·refine Ev.of ?_
  simp only [Bool.not_eq_true] at h
  rw [h]; rfl
theorem Z8e {b : BoardD} (h : boardOK b = true) {r c : Int} (h1 : 0 ≤ r) (h2 : r < b.1) (h3 : 0 ≤ c) (h4 : c < b.2.1) : 0 ≤ r * b.2.1 + c ∧ r * b.2.1 + c < (b.2.2.length : Int) ∧ r * b.2.1 + c ≤ 90 ∧ 0 ≤ r * b.2.1 ∧ r * b.2.1 ≤ 90 := by
 obtain ⟨g1, g2, g3, g4, g5, _⟩ := ZN h
 have hp := ZD g1 g2 g3 g4
 have k1 : 0 ≤ r * b.2.1 := Int.mul_nonneg h1 (by omega)
 have k2 : (r + 1) * b.2.1 ≤ b.1 * b.2.1 := Int.mul_le_mul_of_nonneg_right (by omega) (by omega)
 rw [Int.add_mul, Int.one_mul] at k2
 omega
theorem Zlp {l : List CellD} {i : Int} (h0 : 0 ≤ i) (h1 : i < (l.length : Int)) (d : CellD) : List.getD l i.toNat d ∈ l := by
 have : i.toNat < l.length := by omega
 simp [List.getD, List.getElem?_eq_getElem this]
end
section
def geared (x : CellD) : Bool := decide (x.1 = 6 ∨ x.1 = 7)
theorem Zns (x : CellD) : Ev (fun k => Zas k x) (geared x) := by
 refine Ev.succ ?_
 simp only [Zas]
 refine Ev.of ?_
 by_cases h1 : x.1 = 6 <;> simp [geared, h1]
theorem Zua (x : CellD) : Ev (fun k => Zd6 k x) (geared x) := by
 refine Ev.succ ?_
 simp only [Zd6]
 refine Ev.of ?_
 by_cases h1 : x.1 = 6 <;> simp [geared, h1]
def nears (b : BoardD) (i : Int) : List Int := (if 0 < Int.tdiv i b.2.1 then [i - b.2.1] else []) ++ (if 0 < Int.tmod i b.2.1 then [i - 1] else []) ++ (if Int.tmod i b.2.1 + 1 < b.2.1 then [i + 1] else []) ++ (if Int.tdiv i b.2.1 + 1 < b.1 then [i + b.2.1] else [])
theorem ZjJ {b : BoardD} (hb : boardOK b = true) {i : Int} (h0 : 0 ≤ i) (h1 : i < (b.2.2.length : Int)) : ∃ q m t : Int, Int.tdiv i b.2.1 = q ∧ Int.tmod i b.2.1 = m ∧ i = t + m ∧ 0 ≤ m ∧ m < b.2.1 ∧ 0 ≤ q ∧ q < b.1 ∧ 0 ≤ t ∧ t + b.2.1 ≤ (b.2.2.length : Int) ∧ (1 ≤ q → b.2.1 ≤ t) ∧ (q + 1 < b.1 → t + b.2.1 + b.2.1 ≤ (b.2.2.length : Int)) := by
 obtain ⟨g1, g2, g3, g4, g5, g6⟩ := ZN hb
 have hq : Int.tdiv i b.2.1 = i / b.2.1 := Int.tdiv_eq_ediv_of_nonneg h0
 have hm : Int.tmod i b.2.1 = i % b.2.1 := Int.tmod_eq_emod_of_nonneg h0
 have e1 := Int.mul_ediv_add_emod i b.2.1
 have e2 := Int.emod_nonneg i (show b.2.1 ≠ 0 by omega)
 have e3 := Int.emod_lt_of_pos i (show 0 < b.2.1 by omega)
 have e4 : 0 ≤ i / b.2.1 := Int.ediv_nonneg h0 (by omega)
 have e5 : i / b.2.1 < b.1 := Int.ediv_lt_of_lt_mul (by omega) (by rw [← g5]; exact h1)
 have e6 : 0 ≤ b.2.1 * (i / b.2.1) := Int.mul_nonneg (by omega) e4
 have e7 : b.2.1 * (i / b.2.1 + 1) ≤ b.2.1 * b.1 := Int.mul_le_mul_of_nonneg_left (by omega) (by omega)
 rw [Int.mul_add, Int.mul_one, Int.mul_comm b.2.1 b.1, ← g5] at e7
 refine ⟨_, _, b.2.1 * (i / b.2.1), hq, hm, by omega, e2, e3, e4, e5, e6, e7, fun h => ?_, fun h => ?_⟩
 ·have := Int.mul_le_mul_of_nonneg_left h (show 0 ≤ b.2.1 by omega)
  omega
 ·have e8 : b.2.1 * (i / b.2.1 + 2) ≤ b.2.1 * b.1 := Int.mul_le_mul_of_nonneg_left (by omega) (by omega)
  rw [Int.mul_add, Int.mul_comm b.2.1 b.1, ← g5] at e8
  omega
theorem ZI1 {b : BoardD} (hb : boardOK b = true) {i : Int} (h0 : 0 ≤ i) (h1 : i < (b.2.2.length : Int)) : ∀ n ∈ nears b i, 0 ≤ n ∧ n < (b.2.2.length : Int) := by
 obtain ⟨q, m, t, hq, hm, k1, k2, k3, k4, k5, k6, k7, k8, k9⟩ := ZjJ hb h0 h1
 intro n hn
 unfold nears at hn
 rw [hq, hm] at hn
 simp only [List.mem_append] at hn
 rcases hn with ((hn | hn) | hn) | hn
 ·split at hn
  ·have := List.mem_singleton.1 hn; have := k8 (by omega); omega
  ·cases hn
 ·split at hn
  ·have := List.mem_singleton.1 hn; omega
  ·cases hn
 ·split at hn
  ·have := List.mem_singleton.1 hn; omega
  ·cases hn
 ·split at hn
  ·have := List.mem_singleton.1 hn; have := k9 (by omega); omega
  ·cases hn
theorem ZFS (b : BoardD) (i : Int) : (nears b i).length ≤ 4 := by
 unfold nears
 simp only [List.length_append]
 have h1 : ∀ (c : Prop) [Decidable c] (x : Int), (if c then [x] else []).length ≤ 1 := by intro c _ x; split <;> simp
 have a1 := h1 (0 < Int.tdiv i b.2.1) (i - b.2.1)
 have a2 := h1 (0 < Int.tmod i b.2.1) (i - 1)
 have a3 := h1 (Int.tmod i b.2.1 + 1 < b.2.1) (i + 1)
 have a4 := h1 (Int.tdiv i b.2.1 + 1 < b.1) (i + b.2.1)
 omega
theorem ZDR (b : BoardD) (hb : boardOK b = true) (i : Int) (h0 : 0 ≤ i) (h1 : i < (b.2.2.length : Int)) : Ev (fun k => ZdD k b i) (nears b i) := by
 obtain ⟨g1, g2, g3, g4, g5, g6⟩ := ZN hb
 have hp := ZD g1 g2 g3 g4
 obtain ⟨q, m, t, hq, hm, k1, k2, k3, k4, k5, k6, k7, k8, k9⟩ := ZjJ hb h0 h1
 have hC : ¬ b.2.1 = 0 := by omega
 refine Ev.succ ?_
 simp only [ZdD, hC, if_false, nears, hq, hm, gt_iff_lt]
 rw [w64 (n := q) (by omega) (by omega), w64 (n := q + 1) (by omega) (by omega), w64 (n := m + 1) (by omega) (by omega), w64 (n := i - b.2.1) (by omega) (by omega), w64 (n := i - 1) (by omega) (by omega), w64 (n := i + 1) (by omega) (by omega), w64 (n := i + b.2.1) (by omega) (by omega)]
 refine Ev.of ?_
 by_cases h1 : 0 < q <;> by_cases h2 : 0 < m <;> by_cases h3 : m + 1 < b.2.1 <;> by_cases h4 : q + 1 < b.1 <;> simp [h1, h2, h3, h4]
theorem ZH7 (b : BoardD) (hb : boardOK b = true) (i : Int) (h0 : 0 ≤ i) (h1 : i < (b.2.2.length : Int)) : Ev (fun k => Zg0 k b i) (nears b i) := by
 obtain ⟨g1, g2, g3, g4, g5, g6⟩ := ZN hb
 have hp := ZD g1 g2 g3 g4
 obtain ⟨q, m, t, hq, hm, k1, k2, k3, k4, k5, k6, k7, k8, k9⟩ := ZjJ hb h0 h1
 have hC : ¬ b.2.1 = 0 := by omega
 refine Ev.succ ?_
 simp only [Zg0, hC, if_false, nears, hq, hm, gt_iff_lt]
 rw [w64 (n := q) (by omega) (by omega), w64 (n := q + 1) (by omega) (by omega), w64 (n := m + 1) (by omega) (by omega), w64 (n := i - b.2.1) (by omega) (by omega), w64 (n := i - 1) (by omega) (by omega), w64 (n := i + 1) (by omega) (by omega), w64 (n := i + b.2.1) (by omega) (by omega)]
 refine Ev.of ?_
 by_cases h1 : 0 < q <;> by_cases h2 : 0 < m <;> by_cases h3 : m + 1 < b.2.1 <;> by_cases h4 : q + 1 < b.1 <;> simp [h1, h2, h3, h4]
def visit (b : BoardD) (v : Int) (G : List Int × List Int) (n : Int) : List Int × List Int := if geared (List.getD b.2.2 n.toNat (0, 0)) && decide (List.getD G.1 n.toNat 0 < 0) then (List.set G.1 n.toNat v, G.2 ++ [n]) else G
def unl (l : List Int) : Nat := l.countP fun x => decide (x < 0)
theorem Zy7 (v : Int) (hv : 0 ≤ v) : ∀ (l : List Int) (i : Nat), i < l.length → List.getD l i 0 < 0 → unl (l.set i v) + 1 = unl l
 | [], i, h, _ => by simp at h
 | x :: l, 0, _, h => by
  have h' : x < 0 := by simpa using h
  have : ¬ v < 0 := by omega
  simp [unl, h', this]
 | x :: l, i + 1, h, h2 => by
  have ih := Zy7 v hv l i (by simpa using h) (by simpa using h2)
  simp only [unl, List.set_cons_succ, List.countP_cons] at ih ⊢
  omega
theorem ZJU (l : List Int) : unl l ≤ l.length := List.countP_le_length
theorem ZFY (b : BoardD) (v : Int) (G : List Int × List Int) (n : Int) : (visit b v G n).1.length = G.1.length := by
 unfold visit; split <;> simp
theorem Zlg (b : BoardD) (v : Int) : ∀ (r : List Int) (G : List Int × List Int), (r.foldl (visit b v) G).1.length = G.1.length
 | [], G => rfl
 | n :: r, G => by rw [List.foldl_cons, Zlg b v r, ZFY]
theorem ZKz (b : BoardD) (v : Int) (hv : 0 ≤ v) (G : List Int × List Int) (n : Int) (h0 : 0 ≤ n) (h1 : n < (G.1.length : Int)) : unl (visit b v G n).1 + (visit b v G n).2.length = unl G.1 + G.2.length := by
 unfold visit
 split
 ·rename_i hc
  simp only [Bool.and_eq_true, decide_eq_true_eq] at hc
  have := Zy7 v hv G.1 n.toNat (by omega) hc.2
  simp only [List.length_append, List.length_singleton]
  omega
 ·rfl
theorem Zsa (b : BoardD) (v : Int) (hv : 0 ≤ v) : ∀ (r : List Int) (G : List Int × List Int), (∀ n ∈ r, 0 ≤ n ∧ n < (G.1.length : Int)) → unl (r.foldl (visit b v) G).1 + (r.foldl (visit b v) G).2.length = unl G.1 + G.2.length
 | [], G, _ => rfl
 | n :: r, G, h => by
  rw [List.foldl_cons, Zsa b v hv r _ (fun m hm => by rw [ZFY]; exact h m (List.mem_cons_of_mem _ hm))]
  exact ZKz b v hv G n (h n (List.mem_cons_self ..)).1 (h n (List.mem_cons_self ..)).2
theorem Zle (b : BoardD) (v : Int) : ∀ (r : List Int) (o2 o3 a : List Int), (r.foldl (visit b v) (o2, o3 ++ a)) = ((r.foldl (visit b v) (o2, a)).1, o3 ++ (r.foldl (visit b v) (o2, a)).2)
 | [], o2, o3, a => rfl
 | n :: r, o2, o3, a => by
  simp only [List.foldl_cons]
  by_cases hc : (geared (List.getD b.2.2 n.toNat (0, 0)) && decide (List.getD o2 n.toNat 0 < 0)) = true
  ·have e1 : visit b v (o2, o3 ++ a) n = (List.set o2 n.toNat v, o3 ++ (a ++ [n])) := by simp only [visit]; rw [if_pos hc, List.append_assoc]
   have e2 : visit b v (o2, a) n = (List.set o2 n.toNat v, a ++ [n]) := by simp only [visit]; rw [if_pos hc]
   rw [e1, e2]
   exact Zle b v r _ o3 _
  ·have e1 : visit b v (o2, o3 ++ a) n = (o2, o3 ++ a) := by simp only [visit]; rw [if_neg hc]
   have e2 : visit b v (o2, a) n = (o2, a) := by simp only [visit]; rw [if_neg hc]
   rw [e1, e2]
   exact Zle b v r o2 o3 a
theorem ZsZ (b : BoardD) (v : Int) (P : Int → Prop) : ∀ (r : List Int) (G : List Int × List Int), (∀ n ∈ r, P n) → (∀ n ∈ G.2, P n) → ∀ n ∈ (r.foldl (visit b v) G).2, P n
 | [], G, _, h => h
 | m :: r, G, h, hg => by
  rw [List.foldl_cons]
  refine ZsZ b v P r _ (fun n hn => h n (List.mem_cons_of_mem _ hn)) (fun n hn => ?_)
  unfold visit at hn
  split at hn
  ·rcases List.mem_append.1 hn with hn | hn
   ·exact hg n hn
   ·rw [List.mem_singleton.1 hn]; exact h m (List.mem_cons_self ..)
  ·exact hg n hn
theorem ZbF (b : BoardD) (hb : boardOK b = true) (v : Int) (hv : 0 ≤ v) (v26 : List CellD) (v27 v28 : Int) : ∀ (r pre o2 o3 : List Int), (∀ n ∈ r, 0 ≤ n ∧ n < (b.2.2.length : Int)) → (pre ++ r).length ≤ 100 → o2.length = b.2.2.length → o3.length + unl o2 ≤ 1000 →
  Ev (fun k => Z1a k b.1 b.2.1 b.2.2 o2 o3 (pre ++ r) v  v26 v27 v28 ((pre ++ r).length : Int) (pre.length : Int)) (b.1, b.2.1, b.2.2, (r.foldl (visit b v) (o2, o3)).1, (r.foldl (visit b v) (o2, o3)).2, v, v26, v27, v28)
 | [], pre, o2, o3, hr, hl, h2, h3 => by
  refine Ev.succ ?_
  simp only [Z1a, Za, decide_false, Bool.false_eq_true, if_false]
  exact Ev.some _
 | x :: r, pre, o2, o3, hr, hl, h2, h3 => by
  obtain ⟨hx0, hx1⟩ := hr x (List.mem_cons_self ..)
  have hx2 : x < (o2.length : Int) := by omega
  have hr' : ∀ n ∈ r, 0 ≤ n ∧ n < (b.2.2.length : Int) := fun n hn => hr n (List.mem_cons_of_mem _ hn)
  have ih0 := ZbF b hb v hv  v26 v27 v28 r (pre ++ [x]) o2 o3 hr' (by simpa using hl) h2 h3
  rw [← Z1] at ih0
  have hn := Z7 pre x r (by omega)
  refine Ev.succ ?_
  simp only [Z1a, Z8, Ze, decide_true, if_true, Int.toNat_natCast, Z3, hn, hx0, hx1, hx2]
  refine Ev.bind (Zns (List.getD b.2.2 x.toNat (0, 0))) ?_
  rw [List.foldl_cons]
  by_cases hg : geared (List.getD b.2.2 x.toNat (0, 0)) = true
  ·simp only [hg, if_true]
   by_cases ho : List.getD o2 x.toNat 0 < 0
   ·have e1 : visit b v (o2, o3) x = (List.set o2 x.toNat v, o3 ++ [x]) := by unfold visit; rw [if_pos (by simp only [hg, ho, decide_true, Bool.and_self])]
    have hu := Zy7 v hv o2 x.toNat (by omega) ho
    have hle : o3.length + 1 ≤ 140737488355328 / 8 := by omega
    have ih := ZbF b hb v hv  v26 v27 v28 r (pre ++ [x]) (List.set o2 x.toNat v) (o3 ++ [x]) hr' (by simpa using hl) (by simpa using h2) (by simp; omega)
    rw [← Z1] at ih
    simp only [ho, decide_true, if_true, List.length_singleton, hle]
    rw [e1]
    exact ih
   ·have e1 : visit b v (o2, o3) x = (o2, o3) := by unfold visit; rw [if_neg (by simp only [ho, decide_false, Bool.and_false, Bool.false_eq_true, not_false_eq_true])]
    simp only [ho, decide_false, Bool.false_eq_true, if_false]
    rw [e1]
    exact ih0
  ·have e1 : visit b v (o2, o3) x = (o2, o3) := by unfold visit; rw [if_neg (by simp only [hg, Bool.false_and, Bool.false_eq_true, not_false_eq_true])]
   simp only [hg, Bool.false_eq_true, if_false]
   rw [e1]
   exact ih0
theorem Zfw (b : BoardD) (hb : boardOK b = true) (v : Int) (hv : 0 ≤ v) (v9 : Int) (v26 : List CellD) (v27 v28 : Int) : ∀ (r pre o2 o3 : List Int), (∀ n ∈ r, 0 ≤ n ∧ n < (b.2.2.length : Int)) → (pre ++ r).length ≤ 100 → o2.length = b.2.2.length → o3.length + unl o2 ≤ 1000 →
  Ev (fun k => Z2z k b.1 b.2.1 b.2.2 o2 o3 (pre ++ r) v v9 v26 v27 v28 ((pre ++ r).length : Int) (pre.length : Int)) (b.1, b.2.1, b.2.2, (r.foldl (visit b v) (o2, o3)).1, (r.foldl (visit b v) (o2, o3)).2, v, v9, v26, v27, v28)
 | [], pre, o2, o3, hr, hl, h2, h3 => by
  refine Ev.succ ?_
  simp only [Z2z, Za, decide_false, Bool.false_eq_true, if_false]
  exact Ev.some _
 | x :: r, pre, o2, o3, hr, hl, h2, h3 => by
  obtain ⟨hx0, hx1⟩ := hr x (List.mem_cons_self ..)
  have hx2 : x < (o2.length : Int) := by omega
  have hr' : ∀ n ∈ r, 0 ≤ n ∧ n < (b.2.2.length : Int) := fun n hn => hr n (List.mem_cons_of_mem _ hn)
  have ih0 := Zfw b hb v hv v9 v26 v27 v28 r (pre ++ [x]) o2 o3 hr' (by simpa using hl) h2 h3
  rw [← Z1] at ih0
  have hn := Z7 pre x r (by omega)
  refine Ev.succ ?_
  simp only [Z2z, Z8, Ze, decide_true, if_true, Int.toNat_natCast, Z3, hn, hx0, hx1, hx2]
  refine Ev.bind (Zua (List.getD b.2.2 x.toNat (0, 0))) ?_
  rw [List.foldl_cons]
  by_cases hg : geared (List.getD b.2.2 x.toNat (0, 0)) = true
  ·simp only [hg, if_true]
   by_cases ho : List.getD o2 x.toNat 0 < 0
   ·have e1 : visit b v (o2, o3) x = (List.set o2 x.toNat v, o3 ++ [x]) := by unfold visit; rw [if_pos (by simp only [hg, ho, decide_true, Bool.and_self])]
    have hu := Zy7 v hv o2 x.toNat (by omega) ho
    have hle : o3.length + 1 ≤ 140737488355328 / 8 := by omega
    have ih := Zfw b hb v hv v9 v26 v27 v28 r (pre ++ [x]) (List.set o2 x.toNat v) (o3 ++ [x]) hr' (by simpa using hl) (by simpa using h2) (by simp; omega)
    rw [← Z1] at ih
    simp only [ho, decide_true, if_true, List.length_singleton, hle]
    rw [e1]
    exact ih
   ·have e1 : visit b v (o2, o3) x = (o2, o3) := by unfold visit; rw [if_neg (by simp only [ho, decide_false, Bool.and_false, Bool.false_eq_true, not_false_eq_true])]
    simp only [ho, decide_false, Bool.false_eq_true, if_false]
    rw [e1]
    exact ih0
  ·have e1 : visit b v (o2, o3) x = (o2, o3) := by unfold visit; rw [if_neg (by simp only [hg, Bool.false_and, Bool.false_eq_true, not_false_eq_true])]
   simp only [hg, Bool.false_eq_true, if_false]
   rw [e1]
   exact ih0
def bfs (b : BoardD) (v : Int) : Nat → List Int → List Int → List Int
 | 0, o2, _ => o2
 | _ + 1, o2, [] => o2
 | n + 1, o2, x :: q => bfs b v n ((nears b x).foldl (visit b v) (o2, [])).1 (q ++ ((nears b x).foldl (visit b v) (o2, [])).2)
theorem Zy8 (b : BoardD) (v : Int) : ∀ (n : Nat) (o2 q : List Int), (bfs b v n o2 q).length = o2.length
 | 0, o2, _ => rfl
 | _ + 1, o2, [] => rfl
 | n + 1, o2, x :: q => by simp only [bfs]; rw [Zy8 b v n, Zlg]
theorem Zh7 (b : BoardD) (hb : boardOK b = true) (v : Int) (hv : 0 ≤ v) (v26 : List CellD) (v27 v28 : Int) : ∀ (n : Nat) (o2 q : List Int), (∀ m ∈ q, 0 ≤ m ∧ m < (b.2.2.length : Int)) → o2.length = b.2.2.length → unl o2 + q.length + 1 ≤ n → q.length + unl o2 ≤ 1000 →
  Ev (fun k => Z1U k b.1 b.2.1 b.2.2 o2 q v v26 v27 v28) (b.1, b.2.1, b.2.2, bfs b v n o2 q, v, v26, v27, v28)
 | 0, o2, q, hq, h2, hn, hm => by omega
 | n + 1, o2, [], hq, h2, hn, hm => by
  refine Ev.succ ?_
  simp only [Z1U, List.length_nil]
  have : ¬ ((0 : Nat) : Int) > 0 := by omega
  simp only [this, decide_false, Bool.false_eq_true, if_false]
  exact Ev.some _
 | n + 1, o2, x :: q, hq, h2, hn, hm => by
  obtain ⟨hx0, hx1⟩ := hq x (List.mem_cons_self ..)
  have hlen : (((x :: q).length : Nat) : Int) > 0 := by simp only [List.length_cons]; omega
  have hlen1 : (1 : Int) ≤ (((x :: q).length : Nat) : Int) := by omega
  have hlen0 : (0 : Int) < (((x :: q).length : Nat) : Int) := by omega
  have hin := ZI1 hb hx0 hx1
  have hun := Zsa b v hv (nears b x) (o2, []) (fun m hm => by rw [h2]; exact hin m hm)
  simp only [List.length_nil, Nat.add_zero] at hun
  simp only [List.length_cons] at hn hm
  refine Ev.succ ?_
  simp only [Z1U, hlen, hlen1, hlen0, Int.le_refl, decide_true, if_true]
  refine Ev.bind (ZDR b hb x hx0 hx1) ?_
  have h6 := ZbF b hb v hv v26 v27 v28 (nears b x) [] o2 q hin (by have := ZFS b x; simp; omega) h2 (by omega)
  refine Ev.bind h6 ?_
  have happ := Zle b v (nears b x) o2 q []
  rw [List.append_nil] at happ
  rw [happ]
  show Ev (fun k => Z1U k b.1 b.2.1 b.2.2 (List.foldl (visit b v) (o2, []) (nears b x)).1 (q ++ (List.foldl (visit b v) (o2, []) (nears b x)).2) v v26 v27 v28) _
  exact Zh7 b hb v hv v26 v27 v28 n _ _ (fun m hm => by
   rcases List.mem_append.1 hm with hm | hm
   ·exact hq m (List.mem_cons_of_mem _ hm)
   ·exact ZsZ b v (fun m => 0 ≤ m ∧ m < (b.2.2.length : Int)) (nears b x) (o2, []) hin (fun m hm => by cases hm) m hm) (by rw [Zlg]; exact h2) (by rw [List.length_append]; omega) (by rw [List.length_append]; omega)
theorem ZkK (b : BoardD) (hb : boardOK b = true) (v : Int) (hv : 0 ≤ v) (v26 : List CellD) (v27 v28 : Int) : ∀ (n : Nat) (o2 q pre : List Int), (∀ m ∈ q, 0 ≤ m ∧ m < (b.2.2.length : Int)) → o2.length = b.2.2.length → unl o2 + q.length + 1 ≤ n → (pre ++ q).length + unl o2 ≤ 1000 →
  Ev (fun k => Z3P k b.1 b.2.1 b.2.2 o2 (pre ++ q) v (pre.length : Int) v26 v27 v28) (b.1, b.2.1, b.2.2, bfs b v n o2 q, v, v26, v27, v28)
 | 0, o2, q, pre, hq, h2, hn, hm => by omega
 | n + 1, o2, [], pre, hq, h2, hn, hm => by
  refine Ev.succ ?_
  simp only [Z3P, Za, decide_false, Bool.false_eq_true, if_false]
  exact Ev.some _
 | n + 1, o2, x :: q, pre, hq, h2, hn, hm => by
  obtain ⟨hx0, hx1⟩ := hq x (List.mem_cons_self ..)
  have hin := ZI1 hb hx0 hx1
  have hun := Zsa b v hv (nears b x) (o2, []) (fun m hm => by rw [h2]; exact hin m hm)
  simp only [List.length_nil, Nat.add_zero] at hun
  have hm' := hm
  simp only [List.length_cons, List.length_append] at hn hm'
  refine Ev.succ ?_
  simp only [Z3P, Z8, Ze, decide_true, if_true, Int.toNat_natCast, Z3]
  refine Ev.bind (ZH7 b hb x hx0 hx1) ?_
  have h6 := Zfw b hb v hv (pre.length : Int) v26 v27 v28 (nears b x) [] o2 (pre ++ x :: q) hin (by have := ZFS b x; simp; omega) h2 hm
  refine Ev.bind h6 ?_
  have happ := Zle b v (nears b x) o2 (pre ++ x :: q) []
  rw [List.append_nil] at happ
  rw [happ]
  show Ev (fun k => Z3P k b.1 b.2.1 b.2.2 (List.foldl (visit b v) (o2, []) (nears b x)).1 ((pre ++ x :: q) ++ (List.foldl (visit b v) (o2, []) (nears b x)).2) v (wrap64 ((pre.length : Int) + 1)) v26 v27 v28) _
  rw [Z7 pre x q (by simp; omega), Z1, List.append_assoc]
  exact ZkK b hb v hv v26 v27 v28 n _ _ (pre ++ [x]) (fun m hm => by
   rcases List.mem_append.1 hm with hm | hm
   ·exact hq m (List.mem_cons_of_mem _ hm)
   ·exact ZsZ b v (fun m => 0 ≤ m ∧ m < (b.2.2.length : Int)) (nears b x) (o2, []) hin (fun m hm => by cases hm) m hm) (by rw [Zlg]; exact h2) (by rw [List.length_append]; omega) (by simp only [List.length_append, List.length_singleton]; omega)
def groupsFrom (b : BoardD) : Int → List CellD → List Int → Int → List Int
 | _, [], o2, _ => o2
 | i, x :: r, o2, v => if geared x && decide (List.getD o2 i.toNat 0 < 0) then groupsFrom b (i + 1) r (bfs b v 200 (List.set o2 i.toNat v) [i]) (v + 1) else groupsFrom b (i + 1) r o2 v
theorem Zjn (b : BoardD) : ∀ (r : List CellD) (i : Int) (o2 : List Int) (v : Int), (groupsFrom b i r o2 v).length = o2.length
 | [], _, _, _ => rfl
 | x :: r, i, o2, v => by
  simp only [groupsFrom]
  split
  ·rw [Zjn b r, Zy8, List.length_set]
  ·exact Zjn b r _ _ _
def groupsOf (b : BoardD) : List Int := groupsFrom b 0 b.2.2 (List.replicate b.2.2.length (-1)) 0
theorem Ze2 (b : BoardD) : (groupsOf b).length = b.2.2.length := by unfold groupsOf; rw [Zjn]; simp
theorem ZgS (b : BoardD) (m : Int) : ∀ (r pre : List Int), m = ((pre ++ r).length : Int) → (pre ++ r).length ≤ 1000 → Ev (fun k => Z2V k b.1 b.2.1 b.2.2 (pre ++ r) m (pre.length : Int)) (b.1, b.2.1, b.2.2, pre ++ List.replicate r.length (-1))
 | [], pre, hm, hl => by
  refine Ev.succ ?_
  have : ¬ (pre.length : Int) < m := by rw [hm]; exact Za pre
  simp only [Z2V, this, decide_false, Bool.false_eq_true, if_false]
  exact Ev.of (by simp)
 | x :: r, pre, hm, hl => by
  have ih := ZgS b m r (pre ++ [-1]) (by rw [hm]; simp) (by simpa using hl)
  have hlt : (pre.length : Int) < m := by rw [hm]; exact Z8 _ _ _
  have hn2 : ((pre ++ [x]).length : Int) = ((pre ++ [(-1 : Int)]).length : Int) := by simp
  refine Ev.succ ?_
  simp only [Z2V, hlt, Z8, Ze, decide_true, if_true, Int.toNat_natCast, Zrw]
  rw [Z7 pre x r (by omega), hn2]
  rw [← Z1] at ih
  refine ih.congr ?_
  simp [List.replicate_succ]
theorem ZbO (b : BoardD) (hb : boardOK b = true) : ∀ (r pre : List CellD) (o2 : List Int) (v : Int), pre ++ r = b.2.2 → o2.length = b.2.2.length → 0 ≤ v → v ≤ pre.length → Ev (fun k => ZS k b.1 b.2.1 b.2.2 o2 v (pre ++ r) ((pre ++ r).length : Int) (pre.length : Int)) (groupsFrom b pre.length r o2 v)
 | [], pre, o2, v, hpr, h2, hv, hv2 => by
  refine Ev.succ ?_
  simp only [ZS, Za, decide_false, Bool.false_eq_true, if_false]
  exact Ev.some _
 | x :: r, pre, o2, v, hpr, h2, hv, hv2 => by
  obtain ⟨g1, g2, g3, g4, g5, g6⟩ := ZN hb
  have hp := ZD g1 g2 g3 g4
  have hl90 : (pre ++ x :: r).length ≤ 90 := by rw [hpr]; omega
  have hn := Z7 pre x r (by omega)
  have hc : ((pre ++ [x]).length : Int) = (pre.length : Int) + 1 := by simp
  have hlt := Z8 pre x r
  have hlo : (pre.length : Int) < (o2.length : Int) := by rw [h2, ← hpr]; exact hlt
  have ih0 := ZbO b hb r (pre ++ [x]) o2 v (by rw [← hpr]; simp) h2 hv (by simp; omega)
  rw [← Z1, hc] at ih0
  refine Ev.succ ?_
  simp only [ZS, Z8, Ze, decide_true, if_true, Int.toNat_natCast, Z3, hn, hc, hlo]
  refine Ev.bind (Zns x) ?_
  cases hg : geared x with
  | false =>
   simp only [Bool.not_false, if_true, groupsFrom, hg, Bool.false_and, Bool.false_eq_true, if_false]
   exact ih0
  | true =>
   simp only [Bool.not_true, Bool.false_eq_true, if_false]
   refine Ev.ite (fun h => ?_) (fun h => ?_)
   ·simp only [ge_iff_le, decide_eq_true_eq] at h
    have hno : ¬ List.getD o2 pre.length 0 < 0 := by omega
    simp only [groupsFrom, hg, Int.toNat_natCast, hno, decide_false, Bool.and_false, Bool.false_eq_true, if_false]
    exact ih0
   ·simp only [ge_iff_le, decide_eq_true_eq] at h
    have hno : List.getD o2 pre.length 0 < 0 := by omega
    have hul := ZJU (List.set o2 pre.length v)
    rw [List.length_set, h2, ← hpr] at hul
    have h4 := Zh7 b hb v hv (pre ++ x :: r) ((pre ++ x :: r).length : Int) (pre.length : Int) 200 (List.set o2 pre.length v) [(pre.length : Int)] (fun m hm => by rw [List.mem_singleton.1 hm, ← hpr]; exact ⟨by omega, hlt⟩) (by rw [List.length_set]; exact h2) (by simp; omega) (by simp; omega)
    refine Ev.bind h4 ?_
    have ih := ZbO b hb r (pre ++ [x]) (bfs b v 200 (List.set o2 pre.length v) [(pre.length : Int)]) (v + 1) (by rw [← hpr]; simp) (by rw [Zy8, List.length_set]; exact h2) (by omega) (by simp; omega)
    rw [← Z1, hc] at ih
    show Ev (fun k => ZS k b.1 b.2.1 b.2.2 (bfs b v 200 (List.set o2 pre.length v) [(pre.length : Int)]) (wrap64 (v + 1)) (pre ++ x :: r) ((pre ++ x :: r).length : Int) (wrap64 ((pre.length : Int) + 1))) _
    rw [w64 (n := v + 1) (by omega) (by omega), hn, hc]
    simp only [groupsFrom, hg, Int.toNat_natCast, hno, decide_true, Bool.and_self, if_true]
    exact ih
theorem Zdf (b : BoardD) (hb : boardOK b = true) : Ev (fun k => Z14 k b) (groupsOf b) := by
 obtain ⟨g1, g2, g3, g4, g5, g6⟩ := ZN hb
 have hp := ZD g1 g2 g3 g4
 have hm : b.2.2.length * 8 ≤ 281474976710656 := by omega
 refine Ev.succ ?_
 simp only [Z14, Int.toNat_natCast, hm, if_true]
 refine Ev.bind (ZgS b _ (List.replicate b.2.2.length 0) [] rfl (by simp; omega)) ?_
 have hrep : ([] : List Int) ++ List.replicate (List.replicate b.2.2.length (0 : Int)).length (-1) = List.replicate b.2.2.length (-1) := by simp
 rw [hrep]
 exact Ev.bind (ZbO b hb b.2.2 [] (List.replicate b.2.2.length (-1)) 0 rfl (by simp) (by omega) (by simp)) (Ev.some _)
theorem ZkO (b : BoardD) (m : Int) : ∀ (r pre : List Int), m = ((pre ++ r).length : Int) → (pre ++ r).length ≤ 1000 → Ev (fun k => Z5k k b.1 b.2.1 b.2.2 (pre ++ r) m (pre.length : Int)) (b.1, b.2.1, b.2.2, pre ++ List.replicate r.length (-1))
 | [], pre, hm, hl => by
  refine Ev.succ ?_
  have : ¬ (pre.length : Int) < m := by rw [hm]; exact Za pre
  simp only [Z5k, this, decide_false, Bool.false_eq_true, if_false]
  exact Ev.of (by simp)
 | x :: r, pre, hm, hl => by
  have ih := ZkO b m r (pre ++ [-1]) (by rw [hm]; simp) (by simpa using hl)
  have hlt : (pre.length : Int) < m := by rw [hm]; exact Z8 _ _ _
  have hn2 : ((pre ++ [x]).length : Int) = ((pre ++ [(-1 : Int)]).length : Int) := by simp
  refine Ev.succ ?_
  simp only [Z5k, hlt, Z8, Ze, decide_true, if_true, Int.toNat_natCast, Zrw]
  rw [Z7 pre x r (by omega), hn2]
  rw [← Z1] at ih
  refine ih.congr ?_
  simp [List.replicate_succ]
theorem Zfm (b : BoardD) (hb : boardOK b = true) : ∀ (r pre : List CellD) (o2 : List Int) (v : Int), pre ++ r = b.2.2 → o2.length = b.2.2.length → 0 ≤ v → v ≤ pre.length → Ev (fun k => Z1H k b.1 b.2.1 b.2.2 o2 v (pre ++ r) ((pre ++ r).length : Int) (pre.length : Int)) (groupsFrom b pre.length r o2 v)
 | [], pre, o2, v, hpr, h2, hv, hv2 => by
  refine Ev.succ ?_
  simp only [Z1H, Za, decide_false, Bool.false_eq_true, if_false]
  exact Ev.some _
 | x :: r, pre, o2, v, hpr, h2, hv, hv2 => by
  obtain ⟨g1, g2, g3, g4, g5, g6⟩ := ZN hb
  have hp := ZD g1 g2 g3 g4
  have hl90 : (pre ++ x :: r).length ≤ 90 := by rw [hpr]; omega
  have hn := Z7 pre x r (by omega)
  have hc : ((pre ++ [x]).length : Int) = (pre.length : Int) + 1 := by simp
  have hlt := Z8 pre x r
  have hlo : (pre.length : Int) < (o2.length : Int) := by rw [h2, ← hpr]; exact hlt
  have ih0 := Zfm b hb r (pre ++ [x]) o2 v (by rw [← hpr]; simp) h2 hv (by simp; omega)
  rw [← Z1, hc] at ih0
  refine Ev.succ ?_
  simp only [Z1H, Z8, Ze, decide_true, if_true, Int.toNat_natCast, Z3, hn, hc, hlo]
  refine Ev.bind (Zua x) ?_
  cases hg : geared x with
  | false =>
   simp only [Bool.not_false, if_true, groupsFrom, hg, Bool.false_and, Bool.false_eq_true, if_false]
   exact ih0
  | true =>
   simp only [Bool.not_true, Bool.false_eq_true, if_false]
   refine Ev.ite (fun h => ?_) (fun h => ?_)
   ·simp only [ge_iff_le, decide_eq_true_eq] at h
    have hno : ¬ List.getD o2 pre.length 0 < 0 := by omega
    simp only [groupsFrom, hg, Int.toNat_natCast, hno, decide_false, Bool.and_false, Bool.false_eq_true, if_false]
    exact ih0
   ·simp only [ge_iff_le, decide_eq_true_eq] at h
    have hno : List.getD o2 pre.length 0 < 0 := by omega
    have hul := ZJU (List.set o2 pre.length v)
    rw [List.length_set, h2, ← hpr] at hul
    have h4 := ZkK b hb v hv (pre ++ x :: r) ((pre ++ x :: r).length : Int) (pre.length : Int) 200 (List.set o2 pre.length v) [(pre.length : Int)] [] (fun m hm => by rw [List.mem_singleton.1 hm, ← hpr]; exact ⟨by omega, hlt⟩) (by rw [List.length_set]; exact h2) (by simp; omega) (by simp; omega)
    refine Ev.bind h4 ?_
    have ih := Zfm b hb r (pre ++ [x]) (bfs b v 200 (List.set o2 pre.length v) [(pre.length : Int)]) (v + 1) (by rw [← hpr]; simp) (by rw [Zy8, List.length_set]; exact h2) (by omega) (by simp; omega)
    rw [← Z1, hc] at ih
    show Ev (fun k => Z1H k b.1 b.2.1 b.2.2 (bfs b v 200 (List.set o2 pre.length v) [(pre.length : Int)]) (wrap64 (v + 1)) (pre ++ x :: r) ((pre ++ x :: r).length : Int) (wrap64 ((pre.length : Int) + 1))) _
    rw [w64 (n := v + 1) (by omega) (by omega), hn, hc]
    simp only [groupsFrom, hg, Int.toNat_natCast, hno, decide_true, Bool.and_self, if_true]
    exact ih
theorem ZnN (b : BoardD) (hb : boardOK b = true) : Ev (fun k => ZP k b) (groupsOf b) := by
 obtain ⟨g1, g2, g3, g4, g5, g6⟩ := ZN hb
 have hp := ZD g1 g2 g3 g4
 have hm : b.2.2.length * 8 ≤ 281474976710656 := by omega
 refine Ev.succ ?_
 simp only [ZP, Int.toNat_natCast, hm, if_true]
 refine Ev.bind (ZkO b _ (List.replicate b.2.2.length 0) [] rfl (by simp; omega)) ?_
 have hrep : ([] : List Int) ++ List.replicate (List.replicate b.2.2.length (0 : Int)).length (-1) = List.replicate b.2.2.length (-1) := by simp
 rw [hrep]
 exact Ev.bind (Zfm b hb b.2.2 [] (List.replicate b.2.2.length (-1)) 0 rfl (by simp) (by omega) (by simp)) (Ev.some _)
end
section
def fits (x : CellD) (kd : Int) : Bool := decide (kd = 2) || (decide (kd = 1) && turning x) || (decide (kd = 3) && (turning x || decide (x.1 = 1 ∨ x.1 = 2)))
theorem ZGl (x : CellD) (kd : Int) : Ev (fun k => ZfN k x kd) (fits x kd) := by
 refine Ev.succ ?_
 simp only [ZfN]
 refine Ev.ite (fun h => ?_) (fun h => ?_)
 ·simp only [decide_eq_true_eq] at h
  refine Ev.bind (Zgx x) (Ev.of ?_)
  simp [fits, h]
 ·simp only [decide_eq_true_eq] at h
  refine Ev.ite (fun h2 => ?_) (fun h2 => ?_)
  ·simp only [decide_eq_true_eq] at h2
   exact Ev.of (by simp [fits, h2])
  ·simp only [decide_eq_true_eq] at h2
   refine Ev.ite (fun h3 => ?_) (fun h3 => ?_)
   ·simp only [decide_eq_true_eq] at h3
    refine Ev.bind (Zgx x) (Ev.ite (fun h4 => ?_) (fun h4 => ?_))
    ·exact Ev.of (by simp [fits, h3, h4])
    ·refine Ev.of ?_
     simp only [Bool.not_eq_true] at h4
     by_cases h5 : x.1 = 1 <;> simp [fits, h3, h4, h5]
   ·simp only [decide_eq_true_eq] at h3
    exact Ev.of (by simp [fits, h, h2, h3])
theorem Zq6 (x : CellD) (kd : Int) (hx : cellOK x = true) : Ev (fun k => ZbP k x kd) (fits x kd) := by
 have ht : Ev (fun k => Z29 k x) (turning x) := by simpa [hx] using Zmk x
 refine Ev.succ ?_
 simp only [ZbP]
 refine Ev.ite (fun h => ?_) (fun h => ?_)
 ·simp only [decide_eq_true_eq] at h
  refine Ev.bind ht (Ev.of ?_)
  simp [fits, h]
 ·simp only [decide_eq_true_eq] at h
  refine Ev.ite (fun h2 => ?_) (fun h2 => ?_)
  ·simp only [decide_eq_true_eq] at h2
   exact Ev.of (by simp [fits, h2])
  ·simp only [decide_eq_true_eq] at h2
   refine Ev.ite (fun h3 => ?_) (fun h3 => ?_)
   ·simp only [decide_eq_true_eq] at h3
    refine Ev.bind ht (Ev.ite (fun h4 => ?_) (fun h4 => ?_))
    ·exact Ev.of (by simp [fits, h3, h4])
    ·refine Ev.of ?_
     simp only [Bool.not_eq_true] at h4
     by_cases h5 : x.1 = 1 <;> simp [fits, h3, h4, h5]
   ·simp only [decide_eq_true_eq] at h3
    exact Ev.of (by simp [fits, h, h2, h3])
def faultsOK (b : BoardD) : Int → List FaultD → Bool
 | _, [] => true
 | last, x :: r => decide (0 ≤ x.2.1 ∧ x.2.1 < b.1 ∧ 0 ≤ x.2.2 ∧ x.2.2 < b.2.1 ∧ last < x.2.1 * b.2.1 + x.2.2) && fits (List.getD b.2.2 (x.2.1 * b.2.1 + x.2.2).toNat (0, 0)) x.1 && faultsOK b (x.2.1 * b.2.1 + x.2.2) r
theorem ZjP (b : BoardD) (hb : boardOK b = true) : ∀ (r pre : List FaultD) (last : Int), (pre ++ r).length ≤ 9223372036854775806 → Ev (fun k => Z4H k b.1 b.2.1 b.2.2 last (pre ++ r) ((pre ++ r).length : Int) (pre.length : Int)) (if faultsOK b last r then LR.go () else LR.ret false)
 | [], pre, last, hl => by
  refine Ev.succ ?_
  simp only [Z4H, Za, decide_false, Bool.false_eq_true, if_false, faultsOK, if_true]
  exact Ev.some _
 | x :: r, pre, last, hl => by
  obtain ⟨g1, g2, g3, g4, g5, g6⟩ := ZN hb
  have hp := ZD g1 g2 g3 g4
  refine Ev.succ ?_
  simp only [Z4H, Z8, Ze, decide_true, if_true, Int.toNat_natCast, Z3]
  rw [Z7 pre x r (by omega)]
  refine Ev.bind (ZEp b _ _ (by omega)) (Ev.ite (fun h => Ev.of ?_) (fun h => ?_))
  ·rw [hb, Bool.true_and] at h
   have h : ¬ (0 ≤ x.2.1 ∧ x.2.1 < b.1 ∧ 0 ≤ x.2.2 ∧ x.2.2 < b.2.1) := nd h
   rw [if_neg (by simp only [faultsOK, Bool.and_eq_true, decide_eq_true_eq]; omega)]
  rw [hb, Bool.true_and] at h
  have h1 : 0 ≤ x.2.1 ∧ x.2.1 < b.1 ∧ 0 ≤ x.2.2 ∧ x.2.2 < b.2.1 := yd h
  have hp := Z8e hb h1.1 h1.2.1 h1.2.2.1 h1.2.2.2
  rw [w64 (n := x.2.1 * b.2.1) (by omega) (by omega), w64 (n := x.2.1 * b.2.1 + x.2.2) (by omega) (by omega)]
  refine Ev.ite (fun h => Ev.of ?_) (fun h => ?_)
  ·simp only [decide_eq_true_eq] at h
   rw [if_neg (by simp only [faultsOK, Bool.and_eq_true, decide_eq_true_eq]; omega)]
  simp only [decide_eq_true_eq] at h
  simp only [hp.1, hp.2.1, if_true]
  refine Ev.bind (Zq6 _ _ (g6 _ (Zlp hp.1 hp.2.1 _))) (Ev.ite (fun h => Ev.of ?_) (fun h => ?_))
  ·have h : fits (List.getD b.2.2 (x.2.1 * b.2.1 + x.2.2).toNat (0, 0)) x.1 = false := by simpa using h
   simp only [faultsOK, h, Bool.and_false, Bool.false_and, Bool.false_eq_true, if_false]
  have h3 : fits (List.getD b.2.2 (x.2.1 * b.2.1 + x.2.2).toNat (0, 0)) x.1 = true := by simpa using h
  have ih := ZjP b hb r (pre ++ [x]) (x.2.1 * b.2.1 + x.2.2) (by simpa using hl)
  rw [← Z1] at ih
  refine ih.congr ?_
  have h5 : 0 ≤ x.2.1 ∧ x.2.1 < b.1 ∧ 0 ≤ x.2.2 ∧ x.2.2 < b.2.1 ∧ last < x.2.1 * b.2.1 + x.2.2 := by omega
  simp only [faultsOK, h3, h5, and_self, decide_true, Bool.true_and]
theorem Zm0 (b : BoardD) (hb : boardOK b = true) (l : List FaultD) (hl : l.length ≤ 9223372036854775806) : Ev (fun k => Z9v k b l) (decide (l.length ≤ 4) && faultsOK b (-1) l) := by
 refine Ev.succ ?_
 simp only [Z9v]
 refine Ev.ite (fun h => Ev.of ?_) (fun h => ?_)
 ·simp only [decide_eq_true_eq] at h
  have : ¬ l.length ≤ 4 := by omega
  simp [this]
 simp only [decide_eq_true_eq] at h
 have h4 : l.length ≤ 4 := by omega
 refine Ev.bind (ZjP b hb l [] (-1) (by simpa using hl)) ?_
 simp only [h4, decide_true, Bool.true_and]
 cases hx : faultsOK b (-1) l with
 | true => simp only [if_true]; exact Ev.go (Ev.some _)
 | false => simp only [Bool.false_eq_true, if_false]; exact Ev.ret (Ev.some _)
end
section
def placeOf (b : BoardD) (f : FaultD) : Int := f.2.1 * b.2.1 + f.2.2
def kindsOf (b : BoardD) (l : List FaultD) (K : List Int) : List Int := l.foldl (fun K f => List.set K (placeOf b f).toNat f.1) K
def faAtD (r c d : Int) : List FaultD → Int
 | [] => d
 | f :: l => if f.2.1 = r ∧ f.2.2 = c then f.1 else faAtD r c d l
theorem ZfB {b : BoardD} {last : Int} {f : FaultD} {l : List FaultD} (h : faultsOK b last (f :: l) = true) : (0 ≤ f.2.1 ∧ f.2.1 < b.1 ∧ 0 ≤ f.2.2 ∧ f.2.2 < b.2.1 ∧ last < placeOf b f) ∧ faultsOK b (placeOf b f) l = true := by
 simp only [faultsOK, Bool.and_eq_true, decide_eq_true_eq] at h
 exact ⟨h.1.1, h.2⟩
theorem Zoi {b : BoardD} : ∀ {l : List FaultD} {last : Int}, faultsOK b last l = true → ∀ f ∈ l, 0 ≤ f.2.1 ∧ f.2.1 < b.1 ∧ 0 ≤ f.2.2 ∧ f.2.2 < b.2.1
 | [], _, _, f, hf => by cases hf
 | g :: l, last, h, f, hf => by
  obtain ⟨h1, h2⟩ := ZfB h
  rcases List.mem_cons.1 hf with rfl | hf
  ·exact ⟨h1.1, h1.2.1, h1.2.2.1, h1.2.2.2.1⟩
  ·exact Zoi h2 f hf
theorem ZG5 {C r c r' c' : Int} (h1 : 0 ≤ c) (h2 : c < C) (h3 : 0 ≤ c') (h4 : c' < C) (h : r * C + c = r' * C + c') : r = r' ∧ c = c' := by
 have key : ∀ {x y : Int}, x < y → x * C + C ≤ y * C := by
  intro x y hxy
  have := Int.mul_le_mul_of_nonneg_right (show x + 1 ≤ y by omega) (show 0 ≤ C by omega)
  rw [Int.add_mul, Int.one_mul] at this
  exact this
 rcases Int.lt_trichotomy r r' with hr | hr | hr
 ·have := key hr; omega
 ·subst hr; omega
 ·have := key hr; omega
theorem ZAh {b : BoardD} {r c : Int} (d : Int) : ∀ {l : List FaultD} {last : Int}, faultsOK b last l = true → r * b.2.1 + c ≤ last → faAtD r c d l = d
 | [], _, _, _ => rfl
 | f :: l, last, h, hp => by
  obtain ⟨h1, h2⟩ := ZfB h
  unfold placeOf at h1 h2
  simp only [faAtD]
  rw [if_neg (by rintro ⟨rfl, rfl⟩; omega)]
  exact ZAh d h2 (by omega)
theorem ZAa (b : BoardD) : ∀ (l : List FaultD) (K : List Int), (kindsOf b l K).length = K.length
 | [], _ => rfl
 | f :: l, K => by
  show (kindsOf b l (List.set K (placeOf b f).toNat f.1)).length = _
  rw [ZAa b l, List.length_set]
theorem ZAu {α : Type} (l : List α) (i j : Nat) (x d : α) (hi : i < l.length) : List.getD (List.set l i x) j d = if i = j then x else List.getD l j d := by
 simp only [List.getD, List.getElem?_set]
 by_cases h : i = j
 ·subst h; simp [hi]
 ·simp [h]
theorem Zt8 {b : BoardD} (hb : boardOK b = true) {r c : Int} (h1 : 0 ≤ r) (h2 : r < b.1) (h3 : 0 ≤ c) (h4 : c < b.2.1) : ∀ {l : List FaultD} {last : Int} {K : List Int}, faultsOK b last l = true → K.length = b.2.2.length → List.getD (kindsOf b l K) (r * b.2.1 + c).toNat 0 = faAtD r c (List.getD K (r * b.2.1 + c).toNat 0) l
 | [], _, _, _, _ => rfl
 | f :: l, last, K, h, hK => by
  obtain ⟨g1, g2⟩ := ZfB h
  have hp := Z8e hb h1 h2 h3 h4
  have hf := Z8e hb g1.1 g1.2.1 g1.2.2.1 g1.2.2.2.1
  show List.getD (kindsOf b l (List.set K (placeOf b f).toNat f.1)) _ 0 = _
  rw [Zt8 hb h1 h2 h3 h4 g2 (by rw [List.length_set]; exact hK)]
  rw [ZAu _ _ _ _ _ (by unfold placeOf; omega)]
  simp only [faAtD]
  by_cases hm : f.2.1 = r ∧ f.2.2 = c
  ·rw [if_pos hm, if_pos (by unfold placeOf; rw [hm.1, hm.2])]
   exact ZAh _ g2 (by unfold placeOf; rw [hm.1, hm.2]; omega)
  ·rw [if_neg hm, if_neg (fun he => hm (ZG5 g1.2.2.1 g1.2.2.2.1 h3 h4 (by unfold placeOf at he; omega)))]
theorem Zh2 (b : BoardD) (hb : boardOK b = true) : ∀ (r pre : List FaultD) (K : List Int), (∀ f ∈ r, 0 ≤ f.2.1 ∧ f.2.1 < b.1 ∧ 0 ≤ f.2.2 ∧ f.2.2 < b.2.1) → (pre ++ r).length ≤ 9223372036854775806 → K.length = b.2.2.length → Ev (fun k => Z2Y k b.1 b.2.1 b.2.2 K (pre ++ r) ((pre ++ r).length : Int) (pre.length : Int)) (kindsOf b r K)
 | [], pre, K, hr, hl, hK => by
  refine Ev.succ ?_
  simp only [Z2Y, Za, decide_false, Bool.false_eq_true, if_false]
  exact Ev.some _
 | f :: r, pre, K, hr, hl, hK => by
  obtain ⟨k1, k2, k3, k4⟩ := hr f (List.mem_cons_self ..)
  have hp := Z8e hb k1 k2 k3 k4
  have hpK : f.2.1 * b.2.1 + f.2.2 < (K.length : Int) := by omega
  have ih := Zh2 b hb r (pre ++ [f]) (List.set K (placeOf b f).toNat f.1) (fun g hg => hr g (List.mem_cons_of_mem _ hg)) (by simpa using hl) (by rw [List.length_set]; exact hK)
  refine Ev.succ ?_
  simp only [Z2Y, Z8, Ze, decide_true, if_true, Int.toNat_natCast, Z3]
  rw [Z7 pre f r (by omega), w64 (n := f.2.1 * b.2.1) (by omega) (by omega), w64 (n := f.2.1 * b.2.1 + f.2.2) (by omega) (by omega)]
  simp only [hp.1, hpK, if_true]
  rw [← Z1] at ih
  exact ih
def kindsB (b : BoardD) (l : List FaultD) : List Int := kindsOf b l (List.replicate b.2.2.length 0)
theorem ZKi (b : BoardD) (l : List FaultD) : (kindsB b l).length = b.2.2.length := by unfold kindsB; rw [ZAa]; simp
theorem Zv6 (b : BoardD) (hb : boardOK b = true) (l : List FaultD) (hl : faultsOK b (-1) l = true) (hlen : l.length ≤ 9223372036854775806) : Ev (fun k => Z9F k b l) (kindsB b l) := by
 obtain ⟨g1, g2, g3, g4, g5, g6⟩ := ZN hb
 have hp := ZD g1 g2 g3 g4
 have hm : b.2.2.length * 8 ≤ 281474976710656 := by omega
 refine Ev.succ ?_
 simp only [Z9F, Int.toNat_natCast, hm, if_true]
 exact Ev.bind (Zh2 b hb l [] _ (Zoi hl) (by simpa using hlen) (by simp)) (Ev.some _)
theorem Zkx (r c : Int) : ∀ (l pre : List FaultD), (pre ++ l).length ≤ 9223372036854775806 → ∀ {z : LR Unit Int}, (z = LR.go () ∧ faAtD r c 0 l = 0 ∨ z = LR.ret (faAtD r c 0 l)) → (∀ f ∈ l, ¬ (f.2.1 = r ∧ f.2.2 = c)) ∧ z = LR.go () ∨ (∃ f ∈ l, f.2.1 = r ∧ f.2.2 = c) ∧ z = LR.ret (faAtD r c 0 l) → Ev (fun k => Z5I k r c (pre ++ l) ((pre ++ l).length : Int) (pre.length : Int)) z
 | [], pre, hl, z, _, hz => by
  refine Ev.succ ?_
  simp only [Z5I, Za, decide_false, Bool.false_eq_true, if_false]
  rcases hz with ⟨_, rfl⟩ | ⟨⟨f, hf, _⟩, _⟩
  ·exact Ev.some _
  ·cases hf
 | f :: l, pre, hl, z, hz0, hz => by
  have hn := Z7 pre f l (by omega)
  have hl' : ((pre ++ [f]) ++ l).length ≤ 9223372036854775806 := by simpa using hl
  refine Ev.succ ?_
  simp only [Z5I, Z8, Ze, decide_true, if_true, Int.toNat_natCast, Z3, hn]
  by_cases hm : f.2.1 = r ∧ f.2.2 = c
  ·simp only [hm.1, hm.2, decide_true, if_true]
   rcases hz with ⟨h, _⟩ | ⟨_, rfl⟩
   ·exact absurd hm (h f (List.mem_cons_self ..))
   ·simp only [faAtD, hm, and_self, if_true]; exact Ev.some _
  ·have hfa : faAtD r c 0 (f :: l) = faAtD r c 0 l := by simp only [faAtD]; rw [if_neg hm]
   have ih : Ev (fun k => Z5I k r c (pre ++ f :: l) ((pre ++ f :: l).length : Int) ((pre ++ [f]).length : Int)) z := by
    rw [Z1]
    refine Zkx r c l (pre ++ [f]) hl' (by rw [← hfa]; exact hz0) ?_
    rcases hz with ⟨h, h2⟩ | ⟨⟨g, hg, hgm⟩, h2⟩
    ·exact .inl ⟨fun g hg => h g (List.mem_cons_of_mem _ hg), h2⟩
    ·rcases List.mem_cons.1 hg with rfl | hg
     ·exact absurd hgm hm
     ·exact .inr ⟨⟨g, hg, hgm⟩, by rw [← hfa]; exact h2⟩
   refine Ev.ite (fun g1 => Ev.ite (fun g2 => ?_) (fun _ => ih)) (fun _ => ih)
   simp only [decide_eq_true_eq] at g1 g2
   exact absurd ⟨g1, g2⟩ hm
theorem ZCU {r c d : Int} : ∀ {l : List FaultD}, (∀ f ∈ l, ¬ (f.2.1 = r ∧ f.2.2 = c)) → faAtD r c d l = d
 | [], _ => rfl
 | f :: l, h => by
  simp only [faAtD]
  rw [if_neg (h f (List.mem_cons_self ..))]
  exact ZCU (fun g hg => h g (List.mem_cons_of_mem _ hg))
theorem ZJA (l : List FaultD) (r c : Int) (hl : l.length ≤ 9223372036854775806) : Ev (fun k => ZjC k l r c) (faAtD r c 0 l) := by
 refine Ev.succ ?_
 simp only [ZjC]
 by_cases h : ∃ f ∈ l, f.2.1 = r ∧ f.2.2 = c
 ·exact Ev.bind (Zkx r c l [] (by simpa using hl) (z := LR.ret (faAtD r c 0 l)) (.inr rfl) (.inr ⟨h, rfl⟩)) (Ev.ret (Ev.some _))
 ·have h' : ∀ f ∈ l, ¬ (f.2.1 = r ∧ f.2.2 = c) := fun f hf hm => h ⟨f, hf, hm⟩
  have h0 := ZCU (d := 0) h'
  refine Ev.bind (Zkx r c l [] (by simpa using hl) (z := LR.go ()) (.inl ⟨rfl, h0⟩) (.inl ⟨h', rfl⟩)) ?_
  rw [h0]
  exact Ev.go (Ev.some _)
def flip1 (x : CellD) : CellD := (x.1, 1 - x.2)
def turnGo (G K : List Int) (at' : Nat) (ka : Int) : Nat → List CellD → List CellD
 | _, [] => []
 | i, x :: r => (if (i = at' ∨ (ka = 6 ∧ x.1 = 6 ∧ List.getD G i 0 = List.getD G at' 0)) ∧ List.getD K i 0 ≠ 1 then flip1 x else x) :: turnGo G K at' ka (i + 1) r
def passGo (G : List Int) (ga : Int) : Nat → List CellD → List CellD
 | _, [] => []
 | i, x :: r => (if x.1 = 6 ∧ List.getD G i 0 = ga then flip1 x else x) :: passGo G ga (i + 1) r
theorem Zeh {x : CellD} (h : cellOK x = true) : 0 ≤ x.1 ∧ x.1 ≤ 7 ∧ (x.2 = 0 ∨ x.2 = 1) := by
 unfold cellOK at h
 simp only [decide_eq_true_eq] at h
 omega
theorem ZLa {p r : List CellD} {x y d : CellD} (h : y.1 = x.1) (n : Nat) : (List.getD (p ++ y :: r) n d).1 = (List.getD (p ++ x :: r) n d).1 := by
 simp only [List.getD]
 rcases Nat.lt_trichotomy n p.length with hn | hn | hn
 ·rw [List.getElem?_append_left hn, List.getElem?_append_left hn]
 ·subst hn; simp [h]
 ·rw [List.getElem?_append_right (by omega), List.getElem?_append_right (by omega)]
  have : ∃ m, n - p.length = m + 1 := ⟨n - p.length - 1, by omega⟩
  obtain ⟨m, hm⟩ := this
  rw [hm]
  rfl
theorem ZiL (R C : Int) (G K : List Int) (at' : Nat) (ka : Int) : ∀ (r pre : List CellD), (pre ++ r).length ≤ 1000 → at' < (pre ++ r).length → G.length = (pre ++ r).length → K.length = (pre ++ r).length → (List.getD (pre ++ r) at' (0, 0)).1 = ka → (∀ x ∈ r, cellOK x = true) →
  Ev (fun k => Zh k (pre ++ r) R C G K (at' : Int) ((pre ++ r).length : Int) (pre.length : Int)) (pre ++ turnGo G K at' ka pre.length r)
 | [], pre, hl, ha, hG, hK, hka, hx => by
  refine Ev.succ ?_
  simp only [Zh, Za, decide_false, Bool.false_eq_true, if_false, turnGo]
  exact Ev.some _
 | x :: r, pre, hl, ha, hG, hK, hka, hx => by
  have hn := Z7 pre x r (by omega)
  have hlt := Z8 pre x r
  have hGl : (pre.length : Int) < (G.length : Int) := by rw [hG]; exact hlt
  have hKl : (pre.length : Int) < (K.length : Int) := by rw [hK]; exact hlt
  have ha0 : (0 : Int) ≤ (at' : Int) := Int.natCast_nonneg _
  have ha1 : (at' : Int) < ((pre ++ x :: r).length : Int) := by omega
  have haG : (at' : Int) < (G.length : Int) := by rw [hG]; exact ha1
  obtain ⟨c1, c2, c3⟩ := Zeh (hx x (List.mem_cons_self ..))
  have hr' : ∀ y ∈ r, cellOK y = true := fun y hy => hx y (List.mem_cons_of_mem _ hy)
  have next : ∀ y : CellD, y.1 = x.1 → Ev (fun k => Zh k (pre ++ y :: r) R C G K (at' : Int) ((pre ++ x :: r).length : Int) ((pre ++ [x]).length : Int)) (pre ++ y :: turnGo G K at' ka (pre.length + 1) r) := by
   intro y hy
   have ih := ZiL R C G K at' ka r (pre ++ [y]) (by simpa using hl) (by simpa using ha) (by simpa using hG) (by simpa using hK) (by rw [← Z1, ZLa hy]; exact hka) hr'
   have e1 : ((pre ++ [y] ++ r).length : Int) = ((pre ++ x :: r).length : Int) := by simp
   have e2 : ((pre ++ [y]).length : Int) = ((pre ++ [x]).length : Int) := by simp
   have e3 : (pre ++ [y]).length = pre.length + 1 := by simp
   rw [e1, e2, e3, ← Z1, ← Z1] at ih
   exact ih
  refine Ev.succ ?_
  simp only [Zh, Z8, Ze, decide_true, if_true, Int.toNat_natCast, Z3, Zrw, hn, hGl, hKl, ha0, ha1, haG, hka]
  rw [w64 (n := 1 - x.2) (by omega) (by omega)]
  simp only [turnGo]
  by_cases hia : pre.length = at'
  ·have hia' : (pre.length : Int) = (at' : Int) := by omega
   simp only [hia', decide_true, if_true]
   rw [← hia]
   refine Ev.ite (fun h => ?_) (fun h => ?_)
   ·simp only [ne_eq, decide_eq_true_eq] at h
    rw [if_pos ⟨.inl rfl, h⟩]
    have := next (flip1 x) rfl
    rw [← hia] at this
    exact this
   ·simp only [ne_eq, decide_eq_true_eq, Decidable.not_not] at h
    rw [if_neg (fun hc => hc.2 h)]
    have := next x rfl
    rw [← hia] at this
    exact this
  ·have hia' : ¬ (pre.length : Int) = (at' : Int) := by omega
   simp only [hia', decide_false, Bool.false_eq_true, if_false]
   have no : ¬ (ka = 6 ∧ x.1 = 6 ∧ List.getD G pre.length 0 = List.getD G at' 0) → Ev (fun k => Zh k (pre ++ x :: r) R C G K (at' : Int) ((pre ++ x :: r).length : Int) ((pre ++ [x]).length : Int)) (pre ++ (if (pre.length = at' ∨ (ka = 6 ∧ x.1 = 6 ∧ List.getD G pre.length 0 = List.getD G at' 0)) ∧ List.getD K pre.length 0 ≠ 1 then flip1 x else x) :: turnGo G K at' ka (pre.length + 1) r) := by
    intro hno
    rw [if_neg (fun hc => hc.1.elim hia hno)]
    exact next x rfl
   refine Ev.ite (fun h1 => ?_) (fun h1 => no (fun hc => h1 (decide_eq_true hc.1)))
   refine Ev.ite (fun h2 => ?_) (fun h2 => no (fun hc => h2 (decide_eq_true hc.2.1)))
   refine Ev.ite (fun h3 => ?_) (fun h3 => no (fun hc => h3 (decide_eq_true hc.2.2)))
   simp only [decide_eq_true_eq] at h1 h2 h3
   refine Ev.ite (fun h => ?_) (fun h => ?_)
   ·simp only [ne_eq, decide_eq_true_eq] at h
    rw [if_pos ⟨.inr ⟨h1, h2, h3⟩, h⟩]
    exact next (flip1 x) rfl
   ·simp only [ne_eq, decide_eq_true_eq, Decidable.not_not] at h
    rw [if_neg (fun hc => hc.2 h)]
    exact next x rfl
def turnAt (G K : List Int) (at' : Nat) (o : List CellD) : List CellD := turnGo G K at' (List.getD o at' (0, 0)).1 0 o
theorem ZzF (R C : Int) (o : List CellD) (G K : List Int) (at' : Nat) (hl : o.length ≤ 1000) (ha : at' < o.length) (hG : G.length = o.length) (hK : K.length = o.length) (hx : ∀ x ∈ o, cellOK x = true) : Ev (fun k => Z5t k (R, C, o) G K (at' : Int)) (turnAt G K at' o) := by
 refine Ev.succ ?_
 simp only [Z5t]
 exact Ev.bind (ZiL R C G K at' _ o [] hl ha hG hK rfl hx) (Ev.some _)
theorem Zub (x : CellD) (h : cellOK x = true) : Ev (fun k => ZcR k x) (flip1 x) := by
 obtain ⟨c1, c2, c3⟩ := Zeh h
 refine Ev.succ ?_
 simp only [ZcR]
 rw [w64 (n := 1 - x.2) (by omega) (by omega)]
 exact Ev.some _
theorem ZnC (R C : Int) (G : List Int) (at' : Nat) : ∀ (r pre : List CellD), (pre ++ r).length ≤ 1000 → at' < (pre ++ r).length → G.length = (pre ++ r).length → (∀ x ∈ r, cellOK x = true) →
  Ev (fun k => Z2K k (pre ++ r) R C G (at' : Int) ((pre ++ r).length : Int) (pre.length : Int)) (pre ++ passGo G (List.getD G at' 0) pre.length r)
 | [], pre, hl, ha, hG, hx => by
  refine Ev.succ ?_
  simp only [Z2K, Za, decide_false, Bool.false_eq_true, if_false, passGo]
  exact Ev.some _
 | x :: r, pre, hl, ha, hG, hx => by
  have hn := Z7 pre x r (by omega)
  have hlt := Z8 pre x r
  have hGl : (pre.length : Int) < (G.length : Int) := by rw [hG]; exact hlt
  have ha0 : (0 : Int) ≤ (at' : Int) := Int.natCast_nonneg _
  have ha1 : (at' : Int) < ((pre ++ x :: r).length : Int) := by omega
  have haG : (at' : Int) < (G.length : Int) := by rw [hG]; exact ha1
  have hr' : ∀ y ∈ r, cellOK y = true := fun y hy => hx y (List.mem_cons_of_mem _ hy)
  have next : ∀ y : CellD, Ev (fun k => Z2K k (pre ++ y :: r) R C G (at' : Int) ((pre ++ x :: r).length : Int) ((pre ++ [x]).length : Int)) (pre ++ y :: passGo G (List.getD G at' 0) (pre.length + 1) r) := by
   intro y
   have ih := ZnC R C G at' r (pre ++ [y]) (by simpa using hl) (by simpa using ha) (by simpa using hG) hr'
   have e1 : ((pre ++ [y] ++ r).length : Int) = ((pre ++ x :: r).length : Int) := by simp
   have e2 : ((pre ++ [y]).length : Int) = ((pre ++ [x]).length : Int) := by simp
   have e3 : (pre ++ [y]).length = pre.length + 1 := by simp
   rw [e1, e2, e3, ← Z1, ← Z1] at ih
   exact ih
  refine Ev.succ ?_
  simp only [Z2K, Z8, Ze, decide_true, if_true, Int.toNat_natCast, Z3, Zrw, hn, hGl, ha0, haG]
  simp only [passGo]
  refine Ev.ite (fun h1 => Ev.ite (fun h2 => ?_) (fun h2 => ?_)) (fun h1 => ?_)
  ·simp only [decide_eq_true_eq] at h1 h2
   rw [if_pos ⟨h1, h2⟩]
   exact Ev.bind (Zub x (hx x (List.mem_cons_self ..))) (next (flip1 x))
  ·simp only [decide_eq_true_eq] at h2
   rw [if_neg (fun hc => h2 hc.2)]
   exact next x
  ·simp only [decide_eq_true_eq] at h1
   rw [if_neg (fun hc => h1 hc.1)]
   exact next x
def passAt (G : List Int) (at' : Nat) (o : List CellD) : List CellD := if (List.getD o at' (0, 0)).1 = 3 then List.set o at' (flip1 (List.getD o at' (0, 0))) else if (List.getD o at' (0, 0)).1 = 6 then passGo G (List.getD G at' 0) 0 o else o
theorem Ztz (R C : Int) (o : List CellD) (G : List Int) (at' : Nat) (hl : o.length ≤ 1000) (ha : at' < o.length) (hG : G.length = o.length) (hx : ∀ x ∈ o, cellOK x = true) : Ev (fun k => Za6 k (R, C, o) G (at' : Int)) (passAt G at' o) := by
 have ha0 : (0 : Int) ≤ (at' : Int) := Int.natCast_nonneg _
 have ha1 : (at' : Int) < (o.length : Int) := by omega
 refine Ev.succ ?_
 simp only [Za6, ha0, ha1, if_true, Int.toNat_natCast]
 unfold passAt
 refine Ev.ite (fun h1 => ?_) (fun h1 => Ev.ite (fun h2 => ?_) (fun h2 => ?_))
 ·simp only [decide_eq_true_eq] at h1
  rw [if_pos h1]
  exact Ev.bind (Zub _ (hx _ (Zlp ha0 ha1 _))) (Ev.some _)
 ·simp only [decide_eq_true_eq] at h1 h2
  rw [if_neg h1, if_pos h2]
  exact Ev.bind (ZnC R C G at' o [] hl ha hG hx) (Ev.some _)
 ·simp only [decide_eq_true_eq] at h1 h2
  rw [if_neg h1, if_neg h2]
  exact Ev.some _
theorem Zte (G K : List Int) (at' : Nat) (ka : Int) : ∀ (l : List CellD) (i : Nat), (turnGo G K at' ka i l).length = l.length
 | [], _ => rfl
 | x :: r, i => by simp [turnGo, Zte G K at' ka r]
theorem ZDv (G : List Int) (ga : Int) : ∀ (l : List CellD) (i : Nat), (passGo G ga i l).length = l.length
 | [], _ => rfl
 | x :: r, i => by simp [passGo, ZDv G ga r]
theorem Zec (G K : List Int) (at' : Nat) (ka : Int) : ∀ (l : List CellD) (j i : Nat), (turnGo G K at' ka j l)[i]? = l[i]?.map fun x => if (j + i = at' ∨ (ka = 6 ∧ x.1 = 6 ∧ List.getD G (j + i) 0 = List.getD G at' 0)) ∧ List.getD K (j + i) 0 ≠ 1 then flip1 x else x
 | [], _, i => by simp [turnGo]
 | x :: r, j, 0 => by simp [turnGo]
 | x :: r, j, i + 1 => by
  simp only [turnGo, List.getElem?_cons_succ]
  rw [Zec G K at' ka r (j + 1) i, show j + 1 + i = j + (i + 1) by omega]
theorem ZG0 (G : List Int) (ga : Int) : ∀ (l : List CellD) (j i : Nat), (passGo G ga j l)[i]? = l[i]?.map fun x => if x.1 = 6 ∧ List.getD G (j + i) 0 = ga then flip1 x else x
 | [], _, i => by simp [passGo]
 | x :: r, j, 0 => by simp [passGo]
 | x :: r, j, i + 1 => by
  simp only [passGo, List.getElem?_cons_succ]
  rw [ZG0 G ga r (j + 1) i, show j + 1 + i = j + (i + 1) by omega]
def restore (b : BoardD) (l : List FaultD) (o : List CellD) : List CellD := l.foldl (fun o f => if f.1 = 1 then List.set o (placeOf b f).toNat (List.getD b.2.2 (placeOf b f).toNat (0, 0)) else o) o
theorem ZoB (b : BoardD) : ∀ (l : List FaultD) (o : List CellD), (restore b l o).length = o.length
 | [], _ => rfl
 | f :: l, o => by
  show (restore b l (if f.1 = 1 then _ else _)).length = _
  rw [ZoB b l]
  split <;> simp
theorem Zsh (b : BoardD) : ∀ (l : List FaultD) (o : List CellD) (i : Nat), i < o.length → (restore b l o)[i]? = if ∃ f ∈ l, f.1 = 1 ∧ (placeOf b f).toNat = i then some (List.getD b.2.2 i (0, 0)) else o[i]?
 | [], o, i, hi => by rw [if_neg (by rintro ⟨f, hf, _⟩; cases hf)]; rfl
 | f :: l, o, i, hi => by
  show (restore b l (if f.1 = 1 then _ else _))[i]? = _
  by_cases hf : f.1 = 1
  ·rw [if_pos hf, Zsh b l _ i (by rw [List.length_set]; exact hi)]
   by_cases h : ∃ g ∈ l, g.1 = 1 ∧ (placeOf b g).toNat = i
   ·rw [if_pos h]
    obtain ⟨g, hg, h2⟩ := h
    rw [if_pos ⟨g, List.mem_cons_of_mem _ hg, h2⟩]
   ·rw [if_neg h]
    by_cases hp : (placeOf b f).toNat = i
    ·rw [if_pos ⟨f, List.mem_cons_self .., hf, hp⟩, hp, List.getElem?_set_self hi]
    ·rw [List.getElem?_set_ne hp, if_neg (by
      rintro ⟨g, hg, h2, h3⟩
      rcases List.mem_cons.1 hg with rfl | hg
      ·exact hp h3
      ·exact h ⟨g, hg, h2, h3⟩)]
  ·rw [if_neg hf, Zsh b l o i hi]
   by_cases h : ∃ g ∈ l, g.1 = 1 ∧ (placeOf b g).toNat = i
   ·rw [if_pos h]
    obtain ⟨g, hg, h2⟩ := h
    rw [if_pos ⟨g, List.mem_cons_of_mem _ hg, h2⟩]
   ·rw [if_neg h, if_neg (by
      rintro ⟨g, hg, h2, h3⟩
      rcases List.mem_cons.1 hg with rfl | hg
      ·exact hf h2
      ·exact h ⟨g, hg, h2, h3⟩)]
theorem ZG8 {r c : Int} : ∀ {l : List FaultD} {f : FaultD}, f ∈ l → f.2.1 = r → f.2.2 = c → ∀ {b : BoardD} {last : Int}, faultsOK b last l = true → faAtD r c 0 l = f.1
 | g :: l, f, hf, h1, h2, b, last, hok => by
  obtain ⟨k1, k2⟩ := ZfB hok
  simp only [faAtD]
  rcases List.mem_cons.1 hf with rfl | hf
  ·rw [if_pos ⟨h1, h2⟩]
  ·have hno : ¬ (g.2.1 = r ∧ g.2.2 = c) := by
    rintro ⟨e1, e2⟩
    have key : ∀ {l : List FaultD} {last : Int}, faultsOK b last l = true → ∀ f ∈ l, last < placeOf b f := by
     intro l
     induction l with
     | nil => intro last _ f hf; cases hf
     | cons g l ih =>
      intro last h f hf
      obtain ⟨a1, a2⟩ := ZfB h
      rcases List.mem_cons.1 hf with rfl | hf
      ·exact a1.2.2.2.2
      ·have := ih a2 f hf; omega
    have := key k2 f hf
    unfold placeOf at this
    rw [h1, h2, e1, e2] at this
    omega
   rw [if_neg hno]
   exact ZG8 hf h1 h2 k2
theorem ZG6 {r c : Int} : ∀ {l : List FaultD}, faAtD r c 0 l = 1 → ∃ f ∈ l, f.1 = 1 ∧ f.2.1 = r ∧ f.2.2 = c
 | [], h => by simp [faAtD] at h
 | f :: l, h => by
  simp only [faAtD] at h
  split at h
  ·rename_i hm
   exact ⟨f, List.mem_cons_self .., h, hm.1, hm.2⟩
  ·obtain ⟨g, hg, h2⟩ := ZG6 h
   exact ⟨g, List.mem_cons_of_mem _ hg, h2⟩
theorem ZKJ {b : BoardD} (hb : boardOK b = true) {l : List FaultD} (hl : faultsOK b (-1) l = true) {i : Nat} (hi : i < b.2.2.length) : List.getD (kindsB b l) i 0 = 1 ↔ ∃ f ∈ l, f.1 = 1 ∧ (placeOf b f).toNat = i := by
 obtain ⟨q, m, t, hq, hm, k1, k2, k3, k4, k5, k6, k7, k8, k9⟩ := ZjJ hb (i := (i : Int)) (by omega) (by omega)
 have hC : 0 < b.2.1 := by omega
 have e0 : Int.tdiv (i : Int) b.2.1 = (i : Int) / b.2.1 := Int.tdiv_eq_ediv_of_nonneg (by omega)
 have e1 : Int.tmod (i : Int) b.2.1 = (i : Int) % b.2.1 := Int.tmod_eq_emod_of_nonneg (by omega)
 have e2 := Int.mul_ediv_add_emod (i : Int) b.2.1
 rw [← e0, ← e1, hq, hm] at e2
 have hi2 : (i : Int) = q * b.2.1 + m := by rw [Int.mul_comm]; omega
 have hi3 : i = (q * b.2.1 + m).toNat := by omega
 have hk : List.getD (kindsB b l) i 0 = faAtD q m 0 l := by
  unfold kindsB
  rw [hi3, Zt8 hb k4 k5 k2 k3 hl (by simp)]
  congr 1
  simp only [List.getD, List.getElem?_replicate]
  split <;> rfl
 rw [hk]
 constructor
 ·intro h
  obtain ⟨f, hf, h1, h2, h3⟩ := ZG6 h
  exact ⟨f, hf, h1, by unfold placeOf; rw [h2, h3]; exact hi3.symm⟩
 ·rintro ⟨f, hf, h1, h2⟩
  obtain ⟨o1, o2, o3, o4⟩ := Zoi hl f hf
  have hp := Z8e hb o1 o2 o3 o4
  have := ZG5 o3 o4 k2 k3 (show f.2.1 * b.2.1 + f.2.2 = q * b.2.1 + m by unfold placeOf at h2; omega)
  rw [ZG8 hf this.1 this.2 hl, h1]
def stepAt (G K : List Int) (at' : Nat) (o : List CellD) : List CellD := if turning (List.getD o at' (0, 0)) then turnAt G K at' o else o
theorem ZxF {b : BoardD} (hb : boardOK b = true) {l : List FaultD} (hl : faultsOK b (-1) l = true) (G : List Int) {at' : Nat} {o : List CellD} (ho : o.length = b.2.2.length) (ha : at' < o.length) (hs : ∀ i, i < o.length → List.getD (kindsB b l) i 0 = 1 → o[i]? = some (List.getD b.2.2 i (0, 0))) :
  restore b l (passAt G at' o) = stepAt G (kindsB b l) at' o := by
 have hpl : (passAt G at' o).length = o.length := by
  unfold passAt; split
  ·simp
  ·split
   ·exact ZDv _ _ _ _
   ·rfl
 apply List.ext_getElem?
 intro i
 rcases Nat.lt_or_ge i o.length with hi | hi
 ·rw [Zsh b l _ i (by rw [hpl]; exact hi)]
  have hst := ZKJ hb hl (i := i) (by omega)
  have hox : o[i]? = some o[i] := List.getElem?_eq_getElem hi
  have hax : List.getD o at' (0, 0) = o[at'] := by simp [List.getD, List.getElem?_eq_getElem ha]
  by_cases hk : List.getD (kindsB b l) i 0 = 1
  ·rw [if_pos (hst.1 hk), ← hs i hi hk]
   unfold stepAt turnAt
   split
   ·rw [Zec, hox, Option.map_some, if_neg (fun hc => hc.2 (by rw [Nat.zero_add]; exact hk))]
   ·rfl
  ·rw [if_neg (fun h => hk (hst.2 h))]
   unfold stepAt turnAt passAt turning
   rw [hax]
   by_cases h3 : (o[at']).1 = 3
   ·simp only [h3, true_or, decide_true, if_true]
    rw [Zec, hox, Option.map_some, Nat.zero_add]
    by_cases hia : at' = i
    ·subst hia
     rw [List.getElem?_set_self hi, if_pos ⟨.inl rfl, hk⟩]
    ·have hno : ¬ ((i = at' ∨ ((3 : Int) = 6 ∧ (o[i]).1 = 6 ∧ List.getD G i 0 = List.getD G at' 0)) ∧ List.getD (kindsB b l) i 0 ≠ 1) := by
      rintro ⟨h | ⟨h, _⟩, _⟩
      ·exact hia h.symm
      ·omega
     rw [List.getElem?_set_ne hia, hox, if_neg hno]
   ·by_cases h6 : (o[at']).1 = 6
    ·have h36 : ¬ (6 : Int) = 3 := by omega
     simp only [h6, h36, or_true, decide_true, if_true, if_false]
     rw [Zec, ZG0, hox, Option.map_some, Option.map_some, Nat.zero_add]
     congr 1
     by_cases hc : (o[i]).1 = 6 ∧ List.getD G i 0 = List.getD G at' 0
     ·rw [if_pos hc, if_pos ⟨.inr ⟨rfl, hc⟩, hk⟩]
     ·rw [if_neg hc, if_neg (by
       rintro ⟨h | ⟨_, h⟩, _⟩
       ·subst h; exact hc ⟨h6, rfl⟩
       ·exact hc h)]
    ·simp only [h3, h6, or_self, decide_false, Bool.false_eq_true, if_false]
 ·rw [List.getElem?_eq_none (by rw [ZoB, hpl]; exact hi), List.getElem?_eq_none ?_]
  unfold stepAt turnAt
  split
  ·rw [Zte]; exact hi
  ·exact hi
end
section
abbrev FallD := Int × Int × Int
def goesOf (x : CellD) (side : Int) : Int := if x.1 = 1 then -1 else if x.1 = 2 then 1 else if x.1 = 3 then 2 * x.2 - 1 else if x.1 = 6 then 2 * x.2 - 1 else if x.1 = 4 then 0 - side else 0
theorem Zoj {x : CellD} (hx : cellOK x = true) {side : Int} (h1 : -1 ≤ side) (h2 : side ≤ 1) : -1 ≤ goesOf x side ∧ goesOf x side ≤ 1 := by
 obtain ⟨c1, c2, c3⟩ := Zeh hx
 unfold goesOf
 repeat' split
 all_goals omega
theorem ZtV (x : CellD) (side : Int) (hx : cellOK x = true) (h1 : -1 ≤ side) (h2 : side ≤ 1) : Ev (fun k => Zd2 k x side) (if x.1 = 5 then (0, false) else (goesOf x side, true)) := by
 obtain ⟨c1, c2, c3⟩ := Zeh hx
 have n1 : ¬ side < -1 := by omega
 have n2 : ¬ side > 1 := by omega
 refine Ev.succ ?_
 simp only [Zd2]
 refine Ev.bind (ZfW x) ?_
 simp only [hx, Bool.not_true, Bool.false_eq_true, if_false, n1, n2, decide_false]
 rw [w64 (n := 2 * x.2) (by omega) (by omega), w64 (n := 2 * x.2 - 1) (by omega) (by omega), w64 (n := 0 - side) (by omega) (by omega)]
 refine Ev.of ?_
 unfold goesOf
 by_cases a5 : x.1 = 5
 ·simp [a5]
 ·by_cases a1 : x.1 = 1 <;> by_cases a2 : x.1 = 2 <;> by_cases a3 : x.1 = 3 <;> by_cases a6 : x.1 = 6 <;> by_cases a4 : x.1 = 4 <;> simp [a1, a2, a3, a4, a5, a6]
theorem ZtQ (x : CellD) (side : Int) (hx : cellOK x = true) (h1 : -1 ≤ side) (h2 : side ≤ 1) : Ev (fun k => Za7 k x side) (goesOf x side) := by
 obtain ⟨c1, c2, c3⟩ := Zeh hx
 refine Ev.succ ?_
 simp only [Za7]
 rw [w64 (n := 2 * x.2) (by omega) (by omega), w64 (n := 2 * x.2 - 1) (by omega) (by omega), w64 (n := 0 - side) (by omega) (by omega)]
 refine Ev.of ?_
 unfold goesOf
 by_cases a1 : x.1 = 1 <;> by_cases a2 : x.1 = 2 <;> by_cases a3 : x.1 = 3 <;> by_cases a6 : x.1 = 6 <;> by_cases a4 : x.1 = 4 <;> simp [a1, a2, a3, a4, a6]
theorem ZL6 {x : CellD} (hx : cellOK x = true) (h : x.1 = 3 ∨ x.1 = 6) : cellOK (flip1 x) = true := by
 obtain ⟨c1, c2, c3⟩ := Zeh hx
 unfold cellOK flip1
 simp only [decide_eq_true_eq]
 omega
theorem ZLU {α : Type} {l : List α} {x : α} (h : x ∈ l) : ∃ i : Nat, l[i]? = some x := List.getElem?_of_mem h
theorem Zaf (G K : List Int) (at' : Nat) (o : List CellD) : (stepAt G K at' o).length = o.length := by
 unfold stepAt turnAt
 split
 ·exact Zte _ _ _ _ _ _
 ·rfl
theorem Zk7 (G K : List Int) {at' : Nat} {o : List CellD} (hx : ∀ x ∈ o, cellOK x = true) : ∀ x ∈ stepAt G K at' o, cellOK x = true := by
 unfold stepAt turnAt
 split
 ·rename_i ht
  unfold turning at ht
  simp only [decide_eq_true_eq] at ht
  intro y hy
  obtain ⟨i, hi⟩ := ZLU hy
  rw [Zec] at hi
  obtain ⟨x, h1, h2⟩ := Option.map_eq_some_iff.1 hi
  have hxo := hx x (List.mem_of_getElem? h1)
  split at h2
  ·rename_i hc
   rw [← h2]
   refine ZL6 hxo ?_
   rcases hc.1 with h | ⟨_, h, _⟩
   ·rw [Nat.zero_add] at h
    subst h
    simpa [List.getD, h1] using ht
   ·exact .inr h
  ·rw [← h2]; exact hxo
 ·exact hx
theorem ZIb (G K : List Int) {at' i : Nat} {o : List CellD} (hk : List.getD K i 0 = 1) : (stepAt G K at' o)[i]? = o[i]? := by
 unfold stepAt turnAt
 split
 ·rw [Zec, Nat.zero_add]
  cases h : o[i]? with
  | none => rfl
  | some x => rw [Option.map_some, if_neg (fun hc => hc.2 hk)]
 ·rfl
def fallL (b : BoardD) (G K : List Int) : Nat → Int → Int → Int → List CellD → LR (Int × List CellD) (FallD × List CellD)
 | 0, _, col, _, o => .go (col, o)
 | n + 1, row, col, side, o =>
  let at' := (row * b.2.1 + col).toNat
  let x := List.getD o at' (0, 0)
  if List.getD K at' 0 = 2 then .ret ((3, row, col), o)
  else if x.1 = 5 then .ret ((2, row, col), o)
  else
   let g := if List.getD K at' 0 = 3 then 0 - goesOf x side else goesOf x side
   if 0 ≤ col + g ∧ col + g < b.2.1 then fallL b G K n (row + 1) (col + g) (0 - g) (stepAt G K at' o) else .ret ((3, row, col + g), stepAt G K at' o)
def LR.map2 {Z R Z' R' : Type} (f : Z → Z') (g : R → R') : LR Z R → LR Z' R'
 | .go z => .go (f z) | .ret r => .ret (g r)
theorem ZiW (b : BoardD) (hb : boardOK b = true) (G K : List Int) (hG : G.length = b.2.2.length) (hK : K.length = b.2.2.length) (c0 c1 c2 : Int) : ∀ (n : Nat) (row col side : Int) (o : List CellD), row + n = b.1 → 0 ≤ row → 0 ≤ col → col < b.2.1 → -1 ≤ side → side ≤ 1 → o.length = b.2.2.length → (∀ x ∈ o, cellOK x = true) →
  Ev (fun k => Zx k o b.1 b.2.1 c0 c1 c2 G K col side row) ((fallL b G K n row col side o).map2 (fun z => (z.2, b.1, b.2.1, c0, c1, c2, z.1)) id)
 | 0, row, col, side, o, hn, hr, hc, hc2, hs, hs2, ho, hx => by
  refine Ev.succ ?_
  have : ¬ row < b.1 := by omega
  simp only [Zx, this, decide_false, Bool.false_eq_true, if_false, fallL, LR.map2]
  exact Ev.some _
 | n + 1, row, col, side, o, hn, hr, hc, hc2, hs, hs2, ho, hx => by
  obtain ⟨g1, g2, g3, g4, g5, g6⟩ := ZN hb
  have hpp := ZD g1 g2 g3 g4
  have hrow : row < b.1 := by omega
  have hp := Z8e hb hr hrow hc hc2
  have hoI : row * b.2.1 + col < (o.length : Int) := by omega
  have hKI : row * b.2.1 + col < (K.length : Int) := by omega
  have hcast : ((row * b.2.1 + col).toNat : Int) = row * b.2.1 + col := Int.toNat_of_nonneg hp.1
  refine Ev.succ ?_
  simp only [Zx, fallL]
  rw [w64 (n := row * b.2.1) (by omega) (by omega), w64 (n := row * b.2.1 + col) (by omega) (by omega), w64 (n := row + 1) (by omega) (by omega)]
  simp only [hrow, hp.1, hKI, hoI, decide_true, if_true]
  have hxo := hx _ (Zlp hp.1 hoI (0, 0))
  have hgo := Zoj hxo hs hs2
  have ht := Zmk (List.getD o (row * b.2.1 + col).toNat (0, 0))
  rw [hxo, Bool.true_and] at ht
  have hturn := ZzF b.1 b.2.1 o G K (row * b.2.1 + col).toNat (by omega) (by omega) (by omega) (by omega) hx
  rw [hcast] at hturn
  generalize hX : List.getD o (row * b.2.1 + col).toNat (0, 0) = X at *
  refine Ev.ite (fun h => ?_) (fun h => ?_)
  ·simp only [decide_eq_true_eq] at h
   rw [if_pos h]
   exact Ev.some _
  simp only [decide_eq_true_eq] at h
  rw [if_neg h]
  refine Ev.bind (ZtV X side hxo hs hs2) ?_
  by_cases h5 : X.1 = 5
  ·simp only [h5, if_true, Bool.not_false]
   exact Ev.some _
  simp only [h5, if_false, Bool.not_true, Bool.false_eq_true]
  have tail : ∀ g : Int, -1 ≤ g → g ≤ 1 → Ev (fun k => Option.bind (Z29 k X) fun z => if z = true then Option.bind (Z5t k (b.1, b.2.1, o) G K (row * b.2.1 + col)) fun z2 => if decide (wrap64 (col + g) < 0) = true then some (LR.ret ((3, row, wrap64 (col + g)), z2)) else if decide (wrap64 (col + g) ≥ b.2.1) = true then some (LR.ret ((3, row, wrap64 (col + g)), z2)) else Zx k z2 b.1 b.2.1 c0 c1 c2 G K (wrap64 (col + g)) (wrap64 (0 - g)) (row + 1)
    else if decide (wrap64 (col + g) < 0) = true then some (LR.ret ((3, row, wrap64 (col + g)), o)) else if decide (wrap64 (col + g) ≥ b.2.1) = true then some (LR.ret ((3, row, wrap64 (col + g)), o)) else Zx k o b.1 b.2.1 c0 c1 c2 G K (wrap64 (col + g)) (wrap64 (0 - g)) (row + 1))
    (LR.map2 (fun z => (z.2, b.1, b.2.1, c0, c1, c2, z.1)) id (if 0 ≤ col + g ∧ col + g < b.2.1 then fallL b G K n (row + 1) (col + g) (0 - g) (stepAt G K (row * b.2.1 + col).toNat o) else .ret ((3, row, col + g), stepAt G K (row * b.2.1 + col).toNat o))) := by
   intro g hg hg2
   rw [w64 (n := col + g) (by omega) (by omega), w64 (n := 0 - g) (by omega) (by omega)]
   have last : ∀ o' : List CellD, o' = stepAt G K (row * b.2.1 + col).toNat o → Ev (fun k => if decide (col + g < 0) = true then some (LR.ret ((3, row, col + g), o')) else if decide (col + g ≥ b.2.1) = true then some (LR.ret ((3, row, col + g), o')) else Zx k o' b.1 b.2.1 c0 c1 c2 G K (col + g) (0 - g) (row + 1))
     (LR.map2 (fun z => (z.2, b.1, b.2.1, c0, c1, c2, z.1)) id (if 0 ≤ col + g ∧ col + g < b.2.1 then fallL b G K n (row + 1) (col + g) (0 - g) (stepAt G K (row * b.2.1 + col).toNat o) else .ret ((3, row, col + g), stepAt G K (row * b.2.1 + col).toNat o))) := by
    intro o' ho'
    refine Ev.ite (fun q => ?_) (fun q => Ev.ite (fun q2 => ?_) (fun q2 => ?_))
    ·simp only [decide_eq_true_eq] at q
     rw [if_neg (by omega), ho']
     exact Ev.some _
    ·simp only [decide_eq_true_eq] at q2
     rw [if_neg (by omega), ho']
     exact Ev.some _
    ·simp only [decide_eq_true_eq] at q q2
     rw [if_pos (by omega), ho']
     exact ZiW b hb G K hG hK c0 c1 c2 n (row + 1) (col + g) (0 - g) _ (by omega) (by omega) (by omega) (by omega) (by omega) (by omega) (by rw [Zaf]; exact ho) (Zk7 G K hx)
   refine Ev.bind ht ?_
   have hstep : stepAt G K (row * b.2.1 + col).toNat o = if turning X then turnAt G K (row * b.2.1 + col).toNat o else o := by unfold stepAt; rw [hX]
   cases htx : turning X with
   | true =>
    simp only [if_true]
    exact Ev.bind hturn (last _ (by rw [hstep, htx]; rfl))
   | false =>
    simp only [Bool.false_eq_true, if_false]
    exact last _ (by rw [hstep, htx]; rfl)
  refine Ev.ite (fun h3 => ?_) (fun h3 => ?_)
  ·simp only [decide_eq_true_eq] at h3
   simp only [h3, if_true]
   rw [w64 (n := 0 - goesOf X side) (by omega) (by omega)]
   exact tail _ (by omega) (by omega)
  ·simp only [decide_eq_true_eq] at h3
   simp only [h3, if_false]
   exact tail _ hgo.1 hgo.2
def fallEnd (b : BoardD) (z : LR (Int × List CellD) (FallD × List CellD)) : FallD × List CellD := match z with
 | .go z => ((1, b.1, z.1), z.2)
 | .ret r => r
def fallOf (b : BoardD) (G K : List Int) (col : Int) (o : List CellD) : FallD × List CellD := fallEnd b (fallL b G K b.1.toNat 0 col 0 o)
theorem Zz2 (b : BoardD) (hb : boardOK b = true) (G K : List Int) (hG : G.length = b.2.2.length) (hK : K.length = b.2.2.length) (col : Int) (hc : 0 ≤ col) (hc2 : col < b.2.1) (o : List CellD) (ho : o.length = b.2.2.length) (hx : ∀ x ∈ o, cellOK x = true) : Ev (fun k => Zb2 k (b.1, b.2.1, o) G K col) (fallOf b G K col o) := by
 obtain ⟨g1, g2, g3, g4, g5, g6⟩ := ZN hb
 refine Ev.succ ?_
 simp only [Zb2]
 refine Ev.bind (ZiW b hb G K hG hK 0 0 0 b.1.toNat 0 col 0 o (by omega) (by omega) hc hc2 (by omega) (by omega) ho hx) ?_
 unfold fallOf
 cases fallL b G K b.1.toNat 0 col 0 o with
 | go z => exact Ev.go (Ev.some _)
 | ret r => exact Ev.ret (Ev.some _)
theorem ZtU (b : BoardD) (hb : boardOK b = true) (d1 d2 d3 d4 d5 : Int) (o4 : List CellD) (e1 e2 : Int) (v1 : List Int) (v2 : List FaultD) (v3 v12 v15 : Int) : ∀ (r pre : List FaultD) (o : List CellD), (∀ f ∈ r, 0 ≤ f.2.1 ∧ f.2.1 < b.1 ∧ 0 ≤ f.2.2 ∧ f.2.2 < b.2.1) → (pre ++ r).length ≤ 9223372036854775806 → o.length = b.2.2.length →
  Ev (fun k => Z8b k b.1 b.2.1 b.2.2 d1 d2 d3 d4 d5 o4 e1 e2 o v1 v2 v3 v12 v15 (pre ++ r) ((pre ++ r).length : Int) (pre.length : Int)) (b.1, b.2.1, b.2.2, d1, d2, d3, d4, d5, o4, e1, e2, restore b r o, v1, v2, v3, v12, v15)
 | [], pre, o, hr, hl, ho => by
  refine Ev.succ ?_
  simp only [Z8b, Za, decide_false, Bool.false_eq_true, if_false]
  exact Ev.some _
 | f :: r, pre, o, hr, hl, ho => by
  obtain ⟨k1, k2, k3, k4⟩ := hr f (List.mem_cons_self ..)
  have hp := Z8e hb k1 k2 k3 k4
  have hpo : f.2.1 * b.2.1 + f.2.2 < (o.length : Int) := by omega
  have hr' : ∀ g ∈ r, 0 ≤ g.2.1 ∧ g.2.1 < b.1 ∧ 0 ≤ g.2.2 ∧ g.2.2 < b.2.1 := fun g hg => hr g (List.mem_cons_of_mem _ hg)
  have ih := fun (o' : List CellD) (ho' : o'.length = b.2.2.length) => ZtU b hb d1 d2 d3 d4 d5 o4 e1 e2 v1 v2 v3 v12 v15 r (pre ++ [f]) o' hr' (by simpa using hl) ho'
  simp only [← Z1] at ih
  have hrest : restore b (f :: r) o = restore b r (if f.1 = 1 then List.set o (placeOf b f).toNat (List.getD b.2.2 (placeOf b f).toNat (0, 0)) else o) := rfl
  rw [hrest]
  refine Ev.succ ?_
  simp only [Z8b, Z8, Ze, decide_true, if_true, Int.toNat_natCast, Z3]
  rw [Z7 pre f r (by omega), w64 (n := f.2.1 * b.2.1) (by omega) (by omega), w64 (n := f.2.1 * b.2.1 + f.2.2) (by omega) (by omega)]
  simp only [hp.1, hp.2.1, hpo, if_true]
  refine Ev.ite (fun h => ?_) (fun h => ?_)
  ·simp only [decide_eq_true_eq] at h
   rw [if_pos h]
   exact ih _ (by rw [List.length_set]; exact ho)
  ·simp only [decide_eq_true_eq] at h
   rw [if_neg h]
   exact ih _ ho
theorem Zmr (b : BoardD) (h : b.2.2.length ≤ 1000000) : Ev (fun k => Z7u k b) b := by
 refine Ev.succ ?_
 simp only [Z7u, Z7V]
 have : 0 + b.2.2.length ≤ 140737488355328 / 16 := by omega
 simp only [this, if_true]
 exact Ev.some _
theorem ZgG (b : BoardD) (h : b.2.2.length ≤ 1000000) : Ev (fun k => Z37 k b) b := by
 refine Ev.succ ?_
 simp only [Z37, Z46]
 have : 0 + b.2.2.length ≤ 140737488355328 / 16 := by omega
 simp only [this, if_true]
 exact Ev.some _
theorem ZpP (b : BoardD) (hb : boardOK b = true) (o : List CellD) (ho : o.length = b.2.2.length) {r c : Int} (h1 : 0 ≤ r) (h2 : r < b.1) (h3 : 0 ≤ c) (h4 : c < b.2.1) : Ev (fun k => Zfz k (b.1, b.2.1, o) r c) (List.getD o (r * b.2.1 + c).toNat (0, 0)) := by
 have hp := Z8e hb h1 h2 h3 h4
 have hpo : r * b.2.1 + c < (o.length : Int) := by omega
 refine Ev.succ ?_
 simp only [Zfz]
 rw [w64 (n := r * b.2.1) (by omega) (by omega), w64 (n := r * b.2.1 + c) (by omega) (by omega)]
 simp only [hp.1, hpo, if_true]
 exact Ev.some _
theorem Zug (b : BoardD) (hb : boardOK b = true) (G : List Int) (hG : G.length = b.2.2.length) (l : List FaultD) (hl : faultsOK b (-1) l = true) (hll : l.length ≤ 9223372036854775806) (d1 d2 d3 d4 d5 : Int) (o4 : List CellD) : ∀ (n : Nat) (row col side : Int) (o : List CellD), row + n = b.1 → 0 ≤ row → 0 ≤ col → col < b.2.1 → -1 ≤ side → side ≤ 1 → o.length = b.2.2.length → (∀ x ∈ o, cellOK x = true) → (∀ i, i < o.length → List.getD (kindsB b l) i 0 = 1 → o[i]? = some (List.getD b.2.2 i (0, 0))) →
  Ev (fun k => Za1 k b.1 b.2.1 b.2.2 d1 d2 d3 d4 d5 o4 b.1 b.2.1 o G l col side row) ((fallL b G (kindsB b l) n row col side o).map2 (fun z => (b.1, b.2.1, b.2.2, d1, d2, d3, d4, d5, o4, b.1, b.2.1, z.2, z.1)) (fun r => (r.1, b.1, b.2.1, r.2)))
 | 0, row, col, side, o, hn, hr, hc, hc2, hs, hs2, ho, hx, hst => by
  refine Ev.succ ?_
  have : ¬ row < b.1 := by omega
  simp only [Za1, this, decide_false, Bool.false_eq_true, if_false, fallL, LR.map2]
  exact Ev.some _
 | n + 1, row, col, side, o, hn, hr, hc, hc2, hs, hs2, ho, hx, hst => by
  obtain ⟨g1, g2, g3, g4, g5, g6⟩ := ZN hb
  have hpp := ZD g1 g2 g3 g4
  have hrow : row < b.1 := by omega
  have hp := Z8e hb hr hrow hc hc2
  have hoI : row * b.2.1 + col < (o.length : Int) := by omega
  have hcast : ((row * b.2.1 + col).toNat : Int) = row * b.2.1 + col := Int.toNat_of_nonneg hp.1
  have hK : List.getD (kindsB b l) (row * b.2.1 + col).toNat 0 = faAtD row col 0 l := by
   unfold kindsB
   rw [Zt8 hb hr hrow hc hc2 hl (by simp)]
   congr 1
   simp only [List.getD, List.getElem?_replicate]
   split <;> rfl
  have hxo := hx _ (Zlp hp.1 hoI (0, 0))
  have hgo := Zoj hxo hs hs2
  have hpass := Ztz b.1 b.2.1 o G (row * b.2.1 + col).toNat (by omega) (by omega) (by omega) hx
  rw [hcast] at hpass
  have hres := ZxF hb hl G ho (at' := (row * b.2.1 + col).toNat) (by omega) hst
  have hpl : (passAt G (row * b.2.1 + col).toNat o).length = b.2.2.length := by
   have := congrArg List.length hres
   rw [ZoB, Zaf] at this
   omega
  refine Ev.succ ?_
  simp only [Za1, fallL]
  simp only [hrow, decide_true, if_true]
  refine Ev.bind (ZpP b hb o ho hr hrow hc hc2) ?_
  generalize hX : List.getD o (row * b.2.1 + col).toNat (0, 0) = X at *
  refine Ev.bind (ZJA l row col hll) ?_
  rw [hK]
  refine Ev.ite (fun h => ?_) (fun h => ?_)
  ·simp only [decide_eq_true_eq] at h
   rw [if_pos h]
   simp only [Z9a]
   exact Ev.bind (Ev.some _) (Ev.some _)
  simp only [decide_eq_true_eq] at h
  rw [if_neg h]
  refine Ev.ite (fun h5 => ?_) (fun h5 => ?_)
  ·simp only [decide_eq_true_eq] at h5
   rw [if_pos h5]
   simp only [Z7N]
   exact Ev.bind (Ev.some _) (Ev.some _)
  simp only [decide_eq_true_eq] at h5
  rw [if_neg h5]
  refine Ev.bind (ZtQ X side hxo hs hs2) ?_
  have hg : -1 ≤ (if faAtD row col 0 l = 3 then 0 - goesOf X side else goesOf X side) ∧ (if faAtD row col 0 l = 3 then 0 - goesOf X side else goesOf X side) ≤ 1 := by split <;> omega
  have hj : Ev (fun k => Zdw k b.1 b.2.1 b.2.2 d1 d2 d3 d4 d5 o4 b.1 b.2.1 o G l col row (goesOf X side) (decide (faAtD row col 0 l = 3))) (b.1, b.2.1, b.2.2, d1, d2, d3, d4, d5, o4, b.1, b.2.1, o, G, l, col, row, if faAtD row col 0 l = 3 then 0 - goesOf X side else goesOf X side) := by
   simp only [Zdw]
   rw [w64 (n := 0 - goesOf X side) (by omega) (by omega)]
   refine Ev.of ?_
   by_cases h3 : faAtD row col 0 l = 3 <;> simp [h3]
  refine Ev.bind hj ?_
  generalize (if faAtD row col 0 l = 3 then 0 - goesOf X side else goesOf X side) = g at *
  dsimp only
  rw [w64 (n := row * b.2.1) (by omega) (by omega), w64 (n := row * b.2.1 + col) (by omega) (by omega)]
  refine Ev.bind hpass ?_
  refine Ev.bind (ZtU b hb d1 d2 d3 d4 d5 o4 b.1 b.2.1 G l col row g l [] _ (Zoi hl) (by simpa using hll) hpl) ?_
  rw [hres]
  dsimp only
  rw [w64 (n := col + g) (by omega) (by omega), w64 (n := b.2.1 - 1) (by omega) (by omega), w64 (n := 0 - g) (by omega) (by omega), w64 (n := row + 1) (by omega) (by omega)]
  refine Ev.bind (Z1o _ _ _) (Ev.ite (fun q => ?_) (fun q => ?_))
  ·have q : ¬ (0 ≤ col + g ∧ col + g ≤ b.2.1 - 1) := nd q
   rw [if_neg (by omega)]
   simp only [Z7z]
   exact Ev.bind (Ev.some _) (Ev.some _)
  ·have q : 0 ≤ col + g ∧ col + g ≤ b.2.1 - 1 := yd q
   rw [if_pos (by omega)]
   refine Zug b hb G hG l hl hll d1 d2 d3 d4 d5 o4 n (row + 1) (col + g) (0 - g) _ (by omega) (by omega) (by omega) (by omega) (by omega) (by omega) (by rw [Zaf]; exact ho) (Zk7 G _ hx) (fun i hi hk => ?_)
   rw [ZIb G _ hk]
   rw [Zaf] at hi
   exact hst i hi hk
theorem ZJn (b : BoardD) (hb : boardOK b = true) (G : List Int) (hG : G.length = b.2.2.length) (l : List FaultD) (hl : faultsOK b (-1) l = true) (hll : l.length ≤ 9223372036854775806) (col : Int) (hc : 0 ≤ col) (hc2 : col < b.2.1) : Ev (fun k => ZjD k b G l col) ((fallOf b G (kindsB b l) col b.2.2).1, b.1, b.2.1, (fallOf b G (kindsB b l) col b.2.2).2) := by
 obtain ⟨g1, g2, g3, g4, g5, g6⟩ := ZN hb
 have hpp := ZD g1 g2 g3 g4
 refine Ev.succ ?_
 simp only [ZjD]
 refine Ev.bind (Zmr b (by omega)) ?_
 refine Ev.bind (Zug b hb G hG l hl hll 0 0 0 0 0 [] b.1.toNat 0 col 0 b.2.2 (by omega) (by omega) hc hc2 (by omega) (by omega) rfl g6 (fun i hi _ => by simp [List.getD, List.getElem?_eq_getElem hi])) ?_
 unfold fallOf
 cases fallL b G (kindsB b l) b.1.toNat 0 col 0 b.2.2 with
 | go z =>
  refine Ev.go ?_
  simp only [Z7F]
  exact Ev.bind (Ev.some _) (Ev.some _)
 | ret r => exact Ev.ret (Ev.some _)
end
section
end
section
theorem Zz3 (b : BoardD) (c : Int) (hl : b.2.2.length ≤ 9223372036854775806) : Ev (fun k => Zb6 k b c) (boardOK b && decide (0 ≤ c ∧ c < b.2.1)) := by
 refine Ev.succ ?_
 simp only [Zb6]
 refine Ev.bind (Z6G b hl) ?_
 cases hb : boardOK b with
 | false => simp only [Bool.false_eq_true, if_false, Bool.false_and]; exact Ev.some _
 | true =>
  simp only [if_true, Bool.true_and]
  refine Ev.of ?_
  by_cases h1 : c ≥ 0 <;> by_cases h2 : c < b.2.1 <;> simp [h1, h2]
  all_goals omega
theorem Znz (b : BoardD) (G K : List Int) : ∀ (n : Nat) (row col side : Int) (o : List CellD), (fallEnd b (fallL b G K n row col side o)).2.length = o.length
 | 0, _, _, _, _ => rfl
 | n + 1, row, col, side, o => by
  unfold fallL
  dsimp only
  repeat' split
  all_goals first | rfl | (rw [Znz]; exact Zaf _ _ _ _) | exact Zaf _ _ _ _
theorem ZKb (b : BoardD) (G K : List Int) (c : Int) (o : List CellD) : (fallOf b G K c o).2.length = o.length := Znz b G K _ _ _ _ o
end
section
theorem ZIL (G K : List Int) (at' : Nat) (o : List CellD) : (stepAt G K at' o).map Prod.fst = o.map Prod.fst := by
 unfold stepAt turnAt
 split
 ·apply List.ext_getElem?
  intro i
  simp only [List.getElem?_map, Zec]
  cases o[i]? with
  | none => rfl
  | some x =>
   simp only [Option.map_some]
   split <;> simp [flip1]
 ·rfl
theorem Zpk (b : BoardD) (G K : List Int) : ∀ (n : Nat) (row col side : Int) (o : List CellD), (∀ x ∈ o, cellOK x = true) → (∀ x ∈ (fallEnd b (fallL b G K n row col side o)).2, cellOK x = true) ∧ (fallEnd b (fallL b G K n row col side o)).2.map Prod.fst = o.map Prod.fst
 | 0, _, _, _, o, hx => ⟨hx, rfl⟩
 | n + 1, row, col, side, o, hx => by
  have h1 := Zpk b G K n (row + 1)
  unfold fallL
  dsimp only
  have h2 := Zk7 G K (at' := (row * b.2.1 + col).toNat) hx
  have h3 := ZIL G K (row * b.2.1 + col).toNat o
  repeat' split
  all_goals first | exact ⟨hx, rfl⟩ | exact ⟨h2, h3⟩ | exact ⟨(h1 _ _ _ h2).1, (h1 _ _ _ h2).2.trans h3⟩
theorem ZhM (b : BoardD) (G K : List Int) (c : Int) {o : List CellD} (hx : ∀ x ∈ o, cellOK x = true) : ∀ x ∈ (fallOf b G K c o).2, cellOK x = true := (Zpk b G K _ _ _ _ o hx).1
theorem ZxU (b : BoardD) (G K : List Int) (c : Int) {o : List CellD} (hx : ∀ x ∈ o, cellOK x = true) : (fallOf b G K c o).2.map Prod.fst = o.map Prod.fst := (Zpk b G K _ _ _ _ o hx).2
theorem ZDN {b b' : BoardD} (h : b.2.1 = b'.2.1) (G K : List Int) : ∀ (n : Nat) (row col side : Int) (o : List CellD), fallL b G K n row col side o = fallL b' G K n row col side o
 | 0, _, _, _, _ => rfl
 | n + 1, row, col, side, o => by simp only [fallL, h, ZDN h G K n]
theorem ZA5 {b b' : BoardD} (h1 : b.1 = b'.1) (h2 : b.2.1 = b'.2.1) (G K : List Int) (c : Int) (o : List CellD) : fallOf b G K c o = fallOf b' G K c o := by
 have : fallEnd b = fallEnd b' := by funext z; cases z <;> simp [fallEnd, h1]
 unfold fallOf
 rw [this, ZDN h2, h1]
theorem ZAf {b b' : BoardD} (h : b.2.1 = b'.2.1) (hl : b.2.2.length = b'.2.2.length) (l : List FaultD) : kindsB b l = kindsB b' l := by simp only [kindsB, kindsOf, placeOf, h, hl]
theorem ZKH {x y : CellD} (h : x.1 = y.1) (k : Int) : fits x k = fits y k := by unfold fits turning; rw [h]
theorem ZGa {o o' : List CellD} (h : o.map Prod.fst = o'.map Prod.fst) (i : Nat) : (List.getD o i (0, 0)).1 = (List.getD o' i (0, 0)).1 := by
 have := congrArg (fun l => l[i]?) h
 simp only [List.getElem?_map] at this
 simp only [List.getD]
 cases h1 : o[i]? <;> cases h2 : o'[i]? <;> simp [h1, h2] at this ⊢
 exact this
theorem Zu8 {b b' : BoardD} (h1 : b.1 = b'.1) (h2 : b.2.1 = b'.2.1) (h : b.2.2.map Prod.fst = b'.2.2.map Prod.fst) : ∀ (l : List FaultD) (last : Int), faultsOK b last l = faultsOK b' last l
 | [], _ => rfl
 | x :: r, last => by
  simp only [faultsOK, h1, h2, Zu8 h1 h2 h r]
  rw [ZKH (ZGa h _)]
theorem ZLh {b : BoardD} (hb : boardOK b = true) {o : List CellD} (ho : o.length = b.2.2.length) (hx : ∀ x ∈ o, cellOK x = true) : boardOK (b.1, b.2.1, o) = true := by
 obtain ⟨g1, g2, g3, g4, g5, g6⟩ := ZN hb
 unfold boardOK
 have : (o.length : Int) = b.1 * b.2.1 := by omega
 simp only [g1, g2, g3, g4, this, and_self, decide_true, Bool.true_and]
 exact List.all_eq_true.2 hx
def runsOf (b : BoardD) (G K : List Int) : List Int → List CellD → List FallD × List CellD
 | [], o => ([], o)
 | c :: r, o => ((fallOf b G K c o).1 :: (runsOf b G K r (fallOf b G K c o).2).1, (runsOf b G K r (fallOf b G K c o).2).2)
theorem ZDO (b : BoardD) (G K : List Int) : ∀ (l : List Int) (o : List CellD), (runsOf b G K l o).1.length = l.length
 | [], _ => rfl
 | c :: r, o => by simp [runsOf, ZDO b G K r]
def colsOK (b : BoardD) (l : List Int) : Prop := ∀ c ∈ l, 0 ≤ c ∧ c < b.2.1
theorem Zri (b : BoardD) (hb : boardOK b = true) (G : List Int) (hG : G.length = b.2.2.length) (l : List FaultD) (hl : faultsOK b (-1) l = true) (hll : l.length ≤ 9223372036854775806) (d1 d2 : Int) (d3 : List CellD) : ∀ (r pre : List Int) (o : List CellD) (w : List FallD), colsOK b r → (pre ++ r).length ≤ 1000 → w.length = pre.length → o.length = b.2.2.length → (∀ x ∈ o, cellOK x = true) → o.map Prod.fst = b.2.2.map Prod.fst →
  Ev (fun k => Z93 k d1 d2 d3 b.1 b.2.1 o G w l (pre ++ r) ((pre ++ r).length : Int) (pre.length : Int)) (d1, d2, d3, b.1, b.2.1, (runsOf b G (kindsB b l) r o).2, w ++ (runsOf b G (kindsB b l) r o).1)
 | [], pre, o, w, hc, hl1, hw, ho, hx, hp => by
  refine Ev.succ ?_
  simp only [Z93, Za, decide_false, Bool.false_eq_true, if_false]
  simp only [runsOf, List.append_nil]
  exact Ev.some _
 | c :: r, pre, o, w, hc, hl1, hw, ho, hx, hp => by
  obtain ⟨k1, k2⟩ := hc c (List.mem_cons_self ..)
  have hb' := ZLh hb ho hx
  have hg := ZJn (b.1, b.2.1, o) hb' G (hG.trans ho.symm) l (by rw [Zu8 (b := (b.1, b.2.1, o)) (b' := b) rfl rfl hp]; exact hl) hll c k1 k2
  rw [ZA5 (b := (b.1, b.2.1, o)) (b' := b) rfl rfl, ZAf (b := (b.1, b.2.1, o)) (b' := b) rfl ho] at hg
  have hlw : w.length + 1 ≤ 140737488355328 / 24 := by simp at hl1; omega
  refine Ev.succ ?_
  simp only [Z93, Z8, Ze, decide_true, if_true, Int.toNat_natCast, Z3]
  refine Ev.bind hg ?_
  simp only [List.length_singleton, hlw, if_true]
  rw [Z7 pre c r (by omega)]
  have ih := Zri b hb G hG l hl hll d1 d2 d3 r (pre ++ [c]) (fallOf b G (kindsB b l) c o).2 (w ++ [(fallOf b G (kindsB b l) c o).1]) (fun y hy => hc y (List.mem_cons_of_mem _ hy)) (by simpa using hl1) (by simp [hw]) ((Znz b G _ _ _ _ _ o).trans ho) (ZhM _ _ _ _ hx) ((ZxU _ _ _ _ hx).trans hp)
  rw [← Z1] at ih
  refine ih.congr ?_
  simp [runsOf]
theorem ZId (b : BoardD) (hb : boardOK b = true) (l : List FaultD) (hl : faultsOK b (-1) l = true) (hll : l.length ≤ 9223372036854775806) (t : List Int) (ht : t.length ≤ 1000) (hc : colsOK b t) : Ev (fun k => ZhJ k b l t) ((runsOf b (groupsOf b) (kindsB b l) t b.2.2).1, b.1, b.2.1, (runsOf b (groupsOf b) (kindsB b l) t b.2.2).2) := by
 obtain ⟨g1, g2, g3, g4, g5, g6⟩ := ZN hb
 have hpp := ZD g1 g2 g3 g4
 refine Ev.succ ?_
 simp only [ZhJ]
 have h0 : Ev (fun k => Z5c k b.1 b.2.1 b.2.2 0 0 [] l t) (0, 0, [], b.1, b.2.1, b.2.2, groupsOf b, l, t) := by
  simp only [Z5c]
  exact Ev.bind (Zmr b (by omega)) (Ev.bind (ZnN b hb) (Ev.some _))
 refine Ev.bind h0 ?_
 refine Ev.bind (Zri b hb (groupsOf b) (Ze2 b) l hl hll 0 0 [] t [] b.2.2 [] hc (by simpa using ht) rfl rfl g6 rfl) ?_
 exact Ev.some _
theorem ZhE (b : BoardD) (hb : boardOK b = true) (G K : List Int) (hG : G.length = b.2.2.length) (hK : K.length = b.2.2.length) (d1 d2 : Int) (d3 : List CellD) : ∀ (r pre : List Int) (o : List CellD) (w : List FallD), colsOK b r → (pre ++ r).length ≤ 1000 → w.length = pre.length → o.length = b.2.2.length → (∀ x ∈ o, cellOK x = true) →
  Ev (fun k => Z3p k d1 d2 d3 b.1 b.2.1 o G K w (pre ++ r) ((pre ++ r).length : Int) (pre.length : Int)) (d1, d2, d3, b.1, b.2.1, (runsOf b G K r o).2, w ++ (runsOf b G K r o).1)
 | [], pre, o, w, hc, hl1, hw, ho, hx => by
  refine Ev.succ ?_
  simp only [Z3p, Za, decide_false, Bool.false_eq_true, if_false]
  simp only [runsOf, List.append_nil]
  exact Ev.some _
 | c :: r, pre, o, w, hc, hl1, hw, ho, hx => by
  obtain ⟨k1, k2⟩ := hc c (List.mem_cons_self ..)
  have hg := Zz2 b hb G K hG hK c k1 k2 o ho hx
  have hlw : w.length + 1 ≤ 140737488355328 / 24 := by simp at hl1; omega
  refine Ev.succ ?_
  simp only [Z3p, Z8, Ze, decide_true, if_true, Int.toNat_natCast, Z3]
  refine Ev.bind hg ?_
  simp only [List.length_singleton, hlw, if_true]
  rw [Z7 pre c r (by omega)]
  have ih := ZhE b hb G K hG hK d1 d2 d3 r (pre ++ [c]) (fallOf b G K c o).2 (w ++ [(fallOf b G K c o).1]) (fun y hy => hc y (List.mem_cons_of_mem _ hy)) (by simpa using hl1) (by simp [hw]) ((Znz b G _ _ _ _ _ o).trans ho) (ZhM _ _ _ _ hx)
  rw [← Z1] at ih
  refine ih.congr ?_
  simp [runsOf]
theorem Zk4 (b : BoardD) (hb : boardOK b = true) (l : List FaultD) (hl : faultsOK b (-1) l = true) (hll : l.length ≤ 9223372036854775806) (t : List Int) (ht : t.length ≤ 1000) (hc : colsOK b t) : Ev (fun k => Z7x k b l t) ((runsOf b (groupsOf b) (kindsB b l) t b.2.2).1, b.1, b.2.1, (runsOf b (groupsOf b) (kindsB b l) t b.2.2).2) := by
 obtain ⟨g1, g2, g3, g4, g5, g6⟩ := ZN hb
 have hpp := ZD g1 g2 g3 g4
 refine Ev.succ ?_
 simp only [Z7x]
 refine Ev.bind (ZgG b (by omega)) (Ev.bind (Zdf b hb) (Ev.bind (Zv6 b hb l hl hll) ?_))
 refine Ev.bind (ZhE b hb (groupsOf b) (kindsB b l) (Ze2 b) (ZKi b l) 0 0 [] t [] b.2.2 [] hc (by simpa using ht) rfl rfl g6) ?_
 exact Ev.some _
theorem Zsd (b : BoardD) (i : Nat) : List.getD (kindsB b []) i 0 = 0 := by
 show List.getD (List.replicate b.2.2.length (0 : Int)) i 0 = 0
 simp only [List.getD, List.getElem?_replicate]
 split <;> rfl
theorem ZFX {b : BoardD} (hb : boardOK b = true) (G : List Int) {at' : Nat} {o : List CellD} (ho : o.length = b.2.2.length) (ha : at' < o.length) : passAt G at' o = stepAt G (kindsB b []) at' o :=
 ZxF (l := []) hb rfl G ho ha (fun i _ h => by rw [Zsd] at h; cases h)
theorem ZtR (b : BoardD) (hb : boardOK b = true) (G : List Int) (hG : G.length = b.2.2.length) (d1 d2 d3 d4 d5 : Int) (o4 : List CellD) : ∀ (n : Nat) (row col side : Int) (o : List CellD) (q : List (List Int)), row + n = b.1 → 0 ≤ row → 0 ≤ col → col < b.2.1 → -1 ≤ side → side ≤ 1 → o.length = b.2.2.length → (∀ x ∈ o, cellOK x = true) → (q.length : Int) = row →
  ∃ p, Ev (fun k => Z5A k b.1 b.2.1 b.2.2 d1 d2 d3 d4 d5 o4 b.1 b.2.1 o q G col side row) ((fallL b G (kindsB b []) n row col side o).map2 (fun z => (b.1, b.2.1, b.2.2, d1, d2, d3, d4, d5, o4, b.1, b.2.1, z.2, p, z.1)) (fun r => (r.1, (b.1, b.2.1, r.2), p)))
 | 0, row, col, side, o, q, hn, hr, hc, hc2, hs, hs2, ho, hx, hq => by
  refine ⟨q, Ev.succ ?_⟩
  have : ¬ row < b.1 := by omega
  simp only [Z5A, this, decide_false, Bool.false_eq_true, if_false, fallL, LR.map2]
  exact Ev.some _
 | n + 1, row, col, side, o, q, hn, hr, hc, hc2, hs, hs2, ho, hx, hq => by
  obtain ⟨g1, g2, g3, g4, g5, g6⟩ := ZN hb
  have hpp := ZD g1 g2 g3 g4
  have hrow : row < b.1 := by omega
  have hp := Z8e hb hr hrow hc hc2
  have hoI : row * b.2.1 + col < (o.length : Int) := by omega
  have hcast : ((row * b.2.1 + col).toNat : Int) = row * b.2.1 + col := Int.toNat_of_nonneg hp.1
  have hxo := hx _ (Zlp hp.1 hoI (0, 0))
  have hgo := Zoj hxo hs hs2
  have hpass := Ztz b.1 b.2.1 o G (row * b.2.1 + col).toNat (by omega) (by omega) (by omega) hx
  rw [hcast, ZFX hb G ho (by omega)] at hpass
  have hql : q.length + 1 ≤ 140737488355328 / 24 := by omega
  have hk2 : ¬ (0 : Int) = 2 := by omega
  have hk3 : ¬ (0 : Int) = 3 := by omega
  generalize hX : List.getD o (row * b.2.1 + col).toNat (0, 0) = X at *
  have start : ∀ {v : List (List Int) → LR (Int × Int × List CellD × Int × Int × Int × Int × Int × List CellD × Int × Int × List CellD × List (List Int) × Int) (FallD × BoardD × List (List Int))}, (∃ p, Ev (fun k => if decide (X.1 = 5) = true then Option.bind (Z5a k d1 d2 d3 d4 d5 o4 b.1 b.2.1 o (q ++ [[row, col]]) col row) fun z2 => some (LR.ret ((z2.1, z2.2.1, z2.2.2.1), (z2.2.2.2.1, z2.2.2.2.2.1, z2.2.2.2.2.2.1), z2.2.2.2.2.2.2))
    else Option.bind (Za7 k X side) fun z3 => Option.bind (Za6 k (b.1, b.2.1, o) G (row * b.2.1 + col)) fun z4 => Option.bind (ZW k (wrap64 (col + z3)) (0 : Int) (b.2.1 - 1)) fun z5 => if (!z5) = true then Option.bind (Z58 k d1 d2 d3 d4 d5 o4 b.1 b.2.1 z4 (q ++ [[row, col]]) (wrap64 (col + z3)) row) fun z6 => some (LR.ret ((z6.1, z6.2.1, z6.2.2.1), (z6.2.2.2.1, z6.2.2.2.2.1, z6.2.2.2.2.2.1), z6.2.2.2.2.2.2)) else Z5A k b.1 b.2.1 b.2.2 d1 d2 d3 d4 d5 o4 b.1 b.2.1 z4 (q ++ [[row, col]]) G (wrap64 (col + z3)) (wrap64 ((0 : Int) - z3)) (wrap64 (row + 1))) (v p)) →
    ∃ p, Ev (fun k => Z5A k b.1 b.2.1 b.2.2 d1 d2 d3 d4 d5 o4 b.1 b.2.1 o q G col side row) (v p) := by
   rintro v ⟨p, h⟩
   refine ⟨p, Ev.succ ?_⟩
   simp only [Z5A, hrow, decide_true, if_true, List.length_singleton, hql]
   rw [w64 (n := row * b.2.1) (by omega) (by omega), w64 (n := row * b.2.1 + col) (by omega) (by omega), w64 (n := b.2.1 - 1) (by omega) (by omega)]
   have := ZpP b hb o ho hr hrow hc hc2
   rw [hX] at this
   exact Ev.bind this h
  refine start ?_
  simp only [fallL, hX, Zsd, hk2, hk3, if_false]
  by_cases h5 : X.1 = 5
  ·refine ⟨q ++ [[row, col]], ?_⟩
   simp only [h5, decide_true, if_true, Z5a]
   exact Ev.bind (Ev.some _) (Ev.some _)
  simp only [h5, decide_false, Bool.false_eq_true, if_false]
  generalize hgg : goesOf X side = g at *
  have hgo' := ZtQ X side hxo hs hs2
  rw [hgg] at hgo'
  by_cases hin : 0 ≤ col + g ∧ col + g < b.2.1
  ·rw [if_pos hin]
   obtain ⟨p, ih⟩ := ZtR b hb G hG d1 d2 d3 d4 d5 o4 n (row + 1) (col + g) (0 - g) (stepAt G (kindsB b []) (row * b.2.1 + col).toNat o) (q ++ [[row, col]]) (by omega) (by omega) (by omega) (by omega) (by omega) (by omega) (by rw [Zaf]; exact ho) (Zk7 G _ hx) (by simp; omega)
   refine ⟨p, Ev.bind hgo' (Ev.bind hpass ?_)⟩
   rw [w64 (n := col + g) (by omega) (by omega), w64 (n := 0 - g) (by omega) (by omega), w64 (n := row + 1) (by omega) (by omega)]
   refine Ev.bind (Z1o _ _ _) (Ev.ite (fun hh => ?_) (fun hh => ih))
   have hh : ¬ (0 ≤ col + g ∧ col + g ≤ b.2.1 - 1) := nd hh
   omega
  ·rw [if_neg hin]
   refine ⟨q ++ [[row, col]], Ev.bind hgo' (Ev.bind hpass ?_)⟩
   rw [w64 (n := col + g) (by omega) (by omega)]
   refine Ev.bind (Z1o _ _ _) (Ev.ite (fun hh => ?_) (fun hh => ?_))
   ·simp only [Z58]
    exact Ev.bind (Ev.some _) (Ev.some _)
   ·have hh : 0 ≤ col + g ∧ col + g ≤ b.2.1 - 1 := yd hh
    omega
theorem ZJD (b : BoardD) (hb : boardOK b = true) (G : List Int) (hG : G.length = b.2.2.length) (col : Int) (hc : 0 ≤ col) (hc2 : col < b.2.1) : ∃ p, Ev (fun k => Z1q k b G col) ((fallOf b G (kindsB b []) col b.2.2).1, (b.1, b.2.1, (fallOf b G (kindsB b []) col b.2.2).2), p) := by
 obtain ⟨g1, g2, g3, g4, g5, g6⟩ := ZN hb
 have hpp := ZD g1 g2 g3 g4
 obtain ⟨p, h⟩ := ZtR b hb G hG 0 0 0 0 0 [] b.1.toNat 0 col 0 b.2.2 [] (by omega) (by omega) hc hc2 (by omega) (by omega) rfl g6 rfl
 refine ⟨p, Ev.succ ?_⟩
 simp only [Z1q]
 refine Ev.bind (Zmr b (by omega)) (Ev.bind h ?_)
 unfold fallOf
 cases fallL b G (kindsB b []) b.1.toNat 0 col 0 b.2.2 with
 | go z =>
  refine Ev.go ?_
  simp only [Z7W]
  exact Ev.bind (Ev.some _) (Ev.some _)
 | ret r => exact Ev.ret (Ev.some _)
theorem ZjS (R C : Int) (G : List Int) (at' : Nat) : ∀ (r pre : List CellD), (pre ++ r).length ≤ 1000 → at' < (pre ++ r).length → G.length = (pre ++ r).length → (∀ x ∈ r, cellOK x = true) →
  Ev (fun k => Z1j k (pre ++ r) R C G (at' : Int) ((pre ++ r).length : Int) (pre.length : Int)) (pre ++ passGo G (List.getD G at' 0) pre.length r)
 | [], pre, hl, ha, hG, hx => by
  refine Ev.succ ?_
  simp only [Z1j, Za, decide_false, Bool.false_eq_true, if_false, passGo]
  exact Ev.some _
 | x :: r, pre, hl, ha, hG, hx => by
  have hn := Z7 pre x r (by omega)
  have hlt := Z8 pre x r
  have hGl : (pre.length : Int) < (G.length : Int) := by rw [hG]; exact hlt
  have ha0 : (0 : Int) ≤ (at' : Int) := Int.natCast_nonneg _
  have ha1 : (at' : Int) < ((pre ++ x :: r).length : Int) := by omega
  have haG : (at' : Int) < (G.length : Int) := by rw [hG]; exact ha1
  obtain ⟨c1, c2, c3⟩ := Zeh (hx x (List.mem_cons_self ..))
  have hr' : ∀ y ∈ r, cellOK y = true := fun y hy => hx y (List.mem_cons_of_mem _ hy)
  have next : ∀ y : CellD, Ev (fun k => Z1j k (pre ++ y :: r) R C G (at' : Int) ((pre ++ x :: r).length : Int) ((pre ++ [x]).length : Int)) (pre ++ y :: passGo G (List.getD G at' 0) (pre.length + 1) r) := by
   intro y
   have ih := ZjS R C G at' r (pre ++ [y]) (by simpa using hl) (by simpa using ha) (by simpa using hG) hr'
   have e1 : ((pre ++ [y] ++ r).length : Int) = ((pre ++ x :: r).length : Int) := by simp
   have e2 : ((pre ++ [y]).length : Int) = ((pre ++ [x]).length : Int) := by simp
   have e3 : (pre ++ [y]).length = pre.length + 1 := by simp
   rw [e1, e2, e3, ← Z1, ← Z1] at ih
   exact ih
  refine Ev.succ ?_
  simp only [Z1j, Z8, Ze, decide_true, if_true, Int.toNat_natCast, Z3, Zrw, hn, hGl, ha0, haG]
  rw [w64 (n := 1 - x.2) (by omega) (by omega)]
  simp only [passGo]
  refine Ev.ite (fun h1 => Ev.ite (fun h2 => ?_) (fun h2 => ?_)) (fun h1 => ?_)
  ·simp only [decide_eq_true_eq] at h1 h2
   rw [if_pos ⟨h1, h2⟩]
   exact next (flip1 x)
  ·simp only [decide_eq_true_eq] at h2
   rw [if_neg (fun hc => h2 hc.2)]
   exact next x
  ·simp only [decide_eq_true_eq] at h1
   rw [if_neg (fun hc => h1 hc.1)]
   exact next x
theorem ZCl (R C : Int) (o : List CellD) (G : List Int) (at' : Nat) (hl : o.length ≤ 1000) (ha : at' < o.length) (hG : G.length = o.length) (hx : ∀ x ∈ o, cellOK x = true) : Ev (fun k => Z9r k (R, C, o) G (at' : Int)) (passGo G (List.getD G at' 0) 0 o) := by
 refine Ev.succ ?_
 simp only [Z9r]
 exact Ev.bind (ZjS R C G at' o [] hl ha hG hx) (Ev.some _)
theorem Zu5 (b : BoardD) (hb : boardOK b = true) (G : List Int) (hG : G.length = b.2.2.length) (c0 c1 c2 : Int) : ∀ (n : Nat) (row col side : Int) (o : List CellD) (q : List Int), row + n = b.1 → 0 ≤ row → 0 ≤ col → col < b.2.1 → -1 ≤ side → side ≤ 1 → o.length = b.2.2.length → (∀ x ∈ o, cellOK x = true) → (q.length : Int) = row →
  ∃ p, Ev (fun k => Z2g k o b.1 b.2.1 c0 c1 c2 q G col side row) ((fallL b G (kindsB b []) n row col side o).map2 (fun z => (z.2, b.1, b.2.1, c0, c1, c2, p, z.1)) (fun r => (r.1, p, r.2)))
 | 0, row, col, side, o, q, hn, hr, hc, hc2, hs, hs2, ho, hx, hq => by
  refine ⟨q, Ev.succ ?_⟩
  have : ¬ row < b.1 := by omega
  simp only [Z2g, this, decide_false, Bool.false_eq_true, if_false, fallL, LR.map2]
  exact Ev.some _
 | n + 1, row, col, side, o, q, hn, hr, hc, hc2, hs, hs2, ho, hx, hq => by
  obtain ⟨g1, g2, g3, g4, g5, g6⟩ := ZN hb
  have hpp := ZD g1 g2 g3 g4
  have hrow : row < b.1 := by omega
  have hp := Z8e hb hr hrow hc hc2
  have hoI : row * b.2.1 + col < (o.length : Int) := by omega
  have hcast : ((row * b.2.1 + col).toNat : Int) = row * b.2.1 + col := Int.toNat_of_nonneg hp.1
  have hxo := hx _ (Zlp hp.1 hoI (0, 0))
  have hgo := Zoj hxo hs hs2
  have hgt := ZtV (List.getD o (row * b.2.1 + col).toNat (0, 0)) side hxo hs hs2
  have hturn := ZCl b.1 b.2.1 o G (row * b.2.1 + col).toNat (by omega) (by omega) (by omega) hx
  rw [hcast] at hturn
  have hpass := ZFX hb G ho (show (row * b.2.1 + col).toNat < o.length by omega)
  unfold passAt at hpass
  have hql : q.length + 1 ≤ 140737488355328 / 8 := by omega
  have hk2 : ¬ (0 : Int) = 2 := by omega
  have hk3 : ¬ (0 : Int) = 3 := by omega
  obtain ⟨cc1, cc2, cc3⟩ := Zeh hxo
  simp only [fallL, Zsd, hk2, hk3, if_false]
  generalize hS : stepAt G (kindsB b []) (row * b.2.1 + col).toNat o = S at *
  have hSl : S.length = b.2.2.length := by rw [← hS, Zaf]; exact ho
  have hSx : ∀ x ∈ S, cellOK x = true := by rw [← hS]; exact Zk7 G _ hx
  generalize hX : List.getD o (row * b.2.1 + col).toNat (0, 0) = X at *
  by_cases h5 : X.1 = 5
  ·refine ⟨q ++ [row * b.2.1 + col], Ev.succ ?_⟩
   simp only [Z2g, hrow, decide_true, if_true, List.length_singleton, hql]
   rw [w64 (n := row * b.2.1) (by omega) (by omega), w64 (n := row * b.2.1 + col) (by omega) (by omega)]
   simp only [hp.1, hoI, if_true, hX]
   refine Ev.bind hgt ?_
   simp only [h5, if_true, Bool.not_false]
   exact Ev.some _
  simp only [h5, if_false] at hgt ⊢
  generalize goesOf X side = g at *
  have tail : ∃ p, ∀ o', o' = S → Ev (fun k => if decide (wrap64 (col + g) < 0) = true then some (LR.ret ((3, row, wrap64 (col + g)), q ++ [row * b.2.1 + col], o')) else if decide (wrap64 (col + g) ≥ b.2.1) = true then some (LR.ret ((3, row, wrap64 (col + g)), q ++ [row * b.2.1 + col], o')) else Z2g k o' b.1 b.2.1 c0 c1 c2 (q ++ [row * b.2.1 + col]) G (wrap64 (col + g)) (wrap64 (0 - g)) (wrap64 (row + 1)))
    (LR.map2 (fun z => (z.2, b.1, b.2.1, c0, c1, c2, p, z.1)) (fun r => (r.1, p, r.2)) (if 0 ≤ col + g ∧ col + g < b.2.1 then fallL b G (kindsB b []) n (row + 1) (col + g) (0 - g) S else .ret ((3, row, col + g), S))) := by
   rw [w64 (n := col + g) (by omega) (by omega), w64 (n := 0 - g) (by omega) (by omega), w64 (n := row + 1) (by omega) (by omega)]
   by_cases hin : 0 ≤ col + g ∧ col + g < b.2.1
   ·obtain ⟨p, ih⟩ := Zu5 b hb G hG c0 c1 c2 n (row + 1) (col + g) (0 - g) S (q ++ [row * b.2.1 + col]) (by omega) (by omega) (by omega) (by omega) (by omega) (by omega) hSl hSx (by simp; omega)
    refine ⟨p, fun o' ho' => ?_⟩
    subst ho'
    rw [if_pos hin]
    refine Ev.ite (fun h => ?_) (fun _ => Ev.ite (fun h => ?_) (fun _ => ih))
    ·simp only [decide_eq_true_eq] at h; omega
    ·simp only [decide_eq_true_eq] at h; omega
   ·refine ⟨q ++ [row * b.2.1 + col], fun o' ho' => ?_⟩
    subst ho'
    rw [if_neg hin]
    refine Ev.ite (fun _ => Ev.some _) (fun h => Ev.ite (fun _ => Ev.some _) (fun h2 => ?_))
    simp only [decide_eq_true_eq] at h h2
    omega
  obtain ⟨p, tail⟩ := tail
  refine ⟨p, Ev.succ ?_⟩
  simp only [Z2g, hrow, decide_true, if_true, List.length_singleton, hql]
  rw [w64 (n := row * b.2.1) (by omega) (by omega), w64 (n := row * b.2.1 + col) (by omega) (by omega)]
  simp only [hp.1, hoI, if_true, hX]
  rw [w64 (n := 1 - X.2) (by omega) (by omega)]
  refine Ev.bind hgt ?_
  simp only [Bool.not_true, Bool.false_eq_true, if_false]
  by_cases h3 : X.1 = 3
  ·have h36 : ¬ (3 : Int) = 6 := by omega
   simp only [h3, decide_true, if_true, h36, decide_false, Bool.false_eq_true, if_false]
   rw [if_pos h3] at hpass
   refine tail _ ?_
   rw [← hpass]
   simp [flip1, h3]
  ·simp only [h3, decide_false, Bool.false_eq_true, if_false]
   rw [if_neg h3] at hpass
   by_cases h6 : X.1 = 6
   ·simp only [h6, decide_true, if_true]
    rw [if_pos h6] at hpass
    exact Ev.bind hturn (tail _ hpass)
   ·simp only [h6, decide_false, Bool.false_eq_true, if_false]
    rw [if_neg h6] at hpass
    exact tail _ hpass
theorem ZAs (b : BoardD) (hb : boardOK b = true) (G : List Int) (hG : G.length = b.2.2.length) (col : Int) (hc : 0 ≤ col) (hc2 : col < b.2.1) (o : List CellD) (ho : o.length = b.2.2.length) (hx : ∀ x ∈ o, cellOK x = true) : ∃ p, Ev (fun k => Z73 k (b.1, b.2.1, o) G col) ((fallOf b G (kindsB b []) col o).1, p, (fallOf b G (kindsB b []) col o).2) := by
 obtain ⟨g1, g2, g3, g4, g5, g6⟩ := ZN hb
 obtain ⟨p, h⟩ := Zu5 b hb G hG 0 0 0 b.1.toNat 0 col 0 o [] (by omega) (by omega) hc hc2 (by omega) (by omega) ho hx rfl
 refine ⟨p, Ev.succ ?_⟩
 simp only [Z73]
 refine Ev.bind h ?_
 unfold fallOf
 cases fallL b G (kindsB b []) b.1.toNat 0 col 0 o with
 | go z => exact Ev.go (Ev.some _)
 | ret r => exact Ev.ret (Ev.some _)
end
section
theorem Zhc (b : BoardD) : ∀ (r pre : List Int), (pre ++ r).length ≤ 9223372036854775806 → Ev (fun k => Z2Z k b.1 b.2.1 b.2.2 (pre ++ r) ((pre ++ r).length : Int) (pre.length : Int)) (if r.all (fun c => decide (0 ≤ c ∧ c < b.2.1)) then LR.go () else LR.ret false)
 | [], pre, hl => by
  refine Ev.succ ?_
  simp only [Z2Z, Za, decide_false, Bool.false_eq_true, if_false, List.all_nil, if_true]
  exact Ev.some _
 | x :: r, pre, hl => by
  have ih := Zhc b r (pre ++ [x]) (by simpa using hl)
  refine Ev.succ ?_
  simp only [Z2Z, Z8, Ze, decide_true, if_true, Int.toNat_natCast, Z3]
  rw [Z7 pre x r (by omega)]
  rw [← Z1] at ih
  refine Ev.ite (fun h => ?_) (fun h => Ev.ite (fun h2 => ?_) (fun h2 => ?_))
  ·simp only [decide_eq_true_eq] at h
   have hx : ¬ (0 ≤ x ∧ x < b.2.1) := by omega
   simp only [hx, List.all_cons, decide_false, Bool.false_and, Bool.false_eq_true, if_false]; exact Ev.some _
  ·simp only [decide_eq_true_eq] at h2
   have hx : ¬ (0 ≤ x ∧ x < b.2.1) := by omega
   simp only [hx, List.all_cons, decide_false, Bool.false_and, Bool.false_eq_true, if_false]; exact Ev.some _
  ·simp only [decide_eq_true_eq] at h h2
   have hx : 0 ≤ x ∧ x < b.2.1 := by omega
   simp only [hx, and_self, List.all_cons, decide_true, Bool.true_and]; exact ih
theorem Ziz (b : BoardD) (l : List Int) (hb : b.2.2.length ≤ 9223372036854775806) (hl : l.length ≤ 9223372036854775806) : Ev (fun k => Z65 k b l) (boardOK b && decide (l.length ≤ 60) && l.all fun c => decide (0 ≤ c ∧ c < b.2.1)) := by
 refine Ev.succ ?_
 simp only [Z65]
 refine Ev.bind (Z6G b hb) ?_
 cases hbo : boardOK b with
 | false => simp only [Bool.not_false, if_true, Bool.false_and]; exact Ev.some _
 | true =>
  simp only [Bool.not_true, Bool.false_eq_true, if_false, Bool.true_and]
  refine Ev.ite (fun h => Ev.of ?_) (fun h => ?_)
  ·simp only [decide_eq_true_eq] at h
   have : ¬ l.length ≤ 60 := by omega
   simp [this]
  ·simp only [decide_eq_true_eq] at h
   have h6 : l.length ≤ 60 := by omega
   refine Ev.bind (Zhc b l [] (by simpa using hl)) ?_
   simp only [h6, decide_true, Bool.true_and]
   cases hx : l.all (fun c => decide (0 ≤ c ∧ c < b.2.1)) with
   | true => simp only [if_true]; exact Ev.go (Ev.some _)
   | false => simp only [Bool.false_eq_true, if_false]; exact Ev.ret (Ev.some _)
end
section
end
section
theorem eq3 (x y : FallD) : (decide (x.1 = y.1) && (decide (x.2.1 = y.2.1) && (decide (x.2.2 = y.2.2) && true))) = decide (x = y) := by
 obtain ⟨a0, a1, a2⟩ := x
 obtain ⟨b0, b1, b2⟩ := y
 by_cases h0 : a0 = b0 <;> by_cases h1 : a1 = b1 <;> by_cases h2 : a2 = b2 <;> simp [h0, h1, h2]
def diffIx : Nat → List FallD → List FallD → Option Nat
 | i, x :: r, y :: s => if x = y then diffIx (i + 1) r s else some i
 | _, _, _ => none
def ixOf : Option Nat → Int
 | none => -1
 | some i => (i : Int)
def lrOf {R : Type} (f : Nat → R) : Option Nat → LR Unit R
 | none => .go ()
 | some i => .ret (f i)
theorem ZoC : ∀ (i : Nat) (r s : List FallD), s.length = r.length → (diffIx i r s = none ↔ r = s)
 | i, [], s, h => by
  obtain rfl : s = [] := List.eq_nil_of_length_eq_zero h
  simp [diffIx]
 | i, x :: r, [], h => by simp at h
 | i, x :: r, y :: s, h => by
  have ih := ZoC (i + 1) r s (by simpa using h)
  by_cases hxy : x = y <;> simp [diffIx, hxy, ih]
theorem ZLM (z : Option Nat) : ixOf z < 0 ↔ z = none := by
 cases z with
 | none => simp [ixOf]
 | some i => simp only [ixOf, reduceCtorEq, iff_false]; omega
theorem ZnZ : ∀ (r s pre pre' : List FallD), s.length = r.length → pre'.length = pre.length → (pre ++ r).length ≤ 1000000 → Ev (fun k => Z7J k (pre' ++ s) (pre ++ r) ((pre ++ r).length : Int) (pre.length : Int)) (lrOf (fun i => (i : Int)) (diffIx pre.length r s))
 | [], s, pre, pre', h, hp, hl => by
  obtain rfl : s = [] := List.eq_nil_of_length_eq_zero h
  refine Ev.succ ?_
  simp only [Z7J, Za, decide_false, Bool.false_eq_true, if_false]
  exact Ev.some _
 | x :: r, [], pre, pre', h, hp, hl => by simp at h
 | x :: r, y :: s, pre, pre', h, hp, hl => by
  have ih := ZnZ r s (pre ++ [x]) (pre' ++ [y]) (by simpa using h) (by simpa using hp) (by simpa using hl)
  have l2 : (pre.length : Int) < ((pre' ++ y :: s).length : Int) := by rw [← hp]; exact Z8 _ _ _
  have g2 : List.getD (pre' ++ y :: s) pre.length (0, 0, 0) = y := by rw [← hp]; exact Z3 _ _ _ _
  refine Ev.succ ?_
  simp only [Z7J, Z8, Ze, l2, decide_true, if_true, Int.toNat_natCast, Z3, g2, eq3]
  rw [Z7 pre x r (by omega)]
  rw [← Z1, ← Z1] at ih
  refine Ev.ite (fun hh => ?_) (fun hh => ?_)
  ·have hh : ¬ x = y := nd hh
   exact Ev.of (by simp [diffIx, hh, lrOf])
  ·have hh : x = y := yd hh
   refine ih.congr ?_
   simp [diffIx, hh]
theorem Z7v : ∀ (r s pre pre' : List FallD), s.length = r.length → pre'.length = pre.length → (pre ++ r).length ≤ 1000000 → Ev (fun k => Zu k (pre ++ r) (pre' ++ s) ((pre ++ r).length : Int) (pre.length : Int)) (lrOf (fun _ => false) (diffIx pre.length r s))
 | [], s, pre, pre', h, hp, hl => by
  obtain rfl : s = [] := List.eq_nil_of_length_eq_zero h
  refine Ev.succ ?_
  simp only [Zu, Za, decide_false, Bool.false_eq_true, if_false]
  exact Ev.some _
 | x :: r, [], pre, pre', h, hp, hl => by simp at h
 | x :: r, y :: s, pre, pre', h, hp, hl => by
  have ih := Z7v r s (pre ++ [x]) (pre' ++ [y]) (by simpa using h) (by simpa using hp) (by simpa using hl)
  have l2 : (pre.length : Int) < ((pre' ++ y :: s).length : Int) := by rw [← hp]; exact Z8 _ _ _
  have g2 : List.getD (pre' ++ y :: s) pre.length (0, 0, 0) = y := by rw [← hp]; exact Z3 _ _ _ _
  refine Ev.succ ?_
  simp only [Zu, Z8, Ze, l2, decide_true, if_true, Int.toNat_natCast, Z3, g2, eq3]
  rw [Z7 pre x r (by omega)]
  rw [← Z1, ← Z1] at ih
  refine Ev.ite (fun hh => ?_) (fun hh => ?_)
  ·have hh : ¬ x = y := nd hh
   exact Ev.of (by simp [diffIx, hh, lrOf])
  ·have hh : x = y := yd hh
   refine ih.congr ?_
   simp [diffIx, hh]
theorem ZHB (l m : List FallD) (h : m.length = l.length) (hl : l.length ≤ 1000000) : Ev (fun k => ZfY k l m) (ixOf (diffIx 0 l m)) := by
 refine Ev.succ ?_
 simp only [ZfY]
 refine Ev.bind (ZnZ l m [] [] h rfl (by simpa using hl)) ?_
 simp only [List.length_nil]
 cases diffIx 0 l m with
 | none => exact Ev.go (Ev.some _)
 | some i => exact Ev.ret (Ev.some _)
theorem Zfo (l m : List FallD) (hl : l.length ≤ 1000000) : Ev (fun k => Z1I k l m) (decide (l = m)) := by
 refine Ev.succ ?_
 simp only [Z1I]
 by_cases h : l.length = m.length
 ·simp only [h, ne_eq, not_true_eq_false, decide_false, Bool.false_eq_true, if_false]
  have hh := Z7v l m [] [] h.symm rfl (by simpa using hl)
  simp only [List.nil_append, List.length_nil, h] at hh
  refine Ev.bind hh ?_
  have hn := ZoC 0 l m h.symm
  cases hd : diffIx 0 l m with
  | none =>
   rw [hd] at hn
   simp only [hn.1 rfl, decide_true]
   exact Ev.go (Ev.some _)
  | some i =>
   rw [hd] at hn
   have : ¬ l = m := fun hc => by have := hn.2 hc; cases this
   simp only [this, decide_false]
   exact Ev.ret (Ev.some _)
 ·have h2 : ¬ (l.length : Int) = (m.length : Int) := by omega
  have h3 : ¬ l = m := fun hc => h (by rw [hc])
  simp only [ne_eq, h2, not_false_eq_true, decide_true, if_true, h3, decide_false]
  exact Ev.some _
def entriesOK (b : BoardD) (t : List Int) : Bool := boardOK b && decide (t.length ≤ 60) && t.all fun c => decide (0 ≤ c ∧ c < b.2.1)
theorem ZK7 {b : BoardD} {t : List Int} (h : entriesOK b t = true) : boardOK b = true ∧ t.length ≤ 60 ∧ colsOK b t := by
 unfold entriesOK at h
 simp only [Bool.and_eq_true, decide_eq_true_eq, List.all_eq_true] at h
 exact ⟨h.1.1, h.1.2, h.2⟩
def endOK (b : BoardD) (e : FallD) : Bool := decide (1 ≤ e.1 ∧ e.1 ≤ 3) && decide (0 ≤ e.2.1 ∧ e.2.1 ≤ b.1) && decide (-1 ≤ e.2.2 ∧ e.2.2 ≤ b.2.1)
def seenOK (b : BoardD) (t : List Int) (s : List FallD) : Bool := boardOK b && (decide (b.2.2.length ≤ 24) && (decide (t.length ≤ 20) && ((t.all fun c => decide (0 ≤ c ∧ c < b.2.1)) && (decide (s.length = t.length) && s.all (endOK b)))))
theorem ZqI {b : BoardD} {t : List Int} {s : List FallD} (h : seenOK b t s = true) : boardOK b = true ∧ b.2.2.length ≤ 24 ∧ t.length ≤ 20 ∧ colsOK b t ∧ s.length = t.length := by
 unfold seenOK at h
 simp only [Bool.and_eq_true, decide_eq_true_eq, List.all_eq_true] at h
 exact ⟨h.1, h.2.1, h.2.2.1, h.2.2.2.1, h.2.2.2.2.1⟩
theorem Zoa (b : BoardD) : ∀ (r pre : List FallD), (pre ++ r).length ≤ 9223372036854775806 → Ev (fun k => Z7P k b.1 b.2.1 b.2.2 (pre ++ r) ((pre ++ r).length : Int) (pre.length : Int)) (if r.all (endOK b) then LR.go () else LR.ret false)
 | [], pre, hl => by
  refine Ev.succ ?_
  simp only [Z7P, Za, decide_false, Bool.false_eq_true, if_false, List.all_nil, if_true]
  exact Ev.some _
 | x :: r, pre, hl => by
  have ih := Zoa b r (pre ++ [x]) (by simpa using hl)
  refine Ev.succ ?_
  simp only [Z7P, Z8, Ze, decide_true, if_true, Int.toNat_natCast, Z3]
  rw [Z7 pre x r (by omega)]
  rw [← Z1] at ih
  simp only [List.all_cons]
  have hd : endOK b x = (decide (1 ≤ x.1 ∧ x.1 ≤ 3) && decide (0 ≤ x.2.1 ∧ x.2.1 ≤ b.1) && decide (-1 ≤ x.2.2 ∧ x.2.2 ≤ b.2.1)) := rfl
  refine Ev.bind (Z1o _ _ _) (Ev.ite (fun h => ?_) (fun h1 => ?_))
  ·have h := nd (c := 1 ≤ x.1 ∧ x.1 ≤ 3) h
   exact Ev.of (by simp [hd, h])
  refine Ev.bind (Z1o _ _ _) (Ev.ite (fun h => ?_) (fun h2 => ?_))
  ·have h := nd (c := 0 ≤ x.2.1 ∧ x.2.1 ≤ b.1) h
   exact Ev.of (by simp only [hd, h, decide_false, Bool.and_false, Bool.false_and, Bool.false_eq_true, if_false])
  refine Ev.bind (Z1o _ _ _) (Ev.ite (fun h => ?_) (fun h3 => ?_))
  ·have h := nd (c := -1 ≤ x.2.2 ∧ x.2.2 ≤ b.2.1) h
   exact Ev.of (by simp only [hd, h, decide_false, Bool.and_false, Bool.false_and, Bool.false_eq_true, if_false])
  have h1 := yd (c := 1 ≤ x.1 ∧ x.1 ≤ 3) h1
  have h2 := yd (c := 0 ≤ x.2.1 ∧ x.2.1 ≤ b.1) h2
  have h3 := yd (c := -1 ≤ x.2.2 ∧ x.2.2 ≤ b.2.1) h3
  refine ih.congr ?_
  simp only [hd, h1, h2, h3, and_self, decide_true, Bool.true_and]
theorem ZH9 (b : BoardD) (t : List Int) (s : List FallD) (hb : b.2.2.length ≤ 9223372036854775806) (ht : t.length ≤ 9223372036854775806) (hs : s.length ≤ 9223372036854775806) : Ev (fun k => Zg4 k b t s) (seenOK b t s) := by
 refine Ev.succ ?_
 simp only [Zg4]
 have hdg : Ev (fun k => Zen k b) (boardOK b && decide (b.2.2.length ≤ 24)) := by
  refine Ev.succ ?_
  simp only [Zen]
  refine Ev.bind (ZHk b hb) (Ev.of ?_)
  have : ((b.2.2.length : Int) ≤ 24) ↔ b.2.2.length ≤ 24 := by omega
  cases boardOK b <;> simp [this]
 refine Ev.bind hdg ?_
 unfold seenOK
 rw [← Bool.and_assoc]
 cases h0 : (boardOK b && decide (b.2.2.length ≤ 24)) with
 | false => simp only [Bool.not_false, if_true, Bool.false_and]; exact Ev.some _
 | true =>
  have hbo : boardOK b = true := by rw [Bool.and_eq_true] at h0; exact h0.1
  obtain ⟨g1, g2, g3, g4, g5, g6⟩ := ZN hbo
  simp only [Bool.not_true, Bool.false_eq_true, if_false, Bool.true_and]
  rw [w64 (n := b.2.1 - 1) (by omega) (by omega)]
  refine Ev.ite (fun h => ?_) (fun h => ?_)
  ·simp only [decide_eq_true_eq] at h
   have : ¬ t.length ≤ 20 := by omega
   simp only [this, decide_false, Bool.false_and]
   exact Ev.some _
  simp only [decide_eq_true_eq] at h
  have h20 : t.length ≤ 20 := by omega
  simp only [h20, decide_true, Bool.true_and]
  have hall : (t.all fun n => decide (0 ≤ n ∧ n ≤ b.2.1 - 1)) = (t.all fun c => decide (0 ≤ c ∧ c < b.2.1)) := by
   congr 1
   funext c
   have : (0 ≤ c ∧ c ≤ b.2.1 - 1) ↔ (0 ≤ c ∧ c < b.2.1) := by omega
   simp only [this]
  refine Ev.bind (ZhY t _ _ ht) ?_
  rw [hall]
  cases h1 : (t.all fun c => decide (0 ≤ c ∧ c < b.2.1)) with
  | false => simp only [Bool.not_false, if_true, Bool.false_and]; exact Ev.some _
  | true =>
   simp only [Bool.not_true, Bool.false_eq_true, if_false, Bool.true_and]
   refine Ev.ite (fun h => ?_) (fun h => ?_)
   ·simp only [decide_eq_true_eq] at h
    have : ¬ s.length = t.length := by omega
    simp only [this, decide_false, Bool.false_and]
    exact Ev.some _
   simp only [decide_eq_true_eq] at h
   have hst : s.length = t.length := by omega
   rw [decide_eq_true hst, Bool.true_and]
   refine Ev.bind (Zoa b s [] (by simpa using hs)) ?_
   cases s.all (endOK b) with
   | true => simp only [if_true]; exact Ev.go (Ev.some _)
   | false => simp only [Bool.false_eq_true, if_false]; exact Ev.ret (Ev.some _)
theorem ZnR (b : BoardD) : ∀ (r pre : List FallD), (pre ++ r).length ≤ 9223372036854775806 → Ev (fun k => Z7R k b.1 b.2.1 b.2.2 (pre ++ r) ((pre ++ r).length : Int) (pre.length : Int)) (if r.all (endOK b) then LR.go () else LR.ret false)
 | [], pre, hl => by
  refine Ev.succ ?_
  simp only [Z7R, Za, decide_false, Bool.false_eq_true, if_false, List.all_nil, if_true]
  exact Ev.some _
 | x :: r, pre, hl => by
  have ih := ZnR b r (pre ++ [x]) (by simpa using hl)
  refine Ev.succ ?_
  simp only [Z7R, Z8, Ze, decide_true, if_true, Int.toNat_natCast, Z3]
  rw [Z7 pre x r (by omega)]
  rw [← Z1] at ih
  simp only [List.all_cons]
  have hd : endOK b x = decide (1 ≤ x.1 ∧ x.1 ≤ 3 ∧ 0 ≤ x.2.1 ∧ x.2.1 ≤ b.1 ∧ -1 ≤ x.2.2 ∧ x.2.2 ≤ b.2.1) := by
   unfold endOK
   rw [← Bool.decide_and, ← Bool.decide_and]
   exact decide_eq_decide.2 (by omega)
  have no : ¬ (1 ≤ x.1 ∧ x.1 ≤ 3 ∧ 0 ≤ x.2.1 ∧ x.2.1 ≤ b.1 ∧ -1 ≤ x.2.2 ∧ x.2.2 ≤ b.2.1) → (if (endOK b x && r.all (endOK b)) = true then LR.go () else LR.ret false : LR Unit Bool) = LR.ret false := by
   intro h
   simp only [hd, h, decide_false, Bool.false_and, Bool.false_eq_true, if_false]
  refine Ev.ite (fun h => Ev.of ?_) (fun a1 => Ev.ite (fun h => Ev.of ?_) (fun a2 => Ev.ite (fun h => Ev.of ?_) (fun a3 => Ev.ite (fun h => Ev.of ?_) (fun a4 => Ev.ite (fun h => Ev.of ?_) (fun a5 => Ev.ite (fun h => Ev.of ?_) (fun a6 => ?_))))))
  all_goals try (simp only [decide_eq_true_eq] at h; exact congrArg some (no (by omega)).symm)
  simp only [decide_eq_true_eq] at a1 a2 a3 a4 a5 a6
  have : 1 ≤ x.1 ∧ x.1 ≤ 3 ∧ 0 ≤ x.2.1 ∧ x.2.1 ≤ b.1 ∧ -1 ≤ x.2.2 ∧ x.2.2 ≤ b.2.1 := by omega
  refine ih.congr ?_
  simp only [hd, decide_eq_true this, Bool.true_and]
theorem ZtW (b : BoardD) (t : List Int) (s : List FallD) (hb : b.2.2.length ≤ 9223372036854775806) (ht : t.length ≤ 9223372036854775806) (hs : s.length ≤ 9223372036854775806) : Ev (fun k => ZcU k b t s) (seenOK b t s) := by
 refine Ev.succ ?_
 simp only [ZcU]
 refine Ev.bind (Ziz b t hb ht) ?_
 unfold seenOK
 have no : ∀ {p q r : Bool} {c : Bool}, (p && (q && (r && (c && (decide (s.length = t.length) && s.all (endOK b)))))) = true → p = true ∧ q = true ∧ r = true ∧ c = true ∧ s.length = t.length ∧ s.all (endOK b) = true := by
  intro p q r c h
  simp only [Bool.and_eq_true, decide_eq_true_eq] at h
  exact ⟨h.1, h.2.1, h.2.2.1, h.2.2.2.1, h.2.2.2.2.1, h.2.2.2.2.2⟩
 generalize hv : (boardOK b && (decide (b.2.2.length ≤ 24) && (decide (t.length ≤ 20) && ((t.all fun c => decide (0 ≤ c ∧ c < b.2.1)) && (decide (s.length = t.length) && s.all (endOK b)))))) = v
 have out : (∀ (h1 : boardOK b = true) (h2 : b.2.2.length ≤ 24) (h3 : t.length ≤ 20) (h4 : (t.all fun c => decide (0 ≤ c ∧ c < b.2.1)) = true) (h5 : s.length = t.length) (h6 : s.all (endOK b) = true), False) → v = false := by
  intro h
  cases hb : v with
  | false => rfl
  | true =>
   rw [hb] at hv
   obtain ⟨a1, a2, a3, a4, a5, a6⟩ := no hv
   exact (h a1 (of_decide_eq_true a2) (of_decide_eq_true a3) a4 a5 a6).elim
 refine Ev.ite (fun h => ?_) (fun h => ?_)
 ·rw [out (fun h1 h2 h3 h4 h5 h6 => by
   have h3' : t.length ≤ 60 := by omega
   rw [h1, h4, decide_eq_true h3'] at h
   cases h)]
  exact Ev.some _
 simp only [Bool.not_eq_true, Bool.not_eq_false', Bool.and_eq_true, decide_eq_true_eq] at h
 obtain ⟨⟨a1, a2⟩, a3⟩ := h
 refine Ev.ite (fun h => ?_) (fun h => ?_)
 ·simp only [decide_eq_true_eq] at h
  rw [out (fun h1 h2 h3 h4 h5 h6 => by omega)]
  exact Ev.some _
 refine Ev.ite (fun h' => ?_) (fun h' => ?_)
 ·simp only [decide_eq_true_eq] at h'
  rw [out (fun h1 h2 h3 h4 h5 h6 => by omega)]
  exact Ev.some _
 refine Ev.ite (fun h'' => ?_) (fun h'' => ?_)
 ·simp only [decide_eq_true_eq] at h''
  rw [out (fun h1 h2 h3 h4 h5 h6 => by omega)]
  exact Ev.some _
 simp only [decide_eq_true_eq] at h h' h''
 have b2 : b.2.2.length ≤ 24 := by omega
 have b3 : t.length ≤ 20 := by omega
 have b5 : s.length = t.length := by omega
 rw [a1, a3, decide_eq_true b2, decide_eq_true b3, decide_eq_true b5, Bool.true_and, Bool.true_and, Bool.true_and, Bool.true_and, Bool.true_and] at hv
 subst hv
 refine Ev.bind (ZnR b s [] (by simpa using hs)) ?_
 cases s.all (endOK b) with
 | true => simp only [if_true]; exact Ev.go (Ev.some _)
 | false => simp only [Bool.false_eq_true, if_false]; exact Ev.ret (Ev.some _)
def endsOf (b : BoardD) (l : List FaultD) (t : List Int) : List FallD := (runsOf b (groupsOf b) (kindsB b l) t b.2.2).1
def leftOf (b : BoardD) (l : List FaultD) (t : List Int) : List CellD := (runsOf b (groupsOf b) (kindsB b l) t b.2.2).2
theorem ZDx (b : BoardD) (l : List FaultD) (t : List Int) : (endsOf b l t).length = t.length := ZDO _ _ _ _ _
theorem Zzu (b : BoardD) (hb : boardOK b = true) (l : List FaultD) (hl : faultsOK b (-1) l = true) (hll : l.length ≤ 9223372036854775806) (t : List Int) (ht : t.length ≤ 1000) (hc : colsOK b t) (s : List FallD) (hs : s.length = t.length) : Ev (fun k => Zbf k b l t s) (decide (endsOf b l t = s)) := by
 refine Ev.succ ?_
 simp only [Zbf]
 have he := ZDx b l t
 refine Ev.bind (ZId b hb l hl hll t ht hc) (Ev.bind (ZHB (endsOf b l t) s (by omega) (by omega)) (Ev.of ?_))
 congr 1
 exact decide_eq_decide.2 ((ZLM _).trans (ZoC 0 _ _ (by omega)))
theorem ZiP (b : BoardD) (hb : boardOK b = true) (l : List FaultD) (hl : faultsOK b (-1) l = true) (hll : l.length ≤ 9223372036854775806) (t : List Int) (ht : t.length ≤ 1000) (hc : colsOK b t) (s : List FallD) : Ev (fun k => Z5X k b l t s) (decide (endsOf b l t = s)) := by
 refine Ev.succ ?_
 simp only [Z5X]
 have he := ZDx b l t
 exact Ev.bind (Zk4 b hb l hl hll t ht hc) (Ev.bind (Zfo (endsOf b l t) s (by omega)) (Ev.some _))
end
section
def kindsAt (C i : Int) (x : CellD) : List FaultD := ([1, 2, 3].filter (fits x)).map fun kd => (kd, Int.tdiv i C, Int.tmod i C)
def possFrom (C : Int) : Int → List CellD → List FaultD
 | _, [] => []
 | i, x :: r => kindsAt C i x ++ possFrom C (i + 1) r
theorem ZpM (C i : Int) (x : CellD) : (kindsAt C i x).length ≤ 3 := by
 unfold kindsAt
 rw [List.length_map]
 exact Nat.le_trans (List.length_filter_le _ _) (by simp)
theorem Zy4 (C : Int) : ∀ (r : List CellD) (i : Int), (possFrom C i r).length ≤ 3 * r.length
 | [], _ => by simp [possFrom]
 | x :: r, i => by
  have h1 := ZpM C i x
  have h2 := Zy4 C r (i + 1)
  simp only [possFrom, List.length_append, List.length_cons]
  omega
theorem ZJZ {i C : Int} (hi : 0 ≤ i) (hC : 1 ≤ C) : 0 ≤ Int.tdiv i C ∧ Int.tdiv i C ≤ i := by
 rw [Int.tdiv_eq_ediv_of_nonneg hi]
 exact ⟨Int.ediv_nonneg hi (by omega), Int.ediv_le_self _ hi⟩
theorem Z9e (R C : Int) (cs : List CellD) (x : CellD) (i kd : Int) (hi : 0 ≤ i) (hi2 : i ≤ 90) (hC : 1 ≤ C) (hk : 1 ≤ kd) (hk2 : kd ≤ 3) (v8 : List CellD) (v9 v10 : Int) (o : List FaultD) (ho : o.length ≤ 1000) (z : Int × Int × List CellD × List FaultD × List CellD × Int × Int)
  (h : Ev (fun k => Z15 k R C cs (if fits x kd then o ++ [(kd, Int.tdiv i C, Int.tmod i C)] else o) x.1 x.2 i (kd + 1) v8 v9 v10) z) : Ev (fun k => Z15 k R C cs o x.1 x.2 i kd v8 v9 v10) z := by
 have hd := ZJZ hi hC
 have hC0 : ¬ C = 0 := by omega
 have hlen : o.length + 1 ≤ 5864062014805 := by omega
 refine Ev.succ ?_
 simp only [Z15, hk2, decide_true, if_true]
 rw [w64 (n := kd + 1) (by omega) (by omega), w64 (n := Int.tdiv i C) (by omega) (by omega)]
 refine Ev.bind (ZGl x kd) ?_
 cases hf : fits x kd with
 | true =>
  simp only [hf, if_true] at h
  simp only [if_true, hC0, if_false, List.length_singleton]
  have : o.length + 1 ≤ 140737488355328 / 24 := by omega
  simp only [this, if_true]
  exact h
 | false =>
  simp only [hf, Bool.false_eq_true, if_false] at h
  simp only [Bool.false_eq_true, if_false]
  exact h
theorem Zvu (R C : Int) (cs : List CellD) (x : CellD) (i : Int) (hi : 0 ≤ i) (hi2 : i ≤ 90) (hC : 1 ≤ C) (v8 : List CellD) (v9 v10 : Int) (o : List FaultD) (ho : o.length ≤ 900) : Ev (fun k => Z15 k R C cs o x.1 x.2 i 1 v8 v9 v10) (R, C, cs, o ++ kindsAt C i x, v8, v9, v10) := by
 have e1 : (if fits x 1 then o ++ [(1, Int.tdiv i C, Int.tmod i C)] else o) = o ++ (if fits x 1 then [(1, Int.tdiv i C, Int.tmod i C)] else []) := by split <;> simp
 refine Z9e R C cs x i 1 hi hi2 hC (by omega) (by omega) v8 v9 v10 o (by omega) _ ?_
 rw [e1]
 generalize h1 : (if fits x 1 then [((1 : Int), Int.tdiv i C, Int.tmod i C)] else []) = o1
 have l1 : o1.length ≤ 1 := by rw [← h1]; split <;> simp
 refine Z9e R C cs x i 2 hi hi2 hC (by omega) (by omega) v8 v9 v10 _ (by simp; omega) _ ?_
 have e2 : (if fits x 2 then (o ++ o1) ++ [(2, Int.tdiv i C, Int.tmod i C)] else o ++ o1) = (o ++ o1) ++ (if fits x 2 then [(2, Int.tdiv i C, Int.tmod i C)] else []) := by split <;> simp
 rw [e2]
 generalize h2 : (if fits x 2 then [((2 : Int), Int.tdiv i C, Int.tmod i C)] else []) = o2
 have l2 : o2.length ≤ 1 := by rw [← h2]; split <;> simp
 refine Z9e R C cs x i 3 hi hi2 hC (by omega) (by omega) v8 v9 v10 _ (by simp; omega) _ ?_
 refine Ev.succ ?_
 simp only [Z15]
 have h4 : ¬ (3 + 1 : Int) ≤ 3 := by omega
 simp only [h4, decide_false, Bool.false_eq_true, if_false]
 refine Ev.of ?_
 rw [← h1, ← h2]
 unfold kindsAt
 cases f1 : fits x 1 <;> cases f2 : fits x 2 <;> cases f3 : fits x 3 <;> simp [List.filter, f1, f2, f3]
theorem ZiO (R C : Int) (hC : 1 ≤ C) (cs : List CellD) : ∀ (r pre : List CellD) (o : List FaultD), (pre ++ r).length ≤ 90 → o.length ≤ 3 * pre.length → Ev (fun k => Z2E k R C cs o (pre ++ r) ((pre ++ r).length : Int) (pre.length : Int)) (o ++ possFrom C pre.length r)
 | [], pre, o, hl, ho => by
  refine Ev.succ ?_
  simp only [Z2E, Za, decide_false, Bool.false_eq_true, if_false, possFrom]
  rw [List.append_nil o]
  exact Ev.some _
 | x :: r, pre, o, hl, ho => by
  have hl2 := hl
  simp only [List.length_append, List.length_cons] at hl2
  have hka : (kindsAt C pre.length x).length ≤ 3 := ZpM _ _ _
  have ih := ZiO R C hC cs r (pre ++ [x]) (o ++ kindsAt C pre.length x) (by simpa using hl) (by simp; omega)
  refine Ev.succ ?_
  simp only [Z2E, Z8, Ze, decide_true, if_true, Int.toNat_natCast, Z3]
  refine Ev.bind (Zvu R C cs x (pre.length : Int) (by omega) (by omega) hC (pre ++ x :: r) ((pre ++ x :: r).length : Int) (pre.length : Int) o (by omega)) ?_
  show Ev (fun k => Z2E k R C cs (o ++ kindsAt C pre.length x) (pre ++ x :: r) ((pre ++ x :: r).length : Int) (wrap64 ((pre.length : Int) + 1))) _
  rw [Z7 pre x r (by omega)]
  rw [← Z1] at ih
  refine ih.congr ?_
  simp [possFrom]
theorem ZyU (b : BoardD) (hb : boardOK b = true) : Ev (fun k => Zb3 k b) (possFrom b.2.1 0 b.2.2) := by
 obtain ⟨g1, g2, g3, g4, g5, g6⟩ := ZN hb
 have hp := ZD g1 g2 g3 g4
 refine Ev.succ ?_
 simp only [Zb3]
 exact Ev.bind (ZiO b.1 b.2.1 g3 b.2.2 b.2.2 [] [] (by simp; omega) (by simp)) (Ev.some _)
theorem Z6g (R C : Int) (cs : List CellD) (x : CellD) (hx : cellOK x = true) (i kd : Int) (hi : 0 ≤ i) (hi2 : i ≤ 90) (hC : 1 ≤ C) (hk : 1 ≤ kd) (hk2 : kd ≤ 3) (v8 : List CellD) (v9 v10 : Int) (o : List FaultD) (ho : o.length ≤ 1000) (z : Int × Int × List CellD × List FaultD × List CellD × Int × Int)
  (h : Ev (fun k => ZE k R C cs (if fits x kd then o ++ [(kd, Int.tdiv i C, Int.tmod i C)] else o) x.1 x.2 i (kd + 1) v8 v9 v10) z) : Ev (fun k => ZE k R C cs o x.1 x.2 i kd v8 v9 v10) z := by
 have hd := ZJZ hi hC
 have hC0 : ¬ C = 0 := by omega
 have hlen : o.length + 1 ≤ 5864062014805 := by omega
 refine Ev.succ ?_
 simp only [ZE, hk2, decide_true, if_true]
 rw [w64 (n := kd + 1) (by omega) (by omega), w64 (n := Int.tdiv i C) (by omega) (by omega)]
 refine Ev.bind (Zq6 x kd hx) ?_
 cases hf : fits x kd with
 | true =>
  simp only [hf, if_true] at h
  simp only [if_true, hC0, if_false, List.length_singleton]
  have : o.length + 1 ≤ 140737488355328 / 24 := by omega
  simp only [this, if_true]
  exact h
 | false =>
  simp only [hf, Bool.false_eq_true, if_false] at h
  simp only [Bool.false_eq_true, if_false]
  exact h
theorem Znc (R C : Int) (cs : List CellD) (x : CellD) (hx : cellOK x = true) (i : Int) (hi : 0 ≤ i) (hi2 : i ≤ 90) (hC : 1 ≤ C) (v8 : List CellD) (v9 v10 : Int) (o : List FaultD) (ho : o.length ≤ 900) : Ev (fun k => ZE k R C cs o x.1 x.2 i 1 v8 v9 v10) (R, C, cs, o ++ kindsAt C i x, v8, v9, v10) := by
 have e1 : (if fits x 1 then o ++ [(1, Int.tdiv i C, Int.tmod i C)] else o) = o ++ (if fits x 1 then [(1, Int.tdiv i C, Int.tmod i C)] else []) := by split <;> simp
 refine Z6g R C cs x hx i 1 hi hi2 hC (by omega) (by omega) v8 v9 v10 o (by omega) _ ?_
 rw [e1]
 generalize h1 : (if fits x 1 then [((1 : Int), Int.tdiv i C, Int.tmod i C)] else []) = o1
 have l1 : o1.length ≤ 1 := by rw [← h1]; split <;> simp
 refine Z6g R C cs x hx i 2 hi hi2 hC (by omega) (by omega) v8 v9 v10 _ (by simp; omega) _ ?_
 have e2 : (if fits x 2 then (o ++ o1) ++ [(2, Int.tdiv i C, Int.tmod i C)] else o ++ o1) = (o ++ o1) ++ (if fits x 2 then [(2, Int.tdiv i C, Int.tmod i C)] else []) := by split <;> simp
 rw [e2]
 generalize h2 : (if fits x 2 then [((2 : Int), Int.tdiv i C, Int.tmod i C)] else []) = o2
 have l2 : o2.length ≤ 1 := by rw [← h2]; split <;> simp
 refine Z6g R C cs x hx i 3 hi hi2 hC (by omega) (by omega) v8 v9 v10 _ (by simp; omega) _ ?_
 refine Ev.succ ?_
 simp only [ZE]
 have h4 : ¬ (3 + 1 : Int) ≤ 3 := by omega
 simp only [h4, decide_false, Bool.false_eq_true, if_false]
 refine Ev.of ?_
 rw [← h1, ← h2]
 unfold kindsAt
 cases f1 : fits x 1 <;> cases f2 : fits x 2 <;> cases f3 : fits x 3 <;> simp [List.filter, f1, f2, f3]
theorem ZeZ (R C : Int) (hC : 1 ≤ C) (cs : List CellD) : ∀ (r pre : List CellD) (o : List FaultD), (∀ y ∈ r, cellOK y = true) → (pre ++ r).length ≤ 90 → o.length ≤ 3 * pre.length → Ev (fun k => Z1h k R C cs o (pre ++ r) ((pre ++ r).length : Int) (pre.length : Int)) (o ++ possFrom C pre.length r)
 | [], pre, o, hx, hl, ho => by
  refine Ev.succ ?_
  simp only [Z1h, Za, decide_false, Bool.false_eq_true, if_false, possFrom]
  rw [List.append_nil o]
  exact Ev.some _
 | x :: r, pre, o, hx, hl, ho => by
  have hl2 := hl
  simp only [List.length_append, List.length_cons] at hl2
  have hka : (kindsAt C pre.length x).length ≤ 3 := ZpM _ _ _
  have ih := ZeZ R C hC cs r (pre ++ [x]) (o ++ kindsAt C pre.length x) (fun y hy => hx y (List.mem_cons_of_mem _ hy)) (by simpa using hl) (by simp; omega)
  refine Ev.succ ?_
  simp only [Z1h, Z8, Ze, decide_true, if_true, Int.toNat_natCast, Z3]
  refine Ev.bind (Znc R C cs x (hx x (List.mem_cons_self ..)) (pre.length : Int) (by omega) (by omega) hC (pre ++ x :: r) ((pre ++ x :: r).length : Int) (pre.length : Int) o (by omega)) ?_
  show Ev (fun k => Z1h k R C cs (o ++ kindsAt C pre.length x) (pre ++ x :: r) ((pre ++ x :: r).length : Int) (wrap64 ((pre.length : Int) + 1))) _
  rw [Z7 pre x r (by omega)]
  rw [← Z1] at ih
  refine ih.congr ?_
  simp [possFrom]
theorem ZqF (b : BoardD) (hb : boardOK b = true) : Ev (fun k => Z7H k b) (possFrom b.2.1 0 b.2.2) := by
 obtain ⟨g1, g2, g3, g4, g5, g6⟩ := ZN hb
 have hp := ZD g1 g2 g3 g4
 refine Ev.succ ?_
 simp only [Z7H]
 exact Ev.bind (ZeZ b.1 b.2.1 g3 b.2.2 b.2.2 [] [] g6 (by simp; omega) (by simp)) (Ev.some _)
theorem ZLI {i C : Int} (hi : 0 ≤ i) (hC : 1 ≤ C) : Int.tdiv i C * C + Int.tmod i C = i ∧ 0 ≤ Int.tmod i C ∧ Int.tmod i C < C ∧ 0 ≤ Int.tdiv i C := by
 rw [Int.tdiv_eq_ediv_of_nonneg hi, Int.tmod_eq_emod_of_nonneg hi]
 refine ⟨?_, Int.emod_nonneg _ (by omega), Int.emod_lt_of_pos _ (by omega), Int.ediv_nonneg hi (by omega)⟩
 rw [Int.mul_comm]
 exact Int.mul_ediv_add_emod i C
theorem ZIS {C i : Int} {x : CellD} {f : FaultD} (h : f ∈ kindsAt C i x) : f.2.1 = Int.tdiv i C ∧ f.2.2 = Int.tmod i C ∧ fits x f.1 = true := by
 unfold kindsAt at h
 obtain ⟨kd, h1, rfl⟩ := List.mem_map.1 h
 exact ⟨rfl, rfl, (List.mem_filter.1 h1).2⟩
theorem ZHW {C : Int} : ∀ {r : List CellD} {i : Nat} {f : FaultD}, f ∈ possFrom C i r → ∃ j : Nat, i ≤ j ∧ j < i + r.length ∧ f.2.1 = Int.tdiv j C ∧ f.2.2 = Int.tmod j C ∧ fits (List.getD r (j - i) (0, 0)) f.1 = true
 | [], i, f, h => by simp [possFrom] at h
 | x :: r, i, f, h => by
  simp only [possFrom, List.mem_append] at h
  rcases h with h | h
  ·obtain ⟨h1, h2, h3⟩ := ZIS h
   exact ⟨i, Nat.le_refl _, by simp, h1, h2, by simpa using h3⟩
  ·have h' : f ∈ possFrom C ((i + 1 : Nat) : Int) r := h
   obtain ⟨j, h1, h2, h3, h4, h5⟩ := ZHW h'
   refine ⟨j, by omega, by simp only [List.length_cons]; omega, h3, h4, ?_⟩
   rw [show j - i = (j - (i + 1)) + 1 by omega]
   exact h5
theorem ZKm {b : BoardD} (hb : boardOK b = true) {f : FaultD} (h : f ∈ possFrom b.2.1 0 b.2.2) : 0 ≤ f.2.1 ∧ f.2.1 < b.1 ∧ 0 ≤ f.2.2 ∧ f.2.2 < b.2.1 ∧ fits (List.getD b.2.2 (placeOf b f).toNat (0, 0)) f.1 = true := by
 obtain ⟨g1, g2, g3, g4, g5, g6⟩ := ZN hb
 have h' : f ∈ possFrom b.2.1 ((0 : Nat) : Int) b.2.2 := h
 obtain ⟨j, h1, h2, h3, h4, h5⟩ := ZHW h'
 obtain ⟨d1, d2, d3, d4⟩ := ZLI (i := (j : Int)) (C := b.2.1) (by omega) g3
 have hp : placeOf b f = j := by unfold placeOf; rw [h3, h4]; exact d1
 refine ⟨by rw [h3]; exact d4, ?_, by rw [h4]; exact d2, by rw [h4]; exact d3, ?_⟩
 ·rw [h3]
  by_cases hh : Int.tdiv (j : Int) b.2.1 < b.1
  ·exact hh
  ·have := Int.mul_le_mul_of_nonneg_right (show b.1 ≤ Int.tdiv (j : Int) b.2.1 by omega) (show 0 ≤ b.2.1 by omega)
   omega
 ·rw [hp]
  simpa using h5
theorem ZCg {b : BoardD} (hb : boardOK b = true) {f : FaultD} (h : f ∈ possFrom b.2.1 0 b.2.2) : faultsOK b (-1) [f] = true := by
 obtain ⟨h1, h2, h3, h4, h5⟩ := ZKm hb h
 have hp := Z8e hb h1 h2 h3 h4
 unfold placeOf at h5
 have h6 : 0 ≤ f.2.1 ∧ f.2.1 < b.1 ∧ 0 ≤ f.2.2 ∧ f.2.2 < b.2.1 ∧ -1 < f.2.1 * b.2.1 + f.2.2 := ⟨h1, h2, h3, h4, by omega⟩
 simp only [faultsOK, h5, h6, and_self, decide_true, Bool.and_self]
theorem ZsD {b : BoardD} (hb : boardOK b = true) : (possFrom b.2.1 0 b.2.2).length ≤ 270 := by
 obtain ⟨g1, g2, g3, g4, g5, g6⟩ := ZN hb
 have hpp := ZD g1 g2 g3 g4
 have := Zy4 b.2.1 b.2.2 0
 omega
end
section
def singlesOf (b : BoardD) (t : List Int) (s : List FallD) : List FaultD := (possFrom b.2.1 0 b.2.2).filter fun f => decide (endsOf b [f] t = s)
theorem ZkT (b : BoardD) (hb : boardOK b = true) (t : List Int) (ht : t.length ≤ 1000) (hc : colsOK b t) (s : List FallD) (hs : s.length = t.length) : ∀ (r pre acc : List FaultD), (∀ f ∈ r, faultsOK b (-1) [f] = true) → (pre ++ r).length ≤ 1000 → acc.length ≤ pre.length → Ev (fun k => Z3L k b.1 b.2.1 b.2.2 acc (pre ++ r) t s ((pre ++ r).length : Int) (pre.length : Int)) (acc ++ r.filter (fun f => decide (endsOf b [f] t = s)))
 | [], pre, acc, hf, hl, ha => by
  refine Ev.succ ?_
  simp only [Z3L, Za, decide_false, Bool.false_eq_true, if_false]
  exact Ev.of (by simp)
 | f :: r, pre, acc, hf, hl, ha => by
  have ih := fun acc' ha' => ZkT b hb t ht hc s hs r (pre ++ [f]) acc' (fun g hg => hf g (List.mem_cons_of_mem _ hg)) (by simpa using hl) ha'
  simp only [← Z1] at ih
  have hal : acc.length + 1 ≤ 140737488355328 / 24 := by simp at hl; omega
  have h1 := Zzu b hb [f] (hf f (List.mem_cons_self ..)) (by simp) t ht hc s hs
  refine Ev.succ ?_
  simp only [Z3L, Z8, Ze, decide_true, if_true, Int.toNat_natCast, Z3, List.length_singleton, hal]
  rw [Z7 pre f r (by omega)]
  refine Ev.bind h1 (Ev.ite (fun h => ?_) (fun h => ?_))
  ·have h : (fun f => decide (endsOf b [f] t = s)) f = true := h
   refine (ih (acc ++ [f]) (by simp; omega)).congr ?_
   simp only [List.filter_cons, h, if_true, List.append_assoc, List.singleton_append]
  ·have h : ¬ (fun f => decide (endsOf b [f] t = s)) f = true := h
   refine (ih acc (by simp; omega)).congr ?_
   exact congrArg (acc ++ ·) (List.filter_cons_of_neg (p := (fun f => decide (endsOf b [f] t = s))) h).symm
theorem ZDX (b : BoardD) (hb : boardOK b = true) (t : List Int) (ht : t.length ≤ 1000) (hc : colsOK b t) (s : List FallD) (hs : s.length = t.length) : Ev (fun k => Zdu k b t s) (singlesOf b t s) := by
 have hn := ZsD hb
 refine Ev.succ ?_
 simp only [Zdu]
 exact Ev.bind (ZyU b hb) (Ev.bind (ZkT b hb t ht hc s hs (possFrom b.2.1 0 b.2.2) [] [] (fun f hf => ZCg hb hf) (by simp; omega) (by simp)) (Ev.some _))
theorem ZgX (b : BoardD) (hb : boardOK b = true) (t : List Int) (ht : t.length ≤ 1000) (hc : colsOK b t) (s : List FallD) (hs : s.length = t.length) : ∀ (r pre acc : List FaultD), (∀ f ∈ r, faultsOK b (-1) [f] = true) → (pre ++ r).length ≤ 1000 → acc.length ≤ pre.length → Ev (fun k => Z1Y k b.1 b.2.1 b.2.2 acc (pre ++ r) t s ((pre ++ r).length : Int) (pre.length : Int)) (acc ++ r.filter (fun f => decide (endsOf b [f] t = s)))
 | [], pre, acc, hf, hl, ha => by
  refine Ev.succ ?_
  simp only [Z1Y, Za, decide_false, Bool.false_eq_true, if_false]
  exact Ev.of (by simp)
 | f :: r, pre, acc, hf, hl, ha => by
  have ih := fun acc' ha' => ZgX b hb t ht hc s hs r (pre ++ [f]) acc' (fun g hg => hf g (List.mem_cons_of_mem _ hg)) (by simpa using hl) ha'
  simp only [← Z1] at ih
  have hal : acc.length + 1 ≤ 140737488355328 / 24 := by simp at hl; omega
  have h1 := ZiP b hb [f] (hf f (List.mem_cons_self ..)) (by simp) t ht hc s
  refine Ev.succ ?_
  simp only [Z1Y, Z8, Ze, decide_true, if_true, Int.toNat_natCast, Z3, List.length_singleton, hal]
  rw [Z7 pre f r (by omega)]
  refine Ev.bind h1 (Ev.ite (fun h => ?_) (fun h => ?_))
  ·have h : (fun f => decide (endsOf b [f] t = s)) f = true := h
   refine (ih (acc ++ [f]) (by simp; omega)).congr ?_
   simp only [List.filter_cons, h, if_true, List.append_assoc, List.singleton_append]
  ·have h : ¬ (fun f => decide (endsOf b [f] t = s)) f = true := h
   refine (ih acc (by simp; omega)).congr ?_
   exact congrArg (acc ++ ·) (List.filter_cons_of_neg (p := (fun f => decide (endsOf b [f] t = s))) h).symm
theorem ZvT (b : BoardD) (hb : boardOK b = true) (t : List Int) (ht : t.length ≤ 1000) (hc : colsOK b t) (s : List FallD) (hs : s.length = t.length) : Ev (fun k => Z9X k b t s) (singlesOf b t s) := by
 have hn := ZsD hb
 refine Ev.succ ?_
 simp only [Z9X]
 exact Ev.bind (ZqF b hb) (Ev.bind (ZgX b hb t ht hc s hs (possFrom b.2.1 0 b.2.2) [] [] (fun f hf => ZCg hb hf) (by simp; omega) (by simp)) (Ev.some _))
end
section
def Z3t (b : BoardD) (t : List Int) (s : List FallD) : List FaultD × Bool := if seenOK b t s then (singlesOf b t s, true) else ([], false)
theorem Zvi (b : BoardD) (t : List Int) (s : List FallD) (h0 : b.2.2.length ≤ 9223372036854775806) (h2 : t.length ≤ 9223372036854775806) (h3 : s.length ≤ 9223372036854775806) : Ev (fun k => Z9O k b t s) (Z3t b t s) := by
 refine Ev.succ ?_
 simp only [Z9O]
 unfold Z3t
 refine Ev.bind (a := seenOK b t s) (ZH9 b t s h0 h2 h3) ?_
 cases g0 : seenOK b t s with
 | false => simp only [Bool.not_false, if_true, Bool.false_eq_true, if_false, Bool.false_and, Bool.and_false]; exact Ev.some _
 | true =>
  simp only [Bool.not_true, Bool.false_eq_true, if_false, if_true, Bool.and_self]
  obtain ⟨hb, h24, ht, hc, hs⟩ := ZqI g0
  exact Ev.bind (ZDX b hb t (by omega) hc s hs) (Ev.some _)
theorem ZuM (b : BoardD) (t : List Int) (s : List FallD) (h0 : b.2.2.length ≤ 9223372036854775806) (h2 : t.length ≤ 9223372036854775806) (h3 : s.length ≤ 9223372036854775806) : Ev (fun k => Z9y k b t s) (Z3t b t s) := by
 refine Ev.succ ?_
 simp only [Z9y]
 unfold Z3t
 refine Ev.bind (a := seenOK b t s) (ZtW b t s h0 h2 h3) ?_
 cases g0 : seenOK b t s with
 | false => simp only [Bool.not_false, if_true, Bool.false_eq_true, if_false, Bool.false_and, Bool.and_false]; exact Ev.some _
 | true =>
  simp only [Bool.not_true, Bool.false_eq_true, if_false, if_true, Bool.and_self]
  obtain ⟨hb, h24, ht, hc, hs⟩ := ZqI g0
  exact Ev.bind (ZvT b hb t (by omega) hc s hs) (Ev.some _)
theorem ZJe {b : BoardD} (hb : boardOK b = true) (t : List Int) (s : List FallD) : (singlesOf b t s).length ≤ 270 :=
 Nat.le_trans (List.length_filter_le _ _) (ZsD hb)
theorem Zwc (b : BoardD) (t : List Int) (s : List FallD) : (Z3t b t s).1.length ≤ 270 := by
 unfold Z3t
 split
 ·rename_i h
  exact ZJe (ZqI h).1 _ _
 ·simp
end
section
def faultsB (b : BoardD) (l : List FaultD) : Bool := decide (l.length ≤ 4) && faultsOK b (-1) l
theorem ZDQ {b : BoardD} {l : List FaultD} (h : faultsB b l = true) : l.length ≤ 4 ∧ faultsOK b (-1) l = true := by
 unfold faultsB at h
 simp only [Bool.and_eq_true, decide_eq_true_eq] at h
 exact h
def Z8d (b : BoardD) (l : List FaultD) (t : List Int) : List FallD × BoardD × Bool := if entriesOK b t && faultsB b l then (endsOf b l t, (b.1, b.2.1, leftOf b l t), true) else ([], (0, 0, []), false)
theorem ZwC (b : BoardD) (l : List FaultD) (t : List Int) (h0 : b.2.2.length ≤ 9223372036854775806) (h1 : l.length ≤ 9223372036854775806) (h2 : t.length ≤ 9223372036854775806) : Ev (fun k => Zal k b l t) (Z8d b l t) := by
 refine Ev.succ ?_
 simp only [Zal]
 unfold Z8d
 refine Ev.bind (a := entriesOK b t) (Ziz b t h0 h2) ?_
 cases g0 : entriesOK b t with
 | false => simp only [Bool.not_false, if_true, Bool.false_eq_true, if_false, Bool.false_and, Bool.and_false]; exact Ev.some _
 | true =>
  simp only [Bool.not_true, Bool.false_eq_true, if_false, if_true, Bool.and_self]
  obtain ⟨hb, ht, hc⟩ := ZK7 g0
  refine Ev.bind (a := faultsB b l) (Zm0 b hb l h1) ?_
  cases g1 : faultsB b l with
  | false => simp only [Bool.not_false, if_true, Bool.false_eq_true, if_false, Bool.false_and, Bool.and_false]; exact Ev.some _
  | true =>
   simp only [Bool.not_true, Bool.false_eq_true, if_false, if_true, Bool.and_self]
   obtain ⟨hl4, hl⟩ := ZDQ g1
   exact Ev.bind (Zk4 b hb l hl h1 t (by omega) hc) (Ev.some _)
def ZbI (b : BoardD) (l : List FaultD) (t : List Int) (s : List FallD) : Bool × Bool := if seenOK b t s && faultsB b l then (decide (endsOf b l t = s), true) else (false, false)
theorem Zvn (b : BoardD) (l : List FaultD) (t : List Int) (s : List FallD) (h0 : b.2.2.length ≤ 9223372036854775806) (h1 : l.length ≤ 9223372036854775806) (h2 : t.length ≤ 9223372036854775806) (h3 : s.length ≤ 9223372036854775806) : Ev (fun k => Z9B k b l t s) (ZbI b l t s) := by
 refine Ev.succ ?_
 simp only [Z9B]
 unfold ZbI
 refine Ev.bind (a := seenOK b t s) (ZtW b t s h0 h2 h3) ?_
 cases g0 : seenOK b t s with
 | false => simp only [Bool.not_false, if_true, Bool.false_eq_true, if_false, Bool.false_and, Bool.and_false]; exact Ev.some _
 | true =>
  simp only [Bool.not_true, Bool.false_eq_true, if_false, if_true, Bool.and_self]
  obtain ⟨hb, h24, ht, hc, hs⟩ := ZqI g0
  refine Ev.bind (a := faultsB b l) (Zm0 b hb l h1) ?_
  cases g1 : faultsB b l with
  | false => simp only [Bool.not_false, if_true, Bool.false_eq_true, if_false, Bool.false_and, Bool.and_false]; exact Ev.some _
  | true =>
   simp only [Bool.not_true, Bool.false_eq_true, if_false, if_true, Bool.and_self]
   obtain ⟨hl4, hl⟩ := ZDQ g1
   exact Ev.bind (ZiP b hb l hl h1 t (by omega) hc s) (Ev.some _)
end
section
theorem Zq2 : ∀ (r s pre q : List Int), r.length = s.length → pre.length = q.length → (pre ++ r).length ≤ 1000000 → Ev (fun k => Z94 k (pre ++ r) (q ++ s) ((pre ++ r).length : Int) (pre.length : Int)) (if r = s then LR.go () else LR.ret false)
 | [], s, pre, q, h, hq, hl => by
  obtain rfl : s = [] := List.eq_nil_of_length_eq_zero h.symm
  refine Ev.succ ?_
  simp only [Z94, Za, decide_false, Bool.false_eq_true, if_false, if_true]
  exact Ev.some _
 | x :: r, [], pre, q, h, hq, hl => by simp at h
 | x :: r, y :: s, pre, q, h, hq, hl => by
  have ih := Zq2 r s (pre ++ [x]) (q ++ [y]) (by simpa using h) (by simpa using hq) (by simpa using hl)
  have l2 : (pre.length : Int) < ((q ++ y :: s).length : Int) := by rw [hq]; exact Z8 _ _ _
  have g2 : List.getD (q ++ y :: s) pre.length 0 = y := by rw [hq]; exact Z3 _ _ _ _
  refine Ev.succ ?_
  simp only [Z94, Z8, Ze, l2, decide_true, if_true, Int.toNat_natCast, Z3, g2]
  rw [Z7 pre x r (by omega)]
  rw [← Z1, ← Z1] at ih
  refine Ev.ite (fun hh => ?_) (fun hh => ?_)
  ·simp only [decide_eq_true_eq] at hh
   rw [if_neg (fun he => hh (List.cons.inj he).1)]
   exact Ev.some _
  ·simp only [decide_eq_true_eq, Decidable.not_not] at hh
   refine ih.congr ?_
   simp [hh]
theorem Zxk (a c : List Int) (ha : a.length ≤ 1000000) : Ev (fun k => Zeb k a c) (decide (a = c)) := by
 refine Ev.succ ?_
 simp only [Zeb]
 refine Ev.ite (fun h => ?_) (fun h => ?_)
 ·simp only [decide_eq_true_eq] at h
  rw [decide_eq_false (fun he => h (by rw [he]))]
  exact Ev.some _
 ·simp only [decide_eq_true_eq, Decidable.not_not] at h
  refine Ev.bind (Zq2 a c [] [] (by omega) rfl (by simpa using ha)) ?_
  by_cases he : a = c
  ·rw [if_pos he, decide_eq_true he]; exact Ev.go (Ev.some _)
  ·rw [if_neg he, decide_eq_false he]; exact Ev.ret (Ev.some _)
theorem Znx : ∀ (r s pre q : List FallD), r.length = s.length → pre.length = q.length → (pre ++ r).length ≤ 1000000 → Ev (fun k => Z7M k (pre ++ r) (q ++ s) ((pre ++ r).length : Int) (pre.length : Int)) (if r = s then LR.go () else LR.ret false)
 | [], s, pre, q, h, hq, hl => by
  obtain rfl : s = [] := List.eq_nil_of_length_eq_zero h.symm
  refine Ev.succ ?_
  simp only [Z7M, Za, decide_false, Bool.false_eq_true, if_false, if_true]
  exact Ev.some _
 | x :: r, [], pre, q, h, hq, hl => by simp at h
 | x :: r, y :: s, pre, q, h, hq, hl => by
  have ih := Znx r s (pre ++ [x]) (q ++ [y]) (by simpa using h) (by simpa using hq) (by simpa using hl)
  have l2 : (pre.length : Int) < ((q ++ y :: s).length : Int) := by rw [hq]; exact Z8 _ _ _
  have g2 : List.getD (q ++ y :: s) pre.length (0, 0, 0) = y := by rw [hq]; exact Z3 _ _ _ _
  refine Ev.succ ?_
  simp only [Z7M, Z8, Ze, l2, decide_true, if_true, Int.toNat_natCast, Z3, g2]
  rw [Z7 pre x r (by omega)]
  rw [← Z1, ← Z1] at ih
  have e : (decide (x.1 = y.1) && (decide (x.2.1 = y.2.1) && (decide (x.2.2 = y.2.2) && true))) = decide (x = y) := by
   rw [Bool.eq_iff_iff]
   simp [Prod.ext_iff]
  rw [e]
  by_cases hh : x = y
  ·simp only [hh, decide_true, Bool.not_true, Bool.false_eq_true, if_false]
   rw [hh] at ih
   refine ih.congr ?_
   simp
  ·simp only [hh, decide_false, Bool.not_false, if_true]
   rw [if_neg (fun he => hh (List.cons.inj he).1)]
   exact Ev.some _
theorem ZGm (a c : List FallD) (ha : a.length ≤ 1000000) : Ev (fun k => ZfQ k a c) (decide (a = c)) := by
 refine Ev.succ ?_
 simp only [ZfQ]
 refine Ev.ite (fun h => ?_) (fun h => ?_)
 ·simp only [decide_eq_true_eq] at h
  rw [decide_eq_false (fun he => h (by rw [he]))]
  exact Ev.some _
 ·simp only [decide_eq_true_eq, Decidable.not_not] at h
  refine Ev.bind (Znx a c [] [] (by omega) rfl (by simpa using ha)) ?_
  by_cases he : a = c
  ·rw [if_pos he, decide_eq_true he]; exact Ev.go (Ev.some _)
  ·rw [if_neg he, decide_eq_false he]; exact Ev.ret (Ev.some _)
end
section
theorem ZmC : ∀ (r s pre q : List FaultD), r.length = s.length → pre.length = q.length → (pre ++ r).length ≤ 1000000 → Ev (fun k => Z6M k (pre ++ r) (q ++ s) ((pre ++ r).length : Int) (pre.length : Int)) (if r = s then LR.go () else LR.ret false)
 | [], s, pre, q, h, hq, hl => by
  obtain rfl : s = [] := List.eq_nil_of_length_eq_zero h.symm
  refine Ev.succ ?_
  simp only [Z6M, Za, decide_false, Bool.false_eq_true, if_false, if_true]
  exact Ev.some _
 | x :: r, [], pre, q, h, hq, hl => by simp at h
 | x :: r, y :: s, pre, q, h, hq, hl => by
  have ih := ZmC r s (pre ++ [x]) (q ++ [y]) (by simpa using h) (by simpa using hq) (by simpa using hl)
  have l2 : (pre.length : Int) < ((q ++ y :: s).length : Int) := by rw [hq]; exact Z8 _ _ _
  have g2 : List.getD (q ++ y :: s) pre.length (0, 0, 0) = y := by rw [hq]; exact Z3 _ _ _ _
  refine Ev.succ ?_
  simp only [Z6M, Z8, Ze, l2, decide_true, if_true, Int.toNat_natCast, Z3, g2]
  rw [Z7 pre x r (by omega)]
  rw [← Z1, ← Z1] at ih
  have e : (decide (x.1 = y.1) && (decide (x.2.1 = y.2.1) && (decide (x.2.2 = y.2.2) && true))) = decide (x = y) := by
   rw [Bool.eq_iff_iff]
   simp [Prod.ext_iff]
  rw [e]
  by_cases hh : x = y
  ·simp only [hh, decide_true, Bool.not_true, Bool.false_eq_true, if_false]
   rw [hh] at ih
   refine ih.congr ?_
   simp
  ·simp only [hh, decide_false, Bool.not_false, if_true]
   rw [if_neg (fun he => hh (List.cons.inj he).1)]
   exact Ev.some _
theorem ZFA (a c : List FaultD) (ha : a.length ≤ 1000000) : Ev (fun k => ZeQ k a c) (decide (a = c)) := by
 refine Ev.succ ?_
 simp only [ZeQ]
 refine Ev.ite (fun h => ?_) (fun h => ?_)
 ·simp only [decide_eq_true_eq] at h
  rw [decide_eq_false (fun he => h (by rw [he]))]
  exact Ev.some _
 ·simp only [decide_eq_true_eq, Decidable.not_not] at h
  refine Ev.bind (ZmC a c [] [] (by omega) rfl (by simpa using ha)) ?_
  by_cases he : a = c
  ·rw [if_pos he, decide_eq_true he]; exact Ev.go (Ev.some _)
  ·rw [if_neg he, decide_eq_false he]; exact Ev.ret (Ev.some _)
theorem ZKa {b : BoardD} {t : List Int} {s : List FallD} {f : FaultD} (hf : f ∈ (Z3t b t s).1) : ZbI b [f] t s = (true, true) ∧ (Z8d b [f] t).1 = s ∧ (Z8d b [f] t).2.2 = true := by
 unfold Z3t at hf
 split at hf
 ·rename_i hok
  obtain ⟨hb, h24, h20, hc, _⟩ := ZqI hok
  unfold singlesOf at hf
  obtain ⟨h1, h2⟩ := List.mem_filter.1 hf
  have h2 := of_decide_eq_true h2
  have h3 : faultsB b [f] = true := by
   unfold faultsB
   rw [ZCg hb h1]
   simp
  have h4 : entriesOK b t = true := by
   unfold entriesOK
   rw [hb, decide_eq_true (show t.length ≤ 60 by omega)]
   simp only [Bool.and_self, Bool.true_and, List.all_eq_true, decide_eq_true_eq]
   exact hc
  unfold ZbI Z8d
  rw [hok, h3, h4, h2]
  simp
 ·simp at hf
theorem Zr3 (b : BoardD) (hb : b.2.2.length ≤ 1000000) (t : List Int) (ht : t.length ≤ 1000000) (s : List FallD) (hs : s.length ≤ 1000000) : ∀ (r pre : List FaultD), (∀ f ∈ r, ZbI b [f] t s = (true, true) ∧ (Z8d b [f] t).1 = s ∧ (Z8d b [f] t).2.2 = true) → (pre ++ r).length ≤ 1000000 →
  Ev (fun k => Z44 k b.1 b.2.1 b.2.2 (pre ++ r) t s ((pre ++ r).length : Int) (pre.length : Int)) (LR.go ())
 | [], pre, hr, hn => by
  refine Ev.succ ?_
  simp only [Z44, Za, decide_false, Bool.false_eq_true, if_false]
  exact Ev.some _
 | f :: r, pre, hr, hn => by
  have ih := Zr3 b hb t ht s hs r (pre ++ [f]) (fun g hg => hr g (List.mem_cons_of_mem _ hg)) (by simpa using hn)
  have e := Zvn b [f] t s (by omega) (by simp) (by omega) (by omega)
  have e2 := ZwC b [f] t (by omega) (by simp) (by omega)
  obtain ⟨h1, h2, h3⟩ := hr f (List.mem_cons_self ..)
  rw [h1] at e
  refine Ev.succ ?_
  simp only [Z44, Z8, Ze, decide_true, if_true, Int.toNat_natCast, Z3]
  rw [Z7 pre f r (by omega)]
  rw [← Z1] at ih
  refine Ev.bind e (Ev.bind e2 ?_)
  simp only [h2, h3, Bool.not_true, Bool.false_eq_true, if_false]
  refine Ev.bind (ZGm s s hs) ?_
  simp only [decide_true, Bool.not_true, Bool.false_eq_true, if_false]
  exact ih
theorem ZC6 (b : BoardD) (hb : b.2.2.length ≤ 1000000) (t : List Int) (ht : t.length ≤ 1000000) (s : List FallD) (hs : s.length ≤ 1000000) : Ev (fun k => Z4R k b.1 b.2.1 b.2.2 t s) true := by
 have es := Zvi b t s (by omega) (by omega) (by omega)
 have ei := ZuM b t s (by omega) (by omega) (by omega)
 have hr := Zwc b t s
 have e2 := Zr3 b hb t ht s hs (Z3t b t s).1 [] (fun f hf => ZKa hf) (by simp; omega)
 simp only [List.nil_append, List.length_nil, Int.natCast_zero] at e2
 simp only [Z4R]
 refine Ev.bind ei (Ev.bind es ?_)
 simp only [beq_self_eq_true, Bool.not_true, Bool.false_eq_true, if_false]
 refine Ev.bind (ZFA _ _ (by omega)) ?_
 simp only [decide_true, Bool.not_true, Bool.false_eq_true, if_false]
 refine Ev.bind e2 (Ev.go ?_)
 simp only [Zbp]
 exact Ev.some _
end
end Go.Proofs.YtmhfhiofcoggbaaGreat.Vs
