/- A number put into an increasing row. -/
import Derived.Test.YtgpmbmnfcbippaaqsuaVsEv
set_option linter.unusedVariables false
set_option linter.unusedSimpArgs false
namespace Go.Proofs.Ytgpmbmnfcbippaa.Vs
open Go.RowKit
/-- A number put into a row at its place; a row that holds it stays. -/
def putL : List Int → Int → List Int
  | [], n => [n]
  | x :: r, n => if x < n then x :: putL r n else if x = n then x :: r else n :: x :: r
/-- The numbers of a stretch that have a property. -/
def idxFrom (p : Nat → Bool) : Nat → Nat → List Int
  | _, 0 => []
  | k, n + 1 => if p k then (k : Int) :: idxFrom p (k + 1) n else idxFrom p (k + 1) n
theorem idxFrom_len (p : Nat → Bool) : ∀ (n k : Nat), (idxFrom p k n).length ≤ n
  | 0, k => by simp [idxFrom]
  | n + 1, k => by
    have := idxFrom_len p n (k + 1)
    simp only [idxFrom]
    split <;> simp <;> omega
theorem idxFrom_congr {p q : Nat → Bool} : ∀ (n k : Nat), (∀ i, k ≤ i → i < k + n → p i = q i) → idxFrom p k n = idxFrom q k n
  | 0, k, h => rfl
  | n + 1, k, h => by
    simp only [idxFrom, h k (Nat.le_refl _) (by omega), idxFrom_congr n (k + 1) (fun i h1 h2 => h i (by omega) (by omega))]
theorem idxFrom_none : ∀ (n k : Nat), idxFrom (fun _ => false) k n = []
  | 0, k => rfl
  | n + 1, k => by simp only [idxFrom, Bool.false_eq_true, if_false, idxFrom_none n (k + 1)]
theorem idxFrom_ge (p : Nat → Bool) : ∀ (n k : Nat) (x : Int), x ∈ idxFrom p k n → (k : Int) ≤ x ∧ x < (k + n : Nat)
  | 0, k, x, h => by simp [idxFrom] at h
  | n + 1, k, x, h => by
    simp only [idxFrom] at h
    split at h
    · rcases List.mem_cons.1 h with rfl | h
      · omega
      · have := idxFrom_ge p n (k + 1) x h; omega
    · have := idxFrom_ge p n (k + 1) x h; omega
theorem putL_first : ∀ (l : List Int) (n : Int), (∀ x ∈ l, n < x) → putL l n = n :: l
  | [], n, h => rfl
  | x :: r, n, h => by
    have := h x (List.mem_cons_self ..)
    simp only [putL]
    rw [if_neg (by omega), if_neg (by omega)]
theorem putL_idx (p : Nat → Bool) (i : Nat) : ∀ (n k : Nat), k ≤ i → i < k + n → putL (idxFrom p k n) (i : Int) = idxFrom (fun j => p j || j == i) k n
  | 0, k, h1, h2 => by omega
  | n + 1, k, h1, h2 => by
    rcases Nat.lt_or_eq_of_le h1 with h | h
    · have ih := putL_idx p i n (k + 1) (by omega) (by omega)
      have hk : (k == i) = false := by simp; omega
      simp only [idxFrom, hk, Bool.or_false]
      split
      · simp only [putL]
        rw [if_pos (by omega), ih]
      · exact ih
    · subst h
      have hc : idxFrom (fun j => p j || j == k) (k + 1) n = idxFrom p (k + 1) n := idxFrom_congr n (k + 1) (fun i h1 h2 => by
        have : (i == k) = false := by simp; omega
        rw [this, Bool.or_false])
      simp only [idxFrom, beq_self_eq_true, Bool.or_true, if_true, hc]
      split
      · simp [putL]
      · exact putL_first _ _ (fun x hx => by have := idxFrom_ge p n (k + 1) x hx; omega)
end Go.Proofs.Ytgpmbmnfcbippaa.Vs
