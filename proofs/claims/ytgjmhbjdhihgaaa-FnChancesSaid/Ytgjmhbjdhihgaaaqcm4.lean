/- The proof, part 5. -/
import Derived.Test.Ytgjmhbjdhihgaaaqcm3
set_option linter.unusedVariables false
set_option linter.unusedSimpArgs false
namespace Go.Proofs.Ytgjmhbjdhihgaaa.Vs
open Go.RowKit
/-! ### More fuel yields the same -/
def Le {α : Type} (x y : Option α) : Prop := ∀ v, x = some v → y = some v
section
variable {α β : Type}
theorem Le.refl (x : Option α) : Le x x := fun _ h => h
theorem Le.none (y : Option α) : Le Option.none y := fun _ h => nomatch h
theorem Le.bind {x y : Option β} {f g : β → Option α} (h : Le x y) (h2 : ∀ a, Le (f a) (g a)) : Le (Option.bind x f) (Option.bind y g) := by
  intro v hv
  cases hx : x with
  | none => rw [hx] at hv; cases hv
  | some a =>
    rw [hx] at hv
    rw [h a hx]
    exact h2 a v hv
theorem Le.ite {c : Prop} [Decidable c] {a b a' b' : Option α} (h : Le a b) (h2 : Le a' b') : Le (if c then a else a') (if c then b else b') := by
  split
  · exact h
  · exact h2
theorem Ev.mono {f : Nat → Option α} (h : ∀ k, Le (f k) (f (k + 1))) {n : Nat} {v : α} (hv : f n = Option.some v) : Ev f v := by
  refine ⟨n, fun k hk => ?_⟩
  induction hk with
  | refl => exact hv
  | step _ ih => exact h _ v ih
end
theorem m_impl_chanceRight_0 : ∀ (k : Nat) (a0 : Int) (a1 : Int) (a2 : Int) (a3 : Int) (a4 : Int) (a5 : Int), Le (f_impl_chanceRight_0 k a0 a1 a2 a3 a4 a5) (f_impl_chanceRight_0 (k + 1) a0 a1 a2 a3 a4 a5)
  | 0, a0, a1, a2, a3, a4, a5 => fun _ h => nomatch h
  | k + 1, a0, a1, a2, a3, a4, a5 => by
    rw [f_impl_chanceRight_0.eq_2, f_impl_chanceRight_0.eq_2]
    repeat' first | apply m_impl_chanceRight_0 k | refine Le.bind ?_ (fun _ => ?_) | refine Le.ite ?_ ?_ | exact Le.none _ | exact Le.refl _
theorem m_impl_chanceRight_4 : ∀ (k : Nat) (a0 : Int) (a1 : Int) (a2 : Int) (a3 : Int) (a4 : Int) (a5 : Int) (a6 : Int) (a7 : Int), Le (f_impl_chanceRight_4 k a0 a1 a2 a3 a4 a5 a6 a7) (f_impl_chanceRight_4 (k + 1) a0 a1 a2 a3 a4 a5 a6 a7)
  | 0, a0, a1, a2, a3, a4, a5, a6, a7 => fun _ h => nomatch h
  | k + 1, a0, a1, a2, a3, a4, a5, a6, a7 => by
    rw [f_impl_chanceRight_4.eq_2, f_impl_chanceRight_4.eq_2]
    repeat' first | apply m_impl_chanceRight_4 k | refine Le.bind ?_ (fun _ => ?_) | refine Le.ite ?_ ?_ | exact Le.none _ | exact Le.refl _
theorem m_impl_chanceRight_6 : ∀ (k : Nat) (a0 : Int) (a1 : Int) (a2 : Int) (a3 : Int) (a4 : Int) (a5 : Int) (a6 : Int) (a7 : Int), Le (f_impl_chanceRight_6 k a0 a1 a2 a3 a4 a5 a6 a7) (f_impl_chanceRight_6 (k + 1) a0 a1 a2 a3 a4 a5 a6 a7)
  | 0, a0, a1, a2, a3, a4, a5, a6, a7 => fun _ h => nomatch h
  | k + 1, a0, a1, a2, a3, a4, a5, a6, a7 => by
    rw [f_impl_chanceRight_6.eq_2, f_impl_chanceRight_6.eq_2]
    repeat' first | apply m_impl_chanceRight_6 k | refine Le.bind ?_ (fun _ => ?_) | refine Le.ite ?_ ?_ | exact Le.none _ | exact Le.refl _
theorem m_impl_chanceRight_2 : ∀ (k : Nat) (a0 : Int) (a1 : Int) (a2 : Int) (a3 : Int) (a4 : Int) (a5 : Int), Le (f_impl_chanceRight_2 k a0 a1 a2 a3 a4 a5) (f_impl_chanceRight_2 (k + 1) a0 a1 a2 a3 a4 a5)
  | 0, a0, a1, a2, a3, a4, a5 => fun _ h => nomatch h
  | k + 1, a0, a1, a2, a3, a4, a5 => by
    rw [f_impl_chanceRight_2.eq_2, f_impl_chanceRight_2.eq_2]
    repeat' first | apply m_impl_chanceRight_2 k | apply m_impl_chanceRight_4 k | apply m_impl_chanceRight_6 k | refine Le.bind ?_ (fun _ => ?_) | refine Le.ite ?_ ?_ | exact Le.none _ | exact Le.refl _
theorem m_impl_chanceRight_8 : ∀ (k : Nat) (a0 : Int) (a1 : Int) (a2 : Int) (a3 : Int), Le (f_impl_chanceRight_8 k a0 a1 a2 a3) (f_impl_chanceRight_8 (k + 1) a0 a1 a2 a3)
  | 0, a0, a1, a2, a3 => fun _ h => nomatch h
  | k + 1, a0, a1, a2, a3 => by
    rw [f_impl_chanceRight_8.eq_2, f_impl_chanceRight_8.eq_2]
    repeat' first | apply m_impl_chanceRight_8 k | refine Le.bind ?_ (fun _ => ?_) | refine Le.ite ?_ ?_ | exact Le.none _ | exact Le.refl _
theorem m_impl_chanceRight : ∀ (k : Nat) (a0 : Int) (a1 : Int) (a2 : Int), Le (f_impl_chanceRight k a0 a1 a2) (f_impl_chanceRight (k + 1) a0 a1 a2)
  | 0, a0, a1, a2 => fun _ h => nomatch h
  | k + 1, a0, a1, a2 => by
    rw [f_impl_chanceRight.eq_2, f_impl_chanceRight.eq_2]
    repeat' first | apply m_impl_chanceRight_0 k | apply m_impl_chanceRight_2 k | apply m_impl_chanceRight_8 k | refine Le.bind ?_ (fun _ => ?_) | refine Le.ite ?_ ?_ | exact Le.none _ | exact Le.refl _
theorem m_spec_voPower_0 : ∀ (k : Nat) (a0 : Int) (a1 : Int) (a2 : Int), Le (f_spec_voPower_0 k a0 a1 a2) (f_spec_voPower_0 (k + 1) a0 a1 a2)
  | 0, a0, a1, a2 => fun _ h => nomatch h
  | k + 1, a0, a1, a2 => by
    rw [f_spec_voPower_0.eq_2, f_spec_voPower_0.eq_2]
    repeat' first | apply m_spec_voPower_0 k | refine Le.bind ?_ (fun _ => ?_) | refine Le.ite ?_ ?_ | exact Le.none _ | exact Le.refl _
theorem m_spec_voPower : ∀ (k : Nat) (a0 : Int) (a1 : Int), Le (f_spec_voPower k a0 a1) (f_spec_voPower (k + 1) a0 a1)
  | 0, a0, a1 => fun _ h => nomatch h
  | k + 1, a0, a1 => by
    rw [f_spec_voPower.eq_2, f_spec_voPower.eq_2]
    repeat' first | apply m_spec_voPower_0 k | refine Le.bind ?_ (fun _ => ?_) | refine Le.ite ?_ ?_ | exact Le.none _ | exact Le.refl _
theorem m_spec_l1Most : ∀ (k : Nat) (a0 : Int) (a1 : Int), Le (f_spec_l1Most k a0 a1) (f_spec_l1Most (k + 1) a0 a1)
  | 0, a0, a1 => fun _ h => nomatch h
  | k + 1, a0, a1 => by
    rw [f_spec_l1Most.eq_2, f_spec_l1Most.eq_2]
    repeat' first | refine Le.bind ?_ (fun _ => ?_) | refine Le.ite ?_ ?_ | exact Le.none _ | exact Le.refl _
theorem m_spec_l1Abs : ∀ (k : Nat) (a0 : Int), Le (f_spec_l1Abs k a0) (f_spec_l1Abs (k + 1) a0)
  | 0, a0 => fun _ h => nomatch h
  | k + 1, a0 => by
    rw [f_spec_l1Abs.eq_2, f_spec_l1Abs.eq_2]
    repeat' first | apply m_spec_l1Most k | refine Le.bind ?_ (fun _ => ?_) | refine Le.ite ?_ ?_ | exact Le.none _ | exact Le.refl _
theorem m_spec_voPart_0 : ∀ (k : Nat) (a0 : Int) (a1 : Int) (a2 : Int) (a3 : Int), Le (f_spec_voPart_0 k a0 a1 a2 a3) (f_spec_voPart_0 (k + 1) a0 a1 a2 a3)
  | 0, a0, a1, a2, a3 => fun _ h => nomatch h
  | k + 1, a0, a1, a2, a3 => by
    rw [f_spec_voPart_0.eq_2, f_spec_voPart_0.eq_2]
    repeat' first | apply m_spec_voPart_0 k | refine Le.bind ?_ (fun _ => ?_) | refine Le.ite ?_ ?_ | exact Le.none _ | exact Le.refl _
theorem m_spec_voPart : ∀ (k : Nat) (a0 : Int) (a1 : Int), Le (f_spec_voPart k a0 a1) (f_spec_voPart (k + 1) a0 a1)
  | 0, a0, a1 => fun _ h => nomatch h
  | k + 1, a0, a1 => by
    rw [f_spec_voPart.eq_2, f_spec_voPart.eq_2]
    repeat' first | apply m_spec_l1Abs k | apply m_spec_voPart_0 k | refine Le.bind ?_ (fun _ => ?_) | refine Le.ite ?_ ?_ | exact Le.none _ | exact Le.refl _
theorem m_spec_voChance_0 : ∀ (k : Nat) (a0 : Int) (a1 : Int) (a2 : Int) (a3 : Int) (a4 : Int) (a5 : Int), Le (f_spec_voChance_0 k a0 a1 a2 a3 a4 a5) (f_spec_voChance_0 (k + 1) a0 a1 a2 a3 a4 a5)
  | 0, a0, a1, a2, a3, a4, a5 => fun _ h => nomatch h
  | k + 1, a0, a1, a2, a3, a4, a5 => by
    rw [f_spec_voChance_0.eq_2, f_spec_voChance_0.eq_2]
    repeat' first | apply m_spec_voChance_0 k | apply m_spec_voPower k | refine Le.bind ?_ (fun _ => ?_) | refine Le.ite ?_ ?_ | exact Le.none _ | exact Le.refl _
theorem m_spec_voChance : ∀ (k : Nat) (a0 : Int) (a1 : Int) (a2 : Int), Le (f_spec_voChance k a0 a1 a2) (f_spec_voChance (k + 1) a0 a1 a2)
  | 0, a0, a1, a2 => fun _ h => nomatch h
  | k + 1, a0, a1, a2 => by
    rw [f_spec_voChance.eq_2, f_spec_voChance.eq_2]
    repeat' first | apply m_spec_voChance_0 k | apply m_spec_voPower k | apply m_spec_voPart k | refine Le.bind ?_ (fun _ => ?_) | refine Le.ite ?_ ?_ | exact Le.none _ | exact Le.refl _
/-! ### All chances, one by one -/
noncomputable def chk (n w o : Int) : Bool := match f_impl_chanceRight 64 n w o, f_spec_voChance 64 n w o, f_impl_chanceRight 64 n (wrap64 (o - w)) o with
  | some x, some y, some z => decide (x.1 = y.1) && (decide (x.2 = y.2) && (decide (z.1 = wrap64 (x.2 - x.1)) && (decide (z.2 = x.2) && (decide (1 ≤ x.2) && (decide (x.2 ≤ 1000000000) && (decide (0 ≤ x.1) && decide (x.1 ≤ x.2)))))))
  | _, _, _ => false
def chDom : List (Int × Int × Int) := [1, 3, 5, 7, 9].flatMap fun n => [1, 2, 3, 4, 5, 6, 7, 8, 9, 10].flatMap fun o => ([0, 1, 2, 3, 4, 5, 6, 7, 8, 9, 10].filter fun w => decide (w ≤ o)).map fun w => (n, w, o)
set_option maxRecDepth 100000 in
theorem ch_all : chDom.all (fun p => chk p.1 p.2.1 p.2.2) = true := by kernel_rfl
theorem ch_in {n w o : Int} (h1 : 1 ≤ n) (h2 : n ≤ 9) (h3 : ¬ Int.tmod n 2 = 0) (h4 : 1 ≤ o) (h5 : o ≤ 10) (h6 : 0 ≤ w) (h7 : w ≤ o) : (n, w, o) ∈ chDom := by
  have hn : n ∈ ([1, 3, 5, 7, 9] : List Int) := by
    have : n = 1 ∨ n = 2 ∨ n = 3 ∨ n = 4 ∨ n = 5 ∨ n = 6 ∨ n = 7 ∨ n = 8 ∨ n = 9 := by omega
    rcases this with rfl | rfl | rfl | rfl | rfl | rfl | rfl | rfl | rfl <;> first | (simp; done) | exact absurd (by decide) h3
  have ho : o ∈ ([1, 2, 3, 4, 5, 6, 7, 8, 9, 10] : List Int) := by simp; omega
  have hw : w ∈ ([0, 1, 2, 3, 4, 5, 6, 7, 8, 9, 10] : List Int) := by simp; omega
  exact List.mem_flatMap.2 ⟨n, hn, List.mem_flatMap.2 ⟨o, ho, List.mem_map.2 ⟨w, List.mem_filter.2 ⟨hw, by simpa using h7⟩, rfl⟩⟩⟩
theorem chance {n w o : Int} (h1 : 1 ≤ n) (h2 : n ≤ 9) (h3 : ¬ Int.tmod n 2 = 0) (h4 : 1 ≤ o) (h5 : o ≤ 10) (h6 : 0 ≤ w) (h7 : w ≤ o) : ∃ A B, Ev (fun k => f_impl_chanceRight k n w o) (A, B) ∧ Ev (fun k => f_spec_voChance k n w o) (A, B) ∧
    Ev (fun k => f_impl_chanceRight k n (wrap64 (o - w)) o) (wrap64 (B - A), B) ∧ 1 ≤ B ∧ B ≤ 1000000000 ∧ 0 ≤ A ∧ A ≤ B := by
  have h := List.all_eq_true.1 ch_all _ (ch_in h1 h2 h3 h4 h5 h6 h7)
  simp only [chk] at h
  split at h
  · rename_i x y z hx hy hz
    simp only [Bool.and_eq_true, decide_eq_true_eq] at h
    obtain ⟨e1, e2, e3, e4, e5, e6, e7, e8⟩ := h
    have hxy : y = x := Prod.ext e1.symm e2.symm
    have hz' : z = (wrap64 (x.2 - x.1), x.2) := Prod.ext e3 e4
    refine ⟨x.1, x.2, Ev.mono (fun k => m_impl_chanceRight k n w o) hx, ?_, ?_, e5, e6, e7, e8⟩
    · rw [hxy] at hy
      exact Ev.mono (fun k => m_spec_voChance k n w o) hy
    · rw [hz'] at hz
      exact Ev.mono (fun k => m_impl_chanceRight k n (wrap64 (o - w)) o) hz
  · cases h
/-! ### ChanceRight and LeastCopies -/
def chOK (n w o : Int) : Bool := decide ((1 ≤ n ∧ n ≤ 9) ∧ ¬ Int.tmod n 2 = 0 ∧ (1 ≤ o ∧ o ≤ 10) ∧ 0 ≤ w ∧ w ≤ o)
theorem e_impl_ChanceRight_no {n w o : Int} (h : chOK n w o = false) : Ev (fun k => f_impl_ChanceRight k n w o) (0, 0, false) := by
  simp only [chOK, decide_eq_false_iff_not] at h
  refine Ev.succ ?_
  simp only [f_impl_ChanceRight]
  refine Ev.ite (fun _ => Ev.some _) (fun h1 => Ev.ite (fun _ => Ev.some _) (fun h2 => Ev.ite (fun _ => Ev.some _) (fun h3 => Ev.ite (fun _ => Ev.some _) (fun h4 => Ev.ite (fun _ => Ev.some _) (fun h5 => Ev.ite (fun _ => Ev.some _) (fun h6 => Ev.ite (fun _ => Ev.some _) (fun h7 => ?_)))))))
  simp only [decide_eq_true_eq] at h1 h2 h3 h4 h5 h6 h7
  exact absurd ⟨⟨by omega, by omega⟩, h3, ⟨by omega, by omega⟩, by omega, by omega⟩ h
theorem e_spec_l1In_c (a b c : Int) : Ev (fun k => f_spec_l1In k a b c) (decide (b ≤ a ∧ a ≤ c)) := by
  refine Ev.succ ?_
  simp only [f_spec_l1In]
  refine Ev.of ?_
  by_cases h1 : b ≤ a <;> by_cases h2 : a ≤ c <;> simp [h1, h2]
theorem e_spec_voCopies (n : Int) : Ev (fun k => f_spec_voCopies k n) (decide (1 ≤ n ∧ n ≤ 9)) := by
  refine Ev.succ ?_
  simp only [f_spec_voCopies]
  exact Ev.bind (e_spec_l1In_c n 1 9) (Ev.some _)
theorem e_spec_voWrong (w o : Int) : Ev (fun k => f_spec_voWrong k w o) (decide ((1 ≤ o ∧ o ≤ 10) ∧ 0 ≤ w ∧ w ≤ o)) := by
  refine Ev.succ ?_
  simp only [f_spec_voWrong]
  refine Ev.bind (e_spec_l1In_c o 1 10) ?_
  by_cases h : 1 ≤ o ∧ o ≤ 10
  · simp only [h, and_self, decide_true, if_true, true_and]
    exact Ev.bind (e_spec_l1In_c w 0 o) (Ev.some _)
  · simp only [h, decide_false, Bool.false_eq_true, if_false, false_and]; exact Ev.some _
theorem e_spec_ChanceRight_no {n w o : Int} (h : chOK n w o = false) : Ev (fun k => f_spec_ChanceRight k n w o) (0, 0, false) := by
  simp only [chOK, decide_eq_false_iff_not] at h
  refine Ev.succ ?_
  simp only [f_spec_ChanceRight]
  refine Ev.bind (e_spec_voCopies n) ?_
  refine Ev.ite (fun _ => Ev.some _) (fun h1 => Ev.ite (fun _ => Ev.some _) (fun h2 => Ev.bind (e_spec_voWrong w o) (Ev.ite (fun _ => Ev.some _) (fun h3 => ?_))))
  simp only [Bool.not_eq_true', decide_eq_false_iff_not, decide_eq_true_eq, Decidable.not_not] at h1 h2 h3
  exact absurd ⟨h1, h2, h3⟩ h
theorem e_ChanceRight_yes {n w o : Int} (h : chOK n w o = true) : ∃ A B, Ev (fun k => f_impl_ChanceRight k n w o) (A, B, true) ∧ Ev (fun k => f_spec_ChanceRight k n w o) (A, B, true) ∧ Ev (fun k => f_impl_ChanceRight k n (wrap64 (o - w)) o) (wrap64 (B - A), B, true) ∧
    Ev (fun k => f_impl_chanceRight k n w o) (A, B) ∧ Ev (fun k => f_spec_voChance k n w o) (A, B) ∧ 1 ≤ B ∧ B ≤ 1000000000 ∧ 0 ≤ A ∧ A ≤ B := by
  simp only [chOK, decide_eq_true_eq] at h
  obtain ⟨⟨h1, h2⟩, h3, ⟨h4, h5⟩, h6, h7⟩ := h
  obtain ⟨A, B, e1, e2, e3, e4, e5, e6, e7⟩ := chance h1 h2 h3 h4 h5 h6 h7
  have go : ∀ (x : Int) (r : Int × Int), 0 ≤ x → x ≤ o → Ev (fun k => f_impl_chanceRight k n x o) r → Ev (fun k => f_impl_ChanceRight k n x o) (r.1, r.2, true) := fun x r q1 q2 e => by
    refine Ev.succ ?_
    have c1 : ¬ n < 1 := by omega
    have c2 : ¬ n > 9 := by omega
    have c4 : ¬ o < 1 := by omega
    have c5 : ¬ o > 10 := by omega
    have c6 : ¬ x < 0 := by omega
    have c7 : ¬ x > o := by omega
    simp only [f_impl_ChanceRight, c1, c2, h3, c4, c5, c6, c7, decide_false, Bool.false_eq_true, if_false]
    exact Ev.bind e (Ev.some _)
  refine ⟨A, B, go w _ h6 h7 e1, ?_, ?_, e1, e2, e4, e5, e6, e7⟩
  · refine Ev.succ ?_
    simp only [f_spec_ChanceRight]
    refine Ev.bind (e_spec_voCopies n) ?_
    have c1 : 1 ≤ n ∧ n ≤ 9 := ⟨h1, h2⟩
    simp only [c1, and_self, decide_true, Bool.not_true, Bool.false_eq_true, if_false, h3, decide_false]
    refine Ev.bind (e_spec_voWrong w o) ?_
    have c2 : (1 ≤ o ∧ o ≤ 10) ∧ 0 ≤ w ∧ w ≤ o := ⟨⟨h4, h5⟩, h6, h7⟩
    simp only [c2, and_self, decide_true, Bool.not_true, Bool.false_eq_true, if_false]
    exact Ev.bind e2 (Ev.some _)
  · have hw : wrap64 (o - w) = o - w := w64 (by omega) (by omega)
    rw [hw] at e3 ⊢
    exact go (o - w) _ (by omega) (by omega) e3
def lcOK (w o want within : Int) : Bool := decide ((1 ≤ o ∧ o ≤ 10) ∧ (0 ≤ w ∧ w ≤ o) ∧ (1 ≤ within ∧ within ≤ 1000) ∧ 0 ≤ want ∧ want ≤ within)
/-- What the search for the least copies finds, and that it is the least. -/
def Least (w o want within v : Int) (c : Option Int) : Prop := match c with
  | some c => v ≤ c ∧ c ≤ 9 ∧ ¬ Int.tmod c 2 = 0 ∧ ∀ n A B, v ≤ n → n ≤ c → ¬ Int.tmod n 2 = 0 → Ev (fun k => f_impl_chanceRight k n w o) (A, B) → (wrap64 (A * within) ≥ wrap64 (want * B) ↔ n = c)
  | none => True
theorem Ev.uniq {α : Type} {f : Nat → Option α} {a b : α} (h : Ev f a) (h2 : Ev f b) : a = b := by
  obtain ⟨n, h⟩ := h
  obtain ⟨m, h2⟩ := h2
  have e1 := h (max n m) (by omega)
  have e2 := h2 (max n m) (by omega)
  rw [e1] at e2
  injection e2
theorem e_LeastCopies_0 {w o : Int} (want within : Int) (h4 : 1 ≤ o) (h5 : o ≤ 10) (h6 : 0 ≤ w) (h7 : w ≤ o) : ∀ (r : Nat) (v : Int), v + 2 * r = 11 → 1 ≤ v → ∃ c : Option Int, Least w o want within v c ∧
    Ev (fun k => f_impl_LeastCopies_0 k w o want within v) (match c with | some c => LR.ret (c, true) | none => LR.go ()) ∧ Ev (fun k => f_spec_LeastCopies_0 k w o want within v) (match c with | some c => LR.ret (c, true) | none => LR.go ())
  | 0, v, hv, h1 => by
    have hn : ¬ v ≤ 9 := by omega
    refine ⟨none, trivial, Ev.succ ?_, Ev.succ ?_⟩
    · simp only [f_impl_LeastCopies_0, hn, decide_false, Bool.false_eq_true, if_false]; exact Ev.some _
    · simp only [f_spec_LeastCopies_0, hn, decide_false, Bool.false_eq_true, if_false]; exact Ev.some _
  | r + 1, v, hv, h1 => by
    have hle : v ≤ 9 := by omega
    have hodd : ¬ Int.tmod v 2 = 0 := by
      rw [Int.tmod_eq_emod_of_nonneg (by omega)]
      omega
    have hw2 : wrap64 (v + 2) = v + 2 := w64 (by omega) (by omega)
    obtain ⟨A, B, e1, e2, _⟩ := chance h1 hle hodd h4 h5 h6 h7
    by_cases hc : wrap64 (A * within) ≥ wrap64 (want * B)
    · refine ⟨some v, ⟨Int.le_refl _, hle, hodd, fun n A' B' q1 q2 _ e => ?_⟩, Ev.succ ?_, Ev.succ ?_⟩
      · have hnv : n = v := by omega
        subst hnv
        have := Ev.uniq e1 e
        injection this with a1 a2
        subst a1 a2
        exact ⟨fun _ => rfl, fun _ => hc⟩
      · simp only [f_impl_LeastCopies_0, hle, decide_true, if_true]
        refine Ev.bind e1 ?_
        simp only [hc, decide_true, if_true]
        exact Ev.some _
      · simp only [f_spec_LeastCopies_0, hle, decide_true, if_true]
        refine Ev.bind e2 ?_
        simp only [hc, decide_true, if_true]
        exact Ev.some _
    · obtain ⟨c, hl, g1, g2⟩ := e_LeastCopies_0 want within h4 h5 h6 h7 r (v + 2) (by omega) (by omega)
      refine ⟨c, ?_, Ev.succ ?_, Ev.succ ?_⟩
      · cases c with
        | none => trivial
        | some c =>
          obtain ⟨l1, l2, l3, l4⟩ := hl
          refine ⟨by omega, l2, l3, fun n A' B' q1 q2 q3 e => ?_⟩
          by_cases hnv : n = v
          · subst hnv
            have := Ev.uniq e1 e
            injection this with a1 a2
            subst a1 a2
            exact ⟨fun h => absurd h hc, fun h => by omega⟩
          · have hn1 : n ≠ v + 1 := by
              intro he
              apply q3
              rw [he, Int.tmod_eq_emod_of_nonneg (by omega)]
              rw [Int.tmod_eq_emod_of_nonneg (by omega)] at hodd
              omega
            exact l4 n A' B' (by omega) q2 q3 e
      · simp only [f_impl_LeastCopies_0, hle, decide_true, if_true]
        refine Ev.bind e1 ?_
        simp only [hc, decide_false, Bool.false_eq_true, if_false, hw2]
        exact g1
      · simp only [f_spec_LeastCopies_0, hle, decide_true, if_true]
        refine Ev.bind e2 ?_
        simp only [hc, decide_false, Bool.false_eq_true, if_false, hw2]
        exact g2
theorem e_LeastCopies (w o want within : Int) : ∃ c : Option Int, (∀ c', c = some c' → lcOK w o want within = true ∧ Least w o want within 1 (some c')) ∧
    Ev (fun k => f_impl_LeastCopies k w o want within) (match c with | some c => (c, true) | none => (0, false)) ∧ Ev (fun k => f_spec_LeastCopies k w o want within) (match c with | some c => (c, true) | none => (0, false)) := by
  cases h : lcOK w o want within with
  | false =>
    simp only [lcOK, decide_eq_false_iff_not] at h
    refine ⟨none, (fun _ hc => by cases hc), Ev.succ ?_, Ev.succ ?_⟩
    · simp only [f_impl_LeastCopies]
      refine Ev.ite (fun _ => Ev.some _) (fun h1 => Ev.ite (fun _ => Ev.some _) (fun h2 => Ev.ite (fun _ => Ev.some _) (fun h3 => Ev.ite (fun _ => Ev.some _) (fun h4 => Ev.ite (fun _ => Ev.some _) (fun h5 => Ev.ite (fun _ => Ev.some _) (fun h6 => Ev.ite (fun _ => Ev.some _) (fun h7 => Ev.ite (fun _ => Ev.some _) (fun h8 => ?_))))))))
      simp only [decide_eq_true_eq] at h1 h2 h3 h4 h5 h6 h7 h8
      exact absurd ⟨⟨by omega, by omega⟩, ⟨by omega, by omega⟩, ⟨by omega, by omega⟩, by omega, by omega⟩ h
    · simp only [f_spec_LeastCopies]
      refine Ev.bind (e_spec_voWrong w o) (Ev.ite (fun _ => Ev.some _) (fun h1 => Ev.bind (e_spec_l1In_c within 1 1000) (Ev.ite (fun _ => Ev.some _) (fun h2 => Ev.bind (e_spec_l1In_c want 0 within) (Ev.ite (fun _ => Ev.some _) (fun h3 => ?_))))))
      simp only [Bool.not_eq_true', decide_eq_false_iff_not, Decidable.not_not] at h1 h2 h3
      exact absurd ⟨h1.1, h1.2, h2, h3⟩ h
  | true =>
    have h' := h
    simp only [lcOK, decide_eq_true_eq] at h'
    obtain ⟨⟨h4, h5⟩, ⟨h6, h7⟩, ⟨h8, h9⟩, h10, h11⟩ := h'
    obtain ⟨c, hl, g1, g2⟩ := e_LeastCopies_0 want within h4 h5 h6 h7 5 1 (by omega) (by omega)
    refine ⟨c, (fun c' hc => ⟨rfl, by rw [hc] at hl; exact hl⟩), Ev.succ ?_, Ev.succ ?_⟩
    · have c1 : ¬ o < 1 := by omega
      have c2 : ¬ o > 10 := by omega
      have c3 : ¬ w < 0 := by omega
      have c4 : ¬ w > o := by omega
      have c5 : ¬ within < 1 := by omega
      have c6 : ¬ within > 1000 := by omega
      have c7 : ¬ want < 0 := by omega
      have c8 : ¬ want > within := by omega
      simp only [f_impl_LeastCopies, c1, c2, c3, c4, c5, c6, c7, c8, decide_false, Bool.false_eq_true, if_false]
      refine Ev.bind g1 ?_
      cases c with
      | none => exact Ev.go (Ev.some _)
      | some c => exact Ev.ret (Ev.some _)
    · have c2 : (1 ≤ o ∧ o ≤ 10) ∧ 0 ≤ w ∧ w ≤ o := ⟨⟨h4, h5⟩, h6, h7⟩
      have c3 : 1 ≤ within ∧ within ≤ 1000 := ⟨h8, h9⟩
      have c4 : 0 ≤ want ∧ want ≤ within := ⟨h10, h11⟩
      simp only [f_spec_LeastCopies]
      refine Ev.bind (e_spec_voWrong w o) ?_
      simp only [c2, and_self, decide_true, Bool.not_true, Bool.false_eq_true, if_false]
      refine Ev.bind (e_spec_l1In_c within 1 1000) ?_
      simp only [c3, and_self, decide_true, Bool.not_true, Bool.false_eq_true, if_false]
      refine Ev.bind (e_spec_l1In_c want 0 within) ?_
      simp only [c4, and_self, decide_true, Bool.not_true, Bool.false_eq_true, if_false]
      refine Ev.bind g2 ?_
      cases c with
      | none => exact Ev.go (Ev.some _)
      | some c => exact Ev.ret (Ev.some _)
/-! ### The draws -/
theorem e_copies {code : List Int} {at' : Int} (seed : Int) (h : Cur code at' 4) : ∃ v at2 s, Ev (fun k => f_spec_l1Cur_copies k (code, at', seed)) (v, at2, s) ∧ at' ≤ at2 ∧ at2 ≤ at' + 4 ∧ (0 ≤ v ∧ v ≤ 11) := by
  obtain ⟨v, at2, s, e1, b1, b2, b3⟩ := e_among seed [0, 10, 11] (by simp) (h.to (at2 := at') (m := 2) (by omega) (by omega))
  obtain ⟨v2, at3, s3, e2, b4, b5, b6⟩ := e_among s [1, 2, 3, 5, 7, 9, v] (by simp) (h.to (at2 := at2) (m := 2) (by omega) (by omega))
  refine ⟨v2, at3, s3, Ev.succ ?_, by omega, by omega, ?_⟩
  · simp only [f_spec_l1Cur_copies]
    exact Ev.bind e1 (Ev.bind e2 (Ev.some _))
  · simp only [List.mem_cons, List.not_mem_nil, or_false] at b3 b6
    omega
theorem e_DrawTolerated (code : List Int) (h : Cur code 0 4) : ∃ v, Ev (fun k => f_spec_DrawTolerated k code) v ∧ (0 ≤ v ∧ v ≤ 11) := by
  obtain ⟨v, at2, s, e1, _, _, b⟩ := e_copies 0 h
  refine ⟨v, Ev.succ ?_, b⟩
  simp only [f_spec_DrawTolerated]
  exact Ev.bind e1 (Ev.some _)
theorem e_DrawChanceRight (code : List Int) (h : Cur code 0 10) : ∃ v, Ev (fun k => f_spec_DrawChanceRight k code) v := by
  obtain ⟨v1, a1, s1, e1, b1, b2, _⟩ := e_among 0 [0, 11] (by simp) (h.to (at2 := 0) (m := 2) (by omega) (by omega))
  obtain ⟨v2, a2, s2, e2, b3, b4, _⟩ := e_among s1 [1, 2, 3, 10, 10, v1] (by simp) (h.to (at2 := a1) (m := 2) (by omega) (by omega))
  obtain ⟨v3, a3, s3, e3, b5, b6, _⟩ := e_copies s2 (h.to (at2 := a2) (m := 4) (by omega) (by omega))
  obtain ⟨v4, a4, s4, e4, b7, b8, _⟩ := e_among s3 [0, 1, 1, 2, v2, wrap64 (v2 + 1), -1] (by simp) (h.to (at2 := a3) (m := 2) (by omega) (by omega))
  refine ⟨(v3, v4, v2), Ev.succ ?_⟩
  simp only [f_spec_DrawChanceRight]
  exact Ev.bind e1 (Ev.bind e2 (Ev.bind e3 (Ev.bind e4 (Ev.some _))))
theorem e_DrawLeastCopies (code : List Int) (h : Cur code 0 12) : ∃ v, Ev (fun k => f_spec_DrawLeastCopies k code) v := by
  obtain ⟨v1, a1, s1, e1, b1, b2, _⟩ := e_among 0 [0, 11] (by simp) (h.to (at2 := 0) (m := 2) (by omega) (by omega))
  obtain ⟨v2, a2, s2, e2, b3, b4, _⟩ := e_among s1 [1, 2, 3, 10, 10, v1] (by simp) (h.to (at2 := a1) (m := 2) (by omega) (by omega))
  obtain ⟨v3, a3, s3, e3, b5, b6, _⟩ := e_among s2 [0, 1001] (by simp) (h.to (at2 := a2) (m := 2) (by omega) (by omega))
  obtain ⟨v4, a4, s4, e4, b7, b8, _⟩ := e_among s3 [1, 10, 100, 1000, v3] (by simp) (h.to (at2 := a3) (m := 2) (by omega) (by omega))
  obtain ⟨v5, a5, s5, e5, b9, b10, _⟩ := e_among s4 [0, 1, 1, 2, v2, wrap64 (v2 + 1), -1] (by simp) (h.to (at2 := a4) (m := 2) (by omega) (by omega))
  obtain ⟨v6, a6, s6, e6, b11, b12, _⟩ := e_among s5 [0, wrap64 (Int.tdiv v4 2), wrap64 (v4 - 1), v4, wrap64 (Int.tdiv (wrap64 (v4 * 97)) 100), wrap64 (v4 + 1)] (by simp) (h.to (at2 := a5) (m := 2) (by omega) (by omega))
  refine ⟨(v5, v2, v6, v4), Ev.succ ?_⟩
  simp only [f_spec_DrawLeastCopies]
  exact Ev.bind e1 (Ev.bind e2 (Ev.bind e3 (Ev.bind e4 (Ev.bind e5 (Ev.bind e6 (Ev.some _))))))
/-! ### The law -/
def tolR (m : Int) : Int × Bool := if 1 ≤ m ∧ m ≤ 9 then (wrap64 (Int.tdiv (wrap64 (m - 1)) 2), true) else (0, false)
theorem e_impl_Tolerated (m : Int) : Ev (fun k => f_impl_Tolerated k m) (tolR m) := by
  refine Ev.succ ?_
  simp only [f_impl_Tolerated]
  unfold tolR
  refine Ev.of ?_
  by_cases h1 : m < 1
  · have : ¬ (1 ≤ m ∧ m ≤ 9) := by omega
    simp [h1, this]
  · by_cases h2 : m > 9
    · have : ¬ (1 ≤ m ∧ m ≤ 9) := by omega
      simp [h1, h2, this]
    · have : 1 ≤ m ∧ m ≤ 9 := by omega
      simp [h1, h2, this]
theorem e_spec_Tolerated (m : Int) : Ev (fun k => f_spec_Tolerated k m) (tolR m) := by
  refine Ev.succ ?_
  simp only [f_spec_Tolerated]
  unfold tolR
  refine Ev.bind (e_spec_voCopies m) (Ev.of ?_)
  by_cases h1 : 1 ≤ m ∧ m ≤ 9 <;> simp [h1]
theorem tol_right {m : Int} (h0 : 0 ≤ m) (h1 : m ≤ 11) (h : (tolR m).2 = true) : wrap64 (2 * wrap64 (m - (tolR m).1)) > m ∧ wrap64 (2 * wrap64 (wrap64 (m - (tolR m).1) - 1)) ≤ m := by
  unfold tolR at h ⊢
  split at h
  · rename_i hm
    rw [if_pos hm]
    have e : m = 1 ∨ m = 2 ∨ m = 3 ∨ m = 4 ∨ m = 5 ∨ m = 6 ∨ m = 7 ∨ m = 8 ∨ m = 9 := by omega
    rcases e with rfl | rfl | rfl | rfl | rfl | rfl | rfl | rfl | rfl <;> exact ⟨of_decide_eq_true (by kernel_rfl), of_decide_eq_true (by kernel_rfl)⟩
  · cases h
theorem e_laws_FnChances_0 (c1 : List Int) {w o want within : Int} (hlc : lcOK w o want within = true) {c : Int} (hl : Least w o want within 1 (some c)) : ∀ (r : Nat) (v : Int), v + 2 * r = c + 2 → 1 ≤ v → Ev (fun k => f_laws_FnChances_0 k c1 w o want within c v) (LR.go c1)
  | 0, v, hv, h1 => by
    have hn : ¬ v ≤ c := by omega
    refine Ev.succ ?_
    simp only [f_laws_FnChances_0, hn, decide_false, Bool.false_eq_true, if_false]
    exact Ev.some _
  | r + 1, v, hv, h1 => by
    obtain ⟨l1, l2, l3, l4⟩ := hl
    have hle : v ≤ c := by omega
    simp only [lcOK, decide_eq_true_eq] at hlc
    have hodd : ¬ Int.tmod v 2 = 0 := by
      rw [Int.tmod_eq_emod_of_nonneg (by omega)] at l3 ⊢
      omega
    have hok : chOK v w o = true := by
      simp only [chOK, decide_eq_true_eq]
      exact ⟨⟨h1, by omega⟩, hodd, hlc.1, hlc.2.1⟩
    obtain ⟨A, B, e1, _, _, e4, _⟩ := e_ChanceRight_yes hok
    have hb := l4 v A B h1 hle hodd e4
    have hw2 : wrap64 (v + 2) = v + 2 := w64 (by omega) (by omega)
    have ih := e_laws_FnChances_0 c1 (by simp only [lcOK, decide_eq_true_eq]; exact hlc) ⟨l1, l2, l3, l4⟩ r (v + 2) (by omega) (by omega)
    refine Ev.succ ?_
    simp only [f_laws_FnChances_0, hle, decide_true, if_true]
    refine Ev.bind e1 ?_
    have hd : decide (wrap64 (A * within) ≥ wrap64 (want * B)) = decide (v = c) := by rw [decide_eq_decide]; exact hb
    simp only [hd, Bool.not_true, Bool.false_eq_true, if_false]
    cases decide (v = c) <;> simp only [beq_self_eq_true, Bool.not_true, Bool.not_false, Bool.false_eq_true, if_false, hw2] <;> exact ih
theorem law_FnChances (p0 p1 : List Int) (h0 : p0.length ≤ 9223372036854775807) (b0 : ∀ x ∈ p0, 0 ≤ x ∧ x ≤ 255) (h1 : p1.length ≤ 9223372036854775807) (b1 : ∀ x ∈ p1, 0 ≤ x ∧ x ≤ 255) : Ev (fun k => f_laws_FnChances k p0 p1) true := by
  have cur0 : ∀ n : Int, n ≤ 100 → Cur p0 0 n := fun n hn => ⟨b0, h0, by omega, by omega⟩
  have cur1 : ∀ n : Int, n ≤ 100 → Cur p1 0 n := fun n hn => ⟨b1, h1, by omega, by omega⟩
  refine Ev.succ ?_
  simp only [f_laws_FnChances]
  have hbig : ∃ b, Ev (fun k => f_laws_big k p0 p1) b := by
    by_cases hb : (p0.length : Int) > 1048576
    · exact ⟨true, Ev.succ (by simp only [f_laws_big, hb, decide_true, if_true]; exact Ev.some _)⟩
    · exact ⟨_, Ev.succ (by simp only [f_laws_big, hb, decide_false, Bool.false_eq_true, if_false]; exact Ev.some _)⟩
  obtain ⟨bg, hbg⟩ := hbig
  refine Ev.bind hbg ?_
  refine Ev.ite (fun _ => Ev.some _) (fun _ => ?_)
  obtain ⟨⟨n, w, o⟩, e1⟩ := e_DrawChanceRight p0 (cur0 10 (by omega))
  refine Ev.bind e1 ?_
  obtain ⟨⟨w2, o2, want, within⟩, e5⟩ := e_DrawLeastCopies p1 (cur1 12 (by omega))
  obtain ⟨m, e6, m0, m1⟩ := e_DrawTolerated p1 (cur1 4 (by omega))
  obtain ⟨c, hc, g1, g2⟩ := e_LeastCopies w2 o2 want within
  have ht1 := e_impl_Tolerated m
  have ht2 := e_spec_Tolerated m
  have tail : Ev (fun k => Option.bind (f_spec_DrawTolerated k p1) fun z14 => Option.bind (f_impl_Tolerated k z14) fun z15 => Option.bind (f_spec_Tolerated k z14) fun z16 => if (z15.2 == z16.2) = true then if decide (z15.1 = z16.1) = true then if (!z15.2) = true then some true else if decide (wrap64 ((2 : Int) * wrap64 (z14 - z16.1)) > z14) = true then some (decide (wrap64 ((2 : Int) * wrap64 (wrap64 (z14 - z16.1) - (1 : Int))) ≤ z14)) else some false else some false else some false) true := by
    refine Ev.bind e6 (Ev.bind ht1 (Ev.bind ht2 ?_))
    simp only [beq_self_eq_true, if_true, decide_true]
    cases hr : (tolR m).2 with
    | false => simp only [Bool.not_false, if_true]; exact Ev.some _
    | true =>
      obtain ⟨t1, t2⟩ := tol_right m0 m1 hr
      simp only [Bool.not_true, Bool.false_eq_true, if_false, t1, t2, decide_true, if_true]
      exact Ev.some _
  have rest : Ev (fun k => Option.bind (f_spec_DrawLeastCopies k p1) fun z6 => Option.bind (f_impl_LeastCopies k z6.1 z6.2.1 z6.2.2.1 z6.2.2.2) fun z7 => Option.bind (f_spec_LeastCopies k z6.1 z6.2.1 z6.2.2.1 z6.2.2.2) fun z8 => if (!z7.2 == z8.2) = true then some false else if decide (z7.1 ≠ z8.1) = true then some false else if z7.2 = true then Option.bind (f_laws_FnChances_0 k p1 z6.1 z6.2.1 z6.2.2.1 z6.2.2.2 z8.1 (1 : Int)) fun z10 => LR.on z10 (fun y10 => Option.bind (f_spec_DrawTolerated k y10) fun z11 => Option.bind (f_impl_Tolerated k z11) fun z12 => Option.bind (f_spec_Tolerated k z11) fun z13 => if (z12.2 == z13.2) = true then if decide (z12.1 = z13.1) = true then if (!z12.2) = true then some true else if decide (wrap64 ((2 : Int) * wrap64 (z11 - z13.1)) > z11) = true then some (decide (wrap64 ((2 : Int) * wrap64 (wrap64 (z11 - z13.1) - (1 : Int))) ≤ z11)) else some false else some false else some false) fun r10 => some r10 else Option.bind (f_spec_DrawTolerated k p1) fun z14 => Option.bind (f_impl_Tolerated k z14) fun z15 => Option.bind (f_spec_Tolerated k z14) fun z16 => if (z15.2 == z16.2) = true then if decide (z15.1 = z16.1) = true then if (!z15.2) = true then some true else if decide (wrap64 ((2 : Int) * wrap64 (z14 - z16.1)) > z14) = true then some (decide (wrap64 ((2 : Int) * wrap64 (wrap64 (z14 - z16.1) - (1 : Int))) ≤ z14)) else some false else some false else some false) true := by
    refine Ev.bind e5 (Ev.bind g1 (Ev.bind g2 ?_))
    cases c with
    | none =>
      simp only [beq_self_eq_true, Bool.not_true, Bool.false_eq_true, if_false, ne_eq, not_true_eq_false, decide_false]
      exact tail
    | some c =>
      obtain ⟨hlc, hl⟩ := hc c rfl
      have hl' := hl
      obtain ⟨l1, l2, l3, l4⟩ := hl'
      have hodd : c % 2 = 1 := by
        rw [Int.tmod_eq_emod_of_nonneg (by omega)] at l3
        omega
      have hr := e_laws_FnChances_0 p1 hlc hl ((c + 1) / 2).toNat 1 (by omega) (by omega)
      simp only [beq_self_eq_true, Bool.not_true, Bool.false_eq_true, if_false, ne_eq, not_true_eq_false, decide_false, if_true]
      exact Ev.bind hr (Ev.go tail)
  cases hok : chOK n w o with
  | false =>
    refine Ev.bind (e_impl_ChanceRight_no hok) (Ev.bind (e_spec_ChanceRight_no hok) ?_)
    simp only [beq_self_eq_true, Bool.not_true, Bool.false_eq_true, if_false, ne_eq, not_true_eq_false, decide_false, f_laws_FnChances_j72]
    exact Ev.bind (Ev.some _) (Ev.go rest)
  | true =>
    obtain ⟨A, B, q1, q2, q3, _, _, q6, q7, q8, q9⟩ := e_ChanceRight_yes hok
    refine Ev.bind q1 (Ev.bind q2 ?_)
    have d1 : ¬ B < 1 := by omega
    have d2 : ¬ A < 0 := by omega
    simp only [beq_self_eq_true, Bool.not_true, Bool.false_eq_true, if_false, ne_eq, not_true_eq_false, decide_false, f_laws_FnChances_j72, if_true]
    refine Ev.bind (Ev.bind q3 ?_) (Ev.go rest)
    simp only [d1, d2, Bool.not_true, Bool.false_eq_true, if_false, not_true_eq_false, decide_false]
    exact Ev.some _
end Go.Proofs.Ytgjmhbjdhihgaaa.Vs
