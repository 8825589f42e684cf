/- For all wrong, of, want and within, the program's LeastCopies returns what the reference's LeastCopies returns. No condition beyond the statement's own. -/
import Derived.Test.YtcmndffpmjinlaaPFnExactLeastCopiesx2
namespace Go.Proofs.Ytcmndffpmjinlaa.Pure
open Go.RowKit Go.Proofs.Ytcmndffpmjinlaa.PFnExactLeastCopies Go.Proofs.YtcmndffpmjinlaaW.PrintWords Go.Proofs.YtcmndffpmjinlaaW.PrintLast

set_option maxRecDepth 100000
theorem alike_fin : ∀ i : Fin 5, ∀ o : Fin 10, ∀ b : Fin 11, b.val ≤ o.val + 1 → ∀ j : Fin 7, (spec_voChance.f (120 + j.val) (2 * i.val + 1) b.val (o.val + 1)).isSome = true ∧ impl_chanceRight.f (120 + j.val) (2 * i.val + 1) b.val (o.val + 1) = spec_voChance.f (120 + j.val) (2 * i.val + 1) b.val (o.val + 1) := by
  decide +kernel
theorem alike (k : Nat) (hk : 120 ≤ k) (hk2 : k < 127) (a0 a1 a2 : Int) (h0 : 1 ≤ a0) (h1 : a0 ≤ 9) (h2 : a0 % 2 ≠ 0) (h3 : 1 ≤ a2) (h4 : a2 ≤ 10) (h5 : 0 ≤ a1) (h6 : a1 ≤ a2) :
    ∃ r, spec_voChance.f k a0 a1 a2 = some r ∧ impl_chanceRight.f k a0 a1 a2 = some r := by
  have h := alike_fin ⟨((a0 - 1) / 2).toNat, by omega⟩ ⟨(a2 - 1).toNat, by omega⟩ ⟨a1.toNat, by omega⟩ (by simp only []; omega) ⟨k - 120, by omega⟩
  simp only [] at h
  rw [show (2 * (((a0 - 1) / 2).toNat : Int) + 1) = a0 by omega, show (((a2 - 1).toNat : Int) + 1) = a2 by omega, show ((a1.toNat : Int)) = a1 by omega, show 120 + (k - 120) = k by omega] at h
  obtain ⟨r, hr⟩ := Option.isSome_iff_exists.1 h.1
  exact ⟨r, hr, h.2.trans hr⟩
/-- The two loops over the copies tell the same. -/
theorem rounds (a0 a1 a2 a3 : Int) (h3 : 1 ≤ a1) (h4 : a1 ≤ 10) (h5 : 0 ≤ a0) (h6 : a0 ≤ a1) (d : Nat) : ∀ (k : Nat) (c : Int), 120 ≤ k - (d + 1) → k < 128 → 1 ≤ c → c % 2 = 1 → c + 2 * d = 11 →
    ∃ r, spec_LeastCopies.l0 k a0 a1 a2 a3 c = some r ∧ impl_LeastCopies.l0 k a0 a1 a2 a3 c = some r := by
  induction d with
  | zero =>
    intro k c hk hk2 h0 h1 h2
    obtain ⟨k, rfl⟩ : ∃ m, k = m + 1 := ⟨k - 1, by omega⟩
    simp only [spec_LeastCopies.l0, impl_LeastCopies.l0]
    rw [if_neg (by omega), if_neg (by omega)]
    exact ⟨_, rfl, rfl⟩
  | succ d ih =>
    intro k c hk hk2 h0 h1 h2
    obtain ⟨k, rfl⟩ : ∃ m, k = m + 1 := ⟨k - 1, by omega⟩
    obtain ⟨r, e1, e2⟩ := alike k (by omega) (by omega) c a0 a1 h0 (by omega) (by omega) h3 h4 h5 h6
    simp only [spec_LeastCopies.l0, impl_LeastCopies.l0]
    rw [if_pos (by omega), if_pos (by omega), e1, e2]
    simp only [Option.bind_some]
    have hw : wrap64 (c + 2) = c + 2 := by unfold wrap64; omega
    rw [hw]
    split
    · exact ⟨_, rfl, rfl⟩
    · exact ih k (c + 2) (by omega) (by omega) (by omega) (by omega) (by omega)
theorem FnExactLeastCopies : laws_FnExactLeastCopies.Pure := by
  intro a0 a1 a2 a3 _ _ _ _
  refine ⟨128, ?_⟩
  unfold laws_FnExactLeastCopies.f spec_LeastCopies.f impl_LeastCopies.f spec_voWrong.f spec_l1In.f
  simp only [spec_LeastCopies.j0, impl_LeastCopies.j0]
  by_cases h3 : a1 < 1
  · have g : ¬ a1 ≥ 1 := by omega
    simp [h3, g]
  have g3 : a1 ≥ 1 := by omega
  by_cases h4 : a1 > 10
  · have g : ¬ a1 ≤ 10 := by omega
    simp [h3, g3, h4, g]
  have g4 : a1 ≤ 10 := by omega
  by_cases h5 : a0 < 0
  · have g : ¬ a0 ≥ 0 := by omega
    simp [h3, g3, h4, g4, h5, g]
  have g5 : a0 ≥ 0 := by omega
  by_cases h6 : a0 > a1
  · have g : ¬ a0 ≤ a1 := by omega
    simp [h3, g3, h4, g4, h5, g5, h6, g]
  have g6 : a0 ≤ a1 := by omega
  by_cases h7 : a3 < 1
  · have g : ¬ a3 ≥ 1 := by omega
    simp [h3, g3, h4, g4, h5, g5, h6, g6, h7, g]
  have g7 : a3 ≥ 1 := by omega
  by_cases h8 : a3 > 1000
  · have g : ¬ a3 ≤ 1000 := by omega
    simp [h3, g3, h4, g4, h5, g5, h6, g6, h7, g7, h8, g]
  have g8 : a3 ≤ 1000 := by omega
  by_cases h9 : a2 < 0
  · have g : ¬ a2 ≥ 0 := by omega
    simp [h3, g3, h4, g4, h5, g5, h6, g6, h7, g7, h8, g8, h9, g]
  have g9 : a2 ≥ 0 := by omega
  by_cases h10 : a2 > a3
  · have g : ¬ a2 ≤ a3 := by omega
    simp [h3, g3, h4, g4, h5, g5, h6, g6, h7, g7, h8, g8, h9, g9, h10, g]
  have g10 : a2 ≤ a3 := by omega
  obtain ⟨r, e1, e2⟩ := rounds a0 a1 a2 a3 g3 g4 g5 g6 5 127 1 (by omega) (by omega) (by omega) (by omega) (by omega)
  simp [h3, g3, h4, g4, h5, g5, h6, g6, h7, g7, h8, g8, h9, g9, h10, g10, e1, e2]

end Go.Proofs.Ytcmndffpmjinlaa.Pure
