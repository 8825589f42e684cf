/- For all numbers of copies, wrong and of, the program's ChanceRight returns what the reference's ChanceRight returns. No condition beyond the statement's own. -/
import Derived.Test.YtcmndffpmjinlaaPFnExactChanceRightx2
namespace Go.Proofs.Ytcmndffpmjinlaa.Pure
open Go.RowKit Go.Proofs.Ytcmndffpmjinlaa.PFnExactChanceRight Go.Proofs.YtcmndffpmjinlaaW.PrintWords Go.Proofs.YtcmndffpmjinlaaW.PrintLast

set_option maxRecDepth 100000
theorem alike_fin : ∀ i : Fin 5, ∀ o : Fin 10, ∀ b : Fin 11, b.val ≤ o.val + 1 → (spec_voChance.f 120 (2 * i.val + 1) b.val (o.val + 1)).isSome = true ∧ impl_chanceRight.f 120 (2 * i.val + 1) b.val (o.val + 1) = spec_voChance.f 120 (2 * i.val + 1) b.val (o.val + 1) := by
  decide +kernel
theorem alike (a0 a1 a2 : Int) (h0 : 1 ≤ a0) (h1 : a0 ≤ 9) (h2 : Int.tmod a0 2 ≠ 0) (h3 : 1 ≤ a2) (h4 : a2 ≤ 10) (h5 : 0 ≤ a1) (h6 : a1 ≤ a2) :
    ∃ r, spec_voChance.f 120 a0 a1 a2 = some r ∧ impl_chanceRight.f 120 a0 a1 a2 = some r := by
  have h2' : a0 % 2 ≠ 0 := by rwa [Int.tmod_eq_emod_of_nonneg (by omega)] at h2
  have h := alike_fin ⟨((a0 - 1) / 2).toNat, by omega⟩ ⟨(a2 - 1).toNat, by omega⟩ ⟨a1.toNat, by omega⟩ (by simp only []; omega)
  simp only [] at h
  rw [show (2 * (((a0 - 1) / 2).toNat : Int) + 1) = a0 by omega, show (((a2 - 1).toNat : Int) + 1) = a2 by omega, show ((a1.toNat : Int)) = a1 by omega] at h
  obtain ⟨r, hr⟩ := Option.isSome_iff_exists.1 h.1
  exact ⟨r, hr, h.2.trans hr⟩
theorem FnExactChanceRight : laws_FnExactChanceRight.Pure := by
  intro a0 a1 a2 _ _ _
  refine ⟨120, ?_⟩
  unfold laws_FnExactChanceRight.f spec_ChanceRight.f impl_ChanceRight.f spec_voCopies.f spec_voWrong.f spec_l1In.f
  by_cases h0 : a0 < 1
  · have g : ¬ a0 ≥ 1 := by omega
    simp [h0, g]
  have g0 : a0 ≥ 1 := by omega
  by_cases h1 : a0 > 9
  · have g : ¬ a0 ≤ 9 := by omega
    simp [h0, g0, h1, g]
  have g1 : a0 ≤ 9 := by omega
  by_cases h2 : Int.tmod a0 2 = 0
  · simp [h0, g0, h1, g1, h2]
  by_cases h3 : a2 < 1
  · have g : ¬ a2 ≥ 1 := by omega
    simp [h0, g0, h1, g1, h2, h3, g]
  have g3 : a2 ≥ 1 := by omega
  by_cases h4 : a2 > 10
  · have g : ¬ a2 ≤ 10 := by omega
    simp [h0, g0, h1, g1, h2, h3, g3, h4, g]
  have g4 : a2 ≤ 10 := by omega
  by_cases h5 : a1 < 0
  · have g : ¬ a1 ≥ 0 := by omega
    simp [h0, g0, h1, g1, h2, h3, g3, h4, g4, h5, g]
  have g5 : a1 ≥ 0 := by omega
  by_cases h6 : a1 > a2
  · have g : ¬ a1 ≤ a2 := by omega
    simp [h0, g0, h1, g1, h2, h3, g3, h4, g4, h5, g5, h6, g]
  have g6 : a1 ≤ a2 := by omega
  obtain ⟨r, e1, e2⟩ := alike a0 a1 a2 g0 g1 h2 g3 g4 g5 g6
  simp [h0, g0, h1, g1, h2, h3, g3, h4, g4, h5, g5, h6, g6, e1, e2]

end Go.Proofs.Ytcmndffpmjinlaa.Pure
