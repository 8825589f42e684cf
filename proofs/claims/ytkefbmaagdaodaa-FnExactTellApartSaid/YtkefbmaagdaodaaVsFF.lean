/- A marble on a board with faults: the laws on its end and on the board behind it. -/
import Derived.Test.YtkefbmaagdaodaaVsDs
import Derived.Test.YtkefbmaagdaodaaVsLb
set_option linter.unusedVariables false
set_option linter.unusedSimpArgs false
namespace Go.Proofs.Ytkefbmaagdaodaa.Vs
open Go.RowKit
abbrev FallT := Int × Int × Int
theorem e_impl_validEntry (b : BoardD) (c : Int) (hl : b.2.2.length ≤ 9223372036854775806) : Ev (fun k => f_impl_validEntry k b c) (boardOK b && decide (0 ≤ c ∧ c < b.2.1)) := by
  refine Ev.succ ?_
  simp only [f_impl_validEntry]
  refine Ev.bind (e_impl_IsBoard b hl) ?_
  cases hb : boardOK b with
  | false => simp only [Bool.false_eq_true, if_false, Bool.false_and]; exact Ev.some _
  | true =>
    simp only [if_true, Bool.true_and]
    refine Ev.of ?_
    by_cases h1 : c ≥ 0 <;> by_cases h2 : c < b.2.1 <;> simp [h1, h2]
    all_goals omega
theorem e_spec_flHas (b : BoardD) (c : Int) (hl : b.2.2.length ≤ 9223372036854775806) : Ev (fun k => f_spec_flHas k b c) (boardOK b && decide (0 ≤ c ∧ c < b.2.1)) := by
  refine Ev.succ ?_
  simp only [f_spec_flHas]
  refine Ev.bind (e_spec_boGood b hl) ?_
  cases hb : boardOK b with
  | false => simp only [Bool.false_eq_true, if_false, Bool.false_and]; exact Ev.some _
  | true =>
    obtain ⟨g1, g2, g3, g4, g5, g6⟩ := board_ok hb
    simp only [if_true, Bool.true_and]
    rw [w64 (n := b.2.1 - 1) (by omega) (by omega)]
    refine Ev.bind (e_spec_l1In _ _ _) (Ev.of ?_)
    have : (0 ≤ c ∧ c ≤ b.2.1 - 1) ↔ (0 ≤ c ∧ c < b.2.1) := by omega
    simp only [this]
/-- The arguments of a marble on a board with faults. -/
def faHasOf (b : BoardD) (l : List FaultD) (c : Int) : Bool := (boardOK b && decide (0 ≤ c ∧ c < b.2.1)) && (decide (l.length ≤ 4) && faultsOK b (-1) l)
theorem e_spec_faHas (b : BoardD) (l : List FaultD) (c : Int) (hl : b.2.2.length ≤ 9223372036854775806) (hll : l.length ≤ 9223372036854775806) : Ev (fun k => f_spec_faHas k b l c) (faHasOf b l c) := by
  refine Ev.succ ?_
  simp only [f_spec_faHas]
  refine Ev.bind (e_spec_flHas b c hl) ?_
  unfold faHasOf
  cases hb : boardOK b with
  | false => simp only [Bool.false_eq_true, if_false, Bool.false_and]; exact Ev.some _
  | true =>
    simp only [Bool.true_and]
    refine Ev.ite (fun h => ?_) (fun h => ?_)
    · rw [h, Bool.true_and]
      exact Ev.bind (e_spec_faGood b hb l hll) (Ev.some _)
    · simp only [Bool.not_eq_true] at h
      rw [h, Bool.false_and]
      exact Ev.some _
/-- One marble on a board with faults: its end and the cells behind it. -/
def faRunOf (b : BoardD) (l : List FaultD) (c : Int) : FallT × BoardD := ((fallOf b (groupsOf b) (kindsB b l) c b.2.2).1, b.1, b.2.1, (fallOf b (groupsOf b) (kindsB b l) c b.2.2).2)
theorem faHas_ok {b : BoardD} {l : List FaultD} {c : Int} (h : faHasOf b l c = true) : boardOK b = true ∧ 0 ≤ c ∧ c < b.2.1 ∧ l.length ≤ 4 ∧ faultsOK b (-1) l = true := by
  unfold faHasOf at h
  simp only [Bool.and_eq_true, decide_eq_true_eq] at h
  exact ⟨h.1.1, h.1.2.1, h.1.2.2, h.2.1, h.2.2⟩
theorem e_spec_faRun (b : BoardD) (l : List FaultD) (c : Int) (h : faHasOf b l c = true) : Ev (fun k => f_spec_faRun k b l c) (faRunOf b l c) := by
  obtain ⟨hb, h1, h2, h3, h4⟩ := faHas_ok h
  refine Ev.succ ?_
  simp only [f_spec_faRun]
  refine Ev.bind (e_spec_ggGroups b hb) ?_
  refine Ev.bind (e_spec_faGo b hb (groupsOf b) (groupsOf_len b) l h4 (by omega) c h1 h2) ?_
  exact Ev.some _
/-- What a walk over a board with faults gives, to the program's parts. -/
theorem e_impl_run (b : BoardD) (l : List FaultD) (c : Int) (h : faHasOf b l c = true) {α : Type} {f : BoardD → FallT × List CellD → Nat → Option α} {v : α} (hf : Ev (f b ((faRunOf b l c).1, (faRunOf b l c).2.2.2)) v) :
    Ev (fun k => Option.bind (f_impl_copyBoard k b) fun z2 => Option.bind (f_impl_groupNumbers k b) fun z3 => Option.bind (f_impl_faultsByCell k b l) fun z4 => Option.bind (f_impl_faultyDrop k (z2.1, z2.2.1, z2.2.2) z3 z4 c) fun z5 => f z2 z5 k) v := by
  obtain ⟨hb, h1, h2, h3, h4⟩ := faHas_ok h
  obtain ⟨g1, g2, g3, g4, g5, g6⟩ := board_ok hb
  have hpp := prod_small g1 g2 g3 g4
  refine Ev.bind (e_impl_copyBoard b (by omega)) ?_
  refine Ev.bind (e_impl_groupNumbers b hb) ?_
  refine Ev.bind (e_impl_faultsByCell b hb l h4 (by omega)) ?_
  exact Ev.bind (e_impl_faultyDrop b hb (groupsOf b) (kindsB b l) (groupsOf_len b) (kindsB_len b l) c h1 h2 b.2.2 rfl g6) hf
def r_FaultyFall (b : BoardD) (l : List FaultD) (c : Int) : FallT × Bool := if faHasOf b l c then ((faRunOf b l c).1, true) else ((0, 0, 0), false)
def r_FaultyBoard (b : BoardD) (l : List FaultD) (c : Int) : BoardD × Bool := if faHasOf b l c then ((faRunOf b l c).2, true) else ((0, 0, []), false)
theorem e_spec_FaultyFall (b : BoardD) (l : List FaultD) (c : Int) (hl : b.2.2.length ≤ 9223372036854775806) (hll : l.length ≤ 9223372036854775806) : Ev (fun k => f_spec_FaultyFall k b l c) (r_FaultyFall b l c) := by
  refine Ev.succ ?_
  simp only [f_spec_FaultyFall]
  refine Ev.bind (e_spec_faHas b l c hl hll) ?_
  unfold r_FaultyFall
  cases h : faHasOf b l c with
  | false => simp only [Bool.not_false, if_true, Bool.false_eq_true, if_false]; exact Ev.some _
  | true =>
    simp only [Bool.not_true, Bool.false_eq_true, if_false, if_true]
    exact Ev.bind (e_spec_faRun b l c h) (Ev.some _)
theorem e_impl_FaultyFall (b : BoardD) (l : List FaultD) (c : Int) (hl : b.2.2.length ≤ 9223372036854775806) (hll : l.length ≤ 9223372036854775806) : Ev (fun k => f_impl_FaultyFall k b l c) (r_FaultyFall b l c) := by
  refine Ev.succ ?_
  simp only [f_impl_FaultyFall]
  refine Ev.bind (e_impl_validEntry b c hl) ?_
  unfold r_FaultyFall
  have hd : faHasOf b l c = ((boardOK b && decide (0 ≤ c ∧ c < b.2.1)) && (decide (l.length ≤ 4) && faultsOK b (-1) l)) := rfl
  cases h1 : (boardOK b && decide (0 ≤ c ∧ c < b.2.1)) with
  | false =>
    rw [h1, Bool.false_and] at hd
    rw [hd]
    simp only [Bool.not_false, if_true, Bool.false_eq_true, if_false]
    exact Ev.some _
  | true =>
    have hb : boardOK b = true := (Bool.and_eq_true _ _ ▸ h1 : _ ∧ _).1
    simp only [Bool.not_true, Bool.false_eq_true, if_false]
    refine Ev.bind (e_impl_areFaults b hb l hll) ?_
    rw [h1, Bool.true_and] at hd
    rw [← hd]
    cases h2 : faHasOf b l c with
    | false => simp only [Bool.not_false, if_true, Bool.false_eq_true, if_false]; exact Ev.some _
    | true =>
      simp only [Bool.not_true, Bool.false_eq_true, if_false, if_true]
      exact e_impl_run b l c h2 (f := fun z2 z5 _ => some ((z5.1.1, z5.1.2.1, z5.1.2.2), true)) (Ev.some _)
theorem law_FnExactFaultyFall (p0 : BoardD) (p1 : List FaultD) (p2 : Int) (h0 : p0.2.2.length ≤ 9223372036854775807) (h1 : p1.length ≤ 9223372036854775807) : Ev (fun k => f_laws_FnExactFaultyFall k p0 p1 p2) true := by
  refine Ev.succ ?_
  simp only [f_laws_FnExactFaultyFall]
  refine Ev.bind (e_laws_szBoard _ _ (by first | omega | (dsimp only; omega)) (by first | omega | (dsimp only; omega)) (by first | omega | (dsimp only; omega))) ?_
  by_cases q1 : (1048576 : Int) - (p0.2.2.length : Int) < 0
  · simp only [q1, if_true]; exact Ev.some _
  simp only [q1, if_false, decide_false, Bool.false_eq_true]
  refine Ev.bind (e_laws_szFaultS _ _ (by first | omega | (dsimp only; omega)) (by first | omega | (dsimp only; omega)) (by first | omega | (dsimp only; omega))) ?_
  by_cases q2 : (1048576 : Int) - (p0.2.2.length : Int) - (p1.length : Int) < 0
  · simp only [q2, if_true]; exact Ev.some _
  simp only [q2, if_false, decide_false, Bool.false_eq_true]
  have es := e_spec_FaultyFall p0 p1 p2 (by omega) (by omega)
  have ei := e_impl_FaultyFall p0 p1 p2 (by omega) (by omega)
  generalize r_FaultyFall p0 p1 p2 = R at es ei
  refine Ev.bind (e_laws_toBoard _ (by first | omega | (dsimp only; omega))) ?_
  refine Ev.bind (e_laws_toFaultS _ (by first | omega | (dsimp only; omega))) ?_
  refine Ev.bind es ?_
  refine Ev.bind (e_laws_toBoard _ (by first | omega | (dsimp only; omega))) ?_
  refine Ev.bind (e_laws_toFaultS _ (by first | omega | (dsimp only; omega))) ?_
  refine Ev.bind ei ?_
  refine Ev.bind (e_laws_eqFall _ _) ?_
  simp only [decide_true, beq_self_eq_true, ne_eq, not_true_eq_false, decide_false, Bool.not_true, Bool.false_eq_true, if_false]
  refine Ev.bind (e_laws_toBoard _ (by first | omega | (dsimp only; omega))) ?_
  refine Ev.bind (e_laws_eqBoard _ _ (by first | omega | (dsimp only; omega))) ?_
  simp only [decide_true, beq_self_eq_true, ne_eq, not_true_eq_false, decide_false, Bool.not_true, Bool.false_eq_true, if_false]
  refine Ev.bind (e_laws_toFaultS _ (by first | omega | (dsimp only; omega))) ?_
  refine Ev.bind (e_laws_eqFaultS _ _ (by first | omega | (dsimp only; omega))) ?_
  simp only [decide_true, beq_self_eq_true, ne_eq, not_true_eq_false, decide_false, Bool.not_true, Bool.false_eq_true, if_false]
  exact Ev.some _
theorem e_spec_FaultyBoard (b : BoardD) (l : List FaultD) (c : Int) (hl : b.2.2.length ≤ 9223372036854775806) (hll : l.length ≤ 9223372036854775806) : Ev (fun k => f_spec_FaultyBoard k b l c) (r_FaultyBoard b l c) := by
  refine Ev.succ ?_
  simp only [f_spec_FaultyBoard]
  refine Ev.bind (e_spec_faHas b l c hl hll) ?_
  unfold r_FaultyBoard
  cases h : faHasOf b l c with
  | false => simp only [Bool.not_false, if_true, Bool.false_eq_true, if_false]; exact Ev.some _
  | true =>
    simp only [Bool.not_true, Bool.false_eq_true, if_false, if_true]
    exact Ev.bind (e_spec_faRun b l c h) (Ev.some _)
theorem e_impl_FaultyBoard (b : BoardD) (l : List FaultD) (c : Int) (hl : b.2.2.length ≤ 9223372036854775806) (hll : l.length ≤ 9223372036854775806) : Ev (fun k => f_impl_FaultyBoard k b l c) (r_FaultyBoard b l c) := by
  refine Ev.succ ?_
  simp only [f_impl_FaultyBoard]
  refine Ev.bind (e_impl_validEntry b c hl) ?_
  unfold r_FaultyBoard
  have hd : faHasOf b l c = ((boardOK b && decide (0 ≤ c ∧ c < b.2.1)) && (decide (l.length ≤ 4) && faultsOK b (-1) l)) := rfl
  cases h1 : (boardOK b && decide (0 ≤ c ∧ c < b.2.1)) with
  | false =>
    rw [h1, Bool.false_and] at hd
    rw [hd]
    simp only [Bool.not_false, if_true, Bool.false_eq_true, if_false]
    exact Ev.some _
  | true =>
    have hb : boardOK b = true := (Bool.and_eq_true _ _ ▸ h1 : _ ∧ _).1
    simp only [Bool.not_true, Bool.false_eq_true, if_false]
    refine Ev.bind (e_impl_areFaults b hb l hll) ?_
    rw [h1, Bool.true_and] at hd
    rw [← hd]
    cases h2 : faHasOf b l c with
    | false => simp only [Bool.not_false, if_true, Bool.false_eq_true, if_false]; exact Ev.some _
    | true =>
      simp only [Bool.not_true, Bool.false_eq_true, if_false, if_true]
      exact e_impl_run b l c h2 (f := fun z2 z5 _ => some ((z2.1, z2.2.1, z5.2), true)) (Ev.some _)
theorem fallL_len (b : BoardD) (G K : List Int) : ∀ (n : Nat) (row col side : Int) (o : List CellD), (fallEnd b (fallL b G K n row col side o)).2.length = o.length
  | 0, _, _, _, _ => rfl
  | n + 1, row, col, side, o => by
    unfold fallL
    dsimp only
    repeat' split
    all_goals first | rfl | (rw [fallL_len]; exact stepAt_len _ _ _ _) | exact stepAt_len _ _ _ _
theorem fallOf_len (b : BoardD) (G K : List Int) (c : Int) (o : List CellD) : (fallOf b G K c o).2.length = o.length := fallL_len b G K _ _ _ _ o
theorem r_FaultyBoard_len (b : BoardD) (l : List FaultD) (c : Int) : (r_FaultyBoard b l c).1.2.2.length ≤ b.2.2.length := by
  unfold r_FaultyBoard
  split
  · exact Nat.le_of_eq (fallOf_len _ _ _ _ _)
  · simp
theorem law_FnExactFaultyBoard (p0 : BoardD) (p1 : List FaultD) (p2 : Int) (h0 : p0.2.2.length ≤ 9223372036854775807) (h1 : p1.length ≤ 9223372036854775807) : Ev (fun k => f_laws_FnExactFaultyBoard k p0 p1 p2) true := by
  refine Ev.succ ?_
  simp only [f_laws_FnExactFaultyBoard]
  refine Ev.bind (e_laws_szBoard _ _ (by first | omega | (dsimp only; omega)) (by first | omega | (dsimp only; omega)) (by first | omega | (dsimp only; omega))) ?_
  by_cases q1 : (1048576 : Int) - (p0.2.2.length : Int) < 0
  · simp only [q1, if_true]; exact Ev.some _
  simp only [q1, if_false, decide_false, Bool.false_eq_true]
  refine Ev.bind (e_laws_szFaultS _ _ (by first | omega | (dsimp only; omega)) (by first | omega | (dsimp only; omega)) (by first | omega | (dsimp only; omega))) ?_
  by_cases q2 : (1048576 : Int) - (p0.2.2.length : Int) - (p1.length : Int) < 0
  · simp only [q2, if_true]; exact Ev.some _
  simp only [q2, if_false, decide_false, Bool.false_eq_true]
  have es := e_spec_FaultyBoard p0 p1 p2 (by omega) (by omega)
  have ei := e_impl_FaultyBoard p0 p1 p2 (by omega) (by omega)
  have hr := r_FaultyBoard_len p0 p1 p2
  generalize r_FaultyBoard p0 p1 p2 = R at es ei hr
  refine Ev.bind (e_laws_toBoard _ (by first | omega | (dsimp only; omega))) ?_
  refine Ev.bind (e_laws_toFaultS _ (by first | omega | (dsimp only; omega))) ?_
  refine Ev.bind es ?_
  refine Ev.bind (e_laws_toBoard _ (by first | omega | (dsimp only; omega))) ?_
  refine Ev.bind (e_laws_toFaultS _ (by first | omega | (dsimp only; omega))) ?_
  refine Ev.bind ei ?_
  refine Ev.bind (e_laws_eqBoard _ _ (by first | omega | (dsimp only; omega))) ?_
  simp only [decide_true, beq_self_eq_true, ne_eq, not_true_eq_false, decide_false, Bool.not_true, Bool.false_eq_true, if_false]
  refine Ev.bind (e_laws_toBoard _ (by first | omega | (dsimp only; omega))) ?_
  refine Ev.bind (e_laws_eqBoard _ _ (by first | omega | (dsimp only; omega))) ?_
  simp only [decide_true, beq_self_eq_true, ne_eq, not_true_eq_false, decide_false, Bool.not_true, Bool.false_eq_true, if_false]
  refine Ev.bind (e_laws_toFaultS _ (by first | omega | (dsimp only; omega))) ?_
  refine Ev.bind (e_laws_eqFaultS _ _ (by first | omega | (dsimp only; omega))) ?_
  simp only [decide_true, beq_self_eq_true, ne_eq, not_true_eq_false, decide_false, Bool.not_true, Bool.false_eq_true, if_false]
  refine Ev.bind (e_laws_markBoard _ _ (by first | omega | (dsimp only; omega)) (by first | omega | (dsimp only; omega))) ?_
  try dsimp only
  refine Ev.bind (e_laws_markFaultS _ _ (by first | omega | (dsimp only; omega)) (by first | omega | (dsimp only; omega))) ?_
  try dsimp only
  refine Ev.ite (fun h => by simp only [decide_eq_true_eq] at h; omega) (fun h => ?_)
  refine Ev.bind (e_laws_eqBoard _ _ (by first | omega | (dsimp only; omega))) ?_
  simp only [decide_true, beq_self_eq_true, ne_eq, not_true_eq_false, decide_false, Bool.not_true, Bool.false_eq_true, if_false]
  refine Ev.bind (e_laws_markBoard _ _ (by first | omega | (dsimp only; omega)) (by first | omega | (dsimp only; omega))) ?_
  try dsimp only
  refine Ev.bind (e_laws_heldBoard _ _ _ _ (by first | omega | (dsimp only; omega)) (by first | omega | (dsimp only; omega))) ?_
  try dsimp only
  refine Ev.ite (fun h => by simp only [decide_eq_true_eq] at h; omega) (fun h => ?_)
  simp only [decide_true, beq_self_eq_true, ne_eq, not_true_eq_false, decide_false, Bool.not_true, Bool.false_eq_true, if_false]
  refine Ev.bind (e_laws_toBoard _ (by first | omega | (dsimp only; omega))) ?_
  refine Ev.bind (e_laws_toFaultS _ (by first | omega | (dsimp only; omega))) ?_
  refine Ev.bind ei ?_
  refine Ev.bind (e_laws_eqBoard _ _ (by first | omega | (dsimp only; omega))) ?_
  simp only [decide_true, beq_self_eq_true, ne_eq, not_true_eq_false, decide_false, Bool.not_true, Bool.false_eq_true, if_false]
  refine Ev.bind (e_laws_heldBoard _ _ _ _ (by first | omega | (dsimp only; omega)) (by first | omega | (dsimp only; omega))) ?_
  try dsimp only
  refine Ev.ite (fun h => by simp only [decide_eq_true_eq] at h; omega) (fun h => ?_)
  simp only [decide_true, beq_self_eq_true, ne_eq, not_true_eq_false, decide_false, Bool.not_true, Bool.false_eq_true, if_false]
  exact Ev.some _
end Go.Proofs.Ytkefbmaagdaodaa.Vs
