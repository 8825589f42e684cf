/- Marbles one after the other, with faults and without. -/
import Derived.Test.YtgpmbmnfcbippaaqqflVsFF
set_option linter.unusedVariables false
set_option linter.unusedSimpArgs false
namespace Go.Proofs.Ytgpmbmnfcbippaa.Vs
open Go.RowKit
/-! ### What marbles leave as it is -/
theorem stepAt_parts (G K : List Int) (at' : Nat) (o : List CellD) : (stepAt G K at' o).map Prod.fst = o.map Prod.fst := by
  unfold stepAt turnAt
  split
  · apply List.ext_getElem?
    intro i
    simp only [List.getElem?_map, turnGo_at]
    cases o[i]? with
    | none => rfl
    | some x =>
      simp only [Option.map_some]
      split <;> simp [flip1]
  · rfl
theorem fallL_keeps (b : BoardD) (G K : List Int) : ∀ (n : Nat) (row col side : Int) (o : List CellD), (∀ x ∈ o, cellOK x = true) → (∀ x ∈ (fallEnd b (fallL b G K n row col side o)).2, cellOK x = true) ∧ (fallEnd b (fallL b G K n row col side o)).2.map Prod.fst = o.map Prod.fst
  | 0, _, _, _, o, hx => ⟨hx, rfl⟩
  | n + 1, row, col, side, o, hx => by
    have h1 := fallL_keeps b G K n (row + 1)
    unfold fallL
    dsimp only
    have h2 := stepAt_ok G K (at' := (row * b.2.1 + col).toNat) hx
    have h3 := stepAt_parts G K (row * b.2.1 + col).toNat o
    repeat' split
    all_goals first | exact ⟨hx, rfl⟩ | exact ⟨h2, h3⟩ | exact ⟨(h1 _ _ _ h2).1, (h1 _ _ _ h2).2.trans h3⟩
theorem fallOf_cells (b : BoardD) (G K : List Int) (c : Int) {o : List CellD} (hx : ∀ x ∈ o, cellOK x = true) : ∀ x ∈ (fallOf b G K c o).2, cellOK x = true := (fallL_keeps b G K _ _ _ _ o hx).1
theorem fallOf_parts (b : BoardD) (G K : List Int) (c : Int) {o : List CellD} (hx : ∀ x ∈ o, cellOK x = true) : (fallOf b G K c o).2.map Prod.fst = o.map Prod.fst := (fallL_keeps b G K _ _ _ _ o hx).2
theorem fallL_dims {b b' : BoardD} (h : b.2.1 = b'.2.1) (G K : List Int) : ∀ (n : Nat) (row col side : Int) (o : List CellD), fallL b G K n row col side o = fallL b' G K n row col side o
  | 0, _, _, _, _ => rfl
  | n + 1, row, col, side, o => by simp only [fallL, h, fallL_dims h G K n]
theorem fallOf_dims {b b' : BoardD} (h1 : b.1 = b'.1) (h2 : b.2.1 = b'.2.1) (G K : List Int) (c : Int) (o : List CellD) : fallOf b G K c o = fallOf b' G K c o := by
  have : fallEnd b = fallEnd b' := by funext z; cases z <;> simp [fallEnd, h1]
  unfold fallOf
  rw [this, fallL_dims h2, h1]
theorem kindsB_dims {b b' : BoardD} (h : b.2.1 = b'.2.1) (hl : b.2.2.length = b'.2.2.length) (l : List FaultD) : kindsB b l = kindsB b' l := by simp only [kindsB, kindsOf, placeOf, h, hl]
theorem fits_part {x y : CellD} (h : x.1 = y.1) (k : Int) : fits x k = fits y k := by unfold fits turning; rw [h]
theorem getD_part {o o' : List CellD} (h : o.map Prod.fst = o'.map Prod.fst) (i : Nat) : (List.getD o i (0, 0)).1 = (List.getD o' i (0, 0)).1 := by
  have := congrArg (fun l => l[i]?) h
  simp only [List.getElem?_map] at this
  simp only [List.getD]
  cases h1 : o[i]? <;> cases h2 : o'[i]? <;> simp [h1, h2] at this ⊢
  exact this
theorem faultsOK_dims {b b' : BoardD} (h1 : b.1 = b'.1) (h2 : b.2.1 = b'.2.1) (h : b.2.2.map Prod.fst = b'.2.2.map Prod.fst) : ∀ (l : List FaultD) (last : Int), faultsOK b last l = faultsOK b' last l
  | [], _ => rfl
  | x :: r, last => by
    simp only [faultsOK, h1, h2, faultsOK_dims h1 h2 h r]
    rw [fits_part (getD_part h _)]
theorem board_on {b : BoardD} (hb : boardOK b = true) {o : List CellD} (ho : o.length = b.2.2.length) (hx : ∀ x ∈ o, cellOK x = true) : boardOK (b.1, b.2.1, o) = true := by
  obtain ⟨g1, g2, g3, g4, g5, g6⟩ := board_ok hb
  unfold boardOK
  have : (o.length : Int) = b.1 * b.2.1 := by omega
  simp only [g1, g2, g3, g4, this, and_self, decide_true, Bool.true_and]
  exact List.all_eq_true.2 hx
/-! ### One after the other -/
def runsOf (b : BoardD) (G K : List Int) : List Int → List CellD → List FallD × List CellD
  | [], o => ([], o)
  | c :: r, o => ((fallOf b G K c o).1 :: (runsOf b G K r (fallOf b G K c o).2).1, (runsOf b G K r (fallOf b G K c o).2).2)
theorem runsOf_len (b : BoardD) (G K : List Int) : ∀ (l : List Int) (o : List CellD), (runsOf b G K l o).1.length = l.length
  | [], _ => rfl
  | c :: r, o => by simp [runsOf, runsOf_len b G K r]
def colsOK (b : BoardD) (l : List Int) : Prop := ∀ c ∈ l, 0 ≤ c ∧ c < b.2.1
theorem e_spec_faAll_0 (b : BoardD) (hb : boardOK b = true) (G : List Int) (hG : G.length = b.2.2.length) (l : List FaultD) (hl : faultsOK b (-1) l = true) (hll : l.length ≤ 9223372036854775806) (d1 d2 : Int) (d3 : List CellD) : ∀ (r pre : List Int) (o : List CellD) (w : List FallD), colsOK b r → (pre ++ r).length ≤ 1000 → w.length = pre.length → o.length = b.2.2.length → (∀ x ∈ o, cellOK x = true) → o.map Prod.fst = b.2.2.map Prod.fst →
    Ev (fun k => f_spec_faAll_0 k d1 d2 d3 b.1 b.2.1 o G w l (pre ++ r) ((pre ++ r).length : Int) (pre.length : Int)) (d1, d2, d3, b.1, b.2.1, (runsOf b G (kindsB b l) r o).2, w ++ (runsOf b G (kindsB b l) r o).1)
  | [], pre, o, w, hc, hl1, hw, ho, hx, hp => by
    refine Ev.succ ?_
    simp only [f_spec_faAll_0, nlt_end, decide_false, Bool.false_eq_true, if_false]
    simp only [runsOf, List.append_nil]
    exact Ev.some _
  | c :: r, pre, o, w, hc, hl1, hw, ho, hx, hp => by
    obtain ⟨k1, k2⟩ := hc c (List.mem_cons_self ..)
    have hb' := board_on hb ho hx
    have hg := e_spec_faGo (b.1, b.2.1, o) hb' G (hG.trans ho.symm) l (by rw [faultsOK_dims (b := (b.1, b.2.1, o)) (b' := b) rfl rfl hp]; exact hl) hll c k1 k2
    rw [fallOf_dims (b := (b.1, b.2.1, o)) (b' := b) rfl rfl, kindsB_dims (b := (b.1, b.2.1, o)) (b' := b) rfl ho] at hg
    have hlw : w.length + 1 ≤ 140737488355328 / 24 := by simp at hl1; omega
    refine Ev.succ ?_
    simp only [f_spec_faAll_0, lt_mid, ge_mid, decide_true, if_true, Int.toNat_natCast, getD_mid]
    refine Ev.bind hg ?_
    simp only [List.length_singleton, hlw, if_true]
    rw [next_mid pre c r (by omega)]
    have ih := e_spec_faAll_0 b hb G hG l hl hll d1 d2 d3 r (pre ++ [c]) (fallOf b G (kindsB b l) c o).2 (w ++ [(fallOf b G (kindsB b l) c o).1]) (fun y hy => hc y (List.mem_cons_of_mem _ hy)) (by simpa using hl1) (by simp [hw]) ((fallL_len b G _ _ _ _ _ o).trans ho) (fallOf_cells _ _ _ _ hx) ((fallOf_parts _ _ _ _ hx).trans hp)
    rw [← shift_mid] at ih
    refine ih.congr ?_
    simp [runsOf]
theorem e_spec_faAll (b : BoardD) (hb : boardOK b = true) (l : List FaultD) (hl : faultsOK b (-1) l = true) (hll : l.length ≤ 9223372036854775806) (t : List Int) (ht : t.length ≤ 1000) (hc : colsOK b t) : Ev (fun k => f_spec_faAll k b l t) ((runsOf b (groupsOf b) (kindsB b l) t b.2.2).1, b.1, b.2.1, (runsOf b (groupsOf b) (kindsB b l) t b.2.2).2) := by
  obtain ⟨g1, g2, g3, g4, g5, g6⟩ := board_ok hb
  have hpp := prod_small g1 g2 g3 g4
  refine Ev.succ ?_
  simp only [f_spec_faAll]
  have h0 : Ev (fun k => f_spec_faAll_g1 k b.1 b.2.1 b.2.2 0 0 [] l t) (0, 0, [], b.1, b.2.1, b.2.2, groupsOf b, l, t) := by
    simp only [f_spec_faAll_g1]
    exact Ev.bind (e_spec_boOwn b (by omega)) (Ev.bind (e_spec_ggGroups b hb) (Ev.some _))
  refine Ev.bind h0 ?_
  refine Ev.bind (e_spec_faAll_0 b hb (groupsOf b) (groupsOf_len b) l hl hll 0 0 [] t [] b.2.2 [] hc (by simpa using ht) rfl rfl g6 rfl) ?_
  exact Ev.some _
theorem e_impl_faultyDrops_0 (b : BoardD) (hb : boardOK b = true) (G K : List Int) (hG : G.length = b.2.2.length) (hK : K.length = b.2.2.length) (d1 d2 : Int) (d3 : List CellD) : ∀ (r pre : List Int) (o : List CellD) (w : List FallD), colsOK b r → (pre ++ r).length ≤ 1000 → w.length = pre.length → o.length = b.2.2.length → (∀ x ∈ o, cellOK x = true) →
    Ev (fun k => f_impl_faultyDrops_0 k d1 d2 d3 b.1 b.2.1 o G K w (pre ++ r) ((pre ++ r).length : Int) (pre.length : Int)) (d1, d2, d3, b.1, b.2.1, (runsOf b G K r o).2, w ++ (runsOf b G K r o).1)
  | [], pre, o, w, hc, hl1, hw, ho, hx => by
    refine Ev.succ ?_
    simp only [f_impl_faultyDrops_0, nlt_end, decide_false, Bool.false_eq_true, if_false]
    simp only [runsOf, List.append_nil]
    exact Ev.some _
  | c :: r, pre, o, w, hc, hl1, hw, ho, hx => by
    obtain ⟨k1, k2⟩ := hc c (List.mem_cons_self ..)
    have hg := e_impl_faultyDrop b hb G K hG hK c k1 k2 o ho hx
    have hlw : w.length + 1 ≤ 140737488355328 / 24 := by simp at hl1; omega
    refine Ev.succ ?_
    simp only [f_impl_faultyDrops_0, lt_mid, ge_mid, decide_true, if_true, Int.toNat_natCast, getD_mid]
    refine Ev.bind hg ?_
    simp only [List.length_singleton, hlw, if_true]
    rw [next_mid pre c r (by omega)]
    have ih := e_impl_faultyDrops_0 b hb G K hG hK d1 d2 d3 r (pre ++ [c]) (fallOf b G K c o).2 (w ++ [(fallOf b G K c o).1]) (fun y hy => hc y (List.mem_cons_of_mem _ hy)) (by simpa using hl1) (by simp [hw]) ((fallL_len b G _ _ _ _ _ o).trans ho) (fallOf_cells _ _ _ _ hx)
    rw [← shift_mid] at ih
    refine ih.congr ?_
    simp [runsOf]
theorem e_impl_faultyDrops (b : BoardD) (hb : boardOK b = true) (l : List FaultD) (hl : faultsOK b (-1) l = true) (hll : l.length ≤ 9223372036854775806) (t : List Int) (ht : t.length ≤ 1000) (hc : colsOK b t) : Ev (fun k => f_impl_faultyDrops k b l t) ((runsOf b (groupsOf b) (kindsB b l) t b.2.2).1, b.1, b.2.1, (runsOf b (groupsOf b) (kindsB b l) t b.2.2).2) := by
  obtain ⟨g1, g2, g3, g4, g5, g6⟩ := board_ok hb
  have hpp := prod_small g1 g2 g3 g4
  refine Ev.succ ?_
  simp only [f_impl_faultyDrops]
  refine Ev.bind (e_impl_copyBoard b (by omega)) (Ev.bind (e_impl_groupNumbers b hb) (Ev.bind (e_impl_faultsByCell b hb l hl hll) ?_))
  refine Ev.bind (e_impl_faultyDrops_0 b hb (groupsOf b) (kindsB b l) (groupsOf_len b) (kindsB_len b l) 0 0 [] t [] b.2.2 [] hc (by simpa using ht) rfl rfl g6) ?_
  exact Ev.some _
/-! ### Without faults -/
theorem kinds_none (b : BoardD) (i : Nat) : List.getD (kindsB b []) i 0 = 0 := by
  show List.getD (List.replicate b.2.2.length (0 : Int)) i 0 = 0
  simp only [List.getD, List.getElem?_replicate]
  split <;> rfl
theorem pass_step {b : BoardD} (hb : boardOK b = true) (G : List Int) {at' : Nat} {o : List CellD} (ho : o.length = b.2.2.length) (ha : at' < o.length) : passAt G at' o = stepAt G (kindsB b []) at' o :=
  restore_pass (l := []) hb rfl G ho ha (fun i _ h => by rw [kinds_none] at h; cases h)
theorem e_spec_flGo_0 (b : BoardD) (hb : boardOK b = true) (G : List Int) (hG : G.length = b.2.2.length) (d1 d2 d3 d4 d5 : Int) (o4 : List CellD) : ∀ (n : Nat) (row col side : Int) (o : List CellD) (q : List (List Int)), row + n = b.1 → 0 ≤ row → 0 ≤ col → col < b.2.1 → -1 ≤ side → side ≤ 1 → o.length = b.2.2.length → (∀ x ∈ o, cellOK x = true) → (q.length : Int) = row →
    ∃ p, Ev (fun k => f_spec_flGo_0 k b.1 b.2.1 b.2.2 d1 d2 d3 d4 d5 o4 b.1 b.2.1 o q G col side row) ((fallL b G (kindsB b []) n row col side o).map2 (fun z => (b.1, b.2.1, b.2.2, d1, d2, d3, d4, d5, o4, b.1, b.2.1, z.2, p, z.1)) (fun r => (r.1, (b.1, b.2.1, r.2), p)))
  | 0, row, col, side, o, q, hn, hr, hc, hc2, hs, hs2, ho, hx, hq => by
    refine ⟨q, Ev.succ ?_⟩
    have : ¬ row < b.1 := by omega
    simp only [f_spec_flGo_0, this, decide_false, Bool.false_eq_true, if_false, fallL, LR.map2]
    exact Ev.some _
  | n + 1, row, col, side, o, q, hn, hr, hc, hc2, hs, hs2, ho, hx, hq => by
    obtain ⟨g1, g2, g3, g4, g5, g6⟩ := board_ok hb
    have hpp := prod_small g1 g2 g3 g4
    have hrow : row < b.1 := by omega
    have hp := place_ok hb hr hrow hc hc2
    have hoI : row * b.2.1 + col < (o.length : Int) := by omega
    have hcast : ((row * b.2.1 + col).toNat : Int) = row * b.2.1 + col := Int.toNat_of_nonneg hp.1
    have hxo := hx _ (cell_in hp.1 hoI (0, 0))
    have hgo := goesOf_in hxo hs hs2
    have hpass := e_spec_flPass b.1 b.2.1 o G (row * b.2.1 + col).toNat (by omega) (by omega) (by omega) hx
    rw [hcast, pass_step hb G ho (by omega)] at hpass
    have hql : q.length + 1 ≤ 140737488355328 / 24 := by omega
    have hk2 : ¬ (0 : Int) = 2 := by omega
    have hk3 : ¬ (0 : Int) = 3 := by omega
    generalize hX : List.getD o (row * b.2.1 + col).toNat (0, 0) = X at *
    have start : ∀ {v : List (List Int) → LR (Int × Int × List CellD × Int × Int × Int × Int × Int × List CellD × Int × Int × List CellD × List (List Int) × Int) (FallD × BoardD × List (List Int))}, (∃ p, Ev (fun k => if decide (X.1 = 5) = true then Option.bind (f_spec_flGo_g10 k d1 d2 d3 d4 d5 o4 b.1 b.2.1 o (q ++ [[row, col]]) col row) fun z2 => some (LR.ret ((z2.1, z2.2.1, z2.2.2.1), (z2.2.2.2.1, z2.2.2.2.2.1, z2.2.2.2.2.2.1), z2.2.2.2.2.2.2))
        else Option.bind (f_spec_paGoes k X side) fun z3 => Option.bind (f_spec_flPass k (b.1, b.2.1, o) G (row * b.2.1 + col)) fun z4 => Option.bind (f_spec_l1In k (wrap64 (col + z3)) (0 : Int) (b.2.1 - 1)) fun z5 => if (!z5) = true then Option.bind (f_spec_flGo_g16 k d1 d2 d3 d4 d5 o4 b.1 b.2.1 z4 (q ++ [[row, col]]) (wrap64 (col + z3)) row) fun z6 => some (LR.ret ((z6.1, z6.2.1, z6.2.2.1), (z6.2.2.2.1, z6.2.2.2.2.1, z6.2.2.2.2.2.1), z6.2.2.2.2.2.2)) else f_spec_flGo_0 k b.1 b.2.1 b.2.2 d1 d2 d3 d4 d5 o4 b.1 b.2.1 z4 (q ++ [[row, col]]) G (wrap64 (col + z3)) (wrap64 ((0 : Int) - z3)) (wrap64 (row + (1 : Int)))) (v p)) →
        ∃ p, Ev (fun k => f_spec_flGo_0 k b.1 b.2.1 b.2.2 d1 d2 d3 d4 d5 o4 b.1 b.2.1 o q G col side row) (v p) := by
      rintro v ⟨p, h⟩
      refine ⟨p, Ev.succ ?_⟩
      simp only [f_spec_flGo_0, hrow, decide_true, if_true, List.length_singleton, hql]
      rw [w64 (n := row * b.2.1) (by omega) (by omega), w64 (n := row * b.2.1 + col) (by omega) (by omega), w64 (n := b.2.1 - 1) (by omega) (by omega)]
      have := e_spec_boAt_on b hb o ho hr hrow hc hc2
      rw [hX] at this
      exact Ev.bind this h
    refine start ?_
    simp only [fallL, hX, kinds_none, hk2, hk3, if_false]
    by_cases h5 : X.1 = 5
    · refine ⟨q ++ [[row, col]], ?_⟩
      simp only [h5, decide_true, if_true, f_spec_flGo_g10]
      exact Ev.bind (Ev.some _) (Ev.some _)
    simp only [h5, decide_false, Bool.false_eq_true, if_false]
    generalize hgg : goesOf X side = g at *
    have hgo' := e_spec_paGoes X side hxo hs hs2
    rw [hgg] at hgo'
    by_cases hin : 0 ≤ col + g ∧ col + g < b.2.1
    · rw [if_pos hin]
      obtain ⟨p, ih⟩ := e_spec_flGo_0 b hb G hG d1 d2 d3 d4 d5 o4 n (row + 1) (col + g) (0 - g) (stepAt G (kindsB b []) (row * b.2.1 + col).toNat o) (q ++ [[row, col]]) (by omega) (by omega) (by omega) (by omega) (by omega) (by omega) (by rw [stepAt_len]; exact ho) (stepAt_ok G _ hx) (by simp; omega)
      refine ⟨p, Ev.bind hgo' (Ev.bind hpass ?_)⟩
      rw [w64 (n := col + g) (by omega) (by omega), w64 (n := 0 - g) (by omega) (by omega), w64 (n := row + 1) (by omega) (by omega)]
      refine Ev.bind (e_spec_l1In _ _ _) (Ev.ite (fun hh => ?_) (fun hh => ih))
      have hh : ¬ (0 ≤ col + g ∧ col + g ≤ b.2.1 - 1) := nd hh
      omega
    · rw [if_neg hin]
      refine ⟨q ++ [[row, col]], Ev.bind hgo' (Ev.bind hpass ?_)⟩
      rw [w64 (n := col + g) (by omega) (by omega)]
      refine Ev.bind (e_spec_l1In _ _ _) (Ev.ite (fun hh => ?_) (fun hh => ?_))
      · simp only [f_spec_flGo_g16]
        exact Ev.bind (Ev.some _) (Ev.some _)
      · have hh : 0 ≤ col + g ∧ col + g ≤ b.2.1 - 1 := yd hh
        omega
theorem e_spec_flGo (b : BoardD) (hb : boardOK b = true) (G : List Int) (hG : G.length = b.2.2.length) (col : Int) (hc : 0 ≤ col) (hc2 : col < b.2.1) : ∃ p, Ev (fun k => f_spec_flGo k b G col) ((fallOf b G (kindsB b []) col b.2.2).1, (b.1, b.2.1, (fallOf b G (kindsB b []) col b.2.2).2), p) := by
  obtain ⟨g1, g2, g3, g4, g5, g6⟩ := board_ok hb
  have hpp := prod_small g1 g2 g3 g4
  obtain ⟨p, h⟩ := e_spec_flGo_0 b hb G hG 0 0 0 0 0 [] b.1.toNat 0 col 0 b.2.2 [] (by omega) (by omega) hc hc2 (by omega) (by omega) rfl g6 rfl
  refine ⟨p, Ev.succ ?_⟩
  simp only [f_spec_flGo]
  refine Ev.bind (e_spec_boOwn b (by omega)) (Ev.bind h ?_)
  unfold fallOf
  cases fallL b G (kindsB b []) b.1.toNat 0 col 0 b.2.2 with
  | go z =>
    refine Ev.go ?_
    simp only [f_spec_flGo_g17]
    exact Ev.bind (Ev.some _) (Ev.some _)
  | ret r => exact Ev.ret (Ev.some _)
theorem e_impl_turnGroup_0 (R C : Int) (G : List Int) (at' : Nat) : ∀ (r pre : List CellD), (pre ++ r).length ≤ 1000 → at' < (pre ++ r).length → G.length = (pre ++ r).length → (∀ x ∈ r, cellOK x = true) →
    Ev (fun k => f_impl_turnGroup_0 k (pre ++ r) R C G (at' : Int) ((pre ++ r).length : Int) (pre.length : Int)) (pre ++ passGo G (List.getD G at' 0) pre.length r)
  | [], pre, hl, ha, hG, hx => by
    refine Ev.succ ?_
    simp only [f_impl_turnGroup_0, nlt_end, decide_false, Bool.false_eq_true, if_false, passGo]
    exact Ev.some _
  | x :: r, pre, hl, ha, hG, hx => by
    have hn := next_mid pre x r (by omega)
    have hlt := lt_mid pre x r
    have hGl : (pre.length : Int) < (G.length : Int) := by rw [hG]; exact hlt
    have ha0 : (0 : Int) ≤ (at' : Int) := Int.natCast_nonneg _
    have ha1 : (at' : Int) < ((pre ++ x :: r).length : Int) := by omega
    have haG : (at' : Int) < (G.length : Int) := by rw [hG]; exact ha1
    obtain ⟨c1, c2, c3⟩ := cell_two (hx x (List.mem_cons_self ..))
    have hr' : ∀ y ∈ r, cellOK y = true := fun y hy => hx y (List.mem_cons_of_mem _ hy)
    have next : ∀ y : CellD, Ev (fun k => f_impl_turnGroup_0 k (pre ++ y :: r) R C G (at' : Int) ((pre ++ x :: r).length : Int) ((pre ++ [x]).length : Int)) (pre ++ y :: passGo G (List.getD G at' 0) (pre.length + 1) r) := by
      intro y
      have ih := e_impl_turnGroup_0 R C G at' r (pre ++ [y]) (by simpa using hl) (by simpa using ha) (by simpa using hG) hr'
      have e1 : ((pre ++ [y] ++ r).length : Int) = ((pre ++ x :: r).length : Int) := by simp
      have e2 : ((pre ++ [y]).length : Int) = ((pre ++ [x]).length : Int) := by simp
      have e3 : (pre ++ [y]).length = pre.length + 1 := by simp
      rw [e1, e2, e3, ← shift_mid, ← shift_mid] at ih
      exact ih
    refine Ev.succ ?_
    simp only [f_impl_turnGroup_0, lt_mid, ge_mid, decide_true, if_true, Int.toNat_natCast, getD_mid, set_mid, hn, hGl, ha0, haG]
    rw [w64 (n := 1 - x.2) (by omega) (by omega)]
    simp only [passGo]
    refine Ev.ite (fun h1 => Ev.ite (fun h2 => ?_) (fun h2 => ?_)) (fun h1 => ?_)
    · simp only [decide_eq_true_eq] at h1 h2
      rw [if_pos ⟨h1, h2⟩]
      exact next (flip1 x)
    · simp only [decide_eq_true_eq] at h2
      rw [if_neg (fun hc => h2 hc.2)]
      exact next x
    · simp only [decide_eq_true_eq] at h1
      rw [if_neg (fun hc => h1 hc.1)]
      exact next x
theorem e_impl_turnGroup (R C : Int) (o : List CellD) (G : List Int) (at' : Nat) (hl : o.length ≤ 1000) (ha : at' < o.length) (hG : G.length = o.length) (hx : ∀ x ∈ o, cellOK x = true) : Ev (fun k => f_impl_turnGroup k (R, C, o) G (at' : Int)) (passGo G (List.getD G at' 0) 0 o) := by
  refine Ev.succ ?_
  simp only [f_impl_turnGroup]
  exact Ev.bind (e_impl_turnGroup_0 R C G at' o [] hl ha hG hx) (Ev.some _)
theorem e_impl_drop_0 (b : BoardD) (hb : boardOK b = true) (G : List Int) (hG : G.length = b.2.2.length) (c0 c1 c2 : Int) : ∀ (n : Nat) (row col side : Int) (o : List CellD) (q : List Int), row + n = b.1 → 0 ≤ row → 0 ≤ col → col < b.2.1 → -1 ≤ side → side ≤ 1 → o.length = b.2.2.length → (∀ x ∈ o, cellOK x = true) → (q.length : Int) = row →
    ∃ p, Ev (fun k => f_impl_drop_0 k o b.1 b.2.1 c0 c1 c2 q G col side row) ((fallL b G (kindsB b []) n row col side o).map2 (fun z => (z.2, b.1, b.2.1, c0, c1, c2, p, z.1)) (fun r => (r.1, p, r.2)))
  | 0, row, col, side, o, q, hn, hr, hc, hc2, hs, hs2, ho, hx, hq => by
    refine ⟨q, Ev.succ ?_⟩
    have : ¬ row < b.1 := by omega
    simp only [f_impl_drop_0, this, decide_false, Bool.false_eq_true, if_false, fallL, LR.map2]
    exact Ev.some _
  | n + 1, row, col, side, o, q, hn, hr, hc, hc2, hs, hs2, ho, hx, hq => by
    obtain ⟨g1, g2, g3, g4, g5, g6⟩ := board_ok hb
    have hpp := prod_small g1 g2 g3 g4
    have hrow : row < b.1 := by omega
    have hp := place_ok hb hr hrow hc hc2
    have hoI : row * b.2.1 + col < (o.length : Int) := by omega
    have hcast : ((row * b.2.1 + col).toNat : Int) = row * b.2.1 + col := Int.toNat_of_nonneg hp.1
    have hxo := hx _ (cell_in hp.1 hoI (0, 0))
    have hgo := goesOf_in hxo hs hs2
    have hgt := e_impl_GoesTo (List.getD o (row * b.2.1 + col).toNat (0, 0)) side hxo hs hs2
    have hturn := e_impl_turnGroup b.1 b.2.1 o G (row * b.2.1 + col).toNat (by omega) (by omega) (by omega) hx
    rw [hcast] at hturn
    have hpass := pass_step hb G ho (show (row * b.2.1 + col).toNat < o.length by omega)
    unfold passAt at hpass
    have hql : q.length + 1 ≤ 140737488355328 / 8 := by omega
    have hk2 : ¬ (0 : Int) = 2 := by omega
    have hk3 : ¬ (0 : Int) = 3 := by omega
    obtain ⟨cc1, cc2, cc3⟩ := cell_two hxo
    simp only [fallL, kinds_none, hk2, hk3, if_false]
    generalize hS : stepAt G (kindsB b []) (row * b.2.1 + col).toNat o = S at *
    have hSl : S.length = b.2.2.length := by rw [← hS, stepAt_len]; exact ho
    have hSx : ∀ x ∈ S, cellOK x = true := by rw [← hS]; exact stepAt_ok G _ hx
    generalize hX : List.getD o (row * b.2.1 + col).toNat (0, 0) = X at *
    by_cases h5 : X.1 = 5
    · refine ⟨q ++ [row * b.2.1 + col], Ev.succ ?_⟩
      simp only [f_impl_drop_0, hrow, decide_true, if_true, List.length_singleton, hql]
      rw [w64 (n := row * b.2.1) (by omega) (by omega), w64 (n := row * b.2.1 + col) (by omega) (by omega)]
      simp only [hp.1, hoI, if_true, hX]
      refine Ev.bind hgt ?_
      simp only [h5, if_true, Bool.not_false]
      exact Ev.some _
    simp only [h5, if_false] at hgt ⊢
    generalize goesOf X side = g at *
    have tail : ∃ p, ∀ o', o' = S → Ev (fun k => if decide (wrap64 (col + g) < 0) = true then some (LR.ret ((3, row, wrap64 (col + g)), q ++ [row * b.2.1 + col], o')) else if decide (wrap64 (col + g) ≥ b.2.1) = true then some (LR.ret ((3, row, wrap64 (col + g)), q ++ [row * b.2.1 + col], o')) else f_impl_drop_0 k o' b.1 b.2.1 c0 c1 c2 (q ++ [row * b.2.1 + col]) G (wrap64 (col + g)) (wrap64 (0 - g)) (wrap64 (row + 1)))
        (LR.map2 (fun z => (z.2, b.1, b.2.1, c0, c1, c2, p, z.1)) (fun r => (r.1, p, r.2)) (if 0 ≤ col + g ∧ col + g < b.2.1 then fallL b G (kindsB b []) n (row + 1) (col + g) (0 - g) S else .ret ((3, row, col + g), S))) := by
      rw [w64 (n := col + g) (by omega) (by omega), w64 (n := 0 - g) (by omega) (by omega), w64 (n := row + 1) (by omega) (by omega)]
      by_cases hin : 0 ≤ col + g ∧ col + g < b.2.1
      · obtain ⟨p, ih⟩ := e_impl_drop_0 b hb G hG c0 c1 c2 n (row + 1) (col + g) (0 - g) S (q ++ [row * b.2.1 + col]) (by omega) (by omega) (by omega) (by omega) (by omega) (by omega) hSl hSx (by simp; omega)
        refine ⟨p, fun o' ho' => ?_⟩
        subst ho'
        rw [if_pos hin]
        refine Ev.ite (fun h => ?_) (fun _ => Ev.ite (fun h => ?_) (fun _ => ih))
        · simp only [decide_eq_true_eq] at h; omega
        · simp only [decide_eq_true_eq] at h; omega
      · refine ⟨q ++ [row * b.2.1 + col], fun o' ho' => ?_⟩
        subst ho'
        rw [if_neg hin]
        refine Ev.ite (fun _ => Ev.some _) (fun h => Ev.ite (fun _ => Ev.some _) (fun h2 => ?_))
        simp only [decide_eq_true_eq] at h h2
        omega
    obtain ⟨p, tail⟩ := tail
    refine ⟨p, Ev.succ ?_⟩
    simp only [f_impl_drop_0, hrow, decide_true, if_true, List.length_singleton, hql]
    rw [w64 (n := row * b.2.1) (by omega) (by omega), w64 (n := row * b.2.1 + col) (by omega) (by omega)]
    simp only [hp.1, hoI, if_true, hX]
    rw [w64 (n := 1 - X.2) (by omega) (by omega)]
    refine Ev.bind hgt ?_
    simp only [Bool.not_true, Bool.false_eq_true, if_false]
    by_cases h3 : X.1 = 3
    · have h36 : ¬ (3 : Int) = 6 := by omega
      simp only [h3, decide_true, if_true, h36, decide_false, Bool.false_eq_true, if_false]
      rw [if_pos h3] at hpass
      refine tail _ ?_
      rw [← hpass]
      simp [flip1, h3]
    · simp only [h3, decide_false, Bool.false_eq_true, if_false]
      rw [if_neg h3] at hpass
      by_cases h6 : X.1 = 6
      · simp only [h6, decide_true, if_true]
        rw [if_pos h6] at hpass
        exact Ev.bind hturn (tail _ hpass)
      · simp only [h6, decide_false, Bool.false_eq_true, if_false]
        rw [if_neg h6] at hpass
        exact tail _ hpass
theorem e_impl_drop (b : BoardD) (hb : boardOK b = true) (G : List Int) (hG : G.length = b.2.2.length) (col : Int) (hc : 0 ≤ col) (hc2 : col < b.2.1) (o : List CellD) (ho : o.length = b.2.2.length) (hx : ∀ x ∈ o, cellOK x = true) : ∃ p, Ev (fun k => f_impl_drop k (b.1, b.2.1, o) G col) ((fallOf b G (kindsB b []) col o).1, p, (fallOf b G (kindsB b []) col o).2) := by
  obtain ⟨g1, g2, g3, g4, g5, g6⟩ := board_ok hb
  obtain ⟨p, h⟩ := e_impl_drop_0 b hb G hG 0 0 0 b.1.toNat 0 col 0 o [] (by omega) (by omega) hc hc2 (by omega) (by omega) ho hx rfl
  refine ⟨p, Ev.succ ?_⟩
  simp only [f_impl_drop]
  refine Ev.bind h ?_
  unfold fallOf
  cases fallL b G (kindsB b []) b.1.toNat 0 col 0 o with
  | go z => exact Ev.go (Ev.some _)
  | ret r => exact Ev.ret (Ev.some _)
theorem e_spec_flAll_0 (b : BoardD) (hb : boardOK b = true) (G : List Int) (hG : G.length = b.2.2.length) (d1 d2 : Int) (d3 : List CellD) : ∀ (r pre : List Int) (o : List CellD) (w : List FallD), colsOK b r → (pre ++ r).length ≤ 1000 → w.length = pre.length → o.length = b.2.2.length → (∀ x ∈ o, cellOK x = true) →
    Ev (fun k => f_spec_flAll_0 k d1 d2 d3 b.1 b.2.1 o G w (pre ++ r) ((pre ++ r).length : Int) (pre.length : Int)) (d1, d2, d3, b.1, b.2.1, (runsOf b G (kindsB b []) r o).2, w ++ (runsOf b G (kindsB b []) r o).1)
  | [], pre, o, w, hc, hl1, hw, ho, hx => by
    refine Ev.succ ?_
    simp only [f_spec_flAll_0, nlt_end, decide_false, Bool.false_eq_true, if_false]
    simp only [runsOf, List.append_nil]
    exact Ev.some _
  | c :: r, pre, o, w, hc, hl1, hw, ho, hx => by
    obtain ⟨k1, k2⟩ := hc c (List.mem_cons_self ..)
    have hb' := board_on hb ho hx
    obtain ⟨p, hg⟩ := e_spec_flGo (b.1, b.2.1, o) hb' G (hG.trans ho.symm) c k1 k2
    rw [fallOf_dims (b := (b.1, b.2.1, o)) (b' := b) rfl rfl, kindsB_dims (b := (b.1, b.2.1, o)) (b' := b) rfl ho] at hg
    have hlw : w.length + 1 ≤ 140737488355328 / 24 := by simp at hl1; omega
    refine Ev.succ ?_
    simp only [f_spec_flAll_0, lt_mid, ge_mid, decide_true, if_true, Int.toNat_natCast, getD_mid]
    refine Ev.bind hg ?_
    simp only [List.length_singleton, hlw, if_true]
    rw [next_mid pre c r (by omega)]
    have ih := e_spec_flAll_0 b hb G hG d1 d2 d3 r (pre ++ [c]) (fallOf b G (kindsB b []) c o).2 (w ++ [(fallOf b G (kindsB b []) c o).1]) (fun y hy => hc y (List.mem_cons_of_mem _ hy)) (by simpa using hl1) (by simp [hw]) ((fallL_len b G _ _ _ _ _ o).trans ho) (fallOf_cells _ _ _ _ hx)
    rw [← shift_mid] at ih
    refine ih.congr ?_
    simp [runsOf]
theorem e_spec_flAll (b : BoardD) (hb : boardOK b = true) (t : List Int) (ht : t.length ≤ 1000) (hc : colsOK b t) : Ev (fun k => f_spec_flAll k b t) ((runsOf b (groupsOf b) (kindsB b []) t b.2.2).1, b.1, b.2.1, (runsOf b (groupsOf b) (kindsB b []) t b.2.2).2) := by
  obtain ⟨g1, g2, g3, g4, g5, g6⟩ := board_ok hb
  have hpp := prod_small g1 g2 g3 g4
  refine Ev.succ ?_
  simp only [f_spec_flAll]
  have h0 : Ev (fun k => f_spec_flAll_g1 k b.1 b.2.1 b.2.2 0 0 [] t) (0, 0, [], b.1, b.2.1, b.2.2, groupsOf b, t) := by
    simp only [f_spec_flAll_g1]
    exact Ev.bind (e_spec_boOwn b (by omega)) (Ev.bind (e_spec_ggGroups b hb) (Ev.some _))
  refine Ev.bind h0 ?_
  refine Ev.bind (e_spec_flAll_0 b hb (groupsOf b) (groupsOf_len b) 0 0 [] t [] b.2.2 [] hc (by simpa using ht) rfl rfl g6) ?_
  exact Ev.some _
theorem e_impl_dropAll_0 (b : BoardD) (hb : boardOK b = true) (G : List Int) (hG : G.length = b.2.2.length) (d1 d2 : Int) (d3 : List CellD) : ∀ (r pre : List Int) (o : List CellD) (w : List FallD), colsOK b r → (pre ++ r).length ≤ 1000 → w.length = pre.length → o.length = b.2.2.length → (∀ x ∈ o, cellOK x = true) →
    Ev (fun k => f_impl_dropAll_0 k d1 d2 d3 b.1 b.2.1 o G w (pre ++ r) ((pre ++ r).length : Int) (pre.length : Int)) (d1, d2, d3, b.1, b.2.1, (runsOf b G (kindsB b []) r o).2, w ++ (runsOf b G (kindsB b []) r o).1)
  | [], pre, o, w, hc, hl1, hw, ho, hx => by
    refine Ev.succ ?_
    simp only [f_impl_dropAll_0, nlt_end, decide_false, Bool.false_eq_true, if_false]
    simp only [runsOf, List.append_nil]
    exact Ev.some _
  | c :: r, pre, o, w, hc, hl1, hw, ho, hx => by
    obtain ⟨k1, k2⟩ := hc c (List.mem_cons_self ..)
    obtain ⟨p, hg⟩ := e_impl_drop b hb G hG c k1 k2 o ho hx
    have hlw : w.length + 1 ≤ 140737488355328 / 24 := by simp at hl1; omega
    refine Ev.succ ?_
    simp only [f_impl_dropAll_0, lt_mid, ge_mid, decide_true, if_true, Int.toNat_natCast, getD_mid]
    refine Ev.bind hg ?_
    simp only [List.length_singleton, hlw, if_true]
    rw [next_mid pre c r (by omega)]
    have ih := e_impl_dropAll_0 b hb G hG d1 d2 d3 r (pre ++ [c]) (fallOf b G (kindsB b []) c o).2 (w ++ [(fallOf b G (kindsB b []) c o).1]) (fun y hy => hc y (List.mem_cons_of_mem _ hy)) (by simpa using hl1) (by simp [hw]) ((fallL_len b G _ _ _ _ _ o).trans ho) (fallOf_cells _ _ _ _ hx)
    rw [← shift_mid] at ih
    refine ih.congr ?_
    simp [runsOf]
theorem e_impl_dropAll (b : BoardD) (hb : boardOK b = true) (t : List Int) (ht : t.length ≤ 1000) (hc : colsOK b t) : Ev (fun k => f_impl_dropAll k b t) ((runsOf b (groupsOf b) (kindsB b []) t b.2.2).1, b.1, b.2.1, (runsOf b (groupsOf b) (kindsB b []) t b.2.2).2) := by
  obtain ⟨g1, g2, g3, g4, g5, g6⟩ := board_ok hb
  have hpp := prod_small g1 g2 g3 g4
  refine Ev.succ ?_
  simp only [f_impl_dropAll]
  refine Ev.bind (e_impl_copyBoard b (by omega)) (Ev.bind (e_impl_groupNumbers b hb) ?_)
  refine Ev.bind (e_impl_dropAll_0 b hb (groupsOf b) (groupsOf_len b) 0 0 [] t [] b.2.2 [] hc (by simpa using ht) rfl rfl g6) ?_
  exact Ev.some _
end Go.Proofs.Ytgpmbmnfcbippaa.Vs
