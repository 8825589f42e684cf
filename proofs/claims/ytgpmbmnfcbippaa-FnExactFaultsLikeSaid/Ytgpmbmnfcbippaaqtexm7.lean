/- The proof, part 8. -/
import Derived.Test.Ytgpmbmnfcbippaaqtexm6
set_option linter.unusedVariables false
set_option linter.unusedSimpArgs false
namespace Go.Proofs.Ytgpmbmnfcbippaa.Vs
open Go.RowKit
abbrev FallD := Int × Int × Int
/-- Where a marble goes from a cell. -/
def goesOf (x : CellD) (side : Int) : Int := if x.1 = 1 then -1 else if x.1 = 2 then 1 else if x.1 = 3 then 2 * x.2 - 1 else if x.1 = 6 then 2 * x.2 - 1 else if x.1 = 4 then 0 - side else 0
theorem goesOf_in {x : CellD} (hx : cellOK x = true) {side : Int} (h1 : -1 ≤ side) (h2 : side ≤ 1) : -1 ≤ goesOf x side ∧ goesOf x side ≤ 1 := by
  obtain ⟨c1, c2, c3⟩ := cell_two hx
  unfold goesOf
  repeat' split
  all_goals omega
theorem e_impl_GoesTo (x : CellD) (side : Int) (hx : cellOK x = true) (h1 : -1 ≤ side) (h2 : side ≤ 1) : Ev (fun k => f_impl_GoesTo k x side) (if x.1 = 5 then (0, false) else (goesOf x side, true)) := by
  obtain ⟨c1, c2, c3⟩ := cell_two hx
  have n1 : ¬ side < -1 := by omega
  have n2 : ¬ side > 1 := by omega
  refine Ev.succ ?_
  simp only [f_impl_GoesTo]
  refine Ev.bind (e_impl_IsCell x) ?_
  simp only [hx, Bool.not_true, Bool.false_eq_true, if_false, n1, n2, decide_false]
  rw [w64 (n := 2 * x.2) (by omega) (by omega), w64 (n := 2 * x.2 - 1) (by omega) (by omega), w64 (n := 0 - side) (by omega) (by omega)]
  refine Ev.of ?_
  unfold goesOf
  by_cases a5 : x.1 = 5
  · simp [a5]
  · by_cases a1 : x.1 = 1 <;> by_cases a2 : x.1 = 2 <;> by_cases a3 : x.1 = 3 <;> by_cases a6 : x.1 = 6 <;> by_cases a4 : x.1 = 4 <;> simp [a1, a2, a3, a4, a5, a6]
theorem e_spec_paGoes (x : CellD) (side : Int) (hx : cellOK x = true) (h1 : -1 ≤ side) (h2 : side ≤ 1) : Ev (fun k => f_spec_paGoes k x side) (goesOf x side) := by
  obtain ⟨c1, c2, c3⟩ := cell_two hx
  refine Ev.succ ?_
  simp only [f_spec_paGoes]
  rw [w64 (n := 2 * x.2) (by omega) (by omega), w64 (n := 2 * x.2 - 1) (by omega) (by omega), w64 (n := 0 - side) (by omega) (by omega)]
  refine Ev.of ?_
  unfold goesOf
  by_cases a1 : x.1 = 1 <;> by_cases a2 : x.1 = 2 <;> by_cases a3 : x.1 = 3 <;> by_cases a6 : x.1 = 6 <;> by_cases a4 : x.1 = 4 <;> simp [a1, a2, a3, a4, a6]
theorem flip1_ok {x : CellD} (hx : cellOK x = true) (h : x.1 = 3 ∨ x.1 = 6) : cellOK (flip1 x) = true := by
  obtain ⟨c1, c2, c3⟩ := cell_two hx
  unfold cellOK flip1
  simp only [decide_eq_true_eq]
  omega
theorem mem_at {α : Type} {l : List α} {x : α} (h : x ∈ l) : ∃ i : Nat, l[i]? = some x := List.getElem?_of_mem h
theorem stepAt_len (G K : List Int) (at' : Nat) (o : List CellD) : (stepAt G K at' o).length = o.length := by
  unfold stepAt turnAt
  split
  · exact turnGo_len _ _ _ _ _ _
  · rfl
theorem stepAt_ok (G K : List Int) {at' : Nat} {o : List CellD} (hx : ∀ x ∈ o, cellOK x = true) : ∀ x ∈ stepAt G K at' o, cellOK x = true := by
  unfold stepAt turnAt
  split
  · rename_i ht
    unfold turning at ht
    simp only [decide_eq_true_eq] at ht
    intro y hy
    obtain ⟨i, hi⟩ := mem_at hy
    rw [turnGo_at] at hi
    obtain ⟨x, h1, h2⟩ := Option.map_eq_some_iff.1 hi
    have hxo := hx x (List.mem_of_getElem? h1)
    split at h2
    · rename_i hc
      rw [← h2]
      refine flip1_ok hxo ?_
      rcases hc.1 with h | ⟨_, h, _⟩
      · rw [Nat.zero_add] at h
        subst h
        simpa [List.getD, h1] using ht
      · exact .inr h
    · rw [← h2]; exact hxo
  · exact hx
theorem stepAt_stuck (G K : List Int) {at' i : Nat} {o : List CellD} (hk : List.getD K i 0 = 1) : (stepAt G K at' o)[i]? = o[i]? := by
  unfold stepAt turnAt
  split
  · rw [turnGo_at, Nat.zero_add]
    cases h : o[i]? with
    | none => rfl
    | some x => rw [Option.map_some, if_neg (fun hc => hc.2 hk)]
  · rfl
/-- A marble's way, row by row: it comes to the bottom, or it stops before. -/
def fallL (b : BoardD) (G K : List Int) : Nat → Int → Int → Int → List CellD → LR (Int × List CellD) (FallD × List CellD)
  | 0, _, col, _, o => .go (col, o)
  | n + 1, row, col, side, o =>
    let at' := (row * b.2.1 + col).toNat
    let x := List.getD o at' (0, 0)
    if List.getD K at' 0 = 2 then .ret ((3, row, col), o)
    else if x.1 = 5 then .ret ((2, row, col), o)
    else
      let g := if List.getD K at' 0 = 3 then 0 - goesOf x side else goesOf x side
      if 0 ≤ col + g ∧ col + g < b.2.1 then fallL b G K n (row + 1) (col + g) (0 - g) (stepAt G K at' o) else .ret ((3, row, col + g), stepAt G K at' o)
def LR.map2 {Z R Z' R' : Type} (f : Z → Z') (g : R → R') : LR Z R → LR Z' R'
  | .go z => .go (f z) | .ret r => .ret (g r)
theorem e_impl_faultyDrop_0 (b : BoardD) (hb : boardOK b = true) (G K : List Int) (hG : G.length = b.2.2.length) (hK : K.length = b.2.2.length) (c0 c1 c2 : Int) : ∀ (n : Nat) (row col side : Int) (o : List CellD), row + n = b.1 → 0 ≤ row → 0 ≤ col → col < b.2.1 → -1 ≤ side → side ≤ 1 → o.length = b.2.2.length → (∀ x ∈ o, cellOK x = true) →
    Ev (fun k => f_impl_faultyDrop_0 k o b.1 b.2.1 c0 c1 c2 G K col side row) ((fallL b G K n row col side o).map2 (fun z => (z.2, b.1, b.2.1, c0, c1, c2, z.1)) id)
  | 0, row, col, side, o, hn, hr, hc, hc2, hs, hs2, ho, hx => by
    refine Ev.succ ?_
    have : ¬ row < b.1 := by omega
    simp only [f_impl_faultyDrop_0, this, decide_false, Bool.false_eq_true, if_false, fallL, LR.map2]
    exact Ev.some _
  | n + 1, row, col, side, o, hn, hr, hc, hc2, hs, hs2, ho, hx => by
    obtain ⟨g1, g2, g3, g4, g5, g6⟩ := board_ok hb
    have hpp := prod_small g1 g2 g3 g4
    have hrow : row < b.1 := by omega
    have hp := place_ok hb hr hrow hc hc2
    have hoI : row * b.2.1 + col < (o.length : Int) := by omega
    have hKI : row * b.2.1 + col < (K.length : Int) := by omega
    have hcast : ((row * b.2.1 + col).toNat : Int) = row * b.2.1 + col := Int.toNat_of_nonneg hp.1
    refine Ev.succ ?_
    simp only [f_impl_faultyDrop_0, fallL]
    rw [w64 (n := row * b.2.1) (by omega) (by omega), w64 (n := row * b.2.1 + col) (by omega) (by omega), w64 (n := row + 1) (by omega) (by omega)]
    simp only [hrow, hp.1, hKI, hoI, decide_true, if_true]
    have hxo := hx _ (cell_in hp.1 hoI (0, 0))
    have hgo := goesOf_in hxo hs hs2
    have ht := e_impl_IsTurning (List.getD o (row * b.2.1 + col).toNat (0, 0))
    rw [hxo, Bool.true_and] at ht
    have hturn := e_impl_turnFaulty b.1 b.2.1 o G K (row * b.2.1 + col).toNat (by omega) (by omega) (by omega) (by omega) hx
    rw [hcast] at hturn
    generalize hX : List.getD o (row * b.2.1 + col).toNat (0, 0) = X at *
    refine Ev.ite (fun h => ?_) (fun h => ?_)
    · simp only [decide_eq_true_eq] at h
      rw [if_pos h]
      exact Ev.some _
    simp only [decide_eq_true_eq] at h
    rw [if_neg h]
    refine Ev.bind (e_impl_GoesTo X side hxo hs hs2) ?_
    by_cases h5 : X.1 = 5
    · simp only [h5, if_true, Bool.not_false]
      exact Ev.some _
    simp only [h5, if_false, Bool.not_true, Bool.false_eq_true]
    have tail : ∀ g : Int, -1 ≤ g → g ≤ 1 → Ev (fun k => Option.bind (f_impl_IsTurning k X) fun z => if z = true then Option.bind (f_impl_turnFaulty k (b.1, b.2.1, o) G K (row * b.2.1 + col)) fun z2 => if decide (wrap64 (col + g) < 0) = true then some (LR.ret ((3, row, wrap64 (col + g)), z2)) else if decide (wrap64 (col + g) ≥ b.2.1) = true then some (LR.ret ((3, row, wrap64 (col + g)), z2)) else f_impl_faultyDrop_0 k z2 b.1 b.2.1 c0 c1 c2 G K (wrap64 (col + g)) (wrap64 (0 - g)) (row + 1)
        else if decide (wrap64 (col + g) < 0) = true then some (LR.ret ((3, row, wrap64 (col + g)), o)) else if decide (wrap64 (col + g) ≥ b.2.1) = true then some (LR.ret ((3, row, wrap64 (col + g)), o)) else f_impl_faultyDrop_0 k o b.1 b.2.1 c0 c1 c2 G K (wrap64 (col + g)) (wrap64 (0 - g)) (row + 1))
        (LR.map2 (fun z => (z.2, b.1, b.2.1, c0, c1, c2, z.1)) id (if 0 ≤ col + g ∧ col + g < b.2.1 then fallL b G K n (row + 1) (col + g) (0 - g) (stepAt G K (row * b.2.1 + col).toNat o) else .ret ((3, row, col + g), stepAt G K (row * b.2.1 + col).toNat o))) := by
      intro g hg hg2
      rw [w64 (n := col + g) (by omega) (by omega), w64 (n := 0 - g) (by omega) (by omega)]
      have last : ∀ o' : List CellD, o' = stepAt G K (row * b.2.1 + col).toNat o → Ev (fun k => if decide (col + g < 0) = true then some (LR.ret ((3, row, col + g), o')) else if decide (col + g ≥ b.2.1) = true then some (LR.ret ((3, row, col + g), o')) else f_impl_faultyDrop_0 k o' b.1 b.2.1 c0 c1 c2 G K (col + g) (0 - g) (row + 1))
          (LR.map2 (fun z => (z.2, b.1, b.2.1, c0, c1, c2, z.1)) id (if 0 ≤ col + g ∧ col + g < b.2.1 then fallL b G K n (row + 1) (col + g) (0 - g) (stepAt G K (row * b.2.1 + col).toNat o) else .ret ((3, row, col + g), stepAt G K (row * b.2.1 + col).toNat o))) := by
        intro o' ho'
        refine Ev.ite (fun q => ?_) (fun q => Ev.ite (fun q2 => ?_) (fun q2 => ?_))
        · simp only [decide_eq_true_eq] at q
          rw [if_neg (by omega), ho']
          exact Ev.some _
        · simp only [decide_eq_true_eq] at q2
          rw [if_neg (by omega), ho']
          exact Ev.some _
        · simp only [decide_eq_true_eq] at q q2
          rw [if_pos (by omega), ho']
          exact e_impl_faultyDrop_0 b hb G K hG hK c0 c1 c2 n (row + 1) (col + g) (0 - g) _ (by omega) (by omega) (by omega) (by omega) (by omega) (by omega) (by rw [stepAt_len]; exact ho) (stepAt_ok G K hx)
      refine Ev.bind ht ?_
      have hstep : stepAt G K (row * b.2.1 + col).toNat o = if turning X then turnAt G K (row * b.2.1 + col).toNat o else o := by unfold stepAt; rw [hX]
      cases htx : turning X with
      | true =>
        simp only [if_true]
        exact Ev.bind hturn (last _ (by rw [hstep, htx]; rfl))
      | false =>
        simp only [Bool.false_eq_true, if_false]
        exact last _ (by rw [hstep, htx]; rfl)
    refine Ev.ite (fun h3 => ?_) (fun h3 => ?_)
    · simp only [decide_eq_true_eq] at h3
      simp only [h3, if_true]
      rw [w64 (n := 0 - goesOf X side) (by omega) (by omega)]
      exact tail _ (by omega) (by omega)
    · simp only [decide_eq_true_eq] at h3
      simp only [h3, if_false]
      exact tail _ hgo.1 hgo.2
/-- A marble's end, and the cells behind it. -/
def fallEnd (b : BoardD) (z : LR (Int × List CellD) (FallD × List CellD)) : FallD × List CellD := match z with
  | .go z => ((1, b.1, z.1), z.2)
  | .ret r => r
def fallOf (b : BoardD) (G K : List Int) (col : Int) (o : List CellD) : FallD × List CellD := fallEnd b (fallL b G K b.1.toNat 0 col 0 o)
theorem e_impl_faultyDrop (b : BoardD) (hb : boardOK b = true) (G K : List Int) (hG : G.length = b.2.2.length) (hK : K.length = b.2.2.length) (col : Int) (hc : 0 ≤ col) (hc2 : col < b.2.1) (o : List CellD) (ho : o.length = b.2.2.length) (hx : ∀ x ∈ o, cellOK x = true) : Ev (fun k => f_impl_faultyDrop k (b.1, b.2.1, o) G K col) (fallOf b G K col o) := by
  obtain ⟨g1, g2, g3, g4, g5, g6⟩ := board_ok hb
  refine Ev.succ ?_
  simp only [f_impl_faultyDrop]
  refine Ev.bind (e_impl_faultyDrop_0 b hb G K hG hK 0 0 0 b.1.toNat 0 col 0 o (by omega) (by omega) hc hc2 (by omega) (by omega) ho hx) ?_
  unfold fallOf
  cases fallL b G K b.1.toNat 0 col 0 o with
  | go z => exact Ev.go (Ev.some _)
  | ret r => exact Ev.ret (Ev.some _)
theorem e_spec_faGo_2 (b : BoardD) (hb : boardOK b = true) (d1 d2 d3 d4 d5 : Int) (o4 : List CellD) (e1 e2 : Int) (v1 : List Int) (v2 : List FaultD) (v3 v12 v15 : Int) : ∀ (r pre : List FaultD) (o : List CellD), (∀ f ∈ r, 0 ≤ f.2.1 ∧ f.2.1 < b.1 ∧ 0 ≤ f.2.2 ∧ f.2.2 < b.2.1) → (pre ++ r).length ≤ 9223372036854775806 → o.length = b.2.2.length →
    Ev (fun k => f_spec_faGo_2 k b.1 b.2.1 b.2.2 d1 d2 d3 d4 d5 o4 e1 e2 o v1 v2 v3 v12 v15 (pre ++ r) ((pre ++ r).length : Int) (pre.length : Int)) (b.1, b.2.1, b.2.2, d1, d2, d3, d4, d5, o4, e1, e2, restore b r o, v1, v2, v3, v12, v15)
  | [], pre, o, hr, hl, ho => by
    refine Ev.succ ?_
    simp only [f_spec_faGo_2, nlt_end, decide_false, Bool.false_eq_true, if_false]
    exact Ev.some _
  | f :: r, pre, o, hr, hl, ho => by
    obtain ⟨k1, k2, k3, k4⟩ := hr f (List.mem_cons_self ..)
    have hp := place_ok hb k1 k2 k3 k4
    have hpo : f.2.1 * b.2.1 + f.2.2 < (o.length : Int) := by omega
    have hr' : ∀ g ∈ r, 0 ≤ g.2.1 ∧ g.2.1 < b.1 ∧ 0 ≤ g.2.2 ∧ g.2.2 < b.2.1 := fun g hg => hr g (List.mem_cons_of_mem _ hg)
    have ih := fun (o' : List CellD) (ho' : o'.length = b.2.2.length) => e_spec_faGo_2 b hb d1 d2 d3 d4 d5 o4 e1 e2 v1 v2 v3 v12 v15 r (pre ++ [f]) o' hr' (by simpa using hl) ho'
    simp only [← shift_mid] at ih
    have hrest : restore b (f :: r) o = restore b r (if f.1 = 1 then List.set o (placeOf b f).toNat (List.getD b.2.2 (placeOf b f).toNat (0, 0)) else o) := rfl
    rw [hrest]
    refine Ev.succ ?_
    simp only [f_spec_faGo_2, lt_mid, ge_mid, decide_true, if_true, Int.toNat_natCast, getD_mid]
    rw [next_mid pre f r (by omega), w64 (n := f.2.1 * b.2.1) (by omega) (by omega), w64 (n := f.2.1 * b.2.1 + f.2.2) (by omega) (by omega)]
    simp only [hp.1, hp.2.1, hpo, if_true]
    refine Ev.ite (fun h => ?_) (fun h => ?_)
    · simp only [decide_eq_true_eq] at h
      rw [if_pos h]
      exact ih _ (by rw [List.length_set]; exact ho)
    · simp only [decide_eq_true_eq] at h
      rw [if_neg h]
      exact ih _ ho
theorem e_spec_boOwn (b : BoardD) (h : b.2.2.length ≤ 1000000) : Ev (fun k => f_spec_boOwn k b) b := by
  refine Ev.succ ?_
  simp only [f_spec_boOwn, f_spec_boOwn_g1]
  have : 0 + b.2.2.length ≤ 140737488355328 / 16 := by omega
  simp only [this, if_true]
  exact Ev.some _
theorem e_impl_copyBoard (b : BoardD) (h : b.2.2.length ≤ 1000000) : Ev (fun k => f_impl_copyBoard k b) b := by
  refine Ev.succ ?_
  simp only [f_impl_copyBoard, f_impl_copyBoard_g1]
  have : 0 + b.2.2.length ≤ 140737488355328 / 16 := by omega
  simp only [this, if_true]
  exact Ev.some _
/-- The cells of a board lie where the board with other cells has its places. -/
theorem e_spec_boAt_on (b : BoardD) (hb : boardOK b = true) (o : List CellD) (ho : o.length = b.2.2.length) {r c : Int} (h1 : 0 ≤ r) (h2 : r < b.1) (h3 : 0 ≤ c) (h4 : c < b.2.1) : Ev (fun k => f_spec_boAt k (b.1, b.2.1, o) r c) (List.getD o (r * b.2.1 + c).toNat (0, 0)) := by
  have hp := place_ok hb h1 h2 h3 h4
  have hpo : r * b.2.1 + c < (o.length : Int) := by omega
  refine Ev.succ ?_
  simp only [f_spec_boAt]
  rw [w64 (n := r * b.2.1) (by omega) (by omega), w64 (n := r * b.2.1 + c) (by omega) (by omega)]
  simp only [hp.1, hpo, if_true]
  exact Ev.some _
theorem e_spec_faGo_0 (b : BoardD) (hb : boardOK b = true) (G : List Int) (hG : G.length = b.2.2.length) (l : List FaultD) (hl : faultsOK b (-1) l = true) (hll : l.length ≤ 9223372036854775806) (d1 d2 d3 d4 d5 : Int) (o4 : List CellD) : ∀ (n : Nat) (row col side : Int) (o : List CellD), row + n = b.1 → 0 ≤ row → 0 ≤ col → col < b.2.1 → -1 ≤ side → side ≤ 1 → o.length = b.2.2.length → (∀ x ∈ o, cellOK x = true) → (∀ i, i < o.length → List.getD (kindsB b l) i 0 = 1 → o[i]? = some (List.getD b.2.2 i (0, 0))) →
    Ev (fun k => f_spec_faGo_0 k b.1 b.2.1 b.2.2 d1 d2 d3 d4 d5 o4 b.1 b.2.1 o G l col side row) ((fallL b G (kindsB b l) n row col side o).map2 (fun z => (b.1, b.2.1, b.2.2, d1, d2, d3, d4, d5, o4, b.1, b.2.1, z.2, z.1)) (fun r => (r.1, b.1, b.2.1, r.2)))
  | 0, row, col, side, o, hn, hr, hc, hc2, hs, hs2, ho, hx, hst => by
    refine Ev.succ ?_
    have : ¬ row < b.1 := by omega
    simp only [f_spec_faGo_0, this, decide_false, Bool.false_eq_true, if_false, fallL, LR.map2]
    exact Ev.some _
  | n + 1, row, col, side, o, hn, hr, hc, hc2, hs, hs2, ho, hx, hst => by
    obtain ⟨g1, g2, g3, g4, g5, g6⟩ := board_ok hb
    have hpp := prod_small g1 g2 g3 g4
    have hrow : row < b.1 := by omega
    have hp := place_ok hb hr hrow hc hc2
    have hoI : row * b.2.1 + col < (o.length : Int) := by omega
    have hcast : ((row * b.2.1 + col).toNat : Int) = row * b.2.1 + col := Int.toNat_of_nonneg hp.1
    have hK : List.getD (kindsB b l) (row * b.2.1 + col).toNat 0 = faAtD row col 0 l := by
      unfold kindsB
      rw [kindsOf_at hb hr hrow hc hc2 hl (by simp)]
      congr 1
      simp only [List.getD, List.getElem?_replicate]
      split <;> rfl
    have hxo := hx _ (cell_in hp.1 hoI (0, 0))
    have hgo := goesOf_in hxo hs hs2
    have hpass := e_spec_flPass b.1 b.2.1 o G (row * b.2.1 + col).toNat (by omega) (by omega) (by omega) hx
    rw [hcast] at hpass
    have hres := restore_pass hb hl G ho (at' := (row * b.2.1 + col).toNat) (by omega) hst
    have hpl : (passAt G (row * b.2.1 + col).toNat o).length = b.2.2.length := by
      have := congrArg List.length hres
      rw [restore_len, stepAt_len] at this
      omega
    refine Ev.succ ?_
    simp only [f_spec_faGo_0, fallL]
    simp only [hrow, decide_true, if_true]
    refine Ev.bind (e_spec_boAt_on b hb o ho hr hrow hc hc2) ?_
    generalize hX : List.getD o (row * b.2.1 + col).toNat (0, 0) = X at *
    refine Ev.bind (e_spec_faAt l row col hll) ?_
    rw [hK]
    refine Ev.ite (fun h => ?_) (fun h => ?_)
    · simp only [decide_eq_true_eq] at h
      rw [if_pos h]
      simp only [f_spec_faGo_g9]
      exact Ev.bind (Ev.some _) (Ev.some _)
    simp only [decide_eq_true_eq] at h
    rw [if_neg h]
    refine Ev.ite (fun h5 => ?_) (fun h5 => ?_)
    · simp only [decide_eq_true_eq] at h5
      rw [if_pos h5]
      simp only [f_spec_faGo_g11]
      exact Ev.bind (Ev.some _) (Ev.some _)
    simp only [decide_eq_true_eq] at h5
    rw [if_neg h5]
    refine Ev.bind (e_spec_paGoes X side hxo hs hs2) ?_
    have hg : -1 ≤ (if faAtD row col 0 l = 3 then 0 - goesOf X side else goesOf X side) ∧ (if faAtD row col 0 l = 3 then 0 - goesOf X side else goesOf X side) ≤ 1 := by split <;> omega
    have hj : Ev (fun k => f_spec_faGo_j52 k b.1 b.2.1 b.2.2 d1 d2 d3 d4 d5 o4 b.1 b.2.1 o G l col row (goesOf X side) (decide (faAtD row col 0 l = 3))) (b.1, b.2.1, b.2.2, d1, d2, d3, d4, d5, o4, b.1, b.2.1, o, G, l, col, row, if faAtD row col 0 l = 3 then 0 - goesOf X side else goesOf X side) := by
      simp only [f_spec_faGo_j52]
      rw [w64 (n := 0 - goesOf X side) (by omega) (by omega)]
      refine Ev.of ?_
      by_cases h3 : faAtD row col 0 l = 3 <;> simp [h3]
    refine Ev.bind hj ?_
    generalize (if faAtD row col 0 l = 3 then 0 - goesOf X side else goesOf X side) = g at *
    dsimp only
    rw [w64 (n := row * b.2.1) (by omega) (by omega), w64 (n := row * b.2.1 + col) (by omega) (by omega)]
    refine Ev.bind hpass ?_
    refine Ev.bind (e_spec_faGo_2 b hb d1 d2 d3 d4 d5 o4 b.1 b.2.1 G l col row g l [] _ (faults_on hl) (by simpa using hll) hpl) ?_
    rw [hres]
    dsimp only
    rw [w64 (n := col + g) (by omega) (by omega), w64 (n := b.2.1 - 1) (by omega) (by omega), w64 (n := 0 - g) (by omega) (by omega), w64 (n := row + 1) (by omega) (by omega)]
    refine Ev.bind (e_spec_l1In _ _ _) (Ev.ite (fun q => ?_) (fun q => ?_))
    · have q : ¬ (0 ≤ col + g ∧ col + g ≤ b.2.1 - 1) := nd q
      rw [if_neg (by omega)]
      simp only [f_spec_faGo_g26]
      exact Ev.bind (Ev.some _) (Ev.some _)
    · have q : 0 ≤ col + g ∧ col + g ≤ b.2.1 - 1 := yd q
      rw [if_pos (by omega)]
      refine e_spec_faGo_0 b hb G hG l hl hll d1 d2 d3 d4 d5 o4 n (row + 1) (col + g) (0 - g) _ (by omega) (by omega) (by omega) (by omega) (by omega) (by omega) (by rw [stepAt_len]; exact ho) (stepAt_ok G _ hx) (fun i hi hk => ?_)
      rw [stepAt_stuck G _ hk]
      rw [stepAt_len] at hi
      exact hst i hi hk
theorem e_spec_faGo (b : BoardD) (hb : boardOK b = true) (G : List Int) (hG : G.length = b.2.2.length) (l : List FaultD) (hl : faultsOK b (-1) l = true) (hll : l.length ≤ 9223372036854775806) (col : Int) (hc : 0 ≤ col) (hc2 : col < b.2.1) : Ev (fun k => f_spec_faGo k b G l col) ((fallOf b G (kindsB b l) col b.2.2).1, b.1, b.2.1, (fallOf b G (kindsB b l) col b.2.2).2) := by
  obtain ⟨g1, g2, g3, g4, g5, g6⟩ := board_ok hb
  have hpp := prod_small g1 g2 g3 g4
  refine Ev.succ ?_
  simp only [f_spec_faGo]
  refine Ev.bind (e_spec_boOwn b (by omega)) ?_
  refine Ev.bind (e_spec_faGo_0 b hb G hG l hl hll 0 0 0 0 0 [] b.1.toNat 0 col 0 b.2.2 (by omega) (by omega) hc hc2 (by omega) (by omega) rfl g6 (fun i hi _ => by simp [List.getD, List.getElem?_eq_getElem hi])) ?_
  unfold fallOf
  cases fallL b G (kindsB b l) b.1.toNat 0 col 0 b.2.2 with
  | go z =>
    refine Ev.go ?_
    simp only [f_spec_faGo_g27]
    exact Ev.bind (Ev.some _) (Ev.some _)
  | ret r => exact Ev.ret (Ev.some _)
end Go.Proofs.Ytgpmbmnfcbippaa.Vs

set_option linter.unusedVariables false
set_option linter.unusedSimpArgs false
namespace Go.Proofs.Ytgpmbmnfcbippaa.Vs
open Go.RowKit
/-- The marks from k on. -/
def marksCellS : List (Int × Int) → Int → List (Int × Int)
  | [], _ => []
  | _ :: r, k => (k, k + 1) :: marksCellS r (k + 2)
theorem e_laws_markCellS_0 : ∀ (r pre : List (Int × Int)) (c : Int), 0 ≤ c → c + 2 * r.length ≤ 4611686018427387904 → (pre ++ r).length ≤ 4611686018427387904 → Ev (fun k => f_laws_markCellS_0 k (pre ++ r) c (pre.length : Int)) (pre ++ marksCellS r c, c + 2 * r.length)
  | [], pre, c, hc, h, hl => by
    refine Ev.succ ?_
    simp only [f_laws_markCellS_0, nlt_end, decide_false, Bool.false_eq_true, if_false, marksCellS, List.length_nil, Int.natCast_zero, Int.mul_zero, Int.add_zero]
    exact Ev.some _
  | x :: r, pre, c, hc, h, hl => by
    have h' : (c + 2) + 2 * (r.length : Int) = c + 2 * ((x :: r).length : Int) := by simp only [List.length_cons]; omega
    have ih := e_laws_markCellS_0 r (pre ++ [(c, c + 1)]) (c + 2) (by omega) (by omega) (by simpa using hl)
    have hn := next_mid pre x r (by omega)
    have hn2 : ((pre ++ [x]).length : Int) = ((pre ++ [(c, c + 1)]).length : Int) := by simp
    refine Ev.succ ?_
    simp only [f_laws_markCellS_0, lt_mid, ge_mid, decide_true, if_true, Int.toNat_natCast, getD_mid, set_mid, hn]
    simp only [List.length_cons] at h
    rw [w64 (n := c + 1) (by omega) (by omega), w64 (n := c + 1 + 1) (by omega) (by omega)]
    rw [← shift_mid, h'] at ih
    rw [hn2]
    refine Ev.congr (f := _) (by simpa [Int.add_assoc] using ih) ?_
    simp [marksCellS]
theorem e_laws_markCellS (l : List (Int × Int)) (c : Int) (hc : 0 ≤ c) (h : c + 2 * l.length ≤ 4611686018427387904) : Ev (fun k => f_laws_markCellS k l c) (c + 2 * l.length, marksCellS l c) :=
  Ev.succ (Ev.bind (e_laws_markCellS_0 l [] c hc h (by simp; omega)) (Ev.some _))
theorem e_laws_toFall (x : Int × Int × Int) : Ev (fun k => f_laws_toFall k x) x := Ev.succ (Ev.of rfl)
theorem e_laws_eqFall (x y : Int × Int × Int) : Ev (fun k => f_laws_eqFall k x y) (decide (x = y)) := by
  obtain ⟨a0, a1, a2⟩ := x
  obtain ⟨b0, b1, b2⟩ := y
  refine Ev.succ ?_
  simp only [f_laws_eqFall]
  refine Ev.of ?_
  by_cases h0 : a0 = b0 <;> by_cases h1 : a1 = b1 <;> by_cases h2 : a2 = b2 <;> simp [h0, h1, h2]
theorem e_laws_szFallS (l : List (Int × Int × Int)) (n : Int) (h0 : 0 ≤ n) (h1 : n ≤ 1048576) (hl : l.length ≤ 9223372036854775807) : Ev (fun k => f_laws_szFallS k l n) (if n - l.length < 0 then -1 else n - l.length) := by
  refine Ev.succ ?_
  simp only [f_laws_szFallS]
  refine Ev.of ?_
  rw [w64 (by omega) (by omega)]
  by_cases h : n - (l.length : Int) < 0 <;> simp [h]
theorem e_laws_toFallS_0 : ∀ (r pre rest : List (Int × Int × Int)), rest.length = r.length → (pre ++ r).length ≤ 1048576 → Ev (fun k => f_laws_toFallS_0 k (pre ++ rest) (pre ++ r) (pre.length : Int)) (pre ++ r)
  | [], pre, rest, h, hl => by
    obtain rfl : rest = [] := List.eq_nil_of_length_eq_zero h
    refine Ev.succ ?_
    simp only [f_laws_toFallS_0, nlt_end, decide_false, Bool.false_eq_true, if_false]
    exact Ev.some _
  | x :: r, pre, [], h, hl => by simp at h
  | x :: r, pre, y :: rest, h, hl => by
    have ih := e_laws_toFallS_0 r (pre ++ [x]) rest (by simpa using h) (by simpa using hl)
    refine Ev.succ ?_
    simp only [f_laws_toFallS_0, lt_mid, ge_mid, decide_true, if_true, Int.toNat_natCast, getD_mid, set_mid]
    rw [next_mid pre x r (by omega)]
    refine Ev.bind (e_laws_toFall x) ?_
    rw [← shift_mid, ← shift_mid] at ih
    exact ih
theorem e_laws_toFallS (l : List (Int × Int × Int)) (hl : l.length ≤ 1048576) : Ev (fun k => f_laws_toFallS k l) l := by
  refine Ev.succ ?_
  have hm : l.length * 24 ≤ 281474976710656 := by omega
  simp only [f_laws_toFallS, Int.toNat_natCast, hm, if_true]
  exact Ev.bind (e_laws_toFallS_0 l [] (List.replicate l.length (0, 0, 0)) (by simp) (by simpa using hl)) (Ev.some _)
theorem e_laws_eqFallS_0 : ∀ (r s pre : List (Int × Int × Int)) (pre' : List (Int × Int × Int)), s.length = r.length → pre'.length = pre.length → (pre ++ r).length ≤ 9223372036854775806 → Ev (fun k => f_laws_eqFallS_0 k (pre ++ r) (pre' ++ s) (pre.length : Int)) (if r = s then LR.go () else LR.ret false)
  | [], s, pre, pre', h, hp, hl => by
    obtain rfl : s = [] := List.eq_nil_of_length_eq_zero h
    refine Ev.succ ?_
    simp only [f_laws_eqFallS_0, nlt_end, decide_false, Bool.false_eq_true, if_false, if_true]
    exact Ev.some _
  | x :: r, [], pre, pre', h, hp, hl => by simp at h
  | x :: r, y :: s, pre, pre', h, hp, hl => by
    have ih := e_laws_eqFallS_0 r s (pre ++ [x]) (pre' ++ [y]) (by simpa using h) (by simpa using hp) (by simpa using hl)
    have l2 : (pre.length : Int) < ((pre' ++ y :: s).length : Int) := by rw [← hp]; exact lt_mid _ _ _
    have g2 : List.getD (pre' ++ y :: s) pre.length (0, 0, 0) = y := by rw [← hp]; exact getD_mid _ _ _ _
    refine Ev.succ ?_
    simp only [f_laws_eqFallS_0, lt_mid, ge_mid, l2, decide_true, if_true, Int.toNat_natCast, getD_mid, g2]
    rw [next_mid pre x r (by omega)]
    rw [← shift_mid, ← shift_mid] at ih
    refine Ev.bind (e_laws_eqFall x y) ?_
    by_cases hxy : x = y
    · subst hxy
      simp only [decide_true, Bool.not_true, Bool.false_eq_true, if_false]
      refine ih.congr ?_
      by_cases hrs : r = s <;> simp [hrs]
    · simp only [hxy, decide_false, Bool.not_false, if_true]
      refine Ev.of ?_
      rw [if_neg (by intro hc; injection hc with h1 h2; exact hxy h1)]
theorem e_laws_eqFallS (l m : List (Int × Int × Int)) (hl : l.length ≤ 9223372036854775806) : Ev (fun k => f_laws_eqFallS k l m) (decide (l = m)) := by
  refine Ev.succ ?_
  simp only [f_laws_eqFallS]
  by_cases h : l.length = m.length
  · simp only [h, ne_eq, not_true_eq_false, decide_false, Bool.false_eq_true, if_false]
    refine Ev.bind (e_laws_eqFallS_0 l m [] [] h.symm rfl (by simpa using hl)) ?_
    by_cases hlm : l = m
    · rw [if_pos hlm]; simp only [hlm, decide_true]; exact Ev.go (Ev.some _)
    · rw [if_neg hlm]; simp only [hlm, decide_false]; exact Ev.ret (Ev.some _)
  · have h2 : ¬ (l.length : Int) = (m.length : Int) := by omega
    have h3 : ¬ l = m := fun hc => h (by rw [hc])
    simp only [ne_eq, h2, not_false_eq_true, decide_true, if_true, h3, decide_false]
    exact Ev.some _
/-- The marks from k on. -/
def marksFallS : List (Int × Int × Int) → Int → List (Int × Int × Int)
  | [], _ => []
  | _ :: r, k => (k, k + 1, k + 2) :: marksFallS r (k + 3)
theorem e_laws_markFallS_0 : ∀ (r pre : List (Int × Int × Int)) (c : Int), 0 ≤ c → c + 3 * r.length ≤ 4611686018427387904 → (pre ++ r).length ≤ 4611686018427387904 → Ev (fun k => f_laws_markFallS_0 k (pre ++ r) c (pre.length : Int)) (pre ++ marksFallS r c, c + 3 * r.length)
  | [], pre, c, hc, h, hl => by
    refine Ev.succ ?_
    simp only [f_laws_markFallS_0, nlt_end, decide_false, Bool.false_eq_true, if_false, marksFallS, List.length_nil, Int.natCast_zero, Int.mul_zero, Int.add_zero]
    exact Ev.some _
  | x :: r, pre, c, hc, h, hl => by
    have h' : (c + 3) + 3 * (r.length : Int) = c + 3 * ((x :: r).length : Int) := by simp only [List.length_cons]; omega
    have ih := e_laws_markFallS_0 r (pre ++ [(c, c + 1, c + 2)]) (c + 3) (by omega) (by omega) (by simpa using hl)
    have hn := next_mid pre x r (by omega)
    have hn2 : ((pre ++ [x]).length : Int) = ((pre ++ [(c, c + 1, c + 2)]).length : Int) := by simp
    refine Ev.succ ?_
    simp only [f_laws_markFallS_0, lt_mid, ge_mid, decide_true, if_true, Int.toNat_natCast, getD_mid, set_mid, hn]
    simp only [List.length_cons] at h
    rw [w64 (n := c + 1) (by omega) (by omega), w64 (n := c + 1 + 1) (by omega) (by omega), w64 (n := c + 1 + 1 + 1) (by omega) (by omega)]
    rw [← shift_mid, h'] at ih
    rw [hn2]
    refine Ev.congr (f := _) (by simpa [Int.add_assoc] using ih) ?_
    simp [marksFallS]
theorem e_laws_markFallS (l : List (Int × Int × Int)) (c : Int) (hc : 0 ≤ c) (h : c + 3 * l.length ≤ 4611686018427387904) : Ev (fun k => f_laws_markFallS k l c) (c + 3 * l.length, marksFallS l c) :=
  Ev.succ (Ev.bind (e_laws_markFallS_0 l [] c hc h (by simp; omega)) (Ev.some _))
/-- The marks from k on. -/
def marksIntS : List Int → Int → List Int
  | [], _ => []
  | _ :: r, k => k :: marksIntS r (k + 1)
theorem marksIntS_len : ∀ (l : List Int) (k : Int), (marksIntS l k).length = l.length
  | [], _ => rfl
  | _ :: r, k => by simp [marksIntS, marksIntS_len r]
theorem e_laws_markIntS_0 : ∀ (r pre : List Int) (c : Int), 0 ≤ c → c + 1 * r.length ≤ 4611686018427387904 → (pre ++ r).length ≤ 4611686018427387904 → Ev (fun k => f_laws_markIntS_0 k (pre ++ r) c (pre.length : Int)) (pre ++ marksIntS r c, c + 1 * r.length)
  | [], pre, c, hc, h, hl => by
    refine Ev.succ ?_
    simp only [f_laws_markIntS_0, nlt_end, decide_false, Bool.false_eq_true, if_false, marksIntS, List.length_nil, Int.natCast_zero, Int.mul_zero, Int.add_zero]
    exact Ev.some _
  | x :: r, pre, c, hc, h, hl => by
    have h' : (c + 1) + 1 * (r.length : Int) = c + 1 * ((x :: r).length : Int) := by simp only [List.length_cons]; omega
    have ih := e_laws_markIntS_0 r (pre ++ [c]) (c + 1) (by omega) (by omega) (by simpa using hl)
    have hn := next_mid pre x r (by omega)
    have hn2 : ((pre ++ [x]).length : Int) = ((pre ++ [c]).length : Int) := by simp
    refine Ev.succ ?_
    simp only [f_laws_markIntS_0, lt_mid, ge_mid, decide_true, if_true, Int.toNat_natCast, getD_mid, set_mid, hn]
    simp only [List.length_cons] at h
    rw [w64 (n := c + 1) (by omega) (by omega)]
    rw [← shift_mid, h'] at ih
    rw [hn2]
    refine Ev.congr (f := _) (by simpa [Int.add_assoc] using ih) ?_
    simp [marksIntS]
theorem e_laws_markIntS (l : List Int) (c : Int) (hc : 0 ≤ c) (h : c + 1 * l.length ≤ 4611686018427387904) : Ev (fun k => f_laws_markIntS k l c) (c + 1 * l.length, marksIntS l c) :=
  Ev.succ (Ev.bind (e_laws_markIntS_0 l [] c hc h (by simp; omega)) (Ev.some _))
theorem e_laws_heldIntS_0 : ∀ (r pre : List Int) (c : Int), 0 ≤ c → c + 1 * r.length ≤ 4611686018427387904 → (pre ++ marksIntS r c).length ≤ 4611686018427387904 → Ev (fun k => f_laws_heldIntS_0 k (pre ++ marksIntS r c) c (pre.length : Int)) (LR.go (c + 1 * r.length))
  | [], pre, c, hc, h, hl => by
    refine Ev.succ ?_
    simp only [f_laws_heldIntS_0, marksIntS, nlt_end, decide_false, Bool.false_eq_true, if_false, List.length_nil, Int.natCast_zero, Int.mul_zero, Int.add_zero]
    exact Ev.some _
  | x :: r, pre, c, hc, h, hl => by
    have h' : (c + 1) + 1 * (r.length : Int) = c + 1 * ((x :: r).length : Int) := by simp only [List.length_cons]; omega
    simp only [marksIntS] at hl ⊢
    have ih := e_laws_heldIntS_0 r (pre ++ [c]) (c + 1) (by omega) (by omega) (by simpa using hl)
    have hn := next_mid pre c (marksIntS r (c + 1)) (by omega)
    refine Ev.succ ?_
    simp only [f_laws_heldIntS_0, lt_mid, ge_mid, decide_true, if_true, Int.toNat_natCast, getD_mid, hn]
    simp only [List.length_cons] at h
    rw [w64 (n := c + 1) (by omega) (by omega)]
    rw [← shift_mid, h'] at ih
    simpa [Int.add_assoc] using ih
theorem e_laws_heldIntS (l : List Int) (c : Int) (hc : 0 ≤ c) (h : c + 1 * l.length ≤ 4611686018427387904) : Ev (fun k => f_laws_heldIntS k (marksIntS l c) c) (c + 1 * l.length) := by
  refine Ev.succ (Ev.bind (e_laws_heldIntS_0 l [] c hc h (by rw [List.nil_append, marksIntS_len]; omega)) ?_)
  exact Ev.go (Ev.some _)
theorem e_laws_markBoard (b : BoardD) (c : Int) (hc : 0 ≤ c) (h : c + 2 * b.2.2.length ≤ 4611686018427387904) : Ev (fun k => f_laws_markBoard k b c) (c + 2 * b.2.2.length, marksCellS b.2.2 c) := by
  refine Ev.succ ?_
  simp only [f_laws_markBoard]
  exact Ev.bind (e_laws_markCellS _ c hc h) (Ev.some _)
end Go.Proofs.Ytgpmbmnfcbippaa.Vs

set_option linter.unusedVariables false
set_option linter.unusedSimpArgs false
namespace Go.Proofs.Ytgpmbmnfcbippaa.Vs
open Go.RowKit
theorem fallL_len (b : BoardD) (G K : List Int) : ∀ (n : Nat) (row col side : Int) (o : List CellD), (fallEnd b (fallL b G K n row col side o)).2.length = o.length
  | 0, _, _, _, _ => rfl
  | n + 1, row, col, side, o => by
    unfold fallL
    dsimp only
    repeat' split
    all_goals first | rfl | (rw [fallL_len]; exact stepAt_len _ _ _ _) | exact stepAt_len _ _ _ _
end Go.Proofs.Ytgpmbmnfcbippaa.Vs

set_option linter.unusedVariables false
set_option linter.unusedSimpArgs false
namespace Go.Proofs.Ytgpmbmnfcbippaa.Vs
open Go.RowKit
/-! ### What marbles leave as it is -/
theorem stepAt_parts (G K : List Int) (at' : Nat) (o : List CellD) : (stepAt G K at' o).map Prod.fst = o.map Prod.fst := by
  unfold stepAt turnAt
  split
  · apply List.ext_getElem?
    intro i
    simp only [List.getElem?_map, turnGo_at]
    cases o[i]? with
    | none => rfl
    | some x =>
      simp only [Option.map_some]
      split <;> simp [flip1]
  · rfl
theorem fallL_keeps (b : BoardD) (G K : List Int) : ∀ (n : Nat) (row col side : Int) (o : List CellD), (∀ x ∈ o, cellOK x = true) → (∀ x ∈ (fallEnd b (fallL b G K n row col side o)).2, cellOK x = true) ∧ (fallEnd b (fallL b G K n row col side o)).2.map Prod.fst = o.map Prod.fst
  | 0, _, _, _, o, hx => ⟨hx, rfl⟩
  | n + 1, row, col, side, o, hx => by
    have h1 := fallL_keeps b G K n (row + 1)
    unfold fallL
    dsimp only
    have h2 := stepAt_ok G K (at' := (row * b.2.1 + col).toNat) hx
    have h3 := stepAt_parts G K (row * b.2.1 + col).toNat o
    repeat' split
    all_goals first | exact ⟨hx, rfl⟩ | exact ⟨h2, h3⟩ | exact ⟨(h1 _ _ _ h2).1, (h1 _ _ _ h2).2.trans h3⟩
theorem fallOf_cells (b : BoardD) (G K : List Int) (c : Int) {o : List CellD} (hx : ∀ x ∈ o, cellOK x = true) : ∀ x ∈ (fallOf b G K c o).2, cellOK x = true := (fallL_keeps b G K _ _ _ _ o hx).1
theorem fallOf_parts (b : BoardD) (G K : List Int) (c : Int) {o : List CellD} (hx : ∀ x ∈ o, cellOK x = true) : (fallOf b G K c o).2.map Prod.fst = o.map Prod.fst := (fallL_keeps b G K _ _ _ _ o hx).2
theorem fallL_dims {b b' : BoardD} (h : b.2.1 = b'.2.1) (G K : List Int) : ∀ (n : Nat) (row col side : Int) (o : List CellD), fallL b G K n row col side o = fallL b' G K n row col side o
  | 0, _, _, _, _ => rfl
  | n + 1, row, col, side, o => by simp only [fallL, h, fallL_dims h G K n]
theorem fallOf_dims {b b' : BoardD} (h1 : b.1 = b'.1) (h2 : b.2.1 = b'.2.1) (G K : List Int) (c : Int) (o : List CellD) : fallOf b G K c o = fallOf b' G K c o := by
  have : fallEnd b = fallEnd b' := by funext z; cases z <;> simp [fallEnd, h1]
  unfold fallOf
  rw [this, fallL_dims h2, h1]
theorem kindsB_dims {b b' : BoardD} (h : b.2.1 = b'.2.1) (hl : b.2.2.length = b'.2.2.length) (l : List FaultD) : kindsB b l = kindsB b' l := by simp only [kindsB, kindsOf, placeOf, h, hl]
theorem fits_part {x y : CellD} (h : x.1 = y.1) (k : Int) : fits x k = fits y k := by unfold fits turning; rw [h]
theorem getD_part {o o' : List CellD} (h : o.map Prod.fst = o'.map Prod.fst) (i : Nat) : (List.getD o i (0, 0)).1 = (List.getD o' i (0, 0)).1 := by
  have := congrArg (fun l => l[i]?) h
  simp only [List.getElem?_map] at this
  simp only [List.getD]
  cases h1 : o[i]? <;> cases h2 : o'[i]? <;> simp [h1, h2] at this ⊢
  exact this
theorem faultsOK_dims {b b' : BoardD} (h1 : b.1 = b'.1) (h2 : b.2.1 = b'.2.1) (h : b.2.2.map Prod.fst = b'.2.2.map Prod.fst) : ∀ (l : List FaultD) (last : Int), faultsOK b last l = faultsOK b' last l
  | [], _ => rfl
  | x :: r, last => by
    simp only [faultsOK, h1, h2, faultsOK_dims h1 h2 h r]
    rw [fits_part (getD_part h _)]
theorem board_on {b : BoardD} (hb : boardOK b = true) {o : List CellD} (ho : o.length = b.2.2.length) (hx : ∀ x ∈ o, cellOK x = true) : boardOK (b.1, b.2.1, o) = true := by
  obtain ⟨g1, g2, g3, g4, g5, g6⟩ := board_ok hb
  unfold boardOK
  have : (o.length : Int) = b.1 * b.2.1 := by omega
  simp only [g1, g2, g3, g4, this, and_self, decide_true, Bool.true_and]
  exact List.all_eq_true.2 hx
/-! ### One after the other -/
def runsOf (b : BoardD) (G K : List Int) : List Int → List CellD → List FallD × List CellD
  | [], o => ([], o)
  | c :: r, o => ((fallOf b G K c o).1 :: (runsOf b G K r (fallOf b G K c o).2).1, (runsOf b G K r (fallOf b G K c o).2).2)
theorem runsOf_len (b : BoardD) (G K : List Int) : ∀ (l : List Int) (o : List CellD), (runsOf b G K l o).1.length = l.length
  | [], _ => rfl
  | c :: r, o => by simp [runsOf, runsOf_len b G K r]
def colsOK (b : BoardD) (l : List Int) : Prop := ∀ c ∈ l, 0 ≤ c ∧ c < b.2.1
theorem e_spec_faAll_0 (b : BoardD) (hb : boardOK b = true) (G : List Int) (hG : G.length = b.2.2.length) (l : List FaultD) (hl : faultsOK b (-1) l = true) (hll : l.length ≤ 9223372036854775806) (d1 d2 : Int) (d3 : List CellD) : ∀ (r pre : List Int) (o : List CellD) (w : List FallD), colsOK b r → (pre ++ r).length ≤ 1000 → w.length = pre.length → o.length = b.2.2.length → (∀ x ∈ o, cellOK x = true) → o.map Prod.fst = b.2.2.map Prod.fst →
    Ev (fun k => f_spec_faAll_0 k d1 d2 d3 b.1 b.2.1 o G w l (pre ++ r) ((pre ++ r).length : Int) (pre.length : Int)) (d1, d2, d3, b.1, b.2.1, (runsOf b G (kindsB b l) r o).2, w ++ (runsOf b G (kindsB b l) r o).1)
  | [], pre, o, w, hc, hl1, hw, ho, hx, hp => by
    refine Ev.succ ?_
    simp only [f_spec_faAll_0, nlt_end, decide_false, Bool.false_eq_true, if_false]
    simp only [runsOf, List.append_nil]
    exact Ev.some _
  | c :: r, pre, o, w, hc, hl1, hw, ho, hx, hp => by
    obtain ⟨k1, k2⟩ := hc c (List.mem_cons_self ..)
    have hb' := board_on hb ho hx
    have hg := e_spec_faGo (b.1, b.2.1, o) hb' G (hG.trans ho.symm) l (by rw [faultsOK_dims (b := (b.1, b.2.1, o)) (b' := b) rfl rfl hp]; exact hl) hll c k1 k2
    rw [fallOf_dims (b := (b.1, b.2.1, o)) (b' := b) rfl rfl, kindsB_dims (b := (b.1, b.2.1, o)) (b' := b) rfl ho] at hg
    have hlw : w.length + 1 ≤ 140737488355328 / 24 := by simp at hl1; omega
    refine Ev.succ ?_
    simp only [f_spec_faAll_0, lt_mid, ge_mid, decide_true, if_true, Int.toNat_natCast, getD_mid]
    refine Ev.bind hg ?_
    simp only [List.length_singleton, hlw, if_true]
    rw [next_mid pre c r (by omega)]
    have ih := e_spec_faAll_0 b hb G hG l hl hll d1 d2 d3 r (pre ++ [c]) (fallOf b G (kindsB b l) c o).2 (w ++ [(fallOf b G (kindsB b l) c o).1]) (fun y hy => hc y (List.mem_cons_of_mem _ hy)) (by simpa using hl1) (by simp [hw]) ((fallL_len b G _ _ _ _ _ o).trans ho) (fallOf_cells _ _ _ _ hx) ((fallOf_parts _ _ _ _ hx).trans hp)
    rw [← shift_mid] at ih
    refine ih.congr ?_
    simp [runsOf]
theorem e_spec_faAll (b : BoardD) (hb : boardOK b = true) (l : List FaultD) (hl : faultsOK b (-1) l = true) (hll : l.length ≤ 9223372036854775806) (t : List Int) (ht : t.length ≤ 1000) (hc : colsOK b t) : Ev (fun k => f_spec_faAll k b l t) ((runsOf b (groupsOf b) (kindsB b l) t b.2.2).1, b.1, b.2.1, (runsOf b (groupsOf b) (kindsB b l) t b.2.2).2) := by
  obtain ⟨g1, g2, g3, g4, g5, g6⟩ := board_ok hb
  have hpp := prod_small g1 g2 g3 g4
  refine Ev.succ ?_
  simp only [f_spec_faAll]
  have h0 : Ev (fun k => f_spec_faAll_g1 k b.1 b.2.1 b.2.2 0 0 [] l t) (0, 0, [], b.1, b.2.1, b.2.2, groupsOf b, l, t) := by
    simp only [f_spec_faAll_g1]
    exact Ev.bind (e_spec_boOwn b (by omega)) (Ev.bind (e_spec_ggGroups b hb) (Ev.some _))
  refine Ev.bind h0 ?_
  refine Ev.bind (e_spec_faAll_0 b hb (groupsOf b) (groupsOf_len b) l hl hll 0 0 [] t [] b.2.2 [] hc (by simpa using ht) rfl rfl g6 rfl) ?_
  exact Ev.some _
theorem e_impl_faultyDrops_0 (b : BoardD) (hb : boardOK b = true) (G K : List Int) (hG : G.length = b.2.2.length) (hK : K.length = b.2.2.length) (d1 d2 : Int) (d3 : List CellD) : ∀ (r pre : List Int) (o : List CellD) (w : List FallD), colsOK b r → (pre ++ r).length ≤ 1000 → w.length = pre.length → o.length = b.2.2.length → (∀ x ∈ o, cellOK x = true) →
    Ev (fun k => f_impl_faultyDrops_0 k d1 d2 d3 b.1 b.2.1 o G K w (pre ++ r) ((pre ++ r).length : Int) (pre.length : Int)) (d1, d2, d3, b.1, b.2.1, (runsOf b G K r o).2, w ++ (runsOf b G K r o).1)
  | [], pre, o, w, hc, hl1, hw, ho, hx => by
    refine Ev.succ ?_
    simp only [f_impl_faultyDrops_0, nlt_end, decide_false, Bool.false_eq_true, if_false]
    simp only [runsOf, List.append_nil]
    exact Ev.some _
  | c :: r, pre, o, w, hc, hl1, hw, ho, hx => by
    obtain ⟨k1, k2⟩ := hc c (List.mem_cons_self ..)
    have hg := e_impl_faultyDrop b hb G K hG hK c k1 k2 o ho hx
    have hlw : w.length + 1 ≤ 140737488355328 / 24 := by simp at hl1; omega
    refine Ev.succ ?_
    simp only [f_impl_faultyDrops_0, lt_mid, ge_mid, decide_true, if_true, Int.toNat_natCast, getD_mid]
    refine Ev.bind hg ?_
    simp only [List.length_singleton, hlw, if_true]
    rw [next_mid pre c r (by omega)]
    have ih := e_impl_faultyDrops_0 b hb G K hG hK d1 d2 d3 r (pre ++ [c]) (fallOf b G K c o).2 (w ++ [(fallOf b G K c o).1]) (fun y hy => hc y (List.mem_cons_of_mem _ hy)) (by simpa using hl1) (by simp [hw]) ((fallL_len b G _ _ _ _ _ o).trans ho) (fallOf_cells _ _ _ _ hx)
    rw [← shift_mid] at ih
    refine ih.congr ?_
    simp [runsOf]
theorem e_impl_faultyDrops (b : BoardD) (hb : boardOK b = true) (l : List FaultD) (hl : faultsOK b (-1) l = true) (hll : l.length ≤ 9223372036854775806) (t : List Int) (ht : t.length ≤ 1000) (hc : colsOK b t) : Ev (fun k => f_impl_faultyDrops k b l t) ((runsOf b (groupsOf b) (kindsB b l) t b.2.2).1, b.1, b.2.1, (runsOf b (groupsOf b) (kindsB b l) t b.2.2).2) := by
  obtain ⟨g1, g2, g3, g4, g5, g6⟩ := board_ok hb
  have hpp := prod_small g1 g2 g3 g4
  refine Ev.succ ?_
  simp only [f_impl_faultyDrops]
  refine Ev.bind (e_impl_copyBoard b (by omega)) (Ev.bind (e_impl_groupNumbers b hb) (Ev.bind (e_impl_faultsByCell b hb l hl hll) ?_))
  refine Ev.bind (e_impl_faultyDrops_0 b hb (groupsOf b) (kindsB b l) (groupsOf_len b) (kindsB_len b l) 0 0 [] t [] b.2.2 [] hc (by simpa using ht) rfl rfl g6) ?_
  exact Ev.some _
/-! ### Without faults -/
end Go.Proofs.Ytgpmbmnfcbippaa.Vs

set_option linter.unusedVariables false
set_option linter.unusedSimpArgs false
namespace Go.Proofs.Ytgpmbmnfcbippaa.Vs
open Go.RowKit
/-! ### Tests -/
def testOK (b : BoardD) (t : List Int) : Bool := decide (t.length ≤ 8) && t.all fun c => decide (0 ≤ c ∧ c < b.2.1)
theorem e_impl_validEntries_0 (b : BoardD) : ∀ (r pre : List Int), (pre ++ r).length ≤ 9223372036854775806 → Ev (fun k => f_impl_validEntries_0 k b.1 b.2.1 b.2.2 (pre ++ r) ((pre ++ r).length : Int) (pre.length : Int)) (if r.all (fun c => decide (0 ≤ c ∧ c < b.2.1)) then LR.go () else LR.ret false)
  | [], pre, hl => by
    refine Ev.succ ?_
    simp only [f_impl_validEntries_0, nlt_end, decide_false, Bool.false_eq_true, if_false, List.all_nil, if_true]
    exact Ev.some _
  | x :: r, pre, hl => by
    have ih := e_impl_validEntries_0 b r (pre ++ [x]) (by simpa using hl)
    refine Ev.succ ?_
    simp only [f_impl_validEntries_0, lt_mid, ge_mid, decide_true, if_true, Int.toNat_natCast, getD_mid]
    rw [next_mid pre x r (by omega)]
    rw [← shift_mid] at ih
    refine Ev.ite (fun h => ?_) (fun h => Ev.ite (fun h2 => ?_) (fun h2 => ?_))
    · simp only [decide_eq_true_eq] at h
      have hx : ¬ (0 ≤ x ∧ x < b.2.1) := by omega
      simp only [hx, List.all_cons, decide_false, Bool.false_and, Bool.false_eq_true, if_false]; exact Ev.some _
    · simp only [decide_eq_true_eq] at h2
      have hx : ¬ (0 ≤ x ∧ x < b.2.1) := by omega
      simp only [hx, List.all_cons, decide_false, Bool.false_and, Bool.false_eq_true, if_false]; exact Ev.some _
    · simp only [decide_eq_true_eq] at h h2
      have hx : 0 ≤ x ∧ x < b.2.1 := by omega
      simp only [hx, and_self, List.all_cons, decide_true, Bool.true_and]; exact ih
theorem e_impl_validEntries (b : BoardD) (l : List Int) (hb : b.2.2.length ≤ 9223372036854775806) (hl : l.length ≤ 9223372036854775806) : Ev (fun k => f_impl_validEntries k b l) (boardOK b && decide (l.length ≤ 60) && l.all fun c => decide (0 ≤ c ∧ c < b.2.1)) := by
  refine Ev.succ ?_
  simp only [f_impl_validEntries]
  refine Ev.bind (e_impl_IsBoard b hb) ?_
  cases hbo : boardOK b with
  | false => simp only [Bool.not_false, if_true, Bool.false_and]; exact Ev.some _
  | true =>
    simp only [Bool.not_true, Bool.false_eq_true, if_false, Bool.true_and]
    refine Ev.ite (fun h => Ev.of ?_) (fun h => ?_)
    · simp only [decide_eq_true_eq] at h
      have : ¬ l.length ≤ 60 := by omega
      simp [this]
    · simp only [decide_eq_true_eq] at h
      have h6 : l.length ≤ 60 := by omega
      refine Ev.bind (e_impl_validEntries_0 b l [] (by simpa using hl)) ?_
      simp only [h6, decide_true, Bool.true_and]
      cases hx : l.all (fun c => decide (0 ≤ c ∧ c < b.2.1)) with
      | true => simp only [if_true]; exact Ev.go (Ev.some _)
      | false => simp only [Bool.false_eq_true, if_false]; exact Ev.ret (Ev.some _)
end Go.Proofs.Ytgpmbmnfcbippaa.Vs

set_option linter.unusedVariables false
set_option linter.unusedSimpArgs false
namespace Go.Proofs.Ytgpmbmnfcbippaa.Vs
open Go.RowKit
theorem e_laws_szIntS (l : List Int) (n : Int) (h0 : 0 ≤ n) (h1 : n ≤ 1048576) (hl : l.length ≤ 9223372036854775807) : Ev (fun k => f_laws_szIntS k l n) (if n - l.length < 0 then -1 else n - l.length) := by
  refine Ev.succ ?_
  simp only [f_laws_szIntS]
  refine Ev.of ?_
  rw [w64 (by omega) (by omega)]
  by_cases h : n - (l.length : Int) < 0 <;> simp [h]
theorem e_laws_toIntS_0 : ∀ (r pre rest : List Int), rest.length = r.length → (pre ++ r).length ≤ 1048576 → Ev (fun k => f_laws_toIntS_0 k (pre ++ rest) (pre ++ r) (pre.length : Int)) (pre ++ r)
  | [], pre, rest, h, hl => by
    obtain rfl : rest = [] := List.eq_nil_of_length_eq_zero h
    refine Ev.succ ?_
    simp only [f_laws_toIntS_0, nlt_end, decide_false, Bool.false_eq_true, if_false]
    exact Ev.some _
  | x :: r, pre, [], h, hl => by simp at h
  | x :: r, pre, y :: rest, h, hl => by
    have ih := e_laws_toIntS_0 r (pre ++ [x]) rest (by simpa using h) (by simpa using hl)
    refine Ev.succ ?_
    simp only [f_laws_toIntS_0, lt_mid, ge_mid, decide_true, if_true, Int.toNat_natCast, getD_mid, set_mid]
    rw [next_mid pre x r (by omega)]
    rw [← shift_mid, ← shift_mid] at ih
    exact ih
theorem e_laws_toIntS (l : List Int) (hl : l.length ≤ 1048576) : Ev (fun k => f_laws_toIntS k l) l := by
  refine Ev.succ ?_
  have hm : l.length * 8 ≤ 281474976710656 := by omega
  simp only [f_laws_toIntS, Int.toNat_natCast, hm, if_true]
  exact Ev.bind (e_laws_toIntS_0 l [] (List.replicate l.length 0) (by simp) (by simpa using hl)) (Ev.some _)
theorem e_laws_eqIntS_0 : ∀ (r s pre : List Int) (pre' : List Int), s.length = r.length → pre'.length = pre.length → (pre ++ r).length ≤ 9223372036854775806 → Ev (fun k => f_laws_eqIntS_0 k (pre ++ r) (pre' ++ s) (pre.length : Int)) (if r = s then LR.go () else LR.ret false)
  | [], s, pre, pre', h, hp, hl => by
    obtain rfl : s = [] := List.eq_nil_of_length_eq_zero h
    refine Ev.succ ?_
    simp only [f_laws_eqIntS_0, nlt_end, decide_false, Bool.false_eq_true, if_false, if_true]
    exact Ev.some _
  | x :: r, [], pre, pre', h, hp, hl => by simp at h
  | x :: r, y :: s, pre, pre', h, hp, hl => by
    have ih := e_laws_eqIntS_0 r s (pre ++ [x]) (pre' ++ [y]) (by simpa using h) (by simpa using hp) (by simpa using hl)
    have l2 : (pre.length : Int) < ((pre' ++ y :: s).length : Int) := by rw [← hp]; exact lt_mid _ _ _
    have g2 : List.getD (pre' ++ y :: s) pre.length 0 = y := by rw [← hp]; exact getD_mid _ _ _ _
    refine Ev.succ ?_
    simp only [f_laws_eqIntS_0, lt_mid, ge_mid, l2, decide_true, if_true, Int.toNat_natCast, getD_mid, g2]
    rw [next_mid pre x r (by omega)]
    rw [← shift_mid, ← shift_mid] at ih
    by_cases hxy : x = y
    · subst hxy
      simp only [ne_eq, not_true_eq_false, decide_false, Bool.false_eq_true, if_false]
      refine ih.congr ?_
      by_cases hrs : r = s <;> simp [hrs]
    · simp only [ne_eq, hxy, not_false_eq_true, decide_true, if_true]
      refine Ev.of ?_
      rw [if_neg (by intro hc; injection hc with h1 h2; exact hxy h1)]
theorem e_laws_eqIntS (l m : List Int) (hl : l.length ≤ 9223372036854775806) : Ev (fun k => f_laws_eqIntS k l m) (decide (l = m)) := by
  refine Ev.succ ?_
  simp only [f_laws_eqIntS]
  by_cases h : l.length = m.length
  · simp only [h, ne_eq, not_true_eq_false, decide_false, Bool.false_eq_true, if_false]
    refine Ev.bind (e_laws_eqIntS_0 l m [] [] h.symm rfl (by simpa using hl)) ?_
    by_cases hlm : l = m
    · rw [if_pos hlm]; simp only [hlm, decide_true]; exact Ev.go (Ev.some _)
    · rw [if_neg hlm]; simp only [hlm, decide_false]; exact Ev.ret (Ev.some _)
  · have h2 : ¬ (l.length : Int) = (m.length : Int) := by omega
    have h3 : ¬ l = m := fun hc => h (by rw [hc])
    simp only [ne_eq, h2, not_false_eq_true, decide_true, if_true, h3, decide_false]
    exact Ev.some _
end Go.Proofs.Ytgpmbmnfcbippaa.Vs

set_option linter.unusedVariables false
set_option linter.unusedSimpArgs false
namespace Go.Proofs.Ytgpmbmnfcbippaa.Vs
open Go.RowKit
theorem eq3 (x y : FallD) : (decide (x.1 = y.1) && (decide (x.2.1 = y.2.1) && (decide (x.2.2 = y.2.2) && true))) = decide (x = y) := by
  obtain ⟨a0, a1, a2⟩ := x
  obtain ⟨b0, b1, b2⟩ := y
  by_cases h0 : a0 = b0 <;> by_cases h1 : a1 = b1 <;> by_cases h2 : a2 = b2 <;> simp [h0, h1, h2]
/-- The first place where two rows differ. -/
def diffIx : Nat → List FallD → List FallD → Option Nat
  | i, x :: r, y :: s => if x = y then diffIx (i + 1) r s else some i
  | _, _, _ => none
def ixOf : Option Nat → Int
  | none => -1
  | some i => (i : Int)
def lrOf {R : Type} (f : Nat → R) : Option Nat → LR Unit R
  | none => .go ()
  | some i => .ret (f i)
theorem diffIx_none : ∀ (i : Nat) (r s : List FallD), s.length = r.length → (diffIx i r s = none ↔ r = s)
  | i, [], s, h => by
    obtain rfl : s = [] := List.eq_nil_of_length_eq_zero h
    simp [diffIx]
  | i, x :: r, [], h => by simp at h
  | i, x :: r, y :: s, h => by
    have ih := diffIx_none (i + 1) r s (by simpa using h)
    by_cases hxy : x = y <;> simp [diffIx, hxy, ih]
theorem ix_neg (z : Option Nat) : ixOf z < 0 ↔ z = none := by
  cases z with
  | none => simp [ixOf]
  | some i => simp only [ixOf, reduceCtorEq, iff_false]; omega
theorem e_spec_faSame_0 : ∀ (r s pre pre' : List FallD), s.length = r.length → pre'.length = pre.length → (pre ++ r).length ≤ 1000000 → Ev (fun k => f_spec_faSame_0 k (pre' ++ s) (pre ++ r) ((pre ++ r).length : Int) (pre.length : Int)) (lrOf (fun i => (i : Int)) (diffIx pre.length r s))
  | [], s, pre, pre', h, hp, hl => by
    obtain rfl : s = [] := List.eq_nil_of_length_eq_zero h
    refine Ev.succ ?_
    simp only [f_spec_faSame_0, nlt_end, decide_false, Bool.false_eq_true, if_false]
    exact Ev.some _
  | x :: r, [], pre, pre', h, hp, hl => by simp at h
  | x :: r, y :: s, pre, pre', h, hp, hl => by
    have ih := e_spec_faSame_0 r s (pre ++ [x]) (pre' ++ [y]) (by simpa using h) (by simpa using hp) (by simpa using hl)
    have l2 : (pre.length : Int) < ((pre' ++ y :: s).length : Int) := by rw [← hp]; exact lt_mid _ _ _
    have g2 : List.getD (pre' ++ y :: s) pre.length (0, 0, 0) = y := by rw [← hp]; exact getD_mid _ _ _ _
    refine Ev.succ ?_
    simp only [f_spec_faSame_0, lt_mid, ge_mid, l2, decide_true, if_true, Int.toNat_natCast, getD_mid, g2, eq3]
    rw [next_mid pre x r (by omega)]
    rw [← shift_mid, ← shift_mid] at ih
    refine Ev.ite (fun hh => ?_) (fun hh => ?_)
    · have hh : ¬ x = y := nd hh
      exact Ev.of (by simp [diffIx, hh, lrOf])
    · have hh : x = y := yd hh
      refine ih.congr ?_
      simp [diffIx, hh]
theorem e_slices_Equal_impl_Fall_impl_Fall_0 : ∀ (r s pre pre' : List FallD), s.length = r.length → pre'.length = pre.length → (pre ++ r).length ≤ 1000000 → Ev (fun k => f_slices_Equal_impl_Fall_impl_Fall_0 k (pre ++ r) (pre' ++ s) ((pre ++ r).length : Int) (pre.length : Int)) (lrOf (fun _ => false) (diffIx pre.length r s))
  | [], s, pre, pre', h, hp, hl => by
    obtain rfl : s = [] := List.eq_nil_of_length_eq_zero h
    refine Ev.succ ?_
    simp only [f_slices_Equal_impl_Fall_impl_Fall_0, nlt_end, decide_false, Bool.false_eq_true, if_false]
    exact Ev.some _
  | x :: r, [], pre, pre', h, hp, hl => by simp at h
  | x :: r, y :: s, pre, pre', h, hp, hl => by
    have ih := e_slices_Equal_impl_Fall_impl_Fall_0 r s (pre ++ [x]) (pre' ++ [y]) (by simpa using h) (by simpa using hp) (by simpa using hl)
    have l2 : (pre.length : Int) < ((pre' ++ y :: s).length : Int) := by rw [← hp]; exact lt_mid _ _ _
    have g2 : List.getD (pre' ++ y :: s) pre.length (0, 0, 0) = y := by rw [← hp]; exact getD_mid _ _ _ _
    refine Ev.succ ?_
    simp only [f_slices_Equal_impl_Fall_impl_Fall_0, lt_mid, ge_mid, l2, decide_true, if_true, Int.toNat_natCast, getD_mid, g2, eq3]
    rw [next_mid pre x r (by omega)]
    rw [← shift_mid, ← shift_mid] at ih
    refine Ev.ite (fun hh => ?_) (fun hh => ?_)
    · have hh : ¬ x = y := nd hh
      exact Ev.of (by simp [diffIx, hh, lrOf])
    · have hh : x = y := yd hh
      refine ih.congr ?_
      simp [diffIx, hh]
theorem e_spec_faSame (l m : List FallD) (h : m.length = l.length) (hl : l.length ≤ 1000000) : Ev (fun k => f_spec_faSame k l m) (ixOf (diffIx 0 l m)) := by
  refine Ev.succ ?_
  simp only [f_spec_faSame]
  refine Ev.bind (e_spec_faSame_0 l m [] [] h rfl (by simpa using hl)) ?_
  simp only [List.length_nil]
  cases diffIx 0 l m with
  | none => exact Ev.go (Ev.some _)
  | some i => exact Ev.ret (Ev.some _)
theorem e_slices_Equal_impl_Fall_impl_Fall (l m : List FallD) (hl : l.length ≤ 1000000) : Ev (fun k => f_slices_Equal_impl_Fall_impl_Fall k l m) (decide (l = m)) := by
  refine Ev.succ ?_
  simp only [f_slices_Equal_impl_Fall_impl_Fall]
  by_cases h : l.length = m.length
  · simp only [h, ne_eq, not_true_eq_false, decide_false, Bool.false_eq_true, if_false]
    have hh := e_slices_Equal_impl_Fall_impl_Fall_0 l m [] [] h.symm rfl (by simpa using hl)
    simp only [List.nil_append, List.length_nil, h] at hh
    refine Ev.bind hh ?_
    have hn := diffIx_none 0 l m h.symm
    cases hd : diffIx 0 l m with
    | none =>
      rw [hd] at hn
      simp only [hn.1 rfl, decide_true]
      exact Ev.go (Ev.some _)
    | some i =>
      rw [hd] at hn
      have : ¬ l = m := fun hc => by have := hn.2 hc; cases this
      simp only [this, decide_false]
      exact Ev.ret (Ev.some _)
  · have h2 : ¬ (l.length : Int) = (m.length : Int) := by omega
    have h3 : ¬ l = m := fun hc => h (by rw [hc])
    simp only [ne_eq, h2, not_false_eq_true, decide_true, if_true, h3, decide_false]
    exact Ev.some _
/-! ### What is seen -/
def endsOf (b : BoardD) (l : List FaultD) (t : List Int) : List FallD := (runsOf b (groupsOf b) (kindsB b l) t b.2.2).1
theorem endsOf_len (b : BoardD) (l : List FaultD) (t : List Int) : (endsOf b l t).length = t.length := runsOf_len _ _ _ _ _
end Go.Proofs.Ytgpmbmnfcbippaa.Vs

set_option linter.unusedVariables false
set_option linter.unusedSimpArgs false
namespace Go.Proofs.Ytgpmbmnfcbippaa.Vs
open Go.RowKit
def kindsAt (C i : Int) (x : CellD) : List FaultD := ([1, 2, 3].filter (fits x)).map fun kd => (kd, Int.tdiv i C, Int.tmod i C)
/-- All faults that the cells can have, by their cells, then by their kinds. -/
def possFrom (C : Int) : Int → List CellD → List FaultD
  | _, [] => []
  | i, x :: r => kindsAt C i x ++ possFrom C (i + 1) r
theorem kindsAt_len (C i : Int) (x : CellD) : (kindsAt C i x).length ≤ 3 := by
  unfold kindsAt
  rw [List.length_map]
  exact Nat.le_trans (List.length_filter_le _ _) (by simp)
theorem possFrom_len (C : Int) : ∀ (r : List CellD) (i : Int), (possFrom C i r).length ≤ 3 * r.length
  | [], _ => by simp [possFrom]
  | x :: r, i => by
    have h1 := kindsAt_len C i x
    have h2 := possFrom_len C r (i + 1)
    simp only [possFrom, List.length_append, List.length_cons]
    omega
theorem tdiv_in {i C : Int} (hi : 0 ≤ i) (hC : 1 ≤ C) : 0 ≤ Int.tdiv i C ∧ Int.tdiv i C ≤ i := by
  rw [Int.tdiv_eq_ediv_of_nonneg hi]
  exact ⟨Int.ediv_nonneg hi (by omega), Int.ediv_le_self _ hi⟩
theorem e_spec_faPossible_2_step (R C : Int) (cs : List CellD) (x : CellD) (i kd : Int) (hi : 0 ≤ i) (hi2 : i ≤ 90) (hC : 1 ≤ C) (hk : 1 ≤ kd) (hk2 : kd ≤ 3) (v8 : List CellD) (v9 v10 : Int) (o : List FaultD) (ho : o.length ≤ 1000) (z : Int × Int × List CellD × List FaultD × List CellD × Int × Int)
    (h : Ev (fun k => f_spec_faPossible_2 k R C cs (if fits x kd then o ++ [(kd, Int.tdiv i C, Int.tmod i C)] else o) x.1 x.2 i (kd + 1) v8 v9 v10) z) : Ev (fun k => f_spec_faPossible_2 k R C cs o x.1 x.2 i kd v8 v9 v10) z := by
  have hd := tdiv_in hi hC
  have hC0 : ¬ C = 0 := by omega
  have hlen : o.length + 1 ≤ 5864062014805 := by omega
  refine Ev.succ ?_
  simp only [f_spec_faPossible_2, hk2, decide_true, if_true]
  rw [w64 (n := kd + 1) (by omega) (by omega), w64 (n := Int.tdiv i C) (by omega) (by omega)]
  refine Ev.bind (e_spec_faFits x kd) ?_
  cases hf : fits x kd with
  | true =>
    simp only [hf, if_true] at h
    simp only [if_true, hC0, if_false, List.length_singleton]
    have : o.length + 1 ≤ 140737488355328 / 24 := by omega
    simp only [this, if_true]
    exact h
  | false =>
    simp only [hf, Bool.false_eq_true, if_false] at h
    simp only [Bool.false_eq_true, if_false]
    exact h
theorem e_spec_faPossible_2 (R C : Int) (cs : List CellD) (x : CellD) (i : Int) (hi : 0 ≤ i) (hi2 : i ≤ 90) (hC : 1 ≤ C) (v8 : List CellD) (v9 v10 : Int) (o : List FaultD) (ho : o.length ≤ 900) : Ev (fun k => f_spec_faPossible_2 k R C cs o x.1 x.2 i 1 v8 v9 v10) (R, C, cs, o ++ kindsAt C i x, v8, v9, v10) := by
  have e1 : (if fits x 1 then o ++ [(1, Int.tdiv i C, Int.tmod i C)] else o) = o ++ (if fits x 1 then [(1, Int.tdiv i C, Int.tmod i C)] else []) := by split <;> simp
  refine e_spec_faPossible_2_step R C cs x i 1 hi hi2 hC (by omega) (by omega) v8 v9 v10 o (by omega) _ ?_
  rw [e1]
  generalize h1 : (if fits x 1 then [((1 : Int), Int.tdiv i C, Int.tmod i C)] else []) = o1
  have l1 : o1.length ≤ 1 := by rw [← h1]; split <;> simp
  refine e_spec_faPossible_2_step R C cs x i 2 hi hi2 hC (by omega) (by omega) v8 v9 v10 _ (by simp; omega) _ ?_
  have e2 : (if fits x 2 then (o ++ o1) ++ [(2, Int.tdiv i C, Int.tmod i C)] else o ++ o1) = (o ++ o1) ++ (if fits x 2 then [(2, Int.tdiv i C, Int.tmod i C)] else []) := by split <;> simp
  rw [e2]
  generalize h2 : (if fits x 2 then [((2 : Int), Int.tdiv i C, Int.tmod i C)] else []) = o2
  have l2 : o2.length ≤ 1 := by rw [← h2]; split <;> simp
  refine e_spec_faPossible_2_step R C cs x i 3 hi hi2 hC (by omega) (by omega) v8 v9 v10 _ (by simp; omega) _ ?_
  refine Ev.succ ?_
  simp only [f_spec_faPossible_2]
  have h4 : ¬ (3 + 1 : Int) ≤ 3 := by omega
  simp only [h4, decide_false, Bool.false_eq_true, if_false]
  refine Ev.of ?_
  rw [← h1, ← h2]
  unfold kindsAt
  cases f1 : fits x 1 <;> cases f2 : fits x 2 <;> cases f3 : fits x 3 <;> simp [List.filter, f1, f2, f3]
theorem e_spec_faPossible_0 (R C : Int) (hC : 1 ≤ C) (cs : List CellD) : ∀ (r pre : List CellD) (o : List FaultD), (pre ++ r).length ≤ 90 → o.length ≤ 3 * pre.length → Ev (fun k => f_spec_faPossible_0 k R C cs o (pre ++ r) ((pre ++ r).length : Int) (pre.length : Int)) (o ++ possFrom C pre.length r)
  | [], pre, o, hl, ho => by
    refine Ev.succ ?_
    simp only [f_spec_faPossible_0, nlt_end, decide_false, Bool.false_eq_true, if_false, possFrom]
    rw [List.append_nil o]
    exact Ev.some _
  | x :: r, pre, o, hl, ho => by
    have hl2 := hl
    simp only [List.length_append, List.length_cons] at hl2
    have hka : (kindsAt C pre.length x).length ≤ 3 := kindsAt_len _ _ _
    have ih := e_spec_faPossible_0 R C hC cs r (pre ++ [x]) (o ++ kindsAt C pre.length x) (by simpa using hl) (by simp; omega)
    refine Ev.succ ?_
    simp only [f_spec_faPossible_0, lt_mid, ge_mid, decide_true, if_true, Int.toNat_natCast, getD_mid]
    refine Ev.bind (e_spec_faPossible_2 R C cs x (pre.length : Int) (by omega) (by omega) hC (pre ++ x :: r) ((pre ++ x :: r).length : Int) (pre.length : Int) o (by omega)) ?_
    show Ev (fun k => f_spec_faPossible_0 k R C cs (o ++ kindsAt C pre.length x) (pre ++ x :: r) ((pre ++ x :: r).length : Int) (wrap64 ((pre.length : Int) + 1))) _
    rw [next_mid pre x r (by omega)]
    rw [← shift_mid] at ih
    refine ih.congr ?_
    simp [possFrom]
theorem e_spec_faPossible (b : BoardD) (hb : boardOK b = true) : Ev (fun k => f_spec_faPossible k b) (possFrom b.2.1 0 b.2.2) := by
  obtain ⟨g1, g2, g3, g4, g5, g6⟩ := board_ok hb
  have hp := prod_small g1 g2 g3 g4
  refine Ev.succ ?_
  simp only [f_spec_faPossible]
  exact Ev.bind (e_spec_faPossible_0 b.1 b.2.1 g3 b.2.2 b.2.2 [] [] (by simp; omega) (by simp)) (Ev.some _)
theorem e_impl_possibleFaults_2_step (R C : Int) (cs : List CellD) (x : CellD) (hx : cellOK x = true) (i kd : Int) (hi : 0 ≤ i) (hi2 : i ≤ 90) (hC : 1 ≤ C) (hk : 1 ≤ kd) (hk2 : kd ≤ 3) (v8 : List CellD) (v9 v10 : Int) (o : List FaultD) (ho : o.length ≤ 1000) (z : Int × Int × List CellD × List FaultD × List CellD × Int × Int)
    (h : Ev (fun k => f_impl_possibleFaults_2 k R C cs (if fits x kd then o ++ [(kd, Int.tdiv i C, Int.tmod i C)] else o) x.1 x.2 i (kd + 1) v8 v9 v10) z) : Ev (fun k => f_impl_possibleFaults_2 k R C cs o x.1 x.2 i kd v8 v9 v10) z := by
  have hd := tdiv_in hi hC
  have hC0 : ¬ C = 0 := by omega
  have hlen : o.length + 1 ≤ 5864062014805 := by omega
  refine Ev.succ ?_
  simp only [f_impl_possibleFaults_2, hk2, decide_true, if_true]
  rw [w64 (n := kd + 1) (by omega) (by omega), w64 (n := Int.tdiv i C) (by omega) (by omega)]
  refine Ev.bind (e_impl_canHave x kd hx) ?_
  cases hf : fits x kd with
  | true =>
    simp only [hf, if_true] at h
    simp only [if_true, hC0, if_false, List.length_singleton]
    have : o.length + 1 ≤ 140737488355328 / 24 := by omega
    simp only [this, if_true]
    exact h
  | false =>
    simp only [hf, Bool.false_eq_true, if_false] at h
    simp only [Bool.false_eq_true, if_false]
    exact h
theorem e_impl_possibleFaults_2 (R C : Int) (cs : List CellD) (x : CellD) (hx : cellOK x = true) (i : Int) (hi : 0 ≤ i) (hi2 : i ≤ 90) (hC : 1 ≤ C) (v8 : List CellD) (v9 v10 : Int) (o : List FaultD) (ho : o.length ≤ 900) : Ev (fun k => f_impl_possibleFaults_2 k R C cs o x.1 x.2 i 1 v8 v9 v10) (R, C, cs, o ++ kindsAt C i x, v8, v9, v10) := by
  have e1 : (if fits x 1 then o ++ [(1, Int.tdiv i C, Int.tmod i C)] else o) = o ++ (if fits x 1 then [(1, Int.tdiv i C, Int.tmod i C)] else []) := by split <;> simp
  refine e_impl_possibleFaults_2_step R C cs x hx i 1 hi hi2 hC (by omega) (by omega) v8 v9 v10 o (by omega) _ ?_
  rw [e1]
  generalize h1 : (if fits x 1 then [((1 : Int), Int.tdiv i C, Int.tmod i C)] else []) = o1
  have l1 : o1.length ≤ 1 := by rw [← h1]; split <;> simp
  refine e_impl_possibleFaults_2_step R C cs x hx i 2 hi hi2 hC (by omega) (by omega) v8 v9 v10 _ (by simp; omega) _ ?_
  have e2 : (if fits x 2 then (o ++ o1) ++ [(2, Int.tdiv i C, Int.tmod i C)] else o ++ o1) = (o ++ o1) ++ (if fits x 2 then [(2, Int.tdiv i C, Int.tmod i C)] else []) := by split <;> simp
  rw [e2]
  generalize h2 : (if fits x 2 then [((2 : Int), Int.tdiv i C, Int.tmod i C)] else []) = o2
  have l2 : o2.length ≤ 1 := by rw [← h2]; split <;> simp
  refine e_impl_possibleFaults_2_step R C cs x hx i 3 hi hi2 hC (by omega) (by omega) v8 v9 v10 _ (by simp; omega) _ ?_
  refine Ev.succ ?_
  simp only [f_impl_possibleFaults_2]
  have h4 : ¬ (3 + 1 : Int) ≤ 3 := by omega
  simp only [h4, decide_false, Bool.false_eq_true, if_false]
  refine Ev.of ?_
  rw [← h1, ← h2]
  unfold kindsAt
  cases f1 : fits x 1 <;> cases f2 : fits x 2 <;> cases f3 : fits x 3 <;> simp [List.filter, f1, f2, f3]
theorem e_impl_possibleFaults_0 (R C : Int) (hC : 1 ≤ C) (cs : List CellD) : ∀ (r pre : List CellD) (o : List FaultD), (∀ y ∈ r, cellOK y = true) → (pre ++ r).length ≤ 90 → o.length ≤ 3 * pre.length → Ev (fun k => f_impl_possibleFaults_0 k R C cs o (pre ++ r) ((pre ++ r).length : Int) (pre.length : Int)) (o ++ possFrom C pre.length r)
  | [], pre, o, hx, hl, ho => by
    refine Ev.succ ?_
    simp only [f_impl_possibleFaults_0, nlt_end, decide_false, Bool.false_eq_true, if_false, possFrom]
    rw [List.append_nil o]
    exact Ev.some _
  | x :: r, pre, o, hx, hl, ho => by
    have hl2 := hl
    simp only [List.length_append, List.length_cons] at hl2
    have hka : (kindsAt C pre.length x).length ≤ 3 := kindsAt_len _ _ _
    have ih := e_impl_possibleFaults_0 R C hC cs r (pre ++ [x]) (o ++ kindsAt C pre.length x) (fun y hy => hx y (List.mem_cons_of_mem _ hy)) (by simpa using hl) (by simp; omega)
    refine Ev.succ ?_
    simp only [f_impl_possibleFaults_0, lt_mid, ge_mid, decide_true, if_true, Int.toNat_natCast, getD_mid]
    refine Ev.bind (e_impl_possibleFaults_2 R C cs x (hx x (List.mem_cons_self ..)) (pre.length : Int) (by omega) (by omega) hC (pre ++ x :: r) ((pre ++ x :: r).length : Int) (pre.length : Int) o (by omega)) ?_
    show Ev (fun k => f_impl_possibleFaults_0 k R C cs (o ++ kindsAt C pre.length x) (pre ++ x :: r) ((pre ++ x :: r).length : Int) (wrap64 ((pre.length : Int) + 1))) _
    rw [next_mid pre x r (by omega)]
    rw [← shift_mid] at ih
    refine ih.congr ?_
    simp [possFrom]
theorem e_impl_possibleFaults (b : BoardD) (hb : boardOK b = true) : Ev (fun k => f_impl_possibleFaults k b) (possFrom b.2.1 0 b.2.2) := by
  obtain ⟨g1, g2, g3, g4, g5, g6⟩ := board_ok hb
  have hp := prod_small g1 g2 g3 g4
  refine Ev.succ ?_
  simp only [f_impl_possibleFaults]
  exact Ev.bind (e_impl_possibleFaults_0 b.1 b.2.1 g3 b.2.2 b.2.2 [] [] g6 (by simp; omega) (by simp)) (Ev.some _)
theorem div_mod {i C : Int} (hi : 0 ≤ i) (hC : 1 ≤ C) : Int.tdiv i C * C + Int.tmod i C = i ∧ 0 ≤ Int.tmod i C ∧ Int.tmod i C < C ∧ 0 ≤ Int.tdiv i C := by
  rw [Int.tdiv_eq_ediv_of_nonneg hi, Int.tmod_eq_emod_of_nonneg hi]
  refine ⟨?_, Int.emod_nonneg _ (by omega), Int.emod_lt_of_pos _ (by omega), Int.ediv_nonneg hi (by omega)⟩
  rw [Int.mul_comm]
  exact Int.mul_ediv_add_emod i C
theorem kindsAt_mem {C i : Int} {x : CellD} {f : FaultD} (h : f ∈ kindsAt C i x) : f.2.1 = Int.tdiv i C ∧ f.2.2 = Int.tmod i C ∧ fits x f.1 = true := by
  unfold kindsAt at h
  obtain ⟨kd, h1, rfl⟩ := List.mem_map.1 h
  exact ⟨rfl, rfl, (List.mem_filter.1 h1).2⟩
theorem poss_mem {C : Int} : ∀ {r : List CellD} {i : Nat} {f : FaultD}, f ∈ possFrom C i r → ∃ j : Nat, i ≤ j ∧ j < i + r.length ∧ f.2.1 = Int.tdiv j C ∧ f.2.2 = Int.tmod j C ∧ fits (List.getD r (j - i) (0, 0)) f.1 = true
  | [], i, f, h => by simp [possFrom] at h
  | x :: r, i, f, h => by
    simp only [possFrom, List.mem_append] at h
    rcases h with h | h
    · obtain ⟨h1, h2, h3⟩ := kindsAt_mem h
      exact ⟨i, Nat.le_refl _, by simp, h1, h2, by simpa using h3⟩
    · have h' : f ∈ possFrom C ((i + 1 : Nat) : Int) r := h
      obtain ⟨j, h1, h2, h3, h4, h5⟩ := poss_mem h'
      refine ⟨j, by omega, by simp only [List.length_cons]; omega, h3, h4, ?_⟩
      rw [show j - i = (j - (i + 1)) + 1 by omega]
      exact h5
theorem poss_fault {b : BoardD} (hb : boardOK b = true) {f : FaultD} (h : f ∈ possFrom b.2.1 0 b.2.2) : 0 ≤ f.2.1 ∧ f.2.1 < b.1 ∧ 0 ≤ f.2.2 ∧ f.2.2 < b.2.1 ∧ fits (List.getD b.2.2 (placeOf b f).toNat (0, 0)) f.1 = true := by
  obtain ⟨g1, g2, g3, g4, g5, g6⟩ := board_ok hb
  have h' : f ∈ possFrom b.2.1 ((0 : Nat) : Int) b.2.2 := h
  obtain ⟨j, h1, h2, h3, h4, h5⟩ := poss_mem h'
  obtain ⟨d1, d2, d3, d4⟩ := div_mod (i := (j : Int)) (C := b.2.1) (by omega) g3
  have hp : placeOf b f = j := by unfold placeOf; rw [h3, h4]; exact d1
  refine ⟨by rw [h3]; exact d4, ?_, by rw [h4]; exact d2, by rw [h4]; exact d3, ?_⟩
  · rw [h3]
    by_cases hh : Int.tdiv (j : Int) b.2.1 < b.1
    · exact hh
    · have := Int.mul_le_mul_of_nonneg_right (show b.1 ≤ Int.tdiv (j : Int) b.2.1 by omega) (show 0 ≤ b.2.1 by omega)
      omega
  · rw [hp]
    simpa using h5
theorem poss_one {b : BoardD} (hb : boardOK b = true) {f : FaultD} (h : f ∈ possFrom b.2.1 0 b.2.2) : faultsOK b (-1) [f] = true := by
  obtain ⟨h1, h2, h3, h4, h5⟩ := poss_fault hb h
  have hp := place_ok hb h1 h2 h3 h4
  unfold placeOf at h5
  have h6 : 0 ≤ f.2.1 ∧ f.2.1 < b.1 ∧ 0 ≤ f.2.2 ∧ f.2.2 < b.2.1 ∧ -1 < f.2.1 * b.2.1 + f.2.2 := ⟨h1, h2, h3, h4, by omega⟩
  simp only [faultsOK, h5, h6, and_self, decide_true, Bool.and_self]
theorem poss_count {b : BoardD} (hb : boardOK b = true) : (possFrom b.2.1 0 b.2.2).length ≤ 270 := by
  obtain ⟨g1, g2, g3, g4, g5, g6⟩ := board_ok hb
  have hpp := prod_small g1 g2 g3 g4
  have := possFrom_len b.2.1 b.2.2 0
  omega
end Go.Proofs.Ytgpmbmnfcbippaa.Vs

set_option linter.unusedVariables false
set_option linter.unusedSimpArgs false
namespace Go.Proofs.Ytgpmbmnfcbippaa.Vs
open Go.RowKit
/-- How many lie in all rows together. -/
def szRows {α : Type} : List (List α) → Int
  | [] => 0
  | x :: r => (x.length : Int) + szRows r
theorem szRows_nonneg {α : Type} : ∀ (l : List (List α)), 0 ≤ szRows l
  | [] => Int.le_refl _
  | x :: r => by have := szRows_nonneg r; simp only [szRows]; omega
theorem szRows_mem {α : Type} : ∀ {l : List (List α)} {x : List α}, x ∈ l → (x.length : Int) ≤ szRows l
  | y :: r, x, h => by
    have h1 := szRows_nonneg r
    simp only [szRows]
    rcases List.mem_cons.1 h with rfl | h
    · omega
    · have := szRows_mem h; omega
theorem e_laws_szIntSS_0 : ∀ (r pre : List (List Int)) (n : Int), 0 ≤ n → n ≤ 1048576 → (∀ x ∈ r, x.length ≤ 9223372036854775807) → (pre ++ r).length ≤ 9223372036854775806 → Ev (fun k => f_laws_szIntSS_0 k (pre ++ r) n (pre.length : Int)) (if n - szRows r < 0 then LR.ret (-1) else LR.go (n - szRows r))
  | [], pre, n, h0, h1, hx, hl => by
    refine Ev.succ ?_
    simp only [f_laws_szIntSS_0, nlt_end, decide_false, Bool.false_eq_true, if_false]
    rw [if_neg (show ¬ n - szRows ([] : List (List Int)) < 0 by simp only [szRows]; omega)]
    exact Ev.of (by simp [szRows])
  | x :: r, pre, n, h0, h1, hx, hl => by
    have hxl := hx x (List.mem_cons_self ..)
    have hr := szRows_nonneg r
    refine Ev.succ ?_
    simp only [f_laws_szIntSS_0, lt_mid, ge_mid, decide_true, if_true, Int.toNat_natCast, getD_mid]
    rw [next_mid pre x r (by omega)]
    refine Ev.bind (e_laws_szIntS x n h0 h1 hxl) ?_
    by_cases h : n - (x.length : Int) < 0
    · simp only [h, if_true]
      rw [if_pos (show n - szRows (x :: r) < 0 by simp only [szRows]; omega)]
      exact Ev.some _
    · simp only [h, if_false, decide_false, Bool.false_eq_true]
      have ih := e_laws_szIntSS_0 r (pre ++ [x]) (n - x.length) (by omega) (by omega) (fun y hy => hx y (List.mem_cons_of_mem _ hy)) (by simpa using hl)
      rw [← shift_mid] at ih
      have e1 : n - szRows (x :: r) = n - (x.length : Int) - szRows r := by simp only [szRows]; omega
      rw [e1]
      exact ih
theorem e_laws_szIntSS (l : List (List Int)) (n : Int) (h0 : 0 ≤ n) (h1 : n ≤ 1048576) (hl : l.length ≤ 9223372036854775807) (hx : ∀ x ∈ l, x.length ≤ 9223372036854775807) : Ev (fun k => f_laws_szIntSS k l n) (if n - l.length < 0 then -1 else if n - l.length - szRows l < 0 then -1 else n - l.length - szRows l) := by
  refine Ev.succ ?_
  simp only [f_laws_szIntSS]
  rw [w64 (by omega) (by omega)]
  by_cases h : n - (l.length : Int) < 0
  · simp only [h, decide_true, if_true]; exact Ev.some _
  · simp only [h, decide_false, Bool.false_eq_true, if_false]
    refine Ev.bind (e_laws_szIntSS_0 l [] _ (by omega) (by omega) hx (by simp; omega)) ?_
    by_cases g : n - (l.length : Int) - szRows l < 0
    · simp only [g, if_true]; exact Ev.ret (Ev.some _)
    · simp only [g, if_false]; exact Ev.go (Ev.some _)
theorem e_laws_toIntSS_0 : ∀ (r pre rest : List (List Int)), rest.length = r.length → (∀ x ∈ r, x.length ≤ 1048576) → (pre ++ r).length ≤ 1048576 → Ev (fun k => f_laws_toIntSS_0 k (pre ++ rest) (pre ++ r) (pre.length : Int)) (pre ++ r)
  | [], pre, rest, h, hx, hl => by
    obtain rfl : rest = [] := List.eq_nil_of_length_eq_zero h
    refine Ev.succ ?_
    simp only [f_laws_toIntSS_0, nlt_end, decide_false, Bool.false_eq_true, if_false]
    exact Ev.some _
  | x :: r, pre, [], h, hx, hl => by simp at h
  | x :: r, pre, y :: rest, h, hx, hl => by
    have ih := e_laws_toIntSS_0 r (pre ++ [x]) rest (by simpa using h) (fun y hy => hx y (List.mem_cons_of_mem _ hy)) (by simpa using hl)
    refine Ev.succ ?_
    simp only [f_laws_toIntSS_0, lt_mid, ge_mid, decide_true, if_true, Int.toNat_natCast, getD_mid, set_mid]
    rw [next_mid pre x r (by omega)]
    refine Ev.bind (e_laws_toIntS x (hx x (List.mem_cons_self ..))) ?_
    rw [← shift_mid, ← shift_mid] at ih
    exact ih
theorem e_laws_toIntSS (l : List (List Int)) (hl : l.length ≤ 1048576) (hx : ∀ x ∈ l, x.length ≤ 1048576) : Ev (fun k => f_laws_toIntSS k l) l := by
  refine Ev.succ ?_
  have hm : l.length * 24 ≤ 281474976710656 := by omega
  simp only [f_laws_toIntSS, Int.toNat_natCast, hm, if_true]
  exact Ev.bind (e_laws_toIntSS_0 l [] (List.replicate l.length []) (by simp) hx (by simpa using hl)) (Ev.some _)
theorem e_laws_eqIntSS_0 : ∀ (r s pre pre' : List (List Int)), s.length = r.length → pre'.length = pre.length → (∀ x ∈ r, x.length ≤ 9223372036854775806) → (pre ++ r).length ≤ 9223372036854775806 → Ev (fun k => f_laws_eqIntSS_0 k (pre ++ r) (pre' ++ s) (pre.length : Int)) (if r = s then LR.go () else LR.ret false)
  | [], s, pre, pre', h, hp, hx, hl => by
    obtain rfl : s = [] := List.eq_nil_of_length_eq_zero h
    refine Ev.succ ?_
    simp only [f_laws_eqIntSS_0, nlt_end, decide_false, Bool.false_eq_true, if_false, if_true]
    exact Ev.some _
  | x :: r, [], pre, pre', h, hp, hx, hl => by simp at h
  | x :: r, y :: s, pre, pre', h, hp, hx, hl => by
    have ih := e_laws_eqIntSS_0 r s (pre ++ [x]) (pre' ++ [y]) (by simpa using h) (by simpa using hp) (fun y hy => hx y (List.mem_cons_of_mem _ hy)) (by simpa using hl)
    have l2 : (pre.length : Int) < ((pre' ++ y :: s).length : Int) := by rw [← hp]; exact lt_mid _ _ _
    have g2 : List.getD (pre' ++ y :: s) pre.length [] = y := by rw [← hp]; exact getD_mid _ _ _ _
    refine Ev.succ ?_
    simp only [f_laws_eqIntSS_0, lt_mid, ge_mid, l2, decide_true, if_true, Int.toNat_natCast, getD_mid, g2]
    rw [next_mid pre x r (by omega)]
    rw [← shift_mid, ← shift_mid] at ih
    refine Ev.bind (e_laws_eqIntS x y (hx x (List.mem_cons_self ..))) ?_
    by_cases hxy : x = y
    · subst hxy
      simp only [decide_true, Bool.not_true, Bool.false_eq_true, if_false]
      refine ih.congr ?_
      by_cases hrs : r = s <;> simp [hrs]
    · simp only [hxy, decide_false, Bool.not_false, if_true]
      refine Ev.of ?_
      rw [if_neg (by intro hc; injection hc with h1 h2; exact hxy h1)]
theorem e_laws_eqIntSS (l m : List (List Int)) (hl : l.length ≤ 9223372036854775806) (hx : ∀ x ∈ l, x.length ≤ 9223372036854775806) : Ev (fun k => f_laws_eqIntSS k l m) (decide (l = m)) := by
  refine Ev.succ ?_
  simp only [f_laws_eqIntSS]
  by_cases h : l.length = m.length
  · simp only [h, ne_eq, not_true_eq_false, decide_false, Bool.false_eq_true, if_false]
    refine Ev.bind (e_laws_eqIntSS_0 l m [] [] h.symm rfl hx (by simpa using hl)) ?_
    by_cases hlm : l = m
    · rw [if_pos hlm]; simp only [hlm, decide_true]; exact Ev.go (Ev.some _)
    · rw [if_neg hlm]; simp only [hlm, decide_false]; exact Ev.ret (Ev.some _)
  · have h2 : ¬ (l.length : Int) = (m.length : Int) := by omega
    have h3 : ¬ l = m := fun hc => h (by rw [hc])
    simp only [ne_eq, h2, not_false_eq_true, decide_true, if_true, h3, decide_false]
    exact Ev.some _
end Go.Proofs.Ytgpmbmnfcbippaa.Vs

set_option linter.unusedVariables false
set_option linter.unusedSimpArgs false
namespace Go.Proofs.Ytgpmbmnfcbippaa.Vs
open Go.RowKit
theorem e_impl_areTests_0 (b : BoardD) (hb : boardOK b = true) : ∀ (r pre : List (List Int)), (∀ x ∈ r, x.length ≤ 9223372036854775806) → (pre ++ r).length ≤ 9223372036854775806 → Ev (fun k => f_impl_areTests_0 k b.1 b.2.1 b.2.2 (pre ++ r) ((pre ++ r).length : Int) (pre.length : Int)) (if r.all (testOK b) then LR.go () else LR.ret false)
  | [], pre, hx, hl => by
    refine Ev.succ ?_
    simp only [f_impl_areTests_0, nlt_end, decide_false, Bool.false_eq_true, if_false, List.all_nil, if_true]
    exact Ev.some _
  | x :: r, pre, hx, hl => by
    obtain ⟨g1, g2, g3, g4, g5, g6⟩ := board_ok hb
    have hp := prod_small g1 g2 g3 g4
    have ih := e_impl_areTests_0 b hb r (pre ++ [x]) (fun y hy => hx y (List.mem_cons_of_mem _ hy)) (by simpa using hl)
    refine Ev.succ ?_
    simp only [f_impl_areTests_0, lt_mid, ge_mid, decide_true, if_true, Int.toNat_natCast, getD_mid]
    rw [next_mid pre x r (by omega)]
    rw [← shift_mid] at ih
    refine Ev.ite (fun h => ?_) (fun h => ?_)
    · simp only [decide_eq_true_eq] at h
      have : ¬ x.length ≤ 8 := by omega
      simp only [List.all_cons, testOK, this, decide_false, Bool.false_and, Bool.false_eq_true, if_false]; exact Ev.some _
    simp only [decide_eq_true_eq] at h
    have h8 : x.length ≤ 8 := by omega
    have h60 : x.length ≤ 60 := by omega
    refine Ev.bind (e_impl_validEntries b x (by omega) (hx x (List.mem_cons_self ..))) ?_
    simp only [hb, h60, decide_true, Bool.true_and]
    have ht : testOK b x = x.all (fun c => decide (0 ≤ c ∧ c < b.2.1)) := by simp only [testOK, h8, decide_true, Bool.true_and]
    rw [List.all_cons, ht]
    cases hxx : x.all (fun c => decide (0 ≤ c ∧ c < b.2.1)) with
    | true => simp only [Bool.not_true, Bool.false_eq_true, if_false, Bool.true_and]; exact ih
    | false => simp only [Bool.not_false, if_true, Bool.false_and, Bool.false_eq_true, if_false]; exact Ev.some _
theorem e_spec_tsTests_0 (b : BoardD) (hb : boardOK b = true) (w : List (List Int)) : ∀ (r pre : List (List Int)), (∀ x ∈ r, x.length ≤ 9223372036854775806) → (pre ++ r).length ≤ 9223372036854775806 → Ev (fun k => f_spec_tsTests_0 k b.1 b.2.1 b.2.2 w (pre ++ r) ((pre ++ r).length : Int) (pre.length : Int)) (if r.all (testOK b) then LR.go w else LR.ret false)
  | [], pre, hx, hl => by
    refine Ev.succ ?_
    simp only [f_spec_tsTests_0, nlt_end, decide_false, Bool.false_eq_true, if_false, List.all_nil, if_true]
    exact Ev.some _
  | x :: r, pre, hx, hl => by
    obtain ⟨g1, g2, g3, g4, g5, g6⟩ := board_ok hb
    have ih := e_spec_tsTests_0 b hb w r (pre ++ [x]) (fun y hy => hx y (List.mem_cons_of_mem _ hy)) (by simpa using hl)
    refine Ev.succ ?_
    simp only [f_spec_tsTests_0, lt_mid, ge_mid, decide_true, if_true, Int.toNat_natCast, getD_mid]
    rw [next_mid pre x r (by omega), w64 (n := b.2.1 - 1) (by omega) (by omega)]
    rw [← shift_mid] at ih
    refine Ev.ite (fun h => ?_) (fun h => ?_)
    · simp only [decide_eq_true_eq] at h
      have : ¬ x.length ≤ 8 := by omega
      simp only [List.all_cons, testOK, this, decide_false, Bool.false_and, Bool.false_eq_true, if_false]; exact Ev.some _
    simp only [decide_eq_true_eq] at h
    have h8 : x.length ≤ 8 := by omega
    refine Ev.bind (e_spec_l1All x 0 (b.2.1 - 1) (hx x (List.mem_cons_self ..))) ?_
    have hfun : (fun n : Int => decide (0 ≤ n ∧ n ≤ b.2.1 - 1)) = fun c => decide (0 ≤ c ∧ c < b.2.1) := by
      funext c
      apply decide_eq_decide.2
      omega
    rw [hfun]
    have ht : testOK b x = x.all (fun c => decide (0 ≤ c ∧ c < b.2.1)) := by simp only [testOK, h8, decide_true, Bool.true_and]
    rw [List.all_cons, ht]
    cases hxx : x.all (fun c => decide (0 ≤ c ∧ c < b.2.1)) with
    | true => simp only [Bool.not_true, Bool.false_eq_true, if_false, Bool.true_and]; exact ih
    | false => simp only [Bool.not_false, if_true, Bool.false_and, Bool.false_eq_true, if_false]; exact Ev.some _
def smallB (b : BoardD) : Bool := boardOK b && decide (b.2.2.length ≤ 30)
def testsOK (b : BoardD) (l : List (List Int)) : Bool := decide (l.length ≤ 10) && l.all (testOK b)
theorem e_impl_areTests (b : BoardD) (l : List (List Int)) (hb : b.2.2.length ≤ 9223372036854775806) (hl : l.length ≤ 9223372036854775806) (hx : ∀ x ∈ l, x.length ≤ 9223372036854775806) : Ev (fun k => f_impl_areTests k b l) (smallB b && testsOK b l) := by
  refine Ev.succ ?_
  simp only [f_impl_areTests]
  refine Ev.bind (e_impl_IsBoard b hb) ?_
  cases hbo : boardOK b with
  | false => simp only [Bool.not_false, if_true, smallB, hbo, Bool.false_and]; exact Ev.some _
  | true =>
    simp only [Bool.not_true, Bool.false_eq_true, if_false, smallB, hbo, Bool.true_and]
    refine Ev.ite (fun h => Ev.of ?_) (fun h => Ev.ite (fun h2 => Ev.of ?_) (fun h2 => ?_))
    · simp only [decide_eq_true_eq] at h
      have : ¬ b.2.2.length ≤ 30 := by omega
      simp [this]
    · simp only [decide_eq_true_eq] at h2
      have : ¬ l.length ≤ 10 := by omega
      simp [testsOK, this]
    · simp only [decide_eq_true_eq] at h h2
      have h3 : b.2.2.length ≤ 30 := by omega
      have h4 : l.length ≤ 10 := by omega
      refine Ev.bind (e_impl_areTests_0 b hbo l [] hx (by simpa using hl)) ?_
      simp only [h3, testsOK, h4, decide_true, Bool.true_and]
      cases hy : l.all (testOK b) with
      | true => simp only [if_true]; exact Ev.go (Ev.some _)
      | false => simp only [Bool.false_eq_true, if_false]; exact Ev.ret (Ev.some _)
theorem e_spec_tsGood (b : BoardD) (hb : b.2.2.length ≤ 9223372036854775806) : Ev (fun k => f_spec_tsGood k b) (smallB b) := by
  refine Ev.succ ?_
  simp only [f_spec_tsGood]
  refine Ev.bind (e_spec_boGood b hb) ?_
  cases hbo : boardOK b with
  | false => simp only [Bool.false_eq_true, if_false, smallB, hbo, Bool.false_and]; exact Ev.some _
  | true =>
    simp only [if_true, smallB, hbo, Bool.true_and]
    refine Ev.of ?_
    congr 1
    apply decide_eq_decide.2
    omega
theorem e_spec_tsTests (b : BoardD) (hbo : boardOK b = true) (l : List (List Int)) (hl : l.length ≤ 9223372036854775806) (hx : ∀ x ∈ l, x.length ≤ 9223372036854775806) : Ev (fun k => f_spec_tsTests k b l) (testsOK b l) := by
  refine Ev.succ ?_
  simp only [f_spec_tsTests]
  refine Ev.bind (e_spec_tsTests_0 b hbo l l [] hx (by simpa using hl)) ?_
  cases hy : l.all (testOK b) with
  | true =>
    simp only [if_true, testsOK, hy, Bool.and_true]
    refine Ev.go (Ev.of ?_)
    congr 1
    apply decide_eq_decide.2
    omega
  | false => simp only [Bool.false_eq_true, if_false, testsOK, hy, Bool.and_false]; exact Ev.ret (Ev.some _)
end Go.Proofs.Ytgpmbmnfcbippaa.Vs

set_option linter.unusedVariables false
set_option linter.unusedSimpArgs false
namespace Go.Proofs.Ytgpmbmnfcbippaa.Vs
open Go.RowKit
theorem e_laws_szFallSS_0 : ∀ (r pre : List (List (Int × Int × Int))) (n : Int), 0 ≤ n → n ≤ 1048576 → (∀ x ∈ r, x.length ≤ 9223372036854775807) → (pre ++ r).length ≤ 9223372036854775806 → Ev (fun k => f_laws_szFallSS_0 k (pre ++ r) n (pre.length : Int)) (if n - szRows r < 0 then LR.ret (-1) else LR.go (n - szRows r))
  | [], pre, n, h0, h1, hx, hl => by
    refine Ev.succ ?_
    simp only [f_laws_szFallSS_0, nlt_end, decide_false, Bool.false_eq_true, if_false]
    rw [if_neg (show ¬ n - szRows ([] : List (List (Int × Int × Int))) < 0 by simp only [szRows]; omega)]
    exact Ev.of (by simp [szRows])
  | x :: r, pre, n, h0, h1, hx, hl => by
    have hxl := hx x (List.mem_cons_self ..)
    have hr := szRows_nonneg r
    refine Ev.succ ?_
    simp only [f_laws_szFallSS_0, lt_mid, ge_mid, decide_true, if_true, Int.toNat_natCast, getD_mid]
    rw [next_mid pre x r (by omega)]
    refine Ev.bind (e_laws_szFallS x n h0 h1 hxl) ?_
    by_cases h : n - (x.length : Int) < 0
    · simp only [h, if_true]
      rw [if_pos (show n - szRows (x :: r) < 0 by simp only [szRows]; omega)]
      exact Ev.some _
    · simp only [h, if_false, decide_false, Bool.false_eq_true]
      have ih := e_laws_szFallSS_0 r (pre ++ [x]) (n - x.length) (by omega) (by omega) (fun y hy => hx y (List.mem_cons_of_mem _ hy)) (by simpa using hl)
      rw [← shift_mid] at ih
      have e1 : n - szRows (x :: r) = n - (x.length : Int) - szRows r := by simp only [szRows]; omega
      rw [e1]
      exact ih
theorem e_laws_szFallSS (l : List (List (Int × Int × Int))) (n : Int) (h0 : 0 ≤ n) (h1 : n ≤ 1048576) (hl : l.length ≤ 9223372036854775807) (hx : ∀ x ∈ l, x.length ≤ 9223372036854775807) : Ev (fun k => f_laws_szFallSS k l n) (if n - l.length < 0 then -1 else if n - l.length - szRows l < 0 then -1 else n - l.length - szRows l) := by
  refine Ev.succ ?_
  simp only [f_laws_szFallSS]
  rw [w64 (by omega) (by omega)]
  by_cases h : n - (l.length : Int) < 0
  · simp only [h, decide_true, if_true]; exact Ev.some _
  · simp only [h, decide_false, Bool.false_eq_true, if_false]
    refine Ev.bind (e_laws_szFallSS_0 l [] _ (by omega) (by omega) hx (by simp; omega)) ?_
    by_cases g : n - (l.length : Int) - szRows l < 0
    · simp only [g, if_true]; exact Ev.ret (Ev.some _)
    · simp only [g, if_false]; exact Ev.go (Ev.some _)
theorem e_laws_toFallSS_0 : ∀ (r pre rest : List (List (Int × Int × Int))), rest.length = r.length → (∀ x ∈ r, x.length ≤ 1048576) → (pre ++ r).length ≤ 1048576 → Ev (fun k => f_laws_toFallSS_0 k (pre ++ rest) (pre ++ r) (pre.length : Int)) (pre ++ r)
  | [], pre, rest, h, hx, hl => by
    obtain rfl : rest = [] := List.eq_nil_of_length_eq_zero h
    refine Ev.succ ?_
    simp only [f_laws_toFallSS_0, nlt_end, decide_false, Bool.false_eq_true, if_false]
    exact Ev.some _
  | x :: r, pre, [], h, hx, hl => by simp at h
  | x :: r, pre, y :: rest, h, hx, hl => by
    have ih := e_laws_toFallSS_0 r (pre ++ [x]) rest (by simpa using h) (fun y hy => hx y (List.mem_cons_of_mem _ hy)) (by simpa using hl)
    refine Ev.succ ?_
    simp only [f_laws_toFallSS_0, lt_mid, ge_mid, decide_true, if_true, Int.toNat_natCast, getD_mid, set_mid]
    rw [next_mid pre x r (by omega)]
    refine Ev.bind (e_laws_toFallS x (hx x (List.mem_cons_self ..))) ?_
    rw [← shift_mid, ← shift_mid] at ih
    exact ih
theorem e_laws_toFallSS (l : List (List (Int × Int × Int))) (hl : l.length ≤ 1048576) (hx : ∀ x ∈ l, x.length ≤ 1048576) : Ev (fun k => f_laws_toFallSS k l) l := by
  refine Ev.succ ?_
  have hm : l.length * 24 ≤ 281474976710656 := by omega
  simp only [f_laws_toFallSS, Int.toNat_natCast, hm, if_true]
  exact Ev.bind (e_laws_toFallSS_0 l [] (List.replicate l.length []) (by simp) hx (by simpa using hl)) (Ev.some _)
theorem e_laws_eqFallSS_0 : ∀ (r s pre pre' : List (List (Int × Int × Int))), s.length = r.length → pre'.length = pre.length → (∀ x ∈ r, x.length ≤ 9223372036854775806) → (pre ++ r).length ≤ 9223372036854775806 → Ev (fun k => f_laws_eqFallSS_0 k (pre ++ r) (pre' ++ s) (pre.length : Int)) (if r = s then LR.go () else LR.ret false)
  | [], s, pre, pre', h, hp, hx, hl => by
    obtain rfl : s = [] := List.eq_nil_of_length_eq_zero h
    refine Ev.succ ?_
    simp only [f_laws_eqFallSS_0, nlt_end, decide_false, Bool.false_eq_true, if_false, if_true]
    exact Ev.some _
  | x :: r, [], pre, pre', h, hp, hx, hl => by simp at h
  | x :: r, y :: s, pre, pre', h, hp, hx, hl => by
    have ih := e_laws_eqFallSS_0 r s (pre ++ [x]) (pre' ++ [y]) (by simpa using h) (by simpa using hp) (fun y hy => hx y (List.mem_cons_of_mem _ hy)) (by simpa using hl)
    have l2 : (pre.length : Int) < ((pre' ++ y :: s).length : Int) := by rw [← hp]; exact lt_mid _ _ _
    have g2 : List.getD (pre' ++ y :: s) pre.length [] = y := by rw [← hp]; exact getD_mid _ _ _ _
    refine Ev.succ ?_
    simp only [f_laws_eqFallSS_0, lt_mid, ge_mid, l2, decide_true, if_true, Int.toNat_natCast, getD_mid, g2]
    rw [next_mid pre x r (by omega)]
    rw [← shift_mid, ← shift_mid] at ih
    refine Ev.bind (e_laws_eqFallS x y (hx x (List.mem_cons_self ..))) ?_
    by_cases hxy : x = y
    · subst hxy
      simp only [decide_true, Bool.not_true, Bool.false_eq_true, if_false]
      refine ih.congr ?_
      by_cases hrs : r = s <;> simp [hrs]
    · simp only [hxy, decide_false, Bool.not_false, if_true]
      refine Ev.of ?_
      rw [if_neg (by intro hc; injection hc with h1 h2; exact hxy h1)]
theorem e_laws_eqFallSS (l m : List (List (Int × Int × Int))) (hl : l.length ≤ 9223372036854775806) (hx : ∀ x ∈ l, x.length ≤ 9223372036854775806) : Ev (fun k => f_laws_eqFallSS k l m) (decide (l = m)) := by
  refine Ev.succ ?_
  simp only [f_laws_eqFallSS]
  by_cases h : l.length = m.length
  · simp only [h, ne_eq, not_true_eq_false, decide_false, Bool.false_eq_true, if_false]
    refine Ev.bind (e_laws_eqFallSS_0 l m [] [] h.symm rfl hx (by simpa using hl)) ?_
    by_cases hlm : l = m
    · rw [if_pos hlm]; simp only [hlm, decide_true]; exact Ev.go (Ev.some _)
    · rw [if_neg hlm]; simp only [hlm, decide_false]; exact Ev.ret (Ev.some _)
  · have h2 : ¬ (l.length : Int) = (m.length : Int) := by omega
    have h3 : ¬ l = m := fun hc => h (by rw [hc])
    simp only [ne_eq, h2, not_false_eq_true, decide_true, if_true, h3, decide_false]
    exact Ev.some _
end Go.Proofs.Ytgpmbmnfcbippaa.Vs

set_option linter.unusedVariables false
set_option linter.unusedSimpArgs false
namespace Go.Proofs.Ytgpmbmnfcbippaa.Vs
open Go.RowKit
/-- The marks from k on, row by row. -/
def marksFallSS : List (List (Int × Int × Int)) → Int → List (List (Int × Int × Int))
  | [], _ => []
  | x :: r, k => marksFallS x k :: marksFallSS r (k + 3 * x.length)
theorem e_laws_markFallSS_0 : ∀ (r pre : List (List (Int × Int × Int))) (c : Int), 0 ≤ c → c + 3 * szRows r ≤ 4611686018427387904 → (pre ++ r).length ≤ 4611686018427387904 → Ev (fun k => f_laws_markFallSS_0 k (pre ++ r) c (pre.length : Int)) (pre ++ marksFallSS r c, c + 3 * szRows r)
  | [], pre, c, hc, h, hl => by
    refine Ev.succ ?_
    simp only [f_laws_markFallSS_0, nlt_end, decide_false, Bool.false_eq_true, if_false, marksFallSS, szRows, Int.mul_zero, Int.add_zero]
    exact Ev.some _
  | x :: r, pre, c, hc, h, hl => by
    have hz := szRows_nonneg r
    simp only [szRows] at h ⊢
    have h' : (c + 3 * (x.length : Int)) + 3 * szRows r = c + 3 * ((x.length : Int) + szRows r) := by omega
    have ih := e_laws_markFallSS_0 r (pre ++ [marksFallS x c]) (c + 3 * x.length) (by omega) (by omega) (by simpa using hl)
    have hn := next_mid pre x r (by omega)
    have hn2 : ((pre ++ [x]).length : Int) = ((pre ++ [marksFallS x c]).length : Int) := by simp
    have hx := e_laws_markFallS x c hc (by omega)
    refine Ev.succ ?_
    unfold f_laws_markFallSS_0
    refine Ev.ite (fun _ => Ev.ite (fun _ => Ev.ite (fun _ => ?_) (fun h => absurd (lt_mid _ _ _) h)) (fun h => absurd (ge_mid _) h)) (fun h => absurd (decide_eq_true (lt_mid _ _ _)) h)
    refine Ev.bind (a := (List.getD (pre ++ x :: r) (Int.toNat (pre.length : Int)) [], c, ())) (Ev.of ((if_pos (c := (1 : Nat) = 1 ∧ (pre.length : Int) = pre.length) ⟨rfl, rfl⟩).trans rfl)) ?_
    simp only [Int.toNat_natCast, getD_mid]
    refine Ev.bind hx ?_
    simp only [set_mid, hn]
    rw [← shift_mid, h'] at ih
    rw [hn2]
    refine ih.congr ?_
    simp [marksFallSS]
theorem e_laws_markFallSS (l : List (List (Int × Int × Int))) (c : Int) (hc : 0 ≤ c) (h : c + 3 * szRows l ≤ 4611686018427387904) (hl : l.length ≤ 4611686018427387904) : Ev (fun k => f_laws_markFallSS k l c) (c + 3 * szRows l, marksFallSS l c) :=
  Ev.succ (Ev.bind (e_laws_markFallSS_0 l [] c hc h (by simpa using hl)) (Ev.some _))
end Go.Proofs.Ytgpmbmnfcbippaa.Vs

set_option linter.unusedVariables false
set_option linter.unusedSimpArgs false
namespace Go.Proofs.Ytgpmbmnfcbippaa.Vs
open Go.RowKit
/-- The marks from k on, row by row. -/
def marksIntSS : List (List Int) → Int → List (List Int)
  | [], _ => []
  | x :: r, k => marksIntS x k :: marksIntSS r (k + 1 * x.length)
theorem marksIntSS_len : ∀ (l : List (List Int)) (k : Int), (marksIntSS l k).length = l.length
  | [], _ => rfl
  | _ :: r, k => by simp [marksIntSS, marksIntSS_len r]
theorem e_laws_markIntSS_0 : ∀ (r pre : List (List Int)) (c : Int), 0 ≤ c → c + 1 * szRows r ≤ 4611686018427387904 → (pre ++ r).length ≤ 4611686018427387904 → Ev (fun k => f_laws_markIntSS_0 k (pre ++ r) c (pre.length : Int)) (pre ++ marksIntSS r c, c + 1 * szRows r)
  | [], pre, c, hc, h, hl => by
    refine Ev.succ ?_
    simp only [f_laws_markIntSS_0, nlt_end, decide_false, Bool.false_eq_true, if_false, marksIntSS, szRows, Int.mul_zero, Int.add_zero]
    exact Ev.some _
  | x :: r, pre, c, hc, h, hl => by
    have hz := szRows_nonneg r
    simp only [szRows] at h ⊢
    have h' : (c + 1 * (x.length : Int)) + 1 * szRows r = c + 1 * ((x.length : Int) + szRows r) := by omega
    have ih := e_laws_markIntSS_0 r (pre ++ [marksIntS x c]) (c + 1 * x.length) (by omega) (by omega) (by simpa using hl)
    have hn := next_mid pre x r (by omega)
    have hn2 : ((pre ++ [x]).length : Int) = ((pre ++ [marksIntS x c]).length : Int) := by simp
    have hx := e_laws_markIntS x c hc (by omega)
    refine Ev.succ ?_
    unfold f_laws_markIntSS_0
    refine Ev.ite (fun _ => Ev.ite (fun _ => Ev.ite (fun _ => ?_) (fun h => absurd (lt_mid _ _ _) h)) (fun h => absurd (ge_mid _) h)) (fun h => absurd (decide_eq_true (lt_mid _ _ _)) h)
    refine Ev.bind (a := (List.getD (pre ++ x :: r) (Int.toNat (pre.length : Int)) [], c, ())) (Ev.of ((if_pos (c := (1 : Nat) = 1 ∧ (pre.length : Int) = pre.length) ⟨rfl, rfl⟩).trans rfl)) ?_
    simp only [Int.toNat_natCast, getD_mid]
    refine Ev.bind hx ?_
    simp only [set_mid, hn]
    rw [← shift_mid, h'] at ih
    rw [hn2]
    refine ih.congr ?_
    simp [marksIntSS]
theorem e_laws_markIntSS (l : List (List Int)) (c : Int) (hc : 0 ≤ c) (h : c + 1 * szRows l ≤ 4611686018427387904) (hl : l.length ≤ 4611686018427387904) : Ev (fun k => f_laws_markIntSS k l c) (c + 1 * szRows l, marksIntSS l c) :=
  Ev.succ (Ev.bind (e_laws_markIntSS_0 l [] c hc h (by simpa using hl)) (Ev.some _))
theorem e_laws_heldIntSS_0 : ∀ (r pre : List (List Int)) (c : Int), 0 ≤ c → c + 1 * szRows r ≤ 4611686018427387904 → (pre ++ marksIntSS r c).length ≤ 4611686018427387904 → Ev (fun k => f_laws_heldIntSS_0 k (pre ++ marksIntSS r c) c (pre.length : Int)) (LR.go (c + 1 * szRows r))
  | [], pre, c, hc, h, hl => by
    refine Ev.succ ?_
    simp only [f_laws_heldIntSS_0, marksIntSS, nlt_end, decide_false, Bool.false_eq_true, if_false, szRows, Int.mul_zero, Int.add_zero]
    exact Ev.some _
  | x :: r, pre, c, hc, h, hl => by
    have hz := szRows_nonneg r
    simp only [szRows] at h ⊢
    have h' : (c + 1 * (x.length : Int)) + 1 * szRows r = c + 1 * ((x.length : Int) + szRows r) := by omega
    simp only [marksIntSS] at hl ⊢
    have ih := e_laws_heldIntSS_0 r (pre ++ [marksIntS x c]) (c + 1 * x.length) (by omega) (by omega) (by simpa using hl)
    have hn := next_mid pre (marksIntS x c) (marksIntSS r (c + 1 * x.length)) (by omega)
    refine Ev.succ ?_
    simp only [f_laws_heldIntSS_0, lt_mid, ge_mid, decide_true, if_true, Int.toNat_natCast, getD_mid, hn]
    refine Ev.bind (e_laws_heldIntS x c hc (by omega)) (Ev.ite (fun h => ?_) (fun _ => ?_))
    · simp only [decide_eq_true_eq] at h; omega
    · rw [← shift_mid, h'] at ih
      exact ih
theorem e_laws_heldIntSS (l : List (List Int)) (c : Int) (hc : 0 ≤ c) (h : c + 1 * szRows l ≤ 4611686018427387904) (hl : l.length ≤ 4611686018427387904) : Ev (fun k => f_laws_heldIntSS k (marksIntSS l c) c) (c + 1 * szRows l) := by
  refine Ev.succ (Ev.bind (e_laws_heldIntSS_0 l [] c hc h (by rw [List.nil_append, marksIntSS_len]; exact hl)) ?_)
  exact Ev.go (Ev.some _)
end Go.Proofs.Ytgpmbmnfcbippaa.Vs

set_option linter.unusedVariables false
set_option linter.unusedSimpArgs false
namespace Go.Proofs.Ytgpmbmnfcbippaa.Vs
open Go.RowKit
theorem e_spec_tsEnds_0 (b : BoardD) (hb : boardOK b = true) (l : List FaultD) (hl : faultsOK b (-1) l = true) (hll : l.length ≤ 9223372036854775806) : ∀ (r pre : List (List Int)) (acc : List (List FallD)), (∀ t ∈ r, t.length ≤ 1000 ∧ colsOK b t) → (pre ++ r).length ≤ 1000 → acc.length ≤ pre.length → Ev (fun k => f_spec_tsEnds_0 k b.1 b.2.1 b.2.2 acc l (pre ++ r) ((pre ++ r).length : Int) (pre.length : Int)) (acc ++ r.map (endsOf b l))
  | [], pre, acc, ht, hln, ha => by
    refine Ev.succ ?_
    simp only [f_spec_tsEnds_0, nlt_end, decide_false, Bool.false_eq_true, if_false]
    exact Ev.of (by simp)
  | t :: r, pre, acc, ht, hln, ha => by
    have ih := e_spec_tsEnds_0 b hb l hl hll r (pre ++ [t]) (acc ++ [endsOf b l t]) (fun x hx => ht x (List.mem_cons_of_mem _ hx)) (by simpa using hln) (by simp; omega)
    rw [← shift_mid] at ih
    have hal : acc.length + 1 ≤ 140737488355328 / 24 := by simp at hln; omega
    refine Ev.succ ?_
    simp only [f_spec_tsEnds_0, lt_mid, ge_mid, decide_true, if_true, Int.toNat_natCast, getD_mid, List.length_singleton, hal]
    rw [next_mid pre t r (by omega)]
    obtain ⟨t1, t2⟩ := ht t (List.mem_cons_self ..)
    refine Ev.bind (e_spec_faAll b hb l hl hll t t1 t2) ?_
    refine ih.congr ?_
    simp
theorem e_spec_tsEnds (b : BoardD) (hb : boardOK b = true) (l : List FaultD) (hl : faultsOK b (-1) l = true) (hll : l.length ≤ 9223372036854775806) (T : List (List Int)) (hT : ∀ t ∈ T, t.length ≤ 1000 ∧ colsOK b t) (hn : T.length ≤ 1000) : Ev (fun k => f_spec_tsEnds k b l T) (T.map (endsOf b l)) := by
  refine Ev.succ ?_
  simp only [f_spec_tsEnds]
  exact Ev.bind (e_spec_tsEnds_0 b hb l hl hll T [] [] hT (by simpa using hn) (by simp)) (Ev.some _)
theorem e_impl_testEnds_0 (b : BoardD) (hb : boardOK b = true) (l : List FaultD) (hl : faultsOK b (-1) l = true) (hll : l.length ≤ 9223372036854775806) : ∀ (r pre : List (List Int)) (acc : List (List FallD)), (∀ t ∈ r, t.length ≤ 1000 ∧ colsOK b t) → (pre ++ r).length ≤ 1000 → acc.length ≤ pre.length → Ev (fun k => f_impl_testEnds_0 k b.1 b.2.1 b.2.2 acc l (pre ++ r) ((pre ++ r).length : Int) (pre.length : Int)) (acc ++ r.map (endsOf b l))
  | [], pre, acc, ht, hln, ha => by
    refine Ev.succ ?_
    simp only [f_impl_testEnds_0, nlt_end, decide_false, Bool.false_eq_true, if_false]
    exact Ev.of (by simp)
  | t :: r, pre, acc, ht, hln, ha => by
    have ih := e_impl_testEnds_0 b hb l hl hll r (pre ++ [t]) (acc ++ [endsOf b l t]) (fun x hx => ht x (List.mem_cons_of_mem _ hx)) (by simpa using hln) (by simp; omega)
    rw [← shift_mid] at ih
    have hal : acc.length + 1 ≤ 140737488355328 / 24 := by simp at hln; omega
    refine Ev.succ ?_
    simp only [f_impl_testEnds_0, lt_mid, ge_mid, decide_true, if_true, Int.toNat_natCast, getD_mid, List.length_singleton, hal]
    rw [next_mid pre t r (by omega)]
    obtain ⟨t1, t2⟩ := ht t (List.mem_cons_self ..)
    refine Ev.bind (e_impl_faultyDrops b hb l hl hll t t1 t2) ?_
    refine ih.congr ?_
    simp
theorem e_impl_testEnds (b : BoardD) (hb : boardOK b = true) (l : List FaultD) (hl : faultsOK b (-1) l = true) (hll : l.length ≤ 9223372036854775806) (T : List (List Int)) (hT : ∀ t ∈ T, t.length ≤ 1000 ∧ colsOK b t) (hn : T.length ≤ 1000) : Ev (fun k => f_impl_testEnds k b l T) (T.map (endsOf b l)) := by
  refine Ev.succ ?_
  simp only [f_impl_testEnds]
  exact Ev.bind (e_impl_testEnds_0 b hb l hl hll T [] [] hT (by simpa using hn) (by simp)) (Ev.some _)
theorem tests_ok {b : BoardD} {T : List (List Int)} (h : (smallB b && testsOK b T) = true) : boardOK b = true ∧ T.length ≤ 10 ∧ ∀ t ∈ T, t.length ≤ 8 ∧ colsOK b t := by
  unfold smallB testsOK testOK at h
  simp only [Bool.and_eq_true, decide_eq_true_eq, List.all_eq_true] at h
  exact ⟨h.1.1, h.2.1, h.2.2⟩
theorem e_spec_tsAsked (b : BoardD) (T : List (List Int)) (hb : b.2.2.length ≤ 9223372036854775806) (hl : T.length ≤ 9223372036854775806) (hx : ∀ x ∈ T, x.length ≤ 9223372036854775806) : Ev (fun k => f_spec_tsAsked k b T) (smallB b && testsOK b T) := by
  refine Ev.succ ?_
  simp only [f_spec_tsAsked]
  refine Ev.bind (e_spec_tsGood b hb) ?_
  cases h : smallB b with
  | false => simp only [Bool.false_eq_true, if_false, Bool.false_and]; exact Ev.some _
  | true =>
    have hbo : boardOK b = true := by unfold smallB at h; rw [Bool.and_eq_true] at h; exact h.1
    simp only [if_true, Bool.true_and]
    exact Ev.bind (e_spec_tsTests b hbo T hl hx) (Ev.some _)
theorem szRows_le {α : Type} {l : List (List α)} {n : Nat} (h : ∀ x ∈ l, x.length ≤ n) : szRows l ≤ (l.length : Int) * n := by
  induction l with
  | nil => simp [szRows]
  | cons x r ih =>
    have h1 := h x (List.mem_cons_self ..)
    have h2 := ih (fun y hy => h y (List.mem_cons_of_mem _ hy))
    simp only [szRows, List.length_cons]
    rw [Int.natCast_add, Int.add_mul]
    omega
end Go.Proofs.Ytgpmbmnfcbippaa.Vs

set_option linter.unusedVariables false
set_option linter.unusedSimpArgs false
namespace Go.Proofs.Ytgpmbmnfcbippaa.Vs
open Go.RowKit
section
variable {α : Type} [DecidableEq α] (key : Nat → α)
/-- No number before k has its key. -/
def isFirst (k : Nat) : Bool := (List.range k).all fun i => decide (key i ≠ key k)
def firsts (n : Nat) : List Nat := (List.range n).filter (isFirst key)
def members (n f : Nat) : List Int := ((List.range n).filter fun j => decide (key j = key f)).map fun (j : Nat) => (j : Int) - 1
/-- The numbers below n less one, by their keys, in the order of their first ones. -/
def classesL (n : Nat) : List (List Int) := (firsts key n).map (members key n)
theorem firsts_lt {n f : Nat} (h : f ∈ firsts key n) : f < n ∧ isFirst key f = true := by
  unfold firsts at h
  rw [List.mem_filter, List.mem_range] at h
  exact h
theorem isFirst_ne {k i : Nat} (h : isFirst key k = true) (hi : i < k) : key i ≠ key k := by
  unfold isFirst at h
  rw [List.all_eq_true] at h
  exact of_decide_eq_true (h i (List.mem_range.2 hi))
theorem firsts_pairwise (n : Nat) : List.Pairwise (fun f g => key f ≠ key g) (firsts key n) := by
  have h1 : List.Pairwise (fun a b => a < b) (firsts key n) := List.Pairwise.filter _ List.pairwise_lt_range
  refine List.Pairwise.imp_of_mem (fun {f g} hf hg hlt => ?_) h1
  exact isFirst_ne key (firsts_lt key hg).2 hlt
theorem firsts_succ (n : Nat) : firsts key (n + 1) = firsts key n ++ (if isFirst key n then [n] else []) := by
  unfold firsts
  rw [List.range_succ, List.filter_append]
  congr 1
  cases h : isFirst key n <;> simp [List.filter, h]
theorem members_succ (n f : Nat) : members key (n + 1) f = members key n f ++ (if key n = key f then [(n : Int) - 1] else []) := by
  unfold members
  rw [List.range_succ, List.filter_append, List.map_append]
  congr 1
  by_cases h : key n = key f <;> simp [List.filter, h]
theorem first_head {n f : Nat} (h : f ∈ firsts key n) : ∃ r, members key n f = ((f : Int) - 1) :: r := by
  obtain ⟨h1, h2⟩ := firsts_lt key h
  induction n with
  | zero => omega
  | succ n ih =>
    rw [members_succ]
    by_cases hf : f < n
    · have hm : f ∈ firsts key n := by unfold firsts; rw [List.mem_filter, List.mem_range]; exact ⟨hf, h2⟩
      obtain ⟨r, hr⟩ := ih hm hf
      exact ⟨_, by rw [hr]; rfl⟩
    · have hfn : f = n := by omega
      subst hfn
      have : members key f f = [] := by
        unfold members
        rw [List.map_eq_nil_iff, List.filter_eq_nil_iff]
        intro j hj
        have := isFirst_ne key h2 (List.mem_range.1 hj)
        simpa using this
      rw [this, if_pos rfl]
      exact ⟨[], rfl⟩
/-- How many of the first ones come before that with the key. -/
def placeIx (x : α) : List Nat → Nat
  | [] => 0
  | f :: r => if key f = x then 0 else placeIx x r + 1
theorem placeIx_le (x : α) : ∀ (F : List Nat), placeIx key x F ≤ F.length
  | [] => Nat.le_refl _
  | f :: r => by
    have := placeIx_le x r
    simp only [placeIx]
    split <;> simp
    omega
theorem placeIx_all {x : α} : ∀ {F : List Nat}, placeIx key x F = F.length → ∀ f ∈ F, key f ≠ x
  | [], _, f, hf => by cases hf
  | g :: r, h, f, hf => by
    simp only [placeIx] at h
    split at h
    · simp at h
    · rename_i hg
      rcases List.mem_cons.1 hf with rfl | hf
      · exact hg
      · exact placeIx_all (by simpa using h) f hf
theorem map_add (m : Nat → List Int) (x : α) (y : Int) : ∀ (F : List Nat), List.Pairwise (fun f g => key f ≠ key g) F →
    F.map (fun f => m f ++ (if x = key f then [y] else [])) = if placeIx key x F < F.length then List.set (F.map m) (placeIx key x F) (List.getD (F.map m) (placeIx key x F) [] ++ [y]) else F.map m
  | [], _ => by simp
  | f :: F, hp => by
    obtain ⟨h1, h2⟩ := List.pairwise_cons.1 hp
    have ih := map_add m x y F h2
    by_cases hf : key f = x
    · subst hf
      have h3 : F.map (fun g => m g ++ (if key f = key g then [y] else [])) = F.map m := List.map_congr_left (fun g hg => by rw [if_neg (h1 g hg), List.append_nil])
      simp only [List.map_cons, h3, placeIx, if_true, List.length_cons, Nat.zero_lt_succ, List.set_cons_zero, List.getD_cons_zero]
    · have hf' : ¬ x = key f := fun h => hf h.symm
      simp only [List.map_cons, placeIx, if_neg hf, if_neg hf', List.append_nil, ih, List.length_cons, Nat.add_lt_add_iff_right, List.set_cons_succ, List.getD_cons_succ]
      split <;> rfl
theorem classes_old {k : Nat} (h : placeIx key (key k) (firsts key k) < (firsts key k).length) : classesL key (k + 1) = List.set (classesL key k) (placeIx key (key k) (firsts key k)) (List.getD (classesL key k) (placeIx key (key k) (firsts key k)) [] ++ [(k : Int) - 1]) := by
  have hnf : isFirst key k = false := by
    cases hc : isFirst key k with
    | false => rfl
    | true =>
      exfalso
      have hall : ∀ f ∈ firsts key k, key f ≠ key k := fun f hf => isFirst_ne key hc (firsts_lt key hf).1
      have : ∀ (F : List Nat), (∀ f ∈ F, key f ≠ key k) → placeIx key (key k) F = F.length := by
        intro F
        induction F with
        | nil => intro _; rfl
        | cons g r ih =>
          intro hF
          simp only [placeIx]
          rw [if_neg (hF g (List.mem_cons_self ..)), ih (fun f hf => hF f (List.mem_cons_of_mem _ hf))]
          rfl
      have := this _ hall
      omega
  unfold classesL
  rw [firsts_succ, hnf]
  simp only [Bool.false_eq_true, if_false, List.append_nil]
  rw [show members key (k + 1) = fun f => members key k f ++ (if key k = key f then [(k : Int) - 1] else []) from funext (members_succ key k)]
  rw [map_add key _ _ _ _ (firsts_pairwise key k), if_pos h]
theorem classes_new {k : Nat} (h : placeIx key (key k) (firsts key k) = (firsts key k).length) : classesL key (k + 1) = classesL key k ++ [[(k : Int) - 1]] := by
  have hall := placeIx_all key h
  have hf : isFirst key k = true := by
    cases hc : isFirst key k with
    | true => rfl
    | false =>
      exfalso
      -- the least number with this key is a first one
      have : ∀ m, m < k → key m = key k → False := by
        intro m
        induction m using Nat.strongRecOn with
        | ind m ih =>
          intro hm hk
          by_cases hfm : isFirst key m = true
          · refine hall m ?_ hk
            unfold firsts
            rw [List.mem_filter, List.mem_range]
            exact ⟨hm, hfm⟩
          · unfold isFirst at hfm
            rw [List.all_eq_true] at hfm
            apply hfm
            intro i hi
            have hi := List.mem_range.1 hi
            refine decide_eq_true (fun he => ih i hi (by omega) (he.trans hk))
      unfold isFirst at hc
      rw [List.all_eq_false] at hc
      obtain ⟨i, hi, hd⟩ := hc
      exact this i (List.mem_range.1 hi) (by simpa using hd)
  unfold classesL
  rw [firsts_succ, hf]
  simp only [if_true, List.map_append, members_succ, List.map_cons, List.map_nil]
  have h1 : (firsts key k).map (fun f => members key k f ++ (if key k = key f then [(k : Int) - 1] else [])) = (firsts key k).map (members key k) :=
    List.map_congr_left (fun f hf => by rw [if_neg (fun he => hall f hf he.symm), List.append_nil])
  have h2 : members key k k = [] := by
    unfold members
    rw [List.map_eq_nil_iff, List.filter_eq_nil_iff]
    intro j hj
    have := isFirst_ne key hf (List.mem_range.1 hj)
    simpa using this
  rw [(List.map_congr_left (fun f _ => members_succ key k f)).trans h1, h2]
  simp
/-- The first number from i on (n of them) with the key of k. -/
def fstR (k : Nat) : Nat → Nat → Nat
  | 0, i => i
  | n + 1, i => if key i = key k then i else fstR k n (i + 1)
def fstOf (k : Nat) : Nat := fstR key k k 0
theorem fstR_ok (k : Nat) : ∀ (n i : Nat), i + n = k → (∀ j, j < i → key j ≠ key k) → fstR key k n i ≤ k ∧ key (fstR key k n i) = key k ∧ ∀ j, j < fstR key k n i → key j ≠ key k
  | 0, i, h, hj => by
    have : i = k := by omega
    subst this
    exact ⟨Nat.le_refl _, rfl, hj⟩
  | n + 1, i, h, hj => by
    simp only [fstR]
    split
    · rename_i hi
      exact ⟨by omega, hi, hj⟩
    · rename_i hi
      exact fstR_ok k n (i + 1) (by omega) (fun j hj2 => by
        rcases Nat.lt_or_eq_of_le (Nat.le_of_lt_succ hj2) with h3 | h3
        · exact hj j h3
        · rw [h3]; exact hi)
theorem fstOf_iff {f j : Nat} : fstOf key j = f ↔ isFirst key f = true ∧ key j = key f := by
  obtain ⟨h1, h2, h3⟩ := fstR_ok key j j 0 (by omega) (fun _ h => by omega)
  have hF : isFirst key (fstOf key j) = true := by
    unfold isFirst
    rw [List.all_eq_true]
    intro i hi
    exact decide_eq_true (by rw [show key (fstOf key j) = key j from h2]; exact h3 i (List.mem_range.1 hi))
  constructor
  · rintro rfl
    exact ⟨hF, h2.symm⟩
  · rintro ⟨g1, g2⟩
    rcases Nat.lt_trichotomy (fstOf key j) f with h | h | h
    · exact (isFirst_ne key g1 h (by rw [← g2]; exact h2)).elim
    · exact h
    · exact (h3 f h g2.symm).elim
/-- The rows of the numbers with the same first one. -/
def listsOf (n : Nat) : List (List Int) := ((List.range n).map fun f => ((List.range n).filter fun j => decide (fstOf key j = f)).map fun (j : Nat) => (j : Int) - 1).filter fun l => !l.isEmpty
theorem lists_classes (n : Nat) : listsOf key n = classesL key n := by
  unfold listsOf classesL firsts
  rw [List.filter_map]
  have h1 : (List.range n).filter ((fun l : List Int => !l.isEmpty) ∘ fun f => ((List.range n).filter fun j => decide (fstOf key j = f)).map fun (j : Nat) => (j : Int) - 1) = (List.range n).filter (isFirst key) := by
    refine List.filter_congr (fun f hf => ?_)
    simp only [Function.comp]
    rw [Bool.eq_iff_iff]
    simp only [Bool.not_eq_true', List.isEmpty_eq_false_iff, ne_eq, List.map_eq_nil_iff, List.filter_eq_nil_iff, decide_eq_true_eq]
    constructor
    · intro h
      by_cases hc : isFirst key f = true
      · exact hc
      · exact (h (fun j _ hj => hc ((fstOf_iff key).1 hj).1)).elim
    · intro hc h
      exact h f hf ((fstOf_iff key).2 ⟨hc, rfl⟩)
  rw [h1]
  refine List.map_congr_left (fun f hf => ?_)
  have hff := (List.mem_filter.1 hf).2
  unfold members
  congr 1
  refine List.filter_congr (fun j _ => ?_)
  apply decide_eq_decide.2
  rw [fstOf_iff]
  exact ⟨fun h => h.2, fun h => ⟨hff, h⟩⟩
end
end Go.Proofs.Ytgpmbmnfcbippaa.Vs

set_option linter.unusedVariables false
set_option linter.unusedSimpArgs false
namespace Go.Proofs.Ytgpmbmnfcbippaa.Vs
open Go.RowKit
end Go.Proofs.Ytgpmbmnfcbippaa.Vs

set_option linter.unusedVariables false
set_option linter.unusedSimpArgs false
namespace Go.Proofs.Ytgpmbmnfcbippaa.Vs
open Go.RowKit
/-- A number put into a row at its place; a row that holds it stays. -/
def putL : List Int → Int → List Int
  | [], n => [n]
  | x :: r, n => if x < n then x :: putL r n else if x = n then x :: r else n :: x :: r
/-- The numbers of a stretch that have a property. -/
def idxFrom (p : Nat → Bool) : Nat → Nat → List Int
  | _, 0 => []
  | k, n + 1 => if p k then (k : Int) :: idxFrom p (k + 1) n else idxFrom p (k + 1) n
theorem idxFrom_len (p : Nat → Bool) : ∀ (n k : Nat), (idxFrom p k n).length ≤ n
  | 0, k => by simp [idxFrom]
  | n + 1, k => by
    have := idxFrom_len p n (k + 1)
    simp only [idxFrom]
    split <;> simp <;> omega
theorem idxFrom_congr {p q : Nat → Bool} : ∀ (n k : Nat), (∀ i, k ≤ i → i < k + n → p i = q i) → idxFrom p k n = idxFrom q k n
  | 0, k, h => rfl
  | n + 1, k, h => by
    simp only [idxFrom, h k (Nat.le_refl _) (by omega), idxFrom_congr n (k + 1) (fun i h1 h2 => h i (by omega) (by omega))]
theorem idxFrom_none : ∀ (n k : Nat), idxFrom (fun _ => false) k n = []
  | 0, k => rfl
  | n + 1, k => by simp only [idxFrom, Bool.false_eq_true, if_false, idxFrom_none n (k + 1)]
theorem idxFrom_ge (p : Nat → Bool) : ∀ (n k : Nat) (x : Int), x ∈ idxFrom p k n → (k : Int) ≤ x ∧ x < (k + n : Nat)
  | 0, k, x, h => by simp [idxFrom] at h
  | n + 1, k, x, h => by
    simp only [idxFrom] at h
    split at h
    · rcases List.mem_cons.1 h with rfl | h
      · omega
      · have := idxFrom_ge p n (k + 1) x h; omega
    · have := idxFrom_ge p n (k + 1) x h; omega
theorem putL_first : ∀ (l : List Int) (n : Int), (∀ x ∈ l, n < x) → putL l n = n :: l
  | [], n, h => rfl
  | x :: r, n, h => by
    have := h x (List.mem_cons_self ..)
    simp only [putL]
    rw [if_neg (by omega), if_neg (by omega)]
theorem putL_idx (p : Nat → Bool) (i : Nat) : ∀ (n k : Nat), k ≤ i → i < k + n → putL (idxFrom p k n) (i : Int) = idxFrom (fun j => p j || j == i) k n
  | 0, k, h1, h2 => by omega
  | n + 1, k, h1, h2 => by
    rcases Nat.lt_or_eq_of_le h1 with h | h
    · have ih := putL_idx p i n (k + 1) (by omega) (by omega)
      have hk : (k == i) = false := by simp; omega
      simp only [idxFrom, hk, Bool.or_false]
      split
      · simp only [putL]
        rw [if_pos (by omega), ih]
      · exact ih
    · subst h
      have hc : idxFrom (fun j => p j || j == k) (k + 1) n = idxFrom p (k + 1) n := idxFrom_congr n (k + 1) (fun i h1 h2 => by
        have : (i == k) = false := by simp; omega
        rw [this, Bool.or_false])
      simp only [idxFrom, beq_self_eq_true, Bool.or_true, if_true, hc]
      split
      · simp [putL]
      · exact putL_first _ _ (fun x hx => by have := idxFrom_ge p n (k + 1) x hx; omega)
end Go.Proofs.Ytgpmbmnfcbippaa.Vs

set_option linter.unusedVariables false
set_option linter.unusedSimpArgs false
namespace Go.Proofs.Ytgpmbmnfcbippaa.Vs
open Go.RowKit
/-! ### Cells with a cause -/
theorem putL_split : ∀ (l : List Int) (n : Int), ∃ t d, l = t ++ d ∧ (∀ x ∈ t, x < n) ∧ (∀ x s, d = x :: s → ¬ x < n) ∧ putL l n = t ++ putL d n
  | [], n => ⟨[], [], rfl, fun _ h => (by cases h), fun _ _ h => (by cases h), rfl⟩
  | y :: r, n => by
    by_cases hy : y < n
    · obtain ⟨t, d, h1, h2, h3, h4⟩ := putL_split r n
      refine ⟨y :: t, d, by rw [h1]; rfl, fun x hx => ?_, h3, ?_⟩
      · rcases List.mem_cons.1 hx with rfl | hx
        · exact hy
        · exact h2 x hx
      · simp only [putL, if_pos hy, h4, List.cons_append]
    · refine ⟨[], y :: r, rfl, fun _ h => (by cases h), fun x s h => ?_, rfl⟩
      injection h with h1 _
      rw [← h1]; exact hy
theorem e_spec_l1Put_0 (n : Int) : ∀ (t pre d : List Int), (∀ x ∈ t, x < n) → (∀ x s, d = x :: s → ¬ x < n) → (pre ++ (t ++ d)).length ≤ 1000000 → Ev (fun k => f_spec_l1Put_0 k (pre ++ (t ++ d)) n (pre.length : Int)) (pre ++ (t ++ d), n, ((pre ++ t).length : Int))
  | [], pre, [], ht, hd, hl => by
    refine Ev.succ ?_
    simp only [f_spec_l1Put_0, List.nil_append, nlt_end, Int.lt_irrefl, decide_false, Bool.false_eq_true, if_false, List.append_nil]
    exact Ev.some _
  | [], pre, x :: s, ht, hd, hl => by
    have hx := hd x s rfl
    refine Ev.succ ?_
    simp only [f_spec_l1Put_0, List.nil_append, lt_mid, ge_mid, decide_true, if_true, Int.toNat_natCast, getD_mid, hx, decide_false, Bool.false_eq_true, if_false, List.append_nil]
    exact Ev.some _
  | x :: t, pre, d, ht, hd, hl => by
    have hx := ht x (List.mem_cons_self ..)
    have ih := e_spec_l1Put_0 n t (pre ++ [x]) d (fun y hy => ht y (List.mem_cons_of_mem _ hy)) hd (by simpa using hl)
    simp only [List.cons_append] at hl ⊢
    refine Ev.succ ?_
    simp only [f_spec_l1Put_0, lt_mid, ge_mid, decide_true, if_true, Int.toNat_natCast, getD_mid, hx]
    rw [next_mid pre x (t ++ d) (by omega)]
    rw [← shift_mid] at ih
    refine ih.congr ?_
    simp
theorem e_spec_l1Put (l : List Int) (n : Int) (hl : l.length ≤ 1000000) : Ev (fun k => f_spec_l1Put k l n) (putL l n) := by
  obtain ⟨t, d, rfl, h2, h3, h4⟩ := putL_split l n
  have h0 := e_spec_l1Put_0 n t [] d h2 h3 (by simpa using hl)
  simp only [List.nil_append, List.length_nil, Int.natCast_zero] at h0
  rw [h4]
  have hlt : t.length + d.length ≤ 1000000 := by simpa using hl
  have z1 : (0 : Nat) + t.length ≤ 140737488355328 / 8 := by omega
  have z2 : t.length + 1 ≤ 140737488355328 / 8 := by omega
  refine Ev.succ ?_
  simp only [f_spec_l1Put]
  refine Ev.bind h0 ?_
  cases d with
  | nil =>
    have z3 : (t ++ [n]).length + 0 ≤ 140737488355328 / 8 := by simp; omega
    simp only [nlt_end, Int.lt_irrefl, decide_false, Bool.false_eq_true, if_false, ge_mid, Int.le_refl, if_true, Int.toNat_natCast, Int.toNat_zero, Nat.sub_zero, List.drop_zero, List.append_nil, List.take_length, List.length_singleton, z1, z2, List.drop_length, List.take_nil, List.length_nil, z3, putL]
    exact Ev.some _
  | cons x s =>
    have hx := h3 x s rfl
    have y1 : (t.length : Int) ≤ ((t ++ x :: s).length : Int) := by simp; omega
    have y2 : List.take t.length (t ++ x :: s) = t := List.take_left' rfl
    have y3 : List.drop t.length (t ++ x :: s) = x :: s := List.drop_left' rfl
    have y4 : List.take ((t ++ x :: s).length - t.length) (x :: s) = x :: s := List.take_of_length_le (by simp)
    have z3 : (t ++ [n]).length + (x :: s).length ≤ 140737488355328 / 8 := by simp at hlt ⊢; omega
    simp only [lt_mid, ge_mid, decide_true, if_true, Int.toNat_natCast, getD_mid, Int.toNat_zero, Nat.sub_zero, List.drop_zero, y1, y2, y3, y4, Int.le_refl, List.length_singleton, z1, z2, z3, putL, if_neg hx]
    refine Ev.ite (fun h => ?_) (fun h => ?_)
    · simp only [decide_eq_true_eq] at h
      rw [if_pos h]
      exact Ev.some _
    · simp only [decide_eq_true_eq] at h
      rw [if_neg h]
      exact Ev.of (by simp)
end Go.Proofs.Ytgpmbmnfcbippaa.Vs

set_option linter.unusedVariables false
set_option linter.unusedSimpArgs false
namespace Go.Proofs.Ytgpmbmnfcbippaa.Vs
open Go.RowKit
/-! ### The ends in all cases -/
def casesL (b : BoardD) (T : List (List Int)) : List (List (List FallD)) := T.map (endsOf b []) :: (possFrom b.2.1 0 b.2.2).map fun f => T.map (endsOf b [f])
theorem e_spec_tsCases_0 (b : BoardD) (hb : boardOK b = true) (T : List (List Int)) (hT : ∀ t ∈ T, t.length ≤ 1000 ∧ colsOK b t) (hn : T.length ≤ 1000) : ∀ (r pre : List FaultD) (acc : List (List (List FallD))), (∀ f ∈ r, faultsOK b (-1) [f] = true) → (pre ++ r).length ≤ 1000 → acc.length ≤ pre.length + 1 → Ev (fun k => f_spec_tsCases_0 k b.1 b.2.1 b.2.2 acc (pre ++ r) T ((pre ++ r).length : Int) (pre.length : Int)) (acc ++ r.map fun f => T.map (endsOf b [f]))
  | [], pre, acc, hf, hl, ha => by
    refine Ev.succ ?_
    simp only [f_spec_tsCases_0, nlt_end, decide_false, Bool.false_eq_true, if_false]
    exact Ev.of (by simp)
  | f :: r, pre, acc, hf, hl, ha => by
    have ih := e_spec_tsCases_0 b hb T hT hn r (pre ++ [f]) (acc ++ [T.map (endsOf b [f])]) (fun g hg => hf g (List.mem_cons_of_mem _ hg)) (by simpa using hl) (by simp; omega)
    rw [← shift_mid] at ih
    have hal : acc.length + 1 ≤ 140737488355328 / 24 := by simp at hl; omega
    refine Ev.succ ?_
    simp only [f_spec_tsCases_0, lt_mid, ge_mid, decide_true, if_true, Int.toNat_natCast, getD_mid, List.length_singleton, hal]
    rw [next_mid pre f r (by omega)]
    refine Ev.bind (e_spec_tsEnds b hb [f] (hf f (List.mem_cons_self ..)) (by simp) T hT hn) ?_
    refine ih.congr ?_
    simp
theorem e_spec_tsCases (b : BoardD) (hb : boardOK b = true) (T : List (List Int)) (hT : ∀ t ∈ T, t.length ≤ 1000 ∧ colsOK b t) (hn : T.length ≤ 1000) : Ev (fun k => f_spec_tsCases k b T) (casesL b T) := by
  have hp := poss_count hb
  refine Ev.succ ?_
  simp only [f_spec_tsCases]
  refine Ev.bind (e_spec_tsEnds b hb [] rfl (by simp) T hT hn) (Ev.bind (e_spec_faPossible b hb) ?_)
  exact Ev.bind (e_spec_tsCases_0 b hb T hT hn (possFrom b.2.1 0 b.2.2) [] [T.map (endsOf b [])] (fun f hf => poss_one hb hf) (by simp; omega) (by simp)) (Ev.some _)
theorem e_impl_caseEnds_0 (b : BoardD) (hb : boardOK b = true) (T : List (List Int)) (hT : ∀ t ∈ T, t.length ≤ 1000 ∧ colsOK b t) (hn : T.length ≤ 1000) : ∀ (r pre : List FaultD) (acc : List (List (List FallD))), (∀ f ∈ r, faultsOK b (-1) [f] = true) → (pre ++ r).length ≤ 1000 → acc.length ≤ pre.length + 1 → Ev (fun k => f_impl_caseEnds_0 k b.1 b.2.1 b.2.2 acc (pre ++ r) T ((pre ++ r).length : Int) (pre.length : Int)) (acc ++ r.map fun f => T.map (endsOf b [f]))
  | [], pre, acc, hf, hl, ha => by
    refine Ev.succ ?_
    simp only [f_impl_caseEnds_0, nlt_end, decide_false, Bool.false_eq_true, if_false]
    exact Ev.of (by simp)
  | f :: r, pre, acc, hf, hl, ha => by
    have ih := e_impl_caseEnds_0 b hb T hT hn r (pre ++ [f]) (acc ++ [T.map (endsOf b [f])]) (fun g hg => hf g (List.mem_cons_of_mem _ hg)) (by simpa using hl) (by simp; omega)
    rw [← shift_mid] at ih
    have hal : acc.length + 1 ≤ 140737488355328 / 24 := by simp at hl; omega
    refine Ev.succ ?_
    simp only [f_impl_caseEnds_0, lt_mid, ge_mid, decide_true, if_true, Int.toNat_natCast, getD_mid, List.length_singleton, hal]
    rw [next_mid pre f r (by omega)]
    refine Ev.bind (e_impl_testEnds b hb [f] (hf f (List.mem_cons_self ..)) (by simp) T hT hn) ?_
    refine ih.congr ?_
    simp
theorem e_impl_caseEnds (b : BoardD) (hb : boardOK b = true) (T : List (List Int)) (hT : ∀ t ∈ T, t.length ≤ 1000 ∧ colsOK b t) (hn : T.length ≤ 1000) : Ev (fun k => f_impl_caseEnds k b T) (casesL b T) := by
  have hp := poss_count hb
  refine Ev.succ ?_
  simp only [f_impl_caseEnds]
  refine Ev.bind (e_impl_testEnds b hb [] rfl (by simp) T hT hn) (Ev.bind (e_impl_possibleFaults b hb) ?_)
  exact Ev.bind (e_impl_caseEnds_0 b hb T hT hn (possFrom b.2.1 0 b.2.2) [] [T.map (endsOf b [])] (fun f hf => poss_one hb hf) (by simp; omega) (by simp)) (Ev.some _)
/-- A table of rows that are n long, with entries of set lengths. -/
structure Tab (C : List (List (List FallD))) (n : Nat) (L : Nat → Nat) : Prop where
  len : C.length ≤ 1000
  pos : 0 < C.length
  row : ∀ k, k < C.length → (List.getD C k []).length = n
  cell : ∀ k t, k < C.length → t < n → (List.getD (List.getD C k []) t []).length = L t
  small : ∀ t, t < n → L t ≤ 1000
theorem cases_tab {b : BoardD} (hb : boardOK b = true) {T : List (List Int)} (hT : ∀ t ∈ T, t.length ≤ 1000 ∧ colsOK b t) : Tab (casesL b T) T.length (fun t => (List.getD T t []).length) := by
  have hp := poss_count hb
  have hrow : ∀ row ∈ casesL b T, ∃ l, row = T.map (endsOf b l) := by
    intro row hr
    rcases List.mem_cons.1 hr with rfl | hr
    · exact ⟨[], rfl⟩
    · obtain ⟨f, _, rfl⟩ := List.mem_map.1 hr
      exact ⟨[f], rfl⟩
  have get : ∀ k, k < (casesL b T).length → ∃ l, List.getD (casesL b T) k [] = T.map (endsOf b l) := by
    intro k hk
    have : List.getD (casesL b T) k [] ∈ casesL b T := by simp [List.getD, List.getElem?_eq_getElem hk]
    exact hrow _ this
  refine ⟨by simp [casesL]; omega, by simp [casesL], fun k hk => ?_, fun k t hk ht => ?_, fun t ht => ?_⟩
  · obtain ⟨l, hl⟩ := get k hk
    rw [hl, List.length_map]
  · obtain ⟨l, hl⟩ := get k hk
    rw [hl]
    simp only [List.getD, List.getElem?_map, List.getElem?_eq_getElem ht, Option.map_some, Option.getD_some]
    exact endsOf_len _ _ _
  · have : List.getD T t [] ∈ T := by simp [List.getD, List.getElem?_eq_getElem ht]
    exact (hT _ this).1
def cellC (C : List (List (List FallD))) (t k : Nat) : List FallD := List.getD (List.getD C k []) t []
/-- What chosen tests see of case k. -/
def keyC (C : List (List (List FallD))) (ch : List Int) (k : Nat) : List (List FallD) := ch.map fun t => cellC C t.toNat k
theorem keyC_eq {C : List (List (List FallD))} {ch : List Int} {i j : Nat} : keyC C ch i = keyC C ch j ↔ ∀ t ∈ ch, cellC C t.toNat i = cellC C t.toNat j := by
  unfold keyC
  rw [List.map_inj_left]
def chOK (ch : List Int) (n : Nat) : Prop := ∀ t ∈ ch, 0 ≤ t ∧ t < (n : Int)
theorem e_impl_alikeBy_0 {C : List (List (List FallD))} {n : Nat} {L : Nat → Nat} (hC : Tab C n L) (i j : Nat) (hi : i < C.length) (hj : j < C.length) : ∀ (r pre : List Int), chOK r n → (pre ++ r).length ≤ 1000 → Ev (fun k => f_impl_alikeBy_0 k (List.getD C i []) (List.getD C j []) (pre ++ r) ((pre ++ r).length : Int) (pre.length : Int)) (if keyC C r i = keyC C r j then LR.go () else LR.ret false)
  | [], pre, hr, hl => by
    refine Ev.succ ?_
    simp only [f_impl_alikeBy_0, nlt_end, decide_false, Bool.false_eq_true, if_false, keyC, List.map_nil, if_true]
    exact Ev.some _
  | t :: r, pre, hr, hl => by
    obtain ⟨t0, tn⟩ := hr t (List.mem_cons_self ..)
    have ih := e_impl_alikeBy_0 hC i j hi hj r (pre ++ [t]) (fun x hx => hr x (List.mem_cons_of_mem _ hx)) (by simpa using hl)
    have h1 : t < ((List.getD C i []).length : Int) := by rw [hC.row i hi]; exact tn
    have h2 : t < ((List.getD C j []).length : Int) := by rw [hC.row j hj]; exact tn
    have c1 := hC.cell i t.toNat hi (by omega)
    have c3 := hC.small t.toNat (by omega)
    refine Ev.succ ?_
    simp only [f_impl_alikeBy_0, lt_mid, ge_mid, decide_true, if_true, Int.toNat_natCast, getD_mid, t0, h1, h2]
    rw [next_mid pre t r (by omega)]
    rw [← shift_mid] at ih
    refine Ev.bind (e_slices_Equal_impl_Fall_impl_Fall _ _ (by omega)) (Ev.ite (fun h => ?_) (fun h => ?_))
    · have h : ¬ cellC C t.toNat i = cellC C t.toNat j := nd h
      rw [if_neg (fun hh => h (keyC_eq.1 hh t (List.mem_cons_self ..)))]
      exact Ev.some _
    · have h : cellC C t.toNat i = cellC C t.toNat j := yd h
      refine ih.congr ?_
      have hk : keyC C (t :: r) i = keyC C (t :: r) j ↔ keyC C r i = keyC C r j := by simp only [keyC, List.map_cons, h, List.cons.injEq, true_and]
      by_cases h9 : keyC C r i = keyC C r j
      · rw [if_pos h9, if_pos (hk.2 h9)]
      · rw [if_neg h9, if_neg (fun h => h9 (hk.1 h))]
theorem e_impl_alikeBy {C : List (List (List FallD))} {n : Nat} {L : Nat → Nat} (hC : Tab C n L) (i j : Nat) (hi : i < C.length) (hj : j < C.length) (ch : List Int) (hch : chOK ch n) (hl : ch.length ≤ 1000) : Ev (fun k => f_impl_alikeBy k (List.getD C i []) (List.getD C j []) ch) (decide (keyC C ch i = keyC C ch j)) := by
  refine Ev.succ ?_
  simp only [f_impl_alikeBy]
  refine Ev.bind (e_impl_alikeBy_0 hC i j hi hj ch [] hch (by simpa using hl)) ?_
  by_cases h : keyC C ch i = keyC C ch j
  · rw [if_pos h, decide_eq_true h]; exact Ev.go (Ev.some _)
  · rw [if_neg h, decide_eq_false h]; exact Ev.ret (Ev.some _)
def rangeI (n : Nat) : List Int := (List.range n).map fun (j : Nat) => (j : Int)
theorem rangeI_ok (n : Nat) : chOK (rangeI n) n := fun t ht => by
  obtain ⟨j, hj, rfl⟩ := List.mem_map.1 ht
  have := List.mem_range.1 hj
  omega
theorem rangeI_len (n : Nat) : (rangeI n).length = n := by simp [rangeI]
theorem rangeI_succ (n : Nat) : rangeI (n + 1) = rangeI n ++ [(n : Int)] := by simp [rangeI, List.range_succ]
theorem e_spec_tsAll_0 (n : Nat) (hn : n ≤ 1000) : ∀ (d i : Nat), i + d = n → Ev (fun k => f_spec_tsAll_0 k (rangeI i) (n : Int) (i : Int)) (rangeI n)
  | 0, i, h => by
    obtain rfl : i = n := by omega
    refine Ev.succ ?_
    simp only [f_spec_tsAll_0, Int.lt_irrefl, decide_false, Bool.false_eq_true, if_false]
    exact Ev.some _
  | d + 1, i, h => by
    have h1 : (i : Int) < n := by omega
    have h2 : wrap64 ((i : Int) + 1) = ((i + 1 : Nat) : Int) := by rw [w64 (by omega) (by omega)]; omega
    have hal : i + 1 ≤ 140737488355328 / 8 := by omega
    refine Ev.succ ?_
    simp only [f_spec_tsAll_0, h1, decide_true, if_true, List.length_singleton, rangeI_len, hal, h2]
    rw [← rangeI_succ]
    exact e_spec_tsAll_0 n hn d (i + 1) (by omega)
theorem e_spec_tsAll (T : List (List Int)) (hn : T.length ≤ 1000) : Ev (fun k => f_spec_tsAll k T) (rangeI T.length) := by
  refine Ev.succ ?_
  simp only [f_spec_tsAll]
  exact Ev.bind (e_spec_tsAll_0 T.length hn T.length 0 (by omega)) (Ev.some _)
theorem e_impl_everyTest_0 (n : Nat) (hn : n ≤ 1000) : ∀ (d i : Nat), i + d = n → Ev (fun k => f_impl_everyTest_0 k (rangeI i) (n : Int) (i : Int)) (rangeI n)
  | 0, i, h => by
    obtain rfl : i = n := by omega
    refine Ev.succ ?_
    simp only [f_impl_everyTest_0, Int.lt_irrefl, decide_false, Bool.false_eq_true, if_false]
    exact Ev.some _
  | d + 1, i, h => by
    have h1 : (i : Int) < n := by omega
    have h2 : wrap64 ((i : Int) + 1) = ((i + 1 : Nat) : Int) := by rw [w64 (by omega) (by omega)]; omega
    have hal : i + 1 ≤ 140737488355328 / 8 := by omega
    refine Ev.succ ?_
    simp only [f_impl_everyTest_0, h1, decide_true, if_true, List.length_singleton, rangeI_len, hal, h2]
    rw [← rangeI_succ]
    exact e_impl_everyTest_0 n hn d (i + 1) (by omega)
theorem e_impl_everyTest (T : List (List Int)) (hn : T.length ≤ 1000) : Ev (fun k => f_impl_everyTest k T) (rangeI T.length) := by
  refine Ev.succ ?_
  simp only [f_impl_everyTest]
  exact Ev.bind (e_impl_everyTest_0 T.length hn T.length 0 (by omega)) (Ev.some _)
theorem e_impl_detectedBy_0 {C : List (List (List FallD))} {n : Nat} {L : Nat → Nat} (hC : Tab C n L) (ch : List Int) (hch : chOK ch n) (hl : ch.length ≤ 1000) : ∀ (d i : Nat) (acc : List Int), i + 1 + d = C.length → acc.length ≤ i → Ev (fun k => f_impl_detectedBy_0 k acc C ch ((i + 1 : Nat) : Int)) (acc ++ idxFrom (fun j => !decide (keyC C ch 0 = keyC C ch (j + 1))) i d)
  | 0, i, acc, h, ha => by
    have : ¬ ((i + 1 : Nat) : Int) < (C.length : Int) := by omega
    refine Ev.succ ?_
    simp only [f_impl_detectedBy_0, this, decide_false, Bool.false_eq_true, if_false, idxFrom, List.append_nil]
    exact Ev.some _
  | d + 1, i, acc, h, ha => by
    have hcl := hC.len
    have h1 : ((i + 1 : Nat) : Int) < (C.length : Int) := by omega
    have h0 : (0 : Int) < (C.length : Int) := by omega
    have h2 : (0 : Int) ≤ ((i + 1 : Nat) : Int) := by omega
    have h4 : wrap64 (((i + 1 : Nat) : Int) + 1) = ((i + 1 + 1 : Nat) : Int) := by rw [w64 (by omega) (by omega)]; omega
    have h5 : wrap64 (((i + 1 : Nat) : Int) - 1) = (i : Int) := by rw [w64 (by omega) (by omega)]; omega
    have hal : acc.length + 1 ≤ 140737488355328 / 8 := by omega
    refine Ev.succ ?_
    simp only [f_impl_detectedBy_0, h1, h0, h2, h4, h5, decide_true, if_true, List.length_singleton, hal, Int.toNat_natCast, Int.toNat_zero, idxFrom]
    refine Ev.bind (e_impl_alikeBy hC 0 (i + 1) (by omega) (by omega) ch hch hl) (Ev.ite (fun hh => ?_) (fun hh => ?_))
    · refine (e_impl_detectedBy_0 hC ch hch hl d (i + 1) (acc ++ [(i : Int)]) (by omega) (by simp; omega)).congr ?_
      rw [if_pos hh]; simp
    · refine (e_impl_detectedBy_0 hC ch hch hl d (i + 1) acc (by omega) (by omega)).congr ?_
      rw [if_neg hh]
theorem e_impl_detectedBy {C : List (List (List FallD))} {n : Nat} {L : Nat → Nat} (hC : Tab C n L) (ch : List Int) (hch : chOK ch n) (hl : ch.length ≤ 1000) : Ev (fun k => f_impl_detectedBy k C ch) (idxFrom (fun j => !decide (keyC C ch 0 = keyC C ch (j + 1))) 0 (C.length - 1)) := by
  have hp := hC.pos
  refine Ev.succ ?_
  simp only [f_impl_detectedBy]
  exact Ev.bind (e_impl_detectedBy_0 hC ch hch hl (C.length - 1) 0 [] (by omega) (by simp)) (Ev.some _)
/-! ### Marks: the first case with the same ends -/
def markC (C : List (List (List FallD))) (t k : Nat) : Int := (fstOf (cellC C t) k : Int)
theorem e_spec_tsMarks_4 {C : List (List (List FallD))} {n : Nat} {L : Nat → Nat} (hC : Tab C n L) (o2 : List (List Int)) (o3 : List Int) (T : List (List Int)) (i t : Nat) (hi : i < C.length) (ht : t < n) (v16 v17 v23 v24 : Int) : ∀ (d j : Nat), j + d = i →
    Ev (fun k => f_spec_tsMarks_4 k C o2 o3 T (i : Int) (i : Int) (t : Int) (j : Int) v16 v17 v23 v24) (C, o2, o3, T, (i : Int), (i : Int), (fstR (cellC C t) i d j : Int), v16, v17, v23, v24)
  | 0, j, h => by
    obtain rfl : j = i := by omega
    refine Ev.succ ?_
    simp only [f_spec_tsMarks_4, Int.lt_irrefl, decide_false, Bool.false_eq_true, if_false, fstR]
    exact Ev.some _
  | d + 1, j, h => by
    have hcl := hC.len
    have h1 : (j : Int) < i := by omega
    have h2 : (t : Int) < ((List.getD C i []).length : Int) := by rw [hC.row i hi]; omega
    have h3 : (j : Int) < (C.length : Int) := by omega
    have h4 : (t : Int) < ((List.getD C j []).length : Int) := by rw [hC.row j (by omega)]; omega
    have h5 : wrap64 ((j : Int) + 1) = ((j + 1 : Nat) : Int) := by rw [w64 (by omega) (by omega)]; omega
    have c1 := hC.cell i t hi ht
    have c2 := hC.cell j t (by omega) ht
    have c3 := hC.small t ht
    have hn := diffIx_none 0 (cellC C t i) (cellC C t j) (by unfold cellC; omega)
    have ih := e_spec_tsMarks_4 hC o2 o3 T i t hi ht v16 v17 v23 v24 d (j + 1) (by omega)
    refine Ev.succ ?_
    simp only [f_spec_tsMarks_4, h1, h2, h3, h4, h5, decide_true, if_true, Int.natCast_nonneg, Int.toNat_natCast, fstR]
    refine Ev.bind (e_spec_faSame _ _ (by omega) (by omega)) (Ev.ite (fun hh => ?_) (fun hh => ?_))
    · have hne : ¬ cellC C t j = cellC C t i := fun hq => by
        have : ixOf (diffIx 0 (cellC C t i) (cellC C t j)) ≥ 0 := of_decide_eq_true hh
        rw [hn.2 hq.symm] at this
        simp [ixOf] at this
      rw [if_neg hne]
      exact ih
    · have heq : cellC C t j = cellC C t i := by
        have : ixOf (diffIx 0 (cellC C t i) (cellC C t j)) < 0 := by
          have : ¬ ixOf (diffIx 0 (cellC C t i) (cellC C t j)) ≥ 0 := fun hq => hh (decide_eq_true hq)
          omega
        exact (hn.1 ((ix_neg _).1 this)).symm
      rw [if_pos heq]
      exact Ev.some _
def marksRow (C : List (List (List FallD))) (i n : Nat) : List Int := (List.range n).map fun t => markC C t i
theorem marksRow_len (C : List (List (List FallD))) (i n : Nat) : (marksRow C i n).length = n := by simp [marksRow]
theorem marksRow_succ (C : List (List (List FallD))) (i n : Nat) : marksRow C i (n + 1) = marksRow C i n ++ [markC C n i] := by simp [marksRow, List.range_succ]
theorem e_spec_tsMarks_2 {C : List (List (List FallD))} {n : Nat} {L : Nat → Nat} (hC : Tab C n L) (hn : n ≤ 1000) (o2 : List (List Int)) (T : List (List Int)) (i : Nat) (hi : i < C.length) (v16 v17 : Int) : ∀ (d t : Nat), t + d = n →
    Ev (fun k => f_spec_tsMarks_2 k C o2 (marksRow C i t) T (i : Int) (i : Int) v16 v17 (n : Int) (t : Int)) (C, o2, marksRow C i n, T, v16, v17)
  | 0, t, h => by
    obtain rfl : t = n := by omega
    refine Ev.succ ?_
    simp only [f_spec_tsMarks_2, Int.lt_irrefl, decide_false, Bool.false_eq_true, if_false]
    exact Ev.some _
  | d + 1, t, h => by
    have h1 : (t : Int) < n := by omega
    have h5 : wrap64 ((t : Int) + 1) = ((t + 1 : Nat) : Int) := by rw [w64 (by omega) (by omega)]; omega
    have hal : t + 1 ≤ 140737488355328 / 8 := by omega
    have ih := e_spec_tsMarks_2 hC hn o2 T i hi v16 v17 d (t + 1) (by omega)
    refine Ev.succ ?_
    simp only [f_spec_tsMarks_2, h1, decide_true, if_true]
    refine Ev.bind (e_spec_tsMarks_4 hC o2 (marksRow C i t) T i t hi (by omega) v16 v17 (n : Int) (t : Int) i 0 (by omega)) ?_
    simp only [List.length_singleton, marksRow_len, hal, if_true, h5]
    rw [marksRow_succ] at ih
    exact ih
def marksM (C : List (List (List FallD))) (n m : Nat) : List (List Int) := (List.range m).map fun i => marksRow C i n
theorem marksM_len (C : List (List (List FallD))) (n m : Nat) : (marksM C n m).length = m := by simp [marksM]
theorem marksM_succ (C : List (List (List FallD))) (n m : Nat) : marksM C n (m + 1) = marksM C n m ++ [marksRow C m n] := by simp [marksM, List.range_succ]
theorem marksM_get (C : List (List (List FallD))) (n m i : Nat) (hi : i < m) : List.getD (marksM C n m) i [] = marksRow C i n := by simp [marksM, List.getD, List.getElem?_map, List.getElem?_range hi]
theorem marksRow_get (C : List (List (List FallD))) (n i t : Nat) (ht : t < n) : List.getD (marksRow C i n) t 0 = markC C t i := by simp [marksRow, List.getD, List.getElem?_map, List.getElem?_range ht]
theorem e_spec_tsMarks_0 {C : List (List (List FallD))} {n : Nat} {L : Nat → Nat} (hC : Tab C n L) (hn : n ≤ 1000) (T : List (List Int)) (hT : T.length = n) : ∀ (d i : Nat), i + d = C.length →
    Ev (fun k => f_spec_tsMarks_0 k C (marksM C n i) T (C.length : Int) (i : Int)) (marksM C n C.length)
  | 0, i, h => by
    obtain rfl : i = C.length := by omega
    refine Ev.succ ?_
    simp only [f_spec_tsMarks_0, Int.lt_irrefl, decide_false, Bool.false_eq_true, if_false]
    exact Ev.some _
  | d + 1, i, h => by
    have hcl := hC.len
    have h1 : (i : Int) < (C.length : Int) := by omega
    have h5 : wrap64 ((i : Int) + 1) = ((i + 1 : Nat) : Int) := by rw [w64 (by omega) (by omega)]; omega
    have hal : i + 1 ≤ 140737488355328 / 24 := by omega
    have ih := e_spec_tsMarks_0 hC hn T hT d (i + 1) (by omega)
    refine Ev.succ ?_
    simp only [f_spec_tsMarks_0, h1, decide_true, if_true, Int.natCast_nonneg, hT]
    refine Ev.bind (e_spec_tsMarks_2 hC hn (marksM C n i) T i (by omega) (C.length : Int) (i : Int) n 0 (by omega)) ?_
    simp only [List.length_singleton, marksM_len, hal, if_true, h5]
    rw [marksM_succ] at ih
    exact ih
theorem e_spec_tsMarks (b : BoardD) (hb : boardOK b = true) (T : List (List Int)) (hT : ∀ t ∈ T, t.length ≤ 1000 ∧ colsOK b t) (hn : T.length ≤ 1000) : Ev (fun k => f_spec_tsMarks k b T) (marksM (casesL b T) T.length (casesL b T).length) := by
  refine Ev.succ ?_
  simp only [f_spec_tsMarks]
  exact Ev.bind (e_spec_tsCases b hb T hT hn) (Ev.bind (e_spec_tsMarks_0 (cases_tab hb hT) hn T rfl (casesL b T).length 0 (by omega)) (Ev.some _))
theorem mark_zero {C : List (List (List FallD))} {t k : Nat} : markC C t k ≠ 0 ↔ ¬ cellC C t 0 = cellC C t k := by
  unfold markC
  have h := fstOf_iff (cellC C t) (f := 0) (j := k)
  have h0 : isFirst (cellC C t) 0 = true := by simp [isFirst]
  constructor
  · intro h1 h2
    exact h1 (by rw [h.2 ⟨h0, h2.symm⟩]; rfl)
  · intro h1 h2
    have h3 : fstOf (cellC C t) k = 0 := by omega
    exact h1 (h.1 h3).2.symm
theorem mark_eq {C : List (List (List FallD))} {t i j : Nat} : markC C t i = markC C t j ↔ cellC C t i = cellC C t j := by
  unfold markC
  have hi := (fstOf_iff (cellC C t) (f := fstOf (cellC C t) i) (j := i)).1 rfl
  have hj := (fstOf_iff (cellC C t) (f := fstOf (cellC C t) j) (j := j)).1 rfl
  constructor
  · intro h
    have h3 : fstOf (cellC C t) i = fstOf (cellC C t) j := by omega
    rw [hi.2, h3, ← hj.2]
  · intro h
    have h3 : fstOf (cellC C t) i = fstOf (cellC C t) j := (fstOf_iff (cellC C t)).2 ⟨hj.1, h.trans hj.2⟩
    rw [h3]
/-- What is found out of the cases before i, and with the tests of pre of case i. -/
def detP (C : List (List (List FallD))) (ch : List Int) (i : Nat) (pre : List Int) (j : Nat) : Bool := (decide (j + 1 < i) && !decide (keyC C ch 0 = keyC C ch (j + 1))) || (decide (j + 1 = i) && !decide (keyC C pre 0 = keyC C pre i))
theorem e_spec_tsDetected_2 {C : List (List (List FallD))} {n : Nat} {L : Nat → Nat} (hC : Tab C n L) (ch : List Int) (i : Nat) (hi : i < C.length) (M : List (List Int)) (v11 v12 : Int) : ∀ (r pre : List Int), chOK r n → (pre ++ r).length ≤ 1000 →
    Ev (fun k => f_spec_tsDetected_2 k (idxFrom (detP C ch i pre) 0 (C.length - 1)) ch (i : Int) (marksRow C i n) M v11 v12 (pre ++ r) ((pre ++ r).length : Int) (pre.length : Int)) (idxFrom (detP C ch i (pre ++ r)) 0 (C.length - 1), ch, M, v11, v12)
  | [], pre, hr, hl => by
    refine Ev.succ ?_
    simp only [f_spec_tsDetected_2, nlt_end, Int.lt_irrefl, decide_false, Bool.false_eq_true, if_false, List.append_nil]
    exact Ev.some _
  | t :: r, pre, hr, hl => by
    have hcl := hC.len
    obtain ⟨t0, tn⟩ := hr t (List.mem_cons_self ..)
    have ih := e_spec_tsDetected_2 hC ch i hi M v11 v12 r (pre ++ [t]) (fun x hx => hr x (List.mem_cons_of_mem _ hx)) (by simpa using hl)
    have h1 : t < ((marksRow C i n).length : Int) := by rw [marksRow_len]; exact tn
    have hg := marksRow_get C n i t.toNat (by omega)
    have hz := mark_zero (C := C) (t := t.toNat) (k := i)
    have hlen := idxFrom_len (detP C ch i pre) (C.length - 1) 0
    refine Ev.succ ?_
    simp only [f_spec_tsDetected_2, lt_mid, ge_mid, decide_true, if_true, Int.toNat_natCast, getD_mid, t0, h1, hg]
    rw [next_mid pre t r (by omega)]
    rw [← shift_mid] at ih
    have hk : ∀ j, keyC C (pre ++ [t]) 0 = keyC C (pre ++ [t]) j ↔ keyC C pre 0 = keyC C pre j ∧ cellC C t.toNat 0 = cellC C t.toNat j := by
      intro j
      rw [keyC_eq, keyC_eq]
      constructor
      · intro h2
        exact ⟨fun x hx => h2 x (List.mem_append_left _ hx), h2 t (List.mem_append_right _ (List.mem_singleton.2 rfl))⟩
      · rintro ⟨h2, h3⟩ x hx
        rcases List.mem_append.1 hx with hx | hx
        · exact h2 x hx
        · rw [List.mem_singleton.1 hx]; exact h3
    refine Ev.ite (fun hh => ?_) (fun hh => ?_)
    · have hne := hz.1 (by simpa using hh)
      have hi0 : 0 < i := by
        rcases Nat.eq_zero_or_pos i with h0 | h0
        · subst h0; exact (hne rfl).elim
        · exact h0
      have h5 : wrap64 ((i : Int) - 1) = ((i - 1 : Nat) : Int) := by rw [w64 (by omega) (by omega)]; omega
      have hput : putL (idxFrom (detP C ch i pre) 0 (C.length - 1)) ((i - 1 : Nat) : Int) = idxFrom (detP C ch i (pre ++ [t])) 0 (C.length - 1) := by
        rw [putL_idx (detP C ch i pre) (i - 1) (C.length - 1) 0 (by omega) (by omega)]
        refine idxFrom_congr _ _ (fun j _ _ => ?_)
        unfold detP
        by_cases hj : j = i - 1
        · subst hj
          have e1 : i - 1 + 1 = i := by omega
          have hn2 : ¬ keyC C (pre ++ [t]) 0 = keyC C (pre ++ [t]) i := fun h2 => hne ((hk i).1 h2).2
          simp [e1, hn2]
        · have e1 : ¬ j + 1 = i := by omega
          have e2 : (j == i - 1) = false := by simp; omega
          simp [e1, e2]
      rw [h5]
      refine Ev.bind (e_spec_l1Put _ _ (by omega)) ?_
      rw [hput]
      exact ih
    · have heq : cellC C t.toNat 0 = cellC C t.toNat i := by
        by_cases hc : cellC C t.toNat 0 = cellC C t.toNat i
        · exact hc
        · exact (hh (by simpa using hz.2 hc)).elim
      have hsame : idxFrom (detP C ch i pre) 0 (C.length - 1) = idxFrom (detP C ch i (pre ++ [t])) 0 (C.length - 1) := by
        refine idxFrom_congr _ _ (fun j _ _ => ?_)
        unfold detP
        have : (keyC C (pre ++ [t]) 0 = keyC C (pre ++ [t]) i) ↔ (keyC C pre 0 = keyC C pre i) := ⟨fun h2 => ((hk i).1 h2).1, fun h2 => (hk i).2 ⟨h2, heq⟩⟩
        simp only [this]
      rw [hsame]
      exact ih
theorem e_spec_tsDetected_0 {C : List (List (List FallD))} {n : Nat} {L : Nat → Nat} (hC : Tab C n L) (ch : List Int) (hch : chOK ch n) (hl : ch.length ≤ 1000) : ∀ (d i : Nat), i + d = C.length →
    Ev (fun k => f_spec_tsDetected_0 k (idxFrom (detP C ch i []) 0 (C.length - 1)) ch (marksM C n C.length) (C.length : Int) (i : Int)) (idxFrom (fun j => !decide (keyC C ch 0 = keyC C ch (j + 1))) 0 (C.length - 1))
  | 0, i, h => by
    obtain rfl : i = C.length := by omega
    refine Ev.succ ?_
    simp only [f_spec_tsDetected_0, Int.lt_irrefl, decide_false, Bool.false_eq_true, if_false]
    refine Ev.of ?_
    congr 1
    refine idxFrom_congr _ _ (fun j _ hj => ?_)
    unfold detP
    have h1 : j + 1 < C.length := by omega
    have h2 : ¬ j + 1 = C.length := by omega
    simp [h1, h2]
  | d + 1, i, h => by
    have hcl := hC.len
    have h1 : (i : Int) < (C.length : Int) := by omega
    have h2 : (i : Int) < ((marksM C n C.length).length : Int) := by rw [marksM_len]; exact h1
    have h5 : wrap64 ((i : Int) + 1) = ((i + 1 : Nat) : Int) := by rw [w64 (by omega) (by omega)]; omega
    have ih := e_spec_tsDetected_0 hC ch hch hl d (i + 1) (by omega)
    have hstep : idxFrom (detP C ch (i + 1) []) 0 (C.length - 1) = idxFrom (detP C ch i ch) 0 (C.length - 1) := by
      refine idxFrom_congr _ _ (fun j _ _ => ?_)
      unfold detP
      by_cases hj : j + 1 = i
      · subst hj
        have e2 : j + 1 < j + 1 + 1 := by omega
        simp [e2, keyC]
      · have e1 : (j + 1 < i + 1) ↔ (j + 1 < i) := by omega
        simp only [hj, e1, decide_false, Bool.false_and, Bool.or_false, keyC, List.map_nil, decide_true, Bool.not_true, Bool.and_false]
    rw [hstep] at ih
    refine Ev.succ ?_
    simp only [f_spec_tsDetected_0, h1, h2, decide_true, if_true, Int.natCast_nonneg, Int.toNat_natCast, marksM_get C n C.length i (by omega)]
    have h8 := e_spec_tsDetected_2 hC ch i (by omega) (marksM C n C.length) (C.length : Int) (i : Int) ch [] hch (by simpa using hl)
    simp only [List.nil_append, List.length_nil, Int.natCast_zero] at h8
    refine Ev.bind h8 ?_
    simp only [h5]
    exact ih
theorem e_spec_tsDetected {C : List (List (List FallD))} {n : Nat} {L : Nat → Nat} (hC : Tab C n L) (ch : List Int) (hch : chOK ch n) (hl : ch.length ≤ 1000) : Ev (fun k => f_spec_tsDetected k (marksM C n C.length) ch) (idxFrom (fun j => !decide (keyC C ch 0 = keyC C ch (j + 1))) 0 (C.length - 1)) := by
  have h0 : idxFrom (detP C ch 0 []) 0 (C.length - 1) = [] := by
    rw [idxFrom_congr (q := fun _ => false) _ _ (fun j _ _ => by simp [detP]), idxFrom_none]
  have h8 := e_spec_tsDetected_0 hC ch hch hl C.length 0 (by omega)
  rw [h0] at h8
  refine Ev.succ ?_
  simp only [f_spec_tsDetected, marksM_len]
  exact Ev.bind h8 (Ev.some _)
def r_DetectedFaults (b : BoardD) (T : List (List Int)) : List Int × Bool := if (smallB b && testsOK b T) then (idxFrom (fun j => !decide (keyC (casesL b T) (rangeI T.length) 0 = keyC (casesL b T) (rangeI T.length) (j + 1))) 0 ((casesL b T).length - 1), true) else ([], false)
theorem e_spec_DetectedFaults (b : BoardD) (T : List (List Int)) (h0 : b.2.2.length ≤ 9223372036854775806) (h1 : T.length ≤ 9223372036854775806) (hx : ∀ x ∈ T, x.length ≤ 9223372036854775806) : Ev (fun k => f_spec_DetectedFaults k b T) (r_DetectedFaults b T) := by
  refine Ev.succ ?_
  simp only [f_spec_DetectedFaults]
  unfold r_DetectedFaults
  refine Ev.bind (a := (smallB b && testsOK b T)) (e_spec_tsAsked b T h0 h1 hx) ?_
  cases g0 : (smallB b && testsOK b T) with
  | false => simp only [Bool.not_false, if_true, Bool.false_eq_true, if_false, Bool.false_and, Bool.and_false]; exact Ev.some _
  | true =>
    simp only [Bool.not_true, Bool.false_eq_true, if_false, if_true, Bool.and_self]
    obtain ⟨hb, hn, hT⟩ := tests_ok g0
    have hT1 : ∀ t ∈ T, t.length ≤ 1000 ∧ colsOK b t := fun t ht => ⟨by have := (hT t ht).1; omega, (hT t ht).2⟩
    have hC := cases_tab hb hT1
    exact Ev.bind (e_spec_tsMarks b hb T hT1 (by omega)) (Ev.bind (e_spec_tsAll T (by omega)) (Ev.bind (e_spec_tsDetected hC _ (rangeI_ok _) (by rw [rangeI_len]; omega)) (Ev.some _)))
theorem e_impl_DetectedFaults (b : BoardD) (T : List (List Int)) (h0 : b.2.2.length ≤ 9223372036854775806) (h1 : T.length ≤ 9223372036854775806) (hx : ∀ x ∈ T, x.length ≤ 9223372036854775806) : Ev (fun k => f_impl_DetectedFaults k b T) (r_DetectedFaults b T) := by
  refine Ev.succ ?_
  simp only [f_impl_DetectedFaults]
  unfold r_DetectedFaults
  refine Ev.bind (a := (smallB b && testsOK b T)) (e_impl_areTests b T h0 h1 hx) ?_
  cases g0 : (smallB b && testsOK b T) with
  | false => simp only [Bool.not_false, if_true, Bool.false_eq_true, if_false, Bool.false_and, Bool.and_false]; exact Ev.some _
  | true =>
    simp only [Bool.not_true, Bool.false_eq_true, if_false, if_true, Bool.and_self]
    obtain ⟨hb, hn, hT⟩ := tests_ok g0
    have hT1 : ∀ t ∈ T, t.length ≤ 1000 ∧ colsOK b t := fun t ht => ⟨by have := (hT t ht).1; omega, (hT t ht).2⟩
    have hC := cases_tab hb hT1
    exact Ev.bind (e_impl_caseEnds b hb T hT1 (by omega)) (Ev.bind (e_impl_everyTest T (by omega)) (Ev.bind (e_impl_detectedBy hC _ (rangeI_ok _) (by rw [rangeI_len]; omega)) (Ev.some _)))
theorem cases_len {b : BoardD} (hb : boardOK b = true) (T : List (List Int)) : (casesL b T).length ≤ 271 := by
  have := poss_count hb
  simp [casesL]; omega
theorem r_DetectedFaults_len (b : BoardD) (T : List (List Int)) : (r_DetectedFaults b T).1.length ≤ 271 := by
  unfold r_DetectedFaults
  split
  · rename_i h
    have h1 := cases_len (tests_ok h).1 T
    have h2 := idxFrom_len (fun j => !decide (keyC (casesL b T) (rangeI T.length) 0 = keyC (casesL b T) (rangeI T.length) (j + 1))) ((casesL b T).length - 1) 0
    exact Nat.le_trans h2 (by omega)
  · simp
theorem law_FnExactDetectedFaults (p0 : BoardD) (p1 : List (List Int)) (h0 : p0.2.2.length ≤ 9223372036854775807) (h1 : p1.length ≤ 9223372036854775807) (g1 : ∀ x ∈ p1, x.length ≤ 9223372036854775807) : Ev (fun k => f_laws_FnExactDetectedFaults k p0 p1) true := by
  refine Ev.succ ?_
  simp only [f_laws_FnExactDetectedFaults]
  refine Ev.bind (e_laws_szBoard _ _ (by first | omega | (dsimp only; omega)) (by first | omega | (dsimp only; omega)) (by first | omega | (dsimp only; omega))) ?_
  by_cases q1 : (1048576 : Int) - (p0.2.2.length : Int) < 0
  · simp only [q1, if_true]; exact Ev.some _
  simp only [q1, if_false, decide_false, Bool.false_eq_true]
  refine Ev.bind (e_laws_szIntSS _ _ (by omega) (by omega) (by omega) g1) ?_
  by_cases q2 : (1048576 : Int) - (p0.2.2.length : Int) - (p1.length : Int) < 0
  · simp only [q2, if_true]; exact Ev.some _
  simp only [q2, if_false]
  by_cases r2 : (1048576 : Int) - (p0.2.2.length : Int) - (p1.length : Int) - szRows p1 < 0
  · simp only [r2, if_true]; exact Ev.some _
  simp only [r2, if_false, decide_false, Bool.false_eq_true]
  have y1 := szRows_nonneg p1
  have u1 : ∀ x ∈ p1, x.length ≤ 1048576 := fun x hx => by have := szRows_mem hx; omega
  have v1 : ∀ x ∈ p1, x.length ≤ 9223372036854775806 := fun x hxl => by have := u1 x hxl; omega
  have es := e_spec_DetectedFaults p0 p1 (by omega) (by omega) (by assumption)
  have ei := e_impl_DetectedFaults p0 p1 (by omega) (by omega) (by assumption)
  have hr := r_DetectedFaults_len p0 p1
  generalize r_DetectedFaults p0 p1 = R at es ei hr
  refine Ev.bind (e_laws_toBoard _ (by first | omega | (dsimp only; omega))) ?_
  refine Ev.bind (e_laws_toIntSS _ (by first | omega | (dsimp only; omega)) (by assumption)) ?_
  refine Ev.bind es ?_
  refine Ev.bind (e_laws_toBoard _ (by first | omega | (dsimp only; omega))) ?_
  refine Ev.bind (e_laws_toIntSS _ (by first | omega | (dsimp only; omega)) (by assumption)) ?_
  refine Ev.bind ei ?_
  refine Ev.bind (e_laws_eqIntS _ _ (by first | omega | (dsimp only; omega))) ?_
  simp only [decide_true, beq_self_eq_true, ne_eq, not_true_eq_false, decide_false, Bool.not_true, Bool.false_eq_true, if_false]
  refine Ev.bind (e_laws_toBoard _ (by first | omega | (dsimp only; omega))) ?_
  refine Ev.bind (e_laws_eqBoard _ _ (by first | omega | (dsimp only; omega))) ?_
  simp only [decide_true, beq_self_eq_true, ne_eq, not_true_eq_false, decide_false, Bool.not_true, Bool.false_eq_true, if_false]
  refine Ev.bind (e_laws_toIntSS _ (by first | omega | (dsimp only; omega)) (by assumption)) ?_
  refine Ev.bind (e_laws_eqIntSS _ _ (by first | omega | (dsimp only; omega)) (by assumption)) ?_
  simp only [decide_true, beq_self_eq_true, ne_eq, not_true_eq_false, decide_false, Bool.not_true, Bool.false_eq_true, if_false]
  refine Ev.bind (e_laws_markBoard _ _ (by first | omega | (dsimp only; omega)) (by first | omega | (dsimp only; omega))) ?_
  try dsimp only
  refine Ev.bind (e_laws_markIntSS _ _ (by first | omega | (dsimp only; omega)) (by first | omega | (dsimp only; omega)) (by first | omega | (dsimp only; omega))) ?_
  try dsimp only
  refine Ev.ite (fun h => by simp only [decide_eq_true_eq] at h; omega) (fun h => ?_)
  refine Ev.bind (e_laws_eqIntS _ _ (by first | omega | (dsimp only; omega))) ?_
  simp only [decide_true, beq_self_eq_true, ne_eq, not_true_eq_false, decide_false, Bool.not_true, Bool.false_eq_true, if_false]
  refine Ev.bind (e_laws_markIntS _ _ (by first | omega | (dsimp only; omega)) (by first | omega | (dsimp only; omega))) ?_
  try dsimp only
  refine Ev.bind (e_laws_heldIntS _ _ (by first | omega | (dsimp only; omega)) (by first | omega | (dsimp only; omega))) ?_
  try dsimp only
  refine Ev.ite (fun h => by simp only [decide_eq_true_eq] at h; omega) (fun h => ?_)
  simp only [decide_true, beq_self_eq_true, ne_eq, not_true_eq_false, decide_false, Bool.not_true, Bool.false_eq_true, if_false]
  refine Ev.bind (e_laws_toBoard _ (by first | omega | (dsimp only; omega))) ?_
  refine Ev.bind (e_laws_toIntSS _ (by first | omega | (dsimp only; omega)) (by assumption)) ?_
  refine Ev.bind ei ?_
  refine Ev.bind (e_laws_eqIntS _ _ (by first | omega | (dsimp only; omega))) ?_
  simp only [decide_true, beq_self_eq_true, ne_eq, not_true_eq_false, decide_false, Bool.not_true, Bool.false_eq_true, if_false]
  refine Ev.bind (e_laws_heldIntS _ _ (by first | omega | (dsimp only; omega)) (by first | omega | (dsimp only; omega))) ?_
  try dsimp only
  refine Ev.ite (fun h => by simp only [decide_eq_true_eq] at h; omega) (fun h => ?_)
  simp only [decide_true, beq_self_eq_true, ne_eq, not_true_eq_false, decide_false, Bool.not_true, Bool.false_eq_true, if_false]
  exact Ev.some _
end Go.Proofs.Ytgpmbmnfcbippaa.Vs
