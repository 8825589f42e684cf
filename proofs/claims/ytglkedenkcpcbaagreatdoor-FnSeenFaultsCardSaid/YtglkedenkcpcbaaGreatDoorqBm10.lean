/- The proof, part 11. -/
import Derived.Test.YtglkedenkcpcbaaGreatDoorqBm9
import Derived.KernelRfl
set_option linter.unusedVariables false
set_option linter.unusedSimpArgs false
namespace Go.Proofs.YtglkedenkcpcbaaGreatDoor.Vs
open Go.RowKit
abbrev FallD := Int × Int × Int
def goesOf (x : CellD) (side : Int) : Int := if x.1 = 1 then -1 else if x.1 = 2 then 1 else if x.1 = 3 then 2 * x.2 - 1 else if x.1 = 6 then 2 * x.2 - 1 else if x.1 = 4 then 0 - side else 0
theorem ZoN {x : CellD} (hx : cellOK x = true) {side : Int} (h1 : -1 ≤ side) (h2 : side ≤ 1) : -1 ≤ goesOf x side ∧ goesOf x side ≤ 1 := by
 obtain ⟨c1, c2, c3⟩ := ZdE hx
 unfold goesOf
 repeat' split
 all_goals omega
theorem Zu7 (x : CellD) (side : Int) (hx : cellOK x = true) (h1 : -1 ≤ side) (h2 : side ≤ 1) : Ev (fun k => ZcN k x side) (if x.1 = 5 then (0, false) else (goesOf x side, true)) := by
 obtain ⟨c1, c2, c3⟩ := ZdE hx
 have n1 : ¬ side < -1 := by omega
 have n2 : ¬ side > 1 := by omega
 refine Ev.succ ?_
 simp only [ZcN]
 refine Ev.bind (ZjT x) ?_
 simp only [hx, Bool.not_true, Bool.false_eq_true, if_false, n1, n2, decide_false]
 rw [w64 (n := 2 * x.2) (by omega) (by omega), w64 (n := 2 * x.2 - 1) (by omega) (by omega), w64 (n := 0 - side) (by omega) (by omega)]
 refine Ev.of ?_
 unfold goesOf
 by_cases a5 : x.1 = 5
 ·simp [a5]
 ·by_cases a1 : x.1 = 1 <;> by_cases a2 : x.1 = 2 <;> by_cases a3 : x.1 = 3 <;> by_cases a6 : x.1 = 6 <;> by_cases a4 : x.1 = 4 <;> simp [a1, a2, a3, a4, a5, a6]
theorem ZtW (x : CellD) (side : Int) (hx : cellOK x = true) (h1 : -1 ≤ side) (h2 : side ≤ 1) : Ev (fun k => Zae k x side) (goesOf x side) := by
 obtain ⟨c1, c2, c3⟩ := ZdE hx
 refine Ev.succ ?_
 simp only [Zae]
 rw [w64 (n := 2 * x.2) (by omega) (by omega), w64 (n := 2 * x.2 - 1) (by omega) (by omega), w64 (n := 0 - side) (by omega) (by omega)]
 refine Ev.of ?_
 unfold goesOf
 by_cases a1 : x.1 = 1 <;> by_cases a2 : x.1 = 2 <;> by_cases a3 : x.1 = 3 <;> by_cases a6 : x.1 = 6 <;> by_cases a4 : x.1 = 4 <;> simp [a1, a2, a3, a4, a6]
theorem ZHX {x : CellD} (hx : cellOK x = true) (h : x.1 = 3 ∨ x.1 = 6) : cellOK (flip1 x) = true := by
 obtain ⟨c1, c2, c3⟩ := ZdE hx
 unfold cellOK flip1
 simp only [decide_eq_true_eq]
 omega
theorem ZIy {α : Type} {l : List α} {x : α} (h : x ∈ l) : ∃ i : Nat, l[i]? = some x := List.getElem?_of_mem h
theorem ZaE (G K : List Int) (at' : Nat) (o : List CellD) : (stepAt G K at' o).length = o.length := by
 unfold stepAt turnAt
 split
 ·exact ZsG _ _ _ _ _ _
 ·rfl
theorem Zjh (G K : List Int) {at' : Nat} {o : List CellD} (hx : ∀ x ∈ o, cellOK x = true) : ∀ x ∈ stepAt G K at' o, cellOK x = true := by
 unfold stepAt turnAt
 split
 ·rename_i ht
  unfold turning at ht
  simp only [decide_eq_true_eq] at ht
  intro y hy
  obtain ⟨i, hi⟩ := ZIy hy
  rw [ZdX] at hi
  obtain ⟨x, h1, h2⟩ := Option.map_eq_some_iff.1 hi
  have hxo := hx x (List.mem_of_getElem? h1)
  split at h2
  ·rename_i hc
   rw [← h2]
   refine ZHX hxo ?_
   rcases hc.1 with h | ⟨_, h, _⟩
   ·rw [Nat.zero_add] at h
    subst h
    simpa [List.getD, h1] using ht
   ·exact .inr h
  ·rw [← h2]; exact hxo
 ·exact hx
theorem ZFx (G K : List Int) {at' i : Nat} {o : List CellD} (hk : List.getD K i 0 = 1) : (stepAt G K at' o)[i]? = o[i]? := by
 unfold stepAt turnAt
 split
 ·rw [ZdX, Nat.zero_add]
  cases h : o[i]? with
  | none => rfl
  | some x => rw [Option.map_some, if_neg (fun hc => hc.2 hk)]
 ·rfl
def fallL (b : BoardD) (G K : List Int) : Nat → Int → Int → Int → List CellD → LR (Int × List CellD) (FallD × List CellD)
 | 0, _, col, _, o => .go (col, o)
 | n + 1, row, col, side, o =>
  let at' := (row * b.2.1 + col).toNat
  let x := List.getD o at' (0, 0)
  if List.getD K at' 0 = 2 then .ret ((3, row, col), o)
  else if x.1 = 5 then .ret ((2, row, col), o)
  else
   let g := if List.getD K at' 0 = 3 then 0 - goesOf x side else goesOf x side
   if 0 ≤ col + g ∧ col + g < b.2.1 then fallL b G K n (row + 1) (col + g) (0 - g) (stepAt G K at' o) else .ret ((3, row, col + g), stepAt G K at' o)
def LR.map2 {Z R Z' R' : Type} (f : Z → Z') (g : R → R') : LR Z R → LR Z' R'
 | .go z => .go (f z) | .ret r => .ret (g r)
theorem ZhN (b : BoardD) (hb : boardOK b = true) (G K : List Int) (hG : G.length = b.2.2.length) (hK : K.length = b.2.2.length) (c0 c1 c2 : Int) : ∀ (n : Nat) (row col side : Int) (o : List CellD), row + n = b.1 → 0 ≤ row → 0 ≤ col → col < b.2.1 → -1 ≤ side → side ≤ 1 → o.length = b.2.2.length → (∀ x ∈ o, cellOK x = true) →
    Ev (fun k => ZK k o b.1 b.2.1 c0 c1 c2 G K col side row) ((fallL b G K n row col side o).map2 (fun z => (z.2, b.1, b.2.1, c0, c1, c2, z.1)) id)
  | 0, row, col, side, o, hn, hr, hc, hc2, hs, hs2, ho, hx => by
    refine Ev.succ ?_
    have : ¬ row < b.1 := by omega
    simp only [ZK, this, decide_false, Bool.false_eq_true, if_false, fallL, LR.map2]
    exact Ev.some _
  | n + 1, row, col, side, o, hn, hr, hc, hc2, hs, hs2, ho, hx => by
    obtain ⟨g1, g2, g3, g4, g5, g6⟩ := Zt hb
    have hpp := ZG g1 g2 g3 g4
    have hrow : row < b.1 := by omega
    have hp := Z48 hb hr hrow hc hc2
    have hoI : row * b.2.1 + col < (o.length : Int) := by omega
    have hKI : row * b.2.1 + col < (K.length : Int) := by omega
    have hcast : ((row * b.2.1 + col).toNat : Int) = row * b.2.1 + col := Int.toNat_of_nonneg hp.1
    refine Ev.succ ?_
    simp only [ZK, fallL]
    rw [w64 (n := row * b.2.1) (by omega) (by omega), w64 (n := row * b.2.1 + col) (by omega) (by omega), w64 (n := row + 1) (by omega) (by omega)]
    simp only [hrow, hp.1, hKI, hoI, decide_true, if_true]
    have hxo := hx _ (Zlg hp.1 hoI (0, 0))
    have hgo := ZoN hxo hs hs2
    have ht := Zna (List.getD o (row * b.2.1 + col).toNat (0, 0))
    rw [hxo, Bool.true_and] at ht
    have hturn := Zyc b.1 b.2.1 o G K (row * b.2.1 + col).toNat (by omega) (by omega) (by omega) (by omega) hx
    rw [hcast] at hturn
    generalize hX : List.getD o (row * b.2.1 + col).toNat (0, 0) = X at *
    refine Ev.ite (fun h => ?_) (fun h => ?_)
    · simp only [decide_eq_true_eq] at h
      rw [if_pos h]
      exact Ev.some _
    simp only [decide_eq_true_eq] at h
    rw [if_neg h]
    refine Ev.bind (Zu7 X side hxo hs hs2) ?_
    by_cases h5 : X.1 = 5
    · simp only [h5, if_true, Bool.not_false]
      exact Ev.some _
    simp only [h5, if_false, Bool.not_true, Bool.false_eq_true]
    have tail : ∀ g : Int, -1 ≤ g → g ≤ 1 → Ev (fun k => Option.bind (Z2P k X) fun z => if z = true then Option.bind (Z6d k (b.1, b.2.1, o) G K (row * b.2.1 + col)) fun z2 => if decide (wrap64 (col + g) < 0) = true then some (LR.ret ((3, row, wrap64 (col + g)), z2)) else if decide (wrap64 (col + g) ≥ b.2.1) = true then some (LR.ret ((3, row, wrap64 (col + g)), z2)) else ZK k z2 b.1 b.2.1 c0 c1 c2 G K (wrap64 (col + g)) (wrap64 (0 - g)) (row + 1)
        else if decide (wrap64 (col + g) < 0) = true then some (LR.ret ((3, row, wrap64 (col + g)), o)) else if decide (wrap64 (col + g) ≥ b.2.1) = true then some (LR.ret ((3, row, wrap64 (col + g)), o)) else ZK k o b.1 b.2.1 c0 c1 c2 G K (wrap64 (col + g)) (wrap64 (0 - g)) (row + 1))
        (LR.map2 (fun z => (z.2, b.1, b.2.1, c0, c1, c2, z.1)) id (if 0 ≤ col + g ∧ col + g < b.2.1 then fallL b G K n (row + 1) (col + g) (0 - g) (stepAt G K (row * b.2.1 + col).toNat o) else .ret ((3, row, col + g), stepAt G K (row * b.2.1 + col).toNat o))) := by
      intro g hg hg2
      rw [w64 (n := col + g) (by omega) (by omega), w64 (n := 0 - g) (by omega) (by omega)]
      have last : ∀ o' : List CellD, o' = stepAt G K (row * b.2.1 + col).toNat o → Ev (fun k => if decide (col + g < 0) = true then some (LR.ret ((3, row, col + g), o')) else if decide (col + g ≥ b.2.1) = true then some (LR.ret ((3, row, col + g), o')) else ZK k o' b.1 b.2.1 c0 c1 c2 G K (col + g) (0 - g) (row + 1))
          (LR.map2 (fun z => (z.2, b.1, b.2.1, c0, c1, c2, z.1)) id (if 0 ≤ col + g ∧ col + g < b.2.1 then fallL b G K n (row + 1) (col + g) (0 - g) (stepAt G K (row * b.2.1 + col).toNat o) else .ret ((3, row, col + g), stepAt G K (row * b.2.1 + col).toNat o))) := by
        intro o' ho'
        refine Ev.ite (fun q => ?_) (fun q => Ev.ite (fun q2 => ?_) (fun q2 => ?_))
        · simp only [decide_eq_true_eq] at q
          rw [if_neg (by omega), ho']
          exact Ev.some _
        · simp only [decide_eq_true_eq] at q2
          rw [if_neg (by omega), ho']
          exact Ev.some _
        · simp only [decide_eq_true_eq] at q q2
          rw [if_pos (by omega), ho']
          exact ZhN b hb G K hG hK c0 c1 c2 n (row + 1) (col + g) (0 - g) _ (by omega) (by omega) (by omega) (by omega) (by omega) (by omega) (by rw [ZaE]; exact ho) (Zjh G K hx)
      refine Ev.bind ht ?_
      have hstep : stepAt G K (row * b.2.1 + col).toNat o = if turning X then turnAt G K (row * b.2.1 + col).toNat o else o := by unfold stepAt; rw [hX]
      cases htx : turning X with
      | true =>
        simp only [if_true]
        exact Ev.bind hturn (last _ (by rw [hstep, htx]; rfl))
      | false =>
        simp only [Bool.false_eq_true, if_false]
        exact last _ (by rw [hstep, htx]; rfl)
    refine Ev.ite (fun h3 => ?_) (fun h3 => ?_)
    · simp only [decide_eq_true_eq] at h3
      simp only [h3, if_true]
      rw [w64 (n := 0 - goesOf X side) (by omega) (by omega)]
      exact tail _ (by omega) (by omega)
    · simp only [decide_eq_true_eq] at h3
      simp only [h3, if_false]
      exact tail _ hgo.1 hgo.2
def fallEnd (b : BoardD) (z : LR (Int × List CellD) (FallD × List CellD)) : FallD × List CellD := match z with
 | .go z => ((1, b.1, z.1), z.2)
 | .ret r => r
def fallOf (b : BoardD) (G K : List Int) (col : Int) (o : List CellD) : FallD × List CellD := fallEnd b (fallL b G K b.1.toNat 0 col 0 o)
theorem Zxo (b : BoardD) (hb : boardOK b = true) (G K : List Int) (hG : G.length = b.2.2.length) (hK : K.length = b.2.2.length) (col : Int) (hc : 0 ≤ col) (hc2 : col < b.2.1) (o : List CellD) (ho : o.length = b.2.2.length) (hx : ∀ x ∈ o, cellOK x = true) : Ev (fun k => Zb3 k (b.1, b.2.1, o) G K col) (fallOf b G K col o) := by
 obtain ⟨g1, g2, g3, g4, g5, g6⟩ := Zt hb
 refine Ev.succ ?_
 simp only [Zb3]
 refine Ev.bind (ZhN b hb G K hG hK 0 0 0 b.1.toNat 0 col 0 o (by omega) (by omega) hc hc2 (by omega) (by omega) ho hx) ?_
 unfold fallOf
 cases fallL b G K b.1.toNat 0 col 0 o with
 | go z => exact Ev.go (Ev.some _)
 | ret r => exact Ev.ret (Ev.some _)
theorem Zts (b : BoardD) (hb : boardOK b = true) (d1 d2 d3 d4 d5 : Int) (o4 : List CellD) (e1 e2 : Int) (v1 : List Int) (v2 : List FaultD) (v3 v12 v15 : Int) : ∀ (r pre : List FaultD) (o : List CellD), (∀ f ∈ r, 0 ≤ f.2.1 ∧ f.2.1 < b.1 ∧ 0 ≤ f.2.2 ∧ f.2.2 < b.2.1) → (pre ++ r).length ≤ 9223372036854775806 → o.length = b.2.2.length →
    Ev (fun k => Z84 k b.1 b.2.1 b.2.2 d1 d2 d3 d4 d5 o4 e1 e2 o v1 v2 v3 v12 v15 (pre ++ r) ((pre ++ r).length : Int) (pre.length : Int)) (b.1, b.2.1, b.2.2, d1, d2, d3, d4, d5, o4, e1, e2, restore b r o, v1, v2, v3, v12, v15)
  | [], pre, o, hr, hl, ho => by
    refine Ev.succ ?_
    simp only [Z84, ZR, decide_false, Bool.false_eq_true, if_false]
    exact Ev.some _
  | f :: r, pre, o, hr, hl, ho => by
    obtain ⟨k1, k2, k3, k4⟩ := hr f (List.mem_cons_self ..)
    have hp := Z48 hb k1 k2 k3 k4
    have hpo : f.2.1 * b.2.1 + f.2.2 < (o.length : Int) := by omega
    have hr' : ∀ g ∈ r, 0 ≤ g.2.1 ∧ g.2.1 < b.1 ∧ 0 ≤ g.2.2 ∧ g.2.2 < b.2.1 := fun g hg => hr g (List.mem_cons_of_mem _ hg)
    have ih := fun (o' : List CellD) (ho' : o'.length = b.2.2.length) => Zts b hb d1 d2 d3 d4 d5 o4 e1 e2 v1 v2 v3 v12 v15 r (pre ++ [f]) o' hr' (by simpa using hl) ho'
    simp only [← Z7] at ih
    have hrest : restore b (f :: r) o = restore b r (if f.1 = 1 then List.set o (placeOf b f).toNat (List.getD b.2.2 (placeOf b f).toNat (0, 0)) else o) := rfl
    rw [hrest]
    refine Ev.succ ?_
    simp only [Z84, Zy, Z16, decide_true, if_true, Int.toNat_natCast, Zk]
    rw [Zz pre f r (by omega), w64 (n := f.2.1 * b.2.1) (by omega) (by omega), w64 (n := f.2.1 * b.2.1 + f.2.2) (by omega) (by omega)]
    simp only [hp.1, hp.2.1, hpo, if_true]
    refine Ev.ite (fun h => ?_) (fun h => ?_)
    · simp only [decide_eq_true_eq] at h
      rw [if_pos h]
      exact ih _ (by rw [List.length_set]; exact ho)
    · simp only [decide_eq_true_eq] at h
      rw [if_neg h]
      exact ih _ ho
theorem Zht (b : BoardD) (h : b.2.2.length ≤ 1000000) : Ev (fun k => Z3y k b) b := by
 refine Ev.succ ?_
 simp only [Z3y, Z7I]
 have : 0 + b.2.2.length ≤ 140737488355328 / 16 := by omega
 simp only [this, if_true]
 exact Ev.some _
theorem ZlZ (b : BoardD) (h : b.2.2.length ≤ 1000000) : Ev (fun k => Z9r k b) b := by
 refine Ev.succ ?_
 simp only [Z9r, Z4t]
 have : 0 + b.2.2.length ≤ 140737488355328 / 16 := by omega
 simp only [this, if_true]
 exact Ev.some _
theorem ZqX (b : BoardD) (hb : boardOK b = true) (o : List CellD) (ho : o.length = b.2.2.length) {r c : Int} (h1 : 0 ≤ r) (h2 : r < b.1) (h3 : 0 ≤ c) (h4 : c < b.2.1) : Ev (fun k => Z4E k (b.1, b.2.1, o) r c) (List.getD o (r * b.2.1 + c).toNat (0, 0)) := by
 have hp := Z48 hb h1 h2 h3 h4
 have hpo : r * b.2.1 + c < (o.length : Int) := by omega
 refine Ev.succ ?_
 simp only [Z4E]
 rw [w64 (n := r * b.2.1) (by omega) (by omega), w64 (n := r * b.2.1 + c) (by omega) (by omega)]
 simp only [hp.1, hpo, if_true]
 exact Ev.some _
theorem ZtI (b : BoardD) (hb : boardOK b = true) (G : List Int) (hG : G.length = b.2.2.length) (l : List FaultD) (hl : faultsOK b (-1) l = true) (hll : l.length ≤ 9223372036854775806) (d1 d2 d3 d4 d5 : Int) (o4 : List CellD) : ∀ (n : Nat) (row col side : Int) (o : List CellD), row + n = b.1 → 0 ≤ row → 0 ≤ col → col < b.2.1 → -1 ≤ side → side ≤ 1 → o.length = b.2.2.length → (∀ x ∈ o, cellOK x = true) → (∀ i, i < o.length → List.getD (kindsB b l) i 0 = 1 → o[i]? = some (List.getD b.2.2 i (0, 0))) →
    Ev (fun k => Zac k b.1 b.2.1 b.2.2 d1 d2 d3 d4 d5 o4 b.1 b.2.1 o G l col side row) ((fallL b G (kindsB b l) n row col side o).map2 (fun z => (b.1, b.2.1, b.2.2, d1, d2, d3, d4, d5, o4, b.1, b.2.1, z.2, z.1)) (fun r => (r.1, b.1, b.2.1, r.2)))
  | 0, row, col, side, o, hn, hr, hc, hc2, hs, hs2, ho, hx, hst => by
    refine Ev.succ ?_
    have : ¬ row < b.1 := by omega
    simp only [Zac, this, decide_false, Bool.false_eq_true, if_false, fallL, LR.map2]
    exact Ev.some _
  | n + 1, row, col, side, o, hn, hr, hc, hc2, hs, hs2, ho, hx, hst => by
    obtain ⟨g1, g2, g3, g4, g5, g6⟩ := Zt hb
    have hpp := ZG g1 g2 g3 g4
    have hrow : row < b.1 := by omega
    have hp := Z48 hb hr hrow hc hc2
    have hoI : row * b.2.1 + col < (o.length : Int) := by omega
    have hcast : ((row * b.2.1 + col).toNat : Int) = row * b.2.1 + col := Int.toNat_of_nonneg hp.1
    have hK : List.getD (kindsB b l) (row * b.2.1 + col).toNat 0 = faAtD row col 0 l := by
      unfold kindsB
      rw [Zrv hb hr hrow hc hc2 hl (by simp)]
      congr 1
      simp only [List.getD, List.getElem?_replicate]
      split <;> rfl
    have hxo := hx _ (Zlg hp.1 hoI (0, 0))
    have hgo := ZoN hxo hs hs2
    have hpass := ZtH b.1 b.2.1 o G (row * b.2.1 + col).toNat (by omega) (by omega) (by omega) hx
    rw [hcast] at hpass
    have hres := Zvt hb hl G ho (at' := (row * b.2.1 + col).toNat) (by omega) hst
    have hpl : (passAt G (row * b.2.1 + col).toNat o).length = b.2.2.length := by
      have := congrArg List.length hres
      rw [Zpy, ZaE] at this
      omega
    refine Ev.succ ?_
    simp only [Zac, fallL]
    simp only [hrow, decide_true, if_true]
    refine Ev.bind (ZqX b hb o ho hr hrow hc hc2) ?_
    generalize hX : List.getD o (row * b.2.1 + col).toNat (0, 0) = X at *
    refine Ev.bind (ZGp l row col hll) ?_
    rw [hK]
    refine Ev.ite (fun h => ?_) (fun h => ?_)
    · simp only [decide_eq_true_eq] at h
      rw [if_pos h]
      simp only [Z92]
      exact Ev.bind (Ev.some _) (Ev.some _)
    simp only [decide_eq_true_eq] at h
    rw [if_neg h]
    refine Ev.ite (fun h5 => ?_) (fun h5 => ?_)
    · simp only [decide_eq_true_eq] at h5
      rw [if_pos h5]
      simp only [Z7N]
      exact Ev.bind (Ev.some _) (Ev.some _)
    simp only [decide_eq_true_eq] at h5
    rw [if_neg h5]
    refine Ev.bind (ZtW X side hxo hs hs2) ?_
    have hg : -1 ≤ (if faAtD row col 0 l = 3 then 0 - goesOf X side else goesOf X side) ∧ (if faAtD row col 0 l = 3 then 0 - goesOf X side else goesOf X side) ≤ 1 := by split <;> omega
    have hj : Ev (fun k => Zdn k b.1 b.2.1 b.2.2 d1 d2 d3 d4 d5 o4 b.1 b.2.1 o G l col row (goesOf X side) (decide (faAtD row col 0 l = 3))) (b.1, b.2.1, b.2.2, d1, d2, d3, d4, d5, o4, b.1, b.2.1, o, G, l, col, row, if faAtD row col 0 l = 3 then 0 - goesOf X side else goesOf X side) := by
      simp only [Zdn]
      rw [w64 (n := 0 - goesOf X side) (by omega) (by omega)]
      refine Ev.of ?_
      by_cases h3 : faAtD row col 0 l = 3 <;> simp [h3]
    refine Ev.bind hj ?_
    generalize (if faAtD row col 0 l = 3 then 0 - goesOf X side else goesOf X side) = g at *
    dsimp only
    rw [w64 (n := row * b.2.1) (by omega) (by omega), w64 (n := row * b.2.1 + col) (by omega) (by omega)]
    refine Ev.bind hpass ?_
    refine Ev.bind (Zts b hb d1 d2 d3 d4 d5 o4 b.1 b.2.1 G l col row g l [] _ (Zot hl) (by simpa using hll) hpl) ?_
    rw [hres]
    dsimp only
    rw [w64 (n := col + g) (by omega) (by omega), w64 (n := b.2.1 - 1) (by omega) (by omega), w64 (n := 0 - g) (by omega) (by omega), w64 (n := row + 1) (by omega) (by omega)]
    refine Ev.bind (Z34 _ _ _) (Ev.ite (fun q => ?_) (fun q => ?_))
    · have q : ¬ (0 ≤ col + g ∧ col + g ≤ b.2.1 - 1) := nd q
      rw [if_neg (by omega)]
      simp only [Z7T]
      exact Ev.bind (Ev.some _) (Ev.some _)
    · have q : 0 ≤ col + g ∧ col + g ≤ b.2.1 - 1 := yd q
      rw [if_pos (by omega)]
      refine ZtI b hb G hG l hl hll d1 d2 d3 d4 d5 o4 n (row + 1) (col + g) (0 - g) _ (by omega) (by omega) (by omega) (by omega) (by omega) (by omega) (by rw [ZaE]; exact ho) (Zjh G _ hx) (fun i hi hk => ?_)
      rw [ZFx G _ hk]
      rw [ZaE] at hi
      exact hst i hi hk
theorem ZGz (b : BoardD) (hb : boardOK b = true) (G : List Int) (hG : G.length = b.2.2.length) (l : List FaultD) (hl : faultsOK b (-1) l = true) (hll : l.length ≤ 9223372036854775806) (col : Int) (hc : 0 ≤ col) (hc2 : col < b.2.1) : Ev (fun k => ZiW k b G l col) ((fallOf b G (kindsB b l) col b.2.2).1, b.1, b.2.1, (fallOf b G (kindsB b l) col b.2.2).2) := by
 obtain ⟨g1, g2, g3, g4, g5, g6⟩ := Zt hb
 have hpp := ZG g1 g2 g3 g4
 refine Ev.succ ?_
 simp only [ZiW]
 refine Ev.bind (Zht b (by omega)) ?_
 refine Ev.bind (ZtI b hb G hG l hl hll 0 0 0 0 0 [] b.1.toNat 0 col 0 b.2.2 (by omega) (by omega) hc hc2 (by omega) (by omega) rfl g6 (fun i hi _ => by simp [List.getD, List.getElem?_eq_getElem hi])) ?_
 unfold fallOf
 cases fallL b G (kindsB b l) b.1.toNat 0 col 0 b.2.2 with
 | go z =>
  refine Ev.go ?_
  simp only [Z7Z]
  exact Ev.bind (Ev.some _) (Ev.some _)
 | ret r => exact Ev.ret (Ev.some _)
end Go.Proofs.YtglkedenkcpcbaaGreatDoor.Vs

set_option linter.unusedVariables false
set_option linter.unusedSimpArgs false
namespace Go.Proofs.YtglkedenkcpcbaaGreatDoor.Vs
open Go.RowKit
end Go.Proofs.YtglkedenkcpcbaaGreatDoor.Vs

set_option linter.unusedVariables false
set_option linter.unusedSimpArgs false
namespace Go.Proofs.YtglkedenkcpcbaaGreatDoor.Vs
open Go.RowKit
theorem Zjm (b : BoardD) (G K : List Int) : ∀ (n : Nat) (row col side : Int) (o : List CellD), (fallEnd b (fallL b G K n row col side o)).2.length = o.length
 | 0, _, _, _, _ => rfl
 | n + 1, row, col, side, o => by
  unfold fallL
  dsimp only
  repeat' split
  all_goals first | rfl | (rw [Zjm]; exact ZaE _ _ _ _) | exact ZaE _ _ _ _
end Go.Proofs.YtglkedenkcpcbaaGreatDoor.Vs

set_option linter.unusedVariables false
set_option linter.unusedSimpArgs false
namespace Go.Proofs.YtglkedenkcpcbaaGreatDoor.Vs
open Go.RowKit
theorem ZFO (G K : List Int) (at' : Nat) (o : List CellD) : (stepAt G K at' o).map Prod.fst = o.map Prod.fst := by
 unfold stepAt turnAt
 split
 ·apply List.ext_getElem?
  intro i
  simp only [List.getElem?_map, ZdX]
  cases o[i]? with
  | none => rfl
  | some x =>
   simp only [Option.map_some]
   split <;> simp [flip1]
 ·rfl
theorem Zq2 (b : BoardD) (G K : List Int) : ∀ (n : Nat) (row col side : Int) (o : List CellD), (∀ x ∈ o, cellOK x = true) → (∀ x ∈ (fallEnd b (fallL b G K n row col side o)).2, cellOK x = true) ∧ (fallEnd b (fallL b G K n row col side o)).2.map Prod.fst = o.map Prod.fst
 | 0, _, _, _, o, hx => ⟨hx, rfl⟩
 | n + 1, row, col, side, o, hx => by
  have h1 := Zq2 b G K n (row + 1)
  unfold fallL
  dsimp only
  have h2 := Zjh G K (at' := (row * b.2.1 + col).toNat) hx
  have h3 := ZFO G K (row * b.2.1 + col).toNat o
  repeat' split
  all_goals first | exact ⟨hx, rfl⟩ | exact ⟨h2, h3⟩ | exact ⟨(h1 _ _ _ h2).1, (h1 _ _ _ h2).2.trans h3⟩
theorem ZgP (b : BoardD) (G K : List Int) (c : Int) {o : List CellD} (hx : ∀ x ∈ o, cellOK x = true) : ∀ x ∈ (fallOf b G K c o).2, cellOK x = true := (Zq2 b G K _ _ _ _ o hx).1
theorem ZFh (b : BoardD) (G K : List Int) (c : Int) {o : List CellD} (hx : ∀ x ∈ o, cellOK x = true) : (fallOf b G K c o).2.map Prod.fst = o.map Prod.fst := (Zq2 b G K _ _ _ _ o hx).2
theorem ZBt {b b' : BoardD} (h : b.2.1 = b'.2.1) (G K : List Int) : ∀ (n : Nat) (row col side : Int) (o : List CellD), fallL b G K n row col side o = fallL b' G K n row col side o
 | 0, _, _, _, _ => rfl
 | n + 1, row, col, side, o => by simp only [fallL, h, ZBt h G K n]
theorem ZyK {b b' : BoardD} (h1 : b.1 = b'.1) (h2 : b.2.1 = b'.2.1) (G K : List Int) (c : Int) (o : List CellD) : fallOf b G K c o = fallOf b' G K c o := by
 have : fallEnd b = fallEnd b' := by funext z; cases z <;> simp [fallEnd, h1]
 unfold fallOf
 rw [this, ZBt h2, h1]
theorem ZyO {b b' : BoardD} (h : b.2.1 = b'.2.1) (hl : b.2.2.length = b'.2.2.length) (l : List FaultD) : kindsB b l = kindsB b' l := by simp only [kindsB, kindsOf, placeOf, h, hl]
theorem ZHN {x y : CellD} (h : x.1 = y.1) (k : Int) : fits x k = fits y k := by unfold fits turning; rw [h]
theorem ZHL {o o' : List CellD} (h : o.map Prod.fst = o'.map Prod.fst) (i : Nat) : (List.getD o i (0, 0)).1 = (List.getD o' i (0, 0)).1 := by
 have := congrArg (fun l => l[i]?) h
 simp only [List.getElem?_map] at this
 simp only [List.getD]
 cases h1 : o[i]? <;> cases h2 : o'[i]? <;> simp [h1, h2] at this ⊢
 exact this
theorem ZtD {b b' : BoardD} (h1 : b.1 = b'.1) (h2 : b.2.1 = b'.2.1) (h : b.2.2.map Prod.fst = b'.2.2.map Prod.fst) : ∀ (l : List FaultD) (last : Int), faultsOK b last l = faultsOK b' last l
 | [], _ => rfl
 | x :: r, last => by
  simp only [faultsOK, h1, h2, ZtD h1 h2 h r]
  rw [ZHN (ZHL h _)]
theorem ZFw {b : BoardD} (hb : boardOK b = true) {o : List CellD} (ho : o.length = b.2.2.length) (hx : ∀ x ∈ o, cellOK x = true) : boardOK (b.1, b.2.1, o) = true := by
 obtain ⟨g1, g2, g3, g4, g5, g6⟩ := Zt hb
 unfold boardOK
 have : (o.length : Int) = b.1 * b.2.1 := by omega
 simp only [g1, g2, g3, g4, this, and_self, decide_true, Bool.true_and]
 exact List.all_eq_true.2 hx
def runsOf (b : BoardD) (G K : List Int) : List Int → List CellD → List FallD × List CellD
 | [], o => ([], o)
 | c :: r, o => ((fallOf b G K c o).1 :: (runsOf b G K r (fallOf b G K c o).2).1, (runsOf b G K r (fallOf b G K c o).2).2)
theorem ZBp (b : BoardD) (G K : List Int) : ∀ (l : List Int) (o : List CellD), (runsOf b G K l o).1.length = l.length
 | [], _ => rfl
 | c :: r, o => by simp [runsOf, ZBp b G K r]
def colsOK (b : BoardD) (l : List Int) : Prop := ∀ c ∈ l, 0 ≤ c ∧ c < b.2.1
theorem ZqS (b : BoardD) (hb : boardOK b = true) (G : List Int) (hG : G.length = b.2.2.length) (l : List FaultD) (hl : faultsOK b (-1) l = true) (hll : l.length ≤ 9223372036854775806) (d1 d2 : Int) (d3 : List CellD) : ∀ (r pre : List Int) (o : List CellD) (w : List FallD), colsOK b r → (pre ++ r).length ≤ 1000 → w.length = pre.length → o.length = b.2.2.length → (∀ x ∈ o, cellOK x = true) → o.map Prod.fst = b.2.2.map Prod.fst →
    Ev (fun k => Z8T k d1 d2 d3 b.1 b.2.1 o G w l (pre ++ r) ((pre ++ r).length : Int) (pre.length : Int)) (d1, d2, d3, b.1, b.2.1, (runsOf b G (kindsB b l) r o).2, w ++ (runsOf b G (kindsB b l) r o).1)
  | [], pre, o, w, hc, hl1, hw, ho, hx, hp => by
    refine Ev.succ ?_
    simp only [Z8T, ZR, decide_false, Bool.false_eq_true, if_false]
    simp only [runsOf, List.append_nil]
    exact Ev.some _
  | c :: r, pre, o, w, hc, hl1, hw, ho, hx, hp => by
    obtain ⟨k1, k2⟩ := hc c (List.mem_cons_self ..)
    have hb' := ZFw hb ho hx
    have hg := ZGz (b.1, b.2.1, o) hb' G (hG.trans ho.symm) l (by rw [ZtD (b := (b.1, b.2.1, o)) (b' := b) rfl rfl hp]; exact hl) hll c k1 k2
    rw [ZyK (b := (b.1, b.2.1, o)) (b' := b) rfl rfl, ZyO (b := (b.1, b.2.1, o)) (b' := b) rfl ho] at hg
    have hlw : w.length + 1 ≤ 140737488355328 / 24 := by simp at hl1; omega
    refine Ev.succ ?_
    simp only [Z8T, Zy, Z16, decide_true, if_true, Int.toNat_natCast, Zk]
    refine Ev.bind hg ?_
    simp only [List.length_singleton, hlw, if_true]
    rw [Zz pre c r (by omega)]
    have ih := ZqS b hb G hG l hl hll d1 d2 d3 r (pre ++ [c]) (fallOf b G (kindsB b l) c o).2 (w ++ [(fallOf b G (kindsB b l) c o).1]) (fun y hy => hc y (List.mem_cons_of_mem _ hy)) (by simpa using hl1) (by simp [hw]) ((Zjm b G _ _ _ _ _ o).trans ho) (ZgP _ _ _ _ hx) ((ZFh _ _ _ _ hx).trans hp)
    rw [← Z7] at ih
    refine ih.congr ?_
    simp [runsOf]
theorem ZvG (b : BoardD) (hb : boardOK b = true) (l : List FaultD) (hl : faultsOK b (-1) l = true) (hll : l.length ≤ 9223372036854775806) (t : List Int) (ht : t.length ≤ 1000) (hc : colsOK b t) : Ev (fun k => ZdW k b l t) ((runsOf b (groupsOf b) (kindsB b l) t b.2.2).1, b.1, b.2.1, (runsOf b (groupsOf b) (kindsB b l) t b.2.2).2) := by
 obtain ⟨g1, g2, g3, g4, g5, g6⟩ := Zt hb
 have hpp := ZG g1 g2 g3 g4
 refine Ev.succ ?_
 simp only [ZdW]
 have h0 : Ev (fun k => Z5H k b.1 b.2.1 b.2.2 0 0 [] l t) (0, 0, [], b.1, b.2.1, b.2.2, groupsOf b, l, t) := by
  simp only [Z5H]
  exact Ev.bind (Zht b (by omega)) (Ev.bind (Zow b hb) (Ev.some _))
 refine Ev.bind h0 ?_
 refine Ev.bind (ZqS b hb (groupsOf b) (ZgV b) l hl hll 0 0 [] t [] b.2.2 [] hc (by simpa using ht) rfl rfl g6 rfl) ?_
 exact Ev.some _
theorem Zhj (b : BoardD) (hb : boardOK b = true) (G K : List Int) (hG : G.length = b.2.2.length) (hK : K.length = b.2.2.length) (d1 d2 : Int) (d3 : List CellD) : ∀ (r pre : List Int) (o : List CellD) (w : List FallD), colsOK b r → (pre ++ r).length ≤ 1000 → w.length = pre.length → o.length = b.2.2.length → (∀ x ∈ o, cellOK x = true) →
    Ev (fun k => Z3Y k d1 d2 d3 b.1 b.2.1 o G K w (pre ++ r) ((pre ++ r).length : Int) (pre.length : Int)) (d1, d2, d3, b.1, b.2.1, (runsOf b G K r o).2, w ++ (runsOf b G K r o).1)
  | [], pre, o, w, hc, hl1, hw, ho, hx => by
    refine Ev.succ ?_
    simp only [Z3Y, ZR, decide_false, Bool.false_eq_true, if_false]
    simp only [runsOf, List.append_nil]
    exact Ev.some _
  | c :: r, pre, o, w, hc, hl1, hw, ho, hx => by
    obtain ⟨k1, k2⟩ := hc c (List.mem_cons_self ..)
    have hg := Zxo b hb G K hG hK c k1 k2 o ho hx
    have hlw : w.length + 1 ≤ 140737488355328 / 24 := by simp at hl1; omega
    refine Ev.succ ?_
    simp only [Z3Y, Zy, Z16, decide_true, if_true, Int.toNat_natCast, Zk]
    refine Ev.bind hg ?_
    simp only [List.length_singleton, hlw, if_true]
    rw [Zz pre c r (by omega)]
    have ih := Zhj b hb G K hG hK d1 d2 d3 r (pre ++ [c]) (fallOf b G K c o).2 (w ++ [(fallOf b G K c o).1]) (fun y hy => hc y (List.mem_cons_of_mem _ hy)) (by simpa using hl1) (by simp [hw]) ((Zjm b G _ _ _ _ _ o).trans ho) (ZgP _ _ _ _ hx)
    rw [← Z7] at ih
    refine ih.congr ?_
    simp [runsOf]
theorem ZvB (b : BoardD) (hb : boardOK b = true) (l : List FaultD) (hl : faultsOK b (-1) l = true) (hll : l.length ≤ 9223372036854775806) (t : List Int) (ht : t.length ≤ 1000) (hc : colsOK b t) : Ev (fun k => Zay k b l t) ((runsOf b (groupsOf b) (kindsB b l) t b.2.2).1, b.1, b.2.1, (runsOf b (groupsOf b) (kindsB b l) t b.2.2).2) := by
 obtain ⟨g1, g2, g3, g4, g5, g6⟩ := Zt hb
 have hpp := ZG g1 g2 g3 g4
 refine Ev.succ ?_
 simp only [Zay]
 refine Ev.bind (ZlZ b (by omega)) (Ev.bind (ZhQ b hb) (Ev.bind (ZuD b hb l hl hll) ?_))
 refine Ev.bind (Zhj b hb (groupsOf b) (kindsB b l) (ZgV b) (ZHl b l) 0 0 [] t [] b.2.2 [] hc (by simpa using ht) rfl rfl g6) ?_
 exact Ev.some _
theorem Zsx (b : BoardD) (i : Nat) : List.getD (kindsB b []) i 0 = 0 := by
 show List.getD (List.replicate b.2.2.length (0 : Int)) i 0 = 0
 simp only [List.getD, List.getElem?_replicate]
 split <;> rfl
theorem ZDT {b : BoardD} (hb : boardOK b = true) (G : List Int) {at' : Nat} {o : List CellD} (ho : o.length = b.2.2.length) (ha : at' < o.length) : passAt G at' o = stepAt G (kindsB b []) at' o :=
 Zvt (l := []) hb rfl G ho ha (fun i _ h => by rw [Zsx] at h; cases h)
theorem Zt9 (b : BoardD) (hb : boardOK b = true) (G : List Int) (hG : G.length = b.2.2.length) (d1 d2 d3 d4 d5 : Int) (o4 : List CellD) : ∀ (n : Nat) (row col side : Int) (o : List CellD) (q : List (List Int)), row + n = b.1 → 0 ≤ row → 0 ≤ col → col < b.2.1 → -1 ≤ side → side ≤ 1 → o.length = b.2.2.length → (∀ x ∈ o, cellOK x = true) → (q.length : Int) = row →
    ∃ p, Ev (fun k => Z6p k b.1 b.2.1 b.2.2 d1 d2 d3 d4 d5 o4 b.1 b.2.1 o q G col side row) ((fallL b G (kindsB b []) n row col side o).map2 (fun z => (b.1, b.2.1, b.2.2, d1, d2, d3, d4, d5, o4, b.1, b.2.1, z.2, p, z.1)) (fun r => (r.1, (b.1, b.2.1, r.2), p)))
  | 0, row, col, side, o, q, hn, hr, hc, hc2, hs, hs2, ho, hx, hq => by
    refine ⟨q, Ev.succ ?_⟩
    have : ¬ row < b.1 := by omega
    simp only [Z6p, this, decide_false, Bool.false_eq_true, if_false, fallL, LR.map2]
    exact Ev.some _
  | n + 1, row, col, side, o, q, hn, hr, hc, hc2, hs, hs2, ho, hx, hq => by
    obtain ⟨g1, g2, g3, g4, g5, g6⟩ := Zt hb
    have hpp := ZG g1 g2 g3 g4
    have hrow : row < b.1 := by omega
    have hp := Z48 hb hr hrow hc hc2
    have hoI : row * b.2.1 + col < (o.length : Int) := by omega
    have hcast : ((row * b.2.1 + col).toNat : Int) = row * b.2.1 + col := Int.toNat_of_nonneg hp.1
    have hxo := hx _ (Zlg hp.1 hoI (0, 0))
    have hgo := ZoN hxo hs hs2
    have hpass := ZtH b.1 b.2.1 o G (row * b.2.1 + col).toNat (by omega) (by omega) (by omega) hx
    rw [hcast, ZDT hb G ho (by omega)] at hpass
    have hql : q.length + 1 ≤ 140737488355328 / 24 := by omega
    have hk2 : ¬ (0 : Int) = 2 := by omega
    have hk3 : ¬ (0 : Int) = 3 := by omega
    generalize hX : List.getD o (row * b.2.1 + col).toNat (0, 0) = X at *
    have start : ∀ {v : List (List Int) → LR (Int × Int × List CellD × Int × Int × Int × Int × Int × List CellD × Int × Int × List CellD × List (List Int) × Int) (FallD × BoardD × List (List Int))}, (∃ p, Ev (fun k => if decide (X.1 = 5) = true then Option.bind (Z5y k d1 d2 d3 d4 d5 o4 b.1 b.2.1 o (q ++ [[row, col]]) col row) fun z2 => some (LR.ret ((z2.1, z2.2.1, z2.2.2.1), (z2.2.2.2.1, z2.2.2.2.2.1, z2.2.2.2.2.2.1), z2.2.2.2.2.2.2))
        else Option.bind (Zae k X side) fun z3 => Option.bind (Zad k (b.1, b.2.1, o) G (row * b.2.1 + col)) fun z4 => Option.bind (Z1L k (wrap64 (col + z3)) (0 : Int) (b.2.1 - 1)) fun z5 => if (!z5) = true then Option.bind (Z5C k d1 d2 d3 d4 d5 o4 b.1 b.2.1 z4 (q ++ [[row, col]]) (wrap64 (col + z3)) row) fun z6 => some (LR.ret ((z6.1, z6.2.1, z6.2.2.1), (z6.2.2.2.1, z6.2.2.2.2.1, z6.2.2.2.2.2.1), z6.2.2.2.2.2.2)) else Z6p k b.1 b.2.1 b.2.2 d1 d2 d3 d4 d5 o4 b.1 b.2.1 z4 (q ++ [[row, col]]) G (wrap64 (col + z3)) (wrap64 ((0 : Int) - z3)) (wrap64 (row + (1 : Int)))) (v p)) →
        ∃ p, Ev (fun k => Z6p k b.1 b.2.1 b.2.2 d1 d2 d3 d4 d5 o4 b.1 b.2.1 o q G col side row) (v p) := by
      rintro v ⟨p, h⟩
      refine ⟨p, Ev.succ ?_⟩
      simp only [Z6p, hrow, decide_true, if_true, List.length_singleton, hql]
      rw [w64 (n := row * b.2.1) (by omega) (by omega), w64 (n := row * b.2.1 + col) (by omega) (by omega), w64 (n := b.2.1 - 1) (by omega) (by omega)]
      have := ZqX b hb o ho hr hrow hc hc2
      rw [hX] at this
      exact Ev.bind this h
    refine start ?_
    simp only [fallL, hX, Zsx, hk2, hk3, if_false]
    by_cases h5 : X.1 = 5
    · refine ⟨q ++ [[row, col]], ?_⟩
      simp only [h5, decide_true, if_true, Z5y]
      exact Ev.bind (Ev.some _) (Ev.some _)
    simp only [h5, decide_false, Bool.false_eq_true, if_false]
    generalize hgg : goesOf X side = g at *
    have hgo' := ZtW X side hxo hs hs2
    rw [hgg] at hgo'
    by_cases hin : 0 ≤ col + g ∧ col + g < b.2.1
    · rw [if_pos hin]
      obtain ⟨p, ih⟩ := Zt9 b hb G hG d1 d2 d3 d4 d5 o4 n (row + 1) (col + g) (0 - g) (stepAt G (kindsB b []) (row * b.2.1 + col).toNat o) (q ++ [[row, col]]) (by omega) (by omega) (by omega) (by omega) (by omega) (by omega) (by rw [ZaE]; exact ho) (Zjh G _ hx) (by simp; omega)
      refine ⟨p, Ev.bind hgo' (Ev.bind hpass ?_)⟩
      rw [w64 (n := col + g) (by omega) (by omega), w64 (n := 0 - g) (by omega) (by omega), w64 (n := row + 1) (by omega) (by omega)]
      refine Ev.bind (Z34 _ _ _) (Ev.ite (fun hh => ?_) (fun hh => ih))
      have hh : ¬ (0 ≤ col + g ∧ col + g ≤ b.2.1 - 1) := nd hh
      omega
    · rw [if_neg hin]
      refine ⟨q ++ [[row, col]], Ev.bind hgo' (Ev.bind hpass ?_)⟩
      rw [w64 (n := col + g) (by omega) (by omega)]
      refine Ev.bind (Z34 _ _ _) (Ev.ite (fun hh => ?_) (fun hh => ?_))
      · simp only [Z5C]
        exact Ev.bind (Ev.some _) (Ev.some _)
      · have hh : 0 ≤ col + g ∧ col + g ≤ b.2.1 - 1 := yd hh
        omega
theorem ZGw (b : BoardD) (hb : boardOK b = true) (G : List Int) (hG : G.length = b.2.2.length) (col : Int) (hc : 0 ≤ col) (hc2 : col < b.2.1) : ∃ p, Ev (fun k => ZiP k b G col) ((fallOf b G (kindsB b []) col b.2.2).1, (b.1, b.2.1, (fallOf b G (kindsB b []) col b.2.2).2), p) := by
 obtain ⟨g1, g2, g3, g4, g5, g6⟩ := Zt hb
 have hpp := ZG g1 g2 g3 g4
 obtain ⟨p, h⟩ := Zt9 b hb G hG 0 0 0 0 0 [] b.1.toNat 0 col 0 b.2.2 [] (by omega) (by omega) hc hc2 (by omega) (by omega) rfl g6 rfl
 refine ⟨p, Ev.succ ?_⟩
 simp only [ZiP]
 refine Ev.bind (Zht b (by omega)) (Ev.bind h ?_)
 unfold fallOf
 cases fallL b G (kindsB b []) b.1.toNat 0 col 0 b.2.2 with
 | go z =>
  refine Ev.go ?_
  simp only [Z7L]
  exact Ev.bind (Ev.some _) (Ev.some _)
 | ret r => exact Ev.ret (Ev.some _)
theorem Zji (R C : Int) (G : List Int) (at' : Nat) : ∀ (r pre : List CellD), (pre ++ r).length ≤ 1000 → at' < (pre ++ r).length → G.length = (pre ++ r).length → (∀ x ∈ r, cellOK x = true) →
    Ev (fun k => Z1Z k (pre ++ r) R C G (at' : Int) ((pre ++ r).length : Int) (pre.length : Int)) (pre ++ passGo G (List.getD G at' 0) pre.length r)
  | [], pre, hl, ha, hG, hx => by
    refine Ev.succ ?_
    simp only [Z1Z, ZR, decide_false, Bool.false_eq_true, if_false, passGo]
    exact Ev.some _
  | x :: r, pre, hl, ha, hG, hx => by
    have hn := Zz pre x r (by omega)
    have hlt := Zy pre x r
    have hGl : (pre.length : Int) < (G.length : Int) := by rw [hG]; exact hlt
    have ha0 : (0 : Int) ≤ (at' : Int) := Int.natCast_nonneg _
    have ha1 : (at' : Int) < ((pre ++ x :: r).length : Int) := by omega
    have haG : (at' : Int) < (G.length : Int) := by rw [hG]; exact ha1
    obtain ⟨c1, c2, c3⟩ := ZdE (hx x (List.mem_cons_self ..))
    have hr' : ∀ y ∈ r, cellOK y = true := fun y hy => hx y (List.mem_cons_of_mem _ hy)
    have next : ∀ y : CellD, Ev (fun k => Z1Z k (pre ++ y :: r) R C G (at' : Int) ((pre ++ x :: r).length : Int) ((pre ++ [x]).length : Int)) (pre ++ y :: passGo G (List.getD G at' 0) (pre.length + 1) r) := by
      intro y
      have ih := Zji R C G at' r (pre ++ [y]) (by simpa using hl) (by simpa using ha) (by simpa using hG) hr'
      have e1 : ((pre ++ [y] ++ r).length : Int) = ((pre ++ x :: r).length : Int) := by simp
      have e2 : ((pre ++ [y]).length : Int) = ((pre ++ [x]).length : Int) := by simp
      have e3 : (pre ++ [y]).length = pre.length + 1 := by simp
      rw [e1, e2, e3, ← Z7, ← Z7] at ih
      exact ih
    refine Ev.succ ?_
    simp only [Z1Z, Zy, Z16, decide_true, if_true, Int.toNat_natCast, Zk, Zqk, hn, hGl, ha0, haG]
    rw [w64 (n := 1 - x.2) (by omega) (by omega)]
    simp only [passGo]
    refine Ev.ite (fun h1 => Ev.ite (fun h2 => ?_) (fun h2 => ?_)) (fun h1 => ?_)
    · simp only [decide_eq_true_eq] at h1 h2
      rw [if_pos ⟨h1, h2⟩]
      exact next (flip1 x)
    · simp only [decide_eq_true_eq] at h2
      rw [if_neg (fun hc => h2 hc.2)]
      exact next x
    · simp only [decide_eq_true_eq] at h1
      rw [if_neg (fun hc => h1 hc.1)]
      exact next x
theorem ZAK (R C : Int) (o : List CellD) (G : List Int) (at' : Nat) (hl : o.length ≤ 1000) (ha : at' < o.length) (hG : G.length = o.length) (hx : ∀ x ∈ o, cellOK x = true) : Ev (fun k => Z9z k (R, C, o) G (at' : Int)) (passGo G (List.getD G at' 0) 0 o) := by
 refine Ev.succ ?_
 simp only [Z9z]
 exact Ev.bind (Zji R C G at' o [] hl ha hG hx) (Ev.some _)
theorem Zu1 (b : BoardD) (hb : boardOK b = true) (G : List Int) (hG : G.length = b.2.2.length) (c0 c1 c2 : Int) : ∀ (n : Nat) (row col side : Int) (o : List CellD) (q : List Int), row + n = b.1 → 0 ≤ row → 0 ≤ col → col < b.2.1 → -1 ≤ side → side ≤ 1 → o.length = b.2.2.length → (∀ x ∈ o, cellOK x = true) → (q.length : Int) = row →
    ∃ p, Ev (fun k => Z2R k o b.1 b.2.1 c0 c1 c2 q G col side row) ((fallL b G (kindsB b []) n row col side o).map2 (fun z => (z.2, b.1, b.2.1, c0, c1, c2, p, z.1)) (fun r => (r.1, p, r.2)))
  | 0, row, col, side, o, q, hn, hr, hc, hc2, hs, hs2, ho, hx, hq => by
    refine ⟨q, Ev.succ ?_⟩
    have : ¬ row < b.1 := by omega
    simp only [Z2R, this, decide_false, Bool.false_eq_true, if_false, fallL, LR.map2]
    exact Ev.some _
  | n + 1, row, col, side, o, q, hn, hr, hc, hc2, hs, hs2, ho, hx, hq => by
    obtain ⟨g1, g2, g3, g4, g5, g6⟩ := Zt hb
    have hpp := ZG g1 g2 g3 g4
    have hrow : row < b.1 := by omega
    have hp := Z48 hb hr hrow hc hc2
    have hoI : row * b.2.1 + col < (o.length : Int) := by omega
    have hcast : ((row * b.2.1 + col).toNat : Int) = row * b.2.1 + col := Int.toNat_of_nonneg hp.1
    have hxo := hx _ (Zlg hp.1 hoI (0, 0))
    have hgo := ZoN hxo hs hs2
    have hgt := Zu7 (List.getD o (row * b.2.1 + col).toNat (0, 0)) side hxo hs hs2
    have hturn := ZAK b.1 b.2.1 o G (row * b.2.1 + col).toNat (by omega) (by omega) (by omega) hx
    rw [hcast] at hturn
    have hpass := ZDT hb G ho (show (row * b.2.1 + col).toNat < o.length by omega)
    unfold passAt at hpass
    have hql : q.length + 1 ≤ 140737488355328 / 8 := by omega
    have hk2 : ¬ (0 : Int) = 2 := by omega
    have hk3 : ¬ (0 : Int) = 3 := by omega
    obtain ⟨cc1, cc2, cc3⟩ := ZdE hxo
    simp only [fallL, Zsx, hk2, hk3, if_false]
    generalize hS : stepAt G (kindsB b []) (row * b.2.1 + col).toNat o = S at *
    have hSl : S.length = b.2.2.length := by rw [← hS, ZaE]; exact ho
    have hSx : ∀ x ∈ S, cellOK x = true := by rw [← hS]; exact Zjh G _ hx
    generalize hX : List.getD o (row * b.2.1 + col).toNat (0, 0) = X at *
    by_cases h5 : X.1 = 5
    · refine ⟨q ++ [row * b.2.1 + col], Ev.succ ?_⟩
      simp only [Z2R, hrow, decide_true, if_true, List.length_singleton, hql]
      rw [w64 (n := row * b.2.1) (by omega) (by omega), w64 (n := row * b.2.1 + col) (by omega) (by omega)]
      simp only [hp.1, hoI, if_true, hX]
      refine Ev.bind hgt ?_
      simp only [h5, if_true, Bool.not_false]
      exact Ev.some _
    simp only [h5, if_false] at hgt ⊢
    generalize goesOf X side = g at *
    have tail : ∃ p, ∀ o', o' = S → Ev (fun k => if decide (wrap64 (col + g) < 0) = true then some (LR.ret ((3, row, wrap64 (col + g)), q ++ [row * b.2.1 + col], o')) else if decide (wrap64 (col + g) ≥ b.2.1) = true then some (LR.ret ((3, row, wrap64 (col + g)), q ++ [row * b.2.1 + col], o')) else Z2R k o' b.1 b.2.1 c0 c1 c2 (q ++ [row * b.2.1 + col]) G (wrap64 (col + g)) (wrap64 (0 - g)) (wrap64 (row + 1)))
        (LR.map2 (fun z => (z.2, b.1, b.2.1, c0, c1, c2, p, z.1)) (fun r => (r.1, p, r.2)) (if 0 ≤ col + g ∧ col + g < b.2.1 then fallL b G (kindsB b []) n (row + 1) (col + g) (0 - g) S else .ret ((3, row, col + g), S))) := by
      rw [w64 (n := col + g) (by omega) (by omega), w64 (n := 0 - g) (by omega) (by omega), w64 (n := row + 1) (by omega) (by omega)]
      by_cases hin : 0 ≤ col + g ∧ col + g < b.2.1
      · obtain ⟨p, ih⟩ := Zu1 b hb G hG c0 c1 c2 n (row + 1) (col + g) (0 - g) S (q ++ [row * b.2.1 + col]) (by omega) (by omega) (by omega) (by omega) (by omega) (by omega) hSl hSx (by simp; omega)
        refine ⟨p, fun o' ho' => ?_⟩
        subst ho'
        rw [if_pos hin]
        refine Ev.ite (fun h => ?_) (fun _ => Ev.ite (fun h => ?_) (fun _ => ih))
        · simp only [decide_eq_true_eq] at h; omega
        · simp only [decide_eq_true_eq] at h; omega
      · refine ⟨q ++ [row * b.2.1 + col], fun o' ho' => ?_⟩
        subst ho'
        rw [if_neg hin]
        refine Ev.ite (fun _ => Ev.some _) (fun h => Ev.ite (fun _ => Ev.some _) (fun h2 => ?_))
        simp only [decide_eq_true_eq] at h h2
        omega
    obtain ⟨p, tail⟩ := tail
    refine ⟨p, Ev.succ ?_⟩
    simp only [Z2R, hrow, decide_true, if_true, List.length_singleton, hql]
    rw [w64 (n := row * b.2.1) (by omega) (by omega), w64 (n := row * b.2.1 + col) (by omega) (by omega)]
    simp only [hp.1, hoI, if_true, hX]
    rw [w64 (n := 1 - X.2) (by omega) (by omega)]
    refine Ev.bind hgt ?_
    simp only [Bool.not_true, Bool.false_eq_true, if_false]
    by_cases h3 : X.1 = 3
    · have h36 : ¬ (3 : Int) = 6 := by omega
      simp only [h3, decide_true, if_true, h36, decide_false, Bool.false_eq_true, if_false]
      rw [if_pos h3] at hpass
      refine tail _ ?_
      rw [← hpass]
      simp [flip1, h3]
    · simp only [h3, decide_false, Bool.false_eq_true, if_false]
      rw [if_neg h3] at hpass
      by_cases h6 : X.1 = 6
      · simp only [h6, decide_true, if_true]
        rw [if_pos h6] at hpass
        exact Ev.bind hturn (tail _ hpass)
      · simp only [h6, decide_false, Bool.false_eq_true, if_false]
        rw [if_neg h6] at hpass
        exact tail _ hpass
theorem ZGQ (b : BoardD) (hb : boardOK b = true) (G : List Int) (hG : G.length = b.2.2.length) (col : Int) (hc : 0 ≤ col) (hc2 : col < b.2.1) (o : List CellD) (ho : o.length = b.2.2.length) (hx : ∀ x ∈ o, cellOK x = true) : ∃ p, Ev (fun k => ZiT k (b.1, b.2.1, o) G col) ((fallOf b G (kindsB b []) col o).1, p, (fallOf b G (kindsB b []) col o).2) := by
 obtain ⟨g1, g2, g3, g4, g5, g6⟩ := Zt hb
 obtain ⟨p, h⟩ := Zu1 b hb G hG 0 0 0 b.1.toNat 0 col 0 o [] (by omega) (by omega) hc hc2 (by omega) (by omega) ho hx rfl
 refine ⟨p, Ev.succ ?_⟩
 simp only [ZiT]
 refine Ev.bind h ?_
 unfold fallOf
 cases fallL b G (kindsB b []) b.1.toNat 0 col 0 o with
 | go z => exact Ev.go (Ev.some _)
 | ret r => exact Ev.ret (Ev.some _)
theorem Zqt (b : BoardD) (hb : boardOK b = true) (G : List Int) (hG : G.length = b.2.2.length) (d1 d2 : Int) (d3 : List CellD) : ∀ (r pre : List Int) (o : List CellD) (w : List FallD), colsOK b r → (pre ++ r).length ≤ 1000 → w.length = pre.length → o.length = b.2.2.length → (∀ x ∈ o, cellOK x = true) →
    Ev (fun k => Z94 k d1 d2 d3 b.1 b.2.1 o G w (pre ++ r) ((pre ++ r).length : Int) (pre.length : Int)) (d1, d2, d3, b.1, b.2.1, (runsOf b G (kindsB b []) r o).2, w ++ (runsOf b G (kindsB b []) r o).1)
  | [], pre, o, w, hc, hl1, hw, ho, hx => by
    refine Ev.succ ?_
    simp only [Z94, ZR, decide_false, Bool.false_eq_true, if_false]
    simp only [runsOf, List.append_nil]
    exact Ev.some _
  | c :: r, pre, o, w, hc, hl1, hw, ho, hx => by
    obtain ⟨k1, k2⟩ := hc c (List.mem_cons_self ..)
    have hb' := ZFw hb ho hx
    obtain ⟨p, hg⟩ := ZGw (b.1, b.2.1, o) hb' G (hG.trans ho.symm) c k1 k2
    rw [ZyK (b := (b.1, b.2.1, o)) (b' := b) rfl rfl, ZyO (b := (b.1, b.2.1, o)) (b' := b) rfl ho] at hg
    have hlw : w.length + 1 ≤ 140737488355328 / 24 := by simp at hl1; omega
    refine Ev.succ ?_
    simp only [Z94, Zy, Z16, decide_true, if_true, Int.toNat_natCast, Zk]
    refine Ev.bind hg ?_
    simp only [List.length_singleton, hlw, if_true]
    rw [Zz pre c r (by omega)]
    have ih := Zqt b hb G hG d1 d2 d3 r (pre ++ [c]) (fallOf b G (kindsB b []) c o).2 (w ++ [(fallOf b G (kindsB b []) c o).1]) (fun y hy => hc y (List.mem_cons_of_mem _ hy)) (by simpa using hl1) (by simp [hw]) ((Zjm b G _ _ _ _ _ o).trans ho) (ZgP _ _ _ _ hx)
    rw [← Z7] at ih
    refine ih.congr ?_
    simp [runsOf]
theorem ZvX (b : BoardD) (hb : boardOK b = true) (t : List Int) (ht : t.length ≤ 1000) (hc : colsOK b t) : Ev (fun k => Ze0 k b t) ((runsOf b (groupsOf b) (kindsB b []) t b.2.2).1, b.1, b.2.1, (runsOf b (groupsOf b) (kindsB b []) t b.2.2).2) := by
 obtain ⟨g1, g2, g3, g4, g5, g6⟩ := Zt hb
 have hpp := ZG g1 g2 g3 g4
 refine Ev.succ ?_
 simp only [Ze0]
 have h0 : Ev (fun k => Z5F k b.1 b.2.1 b.2.2 0 0 [] t) (0, 0, [], b.1, b.2.1, b.2.2, groupsOf b, t) := by
  simp only [Z5F]
  exact Ev.bind (Zht b (by omega)) (Ev.bind (Zow b hb) (Ev.some _))
 refine Ev.bind h0 ?_
 refine Ev.bind (Zqt b hb (groupsOf b) (ZgV b) 0 0 [] t [] b.2.2 [] hc (by simpa using ht) rfl rfl g6) ?_
 exact Ev.some _
theorem Zm9 (b : BoardD) (hb : boardOK b = true) (G : List Int) (hG : G.length = b.2.2.length) (d1 d2 : Int) (d3 : List CellD) : ∀ (r pre : List Int) (o : List CellD) (w : List FallD), colsOK b r → (pre ++ r).length ≤ 1000 → w.length = pre.length → o.length = b.2.2.length → (∀ x ∈ o, cellOK x = true) →
    Ev (fun k => Z6K k d1 d2 d3 b.1 b.2.1 o G w (pre ++ r) ((pre ++ r).length : Int) (pre.length : Int)) (d1, d2, d3, b.1, b.2.1, (runsOf b G (kindsB b []) r o).2, w ++ (runsOf b G (kindsB b []) r o).1)
  | [], pre, o, w, hc, hl1, hw, ho, hx => by
    refine Ev.succ ?_
    simp only [Z6K, ZR, decide_false, Bool.false_eq_true, if_false]
    simp only [runsOf, List.append_nil]
    exact Ev.some _
  | c :: r, pre, o, w, hc, hl1, hw, ho, hx => by
    obtain ⟨k1, k2⟩ := hc c (List.mem_cons_self ..)
    obtain ⟨p, hg⟩ := ZGQ b hb G hG c k1 k2 o ho hx
    have hlw : w.length + 1 ≤ 140737488355328 / 24 := by simp at hl1; omega
    refine Ev.succ ?_
    simp only [Z6K, Zy, Z16, decide_true, if_true, Int.toNat_natCast, Zk]
    refine Ev.bind hg ?_
    simp only [List.length_singleton, hlw, if_true]
    rw [Zz pre c r (by omega)]
    have ih := Zm9 b hb G hG d1 d2 d3 r (pre ++ [c]) (fallOf b G (kindsB b []) c o).2 (w ++ [(fallOf b G (kindsB b []) c o).1]) (fun y hy => hc y (List.mem_cons_of_mem _ hy)) (by simpa using hl1) (by simp [hw]) ((Zjm b G _ _ _ _ _ o).trans ho) (ZgP _ _ _ _ hx)
    rw [← Z7] at ih
    refine ih.congr ?_
    simp [runsOf]
theorem ZCI (b : BoardD) (hb : boardOK b = true) (t : List Int) (ht : t.length ≤ 1000) (hc : colsOK b t) : Ev (fun k => Zei k b t) ((runsOf b (groupsOf b) (kindsB b []) t b.2.2).1, b.1, b.2.1, (runsOf b (groupsOf b) (kindsB b []) t b.2.2).2) := by
 obtain ⟨g1, g2, g3, g4, g5, g6⟩ := Zt hb
 have hpp := ZG g1 g2 g3 g4
 refine Ev.succ ?_
 simp only [Zei]
 refine Ev.bind (ZlZ b (by omega)) (Ev.bind (ZhQ b hb) ?_)
 refine Ev.bind (Zm9 b hb (groupsOf b) (ZgV b) 0 0 [] t [] b.2.2 [] hc (by simpa using ht) rfl rfl g6) ?_
 exact Ev.some _
end Go.Proofs.YtglkedenkcpcbaaGreatDoor.Vs

set_option linter.unusedVariables false
set_option linter.unusedSimpArgs false
namespace Go.Proofs.YtglkedenkcpcbaaGreatDoor.Vs
open Go.RowKit
theorem Zgo (b : BoardD) : ∀ (r pre : List Int), (pre ++ r).length ≤ 9223372036854775806 → Ev (fun k => Z3t k b.1 b.2.1 b.2.2 (pre ++ r) ((pre ++ r).length : Int) (pre.length : Int)) (if r.all (fun c => decide (0 ≤ c ∧ c < b.2.1)) then LR.go () else LR.ret false)
 | [], pre, hl => by
  refine Ev.succ ?_
  simp only [Z3t, ZR, decide_false, Bool.false_eq_true, if_false, List.all_nil, if_true]
  exact Ev.some _
 | x :: r, pre, hl => by
  have ih := Zgo b r (pre ++ [x]) (by simpa using hl)
  refine Ev.succ ?_
  simp only [Z3t, Zy, Z16, decide_true, if_true, Int.toNat_natCast, Zk]
  rw [Zz pre x r (by omega)]
  rw [← Z7] at ih
  refine Ev.ite (fun h => ?_) (fun h => Ev.ite (fun h2 => ?_) (fun h2 => ?_))
  ·simp only [decide_eq_true_eq] at h
   have hx : ¬ (0 ≤ x ∧ x < b.2.1) := by omega
   simp only [hx, List.all_cons, decide_false, Bool.false_and, Bool.false_eq_true, if_false]; exact Ev.some _
  ·simp only [decide_eq_true_eq] at h2
   have hx : ¬ (0 ≤ x ∧ x < b.2.1) := by omega
   simp only [hx, List.all_cons, decide_false, Bool.false_and, Bool.false_eq_true, if_false]; exact Ev.some _
  ·simp only [decide_eq_true_eq] at h h2
   have hx : 0 ≤ x ∧ x < b.2.1 := by omega
   simp only [hx, and_self, List.all_cons, decide_true, Bool.true_and]; exact ih
theorem Zif (b : BoardD) (l : List Int) (hb : b.2.2.length ≤ 9223372036854775806) (hl : l.length ≤ 9223372036854775806) : Ev (fun k => Z6B k b l) (boardOK b && decide (l.length ≤ 60) && l.all fun c => decide (0 ≤ c ∧ c < b.2.1)) := by
 refine Ev.succ ?_
 simp only [Z6B]
 refine Ev.bind (Zed b hb) ?_
 cases hbo : boardOK b with
 | false => simp only [Bool.not_false, if_true, Bool.false_and]; exact Ev.some _
 | true =>
  simp only [Bool.not_true, Bool.false_eq_true, if_false, Bool.true_and]
  refine Ev.ite (fun h => Ev.of ?_) (fun h => ?_)
  ·simp only [decide_eq_true_eq] at h
   have : ¬ l.length ≤ 60 := by omega
   simp [this]
  ·simp only [decide_eq_true_eq] at h
   have h6 : l.length ≤ 60 := by omega
   refine Ev.bind (Zgo b l [] (by simpa using hl)) ?_
   simp only [h6, decide_true, Bool.true_and]
   cases hx : l.all (fun c => decide (0 ≤ c ∧ c < b.2.1)) with
   | true => simp only [if_true]; exact Ev.go (Ev.some _)
   | false => simp only [Bool.false_eq_true, if_false]; exact Ev.ret (Ev.some _)
end Go.Proofs.YtglkedenkcpcbaaGreatDoor.Vs

set_option linter.unusedVariables false
set_option linter.unusedSimpArgs false
namespace Go.Proofs.YtglkedenkcpcbaaGreatDoor.Vs
open Go.RowKit
end Go.Proofs.YtglkedenkcpcbaaGreatDoor.Vs

set_option linter.unusedVariables false
set_option linter.unusedSimpArgs false
namespace Go.Proofs.YtglkedenkcpcbaaGreatDoor.Vs
open Go.RowKit
theorem eq3 (x y : FallD) : (decide (x.1 = y.1) && (decide (x.2.1 = y.2.1) && (decide (x.2.2 = y.2.2) && true))) = decide (x = y) := by
 obtain ⟨a0, a1, a2⟩ := x
 obtain ⟨b0, b1, b2⟩ := y
 by_cases h0 : a0 = b0 <;> by_cases h1 : a1 = b1 <;> by_cases h2 : a2 = b2 <;> simp [h0, h1, h2]
def diffIx : Nat → List FallD → List FallD → Option Nat
 | i, x :: r, y :: s => if x = y then diffIx (i + 1) r s else some i
 | _, _, _ => none
def ixOf : Option Nat → Int
 | none => -1
 | some i => (i : Int)
def lrOf {R : Type} (f : Nat → R) : Option Nat → LR Unit R
 | none => .go ()
 | some i => .ret (f i)
theorem ZIt (z : Option Nat) : ixOf z < 0 ↔ z = none := by
 cases z with
 | none => simp [ixOf]
 | some i => simp only [ixOf, reduceCtorEq, iff_false]; omega
theorem ZoF : ∀ (r s pre pre' : List FallD), s.length = r.length → pre'.length = pre.length → (pre ++ r).length ≤ 1000000 → Ev (fun k => Z7K k (pre' ++ s) (pre ++ r) ((pre ++ r).length : Int) (pre.length : Int)) (lrOf (fun i => (i : Int)) (diffIx pre.length r s))
 | [], s, pre, pre', h, hp, hl => by
  obtain rfl : s = [] := List.eq_nil_of_length_eq_zero h
  refine Ev.succ ?_
  simp only [Z7K, ZR, decide_false, Bool.false_eq_true, if_false]
  exact Ev.some _
 | x :: r, [], pre, pre', h, hp, hl => by simp at h
 | x :: r, y :: s, pre, pre', h, hp, hl => by
  have ih := ZoF r s (pre ++ [x]) (pre' ++ [y]) (by simpa using h) (by simpa using hp) (by simpa using hl)
  have l2 : (pre.length : Int) < ((pre' ++ y :: s).length : Int) := by rw [← hp]; exact Zy _ _ _
  have g2 : List.getD (pre' ++ y :: s) pre.length (0, 0, 0) = y := by rw [← hp]; exact Zk _ _ _ _
  refine Ev.succ ?_
  simp only [Z7K, Zy, Z16, l2, decide_true, if_true, Int.toNat_natCast, Zk, g2, eq3]
  rw [Zz pre x r (by omega)]
  rw [← Z7, ← Z7] at ih
  refine Ev.ite (fun hh => ?_) (fun hh => ?_)
  ·have hh : ¬ x = y := nd hh
   exact Ev.of (by simp [diffIx, hh, lrOf])
  ·have hh : x = y := yd hh
   refine ih.congr ?_
   simp [diffIx, hh]
theorem Zj7 : ∀ (r s pre pre' : List FallD), s.length = r.length → pre'.length = pre.length → (pre ++ r).length ≤ 1000000 → Ev (fun k => Z5f k (pre ++ r) (pre' ++ s) ((pre ++ r).length : Int) (pre.length : Int)) (lrOf (fun i => (i : Int)) (diffIx pre.length r s))
 | [], s, pre, pre', h, hp, hl => by
  obtain rfl : s = [] := List.eq_nil_of_length_eq_zero h
  refine Ev.succ ?_
  simp only [Z5f, ZR, decide_false, Bool.false_eq_true, if_false]
  exact Ev.some _
 | x :: r, [], pre, pre', h, hp, hl => by simp at h
 | x :: r, y :: s, pre, pre', h, hp, hl => by
  have ih := Zj7 r s (pre ++ [x]) (pre' ++ [y]) (by simpa using h) (by simpa using hp) (by simpa using hl)
  have l2 : (pre.length : Int) < ((pre' ++ y :: s).length : Int) := by rw [← hp]; exact Zy _ _ _
  have g2 : List.getD (pre' ++ y :: s) pre.length (0, 0, 0) = y := by rw [← hp]; exact Zk _ _ _ _
  refine Ev.succ ?_
  simp only [Z5f, Zy, Z16, l2, decide_true, if_true, Int.toNat_natCast, Zk, g2, eq3]
  rw [Zz pre x r (by omega)]
  rw [← Z7, ← Z7] at ih
  refine Ev.ite (fun hh => ?_) (fun hh => ?_)
  ·have hh : ¬ x = y := nd hh
   exact Ev.of (by simp [diffIx, hh, lrOf])
  ·have hh : x = y := yd hh
   refine ih.congr ?_
   simp [diffIx, hh]
theorem ZEf (l m : List FallD) (h : m.length = l.length) (hl : l.length ≤ 1000000) : Ev (fun k => Zfu k l m) (ixOf (diffIx 0 l m)) := by
 refine Ev.succ ?_
 simp only [Zfu]
 refine Ev.bind (ZoF l m [] [] h rfl (by simpa using hl)) ?_
 simp only [List.length_nil]
 cases diffIx 0 l m with
 | none => exact Ev.go (Ev.some _)
 | some i => exact Ev.ret (Ev.some _)
def entriesOK (b : BoardD) (t : List Int) : Bool := boardOK b && decide (t.length ≤ 60) && t.all fun c => decide (0 ≤ c ∧ c < b.2.1)
theorem Z63 {b : BoardD} {t : List Int} (h : entriesOK b t = true) : boardOK b = true ∧ t.length ≤ 60 ∧ colsOK b t := by
 unfold entriesOK at h
 simp only [Bool.and_eq_true, decide_eq_true_eq, List.all_eq_true] at h
 exact ⟨h.1.1, h.1.2, h.2⟩
theorem Z95 (b : BoardD) (l : List Int) (hb : b.2.2.length ≤ 9223372036854775806) (hl : l.length ≤ 9223372036854775806) : Ev (fun k => Z3G k b l) (entriesOK b l) := by
 refine Ev.succ ?_
 simp only [Z3G]
 refine Ev.bind (Zjr b hb) ?_
 unfold entriesOK
 cases hbo : boardOK b with
 | false => simp only [Bool.false_eq_true, if_false, Bool.false_and]; exact Ev.some _
 | true =>
  obtain ⟨g1, g2, g3, g4, g5, g6⟩ := Zt hbo
  simp only [if_true, Bool.true_and]
  rw [w64 (n := b.2.1 - 1) (by omega) (by omega)]
  refine Ev.ite (fun h => ?_) (fun h => ?_)
  ·simp only [decide_eq_true_eq] at h
   have : l.length ≤ 60 := by omega
   simp only [this, decide_true, Bool.true_and]
   refine (Ev.bind (ZFX l _ _ hl) (Ev.some _)).congr ?_
   congr 1
   funext c
   have : (0 ≤ c ∧ c ≤ b.2.1 - 1) ↔ (0 ≤ c ∧ c < b.2.1) := by omega
   simp only [this]
  ·simp only [decide_eq_true_eq] at h
   have : ¬ l.length ≤ 60 := by omega
   simp only [this, decide_false, Bool.false_and]
   exact Ev.some _
def endsOf (b : BoardD) (l : List FaultD) (t : List Int) : List FallD := (runsOf b (groupsOf b) (kindsB b l) t b.2.2).1
def leftOf (b : BoardD) (l : List FaultD) (t : List Int) : List CellD := (runsOf b (groupsOf b) (kindsB b l) t b.2.2).2
theorem Zeu (b : BoardD) (l : List FaultD) (t : List Int) : (endsOf b l t).length = t.length := ZBp _ _ _ _ _
def seenIx (b : BoardD) (l : List FaultD) (t : List Int) : Int := ixOf (diffIx 0 (endsOf b [] t) (endsOf b l t))
theorem ZtV (b : BoardD) (hb : boardOK b = true) (l : List FaultD) (hl : faultsOK b (-1) l = true) (hll : l.length ≤ 9223372036854775806) (t : List Int) (ht : t.length ≤ 1000) (hc : colsOK b t) : Ev (fun k => Za7 k b l t) (seenIx b l t) := by
 refine Ev.succ ?_
 simp only [Za7]
 have he := Zeu b l t
 have he2 := Zeu b [] t
 exact Ev.bind (ZvX b hb t ht hc) (Ev.bind (ZvG b hb l hl hll t ht hc) (Ev.bind (ZEf (endsOf b [] t) (endsOf b l t) (by omega) (by omega)) (Ev.some _)))
theorem ZlB (b : BoardD) (hb : boardOK b = true) (l : List FaultD) (hl : faultsOK b (-1) l = true) (hll : l.length ≤ 9223372036854775806) (t : List Int) (ht : t.length ≤ 1000) (hc : colsOK b t) : Ev (fun k => Z9p k b l t) (seenIx b l t) := by
 refine Ev.succ ?_
 simp only [Z9p]
 have he := Zeu b l t
 have he2 := Zeu b [] t
 refine Ev.bind (ZCI b hb t ht hc) (Ev.bind (ZvB b hb l hl hll t ht hc) (Ev.bind (Zj7 (endsOf b [] t) (endsOf b l t) [] [] (by omega) rfl (by simp; omega)) ?_))
 unfold seenIx
 simp only [List.length_nil]
 cases diffIx 0 (endsOf b [] t) (endsOf b l t) with
 | none => exact Ev.go (Ev.some _)
 | some i => exact Ev.ret (Ev.some _)
end Go.Proofs.YtglkedenkcpcbaaGreatDoor.Vs

set_option linter.unusedVariables false
set_option linter.unusedSimpArgs false
namespace Go.Proofs.YtglkedenkcpcbaaGreatDoor.Vs
open Go.RowKit
def kindsAt (C i : Int) (x : CellD) : List FaultD := ([1, 2, 3].filter (fits x)).map fun kd => (kd, Int.tdiv i C, Int.tmod i C)
def possFrom (C : Int) : Int → List CellD → List FaultD
 | _, [] => []
 | i, x :: r => kindsAt C i x ++ possFrom C (i + 1) r
theorem Zpp (C i : Int) (x : CellD) : (kindsAt C i x).length ≤ 3 := by
 unfold kindsAt
 rw [List.length_map]
 exact Nat.le_trans (List.length_filter_le _ _) (by simp)
theorem ZwC (C : Int) : ∀ (r : List CellD) (i : Int), (possFrom C i r).length ≤ 3 * r.length
 | [], _ => by simp [possFrom]
 | x :: r, i => by
  have h1 := Zpp C i x
  have h2 := ZwC C r (i + 1)
  simp only [possFrom, List.length_append, List.length_cons]
  omega
theorem ZGY {i C : Int} (hi : 0 ≤ i) (hC : 1 ≤ C) : 0 ≤ Int.tdiv i C ∧ Int.tdiv i C ≤ i := by
 rw [Int.tdiv_eq_ediv_of_nonneg hi]
 exact ⟨Int.ediv_nonneg hi (by omega), Int.ediv_le_self _ hi⟩
theorem Z9m (R C : Int) (cs : List CellD) (x : CellD) (i kd : Int) (hi : 0 ≤ i) (hi2 : i ≤ 90) (hC : 1 ≤ C) (hk : 1 ≤ kd) (hk2 : kd ≤ 3) (v8 : List CellD) (v9 v10 : Int) (o : List FaultD) (ho : o.length ≤ 1000) (z : Int × Int × List CellD × List FaultD × List CellD × Int × Int)
    (h : Ev (fun k => Z1B k R C cs (if fits x kd then o ++ [(kd, Int.tdiv i C, Int.tmod i C)] else o) x.1 x.2 i (kd + 1) v8 v9 v10) z) : Ev (fun k => Z1B k R C cs o x.1 x.2 i kd v8 v9 v10) z := by
  have hd := ZGY hi hC
  have hC0 : ¬ C = 0 := by omega
  have hlen : o.length + 1 ≤ 5864062014805 := by omega
  refine Ev.succ ?_
  simp only [Z1B, hk2, decide_true, if_true]
  rw [w64 (n := kd + 1) (by omega) (by omega), w64 (n := Int.tdiv i C) (by omega) (by omega)]
  refine Ev.bind (Ztn x kd) ?_
  cases hf : fits x kd with
  | true =>
    simp only [hf, if_true] at h
    simp only [if_true, hC0, if_false, List.length_singleton]
    have : o.length + 1 ≤ 140737488355328 / 24 := by omega
    simp only [this, if_true]
    exact h
  | false =>
    simp only [hf, Bool.false_eq_true, if_false] at h
    simp only [Bool.false_eq_true, if_false]
    exact h
theorem ZuS (R C : Int) (cs : List CellD) (x : CellD) (i : Int) (hi : 0 ≤ i) (hi2 : i ≤ 90) (hC : 1 ≤ C) (v8 : List CellD) (v9 v10 : Int) (o : List FaultD) (ho : o.length ≤ 900) : Ev (fun k => Z1B k R C cs o x.1 x.2 i 1 v8 v9 v10) (R, C, cs, o ++ kindsAt C i x, v8, v9, v10) := by
 have e1 : (if fits x 1 then o ++ [(1, Int.tdiv i C, Int.tmod i C)] else o) = o ++ (if fits x 1 then [(1, Int.tdiv i C, Int.tmod i C)] else []) := by split <;> simp
 refine Z9m R C cs x i 1 hi hi2 hC (by omega) (by omega) v8 v9 v10 o (by omega) _ ?_
 rw [e1]
 generalize h1 : (if fits x 1 then [((1 : Int), Int.tdiv i C, Int.tmod i C)] else []) = o1
 have l1 : o1.length ≤ 1 := by rw [← h1]; split <;> simp
 refine Z9m R C cs x i 2 hi hi2 hC (by omega) (by omega) v8 v9 v10 _ (by simp; omega) _ ?_
 have e2 : (if fits x 2 then (o ++ o1) ++ [(2, Int.tdiv i C, Int.tmod i C)] else o ++ o1) = (o ++ o1) ++ (if fits x 2 then [(2, Int.tdiv i C, Int.tmod i C)] else []) := by split <;> simp
 rw [e2]
 generalize h2 : (if fits x 2 then [((2 : Int), Int.tdiv i C, Int.tmod i C)] else []) = o2
 have l2 : o2.length ≤ 1 := by rw [← h2]; split <;> simp
 refine Z9m R C cs x i 3 hi hi2 hC (by omega) (by omega) v8 v9 v10 _ (by simp; omega) _ ?_
 refine Ev.succ ?_
 simp only [Z1B]
 have h4 : ¬ (3 + 1 : Int) ≤ 3 := by omega
 simp only [h4, decide_false, Bool.false_eq_true, if_false]
 refine Ev.of ?_
 rw [← h1, ← h2]
 unfold kindsAt
 cases f1 : fits x 1 <;> cases f2 : fits x 2 <;> cases f3 : fits x 3 <;> simp [List.filter, f1, f2, f3]
theorem ZhS (R C : Int) (hC : 1 ≤ C) (cs : List CellD) : ∀ (r pre : List CellD) (o : List FaultD), (pre ++ r).length ≤ 90 → o.length ≤ 3 * pre.length → Ev (fun k => Z3g k R C cs o (pre ++ r) ((pre ++ r).length : Int) (pre.length : Int)) (o ++ possFrom C pre.length r)
 | [], pre, o, hl, ho => by
  refine Ev.succ ?_
  simp only [Z3g, ZR, decide_false, Bool.false_eq_true, if_false, possFrom]
  rw [List.append_nil o]
  exact Ev.some _
 | x :: r, pre, o, hl, ho => by
  have hl2 := hl
  simp only [List.length_append, List.length_cons] at hl2
  have hka : (kindsAt C pre.length x).length ≤ 3 := Zpp _ _ _
  have ih := ZhS R C hC cs r (pre ++ [x]) (o ++ kindsAt C pre.length x) (by simpa using hl) (by simp; omega)
  refine Ev.succ ?_
  simp only [Z3g, Zy, Z16, decide_true, if_true, Int.toNat_natCast, Zk]
  refine Ev.bind (ZuS R C cs x (pre.length : Int) (by omega) (by omega) hC (pre ++ x :: r) ((pre ++ x :: r).length : Int) (pre.length : Int) o (by omega)) ?_
  show Ev (fun k => Z3g k R C cs (o ++ kindsAt C pre.length x) (pre ++ x :: r) ((pre ++ x :: r).length : Int) (wrap64 ((pre.length : Int) + 1))) _
  rw [Zz pre x r (by omega)]
  rw [← Z7] at ih
  refine ih.congr ?_
  simp [possFrom]
theorem Zbd (b : BoardD) (hb : boardOK b = true) : Ev (fun k => Z4e k b) (possFrom b.2.1 0 b.2.2) := by
 obtain ⟨g1, g2, g3, g4, g5, g6⟩ := Zt hb
 have hp := ZG g1 g2 g3 g4
 refine Ev.succ ?_
 simp only [Z4e]
 exact Ev.bind (ZhS b.1 b.2.1 g3 b.2.2 b.2.2 [] [] (by simp; omega) (by simp)) (Ev.some _)
theorem Zgp (b : BoardD) (hl : b.2.2.length ≤ 9223372036854775806) : Ev (fun k => Z5e k b) (if boardOK b then (possFrom b.2.1 0 b.2.2, true) else ([], false)) := by
 refine Ev.succ ?_
 simp only [Z5e]
 refine Ev.bind (Zjr b hl) ?_
 cases hb : boardOK b with
 | false => simp only [Bool.not_false, if_true, Bool.false_eq_true, if_false]; exact Ev.some _
 | true =>
  simp only [Bool.not_true, Bool.false_eq_true, if_false, if_true]
  exact Ev.bind (Zbd b hb) (Ev.some _)
theorem Z6Q (R C : Int) (cs : List CellD) (x : CellD) (hx : cellOK x = true) (i kd : Int) (hi : 0 ≤ i) (hi2 : i ≤ 90) (hC : 1 ≤ C) (hk : 1 ≤ kd) (hk2 : kd ≤ 3) (v8 : List CellD) (v9 v10 : Int) (o : List FaultD) (ho : o.length ≤ 1000) (z : Int × Int × List CellD × List FaultD × List CellD × Int × Int)
    (h : Ev (fun k => Z11 k R C cs (if fits x kd then o ++ [(kd, Int.tdiv i C, Int.tmod i C)] else o) x.1 x.2 i (kd + 1) v8 v9 v10) z) : Ev (fun k => Z11 k R C cs o x.1 x.2 i kd v8 v9 v10) z := by
  have hd := ZGY hi hC
  have hC0 : ¬ C = 0 := by omega
  have hlen : o.length + 1 ≤ 5864062014805 := by omega
  refine Ev.succ ?_
  simp only [Z11, hk2, decide_true, if_true]
  rw [w64 (n := kd + 1) (by omega) (by omega), w64 (n := Int.tdiv i C) (by omega) (by omega)]
  refine Ev.bind (Zq6 x kd hx) ?_
  cases hf : fits x kd with
  | true =>
    simp only [hf, if_true] at h
    simp only [if_true, hC0, if_false, List.length_singleton]
    have : o.length + 1 ≤ 140737488355328 / 24 := by omega
    simp only [this, if_true]
    exact h
  | false =>
    simp only [hf, Bool.false_eq_true, if_false] at h
    simp only [Bool.false_eq_true, if_false]
    exact h
theorem Zo6 (R C : Int) (cs : List CellD) (x : CellD) (hx : cellOK x = true) (i : Int) (hi : 0 ≤ i) (hi2 : i ≤ 90) (hC : 1 ≤ C) (v8 : List CellD) (v9 v10 : Int) (o : List FaultD) (ho : o.length ≤ 900) : Ev (fun k => Z11 k R C cs o x.1 x.2 i 1 v8 v9 v10) (R, C, cs, o ++ kindsAt C i x, v8, v9, v10) := by
 have e1 : (if fits x 1 then o ++ [(1, Int.tdiv i C, Int.tmod i C)] else o) = o ++ (if fits x 1 then [(1, Int.tdiv i C, Int.tmod i C)] else []) := by split <;> simp
 refine Z6Q R C cs x hx i 1 hi hi2 hC (by omega) (by omega) v8 v9 v10 o (by omega) _ ?_
 rw [e1]
 generalize h1 : (if fits x 1 then [((1 : Int), Int.tdiv i C, Int.tmod i C)] else []) = o1
 have l1 : o1.length ≤ 1 := by rw [← h1]; split <;> simp
 refine Z6Q R C cs x hx i 2 hi hi2 hC (by omega) (by omega) v8 v9 v10 _ (by simp; omega) _ ?_
 have e2 : (if fits x 2 then (o ++ o1) ++ [(2, Int.tdiv i C, Int.tmod i C)] else o ++ o1) = (o ++ o1) ++ (if fits x 2 then [(2, Int.tdiv i C, Int.tmod i C)] else []) := by split <;> simp
 rw [e2]
 generalize h2 : (if fits x 2 then [((2 : Int), Int.tdiv i C, Int.tmod i C)] else []) = o2
 have l2 : o2.length ≤ 1 := by rw [← h2]; split <;> simp
 refine Z6Q R C cs x hx i 3 hi hi2 hC (by omega) (by omega) v8 v9 v10 _ (by simp; omega) _ ?_
 refine Ev.succ ?_
 simp only [Z11]
 have h4 : ¬ (3 + 1 : Int) ≤ 3 := by omega
 simp only [h4, decide_false, Bool.false_eq_true, if_false]
 refine Ev.of ?_
 rw [← h1, ← h2]
 unfold kindsAt
 cases f1 : fits x 1 <;> cases f2 : fits x 2 <;> cases f3 : fits x 3 <;> simp [List.filter, f1, f2, f3]
theorem ZeB (R C : Int) (hC : 1 ≤ C) (cs : List CellD) : ∀ (r pre : List CellD) (o : List FaultD), (∀ y ∈ r, cellOK y = true) → (pre ++ r).length ≤ 90 → o.length ≤ 3 * pre.length → Ev (fun k => Z1N k R C cs o (pre ++ r) ((pre ++ r).length : Int) (pre.length : Int)) (o ++ possFrom C pre.length r)
 | [], pre, o, hx, hl, ho => by
  refine Ev.succ ?_
  simp only [Z1N, ZR, decide_false, Bool.false_eq_true, if_false, possFrom]
  rw [List.append_nil o]
  exact Ev.some _
 | x :: r, pre, o, hx, hl, ho => by
  have hl2 := hl
  simp only [List.length_append, List.length_cons] at hl2
  have hka : (kindsAt C pre.length x).length ≤ 3 := Zpp _ _ _
  have ih := ZeB R C hC cs r (pre ++ [x]) (o ++ kindsAt C pre.length x) (fun y hy => hx y (List.mem_cons_of_mem _ hy)) (by simpa using hl) (by simp; omega)
  refine Ev.succ ?_
  simp only [Z1N, Zy, Z16, decide_true, if_true, Int.toNat_natCast, Zk]
  refine Ev.bind (Zo6 R C cs x (hx x (List.mem_cons_self ..)) (pre.length : Int) (by omega) (by omega) hC (pre ++ x :: r) ((pre ++ x :: r).length : Int) (pre.length : Int) o (by omega)) ?_
  show Ev (fun k => Z1N k R C cs (o ++ kindsAt C pre.length x) (pre ++ x :: r) ((pre ++ x :: r).length : Int) (wrap64 ((pre.length : Int) + 1))) _
  rw [Zz pre x r (by omega)]
  rw [← Z7] at ih
  refine ih.congr ?_
  simp [possFrom]
theorem Zbm (b : BoardD) (hb : boardOK b = true) : Ev (fun k => Z3u k b) (possFrom b.2.1 0 b.2.2) := by
 obtain ⟨g1, g2, g3, g4, g5, g6⟩ := Zt hb
 have hp := ZG g1 g2 g3 g4
 refine Ev.succ ?_
 simp only [Z3u]
 exact Ev.bind (ZeB b.1 b.2.1 g3 b.2.2 b.2.2 [] [] g6 (by simp; omega) (by simp)) (Ev.some _)
theorem Zgh (b : BoardD) (hl : b.2.2.length ≤ 9223372036854775806) : Ev (fun k => Z53 k b) (if boardOK b then (possFrom b.2.1 0 b.2.2, true) else ([], false)) := by
 refine Ev.succ ?_
 simp only [Z53]
 refine Ev.bind (Zed b hl) ?_
 cases hb : boardOK b with
 | false => simp only [Bool.not_false, if_true, Bool.false_eq_true, if_false]; exact Ev.some _
 | true =>
  simp only [Bool.not_true, Bool.false_eq_true, if_false, if_true]
  exact Ev.bind (Zbm b hb) (Ev.some _)
theorem ZH5 {i C : Int} (hi : 0 ≤ i) (hC : 1 ≤ C) : Int.tdiv i C * C + Int.tmod i C = i ∧ 0 ≤ Int.tmod i C ∧ Int.tmod i C < C ∧ 0 ≤ Int.tdiv i C := by
 rw [Int.tdiv_eq_ediv_of_nonneg hi, Int.tmod_eq_emod_of_nonneg hi]
 refine ⟨?_, Int.emod_nonneg _ (by omega), Int.emod_lt_of_pos _ (by omega), Int.ediv_nonneg hi (by omega)⟩
 rw [Int.mul_comm]
 exact Int.mul_ediv_add_emod i C
theorem Zyr {C i : Int} {x : CellD} {f : FaultD} (h : f ∈ kindsAt C i x) : f.2.1 = Int.tdiv i C ∧ f.2.2 = Int.tmod i C ∧ fits x f.1 = true := by
 unfold kindsAt at h
 obtain ⟨kd, h1, rfl⟩ := List.mem_map.1 h
 exact ⟨rfl, rfl, (List.mem_filter.1 h1).2⟩
theorem ZB8 {C : Int} : ∀ {r : List CellD} {i : Nat} {f : FaultD}, f ∈ possFrom C i r → ∃ j : Nat, i ≤ j ∧ j < i + r.length ∧ f.2.1 = Int.tdiv j C ∧ f.2.2 = Int.tmod j C ∧ fits (List.getD r (j - i) (0, 0)) f.1 = true
 | [], i, f, h => by simp [possFrom] at h
 | x :: r, i, f, h => by
  simp only [possFrom, List.mem_append] at h
  rcases h with h | h
  ·obtain ⟨h1, h2, h3⟩ := Zyr h
   exact ⟨i, Nat.le_refl _, by simp, h1, h2, by simpa using h3⟩
  ·have h' : f ∈ possFrom C ((i + 1 : Nat) : Int) r := h
   obtain ⟨j, h1, h2, h3, h4, h5⟩ := ZB8 h'
   refine ⟨j, by omega, by simp only [List.length_cons]; omega, h3, h4, ?_⟩
   rw [show j - i = (j - (i + 1)) + 1 by omega]
   exact h5
theorem Zs9 {b : BoardD} (hb : boardOK b = true) {f : FaultD} (h : f ∈ possFrom b.2.1 0 b.2.2) : 0 ≤ f.2.1 ∧ f.2.1 < b.1 ∧ 0 ≤ f.2.2 ∧ f.2.2 < b.2.1 ∧ fits (List.getD b.2.2 (placeOf b f).toNat (0, 0)) f.1 = true := by
 obtain ⟨g1, g2, g3, g4, g5, g6⟩ := Zt hb
 have h' : f ∈ possFrom b.2.1 ((0 : Nat) : Int) b.2.2 := h
 obtain ⟨j, h1, h2, h3, h4, h5⟩ := ZB8 h'
 obtain ⟨d1, d2, d3, d4⟩ := ZH5 (i := (j : Int)) (C := b.2.1) (by omega) g3
 have hp : placeOf b f = j := by unfold placeOf; rw [h3, h4]; exact d1
 refine ⟨by rw [h3]; exact d4, ?_, by rw [h4]; exact d2, by rw [h4]; exact d3, ?_⟩
 ·rw [h3]
  by_cases hh : Int.tdiv (j : Int) b.2.1 < b.1
  ·exact hh
  ·have := Int.mul_le_mul_of_nonneg_right (show b.1 ≤ Int.tdiv (j : Int) b.2.1 by omega) (show 0 ≤ b.2.1 by omega)
   omega
 ·rw [hp]
  simpa using h5
theorem ZrK {b : BoardD} (hb : boardOK b = true) {f : FaultD} (h : f ∈ possFrom b.2.1 0 b.2.2) : faultsOK b (-1) [f] = true := by
 obtain ⟨h1, h2, h3, h4, h5⟩ := Zs9 hb h
 have hp := Z48 hb h1 h2 h3 h4
 unfold placeOf at h5
 have h6 : 0 ≤ f.2.1 ∧ f.2.1 < b.1 ∧ 0 ≤ f.2.2 ∧ f.2.2 < b.2.1 ∧ -1 < f.2.1 * b.2.1 + f.2.2 := ⟨h1, h2, h3, h4, by omega⟩
 simp only [faultsOK, h5, h6, and_self, decide_true, Bool.and_self]
theorem Zcy {b : BoardD} (hb : boardOK b = true) : (possFrom b.2.1 0 b.2.2).length ≤ 270 := by
 obtain ⟨g1, g2, g3, g4, g5, g6⟩ := Zt hb
 have hpp := ZG g1 g2 g3 g4
 have := ZwC b.2.1 b.2.2 0
 omega
end Go.Proofs.YtglkedenkcpcbaaGreatDoor.Vs

set_option linter.unusedVariables false
set_option linter.unusedSimpArgs false
namespace Go.Proofs.YtglkedenkcpcbaaGreatDoor.Vs
open Go.RowKit
def hiddenOf (b : BoardD) (t : List Int) : List FaultD := (possFrom b.2.1 0 b.2.2).filter fun f => decide (seenIx b [f] t < 0)
theorem Zkl (b : BoardD) (hb : boardOK b = true) (t : List Int) (ht : t.length ≤ 1000) (hc : colsOK b t) : ∀ (r pre acc : List FaultD), (∀ f ∈ r, faultsOK b (-1) [f] = true) → (pre ++ r).length ≤ 1000 → acc.length ≤ pre.length → Ev (fun k => Z49 k b.1 b.2.1 b.2.2 acc (pre ++ r) t ((pre ++ r).length : Int) (pre.length : Int)) (acc ++ r.filter (fun f => decide (seenIx b [f] t < 0)))
 | [], pre, acc, hf, hl, ha => by
  refine Ev.succ ?_
  simp only [Z49, ZR, decide_false, Bool.false_eq_true, if_false]
  exact Ev.of (by simp)
 | f :: r, pre, acc, hf, hl, ha => by
  have ih := fun acc' ha' => Zkl b hb t ht hc r (pre ++ [f]) acc' (fun g hg => hf g (List.mem_cons_of_mem _ hg)) (by simpa using hl) ha'
  simp only [← Z7] at ih
  have hal : acc.length + 1 ≤ 140737488355328 / 24 := by simp at hl; omega
  have h1 := ZtV b hb [f] (hf f (List.mem_cons_self ..)) (by simp) t ht hc
  refine Ev.succ ?_
  simp only [Z49, Zy, Z16, decide_true, if_true, Int.toNat_natCast, Zk, List.length_singleton, hal]
  rw [Zz pre f r (by omega)]
  refine Ev.bind h1 (Ev.ite (fun h => ?_) (fun h => ?_))
  ·have h : (fun f => decide (seenIx b [f] t < 0)) f = true := h
   refine (ih (acc ++ [f]) (by simp; omega)).congr ?_
   simp only [List.filter_cons, h, if_true, List.append_assoc, List.singleton_append]
  ·have h : ¬ (fun f => decide (seenIx b [f] t < 0)) f = true := h
   refine (ih acc (by simp; omega)).congr ?_
   exact congrArg (acc ++ ·) (List.filter_cons_of_neg (p := (fun f => decide (seenIx b [f] t < 0))) h).symm
theorem Zou (b : BoardD) (hb : boardOK b = true) (t : List Int) (ht : t.length ≤ 1000) (hc : colsOK b t) : Ev (fun k => Zak k b t) (hiddenOf b t) := by
 have hn := Zcy hb
 refine Ev.succ ?_
 simp only [Zak]
 exact Ev.bind (Zbd b hb) (Ev.bind (Zkl b hb t ht hc (possFrom b.2.1 0 b.2.2) [] [] (fun f hf => ZrK hb hf) (by simp; omega) (by simp)) (Ev.some _))
theorem ZgB (b : BoardD) (hb : boardOK b = true) (t : List Int) (ht : t.length ≤ 1000) (hc : colsOK b t) : ∀ (r pre acc : List FaultD), (∀ f ∈ r, faultsOK b (-1) [f] = true) → (pre ++ r).length ≤ 1000 → acc.length ≤ pre.length → Ev (fun k => Z2m k b.1 b.2.1 b.2.2 acc (pre ++ r) t ((pre ++ r).length : Int) (pre.length : Int)) (acc ++ r.filter (fun f => decide (seenIx b [f] t < 0)))
 | [], pre, acc, hf, hl, ha => by
  refine Ev.succ ?_
  simp only [Z2m, ZR, decide_false, Bool.false_eq_true, if_false]
  exact Ev.of (by simp)
 | f :: r, pre, acc, hf, hl, ha => by
  have ih := fun acc' ha' => ZgB b hb t ht hc r (pre ++ [f]) acc' (fun g hg => hf g (List.mem_cons_of_mem _ hg)) (by simpa using hl) ha'
  simp only [← Z7] at ih
  have hal : acc.length + 1 ≤ 140737488355328 / 24 := by simp at hl; omega
  have h1 := ZlB b hb [f] (hf f (List.mem_cons_self ..)) (by simp) t ht hc
  refine Ev.succ ?_
  simp only [Z2m, Zy, Z16, decide_true, if_true, Int.toNat_natCast, Zk, List.length_singleton, hal]
  rw [Zz pre f r (by omega)]
  refine Ev.bind h1 (Ev.ite (fun h => ?_) (fun h => ?_))
  ·have h : (fun f => decide (seenIx b [f] t < 0)) f = true := h
   refine (ih (acc ++ [f]) (by simp; omega)).congr ?_
   simp only [List.filter_cons, h, if_true, List.append_assoc, List.singleton_append]
  ·have h : ¬ (fun f => decide (seenIx b [f] t < 0)) f = true := h
   refine (ih acc (by simp; omega)).congr ?_
   exact congrArg (acc ++ ·) (List.filter_cons_of_neg (p := (fun f => decide (seenIx b [f] t < 0))) h).symm
theorem Zi6 (b : BoardD) (t : List Int) (h0 : b.2.2.length ≤ 9223372036854775806) (h2 : t.length ≤ 9223372036854775806) : Ev (fun k => Z4o k b t) (if entriesOK b t then (hiddenOf b t, true) else ([], false)) := by
 refine Ev.succ ?_
 simp only [Z4o]
 refine Ev.bind (a := entriesOK b t) (Zif b t h0 h2) ?_
 cases g0 : entriesOK b t with
 | false => simp only [Bool.not_false, if_true, Bool.false_eq_true, if_false, Bool.false_and, Bool.and_false]; exact Ev.some _
 | true =>
  obtain ⟨hb, ht, hc⟩ := Z63 g0
  have hn := Zcy hb
  simp only [Bool.not_true, Bool.false_eq_true, if_false, if_true, Bool.and_self]
  exact Ev.bind (Zbm b hb) (Ev.bind (ZgB b hb t (by omega) hc (possFrom b.2.1 0 b.2.2) [] [] (fun f hf => ZrK hb hf) (by simp; omega) (by simp)) (Ev.some _))
end Go.Proofs.YtglkedenkcpcbaaGreatDoor.Vs

set_option linter.unusedVariables false
set_option linter.unusedSimpArgs false
namespace Go.Proofs.YtglkedenkcpcbaaGreatDoor.Vs
open Go.RowKit
def faultsB (b : BoardD) (l : List FaultD) : Bool := decide (l.length ≤ 4) && faultsOK b (-1) l
theorem ZsR {b : BoardD} {l : List FaultD} (h : faultsB b l = true) : l.length ≤ 4 ∧ faultsOK b (-1) l = true := by
 unfold faultsB at h
 simp only [Bool.and_eq_true, decide_eq_true_eq] at h
 exact h
def Zjy (b : BoardD) (l : List FaultD) (t : List Int) : List FallD × BoardD × Bool := if entriesOK b t && faultsB b l then (endsOf b l t, (b.1, b.2.1, leftOf b l t), true) else ([], (0, 0, []), false)
theorem ZvV (b : BoardD) (l : List FaultD) (t : List Int) (h0 : b.2.2.length ≤ 9223372036854775806) (h1 : l.length ≤ 9223372036854775806) (h2 : t.length ≤ 9223372036854775806) : Ev (fun k => Z52 k b l t) (Zjy b l t) := by
 refine Ev.succ ?_
 simp only [Z52]
 unfold Zjy
 refine Ev.bind (a := entriesOK b t) (Z95 b t h0 h2) ?_
 cases g0 : entriesOK b t with
 | false => simp only [Bool.not_false, if_true, Bool.false_eq_true, if_false, Bool.false_and, Bool.and_false]; exact Ev.some _
 | true =>
  simp only [Bool.not_true, Bool.false_eq_true, if_false, if_true, Bool.and_self]
  obtain ⟨hb, ht, hc⟩ := Z63 g0
  refine Ev.bind (a := faultsB b l) (Zu0 b hb l h1) ?_
  cases g1 : faultsB b l with
  | false => simp only [Bool.not_false, if_true, Bool.false_eq_true, if_false, Bool.false_and, Bool.and_false]; exact Ev.some _
  | true =>
   simp only [Bool.not_true, Bool.false_eq_true, if_false, if_true, Bool.and_self]
   obtain ⟨hl4, hl⟩ := ZsR g1
   exact Ev.bind (ZvG b hb l hl h1 t (by omega) hc) (Ev.some _)
def Zj (b : BoardD) (l : List FaultD) (t : List Int) : Int × Bool := if entriesOK b t && faultsB b l then (if seenIx b l t < 0 then (0, false) else (seenIx b l t, true)) else (0, false)
theorem ZzF (b : BoardD) (l : List FaultD) (t : List Int) (h0 : b.2.2.length ≤ 9223372036854775806) (h1 : l.length ≤ 9223372036854775806) (h2 : t.length ≤ 9223372036854775806) : Ev (fun k => ZcB k b l t) (Zj b l t) := by
 refine Ev.succ ?_
 simp only [ZcB]
 unfold Zj
 refine Ev.bind (a := entriesOK b t) (Z95 b t h0 h2) ?_
 cases g0 : entriesOK b t with
 | false => simp only [Bool.not_false, if_true, Bool.false_eq_true, if_false, Bool.false_and, Bool.and_false]; exact Ev.some _
 | true =>
  simp only [Bool.not_true, Bool.false_eq_true, if_false, if_true, Bool.and_self]
  obtain ⟨hb, ht, hc⟩ := Z63 g0
  refine Ev.bind (a := faultsB b l) (Zu0 b hb l h1) ?_
  cases g1 : faultsB b l with
  | false => simp only [Bool.not_false, if_true, Bool.false_eq_true, if_false, Bool.false_and, Bool.and_false]; exact Ev.some _
  | true =>
   simp only [Bool.not_true, Bool.false_eq_true, if_false, if_true, Bool.and_self]
   obtain ⟨hl4, hl⟩ := ZsR g1
   have hse := ZtV b hb l hl h1 t (by omega) hc
   refine Ev.bind hse (Ev.ite (fun h => ?_) (fun h => ?_))
   ·simp only [decide_eq_true_eq] at h; rw [if_pos h]; exact Ev.some _
   ·simp only [decide_eq_true_eq] at h; rw [if_neg h]; exact Ev.bind hse (Ev.some _)
theorem ZmM (b : BoardD) (l : List FaultD) (t : List Int) (h0 : b.2.2.length ≤ 9223372036854775806) (h1 : l.length ≤ 9223372036854775806) (h2 : t.length ≤ 9223372036854775806) : Ev (fun k => Z9q k b l t) (Zj b l t) := by
 refine Ev.succ ?_
 simp only [Z9q]
 unfold Zj
 refine Ev.bind (a := entriesOK b t) (Zif b t h0 h2) ?_
 cases g0 : entriesOK b t with
 | false => simp only [Bool.not_false, if_true, Bool.false_eq_true, if_false, Bool.false_and, Bool.and_false]; exact Ev.some _
 | true =>
  simp only [Bool.not_true, Bool.false_eq_true, if_false, if_true, Bool.and_self]
  obtain ⟨hb, ht, hc⟩ := Z63 g0
  refine Ev.bind (a := faultsB b l) (Zn2 b hb l h1) ?_
  cases g1 : faultsB b l with
  | false => simp only [Bool.not_false, if_true, Bool.false_eq_true, if_false, Bool.false_and, Bool.and_false]; exact Ev.some _
  | true =>
   simp only [Bool.not_true, Bool.false_eq_true, if_false, if_true, Bool.and_self]
   obtain ⟨hl4, hl⟩ := ZsR g1
   have hse := ZlB b hb l hl h1 t (by omega) hc
   refine Ev.bind hse (Ev.ite (fun h => ?_) (fun h => ?_))
   ·simp only [decide_eq_true_eq] at h; rw [if_pos h]; exact Ev.some _
   ·simp only [decide_eq_true_eq] at h; rw [if_neg h]; exact Ev.some _
end Go.Proofs.YtglkedenkcpcbaaGreatDoor.Vs

set_option linter.unusedVariables false
set_option linter.unusedSimpArgs false
namespace Go.Proofs.YtglkedenkcpcbaaGreatDoor.Vs
open Go.RowKit
section
variable {code : List Int} {at' seed : Int}
end
end Go.Proofs.YtglkedenkcpcbaaGreatDoor.Vs

set_option linter.unusedVariables false
set_option linter.unusedSimpArgs false
namespace Go.Proofs.YtglkedenkcpcbaaGreatDoor.Vs
open Go.RowKit
section
variable {code : List Int} {at' seed : Int}
theorem ZDW (b : BoardD) (h : Cur code at' 140) : EvP (fun k => ZF k (code, at', seed) b) (fun r => r.1.length ≤ 61 ∧ at' ≤ r.2.1 ∧ r.2.1 ≤ at' + 140) := by
 obtain ⟨v, a, s, e, h1, h2, h3⟩ := ZHR seed b h
 exact ⟨_, e, h3, h1, h2⟩
theorem ZCp (a1 a2 : Int) (code : List Int) (c0 c1 : Int) (o4 : List CellD) (d0 d1 : Int) (o6 : List CellD) (o7 o8 : List FaultD) (f0 f1 f2 n : Int) (hl : o8.length ≤ 1000000) : ∀ (d i : Nat), i + d = o8.length →
    EvP (fun k => Z2p k a1 a2 code c0 c1 o4 d0 d1 o6 o7 o8 f0 f1 f2 n (i : Int)) (fun z => ∃ j : Nat, z = (a1, a2, code, c0, c1, o4, d0, d1, o6, o7, o8, n, (j : Int)) ∧ j ≤ o8.length)
  | 0, i, h => by
    refine EvP.succ ?_
    have hlt : ¬ (i : Int) < (o8.length : Int) := by omega
    simp only [Z2p, hlt, decide_false, Bool.false_eq_true, if_false]
    exact EvP.some ⟨i, rfl, by omega⟩
  | d + 1, i, h => by
    refine EvP.succ ?_
    have hlt : (i : Int) < (o8.length : Int) := by omega
    have h0 : (0 : Int) ≤ (i : Int) := by omega
    have w : wrap64 ((i : Int) + 1) = ((i + 1 : Nat) : Int) := by rw [w64 (by omega) (by omega)]; omega
    have ih := ZCp a1 a2 code c0 c1 o4 d0 d1 o6 o7 o8 f0 f1 f2 n hl d (i + 1) (by omega)
    simp only [Z2p, hlt, h0, decide_true, if_true, w]
    refine EvP.ite (fun _ => ih) (fun _ => EvP.ite (fun _ => EvP.ite (fun _ => ih) (fun _ => ?_)) (fun _ => ?_))
    · exact EvP.some ⟨i, rfl, by omega⟩
    · exact EvP.some ⟨i, rfl, by omega⟩
theorem ZBQ (code : List Int) (c0 c1 : Int) (o4 : List CellD) (d0 d1 : Int) (o6 : List CellD) (o8 : List FaultD) (n : Int) (hl : o8.length ≤ 1000) : ∀ (d : Nat) (o7 : List FaultD) (i : Nat) (at' seed : Int), n ≤ ((o7.length + d : Nat) : Int) → o7.length + d ≤ 1000 → i ≤ o8.length → Cur code at' (2 * d) →
    EvP (fun k => Z3s k at' seed code c0 c1 o4 d0 d1 o6 o7 o8 n (i : Int)) (fun z => ∃ a s l, z = (a, s, code, c0, c1, o4, d0, d1, o6, l) ∧ l.length ≤ o7.length + d ∧ at' ≤ a ∧ a ≤ at' + 2 * d)
  | 0, o7, i, at', seed, h, h7, hi, hc => by
    refine EvP.succ ?_
    have hlt : ¬ (o7.length : Int) < n := by omega
    simp only [Z3s, hlt, decide_false, Bool.false_eq_true, if_false]
    exact EvP.some ⟨at', seed, o7, rfl, by omega, by omega, by omega⟩
  | d + 1, o7, i, at', seed, h, h7, hi, hc => by
    refine EvP.succ ?_
    simp only [Z3s, decide_eq_true_eq]
    refine EvP.ite (fun g1 => EvP.ite (fun g2 => ?_) (fun _ => ?_)) (fun _ => ?_)
    · have w : wrap64 ((o8.length : Int) - (i : Int)) = (o8.length : Int) - (i : Int) := w64 (by omega) (by omega)
      rw [w]
      refine EvP.bind (Z7F _ (hc.to (by omega) (by omega)) (by omega)) (fun z hz => ?_)
      have w2 : wrap64 ((i : Int) + z.1) = (i : Int) + z.1 := w64 (by omega) (by omega)
      rw [w2]
      refine EvP.guard (by omega) (EvP.guard (by omega) ?_)
      refine EvP.bind (Q1 := fun y => ∃ f : FaultD, y = (z.2.1, z.2.2, code, c0, c1, o4, d0, d1, o6, o7, o8, f.1, f.2.1, f.2.2, n, (i : Int))) ?_ (fun y hy => ?_)
      · simp only [Z9T]
        refine EvP.ite (fun _ => EvP.guard (by omega) (EvP.guard g2 (EvP.some ⟨_, rfl⟩))) (fun _ => EvP.some ⟨(_, _, _), rfl⟩)
      · obtain ⟨f, rfl⟩ := hy
        dsimp only
        refine EvP.guard (by simp only [List.length_cons, List.length_nil]; omega) ?_
        refine EvP.bind (ZCp z.2.1 z.2.2 code c0 c1 o4 d0 d1 o6 (o7 ++ [(f.1, f.2.1, f.2.2)]) o8 f.1 f.2.1 f.2.2 n (by omega) (o8.length - i) i (by omega)) (fun y hy => ?_)
        obtain ⟨j, rfl, hj⟩ := hy
        dsimp only
        refine (ZBQ code c0 c1 o4 d0 d1 o6 o8 n hl d (o7 ++ [(f.1, f.2.1, f.2.2)]) j z.2.1 z.2.2 (by simp; omega) (by simp; omega) hj (hc.to (by omega) (by omega))).mono (fun y hy => ?_)
        obtain ⟨a, s, l, e1, e2, e3, e4⟩ := hy
        simp only [List.length_append, List.length_cons, List.length_nil] at e2
        exact ⟨a, s, l, e1, by omega, by omega, by omega⟩
    · exact EvP.some ⟨at', seed, o7, rfl, by omega, by omega, by omega⟩
    · exact EvP.some ⟨at', seed, o7, rfl, by omega, by omega, by omega⟩
theorem ZAB (h : Cur code at' 5000) : EvP (fun k => Z4A k (code, at', seed)) (fun r => r.1.2.2.length ≤ 91 ∧ r.2.1.length ≤ 5 ∧ at' ≤ r.2.2.1 ∧ r.2.2.1 ≤ at' + 5000) := by
 refine EvP.succ ?_
 simp only [Z4A]
 refine EvP.bind (ZBk (h.to (by omega) (by omega))) (fun z0 h0 => ?_)
 refine EvP.bind (ZHm 3 (h.to (by omega) (by omega))) (fun z1 h1 => ?_)
 refine EvP.bind (Q1 := fun z => ∃ a s : Int, ∃ b : BoardD, z = (a, s, code, 0, 0, [], b.1, b.2.1, b.2.2) ∧ at' ≤ a ∧ a ≤ at' + 3042 ∧ b.2.2.length ≤ 91) ?_ (fun z hz => ?_)
 ·simp only [Z9W]
  refine EvP.ite (fun _ => ?_) (fun _ => EvP.some ⟨z1.2.1, z1.2.2, z0.1, rfl, by omega, by omega, h0.2.2⟩)
  exact EvP.bind (ZHF (h.to (by omega) (by omega))) (fun z2 h2 => EvP.some ⟨z2.2.1, z2.2.2, z2.1, rfl, by omega, by omega, h2.2.2⟩)
 obtain ⟨a3, s3, b3, rfl, q1, q2, q3⟩ := hz
 dsimp only
 refine EvP.bind (ZHm 4 (h.to (by omega) (by omega))) (fun z4 h4 => ?_)
 refine EvP.bind (Q1 := fun z => ∃ a s : Int, ∃ b : BoardD, z = (a, s, code, 0, 0, [], b.1, b.2.1, b.2.2) ∧ at' ≤ a ∧ a ≤ at' + 4644 ∧ b.2.2.length ≤ 91) ?_ (fun z hz => ?_)
 ·simp only [Z9S]
  refine EvP.ite (fun _ => ?_) (fun _ => EvP.some ⟨z4.2.1, z4.2.2, b3, rfl, by omega, by omega, q3⟩)
  exact EvP.bind (ZFz (h.to (by omega) (by omega))) (fun z2 h2 => EvP.some ⟨z2.2.1, z2.2.2, z2.1, rfl, by omega, by omega, h2.2.2⟩)
 obtain ⟨a6, s6, b, rfl, q4, q5, q6⟩ := hz
 dsimp only
 refine EvP.bind (EvP.ev (Q := fun v => v = boardOK b) (Zjr b (by omega)) rfl) (fun v hv => ?_)
 subst hv
 cases hb : boardOK b with
 | false =>
  simp only [Bool.not_false, if_true]
  exact EvP.some ⟨q6, by simp, by dsimp only; omega, by dsimp only; omega⟩
 | true =>
  simp only [Bool.not_true, Bool.false_eq_true, if_false]
  refine EvP.bind (EvP.ev (Q := fun v => v = possFrom b.2.1 0 b.2.2) (Zbd b hb) rfl) (fun all ha => ?_)
  subst ha
  have hall := Zcy hb
  refine EvP.bind (Zd3 [0, 1, 1, 2, 3] (by simp) (h.to (by omega) (by omega))) (fun z9 h9 => ?_)
  refine EvP.bind (ZHm 20 (h.to (by omega) (by omega))) (fun z10 h10 => ?_)
  have hn : z9.1 ≤ 5 := by
   have := h9.2.2
   simp only [List.mem_cons, List.not_mem_nil, or_false] at this
   omega
  refine EvP.bind (Q1 := fun z => ∃ a s n : Int, z = (a, s, code, 0, 0, [], b.1, b.2.1, b.2.2, [], possFrom b.2.1 0 b.2.2, n) ∧ at' ≤ a ∧ a ≤ at' + 4650 ∧ n ≤ 5) ?_ (fun z hz => ?_)
  ·simp only [Z9Y]
   refine EvP.ite (fun _ => ?_) (fun _ => EvP.some ⟨z10.2.1, z10.2.2, z9.1, rfl, by omega, by omega, hn⟩)
   refine EvP.bind (Z7F 2 (h.to (by omega) (by omega)) (by omega)) (fun z2 h2 => EvP.some ⟨z2.2.1, z2.2.2, wrap64 (4 + z2.1), rfl, by omega, by omega, ?_⟩)
   rw [w64 (by omega) (by omega)]
   omega
  obtain ⟨a12, s12, n, rfl, g1, g2, g3⟩ := hz
  dsimp only
  refine EvP.bind (ZBQ code 0 0 [] b.1 b.2.1 b.2.2 (possFrom b.2.1 0 b.2.2) n (by omega) 5 [] 0 a12 s12 (by simpa using g3) (by simp) (by omega) (h.to (by omega) (by omega))) (fun z hz => ?_)
  obtain ⟨a, s, l, rfl, k1, k2, k3⟩ := hz
  simp only [List.length_nil] at k1
  dsimp only
  refine EvP.ite (fun hp => ?_) (fun _ => EvP.some ⟨q6, by dsimp only; omega, by dsimp only; omega, by dsimp only; omega⟩)
  simp only [decide_eq_true_eq] at hp
  refine EvP.bind (Z7F _ (h.to (by omega) (by omega)) (by omega)) (fun z17 h17 => ?_)
  refine EvP.guard (by omega) (EvP.guard (by omega) ?_)
  refine EvP.bind (Z7F 24 (h.to (by omega) (by omega)) (by omega)) (fun z18 h18 => ?_)
  refine EvP.ite (fun _ => ?_) (fun _ => EvP.ite (fun _ => ?_) (fun _ => EvP.ite (fun _ => ?_) (fun _ => ?_)))
  ·exact EvP.bind (Zd3 _ (by simp) (h.to (by omega) (by omega))) (fun z h2 => EvP.some ⟨q6, by dsimp only; rw [List.length_set]; omega, by dsimp only; omega, by dsimp only; omega⟩)
  ·exact EvP.bind (Zd3 _ (by simp) (h.to (by omega) (by omega))) (fun z h2 => EvP.some ⟨q6, by dsimp only; rw [List.length_set]; omega, by dsimp only; omega, by dsimp only; omega⟩)
  ·exact EvP.bind (Zd3 _ (by simp) (h.to (by omega) (by omega))) (fun z h2 => EvP.some ⟨q6, by dsimp only; rw [List.length_set]; omega, by dsimp only; omega, by dsimp only; omega⟩)
  ·exact EvP.some ⟨q6, by dsimp only; omega, by dsimp only; omega, by dsimp only; omega⟩
end
theorem Zxf (code : List Int) (h : Cur code 0 6000) : EvP (fun k => Z7t k code) (fun r => r.1.2.2.length ≤ 91 ∧ r.2.1.length ≤ 5 ∧ r.2.2.length ≤ 61) := by
 refine EvP.succ ?_
 simp only [Z7t]
 refine EvP.bind (ZAB (h.to (by omega) (by omega))) (fun z hz => ?_)
 refine EvP.bind (Q1 := fun y => y.2.2.1.length ≤ 91 ∧ y.2.2.2.1.length ≤ 5 ∧ y.2.2.2.2.length ≤ 61) ?_ (fun y hy => EvP.some hy)
 simp only [Z2a]
 exact EvP.bind (ZDW _ (h.to (by omega) (by omega))) (fun y hy => EvP.some ⟨hz.1, hz.2.1, hy.1⟩)
theorem ZBA (code : List Int) (h : Cur code 0 6000) : EvP (fun k => Z8m k code) (fun r => r.1.2.2.length ≤ 91 ∧ r.2.length ≤ 5) := by
 refine EvP.succ ?_
 simp only [Z8m]
 exact EvP.bind (ZAB (h.to (by omega) (by omega))) (fun z hz => EvP.some ⟨hz.1, hz.2.1⟩)
end Go.Proofs.YtglkedenkcpcbaaGreatDoor.Vs

set_option linter.unusedVariables false
set_option linter.unusedSimpArgs false
namespace Go.Proofs.YtglkedenkcpcbaaGreatDoor.Vs
open Go.RowKit
def nameK : List ByteArray := [ByteArray.mk #[115, 116, 117, 99, 107], ByteArray.mk #[104, 111, 108, 101], ByteArray.mk #[116, 117, 114, 110, 101, 100]]
def atS : ByteArray := ByteArray.mk #[32, 97, 116, 32]
def commaS : ByteArray := ByteArray.mk #[44]
def dig (n : Int) : ByteArray := bytesOf [IntKind.wrap IntKind.u8 (wrap64 ((48 : Int) + n))]
def validF (p : Int × Int × Int) : Prop := 1 ≤ p.1 ∧ p.1 ≤ 3 ∧ 0 ≤ p.2.1 ∧ p.2.1 ≤ 9 ∧ 0 ≤ p.2.2 ∧ p.2.2 ≤ 9
instance (p : Int × Int × Int) : Decidable (validF p) := by unfold validF; infer_instance
def nameF (p : Int × Int × Int) : ByteArray := List.getD nameK (Int.toNat (p.1 - 1)) (ByteArray.mk #[]) ++ atS ++ dig p.2.1 ++ commaS ++ dig p.2.2
theorem Z28 (a b : ByteArray) : (a ++ b).size = a.size + b.size := ByteArray.size_append
theorem Z80 (n : Int) : (dig n).size = 1 := rfl
theorem ten {n : Int} (h0 : 0 ≤ n) (h1 : n ≤ 9) : n = 0 ∨ n = 1 ∨ n = 2 ∨ n = 3 ∨ n = 4 ∨ n = 5 ∨ n = 6 ∨ n = 7 ∨ n = 8 ∨ n = 9 := by omega
theorem ZlA (n : Int) (h0 : 0 ≤ n) (h1 : n ≤ 9) : Ev (fun k => Z9b k n) (dig n) := by
 rcases ten h0 h1 with rfl | rfl | rfl | rfl | rfl | rfl | rfl | rfl | rfl | rfl <;> exact Ev.succ (Ev.of (by kernel_rfl))
theorem ZqM (n : Int) (h0 : 0 ≤ n) (h1 : n ≤ 9) : Ev (fun k => Z8U k n) (dig n) := by
 refine Ev.succ (Ev.bind (Ev.succ (Ev.bind (a := dig n) (Ev.succ ?_) (Ev.some _))) (Ev.some _))
 have h2 : n < 100 := by omega
 simp only [Z6W, decide_eq_true_eq, if_true, h0, h2]
 exact Ev.bind (ZlA n h0 h1) (Ev.some _)
theorem Zh7 (n : Int) (h0 : 0 ≤ n) (h1 : n ≤ 9) : Ev (fun k => Z5S k n) (dig n) := by
 refine Ev.succ ?_
 have h2 : n < 10 := by omega
 simp only [Z5S, decide_eq_true_eq, if_true, h2]
 exact Ev.some _
theorem ZA0 (p : Int × Int × Int) (h : validF p) : Ev (fun k => Z3I k p) (nameF p, true) := by
  obtain ⟨kind, row, column⟩ := p
  obtain ⟨a1, a2, a3, a4, a5, a6⟩ := h
  simp only at a1 a2 a3 a4 a5 a6
  refine Ev.succ ?_
  have b1 : ¬ kind < 1 := by omega
  have b2 : ¬ kind > 3 := by omega
  have b3 : ¬ row < 0 := by omega
  have b4 : ¬ row > 9 := by omega
  have b5 : ¬ column < 0 := by omega
  have b6 : ¬ column > 9 := by omega
  have b7 : wrap64 (kind - 1) = kind - 1 := w64 (by omega) (by omega)
  have b8 : (0 : Int) ≤ kind - 1 := by omega
  have b9 : kind - 1 < ((3 : Nat) : Int) := by omega
  have b10 : (kind - 1).toNat < 3 := by omega
  simp only [Z3I, decide_eq_true_eq, if_false, if_true, b1, b2, b3, b4, b5, b6, b7, b8, b9, b10, List.length_cons, List.length_nil]
  have hk : kind = 1 ∨ kind = 2 ∨ kind = 3 := by omega
  have go : ∀ s : ByteArray, s.size ≤ 10 → Ev (fun k => if s.size + (ByteArray.mk #[32, 97, 116, 32]).size ≤ 9223372036854775807 then Option.bind (Z8U k row) fun z0 => if (s ++ ByteArray.mk #[32, 97, 116, 32]).size + z0.size ≤ 9223372036854775807 then if (s ++ ByteArray.mk #[32, 97, 116, 32] ++ z0).size + (ByteArray.mk #[44]).size ≤ 9223372036854775807 then Option.bind (Z8U k column) fun z1 => if (s ++ ByteArray.mk #[32, 97, 116, 32] ++ z0 ++ ByteArray.mk #[44]).size + z1.size ≤ 9223372036854775807 then some (s ++ ByteArray.mk #[32, 97, 116, 32] ++ z0 ++ ByteArray.mk #[44] ++ z1, true) else none else none else none else none)
      (s ++ atS ++ dig row ++ commaS ++ dig column, true) := by
    intro s hs
    have e1 : (ByteArray.mk #[32, 97, 116, 32]).size = 4 := rfl
    have e2 : (ByteArray.mk #[44]).size = 1 := rfl
    refine Ev.ite (fun _ => ?_) (fun hn => (hn (by rw [e1]; omega)).elim)
    refine Ev.bind (ZqM row a3 a4) ?_
    refine Ev.ite (fun _ => ?_) (fun hn => (hn (by simp only [Z28, e1, Z80]; omega)).elim)
    refine Ev.ite (fun _ => ?_) (fun hn => (hn (by simp only [Z28, e1, e2, Z80]; omega)).elim)
    refine Ev.bind (ZqM column a5 a6) ?_
    refine Ev.ite (fun _ => ?_) (fun hn => (hn (by simp only [Z28, e1, e2, Z80]; omega)).elim)
    exact Ev.some _
  rcases hk with rfl | rfl | rfl
  · exact go (ByteArray.mk #[115, 116, 117, 99, 107]) (by decide)
  · exact go (ByteArray.mk #[104, 111, 108, 101]) (by decide)
  · exact go (ByteArray.mk #[116, 117, 114, 110, 101, 100]) (by decide)
theorem ZsS (p : Int × Int × Int) (h : ¬ validF p) : Ev (fun k => Z3I k p) (ByteArray.mk #[], false) := by
 obtain ⟨kind, row, column⟩ := p
 refine Ev.succ ?_
 simp only [Z3I, decide_eq_true_eq]
 refine Ev.ite (fun _ => Ev.some _) (fun b1 => Ev.ite (fun _ => Ev.some _) (fun b2 => Ev.ite (fun _ => Ev.some _) (fun b3 => Ev.ite (fun _ => Ev.some _) (fun b4 => Ev.ite (fun _ => Ev.some _) (fun b5 => Ev.ite (fun _ => Ev.some _) (fun b6 => ?_))))))
 refine (h ⟨?_, ?_, ?_, ?_, ?_, ?_⟩).elim <;> simp only <;> omega
theorem ZqH (p : Int × Int × Int) : Ev (fun k => Zbv k p) (decide (validF p)) := by
 obtain ⟨kind, row, column⟩ := p
 refine Ev.succ ?_
 simp only [Zbv]
 refine Ev.bind (Z34 _ _ _) ?_
 refine Ev.ite (fun h1 => ?_) (fun h1 => (Ev.some _).congr (by simp only [decide_eq_true_eq] at h1; symm; rw [decide_eq_false_iff_not]; intro hv; exact h1 ⟨hv.1, hv.2.1⟩))
 refine Ev.bind (Z34 _ _ _) ?_
 refine Ev.ite (fun h2 => ?_) (fun h2 => (Ev.some _).congr (by simp only [decide_eq_true_eq] at h2; symm; rw [decide_eq_false_iff_not]; intro hv; exact h2 ⟨hv.2.2.1, hv.2.2.2.1⟩))
 refine Ev.bind (Z34 _ _ _) ?_
 refine (Ev.some _).congr ?_
 simp only [decide_eq_true_eq] at h1 h2
 apply decide_eq_decide.2
 exact ⟨fun h3 => ⟨h1.1, h1.2, h2.1, h2.2, h3.1, h3.2⟩, fun hv => ⟨hv.2.2.2.2.1, hv.2.2.2.2.2⟩⟩
theorem ZtC (p : Int × Int × Int) (h : validF p) : Ev (fun k => ZcH k p) (nameF p) := by
  obtain ⟨kind, row, column⟩ := p
  obtain ⟨a1, a2, a3, a4, a5, a6⟩ := h
  simp only at a1 a2 a3 a4 a5 a6
  refine Ev.succ ?_
  have b1 : (0 : Int) ≤ kind := by omega
  have b2 : kind < ((4 : Nat) : Int) := by omega
  simp only [ZcH]
  refine Ev.bind (Ev.succ (Ev.some _)) ?_
  simp only [if_true, b1, b2, List.length_cons, List.length_nil, Nat.reduceAdd, Nat.zero_add]
  have hk : kind = 1 ∨ kind = 2 ∨ kind = 3 := by omega
  have go : ∀ s : ByteArray, s.size ≤ 10 → Ev (fun k => if s.size + (ByteArray.mk #[32, 97, 116, 32]).size ≤ 9223372036854775807 then Option.bind (Z5S k row) fun z0 => if (s ++ ByteArray.mk #[32, 97, 116, 32]).size + z0.size ≤ 9223372036854775807 then if (s ++ ByteArray.mk #[32, 97, 116, 32] ++ z0).size + (ByteArray.mk #[44]).size ≤ 9223372036854775807 then Option.bind (Z5S k column) fun z1 => if (s ++ ByteArray.mk #[32, 97, 116, 32] ++ z0 ++ ByteArray.mk #[44]).size + z1.size ≤ 9223372036854775807 then some (s ++ ByteArray.mk #[32, 97, 116, 32] ++ z0 ++ ByteArray.mk #[44] ++ z1) else none else none else none else none)
      (s ++ atS ++ dig row ++ commaS ++ dig column) := by
    intro s hs
    have e1 : (ByteArray.mk #[32, 97, 116, 32]).size = 4 := rfl
    have e2 : (ByteArray.mk #[44]).size = 1 := rfl
    refine Ev.ite (fun _ => ?_) (fun hn => (hn (by rw [e1]; omega)).elim)
    refine Ev.bind (Zh7 row a3 a4) ?_
    refine Ev.ite (fun _ => ?_) (fun hn => (hn (by simp only [Z28, e1, Z80]; omega)).elim)
    refine Ev.ite (fun _ => ?_) (fun hn => (hn (by simp only [Z28, e1, e2, Z80]; omega)).elim)
    refine Ev.bind (Zh7 column a5 a6) ?_
    refine Ev.ite (fun _ => ?_) (fun hn => (hn (by simp only [Z28, e1, e2, Z80]; omega)).elim)
    exact Ev.some _
  rcases hk with rfl | rfl | rfl
  · exact go (ByteArray.mk #[115, 116, 117, 99, 107]) (by decide)
  · exact go (ByteArray.mk #[104, 111, 108, 101]) (by decide)
  · exact go (ByteArray.mk #[116, 117, 114, 110, 101, 100]) (by decide)
def nameOf (p : Int × Int × Int) : ByteArray × Bool := if validF p then (nameF p, true) else (ByteArray.mk #[], false)
theorem Zyy (p : Int × Int × Int) : Ev (fun k => Z3I k p) (nameOf p) := by
 unfold nameOf
 by_cases h : validF p
 ·rw [if_pos h]; exact ZA0 p h
 ·rw [if_neg h]; exact ZsS p h
theorem ZGT (p : Int × Int × Int) : Ev (fun k => Zcb k p) (nameOf p) := by
 refine Ev.succ ?_
 simp only [Zcb]
 refine Ev.bind (ZqH p) ?_
 unfold nameOf
 by_cases h : validF p
 ·simp only [h, decide_true, Bool.not_true, Bool.false_eq_true, if_false, if_true]
  exact Ev.bind (ZtC p h) (Ev.some _)
 ·simp only [h, decide_false, Bool.not_false, if_true, if_false]
  exact Ev.some _
end Go.Proofs.YtglkedenkcpcbaaGreatDoor.Vs

set_option linter.unusedVariables false
set_option linter.unusedSimpArgs false
namespace Go.Proofs.YtglkedenkcpcbaaGreatDoor.Vs
open Go.RowKit
theorem ZHM (a b : ByteArray) : (a.toList == b.toList) = decide (a = b) := by
 rw [ByteArray.toList_eq, ByteArray.toList_eq]
 by_cases h : a = b
 ·subst h; simp
 ·have : a.data.toList ≠ b.data.toList := by
   intro he
   apply h
   have : a.data = b.data := by apply Array.ext'; exact he
   cases a; cases b; simp only at this; subst this; rfl
  rw [decide_eq_false h, beq_eq_false_iff_ne]; exact this
theorem ZaL (s : ByteArray) (a b : Nat) : (subS s a b).size = min b s.size - a := ByteArray.size_extract
def spG (s : ByteArray) (b : Int) : Nat → List ByteArray → Nat → Nat → List ByteArray × Nat
 | 0, o, f, _ => (o, f)
 | n + 1, o, f, i => if byteAt s i = b then spG s b n (o ++ [subS s f i]) (i + 1) (i + 1) else spG s b n o f (i + 1)
theorem ZBX (s : ByteArray) (b : Int) : ∀ (n : Nat) (o : List ByteArray) (f i : Nat), i + n = s.size → f ≤ i → o.length ≤ i → (∀ x ∈ o, x.size ≤ s.size) →
    (spG s b n o f i).2 ≤ s.size ∧ (spG s b n o f i).1.length ≤ s.size ∧ ∀ x ∈ (spG s b n o f i).1, x.size ≤ s.size
  | 0, o, f, i, h, hf, ho, hx => ⟨by simp only [spG]; omega, by simp only [spG]; omega, hx⟩
  | n + 1, o, f, i, h, hf, ho, hx => by
    simp only [spG]
    split
    · refine ZBX s b n _ _ _ (by omega) (Nat.le_refl _) (by simp; omega) (fun x hx' => ?_)
      rcases List.mem_append.1 hx' with hx' | hx'
      · exact hx x hx'
      · rw [List.mem_singleton.1 hx', ZaL]; omega
    · exact ZBX s b n _ _ _ (by omega) (by omega) (by omega) hx
def splitP (s : ByteArray) (b : Int) : List ByteArray := (spG s b s.size [] 0 0).1 ++ [subS s (spG s b s.size [] 0 0).2 s.size]
theorem ZAU (s : ByteArray) (b : Int) : ∀ x ∈ splitP s b, x.size ≤ s.size := by
 intro x hx
 rcases List.mem_append.1 hx with hx | hx
 ·exact (ZBX s b s.size [] 0 0 (by omega) (by omega) (by simp) (by simp)).2.2 x hx
 ·rw [List.mem_singleton.1 hx, ZaL]; omega
theorem ZfS (s : ByteArray) (b : Int) (hs : s.size ≤ 1048576) : ∀ (n : Nat) (o : List ByteArray) (f i : Nat), i + n = s.size → f ≤ i → o.length ≤ i →
    Ev (fun k => Z4W k o s b (f : Int) (i : Int)) ((spG s b n o f i).1, s, ((spG s b n o f i).2 : Int))
  | 0, o, f, i, h, hf, ho => by
    refine Ev.succ ?_
    have h1 : ¬ ((i : Int) < (s.size : Int)) := by omega
    simp only [Z4W, decide_eq_true_eq, h1, if_false, spG]
    exact Ev.some _
  | n + 1, o, f, i, h, hf, ho => by
    refine Ev.succ ?_
    have h1 : (i : Int) < (s.size : Int) := by omega
    have h2 : (0 : Int) ≤ (i : Int) := by omega
    have h3 : (0 : Int) ≤ (f : Int) := by omega
    have h4 : (f : Int) ≤ (i : Int) := by omega
    have h5 : (i : Int) ≤ (s.size : Int) := by omega
    have h6 : wrap64 ((i : Int) + 1) = ((i + 1 : Nat) : Int) := by rw [w64 (by omega) (by omega)]; omega
    have h7 : o.length + [subS s f i].length ≤ 140737488355328 / 16 := by simp only [List.length_cons, List.length_nil]; omega
    simp only [Z4W, decide_eq_true_eq, h1, h2, h3, h4, h5, h6, if_true, Int.toNat_natCast, spG]
    by_cases hb : byteAt s i = b
    · simp only [hb, if_true]
      refine Ev.ite (fun _ => ?_) (fun hn => (hn h7).elim)
      exact ZfS s b hs n _ _ _ (by omega) (Nat.le_refl _) (by simp; omega)
    · simp only [hb, if_false]
      exact ZfS s b hs n _ _ _ (by omega) (by omega) (by omega)
theorem Zr4 (s : ByteArray) (b : Int) (hs : s.size ≤ 1048576) : Ev (fun k => Zbq k s b) (splitP s b) := by
 refine Ev.succ ?_
 simp only [Zbq]
 refine Ev.bind (ZfS s b hs s.size [] 0 0 (by omega) (by omega) (by simp)) ?_
 obtain ⟨h1, h2, _⟩ := ZBX s b s.size [] 0 0 (by omega) (by omega) (by simp) (by simp)
 have h3 : (0 : Int) ≤ ((spG s b s.size [] 0 0).2 : Int) := by omega
 have h4 : ((spG s b s.size [] 0 0).2 : Int) ≤ (s.size : Int) := by omega
 have h5 : (s.size : Int) ≤ (s.size : Int) := by omega
 simp only [h3, h4, h5, if_true, Int.toNat_natCast]
 refine Ev.ite (fun _ => ?_) (fun hn => (hn (by simp only [List.length_cons, List.length_nil]; omega)).elim)
 exact Ev.some _
def rdG (s : ByteArray) : Nat → Int → Nat → LR Int Int
 | 0, v, _ => .go v
 | n + 1, v, i => if byteAt s i < 48 then .ret (-1) else if byteAt s i > 57 then .ret (-1) else rdG s n (wrap64 (wrap64 (10 * v) + wrap64 (IntKind.wrap IntKind.u8 (byteAt s i - 48)))) (i + 1)
def rdV : LR Int Int → Int
 | .go v => v
 | .ret v => v
def readN (s : ByteArray) : Int := if 1 ≤ s.size ∧ s.size ≤ 6 then (if byteAt s 0 = 48 ∧ 1 < s.size then -1 else rdV (rdG s s.size 0 0)) else -1
theorem Zov (s : ByteArray) (hs : s.size ≤ 1048576) : ∀ (n : Nat) (v : Int) (i : Nat), i + n = s.size → Ev (fun k => Z4k k s v (i : Int)) (rdG s n v i)
 | 0, v, i, h => by
  refine Ev.succ ?_
  have h1 : ¬ ((i : Int) < (s.size : Int)) := by omega
  simp only [Z4k, decide_eq_true_eq, h1, if_false, rdG]
  exact Ev.some _
 | n + 1, v, i, h => by
  refine Ev.succ ?_
  have h1 : (i : Int) < (s.size : Int) := by omega
  have h2 : (0 : Int) ≤ (i : Int) := by omega
  have h6 : wrap64 ((i : Int) + 1) = ((i + 1 : Nat) : Int) := by rw [w64 (by omega) (by omega)]; omega
  simp only [Z4k, decide_eq_true_eq, h1, h2, h6, if_true, Int.toNat_natCast, rdG]
  by_cases g1 : byteAt s i < 48
  ·simp only [g1, if_true]; exact Ev.some _
  ·by_cases g2 : byteAt s i > 57
   ·simp only [g1, g2, if_true, if_false]; exact Ev.some _
   ·simp only [g1, g2, if_false]
    exact Zov s hs n _ _ (by omega)
theorem Zt6 (s : ByteArray) (hs : s.size ≤ 1048576) : Ev (fun k => Z3P k s) (readN s) := by
 refine Ev.succ ?_
 simp only [Z3P]
 refine Ev.bind (Z34 _ _ _) ?_
 unfold readN
 by_cases h : 1 ≤ s.size ∧ s.size ≤ 6
 ·have h1 : (1 : Int) ≤ (s.size : Int) ∧ (s.size : Int) ≤ 6 := by omega
  have h2 : (0 : Int) < (s.size : Int) := by omega
  have h0 := Zov s hs s.size 0 0 (by omega)
  have go : Ev (fun k => Option.bind (Z4k k s 0 0) fun z1 => LR.on z1 (fun y1 => some y1) fun r1 => some r1) (rdV (rdG s s.size 0 0)) := by
   refine Ev.bind h0 ?_
   cases rdG s s.size 0 0 with
   | go v => exact Ev.go (Ev.some _)
   | ret v => exact Ev.ret (Ev.some _)
  simp only [h1, h, and_self, decide_true, Bool.not_true, Bool.false_eq_true, if_false, h2, if_true, decide_eq_true_eq, Int.toNat_zero, true_and]
  by_cases g1 : byteAt s 0 = 48
  ·by_cases g2 : 1 < s.size
   ·have g3 : (s.size : Int) > 1 := by omega
    simp only [g1, g2, g3, and_self, if_true]; exact Ev.some _
   ·have g3 : ¬ (s.size : Int) > 1 := by omega
    simp only [g1, g2, g3, and_false, if_true, if_false]; exact go
  ·simp only [g1, false_and, if_false]; exact go
 ·have h1 : ¬ ((1 : Int) ≤ (s.size : Int) ∧ (s.size : Int) ≤ 6) := by omega
  simp only [h1, h, decide_false, Bool.not_false, if_true, if_false]
  exact Ev.some _
def sameS (a b : ByteArray) : Bool := a.data.toList == b.data.toList
theorem ZFm (a b : ByteArray) : sameS a b = decide (a = b) := by rw [← ZHM, ByteArray.toList_eq, ByteArray.toList_eq]; rfl
theorem ZrV (a b : ByteArray) : (a.toList == b.toList) = sameS a b := by rw [ByteArray.toList_eq, ByteArray.toList_eq]; rfl
def kindG (w : ByteArray) : List ByteArray → Int → Int → Int
 | [], _, v => v
 | x :: l, i, v => kindG w l (i + 1) (if sameS x w then i else v)
def names4 : List ByteArray := [ByteArray.mk #[], ByteArray.mk #[115, 116, 117, 99, 107], ByteArray.mk #[104, 111, 108, 101], ByteArray.mk #[116, 117, 114, 110, 101, 100]]
def readP (s : ByteArray) : (Int × Int × Int) × Bool :=
 if (splitP s 32).length ≠ 3 then ((0, 0, 0), false) else if (splitP (List.getD (splitP s 32) 2 (ByteArray.mk #[])) 44).length ≠ 2 then ((0, 0, 0), false) else
 if validF (kindG (List.getD (splitP s 32) 0 (ByteArray.mk #[])) names4 0 0, readN (List.getD (splitP (List.getD (splitP s 32) 2 (ByteArray.mk #[])) 44) 0 (ByteArray.mk #[])), readN (List.getD (splitP (List.getD (splitP s 32) 2 (ByteArray.mk #[])) 44) 1 (ByteArray.mk #[]))) then
  (if sameS (nameF (kindG (List.getD (splitP s 32) 0 (ByteArray.mk #[])) names4 0 0, readN (List.getD (splitP (List.getD (splitP s 32) 2 (ByteArray.mk #[])) 44) 0 (ByteArray.mk #[])), readN (List.getD (splitP (List.getD (splitP s 32) 2 (ByteArray.mk #[])) 44) 1 (ByteArray.mk #[])))) s then
   ((kindG (List.getD (splitP s 32) 0 (ByteArray.mk #[])) names4 0 0, readN (List.getD (splitP (List.getD (splitP s 32) 2 (ByteArray.mk #[])) 44) 0 (ByteArray.mk #[])), readN (List.getD (splitP (List.getD (splitP s 32) 2 (ByteArray.mk #[])) 44) 1 (ByteArray.mk #[]))), true) else ((0, 0, 0), false))
 else ((0, 0, 0), false)
theorem Zjl (s : ByteArray) (w : List ByteArray) (hw : 0 < w.length) (row column : Int) : ∀ (r pre : List ByteArray) (kind : Int), (pre ++ r).length ≤ 4 →
    Ev (fun k => Z3x k 0 0 0 w kind row column (pre ++ r) s ((pre ++ r).length : Int) (pre.length : Int)) (0, 0, 0, kindG (List.getD w 0 (ByteArray.mk #[])) r (pre.length : Int) kind, row, column, s)
  | [], pre, kind, hl => by
    refine Ev.succ ?_
    simp only [Z3x, ZR, decide_false, Bool.false_eq_true, if_false, kindG]
    exact Ev.some _
  | x :: r, pre, kind, hl => by
    have ih := fun kd => Zjl s w hw row column r (pre ++ [x]) kd (by simpa using hl)
    refine Ev.succ ?_
    have hw2 : (0 : Int) < (w.length : Int) := by omega
    simp only [Z3x, Zy, Z16, decide_true, if_true, Int.toNat_natCast, Zk, hw2, Int.toNat_zero, ZrV, kindG]
    rw [Zz pre x r (by omega)]
    have hlen : ((pre ++ [x]).length : Int) = (pre.length : Int) + 1 := by simp
    simp only [← Z7] at ih
    by_cases hx : sameS x (List.getD w 0 (ByteArray.mk #[])) = true
    · simp only [hx, if_true]
      have := ih (pre.length : Int)
      rw [hlen] at this ⊢
      exact this
    · simp only [hx, Bool.false_eq_true, if_false]
      have := ih kind
      rw [hlen] at this ⊢
      exact this
theorem Zx4 {l : List ByteArray} {n : Nat} {m : Nat} (h : ∀ x ∈ l, x.size ≤ m) : (List.getD l n (ByteArray.mk #[])).size ≤ m := by
 rw [List.getD]
 cases hn : l[n]? with
 | none => simp only [Option.getD_none]; exact Nat.zero_le _
 | some x => simp only [Option.getD_some]; exact h x (List.mem_of_getElem? hn)
theorem ZAf (s : ByteArray) (hs : s.size ≤ 1048576) : Ev (fun k => Zce k s) (readP s) := by
  refine Ev.succ ?_
  simp only [Zce]
  refine Ev.bind (Zr4 s 32 hs) ?_
  unfold readP
  by_cases h3 : (splitP s 32).length = 3
  · have h3' : ((splitP s 32).length : Int) = 3 := by omega
    have h2 : (2 : Int) < ((splitP s 32).length : Int) := by omega
    simp only [h3, show ((3 : Nat) : Int) = 3 from rfl, ne_eq, not_true_eq_false, decide_false, Bool.false_eq_true, if_false]
    refine Ev.ite (fun _ => ?_) (fun hn => (hn (by first | trivial | omega)).elim)
    have hs2 := Zx4 (n := 2) (ZAU s 32)
    refine Ev.bind (Zr4 (List.getD (splitP s 32) 2 (ByteArray.mk #[])) 44 (by omega)) ?_
    by_cases h4 : (splitP (List.getD (splitP s 32) 2 (ByteArray.mk #[])) 44).length = 2
    · have h4' : ((splitP (List.getD (splitP s 32) 2 (ByteArray.mk #[])) 44).length : Int) = 2 := by omega
      simp only [h4, show ((2 : Nat) : Int) = 2 from rfl, ne_eq, not_true_eq_false, decide_false, Bool.false_eq_true, if_false]
      have g7 : Ev (fun k => Z3h k 0 0 0 (splitP s 32) (splitP (List.getD (splitP s 32) 2 (ByteArray.mk #[])) 44) s)
          (0, 0, 0, splitP s 32, 0, readN (List.getD (splitP (List.getD (splitP s 32) 2 (ByteArray.mk #[])) 44) 0 (ByteArray.mk #[])), readN (List.getD (splitP (List.getD (splitP s 32) 2 (ByteArray.mk #[])) 44) 1 (ByteArray.mk #[])), s) := by
        simp only [Z3h]
        refine Ev.ite (fun _ => ?_) (fun hn => (hn (by omega)).elim)
        refine Ev.ite (fun _ => ?_) (fun hn => (hn (by omega)).elim)
        simp only [show Int.toNat 0 = 0 from rfl, show Int.toNat 1 = 1 from rfl]
        refine Ev.bind (Zt6 _ (Nat.le_trans (Zx4 (ZAU _ 44)) (by omega))) ?_
        refine Ev.bind (Zt6 _ (Nat.le_trans (Zx4 (ZAU _ 44)) (by omega))) ?_
        exact Ev.some _
      refine Ev.bind g7 ?_
      refine Ev.bind (Ev.succ (Ev.some _)) ?_
      have hl := Zjl s (splitP s 32) (by omega) (readN (List.getD (splitP (List.getD (splitP s 32) 2 (ByteArray.mk #[])) 44) 0 (ByteArray.mk #[]))) (readN (List.getD (splitP (List.getD (splitP s 32) 2 (ByteArray.mk #[])) 44) 1 (ByteArray.mk #[]))) names4 [] 0 (by decide)
      refine Ev.bind hl ?_
      refine Ev.bind (ZqH _) ?_
      simp only [List.length_nil, Int.natCast_zero]
      by_cases hv : validF (kindG (List.getD (splitP s 32) 0 (ByteArray.mk #[])) names4 0 0, readN (List.getD (splitP (List.getD (splitP s 32) 2 (ByteArray.mk #[])) 44) 0 (ByteArray.mk #[])), readN (List.getD (splitP (List.getD (splitP s 32) 2 (ByteArray.mk #[])) 44) 1 (ByteArray.mk #[])))
      · simp only [hv, decide_true, Bool.not_true, Bool.false_eq_true, if_false, if_true]
        refine Ev.bind (ZtC _ hv) ?_
        simp only [ZrV]
        cases hn : sameS (nameF (kindG (List.getD (splitP s 32) 0 (ByteArray.mk #[])) names4 0 0, readN (List.getD (splitP (List.getD (splitP s 32) 2 (ByteArray.mk #[])) 44) 0 (ByteArray.mk #[])), readN (List.getD (splitP (List.getD (splitP s 32) 2 (ByteArray.mk #[])) 44) 1 (ByteArray.mk #[])))) s with
        | true => simp only [Bool.not_true, Bool.false_eq_true, if_false, if_true]; exact Ev.some _
        | false => simp only [Bool.not_false, Bool.false_eq_true, if_false, if_true]; exact Ev.some _
      · simp only [hv, decide_false, Bool.not_false, if_true, if_false]
        exact Ev.some _
    · have h4' : ¬ ((splitP (List.getD (splitP s 32) 2 (ByteArray.mk #[])) 44).length : Int) = 2 := by omega
      simp only [h4', h4, ne_eq, not_false_eq_true, decide_true, if_true]
      exact Ev.some _
  · have h3' : ¬ ((splitP s 32).length : Int) = 3 := by omega
    simp only [h3, h3', ne_eq, not_false_eq_true, decide_true, if_true]
    exact Ev.some _
def cutP (s p : ByteArray) : ByteArray × Bool := if p.size ≤ s.size then (if sameS (subS s 0 p.size) p then (subS s p.size s.size, true) else (s, false)) else (s, false)
theorem Zv8 (s p : ByteArray) : Ev (fun k => Z9E k s p) (cutP s p) := by
 refine Ev.succ ?_
 simp only [Z9E]
 refine Ev.bind (a := cutP s p) (Ev.succ ?_) (Ev.some _)
 simp only [Z4S]
 unfold cutP
 refine Ev.bind (a := decide (p.size ≤ s.size) && sameS (subS s 0 p.size) p) (Ev.succ ?_) ?_
 ·simp only [Z4Y, decide_eq_true_eq]
  by_cases h : p.size ≤ s.size
  ·have h1 : (s.size : Int) ≥ (p.size : Int) := by omega
   have h2 : (p.size : Int) ≤ (s.size : Int) := by omega
   simp only [h, h1, h2, if_true, ZrV, Int.toNat_zero, Int.toNat_natCast, decide_true, Bool.true_and]
   exact Ev.some _
  ·have h1 : ¬ (s.size : Int) ≥ (p.size : Int) := by omega
   simp only [h, h1, if_false, decide_false, Bool.false_and]
   exact Ev.some _
 ·by_cases h : p.size ≤ s.size
  ·have h2 : (p.size : Int) ≤ (s.size : Int) := by omega
   have h3 : (s.size : Int) ≤ (s.size : Int) := by omega
   simp only [h, decide_true, Bool.true_and, if_true, h2, h3, Int.toNat_natCast]
   cases sameS (subS s 0 p.size) p with
   | true => simp only [Bool.not_true, Bool.false_eq_true, if_false, if_true]; exact Ev.some _
   | false => simp only [Bool.not_false, Bool.false_eq_true, if_false, if_true]; exact Ev.some _
  ·simp only [h, decide_false, Bool.false_and, Bool.not_false, if_true, if_false]
   exact Ev.some _
def candP (s : ByteArray) (v : Int) : Int × Int × Int :=
 (v, wrap64 (wrap64 (byteAt (cutP s (List.getD nameK (Int.toNat (v - 1)) (ByteArray.mk #[]) ++ atS)).1 0) - 48), wrap64 (wrap64 (byteAt (cutP s (List.getD nameK (Int.toNat (v - 1)) (ByteArray.mk #[]) ++ atS)).1 2) - 48))
def tryP (s : ByteArray) (v : Int) : Bool :=
 (cutP s (List.getD nameK (Int.toNat (v - 1)) (ByteArray.mk #[]) ++ atS)).2 && (decide ((cutP s (List.getD nameK (Int.toNat (v - 1)) (ByteArray.mk #[]) ++ atS)).1.size = 3) && (decide (validF (candP s v)) && sameS (nameF (candP s v)) s))
def implP (s : ByteArray) : (Int × Int × Int) × Bool := if tryP s 1 then (candP s 1, true) else if tryP s 2 then (candP s 2, true) else if tryP s 3 then (candP s 3, true) else ((0, 0, 0), false)
theorem ZHc (n : Nat) : (List.getD nameK n (ByteArray.mk #[])).size ≤ 6 := by
 match n with
 | 0 => decide
 | 1 => decide
 | 2 => decide
 | n + 3 => exact Nat.zero_le _
theorem Zbe (s : ByteArray) (v : Int) (h1 : 1 ≤ v) (h2 : v ≤ 3) {r : LR (Int × Int × Int) ((Int × Int × Int) × Bool)} (hy : tryP s v = true → r = .ret (candP s v, true)) (hn : tryP s v = false → Ev (fun k => ZS k 0 0 0 s (v + 1)) r) :
    Ev (fun k => ZS k 0 0 0 s v) r := by
  refine Ev.succ ?_
  have b7 : wrap64 (v - 1) = v - 1 := w64 (by omega) (by omega)
  have b11 : wrap64 (v + 1) = v + 1 := w64 (by omega) (by omega)
  have b8 : (0 : Int) ≤ v - 1 := by omega
  have b9 : v - 1 < ((3 : Nat) : Int) := by omega
  have b10 : (v - 1).toNat < 3 := by omega
  have e1 : (ByteArray.mk #[32, 97, 116, 32]).size = 4 := rfl
  simp only [ZS, decide_eq_true_eq, h2, b7, b8, b9, b10, b11, if_true, List.length_cons, List.length_nil]
  change Ev (fun k => if (List.getD nameK (Int.toNat (v - 1)) (ByteArray.mk #[])).size + (ByteArray.mk #[32, 97, 116, 32]).size ≤ 9223372036854775807 then _ else none) r
  refine Ev.ite (fun _ => ?_) (fun hf => (hf (by have := ZHc (v - 1).toNat; rw [e1]; omega)).elim)
  refine Ev.bind (Zv8 s (List.getD nameK (Int.toNat (v - 1)) (ByteArray.mk #[]) ++ atS)) ?_
  unfold tryP at hy hn
  cases hc : (cutP s (List.getD nameK (Int.toNat (v - 1)) (ByteArray.mk #[]) ++ atS)).2 with
  | false =>
    rw [hc] at hn
    simp only [Bool.false_and, forall_const] at hn
    simp only [Bool.not_false, if_true]
    exact hn
  | true =>
    rw [hc] at hy hn
    simp only [Bool.true_and] at hy hn
    simp only [Bool.not_true, Bool.false_eq_true, if_false]
    by_cases h3 : (cutP s (List.getD nameK (Int.toNat (v - 1)) (ByteArray.mk #[]) ++ atS)).1.size = 3
    · have h3' : ((cutP s (List.getD nameK (Int.toNat (v - 1)) (ByteArray.mk #[]) ++ atS)).1.size : Int) = 3 := by omega
      simp only [h3, decide_true, Bool.true_and] at hy hn
      simp only [h3', ne_eq, not_true_eq_false, if_false, show ((0 : Int) < 3) from by omega, show ((2 : Int) < 3) from by omega, if_true, Int.toNat_zero, show Int.toNat 2 = 2 from rfl]
      refine Ev.bind (Zyy (candP s v)) ?_
      unfold nameOf
      by_cases hv : validF (candP s v)
      · simp only [hv, decide_true, Bool.true_and] at hy hn
        simp only [hv, if_true, ZrV]
        cases hs : sameS (nameF (candP s v)) s with
        | true =>
          simp only [if_true]
          rw [hy hs]
          exact Ev.some _
        | false =>
          simp only [Bool.false_eq_true, if_false]
          exact hn hs
      · simp only [hv, decide_false, Bool.false_and, forall_const] at hn
        simp only [hv, if_false, Bool.false_eq_true]
        exact hn
    · have h3' : ¬ ((cutP s (List.getD nameK (Int.toNat (v - 1)) (ByteArray.mk #[]) ++ atS)).1.size : Int) = 3 := by omega
      simp only [h3, decide_false, Bool.false_and, forall_const] at hn
      simp only [h3', ne_eq, not_false_eq_true, if_true]
      exact hn
theorem Zmd (s : ByteArray) : Ev (fun k => Z6S k s) (implP s) := by
 refine Ev.succ ?_
 simp only [Z6S]
 have h4 : Ev (fun k => ZS k 0 0 0 s (3 + 1)) (.go (0, 0, 0)) := by
  refine Ev.succ ?_
  have : ¬ ((3 : Int) + 1 ≤ 3) := by omega
  simp only [ZS, decide_eq_true_eq, this, if_false]
  exact Ev.some _
 have h1 : Ev (fun k => ZS k 0 0 0 s 1) (if (implP s).2 then .ret (implP s) else .go (0, 0, 0)) := by
  refine Zbe s 1 (by omega) (by omega) (fun h => by simp [implP, h]) (fun hf1 => ?_)
  refine Zbe s (1 + 1) (by omega) (by omega) (fun h => by have h' : tryP s 2 = true := h; simp [implP, hf1, h']) (fun hf2 => ?_)
  refine Zbe s (1 + 1 + 1) (by omega) (by omega) (fun h => by have h' : tryP s 3 = true := h; have hf2' : tryP s 2 = false := hf2; simp [implP, hf1, hf2', h']) (fun hf3 => ?_)
  have hf3' : tryP s 3 = false := hf3
  have hf2' : tryP s 2 = false := hf2
  have : (implP s).2 = false := by simp [implP, hf1, hf2', hf3']
  rw [this]
  exact h4
 refine Ev.bind h1 ?_
 by_cases h : (implP s).2 = true
 ·simp only [h, if_true]
  exact Ev.ret (Ev.some _)
 ·simp only [h, Bool.false_eq_true, if_false]
  refine Ev.go ((Ev.some _).congr ?_)
  unfold implP at h ⊢
  split at h
  ·simp at h
  ·split at h
   ·simp at h
   ·split at h
    ·simp at h
    ·simp_all
theorem ZHP : ∀ (a : _root_.Fin 3) (b c : _root_.Fin 10), (decide (readP (nameF ((a.val : Int) + 1, (b.val : Int), (c.val : Int))) = (((a.val : Int) + 1, (b.val : Int), (c.val : Int)), true)) && decide (implP (nameF ((a.val : Int) + 1, (b.val : Int), (c.val : Int))) = (((a.val : Int) + 1, (b.val : Int), (c.val : Int)), true))) = true := by decide +kernel
theorem ZBN (x : Int × Int × Int) (h : validF x) : readP (nameF x) = (x, true) ∧ implP (nameF x) = (x, true) := by
 obtain ⟨a, b, c⟩ := x
 obtain ⟨h1, h2, h3, h4, h5, h6⟩ := h
 simp only at h1 h2 h3 h4 h5 h6
 have := ZHP ⟨(a - 1).toNat, by omega⟩ ⟨b.toNat, by omega⟩ ⟨c.toNat, by omega⟩
 rw [Bool.and_eq_true, decide_eq_true_eq, decide_eq_true_eq] at this
 have ha : (((a - 1).toNat : Nat) : Int) + 1 = a := by omega
 have hb : ((b.toNat : Nat) : Int) = b := by omega
 have hc : ((c.toNat : Nat) : Int) = c := by omega
 simp only [ha, hb, hc] at this
 exact this
theorem ZHZ (s : ByteArray) : readP s = ((0, 0, 0), false) ∨ ∃ x, validF x ∧ nameF x = s := by
 unfold readP
 split
 ·exact .inl rfl
 ·split
  ·exact .inl rfl
  ·split
   ·rename_i hv
    split
    ·rename_i hs
     rw [ZFm, decide_eq_true_eq] at hs
     exact .inr ⟨_, hv, hs⟩
    ·exact .inl rfl
   ·exact .inl rfl
theorem ZvF {s : ByteArray} {v : Int} (h : tryP s v = true) : ∃ x, validF x ∧ nameF x = s := by
 unfold tryP at h
 simp only [Bool.and_eq_true, decide_eq_true_eq, ZFm] at h
 exact ⟨_, h.2.2.1, h.2.2.2⟩
theorem ZI3 (s : ByteArray) : implP s = ((0, 0, 0), false) ∨ ∃ x, validF x ∧ nameF x = s := by
 unfold implP
 split
 ·rename_i h; exact .inr (ZvF h)
 ·split
  ·rename_i h; exact .inr (ZvF h)
  ·split
   ·rename_i h; exact .inr (ZvF h)
   ·exact .inl rfl
theorem ZHS (s : ByteArray) : readP s = implP s := by
 by_cases h : ∃ x, validF x ∧ nameF x = s
 ·obtain ⟨x, hv, rfl⟩ := h
  obtain ⟨h1, h2⟩ := ZBN x hv
  rw [h1, h2]
 ·rw [(ZHZ s).resolve_right h, (ZI3 s).resolve_right h]
end Go.Proofs.YtglkedenkcpcbaaGreatDoor.Vs

set_option linter.unusedVariables false
set_option linter.unusedSimpArgs false
namespace Go.Proofs.YtglkedenkcpcbaaGreatDoor.Vs
open Go.RowKit
theorem Zvy (code : List Int) (h : Cur code 0 6000) : EvP (fun k => Z6x k code) (fun r => r.1.2.2.length ≤ 91 ∧ r.2.length ≤ 61) := by
 refine EvP.succ ?_
 simp only [Z6x]
 refine EvP.bind (ZAB (h.to (by omega) (by omega))) (fun z hz => ?_)
 refine EvP.bind (Q1 := fun y => y.2.2.1.length ≤ 91 ∧ y.2.2.2.length ≤ 61) ?_ (fun y hy => EvP.some hy)
 simp only [Z1Q]
 exact EvP.bind (ZDW _ (h.to (by omega) (by omega))) (fun y hy => EvP.some ⟨hz.1, hy.1⟩)
theorem ZBG (code : List Int) (h : Cur code 0 6000) : EvP (fun k => Z8v k code) (fun r => r.1.2.2.length ≤ 91 ∧ r.2.1.length ≤ 5 ∧ r.2.2.length ≤ 61) := by
 refine EvP.succ ?_
 simp only [Z8v]
 exact EvP.bind (Zxf code h) (fun z hz => EvP.some hz)
theorem Zs6 (code : List Int) (h : Cur code 0 6000) : EvP (fun k => Z5r k code) (fun r => r.2.2.length ≤ 91) := by
 refine EvP.succ ?_
 simp only [Z5r]
 exact EvP.bind (ZBA code h) (fun z hz => EvP.some hz.1)
theorem ZBV (code : List Int) (h : Cur code 0 6000) : EvP (fun k => Z8w k code) (fun _ => True) := by
 refine EvP.succ ?_
 simp only [Z8w]
 refine EvP.bind (Zd3 _ (by simp) (h.to (by omega) (by omega))) (fun z0 h0 => ?_)
 refine EvP.bind (Zd3 _ (by simp) (h.to (by omega) (by omega))) (fun z1 h1 => ?_)
 refine EvP.bind (Z7F 10 (h.to (by omega) (by omega)) (by omega)) (fun z2 h2 => ?_)
 refine EvP.bind (Zd3 _ (by simp) (h.to (by omega) (by omega))) (fun z3 h3 => ?_)
 refine EvP.bind (Zd3 _ (by simp) (h.to (by omega) (by omega))) (fun z4 h4 => ?_)
 refine EvP.bind (Z7F 10 (h.to (by omega) (by omega)) (by omega)) (fun z5 h5 => ?_)
 refine EvP.bind (Zd3 _ (by simp) (h.to (by omega) (by omega))) (fun z6 h6 => ?_)
 refine EvP.bind (Zd3 _ (by simp) (h.to (by omega) (by omega))) (fun z7 h7 => ?_)
 exact EvP.some trivial
section
variable {code : List Int} {at' seed : Int}
theorem p_of (l : List ByteArray) (hl : 0 < l.length) (h : Cur code at' 2) : EvP (fun k => Zas k (code, at', seed) l) (fun r => at' ≤ r.2.1 ∧ r.2.1 ≤ at' + 2 ∧ r.1 ∈ l) := by
 refine EvP.succ ?_
 simp only [Zas]
 refine EvP.bind (Z7F _ (h.to (by omega) (by omega)) (by omega)) (fun z hz => ?_)
 refine EvP.guard (by omega) (EvP.guard (by omega) (EvP.some ⟨by dsimp only; omega, by dsimp only; omega, ?_⟩))
 have hi : z.1.toNat < l.length := by omega
 dsimp only
 rw [List.getD, List.getElem?_eq_getElem hi]
 exact List.getElem_mem hi
theorem ZCr (code : List Int) (v2 : ByteArray) (h2 : 0 < v2.size) (h2b : v2.size ≤ 1000) : ∀ (d : Nat) (v1 : ByteArray) (at' seed : Int), d ≤ 2 → v1.size + d ≤ 1000 → Cur code at' (6 * d) →
    EvP (fun k => Z1c k at' seed code v1 v2 (d : Int)) (fun z => ∃ a s v, z = (a, s, code, v) ∧ v.size ≤ v1.size + d ∧ at' ≤ a ∧ a ≤ at' + 6 * d)
  | 0, v1, at', seed, hd, hs, hc => by
    refine EvP.succ ?_
    have hn : ¬ ((0 : Nat) : Int) > 0 := by omega
    simp only [Z1c, hn, decide_false, Bool.false_eq_true, if_false]
    exact EvP.some ⟨at', seed, v1, rfl, by omega, by omega, by omega⟩
  | d + 1, v1, at', seed, hd, hs, hc => by
    refine EvP.succ ?_
    have hn : ((d + 1 : Nat) : Int) > 0 := by omega
    have w : wrap64 (((d + 1 : Nat) : Int) - 1) = (d : Int) := by rw [w64 (by omega) (by omega)]; omega
    simp only [Z1c, hn, decide_true, if_true, w, decide_eq_true_eq]
    refine EvP.ite (fun hp => ?_) (fun _ => EvP.some ⟨at', seed, v1, rfl, by omega, by omega, by omega⟩)
    have step : ∀ (v : ByteArray) (a s : Int), v.size ≤ v1.size + 1 → at' ≤ a → a ≤ at' + 6 → EvP (fun k => Z1c k a s code v v2 (d : Int)) (fun z => ∃ a s v, z = (a, s, code, v) ∧ v.size ≤ v1.size + (d + 1) ∧ at' ≤ a ∧ a ≤ at' + 6 * ((d + 1 : Nat) : Int)) := by
      intro v a s k1 k2 k3
      refine (ZCr code v2 h2 h2b d v a s (by omega) (by omega) (hc.to (by omega) (by omega))).mono (fun z hz => ?_)
      obtain ⟨a2, s2, v3, e, g1, g2, g3⟩ := hz
      exact ⟨a2, s2, v3, e, by omega, by omega, by omega⟩
    refine EvP.bind (Z7F _ (hc.to (by omega) (by omega)) (by omega)) (fun z1 h1 => ?_)
    refine EvP.bind (Z7F _ (hc.to (by omega) (by omega)) (by omega)) (fun z2 h3 => ?_)
    refine EvP.guard (by omega) (EvP.guard (by omega) ?_)
    refine EvP.bind (Z7F 3 (hc.to (by omega) (by omega)) (by omega)) (fun z3 h4 => ?_)
    have w1 : wrap64 (z1.1 + 1) = z1.1 + 1 := w64 (by omega) (by omega)
    have s1 : ∀ x, (bytesOf [x]).size = 1 := fun x => rfl
    have e0 : Int.toNat 0 = 0 := rfl
    refine EvP.ite (fun _ => ?_) (fun _ => EvP.ite (fun _ => ?_) (fun _ => ?_))
    · refine EvP.guard (by omega) (EvP.guard (by omega) (EvP.guard (by simp only [ZaL, s1]; omega) (EvP.guard (by omega) (EvP.guard (by omega) (EvP.guard (by omega) (EvP.guard (by simp only [Z28, ZaL, s1]; omega) ?_))))))
      exact step _ _ _ (by simp only [Z28, ZaL, s1]; omega) (by omega) (by omega)
    · refine EvP.guard (by omega) (EvP.guard (by omega) (EvP.guard (by simp only [ZaL, s1]; omega) ?_))
      rw [w1]
      refine EvP.guard (by omega) (EvP.guard (by omega) (EvP.guard (by omega) (EvP.guard (by simp only [Z28, ZaL, s1]; omega) ?_)))
      exact step _ _ _ (by simp only [Z28, ZaL, s1]; omega) (by omega) (by omega)
    · refine EvP.guard (by omega) (EvP.guard (by omega) ?_)
      rw [w1]
      refine EvP.guard (by omega) (EvP.guard (by omega) (EvP.guard (by omega) (EvP.guard (by simp only [ZaL]; omega) ?_)))
      exact step _ _ _ (by simp only [Z28, ZaL]; omega) (by omega) (by omega)
theorem ZFK (t v2 : ByteArray) (h2 : 0 < v2.size) (h2b : v2.size ≤ 1000) (ht : t.size ≤ 900) (h : Cur code at' 20) : EvP (fun k => Z6D k (code, at', seed) t v2) (fun r => r.1.size ≤ t.size + 2) := by
 refine EvP.succ ?_
 simp only [Z6D]
 refine EvP.bind (Z7F 2 (h.to (by omega) (by omega)) (by omega)) (fun z0 h0 => ?_)
 obtain ⟨d, hd⟩ : ∃ d : Nat, 1 + z0.1 = (d : Int) := ⟨(1 + z0.1).toNat, by omega⟩
 have w : wrap64 (1 + z0.1) = (d : Int) := by rw [w64 (by omega) (by omega)]; exact hd
 rw [w]
 refine EvP.bind (ZCr code v2 h2 h2b d t z0.2.1 z0.2.2 (by omega) (by omega) (h.to (by omega) (by omega))) (fun z hz => ?_)
 obtain ⟨a, s, v, rfl, k1, k2, k3⟩ := hz
 exact EvP.some (by dsimp only; omega)
end
theorem ZBs (code : List Int) (h : Cur code 0 6000) : EvP (fun k => Z8z k code) (fun r => r.size ≤ 1000) := by
 refine EvP.succ ?_
 simp only [Z8z]
 refine EvP.bind (p_of _ (by simp) (h.to (by omega) (by omega))) (fun z0 h0 => ?_)
 have hz0 : z0.1.size ≤ 10 := by
  have := h0.2.2
  simp only [List.mem_cons, List.not_mem_nil, or_false] at this
  rcases this with e | e | e <;> rw [e] <;> decide
 have a4 : (ByteArray.mk #[(32 : UInt8), 97, 116, 32]).size = 4 := rfl
 have a1 : (ByteArray.mk #[(44 : UInt8)]).size = 1 := rfl
 refine EvP.guard (by rw [a4]; omega) ?_
 refine EvP.bind (Z7F 10 (h.to (by omega) (by omega)) (by omega)) (fun z1 h1 => ?_)
 refine EvP.bind (EvP.ev (Q := fun v => v = dig z1.1) (Zh7 z1.1 (by omega) (by omega)) rfl) (fun v2 hv => ?_)
 subst hv
 refine EvP.guard (by rw [Z28, a4, Z80]; omega) (EvP.guard (by rw [Z28, Z28, a4, a1, Z80]; omega) ?_)
 refine EvP.bind (Z7F 10 (h.to (by omega) (by omega)) (by omega)) (fun z3 h3 => ?_)
 refine EvP.bind (EvP.ev (Q := fun v => v = dig z3.1) (Zh7 z3.1 (by omega) (by omega)) rfl) (fun v4 hv => ?_)
 subst hv
 have hs : (z0.1 ++ ByteArray.mk #[(32 : UInt8), 97, 116, 32] ++ dig z1.1 ++ ByteArray.mk #[(44 : UInt8)] ++ dig z3.1).size ≤ 20 := by
  rw [Z28, Z28, Z28, Z28, a4, a1, Z80, Z80]; omega
 refine EvP.guard (by rw [Z28, Z28, Z28, a4, a1, Z80, Z80]; omega) ?_
 refine EvP.bind (Z7F 6 (h.to (by omega) (by omega)) (by omega)) (fun z5 h5 => ?_)
 refine EvP.ite (fun _ => ?_) (fun _ => EvP.ite (fun _ => ?_) (fun _ => EvP.ite (fun _ => ?_) (fun _ => EvP.some (by omega))))
 ·exact EvP.bind (ZFK _ _ (by decide) (by decide) (by omega) (h.to (by omega) (by omega))) (fun z hz => EvP.some (by omega))
 ·exact EvP.bind (ZFK _ _ (by decide) (by decide) (by omega) (h.to (by omega) (by omega))) (fun z hz => EvP.some (by omega))
 ·refine EvP.bind (p_of _ (by simp) (h.to (by omega) (by omega))) (fun z8 h8 => EvP.some ?_)
  have := h8.2.2
  simp only [List.mem_cons, List.not_mem_nil, or_false] at this
  rcases this with e | e | e | e | e | e | e | e <;> rw [e] <;> decide
end Go.Proofs.YtglkedenkcpcbaaGreatDoor.Vs

set_option linter.unusedVariables false
set_option linter.unusedSimpArgs false
namespace Go.Proofs.YtglkedenkcpcbaaGreatDoor.Vs
open Go.RowKit
def ZD (b : BoardD) (t : List Int) : List FaultD × Bool := if entriesOK b t then (hiddenOf b t, true) else ([], false)
theorem Zve (b : BoardD) (t : List Int) (h0 : b.2.2.length ≤ 9223372036854775806) (h2 : t.length ≤ 9223372036854775806) : Ev (fun k => Z9O k b t) (ZD b t) := by
 refine Ev.succ ?_
 simp only [Z9O]
 unfold ZD
 refine Ev.bind (a := entriesOK b t) (Z95 b t h0 h2) ?_
 cases g0 : entriesOK b t with
 | false => simp only [Bool.not_false, if_true, Bool.false_eq_true, if_false, Bool.false_and, Bool.and_false]; exact Ev.some _
 | true =>
  obtain ⟨hb, ht, hc⟩ := Z63 g0
  simp only [Bool.not_true, Bool.false_eq_true, if_false, if_true, Bool.and_self]
  exact Ev.bind (Zou b hb t (by omega) hc) (Ev.some _)
theorem ZwP (b : BoardD) (t : List Int) : (ZD b t).1.length ≤ 270 := by
 unfold ZD
 split
 ·rename_i h
  exact Nat.le_trans (List.length_filter_le _ _) (Zcy (Z63 h).1)
 ·simp
end Go.Proofs.YtglkedenkcpcbaaGreatDoor.Vs

set_option linter.unusedVariables false
set_option linter.unusedSimpArgs false
namespace Go.Proofs.YtglkedenkcpcbaaGreatDoor.Vs
open Go.RowKit
def Z1r (b : BoardD) (t : List Int) : Int × Int × Bool := if entriesOK b t then (wrap64 (((possFrom b.2.1 0 b.2.2).length : Int) - ((hiddenOf b t).length : Int)), ((possFrom b.2.1 0 b.2.2).length : Int), true) else (0, 0, false)
theorem Zzg (b : BoardD) (t : List Int) (h0 : b.2.2.length ≤ 9223372036854775806) (h2 : t.length ≤ 9223372036854775806) : Ev (fun k => Zcg k b t) (Z1r b t) := by
 refine Ev.succ ?_
 simp only [Zcg]
 unfold Z1r
 refine Ev.bind (a := entriesOK b t) (Z95 b t h0 h2) ?_
 cases g0 : entriesOK b t with
 | false => simp only [Bool.not_false, if_true, Bool.false_eq_true, if_false, Bool.false_and, Bool.and_false]; exact Ev.some _
 | true =>
  obtain ⟨hb, ht, hc⟩ := Z63 g0
  simp only [Bool.not_true, Bool.false_eq_true, if_false, if_true, Bool.and_self]
  exact Ev.bind (Zbd b hb) (Ev.bind (Zou b hb t (by omega) hc) (Ev.some _))
theorem ZzX (b : BoardD) (t : List Int) (h0 : b.2.2.length ≤ 9223372036854775806) (h2 : t.length ≤ 9223372036854775806) : Ev (fun k => Zci k b t) (Z1r b t) := by
 refine Ev.succ ?_
 simp only [Zci]
 unfold Z1r
 refine Ev.bind (Zi6 b t h0 h2) ?_
 cases g0 : entriesOK b t with
 | false => simp only [Bool.not_false, if_true, Bool.false_eq_true, if_false, Bool.false_and, Bool.and_false]; exact Ev.some _
 | true =>
  obtain ⟨hb, ht, hc⟩ := Z63 g0
  simp only [Bool.not_true, Bool.false_eq_true, if_false, if_true, Bool.and_self]
  exact Ev.bind (Zbm b hb) (Ev.some _)
end Go.Proofs.YtglkedenkcpcbaaGreatDoor.Vs

set_option linter.unusedVariables false
set_option linter.unusedSimpArgs false
namespace Go.Proofs.YtglkedenkcpcbaaGreatDoor.Vs
open Go.RowKit
theorem Zmw : ∀ (r s pre q : List FaultD), r.length = s.length → pre.length = q.length → (pre ++ r).length ≤ 1000000 → Ev (fun k => Z79 k (pre ++ r) (q ++ s) ((pre ++ r).length : Int) (pre.length : Int)) (if r = s then LR.go () else LR.ret false)
 | [], s, pre, q, h, hq, hl => by
  obtain rfl : s = [] := List.eq_nil_of_length_eq_zero h.symm
  refine Ev.succ ?_
  simp only [Z79, ZR, decide_false, Bool.false_eq_true, if_false, if_true]
  exact Ev.some _
 | x :: r, [], pre, q, h, hq, hl => by simp at h
 | x :: r, y :: s, pre, q, h, hq, hl => by
  have ih := Zmw r s (pre ++ [x]) (q ++ [y]) (by simpa using h) (by simpa using hq) (by simpa using hl)
  have l2 : (pre.length : Int) < ((q ++ y :: s).length : Int) := by rw [hq]; exact Zy _ _ _
  have g2 : List.getD (q ++ y :: s) pre.length (0, 0, 0) = y := by rw [hq]; exact Zk _ _ _ _
  refine Ev.succ ?_
  simp only [Z79, Zy, Z16, l2, decide_true, if_true, Int.toNat_natCast, Zk, g2]
  rw [Zz pre x r (by omega)]
  rw [← Z7, ← Z7] at ih
  have e : (decide (x.1 = y.1) && (decide (x.2.1 = y.2.1) && (decide (x.2.2 = y.2.2) && true))) = decide (x = y) := by
   rw [Bool.eq_iff_iff]
   simp [Prod.ext_iff]
  rw [e]
  by_cases hh : x = y
  ·simp only [hh, decide_true, Bool.not_true, Bool.false_eq_true, if_false]
   rw [hh] at ih
   refine ih.congr ?_
   simp
  ·simp only [hh, decide_false, Bool.not_false, if_true]
   rw [if_neg (fun he => hh (List.cons.inj he).1)]
   exact Ev.some _
theorem Ziq (a c : List FaultD) (ha : a.length ≤ 1000000) : Ev (fun k => Z93 k a c) (decide (a = c)) := by
 refine Ev.succ ?_
 simp only [Z93]
 refine Ev.ite (fun h => ?_) (fun h => ?_)
 ·simp only [decide_eq_true_eq] at h
  rw [decide_eq_false (fun he => h (by rw [he]))]
  exact Ev.some _
 ·simp only [decide_eq_true_eq, Decidable.not_not] at h
  refine Ev.bind (Zmw a c [] [] (by omega) rfl (by simpa using ha)) ?_
  by_cases he : a = c
  ·rw [if_pos he, decide_eq_true he]; exact Ev.go (Ev.some _)
  ·rw [if_neg he, decide_eq_false he]; exact Ev.ret (Ev.some _)
theorem Zor : ∀ (r s pre q : List FallD), r.length = s.length → pre.length = q.length → (pre ++ r).length ≤ 1000000 → Ev (fun k => Z7V k (pre ++ r) (q ++ s) ((pre ++ r).length : Int) (pre.length : Int)) (if r = s then LR.go () else LR.ret false)
 | [], s, pre, q, h, hq, hl => by
  obtain rfl : s = [] := List.eq_nil_of_length_eq_zero h.symm
  refine Ev.succ ?_
  simp only [Z7V, ZR, decide_false, Bool.false_eq_true, if_false, if_true]
  exact Ev.some _
 | x :: r, [], pre, q, h, hq, hl => by simp at h
 | x :: r, y :: s, pre, q, h, hq, hl => by
  have ih := Zor r s (pre ++ [x]) (q ++ [y]) (by simpa using h) (by simpa using hq) (by simpa using hl)
  have l2 : (pre.length : Int) < ((q ++ y :: s).length : Int) := by rw [hq]; exact Zy _ _ _
  have g2 : List.getD (q ++ y :: s) pre.length (0, 0, 0) = y := by rw [hq]; exact Zk _ _ _ _
  refine Ev.succ ?_
  simp only [Z7V, Zy, Z16, l2, decide_true, if_true, Int.toNat_natCast, Zk, g2]
  rw [Zz pre x r (by omega)]
  rw [← Z7, ← Z7] at ih
  have e : (decide (x.1 = y.1) && (decide (x.2.1 = y.2.1) && (decide (x.2.2 = y.2.2) && true))) = decide (x = y) := by
   rw [Bool.eq_iff_iff]
   simp [Prod.ext_iff]
  rw [e]
  by_cases hh : x = y
  ·simp only [hh, decide_true, Bool.not_true, Bool.false_eq_true, if_false]
   rw [hh] at ih
   refine ih.congr ?_
   simp
  ·simp only [hh, decide_false, Bool.not_false, if_true]
   rw [if_neg (fun he => hh (List.cons.inj he).1)]
   exact Ev.some _
theorem ZEs (a c : List FallD) (ha : a.length ≤ 1000000) : Ev (fun k => Za3 k a c) (decide (a = c)) := by
 refine Ev.succ ?_
 simp only [Za3]
 refine Ev.ite (fun h => ?_) (fun h => ?_)
 ·simp only [decide_eq_true_eq] at h
  rw [decide_eq_false (fun he => h (by rw [he]))]
  exact Ev.some _
 ·simp only [decide_eq_true_eq, Decidable.not_not] at h
  refine Ev.bind (Zor a c [] [] (by omega) rfl (by simpa using ha)) ?_
  by_cases he : a = c
  ·rw [if_pos he, decide_eq_true he]; exact Ev.go (Ev.some _)
  ·rw [if_neg he, decide_eq_false he]; exact Ev.ret (Ev.some _)
theorem ZwE (y x : FaultD) : (decide (y.1 = x.1) && (decide (y.2.1 = x.2.1) && (decide (y.2.2 = x.2.2) && true))) = decide (y = x) := by
 rw [Bool.eq_iff_iff]
 simp [Prod.ext_iff]
def before (b : BoardD) (f g : FaultD) : Prop := placeOf b f < placeOf b g ∨ (placeOf b f = placeOf b g ∧ f.1 < g.1)
theorem Zyv {b : BoardD} (hC : 1 ≤ b.2.1) : ∀ (r : List CellD) (i : Nat), List.Pairwise (before b) (possFrom b.2.1 i r)
 | [], i => by simp [possFrom]
 | x :: r, i => by
  simp only [possFrom]
  have place : ∀ (j : Nat) (f : FaultD), f.2.1 = Int.tdiv j b.2.1 → f.2.2 = Int.tmod j b.2.1 → placeOf b f = j := by
   intro j f h3 h4
   unfold placeOf
   rw [h3, h4]
   exact (ZH5 (Int.natCast_nonneg j) hC).1
  have hk : ∀ f ∈ kindsAt b.2.1 i x, placeOf b f = i := fun f hf => by
   obtain ⟨h1, h2, h3⟩ := Zyr hf
   exact place i f h1 h2
  refine List.pairwise_append.2 ⟨?_, ?_, ?_⟩
  ·unfold kindsAt
   refine List.pairwise_map.2 ?_
   have h3 : List.Pairwise (fun a c : Int => a < c) [1, 2, 3] := by decide
   refine (h3.filter (fits x)).imp (fun {a c} hac => .inr ⟨?_, hac⟩)
   rfl
  ·exact Zyv hC r (i + 1)
  ·intro f hf g hg
   have hg' : g ∈ possFrom b.2.1 ((i + 1 : Nat) : Int) r := hg
   obtain ⟨j, h1, h2, h3, h4, h5⟩ := ZB8 hg'
   left
   rw [hk f hf, place j g h3 h4]
   omega
theorem ZlD (b1 b2 : Int) (b3 : List CellD) (o3 : List Int) (o4 : List FaultD) (c : BoardD) (hb : boardOK c = true) (v8 : Bool) (v14 v15 : Int) : ∀ (r pre : List FaultD) (last kind : Int), (∀ f ∈ r, f ∈ possFrom c.2.1 0 c.2.2) → List.Pairwise (before c) r → (∀ f ∈ r, last < placeOf c f ∨ (last = placeOf c f ∧ kind < f.1)) → (pre ++ r).length ≤ 1000000 →
    Ev (fun k => Z2s k b1 b2 b3 o3 o4 c.1 c.2.1 c.2.2 (pre ++ r) v8 v14 v15 last kind ((pre ++ r).length : Int) (pre.length : Int)) (LR.go (b1, b2, b3, o3, o4, v8, v14, v15))
  | [], pre, last, kind, hm, hp, hh, hl => by
    refine Ev.succ ?_
    simp only [Z2s, ZR, decide_false, Bool.false_eq_true, if_false]
    exact Ev.some _
  | f :: r, pre, last, kind, hm, hp, hh, hl => by
    have hf := hm f (List.mem_cons_self ..)
    obtain ⟨h1, h2, h3, h4, _⟩ := Zs9 hb hf
    have hpl := Z48 hb h1 h2 h3 h4
    have hone := ZrK hb hf
    have hp2 := List.pairwise_cons.1 hp
    have hc := hh f (List.mem_cons_self ..)
    have ih := ZlD b1 b2 b3 o3 o4 c hb v8 v14 v15 r (pre ++ [f]) (placeOf c f) f.1 (fun g hg => hm g (List.mem_cons_of_mem _ hg)) hp2.2 (fun g hg => hp2.1 g hg) (by simpa using hl)
    have w1 : wrap64 (wrap64 (f.2.1 * c.2.1) + f.2.2) = placeOf c f := by unfold placeOf; rw [w64 (n := f.2.1 * c.2.1) (by omega) (by omega), w64 (by omega) (by omega)]
    have e : Ev (fun k => Zca k c [f]) (true, true) := by
      refine Ev.succ ?_
      simp only [Zca]
      refine Ev.bind (Zed c (by have h8 := (Zt hb).2.2.2.2.1; have h9 := ZG (Zt hb).1 (Zt hb).2.1 (Zt hb).2.2.1 (Zt hb).2.2.2.1; omega)) ?_
      simp only [hb, Bool.not_true, Bool.false_eq_true, if_false]
      refine Ev.bind (Zn2 c hb [f] (by simp)) ?_
      refine (Ev.some _).congr ?_
      rw [hone]
      rfl
    refine Ev.succ ?_
    simp only [Z2s, Zy, Z16, decide_true, if_true, Int.toNat_natCast, Zk, w1]
    rw [Zz pre f r (by omega)]
    rw [← Z7] at ih
    refine Ev.bind e ?_
    have n1 : ¬ placeOf c f < last := by omega
    simp only [Bool.not_true, Bool.false_eq_true, if_false, n1, decide_false]
    refine Ev.ite (fun h5 => ?_) (fun _ => ih)
    simp only [decide_eq_true_eq] at h5
    have n2 : ¬ f.1 ≤ kind := by omega
    simp only [n2, decide_false, Bool.false_eq_true, if_false]
    exact ih
theorem ZCo {b : BoardD} {t : List Int} (hok : entriesOK b t = true) {f : FaultD} (hf : f ∈ possFrom b.2.1 0 b.2.2) : (Zj b [f] t).2 = !decide (seenIx b [f] t < 0) := by
 obtain ⟨hb, _, _⟩ := Z63 hok
 unfold Zj faultsB
 rw [hok, ZrK hb hf]
 by_cases h : seenIx b [f] t < 0
 ·simp [h]
 ·simp [h]
theorem ZfY (b : BoardD) (t : List Int) (hok : entriesOK b t = true) (hl1 : b.2.2.length ≤ 1000) (hl2 : t.length ≤ 1000) : ∀ (r pre H : List FaultD), (∀ f ∈ r, f ∈ possFrom b.2.1 0 b.2.2) → (pre ++ r).length ≤ 1000000 → H.length ≤ pre.length →
    Ev (fun k => Z1H k b.1 b.2.1 b.2.2 t (H ++ r.filter fun f => decide (seenIx b [f] t < 0)) (pre ++ r) (H.length : Int) ((pre ++ r).length : Int) (pre.length : Int)) (LR.go (H ++ r.filter fun f => decide (seenIx b [f] t < 0), ((H ++ r.filter fun f => decide (seenIx b [f] t < 0)).length : Int)))
  | [], pre, H, hm, hl, hH => by
    refine Ev.succ ?_
    simp only [Z1H, List.filter_nil, List.append_nil, Int.lt_irrefl, decide_false, Bool.false_eq_true, if_false]
    exact Ev.some _
  | f :: r, pre, H, hm, hl, hH => by
    have hf := hm f (List.mem_cons_self ..)
    have e := ZmM b [f] t (by omega) (by simp) (by omega)
    have ev := ZCo hok hf
    have hm2 : ∀ g ∈ r, g ∈ possFrom b.2.1 0 b.2.2 := fun g hg => hm g (List.mem_cons_of_mem _ hg)
    have hpl : pre.length + (r.length + 1) ≤ 1000000 := by simpa using hl
    refine Ev.succ ?_
    simp only [Z1H, Zy, Z16, decide_true, if_true, Int.toNat_natCast, Zk]
    rw [Zz pre f r (by omega)]
    refine Ev.bind e ?_
    rw [ev]
    by_cases hs : seenIx b [f] t < 0
    · have ih := ZfY b t hok hl1 hl2 r (pre ++ [f]) (H ++ [f]) hm2 (by simpa using hl) (by simp; omega)
      rw [← Z7] at ih
      have ef : (f :: r).filter (fun f => decide (seenIx b [f] t < 0)) = f :: r.filter (fun f => decide (seenIx b [f] t < 0)) := by
        rw [List.filter_cons, if_pos (by simpa using hs)]
      have w : wrap64 ((H.length : Int) + 1) = ((H ++ [f]).length : Int) := by rw [w64 (by omega) (by omega)]; simp
      rw [ef]
      simp only [Zy, Z16, decide_true, if_true, Int.toNat_natCast, Zk, ZwE, hs, Bool.not_true, w, show (false == true) = false from rfl, Bool.false_eq_true, if_false]
      rw [List.append_assoc, List.singleton_append] at ih
      exact ih
    · have ih := ZfY b t hok hl1 hl2 r (pre ++ [f]) H hm2 (by simpa using hl) (by simp; omega)
      rw [← Z7] at ih
      have ef : (f :: r).filter (fun f => decide (seenIx b [f] t < 0)) = r.filter (fun f => decide (seenIx b [f] t < 0)) := by
        rw [List.filter_cons, if_neg (by simpa using hs)]
      rw [ef]
      simp only [hs, decide_false, Bool.not_false]
      refine Ev.ite (fun h1 => ?_) (fun _ => ?_)
      · simp only [decide_eq_true_eq] at h1
        have hi : H.length < (H ++ r.filter fun f => decide (seenIx b [f] t < 0)).length := by omega
        simp only [Z16, h1, if_true, Int.toNat_natCast, ZwE]
        have hne : ¬ List.getD (H ++ r.filter fun f => decide (seenIx b [f] t < 0)) H.length (0, 0, 0) = f := by
          intro he
          have hmem : List.getD (H ++ r.filter fun f => decide (seenIx b [f] t < 0)) H.length (0, 0, 0) ∈ r.filter fun f => decide (seenIx b [f] t < 0) := by
            rw [List.getD, List.getElem?_append_right (Nat.le_refl _)]
            have hj : H.length - H.length < (r.filter fun f => decide (seenIx b [f] t < 0)).length := by rw [List.length_append] at hi; omega
            rw [List.getElem?_eq_getElem hj]
            exact List.getElem_mem hj
          rw [he] at hmem
          have := (List.mem_filter.1 hmem).2
          simp only [decide_eq_true_eq] at this
          exact hs this
        simp only [hne, decide_false, show (true == false) = false from rfl, Bool.false_eq_true, if_false]
        exact ih
      · simp only [show (true == false) = false from rfl, Bool.false_eq_true, if_false]
        exact ih
theorem ZvP (b : BoardD) (t : List Int) (hl1 : b.2.2.length ≤ 1000) (hl2 : t.length ≤ 1000) : Ev (fun k => Z46 k b.1 b.2.1 b.2.2 t (ZD b t).1 (ZD b t).2 (Z1r b t).1 (Z1r b t).2.1) true := by
 simp only [Z46]
 have ei := Zgh b (by omega)
 have es := Zgp b (by omega)
 unfold ZD Z1r
 cases hok : entriesOK b t with
 | false => simp only [Bool.false_eq_true, if_false, Bool.not_false, if_true]; exact Ev.some _
 | true =>
  obtain ⟨hb, _, _⟩ := Z63 hok
  rw [hb] at ei es
  simp only [if_true] at ei es
  have hcount := Zcy hb
  simp only [if_true, Bool.not_true, Bool.false_eq_true, if_false]
  refine Ev.bind ei (Ev.bind es ?_)
  simp only [Bool.not_true, Bool.false_eq_true, if_false]
  refine Ev.bind (Ziq _ _ (by omega)) ?_
  simp only [decide_true, Bool.not_true, Bool.false_eq_true, if_false, ne_eq, not_true_eq_false, decide_false]
  have h2 := ZfY b t hok hl1 hl2 (possFrom b.2.1 0 b.2.2) [] [] (fun f hf => hf) (by simp; omega) (Nat.le_refl _)
  simp only [List.nil_append, List.length_nil, Int.natCast_zero] at h2
  refine Ev.bind h2 (Ev.go ?_)
  refine Ev.bind (a := true) ?_ (Ev.some _)
  simp only [Z9X, decide_true]
  exact Ev.some _
theorem ZwB (b : BoardD) (t : List Int) (hl1 : b.2.2.length ≤ 1000) (hl2 : t.length ≤ 1000) (c : BoardD) : Ev (fun k => Z10 k b.1 b.2.1 b.2.2 t (ZD b t).1 c.1 c.2.1 c.2.2 (if boardOK c then (possFrom c.2.1 0 c.2.2, true) else ([], false)).1 (ZD b t).2 (Z1r b t).1 (Z1r b t).2.1 (if boardOK c then (possFrom c.2.1 0 c.2.2, true) else ([], false)).2) true := by
 have h43 := ZvP b t hl1 hl2
 simp only [Z10]
 cases hb : boardOK c with
 | false => simp only [Bool.false_eq_true, if_false]; exact Ev.bind h43 (Ev.some _)
 | true =>
  have hcount := Zcy hb
  simp only [if_true]
  have h0 := ZlD b.1 b.2.1 b.2.2 t (ZD b t).1 c hb (ZD b t).2 (Z1r b t).1 (Z1r b t).2.1 (possFrom c.2.1 0 c.2.2) [] (-1) 0 (fun f hf => hf) (Zyv (Zt hb).2.2.1 c.2.2 0) (fun f hf => by
   obtain ⟨h1, h2, h3, h4, _⟩ := Zs9 hb hf
   have := Z48 hb h1 h2 h3 h4
   left
   unfold placeOf
   omega) (by simp; omega)
  simp only [List.nil_append, List.length_nil, Int.natCast_zero] at h0
  exact Ev.bind h0 (Ev.go (Ev.bind h43 (Ev.some _)))
theorem Zyt : ∀ (i : Nat) (r s : List FallD) (n : Nat), s.length = r.length → diffIx i r s = some n → i ≤ n ∧ n - i < r.length ∧ List.getD r (n - i) (0, 0, 0) ≠ List.getD s (n - i) (0, 0, 0) ∧ r.take (n - i) = s.take (n - i)
 | i, [], s, n, h, hd => by
  obtain rfl : s = [] := List.eq_nil_of_length_eq_zero h
  simp [diffIx] at hd
 | i, x :: r, [], n, h, hd => by simp at h
 | i, x :: r, y :: s, n, h, hd => by
  by_cases hxy : x = y
  ·rw [diffIx, if_pos hxy] at hd
   obtain ⟨h1, h2, h3, h4⟩ := Zyt (i + 1) r s n (by simpa using h) hd
   have e : n - i = (n - (i + 1)) + 1 := by omega
   rw [e]
   refine ⟨by omega, by simp; omega, ?_, ?_⟩
   ·rw [List.getD_cons_succ, List.getD_cons_succ]; exact h3
   ·rw [List.take_succ_cons, List.take_succ_cons, hxy, h4]
  ·rw [diffIx, if_neg hxy] at hd
   injection hd with hd
   subst hd
   simp [hxy]
theorem ZBl (b : BoardD) (t : List Int) (h0 : b.2.2.length ≤ 9223372036854775806) (h1 : t.length ≤ 9223372036854775806) (hok : entriesOK b t = true) : Ev (fun k => Z8S k b t) (endsOf b [] t, (b.1, b.2.1, leftOf b [] t), true) := by
 obtain ⟨hb, ht, hc⟩ := Z63 hok
 refine Ev.succ ?_
 simp only [Z8S]
 refine Ev.bind (a := entriesOK b t) (Z95 b t h0 h1) ?_
 simp only [hok, Bool.not_true, Bool.false_eq_true, if_false]
 exact Ev.bind (ZvX b hb t (by omega) hc) (Ev.some _)
theorem Zz0 (p0 p1 : List Int) (h0 : p0.length ≤ 9223372036854775807) (b0 : ∀ x ∈ p0, 0 ≤ x ∧ x ≤ 255) (h1 : p1.length ≤ 9223372036854775807) (b1 : ∀ x ∈ p1, 0 ≤ x ∧ x ≤ 255) : Ev (fun k => Zdc k p0 p1) true := by
 have c0 : Cur p0 0 6000 := ⟨b0, h0, by omega, by omega⟩
 have c1 : Cur p1 0 6000 := ⟨b1, h1, by omega, by omega⟩
 refine Ev.succ ?_
 simp only [Zdc]
 refine Ev.ite (fun _ => Ev.some _) (fun _ => ?_)
 obtain ⟨⟨b, t⟩, e0, g1, g2⟩ := Zvy p0 c0
 obtain ⟨⟨a, l, s⟩, e1, g3, g4, g5⟩ := ZBG p1 c1
 obtain ⟨x, e2, _⟩ := ZBV p1 c1
 obtain ⟨u, e3, hu⟩ := ZBs p1 c1
 obtain ⟨c, e4, g6⟩ := Zs6 p1 c1
 simp only at g1 g2 g3 g4 g5 g6
 have eh : Ev (fun k => Z4o k b t) (ZD b t) := Zi6 b t (by omega) (by omega)
 have eru : Ev (fun k => Z6S k u) (readP u) := by rw [ZHS u]; exact Zmd u
 refine Ev.bind e0 (Ev.bind eh (Ev.bind (Zve b t (by omega) (by omega)) (Ev.bind (ZzX b t (by omega) (by omega)) (Ev.bind (Zzg b t (by omega) (by omega)) (Ev.bind e1 (Ev.bind (a := true) ?_ (Ev.some _)))))))
 simp only [ZaQ]
 refine Ev.bind (ZmM a l s (by omega) (by omega) (by omega)) (Ev.bind (ZzF a l s (by omega) (by omega) (by omega)) (Ev.bind e2 (Ev.bind (Zyy x) (Ev.bind (ZGT x) (Ev.bind e3 (Ev.bind eru (Ev.bind (ZAf u (by omega)) (Ev.bind e4 (Ev.bind (Zgh c (by omega)) (Ev.bind (a := true) ?_ (Ev.some _)))))))))))
 simp only [Z9R]
 refine Ev.bind (Zgp c (by omega)) ?_
 have hh := ZwP b t
 simp only [beq_self_eq_true, Bool.not_true, Bool.false_eq_true, if_false]
 refine Ev.bind (Ziq _ _ (by omega)) ?_
 simp only [decide_true, Bool.not_true, Bool.false_eq_true, if_false, ne_eq, not_true_eq_false, decide_false, Bool.and_self]
 have hpl : (if boardOK c then (possFrom c.2.1 0 c.2.2, true) else ([], false)).1.length ≤ 1000000 := by
  cases hb : boardOK c with
  | false => simp
  | true => have := Zcy hb; simp only [if_true]; omega
 refine Ev.bind (Ziq _ _ hpl) ?_
 have same : (Z1r b t).2.2 = (ZD b t).2 := by unfold Z1r ZD; split <;> rfl
 simp only [decide_true, same, beq_self_eq_true, Bool.not_true, Bool.false_eq_true, if_false]
 refine Ev.bind (a := true) ?_ (Ev.some _)
 have h31 := ZwB b t (by omega) (by omega) c
 have rest : Ev (fun k => if (Zj a l s).2 = true then Option.bind (Z8S k (a.1, a.2.1, a.2.2) s) fun z20 => Option.bind (Z52 k (a.1, a.2.1, a.2.2) l s) fun z21 => if (!z20.2.2) = true then some false else if (!z21.2.2) = true then some false else if 0 ≤ (Zj a l s).1 then if (Zj a l s).1 < (z20.1.length : Int) then if 0 ≤ (Zj a l s).1 then if (Zj a l s).1 < (z21.1.length : Int) then if (decide ((List.getD z20.1 (Zj a l s).1.toNat (0, 0, 0)).1 = (List.getD z21.1 (Zj a l s).1.toNat (0, 0, 0)).1) && (decide ((List.getD z20.1 (Zj a l s).1.toNat (0, 0, 0)).2.1 = (List.getD z21.1 (Zj a l s).1.toNat (0, 0, 0)).2.1) && (decide ((List.getD z20.1 (Zj a l s).1.toNat (0, 0, 0)).2.2 = (List.getD z21.1 (Zj a l s).1.toNat (0, 0, 0)).2.2) && true))) = true then some false else if 0 ≤ (Zj a l s).1 then if (Zj a l s).1 ≤ (z20.1.length : Int) then if 0 ≤ (Zj a l s).1 then if (Zj a l s).1 ≤ (z21.1.length : Int) then Option.bind (Za3 k (List.take ((Zj a l s).1.toNat - Int.toNat 0) (List.drop (Int.toNat 0) z20.1)) (List.take ((Zj a l s).1.toNat - Int.toNat 0) (List.drop (Int.toNat 0) z21.1))) fun z22 => if (!z22) = true then some false else Option.bind (Z10 k b.1 b.2.1 b.2.2 t (ZD b t).1 c.1 c.2.1 c.2.2 (if boardOK c then (possFrom c.2.1 0 c.2.2, true) else ([], false)).1 (ZD b t).2 (Z1r b t).1 (Z1r b t).2.1 (if boardOK c then (possFrom c.2.1 0 c.2.2, true) else ([], false)).2) fun z33 => some z33 else none else none else none else none else none else none else none else none else Option.bind (Z10 k b.1 b.2.1 b.2.2 t (ZD b t).1 c.1 c.2.1 c.2.2 (if boardOK c then (possFrom c.2.1 0 c.2.2, true) else ([], false)).1 (ZD b t).2 (Z1r b t).1 (Z1r b t).2.1 (if boardOK c then (possFrom c.2.1 0 c.2.2, true) else ([], false)).2) fun z34 => some z34) true := by
  by_cases hv : (Zj a l s).2 = true
  ·simp only [hv, if_true]
   have hg : entriesOK a s = true ∧ faultsB a l = true ∧ ¬ seenIx a l s < 0 := by
    unfold Zj at hv
    split at hv
    ·rename_i h7
     rw [Bool.and_eq_true] at h7
     split at hv
     ·cases hv
     ·rename_i h8
      exact ⟨h7.1, h7.2, h8⟩
    ·cases hv
   obtain ⟨k1, k2, k3⟩ := hg
   have eF : (Zj a l s).1 = seenIx a l s := by unfold Zj; rw [k1, k2]; simp [k3]
   have eFF := ZvV a l s (by omega) (by omega) (by omega)
   unfold Zjy at eFF
   rw [k1, k2] at eFF
   simp only [Bool.and_self, if_true] at eFF
   refine Ev.bind (ZBl a s (by omega) (by omega) k1) (Ev.bind eFF ?_)
   have l0 := Zeu a [] s
   have l1 := Zeu a l s
   obtain ⟨n, hn⟩ : ∃ n : Nat, diffIx 0 (endsOf a [] s) (endsOf a l s) = some n := by
    cases hd : diffIx 0 (endsOf a [] s) (endsOf a l s) with
    | none => exact (k3 ((ZIt _).2 hd)).elim
    | some n => exact ⟨n, rfl⟩
   obtain ⟨_, q2, q3, q4⟩ := Zyt 0 _ _ n (by omega) hn
   rw [Nat.sub_zero] at q2 q3 q4
   have eI : seenIx a l s = (n : Int) := by unfold seenIx; rw [hn]; rfl
   rw [eF, eI]
   have a1 : (0 : Int) ≤ (n : Int) := Int.natCast_nonneg n
   have a2 : (n : Int) < ((endsOf a [] s).length : Int) := by omega
   have a3 : (n : Int) < ((endsOf a l s).length : Int) := by omega
   have a4 : (n : Int) ≤ ((endsOf a [] s).length : Int) := by omega
   have a5 : (n : Int) ≤ ((endsOf a l s).length : Int) := by omega
   simp only [Bool.not_true, Bool.false_eq_true, if_false, a1, a2, a3, a4, a5, if_true, Int.toNat_natCast, ZwE, q3, decide_false, Int.toNat_zero, Nat.sub_zero, List.drop_zero]
   refine Ev.bind (ZEs _ _ (by rw [List.length_take]; omega)) ?_
   simp only [q4, decide_true, Bool.not_true, Bool.false_eq_true, if_false]
   exact Ev.bind h31 (Ev.some _)
  ·simp only [hv, if_false]
   exact Ev.bind h31 (Ev.some _)
 simp only [Za2]
 unfold nameOf
 by_cases hvx : validF x
 ·have er := Zmd (nameF x)
  rw [(ZBN x hvx).2] at er
  simp only [if_pos hvx, if_true]
  refine Ev.bind er ?_
  simp only [Bool.not_true, Bool.false_eq_true, if_false, decide_true, Bool.and_self]
  exact rest
 ·simp only [if_neg hvx, Bool.false_eq_true, if_false]
  exact rest
end Go.Proofs.YtglkedenkcpcbaaGreatDoor.Vs
