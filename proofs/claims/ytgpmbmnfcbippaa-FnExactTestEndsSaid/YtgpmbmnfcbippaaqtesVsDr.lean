/- Boards with faults: how cells turn. -/
import Derived.Test.YtgpmbmnfcbippaaqtesVsGr
import Derived.Test.YtgpmbmnfcbippaaqtesVsFt
set_option linter.unusedVariables false
set_option linter.unusedSimpArgs false
namespace Go.Proofs.Ytgpmbmnfcbippaa.Vs
open Go.RowKit
/-! ### Faults by their places -/
def placeOf (b : BoardD) (f : FaultD) : Int := f.2.1 * b.2.1 + f.2.2
def kindsOf (b : BoardD) (l : List FaultD) (K : List Int) : List Int := l.foldl (fun K f => List.set K (placeOf b f).toNat f.1) K
def faAtD (r c d : Int) : List FaultD → Int
  | [] => d
  | f :: l => if f.2.1 = r ∧ f.2.2 = c then f.1 else faAtD r c d l
theorem faults_cons {b : BoardD} {last : Int} {f : FaultD} {l : List FaultD} (h : faultsOK b last (f :: l) = true) : (0 ≤ f.2.1 ∧ f.2.1 < b.1 ∧ 0 ≤ f.2.2 ∧ f.2.2 < b.2.1 ∧ last < placeOf b f) ∧ faultsOK b (placeOf b f) l = true := by
  simp only [faultsOK, Bool.and_eq_true, decide_eq_true_eq] at h
  exact ⟨h.1.1, h.2⟩
theorem faults_on {b : BoardD} : ∀ {l : List FaultD} {last : Int}, faultsOK b last l = true → ∀ f ∈ l, 0 ≤ f.2.1 ∧ f.2.1 < b.1 ∧ 0 ≤ f.2.2 ∧ f.2.2 < b.2.1
  | [], _, _, f, hf => by cases hf
  | g :: l, last, h, f, hf => by
    obtain ⟨h1, h2⟩ := faults_cons h
    rcases List.mem_cons.1 hf with rfl | hf
    · exact ⟨h1.1, h1.2.1, h1.2.2.1, h1.2.2.2.1⟩
    · exact faults_on h2 f hf
theorem place_inj {C r c r' c' : Int} (h1 : 0 ≤ c) (h2 : c < C) (h3 : 0 ≤ c') (h4 : c' < C) (h : r * C + c = r' * C + c') : r = r' ∧ c = c' := by
  have key : ∀ {x y : Int}, x < y → x * C + C ≤ y * C := by
    intro x y hxy
    have := Int.mul_le_mul_of_nonneg_right (show x + 1 ≤ y by omega) (show 0 ≤ C by omega)
    rw [Int.add_mul, Int.one_mul] at this
    exact this
  rcases Int.lt_trichotomy r r' with hr | hr | hr
  · have := key hr; omega
  · subst hr; omega
  · have := key hr; omega
theorem faAtD_later {b : BoardD} {r c : Int} (d : Int) : ∀ {l : List FaultD} {last : Int}, faultsOK b last l = true → r * b.2.1 + c ≤ last → faAtD r c d l = d
  | [], _, _, _ => rfl
  | f :: l, last, h, hp => by
    obtain ⟨h1, h2⟩ := faults_cons h
    unfold placeOf at h1 h2
    simp only [faAtD]
    rw [if_neg (by rintro ⟨rfl, rfl⟩; omega)]
    exact faAtD_later d h2 (by omega)
theorem kindsOf_len (b : BoardD) : ∀ (l : List FaultD) (K : List Int), (kindsOf b l K).length = K.length
  | [], _ => rfl
  | f :: l, K => by
    show (kindsOf b l (List.set K (placeOf b f).toNat f.1)).length = _
    rw [kindsOf_len b l, List.length_set]
theorem getD_set_if {α : Type} (l : List α) (i j : Nat) (x d : α) (hi : i < l.length) : List.getD (List.set l i x) j d = if i = j then x else List.getD l j d := by
  simp only [List.getD, List.getElem?_set]
  by_cases h : i = j
  · subst h; simp [hi]
  · simp [h]
theorem kindsOf_at {b : BoardD} (hb : boardOK b = true) {r c : Int} (h1 : 0 ≤ r) (h2 : r < b.1) (h3 : 0 ≤ c) (h4 : c < b.2.1) : ∀ {l : List FaultD} {last : Int} {K : List Int}, faultsOK b last l = true → K.length = b.2.2.length → List.getD (kindsOf b l K) (r * b.2.1 + c).toNat 0 = faAtD r c (List.getD K (r * b.2.1 + c).toNat 0) l
  | [], _, _, _, _ => rfl
  | f :: l, last, K, h, hK => by
    obtain ⟨g1, g2⟩ := faults_cons h
    have hp := place_ok hb h1 h2 h3 h4
    have hf := place_ok hb g1.1 g1.2.1 g1.2.2.1 g1.2.2.2.1
    show List.getD (kindsOf b l (List.set K (placeOf b f).toNat f.1)) _ 0 = _
    rw [kindsOf_at hb h1 h2 h3 h4 g2 (by rw [List.length_set]; exact hK)]
    rw [getD_set_if _ _ _ _ _ (by unfold placeOf; omega)]
    simp only [faAtD]
    by_cases hm : f.2.1 = r ∧ f.2.2 = c
    · rw [if_pos hm, if_pos (by unfold placeOf; rw [hm.1, hm.2])]
      exact faAtD_later _ g2 (by unfold placeOf; rw [hm.1, hm.2]; omega)
    · rw [if_neg hm, if_neg (fun he => hm (place_inj g1.2.2.1 g1.2.2.2.1 h3 h4 (by unfold placeOf at he; omega)))]
theorem e_impl_faultsByCell_0 (b : BoardD) (hb : boardOK b = true) : ∀ (r pre : List FaultD) (K : List Int), (∀ f ∈ r, 0 ≤ f.2.1 ∧ f.2.1 < b.1 ∧ 0 ≤ f.2.2 ∧ f.2.2 < b.2.1) → (pre ++ r).length ≤ 9223372036854775806 → K.length = b.2.2.length → Ev (fun k => f_impl_faultsByCell_0 k b.1 b.2.1 b.2.2 K (pre ++ r) ((pre ++ r).length : Int) (pre.length : Int)) (kindsOf b r K)
  | [], pre, K, hr, hl, hK => by
    refine Ev.succ ?_
    simp only [f_impl_faultsByCell_0, nlt_end, decide_false, Bool.false_eq_true, if_false]
    exact Ev.some _
  | f :: r, pre, K, hr, hl, hK => by
    obtain ⟨k1, k2, k3, k4⟩ := hr f (List.mem_cons_self ..)
    have hp := place_ok hb k1 k2 k3 k4
    have hpK : f.2.1 * b.2.1 + f.2.2 < (K.length : Int) := by omega
    have ih := e_impl_faultsByCell_0 b hb r (pre ++ [f]) (List.set K (placeOf b f).toNat f.1) (fun g hg => hr g (List.mem_cons_of_mem _ hg)) (by simpa using hl) (by rw [List.length_set]; exact hK)
    refine Ev.succ ?_
    simp only [f_impl_faultsByCell_0, lt_mid, ge_mid, decide_true, if_true, Int.toNat_natCast, getD_mid]
    rw [next_mid pre f r (by omega), w64 (n := f.2.1 * b.2.1) (by omega) (by omega), w64 (n := f.2.1 * b.2.1 + f.2.2) (by omega) (by omega)]
    simp only [hp.1, hpK, if_true]
    rw [← shift_mid] at ih
    exact ih
def kindsB (b : BoardD) (l : List FaultD) : List Int := kindsOf b l (List.replicate b.2.2.length 0)
theorem kindsB_len (b : BoardD) (l : List FaultD) : (kindsB b l).length = b.2.2.length := by unfold kindsB; rw [kindsOf_len]; simp
theorem e_impl_faultsByCell (b : BoardD) (hb : boardOK b = true) (l : List FaultD) (hl : faultsOK b (-1) l = true) (hlen : l.length ≤ 9223372036854775806) : Ev (fun k => f_impl_faultsByCell k b l) (kindsB b l) := by
  obtain ⟨g1, g2, g3, g4, g5, g6⟩ := board_ok hb
  have hp := prod_small g1 g2 g3 g4
  have hm : b.2.2.length * 8 ≤ 281474976710656 := by omega
  refine Ev.succ ?_
  simp only [f_impl_faultsByCell, Int.toNat_natCast, hm, if_true]
  exact Ev.bind (e_impl_faultsByCell_0 b hb l [] _ (faults_on hl) (by simpa using hlen) (by simp)) (Ev.some _)
theorem e_spec_faAt_0 (r c : Int) : ∀ (l pre : List FaultD), (pre ++ l).length ≤ 9223372036854775806 → ∀ {z : LR Unit Int}, (z = LR.go () ∧ faAtD r c 0 l = 0 ∨ z = LR.ret (faAtD r c 0 l)) → (∀ f ∈ l, ¬ (f.2.1 = r ∧ f.2.2 = c)) ∧ z = LR.go () ∨ (∃ f ∈ l, f.2.1 = r ∧ f.2.2 = c) ∧ z = LR.ret (faAtD r c 0 l) → Ev (fun k => f_spec_faAt_0 k r c (pre ++ l) ((pre ++ l).length : Int) (pre.length : Int)) z
  | [], pre, hl, z, _, hz => by
    refine Ev.succ ?_
    simp only [f_spec_faAt_0, nlt_end, decide_false, Bool.false_eq_true, if_false]
    rcases hz with ⟨_, rfl⟩ | ⟨⟨f, hf, _⟩, _⟩
    · exact Ev.some _
    · cases hf
  | f :: l, pre, hl, z, hz0, hz => by
    have hn := next_mid pre f l (by omega)
    have hl' : ((pre ++ [f]) ++ l).length ≤ 9223372036854775806 := by simpa using hl
    refine Ev.succ ?_
    simp only [f_spec_faAt_0, lt_mid, ge_mid, decide_true, if_true, Int.toNat_natCast, getD_mid, hn]
    by_cases hm : f.2.1 = r ∧ f.2.2 = c
    · simp only [hm.1, hm.2, decide_true, if_true]
      rcases hz with ⟨h, _⟩ | ⟨_, rfl⟩
      · exact absurd hm (h f (List.mem_cons_self ..))
      · simp only [faAtD, hm, and_self, if_true]; exact Ev.some _
    · have hfa : faAtD r c 0 (f :: l) = faAtD r c 0 l := by simp only [faAtD]; rw [if_neg hm]
      have ih : Ev (fun k => f_spec_faAt_0 k r c (pre ++ f :: l) ((pre ++ f :: l).length : Int) ((pre ++ [f]).length : Int)) z := by
        rw [shift_mid]
        refine e_spec_faAt_0 r c l (pre ++ [f]) hl' (by rw [← hfa]; exact hz0) ?_
        rcases hz with ⟨h, h2⟩ | ⟨⟨g, hg, hgm⟩, h2⟩
        · exact .inl ⟨fun g hg => h g (List.mem_cons_of_mem _ hg), h2⟩
        · rcases List.mem_cons.1 hg with rfl | hg
          · exact absurd hgm hm
          · exact .inr ⟨⟨g, hg, hgm⟩, by rw [← hfa]; exact h2⟩
      refine Ev.ite (fun g1 => Ev.ite (fun g2 => ?_) (fun _ => ih)) (fun _ => ih)
      simp only [decide_eq_true_eq] at g1 g2
      exact absurd ⟨g1, g2⟩ hm
theorem faAtD_none {r c d : Int} : ∀ {l : List FaultD}, (∀ f ∈ l, ¬ (f.2.1 = r ∧ f.2.2 = c)) → faAtD r c d l = d
  | [], _ => rfl
  | f :: l, h => by
    simp only [faAtD]
    rw [if_neg (h f (List.mem_cons_self ..))]
    exact faAtD_none (fun g hg => h g (List.mem_cons_of_mem _ hg))
theorem e_spec_faAt (l : List FaultD) (r c : Int) (hl : l.length ≤ 9223372036854775806) : Ev (fun k => f_spec_faAt k l r c) (faAtD r c 0 l) := by
  refine Ev.succ ?_
  simp only [f_spec_faAt]
  by_cases h : ∃ f ∈ l, f.2.1 = r ∧ f.2.2 = c
  · exact Ev.bind (e_spec_faAt_0 r c l [] (by simpa using hl) (z := LR.ret (faAtD r c 0 l)) (.inr rfl) (.inr ⟨h, rfl⟩)) (Ev.ret (Ev.some _))
  · have h' : ∀ f ∈ l, ¬ (f.2.1 = r ∧ f.2.2 = c) := fun f hf hm => h ⟨f, hf, hm⟩
    have h0 := faAtD_none (d := 0) h'
    refine Ev.bind (e_spec_faAt_0 r c l [] (by simpa using hl) (z := LR.go ()) (.inl ⟨rfl, h0⟩) (.inl ⟨h', rfl⟩)) ?_
    rw [h0]
    exact Ev.go (Ev.some _)
/-! ### Turning -/
def flip1 (x : CellD) : CellD := (x.1, 1 - x.2)
def turnGo (G K : List Int) (at' : Nat) (ka : Int) : Nat → List CellD → List CellD
  | _, [] => []
  | i, x :: r => (if (i = at' ∨ (ka = 6 ∧ x.1 = 6 ∧ List.getD G i 0 = List.getD G at' 0)) ∧ List.getD K i 0 ≠ 1 then flip1 x else x) :: turnGo G K at' ka (i + 1) r
def passGo (G : List Int) (ga : Int) : Nat → List CellD → List CellD
  | _, [] => []
  | i, x :: r => (if x.1 = 6 ∧ List.getD G i 0 = ga then flip1 x else x) :: passGo G ga (i + 1) r
theorem cell_two {x : CellD} (h : cellOK x = true) : 0 ≤ x.1 ∧ x.1 ≤ 7 ∧ (x.2 = 0 ∨ x.2 = 1) := by
  unfold cellOK at h
  simp only [decide_eq_true_eq] at h
  omega
theorem fst_same {p r : List CellD} {x y d : CellD} (h : y.1 = x.1) (n : Nat) : (List.getD (p ++ y :: r) n d).1 = (List.getD (p ++ x :: r) n d).1 := by
  simp only [List.getD]
  rcases Nat.lt_trichotomy n p.length with hn | hn | hn
  · rw [List.getElem?_append_left hn, List.getElem?_append_left hn]
  · subst hn; simp [h]
  · rw [List.getElem?_append_right (by omega), List.getElem?_append_right (by omega)]
    have : ∃ m, n - p.length = m + 1 := ⟨n - p.length - 1, by omega⟩
    obtain ⟨m, hm⟩ := this
    rw [hm]
    rfl
theorem e_impl_turnFaulty_0 (R C : Int) (G K : List Int) (at' : Nat) (ka : Int) : ∀ (r pre : List CellD), (pre ++ r).length ≤ 1000 → at' < (pre ++ r).length → G.length = (pre ++ r).length → K.length = (pre ++ r).length → (List.getD (pre ++ r) at' (0, 0)).1 = ka → (∀ x ∈ r, cellOK x = true) →
    Ev (fun k => f_impl_turnFaulty_0 k (pre ++ r) R C G K (at' : Int) ((pre ++ r).length : Int) (pre.length : Int)) (pre ++ turnGo G K at' ka pre.length r)
  | [], pre, hl, ha, hG, hK, hka, hx => by
    refine Ev.succ ?_
    simp only [f_impl_turnFaulty_0, nlt_end, decide_false, Bool.false_eq_true, if_false, turnGo]
    exact Ev.some _
  | x :: r, pre, hl, ha, hG, hK, hka, hx => by
    have hn := next_mid pre x r (by omega)
    have hlt := lt_mid pre x r
    have hGl : (pre.length : Int) < (G.length : Int) := by rw [hG]; exact hlt
    have hKl : (pre.length : Int) < (K.length : Int) := by rw [hK]; exact hlt
    have ha0 : (0 : Int) ≤ (at' : Int) := Int.natCast_nonneg _
    have ha1 : (at' : Int) < ((pre ++ x :: r).length : Int) := by omega
    have haG : (at' : Int) < (G.length : Int) := by rw [hG]; exact ha1
    obtain ⟨c1, c2, c3⟩ := cell_two (hx x (List.mem_cons_self ..))
    have hr' : ∀ y ∈ r, cellOK y = true := fun y hy => hx y (List.mem_cons_of_mem _ hy)
    have next : ∀ y : CellD, y.1 = x.1 → Ev (fun k => f_impl_turnFaulty_0 k (pre ++ y :: r) R C G K (at' : Int) ((pre ++ x :: r).length : Int) ((pre ++ [x]).length : Int)) (pre ++ y :: turnGo G K at' ka (pre.length + 1) r) := by
      intro y hy
      have ih := e_impl_turnFaulty_0 R C G K at' ka r (pre ++ [y]) (by simpa using hl) (by simpa using ha) (by simpa using hG) (by simpa using hK) (by rw [← shift_mid, fst_same hy]; exact hka) hr'
      have e1 : ((pre ++ [y] ++ r).length : Int) = ((pre ++ x :: r).length : Int) := by simp
      have e2 : ((pre ++ [y]).length : Int) = ((pre ++ [x]).length : Int) := by simp
      have e3 : (pre ++ [y]).length = pre.length + 1 := by simp
      rw [e1, e2, e3, ← shift_mid, ← shift_mid] at ih
      exact ih
    refine Ev.succ ?_
    simp only [f_impl_turnFaulty_0, lt_mid, ge_mid, decide_true, if_true, Int.toNat_natCast, getD_mid, set_mid, hn, hGl, hKl, ha0, ha1, haG, hka]
    rw [w64 (n := 1 - x.2) (by omega) (by omega)]
    simp only [turnGo]
    by_cases hia : pre.length = at'
    · have hia' : (pre.length : Int) = (at' : Int) := by omega
      simp only [hia', decide_true, if_true]
      rw [← hia]
      refine Ev.ite (fun h => ?_) (fun h => ?_)
      · simp only [ne_eq, decide_eq_true_eq] at h
        rw [if_pos ⟨.inl rfl, h⟩]
        have := next (flip1 x) rfl
        rw [← hia] at this
        exact this
      · simp only [ne_eq, decide_eq_true_eq, Decidable.not_not] at h
        rw [if_neg (fun hc => hc.2 h)]
        have := next x rfl
        rw [← hia] at this
        exact this
    · have hia' : ¬ (pre.length : Int) = (at' : Int) := by omega
      simp only [hia', decide_false, Bool.false_eq_true, if_false]
      have no : ¬ (ka = 6 ∧ x.1 = 6 ∧ List.getD G pre.length 0 = List.getD G at' 0) → Ev (fun k => f_impl_turnFaulty_0 k (pre ++ x :: r) R C G K (at' : Int) ((pre ++ x :: r).length : Int) ((pre ++ [x]).length : Int)) (pre ++ (if (pre.length = at' ∨ (ka = 6 ∧ x.1 = 6 ∧ List.getD G pre.length 0 = List.getD G at' 0)) ∧ List.getD K pre.length 0 ≠ 1 then flip1 x else x) :: turnGo G K at' ka (pre.length + 1) r) := by
        intro hno
        rw [if_neg (fun hc => hc.1.elim hia hno)]
        exact next x rfl
      refine Ev.ite (fun h1 => ?_) (fun h1 => no (fun hc => h1 (decide_eq_true hc.1)))
      refine Ev.ite (fun h2 => ?_) (fun h2 => no (fun hc => h2 (decide_eq_true hc.2.1)))
      refine Ev.ite (fun h3 => ?_) (fun h3 => no (fun hc => h3 (decide_eq_true hc.2.2)))
      simp only [decide_eq_true_eq] at h1 h2 h3
      refine Ev.ite (fun h => ?_) (fun h => ?_)
      · simp only [ne_eq, decide_eq_true_eq] at h
        rw [if_pos ⟨.inr ⟨h1, h2, h3⟩, h⟩]
        exact next (flip1 x) rfl
      · simp only [ne_eq, decide_eq_true_eq, Decidable.not_not] at h
        rw [if_neg (fun hc => hc.2 h)]
        exact next x rfl
def turnAt (G K : List Int) (at' : Nat) (o : List CellD) : List CellD := turnGo G K at' (List.getD o at' (0, 0)).1 0 o
theorem e_impl_turnFaulty (R C : Int) (o : List CellD) (G K : List Int) (at' : Nat) (hl : o.length ≤ 1000) (ha : at' < o.length) (hG : G.length = o.length) (hK : K.length = o.length) (hx : ∀ x ∈ o, cellOK x = true) : Ev (fun k => f_impl_turnFaulty k (R, C, o) G K (at' : Int)) (turnAt G K at' o) := by
  refine Ev.succ ?_
  simp only [f_impl_turnFaulty]
  exact Ev.bind (e_impl_turnFaulty_0 R C G K at' _ o [] hl ha hG hK rfl hx) (Ev.some _)
theorem e_spec_paTurn (x : CellD) (h : cellOK x = true) : Ev (fun k => f_spec_paTurn k x) (flip1 x) := by
  obtain ⟨c1, c2, c3⟩ := cell_two h
  refine Ev.succ ?_
  simp only [f_spec_paTurn]
  rw [w64 (n := 1 - x.2) (by omega) (by omega)]
  exact Ev.some _
theorem e_spec_flPass_1 (R C : Int) (G : List Int) (at' : Nat) : ∀ (r pre : List CellD), (pre ++ r).length ≤ 1000 → at' < (pre ++ r).length → G.length = (pre ++ r).length → (∀ x ∈ r, cellOK x = true) →
    Ev (fun k => f_spec_flPass_1 k (pre ++ r) R C G (at' : Int) ((pre ++ r).length : Int) (pre.length : Int)) (pre ++ passGo G (List.getD G at' 0) pre.length r)
  | [], pre, hl, ha, hG, hx => by
    refine Ev.succ ?_
    simp only [f_spec_flPass_1, nlt_end, decide_false, Bool.false_eq_true, if_false, passGo]
    exact Ev.some _
  | x :: r, pre, hl, ha, hG, hx => by
    have hn := next_mid pre x r (by omega)
    have hlt := lt_mid pre x r
    have hGl : (pre.length : Int) < (G.length : Int) := by rw [hG]; exact hlt
    have ha0 : (0 : Int) ≤ (at' : Int) := Int.natCast_nonneg _
    have ha1 : (at' : Int) < ((pre ++ x :: r).length : Int) := by omega
    have haG : (at' : Int) < (G.length : Int) := by rw [hG]; exact ha1
    have hr' : ∀ y ∈ r, cellOK y = true := fun y hy => hx y (List.mem_cons_of_mem _ hy)
    have next : ∀ y : CellD, Ev (fun k => f_spec_flPass_1 k (pre ++ y :: r) R C G (at' : Int) ((pre ++ x :: r).length : Int) ((pre ++ [x]).length : Int)) (pre ++ y :: passGo G (List.getD G at' 0) (pre.length + 1) r) := by
      intro y
      have ih := e_spec_flPass_1 R C G at' r (pre ++ [y]) (by simpa using hl) (by simpa using ha) (by simpa using hG) hr'
      have e1 : ((pre ++ [y] ++ r).length : Int) = ((pre ++ x :: r).length : Int) := by simp
      have e2 : ((pre ++ [y]).length : Int) = ((pre ++ [x]).length : Int) := by simp
      have e3 : (pre ++ [y]).length = pre.length + 1 := by simp
      rw [e1, e2, e3, ← shift_mid, ← shift_mid] at ih
      exact ih
    refine Ev.succ ?_
    simp only [f_spec_flPass_1, lt_mid, ge_mid, decide_true, if_true, Int.toNat_natCast, getD_mid, set_mid, hn, hGl, ha0, haG]
    simp only [passGo]
    refine Ev.ite (fun h1 => Ev.ite (fun h2 => ?_) (fun h2 => ?_)) (fun h1 => ?_)
    · simp only [decide_eq_true_eq] at h1 h2
      rw [if_pos ⟨h1, h2⟩]
      exact Ev.bind (e_spec_paTurn x (hx x (List.mem_cons_self ..))) (next (flip1 x))
    · simp only [decide_eq_true_eq] at h2
      rw [if_neg (fun hc => h2 hc.2)]
      exact next x
    · simp only [decide_eq_true_eq] at h1
      rw [if_neg (fun hc => h1 hc.1)]
      exact next x
def passAt (G : List Int) (at' : Nat) (o : List CellD) : List CellD := if (List.getD o at' (0, 0)).1 = 3 then List.set o at' (flip1 (List.getD o at' (0, 0))) else if (List.getD o at' (0, 0)).1 = 6 then passGo G (List.getD G at' 0) 0 o else o
theorem e_spec_flPass (R C : Int) (o : List CellD) (G : List Int) (at' : Nat) (hl : o.length ≤ 1000) (ha : at' < o.length) (hG : G.length = o.length) (hx : ∀ x ∈ o, cellOK x = true) : Ev (fun k => f_spec_flPass k (R, C, o) G (at' : Int)) (passAt G at' o) := by
  have ha0 : (0 : Int) ≤ (at' : Int) := Int.natCast_nonneg _
  have ha1 : (at' : Int) < (o.length : Int) := by omega
  refine Ev.succ ?_
  simp only [f_spec_flPass, ha0, ha1, if_true, Int.toNat_natCast]
  unfold passAt
  refine Ev.ite (fun h1 => ?_) (fun h1 => Ev.ite (fun h2 => ?_) (fun h2 => ?_))
  · simp only [decide_eq_true_eq] at h1
    rw [if_pos h1]
    exact Ev.bind (e_spec_paTurn _ (hx _ (cell_in ha0 ha1 _))) (Ev.some _)
  · simp only [decide_eq_true_eq] at h1 h2
    rw [if_neg h1, if_pos h2]
    exact Ev.bind (e_spec_flPass_1 R C G at' o [] hl ha hG hx) (Ev.some _)
  · simp only [decide_eq_true_eq] at h1 h2
    rw [if_neg h1, if_neg h2]
    exact Ev.some _
theorem turnGo_len (G K : List Int) (at' : Nat) (ka : Int) : ∀ (l : List CellD) (i : Nat), (turnGo G K at' ka i l).length = l.length
  | [], _ => rfl
  | x :: r, i => by simp [turnGo, turnGo_len G K at' ka r]
theorem passGo_len (G : List Int) (ga : Int) : ∀ (l : List CellD) (i : Nat), (passGo G ga i l).length = l.length
  | [], _ => rfl
  | x :: r, i => by simp [passGo, passGo_len G ga r]
theorem turnGo_at (G K : List Int) (at' : Nat) (ka : Int) : ∀ (l : List CellD) (j i : Nat), (turnGo G K at' ka j l)[i]? = l[i]?.map fun x => if (j + i = at' ∨ (ka = 6 ∧ x.1 = 6 ∧ List.getD G (j + i) 0 = List.getD G at' 0)) ∧ List.getD K (j + i) 0 ≠ 1 then flip1 x else x
  | [], _, i => by simp [turnGo]
  | x :: r, j, 0 => by simp [turnGo]
  | x :: r, j, i + 1 => by
    simp only [turnGo, List.getElem?_cons_succ]
    rw [turnGo_at G K at' ka r (j + 1) i, show j + 1 + i = j + (i + 1) by omega]
theorem passGo_at (G : List Int) (ga : Int) : ∀ (l : List CellD) (j i : Nat), (passGo G ga j l)[i]? = l[i]?.map fun x => if x.1 = 6 ∧ List.getD G (j + i) 0 = ga then flip1 x else x
  | [], _, i => by simp [passGo]
  | x :: r, j, 0 => by simp [passGo]
  | x :: r, j, i + 1 => by
    simp only [passGo, List.getElem?_cons_succ]
    rw [passGo_at G ga r (j + 1) i, show j + 1 + i = j + (i + 1) by omega]
/-! ### What is stuck comes back -/
def restore (b : BoardD) (l : List FaultD) (o : List CellD) : List CellD := l.foldl (fun o f => if f.1 = 1 then List.set o (placeOf b f).toNat (List.getD b.2.2 (placeOf b f).toNat (0, 0)) else o) o
theorem restore_len (b : BoardD) : ∀ (l : List FaultD) (o : List CellD), (restore b l o).length = o.length
  | [], _ => rfl
  | f :: l, o => by
    show (restore b l (if f.1 = 1 then _ else _)).length = _
    rw [restore_len b l]
    split <;> simp
theorem restore_at (b : BoardD) : ∀ (l : List FaultD) (o : List CellD) (i : Nat), i < o.length → (restore b l o)[i]? = if ∃ f ∈ l, f.1 = 1 ∧ (placeOf b f).toNat = i then some (List.getD b.2.2 i (0, 0)) else o[i]?
  | [], o, i, hi => by rw [if_neg (by rintro ⟨f, hf, _⟩; cases hf)]; rfl
  | f :: l, o, i, hi => by
    show (restore b l (if f.1 = 1 then _ else _))[i]? = _
    by_cases hf : f.1 = 1
    · rw [if_pos hf, restore_at b l _ i (by rw [List.length_set]; exact hi)]
      by_cases h : ∃ g ∈ l, g.1 = 1 ∧ (placeOf b g).toNat = i
      · rw [if_pos h]
        obtain ⟨g, hg, h2⟩ := h
        rw [if_pos ⟨g, List.mem_cons_of_mem _ hg, h2⟩]
      · rw [if_neg h]
        by_cases hp : (placeOf b f).toNat = i
        · rw [if_pos ⟨f, List.mem_cons_self .., hf, hp⟩, hp, List.getElem?_set_self hi]
        · rw [List.getElem?_set_ne hp, if_neg (by
            rintro ⟨g, hg, h2, h3⟩
            rcases List.mem_cons.1 hg with rfl | hg
            · exact hp h3
            · exact h ⟨g, hg, h2, h3⟩)]
    · rw [if_neg hf, restore_at b l o i hi]
      by_cases h : ∃ g ∈ l, g.1 = 1 ∧ (placeOf b g).toNat = i
      · rw [if_pos h]
        obtain ⟨g, hg, h2⟩ := h
        rw [if_pos ⟨g, List.mem_cons_of_mem _ hg, h2⟩]
      · rw [if_neg h, if_neg (by
            rintro ⟨g, hg, h2, h3⟩
            rcases List.mem_cons.1 hg with rfl | hg
            · exact hf h2
            · exact h ⟨g, hg, h2, h3⟩)]
theorem faAtD_mem {r c : Int} : ∀ {l : List FaultD} {f : FaultD}, f ∈ l → f.2.1 = r → f.2.2 = c → ∀ {b : BoardD} {last : Int}, faultsOK b last l = true → faAtD r c 0 l = f.1
  | g :: l, f, hf, h1, h2, b, last, hok => by
    obtain ⟨k1, k2⟩ := faults_cons hok
    simp only [faAtD]
    rcases List.mem_cons.1 hf with rfl | hf
    · rw [if_pos ⟨h1, h2⟩]
    · have hno : ¬ (g.2.1 = r ∧ g.2.2 = c) := by
        rintro ⟨e1, e2⟩
        have key : ∀ {l : List FaultD} {last : Int}, faultsOK b last l = true → ∀ f ∈ l, last < placeOf b f := by
          intro l
          induction l with
          | nil => intro last _ f hf; cases hf
          | cons g l ih =>
            intro last h f hf
            obtain ⟨a1, a2⟩ := faults_cons h
            rcases List.mem_cons.1 hf with rfl | hf
            · exact a1.2.2.2.2
            · have := ih a2 f hf; omega
        have := key k2 f hf
        unfold placeOf at this
        rw [h1, h2, e1, e2] at this
        omega
      rw [if_neg hno]
      exact faAtD_mem hf h1 h2 k2
theorem faAtD_one {r c : Int} : ∀ {l : List FaultD}, faAtD r c 0 l = 1 → ∃ f ∈ l, f.1 = 1 ∧ f.2.1 = r ∧ f.2.2 = c
  | [], h => by simp [faAtD] at h
  | f :: l, h => by
    simp only [faAtD] at h
    split at h
    · rename_i hm
      exact ⟨f, List.mem_cons_self .., h, hm.1, hm.2⟩
    · obtain ⟨g, hg, h2⟩ := faAtD_one h
      exact ⟨g, List.mem_cons_of_mem _ hg, h2⟩
/-- Where the kinds tell of a stuck cell, there is such a fault. -/
theorem stuck_iff {b : BoardD} (hb : boardOK b = true) {l : List FaultD} (hl : faultsOK b (-1) l = true) {i : Nat} (hi : i < b.2.2.length) : List.getD (kindsB b l) i 0 = 1 ↔ ∃ f ∈ l, f.1 = 1 ∧ (placeOf b f).toNat = i := by
  obtain ⟨q, m, t, hq, hm, k1, k2, k3, k4, k5, k6, k7, k8, k9⟩ := place_parts hb (i := (i : Int)) (by omega) (by omega)
  have hC : 0 < b.2.1 := by omega
  have e0 : Int.tdiv (i : Int) b.2.1 = (i : Int) / b.2.1 := Int.tdiv_eq_ediv_of_nonneg (by omega)
  have e1 : Int.tmod (i : Int) b.2.1 = (i : Int) % b.2.1 := Int.tmod_eq_emod_of_nonneg (by omega)
  have e2 := Int.mul_ediv_add_emod (i : Int) b.2.1
  rw [← e0, ← e1, hq, hm] at e2
  have hi2 : (i : Int) = q * b.2.1 + m := by rw [Int.mul_comm]; omega
  have hi3 : i = (q * b.2.1 + m).toNat := by omega
  have hk : List.getD (kindsB b l) i 0 = faAtD q m 0 l := by
    unfold kindsB
    rw [hi3, kindsOf_at hb k4 k5 k2 k3 hl (by simp)]
    congr 1
    simp only [List.getD, List.getElem?_replicate]
    split <;> rfl
  rw [hk]
  constructor
  · intro h
    obtain ⟨f, hf, h1, h2, h3⟩ := faAtD_one h
    exact ⟨f, hf, h1, by unfold placeOf; rw [h2, h3]; exact hi3.symm⟩
  · rintro ⟨f, hf, h1, h2⟩
    obtain ⟨o1, o2, o3, o4⟩ := faults_on hl f hf
    have hp := place_ok hb o1 o2 o3 o4
    have := place_inj o3 o4 k2 k3 (show f.2.1 * b.2.1 + f.2.2 = q * b.2.1 + m by unfold placeOf at h2; omega)
    rw [faAtD_mem hf this.1 this.2 hl, h1]
def stepAt (G K : List Int) (at' : Nat) (o : List CellD) : List CellD := if turning (List.getD o at' (0, 0)) then turnAt G K at' o else o
theorem restore_pass {b : BoardD} (hb : boardOK b = true) {l : List FaultD} (hl : faultsOK b (-1) l = true) (G : List Int) {at' : Nat} {o : List CellD} (ho : o.length = b.2.2.length) (ha : at' < o.length) (hs : ∀ i, i < o.length → List.getD (kindsB b l) i 0 = 1 → o[i]? = some (List.getD b.2.2 i (0, 0))) :
    restore b l (passAt G at' o) = stepAt G (kindsB b l) at' o := by
  have hpl : (passAt G at' o).length = o.length := by
    unfold passAt; split
    · simp
    · split
      · exact passGo_len _ _ _ _
      · rfl
  apply List.ext_getElem?
  intro i
  rcases Nat.lt_or_ge i o.length with hi | hi
  · rw [restore_at b l _ i (by rw [hpl]; exact hi)]
    have hst := stuck_iff hb hl (i := i) (by omega)
    have hox : o[i]? = some o[i] := List.getElem?_eq_getElem hi
    have hax : List.getD o at' (0, 0) = o[at'] := by simp [List.getD, List.getElem?_eq_getElem ha]
    by_cases hk : List.getD (kindsB b l) i 0 = 1
    · rw [if_pos (hst.1 hk), ← hs i hi hk]
      unfold stepAt turnAt
      split
      · rw [turnGo_at, hox, Option.map_some, if_neg (fun hc => hc.2 (by rw [Nat.zero_add]; exact hk))]
      · rfl
    · rw [if_neg (fun h => hk (hst.2 h))]
      unfold stepAt turnAt passAt turning
      rw [hax]
      by_cases h3 : (o[at']).1 = 3
      · simp only [h3, true_or, decide_true, if_true]
        rw [turnGo_at, hox, Option.map_some, Nat.zero_add]
        by_cases hia : at' = i
        · subst hia
          rw [List.getElem?_set_self hi, if_pos ⟨.inl rfl, hk⟩]
        · have hno : ¬ ((i = at' ∨ ((3 : Int) = 6 ∧ (o[i]).1 = 6 ∧ List.getD G i 0 = List.getD G at' 0)) ∧ List.getD (kindsB b l) i 0 ≠ 1) := by
            rintro ⟨h | ⟨h, _⟩, _⟩
            · exact hia h.symm
            · omega
          rw [List.getElem?_set_ne hia, hox, if_neg hno]
      · by_cases h6 : (o[at']).1 = 6
        · have h36 : ¬ (6 : Int) = 3 := by omega
          simp only [h6, h36, or_true, decide_true, if_true, if_false]
          rw [turnGo_at, passGo_at, hox, Option.map_some, Option.map_some, Nat.zero_add]
          congr 1
          by_cases hc : (o[i]).1 = 6 ∧ List.getD G i 0 = List.getD G at' 0
          · rw [if_pos hc, if_pos ⟨.inr ⟨rfl, hc⟩, hk⟩]
          · rw [if_neg hc, if_neg (by
              rintro ⟨h | ⟨_, h⟩, _⟩
              · subst h; exact hc ⟨h6, rfl⟩
              · exact hc h)]
        · simp only [h3, h6, or_self, decide_false, Bool.false_eq_true, if_false]
  · rw [List.getElem?_eq_none (by rw [restore_len, hpl]; exact hi), List.getElem?_eq_none ?_]
    unfold stepAt turnAt
    split
    · rw [turnGo_len]; exact hi
    · exact hi
end Go.Proofs.Ytgpmbmnfcbippaa.Vs
