/- The proof, part 8. -/
import Derived.Test.YtkmbhhgibgocpaaDoorqcm6
set_option linter.unusedVariables false
set_option linter.unusedSimpArgs false
namespace Go.Proofs.YtkmbhhgibgocpaaDoor.Vs
open Go.RowKit
/-! ### Faults by their places -/
def placeOf (b : BoardD) (f : FaultD) : Int := f.2.1 * b.2.1 + f.2.2
def kindsOf (b : BoardD) (l : List FaultD) (K : List Int) : List Int := l.foldl (fun K f => List.set K (placeOf b f).toNat f.1) K
def faAtD (r c d : Int) : List FaultD → Int
  | [] => d
  | f :: l => if f.2.1 = r ∧ f.2.2 = c then f.1 else faAtD r c d l
theorem faults_cons {b : BoardD} {last : Int} {f : FaultD} {l : List FaultD} (h : faultsOK b last (f :: l) = true) : (0 ≤ f.2.1 ∧ f.2.1 < b.1 ∧ 0 ≤ f.2.2 ∧ f.2.2 < b.2.1 ∧ last < placeOf b f) ∧ faultsOK b (placeOf b f) l = true := by
  simp only [faultsOK, Bool.and_eq_true, decide_eq_true_eq] at h
  exact ⟨h.1.1, h.2⟩
theorem faults_on {b : BoardD} : ∀ {l : List FaultD} {last : Int}, faultsOK b last l = true → ∀ f ∈ l, 0 ≤ f.2.1 ∧ f.2.1 < b.1 ∧ 0 ≤ f.2.2 ∧ f.2.2 < b.2.1
  | [], _, _, f, hf => by cases hf
  | g :: l, last, h, f, hf => by
    obtain ⟨h1, h2⟩ := faults_cons h
    rcases List.mem_cons.1 hf with rfl | hf
    · exact ⟨h1.1, h1.2.1, h1.2.2.1, h1.2.2.2.1⟩
    · exact faults_on h2 f hf
theorem place_inj {C r c r' c' : Int} (h1 : 0 ≤ c) (h2 : c < C) (h3 : 0 ≤ c') (h4 : c' < C) (h : r * C + c = r' * C + c') : r = r' ∧ c = c' := by
  have key : ∀ {x y : Int}, x < y → x * C + C ≤ y * C := by
    intro x y hxy
    have := Int.mul_le_mul_of_nonneg_right (show x + 1 ≤ y by omega) (show 0 ≤ C by omega)
    rw [Int.add_mul, Int.one_mul] at this
    exact this
  rcases Int.lt_trichotomy r r' with hr | hr | hr
  · have := key hr; omega
  · subst hr; omega
  · have := key hr; omega
theorem faAtD_later {b : BoardD} {r c : Int} (d : Int) : ∀ {l : List FaultD} {last : Int}, faultsOK b last l = true → r * b.2.1 + c ≤ last → faAtD r c d l = d
  | [], _, _, _ => rfl
  | f :: l, last, h, hp => by
    obtain ⟨h1, h2⟩ := faults_cons h
    unfold placeOf at h1 h2
    simp only [faAtD]
    rw [if_neg (by rintro ⟨rfl, rfl⟩; omega)]
    exact faAtD_later d h2 (by omega)
theorem kindsOf_len (b : BoardD) : ∀ (l : List FaultD) (K : List Int), (kindsOf b l K).length = K.length
  | [], _ => rfl
  | f :: l, K => by
    show (kindsOf b l (List.set K (placeOf b f).toNat f.1)).length = _
    rw [kindsOf_len b l, List.length_set]
theorem getD_set_if {α : Type} (l : List α) (i j : Nat) (x d : α) (hi : i < l.length) : List.getD (List.set l i x) j d = if i = j then x else List.getD l j d := by
  simp only [List.getD, List.getElem?_set]
  by_cases h : i = j
  · subst h; simp [hi]
  · simp [h]
theorem kindsOf_at {b : BoardD} (hb : boardOK b = true) {r c : Int} (h1 : 0 ≤ r) (h2 : r < b.1) (h3 : 0 ≤ c) (h4 : c < b.2.1) : ∀ {l : List FaultD} {last : Int} {K : List Int}, faultsOK b last l = true → K.length = b.2.2.length → List.getD (kindsOf b l K) (r * b.2.1 + c).toNat 0 = faAtD r c (List.getD K (r * b.2.1 + c).toNat 0) l
  | [], _, _, _, _ => rfl
  | f :: l, last, K, h, hK => by
    obtain ⟨g1, g2⟩ := faults_cons h
    have hp := place_ok hb h1 h2 h3 h4
    have hf := place_ok hb g1.1 g1.2.1 g1.2.2.1 g1.2.2.2.1
    show List.getD (kindsOf b l (List.set K (placeOf b f).toNat f.1)) _ 0 = _
    rw [kindsOf_at hb h1 h2 h3 h4 g2 (by rw [List.length_set]; exact hK)]
    rw [getD_set_if _ _ _ _ _ (by unfold placeOf; omega)]
    simp only [faAtD]
    by_cases hm : f.2.1 = r ∧ f.2.2 = c
    · rw [if_pos hm, if_pos (by unfold placeOf; rw [hm.1, hm.2])]
      exact faAtD_later _ g2 (by unfold placeOf; rw [hm.1, hm.2]; omega)
    · rw [if_neg hm, if_neg (fun he => hm (place_inj g1.2.2.1 g1.2.2.2.1 h3 h4 (by unfold placeOf at he; omega)))]
theorem e_impl_faultsByCell_0 (b : BoardD) (hb : boardOK b = true) : ∀ (r pre : List FaultD) (K : List Int), (∀ f ∈ r, 0 ≤ f.2.1 ∧ f.2.1 < b.1 ∧ 0 ≤ f.2.2 ∧ f.2.2 < b.2.1) → (pre ++ r).length ≤ 9223372036854775806 → K.length = b.2.2.length → Ev (fun k => f_impl_faultsByCell_0 k b.1 b.2.1 b.2.2 K (pre ++ r) ((pre ++ r).length : Int) (pre.length : Int)) (kindsOf b r K)
  | [], pre, K, hr, hl, hK => by
    refine Ev.succ ?_
    simp only [f_impl_faultsByCell_0, nlt_end, decide_false, Bool.false_eq_true, if_false]
    exact Ev.some _
  | f :: r, pre, K, hr, hl, hK => by
    obtain ⟨k1, k2, k3, k4⟩ := hr f (List.mem_cons_self ..)
    have hp := place_ok hb k1 k2 k3 k4
    have hpK : f.2.1 * b.2.1 + f.2.2 < (K.length : Int) := by omega
    have ih := e_impl_faultsByCell_0 b hb r (pre ++ [f]) (List.set K (placeOf b f).toNat f.1) (fun g hg => hr g (List.mem_cons_of_mem _ hg)) (by simpa using hl) (by rw [List.length_set]; exact hK)
    refine Ev.succ ?_
    simp only [f_impl_faultsByCell_0, lt_mid, ge_mid, decide_true, if_true, Int.toNat_natCast, getD_mid]
    rw [next_mid pre f r (by omega), w64 (n := f.2.1 * b.2.1) (by omega) (by omega), w64 (n := f.2.1 * b.2.1 + f.2.2) (by omega) (by omega)]
    simp only [hp.1, hpK, if_true]
    rw [← shift_mid] at ih
    exact ih
def kindsB (b : BoardD) (l : List FaultD) : List Int := kindsOf b l (List.replicate b.2.2.length 0)
theorem kindsB_len (b : BoardD) (l : List FaultD) : (kindsB b l).length = b.2.2.length := by unfold kindsB; rw [kindsOf_len]; simp
theorem e_impl_faultsByCell (b : BoardD) (hb : boardOK b = true) (l : List FaultD) (hl : faultsOK b (-1) l = true) (hlen : l.length ≤ 9223372036854775806) : Ev (fun k => f_impl_faultsByCell k b l) (kindsB b l) := by
  obtain ⟨g1, g2, g3, g4, g5, g6⟩ := board_ok hb
  have hp := prod_small g1 g2 g3 g4
  have hm : b.2.2.length * 8 ≤ 281474976710656 := by omega
  refine Ev.succ ?_
  simp only [f_impl_faultsByCell, Int.toNat_natCast, hm, if_true]
  exact Ev.bind (e_impl_faultsByCell_0 b hb l [] _ (faults_on hl) (by simpa using hlen) (by simp)) (Ev.some _)
theorem e_spec_faAt_0 (r c : Int) : ∀ (l pre : List FaultD), (pre ++ l).length ≤ 9223372036854775806 → ∀ {z : LR Unit Int}, (z = LR.go () ∧ faAtD r c 0 l = 0 ∨ z = LR.ret (faAtD r c 0 l)) → (∀ f ∈ l, ¬ (f.2.1 = r ∧ f.2.2 = c)) ∧ z = LR.go () ∨ (∃ f ∈ l, f.2.1 = r ∧ f.2.2 = c) ∧ z = LR.ret (faAtD r c 0 l) → Ev (fun k => f_spec_faAt_0 k r c (pre ++ l) ((pre ++ l).length : Int) (pre.length : Int)) z
  | [], pre, hl, z, _, hz => by
    refine Ev.succ ?_
    simp only [f_spec_faAt_0, nlt_end, decide_false, Bool.false_eq_true, if_false]
    rcases hz with ⟨_, rfl⟩ | ⟨⟨f, hf, _⟩, _⟩
    · exact Ev.some _
    · cases hf
  | f :: l, pre, hl, z, hz0, hz => by
    have hn := next_mid pre f l (by omega)
    have hl' : ((pre ++ [f]) ++ l).length ≤ 9223372036854775806 := by simpa using hl
    refine Ev.succ ?_
    simp only [f_spec_faAt_0, lt_mid, ge_mid, decide_true, if_true, Int.toNat_natCast, getD_mid, hn]
    by_cases hm : f.2.1 = r ∧ f.2.2 = c
    · simp only [hm.1, hm.2, decide_true, if_true]
      rcases hz with ⟨h, _⟩ | ⟨_, rfl⟩
      · exact absurd hm (h f (List.mem_cons_self ..))
      · simp only [faAtD, hm, and_self, if_true]; exact Ev.some _
    · have hfa : faAtD r c 0 (f :: l) = faAtD r c 0 l := by simp only [faAtD]; rw [if_neg hm]
      have ih : Ev (fun k => f_spec_faAt_0 k r c (pre ++ f :: l) ((pre ++ f :: l).length : Int) ((pre ++ [f]).length : Int)) z := by
        rw [shift_mid]
        refine e_spec_faAt_0 r c l (pre ++ [f]) hl' (by rw [← hfa]; exact hz0) ?_
        rcases hz with ⟨h, h2⟩ | ⟨⟨g, hg, hgm⟩, h2⟩
        · exact .inl ⟨fun g hg => h g (List.mem_cons_of_mem _ hg), h2⟩
        · rcases List.mem_cons.1 hg with rfl | hg
          · exact absurd hgm hm
          · exact .inr ⟨⟨g, hg, hgm⟩, by rw [← hfa]; exact h2⟩
      refine Ev.ite (fun g1 => Ev.ite (fun g2 => ?_) (fun _ => ih)) (fun _ => ih)
      simp only [decide_eq_true_eq] at g1 g2
      exact absurd ⟨g1, g2⟩ hm
theorem faAtD_none {r c d : Int} : ∀ {l : List FaultD}, (∀ f ∈ l, ¬ (f.2.1 = r ∧ f.2.2 = c)) → faAtD r c d l = d
  | [], _ => rfl
  | f :: l, h => by
    simp only [faAtD]
    rw [if_neg (h f (List.mem_cons_self ..))]
    exact faAtD_none (fun g hg => h g (List.mem_cons_of_mem _ hg))
theorem e_spec_faAt (l : List FaultD) (r c : Int) (hl : l.length ≤ 9223372036854775806) : Ev (fun k => f_spec_faAt k l r c) (faAtD r c 0 l) := by
  refine Ev.succ ?_
  simp only [f_spec_faAt]
  by_cases h : ∃ f ∈ l, f.2.1 = r ∧ f.2.2 = c
  · exact Ev.bind (e_spec_faAt_0 r c l [] (by simpa using hl) (z := LR.ret (faAtD r c 0 l)) (.inr rfl) (.inr ⟨h, rfl⟩)) (Ev.ret (Ev.some _))
  · have h' : ∀ f ∈ l, ¬ (f.2.1 = r ∧ f.2.2 = c) := fun f hf hm => h ⟨f, hf, hm⟩
    have h0 := faAtD_none (d := 0) h'
    refine Ev.bind (e_spec_faAt_0 r c l [] (by simpa using hl) (z := LR.go ()) (.inl ⟨rfl, h0⟩) (.inl ⟨h', rfl⟩)) ?_
    rw [h0]
    exact Ev.go (Ev.some _)
/-! ### Turning -/
def flip1 (x : CellD) : CellD := (x.1, 1 - x.2)
def turnGo (G K : List Int) (at' : Nat) (ka : Int) : Nat → List CellD → List CellD
  | _, [] => []
  | i, x :: r => (if (i = at' ∨ (ka = 6 ∧ x.1 = 6 ∧ List.getD G i 0 = List.getD G at' 0)) ∧ List.getD K i 0 ≠ 1 then flip1 x else x) :: turnGo G K at' ka (i + 1) r
def passGo (G : List Int) (ga : Int) : Nat → List CellD → List CellD
  | _, [] => []
  | i, x :: r => (if x.1 = 6 ∧ List.getD G i 0 = ga then flip1 x else x) :: passGo G ga (i + 1) r
theorem cell_two {x : CellD} (h : cellOK x = true) : 0 ≤ x.1 ∧ x.1 ≤ 7 ∧ (x.2 = 0 ∨ x.2 = 1) := by
  unfold cellOK at h
  simp only [decide_eq_true_eq] at h
  omega
theorem fst_same {p r : List CellD} {x y d : CellD} (h : y.1 = x.1) (n : Nat) : (List.getD (p ++ y :: r) n d).1 = (List.getD (p ++ x :: r) n d).1 := by
  simp only [List.getD]
  rcases Nat.lt_trichotomy n p.length with hn | hn | hn
  · rw [List.getElem?_append_left hn, List.getElem?_append_left hn]
  · subst hn; simp [h]
  · rw [List.getElem?_append_right (by omega), List.getElem?_append_right (by omega)]
    have : ∃ m, n - p.length = m + 1 := ⟨n - p.length - 1, by omega⟩
    obtain ⟨m, hm⟩ := this
    rw [hm]
    rfl
theorem e_impl_turnFaulty_0 (R C : Int) (G K : List Int) (at' : Nat) (ka : Int) : ∀ (r pre : List CellD), (pre ++ r).length ≤ 1000 → at' < (pre ++ r).length → G.length = (pre ++ r).length → K.length = (pre ++ r).length → (List.getD (pre ++ r) at' (0, 0)).1 = ka → (∀ x ∈ r, cellOK x = true) →
    Ev (fun k => f_impl_turnFaulty_0 k (pre ++ r) R C G K (at' : Int) ((pre ++ r).length : Int) (pre.length : Int)) (pre ++ turnGo G K at' ka pre.length r)
  | [], pre, hl, ha, hG, hK, hka, hx => by
    refine Ev.succ ?_
    simp only [f_impl_turnFaulty_0, nlt_end, decide_false, Bool.false_eq_true, if_false, turnGo]
    exact Ev.some _
  | x :: r, pre, hl, ha, hG, hK, hka, hx => by
    have hn := next_mid pre x r (by omega)
    have hlt := lt_mid pre x r
    have hGl : (pre.length : Int) < (G.length : Int) := by rw [hG]; exact hlt
    have hKl : (pre.length : Int) < (K.length : Int) := by rw [hK]; exact hlt
    have ha0 : (0 : Int) ≤ (at' : Int) := Int.natCast_nonneg _
    have ha1 : (at' : Int) < ((pre ++ x :: r).length : Int) := by omega
    have haG : (at' : Int) < (G.length : Int) := by rw [hG]; exact ha1
    obtain ⟨c1, c2, c3⟩ := cell_two (hx x (List.mem_cons_self ..))
    have hr' : ∀ y ∈ r, cellOK y = true := fun y hy => hx y (List.mem_cons_of_mem _ hy)
    have next : ∀ y : CellD, y.1 = x.1 → Ev (fun k => f_impl_turnFaulty_0 k (pre ++ y :: r) R C G K (at' : Int) ((pre ++ x :: r).length : Int) ((pre ++ [x]).length : Int)) (pre ++ y :: turnGo G K at' ka (pre.length + 1) r) := by
      intro y hy
      have ih := e_impl_turnFaulty_0 R C G K at' ka r (pre ++ [y]) (by simpa using hl) (by simpa using ha) (by simpa using hG) (by simpa using hK) (by rw [← shift_mid, fst_same hy]; exact hka) hr'
      have e1 : ((pre ++ [y] ++ r).length : Int) = ((pre ++ x :: r).length : Int) := by simp
      have e2 : ((pre ++ [y]).length : Int) = ((pre ++ [x]).length : Int) := by simp
      have e3 : (pre ++ [y]).length = pre.length + 1 := by simp
      rw [e1, e2, e3, ← shift_mid, ← shift_mid] at ih
      exact ih
    refine Ev.succ ?_
    simp only [f_impl_turnFaulty_0, lt_mid, ge_mid, decide_true, if_true, Int.toNat_natCast, getD_mid, set_mid, hn, hGl, hKl, ha0, ha1, haG, hka]
    rw [w64 (n := 1 - x.2) (by omega) (by omega)]
    simp only [turnGo]
    by_cases hia : pre.length = at'
    · have hia' : (pre.length : Int) = (at' : Int) := by omega
      simp only [hia', decide_true, if_true]
      rw [← hia]
      refine Ev.ite (fun h => ?_) (fun h => ?_)
      · simp only [ne_eq, decide_eq_true_eq] at h
        rw [if_pos ⟨.inl rfl, h⟩]
        have := next (flip1 x) rfl
        rw [← hia] at this
        exact this
      · simp only [ne_eq, decide_eq_true_eq, Decidable.not_not] at h
        rw [if_neg (fun hc => hc.2 h)]
        have := next x rfl
        rw [← hia] at this
        exact this
    · have hia' : ¬ (pre.length : Int) = (at' : Int) := by omega
      simp only [hia', decide_false, Bool.false_eq_true, if_false]
      have no : ¬ (ka = 6 ∧ x.1 = 6 ∧ List.getD G pre.length 0 = List.getD G at' 0) → Ev (fun k => f_impl_turnFaulty_0 k (pre ++ x :: r) R C G K (at' : Int) ((pre ++ x :: r).length : Int) ((pre ++ [x]).length : Int)) (pre ++ (if (pre.length = at' ∨ (ka = 6 ∧ x.1 = 6 ∧ List.getD G pre.length 0 = List.getD G at' 0)) ∧ List.getD K pre.length 0 ≠ 1 then flip1 x else x) :: turnGo G K at' ka (pre.length + 1) r) := by
        intro hno
        rw [if_neg (fun hc => hc.1.elim hia hno)]
        exact next x rfl
      refine Ev.ite (fun h1 => ?_) (fun h1 => no (fun hc => h1 (decide_eq_true hc.1)))
      refine Ev.ite (fun h2 => ?_) (fun h2 => no (fun hc => h2 (decide_eq_true hc.2.1)))
      refine Ev.ite (fun h3 => ?_) (fun h3 => no (fun hc => h3 (decide_eq_true hc.2.2)))
      simp only [decide_eq_true_eq] at h1 h2 h3
      refine Ev.ite (fun h => ?_) (fun h => ?_)
      · simp only [ne_eq, decide_eq_true_eq] at h
        rw [if_pos ⟨.inr ⟨h1, h2, h3⟩, h⟩]
        exact next (flip1 x) rfl
      · simp only [ne_eq, decide_eq_true_eq, Decidable.not_not] at h
        rw [if_neg (fun hc => hc.2 h)]
        exact next x rfl
def turnAt (G K : List Int) (at' : Nat) (o : List CellD) : List CellD := turnGo G K at' (List.getD o at' (0, 0)).1 0 o
theorem e_impl_turnFaulty (R C : Int) (o : List CellD) (G K : List Int) (at' : Nat) (hl : o.length ≤ 1000) (ha : at' < o.length) (hG : G.length = o.length) (hK : K.length = o.length) (hx : ∀ x ∈ o, cellOK x = true) : Ev (fun k => f_impl_turnFaulty k (R, C, o) G K (at' : Int)) (turnAt G K at' o) := by
  refine Ev.succ ?_
  simp only [f_impl_turnFaulty]
  exact Ev.bind (e_impl_turnFaulty_0 R C G K at' _ o [] hl ha hG hK rfl hx) (Ev.some _)
theorem e_spec_paTurn (x : CellD) (h : cellOK x = true) : Ev (fun k => f_spec_paTurn k x) (flip1 x) := by
  obtain ⟨c1, c2, c3⟩ := cell_two h
  refine Ev.succ ?_
  simp only [f_spec_paTurn]
  rw [w64 (n := 1 - x.2) (by omega) (by omega)]
  exact Ev.some _
theorem e_spec_flPass_1 (R C : Int) (G : List Int) (at' : Nat) : ∀ (r pre : List CellD), (pre ++ r).length ≤ 1000 → at' < (pre ++ r).length → G.length = (pre ++ r).length → (∀ x ∈ r, cellOK x = true) →
    Ev (fun k => f_spec_flPass_1 k (pre ++ r) R C G (at' : Int) ((pre ++ r).length : Int) (pre.length : Int)) (pre ++ passGo G (List.getD G at' 0) pre.length r)
  | [], pre, hl, ha, hG, hx => by
    refine Ev.succ ?_
    simp only [f_spec_flPass_1, nlt_end, decide_false, Bool.false_eq_true, if_false, passGo]
    exact Ev.some _
  | x :: r, pre, hl, ha, hG, hx => by
    have hn := next_mid pre x r (by omega)
    have hlt := lt_mid pre x r
    have hGl : (pre.length : Int) < (G.length : Int) := by rw [hG]; exact hlt
    have ha0 : (0 : Int) ≤ (at' : Int) := Int.natCast_nonneg _
    have ha1 : (at' : Int) < ((pre ++ x :: r).length : Int) := by omega
    have haG : (at' : Int) < (G.length : Int) := by rw [hG]; exact ha1
    have hr' : ∀ y ∈ r, cellOK y = true := fun y hy => hx y (List.mem_cons_of_mem _ hy)
    have next : ∀ y : CellD, Ev (fun k => f_spec_flPass_1 k (pre ++ y :: r) R C G (at' : Int) ((pre ++ x :: r).length : Int) ((pre ++ [x]).length : Int)) (pre ++ y :: passGo G (List.getD G at' 0) (pre.length + 1) r) := by
      intro y
      have ih := e_spec_flPass_1 R C G at' r (pre ++ [y]) (by simpa using hl) (by simpa using ha) (by simpa using hG) hr'
      have e1 : ((pre ++ [y] ++ r).length : Int) = ((pre ++ x :: r).length : Int) := by simp
      have e2 : ((pre ++ [y]).length : Int) = ((pre ++ [x]).length : Int) := by simp
      have e3 : (pre ++ [y]).length = pre.length + 1 := by simp
      rw [e1, e2, e3, ← shift_mid, ← shift_mid] at ih
      exact ih
    refine Ev.succ ?_
    simp only [f_spec_flPass_1, lt_mid, ge_mid, decide_true, if_true, Int.toNat_natCast, getD_mid, set_mid, hn, hGl, ha0, haG]
    simp only [passGo]
    refine Ev.ite (fun h1 => Ev.ite (fun h2 => ?_) (fun h2 => ?_)) (fun h1 => ?_)
    · simp only [decide_eq_true_eq] at h1 h2
      rw [if_pos ⟨h1, h2⟩]
      exact Ev.bind (e_spec_paTurn x (hx x (List.mem_cons_self ..))) (next (flip1 x))
    · simp only [decide_eq_true_eq] at h2
      rw [if_neg (fun hc => h2 hc.2)]
      exact next x
    · simp only [decide_eq_true_eq] at h1
      rw [if_neg (fun hc => h1 hc.1)]
      exact next x
def passAt (G : List Int) (at' : Nat) (o : List CellD) : List CellD := if (List.getD o at' (0, 0)).1 = 3 then List.set o at' (flip1 (List.getD o at' (0, 0))) else if (List.getD o at' (0, 0)).1 = 6 then passGo G (List.getD G at' 0) 0 o else o
theorem e_spec_flPass (R C : Int) (o : List CellD) (G : List Int) (at' : Nat) (hl : o.length ≤ 1000) (ha : at' < o.length) (hG : G.length = o.length) (hx : ∀ x ∈ o, cellOK x = true) : Ev (fun k => f_spec_flPass k (R, C, o) G (at' : Int)) (passAt G at' o) := by
  have ha0 : (0 : Int) ≤ (at' : Int) := Int.natCast_nonneg _
  have ha1 : (at' : Int) < (o.length : Int) := by omega
  refine Ev.succ ?_
  simp only [f_spec_flPass, ha0, ha1, if_true, Int.toNat_natCast]
  unfold passAt
  refine Ev.ite (fun h1 => ?_) (fun h1 => Ev.ite (fun h2 => ?_) (fun h2 => ?_))
  · simp only [decide_eq_true_eq] at h1
    rw [if_pos h1]
    exact Ev.bind (e_spec_paTurn _ (hx _ (cell_in ha0 ha1 _))) (Ev.some _)
  · simp only [decide_eq_true_eq] at h1 h2
    rw [if_neg h1, if_pos h2]
    exact Ev.bind (e_spec_flPass_1 R C G at' o [] hl ha hG hx) (Ev.some _)
  · simp only [decide_eq_true_eq] at h1 h2
    rw [if_neg h1, if_neg h2]
    exact Ev.some _
theorem turnGo_len (G K : List Int) (at' : Nat) (ka : Int) : ∀ (l : List CellD) (i : Nat), (turnGo G K at' ka i l).length = l.length
  | [], _ => rfl
  | x :: r, i => by simp [turnGo, turnGo_len G K at' ka r]
theorem passGo_len (G : List Int) (ga : Int) : ∀ (l : List CellD) (i : Nat), (passGo G ga i l).length = l.length
  | [], _ => rfl
  | x :: r, i => by simp [passGo, passGo_len G ga r]
theorem turnGo_at (G K : List Int) (at' : Nat) (ka : Int) : ∀ (l : List CellD) (j i : Nat), (turnGo G K at' ka j l)[i]? = l[i]?.map fun x => if (j + i = at' ∨ (ka = 6 ∧ x.1 = 6 ∧ List.getD G (j + i) 0 = List.getD G at' 0)) ∧ List.getD K (j + i) 0 ≠ 1 then flip1 x else x
  | [], _, i => by simp [turnGo]
  | x :: r, j, 0 => by simp [turnGo]
  | x :: r, j, i + 1 => by
    simp only [turnGo, List.getElem?_cons_succ]
    rw [turnGo_at G K at' ka r (j + 1) i, show j + 1 + i = j + (i + 1) by omega]
theorem passGo_at (G : List Int) (ga : Int) : ∀ (l : List CellD) (j i : Nat), (passGo G ga j l)[i]? = l[i]?.map fun x => if x.1 = 6 ∧ List.getD G (j + i) 0 = ga then flip1 x else x
  | [], _, i => by simp [passGo]
  | x :: r, j, 0 => by simp [passGo]
  | x :: r, j, i + 1 => by
    simp only [passGo, List.getElem?_cons_succ]
    rw [passGo_at G ga r (j + 1) i, show j + 1 + i = j + (i + 1) by omega]
/-! ### What is stuck comes back -/
def restore (b : BoardD) (l : List FaultD) (o : List CellD) : List CellD := l.foldl (fun o f => if f.1 = 1 then List.set o (placeOf b f).toNat (List.getD b.2.2 (placeOf b f).toNat (0, 0)) else o) o
theorem restore_len (b : BoardD) : ∀ (l : List FaultD) (o : List CellD), (restore b l o).length = o.length
  | [], _ => rfl
  | f :: l, o => by
    show (restore b l (if f.1 = 1 then _ else _)).length = _
    rw [restore_len b l]
    split <;> simp
theorem restore_at (b : BoardD) : ∀ (l : List FaultD) (o : List CellD) (i : Nat), i < o.length → (restore b l o)[i]? = if ∃ f ∈ l, f.1 = 1 ∧ (placeOf b f).toNat = i then some (List.getD b.2.2 i (0, 0)) else o[i]?
  | [], o, i, hi => by rw [if_neg (by rintro ⟨f, hf, _⟩; cases hf)]; rfl
  | f :: l, o, i, hi => by
    show (restore b l (if f.1 = 1 then _ else _))[i]? = _
    by_cases hf : f.1 = 1
    · rw [if_pos hf, restore_at b l _ i (by rw [List.length_set]; exact hi)]
      by_cases h : ∃ g ∈ l, g.1 = 1 ∧ (placeOf b g).toNat = i
      · rw [if_pos h]
        obtain ⟨g, hg, h2⟩ := h
        rw [if_pos ⟨g, List.mem_cons_of_mem _ hg, h2⟩]
      · rw [if_neg h]
        by_cases hp : (placeOf b f).toNat = i
        · rw [if_pos ⟨f, List.mem_cons_self .., hf, hp⟩, hp, List.getElem?_set_self hi]
        · rw [List.getElem?_set_ne hp, if_neg (by
            rintro ⟨g, hg, h2, h3⟩
            rcases List.mem_cons.1 hg with rfl | hg
            · exact hp h3
            · exact h ⟨g, hg, h2, h3⟩)]
    · rw [if_neg hf, restore_at b l o i hi]
      by_cases h : ∃ g ∈ l, g.1 = 1 ∧ (placeOf b g).toNat = i
      · rw [if_pos h]
        obtain ⟨g, hg, h2⟩ := h
        rw [if_pos ⟨g, List.mem_cons_of_mem _ hg, h2⟩]
      · rw [if_neg h, if_neg (by
            rintro ⟨g, hg, h2, h3⟩
            rcases List.mem_cons.1 hg with rfl | hg
            · exact hf h2
            · exact h ⟨g, hg, h2, h3⟩)]
theorem faAtD_mem {r c : Int} : ∀ {l : List FaultD} {f : FaultD}, f ∈ l → f.2.1 = r → f.2.2 = c → ∀ {b : BoardD} {last : Int}, faultsOK b last l = true → faAtD r c 0 l = f.1
  | g :: l, f, hf, h1, h2, b, last, hok => by
    obtain ⟨k1, k2⟩ := faults_cons hok
    simp only [faAtD]
    rcases List.mem_cons.1 hf with rfl | hf
    · rw [if_pos ⟨h1, h2⟩]
    · have hno : ¬ (g.2.1 = r ∧ g.2.2 = c) := by
        rintro ⟨e1, e2⟩
        have key : ∀ {l : List FaultD} {last : Int}, faultsOK b last l = true → ∀ f ∈ l, last < placeOf b f := by
          intro l
          induction l with
          | nil => intro last _ f hf; cases hf
          | cons g l ih =>
            intro last h f hf
            obtain ⟨a1, a2⟩ := faults_cons h
            rcases List.mem_cons.1 hf with rfl | hf
            · exact a1.2.2.2.2
            · have := ih a2 f hf; omega
        have := key k2 f hf
        unfold placeOf at this
        rw [h1, h2, e1, e2] at this
        omega
      rw [if_neg hno]
      exact faAtD_mem hf h1 h2 k2
theorem faAtD_one {r c : Int} : ∀ {l : List FaultD}, faAtD r c 0 l = 1 → ∃ f ∈ l, f.1 = 1 ∧ f.2.1 = r ∧ f.2.2 = c
  | [], h => by simp [faAtD] at h
  | f :: l, h => by
    simp only [faAtD] at h
    split at h
    · rename_i hm
      exact ⟨f, List.mem_cons_self .., h, hm.1, hm.2⟩
    · obtain ⟨g, hg, h2⟩ := faAtD_one h
      exact ⟨g, List.mem_cons_of_mem _ hg, h2⟩
/-- Where the kinds tell of a stuck cell, there is such a fault. -/
theorem stuck_iff {b : BoardD} (hb : boardOK b = true) {l : List FaultD} (hl : faultsOK b (-1) l = true) {i : Nat} (hi : i < b.2.2.length) : List.getD (kindsB b l) i 0 = 1 ↔ ∃ f ∈ l, f.1 = 1 ∧ (placeOf b f).toNat = i := by
  obtain ⟨q, m, t, hq, hm, k1, k2, k3, k4, k5, k6, k7, k8, k9⟩ := place_parts hb (i := (i : Int)) (by omega) (by omega)
  have hC : 0 < b.2.1 := by omega
  have e0 : Int.tdiv (i : Int) b.2.1 = (i : Int) / b.2.1 := Int.tdiv_eq_ediv_of_nonneg (by omega)
  have e1 : Int.tmod (i : Int) b.2.1 = (i : Int) % b.2.1 := Int.tmod_eq_emod_of_nonneg (by omega)
  have e2 := Int.mul_ediv_add_emod (i : Int) b.2.1
  rw [← e0, ← e1, hq, hm] at e2
  have hi2 : (i : Int) = q * b.2.1 + m := by rw [Int.mul_comm]; omega
  have hi3 : i = (q * b.2.1 + m).toNat := by omega
  have hk : List.getD (kindsB b l) i 0 = faAtD q m 0 l := by
    unfold kindsB
    rw [hi3, kindsOf_at hb k4 k5 k2 k3 hl (by simp)]
    congr 1
    simp only [List.getD, List.getElem?_replicate]
    split <;> rfl
  rw [hk]
  constructor
  · intro h
    obtain ⟨f, hf, h1, h2, h3⟩ := faAtD_one h
    exact ⟨f, hf, h1, by unfold placeOf; rw [h2, h3]; exact hi3.symm⟩
  · rintro ⟨f, hf, h1, h2⟩
    obtain ⟨o1, o2, o3, o4⟩ := faults_on hl f hf
    have hp := place_ok hb o1 o2 o3 o4
    have := place_inj o3 o4 k2 k3 (show f.2.1 * b.2.1 + f.2.2 = q * b.2.1 + m by unfold placeOf at h2; omega)
    rw [faAtD_mem hf this.1 this.2 hl, h1]
def stepAt (G K : List Int) (at' : Nat) (o : List CellD) : List CellD := if turning (List.getD o at' (0, 0)) then turnAt G K at' o else o
theorem restore_pass {b : BoardD} (hb : boardOK b = true) {l : List FaultD} (hl : faultsOK b (-1) l = true) (G : List Int) {at' : Nat} {o : List CellD} (ho : o.length = b.2.2.length) (ha : at' < o.length) (hs : ∀ i, i < o.length → List.getD (kindsB b l) i 0 = 1 → o[i]? = some (List.getD b.2.2 i (0, 0))) :
    restore b l (passAt G at' o) = stepAt G (kindsB b l) at' o := by
  have hpl : (passAt G at' o).length = o.length := by
    unfold passAt; split
    · simp
    · split
      · exact passGo_len _ _ _ _
      · rfl
  apply List.ext_getElem?
  intro i
  rcases Nat.lt_or_ge i o.length with hi | hi
  · rw [restore_at b l _ i (by rw [hpl]; exact hi)]
    have hst := stuck_iff hb hl (i := i) (by omega)
    have hox : o[i]? = some o[i] := List.getElem?_eq_getElem hi
    have hax : List.getD o at' (0, 0) = o[at'] := by simp [List.getD, List.getElem?_eq_getElem ha]
    by_cases hk : List.getD (kindsB b l) i 0 = 1
    · rw [if_pos (hst.1 hk), ← hs i hi hk]
      unfold stepAt turnAt
      split
      · rw [turnGo_at, hox, Option.map_some, if_neg (fun hc => hc.2 (by rw [Nat.zero_add]; exact hk))]
      · rfl
    · rw [if_neg (fun h => hk (hst.2 h))]
      unfold stepAt turnAt passAt turning
      rw [hax]
      by_cases h3 : (o[at']).1 = 3
      · simp only [h3, true_or, decide_true, if_true]
        rw [turnGo_at, hox, Option.map_some, Nat.zero_add]
        by_cases hia : at' = i
        · subst hia
          rw [List.getElem?_set_self hi, if_pos ⟨.inl rfl, hk⟩]
        · have hno : ¬ ((i = at' ∨ ((3 : Int) = 6 ∧ (o[i]).1 = 6 ∧ List.getD G i 0 = List.getD G at' 0)) ∧ List.getD (kindsB b l) i 0 ≠ 1) := by
            rintro ⟨h | ⟨h, _⟩, _⟩
            · exact hia h.symm
            · omega
          rw [List.getElem?_set_ne hia, hox, if_neg hno]
      · by_cases h6 : (o[at']).1 = 6
        · have h36 : ¬ (6 : Int) = 3 := by omega
          simp only [h6, h36, or_true, decide_true, if_true, if_false]
          rw [turnGo_at, passGo_at, hox, Option.map_some, Option.map_some, Nat.zero_add]
          congr 1
          by_cases hc : (o[i]).1 = 6 ∧ List.getD G i 0 = List.getD G at' 0
          · rw [if_pos hc, if_pos ⟨.inr ⟨rfl, hc⟩, hk⟩]
          · rw [if_neg hc, if_neg (by
              rintro ⟨h | ⟨_, h⟩, _⟩
              · subst h; exact hc ⟨h6, rfl⟩
              · exact hc h)]
        · simp only [h3, h6, or_self, decide_false, Bool.false_eq_true, if_false]
  · rw [List.getElem?_eq_none (by rw [restore_len, hpl]; exact hi), List.getElem?_eq_none ?_]
    unfold stepAt turnAt
    split
    · rw [turnGo_len]; exact hi
    · exact hi
end Go.Proofs.YtkmbhhgibgocpaaDoor.Vs

set_option linter.unusedVariables false
set_option linter.unusedSimpArgs false
namespace Go.Proofs.YtkmbhhgibgocpaaDoor.Vs
open Go.RowKit
abbrev FallD := Int × Int × Int
/-- Where a marble goes from a cell. -/
def goesOf (x : CellD) (side : Int) : Int := if x.1 = 1 then -1 else if x.1 = 2 then 1 else if x.1 = 3 then 2 * x.2 - 1 else if x.1 = 6 then 2 * x.2 - 1 else if x.1 = 4 then 0 - side else 0
theorem goesOf_in {x : CellD} (hx : cellOK x = true) {side : Int} (h1 : -1 ≤ side) (h2 : side ≤ 1) : -1 ≤ goesOf x side ∧ goesOf x side ≤ 1 := by
  obtain ⟨c1, c2, c3⟩ := cell_two hx
  unfold goesOf
  repeat' split
  all_goals omega
theorem e_impl_GoesTo (x : CellD) (side : Int) (hx : cellOK x = true) (h1 : -1 ≤ side) (h2 : side ≤ 1) : Ev (fun k => f_impl_GoesTo k x side) (if x.1 = 5 then (0, false) else (goesOf x side, true)) := by
  obtain ⟨c1, c2, c3⟩ := cell_two hx
  have n1 : ¬ side < -1 := by omega
  have n2 : ¬ side > 1 := by omega
  refine Ev.succ ?_
  simp only [f_impl_GoesTo]
  refine Ev.bind (e_impl_IsCell x) ?_
  simp only [hx, Bool.not_true, Bool.false_eq_true, if_false, n1, n2, decide_false]
  rw [w64 (n := 2 * x.2) (by omega) (by omega), w64 (n := 2 * x.2 - 1) (by omega) (by omega), w64 (n := 0 - side) (by omega) (by omega)]
  refine Ev.of ?_
  unfold goesOf
  by_cases a5 : x.1 = 5
  · simp [a5]
  · by_cases a1 : x.1 = 1 <;> by_cases a2 : x.1 = 2 <;> by_cases a3 : x.1 = 3 <;> by_cases a6 : x.1 = 6 <;> by_cases a4 : x.1 = 4 <;> simp [a1, a2, a3, a4, a5, a6]
theorem e_spec_paGoes (x : CellD) (side : Int) (hx : cellOK x = true) (h1 : -1 ≤ side) (h2 : side ≤ 1) : Ev (fun k => f_spec_paGoes k x side) (goesOf x side) := by
  obtain ⟨c1, c2, c3⟩ := cell_two hx
  refine Ev.succ ?_
  simp only [f_spec_paGoes]
  rw [w64 (n := 2 * x.2) (by omega) (by omega), w64 (n := 2 * x.2 - 1) (by omega) (by omega), w64 (n := 0 - side) (by omega) (by omega)]
  refine Ev.of ?_
  unfold goesOf
  by_cases a1 : x.1 = 1 <;> by_cases a2 : x.1 = 2 <;> by_cases a3 : x.1 = 3 <;> by_cases a6 : x.1 = 6 <;> by_cases a4 : x.1 = 4 <;> simp [a1, a2, a3, a4, a6]
theorem flip1_ok {x : CellD} (hx : cellOK x = true) (h : x.1 = 3 ∨ x.1 = 6) : cellOK (flip1 x) = true := by
  obtain ⟨c1, c2, c3⟩ := cell_two hx
  unfold cellOK flip1
  simp only [decide_eq_true_eq]
  omega
theorem mem_at {α : Type} {l : List α} {x : α} (h : x ∈ l) : ∃ i : Nat, l[i]? = some x := List.getElem?_of_mem h
theorem stepAt_len (G K : List Int) (at' : Nat) (o : List CellD) : (stepAt G K at' o).length = o.length := by
  unfold stepAt turnAt
  split
  · exact turnGo_len _ _ _ _ _ _
  · rfl
theorem stepAt_ok (G K : List Int) {at' : Nat} {o : List CellD} (hx : ∀ x ∈ o, cellOK x = true) : ∀ x ∈ stepAt G K at' o, cellOK x = true := by
  unfold stepAt turnAt
  split
  · rename_i ht
    unfold turning at ht
    simp only [decide_eq_true_eq] at ht
    intro y hy
    obtain ⟨i, hi⟩ := mem_at hy
    rw [turnGo_at] at hi
    obtain ⟨x, h1, h2⟩ := Option.map_eq_some_iff.1 hi
    have hxo := hx x (List.mem_of_getElem? h1)
    split at h2
    · rename_i hc
      rw [← h2]
      refine flip1_ok hxo ?_
      rcases hc.1 with h | ⟨_, h, _⟩
      · rw [Nat.zero_add] at h
        subst h
        simpa [List.getD, h1] using ht
      · exact .inr h
    · rw [← h2]; exact hxo
  · exact hx
theorem stepAt_stuck (G K : List Int) {at' i : Nat} {o : List CellD} (hk : List.getD K i 0 = 1) : (stepAt G K at' o)[i]? = o[i]? := by
  unfold stepAt turnAt
  split
  · rw [turnGo_at, Nat.zero_add]
    cases h : o[i]? with
    | none => rfl
    | some x => rw [Option.map_some, if_neg (fun hc => hc.2 hk)]
  · rfl
/-- A marble's way, row by row: it comes to the bottom, or it stops before. -/
def fallL (b : BoardD) (G K : List Int) : Nat → Int → Int → Int → List CellD → LR (Int × List CellD) (FallD × List CellD)
  | 0, _, col, _, o => .go (col, o)
  | n + 1, row, col, side, o =>
    let at' := (row * b.2.1 + col).toNat
    let x := List.getD o at' (0, 0)
    if List.getD K at' 0 = 2 then .ret ((3, row, col), o)
    else if x.1 = 5 then .ret ((2, row, col), o)
    else
      let g := if List.getD K at' 0 = 3 then 0 - goesOf x side else goesOf x side
      if 0 ≤ col + g ∧ col + g < b.2.1 then fallL b G K n (row + 1) (col + g) (0 - g) (stepAt G K at' o) else .ret ((3, row, col + g), stepAt G K at' o)
def LR.map2 {Z R Z' R' : Type} (f : Z → Z') (g : R → R') : LR Z R → LR Z' R'
  | .go z => .go (f z) | .ret r => .ret (g r)
theorem e_impl_faultyDrop_0 (b : BoardD) (hb : boardOK b = true) (G K : List Int) (hG : G.length = b.2.2.length) (hK : K.length = b.2.2.length) (c0 c1 c2 : Int) : ∀ (n : Nat) (row col side : Int) (o : List CellD), row + n = b.1 → 0 ≤ row → 0 ≤ col → col < b.2.1 → -1 ≤ side → side ≤ 1 → o.length = b.2.2.length → (∀ x ∈ o, cellOK x = true) →
    Ev (fun k => f_impl_faultyDrop_0 k o b.1 b.2.1 c0 c1 c2 G K col side row) ((fallL b G K n row col side o).map2 (fun z => (z.2, b.1, b.2.1, c0, c1, c2, z.1)) id)
  | 0, row, col, side, o, hn, hr, hc, hc2, hs, hs2, ho, hx => by
    refine Ev.succ ?_
    have : ¬ row < b.1 := by omega
    simp only [f_impl_faultyDrop_0, this, decide_false, Bool.false_eq_true, if_false, fallL, LR.map2]
    exact Ev.some _
  | n + 1, row, col, side, o, hn, hr, hc, hc2, hs, hs2, ho, hx => by
    obtain ⟨g1, g2, g3, g4, g5, g6⟩ := board_ok hb
    have hpp := prod_small g1 g2 g3 g4
    have hrow : row < b.1 := by omega
    have hp := place_ok hb hr hrow hc hc2
    have hoI : row * b.2.1 + col < (o.length : Int) := by omega
    have hKI : row * b.2.1 + col < (K.length : Int) := by omega
    have hcast : ((row * b.2.1 + col).toNat : Int) = row * b.2.1 + col := Int.toNat_of_nonneg hp.1
    refine Ev.succ ?_
    simp only [f_impl_faultyDrop_0, fallL]
    rw [w64 (n := row * b.2.1) (by omega) (by omega), w64 (n := row * b.2.1 + col) (by omega) (by omega), w64 (n := row + 1) (by omega) (by omega)]
    simp only [hrow, hp.1, hKI, hoI, decide_true, if_true]
    have hxo := hx _ (cell_in hp.1 hoI (0, 0))
    have hgo := goesOf_in hxo hs hs2
    have ht := e_impl_IsTurning (List.getD o (row * b.2.1 + col).toNat (0, 0))
    rw [hxo, Bool.true_and] at ht
    have hturn := e_impl_turnFaulty b.1 b.2.1 o G K (row * b.2.1 + col).toNat (by omega) (by omega) (by omega) (by omega) hx
    rw [hcast] at hturn
    generalize hX : List.getD o (row * b.2.1 + col).toNat (0, 0) = X at *
    refine Ev.ite (fun h => ?_) (fun h => ?_)
    · simp only [decide_eq_true_eq] at h
      rw [if_pos h]
      exact Ev.some _
    simp only [decide_eq_true_eq] at h
    rw [if_neg h]
    refine Ev.bind (e_impl_GoesTo X side hxo hs hs2) ?_
    by_cases h5 : X.1 = 5
    · simp only [h5, if_true, Bool.not_false]
      exact Ev.some _
    simp only [h5, if_false, Bool.not_true, Bool.false_eq_true]
    have tail : ∀ g : Int, -1 ≤ g → g ≤ 1 → Ev (fun k => Option.bind (f_impl_IsTurning k X) fun z => if z = true then Option.bind (f_impl_turnFaulty k (b.1, b.2.1, o) G K (row * b.2.1 + col)) fun z2 => if decide (wrap64 (col + g) < 0) = true then some (LR.ret ((3, row, wrap64 (col + g)), z2)) else if decide (wrap64 (col + g) ≥ b.2.1) = true then some (LR.ret ((3, row, wrap64 (col + g)), z2)) else f_impl_faultyDrop_0 k z2 b.1 b.2.1 c0 c1 c2 G K (wrap64 (col + g)) (wrap64 (0 - g)) (row + 1)
        else if decide (wrap64 (col + g) < 0) = true then some (LR.ret ((3, row, wrap64 (col + g)), o)) else if decide (wrap64 (col + g) ≥ b.2.1) = true then some (LR.ret ((3, row, wrap64 (col + g)), o)) else f_impl_faultyDrop_0 k o b.1 b.2.1 c0 c1 c2 G K (wrap64 (col + g)) (wrap64 (0 - g)) (row + 1))
        (LR.map2 (fun z => (z.2, b.1, b.2.1, c0, c1, c2, z.1)) id (if 0 ≤ col + g ∧ col + g < b.2.1 then fallL b G K n (row + 1) (col + g) (0 - g) (stepAt G K (row * b.2.1 + col).toNat o) else .ret ((3, row, col + g), stepAt G K (row * b.2.1 + col).toNat o))) := by
      intro g hg hg2
      rw [w64 (n := col + g) (by omega) (by omega), w64 (n := 0 - g) (by omega) (by omega)]
      have last : ∀ o' : List CellD, o' = stepAt G K (row * b.2.1 + col).toNat o → Ev (fun k => if decide (col + g < 0) = true then some (LR.ret ((3, row, col + g), o')) else if decide (col + g ≥ b.2.1) = true then some (LR.ret ((3, row, col + g), o')) else f_impl_faultyDrop_0 k o' b.1 b.2.1 c0 c1 c2 G K (col + g) (0 - g) (row + 1))
          (LR.map2 (fun z => (z.2, b.1, b.2.1, c0, c1, c2, z.1)) id (if 0 ≤ col + g ∧ col + g < b.2.1 then fallL b G K n (row + 1) (col + g) (0 - g) (stepAt G K (row * b.2.1 + col).toNat o) else .ret ((3, row, col + g), stepAt G K (row * b.2.1 + col).toNat o))) := by
        intro o' ho'
        refine Ev.ite (fun q => ?_) (fun q => Ev.ite (fun q2 => ?_) (fun q2 => ?_))
        · simp only [decide_eq_true_eq] at q
          rw [if_neg (by omega), ho']
          exact Ev.some _
        · simp only [decide_eq_true_eq] at q2
          rw [if_neg (by omega), ho']
          exact Ev.some _
        · simp only [decide_eq_true_eq] at q q2
          rw [if_pos (by omega), ho']
          exact e_impl_faultyDrop_0 b hb G K hG hK c0 c1 c2 n (row + 1) (col + g) (0 - g) _ (by omega) (by omega) (by omega) (by omega) (by omega) (by omega) (by rw [stepAt_len]; exact ho) (stepAt_ok G K hx)
      refine Ev.bind ht ?_
      have hstep : stepAt G K (row * b.2.1 + col).toNat o = if turning X then turnAt G K (row * b.2.1 + col).toNat o else o := by unfold stepAt; rw [hX]
      cases htx : turning X with
      | true =>
        simp only [if_true]
        exact Ev.bind hturn (last _ (by rw [hstep, htx]; rfl))
      | false =>
        simp only [Bool.false_eq_true, if_false]
        exact last _ (by rw [hstep, htx]; rfl)
    refine Ev.ite (fun h3 => ?_) (fun h3 => ?_)
    · simp only [decide_eq_true_eq] at h3
      simp only [h3, if_true]
      rw [w64 (n := 0 - goesOf X side) (by omega) (by omega)]
      exact tail _ (by omega) (by omega)
    · simp only [decide_eq_true_eq] at h3
      simp only [h3, if_false]
      exact tail _ hgo.1 hgo.2
/-- A marble's end, and the cells behind it. -/
def fallEnd (b : BoardD) (z : LR (Int × List CellD) (FallD × List CellD)) : FallD × List CellD := match z with
  | .go z => ((1, b.1, z.1), z.2)
  | .ret r => r
def fallOf (b : BoardD) (G K : List Int) (col : Int) (o : List CellD) : FallD × List CellD := fallEnd b (fallL b G K b.1.toNat 0 col 0 o)
theorem e_impl_faultyDrop (b : BoardD) (hb : boardOK b = true) (G K : List Int) (hG : G.length = b.2.2.length) (hK : K.length = b.2.2.length) (col : Int) (hc : 0 ≤ col) (hc2 : col < b.2.1) (o : List CellD) (ho : o.length = b.2.2.length) (hx : ∀ x ∈ o, cellOK x = true) : Ev (fun k => f_impl_faultyDrop k (b.1, b.2.1, o) G K col) (fallOf b G K col o) := by
  obtain ⟨g1, g2, g3, g4, g5, g6⟩ := board_ok hb
  refine Ev.succ ?_
  simp only [f_impl_faultyDrop]
  refine Ev.bind (e_impl_faultyDrop_0 b hb G K hG hK 0 0 0 b.1.toNat 0 col 0 o (by omega) (by omega) hc hc2 (by omega) (by omega) ho hx) ?_
  unfold fallOf
  cases fallL b G K b.1.toNat 0 col 0 o with
  | go z => exact Ev.go (Ev.some _)
  | ret r => exact Ev.ret (Ev.some _)
theorem e_spec_faGo_2 (b : BoardD) (hb : boardOK b = true) (d1 d2 d3 d4 d5 : Int) (o4 : List CellD) (e1 e2 : Int) (v1 : List Int) (v2 : List FaultD) (v3 v12 v15 : Int) : ∀ (r pre : List FaultD) (o : List CellD), (∀ f ∈ r, 0 ≤ f.2.1 ∧ f.2.1 < b.1 ∧ 0 ≤ f.2.2 ∧ f.2.2 < b.2.1) → (pre ++ r).length ≤ 9223372036854775806 → o.length = b.2.2.length →
    Ev (fun k => f_spec_faGo_2 k b.1 b.2.1 b.2.2 d1 d2 d3 d4 d5 o4 e1 e2 o v1 v2 v3 v12 v15 (pre ++ r) ((pre ++ r).length : Int) (pre.length : Int)) (b.1, b.2.1, b.2.2, d1, d2, d3, d4, d5, o4, e1, e2, restore b r o, v1, v2, v3, v12, v15)
  | [], pre, o, hr, hl, ho => by
    refine Ev.succ ?_
    simp only [f_spec_faGo_2, nlt_end, decide_false, Bool.false_eq_true, if_false]
    exact Ev.some _
  | f :: r, pre, o, hr, hl, ho => by
    obtain ⟨k1, k2, k3, k4⟩ := hr f (List.mem_cons_self ..)
    have hp := place_ok hb k1 k2 k3 k4
    have hpo : f.2.1 * b.2.1 + f.2.2 < (o.length : Int) := by omega
    have hr' : ∀ g ∈ r, 0 ≤ g.2.1 ∧ g.2.1 < b.1 ∧ 0 ≤ g.2.2 ∧ g.2.2 < b.2.1 := fun g hg => hr g (List.mem_cons_of_mem _ hg)
    have ih := fun (o' : List CellD) (ho' : o'.length = b.2.2.length) => e_spec_faGo_2 b hb d1 d2 d3 d4 d5 o4 e1 e2 v1 v2 v3 v12 v15 r (pre ++ [f]) o' hr' (by simpa using hl) ho'
    simp only [← shift_mid] at ih
    have hrest : restore b (f :: r) o = restore b r (if f.1 = 1 then List.set o (placeOf b f).toNat (List.getD b.2.2 (placeOf b f).toNat (0, 0)) else o) := rfl
    rw [hrest]
    refine Ev.succ ?_
    simp only [f_spec_faGo_2, lt_mid, ge_mid, decide_true, if_true, Int.toNat_natCast, getD_mid]
    rw [next_mid pre f r (by omega), w64 (n := f.2.1 * b.2.1) (by omega) (by omega), w64 (n := f.2.1 * b.2.1 + f.2.2) (by omega) (by omega)]
    simp only [hp.1, hp.2.1, hpo, if_true]
    refine Ev.ite (fun h => ?_) (fun h => ?_)
    · simp only [decide_eq_true_eq] at h
      rw [if_pos h]
      exact ih _ (by rw [List.length_set]; exact ho)
    · simp only [decide_eq_true_eq] at h
      rw [if_neg h]
      exact ih _ ho
theorem e_spec_boOwn (b : BoardD) (h : b.2.2.length ≤ 1000000) : Ev (fun k => f_spec_boOwn k b) b := by
  refine Ev.succ ?_
  simp only [f_spec_boOwn, f_spec_boOwn_g1]
  have : 0 + b.2.2.length ≤ 140737488355328 / 16 := by omega
  simp only [this, if_true]
  exact Ev.some _
theorem e_impl_copyBoard (b : BoardD) (h : b.2.2.length ≤ 1000000) : Ev (fun k => f_impl_copyBoard k b) b := by
  refine Ev.succ ?_
  simp only [f_impl_copyBoard, f_impl_copyBoard_g1]
  have : 0 + b.2.2.length ≤ 140737488355328 / 16 := by omega
  simp only [this, if_true]
  exact Ev.some _
/-- The cells of a board lie where the board with other cells has its places. -/
theorem e_spec_boAt_on (b : BoardD) (hb : boardOK b = true) (o : List CellD) (ho : o.length = b.2.2.length) {r c : Int} (h1 : 0 ≤ r) (h2 : r < b.1) (h3 : 0 ≤ c) (h4 : c < b.2.1) : Ev (fun k => f_spec_boAt k (b.1, b.2.1, o) r c) (List.getD o (r * b.2.1 + c).toNat (0, 0)) := by
  have hp := place_ok hb h1 h2 h3 h4
  have hpo : r * b.2.1 + c < (o.length : Int) := by omega
  refine Ev.succ ?_
  simp only [f_spec_boAt]
  rw [w64 (n := r * b.2.1) (by omega) (by omega), w64 (n := r * b.2.1 + c) (by omega) (by omega)]
  simp only [hp.1, hpo, if_true]
  exact Ev.some _
theorem e_spec_faGo_0 (b : BoardD) (hb : boardOK b = true) (G : List Int) (hG : G.length = b.2.2.length) (l : List FaultD) (hl : faultsOK b (-1) l = true) (hll : l.length ≤ 9223372036854775806) (d1 d2 d3 d4 d5 : Int) (o4 : List CellD) : ∀ (n : Nat) (row col side : Int) (o : List CellD), row + n = b.1 → 0 ≤ row → 0 ≤ col → col < b.2.1 → -1 ≤ side → side ≤ 1 → o.length = b.2.2.length → (∀ x ∈ o, cellOK x = true) → (∀ i, i < o.length → List.getD (kindsB b l) i 0 = 1 → o[i]? = some (List.getD b.2.2 i (0, 0))) →
    Ev (fun k => f_spec_faGo_0 k b.1 b.2.1 b.2.2 d1 d2 d3 d4 d5 o4 b.1 b.2.1 o G l col side row) ((fallL b G (kindsB b l) n row col side o).map2 (fun z => (b.1, b.2.1, b.2.2, d1, d2, d3, d4, d5, o4, b.1, b.2.1, z.2, z.1)) (fun r => (r.1, b.1, b.2.1, r.2)))
  | 0, row, col, side, o, hn, hr, hc, hc2, hs, hs2, ho, hx, hst => by
    refine Ev.succ ?_
    have : ¬ row < b.1 := by omega
    simp only [f_spec_faGo_0, this, decide_false, Bool.false_eq_true, if_false, fallL, LR.map2]
    exact Ev.some _
  | n + 1, row, col, side, o, hn, hr, hc, hc2, hs, hs2, ho, hx, hst => by
    obtain ⟨g1, g2, g3, g4, g5, g6⟩ := board_ok hb
    have hpp := prod_small g1 g2 g3 g4
    have hrow : row < b.1 := by omega
    have hp := place_ok hb hr hrow hc hc2
    have hoI : row * b.2.1 + col < (o.length : Int) := by omega
    have hcast : ((row * b.2.1 + col).toNat : Int) = row * b.2.1 + col := Int.toNat_of_nonneg hp.1
    have hK : List.getD (kindsB b l) (row * b.2.1 + col).toNat 0 = faAtD row col 0 l := by
      unfold kindsB
      rw [kindsOf_at hb hr hrow hc hc2 hl (by simp)]
      congr 1
      simp only [List.getD, List.getElem?_replicate]
      split <;> rfl
    have hxo := hx _ (cell_in hp.1 hoI (0, 0))
    have hgo := goesOf_in hxo hs hs2
    have hpass := e_spec_flPass b.1 b.2.1 o G (row * b.2.1 + col).toNat (by omega) (by omega) (by omega) hx
    rw [hcast] at hpass
    have hres := restore_pass hb hl G ho (at' := (row * b.2.1 + col).toNat) (by omega) hst
    have hpl : (passAt G (row * b.2.1 + col).toNat o).length = b.2.2.length := by
      have := congrArg List.length hres
      rw [restore_len, stepAt_len] at this
      omega
    refine Ev.succ ?_
    simp only [f_spec_faGo_0, fallL]
    simp only [hrow, decide_true, if_true]
    refine Ev.bind (e_spec_boAt_on b hb o ho hr hrow hc hc2) ?_
    generalize hX : List.getD o (row * b.2.1 + col).toNat (0, 0) = X at *
    refine Ev.bind (e_spec_faAt l row col hll) ?_
    rw [hK]
    refine Ev.ite (fun h => ?_) (fun h => ?_)
    · simp only [decide_eq_true_eq] at h
      rw [if_pos h]
      simp only [f_spec_faGo_g9]
      exact Ev.bind (Ev.some _) (Ev.some _)
    simp only [decide_eq_true_eq] at h
    rw [if_neg h]
    refine Ev.ite (fun h5 => ?_) (fun h5 => ?_)
    · simp only [decide_eq_true_eq] at h5
      rw [if_pos h5]
      simp only [f_spec_faGo_g11]
      exact Ev.bind (Ev.some _) (Ev.some _)
    simp only [decide_eq_true_eq] at h5
    rw [if_neg h5]
    refine Ev.bind (e_spec_paGoes X side hxo hs hs2) ?_
    have hg : -1 ≤ (if faAtD row col 0 l = 3 then 0 - goesOf X side else goesOf X side) ∧ (if faAtD row col 0 l = 3 then 0 - goesOf X side else goesOf X side) ≤ 1 := by split <;> omega
    have hj : Ev (fun k => f_spec_faGo_j52 k b.1 b.2.1 b.2.2 d1 d2 d3 d4 d5 o4 b.1 b.2.1 o G l col row (goesOf X side) (decide (faAtD row col 0 l = 3))) (b.1, b.2.1, b.2.2, d1, d2, d3, d4, d5, o4, b.1, b.2.1, o, G, l, col, row, if faAtD row col 0 l = 3 then 0 - goesOf X side else goesOf X side) := by
      simp only [f_spec_faGo_j52]
      rw [w64 (n := 0 - goesOf X side) (by omega) (by omega)]
      refine Ev.of ?_
      by_cases h3 : faAtD row col 0 l = 3 <;> simp [h3]
    refine Ev.bind hj ?_
    generalize (if faAtD row col 0 l = 3 then 0 - goesOf X side else goesOf X side) = g at *
    dsimp only
    rw [w64 (n := row * b.2.1) (by omega) (by omega), w64 (n := row * b.2.1 + col) (by omega) (by omega)]
    refine Ev.bind hpass ?_
    refine Ev.bind (e_spec_faGo_2 b hb d1 d2 d3 d4 d5 o4 b.1 b.2.1 G l col row g l [] _ (faults_on hl) (by simpa using hll) hpl) ?_
    rw [hres]
    dsimp only
    rw [w64 (n := col + g) (by omega) (by omega), w64 (n := b.2.1 - 1) (by omega) (by omega), w64 (n := 0 - g) (by omega) (by omega), w64 (n := row + 1) (by omega) (by omega)]
    refine Ev.bind (e_spec_l1In _ _ _) (Ev.ite (fun q => ?_) (fun q => ?_))
    · have q : ¬ (0 ≤ col + g ∧ col + g ≤ b.2.1 - 1) := nd q
      rw [if_neg (by omega)]
      simp only [f_spec_faGo_g26]
      exact Ev.bind (Ev.some _) (Ev.some _)
    · have q : 0 ≤ col + g ∧ col + g ≤ b.2.1 - 1 := yd q
      rw [if_pos (by omega)]
      refine e_spec_faGo_0 b hb G hG l hl hll d1 d2 d3 d4 d5 o4 n (row + 1) (col + g) (0 - g) _ (by omega) (by omega) (by omega) (by omega) (by omega) (by omega) (by rw [stepAt_len]; exact ho) (stepAt_ok G _ hx) (fun i hi hk => ?_)
      rw [stepAt_stuck G _ hk]
      rw [stepAt_len] at hi
      exact hst i hi hk
theorem e_spec_faGo (b : BoardD) (hb : boardOK b = true) (G : List Int) (hG : G.length = b.2.2.length) (l : List FaultD) (hl : faultsOK b (-1) l = true) (hll : l.length ≤ 9223372036854775806) (col : Int) (hc : 0 ≤ col) (hc2 : col < b.2.1) : Ev (fun k => f_spec_faGo k b G l col) ((fallOf b G (kindsB b l) col b.2.2).1, b.1, b.2.1, (fallOf b G (kindsB b l) col b.2.2).2) := by
  obtain ⟨g1, g2, g3, g4, g5, g6⟩ := board_ok hb
  have hpp := prod_small g1 g2 g3 g4
  refine Ev.succ ?_
  simp only [f_spec_faGo]
  refine Ev.bind (e_spec_boOwn b (by omega)) ?_
  refine Ev.bind (e_spec_faGo_0 b hb G hG l hl hll 0 0 0 0 0 [] b.1.toNat 0 col 0 b.2.2 (by omega) (by omega) hc hc2 (by omega) (by omega) rfl g6 (fun i hi _ => by simp [List.getD, List.getElem?_eq_getElem hi])) ?_
  unfold fallOf
  cases fallL b G (kindsB b l) b.1.toNat 0 col 0 b.2.2 with
  | go z =>
    refine Ev.go ?_
    simp only [f_spec_faGo_g27]
    exact Ev.bind (Ev.some _) (Ev.some _)
  | ret r => exact Ev.ret (Ev.some _)
end Go.Proofs.YtkmbhhgibgocpaaDoor.Vs

set_option linter.unusedVariables false
set_option linter.unusedSimpArgs false
namespace Go.Proofs.YtkmbhhgibgocpaaDoor.Vs
open Go.RowKit
theorem e_laws_toFall (x : Int × Int × Int) : Ev (fun k => f_laws_toFall k x) x := Ev.succ (Ev.of rfl)
theorem e_laws_eqFall (x y : Int × Int × Int) : Ev (fun k => f_laws_eqFall k x y) (decide (x = y)) := by
  obtain ⟨a0, a1, a2⟩ := x
  obtain ⟨b0, b1, b2⟩ := y
  refine Ev.succ ?_
  simp only [f_laws_eqFall]
  refine Ev.of ?_
  by_cases h0 : a0 = b0 <;> by_cases h1 : a1 = b1 <;> by_cases h2 : a2 = b2 <;> simp [h0, h1, h2]
theorem e_laws_szFallS (l : List (Int × Int × Int)) (n : Int) (h0 : 0 ≤ n) (h1 : n ≤ 1048576) (hl : l.length ≤ 9223372036854775807) : Ev (fun k => f_laws_szFallS k l n) (if n - l.length < 0 then -1 else n - l.length) := by
  refine Ev.succ ?_
  simp only [f_laws_szFallS]
  refine Ev.of ?_
  rw [w64 (by omega) (by omega)]
  by_cases h : n - (l.length : Int) < 0 <;> simp [h]
theorem e_laws_toFallS_0 : ∀ (r pre rest : List (Int × Int × Int)), rest.length = r.length → (pre ++ r).length ≤ 1048576 → Ev (fun k => f_laws_toFallS_0 k (pre ++ rest) (pre ++ r) (pre.length : Int)) (pre ++ r)
  | [], pre, rest, h, hl => by
    obtain rfl : rest = [] := List.eq_nil_of_length_eq_zero h
    refine Ev.succ ?_
    simp only [f_laws_toFallS_0, nlt_end, decide_false, Bool.false_eq_true, if_false]
    exact Ev.some _
  | x :: r, pre, [], h, hl => by simp at h
  | x :: r, pre, y :: rest, h, hl => by
    have ih := e_laws_toFallS_0 r (pre ++ [x]) rest (by simpa using h) (by simpa using hl)
    refine Ev.succ ?_
    simp only [f_laws_toFallS_0, lt_mid, ge_mid, decide_true, if_true, Int.toNat_natCast, getD_mid, set_mid]
    rw [next_mid pre x r (by omega)]
    refine Ev.bind (e_laws_toFall x) ?_
    rw [← shift_mid, ← shift_mid] at ih
    exact ih
theorem e_laws_toFallS (l : List (Int × Int × Int)) (hl : l.length ≤ 1048576) : Ev (fun k => f_laws_toFallS k l) l := by
  refine Ev.succ ?_
  have hm : l.length * 24 ≤ 281474976710656 := by omega
  simp only [f_laws_toFallS, Int.toNat_natCast, hm, if_true]
  exact Ev.bind (e_laws_toFallS_0 l [] (List.replicate l.length (0, 0, 0)) (by simp) (by simpa using hl)) (Ev.some _)
theorem e_laws_eqFallS_0 : ∀ (r s pre : List (Int × Int × Int)) (pre' : List (Int × Int × Int)), s.length = r.length → pre'.length = pre.length → (pre ++ r).length ≤ 9223372036854775806 → Ev (fun k => f_laws_eqFallS_0 k (pre ++ r) (pre' ++ s) (pre.length : Int)) (if r = s then LR.go () else LR.ret false)
  | [], s, pre, pre', h, hp, hl => by
    obtain rfl : s = [] := List.eq_nil_of_length_eq_zero h
    refine Ev.succ ?_
    simp only [f_laws_eqFallS_0, nlt_end, decide_false, Bool.false_eq_true, if_false, if_true]
    exact Ev.some _
  | x :: r, [], pre, pre', h, hp, hl => by simp at h
  | x :: r, y :: s, pre, pre', h, hp, hl => by
    have ih := e_laws_eqFallS_0 r s (pre ++ [x]) (pre' ++ [y]) (by simpa using h) (by simpa using hp) (by simpa using hl)
    have l2 : (pre.length : Int) < ((pre' ++ y :: s).length : Int) := by rw [← hp]; exact lt_mid _ _ _
    have g2 : List.getD (pre' ++ y :: s) pre.length (0, 0, 0) = y := by rw [← hp]; exact getD_mid _ _ _ _
    refine Ev.succ ?_
    simp only [f_laws_eqFallS_0, lt_mid, ge_mid, l2, decide_true, if_true, Int.toNat_natCast, getD_mid, g2]
    rw [next_mid pre x r (by omega)]
    rw [← shift_mid, ← shift_mid] at ih
    refine Ev.bind (e_laws_eqFall x y) ?_
    by_cases hxy : x = y
    · subst hxy
      simp only [decide_true, Bool.not_true, Bool.false_eq_true, if_false]
      refine ih.congr ?_
      by_cases hrs : r = s <;> simp [hrs]
    · simp only [hxy, decide_false, Bool.not_false, if_true]
      refine Ev.of ?_
      rw [if_neg (by intro hc; injection hc with h1 h2; exact hxy h1)]
theorem e_laws_eqFallS (l m : List (Int × Int × Int)) (hl : l.length ≤ 9223372036854775806) : Ev (fun k => f_laws_eqFallS k l m) (decide (l = m)) := by
  refine Ev.succ ?_
  simp only [f_laws_eqFallS]
  by_cases h : l.length = m.length
  · simp only [h, ne_eq, not_true_eq_false, decide_false, Bool.false_eq_true, if_false]
    refine Ev.bind (e_laws_eqFallS_0 l m [] [] h.symm rfl (by simpa using hl)) ?_
    by_cases hlm : l = m
    · rw [if_pos hlm]; simp only [hlm, decide_true]; exact Ev.go (Ev.some _)
    · rw [if_neg hlm]; simp only [hlm, decide_false]; exact Ev.ret (Ev.some _)
  · have h2 : ¬ (l.length : Int) = (m.length : Int) := by omega
    have h3 : ¬ l = m := fun hc => h (by rw [hc])
    simp only [ne_eq, h2, not_false_eq_true, decide_true, if_true, h3, decide_false]
    exact Ev.some _
end Go.Proofs.YtkmbhhgibgocpaaDoor.Vs

set_option linter.unusedVariables false
set_option linter.unusedSimpArgs false
namespace Go.Proofs.YtkmbhhgibgocpaaDoor.Vs
open Go.RowKit
theorem fallL_len (b : BoardD) (G K : List Int) : ∀ (n : Nat) (row col side : Int) (o : List CellD), (fallEnd b (fallL b G K n row col side o)).2.length = o.length
  | 0, _, _, _, _ => rfl
  | n + 1, row, col, side, o => by
    unfold fallL
    dsimp only
    repeat' split
    all_goals first | rfl | (rw [fallL_len]; exact stepAt_len _ _ _ _) | exact stepAt_len _ _ _ _
end Go.Proofs.YtkmbhhgibgocpaaDoor.Vs

set_option linter.unusedVariables false
set_option linter.unusedSimpArgs false
namespace Go.Proofs.YtkmbhhgibgocpaaDoor.Vs
open Go.RowKit
/-! ### What marbles leave as it is -/
theorem stepAt_parts (G K : List Int) (at' : Nat) (o : List CellD) : (stepAt G K at' o).map Prod.fst = o.map Prod.fst := by
  unfold stepAt turnAt
  split
  · apply List.ext_getElem?
    intro i
    simp only [List.getElem?_map, turnGo_at]
    cases o[i]? with
    | none => rfl
    | some x =>
      simp only [Option.map_some]
      split <;> simp [flip1]
  · rfl
theorem fallL_keeps (b : BoardD) (G K : List Int) : ∀ (n : Nat) (row col side : Int) (o : List CellD), (∀ x ∈ o, cellOK x = true) → (∀ x ∈ (fallEnd b (fallL b G K n row col side o)).2, cellOK x = true) ∧ (fallEnd b (fallL b G K n row col side o)).2.map Prod.fst = o.map Prod.fst
  | 0, _, _, _, o, hx => ⟨hx, rfl⟩
  | n + 1, row, col, side, o, hx => by
    have h1 := fallL_keeps b G K n (row + 1)
    unfold fallL
    dsimp only
    have h2 := stepAt_ok G K (at' := (row * b.2.1 + col).toNat) hx
    have h3 := stepAt_parts G K (row * b.2.1 + col).toNat o
    repeat' split
    all_goals first | exact ⟨hx, rfl⟩ | exact ⟨h2, h3⟩ | exact ⟨(h1 _ _ _ h2).1, (h1 _ _ _ h2).2.trans h3⟩
theorem fallOf_cells (b : BoardD) (G K : List Int) (c : Int) {o : List CellD} (hx : ∀ x ∈ o, cellOK x = true) : ∀ x ∈ (fallOf b G K c o).2, cellOK x = true := (fallL_keeps b G K _ _ _ _ o hx).1
theorem fallOf_parts (b : BoardD) (G K : List Int) (c : Int) {o : List CellD} (hx : ∀ x ∈ o, cellOK x = true) : (fallOf b G K c o).2.map Prod.fst = o.map Prod.fst := (fallL_keeps b G K _ _ _ _ o hx).2
theorem fallL_dims {b b' : BoardD} (h : b.2.1 = b'.2.1) (G K : List Int) : ∀ (n : Nat) (row col side : Int) (o : List CellD), fallL b G K n row col side o = fallL b' G K n row col side o
  | 0, _, _, _, _ => rfl
  | n + 1, row, col, side, o => by simp only [fallL, h, fallL_dims h G K n]
theorem fallOf_dims {b b' : BoardD} (h1 : b.1 = b'.1) (h2 : b.2.1 = b'.2.1) (G K : List Int) (c : Int) (o : List CellD) : fallOf b G K c o = fallOf b' G K c o := by
  have : fallEnd b = fallEnd b' := by funext z; cases z <;> simp [fallEnd, h1]
  unfold fallOf
  rw [this, fallL_dims h2, h1]
theorem kindsB_dims {b b' : BoardD} (h : b.2.1 = b'.2.1) (hl : b.2.2.length = b'.2.2.length) (l : List FaultD) : kindsB b l = kindsB b' l := by simp only [kindsB, kindsOf, placeOf, h, hl]
theorem fits_part {x y : CellD} (h : x.1 = y.1) (k : Int) : fits x k = fits y k := by unfold fits turning; rw [h]
theorem getD_part {o o' : List CellD} (h : o.map Prod.fst = o'.map Prod.fst) (i : Nat) : (List.getD o i (0, 0)).1 = (List.getD o' i (0, 0)).1 := by
  have := congrArg (fun l => l[i]?) h
  simp only [List.getElem?_map] at this
  simp only [List.getD]
  cases h1 : o[i]? <;> cases h2 : o'[i]? <;> simp [h1, h2] at this ⊢
  exact this
theorem faultsOK_dims {b b' : BoardD} (h1 : b.1 = b'.1) (h2 : b.2.1 = b'.2.1) (h : b.2.2.map Prod.fst = b'.2.2.map Prod.fst) : ∀ (l : List FaultD) (last : Int), faultsOK b last l = faultsOK b' last l
  | [], _ => rfl
  | x :: r, last => by
    simp only [faultsOK, h1, h2, faultsOK_dims h1 h2 h r]
    rw [fits_part (getD_part h _)]
theorem board_on {b : BoardD} (hb : boardOK b = true) {o : List CellD} (ho : o.length = b.2.2.length) (hx : ∀ x ∈ o, cellOK x = true) : boardOK (b.1, b.2.1, o) = true := by
  obtain ⟨g1, g2, g3, g4, g5, g6⟩ := board_ok hb
  unfold boardOK
  have : (o.length : Int) = b.1 * b.2.1 := by omega
  simp only [g1, g2, g3, g4, this, and_self, decide_true, Bool.true_and]
  exact List.all_eq_true.2 hx
/-! ### One after the other -/
def runsOf (b : BoardD) (G K : List Int) : List Int → List CellD → List FallD × List CellD
  | [], o => ([], o)
  | c :: r, o => ((fallOf b G K c o).1 :: (runsOf b G K r (fallOf b G K c o).2).1, (runsOf b G K r (fallOf b G K c o).2).2)
theorem runsOf_len (b : BoardD) (G K : List Int) : ∀ (l : List Int) (o : List CellD), (runsOf b G K l o).1.length = l.length
  | [], _ => rfl
  | c :: r, o => by simp [runsOf, runsOf_len b G K r]
def colsOK (b : BoardD) (l : List Int) : Prop := ∀ c ∈ l, 0 ≤ c ∧ c < b.2.1
theorem e_spec_faAll_0 (b : BoardD) (hb : boardOK b = true) (G : List Int) (hG : G.length = b.2.2.length) (l : List FaultD) (hl : faultsOK b (-1) l = true) (hll : l.length ≤ 9223372036854775806) (d1 d2 : Int) (d3 : List CellD) : ∀ (r pre : List Int) (o : List CellD) (w : List FallD), colsOK b r → (pre ++ r).length ≤ 1000 → w.length = pre.length → o.length = b.2.2.length → (∀ x ∈ o, cellOK x = true) → o.map Prod.fst = b.2.2.map Prod.fst →
    Ev (fun k => f_spec_faAll_0 k d1 d2 d3 b.1 b.2.1 o G w l (pre ++ r) ((pre ++ r).length : Int) (pre.length : Int)) (d1, d2, d3, b.1, b.2.1, (runsOf b G (kindsB b l) r o).2, w ++ (runsOf b G (kindsB b l) r o).1)
  | [], pre, o, w, hc, hl1, hw, ho, hx, hp => by
    refine Ev.succ ?_
    simp only [f_spec_faAll_0, nlt_end, decide_false, Bool.false_eq_true, if_false]
    simp only [runsOf, List.append_nil]
    exact Ev.some _
  | c :: r, pre, o, w, hc, hl1, hw, ho, hx, hp => by
    obtain ⟨k1, k2⟩ := hc c (List.mem_cons_self ..)
    have hb' := board_on hb ho hx
    have hg := e_spec_faGo (b.1, b.2.1, o) hb' G (hG.trans ho.symm) l (by rw [faultsOK_dims (b := (b.1, b.2.1, o)) (b' := b) rfl rfl hp]; exact hl) hll c k1 k2
    rw [fallOf_dims (b := (b.1, b.2.1, o)) (b' := b) rfl rfl, kindsB_dims (b := (b.1, b.2.1, o)) (b' := b) rfl ho] at hg
    have hlw : w.length + 1 ≤ 140737488355328 / 24 := by simp at hl1; omega
    refine Ev.succ ?_
    simp only [f_spec_faAll_0, lt_mid, ge_mid, decide_true, if_true, Int.toNat_natCast, getD_mid]
    refine Ev.bind hg ?_
    simp only [List.length_singleton, hlw, if_true]
    rw [next_mid pre c r (by omega)]
    have ih := e_spec_faAll_0 b hb G hG l hl hll d1 d2 d3 r (pre ++ [c]) (fallOf b G (kindsB b l) c o).2 (w ++ [(fallOf b G (kindsB b l) c o).1]) (fun y hy => hc y (List.mem_cons_of_mem _ hy)) (by simpa using hl1) (by simp [hw]) ((fallL_len b G _ _ _ _ _ o).trans ho) (fallOf_cells _ _ _ _ hx) ((fallOf_parts _ _ _ _ hx).trans hp)
    rw [← shift_mid] at ih
    refine ih.congr ?_
    simp [runsOf]
theorem e_spec_faAll (b : BoardD) (hb : boardOK b = true) (l : List FaultD) (hl : faultsOK b (-1) l = true) (hll : l.length ≤ 9223372036854775806) (t : List Int) (ht : t.length ≤ 1000) (hc : colsOK b t) : Ev (fun k => f_spec_faAll k b l t) ((runsOf b (groupsOf b) (kindsB b l) t b.2.2).1, b.1, b.2.1, (runsOf b (groupsOf b) (kindsB b l) t b.2.2).2) := by
  obtain ⟨g1, g2, g3, g4, g5, g6⟩ := board_ok hb
  have hpp := prod_small g1 g2 g3 g4
  refine Ev.succ ?_
  simp only [f_spec_faAll]
  have h0 : Ev (fun k => f_spec_faAll_g1 k b.1 b.2.1 b.2.2 0 0 [] l t) (0, 0, [], b.1, b.2.1, b.2.2, groupsOf b, l, t) := by
    simp only [f_spec_faAll_g1]
    exact Ev.bind (e_spec_boOwn b (by omega)) (Ev.bind (e_spec_ggGroups b hb) (Ev.some _))
  refine Ev.bind h0 ?_
  refine Ev.bind (e_spec_faAll_0 b hb (groupsOf b) (groupsOf_len b) l hl hll 0 0 [] t [] b.2.2 [] hc (by simpa using ht) rfl rfl g6 rfl) ?_
  exact Ev.some _
theorem e_impl_faultyDrops_0 (b : BoardD) (hb : boardOK b = true) (G K : List Int) (hG : G.length = b.2.2.length) (hK : K.length = b.2.2.length) (d1 d2 : Int) (d3 : List CellD) : ∀ (r pre : List Int) (o : List CellD) (w : List FallD), colsOK b r → (pre ++ r).length ≤ 1000 → w.length = pre.length → o.length = b.2.2.length → (∀ x ∈ o, cellOK x = true) →
    Ev (fun k => f_impl_faultyDrops_0 k d1 d2 d3 b.1 b.2.1 o G K w (pre ++ r) ((pre ++ r).length : Int) (pre.length : Int)) (d1, d2, d3, b.1, b.2.1, (runsOf b G K r o).2, w ++ (runsOf b G K r o).1)
  | [], pre, o, w, hc, hl1, hw, ho, hx => by
    refine Ev.succ ?_
    simp only [f_impl_faultyDrops_0, nlt_end, decide_false, Bool.false_eq_true, if_false]
    simp only [runsOf, List.append_nil]
    exact Ev.some _
  | c :: r, pre, o, w, hc, hl1, hw, ho, hx => by
    obtain ⟨k1, k2⟩ := hc c (List.mem_cons_self ..)
    have hg := e_impl_faultyDrop b hb G K hG hK c k1 k2 o ho hx
    have hlw : w.length + 1 ≤ 140737488355328 / 24 := by simp at hl1; omega
    refine Ev.succ ?_
    simp only [f_impl_faultyDrops_0, lt_mid, ge_mid, decide_true, if_true, Int.toNat_natCast, getD_mid]
    refine Ev.bind hg ?_
    simp only [List.length_singleton, hlw, if_true]
    rw [next_mid pre c r (by omega)]
    have ih := e_impl_faultyDrops_0 b hb G K hG hK d1 d2 d3 r (pre ++ [c]) (fallOf b G K c o).2 (w ++ [(fallOf b G K c o).1]) (fun y hy => hc y (List.mem_cons_of_mem _ hy)) (by simpa using hl1) (by simp [hw]) ((fallL_len b G _ _ _ _ _ o).trans ho) (fallOf_cells _ _ _ _ hx)
    rw [← shift_mid] at ih
    refine ih.congr ?_
    simp [runsOf]
theorem e_impl_faultyDrops (b : BoardD) (hb : boardOK b = true) (l : List FaultD) (hl : faultsOK b (-1) l = true) (hll : l.length ≤ 9223372036854775806) (t : List Int) (ht : t.length ≤ 1000) (hc : colsOK b t) : Ev (fun k => f_impl_faultyDrops k b l t) ((runsOf b (groupsOf b) (kindsB b l) t b.2.2).1, b.1, b.2.1, (runsOf b (groupsOf b) (kindsB b l) t b.2.2).2) := by
  obtain ⟨g1, g2, g3, g4, g5, g6⟩ := board_ok hb
  have hpp := prod_small g1 g2 g3 g4
  refine Ev.succ ?_
  simp only [f_impl_faultyDrops]
  refine Ev.bind (e_impl_copyBoard b (by omega)) (Ev.bind (e_impl_groupNumbers b hb) (Ev.bind (e_impl_faultsByCell b hb l hl hll) ?_))
  refine Ev.bind (e_impl_faultyDrops_0 b hb (groupsOf b) (kindsB b l) (groupsOf_len b) (kindsB_len b l) 0 0 [] t [] b.2.2 [] hc (by simpa using ht) rfl rfl g6) ?_
  exact Ev.some _
/-! ### Without faults -/
end Go.Proofs.YtkmbhhgibgocpaaDoor.Vs

set_option linter.unusedVariables false
set_option linter.unusedSimpArgs false
namespace Go.Proofs.YtkmbhhgibgocpaaDoor.Vs
open Go.RowKit
/-! ### Tests -/
theorem e_impl_validEntries_0 (b : BoardD) : ∀ (r pre : List Int), (pre ++ r).length ≤ 9223372036854775806 → Ev (fun k => f_impl_validEntries_0 k b.1 b.2.1 b.2.2 (pre ++ r) ((pre ++ r).length : Int) (pre.length : Int)) (if r.all (fun c => decide (0 ≤ c ∧ c < b.2.1)) then LR.go () else LR.ret false)
  | [], pre, hl => by
    refine Ev.succ ?_
    simp only [f_impl_validEntries_0, nlt_end, decide_false, Bool.false_eq_true, if_false, List.all_nil, if_true]
    exact Ev.some _
  | x :: r, pre, hl => by
    have ih := e_impl_validEntries_0 b r (pre ++ [x]) (by simpa using hl)
    refine Ev.succ ?_
    simp only [f_impl_validEntries_0, lt_mid, ge_mid, decide_true, if_true, Int.toNat_natCast, getD_mid]
    rw [next_mid pre x r (by omega)]
    rw [← shift_mid] at ih
    refine Ev.ite (fun h => ?_) (fun h => Ev.ite (fun h2 => ?_) (fun h2 => ?_))
    · simp only [decide_eq_true_eq] at h
      have hx : ¬ (0 ≤ x ∧ x < b.2.1) := by omega
      simp only [hx, List.all_cons, decide_false, Bool.false_and, Bool.false_eq_true, if_false]; exact Ev.some _
    · simp only [decide_eq_true_eq] at h2
      have hx : ¬ (0 ≤ x ∧ x < b.2.1) := by omega
      simp only [hx, List.all_cons, decide_false, Bool.false_and, Bool.false_eq_true, if_false]; exact Ev.some _
    · simp only [decide_eq_true_eq] at h h2
      have hx : 0 ≤ x ∧ x < b.2.1 := by omega
      simp only [hx, and_self, List.all_cons, decide_true, Bool.true_and]; exact ih
theorem e_impl_validEntries (b : BoardD) (l : List Int) (hb : b.2.2.length ≤ 9223372036854775806) (hl : l.length ≤ 9223372036854775806) : Ev (fun k => f_impl_validEntries k b l) (boardOK b && decide (l.length ≤ 60) && l.all fun c => decide (0 ≤ c ∧ c < b.2.1)) := by
  refine Ev.succ ?_
  simp only [f_impl_validEntries]
  refine Ev.bind (e_impl_IsBoard b hb) ?_
  cases hbo : boardOK b with
  | false => simp only [Bool.not_false, if_true, Bool.false_and]; exact Ev.some _
  | true =>
    simp only [Bool.not_true, Bool.false_eq_true, if_false, Bool.true_and]
    refine Ev.ite (fun h => Ev.of ?_) (fun h => ?_)
    · simp only [decide_eq_true_eq] at h
      have : ¬ l.length ≤ 60 := by omega
      simp [this]
    · simp only [decide_eq_true_eq] at h
      have h6 : l.length ≤ 60 := by omega
      refine Ev.bind (e_impl_validEntries_0 b l [] (by simpa using hl)) ?_
      simp only [h6, decide_true, Bool.true_and]
      cases hx : l.all (fun c => decide (0 ≤ c ∧ c < b.2.1)) with
      | true => simp only [if_true]; exact Ev.go (Ev.some _)
      | false => simp only [Bool.false_eq_true, if_false]; exact Ev.ret (Ev.some _)
end Go.Proofs.YtkmbhhgibgocpaaDoor.Vs

set_option linter.unusedVariables false
set_option linter.unusedSimpArgs false
namespace Go.Proofs.YtkmbhhgibgocpaaDoor.Vs
open Go.RowKit
theorem e_laws_toIntS_0 : ∀ (r pre rest : List Int), rest.length = r.length → (pre ++ r).length ≤ 1048576 → Ev (fun k => f_laws_toIntS_0 k (pre ++ rest) (pre ++ r) (pre.length : Int)) (pre ++ r)
  | [], pre, rest, h, hl => by
    obtain rfl : rest = [] := List.eq_nil_of_length_eq_zero h
    refine Ev.succ ?_
    simp only [f_laws_toIntS_0, nlt_end, decide_false, Bool.false_eq_true, if_false]
    exact Ev.some _
  | x :: r, pre, [], h, hl => by simp at h
  | x :: r, pre, y :: rest, h, hl => by
    have ih := e_laws_toIntS_0 r (pre ++ [x]) rest (by simpa using h) (by simpa using hl)
    refine Ev.succ ?_
    simp only [f_laws_toIntS_0, lt_mid, ge_mid, decide_true, if_true, Int.toNat_natCast, getD_mid, set_mid]
    rw [next_mid pre x r (by omega)]
    rw [← shift_mid, ← shift_mid] at ih
    exact ih
theorem e_laws_toIntS (l : List Int) (hl : l.length ≤ 1048576) : Ev (fun k => f_laws_toIntS k l) l := by
  refine Ev.succ ?_
  have hm : l.length * 8 ≤ 281474976710656 := by omega
  simp only [f_laws_toIntS, Int.toNat_natCast, hm, if_true]
  exact Ev.bind (e_laws_toIntS_0 l [] (List.replicate l.length 0) (by simp) (by simpa using hl)) (Ev.some _)
theorem e_laws_eqIntS_0 : ∀ (r s pre : List Int) (pre' : List Int), s.length = r.length → pre'.length = pre.length → (pre ++ r).length ≤ 9223372036854775806 → Ev (fun k => f_laws_eqIntS_0 k (pre ++ r) (pre' ++ s) (pre.length : Int)) (if r = s then LR.go () else LR.ret false)
  | [], s, pre, pre', h, hp, hl => by
    obtain rfl : s = [] := List.eq_nil_of_length_eq_zero h
    refine Ev.succ ?_
    simp only [f_laws_eqIntS_0, nlt_end, decide_false, Bool.false_eq_true, if_false, if_true]
    exact Ev.some _
  | x :: r, [], pre, pre', h, hp, hl => by simp at h
  | x :: r, y :: s, pre, pre', h, hp, hl => by
    have ih := e_laws_eqIntS_0 r s (pre ++ [x]) (pre' ++ [y]) (by simpa using h) (by simpa using hp) (by simpa using hl)
    have l2 : (pre.length : Int) < ((pre' ++ y :: s).length : Int) := by rw [← hp]; exact lt_mid _ _ _
    have g2 : List.getD (pre' ++ y :: s) pre.length 0 = y := by rw [← hp]; exact getD_mid _ _ _ _
    refine Ev.succ ?_
    simp only [f_laws_eqIntS_0, lt_mid, ge_mid, l2, decide_true, if_true, Int.toNat_natCast, getD_mid, g2]
    rw [next_mid pre x r (by omega)]
    rw [← shift_mid, ← shift_mid] at ih
    by_cases hxy : x = y
    · subst hxy
      simp only [ne_eq, not_true_eq_false, decide_false, Bool.false_eq_true, if_false]
      refine ih.congr ?_
      by_cases hrs : r = s <;> simp [hrs]
    · simp only [ne_eq, hxy, not_false_eq_true, decide_true, if_true]
      refine Ev.of ?_
      rw [if_neg (by intro hc; injection hc with h1 h2; exact hxy h1)]
theorem e_laws_eqIntS (l m : List Int) (hl : l.length ≤ 9223372036854775806) : Ev (fun k => f_laws_eqIntS k l m) (decide (l = m)) := by
  refine Ev.succ ?_
  simp only [f_laws_eqIntS]
  by_cases h : l.length = m.length
  · simp only [h, ne_eq, not_true_eq_false, decide_false, Bool.false_eq_true, if_false]
    refine Ev.bind (e_laws_eqIntS_0 l m [] [] h.symm rfl (by simpa using hl)) ?_
    by_cases hlm : l = m
    · rw [if_pos hlm]; simp only [hlm, decide_true]; exact Ev.go (Ev.some _)
    · rw [if_neg hlm]; simp only [hlm, decide_false]; exact Ev.ret (Ev.some _)
  · have h2 : ¬ (l.length : Int) = (m.length : Int) := by omega
    have h3 : ¬ l = m := fun hc => h (by rw [hc])
    simp only [ne_eq, h2, not_false_eq_true, decide_true, if_true, h3, decide_false]
    exact Ev.some _
end Go.Proofs.YtkmbhhgibgocpaaDoor.Vs

set_option linter.unusedVariables false
set_option linter.unusedSimpArgs false
namespace Go.Proofs.YtkmbhhgibgocpaaDoor.Vs
open Go.RowKit
theorem eq3 (x y : FallD) : (decide (x.1 = y.1) && (decide (x.2.1 = y.2.1) && (decide (x.2.2 = y.2.2) && true))) = decide (x = y) := by
  obtain ⟨a0, a1, a2⟩ := x
  obtain ⟨b0, b1, b2⟩ := y
  by_cases h0 : a0 = b0 <;> by_cases h1 : a1 = b1 <;> by_cases h2 : a2 = b2 <;> simp [h0, h1, h2]
/-- The first place where two rows differ. -/
def diffIx : Nat → List FallD → List FallD → Option Nat
  | i, x :: r, y :: s => if x = y then diffIx (i + 1) r s else some i
  | _, _, _ => none
def ixOf : Option Nat → Int
  | none => -1
  | some i => (i : Int)
def lrOf {R : Type} (f : Nat → R) : Option Nat → LR Unit R
  | none => .go ()
  | some i => .ret (f i)
theorem diffIx_none : ∀ (i : Nat) (r s : List FallD), s.length = r.length → (diffIx i r s = none ↔ r = s)
  | i, [], s, h => by
    obtain rfl : s = [] := List.eq_nil_of_length_eq_zero h
    simp [diffIx]
  | i, x :: r, [], h => by simp at h
  | i, x :: r, y :: s, h => by
    have ih := diffIx_none (i + 1) r s (by simpa using h)
    by_cases hxy : x = y <;> simp [diffIx, hxy, ih]
theorem ix_neg (z : Option Nat) : ixOf z < 0 ↔ z = none := by
  cases z with
  | none => simp [ixOf]
  | some i => simp only [ixOf, reduceCtorEq, iff_false]; omega
theorem e_spec_faSame_0 : ∀ (r s pre pre' : List FallD), s.length = r.length → pre'.length = pre.length → (pre ++ r).length ≤ 1000000 → Ev (fun k => f_spec_faSame_0 k (pre' ++ s) (pre ++ r) ((pre ++ r).length : Int) (pre.length : Int)) (lrOf (fun i => (i : Int)) (diffIx pre.length r s))
  | [], s, pre, pre', h, hp, hl => by
    obtain rfl : s = [] := List.eq_nil_of_length_eq_zero h
    refine Ev.succ ?_
    simp only [f_spec_faSame_0, nlt_end, decide_false, Bool.false_eq_true, if_false]
    exact Ev.some _
  | x :: r, [], pre, pre', h, hp, hl => by simp at h
  | x :: r, y :: s, pre, pre', h, hp, hl => by
    have ih := e_spec_faSame_0 r s (pre ++ [x]) (pre' ++ [y]) (by simpa using h) (by simpa using hp) (by simpa using hl)
    have l2 : (pre.length : Int) < ((pre' ++ y :: s).length : Int) := by rw [← hp]; exact lt_mid _ _ _
    have g2 : List.getD (pre' ++ y :: s) pre.length (0, 0, 0) = y := by rw [← hp]; exact getD_mid _ _ _ _
    refine Ev.succ ?_
    simp only [f_spec_faSame_0, lt_mid, ge_mid, l2, decide_true, if_true, Int.toNat_natCast, getD_mid, g2, eq3]
    rw [next_mid pre x r (by omega)]
    rw [← shift_mid, ← shift_mid] at ih
    refine Ev.ite (fun hh => ?_) (fun hh => ?_)
    · have hh : ¬ x = y := nd hh
      exact Ev.of (by simp [diffIx, hh, lrOf])
    · have hh : x = y := yd hh
      refine ih.congr ?_
      simp [diffIx, hh]
theorem e_slices_Equal_impl_Fall_impl_Fall_0 : ∀ (r s pre pre' : List FallD), s.length = r.length → pre'.length = pre.length → (pre ++ r).length ≤ 1000000 → Ev (fun k => f_slices_Equal_impl_Fall_impl_Fall_0 k (pre ++ r) (pre' ++ s) ((pre ++ r).length : Int) (pre.length : Int)) (lrOf (fun _ => false) (diffIx pre.length r s))
  | [], s, pre, pre', h, hp, hl => by
    obtain rfl : s = [] := List.eq_nil_of_length_eq_zero h
    refine Ev.succ ?_
    simp only [f_slices_Equal_impl_Fall_impl_Fall_0, nlt_end, decide_false, Bool.false_eq_true, if_false]
    exact Ev.some _
  | x :: r, [], pre, pre', h, hp, hl => by simp at h
  | x :: r, y :: s, pre, pre', h, hp, hl => by
    have ih := e_slices_Equal_impl_Fall_impl_Fall_0 r s (pre ++ [x]) (pre' ++ [y]) (by simpa using h) (by simpa using hp) (by simpa using hl)
    have l2 : (pre.length : Int) < ((pre' ++ y :: s).length : Int) := by rw [← hp]; exact lt_mid _ _ _
    have g2 : List.getD (pre' ++ y :: s) pre.length (0, 0, 0) = y := by rw [← hp]; exact getD_mid _ _ _ _
    refine Ev.succ ?_
    simp only [f_slices_Equal_impl_Fall_impl_Fall_0, lt_mid, ge_mid, l2, decide_true, if_true, Int.toNat_natCast, getD_mid, g2, eq3]
    rw [next_mid pre x r (by omega)]
    rw [← shift_mid, ← shift_mid] at ih
    refine Ev.ite (fun hh => ?_) (fun hh => ?_)
    · have hh : ¬ x = y := nd hh
      exact Ev.of (by simp [diffIx, hh, lrOf])
    · have hh : x = y := yd hh
      refine ih.congr ?_
      simp [diffIx, hh]
theorem e_spec_faSame (l m : List FallD) (h : m.length = l.length) (hl : l.length ≤ 1000000) : Ev (fun k => f_spec_faSame k l m) (ixOf (diffIx 0 l m)) := by
  refine Ev.succ ?_
  simp only [f_spec_faSame]
  refine Ev.bind (e_spec_faSame_0 l m [] [] h rfl (by simpa using hl)) ?_
  simp only [List.length_nil]
  cases diffIx 0 l m with
  | none => exact Ev.go (Ev.some _)
  | some i => exact Ev.ret (Ev.some _)
theorem e_slices_Equal_impl_Fall_impl_Fall (l m : List FallD) (hl : l.length ≤ 1000000) : Ev (fun k => f_slices_Equal_impl_Fall_impl_Fall k l m) (decide (l = m)) := by
  refine Ev.succ ?_
  simp only [f_slices_Equal_impl_Fall_impl_Fall]
  by_cases h : l.length = m.length
  · simp only [h, ne_eq, not_true_eq_false, decide_false, Bool.false_eq_true, if_false]
    have hh := e_slices_Equal_impl_Fall_impl_Fall_0 l m [] [] h.symm rfl (by simpa using hl)
    simp only [List.nil_append, List.length_nil, h] at hh
    refine Ev.bind hh ?_
    have hn := diffIx_none 0 l m h.symm
    cases hd : diffIx 0 l m with
    | none =>
      rw [hd] at hn
      simp only [hn.1 rfl, decide_true]
      exact Ev.go (Ev.some _)
    | some i =>
      rw [hd] at hn
      have : ¬ l = m := fun hc => by have := hn.2 hc; cases this
      simp only [this, decide_false]
      exact Ev.ret (Ev.some _)
  · have h2 : ¬ (l.length : Int) = (m.length : Int) := by omega
    have h3 : ¬ l = m := fun hc => h (by rw [hc])
    simp only [ne_eq, h2, not_false_eq_true, decide_true, if_true, h3, decide_false]
    exact Ev.some _
def endOK (b : BoardD) (e : FallD) : Bool := decide (1 ≤ e.1 ∧ e.1 ≤ 3) && decide (0 ≤ e.2.1 ∧ e.2.1 ≤ b.1) && decide (-1 ≤ e.2.2 ∧ e.2.2 ≤ b.2.1)
/-- Marbles and what was seen of them. -/
def seenOK (b : BoardD) (t : List Int) (s : List FallD) : Bool := boardOK b && (decide (b.2.2.length ≤ 24) && (decide (t.length ≤ 20) && ((t.all fun c => decide (0 ≤ c ∧ c < b.2.1)) && (decide (s.length = t.length) && s.all (endOK b)))))
theorem seen_ok {b : BoardD} {t : List Int} {s : List FallD} (h : seenOK b t s = true) : boardOK b = true ∧ b.2.2.length ≤ 24 ∧ t.length ≤ 20 ∧ colsOK b t ∧ s.length = t.length := by
  unfold seenOK at h
  simp only [Bool.and_eq_true, decide_eq_true_eq, List.all_eq_true] at h
  exact ⟨h.1, h.2.1, h.2.2.1, h.2.2.2.1, h.2.2.2.2.1⟩
theorem e_spec_dgGood_0 (b : BoardD) : ∀ (r pre : List FallD), (pre ++ r).length ≤ 9223372036854775806 → Ev (fun k => f_spec_dgGood_0 k b.1 b.2.1 b.2.2 (pre ++ r) ((pre ++ r).length : Int) (pre.length : Int)) (if r.all (endOK b) then LR.go () else LR.ret false)
  | [], pre, hl => by
    refine Ev.succ ?_
    simp only [f_spec_dgGood_0, nlt_end, decide_false, Bool.false_eq_true, if_false, List.all_nil, if_true]
    exact Ev.some _
  | x :: r, pre, hl => by
    have ih := e_spec_dgGood_0 b r (pre ++ [x]) (by simpa using hl)
    refine Ev.succ ?_
    simp only [f_spec_dgGood_0, lt_mid, ge_mid, decide_true, if_true, Int.toNat_natCast, getD_mid]
    rw [next_mid pre x r (by omega)]
    rw [← shift_mid] at ih
    simp only [List.all_cons]
    have hd : endOK b x = (decide (1 ≤ x.1 ∧ x.1 ≤ 3) && decide (0 ≤ x.2.1 ∧ x.2.1 ≤ b.1) && decide (-1 ≤ x.2.2 ∧ x.2.2 ≤ b.2.1)) := rfl
    refine Ev.bind (e_spec_l1In _ _ _) (Ev.ite (fun h => ?_) (fun h1 => ?_))
    · have h := nd (c := 1 ≤ x.1 ∧ x.1 ≤ 3) h
      exact Ev.of (by simp [hd, h])
    refine Ev.bind (e_spec_l1In _ _ _) (Ev.ite (fun h => ?_) (fun h2 => ?_))
    · have h := nd (c := 0 ≤ x.2.1 ∧ x.2.1 ≤ b.1) h
      exact Ev.of (by simp only [hd, h, decide_false, Bool.and_false, Bool.false_and, Bool.false_eq_true, if_false])
    refine Ev.bind (e_spec_l1In _ _ _) (Ev.ite (fun h => ?_) (fun h3 => ?_))
    · have h := nd (c := -1 ≤ x.2.2 ∧ x.2.2 ≤ b.2.1) h
      exact Ev.of (by simp only [hd, h, decide_false, Bool.and_false, Bool.false_and, Bool.false_eq_true, if_false])
    have h1 := yd (c := 1 ≤ x.1 ∧ x.1 ≤ 3) h1
    have h2 := yd (c := 0 ≤ x.2.1 ∧ x.2.1 ≤ b.1) h2
    have h3 := yd (c := -1 ≤ x.2.2 ∧ x.2.2 ≤ b.2.1) h3
    refine ih.congr ?_
    simp only [hd, h1, h2, h3, and_self, decide_true, Bool.true_and]
theorem e_spec_dgGood (b : BoardD) (t : List Int) (s : List FallD) (hb : b.2.2.length ≤ 9223372036854775806) (ht : t.length ≤ 9223372036854775806) (hs : s.length ≤ 9223372036854775806) : Ev (fun k => f_spec_dgGood k b t s) (seenOK b t s) := by
  refine Ev.succ ?_
  simp only [f_spec_dgGood]
  have hdg : Ev (fun k => f_spec_dgBoard k b) (boardOK b && decide (b.2.2.length ≤ 24)) := by
    refine Ev.succ ?_
    simp only [f_spec_dgBoard]
    refine Ev.bind (e_spec_boGood b hb) (Ev.of ?_)
    have : ((b.2.2.length : Int) ≤ 24) ↔ b.2.2.length ≤ 24 := by omega
    cases boardOK b <;> simp [this]
  refine Ev.bind hdg ?_
  unfold seenOK
  rw [← Bool.and_assoc]
  cases h0 : (boardOK b && decide (b.2.2.length ≤ 24)) with
  | false => simp only [Bool.not_false, if_true, Bool.false_and]; exact Ev.some _
  | true =>
    have hbo : boardOK b = true := by rw [Bool.and_eq_true] at h0; exact h0.1
    obtain ⟨g1, g2, g3, g4, g5, g6⟩ := board_ok hbo
    simp only [Bool.not_true, Bool.false_eq_true, if_false, Bool.true_and]
    rw [w64 (n := b.2.1 - 1) (by omega) (by omega)]
    refine Ev.ite (fun h => ?_) (fun h => ?_)
    · simp only [decide_eq_true_eq] at h
      have : ¬ t.length ≤ 20 := by omega
      simp only [this, decide_false, Bool.false_and]
      exact Ev.some _
    simp only [decide_eq_true_eq] at h
    have h20 : t.length ≤ 20 := by omega
    simp only [h20, decide_true, Bool.true_and]
    have hall : (t.all fun n => decide (0 ≤ n ∧ n ≤ b.2.1 - 1)) = (t.all fun c => decide (0 ≤ c ∧ c < b.2.1)) := by
      congr 1
      funext c
      have : (0 ≤ c ∧ c ≤ b.2.1 - 1) ↔ (0 ≤ c ∧ c < b.2.1) := by omega
      simp only [this]
    refine Ev.bind (e_spec_l1All t _ _ ht) ?_
    rw [hall]
    cases h1 : (t.all fun c => decide (0 ≤ c ∧ c < b.2.1)) with
    | false => simp only [Bool.not_false, if_true, Bool.false_and]; exact Ev.some _
    | true =>
      simp only [Bool.not_true, Bool.false_eq_true, if_false, Bool.true_and]
      refine Ev.ite (fun h => ?_) (fun h => ?_)
      · simp only [decide_eq_true_eq] at h
        have : ¬ s.length = t.length := by omega
        simp only [this, decide_false, Bool.false_and]
        exact Ev.some _
      simp only [decide_eq_true_eq] at h
      have hst : s.length = t.length := by omega
      rw [decide_eq_true hst, Bool.true_and]
      refine Ev.bind (e_spec_dgGood_0 b s [] (by simpa using hs)) ?_
      cases s.all (endOK b) with
      | true => simp only [if_true]; exact Ev.go (Ev.some _)
      | false => simp only [Bool.false_eq_true, if_false]; exact Ev.ret (Ev.some _)
theorem e_impl_isSeen_0 (b : BoardD) : ∀ (r pre : List FallD), (pre ++ r).length ≤ 9223372036854775806 → Ev (fun k => f_impl_isSeen_0 k b.1 b.2.1 b.2.2 (pre ++ r) ((pre ++ r).length : Int) (pre.length : Int)) (if r.all (endOK b) then LR.go () else LR.ret false)
  | [], pre, hl => by
    refine Ev.succ ?_
    simp only [f_impl_isSeen_0, nlt_end, decide_false, Bool.false_eq_true, if_false, List.all_nil, if_true]
    exact Ev.some _
  | x :: r, pre, hl => by
    have ih := e_impl_isSeen_0 b r (pre ++ [x]) (by simpa using hl)
    refine Ev.succ ?_
    simp only [f_impl_isSeen_0, lt_mid, ge_mid, decide_true, if_true, Int.toNat_natCast, getD_mid]
    rw [next_mid pre x r (by omega)]
    rw [← shift_mid] at ih
    simp only [List.all_cons]
    have hd : endOK b x = decide (1 ≤ x.1 ∧ x.1 ≤ 3 ∧ 0 ≤ x.2.1 ∧ x.2.1 ≤ b.1 ∧ -1 ≤ x.2.2 ∧ x.2.2 ≤ b.2.1) := by
      unfold endOK
      rw [← Bool.decide_and, ← Bool.decide_and]
      exact decide_eq_decide.2 (by omega)
    have no : ¬ (1 ≤ x.1 ∧ x.1 ≤ 3 ∧ 0 ≤ x.2.1 ∧ x.2.1 ≤ b.1 ∧ -1 ≤ x.2.2 ∧ x.2.2 ≤ b.2.1) → (if (endOK b x && r.all (endOK b)) = true then LR.go () else LR.ret false : LR Unit Bool) = LR.ret false := by
      intro h
      simp only [hd, h, decide_false, Bool.false_and, Bool.false_eq_true, if_false]
    refine Ev.ite (fun h => Ev.of ?_) (fun a1 => Ev.ite (fun h => Ev.of ?_) (fun a2 => Ev.ite (fun h => Ev.of ?_) (fun a3 => Ev.ite (fun h => Ev.of ?_) (fun a4 => Ev.ite (fun h => Ev.of ?_) (fun a5 => Ev.ite (fun h => Ev.of ?_) (fun a6 => ?_))))))
    all_goals try (simp only [decide_eq_true_eq] at h; exact congrArg some (no (by omega)).symm)
    simp only [decide_eq_true_eq] at a1 a2 a3 a4 a5 a6
    have : 1 ≤ x.1 ∧ x.1 ≤ 3 ∧ 0 ≤ x.2.1 ∧ x.2.1 ≤ b.1 ∧ -1 ≤ x.2.2 ∧ x.2.2 ≤ b.2.1 := by omega
    refine ih.congr ?_
    simp only [hd, decide_eq_true this, Bool.true_and]
theorem e_impl_isSeen (b : BoardD) (t : List Int) (s : List FallD) (hb : b.2.2.length ≤ 9223372036854775806) (ht : t.length ≤ 9223372036854775806) (hs : s.length ≤ 9223372036854775806) : Ev (fun k => f_impl_isSeen k b t s) (seenOK b t s) := by
  refine Ev.succ ?_
  simp only [f_impl_isSeen]
  refine Ev.bind (e_impl_validEntries b t hb ht) ?_
  unfold seenOK
  have no : ∀ {p q r : Bool} {c : Bool}, (p && (q && (r && (c && (decide (s.length = t.length) && s.all (endOK b)))))) = true → p = true ∧ q = true ∧ r = true ∧ c = true ∧ s.length = t.length ∧ s.all (endOK b) = true := by
    intro p q r c h
    simp only [Bool.and_eq_true, decide_eq_true_eq] at h
    exact ⟨h.1, h.2.1, h.2.2.1, h.2.2.2.1, h.2.2.2.2.1, h.2.2.2.2.2⟩
  generalize hv : (boardOK b && (decide (b.2.2.length ≤ 24) && (decide (t.length ≤ 20) && ((t.all fun c => decide (0 ≤ c ∧ c < b.2.1)) && (decide (s.length = t.length) && s.all (endOK b)))))) = v
  have out : (∀ (h1 : boardOK b = true) (h2 : b.2.2.length ≤ 24) (h3 : t.length ≤ 20) (h4 : (t.all fun c => decide (0 ≤ c ∧ c < b.2.1)) = true) (h5 : s.length = t.length) (h6 : s.all (endOK b) = true), False) → v = false := by
    intro h
    cases hb : v with
    | false => rfl
    | true =>
      rw [hb] at hv
      obtain ⟨a1, a2, a3, a4, a5, a6⟩ := no hv
      exact (h a1 (of_decide_eq_true a2) (of_decide_eq_true a3) a4 a5 a6).elim
  refine Ev.ite (fun h => ?_) (fun h => ?_)
  · rw [out (fun h1 h2 h3 h4 h5 h6 => by
      have h3' : t.length ≤ 60 := by omega
      rw [h1, h4, decide_eq_true h3'] at h
      cases h)]
    exact Ev.some _
  simp only [Bool.not_eq_true, Bool.not_eq_false', Bool.and_eq_true, decide_eq_true_eq] at h
  obtain ⟨⟨a1, a2⟩, a3⟩ := h
  refine Ev.ite (fun h => ?_) (fun h => ?_)
  · simp only [decide_eq_true_eq] at h
    rw [out (fun h1 h2 h3 h4 h5 h6 => by omega)]
    exact Ev.some _
  refine Ev.ite (fun h' => ?_) (fun h' => ?_)
  · simp only [decide_eq_true_eq] at h'
    rw [out (fun h1 h2 h3 h4 h5 h6 => by omega)]
    exact Ev.some _
  refine Ev.ite (fun h'' => ?_) (fun h'' => ?_)
  · simp only [decide_eq_true_eq] at h''
    rw [out (fun h1 h2 h3 h4 h5 h6 => by omega)]
    exact Ev.some _
  simp only [decide_eq_true_eq] at h h' h''
  have b2 : b.2.2.length ≤ 24 := by omega
  have b3 : t.length ≤ 20 := by omega
  have b5 : s.length = t.length := by omega
  rw [a1, a3, decide_eq_true b2, decide_eq_true b3, decide_eq_true b5, Bool.true_and, Bool.true_and, Bool.true_and, Bool.true_and, Bool.true_and] at hv
  subst hv
  refine Ev.bind (e_impl_isSeen_0 b s [] (by simpa using hs)) ?_
  cases s.all (endOK b) with
  | true => simp only [if_true]; exact Ev.go (Ev.some _)
  | false => simp only [Bool.false_eq_true, if_false]; exact Ev.ret (Ev.some _)
/-! ### What is seen -/
def endsOf (b : BoardD) (l : List FaultD) (t : List Int) : List FallD := (runsOf b (groupsOf b) (kindsB b l) t b.2.2).1
theorem endsOf_len (b : BoardD) (l : List FaultD) (t : List Int) : (endsOf b l t).length = t.length := runsOf_len _ _ _ _ _
theorem e_spec_dgExplains (b : BoardD) (hb : boardOK b = true) (l : List FaultD) (hl : faultsOK b (-1) l = true) (hll : l.length ≤ 9223372036854775806) (t : List Int) (ht : t.length ≤ 1000) (hc : colsOK b t) (s : List FallD) (hs : s.length = t.length) : Ev (fun k => f_spec_dgExplains k b l t s) (decide (endsOf b l t = s)) := by
  refine Ev.succ ?_
  simp only [f_spec_dgExplains]
  have he := endsOf_len b l t
  refine Ev.bind (e_spec_faAll b hb l hl hll t ht hc) (Ev.bind (e_spec_faSame (endsOf b l t) s (by omega) (by omega)) (Ev.of ?_))
  congr 1
  exact decide_eq_decide.2 ((ix_neg _).trans (diffIx_none 0 _ _ (by omega)))
theorem e_impl_explainsEnds (b : BoardD) (hb : boardOK b = true) (l : List FaultD) (hl : faultsOK b (-1) l = true) (hll : l.length ≤ 9223372036854775806) (t : List Int) (ht : t.length ≤ 1000) (hc : colsOK b t) (s : List FallD) : Ev (fun k => f_impl_explainsEnds k b l t s) (decide (endsOf b l t = s)) := by
  refine Ev.succ ?_
  simp only [f_impl_explainsEnds]
  have he := endsOf_len b l t
  exact Ev.bind (e_impl_faultyDrops b hb l hl hll t ht hc) (Ev.bind (e_slices_Equal_impl_Fall_impl_Fall (endsOf b l t) s (by omega)) (Ev.some _))
end Go.Proofs.YtkmbhhgibgocpaaDoor.Vs

set_option linter.unusedVariables false
set_option linter.unusedSimpArgs false
namespace Go.Proofs.YtkmbhhgibgocpaaDoor.Vs
open Go.RowKit
def kindsAt (C i : Int) (x : CellD) : List FaultD := ([1, 2, 3].filter (fits x)).map fun kd => (kd, Int.tdiv i C, Int.tmod i C)
/-- All faults that the cells can have, by their cells, then by their kinds. -/
def possFrom (C : Int) : Int → List CellD → List FaultD
  | _, [] => []
  | i, x :: r => kindsAt C i x ++ possFrom C (i + 1) r
theorem kindsAt_len (C i : Int) (x : CellD) : (kindsAt C i x).length ≤ 3 := by
  unfold kindsAt
  rw [List.length_map]
  exact Nat.le_trans (List.length_filter_le _ _) (by simp)
theorem possFrom_len (C : Int) : ∀ (r : List CellD) (i : Int), (possFrom C i r).length ≤ 3 * r.length
  | [], _ => by simp [possFrom]
  | x :: r, i => by
    have h1 := kindsAt_len C i x
    have h2 := possFrom_len C r (i + 1)
    simp only [possFrom, List.length_append, List.length_cons]
    omega
theorem tdiv_in {i C : Int} (hi : 0 ≤ i) (hC : 1 ≤ C) : 0 ≤ Int.tdiv i C ∧ Int.tdiv i C ≤ i := by
  rw [Int.tdiv_eq_ediv_of_nonneg hi]
  exact ⟨Int.ediv_nonneg hi (by omega), Int.ediv_le_self _ hi⟩
theorem e_spec_faPossible_2_step (R C : Int) (cs : List CellD) (x : CellD) (i kd : Int) (hi : 0 ≤ i) (hi2 : i ≤ 90) (hC : 1 ≤ C) (hk : 1 ≤ kd) (hk2 : kd ≤ 3) (v8 : List CellD) (v9 v10 : Int) (o : List FaultD) (ho : o.length ≤ 1000) (z : Int × Int × List CellD × List FaultD × List CellD × Int × Int)
    (h : Ev (fun k => f_spec_faPossible_2 k R C cs (if fits x kd then o ++ [(kd, Int.tdiv i C, Int.tmod i C)] else o) x.1 x.2 i (kd + 1) v8 v9 v10) z) : Ev (fun k => f_spec_faPossible_2 k R C cs o x.1 x.2 i kd v8 v9 v10) z := by
  have hd := tdiv_in hi hC
  have hC0 : ¬ C = 0 := by omega
  have hlen : o.length + 1 ≤ 5864062014805 := by omega
  refine Ev.succ ?_
  simp only [f_spec_faPossible_2, hk2, decide_true, if_true]
  rw [w64 (n := kd + 1) (by omega) (by omega), w64 (n := Int.tdiv i C) (by omega) (by omega)]
  refine Ev.bind (e_spec_faFits x kd) ?_
  cases hf : fits x kd with
  | true =>
    simp only [hf, if_true] at h
    simp only [if_true, hC0, if_false, List.length_singleton]
    have : o.length + 1 ≤ 140737488355328 / 24 := by omega
    simp only [this, if_true]
    exact h
  | false =>
    simp only [hf, Bool.false_eq_true, if_false] at h
    simp only [Bool.false_eq_true, if_false]
    exact h
theorem e_spec_faPossible_2 (R C : Int) (cs : List CellD) (x : CellD) (i : Int) (hi : 0 ≤ i) (hi2 : i ≤ 90) (hC : 1 ≤ C) (v8 : List CellD) (v9 v10 : Int) (o : List FaultD) (ho : o.length ≤ 900) : Ev (fun k => f_spec_faPossible_2 k R C cs o x.1 x.2 i 1 v8 v9 v10) (R, C, cs, o ++ kindsAt C i x, v8, v9, v10) := by
  have e1 : (if fits x 1 then o ++ [(1, Int.tdiv i C, Int.tmod i C)] else o) = o ++ (if fits x 1 then [(1, Int.tdiv i C, Int.tmod i C)] else []) := by split <;> simp
  refine e_spec_faPossible_2_step R C cs x i 1 hi hi2 hC (by omega) (by omega) v8 v9 v10 o (by omega) _ ?_
  rw [e1]
  generalize h1 : (if fits x 1 then [((1 : Int), Int.tdiv i C, Int.tmod i C)] else []) = o1
  have l1 : o1.length ≤ 1 := by rw [← h1]; split <;> simp
  refine e_spec_faPossible_2_step R C cs x i 2 hi hi2 hC (by omega) (by omega) v8 v9 v10 _ (by simp; omega) _ ?_
  have e2 : (if fits x 2 then (o ++ o1) ++ [(2, Int.tdiv i C, Int.tmod i C)] else o ++ o1) = (o ++ o1) ++ (if fits x 2 then [(2, Int.tdiv i C, Int.tmod i C)] else []) := by split <;> simp
  rw [e2]
  generalize h2 : (if fits x 2 then [((2 : Int), Int.tdiv i C, Int.tmod i C)] else []) = o2
  have l2 : o2.length ≤ 1 := by rw [← h2]; split <;> simp
  refine e_spec_faPossible_2_step R C cs x i 3 hi hi2 hC (by omega) (by omega) v8 v9 v10 _ (by simp; omega) _ ?_
  refine Ev.succ ?_
  simp only [f_spec_faPossible_2]
  have h4 : ¬ (3 + 1 : Int) ≤ 3 := by omega
  simp only [h4, decide_false, Bool.false_eq_true, if_false]
  refine Ev.of ?_
  rw [← h1, ← h2]
  unfold kindsAt
  cases f1 : fits x 1 <;> cases f2 : fits x 2 <;> cases f3 : fits x 3 <;> simp [List.filter, f1, f2, f3]
theorem e_spec_faPossible_0 (R C : Int) (hC : 1 ≤ C) (cs : List CellD) : ∀ (r pre : List CellD) (o : List FaultD), (pre ++ r).length ≤ 90 → o.length ≤ 3 * pre.length → Ev (fun k => f_spec_faPossible_0 k R C cs o (pre ++ r) ((pre ++ r).length : Int) (pre.length : Int)) (o ++ possFrom C pre.length r)
  | [], pre, o, hl, ho => by
    refine Ev.succ ?_
    simp only [f_spec_faPossible_0, nlt_end, decide_false, Bool.false_eq_true, if_false, possFrom]
    rw [List.append_nil o]
    exact Ev.some _
  | x :: r, pre, o, hl, ho => by
    have hl2 := hl
    simp only [List.length_append, List.length_cons] at hl2
    have hka : (kindsAt C pre.length x).length ≤ 3 := kindsAt_len _ _ _
    have ih := e_spec_faPossible_0 R C hC cs r (pre ++ [x]) (o ++ kindsAt C pre.length x) (by simpa using hl) (by simp; omega)
    refine Ev.succ ?_
    simp only [f_spec_faPossible_0, lt_mid, ge_mid, decide_true, if_true, Int.toNat_natCast, getD_mid]
    refine Ev.bind (e_spec_faPossible_2 R C cs x (pre.length : Int) (by omega) (by omega) hC (pre ++ x :: r) ((pre ++ x :: r).length : Int) (pre.length : Int) o (by omega)) ?_
    show Ev (fun k => f_spec_faPossible_0 k R C cs (o ++ kindsAt C pre.length x) (pre ++ x :: r) ((pre ++ x :: r).length : Int) (wrap64 ((pre.length : Int) + 1))) _
    rw [next_mid pre x r (by omega)]
    rw [← shift_mid] at ih
    refine ih.congr ?_
    simp [possFrom]
theorem e_spec_faPossible (b : BoardD) (hb : boardOK b = true) : Ev (fun k => f_spec_faPossible k b) (possFrom b.2.1 0 b.2.2) := by
  obtain ⟨g1, g2, g3, g4, g5, g6⟩ := board_ok hb
  have hp := prod_small g1 g2 g3 g4
  refine Ev.succ ?_
  simp only [f_spec_faPossible]
  exact Ev.bind (e_spec_faPossible_0 b.1 b.2.1 g3 b.2.2 b.2.2 [] [] (by simp; omega) (by simp)) (Ev.some _)
theorem e_impl_possibleFaults_2_step (R C : Int) (cs : List CellD) (x : CellD) (hx : cellOK x = true) (i kd : Int) (hi : 0 ≤ i) (hi2 : i ≤ 90) (hC : 1 ≤ C) (hk : 1 ≤ kd) (hk2 : kd ≤ 3) (v8 : List CellD) (v9 v10 : Int) (o : List FaultD) (ho : o.length ≤ 1000) (z : Int × Int × List CellD × List FaultD × List CellD × Int × Int)
    (h : Ev (fun k => f_impl_possibleFaults_2 k R C cs (if fits x kd then o ++ [(kd, Int.tdiv i C, Int.tmod i C)] else o) x.1 x.2 i (kd + 1) v8 v9 v10) z) : Ev (fun k => f_impl_possibleFaults_2 k R C cs o x.1 x.2 i kd v8 v9 v10) z := by
  have hd := tdiv_in hi hC
  have hC0 : ¬ C = 0 := by omega
  have hlen : o.length + 1 ≤ 5864062014805 := by omega
  refine Ev.succ ?_
  simp only [f_impl_possibleFaults_2, hk2, decide_true, if_true]
  rw [w64 (n := kd + 1) (by omega) (by omega), w64 (n := Int.tdiv i C) (by omega) (by omega)]
  refine Ev.bind (e_impl_canHave x kd hx) ?_
  cases hf : fits x kd with
  | true =>
    simp only [hf, if_true] at h
    simp only [if_true, hC0, if_false, List.length_singleton]
    have : o.length + 1 ≤ 140737488355328 / 24 := by omega
    simp only [this, if_true]
    exact h
  | false =>
    simp only [hf, Bool.false_eq_true, if_false] at h
    simp only [Bool.false_eq_true, if_false]
    exact h
theorem e_impl_possibleFaults_2 (R C : Int) (cs : List CellD) (x : CellD) (hx : cellOK x = true) (i : Int) (hi : 0 ≤ i) (hi2 : i ≤ 90) (hC : 1 ≤ C) (v8 : List CellD) (v9 v10 : Int) (o : List FaultD) (ho : o.length ≤ 900) : Ev (fun k => f_impl_possibleFaults_2 k R C cs o x.1 x.2 i 1 v8 v9 v10) (R, C, cs, o ++ kindsAt C i x, v8, v9, v10) := by
  have e1 : (if fits x 1 then o ++ [(1, Int.tdiv i C, Int.tmod i C)] else o) = o ++ (if fits x 1 then [(1, Int.tdiv i C, Int.tmod i C)] else []) := by split <;> simp
  refine e_impl_possibleFaults_2_step R C cs x hx i 1 hi hi2 hC (by omega) (by omega) v8 v9 v10 o (by omega) _ ?_
  rw [e1]
  generalize h1 : (if fits x 1 then [((1 : Int), Int.tdiv i C, Int.tmod i C)] else []) = o1
  have l1 : o1.length ≤ 1 := by rw [← h1]; split <;> simp
  refine e_impl_possibleFaults_2_step R C cs x hx i 2 hi hi2 hC (by omega) (by omega) v8 v9 v10 _ (by simp; omega) _ ?_
  have e2 : (if fits x 2 then (o ++ o1) ++ [(2, Int.tdiv i C, Int.tmod i C)] else o ++ o1) = (o ++ o1) ++ (if fits x 2 then [(2, Int.tdiv i C, Int.tmod i C)] else []) := by split <;> simp
  rw [e2]
  generalize h2 : (if fits x 2 then [((2 : Int), Int.tdiv i C, Int.tmod i C)] else []) = o2
  have l2 : o2.length ≤ 1 := by rw [← h2]; split <;> simp
  refine e_impl_possibleFaults_2_step R C cs x hx i 3 hi hi2 hC (by omega) (by omega) v8 v9 v10 _ (by simp; omega) _ ?_
  refine Ev.succ ?_
  simp only [f_impl_possibleFaults_2]
  have h4 : ¬ (3 + 1 : Int) ≤ 3 := by omega
  simp only [h4, decide_false, Bool.false_eq_true, if_false]
  refine Ev.of ?_
  rw [← h1, ← h2]
  unfold kindsAt
  cases f1 : fits x 1 <;> cases f2 : fits x 2 <;> cases f3 : fits x 3 <;> simp [List.filter, f1, f2, f3]
theorem e_impl_possibleFaults_0 (R C : Int) (hC : 1 ≤ C) (cs : List CellD) : ∀ (r pre : List CellD) (o : List FaultD), (∀ y ∈ r, cellOK y = true) → (pre ++ r).length ≤ 90 → o.length ≤ 3 * pre.length → Ev (fun k => f_impl_possibleFaults_0 k R C cs o (pre ++ r) ((pre ++ r).length : Int) (pre.length : Int)) (o ++ possFrom C pre.length r)
  | [], pre, o, hx, hl, ho => by
    refine Ev.succ ?_
    simp only [f_impl_possibleFaults_0, nlt_end, decide_false, Bool.false_eq_true, if_false, possFrom]
    rw [List.append_nil o]
    exact Ev.some _
  | x :: r, pre, o, hx, hl, ho => by
    have hl2 := hl
    simp only [List.length_append, List.length_cons] at hl2
    have hka : (kindsAt C pre.length x).length ≤ 3 := kindsAt_len _ _ _
    have ih := e_impl_possibleFaults_0 R C hC cs r (pre ++ [x]) (o ++ kindsAt C pre.length x) (fun y hy => hx y (List.mem_cons_of_mem _ hy)) (by simpa using hl) (by simp; omega)
    refine Ev.succ ?_
    simp only [f_impl_possibleFaults_0, lt_mid, ge_mid, decide_true, if_true, Int.toNat_natCast, getD_mid]
    refine Ev.bind (e_impl_possibleFaults_2 R C cs x (hx x (List.mem_cons_self ..)) (pre.length : Int) (by omega) (by omega) hC (pre ++ x :: r) ((pre ++ x :: r).length : Int) (pre.length : Int) o (by omega)) ?_
    show Ev (fun k => f_impl_possibleFaults_0 k R C cs (o ++ kindsAt C pre.length x) (pre ++ x :: r) ((pre ++ x :: r).length : Int) (wrap64 ((pre.length : Int) + 1))) _
    rw [next_mid pre x r (by omega)]
    rw [← shift_mid] at ih
    refine ih.congr ?_
    simp [possFrom]
theorem e_impl_possibleFaults (b : BoardD) (hb : boardOK b = true) : Ev (fun k => f_impl_possibleFaults k b) (possFrom b.2.1 0 b.2.2) := by
  obtain ⟨g1, g2, g3, g4, g5, g6⟩ := board_ok hb
  have hp := prod_small g1 g2 g3 g4
  refine Ev.succ ?_
  simp only [f_impl_possibleFaults]
  exact Ev.bind (e_impl_possibleFaults_0 b.1 b.2.1 g3 b.2.2 b.2.2 [] [] g6 (by simp; omega) (by simp)) (Ev.some _)
theorem div_mod {i C : Int} (hi : 0 ≤ i) (hC : 1 ≤ C) : Int.tdiv i C * C + Int.tmod i C = i ∧ 0 ≤ Int.tmod i C ∧ Int.tmod i C < C ∧ 0 ≤ Int.tdiv i C := by
  rw [Int.tdiv_eq_ediv_of_nonneg hi, Int.tmod_eq_emod_of_nonneg hi]
  refine ⟨?_, Int.emod_nonneg _ (by omega), Int.emod_lt_of_pos _ (by omega), Int.ediv_nonneg hi (by omega)⟩
  rw [Int.mul_comm]
  exact Int.mul_ediv_add_emod i C
theorem kindsAt_mem {C i : Int} {x : CellD} {f : FaultD} (h : f ∈ kindsAt C i x) : f.2.1 = Int.tdiv i C ∧ f.2.2 = Int.tmod i C ∧ fits x f.1 = true := by
  unfold kindsAt at h
  obtain ⟨kd, h1, rfl⟩ := List.mem_map.1 h
  exact ⟨rfl, rfl, (List.mem_filter.1 h1).2⟩
theorem poss_mem {C : Int} : ∀ {r : List CellD} {i : Nat} {f : FaultD}, f ∈ possFrom C i r → ∃ j : Nat, i ≤ j ∧ j < i + r.length ∧ f.2.1 = Int.tdiv j C ∧ f.2.2 = Int.tmod j C ∧ fits (List.getD r (j - i) (0, 0)) f.1 = true
  | [], i, f, h => by simp [possFrom] at h
  | x :: r, i, f, h => by
    simp only [possFrom, List.mem_append] at h
    rcases h with h | h
    · obtain ⟨h1, h2, h3⟩ := kindsAt_mem h
      exact ⟨i, Nat.le_refl _, by simp, h1, h2, by simpa using h3⟩
    · have h' : f ∈ possFrom C ((i + 1 : Nat) : Int) r := h
      obtain ⟨j, h1, h2, h3, h4, h5⟩ := poss_mem h'
      refine ⟨j, by omega, by simp only [List.length_cons]; omega, h3, h4, ?_⟩
      rw [show j - i = (j - (i + 1)) + 1 by omega]
      exact h5
theorem poss_fault {b : BoardD} (hb : boardOK b = true) {f : FaultD} (h : f ∈ possFrom b.2.1 0 b.2.2) : 0 ≤ f.2.1 ∧ f.2.1 < b.1 ∧ 0 ≤ f.2.2 ∧ f.2.2 < b.2.1 ∧ fits (List.getD b.2.2 (placeOf b f).toNat (0, 0)) f.1 = true := by
  obtain ⟨g1, g2, g3, g4, g5, g6⟩ := board_ok hb
  have h' : f ∈ possFrom b.2.1 ((0 : Nat) : Int) b.2.2 := h
  obtain ⟨j, h1, h2, h3, h4, h5⟩ := poss_mem h'
  obtain ⟨d1, d2, d3, d4⟩ := div_mod (i := (j : Int)) (C := b.2.1) (by omega) g3
  have hp : placeOf b f = j := by unfold placeOf; rw [h3, h4]; exact d1
  refine ⟨by rw [h3]; exact d4, ?_, by rw [h4]; exact d2, by rw [h4]; exact d3, ?_⟩
  · rw [h3]
    by_cases hh : Int.tdiv (j : Int) b.2.1 < b.1
    · exact hh
    · have := Int.mul_le_mul_of_nonneg_right (show b.1 ≤ Int.tdiv (j : Int) b.2.1 by omega) (show 0 ≤ b.2.1 by omega)
      omega
  · rw [hp]
    simpa using h5
theorem poss_one {b : BoardD} (hb : boardOK b = true) {f : FaultD} (h : f ∈ possFrom b.2.1 0 b.2.2) : faultsOK b (-1) [f] = true := by
  obtain ⟨h1, h2, h3, h4, h5⟩ := poss_fault hb h
  have hp := place_ok hb h1 h2 h3 h4
  unfold placeOf at h5
  have h6 : 0 ≤ f.2.1 ∧ f.2.1 < b.1 ∧ 0 ≤ f.2.2 ∧ f.2.2 < b.2.1 ∧ -1 < f.2.1 * b.2.1 + f.2.2 := ⟨h1, h2, h3, h4, by omega⟩
  simp only [faultsOK, h5, h6, and_self, decide_true, Bool.and_self]
theorem poss_count {b : BoardD} (hb : boardOK b = true) : (possFrom b.2.1 0 b.2.2).length ≤ 270 := by
  obtain ⟨g1, g2, g3, g4, g5, g6⟩ := board_ok hb
  have hpp := prod_small g1 g2 g3 g4
  have := possFrom_len b.2.1 b.2.2 0
  omega
end Go.Proofs.YtkmbhhgibgocpaaDoor.Vs

set_option linter.unusedVariables false
set_option linter.unusedSimpArgs false
namespace Go.Proofs.YtkmbhhgibgocpaaDoor.Vs
open Go.RowKit
def singlesOf (b : BoardD) (t : List Int) (s : List FallD) : List FaultD := (possFrom b.2.1 0 b.2.2).filter fun f => decide (endsOf b [f] t = s)
theorem e_spec_dgSingle_0 (b : BoardD) (hb : boardOK b = true) (t : List Int) (ht : t.length ≤ 1000) (hc : colsOK b t) (s : List FallD) (hs : s.length = t.length) : ∀ (r pre acc : List FaultD), (∀ f ∈ r, faultsOK b (-1) [f] = true) → (pre ++ r).length ≤ 1000 → acc.length ≤ pre.length → Ev (fun k => f_spec_dgSingle_0 k b.1 b.2.1 b.2.2 acc (pre ++ r) t s ((pre ++ r).length : Int) (pre.length : Int)) (acc ++ r.filter (fun f => decide (endsOf b [f] t = s)))
  | [], pre, acc, hf, hl, ha => by
    refine Ev.succ ?_
    simp only [f_spec_dgSingle_0, nlt_end, decide_false, Bool.false_eq_true, if_false]
    exact Ev.of (by simp)
  | f :: r, pre, acc, hf, hl, ha => by
    have ih := fun acc' ha' => e_spec_dgSingle_0 b hb t ht hc s hs r (pre ++ [f]) acc' (fun g hg => hf g (List.mem_cons_of_mem _ hg)) (by simpa using hl) ha'
    simp only [← shift_mid] at ih
    have hal : acc.length + 1 ≤ 140737488355328 / 24 := by simp at hl; omega
    have h1 := e_spec_dgExplains b hb [f] (hf f (List.mem_cons_self ..)) (by simp) t ht hc s hs
    refine Ev.succ ?_
    simp only [f_spec_dgSingle_0, lt_mid, ge_mid, decide_true, if_true, Int.toNat_natCast, getD_mid, List.length_singleton, hal]
    rw [next_mid pre f r (by omega)]
    refine Ev.bind h1 (Ev.ite (fun h => ?_) (fun h => ?_))
    · have h : (fun f => decide (endsOf b [f] t = s)) f = true := h
      refine (ih (acc ++ [f]) (by simp; omega)).congr ?_
      simp only [List.filter_cons, h, if_true, List.append_assoc, List.singleton_append]
    · have h : ¬ (fun f => decide (endsOf b [f] t = s)) f = true := h
      refine (ih acc (by simp; omega)).congr ?_
      exact congrArg (acc ++ ·) (List.filter_cons_of_neg (p := (fun f => decide (endsOf b [f] t = s))) h).symm
theorem e_spec_dgSingle (b : BoardD) (hb : boardOK b = true) (t : List Int) (ht : t.length ≤ 1000) (hc : colsOK b t) (s : List FallD) (hs : s.length = t.length) : Ev (fun k => f_spec_dgSingle k b t s) (singlesOf b t s) := by
  have hn := poss_count hb
  refine Ev.succ ?_
  simp only [f_spec_dgSingle]
  exact Ev.bind (e_spec_faPossible b hb) (Ev.bind (e_spec_dgSingle_0 b hb t ht hc s hs (possFrom b.2.1 0 b.2.2) [] [] (fun f hf => poss_one hb hf) (by simp; omega) (by simp)) (Ev.some _))
theorem e_impl_singleCauses_0 (b : BoardD) (hb : boardOK b = true) (t : List Int) (ht : t.length ≤ 1000) (hc : colsOK b t) (s : List FallD) (hs : s.length = t.length) : ∀ (r pre acc : List FaultD), (∀ f ∈ r, faultsOK b (-1) [f] = true) → (pre ++ r).length ≤ 1000 → acc.length ≤ pre.length → Ev (fun k => f_impl_singleCauses_0 k b.1 b.2.1 b.2.2 acc (pre ++ r) t s ((pre ++ r).length : Int) (pre.length : Int)) (acc ++ r.filter (fun f => decide (endsOf b [f] t = s)))
  | [], pre, acc, hf, hl, ha => by
    refine Ev.succ ?_
    simp only [f_impl_singleCauses_0, nlt_end, decide_false, Bool.false_eq_true, if_false]
    exact Ev.of (by simp)
  | f :: r, pre, acc, hf, hl, ha => by
    have ih := fun acc' ha' => e_impl_singleCauses_0 b hb t ht hc s hs r (pre ++ [f]) acc' (fun g hg => hf g (List.mem_cons_of_mem _ hg)) (by simpa using hl) ha'
    simp only [← shift_mid] at ih
    have hal : acc.length + 1 ≤ 140737488355328 / 24 := by simp at hl; omega
    have h1 := e_impl_explainsEnds b hb [f] (hf f (List.mem_cons_self ..)) (by simp) t ht hc s
    refine Ev.succ ?_
    simp only [f_impl_singleCauses_0, lt_mid, ge_mid, decide_true, if_true, Int.toNat_natCast, getD_mid, List.length_singleton, hal]
    rw [next_mid pre f r (by omega)]
    refine Ev.bind h1 (Ev.ite (fun h => ?_) (fun h => ?_))
    · have h : (fun f => decide (endsOf b [f] t = s)) f = true := h
      refine (ih (acc ++ [f]) (by simp; omega)).congr ?_
      simp only [List.filter_cons, h, if_true, List.append_assoc, List.singleton_append]
    · have h : ¬ (fun f => decide (endsOf b [f] t = s)) f = true := h
      refine (ih acc (by simp; omega)).congr ?_
      exact congrArg (acc ++ ·) (List.filter_cons_of_neg (p := (fun f => decide (endsOf b [f] t = s))) h).symm
theorem e_impl_singleCauses (b : BoardD) (hb : boardOK b = true) (t : List Int) (ht : t.length ≤ 1000) (hc : colsOK b t) (s : List FallD) (hs : s.length = t.length) : Ev (fun k => f_impl_singleCauses k b t s) (singlesOf b t s) := by
  have hn := poss_count hb
  refine Ev.succ ?_
  simp only [f_impl_singleCauses]
  exact Ev.bind (e_impl_possibleFaults b hb) (Ev.bind (e_impl_singleCauses_0 b hb t ht hc s hs (possFrom b.2.1 0 b.2.2) [] [] (fun f hf => poss_one hb hf) (by simp; omega) (by simp)) (Ev.some _))
end Go.Proofs.YtkmbhhgibgocpaaDoor.Vs

set_option linter.unusedVariables false
set_option linter.unusedSimpArgs false
namespace Go.Proofs.YtkmbhhgibgocpaaDoor.Vs
open Go.RowKit
theorem singles_len {b : BoardD} (hb : boardOK b = true) (t : List Int) (s : List FallD) : (singlesOf b t s).length ≤ 270 :=
  Nat.le_trans (List.length_filter_le _ _) (poss_count hb)
end Go.Proofs.YtkmbhhgibgocpaaDoor.Vs

set_option linter.unusedVariables false
set_option linter.unusedSimpArgs false
namespace Go.Proofs.YtkmbhhgibgocpaaDoor.Vs
open Go.RowKit
def nlS : ByteArray := ByteArray.mk #[10]
def textG : List FaultD → ByteArray → ByteArray
  | [], v => v
  | f :: r, v => textG r (v ++ (nameF f ++ nlS))
theorem size_nameF (p : FaultD) : (nameF p).size ≤ 13 := by
  have h : (List.getD nameK (Int.toNat (p.1 - 1)) (ByteArray.mk #[])).size ≤ 6 := by
    match Int.toNat (p.1 - 1) with
    | 0 => decide
    | 1 => decide
    | 2 => decide
    | n + 3 => exact Nat.zero_le _
  unfold nameF
  rw [size_app, size_app, size_app, size_app, size_dig, size_dig, show atS.size = 4 from rfl, show commaS.size = 1 from rfl]
  omega
theorem singles_valid {b : BoardD} (hb : boardOK b = true) {t : List Int} {s : List FallD} {f : FaultD} (h : f ∈ singlesOf b t s) : validF f := by
  have hm := (List.mem_filter.1 h).1
  obtain ⟨h1, h2, h3, h4, h5⟩ := poss_fault hb hm
  simp only [boardOK, Bool.and_eq_true, decide_eq_true_eq] at hb
  obtain ⟨⟨g1, g2, g3, g4, _⟩, _⟩ := hb
  have hk : 1 ≤ f.1 ∧ f.1 ≤ 3 := by
    unfold fits at h5
    by_cases k1 : f.1 = 1
    · omega
    · by_cases k2 : f.1 = 2
      · omega
      · by_cases k3 : f.1 = 3
        · omega
        · simp [k1, k2, k3] at h5
  exact ⟨hk.1, hk.2, h1, by omega, h3, by omega⟩
def r_CausesText (b : BoardD) (t : List Int) (s : List FallD) : ByteArray × Bool := if seenOK b t s then (textG (singlesOf b t s) (ByteArray.mk #[]), true) else (ByteArray.mk #[], false)
theorem e_spec_CausesText_0 : ∀ (r pre : List FaultD) (v : ByteArray), (∀ f ∈ r, validF f) → v.size + 14 * r.length ≤ 1048576 → (pre ++ r).length ≤ 9223372036854775806 →
    Ev (fun k => f_spec_CausesText_0 k (pre ++ r) v ((pre ++ r).length : Int) (pre.length : Int)) (textG r v)
  | [], pre, v, hv, hs, hl => by
    refine Ev.succ ?_
    simp only [f_spec_CausesText_0, nlt_end, decide_false, Bool.false_eq_true, if_false, textG]
    exact Ev.some _
  | x :: r, pre, v, hv, hs, hl => by
    have hx := hv x (List.mem_cons_self ..)
    have h1 := size_nameF x
    simp only [List.length_cons] at hs
    have h2 : (v ++ (nameF x ++ nlS)).size ≤ v.size + 14 := by rw [size_app, size_app, show nlS.size = 1 from rfl]; omega
    have ih := e_spec_CausesText_0 r (pre ++ [x]) (v ++ (nameF x ++ nlS)) (fun f hf => hv f (List.mem_cons_of_mem _ hf)) (by omega) (by simpa using hl)
    refine Ev.succ ?_
    simp only [f_spec_CausesText_0, lt_mid, ge_mid, decide_true, if_true, Int.toNat_natCast, getD_mid]
    rw [next_mid pre x r (by omega)]
    rw [← shift_mid] at ih
    refine Ev.bind (e_spec_faName x hx) ?_
    refine Ev.ite (fun _ => ?_) (fun hn => (hn (by show (nameF x).size + 1 ≤ _; omega)).elim)
    refine Ev.ite (fun _ => ?_) (fun hn => (hn (by have h3 : (nameF x ++ nlS).size = (nameF x).size + 1 := by rw [size_app]; rfl
                                                   show v.size + (nameF x ++ nlS).size ≤ _; omega)).elim)
    exact ih
theorem e_impl_CausesText_0 : ∀ (r pre : List FaultD) (v : ByteArray), (∀ f ∈ r, validF f) → v.size + 14 * r.length ≤ 1048576 → (pre ++ r).length ≤ 9223372036854775806 →
    Ev (fun k => f_impl_CausesText_0 k (pre ++ r) v ((pre ++ r).length : Int) (pre.length : Int)) (textG r v)
  | [], pre, v, hv, hs, hl => by
    refine Ev.succ ?_
    simp only [f_impl_CausesText_0, nlt_end, decide_false, Bool.false_eq_true, if_false, textG]
    exact Ev.some _
  | x :: r, pre, v, hv, hs, hl => by
    have hx := hv x (List.mem_cons_self ..)
    have h1 := size_nameF x
    simp only [List.length_cons] at hs
    have h2 : (v ++ (nameF x ++ nlS)).size ≤ v.size + 14 := by rw [size_app, size_app, show nlS.size = 1 from rfl]; omega
    have ih := e_impl_CausesText_0 r (pre ++ [x]) (v ++ (nameF x ++ nlS)) (fun f hf => hv f (List.mem_cons_of_mem _ hf)) (by omega) (by simpa using hl)
    refine Ev.succ ?_
    simp only [f_impl_CausesText_0, lt_mid, ge_mid, decide_true, if_true, Int.toNat_natCast, getD_mid]
    rw [next_mid pre x r (by omega)]
    rw [← shift_mid] at ih
    refine Ev.bind (e_impl_FaultName x hx) ?_
    refine Ev.ite (fun _ => ?_) (fun hn => (hn (by show (nameF x).size + 1 ≤ _; omega)).elim)
    refine Ev.ite (fun _ => ?_) (fun hn => (hn (by have h3 : (nameF x ++ nlS).size = (nameF x).size + 1 := by rw [size_app]; rfl
                                                   show v.size + (nameF x ++ nlS).size ≤ _; omega)).elim)
    exact ih
theorem e_spec_CausesText (b : BoardD) (t : List Int) (s : List FallD) (h0 : b.2.2.length ≤ 9223372036854775806) (h2 : t.length ≤ 9223372036854775806) (h3 : s.length ≤ 9223372036854775806) : Ev (fun k => f_spec_CausesText k b t s) (r_CausesText b t s) := by
  refine Ev.succ ?_
  simp only [f_spec_CausesText]
  unfold r_CausesText
  refine Ev.bind (a := seenOK b t s) (e_spec_dgGood b t s h0 h2 h3) ?_
  cases g0 : seenOK b t s with
  | false => simp only [Bool.not_false, if_true, Bool.false_eq_true, if_false, Bool.false_and, Bool.and_false]; exact Ev.some _
  | true =>
    simp only [Bool.not_true, Bool.false_eq_true, if_false, if_true, Bool.and_self]
    obtain ⟨hb, h24, ht, hc, hs⟩ := seen_ok g0
    have hl := singles_len hb t s
    refine Ev.bind (e_spec_dgSingle b hb t (by omega) hc s hs) ?_
    refine Ev.bind (e_spec_CausesText_0 (singlesOf b t s) [] (ByteArray.mk #[]) (fun f hf => singles_valid hb hf) (by show 0 + _ ≤ _; omega) (by rw [List.nil_append]; omega)) (Ev.some _)
theorem e_impl_CausesText (b : BoardD) (t : List Int) (s : List FallD) (h0 : b.2.2.length ≤ 9223372036854775806) (h2 : t.length ≤ 9223372036854775806) (h3 : s.length ≤ 9223372036854775806) : Ev (fun k => f_impl_CausesText k b t s) (r_CausesText b t s) := by
  refine Ev.succ ?_
  simp only [f_impl_CausesText]
  unfold r_CausesText
  refine Ev.bind (a := seenOK b t s) (e_impl_isSeen b t s h0 h2 h3) ?_
  cases g0 : seenOK b t s with
  | false => simp only [Bool.not_false, if_true, Bool.false_eq_true, if_false, Bool.false_and, Bool.and_false]; exact Ev.some _
  | true =>
    simp only [Bool.not_true, Bool.false_eq_true, if_false, if_true, Bool.and_self]
    obtain ⟨hb, h24, ht, hc, hs⟩ := seen_ok g0
    have hl := singles_len hb t s
    refine Ev.bind (e_impl_singleCauses b hb t (by omega) hc s hs) ?_
    refine Ev.bind (e_impl_CausesText_0 (singlesOf b t s) [] (ByteArray.mk #[]) (fun f hf => singles_valid hb hf) (by show 0 + _ ≤ _; omega) (by rw [List.nil_append]; omega)) (Ev.some _)
theorem law_FnExactCausesText (p0 : BoardD) (p1 : List Int) (p2 : List FallD) (h0 : p0.2.2.length ≤ 9223372036854775807) (h1 : p1.length ≤ 9223372036854775807) (h2 : p2.length ≤ 9223372036854775807) : Ev (fun k => f_laws_FnExactCausesText k p0 p1 p2) true := by
  refine Ev.succ ?_
  simp only [f_laws_FnExactCausesText]
  by_cases q1 : (p1.length : Int) > 1048576
  · simp only [q1, decide_true, if_true]; exact Ev.some _
  simp only [q1, decide_false, Bool.false_eq_true, if_false]
  refine Ev.bind (e_laws_szBoard _ _ (by first | omega | (dsimp only; omega)) (by first | omega | (dsimp only; omega)) (by first | omega | (dsimp only; omega))) ?_
  by_cases q2 : (1048576 : Int) - (p0.2.2.length : Int) < 0
  · simp only [q2, if_true]; exact Ev.some _
  simp only [q2, if_false, decide_false, Bool.false_eq_true]
  refine Ev.bind (e_laws_szFallS _ _ (by first | omega | (dsimp only; omega)) (by first | omega | (dsimp only; omega)) (by first | omega | (dsimp only; omega))) ?_
  by_cases q3 : (1048576 : Int) - (p0.2.2.length : Int) - (p2.length : Int) < 0
  · simp only [q3, if_true]; exact Ev.some _
  simp only [q3, if_false, decide_false, Bool.false_eq_true]
  have es := e_spec_CausesText p0 p1 p2 (by omega) (by omega) (by omega)
  have ei := e_impl_CausesText p0 p1 p2 (by omega) (by omega) (by omega)
  generalize r_CausesText p0 p1 p2 = R at es ei
  refine Ev.bind (e_laws_toBoard _ (by first | omega | (dsimp only; omega))) ?_
  refine Ev.bind (e_laws_toIntS _ (by first | omega | (dsimp only; omega))) ?_
  refine Ev.bind (e_laws_toFallS _ (by first | omega | (dsimp only; omega))) ?_
  refine Ev.bind es ?_
  refine Ev.bind (e_laws_toBoard _ (by first | omega | (dsimp only; omega))) ?_
  refine Ev.bind (e_laws_toIntS _ (by first | omega | (dsimp only; omega))) ?_
  refine Ev.bind (e_laws_toFallS _ (by first | omega | (dsimp only; omega))) ?_
  refine Ev.bind ei ?_
  simp only [decide_true, beq_self_eq_true, ne_eq, not_true_eq_false, decide_false, Bool.not_true, Bool.false_eq_true, if_false]
  refine Ev.bind (e_laws_toBoard _ (by first | omega | (dsimp only; omega))) ?_
  refine Ev.bind (e_laws_eqBoard _ _ (by first | omega | (dsimp only; omega))) ?_
  simp only [decide_true, beq_self_eq_true, ne_eq, not_true_eq_false, decide_false, Bool.not_true, Bool.false_eq_true, if_false]
  refine Ev.bind (e_laws_toIntS _ (by first | omega | (dsimp only; omega))) ?_
  refine Ev.bind (e_laws_eqIntS _ _ (by first | omega | (dsimp only; omega))) ?_
  simp only [decide_true, beq_self_eq_true, ne_eq, not_true_eq_false, decide_false, Bool.not_true, Bool.false_eq_true, if_false]
  refine Ev.bind (e_laws_toFallS _ (by first | omega | (dsimp only; omega))) ?_
  refine Ev.bind (e_laws_eqFallS _ _ (by first | omega | (dsimp only; omega))) ?_
  simp only [decide_true, beq_self_eq_true, ne_eq, not_true_eq_false, decide_false, Bool.not_true, Bool.false_eq_true, if_false]
  exact Ev.some _
end Go.Proofs.YtkmbhhgibgocpaaDoor.Vs
