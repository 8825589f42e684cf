/- The proof, part 9. -/
import Derived.Test.Ytgjmhbjdhihgaaaqfm7
set_option linter.unusedVariables false
set_option linter.unusedSimpArgs false
namespace Go.Proofs.Ytgjmhbjdhihgaaa.Vs
open Go.RowKit
/-! ### Faults by their places -/
def placeOf (b : BoardD) (f : FaultD) : Int := f.2.1 * b.2.1 + f.2.2
def kindsOf (b : BoardD) (l : List FaultD) (K : List Int) : List Int := l.foldl (fun K f => List.set K (placeOf b f).toNat f.1) K
def faAtD (r c d : Int) : List FaultD → Int
  | [] => d
  | f :: l => if f.2.1 = r ∧ f.2.2 = c then f.1 else faAtD r c d l
theorem faults_cons {b : BoardD} {last : Int} {f : FaultD} {l : List FaultD} (h : faultsOK b last (f :: l) = true) : (0 ≤ f.2.1 ∧ f.2.1 < b.1 ∧ 0 ≤ f.2.2 ∧ f.2.2 < b.2.1 ∧ last < placeOf b f) ∧ faultsOK b (placeOf b f) l = true := by
  simp only [faultsOK, Bool.and_eq_true, decide_eq_true_eq] at h
  exact ⟨h.1.1, h.2⟩
theorem faults_on {b : BoardD} : ∀ {l : List FaultD} {last : Int}, faultsOK b last l = true → ∀ f ∈ l, 0 ≤ f.2.1 ∧ f.2.1 < b.1 ∧ 0 ≤ f.2.2 ∧ f.2.2 < b.2.1
  | [], _, _, f, hf => by cases hf
  | g :: l, last, h, f, hf => by
    obtain ⟨h1, h2⟩ := faults_cons h
    rcases List.mem_cons.1 hf with rfl | hf
    · exact ⟨h1.1, h1.2.1, h1.2.2.1, h1.2.2.2.1⟩
    · exact faults_on h2 f hf
theorem place_inj {C r c r' c' : Int} (h1 : 0 ≤ c) (h2 : c < C) (h3 : 0 ≤ c') (h4 : c' < C) (h : r * C + c = r' * C + c') : r = r' ∧ c = c' := by
  have key : ∀ {x y : Int}, x < y → x * C + C ≤ y * C := by
    intro x y hxy
    have := Int.mul_le_mul_of_nonneg_right (show x + 1 ≤ y by omega) (show 0 ≤ C by omega)
    rw [Int.add_mul, Int.one_mul] at this
    exact this
  rcases Int.lt_trichotomy r r' with hr | hr | hr
  · have := key hr; omega
  · subst hr; omega
  · have := key hr; omega
theorem faAtD_later {b : BoardD} {r c : Int} (d : Int) : ∀ {l : List FaultD} {last : Int}, faultsOK b last l = true → r * b.2.1 + c ≤ last → faAtD r c d l = d
  | [], _, _, _ => rfl
  | f :: l, last, h, hp => by
    obtain ⟨h1, h2⟩ := faults_cons h
    unfold placeOf at h1 h2
    simp only [faAtD]
    rw [if_neg (by rintro ⟨rfl, rfl⟩; omega)]
    exact faAtD_later d h2 (by omega)
theorem kindsOf_len (b : BoardD) : ∀ (l : List FaultD) (K : List Int), (kindsOf b l K).length = K.length
  | [], _ => rfl
  | f :: l, K => by
    show (kindsOf b l (List.set K (placeOf b f).toNat f.1)).length = _
    rw [kindsOf_len b l, List.length_set]
theorem getD_set_if {α : Type} (l : List α) (i j : Nat) (x d : α) (hi : i < l.length) : List.getD (List.set l i x) j d = if i = j then x else List.getD l j d := by
  simp only [List.getD, List.getElem?_set]
  by_cases h : i = j
  · subst h; simp [hi]
  · simp [h]
theorem kindsOf_at {b : BoardD} (hb : boardOK b = true) {r c : Int} (h1 : 0 ≤ r) (h2 : r < b.1) (h3 : 0 ≤ c) (h4 : c < b.2.1) : ∀ {l : List FaultD} {last : Int} {K : List Int}, faultsOK b last l = true → K.length = b.2.2.length → List.getD (kindsOf b l K) (r * b.2.1 + c).toNat 0 = faAtD r c (List.getD K (r * b.2.1 + c).toNat 0) l
  | [], _, _, _, _ => rfl
  | f :: l, last, K, h, hK => by
    obtain ⟨g1, g2⟩ := faults_cons h
    have hp := place_ok hb h1 h2 h3 h4
    have hf := place_ok hb g1.1 g1.2.1 g1.2.2.1 g1.2.2.2.1
    show List.getD (kindsOf b l (List.set K (placeOf b f).toNat f.1)) _ 0 = _
    rw [kindsOf_at hb h1 h2 h3 h4 g2 (by rw [List.length_set]; exact hK)]
    rw [getD_set_if _ _ _ _ _ (by unfold placeOf; omega)]
    simp only [faAtD]
    by_cases hm : f.2.1 = r ∧ f.2.2 = c
    · rw [if_pos hm, if_pos (by unfold placeOf; rw [hm.1, hm.2])]
      exact faAtD_later _ g2 (by unfold placeOf; rw [hm.1, hm.2]; omega)
    · rw [if_neg hm, if_neg (fun he => hm (place_inj g1.2.2.1 g1.2.2.2.1 h3 h4 (by unfold placeOf at he; omega)))]
theorem e_impl_faultsByCell_0 (b : BoardD) (hb : boardOK b = true) : ∀ (r pre : List FaultD) (K : List Int), (∀ f ∈ r, 0 ≤ f.2.1 ∧ f.2.1 < b.1 ∧ 0 ≤ f.2.2 ∧ f.2.2 < b.2.1) → (pre ++ r).length ≤ 9223372036854775806 → K.length = b.2.2.length → Ev (fun k => f_impl_faultsByCell_0 k b.1 b.2.1 b.2.2 K (pre ++ r) ((pre ++ r).length : Int) (pre.length : Int)) (kindsOf b r K)
  | [], pre, K, hr, hl, hK => by
    refine Ev.succ ?_
    simp only [f_impl_faultsByCell_0, nlt_end, decide_false, Bool.false_eq_true, if_false]
    exact Ev.some _
  | f :: r, pre, K, hr, hl, hK => by
    obtain ⟨k1, k2, k3, k4⟩ := hr f (List.mem_cons_self ..)
    have hp := place_ok hb k1 k2 k3 k4
    have hpK : f.2.1 * b.2.1 + f.2.2 < (K.length : Int) := by omega
    have ih := e_impl_faultsByCell_0 b hb r (pre ++ [f]) (List.set K (placeOf b f).toNat f.1) (fun g hg => hr g (List.mem_cons_of_mem _ hg)) (by simpa using hl) (by rw [List.length_set]; exact hK)
    refine Ev.succ ?_
    simp only [f_impl_faultsByCell_0, lt_mid, ge_mid, decide_true, if_true, Int.toNat_natCast, getD_mid]
    rw [next_mid pre f r (by omega), w64 (n := f.2.1 * b.2.1) (by omega) (by omega), w64 (n := f.2.1 * b.2.1 + f.2.2) (by omega) (by omega)]
    simp only [hp.1, hpK, if_true]
    rw [← shift_mid] at ih
    exact ih
def kindsB (b : BoardD) (l : List FaultD) : List Int := kindsOf b l (List.replicate b.2.2.length 0)
theorem kindsB_len (b : BoardD) (l : List FaultD) : (kindsB b l).length = b.2.2.length := by unfold kindsB; rw [kindsOf_len]; simp
theorem e_impl_faultsByCell (b : BoardD) (hb : boardOK b = true) (l : List FaultD) (hl : faultsOK b (-1) l = true) (hlen : l.length ≤ 9223372036854775806) : Ev (fun k => f_impl_faultsByCell k b l) (kindsB b l) := by
  obtain ⟨g1, g2, g3, g4, g5, g6⟩ := board_ok hb
  have hp := prod_small g1 g2 g3 g4
  have hm : b.2.2.length * 8 ≤ 281474976710656 := by omega
  refine Ev.succ ?_
  simp only [f_impl_faultsByCell, Int.toNat_natCast, hm, if_true]
  exact Ev.bind (e_impl_faultsByCell_0 b hb l [] _ (faults_on hl) (by simpa using hlen) (by simp)) (Ev.some _)
theorem e_spec_faAt_0 (r c : Int) : ∀ (l pre : List FaultD), (pre ++ l).length ≤ 9223372036854775806 → ∀ {z : LR Unit Int}, (z = LR.go () ∧ faAtD r c 0 l = 0 ∨ z = LR.ret (faAtD r c 0 l)) → (∀ f ∈ l, ¬ (f.2.1 = r ∧ f.2.2 = c)) ∧ z = LR.go () ∨ (∃ f ∈ l, f.2.1 = r ∧ f.2.2 = c) ∧ z = LR.ret (faAtD r c 0 l) → Ev (fun k => f_spec_faAt_0 k r c (pre ++ l) ((pre ++ l).length : Int) (pre.length : Int)) z
  | [], pre, hl, z, _, hz => by
    refine Ev.succ ?_
    simp only [f_spec_faAt_0, nlt_end, decide_false, Bool.false_eq_true, if_false]
    rcases hz with ⟨_, rfl⟩ | ⟨⟨f, hf, _⟩, _⟩
    · exact Ev.some _
    · cases hf
  | f :: l, pre, hl, z, hz0, hz => by
    have hn := next_mid pre f l (by omega)
    have hl' : ((pre ++ [f]) ++ l).length ≤ 9223372036854775806 := by simpa using hl
    refine Ev.succ ?_
    simp only [f_spec_faAt_0, lt_mid, ge_mid, decide_true, if_true, Int.toNat_natCast, getD_mid, hn]
    by_cases hm : f.2.1 = r ∧ f.2.2 = c
    · simp only [hm.1, hm.2, decide_true, if_true]
      rcases hz with ⟨h, _⟩ | ⟨_, rfl⟩
      · exact absurd hm (h f (List.mem_cons_self ..))
      · simp only [faAtD, hm, and_self, if_true]; exact Ev.some _
    · have hfa : faAtD r c 0 (f :: l) = faAtD r c 0 l := by simp only [faAtD]; rw [if_neg hm]
      have ih : Ev (fun k => f_spec_faAt_0 k r c (pre ++ f :: l) ((pre ++ f :: l).length : Int) ((pre ++ [f]).length : Int)) z := by
        rw [shift_mid]
        refine e_spec_faAt_0 r c l (pre ++ [f]) hl' (by rw [← hfa]; exact hz0) ?_
        rcases hz with ⟨h, h2⟩ | ⟨⟨g, hg, hgm⟩, h2⟩
        · exact .inl ⟨fun g hg => h g (List.mem_cons_of_mem _ hg), h2⟩
        · rcases List.mem_cons.1 hg with rfl | hg
          · exact absurd hgm hm
          · exact .inr ⟨⟨g, hg, hgm⟩, by rw [← hfa]; exact h2⟩
      refine Ev.ite (fun g1 => Ev.ite (fun g2 => ?_) (fun _ => ih)) (fun _ => ih)
      simp only [decide_eq_true_eq] at g1 g2
      exact absurd ⟨g1, g2⟩ hm
theorem faAtD_none {r c d : Int} : ∀ {l : List FaultD}, (∀ f ∈ l, ¬ (f.2.1 = r ∧ f.2.2 = c)) → faAtD r c d l = d
  | [], _ => rfl
  | f :: l, h => by
    simp only [faAtD]
    rw [if_neg (h f (List.mem_cons_self ..))]
    exact faAtD_none (fun g hg => h g (List.mem_cons_of_mem _ hg))
theorem e_spec_faAt (l : List FaultD) (r c : Int) (hl : l.length ≤ 9223372036854775806) : Ev (fun k => f_spec_faAt k l r c) (faAtD r c 0 l) := by
  refine Ev.succ ?_
  simp only [f_spec_faAt]
  by_cases h : ∃ f ∈ l, f.2.1 = r ∧ f.2.2 = c
  · exact Ev.bind (e_spec_faAt_0 r c l [] (by simpa using hl) (z := LR.ret (faAtD r c 0 l)) (.inr rfl) (.inr ⟨h, rfl⟩)) (Ev.ret (Ev.some _))
  · have h' : ∀ f ∈ l, ¬ (f.2.1 = r ∧ f.2.2 = c) := fun f hf hm => h ⟨f, hf, hm⟩
    have h0 := faAtD_none (d := 0) h'
    refine Ev.bind (e_spec_faAt_0 r c l [] (by simpa using hl) (z := LR.go ()) (.inl ⟨rfl, h0⟩) (.inl ⟨h', rfl⟩)) ?_
    rw [h0]
    exact Ev.go (Ev.some _)
/-! ### Turning -/
def flip1 (x : CellD) : CellD := (x.1, 1 - x.2)
def turnGo (G K : List Int) (at' : Nat) (ka : Int) : Nat → List CellD → List CellD
  | _, [] => []
  | i, x :: r => (if (i = at' ∨ (ka = 6 ∧ x.1 = 6 ∧ List.getD G i 0 = List.getD G at' 0)) ∧ List.getD K i 0 ≠ 1 then flip1 x else x) :: turnGo G K at' ka (i + 1) r
def passGo (G : List Int) (ga : Int) : Nat → List CellD → List CellD
  | _, [] => []
  | i, x :: r => (if x.1 = 6 ∧ List.getD G i 0 = ga then flip1 x else x) :: passGo G ga (i + 1) r
theorem cell_two {x : CellD} (h : cellOK x = true) : 0 ≤ x.1 ∧ x.1 ≤ 7 ∧ (x.2 = 0 ∨ x.2 = 1) := by
  unfold cellOK at h
  simp only [decide_eq_true_eq] at h
  omega
theorem fst_same {p r : List CellD} {x y d : CellD} (h : y.1 = x.1) (n : Nat) : (List.getD (p ++ y :: r) n d).1 = (List.getD (p ++ x :: r) n d).1 := by
  simp only [List.getD]
  rcases Nat.lt_trichotomy n p.length with hn | hn | hn
  · rw [List.getElem?_append_left hn, List.getElem?_append_left hn]
  · subst hn; simp [h]
  · rw [List.getElem?_append_right (by omega), List.getElem?_append_right (by omega)]
    have : ∃ m, n - p.length = m + 1 := ⟨n - p.length - 1, by omega⟩
    obtain ⟨m, hm⟩ := this
    rw [hm]
    rfl
theorem e_impl_turnFaulty_0 (R C : Int) (G K : List Int) (at' : Nat) (ka : Int) : ∀ (r pre : List CellD), (pre ++ r).length ≤ 1000 → at' < (pre ++ r).length → G.length = (pre ++ r).length → K.length = (pre ++ r).length → (List.getD (pre ++ r) at' (0, 0)).1 = ka → (∀ x ∈ r, cellOK x = true) →
    Ev (fun k => f_impl_turnFaulty_0 k (pre ++ r) R C G K (at' : Int) ((pre ++ r).length : Int) (pre.length : Int)) (pre ++ turnGo G K at' ka pre.length r)
  | [], pre, hl, ha, hG, hK, hka, hx => by
    refine Ev.succ ?_
    simp only [f_impl_turnFaulty_0, nlt_end, decide_false, Bool.false_eq_true, if_false, turnGo]
    exact Ev.some _
  | x :: r, pre, hl, ha, hG, hK, hka, hx => by
    have hn := next_mid pre x r (by omega)
    have hlt := lt_mid pre x r
    have hGl : (pre.length : Int) < (G.length : Int) := by rw [hG]; exact hlt
    have hKl : (pre.length : Int) < (K.length : Int) := by rw [hK]; exact hlt
    have ha0 : (0 : Int) ≤ (at' : Int) := Int.natCast_nonneg _
    have ha1 : (at' : Int) < ((pre ++ x :: r).length : Int) := by omega
    have haG : (at' : Int) < (G.length : Int) := by rw [hG]; exact ha1
    obtain ⟨c1, c2, c3⟩ := cell_two (hx x (List.mem_cons_self ..))
    have hr' : ∀ y ∈ r, cellOK y = true := fun y hy => hx y (List.mem_cons_of_mem _ hy)
    have next : ∀ y : CellD, y.1 = x.1 → Ev (fun k => f_impl_turnFaulty_0 k (pre ++ y :: r) R C G K (at' : Int) ((pre ++ x :: r).length : Int) ((pre ++ [x]).length : Int)) (pre ++ y :: turnGo G K at' ka (pre.length + 1) r) := by
      intro y hy
      have ih := e_impl_turnFaulty_0 R C G K at' ka r (pre ++ [y]) (by simpa using hl) (by simpa using ha) (by simpa using hG) (by simpa using hK) (by rw [← shift_mid, fst_same hy]; exact hka) hr'
      have e1 : ((pre ++ [y] ++ r).length : Int) = ((pre ++ x :: r).length : Int) := by simp
      have e2 : ((pre ++ [y]).length : Int) = ((pre ++ [x]).length : Int) := by simp
      have e3 : (pre ++ [y]).length = pre.length + 1 := by simp
      rw [e1, e2, e3, ← shift_mid, ← shift_mid] at ih
      exact ih
    refine Ev.succ ?_
    simp only [f_impl_turnFaulty_0, lt_mid, ge_mid, decide_true, if_true, Int.toNat_natCast, getD_mid, set_mid, hn, hGl, hKl, ha0, ha1, haG, hka]
    rw [w64 (n := 1 - x.2) (by omega) (by omega)]
    simp only [turnGo]
    by_cases hia : pre.length = at'
    · have hia' : (pre.length : Int) = (at' : Int) := by omega
      simp only [hia', decide_true, if_true]
      rw [← hia]
      refine Ev.ite (fun h => ?_) (fun h => ?_)
      · simp only [ne_eq, decide_eq_true_eq] at h
        rw [if_pos ⟨.inl rfl, h⟩]
        have := next (flip1 x) rfl
        rw [← hia] at this
        exact this
      · simp only [ne_eq, decide_eq_true_eq, Decidable.not_not] at h
        rw [if_neg (fun hc => hc.2 h)]
        have := next x rfl
        rw [← hia] at this
        exact this
    · have hia' : ¬ (pre.length : Int) = (at' : Int) := by omega
      simp only [hia', decide_false, Bool.false_eq_true, if_false]
      have no : ¬ (ka = 6 ∧ x.1 = 6 ∧ List.getD G pre.length 0 = List.getD G at' 0) → Ev (fun k => f_impl_turnFaulty_0 k (pre ++ x :: r) R C G K (at' : Int) ((pre ++ x :: r).length : Int) ((pre ++ [x]).length : Int)) (pre ++ (if (pre.length = at' ∨ (ka = 6 ∧ x.1 = 6 ∧ List.getD G pre.length 0 = List.getD G at' 0)) ∧ List.getD K pre.length 0 ≠ 1 then flip1 x else x) :: turnGo G K at' ka (pre.length + 1) r) := by
        intro hno
        rw [if_neg (fun hc => hc.1.elim hia hno)]
        exact next x rfl
      refine Ev.ite (fun h1 => ?_) (fun h1 => no (fun hc => h1 (decide_eq_true hc.1)))
      refine Ev.ite (fun h2 => ?_) (fun h2 => no (fun hc => h2 (decide_eq_true hc.2.1)))
      refine Ev.ite (fun h3 => ?_) (fun h3 => no (fun hc => h3 (decide_eq_true hc.2.2)))
      simp only [decide_eq_true_eq] at h1 h2 h3
      refine Ev.ite (fun h => ?_) (fun h => ?_)
      · simp only [ne_eq, decide_eq_true_eq] at h
        rw [if_pos ⟨.inr ⟨h1, h2, h3⟩, h⟩]
        exact next (flip1 x) rfl
      · simp only [ne_eq, decide_eq_true_eq, Decidable.not_not] at h
        rw [if_neg (fun hc => hc.2 h)]
        exact next x rfl
def turnAt (G K : List Int) (at' : Nat) (o : List CellD) : List CellD := turnGo G K at' (List.getD o at' (0, 0)).1 0 o
theorem e_impl_turnFaulty (R C : Int) (o : List CellD) (G K : List Int) (at' : Nat) (hl : o.length ≤ 1000) (ha : at' < o.length) (hG : G.length = o.length) (hK : K.length = o.length) (hx : ∀ x ∈ o, cellOK x = true) : Ev (fun k => f_impl_turnFaulty k (R, C, o) G K (at' : Int)) (turnAt G K at' o) := by
  refine Ev.succ ?_
  simp only [f_impl_turnFaulty]
  exact Ev.bind (e_impl_turnFaulty_0 R C G K at' _ o [] hl ha hG hK rfl hx) (Ev.some _)
theorem e_spec_paTurn (x : CellD) (h : cellOK x = true) : Ev (fun k => f_spec_paTurn k x) (flip1 x) := by
  obtain ⟨c1, c2, c3⟩ := cell_two h
  refine Ev.succ ?_
  simp only [f_spec_paTurn]
  rw [w64 (n := 1 - x.2) (by omega) (by omega)]
  exact Ev.some _
theorem e_spec_flPass_1 (R C : Int) (G : List Int) (at' : Nat) : ∀ (r pre : List CellD), (pre ++ r).length ≤ 1000 → at' < (pre ++ r).length → G.length = (pre ++ r).length → (∀ x ∈ r, cellOK x = true) →
    Ev (fun k => f_spec_flPass_1 k (pre ++ r) R C G (at' : Int) ((pre ++ r).length : Int) (pre.length : Int)) (pre ++ passGo G (List.getD G at' 0) pre.length r)
  | [], pre, hl, ha, hG, hx => by
    refine Ev.succ ?_
    simp only [f_spec_flPass_1, nlt_end, decide_false, Bool.false_eq_true, if_false, passGo]
    exact Ev.some _
  | x :: r, pre, hl, ha, hG, hx => by
    have hn := next_mid pre x r (by omega)
    have hlt := lt_mid pre x r
    have hGl : (pre.length : Int) < (G.length : Int) := by rw [hG]; exact hlt
    have ha0 : (0 : Int) ≤ (at' : Int) := Int.natCast_nonneg _
    have ha1 : (at' : Int) < ((pre ++ x :: r).length : Int) := by omega
    have haG : (at' : Int) < (G.length : Int) := by rw [hG]; exact ha1
    have hr' : ∀ y ∈ r, cellOK y = true := fun y hy => hx y (List.mem_cons_of_mem _ hy)
    have next : ∀ y : CellD, Ev (fun k => f_spec_flPass_1 k (pre ++ y :: r) R C G (at' : Int) ((pre ++ x :: r).length : Int) ((pre ++ [x]).length : Int)) (pre ++ y :: passGo G (List.getD G at' 0) (pre.length + 1) r) := by
      intro y
      have ih := e_spec_flPass_1 R C G at' r (pre ++ [y]) (by simpa using hl) (by simpa using ha) (by simpa using hG) hr'
      have e1 : ((pre ++ [y] ++ r).length : Int) = ((pre ++ x :: r).length : Int) := by simp
      have e2 : ((pre ++ [y]).length : Int) = ((pre ++ [x]).length : Int) := by simp
      have e3 : (pre ++ [y]).length = pre.length + 1 := by simp
      rw [e1, e2, e3, ← shift_mid, ← shift_mid] at ih
      exact ih
    refine Ev.succ ?_
    simp only [f_spec_flPass_1, lt_mid, ge_mid, decide_true, if_true, Int.toNat_natCast, getD_mid, set_mid, hn, hGl, ha0, haG]
    simp only [passGo]
    refine Ev.ite (fun h1 => Ev.ite (fun h2 => ?_) (fun h2 => ?_)) (fun h1 => ?_)
    · simp only [decide_eq_true_eq] at h1 h2
      rw [if_pos ⟨h1, h2⟩]
      exact Ev.bind (e_spec_paTurn x (hx x (List.mem_cons_self ..))) (next (flip1 x))
    · simp only [decide_eq_true_eq] at h2
      rw [if_neg (fun hc => h2 hc.2)]
      exact next x
    · simp only [decide_eq_true_eq] at h1
      rw [if_neg (fun hc => h1 hc.1)]
      exact next x
def passAt (G : List Int) (at' : Nat) (o : List CellD) : List CellD := if (List.getD o at' (0, 0)).1 = 3 then List.set o at' (flip1 (List.getD o at' (0, 0))) else if (List.getD o at' (0, 0)).1 = 6 then passGo G (List.getD G at' 0) 0 o else o
theorem e_spec_flPass (R C : Int) (o : List CellD) (G : List Int) (at' : Nat) (hl : o.length ≤ 1000) (ha : at' < o.length) (hG : G.length = o.length) (hx : ∀ x ∈ o, cellOK x = true) : Ev (fun k => f_spec_flPass k (R, C, o) G (at' : Int)) (passAt G at' o) := by
  have ha0 : (0 : Int) ≤ (at' : Int) := Int.natCast_nonneg _
  have ha1 : (at' : Int) < (o.length : Int) := by omega
  refine Ev.succ ?_
  simp only [f_spec_flPass, ha0, ha1, if_true, Int.toNat_natCast]
  unfold passAt
  refine Ev.ite (fun h1 => ?_) (fun h1 => Ev.ite (fun h2 => ?_) (fun h2 => ?_))
  · simp only [decide_eq_true_eq] at h1
    rw [if_pos h1]
    exact Ev.bind (e_spec_paTurn _ (hx _ (cell_in ha0 ha1 _))) (Ev.some _)
  · simp only [decide_eq_true_eq] at h1 h2
    rw [if_neg h1, if_pos h2]
    exact Ev.bind (e_spec_flPass_1 R C G at' o [] hl ha hG hx) (Ev.some _)
  · simp only [decide_eq_true_eq] at h1 h2
    rw [if_neg h1, if_neg h2]
    exact Ev.some _
theorem turnGo_len (G K : List Int) (at' : Nat) (ka : Int) : ∀ (l : List CellD) (i : Nat), (turnGo G K at' ka i l).length = l.length
  | [], _ => rfl
  | x :: r, i => by simp [turnGo, turnGo_len G K at' ka r]
theorem passGo_len (G : List Int) (ga : Int) : ∀ (l : List CellD) (i : Nat), (passGo G ga i l).length = l.length
  | [], _ => rfl
  | x :: r, i => by simp [passGo, passGo_len G ga r]
theorem turnGo_at (G K : List Int) (at' : Nat) (ka : Int) : ∀ (l : List CellD) (j i : Nat), (turnGo G K at' ka j l)[i]? = l[i]?.map fun x => if (j + i = at' ∨ (ka = 6 ∧ x.1 = 6 ∧ List.getD G (j + i) 0 = List.getD G at' 0)) ∧ List.getD K (j + i) 0 ≠ 1 then flip1 x else x
  | [], _, i => by simp [turnGo]
  | x :: r, j, 0 => by simp [turnGo]
  | x :: r, j, i + 1 => by
    simp only [turnGo, List.getElem?_cons_succ]
    rw [turnGo_at G K at' ka r (j + 1) i, show j + 1 + i = j + (i + 1) by omega]
theorem passGo_at (G : List Int) (ga : Int) : ∀ (l : List CellD) (j i : Nat), (passGo G ga j l)[i]? = l[i]?.map fun x => if x.1 = 6 ∧ List.getD G (j + i) 0 = ga then flip1 x else x
  | [], _, i => by simp [passGo]
  | x :: r, j, 0 => by simp [passGo]
  | x :: r, j, i + 1 => by
    simp only [passGo, List.getElem?_cons_succ]
    rw [passGo_at G ga r (j + 1) i, show j + 1 + i = j + (i + 1) by omega]
/-! ### What is stuck comes back -/
def restore (b : BoardD) (l : List FaultD) (o : List CellD) : List CellD := l.foldl (fun o f => if f.1 = 1 then List.set o (placeOf b f).toNat (List.getD b.2.2 (placeOf b f).toNat (0, 0)) else o) o
theorem restore_len (b : BoardD) : ∀ (l : List FaultD) (o : List CellD), (restore b l o).length = o.length
  | [], _ => rfl
  | f :: l, o => by
    show (restore b l (if f.1 = 1 then _ else _)).length = _
    rw [restore_len b l]
    split <;> simp
theorem restore_at (b : BoardD) : ∀ (l : List FaultD) (o : List CellD) (i : Nat), i < o.length → (restore b l o)[i]? = if ∃ f ∈ l, f.1 = 1 ∧ (placeOf b f).toNat = i then some (List.getD b.2.2 i (0, 0)) else o[i]?
  | [], o, i, hi => by rw [if_neg (by rintro ⟨f, hf, _⟩; cases hf)]; rfl
  | f :: l, o, i, hi => by
    show (restore b l (if f.1 = 1 then _ else _))[i]? = _
    by_cases hf : f.1 = 1
    · rw [if_pos hf, restore_at b l _ i (by rw [List.length_set]; exact hi)]
      by_cases h : ∃ g ∈ l, g.1 = 1 ∧ (placeOf b g).toNat = i
      · rw [if_pos h]
        obtain ⟨g, hg, h2⟩ := h
        rw [if_pos ⟨g, List.mem_cons_of_mem _ hg, h2⟩]
      · rw [if_neg h]
        by_cases hp : (placeOf b f).toNat = i
        · rw [if_pos ⟨f, List.mem_cons_self .., hf, hp⟩, hp, List.getElem?_set_self hi]
        · rw [List.getElem?_set_ne hp, if_neg (by
            rintro ⟨g, hg, h2, h3⟩
            rcases List.mem_cons.1 hg with rfl | hg
            · exact hp h3
            · exact h ⟨g, hg, h2, h3⟩)]
    · rw [if_neg hf, restore_at b l o i hi]
      by_cases h : ∃ g ∈ l, g.1 = 1 ∧ (placeOf b g).toNat = i
      · rw [if_pos h]
        obtain ⟨g, hg, h2⟩ := h
        rw [if_pos ⟨g, List.mem_cons_of_mem _ hg, h2⟩]
      · rw [if_neg h, if_neg (by
            rintro ⟨g, hg, h2, h3⟩
            rcases List.mem_cons.1 hg with rfl | hg
            · exact hf h2
            · exact h ⟨g, hg, h2, h3⟩)]
theorem faAtD_mem {r c : Int} : ∀ {l : List FaultD} {f : FaultD}, f ∈ l → f.2.1 = r → f.2.2 = c → ∀ {b : BoardD} {last : Int}, faultsOK b last l = true → faAtD r c 0 l = f.1
  | g :: l, f, hf, h1, h2, b, last, hok => by
    obtain ⟨k1, k2⟩ := faults_cons hok
    simp only [faAtD]
    rcases List.mem_cons.1 hf with rfl | hf
    · rw [if_pos ⟨h1, h2⟩]
    · have hno : ¬ (g.2.1 = r ∧ g.2.2 = c) := by
        rintro ⟨e1, e2⟩
        have key : ∀ {l : List FaultD} {last : Int}, faultsOK b last l = true → ∀ f ∈ l, last < placeOf b f := by
          intro l
          induction l with
          | nil => intro last _ f hf; cases hf
          | cons g l ih =>
            intro last h f hf
            obtain ⟨a1, a2⟩ := faults_cons h
            rcases List.mem_cons.1 hf with rfl | hf
            · exact a1.2.2.2.2
            · have := ih a2 f hf; omega
        have := key k2 f hf
        unfold placeOf at this
        rw [h1, h2, e1, e2] at this
        omega
      rw [if_neg hno]
      exact faAtD_mem hf h1 h2 k2
theorem faAtD_one {r c : Int} : ∀ {l : List FaultD}, faAtD r c 0 l = 1 → ∃ f ∈ l, f.1 = 1 ∧ f.2.1 = r ∧ f.2.2 = c
  | [], h => by simp [faAtD] at h
  | f :: l, h => by
    simp only [faAtD] at h
    split at h
    · rename_i hm
      exact ⟨f, List.mem_cons_self .., h, hm.1, hm.2⟩
    · obtain ⟨g, hg, h2⟩ := faAtD_one h
      exact ⟨g, List.mem_cons_of_mem _ hg, h2⟩
/-- Where the kinds tell of a stuck cell, there is such a fault. -/
theorem stuck_iff {b : BoardD} (hb : boardOK b = true) {l : List FaultD} (hl : faultsOK b (-1) l = true) {i : Nat} (hi : i < b.2.2.length) : List.getD (kindsB b l) i 0 = 1 ↔ ∃ f ∈ l, f.1 = 1 ∧ (placeOf b f).toNat = i := by
  obtain ⟨q, m, t, hq, hm, k1, k2, k3, k4, k5, k6, k7, k8, k9⟩ := place_parts hb (i := (i : Int)) (by omega) (by omega)
  have hC : 0 < b.2.1 := by omega
  have e0 : Int.tdiv (i : Int) b.2.1 = (i : Int) / b.2.1 := Int.tdiv_eq_ediv_of_nonneg (by omega)
  have e1 : Int.tmod (i : Int) b.2.1 = (i : Int) % b.2.1 := Int.tmod_eq_emod_of_nonneg (by omega)
  have e2 := Int.mul_ediv_add_emod (i : Int) b.2.1
  rw [← e0, ← e1, hq, hm] at e2
  have hi2 : (i : Int) = q * b.2.1 + m := by rw [Int.mul_comm]; omega
  have hi3 : i = (q * b.2.1 + m).toNat := by omega
  have hk : List.getD (kindsB b l) i 0 = faAtD q m 0 l := by
    unfold kindsB
    rw [hi3, kindsOf_at hb k4 k5 k2 k3 hl (by simp)]
    congr 1
    simp only [List.getD, List.getElem?_replicate]
    split <;> rfl
  rw [hk]
  constructor
  · intro h
    obtain ⟨f, hf, h1, h2, h3⟩ := faAtD_one h
    exact ⟨f, hf, h1, by unfold placeOf; rw [h2, h3]; exact hi3.symm⟩
  · rintro ⟨f, hf, h1, h2⟩
    obtain ⟨o1, o2, o3, o4⟩ := faults_on hl f hf
    have hp := place_ok hb o1 o2 o3 o4
    have := place_inj o3 o4 k2 k3 (show f.2.1 * b.2.1 + f.2.2 = q * b.2.1 + m by unfold placeOf at h2; omega)
    rw [faAtD_mem hf this.1 this.2 hl, h1]
def stepAt (G K : List Int) (at' : Nat) (o : List CellD) : List CellD := if turning (List.getD o at' (0, 0)) then turnAt G K at' o else o
theorem restore_pass {b : BoardD} (hb : boardOK b = true) {l : List FaultD} (hl : faultsOK b (-1) l = true) (G : List Int) {at' : Nat} {o : List CellD} (ho : o.length = b.2.2.length) (ha : at' < o.length) (hs : ∀ i, i < o.length → List.getD (kindsB b l) i 0 = 1 → o[i]? = some (List.getD b.2.2 i (0, 0))) :
    restore b l (passAt G at' o) = stepAt G (kindsB b l) at' o := by
  have hpl : (passAt G at' o).length = o.length := by
    unfold passAt; split
    · simp
    · split
      · exact passGo_len _ _ _ _
      · rfl
  apply List.ext_getElem?
  intro i
  rcases Nat.lt_or_ge i o.length with hi | hi
  · rw [restore_at b l _ i (by rw [hpl]; exact hi)]
    have hst := stuck_iff hb hl (i := i) (by omega)
    have hox : o[i]? = some o[i] := List.getElem?_eq_getElem hi
    have hax : List.getD o at' (0, 0) = o[at'] := by simp [List.getD, List.getElem?_eq_getElem ha]
    by_cases hk : List.getD (kindsB b l) i 0 = 1
    · rw [if_pos (hst.1 hk), ← hs i hi hk]
      unfold stepAt turnAt
      split
      · rw [turnGo_at, hox, Option.map_some, if_neg (fun hc => hc.2 (by rw [Nat.zero_add]; exact hk))]
      · rfl
    · rw [if_neg (fun h => hk (hst.2 h))]
      unfold stepAt turnAt passAt turning
      rw [hax]
      by_cases h3 : (o[at']).1 = 3
      · simp only [h3, true_or, decide_true, if_true]
        rw [turnGo_at, hox, Option.map_some, Nat.zero_add]
        by_cases hia : at' = i
        · subst hia
          rw [List.getElem?_set_self hi, if_pos ⟨.inl rfl, hk⟩]
        · have hno : ¬ ((i = at' ∨ ((3 : Int) = 6 ∧ (o[i]).1 = 6 ∧ List.getD G i 0 = List.getD G at' 0)) ∧ List.getD (kindsB b l) i 0 ≠ 1) := by
            rintro ⟨h | ⟨h, _⟩, _⟩
            · exact hia h.symm
            · omega
          rw [List.getElem?_set_ne hia, hox, if_neg hno]
      · by_cases h6 : (o[at']).1 = 6
        · have h36 : ¬ (6 : Int) = 3 := by omega
          simp only [h6, h36, or_true, decide_true, if_true, if_false]
          rw [turnGo_at, passGo_at, hox, Option.map_some, Option.map_some, Nat.zero_add]
          congr 1
          by_cases hc : (o[i]).1 = 6 ∧ List.getD G i 0 = List.getD G at' 0
          · rw [if_pos hc, if_pos ⟨.inr ⟨rfl, hc⟩, hk⟩]
          · rw [if_neg hc, if_neg (by
              rintro ⟨h | ⟨_, h⟩, _⟩
              · subst h; exact hc ⟨h6, rfl⟩
              · exact hc h)]
        · simp only [h3, h6, or_self, decide_false, Bool.false_eq_true, if_false]
  · rw [List.getElem?_eq_none (by rw [restore_len, hpl]; exact hi), List.getElem?_eq_none ?_]
    unfold stepAt turnAt
    split
    · rw [turnGo_len]; exact hi
    · exact hi
end Go.Proofs.Ytgjmhbjdhihgaaa.Vs

set_option linter.unusedVariables false
set_option linter.unusedSimpArgs false
namespace Go.Proofs.Ytgjmhbjdhihgaaa.Vs
open Go.RowKit
abbrev FallD := Int × Int × Int
/-- Where a marble goes from a cell. -/
def goesOf (x : CellD) (side : Int) : Int := if x.1 = 1 then -1 else if x.1 = 2 then 1 else if x.1 = 3 then 2 * x.2 - 1 else if x.1 = 6 then 2 * x.2 - 1 else if x.1 = 4 then 0 - side else 0
theorem goesOf_in {x : CellD} (hx : cellOK x = true) {side : Int} (h1 : -1 ≤ side) (h2 : side ≤ 1) : -1 ≤ goesOf x side ∧ goesOf x side ≤ 1 := by
  obtain ⟨c1, c2, c3⟩ := cell_two hx
  unfold goesOf
  repeat' split
  all_goals omega
theorem e_impl_GoesTo (x : CellD) (side : Int) (hx : cellOK x = true) (h1 : -1 ≤ side) (h2 : side ≤ 1) : Ev (fun k => f_impl_GoesTo k x side) (if x.1 = 5 then (0, false) else (goesOf x side, true)) := by
  obtain ⟨c1, c2, c3⟩ := cell_two hx
  have n1 : ¬ side < -1 := by omega
  have n2 : ¬ side > 1 := by omega
  refine Ev.succ ?_
  simp only [f_impl_GoesTo]
  refine Ev.bind (e_impl_IsCell x) ?_
  simp only [hx, Bool.not_true, Bool.false_eq_true, if_false, n1, n2, decide_false]
  rw [w64 (n := 2 * x.2) (by omega) (by omega), w64 (n := 2 * x.2 - 1) (by omega) (by omega), w64 (n := 0 - side) (by omega) (by omega)]
  refine Ev.of ?_
  unfold goesOf
  by_cases a5 : x.1 = 5
  · simp [a5]
  · by_cases a1 : x.1 = 1 <;> by_cases a2 : x.1 = 2 <;> by_cases a3 : x.1 = 3 <;> by_cases a6 : x.1 = 6 <;> by_cases a4 : x.1 = 4 <;> simp [a1, a2, a3, a4, a5, a6]
theorem e_spec_paGoes (x : CellD) (side : Int) (hx : cellOK x = true) (h1 : -1 ≤ side) (h2 : side ≤ 1) : Ev (fun k => f_spec_paGoes k x side) (goesOf x side) := by
  obtain ⟨c1, c2, c3⟩ := cell_two hx
  refine Ev.succ ?_
  simp only [f_spec_paGoes]
  rw [w64 (n := 2 * x.2) (by omega) (by omega), w64 (n := 2 * x.2 - 1) (by omega) (by omega), w64 (n := 0 - side) (by omega) (by omega)]
  refine Ev.of ?_
  unfold goesOf
  by_cases a1 : x.1 = 1 <;> by_cases a2 : x.1 = 2 <;> by_cases a3 : x.1 = 3 <;> by_cases a6 : x.1 = 6 <;> by_cases a4 : x.1 = 4 <;> simp [a1, a2, a3, a4, a6]
theorem flip1_ok {x : CellD} (hx : cellOK x = true) (h : x.1 = 3 ∨ x.1 = 6) : cellOK (flip1 x) = true := by
  obtain ⟨c1, c2, c3⟩ := cell_two hx
  unfold cellOK flip1
  simp only [decide_eq_true_eq]
  omega
theorem mem_at {α : Type} {l : List α} {x : α} (h : x ∈ l) : ∃ i : Nat, l[i]? = some x := List.getElem?_of_mem h
theorem stepAt_len (G K : List Int) (at' : Nat) (o : List CellD) : (stepAt G K at' o).length = o.length := by
  unfold stepAt turnAt
  split
  · exact turnGo_len _ _ _ _ _ _
  · rfl
theorem stepAt_ok (G K : List Int) {at' : Nat} {o : List CellD} (hx : ∀ x ∈ o, cellOK x = true) : ∀ x ∈ stepAt G K at' o, cellOK x = true := by
  unfold stepAt turnAt
  split
  · rename_i ht
    unfold turning at ht
    simp only [decide_eq_true_eq] at ht
    intro y hy
    obtain ⟨i, hi⟩ := mem_at hy
    rw [turnGo_at] at hi
    obtain ⟨x, h1, h2⟩ := Option.map_eq_some_iff.1 hi
    have hxo := hx x (List.mem_of_getElem? h1)
    split at h2
    · rename_i hc
      rw [← h2]
      refine flip1_ok hxo ?_
      rcases hc.1 with h | ⟨_, h, _⟩
      · rw [Nat.zero_add] at h
        subst h
        simpa [List.getD, h1] using ht
      · exact .inr h
    · rw [← h2]; exact hxo
  · exact hx
theorem stepAt_stuck (G K : List Int) {at' i : Nat} {o : List CellD} (hk : List.getD K i 0 = 1) : (stepAt G K at' o)[i]? = o[i]? := by
  unfold stepAt turnAt
  split
  · rw [turnGo_at, Nat.zero_add]
    cases h : o[i]? with
    | none => rfl
    | some x => rw [Option.map_some, if_neg (fun hc => hc.2 hk)]
  · rfl
/-- A marble's way, row by row: it comes to the bottom, or it stops before. -/
def fallL (b : BoardD) (G K : List Int) : Nat → Int → Int → Int → List CellD → LR (Int × List CellD) (FallD × List CellD)
  | 0, _, col, _, o => .go (col, o)
  | n + 1, row, col, side, o =>
    let at' := (row * b.2.1 + col).toNat
    let x := List.getD o at' (0, 0)
    if List.getD K at' 0 = 2 then .ret ((3, row, col), o)
    else if x.1 = 5 then .ret ((2, row, col), o)
    else
      let g := if List.getD K at' 0 = 3 then 0 - goesOf x side else goesOf x side
      if 0 ≤ col + g ∧ col + g < b.2.1 then fallL b G K n (row + 1) (col + g) (0 - g) (stepAt G K at' o) else .ret ((3, row, col + g), stepAt G K at' o)
def LR.map2 {Z R Z' R' : Type} (f : Z → Z') (g : R → R') : LR Z R → LR Z' R'
  | .go z => .go (f z) | .ret r => .ret (g r)
theorem e_impl_faultyDrop_0 (b : BoardD) (hb : boardOK b = true) (G K : List Int) (hG : G.length = b.2.2.length) (hK : K.length = b.2.2.length) (c0 c1 c2 : Int) : ∀ (n : Nat) (row col side : Int) (o : List CellD), row + n = b.1 → 0 ≤ row → 0 ≤ col → col < b.2.1 → -1 ≤ side → side ≤ 1 → o.length = b.2.2.length → (∀ x ∈ o, cellOK x = true) →
    Ev (fun k => f_impl_faultyDrop_0 k o b.1 b.2.1 c0 c1 c2 G K col side row) ((fallL b G K n row col side o).map2 (fun z => (z.2, b.1, b.2.1, c0, c1, c2, z.1)) id)
  | 0, row, col, side, o, hn, hr, hc, hc2, hs, hs2, ho, hx => by
    refine Ev.succ ?_
    have : ¬ row < b.1 := by omega
    simp only [f_impl_faultyDrop_0, this, decide_false, Bool.false_eq_true, if_false, fallL, LR.map2]
    exact Ev.some _
  | n + 1, row, col, side, o, hn, hr, hc, hc2, hs, hs2, ho, hx => by
    obtain ⟨g1, g2, g3, g4, g5, g6⟩ := board_ok hb
    have hpp := prod_small g1 g2 g3 g4
    have hrow : row < b.1 := by omega
    have hp := place_ok hb hr hrow hc hc2
    have hoI : row * b.2.1 + col < (o.length : Int) := by omega
    have hKI : row * b.2.1 + col < (K.length : Int) := by omega
    have hcast : ((row * b.2.1 + col).toNat : Int) = row * b.2.1 + col := Int.toNat_of_nonneg hp.1
    refine Ev.succ ?_
    simp only [f_impl_faultyDrop_0, fallL]
    rw [w64 (n := row * b.2.1) (by omega) (by omega), w64 (n := row * b.2.1 + col) (by omega) (by omega), w64 (n := row + 1) (by omega) (by omega)]
    simp only [hrow, hp.1, hKI, hoI, decide_true, if_true]
    have hxo := hx _ (cell_in hp.1 hoI (0, 0))
    have hgo := goesOf_in hxo hs hs2
    have ht := e_impl_IsTurning (List.getD o (row * b.2.1 + col).toNat (0, 0))
    rw [hxo, Bool.true_and] at ht
    have hturn := e_impl_turnFaulty b.1 b.2.1 o G K (row * b.2.1 + col).toNat (by omega) (by omega) (by omega) (by omega) hx
    rw [hcast] at hturn
    generalize hX : List.getD o (row * b.2.1 + col).toNat (0, 0) = X at *
    refine Ev.ite (fun h => ?_) (fun h => ?_)
    · simp only [decide_eq_true_eq] at h
      rw [if_pos h]
      exact Ev.some _
    simp only [decide_eq_true_eq] at h
    rw [if_neg h]
    refine Ev.bind (e_impl_GoesTo X side hxo hs hs2) ?_
    by_cases h5 : X.1 = 5
    · simp only [h5, if_true, Bool.not_false]
      exact Ev.some _
    simp only [h5, if_false, Bool.not_true, Bool.false_eq_true]
    have tail : ∀ g : Int, -1 ≤ g → g ≤ 1 → Ev (fun k => Option.bind (f_impl_IsTurning k X) fun z => if z = true then Option.bind (f_impl_turnFaulty k (b.1, b.2.1, o) G K (row * b.2.1 + col)) fun z2 => if decide (wrap64 (col + g) < 0) = true then some (LR.ret ((3, row, wrap64 (col + g)), z2)) else if decide (wrap64 (col + g) ≥ b.2.1) = true then some (LR.ret ((3, row, wrap64 (col + g)), z2)) else f_impl_faultyDrop_0 k z2 b.1 b.2.1 c0 c1 c2 G K (wrap64 (col + g)) (wrap64 (0 - g)) (row + 1)
        else if decide (wrap64 (col + g) < 0) = true then some (LR.ret ((3, row, wrap64 (col + g)), o)) else if decide (wrap64 (col + g) ≥ b.2.1) = true then some (LR.ret ((3, row, wrap64 (col + g)), o)) else f_impl_faultyDrop_0 k o b.1 b.2.1 c0 c1 c2 G K (wrap64 (col + g)) (wrap64 (0 - g)) (row + 1))
        (LR.map2 (fun z => (z.2, b.1, b.2.1, c0, c1, c2, z.1)) id (if 0 ≤ col + g ∧ col + g < b.2.1 then fallL b G K n (row + 1) (col + g) (0 - g) (stepAt G K (row * b.2.1 + col).toNat o) else .ret ((3, row, col + g), stepAt G K (row * b.2.1 + col).toNat o))) := by
      intro g hg hg2
      rw [w64 (n := col + g) (by omega) (by omega), w64 (n := 0 - g) (by omega) (by omega)]
      have last : ∀ o' : List CellD, o' = stepAt G K (row * b.2.1 + col).toNat o → Ev (fun k => if decide (col + g < 0) = true then some (LR.ret ((3, row, col + g), o')) else if decide (col + g ≥ b.2.1) = true then some (LR.ret ((3, row, col + g), o')) else f_impl_faultyDrop_0 k o' b.1 b.2.1 c0 c1 c2 G K (col + g) (0 - g) (row + 1))
          (LR.map2 (fun z => (z.2, b.1, b.2.1, c0, c1, c2, z.1)) id (if 0 ≤ col + g ∧ col + g < b.2.1 then fallL b G K n (row + 1) (col + g) (0 - g) (stepAt G K (row * b.2.1 + col).toNat o) else .ret ((3, row, col + g), stepAt G K (row * b.2.1 + col).toNat o))) := by
        intro o' ho'
        refine Ev.ite (fun q => ?_) (fun q => Ev.ite (fun q2 => ?_) (fun q2 => ?_))
        · simp only [decide_eq_true_eq] at q
          rw [if_neg (by omega), ho']
          exact Ev.some _
        · simp only [decide_eq_true_eq] at q2
          rw [if_neg (by omega), ho']
          exact Ev.some _
        · simp only [decide_eq_true_eq] at q q2
          rw [if_pos (by omega), ho']
          exact e_impl_faultyDrop_0 b hb G K hG hK c0 c1 c2 n (row + 1) (col + g) (0 - g) _ (by omega) (by omega) (by omega) (by omega) (by omega) (by omega) (by rw [stepAt_len]; exact ho) (stepAt_ok G K hx)
      refine Ev.bind ht ?_
      have hstep : stepAt G K (row * b.2.1 + col).toNat o = if turning X then turnAt G K (row * b.2.1 + col).toNat o else o := by unfold stepAt; rw [hX]
      cases htx : turning X with
      | true =>
        simp only [if_true]
        exact Ev.bind hturn (last _ (by rw [hstep, htx]; rfl))
      | false =>
        simp only [Bool.false_eq_true, if_false]
        exact last _ (by rw [hstep, htx]; rfl)
    refine Ev.ite (fun h3 => ?_) (fun h3 => ?_)
    · simp only [decide_eq_true_eq] at h3
      simp only [h3, if_true]
      rw [w64 (n := 0 - goesOf X side) (by omega) (by omega)]
      exact tail _ (by omega) (by omega)
    · simp only [decide_eq_true_eq] at h3
      simp only [h3, if_false]
      exact tail _ hgo.1 hgo.2
/-- A marble's end, and the cells behind it. -/
def fallEnd (b : BoardD) (z : LR (Int × List CellD) (FallD × List CellD)) : FallD × List CellD := match z with
  | .go z => ((1, b.1, z.1), z.2)
  | .ret r => r
def fallOf (b : BoardD) (G K : List Int) (col : Int) (o : List CellD) : FallD × List CellD := fallEnd b (fallL b G K b.1.toNat 0 col 0 o)
theorem e_impl_faultyDrop (b : BoardD) (hb : boardOK b = true) (G K : List Int) (hG : G.length = b.2.2.length) (hK : K.length = b.2.2.length) (col : Int) (hc : 0 ≤ col) (hc2 : col < b.2.1) (o : List CellD) (ho : o.length = b.2.2.length) (hx : ∀ x ∈ o, cellOK x = true) : Ev (fun k => f_impl_faultyDrop k (b.1, b.2.1, o) G K col) (fallOf b G K col o) := by
  obtain ⟨g1, g2, g3, g4, g5, g6⟩ := board_ok hb
  refine Ev.succ ?_
  simp only [f_impl_faultyDrop]
  refine Ev.bind (e_impl_faultyDrop_0 b hb G K hG hK 0 0 0 b.1.toNat 0 col 0 o (by omega) (by omega) hc hc2 (by omega) (by omega) ho hx) ?_
  unfold fallOf
  cases fallL b G K b.1.toNat 0 col 0 o with
  | go z => exact Ev.go (Ev.some _)
  | ret r => exact Ev.ret (Ev.some _)
theorem e_spec_faGo_2 (b : BoardD) (hb : boardOK b = true) (d1 d2 d3 d4 d5 : Int) (o4 : List CellD) (e1 e2 : Int) (v1 : List Int) (v2 : List FaultD) (v3 v12 v15 : Int) : ∀ (r pre : List FaultD) (o : List CellD), (∀ f ∈ r, 0 ≤ f.2.1 ∧ f.2.1 < b.1 ∧ 0 ≤ f.2.2 ∧ f.2.2 < b.2.1) → (pre ++ r).length ≤ 9223372036854775806 → o.length = b.2.2.length →
    Ev (fun k => f_spec_faGo_2 k b.1 b.2.1 b.2.2 d1 d2 d3 d4 d5 o4 e1 e2 o v1 v2 v3 v12 v15 (pre ++ r) ((pre ++ r).length : Int) (pre.length : Int)) (b.1, b.2.1, b.2.2, d1, d2, d3, d4, d5, o4, e1, e2, restore b r o, v1, v2, v3, v12, v15)
  | [], pre, o, hr, hl, ho => by
    refine Ev.succ ?_
    simp only [f_spec_faGo_2, nlt_end, decide_false, Bool.false_eq_true, if_false]
    exact Ev.some _
  | f :: r, pre, o, hr, hl, ho => by
    obtain ⟨k1, k2, k3, k4⟩ := hr f (List.mem_cons_self ..)
    have hp := place_ok hb k1 k2 k3 k4
    have hpo : f.2.1 * b.2.1 + f.2.2 < (o.length : Int) := by omega
    have hr' : ∀ g ∈ r, 0 ≤ g.2.1 ∧ g.2.1 < b.1 ∧ 0 ≤ g.2.2 ∧ g.2.2 < b.2.1 := fun g hg => hr g (List.mem_cons_of_mem _ hg)
    have ih := fun (o' : List CellD) (ho' : o'.length = b.2.2.length) => e_spec_faGo_2 b hb d1 d2 d3 d4 d5 o4 e1 e2 v1 v2 v3 v12 v15 r (pre ++ [f]) o' hr' (by simpa using hl) ho'
    simp only [← shift_mid] at ih
    have hrest : restore b (f :: r) o = restore b r (if f.1 = 1 then List.set o (placeOf b f).toNat (List.getD b.2.2 (placeOf b f).toNat (0, 0)) else o) := rfl
    rw [hrest]
    refine Ev.succ ?_
    simp only [f_spec_faGo_2, lt_mid, ge_mid, decide_true, if_true, Int.toNat_natCast, getD_mid]
    rw [next_mid pre f r (by omega), w64 (n := f.2.1 * b.2.1) (by omega) (by omega), w64 (n := f.2.1 * b.2.1 + f.2.2) (by omega) (by omega)]
    simp only [hp.1, hp.2.1, hpo, if_true]
    refine Ev.ite (fun h => ?_) (fun h => ?_)
    · simp only [decide_eq_true_eq] at h
      rw [if_pos h]
      exact ih _ (by rw [List.length_set]; exact ho)
    · simp only [decide_eq_true_eq] at h
      rw [if_neg h]
      exact ih _ ho
theorem e_spec_boOwn (b : BoardD) (h : b.2.2.length ≤ 1000000) : Ev (fun k => f_spec_boOwn k b) b := by
  refine Ev.succ ?_
  simp only [f_spec_boOwn, f_spec_boOwn_g1]
  have : 0 + b.2.2.length ≤ 140737488355328 / 16 := by omega
  simp only [this, if_true]
  exact Ev.some _
theorem e_impl_copyBoard (b : BoardD) (h : b.2.2.length ≤ 1000000) : Ev (fun k => f_impl_copyBoard k b) b := by
  refine Ev.succ ?_
  simp only [f_impl_copyBoard, f_impl_copyBoard_g1]
  have : 0 + b.2.2.length ≤ 140737488355328 / 16 := by omega
  simp only [this, if_true]
  exact Ev.some _
/-- The cells of a board lie where the board with other cells has its places. -/
theorem e_spec_boAt_on (b : BoardD) (hb : boardOK b = true) (o : List CellD) (ho : o.length = b.2.2.length) {r c : Int} (h1 : 0 ≤ r) (h2 : r < b.1) (h3 : 0 ≤ c) (h4 : c < b.2.1) : Ev (fun k => f_spec_boAt k (b.1, b.2.1, o) r c) (List.getD o (r * b.2.1 + c).toNat (0, 0)) := by
  have hp := place_ok hb h1 h2 h3 h4
  have hpo : r * b.2.1 + c < (o.length : Int) := by omega
  refine Ev.succ ?_
  simp only [f_spec_boAt]
  rw [w64 (n := r * b.2.1) (by omega) (by omega), w64 (n := r * b.2.1 + c) (by omega) (by omega)]
  simp only [hp.1, hpo, if_true]
  exact Ev.some _
theorem e_spec_faGo_0 (b : BoardD) (hb : boardOK b = true) (G : List Int) (hG : G.length = b.2.2.length) (l : List FaultD) (hl : faultsOK b (-1) l = true) (hll : l.length ≤ 9223372036854775806) (d1 d2 d3 d4 d5 : Int) (o4 : List CellD) : ∀ (n : Nat) (row col side : Int) (o : List CellD), row + n = b.1 → 0 ≤ row → 0 ≤ col → col < b.2.1 → -1 ≤ side → side ≤ 1 → o.length = b.2.2.length → (∀ x ∈ o, cellOK x = true) → (∀ i, i < o.length → List.getD (kindsB b l) i 0 = 1 → o[i]? = some (List.getD b.2.2 i (0, 0))) →
    Ev (fun k => f_spec_faGo_0 k b.1 b.2.1 b.2.2 d1 d2 d3 d4 d5 o4 b.1 b.2.1 o G l col side row) ((fallL b G (kindsB b l) n row col side o).map2 (fun z => (b.1, b.2.1, b.2.2, d1, d2, d3, d4, d5, o4, b.1, b.2.1, z.2, z.1)) (fun r => (r.1, b.1, b.2.1, r.2)))
  | 0, row, col, side, o, hn, hr, hc, hc2, hs, hs2, ho, hx, hst => by
    refine Ev.succ ?_
    have : ¬ row < b.1 := by omega
    simp only [f_spec_faGo_0, this, decide_false, Bool.false_eq_true, if_false, fallL, LR.map2]
    exact Ev.some _
  | n + 1, row, col, side, o, hn, hr, hc, hc2, hs, hs2, ho, hx, hst => by
    obtain ⟨g1, g2, g3, g4, g5, g6⟩ := board_ok hb
    have hpp := prod_small g1 g2 g3 g4
    have hrow : row < b.1 := by omega
    have hp := place_ok hb hr hrow hc hc2
    have hoI : row * b.2.1 + col < (o.length : Int) := by omega
    have hcast : ((row * b.2.1 + col).toNat : Int) = row * b.2.1 + col := Int.toNat_of_nonneg hp.1
    have hK : List.getD (kindsB b l) (row * b.2.1 + col).toNat 0 = faAtD row col 0 l := by
      unfold kindsB
      rw [kindsOf_at hb hr hrow hc hc2 hl (by simp)]
      congr 1
      simp only [List.getD, List.getElem?_replicate]
      split <;> rfl
    have hxo := hx _ (cell_in hp.1 hoI (0, 0))
    have hgo := goesOf_in hxo hs hs2
    have hpass := e_spec_flPass b.1 b.2.1 o G (row * b.2.1 + col).toNat (by omega) (by omega) (by omega) hx
    rw [hcast] at hpass
    have hres := restore_pass hb hl G ho (at' := (row * b.2.1 + col).toNat) (by omega) hst
    have hpl : (passAt G (row * b.2.1 + col).toNat o).length = b.2.2.length := by
      have := congrArg List.length hres
      rw [restore_len, stepAt_len] at this
      omega
    refine Ev.succ ?_
    simp only [f_spec_faGo_0, fallL]
    simp only [hrow, decide_true, if_true]
    refine Ev.bind (e_spec_boAt_on b hb o ho hr hrow hc hc2) ?_
    generalize hX : List.getD o (row * b.2.1 + col).toNat (0, 0) = X at *
    refine Ev.bind (e_spec_faAt l row col hll) ?_
    rw [hK]
    refine Ev.ite (fun h => ?_) (fun h => ?_)
    · simp only [decide_eq_true_eq] at h
      rw [if_pos h]
      simp only [f_spec_faGo_g9]
      exact Ev.bind (Ev.some _) (Ev.some _)
    simp only [decide_eq_true_eq] at h
    rw [if_neg h]
    refine Ev.ite (fun h5 => ?_) (fun h5 => ?_)
    · simp only [decide_eq_true_eq] at h5
      rw [if_pos h5]
      simp only [f_spec_faGo_g11]
      exact Ev.bind (Ev.some _) (Ev.some _)
    simp only [decide_eq_true_eq] at h5
    rw [if_neg h5]
    refine Ev.bind (e_spec_paGoes X side hxo hs hs2) ?_
    have hg : -1 ≤ (if faAtD row col 0 l = 3 then 0 - goesOf X side else goesOf X side) ∧ (if faAtD row col 0 l = 3 then 0 - goesOf X side else goesOf X side) ≤ 1 := by split <;> omega
    have hj : Ev (fun k => f_spec_faGo_j52 k b.1 b.2.1 b.2.2 d1 d2 d3 d4 d5 o4 b.1 b.2.1 o G l col row (goesOf X side) (decide (faAtD row col 0 l = 3))) (b.1, b.2.1, b.2.2, d1, d2, d3, d4, d5, o4, b.1, b.2.1, o, G, l, col, row, if faAtD row col 0 l = 3 then 0 - goesOf X side else goesOf X side) := by
      simp only [f_spec_faGo_j52]
      rw [w64 (n := 0 - goesOf X side) (by omega) (by omega)]
      refine Ev.of ?_
      by_cases h3 : faAtD row col 0 l = 3 <;> simp [h3]
    refine Ev.bind hj ?_
    generalize (if faAtD row col 0 l = 3 then 0 - goesOf X side else goesOf X side) = g at *
    dsimp only
    rw [w64 (n := row * b.2.1) (by omega) (by omega), w64 (n := row * b.2.1 + col) (by omega) (by omega)]
    refine Ev.bind hpass ?_
    refine Ev.bind (e_spec_faGo_2 b hb d1 d2 d3 d4 d5 o4 b.1 b.2.1 G l col row g l [] _ (faults_on hl) (by simpa using hll) hpl) ?_
    rw [hres]
    dsimp only
    rw [w64 (n := col + g) (by omega) (by omega), w64 (n := b.2.1 - 1) (by omega) (by omega), w64 (n := 0 - g) (by omega) (by omega), w64 (n := row + 1) (by omega) (by omega)]
    refine Ev.bind (e_spec_l1In _ _ _) (Ev.ite (fun q => ?_) (fun q => ?_))
    · have q : ¬ (0 ≤ col + g ∧ col + g ≤ b.2.1 - 1) := nd q
      rw [if_neg (by omega)]
      simp only [f_spec_faGo_g26]
      exact Ev.bind (Ev.some _) (Ev.some _)
    · have q : 0 ≤ col + g ∧ col + g ≤ b.2.1 - 1 := yd q
      rw [if_pos (by omega)]
      refine e_spec_faGo_0 b hb G hG l hl hll d1 d2 d3 d4 d5 o4 n (row + 1) (col + g) (0 - g) _ (by omega) (by omega) (by omega) (by omega) (by omega) (by omega) (by rw [stepAt_len]; exact ho) (stepAt_ok G _ hx) (fun i hi hk => ?_)
      rw [stepAt_stuck G _ hk]
      rw [stepAt_len] at hi
      exact hst i hi hk
theorem e_spec_faGo (b : BoardD) (hb : boardOK b = true) (G : List Int) (hG : G.length = b.2.2.length) (l : List FaultD) (hl : faultsOK b (-1) l = true) (hll : l.length ≤ 9223372036854775806) (col : Int) (hc : 0 ≤ col) (hc2 : col < b.2.1) : Ev (fun k => f_spec_faGo k b G l col) ((fallOf b G (kindsB b l) col b.2.2).1, b.1, b.2.1, (fallOf b G (kindsB b l) col b.2.2).2) := by
  obtain ⟨g1, g2, g3, g4, g5, g6⟩ := board_ok hb
  have hpp := prod_small g1 g2 g3 g4
  refine Ev.succ ?_
  simp only [f_spec_faGo]
  refine Ev.bind (e_spec_boOwn b (by omega)) ?_
  refine Ev.bind (e_spec_faGo_0 b hb G hG l hl hll 0 0 0 0 0 [] b.1.toNat 0 col 0 b.2.2 (by omega) (by omega) hc hc2 (by omega) (by omega) rfl g6 (fun i hi _ => by simp [List.getD, List.getElem?_eq_getElem hi])) ?_
  unfold fallOf
  cases fallL b G (kindsB b l) b.1.toNat 0 col 0 b.2.2 with
  | go z =>
    refine Ev.go ?_
    simp only [f_spec_faGo_g27]
    exact Ev.bind (Ev.some _) (Ev.some _)
  | ret r => exact Ev.ret (Ev.some _)
end Go.Proofs.Ytgjmhbjdhihgaaa.Vs

set_option linter.unusedVariables false
set_option linter.unusedSimpArgs false
namespace Go.Proofs.Ytgjmhbjdhihgaaa.Vs
open Go.RowKit
end Go.Proofs.Ytgjmhbjdhihgaaa.Vs

set_option linter.unusedVariables false
set_option linter.unusedSimpArgs false
namespace Go.Proofs.Ytgjmhbjdhihgaaa.Vs
open Go.RowKit
abbrev FallT := Int × Int × Int
theorem e_impl_validEntry (b : BoardD) (c : Int) (hl : b.2.2.length ≤ 9223372036854775806) : Ev (fun k => f_impl_validEntry k b c) (boardOK b && decide (0 ≤ c ∧ c < b.2.1)) := by
  refine Ev.succ ?_
  simp only [f_impl_validEntry]
  refine Ev.bind (e_impl_IsBoard b hl) ?_
  cases hb : boardOK b with
  | false => simp only [Bool.false_eq_true, if_false, Bool.false_and]; exact Ev.some _
  | true =>
    simp only [if_true, Bool.true_and]
    refine Ev.of ?_
    by_cases h1 : c ≥ 0 <;> by_cases h2 : c < b.2.1 <;> simp [h1, h2]
    all_goals omega
theorem e_spec_flHas (b : BoardD) (c : Int) (hl : b.2.2.length ≤ 9223372036854775806) : Ev (fun k => f_spec_flHas k b c) (boardOK b && decide (0 ≤ c ∧ c < b.2.1)) := by
  refine Ev.succ ?_
  simp only [f_spec_flHas]
  refine Ev.bind (e_spec_boGood b hl) ?_
  cases hb : boardOK b with
  | false => simp only [Bool.false_eq_true, if_false, Bool.false_and]; exact Ev.some _
  | true =>
    obtain ⟨g1, g2, g3, g4, g5, g6⟩ := board_ok hb
    simp only [if_true, Bool.true_and]
    rw [w64 (n := b.2.1 - 1) (by omega) (by omega)]
    refine Ev.bind (e_spec_l1In _ _ _) (Ev.of ?_)
    have : (0 ≤ c ∧ c ≤ b.2.1 - 1) ↔ (0 ≤ c ∧ c < b.2.1) := by omega
    simp only [this]
/-- The arguments of a marble on a board with faults. -/
def faHasOf (b : BoardD) (l : List FaultD) (c : Int) : Bool := (boardOK b && decide (0 ≤ c ∧ c < b.2.1)) && (decide (l.length ≤ 4) && faultsOK b (-1) l)
theorem e_spec_faHas (b : BoardD) (l : List FaultD) (c : Int) (hl : b.2.2.length ≤ 9223372036854775806) (hll : l.length ≤ 9223372036854775806) : Ev (fun k => f_spec_faHas k b l c) (faHasOf b l c) := by
  refine Ev.succ ?_
  simp only [f_spec_faHas]
  refine Ev.bind (e_spec_flHas b c hl) ?_
  unfold faHasOf
  cases hb : boardOK b with
  | false => simp only [Bool.false_eq_true, if_false, Bool.false_and]; exact Ev.some _
  | true =>
    simp only [Bool.true_and]
    refine Ev.ite (fun h => ?_) (fun h => ?_)
    · rw [h, Bool.true_and]
      exact Ev.bind (e_spec_faGood b hb l hll) (Ev.some _)
    · simp only [Bool.not_eq_true] at h
      rw [h, Bool.false_and]
      exact Ev.some _
/-- One marble on a board with faults: its end and the cells behind it. -/
def faRunOf (b : BoardD) (l : List FaultD) (c : Int) : FallT × BoardD := ((fallOf b (groupsOf b) (kindsB b l) c b.2.2).1, b.1, b.2.1, (fallOf b (groupsOf b) (kindsB b l) c b.2.2).2)
theorem faHas_ok {b : BoardD} {l : List FaultD} {c : Int} (h : faHasOf b l c = true) : boardOK b = true ∧ 0 ≤ c ∧ c < b.2.1 ∧ l.length ≤ 4 ∧ faultsOK b (-1) l = true := by
  unfold faHasOf at h
  simp only [Bool.and_eq_true, decide_eq_true_eq] at h
  exact ⟨h.1.1, h.1.2.1, h.1.2.2, h.2.1, h.2.2⟩
theorem e_spec_faRun (b : BoardD) (l : List FaultD) (c : Int) (h : faHasOf b l c = true) : Ev (fun k => f_spec_faRun k b l c) (faRunOf b l c) := by
  obtain ⟨hb, h1, h2, h3, h4⟩ := faHas_ok h
  refine Ev.succ ?_
  simp only [f_spec_faRun]
  refine Ev.bind (e_spec_ggGroups b hb) ?_
  refine Ev.bind (e_spec_faGo b hb (groupsOf b) (groupsOf_len b) l h4 (by omega) c h1 h2) ?_
  exact Ev.some _
/-- What a walk over a board with faults gives, to the program's parts. -/
theorem e_impl_run (b : BoardD) (l : List FaultD) (c : Int) (h : faHasOf b l c = true) {α : Type} {f : BoardD → FallT × List CellD → Nat → Option α} {v : α} (hf : Ev (f b ((faRunOf b l c).1, (faRunOf b l c).2.2.2)) v) :
    Ev (fun k => Option.bind (f_impl_copyBoard k b) fun z2 => Option.bind (f_impl_groupNumbers k b) fun z3 => Option.bind (f_impl_faultsByCell k b l) fun z4 => Option.bind (f_impl_faultyDrop k (z2.1, z2.2.1, z2.2.2) z3 z4 c) fun z5 => f z2 z5 k) v := by
  obtain ⟨hb, h1, h2, h3, h4⟩ := faHas_ok h
  obtain ⟨g1, g2, g3, g4, g5, g6⟩ := board_ok hb
  have hpp := prod_small g1 g2 g3 g4
  refine Ev.bind (e_impl_copyBoard b (by omega)) ?_
  refine Ev.bind (e_impl_groupNumbers b hb) ?_
  refine Ev.bind (e_impl_faultsByCell b hb l h4 (by omega)) ?_
  exact Ev.bind (e_impl_faultyDrop b hb (groupsOf b) (kindsB b l) (groupsOf_len b) (kindsB_len b l) c h1 h2 b.2.2 rfl g6) hf
def r_FaultyFall (b : BoardD) (l : List FaultD) (c : Int) : FallT × Bool := if faHasOf b l c then ((faRunOf b l c).1, true) else ((0, 0, 0), false)
def r_FaultyBoard (b : BoardD) (l : List FaultD) (c : Int) : BoardD × Bool := if faHasOf b l c then ((faRunOf b l c).2, true) else ((0, 0, []), false)
theorem e_spec_FaultyFall (b : BoardD) (l : List FaultD) (c : Int) (hl : b.2.2.length ≤ 9223372036854775806) (hll : l.length ≤ 9223372036854775806) : Ev (fun k => f_spec_FaultyFall k b l c) (r_FaultyFall b l c) := by
  refine Ev.succ ?_
  simp only [f_spec_FaultyFall]
  refine Ev.bind (e_spec_faHas b l c hl hll) ?_
  unfold r_FaultyFall
  cases h : faHasOf b l c with
  | false => simp only [Bool.not_false, if_true, Bool.false_eq_true, if_false]; exact Ev.some _
  | true =>
    simp only [Bool.not_true, Bool.false_eq_true, if_false, if_true]
    exact Ev.bind (e_spec_faRun b l c h) (Ev.some _)
theorem e_impl_FaultyFall (b : BoardD) (l : List FaultD) (c : Int) (hl : b.2.2.length ≤ 9223372036854775806) (hll : l.length ≤ 9223372036854775806) : Ev (fun k => f_impl_FaultyFall k b l c) (r_FaultyFall b l c) := by
  refine Ev.succ ?_
  simp only [f_impl_FaultyFall]
  refine Ev.bind (e_impl_validEntry b c hl) ?_
  unfold r_FaultyFall
  have hd : faHasOf b l c = ((boardOK b && decide (0 ≤ c ∧ c < b.2.1)) && (decide (l.length ≤ 4) && faultsOK b (-1) l)) := rfl
  cases h1 : (boardOK b && decide (0 ≤ c ∧ c < b.2.1)) with
  | false =>
    rw [h1, Bool.false_and] at hd
    rw [hd]
    simp only [Bool.not_false, if_true, Bool.false_eq_true, if_false]
    exact Ev.some _
  | true =>
    have hb : boardOK b = true := (Bool.and_eq_true _ _ ▸ h1 : _ ∧ _).1
    simp only [Bool.not_true, Bool.false_eq_true, if_false]
    refine Ev.bind (e_impl_areFaults b hb l hll) ?_
    rw [h1, Bool.true_and] at hd
    rw [← hd]
    cases h2 : faHasOf b l c with
    | false => simp only [Bool.not_false, if_true, Bool.false_eq_true, if_false]; exact Ev.some _
    | true =>
      simp only [Bool.not_true, Bool.false_eq_true, if_false, if_true]
      exact e_impl_run b l c h2 (f := fun z2 z5 _ => some ((z5.1.1, z5.1.2.1, z5.1.2.2), true)) (Ev.some _)
theorem e_spec_FaultyBoard (b : BoardD) (l : List FaultD) (c : Int) (hl : b.2.2.length ≤ 9223372036854775806) (hll : l.length ≤ 9223372036854775806) : Ev (fun k => f_spec_FaultyBoard k b l c) (r_FaultyBoard b l c) := by
  refine Ev.succ ?_
  simp only [f_spec_FaultyBoard]
  refine Ev.bind (e_spec_faHas b l c hl hll) ?_
  unfold r_FaultyBoard
  cases h : faHasOf b l c with
  | false => simp only [Bool.not_false, if_true, Bool.false_eq_true, if_false]; exact Ev.some _
  | true =>
    simp only [Bool.not_true, Bool.false_eq_true, if_false, if_true]
    exact Ev.bind (e_spec_faRun b l c h) (Ev.some _)
theorem e_impl_FaultyBoard (b : BoardD) (l : List FaultD) (c : Int) (hl : b.2.2.length ≤ 9223372036854775806) (hll : l.length ≤ 9223372036854775806) : Ev (fun k => f_impl_FaultyBoard k b l c) (r_FaultyBoard b l c) := by
  refine Ev.succ ?_
  simp only [f_impl_FaultyBoard]
  refine Ev.bind (e_impl_validEntry b c hl) ?_
  unfold r_FaultyBoard
  have hd : faHasOf b l c = ((boardOK b && decide (0 ≤ c ∧ c < b.2.1)) && (decide (l.length ≤ 4) && faultsOK b (-1) l)) := rfl
  cases h1 : (boardOK b && decide (0 ≤ c ∧ c < b.2.1)) with
  | false =>
    rw [h1, Bool.false_and] at hd
    rw [hd]
    simp only [Bool.not_false, if_true, Bool.false_eq_true, if_false]
    exact Ev.some _
  | true =>
    have hb : boardOK b = true := (Bool.and_eq_true _ _ ▸ h1 : _ ∧ _).1
    simp only [Bool.not_true, Bool.false_eq_true, if_false]
    refine Ev.bind (e_impl_areFaults b hb l hll) ?_
    rw [h1, Bool.true_and] at hd
    rw [← hd]
    cases h2 : faHasOf b l c with
    | false => simp only [Bool.not_false, if_true, Bool.false_eq_true, if_false]; exact Ev.some _
    | true =>
      simp only [Bool.not_true, Bool.false_eq_true, if_false, if_true]
      exact e_impl_run b l c h2 (f := fun z2 z5 _ => some ((z2.1, z2.2.1, z5.2), true)) (Ev.some _)
theorem fallL_len (b : BoardD) (G K : List Int) : ∀ (n : Nat) (row col side : Int) (o : List CellD), (fallEnd b (fallL b G K n row col side o)).2.length = o.length
  | 0, _, _, _, _ => rfl
  | n + 1, row, col, side, o => by
    unfold fallL
    dsimp only
    repeat' split
    all_goals first | rfl | (rw [fallL_len]; exact stepAt_len _ _ _ _) | exact stepAt_len _ _ _ _
end Go.Proofs.Ytgjmhbjdhihgaaa.Vs

set_option linter.unusedVariables false
set_option linter.unusedSimpArgs false
namespace Go.Proofs.Ytgjmhbjdhihgaaa.Vs
open Go.RowKit
/-! ### What marbles leave as it is -/
theorem stepAt_parts (G K : List Int) (at' : Nat) (o : List CellD) : (stepAt G K at' o).map Prod.fst = o.map Prod.fst := by
  unfold stepAt turnAt
  split
  · apply List.ext_getElem?
    intro i
    simp only [List.getElem?_map, turnGo_at]
    cases o[i]? with
    | none => rfl
    | some x =>
      simp only [Option.map_some]
      split <;> simp [flip1]
  · rfl
theorem fallL_keeps (b : BoardD) (G K : List Int) : ∀ (n : Nat) (row col side : Int) (o : List CellD), (∀ x ∈ o, cellOK x = true) → (∀ x ∈ (fallEnd b (fallL b G K n row col side o)).2, cellOK x = true) ∧ (fallEnd b (fallL b G K n row col side o)).2.map Prod.fst = o.map Prod.fst
  | 0, _, _, _, o, hx => ⟨hx, rfl⟩
  | n + 1, row, col, side, o, hx => by
    have h1 := fallL_keeps b G K n (row + 1)
    unfold fallL
    dsimp only
    have h2 := stepAt_ok G K (at' := (row * b.2.1 + col).toNat) hx
    have h3 := stepAt_parts G K (row * b.2.1 + col).toNat o
    repeat' split
    all_goals first | exact ⟨hx, rfl⟩ | exact ⟨h2, h3⟩ | exact ⟨(h1 _ _ _ h2).1, (h1 _ _ _ h2).2.trans h3⟩
theorem fallOf_cells (b : BoardD) (G K : List Int) (c : Int) {o : List CellD} (hx : ∀ x ∈ o, cellOK x = true) : ∀ x ∈ (fallOf b G K c o).2, cellOK x = true := (fallL_keeps b G K _ _ _ _ o hx).1
theorem fallOf_parts (b : BoardD) (G K : List Int) (c : Int) {o : List CellD} (hx : ∀ x ∈ o, cellOK x = true) : (fallOf b G K c o).2.map Prod.fst = o.map Prod.fst := (fallL_keeps b G K _ _ _ _ o hx).2
theorem fallL_dims {b b' : BoardD} (h : b.2.1 = b'.2.1) (G K : List Int) : ∀ (n : Nat) (row col side : Int) (o : List CellD), fallL b G K n row col side o = fallL b' G K n row col side o
  | 0, _, _, _, _ => rfl
  | n + 1, row, col, side, o => by simp only [fallL, h, fallL_dims h G K n]
theorem fallOf_dims {b b' : BoardD} (h1 : b.1 = b'.1) (h2 : b.2.1 = b'.2.1) (G K : List Int) (c : Int) (o : List CellD) : fallOf b G K c o = fallOf b' G K c o := by
  have : fallEnd b = fallEnd b' := by funext z; cases z <;> simp [fallEnd, h1]
  unfold fallOf
  rw [this, fallL_dims h2, h1]
theorem kindsB_dims {b b' : BoardD} (h : b.2.1 = b'.2.1) (hl : b.2.2.length = b'.2.2.length) (l : List FaultD) : kindsB b l = kindsB b' l := by simp only [kindsB, kindsOf, placeOf, h, hl]
theorem fits_part {x y : CellD} (h : x.1 = y.1) (k : Int) : fits x k = fits y k := by unfold fits turning; rw [h]
theorem getD_part {o o' : List CellD} (h : o.map Prod.fst = o'.map Prod.fst) (i : Nat) : (List.getD o i (0, 0)).1 = (List.getD o' i (0, 0)).1 := by
  have := congrArg (fun l => l[i]?) h
  simp only [List.getElem?_map] at this
  simp only [List.getD]
  cases h1 : o[i]? <;> cases h2 : o'[i]? <;> simp [h1, h2] at this ⊢
  exact this
theorem faultsOK_dims {b b' : BoardD} (h1 : b.1 = b'.1) (h2 : b.2.1 = b'.2.1) (h : b.2.2.map Prod.fst = b'.2.2.map Prod.fst) : ∀ (l : List FaultD) (last : Int), faultsOK b last l = faultsOK b' last l
  | [], _ => rfl
  | x :: r, last => by
    simp only [faultsOK, h1, h2, faultsOK_dims h1 h2 h r]
    rw [fits_part (getD_part h _)]
theorem board_on {b : BoardD} (hb : boardOK b = true) {o : List CellD} (ho : o.length = b.2.2.length) (hx : ∀ x ∈ o, cellOK x = true) : boardOK (b.1, b.2.1, o) = true := by
  obtain ⟨g1, g2, g3, g4, g5, g6⟩ := board_ok hb
  unfold boardOK
  have : (o.length : Int) = b.1 * b.2.1 := by omega
  simp only [g1, g2, g3, g4, this, and_self, decide_true, Bool.true_and]
  exact List.all_eq_true.2 hx
/-! ### One after the other -/
def runsOf (b : BoardD) (G K : List Int) : List Int → List CellD → List FallD × List CellD
  | [], o => ([], o)
  | c :: r, o => ((fallOf b G K c o).1 :: (runsOf b G K r (fallOf b G K c o).2).1, (runsOf b G K r (fallOf b G K c o).2).2)
theorem runsOf_len (b : BoardD) (G K : List Int) : ∀ (l : List Int) (o : List CellD), (runsOf b G K l o).1.length = l.length
  | [], _ => rfl
  | c :: r, o => by simp [runsOf, runsOf_len b G K r]
theorem runsOf_len2 (b : BoardD) (G K : List Int) : ∀ (l : List Int) (o : List CellD), (runsOf b G K l o).2.length = o.length
  | [], _ => rfl
  | c :: r, o => by simp only [runsOf, runsOf_len2 b G K r]; exact fallL_len b G K _ _ _ _ o
def colsOK (b : BoardD) (l : List Int) : Prop := ∀ c ∈ l, 0 ≤ c ∧ c < b.2.1
theorem e_spec_faAll_0 (b : BoardD) (hb : boardOK b = true) (G : List Int) (hG : G.length = b.2.2.length) (l : List FaultD) (hl : faultsOK b (-1) l = true) (hll : l.length ≤ 9223372036854775806) (d1 d2 : Int) (d3 : List CellD) : ∀ (r pre : List Int) (o : List CellD) (w : List FallD), colsOK b r → (pre ++ r).length ≤ 1000 → w.length = pre.length → o.length = b.2.2.length → (∀ x ∈ o, cellOK x = true) → o.map Prod.fst = b.2.2.map Prod.fst →
    Ev (fun k => f_spec_faAll_0 k d1 d2 d3 b.1 b.2.1 o G w l (pre ++ r) ((pre ++ r).length : Int) (pre.length : Int)) (d1, d2, d3, b.1, b.2.1, (runsOf b G (kindsB b l) r o).2, w ++ (runsOf b G (kindsB b l) r o).1)
  | [], pre, o, w, hc, hl1, hw, ho, hx, hp => by
    refine Ev.succ ?_
    simp only [f_spec_faAll_0, nlt_end, decide_false, Bool.false_eq_true, if_false]
    simp only [runsOf, List.append_nil]
    exact Ev.some _
  | c :: r, pre, o, w, hc, hl1, hw, ho, hx, hp => by
    obtain ⟨k1, k2⟩ := hc c (List.mem_cons_self ..)
    have hb' := board_on hb ho hx
    have hg := e_spec_faGo (b.1, b.2.1, o) hb' G (hG.trans ho.symm) l (by rw [faultsOK_dims (b := (b.1, b.2.1, o)) (b' := b) rfl rfl hp]; exact hl) hll c k1 k2
    rw [fallOf_dims (b := (b.1, b.2.1, o)) (b' := b) rfl rfl, kindsB_dims (b := (b.1, b.2.1, o)) (b' := b) rfl ho] at hg
    have hlw : w.length + 1 ≤ 140737488355328 / 24 := by simp at hl1; omega
    refine Ev.succ ?_
    simp only [f_spec_faAll_0, lt_mid, ge_mid, decide_true, if_true, Int.toNat_natCast, getD_mid]
    refine Ev.bind hg ?_
    simp only [List.length_singleton, hlw, if_true]
    rw [next_mid pre c r (by omega)]
    have ih := e_spec_faAll_0 b hb G hG l hl hll d1 d2 d3 r (pre ++ [c]) (fallOf b G (kindsB b l) c o).2 (w ++ [(fallOf b G (kindsB b l) c o).1]) (fun y hy => hc y (List.mem_cons_of_mem _ hy)) (by simpa using hl1) (by simp [hw]) ((fallL_len b G _ _ _ _ _ o).trans ho) (fallOf_cells _ _ _ _ hx) ((fallOf_parts _ _ _ _ hx).trans hp)
    rw [← shift_mid] at ih
    refine ih.congr ?_
    simp [runsOf]
theorem e_spec_faAll (b : BoardD) (hb : boardOK b = true) (l : List FaultD) (hl : faultsOK b (-1) l = true) (hll : l.length ≤ 9223372036854775806) (t : List Int) (ht : t.length ≤ 1000) (hc : colsOK b t) : Ev (fun k => f_spec_faAll k b l t) ((runsOf b (groupsOf b) (kindsB b l) t b.2.2).1, b.1, b.2.1, (runsOf b (groupsOf b) (kindsB b l) t b.2.2).2) := by
  obtain ⟨g1, g2, g3, g4, g5, g6⟩ := board_ok hb
  have hpp := prod_small g1 g2 g3 g4
  refine Ev.succ ?_
  simp only [f_spec_faAll]
  have h0 : Ev (fun k => f_spec_faAll_g1 k b.1 b.2.1 b.2.2 0 0 [] l t) (0, 0, [], b.1, b.2.1, b.2.2, groupsOf b, l, t) := by
    simp only [f_spec_faAll_g1]
    exact Ev.bind (e_spec_boOwn b (by omega)) (Ev.bind (e_spec_ggGroups b hb) (Ev.some _))
  refine Ev.bind h0 ?_
  refine Ev.bind (e_spec_faAll_0 b hb (groupsOf b) (groupsOf_len b) l hl hll 0 0 [] t [] b.2.2 [] hc (by simpa using ht) rfl rfl g6 rfl) ?_
  exact Ev.some _
theorem e_impl_faultyDrops_0 (b : BoardD) (hb : boardOK b = true) (G K : List Int) (hG : G.length = b.2.2.length) (hK : K.length = b.2.2.length) (d1 d2 : Int) (d3 : List CellD) : ∀ (r pre : List Int) (o : List CellD) (w : List FallD), colsOK b r → (pre ++ r).length ≤ 1000 → w.length = pre.length → o.length = b.2.2.length → (∀ x ∈ o, cellOK x = true) →
    Ev (fun k => f_impl_faultyDrops_0 k d1 d2 d3 b.1 b.2.1 o G K w (pre ++ r) ((pre ++ r).length : Int) (pre.length : Int)) (d1, d2, d3, b.1, b.2.1, (runsOf b G K r o).2, w ++ (runsOf b G K r o).1)
  | [], pre, o, w, hc, hl1, hw, ho, hx => by
    refine Ev.succ ?_
    simp only [f_impl_faultyDrops_0, nlt_end, decide_false, Bool.false_eq_true, if_false]
    simp only [runsOf, List.append_nil]
    exact Ev.some _
  | c :: r, pre, o, w, hc, hl1, hw, ho, hx => by
    obtain ⟨k1, k2⟩ := hc c (List.mem_cons_self ..)
    have hg := e_impl_faultyDrop b hb G K hG hK c k1 k2 o ho hx
    have hlw : w.length + 1 ≤ 140737488355328 / 24 := by simp at hl1; omega
    refine Ev.succ ?_
    simp only [f_impl_faultyDrops_0, lt_mid, ge_mid, decide_true, if_true, Int.toNat_natCast, getD_mid]
    refine Ev.bind hg ?_
    simp only [List.length_singleton, hlw, if_true]
    rw [next_mid pre c r (by omega)]
    have ih := e_impl_faultyDrops_0 b hb G K hG hK d1 d2 d3 r (pre ++ [c]) (fallOf b G K c o).2 (w ++ [(fallOf b G K c o).1]) (fun y hy => hc y (List.mem_cons_of_mem _ hy)) (by simpa using hl1) (by simp [hw]) ((fallL_len b G _ _ _ _ _ o).trans ho) (fallOf_cells _ _ _ _ hx)
    rw [← shift_mid] at ih
    refine ih.congr ?_
    simp [runsOf]
theorem e_impl_faultyDrops (b : BoardD) (hb : boardOK b = true) (l : List FaultD) (hl : faultsOK b (-1) l = true) (hll : l.length ≤ 9223372036854775806) (t : List Int) (ht : t.length ≤ 1000) (hc : colsOK b t) : Ev (fun k => f_impl_faultyDrops k b l t) ((runsOf b (groupsOf b) (kindsB b l) t b.2.2).1, b.1, b.2.1, (runsOf b (groupsOf b) (kindsB b l) t b.2.2).2) := by
  obtain ⟨g1, g2, g3, g4, g5, g6⟩ := board_ok hb
  have hpp := prod_small g1 g2 g3 g4
  refine Ev.succ ?_
  simp only [f_impl_faultyDrops]
  refine Ev.bind (e_impl_copyBoard b (by omega)) (Ev.bind (e_impl_groupNumbers b hb) (Ev.bind (e_impl_faultsByCell b hb l hl hll) ?_))
  refine Ev.bind (e_impl_faultyDrops_0 b hb (groupsOf b) (kindsB b l) (groupsOf_len b) (kindsB_len b l) 0 0 [] t [] b.2.2 [] hc (by simpa using ht) rfl rfl g6) ?_
  exact Ev.some _
/-! ### Without faults -/
theorem kinds_none (b : BoardD) (i : Nat) : List.getD (kindsB b []) i 0 = 0 := by
  show List.getD (List.replicate b.2.2.length (0 : Int)) i 0 = 0
  simp only [List.getD, List.getElem?_replicate]
  split <;> rfl
theorem pass_step {b : BoardD} (hb : boardOK b = true) (G : List Int) {at' : Nat} {o : List CellD} (ho : o.length = b.2.2.length) (ha : at' < o.length) : passAt G at' o = stepAt G (kindsB b []) at' o :=
  restore_pass (l := []) hb rfl G ho ha (fun i _ h => by rw [kinds_none] at h; cases h)
theorem e_spec_flGo_0 (b : BoardD) (hb : boardOK b = true) (G : List Int) (hG : G.length = b.2.2.length) (d1 d2 d3 d4 d5 : Int) (o4 : List CellD) : ∀ (n : Nat) (row col side : Int) (o : List CellD) (q : List (List Int)), row + n = b.1 → 0 ≤ row → 0 ≤ col → col < b.2.1 → -1 ≤ side → side ≤ 1 → o.length = b.2.2.length → (∀ x ∈ o, cellOK x = true) → (q.length : Int) = row →
    ∃ p, Ev (fun k => f_spec_flGo_0 k b.1 b.2.1 b.2.2 d1 d2 d3 d4 d5 o4 b.1 b.2.1 o q G col side row) ((fallL b G (kindsB b []) n row col side o).map2 (fun z => (b.1, b.2.1, b.2.2, d1, d2, d3, d4, d5, o4, b.1, b.2.1, z.2, p, z.1)) (fun r => (r.1, (b.1, b.2.1, r.2), p)))
  | 0, row, col, side, o, q, hn, hr, hc, hc2, hs, hs2, ho, hx, hq => by
    refine ⟨q, Ev.succ ?_⟩
    have : ¬ row < b.1 := by omega
    simp only [f_spec_flGo_0, this, decide_false, Bool.false_eq_true, if_false, fallL, LR.map2]
    exact Ev.some _
  | n + 1, row, col, side, o, q, hn, hr, hc, hc2, hs, hs2, ho, hx, hq => by
    obtain ⟨g1, g2, g3, g4, g5, g6⟩ := board_ok hb
    have hpp := prod_small g1 g2 g3 g4
    have hrow : row < b.1 := by omega
    have hp := place_ok hb hr hrow hc hc2
    have hoI : row * b.2.1 + col < (o.length : Int) := by omega
    have hcast : ((row * b.2.1 + col).toNat : Int) = row * b.2.1 + col := Int.toNat_of_nonneg hp.1
    have hxo := hx _ (cell_in hp.1 hoI (0, 0))
    have hgo := goesOf_in hxo hs hs2
    have hpass := e_spec_flPass b.1 b.2.1 o G (row * b.2.1 + col).toNat (by omega) (by omega) (by omega) hx
    rw [hcast, pass_step hb G ho (by omega)] at hpass
    have hql : q.length + 1 ≤ 140737488355328 / 24 := by omega
    have hk2 : ¬ (0 : Int) = 2 := by omega
    have hk3 : ¬ (0 : Int) = 3 := by omega
    generalize hX : List.getD o (row * b.2.1 + col).toNat (0, 0) = X at *
    have start : ∀ {v : List (List Int) → LR (Int × Int × List CellD × Int × Int × Int × Int × Int × List CellD × Int × Int × List CellD × List (List Int) × Int) (FallD × BoardD × List (List Int))}, (∃ p, Ev (fun k => if decide (X.1 = 5) = true then Option.bind (f_spec_flGo_g10 k d1 d2 d3 d4 d5 o4 b.1 b.2.1 o (q ++ [[row, col]]) col row) fun z2 => some (LR.ret ((z2.1, z2.2.1, z2.2.2.1), (z2.2.2.2.1, z2.2.2.2.2.1, z2.2.2.2.2.2.1), z2.2.2.2.2.2.2))
        else Option.bind (f_spec_paGoes k X side) fun z3 => Option.bind (f_spec_flPass k (b.1, b.2.1, o) G (row * b.2.1 + col)) fun z4 => Option.bind (f_spec_l1In k (wrap64 (col + z3)) (0 : Int) (b.2.1 - 1)) fun z5 => if (!z5) = true then Option.bind (f_spec_flGo_g16 k d1 d2 d3 d4 d5 o4 b.1 b.2.1 z4 (q ++ [[row, col]]) (wrap64 (col + z3)) row) fun z6 => some (LR.ret ((z6.1, z6.2.1, z6.2.2.1), (z6.2.2.2.1, z6.2.2.2.2.1, z6.2.2.2.2.2.1), z6.2.2.2.2.2.2)) else f_spec_flGo_0 k b.1 b.2.1 b.2.2 d1 d2 d3 d4 d5 o4 b.1 b.2.1 z4 (q ++ [[row, col]]) G (wrap64 (col + z3)) (wrap64 ((0 : Int) - z3)) (wrap64 (row + (1 : Int)))) (v p)) →
        ∃ p, Ev (fun k => f_spec_flGo_0 k b.1 b.2.1 b.2.2 d1 d2 d3 d4 d5 o4 b.1 b.2.1 o q G col side row) (v p) := by
      rintro v ⟨p, h⟩
      refine ⟨p, Ev.succ ?_⟩
      simp only [f_spec_flGo_0, hrow, decide_true, if_true, List.length_singleton, hql]
      rw [w64 (n := row * b.2.1) (by omega) (by omega), w64 (n := row * b.2.1 + col) (by omega) (by omega), w64 (n := b.2.1 - 1) (by omega) (by omega)]
      have := e_spec_boAt_on b hb o ho hr hrow hc hc2
      rw [hX] at this
      exact Ev.bind this h
    refine start ?_
    simp only [fallL, hX, kinds_none, hk2, hk3, if_false]
    by_cases h5 : X.1 = 5
    · refine ⟨q ++ [[row, col]], ?_⟩
      simp only [h5, decide_true, if_true, f_spec_flGo_g10]
      exact Ev.bind (Ev.some _) (Ev.some _)
    simp only [h5, decide_false, Bool.false_eq_true, if_false]
    generalize hgg : goesOf X side = g at *
    have hgo' := e_spec_paGoes X side hxo hs hs2
    rw [hgg] at hgo'
    by_cases hin : 0 ≤ col + g ∧ col + g < b.2.1
    · rw [if_pos hin]
      obtain ⟨p, ih⟩ := e_spec_flGo_0 b hb G hG d1 d2 d3 d4 d5 o4 n (row + 1) (col + g) (0 - g) (stepAt G (kindsB b []) (row * b.2.1 + col).toNat o) (q ++ [[row, col]]) (by omega) (by omega) (by omega) (by omega) (by omega) (by omega) (by rw [stepAt_len]; exact ho) (stepAt_ok G _ hx) (by simp; omega)
      refine ⟨p, Ev.bind hgo' (Ev.bind hpass ?_)⟩
      rw [w64 (n := col + g) (by omega) (by omega), w64 (n := 0 - g) (by omega) (by omega), w64 (n := row + 1) (by omega) (by omega)]
      refine Ev.bind (e_spec_l1In _ _ _) (Ev.ite (fun hh => ?_) (fun hh => ih))
      have hh : ¬ (0 ≤ col + g ∧ col + g ≤ b.2.1 - 1) := nd hh
      omega
    · rw [if_neg hin]
      refine ⟨q ++ [[row, col]], Ev.bind hgo' (Ev.bind hpass ?_)⟩
      rw [w64 (n := col + g) (by omega) (by omega)]
      refine Ev.bind (e_spec_l1In _ _ _) (Ev.ite (fun hh => ?_) (fun hh => ?_))
      · simp only [f_spec_flGo_g16]
        exact Ev.bind (Ev.some _) (Ev.some _)
      · have hh : 0 ≤ col + g ∧ col + g ≤ b.2.1 - 1 := yd hh
        omega
theorem e_spec_flGo (b : BoardD) (hb : boardOK b = true) (G : List Int) (hG : G.length = b.2.2.length) (col : Int) (hc : 0 ≤ col) (hc2 : col < b.2.1) : ∃ p, Ev (fun k => f_spec_flGo k b G col) ((fallOf b G (kindsB b []) col b.2.2).1, (b.1, b.2.1, (fallOf b G (kindsB b []) col b.2.2).2), p) := by
  obtain ⟨g1, g2, g3, g4, g5, g6⟩ := board_ok hb
  have hpp := prod_small g1 g2 g3 g4
  obtain ⟨p, h⟩ := e_spec_flGo_0 b hb G hG 0 0 0 0 0 [] b.1.toNat 0 col 0 b.2.2 [] (by omega) (by omega) hc hc2 (by omega) (by omega) rfl g6 rfl
  refine ⟨p, Ev.succ ?_⟩
  simp only [f_spec_flGo]
  refine Ev.bind (e_spec_boOwn b (by omega)) (Ev.bind h ?_)
  unfold fallOf
  cases fallL b G (kindsB b []) b.1.toNat 0 col 0 b.2.2 with
  | go z =>
    refine Ev.go ?_
    simp only [f_spec_flGo_g17]
    exact Ev.bind (Ev.some _) (Ev.some _)
  | ret r => exact Ev.ret (Ev.some _)
end Go.Proofs.Ytgjmhbjdhihgaaa.Vs

set_option linter.unusedVariables false
set_option linter.unusedSimpArgs false
namespace Go.Proofs.Ytgjmhbjdhihgaaa.Vs
open Go.RowKit
/-! ### The groups: they depend on the parts alone, and their numbers -/
theorem geared_part {x y : CellD} (h : x.1 = y.1) : geared x = geared y := by unfold geared; rw [h]
theorem nears_parts {b b' : BoardD} (h1 : b.1 = b'.1) (h2 : b.2.1 = b'.2.1) (i : Int) : nears b i = nears b' i := by unfold nears; rw [h1, h2]
theorem visit_parts {b b' : BoardD} (h : b.2.2.map Prod.fst = b'.2.2.map Prod.fst) (v : Int) : visit b v = visit b' v := by
  funext G n
  unfold visit
  rw [geared_part (getD_part h n.toNat)]
theorem bfs_parts {b b' : BoardD} (h1 : b.1 = b'.1) (h2 : b.2.1 = b'.2.1) (h : b.2.2.map Prod.fst = b'.2.2.map Prod.fst) (v : Int) : ∀ (n : Nat) (o q : List Int), bfs b v n o q = bfs b' v n o q
  | 0, o, q => rfl
  | _ + 1, o, [] => rfl
  | n + 1, o, x :: q => by simp only [bfs]; rw [nears_parts h1 h2, visit_parts h, bfs_parts h1 h2 h v n]
theorem groupsFrom_parts {b b' : BoardD} (h1 : b.1 = b'.1) (h2 : b.2.1 = b'.2.1) (h : b.2.2.map Prod.fst = b'.2.2.map Prod.fst) : ∀ (r r' : List CellD) (i : Int) (o : List Int) (v : Int), r.map Prod.fst = r'.map Prod.fst → groupsFrom b i r o v = groupsFrom b' i r' o v
  | [], [], i, o, v, hr => rfl
  | [], y :: r', i, o, v, hr => by simp at hr
  | x :: r, [], i, o, v, hr => by simp at hr
  | x :: r, y :: r', i, o, v, hr => by
    simp only [List.map_cons, List.cons.injEq] at hr
    simp only [groupsFrom]
    rw [geared_part hr.1, bfs_parts h1 h2 h, groupsFrom_parts h1 h2 h r r' _ _ _ hr.2, groupsFrom_parts h1 h2 h r r' _ _ _ hr.2]
theorem len_of_parts {o o' : List CellD} (h : o.map Prod.fst = o'.map Prod.fst) : o.length = o'.length := by
  have := congrArg List.length h
  simpa using this
theorem groupsOf_parts {b b' : BoardD} (h1 : b.1 = b'.1) (h2 : b.2.1 = b'.2.1) (h : b.2.2.map Prod.fst = b'.2.2.map Prod.fst) : groupsOf b = groupsOf b' := by
  unfold groupsOf
  rw [len_of_parts h, groupsFrom_parts h1 h2 h _ _ _ _ _ h]
/-- What was told stays told. -/
def Told (o o' : List Int) : Prop := ∀ j : Nat, j < o.length → 0 ≤ List.getD o j 0 → 0 ≤ List.getD o' j 0
theorem Told.set {o : List Int} {v : Int} (hv : 0 ≤ v) (i : Nat) : Told o (List.set o i v) := by
  intro j hj h
  by_cases hi : i < o.length
  · rw [getD_set_if o i j v 0 hi]
    split
    · exact hv
    · exact h
  · rw [List.set_eq_of_length_le (by omega)]
    exact h
theorem Told.trans {o o' o2 : List Int} (h : Told o o') (hl : o'.length = o.length) (h2 : Told o' o2) : Told o o2 := fun j hj h0 => h2 j (by omega) (h j hj h0)
/-! ### Units -/
/-- What is so of units: none is empty, each holds places of turning cells once, and no place lies in two. -/
structure UnitsOK (L : List CellD) (i : Int) (o : List (List Int)) : Prop where
  some : ∀ u ∈ o, u ≠ []
  on : ∀ u ∈ o, ∀ m ∈ u, 0 ≤ m ∧ m < i ∧ turning (List.getD L m.toNat (0, 0)) = true
  once : ∀ u ∈ o, u.Nodup
  no : ∃ f : Int → Nat, ∀ (k : Nat) u, o[k]? = Option.some u → ∀ m ∈ u, f m = k
theorem UnitsOK.next {L : List CellD} {i : Int} {o : List (List Int)} (h : UnitsOK L i o) : UnitsOK L (i + 1) o :=
  ⟨h.some, fun u hu m hm => by obtain ⟨a, b, c⟩ := h.on u hu m hm; exact ⟨a, by omega, c⟩, h.once, h.no⟩
theorem UnitsOK.fresh {L : List CellD} {i : Int} {o : List (List Int)} (h : UnitsOK L i o) (h0 : 0 ≤ i) (ht : turning (List.getD L i.toNat (0, 0)) = true) : UnitsOK L (i + 1) (o ++ [[i]]) := by
  obtain ⟨f, hf⟩ := h.no
  refine ⟨fun u hu => ?_, fun u hu m hm => ?_, fun u hu => ?_, fun m => if m = i then o.length else f m, fun k u hk m hm => ?_⟩
  · rcases List.mem_append.1 hu with hu | hu
    · exact h.some u hu
    · rw [List.mem_singleton.1 hu]; simp
  · rcases List.mem_append.1 hu with hu | hu
    · exact h.next.on u hu m hm
    · rw [List.mem_singleton.1 hu] at hm
      rw [List.mem_singleton.1 hm]
      exact ⟨h0, by omega, ht⟩
  · rcases List.mem_append.1 hu with hu | hu
    · exact h.once u hu
    · rw [List.mem_singleton.1 hu]; simp
  · rcases Nat.lt_or_ge k o.length with hlt | hge
    · rw [List.getElem?_append_left hlt] at hk
      have h1 := (h.on u (List.mem_of_getElem? hk) m hm).2.1
      simp only [show ¬ m = i by omega, if_false]
      exact hf k u hk m hm
    · rw [List.getElem?_append_right hge] at hk
      have h2 := (List.getElem?_eq_some_iff.1 hk).1
      simp at h2
      have : k = o.length := by omega
      subst this
      simp at hk
      subst hk
      simp [List.mem_singleton.1 hm]
/-- The numbers of groups that have a unit are below the number of units. -/
def Below (N : List Int) (n : Nat) : Prop := ∀ x ∈ N, -1 ≤ x ∧ x < (n : Int)
theorem Below.more {N : List Int} {n m : Nat} (h : Below N n) (hm : n ≤ m) : Below N m := fun x hx => ⟨(h x hx).1, by have := (h x hx).2; omega⟩
end Go.Proofs.Ytgjmhbjdhihgaaa.Vs

set_option linter.unusedVariables false
set_option linter.unusedSimpArgs false
namespace Go.Proofs.Ytgjmhbjdhihgaaa.Vs
open Go.RowKit
theorem e_laws_qFalls_0_same : ∀ (r pre : List FallD), (pre ++ r).length ≤ 1000000 → Ev (fun k => f_laws_qFalls_0 k (pre ++ r) (pre ++ r) ((pre ++ r).length : Int) (pre.length : Int)) (LR.go ())
  | [], pre, hl => by
    refine Ev.succ ?_
    simp only [f_laws_qFalls_0, nlt_end, decide_false, Bool.false_eq_true, if_false]
    exact Ev.some _
  | x :: r, pre, hl => by
    have ih := e_laws_qFalls_0_same r (pre ++ [x]) (by simpa using hl)
    refine Ev.succ ?_
    simp only [f_laws_qFalls_0, lt_mid, ge_mid, decide_true, if_true, Int.toNat_natCast, getD_mid, Bool.and_self, Bool.not_true, Bool.false_eq_true, if_false]
    rw [next_mid pre x r (by omega)]
    rw [← shift_mid] at ih
    exact ih
theorem e_laws_qFalls_same (l : List FallD) (hl : l.length ≤ 1000000) : Ev (fun k => f_laws_qFalls k l l) true := by
  refine Ev.succ ?_
  simp only [f_laws_qFalls, ne_eq, not_true_eq_false, decide_false, Bool.false_eq_true, if_false]
  exact Ev.bind (e_laws_qFalls_0_same l [] (by simpa using hl)) (Ev.go (Ev.some _))
theorem e_laws_qBoard_0_same (a b c d : Int) : ∀ (r pre : List CellD), (pre ++ r).length ≤ 1000000 → Ev (fun k => f_laws_qBoard_0 k a b (pre ++ r) c d (pre ++ r) ((pre ++ r).length : Int) (pre.length : Int)) (LR.go ())
  | [], pre, hl => by
    refine Ev.succ ?_
    simp only [f_laws_qBoard_0, nlt_end, decide_false, Bool.false_eq_true, if_false]
    exact Ev.some _
  | x :: r, pre, hl => by
    have ih := e_laws_qBoard_0_same a b c d r (pre ++ [x]) (by simpa using hl)
    refine Ev.succ ?_
    simp only [f_laws_qBoard_0, lt_mid, ge_mid, decide_true, if_true, Int.toNat_natCast, getD_mid, Bool.and_self, Bool.not_true, Bool.false_eq_true, if_false]
    rw [next_mid pre x r (by omega)]
    rw [← shift_mid] at ih
    exact ih
theorem e_laws_qBoard_same (b : BoardD) (hl : b.2.2.length ≤ 1000000) : Ev (fun k => f_laws_qBoard k b b) true := by
  refine Ev.succ ?_
  simp only [f_laws_qBoard, ne_eq, not_true_eq_false, decide_false, Bool.false_eq_true, if_false]
  exact Ev.bind (e_laws_qBoard_0_same _ _ _ _ b.2.2 [] (by simpa using hl)) (Ev.go (Ev.some _))
/-! ### Without faults -/
theorem e_spec_flRun' (b : BoardD) (hb : boardOK b = true) (c : Int) (hc : 0 ≤ c) (hc2 : c < b.2.1) : Ev (fun k => f_spec_flRun k b c) ((fallOf b (groupsOf b) (kindsB b []) c b.2.2).1, b.1, b.2.1, (fallOf b (groupsOf b) (kindsB b []) c b.2.2).2) := by
  obtain ⟨p, hp⟩ := e_spec_flGo b hb (groupsOf b) (groupsOf_len b) c hc hc2
  refine Ev.succ ?_
  simp only [f_spec_flRun, f_spec_flRun_g1, f_spec_flRun_g2]
  refine Ev.bind (Ev.bind (e_spec_ggGroups b hb) (Ev.bind hp (Ev.some _))) ?_
  exact Ev.bind (Ev.some _) (Ev.some _)
theorem e_spec_FallOf (b : BoardD) (hb : boardOK b = true) (c : Int) (hc : 0 ≤ c) (hc2 : c < b.2.1) (hl : b.2.2.length ≤ 9223372036854775806) : Ev (fun k => f_spec_FallOf k b c) ((faRunOf b [] c).1, true) := by
  refine Ev.succ ?_
  simp only [f_spec_FallOf]
  refine Ev.bind (e_spec_flHas b c hl) ?_
  simp only [hb, hc, hc2, and_self, decide_true, Bool.true_and, Bool.not_true, Bool.false_eq_true, if_false]
  exact Ev.bind (e_spec_flRun' b hb c hc hc2) (Ev.some _)
theorem e_spec_BoardAfter (b : BoardD) (hb : boardOK b = true) (c : Int) (hc : 0 ≤ c) (hc2 : c < b.2.1) (hl : b.2.2.length ≤ 9223372036854775806) : Ev (fun k => f_spec_BoardAfter k b c) ((faRunOf b [] c).2, true) := by
  refine Ev.succ ?_
  simp only [f_spec_BoardAfter]
  refine Ev.bind (e_spec_flHas b c hl) ?_
  simp only [hb, hc, hc2, and_self, decide_true, Bool.true_and, Bool.not_true, Bool.false_eq_true, if_false]
  exact Ev.bind (e_spec_flRun' b hb c hc hc2) (Ev.some _)
/-! ### Faults by their places -/
theorem kindsB_mem {b : BoardD} (hb : boardOK b = true) {l : List FaultD} (h : faultsOK b (-1) l = true) {f : FaultD} (hf : f ∈ l) : List.getD (kindsB b l) (placeOf b f).toNat 0 = f.1 := by
  obtain ⟨h1, h2, h3, h4⟩ := faults_on h f hf
  unfold kindsB
  show List.getD (kindsOf b l _) (f.2.1 * b.2.1 + f.2.2).toNat 0 = f.1
  rw [kindsOf_at hb h1 h2 h3 h4 h (by rw [List.length_replicate])]
  rw [show List.getD (List.replicate b.2.2.length (0 : Int)) (f.2.1 * b.2.1 + f.2.2).toNat 0 = 0 from by
    simp only [List.getD, List.getElem?_replicate]; split <;> rfl]
  exact faAtD_mem hf rfl rfl h
theorem fallL_stuck (b : BoardD) (G K : List Int) {i : Nat} (hk : List.getD K i 0 = 1) : ∀ (n : Nat) (row col side : Int) (o : List CellD), (fallEnd b (fallL b G K n row col side o)).2[i]? = o[i]?
  | 0, _, _, _, o => rfl
  | n + 1, row, col, side, o => by
    have h1 := fallL_stuck b G K hk n (row + 1)
    have h2 := fun a => stepAt_stuck G K (at' := a) (o := o) hk
    unfold fallL
    dsimp only
    repeat' split
    all_goals first | rfl | exact h2 _ | exact (h1 _ _ _).trans (h2 _)
theorem fallOf_stuck (b : BoardD) (G K : List Int) {i : Nat} (hk : List.getD K i 0 = 1) (c : Int) (o : List CellD) (d : CellD) : List.getD (fallOf b G K c o).2 i d = List.getD o i d := by
  simp only [List.getD]
  rw [show (fallOf b G K c o).2[i]? = o[i]? from fallL_stuck b G K hk _ _ _ _ o]
theorem fallOf_hole (b : BoardD) (hb : boardOK b = true) (G K : List Int) (c : Int) (o : List CellD) (hk : List.getD K c.toNat 0 = 2) : (fallOf b G K c o).1 = (3, 0, c) := by
  obtain ⟨g1, _⟩ := board_ok hb
  unfold fallOf
  obtain ⟨m, hm⟩ : ∃ m, b.1.toNat = m + 1 := ⟨b.1.toNat - 1, by omega⟩
  rw [hm]
  unfold fallL
  simp only [Int.zero_mul, Int.zero_add, hk, if_true, fallEnd]
end Go.Proofs.Ytgjmhbjdhihgaaa.Vs

set_option linter.unusedVariables false
set_option linter.unusedSimpArgs false
namespace Go.Proofs.Ytgjmhbjdhihgaaa.Vs
open Go.RowKit
/-! ### Tests -/
theorem e_impl_validEntries_0 (b : BoardD) : ∀ (r pre : List Int), (pre ++ r).length ≤ 9223372036854775806 → Ev (fun k => f_impl_validEntries_0 k b.1 b.2.1 b.2.2 (pre ++ r) ((pre ++ r).length : Int) (pre.length : Int)) (if r.all (fun c => decide (0 ≤ c ∧ c < b.2.1)) then LR.go () else LR.ret false)
  | [], pre, hl => by
    refine Ev.succ ?_
    simp only [f_impl_validEntries_0, nlt_end, decide_false, Bool.false_eq_true, if_false, List.all_nil, if_true]
    exact Ev.some _
  | x :: r, pre, hl => by
    have ih := e_impl_validEntries_0 b r (pre ++ [x]) (by simpa using hl)
    refine Ev.succ ?_
    simp only [f_impl_validEntries_0, lt_mid, ge_mid, decide_true, if_true, Int.toNat_natCast, getD_mid]
    rw [next_mid pre x r (by omega)]
    rw [← shift_mid] at ih
    refine Ev.ite (fun h => ?_) (fun h => Ev.ite (fun h2 => ?_) (fun h2 => ?_))
    · simp only [decide_eq_true_eq] at h
      have hx : ¬ (0 ≤ x ∧ x < b.2.1) := by omega
      simp only [hx, List.all_cons, decide_false, Bool.false_and, Bool.false_eq_true, if_false]; exact Ev.some _
    · simp only [decide_eq_true_eq] at h2
      have hx : ¬ (0 ≤ x ∧ x < b.2.1) := by omega
      simp only [hx, List.all_cons, decide_false, Bool.false_and, Bool.false_eq_true, if_false]; exact Ev.some _
    · simp only [decide_eq_true_eq] at h h2
      have hx : 0 ≤ x ∧ x < b.2.1 := by omega
      simp only [hx, and_self, List.all_cons, decide_true, Bool.true_and]; exact ih
theorem e_impl_validEntries (b : BoardD) (l : List Int) (hb : b.2.2.length ≤ 9223372036854775806) (hl : l.length ≤ 9223372036854775806) : Ev (fun k => f_impl_validEntries k b l) (boardOK b && decide (l.length ≤ 60) && l.all fun c => decide (0 ≤ c ∧ c < b.2.1)) := by
  refine Ev.succ ?_
  simp only [f_impl_validEntries]
  refine Ev.bind (e_impl_IsBoard b hb) ?_
  cases hbo : boardOK b with
  | false => simp only [Bool.not_false, if_true, Bool.false_and]; exact Ev.some _
  | true =>
    simp only [Bool.not_true, Bool.false_eq_true, if_false, Bool.true_and]
    refine Ev.ite (fun h => Ev.of ?_) (fun h => ?_)
    · simp only [decide_eq_true_eq] at h
      have : ¬ l.length ≤ 60 := by omega
      simp [this]
    · simp only [decide_eq_true_eq] at h
      have h6 : l.length ≤ 60 := by omega
      refine Ev.bind (e_impl_validEntries_0 b l [] (by simpa using hl)) ?_
      simp only [h6, decide_true, Bool.true_and]
      cases hx : l.all (fun c => decide (0 ≤ c ∧ c < b.2.1)) with
      | true => simp only [if_true]; exact Ev.go (Ev.some _)
      | false => simp only [Bool.false_eq_true, if_false]; exact Ev.ret (Ev.some _)
end Go.Proofs.Ytgjmhbjdhihgaaa.Vs

set_option linter.unusedVariables false
set_option linter.unusedSimpArgs false
namespace Go.Proofs.Ytgjmhbjdhihgaaa.Vs
open Go.RowKit
end Go.Proofs.Ytgjmhbjdhihgaaa.Vs

set_option linter.unusedVariables false
set_option linter.unusedSimpArgs false
namespace Go.Proofs.Ytgjmhbjdhihgaaa.Vs
open Go.RowKit
/-! ### Who may ask -/
def entriesOK (b : BoardD) (t : List Int) : Bool := boardOK b && decide (t.length ≤ 60) && t.all fun c => decide (0 ≤ c ∧ c < b.2.1)
theorem entries_ok {b : BoardD} {t : List Int} (h : entriesOK b t = true) : boardOK b = true ∧ t.length ≤ 60 ∧ colsOK b t := by
  unfold entriesOK at h
  simp only [Bool.and_eq_true, decide_eq_true_eq, List.all_eq_true] at h
  exact ⟨h.1.1, h.1.2, h.2⟩
theorem e_spec_flColumns (b : BoardD) (l : List Int) (hb : b.2.2.length ≤ 9223372036854775806) (hl : l.length ≤ 9223372036854775806) : Ev (fun k => f_spec_flColumns k b l) (entriesOK b l) := by
  refine Ev.succ ?_
  simp only [f_spec_flColumns]
  refine Ev.bind (e_spec_boGood b hb) ?_
  unfold entriesOK
  cases hbo : boardOK b with
  | false => simp only [Bool.false_eq_true, if_false, Bool.false_and]; exact Ev.some _
  | true =>
    obtain ⟨g1, g2, g3, g4, g5, g6⟩ := board_ok hbo
    simp only [if_true, Bool.true_and]
    rw [w64 (n := b.2.1 - 1) (by omega) (by omega)]
    refine Ev.ite (fun h => ?_) (fun h => ?_)
    · simp only [decide_eq_true_eq] at h
      have : l.length ≤ 60 := by omega
      simp only [this, decide_true, Bool.true_and]
      refine (Ev.bind (e_spec_l1All l _ _ hl) (Ev.some _)).congr ?_
      congr 1
      funext c
      have : (0 ≤ c ∧ c ≤ b.2.1 - 1) ↔ (0 ≤ c ∧ c < b.2.1) := by omega
      simp only [this]
    · simp only [decide_eq_true_eq] at h
      have : ¬ l.length ≤ 60 := by omega
      simp only [this, decide_false, Bool.false_and]
      exact Ev.some _
/-! ### What is seen -/
def endsOf (b : BoardD) (l : List FaultD) (t : List Int) : List FallD := (runsOf b (groupsOf b) (kindsB b l) t b.2.2).1
def leftOf (b : BoardD) (l : List FaultD) (t : List Int) : List CellD := (runsOf b (groupsOf b) (kindsB b l) t b.2.2).2
theorem endsOf_len (b : BoardD) (l : List FaultD) (t : List Int) : (endsOf b l t).length = t.length := runsOf_len _ _ _ _ _
theorem leftOf_len (b : BoardD) (l : List FaultD) (t : List Int) : (leftOf b l t).length = b.2.2.length := runsOf_len2 _ _ _ _ _
end Go.Proofs.Ytgjmhbjdhihgaaa.Vs

set_option linter.unusedVariables false
set_option linter.unusedSimpArgs false
namespace Go.Proofs.Ytgjmhbjdhihgaaa.Vs
open Go.RowKit
def faultsB (b : BoardD) (l : List FaultD) : Bool := decide (l.length ≤ 4) && faultsOK b (-1) l
theorem faultsB_ok {b : BoardD} {l : List FaultD} (h : faultsB b l = true) : l.length ≤ 4 ∧ faultsOK b (-1) l = true := by
  unfold faultsB at h
  simp only [Bool.and_eq_true, decide_eq_true_eq] at h
  exact h
def r_FaultyFalls (b : BoardD) (l : List FaultD) (t : List Int) : List FallD × BoardD × Bool := if entriesOK b t && faultsB b l then (endsOf b l t, (b.1, b.2.1, leftOf b l t), true) else ([], (0, 0, []), false)
theorem e_spec_FaultyFalls (b : BoardD) (l : List FaultD) (t : List Int) (h0 : b.2.2.length ≤ 9223372036854775806) (h1 : l.length ≤ 9223372036854775806) (h2 : t.length ≤ 9223372036854775806) : Ev (fun k => f_spec_FaultyFalls k b l t) (r_FaultyFalls b l t) := by
  refine Ev.succ ?_
  simp only [f_spec_FaultyFalls]
  unfold r_FaultyFalls
  refine Ev.bind (a := entriesOK b t) (e_spec_flColumns b t h0 h2) ?_
  cases g0 : entriesOK b t with
  | false => simp only [Bool.not_false, if_true, Bool.false_eq_true, if_false, Bool.false_and, Bool.and_false]; exact Ev.some _
  | true =>
    simp only [Bool.not_true, Bool.false_eq_true, if_false, if_true, Bool.and_self]
    obtain ⟨hb, ht, hc⟩ := entries_ok g0
    refine Ev.bind (a := faultsB b l) (e_spec_faGood b hb l h1) ?_
    cases g1 : faultsB b l with
    | false => simp only [Bool.not_false, if_true, Bool.false_eq_true, if_false, Bool.false_and, Bool.and_false]; exact Ev.some _
    | true =>
      simp only [Bool.not_true, Bool.false_eq_true, if_false, if_true, Bool.and_self]
      obtain ⟨hl4, hl⟩ := faultsB_ok g1
      exact Ev.bind (e_spec_faAll b hb l hl h1 t (by omega) hc) (Ev.some _)
theorem e_impl_FaultyFalls (b : BoardD) (l : List FaultD) (t : List Int) (h0 : b.2.2.length ≤ 9223372036854775806) (h1 : l.length ≤ 9223372036854775806) (h2 : t.length ≤ 9223372036854775806) : Ev (fun k => f_impl_FaultyFalls k b l t) (r_FaultyFalls b l t) := by
  refine Ev.succ ?_
  simp only [f_impl_FaultyFalls]
  unfold r_FaultyFalls
  refine Ev.bind (a := entriesOK b t) (e_impl_validEntries b t h0 h2) ?_
  cases g0 : entriesOK b t with
  | false => simp only [Bool.not_false, if_true, Bool.false_eq_true, if_false, Bool.false_and, Bool.and_false]; exact Ev.some _
  | true =>
    simp only [Bool.not_true, Bool.false_eq_true, if_false, if_true, Bool.and_self]
    obtain ⟨hb, ht, hc⟩ := entries_ok g0
    refine Ev.bind (a := faultsB b l) (e_impl_areFaults b hb l h1) ?_
    cases g1 : faultsB b l with
    | false => simp only [Bool.not_false, if_true, Bool.false_eq_true, if_false, Bool.false_and, Bool.and_false]; exact Ev.some _
    | true =>
      simp only [Bool.not_true, Bool.false_eq_true, if_false, if_true, Bool.and_self]
      obtain ⟨hl4, hl⟩ := faultsB_ok g1
      exact Ev.bind (e_impl_faultyDrops b hb l hl h1 t (by omega) hc) (Ev.some _)
theorem r_FaultyFalls_len (b : BoardD) (l : List FaultD) (t : List Int) : (r_FaultyFalls b l t).1.length ≤ t.length ∧ (r_FaultyFalls b l t).2.1.2.2.length ≤ b.2.2.length := by
  unfold r_FaultyFalls
  split
  · exact ⟨Nat.le_of_eq (endsOf_len _ _ _), Nat.le_of_eq (leftOf_len _ _ _)⟩
  · simp
end Go.Proofs.Ytgjmhbjdhihgaaa.Vs

set_option linter.unusedVariables false
set_option linter.unusedSimpArgs false
namespace Go.Proofs.Ytgjmhbjdhihgaaa.Vs
open Go.RowKit
theorem bytes_of {l : List Int} (h : ∀ x ∈ l, Wf (.int .u8) x) : ∀ x ∈ l, 0 ≤ x ∧ x ≤ 255 := by
  intro x hx
  have h2 : (Lit.int .u8 x).wf = true := h x hx
  simp only [Lit.wf, Bool.and_eq_true, decide_eq_true_eq] at h2
  have e1 : IntKind.u8.min = 0 := by decide
  have e2 : IntKind.u8.max = 255 := by decide
  omega
/-- A cursor that can be drawn from: bytes, and room for n more steps. -/
def Cur (code : List Int) (at' n : Int) : Prop := (∀ x ∈ code, 0 ≤ x ∧ x ≤ 255) ∧ code.length ≤ 9223372036854775807 ∧ 0 ≤ at' ∧ at' + n ≤ 4611686018427387904
theorem Cur.to {code : List Int} {at' n at2 m : Int} (h : Cur code at' n) (h1 : at' ≤ at2) (h2 : at2 + m ≤ at' + n) : Cur code at2 m := ⟨h.1, h.2.1, by have := h.2.2.1; omega, by have := h.2.2.2; omega⟩
theorem wrap_u64_in (n : Int) (h0 : 0 ≤ n) (h1 : n < 2 ^ 64) : IntKind.u64.wrap n = n := by
  have : (2 : Int) ^ 64 = 18446744073709551616 := by decide
  simp [IntKind.wrap, IntKind.bits, IntKind.signed]
  omega
theorem and255 (x : Int) : 0 ≤ bits BinOp.and IntKind.u64 x 255 ∧ bits BinOp.and IntKind.u64 x 255 ≤ 255 := by
  unfold bits
  simp only
  have h : ((BitVec.ofInt IntKind.u64.bits x &&& BitVec.ofInt IntKind.u64.bits 255).toNat) ≤ 255 := by
    rw [BitVec.toNat_and]
    exact Nat.and_le_right
  have h2 : ((2 : Int) ^ 64) = 18446744073709551616 := by decide
  rw [wrap_u64_in _ (Int.natCast_nonneg _) (by omega)]
  omega
theorem getD_memI {l : List Int} {i : Int} (h : i < (l.length : Int)) (h0 : 0 ≤ i) : List.getD l i.toNat 0 ∈ l := by
  have hi : i.toNat < l.length := by omega
  simp only [List.getD, List.getElem?_eq_getElem hi, Option.getD_some]
  exact List.getElem_mem hi
def seedN (s b : Int) : Int := IntKind.wrap IntKind.u64 (IntKind.wrap IntKind.u64 (IntKind.wrap IntKind.u64 (s * 6364136223846793005) + IntKind.wrap IntKind.u64 b) + 1442695040888963407)
theorem e_next {code : List Int} {at' : Int} (seed : Int) (h : Cur code at' 1) : ∃ v s, Ev (fun k => f_spec_l1Cur_next k (code, at', seed)) (v, at' + 1, s) ∧ 0 ≤ v ∧ v ≤ 255 := by
  obtain ⟨hb, hl, h0, h1⟩ := h
  have w1 : wrap64 (at' + 1) = at' + 1 := w64 (by omega) (by omega)
  have big : ∀ x : Int, 0 ≤ wrap64 (bits BinOp.and IntKind.u64 x 255) ∧ wrap64 (bits BinOp.and IntKind.u64 x 255) ≤ 255 := fun x => by
    have := and255 x
    rw [w64 (by omega) (by omega)]
    exact this
  by_cases hin : at' < (code.length : Int)
  · have hx := hb _ (getD_memI hin h0)
    have w2 : wrap64 (List.getD code at'.toNat 0) = List.getD code at'.toNat 0 := w64 (by omega) (by omega)
    have hle : at' + 1 ≤ (code.length : Int) := by omega
    refine ⟨List.getD code at'.toNat 0, seedN seed (List.getD code at'.toNat 0), Ev.succ ?_, hx.1, hx.2⟩
    simp only [f_spec_l1Cur_next, hin, h0, w1, hle, decide_true, if_true, w2]
    exact Ev.some _
  · have hle : ¬ at' + 1 ≤ (code.length : Int) := by omega
    refine ⟨wrap64 (bits BinOp.and IntKind.u64 (Int.fdiv (seedN seed 0) (2 ^ min (Int.toNat 40) (IntKind.bits IntKind.u64))) 255), seedN seed 0, Ev.succ ?_, (big _).1, (big _).2⟩
    simp only [f_spec_l1Cur_next, hin, w1, hle, decide_false, Bool.false_eq_true, if_false]
    exact Ev.some _
theorem e_pick {code : List Int} {at' : Int} (seed n : Int) (h : Cur code at' 2) : ∃ v at2 s, Ev (fun k => f_spec_l1Cur_pick k (code, at', seed) n) (v, at2, s) ∧ at' ≤ at2 ∧ at2 ≤ at' + 2 ∧ 0 ≤ v ∧ (n ≤ 1 → v = 0) ∧ (1 < n → v < n) := by
  by_cases hn : n ≤ 1
  · refine ⟨0, at', seed, Ev.succ ?_, by omega, by omega, by omega, fun _ => rfl, fun h => by omega⟩
    simp only [f_spec_l1Cur_pick, hn, decide_true, if_true]
    exact Ev.some _
  · obtain ⟨v1, s1, e1, b1, b2⟩ := e_next seed (h.to (at2 := at') (m := 1) (by omega) (by omega))
    by_cases hb : n > 200
    · obtain ⟨v2, s2, e2, b3, b4⟩ := e_next s1 (h.to (at2 := at' + 1) (m := 1) (by omega) (by omega))
      have hp : 0 ≤ v1 * 256 + v2 := by omega
      refine ⟨Int.tmod (v1 * 256 + v2) n, at' + 1 + 1, s2, Ev.succ ?_, by omega, by omega, Int.tmod_nonneg _ hp, fun h => by omega, fun _ => Int.tmod_lt_of_pos _ (by omega)⟩
      have hn0 : ¬ n = 0 := by omega
      simp only [f_spec_l1Cur_pick, hn, decide_false, Bool.false_eq_true, if_false]
      refine Ev.bind e1 ?_
      simp only [hb, decide_true, if_true]
      refine Ev.bind e2 ?_
      simp only [hn0, if_false]
      rw [w64 (n := v1 * 256) (by omega) (by omega), w64 (n := v1 * 256 + v2) (by omega) (by omega)]
      exact Ev.some _
    · refine ⟨Int.tmod v1 n, at' + 1, s1, Ev.succ ?_, by omega, by omega, Int.tmod_nonneg _ b1, fun h => by omega, fun _ => Int.tmod_lt_of_pos _ (by omega)⟩
      have hn0 : ¬ n = 0 := by omega
      simp only [f_spec_l1Cur_pick, hn, decide_false, Bool.false_eq_true, if_false]
      refine Ev.bind e1 ?_
      simp only [hb, decide_false, Bool.false_eq_true, if_false, hn0]
      exact Ev.some _
theorem e_among {code : List Int} {at' : Int} (seed : Int) (l : List Int) (hl : 0 < l.length) (h : Cur code at' 2) : ∃ v at2 s, Ev (fun k => f_spec_l1Cur_among k (code, at', seed) l) (v, at2, s) ∧ at' ≤ at2 ∧ at2 ≤ at' + 2 ∧ v ∈ l := by
  obtain ⟨v, at2, s, e1, b1, b2, b3, b4, b5⟩ := e_pick seed (l.length : Int) h
  have hlt : v < (l.length : Int) := by
    by_cases h1 : (l.length : Int) ≤ 1
    · rw [b4 h1]; omega
    · exact b5 (by omega)
  refine ⟨List.getD l v.toNat 0, at2, s, Ev.succ ?_, b1, b2, getD_memI hlt b3⟩
  simp only [f_spec_l1Cur_among]
  refine Ev.bind e1 ?_
  simp only [b3, hlt, if_true]
  exact Ev.some _
end Go.Proofs.Ytgjmhbjdhihgaaa.Vs

set_option linter.unusedVariables false
set_option linter.unusedSimpArgs false
namespace Go.Proofs.Ytgjmhbjdhihgaaa.Vs
open Go.RowKit
theorem e_one {code : List Int} {at' : Int} (seed n : Int) (h : Cur code at' 2) : ∃ b at2 s, Ev (fun k => f_spec_l1Cur_one k (code, at', seed) n) (b, at2, s) ∧ at' ≤ at2 ∧ at2 ≤ at' + 2 := by
  obtain ⟨v, at2, s, e1, b1, b2, _⟩ := e_pick seed n h
  refine ⟨decide (v = 0), at2, s, Ev.succ ?_, b1, b2⟩
  simp only [f_spec_l1Cur_one]
  exact Ev.bind e1 (Ev.some _)
theorem e_pick' {code : List Int} {at' : Int} (seed n : Int) (h : Cur code at' 2) (hn : 0 < n) : ∃ v at2 s, Ev (fun k => f_spec_l1Cur_pick k (code, at', seed) n) (v, at2, s) ∧ at' ≤ at2 ∧ at2 ≤ at' + 2 ∧ 0 ≤ v ∧ v < n := by
  obtain ⟨v, at2, s, e1, b1, b2, b3, b4, b5⟩ := e_pick seed n h
  refine ⟨v, at2, s, e1, b1, b2, b3, ?_⟩
  by_cases h1 : n ≤ 1
  · rw [b4 h1]; exact hn
  · exact b5 (by omega)
end Go.Proofs.Ytgjmhbjdhihgaaa.Vs

set_option linter.unusedVariables false
set_option linter.unusedSimpArgs false
namespace Go.Proofs.Ytgjmhbjdhihgaaa.Vs
open Go.RowKit
theorem e_paAll_0 : ∀ (d : Nat) (v : Int) (acc : List (Int × Int)), v + d = 8 → 0 ≤ v → (acc.length : Int) ≤ 2 * v → (0 < v → 0 < acc.length) → ∃ l, Ev (fun k => f_spec_paAll_0 k acc v) l ∧ 0 < l.length ∧ l.length ≤ 16
  | 0, v, acc, hv, h0, h1, h2 => by
    have hn : ¬ v ≤ 7 := by omega
    refine ⟨acc, Ev.succ ?_, h2 (by omega), by omega⟩
    simp only [f_spec_paAll_0, hn, decide_false, Bool.false_eq_true, if_false]
    exact Ev.some _
  | d + 1, v, acc, hv, h0, h1, h2 => by
    have hle : v ≤ 7 := by omega
    have hw : wrap64 (v + 1) = v + 1 := w64 (by omega) (by omega)
    have hal : acc.length + 1 ≤ 140737488355328 / 16 := by omega
    have hal2 : (acc ++ [(v, (0 : Int))]).length + 1 ≤ 140737488355328 / 16 := by simp; omega
    have ht := e_spec_paTurning (v, 1)
    cases hb : turning (v, 1) with
    | true =>
      rw [hb] at ht
      obtain ⟨l, e1, g1, g2⟩ := e_paAll_0 d (v + 1) (acc ++ [(v, 0)] ++ [(v, 1)]) (by omega) (by omega) (by simp; omega) (by simp)
      refine ⟨l, Ev.succ ?_, g1, g2⟩
      simp only [f_spec_paAll_0, hle, decide_true, if_true, List.length_singleton, hal, hw]
      refine Ev.bind ht ?_
      simp only [if_true, hal2]
      exact e1
    | false =>
      rw [hb] at ht
      obtain ⟨l, e1, g1, g2⟩ := e_paAll_0 d (v + 1) (acc ++ [(v, 0)]) (by omega) (by omega) (by simp; omega) (by simp)
      refine ⟨l, Ev.succ ?_, g1, g2⟩
      simp only [f_spec_paAll_0, hle, decide_true, if_true, List.length_singleton, hal, hw]
      refine Ev.bind ht ?_
      simp only [Bool.false_eq_true, if_false]
      exact e1
theorem e_cell {code : List Int} {at' : Int} (seed : Int) (h : Cur code at' 2) : ∃ x at2 s, Ev (fun k => f_spec_l1Cur_cell k (code, at', seed)) (x, at2, s) ∧ at' ≤ at2 ∧ at2 ≤ at' + 2 := by
  obtain ⟨l, e0, g1, g2⟩ := e_paAll_0 8 0 [] (by omega) (by omega) (by simp) (by omega)
  obtain ⟨v, at2, s, e1, b1, b2, b3, b4⟩ := e_pick' seed (l.length : Int) h (by omega)
  refine ⟨(List.getD l v.toNat (0, 0)), at2, s, Ev.succ ?_, b1, b2⟩
  have hp : Ev (fun k => f_spec_paAll k) l := by
    refine Ev.succ ?_
    simp only [f_spec_paAll]
    exact Ev.bind e0 (Ev.some _)
  simp only [f_spec_l1Cur_cell]
  refine Ev.bind hp (Ev.bind e1 ?_)
  simp only [b3, b4, if_true]
  exact Ev.some _
theorem e_anyCell {code : List Int} {at' : Int} (seed : Int) (h : Cur code at' 6) : ∃ x at2 s, Ev (fun k => f_spec_l1Cur_anyCell k (code, at', seed)) (x, at2, s) ∧ at' ≤ at2 ∧ at2 ≤ at' + 6 := by
  obtain ⟨x, a0, s0, e0, b1, b2⟩ := e_cell seed (h.to (at2 := at') (m := 2) (by omega) (by omega))
  obtain ⟨v, a1, s1, e1, b3, b4, _⟩ := e_pick' s0 20 (h.to (at2 := a0) (m := 2) (by omega) (by omega)) (by omega)
  by_cases h0 : v = 0
  · obtain ⟨y, a2, s2, e2, b5, b6, _⟩ := e_among s1 [-1, 8] (by simp) (h.to (at2 := a1) (m := 2) (by omega) (by omega))
    refine ⟨(y, x.2), a2, s2, Ev.succ ?_, by omega, by omega⟩
    simp only [f_spec_l1Cur_anyCell]
    refine Ev.bind e0 (Ev.bind e1 ?_)
    simp only [h0, decide_true, if_true]
    exact Ev.bind e2 (Ev.some _)
  · by_cases h1 : v = 1
    · obtain ⟨y, a2, s2, e2, b5, b6, _⟩ := e_among s1 [-1, 1, 2] (by simp) (h.to (at2 := a1) (m := 2) (by omega) (by omega))
      refine ⟨(x.1, y), a2, s2, Ev.succ ?_, by omega, by omega⟩
      simp only [f_spec_l1Cur_anyCell]
      refine Ev.bind e0 (Ev.bind e1 ?_)
      subst h1
      simp only [h0, decide_true, decide_false, Bool.false_eq_true, if_false, if_true]
      exact Ev.bind e2 (Ev.some _)
    · refine ⟨(x.1, x.2), a1, s1, Ev.succ ?_, by omega, by omega⟩
      simp only [f_spec_l1Cur_anyCell]
      refine Ev.bind e0 (Ev.bind e1 ?_)
      simp only [h0, h1, decide_false, Bool.false_eq_true, if_false]
      exact Ev.some _
theorem e_boardOf_0 (code : List Int) (n : Nat) (hn : n ≤ 1000) (v1 v2 v8 b30 b31 b50 b51 : Int) (o4 : List (Int × Int)) (hw : wrap64 (v1 * v2) = (n : Int)) : ∀ (d : Nat) (acc : List (Int × Int)) (at' seed : Int), acc.length + d = n → Cur code at' (10 * d) → ∃ at2 s l, Ev (fun k => f_spec_l1Cur_boardOf_0 k at' seed code b30 b31 o4 b50 b51 acc v1 v2 v8) (at2, s, code, b30, b31, o4, b50, b51, l) ∧ l.length = n ∧ at' ≤ at2 ∧ at2 ≤ at' + 10 * d
  | 0, acc, at', seed, h, hc => by
    have hlt : ¬ (acc.length : Int) < (n : Int) := by omega
    refine ⟨at', seed, acc, Ev.succ ?_, by omega, by omega, by omega⟩
    simp only [f_spec_l1Cur_boardOf_0, hw, hlt, decide_false, Bool.false_eq_true, if_false]
    exact Ev.some _
  | d + 1, acc, at', seed, h, hc => by
    have hlt : (acc.length : Int) < (n : Int) := by omega
    have hal : acc.length + 1 ≤ 140737488355328 / 16 := by omega
    have step : ∀ (x : Int × Int) (a1 s1 : Int), at' ≤ a1 → a1 ≤ at' + 10 → ∃ at2 s l, Ev (fun k => f_spec_l1Cur_boardOf_0 k a1 s1 code b30 b31 o4 b50 b51 (acc ++ [x]) v1 v2 v8) (at2, s, code, b30, b31, o4, b50, b51, l) ∧ l.length = n ∧ at' ≤ at2 ∧ at2 ≤ at' + 10 * ((d + 1 : Nat) : Int) := by
      intro x a1 s1 g1 g2
      obtain ⟨a2, s2, l, e, c1, c2, c3⟩ := e_boardOf_0 code n hn v1 v2 v8 b30 b31 b50 b51 o4 hw d (acc ++ [x]) a1 s1 (by simp; omega) (hc.to (at2 := a1) (by omega) (by omega))
      exact ⟨a2, s2, l, e, c1, by omega, by omega⟩
    have part : ∀ (a1 s1 : Int), at' ≤ a1 → a1 ≤ at' + 4 → ∃ at2 s l, Ev (fun k => Option.bind (f_spec_l1Cur_cell k (code, a1, s1)) fun z2 => if decide (z2.1.1 = 5) = true then Option.bind (f_spec_l1Cur_one k (code, z2.2.1, z2.2.2) 3) fun z3 => if (!z3.1) = true then Option.bind (f_spec_l1Cur_pick k (code, z3.2.1, z3.2.2) 2) fun z4 => f_spec_l1Cur_boardOf_0 k z4.2.1 z4.2.2 code b30 b31 o4 b50 b51 (acc ++ [(3, z4.1)]) v1 v2 v8 else f_spec_l1Cur_boardOf_0 k z3.2.1 z3.2.2 code b30 b31 o4 b50 b51 (acc ++ [(z2.1.1, z2.1.2)]) v1 v2 v8 else f_spec_l1Cur_boardOf_0 k z2.2.1 z2.2.2 code b30 b31 o4 b50 b51 (acc ++ [(z2.1.1, z2.1.2)]) v1 v2 v8) (at2, s, code, b30, b31, o4, b50, b51, l) ∧ l.length = n ∧ at' ≤ at2 ∧ at2 ≤ at' + 10 * ((d + 1 : Nat) : Int) := by
      intro a1 s1 g1 g2
      obtain ⟨x, a2, s2, e2, b1, b2⟩ := e_cell s1 (hc.to (at2 := a1) (m := 2) (by omega) (by omega))
      by_cases hx : x.1 = 5
      · obtain ⟨q, a3, s3, e3, b3, b4⟩ := e_one s2 3 (hc.to (at2 := a2) (m := 2) (by omega) (by omega))
        cases q with
        | true =>
          obtain ⟨a5, s5, l, e5, c1, c2, c3⟩ := step (x.1, x.2) a3 s3 (by omega) (by omega)
          refine ⟨a5, s5, l, Ev.bind e2 ?_, c1, c2, c3⟩
          simp only [hx, decide_true, if_true]
          refine Ev.bind e3 ?_
          simp only [Bool.not_true, Bool.false_eq_true, if_false]
          rw [hx] at e5
          exact e5
        | false =>
          obtain ⟨v, a4, s4, e4, b5, b6, _⟩ := e_pick' s3 2 (hc.to (at2 := a3) (m := 2) (by omega) (by omega)) (by omega)
          obtain ⟨a5, s5, l, e5, c1, c2, c3⟩ := step (3, v) a4 s4 (by omega) (by omega)
          refine ⟨a5, s5, l, Ev.bind e2 ?_, c1, c2, c3⟩
          simp only [hx, decide_true, if_true]
          refine Ev.bind e3 ?_
          simp only [Bool.not_false, if_true]
          exact Ev.bind e4 e5
      · obtain ⟨a5, s5, l, e5, c1, c2, c3⟩ := step (x.1, x.2) a2 s2 (by omega) (by omega)
        refine ⟨a5, s5, l, Ev.bind e2 ?_, c1, c2, c3⟩
        simp only [hx, decide_false, Bool.false_eq_true, if_false]
        exact e5
    obtain ⟨q, a1, s1, e1, b1, b2⟩ := e_one seed v8 (hc.to (at2 := at') (m := 2) (by omega) (by omega))
    cases q with
    | true =>
      obtain ⟨a5, s5, l, e5, c1, c2, c3⟩ := part a1 s1 b1 (by omega)
      refine ⟨a5, s5, l, Ev.succ ?_, c1, c2, c3⟩
      simp only [f_spec_l1Cur_boardOf_0, hw, hlt, decide_true, if_true]
      refine Ev.bind e1 ?_
      simp only [if_true, List.length_singleton, hal]
      exact e5
    | false =>
      obtain ⟨q2, a2, s2, e2, b3, b4⟩ := e_one s1 3 (hc.to (at2 := a1) (m := 2) (by omega) (by omega))
      cases q2 with
      | true =>
        obtain ⟨a5, s5, l, e5, c1, c2, c3⟩ := part a2 s2 (by omega) (by omega)
        refine ⟨a5, s5, l, Ev.succ ?_, c1, c2, c3⟩
        simp only [f_spec_l1Cur_boardOf_0, hw, hlt, decide_true, if_true]
        refine Ev.bind e1 ?_
        simp only [Bool.false_eq_true, if_false]
        refine Ev.bind e2 ?_
        simp only [if_true, List.length_singleton, hal]
        exact e5
      | false =>
        obtain ⟨a5, s5, l, e5, c1, c2, c3⟩ := step (0, 0) a2 s2 (by omega) (by omega)
        refine ⟨a5, s5, l, Ev.succ ?_, c1, c2, c3⟩
        simp only [f_spec_l1Cur_boardOf_0, hw, hlt, decide_true, if_true]
        refine Ev.bind e1 ?_
        simp only [Bool.false_eq_true, if_false]
        refine Ev.bind e2 ?_
        simp only [Bool.false_eq_true, if_false, List.length_singleton, hal, if_true]
        exact e5
theorem e_boardOf {code : List Int} {at' : Int} (seed r c : Int) (n : Nat) (hw : wrap64 (r * c) = (n : Int)) (hn : n ≤ 100) (h : Cur code at' 1010) : ∃ l at2 s, Ev (fun k => f_spec_l1Cur_boardOf k (code, at', seed) r c) ((r, c, l), at2, s) ∧ at' ≤ at2 ∧ at2 ≤ at' + 1010 ∧ l.length = n := by
  obtain ⟨v, a0, s0, e0, b1, b2, _⟩ := e_among seed [1, 2, 2] (by simp) (h.to (at2 := at') (m := 2) (by omega) (by omega))
  obtain ⟨a1, s1, l, e1, c1, c2, c3⟩ := e_boardOf_0 code n (by omega) r c v 0 0 r c [] hw n [] a0 s0 (by simp) (h.to (at2 := a0) (by omega) (by omega))
  refine ⟨l, a1, s1, Ev.succ ?_, by omega, by omega, c1⟩
  simp only [f_spec_l1Cur_boardOf]
  exact Ev.bind e0 (Ev.bind e1 (Ev.some _))
theorem prod_in {r c : Int} (r1 : 1 ≤ r) (r2 : r ≤ 10) (c1 : 1 ≤ c) (c2 : c ≤ 9) : 1 ≤ r * c ∧ r * c ≤ 90 := by
  have h1 : r * c ≤ 10 * 9 := Int.mul_le_mul r2 c2 (by omega) (by omega)
  have h2 : 1 * 1 ≤ r * c := Int.mul_le_mul r1 c1 (by omega) (by omega)
  omega
theorem e_board {code : List Int} {at' : Int} (seed : Int) (h : Cur code at' 1020) : ∃ r c l at2 s, Ev (fun k => f_spec_l1Cur_board k (code, at', seed)) ((r, c, l), at2, s) ∧ at' ≤ at2 ∧ at2 ≤ at' + 1020 ∧ 1 ≤ r ∧ r ≤ 10 ∧ 1 ≤ c ∧ c ≤ 9 ∧ (l.length : Int) = r * c := by
  obtain ⟨q, a0, s0, e0, b1, b2⟩ := e_one seed 20 (h.to (at2 := at') (m := 2) (by omega) (by omega))
  cases q with
  | true =>
    obtain ⟨r, a1, s1, e1, b3, b4, b5⟩ := e_among s0 [1, 10] (by simp) (h.to (at2 := a0) (m := 2) (by omega) (by omega))
    obtain ⟨c, a2, s2, e2, b6, b7, b8⟩ := e_among s1 [1, 9] (by simp) (h.to (at2 := a1) (m := 2) (by omega) (by omega))
    simp only [List.mem_cons, List.not_mem_nil, or_false] at b5 b8
    have hp := prod_in (r := r) (c := c) (by omega) (by omega) (by omega) (by omega)
    obtain ⟨l, a3, s3, e3, c1, c2, c3⟩ := e_boardOf s2 r c (r * c).toNat (by rw [w64 (by omega) (by omega)]; omega) (by omega) (h.to (at2 := a2) (by omega) (by omega))
    refine ⟨r, c, l, a3, s3, Ev.succ ?_, by omega, by omega, by omega, by omega, by omega, by omega, by omega⟩
    simp only [f_spec_l1Cur_board]
    refine Ev.bind e0 ?_
    simp only [if_true]
    exact Ev.bind e1 (Ev.bind e2 (Ev.bind e3 (Ev.some _)))
  | false =>
    obtain ⟨r, a1, s1, e1, b3, b4, b5, b6⟩ := e_pick' s0 5 (h.to (at2 := a0) (m := 2) (by omega) (by omega)) (by omega)
    obtain ⟨c, a2, s2, e2, b7, b8, b9, b10⟩ := e_pick' s1 5 (h.to (at2 := a1) (m := 2) (by omega) (by omega)) (by omega)
    have w1 : wrap64 (1 + r) = 1 + r := w64 (by omega) (by omega)
    have w2 : wrap64 (1 + c) = 1 + c := w64 (by omega) (by omega)
    have hp := prod_in (r := 1 + r) (c := 1 + c) (by omega) (by omega) (by omega) (by omega)
    obtain ⟨l, a3, s3, e3, c1, c2, c3⟩ := e_boardOf s2 (1 + r) (1 + c) ((1 + r) * (1 + c)).toNat (by rw [w64 (by omega) (by omega)]; omega) (by omega) (h.to (at2 := a2) (by omega) (by omega))
    refine ⟨1 + r, 1 + c, l, a3, s3, Ev.succ ?_, by omega, by omega, by omega, by omega, by omega, by omega, by omega⟩
    simp only [f_spec_l1Cur_board]
    refine Ev.bind e0 ?_
    simp only [Bool.false_eq_true, if_false]
    refine Ev.bind e1 (Ev.bind e2 ?_)
    simp only [w1, w2]
    exact Ev.bind e3 (Ev.some _)
theorem e_anyBoard {code : List Int} {at' : Int} (seed : Int) (h : Cur code at' 1040) : ∃ b at2 s, Ev (fun k => f_spec_l1Cur_anyBoard k (code, at', seed)) (b, at2, s) ∧ at' ≤ at2 ∧ at2 ≤ at' + 1040 ∧ b.2.2.length ≤ 91 := by
  obtain ⟨r, c, l, a0, s0, e0, b1, b2, r1, r2, c1, c2, hl⟩ := e_board seed (h.to (at2 := at') (by omega) (by omega))
  obtain ⟨v, a1, s1, e1, b3, b4, _⟩ := e_pick' s0 36 (h.to (at2 := a0) (m := 2) (by omega) (by omega)) (by omega)
  have hp := prod_in r1 r2 c1 c2
  by_cases v0 : v = 0
  · subst v0
    obtain ⟨x, a2, s2, e2, b5, b6, _⟩ := e_among s1 [0, wrap64 (r + 1), 10, 11] (by simp) (h.to (at2 := a1) (m := 2) (by omega) (by omega))
    refine ⟨(x, c, l), a2, s2, Ev.succ ?_, by omega, by omega, by dsimp only; omega⟩
    simp only [f_spec_l1Cur_anyBoard]
    refine Ev.bind e0 (Ev.bind e1 ?_)
    simp only [decide_true, if_true]
    exact Ev.bind e2 (Ev.some _)
  by_cases v1 : v = 1
  · subst v1
    obtain ⟨x, a2, s2, e2, b5, b6, _⟩ := e_among s1 [0, wrap64 (c + 1), 9, 10] (by simp) (h.to (at2 := a1) (m := 2) (by omega) (by omega))
    refine ⟨(r, x, l), a2, s2, Ev.succ ?_, by omega, by omega, by dsimp only; omega⟩
    simp only [f_spec_l1Cur_anyBoard]
    refine Ev.bind e0 (Ev.bind e1 ?_)
    simp only [v0, decide_true, decide_false, Bool.false_eq_true, if_false, if_true]
    exact Ev.bind e2 (Ev.some _)
  by_cases v2 : v = 2
  · subst v2
    obtain ⟨i, a2, s2, e2, b5, b6, b7, b8⟩ := e_pick' s1 (l.length : Int) (h.to (at2 := a1) (m := 2) (by omega) (by omega)) (by omega)
    obtain ⟨x, a3, s3, e3, b9, b10⟩ := e_anyCell s2 (h.to (at2 := a2) (by omega) (by omega))
    have hg : Ev (fun k => f_spec_l1Cur_anyBoard_g8 k a1 s1 code 0 0 [] r c l) (a3, s3, code, 0, 0, [], r, c, List.set l i.toNat (x.1, x.2)) := by
      simp only [f_spec_l1Cur_anyBoard_g8]
      refine Ev.bind e2 (Ev.bind e3 ?_)
      simp only [b7, b8, if_true]
      exact Ev.some _
    refine ⟨(r, c, List.set l i.toNat (x.1, x.2)), a3, s3, Ev.succ ?_, by omega, by omega, by dsimp only; rw [List.length_set]; omega⟩
    simp only [f_spec_l1Cur_anyBoard]
    refine Ev.bind e0 (Ev.bind e1 ?_)
    simp only [v0, v1, decide_true, decide_false, Bool.false_eq_true, if_false, if_true]
    exact Ev.bind hg (Ev.some _)
  by_cases v3 : v = 3
  · subst v3
    have h1 : 1 ≤ (l.length : Int) := by omega
    refine ⟨(r, c, List.drop (Int.toNat 1) l), a1, s1, Ev.succ ?_, by omega, by omega, by dsimp only; rw [List.length_drop]; omega⟩
    simp only [f_spec_l1Cur_anyBoard]
    refine Ev.bind e0 (Ev.bind e1 ?_)
    simp only [v0, v1, v2, decide_true, decide_false, Bool.false_eq_true, if_false, if_true, h1, Int.le_refl]
    exact Ev.some _
  by_cases v4 : v = 4
  · subst v4
    refine ⟨(11, 2, List.replicate (Int.toNat 22) (0, 0)), a1, s1, Ev.succ ?_, by omega, by omega, by dsimp only; rw [List.length_replicate]; decide⟩
    simp only [f_spec_l1Cur_anyBoard]
    refine Ev.bind e0 (Ev.bind e1 ?_)
    simp only [v0, v1, v2, v3, decide_true, decide_false, Bool.false_eq_true, if_false, if_true]
    exact Ev.some _
  by_cases v5 : v = 5
  · subst v5
    refine ⟨(2, 10, List.replicate (Int.toNat 20) (0, 0)), a1, s1, Ev.succ ?_, by omega, by omega, by dsimp only; rw [List.length_replicate]; decide⟩
    simp only [f_spec_l1Cur_anyBoard]
    refine Ev.bind e0 (Ev.bind e1 ?_)
    simp only [v0, v1, v2, v3, v4, decide_true, decide_false, Bool.false_eq_true, if_false, if_true]
    exact Ev.some _
  refine ⟨(r, c, l), a1, s1, Ev.succ ?_, by omega, by omega, by dsimp only; omega⟩
  simp only [f_spec_l1Cur_anyBoard]
  refine Ev.bind e0 (Ev.bind e1 ?_)
  simp only [v0, v1, v2, v3, v4, v5, decide_false, Bool.false_eq_true, if_false]
  exact Ev.some _
end Go.Proofs.Ytgjmhbjdhihgaaa.Vs

set_option linter.unusedVariables false
set_option linter.unusedSimpArgs false
namespace Go.Proofs.Ytgjmhbjdhihgaaa.Vs
open Go.RowKit
theorem e_most (a b : Int) : ∃ m, Ev (fun k => f_spec_l1Most k a b) m ∧ a ≤ m ∧ (m = a ∨ m = b) := by
  by_cases h : a > b
  · refine ⟨a, Ev.succ ?_, by omega, .inl rfl⟩
    simp only [f_spec_l1Most, h, decide_true, if_true]
    exact Ev.some _
  · refine ⟨b, Ev.succ ?_, by omega, .inr rfl⟩
    simp only [f_spec_l1Most, h, decide_false, Bool.false_eq_true, if_false]
    exact Ev.some _
theorem e_columnOf {code : List Int} {at' : Int} (seed : Int) (b : Int × Int × List (Int × Int)) (h : Cur code at' 6) : ∃ x at2 s, Ev (fun k => f_spec_l1Cur_columnOf k (code, at', seed) b) (x, at2, s) ∧ at' ≤ at2 ∧ at2 ≤ at' + 6 := by
  obtain ⟨m, e0, _⟩ := e_most 1 b.2.1
  obtain ⟨v1, a1, s1, e1, b1, b2, _⟩ := e_pick seed 16 (h.to (at2 := at') (m := 2) (by omega) (by omega))
  obtain ⟨v2, a2, s2, e2, b3, b4, _⟩ := e_pick s1 (wrap64 (m + wrap64 (Int.tdiv v1 15))) (h.to (at2 := a1) (m := 2) (by omega) (by omega))
  obtain ⟨v3, a3, s3, e3, b5, b6, _⟩ := e_pick s2 24 (h.to (at2 := a2) (m := 2) (by omega) (by omega))
  refine ⟨wrap64 (v2 - wrap64 (Int.tdiv v3 23)), a3, s3, Ev.succ ?_, by omega, by omega⟩
  simp only [f_spec_l1Cur_columnOf]
  exact Ev.bind e0 (Ev.bind e1 (Ev.bind e2 (Ev.bind e3 (Ev.some _))))
theorem e_entries_0 (code : List Int) (n : Nat) (hn : n ≤ 1000) (b30 b31 : Int) (b32 : List (Int × Int)) (few : Bool) (first : Int) : ∀ (d : Nat) (acc : List Int) (at' seed : Int), acc.length + d = n → Cur code at' (2 * d) → ∃ at2 s l, Ev (fun k => f_spec_l1Cur_entries_0 k at' seed code b30 b31 b32 acc (n : Int) few first) (at2, s, code, b30, b31, b32, l, (n : Int)) ∧ l.length = n ∧ at' ≤ at2 ∧ at2 ≤ at' + 2 * d
  | 0, acc, at', seed, h, hc => by
    have hlt : ¬ (acc.length : Int) < (n : Int) := by omega
    refine ⟨at', seed, acc, Ev.succ ?_, by omega, by omega, by omega⟩
    simp only [f_spec_l1Cur_entries_0, hlt, decide_false, Bool.false_eq_true, if_false]
    exact Ev.some _
  | d + 1, acc, at', seed, h, hc => by
    have hlt : (acc.length : Int) < (n : Int) := by omega
    have hal : acc.length + 1 ≤ 140737488355328 / 8 := by omega
    cases few with
    | true =>
      obtain ⟨a3, s3, l, e3, b5, b6, b7⟩ := e_entries_0 code n hn b30 b31 b32 true first d (acc ++ [first]) at' seed (by simp; omega) (hc.to (at2 := at') (by omega) (by omega))
      refine ⟨a3, s3, l, Ev.succ ?_, b5, by omega, by omega⟩
      simp only [f_spec_l1Cur_entries_0, hlt, decide_true, if_true, List.length_singleton, hal]
      exact e3
    | false =>
      obtain ⟨m, e0, _⟩ := e_most 1 b31
      obtain ⟨v, a1, s1, e1, b1, b2, _⟩ := e_pick seed m (hc.to (at2 := at') (m := 2) (by omega) (by omega))
      obtain ⟨a3, s3, l, e3, b5, b6, b7⟩ := e_entries_0 code n hn b30 b31 b32 false first d (acc ++ [v]) a1 s1 (by simp; omega) (hc.to (at2 := a1) (by omega) (by omega))
      refine ⟨a3, s3, l, Ev.succ ?_, b5, by omega, by omega⟩
      simp only [f_spec_l1Cur_entries_0, hlt, decide_true, if_true, Bool.false_eq_true, if_false]
      refine Ev.bind e0 (Ev.bind e1 ?_)
      simp only [List.length_singleton, hal, if_true]
      exact e3
theorem e_entries {code : List Int} {at' : Int} (seed : Int) (b : Int × Int × List (Int × Int)) (h : Cur code at' 140) : ∃ l at2 s, Ev (fun k => f_spec_l1Cur_entries k (code, at', seed) b) (l, at2, s) ∧ at' ≤ at2 ∧ at2 ≤ at' + 140 ∧ l.length ≤ 61 := by
  obtain ⟨v0, a0, s0, e0, b1, b2, b3, b4⟩ := e_pick' seed 9 (h.to (at2 := at') (m := 2) (by omega) (by omega)) (by omega)
  obtain ⟨q, a1, s1, e1, b5, b6⟩ := e_one s0 20 (h.to (at2 := a0) (m := 2) (by omega) (by omega))
  have hj : ∃ (a2 s2 : Int) (n : Nat), Ev (fun k => f_spec_l1Cur_entries_j12 k a1 s1 code b.1 b.2.1 b.2.2 [] v0 q) (a2, s2, code, b.1, b.2.1, b.2.2, [], (n : Int)) ∧ a1 ≤ a2 ∧ a2 ≤ a1 + 2 ∧ n ≤ 61 := by
    simp only [f_spec_l1Cur_entries_j12]
    cases q with
    | true =>
      obtain ⟨x, a2, s2, e2, b7, b8, b9, b10⟩ := e_pick' s1 2 (h.to (at2 := a1) (m := 2) (by omega) (by omega)) (by omega)
      refine ⟨a2, s2, (60 + x).toNat, ?_, b7, b8, by omega⟩
      simp only [if_true]
      refine Ev.bind e2 ?_
      rw [show (((60 + x).toNat : Nat) : Int) = wrap64 (60 + x) by rw [w64 (by omega) (by omega)]; omega]
      exact Ev.some _
    | false =>
      refine ⟨a1, s1, v0.toNat, ?_, by omega, by omega, by omega⟩
      simp only [Bool.false_eq_true, if_false]
      rw [show ((v0.toNat : Nat) : Int) = v0 by omega]
      exact Ev.some _
  obtain ⟨a2, s2, n, e2, b7, b8, b9⟩ := hj
  obtain ⟨few, a3, s3, e3, c1, c2⟩ := e_one s2 3 (h.to (at2 := a2) (m := 2) (by omega) (by omega))
  obtain ⟨m, e4, _⟩ := e_most 1 b.2.1
  obtain ⟨first, a4, s4, e5, c3, c4, _⟩ := e_pick s3 m (h.to (at2 := a3) (m := 2) (by omega) (by omega))
  obtain ⟨a5, s5, l, e6, d1, d2, d3⟩ := e_entries_0 code n (by omega) b.1 b.2.1 b.2.2 few first n [] a4 s4 (by simp) (h.to (at2 := a4) (by omega) (by omega))
  by_cases hn : (n : Int) > 0
  · obtain ⟨q2, a6, s6, e7, d4, d5⟩ := e_one s5 24 (h.to (at2 := a5) (m := 2) (by omega) (by omega))
    cases q2 with
    | false =>
      refine ⟨l, a6, s6, Ev.succ ?_, by omega, by omega, by omega⟩
      simp only [f_spec_l1Cur_entries]
      refine Ev.bind e0 (Ev.bind e1 (Ev.bind e2 (Ev.bind e3 (Ev.bind e4 (Ev.bind e5 (Ev.bind e6 ?_))))))
      simp only [hn, decide_true, if_true]
      refine Ev.bind e7 ?_
      simp only [Bool.false_eq_true, if_false]
      exact Ev.some _
    | true =>
      obtain ⟨v, a7, s7, e8, d6, d7, d8, d9⟩ := e_pick' s6 (n : Int) (h.to (at2 := a6) (m := 2) (by omega) (by omega)) hn
      obtain ⟨x, a8, s8, e9, f1, f2, _⟩ := e_among s7 [-1, b.2.1] (by simp) (h.to (at2 := a7) (m := 2) (by omega) (by omega))
      have hvl : v < (l.length : Int) := by omega
      have hg : Ev (fun k => f_spec_l1Cur_entries_g12 k a6 s6 code b.1 b.2.1 b.2.2 l (n : Int)) (a8, s8, code, List.set l v.toNat x) := by
        simp only [f_spec_l1Cur_entries_g12]
        refine Ev.bind e8 (Ev.bind e9 ?_)
        simp only [d8, hvl, if_true]
        exact Ev.some _
      refine ⟨List.set l v.toNat x, a8, s8, Ev.succ ?_, by omega, by omega, by rw [List.length_set]; omega⟩
      simp only [f_spec_l1Cur_entries]
      refine Ev.bind e0 (Ev.bind e1 (Ev.bind e2 (Ev.bind e3 (Ev.bind e4 (Ev.bind e5 (Ev.bind e6 ?_))))))
      simp only [hn, decide_true, if_true]
      refine Ev.bind e7 ?_
      simp only [if_true]
      exact Ev.bind hg (Ev.some _)
  · refine ⟨l, a5, s5, Ev.succ ?_, by omega, by omega, by omega⟩
    simp only [f_spec_l1Cur_entries]
    refine Ev.bind e0 (Ev.bind e1 (Ev.bind e2 (Ev.bind e3 (Ev.bind e4 (Ev.bind e5 (Ev.bind e6 ?_))))))
    simp only [hn, decide_false, Bool.false_eq_true, if_false]
    exact Ev.some _
end Go.Proofs.Ytgjmhbjdhihgaaa.Vs

set_option linter.unusedVariables false
set_option linter.unusedSimpArgs false
namespace Go.Proofs.Ytgjmhbjdhihgaaa.Vs
open Go.RowKit
theorem e_geared_0 (code : List Int) (n : Nat) (hn : n ≤ 1000) (b30 b31 b50 b51 : Int) (o4 : List (Int × Int)) : ∀ (d i : Nat) (acc : List (Int × Int)) (at' seed : Int), i + d = n → acc.length = n → Cur code at' (6 * d) → ∃ at2 s l, Ev (fun k => f_spec_l1Cur_geared_0 k at' seed code b30 b31 o4 b50 b51 acc (n : Int) (i : Int)) (at2, s, code, b30, b31, o4, b50, b51, l) ∧ l.length = n ∧ at' ≤ at2 ∧ at2 ≤ at' + 6 * d
  | 0, i, acc, at', seed, h, ha, hc => by
    have hlt : ¬ (i : Int) < (n : Int) := by omega
    refine ⟨at', seed, acc, Ev.succ ?_, ha, by omega, by omega⟩
    simp only [f_spec_l1Cur_geared_0, hlt, decide_false, Bool.false_eq_true, if_false]
    exact Ev.some _
  | d + 1, i, acc, at', seed, h, ha, hc => by
    have hlt : (i : Int) < (n : Int) := by omega
    have h5 : wrap64 ((i : Int) + 1) = ((i + 1 : Nat) : Int) := by rw [w64 (by omega) (by omega)]; omega
    obtain ⟨q, a1, s1, e1, b1, b2⟩ := e_one seed 2 (hc.to (at2 := at') (m := 2) (by omega) (by omega))
    cases q with
    | false =>
      obtain ⟨a3, s3, l, e3, c1, c2, c3⟩ := e_geared_0 code n hn b30 b31 b50 b51 o4 d (i + 1) acc a1 s1 (by omega) ha (hc.to (at2 := a1) (by omega) (by omega))
      refine ⟨a3, s3, l, Ev.succ ?_, c1, by omega, by omega⟩
      simp only [f_spec_l1Cur_geared_0, hlt, decide_true, if_true]
      refine Ev.bind e1 ?_
      simp only [Bool.false_eq_true, if_false, h5]
      exact e3
    | true =>
      obtain ⟨x, a2, s2, e2, b3, b4, _⟩ := e_among s1 [6, 6, 7, 0] (by simp) (hc.to (at2 := a1) (m := 2) (by omega) (by omega))
      have hia : (i : Int) < (acc.length : Int) := by omega
      have hset : (i : Int) < ((List.set acc i (x, 0)).length : Int) := by rw [List.length_set]; omega
      have hg : Ev (fun k => f_spec_l1Cur_geared_g6 k a1 s1 code b30 b31 o4 b50 b51 acc (i : Int) (n : Int) (i : Int)) (a2, s2, code, b30, b31, o4, b50, b51, List.set acc i (x, 0), (i : Int), (n : Int), (i : Int)) := by
        simp only [f_spec_l1Cur_geared_g6]
        refine Ev.bind e2 ?_
        simp only [Int.natCast_nonneg, hia, if_true, Int.toNat_natCast]
        exact Ev.some _
      have hget : List.getD (List.set acc i (x, (0 : Int))) i (0, 0) = (x, 0) := by
        simp [List.getD, List.getElem?_set, show i < acc.length by omega]
      by_cases hx : x = 6
      · subst hx
        obtain ⟨v, a3, s3, e3, b5, b6, _⟩ := e_pick' s2 2 (hc.to (at2 := a2) (m := 2) (by omega) (by omega)) (by omega)
        have hg8 : Ev (fun k => f_spec_l1Cur_geared_g8 k a2 s2 code b30 b31 o4 b50 b51 (List.set acc i (6, 0)) (i : Int) (n : Int) (i : Int)) (a3, s3, code, b30, b31, o4, b50, b51, List.set (List.set acc i (6, 0)) i (6, v), (n : Int), (i : Int)) := by
          simp only [f_spec_l1Cur_geared_g8]
          refine Ev.bind e3 ?_
          simp only [Int.natCast_nonneg, hset, if_true, Int.toNat_natCast, hget]
          exact Ev.some _
        obtain ⟨a4, s4, l, e4, c1, c2, c3⟩ := e_geared_0 code n hn b30 b31 b50 b51 o4 d (i + 1) (List.set (List.set acc i (6, 0)) i (6, v)) a3 s3 (by omega) (by rw [List.length_set, List.length_set]; exact ha) (hc.to (at2 := a3) (by omega) (by omega))
        refine ⟨a4, s4, l, Ev.succ ?_, c1, by omega, by omega⟩
        simp only [f_spec_l1Cur_geared_0, hlt, decide_true, if_true]
        refine Ev.bind e1 ?_
        simp only [if_true]
        refine Ev.bind hg ?_
        simp only [Int.natCast_nonneg, hset, if_true, Int.toNat_natCast, hget, eq_self, decide_true]
        refine Ev.bind hg8 ?_
        simp only [h5]
        exact e4
      · obtain ⟨a4, s4, l, e4, c1, c2, c3⟩ := e_geared_0 code n hn b30 b31 b50 b51 o4 d (i + 1) (List.set acc i (x, 0)) a2 s2 (by omega) (by rw [List.length_set]; exact ha) (hc.to (at2 := a2) (by omega) (by omega))
        refine ⟨a4, s4, l, Ev.succ ?_, c1, by omega, by omega⟩
        simp only [f_spec_l1Cur_geared_0, hlt, decide_true, if_true]
        refine Ev.bind e1 ?_
        simp only [if_true]
        refine Ev.bind hg ?_
        simp only [Int.natCast_nonneg, hset, if_true, Int.toNat_natCast, hget, hx, decide_false, Bool.false_eq_true, if_false, h5]
        exact e4
theorem e_geared {code : List Int} {at' : Int} (seed : Int) (h : Cur code at' 1600) : ∃ b at2 s, Ev (fun k => f_spec_l1Cur_geared k (code, at', seed)) (b, at2, s) ∧ at' ≤ at2 ∧ at2 ≤ at' + 1600 ∧ b.2.2.length ≤ 91 := by
  obtain ⟨b, a0, s0, e0, b1, b2, hl⟩ := e_anyBoard seed (h.to (at2 := at') (by omega) (by omega))
  obtain ⟨a1, s1, l, e1, c1, c2, c3⟩ := e_geared_0 code b.2.2.length (by omega) 0 0 b.1 b.2.1 [] b.2.2.length 0 b.2.2 a0 s0 (by omega) rfl (h.to (at2 := a0) (by omega) (by omega))
  refine ⟨(b.1, b.2.1, l), a1, s1, Ev.succ ?_, by omega, by omega, by dsimp only; omega⟩
  simp only [f_spec_l1Cur_geared]
  exact Ev.bind e0 (Ev.bind e1 (Ev.some _))
end Go.Proofs.Ytgjmhbjdhihgaaa.Vs

set_option linter.unusedVariables false
set_option linter.unusedSimpArgs false
namespace Go.Proofs.Ytgjmhbjdhihgaaa.Vs
open Go.RowKit
/-- From some fuel on, one value that has the property. -/
def EvP {α : Type} (f : Nat → Option α) (Q : α → Prop) : Prop := ∃ v, Ev f v ∧ Q v
section
variable {α β : Type} {f g : Nat → Option α} {Q : α → Prop} {Q1 : β → Prop}
theorem EvP.some {v : α} (h : Q v) : EvP (fun _ => some v) Q := ⟨v, Ev.some v, h⟩
theorem EvP.succ (h : EvP (fun k => f (k + 1)) Q) : EvP f Q := by
  obtain ⟨v, h1, h2⟩ := h
  exact ⟨v, Ev.succ h1, h2⟩
theorem EvP.bind {x : Nat → Option β} {y : β → Nat → Option α} (h : EvP x Q1) (h2 : ∀ a, Q1 a → EvP (y a) Q) : EvP (fun k => Option.bind (x k) fun z => y z k) Q := by
  obtain ⟨a, h1, h3⟩ := h
  obtain ⟨v, h4, h5⟩ := h2 a h3
  exact ⟨v, Ev.bind h1 h4, h5⟩
theorem EvP.ite {c : Prop} [Decidable c] (h1 : c → EvP f Q) (h2 : ¬ c → EvP g Q) : EvP (fun k => if c then f k else g k) Q := by
  by_cases hc : c
  · simp only [if_pos hc]; exact h1 hc
  · simp only [if_neg hc]; exact h2 hc
theorem EvP.guard {c : Prop} [Decidable c] (hc : c) (h : EvP f Q) : EvP (fun k => if c then f k else none) Q := by
  simp only [if_pos hc]; exact h
theorem EvP.mono {Q' : α → Prop} (h : EvP f Q) (hq : ∀ v, Q v → Q' v) : EvP f Q' := by
  obtain ⟨v, h1, h2⟩ := h
  exact ⟨v, h1, hq v h2⟩
theorem EvP.ev {v : α} (h : Ev f v) (hq : Q v) : EvP f Q := ⟨v, h, hq⟩
end
section
variable {code : List Int} {at' seed : Int}
theorem p_pick (n : Int) (h : Cur code at' 2) (hn : 0 < n) : EvP (fun k => f_spec_l1Cur_pick k (code, at', seed) n) (fun r => at' ≤ r.2.1 ∧ r.2.1 ≤ at' + 2 ∧ 0 ≤ r.1 ∧ r.1 < n) := by
  obtain ⟨v, a, s, e, h1, h2, h3, h4⟩ := e_pick' seed n h hn
  exact ⟨_, e, h1, h2, h3, h4⟩
theorem p_pick0 (n : Int) (h : Cur code at' 2) : EvP (fun k => f_spec_l1Cur_pick k (code, at', seed) n) (fun r => at' ≤ r.2.1 ∧ r.2.1 ≤ at' + 2 ∧ 0 ≤ r.1) := by
  obtain ⟨v, a, s, e, h1, h2, h3, _⟩ := e_pick seed n h
  exact ⟨_, e, h1, h2, h3⟩
theorem p_one (n : Int) (h : Cur code at' 2) : EvP (fun k => f_spec_l1Cur_one k (code, at', seed) n) (fun r => at' ≤ r.2.1 ∧ r.2.1 ≤ at' + 2) := by
  obtain ⟨v, a, s, e, h1, h2⟩ := e_one seed n h
  exact ⟨_, e, h1, h2⟩
theorem p_among (l : List Int) (hl : 0 < l.length) (h : Cur code at' 2) : EvP (fun k => f_spec_l1Cur_among k (code, at', seed) l) (fun r => at' ≤ r.2.1 ∧ r.2.1 ≤ at' + 2 ∧ r.1 ∈ l) := by
  obtain ⟨v, a, s, e, h1, h2, h3⟩ := e_among seed l hl h
  exact ⟨_, e, h1, h2, h3⟩
theorem p_cell (h : Cur code at' 2) : EvP (fun k => f_spec_l1Cur_cell k (code, at', seed)) (fun r => at' ≤ r.2.1 ∧ r.2.1 ≤ at' + 2) := by
  obtain ⟨x, a, s, e, h1, h2⟩ := e_cell seed h
  exact ⟨_, e, h1, h2⟩
theorem p_anyBoard (h : Cur code at' 1040) : EvP (fun k => f_spec_l1Cur_anyBoard k (code, at', seed)) (fun r => at' ≤ r.2.1 ∧ r.2.1 ≤ at' + 1040 ∧ r.1.2.2.length ≤ 91) := by
  obtain ⟨x, a, s, e, h1, h2, h3⟩ := e_anyBoard seed h
  exact ⟨_, e, h1, h2, h3⟩
theorem p_geared (h : Cur code at' 1600) : EvP (fun k => f_spec_l1Cur_geared k (code, at', seed)) (fun r => at' ≤ r.2.1 ∧ r.2.1 ≤ at' + 1600 ∧ r.1.2.2.length ≤ 91) := by
  obtain ⟨x, a, s, e, h1, h2, h3⟩ := e_geared seed h
  exact ⟨_, e, h1, h2, h3⟩
end
end Go.Proofs.Ytgjmhbjdhihgaaa.Vs

set_option linter.unusedVariables false
set_option linter.unusedSimpArgs false
namespace Go.Proofs.Ytgjmhbjdhihgaaa.Vs
open Go.RowKit
theorem two64 : (2 : Int) ^ 64 = 18446744073709551616 := by decide
theorem and1 (x : Int) : bits BinOp.and IntKind.i64 x 1 = 0 ∨ bits BinOp.and IntKind.i64 x 1 = 1 := by
  unfold bits
  simp only
  have h : ((BitVec.ofInt IntKind.i64.bits x &&& BitVec.ofInt IntKind.i64.bits 1).toNat) ≤ 1 := by
    rw [BitVec.toNat_and]
    exact Nat.and_le_right
  generalize (BitVec.ofInt IntKind.i64.bits x &&& BitVec.ofInt IntKind.i64.bits 1).toNat = m at h
  have : m = 0 ∨ m = 1 := by omega
  rcases this with rfl | rfl
  · left; decide
  · right; decide
theorem p_ttBit (s v : Int) (h0 : 0 ≤ v) (h1 : v ≤ 100) : EvP (fun k => f_spec_ttBit k s v) (fun b => b = 0 ∨ b = 1) := by
  refine EvP.succ ?_
  have hw : IntKind.wrap IntKind.u64 v = v := wrap_u64_in v h0 (by rw [two64]; omega)
  have hn : ¬ v < 0 := by omega
  simp only [f_spec_ttBit, hw, hn, if_false]
  exact EvP.some (and1 _)
theorem p_bcBoard_0 (n : Nat) (hn : n ≤ 4) (set d1 d2 e1 e2 : Int) (o2 : List CellD) : ∀ (d i : Nat) (o : List CellD), i + d = n → o.length = 6 * n → (∀ x ∈ o, cellOK x = true) →
    EvP (fun k => f_spec_bcBoard_0 k d1 d2 o2 e1 e2 o (n : Int) set (i : Int)) (fun r => r.2.2.2.1 = e1 ∧ r.2.2.2.2.1 = e2 ∧ r.2.2.2.2.2.length = 6 * n ∧ ∀ x ∈ r.2.2.2.2.2, cellOK x = true)
  | 0, i, o, h, ho, hx => by
    refine EvP.succ ?_
    have hlt : ¬ (i : Int) < (n : Int) := by omega
    simp only [f_spec_bcBoard_0, hlt, decide_false, Bool.false_eq_true, if_false]
    exact EvP.some ⟨rfl, rfl, ho, hx⟩
  | d + 1, i, o, h, ho, hx => by
    refine EvP.succ ?_
    have hlt : (i : Int) < (n : Int) := by omega
    have w1 : wrap64 (wrap64 (6 * (i : Int)) + 1) = ((6 * i + 1 : Nat) : Int) := by rw [w64 (n := 6 * (i : Int)) (by omega) (by omega), w64 (by omega) (by omega)]; omega
    have w2 : wrap64 (wrap64 (6 * (i : Int)) + 5) = ((6 * i + 5 : Nat) : Int) := by rw [w64 (n := 6 * (i : Int)) (by omega) (by omega), w64 (by omega) (by omega)]; omega
    have w3 : wrap64 ((i : Int) + 1) = ((i + 1 : Nat) : Int) := by rw [w64 (by omega) (by omega)]; omega
    simp only [f_spec_bcBoard_0, hlt, decide_true, if_true, w1, w2, w3, Int.toNat_natCast]
    refine EvP.bind (p_ttBit set (i : Int) (by omega) (by omega)) (fun z hz => ?_)
    refine EvP.guard (by omega) (EvP.guard (by omega) (EvP.guard (by omega) (EvP.guard (by rw [List.length_set]; omega) ?_)))
    refine p_bcBoard_0 n hn set d1 d2 e1 e2 o2 d (i + 1) _ (by omega) (by rw [List.length_set, List.length_set]; exact ho) (fun x hx' => ?_)
    rcases List.mem_or_eq_of_mem_set hx' with h1 | rfl
    · rcases List.mem_or_eq_of_mem_set h1 with h2 | rfl
      · exact hx x h2
      · rcases hz with rfl | rfl <;> decide
    · decide
theorem p_bcBoard (n set : Int) (h1 : 1 ≤ n) (h4 : n ≤ 4) : EvP (fun k => f_spec_bcBoard k n set) (fun b => b.1 = 2 * n ∧ b.2.1 = 3 ∧ (b.2.2.length : Int) = 6 * n ∧ ∀ x ∈ b.2.2, cellOK x = true) := by
  refine EvP.succ ?_
  have w1 : wrap64 (6 * n) = 6 * n := w64 (by omega) (by omega)
  have w2 : wrap64 (2 * n) = 2 * n := w64 (by omega) (by omega)
  obtain ⟨m, rfl⟩ : ∃ m : Nat, n = (m : Int) := ⟨n.toNat, by omega⟩
  simp only [f_spec_bcBoard, w1, w2]
  refine EvP.guard (by omega) (EvP.guard (by omega) ?_)
  refine EvP.bind (p_bcBoard_0 m (by omega) set 0 0 (2 * (m : Int)) 3 [] m 0 (List.replicate (6 * (m : Int)).toNat (0, 0)) (by omega) (by rw [List.length_replicate]; omega) (fun x hx => by rw [(List.mem_replicate.1 hx).2]; decide)) (fun r hr => ?_)
  exact EvP.some ⟨hr.1, hr.2.1, by have := hr.2.2.1; dsimp only; omega, hr.2.2.2⟩
theorem p_paMirror (x : CellD) (h : cellOK x = true) : EvP (fun k => f_spec_paMirror k x) (fun _ => True) := by
  refine EvP.succ ?_
  simp only [f_spec_paMirror]
  refine EvP.ite (fun _ => EvP.some trivial) (fun _ => EvP.ite (fun _ => EvP.some trivial) (fun _ => EvP.ite (fun _ => ?_) (fun _ => EvP.ite (fun _ => ?_) (fun _ => EvP.some trivial))))
  · exact EvP.bind (EvP.ev (Q := fun _ => True) (e_spec_paTurn x h) trivial) (fun _ _ => EvP.some trivial)
  · exact EvP.bind (EvP.ev (Q := fun _ => True) (e_spec_paTurn x h) trivial) (fun _ _ => EvP.some trivial)
theorem p_boAt (b : BoardD) (m c r q : Nat) (h1 : b.2.1 = (c : Int)) (h2 : b.2.2.length = m * c) (hr : r < m) (hq : q < c) (hs : m * c ≤ 1000) (hx : ∀ x ∈ b.2.2, cellOK x = true) : EvP (fun k => f_spec_boAt k b (r : Int) (q : Int)) (fun x => cellOK x = true) := by
  refine EvP.succ ?_
  have hlt : r * c + q < m * c := by
    have : (r + 1) * c ≤ m * c := Nat.mul_le_mul_right _ hr
    rw [Nat.add_mul, Nat.one_mul] at this
    omega
  have e1 : (r : Int) * (c : Int) = ((r * c : Nat) : Int) := (Int.natCast_mul r c).symm
  have w : wrap64 (wrap64 ((r : Int) * (c : Int)) + (q : Int)) = ((r * c + q : Nat) : Int) := by
    rw [e1, w64 (n := ((r * c : Nat) : Int)) (by omega) (by omega), w64 (by omega) (by omega)]; omega
  simp only [f_spec_boAt, h1, w, Int.toNat_natCast]
  refine EvP.guard (by omega) (EvP.guard (by rw [h2]; omega) (EvP.some ?_))
  have hl : r * c + q < b.2.2.length := by rw [h2]; exact hlt
  rw [List.getD, List.getElem?_eq_getElem hl]
  exact hx _ (List.getElem_mem hl)
theorem p_boMirror_2 (b : BoardD) (m c : Nat) (h1 : b.2.1 = (c : Int)) (h2 : b.2.2.length = m * c) (hs : m * c ≤ 1000) (hx : ∀ x ∈ b.2.2, cellOK x = true) (r : Nat) (hr : r < m) (d1 d2 e1 e2 : Int) (o3 : List CellD) : ∀ (q : Nat) (o : List CellD), q ≤ c → o.length + q ≤ 1000 →
    EvP (fun k => f_spec_boMirror_2 k b.1 b.2.1 b.2.2 d1 d2 o3 e1 e2 o (r : Int) ((q : Int) - 1)) (fun z => ∃ l, z = (b.1, b.2.1, b.2.2, d1, d2, o3, e1, e2, l, (r : Int)) ∧ l.length = o.length + q)
  | 0, o, hq, hl => by
    refine EvP.succ ?_
    have hlt : ¬ ((0 : Nat) : Int) - 1 ≥ 0 := by omega
    simp only [f_spec_boMirror_2, hlt, decide_false, Bool.false_eq_true, if_false]
    exact EvP.some ⟨o, rfl, rfl⟩
  | q + 1, o, hq, hl => by
    refine EvP.succ ?_
    have e0 : (((q + 1 : Nat) : Int) - 1) = (q : Int) := by omega
    have hge : (q : Int) ≥ 0 := by omega
    have w : wrap64 ((q : Int) - 1) = (q : Int) - 1 := by
      have : c ≤ 1000 := by
        have : 1 * c ≤ m * c := Nat.mul_le_mul_right _ (by omega)
        omega
      exact w64 (by omega) (by omega)
    simp only [f_spec_boMirror_2, e0, hge, decide_true, if_true, w]
    refine EvP.bind (p_boAt b m c r q h1 h2 hr (by omega) hs hx) (fun z hz => ?_)
    refine EvP.bind (p_paMirror _ hz) (fun y _ => ?_)
    refine EvP.guard (by simp only [List.length_cons, List.length_nil]; omega) ?_
    refine (p_boMirror_2 b m c h1 h2 hs hx r hr d1 d2 e1 e2 o3 q _ (by omega) (by simp; omega)).mono (fun z ⟨l, hz1, hz2⟩ => ⟨l, hz1, ?_⟩)
    rw [hz2]
    simp
    omega
theorem p_boMirror_0 (b : BoardD) (m c : Nat) (h0 : b.1 = (m : Int)) (h1 : b.2.1 = (c : Int)) (h2 : b.2.2.length = m * c) (hs : m * c ≤ 1000) (hm : m ≤ 1000) (hc : c ≤ 1000) (hx : ∀ x ∈ b.2.2, cellOK x = true) (d1 d2 e1 e2 : Int) (o3 : List CellD) : ∀ (d r : Nat) (o : List CellD), r + d = m → o.length + d * c ≤ 1000 →
    EvP (fun k => f_spec_boMirror_0 k b.1 b.2.1 b.2.2 d1 d2 o3 e1 e2 o (r : Int)) (fun z => ∃ l, z = (d1, d2, o3, e1, e2, l) ∧ l.length = o.length + d * c)
  | 0, r, o, h, hl => by
    refine EvP.succ ?_
    have hlt : ¬ (r : Int) < b.1 := by omega
    simp only [f_spec_boMirror_0, hlt, decide_false, Bool.false_eq_true, if_false]
    exact EvP.some ⟨o, rfl, by simp⟩
  | d + 1, r, o, h, hl => by
    refine EvP.succ ?_
    have hlt : (r : Int) < b.1 := by omega
    have e0 : (d + 1) * c = d * c + c := by rw [Nat.add_mul, Nat.one_mul]
    have w : wrap64 (b.2.1 - 1) = (c : Int) - 1 := by rw [h1]; exact w64 (by omega) (by omega)
    have w2 : wrap64 ((r : Int) + 1) = ((r + 1 : Nat) : Int) := by rw [w64 (by omega) (by omega)]; omega
    simp only [f_spec_boMirror_0, hlt, decide_true, if_true, w]
    refine EvP.bind (p_boMirror_2 b m c h1 h2 hs hx r (by omega) d1 d2 e1 e2 o3 c o (Nat.le_refl _) (by omega)) (fun z ⟨l, hz, hl2⟩ => ?_)
    subst hz
    dsimp only
    rw [w2]
    refine (p_boMirror_0 b m c h0 h1 h2 hs hm hc hx d1 d2 e1 e2 o3 d (r + 1) l (by omega) (by omega)).mono (fun z ⟨l2, hz1, hz2⟩ => ⟨l2, hz1, by omega⟩)
theorem p_boMirror (b : BoardD) (m c : Nat) (h0 : b.1 = (m : Int)) (h1 : b.2.1 = (c : Int)) (h2 : b.2.2.length = m * c) (hs : m * c ≤ 1000) (hm : m ≤ 1000) (hc : c ≤ 1000) (hx : ∀ x ∈ b.2.2, cellOK x = true) : EvP (fun k => f_spec_boMirror k b) (fun z => z.2.2.length = m * c) := by
  refine EvP.succ ?_
  simp only [f_spec_boMirror]
  refine EvP.bind (p_boMirror_0 b m c h0 h1 h2 hs hm hc hx 0 0 b.1 b.2.1 [] m 0 [] (by omega) (by simpa using hs)) (fun z ⟨l, hz, hl⟩ => ?_)
  subst hz
  exact EvP.some (by simpa using hl)
section
variable {code : List Int} {at' seed : Int}
theorem p_counted (h : Cur code at' 2000) : EvP (fun k => f_spec_l1Cur_counted k (code, at', seed)) (fun r => at' ≤ r.2.1 ∧ r.2.1 ≤ at' + 2000 ∧ r.1.2.2.length ≤ 91) := by
  refine EvP.succ ?_
  simp only [f_spec_l1Cur_counted]
  refine EvP.bind (p_pick 4 (h.to (by omega) (by omega)) (by omega)) (fun z0 h0 => ?_)
  have w0 : wrap64 (1 + z0.1) = 1 + z0.1 := w64 (by omega) (by omega)
  have w1 : IntKind.wrap IntKind.u64 (1 + z0.1) = 1 + z0.1 := wrap_u64_in _ (by omega) (by rw [two64]; omega)
  have hn : ¬ (1 + z0.1 < 0) := by omega
  simp only [w0, w1, hn, if_false]
  refine EvP.bind (p_pick0 _ (h.to (by omega) (by omega))) (fun z1 h1 => ?_)
  refine EvP.bind (p_bcBoard _ _ (by omega) (by omega)) (fun z2 h2 => ?_)
  refine EvP.bind (p_pick 6 (h.to (by omega) (by omega)) (by omega)) (fun z3 h3 => ?_)
  refine EvP.ite (fun _ => ?_) (fun _ => EvP.ite (fun _ => ?_) (fun _ => EvP.ite (fun _ => ?_) (fun _ => EvP.ite (fun _ => ?_) (fun _ => ?_))))
  · refine EvP.bind (p_anyBoard (h.to (by omega) (by omega))) (fun z4 h4 => ?_)
    exact EvP.some ⟨by dsimp only; omega, by dsimp only; omega, h4.2.2⟩
  · refine EvP.bind (Q1 := fun z => at' ≤ z.1 ∧ z.1 ≤ at' + 2000 ∧ z.2.2.2.2.2.2.2.2.length ≤ 91) ?_ (fun z4 h4 => EvP.some h4)
    simp only [f_spec_l1Cur_counted_g7]
    refine EvP.bind (p_pick _ (h.to (by omega) (by omega)) (by omega)) (fun z5 h5 => ?_)
    refine EvP.bind (p_cell (h.to (by omega) (by omega))) (fun z6 h6 => ?_)
    refine EvP.guard (by omega) (EvP.guard (by omega) (EvP.some ⟨by dsimp only; omega, by dsimp only; omega, ?_⟩))
    dsimp only
    rw [List.length_set]
    omega
  · obtain ⟨m, hm⟩ : ∃ m : Nat, z2.1 = (m : Int) := ⟨z2.1.toNat, by omega⟩
    refine EvP.bind (p_boMirror z2 m 3 hm h2.2.1 (by omega) (by omega) (by omega) (by omega) h2.2.2.2) (fun z4 h4 => ?_)
    exact EvP.some ⟨by dsimp only; omega, by dsimp only; omega, by dsimp only; omega⟩
  · refine EvP.bind (p_geared (h.to (by omega) (by omega))) (fun z4 h4 => ?_)
    exact EvP.some ⟨by dsimp only; omega, by dsimp only; omega, h4.2.2⟩
  · exact EvP.some ⟨by dsimp only; omega, by dsimp only; omega, by dsimp only; omega⟩
end
end Go.Proofs.Ytgjmhbjdhihgaaa.Vs

set_option linter.unusedVariables false
set_option linter.unusedSimpArgs false
namespace Go.Proofs.Ytgjmhbjdhihgaaa.Vs
open Go.RowKit
def kindsAt (C i : Int) (x : CellD) : List FaultD := ([1, 2, 3].filter (fits x)).map fun kd => (kd, Int.tdiv i C, Int.tmod i C)
/-- All faults that the cells can have, by their cells, then by their kinds. -/
def possFrom (C : Int) : Int → List CellD → List FaultD
  | _, [] => []
  | i, x :: r => kindsAt C i x ++ possFrom C (i + 1) r
theorem kindsAt_len (C i : Int) (x : CellD) : (kindsAt C i x).length ≤ 3 := by
  unfold kindsAt
  rw [List.length_map]
  exact Nat.le_trans (List.length_filter_le _ _) (by simp)
theorem possFrom_len (C : Int) : ∀ (r : List CellD) (i : Int), (possFrom C i r).length ≤ 3 * r.length
  | [], _ => by simp [possFrom]
  | x :: r, i => by
    have h1 := kindsAt_len C i x
    have h2 := possFrom_len C r (i + 1)
    simp only [possFrom, List.length_append, List.length_cons]
    omega
theorem tdiv_in {i C : Int} (hi : 0 ≤ i) (hC : 1 ≤ C) : 0 ≤ Int.tdiv i C ∧ Int.tdiv i C ≤ i := by
  rw [Int.tdiv_eq_ediv_of_nonneg hi]
  exact ⟨Int.ediv_nonneg hi (by omega), Int.ediv_le_self _ hi⟩
theorem e_spec_faPossible_2_step (R C : Int) (cs : List CellD) (x : CellD) (i kd : Int) (hi : 0 ≤ i) (hi2 : i ≤ 90) (hC : 1 ≤ C) (hk : 1 ≤ kd) (hk2 : kd ≤ 3) (v8 : List CellD) (v9 v10 : Int) (o : List FaultD) (ho : o.length ≤ 1000) (z : Int × Int × List CellD × List FaultD × List CellD × Int × Int)
    (h : Ev (fun k => f_spec_faPossible_2 k R C cs (if fits x kd then o ++ [(kd, Int.tdiv i C, Int.tmod i C)] else o) x.1 x.2 i (kd + 1) v8 v9 v10) z) : Ev (fun k => f_spec_faPossible_2 k R C cs o x.1 x.2 i kd v8 v9 v10) z := by
  have hd := tdiv_in hi hC
  have hC0 : ¬ C = 0 := by omega
  have hlen : o.length + 1 ≤ 5864062014805 := by omega
  refine Ev.succ ?_
  simp only [f_spec_faPossible_2, hk2, decide_true, if_true]
  rw [w64 (n := kd + 1) (by omega) (by omega), w64 (n := Int.tdiv i C) (by omega) (by omega)]
  refine Ev.bind (e_spec_faFits x kd) ?_
  cases hf : fits x kd with
  | true =>
    simp only [hf, if_true] at h
    simp only [if_true, hC0, if_false, List.length_singleton]
    have : o.length + 1 ≤ 140737488355328 / 24 := by omega
    simp only [this, if_true]
    exact h
  | false =>
    simp only [hf, Bool.false_eq_true, if_false] at h
    simp only [Bool.false_eq_true, if_false]
    exact h
theorem e_spec_faPossible_2 (R C : Int) (cs : List CellD) (x : CellD) (i : Int) (hi : 0 ≤ i) (hi2 : i ≤ 90) (hC : 1 ≤ C) (v8 : List CellD) (v9 v10 : Int) (o : List FaultD) (ho : o.length ≤ 900) : Ev (fun k => f_spec_faPossible_2 k R C cs o x.1 x.2 i 1 v8 v9 v10) (R, C, cs, o ++ kindsAt C i x, v8, v9, v10) := by
  have e1 : (if fits x 1 then o ++ [(1, Int.tdiv i C, Int.tmod i C)] else o) = o ++ (if fits x 1 then [(1, Int.tdiv i C, Int.tmod i C)] else []) := by split <;> simp
  refine e_spec_faPossible_2_step R C cs x i 1 hi hi2 hC (by omega) (by omega) v8 v9 v10 o (by omega) _ ?_
  rw [e1]
  generalize h1 : (if fits x 1 then [((1 : Int), Int.tdiv i C, Int.tmod i C)] else []) = o1
  have l1 : o1.length ≤ 1 := by rw [← h1]; split <;> simp
  refine e_spec_faPossible_2_step R C cs x i 2 hi hi2 hC (by omega) (by omega) v8 v9 v10 _ (by simp; omega) _ ?_
  have e2 : (if fits x 2 then (o ++ o1) ++ [(2, Int.tdiv i C, Int.tmod i C)] else o ++ o1) = (o ++ o1) ++ (if fits x 2 then [(2, Int.tdiv i C, Int.tmod i C)] else []) := by split <;> simp
  rw [e2]
  generalize h2 : (if fits x 2 then [((2 : Int), Int.tdiv i C, Int.tmod i C)] else []) = o2
  have l2 : o2.length ≤ 1 := by rw [← h2]; split <;> simp
  refine e_spec_faPossible_2_step R C cs x i 3 hi hi2 hC (by omega) (by omega) v8 v9 v10 _ (by simp; omega) _ ?_
  refine Ev.succ ?_
  simp only [f_spec_faPossible_2]
  have h4 : ¬ (3 + 1 : Int) ≤ 3 := by omega
  simp only [h4, decide_false, Bool.false_eq_true, if_false]
  refine Ev.of ?_
  rw [← h1, ← h2]
  unfold kindsAt
  cases f1 : fits x 1 <;> cases f2 : fits x 2 <;> cases f3 : fits x 3 <;> simp [List.filter, f1, f2, f3]
theorem e_spec_faPossible_0 (R C : Int) (hC : 1 ≤ C) (cs : List CellD) : ∀ (r pre : List CellD) (o : List FaultD), (pre ++ r).length ≤ 90 → o.length ≤ 3 * pre.length → Ev (fun k => f_spec_faPossible_0 k R C cs o (pre ++ r) ((pre ++ r).length : Int) (pre.length : Int)) (o ++ possFrom C pre.length r)
  | [], pre, o, hl, ho => by
    refine Ev.succ ?_
    simp only [f_spec_faPossible_0, nlt_end, decide_false, Bool.false_eq_true, if_false, possFrom]
    rw [List.append_nil o]
    exact Ev.some _
  | x :: r, pre, o, hl, ho => by
    have hl2 := hl
    simp only [List.length_append, List.length_cons] at hl2
    have hka : (kindsAt C pre.length x).length ≤ 3 := kindsAt_len _ _ _
    have ih := e_spec_faPossible_0 R C hC cs r (pre ++ [x]) (o ++ kindsAt C pre.length x) (by simpa using hl) (by simp; omega)
    refine Ev.succ ?_
    simp only [f_spec_faPossible_0, lt_mid, ge_mid, decide_true, if_true, Int.toNat_natCast, getD_mid]
    refine Ev.bind (e_spec_faPossible_2 R C cs x (pre.length : Int) (by omega) (by omega) hC (pre ++ x :: r) ((pre ++ x :: r).length : Int) (pre.length : Int) o (by omega)) ?_
    show Ev (fun k => f_spec_faPossible_0 k R C cs (o ++ kindsAt C pre.length x) (pre ++ x :: r) ((pre ++ x :: r).length : Int) (wrap64 ((pre.length : Int) + 1))) _
    rw [next_mid pre x r (by omega)]
    rw [← shift_mid] at ih
    refine ih.congr ?_
    simp [possFrom]
theorem e_spec_faPossible (b : BoardD) (hb : boardOK b = true) : Ev (fun k => f_spec_faPossible k b) (possFrom b.2.1 0 b.2.2) := by
  obtain ⟨g1, g2, g3, g4, g5, g6⟩ := board_ok hb
  have hp := prod_small g1 g2 g3 g4
  refine Ev.succ ?_
  simp only [f_spec_faPossible]
  exact Ev.bind (e_spec_faPossible_0 b.1 b.2.1 g3 b.2.2 b.2.2 [] [] (by simp; omega) (by simp)) (Ev.some _)
/-! ### What lies behind a possible fault -/
theorem poss_count {b : BoardD} (hb : boardOK b = true) : (possFrom b.2.1 0 b.2.2).length ≤ 270 := by
  obtain ⟨g1, g2, g3, g4, g5, g6⟩ := board_ok hb
  have hpp := prod_small g1 g2 g3 g4
  have := possFrom_len b.2.1 b.2.2 0
  omega
end Go.Proofs.Ytgjmhbjdhihgaaa.Vs

set_option linter.unusedVariables false
set_option linter.unusedSimpArgs false
namespace Go.Proofs.Ytgjmhbjdhihgaaa.Vs
open Go.RowKit
section
variable {code : List Int} {at' seed : Int}
theorem p_entries (b : BoardD) (h : Cur code at' 140) : EvP (fun k => f_spec_l1Cur_entries k (code, at', seed) b) (fun r => r.1.length ≤ 61 ∧ at' ≤ r.2.1 ∧ r.2.1 ≤ at' + 140) := by
  obtain ⟨v, a, s, e, h1, h2, h3⟩ := e_entries seed b h
  exact ⟨_, e, h3, h1, h2⟩
theorem p_columnOf (b : BoardD) (h : Cur code at' 6) : EvP (fun k => f_spec_l1Cur_columnOf k (code, at', seed) b) (fun r => at' ≤ r.2.1 ∧ r.2.1 ≤ at' + 6) := by
  obtain ⟨v, a, s, e, h1, h2⟩ := e_columnOf seed b h
  exact ⟨_, e, h1, h2⟩
theorem p_faulty_2 (a1 a2 : Int) (code : List Int) (c0 c1 : Int) (o4 : List CellD) (d0 d1 : Int) (o6 : List CellD) (o7 o8 : List FaultD) (f0 f1 f2 n : Int) (hl : o8.length ≤ 1000000) : ∀ (d i : Nat), i + d = o8.length →
    EvP (fun k => f_spec_l1Cur_faulty_2 k a1 a2 code c0 c1 o4 d0 d1 o6 o7 o8 f0 f1 f2 n (i : Int)) (fun z => ∃ j : Nat, z = (a1, a2, code, c0, c1, o4, d0, d1, o6, o7, o8, n, (j : Int)) ∧ j ≤ o8.length)
  | 0, i, h => by
    refine EvP.succ ?_
    have hlt : ¬ (i : Int) < (o8.length : Int) := by omega
    simp only [f_spec_l1Cur_faulty_2, hlt, decide_false, Bool.false_eq_true, if_false]
    exact EvP.some ⟨i, rfl, by omega⟩
  | d + 1, i, h => by
    refine EvP.succ ?_
    have hlt : (i : Int) < (o8.length : Int) := by omega
    have h0 : (0 : Int) ≤ (i : Int) := by omega
    have w : wrap64 ((i : Int) + 1) = ((i + 1 : Nat) : Int) := by rw [w64 (by omega) (by omega)]; omega
    have ih := p_faulty_2 a1 a2 code c0 c1 o4 d0 d1 o6 o7 o8 f0 f1 f2 n hl d (i + 1) (by omega)
    simp only [f_spec_l1Cur_faulty_2, hlt, h0, decide_true, if_true, w]
    refine EvP.ite (fun _ => ih) (fun _ => EvP.ite (fun _ => EvP.ite (fun _ => ih) (fun _ => ?_)) (fun _ => ?_))
    · exact EvP.some ⟨i, rfl, by omega⟩
    · exact EvP.some ⟨i, rfl, by omega⟩
theorem p_faulty_0 (code : List Int) (c0 c1 : Int) (o4 : List CellD) (d0 d1 : Int) (o6 : List CellD) (o8 : List FaultD) (n : Int) (hl : o8.length ≤ 1000) : ∀ (d : Nat) (o7 : List FaultD) (i : Nat) (at' seed : Int), n ≤ ((o7.length + d : Nat) : Int) → o7.length + d ≤ 1000 → i ≤ o8.length → Cur code at' (2 * d) →
    EvP (fun k => f_spec_l1Cur_faulty_0 k at' seed code c0 c1 o4 d0 d1 o6 o7 o8 n (i : Int)) (fun z => ∃ a s l, z = (a, s, code, c0, c1, o4, d0, d1, o6, l) ∧ l.length ≤ o7.length + d ∧ at' ≤ a ∧ a ≤ at' + 2 * d)
  | 0, o7, i, at', seed, h, h7, hi, hc => by
    refine EvP.succ ?_
    have hlt : ¬ (o7.length : Int) < n := by omega
    simp only [f_spec_l1Cur_faulty_0, hlt, decide_false, Bool.false_eq_true, if_false]
    exact EvP.some ⟨at', seed, o7, rfl, by omega, by omega, by omega⟩
  | d + 1, o7, i, at', seed, h, h7, hi, hc => by
    refine EvP.succ ?_
    simp only [f_spec_l1Cur_faulty_0, decide_eq_true_eq]
    refine EvP.ite (fun g1 => EvP.ite (fun g2 => ?_) (fun _ => ?_)) (fun _ => ?_)
    · have w : wrap64 ((o8.length : Int) - (i : Int)) = (o8.length : Int) - (i : Int) := w64 (by omega) (by omega)
      rw [w]
      refine EvP.bind (p_pick _ (hc.to (by omega) (by omega)) (by omega)) (fun z hz => ?_)
      have w2 : wrap64 ((i : Int) + z.1) = (i : Int) + z.1 := w64 (by omega) (by omega)
      rw [w2]
      refine EvP.guard (by omega) (EvP.guard (by omega) ?_)
      refine EvP.bind (Q1 := fun y => ∃ f : FaultD, y = (z.2.1, z.2.2, code, c0, c1, o4, d0, d1, o6, o7, o8, f.1, f.2.1, f.2.2, n, (i : Int))) ?_ (fun y hy => ?_)
      · simp only [f_spec_l1Cur_faulty_j57]
        refine EvP.ite (fun _ => EvP.guard (by omega) (EvP.guard g2 (EvP.some ⟨_, rfl⟩))) (fun _ => EvP.some ⟨(_, _, _), rfl⟩)
      · obtain ⟨f, rfl⟩ := hy
        dsimp only
        refine EvP.guard (by simp only [List.length_cons, List.length_nil]; omega) ?_
        refine EvP.bind (p_faulty_2 z.2.1 z.2.2 code c0 c1 o4 d0 d1 o6 (o7 ++ [(f.1, f.2.1, f.2.2)]) o8 f.1 f.2.1 f.2.2 n (by omega) (o8.length - i) i (by omega)) (fun y hy => ?_)
        obtain ⟨j, rfl, hj⟩ := hy
        dsimp only
        refine (p_faulty_0 code c0 c1 o4 d0 d1 o6 o8 n hl d (o7 ++ [(f.1, f.2.1, f.2.2)]) j z.2.1 z.2.2 (by simp; omega) (by simp; omega) hj (hc.to (by omega) (by omega))).mono (fun y hy => ?_)
        obtain ⟨a, s, l, e1, e2, e3, e4⟩ := hy
        simp only [List.length_append, List.length_cons, List.length_nil] at e2
        exact ⟨a, s, l, e1, by omega, by omega, by omega⟩
    · exact EvP.some ⟨at', seed, o7, rfl, by omega, by omega, by omega⟩
    · exact EvP.some ⟨at', seed, o7, rfl, by omega, by omega, by omega⟩
theorem p_faulty (h : Cur code at' 5000) : EvP (fun k => f_spec_l1Cur_faulty k (code, at', seed)) (fun r => r.1.2.2.length ≤ 91 ∧ r.2.1.length ≤ 5 ∧ at' ≤ r.2.2.1 ∧ r.2.2.1 ≤ at' + 5000) := by
  refine EvP.succ ?_
  simp only [f_spec_l1Cur_faulty]
  refine EvP.bind (p_anyBoard (h.to (by omega) (by omega))) (fun z0 h0 => ?_)
  refine EvP.bind (p_one 3 (h.to (by omega) (by omega))) (fun z1 h1 => ?_)
  refine EvP.bind (Q1 := fun z => ∃ a s : Int, ∃ b : BoardD, z = (a, s, code, 0, 0, [], b.1, b.2.1, b.2.2) ∧ at' ≤ a ∧ a ≤ at' + 3042 ∧ b.2.2.length ≤ 91) ?_ (fun z hz => ?_)
  · simp only [f_spec_l1Cur_faulty_j14]
    refine EvP.ite (fun _ => ?_) (fun _ => EvP.some ⟨z1.2.1, z1.2.2, z0.1, rfl, by omega, by omega, h0.2.2⟩)
    exact EvP.bind (p_counted (h.to (by omega) (by omega))) (fun z2 h2 => EvP.some ⟨z2.2.1, z2.2.2, z2.1, rfl, by omega, by omega, h2.2.2⟩)
  obtain ⟨a3, s3, b3, rfl, q1, q2, q3⟩ := hz
  dsimp only
  refine EvP.bind (p_one 4 (h.to (by omega) (by omega))) (fun z4 h4 => ?_)
  refine EvP.bind (Q1 := fun z => ∃ a s : Int, ∃ b : BoardD, z = (a, s, code, 0, 0, [], b.1, b.2.1, b.2.2) ∧ at' ≤ a ∧ a ≤ at' + 4644 ∧ b.2.2.length ≤ 91) ?_ (fun z hz => ?_)
  · simp only [f_spec_l1Cur_faulty_j18]
    refine EvP.ite (fun _ => ?_) (fun _ => EvP.some ⟨z4.2.1, z4.2.2, b3, rfl, by omega, by omega, q3⟩)
    exact EvP.bind (p_geared (h.to (by omega) (by omega))) (fun z2 h2 => EvP.some ⟨z2.2.1, z2.2.2, z2.1, rfl, by omega, by omega, h2.2.2⟩)
  obtain ⟨a6, s6, b, rfl, q4, q5, q6⟩ := hz
  dsimp only
  refine EvP.bind (EvP.ev (Q := fun v => v = boardOK b) (e_spec_boGood b (by omega)) rfl) (fun v hv => ?_)
  subst hv
  cases hb : boardOK b with
  | false =>
    simp only [Bool.not_false, if_true]
    exact EvP.some ⟨q6, by simp, by dsimp only; omega, by dsimp only; omega⟩
  | true =>
    simp only [Bool.not_true, Bool.false_eq_true, if_false]
    refine EvP.bind (EvP.ev (Q := fun v => v = possFrom b.2.1 0 b.2.2) (e_spec_faPossible b hb) rfl) (fun all ha => ?_)
    subst ha
    have hall := poss_count hb
    refine EvP.bind (p_among [0, 1, 1, 2, 3] (by simp) (h.to (by omega) (by omega))) (fun z9 h9 => ?_)
    refine EvP.bind (p_one 20 (h.to (by omega) (by omega))) (fun z10 h10 => ?_)
    have hn : z9.1 ≤ 5 := by
      have := h9.2.2
      simp only [List.mem_cons, List.not_mem_nil, or_false] at this
      omega
    refine EvP.bind (Q1 := fun z => ∃ a s n : Int, z = (a, s, code, 0, 0, [], b.1, b.2.1, b.2.2, [], possFrom b.2.1 0 b.2.2, n) ∧ at' ≤ a ∧ a ≤ at' + 4650 ∧ n ≤ 5) ?_ (fun z hz => ?_)
    · simp only [f_spec_l1Cur_faulty_j31]
      refine EvP.ite (fun _ => ?_) (fun _ => EvP.some ⟨z10.2.1, z10.2.2, z9.1, rfl, by omega, by omega, hn⟩)
      refine EvP.bind (p_pick 2 (h.to (by omega) (by omega)) (by omega)) (fun z2 h2 => EvP.some ⟨z2.2.1, z2.2.2, wrap64 (4 + z2.1), rfl, by omega, by omega, ?_⟩)
      rw [w64 (by omega) (by omega)]
      omega
    obtain ⟨a12, s12, n, rfl, g1, g2, g3⟩ := hz
    dsimp only
    refine EvP.bind (p_faulty_0 code 0 0 [] b.1 b.2.1 b.2.2 (possFrom b.2.1 0 b.2.2) n (by omega) 5 [] 0 a12 s12 (by simpa using g3) (by simp) (by omega) (h.to (by omega) (by omega))) (fun z hz => ?_)
    obtain ⟨a, s, l, rfl, k1, k2, k3⟩ := hz
    simp only [List.length_nil] at k1
    dsimp only
    refine EvP.ite (fun hp => ?_) (fun _ => EvP.some ⟨q6, by dsimp only; omega, by dsimp only; omega, by dsimp only; omega⟩)
    simp only [decide_eq_true_eq] at hp
    refine EvP.bind (p_pick _ (h.to (by omega) (by omega)) (by omega)) (fun z17 h17 => ?_)
    refine EvP.guard (by omega) (EvP.guard (by omega) ?_)
    refine EvP.bind (p_pick 24 (h.to (by omega) (by omega)) (by omega)) (fun z18 h18 => ?_)
    refine EvP.ite (fun _ => ?_) (fun _ => EvP.ite (fun _ => ?_) (fun _ => EvP.ite (fun _ => ?_) (fun _ => ?_)))
    · exact EvP.bind (p_among _ (by simp) (h.to (by omega) (by omega))) (fun z h2 => EvP.some ⟨q6, by dsimp only; rw [List.length_set]; omega, by dsimp only; omega, by dsimp only; omega⟩)
    · exact EvP.bind (p_among _ (by simp) (h.to (by omega) (by omega))) (fun z h2 => EvP.some ⟨q6, by dsimp only; rw [List.length_set]; omega, by dsimp only; omega, by dsimp only; omega⟩)
    · exact EvP.bind (p_among _ (by simp) (h.to (by omega) (by omega))) (fun z h2 => EvP.some ⟨q6, by dsimp only; rw [List.length_set]; omega, by dsimp only; omega, by dsimp only; omega⟩)
    · exact EvP.some ⟨q6, by dsimp only; omega, by dsimp only; omega, by dsimp only; omega⟩
end
theorem p_DrawFaultyFalls (code : List Int) (h : Cur code 0 6000) : EvP (fun k => f_spec_DrawFaultyFalls k code) (fun r => r.1.2.2.length ≤ 91 ∧ r.2.1.length ≤ 5 ∧ r.2.2.length ≤ 61) := by
  refine EvP.succ ?_
  simp only [f_spec_DrawFaultyFalls]
  refine EvP.bind (p_faulty (h.to (by omega) (by omega))) (fun z hz => ?_)
  refine EvP.bind (Q1 := fun y => y.2.2.1.length ≤ 91 ∧ y.2.2.2.1.length ≤ 5 ∧ y.2.2.2.2.length ≤ 61) ?_ (fun y hy => EvP.some hy)
  simp only [f_spec_DrawFaultyFalls_g3]
  exact EvP.bind (p_entries _ (h.to (by omega) (by omega))) (fun y hy => EvP.some ⟨hz.1, hz.2.1, hy.1⟩)
theorem p_DrawFaultyFall (code : List Int) (h : Cur code 0 6000) : EvP (fun k => f_spec_DrawFaultyFall k code) (fun r => r.1.2.2.length ≤ 91 ∧ r.2.1.length ≤ 5) := by
  refine EvP.succ ?_
  simp only [f_spec_DrawFaultyFall]
  refine EvP.bind (p_faulty (h.to (by omega) (by omega))) (fun z hz => ?_)
  refine EvP.bind (Q1 := fun y => y.2.2.1.length ≤ 91 ∧ y.2.2.2.1.length ≤ 5) ?_ (fun y hy => EvP.some hy)
  simp only [f_spec_DrawFaultyFall_g3]
  exact EvP.bind (p_columnOf _ (h.to (by omega) (by omega))) (fun y hy => EvP.some ⟨hz.1, hz.2.1⟩)
theorem p_DrawAreFaults (code : List Int) (h : Cur code 0 6000) : EvP (fun k => f_spec_DrawAreFaults k code) (fun r => r.1.2.2.length ≤ 91 ∧ r.2.length ≤ 5) := by
  refine EvP.succ ?_
  simp only [f_spec_DrawAreFaults]
  exact EvP.bind (p_faulty (h.to (by omega) (by omega))) (fun z hz => EvP.some ⟨hz.1, hz.2.1⟩)
end Go.Proofs.Ytgjmhbjdhihgaaa.Vs
