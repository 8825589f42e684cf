/- The proof, part 7. -/
import Derived.Test.Ytjjlmnbmpgfcbaaqdm5
set_option linter.unusedVariables false
set_option linter.unusedSimpArgs false
namespace Go.Proofs.Ytjjlmnbmpgfcbaa.Vs
open Go.RowKit
/-! ### Faults by their places -/
def placeOf (b : BoardD) (f : FaultD) : Int := f.2.1 * b.2.1 + f.2.2
def kindsOf (b : BoardD) (l : List FaultD) (K : List Int) : List Int := l.foldl (fun K f => List.set K (placeOf b f).toNat f.1) K
def faAtD (r c d : Int) : List FaultD → Int
  | [] => d
  | f :: l => if f.2.1 = r ∧ f.2.2 = c then f.1 else faAtD r c d l
theorem faults_cons {b : BoardD} {last : Int} {f : FaultD} {l : List FaultD} (h : faultsOK b last (f :: l) = true) : (0 ≤ f.2.1 ∧ f.2.1 < b.1 ∧ 0 ≤ f.2.2 ∧ f.2.2 < b.2.1 ∧ last < placeOf b f) ∧ faultsOK b (placeOf b f) l = true := by
  simp only [faultsOK, Bool.and_eq_true, decide_eq_true_eq] at h
  exact ⟨h.1.1, h.2⟩
theorem faults_on {b : BoardD} : ∀ {l : List FaultD} {last : Int}, faultsOK b last l = true → ∀ f ∈ l, 0 ≤ f.2.1 ∧ f.2.1 < b.1 ∧ 0 ≤ f.2.2 ∧ f.2.2 < b.2.1
  | [], _, _, f, hf => by cases hf
  | g :: l, last, h, f, hf => by
    obtain ⟨h1, h2⟩ := faults_cons h
    rcases List.mem_cons.1 hf with rfl | hf
    · exact ⟨h1.1, h1.2.1, h1.2.2.1, h1.2.2.2.1⟩
    · exact faults_on h2 f hf
theorem place_inj {C r c r' c' : Int} (h1 : 0 ≤ c) (h2 : c < C) (h3 : 0 ≤ c') (h4 : c' < C) (h : r * C + c = r' * C + c') : r = r' ∧ c = c' := by
  have key : ∀ {x y : Int}, x < y → x * C + C ≤ y * C := by
    intro x y hxy
    have := Int.mul_le_mul_of_nonneg_right (show x + 1 ≤ y by omega) (show 0 ≤ C by omega)
    rw [Int.add_mul, Int.one_mul] at this
    exact this
  rcases Int.lt_trichotomy r r' with hr | hr | hr
  · have := key hr; omega
  · subst hr; omega
  · have := key hr; omega
theorem faAtD_later {b : BoardD} {r c : Int} (d : Int) : ∀ {l : List FaultD} {last : Int}, faultsOK b last l = true → r * b.2.1 + c ≤ last → faAtD r c d l = d
  | [], _, _, _ => rfl
  | f :: l, last, h, hp => by
    obtain ⟨h1, h2⟩ := faults_cons h
    unfold placeOf at h1 h2
    simp only [faAtD]
    rw [if_neg (by rintro ⟨rfl, rfl⟩; omega)]
    exact faAtD_later d h2 (by omega)
theorem getD_set_if {α : Type} (l : List α) (i j : Nat) (x d : α) (hi : i < l.length) : List.getD (List.set l i x) j d = if i = j then x else List.getD l j d := by
  simp only [List.getD, List.getElem?_set]
  by_cases h : i = j
  · subst h; simp [hi]
  · simp [h]
theorem kindsOf_at {b : BoardD} (hb : boardOK b = true) {r c : Int} (h1 : 0 ≤ r) (h2 : r < b.1) (h3 : 0 ≤ c) (h4 : c < b.2.1) : ∀ {l : List FaultD} {last : Int} {K : List Int}, faultsOK b last l = true → K.length = b.2.2.length → List.getD (kindsOf b l K) (r * b.2.1 + c).toNat 0 = faAtD r c (List.getD K (r * b.2.1 + c).toNat 0) l
  | [], _, _, _, _ => rfl
  | f :: l, last, K, h, hK => by
    obtain ⟨g1, g2⟩ := faults_cons h
    have hp := place_ok hb h1 h2 h3 h4
    have hf := place_ok hb g1.1 g1.2.1 g1.2.2.1 g1.2.2.2.1
    show List.getD (kindsOf b l (List.set K (placeOf b f).toNat f.1)) _ 0 = _
    rw [kindsOf_at hb h1 h2 h3 h4 g2 (by rw [List.length_set]; exact hK)]
    rw [getD_set_if _ _ _ _ _ (by unfold placeOf; omega)]
    simp only [faAtD]
    by_cases hm : f.2.1 = r ∧ f.2.2 = c
    · rw [if_pos hm, if_pos (by unfold placeOf; rw [hm.1, hm.2])]
      exact faAtD_later _ g2 (by unfold placeOf; rw [hm.1, hm.2]; omega)
    · rw [if_neg hm, if_neg (fun he => hm (place_inj g1.2.2.1 g1.2.2.2.1 h3 h4 (by unfold placeOf at he; omega)))]
def kindsB (b : BoardD) (l : List FaultD) : List Int := kindsOf b l (List.replicate b.2.2.length 0)
def flip1 (x : CellD) : CellD := (x.1, 1 - x.2)
def turnGo (G K : List Int) (at' : Nat) (ka : Int) : Nat → List CellD → List CellD
  | _, [] => []
  | i, x :: r => (if (i = at' ∨ (ka = 6 ∧ x.1 = 6 ∧ List.getD G i 0 = List.getD G at' 0)) ∧ List.getD K i 0 ≠ 1 then flip1 x else x) :: turnGo G K at' ka (i + 1) r
def passGo (G : List Int) (ga : Int) : Nat → List CellD → List CellD
  | _, [] => []
  | i, x :: r => (if x.1 = 6 ∧ List.getD G i 0 = ga then flip1 x else x) :: passGo G ga (i + 1) r
theorem cell_two {x : CellD} (h : cellOK x = true) : 0 ≤ x.1 ∧ x.1 ≤ 7 ∧ (x.2 = 0 ∨ x.2 = 1) := by
  unfold cellOK at h
  simp only [decide_eq_true_eq] at h
  omega
def turnAt (G K : List Int) (at' : Nat) (o : List CellD) : List CellD := turnGo G K at' (List.getD o at' (0, 0)).1 0 o
theorem e_spec_paTurn (x : CellD) (h : cellOK x = true) : Ev (fun k => f_spec_paTurn k x) (flip1 x) := by
  obtain ⟨c1, c2, c3⟩ := cell_two h
  refine Ev.succ ?_
  simp only [f_spec_paTurn]
  rw [w64 (n := 1 - x.2) (by omega) (by omega)]
  exact Ev.some _
theorem e_spec_flPass_1 (R C : Int) (G : List Int) (at' : Nat) : ∀ (r pre : List CellD), (pre ++ r).length ≤ 1000 → at' < (pre ++ r).length → G.length = (pre ++ r).length → (∀ x ∈ r, cellOK x = true) →
    Ev (fun k => f_spec_flPass_1 k (pre ++ r) R C G (at' : Int) ((pre ++ r).length : Int) (pre.length : Int)) (pre ++ passGo G (List.getD G at' 0) pre.length r)
  | [], pre, hl, ha, hG, hx => by
    refine Ev.succ ?_
    simp only [f_spec_flPass_1, nlt_end, decide_false, Bool.false_eq_true, if_false, passGo]
    exact Ev.some _
  | x :: r, pre, hl, ha, hG, hx => by
    have hn := next_mid pre x r (by omega)
    have hlt := lt_mid pre x r
    have hGl : (pre.length : Int) < (G.length : Int) := by rw [hG]; exact hlt
    have ha0 : (0 : Int) ≤ (at' : Int) := Int.natCast_nonneg _
    have ha1 : (at' : Int) < ((pre ++ x :: r).length : Int) := by omega
    have haG : (at' : Int) < (G.length : Int) := by rw [hG]; exact ha1
    have hr' : ∀ y ∈ r, cellOK y = true := fun y hy => hx y (List.mem_cons_of_mem _ hy)
    have next : ∀ y : CellD, Ev (fun k => f_spec_flPass_1 k (pre ++ y :: r) R C G (at' : Int) ((pre ++ x :: r).length : Int) ((pre ++ [x]).length : Int)) (pre ++ y :: passGo G (List.getD G at' 0) (pre.length + 1) r) := by
      intro y
      have ih := e_spec_flPass_1 R C G at' r (pre ++ [y]) (by simpa using hl) (by simpa using ha) (by simpa using hG) hr'
      have e1 : ((pre ++ [y] ++ r).length : Int) = ((pre ++ x :: r).length : Int) := by simp
      have e2 : ((pre ++ [y]).length : Int) = ((pre ++ [x]).length : Int) := by simp
      have e3 : (pre ++ [y]).length = pre.length + 1 := by simp
      rw [e1, e2, e3, ← shift_mid, ← shift_mid] at ih
      exact ih
    refine Ev.succ ?_
    simp only [f_spec_flPass_1, lt_mid, ge_mid, decide_true, if_true, Int.toNat_natCast, getD_mid, set_mid, hn, hGl, ha0, haG]
    simp only [passGo]
    refine Ev.ite (fun h1 => Ev.ite (fun h2 => ?_) (fun h2 => ?_)) (fun h1 => ?_)
    · simp only [decide_eq_true_eq] at h1 h2
      rw [if_pos ⟨h1, h2⟩]
      exact Ev.bind (e_spec_paTurn x (hx x (List.mem_cons_self ..))) (next (flip1 x))
    · simp only [decide_eq_true_eq] at h2
      rw [if_neg (fun hc => h2 hc.2)]
      exact next x
    · simp only [decide_eq_true_eq] at h1
      rw [if_neg (fun hc => h1 hc.1)]
      exact next x
def passAt (G : List Int) (at' : Nat) (o : List CellD) : List CellD := if (List.getD o at' (0, 0)).1 = 3 then List.set o at' (flip1 (List.getD o at' (0, 0))) else if (List.getD o at' (0, 0)).1 = 6 then passGo G (List.getD G at' 0) 0 o else o
theorem e_spec_flPass (R C : Int) (o : List CellD) (G : List Int) (at' : Nat) (hl : o.length ≤ 1000) (ha : at' < o.length) (hG : G.length = o.length) (hx : ∀ x ∈ o, cellOK x = true) : Ev (fun k => f_spec_flPass k (R, C, o) G (at' : Int)) (passAt G at' o) := by
  have ha0 : (0 : Int) ≤ (at' : Int) := Int.natCast_nonneg _
  have ha1 : (at' : Int) < (o.length : Int) := by omega
  refine Ev.succ ?_
  simp only [f_spec_flPass, ha0, ha1, if_true, Int.toNat_natCast]
  unfold passAt
  refine Ev.ite (fun h1 => ?_) (fun h1 => Ev.ite (fun h2 => ?_) (fun h2 => ?_))
  · simp only [decide_eq_true_eq] at h1
    rw [if_pos h1]
    exact Ev.bind (e_spec_paTurn _ (hx _ (cell_in ha0 ha1 _))) (Ev.some _)
  · simp only [decide_eq_true_eq] at h1 h2
    rw [if_neg h1, if_pos h2]
    exact Ev.bind (e_spec_flPass_1 R C G at' o [] hl ha hG hx) (Ev.some _)
  · simp only [decide_eq_true_eq] at h1 h2
    rw [if_neg h1, if_neg h2]
    exact Ev.some _
theorem turnGo_len (G K : List Int) (at' : Nat) (ka : Int) : ∀ (l : List CellD) (i : Nat), (turnGo G K at' ka i l).length = l.length
  | [], _ => rfl
  | x :: r, i => by simp [turnGo, turnGo_len G K at' ka r]
theorem passGo_len (G : List Int) (ga : Int) : ∀ (l : List CellD) (i : Nat), (passGo G ga i l).length = l.length
  | [], _ => rfl
  | x :: r, i => by simp [passGo, passGo_len G ga r]
theorem turnGo_at (G K : List Int) (at' : Nat) (ka : Int) : ∀ (l : List CellD) (j i : Nat), (turnGo G K at' ka j l)[i]? = l[i]?.map fun x => if (j + i = at' ∨ (ka = 6 ∧ x.1 = 6 ∧ List.getD G (j + i) 0 = List.getD G at' 0)) ∧ List.getD K (j + i) 0 ≠ 1 then flip1 x else x
  | [], _, i => by simp [turnGo]
  | x :: r, j, 0 => by simp [turnGo]
  | x :: r, j, i + 1 => by
    simp only [turnGo, List.getElem?_cons_succ]
    rw [turnGo_at G K at' ka r (j + 1) i, show j + 1 + i = j + (i + 1) by omega]
theorem passGo_at (G : List Int) (ga : Int) : ∀ (l : List CellD) (j i : Nat), (passGo G ga j l)[i]? = l[i]?.map fun x => if x.1 = 6 ∧ List.getD G (j + i) 0 = ga then flip1 x else x
  | [], _, i => by simp [passGo]
  | x :: r, j, 0 => by simp [passGo]
  | x :: r, j, i + 1 => by
    simp only [passGo, List.getElem?_cons_succ]
    rw [passGo_at G ga r (j + 1) i, show j + 1 + i = j + (i + 1) by omega]
/-! ### What is stuck comes back -/
def restore (b : BoardD) (l : List FaultD) (o : List CellD) : List CellD := l.foldl (fun o f => if f.1 = 1 then List.set o (placeOf b f).toNat (List.getD b.2.2 (placeOf b f).toNat (0, 0)) else o) o
theorem restore_len (b : BoardD) : ∀ (l : List FaultD) (o : List CellD), (restore b l o).length = o.length
  | [], _ => rfl
  | f :: l, o => by
    show (restore b l (if f.1 = 1 then _ else _)).length = _
    rw [restore_len b l]
    split <;> simp
theorem restore_at (b : BoardD) : ∀ (l : List FaultD) (o : List CellD) (i : Nat), i < o.length → (restore b l o)[i]? = if ∃ f ∈ l, f.1 = 1 ∧ (placeOf b f).toNat = i then some (List.getD b.2.2 i (0, 0)) else o[i]?
  | [], o, i, hi => by rw [if_neg (by rintro ⟨f, hf, _⟩; cases hf)]; rfl
  | f :: l, o, i, hi => by
    show (restore b l (if f.1 = 1 then _ else _))[i]? = _
    by_cases hf : f.1 = 1
    · rw [if_pos hf, restore_at b l _ i (by rw [List.length_set]; exact hi)]
      by_cases h : ∃ g ∈ l, g.1 = 1 ∧ (placeOf b g).toNat = i
      · rw [if_pos h]
        obtain ⟨g, hg, h2⟩ := h
        rw [if_pos ⟨g, List.mem_cons_of_mem _ hg, h2⟩]
      · rw [if_neg h]
        by_cases hp : (placeOf b f).toNat = i
        · rw [if_pos ⟨f, List.mem_cons_self .., hf, hp⟩, hp, List.getElem?_set_self hi]
        · rw [List.getElem?_set_ne hp, if_neg (by
            rintro ⟨g, hg, h2, h3⟩
            rcases List.mem_cons.1 hg with rfl | hg
            · exact hp h3
            · exact h ⟨g, hg, h2, h3⟩)]
    · rw [if_neg hf, restore_at b l o i hi]
      by_cases h : ∃ g ∈ l, g.1 = 1 ∧ (placeOf b g).toNat = i
      · rw [if_pos h]
        obtain ⟨g, hg, h2⟩ := h
        rw [if_pos ⟨g, List.mem_cons_of_mem _ hg, h2⟩]
      · rw [if_neg h, if_neg (by
            rintro ⟨g, hg, h2, h3⟩
            rcases List.mem_cons.1 hg with rfl | hg
            · exact hf h2
            · exact h ⟨g, hg, h2, h3⟩)]
theorem faAtD_mem {r c : Int} : ∀ {l : List FaultD} {f : FaultD}, f ∈ l → f.2.1 = r → f.2.2 = c → ∀ {b : BoardD} {last : Int}, faultsOK b last l = true → faAtD r c 0 l = f.1
  | g :: l, f, hf, h1, h2, b, last, hok => by
    obtain ⟨k1, k2⟩ := faults_cons hok
    simp only [faAtD]
    rcases List.mem_cons.1 hf with rfl | hf
    · rw [if_pos ⟨h1, h2⟩]
    · have hno : ¬ (g.2.1 = r ∧ g.2.2 = c) := by
        rintro ⟨e1, e2⟩
        have key : ∀ {l : List FaultD} {last : Int}, faultsOK b last l = true → ∀ f ∈ l, last < placeOf b f := by
          intro l
          induction l with
          | nil => intro last _ f hf; cases hf
          | cons g l ih =>
            intro last h f hf
            obtain ⟨a1, a2⟩ := faults_cons h
            rcases List.mem_cons.1 hf with rfl | hf
            · exact a1.2.2.2.2
            · have := ih a2 f hf; omega
        have := key k2 f hf
        unfold placeOf at this
        rw [h1, h2, e1, e2] at this
        omega
      rw [if_neg hno]
      exact faAtD_mem hf h1 h2 k2
theorem faAtD_one {r c : Int} : ∀ {l : List FaultD}, faAtD r c 0 l = 1 → ∃ f ∈ l, f.1 = 1 ∧ f.2.1 = r ∧ f.2.2 = c
  | [], h => by simp [faAtD] at h
  | f :: l, h => by
    simp only [faAtD] at h
    split at h
    · rename_i hm
      exact ⟨f, List.mem_cons_self .., h, hm.1, hm.2⟩
    · obtain ⟨g, hg, h2⟩ := faAtD_one h
      exact ⟨g, List.mem_cons_of_mem _ hg, h2⟩
/-- Where the kinds tell of a stuck cell, there is such a fault. -/
theorem stuck_iff {b : BoardD} (hb : boardOK b = true) {l : List FaultD} (hl : faultsOK b (-1) l = true) {i : Nat} (hi : i < b.2.2.length) : List.getD (kindsB b l) i 0 = 1 ↔ ∃ f ∈ l, f.1 = 1 ∧ (placeOf b f).toNat = i := by
  obtain ⟨q, m, t, hq, hm, k1, k2, k3, k4, k5, k6, k7, k8, k9⟩ := place_parts hb (i := (i : Int)) (by omega) (by omega)
  have hC : 0 < b.2.1 := by omega
  have e0 : Int.tdiv (i : Int) b.2.1 = (i : Int) / b.2.1 := Int.tdiv_eq_ediv_of_nonneg (by omega)
  have e1 : Int.tmod (i : Int) b.2.1 = (i : Int) % b.2.1 := Int.tmod_eq_emod_of_nonneg (by omega)
  have e2 := Int.mul_ediv_add_emod (i : Int) b.2.1
  rw [← e0, ← e1, hq, hm] at e2
  have hi2 : (i : Int) = q * b.2.1 + m := by rw [Int.mul_comm]; omega
  have hi3 : i = (q * b.2.1 + m).toNat := by omega
  have hk : List.getD (kindsB b l) i 0 = faAtD q m 0 l := by
    unfold kindsB
    rw [hi3, kindsOf_at hb k4 k5 k2 k3 hl (by simp)]
    congr 1
    simp only [List.getD, List.getElem?_replicate]
    split <;> rfl
  rw [hk]
  constructor
  · intro h
    obtain ⟨f, hf, h1, h2, h3⟩ := faAtD_one h
    exact ⟨f, hf, h1, by unfold placeOf; rw [h2, h3]; exact hi3.symm⟩
  · rintro ⟨f, hf, h1, h2⟩
    obtain ⟨o1, o2, o3, o4⟩ := faults_on hl f hf
    have hp := place_ok hb o1 o2 o3 o4
    have := place_inj o3 o4 k2 k3 (show f.2.1 * b.2.1 + f.2.2 = q * b.2.1 + m by unfold placeOf at h2; omega)
    rw [faAtD_mem hf this.1 this.2 hl, h1]
def stepAt (G K : List Int) (at' : Nat) (o : List CellD) : List CellD := if turning (List.getD o at' (0, 0)) then turnAt G K at' o else o
theorem restore_pass {b : BoardD} (hb : boardOK b = true) {l : List FaultD} (hl : faultsOK b (-1) l = true) (G : List Int) {at' : Nat} {o : List CellD} (ho : o.length = b.2.2.length) (ha : at' < o.length) (hs : ∀ i, i < o.length → List.getD (kindsB b l) i 0 = 1 → o[i]? = some (List.getD b.2.2 i (0, 0))) :
    restore b l (passAt G at' o) = stepAt G (kindsB b l) at' o := by
  have hpl : (passAt G at' o).length = o.length := by
    unfold passAt; split
    · simp
    · split
      · exact passGo_len _ _ _ _
      · rfl
  apply List.ext_getElem?
  intro i
  rcases Nat.lt_or_ge i o.length with hi | hi
  · rw [restore_at b l _ i (by rw [hpl]; exact hi)]
    have hst := stuck_iff hb hl (i := i) (by omega)
    have hox : o[i]? = some o[i] := List.getElem?_eq_getElem hi
    have hax : List.getD o at' (0, 0) = o[at'] := by simp [List.getD, List.getElem?_eq_getElem ha]
    by_cases hk : List.getD (kindsB b l) i 0 = 1
    · rw [if_pos (hst.1 hk), ← hs i hi hk]
      unfold stepAt turnAt
      split
      · rw [turnGo_at, hox, Option.map_some, if_neg (fun hc => hc.2 (by rw [Nat.zero_add]; exact hk))]
      · rfl
    · rw [if_neg (fun h => hk (hst.2 h))]
      unfold stepAt turnAt passAt turning
      rw [hax]
      by_cases h3 : (o[at']).1 = 3
      · simp only [h3, true_or, decide_true, if_true]
        rw [turnGo_at, hox, Option.map_some, Nat.zero_add]
        by_cases hia : at' = i
        · subst hia
          rw [List.getElem?_set_self hi, if_pos ⟨.inl rfl, hk⟩]
        · have hno : ¬ ((i = at' ∨ ((3 : Int) = 6 ∧ (o[i]).1 = 6 ∧ List.getD G i 0 = List.getD G at' 0)) ∧ List.getD (kindsB b l) i 0 ≠ 1) := by
            rintro ⟨h | ⟨h, _⟩, _⟩
            · exact hia h.symm
            · omega
          rw [List.getElem?_set_ne hia, hox, if_neg hno]
      · by_cases h6 : (o[at']).1 = 6
        · have h36 : ¬ (6 : Int) = 3 := by omega
          simp only [h6, h36, or_true, decide_true, if_true, if_false]
          rw [turnGo_at, passGo_at, hox, Option.map_some, Option.map_some, Nat.zero_add]
          congr 1
          by_cases hc : (o[i]).1 = 6 ∧ List.getD G i 0 = List.getD G at' 0
          · rw [if_pos hc, if_pos ⟨.inr ⟨rfl, hc⟩, hk⟩]
          · rw [if_neg hc, if_neg (by
              rintro ⟨h | ⟨_, h⟩, _⟩
              · subst h; exact hc ⟨h6, rfl⟩
              · exact hc h)]
        · simp only [h3, h6, or_self, decide_false, Bool.false_eq_true, if_false]
  · rw [List.getElem?_eq_none (by rw [restore_len, hpl]; exact hi), List.getElem?_eq_none ?_]
    unfold stepAt turnAt
    split
    · rw [turnGo_len]; exact hi
    · exact hi
end Go.Proofs.Ytjjlmnbmpgfcbaa.Vs

set_option linter.unusedVariables false
set_option linter.unusedSimpArgs false
namespace Go.Proofs.Ytjjlmnbmpgfcbaa.Vs
open Go.RowKit
abbrev FallD := Int × Int × Int
/-- Where a marble goes from a cell. -/
def goesOf (x : CellD) (side : Int) : Int := if x.1 = 1 then -1 else if x.1 = 2 then 1 else if x.1 = 3 then 2 * x.2 - 1 else if x.1 = 6 then 2 * x.2 - 1 else if x.1 = 4 then 0 - side else 0
theorem goesOf_in {x : CellD} (hx : cellOK x = true) {side : Int} (h1 : -1 ≤ side) (h2 : side ≤ 1) : -1 ≤ goesOf x side ∧ goesOf x side ≤ 1 := by
  obtain ⟨c1, c2, c3⟩ := cell_two hx
  unfold goesOf
  repeat' split
  all_goals omega
theorem e_impl_GoesTo (x : CellD) (side : Int) (hx : cellOK x = true) (h1 : -1 ≤ side) (h2 : side ≤ 1) : Ev (fun k => f_impl_GoesTo k x side) (if x.1 = 5 then (0, false) else (goesOf x side, true)) := by
  obtain ⟨c1, c2, c3⟩ := cell_two hx
  have n1 : ¬ side < -1 := by omega
  have n2 : ¬ side > 1 := by omega
  refine Ev.succ ?_
  simp only [f_impl_GoesTo]
  refine Ev.bind (e_impl_IsCell x) ?_
  simp only [hx, Bool.not_true, Bool.false_eq_true, if_false, n1, n2, decide_false]
  rw [w64 (n := 2 * x.2) (by omega) (by omega), w64 (n := 2 * x.2 - 1) (by omega) (by omega), w64 (n := 0 - side) (by omega) (by omega)]
  refine Ev.of ?_
  unfold goesOf
  by_cases a5 : x.1 = 5
  · simp [a5]
  · by_cases a1 : x.1 = 1 <;> by_cases a2 : x.1 = 2 <;> by_cases a3 : x.1 = 3 <;> by_cases a6 : x.1 = 6 <;> by_cases a4 : x.1 = 4 <;> simp [a1, a2, a3, a4, a5, a6]
theorem e_spec_paGoes (x : CellD) (side : Int) (hx : cellOK x = true) (h1 : -1 ≤ side) (h2 : side ≤ 1) : Ev (fun k => f_spec_paGoes k x side) (goesOf x side) := by
  obtain ⟨c1, c2, c3⟩ := cell_two hx
  refine Ev.succ ?_
  simp only [f_spec_paGoes]
  rw [w64 (n := 2 * x.2) (by omega) (by omega), w64 (n := 2 * x.2 - 1) (by omega) (by omega), w64 (n := 0 - side) (by omega) (by omega)]
  refine Ev.of ?_
  unfold goesOf
  by_cases a1 : x.1 = 1 <;> by_cases a2 : x.1 = 2 <;> by_cases a3 : x.1 = 3 <;> by_cases a6 : x.1 = 6 <;> by_cases a4 : x.1 = 4 <;> simp [a1, a2, a3, a4, a6]
theorem flip1_ok {x : CellD} (hx : cellOK x = true) (h : x.1 = 3 ∨ x.1 = 6) : cellOK (flip1 x) = true := by
  obtain ⟨c1, c2, c3⟩ := cell_two hx
  unfold cellOK flip1
  simp only [decide_eq_true_eq]
  omega
theorem mem_at {α : Type} {l : List α} {x : α} (h : x ∈ l) : ∃ i : Nat, l[i]? = some x := List.getElem?_of_mem h
theorem stepAt_len (G K : List Int) (at' : Nat) (o : List CellD) : (stepAt G K at' o).length = o.length := by
  unfold stepAt turnAt
  split
  · exact turnGo_len _ _ _ _ _ _
  · rfl
theorem stepAt_ok (G K : List Int) {at' : Nat} {o : List CellD} (hx : ∀ x ∈ o, cellOK x = true) : ∀ x ∈ stepAt G K at' o, cellOK x = true := by
  unfold stepAt turnAt
  split
  · rename_i ht
    unfold turning at ht
    simp only [decide_eq_true_eq] at ht
    intro y hy
    obtain ⟨i, hi⟩ := mem_at hy
    rw [turnGo_at] at hi
    obtain ⟨x, h1, h2⟩ := Option.map_eq_some_iff.1 hi
    have hxo := hx x (List.mem_of_getElem? h1)
    split at h2
    · rename_i hc
      rw [← h2]
      refine flip1_ok hxo ?_
      rcases hc.1 with h | ⟨_, h, _⟩
      · rw [Nat.zero_add] at h
        subst h
        simpa [List.getD, h1] using ht
      · exact .inr h
    · rw [← h2]; exact hxo
  · exact hx
/-- A marble's way, row by row: it comes to the bottom, or it stops before. -/
def fallL (b : BoardD) (G K : List Int) : Nat → Int → Int → Int → List CellD → LR (Int × List CellD) (FallD × List CellD)
  | 0, _, col, _, o => .go (col, o)
  | n + 1, row, col, side, o =>
    let at' := (row * b.2.1 + col).toNat
    let x := List.getD o at' (0, 0)
    if List.getD K at' 0 = 2 then .ret ((3, row, col), o)
    else if x.1 = 5 then .ret ((2, row, col), o)
    else
      let g := if List.getD K at' 0 = 3 then 0 - goesOf x side else goesOf x side
      if 0 ≤ col + g ∧ col + g < b.2.1 then fallL b G K n (row + 1) (col + g) (0 - g) (stepAt G K at' o) else .ret ((3, row, col + g), stepAt G K at' o)
def LR.map2 {Z R Z' R' : Type} (f : Z → Z') (g : R → R') : LR Z R → LR Z' R'
  | .go z => .go (f z) | .ret r => .ret (g r)
/-- A marble's end, and the cells behind it. -/
def fallEnd (b : BoardD) (z : LR (Int × List CellD) (FallD × List CellD)) : FallD × List CellD := match z with
  | .go z => ((1, b.1, z.1), z.2)
  | .ret r => r
def fallOf (b : BoardD) (G K : List Int) (col : Int) (o : List CellD) : FallD × List CellD := fallEnd b (fallL b G K b.1.toNat 0 col 0 o)
theorem e_spec_boOwn (b : BoardD) (h : b.2.2.length ≤ 1000000) : Ev (fun k => f_spec_boOwn k b) b := by
  refine Ev.succ ?_
  simp only [f_spec_boOwn, f_spec_boOwn_g1]
  have : 0 + b.2.2.length ≤ 140737488355328 / 16 := by omega
  simp only [this, if_true]
  exact Ev.some _
theorem e_impl_copyBoard (b : BoardD) (h : b.2.2.length ≤ 1000000) : Ev (fun k => f_impl_copyBoard k b) b := by
  refine Ev.succ ?_
  simp only [f_impl_copyBoard, f_impl_copyBoard_g1]
  have : 0 + b.2.2.length ≤ 140737488355328 / 16 := by omega
  simp only [this, if_true]
  exact Ev.some _
/-- The cells of a board lie where the board with other cells has its places. -/
theorem e_spec_boAt_on (b : BoardD) (hb : boardOK b = true) (o : List CellD) (ho : o.length = b.2.2.length) {r c : Int} (h1 : 0 ≤ r) (h2 : r < b.1) (h3 : 0 ≤ c) (h4 : c < b.2.1) : Ev (fun k => f_spec_boAt k (b.1, b.2.1, o) r c) (List.getD o (r * b.2.1 + c).toNat (0, 0)) := by
  have hp := place_ok hb h1 h2 h3 h4
  have hpo : r * b.2.1 + c < (o.length : Int) := by omega
  refine Ev.succ ?_
  simp only [f_spec_boAt]
  rw [w64 (n := r * b.2.1) (by omega) (by omega), w64 (n := r * b.2.1 + c) (by omega) (by omega)]
  simp only [hp.1, hpo, if_true]
  exact Ev.some _
end Go.Proofs.Ytjjlmnbmpgfcbaa.Vs

set_option linter.unusedVariables false
set_option linter.unusedSimpArgs false
namespace Go.Proofs.Ytjjlmnbmpgfcbaa.Vs
open Go.RowKit
/-- The marks from k on. -/
def marksCellS : List (Int × Int) → Int → List (Int × Int)
  | [], _ => []
  | _ :: r, k => (k, k + 1) :: marksCellS r (k + 2)
theorem marksCellS_len : ∀ (l : List (Int × Int)) (k : Int), (marksCellS l k).length = l.length
  | [], _ => rfl
  | _ :: r, k => by simp [marksCellS, marksCellS_len r]
theorem e_laws_markCellS_0 : ∀ (r pre : List (Int × Int)) (c : Int), 0 ≤ c → c + 2 * r.length ≤ 4611686018427387904 → (pre ++ r).length ≤ 4611686018427387904 → Ev (fun k => f_laws_markCellS_0 k (pre ++ r) c (pre.length : Int)) (pre ++ marksCellS r c, c + 2 * r.length)
  | [], pre, c, hc, h, hl => by
    refine Ev.succ ?_
    simp only [f_laws_markCellS_0, nlt_end, decide_false, Bool.false_eq_true, if_false, marksCellS, List.length_nil, Int.natCast_zero, Int.mul_zero, Int.add_zero]
    exact Ev.some _
  | x :: r, pre, c, hc, h, hl => by
    have h' : (c + 2) + 2 * (r.length : Int) = c + 2 * ((x :: r).length : Int) := by simp only [List.length_cons]; omega
    have ih := e_laws_markCellS_0 r (pre ++ [(c, c + 1)]) (c + 2) (by omega) (by omega) (by simpa using hl)
    have hn := next_mid pre x r (by omega)
    have hn2 : ((pre ++ [x]).length : Int) = ((pre ++ [(c, c + 1)]).length : Int) := by simp
    refine Ev.succ ?_
    simp only [f_laws_markCellS_0, lt_mid, ge_mid, decide_true, if_true, Int.toNat_natCast, getD_mid, set_mid, hn]
    simp only [List.length_cons] at h
    rw [w64 (n := c + 1) (by omega) (by omega), w64 (n := c + 1 + 1) (by omega) (by omega)]
    rw [← shift_mid, h'] at ih
    rw [hn2]
    refine Ev.congr (f := _) (by simpa [Int.add_assoc] using ih) ?_
    simp [marksCellS]
theorem e_laws_markCellS (l : List (Int × Int)) (c : Int) (hc : 0 ≤ c) (h : c + 2 * l.length ≤ 4611686018427387904) : Ev (fun k => f_laws_markCellS k l c) (c + 2 * l.length, marksCellS l c) :=
  Ev.succ (Ev.bind (e_laws_markCellS_0 l [] c hc h (by simp; omega)) (Ev.some _))
theorem e_laws_heldCellS_0 : ∀ (r pre : List (Int × Int)) (c : Int), 0 ≤ c → c + 2 * r.length ≤ 4611686018427387904 → (pre ++ marksCellS r c).length ≤ 4611686018427387904 → Ev (fun k => f_laws_heldCellS_0 k (pre ++ marksCellS r c) c (pre.length : Int)) (LR.go (c + 2 * r.length))
  | [], pre, c, hc, h, hl => by
    refine Ev.succ ?_
    simp only [f_laws_heldCellS_0, marksCellS, nlt_end, decide_false, Bool.false_eq_true, if_false, List.length_nil, Int.natCast_zero, Int.mul_zero, Int.add_zero]
    exact Ev.some _
  | x :: r, pre, c, hc, h, hl => by
    have h' : (c + 2) + 2 * (r.length : Int) = c + 2 * ((x :: r).length : Int) := by simp only [List.length_cons]; omega
    simp only [marksCellS] at hl ⊢
    have ih := e_laws_heldCellS_0 r (pre ++ [(c, c + 1)]) (c + 2) (by omega) (by omega) (by simpa using hl)
    have hn := next_mid pre (c, c + 1) (marksCellS r (c + 2)) (by omega)
    refine Ev.succ ?_
    simp only [f_laws_heldCellS_0, lt_mid, ge_mid, decide_true, if_true, Int.toNat_natCast, getD_mid, hn]
    simp only [List.length_cons] at h
    rw [w64 (n := c + 1) (by omega) (by omega), w64 (n := c + 1 + 1) (by omega) (by omega)]
    rw [← shift_mid, h'] at ih
    simpa [Int.add_assoc] using ih
theorem e_laws_heldCellS (l : List (Int × Int)) (c : Int) (hc : 0 ≤ c) (h : c + 2 * l.length ≤ 4611686018427387904) : Ev (fun k => f_laws_heldCellS k (marksCellS l c) c) (c + 2 * l.length) := by
  refine Ev.succ (Ev.bind (e_laws_heldCellS_0 l [] c hc h (by rw [List.nil_append, marksCellS_len]; omega)) ?_)
  exact Ev.go (Ev.some _)
theorem e_laws_markBoard (b : BoardD) (c : Int) (hc : 0 ≤ c) (h : c + 2 * b.2.2.length ≤ 4611686018427387904) : Ev (fun k => f_laws_markBoard k b c) (c + 2 * b.2.2.length, marksCellS b.2.2 c) := by
  refine Ev.succ ?_
  simp only [f_laws_markBoard]
  exact Ev.bind (e_laws_markCellS _ c hc h) (Ev.some _)
end Go.Proofs.Ytjjlmnbmpgfcbaa.Vs

set_option linter.unusedVariables false
set_option linter.unusedSimpArgs false
namespace Go.Proofs.Ytjjlmnbmpgfcbaa.Vs
open Go.RowKit
theorem e_impl_validEntry (b : BoardD) (c : Int) (hl : b.2.2.length ≤ 9223372036854775806) : Ev (fun k => f_impl_validEntry k b c) (boardOK b && decide (0 ≤ c ∧ c < b.2.1)) := by
  refine Ev.succ ?_
  simp only [f_impl_validEntry]
  refine Ev.bind (e_impl_IsBoard b hl) ?_
  cases hb : boardOK b with
  | false => simp only [Bool.false_eq_true, if_false, Bool.false_and]; exact Ev.some _
  | true =>
    simp only [if_true, Bool.true_and]
    refine Ev.of ?_
    by_cases h1 : c ≥ 0 <;> by_cases h2 : c < b.2.1 <;> simp [h1, h2]
    all_goals omega
theorem e_spec_flHas (b : BoardD) (c : Int) (hl : b.2.2.length ≤ 9223372036854775806) : Ev (fun k => f_spec_flHas k b c) (boardOK b && decide (0 ≤ c ∧ c < b.2.1)) := by
  refine Ev.succ ?_
  simp only [f_spec_flHas]
  refine Ev.bind (e_spec_boGood b hl) ?_
  cases hb : boardOK b with
  | false => simp only [Bool.false_eq_true, if_false, Bool.false_and]; exact Ev.some _
  | true =>
    obtain ⟨g1, g2, g3, g4, g5, g6⟩ := board_ok hb
    simp only [if_true, Bool.true_and]
    rw [w64 (n := b.2.1 - 1) (by omega) (by omega)]
    refine Ev.bind (e_spec_l1In _ _ _) (Ev.of ?_)
    have : (0 ≤ c ∧ c ≤ b.2.1 - 1) ↔ (0 ≤ c ∧ c < b.2.1) := by omega
    simp only [this]
end Go.Proofs.Ytjjlmnbmpgfcbaa.Vs

set_option linter.unusedVariables false
set_option linter.unusedSimpArgs false
namespace Go.Proofs.Ytjjlmnbmpgfcbaa.Vs
open Go.RowKit
/-! ### What marbles leave as it is -/
theorem stepAt_parts (G K : List Int) (at' : Nat) (o : List CellD) : (stepAt G K at' o).map Prod.fst = o.map Prod.fst := by
  unfold stepAt turnAt
  split
  · apply List.ext_getElem?
    intro i
    simp only [List.getElem?_map, turnGo_at]
    cases o[i]? with
    | none => rfl
    | some x =>
      simp only [Option.map_some]
      split <;> simp [flip1]
  · rfl
theorem fallL_keeps (b : BoardD) (G K : List Int) : ∀ (n : Nat) (row col side : Int) (o : List CellD), (∀ x ∈ o, cellOK x = true) → (∀ x ∈ (fallEnd b (fallL b G K n row col side o)).2, cellOK x = true) ∧ (fallEnd b (fallL b G K n row col side o)).2.map Prod.fst = o.map Prod.fst
  | 0, _, _, _, o, hx => ⟨hx, rfl⟩
  | n + 1, row, col, side, o, hx => by
    have h1 := fallL_keeps b G K n (row + 1)
    unfold fallL
    dsimp only
    have h2 := stepAt_ok G K (at' := (row * b.2.1 + col).toNat) hx
    have h3 := stepAt_parts G K (row * b.2.1 + col).toNat o
    repeat' split
    all_goals first | exact ⟨hx, rfl⟩ | exact ⟨h2, h3⟩ | exact ⟨(h1 _ _ _ h2).1, (h1 _ _ _ h2).2.trans h3⟩
theorem fallOf_cells (b : BoardD) (G K : List Int) (c : Int) {o : List CellD} (hx : ∀ x ∈ o, cellOK x = true) : ∀ x ∈ (fallOf b G K c o).2, cellOK x = true := (fallL_keeps b G K _ _ _ _ o hx).1
theorem fallOf_parts (b : BoardD) (G K : List Int) (c : Int) {o : List CellD} (hx : ∀ x ∈ o, cellOK x = true) : (fallOf b G K c o).2.map Prod.fst = o.map Prod.fst := (fallL_keeps b G K _ _ _ _ o hx).2
theorem fallL_dims {b b' : BoardD} (h : b.2.1 = b'.2.1) (G K : List Int) : ∀ (n : Nat) (row col side : Int) (o : List CellD), fallL b G K n row col side o = fallL b' G K n row col side o
  | 0, _, _, _, _ => rfl
  | n + 1, row, col, side, o => by simp only [fallL, h, fallL_dims h G K n]
theorem fallOf_dims {b b' : BoardD} (h1 : b.1 = b'.1) (h2 : b.2.1 = b'.2.1) (G K : List Int) (c : Int) (o : List CellD) : fallOf b G K c o = fallOf b' G K c o := by
  have : fallEnd b = fallEnd b' := by funext z; cases z <;> simp [fallEnd, h1]
  unfold fallOf
  rw [this, fallL_dims h2, h1]
theorem kindsB_dims {b b' : BoardD} (h : b.2.1 = b'.2.1) (hl : b.2.2.length = b'.2.2.length) (l : List FaultD) : kindsB b l = kindsB b' l := by simp only [kindsB, kindsOf, placeOf, h, hl]
theorem getD_part {o o' : List CellD} (h : o.map Prod.fst = o'.map Prod.fst) (i : Nat) : (List.getD o i (0, 0)).1 = (List.getD o' i (0, 0)).1 := by
  have := congrArg (fun l => l[i]?) h
  simp only [List.getElem?_map] at this
  simp only [List.getD]
  cases h1 : o[i]? <;> cases h2 : o'[i]? <;> simp [h1, h2] at this ⊢
  exact this
theorem board_on {b : BoardD} (hb : boardOK b = true) {o : List CellD} (ho : o.length = b.2.2.length) (hx : ∀ x ∈ o, cellOK x = true) : boardOK (b.1, b.2.1, o) = true := by
  obtain ⟨g1, g2, g3, g4, g5, g6⟩ := board_ok hb
  unfold boardOK
  have : (o.length : Int) = b.1 * b.2.1 := by omega
  simp only [g1, g2, g3, g4, this, and_self, decide_true, Bool.true_and]
  exact List.all_eq_true.2 hx
/-! ### One after the other -/
def colsOK (b : BoardD) (l : List Int) : Prop := ∀ c ∈ l, 0 ≤ c ∧ c < b.2.1
theorem kinds_none (b : BoardD) (i : Nat) : List.getD (kindsB b []) i 0 = 0 := by
  show List.getD (List.replicate b.2.2.length (0 : Int)) i 0 = 0
  simp only [List.getD, List.getElem?_replicate]
  split <;> rfl
theorem pass_step {b : BoardD} (hb : boardOK b = true) (G : List Int) {at' : Nat} {o : List CellD} (ho : o.length = b.2.2.length) (ha : at' < o.length) : passAt G at' o = stepAt G (kindsB b []) at' o :=
  restore_pass (l := []) hb rfl G ho ha (fun i _ h => by rw [kinds_none] at h; cases h)
theorem e_spec_flGo_0 (b : BoardD) (hb : boardOK b = true) (G : List Int) (hG : G.length = b.2.2.length) (d1 d2 d3 d4 d5 : Int) (o4 : List CellD) : ∀ (n : Nat) (row col side : Int) (o : List CellD) (q : List (List Int)), row + n = b.1 → 0 ≤ row → 0 ≤ col → col < b.2.1 → -1 ≤ side → side ≤ 1 → o.length = b.2.2.length → (∀ x ∈ o, cellOK x = true) → (q.length : Int) = row →
    ∃ p, Ev (fun k => f_spec_flGo_0 k b.1 b.2.1 b.2.2 d1 d2 d3 d4 d5 o4 b.1 b.2.1 o q G col side row) ((fallL b G (kindsB b []) n row col side o).map2 (fun z => (b.1, b.2.1, b.2.2, d1, d2, d3, d4, d5, o4, b.1, b.2.1, z.2, p, z.1)) (fun r => (r.1, (b.1, b.2.1, r.2), p)))
  | 0, row, col, side, o, q, hn, hr, hc, hc2, hs, hs2, ho, hx, hq => by
    refine ⟨q, Ev.succ ?_⟩
    have : ¬ row < b.1 := by omega
    simp only [f_spec_flGo_0, this, decide_false, Bool.false_eq_true, if_false, fallL, LR.map2]
    exact Ev.some _
  | n + 1, row, col, side, o, q, hn, hr, hc, hc2, hs, hs2, ho, hx, hq => by
    obtain ⟨g1, g2, g3, g4, g5, g6⟩ := board_ok hb
    have hpp := prod_small g1 g2 g3 g4
    have hrow : row < b.1 := by omega
    have hp := place_ok hb hr hrow hc hc2
    have hoI : row * b.2.1 + col < (o.length : Int) := by omega
    have hcast : ((row * b.2.1 + col).toNat : Int) = row * b.2.1 + col := Int.toNat_of_nonneg hp.1
    have hxo := hx _ (cell_in hp.1 hoI (0, 0))
    have hgo := goesOf_in hxo hs hs2
    have hpass := e_spec_flPass b.1 b.2.1 o G (row * b.2.1 + col).toNat (by omega) (by omega) (by omega) hx
    rw [hcast, pass_step hb G ho (by omega)] at hpass
    have hql : q.length + 1 ≤ 140737488355328 / 24 := by omega
    have hk2 : ¬ (0 : Int) = 2 := by omega
    have hk3 : ¬ (0 : Int) = 3 := by omega
    generalize hX : List.getD o (row * b.2.1 + col).toNat (0, 0) = X at *
    have start : ∀ {v : List (List Int) → LR (Int × Int × List CellD × Int × Int × Int × Int × Int × List CellD × Int × Int × List CellD × List (List Int) × Int) (FallD × BoardD × List (List Int))}, (∃ p, Ev (fun k => if decide (X.1 = 5) = true then Option.bind (f_spec_flGo_g10 k d1 d2 d3 d4 d5 o4 b.1 b.2.1 o (q ++ [[row, col]]) col row) fun z2 => some (LR.ret ((z2.1, z2.2.1, z2.2.2.1), (z2.2.2.2.1, z2.2.2.2.2.1, z2.2.2.2.2.2.1), z2.2.2.2.2.2.2))
        else Option.bind (f_spec_paGoes k X side) fun z3 => Option.bind (f_spec_flPass k (b.1, b.2.1, o) G (row * b.2.1 + col)) fun z4 => Option.bind (f_spec_l1In k (wrap64 (col + z3)) (0 : Int) (b.2.1 - 1)) fun z5 => if (!z5) = true then Option.bind (f_spec_flGo_g16 k d1 d2 d3 d4 d5 o4 b.1 b.2.1 z4 (q ++ [[row, col]]) (wrap64 (col + z3)) row) fun z6 => some (LR.ret ((z6.1, z6.2.1, z6.2.2.1), (z6.2.2.2.1, z6.2.2.2.2.1, z6.2.2.2.2.2.1), z6.2.2.2.2.2.2)) else f_spec_flGo_0 k b.1 b.2.1 b.2.2 d1 d2 d3 d4 d5 o4 b.1 b.2.1 z4 (q ++ [[row, col]]) G (wrap64 (col + z3)) (wrap64 ((0 : Int) - z3)) (wrap64 (row + (1 : Int)))) (v p)) →
        ∃ p, Ev (fun k => f_spec_flGo_0 k b.1 b.2.1 b.2.2 d1 d2 d3 d4 d5 o4 b.1 b.2.1 o q G col side row) (v p) := by
      rintro v ⟨p, h⟩
      refine ⟨p, Ev.succ ?_⟩
      simp only [f_spec_flGo_0, hrow, decide_true, if_true, List.length_singleton, hql]
      rw [w64 (n := row * b.2.1) (by omega) (by omega), w64 (n := row * b.2.1 + col) (by omega) (by omega), w64 (n := b.2.1 - 1) (by omega) (by omega)]
      have := e_spec_boAt_on b hb o ho hr hrow hc hc2
      rw [hX] at this
      exact Ev.bind this h
    refine start ?_
    simp only [fallL, hX, kinds_none, hk2, hk3, if_false]
    by_cases h5 : X.1 = 5
    · refine ⟨q ++ [[row, col]], ?_⟩
      simp only [h5, decide_true, if_true, f_spec_flGo_g10]
      exact Ev.bind (Ev.some _) (Ev.some _)
    simp only [h5, decide_false, Bool.false_eq_true, if_false]
    generalize hgg : goesOf X side = g at *
    have hgo' := e_spec_paGoes X side hxo hs hs2
    rw [hgg] at hgo'
    by_cases hin : 0 ≤ col + g ∧ col + g < b.2.1
    · rw [if_pos hin]
      obtain ⟨p, ih⟩ := e_spec_flGo_0 b hb G hG d1 d2 d3 d4 d5 o4 n (row + 1) (col + g) (0 - g) (stepAt G (kindsB b []) (row * b.2.1 + col).toNat o) (q ++ [[row, col]]) (by omega) (by omega) (by omega) (by omega) (by omega) (by omega) (by rw [stepAt_len]; exact ho) (stepAt_ok G _ hx) (by simp; omega)
      refine ⟨p, Ev.bind hgo' (Ev.bind hpass ?_)⟩
      rw [w64 (n := col + g) (by omega) (by omega), w64 (n := 0 - g) (by omega) (by omega), w64 (n := row + 1) (by omega) (by omega)]
      refine Ev.bind (e_spec_l1In _ _ _) (Ev.ite (fun hh => ?_) (fun hh => ih))
      have hh : ¬ (0 ≤ col + g ∧ col + g ≤ b.2.1 - 1) := nd hh
      omega
    · rw [if_neg hin]
      refine ⟨q ++ [[row, col]], Ev.bind hgo' (Ev.bind hpass ?_)⟩
      rw [w64 (n := col + g) (by omega) (by omega)]
      refine Ev.bind (e_spec_l1In _ _ _) (Ev.ite (fun hh => ?_) (fun hh => ?_))
      · simp only [f_spec_flGo_g16]
        exact Ev.bind (Ev.some _) (Ev.some _)
      · have hh : 0 ≤ col + g ∧ col + g ≤ b.2.1 - 1 := yd hh
        omega
theorem e_spec_flGo (b : BoardD) (hb : boardOK b = true) (G : List Int) (hG : G.length = b.2.2.length) (col : Int) (hc : 0 ≤ col) (hc2 : col < b.2.1) : ∃ p, Ev (fun k => f_spec_flGo k b G col) ((fallOf b G (kindsB b []) col b.2.2).1, (b.1, b.2.1, (fallOf b G (kindsB b []) col b.2.2).2), p) := by
  obtain ⟨g1, g2, g3, g4, g5, g6⟩ := board_ok hb
  have hpp := prod_small g1 g2 g3 g4
  obtain ⟨p, h⟩ := e_spec_flGo_0 b hb G hG 0 0 0 0 0 [] b.1.toNat 0 col 0 b.2.2 [] (by omega) (by omega) hc hc2 (by omega) (by omega) rfl g6 rfl
  refine ⟨p, Ev.succ ?_⟩
  simp only [f_spec_flGo]
  refine Ev.bind (e_spec_boOwn b (by omega)) (Ev.bind h ?_)
  unfold fallOf
  cases fallL b G (kindsB b []) b.1.toNat 0 col 0 b.2.2 with
  | go z =>
    refine Ev.go ?_
    simp only [f_spec_flGo_g17]
    exact Ev.bind (Ev.some _) (Ev.some _)
  | ret r => exact Ev.ret (Ev.some _)
theorem e_impl_turnGroup_0 (R C : Int) (G : List Int) (at' : Nat) : ∀ (r pre : List CellD), (pre ++ r).length ≤ 1000 → at' < (pre ++ r).length → G.length = (pre ++ r).length → (∀ x ∈ r, cellOK x = true) →
    Ev (fun k => f_impl_turnGroup_0 k (pre ++ r) R C G (at' : Int) ((pre ++ r).length : Int) (pre.length : Int)) (pre ++ passGo G (List.getD G at' 0) pre.length r)
  | [], pre, hl, ha, hG, hx => by
    refine Ev.succ ?_
    simp only [f_impl_turnGroup_0, nlt_end, decide_false, Bool.false_eq_true, if_false, passGo]
    exact Ev.some _
  | x :: r, pre, hl, ha, hG, hx => by
    have hn := next_mid pre x r (by omega)
    have hlt := lt_mid pre x r
    have hGl : (pre.length : Int) < (G.length : Int) := by rw [hG]; exact hlt
    have ha0 : (0 : Int) ≤ (at' : Int) := Int.natCast_nonneg _
    have ha1 : (at' : Int) < ((pre ++ x :: r).length : Int) := by omega
    have haG : (at' : Int) < (G.length : Int) := by rw [hG]; exact ha1
    obtain ⟨c1, c2, c3⟩ := cell_two (hx x (List.mem_cons_self ..))
    have hr' : ∀ y ∈ r, cellOK y = true := fun y hy => hx y (List.mem_cons_of_mem _ hy)
    have next : ∀ y : CellD, Ev (fun k => f_impl_turnGroup_0 k (pre ++ y :: r) R C G (at' : Int) ((pre ++ x :: r).length : Int) ((pre ++ [x]).length : Int)) (pre ++ y :: passGo G (List.getD G at' 0) (pre.length + 1) r) := by
      intro y
      have ih := e_impl_turnGroup_0 R C G at' r (pre ++ [y]) (by simpa using hl) (by simpa using ha) (by simpa using hG) hr'
      have e1 : ((pre ++ [y] ++ r).length : Int) = ((pre ++ x :: r).length : Int) := by simp
      have e2 : ((pre ++ [y]).length : Int) = ((pre ++ [x]).length : Int) := by simp
      have e3 : (pre ++ [y]).length = pre.length + 1 := by simp
      rw [e1, e2, e3, ← shift_mid, ← shift_mid] at ih
      exact ih
    refine Ev.succ ?_
    simp only [f_impl_turnGroup_0, lt_mid, ge_mid, decide_true, if_true, Int.toNat_natCast, getD_mid, set_mid, hn, hGl, ha0, haG]
    rw [w64 (n := 1 - x.2) (by omega) (by omega)]
    simp only [passGo]
    refine Ev.ite (fun h1 => Ev.ite (fun h2 => ?_) (fun h2 => ?_)) (fun h1 => ?_)
    · simp only [decide_eq_true_eq] at h1 h2
      rw [if_pos ⟨h1, h2⟩]
      exact next (flip1 x)
    · simp only [decide_eq_true_eq] at h2
      rw [if_neg (fun hc => h2 hc.2)]
      exact next x
    · simp only [decide_eq_true_eq] at h1
      rw [if_neg (fun hc => h1 hc.1)]
      exact next x
theorem e_impl_turnGroup (R C : Int) (o : List CellD) (G : List Int) (at' : Nat) (hl : o.length ≤ 1000) (ha : at' < o.length) (hG : G.length = o.length) (hx : ∀ x ∈ o, cellOK x = true) : Ev (fun k => f_impl_turnGroup k (R, C, o) G (at' : Int)) (passGo G (List.getD G at' 0) 0 o) := by
  refine Ev.succ ?_
  simp only [f_impl_turnGroup]
  exact Ev.bind (e_impl_turnGroup_0 R C G at' o [] hl ha hG hx) (Ev.some _)
theorem e_impl_drop_0 (b : BoardD) (hb : boardOK b = true) (G : List Int) (hG : G.length = b.2.2.length) (c0 c1 c2 : Int) : ∀ (n : Nat) (row col side : Int) (o : List CellD) (q : List Int), row + n = b.1 → 0 ≤ row → 0 ≤ col → col < b.2.1 → -1 ≤ side → side ≤ 1 → o.length = b.2.2.length → (∀ x ∈ o, cellOK x = true) → (q.length : Int) = row →
    ∃ p, Ev (fun k => f_impl_drop_0 k o b.1 b.2.1 c0 c1 c2 q G col side row) ((fallL b G (kindsB b []) n row col side o).map2 (fun z => (z.2, b.1, b.2.1, c0, c1, c2, p, z.1)) (fun r => (r.1, p, r.2)))
  | 0, row, col, side, o, q, hn, hr, hc, hc2, hs, hs2, ho, hx, hq => by
    refine ⟨q, Ev.succ ?_⟩
    have : ¬ row < b.1 := by omega
    simp only [f_impl_drop_0, this, decide_false, Bool.false_eq_true, if_false, fallL, LR.map2]
    exact Ev.some _
  | n + 1, row, col, side, o, q, hn, hr, hc, hc2, hs, hs2, ho, hx, hq => by
    obtain ⟨g1, g2, g3, g4, g5, g6⟩ := board_ok hb
    have hpp := prod_small g1 g2 g3 g4
    have hrow : row < b.1 := by omega
    have hp := place_ok hb hr hrow hc hc2
    have hoI : row * b.2.1 + col < (o.length : Int) := by omega
    have hcast : ((row * b.2.1 + col).toNat : Int) = row * b.2.1 + col := Int.toNat_of_nonneg hp.1
    have hxo := hx _ (cell_in hp.1 hoI (0, 0))
    have hgo := goesOf_in hxo hs hs2
    have hgt := e_impl_GoesTo (List.getD o (row * b.2.1 + col).toNat (0, 0)) side hxo hs hs2
    have hturn := e_impl_turnGroup b.1 b.2.1 o G (row * b.2.1 + col).toNat (by omega) (by omega) (by omega) hx
    rw [hcast] at hturn
    have hpass := pass_step hb G ho (show (row * b.2.1 + col).toNat < o.length by omega)
    unfold passAt at hpass
    have hql : q.length + 1 ≤ 140737488355328 / 8 := by omega
    have hk2 : ¬ (0 : Int) = 2 := by omega
    have hk3 : ¬ (0 : Int) = 3 := by omega
    obtain ⟨cc1, cc2, cc3⟩ := cell_two hxo
    simp only [fallL, kinds_none, hk2, hk3, if_false]
    generalize hS : stepAt G (kindsB b []) (row * b.2.1 + col).toNat o = S at *
    have hSl : S.length = b.2.2.length := by rw [← hS, stepAt_len]; exact ho
    have hSx : ∀ x ∈ S, cellOK x = true := by rw [← hS]; exact stepAt_ok G _ hx
    generalize hX : List.getD o (row * b.2.1 + col).toNat (0, 0) = X at *
    by_cases h5 : X.1 = 5
    · refine ⟨q ++ [row * b.2.1 + col], Ev.succ ?_⟩
      simp only [f_impl_drop_0, hrow, decide_true, if_true, List.length_singleton, hql]
      rw [w64 (n := row * b.2.1) (by omega) (by omega), w64 (n := row * b.2.1 + col) (by omega) (by omega)]
      simp only [hp.1, hoI, if_true, hX]
      refine Ev.bind hgt ?_
      simp only [h5, if_true, Bool.not_false]
      exact Ev.some _
    simp only [h5, if_false] at hgt ⊢
    generalize goesOf X side = g at *
    have tail : ∃ p, ∀ o', o' = S → Ev (fun k => if decide (wrap64 (col + g) < 0) = true then some (LR.ret ((3, row, wrap64 (col + g)), q ++ [row * b.2.1 + col], o')) else if decide (wrap64 (col + g) ≥ b.2.1) = true then some (LR.ret ((3, row, wrap64 (col + g)), q ++ [row * b.2.1 + col], o')) else f_impl_drop_0 k o' b.1 b.2.1 c0 c1 c2 (q ++ [row * b.2.1 + col]) G (wrap64 (col + g)) (wrap64 (0 - g)) (wrap64 (row + 1)))
        (LR.map2 (fun z => (z.2, b.1, b.2.1, c0, c1, c2, p, z.1)) (fun r => (r.1, p, r.2)) (if 0 ≤ col + g ∧ col + g < b.2.1 then fallL b G (kindsB b []) n (row + 1) (col + g) (0 - g) S else .ret ((3, row, col + g), S))) := by
      rw [w64 (n := col + g) (by omega) (by omega), w64 (n := 0 - g) (by omega) (by omega), w64 (n := row + 1) (by omega) (by omega)]
      by_cases hin : 0 ≤ col + g ∧ col + g < b.2.1
      · obtain ⟨p, ih⟩ := e_impl_drop_0 b hb G hG c0 c1 c2 n (row + 1) (col + g) (0 - g) S (q ++ [row * b.2.1 + col]) (by omega) (by omega) (by omega) (by omega) (by omega) (by omega) hSl hSx (by simp; omega)
        refine ⟨p, fun o' ho' => ?_⟩
        subst ho'
        rw [if_pos hin]
        refine Ev.ite (fun h => ?_) (fun _ => Ev.ite (fun h => ?_) (fun _ => ih))
        · simp only [decide_eq_true_eq] at h; omega
        · simp only [decide_eq_true_eq] at h; omega
      · refine ⟨q ++ [row * b.2.1 + col], fun o' ho' => ?_⟩
        subst ho'
        rw [if_neg hin]
        refine Ev.ite (fun _ => Ev.some _) (fun h => Ev.ite (fun _ => Ev.some _) (fun h2 => ?_))
        simp only [decide_eq_true_eq] at h h2
        omega
    obtain ⟨p, tail⟩ := tail
    refine ⟨p, Ev.succ ?_⟩
    simp only [f_impl_drop_0, hrow, decide_true, if_true, List.length_singleton, hql]
    rw [w64 (n := row * b.2.1) (by omega) (by omega), w64 (n := row * b.2.1 + col) (by omega) (by omega)]
    simp only [hp.1, hoI, if_true, hX]
    rw [w64 (n := 1 - X.2) (by omega) (by omega)]
    refine Ev.bind hgt ?_
    simp only [Bool.not_true, Bool.false_eq_true, if_false]
    by_cases h3 : X.1 = 3
    · have h36 : ¬ (3 : Int) = 6 := by omega
      simp only [h3, decide_true, if_true, h36, decide_false, Bool.false_eq_true, if_false]
      rw [if_pos h3] at hpass
      refine tail _ ?_
      rw [← hpass]
      simp [flip1, h3]
    · simp only [h3, decide_false, Bool.false_eq_true, if_false]
      rw [if_neg h3] at hpass
      by_cases h6 : X.1 = 6
      · simp only [h6, decide_true, if_true]
        rw [if_pos h6] at hpass
        exact Ev.bind hturn (tail _ hpass)
      · simp only [h6, decide_false, Bool.false_eq_true, if_false]
        rw [if_neg h6] at hpass
        exact tail _ hpass
theorem e_impl_drop (b : BoardD) (hb : boardOK b = true) (G : List Int) (hG : G.length = b.2.2.length) (col : Int) (hc : 0 ≤ col) (hc2 : col < b.2.1) (o : List CellD) (ho : o.length = b.2.2.length) (hx : ∀ x ∈ o, cellOK x = true) : ∃ p, Ev (fun k => f_impl_drop k (b.1, b.2.1, o) G col) ((fallOf b G (kindsB b []) col o).1, p, (fallOf b G (kindsB b []) col o).2) := by
  obtain ⟨g1, g2, g3, g4, g5, g6⟩ := board_ok hb
  obtain ⟨p, h⟩ := e_impl_drop_0 b hb G hG 0 0 0 b.1.toNat 0 col 0 o [] (by omega) (by omega) hc hc2 (by omega) (by omega) ho hx rfl
  refine ⟨p, Ev.succ ?_⟩
  simp only [f_impl_drop]
  refine Ev.bind h ?_
  unfold fallOf
  cases fallL b G (kindsB b []) b.1.toNat 0 col 0 o with
  | go z => exact Ev.go (Ev.some _)
  | ret r => exact Ev.ret (Ev.some _)
end Go.Proofs.Ytjjlmnbmpgfcbaa.Vs

set_option linter.unusedVariables false
set_option linter.unusedSimpArgs false
namespace Go.Proofs.Ytjjlmnbmpgfcbaa.Vs
open Go.RowKit
/-! ### The groups: they depend on the parts alone, and their numbers -/
theorem geared_part {x y : CellD} (h : x.1 = y.1) : geared x = geared y := by unfold geared; rw [h]
theorem nears_parts {b b' : BoardD} (h1 : b.1 = b'.1) (h2 : b.2.1 = b'.2.1) (i : Int) : nears b i = nears b' i := by unfold nears; rw [h1, h2]
theorem visit_parts {b b' : BoardD} (h : b.2.2.map Prod.fst = b'.2.2.map Prod.fst) (v : Int) : visit b v = visit b' v := by
  funext G n
  unfold visit
  rw [geared_part (getD_part h n.toNat)]
theorem bfs_parts {b b' : BoardD} (h1 : b.1 = b'.1) (h2 : b.2.1 = b'.2.1) (h : b.2.2.map Prod.fst = b'.2.2.map Prod.fst) (v : Int) : ∀ (n : Nat) (o q : List Int), bfs b v n o q = bfs b' v n o q
  | 0, o, q => rfl
  | _ + 1, o, [] => rfl
  | n + 1, o, x :: q => by simp only [bfs]; rw [nears_parts h1 h2, visit_parts h, bfs_parts h1 h2 h v n]
theorem groupsFrom_parts {b b' : BoardD} (h1 : b.1 = b'.1) (h2 : b.2.1 = b'.2.1) (h : b.2.2.map Prod.fst = b'.2.2.map Prod.fst) : ∀ (r r' : List CellD) (i : Int) (o : List Int) (v : Int), r.map Prod.fst = r'.map Prod.fst → groupsFrom b i r o v = groupsFrom b' i r' o v
  | [], [], i, o, v, hr => rfl
  | [], y :: r', i, o, v, hr => by simp at hr
  | x :: r, [], i, o, v, hr => by simp at hr
  | x :: r, y :: r', i, o, v, hr => by
    simp only [List.map_cons, List.cons.injEq] at hr
    simp only [groupsFrom]
    rw [geared_part hr.1, bfs_parts h1 h2 h, groupsFrom_parts h1 h2 h r r' _ _ _ hr.2, groupsFrom_parts h1 h2 h r r' _ _ _ hr.2]
theorem len_of_parts {o o' : List CellD} (h : o.map Prod.fst = o'.map Prod.fst) : o.length = o'.length := by
  have := congrArg List.length h
  simpa using this
theorem groupsOf_parts {b b' : BoardD} (h1 : b.1 = b'.1) (h2 : b.2.1 = b'.2.1) (h : b.2.2.map Prod.fst = b'.2.2.map Prod.fst) : groupsOf b = groupsOf b' := by
  unfold groupsOf
  rw [len_of_parts h, groupsFrom_parts h1 h2 h _ _ _ _ _ h]
/-- What was told stays told. -/
def Told (o o' : List Int) : Prop := ∀ j : Nat, j < o.length → 0 ≤ List.getD o j 0 → 0 ≤ List.getD o' j 0
theorem Told.set {o : List Int} {v : Int} (hv : 0 ≤ v) (i : Nat) : Told o (List.set o i v) := by
  intro j hj h
  by_cases hi : i < o.length
  · rw [getD_set_if o i j v 0 hi]
    split
    · exact hv
    · exact h
  · rw [List.set_eq_of_length_le (by omega)]
    exact h
theorem Told.trans {o o' o2 : List Int} (h : Told o o') (hl : o'.length = o.length) (h2 : Told o' o2) : Told o o2 := fun j hj h0 => h2 j (by omega) (h j hj h0)
theorem visit_told (b : BoardD) {v : Int} (hv : 0 ≤ v) (G : List Int × List Int) (n : Int) : Told G.1 (visit b v G n).1 := by
  unfold visit
  split
  · exact Told.set hv _
  · exact fun _ _ h => h
theorem visits_told (b : BoardD) {v : Int} (hv : 0 ≤ v) : ∀ (r : List Int) (G : List Int × List Int), Told G.1 (r.foldl (visit b v) G).1
  | [], G => fun _ _ h => h
  | n :: r, G => (visit_told b hv G n).trans (visit_len b v G n) (visits_told b hv r _)
theorem bfs_told (b : BoardD) {v : Int} (hv : 0 ≤ v) : ∀ (n : Nat) (o q : List Int), Told o (bfs b v n o q)
  | 0, o, q => fun _ _ h => h
  | _ + 1, o, [] => fun _ _ h => h
  | n + 1, o, x :: q => by
    simp only [bfs]
    exact (visits_told b hv (nears b x) (o, [])).trans (visits_len b v _ _) (bfs_told b hv n _ _)
theorem groupsFrom_told (b : BoardD) : ∀ (r : List CellD) (i : Int) (o : List Int) (v : Int), 0 ≤ v → Told o (groupsFrom b i r o v)
  | [], i, o, v, hv => fun _ _ h => h
  | x :: r, i, o, v, hv => by
    simp only [groupsFrom]
    split
    · exact ((Told.set hv _).trans (by simp) ((bfs_told b hv 200 _ _))).trans (by rw [bfs_len]; simp) (groupsFrom_told b r _ _ _ (by omega))
    · exact groupsFrom_told b r _ _ _ hv
theorem groupsFrom_geared (b : BoardD) : ∀ (r pre : List CellD) (o : List Int) (v : Int), 0 ≤ v → o.length = (pre ++ r).length → ∀ j : Nat, j < r.length → geared (List.getD r j (0, 0)) = true → 0 ≤ List.getD (groupsFrom b pre.length r o v) (pre.length + j) 0
  | [], pre, o, v, hv, ho, j, hj, hg => by simp at hj
  | x :: r, pre, o, v, hv, ho, 0, hj, hg => by
    have hg' : geared x = true := hg
    have hpl : pre.length < o.length := by rw [ho]; simp
    simp only [groupsFrom, hg', Bool.true_and, Nat.add_zero, Int.toNat_natCast, decide_eq_true_eq]
    split
    · refine groupsFrom_told b r _ _ _ (by omega) _ (by rw [bfs_len]; simpa using hpl) (bfs_told b hv 200 _ _ _ (by simpa using hpl) ?_)
      rw [getD_set_if o _ _ v 0 hpl, if_pos rfl]
      exact hv
    · exact groupsFrom_told b r _ _ _ hv _ hpl (by omega)
  | x :: r, pre, o, v, hv, ho, j + 1, hj, hg => by
    have ih := fun (o2 : List Int) (v2 : Int) (h2 : 0 ≤ v2) (hl : o2.length = o.length) => groupsFrom_geared b r (pre ++ [x]) o2 v2 h2 (by rw [hl, ho]; simp) j (by simpa using hj) (by simpa using hg)
    simp only [List.length_append, List.length_singleton] at ih
    have e1 : ((pre.length + 1 : Nat) : Int) = (pre.length : Int) + 1 := by omega
    have e2 : pre.length + 1 + j = pre.length + (j + 1) := by omega
    simp only [groupsFrom]
    rw [e1, e2] at ih
    split
    · exact ih _ _ (by omega) (by rw [bfs_len]; simp)
    · exact ih _ _ hv rfl
theorem groups_geared (b : BoardD) {j : Nat} (hj : j < b.2.2.length) (hg : geared (List.getD b.2.2 j (0, 0)) = true) : 0 ≤ List.getD (groupsOf b) j 0 := by
  have := groupsFrom_geared b b.2.2 [] (List.replicate b.2.2.length (-1)) 0 (Int.le_refl 0) (by simp) j hj hg
  simpa [groupsOf] using this
theorem set_all {P : Int → Prop} {o : List Int} (h : ∀ x ∈ o, P x) {v : Int} (hv : P v) (i : Nat) : ∀ x ∈ List.set o i v, P x := fun x hx => by
  rcases List.mem_or_eq_of_mem_set hx with h1 | rfl
  · exact h x h1
  · exact hv
theorem visits_all (b : BoardD) {P : Int → Prop} {v : Int} (hv : P v) : ∀ (r : List Int) (G : List Int × List Int), (∀ x ∈ G.1, P x) → ∀ x ∈ (r.foldl (visit b v) G).1, P x
  | [], G, h => h
  | n :: r, G, h => visits_all b hv r _ (by unfold visit; split; exact set_all h hv _; exact h)
theorem bfs_all (b : BoardD) {P : Int → Prop} {v : Int} (hv : P v) : ∀ (n : Nat) (o q : List Int), (∀ x ∈ o, P x) → ∀ x ∈ bfs b v n o q, P x
  | 0, o, q, h => h
  | _ + 1, o, [], h => h
  | n + 1, o, x :: q, h => by
    simp only [bfs]
    exact bfs_all b hv n _ _ (visits_all b hv _ (o, []) h)
theorem groupsFrom_below (b : BoardD) (m : Int) : ∀ (r : List CellD) (i : Int) (o : List Int) (v : Int), v + r.length ≤ m → (∀ x ∈ o, x < m) → ∀ x ∈ groupsFrom b i r o v, x < m
  | [], i, o, v, hv, h => h
  | y :: r, i, o, v, hv, h => by
    simp only [List.length_cons] at hv
    simp only [groupsFrom]
    split
    · exact groupsFrom_below b m r _ _ _ (by omega) (bfs_all b (P := fun x => x < m) (show v < m by omega) 200 _ _ (set_all (P := fun x => x < m) h (show v < m by omega) _))
    · exact groupsFrom_below b m r _ _ _ (by omega) h
theorem groups_below (b : BoardD) : ∀ x ∈ groupsOf b, x < (b.2.2.length : Int) := by
  by_cases h0 : b.2.2.length = 0
  · intro x hx
    have : groupsOf b = [] := List.eq_nil_of_length_eq_zero (by rw [groupsOf_len]; exact h0)
    rw [this] at hx
    cases hx
  · refine groupsFrom_below b _ _ _ _ _ (by omega) ?_
    intro x hx
    rw [(List.mem_replicate.1 hx).2]
    omega
/-! ### Units -/
def unitsGo (G : List Int) : Int → List CellD → List Int → List (List Int) → List (List Int)
  | _, [], _, o => o
  | i, x :: r, N, o => if x.1 = 3 then unitsGo G (i + 1) r N (o ++ [[i]]) else if x.1 = 6 then (if List.getD N (List.getD G i.toNat 0).toNat 0 < 0 then unitsGo G (i + 1) r (List.set N (List.getD G i.toNat 0).toNat (o.length : Int)) (o ++ [[i]])
      else unitsGo G (i + 1) r N (List.set o (List.getD N (List.getD G i.toNat 0).toNat 0).toNat (List.getD o (List.getD N (List.getD G i.toNat 0).toNat 0).toNat [] ++ [i]))) else unitsGo G (i + 1) r N o
def unitsP (b : BoardD) : List (List Int) := unitsGo (groupsOf b) 0 b.2.2 (List.replicate b.2.2.length (-1)) []
theorem unitsGo_parts (G : List Int) : ∀ (r r' : List CellD) (i : Int) (N : List Int) (o : List (List Int)), r.map Prod.fst = r'.map Prod.fst → unitsGo G i r N o = unitsGo G i r' N o
  | [], [], i, N, o, hr => rfl
  | [], y :: r', i, N, o, hr => by simp at hr
  | x :: r, [], i, N, o, hr => by simp at hr
  | x :: r, y :: r', i, N, o, hr => by
    simp only [List.map_cons, List.cons.injEq] at hr
    simp only [unitsGo, hr.1]
    rw [unitsGo_parts G r r' _ _ _ hr.2, unitsGo_parts G r r' _ _ _ hr.2, unitsGo_parts G r r' _ _ _ hr.2, unitsGo_parts G r r' _ _ _ hr.2]
theorem unitsP_parts {b b' : BoardD} (h1 : b.1 = b'.1) (h2 : b.2.1 = b'.2.1) (h : b.2.2.map Prod.fst = b'.2.2.map Prod.fst) : unitsP b = unitsP b' := by
  unfold unitsP
  rw [groupsOf_parts h1 h2 h, len_of_parts h, unitsGo_parts _ _ _ _ _ _ h]
/-- What is so of units: none is empty, each holds places of turning cells once, and no place lies in two. -/
structure UnitsOK (L : List CellD) (i : Int) (o : List (List Int)) : Prop where
  some : ∀ u ∈ o, u ≠ []
  on : ∀ u ∈ o, ∀ m ∈ u, 0 ≤ m ∧ m < i ∧ turning (List.getD L m.toNat (0, 0)) = true
  once : ∀ u ∈ o, u.Nodup
  no : ∃ f : Int → Nat, ∀ (k : Nat) u, o[k]? = Option.some u → ∀ m ∈ u, f m = k
theorem UnitsOK.next {L : List CellD} {i : Int} {o : List (List Int)} (h : UnitsOK L i o) : UnitsOK L (i + 1) o :=
  ⟨h.some, fun u hu m hm => by obtain ⟨a, b, c⟩ := h.on u hu m hm; exact ⟨a, by omega, c⟩, h.once, h.no⟩
theorem UnitsOK.fresh {L : List CellD} {i : Int} {o : List (List Int)} (h : UnitsOK L i o) (h0 : 0 ≤ i) (ht : turning (List.getD L i.toNat (0, 0)) = true) : UnitsOK L (i + 1) (o ++ [[i]]) := by
  obtain ⟨f, hf⟩ := h.no
  refine ⟨fun u hu => ?_, fun u hu m hm => ?_, fun u hu => ?_, fun m => if m = i then o.length else f m, fun k u hk m hm => ?_⟩
  · rcases List.mem_append.1 hu with hu | hu
    · exact h.some u hu
    · rw [List.mem_singleton.1 hu]; simp
  · rcases List.mem_append.1 hu with hu | hu
    · exact h.next.on u hu m hm
    · rw [List.mem_singleton.1 hu] at hm
      rw [List.mem_singleton.1 hm]
      exact ⟨h0, by omega, ht⟩
  · rcases List.mem_append.1 hu with hu | hu
    · exact h.once u hu
    · rw [List.mem_singleton.1 hu]; simp
  · rcases Nat.lt_or_ge k o.length with hlt | hge
    · rw [List.getElem?_append_left hlt] at hk
      have h1 := (h.on u (List.mem_of_getElem? hk) m hm).2.1
      simp only [show ¬ m = i by omega, if_false]
      exact hf k u hk m hm
    · rw [List.getElem?_append_right hge] at hk
      have h2 := (List.getElem?_eq_some_iff.1 hk).1
      simp at h2
      have : k = o.length := by omega
      subst this
      simp at hk
      subst hk
      simp [List.mem_singleton.1 hm]
theorem UnitsOK.join {L : List CellD} {i : Int} {o : List (List Int)} (h : UnitsOK L i o) (h0 : 0 ≤ i) (ht : turning (List.getD L i.toNat (0, 0)) = true) {n : Nat} (hn : n < o.length) : UnitsOK L (i + 1) (List.set o n (List.getD o n [] ++ [i])) := by
  obtain ⟨f, hf⟩ := h.no
  have hg : List.getD o n [] = o[n] := by simp [List.getD, List.getElem?_eq_getElem hn]
  rw [hg]
  have hin : o[n] ∈ o := List.getElem_mem hn
  have split : ∀ u ∈ List.set o n (o[n] ++ [i]), u ∈ o ∨ u = o[n] ++ [i] := fun u hu => List.mem_or_eq_of_mem_set hu
  refine ⟨fun u hu => ?_, fun u hu m hm => ?_, fun u hu => ?_, fun m => if m = i then n else f m, fun k u hk m hm => ?_⟩
  · rcases split u hu with hu | rfl
    · exact h.some u hu
    · simp
  · rcases split u hu with hu | rfl
    · exact h.next.on u hu m hm
    · rcases List.mem_append.1 hm with hm | hm
      · exact h.next.on _ hin m hm
      · rw [List.mem_singleton.1 hm]
        exact ⟨h0, by omega, ht⟩
  · rcases split u hu with hu | rfl
    · exact h.once u hu
    · rw [List.nodup_append]
      refine ⟨h.once _ hin, by simp, fun a ha b hb => ?_⟩
      rw [List.mem_singleton.1 hb]
      have := (h.on _ hin a ha).2.1
      omega
  · rw [List.getElem?_set] at hk
    split at hk
    · rename_i hnk
      subst hnk
      injection hk with hk
      subst hk
      rcases List.mem_append.1 hm with hm | hm
      · have h1 := (h.on _ hin m hm).2.1
        simp only [show ¬ m = i by omega, if_false]
        exact hf n _ (List.getElem?_eq_getElem hn) m hm
      · simp [List.mem_singleton.1 hm]
    · have h1 := (h.on u (List.mem_of_getElem? hk) m hm).2.1
      simp only [show ¬ m = i by omega, if_false]
      exact hf k u hk m hm
/-- The numbers of groups that have a unit are below the number of units. -/
def Below (N : List Int) (n : Nat) : Prop := ∀ x ∈ N, -1 ≤ x ∧ x < (n : Int)
theorem Below.more {N : List Int} {n m : Nat} (h : Below N n) (hm : n ≤ m) : Below N m := fun x hx => ⟨(h x hx).1, by have := (h x hx).2; omega⟩
theorem getD_mem {l : List Int} {i : Nat} (h : i < l.length) (d : Int) : List.getD l i d ∈ l := by
  simp only [List.getD, List.getElem?_eq_getElem h, Option.getD_some]
  exact List.getElem_mem h
theorem unitsGo_ok (b : BoardD) : ∀ (r pre : List CellD) (N : List Int) (o : List (List Int)), pre ++ r = b.2.2 → N.length = b.2.2.length → Below N o.length → o.length ≤ pre.length → UnitsOK b.2.2 pre.length o → UnitsOK b.2.2 b.2.2.length (unitsGo (groupsOf b) pre.length r N o) ∧ (unitsGo (groupsOf b) pre.length r N o).length ≤ b.2.2.length
  | [], pre, N, o, hp, hN, hB, hlen, ho => by
    rw [List.append_nil] at hp
    subst hp
    exact ⟨ho, hlen⟩
  | x :: r, pre, N, o, hp, hN, hB, hlen, ho => by
    have hlt : pre.length < b.2.2.length := by rw [← hp]; simp
    have hx : List.getD b.2.2 pre.length (0, 0) = x := by rw [← hp]; exact getD_mid _ _ _ _
    have hcast : ((pre ++ [x]).length : Int) = (pre.length : Int) + 1 := by simp
    have h0 : (0 : Int) ≤ (pre.length : Int) := Int.natCast_nonneg _
    have hp' : (pre ++ [x]) ++ r = b.2.2 := by rw [← hp]; simp
    have ih := fun N o h1 h2 h3 h4 => unitsGo_ok b r (pre ++ [x]) N o hp' h1 h2 h3 h4
    rw [hcast] at ih
    simp only [unitsGo, Int.toNat_natCast]
    split
    · rename_i h3
      exact ih _ _ hN (hB.more (by simp)) (by simp; omega) (ho.fresh h0 (by rw [Int.toNat_natCast, hx]; simp [turning, h3]))
    · split
      · rename_i h6
        have hg : geared x = true := by simp [geared, h6]
        have ht : turning (List.getD b.2.2 (pre.length : Int).toNat (0, 0)) = true := by rw [Int.toNat_natCast, hx]; simp [turning, h6]
        have hG0 := groups_geared b hlt (by rw [hx]; exact hg)
        have hG1 := groups_below b _ (getD_mem (l := groupsOf b) (i := pre.length) (by rw [groupsOf_len]; exact hlt) 0)
        have hNl : (List.getD (groupsOf b) pre.length 0).toNat < N.length := by rw [hN]; omega
        have hNB := hB _ (getD_mem hNl 0)
        split
        · refine ih _ _ (by simpa using hN) ?_ (by simp; omega) (ho.fresh h0 ht)
          intro y hy
          rcases List.mem_or_eq_of_mem_set hy with hy | rfl
          · have := hB y hy
            simp only [List.length_append, List.length_singleton]
            omega
          · simp only [List.length_append, List.length_singleton]
            omega
        · refine ih _ _ hN (by rw [List.length_set]; exact hB) (by rw [List.length_set]; simp; omega) (ho.join h0 ht (by omega))
      · exact ih _ _ hN hB (by simp; omega) ho.next
theorem units_ok (b : BoardD) : UnitsOK b.2.2 b.2.2.length (unitsP b) ∧ (unitsP b).length ≤ b.2.2.length := by
  refine unitsGo_ok b b.2.2 [] (List.replicate b.2.2.length (-1)) [] rfl (by simp) (fun x hx => ?_) (Nat.le_refl _) ⟨by simp, by simp, by simp, fun _ => 0, by simp⟩
  rw [(List.mem_replicate.1 hx).2]
  simp
end Go.Proofs.Ytjjlmnbmpgfcbaa.Vs

set_option linter.unusedVariables false
set_option linter.unusedSimpArgs false
namespace Go.Proofs.Ytjjlmnbmpgfcbaa.Vs
open Go.RowKit
/-! ### Cells turned -/
def cellAt (o : List CellD) (m : Int) : CellD := List.getD o m.toNat (0, 0)
def flipC (x : CellD) : CellD := (x.1, 1 - x.2)
def flipAt (o : List CellD) (m : Int) : List CellD := List.set o m.toNat (flipC (cellAt o m))
def turnU (u : List Int) (o : List CellD) : List CellD := u.foldl flipAt o
theorem turnU_len : ∀ (u : List Int) (o : List CellD), (turnU u o).length = o.length
  | [], o => rfl
  | m :: u, o => by
    show (turnU u (flipAt o m)).length = _
    rw [turnU_len u]; simp [flipAt]
theorem cellAt_flip {o : List CellD} {i m : Int} (h0 : 0 ≤ i) (h1 : i < (o.length : Int)) (hm : 0 ≤ m) : cellAt (flipAt o i) m = if m = i then flipC (cellAt o m) else cellAt o m := by
  unfold flipAt cellAt
  rw [getD_set_if o i.toNat m.toNat _ _ (by omega)]
  by_cases h : m = i
  · subst h; simp
  · rw [if_neg h, if_neg (by omega)]
theorem cellAt_turnU : ∀ (u : List Int) (o : List CellD) (m : Int), (∀ i ∈ u, 0 ≤ i ∧ i < (o.length : Int)) → u.Nodup → 0 ≤ m → cellAt (turnU u o) m = if m ∈ u then flipC (cellAt o m) else cellAt o m
  | [], o, m, hi, hn, hm => by simp [turnU]
  | i :: u, o, m, hi, hn, hm => by
    obtain ⟨hn1, hn2⟩ := List.nodup_cons.1 hn
    obtain ⟨h0, h1⟩ := hi i (List.mem_cons_self ..)
    show cellAt (turnU u (flipAt o i)) m = _
    rw [cellAt_turnU u (flipAt o i) m (fun j hj => by have := hi j (List.mem_cons_of_mem _ hj); simpa [flipAt] using this) hn2 hm, cellAt_flip h0 h1 hm]
    by_cases hmi : m = i
    · subst hmi
      simp [hn1]
    · simp [hmi]
/-! ### Units with bits -/
def bitOf (o : List CellD) (u : List Int) : Int := (cellAt o (List.getD u 0 0)).2
def bitsP (o : List CellD) (us : List (List Int)) : List Int := us.map (bitOf o)
def setGo : List (List Int) → List Int → List CellD → List CellD
  | u :: us, x :: xs, o => setGo us xs (if bitOf o u = x then o else turnU u o)
  | _, _, o => o
/-- What is asked of units. -/
structure Units (us : List (List Int)) (n : Nat) : Prop where
  some : ∀ u ∈ us, u ≠ []
  on : ∀ u ∈ us, ∀ m ∈ u, 0 ≤ m ∧ m < (n : Int)
  once : ∀ u ∈ us, u.Nodup
  apart : us.Pairwise fun u v => ∀ m ∈ u, m ∉ v
theorem Units.tail {u : List Int} {us : List (List Int)} {n : Nat} (h : Units (u :: us) n) : Units us n :=
  ⟨fun v hv => h.some v (List.mem_cons_of_mem _ hv), fun v hv => h.on v (List.mem_cons_of_mem _ hv), fun v hv => h.once v (List.mem_cons_of_mem _ hv), (List.pairwise_cons.1 h.apart).2⟩
theorem UnitsOK.units {L : List CellD} {n : Nat} {us : List (List Int)} (h : UnitsOK L n us) : Units us n := by
  refine ⟨h.some, fun u hu m hm => ⟨(h.on u hu m hm).1, (h.on u hu m hm).2.1⟩, h.once, ?_⟩
  obtain ⟨f, hf⟩ := h.no
  rw [List.pairwise_iff_getElem]
  intro i j hi hj hij m hm hm2
  have h1 := hf i _ (List.getElem?_eq_getElem hi) m hm
  have h2 := hf j _ (List.getElem?_eq_getElem hj) m hm2
  omega
theorem head_mem {u : List Int} (h : u ≠ []) : List.getD u 0 0 ∈ u := by
  cases u with
  | nil => exact absurd rfl h
  | cons a u => simp
theorem bitOf_turned {us : List (List Int)} {u : List Int} {n : Nat} (h : Units (u :: us) n) {o : List CellD} (ho : o.length = n) {v : List Int} (hv : v ∈ us) : bitOf (turnU u o) v = bitOf o v := by
  have hin := head_mem (h.tail.some v hv)
  have hap := (List.pairwise_cons.1 h.apart).1 v hv
  unfold bitOf
  rw [cellAt_turnU u o _ (fun i hi => by have := h.on u (List.mem_cons_self ..) i hi; omega) (h.once u (List.mem_cons_self ..)) (h.tail.on v hv _ hin).1, if_neg (fun hm => hap _ hm hin)]
theorem setGo_len : ∀ (us : List (List Int)) (xs : List Int) (o : List CellD), (setGo us xs o).length = o.length
  | [], _, o => by simp [setGo]
  | u :: us, [], o => by simp [setGo]
  | u :: us, x :: xs, o => by
    simp only [setGo]
    rw [setGo_len us xs]
    split
    · rfl
    · exact turnU_len u o
def isBit (x : Int) : Prop := x = 0 ∨ x = 1
theorem flip_bit {x : CellD} (h : isBit x.2) : isBit (flipC x).2 := by
  rcases h with h | h <;> simp [isBit, flipC, h]
/-- Set to bits, cells are of the same parts, and cells. -/
theorem setGo_cells : ∀ (us : List (List Int)) (xs : List Int) (o : List CellD), (∀ u ∈ us, ∀ m ∈ u, 0 ≤ m ∧ m < (o.length : Int) ∧ turning (cellAt o m) = true) → (∀ c ∈ o, cellOK c = true) → (∀ c ∈ setGo us xs o, cellOK c = true) ∧ (setGo us xs o).map Prod.fst = o.map Prod.fst := by
  have one : ∀ (u : List Int) (o : List CellD), (∀ m ∈ u, 0 ≤ m ∧ m < (o.length : Int) ∧ turning (cellAt o m) = true) → (∀ c ∈ o, cellOK c = true) → (∀ c ∈ turnU u o, cellOK c = true) ∧ (turnU u o).map Prod.fst = o.map Prod.fst := by
    intro u
    induction u with
    | nil => intro o _ ho; exact ⟨ho, rfl⟩
    | cons i u ih =>
      intro o hu ho
      obtain ⟨h0, h1, ht⟩ := hu i (List.mem_cons_self ..)
      have hp : (flipAt o i).map Prod.fst = o.map Prod.fst := by
        have hil : i.toNat < o.length := by omega
        unfold flipAt
        rw [List.map_set]
        show List.set (o.map Prod.fst) i.toNat (cellAt o i).1 = _
        apply List.ext_getElem?
        intro j
        rw [List.getElem?_set]
        split
        · rename_i hij
          subst hij
          simp [cellAt, List.getD, List.getElem?_eq_getElem hil, hil]
        · rfl
      have hok : ∀ c ∈ flipAt o i, cellOK c = true := by
        intro c hc
        rcases List.mem_or_eq_of_mem_set hc with hc | rfl
        · exact ho c hc
        · have hx := ho _ (cell_in h0 h1 (0, 0))
          have hxx : cellOK (cellAt o i) = true := hx
          unfold turning at ht
          unfold cellOK flipC at *
          simp only [decide_eq_true_eq] at *
          omega
      have := ih (flipAt o i) (fun m hm => by
        obtain ⟨a, b, c⟩ := hu m (List.mem_cons_of_mem _ hm)
        refine ⟨a, by simpa [flipAt] using b, ?_⟩
        have : (cellAt (flipAt o i) m).1 = (cellAt o m).1 := getD_part hp _
        unfold turning at c ⊢
        rw [this]; exact c) hok
      exact ⟨this.1, this.2.trans hp⟩
  intro us
  induction us with
  | nil => intro xs o _ ho; exact ⟨by simpa [setGo] using ho, by simp [setGo]⟩
  | cons u us ih =>
    intro xs o hu ho
    cases xs with
    | nil => exact ⟨by simpa [setGo] using ho, by simp [setGo]⟩
    | cons x xs =>
      simp only [setGo]
      split
      · exact ih xs o (fun v hv => hu v (List.mem_cons_of_mem _ hv)) ho
      · obtain ⟨h1, h2⟩ := one u o (hu u (List.mem_cons_self ..)) ho
        have := ih xs (turnU u o) (fun v hv m hm => by
          obtain ⟨a, b, c⟩ := hu v (List.mem_cons_of_mem _ hv) m hm
          refine ⟨a, by rw [turnU_len]; exact b, ?_⟩
          have : (cellAt (turnU u o) m).1 = (cellAt o m).1 := getD_part h2 _
          unfold turning at c ⊢
          rw [this]; exact c) h1
        exact ⟨this.1, this.2.trans h2⟩
theorem cell_bit {x : CellD} (h : cellOK x = true) : isBit x.2 := by
  unfold cellOK at h
  simp only [decide_eq_true_eq] at h
  unfold isBit
  omega
/-! ### Numbers of bits -/
def numP : List Int → Int
  | [] => 0
  | x :: r => x + 2 * numP r
def bitsN : Nat → Int → List Int
  | 0, _ => []
  | u + 1, n => n % 2 :: bitsN u (n / 2)
theorem bitsN_len : ∀ (u : Nat) (n : Int), (bitsN u n).length = u
  | 0, _ => rfl
  | u + 1, n => by simp [bitsN, bitsN_len u]
theorem numP_range : ∀ (xs : List Int), (∀ x ∈ xs, isBit x) → 0 ≤ numP xs ∧ numP xs < 2 ^ xs.length
  | [], _ => by simp [numP]
  | x :: r, h => by
    have ih := numP_range r (fun y hy => h y (List.mem_cons_of_mem _ hy))
    have hx := h x (List.mem_cons_self ..)
    simp only [numP, List.length_cons, Int.pow_succ]
    unfold isBit at hx
    omega
theorem numP_snoc : ∀ (xs : List Int) (y : Int), numP (xs ++ [y]) = numP xs + y * 2 ^ xs.length
  | [], y => by simp [numP]
  | x :: r, y => by
    simp only [List.cons_append, numP, List.length_cons, Int.pow_succ]
    rw [numP_snoc r y, Int.mul_add, ← Int.mul_assoc y, Int.mul_comm (y * 2 ^ r.length) 2]
    omega
theorem bitsN_at : ∀ (u : Nat) (n : Int) (k : Nat), k < u → (bitsN u n)[k]? = some (n / 2 ^ k % 2)
  | 0, n, k, h => by omega
  | u + 1, n, 0, h => by simp [bitsN]
  | u + 1, n, k + 1, h => by
    simp only [bitsN, List.getElem?_cons_succ]
    rw [bitsN_at u (n / 2) k (by omega), Int.pow_succ, Int.mul_comm, Int.ediv_ediv_of_nonneg (by omega)]
theorem bitsN_snoc (u : Nat) (n : Int) : bitsN (u + 1) n = bitsN u n ++ [n / 2 ^ u % 2] := by
  apply List.ext_getElem?
  intro k
  rcases Nat.lt_trichotomy k u with h | h | h
  · rw [bitsN_at _ _ _ (by omega), List.getElem?_append_left (by rw [bitsN_len]; exact h), bitsN_at _ _ _ h]
  · subst h
    rw [bitsN_at _ _ _ (by omega), List.getElem?_append_right (by rw [bitsN_len]; omega), bitsN_len]
    simp
  · rw [List.getElem?_eq_none (by rw [bitsN_len]; omega), List.getElem?_eq_none (by simp [bitsN_len]; omega)]
end Go.Proofs.Ytjjlmnbmpgfcbaa.Vs

set_option linter.unusedVariables false
set_option linter.unusedSimpArgs false
namespace Go.Proofs.Ytjjlmnbmpgfcbaa.Vs
open Go.RowKit
/-! ### Shifts and bits -/
theorem pow_small {u : Nat} (h : u ≤ 40) : (0 : Int) < 2 ^ u ∧ (2 : Int) ^ u ≤ 1099511627776 := by
  have h1 : (0 : Int) < 2 ^ u := Int.pow_pos (by omega)
  have h2 : (2 : Nat) ^ u ≤ 2 ^ 40 := Nat.pow_le_pow_right (by omega) h
  have h3 : ((2 ^ u : Nat) : Int) ≤ ((2 ^ 40 : Nat) : Int) := by exact_mod_cast h2
  refine ⟨h1, ?_⟩
  have h4 : ((2 ^ u : Nat) : Int) = (2 : Int) ^ u := by simp
  rw [h4] at h3
  have h5 : ((2 ^ 40 : Nat) : Int) = 1099511627776 := by decide
  omega
theorem shl_bit {x : Int} (hx : isBit x) {u : Nat} (h : u ≤ 40) : shlS x (u : Int) = x * 2 ^ u := by
  rw [shlS_eq, Int.toNat_natCast, Nat.min_eq_left (by omega)]
  have hp := pow_small h
  have h2 : x * 2 ^ u = 0 ∨ x * 2 ^ u = 2 ^ u := by rcases hx with rfl | rfl <;> simp
  exact w64 (by omega) (by omega)
theorem shl_one {u : Nat} (h : u ≤ 40) : shlS 1 (u : Int) = 2 ^ u := by rw [shl_bit (.inr rfl) h]; simp
theorem wrap_u64 {n : Int} (h0 : 0 ≤ n) (h1 : n ≤ 9223372036854775807) : IntKind.wrap IntKind.u64 n = n := by
  simp [IntKind.wrap, IntKind.bits, IntKind.signed]
  omega
theorem i64_in (n : Int) (h0 : 0 ≤ n) (h1 : n < 2 ^ 62) : IntKind.i64.wrap n = n := by
  rw [IntKind.wrap_i64]
  have : (2 : Int) ^ 62 = 4611686018427387904 := by decide
  omega
theorem bit_of_number {v : Int} (h0 : 0 ≤ v) (h1 : v < 1099511627776) {k : Nat} (hk : k ≤ 40) : bits BinOp.and IntKind.i64 (Int.fdiv v (2 ^ min (Int.toNat (k : Int)) (IntKind.bits IntKind.i64))) 1 = v / 2 ^ k % 2 := by
  have hp := pow_small hk
  rw [Int.toNat_natCast, show IntKind.bits IntKind.i64 = 64 from rfl, Nat.min_eq_left (by omega), Int.fdiv_eq_ediv_of_nonneg _ (by omega)]
  have hd0 : 0 ≤ v / 2 ^ k := Int.ediv_nonneg h0 (by omega)
  have hd1 : v / 2 ^ k ≤ v := Int.ediv_le_self _ h0
  have := bits_mask .i64 62 (by decide) i64_in 1 (by decide) (v / 2 ^ k) hd0 (by have : (2 : Int) ^ 62 = 4611686018427387904 := by decide
                                                                                 omega)
  simpa using this
theorem or_comm64 (a b : Int) : bits BinOp.or IntKind.i64 a b = bits BinOp.or IntKind.i64 b a := by
  unfold bits
  simp only [BitVec.or_comm]
theorem or_bit {n x : Int} (hx : isBit x) {k : Nat} (hk : k ≤ 40) (h0 : 0 ≤ n) (h1 : n < 2 ^ k) : bits BinOp.or IntKind.i64 n (x * 2 ^ k) = n + x * 2 ^ k := by
  have hp := pow_small hk
  have h2 : x * 2 ^ k = 0 ∨ x * 2 ^ k = 2 ^ k := by rcases hx with rfl | rfl <;> simp
  have e62 : (2 : Int) ^ 62 = 4611686018427387904 := by decide
  rw [or_comm64, bits_join .i64 62 (by decide) i64_in k (x * 2 ^ k) n (by omega) (by simp) (by omega) h0 h1 (by omega), Int.add_comm]
theorem getD_memL {α : Type} {l : List α} {i : Nat} (h : i < l.length) (d : α) : List.getD l i d ∈ l := by
  simp only [List.getD, List.getElem?_eq_getElem h, Option.getD_some]
  exact List.getElem_mem h
/-! ### Units -/
def Keys (es : List (List Int × Int)) (N : List Int) : Prop := ∀ g : Nat, g < N.length → findK [(g : Int)] es = if List.getD N g 0 < 0 then none else some (List.getD N g 0)
theorem findK_put (ks ks' : List Int) (x : Int) : ∀ (es : List (List Int × Int)), findK ks (putK ks' x es) = if ks' = ks then some x else findK ks es
  | [] => by simp only [putK, findK]
  | e :: r => by
    simp only [putK]
    by_cases h1 : e.1 = ks'
    · rw [if_pos h1]
      simp only [findK]
      by_cases h2 : ks' = ks
      · rw [if_pos h2, if_pos h2]
      · rw [if_neg h2, if_neg h2, if_neg (by rw [h1]; exact h2)]
    · rw [if_neg h1]
      simp only [findK]
      rw [findK_put ks ks' x r]
      by_cases h2 : ks' = ks
      · simp only [h2, if_true]; rw [if_neg (by rw [← h2]; exact h1)]
      · simp only [h2, if_false]
theorem Keys.put {es : List (List Int × Int)} {N : List Int} (h : Keys es N) {g : Nat} (hg : g < N.length) {n : Nat} : Keys (putK [(g : Int)] (n : Int) es) (List.set N g (n : Int)) := by
  intro m hm
  rw [List.length_set] at hm
  rw [findK_put, getD_set_if N g m _ 0 hg]
  by_cases hgm : g = m
  · subst hgm
    simp
  · have : ¬ [(g : Int)] = [(m : Int)] := by simp; omega
    rw [if_neg this, if_neg hgm, h m hm]
theorem e_impl_unitsOf_0 (b : BoardD) (hb : boardOK b = true) : ∀ (r pre : List CellD) (es : List (List Int × Int)) (N : List Int) (o : List (List Int)), pre ++ r = b.2.2 → N.length = b.2.2.length → Below N o.length → o.length ≤ pre.length → Keys es N → (∀ u ∈ o, u.length ≤ pre.length) →
    Ev (fun k => f_impl_unitsOf_0 k (groupsOf b) es o (pre ++ r) ((pre ++ r).length : Int) (pre.length : Int)) (unitsGo (groupsOf b) pre.length r N o)
  | [], pre, es, N, o, hp, hN, hB, hlen, hK, hu => by
    refine Ev.succ ?_
    simp only [f_impl_unitsOf_0, nlt_end, decide_false, Bool.false_eq_true, if_false, unitsGo]
    exact Ev.some _
  | x :: r, pre, es, N, o, hp, hN, hB, hlen, hK, hu => by
    obtain ⟨g1, g2, g3, g4, g5, g6⟩ := board_ok hb
    have hpp := prod_small g1 g2 g3 g4
    have hll : (pre ++ x :: r).length ≤ 90 := by rw [hp]; omega
    have hlt : pre.length < b.2.2.length := by rw [← hp]; simp
    have hx : List.getD b.2.2 pre.length (0, 0) = x := by rw [← hp]; exact getD_mid _ _ _ _
    have hcast : ((pre ++ [x]).length : Int) = (pre.length : Int) + 1 := by simp
    have hp' : (pre ++ [x]) ++ r = b.2.2 := by rw [← hp]; simp
    have hpl : pre.length ≤ 90 := by omega
    have ol : o.length + 1 ≤ 140737488355328 / 24 := by omega
    have hu' : ∀ u ∈ o, u.length ≤ (pre ++ [x]).length := fun u h => by have := hu u h; simp; omega
    have ih := fun es N o h1 h2 h3 h4 h5 => e_impl_unitsOf_0 b hb r (pre ++ [x]) es N o hp' h1 h2 h3 h4 h5
    rw [← shift_mid, hcast] at ih
    have hgl : (pre.length : Int) < ((groupsOf b).length : Int) := by rw [groupsOf_len]; omega
    refine Ev.succ ?_
    simp only [f_impl_unitsOf_0, lt_mid, ge_mid, decide_true, if_true, Int.toNat_natCast, getD_mid, unitsGo, hgl, List.length_singleton, ol, decide_eq_true_eq]
    rw [next_mid pre x r (by omega), hcast]
    by_cases h3 : x.1 = 3
    · simp only [h3, if_true]
      refine ih es N (o ++ [[(pre.length : Int)]]) hN (hB.more (by simp)) (by simp; omega) hK (fun u h => ?_)
      rcases List.mem_append.1 h with h | h
      · exact hu' u h
      · rw [List.mem_singleton.1 h]; simp
    · simp only [h3, if_false]
      by_cases h6 : x.1 = 6
      · have hg : geared x = true := by simp [geared, h6]
        have hG0 := groups_geared b hlt (by rw [hx]; exact hg)
        have hG1 := groups_below b _ (getD_mem (l := groupsOf b) (i := pre.length) (by rw [groupsOf_len]; exact hlt) 0)
        generalize hgv : List.getD (groupsOf b) pre.length 0 = gI at *
        obtain ⟨g, rfl⟩ := Int.eq_ofNat_of_zero_le hG0
        have hgN : g < N.length := by rw [hN]; omega
        have hkey := hK g hgN
        have hNB := hB _ (getD_mem hgN 0)
        simp only [h6, if_true, hkey, Int.toNat_natCast]
        by_cases hneg : List.getD N g 0 < 0
        · have l1 : (o.length : Int) < ((o ++ [([] : List Int)]).length : Int) := by simp; omega
          have l2 : ([] : List Int).length + 1 ≤ 140737488355328 / 8 := by simp
          simp only [hneg, if_true, Option.isSome_none, Bool.not_false, l1, getD_mid, List.nil_append, l2, set_mid, ge_mid]
          refine ih _ _ (o ++ [[(pre.length : Int)]]) (by simpa using hN) ?_ (by simp; omega) (hK.put hgN) (fun u h => ?_)
          · intro y hy
            rcases List.mem_or_eq_of_mem_set hy with hy | rfl
            · have := hB y hy
              simp only [List.length_append, List.length_singleton]
              omega
            · simp only [List.length_append, List.length_singleton]
              omega
          · rcases List.mem_append.1 h with h | h
            · exact hu' u h
            · rw [List.mem_singleton.1 h]; simp
        · have l0 : (0 : Int) ≤ List.getD N g 0 := by omega
          have l1 := hNB.2
          have lno : (List.getD N g 0).toNat < o.length := by omega
          have hgo : List.getD o (List.getD N g 0).toNat [] ∈ o := getD_memL lno []
          have l2 : (List.getD o (List.getD N g 0).toNat []).length + 1 ≤ 140737488355328 / 8 := by have := hu _ hgo; omega
          simp only [hneg, if_false, Option.isSome_some, Bool.not_true, Bool.false_eq_true, Option.getD_some, l0, l1, l2, if_true]
          refine ih es N _ hN (by rw [List.length_set]; exact hB) (by rw [List.length_set]; simp; omega) hK (fun u h => ?_)
          rcases List.mem_or_eq_of_mem_set h with h | rfl
          · exact hu' u h
          · have := hu _ hgo
            simp only [List.length_append, List.length_singleton]
            omega
      · simp only [h6, if_false]
        exact ih es N o hN hB (by simp; omega) hK hu'
theorem none_keys (n : Nat) : Keys [] (List.replicate n (-1)) := by
  intro g hg
  simp only [List.length_replicate] at hg
  simp [findK, List.getD, List.getElem?_replicate, hg]
theorem none_below (n : Nat) : Below (List.replicate n (-1)) 0 := fun x hx => by rw [(List.mem_replicate.1 hx).2]; simp
theorem e_impl_unitsOf (b : BoardD) (hb : boardOK b = true) : Ev (fun k => f_impl_unitsOf k b) (unitsP b) := by
  refine Ev.succ ?_
  simp only [f_impl_unitsOf]
  refine Ev.bind (e_impl_groupNumbers b hb) ?_
  refine Ev.bind (e_impl_unitsOf_0 b hb b.2.2 [] [] (List.replicate b.2.2.length (-1)) [] rfl (by simp) (none_below _) (Nat.le_refl _) (none_keys _) (by simp)) ?_
  exact Ev.some _
theorem e_spec_saUnits_0 (b : BoardD) (G : List Int) (m : Int) : ∀ (r pre : List Int), m = ((pre ++ r).length : Int) → (pre ++ r).length ≤ 1000 → Ev (fun k => f_spec_saUnits_0 k b.1 b.2.1 b.2.2 G (pre ++ r) m (pre.length : Int)) (b.1, b.2.1, b.2.2, G, pre ++ List.replicate r.length (-1))
  | [], pre, hm, hl => by
    refine Ev.succ ?_
    have : ¬ (pre.length : Int) < m := by rw [hm]; exact nlt_end pre
    simp only [f_spec_saUnits_0, this, decide_false, Bool.false_eq_true, if_false]
    exact Ev.some _
  | x :: r, pre, hm, hl => by
    have ih := e_spec_saUnits_0 b G m r (pre ++ [-1]) (by rw [hm]; simp) (by simpa using hl)
    have h1 : (pre.length : Int) < m := by rw [hm]; exact lt_mid pre x r
    refine Ev.succ ?_
    simp only [f_spec_saUnits_0, h1, lt_mid, ge_mid, decide_true, if_true, Int.toNat_natCast, set_mid]
    rw [next_mid pre x r (by omega), shift_mid]
    simp only [List.length_append, List.length_singleton] at ih ⊢
    refine ih.congr ?_
    simp [List.replicate_succ]
theorem e_spec_saUnits_2 (b : BoardD) (hb : boardOK b = true) : ∀ (r pre : List CellD) (N : List Int) (o : List (List Int)), pre ++ r = b.2.2 → N.length = b.2.2.length → Below N o.length → o.length ≤ pre.length → (∀ u ∈ o, u.length ≤ pre.length) →
    Ev (fun k => f_spec_saUnits_2 k (groupsOf b) N o (pre ++ r) ((pre ++ r).length : Int) (pre.length : Int)) (unitsGo (groupsOf b) pre.length r N o)
  | [], pre, N, o, hp, hN, hB, hlen, hu => by
    refine Ev.succ ?_
    simp only [f_spec_saUnits_2, nlt_end, decide_false, Bool.false_eq_true, if_false, unitsGo]
    exact Ev.some _
  | x :: r, pre, N, o, hp, hN, hB, hlen, hu => by
    obtain ⟨g1, g2, g3, g4, g5, g6⟩ := board_ok hb
    have hpp := prod_small g1 g2 g3 g4
    have hll : (pre ++ x :: r).length ≤ 90 := by rw [hp]; omega
    have hlt : pre.length < b.2.2.length := by rw [← hp]; simp
    have hx : List.getD b.2.2 pre.length (0, 0) = x := by rw [← hp]; exact getD_mid _ _ _ _
    have hcast : ((pre ++ [x]).length : Int) = (pre.length : Int) + 1 := by simp
    have hp' : (pre ++ [x]) ++ r = b.2.2 := by rw [← hp]; simp
    have hpl : pre.length ≤ 90 := by omega
    have ol : o.length + 1 ≤ 140737488355328 / 24 := by omega
    have hu' : ∀ u ∈ o, u.length ≤ (pre ++ [x]).length := fun u h => by have := hu u h; simp; omega
    have ih := fun N o h1 h2 h3 h5 => e_spec_saUnits_2 b hb r (pre ++ [x]) N o hp' h1 h2 h3 h5
    rw [← shift_mid, hcast] at ih
    have hgl : (pre.length : Int) < ((groupsOf b).length : Int) := by rw [groupsOf_len]; omega
    refine Ev.succ ?_
    simp only [f_spec_saUnits_2, lt_mid, ge_mid, decide_true, if_true, Int.toNat_natCast, getD_mid, unitsGo, hgl, List.length_singleton, ol, decide_eq_true_eq]
    rw [next_mid pre x r (by omega), hcast]
    by_cases h3 : x.1 = 3
    · simp only [h3, if_true]
      refine ih N (o ++ [[(pre.length : Int)]]) hN (hB.more (by simp)) (by simp; omega) (fun u h => ?_)
      rcases List.mem_append.1 h with h | h
      · exact hu' u h
      · rw [List.mem_singleton.1 h]; simp
    · simp only [h3, if_false]
      by_cases h6 : x.1 = 6
      · have hg : geared x = true := by simp [geared, h6]
        have hG0 := groups_geared b hlt (by rw [hx]; exact hg)
        have hG1 := groups_below b _ (getD_mem (l := groupsOf b) (i := pre.length) (by rw [groupsOf_len]; exact hlt) 0)
        generalize hgv : List.getD (groupsOf b) pre.length 0 = gI at *
        obtain ⟨g, rfl⟩ := Int.eq_ofNat_of_zero_le hG0
        have hgN : g < N.length := by rw [hN]; omega
        have hNB := hB _ (getD_mem hgN 0)
        have hgI : (g : Int) < (N.length : Int) := by omega
        have hg0 : (0 : Int) ≤ (g : Int) := Int.natCast_nonneg _
        simp only [h6, if_true, Int.toNat_natCast, hgI, hg0]
        by_cases hneg : List.getD N g 0 < 0
        · simp only [hneg, if_true]
          refine ih _ (o ++ [[(pre.length : Int)]]) (by simpa using hN) ?_ (by simp; omega) (fun u h => ?_)
          · intro y hy
            rcases List.mem_or_eq_of_mem_set hy with hy | rfl
            · have := hB y hy
              simp only [List.length_append, List.length_singleton]
              omega
            · simp only [List.length_append, List.length_singleton]
              omega
          · rcases List.mem_append.1 h with h | h
            · exact hu' u h
            · rw [List.mem_singleton.1 h]; simp
        · have l0 : (0 : Int) ≤ List.getD N g 0 := by omega
          have l1 := hNB.2
          have lno : (List.getD N g 0).toNat < o.length := by omega
          have hgo : List.getD o (List.getD N g 0).toNat [] ∈ o := getD_memL lno []
          have l2 : (List.getD o (List.getD N g 0).toNat []).length + 1 ≤ 140737488355328 / 8 := by have := hu _ hgo; omega
          simp only [hneg, if_false, f_spec_saUnits_g18, ge_mid, hgl, if_true, hgv, Int.toNat_natCast, hgI, hg0, l0, l1, l2, List.length_singleton]
          refine Ev.bind (Ev.some _) ?_
          simp only [next_mid pre x r (by omega), hcast]
          refine ih N _ hN (by rw [List.length_set]; exact hB) (by rw [List.length_set]; simp; omega) (fun u h => ?_)
          rcases List.mem_or_eq_of_mem_set h with h | rfl
          · exact hu' u h
          · have := hu _ hgo
            simp only [List.length_append, List.length_singleton]
            omega
      · simp only [h6, if_false]
        exact ih N o hN hB (by simp; omega) hu'
theorem e_spec_saUnits (b : BoardD) (hb : boardOK b = true) : Ev (fun k => f_spec_saUnits k b) (unitsP b) := by
  obtain ⟨g1, g2, g3, g4, g5, g6⟩ := board_ok hb
  have hpp := prod_small g1 g2 g3 g4
  have hm : b.2.2.length * 8 ≤ 281474976710656 := by omega
  refine Ev.succ ?_
  simp only [f_spec_saUnits]
  refine Ev.bind (e_spec_ggGroups b hb) ?_
  simp only [Int.toNat_natCast, hm, if_true]
  refine Ev.bind (e_spec_saUnits_0 b (groupsOf b) _ (List.replicate b.2.2.length 0) [] rfl (by simp; omega)) ?_
  simp only [List.nil_append, List.length_replicate]
  refine Ev.bind (e_spec_saUnits_2 b hb b.2.2 [] (List.replicate b.2.2.length (-1)) [] rfl (by simp) (none_below _) (Nat.le_refl _) (by simp)) ?_
  exact Ev.some _
theorem units_small (b : BoardD) (hb : boardOK b = true) : (unitsP b).length ≤ 90 := by
  obtain ⟨g1, g2, g3, g4, g5, g6⟩ := board_ok hb
  have hpp := prod_small g1 g2 g3 g4
  have := (units_ok b).2
  omega
theorem units_units (b : BoardD) : Units (unitsP b) b.2.2.length := (units_ok b).1.units
end Go.Proofs.Ytjjlmnbmpgfcbaa.Vs

set_option linter.unusedVariables false
set_option linter.unusedSimpArgs false
namespace Go.Proofs.Ytjjlmnbmpgfcbaa.Vs
open Go.RowKit
/-- What is asked of units for the functions that look at their first cells. -/
def Heads (us : List (List Int)) (n : Nat) : Prop := ∀ u ∈ us, 0 < u.length ∧ 0 ≤ List.getD u 0 0 ∧ List.getD u 0 0 < (n : Int)
theorem Units.heads {us : List (List Int)} {n : Nat} (h : Units us n) : Heads us n := fun u hu => by
  have h1 := h.on u hu _ (head_mem (h.some u hu))
  exact ⟨List.length_pos_iff.2 (h.some u hu), h1.1, h1.2⟩
theorem e_impl_bitsOf_0 (R C : Int) (o : List CellD) : ∀ (r pre : List (List Int)) (w : List Int), Heads r o.length → (pre ++ r).length ≤ 1000 → w.length = pre.length →
    Ev (fun k => f_impl_bitsOf_0 k R C o w (pre ++ r) ((pre ++ r).length : Int) (pre.length : Int)) (w ++ bitsP o r)
  | [], pre, w, hh, hl, hw => by
    refine Ev.succ ?_
    simp only [f_impl_bitsOf_0, nlt_end, decide_false, Bool.false_eq_true, if_false]
    exact (Ev.some _).congr (by simp [bitsP])
  | u :: r, pre, w, hh, hl, hw => by
    obtain ⟨h1, h2, h3⟩ := hh u (List.mem_cons_self ..)
    have h1' : (0 : Int) < (u.length : Int) := by omega
    have hwl : w.length + 1 ≤ 140737488355328 / 8 := by simp at hl; omega
    have ih := e_impl_bitsOf_0 R C o r (pre ++ [u]) (w ++ [bitOf o u]) (fun v hv => hh v (List.mem_cons_of_mem _ hv)) (by simpa using hl) (by simp [hw])
    refine Ev.succ ?_
    simp only [f_impl_bitsOf_0, lt_mid, ge_mid, decide_true, if_true, Int.toNat_natCast, getD_mid, Int.toNat_zero, h1', h2, h3, List.length_singleton, hwl]
    rw [next_mid pre u r (by omega)]
    rw [← shift_mid] at ih
    refine ih.congr ?_
    simp [bitsP]
theorem e_impl_bitsOf (b : BoardD) (hb : boardOK b = true) : Ev (fun k => f_impl_bitsOf k b) (bitsP b.2.2 (unitsP b)) := by
  have hs := units_small b hb
  refine Ev.succ ?_
  simp only [f_impl_bitsOf]
  refine Ev.bind (e_impl_unitsOf b hb) ?_
  refine Ev.bind (e_impl_bitsOf_0 b.1 b.2.1 b.2.2 (unitsP b) [] [] (units_units b).heads (by simp; omega) rfl) ?_
  exact Ev.some _
theorem e_spec_saBits_0 (R C : Int) (o : List CellD) : ∀ (r pre : List (List Int)) (w : List Int), Heads r o.length → (pre ++ r).length ≤ 1000 → w.length = pre.length →
    Ev (fun k => f_spec_saBits_0 k R C o w (pre ++ r) ((pre ++ r).length : Int) (pre.length : Int)) (w ++ bitsP o r)
  | [], pre, w, hh, hl, hw => by
    refine Ev.succ ?_
    simp only [f_spec_saBits_0, nlt_end, decide_false, Bool.false_eq_true, if_false]
    exact (Ev.some _).congr (by simp [bitsP])
  | u :: r, pre, w, hh, hl, hw => by
    obtain ⟨h1, h2, h3⟩ := hh u (List.mem_cons_self ..)
    have h1' : (0 : Int) < (u.length : Int) := by omega
    have hwl : w.length + 1 ≤ 140737488355328 / 8 := by simp at hl; omega
    have ih := e_spec_saBits_0 R C o r (pre ++ [u]) (w ++ [bitOf o u]) (fun v hv => hh v (List.mem_cons_of_mem _ hv)) (by simpa using hl) (by simp [hw])
    refine Ev.succ ?_
    simp only [f_spec_saBits_0, lt_mid, ge_mid, decide_true, if_true, Int.toNat_natCast, getD_mid, Int.toNat_zero, h1', h2, h3, List.length_singleton, hwl]
    rw [next_mid pre u r (by omega)]
    rw [← shift_mid] at ih
    refine ih.congr ?_
    simp [bitsP]
theorem e_spec_saBits (b : BoardD) (hb : boardOK b = true) : Ev (fun k => f_spec_saBits k b) (bitsP b.2.2 (unitsP b)) := by
  have hs := units_small b hb
  refine Ev.succ ?_
  simp only [f_spec_saBits]
  refine Ev.bind (e_spec_saUnits b hb) ?_
  refine Ev.bind (e_spec_saBits_0 b.1 b.2.1 b.2.2 (unitsP b) [] [] (units_units b).heads (by simp; omega) rfl) ?_
  exact Ev.some _
theorem bits_are {o : List CellD} (ho : ∀ c ∈ o, isBit c.2) {us : List (List Int)} (h : Units us o.length) : ∀ x ∈ bitsP o us, isBit x := by
  intro x hx
  obtain ⟨u, hu, rfl⟩ := List.mem_map.1 hx
  have h1 := h.on u hu _ (head_mem (h.some u hu))
  exact ho _ (cell_in h1.1 h1.2 (0, 0))
/-! ### Numbers -/
theorem e_impl_numberOf_0 : ∀ (r pre : List Int), (∀ x ∈ pre ++ r, isBit x) → (pre ++ r).length ≤ 40 → Ev (fun k => f_impl_numberOf_0 k (numP pre) (pre ++ r) ((pre ++ r).length : Int) (pre.length : Int)) (numP (pre ++ r))
  | [], pre, hb, hl => by
    refine Ev.succ ?_
    simp only [f_impl_numberOf_0, nlt_end, decide_false, Bool.false_eq_true, if_false]
    exact (Ev.some _).congr (by simp)
  | x :: r, pre, hb, hl => by
    have ih := e_impl_numberOf_0 r (pre ++ [x]) (by simpa using hb) (by simpa using hl)
    have hx := hb x (by simp)
    have hpl : pre.length ≤ 40 := by simp at hl; omega
    have hr := numP_range pre (fun y hy => hb y (List.mem_append_left _ hy))
    refine Ev.succ ?_
    have hneg : ¬ (pre.length : Int) < 0 := by omega
    simp only [f_impl_numberOf_0, lt_mid, ge_mid, decide_true, if_true, hneg, if_false, Int.toNat_natCast, getD_mid]
    rw [shl_bit hx hpl, or_bit hx hpl hr.1 hr.2, ← numP_snoc, next_mid pre x r (by omega)]
    rw [← shift_mid] at ih
    exact ih
theorem e_impl_numberOf (xs : List Int) (hb : ∀ x ∈ xs, isBit x) (hl : xs.length ≤ 40) : Ev (fun k => f_impl_numberOf k xs) (numP xs) := by
  refine Ev.succ ?_
  simp only [f_impl_numberOf]
  exact Ev.bind (e_impl_numberOf_0 xs [] (by simpa using hb) (by simpa using hl)) (Ev.some _)
theorem e_spec_saNumber_0 : ∀ (r pre : List Int), (∀ x ∈ pre ++ r, isBit x) → (pre ++ r).length ≤ 40 → Ev (fun k => f_spec_saNumber_0 k (pre ++ r) (numP pre) ((pre ++ r).length : Int) (pre.length : Int)) (numP (pre ++ r))
  | [], pre, hb, hl => by
    refine Ev.succ ?_
    simp only [f_spec_saNumber_0, nlt_end, decide_false, Bool.false_eq_true, if_false]
    exact (Ev.some _).congr (by simp)
  | x :: r, pre, hb, hl => by
    have ih := e_spec_saNumber_0 r (pre ++ [x]) (by simpa using hb) (by simpa using hl)
    have hx := hb x (by simp)
    have hpl : pre.length ≤ 40 := by simp at hl; omega
    have hr := numP_range pre (fun y hy => hb y (List.mem_append_left _ hy))
    have hp := pow_small hpl
    have h2 : x * 2 ^ pre.length = 0 ∨ x * 2 ^ pre.length = 2 ^ pre.length := by rcases hx with rfl | rfl <;> simp
    refine Ev.succ ?_
    have hneg : ¬ (pre.length : Int) < 0 := by omega
    simp only [f_spec_saNumber_0, lt_mid, ge_mid, decide_true, if_true, wrap_u64 (Int.natCast_nonneg pre.length) (by omega), hneg, if_false, Int.toNat_natCast, getD_mid]
    rw [shl_bit hx hpl, w64 (by omega) (by omega), ← numP_snoc, next_mid pre x r (by omega)]
    rw [← shift_mid] at ih
    exact ih
theorem cells_bits {b : BoardD} (hb : boardOK b = true) : ∀ c ∈ b.2.2, isBit c.2 := fun c hc => cell_bit ((board_ok hb).2.2.2.2.2 c hc)
theorem bitsP_len (o : List CellD) (us : List (List Int)) : (bitsP o us).length = us.length := by simp [bitsP]
theorem e_spec_saNumber (b : BoardD) (hb : boardOK b = true) (hu : (unitsP b).length ≤ 40) : Ev (fun k => f_spec_saNumber k b) (numP (bitsP b.2.2 (unitsP b))) := by
  refine Ev.succ ?_
  simp only [f_spec_saNumber]
  refine Ev.bind (e_spec_saBits b hb) ?_
  exact Ev.bind (e_spec_saNumber_0 (bitsP b.2.2 (unitsP b)) [] (by simpa using bits_are (cells_bits hb) (units_units b)) (by rw [List.nil_append, bitsP_len]; exact hu)) (Ev.some _)
/-! ### Bits of a number -/
theorem e_impl_bitList_0 (v : Int) (h0 : 0 ≤ v) (h1 : v < 1099511627776) (m : Int) : ∀ (r pre : List Int), m = ((pre ++ r).length : Int) → (pre ++ r).length ≤ 40 → pre = bitsN pre.length v → Ev (fun k => f_impl_bitList_0 k (pre ++ r) v m (pre.length : Int)) (bitsN (pre ++ r).length v)
  | [], pre, hm, hl, hp => by
    refine Ev.succ ?_
    have : ¬ (pre.length : Int) < m := by rw [hm]; exact nlt_end pre
    simp only [f_impl_bitList_0, this, decide_false, Bool.false_eq_true, if_false]
    exact (Ev.some _).congr (by simp only [List.append_nil]; exact hp)
  | x :: r, pre, hm, hl, hp => by
    have hpl : pre.length ≤ 40 := by simp at hl; omega
    have hlt : (pre.length : Int) < m := by rw [hm]; exact lt_mid pre x r
    have ih := e_impl_bitList_0 v h0 h1 m r (pre ++ [v / 2 ^ pre.length % 2]) (by rw [hm]; simp) (by simpa using hl) (by simp only [List.length_append, List.length_singleton]; rw [bitsN_snoc, ← hp])
    refine Ev.succ ?_
    have hneg : ¬ (pre.length : Int) < 0 := by omega
    simp only [f_impl_bitList_0, hlt, lt_mid, ge_mid, decide_true, if_true, hneg, if_false]
    rw [bit_of_number h0 h1 hpl, next_mid pre x r (by omega)]
    simp only [Int.toNat_natCast, set_mid]
    rw [shift_mid]
    simp only [List.length_append, List.length_singleton] at ih ⊢
    refine ih.congr ?_
    congr 1
    simp only [List.length_cons]
    omega
theorem e_impl_bitList (v : Int) (h0 : 0 ≤ v) (h1 : v < 1099511627776) (u : Nat) (hu : u ≤ 40) : Ev (fun k => f_impl_bitList k v (u : Int)) (bitsN u v) := by
  have hm : u * 8 ≤ 281474976710656 := by omega
  refine Ev.succ ?_
  simp only [f_impl_bitList, Int.natCast_nonneg, if_true, Int.toNat_natCast, hm]
  refine Ev.bind (e_impl_bitList_0 v h0 h1 _ (List.replicate u 0) [] rfl (by simpa using hu) rfl) ?_
  exact (Ev.some _).congr (by simp)
theorem e_spec_saIn_0 (b1 b2 : Int) (b3 : List CellD) (c1 c2 : Int) (c3 : List CellD) (v : Int) (h0 : 0 ≤ v) (h1 : v < 1099511627776) : ∀ (n m : Nat), n + m ≤ 40 → Ev (fun k => f_spec_saIn_0 k b1 b2 b3 c1 c2 c3 (bitsN m v) v ((m + n : Nat) : Int) (m : Int)) (b1, b2, b3, c1, c2, c3, bitsN (m + n) v)
  | 0, m, hl => by
    refine Ev.succ ?_
    have : ¬ (m : Int) < ((m + 0 : Nat) : Int) := by omega
    simp only [f_spec_saIn_0, this, decide_false, Bool.false_eq_true, if_false]
    exact Ev.some _
  | n + 1, m, hl => by
    have hlt : (m : Int) < ((m + (n + 1) : Nat) : Int) := by omega
    have hneg : ¬ (m : Int) < 0 := by omega
    have ih := e_spec_saIn_0 b1 b2 b3 c1 c2 c3 v h0 h1 n (m + 1) (by omega)
    have hbl : m + 1 ≤ 140737488355328 / 8 := by omega
    have hw : wrap64 ((m : Int) + 1) = ((m + 1 : Nat) : Int) := by rw [w64 (by omega) (by omega)]; omega
    refine Ev.succ ?_
    simp only [f_spec_saIn_0, hlt, decide_true, if_true, wrap_u64 (Int.natCast_nonneg m) (by omega), hneg, if_false, List.length_singleton, bitsN_len, hbl]
    rw [bit_of_number h0 h1 (by omega), ← bitsN_snoc, hw]
    rw [show m + 1 + n = m + (n + 1) by omega] at ih
    exact ih
/-! ### States -/
theorem flip_set {o : List CellD} (ho : ∀ c ∈ o, isBit c.2) {m : Int} (h0 : 0 ≤ m) (h1 : m < (o.length : Int)) : ((List.getD o m.toNat (0, 0)).1, wrap64 (1 - (List.getD o m.toNat (0, 0)).2)) = flipC (cellAt o m) := by
  have h := ho _ (cell_in h0 h1 (0, 0))
  unfold flipC cellAt
  rw [w64 (by unfold isBit at h; omega) (by unfold isBit at h; omega)]
theorem flipAt_bits {o : List CellD} (ho : ∀ c ∈ o, isBit c.2) {m : Int} (h0 : 0 ≤ m) (h1 : m < (o.length : Int)) : ∀ c ∈ flipAt o m, isBit c.2 := by
  intro c hc
  rcases List.mem_or_eq_of_mem_set hc with hc | rfl
  · exact ho c hc
  · exact flip_bit (ho _ (cell_in h0 h1 (0, 0)))
theorem turnU_bits : ∀ (u : List Int) (o : List CellD), (∀ c ∈ o, isBit c.2) → (∀ m ∈ u, 0 ≤ m ∧ m < (o.length : Int)) → ∀ c ∈ turnU u o, isBit c.2
  | [], o, ho, hu => ho
  | m :: u, o, ho, hu => by
    obtain ⟨h0, h1⟩ := hu m (List.mem_cons_self ..)
    exact turnU_bits u (flipAt o m) (flipAt_bits ho h0 h1) (fun i hi => by have := hu i (List.mem_cons_of_mem _ hi); simpa [flipAt] using this)
theorem e_impl_setBits_2 (d1 d2 : Int) (d3 : List Int) (d4 : List (List Int)) (d5 d6 : Int) : ∀ (r pre : List Int) (o : List CellD), (∀ c ∈ o, isBit c.2) → (∀ m ∈ r, 0 ≤ m ∧ m < (o.length : Int)) → (pre ++ r).length ≤ 1000 →
    Ev (fun k => f_impl_setBits_2 k o d1 d2 d3 d4 d5 d6 (pre ++ r) ((pre ++ r).length : Int) (pre.length : Int)) (turnU r o, d1, d2, d3, d4, d5, d6)
  | [], pre, o, ho, hr, hl => by
    refine Ev.succ ?_
    simp only [f_impl_setBits_2, nlt_end, decide_false, Bool.false_eq_true, if_false]
    exact Ev.some _
  | m :: r, pre, o, ho, hr, hl => by
    obtain ⟨h0, h1⟩ := hr m (List.mem_cons_self ..)
    have ih := e_impl_setBits_2 d1 d2 d3 d4 d5 d6 r (pre ++ [m]) (flipAt o m) (flipAt_bits ho h0 h1) (fun i hi => by have := hr i (List.mem_cons_of_mem _ hi); simpa [flipAt] using this) (by simpa using hl)
    refine Ev.succ ?_
    simp only [f_impl_setBits_2, lt_mid, ge_mid, decide_true, if_true, Int.toNat_natCast, getD_mid, h0, h1]
    rw [flip_set ho h0 h1, next_mid pre m r (by omega)]
    rw [← shift_mid] at ih
    exact ih
theorem e_impl_setBits_0 (d1 d2 : Int) : ∀ (r pre : List (List Int)) (ys xs : List Int) (o : List CellD), Units r o.length → (∀ c ∈ o, isBit c.2) → (∀ u ∈ r, u.length ≤ 1000) → (pre ++ r).length ≤ 1000 → ys.length = pre.length → xs.length = r.length →
    Ev (fun k => f_impl_setBits_0 k o d1 d2 (ys ++ xs) (pre ++ r) ((pre ++ r).length : Int) (pre.length : Int)) (setGo r xs o)
  | [], pre, ys, xs, o, hU, ho, hr, hl, hy, hx => by
    refine Ev.succ ?_
    simp only [f_impl_setBits_0, nlt_end, decide_false, Bool.false_eq_true, if_false]
    exact (Ev.some _).congr (by simp [setGo])
  | u :: r, pre, ys, [], o, hU, ho, hr, hl, hy, hx => by simp at hx
  | u :: r, pre, ys, x :: xs, o, hU, ho, hr, hl, hy, hx => by
    have hon := hU.on u (List.mem_cons_self ..)
    obtain ⟨p1, p2, p3⟩ := hU.heads u (List.mem_cons_self ..)
    have p1' : (0 : Int) < (u.length : Int) := by omega
    have hlt2 : (pre.length : Int) < ((ys ++ x :: xs).length : Int) := by simp; omega
    have hg : List.getD (ys ++ x :: xs) pre.length 0 = x := by rw [← hy]; exact getD_mid _ _ _ _
    have ih := fun o h1 h2 => e_impl_setBits_0 d1 d2 r (pre ++ [u]) (ys ++ [x]) xs o h1 h2 (fun v hv => hr v (List.mem_cons_of_mem _ hv)) (by simpa using hl) (by simp [hy]) (by simpa using hx)
    rw [← shift_mid, ← shift_mid] at ih
    refine Ev.succ ?_
    simp only [f_impl_setBits_0, lt_mid, ge_mid, decide_true, if_true, Int.toNat_natCast, getD_mid, Int.toNat_zero, p1', p2, p3, hlt2, hg, decide_eq_true_eq, setGo]
    by_cases hbx : bitOf o u = x
    · have hbx' : (List.getD o (List.getD u 0 0).toNat (0, 0)).2 = x := hbx
      simp only [hbx', hbx, if_true]
      rw [next_mid pre u r (by omega)]
      exact ih o hU.tail ho
    · have hbx' : ¬ (List.getD o (List.getD u 0 0).toNat (0, 0)).2 = x := hbx
      simp only [hbx', hbx, if_false]
      refine Ev.bind (e_impl_setBits_2 d1 d2 (ys ++ x :: xs) (pre ++ u :: r) _ _ u [] o ho hon (by simpa using hr u (List.mem_cons_self ..))) ?_
      simp only
      rw [next_mid pre u r (by omega)]
      exact ih (turnU u o) (by rw [turnU_len]; exact hU.tail) (turnU_bits u o ho hon)
theorem e_impl_setBits (R C : Int) (o : List CellD) (us : List (List Int)) (xs : List Int) (hU : Units us o.length) (ho : ∀ c ∈ o, isBit c.2) (hr : ∀ u ∈ us, u.length ≤ 1000) (hl : us.length ≤ 1000) (hx : xs.length = us.length) : Ev (fun k => f_impl_setBits k (R, C, o) us xs) (setGo us xs o) := by
  refine Ev.succ ?_
  simp only [f_impl_setBits]
  exact Ev.bind (e_impl_setBits_0 R C us [] [] xs o hU ho hr (by simpa using hl) rfl hx) (Ev.some _)
theorem e_spec_paTurnB (x : CellD) (h : isBit x.2) : Ev (fun k => f_spec_paTurn k x) (flipC x) := by
  refine Ev.succ ?_
  simp only [f_spec_paTurn]
  refine Ev.of ?_
  unfold flipC
  rw [w64 (by unfold isBit at h; omega) (by unfold isBit at h; omega)]
theorem e_spec_saTurn_0 (d1 d2 : Int) : ∀ (r pre : List Int) (o : List CellD), (∀ c ∈ o, isBit c.2) → (∀ m ∈ r, 0 ≤ m ∧ m < (o.length : Int)) → (pre ++ r).length ≤ 1000 →
    Ev (fun k => f_spec_saTurn_0 k o d1 d2 (pre ++ r) ((pre ++ r).length : Int) (pre.length : Int)) (turnU r o)
  | [], pre, o, ho, hr, hl => by
    refine Ev.succ ?_
    simp only [f_spec_saTurn_0, nlt_end, decide_false, Bool.false_eq_true, if_false]
    exact Ev.some _
  | m :: r, pre, o, ho, hr, hl => by
    obtain ⟨h0, h1⟩ := hr m (List.mem_cons_self ..)
    have ih := e_spec_saTurn_0 d1 d2 r (pre ++ [m]) (flipAt o m) (flipAt_bits ho h0 h1) (fun i hi => by have := hr i (List.mem_cons_of_mem _ hi); simpa [flipAt] using this) (by simpa using hl)
    have hp := e_spec_paTurnB (cellAt o m) (ho _ (cell_in h0 h1 (0, 0)))
    refine Ev.succ ?_
    simp only [f_spec_saTurn_0, lt_mid, ge_mid, decide_true, if_true, Int.toNat_natCast, getD_mid, h0, h1]
    refine Ev.bind (a := flipC (cellAt o m)) hp ?_
    rw [next_mid pre m r (by omega)]
    rw [← shift_mid] at ih
    exact ih
theorem e_spec_saTurn (R C : Int) (o : List CellD) (u : List Int) (ho : ∀ c ∈ o, isBit c.2) (hu : ∀ m ∈ u, 0 ≤ m ∧ m < (o.length : Int)) (hl : u.length ≤ 1000) : Ev (fun k => f_spec_saTurn k (R, C, o) u) (turnU u o) := by
  refine Ev.succ ?_
  simp only [f_spec_saTurn]
  exact Ev.bind (e_spec_saTurn_0 R C u [] o ho hu (by simpa using hl)) (Ev.some _)
theorem e_spec_saWith_0 (L : List CellD) (d0 d1 d2 d3 : Int) (d4 : List CellD) (d5 d6 : Int) : ∀ (r pre : List (List Int)) (ys xs : List Int) (o : List CellD), o.length = L.length → Units r o.length → (∀ u ∈ r, bitOf o u = bitOf L u) → (∀ c ∈ o, isBit c.2) → (∀ u ∈ r, u.length ≤ 1000) → (pre ++ r).length ≤ 1000 → ys.length = pre.length → xs.length = r.length →
    Ev (fun k => f_spec_saWith_0 k d0 d1 L d2 d3 d4 d5 d6 o (pre ++ r) (ys ++ xs) ((pre ++ r).length : Int) (pre.length : Int)) (d2, d3, d4, d5, d6, setGo r xs o)
  | [], pre, ys, xs, o, hL, hU, hsame, ho, hr, hl, hy, hx => by
    refine Ev.succ ?_
    simp only [f_spec_saWith_0, nlt_end, decide_false, Bool.false_eq_true, if_false]
    exact (Ev.some _).congr (by simp [setGo])
  | u :: r, pre, ys, [], o, hL, hU, hsame, ho, hr, hl, hy, hx => by simp at hx
  | u :: r, pre, ys, x :: xs, o, hL, hU, hsame, ho, hr, hl, hy, hx => by
    have hon := hU.on u (List.mem_cons_self ..)
    obtain ⟨p1, p2, p3⟩ := hU.heads u (List.mem_cons_self ..)
    rw [hL] at p3
    have p1' : (0 : Int) < (u.length : Int) := by omega
    have hlt2 : (pre.length : Int) < ((ys ++ x :: xs).length : Int) := by simp; omega
    have hg : List.getD (ys ++ x :: xs) pre.length 0 = x := by rw [← hy]; exact getD_mid _ _ _ _
    have hs := hsame u (List.mem_cons_self ..)
    have ih := fun o h0 h1 h2 h3 => e_spec_saWith_0 L d0 d1 d2 d3 d4 d5 d6 r (pre ++ [u]) (ys ++ [x]) xs o h0 h1 h2 h3 (fun v hv => hr v (List.mem_cons_of_mem _ hv)) (by simpa using hl) (by simp [hy]) (by simpa using hx)
    rw [← shift_mid, ← shift_mid] at ih
    refine Ev.succ ?_
    simp only [f_spec_saWith_0, lt_mid, ge_mid, decide_true, if_true, Int.toNat_natCast, getD_mid, Int.toNat_zero, p1', p2, p3, hlt2, hg, decide_eq_true_eq, setGo, ne_eq, ite_not]
    by_cases hbx : bitOf o u = x
    · have hbx' : (List.getD L (List.getD u 0 0).toNat (0, 0)).2 = x := hs.symm.trans hbx
      simp only [hbx', hbx, if_true]
      rw [next_mid pre u r (by omega)]
      exact ih o hL hU.tail (fun v hv => hsame v (List.mem_cons_of_mem _ hv)) ho
    · have hbx' : ¬ (List.getD L (List.getD u 0 0).toNat (0, 0)).2 = x := fun h => hbx (hs.trans h)
      simp only [hbx', hbx, if_false]
      refine Ev.bind (e_spec_saTurn d5 d6 o u ho hon (hr u (List.mem_cons_self ..))) ?_
      rw [next_mid pre u r (by omega)]
      exact ih (turnU u o) (by rw [turnU_len]; exact hL) (by rw [turnU_len]; exact hU.tail) (fun v hv => (bitOf_turned hU rfl hv).trans (hsame v (List.mem_cons_of_mem _ hv))) (turnU_bits u o ho hon)
theorem nodup_lenI {n : Nat} {u : List Int} (h : u.Nodup) (hon : ∀ m ∈ u, 0 ≤ m ∧ m < (n : Int)) : u.length ≤ n := by
  have h1 : (u.map Int.toNat).Nodup := by
    rw [List.nodup_iff_pairwise_ne, List.pairwise_map]
    rw [List.nodup_iff_pairwise_ne] at h
    refine List.Pairwise.imp_of_mem ?_ h
    intro a b ha hb hab hc
    have := hon a ha
    have := hon b hb
    omega
  have h2 : (u.map Int.toNat) ⊆ List.range n := by
    intro x hx
    obtain ⟨m, hm, rfl⟩ := List.mem_map.1 hx
    have := hon m hm
    rw [List.mem_range]
    omega
  have := h1.length_le_of_subset h2
  simpa using this
theorem unit_lens (b : BoardD) (hb : boardOK b = true) : ∀ u ∈ unitsP b, u.length ≤ 1000 := by
  intro u hu
  obtain ⟨g1, g2, g3, g4, g5, g6⟩ := board_ok hb
  have hpp := prod_small g1 g2 g3 g4
  have := nodup_lenI ((units_units b).once u hu) ((units_units b).on u hu)
  omega
/-- The cells of the state with a number. -/
def stateN (b : BoardD) (n : Int) : List CellD := setGo (unitsP b) (bitsN (unitsP b).length n) b.2.2
theorem e_spec_saIn (b : BoardD) (hb : boardOK b = true) (hu : (unitsP b).length ≤ 40) (v : Int) (h0 : 0 ≤ v) (h1 : v < 1099511627776) : Ev (fun k => f_spec_saIn k b v) (b.1, b.2.1, stateN b v) := by
  obtain ⟨g1, g2, g3, g4, g5, g6⟩ := board_ok hb
  have hpp := prod_small g1 g2 g3 g4
  refine Ev.succ ?_
  simp only [f_spec_saIn]
  refine Ev.bind (e_spec_saUnits b hb) ?_
  have h2 := e_spec_saIn_0 b.1 b.2.1 b.2.2 0 0 [] v h0 h1 (unitsP b).length 0 (by omega)
  simp only [Nat.zero_add] at h2
  refine Ev.bind h2 ?_
  have h3 : Ev (fun k => f_spec_saWith k b (bitsN (unitsP b).length v)) (b.1, b.2.1, stateN b v) := by
    refine Ev.succ ?_
    simp only [f_spec_saWith]
    refine Ev.bind (e_spec_boOwn b (by omega)) (Ev.bind (e_spec_saUnits b hb) ?_)
    exact Ev.bind (e_spec_saWith_0 b.2.2 b.1 b.2.1 0 0 [] b.1 b.2.1 (unitsP b) [] [] (bitsN (unitsP b).length v) b.2.2 rfl (units_units b) (fun _ _ => rfl) (cells_bits hb) (unit_lens b hb) (by simp; omega) rfl (bitsN_len _ _)) (Ev.some _)
  exact Ev.bind h3 (Ev.some _)
theorem e_impl_BoardInState (b : BoardD) (hb : boardOK b = true) (hu : (unitsP b).length ≤ 16) (v : Int) (h0 : 0 ≤ v) (h1 : v < 2 ^ (unitsP b).length) : Ev (fun k => f_impl_BoardInState k b v) ((b.1, b.2.1, stateN b v), true) := by
  obtain ⟨g1, g2, g3, g4, g5, g6⟩ := board_ok hb
  have hpp := prod_small g1 g2 g3 g4
  have hp := pow_small (u := (unitsP b).length) (by omega)
  have c1 : ¬ ((unitsP b).length : Int) > 16 := by omega
  have c2 : ¬ v < 0 := by omega
  have c3 : ¬ v ≥ 2 ^ (unitsP b).length := by omega
  refine Ev.succ ?_
  simp only [f_impl_BoardInState]
  refine Ev.bind (e_impl_IsBoard b (by omega)) ?_
  simp only [hb, Bool.not_true, Bool.false_eq_true, if_false]
  refine Ev.bind (e_impl_unitsOf b hb) ?_
  simp only [c1, decide_false, Bool.false_eq_true, if_false, c2, shl_one (u := (unitsP b).length) (by omega), c3]
  refine Ev.bind (e_impl_copyBoard b (by omega)) (Ev.bind (e_impl_bitList v h0 (by omega) (unitsP b).length (by omega)) ?_)
  exact Ev.bind (e_impl_setBits b.1 b.2.1 b.2.2 (unitsP b) (bitsN (unitsP b).length v) (units_units b) (cells_bits hb) (unit_lens b hb) (by omega) (bitsN_len _ _)) (Ev.some _)
theorem stateN_cells (b : BoardD) (hb : boardOK b = true) (n : Int) : (∀ c ∈ stateN b n, cellOK c = true) ∧ (stateN b n).map Prod.fst = b.2.2.map Prod.fst :=
  setGo_cells (unitsP b) _ b.2.2 (fun u hu m hm => (units_ok b).1.on u hu m hm) (board_ok hb).2.2.2.2.2
theorem stateN_len (b : BoardD) (n : Int) : (stateN b n).length = b.2.2.length := setGo_len _ _ _
theorem stateN_ok (b : BoardD) (hb : boardOK b = true) (n : Int) : boardOK (b.1, b.2.1, stateN b n) = true := board_on hb (stateN_len b n) (stateN_cells b hb n).1
theorem stateN_groups (b : BoardD) (hb : boardOK b = true) (n : Int) : groupsOf (b.1, b.2.1, stateN b n) = groupsOf b := groupsOf_parts (b := (b.1, b.2.1, stateN b n)) (b' := b) rfl rfl (stateN_cells b hb n).2
/-- The number of a board's state. -/
def numB (b : BoardD) : Int := numP (bitsP b.2.2 (unitsP b))
end Go.Proofs.Ytjjlmnbmpgfcbaa.Vs

set_option linter.unusedVariables false
set_option linter.unusedSimpArgs false
namespace Go.Proofs.Ytjjlmnbmpgfcbaa.Vs
open Go.RowKit
/-- The cells after a marble, from a state. -/
def afterN (b : BoardD) (c n : Int) : List CellD := (fallOf b (groupsOf b) (kindsB b []) c (stateN b n)).2
def nextN (b : BoardD) (c n : Int) : Int := numP (bitsP (afterN b c n) (unitsP b))
def nextL (b : BoardD) (c : Int) : List Int := (List.range (2 ^ (unitsP b).length)).map fun (n : Nat) => nextN b c (n : Int)
theorem nextL_len (b : BoardD) (c : Int) : (nextL b c).length = 2 ^ (unitsP b).length := by simp [nextL]
theorem after_facts (b : BoardD) (hb : boardOK b = true) (c n : Int) : (∀ x ∈ afterN b c n, cellOK x = true) ∧ (afterN b c n).map Prod.fst = b.2.2.map Prod.fst ∧ (afterN b c n).length = b.2.2.length := by
  have h := stateN_cells b hb n
  have h2 := (fallOf_parts b (groupsOf b) (kindsB b []) c h.1).trans h.2
  exact ⟨fallOf_cells b (groupsOf b) (kindsB b []) c h.1, h2, len_of_parts h2⟩
theorem after_ok (b : BoardD) (hb : boardOK b = true) (c n : Int) : boardOK (b.1, b.2.1, afterN b c n) = true := board_on hb (after_facts b hb c n).2.2 (after_facts b hb c n).1
theorem after_units (b : BoardD) (hb : boardOK b = true) (c n : Int) : unitsP (b.1, b.2.1, afterN b c n) = unitsP b := unitsP_parts (b := (b.1, b.2.1, afterN b c n)) (b' := b) rfl rfl (after_facts b hb c n).2.1
theorem nextN_num (b : BoardD) (hb : boardOK b = true) (c n : Int) : nextN b c n = numB (b.1, b.2.1, afterN b c n) := by
  unfold nextN numB
  rw [after_units b hb]
theorem two_pow_small {u : Nat} (h : u ≤ 10) : 0 < 2 ^ u ∧ 2 ^ u ≤ 1024 := ⟨Nat.two_pow_pos u, by have : 2 ^ u ≤ 2 ^ 10 := Nat.pow_le_pow_right (by omega) h; omega⟩
theorem small40 {m : Nat} (h : m ≤ 1024) : (m : Int) < 1099511627776 := by omega
theorem cast_pow (u : Nat) : ((2 ^ u : Nat) : Int) = (2 : Int) ^ u := by simp
theorem e_spec_flRun (b : BoardD) (hb : boardOK b = true) (c : Int) (hc : 0 ≤ c) (hc2 : c < b.2.1) : Ev (fun k => f_spec_flRun k b c) ((fallOf b (groupsOf b) (kindsB b []) c b.2.2).1, b.1, b.2.1, (fallOf b (groupsOf b) (kindsB b []) c b.2.2).2) := by
  obtain ⟨p, hp⟩ := e_spec_flGo b hb (groupsOf b) (groupsOf_len b) c hc hc2
  refine Ev.succ ?_
  simp only [f_spec_flRun, f_spec_flRun_g1, f_spec_flRun_g2]
  refine Ev.bind (Ev.bind (e_spec_ggGroups b hb) (Ev.bind hp (Ev.some _))) ?_
  exact Ev.bind (Ev.some _) (Ev.some _)
theorem e_spec_rvStates (b : BoardD) (hb : boardOK b = true) (hu : (unitsP b).length ≤ 10) : Ev (fun k => f_spec_rvStates k b) ((2 ^ (unitsP b).length : Nat) : Int) := by
  refine Ev.succ ?_
  simp only [f_spec_rvStates]
  refine Ev.bind (e_spec_saUnits b hb) ?_
  rw [wrap_u64 (Int.natCast_nonneg _) (by omega), shl_one (by omega), cast_pow]
  exact Ev.some _
theorem range_snoc (f : Nat → Int) (m : Nat) : (List.range m).map f ++ [f m] = (List.range (m + 1)).map f := by rw [List.range_succ]; simp
theorem e_spec_rvNext_0 (b : BoardD) (hb : boardOK b = true) (hu : (unitsP b).length ≤ 10) (c : Int) (hc : 0 ≤ c) (hc2 : c < b.2.1) : ∀ (r m : Nat), m + r = 2 ^ (unitsP b).length →
    Ev (fun k => f_spec_rvNext_0 k b.1 b.2.1 b.2.2 ((List.range m).map fun (n : Nat) => nextN b c (n : Int)) c (m : Int)) (nextL b c)
  | 0, m, hm => by
    refine Ev.succ ?_
    simp only [f_spec_rvNext_0]
    refine Ev.bind (e_spec_rvStates b hb hu) ?_
    have : ¬ (m : Int) < ((2 ^ (unitsP b).length : Nat) : Int) := by omega
    simp only [this, decide_false, Bool.false_eq_true, if_false]
    refine (Ev.some _).congr ?_
    rw [Nat.add_zero] at hm
    rw [hm]; rfl
  | r + 1, m, hm => by
    have hp := two_pow_small hu
    have hlt : (m : Int) < ((2 ^ (unitsP b).length : Nat) : Int) := by omega
    have hml : m + 1 ≤ 140737488355328 / 8 := by omega
    have hw : wrap64 ((m : Int) + 1) = ((m + 1 : Nat) : Int) := by rw [w64 (by omega) (by omega)]; omega
    have hrun := e_spec_flRun (b.1, b.2.1, stateN b m) (stateN_ok b hb m) c hc hc2
    rw [stateN_groups b hb, kindsB_dims (b := (b.1, b.2.1, stateN b m)) (b' := b) rfl (stateN_len b m), fallOf_dims (b := (b.1, b.2.1, stateN b m)) (b' := b) rfl rfl] at hrun
    have hnum := e_spec_saNumber (b.1, b.2.1, afterN b c m) (after_ok b hb c m) (by rw [after_units b hb]; omega)
    refine Ev.succ ?_
    simp only [f_spec_rvNext_0]
    refine Ev.bind (e_spec_rvStates b hb hu) ?_
    simp only [hlt, decide_true, if_true]
    refine Ev.bind (e_spec_saIn b hb (by omega) m (Int.natCast_nonneg _) (by omega)) (Ev.bind hrun (Ev.bind hnum ?_))
    simp only [List.length_map, List.length_range, List.length_singleton, hml, if_true]
    rw [show numP (bitsP (b.1, b.2.1, afterN b c m).2.2 (unitsP (b.1, b.2.1, afterN b c m))) = nextN b c m from (nextN_num b hb c m).symm, range_snoc (fun (n : Nat) => nextN b c (n : Int)) m, hw]
    exact e_spec_rvNext_0 b hb hu c hc hc2 r (m + 1) (by omega)
theorem e_spec_rvNext (b : BoardD) (hb : boardOK b = true) (hu : (unitsP b).length ≤ 10) (c : Int) (hc : 0 ≤ c) (hc2 : c < b.2.1) : Ev (fun k => f_spec_rvNext k b c) (nextL b c) := by
  refine Ev.succ ?_
  simp only [f_spec_rvNext]
  exact Ev.bind (e_spec_rvNext_0 b hb hu c hc hc2 _ 0 (Nat.zero_add _)) (Ev.some _)
theorem e_impl_numbersAfter_4 (b1 b2 : Int) (b3 : List CellD) (o3 : List Int) (o4 : List (List Int)) (d1 d2 : Int) (o : List CellD) (v8 v9 v10 : Int) (v21 : List Int) (v22 v23 v39 v40 : Int) : ∀ (r pre : List (List Int)) (done rest : List Int), Heads r o.length → (pre ++ r).length ≤ 1000 → done.length = pre.length → rest.length = r.length →
    Ev (fun k => f_impl_numbersAfter_4 k b1 b2 b3 (pre ++ r) o3 o4 d1 d2 o (done ++ rest) v8 v9 v10 v21 v22 v23 v39 v40 ((pre ++ r).length : Int) (pre.length : Int)) (b1, b2, b3, pre ++ r, o3, o4, done ++ bitsP o r, v8, v9, v10, v21, v22, v23, v39, v40)
  | [], pre, done, rest, hh, hl, hd, hr => by
    obtain rfl : rest = [] := List.eq_nil_of_length_eq_zero hr
    refine Ev.succ ?_
    simp only [f_impl_numbersAfter_4, nlt_end, decide_false, Bool.false_eq_true, if_false, bitsP, List.map_nil]
    exact Ev.some _
  | u :: r, pre, done, [], hh, hl, hd, hr => by simp at hr
  | u :: r, pre, done, y :: rest, hh, hl, hd, hr => by
    obtain ⟨p1, p2, p3⟩ := hh u (List.mem_cons_self ..)
    have p1' : (0 : Int) < (u.length : Int) := by omega
    have hlt2 : (pre.length : Int) < ((done ++ y :: rest).length : Int) := by simp; omega
    have hset : List.set (done ++ y :: rest) pre.length (bitOf o u) = (done ++ [bitOf o u]) ++ rest := by rw [← hd, set_mid]; simp
    have ih := e_impl_numbersAfter_4 b1 b2 b3 o3 o4 d1 d2 o v8 v9 v10 v21 v22 v23 v39 v40 r (pre ++ [u]) (done ++ [bitOf o u]) rest (fun v hv => hh v (List.mem_cons_of_mem _ hv)) (by simpa using hl) (by simp [hd]) (by simpa using hr)
    refine Ev.succ ?_
    simp only [f_impl_numbersAfter_4, lt_mid, ge_mid, decide_true, if_true, Int.toNat_natCast, getD_mid, Int.toNat_zero, p1', p2, p3, hlt2]
    rw [show (List.getD o (List.getD u 0 0).toNat (0, 0)).2 = bitOf o u from rfl, hset, next_mid pre u r (by omega)]
    rw [← shift_mid] at ih
    refine ih.congr ?_
    simp [bitsP]
theorem e_impl_numbersAfter_2 (b : BoardD) (hb : boardOK b = true) (hu : (unitsP b).length ≤ 10) (c : Int) (hc : 0 ≤ c) (hc2 : c < b.2.1) (A B : List (List Int)) (v21 : List Int) (v22 v23 : Int) : ∀ (r m : Nat) (rest : List Int), m + r = 2 ^ (unitsP b).length → rest.length = r →
    Ev (fun k => f_impl_numbersAfter_2 k b.1 b.2.1 b.2.2 (unitsP b) (groupsOf b) (A ++ (((List.range m).map fun (n : Nat) => nextN b c (n : Int)) ++ rest) :: B) (A.length : Int) c v21 v22 v23 ((2 ^ (unitsP b).length : Nat) : Int) (m : Int)) (b.1, b.2.1, b.2.2, unitsP b, groupsOf b, A ++ nextL b c :: B, v21, v22, v23)
  | 0, m, rest, hm, hr => by
    obtain rfl : rest = [] := List.eq_nil_of_length_eq_zero hr
    refine Ev.succ ?_
    have : ¬ (m : Int) < ((2 ^ (unitsP b).length : Nat) : Int) := by omega
    simp only [f_impl_numbersAfter_2, this, decide_false, Bool.false_eq_true, if_false]
    refine (Ev.some _).congr ?_
    rw [Nat.add_zero] at hm
    rw [hm, List.append_nil]; rfl
  | r + 1, m, [], hm, hr => by simp at hr
  | r + 1, m, y :: rest, hm, hr => by
    obtain ⟨g1, g2, g3, g4, g5, g6⟩ := board_ok hb
    have hpp := prod_small g1 g2 g3 g4
    have hp := two_pow_small hu
    have hlt : (m : Int) < ((2 ^ (unitsP b).length : Nat) : Int) := by omega
    have hw : wrap64 ((m : Int) + 1) = ((m + 1 : Nat) : Int) := by rw [w64 (by omega) (by omega)]; omega
    have hul : (unitsP b).length * 8 ≤ 281474976710656 := by omega
    have hm40 : (m : Int) < 1099511627776 := small40 (Nat.le_trans (Nat.le.intro hm) hp.2)
    obtain ⟨p, hdrop⟩ := e_impl_drop b hb (groupsOf b) (groupsOf_len b) c hc hc2 (stateN b m) (stateN_len b m) (stateN_cells b hb m).1
    have h4 := e_impl_numbersAfter_4 b.1 b.2.1 b.2.2 (groupsOf b) (A ++ (((List.range m).map fun (n : Nat) => nextN b c (n : Int)) ++ y :: rest) :: B) b.1 b.2.1 (afterN b c m) (A.length : Int) c (m : Int) v21 v22 v23 ((2 ^ (unitsP b).length : Nat) : Int) (m : Int) (unitsP b) [] [] (List.replicate (unitsP b).length 0) (by rw [(after_facts b hb c m).2.2]; exact (units_units b).heads) (by simp; omega) rfl (by simp)
    have hbits : ∀ x ∈ bitsP (afterN b c m) (unitsP b), isBit x := bits_are (fun x hx => cell_bit ((after_facts b hb c m).1 x hx)) (by rw [(after_facts b hb c m).2.2]; exact units_units b)
    have hAl : (A.length : Int) < ((A ++ (((List.range m).map fun (n : Nat) => nextN b c (n : Int)) ++ y :: rest) :: B).length : Int) := by simp; omega
    have hml : (m : Int) < ((((List.range m).map fun (n : Nat) => nextN b c (n : Int)) ++ y :: rest).length : Int) := by simp; omega
    have hset : List.set (((List.range m).map fun (n : Nat) => nextN b c (n : Int)) ++ y :: rest) m (nextN b c m) = ((List.range (m + 1)).map fun (n : Nat) => nextN b c (n : Int)) ++ rest := by
      have := set_mid ((List.range m).map fun (n : Nat) => nextN b c (n : Int)) y (nextN b c m) rest
      rw [List.length_map, List.length_range] at this
      rw [this, ← range_snoc (fun (n : Nat) => nextN b c (n : Int)) m]
      simp
    refine Ev.succ ?_
    simp only [f_impl_numbersAfter_2, hlt, decide_true, if_true]
    refine Ev.bind (e_impl_copyBoard b (by omega)) ?_
    refine Ev.bind (e_impl_bitList (m : Int) (Int.natCast_nonneg m) hm40 (unitsP b).length (Nat.le_trans hu (by decide))) ?_
    refine Ev.bind (e_impl_setBits b.1 b.2.1 b.2.2 (unitsP b) _ (units_units b) (cells_bits hb) (unit_lens b hb) (by omega) (bitsN_len _ _)) ?_
    refine Ev.bind hdrop ?_
    simp only [Int.toNat_natCast, hul, if_true]
    refine Ev.bind h4 ?_
    simp only [List.nil_append, ge_mid, hAl, if_true]
    refine Ev.bind (e_impl_numberOf _ hbits (by rw [bitsP_len]; omega)) ?_
    simp only [Int.toNat_natCast, getD_mid, Int.natCast_nonneg, hml, if_true]
    rw [show numP (bitsP (afterN b c m) (unitsP b)) = nextN b c m from rfl, hset, set_mid, hw]
    exact e_impl_numbersAfter_2 b hb hu c hc hc2 A B v21 v22 v23 r (m + 1) rest (by omega) (by simpa using hr)
theorem e_impl_numbersAfter_0 (b : BoardD) (hb : boardOK b = true) (hu : (unitsP b).length ≤ 10) : ∀ (r pre : List Int), colsOK b r → (pre ++ r).length ≤ 1000 → ∀ (A B : List (List Int)), A.length = pre.length → B.length = r.length →
    Ev (fun k => f_impl_numbersAfter_0 k b.1 b.2.1 b.2.2 (unitsP b) (groupsOf b) (A ++ B) (pre ++ r) ((pre ++ r).length : Int) (pre.length : Int)) (A ++ r.map (nextL b))
  | [], pre, hc, hl, A, B, hA, hB => by
    obtain rfl : B = [] := List.eq_nil_of_length_eq_zero hB
    refine Ev.succ ?_
    simp only [f_impl_numbersAfter_0, nlt_end, decide_false, Bool.false_eq_true, if_false]
    exact Ev.some _
  | c :: r, pre, hc, hl, A, [], hA, hB => by simp at hB
  | c :: r, pre, hc, hl, A, y :: B, hA, hB => by
    obtain ⟨k1, k2⟩ := hc c (List.mem_cons_self ..)
    have hp := two_pow_small hu
    have h1 : (0 : Int) ≤ 2 ^ (unitsP b).length := by rw [← cast_pow]; omega
    have h2 : (2 ^ (unitsP b).length) * 8 ≤ 281474976710656 := by omega
    have h3 : (pre.length : Int) < ((A ++ y :: B).length : Int) := by simp; omega
    have htn : Int.toNat ((2 : Int) ^ (unitsP b).length) = 2 ^ (unitsP b).length := by rw [← cast_pow, Int.toNat_natCast]
    have hset : List.set (A ++ y :: B) pre.length (List.replicate (2 ^ (unitsP b).length) 0) = A ++ List.replicate (2 ^ (unitsP b).length) 0 :: B := by rw [← hA, set_mid]
    have h4 : (pre.length : Int) < ((A ++ List.replicate (2 ^ (unitsP b).length) (0 : Int) :: B).length : Int) := by simp; omega
    have hget : List.getD (A ++ List.replicate (2 ^ (unitsP b).length) (0 : Int) :: B) pre.length [] = List.replicate (2 ^ (unitsP b).length) 0 := by rw [← hA]; exact getD_mid _ _ _ _
    have ih := e_impl_numbersAfter_0 b hb hu r (pre ++ [c]) (fun x hx => hc x (List.mem_cons_of_mem _ hx)) (by simpa using hl) (A ++ [nextL b c]) B (by simp [hA]) (by simpa using hB)
    refine Ev.succ ?_
    simp only [f_impl_numbersAfter_0, lt_mid, ge_mid, decide_true, if_true, Int.toNat_natCast, getD_mid, shl_one (u := (unitsP b).length) (by omega), h1, htn, h2, h3, hset, h4, hget, List.length_replicate]
    have h2' := e_impl_numbersAfter_2 b hb hu c k1 k2 A B (pre ++ c :: r) ((pre ++ c :: r).length : Int) (pre.length : Int) (2 ^ (unitsP b).length) 0 (List.replicate (2 ^ (unitsP b).length) 0) (by omega) (by simp)
    simp only [List.range_zero, List.map_nil, List.nil_append, hA] at h2'
    refine Ev.bind h2' ?_
    simp only
    rw [next_mid pre c r (by omega)]
    rw [← shift_mid, ← shift_mid] at ih
    refine ih.congr ?_
    simp
theorem e_impl_numbersAfter (b : BoardD) (hb : boardOK b = true) (hu : (unitsP b).length ≤ 10) (t : List Int) (hc : colsOK b t) (ht : t.length ≤ 1000) : Ev (fun k => f_impl_numbersAfter k b t) (t.map (nextL b)) := by
  have hm : t.length * 24 ≤ 281474976710656 := by omega
  refine Ev.succ ?_
  simp only [f_impl_numbersAfter]
  refine Ev.bind (e_impl_unitsOf b hb) (Ev.bind (e_impl_groupNumbers b hb) ?_)
  simp only [Int.toNat_natCast, hm, if_true]
  exact Ev.bind (e_impl_numbersAfter_0 b hb hu t [] hc (by simpa using ht) [] (List.replicate t.length []) rfl (by simp)) (Ev.some _)
end Go.Proofs.Ytjjlmnbmpgfcbaa.Vs

set_option linter.unusedVariables false
set_option linter.unusedSimpArgs false
namespace Go.Proofs.Ytjjlmnbmpgfcbaa.Vs
open Go.RowKit
end Go.Proofs.Ytjjlmnbmpgfcbaa.Vs

set_option linter.unusedVariables false
set_option linter.unusedSimpArgs false
namespace Go.Proofs.Ytjjlmnbmpgfcbaa.Vs
open Go.RowKit
/-- What is asked of a board and a column. -/
def backOK (b : BoardD) (c : Int) : Bool := boardOK b && decide (0 ≤ c ∧ c < b.2.1) && decide ((unitsP b).length ≤ 10)
theorem back_ok {b : BoardD} {c : Int} (h : backOK b c = true) : boardOK b = true ∧ 0 ≤ c ∧ c < b.2.1 ∧ (unitsP b).length ≤ 10 := by
  simp only [backOK, Bool.and_eq_true, decide_eq_true_eq] at h
  exact ⟨h.1.1, h.1.2.1, h.1.2.2, h.2⟩
theorem e_spec_rvHas (b : BoardD) (c : Int) (hl : b.2.2.length ≤ 9223372036854775806) : Ev (fun k => f_spec_rvHas k b c) (backOK b c) := by
  refine Ev.succ ?_
  simp only [f_spec_rvHas]
  refine Ev.bind (e_spec_flHas b c hl) ?_
  unfold backOK
  cases h : boardOK b && decide (0 ≤ c ∧ c < b.2.1) with
  | false => simp only [Bool.false_eq_true, if_false, Bool.false_and]; exact Ev.some _
  | true =>
    have hb : boardOK b = true := by simp only [Bool.and_eq_true] at h; exact h.1
    simp only [if_true, Bool.true_and]
    refine Ev.bind (e_spec_saUnits b hb) ?_
    refine (Ev.some _).congr ?_
    simp only [decide_eq_decide]
    omega
theorem e_impl_goesBack (b : BoardD) (c : Int) (hl : b.2.2.length ≤ 9223372036854775806) : Ev (fun k => f_impl_goesBack k b c) (backOK b c) := by
  refine Ev.succ ?_
  simp only [f_impl_goesBack]
  refine Ev.bind (e_impl_validEntry b c hl) ?_
  unfold backOK
  cases h : boardOK b && decide (0 ≤ c ∧ c < b.2.1) with
  | false => simp only [Bool.false_eq_true, if_false, Bool.false_and]; exact Ev.some _
  | true =>
    have hb : boardOK b = true := by simp only [Bool.and_eq_true] at h; exact h.1
    simp only [if_true, Bool.true_and]
    refine Ev.bind (e_impl_unitsOf b hb) ?_
    refine (Ev.some _).congr ?_
    simp only [decide_eq_decide]
    omega
/-! ### Cycles -/
theorem nextL_small (b : BoardD) (hu : (unitsP b).length ≤ 10) (c : Int) : (nextL b c).length ≤ 1024 ∧ 0 < (nextL b c).length := by
  have := two_pow_small hu
  rw [nextL_len]
  omega
end Go.Proofs.Ytjjlmnbmpgfcbaa.Vs

set_option linter.unusedVariables false
set_option linter.unusedSimpArgs false
namespace Go.Proofs.Ytjjlmnbmpgfcbaa.Vs
open Go.RowKit
/-! ### The states before one -/
def befs (to : Int) : List Int → Int → List Int
  | [], _ => []
  | x :: r, m => (if x = to then [m] else []) ++ befs to r (m + 1)
theorem befs_in (to : Int) : ∀ (l : List Int) (m : Int), ∀ n ∈ befs to l m, m ≤ n ∧ n < m + (l.length : Int)
  | [], m, n, h => by cases h
  | x :: r, m, n, h => by
    simp only [befs, List.mem_append] at h
    simp only [List.length_cons]
    rcases h with h | h
    · split at h
      · rw [List.mem_singleton.1 h]; omega
      · cases h
    · have := befs_in to r (m + 1) n h; omega
theorem befs_len (to : Int) : ∀ (l : List Int) (m : Int), (befs to l m).length ≤ l.length
  | [], m => Nat.le_refl _
  | x :: r, m => by
    have := befs_len to r (m + 1)
    simp only [befs, List.length_append, List.length_cons]
    split <;> simp <;> omega
theorem e_spec_rvBefore_0 (to : Int) : ∀ (r pre w : List Int), w.length ≤ pre.length → (pre ++ r).length ≤ 1000000 → Ev (fun k => f_spec_rvBefore_0 k w to (pre ++ r) ((pre ++ r).length : Int) (pre.length : Int)) (w ++ befs to r pre.length)
  | [], pre, w, hw, hl => by
    refine Ev.succ ?_
    simp only [f_spec_rvBefore_0, nlt_end, decide_false, Bool.false_eq_true, if_false]
    exact (Ev.some _).congr (by simp [befs])
  | x :: r, pre, w, hw, hl => by
    have hwl : w.length + 1 ≤ 140737488355328 / 8 := by simp at hl; omega
    have hcast : ((pre ++ [x]).length : Int) = (pre.length : Int) + 1 := by simp
    have ih := fun w' hw' => e_spec_rvBefore_0 to r (pre ++ [x]) w' hw' (by simpa using hl)
    rw [← shift_mid, hcast] at ih
    refine Ev.succ ?_
    simp only [f_spec_rvBefore_0, lt_mid, ge_mid, decide_true, if_true, Int.toNat_natCast, getD_mid, List.length_singleton, hwl, decide_eq_true_eq]
    rw [next_mid pre x r (by omega), hcast]
    by_cases hx : x = to
    · simp only [if_pos hx, if_true]
      refine (ih (w ++ [(pre.length : Int)]) (by simp; omega)).congr ?_
      simp [befs, hx]
    · simp only [if_neg hx]
      refine (ih w (by simp; omega)).congr ?_
      simp [befs, hx]
theorem e_spec_rvBefore (next : List Int) (to : Int) (hl : next.length ≤ 1000000) : Ev (fun k => f_spec_rvBefore k next to) (befs to next 0) := by
  refine Ev.succ ?_
  simp only [f_spec_rvBefore]
  exact Ev.bind (e_spec_rvBefore_0 to next [] [] (Nat.le_refl _) (by simpa using hl)) (Ev.some _)
def inState (b : BoardD) (n : Int) : BoardD := (b.1, b.2.1, stateN b n)
theorem pow_cast_lt {n u : Nat} (h : n < 2 ^ u) : (n : Int) < 2 ^ u := by rw [← cast_pow]; exact Int.ofNat_lt.2 h
theorem e_impl_BoardsBefore_0 (b : BoardD) (hb : boardOK b = true) (hu : (unitsP b).length ≤ 10) (to : Int) : ∀ (r pre : List Int) (w : List BoardD), w.length ≤ pre.length → (pre ++ r).length = 2 ^ (unitsP b).length → Ev (fun k => f_impl_BoardsBefore_0 k b.1 b.2.1 b.2.2 w [pre ++ r] to 0 ((pre ++ r).length : Int) (pre.length : Int)) (w ++ (befs to r pre.length).map (inState b))
  | [], pre, w, hw, hl => by
    refine Ev.succ ?_
    simp only [f_impl_BoardsBefore_0, nlt_end, decide_false, Bool.false_eq_true, if_false]
    exact (Ev.some _).congr (by simp [befs])
  | x :: r, pre, w, hw, hl => by
    have hp := two_pow_small hu
    have hpl : pre.length < 2 ^ (unitsP b).length := by rw [← hl]; simp
    have hl2 : (pre ++ x :: r).length ≤ 1000 * 1000 := by omega
    have hwl : w.length + 1 ≤ 140737488355328 / 40 := by omega
    have hcast : ((pre ++ [x]).length : Int) = (pre.length : Int) + 1 := by simp
    have hg : List.getD [pre ++ x :: r] (Int.toNat 0) [] = pre ++ x :: r := rfl
    have hlt := pow_cast_lt hpl
    have ih := fun w' hw' => e_impl_BoardsBefore_0 b hb hu to r (pre ++ [x]) w' hw' (by simpa using hl)
    rw [← shift_mid, hcast] at ih
    refine Ev.succ ?_
    simp only [f_impl_BoardsBefore_0, hg, lt_mid, ge_mid, decide_true, if_true, Int.toNat_natCast, getD_mid, decide_eq_true_eq]
    rw [next_mid pre x r (by omega), hcast]
    by_cases hx : x = to
    · simp only [if_pos hx]
      refine Ev.bind (e_impl_BoardInState b hb (by omega) (pre.length : Int) (Int.natCast_nonneg _) hlt) ?_
      simp only [List.length_singleton, hwl, if_true]
      refine (ih (w ++ [inState b pre.length]) (by simp; omega)).congr ?_
      simp [befs, hx]
    · simp only [if_neg hx]
      refine (ih w (by simp; omega)).congr ?_
      simp [befs, hx]
def beforeN (b : BoardD) (c : Int) : List Int := befs (numB b) (nextL b c) 0
theorem before_in (b : BoardD) (c : Int) : ∀ n ∈ beforeN b c, 0 ≤ n ∧ n < 2 ^ (unitsP b).length := by
  intro n hn
  have := befs_in (numB b) (nextL b c) 0 n hn
  rw [nextL_len, cast_pow] at this
  omega
def r_BoardsBefore (b : BoardD) (c : Int) : List BoardD × Bool := if backOK b c then ((beforeN b c).map (inState b), true) else ([], false)
theorem e_impl_BoardsBefore (b : BoardD) (c : Int) (h0 : b.2.2.length ≤ 9223372036854775806) : Ev (fun k => f_impl_BoardsBefore k b c) (r_BoardsBefore b c) := by
  refine Ev.succ ?_
  simp only [f_impl_BoardsBefore]
  unfold r_BoardsBefore
  refine Ev.bind (e_impl_goesBack b c h0) ?_
  cases g0 : backOK b c with
  | false => simp only [Bool.not_false, if_true, Bool.false_eq_true, if_false]; exact Ev.some _
  | true =>
    obtain ⟨hb, k1, k2, hu⟩ := back_ok g0
    simp only [Bool.not_true, Bool.false_eq_true, if_false, if_true]
    refine Ev.bind (e_impl_bitsOf b hb) (Ev.bind (a := numB b) (e_impl_numberOf _ (bits_are (cells_bits hb) (units_units b)) (by rw [bitsP_len]; omega)) ?_)
    refine Ev.bind (e_impl_numbersAfter b hb hu [c] (fun x hx => by rw [List.mem_singleton.1 hx]; exact ⟨k1, k2⟩) (by simp)) ?_
    have hl : (0 : Int) < ((List.map (nextL b) [c]).length : Int) := by simp
    have hg : List.getD (List.map (nextL b) [c]) (Int.toNat 0) [] = nextL b c := rfl
    simp only [hl, if_true, hg]
    have h := e_impl_BoardsBefore_0 b hb hu (numB b) (nextL b c) [] [] (Nat.le_refl _) (by rw [List.nil_append, nextL_len])
    exact Ev.bind h (Ev.some _)
end Go.Proofs.Ytjjlmnbmpgfcbaa.Vs

set_option linter.unusedVariables false
set_option linter.unusedSimpArgs false
namespace Go.Proofs.Ytjjlmnbmpgfcbaa.Vs
open Go.RowKit
/-! ### Rows of boards -/
theorem e_laws_eqBoardS_0 : ∀ (r s pre pre' : List BoardD), s.length = r.length → pre'.length = pre.length → (pre ++ r).length ≤ 9223372036854775806 → (∀ x ∈ r, x.2.2.length ≤ 9223372036854775806) → Ev (fun k => f_laws_eqBoardS_0 k (pre ++ r) (pre' ++ s) (pre.length : Int)) (if r = s then LR.go () else LR.ret false)
  | [], s, pre, pre', h, hp, hl, hx => by
    obtain rfl : s = [] := List.eq_nil_of_length_eq_zero h
    refine Ev.succ ?_
    simp only [f_laws_eqBoardS_0, nlt_end, decide_false, Bool.false_eq_true, if_false, if_true]
    exact Ev.some _
  | x :: r, [], pre, pre', h, hp, hl, hx => by simp at h
  | x :: r, y :: s, pre, pre', h, hp, hl, hx => by
    have ih := e_laws_eqBoardS_0 r s (pre ++ [x]) (pre' ++ [y]) (by simpa using h) (by simpa using hp) (by simpa using hl) (fun z hz => hx z (List.mem_cons_of_mem _ hz))
    have l2 : (pre.length : Int) < ((pre' ++ y :: s).length : Int) := by rw [← hp]; exact lt_mid _ _ _
    have g2 : List.getD (pre' ++ y :: s) pre.length (0, 0, []) = y := by rw [← hp]; exact getD_mid _ _ _ _
    refine Ev.succ ?_
    simp only [f_laws_eqBoardS_0, lt_mid, ge_mid, l2, decide_true, if_true, Int.toNat_natCast, getD_mid, g2]
    rw [next_mid pre x r (by omega)]
    rw [← shift_mid, ← shift_mid] at ih
    refine Ev.bind (e_laws_eqBoard x y (hx x (List.mem_cons_self ..))) ?_
    by_cases hxy : x = y
    · subst hxy
      simp only [decide_true, Bool.not_true, Bool.false_eq_true, if_false]
      refine ih.congr ?_
      by_cases hrs : r = s <;> simp [hrs]
    · simp only [hxy, decide_false, Bool.not_false, if_true]
      refine Ev.of ?_
      rw [if_neg (by intro hc; injection hc with h1 h2; exact hxy h1)]
theorem e_laws_eqBoardS (l m : List BoardD) (hl : l.length ≤ 9223372036854775806) (hx : ∀ x ∈ l, x.2.2.length ≤ 9223372036854775806) : Ev (fun k => f_laws_eqBoardS k l m) (decide (l = m)) := by
  refine Ev.succ ?_
  simp only [f_laws_eqBoardS]
  by_cases h : l.length = m.length
  · simp only [h, ne_eq, not_true_eq_false, decide_false, Bool.false_eq_true, if_false]
    have h0 := e_laws_eqBoardS_0 l m [] [] h.symm rfl (by simpa using hl) hx
    refine Ev.bind h0 ?_
    by_cases hlm : l = m
    · simp only [hlm, if_true, decide_true]; exact Ev.go (Ev.some _)
    · simp only [hlm, if_false, decide_false]; exact Ev.ret (Ev.some _)
  · have h' : ¬ ((l.length : Int) = (m.length : Int)) := by omega
    have hlm : ¬ l = m := fun e => h (by rw [e])
    simp only [h', hlm, ne_eq, not_false_eq_true, decide_true, if_true, decide_false]
    exact Ev.some _
def szB : List BoardD → Int
  | [] => 0
  | x :: r => (2 + 2 * (x.2.2.length : Int)) + szB r
theorem szB_nonneg : ∀ (l : List BoardD), 0 ≤ szB l
  | [] => Int.le_refl 0
  | x :: r => by have := szB_nonneg r; simp only [szB]; omega
def marksBoardS : List BoardD → Int → List BoardD
  | [], _ => []
  | x :: r, c => (c, c + 1, marksCellS x.2.2 (c + 2)) :: marksBoardS r (c + (2 + 2 * (x.2.2.length : Int)))
theorem marksBoardS_len : ∀ (l : List BoardD) (c : Int), (marksBoardS l c).length = l.length
  | [], _ => rfl
  | x :: r, c => by simp [marksBoardS, marksBoardS_len r]
theorem e_laws_heldBoardS_0 : ∀ (r pre : List BoardD) (c : Int), 0 ≤ c → c + 1 * szB r ≤ 4611686018427387904 → (pre ++ marksBoardS r c).length ≤ 4611686018427387904 → Ev (fun k => f_laws_heldBoardS_0 k (pre ++ marksBoardS r c) c (pre.length : Int)) (LR.go (c + 1 * szB r))
  | [], pre, c, hc, h, hl => by
    refine Ev.succ ?_
    simp only [f_laws_heldBoardS_0, marksBoardS, nlt_end, decide_false, Bool.false_eq_true, if_false, szB, Int.mul_zero, Int.add_zero]
    exact Ev.some _
  | x :: r, pre, c, hc, h, hl => by
    have hz := szB_nonneg r
    simp only [szB] at h ⊢
    have h' : (c + (2 + 2 * (x.2.2.length : Int))) + 1 * szB r = c + 1 * ((2 + 2 * (x.2.2.length : Int)) + szB r) := by omega
    simp only [marksBoardS] at hl ⊢
    have ih := e_laws_heldBoardS_0 r (pre ++ [(c, c + 1, marksCellS x.2.2 (c + 2))]) (c + (2 + 2 * (x.2.2.length : Int))) (by omega) (by omega) (by simpa using hl)
    have hn := next_mid pre (c, c + 1, marksCellS x.2.2 (c + 2)) (marksBoardS r (c + (2 + 2 * (x.2.2.length : Int)))) (by omega)
    have w1 : wrap64 (c + 1) = c + 1 := w64 (by omega) (by omega)
    have w2 : wrap64 (c + 1 + 1) = c + 2 := by rw [w64 (by omega) (by omega)]; omega
    refine Ev.succ ?_
    simp only [f_laws_heldBoardS_0, lt_mid, ge_mid, decide_true, if_true, Int.toNat_natCast, getD_mid, hn, w1, w2, ne_eq, not_true_eq_false, decide_false, Bool.false_eq_true, if_false]
    refine Ev.bind (e_laws_heldCellS x.2.2 (c + 2) (by omega) (by omega)) (Ev.ite (fun h => ?_) (fun _ => ?_))
    · simp only [decide_eq_true_eq] at h; omega
    · rw [← shift_mid, h'] at ih
      rw [show c + 2 + 2 * (x.2.2.length : Int) = c + (2 + 2 * (x.2.2.length : Int)) by omega]
      exact ih
theorem e_laws_heldBoardS (l : List BoardD) (c : Int) (hc : 0 ≤ c) (h : c + 1 * szB l ≤ 4611686018427387904) (hl : l.length ≤ 4611686018427387904) : Ev (fun k => f_laws_heldBoardS k (marksBoardS l c) c) (c + 1 * szB l) := by
  refine Ev.succ ?_
  simp only [f_laws_heldBoardS]
  refine Ev.bind (e_laws_heldBoardS_0 l [] c hc h (by rw [List.nil_append, marksBoardS_len]; exact hl)) ?_
  exact Ev.go (Ev.some _)
theorem e_spec_BoardsBefore_0 (b : BoardD) (hb : boardOK b = true) (hu : (unitsP b).length ≤ 10) : ∀ (r pre : List Int) (w : List BoardD), (∀ n ∈ r, 0 ≤ n ∧ n < 2 ^ (unitsP b).length) → w.length ≤ pre.length → (pre ++ r).length ≤ 1000000 → Ev (fun k => f_spec_BoardsBefore_0 k b.1 b.2.1 b.2.2 w (pre ++ r) ((pre ++ r).length : Int) (pre.length : Int)) (w ++ r.map (inState b))
  | [], pre, w, hr, hw, hl => by
    refine Ev.succ ?_
    simp only [f_spec_BoardsBefore_0, nlt_end, decide_false, Bool.false_eq_true, if_false]
    exact (Ev.some _).congr (by simp)
  | n :: r, pre, w, hr, hw, hl => by
    obtain ⟨n0, n1⟩ := hr n (List.mem_cons_self ..)
    have hp := two_pow_small hu
    have hn40 : n < 1099511627776 := by rw [← cast_pow] at n1; exact Int.lt_of_lt_of_le n1 (by omega)
    have hwl : w.length + 1 ≤ 140737488355328 / 40 := by simp at hl; omega
    have ih := e_spec_BoardsBefore_0 b hb hu r (pre ++ [n]) (w ++ [inState b n]) (fun m hm => hr m (List.mem_cons_of_mem _ hm)) (by simp; omega) (by simpa using hl)
    rw [← shift_mid] at ih
    refine Ev.succ ?_
    simp only [f_spec_BoardsBefore_0, lt_mid, ge_mid, decide_true, if_true, Int.toNat_natCast, getD_mid]
    refine Ev.bind (e_spec_saIn b hb (by omega) n n0 hn40) ?_
    simp only [List.length_singleton, hwl, if_true]
    rw [next_mid pre n r (by omega)]
    refine ih.congr ?_
    simp
theorem before_len (b : BoardD) (hu : (unitsP b).length ≤ 10) (c : Int) : (beforeN b c).length ≤ 1024 := by
  have h1 := befs_len (numB b) (nextL b c) 0
  have h2 := nextL_small b hu c
  unfold beforeN
  omega
theorem e_spec_BoardsBefore (b : BoardD) (c : Int) (h0 : b.2.2.length ≤ 9223372036854775806) : Ev (fun k => f_spec_BoardsBefore k b c) (r_BoardsBefore b c) := by
  refine Ev.succ ?_
  simp only [f_spec_BoardsBefore]
  unfold r_BoardsBefore
  refine Ev.bind (e_spec_rvHas b c h0) ?_
  cases g0 : backOK b c with
  | false => simp only [Bool.not_false, if_true, Bool.false_eq_true, if_false]; exact Ev.some _
  | true =>
    obtain ⟨hb, k1, k2, hu⟩ := back_ok g0
    have hs := nextL_small b hu c
    have hbl := before_len b hu c
    simp only [Bool.not_true, Bool.false_eq_true, if_false, if_true]
    refine Ev.bind (e_spec_rvNext b hb hu c k1 k2) (Ev.bind (a := numB b) (e_spec_saNumber b hb (by omega)) (Ev.bind (a := beforeN b c) (e_spec_rvBefore _ _ (by omega)) ?_))
    exact Ev.bind (e_spec_BoardsBefore_0 b hb hu (beforeN b c) [] [] (before_in b c) (Nat.le_refl _) (by simp; omega)) (Ev.some _)
theorem szB_le (m : Nat) : ∀ (l : List BoardD), (∀ x ∈ l, x.2.2.length ≤ m) → szB l ≤ (2 + 2 * (m : Int)) * l.length
  | [], _ => by simp [szB]
  | x :: r, h => by
    have h1 := h x (List.mem_cons_self ..)
    have h2 := szB_le m r (fun y hy => h y (List.mem_cons_of_mem _ hy))
    simp only [szB, List.length_cons]
    rw [Int.natCast_add, Int.mul_add]
    omega
theorem boards_len (b : BoardD) (c : Int) : (r_BoardsBefore b c).1.length ≤ 1024 ∧ ∀ x ∈ (r_BoardsBefore b c).1, x.2.2.length ≤ 90 := by
  unfold r_BoardsBefore
  split
  · rename_i h
    obtain ⟨hb, k1, k2, hu⟩ := back_ok h
    obtain ⟨g1, g2, g3, g4, g5, g6⟩ := board_ok hb
    have hpp := prod_small g1 g2 g3 g4
    refine ⟨by simpa using before_len b hu c, fun x hx => ?_⟩
    obtain ⟨n, hn, rfl⟩ := List.mem_map.1 hx
    simp only [inState, stateN_len]
    omega
  · simp
theorem readF_self (st : St) (i : Nat) (j c : Int) (t0 : Ty) (f0 : Nat) (y : List (Ty.pair (Ty.int .i64) (Ty.int .i64)).D) (xs : List TV) (hx : xs = [TV.sv (SV.at (At.inf i j t0 f0)), TV.sv (SV.at (At.int IntKind.i64 c))]) : readArgsF st i j t0 f0 75 (Ty.pair (Ty.int .i64) (Ty.int .i64)) y (CallE.ps (FnDef.E d_laws_markCellS)) xs = some (y, c, ()) := by
  subst hx
  show readArgsF st i j t0 f0 75 (Ty.pair (Ty.int .i64) (Ty.int .i64)) y q_laws_markCellS _ = _
  have e2 : readArgsF st i j t0 f0 75 (Ty.pair (Ty.int .i64) (Ty.int .i64)) y [{ t := Ty.int IntKind.i64 }] [TV.sv (SV.at (At.int IntKind.i64 c))] = some (c, ()) := rfl
  have e3 : readArgsF st i j t0 f0 75 (Ty.pair (Ty.int .i64) (Ty.int .i64)) y q_laws_markCellS [TV.sv (SV.at (At.inf i j t0 f0)), TV.sv (SV.at (At.int IntKind.i64 c))] = if i = i ∧ j = j ∧ t0 = t0 ∧ f0 = f0 then match readArgsF st i j t0 f0 75 (Ty.pair (Ty.int .i64) (Ty.int .i64)) y [{ t := Ty.int IntKind.i64 }] [TV.sv (SV.at (At.int IntKind.i64 c))] with
      | some ys => some (y, ys)
      | none => none
    else none := rfl
  rw [e3, if_pos ⟨rfl, rfl, rfl, rfl⟩, e2]
def mS1 (o : List BoardD) (c i : Int) : List BoardD := List.set o i.toNat (c, (List.getD o i.toNat (0, 0, [])).2)
def mS2 (o : List BoardD) (c i : Int) : List BoardD := List.set (mS1 o c i) i.toNat ((List.getD (mS1 o c i) i.toNat (0, 0, [])).1, wrap64 (c + 1), (List.getD (mS1 o c i) i.toNat (0, 0, [])).2.2)
theorem step_markBoardS (k : Nat) (o : List BoardD) (c i : Int) : f_laws_markBoardS_0 (k + 1) o c i = if decide (i < (o.length : Int)) = true then if 0 ≤ i then if i < (o.length : Int) then if 0 ≤ i then if i < ((mS1 o c i).length : Int) then if 0 ≤ i then if i < ((mS2 o c i).length : Int) then Option.bind (f_laws_markCellS k (List.getD (mS2 o c i) i.toNat (0, 0, [])).2.2 (wrap64 (wrap64 (c + 1) + 1))) fun z1 => f_laws_markBoardS_0 k (List.set (mS2 o c i) i.toNat ((List.getD (mS2 o c i) i.toNat (0, 0, [])).1, (List.getD (mS2 o c i) i.toNat (0, 0, [])).2.1, z1.2)) z1.1 (wrap64 (i + 1)) else none else none else none else none else none else none else some (o, c) := by
  simp only [f_laws_markBoardS_0]
  rw [readF_self (c := wrap64 (wrap64 (c + 1) + 1))]
  · rfl
  · rfl
theorem e_laws_markBoardS_0 : ∀ (r pre : List BoardD) (c : Int), 0 ≤ c → c + 1 * szB r ≤ 4611686018427387904 → (pre ++ r).length ≤ 4611686018427387904 → Ev (fun k => f_laws_markBoardS_0 k (pre ++ r) c (pre.length : Int)) (pre ++ marksBoardS r c, c + 1 * szB r)
  | [], pre, c, hc, h, hl => by
    refine Ev.succ ?_
    simp only [step_markBoardS, nlt_end, decide_false, Bool.false_eq_true, if_false, marksBoardS, szB, Int.mul_zero, Int.add_zero]
    exact Ev.some _
  | x :: r, pre, c, hc, h, hl => by
    have hz := szB_nonneg r
    simp only [szB] at h ⊢
    have h' : (c + (2 + 2 * (x.2.2.length : Int))) + 1 * szB r = c + 1 * ((2 + 2 * (x.2.2.length : Int)) + szB r) := by omega
    have ih := e_laws_markBoardS_0 r (pre ++ [(c, c + 1, marksCellS x.2.2 (c + 2))]) (c + (2 + 2 * (x.2.2.length : Int))) (by omega) (by omega) (by simpa using hl)
    have hn := next_mid pre x r (by omega)
    have hn2 : ((pre ++ [x]).length : Int) = ((pre ++ [(c, c + 1, marksCellS x.2.2 (c + 2))]).length : Int) := by simp
    have w1 : wrap64 (c + 1) = c + 1 := w64 (by omega) (by omega)
    have w2 : wrap64 (c + 1 + 1) = c + 2 := by rw [w64 (by omega) (by omega)]; omega
    have hx := e_laws_markCellS x.2.2 (c + 2) (by omega) (by omega)
    refine Ev.succ ?_
    simp only [step_markBoardS, mS1, mS2, lt_mid, ge_mid, decide_true, if_true, Int.toNat_natCast, getD_mid, set_mid, w1, w2]
    refine Ev.bind hx ?_
    simp only [set_mid, hn]
    rw [← shift_mid, h'] at ih
    rw [hn2, show c + 2 + 2 * (x.2.2.length : Int) = c + (2 + 2 * (x.2.2.length : Int)) by omega]
    refine ih.congr ?_
    simp [marksBoardS]
theorem e_laws_markBoardS (l : List BoardD) (c : Int) (hc : 0 ≤ c) (h : c + 1 * szB l ≤ 4611686018427387904) (hl : l.length ≤ 4611686018427387904) : Ev (fun k => f_laws_markBoardS k l c) (c + 1 * szB l, marksBoardS l c) := by
  refine Ev.succ ?_
  simp only [f_laws_markBoardS]
  exact Ev.bind (e_laws_markBoardS_0 l [] c hc h (by simpa using hl)) (Ev.some _)
theorem law_FnExactBoardsBefore (p0 : BoardD) (p1 : Int) (h0 : p0.2.2.length ≤ 9223372036854775807) : Ev (fun k => f_laws_FnExactBoardsBefore k p0 p1) true := by
  refine Ev.succ ?_
  simp only [f_laws_FnExactBoardsBefore]
  refine Ev.bind (e_laws_szBoard _ _ (by first | omega | (dsimp only; omega)) (by first | omega | (dsimp only; omega)) (by first | omega | (dsimp only; omega))) ?_
  by_cases q1 : (1048576 : Int) - (p0.2.2.length : Int) < 0
  · simp only [q1, if_true]; exact Ev.some _
  simp only [q1, if_false, decide_false, Bool.false_eq_true]
  have es := e_spec_BoardsBefore p0 p1 (by omega)
  have ei := e_impl_BoardsBefore p0 p1 (by omega)
  have hb9 := boards_len p0 p1
  have hs1 := szB_nonneg (r_BoardsBefore p0 p1).1
  have hs2 := szB_le 90 (r_BoardsBefore p0 p1).1 hb9.2
  have hx9 : ∀ x ∈ (r_BoardsBefore p0 p1).1, x.2.2.length ≤ 9223372036854775806 := fun x hx => by have := hb9.2 x hx; omega
  have hlen := hb9.1
  generalize r_BoardsBefore p0 p1 = R at es ei hlen hs1 hs2 hx9
  refine Ev.bind (e_laws_toBoard _ (by first | omega | (dsimp only; omega))) ?_
  refine Ev.bind es ?_
  refine Ev.bind (e_laws_toBoard _ (by first | omega | (dsimp only; omega))) ?_
  refine Ev.bind ei ?_
  refine Ev.bind (e_laws_eqBoardS _ _ (by first | omega | (dsimp only; omega)) (by assumption)) ?_
  simp only [decide_true, beq_self_eq_true, ne_eq, not_true_eq_false, decide_false, Bool.not_true, Bool.false_eq_true, if_false]
  refine Ev.bind (e_laws_toBoard _ (by first | omega | (dsimp only; omega))) ?_
  refine Ev.bind (e_laws_eqBoard _ _ (by first | omega | (dsimp only; omega))) ?_
  simp only [decide_true, beq_self_eq_true, ne_eq, not_true_eq_false, decide_false, Bool.not_true, Bool.false_eq_true, if_false]
  refine Ev.bind (e_laws_markBoard _ _ (by first | omega | (dsimp only; omega)) (by first | omega | (dsimp only; omega))) ?_
  try dsimp only
  refine Ev.ite (fun h => by simp only [decide_eq_true_eq] at h; omega) (fun h => ?_)
  refine Ev.bind (e_laws_eqBoardS _ _ (by first | omega | (dsimp only; omega)) (by assumption)) ?_
  simp only [decide_true, beq_self_eq_true, ne_eq, not_true_eq_false, decide_false, Bool.not_true, Bool.false_eq_true, if_false]
  refine Ev.bind (e_laws_markBoardS _ _ (by first | omega | (dsimp only; omega)) (by first | omega | (dsimp only; omega)) (by first | omega | (dsimp only; omega))) ?_
  try dsimp only
  refine Ev.bind (e_laws_heldBoardS _ _ (by first | omega | (dsimp only; omega)) (by first | omega | (dsimp only; omega)) (by first | omega | (dsimp only; omega))) ?_
  try dsimp only
  refine Ev.ite (fun h => by simp only [decide_eq_true_eq] at h; omega) (fun h => ?_)
  simp only [decide_true, beq_self_eq_true, ne_eq, not_true_eq_false, decide_false, Bool.not_true, Bool.false_eq_true, if_false]
  refine Ev.bind (e_laws_toBoard _ (by first | omega | (dsimp only; omega))) ?_
  refine Ev.bind ei ?_
  refine Ev.bind (e_laws_eqBoardS _ _ (by first | omega | (dsimp only; omega)) (by assumption)) ?_
  simp only [decide_true, beq_self_eq_true, ne_eq, not_true_eq_false, decide_false, Bool.not_true, Bool.false_eq_true, if_false]
  refine Ev.bind (e_laws_heldBoardS _ _ (by first | omega | (dsimp only; omega)) (by first | omega | (dsimp only; omega)) (by first | omega | (dsimp only; omega))) ?_
  try dsimp only
  refine Ev.ite (fun h => by simp only [decide_eq_true_eq] at h; omega) (fun h => ?_)
  simp only [decide_true, beq_self_eq_true, ne_eq, not_true_eq_false, decide_false, Bool.not_true, Bool.false_eq_true, if_false]
  exact Ev.some _
end Go.Proofs.Ytjjlmnbmpgfcbaa.Vs
