/- Functions: from their code to their contracts. -/
import Derived.Test.YtgpmbmnfcbippaaqtesVsP
set_option linter.unusedVariables false
set_option linter.unusedSimpArgs false
namespace Go.Proofs.Ytgpmbmnfcbippaa.Vs
open Go.RowKit

/-! ### The beginning -/
/-- The cells of a tree of one's own, its row being object i. -/
def ownAtoms (i : Nat) : (t : Ty) → t.D → List At
  | .int k, n => [.int k n] | .bool, b => [.bool b] | .str, s => [.str s] | .pair a b, x => ownAtoms i a x.1 ++ ownAtoms i b x.2 | .slice _ _, _ => [.sl i]
def leafOf (u : Ty) : (t : Ty) → t.D → Nat → List u.D
  | .slice _ u', xs, _ => if h : u' = u then h ▸ xs else []
  | .pair a b, x, pos => if pos < a.sz then leafOf u a x.1 pos else leafOf u b x.2 (pos - a.sz)
  | _, _, _ => []
def packA (agg : Bool) (l : List At) : TV := if agg then .sv (.agg l) else .sv (.at (l.headD .un))
def initTmps : (ps : List PK) → Tup ps → List TV
  | [], _ => []
  | p :: ps, x => packA p.agg (match p.own with | none => atomsOf 0 p.t x.1 | some _ => ownAtoms 1 p.t x.1) :: initTmps ps x.2
def ownObjs : (ps : List PK) → Tup ps → List Ob
  | [], _ => []
  | p :: ps, x => match p.own with
    | some q => [.row p.give q.2.1 q.2.2 (leafOf q.2.2 p.t x.1 q.1)]
    | none => ownObjs ps x.2
def oneOwn : List PK → Bool
  | [] => true
  | p :: ps => match p.own with
    | some _ => (ownI ps).isNone
    | none => oneOwn ps
def initSt (ps : List PK) (n : Nat) (x : Tup ps) : St := { tmps := initTmps ps x ++ List.replicate (n - ps.length) (.sv (.at .un)), objs := .ro :: ownObjs ps x }
def noOf (ps : List PK) : Nat := match ownI ps with | some _ => 1 | none => 0

section
variable {P : Program} {w w1 w0 : World} {S0 : Own} {st : St} {μ μ' : List ORec} {a : Act}
theorem packA_sound {agg : Bool} {l : List At} {v : Value} (hs : Shaped agg v) (h : AL μ w l v.cells.toList) : TR μ w (packA agg l) v := by
  unfold Shaped at hs
  unfold packA
  split
  · rename_i hag
    rw [if_pos hag] at hs
    obtain ⟨cs, rfl⟩ := hs
    exact ⟨cs.toList, by simp, h⟩
  · rename_i hag
    rw [if_neg hag] at hs
    rw [hs] at h
    have hl := h.1
    match l, hl with
    | [y], _ => exact ⟨h.2 0 y v rfl rfl, .inr hs⟩
theorem flat_al {j : Nat} : ∀ {t : Ty} {x : t.D} {S : Nat → Prop} {cs : List Value}, t.flat = true → Rep t w S x cs → AL μ w (ownAtoms j t x) cs
  | .int _, n, S, cs, _, h => by rw [show cs = _ from h]; exact AL.one (show AR μ w (.int _ n) _ from rfl)
  | .bool, b, S, cs, _, h => by rw [show cs = _ from h]; exact AL.one (show AR μ w (.bool b) _ from rfl)
  | .str, s, S, cs, _, h => by rw [show cs = _ from h]; exact AL.one (show AR μ w (.str s) _ from rfl)
  | .slice _ _, _, _, _, h, _ => by cases h
  | .pair a b, x, S, cs, hf, h => by
    simp only [Ty.flat, Bool.and_eq_true] at hf
    obtain ⟨c0, c1, S0, S1, rfl, h0, h1, _, _⟩ := h
    exact AL.append (flat_al hf.1 h0) (flat_al hf.2 h1)
theorem own_atoms {i : Nat} {rec : ORec} (hr : μ[i]? = some rec) {u : Ty} {e : TypeId} {So : Nat → Prop} : ∀ {t : Ty} {x : t.D} {cs : List Value} {pos : Nat} {S : Nat → Prop}, (∀ k, S k → So k) → oneLeaf t pos e u = true → Rep t w S x cs → cs[pos]? = some rec.v →
    AL μ w (ownAtoms i t x) cs ∧ RowRep (Rep u) u.sz e w So (leafOf u t x pos) rec.v
  | .int _, x, cs, pos, S, _, h1, _, _ => by cases h1
  | .bool, x, cs, pos, S, _, h1, _, _ => by cases h1
  | .str, x, cs, pos, S, _, h1, _, _ => by cases h1
  | .slice e' u', x, cs, pos, S, hS, h1, hrep, hv => by
    simp only [oneLeaf, Bool.and_eq_true, beq_iff_eq, decide_eq_true_eq] at h1
    obtain ⟨⟨rfl, rfl⟩, rfl⟩ := h1
    obtain ⟨v, rfl, hrow⟩ := hrep
    obtain rfl : v = rec.v := by simpa using hv
    obtain ⟨A, c, hvv, _⟩ := row_val hrow
    refine ⟨AL.one (show AR μ w (.sl i) rec.v from ⟨rec, hr, rfl, A, _, c, hvv⟩), ?_⟩
    simp only [leafOf, dif_pos]
    obtain ⟨v2, hv2, h3⟩ := Rep.wide (t := .slice e' u') (show Rep (.slice e' u') w S x [rec.v] from ⟨_, rfl, hrow⟩) hS
    obtain rfl : rec.v = v2 := by simpa using hv2
    exact h3
  | .pair ta tb, x, cs, pos, S, hS, h1, hrep, hv => by
    obtain ⟨c0, c1, S0, S1, rfl, h0, h2, d0, d1⟩ := hrep
    simp only [oneLeaf] at h1
    have hl := h0.len
    split at h1
    · rename_i hp
      simp only [Bool.and_eq_true] at h1
      rw [List.getElem?_append_left (by omega)] at hv
      obtain ⟨g1, g2⟩ := own_atoms hr (fun k hk => hS k (d0 k hk).1) h1.1 h0 hv
      refine ⟨AL.append g1 (flat_al h1.2 h2), ?_⟩
      simp only [leafOf, if_pos hp]
      exact g2
    · rename_i hp
      simp only [Bool.and_eq_true] at h1
      rw [List.getElem?_append_right (by omega), hl] at hv
      obtain ⟨g1, g2⟩ := own_atoms hr (fun k hk => hS k (d1 k hk)) h1.2 h2 hv
      refine ⟨AL.append (flat_al h1.1 h0) g1, ?_⟩
      simp only [leafOf, if_neg hp]
      exact g2
theorem ArgsR.len : ∀ {ps : List PK} {x : Tup ps} {vs : List Value} {Sro So : Nat → Prop}, ArgsR w Sro So ps x vs → vs.length = ps.length
  | [], _, vs, _, _, h => by rw [show vs = [] from h]; rfl
  | p :: ps, x, vs, _, _, h => by
    obtain ⟨v, vs', rfl, _, _, h⟩ := h
    simp [h.len]
theorem oneLeaf_lt : ∀ {t : Ty} {pos : Nat} {e : TypeId} {u : Ty}, oneLeaf t pos e u = true → pos < t.sz
  | .int _, _, _, _, h => by cases h
  | .bool, _, _, _, h => by cases h
  | .str, _, _, _, h => by cases h
  | .slice _ _, pos, _, _, h => by
    simp only [oneLeaf, Bool.and_eq_true, beq_iff_eq] at h
    obtain ⟨⟨rfl, _⟩, _⟩ := h
    exact Nat.one_pos
  | .pair a b, pos, _, _, h => by
    simp only [oneLeaf] at h
    simp only [Ty.sz]
    split at h
    · omega
    · simp only [Bool.and_eq_true] at h
      have := oneLeaf_lt h.2
      omega
/-- The arguments as the function finds them; no row of one's own among them. -/
theorem init_none {rec0 : ORec} {Sro So : Nat → Prop} (hro : μ[0]? = some rec0) (hr0 : rec0.ok = Sro) : ∀ {ps : List PK} {x : Tup ps} {vs : List Value}, ownI ps = none → ArgsR w Sro So ps x vs →
    ownObjs ps x = [] ∧ ∀ (i : Nat) y, (initTmps ps x)[i]? = some y → ∃ v, vs[i]? = some v ∧ TR μ w y v
  | [], x, vs, _, _ => ⟨rfl, fun i y h => by simp [initTmps] at h⟩
  | p :: ps, x, vs, ho, h => by
    obtain ⟨v, vs', rfl, hsh, hm, hrest⟩ := h
    have hp : p.own = none := by
      simp only [ownI] at ho
      split at ho
      · cases ho
      · assumption
    have ho2 : ownI ps = none := by
      simp only [ownI, hp] at ho
      exact ho
    rw [hp] at hm
    obtain ⟨g1, g2⟩ := init_none hro hr0 ho2 hrest
    refine ⟨by simp only [ownObjs, hp]; exact g1, fun i y hy => ?_⟩
    simp only [initTmps, hp] at hy
    cases i with
    | zero =>
      simp only [List.getElem?_cons_zero] at hy
      injection hy with hy
      subst hy
      exact ⟨v, rfl, packA_sound hsh (AL.of_rd hro (by rw [hr0]; exact hm))⟩
    | succ i => exact g2 i y (by simpa using hy)
theorem init_own {rec0 rec : ORec} {Sro So : Nat → Prop} (hro : μ[0]? = some rec0) (hr0 : rec0.ok = Sro) (hrec : μ[1]? = some rec) (hok : rec.ok = So) : ∀ {ps : List PK} {x : Tup ps} {vs : List Value} {q : Nat × TypeId × Ty}, ownI ps = some q → oneOwn ps = true → ownV ps vs = some rec.v → ArgsR w Sro So ps x vs →
    (∃ xs : List q.2.2.D, ownObjs ps x = [.row (giveI ps) q.2.1 q.2.2 xs] ∧ RowRep (Rep q.2.2) q.2.2.sz q.2.1 w So xs rec.v) ∧ ∀ (i : Nat) y, (initTmps ps x)[i]? = some y → ∃ v, vs[i]? = some v ∧ TR μ w y v
  | [], x, vs, q, ho, _, _, _ => by cases ho
  | p :: ps, x, vs, q, ho, h1, hv, h => by
    obtain ⟨v, vs', rfl, hsh, hm, hrest⟩ := h
    cases hp : p.own with
    | none =>
      simp only [ownI, hp] at ho
      simp only [oneOwn, hp] at h1
      simp only [ownV, hp] at hv
      rw [hp] at hm
      obtain ⟨g1, g2⟩ := init_own hro hr0 hrec hok ho h1 hv hrest
      refine ⟨by simp only [ownObjs, giveI, hp]; exact g1, fun i y hy => ?_⟩
      simp only [initTmps, hp] at hy
      cases i with
      | zero =>
        simp only [List.getElem?_cons_zero] at hy
        injection hy with hy
        subst hy
        exact ⟨v, rfl, packA_sound hsh (AL.of_rd hro (by rw [hr0]; exact hm))⟩
      | succ i => exact g2 i y (by simpa using hy)
    | some q' =>
      simp only [ownI, hp] at ho
      injection ho with ho
      subst ho
      simp only [oneOwn, hp, Option.isNone_iff_eq_none] at h1
      simp only [ownV, hp] at hv
      rw [hp] at hm
      obtain ⟨g1, g2⟩ := own_atoms (So := So) hrec (fun k hk => hk) hm.1 hm.2 hv
      obtain ⟨_, f2⟩ := init_none hro hr0 h1 hrest
      refine ⟨⟨_, by simp only [ownObjs, giveI, hp], g2⟩, fun i y hy => ?_⟩
      simp only [initTmps, hp] at hy
      cases i with
      | zero =>
        simp only [List.getElem?_cons_zero] at hy
        injection hy with hy
        subst hy
        exact ⟨v, rfl, packA_sound hsh g1⟩
      | succ i => exact f2 i y (by simpa using hy)
theorem initTmps_len : ∀ {ps : List PK} {x : Tup ps}, (initTmps ps x).length = ps.length
  | [], _ => rfl
  | p :: ps, x => by simp [initTmps, initTmps_len]
theorem ownV_some : ∀ {ps : List PK} {x : Tup ps} {vs : List Value} {q : Nat × TypeId × Ty} {Sro So : Nat → Prop}, ownI ps = some q → ArgsR w Sro So ps x vs → ∃ v, ownV ps vs = some v
  | [], _, _, _, _, _, h, _ => by cases h
  | p :: ps, x, vs, q, Sro, So, ho, h => by
    obtain ⟨v, vs', rfl, hsh, hm, hrest⟩ := h
    cases hp : p.own with
    | none =>
      simp only [ownI, hp] at ho
      simp only [ownV, hp]
      exact ownV_some ho hrest
    | some q' =>
      simp only [ownV, hp]
      rw [hp] at hm
      have h1 := oneLeaf_lt hm.1
      have h2 := hm.2.len
      exact ⟨_, List.getElem?_eq_getElem (by omega)⟩
theorem init_sound {ps : List PK} {n : Nat} {x : Tup ps} {vs : List Value} {Sro So : Nat → Prop} (h1 : oneOwn ps = true) (h : ArgsR w Sro So ps x vs) (hd : ∀ k, So k → ¬ Sro k) (hl : ∀ k, So k → k < w.heap.size) (hl2 : ∀ k, Sro k → k < w.heap.size) :
    ∃ S0 : Own, S0.ok = So ∧ (∀ k, S0.gv k → giveI ps = true ∧ So k) ∧ S0.ov = (ownV ps vs).toList ∧ S0.ov.length = noOf ps ∧ ∃ μ, Rel w S0 (initSt ps n x) μ { tmps := vs.toArray ++ Array.replicate (n - vs.toArray.size) undef, defers := [] } w := by
  have hlen := h.len
  have hun : ∀ (μ : List ORec) (i : Nat) y, (∀ (i : Nat) y, (initTmps ps x)[i]? = some y → ∃ v, vs[i]? = some v ∧ TR μ w y v) → (initTmps ps x ++ List.replicate (n - ps.length) (.sv (.at .un)))[i]? = some y → TR μ w y ((vs.toArray ++ Array.replicate (n - vs.toArray.size) undef).getD i undef) := by
    intro μ i y hI hy
    rw [List.getElem?_append] at hy
    split at hy
    · rename_i hi
      obtain ⟨v, hv, ht⟩ := hI i y hy
      have : (vs.toArray ++ Array.replicate (n - vs.toArray.size) undef).getD i undef = v := by
        rw [Array.getD_eq_getD_getElem?, Array.getElem?_append_left (by simp; exact (List.getElem?_eq_some_iff.1 hv).1)]
        simp [hv]
      rw [this]; exact ht
    · rw [List.getElem?_replicate] at hy
      split at hy
      · injection hy with hy
        subst hy
        exact ⟨trivial, .inl rfl⟩
      · cases hy
  have hsz : (vs.toArray ++ Array.replicate (n - vs.toArray.size) undef).size = (initSt ps n x).tmps.length := by
    simp [initSt, initTmps_len, hlen]
  cases ho : ownI ps with
  | none =>
    have hov : ownV ps vs = none := by
      clear hun hsz hlen
      induction ps generalizing vs with
      | nil => cases vs <;> rfl
      | cons p ps ih =>
        obtain ⟨v, vs', rfl, hsh, hm, hrest⟩ := h
        simp only [ownI] at ho
        split at ho
        · cases ho
        · rename_i hp
          simp only [ownV, hp]
          exact ih (by simpa [oneOwn, hp] using h1) hrest ho
    refine ⟨{ ok := So, ov := [] }, rfl, fun _ hf => hf.elim, by rw [hov]; rfl, by simp [noOf, ho], [⟨undef, 0, Sro⟩], ?_⟩
    obtain ⟨g1, g2⟩ := init_none (μ := [⟨undef, 0, Sro⟩]) (rec0 := ⟨undef, 0, Sro⟩) rfl rfl ho h
    refine ⟨by simp [initSt, g1], hsz, fun i y hy => hun _ i y g2 hy, fun i o r hob hr => ?_, fun i j o ri rj hij hob hw hri hrj k hk => ?_, fun i o r hob hr hw k hk => ?_, fun i e t xs r hob hr k hk => ?_, fun i r hr k hk => ?_, .refl w _, rfl, fun j v hv => by simp at hv⟩
    · simp only [initSt, g1] at hob
      cases i with
      | zero => simp at hob; subst hob; trivial
      | succ i => simp at hob
    · simp only [initSt, g1] at hob
      cases i with
      | zero => simp at hob; subst hob; cases hw
      | succ i => simp at hob
    · simp only [initSt, g1] at hob
      cases i with
      | zero => simp at hob; subst hob; cases hw
      | succ i => simp at hob
    · simp only [initSt, g1] at hob
      cases i with
      | zero => simp at hob
      | succ i => simp at hob
    · cases i with
      | zero => simp at hr; subst hr; exact hl2 k hk
      | succ i => simp at hr
  | some q =>
    obtain ⟨hv, hhv⟩ := ownV_some ho h
    refine ⟨{ ok := So, ov := [hv], gv := fun k => giveI ps = true ∧ So k, go := fun k hk => hk.2 }, rfl, fun _ hk => hk, by rw [hhv]; rfl, by simp [noOf, ho], [⟨undef, 0, Sro⟩, ⟨hv, 0, So⟩], ?_⟩
    obtain ⟨⟨xs, g1, g3⟩, g2⟩ := init_own (μ := [⟨undef, 0, Sro⟩, ⟨hv, 0, So⟩]) (rec0 := ⟨undef, 0, Sro⟩) (rec := ⟨hv, 0, So⟩) rfl rfl rfl rfl ho h1 hhv h
    refine ⟨by simp [initSt, g1], hsz, fun i y hy => hun _ i y g2 hy, fun i o r hob hr => ?_, fun i j o ri rj hij hob hw hri hrj k hk => ?_, fun i o r hob hr hw k hk => ?_, fun i e t ys r hob hr k hk => ?_, fun i r hr k hk => ?_, .refl w _, rfl, fun j v hv => ?_⟩
    · simp only [initSt, g1] at hob
      match i, hob, hr with
      | 0, hob, hr => simp at hob; subst hob; trivial
      | 1, hob, hr => simp at hob hr; subst hob hr; exact g3
      | i + 2, hob, hr => simp at hob
    · simp only [initSt, g1] at hob
      match i, hob, hri with
      | 0, hob, hri => simp at hob; subst hob; cases hw
      | 1, hob, hri =>
        simp at hri; subst hri
        match j, hrj with
        | 0, hrj => simp at hrj; subst hrj; exact hd k hk
        | 1, hrj => exact absurd rfl hij
        | j + 2, hrj => simp at hrj
      | i + 2, hob, hri => simp at hob
    · simp only [initSt, g1] at hob
      match i, hob, hr with
      | 0, hob, hr => simp at hob; subst hob; cases hw
      | 1, hob, hr => simp at hr; subst hr; exact .inl hk
      | i + 2, hob, hr => simp at hob
    · simp only [initSt, g1] at hob
      match i, hob, hr with
      | 0, hob, hr => simp at hob
      | 1, hob, hr =>
        simp at hob hr
        subst hr
        exact .inl ⟨hob.1, hk⟩
      | i + 2, hob, hr => simp at hob
    · match i, hr with
      | 0, hr => simp at hr; subst hr; exact hl2 k hk
      | 1, hr => simp at hr; subst hr; exact hl k hk
      | i + 2, hr => simp at hr
    · cases j with
      | zero => simp at hv; subst hv; exact ⟨_, rfl, rfl⟩
      | succ j => simp at hv
end
end Go.Proofs.Ytgpmbmnfcbippaa.Vs
