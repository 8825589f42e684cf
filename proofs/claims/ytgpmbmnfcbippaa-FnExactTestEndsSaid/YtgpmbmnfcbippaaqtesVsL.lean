/- Calls, on: contracts. -/
import Derived.Test.YtgpmbmnfcbippaaqtesVsK
set_option linter.unusedVariables false
set_option linter.unusedSimpArgs false
namespace Go.Proofs.Ytgpmbmnfcbippaa.Vs
open Go.RowKit

/-! ### Contracts -/
def Shaped (agg : Bool) (v : Value) : Prop := if agg = true then ∃ cs, v = .agg cs else v.cells = #[v]
def ownI : List PK → Option (Nat × TypeId × Ty)
  | [] => none
  | p :: ps => match p.own with | some q => some q | none => ownI ps
/-- The row that may be written is given away: it may come back as the result. -/
def giveI : List PK → Bool
  | [] => false
  | p :: ps => match p.own with | some _ => p.give | none => giveI ps
def ownV : List PK → List Value → Option Value
  | p :: ps, v :: vs => match p.own with | some q => v.cells.toList[q.1]? | none => ownV ps vs
  | _, _ => none
def ArgsR (w : World) (Sro So : Nat → Prop) : (ps : List PK) → Tup ps → List Value → Prop
  | [], _, vs => vs = []
  | p :: ps, x, vs => ∃ v vs', vs = v :: vs' ∧ Shaped p.agg v ∧ (match p.own with | none => Rd p.t w Sro x.1 v.cells.toList | some q => oneLeaf p.t q.1 q.2.1 q.2.2 = true ∧ Rep p.t w So x.1 v.cells.toList) ∧ ArgsR w Sro So ps x.2 vs'
def ResL (w : World) : (rs : List PK) → (S : Nat → Prop) → Tup rs → List Value → Prop
  | [], _, _, vs => vs = []
  | p :: rs, S, x, vs => ∃ v vs' S1 S2, vs = v :: vs' ∧ Shaped p.agg v ∧ Rep p.t w S1 x.1 v.cells.toList ∧ (∀ k, S1 k → S k ∧ ¬ S2 k) ∧ (∀ k, S2 k → S k) ∧ ResL w rs S2 x.2 vs'
def packR : List Value → Value
  | [v] => v
  | vs => .tuple vs.toArray
/-- What stands behind a call: So: what the call might write; res: its results; out: what the written row holds. -/
structure Fin (w w' : World) (So : Nat → Prop) (E : CallE) (vs : List Value) (res : Tup E.rs) (out : OutD) (v : Value) : Prop where
  chg : Chg w w' So
  res : ∃ Sr us, (∀ k, Sr k → ((giveI E.ps = true ∧ So k) ∨ w.heap.size ≤ k) ∧ k < w'.heap.size) ∧ v = packR us ∧ ResL w' E.rs Sr res us ∧
    ∀ q, giveI E.ps = false → ownI E.ps = some q → ∃ (ys : List q.2.2.D) (hv : Value) (S' : Nat → Prop), out = some ⟨q.2.2, ys⟩ ∧ ownV E.ps vs = some hv ∧ RowRep (Rep q.2.2) q.2.2.sz q.2.1 w' S' ys hv ∧ ∀ k, S' k → (So k ∨ w.heap.size ≤ k) ∧ k < w'.heap.size ∧ ¬ Sr k
structure SoundAt (P : Program) (k : Nat) (f : FuncId) (E : CallE) : Prop where
  enter : ∀ vs w, (callFunc f vs).run P w = .ok (.enter f vs) w
  calls : ∀ {γ : Type} {K : Tup E.rs → OutD → Option γ} {r : γ} (w : World) (Sro So : Nat → Prop) (x : Tup E.ps) (vs : List Value), ArgsR w Sro So E.ps x vs → (∀ k, So k → ¬ Sro k) → (∀ k, So k → k < w.heap.size) → (∀ k, Sro k → k < w.heap.size) →
    (ownI E.ps = none → ∀ k, ¬ So k) → E.fn k x K = some r → Calls P f vs.toArray w fun
      | .returned v, w' => ∃ res out, K res out = some r ∧ Fin w w' So E vs res out v
      | _, _ => False

/-! ### The call -/
def aggOK (agg : Bool) : TV → Bool
  | .sv (.agg _) => agg
  | .sv (.at _) => !agg
  | _ => false
def readArgs (st : St) (ow : Option (Nat × TypeId × Ty)) : (ps : List PK) → List TV → Option (Tup ps)
  | [], [] => some ()
  | p :: ps, x :: xs => match x.cells with
    | some l => if aggOK p.agg x then
        match p.own with
        | none => match readTree st ((ow.map (·.1)).toList) p.t l with
          | some y => match readArgs st ow ps xs with
            | some ys => some (y, ys)
            | none => none
          | none => none
        | some q => match ow with
          | some z => if oneLeaf p.t q.1 q.2.1 q.2.2 ∧ q.2.1 = z.2.1 ∧ q.2.2 = z.2.2 then match l[q.1]? with
            | some (.sl j) => if j = z.1 then match readTree st [] p.t l with
              | some y => match readArgs st ow ps xs with
                | some ys => some (y, ys)
                | none => none
              | none => none
              else none
            | _ => none
            else none
          | none => none
      else none
    | none => none
  | _, _ => none
def ownObj : List PK → List TV → Option Nat
  | p :: ps, x :: xs => match p.own with
    | some q => match x.cells with
      | some l => match l[q.1]? with
        | some (.sl i) => some i
        | _ => none
      | none => none
    | none => ownObj ps xs
  | _, _ => none
def giveList : (rs : List PK) → Tup rs → St → List SV × St
  | [], _, st => ([], st)
  | p :: rs, x, st => ((if p.agg then .agg (giveTree p.t x.1 st).1 else .at ((giveTree p.t x.1 st).1.headD .un)) :: (giveList rs x.2 (giveTree p.t x.1 st).2).1, (giveList rs x.2 (giveTree p.t x.1 st).2).2)
def packTV : List SV → TV
  | [s] => .sv s
  | l => .tup l
def giveRes (dst : Option Tmp) (rs : List PK) (res : Tup rs) (st : St) : St := (giveList rs res st).2.put dst (packTV (giveList rs res st).1)
/-! A row within a row handed in -/
def ownInn : List PK → List TV → Option (Nat × Int)
  | p :: ps, x :: xs => match p.own with
    | some q => match x.cells with
      | some l => match l[q.1]? with
        | some (.inn i j) => some (i, j)
        | _ => none
      | none => none
    | none => ownInn ps xs
  | _, _ => none
def readArgsI (st : St) (i : Nat) (j : Int) (e : TypeId) (u : Ty) : (ps : List PK) → List TV → Option (Tup ps)
  | [], [] => some ()
  | p :: ps, x :: xs => match x.cells with
    | some l => if aggOK p.agg x then
        match p.own with
        | none => match readTree st [i] p.t l with
          | some y => match readArgsI st i j e u ps xs with
            | some ys => some (y, ys)
            | none => none
          | none => none
        | some q => if oneLeaf p.t q.1 q.2.1 q.2.2 ∧ q.2.1 = e ∧ q.2.2 = u then match l[q.1]? with
            | some (.inn i' j') => if i' = i ∧ j' = j then match readTree st [] p.t l with
              | some y => match readArgsI st i j e u ps xs with
                | some ys => some (y, ys)
                | none => none
              | none => none
              else none
            | _ => none
            else none
      else none
    | none => none
  | _, _ => none
section
variable {γ : Type}
def opCallIn (k : Nat) (E : CallE) (e : TypeId) (u : Ty) (st : St) (dst : Option Tmp) (xs : List TV) (K : St → Option γ) : Option γ :=
  match ownInn E.ps xs with
  | some (i, j) => match st.objs[i]? with
    | some (.row fr e' (.slice e2 u2) zs) => if e2 = e ∧ u2 = u ∧ giveI E.ps = false then match readArgsI st i j e u E.ps xs with
        | some x => E.fn k x fun res out => match out with
          | some ⟨u3, ys⟩ => if h3 : u3 = u2 then K (giveRes dst E.rs res (backSt st i (.row fr e' (.slice e2 u2) (List.set (α := (Ty.slice e2 u2).D) zs j.toNat (h3 ▸ ys))))) else none
          | none => none
        | none => none
      else none
    | _ => none
  | none => none
def opCall (k : Nat) (E : CallE) (st : St) (dst : Option Tmp) (xs : List TV) (K : St → Option γ) : Option γ :=
  match ownI E.ps with
  | none => match readArgs st none E.ps xs with
    | some x => E.fn k x fun res _ => K (giveRes dst E.rs res st)
    | none => none
  | some (_, e, u) => match ownObj E.ps xs with
    | some i => match st.objs[i]? with
      | some (.row fr e' u' _) => if e' = e ∧ u' = u then match readArgs st (some (i, e, u)) E.ps xs with
          | some x => E.fn k x fun res out => if giveI E.ps = true then (if fr = true then K (giveRes dst E.rs res (st.die i)) else none) else match out with
            | some ⟨u2, ys⟩ => if u2 = u then K (giveRes dst E.rs res (backSt st i (.row fr e u2 ys))) else none
            | none => none
          | none => none
        else none
      | _ => none
    | none => opCallIn k E e u st dst xs K
end

section
variable {P : Program} {w w1 w0 : World} {S0 : Own} {st : St} {μ : List ORec} {a : Act}
theorem aggOK_sound {agg : Bool} {x : TV} {v : Value} {l : List At} (h : TR μ w x v) (hc : x.cells = some l) (ha : aggOK agg x = true) : Shaped agg v := by
  unfold Shaped
  cases x with
  | tup l => cases hc
  | sv s =>
    cases s with
    | agg l' =>
      obtain ⟨vs, hv, _⟩ := h
      rw [if_pos (by simpa [aggOK] using ha)]
      exact ⟨_, hv⟩
    | «at» y =>
      rw [if_neg (by simpa [aggOK] using ha)]
      rcases h.2 with rfl | h2
      · simp [TV.cells, SV.cells, At.isUn] at hc
      · exact h2
theorem readArgs_sound (h : Rel w0 S0 st μ a w) {ow : Option (Nat × TypeId × Ty)} {So : Nat → Prop} (how : ∀ z, ow = some z → ∃ fr zs rec, st.objs[z.1]? = some (.row fr z.2.1 z.2.2 zs) ∧ μ[z.1]? = some rec ∧ So = rec.ok) :
    ∀ {ps : List PK} {xs : List Operand} {x : Tup ps}, readArgs st ow ps (xs.map st.ev) = some x → ArgsR w (okBut μ ((ow.map (·.1)).toList)) So ps x (xs.map a.eval)
  | [], [], x, hr => rfl
  | [], y :: ys, x, hr => by simp [readArgs] at hr
  | p :: ps, [], x, hr => by simp [readArgs] at hr
  | p :: ps, y :: ys, x, hr => by
    simp only [List.map_cons, readArgs] at hr
    split at hr
    · rename_i l hl
      split at hr
      · rename_i ha
        have hA := (h.ev y).cells_sound hl
        have hsh := aggOK_sound (h.ev y) hl ha
        split at hr
        · rename_i hown
          split at hr
          · rename_i y1 hy1
            split at hr
            · rename_i ys1 hys1
              injection hr with hr
              subst hr
              refine ⟨a.eval y, ys.map a.eval, rfl, hsh, ?_, readArgs_sound h how hys1⟩
              rw [hown]
              exact readTree_sound h hA hy1
            · cases hr
          · cases hr
        · rename_i q hown
          split at hr
          · rename_i z
            split at hr
            · rename_i hq
              obtain ⟨hq1, hq2, hq3⟩ := hq
              split at hr
              · rename_i j hj
                split at hr
                · rename_i hjz
                  subst hjz
                  split at hr
                  · rename_i y1 hy1
                    split at hr
                    · rename_i ys1 hys1
                      injection hr with hr
                      subst hr
                      refine ⟨a.eval y, ys.map a.eval, rfl, hsh, ?_, readArgs_sound h how hys1⟩
                      rw [hown]
                      obtain ⟨fr, zs, rec, h1, h2, h3⟩ := how z rfl
                      rw [h3]
                      exact ⟨hq1, (own_tree h h1 h2 hA hy1 (by rw [← hq2, ← hq3]; exact hq1) hj).1⟩
                    · cases hr
                  · cases hr
                · cases hr
              · cases hr
            · cases hr
          · cases hr
      · cases hr
    · cases hr
theorem ownObj_sound (h : Rel w0 S0 st μ a w) {i : Nat} {rec : ORec} (hrec : μ[i]? = some rec) : ∀ {ps : List PK} {xs : List Operand}, ownObj ps (xs.map st.ev) = some i → ownV ps (xs.map a.eval) = some rec.v
  | [], xs, hr => by cases xs <;> simp [ownObj] at hr
  | p :: ps, [], hr => by simp [ownObj] at hr
  | p :: ps, y :: ys, hr => by
    simp only [List.map_cons, ownObj] at hr
    simp only [List.map_cons, ownV]
    split at hr
    · rename_i q hown
      split at hr
      · rename_i l hl
        split at hr
        · rename_i j hj
          injection hr with hr
          subst hr
          have hA := (h.ev y).cells_sound hl
          have hlt : q.1 < (a.eval y).cells.toList.length := by rw [hA.1]; exact (List.getElem?_eq_some_iff.1 hj).1
          have := hA.2 q.1 _ _ hj (List.getElem?_eq_getElem hlt)
          obtain ⟨r, hr, hv, _⟩ := this
          rw [hrec] at hr
          injection hr with hr
          subst hr
          rw [List.getElem?_eq_getElem hlt, hv]
        · cases hr
      · cases hr
    · exact ownObj_sound h hrec hr
theorem giveList_sound : ∀ {rs : List PK} {x : Tup rs} {st : St} {μ : List ORec} {S : Nat → Prop} {us : List Value}, Rel w0 S0 st μ a w → ResL w rs S x us → (∀ k, S k → (S0.gv k ∨ w0.heap.size ≤ k) ∧ k < w.heap.size) → (∀ (j : Nat) q, μ[j]? = some q → ∀ k, S k → ¬ q.ok k) →
    ∃ μ', Rel w0 S0 (giveList rs x st).2 μ' a w ∧ us.length = (giveList rs x st).1.length ∧ (∀ (j : Nat) s u, (giveList rs x st).1[j]? = some s → us[j]? = some u → SR μ' w s u) ∧ (∀ (j : Nat) q, μ[j]? = some q → μ'[j]? = some q)
  | [], x, st, μ, S, us, h, hr, hS, hd => ⟨μ, h, by rw [show us = [] from hr]; rfl, fun j s u hs => by simp [giveList] at hs, fun _ _ hq => hq⟩
  | p :: rs, x, st, μ, S, us, h, hr, hS, hd => by
    obtain ⟨v, vs', S1, S2, rfl, hsh, hrep, d1, d2, hrest⟩ := hr
    obtain ⟨μ1, r1, a1, m1, n1⟩ := giveTree_sound h hrep (fun k hk => hS k (d1 k hk).1) (fun j q hq k hk => hd j q hq k (d1 k hk).1)
    obtain ⟨μ2, r2, l2, s2, m2⟩ := giveList_sound (rs := rs) (x := x.2) r1 hrest (fun k hk => hS k (d2 k hk)) (fun j q hq k hk => by
      rcases n1 j q hq with h3 | h3
      · exact hd j q h3 k (d2 k hk)
      · exact fun hqk => (d1 k (h3 k hqk)).2 hk)
    refine ⟨μ2, r2, by simp only [giveList, List.length_cons]; rw [l2], fun j s u hs hu => ?_, fun j q hq => m2 j q (m1 j q hq)⟩
    simp only [giveList] at hs
    cases j with
    | zero =>
      obtain rfl : v = u := by simpa using hu
      simp only [List.getElem?_cons_zero] at hs
      injection hs with hs
      subst hs
      have a1' : AL μ2 w (giveTree p.t x.1 st).1 v.cells.toList := a1.imp id (by simp) (fun y u _ hy => hy.more m2)
      unfold Shaped at hsh
      split
      · rename_i hag
        rw [if_pos hag] at hsh
        obtain ⟨cs, rfl⟩ := hsh
        exact ⟨cs.toList, by simp, a1'⟩
      · rename_i hag
        rw [if_neg hag] at hsh
        rw [hsh] at a1'
        have hl := a1'.1
        match hg : (giveTree p.t x.1 st).1, hl with
        | [y], _ =>
          rw [hg] at a1'
          exact ⟨a1'.2 0 y v rfl rfl, .inr hsh⟩
    | succ j =>
      simp only [List.getElem?_cons_succ] at hs hu
      exact s2 j s u hs hu
theorem giveRes_sound {rs : List PK} {x : Tup rs} {S : Nat → Prop} {us : List Value} (h : Rel w0 S0 st μ a w) (hr : ResL w rs S x us) (hS : ∀ k, S k → (S0.gv k ∨ w0.heap.size ≤ k) ∧ k < w.heap.size) (hd : ∀ (j : Nat) q, μ[j]? = some q → ∀ k, S k → ¬ q.ok k) (dst : Option Tmp) :
    ∃ μ', Rel w0 S0 (giveRes dst rs x st) μ' (a.put dst (packR us)) w := by
  obtain ⟨μ', r1, l1, s1, _⟩ := giveList_sound h hr hS hd
  refine ⟨μ', r1.put dst ?_⟩
  generalize (giveList rs x st).1 = l at *
  match l, us, l1 with
  | [], [], _ => exact ⟨[], rfl, rfl, fun j x u hx => by simp at hx⟩
  | [s], [u], _ => exact s1 0 s u rfl rfl
  | s :: s' :: l, u :: u' :: us, l1 => exact ⟨u :: u' :: us, rfl, l1, s1⟩
open Classical in
theorem RowRep.lend {e e' : TypeId} {u : Ty} {S : Nat → Prop} {zs : List (Ty.slice e u).D} {vr : Value} (h : RowRep (Rep (.slice e u)) (Ty.slice e u).sz e' w S zs vr) {j : Nat} (hj : j < zs.length) :
    ∃ (hv : Value) (So : Nat → Prop), (∀ k, So k → S k) ∧ RowRep (Rep u) u.sz e w So (List.getD zs j []) hv ∧
      (∃ a c, vr = .slice (some a) zs.length c ∧ w.cell? (a.add j) = some hv) ∧
      ∀ (w' : World) (S' : Nat → Prop) (ys : List u.D), Chg w w' So → (∀ k, S k → k < w.heap.size) → RowRep (Rep u) u.sz e w' S' ys hv → (∀ k, S' k → So k ∨ w.heap.size ≤ k) →
        RowRep (Rep (.slice e u)) (Ty.slice e u).sz e' w' (fun k => S k ∨ S' k) (List.set zs j ys) vr := by
  obtain ⟨inner, hq, hb, f, hr⟩ := h
  have hx : zs[j]? = some (List.getD zs j []) := by simp [List.getD, List.getElem?_eq_getElem hj]
  obtain ⟨hv, hseg, hrow⟩ := hr j _ hx
  have hi : inner[j]? = some hv := by
    have := seg_at (i := 0) (u := hv) (show (seg inner (Ty.slice e u).sz j)[0]? = some hv by rw [hseg]; rfl)
    simpa [Ty.sz] using this
  obtain ⟨A, c, hvr, _⟩ := q_slice hq
  obtain ⟨ad, hA, hcell⟩ := q_cells (by rw [← hvr]; exact hq) (show 0 < zs.length by omega)
  refine ⟨hv, fun k => S k ∧ vr.ownBlock ≠ some k ∧ f k = j, fun k hk => hk.1, hrow, ⟨ad, c, by rw [hvr, hA], hcell j hv hi⟩, ?_⟩
  intro w' S' ys hc hlt hrow' hS'
  have hown : ∀ k, vr.ownBlock = some k → k < w.heap.size ∧ w'.heap[k]? = w.heap[k]? := fun k hk => ⟨hlt k (hb k hk), hc.block k (hlt k (hb k hk)) (fun h2 => h2.2.1 hk)⟩
  refine ⟨inner, ?_, fun k hk => .inl (hb k hk), fun k => if S' k then j else f k, fun m x hm => ?_⟩
  · have := q_move hq (fun k hk => (hown k hk).2)
    rw [List.length_set]
    exact this
  · rw [List.getElem?_set] at hm
    by_cases hmj : j = m
    · subst hmj
      rw [if_pos rfl, if_pos hj] at hm
      injection hm with hm
      subst hm
      rw [hseg]
      refine ⟨hv, rfl, hrow'.imp (fun k hk => ⟨.inr hk, fun he => ?_, if_pos hk⟩) (fun _ _ => rfl) (fun T T' x cs _ hT h3 => h3.wide hT)⟩
      rcases hS' k hk with h4 | h4
      · exact h4.2.1 he
      · have := (hown k he).1; omega
    · rw [if_neg hmj] at hm
      refine (hr m x hm).move (fun k hk => ⟨.inl hk.1, hk.2.1, ?_⟩) (fun k hk => hc.block k (hlt k hk.1) (fun h2 => hmj (h2.2.2.symm.trans hk.2.2)))
      have hn : ¬ S' k := fun hs => ?_
      · exact (if_neg hn).trans hk.2.2
      · rcases hS' k hs with h4 | h4
        · exact hmj (h4.2.2.symm.trans hk.2.2)
        · have := hlt k hk.1; omega
theorem own_tree_in (h : Rel w0 S0 st μ a w) {i : Nat} {j : Int} {e e' : TypeId} {u : Ty} {fr : Bool} {zs : List (Ty.slice e u).D} (ho : st.objs[i]? = some (.row fr e' (.slice e u) zs)) {So : Nat → Prop} {hv : Value} (hval : ∀ v, AR μ w (.inn i j) v → v = hv) (hSo : RowRep (Rep u) u.sz e w So (List.getD zs j.toNat []) hv) :
    ∀ {t : Ty} {l : List At} {vs : List Value} {x : t.D} {pos : Nat}, AL μ w l vs → readTree st [] t l = some x → oneLeaf t pos e u = true → l[pos]? = some (.inn i j) → Rep t w So x vs ∧ vs[pos]? = some hv
  | .int _, l, vs, x, pos, hA, hr, h1, hl => by cases h1
  | .bool, l, vs, x, pos, hA, hr, h1, hl => by cases h1
  | .str, l, vs, x, pos, hA, hr, h1, hl => by cases h1
  | .slice e' u', l, vs, x, pos, hA, hr, h1, hl => by
    simp only [oneLeaf, Bool.and_eq_true, beq_iff_eq, decide_eq_true_eq] at h1
    obtain ⟨⟨rfl, rfl⟩, rfl⟩ := h1
    match l, hr, hl with
    | [y], hr, hl =>
      obtain rfl : y = .inn i j := by simpa using hl
      obtain ⟨v, rfl, hv'⟩ := hA.single
      obtain rfl := hval v hv'
      simp only [readTree, readSl, ho] at hr
      simp at hr
      subst hr
      refine ⟨⟨v, rfl, ?_⟩, rfl⟩
      simpa [List.getD] using hSo
  | .pair ta tb, l, vs, x, pos, hA, hr, h1, hl => by
    simp only [readTree] at hr
    split at hr
    · rename_i xa xb ha hb
      injection hr with hr
      subst hr
      simp only [oneLeaf] at h1
      split at h1
      · rename_i hp
        simp only [Bool.and_eq_true] at h1
        obtain ⟨hra, hva⟩ := own_tree_in h ho hval hSo (hA.take ta.sz) ha h1.1 (by rw [List.getElem?_take, if_pos hp]; exact hl)
        have hrb := flat_rep (S := okBut μ []) h1.2 (readTree_sound h (hA.drop ta.sz) hb)
        refine ⟨⟨_, _, So, fun _ => False, (List.take_append_drop ta.sz vs).symm, hra, hrb, fun k hk => ⟨hk, fun hf => hf⟩, fun _ hf => hf.elim⟩, ?_⟩
        rw [List.getElem?_take, if_pos hp] at hva
        exact hva
      · rename_i hp
        simp only [Bool.and_eq_true] at h1
        obtain ⟨hrb, hvb⟩ := own_tree_in h ho hval hSo (hA.drop ta.sz) hb h1.2 (by rw [List.getElem?_drop, show ta.sz + (pos - ta.sz) = pos by omega]; exact hl)
        have hra := flat_rep (S := okBut μ []) h1.1 (readTree_sound h (hA.take ta.sz) ha)
        refine ⟨⟨_, _, fun _ => False, So, (List.take_append_drop ta.sz vs).symm, hra, hrb, fun _ hf => hf.elim, fun k hk => hk⟩, ?_⟩
        rw [List.getElem?_drop, show ta.sz + (pos - ta.sz) = pos by omega] at hvb
        exact hvb
    · cases hr
theorem readArgsI_sound (h : Rel w0 S0 st μ a w) {i : Nat} {j : Int} {e e' : TypeId} {u : Ty} {fr : Bool} {zs : List (Ty.slice e u).D} (ho : st.objs[i]? = some (.row fr e' (.slice e u) zs)) {So : Nat → Prop} {hv : Value} (hval : ∀ v, AR μ w (.inn i j) v → v = hv) (hSo : RowRep (Rep u) u.sz e w So (List.getD zs j.toNat []) hv) :
    ∀ {ps : List PK} {xs : List Operand} {x : Tup ps}, readArgsI st i j e u ps (xs.map st.ev) = some x → ArgsR w (okBut μ [i]) So ps x (xs.map a.eval)
  | [], [], x, hr => rfl
  | [], y :: ys, x, hr => by simp [readArgsI] at hr
  | p :: ps, [], x, hr => by simp [readArgsI] at hr
  | p :: ps, y :: ys, x, hr => by
    simp only [List.map_cons, readArgsI] at hr
    split at hr
    · rename_i l hl
      split at hr
      · rename_i ha
        have hA := (h.ev y).cells_sound hl
        have hsh := aggOK_sound (h.ev y) hl ha
        split at hr
        · rename_i hown
          split at hr
          · rename_i y1 hy1
            split at hr
            · rename_i ys1 hys1
              injection hr with hr
              subst hr
              refine ⟨a.eval y, ys.map a.eval, rfl, hsh, ?_, readArgsI_sound h ho hval hSo hys1⟩
              rw [hown]
              exact readTree_sound h hA hy1
            · cases hr
          · cases hr
        · rename_i q hown
          split at hr
          · rename_i hq
            obtain ⟨hq1, hq2, hq3⟩ := hq
            split at hr
            · rename_i i' j' hj
              split at hr
              · rename_i hij
                obtain ⟨rfl, rfl⟩ := hij
                split at hr
                · rename_i y1 hy1
                  split at hr
                  · rename_i ys1 hys1
                    injection hr with hr
                    subst hr
                    refine ⟨a.eval y, ys.map a.eval, rfl, hsh, ?_, readArgsI_sound h ho hval hSo hys1⟩
                    rw [hown]
                    exact ⟨hq1, (own_tree_in h ho hval hSo hA hy1 (by rw [← hq2, ← hq3]; exact hq1) hj).1⟩
                  · cases hr
                · cases hr
              · cases hr
            · cases hr
          · cases hr
      · cases hr
    · cases hr
theorem ownInn_sound (h : Rel w0 S0 st μ a w) {i : Nat} {j : Int} {hv : Value} (hval : ∀ v, AR μ w (.inn i j) v → v = hv) : ∀ {ps : List PK} {xs : List Operand}, ownInn ps (xs.map st.ev) = some (i, j) → ownV ps (xs.map a.eval) = some hv
  | [], xs, hr => by cases xs <;> simp [ownInn] at hr
  | p :: ps, [], hr => by simp [ownInn] at hr
  | p :: ps, y :: ys, hr => by
    simp only [List.map_cons, ownInn] at hr
    simp only [List.map_cons, ownV]
    split at hr
    · rename_i q hown
      split at hr
      · rename_i l hl
        split at hr
        · rename_i i' j' hj
          injection hr with hr
          injection hr with hr1 hr2
          subst hr1 hr2
          have hA := (h.ev y).cells_sound hl
          have hlt : q.1 < (a.eval y).cells.toList.length := by rw [hA.1]; exact (List.getElem?_eq_some_iff.1 hj).1
          have := hval _ (hA.2 q.1 _ _ hj (List.getElem?_eq_getElem hlt))
          rw [List.getElem?_eq_getElem hlt, this]
        · cases hr
      · cases hr
    · exact ownInn_sound h hval hr
/-- The atom of a row within a row stands for one value, where some argument bears it. -/
theorem ownInn_some (h : Rel w0 S0 st μ a w) {i : Nat} {j : Int} : ∀ {ps : List PK} {xs : List Operand}, ownInn ps (xs.map st.ev) = some (i, j) → ∃ v, AR μ w (.inn i j) v
  | [], xs, hr => by cases xs <;> simp [ownInn] at hr
  | p :: ps, [], hr => by simp [ownInn] at hr
  | p :: ps, y :: ys, hr => by
    simp only [List.map_cons, ownInn] at hr
    split at hr
    · rename_i q hown
      split at hr
      · rename_i l hl
        split at hr
        · rename_i i' j' hj
          injection hr with hr
          injection hr with hr1 hr2
          subst hr1 hr2
          have hA := (h.ev y).cells_sound hl
          have hlt : q.1 < (a.eval y).cells.toList.length := by rw [hA.1]; exact (List.getElem?_eq_some_iff.1 hj).1
          exact ⟨_, hA.2 q.1 _ _ hj (List.getElem?_eq_getElem hlt)⟩
        · cases hr
      · cases hr
    · exact ownInn_some h hr
theorem call_in {γ : Type} {k : Nat} {f : FuncId} {E : CallE} {pos : Nat} {e : TypeId} {u : Ty} {dst : Option Tmp} {args : List Operand} {K : St → Option γ} {r : γ} (hE : SoundAt P k f E) (h : Rel w0 S0 st μ a w)
    (hown : ownI E.ps = some (pos, e, u)) (hk : opCallIn k E e u st dst (args.map st.ev) K = some r) :
    Calls P f (args.map a.eval).toArray w fun ed w' => match ed with
      | .returned v => ∃ st' μ', Rel w0 S0 st' μ' (a.put dst v) w' ∧ K st' = some r
      | _ => False := by
  have okb : ∀ (ex : List Nat) k, okBut μ ex k → k < w.heap.size := fun ex k ⟨i, q, _, hq, hk⟩ => h.lt i q hq k hk
  unfold opCallIn at hk
  split at hk
  · rename_i i j hij
    split at hk
    · rename_i fr e' e2 u2 zs hob
      split at hk
      · rename_i heu
        obtain ⟨rfl, rfl, hgv⟩ := heu
        split at hk
        · rename_i x hx
          obtain ⟨rec, hrec⟩ := h.some_rec hob
          obtain ⟨v0, hv0⟩ := ownInn_some h hij
          have hrow0 : RowRep (Rep (.slice e2 u2)) (Ty.slice e2 u2).sz e' w rec.ok zs rec.v := h.ob i _ rec hob hrec
          have hpl : ∀ v, AR μ w (.inn i j) v → ∃ (ad : Addr) (n c : Nat), rec.v = .slice (some ad) n c ∧ 0 ≤ j ∧ j < n ∧ w.cell? (ad.add j.toNat) = some v := by
            intro v hv
            obtain ⟨r1, ad, n, c, hr1, h1, h2, h3, _, h5, _⟩ := hv
            rw [hrec] at hr1
            injection hr1 with hr1
            subst hr1
            exact ⟨ad, n, c, h1, h2, h3, h5⟩
          obtain ⟨ad0, n0, c0, p1, p2, p3, p4⟩ := hpl v0 hv0
          have hn : n0 = zs.length := by
            obtain ⟨inner, hq, _⟩ := hrow0
            obtain ⟨A', c', hv', _⟩ := q_slice hq
            rw [p1] at hv'
            injection hv'
          have hjl : j.toNat < zs.length := by omega
          obtain ⟨hv, So, hSo, hin, ⟨ad, c, hvr, hcell⟩, hback⟩ := hrow0.lend hjl
          have hval : ∀ v, AR μ w (.inn i j) v → v = hv := by
            intro v hv1
            obtain ⟨ad1, n1, c1, q1, q2, q3, q4⟩ := hpl v hv1
            rw [hvr] at q1
            injection q1 with q1 _ _
            injection q1 with q1
            subst q1
            rw [hcell] at q4
            injection q4 with q4
            exact q4.symm
          have hA := readArgsI_sound h hob hval hin hx
          have hov := ownInn_sound h hval hij
          refine (hE.calls w _ _ x _ hA (fun k hk ⟨j', q, hj, hq, hqk⟩ => ?_) (fun k hk => h.lt i rec hrec k (hSo k hk)) (okb _) (fun hn => by rw [hown] at hn; cases hn) hk).mono fun ed w' he => ?_
          · refine h.dj i j' _ rec q (fun hij => ?_) hob rfl hrec hq k (hSo k hk) hqk
            subst hij
            simp at hj
          · cases ed with
            | returned v =>
              obtain ⟨res, out, hK, hF⟩ := he
              obtain ⟨Sr, us, hSr, rfl, hres, hout⟩ := hF.res
              obtain ⟨ys, hv2, S', rfl, hov2, hrow, hS'⟩ := hout _ hgv hown
              have hSr : ∀ k, Sr k → w.heap.size ≤ k ∧ k < w'.heap.size := fun k hk => ⟨(hSr k hk).1.elim (fun hf => by rw [hgv] at hf; cases hf.1) id, (hSr k hk).2⟩
              simp only at hK hrow
              rw [dif_pos trivial] at hK
              rw [hov] at hov2
              injection hov2 with hov2
              subst hov2
              have hs := h.kp.size
              have hS1 : ∀ k, S' k → rec.ok k ∨ w.heap.size ≤ k := fun k hk => (hS' k hk).1.imp (hSo k) id
              have hdis : ∀ (j : Nat) q, (offAt μ i)[j]? = some q → ∀ k, q.ok k → ¬ rec.ok k ∧ k < w.heap.size := by
                intro j q hq k hqk
                obtain ⟨q0, g0, _, _, g3⟩ := offAt_inv hq
                rcases g3 with ⟨_, g3⟩ | ⟨hj, rfl⟩
                · exact absurd hqk (g3 k)
                · exact ⟨fun hk => h.dj i j _ rec q (Ne.symm hj) hob rfl hrec g0 k hk hqk, h.lt j q g0 k hqk⟩
              have h1 := (h.die i).world hF.chg (fun j q hq k hqk hk => (hdis j q hq k hqk).1 (hSo k hk)) (fun k hk => h.wr i _ rec hob hrec rfl k (hSo k hk))
              have hir : (offAt μ i)[i]? = some rec.off := by rw [offAt_same, hrec]; rfl
              have hlen : i < (st.die i).objs.length := by simp [St.die]; exact (List.getElem?_eq_some_iff.1 hob).1
              have hnew := hback w' S' ys hF.chg (h.lt i rec hrec) hrow (fun k hk => (hS' k hk).1)
              have h2 := h1.revive (o' := .row fr e' (.slice e2 u2) (List.set zs j.toNat ys)) (r' := ⟨rec.v, rec.blk, fun k => rec.ok k ∨ S' k⟩) hir rfl rfl hlen (fun _ _ _ => hnew) (fun j q hj hq k hk hqk => by
                  have hd := hdis j q hq k hqk
                  rcases hk with h3 | h3
                  · exact hd.1 h3
                  · rcases hS1 k h3 with h4 | h4
                    · exact hd.1 h4
                    · have := hd.2; omega)
                (fun k hk => by
                  rcases hk with h3 | h3
                  · exact h.wr i _ rec hob hrec rfl k h3
                  · rcases hS1 k h3 with h4 | h4
                    · exact h.wr i _ rec hob hrec rfl k h4
                    · right; omega)
                (fun e2 t2 xs2 he2 k hk9 => by
                  have hfr : fr = true := by cases he2; rfl
                  subst hfr
                  rcases hk9 with h3 | h3
                  · exact h.fr i _ _ _ rec hob hrec k h3
                  · rcases hS1 k h3 with h4 | h4
                    · exact h.fr i _ _ _ rec hob hrec k h4
                    · right; omega)
                (fun k hk => by
                  rcases hk with h3 | h3
                  · have := h.lt i rec hrec k h3
                    have := hF.chg.size
                    omega
                  · exact (hS' k h3).2.1)
              obtain ⟨μ', h3⟩ := giveRes_sound h2 hres (fun k hk => ⟨.inr (by have := (hSr k hk).1; omega), (hSr k hk).2⟩) (fun j q hq k hk hqk => by
                  rw [List.getElem?_set] at hq
                  split at hq
                  · split at hq
                    · injection hq with hq
                      subst hq
                      rcases hqk with h3 | h3
                      · have := h.lt i rec hrec k h3
                        have := (hSr k hk).1
                        omega
                      · exact (hS' k h3).2.2 hk
                    · cases hq
                  · have := (hSr k hk).1
                    have := (hdis j q hq k hqk).2
                    omega) dst
              exact ⟨_, μ', h3, hK⟩
            | panicked c => exact False.elim he
            | outgrown => exact False.elim he
        · cases hk
      · cases hk
    · cases hk
  · cases hk
theorem call_op {γ : Type} {k : Nat} {f : FuncId} {E : CallE} {o : Oper} {args : Array Operand} {ats : Array TypeId} {K : St → Option γ} {r : γ} {Q : Exit → Act → World → Prop} (hE : SoundAt P k f E) (h : Rel w0 S0 st μ a w)
    (ho : o.op = .call { callee := .value (.func f), args := args, argTypes := ats }) (hk : opCall k E st o.dst (args.toList.map st.ev) K = some r) : o.wp P a w (Nx w0 S0 K r) Q := by
  have hrun : (execOp a.eval o).run P w = .ok (.enter f (args.toList.map a.eval).toArray) w := by
    unfold execOp
    simp only [ho, resolve, Deferred.ofValue, Act.eval, Sem.run_bind, Sem.run_pure, Result.andThen_ok, invoke]
    have : (#[] ++ args.map a.eval ++ #[] : Array Value) = (args.toList.map a.eval).toArray := by apply Array.ext'; simp
    rw [this]
    exact hE.enter _ w
  unfold Oper.wp
  rw [hrun, Oper.upon_enter]
  have okb : ∀ (ex : List Nat) k, okBut μ ex k → k < w.heap.size := fun ex k ⟨i, q, _, hq, hk⟩ => h.lt i q hq k hk
  unfold opCall at hk
  split at hk
  · rename_i hown
    split at hk
    · rename_i x hx
      have hA := readArgs_sound h (So := fun _ => False) (fun z hz => by cases hz) hx
      refine (hE.calls w _ _ x _ hA (fun _ hf => hf.elim) (fun _ hf => hf.elim) (okb _) (fun _ _ hf => hf) hk).mono fun e w' he => ?_
      cases e with
      | returned v =>
        obtain ⟨res, out, hK, hF⟩ := he
        obtain ⟨Sr, us, hSr, rfl, hres, _⟩ := hF.res
        have hs := h.kp.size
        have h1 := h.world hF.chg (fun _ _ _ _ _ hf => hf) (fun _ hf => hf.elim)
        have hSr : ∀ k, Sr k → w.heap.size ≤ k ∧ k < w'.heap.size := fun k hk => ⟨(hSr k hk).1.elim (fun hf => hf.2.elim) id, (hSr k hk).2⟩
        obtain ⟨μ', h2⟩ := giveRes_sound h1 hres (fun k hk => ⟨.inr (by have := (hSr k hk).1; omega), (hSr k hk).2⟩) (fun j q hq k hk hqk => by have := (hSr k hk).1; have := h.lt j q hq k hqk; omega) o.dst
        exact ⟨_, μ', h2, hK⟩
      | panicked c => exact False.elim he
      | outgrown => exact False.elim he
    · cases hk
  · rename_i pos e u hown
    split at hk
    · rename_i i hi
      split at hk
      · rename_i fr e' u' zs hob
        split at hk
        · rename_i heu
          obtain ⟨rfl, rfl⟩ := heu
          split at hk
          · rename_i x hx
            obtain ⟨rec, hrec⟩ := h.some_rec hob
            have hA := readArgs_sound h (So := rec.ok) (fun z hz => by injection hz with hz; subst hz; exact ⟨fr, zs, rec, hob, hrec, rfl⟩) hx
            have hov := ownObj_sound h hrec hi
            refine (hE.calls w _ _ x _ hA (fun k hk ⟨j, q, hj, hq, hqk⟩ => ?_) (h.lt i rec hrec) (okb _) (fun hn => by rw [hown] at hn; cases hn) hk).mono fun ed w' he => ?_
            · refine h.dj i j _ rec q (fun hij => ?_) hob rfl hrec hq k hk hqk
              subst hij
              simp at hj
            · cases ed with
              | returned v =>
                obtain ⟨res, out, hK, hF⟩ := he
                obtain ⟨Sr, us, hSr, rfl, hres, hout⟩ := hF.res
                have hs := h.kp.size
                have hdis : ∀ (j : Nat) q, (offAt μ i)[j]? = some q → ∀ k, q.ok k → ¬ rec.ok k ∧ k < w.heap.size := by
                  intro j q hq k hqk
                  obtain ⟨q0, g0, _, _, g3⟩ := offAt_inv hq
                  rcases g3 with ⟨_, g3⟩ | ⟨hj, rfl⟩
                  · exact absurd hqk (g3 k)
                  · exact ⟨fun hk => h.dj i j _ rec q (Ne.symm hj) hob rfl hrec g0 k hk hqk, h.lt j q g0 k hqk⟩
                have h1 := (h.die i).world hF.chg (fun j q hq k hqk => (hdis j q hq k hqk).1) (fun k hk => h.wr i _ rec hob hrec rfl k hk)
                cases hgv : giveI E.ps with
                | true =>
                  rw [if_pos hgv] at hK
                  split at hK
                  · rename_i hfr
                    subst hfr
                    obtain ⟨μ', h3⟩ := giveRes_sound h1 hres (fun k hk => ⟨(hSr k hk).1.elim (fun hf => h.fr i _ _ _ rec hob hrec k hf.2) (fun hf => by right; omega), (hSr k hk).2⟩) (fun j q hq k hk hqk => by
                      have hd := hdis j q hq k hqk
                      rcases (hSr k hk).1 with hf | hf
                      · exact hd.1 hf.2
                      · have := hd.2; omega) o.dst
                    exact ⟨_, μ', h3, hK⟩
                  · cases hK
                | false =>
                rw [if_neg (by rw [hgv]; exact Bool.false_ne_true)] at hK
                have hSr : ∀ k, Sr k → w.heap.size ≤ k ∧ k < w'.heap.size := fun k hk => ⟨(hSr k hk).1.elim (fun hf => by rw [hgv] at hf; cases hf.1) id, (hSr k hk).2⟩
                obtain ⟨ys, hv, S', rfl, hov2, hrow, hS'⟩ := hout _ hgv hown
                simp only at hK hrow
                rw [if_pos trivial] at hK
                rw [hov] at hov2
                injection hov2 with hov2
                subst hov2
                have hir : (offAt μ i)[i]? = some rec.off := by rw [offAt_same, hrec]; rfl
                have hlen : i < (st.die i).objs.length := by simp [St.die]; exact (List.getElem?_eq_some_iff.1 hob).1
                have h2 := h1.revive (o' := .row fr e' u' ys) (r' := ⟨rec.v, rec.blk, S'⟩) hir rfl rfl hlen (fun _ _ _ => hrow) (fun j q hj hq k hk hqk => by
                    have hd := hdis j q hq k hqk
                    rcases (hS' k hk).1 with h3 | h3
                    · exact hd.1 h3
                    · have := hd.2; omega)
                  (fun k hk => by
                    rcases (hS' k hk).1 with h3 | h3
                    · exact h.wr i _ rec hob hrec rfl k h3
                    · right; omega)
                  (fun e2 t2 xs2 he2 k hk9 => by
                    have hfr : fr = true := by cases he2; rfl
                    subst hfr
                    rcases (hS' k hk9).1 with h3 | h3
                    · exact h.fr i _ _ _ rec hob hrec k h3
                    · right; omega)
                  (fun k hk => (hS' k hk).2.1)
                obtain ⟨μ', h3⟩ := giveRes_sound h2 hres (fun k hk => ⟨.inr (by have := (hSr k hk).1; omega), (hSr k hk).2⟩) (fun j q hq k hk hqk => by
                    rw [List.getElem?_set] at hq
                    split at hq
                    · split at hq
                      · injection hq with hq
                        subst hq
                        exact (hS' k hqk).2.2 hk
                      · cases hq
                    · have := (hSr k hk).1
                      have := (hdis j q hq k hqk).2
                      omega) o.dst
                exact ⟨_, μ', h3, hK⟩
              | panicked c => exact False.elim he
              | outgrown => exact False.elim he
          · cases hk
        · cases hk
      · cases hk
    · refine (call_in hE h hown hk).mono fun ed w' he => ?_
      cases ed with
      | returned v =>
        obtain ⟨st', μ', h3, hK⟩ := he
        exact ⟨_, μ', h3, hK⟩
      | panicked c => exact False.elim he
      | outgrown => exact False.elim he
/-- A call that may write nothing leaves what was there. -/
theorem call_still {γ : Type} {k : Nat} {f : FuncId} {E : CallE} {o : Oper} {args : Array Operand} {ats : Array TypeId} {K : St → Option γ} {r : γ} {Q : Exit → Act → World → Prop} (hE : SoundAt P k f E) (h : Rel w0 S0 st μ a w)
    (ho : o.op = .call { callee := .value (.func f), args := args, argTypes := ats }) (hown : ownI E.ps = none) (hk : opCall k E st o.dst (args.toList.map st.ev) K = some r) : o.wp P a w (Nxs w0 S0 w K r) Q := by
  have hrun : (execOp a.eval o).run P w = .ok (.enter f (args.toList.map a.eval).toArray) w := by
    unfold execOp
    simp only [ho, resolve, Deferred.ofValue, Act.eval, Sem.run_bind, Sem.run_pure, Result.andThen_ok, invoke]
    have : (#[] ++ args.map a.eval ++ #[] : Array Value) = (args.toList.map a.eval).toArray := by apply Array.ext'; simp
    rw [this]
    exact hE.enter _ w
  unfold Oper.wp
  rw [hrun, Oper.upon_enter]
  have okb : ∀ (ex : List Nat) k, okBut μ ex k → k < w.heap.size := fun ex k ⟨i, q, _, hq, hk⟩ => h.lt i q hq k hk
  unfold opCall at hk
  rw [hown] at hk
  simp only at hk
  split at hk
  · rename_i x hx
    have hA := readArgs_sound h (So := fun _ => False) (fun z hz => by cases hz) hx
    refine (hE.calls w _ _ x _ hA (fun _ hf => hf.elim) (fun _ hf => hf.elim) (okb _) (fun _ _ hf => hf) hk).mono fun e w' he => ?_
    cases e with
    | returned v =>
      obtain ⟨res, out, hK, hF⟩ := he
      obtain ⟨Sr, us, hSr, rfl, hres, _⟩ := hF.res
      have hs := h.kp.size
      have h1 := h.world hF.chg (fun _ _ _ _ _ hf => hf) (fun _ hf => hf.elim)
      have hSr : ∀ k, Sr k → w.heap.size ≤ k ∧ k < w'.heap.size := fun k hk => ⟨(hSr k hk).1.elim (fun hf => hf.2.elim) id, (hSr k hk).2⟩
      obtain ⟨μ', h2⟩ := giveRes_sound h1 hres (fun k hk => ⟨.inr (by have := (hSr k hk).1; omega), (hSr k hk).2⟩) (fun j q hq k hk hqk => by have := (hSr k hk).1; have := h.lt j q hq k hqk; omega) o.dst
      exact ⟨⟨_, μ', h2, hK⟩, hF.chg⟩
    | panicked c => exact False.elim he
    | outgrown => exact False.elim he
  · cases hk
end
end Go.Proofs.Ytgpmbmnfcbippaa.Vs
