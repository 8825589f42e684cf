/- The state at a loop's head in a fixed form: only what the loop needs, its objects numbered anew. -/
import Derived.Test.YtgpmbmnfcbippaaqtesVsM
set_option linter.unusedVariables false
set_option linter.unusedSimpArgs false
namespace Go.Proofs.Ytgpmbmnfcbippaa.Vs
open Go.RowKit

/-! ### Shapes -/
inductive Sh where
  | int (k : IntKind) | bool | str | sl (i : Nat) | snap (i : Nat) (t : Ty) | ptr (i f : Nat) | inn (i : Nat)
@[reducible] def Sh.D : Sh → Type
  | .int _ => Int | .bool => Bool | .str => ByteArray | .sl _ => Unit | .snap _ t => List t.D | .ptr _ _ => Unit | .inn _ => Int
def Sh.at : (s : Sh) → s.D → At
  | .int k, n => .int k n | .bool, b => .bool b | .str, s => .str s | .sl i, _ => .sl i | .snap i t, xs => .snap i t xs | .ptr i f, _ => .ptr i f | .inn i, j => .inn i j
@[reducible] def ShL : List Sh → Type
  | [] => Unit
  | s :: l => s.D × ShL l
def ShL.ats : (l : List Sh) → ShL l → List At
  | [], _ => []
  | s :: l, x => s.at x.1 :: ShL.ats l x.2
inductive TSh where
  | at (s : Sh) | agg (l : List Sh)
@[reducible] def TSh.D : TSh → Type
  | .at s => s.D | .agg l => ShL l
def TSh.tv : (s : TSh) → s.D → TV
  | .at s, x => .sv (.at (s.at x)) | .agg l, x => .sv (.agg (ShL.ats l x))
inductive OSh where
  | ro | row (fr : Bool) (e : TypeId) (t : Ty) | box (e : TypeId) (l : List Sh)
@[reducible] def OSh.D : OSh → Type
  | .ro => Unit | .row _ _ t => List t.D | .box _ l => ShL l
def OSh.ob : (s : OSh) → s.D → Ob
  | .ro, _ => .ro | .row fr e t, xs => .row fr e t xs | .box e l, x => .box e (ShL.ats l x)
@[reducible] def OL : List OSh → Type
  | [] => Unit
  | s :: l => s.D × OL l
def OL.obs : (l : List OSh) → OL l → List Ob
  | [], _ => []
  | s :: l, x => s.ob x.1 :: OL.obs l x.2
@[reducible] def TL : List (Tmp × TSh) → Type
  | [] => Unit
  | s :: l => s.2.D × TL l
def TL.put : (l : List (Tmp × TSh)) → TL l → List TV → List TV
  | [], _, ts => ts
  | s :: l, x, ts => (TL.put l x.2 ts).set s.1 (s.2.tv x.1)
structure Spec where
  objs : List OSh
  tmps : List (Tmp × TSh)
@[reducible] def Spec.D (s : Spec) : Type := OL s.objs × TL s.tmps
def Spec.st (s : Spec) (n : Nat) (x : s.D) : St := { tmps := TL.put s.tmps x.2 (List.replicate n (.sv (.at .un))), objs := OL.obs s.objs x.1 }

/-! ### A state brought into shape -/
def Sh.fit (σ : List Nat) : (s : Sh) → At → Option s.D
  | .int k, .int k' n => if k' = k then some n else none
  | .bool, .bool b => some b
  | .str, .str s => some s
  | .sl i, .sl j => if σ[i]? = some j then some () else none
  | .snap i t, .snap j t' xs => if σ[i]? = some j then if h : t' = t then some (h ▸ xs) else none else none
  | .snap i t, .nils => if i < σ.length then some [] else none
  | .ptr i f, .ptr j g => if σ[i]? = some j ∧ g = f then some () else none
  | .inn i, .inn j q => if σ[i]? = some j then some q else none
  | _, _ => none
def ShL.fit (σ : List Nat) : (l : List Sh) → List At → Option (ShL l)
  | [], [] => some ()
  | s :: l, x :: xs => match s.fit σ x with
    | some d => match ShL.fit σ l xs with
      | some ds => some (d, ds)
      | none => none
    | none => none
  | _, _ => none
def TSh.fit (σ : List Nat) : (s : TSh) → TV → Option s.D
  | .at s, .sv (.at x) => s.fit σ x
  | .agg l, .sv (.agg xs) => ShL.fit σ l xs
  | _, _ => none
def OSh.fit (σ : List Nat) : (s : OSh) → Ob → Option s.D
  | .ro, _ => some ()
  | .row fr e t, .row fr' e' t' xs => if (fr = true → fr' = true) ∧ e' = e then if h : t' = t then some (h ▸ xs) else none else none
  | .box e l, .box e' xs => if e' = e then ShL.fit σ l xs else none
  | _, _ => none
def OL.fit (σ : List Nat) (st : St) : (l : List OSh) → (js : List Nat) → Option (OL l)
  | [], [] => some ()
  | s :: l, j :: js => match st.objs[j]? with
    | some o => match s.fit σ o with
      | some d => match OL.fit σ st l js with
        | some ds => some (d, ds)
        | none => none
      | none => none
    | none => none
  | _, _ => none
def TL.fit (σ : List Nat) (st : St) : (l : List (Tmp × TSh)) → Option (TL l)
  | [] => some ()
  | s :: l => match st.tmps[s.1]? with
    | some x => match s.2.fit σ x with
      | some d => match TL.fit σ st l with
        | some ds => some (d, ds)
        | none => none
      | none => none
    | none => none
def distinct : List Nat → Bool
  | [] => true
  | x :: l => !l.contains x && distinct l
def ownFirst (no : Nat) (σ : List Nat) : Bool := (List.range (no + 1)).all fun j => σ[j]? == some j
def Spec.fit (s : Spec) (no : Nat) (σ : List Nat) (st : St) : Option s.D :=
  if distinct σ = true ∧ ownFirst no σ = true then match OL.fit σ st s.objs σ with
    | some x => match TL.fit σ st s.tmps with
      | some y => some (x, y)
      | none => none
    | none => none
  else none

section
variable {P : Program} {w w1 w0 : World} {S0 : Own} {st : St} {μ μ' : List ORec} {a : Act} {σ : List Nat}
def Renamed (σ : List Nat) (μ μ' : List ORec) : Prop := μ'.length = σ.length ∧ ∀ (i j : Nat), σ[i]? = some j → ∃ r, μ[j]? = some r ∧ μ'[i]? = some r
theorem Sh.fit_sound (hσ : Renamed σ μ μ') : ∀ {s : Sh} {x : At} {d : s.D} {v : Value}, s.fit σ x = some d → AR μ w x v → AR μ' w (s.at d) v := by
  intro s x d v hf hx
  have get : ∀ {i j : Nat} {r : ORec}, σ[i]? = some j → μ[j]? = some r → μ'[i]? = some r := by
    intro i j r hi hr
    obtain ⟨q, h1, h2⟩ := hσ.2 i j hi
    rw [hr] at h1
    injection h1 with h1
    rw [h1]; exact h2
  cases s with
  | int k =>
    cases x <;> simp only [Sh.fit] at hf <;> try (cases hf; done)
    split at hf
    · rename_i hk; subst hk; injection hf with hf; subst hf; exact hx
    · cases hf
  | bool => cases x <;> simp only [Sh.fit] at hf <;> first | (injection hf with hf; subst hf; exact hx) | cases hf
  | str => cases x <;> simp only [Sh.fit] at hf <;> first | (injection hf with hf; subst hf; exact hx) | cases hf
  | sl i =>
    cases x <;> simp only [Sh.fit] at hf <;> try (cases hf; done)
    split at hf
    · rename_i hi
      obtain ⟨r, hr, h2⟩ := hx
      exact ⟨r, get hi hr, h2⟩
    · cases hf
  | snap i t =>
    cases x <;> simp only [Sh.fit] at hf <;> try (cases hf; done)
    · split at hf
      · rename_i hi
        injection hf with hf
        subst hf
        obtain ⟨r, _, h2⟩ := hσ.2 i σ[i] (List.getElem?_eq_getElem hi)
        exact ⟨r, h2, by rw [show v = _ from hx]; exact RowRd.nils _ _ _ _⟩
      · cases hf
    · split at hf
      · rename_i hi
        split at hf
        · rename_i ht
          subst ht
          injection hf with hf
          subst hf
          obtain ⟨r, hr, h2⟩ := hx
          exact ⟨r, get hi hr, h2⟩
        · cases hf
      · cases hf
  | ptr i f =>
    cases x <;> simp only [Sh.fit] at hf <;> try (cases hf; done)
    split at hf
    · rename_i hi
      obtain ⟨r, hr, h2⟩ := hx
      exact ⟨r, get hi.1 hr, by rw [← hi.2]; exact h2⟩
    · cases hf
  | inn i =>
    cases x <;> simp only [Sh.fit] at hf <;> try (cases hf; done)
    split at hf
    · rename_i hi
      injection hf with hf
      subst hf
      obtain ⟨r, ad, n, c, hr, h2⟩ := hx
      exact ⟨r, ad, n, c, get hi hr, h2⟩
    · cases hf
theorem ShL.fit_sound (hσ : Renamed σ μ μ') : ∀ {l : List Sh} {xs : List At} {d : ShL l} {vs : List Value}, ShL.fit σ l xs = some d → AL μ w xs vs → AL μ' w (ShL.ats l d) vs
  | [], [], d, vs, _, h => ⟨h.1, fun j x v hx => by simp [ShL.ats] at hx⟩
  | [], _ :: _, d, vs, hf, h => by simp [ShL.fit] at hf
  | _ :: _, [], d, vs, hf, h => by simp [ShL.fit] at hf
  | s :: l, x :: xs, d, vs, hf, h => by
    simp only [ShL.fit] at hf
    split at hf
    · rename_i d1 h1
      split at hf
      · rename_i ds h2
        injection hf with hf
        subst hf
        match vs, h with
        | v :: vs, h =>
          have hx := h.2 0 x v rfl rfl
          have hrest : AL μ w xs vs := ⟨by simpa using h.1, fun j y u hy hu => h.2 (j + 1) y u (by simpa using hy) (by simpa using hu)⟩
          have ih := ShL.fit_sound hσ h2 hrest
          refine ⟨by simp [ShL.ats, ih.1], fun j y u hy hu => ?_⟩
          cases j with
          | zero =>
            simp only [ShL.ats, List.getElem?_cons_zero] at hy hu
            injection hy with hy; injection hu with hu
            subst hy hu
            exact Sh.fit_sound hσ h1 hx
          | succ j => exact ih.2 j y u (by simpa [ShL.ats] using hy) (by simpa using hu)
      · cases hf
    · cases hf
theorem TSh.fit_sound (hσ : Renamed σ μ μ') {s : TSh} {x : TV} {d : s.D} {v : Value} (hf : s.fit σ x = some d) (hx : TR μ w x v) : TR μ' w (s.tv d) v := by
  cases s with
  | «at» s =>
    match x, hf, hx with
    | .sv (.at x), hf, hx =>
      refine ⟨Sh.fit_sound hσ hf hx.1, ?_⟩
      rcases hx.2 with rfl | h2
      · cases s <;> simp [TSh.fit, Sh.fit] at hf
      · exact .inr h2
    | .sv (.agg _), hf, hx => cases hf
    | .tup _, hf, hx => cases hf
  | agg l =>
    match x, hf, hx with
    | .sv (.agg xs), hf, hx =>
      obtain ⟨vs, hv, hA⟩ := hx
      exact ⟨vs, hv, ShL.fit_sound hσ hf hA⟩
    | .sv (.at _), hf, hx => cases hf
    | .tup _, hf, hx => cases hf
theorem OSh.fit_sound (hσ : Renamed σ μ μ') {s : OSh} {o : Ob} {d : s.D} {r : ORec} (hf : s.fit σ o = some d) (h : OR μ w o r) : OR μ' w (s.ob d) r := by
  cases s with
  | ro => trivial
  | row fr e t =>
    cases o <;> simp only [OSh.fit] at hf <;> try (cases hf; done)
    split at hf
    · rename_i he
      split at hf
      · rename_i ht
        subst ht
        injection hf with hf
        subst hf
        rw [← he.2]
        exact h
      · cases hf
    · cases hf
  | box e l =>
    cases o <;> simp only [OSh.fit] at hf <;> try (cases hf; done)
    split at hf
    · rename_i he
      subst he
      obtain ⟨h0, vs, h1, h2, h3⟩ := h
      exact ⟨h0, vs, h1, ShL.fit_sound hσ hf h2, h3⟩
    · cases hf
theorem OSh.fit_owned {s : OSh} {o : Ob} {d : s.D} (hf : s.fit σ o = some d) (ho : (s.ob d).owned = true) : o.owned = true := by
  cases s with
  | ro => cases ho
  | row fr e t => cases o <;> simp only [OSh.fit] at hf <;> first | rfl | cases hf
  | box e l => cases o <;> simp only [OSh.fit] at hf <;> first | rfl | cases hf
theorem OL.fit_get : ∀ {l : List OSh} {js : List Nat} {x : OL l}, OL.fit σ st l js = some x → l.length = js.length ∧ (OL.obs l x).length = js.length ∧ ∀ (i j : Nat), js[i]? = some j → ∃ (o : Ob) (s : OSh) (d : s.D), st.objs[j]? = some o ∧ s.fit σ o = some d ∧ (OL.obs l x)[i]? = some (s.ob d)
  | [], [], x, _ => ⟨rfl, rfl, fun i j h => by simp at h⟩
  | [], _ :: _, x, h => by simp [OL.fit] at h
  | _ :: _, [], x, h => by simp [OL.fit] at h
  | s :: l, j :: js, x, h => by
    simp only [OL.fit] at h
    split at h
    · rename_i o ho
      split at h
      · rename_i d hd
        split at h
        · rename_i ds hds
          injection h with h
          subst h
          obtain ⟨h1, h2, h3⟩ := OL.fit_get hds
          refine ⟨by simp [h1], by simp [OL.obs, h2], fun i jj hi => ?_⟩
          cases i with
          | zero =>
            simp only [List.getElem?_cons_zero] at hi
            injection hi with hi
            subst hi
            exact ⟨o, s, d, ho, hd, rfl⟩
          | succ i => exact h3 i jj (by simpa using hi)
        · cases h
      · cases h
    · cases h
theorem TL.put_len : ∀ {l : List (Tmp × TSh)} {x : TL l} {ts : List TV}, (TL.put l x ts).length = ts.length
  | [], _, _ => rfl
  | s :: l, x, ts => by simp [TL.put, TL.put_len]
theorem TL.fit_sound (h : Rel w0 S0 st μ a w) (hσ : Renamed σ μ μ') : ∀ {l : List (Tmp × TSh)} {x : TL l} {n : Nat}, TL.fit σ st l = some x → ∀ (i : Nat) y, (TL.put l x (List.replicate n (.sv (.at .un))))[i]? = some y → TR μ' w y (a.tmps.getD i undef)
  | [], x, n, _, i, y, hy => by
    simp only [TL.put, List.getElem?_replicate] at hy
    split at hy
    · injection hy with hy
      subst hy
      exact ⟨trivial, .inl rfl⟩
    · cases hy
  | s :: l, x, n, hf, i, y, hy => by
    simp only [TL.fit] at hf
    split at hf
    · rename_i z hz
      split at hf
      · rename_i d hd
        split at hf
        · rename_i ds hds
          injection hf with hf
          subst hf
          simp only [TL.put, List.getElem?_set] at hy
          split at hy
          · rename_i hi
            split at hy
            · injection hy with hy
              subst hy
              rw [← hi]
              exact TSh.fit_sound hσ hd (h.tv _ z hz)
            · cases hy
          · exact TL.fit_sound h hσ hds i y hy
        · cases hf
      · cases hf
    · cases hf
theorem distinct_ne : ∀ {σ : List Nat}, distinct σ = true → ∀ (i j x : Nat), σ[i]? = some x → σ[j]? = some x → i = j
  | [], _, i, j, x, hi, _ => by simp at hi
  | y :: σ, h, i, j, x, hi, hj => by
    simp only [distinct, Bool.and_eq_true, Bool.not_eq_true', List.contains_eq_mem, decide_eq_false_iff_not] at h
    cases i with
    | zero =>
      obtain rfl : y = x := by simpa using hi
      cases j with
      | zero => rfl
      | succ j => exact absurd (List.mem_of_getElem? (by simpa using hj)) h.1
    | succ i =>
      cases j with
      | zero =>
        obtain rfl : y = x := by simpa using hj
        exact absurd (List.mem_of_getElem? (by simpa using hi)) h.1
      | succ j => rw [distinct_ne h.2 i j x (by simpa using hi) (by simpa using hj)]
theorem Spec.fit_sound (h : Rel w0 S0 st μ a w) {s : Spec} {no n : Nat} {x : s.D} (hno : S0.ov.length = no) (hn : st.tmps.length = n) (hf : s.fit no σ st = some x) : ∃ μ', Rel w0 S0 (s.st n x) μ' a w := by
  unfold Spec.fit at hf
  split at hf
  · rename_i hc
    obtain ⟨hdis, hown⟩ := hc
    split at hf
    · rename_i xo hxo
      split at hf
      · rename_i xt hxt
        injection hf with hf
        subst hf
        obtain ⟨l1, l2, hget⟩ := OL.fit_get hxo
        have hrec : ∀ (i j : Nat), σ[i]? = some j → ∃ r, μ[j]? = some r := fun i j hij => by
          obtain ⟨o, _, _, ho, _⟩ := hget i j hij
          exact h.some_rec ho
        have hσ : Renamed σ μ (σ.map fun j => (μ[j]?).getD ⟨undef, 0, fun _ => False⟩) := ⟨by simp, fun i j hij => by
          obtain ⟨r, hr⟩ := hrec i j hij
          exact ⟨r, hr, by rw [List.getElem?_map, hij]; simp [hr]⟩⟩
        generalize (σ.map fun j => (μ[j]?).getD ⟨undef, 0, fun _ => False⟩) = μ' at hσ
        have back : ∀ (i : Nat) r, μ'[i]? = some r → ∃ j, σ[i]? = some j ∧ μ[j]? = some r := by
          intro i r hr
          have hlt : i < σ.length := by rw [← hσ.1]; exact (List.getElem?_eq_some_iff.1 hr).1
          obtain ⟨q, h1, h2⟩ := hσ.2 i σ[i] (List.getElem?_eq_getElem hlt)
          rw [hr] at h2
          injection h2 with h2
          exact ⟨σ[i], List.getElem?_eq_getElem hlt, by rw [h1, h2]⟩
        have obk : ∀ (i : Nat) o', (OL.obs s.objs xo)[i]? = some o' → ∃ (j : Nat) (o : Ob) (sh : OSh) (d : sh.D), σ[i]? = some j ∧ st.objs[j]? = some o ∧ sh.fit σ o = some d ∧ o' = sh.ob d := by
          intro i o' ho'
          have hlt : i < σ.length := by rw [← l2]; exact (List.getElem?_eq_some_iff.1 ho').1
          obtain ⟨o, sh, d, h1, h2, h3⟩ := hget i σ[i] (List.getElem?_eq_getElem hlt)
          rw [ho'] at h3
          injection h3 with h3
          exact ⟨σ[i], o, sh, d, List.getElem?_eq_getElem hlt, h1, h2, h3⟩
        refine ⟨μ', ⟨by rw [hσ.1]; exact l2.symm, by simp only [Spec.st, TL.put_len, List.length_replicate]; rw [h.tm, hn], fun i y hy => TL.fit_sound h hσ hxt i y hy, fun i o' r ho' hr => ?_, fun i j o' ri rj hij ho' hw hri hrj k hk => ?_, fun i o' r ho' hr hw k hk => ?_, fun i e t xs r ho' hr k hk => ?_, fun i r hr k hk => ?_, h.kp, h.df, fun j v hv => ?_⟩⟩
        · obtain ⟨j, o, sh, d, h1, h2, h3, rfl⟩ := obk i o' ho'
          obtain ⟨j2, g1, g2⟩ := back i r hr
          rw [h1] at g1
          injection g1 with g1
          subst g1
          exact OSh.fit_sound hσ h3 (h.ob j o r h2 g2)
        · obtain ⟨ji, o, sh, d, h1, h2, h3, rfl⟩ := obk i o' ho'
          obtain ⟨j2, g1, g2⟩ := back i ri hri
          rw [h1] at g1
          injection g1 with g1
          subst g1
          obtain ⟨jj, f1, f2⟩ := back j rj hrj
          exact h.dj ji jj o ri rj (fun e => hij (distinct_ne hdis i j ji h1 (by rw [e]; exact f1))) h2 (OSh.fit_owned h3 hw) g2 f2 k hk
        · obtain ⟨ji, o, sh, d, h1, h2, h3, rfl⟩ := obk i o' ho'
          obtain ⟨j2, g1, g2⟩ := back i r hr
          rw [h1] at g1
          injection g1 with g1
          subst g1
          exact h.wr ji o r h2 g2 (OSh.fit_owned h3 hw) k hk
        · obtain ⟨ji, o, sh, d, h1, h2, h3, h4⟩ := obk i _ ho'
          obtain ⟨j2, g1, g2⟩ := back i r hr
          rw [h1] at g1
          injection g1 with g1
          subst g1
          cases sh with
          | ro => cases h4
          | box e l => cases h4
          | row fr e' t' =>
            have hfr : fr = true := by cases h4; rfl
            subst hfr
            cases o <;> simp only [OSh.fit] at h3 <;> try (cases h3; done)
            split at h3
            · rename_i hc
              have := hc.1 trivial
              subst this
              exact h.fr ji _ _ _ r h2 g2 k hk
            · cases h3
        · obtain ⟨j, h1, h2⟩ := back i r hr
          exact h.lt j r h2 k hk
        · obtain ⟨r, hr, hv2⟩ := h.ov j v hv
          have hj : j < no := by rw [← hno]; exact (List.getElem?_eq_some_iff.1 hv).1
          have := List.all_eq_true.1 hown (j + 1) (List.mem_range.2 (by omega))
          have := beq_iff_eq.1 this
          obtain ⟨q, g1, g2⟩ := hσ.2 (j + 1) (j + 1) this
          rw [hr] at g1
          injection g1 with g1
          subst g1
          exact ⟨r, g2, hv2⟩
      · cases hf
    · cases hf
  · cases hf
end
end Go.Proofs.Ytgpmbmnfcbippaa.Vs
