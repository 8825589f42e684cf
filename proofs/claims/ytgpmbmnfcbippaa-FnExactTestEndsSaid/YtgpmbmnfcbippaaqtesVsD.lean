/- Trees and atoms: what is read, taken and turned is so in memory. -/
import Derived.Test.YtgpmbmnfcbippaaqtesVsC
set_option linter.unusedVariables false
set_option linter.unusedSimpArgs false
namespace Go.Proofs.Ytgpmbmnfcbippaa.Vs
open Go.RowKit

section
variable {μ μ' : List ORec} {w w1 w0 : World} {S0 : Own} {st st' : St} {a : Act}
theorem AL.nil : AL μ w [] [] := ⟨rfl, fun j x v hx => by simp at hx⟩
theorem AL.one {x : At} {v : Value} (h : AR μ w x v) : AL μ w [x] [v] := by
  refine ⟨rfl, fun j y u hy hu => ?_⟩
  cases j with
  | zero => simp at hy hu; subst hy hu; exact h
  | succ j => simp at hy
theorem AL.append {l l' : List At} {vs vs' : List Value} (h : AL μ w l vs) (h' : AL μ w l' vs') : AL μ w (l ++ l') (vs ++ vs') := by
  refine ⟨by simp [h.1, h'.1], fun j x v hx hv => ?_⟩
  rw [List.getElem?_append] at hx hv
  rw [h.1] at hv
  split at hx
  · rename_i hj
    rw [if_pos hj] at hv
    exact h.2 j x v hx hv
  · rename_i hj
    rw [if_neg hj] at hv
    exact h'.2 _ x v hx hv
theorem AL.take {l : List At} {vs : List Value} (n : Nat) (h : AL μ w l vs) : AL μ w (l.take n) (vs.take n) := by
  refine ⟨by simp [h.1], fun j x v hx hv => ?_⟩
  rw [List.getElem?_take] at hx hv
  split at hx
  · rename_i hj
    rw [if_pos hj] at hv
    exact h.2 j x v hx hv
  · cases hx
theorem AL.drop {l : List At} {vs : List Value} (n : Nat) (h : AL μ w l vs) : AL μ w (l.drop n) (vs.drop n) := by
  refine ⟨by simp [h.1], fun j x v hx hv => ?_⟩
  rw [List.getElem?_drop] at hx hv
  exact h.2 _ x v hx hv
theorem AL.single {x : At} {vs : List Value} (h : AL μ w [x] vs) : ∃ v, vs = [v] ∧ AR μ w x v := by
  have h1 := h.1
  match vs, h1 with
  | [v], _ => exact ⟨v, rfl, h.2 0 x v rfl rfl⟩
theorem AL.of_rd {i : Nat} {r : ORec} (hr : μ[i]? = some r) : ∀ {t : Ty} {x : t.D} {cs : List Value}, Rd t w r.ok x cs → AL μ w (atomsOf i t x) cs
  | .int _, _, _, h => by rw [show _ = _ from h]; exact .one rfl
  | .bool, _, _, h => by rw [show _ = _ from h]; exact .one rfl
  | .str, _, _, h => by rw [show _ = _ from h]; exact .one rfl
  | .pair a b, _, _, h => by
    obtain ⟨c0, c1, rfl, h0, h1⟩ := h
    exact (AL.of_rd hr h0).append (AL.of_rd hr h1)
  | .slice _ t, _, _, h => by
    obtain ⟨v, rfl, h⟩ := h
    exact .one ⟨r, hr, h⟩
def zcells : Ty → List Value
  | .int k => [.int k 0] | .bool => [.bool false] | .str => [.string ⟨#[]⟩] | .pair a b => zcells a ++ zcells b | .slice _ _ => [.slice none 0 0]
theorem AL.zero : ∀ t : Ty, AL μ w (zatoms t) (zcells t)
  | .int _ => .one rfl | .bool => .one rfl | .str => .one rfl | .slice _ _ => .one rfl
  | .pair a b => (AL.zero a).append (AL.zero b)
theorem zcells_len : ∀ t : Ty, (zcells t).length = t.sz
  | .int _ => rfl | .bool => rfl | .str => rfl | .slice _ _ => rfl
  | .pair a b => by simp [zcells, Ty.sz, zcells_len a, zcells_len b]
theorem zcells_one : ∀ t : Ty, ∀ u ∈ zcells t, u.oneCell' = true
  | .int _, u, hu => by simp [zcells] at hu; subst hu; rfl
  | .bool, u, hu => by simp [zcells] at hu; subst hu; rfl
  | .str, u, hu => by simp [zcells] at hu; subst hu; rfl
  | .slice _ _, u, hu => by simp [zcells] at hu; subst hu; rfl
  | .pair a b, u, hu => by
    simp only [zcells, List.mem_append] at hu
    exact hu.elim (zcells_one a u) (zcells_one b u)
theorem Rep.nils {α : Type} (R : World → (Nat → Prop) → α → List Value → Prop) (sz : Nat) (e : TypeId) (w : World) (S : Nat → Prop) : RowRep R sz e w S [] (.slice none 0 0) :=
  ⟨[], q_nil w e sz, fun k hk => by simp [Value.ownBlock] at hk, fun _ => 0, fun j x hj => by simp at hj⟩
theorem Rep.zero : ∀ (t : Ty) (w : World), Rep t w (fun _ => False) t.zero (zcells t)
  | .int _, _ => rfl | .bool, _ => rfl | .str, _ => rfl
  | .slice e t, w => ⟨_, rfl, Rep.nils _ _ _ _ _⟩
  | .pair a b, w => ⟨_, _, _, _, rfl, Rep.zero a w, Rep.zero b w, fun _ h => h.elim, fun _ h => h.elim⟩
theorem RowRd.nils {α : Type} (R : World → (Nat → Prop) → α → List Value → Prop) (sz : Nat) (w : World) (S : Nat → Prop) : RowRd R sz w S [] (.slice none 0 0) :=
  ⟨none, 0, rfl, Nat.le_refl _, Nat.zero_le _, fun h => absurd h (Nat.lt_irrefl _)⟩
theorem RowRep.rd {t : Ty} {e : TypeId} {S : Nat → Prop} {xs : List t.D} {v : Value} (h : RowRep (Rep t) t.sz e w S xs v) : RowRd (Rd t) t.sz w S xs v := by
  obtain ⟨u, hu, h2⟩ := Rep.rd (t := .slice e t) ⟨v, rfl, h⟩
  obtain rfl : v = u := by simpa using hu
  exact h2
theorem RowRd.wide {t : Ty} {S S' : Nat → Prop} {xs : List t.D} {v : Value} (h : RowRd (Rd t) t.sz w S xs v) (hS : ∀ k, S k → S' k) : RowRd (Rd t) t.sz w S' xs v := by
  obtain ⟨u, hu, h2⟩ := Rd.wide (t := .slice 0 t) ⟨v, rfl, h⟩ hS
  obtain rfl : v = u := by simpa using hu
  exact h2
/-- An element of a row of one's own, and how the row's value looks. -/
theorem RowRep.elem {t : Ty} {e : TypeId} {S : Nat → Prop} {xs : List t.D} {v : Value} (h : RowRep (Rep t) t.sz e w S xs v) {j : Nat} (hj : j < xs.length) :
    ∃ A c cs, v = .slice (some A) xs.length c ∧ S A.block ∧ cs.length = t.sz ∧ (∀ i u, cs[i]? = some u → w.cell? (A.add (j * t.sz + i)) = some u) ∧ Rep t w S xs[j] cs := by
  obtain ⟨inner, hq, hb, f, hr⟩ := h
  obtain ⟨A, c, rfl, hc⟩ := q_slice hq
  obtain ⟨ad, rfl, hcell⟩ := q_cells hq (by omega)
  have h2 := hr j xs[j] (List.getElem?_eq_getElem hj)
  exact ⟨ad, c, seg inner t.sz j, rfl, hb _ rfl, h2.len, fun i u hu => hcell _ u (seg_at hu), h2.wide (fun k hk => hk.1)⟩

/-- The footprints of all objects but some. -/
def okBut (μ : List ORec) (ex : List Nat) (k : Nat) : Prop := ∃ (i : Nat) (r : ORec), ex.contains i = false ∧ μ[i]? = some r ∧ r.ok k
theorem readSl_sound (h : Rel w0 S0 st μ a w) {ex : List Nat} {t : Ty} {x : At} {v : Value} {xs : List t.D} (hx : AR μ w x v) (hr : readSl st ex t x = some xs) : RowRd (Rd t) t.sz w (okBut μ ex) xs v := by
  cases x with
  | nils => simp only [readSl] at hr; injection hr with hr; subst hr; rw [show v = _ from hx]; exact RowRd.nils _ _ _ _
  | sl i =>
    simp only [readSl] at hr
    split at hr
    · cases hr
    · rename_i hex
      split at hr
      · rename_i fr e t' ys ho
        split at hr
        · rename_i ht
          subst ht
          injection hr with hr
          subst hr
          obtain ⟨r, hr, rfl, _⟩ := hx
          exact (RowRep.rd (h.ob i _ r ho hr)).wide (fun k hk => ⟨i, r, by simpa using hex, hr, hk⟩)
        · cases hr
      · cases hr
  | snap i t' ys =>
    simp only [readSl] at hr
    split at hr
    · cases hr
    · rename_i hex
      split at hr
      · rename_i ht
        subst ht
        injection hr with hr
        subst hr
        obtain ⟨r, hr, h2⟩ := hx
        exact h2.wide (fun k hk => ⟨i, r, by simpa using hex, hr, hk⟩)
      · cases hr
  | inn i j =>
    simp only [readSl] at hr
    split at hr
    · cases hr
    · rename_i hex
      split at hr
      · rename_i fr e e2 t' ys ho
        split at hr
        · rename_i ht
          subst ht
          injection hr with hr
          subst hr
          obtain ⟨r, ad, n, c, hr, hv, h0, h1, hk, hc, _⟩ := hx
          have hrow : RowRep (Rep (.slice e2 t')) (Ty.slice e2 t').sz e w r.ok ys r.v := h.ob i _ r ho hr
          have hn : n = ys.length := by
            obtain ⟨inner, hq, _⟩ := hrow
            obtain ⟨A', c', hv', _⟩ := q_slice hq
            rw [hv] at hv'
            injection hv'
          have hj : j.toNat < ys.length := by omega
          obtain ⟨A, c', cs, hv', hs, hl, hcell, hrep⟩ := hrow.elem hj
          rw [hv] at hv'
          injection hv' with ha _ _
          injection ha with ha
          subst ha
          obtain ⟨u, rfl, hrow2⟩ := hrep
          have hu := hcell 0 u rfl
          simp only [Ty.sz, Nat.mul_one, Nat.add_zero] at hu
          rw [hc] at hu
          injection hu with hu
          subst hu
          have hg : List.getD ys j.toNat [] = ys[j.toNat] := by simp [List.getD, List.getElem?_eq_getElem hj]
          rw [hg]
          exact hrow2.rd.wide (fun k hk => ⟨i, r, by simpa using hex, hr, hk⟩)
        · cases hr
      · cases hr
  | _ => simp [readSl] at hr
theorem readTree_sound (h : Rel w0 S0 st μ a w) {ex : List Nat} : ∀ {t : Ty} {l : List At} {vs : List Value} {x : t.D}, AL μ w l vs → readTree st ex t l = some x → Rd t w (okBut μ ex) x vs
  | .int k, l, vs, x, hl, hr => by
    match l, hr with
    | [.int k' n], hr =>
      simp only [readTree] at hr
      split at hr
      · rename_i hk; subst hk; injection hr with hr; subst hr
        obtain ⟨v, rfl, hv⟩ := hl.single
        rw [show v = _ from hv]; rfl
      · cases hr
  | .bool, l, vs, x, hl, hr => by
    match l, hr with
    | [.bool b], hr =>
      simp only [readTree] at hr
      injection hr with hr; subst hr
      obtain ⟨v, rfl, hv⟩ := hl.single
      rw [show v = _ from hv]; rfl
  | .str, l, vs, x, hl, hr => by
    match l, hr with
    | [.str b], hr =>
      simp only [readTree] at hr
      injection hr with hr; subst hr
      obtain ⟨v, rfl, hv⟩ := hl.single
      rw [show v = _ from hv]; rfl
  | .pair t u, l, vs, x, hl, hr => by
    simp only [readTree] at hr
    split at hr
    · rename_i y z hy hz
      injection hr with hr; subst hr
      have h1 := readTree_sound h (hl.take t.sz) hy
      have h2 := readTree_sound h (hl.drop t.sz) hz
      exact ⟨_, _, (List.take_append_drop _ _).symm, h1, h2⟩
    · cases hr
  | .slice e t, l, vs, x, hl, hr => by
    match l, hr with
    | [y], hr =>
      simp only [readTree] at hr
      obtain ⟨v, rfl, hv⟩ := hl.single
      exact ⟨v, rfl, readSl_sound h hv hr⟩
/-- The cells that lean on no content. -/
def AL0 (μ : List ORec) (w : World) (l : List At) (vs : List Value) : Prop := vs.length = l.length ∧ ∀ (j : Nat) x v, l[j]? = some x → vs[j]? = some v → x.dep = none → AR μ w x v
theorem AL.al0 {l : List At} {vs : List Value} (h : AL μ w l vs) : AL0 μ w l vs := ⟨h.1, fun j x v hx hv _ => h.2 j x v hx hv⟩
theorem AL0.take {l : List At} {vs : List Value} (n : Nat) (h : AL0 μ w l vs) : AL0 μ w (l.take n) (vs.take n) := by
  refine ⟨by simp [h.1], fun j x v hx hv hd => ?_⟩
  rw [List.getElem?_take] at hx hv
  split at hx
  · rename_i hj
    rw [if_pos hj] at hv
    exact h.2 j x v hx hv hd
  · cases hx
theorem AL0.drop {l : List At} {vs : List Value} (n : Nat) (h : AL0 μ w l vs) : AL0 μ w (l.drop n) (vs.drop n) := by
  refine ⟨by simp [h.1], fun j x v hx hv hd => ?_⟩
  rw [List.getElem?_drop] at hx hv
  exact h.2 _ x v hx hv hd
theorem AL0.single {x : At} {vs : List Value} (hd : x.dep = none) (h : AL0 μ w [x] vs) : ∃ v, vs = [v] ∧ AR μ w x v := by
  have h1 := h.1
  match vs, h1 with
  | [v], _ => exact ⟨v, rfl, h.2 0 x v rfl rfl hd⟩
/-- Objects have been taken: the others stand as they did. -/
structure Less (μ μ' : List ORec) : Prop where
  len : μ'.length = μ.length
  at_ : ∀ (i : Nat) r', μ'[i]? = some r' → ∃ r, μ[i]? = some r ∧ r'.v = r.v ∧ r'.blk = r.blk ∧ ∀ k, r'.ok k → r.ok k
  dep : ∀ x v w, x.dep = none → AR μ w x v → AR μ' w x v
theorem Less.refl (μ : List ORec) : Less μ μ := ⟨rfl, fun i r h => ⟨r, h, rfl, rfl, fun _ h => h⟩, fun _ _ _ _ h => h⟩
theorem Less.trans {μ'' : List ORec} (h : Less μ μ') (h' : Less μ' μ'') : Less μ μ'' :=
  ⟨h'.len.trans h.len, (fun i r2 h2 => by
    obtain ⟨r1, g1, e1, e2, e3⟩ := h'.at_ i r2 h2
    obtain ⟨r0, g0, f1, f2, f3⟩ := h.at_ i r1 g1
    exact ⟨r0, g0, e1.trans f1, e2.trans f2, fun k hk => f3 k (e3 k hk)⟩), fun x v w hd hx => h'.dep x v w hd (h.dep x v w hd hx)⟩
theorem Less.off (μ : List ORec) (i : Nat) : Less μ (offAt μ i) :=
  ⟨by simp [offAt], (fun j r hr => by
    obtain ⟨r0, h0, h1, h2, h3⟩ := offAt_inv hr
    refine ⟨r0, h0, h1, h2, fun k hk => ?_⟩
    rcases h3 with ⟨_, h3⟩ | ⟨_, rfl⟩
    · exact absurd hk (h3 k)
    · exact hk), (fun x v w hd hx => by
    have := hx.off i
    rwa [At.kill, if_neg (by rw [hd]; simp)] at this)⟩
theorem AL0.less (hl : Less μ μ') {l : List At} {vs : List Value} (h : AL0 μ w l vs) : AL0 μ' w l vs := ⟨h.1, fun j x v hx hv hd => hl.dep x v w hd (h.2 j x v hx hv hd)⟩
/-- What is taken lies apart from all that is left, and is new since the call's begin. -/
structure Taken (S0 : Own) (w0 w : World) (μ' : List ORec) (S : Nat → Prop) : Prop where
  new : ∀ k, S k → S0.gv k ∨ w0.heap.size ≤ k
  lt : ∀ k, S k → k < w.heap.size
  apart : ∀ (i : Nat) r, μ'[i]? = some r → ∀ k, S k → ¬ r.ok k
theorem Taken.none (S0 : Own) (w0 w : World) (μ' : List ORec) : Taken S0 w0 w μ' (fun _ => False) := ⟨fun _ h => h.elim, fun _ h => h.elim, fun _ _ _ _ h => h.elim⟩
theorem Taken.less {S : Nat → Prop} (h : Taken S0 w0 w μ S) (hl : Less μ μ') : Taken S0 w0 w μ' S := ⟨h.new, h.lt, fun i r hr k hk h2 => by
  obtain ⟨r0, g0, _, _, g3⟩ := hl.at_ i r hr
  exact h.apart i r0 g0 k hk (g3 k h2)⟩
theorem takeTree_sound : ∀ {t : Ty} {st st' : St} {μ : List ORec} {l : List At} {vs : List Value} {x : t.D}, Rel w0 S0 st μ a w → AL0 μ w l vs → takeTree t st l = some (x, st') →
    ∃ μ' S, Rel w0 S0 st' μ' a w ∧ Less μ μ' ∧ Taken S0 w0 w μ' S ∧ (∀ k, S k → ∃ (i : Nat) (r : ORec), μ[i]? = some r ∧ r.ok k) ∧ Rep t w S x vs
  | .int k, st, st', μ, l, vs, x, h, hl, hr => by
    match l, hr with
    | [.int k' n], hr =>
      simp only [takeTree] at hr
      split at hr
      · rename_i hk; subst hk; injection hr with hr; injection hr with h1 h2; subst h1 h2
        obtain ⟨v, rfl, hv⟩ := hl.single rfl
        exact ⟨μ, _, h, .refl μ, .none _ _ _ _, fun _ h => h.elim, by rw [show v = _ from hv]; rfl⟩
      · cases hr
  | .bool, st, st', μ, l, vs, x, h, hl, hr => by
    match l, hr with
    | [.bool n], hr =>
      simp only [takeTree] at hr
      injection hr with hr; injection hr with h1 h2; subst h1 h2
      obtain ⟨v, rfl, hv⟩ := hl.single rfl
      exact ⟨μ, _, h, .refl μ, .none _ _ _ _, fun _ h => h.elim, by rw [show v = _ from hv]; rfl⟩
  | .str, st, st', μ, l, vs, x, h, hl, hr => by
    match l, hr with
    | [.str n], hr =>
      simp only [takeTree] at hr
      injection hr with hr; injection hr with h1 h2; subst h1 h2
      obtain ⟨v, rfl, hv⟩ := hl.single rfl
      exact ⟨μ, _, h, .refl μ, .none _ _ _ _, fun _ h => h.elim, by rw [show v = _ from hv]; rfl⟩
  | .pair t u, st, st', μ, l, vs, x, h, hl, hr => by
    simp only [takeTree] at hr
    split at hr
    · rename_i y st1 hy
      split at hr
      · rename_i z st2 hz
        injection hr with hr; injection hr with h1 h2; subst h1 h2
        obtain ⟨μ1, Sa, r1, l1, t1, o1, p1⟩ := takeTree_sound h (hl.take t.sz) hy
        obtain ⟨μ2, Sb, r2, l2, t2, o2, p2⟩ := takeTree_sound r1 ((hl.drop t.sz).less l1) hz
        refine ⟨μ2, fun k => Sa k ∨ Sb k, r2, l1.trans l2, ⟨fun k hk => hk.elim (t1.new k) (t2.new k), fun k hk => hk.elim (t1.lt k) (t2.lt k), fun i r hr k hk => hk.elim ((t1.less l2).apart i r hr k) (t2.apart i r hr k)⟩, fun k hk => ?_, ?_⟩
        · rcases hk with hk | hk
          · exact o1 k hk
          · obtain ⟨i, r, hr, h3⟩ := o2 k hk
            obtain ⟨r0, g0, _, _, g3⟩ := l1.at_ i r hr
            exact ⟨i, r0, g0, g3 k h3⟩
        · exact ⟨_, _, Sa, Sb, (List.take_append_drop _ _).symm, p1, p2, fun k hk => ⟨.inl hk, fun h3 => by
            obtain ⟨i, r, hr, h4⟩ := o2 k h3
            exact t1.apart i r hr k hk h4⟩, fun k hk => .inr hk⟩
      · cases hr
    · cases hr
  | .slice e t, st, st', μ, l, vs, x, h, hl, hr => by
    match l, hr with
    | [y], hr =>
      simp only [takeTree] at hr
      split at hr
      · injection hr with hr; injection hr with h1 h2; subst h1 h2
        obtain ⟨v, rfl, hv⟩ := hl.single rfl
        exact ⟨μ, _, h, .refl μ, .none _ _ _ _, fun _ h => h.elim, v, rfl, by rw [show v = _ from hv]; exact Rep.nils _ _ _ _ _⟩
      · rename_i i
        split at hr
        · rename_i e' t' xs ho
          split at hr
          · rename_i ht
            subst ht
            split at hr
            · rename_i he
              subst he
              injection hr with hr; injection hr with h1 h2; subst h1 h2
              obtain ⟨v, rfl, r, hr, rfl, _⟩ := hl.single rfl
              refine ⟨offAt μ i, r.ok, h.die i, .off μ i, ⟨h.fr i _ _ _ r ho hr, h.lt i r hr, fun j q hq k hk h2 => ?_⟩, fun k hk => ⟨i, r, hr, hk⟩, _, rfl, h.ob i _ r ho hr⟩
              obtain ⟨q0, g0, _, _, g3⟩ := offAt_inv hq
              rcases g3 with ⟨_, g3⟩ | ⟨hj, rfl⟩
              · exact g3 k h2
              · exact h.dj i j _ r q (Ne.symm hj) ho rfl hr g0 k hk h2
            · cases hr
          · cases hr
        · cases hr
      · cases hr
theorem setLeaf_sound {S : Nat → Prop} : ∀ {t : Ty} {x y : t.D} {f : Nat} {c : At} {v : Value} {cs : List Value}, Rep t w S x cs → AR μ w c v → setLeaf t x f c = some y → Rep t w S y (cs.set f v)
  | .int k, x, y, f, c, v, cs, hx, hc, hr => by
    match f, c, hr with
    | 0, .int k' n, hr =>
      simp only [setLeaf] at hr
      split at hr
      · rename_i hk; subst hk; injection hr with hr; subst hr
        rw [show cs = _ from hx, show v = _ from hc]; rfl
      · cases hr
  | .bool, x, y, f, c, v, cs, hx, hc, hr => by
    match f, c, hr with
    | 0, .bool n, hr =>
      simp only [setLeaf] at hr
      injection hr with hr; subst hr
      rw [show cs = _ from hx, show v = _ from hc]; rfl
  | .str, x, y, f, c, v, cs, hx, hc, hr => by
    match f, c, hr with
    | 0, .str n, hr =>
      simp only [setLeaf] at hr
      injection hr with hr; subst hr
      rw [show cs = _ from hx, show v = _ from hc]; rfl
  | .pair t u, x, y, f, c, v, cs, hx, hc, hr => by
    simp only [setLeaf] at hr
    obtain ⟨c0, c1, Sa, Sb, rfl, h0, h1, h2, h3⟩ := hx
    have hl := h0.len
    split at hr
    · rename_i hf
      split at hr
      · rename_i z hz
        injection hr with hr; subst hr
        rw [List.set_append_left _ _ (by omega)]
        exact ⟨_, _, Sa, Sb, rfl, setLeaf_sound h0 hc hz, h1, h2, h3⟩
      · cases hr
    · rename_i hf
      split at hr
      · rename_i z hz
        injection hr with hr; subst hr
        rw [List.set_append_right _ _ (by omega), hl]
        exact ⟨_, _, Sa, Sb, rfl, h0, setLeaf_sound h1 hc hz, h2, h3⟩
      · cases hr
  | .slice e t, x, y, f, c, v, cs, hx, hc, hr => by
    unfold setLeaf at hr
    cases f <;> cases c <;> cases hr
/-- Cells overwritten one by one. -/
def setRun : List Value → Nat → List Value → List Value
  | cs, _, [] => cs
  | cs, f, v :: vs => setRun (cs.set f v) (f + 1) vs
theorem setLeaves_sound {S : Nat → Prop} {t : Ty} : ∀ {l : List At} {x y : t.D} {f : Nat} {vs : List Value} {cs : List Value}, Rep t w S x cs → AL μ w l vs → setLeaves t x f l = some y → Rep t w S y (setRun cs f vs)
  | [], x, y, f, vs, cs, hx, hl, hr => by
    simp only [setLeaves] at hr
    injection hr with hr; subst hr
    obtain rfl : vs = [] := List.eq_nil_of_length_eq_zero hl.1
    exact hx
  | c :: l, x, y, f, vs, cs, hx, hl, hr => by
    simp only [setLeaves] at hr
    split at hr
    · rename_i z hz
      match vs, hl with
      | [], hl => exact absurd hl.1 (by simp)
      | v :: vs, hl =>
        have h1 : AR μ w c v := hl.2 0 c v rfl rfl
        have h2 : AL μ w l vs := ⟨by simpa using hl.1, fun j x u hx hu => hl.2 (j + 1) x u hx hu⟩
        show Rep t w S y (setRun (cs.set f v) (f + 1) vs)
        exact setLeaves_sound (setLeaf_sound hx h1 hz) h2 hr
    · cases hr
theorem SR.cells_sound {x : SV} {v : Value} {l : List At} (h : SR μ w x v) (hl : x.cells = some l) : AL μ w l v.cells.toList := by
  cases x with
  | «at» y =>
    simp only [SV.cells] at hl
    split at hl
    · cases hl
    · rename_i hu
      injection hl with hl
      subst hl
      rcases h.2 with rfl | h2
      · simp [At.isUn] at hu
      · rw [h2]; exact .one h.1
  | agg m =>
    simp only [SV.cells] at hl
    injection hl with hl
    subst hl
    obtain ⟨vs, rfl, h⟩ := h
    simpa [Value.cells] using h
theorem TR.cells_sound {x : TV} {v : Value} {l : List At} (h : TR μ w x v) (hl : x.cells = some l) : AL μ w l v.cells.toList := by
  cases x with
  | sv y => exact SR.cells_sound h hl
  | tup m => cases hl
theorem TR.atom_sound {x : TV} {v : Value} (h : TR μ w x v) : AR μ w x.atom v := by
  cases x with
  | sv y =>
    cases y with
    | «at» y => exact h.1
    | agg l => trivial
  | tup l => trivial
theorem AR.oneCell {x : At} {v : Value} (h : AR μ w x v) (hu : x.isUn = false) : v.oneCell' = true ∧ v.cells = #[v] := by
  cases x with
  | un => cases hu
  | int k n => rw [show v = _ from h]; exact ⟨rfl, rfl⟩
  | bool => rw [show v = _ from h]; exact ⟨rfl, rfl⟩
  | str => rw [show v = _ from h]; exact ⟨rfl, rfl⟩
  | nils => rw [show v = _ from h]; exact ⟨rfl, rfl⟩
  | inn i j => obtain ⟨r, A, n, c, _, _, _, _, _, _, A', m, c', hv⟩ := h; rw [hv]; exact ⟨rfl, rfl⟩
  | snap i t xs => obtain ⟨r, _, A, c, hv, _⟩ := h; rw [hv]; exact ⟨rfl, rfl⟩
  | ptr i f => obtain ⟨r, _, hv⟩ := h; rw [hv]; exact ⟨rfl, rfl⟩
  | ep i t j f => obtain ⟨r, A, n, c, _, _, _, _, hv⟩ := h; rw [hv]; exact ⟨rfl, rfl⟩
  | es i t x f => obtain ⟨r, A, cs, _, _, hv, _⟩ := h; rw [hv]; exact ⟨rfl, rfl⟩
  | sl i => obtain ⟨r, hr, hv, A, n, c, hs⟩ := h; rw [hs]; exact ⟨rfl, rfl⟩
  | app i j t xs => obtain ⟨r, hr, g, off, n, c, e, cur, _, _, _, _, _, _, ⟨A, m, c', hs⟩, _⟩ := h; rw [hs]; exact ⟨rfl, rfl⟩
end
end Go.Proofs.Ytgpmbmnfcbippaa.Vs
