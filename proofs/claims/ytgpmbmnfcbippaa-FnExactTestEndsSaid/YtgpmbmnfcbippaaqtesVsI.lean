/- The machine's operations, on: append, literals, cuts. -/
import Derived.Test.YtgpmbmnfcbippaaqtesVsH
set_option linter.unusedVariables false
set_option linter.unusedSimpArgs false
namespace Go.Proofs.Ytgpmbmnfcbippaa.Vs
open Go.RowKit

section
variable {P : Program} {w w1 w0 : World} {S0 : Own} {st : St} {μ : List ORec} {a : Act} {t : TypeId} {i : TI}
variable {o : Oper} {next : Act → World → Prop} {Q : Exit → Act → World → Prop} {v : Value} {β : Type} {K : St → Option β} {r : β}

/-- What is appended, as the append wants it. -/
def News (w : World) (ty : Ty) (Sy : Nat → Prop) (ys : List ty.D) (vy : Value) : Prop :=
  (ys = [] ∧ ∃ B d, vy = .slice B 0 d) ∨
  (0 < ys.length ∧ ∃ (ad : Addr) (c : Nat) (news : List Value) (fy : Nat → Nat), vy = .slice (some ad) ys.length c ∧ news.length = ys.length * ty.sz ∧ (∀ j u, news[j]? = some u → w.cell? (ad.add j) = some u) ∧
    ∀ m y, ys[m]? = some y → Rep ty w (fun k => Sy k ∧ fy k = m) y (seg news ty.sz m))
theorem News.of_flat {ty : Ty} {S : Nat → Prop} {ys : List ty.D} {vy : Value} (hf : ty.flat = true) (h : RowRd (Rd ty) ty.sz w S ys vy) : News w ty (fun _ => False) ys vy := by
  obtain ⟨A, c, hv, hl, hm, hA⟩ := h
  by_cases h0 : ys = []
  · subst h0
    exact .inl ⟨rfl, A, c, hv⟩
  · have hp : 0 < ys.length := List.length_pos_iff.2 h0
    obtain ⟨ad, rfl, hs, hel⟩ := hA hp
    have hsz := ty.sz_pos
    refine .inr ⟨hp, ad, c, (List.range (ys.length * ty.sz)).map (fun q => (w.cell? (ad.add q)).getD undef), fun _ => 0, hv, by simp, fun j u hj => ?_, fun m y hy => ?_⟩
    · rw [List.getElem?_map] at hj
      obtain ⟨q, hq, rfl⟩ := Option.map_eq_some_iff.1 hj
      have hjl : j < ys.length * ty.sz := by have := (List.getElem?_eq_some_iff.1 hq).1; simpa using this
      rw [List.getElem?_range hjl] at hq
      injection hq with hq
      subst hq
      have hmj : j / ty.sz < ys.length := by rw [Nat.div_lt_iff_lt_mul hsz]; exact hjl
      obtain ⟨cs, hcl, hcell, _⟩ := hel (j / ty.sz) _ (List.getElem?_eq_getElem hmj)
      have hlt : j % ty.sz < cs.length := by rw [hcl]; exact Nat.mod_lt _ hsz
      have h3 := hcell (j % ty.sz) _ (List.getElem?_eq_getElem hlt)
      rw [Nat.mul_comm, Nat.div_add_mod] at h3
      rw [h3]
      rfl
    · obtain ⟨cs, hcl, hcell, hrd⟩ := hel m y hy
      have hml : m < ys.length := (List.getElem?_eq_some_iff.1 hy).1
      have h3 : (m + 1) * ty.sz ≤ ys.length * ty.sz := Nat.mul_le_mul_right _ hml
      rw [Nat.succ_mul] at h3
      have hseg : seg ((List.range (ys.length * ty.sz)).map (fun q => (w.cell? (ad.add q)).getD undef)) ty.sz m = cs := by
        apply List.ext_getElem?
        intro q
        simp only [seg, List.getElem?_take, List.getElem?_drop]
        by_cases hq : q < ty.sz
        · rw [if_pos hq, List.getElem?_map, List.getElem?_range (by omega), List.getElem?_eq_getElem (show q < cs.length by omega)]
          have := hcell q _ (List.getElem?_eq_getElem (show q < cs.length by omega))
          simp [this]
        · rw [if_neg hq, List.getElem?_eq_none (by omega)]
      rw [hseg]
      exact (flat_rep hf hrd).wide (fun _ hf => hf.elim)
theorem News.of_row {ty : Ty} {e : TypeId} {S : Nat → Prop} {ys : List ty.D} {vy : Value} (h : RowRep (Rep ty) ty.sz e w S ys vy) : News w ty (fun k => S k ∧ vy.ownBlock ≠ some k) ys vy := by
  obtain ⟨inner, hq, hb, f, hr⟩ := h
  obtain ⟨A, c, hv, _⟩ := q_slice hq
  by_cases h0 : ys = []
  · subst h0
    exact .inl ⟨rfl, A, c, hv⟩
  · have hp : 0 < ys.length := List.length_pos_iff.2 h0
    subst hv
    obtain ⟨ad, rfl, hcell⟩ := q_cells hq hp
    exact .inr ⟨hp, ad, c, inner, f, rfl, hq.1, hcell, fun m y hy => (hr m y hy).wide (fun k hk => ⟨⟨hk.1, hk.2.1⟩, hk.2.2⟩)⟩
theorem append_all {e ty : TypeId} {ti : TI} (hu : P.underlying t = some (.slice e)) (oke : TyOK P e ti) {S Sy : Nat → Prop} {xs ys : List ti.ty.D} {vx vy : Value} (hx : RowRep (Rep ti.ty) ti.ty.sz e w S xs vx) (hSl : ∀ k, S k → k < w.heap.size)
    (hy : News w ti.ty Sy ys vy) (hd : ∀ k, Sy k → ¬ S k) (hSyl : ∀ k, Sy k → k < w.heap.size) (hl : xs.length + ys.length ≤ lim ti.bytes) :
    ∃ v1 w1 R, (Builtin.append_ #[t, t] ty #[vx, vy]).run P w = .ok v1 w1 ∧ Chg w w1 S ∧ RowRep (Rep ti.ty) ti.ty.sz e w1 R (xs ++ ys) v1 ∧ (∀ k, R k → (S k ∨ Sy k ∨ w.heap.size ≤ k) ∧ k < w1.heap.size) ∧ RowRep (Rep ti.ty) ti.ty.sz e w1 S xs vx := by
  rcases hy with ⟨rfl, B, d, rfl⟩ | ⟨hne, ad, c, news, fy, rfl, hnl, hnc, hny⟩
  · obtain ⟨A, c, rfl, hc, _⟩ := row_val hx
    exact ⟨_, w, S, append_nothing hu oke hc, .refl w S, by rw [List.append_nil]; exact hx, fun k hk => ⟨.inl hk, hSl k hk⟩, hx⟩
  · obtain ⟨v1, w1, hrun, hg, hb, hrow, hold⟩ := append_core hu oke hx hSl hne hnl hnc hny hd hSyl hl (ty := ty)
    exact ⟨v1, w1, _, hrun, .of_grown hg hb, hrow, fun k hk => hk, hold⟩
theorem append_op0 {x y : Operand} {e : TypeId} {ti : TI} {K' : St → Option β} (T : TT) (hT : TTok P T) (h : Rel w0 S0 st μ a w) (ho : o.op = .call { callee := .builtin .append, args := #[x, y], argTypes := #[t, t] }) (hi : T.get t = some i) (hie : i.d = .slice e) (hte : T.get e = some ti)
    (hk : opAppend0 e ti st o.dst (st.ev x).atom (st.ev y).atom K' = some r) : o.wp P a w (Nx w0 S0 K' r) Q := by
  have ok := hT t i hi
  have oke := hT e ti hte
  have hu : P.underlying t = some (.slice e) := by have := ok.desc; rw [hie] at this; exact this
  have hx := h.atom x
  have hy := h.atom y
  have fin : ∀ {st2 : St} {μ2 : List ORec} {Tk R : Nat → Prop} {fr : Bool} {zs : List ti.ty.D} {v1 : Value} {w1 : World}, Rel w0 S0 st2 μ2 a w → (Builtin.append_ #[t, t] o.type #[a.eval x, a.eval y]).run P w = .ok v1 w1 →
      (∀ (j : Nat) q, μ2[j]? = some q → ∀ k, Tk k → ¬ q.ok k) → (∀ k, Tk k → S0 k ∨ w0.heap.size ≤ k) → Chg w w1 Tk → (∀ k, R k → (Tk k ∨ w.heap.size ≤ k) ∧ k < w1.heap.size) → RowRep (Rep ti.ty) ti.ty.sz e w1 R zs v1 → (fr = true → ∀ k, Tk k → S0.gv k ∨ w0.heap.size ≤ k) →
      K' (st2.mk1 o.dst (.row fr e ti.ty zs) (.sl st2.objs.length)) = some r → o.wp P a w (Nx w0 S0 K' r) Q := by
    intro st2 μ2 Tk R fr zs v1 w1 h2 hrun hA hS hc hR hrow hf hk
    have hrun2 : (execOp a.eval o).run P w = .ok (.value v1) w1 := by
      unfold execOp
      simp only [ho, resolve, invoke, builtin, Sem.run_bind, Sem.run_pure, Result.andThen_ok, List.map_toArray, List.map_cons, List.map_nil, hrun]
    exact wp_val hrun2 ⟨_, _, h2.pushRow hA hS hc hR hrow hf o.dst, hk⟩
  -- the new elements
  have news : ∀ {ys : List ti.ty.D} {st1 : St}, (if ti.ty.flat then (readSl st [] ti.ty (st.ev y).atom).map (fun ys => (ys, st)) else takeTree (.slice e ti.ty) st [(st.ev y).atom]) = some (ys, st1) →
      ∃ μ1 Sy, Rel w0 S0 st1 μ1 a w ∧ Less μ μ1 ∧ Taken S0 w0 w μ1 Sy ∧ News w ti.ty Sy ys (a.eval y) := by
    intro ys st1 he
    split at he
    · rename_i hf
      obtain ⟨zs, hz, he⟩ := Option.map_eq_some_iff.1 he
      injection he with h1 h2
      subst h1 h2
      exact ⟨μ, _, h, .refl μ, .none _ _ _ _, .of_flat hf (readSl_sound h hy hz)⟩
    · obtain ⟨μ1, S, h1, hl1, ht1, _, hrep⟩ := takeTree_sound h (AL.one hy).al0 he
      obtain ⟨u, hu2, hrow⟩ := hrep
      injection hu2 with hu2 _
      subst hu2
      exact ⟨μ1, _, h1, hl1, ⟨fun k hk => ht1.new k hk.1, fun k hk => ht1.lt k hk.1, fun j q hq k hk => ht1.apart j q hq k hk.1⟩, .of_row hrow⟩
  unfold opAppend0 at hk
  split at hk
  · rename_i ys st1 he
    obtain ⟨μ1, Sy, h1, hl1, ht1, hN⟩ := news he
    split at hk
    · rename_i hxa
      rw [hxa] at hx
      split at hk
      · rename_i hle
        obtain ⟨v1, w1, R, hrun, hc, hrow, hR, _⟩ := append_all (P := P) (ty := o.type) hu oke (S := fun _ => False) (xs := []) (vx := a.eval x) (by rw [show a.eval x = _ from hx]; exact Rep.nils _ _ _ _ _) (fun _ hf => hf.elim) hN (fun _ _ hf => hf) ht1.lt (by simpa using hle)
        rw [List.nil_append] at hrow
        exact fin (Tk := Sy) h1 hrun ht1.apart (fun k hk2 => ((ht1.new k hk2).imp (S0.go k) id)) (hc.wide (fun _ hf => hf.elim)) (fun k hk2 => ⟨(hR k hk2).1.elim (fun hf => False.elim hf) (fun h3 => h3), (hR k hk2).2⟩) hrow (fun _ => ht1.new) hk
      · cases hk
    · rename_i j hxa
      rw [hxa] at hx
      split at hk
      · rename_i fr e' t' xs hob
        split at hk
        · rename_i ht
          subst ht
          split at hk
          · rename_i hee
            subst hee
            split at hk
            · rename_i hle
              obtain ⟨rec, hrec, hv, _⟩ := hl1.dep (.sl j) _ w rfl hx
              have hrow0 : RowRep (Rep ti.ty) ti.ty.sz e' w rec.ok xs rec.v := h1.ob j _ rec hob hrec
              obtain ⟨v1, w1, R, hrun, hc, hrow, hR, _⟩ := append_all (P := P) (ty := o.type) hu oke (S := rec.ok) (xs := xs) (vx := a.eval x) (by rw [hv]; exact hrow0) (h1.lt j rec hrec) hN (fun k hk hk2 => ht1.apart j rec hrec k hk hk2) ht1.lt hle
              have hlen : (st1.die j).objs.length = st1.objs.length := by simp [St.die]
              rw [← hlen] at hk
              refine fin (Tk := fun k => rec.ok k ∨ Sy k) (h1.die j) hrun (fun m q hq k hk hqk => ?_) (fun k hk => hk.elim (h1.wr j _ rec hob hrec rfl k) (fun h3 => ((ht1.new k h3).imp (S0.go k) id))) (hc.wide (fun k hk => .inl hk)) (fun k hk => ⟨?_, (hR k hk).2⟩) hrow (fun hfr k hk2 => ?_) hk
              · obtain ⟨q0, g0, _, _, g3⟩ := offAt_inv hq
                rcases g3 with ⟨_, g3⟩ | ⟨hm, rfl⟩
                · exact g3 k hqk
                · rcases hk with hk | hk
                  · exact h1.dj j m _ rec q (Ne.symm hm) hob rfl hrec g0 k hk hqk
                  · exact ht1.apart m q g0 k hk hqk
              · rcases (hR k hk).1 with h3 | h3 | h3
                · exact .inl (.inl h3)
                · exact .inl (.inr h3)
                · exact .inr h3
              · subst hfr
                exact hk2.elim (h1.fr j _ _ _ rec hob hrec k) (ht1.new k)
            · cases hk
          · cases hk
        · cases hk
      · cases hk
    · cases hk
  · cases hk

/-- append to a row that lies in a row. -/
theorem append_in_op {x y : Operand} {e : TypeId} {ti : TI} {K' : St → Option β} {i0 : Nat} {j : Int} (T : TT) (hT : TTok P T) (h : Rel w0 S0 st μ a w) (ho : o.op = .call { callee := .builtin .append, args := #[x, y], argTypes := #[t, t] }) (hi : T.get t = some i) (hie : i.d = .slice e) (hte : T.get e = some ti)
    (hxa : (st.ev x).atom = .inn i0 j) (hk : opAppendIn e ti st o.dst i0 j (st.ev y).atom K' = some r) : o.wp P a w (Nx w0 S0 K' r) Q := by
  have ok := hT t i hi
  have oke := hT e ti hte
  have hu : P.underlying t = some (.slice e) := by have := ok.desc; rw [hie] at this; exact this
  have hx := h.atom x
  have hy := h.atom y
  rw [hxa] at hx
  unfold opAppendIn at hk
  split at hk
  · rename_i hf
    split at hk
    · rename_i ys hys
      split at hk
      · rename_i fr e1 e' t' zs hob
        split at hk
        · rename_i ht
          subst ht
          split at hk
          · rename_i hee
            subst hee
            split at hk
            · rename_i hle
              simp only at hk
              obtain ⟨rec, ad, n, c, hrec, hrv, h0, hjn, hokad, hcell, A0, m0, c0, hxv⟩ := hx
              have hrow0 : RowRep (Rep (.slice e' ti.ty)) (Ty.slice e' ti.ty).sz e1 w rec.ok zs rec.v := h.ob i0 _ rec hob hrec
              obtain ⟨inner, hq, hb, f, hr⟩ := hrow0
              obtain ⟨A, c2, hv2, _⟩ := q_slice hq
              have hn : n = zs.length := by
                rw [hrv] at hv2
                injection hv2
              have hj : j.toNat < zs.length := by omega
              have hxz : zs[j.toNat]? = some (List.getD zs j.toNat []) := by simp [List.getD, List.getElem?_eq_getElem hj]
              obtain ⟨hv, hseg, hin⟩ := hr j.toNat _ hxz
              have hinner : inner[j.toNat]? = some hv := by
                have := seg_at (i := 0) (u := hv) (show (seg inner (Ty.slice e' ti.ty).sz j.toNat)[0]? = some hv by rw [hseg]; rfl)
                simpa [Ty.sz] using this
              obtain ⟨ad2, hA, hcells⟩ := q_cells (by rw [← hv2]; exact hq) (show 0 < zs.length by omega)
              have had : ad2 = ad := by
                rw [hrv, hA] at hv2
                injection hv2 with h3 _ _
                injection h3 with h3
                exact h3.symm
              subst had
              have hvv : a.eval x = hv := by
                have h3 := hcells j.toNat hv hinner
                rw [hcell] at h3
                injection h3
              -- the append
              have hlt := h.lt i0 rec hrec
              have hN := News.of_flat hf (readSl_sound h hy hys)
              obtain ⟨v1, w1, R, hrun, hc, hrow, hR, hold⟩ := append_all (P := P) (ty := o.type) hu oke (S := fun k => rec.ok k ∧ rec.v.ownBlock ≠ some k ∧ f k = j.toNat) (xs := List.getD zs j.toNat []) (vx := a.eval x) (by rw [hvv]; exact hin) (fun k hk => hlt k hk.1) hN (fun _ hf _ => hf) (fun _ hf => hf.elim) hle
              have hrun2 : (execOp a.eval o).run P w = .ok (.value v1) w1 := by
                unfold execOp
                simp only [ho, resolve, invoke, builtin, Sem.run_bind, Sem.run_pure, Result.andThen_ok, List.map_toArray, List.map_cons, List.map_nil, hrun]
              have hRk : ∀ k, R k → (rec.ok k ∧ rec.v.ownBlock ≠ some k ∧ f k = j.toNat) ∨ w.heap.size ≤ k := fun k hk2 => (hR k hk2).1.elim .inl (fun h3 => h3.elim (fun h4 => h4.elim) .inr)
              have hkeep : ∀ k, rec.ok k → ¬ (rec.v.ownBlock ≠ some k ∧ f k = j.toNat) → w1.heap[k]? = w.heap[k]? := fun k hk2 hn2 => hc.block k (hlt k hk2) (fun h3 => hn2 h3.2)
              -- the outer row behind the append, as it was
              have hq1 : QRow w1 e1 (Ty.slice e' ti.ty).sz rec.v zs.length inner := q_move hq (fun k hk2 => hkeep k (hb k hk2) (fun h3 => h3.1 hk2))
              have hr1 : ∀ m z, zs[m]? = some z → Rep (.slice e' ti.ty) w1 (fun k => rec.ok k ∧ rec.v.ownBlock ≠ some k ∧ f k = m) z (seg inner (Ty.slice e' ti.ty).sz m) := by
                intro m z hm
                by_cases hmj : m = j.toNat
                · subst hmj
                  rw [hxz] at hm
                  injection hm with hm
                  subst hm
                  rw [hseg]
                  rw [hvv] at hold
                  exact ⟨hv, rfl, hold⟩
                · exact (hr m z hm).move (fun _ hk2 => hk2) (fun k hk2 => hkeep k hk2.1 (fun h3 => hmj (hk2.2.2.symm.trans h3.2)))
              -- the promise
              have hnew : Rep (.slice e' ti.ty) w1 R (List.getD zs j.toNat [] ++ ys) [v1] := ⟨v1, rfl, hrow⟩
              obtain ⟨g, cap, off, cur, s1, s2, s3, s4, s5⟩ := RowRep.store3 hq1 hb hr1 hj (new := [v1]) rfl hnew (fun k hk2 => by
                rcases hRk k hk2 with h3 | h3
                · exact .inr h3.2
                · exact .inl (fun h4 => by have := hlt k h4; omega))
              obtain ⟨A3, m3, hv3, _⟩ := row_val hrow
              -- the state
              have hs := h.kp.size
              have hcs := hc.size
              have hdis : ∀ (m : Nat) q, (offAt μ i0)[m]? = some q → ∀ k, q.ok k → ¬ rec.ok k ∧ k < w.heap.size := by
                intro m q hq2 k hqk
                obtain ⟨q0, g0, _, _, g3⟩ := offAt_inv hq2
                rcases g3 with ⟨_, g3⟩ | ⟨hm, rfl⟩
                · exact absurd hqk (g3 k)
                · exact ⟨fun hk2 => h.dj i0 m _ rec q (Ne.symm hm) hob rfl hrec g0 k hk2 hqk, h.lt m q g0 k hqk⟩
              have h1 := (h.die i0).world hc (fun m q hq2 k hqk hk2 => (hdis m q hq2 k hqk).1 hk2.1) (fun k hk2 => h.wr i0 _ rec hob hrec rfl k hk2.1)
              have hir : (offAt μ i0)[i0]? = some rec.off := by rw [offAt_same, hrec]; rfl
              have hlen : i0 < (st.die i0).objs.length := by simp [St.die]; exact (List.getElem?_eq_some_iff.1 hob).1
              have hrowO : RowRep (Rep (.slice e' ti.ty)) (Ty.slice e' ti.ty).sz e1 w1 (fun k => rec.ok k ∨ R k) zs rec.v := by
                have h9 : RowRep (Rep (.slice e' ti.ty)) (Ty.slice e' ti.ty).sz e1 w1 rec.ok zs rec.v := ⟨inner, hq1, hb, f, hr1⟩
                exact h9.imp (fun k hk2 => .inl hk2) (fun _ _ => rfl) (fun _ _ _ _ _ hT2 h3 => h3.wide hT2)
              have h2 := h1.revive (o' := .row fr e1 (.slice e' ti.ty) zs) (r' := ⟨rec.v, rec.blk, fun k => rec.ok k ∨ R k⟩) hir rfl rfl hlen (fun _ _ _ => hrowO)
                (fun m q hm hq2 k hk2 hqk => by
                  have hd := hdis m q hq2 k hqk
                  rcases hk2 with h3 | h3
                  · exact hd.1 h3
                  · rcases hRk k h3 with h4 | h4
                    · exact hd.1 h4.1
                    · have := hd.2; omega)
                (fun k hk2 => by
                  rcases hk2 with h3 | h3
                  · exact h.wr i0 _ rec hob hrec rfl k h3
                  · rcases hRk k h3 with h4 | h4
                    · exact h.wr i0 _ rec hob hrec rfl k h4.1
                    · right; omega)
                (fun e2 t2 xs2 he2 k hk2 => by
                  have hfr : fr = true := by cases he2; rfl
                  subst hfr
                  rcases hk2 with h3 | h3
                  · exact h.fr i0 _ _ _ rec hob hrec k h3
                  · rcases hRk k h3 with h4 | h4
                    · exact h.fr i0 _ _ _ rec hob hrec k h4.1
                    · right; omega)
                (fun k hk2 => by
                  rcases hk2 with h3 | h3
                  · have := hlt k h3; omega
                  · exact (hR k h3).2)
              have hset : ((offAt μ i0).set i0 ⟨rec.v, rec.blk, fun k => rec.ok k ∨ R k⟩)[i0]? = some ⟨rec.v, rec.blk, fun k => rec.ok k ∨ R k⟩ := by
                have : i0 < (offAt μ i0).length := (List.getElem?_eq_some_iff.1 hir).1
                rw [List.getElem?_set_self this]
              have h3 := h2.put o.dst (x := .sv (.at (.app i0 j (.slice e' ti.ty) (List.set (α := (Ty.slice e' ti.ty).D) zs j.toNat (List.getD zs j.toNat [] ++ ys))))) (v := v1)
                ⟨⟨_, hset, g, off, zs.length, cap, e1, cur, s1, h0, by omega, .inl s3, s2, by simpa using s4, ⟨A3, _, m3, hv3⟩, s5⟩, .inr (by rw [hv3]; rfl)⟩
              exact wp_val hrun2 ⟨_, _, h3, hk⟩
            · cases hk
          · cases hk
        · cases hk
      · cases hk
    · cases hk
  · cases hk
theorem append_op {x y : Operand} {e : TypeId} {ti : TI} {K' : St → Option β} (T : TT) (hT : TTok P T) (h : Rel w0 S0 st μ a w) (ho : o.op = .call { callee := .builtin .append, args := #[x, y], argTypes := #[t, t] }) (hi : T.get t = some i) (hie : i.d = .slice e) (hte : T.get e = some ti)
    (hk : opAppend e ti st o.dst (st.ev x).atom (st.ev y).atom K' = some r) : o.wp P a w (Nx w0 S0 K' r) Q := by
  unfold opAppend at hk
  split at hk
  · rename_i i0 j hin
    have hxa : (st.ev x).atom = .inn i0 j := by
      unfold innOf at hin
      split at hin
      · rename_i h1
        injection hin with h2
        injection h2 with h2 h3
        subst h2 h3
        exact h1
      · cases hin
    exact append_in_op T hT h ho hi hie hte hxa hk
  · exact append_op0 T hT h ho hi hie hte hk

/-! ### A slice's literal -/
def opBuildSlice (e : TypeId) (ti : TI) (st : St) (dst : Option Tmp) (len : Nat) (ps : List (Nat × Operand)) (K : St → Option β) : Option β :=
  if ps.length = len ∧ len * ti.ty.sz ≤ 16777216 then match fillElems ti.ty 0 st ps with
    | some (ys, st1) => K (st1.mk1 dst (.row true e ti.ty ys) (.sl st1.objs.length))
    | none => none
  else none
theorem fill_foldl (sz : Nat) : ∀ (vs : List Value) (off : Nat) (cs : Array Value), off + vs.length ≤ cs.size →
    ((vs.zipIdx.foldl (fun (cs : Array Value) (p : Value × Nat) => cs.setIfInBounds (off + p.2) p.1) cs).toList = setw cs.toList off vs) := by
  have gen : ∀ (vs : List Value) (off n : Nat) (cs : Array Value), off + n + vs.length ≤ cs.size →
      ((vs.zipIdx n).foldl (fun (cs : Array Value) (p : Value × Nat) => cs.setIfInBounds (off + p.2) p.1) cs).toList = setw cs.toList (off + n) vs := by
    intro vs
    induction vs with
    | nil => intro off n cs _; simp [setw]
    | cons v vs ih =>
      intro off n cs h
      simp only [List.length_cons] at h
      simp only [List.zipIdx_cons, List.foldl_cons]
      rw [ih off (n + 1) _ (by simp; omega), Array.toList_setIfInBounds, ← setRun_eq _ _ _ (by simp; omega), ← setRun_eq _ _ _ (by simp; omega)]
      rfl
  intro vs off cs h
  exact gen vs off 0 cs h
end
end Go.Proofs.Ytgpmbmnfcbippaa.Vs
