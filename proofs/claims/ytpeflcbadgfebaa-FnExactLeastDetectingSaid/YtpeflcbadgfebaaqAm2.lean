/- The proof, part 3. -/
import Derived.Test.YtpeflcbadgfebaaqAm1
import Derived.Laws.BytesString
import Derived.Laws.Strings
set_option linter.unusedVariables false
set_option linter.unusedSimpArgs false
namespace Go.Proofs.Ytpeflcbadgfebaa.Vs
open Go.RowKit
section
variable {β : Type}
def ipAddr (i : TI) (st : St) (x : At) (n : Int) (K : At → Option β) : Option β :=
 match x with
 | .inn j q => match st.objs[j]? with
  | some (.row _ _ (.slice _ t) xs) => if t = i.ty then inRange n (xs.getD q.toNat []).length (K (.ip j q t n 0)) else none
  | _ => none
 | _ => none
def storeIp (i : TI) (st : St) (j : Nat) (q : Int) (u : Ty) (n : Int) (f : Nat) (v : TV) (K : St → Option β) : Option β :=
  match v.cells with
  | some l => if l.length = i.ty.sz ∧ l.all (fun x => !x.isUn) ∧ f + l.length ≤ u.sz then
      match st.objs[j]? with
      | some (.row fr e (.slice e' t') zs) => if h : t' = u then
          match setLeaves u (List.getD (List.getD (h ▸ zs : List (List u.D)) q.toNat []) n.toNat u.zero) f l with
          | some y => K { st.kill j with objs := (st.kill j).objs.set j (.row fr e (.slice e' u) (List.set (α := (Ty.slice e' u).D) (h ▸ zs : List (List u.D)) q.toNat (List.set (List.getD (h ▸ zs : List (List u.D)) q.toNat []) n.toNat y))) }
          | none => none
        else none
      | _ => none
    else none
  | none => none
def sliceIn (e : TypeId) (ti : TI) (st : St) (dst : Option Tmp) (x : At) (lo hi : Option TV) (K : St → Option β) : Option β :=
 match x with
 | .inn i j => match st.objs[i]? with
  | some (.row _ _ (.slice e' t') zs) => if t' = ti.ty ∧ e' = e ∧ hi.isNone = true then cutAt lo hi (List.getD zs j.toNat []).length fun a _ => K (st.put dst (.sv (.at (.app i j (.slice e' t') (List.set (α := (Ty.slice e' t').D) zs j.toNat ((List.getD zs j.toNat []).drop a)))))) else none
  | _ => none
 | _ => none
def takeEp (i : TI) (st : St) (j : Nat) (u : Ty) (q : Int) (dst : Option Tmp) (K : St → Option β) : Option β :=
  match st.objs[j]? with
  | some (.row true e t xs) => if h : t = u then if u = i.ty then
      K ((giveTree u (List.getD (h ▸ xs : List u.D) q.toNat u.zero) (st.die j)).2.put dst (mkV i (giveTree u (List.getD (h ▸ xs : List u.D) q.toNat u.zero) (st.die j)).1)) else none else none
  | _ => none
end
section
variable {P : Program} {w w1 w0 : World} {S0 : Own} {st : St} {μ : List ORec} {a : Act} {o : Oper} {t : TypeId} {i : TI} {β : Type} {r : β} {Q : Exit → Act → World → Prop}
theorem RowRep.storeIn {u : Ty} {e e' : TypeId} {S : Nat → Prop} {zs : List (List u.D)} {vr : Value} (h : RowRep (Rep (.slice e' u)) 1 e w S zs vr) {q : Nat} (hq : q < zs.length) {n : Nat} (hn : n < (zs[q]).length) {f : Nat} {new : List Value} {y : u.D} (hf : f + new.length ≤ u.sz)
    (hs : ∀ T cs, Rep u w T (zs[q])[n] cs → Rep u w T y (Vs.setw cs f new)) :
    ∃ ad m c g off cap cur, vr = .slice (some ad) m c ∧ w.cell? (ad.add q) = some (.slice (some ⟨g, off * u.sz, none⟩) (zs[q]).length cap) ∧ w.heap[g]? = some (.cells cur e' (0, 0)) ∧ S g ∧ off * u.sz + (n * u.sz + f) + new.length ≤ cur.size ∧
      RowRep (Rep (.slice e' u)) 1 e (w.setRow g (Vs.setw cur.toList (off * u.sz + (n * u.sz + f)) new).toArray) S (List.set zs q (List.set (zs[q]) n y)) vr := by
  have hrow : RowRep (Rep (.slice e' u)) (Ty.slice e' u).sz e w S zs vr := h
  obtain ⟨A, c', cs0, hv', hs0, hl0, hcell, hrep0⟩ := hrow.elem hq
  obtain ⟨inner, hqr, hb, ff, hr⟩ := h
  obtain ⟨v, hv, hin⟩ := hr q zs[q] (List.getElem?_eq_getElem hq)
  obtain ⟨g, cap, off, cur, hvs, hh, ⟨hSg, hne, hfq⟩, hfit, hrow2⟩ := RowRep.store hin hn hf hs
  have hlen := hqr.1
  have hv0 : inner[q * 1]? = some v := by
    have := Zid (inner := inner) (sz := 1) (j := q) (i := 0) (u := v) (by rw [hv]; rfl)
    simpa using this
  have hc : w.cell? (A.add q) = some v := by
    obtain ⟨ad, hA, hcells⟩ := Zbv (A := some A) (c := c') (by rw [← hv']; exact hqr) (by omega)
    injection hA with hA
    subst hA
    have := hcells (q * 1) v hv0
    simpa using this
  refine ⟨A, _, c', g, off, cap, cur, hv', by rw [hc, hvs], hh, hSg, hfit, inner, ?_, hb, ff, fun j x hj => ?_⟩
  · rw [List.length_set]
    exact Zij hqr (fun k hk => setRow_other w g k _ (fun he => hne (by rw [hk, he])))
  · rw [List.getElem?_set] at hj
    split at hj
    · rename_i hjq
      subst hjq
      injection hj with hj
      subst hj
      exact ⟨v, hv, hrow2⟩
    · rename_i hjq
      exact (hr j x hj).move (fun k hk => hk) (fun k hk => setRow_other w g k _ (fun he => hjq (by rw [← hfq, ← he]; exact hk.2.2)))
theorem ZBP {x y : Operand} {e : TypeId} {ti : TI} {k : IntKind} {n : Int} {K : At → Option β} {K' : St → Option β} (T : TT) (hT : TTok P T) (h : Rel w0 S0 st μ a w) (ho : o.op = .indexAddr t x y) (hi : T.get t = some i) (hie : i.d = .slice e) (hte : T.get e = some ti)
    (hn : st.ev y = .sv (.at (.int k n))) (hk : ipAddr ti st (st.ev x).atom n K = some r) (hK : ∀ x, K x = some r → K' (st.put o.dst (.sv (.at x))) = some r) : Went P o a w (Nx w0 S0 K' r) := by
  have ok := hT.1 t i hi
  have oke := hT.1 e ti hte
  have hu : P.underlying t = some (.slice e) := by have := ok.desc; rw [hie] at this; exact this
  have hy : a.eval y = .int k n := h.at hn
  have ha := h.atom x
  unfold ipAddr at hk
  split at hk
  · rename_i j q hx
    rw [hx] at ha
    split at hk
    · rename_i fr e' e2 t' xs hob
      split at hk
      · rename_i ht
        subst ht
        obtain ⟨h0, h1, hk⟩ := Z5x hk
        obtain ⟨rec, ad0, n0, c0, hrec, hv0, hq0, hq1, hok0, hcell0, A', m', c1, hv1⟩ := ha
        have hR : RowRep (Rep (.slice e2 ti.ty)) (Ty.slice e2 ti.ty).sz e' w rec.ok xs rec.v := h.ob j _ rec hob hrec
        have hlen : n0 = xs.length := by
          obtain ⟨inner, hqr, _⟩ := hR
          obtain ⟨A', c', hv', _⟩ := Z1b hqr
          rw [hv0] at hv'
          injection hv'
        have hjx : q.toNat < xs.length := by omega
        obtain ⟨A, c', cs, hv', hs, hl, hcell, hrep⟩ := hR.elem hjx
        rw [hv0] at hv'
        injection hv' with hA2 _ _
        injection hA2 with hA2
        subst hA2
        obtain ⟨u, rfl, hrow2⟩ := hrep
        have hu2 := hcell 0 u rfl
        simp only [Ty.sz, Nat.mul_one, Nat.add_zero] at hu2
        rw [hcell0] at hu2
        injection hu2 with hu2
        have hg : List.getD xs q.toNat [] = xs[q.toNat] := by simp [List.getD, List.getElem?_eq_getElem hjx]
        rw [hg] at h1
        have hm : m' = (xs[q.toNat]).length := by
          obtain ⟨inner, hqr, _⟩ := hrow2
          obtain ⟨A2, c2, hv2, _⟩ := Z1b hqr
          rw [← hu2, hv1] at hv2
          injection hv2
        have hsome : ∃ b, A' = some b := by
          obtain ⟨inner, hqr, _⟩ := hrow2
          rw [← hu2, hv1, ← hm] at hqr
          obtain ⟨b, hb, _⟩ := Zbv hqr (by omega)
          exact ⟨b, hb⟩
        obtain ⟨b, rfl⟩ := hsome
        refine Zd h (v := .pointer (some (b.add (n.toNat * ti.ty.sz)))) (fun w' hw => ?_) (x := .sv (.at (.ip j q ti.ty n 0))) ⟨⟨rec, ad0, n0, c0, b, m', c1, hrec, hv0, hq0, hq1, hok0, by rw [hcell0, hv1], h0, by omega, by rw [Nat.add_zero]⟩, .inr rfl⟩ (hK _ hk)
        unfold execOp
        simp only [ho, hv1, hy, Instr.indexAt, asIntOf, Sem.run_bind, Sem.run_pure, Result.andThen_ok, run_underlying hu]
        rw [Sem.run_ite, if_pos ⟨h0, by omega⟩, Sem.run_bind, Z5A oke]
        rfl
      · cases hk
    · cases hk
  · cases hk
theorem ZAP {p x : Operand} {j : Nat} {q : Int} {u : Ty} {n : Int} {f : Nat} {K : St → Option β} (T : TT) (hT : TTok P T) (h : Rel w0 S0 st μ a w) (ho : o.op = .store t p x) (hd : o.dst = none) (hi : T.get t = some i) (hp : (st.ev p).atom = .ip j q u n f) (hk : storeIp i st j q u n f (st.ev x) K = some r) : o.wp P a w (Nx w0 S0 K r) Q := by
 have ok := hT.1 t i hi
 have ha := h.atom p
 rw [hp] at ha
 unfold storeIp at hk
 split at hk
 ·rename_i l hl
  split at hk
  ·rename_i hlu
   obtain ⟨hll, hu, hfl⟩ := hlu
   have hA := TR.cells_sound (h.ev x) hl
   have h1 := ZBI hA hu
   have hul : (a.eval x).cells.toList.length = i.ty.sz := by rw [hA.1, hll]
   split at hk
   ·rename_i fr e e' t' zs hob
    split at hk
    ·rename_i ht
     subst ht
     split at hk
     ·rename_i y hy
      obtain ⟨rec, ad0, n0, c0, b, m', c1, hrec, hv0, hq0, hq1, hok0, hcell0, hn0, hn1, hpv⟩ := ha
      have hR : RowRep (Rep (.slice e' t')) (Ty.slice e' t').sz e w rec.ok zs rec.v := h.ob j _ rec hob hrec
      have hlen : n0 = zs.length := by
       obtain ⟨inner, hqr, _⟩ := hR
       obtain ⟨A', c', hv', _⟩ := Z1b hqr
       rw [hv0] at hv'
       injection hv'
      have hjx : q.toNat < zs.length := by omega
      obtain ⟨A, c', cs, hv', hs, hl0, hcell, hrep⟩ := hR.elem hjx
      rw [hv0] at hv'
      injection hv' with hA2 _ _
      injection hA2 with hA2
      subst hA2
      obtain ⟨u, rfl, hrow2⟩ := hrep
      have hu2 := hcell 0 u rfl
      simp only [Ty.sz, Nat.mul_one, Nat.add_zero] at hu2
      rw [hcell0] at hu2
      injection hu2 with hu2
      have hm : m' = (zs[q.toNat]).length := by
       obtain ⟨inner, hqr, _⟩ := hrow2
       obtain ⟨A2, c2, hv2, _⟩ := Z1b hqr
       rw [← hu2] at hv2
       injection hv2
      have hnx : n.toNat < (zs[q.toNat]).length := by omega
      have hg : List.getD zs q.toNat [] = zs[q.toNat] := by simp [List.getD, List.getElem?_eq_getElem hjx]
      have hg2 : List.getD (zs[q.toNat]) n.toNat t'.zero = (zs[q.toNat])[n.toNat] := by simp [List.getD, List.getElem?_eq_getElem hnx]
      simp only at hy hk
      rw [hg, hg2] at hy
      rw [hg] at hk
      have hff2 : f + (a.eval x).cells.toList.length ≤ t'.sz := by rw [hA.1]; exact hfl
      obtain ⟨ad, m, c, g, off, cap, cur, hvs, hcell3, hh, hS, hfit, hrow3⟩ := RowRep.storeIn hR hjx hnx hff2 (y := y) (fun T cs hrep => by
       have h3 := Zdx hrep hA hy
       rwa [Zfl _ _ _ (by rw [hrep.len]; exact hff2)] at h3)
      rw [hv0] at hvs
      injection hvs with ha2 _ _
      injection ha2 with ha2
      subst ha2
      rw [hcell0] at hcell3
      injection hcell3 with hcell3
      injection hcell3 with hb2 _ _
      injection hb2 with hb2
      have hpp : a.eval p = .pointer (some ⟨g, off * t'.sz + (n.toNat * t'.sz + f), none⟩) := by rw [hpv, hb2, Z87]
      have hrun : (execOp a.eval o).run P w = .ok .skip (w.setRow g (Vs.setw cur.toList (off * t'.sz + (n.toNat * t'.sz + f)) (a.eval x).cells.toList).toArray) := by
       unfold execOp
       simp only [ho, hpp, Instr.storeAt, Instr.sureAddr, Sem.run_bind, Sem.run_pure, Result.andThen_ok, Zi4 ok hh (a.eval x) hul hfit h1]
      refine Zkx hrun ⟨_, μ, ?_, hk⟩
      rw [hd]
      refine h.turn (o' := .row fr e (.slice e' t') (List.set zs q.toNat (List.set (zs[q.toNat]) n.toNat y))) hob hrec rfl rfl (.setRow w g _ hS) hrow3 (fun e t xs he => ?_)
      cases he
      exact ⟨_, _, _, rfl⟩
     ·cases hk
    ·cases hk
   ·cases hk
  ·cases hk
 ·cases hk
theorem Zva {p : Operand} {j : Nat} {u : Ty} {q : Int} {K : St → Option β} (T : TT) (hT : TTok P T) (h : Rel w0 S0 st μ a w) (ho : o.op = .load t p) (hi : T.get t = some i) (hp : (st.ev p).atom = .ep j u q 0) (hk : takeEp i st j u q o.dst K = some r) : Went P o a w (Nx w0 S0 K r) := by
 have ok := hT.1 t i hi
 have ha := h.atom p
 rw [hp] at ha
 unfold takeEp at hk
 split at hk
 ·rename_i e t' xs hob
  split at hk
  ·rename_i ht
   subst ht
   split at hk
   ·rename_i hti
    obtain ⟨rec, ad, n, c, hrec, hv, h0, h1, hpv⟩ := ha
    have hrow : RowRep (Rep t') t'.sz e w rec.ok xs rec.v := h.ob j _ rec hob hrec
    have hn : n = xs.length := by
     obtain ⟨inner, hqr, _⟩ := hrow
     obtain ⟨A', c', hv', _⟩ := Z1b hqr
     rw [hv] at hv'
     injection hv'
    have hj : q.toNat < xs.length := by omega
    obtain ⟨A, c', cs, hv', hs, hl, hcell, hrep⟩ := hrow.elem hj
    rw [hv] at hv'
    injection hv' with ha2 _ _
    injection ha2 with ha2
    subst ha2
    have hg : List.getD xs q.toNat t'.zero = xs[q.toNat] := by simp [List.getD, List.getElem?_eq_getElem hj]
    simp only at hk
    rw [hg] at hk
    have hd := h.die j
    have hdis : ∀ (i : Nat) q0, (offAt μ j)[i]? = some q0 → ∀ k, rec.ok k → ¬ q0.ok k := by
     intro i q0 hq0 k hk2 hqk
     obtain ⟨q1, g0, _, _, g3⟩ := Z1i hq0
     rcases g3 with ⟨_, g3⟩ | ⟨hij, rfl⟩
     ·exact g3 k hqk
     ·exact h.dj j i _ rec q0 (Ne.symm hij) hob rfl hrec g0 k hk2 hqk
    obtain ⟨μ', hr', hA', _, _⟩ := Zbk hd hrep (fun k hk2 => ⟨h.fr j _ _ _ rec hob hrec k hk2, h.lt j rec hrec k hk2⟩) hdis
    have hlen : (giveTree t' xs[q.toNat] (st.die j)).1.length = i.ty.sz := by rw [Zqr, hti]
    refine ⟨packV i cs, fun w' hw0 => ?_, _, μ', hr'.put o.dst (Zmp ok.one hlen hA'), hk⟩
    have hw := hw0 (by rw [ho]; rfl)
    unfold execOp
    simp only [ho, hpv, Instr.loadAt, Instr.sureAddr, Sem.run_bind, Sem.run_pure, Result.andThen_ok]
    rw [Zcb ok (ad.add (q.toNat * t'.sz + 0)) cs (by rw [hl, hti]) (fun m v hm => Zdl hw (by rw [Z5t]; exact hcell m v hm))]
    rfl
   ·cases hk
  ·cases hk
 ·cases hk
theorem ZBw {x : Operand} {lo hi : Option Operand} {e : TypeId} {ti : TI} {K : St → Option β} (T : TT) (hT : TTok P T) (h : Rel w0 S0 st μ a w) (ho : o.op = .slice t x lo hi none) (hi' : T.get t = some i) (hie : i.d = .slice e) (hte : T.get e = some ti)
    (hk : sliceIn e ti st o.dst (st.ev x).atom (lo.map st.ev) (hi.map st.ev) K = some r) : Went P o a w (Nx w0 S0 K r) := by
  have ok := hT.1 t i hi'
  have oke := hT.1 e ti hte
  have hu : P.underlying t = some (.slice e) := by have := ok.desc; rw [hie] at this; exact this
  have hx := h.atom x
  unfold sliceIn at hk
  split at hk
  · rename_i i0 j hxa
    rw [hxa] at hx
    split at hk
    · rename_i fr e1 e' t' zs hob
      split at hk
      · rename_i hc
        obtain ⟨rfl, rfl, hin⟩ := hc
        obtain ⟨p, q, h1, h2, hk, hl, hh⟩ := Zdi hk
        have hhn : hi.map st.ev = none := by simpa using hin
        have hq : q = (List.getD zs j.toNat []).length := by
          rcases hh with ⟨_, hh⟩ | ⟨k, hh⟩
          · exact hh
          · rw [hhn] at hh; cases hh
        subst hq
        obtain ⟨rec, ad, n, c, hrec, hrv, h0, hjn, hokad, hcell, A0, m0, c0, hxv⟩ := hx
        have hrow0 : RowRep (Rep (.slice e' ti.ty)) (Ty.slice e' ti.ty).sz e1 w rec.ok zs rec.v := h.ob i0 _ rec hob hrec
        obtain ⟨inner, hqr, hb, f, hr⟩ := hrow0
        obtain ⟨A, c2, hv2, _⟩ := Z1b hqr
        have hn : n = zs.length := by
          rw [hrv] at hv2
          injection hv2
        have hj : j.toNat < zs.length := by omega
        have hxz : zs[j.toNat]? = some (List.getD zs j.toNat []) := by simp [List.getD, List.getElem?_eq_getElem hj]
        obtain ⟨hv, hseg, hin2⟩ := hr j.toNat _ hxz
        have hinner : inner[j.toNat]? = some hv := by
          have := Zid (i := 0) (u := hv) (show (seg inner (Ty.slice e' ti.ty).sz j.toNat)[0]? = some hv by rw [hseg]; rfl)
          simpa [Ty.sz] using this
        obtain ⟨ad2, hA, hcells⟩ := Zbv (by rw [← hv2]; exact hqr) (show 0 < zs.length by omega)
        have had : ad2 = ad := by
          rw [hrv, hA] at hv2
          injection hv2 with h3 _ _
          injection h3 with h3
          exact h3.symm
        subst had
        have hvv : a.eval x = hv := by
          have h3 := hcells j.toNat hv hinner
          rw [hcell] at h3
          injection h3
        obtain ⟨A3, m3, hv3, hc3, _⟩ := Za5 hin2
        have hrun := Zla hu oke h ho (hvv.trans hv3) hc3 h1 h2 hl hh
        have hin3 := hin2
        rw [hv3] at hin3
        have hdr := hin3.drop h1 rfl
        have hnew : Rep (.slice e' ti.ty) w (fun k => rec.ok k ∧ rec.v.ownBlock ≠ some k ∧ f k = j.toNat) ((List.getD zs j.toNat []).drop p) [_] := ⟨_, rfl, hdr⟩
        obtain ⟨g, cap, off, cur, s1, s2, s3, s4, s5⟩ := RowRep.store3 hqr hb hr hj rfl hnew (fun k hk2 => .inr hk2.2)
        have s6 := RowRep.imp (R' := Rep (.slice e' ti.ty)) (S' := rec.ok) s5 (fun k hk2 => hk2.elim id (fun h3 => h3.1)) (fun _ _ => rfl) (fun T T' x cs _ hT2 h3 => h3.wide hT2)
        refine ⟨_, hrun, _, μ, h.put o.dst (x := .sv (.at (.app i0 j (.slice e' ti.ty) (List.set (α := (Ty.slice e' ti.ty).D) zs j.toNat ((List.getD zs j.toNat []).drop p))))) ?_, hk⟩
        exact ⟨⟨rec, hrec, g, off, zs.length, cap, e1, cur, s1, h0, by omega, s3, s2, by simpa using s4, ⟨_, _, _, rfl⟩, s6⟩, .inr rfl⟩
      · cases hk
    · cases hk
  · cases hk
end
end Go.Proofs.Ytpeflcbadgfebaa.Vs

set_option linter.unusedVariables false
set_option linter.unusedSimpArgs false
namespace Go.Proofs.Ytpeflcbadgfebaa.Vs
open Go.RowKit
def rowOK : Ty → Nat → TypeId → Ty → Bool
 | .slice e' u', f, e, u => f == 0 && e' == e && decide (u' = u)
 | .pair a b, f, e, u => if f < a.sz then rowOK a f e u else rowOK b (f - a.sz) e u
 | _, _, _, _ => false
def leafG (u : Ty) : (t : Ty) → t.D → Nat → List u.D
 | .slice _ u', xs, _ => if h : u' = u then h ▸ xs else []
 | .pair a b, x, f => if f < a.sz then leafG u a x.1 f else leafG u b x.2 (f - a.sz)
 | _, _, _ => []
def leafS (u : Ty) : (t : Ty) → t.D → Nat → List u.D → t.D
 | .slice _ u', xs, _, ys => if h : u' = u then h.symm ▸ ys else xs
 | .pair a b, x, f, ys => if f < a.sz then (leafS u a x.1 f ys, x.2) else (x.1, leafS u b x.2 (f - a.sz) ys)
 | .int _, x, _, _ => x
 | .bool, x, _, _ => x
 | .str, x, _, _ => x
def ownInf : List PK → List TV → Option (Nat × Int × Ty × Nat)
 | p :: ps, x :: xs => match p.own with
  | some q => match x.cells with
   | some l => match l[q.1]? with
    | some (.inf i j t f) => some (i, j, t, f)
    | _ => none
   | none => none
  | none => ownInf ps xs
 | _, _ => none
def readArgsF (st : St) (i : Nat) (j : Int) (t0 : Ty) (f0 : Nat) (e : TypeId) (u : Ty) (y : List u.D) : (ps : List PK) → List TV → Option (Tup ps)
  | [], [] => some ()
  | p :: ps, x :: xs => match x.cells with
    | some l => if (aggOK p.agg x && p.box.isNone) = true then
        match p.own with
        | none => match readTree st [i] p.t l with
          | some y1 => match readArgsF st i j t0 f0 e u y ps xs with
            | some ys => some (y1, ys)
            | none => none
          | none => none
        | some q => if h : q = (0, e, u) ∧ p.t = .slice e u then match l with
            | [.inf i' j' t' f'] => if i' = i ∧ j' = j ∧ t' = t0 ∧ f' = f0 then match readArgsF st i j t0 f0 e u y ps xs with
                | some ys => some (h.2 ▸ (show (Ty.slice e u).D from y), ys)
                | none => none
              else none
            | _ => none
            else none
      else none
    | none => none
  | _, _ => none
section
variable {γ : Type}
def opCallF (k : Nat) (E : CallE) (e : TypeId) (u : Ty) (st : St) (dst : Option Tmp) (xs : List TV) (K : St → Option γ) : Option γ :=
  match ownInf E.ps xs with
  | some (i, j, t0, f0) => match st.objs[i]? with
    | some (.row fr e' t1 zs) => if t0 = t1 ∧ rowOK t1 f0 e u = true ∧ giveI E.ps = false then match readArgsF st i j t1 f0 e u (leafG u t1 (List.getD zs j.toNat t1.zero) f0) E.ps xs with
        | some x => E.fn k x fun res out => match out with
          | some ⟨u3, ys⟩ => if h3 : u3 = u then K (giveRes dst E.rs res (backSt st i (.row fr e' t1 (List.set zs j.toNat (leafS u t1 (List.getD zs j.toNat t1.zero) f0 (h3 ▸ ys)))))) else none
          | none => none
        | none => none
      else none
    | _ => none
  | none => none
end
section
variable {P : Program} {w w1 w0 : World} {S0 : Own} {st : St} {μ : List ORec} {a : Act}
theorem Rep.lendAt {e : TypeId} {u : Ty} : ∀ {t : Ty} {f : Nat} {S : Nat → Prop} {x : t.D} {cs : List Value}, rowOK t f e u = true → Rep t w S x cs →
    ∃ (hv : Value) (So : Nat → Prop), (∀ k, So k → S k) ∧ cs[f]? = some hv ∧ RowRep (Rep u) u.sz e w So (leafG u t x f) hv ∧
      ∀ (w' : World) (S' : Nat → Prop) (ys : List u.D), Chg w w' So → (∀ k, S k → k < w.heap.size) → RowRep (Rep u) u.sz e w' S' ys hv → (∀ k, S' k → So k ∨ w.heap.size ≤ k) → Rep t w' (fun k => S k ∨ S' k) (leafS u t x f ys) cs
  | .int _, _, _, _, _, h1, _ => by cases h1
  | .bool, _, _, _, _, h1, _ => by cases h1
  | .str, _, _, _, _, h1, _ => by cases h1
  | .slice e' u', f, S, x, cs, h1, h => by
    simp only [rowOK, Bool.and_eq_true, beq_iff_eq, decide_eq_true_eq] at h1
    obtain ⟨⟨rfl, rfl⟩, rfl⟩ := h1
    obtain ⟨v, rfl, hrow⟩ := h
    refine ⟨v, S, fun _ hk => hk, rfl, by simpa [leafG] using hrow, fun w' S' ys hc hlt hr hS => ?_⟩
    refine ⟨v, rfl, ?_⟩
    simp only [leafS, dif_pos]
    obtain ⟨v2, hv2, h3⟩ := Rep.wide (t := .slice e' u') (S' := fun k => S k ∨ S' k) (show Rep (.slice e' u') w' S' ys [v] from ⟨v, rfl, hr⟩) (fun k hk => .inr hk)
    obtain rfl : v = v2 := by simpa using hv2
    exact h3
  | .pair ta tb, f, S, x, cs, h1, h => by
    obtain ⟨c0, c1, S0', S1', rfl, h0, h2, d0, d1⟩ := h
    have hl := h0.len
    simp only [rowOK] at h1
    by_cases hf : f < ta.sz
    · rw [if_pos hf] at h1
      obtain ⟨hv, So, hSo, hcv, hrow, hback⟩ := Rep.lendAt h1 h0
      refine ⟨hv, So, fun k hk => (d0 k (hSo k hk)).1, by rw [List.getElem?_append_left (by omega)]; exact hcv, by simp only [leafG, if_pos hf]; exact hrow, fun w' S' ys hc hlt hr hS => ?_⟩
      have hb := hback w' S' ys hc (fun k hk => hlt k (d0 k hk).1) hr hS
      refine ⟨c0, c1, fun k => S0' k ∨ S' k, S1', rfl, by simp only [leafS, if_pos hf]; exact hb, ?_, fun k hk => ?_, fun k hk => .inl (d1 k hk)⟩
      · simp only [leafS, if_pos hf]
        exact h2.move (fun _ hk => hk) (fun k hk => hc.block k (hlt k (d1 k hk)) (fun h3 => (d0 k (hSo k h3)).2 hk))
      · rcases hk with hk | hk
        · exact ⟨.inl (d0 k hk).1, (d0 k hk).2⟩
        · refine ⟨.inr hk, fun h3 => ?_⟩
          rcases hS k hk with h4 | h4
          · exact (d0 k (hSo k h4)).2 h3
          · have := hlt k (d1 k h3); omega
    · rw [if_neg hf] at h1
      obtain ⟨hv, So, hSo, hcv, hrow, hback⟩ := Rep.lendAt h1 h2
      refine ⟨hv, So, fun k hk => d1 k (hSo k hk), by rw [List.getElem?_append_right (by omega), hl]; exact hcv, by simp only [leafG, if_neg hf]; exact hrow, fun w' S' ys hc hlt hr hS => ?_⟩
      have hb := hback w' S' ys hc (fun k hk => hlt k (d1 k hk)) hr hS
      refine ⟨c0, c1, S0', fun k => S1' k ∨ S' k, rfl, ?_, by simp only [leafS, if_neg hf]; exact hb, fun k hk => ⟨.inl (d0 k hk).1, fun h3 => ?_⟩, fun k hk => hk.elim (fun h3 => .inl (d1 k h3)) .inr⟩
      · simp only [leafS, if_neg hf]
        exact h0.move (fun _ hk => hk) (fun k hk => hc.block k (hlt k (d0 k hk).1) (fun h3 => (d0 k hk).2 (hSo k h3)))
      · rcases h3 with h3 | h3
        · exact (d0 k hk).2 h3
        · rcases hS k h3 with h4 | h4
          · exact (d0 k hk).2 (hSo k h4)
          · have := hlt k (d0 k hk).1; omega
open Classical in
theorem RowRep.lendF {e e' : TypeId} {u t : Ty} {f : Nat} {S : Nat → Prop} {zs : List t.D} {vr : Value} (h : RowRep (Rep t) t.sz e' w S zs vr) (hro : rowOK t f e u = true) {j : Nat} (hj : j < zs.length) :
    ∃ (hv : Value) (So : Nat → Prop), (∀ k, So k → S k) ∧ RowRep (Rep u) u.sz e w So (leafG u t (List.getD zs j t.zero) f) hv ∧
      (∃ a c, vr = .slice (some a) zs.length c ∧ w.cell? (a.add (j * t.sz + f)) = some hv) ∧
      ∀ (w' : World) (S' : Nat → Prop) (ys : List u.D), Chg w w' So → (∀ k, S k → k < w.heap.size) → RowRep (Rep u) u.sz e w' S' ys hv → (∀ k, S' k → So k ∨ w.heap.size ≤ k) →
        RowRep (Rep t) t.sz e' w' (fun k => S k ∨ S' k) (List.set zs j (leafS u t (List.getD zs j t.zero) f ys)) vr := by
  obtain ⟨inner, hq, hb, ff, hr⟩ := h
  have hx : zs[j]? = some (List.getD zs j t.zero) := by simp [List.getD, List.getElem?_eq_getElem hj]
  obtain ⟨hv, So, hSo, hcv, hrow, hback⟩ := Rep.lendAt hro (hr j _ hx)
  have hi : inner[j * t.sz + f]? = some hv := Zid hcv
  obtain ⟨A, c, hvr, _⟩ := Z1b hq
  obtain ⟨ad, hA, hcell⟩ := Zbv (by rw [← hvr]; exact hq) (show 0 < zs.length by omega)
  refine ⟨hv, So, fun k hk => (hSo k hk).1, hrow, ⟨ad, c, by rw [hvr, hA], hcell _ hv hi⟩, ?_⟩
  intro w' S' ys hc hlt hrow' hS'
  have hown : ∀ k, vr.ownBlock = some k → k < w.heap.size ∧ w'.heap[k]? = w.heap[k]? := fun k hk => ⟨hlt k (hb k hk), hc.block k (hlt k (hb k hk)) (fun h2 => (hSo k h2).2.1 hk)⟩
  refine ⟨inner, ?_, fun k hk => .inl (hb k hk), fun k => if S' k then j else ff k, fun m x hm => ?_⟩
  · have := Zij hq (fun k hk => (hown k hk).2)
    rw [List.length_set]
    exact this
  · rw [List.getElem?_set] at hm
    by_cases hmj : j = m
    · subst hmj
      rw [if_pos rfl, if_pos hj] at hm
      injection hm with hm
      subst hm
      refine (hback w' S' ys hc (fun k hk => hlt k hk.1) hrow' hS').wide (fun k hk => ?_)
      rcases hk with hk | hk
      · refine ⟨.inl hk.1, hk.2.1, ?_⟩
        show (if S' k then j else ff k) = j
        split
        · rfl
        · exact hk.2.2
      · refine ⟨.inr hk, fun he => ?_, if_pos hk⟩
        rcases hS' k hk with h4 | h4
        · exact (hSo k h4).2.1 he
        · have := (hown k he).1; omega
    · rw [if_neg hmj] at hm
      refine (hr m x hm).move (fun k hk => ⟨.inl hk.1, hk.2.1, ?_⟩) (fun k hk => hc.block k (hlt k hk.1) (fun h2 => hmj ((hSo k h2).2.2.symm.trans hk.2.2)))
      have hn : ¬ S' k := fun hs => ?_
      · exact (if_neg hn).trans hk.2.2
      · rcases hS' k hs with h4 | h4
        · exact hmj ((hSo k h4).2.2.symm.trans hk.2.2)
        · have := hlt k hk.1; omega
theorem Zdw (h : Rel w0 S0 st μ a w) {i : Nat} {j : Int} {t0 : Ty} {f0 : Nat} {e : TypeId} {u : Ty} {y : List u.D} {So : Nat → Prop} {hv : Value} (hval : ∀ v, AR μ w (.inf i j t0 f0) v → v = hv) (hSo : RowRep (Rep u) u.sz e w So y hv) :
    ∀ {ps : List PK} {xs : List Operand} {x : Tup ps}, readArgsF st i j t0 f0 e u y ps (xs.map st.ev) = some x → ArgsR w (okBut μ [i]) So ps x (xs.map a.eval)
  | [], [], x, hr => rfl
  | [], y :: ys, x, hr => by simp [readArgsF] at hr
  | p :: ps, [], x, hr => by simp [readArgsF] at hr
  | p :: ps, z :: zs, x, hr => by
    simp only [List.map_cons, readArgsF] at hr
    split at hr
    · rename_i l hl
      split at hr
      · rename_i ha
        simp only [Bool.and_eq_true, Option.isNone_iff_eq_none] at ha
        have hA := (h.ev z).cells_sound hl
        have hsh := Za6 (h.ev z) hl ha.1
        split at hr
        · rename_i hown
          split at hr
          · rename_i y1 hy1
            split at hr
            · rename_i ys1 hys1
              injection hr with hr
              subst hr
              refine ⟨a.eval z, zs.map a.eval, rfl, hsh, ?_, Zdw h hval hSo hys1⟩
              rw [hown, ha.2]
              exact Zs h hA hy1
            · cases hr
          · cases hr
        · rename_i q hown
          split at hr
          · rename_i hq
            split at hr
            · rename_i i' j' t' f'
              split at hr
              · rename_i hij
                obtain ⟨rfl, rfl, rfl, rfl⟩ := hij
                split at hr
                · rename_i ys1 hys1
                  injection hr with hr
                  subst hr
                  obtain ⟨v, hv1, hv2⟩ := hA.single
                  obtain rfl := hval v hv2
                  refine ⟨a.eval z, zs.map a.eval, rfl, hsh, ?_, Zdw h hval hSo hys1⟩
                  rw [hown]
                  obtain ⟨rfl, hpt⟩ := hq
                  obtain ⟨pt, pa, po, pg, pb⟩ := p
                  simp only at hpt
                  subst hpt
                  refine ⟨by simp [oneLeaf], v, hv1, hSo⟩
                · cases hr
              · cases hr
            · cases hr
          · cases hr
      · cases hr
    · cases hr
theorem Zrn (h : Rel w0 S0 st μ a w) {i : Nat} {j : Int} {t0 : Ty} {f0 : Nat} {hv : Value} (hval : ∀ v, AR μ w (.inf i j t0 f0) v → v = hv) : ∀ {ps : List PK} {xs : List Operand}, ownInf ps (xs.map st.ev) = some (i, j, t0, f0) → ownV ps (xs.map a.eval) = some hv
 | [], xs, hr => by cases xs <;> simp [ownInf] at hr
 | p :: ps, [], hr => by simp [ownInf] at hr
 | p :: ps, y :: ys, hr => by
  simp only [List.map_cons, ownInf] at hr
  simp only [List.map_cons, ownV]
  split at hr
  ·rename_i q hown
   simp only [hown]
   split at hr
   ·rename_i l hl
    split at hr
    ·rename_i i' j' t' f' hj
     injection hr with hr
     injection hr with hr1 hr2
     injection hr2 with hr2 hr3
     injection hr3 with hr3 hr4
     subst hr1 hr2 hr3 hr4
     have hA := (h.ev y).cells_sound hl
     have hlt : q.1 < (a.eval y).cells.toList.length := by rw [hA.1]; exact (List.getElem?_eq_some_iff.1 hj).1
     have := hval _ (hA.2 q.1 _ _ hj (List.getElem?_eq_getElem hlt))
     rw [List.getElem?_eq_getElem hlt, this]
    ·cases hr
   ·cases hr
  ·rename_i hown
   simp only [hown]
   exact Zrn h hval hr
theorem Zt8 (h : Rel w0 S0 st μ a w) {i : Nat} {j : Int} {t0 : Ty} {f0 : Nat} : ∀ {ps : List PK} {xs : List Operand}, ownInf ps (xs.map st.ev) = some (i, j, t0, f0) → ∃ v, AR μ w (.inf i j t0 f0) v
 | [], xs, hr => by cases xs <;> simp [ownInf] at hr
 | p :: ps, [], hr => by simp [ownInf] at hr
 | p :: ps, y :: ys, hr => by
  simp only [List.map_cons, ownInf] at hr
  split at hr
  ·rename_i q hown
   split at hr
   ·rename_i l hl
    split at hr
    ·rename_i i' j' t' f' hj
     injection hr with hr
     injection hr with hr1 hr2
     injection hr2 with hr2 hr3
     injection hr3 with hr3 hr4
     subst hr1 hr2 hr3 hr4
     have hA := (h.ev y).cells_sound hl
     have hlt : q.1 < (a.eval y).cells.toList.length := by rw [hA.1]; exact (List.getElem?_eq_some_iff.1 hj).1
     exact ⟨_, hA.2 q.1 _ _ hj (List.getElem?_eq_getElem hlt)⟩
    ·cases hr
   ·cases hr
  ·exact Zt8 h hr
theorem ZCF {γ : Type} {k : Nat} {f : FuncId} {E : CallE} {pos : Nat} {e : TypeId} {u : Ty} {dst : Option Tmp} {args : List Operand} {K : St → Option γ} {r : γ} (hE : SoundAt P k f E) (h : Rel w0 S0 st μ a w)
    (hown : ownI E.ps = some (pos, e, u)) (hk : opCallF k E e u st dst (args.map st.ev) K = some r) :
    Calls P f (args.map a.eval).toArray w fun ed w' => match ed with
      | .returned v => ∃ st' μ', Rel w0 S0 st' μ' (a.put dst v) w' ∧ K st' = some r
      | _ => False := by
  have okb : ∀ (ex : List Nat) k, okBut μ ex k → k < w.heap.size := fun ex k ⟨i, q, _, hq, hk⟩ => h.lt i q hq k hk
  unfold opCallF at hk
  split at hk
  · rename_i i j t0 f0 hij
    split at hk
    · rename_i fr e' t1 zs hob
      split at hk
      · rename_i heu
        obtain ⟨rfl, hro, hgv⟩ := heu
        split at hk
        · rename_i x hx
          obtain ⟨rec, hrec⟩ := h.some_rec hob
          obtain ⟨v0, hv0⟩ := Zt8 h hij
          have hrow0 : RowRep (Rep t0) t0.sz e' w rec.ok zs rec.v := h.ob i _ rec hob hrec
          have hpl : ∀ v, AR μ w (.inf i j t0 f0) v → ∃ (ad : Addr) (n c : Nat), rec.v = .slice (some ad) n c ∧ 0 ≤ j ∧ j < n ∧ w.cell? (ad.add (j.toNat * t0.sz + f0)) = some v := by
            intro v hv
            obtain ⟨r1, ad, n, c, hr1, h1, h2, h3, _, h5, _⟩ := hv
            rw [hrec] at hr1
            injection hr1 with hr1
            subst hr1
            exact ⟨ad, n, c, h1, h2, h3, h5⟩
          obtain ⟨ad0, n0, c0, p1, p2, p3, p4⟩ := hpl v0 hv0
          have hn : n0 = zs.length := by
            obtain ⟨inner, hq, _⟩ := hrow0
            obtain ⟨A', c', hv', _⟩ := Z1b hq
            rw [p1] at hv'
            injection hv'
          have hjl : j.toNat < zs.length := by omega
          obtain ⟨hv, So, hSo, hin, ⟨ad, c, hvr, hcell⟩, hback⟩ := hrow0.lendF hro hjl
          have hval : ∀ v, AR μ w (.inf i j t0 f0) v → v = hv := by
            intro v hv1
            obtain ⟨ad1, n1, c1, q1, q2, q3, q4⟩ := hpl v hv1
            rw [hvr] at q1
            injection q1 with q1 _ _
            injection q1 with q1
            subst q1
            rw [hcell] at q4
            injection q4 with q4
            exact q4.symm
          have hA := Zdw h hval hin hx
          have hov := Zrn h hval hij
          refine (hE.calls w _ _ x _ hA (fun k hk ⟨j', q, hj, hq, hqk⟩ => ?_) (fun k hk => h.lt i rec hrec k (hSo k hk)) (okb _) (fun hn _ => by rw [hown] at hn; cases hn) (h.glob (fun k hk => h.wr i _ rec hob hrec rfl k (hSo k hk))) hk).mono fun ed w' he => ?_
          · refine h.dj i j' _ rec q (fun hij => ?_) hob rfl hrec hq k (hSo k hk) hqk
            subst hij
            simp at hj
          · cases ed with
            | returned v =>
              obtain ⟨res, out, hK, hF⟩ := he
              obtain ⟨Sr, us, hSr, rfl, hres, hout⟩ := hF.res
              obtain ⟨ys, hv2, S', rfl, hov2, hrow, hS'⟩ := hout _ hgv hown
              have hSr : ∀ k, Sr k → w.heap.size ≤ k ∧ k < w'.heap.size := fun k hk => ⟨(hSr k hk).1.elim (fun hf => by rw [hgv] at hf; cases hf.1) id, (hSr k hk).2⟩
              simp only at hK hrow
              rw [dif_pos trivial] at hK
              rw [hov] at hov2
              injection hov2 with hov2
              subst hov2
              have hs := h.kp.size
              have hS1 : ∀ k, S' k → rec.ok k ∨ w.heap.size ≤ k := fun k hk => (hS' k hk).1.imp (hSo k) id
              have hdis : ∀ (j : Nat) q, (offAt μ i)[j]? = some q → ∀ k, q.ok k → ¬ rec.ok k ∧ k < w.heap.size := by
                intro j q hq k hqk
                obtain ⟨q0, g0, _, _, g3⟩ := Z1i hq
                rcases g3 with ⟨_, g3⟩ | ⟨hj, rfl⟩
                · exact absurd hqk (g3 k)
                · exact ⟨fun hk => h.dj i j _ rec q (Ne.symm hj) hob rfl hrec g0 k hk hqk, h.lt j q g0 k hqk⟩
              have h1 := (h.die i).world hF.chg (fun j q hq k hqk hk => (hdis j q hq k hqk).1 (hSo k hk)) (fun k hk => h.wr i _ rec hob hrec rfl k (hSo k hk))
              have hir : (offAt μ i)[i]? = some rec.off := by rw [Z3O, hrec]; rfl
              have hlen : i < (st.die i).objs.length := by simp [St.die]; exact (List.getElem?_eq_some_iff.1 hob).1
              have hnew := hback w' S' ys hF.chg (h.lt i rec hrec) hrow (fun k hk => (hS' k hk).1)
              have h2 := h1.revive (o' := .row fr e' t0 (List.set zs j.toNat (leafS u t0 (List.getD zs j.toNat t0.zero) f0 ys))) (r' := ⟨rec.v, rec.blk, fun k => rec.ok k ∨ S' k⟩) hir rfl rfl hlen (fun _ _ _ => hnew) (fun j q hj hq k hk hqk => by
                  have hd := hdis j q hq k hqk
                  rcases hk with h3 | h3
                  · exact hd.1 h3
                  · rcases hS1 k h3 with h4 | h4
                    · exact hd.1 h4
                    · have := hd.2; omega)
                (fun k hk => by
                  rcases hk with h3 | h3
                  · exact h.wr i _ rec hob hrec rfl k h3
                  · rcases hS1 k h3 with h4 | h4
                    · exact h.wr i _ rec hob hrec rfl k h4
                    · right; omega)
                (fun e2 t2 xs2 he2 k hk9 => by
                  have hfr : fr = true := by cases he2; rfl
                  subst hfr
                  rcases hk9 with h3 | h3
                  · exact h.fr i _ _ _ rec hob hrec k h3
                  · rcases hS1 k h3 with h4 | h4
                    · exact h.fr i _ _ _ rec hob hrec k h4
                    · right; omega)
                (fun k hk => by
                  rcases hk with h3 | h3
                  · have := h.lt i rec hrec k h3
                    have := hF.chg.size
                    omega
                  · exact (hS' k h3).2.1)
              obtain ⟨μ', h3⟩ := Z4E h2 hres (fun k hk => ⟨.inr (by have := (hSr k hk).1; omega), (hSr k hk).2⟩) (fun j q hq k hk hqk => by
                  rw [List.getElem?_set] at hq
                  split at hq
                  · split at hq
                    · injection hq with hq
                      subst hq
                      rcases hqk with h3 | h3
                      · have := h.lt i rec hrec k h3
                        have := (hSr k hk).1
                        omega
                      · exact (hS' k h3).2.2 hk
                    · cases hq
                  · have := (hSr k hk).1
                    have := (hdis j q hq k hqk).2
                    omega) dst
              exact ⟨_, μ', h3, hK⟩
            | panicked c => exact False.elim he
            | outgrown => exact False.elim he
        · cases hk
      · cases hk
    · cases hk
  · cases hk
end
section
variable {P : Program} {w w1 w0 : World} {S0 : Own} {st : St} {μ : List ORec} {a : Act} {o : Oper} {t : TypeId} {i : TI} {β : Type} {r : β} {Q : Exit → Act → World → Prop}
def infEp (i : TI) (e : TypeId) (ti : TI) (st : St) (j : Nat) (u : Ty) (q : Int) (f : Nat) (K : At → Option β) : Option β :=
 match st.objs[j]? with
 | some (.row _ _ u' xs) => if u' = u ∧ i.isAgg = false ∧ i.ty.sz = 1 ∧ rowOK u f e ti.ty = true then K (.inf j q u f) else none
 | _ => none
theorem ZCb {p : Operand} {j : Nat} {u : Ty} {q : Int} {f : Nat} {e : TypeId} {ti : TI} {K : At → Option β} {K' : St → Option β} (T : TT) (hT : TTok P T) (h : Rel w0 S0 st μ a w) (ho : o.op = .load t p) (hi : T.get t = some i) (hp : (st.ev p).atom = .ep j u q f) (hk : infEp i e ti st j u q f K = some r) (hK : ∀ x, K x = some r → K' (st.put o.dst (.sv (.at x))) = some r) : Went P o a w (Nx w0 S0 K' r) := by
  have ok := hT.1 t i hi
  have ha := h.atom p
  rw [hp] at ha
  unfold infEp at hk
  split at hk
  · rename_i fr e' u' xs hob
    split at hk
    · rename_i hc
      obtain ⟨rfl, hag, hsz, hro⟩ := hc
      obtain ⟨rec, ad, n, c, hrec, hv, h0, h1, hpv⟩ := ha
      have hrow : RowRep (Rep u') u'.sz e' w rec.ok xs rec.v := h.ob j _ rec hob hrec
      have hn : n = xs.length := by
        obtain ⟨inner, hqr, _⟩ := hrow
        obtain ⟨A', c', hv', _⟩ := Z1b hqr
        rw [hv] at hv'
        injection hv'
      have hj : q.toNat < xs.length := by omega
      obtain ⟨A, c', cs, hv', hs, hl, hcell, hrep⟩ := hrow.elem hj
      rw [hv] at hv'
      injection hv' with ha2 _ _
      injection ha2 with ha2
      subst ha2
      obtain ⟨v, So, _, hcv, hrv, _⟩ := Rep.lendAt hro hrep
      obtain ⟨inner, hqv, _⟩ := hrv
      obtain ⟨A2, c2, hv2, _⟩ := Z1b hqv
      have hcf := hcell f v hcv
      have hpk : packV i [v] = v := by unfold packV; rw [hag]; rfl
      refine Zd h (v := packV i [v]) (fun w' hw0 => ?_) (x := .sv (.at (.inf j q u' f))) ⟨⟨rec, ad, n, c, hrec, hv, h0, h1, hs, by rw [hpk]; exact hcf, by rw [hpk]; exact ⟨_, _, _, hv2⟩⟩, .inr (by rw [hpk, hv2]; rfl)⟩ (hK _ hk)
      have hw := hw0 (by rw [ho]; rfl)
      unfold execOp
      simp only [ho, hpv, Instr.loadAt, Instr.sureAddr, Sem.run_bind, Sem.run_pure, Result.andThen_ok]
      rw [Zcb ok (ad.add (q.toNat * u'.sz + f)) [v] (by rw [hsz]; rfl) (fun m x hm => Zdl hw (by
        cases m with
        | zero => obtain rfl : v = x := by simpa using hm
                  rw [Z5t, Nat.add_zero]; exact hcf
        | succ m => simp at hm))]
      rfl
    · cases hk
  · cases hk
theorem ZBv {γ : Type} {k : Nat} {f : FuncId} {E : CallE} {o : Oper} {pos : Nat} {e : TypeId} {u : Ty} {args : Array Operand} {ats : Array TypeId} {K : St → Option γ} {r : γ} {Q : Exit → Act → World → Prop} (hE : SoundAt P k f E) (h : Rel w0 S0 st μ a w)
    (ho : o.op = .call { callee := .value (.func f), args := args, argTypes := ats }) (hown : ownI E.ps = some (pos, e, u)) (hk : opCallF k E e u st o.dst (args.toList.map st.ev) K = some r) : o.wp P a w (Nx w0 S0 K r) Q := by
  have hrun : (execOp a.eval o).run P w = .ok (.enter f (args.toList.map a.eval).toArray) w := by
    unfold execOp
    simp only [ho, resolve, Deferred.ofValue, Act.eval, Sem.run_bind, Sem.run_pure, Result.andThen_ok, invoke]
    have : (#[] ++ args.map a.eval ++ #[] : Array Value) = (args.toList.map a.eval).toArray := by apply Array.ext'; simp
    rw [this]
    exact hE.enter _ w
  unfold Oper.wp
  rw [hrun, Oper.upon_enter]
  refine (ZCF hE h hown hk).mono fun ed w' he => ?_
  cases ed with
  | returned v =>
    obtain ⟨st', μ', h3, hK⟩ := he
    exact ⟨_, μ', h3, hK⟩
  | panicked c => exact False.elim he
  | outgrown => exact False.elim he
end
end Go.Proofs.Ytpeflcbadgfebaa.Vs

set_option linter.unusedVariables false
set_option linter.unusedSimpArgs false
namespace Go.Proofs.Ytpeflcbadgfebaa.Vs
open Go.RowKit
def boxPtr : List PK → List TV → Option Nat
 | p :: ps, x :: xs => match p.box with
  | some _ => match x with
   | .sv (.at (.ptr i 0)) => some i
   | _ => none
  | none => boxPtr ps xs
 | _, _ => none
def headOK (i : Nat) : At → Bool
 | .snap j _ _ => j != i | .sl j => j != i | .nils => true | _ => false
def readBox (st : St) (i : Nat) : (t : Ty) → List At → Option t.D
 | .pair (.slice _ u) b, c :: r => if (b.flat && headOK i c) = true then match readSl st [i] u c, readTree st [i] b r with
  | some xs, some y => some (xs, y)
  | _, _ => none
  else none
 | _, _ => none
def boxNew (i : Nat) : (t : Ty) → t.D → List At → List At
 | .pair (.slice _ _) b, y, c :: _ => c :: atomsOf i b y.2
 | _, _, l => l
def readArgsB (st : St) (i : Nat) (eb : TypeId) (t : Ty) (y : t.D) : (ps : List PK) → List TV → Option (Tup ps)
  | [], [] => some ()
  | p :: ps, x :: xs => match p.own with
    | none => match p.box with
      | none => match x.cells with
        | some l => if aggOK p.agg x = true then match readTree st [i] p.t l with
            | some y1 => match readArgsB st i eb t y ps xs with
              | some ys => some (y1, ys)
              | none => none
            | none => none
          else none
        | none => none
      | some e' => if h : e' = eb ∧ p.agg = false ∧ p.t = t then match x with
        | .sv (.at (.ptr j 0)) => if j = i then match readArgsB st i eb t y ps xs with
            | some ys => some (h.2.2.symm ▸ y, ys)
            | none => none
          else none
        | _ => none
        else none
    | some _ => none
  | _, _ => none
section
variable {γ : Type}
def opCallB (k : Nat) (E : CallE) (eb : TypeId) (t : Ty) (st : St) (dst : Option Tmp) (xs : List TV) (K : St → Option γ) : Option γ :=
  match boxPtr E.ps xs with
  | some i => match st.objs[i]? with
    | some (.box e cells) => if e = eb ∧ (ownI E.ps).isNone = true ∧ giveI E.ps = false then match readBox st i t cells with
        | some y0 => match readArgsB st i eb t y0 E.ps xs with
          | some x => E.fn k x fun res out => match out with
            | some ⟨t2, [y]⟩ => if h : t2 = t then K (giveRes dst E.rs res (backSt st i (.box eb (boxNew i t (h ▸ y) cells)))) else none
            | _ => none
          | none => none
        | none => none
      else none
    | _ => none
  | none => none
end
section
variable {P : Program} {w w1 w0 : World} {S0 : Own} {st : St} {μ : List ORec} {a : Act}
theorem Zdv (h : Rel w0 S0 st μ a w) {i : Nat} {eb : TypeId} {t : Ty} {y : t.D} {So : Nat → Prop} {v0 : Value} (hval : ∀ v, AR μ w (.ptr i 0) v → v = v0) (hB : BoxA w (okBut μ [i]) So eb t y v0) :
    ∀ {ps : List PK} {xs : List Operand} {x : Tup ps}, readArgsB st i eb t y ps (xs.map st.ev) = some x → ArgsR w (okBut μ [i]) So ps x (xs.map a.eval)
  | [], [], x, hr => rfl
  | [], y :: ys, x, hr => by simp [readArgsB] at hr
  | p :: ps, [], x, hr => by simp [readArgsB] at hr
  | p :: ps, z :: zs, x, hr => by
    simp only [List.map_cons, readArgsB] at hr
    split at hr
    · rename_i hown
      split at hr
      · rename_i hbox
        split at hr
        · rename_i l hl
          split at hr
          · rename_i ha
            have hA := (h.ev z).cells_sound hl
            have hsh := Za6 (h.ev z) hl ha
            split at hr
            · rename_i y1 hy1
              split at hr
              · rename_i ys1 hys1
                injection hr with hr
                subst hr
                refine ⟨a.eval z, zs.map a.eval, rfl, hsh, ?_, Zdv h hval hB hys1⟩
                rw [hown, hbox]
                exact Zs h hA hy1
              · cases hr
            · cases hr
          · cases hr
        · cases hr
      · rename_i e' hbox
        split at hr
        · rename_i hc
          obtain ⟨rfl, hag, hpt⟩ := hc
          split at hr
          · rename_i j hz
            split at hr
            · rename_i hji
              subst hji
              split at hr
              · rename_i ys1 hys1
                injection hr with hr
                subst hr
                have hev := h.ev z
                rw [hz] at hev
                have hv := hval _ hev.1
                refine ⟨a.eval z, zs.map a.eval, rfl, ?_, ?_, Zdv h hval hB hys1⟩
                · unfold Shaped
                  rw [if_neg (by rw [hag]; exact Bool.false_ne_true)]
                  obtain ⟨g, c, r, hg, _⟩ := hB
                  rw [hv, hg]; rfl
                · rw [hown, hbox]
                  obtain ⟨pt, pa, po, pg, pb⟩ := p
                  simp only at hpt
                  subst hpt
                  rw [hv]
                  exact hB
              · cases hr
            · cases hr
          · cases hr
        · cases hr
    · cases hr
theorem Zr6 (h : Rel w0 S0 st μ a w) {i : Nat} {rec : ORec} (hrec : μ[i]? = some rec) : ∀ {ps : List PK} {xs : List Operand}, boxPtr ps (xs.map st.ev) = some i → boxV ps (xs.map a.eval) = some rec.blk
 | [], xs, hr => by cases xs <;> simp [boxPtr] at hr
 | p :: ps, [], hr => by simp [boxPtr] at hr
 | p :: ps, y :: ys, hr => by
  simp only [List.map_cons, boxPtr] at hr
  simp only [List.map_cons, boxV]
  split at hr
  ·rename_i e hb
   simp only [hb]
   split at hr
   ·rename_i j hz
    injection hr with hr
    subst hr
    have hev := h.ev y
    rw [hz] at hev
    obtain ⟨r, hr, hv⟩ := hev.1
    rw [hrec] at hr
    injection hr with hr
    subst hr
    rw [hv]
   ·cases hr
  ·rename_i hb
   simp only [hb]
   exact Zr6 h hrec hr
theorem ZCH {c c' : Value} {r r' : List Value} (h : (c :: r).toArray = (c' :: r').toArray) : c = c' ∧ r = r' := by
 have := congrArg Array.toList h
 simpa using this
theorem ZCQ {γ : Type} {k : Nat} {f : FuncId} {E : CallE} {eb : TypeId} {t : Ty} {dst : Option Tmp} {args : List Operand} {K : St → Option γ} {r : γ} (hE : SoundAt P k f E) (h : Rel w0 S0 st μ a w)
    (hbox : boxI E.ps = some (eb, t)) (hk : opCallB k E eb t st dst (args.map st.ev) K = some r) :
    Calls P f (args.map a.eval).toArray w fun ed w' => match ed with
      | .returned v => ∃ st' μ', Rel w0 S0 st' μ' (a.put dst v) w' ∧ K st' = some r
      | _ => False := by
  have okb : ∀ (ex : List Nat) k, okBut μ ex k → k < w.heap.size := fun ex k ⟨i, q, _, hq, hk⟩ => h.lt i q hq k hk
  unfold opCallB at hk
  split at hk
  · rename_i i hij
    split at hk
    · rename_i e cells hob
      split at hk
      · rename_i he
        obtain ⟨rfl, hown, hgv⟩ := he
        rw [Option.isNone_iff_eq_none] at hown
        split at hk
        · rename_i y0 hy0
          split at hk
          · rename_i x hx
            obtain ⟨rec, hrec⟩ := h.some_rec hob
            obtain ⟨hok, vs, hb, hAl, h1v⟩ := h.ob i _ rec hob hrec
            match t, y0, hy0, hx, hk, hbox with
            | .pair (.slice es u) b, y0, hy0, hx, hk, hbox =>
              match cells, vs, hAl, hy0, hk, hob, hb, h1v with
              | [], vs, hAl, hy0, hk, hob, hb, h1v => simp [readBox] at hy0
              | c :: cr, [], hAl, hy0, hk, hob, hb, h1v => have := hAl.1; simp at this
              | c :: cr, vc :: vr, hAl, hy0, hk, hob, hb, h1v =>
                simp only [readBox] at hy0
                split at hy0
                · rename_i hflat
                  simp only [Bool.and_eq_true] at hflat
                  obtain ⟨hflat, hhead⟩ := hflat
                  split at hy0
                  · rename_i xs0 yb hxs hyb
                    injection hy0 with hy0
                    subst hy0
                    have hAc : AR μ w c vc := hAl.2 0 c vc rfl rfl
                    have hAr : AL μ w cr vr := ⟨by have := hAl.1; simpa using this, fun j x v hx hv => hAl.2 (j + 1) x v (by simpa using hx) (by simpa using hv)⟩
                    have hrd := Z78 h hAc hxs
                    have hrep := Z9G (S := okBut μ [i]) hflat (Zs h hAr hyb)
                    have hBA : BoxA w (okBut μ [i]) (fun k => k = rec.blk) e (.pair (.slice es u) b) (xs0, yb) (.pointer (some ⟨rec.blk, 0, none⟩)) := ⟨rec.blk, vc, vr, rfl, rfl, hb, hflat, hrd, hrep⟩
                    have hval : ∀ v, AR μ w (.ptr i 0) v → v = .pointer (some ⟨rec.blk, 0, none⟩) := by
                      intro v hv
                      obtain ⟨q, hq, hv⟩ := hv
                      rw [hrec] at hq
                      injection hq with hq
                      rw [hv, hq]
                    have hA := Zdv h hval hBA hx
                    have hbv := Zr6 h hrec hij
                    have hlt := h.lt i rec hrec
                    refine (hE.calls w _ _ x _ hA (fun k hk ⟨j', q, hj, hq, hqk⟩ => ?_) (fun k hk => by rw [hk]; exact hlt _ hok) (okb _) (fun _ hn => by rw [hbox] at hn; cases hn) (h.glob (fun k hk => by rw [hk]; exact h.wr i _ rec hob hrec rfl _ hok)) hk).mono fun ed w' he => ?_
                    · subst hk
                      refine h.dj i j' _ rec q (fun hij => ?_) hob rfl hrec hq rec.blk hok hqk
                      subst hij
                      simp at hj
                    · cases ed with
                      | returned v =>
                        obtain ⟨res, out, hK, hF⟩ := he
                        obtain ⟨Sr, us, hSr, rfl, hres, _⟩ := hF.res
                        obtain ⟨g, c1, r1, r2, y, rfl, hbv2, hh1, hh2, hBE⟩ := hF.box _ _ hbox
                        have hSr : ∀ k, Sr k → w.heap.size ≤ k ∧ k < w'.heap.size := fun k hk => ⟨(hSr k hk).1.elim (fun hf => by rw [hgv] at hf; cases hf.1) id, (hSr k hk).2⟩
                        rw [hbv] at hbv2
                        injection hbv2 with hbv2
                        subst hbv2
                        rw [hb] at hh1
                        injection hh1 with hh1
                        injection hh1 with hh1 _ _
                        obtain ⟨rfl, rfl⟩ := ZCH hh1
                        simp only at hK
                        rw [dif_pos trivial] at hK
                        have hs := h.kp.size
                        have hrep2 : Rep b w' (fun _ => False) y.2 r2 := hBE
                        have hdis : ∀ (j : Nat) q, (offAt μ i)[j]? = some q → ∀ k, q.ok k → ¬ rec.ok k ∧ k < w.heap.size := by
                          intro j q hq k hqk
                          obtain ⟨q0, g0, _, _, g3⟩ := Z1i hq
                          rcases g3 with ⟨_, g3⟩ | ⟨hj, rfl⟩
                          · exact absurd hqk (g3 k)
                          · exact ⟨fun hk => h.dj i j _ rec q (Ne.symm hj) hob rfl hrec g0 k hk hqk, h.lt j q g0 k hqk⟩
                        have h1 := (h.die i).world hF.chg (fun j q hq k hqk hk => (hdis j q hq k hqk).1 (by rw [hk]; exact hok)) (fun k hk => by rw [hk]; exact h.wr i _ rec hob hrec rfl _ hok)
                        have hir : (offAt μ i)[i]? = some rec.off := by rw [Z3O, hrec]; rfl
                        have hlen : i < (st.die i).objs.length := by simp [St.die]; exact (List.getElem?_eq_some_iff.1 hob).1
                        have h2 := h1.revive (o' := .box e (c :: atomsOf i b y.2)) (r' := ⟨rec.v, rec.blk, rec.ok⟩) hir rfl rfl hlen (fun μ' hμ1 hμ2 => by
                            refine ⟨hok, vc :: r2, hh2, ?_, fun u hu => ?_⟩
                            · have hc' : AR μ' w' c vc := by
                                have mv : ∀ j q, j ≠ i → μ[j]? = some q → μ'[j]? = some q ∧ ∀ k, q.ok k → w'.heap[k]? = w.heap[k]? := fun j q hj hq => by
                                  have hq2 : (offAt μ i)[j]? = some q := by rw [Z2h (Ne.symm hj)]; exact hq
                                  refine ⟨by rw [hμ1 j hj]; exact hq2, fun k hk => hF.chg.block k (h.lt j q hq k hk) (fun hkb => (hdis j q hq2 k hk).1 (by rw [hkb]; exact hok))⟩
                                cases c with
                                | snap j t xs =>
                                  simp only [headOK, bne_iff_ne, ne_eq] at hhead
                                  obtain ⟨q, hq, hx⟩ := hAc
                                  obtain ⟨m1, m2⟩ := mv j q hhead hq
                                  have := AR.move (μ := μ) (w := w) (w1 := w') (x := .snap j t xs) (v := vc) ⟨q, hq, hx⟩ (fun i2 q2 hd hq2 => by
                                    injection hd with hd
                                    subst hd
                                    rw [hq] at hq2
                                    injection hq2 with hq2
                                    subst hq2
                                    exact m2)
                                  obtain ⟨q3, hq3, hx3⟩ := this
                                  rw [hq] at hq3
                                  injection hq3 with hq3
                                  subst hq3
                                  exact ⟨q, m1, hx3⟩
                                | sl j =>
                                  simp only [headOK, bne_iff_ne, ne_eq] at hhead
                                  obtain ⟨q, hq, hx⟩ := hAc
                                  exact ⟨q, (mv j q hhead hq).1, hx⟩
                                | nils => exact hAc
                                | _ => cases hhead
                              have hr' : AL μ' w' (atomsOf i b y.2) r2 := AL.of_rd hμ2 (hrep2.rd.wide (fun _ hf => hf.elim))
                              refine ⟨by have := hr'.1; simp [this], fun j x v hx hv => ?_⟩
                              cases j with
                              | zero =>
                                obtain rfl : c = x := by simpa using hx
                                obtain rfl : vc = v := by simpa using hv
                                exact hc'
                              | succ j => exact hr'.2 j x v (by simpa using hx) (by simpa using hv)
                            · rcases List.mem_cons.1 hu with rfl | hu
                              · exact h1v _ (List.mem_cons_self ..)
                              · exact hrep2.one u hu)
                          (fun j q hj hq k hk hqk => (hdis j q hq k hqk).1 hk)
                          (fun k hk => h.wr i _ rec hob hrec rfl k hk)
                          (fun e2 t2 xs2 he2 => by cases he2)
                          (fun k hk => Nat.lt_of_lt_of_le (hlt k hk) hF.chg.size)
                        obtain ⟨μ', h3⟩ := Z4E h2 hres (fun k hk => ⟨.inr (by have := (hSr k hk).1; omega), (hSr k hk).2⟩) (fun j q hq k hk hqk => by
                            rw [List.getElem?_set] at hq
                            split at hq
                            · split at hq
                              · injection hq with hq
                                subst hq
                                have := hlt k hqk
                                have := (hSr k hk).1
                                omega
                              · cases hq
                            · have := (hSr k hk).1
                              have := (hdis j q hq k hqk).2
                              omega) dst
                        exact ⟨_, μ', h3, hK⟩
                      | panicked c => exact False.elim he
                      | outgrown => exact False.elim he
                  · cases hy0
                · cases hy0
            | .pair (.int _) b, y0, hy0, hx, hk, hbox => simp [readBox] at hy0
            | .pair .bool b, y0, hy0, hx, hk, hbox => simp [readBox] at hy0
            | .pair .str b, y0, hy0, hx, hk, hbox => simp [readBox] at hy0
            | .pair (.pair _ _) b, y0, hy0, hx, hk, hbox => simp [readBox] at hy0
            | .int _, y0, hy0, hx, hk, hbox => simp [readBox] at hy0
            | .bool, y0, hy0, hx, hk, hbox => simp [readBox] at hy0
            | .str, y0, hy0, hx, hk, hbox => simp [readBox] at hy0
            | .slice _ _, y0, hy0, hx, hk, hbox => simp [readBox] at hy0
          · cases hk
        · cases hk
      · cases hk
    · cases hk
  · cases hk
theorem ZBg {γ : Type} {k : Nat} {f : FuncId} {E : CallE} {o : Oper} {eb : TypeId} {t : Ty} {args : Array Operand} {ats : Array TypeId} {K : St → Option γ} {r : γ} {Q : Exit → Act → World → Prop} (hE : SoundAt P k f E) (h : Rel w0 S0 st μ a w)
    (ho : o.op = .call { callee := .value (.func f), args := args, argTypes := ats }) (hbox : boxI E.ps = some (eb, t)) (hk : opCallB k E eb t st o.dst (args.toList.map st.ev) K = some r) : o.wp P a w (Nx w0 S0 K r) Q := by
  have hrun : (execOp a.eval o).run P w = .ok (.enter f (args.toList.map a.eval).toArray) w := by
    unfold execOp
    simp only [ho, resolve, Deferred.ofValue, Act.eval, Sem.run_bind, Sem.run_pure, Result.andThen_ok, invoke]
    have : (#[] ++ args.map a.eval ++ #[] : Array Value) = (args.toList.map a.eval).toArray := by apply Array.ext'; simp
    rw [this]
    exact hE.enter _ w
  unfold Oper.wp
  rw [hrun, Oper.upon_enter]
  refine (ZCQ hE h hbox hk).mono fun ed w' he => ?_
  cases ed with
  | returned v =>
    obtain ⟨st', μ', h3, hK⟩ := he
    exact ⟨_, μ', h3, hK⟩
  | panicked c => exact False.elim he
  | outgrown => exact False.elim he
end
end Go.Proofs.Ytpeflcbadgfebaa.Vs

set_option linter.unusedVariables false
set_option linter.unusedSimpArgs false
namespace Go.Proofs.Ytpeflcbadgfebaa.Vs
open Go.RowKit
def TI.isStr (i : TI) : Bool := match i.d with
 | .scal => match i.ty with | .str => true | _ => false
 | _ => false
def strT (T : TT) (t : TypeId) : Bool := match T.get t with
 | some i => i.isStr
 | none => false
def byteAt (s : ByteArray) (n : Nat) : Int := ((s.data.toList.getD n 0).toNat : Int)
def subS (s : ByteArray) (a b : Nat) : ByteArray := s.extract a b
def bytesOf (xs : List Int) : ByteArray := ⟨(xs.map fun n => UInt8.ofNat n.toNat).toArray⟩
theorem ZBO (xs : List Int) : ∀ l : List UInt8, xs.foldl (fun r n => r.push (UInt8.ofNat n.toNat)) (⟨l.toArray⟩ : ByteArray) = ⟨(l ++ xs.map fun n => UInt8.ofNat n.toNat).toArray⟩ := by
 induction xs with
 | nil => intro l; simp
 | cons n xs ih =>
  intro l
  have h : (⟨l.toArray⟩ : ByteArray).push (UInt8.ofNat n.toNat) = ⟨(l ++ [UInt8.ofNat n.toNat]).toArray⟩ := by simp [ByteArray.push]
  simp only [List.foldl_cons, h]
  rw [ih]
  simp
section
variable {β : Type}
def opIdxS (x : At) (y : TV) (K : At → Option β) : Option β := match x with
 | .str s => match y with
  | .sv (.at (.int _ n)) => inRange n s.size (K (.int .u8 (byteAt s n.toNat)))
  | _ => none
 | _ => none
def opCutS (x : At) (lo hi : Option TV) (K : At → Option β) : Option β := match x with
 | .str s => cutAt lo hi s.size fun a b => K (.str (subS s a b))
 | _ => none
def opConvS (T : TT) (src dst : TypeId) (st : St) (x : At) (K : At → Option β) : Option β :=
  match T.get src with
  | some i => match i.d with
    | .slice e => match T.get e with
      | some ie => if ie.isScal = true ∧ ie.ty = .int .u8 ∧ strT T dst = true then match readSl st [] (.int .u8) x with
          | some xs => K (.str (bytesOf xs))
          | none => none
        else none
      | none => none
    | _ => none
  | none => none
end
noncomputable def gtS : Int → Int → Bool := Classical.choose (⟨fun a b => decide (a > b), rfl⟩ : ∃ f : Int → Int → Bool, f = fun a b => decide (a > b))
theorem ZDl (a b : Int) : gtS a b = decide (a > b) := congrFun (congrFun (Classical.choose_spec (⟨fun a b => decide (a > b), rfl⟩ : ∃ f : Int → Int → Bool, f = fun a b => decide (a > b))) a) b
def gtBig (op : BinOp) (y : Operand) : Bool := match op with
 | .gtr => match y with
  | .const (.int .i64 n) => n == 1048576
  | _ => false
 | _ => false
noncomputable def opGtS {β : Type} (x : TV) (K : At → Option β) : Option β := match x with
 | .sv (.at (.int .i64 a)) => K (.bool (gtS a 1048576))
 | _ => none
theorem ZCg {op : BinOp} {y : Operand} (h : gtBig op y = true) : op = .gtr ∧ y = .const (.int .i64 1048576) := by
 unfold gtBig at h
 split at h
 ·split at h
  ·rename_i n
   have : n = 1048576 := by simpa using h
   subst this
   exact ⟨rfl, rfl⟩
  ·cases h
 ·cases h
noncomputable def addS : Int → Int → Int := Classical.choose (⟨fun a b => wrap64 (a + b), rfl⟩ : ∃ f : Int → Int → Int, f = fun a b => wrap64 (a + b))
theorem ZD8 (a b : Int) : addS a b = wrap64 (a + b) := congrFun (congrFun (Classical.choose_spec (⟨fun a b => wrap64 (a + b), rfl⟩ : ∃ f : Int → Int → Int, f = fun a b => wrap64 (a + b))) a) b
noncomputable def opAddS {β : Type} (op : BinOp) (x y : TV) (K : At → Option β) : Option β := match op with
 | .add => match x, y with
  | .sv (.at (.int .i64 a)), .sv (.at (.int .i64 b)) => K (.int .i64 (addS a b))
  | _, _ => none
 | _ => none
section
variable {β : Type} {P : Program} {w w1 w0 : World} {S0 : Own} {st : St} {μ : List ORec} {a : Act} {o : Oper} {r : β} {t : TypeId}
theorem Zuv {T : TT} (hT : TTok P T) (h : strT T t = true) : P.underlying t = some .string := by
 unfold strT at h
 split at h
 ·rename_i i hi
  have ok := (hT.1 t i hi).desc
  unfold TI.isStr at h
  split at h
  ·rename_i hd
   rw [hd] at ok
   obtain ⟨d, h1, h2⟩ := ok
   split at h
   ·rename_i hty
    rw [hty] at h1
    injection h1 with h1
    subst h1
    exact h2
   ·cases h
  ·cases h
 ·cases h
theorem ZDj {op : BinOp} {x y : Operand} {yt : TypeId} {K : At → Option β} {K' : St → Option β} (T : TT) (hT : TTok P T) (h : Rel w0 S0 st μ a w) (ho : o.op = .binOp op t x y yt) (hb : gtBig op y = true)
    (hk : opGtS (st.ev x) K = some r) (hK : ∀ x, K x = some r → K' (st.put o.dst (.sv (.at x))) = some r) : Went P o a w (Nx w0 S0 K' r) := by
  obtain ⟨rfl, rfl⟩ := ZCg hb
  refine Zwn T hT h ho ?_ hK
  unfold opGtS at hk
  split at hk
  · rename_i n hx
    rw [hx]
    rw [ZDl] at hk
    exact hk
  · cases hk
theorem ZCU {op : BinOp} {x y : Operand} {yt : TypeId} {K : At → Option β} {K' : St → Option β} (T : TT) (hT : TTok P T) (h : Rel w0 S0 st μ a w) (ho : o.op = .binOp op t x y yt)
    (hk : opAddS op (st.ev x) (st.ev y) K = some r) (hK : ∀ x, K x = some r → K' (st.put o.dst (.sv (.at x))) = some r) : Went P o a w (Nx w0 S0 K' r) := by
  refine Zwn T hT h ho ?_ hK
  unfold opAddS at hk
  split at hk
  · split at hk
    · rename_i a b hx hy
      rw [hx, hy]
      rw [ZD8] at hk
      exact hk
    · cases hk
  · cases hk
theorem ZCT {x y : Operand} {K : At → Option β} {K' : St → Option β} (T : TT) (hT : TTok P T) (h : Rel w0 S0 st μ a w) (ho : o.op = .index t x y) (ht : strT T t = true)
    (hk : opIdxS (st.ev x).atom (st.ev y) K = some r) (hK : ∀ x, K x = some r → K' (st.put o.dst (.sv (.at x))) = some r) : Went P o a w (Nx w0 S0 K' r) := by
  have hu := Zuv hT ht
  have hx := h.atom x
  unfold opIdxS at hk
  split at hk
  · rename_i s hxa
    rw [hxa] at hx
    split at hk
    · rename_i k n hy
      have hy2 : a.eval y = .int k n := h.at hy
      obtain ⟨h0, h1, hk⟩ := Z5x hk
      refine Zd h (v := .int .u8 (byteAt s n.toNat)) (x := .sv (.at (.int .u8 (byteAt s n.toNat)))) (fun w' _ => ?_) ⟨rfl, .inr rfl⟩ (hK _ hk)
      unfold execOp
      have h2 : n.toNat < s.size := by omega
      have hb : ((s[n.toNat]'h2).toNat : Int) = byteAt s n.toNat := by
        unfold byteAt
        have h3 : n.toNat < s.data.toList.length := by rw [Array.length_toList]; exact h2
        rw [List.getD, List.getElem?_eq_getElem h3]
        rfl
      simp only [ho, show a.eval x = _ from hx, hy2, Sem.run_bind, run_index_string w' t s k n hu, dif_pos (⟨h0, h1⟩ : 0 ≤ n ∧ n < s.size), Result.andThen_ok, Sem.run_pure, hb]
    · cases hk
  · cases hk
theorem ZCA {x : Operand} {lo hi : Option Operand} (hu : P.underlying t = some .string) (h : Rel w0 S0 st μ a w) (ho : o.op = .slice t x lo hi none) {s : ByteArray} {p q : Nat} (hv : a.eval x = .string s)
    (hpq : p ≤ q) (hqn : q ≤ s.size) (hl : lo.map st.ev = none ∧ p = 0 ∨ ∃ k, lo.map st.ev = some (.sv (.at (.int k p)))) (hh : hi.map st.ev = none ∧ q = s.size ∨ ∃ k, hi.map st.ev = some (.sv (.at (.int k q)))) (w' : World) :
    (execOp a.eval o).run P w' = .ok (.value (.string (s.extract p q))) w' := by
  have hlo : lo = none ∧ p = 0 ∨ ∃ k x', lo = some x' ∧ a.eval x' = .int k p := by
    rcases hl with ⟨hl, hp⟩ | ⟨k, hl⟩
    · exact .inl ⟨by simpa using hl, hp⟩
    · obtain ⟨x', hx, hx2⟩ := Option.map_eq_some_iff.1 hl
      exact .inr ⟨k, x', hx, h.at hx2⟩
  have hhi : hi = none ∧ q = s.size ∨ ∃ k x', hi = some x' ∧ a.eval x' = .int k q := by
    rcases hh with ⟨hl, hp⟩ | ⟨k, hl⟩
    · exact .inl ⟨by simpa using hl, hp⟩
    · obtain ⟨x', hx, hx2⟩ := Option.map_eq_some_iff.1 hl
      exact .inr ⟨k, x', hx, h.at hx2⟩
  have hb : ∀ (k : IntKind) (m y : Nat) (c : BoundsCode), m ≤ y → (Instr.sliceBound (.int k m) y c).run P w' = .ok m w' := by
    intro k m y c hm
    unfold Instr.sliceBound
    simp only [asIntOf, Sem.run_bind, Sem.run_pure, Result.andThen_ok]
    rw [Sem.run_ite, if_pos ⟨by omega, by omega⟩]
    simp
  unfold execOp
  simp only [ho, hv, Option.map_none, Sem.run_bind]
  rcases hlo with ⟨rfl, rfl⟩ | ⟨k, x', rfl, hx'⟩ <;> rcases hhi with ⟨rfl, rfl⟩ | ⟨k2, y', rfl, hy'⟩ <;> simp only [Option.map_none, Option.map_some, *] <;>
    rw [run_sliceAt_string w' t _ _ _ _ hu] <;>
    simp [Instr.slice, Instr.sliceBounds, run_underlying hu, hb, hpq, hqn]
theorem ZD7 {x : Operand} {lo hi : Option Operand} {K : At → Option β} {K' : St → Option β} (T : TT) (hT : TTok P T) (h : Rel w0 S0 st μ a w) (ho : o.op = .slice t x lo hi none) (ht : strT T t = true)
    (hk : opCutS (st.ev x).atom (lo.map st.ev) (hi.map st.ev) K = some r) (hK : ∀ x, K x = some r → K' (st.put o.dst (.sv (.at x))) = some r) : Went P o a w (Nx w0 S0 K' r) := by
  have hu := Zuv hT ht
  have hx := h.atom x
  unfold opCutS at hk
  split at hk
  · rename_i s hxa
    rw [hxa] at hx
    obtain ⟨p, q, h1, h2, hk, hl, hh⟩ := Zdi hk
    exact Zd h (fun w' _ => ZCA hu h ho hx h1 h2 hl hh w') (x := .sv (.at (.str (subS s p q)))) ⟨rfl, .inr rfl⟩ (hK _ hk)
  · cases hk
theorem ZCI {src dst : TypeId} {x : Operand} {T : TT} {K : At → Option β} {K' : St → Option β} (hT : TTok P T) (h : Rel w0 S0 st μ a w) (ho : o.op = .convert src dst x) (hc : convS dst = true)
    (hk : opConvS T src dst st (st.ev x).atom K = some r) (hK : ∀ x, K x = some r → K' (st.put o.dst (.sv (.at x))) = some r) : Went P o a w (Nx w0 S0 K' r) := by
  have hx := h.atom x
  unfold opConvS at hk
  split at hk
  · rename_i i hi
    split at hk
    · rename_i e hie
      split at hk
      · rename_i ie hte
        split at hk
        · rename_i hcc
          obtain ⟨hsc, hty, hst⟩ := hcc
          split at hk
          · rename_i xs hxs
            have hu : P.underlying src = some (.slice e) := by have := (hT.1 _ _ hi).desc; rw [hie] at this; exact this
            have hd := Zuv hT hst
            have he : P.underlying e = some (.int .u8) := by
              have := (hT.1 _ _ hte).desc
              unfold TI.isScal at hsc
              split at hsc
              · rename_i h1
                rw [h1] at this
                obtain ⟨d, g1, g2⟩ := this
                rw [hty] at g1
                injection g1 with g1
                subst g1
                exact g2
              · cases hsc
            obtain ⟨A, c, hv, hlc, hmx, hA⟩ := Z78 h hx hxs
            refine Zd h (v := .string (bytesOf xs)) (x := .sv (.at (.str (bytesOf xs)))) (fun w' hw0 => ?_) ⟨rfl, .inr rfl⟩ (hK _ hk)
            have hw := hw0 (by rw [ho]; exact hc)
            unfold execOp
            simp only [ho, show a.eval x = _ from hv, Sem.run_bind, run_convert_bytes_string w' src dst e A _ _ hu he hd]
            have hrun : (Conv.bytesToString (.slice A xs.length c)).run P w' = .ok (.string (bytesOf xs)) w' := by
              cases A with
              | none =>
                have hx0 : xs = [] := by
                  rcases Nat.eq_zero_or_pos xs.length with h0 | h0
                  · exact List.eq_nil_of_length_eq_zero h0
                  · obtain ⟨a', ha', _⟩ := hA h0
                    cases ha'
                subst hx0
                simp [Conv.bytesToString, bytesOf]
                rfl
              | some ad =>
                have hcells : (loadCells ad xs.length).run P w' = .ok (xs.map (Value.int .u8)).toArray w' := by
                  have := run_loadCells_list (P := P) w' ad (xs.map (Value.int .u8)) (fun j v hj => ?_)
                  · simpa using this
                  · rw [List.getElem?_map] at hj
                    obtain ⟨n, hn, rfl⟩ := Option.map_eq_some_iff.1 hj
                    have hjl := (List.getElem?_eq_some_iff.1 hn).1
                    obtain ⟨a', ha', _, hel⟩ := hA (by omega)
                    injection ha' with ha'
                    subst ha'
                    obtain ⟨cs, hcl, hcell, hrd⟩ := hel j n hn
                    have hcs : cs = [.int .u8 n] := hrd
                    have := hcell 0 (.int .u8 n) (by rw [hcs]; rfl)
                    simp only [Ty.sz, Nat.mul_one, Nat.add_zero] at this
                    exact Zdl hw this
                rw [run_bytesToString w' ad xs.length c xs hcells]
                have h2 := ZBO xs []
                simp only [List.nil_append] at h2
                exact congrArg (fun z => Result.ok (Value.string z) w') h2
            rw [hrun]
            rfl
          · cases hk
        · cases hk
      · cases hk
    · cases hk
  · cases hk
end
end Go.Proofs.Ytpeflcbadgfebaa.Vs

set_option linter.unusedVariables false
set_option linter.unusedSimpArgs false
namespace Go.Proofs.Ytpeflcbadgfebaa.Vs
open Go.RowKit
section
variable {γ : Type}
def opFnLoad (st : St) : At → Option At
 | .ptr j f => match st.objs[j]? with
  | some (.box _ cells) => match cells[f]? with
   | some (.cv i) => some (.cv i)
   | _ => none
  | _ => none
 | .pc _ j => some (.cv j)
 | _ => none
def opFnStore (st : St) (p x : At) : Option St := match p with
 | .ptr j 0 => match st.objs[j]? with
  | some (.box e [_]) => match x with
   | .cv i => some { st.kill j with objs := (st.kill j).objs.set j (.box e [.cv i]) }
   | _ => none
  | _ => none
 | _ => none
def capsL (st : St) : List Operand → Option (List At)
 | [] => some []
 | c :: cs => match st.ev c with
  | .sv (.at x) => if x.isUn = true then none else match capsL st cs with
   | some l => some (x :: l)
   | none => none
  | _ => none
end
section
variable {P : Program} {w w1 w0 : World} {S0 : Own} {st : St} {μ : List ORec} {a : Act} {t : TypeId} {o : Oper} {β : Type} {K : St → Option β} {r : β} {Q : Exit → Act → World → Prop}
theorem FnTy.agg (h : FnTy P t) (w : World) : (isAgg t).run P w = .ok false w := by
 obtain ⟨ps, rs, v, hu⟩ := h.und
 unfold isAgg
 rw [Sem.run_bind, run_underlying hu]
 rfl
theorem FnTy.get (h : FnTy P t) : ∃ x, P.info? t = some x ∧ x.zero = some .nilFunc ∧ x.size = 1 := by
 obtain ⟨x, hx, he⟩ := Option.map_eq_some_iff.1 h.info
 injection he with h1 h2
 exact ⟨x, hx, h1, h2⟩
theorem FnTy.sizeOf (h : FnTy P t) (w : World) : (sizeOf t).run P w = .ok 1 w := by
 obtain ⟨x, hx, _, hs⟩ := h.get
 simp [Go.sizeOf, typeInfo, hx, hs]
theorem FnTy.zero (h : FnTy P t) (w : World) : (zeroValue t).run P w = .ok .nilFunc w := by
 obtain ⟨x, hx, hz, _⟩ := h.get
 simp [zeroValue, typeInfo, hx, hz]
theorem FnTy.load (h : FnTy P t) {ad : Addr} {v : Value} (hc : w.cell? ad = some v) : (loadVar t ad).run P w = .ok v w := by
 unfold loadVar
 rw [Sem.run_bind, h.agg]
 simp [hc]
theorem FnTy.store (h : FnTy P t) {g f : Nat} {e : TypeId} {cur : Array Value} (hb : w.heap[g]? = some (.cells cur e (0, 0))) (u : Value) (hu : u.cells = #[u]) (hf : f + 1 ≤ cur.size) (h1 : u.oneCell' = true) :
    (storeVar t ⟨g, f, none⟩ u).run P w = .ok () (w.setRow g (Vs.setw cur.toList f [u]).toArray) := by
  unfold storeVar
  rw [Sem.run_bind, h.sizeOf]
  simp only [Result.andThen_ok]
  have hul : u.cells.toList = [u] := by rw [hu]
  have := run_storeCells_at (P := P) g f e u.cells.toList 0 cur w hb (by rw [hul]; simpa using hf) (by rw [hul]; intro v hv; rw [List.mem_singleton.1 hv]; exact h1)
  simp only [Nat.add_zero] at this
  have hs : u.cells.size = 1 := by rw [hu]; rfl
  rw [hul] at this
  simp only [List.length_singleton] at this
  simp [hs, this, setw, hul]
theorem Zto (hf : FnTy P t) (h : Rel w0 S0 st μ a w) (ho : o.op = .alloc t) (hk : K (st.mk1 o.dst (.box t [.un]) (.ptr st.objs.length 0)) = some r) : o.wp P a w (Nxs w0 S0 w K r) Q := by
 have hrun : (execOp a.eval o).run P w = .ok (.value (.pointer (some ⟨w.heap.size, 0, none⟩))) (w.alloc (.cells [Value.nilFunc].toArray t)) := by
  unfold execOp
  simp only [ho, Instr.alloc, Sem.run_bind, hf.zero, Result.andThen_ok, newVar, newRow, run_newObj, Sem.run_pure]
  rfl
 have hA : AL μ w [At.un] [Value.nilFunc] := AL.one trivial
 refine Za2 hrun ⟨⟨_, _, (ZwM h hA (fun u hu => by rw [List.mem_singleton.1 hu]; rfl)).mk1 o.dst (x := .ptr st.objs.length 0) ?_ rfl, hk⟩, .alloc w _ _⟩
 rw [← h.len]
 exact ⟨_, Z9w _ _, rfl⟩
theorem ZC0 {p : Operand} {y : At} (hf : FnTy P t) (h : Rel w0 S0 st μ a w) (ho : o.op = .load t p) (hy : opFnLoad st (st.ev p).atom = some y) (hk : K (st.put o.dst (.sv (.at y))) = some r) : Went P o a w (Nx w0 S0 K r) := by
 have ha := h.atom p
 have fin : ∀ (ad : Addr) (v : Value), a.eval p = .pointer (some ad) → w.cell? ad = some v → AR μ w y v → y.isUn = false → Went P o a w (Nx w0 S0 K r) := by
  intro ad v hp hc hv hu
  refine Zd h (v := v) (x := .sv (.at y)) (fun w' hw0 => ?_) ⟨hv, .inr (hv.oneCell hu).2⟩ hk
  have hw := hw0 (by rw [ho]; rfl)
  unfold execOp
  simp only [ho, hp, Instr.loadAt, Instr.sureAddr, Sem.run_bind, Sem.run_pure, Result.andThen_ok, hf.load (Zdl hw hc)]
 unfold opFnLoad at hy
 split at hy
 ·rename_i j f hx
  rw [hx] at ha
  split at hy
  ·rename_i e cells hob
   split at hy
   ·rename_i i hi
    injection hy with hy
    subst hy
    obtain ⟨q, hq, hp⟩ := ha
    obtain ⟨_, vs, hb, hA, _⟩ := h.ob j _ q hob hq
    have hfl : f < vs.length := by rw [hA.1]; exact (List.getElem?_eq_some_iff.1 hi).1
    have hv := hA.2 f _ vs[f] hi (List.getElem?_eq_getElem hfl)
    refine fin _ vs[f] hp ?_ hv rfl
    simp [World.cell?, hb, List.getElem?_eq_getElem hfl]
   ·cases hy
  ·cases hy
 ·rename_i i j hx
  injection hy with hy
  subst hy
  rw [hx] at ha
  obtain ⟨r1, q, g, _, hq, _, hv, hc, hfn⟩ := ha
  exact fin _ _ hv hc ⟨q, hq, rfl, hfn⟩ rfl
 ·cases hy
theorem ZBq {p x : Operand} {st' : St} (hf : FnTy P t) (h : Rel w0 S0 st μ a w) (ho : o.op = .store t p x) (hd : o.dst = none) (hs : opFnStore st (st.ev p).atom (st.ev x).atom = some st') (hk : K st' = some r) : o.wp P a w (Nx w0 S0 K r) Q := by
 have ha := h.atom p
 have hxa := h.atom x
 unfold opFnStore at hs
 split at hs
 ·rename_i j hp
  rw [hp] at ha
  split at hs
  ·rename_i e c hob
   split at hs
   ·rename_i i hx
    injection hs with hs
    subst hs
    rw [hx] at hxa
    obtain ⟨q, hq, hpv⟩ := ha
    obtain ⟨hok, vs, hb, hAv, h1v⟩ := h.ob j _ q hob hq
    have hone := AR.oneCell hxa rfl
    have hl : vs.length = 1 := hAv.1
    have hsz : 0 + 1 ≤ vs.toArray.size := by simp; omega
    have hst := hf.store (f := 0) hb (a.eval x) hone.2 hsz hone.1
    have hrun : (execOp a.eval o).run P w = .ok .skip (w.setRow q.blk (Vs.setw vs.toArray.toList 0 [a.eval x]).toArray) := by
     unfold execOp
     simp only [ho, hpv, Instr.storeAt, Instr.sureAddr, Sem.run_bind, Sem.run_pure, Result.andThen_ok, hst]
    have hset : Vs.setw vs 0 [a.eval x] = [a.eval x] := by
     match vs, hl with
     | [v], _ => rfl
    refine Zkx hrun ⟨_, μ, ?_, hk⟩
    rw [hd]
    refine h.turn (o' := .box e [.cv i]) hob hq rfl rfl (.setRow w q.blk _ hok) ⟨hok, [a.eval x], by rw [setRow_heap w q.blk _ _ e _ hb]; simp only [hset], ?_, fun u hu => by rw [List.mem_singleton.1 hu]; exact hone.1⟩ (fun e t xs he => by cases he)
    exact AL.one (show AR μ _ (.cv i) _ from hxa)
   ·cases hs
  ·cases hs
 ·cases hs
theorem Zti (h : Rel w0 S0 st μ a w) : ∀ {cs : List Operand} {l : List At}, capsL st cs = some l → AL μ w l (cs.map a.eval)
 | [], l, hl => by
  injection hl with hl
  subst hl
  exact ⟨rfl, fun j x v hx => by simp at hx⟩
 | c :: cs, l, hl => by
  simp only [capsL] at hl
  split at hl
  ·rename_i x hx
   split at hl
   ·cases hl
   ·split at hl
    ·rename_i l' hl'
     injection hl with hl
     subst hl
     have ih := Zti h hl'
     have hx1 : AR μ w x (a.eval c) := by have := h.ev c; rw [hx] at this; exact this.1
     refine ⟨by simp [ih.1], fun j y v hy hv => ?_⟩
     cases j with
     | zero =>
      simp only [List.getElem?_cons_zero, List.map_cons] at hy hv
      injection hy with hy
      injection hv with hv
      subst hy hv
      exact hx1
     | succ j =>
      simp only [List.getElem?_cons_succ, List.map_cons] at hy hv
      exact ih.2 j y v hy hv
    ·cases hl
  ·cases hl
theorem ZBU {f : FuncId} {caps : Array Operand} {l : List At} (h : Rel w0 S0 st μ a w) (ho : o.op = .makeFunc (.func f) #[] caps) (hl : capsL st caps.toList = some l) (hk : K (st.mk1 o.dst (.clo f l) (.cv st.objs.length)) = some r) : o.wp P a w (Nx w0 S0 K r) Q := by
 have hA := Zti h hl
 have hrun : (execOp a.eval o).run P w = .ok (.value (.func (.func f) #[] (caps.toList.map a.eval).toArray)) w := by
  have : caps.map a.eval = (caps.toList.map a.eval).toArray := by apply Array.ext'; simp
  unfold execOp
  have h0 : (#[] : Array Operand).map a.eval = #[] := by simp
  simp only [ho, Instr.makeFunc, Sem.run_bind, Sem.run_pure, Result.andThen_ok, this, h0]
 have hp := h.push (o := .clo f l) (r := ⟨.func (.func f) #[] (caps.toList.map a.eval).toArray, 0, fun _ => False⟩) ⟨_, rfl, hA.imp id (by simp) (fun x v _ hx => hx.more (fun i q hq => by rw [List.getElem?_append_left (List.getElem?_eq_some_iff.1 hq).1]; exact hq))⟩ (fun hw => by cases hw) (fun _ _ _ _ _ _ _ _ hf => hf.elim) (fun hw => by cases hw) (fun _ _ _ he => by cases he) (fun _ hf => hf.elim)
 refine Za2 hrun ⟨_, _, Rel.mk1 hp o.dst (x := .cv st.objs.length) ?_ rfl, hk⟩
 rw [← h.len]
 exact ⟨_, Z9w _ _, rfl, _, _, rfl⟩
structure ClSound (P : Program) (k : Nat) (f : FuncId) (c : CloE) : Prop where
 enter : ∀ vs w, (callFunc f vs).run P w = .ok (.enter f vs) w
 calls : ∀ {γ : Type} {K : St → Option γ} {r : γ} {w w0 : World} {S0 : Own} {st : St} {μ : List ORec} {a : Act} (dst : Option Tmp) (xs : List TV) (vs : List Value), Rel w0 S0 st μ a w → vs.length = xs.length → (∀ (j : Nat) x v, xs[j]? = some x → vs[j]? = some v → TR μ w x v) → c.act k st dst xs K = some r →
  Calls P f vs.toArray w fun
   | .returned v, w' => ∃ st' μ', Rel w0 S0 st' μ' (a.put dst v) w' ∧ K st' = some r
   | _, _ => False
theorem Zvl {k : Nat} {f : FuncId} {c : CloE} {v : Operand} {args : Array Operand} {ats : Array TypeId} {l : List At} {caps : List Value} (hE : ClSound P k f c) (h : Rel w0 S0 st μ a w) (ho : o.op = .call { callee := .value v, args := args, argTypes := ats })
    (hv : a.eval v = .func (.func f) #[] caps.toArray) (hl : AL μ w l caps) (hk : c.act k st o.dst (args.toList.map st.ev ++ l.map fun x => .sv (.at x)) K = some r) : o.wp P a w (Nx w0 S0 K r) Q := by
  have hrun : (execOp a.eval o).run P w = .ok (.enter f ((args.toList.map a.eval ++ caps)).toArray) w := by
    unfold execOp
    simp only [ho, resolve, Deferred.ofValue, hv, Sem.run_bind, Sem.run_pure, Result.andThen_ok, invoke]
    have : (#[] ++ args.map a.eval ++ caps.toArray : Array Value) = (args.toList.map a.eval ++ caps).toArray := by apply Array.ext'; simp
    rw [this]
    exact hE.enter _ w
  unfold Oper.wp
  rw [hrun, Oper.upon_enter]
  refine (hE.calls o.dst (args.toList.map st.ev ++ l.map fun x => .sv (.at x)) (args.toList.map a.eval ++ caps) h (by simp [hl.1]) (fun j x u hx hu => ?_) hk).mono fun e w' he => ?_
  · rw [List.getElem?_append] at hx hu
    simp only [List.length_map] at hx hu
    split at hx
    · rename_i hj
      rw [if_pos hj] at hu
      rw [List.getElem?_map] at hx hu
      obtain ⟨y, hy, rfl⟩ := Option.map_eq_some_iff.1 hx
      rw [hy] at hu
      injection hu with hu
      subst hu
      exact h.ev y
    · rename_i hj
      rw [if_neg hj] at hu
      rw [List.getElem?_map] at hx
      obtain ⟨y, hy, rfl⟩ := Option.map_eq_some_iff.1 hx
      have h1 := hl.2 _ y u hy hu
      refine ⟨h1, ?_⟩
      cases hun : y.isUn with
      | true => left; cases y <;> first | rfl | cases hun
      | false => right; exact (h1.oneCell hun).2
  · cases e with
    | returned v => exact he
    | panicked c => exact False.elim he
    | outgrown => exact False.elim he
end
end Go.Proofs.Ytpeflcbadgfebaa.Vs

set_option linter.unusedVariables false
set_option linter.unusedSimpArgs false
namespace Go.Proofs.Ytpeflcbadgfebaa.Vs
open Go.RowKit

def sameOp : Operand → Operand → Bool
 | .tmp a, .tmp b => a == b
 | .const (.int k n), .const (.int k' n') => decide (k = k') && decide (n = n')
 | _, _ => false
theorem Zip {x y : Operand} (h : sameOp x y = true) : x = y := by
 unfold sameOp at h
 split at h
 ·rw [beq_iff_eq.1 h]
 ·simp at h; rw [h.1, h.2]
 ·cases h
section
variable {γ : Type}
noncomputable def stepOp1 (T : TT) (G : Env) (mvs : List Tmp) (k : Nat) (o : Oper) (st : St) (K : St → Option γ) : Option γ :=
  match o.op with
  | .move x => K (st.put o.dst (st.ev x))
  | .assign x => K (st.put o.dst (st.ev x))
  | .pick c x y => match st.ev c with
    | .sv (.at (.bool b)) => if b = true then K (st.put o.dst (st.ev x)) else K (st.put o.dst (st.ev y))
    | _ => none
  | .alloc t => match T.get t with
    | some i => K (st.mk1 o.dst (.box t (zatoms i.ty)) (.ptr st.objs.length 0))
    | none => none
  | .box t x => match (st.ev x).cells with
    | some l => if l.all (fun y => !y.isUn) = true then K (st.mk1 o.dst (.box t l) (.ptr st.objs.length 0)) else none
    | none => none
  | .build t ps => match T.get t with
    | some i => match i.d with
      | .struct fs => match fillParts T fs st ps.toList (zatoms i.ty) with
        | some l => K (st.put o.dst (.sv (.agg l)))
        | none => none
      | .arr n e => match T.get e with
        | some ti => match ps.toList with
          | [] => K (st.put o.dst (.sv (.agg (zatoms i.ty))))
          | _ => none
        | none => none
      | _ => none
    | none => none
  | .buildSlice t len ps => match T.get t with
    | some i => match i.d with
      | .slice e => match T.get e with
        | some ti => opBuildSlice e ti st o.dst len ps.toList K
        | none => none
      | _ => none
    | none => none
  | .load t p => match T.get t with
    | some i => opLoad i st (st.ev p).atom fun x => K (st.put o.dst x)
    | none => none
  | .store t p x => match o.dst with
    | none => match T.get t with
      | some i => opStore i st (st.ev p).atom (st.ev x) K
      | none => none
    | some _ => none
  | .binOp op t x y _ => opBin T op t (st.ev x) (st.ev y) fun z => K (st.put o.dst (.sv (.at z)))
  | .unOp op _ x => opUn op (st.ev x) fun z => K (st.put o.dst (.sv (.at z)))
  | .makeSlice t x y => if sameOp x y = true then match T.get t with
      | some i => match i.d with
        | .slice e => match T.get e with
          | some ti => match st.ev x with
            | .sv (.at (.int _ n)) => opMake e ti st o.dst n K
            | _ => none
          | none => none
        | _ => none
      | none => none
    else none
  | .slice t x lo hi none => match T.get t with
    | some i => match i.d with
      | .slice e => match T.get e with
        | some ti => opSlice (match o.dst with | some d => mvs.contains d | none => false) e ti st o.dst (st.ev x).atom (lo.map st.ev) (hi.map st.ev) K
        | none => none
      | _ => none
    | none => none
  | .fieldAddr t x f => match T.get t with
    | some i => match i.d with
      | .struct fs => match opFieldAddr fs (st.ev x).atom f with
        | some z => K (st.put o.dst (.sv (.at z)))
        | none => none
      | _ => none
    | none => none
  | .field t x f => match T.get t with
    | some i => match i.d with
      | .struct fs => match opField T fs (st.ev x) f with
        | some z => K (st.put o.dst z)
        | none => none
      | _ => none
    | none => none
  | .indexAddr t x y => match T.get t with
    | some i => match i.d with
      | .slice e => match T.get e with
        | some ti => match st.ev y with
          | .sv (.at (.int _ n)) => opIndexAddr ti st (st.ev x).atom n fun z => K (st.put o.dst (.sv (.at z)))
          | _ => none
        | none => none
      | .arr m e => match T.get e with
        | some ti => match st.ev y with
          | .sv (.at (.int _ n)) => opIndexArr m ti (st.ev x).atom n fun z => K (st.put o.dst (.sv (.at z)))
          | _ => none
        | none => none
      | _ => none
    | none => none
  | .index t x y => match T.get t with
    | some i => match i.d with
      | .arr m e => match T.get e with
        | some ti => opIndex m ti (st.ev x) (st.ev y) fun z => K (st.put o.dst (.sv (.at z)))
        | none => none
      | _ => none
    | none => none
  | .extract x j => match st.ev x with
    | .tup l => match l[j]? with
      | some z => K (st.put o.dst (.sv z))
      | none => none
    | _ => none
  | .call c => match c.callee with
    | .builtin .len => match c.args.toList, c.argTypes.toList with
      | [x], [t] => match T.get t with
        | some i => match opLen i st (st.ev x).atom with
          | some n => K (st.put o.dst (.sv (.at (.int .i64 n))))
          | none => none
        | none => none
      | _, _ => none
    | .builtin .append => match c.args.toList, c.argTypes.toList with
      | [x, y], [t, t'] => if t' = t then match T.get t with
          | some i => match i.d with
            | .slice e => match T.get e with
              | some ti => opAppend e ti st o.dst (st.ev x).atom (st.ev y).atom K
              | none => none
            | _ => none
          | none => none
        else none
      | _, _ => none
    | .value (.func f) => match G.get f with
      | some E => opCall k E st o.dst (c.args.toList.map st.ev) K
      | none => none
    | _ => none
  | _ => none
end

section
variable {P : Program} {w w1 w0 : World} {S0 : Own} {st : St} {μ : List ORec} {a : Act}
structure EnvOK (P : Program) (k : Nat) (G : Env) : Prop where
 mixed : P.follows .mixedOrders = true
 ok : ∀ f E, G.get f = some E → SoundAt P k f E
 okc : ∀ f E c, G.get f = some E → E.cl = some c → ClSound P k f c
theorem ZzF {γ : Type} {T : TT} {G : Env} {mvs : List Tmp} {k : Nat} {o : Oper} {K : St → Option γ} {r : γ} {Q : Exit → Act → World → Prop} (hT : TTok P T) (hG : EnvOK P k G) (h : Rel w0 S0 st μ a w) (hk : stepOp1 T G mvs k o st K = some r) : o.wp P a w (Nx w0 S0 K r) Q := by
 unfold stepOp1 at hk
 split at hk
 ·rename_i x ho; exact Went.wp (Zrr h (.inl ho) hk)
 ·rename_i x ho; exact Went.wp (Zrr h (.inr ho) hk)
 ·rename_i c x y ho
  split at hk
  ·rename_i b hc
   exact Went.wp (ZBK h ho hc (by split at hk <;> rename_i hb <;> simp only [hb, if_true, if_false, Bool.false_eq_true] <;> exact hk))
  ·cases hk
 ·rename_i t ho
  split at hk
  ·rename_i i hi; exact ZeA (ZAn T hT h ho hi rfl hk)
  ·cases hk
 ·rename_i t x ho
  split at hk
  ·rename_i l hl
   split at hk
   ·rename_i hu; exact ZeA (ZCx h ho hl hu hk)
   ·cases hk
  ·cases hk
 ·rename_i t ps ho
  split at hk
  ·rename_i i hi
   split at hk
   ·rename_i fs hd
    split at hk
    ·rename_i l hl; exact Went.wp (ZA5 T hT h ho hi hd hl hk)
    ·cases hk
   ·rename_i n e hd
    split at hk
    ·rename_i ti hti
     split at hk
     ·rename_i hl; exact Went.wp (Zrb T hT h ho hi hd hti hl hk)
     ·cases hk
    ·cases hk
   ·cases hk
  ·cases hk
 ·rename_i t len ps ho
  split at hk
  ·rename_i i hi
   split at hk
   ·rename_i e hd
    split at hk
    ·rename_i ti hti
     by_cases h0 : len = 0
     ·subst h0; exact ZeA (ZhI T hT h ho hi hd hti hk)
     ·exact ZeA (ZlI T hT h ho hi hd hti hk h0)
    ·cases hk
   ·cases hk
  ·cases hk
 ·rename_i t p ho
  split at hk
  ·rename_i i hi; exact Went.wp (ZBB T hT h ho hi hk (fun _ hx => hx))
  ·cases hk
 ·rename_i t p x ho
  split at hk
  ·rename_i hd
   split at hk
   ·rename_i i hi; exact ZCM T hT h ho hd hi hk (fun _ hx => hx)
   ·cases hk
  ·cases hk
 ·rename_i op t x y yt ho; exact Went.wp (Zwn T hT h ho hk (fun _ hx => hx))
 ·rename_i op t x ho; exact Went.wp (ZCS h ho hk (fun _ hx => hx))
 ·rename_i t x y ho
  split at hk
  ·rename_i hs
   have := Zip hs
   subst this
   split at hk
   ·rename_i i hi
    split at hk
    ·rename_i e hd
     split at hk
     ·rename_i ti hti
      split at hk
      ·rename_i kk n hn; exact ZeA (ZBC (y := x) T hT h ho hi hd hti hn hk)
      ·cases hk
     ·cases hk
    ·cases hk
   ·cases hk
  ·cases hk
 ·rename_i t x lo hi2 ho
  split at hk
  ·rename_i i hi
   split at hk
   ·rename_i e hd
    split at hk
    ·rename_i ti hti; exact Went.wp (ZA6 T hT h ho hi hd hti hk)
    ·cases hk
   ·cases hk
  ·cases hk
 ·rename_i t x f ho
  split at hk
  ·rename_i i hi
   split at hk
   ·rename_i fs hd
    split at hk
    ·rename_i z hz; exact Went.wp (ZnQ T hT h ho hi hd hz hk)
    ·cases hk
   ·cases hk
  ·cases hk
 ·rename_i t x f ho
  split at hk
  ·rename_i i hi
   split at hk
   ·rename_i fs hd
    split at hk
    ·rename_i z hz; exact Went.wp (ZzX T hT h ho hi hd hz hk)
    ·cases hk
   ·cases hk
  ·cases hk
 ·rename_i t x y ho
  split at hk
  ·rename_i i hi
   split at hk
   ·rename_i e hd
    split at hk
    ·rename_i ti hti
     split at hk
     ·rename_i kk n hn; exact Went.wp (ZnL T hT h ho hi hd hti hn hk (fun _ hx => hx))
     ·cases hk
    ·cases hk
   ·rename_i m e hd
    split at hk
    ·rename_i ti hti
     split at hk
     ·rename_i kk n hn; exact Went.wp (Zr1 T hT h ho hi hd hti hn hk (fun _ hx => hx))
     ·cases hk
    ·cases hk
   ·cases hk
  ·cases hk
 ·rename_i t x y ho
  split at hk
  ·rename_i i hi
   split at hk
   ·rename_i m e hd
    split at hk
    ·rename_i ti hti; exact Went.wp (ZAu T hT h ho hi hd hti hk (fun _ hx => hx))
    ·cases hk
   ·cases hk
  ·cases hk
 ·rename_i x j ho
  split at hk
  ·rename_i l hl
   split at hk
   ·rename_i z hz; exact Went.wp (Zw9 h ho hl hz hk)
   ·cases hk
  ·cases hk
 ·rename_i c ho
  obtain ⟨callee, args, ats⟩ := c
  simp only at hk
  split at hk
  ·split at hk
   ·rename_i x t hargs hats
    have h1 : args = #[x] := by apply Array.ext'; exact hargs
    have h2 : ats = #[t] := by apply Array.ext'; exact hats
    subst h1 h2
    split at hk
    ·rename_i i hi
     split at hk
     ·rename_i n hn; exact Went.wp (ZCn T hT h ho hi hn hk)
     ·cases hk
    ·cases hk
   ·cases hk
  ·split at hk
   ·rename_i x y t t' hargs hats
    split at hk
    ·rename_i ht
     subst ht
     have h1 : args = #[x, y] := by apply Array.ext'; exact hargs
     have h2 : ats = #[t', t'] := by apply Array.ext'; exact hats
     subst h1 h2
     split at hk
     ·rename_i i hi
      split at hk
      ·rename_i e hd
       split at hk
       ·rename_i ti hti; exact ZCd T hT h ho hi hd hti hk
       ·cases hk
      ·cases hk
     ·cases hk
    ·cases hk
   ·cases hk
  ·rename_i f
   split at hk
   ·rename_i E hE; exact ZD0 (hG.ok f E hE) h ho hk
   ·cases hk
  ·cases hk
 ·cases hk
def pureOp1 : Op → Bool
 | .move _ => true | .assign _ => true | .pick _ _ _ => true | .build _ _ => true | .load _ _ => true | .binOp _ _ _ _ _ => true | .unOp _ _ _ => true
 | .slice _ _ _ _ _ => true | .fieldAddr _ _ _ => true | .field _ _ _ => true | .indexAddr _ _ _ => true | .index _ _ _ => true | .extract _ _ => true
 | .call c => match c.callee with | .builtin .len => true | _ => false
 | _ => false
theorem ZAw {γ : Type} {T : TT} {G : Env} {mvs : List Tmp} {k : Nat} {o : Oper} {K : St → Option γ} {r : γ} (hT : TTok P T) (h : Rel w0 S0 st μ a w) (hp : pureOp1 o.op = true) (hk : stepOp1 T G mvs k o st K = some r) : Went P o a w (Nx w0 S0 K r) := by
 unfold stepOp1 at hk
 split at hk
 ·rename_i x ho; exact Zrr h (.inl ho) hk
 ·rename_i x ho; exact Zrr h (.inr ho) hk
 ·rename_i c x y ho
  split at hk
  ·rename_i b hc
   exact ZBK h ho hc (by split at hk <;> rename_i hb <;> simp only [hb, if_true, if_false, Bool.false_eq_true] <;> exact hk)
  ·cases hk
 ·rename_i t ho
  split at hk
  ·rename_i i hi; rw [ho] at hp; cases hp
  ·cases hk
 ·rename_i t x ho
  split at hk
  ·rename_i l hl
   split at hk
   ·rename_i hu; rw [ho] at hp; cases hp
   ·cases hk
  ·cases hk
 ·rename_i t ps ho
  split at hk
  ·rename_i i hi
   split at hk
   ·rename_i fs hd
    split at hk
    ·rename_i l hl; exact ZA5 T hT h ho hi hd hl hk
    ·cases hk
   ·rename_i n e hd
    split at hk
    ·rename_i ti hti
     split at hk
     ·rename_i hl; exact Zrb T hT h ho hi hd hti hl hk
     ·cases hk
    ·cases hk
   ·cases hk
  ·cases hk
 ·rename_i t len ps ho
  rw [ho] at hp; cases hp
 ·rename_i t p ho
  split at hk
  ·rename_i i hi; exact ZBB T hT h ho hi hk (fun _ hx => hx)
  ·cases hk
 ·rename_i t p x ho
  split at hk
  ·rename_i hd
   split at hk
   ·rename_i i hi; rw [ho] at hp; cases hp
   ·cases hk
  ·cases hk
 ·rename_i op t x y yt ho; exact Zwn T hT h ho hk (fun _ hx => hx)
 ·rename_i op t x ho; exact ZCS h ho hk (fun _ hx => hx)
 ·rename_i t x y ho
  split at hk
  ·rename_i hs
   have := Zip hs
   subst this
   split at hk
   ·rename_i i hi
    split at hk
    ·rename_i e hd
     split at hk
     ·rename_i ti hti
      split at hk
      ·rename_i kk n hn; rw [ho] at hp; cases hp
      ·cases hk
     ·cases hk
    ·cases hk
   ·cases hk
  ·cases hk
 ·rename_i t x lo hi2 ho
  split at hk
  ·rename_i i hi
   split at hk
   ·rename_i e hd
    split at hk
    ·rename_i ti hti; exact ZA6 T hT h ho hi hd hti hk
    ·cases hk
   ·cases hk
  ·cases hk
 ·rename_i t x f ho
  split at hk
  ·rename_i i hi
   split at hk
   ·rename_i fs hd
    split at hk
    ·rename_i z hz; exact ZnQ T hT h ho hi hd hz hk
    ·cases hk
   ·cases hk
  ·cases hk
 ·rename_i t x f ho
  split at hk
  ·rename_i i hi
   split at hk
   ·rename_i fs hd
    split at hk
    ·rename_i z hz; exact ZzX T hT h ho hi hd hz hk
    ·cases hk
   ·cases hk
  ·cases hk
 ·rename_i t x y ho
  split at hk
  ·rename_i i hi
   split at hk
   ·rename_i e hd
    split at hk
    ·rename_i ti hti
     split at hk
     ·rename_i kk n hn; exact ZnL T hT h ho hi hd hti hn hk (fun _ hx => hx)
     ·cases hk
    ·cases hk
   ·rename_i m e hd
    split at hk
    ·rename_i ti hti
     split at hk
     ·rename_i kk n hn; exact Zr1 T hT h ho hi hd hti hn hk (fun _ hx => hx)
     ·cases hk
    ·cases hk
   ·cases hk
  ·cases hk
 ·rename_i t x y ho
  split at hk
  ·rename_i i hi
   split at hk
   ·rename_i m e hd
    split at hk
    ·rename_i ti hti; exact ZAu T hT h ho hi hd hti hk (fun _ hx => hx)
    ·cases hk
   ·cases hk
  ·cases hk
 ·rename_i x j ho
  split at hk
  ·rename_i l hl
   split at hk
   ·rename_i z hz; exact Zw9 h ho hl hz hk
   ·cases hk
  ·cases hk
 ·rename_i c ho
  obtain ⟨callee, args, ats⟩ := c
  simp only at hk
  split at hk
  ·split at hk
   ·rename_i x t hargs hats
    have h1 : args = #[x] := by apply Array.ext'; exact hargs
    have h2 : ats = #[t] := by apply Array.ext'; exact hats
    subst h1 h2
    split at hk
    ·rename_i i hi
     split at hk
     ·rename_i n hn; exact ZCn T hT h ho hi hn hk
     ·cases hk
    ·cases hk
   ·cases hk
  ·split at hk
   ·rename_i x y t t' hargs hats
    split at hk
    ·rename_i ht
     subst ht
     have h1 : args = #[x, y] := by apply Array.ext'; exact hargs
     have h2 : ats = #[t', t'] := by apply Array.ext'; exact hats
     subst h1 h2
     split at hk
     ·rename_i i hi
      split at hk
      ·rename_i e hd
       split at hk
       ·rename_i ti hti; rw [ho] at hp; cases hp
       ·cases hk
      ·cases hk
     ·cases hk
    ·cases hk
   ·cases hk
  ·rename_i f
   split at hk
   ·rename_i E hE; rw [ho] at hp; cases hp
   ·cases hk
  ·cases hk
 ·cases hk
def stillOp1 (G : Env) : Op → Bool
 | .alloc _ => true | .box _ _ => true | .buildSlice _ _ _ => true | .makeSlice _ _ _ => true
 | .call c => match c.callee with
  | .value (.func f) => match G.get f with
   | some E => (ownI E.ps).isNone && (boxI E.ps).isNone
   | none => false
  | _ => false
 | _ => false
theorem ZyI {γ : Type} {T : TT} {G : Env} {mvs : List Tmp} {k : Nat} {o : Oper} {K : St → Option γ} {r : γ} {Q : Exit → Act → World → Prop} (hT : TTok P T) (hG : EnvOK P k G) (h : Rel w0 S0 st μ a w) (hp : stillOp1 G o.op = true) (hk : stepOp1 T G mvs k o st K = some r) : o.wp P a w (Nxs w0 S0 w K r) Q := by
 unfold stepOp1 at hk
 cases ho : o.op with
 | alloc t =>
  rw [ho] at hk
  simp only at hk
  split at hk
  ·rename_i i hi; exact ZAn T hT h ho hi rfl hk
  ·cases hk
 | box t x =>
  rw [ho] at hk
  simp only at hk
  split at hk
  ·rename_i l hl
   split at hk
   ·rename_i hu; exact ZCx h ho hl hu hk
   ·cases hk
  ·cases hk
 | buildSlice t len ps =>
  rw [ho] at hk
  simp only at hk
  split at hk
  ·rename_i i hi
   split at hk
   ·rename_i e hd
    split at hk
    ·rename_i ti hti
     by_cases h0 : len = 0
     ·subst h0; exact ZhI T hT h ho hi hd hti hk
     ·exact ZlI T hT h ho hi hd hti hk h0
    ·cases hk
   ·cases hk
  ·cases hk
 | makeSlice t x y =>
  rw [ho] at hk
  simp only at hk
  split at hk
  ·rename_i hs
   have := Zip hs
   subst this
   split at hk
   ·rename_i i hi
    split at hk
    ·rename_i e hd
     split at hk
     ·rename_i ti hti
      split at hk
      ·rename_i kk n hn; exact ZBC (y := x) T hT h ho hi hd hti hn hk
      ·cases hk
     ·cases hk
    ·cases hk
   ·cases hk
  ·cases hk
 | call c =>
  obtain ⟨callee, args, ats⟩ := c
  rw [ho] at hk hp
  simp only [stillOp1] at hk hp
  split at hp
  ·rename_i f
   split at hp
   ·rename_i E hE
    simp only [hE] at hk
    exact ZBR (hG.ok f E hE) h ho (Option.isNone_iff_eq_none.1 ((Bool.and_eq_true _ _).mp hp).1) hk
   ·cases hp
  ·cases hp
 | _ => rw [ho] at hp; cases hp
noncomputable def stepX {γ : Type} (T : TT) (o : Oper) (st : St) (K : St → Option γ) : Option (Option γ) :=
 match o.op with
 | .makeMap t none => some (match mapInfo T t with
  | some (m, ie) => K (st.mk1 o.dst (.mp t m.2.2.1 m.2.2.2 ie.ty []) (.mp st.objs.length))
  | none => none)
 | .lookup t x key ok => some (match mapInfo T t with
  | some (m, ie) => opLookup m ie.ty st (st.ev x).atom (st.ev key) ok fun z => K (st.put o.dst z)
  | none => none)
 | .mapUpdate t x key val => some (match o.dst with
  | none => match mapInfo T t with
   | some (m, ie) => opMapPut m ie.ty st (st.ev x).atom (st.ev key) (st.ev val) K
   | none => none
  | some _ => none)
 | .convert src dst x => some (if convS dst = true then opConvS T src dst st (st.ev x).atom fun z => K (st.put o.dst (.sv (.at z))) else opConv T src dst (st.ev x).atom fun z => K (st.put o.dst (.sv (.at z))))
 | .nilCheck x => some (opNil (st.ev x).atom fun z => K (st.put o.dst (.sv (.at z))))
 | .binOp op t x y u => if gtBig op y = true then some (opGtS (st.ev x) fun z => K (st.put o.dst (.sv (.at z)))) else none
 | .index t x y => if strT T t = true then some (opIdxS (st.ev x).atom (st.ev y) fun z => K (st.put o.dst (.sv (.at z)))) else none
 | .slice t x lo hi none => if strT T t = true then some (opCutS (st.ev x).atom (lo.map st.ev) (hi.map st.ev) fun z => K (st.put o.dst (.sv (.at z)))) else none
 | .call c => match c.callee with
  | .builtin .max => some (match c.args.toList with
   | [x, y] => opMinMax true (st.ev x).atom (st.ev y).atom fun z => K (st.put o.dst (.sv (.at z)))
   | _ => none)
  | .builtin .min => some (match c.args.toList with
   | [x, y] => opMinMax false (st.ev x).atom (st.ev y).atom fun z => K (st.put o.dst (.sv (.at z)))
   | _ => none)
  | .builtin .len => match c.args.toList, c.argTypes.toList with
   | [x], [t] => match T.mapOf t with
    | some m => some (mapLen st (st.ev x).atom fun z => K (st.put o.dst (.sv (.at z))))
    | none => none
   | _, _ => none
  | _ => none
 | _ => none
noncomputable def stepB {γ : Type} (T : TT) (G : Env) (mvs : List Tmp) (k : Nat) (o : Oper) (st : St) (K : St → Option γ) : Option γ := match stepX T o st K with
 | some z => z
 | none => stepOp1 T G mvs k o st K
def pureX : Op → Bool
 | .lookup _ _ _ _ => true
 | .convert _ _ _ => true
 | .nilCheck _ => true
 | .index _ _ _ => true
 | .slice _ _ _ _ _ => true
 | .binOp _ _ _ _ _ => true
 | .call c => match c.callee with | .builtin .max => true | .builtin .min => true | .builtin .len => true | _ => false
 | _ => false
def pureOp (op : Op) : Bool := pureOp1 op || pureX op
def stillX : Op → Bool
 | .makeMap _ none => true
 | _ => false
def stillOp (G : Env) (op : Op) : Bool := stillOp1 G op || stillX op
theorem Zvy {γ : Type} {T : TT} {o : Oper} {K : St → Option γ} {r : γ} (hT : TTok P T) (h : Rel w0 S0 st μ a w) (hp : pureX o.op = true) (hk : stepX T o st K = some (some r)) : Went P o a w (Nx w0 S0 K r) := by
 unfold stepX at hk
 split at hk
 ·rename_i t ho; rw [ho] at hp; cases hp
 ·rename_i t x key ok ho
  injection hk with hk
  split at hk
  ·rename_i m ie hi; exact ZCo T hT h ho hi hk (fun _ hx => hx)
  ·cases hk
 ·rename_i t x key val ho; rw [ho] at hp; cases hp
 ·rename_i src dst x ho
  injection hk with hk
  split at hk
  ·rename_i hc
   exact ZCI hT h ho hc hk (fun _ hx => hx)
  ·exact ZBZ hT h ho hk (fun _ hx => hx)
 ·rename_i x ho
  injection hk with hk
  exact ZDc h ho hk (fun _ hx => hx)
 ·rename_i op t x y u ho
  split at hk
  ·rename_i hs
   injection hk with hk
   exact ZDj T hT h ho hs hk (fun _ hx => hx)
  ·cases hk
 ·rename_i t x y ho
  split at hk
  ·rename_i hs
   injection hk with hk
   exact ZCT T hT h ho hs hk (fun _ hx => hx)
  ·cases hk
 ·rename_i t x lo hi ho
  split at hk
  ·rename_i hs
   injection hk with hk
   exact ZD7 T hT h ho hs hk (fun _ hx => hx)
  ·cases hk
 ·rename_i c ho
  obtain ⟨callee, args, ats⟩ := c
  simp only at hk
  split at hk
  ·injection hk with hk
   split at hk
   ·rename_i x y hargs
    have h1 : args = #[x, y] := by apply Array.ext'; exact hargs
    subst h1
    exact ZCv (mx := true) h ho hk (fun _ hx => hx)
   ·cases hk
  ·injection hk with hk
   split at hk
   ·rename_i x y hargs
    have h1 : args = #[x, y] := by apply Array.ext'; exact hargs
    subst h1
    exact ZCv (mx := false) h ho hk (fun _ hx => hx)
   ·cases hk
  ·split at hk
   ·rename_i x t hargs hats
    have h1 : args = #[x] := by apply Array.ext'; exact hargs
    have h2 : ats = #[t] := by apply Array.ext'; exact hats
    subst h1 h2
    split at hk
    ·rename_i m hm
     injection hk with hk
     exact ZC8 T hT h ho hm hk (fun _ hx => hx)
    ·cases hk
   ·cases hk
  ·cases hk
 ·cases hk
theorem Ztk {γ : Type} {T : TT} {o : Oper} {K : St → Option γ} {r : γ} {Q : Exit → Act → World → Prop} (hT : TTok P T) (h : Rel w0 S0 st μ a w) (hp : stillX o.op = true) (hk : stepX T o st K = some (some r)) : o.wp P a w (Nxs w0 S0 w K r) Q := by
 unfold stepX at hk
 split at hk
 ·rename_i t ho
  injection hk with hk
  split at hk
  ·rename_i m ie hi; exact ZB3 h ho hk
  ·cases hk
 ·rename_i ho; rw [ho] at hp; cases hp
 ·rename_i ho; rw [ho] at hp; cases hp
 ·rename_i ho; rw [ho] at hp; cases hp
 ·rename_i ho; rw [ho] at hp; cases hp
 ·rename_i ho; rw [ho] at hp; cases hp
 ·rename_i ho; rw [ho] at hp; cases hp
 ·rename_i ho; rw [ho] at hp; cases hp
 ·rename_i ho; rw [ho] at hp; cases hp
 ·cases hk
theorem ZAQ {γ : Type} {T : TT} {o : Oper} {K : St → Option γ} {r : γ} {Q : Exit → Act → World → Prop} (hT : TTok P T) (h : Rel w0 S0 st μ a w) (hk : stepX T o st K = some (some r)) : o.wp P a w (Nx w0 S0 K r) Q := by
 by_cases hp : pureX o.op = true
 ·exact Went.wp (Zvy hT h hp hk)
 by_cases hs : stillX o.op = true
 ·exact ZeA (Ztk hT h hs hk)
 unfold stepX at hk
 split at hk
 ·rename_i t ho; exact (hs (by rw [ho]; rfl)).elim
 ·rename_i t x key ok ho; exact (hp (by rw [ho]; rfl)).elim
 ·rename_i t x key val ho
  injection hk with hk
  split at hk
  ·rename_i hd
   split at hk
   ·rename_i m ie hi; exact ZBN T hT h ho hd hi hk
   ·cases hk
  ·cases hk
 ·rename_i src dst x ho; exact (hp (by rw [ho]; rfl)).elim
 ·rename_i x ho; exact (hp (by rw [ho]; rfl)).elim
 ·rename_i ho; exact (hp (by rw [ho]; rfl)).elim
 ·rename_i ho; exact (hp (by rw [ho]; rfl)).elim
 ·rename_i ho; exact (hp (by rw [ho]; rfl)).elim
 ·rename_i c ho
  obtain ⟨callee, args, ats⟩ := c
  simp only at hk
  split at hk
  ·exact (hp (by rw [ho]; rfl)).elim
  ·exact (hp (by rw [ho]; rfl)).elim
  ·exact (hp (by rw [ho]; rfl)).elim
  ·cases hk
 ·cases hk
theorem ZBT {γ : Type} {T : TT} {o : Oper} {K : St → Option γ} {z : Option γ} (hk : stepX T o st K = some z) (hp : pureOp1 o.op = true) : pureX o.op = true := by
 unfold stepX at hk
 split at hk
 ·rename_i t ho; rw [ho] at hp; cases hp
 ·rename_i ho; rw [ho]; rfl
 ·rename_i ho; rw [ho] at hp; cases hp
 ·rename_i ho; rw [ho]; rfl
 ·rename_i ho; rw [ho]; rfl
 ·rename_i ho; rw [ho]; rfl
 ·rename_i ho; rw [ho]; rfl
 ·rename_i ho; rw [ho]; rfl
 ·rename_i c ho
  obtain ⟨callee, args, ats⟩ := c
  rw [ho] at hp ⊢
  simp only [pureOp1] at hp
  split at hp
  ·rfl
  ·cases hp
 ·cases hk
theorem ZzW {γ : Type} {T : TT} {G : Env} {o : Oper} {K : St → Option γ} {z : Option γ} (hk : stepX T o st K = some z) (hp : stillOp1 G o.op = true) : stillX o.op = true := by
 unfold stepX at hk
 split at hk
 ·rename_i t ho; rw [ho]; rfl
 ·rename_i ho; rw [ho] at hp; cases hp
 ·rename_i ho; rw [ho] at hp; cases hp
 ·rename_i ho; rw [ho] at hp; cases hp
 ·rename_i ho; rw [ho] at hp; cases hp
 ·rename_i ho; rw [ho] at hp; cases hp
 ·rename_i ho; rw [ho] at hp; cases hp
 ·rename_i ho; rw [ho] at hp; cases hp
 ·rename_i c ho
  obtain ⟨callee, args, ats⟩ := c
  rw [ho] at hp
  simp only at hk
  simp only [stillOp1] at hp
  split at hk <;> first | (cases hp; done) | (cases hk; done)
 ·cases hk
theorem ZBV {γ : Type} {T : TT} {o : Oper} {K : St → Option γ} (hk : stepX T o st K = none) (hp : pureX o.op = true) : pureOp1 o.op = true := by
 unfold stepX at hk
 split at hk
 ·cases hk
 ·cases hk
 ·cases hk
 ·cases hk
 ·cases hk
 ·rename_i ho; rw [ho]; rfl
 ·rename_i ho; rw [ho]; rfl
 ·rename_i ho; rw [ho]; rfl
 ·rename_i c ho
  obtain ⟨callee, args, ats⟩ := c
  rw [ho] at hp ⊢
  simp only at hk
  split at hk
  ·cases hk
  ·cases hk
  ·rfl
  ·simp only [pureX] at hp
   cases hp
 ·rename_i h1 h2 h3 h5 h6 h9 h7 h8 h4
  cases ho : o.op <;> rw [ho] at hp <;> first | rfl | exact (h2 _ _ _ _ ho).elim | exact (h4 _ ho).elim | exact (h5 _ _ _ ho).elim | exact (h6 _ ho).elim | cases hp
theorem ZAX {γ : Type} {T : TT} {G : Env} {o : Oper} {K : St → Option γ} (hk : stepX T o st K = none) (hp : stillX o.op = true) : stillOp1 G o.op = true := by
 unfold stillX at hp
 split at hp
 ·rename_i t ho
  simp only [stepX, ho] at hk
  cases hk
 ·cases hp
theorem ZBm {γ : Type} {T : TT} {G : Env} {mvs : List Tmp} {k : Nat} {o : Oper} {K : St → Option γ} {r : γ} {Q : Exit → Act → World → Prop} (hT : TTok P T) (hG : EnvOK P k G) (h : Rel w0 S0 st μ a w) (hk : stepB T G mvs k o st K = some r) : o.wp P a w (Nx w0 S0 K r) Q := by
 unfold stepB at hk
 split at hk
 ·rename_i z hz; rw [hk] at hz; exact ZAQ hT h hz
 ·exact ZzF hT hG h hk
theorem ZC5 {γ : Type} {T : TT} {G : Env} {mvs : List Tmp} {k : Nat} {o : Oper} {K : St → Option γ} {r : γ} (hT : TTok P T) (h : Rel w0 S0 st μ a w) (hp : pureOp o.op = true) (hk : stepB T G mvs k o st K = some r) : Went P o a w (Nx w0 S0 K r) := by
 unfold pureOp at hp
 rw [Bool.or_eq_true] at hp
 unfold stepB at hk
 split at hk
 ·rename_i z hz
  rw [hk] at hz
  exact Zvy hT h (hp.elim (ZBT hz) id) hz
 ·rename_i hz
  exact ZAw hT h (hp.elim id (ZBV hz)) hk
theorem ZB2 {γ : Type} {T : TT} {G : Env} {mvs : List Tmp} {k : Nat} {o : Oper} {K : St → Option γ} {r : γ} {Q : Exit → Act → World → Prop} (hT : TTok P T) (hG : EnvOK P k G) (h : Rel w0 S0 st μ a w) (hp : stillOp G o.op = true) (hk : stepB T G mvs k o st K = some r) : o.wp P a w (Nxs w0 S0 w K r) Q := by
 unfold stillOp at hp
 rw [Bool.or_eq_true] at hp
 unfold stepB at hk
 split at hk
 ·rename_i z hz
  rw [hk] at hz
  exact Ztk hT h (hp.elim (ZzW hz) id) hz
 ·rename_i hz
  exact ZyI hT hG h (hp.elim id (ZAX hz)) hk
noncomputable def stepY {γ : Type} (T : TT) (G : Env) (mvs : List Tmp) (k : Nat) (o : Oper) (st : St) (K : St → Option γ) : Option (Option γ) :=
 match o.op with
 | .indexAddr t x y => match o.dst with
  | some d => if mvs.contains d = true then some (match T.get t with
   | some i => match i.d with
    | .slice e => match T.get e with
     | some ti => match st.ev y with
      | .sv (.at (.int _ n)) => ipAddr ti st (st.ev x).atom n fun z => K (st.put o.dst (.sv (.at z)))
      | _ => none
     | none => none
    | _ => none
   | none => none) else none
  | none => none
 | .slice t x lo hi none => match o.dst with
  | some d => if mvs.contains d = true then match (st.ev x).atom with
   | .inn _ _ => some (match T.get t with
    | some i => match i.d with
     | .slice e => match T.get e with
      | some ti => sliceIn e ti st o.dst (st.ev x).atom (lo.map st.ev) (hi.map st.ev) K
      | none => none
     | _ => none
    | none => none)
   | _ => none
   else none
  | none => none
 | .store t p x => match o.dst with
  | none => match (st.ev p).atom with
   | .ip j q u n f => some (match T.get t with
    | some i => storeIp i st j q u n f (st.ev x) K
    | none => none)
   | _ => none
  | some _ => none
 | .load t p => match o.dst with
  | some d => if mvs.contains d = true then match (st.ev p).atom with
   | .ep j u q f => some (match T.get t with
    | some i => match i.d with
     | .slice e => match T.get e with
      | some ti => if mvs.contains (d + 100000) = true then (match f with
       | 0 => takeEp i st j u q o.dst K
       | _ => none) else infEp i e ti st j u q f fun z => K (st.put o.dst (.sv (.at z)))
      | none => none
     | _ => match f with
      | 0 => takeEp i st j u q o.dst K
      | _ => none
    | none => none)
   | _ => none
   else none
  | none => none
 | .binOp op _ x y _ => match o.dst with
  | some d => if mvs.contains (d + 200000) = true then some (opAddS op (st.ev x) (st.ev y) fun z => K (st.put o.dst (.sv (.at z)))) else none
  | none => none
 | .call c => match c.callee with
  | .value (.func f) => match G.get f with
   | some E => match boxI E.ps with
    | some (eb, t) => some (opCallB k E eb t st o.dst (c.args.toList.map st.ev) K)
    | none => match ownI E.ps with
     | some (_, e, u) => match ownInf E.ps (c.args.toList.map st.ev) with
      | some _ => some (opCallF k E e u st o.dst (c.args.toList.map st.ev) K)
      | none => none
     | none => none
   | none => none
  | _ => none
 | _ => none
noncomputable def stepC {γ : Type} (T : TT) (G : Env) (k : Nat) (o : Oper) (st : St) (K : St → Option γ) : Option (Option γ) :=
 match o.op with
 | .alloc t => if T.isFn t = true then some (K (st.mk1 o.dst (.box t [.un]) (.ptr st.objs.length 0))) else none
 | .load t p => if T.isFn t = true then some (match opFnLoad st (st.ev p).atom with
  | some y => K (st.put o.dst (.sv (.at y)))
  | none => none) else none
 | .store t p x => if T.isFn t = true then some (match o.dst with
  | none => match opFnStore st (st.ev p).atom (st.ev x).atom with
   | some st' => K st'
   | none => none
  | some _ => none) else none
 | .makeFunc fn first caps => some (match fn with
  | .func f => match first.toList with
   | [] => match capsL st caps.toList with
    | some l => K (st.mk1 o.dst (.clo f l) (.cv st.objs.length))
    | none => none
   | _ => none
  | _ => none)
 | .call c => match c.callee with
  | .value (.func f) => match G.get f with
   | some E => match E.cl with
    | some cl => if (ownI E.ps).isNone = false then some (cl.act k st o.dst (c.args.toList.map st.ev) K) else none
    | none => none
   | none => none
  | .value (.tmp i) => match (st.ev (.tmp i)).atom with
   | .cv j => match st.objs[j]? with
    | some (.clo f l) => match G.get f with
     | some E => match E.cl with
      | some cl => some (cl.act k st o.dst (c.args.toList.map st.ev ++ l.map fun x => .sv (.at x)) K)
      | none => none
     | none => none
    | _ => none
   | _ => none
  | _ => none
 | _ => none
noncomputable def stepOp {γ : Type} (T : TT) (G : Env) (mvs : List Tmp) (k : Nat) (o : Oper) (st : St) (K : St → Option γ) : Option γ := match stepC T G k o st K with
 | some z => z
 | none => match stepY T G mvs k o st K with
  | some z => z
  | none => stepB T G mvs k o st K
theorem Zwc {γ : Type} {T : TT} {G : Env} {k : Nat} {o : Oper} {K : St → Option γ} {r : γ} (hT : TTok P T) (h : Rel w0 S0 st μ a w) (hp : pureOp o.op = true) (hk : stepC T G k o st K = some (some r)) : Went P o a w (Nx w0 S0 K r) := by
 unfold stepC at hk
 split at hk
 ·rename_i t ho; rw [ho] at hp; cases hp
 ·rename_i t p ho
  split at hk
  ·rename_i hf
   injection hk with hk
   split at hk
   ·rename_i y hy; exact ZC0 (hT.2.2 t hf) h ho hy hk
   ·cases hk
  ·cases hk
 ·rename_i t p x ho; rw [ho] at hp; cases hp
 ·rename_i f first caps ho; rw [ho] at hp; cases hp
 ·rename_i c ho
  obtain ⟨callee, args, ats⟩ := c
  simp only at hk
  split at hk
  ·rw [ho] at hp
   simp only [pureOp, pureOp1, pureX] at hp
   cases hp
  ·rw [ho] at hp
   simp only [pureOp, pureOp1, pureX] at hp
   cases hp
  ·cases hk
 ·cases hk
theorem ZB7 {γ : Type} {T : TT} {G : Env} {k : Nat} {o : Oper} {K : St → Option γ} {r : γ} {Q : Exit → Act → World → Prop} (hT : TTok P T) (hG : EnvOK P k G) (h : Rel w0 S0 st μ a w) (hk : stepC T G k o st K = some (some r)) : o.wp P a w (Nx w0 S0 K r) Q := by
 by_cases hp : pureOp o.op = true
 ·exact Went.wp (Zwc hT h hp hk)
 unfold stepC at hk
 split at hk
 ·rename_i t ho
  split at hk
  ·rename_i hf
   injection hk with hk
   exact ZeA (Zto (hT.2.2 t hf) h ho hk)
  ·cases hk
 ·rename_i t p ho; exact (hp (by rw [ho]; rfl)).elim
 ·rename_i t p x ho
  split at hk
  ·rename_i hf
   injection hk with hk
   split at hk
   ·rename_i hd
    split at hk
    ·rename_i st' hs; exact ZBq (hT.2.2 t hf) h ho hd hs hk
    ·cases hk
   ·cases hk
  ·cases hk
 ·rename_i fn first caps ho
  injection hk with hk
  split at hk
  ·rename_i f
   split at hk
   ·rename_i h0
    have h1 : first = #[] := by apply Array.ext'; simpa using h0
    subst h1
    split at hk
    ·rename_i l hl; exact ZBU h ho hl hk
    ·cases hk
   ·cases hk
  ·cases hk
 ·rename_i c ho
  obtain ⟨callee, args, ats⟩ := c
  simp only at hk
  split at hk
  ·rename_i f
   split at hk
   ·rename_i E hE
    split at hk
    ·rename_i cl hc
     split at hk
     ·injection hk with hk
      exact Zvl (l := []) (caps := []) (hG.okc f E cl hE hc) h ho rfl ⟨rfl, fun j x v hx => by simp at hx⟩ (by simpa using hk)
     ·cases hk
    ·cases hk
   ·cases hk
  ·rename_i i
   split at hk
   ·rename_i j hj
    split at hk
    ·rename_i f l hob
     split at hk
     ·rename_i E hE
      split at hk
      ·rename_i cl hc
       injection hk with hk
       have ha := h.atom (.tmp i)
       rw [hj] at ha
       obtain ⟨q, hq, hv, _⟩ := ha
       obtain ⟨vs, hqv, hA⟩ := h.ob j _ q hob hq
       exact Zvl (hG.okc f E cl hE hc) h ho (hv.trans hqv) hA hk
      ·cases hk
     ·cases hk
    ·cases hk
   ·cases hk
  ·cases hk
 ·cases hk
theorem ZBa {γ : Type} {T : TT} {G : Env} {k : Nat} {o : Oper} {K : St → Option γ} {r : γ} {Q : Exit → Act → World → Prop} (hT : TTok P T) (h : Rel w0 S0 st μ a w) (hp : stillOp G o.op = true) (hk : stepC T G k o st K = some (some r)) : o.wp P a w (Nxs w0 S0 w K r) Q := by
 unfold stepC at hk
 split at hk
 ·rename_i t ho
  split at hk
  ·rename_i hf
   injection hk with hk
   exact Zto (hT.2.2 t hf) h ho hk
  ·cases hk
 ·rename_i ho; rw [ho] at hp; cases hp
 ·rename_i ho; rw [ho] at hp; cases hp
 ·rename_i ho; rw [ho] at hp; cases hp
 ·rename_i c ho
  obtain ⟨callee, args, ats⟩ := c
  simp only at hk
  split at hk
  ·rename_i f
   split at hk
   ·rename_i E hE
    rw [ho] at hp
    simp only [stillOp, stillOp1, stillX, hE, Bool.or_false, Bool.and_eq_true, Option.isNone_iff_eq_none] at hp
    split at hk
    ·rw [hp.1] at hk
     cases hk
    ·cases hk
   ·cases hk
  ·rename_i i; rw [ho] at hp; simp [stillOp, stillOp1, stillX] at hp
  ·cases hk
 ·cases hk
theorem Zw3 {γ : Type} {T : TT} {G : Env} {mvs : List Tmp} {k : Nat} {o : Oper} {K : St → Option γ} {r : γ} (hT : TTok P T) (h : Rel w0 S0 st μ a w) (hp : pureOp o.op = true) (hk : stepY T G mvs k o st K = some (some r)) : Went P o a w (Nx w0 S0 K r) := by
 unfold stepY at hk
 split at hk
 ·rename_i t x y ho
  split at hk
  ·split at hk
   ·injection hk with hk
    split at hk
    ·rename_i i hi
     split at hk
     ·rename_i e hie
      split at hk
      ·rename_i ti hte
       split at hk
       ·rename_i k n hn
        exact ZBP T hT h ho hi hie hte hn hk (fun _ hx => hx)
       ·cases hk
      ·cases hk
     ·cases hk
    ·cases hk
   ·cases hk
  ·cases hk
 ·rename_i t x lo hi ho
  split at hk
  ·split at hk
   ·split at hk
    ·injection hk with hk
     split at hk
     ·rename_i i hi2
      split at hk
      ·rename_i e hie
       split at hk
       ·rename_i ti hte
        exact ZBw T hT h ho hi2 hie hte hk
       ·cases hk
      ·cases hk
     ·cases hk
    ·cases hk
   ·cases hk
  ·cases hk
 ·rename_i t p x ho; rw [ho] at hp; cases hp
 ·rename_i t p ho
  split at hk
  ·split at hk
   ·split at hk
    ·rename_i j u q f hpa
     injection hk with hk
     split at hk
     ·rename_i i hi
      split at hk
      ·rename_i e hie
       split at hk
       ·rename_i ti hte
        split at hk
        ·split at hk
         ·exact Zva T hT h ho hi hpa hk
         ·cases hk
        ·exact ZCb T hT h ho hi hpa hk (fun _ hx => hx)
       ·cases hk
      ·split at hk
       ·exact Zva T hT h ho hi hpa hk
       ·cases hk
     ·cases hk
    ·cases hk
   ·cases hk
  ·cases hk
 ·rename_i op t x y u ho
  split at hk
  ·split at hk
   ·injection hk with hk
    exact ZCU T hT h ho hk (fun _ hx => hx)
   ·cases hk
  ·cases hk
 ·rename_i c ho
  obtain ⟨callee, args, ats⟩ := c
  simp only at hk
  split at hk
  ·rw [ho] at hp
   simp only [pureOp, pureOp1, pureX] at hp
   cases hp
  ·cases hk
 ·cases hk
theorem ZAI {γ : Type} {T : TT} {G : Env} {mvs : List Tmp} {k : Nat} {o : Oper} {K : St → Option γ} {r : γ} {Q : Exit → Act → World → Prop} (hT : TTok P T) (hG : EnvOK P k G) (h : Rel w0 S0 st μ a w) (hk : stepY T G mvs k o st K = some (some r)) : o.wp P a w (Nx w0 S0 K r) Q := by
 by_cases hp : pureOp o.op = true
 ·exact Went.wp (Zw3 hT h hp hk)
 unfold stepY at hk
 split at hk
 ·rename_i t x y ho; exact (hp (by rw [ho]; rfl)).elim
 ·rename_i t x lo hi ho; exact (hp (by rw [ho]; rfl)).elim
 ·rename_i t p x ho
  split at hk
  ·rename_i hd
   split at hk
   ·rename_i j q u n f hpa
    injection hk with hk
    split at hk
    ·rename_i i hi
     exact ZAP T hT h ho hd hi hpa hk
    ·cases hk
   ·cases hk
  ·cases hk
 ·rename_i t p ho; exact (hp (by rw [ho]; rfl)).elim
 ·rename_i op t x y u ho; exact (hp (by rw [ho]; rfl)).elim
 ·rename_i c ho
  obtain ⟨callee, args, ats⟩ := c
  simp only at hk
  split at hk
  ·rename_i f
   split at hk
   ·rename_i E hE
    split at hk
    ·rename_i eb t hbox
     injection hk with hk
     exact ZBg (hG.ok f E hE) h ho hbox hk
    ·split at hk
     ·rename_i pos e u hown
      split at hk
      ·injection hk with hk
       exact ZBv (hG.ok f E hE) h ho hown hk
      ·cases hk
     ·cases hk
   ·cases hk
  ·cases hk
 ·cases hk
theorem ZAH {γ : Type} {T : TT} {G : Env} {mvs : List Tmp} {k : Nat} {o : Oper} {K : St → Option γ} {z : Option γ} (hk : stepY T G mvs k o st K = some z) (hp : stillOp G o.op = true) : False := by
 unfold stepY at hk
 split at hk
 ·rename_i ho; rw [ho] at hp; cases hp
 ·rename_i ho; rw [ho] at hp; cases hp
 ·rename_i ho; rw [ho] at hp; cases hp
 ·rename_i ho; rw [ho] at hp; cases hp
 ·rename_i ho; rw [ho] at hp; cases hp
 ·rename_i c ho
  obtain ⟨callee, args, ats⟩ := c
  simp only at hk
  split at hk
  ·rename_i f
   split at hk
   ·rename_i E hE
    rw [ho] at hp
    simp only [stillOp, stillOp1, stillX, hE, Bool.or_false, Bool.and_eq_true, Option.isNone_iff_eq_none] at hp
    rw [hp.1, hp.2] at hk
    cases hk
   ·cases hk
  ·cases hk
 ·cases hk
theorem ZhK {γ : Type} {T : TT} {G : Env} {mvs : List Tmp} {k : Nat} {o : Oper} {K : St → Option γ} {r : γ} {Q : Exit → Act → World → Prop} (hT : TTok P T) (hG : EnvOK P k G) (h : Rel w0 S0 st μ a w) (hk : stepOp T G mvs k o st K = some r) : o.wp P a w (Nx w0 S0 K r) Q := by
 unfold stepOp at hk
 split at hk
 ·rename_i z hz; rw [hk] at hz; exact ZB7 hT hG h hz
 split at hk
 ·rename_i z hz; rw [hk] at hz; exact ZAI hT hG h hz
 ·exact ZBm hT hG h hk
theorem Zf6 {γ : Type} {T : TT} {G : Env} {mvs : List Tmp} {k : Nat} {o : Oper} {K : St → Option γ} {r : γ} (hT : TTok P T) (h : Rel w0 S0 st μ a w) (hp : pureOp o.op = true) (hk : stepOp T G mvs k o st K = some r) : Went P o a w (Nx w0 S0 K r) := by
 unfold stepOp at hk
 split at hk
 ·rename_i z hz; rw [hk] at hz; exact Zwc hT h hp hz
 split at hk
 ·rename_i z hz; rw [hk] at hz; exact Zw3 hT h hp hz
 ·exact ZC5 hT h hp hk
theorem ZpW {γ : Type} {T : TT} {G : Env} {mvs : List Tmp} {k : Nat} {o : Oper} {K : St → Option γ} {r : γ} {Q : Exit → Act → World → Prop} (hT : TTok P T) (hG : EnvOK P k G) (h : Rel w0 S0 st μ a w) (hp : stillOp G o.op = true) (hk : stepOp T G mvs k o st K = some r) : o.wp P a w (Nxs w0 S0 w K r) Q := by
 unfold stepOp at hk
 split at hk
 ·rename_i z hz; rw [hk] at hz; exact ZBa hT h hp hz
 split at hk
 ·rename_i z hz; exact (ZAH hz hp).elim
 ·exact ZB2 hT hG h hp hk
end

section
variable {γ : Type}
def guardAt (ops : Array Oper) (j : Nat) : Option Tmp := (ops[j]?).bind (·.dst)
def execOps (step : Oper → St → (St → Option γ) → Option γ) (ops : Array Oper) : List Oper → St → (St → Option γ) → Option γ
  | [], st, K => K st
  | o :: rest, st, K => match o.guard with
    | none => step o st fun st1 => execOps step ops rest st1 K
    | some (j, want) => match guardAt ops j with
      | none => none
      | some d => match st.tmps[d]? with
        | some (.sv (.at (.bool b))) =>
          if b = true then
            (if want = true then step o (st.put (some d) (.sv (.at (.bool true)))) fun st1 => execOps step ops rest st1 K
             else execOps step ops rest ((st.put (some d) (.sv (.at (.bool true)))).put o.dst (.tup [])) K)
          else
            (if want = true then execOps step ops rest ((st.put (some d) (.sv (.at (.bool false)))).put o.dst (.tup [])) K
             else step o (st.put (some d) (.sv (.at (.bool false)))) fun st1 => execOps step ops rest st1 K)
        | some (.tup []) => execOps step ops rest (st.put o.dst (.tup [])) K
        | _ => none
end
section
variable {P : Program} {w w1 w0 : World} {S0 : Own} {st : St} {μ : List ORec} {a : Act}
theorem ZmQ {μ : List ORec} {w : World} : TR μ w (.tup []) undef := ⟨[], rfl, rfl, fun j x u hx => by simp at hx⟩
theorem ZgR {ops : Array Oper} {j : Nat} {d : Tmp} (hg : guardAt ops j = some d) (h : Rel w0 S0 st μ a w) (hd : d < st.tmps.length) : yielded ops a.tmps j = match a.tmps.getD d undef with | .bool b => some b | _ => none := by
 unfold yielded
 unfold guardAt at hg
 have : a.tmps[d]? = some (a.tmps.getD d undef) := ZAD (by rw [h.tm]; exact hd)
 simp only [hg, Option.bind_some, this]
 cases a.tmps.getD d undef <;> rfl
theorem ZfY {γ : Type} {step : Oper → St → (St → Option γ) → Option γ} {ops : Array Oper} {K : St → Option γ} {r : γ} {Q : Exit → Act → World → Prop} (hQ : ∀ a w, Nx w0 S0 K r a w → Q .normal a w)
    (hstep : ∀ (o : Oper) (st : St) (μ : List ORec) (a : Act) (w : World) (K' : St → Option γ), Rel w0 S0 st μ a w → step o st K' = some r → o.wp P a w (Nx w0 S0 K' r) Q) :
    ∀ (l : List Oper) (st : St) (μ : List ORec) (a : Act) (w : World), Rel w0 S0 st μ a w → execOps step ops l st K = some r → wpList P ops Q l a w
  | [], st, μ, a, w, h, hk => hQ a w ⟨st, μ, h, hk⟩
  | o :: rest, st, μ, a, w, h, hk => by
    have go : ∀ (st : St), Rel w0 S0 st μ a w → Region.wanted o (yielded ops a.tmps) = true → step o st (fun st1 => execOps step ops rest st1 K) = some r → wpList P ops Q (o :: rest) a w := by
      intro st h hw hk
      unfold wpList
      rw [if_pos hw]
      left
      have := hstep o st μ a w _ h hk
      exact Oper.wp_mono (fun a' w' ⟨st', μ', h', hk'⟩ => ZfY hQ hstep rest st' μ' a' w' h' hk') this
    have skip : ∀ (st : St), Rel w0 S0 st μ a w → Region.wanted o (yielded ops a.tmps) = false → execOps step ops rest (st.put o.dst (.tup [])) K = some r → wpList P ops Q (o :: rest) a w := by
      intro st h hw hk
      unfold wpList
      rw [if_neg (by rw [hw]; simp)]
      exact ZfY hQ hstep rest _ μ _ w (h.put o.dst ZmQ) hk
    simp only [execOps] at hk
    split at hk
    · rename_i hg
      exact go st h (by unfold Region.wanted; rw [hg]) hk
    · rename_i j want hg
      have hwant : ∀ y, yielded ops a.tmps j = y → Region.wanted o (yielded ops a.tmps) = (y == some want) := by
        intro y hy
        unfold Region.wanted
        rw [hg]
        simp only [hy]
      split at hk
      · cases hk
      · rename_i d hd
        split at hk
        · rename_i b hb
          have hlt := (List.getElem?_eq_some_iff.1 hb).1
          have hv : a.tmps.getD d undef = .bool b := (h.tv d _ hb).1
          have hy := ZgR hd h hlt
          rw [hv] at hy
          have hre : Rel w0 S0 (st.put (some d) (.sv (.at (.bool b)))) μ a w := h.retell (t := d) (x := .sv (.at (.bool b))) (by rw [hv]; exact ⟨rfl, .inr rfl⟩)
          split at hk
          · rename_i hbt
            subst hbt
            split at hk
            · rename_i hw; subst hw
              exact go _ hre (by rw [hwant _ hy]; rfl) hk
            · rename_i hw
              exact skip _ hre (by rw [hwant _ hy]; cases want <;> simp_all) hk
          · rename_i hbf
            have hbf : b = false := by simpa using hbf
            subst hbf
            split at hk
            · rename_i hw; subst hw
              exact skip _ hre (by rw [hwant _ hy]; rfl) hk
            · rename_i hw
              exact go _ hre (by rw [hwant _ hy]; cases want <;> simp_all) hk
        · rename_i hb
          have hlt := (List.getElem?_eq_some_iff.1 hb).1
          obtain ⟨vs, hv, hl, _⟩ := h.tv d _ hb
          obtain rfl : vs = [] := List.eq_nil_of_length_eq_zero hl
          have hy := ZgR hd h hlt
          rw [hv] at hy
          exact skip st h (by rw [hwant _ hy]; rfl) hk
        · cases hk
end
end Go.Proofs.Ytpeflcbadgfebaa.Vs

set_option linter.unusedVariables false
set_option linter.unusedSimpArgs false
namespace Go.Proofs.Ytpeflcbadgfebaa.Vs
open Go.RowKit

inductive Sh where
 | int (k : IntKind) | bool | str | sl (i : Nat) | snap (i : Nat) (t : Ty) | ptr (i f : Nat) | inn (i : Nat) | mp (i : Nat) | cv (i : Nat) | pc (i j : Nat) | es (i : Nat) (t : Ty)
@[reducible] def Sh.D : Sh → Type
 | .int _ => Int | .bool => Bool | .str => ByteArray | .sl _ => Unit | .snap _ t => List t.D | .ptr _ _ => Unit | .inn _ => Int | .mp _ => Unit | .cv _ => Unit | .pc _ _ => Unit | .es _ t => t.D
def Sh.at : (s : Sh) → s.D → At
 | .int k, n => .int k n | .bool, b => .bool b | .str, s => .str s | .sl i, _ => .sl i | .snap i t, xs => .snap i t xs | .ptr i f, _ => .ptr i f | .inn i, j => .inn i j | .mp i, _ => .mp i | .cv i, _ => .cv i | .pc i j, _ => .pc i j | .es i t, x => .es i t x 0
@[reducible] def ShL : List Sh → Type
 | [] => Unit
 | s :: l => s.D × ShL l
def ShL.ats : (l : List Sh) → ShL l → List At
 | [], _ => []
 | s :: l, x => s.at x.1 :: ShL.ats l x.2
inductive TSh where
 | at (s : Sh) | agg (l : List Sh)
@[reducible] def TSh.D : TSh → Type
 | .at s => s.D | .agg l => ShL l
def TSh.tv : (s : TSh) → s.D → TV
 | .at s, x => .sv (.at (s.at x)) | .agg l, x => .sv (.agg (ShL.ats l x))
inductive OSh where
 | ro | row (fr : Bool) (e : TypeId) (t : Ty) | box (e : TypeId) (l : List Sh) | mp (t : TypeId) (ag : Bool) (n : Nat) (u : Ty) | fx (t : Ty) | clo (f : Nat) (l : List Sh)
@[reducible] def OSh.D : OSh → Type
 | .ro => Unit | .row _ _ t => List t.D | .box _ l => ShL l | .mp _ _ _ u => List (List Int × u.D) | .fx t => List t.D | .clo _ l => ShL l
def OSh.ob : (s : OSh) → s.D → Ob
 | .ro, _ => .ro | .row fr e t, xs => .row fr e t xs | .box e l, x => .box e (ShL.ats l x) | .mp t ag n u, es => .mp t ag n u es | .fx t, xs => .fx t xs | .clo f l, x => .clo f (ShL.ats l x)
@[reducible] def OL : List OSh → Type
 | [] => Unit
 | s :: l => s.D × OL l
def OL.obs : (l : List OSh) → OL l → List Ob
 | [], _ => []
 | s :: l, x => s.ob x.1 :: OL.obs l x.2
@[reducible] def TL : List (Tmp × TSh) → Type
 | [] => Unit
 | s :: l => s.2.D × TL l
def TL.put : (l : List (Tmp × TSh)) → TL l → List TV → List TV
 | [], _, ts => ts
 | s :: l, x, ts => (TL.put l x.2 ts).set s.1 (s.2.tv x.1)
structure Spec where
 objs : List OSh
 tmps : List (Tmp × TSh)
@[reducible] def Spec.D (s : Spec) : Type := OL s.objs × TL s.tmps
def Spec.st (s : Spec) (n : Nat) (x : s.D) : St := { tmps := TL.put s.tmps x.2 (List.replicate n (.sv (.at .un))), objs := OL.obs s.objs x.1 }

def Sh.fit (σ : List Nat) : (s : Sh) → At → Option s.D
 | .int k, .int k' n => if k' = k then some n else none
 | .bool, .bool b => some b
 | .str, .str s => some s
 | .sl i, .sl j => if σ[i]? = some j then some () else none
 | .snap i t, .snap j t' xs => if σ[i]? = some j then if h : t' = t then some (h ▸ xs) else none else none
 | .snap i t, .nils => if i < σ.length then some [] else none
 | .ptr i f, .ptr j g => if σ[i]? = some j ∧ g = f then some () else none
 | .inn i, .inn j q => if σ[i]? = some j then some q else none
 | .mp i, .mp j => if σ[i]? = some j then some () else none
 | .cv i, .cv j => if σ[i]? = some j then some () else none
 | .pc i j, .pc a b => if σ[i]? = some a ∧ σ[j]? = some b then some () else none
 | .es i t, .es j t' x f => if σ[i]? = some j ∧ f = 0 then if h : t' = t then some (h ▸ x) else none else none
 | _, _ => none
def ShL.fit (σ : List Nat) : (l : List Sh) → List At → Option (ShL l)
 | [], [] => some ()
 | s :: l, x :: xs => match s.fit σ x with
  | some d => match ShL.fit σ l xs with
   | some ds => some (d, ds)
   | none => none
  | none => none
 | _, _ => none
def TSh.fit (σ : List Nat) : (s : TSh) → TV → Option s.D
 | .at s, .sv (.at x) => s.fit σ x
 | .agg l, .sv (.agg xs) => ShL.fit σ l xs
 | _, _ => none
def OSh.fit (σ : List Nat) : (s : OSh) → Ob → Option s.D
 | .ro, _ => some ()
 | .row fr e t, .row fr' e' t' xs => if (fr = true → fr' = true) ∧ e' = e then if h : t' = t then some (h ▸ xs) else none else none
 | .box e l, .box e' xs => if e' = e then ShL.fit σ l xs else none
 | .mp t ag n u, .mp t' ag' n' u' es => if t' = t ∧ ag' = ag ∧ n' = n then if h : u' = u then some (h ▸ es) else none else none
 | .fx t, .fx t' xs => if h : t' = t then some (h ▸ xs) else none
 | .clo f l, .clo f' xs => if f' = f then ShL.fit σ l xs else none
 | _, _ => none
def OL.fit (σ : List Nat) (st : St) : (l : List OSh) → (js : List Nat) → Option (OL l)
 | [], [] => some ()
 | s :: l, j :: js => match st.objs[j]? with
  | some o => match s.fit σ o with
   | some d => match OL.fit σ st l js with
    | some ds => some (d, ds)
    | none => none
   | none => none
  | none => none
 | _, _ => none
def TL.fit (σ : List Nat) (st : St) : (l : List (Tmp × TSh)) → Option (TL l)
 | [] => some ()
 | s :: l => match st.tmps[s.1]? with
  | some x => match s.2.fit σ x with
   | some d => match TL.fit σ st l with
    | some ds => some (d, ds)
    | none => none
   | none => none
  | none => none
def distinct : List Nat → Bool
 | [] => true
 | x :: l => !l.contains x && distinct l
def ownFirst (no : Nat) (σ : List Nat) : Bool := (List.range (no + 1)).all fun j => σ[j]? == some j
def Spec.fit (s : Spec) (no : Nat) (σ : List Nat) (st : St) : Option s.D :=
 if distinct σ = true ∧ ownFirst no σ = true then match OL.fit σ st s.objs σ with
  | some x => match TL.fit σ st s.tmps with
   | some y => some (x, y)
   | none => none
  | none => none
 else none

section
variable {P : Program} {w w1 w0 : World} {S0 : Own} {st : St} {μ μ' : List ORec} {a : Act} {σ : List Nat}
def Renamed (σ : List Nat) (μ μ' : List ORec) : Prop := μ'.length = σ.length ∧ ∀ (i j : Nat), σ[i]? = some j → ∃ r, μ[j]? = some r ∧ μ'[i]? = some r
theorem Sh.fit_sound (hσ : Renamed σ μ μ') : ∀ {s : Sh} {x : At} {d : s.D} {v : Value}, s.fit σ x = some d → AR μ w x v → AR μ' w (s.at d) v := by
 intro s x d v hf hx
 have get : ∀ {i j : Nat} {r : ORec}, σ[i]? = some j → μ[j]? = some r → μ'[i]? = some r := by
  intro i j r hi hr
  obtain ⟨q, h1, h2⟩ := hσ.2 i j hi
  rw [hr] at h1
  injection h1 with h1
  rw [h1]; exact h2
 cases s with
 | int k =>
  cases x <;> simp only [Sh.fit] at hf <;> try (cases hf; done)
  split at hf
  ·rename_i hk; subst hk; injection hf with hf; subst hf; exact hx
  ·cases hf
 | bool => cases x <;> simp only [Sh.fit] at hf <;> first | (injection hf with hf; subst hf; exact hx) | cases hf
 | str => cases x <;> simp only [Sh.fit] at hf <;> first | (injection hf with hf; subst hf; exact hx) | cases hf
 | sl i =>
  cases x <;> simp only [Sh.fit] at hf <;> try (cases hf; done)
  split at hf
  ·rename_i hi
   obtain ⟨r, hr, h2⟩ := hx
   exact ⟨r, get hi hr, h2⟩
  ·cases hf
 | snap i t =>
  cases x <;> simp only [Sh.fit] at hf <;> try (cases hf; done)
  ·split at hf
   ·rename_i hi
    injection hf with hf
    subst hf
    obtain ⟨r, _, h2⟩ := hσ.2 i σ[i] (List.getElem?_eq_getElem hi)
    exact ⟨r, h2, by rw [show v = _ from hx]; exact RowRd.nils _ _ _ _⟩
   ·cases hf
  ·split at hf
   ·rename_i hi
    split at hf
    ·rename_i ht
     subst ht
     injection hf with hf
     subst hf
     obtain ⟨r, hr, h2⟩ := hx
     exact ⟨r, get hi hr, h2⟩
    ·cases hf
   ·cases hf
 | ptr i f =>
  cases x <;> simp only [Sh.fit] at hf <;> try (cases hf; done)
  split at hf
  ·rename_i hi
   obtain ⟨r, hr, h2⟩ := hx
   exact ⟨r, get hi.1 hr, by rw [← hi.2]; exact h2⟩
  ·cases hf
 | inn i =>
  cases x <;> simp only [Sh.fit] at hf <;> try (cases hf; done)
  split at hf
  ·rename_i hi
   injection hf with hf
   subst hf
   obtain ⟨r, ad, n, c, hr, h2⟩ := hx
   exact ⟨r, ad, n, c, get hi hr, h2⟩
  ·cases hf
 | mp i =>
  cases x <;> simp only [Sh.fit] at hf <;> try (cases hf; done)
  split at hf
  ·rename_i hi
   obtain ⟨r, hr, h2⟩ := hx
   exact ⟨r, get hi hr, h2⟩
  ·cases hf
 | cv i =>
  cases x <;> simp only [Sh.fit] at hf <;> try (cases hf; done)
  split at hf
  ·rename_i hi
   obtain ⟨r, hr, h2⟩ := hx
   exact ⟨r, get hi hr, h2⟩
  ·cases hf
 | pc i j =>
  cases x <;> simp only [Sh.fit] at hf <;> try (cases hf; done)
  split at hf
  ·rename_i hi
   obtain ⟨r, q, g, hr, hq, h2⟩ := hx
   exact ⟨r, q, g, get hi.1 hr, get hi.2 hq, h2⟩
  ·cases hf
 | es i t =>
  cases x <;> simp only [Sh.fit] at hf <;> try (cases hf; done)
  split at hf
  ·rename_i hi
   split at hf
   ·rename_i ht
    subst ht
    injection hf with hf
    subst hf
    obtain ⟨r, ad, cs, hr, h2⟩ := hx
    exact ⟨r, ad, cs, get hi.1 hr, by rw [← hi.2]; exact h2⟩
   ·cases hf
  ·cases hf
theorem ShL.fit_sound (hσ : Renamed σ μ μ') : ∀ {l : List Sh} {xs : List At} {d : ShL l} {vs : List Value}, ShL.fit σ l xs = some d → AL μ w xs vs → AL μ' w (ShL.ats l d) vs
 | [], [], d, vs, _, h => ⟨h.1, fun j x v hx => by simp [ShL.ats] at hx⟩
 | [], _ :: _, d, vs, hf, h => by simp [ShL.fit] at hf
 | _ :: _, [], d, vs, hf, h => by simp [ShL.fit] at hf
 | s :: l, x :: xs, d, vs, hf, h => by
  simp only [ShL.fit] at hf
  split at hf
  ·rename_i d1 h1
   split at hf
   ·rename_i ds h2
    injection hf with hf
    subst hf
    match vs, h with
    | v :: vs, h =>
     have hx := h.2 0 x v rfl rfl
     have hrest : AL μ w xs vs := ⟨by simpa using h.1, fun j y u hy hu => h.2 (j + 1) y u (by simpa using hy) (by simpa using hu)⟩
     have ih := ShL.fit_sound hσ h2 hrest
     refine ⟨by simp [ShL.ats, ih.1], fun j y u hy hu => ?_⟩
     cases j with
     | zero =>
      simp only [ShL.ats, List.getElem?_cons_zero] at hy hu
      injection hy with hy; injection hu with hu
      subst hy hu
      exact Sh.fit_sound hσ h1 hx
     | succ j => exact ih.2 j y u (by simpa [ShL.ats] using hy) (by simpa using hu)
   ·cases hf
  ·cases hf
theorem TSh.fit_sound (hσ : Renamed σ μ μ') {s : TSh} {x : TV} {d : s.D} {v : Value} (hf : s.fit σ x = some d) (hx : TR μ w x v) : TR μ' w (s.tv d) v := by
 cases s with
 | «at» s =>
  match x, hf, hx with
  | .sv (.at x), hf, hx =>
   refine ⟨Sh.fit_sound hσ hf hx.1, ?_⟩
   rcases hx.2 with rfl | h2
   ·cases s <;> simp [TSh.fit, Sh.fit] at hf
   ·exact .inr h2
  | .sv (.agg _), hf, hx => cases hf
  | .tup _, hf, hx => cases hf
 | agg l =>
  match x, hf, hx with
  | .sv (.agg xs), hf, hx =>
   obtain ⟨vs, hv, hA⟩ := hx
   exact ⟨vs, hv, ShL.fit_sound hσ hf hA⟩
  | .sv (.at _), hf, hx => cases hf
  | .tup _, hf, hx => cases hf
theorem OSh.fit_sound (hσ : Renamed σ μ μ') {s : OSh} {o : Ob} {d : s.D} {r : ORec} (hf : s.fit σ o = some d) (h : OR μ w o r) : OR μ' w (s.ob d) r := by
 cases s with
 | ro => trivial
 | row fr e t =>
  cases o <;> simp only [OSh.fit] at hf <;> try (cases hf; done)
  split at hf
  ·rename_i he
   split at hf
   ·rename_i ht
    subst ht
    injection hf with hf
    subst hf
    rw [← he.2]
    exact h
   ·cases hf
  ·cases hf
 | box e l =>
  cases o <;> simp only [OSh.fit] at hf <;> try (cases hf; done)
  split at hf
  ·rename_i he
   subst he
   obtain ⟨h0, vs, h1, h2, h3⟩ := h
   exact ⟨h0, vs, h1, ShL.fit_sound hσ hf h2, h3⟩
  ·cases hf
 | mp t ag n u =>
  cases o <;> simp only [OSh.fit] at hf <;> try (cases hf; done)
  split at hf
  ·rename_i he
   obtain ⟨rfl, rfl, rfl⟩ := he
   split at hf
   ·rename_i hu
    subst hu
    injection hf with hf
    subst hf
    exact h
   ·cases hf
  ·cases hf
 | fx t =>
  cases o <;> simp only [OSh.fit] at hf <;> try (cases hf; done)
  split at hf
  ·rename_i ht
   subst ht
   injection hf with hf
   subst hf
   exact h
  ·cases hf
 | clo f l =>
  cases o <;> simp only [OSh.fit] at hf <;> try (cases hf; done)
  split at hf
  ·rename_i he
   subst he
   obtain ⟨vs, h1, h2⟩ := h
   exact ⟨vs, h1, ShL.fit_sound hσ hf h2⟩
  ·cases hf
theorem OSh.fit_owned {s : OSh} {o : Ob} {d : s.D} (hf : s.fit σ o = some d) (ho : (s.ob d).owned = true) : o.owned = true := by
 cases s with
 | ro => cases ho
 | row fr e t => cases o <;> simp only [OSh.fit] at hf <;> first | rfl | cases hf
 | box e l => cases o <;> simp only [OSh.fit] at hf <;> first | rfl | cases hf
 | mp t ag n u => cases o <;> simp only [OSh.fit] at hf <;> first | rfl | cases hf
 | fx t => cases ho
 | clo f l => cases ho
theorem OL.fit_get : ∀ {l : List OSh} {js : List Nat} {x : OL l}, OL.fit σ st l js = some x → l.length = js.length ∧ (OL.obs l x).length = js.length ∧ ∀ (i j : Nat), js[i]? = some j → ∃ (o : Ob) (s : OSh) (d : s.D), st.objs[j]? = some o ∧ s.fit σ o = some d ∧ (OL.obs l x)[i]? = some (s.ob d)
 | [], [], x, _ => ⟨rfl, rfl, fun i j h => by simp at h⟩
 | [], _ :: _, x, h => by simp [OL.fit] at h
 | _ :: _, [], x, h => by simp [OL.fit] at h
 | s :: l, j :: js, x, h => by
  simp only [OL.fit] at h
  split at h
  ·rename_i o ho
   split at h
   ·rename_i d hd
    split at h
    ·rename_i ds hds
     injection h with h
     subst h
     obtain ⟨h1, h2, h3⟩ := OL.fit_get hds
     refine ⟨by simp [h1], by simp [OL.obs, h2], fun i jj hi => ?_⟩
     cases i with
     | zero =>
      simp only [List.getElem?_cons_zero] at hi
      injection hi with hi
      subst hi
      exact ⟨o, s, d, ho, hd, rfl⟩
     | succ i => exact h3 i jj (by simpa using hi)
    ·cases h
   ·cases h
  ·cases h
theorem TL.put_len : ∀ {l : List (Tmp × TSh)} {x : TL l} {ts : List TV}, (TL.put l x ts).length = ts.length
 | [], _, _ => rfl
 | s :: l, x, ts => by simp [TL.put, TL.put_len]
theorem TL.fit_sound (h : Rel w0 S0 st μ a w) (hσ : Renamed σ μ μ') : ∀ {l : List (Tmp × TSh)} {x : TL l} {n : Nat}, TL.fit σ st l = some x → ∀ (i : Nat) y, (TL.put l x (List.replicate n (.sv (.at .un))))[i]? = some y → TR μ' w y (a.tmps.getD i undef)
 | [], x, n, _, i, y, hy => by
  simp only [TL.put, List.getElem?_replicate] at hy
  split at hy
  ·injection hy with hy
   subst hy
   exact ⟨trivial, .inl rfl⟩
  ·cases hy
 | s :: l, x, n, hf, i, y, hy => by
  simp only [TL.fit] at hf
  split at hf
  ·rename_i z hz
   split at hf
   ·rename_i d hd
    split at hf
    ·rename_i ds hds
     injection hf with hf
     subst hf
     simp only [TL.put, List.getElem?_set] at hy
     split at hy
     ·rename_i hi
      split at hy
      ·injection hy with hy
       subst hy
       rw [← hi]
       exact TSh.fit_sound hσ hd (h.tv _ z hz)
      ·cases hy
     ·exact TL.fit_sound h hσ hds i y hy
    ·cases hf
   ·cases hf
  ·cases hf
theorem Zt5 : ∀ {σ : List Nat}, distinct σ = true → ∀ (i j x : Nat), σ[i]? = some x → σ[j]? = some x → i = j
 | [], _, i, j, x, hi, _ => by simp at hi
 | y :: σ, h, i, j, x, hi, hj => by
  simp only [distinct, Bool.and_eq_true, Bool.not_eq_true', List.contains_eq_mem, decide_eq_false_iff_not] at h
  cases i with
  | zero =>
   obtain rfl : y = x := by simpa using hi
   cases j with
   | zero => rfl
   | succ j => exact absurd (List.mem_of_getElem? (by simpa using hj)) h.1
  | succ i =>
   cases j with
   | zero =>
    obtain rfl : y = x := by simpa using hj
    exact absurd (List.mem_of_getElem? (by simpa using hi)) h.1
   | succ j => rw [Zt5 h.2 i j x (by simpa using hi) (by simpa using hj)]
theorem Spec.fit_sound (h : Rel w0 S0 st μ a w) {s : Spec} {no n : Nat} {x : s.D} (hno : S0.ov.length = no) (hn : st.tmps.length = n) (hf : s.fit no σ st = some x) : ∃ μ', Rel w0 S0 (s.st n x) μ' a w := by
 unfold Spec.fit at hf
 split at hf
 ·rename_i hc
  obtain ⟨hdis, hown⟩ := hc
  split at hf
  ·rename_i xo hxo
   split at hf
   ·rename_i xt hxt
    injection hf with hf
    subst hf
    obtain ⟨l1, l2, hget⟩ := OL.fit_get hxo
    have hrec : ∀ (i j : Nat), σ[i]? = some j → ∃ r, μ[j]? = some r := fun i j hij => by
     obtain ⟨o, _, _, ho, _⟩ := hget i j hij
     exact h.some_rec ho
    have hσ : Renamed σ μ (σ.map fun j => (μ[j]?).getD ⟨undef, 0, fun _ => False⟩) := ⟨by simp, fun i j hij => by
     obtain ⟨r, hr⟩ := hrec i j hij
     exact ⟨r, hr, by rw [List.getElem?_map, hij]; simp [hr]⟩⟩
    generalize (σ.map fun j => (μ[j]?).getD ⟨undef, 0, fun _ => False⟩) = μ' at hσ
    have back : ∀ (i : Nat) r, μ'[i]? = some r → ∃ j, σ[i]? = some j ∧ μ[j]? = some r := by
     intro i r hr
     have hlt : i < σ.length := by rw [← hσ.1]; exact (List.getElem?_eq_some_iff.1 hr).1
     obtain ⟨q, h1, h2⟩ := hσ.2 i σ[i] (List.getElem?_eq_getElem hlt)
     rw [hr] at h2
     injection h2 with h2
     exact ⟨σ[i], List.getElem?_eq_getElem hlt, by rw [h1, h2]⟩
    have obk : ∀ (i : Nat) o', (OL.obs s.objs xo)[i]? = some o' → ∃ (j : Nat) (o : Ob) (sh : OSh) (d : sh.D), σ[i]? = some j ∧ st.objs[j]? = some o ∧ sh.fit σ o = some d ∧ o' = sh.ob d := by
     intro i o' ho'
     have hlt : i < σ.length := by rw [← l2]; exact (List.getElem?_eq_some_iff.1 ho').1
     obtain ⟨o, sh, d, h1, h2, h3⟩ := hget i σ[i] (List.getElem?_eq_getElem hlt)
     rw [ho'] at h3
     injection h3 with h3
     exact ⟨σ[i], o, sh, d, List.getElem?_eq_getElem hlt, h1, h2, h3⟩
    refine ⟨μ', ⟨by rw [hσ.1]; exact l2.symm, by simp only [Spec.st, TL.put_len, List.length_replicate]; rw [h.tm, hn], fun i y hy => TL.fit_sound h hσ hxt i y hy, fun i o' r ho' hr => ?_, fun i j o' ri rj hij ho' hw hri hrj k hk => ?_, fun i o' r ho' hr hw k hk => ?_, fun i e t xs r ho' hr k hk => ?_, fun i r hr k hk => ?_, h.kp, h.df, fun j v hv => ?_, h.gb⟩⟩
    ·obtain ⟨j, o, sh, d, h1, h2, h3, rfl⟩ := obk i o' ho'
     obtain ⟨j2, g1, g2⟩ := back i r hr
     rw [h1] at g1
     injection g1 with g1
     subst g1
     exact OSh.fit_sound hσ h3 (h.ob j o r h2 g2)
    ·obtain ⟨ji, o, sh, d, h1, h2, h3, rfl⟩ := obk i o' ho'
     obtain ⟨j2, g1, g2⟩ := back i ri hri
     rw [h1] at g1
     injection g1 with g1
     subst g1
     obtain ⟨jj, f1, f2⟩ := back j rj hrj
     exact h.dj ji jj o ri rj (fun e => hij (Zt5 hdis i j ji h1 (by rw [e]; exact f1))) h2 (OSh.fit_owned h3 hw) g2 f2 k hk
    ·obtain ⟨ji, o, sh, d, h1, h2, h3, rfl⟩ := obk i o' ho'
     obtain ⟨j2, g1, g2⟩ := back i r hr
     rw [h1] at g1
     injection g1 with g1
     subst g1
     exact h.wr ji o r h2 g2 (OSh.fit_owned h3 hw) k hk
    ·obtain ⟨ji, o, sh, d, h1, h2, h3, h4⟩ := obk i _ ho'
     obtain ⟨j2, g1, g2⟩ := back i r hr
     rw [h1] at g1
     injection g1 with g1
     subst g1
     cases sh with
     | ro => cases h4
     | box e l => cases h4
     | mp t2 ag n u => cases h4
     | fx t2 => cases h4
     | clo f l => cases h4
     | row fr e' t' =>
      have hfr : fr = true := by cases h4; rfl
      subst hfr
      cases o <;> simp only [OSh.fit] at h3 <;> try (cases h3; done)
      split at h3
      ·rename_i hc
       have := hc.1 trivial
       subst this
       exact h.fr ji _ _ _ r h2 g2 k hk
      ·cases h3
    ·obtain ⟨j, h1, h2⟩ := back i r hr
     exact h.lt j r h2 k hk
    ·obtain ⟨r, hr, hv2⟩ := h.ov j v hv
     have hj : j < no := by rw [← hno]; exact (List.getElem?_eq_some_iff.1 hv).1
     have := List.all_eq_true.1 hown (j + 1) (List.mem_range.2 (by omega))
     have := beq_iff_eq.1 this
     obtain ⟨q, g1, g2⟩ := hσ.2 (j + 1) (j + 1) this
     rw [hr] at g1
     injection g1 with g1
     subst g1
     exact ⟨r, g2, hv2⟩
   ·cases hf
  ·cases hf
 ·cases hf
end
end Go.Proofs.Ytpeflcbadgfebaa.Vs

set_option linter.unusedVariables false
set_option linter.unusedSimpArgs false
namespace Go.Proofs.Ytpeflcbadgfebaa.Vs
open Go.RowKit

def rowAt (s : Spec) (i : Nat) : Option (TypeId × Ty) := match s.objs[i]? with | some (.row _ e t) => some (e, t) | _ => none
def fixCells (s : Spec) (j : Nat) (e : TypeId) : Nat → List Sh → St → St
 | _, [], st => st
 | c, .sl i :: l, st => match st.objs[j]? with
  | some (.box e' cells) => match cells[c]? with
   | some .nils => match rowAt s i with
    | some (e1, t) => fixCells s j e (c + 1) l { st.push (.row true e1 t []) with objs := (st.push (.row true e1 t [])).objs.set j (.box e' (cells.set c (.sl st.objs.length))) }
    | none => fixCells s j e (c + 1) l st
   | _ => fixCells s j e (c + 1) l st
  | _ => fixCells s j e (c + 1) l st
 | c, _ :: l, st => fixCells s j e (c + 1) l st
def fixTmps (s : Spec) : List (Tmp × TSh) → St → St
 | [], st => st
 | (d, .at (.sl i)) :: l, st => match st.tmps[d]? with
  | some (.sv (.at .nils)) => match rowAt s i with
   | some (e1, t) => fixTmps s l { st.push (.row true e1 t []) with tmps := st.tmps.set d (.sv (.at (.sl st.objs.length))) }
   | none => fixTmps s l st
  | _ => fixTmps s l st
 | (d, .at (.ptr i 0)) :: l, st => match st.tmps[d]? with
  | some (.sv (.at (.ptr j 0))) => match s.objs[i]? with
   | some (.box e sh) => fixTmps s l (fixCells s j e 0 sh st)
   | _ => fixTmps s l st
  | _ => fixTmps s l st
 | _ :: l, st => fixTmps s l st

def meet (i j : Nat) (g : List (Option Nat)) : List (Option Nat) := match g[i]? with | some none => g.set i (some j) | _ => g
def Sh.guess : Sh → At → List (Option Nat) → List (Option Nat)
 | .sl i, .sl j, g => meet i j g
 | .snap i _, .snap j _ _, g => meet i j g
 | .ptr i _, .ptr j _, g => meet i j g
 | .inn i, .inn j _, g => meet i j g
 | .mp i, .mp j, g => meet i j g
 | .cv i, .cv j, g => meet i j g
 | .pc i j, .pc a b, g => meet j b (meet i a g)
 | .es i _, .es j _ _ _, g => meet i j g
 | _, _, g => g
def guessL : List Sh → List At → List (Option Nat) → List (Option Nat)
 | s :: l, x :: xs, g => guessL l xs (s.guess x g)
 | _, _, g => g
def guessT (st : St) : List (Tmp × TSh) → List (Option Nat) → List (Option Nat)
 | [], g => g
 | (d, .at s) :: l, g => guessT st l (match st.tmps[d]? with | some (.sv (.at x)) => s.guess x g | _ => g)
 | (d, .agg ss) :: l, g => guessT st l (match st.tmps[d]? with | some (.sv (.agg xs)) => guessL ss xs g | _ => g)
def guessO (st : St) : Nat → List OSh → List (Option Nat) → List (Option Nat)
 | _, [], g => g
 | i, .box _ ss :: l, g => guessO st (i + 1) l (match g[i]? with
  | some (some j) => match st.objs[j]? with
   | some (.box _ xs) => guessL ss xs g
   | _ => g
  | _ => g)
 | i, .clo _ ss :: l, g => guessO st (i + 1) l (match g[i]? with
  | some (some j) => match st.objs[j]? with
   | some (.clo _ xs) => guessL ss xs g
   | _ => g
  | _ => g)
 | i, _ :: l, g => guessO st (i + 1) l g
def Spec.guess (s : Spec) (no : Nat) (st : St) : List Nat :=
 (guessO st 0 s.objs (guessT st s.tmps ((List.range s.objs.length).map fun i => if i ≤ no then some i else none))).map fun x => x.getD 0
def Spec.enter (s : Spec) (no : Nat) (st : St) : Option s.D :=
 s.fit no (s.guess no (fixTmps s s.tmps st)) (fixTmps s s.tmps st)

section
variable {P : Program} {w w1 w0 : World} {S0 : Own} {st : St} {μ μ' : List ORec} {a : Act}
theorem Rel.reob (h : Rel w0 S0 st μ a w) {i : Nat} {o o' : Ob} (ho : st.objs[i]? = some o) (hw : o'.owned = true → o.owned = true) (hn : ∀ r, μ[i]? = some r → OR μ w o' r) (hf : ∀ e t xs, o' = .row true e t xs → ∃ e t xs, o = .row true e t xs) : Rel w0 S0 { st with objs := st.objs.set i o' } μ a w := by
 have hob : ∀ (j : Nat) p, (st.objs.set i o')[j]? = some p → (j = i ∧ p = o') ∨ (j ≠ i ∧ st.objs[j]? = some p) := by
  intro j p hp
  rw [List.getElem?_set] at hp
  split at hp
  ·rename_i hij
   split at hp
   ·injection hp with hp
    exact .inl ⟨hij.symm, hp.symm⟩
   ·cases hp
  ·rename_i hij
   exact .inr ⟨fun e => hij e.symm, hp⟩
 refine ⟨by simp [h.len], h.tm, h.tv, fun j p q hp hq => ?_, fun j l p rj rl hjl hp hwp hrj hrl k hk => ?_, fun j p q hp hq hwp k hk => ?_, fun j e t xs q hp hq k hk => ?_, h.lt, h.kp, h.df, h.ov, h.gb⟩
 ·rcases hob j p hp with ⟨rfl, rfl⟩ | ⟨hj, hp⟩
  ·exact hn q hq
  ·exact h.ob j p q hp hq
 ·rcases hob j p hp with ⟨rfl, rfl⟩ | ⟨hj, hp⟩
  ·exact h.dj j l o rj rl hjl ho (hw hwp) hrj hrl k hk
  ·exact h.dj j l p rj rl hjl hp hwp hrj hrl k hk
 ·rcases hob j p hp with ⟨rfl, rfl⟩ | ⟨hj, hp⟩
  ·exact h.wr j o q ho hq (hw hwp) k hk
  ·exact h.wr j p q hp hq hwp k hk
 ·rcases hob j _ hp with ⟨rfl, he⟩ | ⟨hj, hp⟩
  ·obtain ⟨e', t', xs', rfl⟩ := hf e t xs he.symm
   exact h.fr j e' t' xs' q ho hq k hk
  ·exact h.fr j e t xs q hp hq k hk
theorem Rel.nilRow (h : Rel w0 S0 st μ a w) (e : TypeId) (t : Ty) : Rel w0 S0 (st.push (.row true e t [])) (μ ++ [⟨.slice none 0 0, 0, fun _ => False⟩]) a w :=
 h.push (o := .row true e t []) (r := ⟨.slice none 0 0, 0, fun _ => False⟩) (Rep.nils _ _ _ _ _) (fun _ _ _ _ _ hk => hk.elim) (fun _ _ _ _ _ _ _ _ hk => hk.elim) (fun _ _ hk => hk.elim) (fun _ _ _ _ _ hk => hk.elim) (fun _ hk => hk.elim)
theorem ZCj (h : Rel w0 S0 st μ a w) (w : World) : AR (μ ++ [⟨.slice none 0 0, 0, fun _ => False⟩]) w (.sl st.objs.length) (.slice none 0 0) :=
 ⟨⟨.slice none 0 0, 0, fun _ => False⟩, by rw [← h.len]; exact Z9w _ _, rfl, none, 0, 0, rfl⟩
theorem Zq {s : Spec} {j : Nat} {e : TypeId} : ∀ {l : List Sh} {c : Nat} {st : St} {μ : List ORec}, Rel w0 S0 st μ a w → ∃ μ', Rel w0 S0 (fixCells s j e c l st) μ' a w ∧ (fixCells s j e c l st).tmps = st.tmps
 | [], c, st, μ, h => ⟨μ, h, rfl⟩
 | .sl i :: l, c, st, μ, h => by
  simp only [fixCells]
  split
  ·rename_i e' cells hob
   split
   ·rename_i hc
    split
    ·rename_i e1 t hr
     have h1 := h.nilRow e1 t
     have hlt := (List.getElem?_eq_some_iff.1 hob).1
     have hob1 : (st.push (.row true e1 t [])).objs[j]? = some (.box e' cells) := by simp only [St.push]; rw [List.getElem?_append_left hlt]; exact hob
     have h2 := h1.reob (o' := .box e' (cells.set c (.sl st.objs.length))) hob1 (fun h => h) (fun r hr => by
      obtain ⟨g0, vs, g1, g2, g3⟩ := h1.ob j _ r hob1 hr
      refine ⟨g0, vs, g1, ⟨by simp [g2.1], fun m y v hy hv => ?_⟩, g3⟩
      rw [List.getElem?_set] at hy
      split at hy
      ·rename_i hcm
       split at hy
       ·injection hy with hy
        subst hy hcm
        have hnil := g2.2 c _ v hc hv
        rw [show v = _ from hnil]
        exact ZCj h w
       ·cases hy
      ·exact g2.2 m y v hy hv) (fun _ _ _ he => by cases he)
     obtain ⟨μ', h3, h4⟩ := Zq (s := s) (j := j) (e := e) (l := l) (c := c + 1) h2
     exact ⟨μ', h3, h4⟩
    ·exact Zq h
   ·exact Zq h
  ·exact Zq h
 | .int _ :: l, c, st, μ, h => by simp only [fixCells]; exact Zq h
 | .bool :: l, c, st, μ, h => by simp only [fixCells]; exact Zq h
 | .str :: l, c, st, μ, h => by simp only [fixCells]; exact Zq h
 | .snap _ _ :: l, c, st, μ, h => by simp only [fixCells]; exact Zq h
 | .ptr _ _ :: l, c, st, μ, h => by simp only [fixCells]; exact Zq h
 | .inn _ :: l, c, st, μ, h => by simp only [fixCells]; exact Zq h
 | .mp _ :: l, c, st, μ, h => by simp only [fixCells]; exact Zq h
 | .cv _ :: l, c, st, μ, h => by simp only [fixCells]; exact Zq h
 | .pc _ _ :: l, c, st, μ, h => by simp only [fixCells]; exact Zq h
 | .es _ _ :: l, c, st, μ, h => by simp only [fixCells]; exact Zq h
theorem Zl {s : Spec} : ∀ {l : List (Tmp × TSh)} {st : St} {μ : List ORec}, Rel w0 S0 st μ a w → ∃ μ', Rel w0 S0 (fixTmps s l st) μ' a w ∧ (fixTmps s l st).tmps.length = st.tmps.length
 | [], st, μ, h => ⟨μ, h, rfl⟩
 | (d, .at (.sl i)) :: l, st, μ, h => by
  simp only [fixTmps]
  split
  ·rename_i hc
   split
   ·rename_i e1 t hr
    have h1 := h.nilRow e1 t
    have hv : a.tmps.getD d undef = .slice none 0 0 := (h.tv d _ hc).1
    have h2 := h1.retell (t := d) (x := .sv (.at (.sl st.objs.length))) (by rw [hv]; exact ⟨ZCj h w, .inr rfl⟩)
    obtain ⟨μ', h3, h4⟩ := Zl (s := s) (l := l) h2
    exact ⟨μ', h3, h4.trans (by simp [St.push])⟩
   ·exact Zl h
  ·exact Zl h
 | (d, .at (.ptr i 0)) :: l, st, μ, h => by
  simp only [fixTmps]
  split
  ·rename_i j hc
   split
   ·rename_i e sh hr
    obtain ⟨μ1, h1, h2⟩ := Zq (s := s) (j := j) (e := e) (l := sh) (c := 0) h
    obtain ⟨μ', h3, h4⟩ := Zl (s := s) (l := l) h1
    exact ⟨μ', h3, by rw [h4, h2]⟩
   ·exact Zl h
  ·exact Zl h
 | (d, .at (.ptr i (f + 1))) :: l, st, μ, h => by simp only [fixTmps]; exact Zl h
 | (d, .at (.int _)) :: l, st, μ, h => by simp only [fixTmps]; exact Zl h
 | (d, .at .bool) :: l, st, μ, h => by simp only [fixTmps]; exact Zl h
 | (d, .at .str) :: l, st, μ, h => by simp only [fixTmps]; exact Zl h
 | (d, .at (.snap _ _)) :: l, st, μ, h => by simp only [fixTmps]; exact Zl h
 | (d, .at (.inn _)) :: l, st, μ, h => by simp only [fixTmps]; exact Zl h
 | (d, .at (.mp _)) :: l, st, μ, h => by simp only [fixTmps]; exact Zl h
 | (d, .at (.cv _)) :: l, st, μ, h => by simp only [fixTmps]; exact Zl h
 | (d, .at (.pc _ _)) :: l, st, μ, h => by simp only [fixTmps]; exact Zl h
 | (d, .at (.es _ _)) :: l, st, μ, h => by simp only [fixTmps]; exact Zl h
 | (d, .agg _) :: l, st, μ, h => by simp only [fixTmps]; exact Zl h
theorem Spec.enter_sound (h : Rel w0 S0 st μ a w) {s : Spec} {no n : Nat} {x : s.D} (hno : S0.ov.length = no) (hn : st.tmps.length = n) (hf : s.enter no st = some x) : ∃ μ', Rel w0 S0 (s.st n x) μ' a w := by
 obtain ⟨μ1, h1, h2⟩ := Zl (s := s) (l := s.tmps) h
 exact Spec.fit_sound h1 hno (h2.trans hn) hf
end
end Go.Proofs.Ytpeflcbadgfebaa.Vs
