/- The proof, part 3. -/
import Derived.Test.YtmhfhiofcoggbaaGreatqT1m1
import Derived.Laws.BytesString
import Derived.Laws.Strings
set_option linter.unusedVariables false
set_option linter.unusedSimpArgs false
namespace Go.Proofs.YtmhfhiofcoggbaaGreat.Vs
open Go.RowKit
section
section
variable {β : Type}
def ipAddr (i : TI) (st : St) (x : At) (n : Int) (K : At → Option β) : Option β :=
 match x with
 | .inn j q => match st.objs[j]? with
  | some (.row _ _ (.slice _ t) xs) => if t = i.ty then inRange n (xs.getD q.toNat []).length (K (.ip j q t n 0)) else none
  | _ => none
 | _ => none
def storeIp (i : TI) (st : St) (j : Nat) (q : Int) (u : Ty) (n : Int) (f : Nat) (v : TV) (K : St → Option β) : Option β :=
 match v.cells with
 | some l => if l.length = i.ty.sz ∧ l.all (fun x => !x.isUn) ∧ f + l.length ≤ u.sz then
   match st.objs[j]? with
   | some (.row fr e (.slice e' t') zs) => if h : t' = u then
     match setLeaves u (List.getD (List.getD (h ▸ zs : List (List u.D)) q.toNat []) n.toNat u.zero) f l with
     | some y => K { st.kill j with objs := (st.kill j).objs.set j (.row fr e (.slice e' u) (List.set (α := (Ty.slice e' u).D) (h ▸ zs : List (List u.D)) q.toNat (List.set (List.getD (h ▸ zs : List (List u.D)) q.toNat []) n.toNat y))) }
     | none => none
    else none
   | _ => none
  else none
 | none => none
def sliceIn (e : TypeId) (ti : TI) (st : St) (dst : Option Tmp) (x : At) (lo hi : Option TV) (K : St → Option β) : Option β :=
 match x with
 | .inn i j => match st.objs[i]? with
  | some (.row _ _ (.slice e' t') zs) => if t' = ti.ty ∧ e' = e ∧ hi.isNone = true then cutAt lo hi (List.getD zs j.toNat []).length fun a _ => K (st.put dst (.sv (.at (.app i j (.slice e' t') (List.set (α := (Ty.slice e' t').D) zs j.toNat ((List.getD zs j.toNat []).drop a)))))) else none
  | _ => none
 | _ => none
def takeEp (i : TI) (st : St) (j : Nat) (u : Ty) (q : Int) (dst : Option Tmp) (K : St → Option β) : Option β :=
 match st.objs[j]? with
 | some (.row true e t xs) => if h : t = u then if u = i.ty then
   K ((giveTree u (List.getD (h ▸ xs : List u.D) q.toNat u.zero) (st.die j)).2.put dst (mkV i (giveTree u (List.getD (h ▸ xs : List u.D) q.toNat u.zero) (st.die j)).1)) else none else none
 | _ => none
end
section
variable {P : Program} {w w1 w0 : World} {S0 : Own} {st : St} {μ : List ORec} {a : Act} {o : Oper} {t : TypeId} {i : TI} {β : Type} {r : β} {Q : Exit → Act → World → Prop}
theorem RowRep.storeIn {u : Ty} {e e' : TypeId} {S : Nat → Prop} {zs : List (List u.D)} {vr : Value} (h : RowRep (Rep (.slice e' u)) 1 e w S zs vr) {q : Nat} (hq : q < zs.length) {n : Nat} (hn : n < (zs[q]).length) {f : Nat} {new : List Value} {y : u.D} (hf : f + new.length ≤ u.sz)
  (hs : ∀ T cs, Rep u w T (zs[q])[n] cs → Rep u w T y (Vs.setw cs f new)) :
  ∃ ad m c g off cap cur, vr = .slice (some ad) m c ∧ w.cell? (ad.add q) = some (.slice (some ⟨g, off * u.sz, none⟩) (zs[q]).length cap) ∧ w.heap[g]? = some (.cells cur e' (0, 0)) ∧ S g ∧ off * u.sz + (n * u.sz + f) + new.length ≤ cur.size ∧
   RowRep (Rep (.slice e' u)) 1 e (w.setRow g (Vs.setw cur.toList (off * u.sz + (n * u.sz + f)) new).toArray) S (List.set zs q (List.set (zs[q]) n y)) vr := by
 have hrow : RowRep (Rep (.slice e' u)) (Ty.slice e' u).sz e w S zs vr := h
 obtain ⟨A, c', cs0, hv', hs0, hl0, hcell, hrep0⟩ := hrow.elem hq
 obtain ⟨inner, hqr, hb, ff, hr⟩ := h
 obtain ⟨v, hv, hin⟩ := hr q zs[q] (List.getElem?_eq_getElem hq)
 obtain ⟨g, cap, off, cur, hvs, hh, ⟨hSg, hne, hfq⟩, hfit, hrow2⟩ := RowRep.store hin hn hf hs
 have hlen := hqr.1
 have hv0 : inner[q * 1]? = some v := by
  have := Zii (inner := inner) (sz := 1) (j := q) (i := 0) (u := v) (by rw [hv]; rfl)
  simpa using this
 have hc : w.cell? (A.add q) = some v := by
  obtain ⟨ad, hA, hcells⟩ := Za9 (A := some A) (c := c') (by rw [← hv']; exact hqr) (by omega)
  injection hA with hA
  subst hA
  have := hcells (q * 1) v hv0
  simpa using this
 refine ⟨A, _, c', g, off, cap, cur, hv', by rw [hc, hvs], hh, hSg, hfit, inner, ?_, hb, ff, fun j x hj => ?_⟩
 ·rw [List.length_set]
  exact ZlL hqr (fun k hk => setRow_other w g k _ (fun he => hne (by rw [hk, he])))
 ·rw [List.getElem?_set] at hj
  split at hj
  ·rename_i hjq
   subst hjq
   injection hj with hj
   subst hj
   exact ⟨v, hv, hrow2⟩
  ·rename_i hjq
   exact (hr j x hj).move (fun k hk => hk) (fun k hk => setRow_other w g k _ (fun he => hjq (by rw [← hfq, ← he]; exact hk.2.2)))
theorem ZK8 {x y : Operand} {e : TypeId} {ti : TI} {k : IntKind} {n : Int} {K : At → Option β} {K' : St → Option β} (T : TT) (hT : TTok P T) (h : Rel w0 S0 st μ a w) (ho : o.op = .indexAddr t x y) (hi : T.get t = some i) (hie : i.d = .slice e) (hte : T.get e = some ti)
  (hn : st.ev y = .sv (.at (.int k n))) (hk : ipAddr ti st (st.ev x).atom n K = some r) (hK : ∀ x, K x = some r → K' (st.put o.dst (.sv (.at x))) = some r) : Went P o a w (Nx w0 S0 K' r) := by
 have ok := hT.1 t i hi
 have oke := hT.1 e ti hte
 have hu : P.underlying t = some (.slice e) := by have := ok.desc; rw [hie] at this; exact this
 have hy : a.eval y = .int k n := h.at hn
 have ha := h.atom x
 unfold ipAddr at hk
 split at hk
 ·rename_i j q hx
  rw [hx] at ha
  split at hk
  ·rename_i fr e' e2 t' xs hob
   split at hk
   ·rename_i ht
    subst ht
    obtain ⟨h0, h1, hk⟩ := Z7e hk
    obtain ⟨rec, ad0, n0, c0, hrec, hv0, hq0, hq1, hok0, hcell0, A', m', c1, hv1⟩ := ha
    have hR : RowRep (Rep (.slice e2 ti.ty)) (Ty.slice e2 ti.ty).sz e' w rec.ok xs rec.v := h.ob j _ rec hob hrec
    have hlen : n0 = xs.length := by
     obtain ⟨inner, hqr, _⟩ := hR
     obtain ⟨A', c', hv', _⟩ := ZV hqr
     rw [hv0] at hv'
     injection hv'
    have hjx : q.toNat < xs.length := by omega
    obtain ⟨A, c', cs, hv', hs, hl, hcell, hrep⟩ := hR.elem hjx
    rw [hv0] at hv'
    injection hv' with hA2 _ _
    injection hA2 with hA2
    subst hA2
    obtain ⟨u, rfl, hrow2⟩ := hrep
    have hu2 := hcell 0 u rfl
    simp only [Ty.sz, Nat.mul_one, Nat.add_zero] at hu2
    rw [hcell0] at hu2
    injection hu2 with hu2
    have hg : List.getD xs q.toNat [] = xs[q.toNat] := by simp [List.getD, List.getElem?_eq_getElem hjx]
    rw [hg] at h1
    have hm : m' = (xs[q.toNat]).length := by
     obtain ⟨inner, hqr, _⟩ := hrow2
     obtain ⟨A2, c2, hv2, _⟩ := ZV hqr
     rw [← hu2, hv1] at hv2
     injection hv2
    have hsome : ∃ b, A' = some b := by
     obtain ⟨inner, hqr, _⟩ := hrow2
     rw [← hu2, hv1, ← hm] at hqr
     obtain ⟨b, hb, _⟩ := Za9 hqr (by omega)
     exact ⟨b, hb⟩
    obtain ⟨b, rfl⟩ := hsome
    refine Zm h (v := .pointer (some (b.add (n.toNat * ti.ty.sz)))) (fun w' hw => ?_) (x := .sv (.at (.ip j q ti.ty n 0))) ⟨⟨rec, ad0, n0, c0, b, m', c1, hrec, hv0, hq0, hq1, hok0, by rw [hcell0, hv1], h0, by omega, by rw [Nat.add_zero]⟩, .inr rfl⟩ (hK _ hk)
    unfold execOp
    simp only [ho, hv1, hy, Instr.indexAt, asIntOf, Sem.run_bind, Sem.run_pure, Result.andThen_ok, run_underlying hu]
    rw [Sem.run_ite, if_pos ⟨h0, by omega⟩, Sem.run_bind, Z6Y oke]
    rfl
   ·cases hk
  ·cases hk
 ·cases hk
theorem ZJs {p x : Operand} {j : Nat} {q : Int} {u : Ty} {n : Int} {f : Nat} {K : St → Option β} (T : TT) (hT : TTok P T) (h : Rel w0 S0 st μ a w) (ho : o.op = .store t p x) (hd : o.dst = none) (hi : T.get t = some i) (hp : (st.ev p).atom = .ip j q u n f) (hk : storeIp i st j q u n f (st.ev x) K = some r) : o.wp P a w (Nx w0 S0 K r) Q := by
 have ok := hT.1 t i hi
 have ha := h.atom p
 rw [hp] at ha
 unfold storeIp at hk
 split at hk
 ·rename_i l hl
  split at hk
  ·rename_i hlu
   obtain ⟨hll, hu, hfl⟩ := hlu
   have hA := TR.cells_sound (h.ev x) hl
   have h1 := ZJQ hA hu
   have hul : (a.eval x).cells.toList.length = i.ty.sz := by rw [hA.1, hll]
   split at hk
   ·rename_i fr e e' t' zs hob
    split at hk
    ·rename_i ht
     subst ht
     split at hk
     ·rename_i y hy
      obtain ⟨rec, ad0, n0, c0, b, m', c1, hrec, hv0, hq0, hq1, hok0, hcell0, hn0, hn1, hpv⟩ := ha
      have hR : RowRep (Rep (.slice e' t')) (Ty.slice e' t').sz e w rec.ok zs rec.v := h.ob j _ rec hob hrec
      have hlen : n0 = zs.length := by
       obtain ⟨inner, hqr, _⟩ := hR
       obtain ⟨A', c', hv', _⟩ := ZV hqr
       rw [hv0] at hv'
       injection hv'
      have hjx : q.toNat < zs.length := by omega
      obtain ⟨A, c', cs, hv', hs, hl0, hcell, hrep⟩ := hR.elem hjx
      rw [hv0] at hv'
      injection hv' with hA2 _ _
      injection hA2 with hA2
      subst hA2
      obtain ⟨u, rfl, hrow2⟩ := hrep
      have hu2 := hcell 0 u rfl
      simp only [Ty.sz, Nat.mul_one, Nat.add_zero] at hu2
      rw [hcell0] at hu2
      injection hu2 with hu2
      have hm : m' = (zs[q.toNat]).length := by
       obtain ⟨inner, hqr, _⟩ := hrow2
       obtain ⟨A2, c2, hv2, _⟩ := ZV hqr
       rw [← hu2] at hv2
       injection hv2
      have hnx : n.toNat < (zs[q.toNat]).length := by omega
      have hg : List.getD zs q.toNat [] = zs[q.toNat] := by simp [List.getD, List.getElem?_eq_getElem hjx]
      have hg2 : List.getD (zs[q.toNat]) n.toNat t'.zero = (zs[q.toNat])[n.toNat] := by simp [List.getD, List.getElem?_eq_getElem hnx]
      simp only at hy hk
      rw [hg, hg2] at hy
      rw [hg] at hk
      have hff2 : f + (a.eval x).cells.toList.length ≤ t'.sz := by rw [hA.1]; exact hfl
      obtain ⟨ad, m, c, g, off, cap, cur, hvs, hcell3, hh, hS, hfit, hrow3⟩ := RowRep.storeIn hR hjx hnx hff2 (y := y) (fun T cs hrep => by
       have h3 := ZhA hrep hA hy
       rwa [Zkf _ _ _ (by rw [hrep.len]; exact hff2)] at h3)
      rw [hv0] at hvs
      injection hvs with ha2 _ _
      injection ha2 with ha2
      subst ha2
      rw [hcell0] at hcell3
      injection hcell3 with hcell3
      injection hcell3 with hb2 _ _
      injection hb2 with hb2
      have hpp : a.eval p = .pointer (some ⟨g, off * t'.sz + (n.toNat * t'.sz + f), none⟩) := by rw [hpv, hb2, Z9k]
      have hrun : (execOp a.eval o).run P w = .ok .skip (w.setRow g (Vs.setw cur.toList (off * t'.sz + (n.toNat * t'.sz + f)) (a.eval x).cells.toList).toArray) := by
       unfold execOp
       simp only [ho, hpp, Instr.storeAt, Instr.sureAddr, Sem.run_bind, Sem.run_pure, Result.andThen_ok, ZlA ok hh (a.eval x) hul hfit h1]
      refine ZpY hrun ⟨_, μ, ?_, hk⟩
      rw [hd]
      refine h.turn (o' := .row fr e (.slice e' t') (List.set zs q.toNat (List.set (zs[q.toNat]) n.toNat y))) hob hrec rfl rfl (.setRow w g _ hS) hrow3 (fun e t xs he => ?_)
      cases he
      exact ⟨_, _, _, rfl⟩
     ·cases hk
    ·cases hk
   ·cases hk
  ·cases hk
 ·cases hk
theorem ZDL {p : Operand} {j : Nat} {u : Ty} {q : Int} {K : St → Option β} (T : TT) (hT : TTok P T) (h : Rel w0 S0 st μ a w) (ho : o.op = .load t p) (hi : T.get t = some i) (hp : (st.ev p).atom = .ep j u q 0) (hk : takeEp i st j u q o.dst K = some r) : Went P o a w (Nx w0 S0 K r) := by
 have ok := hT.1 t i hi
 have ha := h.atom p
 rw [hp] at ha
 unfold takeEp at hk
 split at hk
 ·rename_i e t' xs hob
  split at hk
  ·rename_i ht
   subst ht
   split at hk
   ·rename_i hti
    obtain ⟨rec, ad, n, c, hrec, hv, h0, h1, hpv⟩ := ha
    have hrow : RowRep (Rep t') t'.sz e w rec.ok xs rec.v := h.ob j _ rec hob hrec
    have hn : n = xs.length := by
     obtain ⟨inner, hqr, _⟩ := hrow
     obtain ⟨A', c', hv', _⟩ := ZV hqr
     rw [hv] at hv'
     injection hv'
    have hj : q.toNat < xs.length := by omega
    obtain ⟨A, c', cs, hv', hs, hl, hcell, hrep⟩ := hrow.elem hj
    rw [hv] at hv'
    injection hv' with ha2 _ _
    injection ha2 with ha2
    subst ha2
    have hg : List.getD xs q.toNat t'.zero = xs[q.toNat] := by simp [List.getD, List.getElem?_eq_getElem hj]
    simp only at hk
    rw [hg] at hk
    have hd := h.die j
    have hdis : ∀ (i : Nat) q0, (offAt μ j)[i]? = some q0 → ∀ k, rec.ok k → ¬ q0.ok k := by
     intro i q0 hq0 k hk2 hqk
     obtain ⟨q1, g0, _, _, g3⟩ := Z24 hq0
     rcases g3 with ⟨_, g3⟩ | ⟨hij, rfl⟩
     ·exact g3 k hqk
     ·exact h.dj j i _ rec q0 (Ne.symm hij) hob rfl hrec g0 k hk2 hqk
    obtain ⟨μ', hr', hA', _, _⟩ := ZeM hd hrep (fun k hk2 => ⟨h.fr j _ _ _ rec hob hrec k hk2, h.lt j rec hrec k hk2⟩) hdis
    have hlen : (giveTree t' xs[q.toNat] (st.die j)).1.length = i.ty.sz := by rw [ZwU, hti]
    refine ⟨packV i cs, fun w' hw0 => ?_, _, μ', hr'.put o.dst (ZsO ok.one hlen hA'), hk⟩
    have hw := hw0 (by rw [ho]; rfl)
    unfold execOp
    simp only [ho, hpv, Instr.loadAt, Instr.sureAddr, Sem.run_bind, Sem.run_pure, Result.andThen_ok]
    rw [ZfJ ok (ad.add (q.toNat * t'.sz + 0)) cs (by rw [hl, hti]) (fun m v hm => Zhb hw (by rw [Z6c]; exact hcell m v hm))]
    rfl
   ·cases hk
  ·cases hk
 ·cases hk
theorem ZJG {x : Operand} {lo hi : Option Operand} {e : TypeId} {ti : TI} {K : St → Option β} (T : TT) (hT : TTok P T) (h : Rel w0 S0 st μ a w) (ho : o.op = .slice t x lo hi none) (hi' : T.get t = some i) (hie : i.d = .slice e) (hte : T.get e = some ti)
  (hk : sliceIn e ti st o.dst (st.ev x).atom (lo.map st.ev) (hi.map st.ev) K = some r) : Went P o a w (Nx w0 S0 K r) := by
 have ok := hT.1 t i hi'
 have oke := hT.1 e ti hte
 have hu : P.underlying t = some (.slice e) := by have := ok.desc; rw [hie] at this; exact this
 have hx := h.atom x
 unfold sliceIn at hk
 split at hk
 ·rename_i i0 j hxa
  rw [hxa] at hx
  split at hk
  ·rename_i fr e1 e' t' zs hob
   split at hk
   ·rename_i hc
    obtain ⟨rfl, rfl, hin⟩ := hc
    obtain ⟨p, q, h1, h2, hk, hl, hh⟩ := ZgV hk
    have hhn : hi.map st.ev = none := by simpa using hin
    have hq : q = (List.getD zs j.toNat []).length := by
     rcases hh with ⟨_, hh⟩ | ⟨k, hh⟩
     ·exact hh
     ·rw [hhn] at hh; cases hh
    subst hq
    obtain ⟨rec, ad, n, c, hrec, hrv, h0, hjn, hokad, hcell, A0, m0, c0, hxv⟩ := hx
    have hrow0 : RowRep (Rep (.slice e' ti.ty)) (Ty.slice e' ti.ty).sz e1 w rec.ok zs rec.v := h.ob i0 _ rec hob hrec
    obtain ⟨inner, hqr, hb, f, hr⟩ := hrow0
    obtain ⟨A, c2, hv2, _⟩ := ZV hqr
    have hn : n = zs.length := by
     rw [hrv] at hv2
     injection hv2
    have hj : j.toNat < zs.length := by omega
    have hxz : zs[j.toNat]? = some (List.getD zs j.toNat []) := by simp [List.getD, List.getElem?_eq_getElem hj]
    obtain ⟨hv, hseg, hin2⟩ := hr j.toNat _ hxz
    have hinner : inner[j.toNat]? = some hv := by
     have := Zii (i := 0) (u := hv) (show (seg inner (Ty.slice e' ti.ty).sz j.toNat)[0]? = some hv by rw [hseg]; rfl)
     simpa [Ty.sz] using this
    obtain ⟨ad2, hA, hcells⟩ := Za9 (by rw [← hv2]; exact hqr) (show 0 < zs.length by omega)
    have had : ad2 = ad := by
     rw [hrv, hA] at hv2
     injection hv2 with h3 _ _
     injection h3 with h3
     exact h3.symm
    subst had
    have hvv : a.eval x = hv := by
     have h3 := hcells j.toNat hv hinner
     rw [hcell] at h3
     injection h3
    obtain ⟨A3, m3, hv3, hc3, _⟩ := Zdb hin2
    have hrun := Zqt hu oke h ho (hvv.trans hv3) hc3 h1 h2 hl hh
    have hin3 := hin2
    rw [hv3] at hin3
    have hdr := hin3.drop h1 rfl
    have hnew : Rep (.slice e' ti.ty) w (fun k => rec.ok k ∧ rec.v.ownBlock ≠ some k ∧ f k = j.toNat) ((List.getD zs j.toNat []).drop p) [_] := ⟨_, rfl, hdr⟩
    obtain ⟨g, cap, off, cur, s1, s2, s3, s4, s5⟩ := RowRep.store3 hqr hb hr hj rfl hnew (fun k hk2 => .inr hk2.2)
    have s6 := RowRep.imp (R' := Rep (.slice e' ti.ty)) (S' := rec.ok) s5 (fun k hk2 => hk2.elim id (fun h3 => h3.1)) (fun _ _ => rfl) (fun T T' x cs _ hT2 h3 => h3.wide hT2)
    refine ⟨_, hrun, _, μ, h.put o.dst (x := .sv (.at (.app i0 j (.slice e' ti.ty) (List.set (α := (Ty.slice e' ti.ty).D) zs j.toNat ((List.getD zs j.toNat []).drop p))))) ?_, hk⟩
    exact ⟨⟨rec, hrec, g, off, zs.length, cap, e1, cur, s1, h0, by omega, s3, s2, by simpa using s4, ⟨_, _, _, rfl⟩, s6⟩, .inr rfl⟩
   ·cases hk
  ·cases hk
 ·cases hk
end
end
section
def rowOK : Ty → Nat → TypeId → Ty → Bool
 | .slice e' u', f, e, u => f == 0 && e' == e && decide (u' = u)
 | .pair a b, f, e, u => if f < a.sz then rowOK a f e u else rowOK b (f - a.sz) e u
 | _, _, _, _ => false
def leafG (u : Ty) : (t : Ty) → t.D → Nat → List u.D
 | .slice _ u', xs, _ => if h : u' = u then h ▸ xs else []
 | .pair a b, x, f => if f < a.sz then leafG u a x.1 f else leafG u b x.2 (f - a.sz)
 | _, _, _ => []
def leafS (u : Ty) : (t : Ty) → t.D → Nat → List u.D → t.D
 | .slice _ u', xs, _, ys => if h : u' = u then h.symm ▸ ys else xs
 | .pair a b, x, f, ys => if f < a.sz then (leafS u a x.1 f ys, x.2) else (x.1, leafS u b x.2 (f - a.sz) ys)
 | .int _, x, _, _ => x
 | .bool, x, _, _ => x
 | .str, x, _, _ => x
def ownInf : List PK → List TV → Option (Nat × Int × Ty × Nat)
 | p :: ps, x :: xs => match p.own with
  | some q => match x.cells with
   | some l => match l[q.1]? with
    | some (.inf i j t f) => some (i, j, t, f)
    | _ => none
   | none => none
  | none => ownInf ps xs
 | _, _ => none
def readArgsF (st : St) (i : Nat) (j : Int) (t0 : Ty) (f0 : Nat) (e : TypeId) (u : Ty) (y : List u.D) : (ps : List PK) → List TV → Option (Tup ps)
  | [], [] => some ()
  | p :: ps, x :: xs => match x.cells with
    | some l => if (aggOK p.agg x && p.box.isNone) = true then
        match p.own with
        | none => match readTree st [i] p.t l with
          | some y1 => match readArgsF st i j t0 f0 e u y ps xs with
            | some ys => some (y1, ys)
            | none => none
          | none => none
        | some q => if h : q = (0, e, u) ∧ p.t = .slice e u then match l with
            | [.inf i' j' t' f'] => if i' = i ∧ j' = j ∧ t' = t0 ∧ f' = f0 then match readArgsF st i j t0 f0 e u y ps xs with
                | some ys => some (h.2 ▸ (show (Ty.slice e u).D from y), ys)
                | none => none
              else none
            | _ => none
            else none
      else none
    | none => none
  | _, _ => none
section
variable {γ : Type}
def opCallF (k : Nat) (E : CallE) (e : TypeId) (u : Ty) (st : St) (dst : Option Tmp) (xs : List TV) (K : St → Option γ) : Option γ :=
 match ownInf E.ps xs with
 | some (i, j, t0, f0) => match st.objs[i]? with
  | some (.row fr e' t1 zs) => if t0 = t1 ∧ rowOK t1 f0 e u = true ∧ giveI E.ps = false then match readArgsF st i j t1 f0 e u (leafG u t1 (List.getD zs j.toNat t1.zero) f0) E.ps xs with
    | some x => E.fn k x fun res out => match out with
     | some ⟨u3, ys⟩ => if h3 : u3 = u then K (giveRes dst E.rs res (backSt st i (.row fr e' t1 (List.set zs j.toNat (leafS u t1 (List.getD zs j.toNat t1.zero) f0 (h3 ▸ ys)))))) else none
     | none => none
    | none => none
   else none
  | _ => none
 | none => none
end
section
variable {P : Program} {w w1 w0 : World} {S0 : Own} {st : St} {μ : List ORec} {a : Act}
theorem Rep.lendAt {e : TypeId} {u : Ty} : ∀ {t : Ty} {f : Nat} {S : Nat → Prop} {x : t.D} {cs : List Value}, rowOK t f e u = true → Rep t w S x cs →
  ∃ (hv : Value) (So : Nat → Prop), (∀ k, So k → S k) ∧ cs[f]? = some hv ∧ RowRep (Rep u) u.sz e w So (leafG u t x f) hv ∧
   ∀ (w' : World) (S' : Nat → Prop) (ys : List u.D), Chg w w' So → (∀ k, S k → k < w.heap.size) → RowRep (Rep u) u.sz e w' S' ys hv → (∀ k, S' k → So k ∨ w.heap.size ≤ k) → Rep t w' (fun k => S k ∨ S' k) (leafS u t x f ys) cs
 | .int _, _, _, _, _, h1, _ => by cases h1
 | .bool, _, _, _, _, h1, _ => by cases h1
 | .str, _, _, _, _, h1, _ => by cases h1
 | .slice e' u', f, S, x, cs, h1, h => by
  simp only [rowOK, Bool.and_eq_true, beq_iff_eq, decide_eq_true_eq] at h1
  obtain ⟨⟨rfl, rfl⟩, rfl⟩ := h1
  obtain ⟨v, rfl, hrow⟩ := h
  refine ⟨v, S, fun _ hk => hk, rfl, by simpa [leafG] using hrow, fun w' S' ys hc hlt hr hS => ?_⟩
  refine ⟨v, rfl, ?_⟩
  simp only [leafS, dif_pos]
  obtain ⟨v2, hv2, h3⟩ := Rep.wide (t := .slice e' u') (S' := fun k => S k ∨ S' k) (show Rep (.slice e' u') w' S' ys [v] from ⟨v, rfl, hr⟩) (fun k hk => .inr hk)
  obtain rfl : v = v2 := by simpa using hv2
  exact h3
 | .pair ta tb, f, S, x, cs, h1, h => by
  obtain ⟨c0, c1, S0', S1', rfl, h0, h2, d0, d1⟩ := h
  have hl := h0.len
  simp only [rowOK] at h1
  by_cases hf : f < ta.sz
  ·rw [if_pos hf] at h1
   obtain ⟨hv, So, hSo, hcv, hrow, hback⟩ := Rep.lendAt h1 h0
   refine ⟨hv, So, fun k hk => (d0 k (hSo k hk)).1, by rw [List.getElem?_append_left (by omega)]; exact hcv, by simp only [leafG, if_pos hf]; exact hrow, fun w' S' ys hc hlt hr hS => ?_⟩
   have hb := hback w' S' ys hc (fun k hk => hlt k (d0 k hk).1) hr hS
   refine ⟨c0, c1, fun k => S0' k ∨ S' k, S1', rfl, by simp only [leafS, if_pos hf]; exact hb, ?_, fun k hk => ?_, fun k hk => .inl (d1 k hk)⟩
   ·simp only [leafS, if_pos hf]
    exact h2.move (fun _ hk => hk) (fun k hk => hc.block k (hlt k (d1 k hk)) (fun h3 => (d0 k (hSo k h3)).2 hk))
   ·rcases hk with hk | hk
    ·exact ⟨.inl (d0 k hk).1, (d0 k hk).2⟩
    ·refine ⟨.inr hk, fun h3 => ?_⟩
     rcases hS k hk with h4 | h4
     ·exact (d0 k (hSo k h4)).2 h3
     ·have := hlt k (d1 k h3); omega
  ·rw [if_neg hf] at h1
   obtain ⟨hv, So, hSo, hcv, hrow, hback⟩ := Rep.lendAt h1 h2
   refine ⟨hv, So, fun k hk => d1 k (hSo k hk), by rw [List.getElem?_append_right (by omega), hl]; exact hcv, by simp only [leafG, if_neg hf]; exact hrow, fun w' S' ys hc hlt hr hS => ?_⟩
   have hb := hback w' S' ys hc (fun k hk => hlt k (d1 k hk)) hr hS
   refine ⟨c0, c1, S0', fun k => S1' k ∨ S' k, rfl, ?_, by simp only [leafS, if_neg hf]; exact hb, fun k hk => ⟨.inl (d0 k hk).1, fun h3 => ?_⟩, fun k hk => hk.elim (fun h3 => .inl (d1 k h3)) .inr⟩
   ·simp only [leafS, if_neg hf]
    exact h0.move (fun _ hk => hk) (fun k hk => hc.block k (hlt k (d0 k hk).1) (fun h3 => (d0 k hk).2 (hSo k h3)))
   ·rcases h3 with h3 | h3
    ·exact (d0 k hk).2 h3
    ·rcases hS k h3 with h4 | h4
     ·exact (d0 k hk).2 (hSo k h4)
     ·have := hlt k (d0 k hk).1; omega
open Classical in
theorem RowRep.lendF {e e' : TypeId} {u t : Ty} {f : Nat} {S : Nat → Prop} {zs : List t.D} {vr : Value} (h : RowRep (Rep t) t.sz e' w S zs vr) (hro : rowOK t f e u = true) {j : Nat} (hj : j < zs.length) :
  ∃ (hv : Value) (So : Nat → Prop), (∀ k, So k → S k) ∧ RowRep (Rep u) u.sz e w So (leafG u t (List.getD zs j t.zero) f) hv ∧
   (∃ a c, vr = .slice (some a) zs.length c ∧ w.cell? (a.add (j * t.sz + f)) = some hv) ∧
   ∀ (w' : World) (S' : Nat → Prop) (ys : List u.D), Chg w w' So → (∀ k, S k → k < w.heap.size) → RowRep (Rep u) u.sz e w' S' ys hv → (∀ k, S' k → So k ∨ w.heap.size ≤ k) →
    RowRep (Rep t) t.sz e' w' (fun k => S k ∨ S' k) (List.set zs j (leafS u t (List.getD zs j t.zero) f ys)) vr := by
 obtain ⟨inner, hq, hb, ff, hr⟩ := h
 have hx : zs[j]? = some (List.getD zs j t.zero) := by simp [List.getD, List.getElem?_eq_getElem hj]
 obtain ⟨hv, So, hSo, hcv, hrow, hback⟩ := Rep.lendAt hro (hr j _ hx)
 have hi : inner[j * t.sz + f]? = some hv := Zii hcv
 obtain ⟨A, c, hvr, _⟩ := ZV hq
 obtain ⟨ad, hA, hcell⟩ := Za9 (by rw [← hvr]; exact hq) (show 0 < zs.length by omega)
 refine ⟨hv, So, fun k hk => (hSo k hk).1, hrow, ⟨ad, c, by rw [hvr, hA], hcell _ hv hi⟩, ?_⟩
 intro w' S' ys hc hlt hrow' hS'
 have hown : ∀ k, vr.ownBlock = some k → k < w.heap.size ∧ w'.heap[k]? = w.heap[k]? := fun k hk => ⟨hlt k (hb k hk), hc.block k (hlt k (hb k hk)) (fun h2 => (hSo k h2).2.1 hk)⟩
 refine ⟨inner, ?_, fun k hk => .inl (hb k hk), fun k => if S' k then j else ff k, fun m x hm => ?_⟩
 ·have := ZlL hq (fun k hk => (hown k hk).2)
  rw [List.length_set]
  exact this
 ·rw [List.getElem?_set] at hm
  by_cases hmj : j = m
  ·subst hmj
   rw [if_pos rfl, if_pos hj] at hm
   injection hm with hm
   subst hm
   refine (hback w' S' ys hc (fun k hk => hlt k hk.1) hrow' hS').wide (fun k hk => ?_)
   rcases hk with hk | hk
   ·refine ⟨.inl hk.1, hk.2.1, ?_⟩
    show (if S' k then j else ff k) = j
    split
    ·rfl
    ·exact hk.2.2
   ·refine ⟨.inr hk, fun he => ?_, if_pos hk⟩
    rcases hS' k hk with h4 | h4
    ·exact (hSo k h4).2.1 he
    ·have := (hown k he).1; omega
  ·rw [if_neg hmj] at hm
   refine (hr m x hm).move (fun k hk => ⟨.inl hk.1, hk.2.1, ?_⟩) (fun k hk => hc.block k (hlt k hk.1) (fun h2 => hmj ((hSo k h2).2.2.symm.trans hk.2.2)))
   have hn : ¬ S' k := fun hs => ?_
   ·exact (if_neg hn).trans hk.2.2
   ·rcases hS' k hs with h4 | h4
    ·exact hmj ((hSo k h4).2.2.symm.trans hk.2.2)
    ·have := hlt k hk.1; omega
theorem Zi6 (h : Rel w0 S0 st μ a w) {i : Nat} {j : Int} {t0 : Ty} {f0 : Nat} {e : TypeId} {u : Ty} {y : List u.D} {So : Nat → Prop} {hv : Value} (hval : ∀ v, AR μ w (.inf i j t0 f0) v → v = hv) (hSo : RowRep (Rep u) u.sz e w So y hv) :
  ∀ {ps : List PK} {xs : List Operand} {x : Tup ps}, readArgsF st i j t0 f0 e u y ps (xs.map st.ev) = some x → ArgsR w (okBut μ [i]) So ps x (xs.map a.eval)
 | [], [], x, hr => rfl
 | [], y :: ys, x, hr => by simp [readArgsF] at hr
 | p :: ps, [], x, hr => by simp [readArgsF] at hr
 | p :: ps, z :: zs, x, hr => by
  simp only [List.map_cons, readArgsF] at hr
  split at hr
  ·rename_i l hl
   split at hr
   ·rename_i ha
    simp only [Bool.and_eq_true, Option.isNone_iff_eq_none] at ha
    have hA := (h.ev z).cells_sound hl
    have hsh := ZaR (h.ev z) hl ha.1
    split at hr
    ·rename_i hown
     split at hr
     ·rename_i y1 hy1
      split at hr
      ·rename_i ys1 hys1
       injection hr with hr
       subst hr
       refine ⟨a.eval z, zs.map a.eval, rfl, hsh, ?_, Zi6 h hval hSo hys1⟩
       rw [hown, ha.2]
       exact ZG h hA hy1
      ·cases hr
     ·cases hr
    ·rename_i q hown
     split at hr
     ·rename_i hq
      split at hr
      ·rename_i i' j' t' f'
       split at hr
       ·rename_i hij
        obtain ⟨rfl, rfl, rfl, rfl⟩ := hij
        split at hr
        ·rename_i ys1 hys1
         injection hr with hr
         subst hr
         obtain ⟨v, hv1, hv2⟩ := hA.single
         obtain rfl := hval v hv2
         refine ⟨a.eval z, zs.map a.eval, rfl, hsh, ?_, Zi6 h hval hSo hys1⟩
         rw [hown]
         obtain ⟨rfl, hpt⟩ := hq
         obtain ⟨pt, pa, po, pg, pb⟩ := p
         simp only at hpt
         subst hpt
         refine ⟨by simp [oneLeaf], v, hv1, hSo⟩
        ·cases hr
       ·cases hr
      ·cases hr
     ·cases hr
   ·cases hr
  ·cases hr
theorem ZxN (h : Rel w0 S0 st μ a w) {i : Nat} {j : Int} {t0 : Ty} {f0 : Nat} {hv : Value} (hval : ∀ v, AR μ w (.inf i j t0 f0) v → v = hv) : ∀ {ps : List PK} {xs : List Operand}, ownInf ps (xs.map st.ev) = some (i, j, t0, f0) → ownV ps (xs.map a.eval) = some hv
 | [], xs, hr => by cases xs <;> simp [ownInf] at hr
 | p :: ps, [], hr => by simp [ownInf] at hr
 | p :: ps, y :: ys, hr => by
  simp only [List.map_cons, ownInf] at hr
  simp only [List.map_cons, ownV]
  split at hr
  ·rename_i q hown
   simp only [hown]
   split at hr
   ·rename_i l hl
    split at hr
    ·rename_i i' j' t' f' hj
     injection hr with hr
     injection hr with hr1 hr2
     injection hr2 with hr2 hr3
     injection hr3 with hr3 hr4
     subst hr1 hr2 hr3 hr4
     have hA := (h.ev y).cells_sound hl
     have hlt : q.1 < (a.eval y).cells.toList.length := by rw [hA.1]; exact (List.getElem?_eq_some_iff.1 hj).1
     have := hval _ (hA.2 q.1 _ _ hj (List.getElem?_eq_getElem hlt))
     rw [List.getElem?_eq_getElem hlt, this]
    ·cases hr
   ·cases hr
  ·rename_i hown
   simp only [hown]
   exact ZxN h hval hr
theorem ZAp (h : Rel w0 S0 st μ a w) {i : Nat} {j : Int} {t0 : Ty} {f0 : Nat} : ∀ {ps : List PK} {xs : List Operand}, ownInf ps (xs.map st.ev) = some (i, j, t0, f0) → ∃ v, AR μ w (.inf i j t0 f0) v
 | [], xs, hr => by cases xs <;> simp [ownInf] at hr
 | p :: ps, [], hr => by simp [ownInf] at hr
 | p :: ps, y :: ys, hr => by
  simp only [List.map_cons, ownInf] at hr
  split at hr
  ·rename_i q hown
   split at hr
   ·rename_i l hl
    split at hr
    ·rename_i i' j' t' f' hj
     injection hr with hr
     injection hr with hr1 hr2
     injection hr2 with hr2 hr3
     injection hr3 with hr3 hr4
     subst hr1 hr2 hr3 hr4
     have hA := (h.ev y).cells_sound hl
     have hlt : q.1 < (a.eval y).cells.toList.length := by rw [hA.1]; exact (List.getElem?_eq_some_iff.1 hj).1
     exact ⟨_, hA.2 q.1 _ _ hj (List.getElem?_eq_getElem hlt)⟩
    ·cases hr
   ·cases hr
  ·exact ZAp h hr
theorem ZLc {γ : Type} {k : Nat} {f : FuncId} {E : CallE} {pos : Nat} {e : TypeId} {u : Ty} {dst : Option Tmp} {args : List Operand} {K : St → Option γ} {r : γ} (hE : SoundAt P k f E) (h : Rel w0 S0 st μ a w)
  (hown : ownI E.ps = some (pos, e, u)) (hk : opCallF k E e u st dst (args.map st.ev) K = some r) :
  Calls P f (args.map a.eval).toArray w fun ed w' => match ed with
   | .returned v => ∃ st' μ', Rel w0 S0 st' μ' (a.put dst v) w' ∧ K st' = some r
   | _ => False := by
 have okb : ∀ (ex : List Nat) k, okBut μ ex k → k < w.heap.size := fun ex k ⟨i, q, _, hq, hk⟩ => h.lt i q hq k hk
 unfold opCallF at hk
 split at hk
 ·rename_i i j t0 f0 hij
  split at hk
  ·rename_i fr e' t1 zs hob
   split at hk
   ·rename_i heu
    obtain ⟨rfl, hro, hgv⟩ := heu
    split at hk
    ·rename_i x hx
     obtain ⟨rec, hrec⟩ := h.some_rec hob
     obtain ⟨v0, hv0⟩ := ZAp h hij
     have hrow0 : RowRep (Rep t0) t0.sz e' w rec.ok zs rec.v := h.ob i _ rec hob hrec
     have hpl : ∀ v, AR μ w (.inf i j t0 f0) v → ∃ (ad : Addr) (n c : Nat), rec.v = .slice (some ad) n c ∧ 0 ≤ j ∧ j < n ∧ w.cell? (ad.add (j.toNat * t0.sz + f0)) = some v := by
      intro v hv
      obtain ⟨r1, ad, n, c, hr1, h1, h2, h3, _, h5, _⟩ := hv
      rw [hrec] at hr1
      injection hr1 with hr1
      subst hr1
      exact ⟨ad, n, c, h1, h2, h3, h5⟩
     obtain ⟨ad0, n0, c0, p1, p2, p3, p4⟩ := hpl v0 hv0
     have hn : n0 = zs.length := by
      obtain ⟨inner, hq, _⟩ := hrow0
      obtain ⟨A', c', hv', _⟩ := ZV hq
      rw [p1] at hv'
      injection hv'
     have hjl : j.toNat < zs.length := by omega
     obtain ⟨hv, So, hSo, hin, ⟨ad, c, hvr, hcell⟩, hback⟩ := hrow0.lendF hro hjl
     have hval : ∀ v, AR μ w (.inf i j t0 f0) v → v = hv := by
      intro v hv1
      obtain ⟨ad1, n1, c1, q1, q2, q3, q4⟩ := hpl v hv1
      rw [hvr] at q1
      injection q1 with q1 _ _
      injection q1 with q1
      subst q1
      rw [hcell] at q4
      injection q4 with q4
      exact q4.symm
     have hA := Zi6 h hval hin hx
     have hov := ZxN h hval hij
     refine (hE.calls w _ _ x _ hA (fun k hk ⟨j', q, hj, hq, hqk⟩ => ?_) (fun k hk => h.lt i rec hrec k (hSo k hk)) (okb _) (fun hn _ => by rw [hown] at hn; cases hn) (h.glob (fun k hk => h.wr i _ rec hob hrec rfl k (hSo k hk))) hk).mono fun ed w' he => ?_
     ·refine h.dj i j' _ rec q (fun hij => ?_) hob rfl hrec hq k (hSo k hk) hqk
      subst hij
      simp at hj
     ·cases ed with
      | returned v =>
       obtain ⟨res, out, hK, hF⟩ := he
       obtain ⟨Sr, us, hSr, rfl, hres, hout⟩ := hF.res
       obtain ⟨ys, hv2, S', rfl, hov2, hrow, hS'⟩ := hout _ hgv hown
       have hSr : ∀ k, Sr k → w.heap.size ≤ k ∧ k < w'.heap.size := fun k hk => ⟨(hSr k hk).1.elim (fun hf => by rw [hgv] at hf; cases hf.1) id, (hSr k hk).2⟩
       simp only at hK hrow
       rw [dif_pos trivial] at hK
       rw [hov] at hov2
       injection hov2 with hov2
       subst hov2
       have hs := h.kp.size
       have hS1 : ∀ k, S' k → rec.ok k ∨ w.heap.size ≤ k := fun k hk => (hS' k hk).1.imp (hSo k) id
       have hdis : ∀ (j : Nat) q, (offAt μ i)[j]? = some q → ∀ k, q.ok k → ¬ rec.ok k ∧ k < w.heap.size := by
        intro j q hq k hqk
        obtain ⟨q0, g0, _, _, g3⟩ := Z24 hq
        rcases g3 with ⟨_, g3⟩ | ⟨hj, rfl⟩
        ·exact absurd hqk (g3 k)
        ·exact ⟨fun hk => h.dj i j _ rec q (Ne.symm hj) hob rfl hrec g0 k hk hqk, h.lt j q g0 k hqk⟩
       have h1 := (h.die i).world hF.chg (fun j q hq k hqk hk => (hdis j q hq k hqk).1 (hSo k hk)) (fun k hk => h.wr i _ rec hob hrec rfl k (hSo k hk))
       have hir : (offAt μ i)[i]? = some rec.off := by rw [Z8K, hrec]; rfl
       have hlen : i < (st.die i).objs.length := by simp [St.die]; exact (List.getElem?_eq_some_iff.1 hob).1
       have hnew := hback w' S' ys hF.chg (h.lt i rec hrec) hrow (fun k hk => (hS' k hk).1)
       have h2 := h1.revive (o' := .row fr e' t0 (List.set zs j.toNat (leafS u t0 (List.getD zs j.toNat t0.zero) f0 ys))) (r' := ⟨rec.v, rec.blk, fun k => rec.ok k ∨ S' k⟩) hir rfl rfl hlen (fun _ _ _ => hnew) (fun j q hj hq k hk hqk => by
         have hd := hdis j q hq k hqk
         rcases hk with h3 | h3
         ·exact hd.1 h3
         ·rcases hS1 k h3 with h4 | h4
          ·exact hd.1 h4
          ·have := hd.2; omega)
        (fun k hk => by
         rcases hk with h3 | h3
         ·exact h.wr i _ rec hob hrec rfl k h3
         ·rcases hS1 k h3 with h4 | h4
          ·exact h.wr i _ rec hob hrec rfl k h4
          ·right; omega)
        (fun e2 t2 xs2 he2 k hk9 => by
         have hfr : fr = true := by cases he2; rfl
         subst hfr
         rcases hk9 with h3 | h3
         ·exact h.fr i _ _ _ rec hob hrec k h3
         ·rcases hS1 k h3 with h4 | h4
          ·exact h.fr i _ _ _ rec hob hrec k h4
          ·right; omega)
        (fun k hk => by
         rcases hk with h3 | h3
         ·have := h.lt i rec hrec k h3
          have := hF.chg.size
          omega
         ·exact (hS' k h3).2.1)
       obtain ⟨μ', h3⟩ := Z5M h2 hres (fun k hk => ⟨.inr (by have := (hSr k hk).1; omega), (hSr k hk).2⟩) (fun j q hq k hk hqk => by
         rw [List.getElem?_set] at hq
         split at hq
         ·split at hq
          ·injection hq with hq
           subst hq
           rcases hqk with h3 | h3
           ·have := h.lt i rec hrec k h3
            have := (hSr k hk).1
            omega
           ·exact (hS' k h3).2.2 hk
          ·cases hq
         ·have := (hSr k hk).1
          have := (hdis j q hq k hqk).2
          omega) dst
       exact ⟨_, μ', h3, hK⟩
      | panicked c => exact False.elim he
      | outgrown => exact False.elim he
    ·cases hk
   ·cases hk
  ·cases hk
 ·cases hk
end
section
variable {P : Program} {w w1 w0 : World} {S0 : Own} {st : St} {μ : List ORec} {a : Act} {o : Oper} {t : TypeId} {i : TI} {β : Type} {r : β} {Q : Exit → Act → World → Prop}
def infEp (i : TI) (e : TypeId) (ti : TI) (st : St) (j : Nat) (u : Ty) (q : Int) (f : Nat) (K : At → Option β) : Option β :=
 match st.objs[j]? with
 | some (.row _ _ u' xs) => if u' = u ∧ i.isAgg = false ∧ i.ty.sz = 1 ∧ rowOK u f e ti.ty = true then K (.inf j q u f) else none
 | _ => none
theorem ZKB {p : Operand} {j : Nat} {u : Ty} {q : Int} {f : Nat} {e : TypeId} {ti : TI} {K : At → Option β} {K' : St → Option β} (T : TT) (hT : TTok P T) (h : Rel w0 S0 st μ a w) (ho : o.op = .load t p) (hi : T.get t = some i) (hp : (st.ev p).atom = .ep j u q f) (hk : infEp i e ti st j u q f K = some r) (hK : ∀ x, K x = some r → K' (st.put o.dst (.sv (.at x))) = some r) : Went P o a w (Nx w0 S0 K' r) := by
  have ok := hT.1 t i hi
  have ha := h.atom p
  rw [hp] at ha
  unfold infEp at hk
  split at hk
  · rename_i fr e' u' xs hob
    split at hk
    · rename_i hc
      obtain ⟨rfl, hag, hsz, hro⟩ := hc
      obtain ⟨rec, ad, n, c, hrec, hv, h0, h1, hpv⟩ := ha
      have hrow : RowRep (Rep u') u'.sz e' w rec.ok xs rec.v := h.ob j _ rec hob hrec
      have hn : n = xs.length := by
        obtain ⟨inner, hqr, _⟩ := hrow
        obtain ⟨A', c', hv', _⟩ := ZV hqr
        rw [hv] at hv'
        injection hv'
      have hj : q.toNat < xs.length := by omega
      obtain ⟨A, c', cs, hv', hs, hl, hcell, hrep⟩ := hrow.elem hj
      rw [hv] at hv'
      injection hv' with ha2 _ _
      injection ha2 with ha2
      subst ha2
      obtain ⟨v, So, _, hcv, hrv, _⟩ := Rep.lendAt hro hrep
      obtain ⟨inner, hqv, _⟩ := hrv
      obtain ⟨A2, c2, hv2, _⟩ := ZV hqv
      have hcf := hcell f v hcv
      have hpk : packV i [v] = v := by unfold packV; rw [hag]; rfl
      refine Zm h (v := packV i [v]) (fun w' hw0 => ?_) (x := .sv (.at (.inf j q u' f))) ⟨⟨rec, ad, n, c, hrec, hv, h0, h1, hs, by rw [hpk]; exact hcf, by rw [hpk]; exact ⟨_, _, _, hv2⟩⟩, .inr (by rw [hpk, hv2]; rfl)⟩ (hK _ hk)
      have hw := hw0 (by rw [ho]; rfl)
      unfold execOp
      simp only [ho, hpv, Instr.loadAt, Instr.sureAddr, Sem.run_bind, Sem.run_pure, Result.andThen_ok]
      rw [ZfJ ok (ad.add (q.toNat * u'.sz + f)) [v] (by rw [hsz]; rfl) (fun m x hm => Zhb hw (by
        cases m with
        | zero => obtain rfl : v = x := by simpa using hm
                  rw [Z6c, Nat.add_zero]; exact hcf
        | succ m => simp at hm))]
      rfl
    · cases hk
  · cases hk
theorem ZJl {γ : Type} {k : Nat} {f : FuncId} {E : CallE} {o : Oper} {pos : Nat} {e : TypeId} {u : Ty} {args : Array Operand} {ats : Array TypeId} {K : St → Option γ} {r : γ} {Q : Exit → Act → World → Prop} (hE : SoundAt P k f E) (h : Rel w0 S0 st μ a w)
  (ho : o.op = .call { callee := .value (.func f), args := args, argTypes := ats }) (hown : ownI E.ps = some (pos, e, u)) (hk : opCallF k E e u st o.dst (args.toList.map st.ev) K = some r) : o.wp P a w (Nx w0 S0 K r) Q := by
 have hrun : (execOp a.eval o).run P w = .ok (.enter f (args.toList.map a.eval).toArray) w := by
  unfold execOp
  simp only [ho, resolve, Deferred.ofValue, Act.eval, Sem.run_bind, Sem.run_pure, Result.andThen_ok, invoke]
  have : (#[] ++ args.map a.eval ++ #[] : Array Value) = (args.toList.map a.eval).toArray := by apply Array.ext'; simp
  rw [this]
  exact hE.enter _ w
 unfold Oper.wp
 rw [hrun, Oper.upon_enter]
 refine (ZLc hE h hown hk).mono fun ed w' he => ?_
 cases ed with
 | returned v =>
  obtain ⟨st', μ', h3, hK⟩ := he
  exact ⟨_, μ', h3, hK⟩
 | panicked c => exact False.elim he
 | outgrown => exact False.elim he
end
end
section
def boxPtr : List PK → List TV → Option Nat
 | p :: ps, x :: xs => match p.box with
  | some _ => match x with
   | .sv (.at (.ptr i 0)) => some i
   | _ => none
  | none => boxPtr ps xs
 | _, _ => none
def headOK (i : Nat) : At → Bool
 | .snap j _ _ => j != i | .sl j => j != i | .nils => true | _ => false
def readBox (st : St) (i : Nat) : (t : Ty) → List At → Option t.D
 | .pair (.slice _ u) b, c :: r => if (b.flat && headOK i c) = true then match readSl st [i] u c, readTree st [i] b r with
  | some xs, some y => some (xs, y)
  | _, _ => none
  else none
 | _, _ => none
def boxNew (i : Nat) : (t : Ty) → t.D → List At → List At
 | .pair (.slice _ _) b, y, c :: _ => c :: atomsOf i b y.2
 | _, _, l => l
def readArgsB (st : St) (i : Nat) (eb : TypeId) (t : Ty) (y : t.D) : (ps : List PK) → List TV → Option (Tup ps)
  | [], [] => some ()
  | p :: ps, x :: xs => match p.own with
    | none => match p.box with
      | none => match x.cells with
        | some l => if aggOK p.agg x = true then match readTree st [i] p.t l with
            | some y1 => match readArgsB st i eb t y ps xs with
              | some ys => some (y1, ys)
              | none => none
            | none => none
          else none
        | none => none
      | some e' => if h : e' = eb ∧ p.agg = false ∧ p.t = t then match x with
        | .sv (.at (.ptr j 0)) => if j = i then match readArgsB st i eb t y ps xs with
            | some ys => some (h.2.2.symm ▸ y, ys)
            | none => none
          else none
        | _ => none
        else none
    | some _ => none
  | _, _ => none
section
variable {γ : Type}
def opCallB (k : Nat) (E : CallE) (eb : TypeId) (t : Ty) (st : St) (dst : Option Tmp) (xs : List TV) (K : St → Option γ) : Option γ :=
 match boxPtr E.ps xs with
 | some i => match st.objs[i]? with
  | some (.box e cells) => if e = eb ∧ (ownI E.ps).isNone = true ∧ giveI E.ps = false then match readBox st i t cells with
    | some y0 => match readArgsB st i eb t y0 E.ps xs with
     | some x => E.fn k x fun res out => match out with
      | some ⟨t2, [y]⟩ => if h : t2 = t then K (giveRes dst E.rs res (backSt st i (.box eb (boxNew i t (h ▸ y) cells)))) else none
      | _ => none
     | none => none
    | none => none
   else none
  | _ => none
 | none => none
end
section
variable {P : Program} {w w1 w0 : World} {S0 : Own} {st : St} {μ : List ORec} {a : Act}
theorem Zhu (h : Rel w0 S0 st μ a w) {i : Nat} {eb : TypeId} {t : Ty} {y : t.D} {So : Nat → Prop} {v0 : Value} (hval : ∀ v, AR μ w (.ptr i 0) v → v = v0) (hB : BoxA w (okBut μ [i]) So eb t y v0) :
  ∀ {ps : List PK} {xs : List Operand} {x : Tup ps}, readArgsB st i eb t y ps (xs.map st.ev) = some x → ArgsR w (okBut μ [i]) So ps x (xs.map a.eval)
 | [], [], x, hr => rfl
 | [], y :: ys, x, hr => by simp [readArgsB] at hr
 | p :: ps, [], x, hr => by simp [readArgsB] at hr
 | p :: ps, z :: zs, x, hr => by
  simp only [List.map_cons, readArgsB] at hr
  split at hr
  ·rename_i hown
   split at hr
   ·rename_i hbox
    split at hr
    ·rename_i l hl
     split at hr
     ·rename_i ha
      have hA := (h.ev z).cells_sound hl
      have hsh := ZaR (h.ev z) hl ha
      split at hr
      ·rename_i y1 hy1
       split at hr
       ·rename_i ys1 hys1
        injection hr with hr
        subst hr
        refine ⟨a.eval z, zs.map a.eval, rfl, hsh, ?_, Zhu h hval hB hys1⟩
        rw [hown, hbox]
        exact ZG h hA hy1
       ·cases hr
      ·cases hr
     ·cases hr
    ·cases hr
   ·rename_i e' hbox
    split at hr
    ·rename_i hc
     obtain ⟨rfl, hag, hpt⟩ := hc
     split at hr
     ·rename_i j hz
      split at hr
      ·rename_i hji
       subst hji
       split at hr
       ·rename_i ys1 hys1
        injection hr with hr
        subst hr
        have hev := h.ev z
        rw [hz] at hev
        have hv := hval _ hev.1
        refine ⟨a.eval z, zs.map a.eval, rfl, ?_, ?_, Zhu h hval hB hys1⟩
        ·unfold Shaped
         rw [if_neg (by rw [hag]; exact Bool.false_ne_true)]
         obtain ⟨g, c, r, hg, _⟩ := hB
         rw [hv, hg]; rfl
        ·rw [hown, hbox]
         obtain ⟨pt, pa, po, pg, pb⟩ := p
         simp only at hpt
         subst hpt
         rw [hv]
         exact hB
       ·cases hr
      ·cases hr
     ·cases hr
    ·cases hr
  ·cases hr
theorem Zw0 (h : Rel w0 S0 st μ a w) {i : Nat} {rec : ORec} (hrec : μ[i]? = some rec) : ∀ {ps : List PK} {xs : List Operand}, boxPtr ps (xs.map st.ev) = some i → boxV ps (xs.map a.eval) = some rec.blk
 | [], xs, hr => by cases xs <;> simp [boxPtr] at hr
 | p :: ps, [], hr => by simp [boxPtr] at hr
 | p :: ps, y :: ys, hr => by
  simp only [List.map_cons, boxPtr] at hr
  simp only [List.map_cons, boxV]
  split at hr
  ·rename_i e hb
   simp only [hb]
   split at hr
   ·rename_i j hz
    injection hr with hr
    subst hr
    have hev := h.ev y
    rw [hz] at hev
    obtain ⟨r, hr, hv⟩ := hev.1
    rw [hrec] at hr
    injection hr with hr
    subst hr
    rw [hv]
   ·cases hr
  ·rename_i hb
   simp only [hb]
   exact Zw0 h hrec hr
theorem ZL1 {c c' : Value} {r r' : List Value} (h : (c :: r).toArray = (c' :: r').toArray) : c = c' ∧ r = r' := by
 have := congrArg Array.toList h
 simpa using this
theorem ZKZ {γ : Type} {k : Nat} {f : FuncId} {E : CallE} {eb : TypeId} {t : Ty} {dst : Option Tmp} {args : List Operand} {K : St → Option γ} {r : γ} (hE : SoundAt P k f E) (h : Rel w0 S0 st μ a w)
  (hbox : boxI E.ps = some (eb, t)) (hk : opCallB k E eb t st dst (args.map st.ev) K = some r) :
  Calls P f (args.map a.eval).toArray w fun ed w' => match ed with
   | .returned v => ∃ st' μ', Rel w0 S0 st' μ' (a.put dst v) w' ∧ K st' = some r
   | _ => False := by
 have okb : ∀ (ex : List Nat) k, okBut μ ex k → k < w.heap.size := fun ex k ⟨i, q, _, hq, hk⟩ => h.lt i q hq k hk
 unfold opCallB at hk
 split at hk
 ·rename_i i hij
  split at hk
  ·rename_i e cells hob
   split at hk
   ·rename_i he
    obtain ⟨rfl, hown, hgv⟩ := he
    rw [Option.isNone_iff_eq_none] at hown
    split at hk
    ·rename_i y0 hy0
     split at hk
     ·rename_i x hx
      obtain ⟨rec, hrec⟩ := h.some_rec hob
      obtain ⟨hok, vs, hb, hAl, h1v⟩ := h.ob i _ rec hob hrec
      match t, y0, hy0, hx, hk, hbox with
      | .pair (.slice es u) b, y0, hy0, hx, hk, hbox =>
       match cells, vs, hAl, hy0, hk, hob, hb, h1v with
       | [], vs, hAl, hy0, hk, hob, hb, h1v => simp [readBox] at hy0
       | c :: cr, [], hAl, hy0, hk, hob, hb, h1v => have := hAl.1; simp at this
       | c :: cr, vc :: vr, hAl, hy0, hk, hob, hb, h1v =>
        simp only [readBox] at hy0
        split at hy0
        ·rename_i hflat
         simp only [Bool.and_eq_true] at hflat
         obtain ⟨hflat, hhead⟩ := hflat
         split at hy0
         ·rename_i xs0 yb hxs hyb
          injection hy0 with hy0
          subst hy0
          have hAc : AR μ w c vc := hAl.2 0 c vc rfl rfl
          have hAr : AL μ w cr vr := ⟨by have := hAl.1; simpa using this, fun j x v hx hv => hAl.2 (j + 1) x v (by simpa using hx) (by simpa using hv)⟩
          have hrd := Z9j h hAc hxs
          have hrep := ZcE (S := okBut μ [i]) hflat (ZG h hAr hyb)
          have hBA : BoxA w (okBut μ [i]) (fun k => k = rec.blk) e (.pair (.slice es u) b) (xs0, yb) (.pointer (some ⟨rec.blk, 0, none⟩)) := ⟨rec.blk, vc, vr, rfl, rfl, hb, hflat, hrd, hrep⟩
          have hval : ∀ v, AR μ w (.ptr i 0) v → v = .pointer (some ⟨rec.blk, 0, none⟩) := by
           intro v hv
           obtain ⟨q, hq, hv⟩ := hv
           rw [hrec] at hq
           injection hq with hq
           rw [hv, hq]
          have hA := Zhu h hval hBA hx
          have hbv := Zw0 h hrec hij
          have hlt := h.lt i rec hrec
          refine (hE.calls w _ _ x _ hA (fun k hk ⟨j', q, hj, hq, hqk⟩ => ?_) (fun k hk => by rw [hk]; exact hlt _ hok) (okb _) (fun _ hn => by rw [hbox] at hn; cases hn) (h.glob (fun k hk => by rw [hk]; exact h.wr i _ rec hob hrec rfl _ hok)) hk).mono fun ed w' he => ?_
          ·subst hk
           refine h.dj i j' _ rec q (fun hij => ?_) hob rfl hrec hq rec.blk hok hqk
           subst hij
           simp at hj
          ·cases ed with
           | returned v =>
            obtain ⟨res, out, hK, hF⟩ := he
            obtain ⟨Sr, us, hSr, rfl, hres, _⟩ := hF.res
            obtain ⟨g, c1, r1, r2, y, rfl, hbv2, hh1, hh2, hBE⟩ := hF.box _ _ hbox
            have hSr : ∀ k, Sr k → w.heap.size ≤ k ∧ k < w'.heap.size := fun k hk => ⟨(hSr k hk).1.elim (fun hf => by rw [hgv] at hf; cases hf.1) id, (hSr k hk).2⟩
            rw [hbv] at hbv2
            injection hbv2 with hbv2
            subst hbv2
            rw [hb] at hh1
            injection hh1 with hh1
            injection hh1 with hh1 _ _
            obtain ⟨rfl, rfl⟩ := ZL1 hh1
            simp only at hK
            rw [dif_pos trivial] at hK
            have hs := h.kp.size
            have hrep2 : Rep b w' (fun _ => False) y.2 r2 := hBE
            have hdis : ∀ (j : Nat) q, (offAt μ i)[j]? = some q → ∀ k, q.ok k → ¬ rec.ok k ∧ k < w.heap.size := by
             intro j q hq k hqk
             obtain ⟨q0, g0, _, _, g3⟩ := Z24 hq
             rcases g3 with ⟨_, g3⟩ | ⟨hj, rfl⟩
             ·exact absurd hqk (g3 k)
             ·exact ⟨fun hk => h.dj i j _ rec q (Ne.symm hj) hob rfl hrec g0 k hk hqk, h.lt j q g0 k hqk⟩
            have h1 := (h.die i).world hF.chg (fun j q hq k hqk hk => (hdis j q hq k hqk).1 (by rw [hk]; exact hok)) (fun k hk => by rw [hk]; exact h.wr i _ rec hob hrec rfl _ hok)
            have hir : (offAt μ i)[i]? = some rec.off := by rw [Z8K, hrec]; rfl
            have hlen : i < (st.die i).objs.length := by simp [St.die]; exact (List.getElem?_eq_some_iff.1 hob).1
            have h2 := h1.revive (o' := .box e (c :: atomsOf i b y.2)) (r' := ⟨rec.v, rec.blk, rec.ok⟩) hir rfl rfl hlen (fun μ' hμ1 hμ2 => by
              refine ⟨hok, vc :: r2, hh2, ?_, fun u hu => ?_⟩
              ·have hc' : AR μ' w' c vc := by
                have mv : ∀ j q, j ≠ i → μ[j]? = some q → μ'[j]? = some q ∧ ∀ k, q.ok k → w'.heap[k]? = w.heap[k]? := fun j q hj hq => by
                 have hq2 : (offAt μ i)[j]? = some q := by rw [Z8U (Ne.symm hj)]; exact hq
                 refine ⟨by rw [hμ1 j hj]; exact hq2, fun k hk => hF.chg.block k (h.lt j q hq k hk) (fun hkb => (hdis j q hq2 k hk).1 (by rw [hkb]; exact hok))⟩
                cases c with
                | snap j t xs =>
                 simp only [headOK, bne_iff_ne, ne_eq] at hhead
                 obtain ⟨q, hq, hx⟩ := hAc
                 obtain ⟨m1, m2⟩ := mv j q hhead hq
                 have := AR.move (μ := μ) (w := w) (w1 := w') (x := .snap j t xs) (v := vc) ⟨q, hq, hx⟩ (fun i2 q2 hd hq2 => by
                  injection hd with hd
                  subst hd
                  rw [hq] at hq2
                  injection hq2 with hq2
                  subst hq2
                  exact m2)
                 obtain ⟨q3, hq3, hx3⟩ := this
                 rw [hq] at hq3
                 injection hq3 with hq3
                 subst hq3
                 exact ⟨q, m1, hx3⟩
                | sl j =>
                 simp only [headOK, bne_iff_ne, ne_eq] at hhead
                 obtain ⟨q, hq, hx⟩ := hAc
                 exact ⟨q, (mv j q hhead hq).1, hx⟩
                | nils => exact hAc
                | _ => cases hhead
               have hr' : AL μ' w' (atomsOf i b y.2) r2 := AL.of_rd hμ2 (hrep2.rd.wide (fun _ hf => hf.elim))
               refine ⟨by have := hr'.1; simp [this], fun j x v hx hv => ?_⟩
               cases j with
               | zero =>
                obtain rfl : c = x := by simpa using hx
                obtain rfl : vc = v := by simpa using hv
                exact hc'
               | succ j => exact hr'.2 j x v (by simpa using hx) (by simpa using hv)
              ·rcases List.mem_cons.1 hu with rfl | hu
               ·exact h1v _ (List.mem_cons_self ..)
               ·exact hrep2.one u hu)
             (fun j q hj hq k hk hqk => (hdis j q hq k hqk).1 hk)
             (fun k hk => h.wr i _ rec hob hrec rfl k hk)
             (fun e2 t2 xs2 he2 => by cases he2)
             (fun k hk => Nat.lt_of_lt_of_le (hlt k hk) hF.chg.size)
            obtain ⟨μ', h3⟩ := Z5M h2 hres (fun k hk => ⟨.inr (by have := (hSr k hk).1; omega), (hSr k hk).2⟩) (fun j q hq k hk hqk => by
              rw [List.getElem?_set] at hq
              split at hq
              ·split at hq
               ·injection hq with hq
                subst hq
                have := hlt k hqk
                have := (hSr k hk).1
                omega
               ·cases hq
              ·have := (hSr k hk).1
               have := (hdis j q hq k hqk).2
               omega) dst
            exact ⟨_, μ', h3, hK⟩
           | panicked c => exact False.elim he
           | outgrown => exact False.elim he
         ·cases hy0
        ·cases hy0
      | .pair (.int _) b, y0, hy0, hx, hk, hbox => simp [readBox] at hy0
      | .pair .bool b, y0, hy0, hx, hk, hbox => simp [readBox] at hy0
      | .pair .str b, y0, hy0, hx, hk, hbox => simp [readBox] at hy0
      | .pair (.pair _ _) b, y0, hy0, hx, hk, hbox => simp [readBox] at hy0
      | .int _, y0, hy0, hx, hk, hbox => simp [readBox] at hy0
      | .bool, y0, hy0, hx, hk, hbox => simp [readBox] at hy0
      | .str, y0, hy0, hx, hk, hbox => simp [readBox] at hy0
      | .slice _ _, y0, hy0, hx, hk, hbox => simp [readBox] at hy0
     ·cases hk
    ·cases hk
   ·cases hk
  ·cases hk
 ·cases hk
theorem ZJx {γ : Type} {k : Nat} {f : FuncId} {E : CallE} {o : Oper} {eb : TypeId} {t : Ty} {args : Array Operand} {ats : Array TypeId} {K : St → Option γ} {r : γ} {Q : Exit → Act → World → Prop} (hE : SoundAt P k f E) (h : Rel w0 S0 st μ a w)
  (ho : o.op = .call { callee := .value (.func f), args := args, argTypes := ats }) (hbox : boxI E.ps = some (eb, t)) (hk : opCallB k E eb t st o.dst (args.toList.map st.ev) K = some r) : o.wp P a w (Nx w0 S0 K r) Q := by
 have hrun : (execOp a.eval o).run P w = .ok (.enter f (args.toList.map a.eval).toArray) w := by
  unfold execOp
  simp only [ho, resolve, Deferred.ofValue, Act.eval, Sem.run_bind, Sem.run_pure, Result.andThen_ok, invoke]
  have : (#[] ++ args.map a.eval ++ #[] : Array Value) = (args.toList.map a.eval).toArray := by apply Array.ext'; simp
  rw [this]
  exact hE.enter _ w
 unfold Oper.wp
 rw [hrun, Oper.upon_enter]
 refine (ZKZ hE h hbox hk).mono fun ed w' he => ?_
 cases ed with
 | returned v =>
  obtain ⟨st', μ', h3, hK⟩ := he
  exact ⟨_, μ', h3, hK⟩
 | panicked c => exact False.elim he
 | outgrown => exact False.elim he
end
end
section
def TI.isStr (i : TI) : Bool := match i.d with
 | .scal => match i.ty with | .str => true | _ => false
 | _ => false
def strT (T : TT) (t : TypeId) : Bool := match T.get t with
 | some i => i.isStr
 | none => false
def byteAt (s : ByteArray) (n : Nat) : Int := ((s.data.toList.getD n 0).toNat : Int)
def subS (s : ByteArray) (a b : Nat) : ByteArray := s.extract a b
def bytesOf (xs : List Int) : ByteArray := ⟨(xs.map fun n => UInt8.ofNat n.toNat).toArray⟩
theorem ZKk (xs : List Int) : ∀ l : List UInt8, xs.foldl (fun r n => r.push (UInt8.ofNat n.toNat)) (⟨l.toArray⟩ : ByteArray) = ⟨(l ++ xs.map fun n => UInt8.ofNat n.toNat).toArray⟩ := by
 induction xs with
 | nil => intro l; simp
 | cons n xs ih =>
  intro l
  have h : (⟨l.toArray⟩ : ByteArray).push (UInt8.ofNat n.toNat) = ⟨(l ++ [UInt8.ofNat n.toNat]).toArray⟩ := by simp [ByteArray.push]
  simp only [List.foldl_cons, h]
  rw [ih]
  simp
section
variable {β : Type}
def opIdxS (x : At) (y : TV) (K : At → Option β) : Option β := match x with
 | .str s => match y with
  | .sv (.at (.int _ n)) => inRange n s.size (K (.int .u8 (byteAt s n.toNat)))
  | _ => none
 | _ => none
def opCutS (x : At) (lo hi : Option TV) (K : At → Option β) : Option β := match x with
 | .str s => cutAt lo hi s.size fun a b => K (.str (subS s a b))
 | _ => none
def opConvS (T : TT) (src dst : TypeId) (st : St) (x : At) (K : At → Option β) : Option β :=
 match T.get src with
 | some i => match i.d with
  | .slice e => match T.get e with
   | some ie => if ie.isScal = true ∧ ie.ty = .int .u8 ∧ strT T dst = true then match readSl st [] (.int .u8) x with
     | some xs => K (.str (bytesOf xs))
     | none => none
    else none
   | none => none
  | _ => none
 | none => none
end
noncomputable def gtS : Int → Int → Bool := Classical.choose (⟨fun a b => decide (a > b), rfl⟩ : ∃ f : Int → Int → Bool, f = fun a b => decide (a > b))
theorem ZLS (a b : Int) : gtS a b = decide (a > b) := congrFun (congrFun (Classical.choose_spec (⟨fun a b => decide (a > b), rfl⟩ : ∃ f : Int → Int → Bool, f = fun a b => decide (a > b))) a) b
def gtBig (op : BinOp) (y : Operand) : Bool := match op with
 | .gtr => match y with
  | .const (.int .i64 n) => n == 1048576
  | _ => false
 | _ => false
noncomputable def opGtS {β : Type} (x : TV) (K : At → Option β) : Option β := match x with
 | .sv (.at (.int .i64 a)) => K (.bool (gtS a 1048576))
 | _ => none
theorem ZKr {op : BinOp} {y : Operand} (h : gtBig op y = true) : op = .gtr ∧ y = .const (.int .i64 1048576) := by
 unfold gtBig at h
 split at h
 ·split at h
  ·rename_i n
   have : n = 1048576 := by simpa using h
   subst this
   exact ⟨rfl, rfl⟩
  ·cases h
 ·cases h
noncomputable def addS : Int → Int → Int := Classical.choose (⟨fun a b => wrap64 (a + b), rfl⟩ : ∃ f : Int → Int → Int, f = fun a b => wrap64 (a + b))
theorem ZEJ (a b : Int) : addS a b = wrap64 (a + b) := congrFun (congrFun (Classical.choose_spec (⟨fun a b => wrap64 (a + b), rfl⟩ : ∃ f : Int → Int → Int, f = fun a b => wrap64 (a + b))) a) b
noncomputable def opAddS {β : Type} (op : BinOp) (x y : TV) (K : At → Option β) : Option β := match op with
 | .add => match x, y with
  | .sv (.at (.int .i64 a)), .sv (.at (.int .i64 b)) => K (.int .i64 (addS a b))
  | _, _ => none
 | _ => none
section
variable {β : Type} {P : Program} {w w1 w0 : World} {S0 : Own} {st : St} {μ : List ORec} {a : Act} {o : Oper} {r : β} {t : TypeId}
theorem ZBx {T : TT} (hT : TTok P T) (h : strT T t = true) : P.underlying t = some .string := by
 unfold strT at h
 split at h
 ·rename_i i hi
  have ok := (hT.1 t i hi).desc
  unfold TI.isStr at h
  split at h
  ·rename_i hd
   rw [hd] at ok
   obtain ⟨d, h1, h2⟩ := ok
   split at h
   ·rename_i hty
    rw [hty] at h1
    injection h1 with h1
    subst h1
    exact h2
   ·cases h
  ·cases h
 ·cases h
theorem ZLX {op : BinOp} {x y : Operand} {yt : TypeId} {K : At → Option β} {K' : St → Option β} (T : TT) (hT : TTok P T) (h : Rel w0 S0 st μ a w) (ho : o.op = .binOp op t x y yt) (hb : gtBig op y = true)
  (hk : opGtS (st.ev x) K = some r) (hK : ∀ x, K x = some r → K' (st.put o.dst (.sv (.at x))) = some r) : Went P o a w (Nx w0 S0 K' r) := by
 obtain ⟨rfl, rfl⟩ := ZKr hb
 refine ZD1 T hT h ho ?_ hK
 unfold opGtS at hk
 split at hk
 ·rename_i n hx
  rw [hx]
  rw [ZLS] at hk
  exact hk
 ·cases hk
theorem ZLu {op : BinOp} {x y : Operand} {yt : TypeId} {K : At → Option β} {K' : St → Option β} (T : TT) (hT : TTok P T) (h : Rel w0 S0 st μ a w) (ho : o.op = .binOp op t x y yt)
  (hk : opAddS op (st.ev x) (st.ev y) K = some r) (hK : ∀ x, K x = some r → K' (st.put o.dst (.sv (.at x))) = some r) : Went P o a w (Nx w0 S0 K' r) := by
 refine ZD1 T hT h ho ?_ hK
 unfold opAddS at hk
 split at hk
 ·split at hk
  ·rename_i a b hx hy
   rw [hx, hy]
   rw [ZEJ] at hk
   exact hk
  ·cases hk
 ·cases hk
theorem ZLL {x y : Operand} {K : At → Option β} {K' : St → Option β} (T : TT) (hT : TTok P T) (h : Rel w0 S0 st μ a w) (ho : o.op = .index t x y) (ht : strT T t = true)
  (hk : opIdxS (st.ev x).atom (st.ev y) K = some r) (hK : ∀ x, K x = some r → K' (st.put o.dst (.sv (.at x))) = some r) : Went P o a w (Nx w0 S0 K' r) := by
 have hu := ZBx hT ht
 have hx := h.atom x
 unfold opIdxS at hk
 split at hk
 ·rename_i s hxa
  rw [hxa] at hx
  split at hk
  ·rename_i k n hy
   have hy2 : a.eval y = .int k n := h.at hy
   obtain ⟨h0, h1, hk⟩ := Z7e hk
   refine Zm h (v := .int .u8 (byteAt s n.toNat)) (x := .sv (.at (.int .u8 (byteAt s n.toNat)))) (fun w' _ => ?_) ⟨rfl, .inr rfl⟩ (hK _ hk)
   unfold execOp
   have h2 : n.toNat < s.size := by omega
   have hb : ((s[n.toNat]'h2).toNat : Int) = byteAt s n.toNat := by
    unfold byteAt
    have h3 : n.toNat < s.data.toList.length := by rw [Array.length_toList]; exact h2
    rw [List.getD, List.getElem?_eq_getElem h3]
    rfl
   simp only [ho, show a.eval x = _ from hx, hy2, Sem.run_bind, run_index_string w' t s k n hu, dif_pos (⟨h0, h1⟩ : 0 ≤ n ∧ n < s.size), Result.andThen_ok, Sem.run_pure, hb]
  ·cases hk
 ·cases hk
theorem ZL7 {x : Operand} {lo hi : Option Operand} (hu : P.underlying t = some .string) (h : Rel w0 S0 st μ a w) (ho : o.op = .slice t x lo hi none) {s : ByteArray} {p q : Nat} (hv : a.eval x = .string s)
  (hpq : p ≤ q) (hqn : q ≤ s.size) (hl : lo.map st.ev = none ∧ p = 0 ∨ ∃ k, lo.map st.ev = some (.sv (.at (.int k p)))) (hh : hi.map st.ev = none ∧ q = s.size ∨ ∃ k, hi.map st.ev = some (.sv (.at (.int k q)))) (w' : World) :
  (execOp a.eval o).run P w' = .ok (.value (.string (s.extract p q))) w' := by
 have hlo : lo = none ∧ p = 0 ∨ ∃ k x', lo = some x' ∧ a.eval x' = .int k p := by
  rcases hl with ⟨hl, hp⟩ | ⟨k, hl⟩
  ·exact .inl ⟨by simpa using hl, hp⟩
  ·obtain ⟨x', hx, hx2⟩ := Option.map_eq_some_iff.1 hl
   exact .inr ⟨k, x', hx, h.at hx2⟩
 have hhi : hi = none ∧ q = s.size ∨ ∃ k x', hi = some x' ∧ a.eval x' = .int k q := by
  rcases hh with ⟨hl, hp⟩ | ⟨k, hl⟩
  ·exact .inl ⟨by simpa using hl, hp⟩
  ·obtain ⟨x', hx, hx2⟩ := Option.map_eq_some_iff.1 hl
   exact .inr ⟨k, x', hx, h.at hx2⟩
 have hb : ∀ (k : IntKind) (m y : Nat) (c : BoundsCode), m ≤ y → (Instr.sliceBound (.int k m) y c).run P w' = .ok m w' := by
  intro k m y c hm
  unfold Instr.sliceBound
  simp only [asIntOf, Sem.run_bind, Sem.run_pure, Result.andThen_ok]
  rw [Sem.run_ite, if_pos ⟨by omega, by omega⟩]
  simp
 unfold execOp
 simp only [ho, hv, Option.map_none, Sem.run_bind]
 rcases hlo with ⟨rfl, rfl⟩ | ⟨k, x', rfl, hx'⟩ <;> rcases hhi with ⟨rfl, rfl⟩ | ⟨k2, y', rfl, hy'⟩ <;> simp only [Option.map_none, Option.map_some, *] <;>
  rw [run_sliceAt_string w' t _ _ _ _ hu] <;>
  simp [Instr.slice, Instr.sliceBounds, run_underlying hu, hb, hpq, hqn]
theorem ZLv {x : Operand} {lo hi : Option Operand} {K : At → Option β} {K' : St → Option β} (T : TT) (hT : TTok P T) (h : Rel w0 S0 st μ a w) (ho : o.op = .slice t x lo hi none) (ht : strT T t = true)
  (hk : opCutS (st.ev x).atom (lo.map st.ev) (hi.map st.ev) K = some r) (hK : ∀ x, K x = some r → K' (st.put o.dst (.sv (.at x))) = some r) : Went P o a w (Nx w0 S0 K' r) := by
 have hu := ZBx hT ht
 have hx := h.atom x
 unfold opCutS at hk
 split at hk
 ·rename_i s hxa
  rw [hxa] at hx
  obtain ⟨p, q, h1, h2, hk, hl, hh⟩ := ZgV hk
  exact Zm h (fun w' _ => ZL7 hu h ho hx h1 h2 hl hh w') (x := .sv (.at (.str (subS s p q)))) ⟨rfl, .inr rfl⟩ (hK _ hk)
 ·cases hk
theorem ZLi {src dst : TypeId} {x : Operand} {T : TT} {K : At → Option β} {K' : St → Option β} (hT : TTok P T) (h : Rel w0 S0 st μ a w) (ho : o.op = .convert src dst x) (hc : convS dst = true)
  (hk : opConvS T src dst st (st.ev x).atom K = some r) (hK : ∀ x, K x = some r → K' (st.put o.dst (.sv (.at x))) = some r) : Went P o a w (Nx w0 S0 K' r) := by
 have hx := h.atom x
 unfold opConvS at hk
 split at hk
 ·rename_i i hi
  split at hk
  ·rename_i e hie
   split at hk
   ·rename_i ie hte
    split at hk
    ·rename_i hcc
     obtain ⟨hsc, hty, hst⟩ := hcc
     split at hk
     ·rename_i xs hxs
      have hu : P.underlying src = some (.slice e) := by have := (hT.1 _ _ hi).desc; rw [hie] at this; exact this
      have hd := ZBx hT hst
      have he : P.underlying e = some (.int .u8) := by
       have := (hT.1 _ _ hte).desc
       unfold TI.isScal at hsc
       split at hsc
       ·rename_i h1
        rw [h1] at this
        obtain ⟨d, g1, g2⟩ := this
        rw [hty] at g1
        injection g1 with g1
        subst g1
        exact g2
       ·cases hsc
      obtain ⟨A, c, hv, hlc, hmx, hA⟩ := Z9j h hx hxs
      refine Zm h (v := .string (bytesOf xs)) (x := .sv (.at (.str (bytesOf xs)))) (fun w' hw0 => ?_) ⟨rfl, .inr rfl⟩ (hK _ hk)
      have hw := hw0 (by rw [ho]; exact hc)
      unfold execOp
      simp only [ho, show a.eval x = _ from hv, Sem.run_bind, run_convert_bytes_string w' src dst e A _ _ hu he hd]
      have hrun : (Conv.bytesToString (.slice A xs.length c)).run P w' = .ok (.string (bytesOf xs)) w' := by
       cases A with
       | none =>
        have hx0 : xs = [] := by
         rcases Nat.eq_zero_or_pos xs.length with h0 | h0
         ·exact List.eq_nil_of_length_eq_zero h0
         ·obtain ⟨a', ha', _⟩ := hA h0
          cases ha'
        subst hx0
        simp [Conv.bytesToString, bytesOf]
        rfl
       | some ad =>
        have hcells : (loadCells ad xs.length).run P w' = .ok (xs.map (Value.int .u8)).toArray w' := by
         have := run_loadCells_list (P := P) w' ad (xs.map (Value.int .u8)) (fun j v hj => ?_)
         ·simpa using this
         ·rw [List.getElem?_map] at hj
          obtain ⟨n, hn, rfl⟩ := Option.map_eq_some_iff.1 hj
          have hjl := (List.getElem?_eq_some_iff.1 hn).1
          obtain ⟨a', ha', _, hel⟩ := hA (by omega)
          injection ha' with ha'
          subst ha'
          obtain ⟨cs, hcl, hcell, hrd⟩ := hel j n hn
          have hcs : cs = [.int .u8 n] := hrd
          have := hcell 0 (.int .u8 n) (by rw [hcs]; rfl)
          simp only [Ty.sz, Nat.mul_one, Nat.add_zero] at this
          exact Zhb hw this
        rw [run_bytesToString w' ad xs.length c xs hcells]
        have h2 := ZKk xs []
        simp only [List.nil_append] at h2
        exact congrArg (fun z => Result.ok (Value.string z) w') h2
      rw [hrun]
      rfl
     ·cases hk
    ·cases hk
   ·cases hk
  ·cases hk
 ·cases hk
end
end
section
section
variable {γ : Type}
def opFnLoad (st : St) : At → Option At
 | .ptr j f => match st.objs[j]? with
  | some (.box _ cells) => match cells[f]? with
   | some (.cv i) => some (.cv i)
   | _ => none
  | _ => none
 | .pc _ j => some (.cv j)
 | _ => none
def opFnStore (st : St) (p x : At) : Option St := match p with
 | .ptr j 0 => match st.objs[j]? with
  | some (.box e [_]) => match x with
   | .cv i => some { st.kill j with objs := (st.kill j).objs.set j (.box e [.cv i]) }
   | _ => none
  | _ => none
 | _ => none
def capsL (st : St) : List Operand → Option (List At)
 | [] => some []
 | c :: cs => match st.ev c with
  | .sv (.at x) => if x.isUn = true then none else match capsL st cs with
   | some l => some (x :: l)
   | none => none
  | _ => none
end
section
variable {P : Program} {w w1 w0 : World} {S0 : Own} {st : St} {μ : List ORec} {a : Act} {t : TypeId} {o : Oper} {β : Type} {K : St → Option β} {r : β} {Q : Exit → Act → World → Prop}
theorem FnTy.agg (h : FnTy P t) (w : World) : (isAgg t).run P w = .ok false w := by
 obtain ⟨ps, rs, v, hu⟩ := h.und
 unfold isAgg
 rw [Sem.run_bind, run_underlying hu]
 rfl
theorem FnTy.get (h : FnTy P t) : ∃ x, P.info? t = some x ∧ x.zero = some .nilFunc ∧ x.size = 1 := by
 obtain ⟨x, hx, he⟩ := Option.map_eq_some_iff.1 h.info
 injection he with h1 h2
 exact ⟨x, hx, h1, h2⟩
theorem FnTy.sizeOf (h : FnTy P t) (w : World) : (sizeOf t).run P w = .ok 1 w := by
 obtain ⟨x, hx, _, hs⟩ := h.get
 simp [Go.sizeOf, typeInfo, hx, hs]
theorem FnTy.zero (h : FnTy P t) (w : World) : (zeroValue t).run P w = .ok .nilFunc w := by
 obtain ⟨x, hx, hz, _⟩ := h.get
 simp [zeroValue, typeInfo, hx, hz]
theorem FnTy.load (h : FnTy P t) {ad : Addr} {v : Value} (hc : w.cell? ad = some v) : (loadVar t ad).run P w = .ok v w := by
 unfold loadVar
 rw [Sem.run_bind, h.agg]
 simp [hc]
theorem FnTy.store (h : FnTy P t) {g f : Nat} {e : TypeId} {cur : Array Value} (hb : w.heap[g]? = some (.cells cur e (0, 0))) (u : Value) (hu : u.cells = #[u]) (hf : f + 1 ≤ cur.size) (h1 : u.oneCell' = true) :
  (storeVar t ⟨g, f, none⟩ u).run P w = .ok () (w.setRow g (Vs.setw cur.toList f [u]).toArray) := by
 unfold storeVar
 rw [Sem.run_bind, h.sizeOf]
 simp only [Result.andThen_ok]
 have hul : u.cells.toList = [u] := by rw [hu]
 have := run_storeCells_at (P := P) g f e u.cells.toList 0 cur w hb (by rw [hul]; simpa using hf) (by rw [hul]; intro v hv; rw [List.mem_singleton.1 hv]; exact h1)
 simp only [Nat.add_zero] at this
 have hs : u.cells.size = 1 := by rw [hu]; rfl
 rw [hul] at this
 simp only [List.length_singleton] at this
 simp [hs, this, setw, hul]
theorem ZAy (hf : FnTy P t) (h : Rel w0 S0 st μ a w) (ho : o.op = .alloc t) (hk : K (st.mk1 o.dst (.box t [.un]) (.ptr st.objs.length 0)) = some r) : o.wp P a w (Nxs w0 S0 w K r) Q := by
 have hrun : (execOp a.eval o).run P w = .ok (.value (.pointer (some ⟨w.heap.size, 0, none⟩))) (w.alloc (.cells [Value.nilFunc].toArray t)) := by
  unfold execOp
  simp only [ho, Instr.alloc, Sem.run_bind, hf.zero, Result.andThen_ok, newVar, newRow, run_newObj, Sem.run_pure]
  rfl
 have hA : AL μ w [At.un] [Value.nilFunc] := AL.one trivial
 refine Z9t hrun ⟨⟨_, _, (Zy5 h hA (fun u hu => by rw [List.mem_singleton.1 hu]; rfl)).mk1 o.dst (x := .ptr st.objs.length 0) ?_ rfl, hk⟩, .alloc w _ _⟩
 rw [← h.len]
 exact ⟨_, Z4t _ _, rfl⟩
theorem ZKo {p : Operand} {y : At} (hf : FnTy P t) (h : Rel w0 S0 st μ a w) (ho : o.op = .load t p) (hy : opFnLoad st (st.ev p).atom = some y) (hk : K (st.put o.dst (.sv (.at y))) = some r) : Went P o a w (Nx w0 S0 K r) := by
 have ha := h.atom p
 have fin : ∀ (ad : Addr) (v : Value), a.eval p = .pointer (some ad) → w.cell? ad = some v → AR μ w y v → y.isUn = false → Went P o a w (Nx w0 S0 K r) := by
  intro ad v hp hc hv hu
  refine Zm h (v := v) (x := .sv (.at y)) (fun w' hw0 => ?_) ⟨hv, .inr (hv.oneCell hu).2⟩ hk
  have hw := hw0 (by rw [ho]; rfl)
  unfold execOp
  simp only [ho, hp, Instr.loadAt, Instr.sureAddr, Sem.run_bind, Sem.run_pure, Result.andThen_ok, hf.load (Zhb hw hc)]
 unfold opFnLoad at hy
 split at hy
 ·rename_i j f hx
  rw [hx] at ha
  split at hy
  ·rename_i e cells hob
   split at hy
   ·rename_i i hi
    injection hy with hy
    subst hy
    obtain ⟨q, hq, hp⟩ := ha
    obtain ⟨_, vs, hb, hA, _⟩ := h.ob j _ q hob hq
    have hfl : f < vs.length := by rw [hA.1]; exact (List.getElem?_eq_some_iff.1 hi).1
    have hv := hA.2 f _ vs[f] hi (List.getElem?_eq_getElem hfl)
    refine fin _ vs[f] hp ?_ hv rfl
    simp [World.cell?, hb, List.getElem?_eq_getElem hfl]
   ·cases hy
  ·cases hy
 ·rename_i i j hx
  injection hy with hy
  subst hy
  rw [hx] at ha
  obtain ⟨r1, q, g, _, hq, _, hv, hc, hfn⟩ := ha
  exact fin _ _ hv hc ⟨q, hq, rfl, hfn⟩ rfl
 ·cases hy
theorem ZJ0 {p x : Operand} {st' : St} (hf : FnTy P t) (h : Rel w0 S0 st μ a w) (ho : o.op = .store t p x) (hd : o.dst = none) (hs : opFnStore st (st.ev p).atom (st.ev x).atom = some st') (hk : K st' = some r) : o.wp P a w (Nx w0 S0 K r) Q := by
 have ha := h.atom p
 have hxa := h.atom x
 unfold opFnStore at hs
 split at hs
 ·rename_i j hp
  rw [hp] at ha
  split at hs
  ·rename_i e c hob
   split at hs
   ·rename_i i hx
    injection hs with hs
    subst hs
    rw [hx] at hxa
    obtain ⟨q, hq, hpv⟩ := ha
    obtain ⟨hok, vs, hb, hAv, h1v⟩ := h.ob j _ q hob hq
    have hone := AR.oneCell hxa rfl
    have hl : vs.length = 1 := hAv.1
    have hsz : 0 + 1 ≤ vs.toArray.size := by simp; omega
    have hst := hf.store (f := 0) hb (a.eval x) hone.2 hsz hone.1
    have hrun : (execOp a.eval o).run P w = .ok .skip (w.setRow q.blk (Vs.setw vs.toArray.toList 0 [a.eval x]).toArray) := by
     unfold execOp
     simp only [ho, hpv, Instr.storeAt, Instr.sureAddr, Sem.run_bind, Sem.run_pure, Result.andThen_ok, hst]
    have hset : Vs.setw vs 0 [a.eval x] = [a.eval x] := by
     match vs, hl with
     | [v], _ => rfl
    refine ZpY hrun ⟨_, μ, ?_, hk⟩
    rw [hd]
    refine h.turn (o' := .box e [.cv i]) hob hq rfl rfl (.setRow w q.blk _ hok) ⟨hok, [a.eval x], by rw [setRow_heap w q.blk _ _ e _ hb]; simp only [hset], ?_, fun u hu => by rw [List.mem_singleton.1 hu]; exact hone.1⟩ (fun e t xs he => by cases he)
    exact AL.one (show AR μ _ (.cv i) _ from hxa)
   ·cases hs
  ·cases hs
 ·cases hs
theorem ZAA (h : Rel w0 S0 st μ a w) : ∀ {cs : List Operand} {l : List At}, capsL st cs = some l → AL μ w l (cs.map a.eval)
 | [], l, hl => by
  injection hl with hl
  subst hl
  exact ⟨rfl, fun j x v hx => by simp at hx⟩
 | c :: cs, l, hl => by
  simp only [capsL] at hl
  split at hl
  ·rename_i x hx
   split at hl
   ·cases hl
   ·split at hl
    ·rename_i l' hl'
     injection hl with hl
     subst hl
     have ih := ZAA h hl'
     have hx1 : AR μ w x (a.eval c) := by have := h.ev c; rw [hx] at this; exact this.1
     refine ⟨by simp [ih.1], fun j y v hy hv => ?_⟩
     cases j with
     | zero =>
      simp only [List.getElem?_cons_zero, List.map_cons] at hy hv
      injection hy with hy
      injection hv with hv
      subst hy hv
      exact hx1
     | succ j =>
      simp only [List.getElem?_cons_succ, List.map_cons] at hy hv
      exact ih.2 j y v hy hv
    ·cases hl
  ·cases hl
theorem ZK5 {f : FuncId} {caps : Array Operand} {l : List At} (h : Rel w0 S0 st μ a w) (ho : o.op = .makeFunc (.func f) #[] caps) (hl : capsL st caps.toList = some l) (hk : K (st.mk1 o.dst (.clo f l) (.cv st.objs.length)) = some r) : o.wp P a w (Nx w0 S0 K r) Q := by
 have hA := ZAA h hl
 have hrun : (execOp a.eval o).run P w = .ok (.value (.func (.func f) #[] (caps.toList.map a.eval).toArray)) w := by
  have : caps.map a.eval = (caps.toList.map a.eval).toArray := by apply Array.ext'; simp
  unfold execOp
  have h0 : (#[] : Array Operand).map a.eval = #[] := by simp
  simp only [ho, Instr.makeFunc, Sem.run_bind, Sem.run_pure, Result.andThen_ok, this, h0]
 have hp := h.push (o := .clo f l) (r := ⟨.func (.func f) #[] (caps.toList.map a.eval).toArray, 0, fun _ => False⟩) ⟨_, rfl, hA.imp id (by simp) (fun x v _ hx => hx.more (fun i q hq => by rw [List.getElem?_append_left (List.getElem?_eq_some_iff.1 hq).1]; exact hq))⟩ (fun hw => by cases hw) (fun _ _ _ _ _ _ _ _ hf => hf.elim) (fun hw => by cases hw) (fun _ _ _ he => by cases he) (fun _ hf => hf.elim) (.inr (fun _ hf => hf.elim))
 refine Z9t hrun ⟨_, _, Rel.mk1 hp o.dst (x := .cv st.objs.length) ?_ rfl, hk⟩
 rw [← h.len]
 exact ⟨_, Z4t _ _, rfl, _, _, rfl⟩
structure ClSound (P : Program) (k : Nat) (f : FuncId) (c : CloE) : Prop where
 enter : ∀ vs w, (callFunc f vs).run P w = .ok (.enter f vs) w
 calls : ∀ {γ : Type} {K : St → Option γ} {r : γ} {w w0 : World} {S0 : Own} {st : St} {μ : List ORec} {a : Act} (dst : Option Tmp) (xs : List TV) (vs : List Value), Rel w0 S0 st μ a w → vs.length = xs.length → (∀ (j : Nat) x v, xs[j]? = some x → vs[j]? = some v → TR μ w x v) → c.act k st dst xs K = some r →
  Calls P f vs.toArray w fun
   | .returned v, w' => ∃ st' μ', Rel w0 S0 st' μ' (a.put dst v) w' ∧ K st' = some r
   | _, _ => False
theorem ZD5 {k : Nat} {f : FuncId} {c : CloE} {v : Operand} {args : Array Operand} {ats : Array TypeId} {l : List At} {caps : List Value} (hE : ClSound P k f c) (h : Rel w0 S0 st μ a w) (ho : o.op = .call { callee := .value v, args := args, argTypes := ats })
  (hv : a.eval v = .func (.func f) #[] caps.toArray) (hl : AL μ w l caps) (hk : c.act k st o.dst (args.toList.map st.ev ++ l.map fun x => .sv (.at x)) K = some r) : o.wp P a w (Nx w0 S0 K r) Q := by
 have hrun : (execOp a.eval o).run P w = .ok (.enter f ((args.toList.map a.eval ++ caps)).toArray) w := by
  unfold execOp
  simp only [ho, resolve, Deferred.ofValue, hv, Sem.run_bind, Sem.run_pure, Result.andThen_ok, invoke]
  have : (#[] ++ args.map a.eval ++ caps.toArray : Array Value) = (args.toList.map a.eval ++ caps).toArray := by apply Array.ext'; simp
  rw [this]
  exact hE.enter _ w
 unfold Oper.wp
 rw [hrun, Oper.upon_enter]
 refine (hE.calls o.dst (args.toList.map st.ev ++ l.map fun x => .sv (.at x)) (args.toList.map a.eval ++ caps) h (by simp [hl.1]) (fun j x u hx hu => ?_) hk).mono fun e w' he => ?_
 ·rw [List.getElem?_append] at hx hu
  simp only [List.length_map] at hx hu
  split at hx
  ·rename_i hj
   rw [if_pos hj] at hu
   rw [List.getElem?_map] at hx hu
   obtain ⟨y, hy, rfl⟩ := Option.map_eq_some_iff.1 hx
   rw [hy] at hu
   injection hu with hu
   subst hu
   exact h.ev y
  ·rename_i hj
   rw [if_neg hj] at hu
   rw [List.getElem?_map] at hx
   obtain ⟨y, hy, rfl⟩ := Option.map_eq_some_iff.1 hx
   have h1 := hl.2 _ y u hy hu
   refine ⟨h1, ?_⟩
   cases hun : y.isUn with
   | true => left; cases y <;> first | rfl | cases hun
   | false => right; exact (h1.oneCell hun).2
 ·cases e with
  | returned v => exact he
  | panicked c => exact False.elim he
  | outgrown => exact False.elim he
end
end
section
def snapOf (st : St) : At → Option (Nat × (Sigma fun u : Ty => List u.D))
 | .snap i u xs => some (i, ⟨u, xs⟩)
 | .inn i j => match st.objs[i]? with
  | some (.row _ _ (.slice _ u) zs) => some (i, ⟨u, List.getD zs j.toNat []⟩)
  | _ => none
 | _ => none
section
variable {P : Program} {w w1 w0 : World} {S0 : Own} {st : St} {μ : List ORec} {a : Act} {t : TypeId} {o : Oper} {β : Type} {K : St → Option β} {r : β} {Q : Exit → Act → World → Prop}
theorem ZIN (h : Rel w0 S0 st μ a w) {x : At} {v : Value} {i : Nat} {u : Ty} {ys : List u.D} (hx : AR μ w x v) (hr : snapOf st x = some (i, ⟨u, ys⟩)) : AR μ w (.snap i u ys) v := by
 unfold snapOf at hr
 split at hr
 ·rename_i i' u' xs
  injection hr with hr
  injection hr with h1 h2
  subst h1
  cases h2
  exact hx
 ·rename_i i' j
  split at hr
  ·rename_i fr e e2 u' zs ho
   injection hr with hr
   injection hr with h1 h2
   subst h1
   cases h2
   obtain ⟨r, ad, n, c, hr, hv, h0, h1, hk, hc, _⟩ := hx
   have hrow : RowRep (Rep (.slice e2 u)) (Ty.slice e2 u).sz e w r.ok zs r.v := h.ob _ _ r ho hr
   have hn : n = zs.length := by
    obtain ⟨inner, hq, _⟩ := hrow
    obtain ⟨A', c', hv', _⟩ := ZV hq
    rw [hv] at hv'
    injection hv'
   have hj : j.toNat < zs.length := by omega
   obtain ⟨A, c', cs, hv', hs, hl, hcell, hrep⟩ := hrow.elem hj
   rw [hv] at hv'
   injection hv' with ha _ _
   injection ha with ha
   subst ha
   obtain ⟨uu, rfl, hrow2⟩ := hrep
   have hu := hcell 0 uu rfl
   simp only [Ty.sz, Nat.mul_one, Nat.add_zero] at hu
   rw [hc] at hu
   injection hu with hu
   subst hu
   have hg : List.getD zs j.toNat [] = zs[j.toNat] := by simp [List.getD, List.getElem?_eq_getElem hj]
   rw [hg]
   exact ⟨r, hr, RowRep.rd hrow2⟩
  ·cases hr
 ·cases hr
theorem ZGS {ps : Array (Nat × Operand)} {x : Operand} {e : TypeId} {ti : TI} {ii : TI} {i : Nat} {u : Ty} {ys : List u.D} {T : TT} (hT : TTok P T) (h : Rel w0 S0 st μ a w) (ho : o.op = .buildSlice t 1 ps) (hps : ps.toList = [(0, x)]) (hi : T.get t = some ii) (hie : ii.d = .slice e) (hte : T.get e = some ti) (hs1 : ti.ty.sz = 1)
  (hx : snapOf st (st.ev x).atom = some (i, ⟨u, ys⟩)) (hk : K (st.mk1 o.dst (.vrow (some i) e u [ys]) (.sl st.objs.length)) = some r) : o.wp P a w (Nxs w0 S0 w K r) Q := by
 have ok := hT.1 t ii hi
 have oke := hT.1 e ti hte
 have hu : P.underlying t = some (.slice e) := by have := ok.desc; rw [hie] at this; exact this
 obtain ⟨xi, hxi, hz, hsz, hby⟩ := oke.get
 have hA := ZIN h (h.atom x) hx
 obtain ⟨q, hq, hrd⟩ := hA
 obtain ⟨A, c, hav, hl3, hm3, hA3⟩ := hrd
 have hcells : (a.eval x).cells = #[a.eval x] := by rw [hav]; rfl
 have hxs : xi.size = 1 := by rw [hsz, hs1]
 have e1 : Instr.fill (fun i => some (i * xi.size, xi.size)) ((Array.range (1 * xi.size)).map ((zval ti).cells[· % (zval ti).cells.size]!)) (ps.map fun (i, x) => (i, a.eval x)).toList = some #[a.eval x] := by
  rw [Array.toList_map, hps, hxs]
  simp [Instr.fill, hcells]
  refine Array.ext' ?_
  simp [Array.toList_setIfInBounds, List.range_succ]
 have hrun : (execOp a.eval o).run P w = .ok (.value (.slice (some ⟨w.heap.size, 0, none⟩) 1 1)) (w.alloc (.cells #[a.eval x] e)) := by
  unfold execOp
  simp only [ho, Sem.run_bind, run_buildSlice (P := P) w t e 1 (ps.map fun (i, x) => (i, a.eval x)) #[a.eval x] xi (zval ti) hu hxi hz (by omega) (by omega) e1, Result.andThen_ok, Sem.run_pure]
 have hheap : (w.alloc (.cells #[a.eval x] e)).heap[w.heap.size]? = some (.cells #[a.eval x] e (0, 0)) := Zma w _
 have hq1 : QRow (w.alloc (.cells #[a.eval x] e)) e 1 (.slice (some ⟨w.heap.size, 0, none⟩) 1 1) 1 [a.eval x] := by
  refine ⟨rfl, .inr ⟨w.heap.size, 0, 1, #[a.eval x], by rw [Nat.zero_mul], hheap, by omega, by simp only [maxLen]; omega, by simp, ?_⟩⟩
  simp
 have hrow : RowRep (VRow (μ ++ [⟨.slice (some ⟨w.heap.size, 0, none⟩) 1 1, 0, fun k => k = w.heap.size⟩]) i u) 1 e (w.alloc (.cells #[a.eval x] e)) (fun k => k = w.heap.size) [ys] (.slice (some ⟨w.heap.size, 0, none⟩) 1 1) := by
  refine ⟨[a.eval x], hq1, fun k hk => by simpa [Value.ownBlock] using hk.symm, fun _ => 0, fun j y hj => ?_⟩
  cases j with
  | zero =>
   simp only [List.getElem?_cons_zero] at hj
   injection hj with hj
   subst hj
   refine ⟨a.eval x, rfl, ?_⟩
   have hold : AR μ w (.snap i u ys) (a.eval x) := ⟨q, hq, A, c, hav, hl3, hm3, hA3⟩
   have h2 : AR μ (w.alloc (.cells #[a.eval x] e)) (.snap i u ys) (a.eval x) := hold.move (fun i r _ hr k hk => heap_alloc_old w _ (h.lt i r hr k hk))
   exact h2.more (fun j q hq => by rw [List.getElem?_append_left (List.getElem?_eq_some_iff.1 hq).1]; exact hq)
  | succ j => simp at hj
 have hf := h.fresh (.alloc w (.cells #[a.eval x] e) _) (o := .vrow (some i) e u [ys]) (q := ⟨.slice (some ⟨w.heap.size, 0, none⟩) 1 1, 0, fun k => k = w.heap.size⟩) (fun k hk => by rw [show k = _ from hk, Zem]; exact ⟨Nat.le_refl _, Nat.lt_succ_self _⟩) hrow
 refine Z9t hrun ⟨⟨_, _, hf.mk1 o.dst (x := .sl st.objs.length) ?_ rfl, hk⟩, .alloc w _ _⟩
 rw [← h.len]
 exact ⟨_, Z4t _ _, rfl, _, _, _, rfl⟩
theorem vcell {μ : List ORec} {d : Nat} {u : Ty} {S : Nat → Prop} {x : List u.D} {inner : List Value} {j : Nat} (h : VRow μ d u w S x (seg inner 1 j)) : ∃ c, inner[j]? = some c ∧ seg inner 1 j = [c] ∧ AR μ w (.snap d u x) c ∧ c.oneCell' = true := by
 obtain ⟨c, hc, hx⟩ := h
 have hi : inner[j]? = some c := by
  have := Zii (i := 0) (u := c) (show (seg inner 1 j)[0]? = some c by rw [hc]; rfl)
  simpa using this
 refine ⟨c, hi, hc, hx, ?_⟩
 obtain ⟨q, _, A, cc, hv, _⟩ := hx
 rw [hv]
 rfl
theorem ZES {x y : Operand} {e : TypeId} {ti ii : TI} {j m d : Nat} {u : Ty} {xs ys : List (List u.D)} {T : TT} (hT : TTok P T) (h : Rel w0 S0 st μ a w) (ho : o.op = .call { callee := .builtin .append, args := #[x, y], argTypes := #[t, t] }) (hi : T.get t = some ii) (hie : ii.d = .slice e) (hte : T.get e = some ti) (hs1 : ti.ty.sz = 1)
  (hx : (st.ev x).atom = .sl j) (hy : (st.ev y).atom = .sl m) (hoj : st.objs[j]? = some (.vrow (some d) e u xs)) (hom : st.objs[m]? = some (.vrow (some d) e u ys)) (hdj : d ≠ j) (hne : 0 < ys.length) (hlim : xs.length + ys.length ≤ lim ti.bytes)
  (hk : K ((st.die j).mk1 o.dst (.vrow (some d) e u (xs ++ ys)) (.sl st.objs.length)) = some r) : o.wp P a w (Nx w0 S0 K r) Q := by
 have ok := hT.1 t ii hi
 have oke := hT.1 e ti hte
 have hu : P.underlying t = some (.slice e) := by have := ok.desc; rw [hie] at this; exact this
 obtain ⟨xi, hxi, hz, hsz, hby⟩ := oke.get
 have hzs : (zval ti).cells.size = ti.ty.sz := by rw [← Array.length_toList, oke.zcell, Zcc]
 have hpos := oke.pos
 have hbytes : (xs.length + ys.length) * ti.bytes ≤ 140737488355328 := Nat.le_trans (Nat.mul_le_mul_right _ hlim) (Nat.div_mul_le_self _ _)
 have h63 : xs.length + ys.length ≤ maxLen := by
  have : xs.length + ys.length ≤ (xs.length + ys.length) * ti.bytes := Nat.le_mul_of_pos_right _ hpos
  simp only [maxLen]; omega
 have ax := h.atom x
 have ay := h.atom y
 rw [hx] at ax
 rw [hy] at ay
 obtain ⟨rj, hrj, hvj, _⟩ := ax
 obtain ⟨rm, hrm, hvm, _⟩ := ay
 have rowj : RowRep (VRow μ d u) 1 e w rj.ok xs rj.v := h.ob j _ rj hoj hrj
 have rowm : RowRep (VRow μ d u) 1 e w rm.ok ys rm.v := h.ob m _ rm hom hrm
 rw [← hvj] at rowj
 rw [← hvm] at rowm
 obtain ⟨inner, hq, hb, f, hr⟩ := rowj
 obtain ⟨news, hqm, hbm, fm, hrr⟩ := rowm
 obtain ⟨A, c, hav, hc⟩ := ZV hqm
 rw [hav] at hqm
 obtain ⟨ad, rfl, hcell⟩ := Za9 hqm hne
 have hnl : news.length = ys.length * 1 := hqm.1
 have h1n : ∀ v ∈ news, v.oneCell' = true := by
  intro v hv
  obtain ⟨k, hk2⟩ := List.getElem?_of_mem hv
  have hkl : k < ys.length := by have := (List.getElem?_eq_some_iff.1 hk2).1; omega
  obtain ⟨cc, h1, _, _, h4⟩ := vcell (hrr k _ (List.getElem?_eq_getElem hkl))
  rw [hk2] at h1
  injection h1 with h1
  rw [h1]; exact h4
 rw [hs1] at hsz hzs
 obtain ⟨v1, w1, hrun, hq1, hg, hat, hqo⟩ := ZAF (P := P) w t o.type e xi (zval ti) 1 ti.bytes hu hxi hz hsz hby hzs Nat.one_pos (a.eval x) xs.length inner hq ad ys.length c news hnl hcell h1n hne h63 hbytes
 have hchg : Chg w w1 (fun k => (a.eval x).ownBlock = some k) := .of_grown hg (fun k hk => hk)
 have hTk : ∀ k, (a.eval x).ownBlock = some k → rj.ok k := hb
 have hoff : ∀ (l : Nat) q, (offAt μ j)[l]? = some q → ∀ k, q.ok k → ¬ rj.ok k ∧ k < w.heap.size := by
  intro l q hq k hk
  obtain ⟨q0, g0, _, _, g3⟩ := Z24 hq
  rcases g3 with ⟨_, g3⟩ | ⟨hl, rfl⟩
  ·exact absurd hk (g3 k)
  ·exact ⟨fun hk2 => h.dj j l _ rj q (Ne.symm hl) hoj rfl hrj g0 k hk2 hk, h.lt l q g0 k hk⟩
 have hown : ∀ k, v1.ownBlock = some k → rj.ok k ∨ w.heap.size ≤ k := by
  intro k hk
  rcases hat with hat | ⟨b, hat, hbb⟩
  ·rw [hat] at hk; exact .inl (hTk k hk)
  ·rw [hat] at hk; injection hk with hk; exact .inr (by omega)
 have h2 := (h.die j).world hchg (fun l q hq k hk hk2 => (hoff l q hq k hk).1 (hTk k hk2)) (fun k hk => h.wr j _ rj hoj hrj rfl k (hTk k hk))
 have keep : ∀ (z : List u.D) v, AR μ w (.snap d u z) v → AR (offAt μ j ++ [⟨v1, 0, fun k => v1.ownBlock = some k⟩]) w1 (.snap d u z) v := by
  intro z v hv
  have e1 : AR (offAt μ j) w ((At.snap d u z).kill j) v := hv.off j
  have e2 : (At.snap d u z).kill j = .snap d u z := by
   unfold At.kill
   rw [if_neg (show ¬ (At.snap d u z).dep = some j from fun he => hdj (Option.some.inj he))]
  rw [e2] at e1
  have e3 : AR (offAt μ j) w1 (.snap d u z) v := e1.move (fun i q _ hq k hk => hchg.block k (hoff i q hq k hk).2 (fun hk2 => (hoff i q hq k hk).1 (hTk k hk2)))
  exact e3.more (fun i q hq => by rw [List.getElem?_append_left (List.getElem?_eq_some_iff.1 hq).1]; exact hq)
 have hrow : RowRep (VRow (offAt μ j ++ [⟨v1, 0, fun k => v1.ownBlock = some k⟩]) d u) 1 e w1 (fun k => v1.ownBlock = some k) (xs ++ ys) v1 := by
  refine ⟨inner ++ news, by rw [List.length_append]; exact hq1, fun k hk => hk, fun _ => 0, fun k z hz => ?_⟩
  have hil : inner.length = xs.length * 1 := hq.1
  have one : ∀ (l : List Value) (k : Nat) (c : Value), l[k]? = some c → seg l 1 k = [c] := by
   intro l k c hc
   unfold seg
   rw [Nat.mul_one]
   have hlt := (List.getElem?_eq_some_iff.1 hc).1
   rw [List.drop_eq_getElem_cons hlt]
   have := (List.getElem?_eq_some_iff.1 hc).2
   rw [this]
   rfl
  rw [List.getElem?_append] at hz
  split at hz
  ·obtain ⟨cc, h1, _, h3, _⟩ := vcell (hr k z hz)
   exact ⟨cc, one _ _ _ (by rw [List.getElem?_append_left (by omega)]; exact h1), keep z cc h3⟩
  ·obtain ⟨cc, h1, _, h3, _⟩ := vcell (hrr _ z hz)
   exact ⟨cc, one _ _ _ (by rw [List.getElem?_append_right (by omega), show k - inner.length = k - xs.length by omega]; exact h1), keep z cc h3⟩
 have hs := h.kp.size
 have h3 := h2.push (o := .vrow (some d) e u (xs ++ ys)) (r := ⟨v1, 0, fun k => v1.ownBlock = some k⟩) hrow (fun _ l q hq k hk hk2 => by
   have := hoff l q hq k hk2
   rcases hown k hk with h4 | h4
   ·exact this.1 h4
   ·omega) (fun l oq q _ _ hq k hk hk2 => by
   have := hoff l q hq k hk
   rcases hown k hk2 with h4 | h4
   ·exact this.1 h4
   ·omega) (fun _ k hk => by
   rcases hown k hk with h4 | h4
   ·exact h.wr j _ rj hoj hrj rfl k h4
   ·right; omega) (fun _ _ _ he => by cases he) (fun k hk => q_lt hq1 k hk)
 have hrun2 : (execOp a.eval o).run P w = .ok (.value v1) w1 := by
  unfold execOp
  simp only [ho, resolve, invoke, builtin, Sem.run_bind, Sem.run_pure, Result.andThen_ok, List.map_toArray, List.map_cons, List.map_nil]
  rw [hav, hrun]
  rfl
 obtain ⟨A1, c1, hv1, _⟩ := ZV hq1
 have hlen : (st.die j).objs.length = st.objs.length := by simp [St.die]
 refine Z9t hrun2 ⟨_, _, Rel.mk1 h3 o.dst (x := .sl st.objs.length) ?_ (by rw [hv1]; rfl), hk⟩
 rw [← h.len, show μ.length = (offAt μ j).length by simp [offAt]]
 exact ⟨_, Z4t _ _, rfl, A1, _, c1, hv1⟩
theorem ZFc {x y : Operand} {e : TypeId} {ti ii : TI} {m d : Nat} {u : Ty} {ys : List (List u.D)} {T : TT} (hT : TTok P T) (h : Rel w0 S0 st μ a w) (ho : o.op = .call { callee := .builtin .append, args := #[x, y], argTypes := #[t, t] }) (hi : T.get t = some ii) (hie : ii.d = .slice e) (hte : T.get e = some ti) (hs1 : ti.ty.sz = 1)
  (hx : (st.ev x).atom = .nils) (hy : (st.ev y).atom = .sl m) (hom : st.objs[m]? = some (.vrow (some d) e u ys)) (hne : 0 < ys.length) (hlim : ys.length ≤ lim ti.bytes)
  (hk : K (st.mk1 o.dst (.vrow (some d) e u ys) (.sl st.objs.length)) = some r) : o.wp P a w (Nx w0 S0 K r) Q := by
 have ok := hT.1 t ii hi
 have oke := hT.1 e ti hte
 have hu : P.underlying t = some (.slice e) := by have := ok.desc; rw [hie] at this; exact this
 obtain ⟨xi, hxi, hz, hsz, hby⟩ := oke.get
 have hzs : (zval ti).cells.size = ti.ty.sz := by rw [← Array.length_toList, oke.zcell, Zcc]
 have hpos := oke.pos
 have hbytes : (0 + ys.length) * ti.bytes ≤ 140737488355328 := by rw [Nat.zero_add]; exact Nat.le_trans (Nat.mul_le_mul_right _ hlim) (Nat.div_mul_le_self _ _)
 have h63 : 0 + ys.length ≤ maxLen := by
  have : 0 + ys.length ≤ (0 + ys.length) * ti.bytes := Nat.le_mul_of_pos_right _ hpos
  simp only [maxLen]; omega
 have ax := h.atom x
 have ay := h.atom y
 rw [hx] at ax
 rw [hy] at ay
 have ax : a.eval x = .slice none 0 0 := ax
 obtain ⟨rm, hrm, hvm, _⟩ := ay
 have rowm : RowRep (VRow μ d u) 1 e w rm.ok ys rm.v := h.ob m _ rm hom hrm
 rw [← hvm] at rowm
 obtain ⟨news, hqm, hbm, fm, hrr⟩ := rowm
 obtain ⟨A, c, hav, hc⟩ := ZV hqm
 rw [hav] at hqm
 obtain ⟨ad, rfl, hcell⟩ := Za9 hqm hne
 have hnl : news.length = ys.length * 1 := hqm.1
 have h1n : ∀ v ∈ news, v.oneCell' = true := by
  intro v hv
  obtain ⟨k, hk2⟩ := List.getElem?_of_mem hv
  have hkl : k < ys.length := by have := (List.getElem?_eq_some_iff.1 hk2).1; omega
  obtain ⟨cc, h1, _, _, h4⟩ := vcell (hrr k _ (List.getElem?_eq_getElem hkl))
  rw [hk2] at h1
  injection h1 with h1
  rw [h1]; exact h4
 rw [hs1] at hsz hzs
 obtain ⟨v1, w1, hrun, hq1, hg, hat, hqo⟩ := ZAF (P := P) w t o.type e xi (zval ti) 1 ti.bytes hu hxi hz hsz hby hzs Nat.one_pos (.slice none 0 0) 0 [] (ZLj w e 1) ad ys.length c news hnl hcell h1n hne h63 hbytes
 rw [Nat.zero_add, List.nil_append] at hq1
 have hchg : Chg w w1 (fun _ => False) := .of_grown hg (fun k hk => by cases hk)
 have hown : ∀ k, v1.ownBlock = some k → w.heap.size ≤ k := by
  intro k hk
  rcases hat with hat | ⟨b, hat, hbb⟩
  ·rw [hat] at hk; cases hk
  ·rw [hat] at hk; injection hk with hk; omega
 have hrow : RowRep (VRow (μ ++ [⟨v1, 0, fun k => v1.ownBlock = some k⟩]) d u) 1 e w1 (fun k => v1.ownBlock = some k) ys v1 := by
  refine ⟨news, hq1, fun k hk => hk, fun _ => 0, fun k z hz => ?_⟩
  obtain ⟨cc, _, h2, h3, _⟩ := vcell (hrr k z hz)
  refine ⟨cc, h2, ?_⟩
  have e3 : AR μ w1 (.snap d u z) cc := h3.move (fun i q _ hq k hk => hchg.block k (h.lt i q hq k hk) (fun hf => hf))
  exact e3.more (fun i q hq => by rw [List.getElem?_append_left (List.getElem?_eq_some_iff.1 hq).1]; exact hq)
 have h3 := h.fresh hchg (o := .vrow (some d) e u ys) (q := ⟨v1, 0, fun k => v1.ownBlock = some k⟩) (fun k hk => ⟨hown k hk, q_lt hq1 k hk⟩) hrow
 have hrun2 : (execOp a.eval o).run P w = .ok (.value v1) w1 := by
  unfold execOp
  simp only [ho, resolve, invoke, builtin, Sem.run_bind, Sem.run_pure, Result.andThen_ok, List.map_toArray, List.map_cons, List.map_nil]
  rw [ax, hav, hrun]
  rfl
 obtain ⟨A1, c1, hv1, _⟩ := ZV hq1
 refine Z9t hrun2 ⟨_, _, h3.mk1 o.dst (x := .sl st.objs.length) ?_ (by rw [hv1]; rfl), hk⟩
 rw [← h.len]
 exact ⟨_, Z4t _ _, rfl, A1, _, c1, hv1⟩
def stepVB {γ : Type} (T : TT) (t : TypeId) (len : Nat) (ps : List (Nat × Operand)) (dst : Option Tmp) (st : St) (K : St → Option γ) : Option (Option γ) := match len, ps with
 | 1, [(0, x)] => match T.get t with
  | some ii => match ii.d with
   | .slice e => match T.get e with
    | some ti => if ti.ty.sz = 1 then match snapOf st (st.ev x).atom with
      | some (i, ⟨u, ys⟩) => some (K (st.mk1 dst (.vrow (some i) e u [ys]) (.sl st.objs.length)))
      | none => none
     else none
    | none => none
   | _ => none
  | none => none
 | _, _ => none
theorem Zww {T : TT} {len : Nat} {ps : Array (Nat × Operand)} (hT : TTok P T) (h : Rel w0 S0 st μ a w) (ho : o.op = .buildSlice t len ps) (hk : stepVB T t len ps.toList o.dst st K = some (some r)) : o.wp P a w (Nxs w0 S0 w K r) Q := by
 unfold stepVB at hk
 split at hk
 ·rename_i x hps
  split at hk
  ·rename_i ii hi
   split at hk
   ·rename_i e hie
    split at hk
    ·rename_i ti hte
     split at hk
     ·rename_i hs1
      split at hk
      ·rename_i i u ys hx
       injection hk with hk
       exact ZGS hT h ho hps hi hie hte hs1 hx hk
      ·cases hk
     ·cases hk
    ·cases hk
   ·cases hk
  ·cases hk
 ·cases hk
def stepVA {γ : Type} (T : TT) (args : List Operand) (ats : List TypeId) (dst : Option Tmp) (st : St) (K : St → Option γ) : Option (Option γ) := match args, ats with
 | [x, y], [t, t'] => if t' = t then match (st.ev y).atom with
   | .sl m => match st.objs[m]? with
    | some (.vrow (some d) e u ys) => match T.get t with
     | some ii => match ii.d with
      | .slice e' => if e' = e then match T.get e with
        | some ti => if ti.ty.sz = 1 ∧ 0 < ys.length then match (st.ev x).atom with
          | .nils => some (if ys.length ≤ lim ti.bytes then K (st.mk1 dst (.vrow (some d) e u ys) (.sl st.objs.length)) else none)
          | .sl j => match st.objs[j]? with
           | some (.vrow (some d') e2 u' xs) => if h : u' = u then (if d' = d ∧ e2 = e ∧ d ≠ j then some (if xs.length + ys.length ≤ lim ti.bytes then K ((st.die j).mk1 dst (.vrow (some d) e u ((h ▸ xs) ++ ys)) (.sl st.objs.length)) else none) else none) else none
           | _ => none
          | _ => none
         else none
        | none => none
       else none
      | _ => none
     | none => none
    | _ => none
   | _ => none
  else none
 | _, _ => none
theorem ZI0 {T : TT} {args : Array Operand} {ats : Array TypeId} (hT : TTok P T) (h : Rel w0 S0 st μ a w) (ho : o.op = .call { callee := .builtin .append, args := args, argTypes := ats }) (hk : stepVA T args.toList ats.toList o.dst st K = some (some r)) : o.wp P a w (Nx w0 S0 K r) Q := by
 unfold stepVA at hk
 split at hk
 ·rename_i x y t t' ha hb
  have ha : args = #[x, y] := by apply Array.ext'; simpa using ha
  have hb : ats = #[t, t'] := by apply Array.ext'; simpa using hb
  split at hk
  ·rename_i htt
   subst htt
   subst ha hb
   split at hk
   ·rename_i m hy
    split at hk
    ·rename_i d e u ys hom
     split at hk
     ·rename_i ii hi
      split at hk
      ·rename_i e' hie
       split at hk
       ·rename_i hee
        subst hee
        split at hk
        ·rename_i ti hte
         split at hk
         ·rename_i hc
          split at hk
          ·rename_i hx
           injection hk with hk
           split at hk
           ·rename_i hlim
            exact ZFc hT h ho hi hie hte hc.1 hx hy hom hc.2 hlim hk
           ·cases hk
          ·rename_i j hx
           split at hk
           ·rename_i d' e2 u' xs hoj
            split at hk
            ·rename_i huu
             subst huu
             split at hk
             ·rename_i hcc
              obtain ⟨rfl, rfl, hdj⟩ := hcc
              injection hk with hk
              split at hk
              ·rename_i hlim
               exact ZES hT h ho hi hie hte hc.1 hx hy hoj hom hdj hc.2 hlim hk
              ·cases hk
             ·cases hk
            ·cases hk
           ·cases hk
          ·cases hk
         ·cases hk
        ·cases hk
       ·cases hk
      ·cases hk
     ·cases hk
    ·cases hk
   ·cases hk
  ·cases hk
 ·cases hk
end
end
section
def sameOp : Operand → Operand → Bool
 | .tmp a, .tmp b => a == b
 | .const (.int k n), .const (.int k' n') => decide (k = k') && decide (n = n')
 | _, _ => false
theorem ZmF {x y : Operand} (h : sameOp x y = true) : x = y := by
 unfold sameOp at h
 split at h
 ·rw [beq_iff_eq.1 h]
 ·simp at h; rw [h.1, h.2]
 ·cases h
section
variable {γ : Type}
noncomputable def stepOp1 (T : TT) (G : Env) (mvs : List Tmp) (k : Nat) (o : Oper) (st : St) (K : St → Option γ) : Option γ :=
  match o.op with
  | .move x => K (st.put o.dst (st.ev x))
  | .assign x => K (st.put o.dst (st.ev x))
  | .pick c x y => match st.ev c with
    | .sv (.at (.bool b)) => if b = true then K (st.put o.dst (st.ev x)) else K (st.put o.dst (st.ev y))
    | _ => none
  | .alloc t => match T.get t with
    | some i => K (st.mk1 o.dst (.box t (zatoms i.ty)) (.ptr st.objs.length 0))
    | none => none
  | .box t x => match (st.ev x).cells with
    | some l => if l.all (fun y => !y.isUn) = true then K (st.mk1 o.dst (.box t l) (.ptr st.objs.length 0)) else none
    | none => none
  | .build t ps => match T.get t with
    | some i => match i.d with
      | .struct fs => match fillParts T fs st ps.toList (zatoms i.ty) with
        | some l => K (st.put o.dst (.sv (.agg l)))
        | none => none
      | .arr n e => match T.get e with
        | some ti => match ps.toList with
          | [] => K (st.put o.dst (.sv (.agg (zatoms i.ty))))
          | _ => none
        | none => none
      | _ => none
    | none => none
  | .buildSlice t len ps => match T.get t with
    | some i => match i.d with
      | .slice e => match T.get e with
        | some ti => opBuildSlice e ti st o.dst len ps.toList K
        | none => none
      | _ => none
    | none => none
  | .load t p => match T.get t with
    | some i => opLoad i st (st.ev p).atom fun x => K (st.put o.dst x)
    | none => none
  | .store t p x => match o.dst with
    | none => match T.get t with
      | some i => opStore i st (st.ev p).atom (st.ev x) K
      | none => none
    | some _ => none
  | .binOp op t x y _ => opBin T op t (st.ev x) (st.ev y) fun z => K (st.put o.dst (.sv (.at z)))
  | .unOp op _ x => opUn op (st.ev x) fun z => K (st.put o.dst (.sv (.at z)))
  | .makeSlice t x y => if sameOp x y = true then match T.get t with
      | some i => match i.d with
        | .slice e => match T.get e with
          | some ti => match st.ev x with
            | .sv (.at (.int _ n)) => opMake e ti st o.dst n K
            | _ => none
          | none => none
        | _ => none
      | none => none
    else none
  | .slice t x lo hi none => match T.get t with
    | some i => match i.d with
      | .slice e => match T.get e with
        | some ti => opSlice (match o.dst with | some d => mvs.contains d | none => false) e ti st o.dst (st.ev x).atom (lo.map st.ev) (hi.map st.ev) K
        | none => none
      | _ => none
    | none => none
  | .fieldAddr t x f => match T.get t with
    | some i => match i.d with
      | .struct fs => match opFieldAddr fs (st.ev x).atom f with
        | some z => K (st.put o.dst (.sv (.at z)))
        | none => none
      | _ => none
    | none => none
  | .field t x f => match T.get t with
    | some i => match i.d with
      | .struct fs => match opField T fs (st.ev x) f with
        | some z => K (st.put o.dst z)
        | none => none
      | _ => none
    | none => none
  | .indexAddr t x y => match T.get t with
    | some i => match i.d with
      | .slice e => match T.get e with
        | some ti => match st.ev y with
          | .sv (.at (.int _ n)) => opIndexAddr ti st (st.ev x).atom n fun z => K (st.put o.dst (.sv (.at z)))
          | _ => none
        | none => none
      | .arr m e => match T.get e with
        | some ti => match st.ev y with
          | .sv (.at (.int _ n)) => opIndexArr m ti (st.ev x).atom n fun z => K (st.put o.dst (.sv (.at z)))
          | _ => none
        | none => none
      | _ => none
    | none => none
  | .index t x y => match T.get t with
    | some i => match i.d with
      | .arr m e => match T.get e with
        | some ti => opIndex m ti (st.ev x) (st.ev y) fun z => K (st.put o.dst (.sv (.at z)))
        | none => none
      | _ => none
    | none => none
  | .extract x j => match st.ev x with
    | .tup l => match l[j]? with
      | some z => K (st.put o.dst (.sv z))
      | none => none
    | _ => none
  | .call c => match c.callee with
    | .builtin .len => match c.args.toList, c.argTypes.toList with
      | [x], [t] => match T.get t with
        | some i => match opLen i st (st.ev x).atom with
          | some n => K (st.put o.dst (.sv (.at (.int .i64 n))))
          | none => none
        | none => none
      | _, _ => none
    | .builtin .append => match c.args.toList, c.argTypes.toList with
      | [x, y], [t, t'] => if t' = t then match T.get t with
          | some i => match i.d with
            | .slice e => match T.get e with
              | some ti => opAppend e ti st o.dst (st.ev x).atom (st.ev y).atom K
              | none => none
            | _ => none
          | none => none
        else none
      | _, _ => none
    | .value (.func f) => match G.get f with
      | some E => opCall k E st o.dst (c.args.toList.map st.ev) K
      | none => none
    | _ => none
  | _ => none
end
section
variable {P : Program} {w w1 w0 : World} {S0 : Own} {st : St} {μ : List ORec} {a : Act}
structure EnvOK (P : Program) (k : Nat) (G : Env) : Prop where
 mixed : P.follows .mixedOrders = true
 ok : ∀ f E, G.get f = some E → SoundAt P k f E
 okc : ∀ f E c, G.get f = some E → E.cl = some c → ClSound P k f c
theorem ZHv {γ : Type} {T : TT} {G : Env} {mvs : List Tmp} {k : Nat} {o : Oper} {K : St → Option γ} {r : γ} {Q : Exit → Act → World → Prop} (hT : TTok P T) (hG : EnvOK P k G) (h : Rel w0 S0 st μ a w) (hk : stepOp1 T G mvs k o st K = some r) : o.wp P a w (Nx w0 S0 K r) Q := by
 unfold stepOp1 at hk
 split at hk
 ·rename_i x ho; exact Went.wp (Zya h (.inl ho) hk)
 ·rename_i x ho; exact Went.wp (Zya h (.inr ho) hk)
 ·rename_i c x y ho
  split at hk
  ·rename_i b hc
   exact Went.wp (ZK1 h ho hc (by split at hk <;> rename_i hb <;> simp only [hb, if_true, if_false, Bool.false_eq_true] <;> exact hk))
  ·cases hk
 ·rename_i t ho
  split at hk
  ·rename_i i hi; exact Zh4 (ZIj T hT h ho hi rfl hk)
  ·cases hk
 ·rename_i t x ho
  split at hk
  ·rename_i l hl
   split at hk
   ·rename_i hu; exact Zh4 (ZKs h ho hl hu hk)
   ·cases hk
  ·cases hk
 ·rename_i t ps ho
  split at hk
  ·rename_i i hi
   split at hk
   ·rename_i fs hd
    split at hk
    ·rename_i l hl; exact Went.wp (ZIt T hT h ho hi hd hl hk)
    ·cases hk
   ·rename_i n e hd
    split at hk
    ·rename_i ti hti
     split at hk
     ·rename_i hl; exact Went.wp (Zwb T hT h ho hi hd hti hl hk)
     ·cases hk
    ·cases hk
   ·cases hk
  ·cases hk
 ·rename_i t len ps ho
  split at hk
  ·rename_i i hi
   split at hk
   ·rename_i e hd
    split at hk
    ·rename_i ti hti
     by_cases h0 : len = 0
     ·subst h0; exact Zh4 (Zml T hT h ho hi hd hti hk)
     ·exact Zh4 (Zrj T hT h ho hi hd hti hk h0)
    ·cases hk
   ·cases hk
  ·cases hk
 ·rename_i t p ho
  split at hk
  ·rename_i i hi; exact Went.wp (ZJP T hT h ho hi hk (fun _ hx => hx))
  ·cases hk
 ·rename_i t p x ho
  split at hk
  ·rename_i hd
   split at hk
   ·rename_i i hi; exact ZKY T hT h ho hd hi hk (fun _ hx => hx)
   ·cases hk
  ·cases hk
 ·rename_i op t x y yt ho; exact Went.wp (ZD1 T hT h ho hk (fun _ hx => hx))
 ·rename_i op t x ho; exact Went.wp (ZLk h ho hk (fun _ hx => hx))
 ·rename_i t x y ho
  split at hk
  ·rename_i hs
   have := ZmF hs
   subst this
   split at hk
   ·rename_i i hi
    split at hk
    ·rename_i e hd
     split at hk
     ·rename_i ti hti
      split at hk
      ·rename_i kk n hn; exact Zh4 (ZJT (y := x) T hT h ho hi hd hti hn hk)
      ·cases hk
     ·cases hk
    ·cases hk
   ·cases hk
  ·cases hk
 ·rename_i t x lo hi2 ho
  split at hk
  ·rename_i i hi
   split at hk
   ·rename_i e hd
    split at hk
    ·rename_i ti hti; exact Went.wp (ZIp T hT h ho hi hd hti hk)
    ·cases hk
   ·cases hk
  ·cases hk
 ·rename_i t x f ho
  split at hk
  ·rename_i i hi
   split at hk
   ·rename_i fs hd
    split at hk
    ·rename_i z hz; exact Went.wp (Zti T hT h ho hi hd hz hk)
    ·cases hk
   ·cases hk
  ·cases hk
 ·rename_i t x f ho
  split at hk
  ·rename_i i hi
   split at hk
   ·rename_i fs hd
    split at hk
    ·rename_i z hz; exact Went.wp (ZHV T hT h ho hi hd hz hk)
    ·cases hk
   ·cases hk
  ·cases hk
 ·rename_i t x y ho
  split at hk
  ·rename_i i hi
   split at hk
   ·rename_i e hd
    split at hk
    ·rename_i ti hti
     split at hk
     ·rename_i kk n hn; exact Went.wp (Zu1 T hT h ho hi hd hti hn hk (fun _ hx => hx))
     ·cases hk
    ·cases hk
   ·rename_i m e hd
    split at hk
    ·rename_i ti hti
     split at hk
     ·rename_i kk n hn; exact Went.wp (ZwR T hT h ho hi hd hti hn hk (fun _ hx => hx))
     ·cases hk
    ·cases hk
   ·cases hk
  ·cases hk
 ·rename_i t x y ho
  split at hk
  ·rename_i i hi
   split at hk
   ·rename_i m e hd
    split at hk
    ·rename_i ti hti; exact Went.wp (ZIO T hT h ho hi hd hti hk (fun _ hx => hx))
    ·cases hk
   ·cases hk
  ·cases hk
 ·rename_i x j ho
  split at hk
  ·rename_i l hl
   split at hk
   ·rename_i z hz; exact Went.wp (ZDh h ho hl hz hk)
   ·cases hk
  ·cases hk
 ·rename_i c ho
  obtain ⟨callee, args, ats⟩ := c
  simp only at hk
  split at hk
  ·split at hk
   ·rename_i x t hargs hats
    have h1 : args = #[x] := by apply Array.ext'; exact hargs
    have h2 : ats = #[t] := by apply Array.ext'; exact hats
    subst h1 h2
    split at hk
    ·rename_i i hi
     split at hk
     ·rename_i n hn; exact Went.wp (ZKN T hT h ho hi hn hk)
     ·cases hk
    ·cases hk
   ·cases hk
  ·split at hk
   ·rename_i x y t t' hargs hats
    split at hk
    ·rename_i ht
     subst ht
     have h1 : args = #[x, y] := by apply Array.ext'; exact hargs
     have h2 : ats = #[t', t'] := by apply Array.ext'; exact hats
     subst h1 h2
     split at hk
     ·rename_i i hi
      split at hk
      ·rename_i e hd
       split at hk
       ·rename_i ti hti; exact ZKt T hT h ho hi hd hti hk
       ·cases hk
      ·cases hk
     ·cases hk
    ·cases hk
   ·cases hk
  ·rename_i f
   split at hk
   ·rename_i E hE; exact ZLF (hG.ok f E hE) h ho hk
   ·cases hk
  ·cases hk
 ·cases hk
def pureOp1 : Op → Bool
 | .move _ => true | .assign _ => true | .pick _ _ _ => true | .build _ _ => true | .load _ _ => true | .binOp _ _ _ _ _ => true | .unOp _ _ _ => true
 | .slice _ _ _ _ _ => true | .fieldAddr _ _ _ => true | .field _ _ _ => true | .indexAddr _ _ _ => true | .index _ _ _ => true | .extract _ _ => true
 | .call c => match c.callee with | .builtin .len => true | _ => false
 | _ => false
theorem ZIM {γ : Type} {T : TT} {G : Env} {mvs : List Tmp} {k : Nat} {o : Oper} {K : St → Option γ} {r : γ} (hT : TTok P T) (h : Rel w0 S0 st μ a w) (hp : pureOp1 o.op = true) (hk : stepOp1 T G mvs k o st K = some r) : Went P o a w (Nx w0 S0 K r) := by
 unfold stepOp1 at hk
 split at hk
 ·rename_i x ho; exact Zya h (.inl ho) hk
 ·rename_i x ho; exact Zya h (.inr ho) hk
 ·rename_i c x y ho
  split at hk
  ·rename_i b hc
   exact ZK1 h ho hc (by split at hk <;> rename_i hb <;> simp only [hb, if_true, if_false, Bool.false_eq_true] <;> exact hk)
  ·cases hk
 ·rename_i t ho
  split at hk
  ·rename_i i hi; rw [ho] at hp; cases hp
  ·cases hk
 ·rename_i t x ho
  split at hk
  ·rename_i l hl
   split at hk
   ·rename_i hu; rw [ho] at hp; cases hp
   ·cases hk
  ·cases hk
 ·rename_i t ps ho
  split at hk
  ·rename_i i hi
   split at hk
   ·rename_i fs hd
    split at hk
    ·rename_i l hl; exact ZIt T hT h ho hi hd hl hk
    ·cases hk
   ·rename_i n e hd
    split at hk
    ·rename_i ti hti
     split at hk
     ·rename_i hl; exact Zwb T hT h ho hi hd hti hl hk
     ·cases hk
    ·cases hk
   ·cases hk
  ·cases hk
 ·rename_i t len ps ho
  rw [ho] at hp; cases hp
 ·rename_i t p ho
  split at hk
  ·rename_i i hi; exact ZJP T hT h ho hi hk (fun _ hx => hx)
  ·cases hk
 ·rename_i t p x ho
  split at hk
  ·rename_i hd
   split at hk
   ·rename_i i hi; rw [ho] at hp; cases hp
   ·cases hk
  ·cases hk
 ·rename_i op t x y yt ho; exact ZD1 T hT h ho hk (fun _ hx => hx)
 ·rename_i op t x ho; exact ZLk h ho hk (fun _ hx => hx)
 ·rename_i t x y ho
  split at hk
  ·rename_i hs
   have := ZmF hs
   subst this
   split at hk
   ·rename_i i hi
    split at hk
    ·rename_i e hd
     split at hk
     ·rename_i ti hti
      split at hk
      ·rename_i kk n hn; rw [ho] at hp; cases hp
      ·cases hk
     ·cases hk
    ·cases hk
   ·cases hk
  ·cases hk
 ·rename_i t x lo hi2 ho
  split at hk
  ·rename_i i hi
   split at hk
   ·rename_i e hd
    split at hk
    ·rename_i ti hti; exact ZIp T hT h ho hi hd hti hk
    ·cases hk
   ·cases hk
  ·cases hk
 ·rename_i t x f ho
  split at hk
  ·rename_i i hi
   split at hk
   ·rename_i fs hd
    split at hk
    ·rename_i z hz; exact Zti T hT h ho hi hd hz hk
    ·cases hk
   ·cases hk
  ·cases hk
 ·rename_i t x f ho
  split at hk
  ·rename_i i hi
   split at hk
   ·rename_i fs hd
    split at hk
    ·rename_i z hz; exact ZHV T hT h ho hi hd hz hk
    ·cases hk
   ·cases hk
  ·cases hk
 ·rename_i t x y ho
  split at hk
  ·rename_i i hi
   split at hk
   ·rename_i e hd
    split at hk
    ·rename_i ti hti
     split at hk
     ·rename_i kk n hn; exact Zu1 T hT h ho hi hd hti hn hk (fun _ hx => hx)
     ·cases hk
    ·cases hk
   ·rename_i m e hd
    split at hk
    ·rename_i ti hti
     split at hk
     ·rename_i kk n hn; exact ZwR T hT h ho hi hd hti hn hk (fun _ hx => hx)
     ·cases hk
    ·cases hk
   ·cases hk
  ·cases hk
 ·rename_i t x y ho
  split at hk
  ·rename_i i hi
   split at hk
   ·rename_i m e hd
    split at hk
    ·rename_i ti hti; exact ZIO T hT h ho hi hd hti hk (fun _ hx => hx)
    ·cases hk
   ·cases hk
  ·cases hk
 ·rename_i x j ho
  split at hk
  ·rename_i l hl
   split at hk
   ·rename_i z hz; exact ZDh h ho hl hz hk
   ·cases hk
  ·cases hk
 ·rename_i c ho
  obtain ⟨callee, args, ats⟩ := c
  simp only at hk
  split at hk
  ·split at hk
   ·rename_i x t hargs hats
    have h1 : args = #[x] := by apply Array.ext'; exact hargs
    have h2 : ats = #[t] := by apply Array.ext'; exact hats
    subst h1 h2
    split at hk
    ·rename_i i hi
     split at hk
     ·rename_i n hn; exact ZKN T hT h ho hi hn hk
     ·cases hk
    ·cases hk
   ·cases hk
  ·split at hk
   ·rename_i x y t t' hargs hats
    split at hk
    ·rename_i ht
     subst ht
     have h1 : args = #[x, y] := by apply Array.ext'; exact hargs
     have h2 : ats = #[t', t'] := by apply Array.ext'; exact hats
     subst h1 h2
     split at hk
     ·rename_i i hi
      split at hk
      ·rename_i e hd
       split at hk
       ·rename_i ti hti; rw [ho] at hp; cases hp
       ·cases hk
      ·cases hk
     ·cases hk
    ·cases hk
   ·cases hk
  ·rename_i f
   split at hk
   ·rename_i E hE; rw [ho] at hp; cases hp
   ·cases hk
  ·cases hk
 ·cases hk
def stillOp1 (G : Env) : Op → Bool
 | .alloc _ => true | .box _ _ => true | .buildSlice _ _ _ => true | .makeSlice _ _ _ => true
 | .call c => match c.callee with
  | .value (.func f) => match G.get f with
   | some E => (ownI E.ps).isNone && (boxI E.ps).isNone
   | none => false
  | _ => false
 | _ => false
theorem ZHF {γ : Type} {T : TT} {G : Env} {mvs : List Tmp} {k : Nat} {o : Oper} {K : St → Option γ} {r : γ} {Q : Exit → Act → World → Prop} (hT : TTok P T) (hG : EnvOK P k G) (h : Rel w0 S0 st μ a w) (hp : stillOp1 G o.op = true) (hk : stepOp1 T G mvs k o st K = some r) : o.wp P a w (Nxs w0 S0 w K r) Q := by
 unfold stepOp1 at hk
 cases ho : o.op with
 | alloc t =>
  rw [ho] at hk
  simp only at hk
  split at hk
  ·rename_i i hi; exact ZIj T hT h ho hi rfl hk
  ·cases hk
 | box t x =>
  rw [ho] at hk
  simp only at hk
  split at hk
  ·rename_i l hl
   split at hk
   ·rename_i hu; exact ZKs h ho hl hu hk
   ·cases hk
  ·cases hk
 | buildSlice t len ps =>
  rw [ho] at hk
  simp only at hk
  split at hk
  ·rename_i i hi
   split at hk
   ·rename_i e hd
    split at hk
    ·rename_i ti hti
     by_cases h0 : len = 0
     ·subst h0; exact Zml T hT h ho hi hd hti hk
     ·exact Zrj T hT h ho hi hd hti hk h0
    ·cases hk
   ·cases hk
  ·cases hk
 | makeSlice t x y =>
  rw [ho] at hk
  simp only at hk
  split at hk
  ·rename_i hs
   have := ZmF hs
   subst this
   split at hk
   ·rename_i i hi
    split at hk
    ·rename_i e hd
     split at hk
     ·rename_i ti hti
      split at hk
      ·rename_i kk n hn; exact ZJT (y := x) T hT h ho hi hd hti hn hk
      ·cases hk
     ·cases hk
    ·cases hk
   ·cases hk
  ·cases hk
 | call c =>
  obtain ⟨callee, args, ats⟩ := c
  rw [ho] at hk hp
  simp only [stillOp1] at hk hp
  split at hp
  ·rename_i f
   split at hp
   ·rename_i E hE
    simp only [hE] at hk
    exact ZK4 (hG.ok f E hE) h ho (Option.isNone_iff_eq_none.1 ((Bool.and_eq_true _ _).mp hp).1) hk
   ·cases hp
  ·cases hp
 | _ => rw [ho] at hp; cases hp
noncomputable def stepX {γ : Type} (T : TT) (o : Oper) (st : St) (K : St → Option γ) : Option (Option γ) :=
 match o.op with
 | .makeMap t none => some (match mapInfo T t with
  | some (m, ie) => K (st.mk1 o.dst (.mp t m.2.2.1 m.2.2.2 ie.ty []) (.mp st.objs.length))
  | none => none)
 | .lookup t x key ok => some (match mapInfo T t with
  | some (m, ie) => opLookup m ie.ty st (st.ev x).atom (st.ev key) ok fun z => K (st.put o.dst z)
  | none => none)
 | .mapUpdate t x key val => some (match o.dst with
  | none => match mapInfo T t with
   | some (m, ie) => opMapPut m ie.ty st (st.ev x).atom (st.ev key) (st.ev val) K
   | none => none
  | some _ => none)
 | .convert src dst x => some (if convS dst = true then opConvS T src dst st (st.ev x).atom fun z => K (st.put o.dst (.sv (.at z))) else opConv T src dst (st.ev x).atom fun z => K (st.put o.dst (.sv (.at z))))
 | .nilCheck x => some (opNil (st.ev x).atom fun z => K (st.put o.dst (.sv (.at z))))
 | .binOp op t x y u => if gtBig op y = true then some (opGtS (st.ev x) fun z => K (st.put o.dst (.sv (.at z)))) else none
 | .index t x y => if strT T t = true then some (opIdxS (st.ev x).atom (st.ev y) fun z => K (st.put o.dst (.sv (.at z)))) else none
 | .slice t x lo hi none => if strT T t = true then some (opCutS (st.ev x).atom (lo.map st.ev) (hi.map st.ev) fun z => K (st.put o.dst (.sv (.at z)))) else none
 | .call c => match c.callee with
  | .builtin .max => some (match c.args.toList with
   | [x, y] => opMinMax true (st.ev x).atom (st.ev y).atom fun z => K (st.put o.dst (.sv (.at z)))
   | _ => none)
  | .builtin .min => some (match c.args.toList with
   | [x, y] => opMinMax false (st.ev x).atom (st.ev y).atom fun z => K (st.put o.dst (.sv (.at z)))
   | _ => none)
  | .builtin .len => match c.args.toList, c.argTypes.toList with
   | [x], [t] => match T.mapOf t with
    | some m => some (mapLen st (st.ev x).atom fun z => K (st.put o.dst (.sv (.at z))))
    | none => none
   | _, _ => none
  | _ => none
 | _ => none
noncomputable def stepB {γ : Type} (T : TT) (G : Env) (mvs : List Tmp) (k : Nat) (o : Oper) (st : St) (K : St → Option γ) : Option γ := match stepX T o st K with
 | some z => z
 | none => stepOp1 T G mvs k o st K
def pureX : Op → Bool
 | .lookup _ _ _ _ => true
 | .convert _ _ _ => true
 | .nilCheck _ => true
 | .index _ _ _ => true
 | .slice _ _ _ _ _ => true
 | .binOp _ _ _ _ _ => true
 | .call c => match c.callee with | .builtin .max => true | .builtin .min => true | .builtin .len => true | _ => false
 | _ => false
def pureOp (op : Op) : Bool := pureOp1 op || pureX op
def stillX : Op → Bool
 | .makeMap _ none => true
 | _ => false
def stillOp (G : Env) (op : Op) : Bool := stillOp1 G op || stillX op
theorem ZDp {γ : Type} {T : TT} {o : Oper} {K : St → Option γ} {r : γ} (hT : TTok P T) (h : Rel w0 S0 st μ a w) (hp : pureX o.op = true) (hk : stepX T o st K = some (some r)) : Went P o a w (Nx w0 S0 K r) := by
 unfold stepX at hk
 split at hk
 ·rename_i t ho; rw [ho] at hp; cases hp
 ·rename_i t x key ok ho
  injection hk with hk
  split at hk
  ·rename_i m ie hi; exact ZKF T hT h ho hi hk (fun _ hx => hx)
  ·cases hk
 ·rename_i t x key val ho; rw [ho] at hp; cases hp
 ·rename_i src dst x ho
  injection hk with hk
  split at hk
  ·rename_i hc
   exact ZLi hT h ho hc hk (fun _ hx => hx)
  ·exact ZKf hT h ho hk (fun _ hx => hx)
 ·rename_i x ho
  injection hk with hk
  exact ZLT h ho hk (fun _ hx => hx)
 ·rename_i op t x y u ho
  split at hk
  ·rename_i hs
   injection hk with hk
   exact ZLX T hT h ho hs hk (fun _ hx => hx)
  ·cases hk
 ·rename_i t x y ho
  split at hk
  ·rename_i hs
   injection hk with hk
   exact ZLL T hT h ho hs hk (fun _ hx => hx)
  ·cases hk
 ·rename_i t x lo hi ho
  split at hk
  ·rename_i hs
   injection hk with hk
   exact ZLv T hT h ho hs hk (fun _ hx => hx)
  ·cases hk
 ·rename_i c ho
  obtain ⟨callee, args, ats⟩ := c
  simp only at hk
  split at hk
  ·injection hk with hk
   split at hk
   ·rename_i x y hargs
    have h1 : args = #[x, y] := by apply Array.ext'; exact hargs
    subst h1
    exact ZKp (mx := true) h ho hk (fun _ hx => hx)
   ·cases hk
  ·injection hk with hk
   split at hk
   ·rename_i x y hargs
    have h1 : args = #[x, y] := by apply Array.ext'; exact hargs
    subst h1
    exact ZKp (mx := false) h ho hk (fun _ hx => hx)
   ·cases hk
  ·split at hk
   ·rename_i x t hargs hats
    have h1 : args = #[x] := by apply Array.ext'; exact hargs
    have h2 : ats = #[t] := by apply Array.ext'; exact hats
    subst h1 h2
    split at hk
    ·rename_i m hm
     injection hk with hk
     exact ZKe T hT h ho hm hk (fun _ hx => hx)
    ·cases hk
   ·cases hk
  ·cases hk
 ·cases hk
theorem ZAn {γ : Type} {T : TT} {o : Oper} {K : St → Option γ} {r : γ} {Q : Exit → Act → World → Prop} (hT : TTok P T) (h : Rel w0 S0 st μ a w) (hp : stillX o.op = true) (hk : stepX T o st K = some (some r)) : o.wp P a w (Nxs w0 S0 w K r) Q := by
 unfold stepX at hk
 split at hk
 ·rename_i t ho
  injection hk with hk
  split at hk
  ·rename_i m ie hi; exact ZIY h ho hk
  ·cases hk
 ·rename_i ho; rw [ho] at hp; cases hp
 ·rename_i ho; rw [ho] at hp; cases hp
 ·rename_i ho; rw [ho] at hp; cases hp
 ·rename_i ho; rw [ho] at hp; cases hp
 ·rename_i ho; rw [ho] at hp; cases hp
 ·rename_i ho; rw [ho] at hp; cases hp
 ·rename_i ho; rw [ho] at hp; cases hp
 ·rename_i ho; rw [ho] at hp; cases hp
 ·cases hk
theorem ZJa {γ : Type} {T : TT} {o : Oper} {K : St → Option γ} {r : γ} {Q : Exit → Act → World → Prop} (hT : TTok P T) (h : Rel w0 S0 st μ a w) (hk : stepX T o st K = some (some r)) : o.wp P a w (Nx w0 S0 K r) Q := by
 by_cases hp : pureX o.op = true
 ·exact Went.wp (ZDp hT h hp hk)
 by_cases hs : stillX o.op = true
 ·exact Zh4 (ZAn hT h hs hk)
 unfold stepX at hk
 split at hk
 ·rename_i t ho; exact (hs (by rw [ho]; rfl)).elim
 ·rename_i t x key ok ho; exact (hp (by rw [ho]; rfl)).elim
 ·rename_i t x key val ho
  injection hk with hk
  split at hk
  ·rename_i hd
   split at hk
   ·rename_i m ie hi; exact ZK6 T hT h ho hd hi hk
   ·cases hk
  ·cases hk
 ·rename_i src dst x ho; exact (hp (by rw [ho]; rfl)).elim
 ·rename_i x ho; exact (hp (by rw [ho]; rfl)).elim
 ·rename_i ho; exact (hp (by rw [ho]; rfl)).elim
 ·rename_i ho; exact (hp (by rw [ho]; rfl)).elim
 ·rename_i ho; exact (hp (by rw [ho]; rfl)).elim
 ·rename_i c ho
  obtain ⟨callee, args, ats⟩ := c
  simp only at hk
  split at hk
  ·exact (hp (by rw [ho]; rfl)).elim
  ·exact (hp (by rw [ho]; rfl)).elim
  ·exact (hp (by rw [ho]; rfl)).elim
  ·cases hk
 ·cases hk
theorem ZK9 {γ : Type} {T : TT} {o : Oper} {K : St → Option γ} {z : Option γ} (hk : stepX T o st K = some z) (hp : pureOp1 o.op = true) : pureX o.op = true := by
 unfold stepX at hk
 split at hk
 ·rename_i t ho; rw [ho] at hp; cases hp
 ·rename_i ho; rw [ho]; rfl
 ·rename_i ho; rw [ho] at hp; cases hp
 ·rename_i ho; rw [ho]; rfl
 ·rename_i ho; rw [ho]; rfl
 ·rename_i ho; rw [ho]; rfl
 ·rename_i ho; rw [ho]; rfl
 ·rename_i ho; rw [ho]; rfl
 ·rename_i c ho
  obtain ⟨callee, args, ats⟩ := c
  rw [ho] at hp ⊢
  simp only [pureOp1] at hp
  split at hp
  ·rfl
  ·cases hp
 ·cases hk
theorem ZIB {γ : Type} {T : TT} {G : Env} {o : Oper} {K : St → Option γ} {z : Option γ} (hk : stepX T o st K = some z) (hp : stillOp1 G o.op = true) : stillX o.op = true := by
 unfold stepX at hk
 split at hk
 ·rename_i t ho; rw [ho]; rfl
 ·rename_i ho; rw [ho] at hp; cases hp
 ·rename_i ho; rw [ho] at hp; cases hp
 ·rename_i ho; rw [ho] at hp; cases hp
 ·rename_i ho; rw [ho] at hp; cases hp
 ·rename_i ho; rw [ho] at hp; cases hp
 ·rename_i ho; rw [ho] at hp; cases hp
 ·rename_i ho; rw [ho] at hp; cases hp
 ·rename_i c ho
  obtain ⟨callee, args, ats⟩ := c
  rw [ho] at hp
  simp only at hk
  simp only [stillOp1] at hp
  split at hk <;> first | (cases hp; done) | (cases hk; done)
 ·cases hk
theorem ZKd {γ : Type} {T : TT} {o : Oper} {K : St → Option γ} (hk : stepX T o st K = none) (hp : pureX o.op = true) : pureOp1 o.op = true := by
 unfold stepX at hk
 split at hk
 ·cases hk
 ·cases hk
 ·cases hk
 ·cases hk
 ·cases hk
 ·rename_i ho; rw [ho]; rfl
 ·rename_i ho; rw [ho]; rfl
 ·rename_i ho; rw [ho]; rfl
 ·rename_i c ho
  obtain ⟨callee, args, ats⟩ := c
  rw [ho] at hp ⊢
  simp only at hk
  split at hk
  ·cases hk
  ·cases hk
  ·rfl
  ·simp only [pureX] at hp
   cases hp
 ·rename_i h1 h2 h3 h5 h6 h9 h7 h8 h4
  cases ho : o.op <;> rw [ho] at hp <;> first | rfl | exact (h2 _ _ _ _ ho).elim | exact (h4 _ ho).elim | exact (h5 _ _ _ ho).elim | exact (h6 _ ho).elim | cases hp
theorem ZJI {γ : Type} {T : TT} {G : Env} {o : Oper} {K : St → Option γ} (hk : stepX T o st K = none) (hp : stillX o.op = true) : stillOp1 G o.op = true := by
 unfold stillX at hp
 split at hp
 ·rename_i t ho
  simp only [stepX, ho] at hk
  cases hk
 ·cases hp
theorem ZJw {γ : Type} {T : TT} {G : Env} {mvs : List Tmp} {k : Nat} {o : Oper} {K : St → Option γ} {r : γ} {Q : Exit → Act → World → Prop} (hT : TTok P T) (hG : EnvOK P k G) (h : Rel w0 S0 st μ a w) (hk : stepB T G mvs k o st K = some r) : o.wp P a w (Nx w0 S0 K r) Q := by
 unfold stepB at hk
 split at hk
 ·rename_i z hz; rw [hk] at hz; exact ZJa hT h hz
 ·exact ZHv hT hG h hk
theorem ZKc {γ : Type} {T : TT} {G : Env} {mvs : List Tmp} {k : Nat} {o : Oper} {K : St → Option γ} {r : γ} (hT : TTok P T) (h : Rel w0 S0 st μ a w) (hp : pureOp o.op = true) (hk : stepB T G mvs k o st K = some r) : Went P o a w (Nx w0 S0 K r) := by
 unfold pureOp at hp
 rw [Bool.or_eq_true] at hp
 unfold stepB at hk
 split at hk
 ·rename_i z hz
  rw [hk] at hz
  exact ZDp hT h (hp.elim (ZK9 hz) id) hz
 ·rename_i hz
  exact ZIM hT h (hp.elim id (ZKd hz)) hk
theorem ZJh {γ : Type} {T : TT} {G : Env} {mvs : List Tmp} {k : Nat} {o : Oper} {K : St → Option γ} {r : γ} {Q : Exit → Act → World → Prop} (hT : TTok P T) (hG : EnvOK P k G) (h : Rel w0 S0 st μ a w) (hp : stillOp G o.op = true) (hk : stepB T G mvs k o st K = some r) : o.wp P a w (Nxs w0 S0 w K r) Q := by
 unfold stillOp at hp
 rw [Bool.or_eq_true] at hp
 unfold stepB at hk
 split at hk
 ·rename_i z hz
  rw [hk] at hz
  exact ZAn hT h (hp.elim (ZIB hz) id) hz
 ·rename_i hz
  exact ZHF hT hG h (hp.elim id (ZJI hz)) hk
noncomputable def stepY {γ : Type} (T : TT) (G : Env) (mvs : List Tmp) (k : Nat) (o : Oper) (st : St) (K : St → Option γ) : Option (Option γ) :=
  match o.op with
  | .indexAddr t x y => match o.dst with
    | some d => if mvs.contains d = true then some (match T.get t with
      | some i => match i.d with
        | .slice e => match T.get e with
          | some ti => match st.ev y with
            | .sv (.at (.int _ n)) => ipAddr ti st (st.ev x).atom n fun z => K (st.put o.dst (.sv (.at z)))
            | _ => none
          | none => none
        | _ => none
      | none => none) else none
    | none => none
  | .slice t x lo hi none => match o.dst with
    | some d => if mvs.contains d = true then match (st.ev x).atom with
      | .inn _ _ => some (match T.get t with
        | some i => match i.d with
          | .slice e => match T.get e with
            | some ti => sliceIn e ti st o.dst (st.ev x).atom (lo.map st.ev) (hi.map st.ev) K
            | none => none
          | _ => none
        | none => none)
      | _ => none
      else none
    | none => none
  | .store t p x => match o.dst with
    | none => match (st.ev p).atom with
      | .ip j q u n f => some (match T.get t with
        | some i => storeIp i st j q u n f (st.ev x) K
        | none => none)
      | _ => none
    | some _ => none
  | .load t p => match o.dst with
    | some d => if mvs.contains d = true then match (st.ev p).atom with
      | .ep j u q f => some (match T.get t with
        | some i => match i.d with
          | .slice e => match T.get e with
            | some ti => if mvs.contains (d + 100000) = true then (match f with
              | 0 => takeEp i st j u q o.dst K
              | _ => none) else infEp i e ti st j u q f fun z => K (st.put o.dst (.sv (.at z)))
            | none => none
          | _ => match f with
            | 0 => takeEp i st j u q o.dst K
            | _ => none
        | none => none)
      | _ => none
      else none
    | none => none
  | .binOp op _ x y _ => match o.dst with
    | some d => if mvs.contains (d + 200000) = true then some (opAddS op (st.ev x) (st.ev y) fun z => K (st.put o.dst (.sv (.at z)))) else none
    | none => none
  | .call c => match c.callee with
    | .value (.func f) => match G.get f with
      | some E => match boxI E.ps with
        | some (eb, t) => some (opCallB k E eb t st o.dst (c.args.toList.map st.ev) K)
        | none => match ownI E.ps with
          | some (_, e, u) => match ownInf E.ps (c.args.toList.map st.ev) with
            | some _ => some (opCallF k E e u st o.dst (c.args.toList.map st.ev) K)
            | none => none
          | none => none
      | none => none
    | _ => none
  | _ => none
noncomputable def stepC {γ : Type} (T : TT) (G : Env) (k : Nat) (o : Oper) (st : St) (K : St → Option γ) : Option (Option γ) :=
 match o.op with
 | .alloc t => if T.isFn t = true then some (K (st.mk1 o.dst (.box t [.un]) (.ptr st.objs.length 0))) else none
 | .load t p => if T.isFn t = true then some (match opFnLoad st (st.ev p).atom with
  | some y => K (st.put o.dst (.sv (.at y)))
  | none => none) else none
 | .store t p x => if T.isFn t = true then some (match o.dst with
  | none => match opFnStore st (st.ev p).atom (st.ev x).atom with
   | some st' => K st'
   | none => none
  | some _ => none) else none
 | .makeFunc fn first caps => some (match fn with
  | .func f => match first.toList with
   | [] => match capsL st caps.toList with
    | some l => K (st.mk1 o.dst (.clo f l) (.cv st.objs.length))
    | none => none
   | _ => none
  | _ => none)
 | .buildSlice t len ps => stepVB T t len ps.toList o.dst st K
 | .call c => match c.callee with
  | .value (.func f) => match G.get f with
   | some E => match E.cl with
    | some cl => if (ownI E.ps).isNone = false then some (cl.act k st o.dst (c.args.toList.map st.ev) K) else none
    | none => none
   | none => none
  | .value (.tmp i) => match (st.ev (.tmp i)).atom with
   | .cv j => match st.objs[j]? with
    | some (.clo f l) => match G.get f with
     | some E => match E.cl with
      | some cl => some (cl.act k st o.dst (c.args.toList.map st.ev ++ l.map fun x => .sv (.at x)) K)
      | none => none
     | none => none
    | _ => none
   | _ => none
  | .builtin .append => stepVA T c.args.toList c.argTypes.toList o.dst st K
  | _ => none
 | _ => none
noncomputable def stepOp {γ : Type} (T : TT) (G : Env) (mvs : List Tmp) (k : Nat) (o : Oper) (st : St) (K : St → Option γ) : Option γ := match stepC T G k o st K with
 | some z => z
 | none => match stepY T G mvs k o st K with
  | some z => z
  | none => stepB T G mvs k o st K
theorem ZDf {γ : Type} {T : TT} {G : Env} {k : Nat} {o : Oper} {K : St → Option γ} {r : γ} (hT : TTok P T) (h : Rel w0 S0 st μ a w) (hp : pureOp o.op = true) (hk : stepC T G k o st K = some (some r)) : Went P o a w (Nx w0 S0 K r) := by
 unfold stepC at hk
 split at hk
 ·rename_i t ho; rw [ho] at hp; cases hp
 ·rename_i t p ho
  split at hk
  ·rename_i hf
   injection hk with hk
   split at hk
   ·rename_i y hy; exact ZKo (hT.2.2 t hf) h ho hy hk
   ·cases hk
  ·cases hk
 ·rename_i t p x ho; rw [ho] at hp; cases hp
 ·rename_i f first caps ho; rw [ho] at hp; cases hp
 ·rename_i ho; rw [ho] at hp; cases hp
 ·rename_i c ho
  obtain ⟨callee, args, ats⟩ := c
  simp only at hk
  split at hk
  ·rw [ho] at hp
   simp only [pureOp, pureOp1, pureX] at hp
   cases hp
  ·rw [ho] at hp
   simp only [pureOp, pureOp1, pureX] at hp
   cases hp
  ·rw [ho] at hp
   cases hp
  ·cases hk
 ·cases hk
theorem ZJL {γ : Type} {T : TT} {G : Env} {k : Nat} {o : Oper} {K : St → Option γ} {r : γ} {Q : Exit → Act → World → Prop} (hT : TTok P T) (hG : EnvOK P k G) (h : Rel w0 S0 st μ a w) (hk : stepC T G k o st K = some (some r)) : o.wp P a w (Nx w0 S0 K r) Q := by
 by_cases hp : pureOp o.op = true
 ·exact Went.wp (ZDf hT h hp hk)
 unfold stepC at hk
 split at hk
 ·rename_i t ho
  split at hk
  ·rename_i hf
   injection hk with hk
   exact Zh4 (ZAy (hT.2.2 t hf) h ho hk)
  ·cases hk
 ·rename_i t p ho; exact (hp (by rw [ho]; rfl)).elim
 ·rename_i t p x ho
  split at hk
  ·rename_i hf
   injection hk with hk
   split at hk
   ·rename_i hd
    split at hk
    ·rename_i st' hs; exact ZJ0 (hT.2.2 t hf) h ho hd hs hk
    ·cases hk
   ·cases hk
  ·cases hk
 ·rename_i fn first caps ho
  injection hk with hk
  split at hk
  ·rename_i f
   split at hk
   ·rename_i h0
    have h1 : first = #[] := by apply Array.ext'; simpa using h0
    subst h1
    split at hk
    ·rename_i l hl; exact ZK5 h ho hl hk
    ·cases hk
   ·cases hk
  ·cases hk
 ·rename_i ho; exact Zh4 (Zww hT h ho hk)
 ·rename_i c ho
  obtain ⟨callee, args, ats⟩ := c
  simp only at hk
  split at hk
  ·rename_i f
   split at hk
   ·rename_i E hE
    split at hk
    ·rename_i cl hc
     split at hk
     ·injection hk with hk
      exact ZD5 (l := []) (caps := []) (hG.okc f E cl hE hc) h ho rfl ⟨rfl, fun j x v hx => by simp at hx⟩ (by simpa using hk)
     ·cases hk
    ·cases hk
   ·cases hk
  ·rename_i i
   split at hk
   ·rename_i j hj
    split at hk
    ·rename_i f l hob
     split at hk
     ·rename_i E hE
      split at hk
      ·rename_i cl hc
       injection hk with hk
       have ha := h.atom (.tmp i)
       rw [hj] at ha
       obtain ⟨q, hq, hv, _⟩ := ha
       obtain ⟨vs, hqv, hA⟩ := h.ob j _ q hob hq
       exact ZD5 (hG.okc f E cl hE hc) h ho (hv.trans hqv) hA hk
      ·cases hk
     ·cases hk
    ·cases hk
   ·cases hk
  ·exact ZI0 hT h ho hk
  ·cases hk
 ·cases hk
theorem ZJg {γ : Type} {T : TT} {G : Env} {k : Nat} {o : Oper} {K : St → Option γ} {r : γ} {Q : Exit → Act → World → Prop} (hT : TTok P T) (h : Rel w0 S0 st μ a w) (hp : stillOp G o.op = true) (hk : stepC T G k o st K = some (some r)) : o.wp P a w (Nxs w0 S0 w K r) Q := by
 unfold stepC at hk
 split at hk
 ·rename_i t ho
  split at hk
  ·rename_i hf
   injection hk with hk
   exact ZAy (hT.2.2 t hf) h ho hk
  ·cases hk
 ·rename_i ho; rw [ho] at hp; cases hp
 ·rename_i ho; rw [ho] at hp; cases hp
 ·rename_i ho; rw [ho] at hp; cases hp
 ·rename_i ho; exact Zww hT h ho hk
 ·rename_i c ho
  obtain ⟨callee, args, ats⟩ := c
  simp only at hk
  split at hk
  ·rename_i f
   split at hk
   ·rename_i E hE
    rw [ho] at hp
    simp only [stillOp, stillOp1, stillX, hE, Bool.or_false, Bool.and_eq_true, Option.isNone_iff_eq_none] at hp
    split at hk
    ·rw [hp.1] at hk
     cases hk
    ·cases hk
   ·cases hk
  ·rename_i i; rw [ho] at hp; simp [stillOp, stillOp1, stillX] at hp
  ·rw [ho] at hp; simp [stillOp, stillOp1, stillX] at hp
  ·cases hk
 ·cases hk
theorem ZDn {γ : Type} {T : TT} {G : Env} {mvs : List Tmp} {k : Nat} {o : Oper} {K : St → Option γ} {r : γ} (hT : TTok P T) (h : Rel w0 S0 st μ a w) (hp : pureOp o.op = true) (hk : stepY T G mvs k o st K = some (some r)) : Went P o a w (Nx w0 S0 K r) := by
 unfold stepY at hk
 split at hk
 ·rename_i t x y ho
  split at hk
  ·split at hk
   ·injection hk with hk
    split at hk
    ·rename_i i hi
     split at hk
     ·rename_i e hie
      split at hk
      ·rename_i ti hte
       split at hk
       ·rename_i k n hn
        exact ZK8 T hT h ho hi hie hte hn hk (fun _ hx => hx)
       ·cases hk
      ·cases hk
     ·cases hk
    ·cases hk
   ·cases hk
  ·cases hk
 ·rename_i t x lo hi ho
  split at hk
  ·split at hk
   ·split at hk
    ·injection hk with hk
     split at hk
     ·rename_i i hi2
      split at hk
      ·rename_i e hie
       split at hk
       ·rename_i ti hte
        exact ZJG T hT h ho hi2 hie hte hk
       ·cases hk
      ·cases hk
     ·cases hk
    ·cases hk
   ·cases hk
  ·cases hk
 ·rename_i t p x ho; rw [ho] at hp; cases hp
 ·rename_i t p ho
  split at hk
  ·split at hk
   ·split at hk
    ·rename_i j u q f hpa
     injection hk with hk
     split at hk
     ·rename_i i hi
      split at hk
      ·rename_i e hie
       split at hk
       ·rename_i ti hte
        split at hk
        ·split at hk
         ·exact ZDL T hT h ho hi hpa hk
         ·cases hk
        ·exact ZKB T hT h ho hi hpa hk (fun _ hx => hx)
       ·cases hk
      ·split at hk
       ·exact ZDL T hT h ho hi hpa hk
       ·cases hk
     ·cases hk
    ·cases hk
   ·cases hk
  ·cases hk
 ·rename_i op t x y u ho
  split at hk
  ·split at hk
   ·injection hk with hk
    exact ZLu T hT h ho hk (fun _ hx => hx)
   ·cases hk
  ·cases hk
 ·rename_i c ho
  obtain ⟨callee, args, ats⟩ := c
  simp only at hk
  split at hk
  ·rw [ho] at hp
   simp only [pureOp, pureOp1, pureX] at hp
   cases hp
  ·cases hk
 ·cases hk
theorem ZJd {γ : Type} {T : TT} {G : Env} {mvs : List Tmp} {k : Nat} {o : Oper} {K : St → Option γ} {r : γ} {Q : Exit → Act → World → Prop} (hT : TTok P T) (hG : EnvOK P k G) (h : Rel w0 S0 st μ a w) (hk : stepY T G mvs k o st K = some (some r)) : o.wp P a w (Nx w0 S0 K r) Q := by
 by_cases hp : pureOp o.op = true
 ·exact Went.wp (ZDn hT h hp hk)
 unfold stepY at hk
 split at hk
 ·rename_i t x y ho; exact (hp (by rw [ho]; rfl)).elim
 ·rename_i t x lo hi ho; exact (hp (by rw [ho]; rfl)).elim
 ·rename_i t p x ho
  split at hk
  ·rename_i hd
   split at hk
   ·rename_i j q u n f hpa
    injection hk with hk
    split at hk
    ·rename_i i hi
     exact ZJs T hT h ho hd hi hpa hk
    ·cases hk
   ·cases hk
  ·cases hk
 ·rename_i t p ho; exact (hp (by rw [ho]; rfl)).elim
 ·rename_i op t x y u ho; exact (hp (by rw [ho]; rfl)).elim
 ·rename_i c ho
  obtain ⟨callee, args, ats⟩ := c
  simp only at hk
  split at hk
  ·rename_i f
   split at hk
   ·rename_i E hE
    split at hk
    ·rename_i eb t hbox
     injection hk with hk
     exact ZJx (hG.ok f E hE) h ho hbox hk
    ·split at hk
     ·rename_i pos e u hown
      split at hk
      ·injection hk with hk
       exact ZJl (hG.ok f E hE) h ho hown hk
      ·cases hk
     ·cases hk
   ·cases hk
  ·cases hk
 ·cases hk
theorem ZJN {γ : Type} {T : TT} {G : Env} {mvs : List Tmp} {k : Nat} {o : Oper} {K : St → Option γ} {z : Option γ} (hk : stepY T G mvs k o st K = some z) (hp : stillOp G o.op = true) : False := by
 unfold stepY at hk
 split at hk
 ·rename_i ho; rw [ho] at hp; cases hp
 ·rename_i ho; rw [ho] at hp; cases hp
 ·rename_i ho; rw [ho] at hp; cases hp
 ·rename_i ho; rw [ho] at hp; cases hp
 ·rename_i ho; rw [ho] at hp; cases hp
 ·rename_i c ho
  obtain ⟨callee, args, ats⟩ := c
  simp only at hk
  split at hk
  ·rename_i f
   split at hk
   ·rename_i E hE
    rw [ho] at hp
    simp only [stillOp, stillOp1, stillX, hE, Bool.or_false, Bool.and_eq_true, Option.isNone_iff_eq_none] at hp
    rw [hp.1, hp.2] at hk
    cases hk
   ·cases hk
  ·cases hk
 ·cases hk
theorem ZbB {γ : Type} {T : TT} {G : Env} {mvs : List Tmp} {k : Nat} {o : Oper} {K : St → Option γ} {r : γ} {Q : Exit → Act → World → Prop} (hT : TTok P T) (hG : EnvOK P k G) (h : Rel w0 S0 st μ a w) (hk : stepOp T G mvs k o st K = some r) : o.wp P a w (Nx w0 S0 K r) Q := by
 unfold stepOp at hk
 split at hk
 ·rename_i z hz; rw [hk] at hz; exact ZJL hT hG h hz
 split at hk
 ·rename_i z hz; rw [hk] at hz; exact ZJd hT hG h hz
 ·exact ZJw hT hG h hk
theorem ZjE {γ : Type} {T : TT} {G : Env} {mvs : List Tmp} {k : Nat} {o : Oper} {K : St → Option γ} {r : γ} (hT : TTok P T) (h : Rel w0 S0 st μ a w) (hp : pureOp o.op = true) (hk : stepOp T G mvs k o st K = some r) : Went P o a w (Nx w0 S0 K r) := by
 unfold stepOp at hk
 split at hk
 ·rename_i z hz; rw [hk] at hz; exact ZDf hT h hp hz
 split at hk
 ·rename_i z hz; rw [hk] at hz; exact ZDn hT h hp hz
 ·exact ZKc hT h hp hk
theorem Zwd {γ : Type} {T : TT} {G : Env} {mvs : List Tmp} {k : Nat} {o : Oper} {K : St → Option γ} {r : γ} {Q : Exit → Act → World → Prop} (hT : TTok P T) (hG : EnvOK P k G) (h : Rel w0 S0 st μ a w) (hp : stillOp G o.op = true) (hk : stepOp T G mvs k o st K = some r) : o.wp P a w (Nxs w0 S0 w K r) Q := by
 unfold stepOp at hk
 split at hk
 ·rename_i z hz; rw [hk] at hz; exact ZJg hT h hp hz
 split at hk
 ·rename_i z hz; exact (ZJN hz hp).elim
 ·exact ZJh hT hG h hp hk
end
section
variable {γ : Type}
def guardAt (ops : Array Oper) (j : Nat) : Option Tmp := (ops[j]?).bind (·.dst)
def execOps (step : Oper → St → (St → Option γ) → Option γ) (ops : Array Oper) : List Oper → St → (St → Option γ) → Option γ
  | [], st, K => K st
  | o :: rest, st, K => match o.guard with
    | none => step o st fun st1 => execOps step ops rest st1 K
    | some (j, want) => match guardAt ops j with
      | none => none
      | some d => match st.tmps[d]? with
        | some (.sv (.at (.bool b))) =>
          if b = true then
            (if want = true then step o (st.put (some d) (.sv (.at (.bool true)))) fun st1 => execOps step ops rest st1 K
             else execOps step ops rest ((st.put (some d) (.sv (.at (.bool true)))).put o.dst (.tup [])) K)
          else
            (if want = true then execOps step ops rest ((st.put (some d) (.sv (.at (.bool false)))).put o.dst (.tup [])) K
             else step o (st.put (some d) (.sv (.at (.bool false)))) fun st1 => execOps step ops rest st1 K)
        | some (.tup []) => execOps step ops rest (st.put o.dst (.tup [])) K
        | _ => none
end
section
variable {P : Program} {w w1 w0 : World} {S0 : Own} {st : St} {μ : List ORec} {a : Act}
theorem Zt7 {μ : List ORec} {w : World} : TR μ w (.tup []) undef := ⟨[], rfl, rfl, fun j x u hx => by simp at hx⟩
theorem Zlc {ops : Array Oper} {j : Nat} {d : Tmp} (hg : guardAt ops j = some d) (h : Rel w0 S0 st μ a w) (hd : d < st.tmps.length) : yielded ops a.tmps j = match a.tmps.getD d undef with | .bool b => some b | _ => none := by
 unfold yielded
 unfold guardAt at hg
 have : a.tmps[d]? = some (a.tmps.getD d undef) := ZI6 (by rw [h.tm]; exact hd)
 simp only [hg, Option.bind_some, this]
 cases a.tmps.getD d undef <;> rfl
theorem Za3 {γ : Type} {step : Oper → St → (St → Option γ) → Option γ} {ops : Array Oper} {K : St → Option γ} {r : γ} {Q : Exit → Act → World → Prop} (hQ : ∀ a w, Nx w0 S0 K r a w → Q .normal a w)
  (hstep : ∀ (o : Oper) (st : St) (μ : List ORec) (a : Act) (w : World) (K' : St → Option γ), Rel w0 S0 st μ a w → step o st K' = some r → o.wp P a w (Nx w0 S0 K' r) Q) :
  ∀ (l : List Oper) (st : St) (μ : List ORec) (a : Act) (w : World), Rel w0 S0 st μ a w → execOps step ops l st K = some r → wpList P ops Q l a w
 | [], st, μ, a, w, h, hk => hQ a w ⟨st, μ, h, hk⟩
 | o :: rest, st, μ, a, w, h, hk => by
  have go : ∀ (st : St), Rel w0 S0 st μ a w → Region.wanted o (yielded ops a.tmps) = true → step o st (fun st1 => execOps step ops rest st1 K) = some r → wpList P ops Q (o :: rest) a w := by
   intro st h hw hk
   unfold wpList
   rw [if_pos hw]
   left
   have := hstep o st μ a w _ h hk
   exact Oper.wp_mono (fun a' w' ⟨st', μ', h', hk'⟩ => Za3 hQ hstep rest st' μ' a' w' h' hk') this
  have skip : ∀ (st : St), Rel w0 S0 st μ a w → Region.wanted o (yielded ops a.tmps) = false → execOps step ops rest (st.put o.dst (.tup [])) K = some r → wpList P ops Q (o :: rest) a w := by
   intro st h hw hk
   unfold wpList
   rw [if_neg (by rw [hw]; simp)]
   exact Za3 hQ hstep rest _ μ _ w (h.put o.dst Zt7) hk
  simp only [execOps] at hk
  split at hk
  ·rename_i hg
   exact go st h (by unfold Region.wanted; rw [hg]) hk
  ·rename_i j want hg
   have hwant : ∀ y, yielded ops a.tmps j = y → Region.wanted o (yielded ops a.tmps) = (y == some want) := by
    intro y hy
    unfold Region.wanted
    rw [hg]
    simp only [hy]
   split at hk
   ·cases hk
   ·rename_i d hd
    split at hk
    ·rename_i b hb
     have hlt := (List.getElem?_eq_some_iff.1 hb).1
     have hv : a.tmps.getD d undef = .bool b := (h.tv d _ hb).1
     have hy := Zlc hd h hlt
     rw [hv] at hy
     have hre : Rel w0 S0 (st.put (some d) (.sv (.at (.bool b)))) μ a w := h.retell (t := d) (x := .sv (.at (.bool b))) (by rw [hv]; exact ⟨rfl, .inr rfl⟩)
     split at hk
     ·rename_i hbt
      subst hbt
      split at hk
      ·rename_i hw; subst hw
       exact go _ hre (by rw [hwant _ hy]; rfl) hk
      ·rename_i hw
       exact skip _ hre (by rw [hwant _ hy]; cases want <;> simp_all) hk
     ·rename_i hbf
      have hbf : b = false := by simpa using hbf
      subst hbf
      split at hk
      ·rename_i hw; subst hw
       exact skip _ hre (by rw [hwant _ hy]; rfl) hk
      ·rename_i hw
       exact go _ hre (by rw [hwant _ hy]; cases want <;> simp_all) hk
    ·rename_i hb
     have hlt := (List.getElem?_eq_some_iff.1 hb).1
     obtain ⟨vs, hv, hl, _⟩ := h.tv d _ hb
     obtain rfl : vs = [] := List.eq_nil_of_length_eq_zero hl
     have hy := Zlc hd h hlt
     rw [hv] at hy
     exact skip st h (by rw [hwant _ hy]; rfl) hk
    ·cases hk
end
end
end Go.Proofs.YtmhfhiofcoggbaaGreat.Vs
