/- The proof, part 11. -/
import Derived.Test.Ytkbikniinjalbaaqltm9
set_option linter.unusedVariables false
set_option linter.unusedSimpArgs false
namespace Go.Proofs.Ytkbikniinjalbaa.Vs
open Go.RowKit
section
structure QSig where
 ps : List KP
 fe : Nat
 ts : List Ty
 fs : Nat
 eF : TypeId
 eB : TypeId
 eR : TypeId
 t : Ty
@[reducible] def QSig.In (q : QSig) : Type := KTup q.ps × (TupT q.ts × (Int × (Int × (Bool × List q.t.D))))
def pfnObj (st : St) (ex : List Nat) : At → Option Nat
 | .pc i q => if ex.contains i then none else some q
 | .ptr j 0 => if ex.contains j then none else match st.objs[j]? with
  | some (.box _ [.cv q]) => some q
  | _ => none
 | _ => none
def readN (st : St) (ex : List Nat) (x : At) : Option Int := readCp st ex (.int .i64) x
def readSelf (st : St) (ex : List Nat) (q : QSig) (iF iB qe qx : Nat) : Option Int := match st.objs[qx]? with
 | some (.clo f' [.ptr jF 0, pe, .ptr jB 0, pn, px]) => if f' = q.fs ∧ jF = iF ∧ jB = iB ∧ pfnObj st ex pe = some qe ∧ pfnObj st ex px = some qx then readN st ex pn else none
 | _ => none
def QSig.read3 (q : QSig) (st : St) (iF iB iR : Nat) (fd : Bool) (best : List q.t.D) (x1 x2 x3 : TV) (pe pn px : At) : Option q.In :=
 match readKs st [iF, iB, iR] q.ps [x1, x2, x3] with
 | some y => match pfnObj st [iF, iB, iR] pe with
  | some qe => match readFn st [iF, iB, iR] q.fe q.ts (.cv qe) with
   | some d => match readN st [iF, iB, iR] pn with
    | some n => match pfnObj st [iF, iB, iR] px with
     | some qx => match readSelf st [iF, iB, iR] q iF iB qe qx with
      | some n2 => some (y, d, n, n2, fd, best)
      | none => none
     | none => none
    | none => none
   | none => none
  | none => none
 | none => none
def QSig.read (q : QSig) (st : St) : List TV → Option (q.In × (Nat × Nat × Nat))
  | [x1, x2, x3, .sv (.at (.ptr iF 0)), .sv (.at pe), .sv (.at (.ptr iB 0)), .sv (.at pn), .sv (.at px)] => match st.objs[iF]? with
    | some (.box eF' [.bool fd]) => match st.objs[iB]? with
      | some (.box eB' [.sl iR]) => match st.objs[iR]? with
        | some (.row true eR' t' best) => if h : (eF' = q.eF ∧ eB' = q.eB ∧ eR' = q.eR) ∧ t' = q.t then match q.read3 st iF iB iR fd (h.2 ▸ best) x1 x2 x3 pe pn px with
            | some x => some (x, (iF, iB, iR))
            | none => none
          else none
        | _ => none
      | _ => none
    | _ => none
  | _ => none
def reSt (st : St) (i : Nat) (o : Ob) : St := { st.kill i with objs := (st.kill i).objs.set i o }
def QSig.back (q : QSig) (st : St) (iF iB iR : Nat) (dst : Option Tmp) (b : Bool) (l : List q.t.D) : St :=
 (reSt (St.push (reSt (((st.die iF).die iB).die iR) iF (.box q.eF [.bool b])) (.row true q.eR q.t l)) iB (.box q.eB [.sl st.objs.length])).put dst (.tup [])
def QSig.init (q : QSig) (n : Nat) (x : q.In) : St :=
 { tmps := initK q.ps x.1 0 ++ [.sv (.at (.ptr 1 0)), .sv (.at (.pc 0 4)), .sv (.at (.ptr 2 0)), .sv (.at (.es 0 (.int .i64) x.2.2.1 0)), .sv (.at (.pc 0 5))] ++ List.replicate (n - 8) (.sv (.at .un)), objs := [.ro, .box q.eF [.bool x.2.2.2.2.1], .box q.eB [.sl 3], .row true q.eR q.t x.2.2.2.2.2, .clo q.fe (esL q.ts x.2.1), .clo q.fs [.ptr 1 0, .pc 0 4, .ptr 2 0, .es 0 (.int .i64) x.2.2.2.1 0, .pc 0 5]] }
def QSig.res (q : QSig) (st : St) : Option (Bool × List q.t.D) := match st.objs[1]? with
 | some (Ob.box eF' [.bool b]) => match st.objs[2]? with
  | some (Ob.box eB' [.sl m]) => match st.objs[m]? with
   | some (Ob.row true eR' t' l) => if h : (eF' = q.eF ∧ eB' = q.eB ∧ eR' = q.eR) ∧ t' = q.t then some (b, h.2 ▸ l) else none
   | _ => none
  | _ => none
 | _ => none
def qOwn (rF rB rR : ORec) : Own where
 ok := fun k => rF.ok k ∨ rB.ok k ∨ rR.ok k
 ov := [(rF.v, rF.blk), (rB.v, rB.blk)]
 gv := rR.ok
 go := fun k hk => .inr (.inr hk)
section
variable {P : Program} {w w1 w0 : World} {S0 : Own} {st : St} {μ : List ORec} {a : Act} {S : Nat → Prop}
theorem ZFq {α : Type} {c : Prop} [Decidable c] {x : Option α} {y : α} (h : (if c then x else none) = some y) : c ∧ x = some y := by
 split at h
 ·rename_i hc; exact ⟨hc, h⟩
 ·cases h
theorem Zhb (h : Rel w0 S0 st μ a w) {ex : List Nat} {x : At} {v : Value} {q : Nat} (hx : AR μ w x v) (hr : pfnObj st ex x = some q) : ∃ (r : ORec) (g : Nat), μ[q]? = some r ∧ okBut μ ex g ∧ v = .pointer (some ⟨g, 0, none⟩) ∧ w.cell? ⟨g, 0, none⟩ = some r.v ∧ ∃ f vs, r.v = .func (.func f) #[] vs := by
 unfold pfnObj at hr
 split at hr
 ·rename_i i q0
  split at hr
  ·cases hr
  ·rename_i hex
   injection hr with hr
   subst hr
   obtain ⟨r, rq, g, hri, hrq, hk, hv, hc, hf⟩ := hx
   exact ⟨rq, g, hrq, ⟨i, r, by simpa using hex, hri, hk⟩, hv, hc, hf⟩
 ·rename_i j
  split at hr
  ·cases hr
  ·rename_i hex
   split at hr
   ·rename_i e q0 hob
    injection hr with hr
    subst hr
    obtain ⟨r, hrec, hv⟩ := hx
    obtain ⟨hok, vs, hb, hA, _⟩ := h.ob j _ r hob hrec
    match vs, hA, hb with
    | [], hA, hb => have := hA.1; simp at this
    | u :: us, hA, hb =>
     obtain ⟨rq, hrq, hu, hf⟩ := hA.2 0 _ u rfl rfl
     refine ⟨rq, r.blk, hrq, ⟨j, r, by simpa using hex, hrec, hok⟩, hv, ?_, by rw [← hu]; exact hf⟩
     rw [Zg7 hb, ← hu]
     rfl
   ·cases hr
 ·cases hr
theorem QSig.read_sound {q : QSig} (hps : ∀ x, objsK q.ps x = []) {n : Nat} (h : Rel w0 S0 st μ a w) {xs : List TV} {vs : List Value} (hl : vs.length = xs.length) (hT : ∀ (j : Nat) x v, xs[j]? = some x → vs[j]? = some v → TR μ w x v) {x : q.In} {iF iB iR : Nat} (hr : q.read st xs = some (x, (iF, iB, iR))) :
    ∃ rF rB rR : ORec, (st.objs[iF]? = some (.box q.eF [.bool x.2.2.2.2.1]) ∧ st.objs[iB]? = some (.box q.eB [.sl iR]) ∧ st.objs[iR]? = some (.row true q.eR q.t x.2.2.2.2.2)) ∧ (μ[iF]? = some rF ∧ μ[iB]? = some rB ∧ μ[iR]? = some rR) ∧
      ∃ μ', Rel w (qOwn rF rB rR) (q.init n x) μ' { tmps := vs.toArray ++ Array.replicate (n - vs.toArray.size) undef, defers := [] } w := by
  unfold QSig.read at hr
  split at hr
  · rename_i x1 x2 x3 iF' pe iB' pn px
    split at hr
    · rename_i eF' fd hoF
      split at hr
      · rename_i eB' iR' hoB
        split at hr
        · rename_i eR' t' best hoR
          split at hr
          · rename_i hc
            obtain ⟨⟨rfl, rfl, rfl⟩, ht⟩ := hc
            subst ht
            split at hr
            · rename_i x0 hx0
              injection hr with hr
              injection hr with hr1 hr2
              injection hr2 with hr2 hr3
              injection hr3 with hr3 hr4
              subst hr1 hr2 hr3 hr4
              unfold QSig.read3 at hx0
              split at hx0
              · rename_i y hy
                split at hx0
                · rename_i qe hqe
                  split at hx0
                  · rename_i d hd
                    split at hx0
                    · rename_i m hm
                      split at hx0
                      · rename_i qx hqx
                        split at hx0
                        · rename_i n2 hself
                          injection hx0 with hx0
                          subst hx0
                          obtain ⟨rF, hrF⟩ := h.some_rec hoF
                          obtain ⟨rB, hrB⟩ := h.some_rec hoB
                          obtain ⟨rR, hrR⟩ := h.some_rec hoR
                          match vs, hl with
                          | [v1, v2, v3, vF, ve, vB, vn, vx], _ =>
                          have tF := (hT 3 _ vF rfl rfl).1
                          have te := (hT 4 _ ve rfl rfl).1
                          have tB := (hT 5 _ vB rfl rfl).1
                          have tn := (hT 6 _ vn rfl rfl).1
                          have tx := (hT 7 _ vx rfl rfl).1
                          have hks := ZlA h (xs := [x1, x2, x3]) (vs := [v1, v2, v3]) rfl (fun j x v hx hv => by
                            match j, hx, hv with
                            | 0, hx, hv => exact hT 0 x v hx hv
                            | 1, hx, hv => exact hT 1 x v hx hv
                            | 2, hx, hv => exact hT 2 x v hx hv
                            | j + 3, hx, hv => simp at hx) hy
                          have hlen : q.ps.length = 3 := hks.len.symm
                          obtain ⟨re, ge, hre, hge, hve, hce, hfe⟩ := Zhb h te hqe
                          obtain ⟨rx, gx, hrx, hgx, hvx, hcx, hfx⟩ := Zhb h tx hqx
                          have hfn := Zx6 h (x := .cv qe) (v := re.v) ⟨re, hre, rfl, hfe⟩ hd
                          have hn := Zhm h tn hm
                          unfold readSelf at hself
                          split at hself
                          · rename_i f' jF pe' jB pn' px' hox
                            obtain ⟨⟨rfl, rfl, rfl, hpe', hpx'⟩, hself2⟩ := ZFq hself
                            obtain ⟨us, hus, hA⟩ := h.ob qx _ rx hox hrx
                            have okF : ∀ k, okBut μ [jF, jB, iR'] k → ¬ rF.ok k ∧ ¬ rB.ok k ∧ ¬ rR.ok k := by
                              intro k ⟨j, r, hj, hrj, hk⟩
                              have hj' : j ≠ jF ∧ j ≠ jB ∧ j ≠ iR' := by
                                refine ⟨?_, ?_, ?_⟩ <;> intro he <;> subst he <;> simp at hj
                              exact ⟨fun hk2 => h.dj jF j _ rF r (Ne.symm hj'.1) hoF rfl hrF hrj k hk2 hk, fun hk2 => h.dj jB j _ rB r (Ne.symm hj'.2.1) hoB rfl hrB hrj k hk2 hk, fun hk2 => h.dj iR' j _ rR r (Ne.symm hj'.2.2) hoR rfl hrR hrj k hk2 hk⟩
                            have nFB : jF ≠ jB := by intro he; subst he; rw [hoF] at hoB; injection hoB with hoB; injection hoB with _ hoB; injection hoB with hoB; cases hoB
                            have nFR : jF ≠ iR' := by intro he; subst he; rw [hoF] at hoR; injection hoR with hoR; cases hoR
                            have nBR : jB ≠ iR' := by intro he; subst he; rw [hoB] at hoR; injection hoR with hoR; cases hoR
                            have dFB := h.dj jF jB _ rF rB nFB hoF rfl hrF hrB
                            have dFR := h.dj jF iR' _ rF rR nFR hoF rfl hrF hrR
                            have dBR := h.dj jB iR' _ rB rR nBR hoB rfl hrB hrR
                            refine ⟨rF, rB, rR, ⟨hoF, hoB, hoR⟩, ⟨hrF, hrB, hrR⟩, [⟨undef, 0, okBut μ [jF, jB, iR']⟩, rF, rB, rR, ⟨re.v, 0, fun _ => False⟩, ⟨rx.v, 0, fun _ => False⟩], ?_⟩
                            have ar1 : ∀ v, AR μ w (.ptr jF 0) v → AR [⟨undef, 0, okBut μ [jF, jB, iR']⟩, rF, rB, rR, ⟨re.v, 0, fun _ => False⟩, ⟨rx.v, 0, fun _ => False⟩] w (.ptr 1 0) v := by
                              intro v ⟨r, hr, hv⟩
                              rw [hrF] at hr
                              injection hr with hr
                              subst hr
                              exact ⟨rF, rfl, hv⟩
                            have ar2 : ∀ v, AR μ w (.ptr jB 0) v → AR [⟨undef, 0, okBut μ [jF, jB, iR']⟩, rF, rB, rR, ⟨re.v, 0, fun _ => False⟩, ⟨rx.v, 0, fun _ => False⟩] w (.ptr 2 0) v := by
                              intro v ⟨r, hr, hv⟩
                              rw [hrB] at hr
                              injection hr with hr
                              subst hr
                              exact ⟨rB, rfl, hv⟩
                            have are : ∀ p v, AR μ w p v → pfnObj st [jF, jB, iR'] p = some qe → AR [⟨undef, 0, okBut μ [jF, jB, iR']⟩, rF, rB, rR, ⟨re.v, 0, fun _ => False⟩, ⟨rx.v, 0, fun _ => False⟩] w (.pc 0 4) v := by
                              intro p v hv hp
                              obtain ⟨r, g, hr, hg, hv, hc, hf⟩ := Zhb h hv hp
                              rw [hre] at hr
                              injection hr with hr
                              subst hr
                              exact ⟨_, _, g, rfl, rfl, hg, hv, hc, hf⟩
                            have arx : ∀ p v, AR μ w p v → pfnObj st [jF, jB, iR'] p = some qx → AR [⟨undef, 0, okBut μ [jF, jB, iR']⟩, rF, rB, rR, ⟨re.v, 0, fun _ => False⟩, ⟨rx.v, 0, fun _ => False⟩] w (.pc 0 5) v := by
                              intro p v hv hp
                              obtain ⟨r, g, hr, hg, hv, hc, hf⟩ := Zhb h hv hp
                              rw [hrx] at hr
                              injection hr with hr
                              subst hr
                              exact ⟨_, _, g, rfl, rfl, hg, hv, hc, hf⟩
                            have arn : ∀ p v m, AR μ w p v → readN st [jF, jB, iR'] p = some m → AR [⟨undef, 0, okBut μ [jF, jB, iR']⟩, rF, rB, rR, ⟨re.v, 0, fun _ => False⟩, ⟨rx.v, 0, fun _ => False⟩] w (.es 0 (.int .i64) m 0) v := by
                              intro p v m hv hp
                              obtain ⟨ad, cs, h1, h2, h3, h4, h5⟩ := Zhm h hv hp
                              exact ⟨_, ad, cs, rfl, h1, h2, h3, h4, h5⟩
                            obtain ⟨recs, g1, _, g3⟩ := Zf3 hks
                            rw [hps] at g1
                            have g1 : recs = [] := List.length_eq_zero_iff.1 g1
                            subst g1
                            have g4 := (g3 [⟨undef, 0, okBut μ [jF, jB, iR']⟩, rF, rB, rR, ⟨re.v, 0, fun _ => False⟩, ⟨rx.v, 0, fun _ => False⟩] 0 rfl (fun j r hj => by simp at hj)).1
                            refine ⟨rfl, by simp [QSig.init, ZdH, hlen]; omega, fun i z hz => ?_, fun i o r ho hr => ?_, fun i j o ri rj hij ho hw hri hrj k hk => ?_, fun i o r ho hr hw k hk => ?_, fun i e t xs r ho hr k hk => ?_, fun i r hr k hk => ?_, .refl w _, rfl, fun j v hv => ?_, h.glob (fun k hk => ?_)⟩
                            · have fin : ∀ v, [v1, v2, v3, vF, ve, vB, vn, vx][i]? = some v → (([v1, v2, v3, vF, ve, vB, vn, vx].toArray ++ Array.replicate (n - [v1, v2, v3, vF, ve, vB, vn, vx].toArray.size) undef).getD i undef) = v := by
                                intro v hv
                                rw [Array.getD_eq_getD_getElem?, Array.getElem?_append_left (by have := (List.getElem?_eq_some_iff.1 hv).1; simpa using this)]
                                rw [List.getElem?_toArray, hv]
                                rfl
                              simp only [QSig.init, List.append_assoc] at hz
                              rw [List.getElem?_append] at hz
                              split at hz
                              · rename_i hi
                                rw [ZdH, hlen] at hi
                                obtain ⟨v, hv, ht⟩ := g4 i z hz
                                rw [fin v (by rw [← hv]; match i, hi with | 0, _ => rfl | 1, _ => rfl | 2, _ => rfl)]
                                exact ht
                              · rename_i hi
                                rw [ZdH, hlen] at hi hz
                                match i, hi, hz with
                                | 0, hi, _ => omega
                                | 1, hi, _ => omega
                                | 2, hi, _ => omega
                                | 3, _, hz => injection hz with hz; subst hz; rw [fin vF rfl]; exact ⟨ar1 vF tF, .inr (by obtain ⟨r, _, hv⟩ := tF; rw [hv]; rfl)⟩
                                | 4, _, hz => injection hz with hz; subst hz; rw [fin ve rfl]; exact ⟨are pe ve te hqe, .inr (by rw [hve]; rfl)⟩
                                | 5, _, hz => injection hz with hz; subst hz; rw [fin vB rfl]; exact ⟨ar2 vB tB, .inr (by obtain ⟨r, _, hv⟩ := tB; rw [hv]; rfl)⟩
                                | 6, _, hz => injection hz with hz; subst hz; rw [fin vn rfl]; exact ⟨arn pn vn _ tn hm, .inr (by obtain ⟨ad, cs, _, h2, _⟩ := hn; rw [h2]; rfl)⟩
                                | 7, _, hz => injection hz with hz; subst hz; rw [fin vx rfl]; exact ⟨arx px vx tx hqx, .inr (by rw [hvx]; rfl)⟩
                                | i + 8, _, hz =>
                                  simp only [show i + 8 - 3 = i + 5 by omega, List.cons_append, List.nil_append, List.getElem?_cons_succ] at hz
                                  rw [List.getElem?_replicate] at hz
                                  split at hz
                                  · injection hz with hz
                                    subst hz
                                    exact ⟨trivial, .inl rfl⟩
                                  · cases hz
                            · simp only [QSig.init] at ho
                              match i, ho, hr with
                              | 0, ho, hr => injection ho with ho; subst ho; trivial
                              | 1, ho, hr =>
                                injection ho with ho; subst ho
                                injection hr with hr; subst hr
                                obtain ⟨h1, us', h2, h3, h4⟩ := h.ob jF _ _ hoF hrF
                                exact ⟨h1, us', h2, ⟨h3.1, fun j x v hx hv => by
                                  have := h3.2 j x v hx hv
                                  match j, hx with
                                  | 0, hx => injection hx with hx; subst hx; exact this
                                  | j + 1, hx => simp at hx⟩, h4⟩
                              | 2, ho, hr =>
                                injection ho with ho; subst ho
                                injection hr with hr; subst hr
                                obtain ⟨h1, us', h2, h3, h4⟩ := h.ob jB _ _ hoB hrB
                                exact ⟨h1, us', h2, ⟨h3.1, fun j x v hx hv => by
                                  match j, hx with
                                  | 0, hx =>
                                    injection hx with hx; subst hx
                                    obtain ⟨r, hr, hrest⟩ := h3.2 0 _ v rfl hv
                                    rw [hrR] at hr
                                    injection hr with hr
                                    subst hr
                                    exact ⟨rR, rfl, hrest⟩
                                  | j + 1, hx => simp at hx⟩, h4⟩
                              | 3, ho, hr =>
                                injection ho with ho; subst ho
                                injection hr with hr; subst hr
                                exact h.ob iR' _ _ hoR hrR
                              | 4, ho, hr =>
                                injection ho with ho; subst ho
                                injection hr with hr; subst hr
                                obtain ⟨us', h1, h2⟩ := hfn
                                exact ⟨us', h1, Zwf rfl h2⟩
                              | 5, ho, hr =>
                                injection ho with ho; subst ho
                                injection hr with hr; subst hr
                                refine ⟨us, hus, hA.1, fun j x v hx hv => ?_⟩
                                match j, hx, hv with
                                | 0, hx, hv => injection hx with hx; subst hx; exact ar1 v (hA.2 0 _ v rfl hv)
                                | 1, hx, hv => injection hx with hx; subst hx; exact are _ v (hA.2 1 _ v rfl hv) hpe'
                                | 2, hx, hv => injection hx with hx; subst hx; exact ar2 v (hA.2 2 _ v rfl hv)
                                | 3, hx, hv => injection hx with hx; subst hx; exact arn _ v _ (hA.2 3 _ v rfl hv) hself2
                                | 4, hx, hv => injection hx with hx; subst hx; exact arx _ v (hA.2 4 _ v rfl hv) hpx'
                                | j + 5, hx, hv => simp at hx
                              | i + 6, ho, hr => simp at ho
                            · simp only [QSig.init] at ho
                              match i, ho, hri with
                              | 0, ho, hri => injection ho with ho; subst ho; cases hw
                              | 1, ho, hri =>
                                injection hri with hri; subst hri
                                match j, hrj with
                                | 0, hrj => injection hrj with hrj; subst hrj; exact fun hk2 => (okF k hk2).1 hk
                                | 1, hrj => exact absurd rfl hij
                                | 2, hrj => injection hrj with hrj; subst hrj; exact dFB k hk
                                | 3, hrj => injection hrj with hrj; subst hrj; exact dFR k hk
                                | 4, hrj => injection hrj with hrj; subst hrj; exact fun hf => hf
                                | 5, hrj => injection hrj with hrj; subst hrj; exact fun hf => hf
                                | j + 6, hrj => simp at hrj
                              | 2, ho, hri =>
                                injection hri with hri; subst hri
                                match j, hrj with
                                | 0, hrj => injection hrj with hrj; subst hrj; exact fun hk2 => (okF k hk2).2.1 hk
                                | 1, hrj => injection hrj with hrj; subst hrj; exact fun hk2 => dFB k hk2 hk
                                | 2, hrj => exact absurd rfl hij
                                | 3, hrj => injection hrj with hrj; subst hrj; exact dBR k hk
                                | 4, hrj => injection hrj with hrj; subst hrj; exact fun hf => hf
                                | 5, hrj => injection hrj with hrj; subst hrj; exact fun hf => hf
                                | j + 6, hrj => simp at hrj
                              | 3, ho, hri =>
                                injection hri with hri; subst hri
                                match j, hrj with
                                | 0, hrj => injection hrj with hrj; subst hrj; exact fun hk2 => (okF k hk2).2.2 hk
                                | 1, hrj => injection hrj with hrj; subst hrj; exact fun hk2 => dFR k hk2 hk
                                | 2, hrj => injection hrj with hrj; subst hrj; exact fun hk2 => dBR k hk2 hk
                                | 3, hrj => exact absurd rfl hij
                                | 4, hrj => injection hrj with hrj; subst hrj; exact fun hf => hf
                                | 5, hrj => injection hrj with hrj; subst hrj; exact fun hf => hf
                                | j + 6, hrj => simp at hrj
                              | 4, ho, hri => injection ho with ho; subst ho; cases hw
                              | 5, ho, hri => injection ho with ho; subst ho; cases hw
                              | i + 6, ho, hri => simp at ho
                            · simp only [QSig.init] at ho
                              left
                              match i, ho, hr with
                              | 0, ho, hr => injection ho with ho; subst ho; cases hw
                              | 1, ho, hr => injection hr with hr; subst hr; exact .inl hk
                              | 2, ho, hr => injection hr with hr; subst hr; exact .inr (.inl hk)
                              | 3, ho, hr => injection hr with hr; subst hr; exact .inr (.inr hk)
                              | 4, ho, hr => injection ho with ho; subst ho; cases hw
                              | 5, ho, hr => injection ho with ho; subst ho; cases hw
                              | i + 6, ho, hr => simp at ho
                            · simp only [QSig.init] at ho
                              left
                              match i, ho, hr with
                              | 0, ho, hr => injection ho with ho; cases ho
                              | 1, ho, hr => injection ho with ho; cases ho
                              | 2, ho, hr => injection ho with ho; cases ho
                              | 3, ho, hr => injection hr with hr; subst hr; exact hk
                              | 4, ho, hr => injection ho with ho; cases ho
                              | 5, ho, hr => injection ho with ho; cases ho
                              | i + 6, ho, hr => simp at ho
                            · match i, hr with
                              | 0, hr =>
                                injection hr with hr; subst hr
                                obtain ⟨j, r, _, hrj, hk⟩ := hk
                                exact h.lt j r hrj k hk
                              | 1, hr => injection hr with hr; subst hr; exact h.lt jF _ hrF k hk
                              | 2, hr => injection hr with hr; subst hr; exact h.lt jB _ hrB k hk
                              | 3, hr => injection hr with hr; subst hr; exact h.lt iR' _ hrR k hk
                              | 4, hr => injection hr with hr; subst hr; exact hk.elim
                              | 5, hr => injection hr with hr; subst hr; exact hk.elim
                              | i + 6, hr => simp at hr
                            · match j, hv with
                              | 0, hv => injection hv with hv; subst hv; exact ⟨rF, rfl, rfl, rfl⟩
                              | 1, hv => injection hv with hv; subst hv; exact ⟨rB, rfl, rfl, rfl⟩
                              | j + 2, hv => simp [qOwn] at hv
                            · rcases hk with hk | hk | hk
                              · exact h.wr jF _ rF hoF hrF rfl k hk
                              · exact h.wr jB _ rB hoB hrB rfl k hk
                              · exact h.wr iR' _ rR hoR hrR rfl k hk
                          · cases hself
                        · cases hx0
                      · cases hx0
                    · cases hx0
                  · cases hx0
                · cases hx0
              · cases hx0
            · cases hr
          · cases hr
        · cases hr
      · cases hr
    · cases hr
  · cases hr
end
end
section
section
variable {P : Program} {w w1 w0 w' : World} {S0 : Own} {st st1 : St} {μ μ1 : List ORec} {a a' : Act} {S : Nat → Prop}
theorem QSig.back_sound {q : QSig} {iF iB iR : Nat} {fd : Bool} {best : List q.t.D} {rF rB rR : ORec} (h : Rel w0 S0 st μ a w) (hoF : st.objs[iF]? = some (.box q.eF [.bool fd])) (hoB : st.objs[iB]? = some (.box q.eB [.sl iR])) (hoR : st.objs[iR]? = some (.row true q.eR q.t best))
    (hrF : μ[iF]? = some rF) (hrB : μ[iB]? = some rB) (hrR : μ[iR]? = some rR) (r1 : Rel w (qOwn rF rB rR) st1 μ1 a' w') {b : Bool} {l : List q.t.D} (hres : q.res st1 = some (b, l)) (dst : Option Tmp) :
    ∃ μ', Rel w0 S0 (q.back st iF iB iR dst b l) μ' (a.put dst (.tuple #[])) w' := by
  have nFB : iF ≠ iB := by intro he; subst he; rw [hoF] at hoB; injection hoB with hoB; injection hoB with _ hoB; injection hoB with hoB; cases hoB
  have nFR : iF ≠ iR := by intro he; subst he; rw [hoF] at hoR; injection hoR with hoR; cases hoR
  have nBR : iB ≠ iR := by intro he; subst he; rw [hoB] at hoR; injection hoR with hoR; cases hoR
  have dFB := h.dj iF iB _ rF rB nFB hoF rfl hrF hrB
  have dFR := h.dj iF iR _ rF rR nFR hoF rfl hrF hrR
  have dBR := h.dj iB iR _ rB rR nBR hoB rfl hrB hrR
  obtain ⟨okF, _⟩ := h.ob iF _ rF hoF hrF
  obtain ⟨okB, _⟩ := h.ob iB _ rB hoB hrB
  have hs := h.kp.size
  have hs1 := r1.kp.size
  unfold QSig.res at hres
  split at hres
  · rename_i eF' b' ho1
    split at hres
    · rename_i eB' m ho2
      split at hres
      · rename_i eR' t' l' hom
        split at hres
        · rename_i hc
          obtain ⟨⟨rfl, rfl, rfl⟩, ht⟩ := hc
          subst ht
          injection hres with hres
          injection hres with hb hl
          subst hb
          have hl : l' = l := hl
          subst hl
          obtain ⟨c1, hc1, hc1v, hc1b⟩ := r1.ov 0 (rF.v, rF.blk) rfl
          obtain ⟨c2, hc2, hc2v, hc2b⟩ := r1.ov 1 (rB.v, rB.blk) rfl
          obtain ⟨cm, hcm⟩ := r1.some_rec hom
          obtain ⟨_, vs1, g1, g2, g3⟩ := r1.ob 1 _ c1 ho1 hc1
          obtain ⟨_, vs2, k1, k2, k3⟩ := r1.ob 2 _ c2 ho2 hc2
          have hrow : RowRep (Rep q.t) q.t.sz q.eR w' cm.ok l' cm.v := r1.ob m _ cm hom hcm
          have hcmok : ∀ k, cm.ok k → rR.ok k ∨ w.heap.size ≤ k := fun k hk => r1.fr m _ _ _ cm hom hcm k hk
          rw [show c1.blk = rF.blk from hc1b] at g1
          rw [show c2.blk = rB.blk from hc2b] at k1
          have h1 := ((h.die iF).die iB).die iR
          have hdis : ∀ (j : Nat) r, (offAt (offAt (offAt μ iF) iB) iR)[j]? = some r → ∀ k, r.ok k → ¬ rF.ok k ∧ ¬ rB.ok k ∧ ¬ rR.ok k ∧ k < w.heap.size := by
            intro j r hr k hk
            obtain ⟨r2, e2, _, _, f2⟩ := Z2d hr
            rcases f2 with ⟨_, f2⟩ | ⟨n2, rfl⟩
            · exact absurd hk (f2 k)
            obtain ⟨r3, e3, _, _, f3⟩ := Z2d e2
            rcases f3 with ⟨_, f3⟩ | ⟨n3, rfl⟩
            · exact absurd hk (f3 k)
            obtain ⟨r4, e4, _, _, f4⟩ := Z2d e3
            rcases f4 with ⟨_, f4⟩ | ⟨n4, rfl⟩
            · exact absurd hk (f4 k)
            exact ⟨fun h2 => h.dj iF j _ rF r (Ne.symm n4) hoF rfl hrF e4 k h2 hk, fun h2 => h.dj iB j _ rB r (Ne.symm n3) hoB rfl hrB e4 k h2 hk, fun h2 => h.dj iR j _ rR r (Ne.symm n2) hoR rfl hrR e4 k h2 hk, h.lt j r e4 k hk⟩
          have h2 := h1.world r1.kp (fun j r hr k hk hk2 => by
            have hd := hdis j r hr k hk
            rcases hk2 with hk2 | hk2 | hk2
            · exact hd.1 hk2
            · exact hd.2.1 hk2
            · exact hd.2.2.1 hk2) (fun k hk => by
            rcases hk with hk | hk | hk
            · exact h.wr iF _ rF hoF hrF rfl k hk
            · exact h.wr iB _ rB hoB hrB rfl k hk
            · exact h.wr iR _ rR hoR hrR rfl k hk)
          have eF : (offAt (offAt (offAt μ iF) iB) iR)[iF]? = some rF.off := by
            rw [Z3O (Ne.symm nFR), Z3O (Ne.symm nFB), Z5K, hrF]; rfl
          have eB : (offAt (offAt (offAt μ iF) iB) iR)[iB]? = some rB.off := by
            rw [Z3O (Ne.symm nBR), Z5K, Z3O nFB, hrB]; rfl
          have lF := (List.getElem?_eq_some_iff.1 hoF).1
          have lB := (List.getElem?_eq_some_iff.1 hoB).1
          have hlen1 : (((st.die iF).die iB).die iR).objs.length = st.objs.length := by simp [St.die]
          have h3 := h2.revive (i := iF) (o' := .box q.eF [.bool b']) (r' := rF) eF rfl rfl (by rw [hlen1]; exact lF) (fun μ' _ _ => ⟨okF, vs1, g1, ⟨g2.1, fun j x v hx hv => by
              have := g2.2 j x v hx hv
              match j, hx with
              | 0, hx => injection hx with hx; subst hx; exact this
              | j + 1, hx => simp at hx⟩, g3⟩) (fun j r _ hr k hk hk2 => (hdis j r hr k hk2).1 hk) (fun k hk => h.wr iF _ rF hoF hrF rfl k hk) (fun _ _ _ he => by cases he) (fun k hk => by have := h.lt iF rF hrF k hk; omega)
          have eF3 : ∀ (j : Nat) r, ((offAt (offAt (offAt μ iF) iB) iR).set iF rF)[j]? = some r → (j = iF ∧ r = rF) ∨ ∀ k, r.ok k → ¬ rF.ok k ∧ ¬ rB.ok k ∧ ¬ rR.ok k ∧ k < w.heap.size := by
            intro j r hr
            rw [List.getElem?_set] at hr
            split at hr
            · rename_i hj
              split at hr
              · injection hr with hr
                exact .inl ⟨hj.symm, hr.symm⟩
              · cases hr
            · exact .inr (hdis j r hr)
          have hno : ∀ (j : Nat) r, ((offAt (offAt (offAt μ iF) iB) iR).set iF rF)[j]? = some r → ∀ k, cm.ok k → ¬ r.ok k := by
            intro j r hr k hk hk2
            rcases eF3 j r hr with ⟨_, rfl⟩ | hd
            · rcases hcmok k hk with h5 | h5
              · exact dFR k hk2 h5
              · have := h.lt iF r hrF k hk2; omega
            · have hd := hd k hk2
              rcases hcmok k hk with h5 | h5
              · exact hd.2.2.1 h5
              · have := hd.2.2.2; omega
          have h4 := h3.push (o := .row true q.eR q.t l') (r := ⟨cm.v, 0, cm.ok⟩) hrow (fun _ j r hr k hk => hno j r hr k hk) (fun j o r _ _ hr k hk hk2 => hno j r hr k hk2 hk)
            (fun _ k hk => by
              rcases hcmok k hk with h5 | h5
              · exact h.wr iR _ rR hoR hrR rfl k h5
              · right; omega) (fun _ _ _ _ k hk => by
              rcases hcmok k hk with h5 | h5
              · exact h.fr iR _ _ _ rR hoR hrR k h5
              · right; omega) (fun k hk => r1.lt m cm hcm k hk)
          have hl3 : ((offAt (offAt (offAt μ iF) iB) iR).set iF rF).length = st.objs.length := by simp [offAt, h.len]
          have eB4 : (((offAt (offAt (offAt μ iF) iB) iR).set iF rF) ++ [⟨cm.v, 0, cm.ok⟩])[iB]? = some rB.off := by
            rw [List.getElem?_append_left (by rw [hl3]; exact lB), List.getElem?_set_ne nFB]
            exact eB
          have h5 := h4.revive (i := iB) (o' := .box q.eB [.sl st.objs.length]) (r' := rB) eB4 rfl rfl (by simp [St.die, St.kill]; omega) (fun μ' hμ' _ => ⟨okB, vs2, k1, ⟨k2.1, fun j x v hx hv => by
              match j, hx with
              | 0, hx =>
                injection hx with hx; subst hx
                obtain ⟨r, hr, hv2, hrest⟩ := k2.2 0 _ v rfl hv
                rw [hcm] at hr
                injection hr with hr
                subst hr
                refine ⟨⟨cm.v, 0, cm.ok⟩, ?_, hv2, hrest⟩
                rw [hμ' _ (by omega), ← hl3]
                exact Z8u _ _
              | j + 1, hx => simp at hx⟩, k3⟩) (fun j r hj hr k hk hk2 => by
                rw [List.getElem?_append] at hr
                split at hr
                · rcases eF3 j r hr with ⟨_, rfl⟩ | hd
                  · exact dFB k hk2 hk
                  · exact (hd k hk2).2.1 hk
                · have hin := List.mem_of_getElem? hr
                  obtain rfl := List.mem_singleton.1 hin
                  rcases hcmok k hk2 with h6 | h6
                  · exact dBR k hk h6
                  · have := h.lt iB rB hrB k hk; omega) (fun k hk => h.wr iB _ rB hoB hrB rfl k hk) (fun _ _ _ he => by cases he) (fun k hk => by have := h.lt iB rB hrB k hk; omega)
          exact ⟨_, h5.put dst (x := .tup []) (v := .tuple #[]) ⟨[], rfl, rfl, fun j x u hx => by simp at hx⟩⟩
        · cases hres
      · cases hres
    · cases hres
  · cases hres
end
structure QDef where
 q : QSig
 R : Type
 f : Nat → q.In → Option R
 dsp : {γ : Type} → R → (Bool → List q.t.D → Option γ) → Option γ
 ret : Bool × List q.t.D → Option R
 hret : ∀ {γ : Type} (b : Bool × List q.t.D) (z : R) (K : Bool → List q.t.D → Option γ), ret b = some z → dsp z K = K b.1 b.2
def QDef.of (q : QSig) (f : Nat → q.In → Option (Bool × List q.t.D)) : QDef where
 q := q
 R := Bool × List q.t.D
 f := f
 dsp := fun z K => K z.1 z.2
 ret := some
 hret := fun b z K hb => by injection hb with hb; rw [hb]
def QDef.E (D : QDef) : CloE where
 act := fun k st dst xs K => match D.q.read st xs with
  | some (x, (iF, iB, iR)) => match D.f k x with
   | some z => D.dsp z fun b l => K (D.q.back st iF iB iR dst b l)
   | none => none
  | none => none
noncomputable def fnKQ (D : QDef) (X : Ctx (Bool × List D.q.t.D)) (body : Code) (k : Nat) (x : D.q.In) : Option D.R :=
 exec X k body (D.q.init X.n x) (endK X D.ret) (fun _ _ => none) D.ret
section
variable {P : Program}
theorem QDef.zero {D : QDef} {f : FuncId} (he : ∀ vs w, (callFunc f vs).run P w = .ok (.enter f vs) w) (h0 : ∀ x, D.f 0 x = none) : ClSound P 0 f D.E :=
 ⟨he, fun dst xs vs h hl hT hk => by
  simp only [QDef.E] at hk
  split at hk
  ·split at hk
   ·rename_i z hz
    exact nomatch (h0 _).symm.trans hz
   ·cases hk
  ·cases hk⟩
theorem ZJ0 {D : QDef} {X : Ctx (Bool × List D.q.t.D)} {f : FuncId} {fn : Func} {body : Code} {k : Nat} (hps : ∀ x, objsK D.q.ps x = []) (hX : X.res = D.q.res) (hXno : X.no = 2) (hXn : X.n = fn.ntmps) (hf : P.funcs[f]? = some fn) (hb : fn.body = some body) (hrs : fn.results = #[])
    (hn : (fn.name == "runtime.NumGoroutine") = false) (hT : TTok P X.T) (hG : EnvOK P k X.G) (hL : LOK P X k body) (hs : ∀ x, D.f (k + 1) x = fnKQ D X body k x) : ClSound P (k + 1) f D.E := by
  refine ⟨Zga hf hn (by rw [hb]; rfl), fun {γ K r w w0 S0 st μ a} dst xs vs h hl hTr hk => ?_⟩
  simp only [QDef.E] at hk
  split at hk
  · rename_i x iF iB iR hx
    split at hk
    · rename_i z hz
      obtain ⟨rF, rB, rR, ⟨hoF, hoB, hoR⟩, ⟨hrF, hrB, hrR⟩, μ', h'⟩ := QSig.read_sound (n := X.n) hps h hl hTr hx
      have hz := (hs x).symm.trans hz
      rw [hXn] at h'
      have hz2 : exec X k body (D.q.init fn.ntmps x) (endK X D.ret) (fun _ _ => none) D.ret = some z := by rw [← hXn]; exact hz
      refine calls_of_wp hf hb (Code.wp_mono (fun e a' w' hq => ?_) (Zaz (S0 := qOwn rF rB rR) hT hG (by rw [hXno]; rfl) hL h' hz2))
      have fin : ∀ (st1 : St) (μ1 : List ORec) (b : Bool × List D.q.t.D), Rel w (qOwn rF rB rR) st1 μ1 a' w' → X.res st1 = some b → D.ret b = some z → ∃ v, (results fn a'.tmps).run P w' = .ok v w' ∧ ∃ st' μ', Rel w0 S0 st' μ' (a.put dst v) w' ∧ K st' = some r := by
        intro st1 μ1 b r1 hb2 hmk
        rw [hX] at hb2
        obtain ⟨μ2, r2⟩ := QSig.back_sound h hoF hoB hoR hrF hrB hrR r1 (b := b.1) (l := b.2) hb2 dst
        have hkk := (D.hret _ z (fun b l => K (D.q.back st iF iB iR dst b l)) hmk).symm.trans hk
        refine ⟨.tuple #[], ?_, _, μ2, r2, hkk⟩
        exact ZoQ (us := []) (by rw [hrs]; rfl)
      cases e with
      | normal =>
        obtain ⟨st1, μ1, r1, hr1⟩ := hq
        unfold endK at hr1
        split at hr1
        · rename_i b hb2
          obtain ⟨v, g1, g2⟩ := fin st1 μ1 b r1 hb2 hr1
          exact ⟨r1.df, v, g1, g2⟩
        · cases hr1
      | ret =>
        obtain ⟨st1, μ1, b, r1, hb2, hr1⟩ := hq
        obtain ⟨v, g1, g2⟩ := fin st1 μ1 b r1 hb2 hr1
        exact ⟨r1.df, v, g1, g2⟩
      | exit id => obtain ⟨st1, μ1, r1, hr1⟩ := hq; cases hr1
      | goto l => exact False.elim hq
      | panic ch => exact False.elim hq
      | outgrown => exact False.elim hq
    · cases hk
  · cases hk
theorem ZHj {B : Type} {X : Ctx B} {D : LoopDef B} {id : Nat} {body : Code} (hT : TTok P X.T) (k : Nat) (hG : ∀ j, j ≤ k → EnvOK P j X.G) (h0 : ∀ x, D.lp 0 x = none) (hs : ∀ k x, D.lp (k + 1) x = loopK X D id body k x) (hL : ∀ j, j ≤ k → LOK P X j body) : EOK P X k D.E (.block id (.loop body)) := by
 intro γ KN KB r x w0 S0 μ a w hno h hr
 simp only [LoopDef.E] at hr
 split at hr
 ·rename_i z hz
  refine wp_block (wp_loop_ghost (fun j a w => j ≤ k ∧ ∃ x μ, Rel w0 S0 (D.inp.st X.n x) μ a w ∧ D.lp j x = some z) k ⟨Nat.le_refl k, x, μ, h, hz⟩ fun j a w ⟨hjk, x, μ, h, hz⟩ => ?_)
  cases j with
  | zero => rw [h0] at hz; cases hz
  | succ j =>
   rw [hs] at hz
   refine Code.wp_mono (fun e a' w' hq => ?_) (Zaz hT (hG j (by omega)) hno (hL j (by omega)) h hz)
   cases e with
   | normal =>
    obtain ⟨st1, μ1, h1, hr1⟩ := hq
    unfold backK at hr1
    split at hr1
    ·rename_i x' hx'
     obtain ⟨μ', h2⟩ := Z9i hno h1 hx'
     exact ⟨j, Nat.lt_succ_self j, by omega, x', μ', h2, hr1⟩
    ·cases hr1
   | exit id' =>
    obtain ⟨st1, μ1, h1, hr1⟩ := hq
    show Exit.inBlock id _ (.exit id') a' w'
    unfold Exit.inBlock
    simp only at hr1 ⊢
    split at hr1
    ·rename_i hid
     rw [if_pos hid]
     unfold outK at hr1
     split at hr1
     ·rename_i y hy
      obtain ⟨μ', h2⟩ := Z9i hno h1 hy
      exact ⟨y, μ', h2, by rw [← D.hN y z KN KB hr1]; exact hr⟩
     ·cases hr1
    ·cases hr1
   | ret =>
    obtain ⟨st1, μ1, b, h1, hb, hr1⟩ := hq
    exact ⟨st1, μ1, b, h1, hb, by rw [← D.hB b z KN KB hr1]; exact hr⟩
   | goto l => exact hq
   | panic ch => exact hq
   | outgrown => exact hq
 ·cases hr
theorem ZHt {D : QDef} {X : Ctx (Bool × List D.q.t.D)} {f : FuncId} {fn : Func} {body : Code} {G : Env} (hps : ∀ x, objsK D.q.ps x = []) (hX : X.res = D.q.res) (hXG : X.G = (f, cloE D.E) :: G) (hXno : X.no = 2) (hXn : X.n = fn.ntmps) (hf : P.funcs[f]? = some fn) (hb : fn.body = some body) (hrs : fn.results = #[])
    (hn : (fn.name == "runtime.NumGoroutine") = false) (hT : TTok P X.T) (hG : ∀ k, EnvOK P k G) (hL : ∀ k, (∀ j, j ≤ k → EnvOK P j X.G) → LOK P X k body) (h0 : ∀ x, D.f 0 x = none) (hs : ∀ k x, D.f (k + 1) x = fnKQ D X body k x) : ∀ k j, j ≤ k → ClSound P j f D.E
  | 0, j, hj => by
    obtain rfl : j = 0 := by omega
    exact QDef.zero (Zga hf hn (by rw [hb]; rfl)) h0
  | k + 1, j, hj => by
    have ih := ZHt hps hX hXG hXno hXn hf hb hrs hn hT hG hL h0 hs k
    have hE : ∀ j, j ≤ k → EnvOK P j X.G := fun j hj => by rw [hXG]; exact EnvOK.consC (ih j hj) (hG j)
    rcases Nat.lt_or_ge k j with hlt | hge
    · obtain rfl : j = k + 1 := by omega
      exact ZJ0 hps hX hXno hXn hf hb hrs hn hT (hE k (Nat.le_refl k)) (hL k hE) (hs k)
    · exact ih j hge
end
end
set_option maxRecDepth 100000
set_option maxHeartbeats 2000000
section
noncomputable section
noncomputable def rKT : List PK := [PK.mk .bool false none false none]
noncomputable def toKT (r : Bool) : Tup rKT × OutD := ((r, ()), none)
noncomputable def ofKT : Tup rKT × OutD → Option (Bool)
 | (a, none) => some (a.1)
 | _ => none
theorem ZJb : ∀ b r, ofKT b = some r → toKT r = b := by
 rintro ⟨a, _ | _⟩ r h <;> cases h; rfl
noncomputable def qKT : List KP := [.tree false (Ty.slice 3 (Ty.int .i64)), .cp (Ty.slice 69 (.slice 71 (.slice 94 (.pair (.int Go.IntKind.i64) (.pair (.int Go.IntKind.i64) (.int Go.IntKind.i64)))))), .cp (Ty.int .i64)]
noncomputable def fKT : Nat → List Int → List (List (List (Int × Int × Int))) → Int → Option Bool
 | 0, _, _, _ => none
 | k + 1, p0, e, a => Option.bind (Z20 k e p0) fun z0 => some (decide ((↑(List.length z0) : Int) = a))
noncomputable def dKT : KDef := .of qKT rKT Bool (fun k x => fKT k x.1 x.2.1 x.2.2.1) toKT ofKT ZJb
noncomputable def cKT : Code := Try.f46.body.getD .skip
noncomputable def xKT : Ctx (Tup rKT × OutD) := { T := T, G := [(43, Z1p.E)], no := 0, n := 11, res := resOf T [] rKT Try.f46.results.toList }
theorem gKT (k : Nat) : EnvOK Try.prog k xKT.G := (EnvOK.cons (Zcu k) (EnvOK.nil mixed))
theorem hKT (k : Nat) (x : KTup dKT.ps) : dKT.f (k + 1) x = fnKK dKT xKT cKT k x := by kernel_rfl
theorem zKT (x : KTup dKT.ps) : dKT.f 0 x = none := by kernel_rfl
theorem lKT (k : Nat) : LOK Try.prog xKT k cKT := LOK.by [] (by kernel_rfl) AllOK.nil
theorem sKT (k : Nat) : ClSound Try.prog k 46 dKT.E := @ZBM Try.prog dKT xKT 46 Try.f46 cKT (by kernel_rfl) (by kernel_rfl) (by kernel_rfl) Try.func46 (by kernel_rfl) (by kernel_rfl) T_ok gKT lKT zKT hKT k
noncomputable def qXT : QSig := { ps := [.tree false (Ty.slice 3 (Ty.int .i64)), .tree false (Ty.int .i64), .tree false (Ty.int .i64)], fe := 46, ts := [(Ty.slice 69 (.slice 71 (.slice 94 (.pair (.int Go.IntKind.i64) (.pair (.int Go.IntKind.i64) (.int Go.IntKind.i64)))))), (Ty.int .i64)], fs := 66, eF := 4, eB := 28, eR := 3, t := (Ty.int .i64) }
noncomputable def FXT : Nat → (List Int → Int → Int → List (List (List (Int × Int × Int))) → Int → Int → Int → Bool → List Int → Option (Bool × List Int)) × (List (List (List (Int × Int × Int))) → Int → Int → List Int → Int → Int → Int → Bool → List Int → Option (Bool × List Int))
  | 0 => (fun _ _ _ _ _ _ _ _ _ => none, fun _ _ _ _ _ _ _ _ _ => none)
  | k + 1 => (fun l fr lf e a n n2 fd b =>
      if fd = true then some (fd, b)
      else if decide (lf = (0 : Int)) = true then
        Option.bind (fKT k l e a) fun z0 => if z0 = true then (if List.length ([] : List Int) + List.length l ≤ (140737488355328 / 8 : Nat) then some (true, [] ++ l) else none) else some (fd, b)
      else Option.bind ((FXT k).2 e a n2 l lf n fr fd b) fun z0 => some z0,
    fun e a n2 l lf n i fd b =>
      if decide (wrap64 (i + lf) ≤ n) = true then
        Option.bind (if List.length ([] : List Int) + List.length l ≤ (140737488355328 / 8 : Nat) then
          if List.length ([] ++ l) + List.length [i] ≤ (140737488355328 / 8 : Nat) then
            Option.bind ((FXT k).1 ([] ++ l ++ [i]) (wrap64 (i + 1)) (wrap64 (lf - 1)) e a n2 n2 fd b) fun z0 => some (z0.1, z0.2, e, a, n2, l, lf, n, i)
          else none
        else none) fun z => (FXT k).2 z.2.2.1 z.2.2.2.1 z.2.2.2.2.1 z.2.2.2.2.2.1 z.2.2.2.2.2.2.1 z.2.2.2.2.2.2.2.1 (wrap64 (z.2.2.2.2.2.2.2.2 + 1)) z.1 z.2.1
      else some (fd, b))
noncomputable def dXT : QDef := .of qXT (fun k x => (FXT k).1 x.1.1 x.1.2.1 x.1.2.2.1 x.2.1.1 x.2.1.2.1 x.2.2.1 x.2.2.2.1 x.2.2.2.2.1 x.2.2.2.2.2)
noncomputable def cXT : Code := Try.f66.body.getD .skip
noncomputable def iXT : Spec := Spec.mk [.ro, On, Om, O3, Oe, Oi] [(0, .at (.snap 0 I6)), (2, .at (.int .i64)), (6, .at (.es 0 I6)), (7, .at (.pc 0 5)), (11, .at (.int .i64))]
noncomputable def oXT : Spec := Spec.mk [.ro, On, Om, O3] []
noncomputable def LXT : LoopDef (Bool × List Int) := .plain iXT oXT (Bool × List Int) (fun k x => (FXT k).2 x.1.2.2.2.2.1.1 x.1.2.2.2.2.1.2.1 x.1.2.2.2.2.2.1.2.2.2.1 x.2.1 x.2.2.1 x.2.2.2.1 x.2.2.2.2.2.1 x.1.2.1.1 x.1.2.2.2.1) (fun z => (((), (z.1, ()), ((), ()), z.2, ()), ())) (fun y => (y.1.2.1.1, y.1.2.2.2.1)) (fun _ => rfl)
noncomputable def GXT (k : Nat) (e : List (List (List (Int × Int × Int)))) (a : Int) (n2 : Int) (l : List Int) (lf n i : Int) (fd : Bool) (b : List Int) : Option (Bool × List Int × List (List (List (Int × Int × Int))) × Int × Int × List Int × Int × Int × Int) := if List.length ([] : List Int) + List.length l ≤ (140737488355328 / 8 : Nat) then if List.length ([] ++ l) + List.length [i] ≤ (140737488355328 / 8 : Nat) then Option.bind ((FXT k).1 ([] ++ l ++ [i]) (wrap64 (i + 1)) (wrap64 (lf - 1)) e a n2 n2 fd b) fun z0 => some (z0.1, z0.2, e, a, n2, l, lf, n, i) else none else none
noncomputable def AXT (k : Nat) (e : List (List (List (Int × Int × Int)))) (a : Int) (n2 : Int) (l : List Int) (lf n i : Int) (fd : Bool) (b : List Int) : Option (List (Bool × List Int × List (List (List (Int × Int × Int))) × Int × Int × List Int × Int × Int × Int)) := (joinL (joinL (joinL (if List.length ([] : List Int) + List.length l ≤ (140737488355328 / 8 : Nat) then (if List.length ([] ++ l) + List.length [i] ≤ (140737488355328 / 8 : Nat) then (Option.bind ((FXT k).1 ([] ++ l ++ [i]) (wrap64 (i + 1)) (wrap64 (lf - 1)) e a n2 n2 fd b) fun z0 => some [(z0.1, z0.2, e, a, n2, l, lf, n, i)]) else none) else none) (if List.length ([] : List Int) + List.length l ≤ (140737488355328 / 8 : Nat) then (if List.length ([] ++ l) + List.length [i] ≤ (140737488355328 / 8 : Nat) then (Option.bind ((FXT k).1 ([] ++ l ++ [i]) (wrap64 (i + 1)) (wrap64 (lf - 1)) e a n2 n2 fd b) fun z0 => some [(z0.1, z0.2, e, a, n2, l, lf, n, i)]) else none) else none)) (if List.length ([] : List Int) + List.length l ≤ (140737488355328 / 8 : Nat) then (if List.length ([] ++ l) + List.length [i] ≤ (140737488355328 / 8 : Nat) then (Option.bind ((FXT k).1 ([] ++ l ++ [i]) (wrap64 (i + 1)) (wrap64 (lf - 1)) e a n2 n2 fd b) fun z0 => some [(z0.1, z0.2, e, a, n2, l, lf, n, i)]) else none) else none)) (joinL (joinL (joinL (if List.length ([] : List Int) + List.length l ≤ (140737488355328 / 8 : Nat) then (if List.length ([] ++ l) + List.length [i] ≤ (140737488355328 / 8 : Nat) then (Option.bind ((FXT k).1 ([] ++ l ++ [i]) (wrap64 (i + 1)) (wrap64 (lf - 1)) e a n2 n2 fd b) fun z0 => some [(z0.1, z0.2, e, a, n2, l, lf, n, i)]) else none) else none) (if List.length ([] : List Int) + List.length l ≤ (140737488355328 / 8 : Nat) then (if List.length ([] ++ l) + List.length [i] ≤ (140737488355328 / 8 : Nat) then (Option.bind ((FXT k).1 ([] ++ l ++ [i]) (wrap64 (i + 1)) (wrap64 (lf - 1)) e a n2 n2 fd b) fun z0 => some [(z0.1, z0.2, e, a, n2, l, lf, n, i)]) else none) else none)) (joinL (if List.length ([] : List Int) + List.length l ≤ (140737488355328 / 8 : Nat) then (joinL (if List.length ([] ++ l) + List.length [i] ≤ (140737488355328 / 8 : Nat) then (Option.bind ((FXT k).1 ([] ++ l ++ [i]) (wrap64 (i + 1)) (wrap64 (lf - 1)) e a n2 n2 fd b) fun z0 => some [(z0.1, z0.2, e, a, n2, l, lf, n, i)]) else none) (joinL (if List.length ([] ++ l) + List.length [i] ≤ (140737488355328 / 8 : Nat) then (Option.bind ((FXT k).1 ([] ++ l ++ [i]) (wrap64 (i + 1)) (wrap64 (lf - 1)) e a n2 n2 fd b) fun z0 => some [(z0.1, z0.2, e, a, n2, l, lf, n, i)]) else none) (if List.length ([] ++ l) + List.length [i] ≤ (140737488355328 / 8 : Nat) then (Option.bind ((FXT k).1 ([] ++ l ++ [i]) (wrap64 (i + 1)) (wrap64 (lf - 1)) e a n2 n2 fd b) fun z0 => some [(z0.1, z0.2, e, a, n2, l, lf, n, i)]) else none))) else none) (joinL (if List.length ([] : List Int) + List.length l ≤ (140737488355328 / 8 : Nat) then (if List.length ([] ++ l) + List.length [i] ≤ (140737488355328 / 8 : Nat) then (Option.bind ((FXT k).1 ([] ++ l ++ [i]) (wrap64 (i + 1)) (wrap64 (lf - 1)) e a n2 n2 fd b) fun z0 => some [(z0.1, z0.2, e, a, n2, l, lf, n, i)]) else none) else none) (if List.length ([] : List Int) + List.length l ≤ (140737488355328 / 8 : Nat) then (joinL (if List.length ([] ++ l) + List.length [i] ≤ (140737488355328 / 8 : Nat) then (Option.bind ((FXT k).1 ([] ++ l ++ [i]) (wrap64 (i + 1)) (wrap64 (lf - 1)) e a n2 n2 fd b) fun z0 => some [(z0.1, z0.2, e, a, n2, l, lf, n, i)]) else none) (if List.length ([] ++ l) + List.length [i] ≤ (140737488355328 / 8 : Nat) then (Option.bind ((FXT k).1 ([] ++ l ++ [i]) (wrap64 (i + 1)) (wrap64 (lf - 1)) e a n2 n2 fd b) fun z0 => some [(z0.1, z0.2, e, a, n2, l, lf, n, i)]) else none)) else none)))) (joinL (if List.length ([] : List Int) + List.length l ≤ (140737488355328 / 8 : Nat) then (if List.length ([] ++ l) + List.length [i] ≤ (140737488355328 / 8 : Nat) then (Option.bind ((FXT k).1 ([] ++ l ++ [i]) (wrap64 (i + 1)) (wrap64 (lf - 1)) e a n2 n2 fd b) fun z0 => some [(z0.1, z0.2, e, a, n2, l, lf, n, i)]) else none) else none) (joinL (if List.length ([] : List Int) + List.length l ≤ (140737488355328 / 8 : Nat) then (if List.length ([] ++ l) + List.length [i] ≤ (140737488355328 / 8 : Nat) then (Option.bind ((FXT k).1 ([] ++ l ++ [i]) (wrap64 (i + 1)) (wrap64 (lf - 1)) e a n2 n2 fd b) fun z0 => some [(z0.1, z0.2, e, a, n2, l, lf, n, i)]) else none) else none) (if List.length ([] : List Int) + List.length l ≤ (140737488355328 / 8 : Nat) then (joinL (if List.length ([] ++ l) + List.length [i] ≤ (140737488355328 / 8 : Nat) then (Option.bind ((FXT k).1 ([] ++ l ++ [i]) (wrap64 (i + 1)) (wrap64 (lf - 1)) e a n2 n2 fd b) fun z0 => some [(z0.1, z0.2, e, a, n2, l, lf, n, i)]) else none) (if List.length ([] ++ l) + List.length [i] ≤ (140737488355328 / 8 : Nat) then (Option.bind ((FXT k).1 ([] ++ l ++ [i]) (wrap64 (i + 1)) (wrap64 (lf - 1)) e a n2 n2 fd b) fun z0 => some [(z0.1, z0.2, e, a, n2, l, lf, n, i)]) else none)) else none)))))
noncomputable def DXT : LoopDef (Bool × List Int) := .plain iXT iXT (Bool × List Int × List (List (List (Int × Int × Int))) × Int × Int × List Int × Int × Int × Int) (fun k x => GXT k x.1.2.2.2.2.1.1 x.1.2.2.2.2.1.2.1 x.1.2.2.2.2.2.1.2.2.2.1 x.2.1 x.2.2.1 x.2.2.2.1 x.2.2.2.2.2.1 x.1.2.1.1 x.1.2.2.2.1) (fun z => (((), (z.1, ()), ((), ()), z.2.1, (z.2.2.1, z.2.2.2.1, ()), ((), (), (), z.2.2.2.2.1, (), ()), ()), (z.2.2.2.2.2.1, z.2.2.2.2.2.2.1, z.2.2.2.2.2.2.2.1, (), z.2.2.2.2.2.2.2.2, ()))) (fun y => (y.1.2.1.1, y.1.2.2.2.1, y.1.2.2.2.2.1.1, y.1.2.2.2.2.1.2.1, y.1.2.2.2.2.2.1.2.2.2.1, y.2.1, y.2.2.1, y.2.2.2.1, y.2.2.2.2.2.1)) (fun _ => rfl)
theorem jXT (k : Nat) (e : List (List (List (Int × Int × Int)))) (a : Int) (n2 : Int) (l : List Int) (lf n i : Int) (fd : Bool) (b : List Int) : AXT k e a n2 l lf n i fd b = repl 15 (GXT k e a n2 l lf n i fd b) := by
 simp only [AXT, GXT, Zy, ZV, Zz, ZA, Zx, Z9, if_true]
noncomputable def OXT : Array Oper := (findReg 7 cXT).getD #[]
noncomputable def BXT : Code := (findLoop 0 cXT).getD .skip
noncomputable def xXT : Ctx (Bool × List Int) := { T := T, G := [(66, cloE dXT.E), (46, cloE dKT.E)], no := 2, n := 41, res := qXT.res, loops := [(0, LXT.E)], regs := [(7, DXT.E)] }
theorem eXT (k : Nat) (x : iXT.D) : execD xXT.T xXT.G xXT.mvs k OXT (DXT.inp.st xXT.n x) (outK xXT DXT) = AXT k x.1.2.2.2.2.1.1 x.1.2.2.2.2.1.2.1 x.1.2.2.2.2.2.1.2.2.2.1 x.2.1 x.2.2.1 x.2.2.2.1 x.2.2.2.2.2.1 x.1.2.1.1 x.1.2.2.2.1 := by kernel_rfl
theorem gXT (k : Nat) : EnvOK Try.prog k [(46, cloE dKT.E)] := .consC (sKT k) (.nil mixed)
theorem aXT (k : Nat) (x : iXT.D) : LXT.lp (k + 1) x = loopK xXT LXT 0 BXT k x := by kernel_rfl
theorem bXT (k : Nat) (hG : EnvOK Try.prog k xXT.G) : LOK Try.prog xXT k BXT := LOK.by [(DXT.E, .region 7 OXT true)] (by kernel_rfl) (AllOK.cons (Z8y (D := DXT) (m := 15) T_ok hG (fun x => (eXT k x).trans (jXT k x.1.2.2.2.2.1.1 x.1.2.2.2.2.1.2.1 x.1.2.2.2.2.2.1.2.2.2.1 x.2.1 x.2.2.1 x.2.2.2.1 x.2.2.2.2.2.1 x.1.2.1.1 x.1.2.2.2.1))) AllOK.nil)
theorem yXT (x : iXT.D) : LXT.lp 0 x = none := by kernel_rfl
theorem hXT (k : Nat) (x : qXT.In) : dXT.f (k + 1) x = fnKQ dXT xXT cXT k x := by kernel_rfl
theorem zXT (x : qXT.In) : dXT.f 0 x = none := by kernel_rfl
theorem lXT (k : Nat) (hG : ∀ j, j ≤ k → EnvOK Try.prog j xXT.G) : LOK Try.prog xXT k cXT := LOK.by [(LXT.E, .block 0 (.loop BXT))] (by kernel_rfl) (AllOK.cons (ZHj T_ok k hG yXT aXT (fun j hj => bXT j (hG j hj))) AllOK.nil)
theorem sXT (k : Nat) : ClSound Try.prog k 66 dXT.E := @ZHt Try.prog dXT xXT 66 Try.f66 cXT [(46, cloE dKT.E)] (fun _ => rfl) (by kernel_rfl) (by kernel_rfl) (by kernel_rfl) (by kernel_rfl) Try.func66 (by kernel_rfl) (by kernel_rfl) (by kernel_rfl) T_ok gXT lXT zXT hXT k k (Nat.le_refl k)
noncomputable def rYT : List PK := [PK.mk (.slice 3 I6) false none false none]
noncomputable def toYT (r : List Int) : Tup rYT × OutD := ((r, ()), none)
noncomputable def ofYT : Tup rYT × OutD → Option (List Int)
 | (a, none) => some (a.1)
 | _ => none
theorem ZJ3 : ∀ b r, ofYT b = some r → toYT r = b := by
 rintro ⟨a, _ | _⟩ r h <;> cases h; rfl
noncomputable def qYT : List KP := [.tree false (Ty.int .i64), .fn 46 [(Ty.slice 69 (.slice 71 (.slice 94 (.pair (.int Go.IntKind.i64) (.pair (.int Go.IntKind.i64) (.int Go.IntKind.i64)))))), (Ty.int .i64)]]
noncomputable def Zsp : Nat → Int → List Int → Bool → List (List (List (Int × Int × Int))) → Int → Int → Option (List Int)
 | 0, _, _, _, _, _, _ => none
 | k + 1, n, b, fd, e, a, i =>
  if decide (i ≤ n) = true then if (!fd) = true then Option.bind ((FXT k).1 [] (0 : Int) i e a n n fd b) fun z0 => Zsp k n z0.2 z0.1 e a (wrap64 (i + 1)) else some b else some b
noncomputable def fYT : Nat → Int → List (List (List (Int × Int × Int))) → Int → Option (List Int)
 | 0, _, _, _ => none
 | k + 1, n, e, a => Option.bind (Zsp k n [] false e a (0 : Int)) fun z0 => some z0
noncomputable def dYT : KDef := .of qYT rYT (List Int) (fun k x => fYT k x.1 x.2.1.1 x.2.1.2.1) toYT ofYT ZJ3
noncomputable def cYT : Code := Try.f45.body.getD .skip
noncomputable def iYT : Spec := Spec.mk [.ro, Oq, Om, O3, On, .box 83 [.cv 6], Oh, .box 63 [.cv 8], Oe] [(2, .at (.ptr 1 0)), (5, .at (.ptr 2 0)), (6, .at (.ptr 4 0)), (7, .at (.ptr 5 0)), (8, .at (.int .i64))]
noncomputable def oYT : Spec := Spec.mk [.ro, .box 28 [.sl 2], O3] [(5, .at (.ptr 1 0))]
noncomputable def LYT : LoopDef (Tup rYT × OutD) := .plain iYT oYT (List Int) (fun k x => Zsp k x.1.2.1.1 x.1.2.2.2.1 x.1.2.2.2.2.1.1 x.1.2.2.2.2.2.2.2.2.1.1 x.1.2.2.2.2.2.2.2.2.1.2.1 x.2.2.2.2.2.1) (fun z => (((), ((), ()), z, ()), ((), ()))) (fun y => y.1.2.2.1) (fun _ => rfl)
noncomputable def BYT : Code := (findLoop 0 cYT).getD .skip
noncomputable def xYT : Ctx (Tup rYT × OutD) := { T := T, G := [(66, cloE dXT.E)], no := 0, n := 24, res := resOf T [] rYT Try.f45.results.toList, loops := [(0, LYT.E)] }
theorem gYT (k : Nat) : EnvOK Try.prog k xYT.G := .consC (sXT k) (.nil mixed)
theorem aYT (k : Nat) (x : iYT.D) : LYT.lp (k + 1) x = loopK xYT LYT 0 BYT k x := by kernel_rfl
theorem bYT (k : Nat) : LOK Try.prog xYT k BYT := LOK.by [] (by kernel_rfl) AllOK.nil
theorem yYT (x : iYT.D) : LYT.lp 0 x = none := by kernel_rfl
theorem hYT (k : Nat) (x : KTup dYT.ps) : dYT.f (k + 1) x = fnKK dYT xYT cYT k x := by kernel_rfl
theorem zYT (x : KTup dYT.ps) : dYT.f 0 x = none := by kernel_rfl
theorem lYT (k : Nat) : LOK Try.prog xYT k cYT := LOK.by [(LYT.E, .block 0 (.loop BYT))] (by kernel_rfl) (AllOK.cons (Z4 T_ok gYT yYT aYT bYT k) AllOK.nil)
theorem sYT (k : Nat) : ClSound Try.prog k 45 dYT.E := @ZBM Try.prog dYT xYT 45 Try.f45 cYT (by kernel_rfl) (by kernel_rfl) (by kernel_rfl) Try.func45 (by kernel_rfl) (by kernel_rfl) T_ok gYT lYT zYT hYT k
end
end
section
noncomputable section
noncomputable def Z4A : List PK := [PK.mk (.slice 3 I6) false none false none, PK.mk .bool false none false none]
noncomputable def ZhJ : List PK := [PK.mk (.pair I6 (.pair I6 (.slice 73 P6))) true none false none, PK.mk (.slice 28 (.slice 3 I6)) false none false none]
noncomputable def ZgL (r : List Int × Bool) : Tup Z4A × OutD := ((r.1, r.2, ()), none)
noncomputable def Zha : Tup Z4A × OutD → Option (List Int × Bool)
 | (a, none) => some (a.1, a.2.1)
 | _ => none
theorem ZnD : ∀ b r, Zha b = some r → ZgL r = b := by
 rintro ⟨a, _ | _⟩ r h <;> cases h; rfl
noncomputable def Z4G : Nat → List (List (List (Int × Int × Int))) → List (List Int) → Option (List (List (List (Int × Int × Int))) × Int × List (List Int)) := fun k e p1 => Option.bind (Z1s k p1) fun z0 => Option.bind (Z20 k e z0) fun z1 => some (e, (↑(List.length z1) : Int), p1)
noncomputable def Za1 : Nat → List (List (List (Int × Int × Int))) → List (List Int) → Option (List (List (List (List (Int × Int × Int))) × Int × List (List Int))) := fun k e p1 => joinL (Option.bind (Z1s k p1) fun z0 => joinL (Option.bind (Z20 k e z0) fun z1 => some [(e, (↑(List.length z1) : Int), p1)]) (Option.bind (Z20 k e z0) fun z1 => some [(e, (↑(List.length z1) : Int), p1)])) (Option.bind (Z1s k p1) fun z0 => Option.bind (Z20 k e z0) fun z1 => some [(e, (↑(List.length z1) : Int), p1)])
noncomputable def Zew : Spec := Spec.mk [.ro, Oo, O9] [(1, .at (.snap 0 (.slice 3 I6))), (6, .at (.ptr 1 0))]
noncomputable def Zn2 : Spec := Spec.mk [.ro, Oo, O9, Oq] [(1, .at (.snap 0 (.slice 3 I6))), (6, .at (.ptr 1 0)), (7, .at (.ptr 3 0))]
noncomputable def Z2I : LoopDef (Tup Z4A × OutD) := .plain Zew Zn2 (List (List (List (Int × Int × Int))) × Int × List (List Int)) (fun k x => Z4G k x.1.2.2.1 x.2.1) (fun z => (((), ((), ()), z.1, (z.2.1, ()), ()), (z.2.2, (), (), ()))) (fun y => (y.1.2.2.1, y.1.2.2.2.1.1, y.2.1)) (fun _ => rfl)
theorem ZmS (k : Nat) (e : List (List (List (Int × Int × Int)))) (p1 : List (List Int)) : Za1 k e p1 = repl 3 (Z4G k e p1) := by
 simp only [Za1, Z4G, Zy, ZV, Zz, ZA, Zx, Z9, if_true]
noncomputable def Z9Y : Nat → Int × Int × List (Int × Int) → List (List Int) → Option (List Int × Bool)
 | 0, _, _ => none
 | k + 1, p0, p1 =>
  Option.bind (Z4l k (p0.1, p0.2.1, p0.2.2) p1) fun z0 => if (!z0) = true then some ([], false) else Option.bind (Z4n k (p0.1, p0.2.1, p0.2.2) p1) fun z1 => Option.bind (Z4G k z1 p1) fun z2 => Option.bind (fYT k (↑(List.length z2.2.2) : Int) z2.1 z2.2.1) fun z4 => some (z4, true)
noncomputable def Z27 : FnDef := .of ZhJ Z4A (List Int × Bool) (fun k x => Z9Y k x.1 x.2.1) ZgL Zha ZnD
noncomputable def Z9O : Code := Try.f11.body.getD .skip
noncomputable def Z1b : Ctx (Tup Z4A × OutD) := { T := T, G := [(41, Z1n.E), (42, Z1m.E), (44, Z1v.E), (43, Z1p.E), (45, cloE dYT.E)], mvs := [], no := 0, n := 24, res := resOf T ZhJ Z4A Try.f11.results.toList, loops := [], regs := [(4, Z2I.E)], conds := [], cuts := [] }
theorem ZhV (k : Nat) : EnvOK Try.prog k Z1b.G := (EnvOK.cons (ZaH k) (EnvOK.cons (ZaD k) (EnvOK.cons (Zct k) (EnvOK.cons (Zcu k) (EnvOK.consC (sYT k) (EnvOK.nil mixed))))))
noncomputable def Zad : Array Oper := (findReg 4 Z9O).getD #[]
theorem Zn5 (k : Nat) (x : Zew.D) : execD Z1b.T Z1b.G Z1b.mvs k Zad (Z2I.inp.st Z1b.n x) (outK Z1b Z2I) = Za1 k x.1.2.2.1 x.2.1 := by kernel_rfl
theorem Zmv (k : Nat) : EOK Try.prog Z1b k Z2I.E (.region 4 Zad true) := Z8y (D := Z2I) (m := 3) T_ok (ZhV k) (fun x => (Zn5 k x).trans (ZmS k x.1.2.2.1 x.2.1))
theorem Zu2 (k : Nat) (x : Tup Z27.ps) : Z27.f (k + 1) x = fnK Z27 Z1b Z9O k x := by kernel_rfl
theorem ZuU (x : Tup Z27.ps) : Z27.f 0 x = none := by kernel_rfl
theorem ZuP (k : Nat) : LOK Try.prog Z1b k Z9O := LOK.by [(Z2I.E, .region 4 Zad true)] (by kernel_rfl) (AllOK.cons (Zmv k) AllOK.nil)
theorem Zut (k : Nat) : SoundAt Try.prog k 11 Z27.E := @Z5 Try.prog Z27 Z1b 11 Try.f11 Z9O (by kernel_rfl) (by kernel_rfl) (by kernel_rfl) Try.func11 (by kernel_rfl) (by kernel_rfl) (by kernel_rfl) T_ok ZhV ZuP ZuU Zu2 k
end
end
section
noncomputable section
noncomputable def Z2W : List PK := [PK.mk .bool false none false none]
noncomputable def Zfi : List PK := [PK.mk (.slice 3 I6) false none false none, PK.mk (.slice 3 I6) false none false none]
noncomputable def Zab (r : Bool) : Tup Z2W × OutD := ((r, ()), none)
noncomputable def Za5 : Tup Z2W × OutD → Option (Bool)
 | (a, none) => some (a.1)
 | _ => none
theorem ZcO : ∀ b r, Za5 b = some r → Zab r = b := by
 rintro ⟨a, _ | _⟩ r h <;> cases h; rfl
noncomputable def Z2o : Nat → List Int → List Int → Int → Int → Option (LR Unit Bool)
 | 0, _, _, _, _ => none
 | k + 1, v0, v1, v12, v13 =>
  if decide (v13 < v12) = true then if (0 : Int) ≤ v13 then if v13 < (↑(List.length v0) : Int) then if (0 : Int) ≤ v13 then if v13 < (↑(List.length v1) : Int) then if decide (List.getD v0 (Int.toNat v13) (0 : Int) ≠ List.getD v1 (Int.toNat v13) (0 : Int)) = true then some (LR.ret false) else Z2o k v0 v1 v12 (wrap64 (v13 + 1)) else none else none else none else none else some (LR.go ())
noncomputable def Z8U : Spec := Spec.mk [.ro] [(0, .at (.snap 0 I6)), (1, .at (.snap 0 I6)), (12, .at (.int .i64)), (13, .at (.int .i64))]
noncomputable def ZkA : Spec := Spec.mk [.ro] []
noncomputable def Z24 : LoopDef (Tup Z2W × OutD) := .rets Z8U ZkA (Unit) (Bool) (fun k x => Z2o k x.2.1 x.2.2.1 x.2.2.2.1 x.2.2.2.2.1) (fun z => (((), ()), (()))) (fun y => ()) (fun _ => rfl) Zab Za5 ZcO
noncomputable def Z7w : Nat → List Int → List Int → Option Bool
 | 0, _, _ => none
 | k + 1, p0, p1 =>
  if decide ((↑(List.length p0) : Int) ≠ (↑(List.length p1) : Int)) = true then some false else Option.bind (Z2o k p0 p1 (↑(List.length p0) : Int) (0 : Int)) fun z0 => LR.on z0 (fun y0 => some true) fun r0 => some r0
noncomputable def Z1j : FnDef := .of Zfi Z2W (Bool) (fun k x => Z7w k x.1 x.2.1) Zab Za5 ZcO
noncomputable def Z7A : Code := Try.f52.body.getD .skip
noncomputable def Z1X : Ctx (Tup Z2W × OutD) := { T := T, G := [], mvs := [], no := 0, n := 26, res := resOf T Zfi Z2W Try.f52.results.toList, loops := [(0, Z24.E)], regs := [], conds := [], cuts := [] }
theorem Zfb (k : Nat) : EnvOK Try.prog k Z1X.G := (EnvOK.nil mixed)
noncomputable def Z5s : Code := (findLoop 0 Z7A).getD .skip
theorem ZkD (k : Nat) (x : Z8U.D) : Z24.lp (k + 1) x = loopK Z1X Z24 0 Z5s k x := by kernel_rfl
theorem Zkl (k : Nat) : LOK Try.prog Z1X k Z5s := LOK.by [] (by kernel_rfl) AllOK.nil
theorem Zkp (x : Z8U.D) : Z24.lp 0 x = none := by kernel_rfl
theorem Zjs (k : Nat) : EOK Try.prog Z1X k Z24.E (.block 0 (.loop Z5s)) := Z4 T_ok Zfb Zkp ZkD Zkl k
theorem Zp8 (k : Nat) (x : Tup Z1j.ps) : Z1j.f (k + 1) x = fnK Z1j Z1X Z7A k x := by kernel_rfl
theorem Zox (x : Tup Z1j.ps) : Z1j.f 0 x = none := by kernel_rfl
theorem Zpt (k : Nat) : LOK Try.prog Z1X k Z7A := LOK.by [(Z24.E, .block 0 (.loop Z5s))] (by kernel_rfl) (AllOK.cons (Zjs k) AllOK.nil)
theorem ZoI (k : Nat) : SoundAt Try.prog k 52 Z1j.E := @Z5 Try.prog Z1j Z1X 52 Try.f52 Z7A (by kernel_rfl) (by kernel_rfl) (by kernel_rfl) Try.func52 (by kernel_rfl) (by kernel_rfl) (by kernel_rfl) T_ok Zfb Zpt Zox Zp8 k
end
end
section
noncomputable section
noncomputable def rKD : List PK := [PK.mk .bool false none false none]
noncomputable def toKD (r : Bool) : Tup rKD × OutD := ((r, ()), none)
noncomputable def ofKD : Tup rKD × OutD → Option (Bool)
 | (a, none) => some (a.1)
 | _ => none
theorem ZIU : ∀ b r, ofKD b = some r → toKD r = b := by
 rintro ⟨a, _ | _⟩ r h <;> cases h; rfl
noncomputable def qKD : List KP := [.tree false (Ty.slice 3 (Ty.int .i64)), .cp (Ty.slice 69 (.slice 71 (.slice 94 (.pair (.int Go.IntKind.i64) (.pair (.int Go.IntKind.i64) (.int Go.IntKind.i64)))))), .cp (Ty.slice 3 (Ty.int .i64))]
noncomputable def fKD : Nat → List Int → List (List (List (Int × Int × Int))) → List Int → Option Bool
 | 0, _, _, _ => none
 | k + 1, p0, e, a => Option.bind (Z2j k e p0) fun z0 => Option.bind (Z7w k z0 a) fun z1 => some z1
noncomputable def dKD : KDef := .of qKD rKD Bool (fun k x => fKD k x.1 x.2.1 x.2.2.1) toKD ofKD ZIU
noncomputable def cKD : Code := Try.f51.body.getD .skip
noncomputable def xKD : Ctx (Tup rKD × OutD) := { T := T, G := [(50, Z1H.E), (52, Z1j.E)], no := 0, n := 10, res := resOf T [] rKD Try.f51.results.toList }
theorem gKD (k : Nat) : EnvOK Try.prog k xKD.G := (EnvOK.cons (ZeQ k) (EnvOK.cons (ZoI k) (EnvOK.nil mixed)))
theorem hKD (k : Nat) (x : KTup dKD.ps) : dKD.f (k + 1) x = fnKK dKD xKD cKD k x := by kernel_rfl
theorem zKD (x : KTup dKD.ps) : dKD.f 0 x = none := by kernel_rfl
theorem lKD (k : Nat) : LOK Try.prog xKD k cKD := LOK.by [] (by kernel_rfl) AllOK.nil
theorem sKD (k : Nat) : ClSound Try.prog k 51 dKD.E := @ZBM Try.prog dKD xKD 51 Try.f51 cKD (by kernel_rfl) (by kernel_rfl) (by kernel_rfl) Try.func51 (by kernel_rfl) (by kernel_rfl) T_ok gKD lKD zKD hKD k
noncomputable def qXD : QSig := { ps := [.tree false (Ty.slice 3 (Ty.int .i64)), .tree false (Ty.int .i64), .tree false (Ty.int .i64)], fe := 51, ts := [(Ty.slice 69 (.slice 71 (.slice 94 (.pair (.int Go.IntKind.i64) (.pair (.int Go.IntKind.i64) (.int Go.IntKind.i64)))))), (Ty.slice 3 (Ty.int .i64))], fs := 66, eF := 4, eB := 28, eR := 3, t := (Ty.int .i64) }
noncomputable def FXD : Nat → (List Int → Int → Int → List (List (List (Int × Int × Int))) → List Int → Int → Int → Bool → List Int → Option (Bool × List Int)) × (List (List (List (Int × Int × Int))) → List Int → Int → List Int → Int → Int → Int → Bool → List Int → Option (Bool × List Int))
  | 0 => (fun _ _ _ _ _ _ _ _ _ => none, fun _ _ _ _ _ _ _ _ _ => none)
  | k + 1 => (fun l fr lf e a n n2 fd b =>
      if fd = true then some (fd, b)
      else if decide (lf = (0 : Int)) = true then
        Option.bind (fKD k l e a) fun z0 => if z0 = true then (if List.length ([] : List Int) + List.length l ≤ (140737488355328 / 8 : Nat) then some (true, [] ++ l) else none) else some (fd, b)
      else Option.bind ((FXD k).2 e a n2 l lf n fr fd b) fun z0 => some z0,
    fun e a n2 l lf n i fd b =>
      if decide (wrap64 (i + lf) ≤ n) = true then
        Option.bind (if List.length ([] : List Int) + List.length l ≤ (140737488355328 / 8 : Nat) then
          if List.length ([] ++ l) + List.length [i] ≤ (140737488355328 / 8 : Nat) then
            Option.bind ((FXD k).1 ([] ++ l ++ [i]) (wrap64 (i + 1)) (wrap64 (lf - 1)) e a n2 n2 fd b) fun z0 => some (z0.1, z0.2, e, a, n2, l, lf, n, i)
          else none
        else none) fun z => (FXD k).2 z.2.2.1 z.2.2.2.1 z.2.2.2.2.1 z.2.2.2.2.2.1 z.2.2.2.2.2.2.1 z.2.2.2.2.2.2.2.1 (wrap64 (z.2.2.2.2.2.2.2.2 + 1)) z.1 z.2.1
      else some (fd, b))
noncomputable def dXD : QDef := .of qXD (fun k x => (FXD k).1 x.1.1 x.1.2.1 x.1.2.2.1 x.2.1.1 x.2.1.2.1 x.2.2.1 x.2.2.2.1 x.2.2.2.2.1 x.2.2.2.2.2)
noncomputable def cXD : Code := Try.f66.body.getD .skip
noncomputable def iXD : Spec := Spec.mk [.ro, On, Om, O3, Od, Oi] [(0, .at (.snap 0 I6)), (2, .at (.int .i64)), (6, .at (.es 0 I6)), (7, .at (.pc 0 5)), (11, .at (.int .i64))]
noncomputable def oXD : Spec := Spec.mk [.ro, On, Om, O3] []
noncomputable def LXD : LoopDef (Bool × List Int) := .plain iXD oXD (Bool × List Int) (fun k x => (FXD k).2 x.1.2.2.2.2.1.1 x.1.2.2.2.2.1.2.1 x.1.2.2.2.2.2.1.2.2.2.1 x.2.1 x.2.2.1 x.2.2.2.1 x.2.2.2.2.2.1 x.1.2.1.1 x.1.2.2.2.1) (fun z => (((), (z.1, ()), ((), ()), z.2, ()), ())) (fun y => (y.1.2.1.1, y.1.2.2.2.1)) (fun _ => rfl)
noncomputable def GXD (k : Nat) (e : List (List (List (Int × Int × Int)))) (a : List Int) (n2 : Int) (l : List Int) (lf n i : Int) (fd : Bool) (b : List Int) : Option (Bool × List Int × List (List (List (Int × Int × Int))) × List Int × Int × List Int × Int × Int × Int) := if List.length ([] : List Int) + List.length l ≤ (140737488355328 / 8 : Nat) then if List.length ([] ++ l) + List.length [i] ≤ (140737488355328 / 8 : Nat) then Option.bind ((FXD k).1 ([] ++ l ++ [i]) (wrap64 (i + 1)) (wrap64 (lf - 1)) e a n2 n2 fd b) fun z0 => some (z0.1, z0.2, e, a, n2, l, lf, n, i) else none else none
noncomputable def AXD (k : Nat) (e : List (List (List (Int × Int × Int)))) (a : List Int) (n2 : Int) (l : List Int) (lf n i : Int) (fd : Bool) (b : List Int) : Option (List (Bool × List Int × List (List (List (Int × Int × Int))) × List Int × Int × List Int × Int × Int × Int)) := (joinL (joinL (joinL (if List.length ([] : List Int) + List.length l ≤ (140737488355328 / 8 : Nat) then (if List.length ([] ++ l) + List.length [i] ≤ (140737488355328 / 8 : Nat) then (Option.bind ((FXD k).1 ([] ++ l ++ [i]) (wrap64 (i + 1)) (wrap64 (lf - 1)) e a n2 n2 fd b) fun z0 => some [(z0.1, z0.2, e, a, n2, l, lf, n, i)]) else none) else none) (if List.length ([] : List Int) + List.length l ≤ (140737488355328 / 8 : Nat) then (if List.length ([] ++ l) + List.length [i] ≤ (140737488355328 / 8 : Nat) then (Option.bind ((FXD k).1 ([] ++ l ++ [i]) (wrap64 (i + 1)) (wrap64 (lf - 1)) e a n2 n2 fd b) fun z0 => some [(z0.1, z0.2, e, a, n2, l, lf, n, i)]) else none) else none)) (if List.length ([] : List Int) + List.length l ≤ (140737488355328 / 8 : Nat) then (if List.length ([] ++ l) + List.length [i] ≤ (140737488355328 / 8 : Nat) then (Option.bind ((FXD k).1 ([] ++ l ++ [i]) (wrap64 (i + 1)) (wrap64 (lf - 1)) e a n2 n2 fd b) fun z0 => some [(z0.1, z0.2, e, a, n2, l, lf, n, i)]) else none) else none)) (joinL (joinL (joinL (if List.length ([] : List Int) + List.length l ≤ (140737488355328 / 8 : Nat) then (if List.length ([] ++ l) + List.length [i] ≤ (140737488355328 / 8 : Nat) then (Option.bind ((FXD k).1 ([] ++ l ++ [i]) (wrap64 (i + 1)) (wrap64 (lf - 1)) e a n2 n2 fd b) fun z0 => some [(z0.1, z0.2, e, a, n2, l, lf, n, i)]) else none) else none) (if List.length ([] : List Int) + List.length l ≤ (140737488355328 / 8 : Nat) then (if List.length ([] ++ l) + List.length [i] ≤ (140737488355328 / 8 : Nat) then (Option.bind ((FXD k).1 ([] ++ l ++ [i]) (wrap64 (i + 1)) (wrap64 (lf - 1)) e a n2 n2 fd b) fun z0 => some [(z0.1, z0.2, e, a, n2, l, lf, n, i)]) else none) else none)) (joinL (if List.length ([] : List Int) + List.length l ≤ (140737488355328 / 8 : Nat) then (joinL (if List.length ([] ++ l) + List.length [i] ≤ (140737488355328 / 8 : Nat) then (Option.bind ((FXD k).1 ([] ++ l ++ [i]) (wrap64 (i + 1)) (wrap64 (lf - 1)) e a n2 n2 fd b) fun z0 => some [(z0.1, z0.2, e, a, n2, l, lf, n, i)]) else none) (joinL (if List.length ([] ++ l) + List.length [i] ≤ (140737488355328 / 8 : Nat) then (Option.bind ((FXD k).1 ([] ++ l ++ [i]) (wrap64 (i + 1)) (wrap64 (lf - 1)) e a n2 n2 fd b) fun z0 => some [(z0.1, z0.2, e, a, n2, l, lf, n, i)]) else none) (if List.length ([] ++ l) + List.length [i] ≤ (140737488355328 / 8 : Nat) then (Option.bind ((FXD k).1 ([] ++ l ++ [i]) (wrap64 (i + 1)) (wrap64 (lf - 1)) e a n2 n2 fd b) fun z0 => some [(z0.1, z0.2, e, a, n2, l, lf, n, i)]) else none))) else none) (joinL (if List.length ([] : List Int) + List.length l ≤ (140737488355328 / 8 : Nat) then (if List.length ([] ++ l) + List.length [i] ≤ (140737488355328 / 8 : Nat) then (Option.bind ((FXD k).1 ([] ++ l ++ [i]) (wrap64 (i + 1)) (wrap64 (lf - 1)) e a n2 n2 fd b) fun z0 => some [(z0.1, z0.2, e, a, n2, l, lf, n, i)]) else none) else none) (if List.length ([] : List Int) + List.length l ≤ (140737488355328 / 8 : Nat) then (joinL (if List.length ([] ++ l) + List.length [i] ≤ (140737488355328 / 8 : Nat) then (Option.bind ((FXD k).1 ([] ++ l ++ [i]) (wrap64 (i + 1)) (wrap64 (lf - 1)) e a n2 n2 fd b) fun z0 => some [(z0.1, z0.2, e, a, n2, l, lf, n, i)]) else none) (if List.length ([] ++ l) + List.length [i] ≤ (140737488355328 / 8 : Nat) then (Option.bind ((FXD k).1 ([] ++ l ++ [i]) (wrap64 (i + 1)) (wrap64 (lf - 1)) e a n2 n2 fd b) fun z0 => some [(z0.1, z0.2, e, a, n2, l, lf, n, i)]) else none)) else none)))) (joinL (if List.length ([] : List Int) + List.length l ≤ (140737488355328 / 8 : Nat) then (if List.length ([] ++ l) + List.length [i] ≤ (140737488355328 / 8 : Nat) then (Option.bind ((FXD k).1 ([] ++ l ++ [i]) (wrap64 (i + 1)) (wrap64 (lf - 1)) e a n2 n2 fd b) fun z0 => some [(z0.1, z0.2, e, a, n2, l, lf, n, i)]) else none) else none) (joinL (if List.length ([] : List Int) + List.length l ≤ (140737488355328 / 8 : Nat) then (if List.length ([] ++ l) + List.length [i] ≤ (140737488355328 / 8 : Nat) then (Option.bind ((FXD k).1 ([] ++ l ++ [i]) (wrap64 (i + 1)) (wrap64 (lf - 1)) e a n2 n2 fd b) fun z0 => some [(z0.1, z0.2, e, a, n2, l, lf, n, i)]) else none) else none) (if List.length ([] : List Int) + List.length l ≤ (140737488355328 / 8 : Nat) then (joinL (if List.length ([] ++ l) + List.length [i] ≤ (140737488355328 / 8 : Nat) then (Option.bind ((FXD k).1 ([] ++ l ++ [i]) (wrap64 (i + 1)) (wrap64 (lf - 1)) e a n2 n2 fd b) fun z0 => some [(z0.1, z0.2, e, a, n2, l, lf, n, i)]) else none) (if List.length ([] ++ l) + List.length [i] ≤ (140737488355328 / 8 : Nat) then (Option.bind ((FXD k).1 ([] ++ l ++ [i]) (wrap64 (i + 1)) (wrap64 (lf - 1)) e a n2 n2 fd b) fun z0 => some [(z0.1, z0.2, e, a, n2, l, lf, n, i)]) else none)) else none)))))
noncomputable def DXD : LoopDef (Bool × List Int) := .plain iXD iXD (Bool × List Int × List (List (List (Int × Int × Int))) × List Int × Int × List Int × Int × Int × Int) (fun k x => GXD k x.1.2.2.2.2.1.1 x.1.2.2.2.2.1.2.1 x.1.2.2.2.2.2.1.2.2.2.1 x.2.1 x.2.2.1 x.2.2.2.1 x.2.2.2.2.2.1 x.1.2.1.1 x.1.2.2.2.1) (fun z => (((), (z.1, ()), ((), ()), z.2.1, (z.2.2.1, z.2.2.2.1, ()), ((), (), (), z.2.2.2.2.1, (), ()), ()), (z.2.2.2.2.2.1, z.2.2.2.2.2.2.1, z.2.2.2.2.2.2.2.1, (), z.2.2.2.2.2.2.2.2, ()))) (fun y => (y.1.2.1.1, y.1.2.2.2.1, y.1.2.2.2.2.1.1, y.1.2.2.2.2.1.2.1, y.1.2.2.2.2.2.1.2.2.2.1, y.2.1, y.2.2.1, y.2.2.2.1, y.2.2.2.2.2.1)) (fun _ => rfl)
theorem jXD (k : Nat) (e : List (List (List (Int × Int × Int)))) (a : List Int) (n2 : Int) (l : List Int) (lf n i : Int) (fd : Bool) (b : List Int) : AXD k e a n2 l lf n i fd b = repl 15 (GXD k e a n2 l lf n i fd b) := by
 simp only [AXD, GXD, Zy, ZV, Zz, ZA, Zx, Z9, if_true]
noncomputable def OXD : Array Oper := (findReg 7 cXD).getD #[]
noncomputable def BXD : Code := (findLoop 0 cXD).getD .skip
noncomputable def xXD : Ctx (Bool × List Int) := { T := T, G := [(66, cloE dXD.E), (51, cloE dKD.E)], no := 2, n := 41, res := qXD.res, loops := [(0, LXD.E)], regs := [(7, DXD.E)] }
theorem eXD (k : Nat) (x : iXD.D) : execD xXD.T xXD.G xXD.mvs k OXD (DXD.inp.st xXD.n x) (outK xXD DXD) = AXD k x.1.2.2.2.2.1.1 x.1.2.2.2.2.1.2.1 x.1.2.2.2.2.2.1.2.2.2.1 x.2.1 x.2.2.1 x.2.2.2.1 x.2.2.2.2.2.1 x.1.2.1.1 x.1.2.2.2.1 := by kernel_rfl
theorem gXD (k : Nat) : EnvOK Try.prog k [(51, cloE dKD.E)] := .consC (sKD k) (.nil mixed)
theorem aXD (k : Nat) (x : iXD.D) : LXD.lp (k + 1) x = loopK xXD LXD 0 BXD k x := by kernel_rfl
theorem bXD (k : Nat) (hG : EnvOK Try.prog k xXD.G) : LOK Try.prog xXD k BXD := LOK.by [(DXD.E, .region 7 OXD true)] (by kernel_rfl) (AllOK.cons (Z8y (D := DXD) (m := 15) T_ok hG (fun x => (eXD k x).trans (jXD k x.1.2.2.2.2.1.1 x.1.2.2.2.2.1.2.1 x.1.2.2.2.2.2.1.2.2.2.1 x.2.1 x.2.2.1 x.2.2.2.1 x.2.2.2.2.2.1 x.1.2.1.1 x.1.2.2.2.1))) AllOK.nil)
theorem yXD (x : iXD.D) : LXD.lp 0 x = none := by kernel_rfl
theorem hXD (k : Nat) (x : qXD.In) : dXD.f (k + 1) x = fnKQ dXD xXD cXD k x := by kernel_rfl
theorem zXD (x : qXD.In) : dXD.f 0 x = none := by kernel_rfl
theorem lXD (k : Nat) (hG : ∀ j, j ≤ k → EnvOK Try.prog j xXD.G) : LOK Try.prog xXD k cXD := LOK.by [(LXD.E, .block 0 (.loop BXD))] (by kernel_rfl) (AllOK.cons (ZHj T_ok k hG yXD aXD (fun j hj => bXD j (hG j hj))) AllOK.nil)
theorem sXD (k : Nat) : ClSound Try.prog k 66 dXD.E := @ZHt Try.prog dXD xXD 66 Try.f66 cXD [(51, cloE dKD.E)] (fun _ => rfl) (by kernel_rfl) (by kernel_rfl) (by kernel_rfl) (by kernel_rfl) Try.func66 (by kernel_rfl) (by kernel_rfl) (by kernel_rfl) T_ok gXD lXD zXD hXD k k (Nat.le_refl k)
noncomputable def rYD : List PK := [PK.mk (.slice 3 I6) false none false none]
noncomputable def toYD (r : List Int) : Tup rYD × OutD := ((r, ()), none)
noncomputable def ofYD : Tup rYD × OutD → Option (List Int)
 | (a, none) => some (a.1)
 | _ => none
theorem ZJ9 : ∀ b r, ofYD b = some r → toYD r = b := by
 rintro ⟨a, _ | _⟩ r h <;> cases h; rfl
noncomputable def qYD : List KP := [.tree false (Ty.int .i64), .fn 51 [(Ty.slice 69 (.slice 71 (.slice 94 (.pair (.int Go.IntKind.i64) (.pair (.int Go.IntKind.i64) (.int Go.IntKind.i64)))))), (Ty.slice 3 (Ty.int .i64))]]
noncomputable def ZsL : Nat → Int → List Int → Bool → List (List (List (Int × Int × Int))) → List Int → Int → Option (List Int)
 | 0, _, _, _, _, _, _ => none
 | k + 1, n, b, fd, e, a, i =>
  if decide (i ≤ n) = true then if (!fd) = true then Option.bind ((FXD k).1 [] (0 : Int) i e a n n fd b) fun z0 => ZsL k n z0.2 z0.1 e a (wrap64 (i + 1)) else some b else some b
noncomputable def fYD : Nat → Int → List (List (List (Int × Int × Int))) → List Int → Option (List Int)
 | 0, _, _, _ => none
 | k + 1, n, e, a => Option.bind (ZsL k n [] false e a (0 : Int)) fun z0 => some z0
noncomputable def dYD : KDef := .of qYD rYD (List Int) (fun k x => fYD k x.1 x.2.1.1 x.2.1.2.1) toYD ofYD ZJ9
noncomputable def cYD : Code := Try.f45.body.getD .skip
noncomputable def iYD : Spec := Spec.mk [.ro, Oq, Om, O3, On, .box 83 [.cv 6], Oh, .box 63 [.cv 8], Od] [(2, .at (.ptr 1 0)), (5, .at (.ptr 2 0)), (6, .at (.ptr 4 0)), (7, .at (.ptr 5 0)), (8, .at (.int .i64))]
noncomputable def oYD : Spec := Spec.mk [.ro, .box 28 [.sl 2], O3] [(5, .at (.ptr 1 0))]
noncomputable def LYD : LoopDef (Tup rYD × OutD) := .plain iYD oYD (List Int) (fun k x => ZsL k x.1.2.1.1 x.1.2.2.2.1 x.1.2.2.2.2.1.1 x.1.2.2.2.2.2.2.2.2.1.1 x.1.2.2.2.2.2.2.2.2.1.2.1 x.2.2.2.2.2.1) (fun z => (((), ((), ()), z, ()), ((), ()))) (fun y => y.1.2.2.1) (fun _ => rfl)
noncomputable def BYD : Code := (findLoop 0 cYD).getD .skip
noncomputable def xYD : Ctx (Tup rYD × OutD) := { T := T, G := [(66, cloE dXD.E)], no := 0, n := 24, res := resOf T [] rYD Try.f45.results.toList, loops := [(0, LYD.E)] }
theorem gYD (k : Nat) : EnvOK Try.prog k xYD.G := .consC (sXD k) (.nil mixed)
theorem aYD (k : Nat) (x : iYD.D) : LYD.lp (k + 1) x = loopK xYD LYD 0 BYD k x := by kernel_rfl
theorem bYD (k : Nat) : LOK Try.prog xYD k BYD := LOK.by [] (by kernel_rfl) AllOK.nil
theorem yYD (x : iYD.D) : LYD.lp 0 x = none := by kernel_rfl
theorem hYD (k : Nat) (x : KTup dYD.ps) : dYD.f (k + 1) x = fnKK dYD xYD cYD k x := by kernel_rfl
theorem zYD (x : KTup dYD.ps) : dYD.f 0 x = none := by kernel_rfl
theorem lYD (k : Nat) : LOK Try.prog xYD k cYD := LOK.by [(LYD.E, .block 0 (.loop BYD))] (by kernel_rfl) (AllOK.cons (Z4 T_ok gYD yYD aYD bYD k) AllOK.nil)
theorem sYD (k : Nat) : ClSound Try.prog k 45 dYD.E := @ZBM Try.prog dYD xYD 45 Try.f45 cYD (by kernel_rfl) (by kernel_rfl) (by kernel_rfl) Try.func45 (by kernel_rfl) (by kernel_rfl) T_ok gYD lYD zYD hYD k
end
end
section
noncomputable section
noncomputable def Z3y : List PK := [PK.mk (.slice 3 I6) false none false none, PK.mk .bool false none false none]
noncomputable def Zge : List PK := [PK.mk (.pair I6 (.pair I6 (.slice 73 P6))) true none false none, PK.mk (.slice 28 (.slice 3 I6)) false none false none]
noncomputable def ZeZ (r : List Int × Bool) : Tup Z3y × OutD := ((r.1, r.2, ()), none)
noncomputable def Zf1 : Tup Z3y × OutD → Option (List Int × Bool)
 | (a, none) => some (a.1, a.2.1)
 | _ => none
theorem ZkK : ∀ b r, Zf1 b = some r → ZeZ r = b := by
 rintro ⟨a, _ | _⟩ r h <;> cases h; rfl
noncomputable def Z3L : Nat → List (List (List (Int × Int × Int))) → List (List Int) → Option (List (List (List (Int × Int × Int))) × List Int × List (List Int)) := fun k e p1 => Option.bind (Z1s k p1) fun z0 => Option.bind (Z2j k e z0) fun z1 => some (e, z1, p1)
noncomputable def Z8L : Nat → List (List (List (Int × Int × Int))) → List (List Int) → Option (List (List (List (List (Int × Int × Int))) × List Int × List (List Int))) := fun k e p1 => joinL (Option.bind (Z1s k p1) fun z0 => joinL (Option.bind (Z2j k e z0) fun z1 => some [(e, z1, p1)]) (Option.bind (Z2j k e z0) fun z1 => some [(e, z1, p1)])) (Option.bind (Z1s k p1) fun z0 => Option.bind (Z2j k e z0) fun z1 => some [(e, z1, p1)])
noncomputable def Zdn : Spec := Spec.mk [.ro, Oo, O9] [(1, .at (.snap 0 (.slice 3 I6))), (6, .at (.ptr 1 0))]
noncomputable def ZkT : Spec := Spec.mk [.ro, Oo, O9, .box 28 [.sl 4], O3] [(1, .at (.snap 0 (.slice 3 I6))), (6, .at (.ptr 1 0)), (7, .at (.ptr 3 0))]
noncomputable def Z26 : LoopDef (Tup Z3y × OutD) := .plain Zdn ZkT (List (List (List (Int × Int × Int))) × List Int × List (List Int)) (fun k x => Z3L k x.1.2.2.1 x.2.1) (fun z => (((), ((), ()), z.1, ((), ()), z.2.1, ()), (z.2.2, (), (), ()))) (fun y => (y.1.2.2.1, y.1.2.2.2.2.1, y.2.1)) (fun _ => rfl)
theorem ZkX (k : Nat) (e : List (List (List (Int × Int × Int)))) (p1 : List (List Int)) : Z8L k e p1 = repl 3 (Z3L k e p1) := by
 simp only [Z8L, Z3L, Zy, ZV, Zz, ZA, Zx, Z9, if_true]
noncomputable def Z7T : Nat → Int × Int × List (Int × Int) → List (List Int) → Option (List Int × Bool)
 | 0, _, _ => none
 | k + 1, p0, p1 =>
  Option.bind (Z4l k (p0.1, p0.2.1, p0.2.2) p1) fun z0 => if (!z0) = true then some ([], false) else Option.bind (Z4n k (p0.1, p0.2.1, p0.2.2) p1) fun z1 => Option.bind (Z3L k z1 p1) fun z2 => Option.bind (fYD k (↑(List.length z2.2.2) : Int) z2.1 z2.2.1) fun z4 => some (z4, true)
noncomputable def Z1A : FnDef := .of Zge Z3y (List Int × Bool) (fun k x => Z7T k x.1 x.2.1) ZeZ Zf1 ZkK
noncomputable def Z87 : Code := Try.f20.body.getD .skip
noncomputable def ZY : Ctx (Tup Z3y × OutD) := { T := T, G := [(41, Z1n.E), (42, Z1m.E), (44, Z1v.E), (50, Z1H.E), (45, cloE dYD.E)], mvs := [], no := 0, n := 23, res := resOf T Zge Z3y Try.f20.results.toList, loops := [], regs := [(4, Z26.E)], conds := [], cuts := [] }
theorem Zg3 (k : Nat) : EnvOK Try.prog k ZY.G := (EnvOK.cons (ZaH k) (EnvOK.cons (ZaD k) (EnvOK.cons (Zct k) (EnvOK.cons (ZeQ k) (EnvOK.consC (sYD k) (EnvOK.nil mixed))))))
noncomputable def Z8N : Array Oper := (findReg 4 Z87).getD #[]
theorem Zks (k : Nat) (x : Zdn.D) : execD ZY.T ZY.G ZY.mvs k Z8N (Z26.inp.st ZY.n x) (outK ZY Z26) = Z8L k x.1.2.2.1 x.2.1 := by kernel_rfl
theorem Zj2 (k : Nat) : EOK Try.prog ZY k Z26.E (.region 4 Z8N true) := Z8y (D := Z26) (m := 3) T_ok (Zg3 k) (fun x => (Zks k x).trans (ZkX k x.1.2.2.1 x.2.1))
theorem ZpU (k : Nat) (x : Tup Z1A.ps) : Z1A.f (k + 1) x = fnK Z1A ZY Z87 k x := by kernel_rfl
theorem Zqs (x : Tup Z1A.ps) : Z1A.f 0 x = none := by kernel_rfl
theorem Zqr (k : Nat) : LOK Try.prog ZY k Z87 := LOK.by [(Z26.E, .region 4 Z8N true)] (by kernel_rfl) (AllOK.cons (Zj2 k) AllOK.nil)
theorem Zrd (k : Nat) : SoundAt Try.prog k 20 Z1A.E := @Z5 Try.prog Z1A ZY 20 Try.f20 Z87 (by kernel_rfl) (by kernel_rfl) (by kernel_rfl) Try.func20 (by kernel_rfl) (by kernel_rfl) (by kernel_rfl) T_ok Zg3 Zqr Zqs ZpU k
end
end
section
def stepF (P : List Int → Bool) (cs : List (List Int)) (fd : Bool) (b : List Int) : Bool × List Int := if fd = true then (true, b) else match cs.find? P with
 | some x => (true, x)
 | none => (false, b)
theorem ZC1 (P : List Int → Bool) (cs : List (List Int)) (b : List Int) : stepF P cs true b = (true, b) := rfl
theorem Zgp (P : List Int → Bool) (fd : Bool) (b : List Int) : stepF P [] fd b = (fd, b) := by cases fd <;> rfl
theorem Zhv (P : List Int → Bool) (c1 c2 : List (List Int)) (fd : Bool) (b : List Int) : stepF P (c1 ++ c2) fd b = stepF P c2 (stepF P c1 fd b).1 (stepF P c1 fd b).2 := by
 cases fd with
 | true => rfl
 | false =>
  unfold stepF
  simp only [Bool.false_eq_true, if_false, List.find?_append]
  cases h : c1.find? P with
  | none => simp
  | some x => simp
theorem ZFJ {n left i : Nat} (h : i + (left + 1) ≤ n) : extL n (left + 1) i = (extL n left (i + 1)).map (fun s => (i : Int) :: s) ++ extL n (left + 1) (i + 1) := by
 simp only [extL]
 rw [show n - (i + left) = (n - (i + 1 + left)) + 1 by omega, List.range_succ_eq_map, List.flatMap_cons, List.flatMap_map]
 congr 1
 unfold List.flatMap
 congr 1
 refine List.map_congr_left (fun j _ => ?_)
 simp only [Nat.succ_eq_add_one]
 rw [show i + (j + 1) = i + 1 + j by omega]
theorem ZsN {n left i : Nat} (h : ¬ i + (left + 1) ≤ n) : extL n (left + 1) i = [] := by
 simp only [extL]
 rw [show n - (i + left) = 0 by omega]
 rfl
theorem ZCt (n i d : Nat) : ((List.range (d + 1)).flatMap fun j => extL n (i + j) 0) = extL n i 0 ++ (List.range d).flatMap fun j => extL n (i + 1 + j) 0 := by
 rw [List.range_succ_eq_map, List.flatMap_cons, List.flatMap_map]
 congr 1
 unfold List.flatMap
 congr 1
 refine List.map_congr_left (fun j _ => ?_)
 simp only [Nat.succ_eq_add_one]
 rw [show i + (j + 1) = i + 1 + j by omega]
theorem ZDL (n : Nat) : ((List.range (n + 1)).flatMap fun j => extL n (0 + j) 0) = allL n := by
 unfold allL List.flatMap
 congr 1
 exact List.map_congr_left (fun j _ => by rw [Nat.zero_add])
theorem ZgN (n : Nat) : Inc n 0 (rangeI n) := by
 refine Zfk (List.Pairwise.map _ (fun a b h => by omega) List.pairwise_lt_range) (fun x hx => ?_)
 have := Zar n x hx
 omega
theorem ZBJ (n : Nat) (P : List Int → Bool) (hP : P (rangeI n) = true) : (stepF P (allL n) false []).2 = foldB P ((List.range (2 ^ n)).map (choiceL n)) (rangeI n) := by
 unfold stepF
 rw [ZHT n P (rangeI n) (ZgN n) hP]
 rfl
theorem ZHM {n : Nat} {t : Int} (h0 : 0 ≤ t) (h1 : t < (n : Int)) : t ∈ rangeI n := by
 unfold rangeI
 exact List.mem_map.2 ⟨t.toNat, List.mem_range.2 (by omega), by omega⟩
theorem ZGd (C : List (List (List FallD))) (n : Nat) (l : List Int) (hl : chOK l n) : (classesL (keyC C l) C.length).length = (classesL (keyC C (rangeI n)) C.length).length ↔ classI C l C.length = classI C (rangeI n) C.length := by
 rw [Zlq (keyC C l) (keyC C (rangeI n)) (fun i j h => ZkY.2 (fun t ht => ZkY.1 h t (ZHM (hl t ht).1 (hl t ht).2))) C.length]
 unfold classI
 rw [List.map_inj_left]
 constructor
 ·intro h j hj
  rw [h j (List.mem_range.1 hj)]
 ·intro h j hj
  have := h j (List.mem_range.2 hj)
  omega
theorem Ze6 : ∀ (r s pre pre' : List Int), s.length = r.length → pre'.length = pre.length → (pre ++ r).length ≤ 9223372036854775806 → Ev (fun k => Z2o k (pre ++ r) (pre' ++ s) ((pre ++ r).length : Int) (pre.length : Int)) (if r = s then LR.go () else LR.ret false)
 | [], s, pre, pre', h, hp, hl => by
  obtain rfl : s = [] := List.eq_nil_of_length_eq_zero h
  refine Ev.succ ?_
  simp only [Z2o, Zj, decide_false, Bool.false_eq_true, if_false, if_true]
  exact Ev.some _
 | x :: r, [], pre, pre', h, hp, hl => by simp at h
 | x :: r, y :: s, pre, pre', h, hp, hl => by
  have ih := Ze6 r s (pre ++ [x]) (pre' ++ [y]) (by simpa using h) (by simpa using hp) (by simpa using hl)
  have l2 : (pre.length : Int) < ((pre' ++ y :: s).length : Int) := by rw [← hp]; exact Zc _ _ _
  have g2 : List.getD (pre' ++ y :: s) pre.length 0 = y := by rw [← hp]; exact Za _ _ _ _
  refine Ev.succ ?_
  simp only [Z2o, Zc, Zr, l2, decide_true, if_true, Int.toNat_natCast, Za, g2]
  rw [Zd pre x r (by omega)]
  rw [← Z6, ← Z6] at ih
  by_cases hxy : x = y
  ·subst hxy
   simp only [ne_eq, not_true_eq_false, decide_false, Bool.false_eq_true, if_false]
   refine ih.congr ?_
   by_cases hrs : r = s <;> simp [hrs]
  ·simp only [ne_eq, hxy, not_false_eq_true, decide_true, if_true]
   refine Ev.of ?_
   rw [if_neg (by intro hc; injection hc with h1 h2; exact hxy h1)]
theorem ZoJ (l m : List Int) (hl : l.length ≤ 9223372036854775806) : Ev (fun k => Z7w k l m) (decide (l = m)) := by
 refine Ev.succ ?_
 simp only [Z7w]
 by_cases h : l.length = m.length
 ·simp only [h, ne_eq, not_true_eq_false, decide_false, Bool.false_eq_true, if_false]
  have h8 := Ze6 l m [] [] h.symm rfl (by simpa using hl)
  simp only [List.nil_append, List.length_nil, Int.natCast_zero, h] at h8
  refine Ev.bind h8 ?_
  by_cases hlm : l = m
  ·rw [if_pos hlm]; simp only [hlm, decide_true]; exact Ev.go (Ev.some _)
  ·rw [if_neg hlm]; simp only [hlm, decide_false]; exact Ev.ret (Ev.some _)
 ·have h2 : ¬ (l.length : Int) = (m.length : Int) := by omega
  have h3 : ¬ l = m := fun hc => h (by rw [hc])
  simp only [ne_eq, h2, not_false_eq_true, decide_true, if_true, h3, decide_false]
  exact Ev.some _
section
variable (e : List (List (List (Int × Int × Int)))) (a : Int) (n : Nat) (P : List Int → Bool) (hn : n ≤ 10) (hP : ∀ l, chOK l n → l.length ≤ n → Ev (fun k => fKT k l e a) (P l))
include hn hP
theorem ZJt : ∀ (left fr : Nat) (l : List Int) (fd : Bool) (b : List Int), chOK l n → l.length + left ≤ n → fr ≤ n → Ev (fun k => (FXT k).1 l (fr : Int) (left : Int) e a (n : Int) (n : Int) fd b) (stepF P ((extL n left fr).map fun s => l ++ s) fd b) := by
 intro left
 induction left with
 | zero =>
  intro fr l fd b hl hlen hfr
  refine Ev.succ ?_
  cases fd with
  | true => simp only [FXT, if_true]; exact Ev.some _
  | false =>
   have g1 : l.length ≤ 140737488355328 / 8 := by omega
   simp only [FXT, Bool.false_eq_true, if_false, Int.natCast_zero, decide_true, if_true, List.length_nil, Nat.zero_add, List.nil_append, g1]
   refine Ev.bind (hP l hl (by omega)) ?_
   cases hp : P l with
   | false => simp only [Bool.false_eq_true, if_false]; exact Ev.of (by simp [stepF, extL, hp])
   | true => simp only [if_true]; exact Ev.of (by simp [stepF, extL, hp])
 | succ left ihL =>
  intro fr l fd b hl hlen hfr
  have loop : ∀ (d i : Nat) (fd : Bool) (b : List Int), n ≤ i + d → i ≤ n → Ev (fun k => (FXT k).2 e a (n : Int) l ((left + 1 : Nat) : Int) (n : Int) (i : Int) fd b) (stepF P ((extL n (left + 1) i).map fun s => l ++ s) fd b) := by
   intro d
   induction d with
   | zero =>
    intro i fd b hd hi
    have hw : wrap64 ((i : Int) + ((left + 1 : Nat) : Int)) = ((i + (left + 1) : Nat) : Int) := by rw [w64 (by omega) (by omega)]; omega
    have hc : ¬ ((i + (left + 1) : Nat) : Int) ≤ (n : Int) := by omega
    rw [ZsN (by omega), List.map_nil, Zgp]
    refine Ev.succ ?_
    simp only [FXT, hw, hc, decide_false, Bool.false_eq_true, if_false]
    exact Ev.some _
   | succ d ihd =>
    intro i fd b hd hi
    have hw : wrap64 ((i : Int) + ((left + 1 : Nat) : Int)) = ((i + (left + 1) : Nat) : Int) := by rw [w64 (by omega) (by omega)]; omega
    by_cases hcc : i + (left + 1) ≤ n
    ·have hc : ((i + (left + 1) : Nat) : Int) ≤ (n : Int) := by omega
     have hw1 : wrap64 ((i : Int) + 1) = ((i + 1 : Nat) : Int) := by rw [w64 (by omega) (by omega)]; omega
     have hw2 : wrap64 (((left + 1 : Nat) : Int) - 1) = (left : Int) := by rw [w64 (by omega) (by omega)]; omega
     have g1 : l.length ≤ 140737488355328 / 8 := by omega
     have g2 : l.length + 1 ≤ 140737488355328 / 8 := by omega
     have h1 := ihL (i + 1) (l ++ [(i : Int)]) fd b (fun t ht => by
      rcases List.mem_append.1 ht with ht | ht
      ·exact hl t ht
      ·rw [List.mem_singleton.1 ht]; omega) (by simp; omega) (by omega)
     have hm : ((extL n left (i + 1)).map fun s => (l ++ [(i : Int)]) ++ s) = ((extL n left (i + 1)).map (fun s => (i : Int) :: s)).map fun s => l ++ s := by
      rw [List.map_map]
      refine List.map_congr_left (fun s _ => ?_)
      simp
     rw [hm] at h1
     rw [ZFJ hcc, List.map_append, Zhv]
     refine Ev.succ ?_
     simp only [FXT, hw, hc, hw1, hw2, decide_true, if_true, List.length_nil, Nat.zero_add, List.nil_append, List.length_singleton, g1, g2]
     refine Ev.bind (Ev.bind h1 (Ev.some _)) ?_
     simp only [hw1]
     exact ihd (i + 1) _ _ (by omega) (by omega)
    ·have hc : ¬ ((i + (left + 1) : Nat) : Int) ≤ (n : Int) := by omega
     rw [ZsN hcc, List.map_nil, Zgp]
     refine Ev.succ ?_
     simp only [FXT, hw, hc, decide_false, Bool.false_eq_true, if_false]
     exact Ev.some _
  refine Ev.succ ?_
  cases fd with
  | true => simp only [FXT, if_true]; exact Ev.some _
  | false =>
   have h0 : ¬ ((left + 1 : Nat) : Int) = 0 := by omega
   simp only [FXT, Bool.false_eq_true, if_false, h0, decide_false]
   exact Ev.bind (loop n fr false b (by omega) hfr) (Ev.some _)
theorem ZHl : ∀ (d i : Nat) (fd : Bool) (b : List Int), i + d = n + 1 → Ev (fun k => Zsp k (n : Int) b fd e a (i : Int)) (stepF P ((List.range d).flatMap fun j => extL n (i + j) 0) fd b).2
 | 0, i, fd, b, h => by
  have hc : ¬ (i : Int) ≤ (n : Int) := by omega
  refine Ev.succ ?_
  simp only [Zsp, hc, decide_false, Bool.false_eq_true, if_false, List.range_zero, List.flatMap_nil, Zgp]
  exact Ev.some _
 | d + 1, i, fd, b, h => by
  have hc : (i : Int) ≤ (n : Int) := by omega
  have hw1 : wrap64 ((i : Int) + 1) = ((i + 1 : Nat) : Int) := by rw [w64 (by omega) (by omega)]; omega
  refine Ev.succ ?_
  cases fd with
  | true =>
   simp only [Zsp, hc, decide_true, if_true, Bool.not_true, Bool.false_eq_true, if_false, ZC1]
   exact Ev.some _
  | false =>
   have h1 := ZJt e a n P hn hP i 0 [] false b (fun t ht => by cases ht) (by simp; omega) (by omega)
   simp only [List.nil_append, List.map_id', Int.natCast_zero] at h1
   rw [ZCt, Zhv]
   simp only [Zsp, hc, hw1, decide_true, if_true, Bool.not_false]
   exact Ev.bind h1 (ZHl d (i + 1) _ _ (by omega))
theorem ZJs : Ev (fun k => fYT k (n : Int) e a) (stepF P (allL n) false []).2 := by
 have h8 := ZHl e a n P hn hP (n + 1) 0 false [] (by omega)
 rw [ZDL] at h8
 refine Ev.succ ?_
 simp only [fYT]
 exact Ev.bind h8 (Ev.some _)
end
section
variable (e : List (List (List (Int × Int × Int)))) (a : List Int) (n : Nat) (P : List Int → Bool) (hn : n ≤ 10) (hP : ∀ l, chOK l n → l.length ≤ n → Ev (fun k => fKD k l e a) (P l))
include hn hP
theorem ZJr : ∀ (left fr : Nat) (l : List Int) (fd : Bool) (b : List Int), chOK l n → l.length + left ≤ n → fr ≤ n → Ev (fun k => (FXD k).1 l (fr : Int) (left : Int) e a (n : Int) (n : Int) fd b) (stepF P ((extL n left fr).map fun s => l ++ s) fd b) := by
 intro left
 induction left with
 | zero =>
  intro fr l fd b hl hlen hfr
  refine Ev.succ ?_
  cases fd with
  | true => simp only [FXD, if_true]; exact Ev.some _
  | false =>
   have g1 : l.length ≤ 140737488355328 / 8 := by omega
   simp only [FXD, Bool.false_eq_true, if_false, Int.natCast_zero, decide_true, if_true, List.length_nil, Nat.zero_add, List.nil_append, g1]
   refine Ev.bind (hP l hl (by omega)) ?_
   cases hp : P l with
   | false => simp only [Bool.false_eq_true, if_false]; exact Ev.of (by simp [stepF, extL, hp])
   | true => simp only [if_true]; exact Ev.of (by simp [stepF, extL, hp])
 | succ left ihL =>
  intro fr l fd b hl hlen hfr
  have loop : ∀ (d i : Nat) (fd : Bool) (b : List Int), n ≤ i + d → i ≤ n → Ev (fun k => (FXD k).2 e a (n : Int) l ((left + 1 : Nat) : Int) (n : Int) (i : Int) fd b) (stepF P ((extL n (left + 1) i).map fun s => l ++ s) fd b) := by
   intro d
   induction d with
   | zero =>
    intro i fd b hd hi
    have hw : wrap64 ((i : Int) + ((left + 1 : Nat) : Int)) = ((i + (left + 1) : Nat) : Int) := by rw [w64 (by omega) (by omega)]; omega
    have hc : ¬ ((i + (left + 1) : Nat) : Int) ≤ (n : Int) := by omega
    rw [ZsN (by omega), List.map_nil, Zgp]
    refine Ev.succ ?_
    simp only [FXD, hw, hc, decide_false, Bool.false_eq_true, if_false]
    exact Ev.some _
   | succ d ihd =>
    intro i fd b hd hi
    have hw : wrap64 ((i : Int) + ((left + 1 : Nat) : Int)) = ((i + (left + 1) : Nat) : Int) := by rw [w64 (by omega) (by omega)]; omega
    by_cases hcc : i + (left + 1) ≤ n
    ·have hc : ((i + (left + 1) : Nat) : Int) ≤ (n : Int) := by omega
     have hw1 : wrap64 ((i : Int) + 1) = ((i + 1 : Nat) : Int) := by rw [w64 (by omega) (by omega)]; omega
     have hw2 : wrap64 (((left + 1 : Nat) : Int) - 1) = (left : Int) := by rw [w64 (by omega) (by omega)]; omega
     have g1 : l.length ≤ 140737488355328 / 8 := by omega
     have g2 : l.length + 1 ≤ 140737488355328 / 8 := by omega
     have h1 := ihL (i + 1) (l ++ [(i : Int)]) fd b (fun t ht => by
      rcases List.mem_append.1 ht with ht | ht
      ·exact hl t ht
      ·rw [List.mem_singleton.1 ht]; omega) (by simp; omega) (by omega)
     have hm : ((extL n left (i + 1)).map fun s => (l ++ [(i : Int)]) ++ s) = ((extL n left (i + 1)).map (fun s => (i : Int) :: s)).map fun s => l ++ s := by
      rw [List.map_map]
      refine List.map_congr_left (fun s _ => ?_)
      simp
     rw [hm] at h1
     rw [ZFJ hcc, List.map_append, Zhv]
     refine Ev.succ ?_
     simp only [FXD, hw, hc, hw1, hw2, decide_true, if_true, List.length_nil, Nat.zero_add, List.nil_append, List.length_singleton, g1, g2]
     refine Ev.bind (Ev.bind h1 (Ev.some _)) ?_
     simp only [hw1]
     exact ihd (i + 1) _ _ (by omega) (by omega)
    ·have hc : ¬ ((i + (left + 1) : Nat) : Int) ≤ (n : Int) := by omega
     rw [ZsN hcc, List.map_nil, Zgp]
     refine Ev.succ ?_
     simp only [FXD, hw, hc, decide_false, Bool.false_eq_true, if_false]
     exact Ev.some _
  refine Ev.succ ?_
  cases fd with
  | true => simp only [FXD, if_true]; exact Ev.some _
  | false =>
   have h0 : ¬ ((left + 1 : Nat) : Int) = 0 := by omega
   simp only [FXD, Bool.false_eq_true, if_false, h0, decide_false]
   exact Ev.bind (loop n fr false b (by omega) hfr) (Ev.some _)
theorem ZHq : ∀ (d i : Nat) (fd : Bool) (b : List Int), i + d = n + 1 → Ev (fun k => ZsL k (n : Int) b fd e a (i : Int)) (stepF P ((List.range d).flatMap fun j => extL n (i + j) 0) fd b).2
 | 0, i, fd, b, h => by
  have hc : ¬ (i : Int) ≤ (n : Int) := by omega
  refine Ev.succ ?_
  simp only [ZsL, hc, decide_false, Bool.false_eq_true, if_false, List.range_zero, List.flatMap_nil, Zgp]
  exact Ev.some _
 | d + 1, i, fd, b, h => by
  have hc : (i : Int) ≤ (n : Int) := by omega
  have hw1 : wrap64 ((i : Int) + 1) = ((i + 1 : Nat) : Int) := by rw [w64 (by omega) (by omega)]; omega
  refine Ev.succ ?_
  cases fd with
  | true =>
   simp only [ZsL, hc, decide_true, if_true, Bool.not_true, Bool.false_eq_true, if_false, ZC1]
   exact Ev.some _
  | false =>
   have h1 := ZJr e a n P hn hP i 0 [] false b (fun t ht => by cases ht) (by simp; omega) (by omega)
   simp only [List.nil_append, List.map_id', Int.natCast_zero] at h1
   rw [ZCt, Zhv]
   simp only [ZsL, hc, hw1, decide_true, if_true, Bool.not_false]
   exact Ev.bind h1 (ZHq d (i + 1) _ _ (by omega))
theorem ZJq : Ev (fun k => fYD k (n : Int) e a) (stepF P (allL n) false []).2 := by
 have h8 := ZHq e a n P hn hP (n + 1) 0 false [] (by omega)
 rw [ZDL] at h8
 refine Ev.succ ?_
 simp only [fYD]
 exact Ev.bind h8 (Ev.some _)
end
theorem ZtL (b : BoardD) (T : List (List Int)) (h0 : b.2.2.length ≤ 9223372036854775806) (h1 : T.length ≤ 9223372036854775806) (hx : ∀ x ∈ T, x.length ≤ 9223372036854775806) : Ev (fun k => Z9Y k b T) (ZU b T) := by
 refine Ev.succ ?_
 simp only [Z9Y, Z4G]
 unfold ZU
 refine Ev.bind (a := (smallB b && testsOK b T)) (ZaJ b T h0 h1 hx) ?_
 cases g0 : (smallB b && testsOK b T) with
 | false => simp only [Bool.not_false, if_true, Bool.false_eq_true, if_false, Bool.false_and, Bool.and_false]; exact Ev.some _
 | true =>
  simp only [Bool.not_true, Bool.false_eq_true, if_false, if_true, Bool.and_self]
  obtain ⟨hb, hn, hT⟩ := Z3e g0
  have hT1 : ∀ t ∈ T, t.length ≤ 1000 ∧ colsOK b t := fun t ht => ⟨by have := (hT t ht).1; omega, (hT t ht).2⟩
  have hC := Z7G hb hT1
  have hP : ∀ l, chOK l T.length → l.length ≤ T.length → Ev (fun k => fKT k l (casesL b T) ((classesL (keyC (casesL b T) (rangeI T.length)) (casesL b T).length).length : Int)) (tellP (casesL b T) T.length l) := by
   intro l hl hlen
   refine Ev.succ ?_
   simp only [fKT]
   refine Ev.bind (Zc8 hC l hl (by omega)) (Ev.of ?_)
   unfold tellP
   congr 1
   have := ZGd (casesL b T) T.length l hl
   rw [decide_eq_decide, ← this]
   omega
  have h8 := ZJs (casesL b T) ((classesL (keyC (casesL b T) (rangeI T.length)) (casesL b T).length).length : Int) T.length (tellP (casesL b T) T.length) hn hP
  rw [ZBJ _ _ (by unfold tellP; exact decide_eq_true rfl)] at h8
  refine Ev.bind (ZaM b hb T hT1 (by omega)) ?_
  refine Ev.bind (Ev.bind (Zch T (by omega)) (Ev.bind (Zc8 hC _ (Zar _) (by rw [Z7o]; omega)) (Ev.some _))) ?_
  exact Ev.bind h8 (Ev.some _)
theorem ZpJ (b : BoardD) (T : List (List Int)) (h0 : b.2.2.length ≤ 9223372036854775806) (h1 : T.length ≤ 9223372036854775806) (hx : ∀ x ∈ T, x.length ≤ 9223372036854775806) : Ev (fun k => Z7T k b T) (Z1o b T) := by
 refine Ev.succ ?_
 simp only [Z7T, Z3L]
 unfold Z1o
 refine Ev.bind (a := (smallB b && testsOK b T)) (ZaJ b T h0 h1 hx) ?_
 cases g0 : (smallB b && testsOK b T) with
 | false => simp only [Bool.not_false, if_true, Bool.false_eq_true, if_false, Bool.false_and, Bool.and_false]; exact Ev.some _
 | true =>
  simp only [Bool.not_true, Bool.false_eq_true, if_false, if_true, Bool.and_self]
  obtain ⟨hb, hn, hT⟩ := Z3e g0
  have hT1 : ∀ t ∈ T, t.length ≤ 1000 ∧ colsOK b t := fun t ht => ⟨by have := (hT t ht).1; omega, (hT t ht).2⟩
  have hC := Z7G hb hT1
  have hP : ∀ l, chOK l T.length → l.length ≤ T.length → Ev (fun k => fKD k l (casesL b T) (detI (casesL b T) (rangeI T.length))) (detPP (casesL b T) T.length l) := by
   intro l hl hlen
   have hdl := Zfg (fun j => !decide (keyC (casesL b T) l 0 = keyC (casesL b T) l (j + 1))) ((casesL b T).length - 1) 0
   have := hC.len
   refine Ev.succ ?_
   simp only [fKD]
   refine Ev.bind (a := detI (casesL b T) l) (ZeH hC l hl (by omega)) ?_
   exact Ev.bind (ZoJ _ _ (by unfold detI; omega)) (Ev.some _)
  have h8 := ZJq (casesL b T) (detI (casesL b T) (rangeI T.length)) T.length (detPP (casesL b T) T.length) hn hP
  rw [ZBJ _ _ (by unfold detPP; exact decide_eq_true rfl)] at h8
  refine Ev.bind (ZaM b hb T hT1 (by omega)) ?_
  refine Ev.bind (Ev.bind (Zch T (by omega)) (Ev.bind (ZeH hC _ (Zar _) (by rw [Z7o]; omega)) (Ev.some _))) ?_
  exact Ev.bind h8 (Ev.some _)
end
section
def faultOf (P : List FaultD) (x : Int) : List FaultD := if x ≥ 0 then [List.getD P x.toNat (0, 0, 0)] else []
theorem ZDh (b : BoardD) (T : List (List Int)) {k : Nat} (hk : k < (casesL b T).length) : List.getD (casesL b T) k [] = T.map (endsOf b (faultOf (possFrom b.2.1 0 b.2.2) ((k : Int) - 1))) := by
 cases k with
 | zero => simp [casesL, faultOf]
 | succ k =>
  have hk2 : k < (possFrom b.2.1 0 b.2.2).length := by simp [casesL] at hk; omega
  have h1 : ((k + 1 : Nat) : Int) - 1 = (k : Int) := by omega
  have h2 : (k : Int) ≥ 0 := by omega
  simp only [casesL, List.getD_cons_succ, h1, faultOf, h2, if_true, Int.toNat_natCast]
  simp [List.getD, List.getElem?_map, List.getElem?_eq_getElem hk2]
theorem ZIw {α : Type} (d : α) (l : List α) {n : Nat} (h : l.length = n) : (List.range n).map (fun t => List.getD l t d) = l := by
 subst h
 refine List.ext_getElem (by simp) (fun i h1 h2 => ?_)
 simp [List.getD, List.getElem?_eq_getElem h2]
theorem ZIR {C : List (List (List FallD))} {n k : Nat} (h : (List.getD C k []).length = n) : keyC C (rangeI n) k = List.getD C k [] := by
 unfold keyC rangeI
 rw [List.map_map]
 exact ZIw [] _ h
structure ClassOK (b : BoardD) (T : List (List Int)) (det : List Int) (P : List FaultD) (i : Nat) (cls : List Int) : Prop where
 some : cls ≠ []
 asc : List.Pairwise (fun a c : Int => a < c) cls
 same : ∃ E, (∀ x ∈ cls, x < (P.length : Int) ∧ T.map (endsOf b (faultOf P x)) = E ∧ decide (x ∈ det) = decide ((i : Int) > 0)) ∧ ZFZ b T E = (cls, true)
end
section
section
variable {α : Type} [DecidableEq α]
theorem ZEp {k1 k2 : Nat → α} {n : Nat} (h : ∀ i, i < n → k1 i = k2 i) {f : Nat} (hf : f < n) : isFirst k1 f = isFirst k2 f := by
 unfold isFirst
 rw [Bool.eq_iff_iff, List.all_eq_true, List.all_eq_true]
 constructor
 ·intro hh i hi
  have := of_decide_eq_true (hh i hi)
  have hi2 := List.mem_range.1 hi
  rw [h i (by omega), h f hf] at this
  exact decide_eq_true this
 ·intro hh i hi
  have := of_decide_eq_true (hh i hi)
  have hi2 := List.mem_range.1 hi
  rw [← h i (by omega), ← h f hf] at this
  exact decide_eq_true this
theorem ZEI {k1 k2 : Nat → α} {n : Nat} (h : ∀ i, i < n → k1 i = k2 i) : classesL k1 n = classesL k2 n := by
 have hf : firsts k1 n = firsts k2 n := by
  unfold firsts
  exact List.filter_congr (fun f hf => ZEp h (List.mem_range.1 hf))
 unfold classesL
 rw [hf]
 refine List.map_congr_left (fun f hm => ?_)
 have hfl := (ZiY k2 hm).1
 unfold members
 congr 1
 refine List.filter_congr (fun j hj => ?_)
 rw [h j (List.mem_range.1 hj), h f hfl]
end
theorem ZCT {α β : Type} [DecidableEq α] [DecidableEq β] (kL : Nat → α) (kA : Nat → β) (h : ∀ i j, kA i = kA j → kL i = kL j) (m : Nat) : classesL kL m = classesL kA m ↔ (classesL kL m).length = (classesL kA m).length := by
 constructor
 ·intro he; rw [he]
 ·intro he
  have hm := (Zlq kL kA h m).1 he
  rw [← ZjD, ← ZjD]
  unfold listsOf
  congr 1
  refine List.map_congr_left (fun f _ => ?_)
  congr 1
  refine List.filter_congr (fun j hj => ?_)
  rw [hm j (List.mem_range.1 hj)]
def chosen (T : List (List Int)) (l : List Int) : List (List Int) := l.map fun t => List.getD T t.toNat []
theorem Zsa (b : BoardD) (T : List (List Int)) (l : List Int) (hl : chOK l T.length) {j : Nat} (hj : j < (casesL b T).length) : keyC (casesL b (chosen T l)) (rangeI (chosen T l).length) j = keyC (casesL b T) l j := by
 have hj2 : j < (casesL b (chosen T l)).length := by simpa [casesL] using hj
 rw [ZIR (by rw [ZDh b (chosen T l) hj2, List.length_map]), ZDh b (chosen T l) hj2]
 unfold keyC chosen
 rw [List.map_map]
 refine List.map_congr_left (fun t ht => ?_)
 obtain ⟨h0, h1⟩ := hl t ht
 unfold cellC
 rw [ZDh b T hj]
 have hi : t.toNat < T.length := by omega
 simp [List.getD, List.getElem?_map, List.getElem?_eq_getElem hi]
theorem Zvj {b : BoardD} {T : List (List Int)} {l : List Int} (h : (smallB b && testsOK b T) = true) (hl : chOK l T.length) (hn : l.length ≤ 10) : (smallB b && testsOK b (chosen T l)) = true := by
 rw [Bool.and_eq_true] at h ⊢
 refine ⟨h.1, ?_⟩
 have h2 := h.2
 unfold testsOK at h2 ⊢
 rw [Bool.and_eq_true, List.all_eq_true] at h2 ⊢
 refine ⟨decide_eq_true (by simpa [chosen] using hn), fun x hx => ?_⟩
 obtain ⟨t, ht, rfl⟩ := List.mem_map.1 hx
 obtain ⟨h0, h1⟩ := hl t ht
 have hi : t.toNat < T.length := by omega
 refine h2.2 _ ?_
 rw [List.getD, List.getElem?_eq_getElem hi]
 exact List.getElem_mem hi
theorem ZpV {b : BoardD} {T : List (List Int)} {l : List Int} (h : (smallB b && testsOK b T) = true) (hl : chOK l T.length) (hn : l.length ≤ 10) : Zv b (chosen T l) = (classesL (keyC (casesL b T) l) (casesL b T).length, true) := by
 unfold Zv
 rw [if_pos (Zvj h hl hn)]
 congr 1
 have hlen : (casesL b (chosen T l)).length = (casesL b T).length := by simp [casesL]
 rw [hlen]
 exact ZEI (fun i hi => Zsa b T l hl hi)
theorem ZBD {b : BoardD} {T : List (List Int)} {l : List Int} (h : (smallB b && testsOK b T) = true) (hl : chOK l T.length) (hn : l.length ≤ 10) : Zl b (chosen T l) = (idxFrom (fun j => !decide (keyC (casesL b T) l 0 = keyC (casesL b T) l (j + 1))) 0 ((casesL b T).length - 1), true) := by
 unfold Zl
 rw [if_pos (Zvj h hl hn)]
 congr 1
 have hlen : (casesL b (chosen T l)).length = (casesL b T).length := by simp [casesL]
 have hpos : 0 < (casesL b T).length := by simp [casesL]
 rw [hlen]
 refine Z6j _ _ (fun i _ hi => ?_)
 rw [Zsa b T l hl hpos, Zsa b T l hl (by omega)]
theorem ZHV (C : List (List (List FallD))) {l : List Int} {n : Nat} (hl : chOK l n) (i j : Nat) (h : keyC C (rangeI n) i = keyC C (rangeI n) j) : keyC C l i = keyC C l j := by
 rw [ZkY] at h ⊢
 intro t ht
 obtain ⟨h0, h1⟩ := hl t ht
 refine h t ?_
 unfold rangeI
 exact List.mem_map.2 ⟨t.toNat, List.mem_range.2 (by omega), by omega⟩
end
section
def mostL : List (List Int) → Int → Int
 | [], v => v
 | x :: r, v => mostL r (if (x.length : Int) > v then (x.length : Int) else v)
def bfR (f : Nat → Int) : Nat → Nat → Int → Int → Int × Int
 | 0, _, b, l => (b, l)
 | d + 1, i, b, l => if l < 0 then bfR f d (i + 1) (i : Int) (f i) else if f i < l then bfR f d (i + 1) (i : Int) (f i) else bfR f d (i + 1) b l
theorem ZIW (v n : Int) : (if v > n then v else n) = if n > v then n else v := by
 split <;> split <;> omega
theorem Zj0 : ∀ (r pre : List (List Int)) (v : Int), (pre ++ r).length ≤ 1000000 → Ev (fun k => Z5k k (pre ++ r) v ((pre ++ r).length : Int) (pre.length : Int)) (mostL r v)
 | [], pre, v, hl => by
  refine Ev.succ ?_
  simp only [Z5k, Zj, decide_false, Bool.false_eq_true, if_false, mostL]
  exact Ev.some _
 | x :: r, pre, v, hl => by
  have ih := Zj0 r (pre ++ [x]) (if (x.length : Int) > v then (x.length : Int) else v) (by simpa using hl)
  refine Ev.succ ?_
  simp only [Z5k, Zc, Zr, decide_true, if_true, Int.toNat_natCast, Za]
  rw [Zd pre x r (by omega)]
  rw [← Z6] at ih
  have hm : Ev (fun k => Z4R k v (x.length : Int)) (if (x.length : Int) > v then (x.length : Int) else v) := by
   refine Ev.succ ?_
   simp only [Z4R, decide_eq_true_eq]
   rw [← ZIW]
   refine Ev.ite (fun h => ?_) (fun h => ?_)
   ·rw [if_pos h]; exact Ev.some _
   ·rw [if_neg h]; exact Ev.some _
  refine Ev.bind hm ?_
  simp only [mostL]
  exact ih
theorem ZFf {n i : Nat} (hi : i < n) : chOK [(i : Int)] n := fun t ht => by
 simp only [List.mem_singleton] at ht; omega
def longF (C : List (List (List FallD))) (t : Nat) : Int := mostL (classesL (keyC C [(t : Int)]) C.length) 0
theorem ZAA {C : List (List (List FallD))} {n : Nat} {L : Nat → Nat} (hC : Tab C n L) (t : Nat) (ht : t < n) : Ev (fun k => Zcc k (marksM C n C.length) (t : Int)) (longF C t) := by
 refine Ev.succ ?_
 simp only [Zcc]
 refine Ev.bind (ZcE hC [(t : Int)] (ZFf ht) (by simp)) (Ev.bind (ZqG _ _ _ hC.len) ?_)
 have h1 := Zho (keyC C [(t : Int)]) C.length
 have h2 := hC.len
 exact Ev.bind (Zj0 (classesL (keyC C [(t : Int)]) C.length) [] 0 (by simp; omega)) (Ev.some _)
theorem Z7y {C : List (List (List FallD))} {n : Nat} {L : Nat → Nat} (hC : Tab C n L) (hn : n ≤ 1000) : ∀ (d i : Nat) (b l : Int), i + d = n → Ev (fun k => Z1i k (marksM C n C.length) b l (n : Int) (i : Int)) (bfR (longF C) d i b l)
 | 0, i, b, l, h => by
  have hi : ¬ ((i : Int) < (n : Int)) := by omega
  refine Ev.succ ?_
  simp only [Z1i, hi, decide_false, Bool.false_eq_true, if_false, bfR]
  exact Ev.some _
 | d + 1, i, b, l, h => by
  have hi : (i : Int) < (n : Int) := by omega
  have hw : wrap64 ((i : Int) + 1) = ((i + 1 : Nat) : Int) := by rw [w64 (by omega) (by omega)]; omega
  refine Ev.succ ?_
  simp only [Z1i, hi, decide_true, if_true, bfR, hw]
  refine Ev.bind (ZAA hC i (by omega)) ?_
  refine Ev.ite (fun h1 => ?_) (fun h1 => ?_)
  ·simp only [decide_eq_true_eq] at h1; rw [if_pos h1]; exact Z7y hC hn d (i + 1) _ _ (by omega)
  ·simp only [decide_eq_true_eq] at h1; rw [if_neg h1]
   refine Ev.ite (fun h2 => ?_) (fun h2 => ?_)
   ·simp only [decide_eq_true_eq] at h2; rw [if_pos h2]; exact Z7y hC hn d (i + 1) _ _ (by omega)
   ·simp only [decide_eq_true_eq] at h2; rw [if_neg h2]; exact Z7y hC hn d (i + 1) _ _ (by omega)
theorem Zf5 (C : List (List (List FallD))) (a b t n i : Int) : ∀ (r pre : List (List Int)) (v : Int), (pre ++ r).length ≤ 1000000 → Ev (fun k => Z37 k C (pre ++ r) a b t v n i ((pre ++ r).length : Int) (pre.length : Int)) (C, a, b, t, mostL r v, n, i)
 | [], pre, v, hl => by
  refine Ev.succ ?_
  simp only [Z37, Zj, decide_false, Bool.false_eq_true, if_false, mostL]
  exact Ev.some _
 | x :: r, pre, v, hl => by
  have ih := Zf5 C a b t n i r (pre ++ [x]) (if (x.length : Int) > v then (x.length : Int) else v) (by simpa using hl)
  refine Ev.succ ?_
  simp only [Z37, Zc, Zr, decide_true, if_true, Int.toNat_natCast, Za]
  rw [Zd pre x r (by omega)]
  rw [← Z6] at ih
  simp only [mostL]
  rw [ZHf]
  exact ih
theorem Z7q {C : List (List (List FallD))} {n : Nat} {L : Nat → Nat} (hC : Tab C n L) (hn : n ≤ 1000) : ∀ (d i : Nat) (b l : Int), i + d = n → Ev (fun k => Z1k k C b l (n : Int) (i : Int)) (bfR (longF C) d i b l)
 | 0, i, b, l, h => by
  have hi : ¬ ((i : Int) < (n : Int)) := by omega
  refine Ev.succ ?_
  simp only [Z1k, hi, decide_false, Bool.false_eq_true, if_false, bfR]
  exact Ev.some _
 | d + 1, i, b, l, h => by
  have hi : (i : Int) < (n : Int) := by omega
  have hw : wrap64 ((i : Int) + 1) = ((i + 1 : Nat) : Int) := by rw [w64 (by omega) (by omega)]; omega
  refine Ev.succ ?_
  simp only [Z1k, hi, decide_true, if_true, bfR]
  refine Ev.bind (Zc8 hC [(i : Int)] (ZFf (by omega)) (by simp)) ?_
  have h1 := Zho (keyC C [(i : Int)]) C.length
  have h2 := hC.len
  refine Ev.bind (Zf5 C b l (i : Int) (n : Int) (i : Int) (classesL (keyC C [(i : Int)]) C.length) [] 0 (by simp; omega)) ?_
  dsimp only
  rw [hw]
  refine Ev.ite (fun h1 => ?_) (fun h1 => ?_)
  ·simp only [decide_eq_true_eq] at h1; rw [if_pos h1]; exact Z7q hC hn d (i + 1) _ _ (by omega)
  ·simp only [decide_eq_true_eq] at h1; rw [if_neg h1]
   refine Ev.ite (fun h2 => ?_) (fun h2 => ?_)
   ·simp only [decide_eq_true_eq] at h2; rw [if_pos (show longF C i < l from h2)]; exact Z7q hC hn d (i + 1) _ _ (by omega)
   ·simp only [decide_eq_true_eq] at h2; rw [if_neg (show ¬ longF C i < l from h2)]; exact Z7q hC hn d (i + 1) _ _ (by omega)
def Zp (b : BoardD) (T : List (List Int)) : Int × Int × Bool := if (smallB b && testsOK b T) then (if (T.length : Int) = 0 then (0, 0, false) else ((bfR (longF (casesL b T)) T.length 0 0 (-1)).1, (bfR (longF (casesL b T)) T.length 0 0 (-1)).2, true)) else (0, 0, false)
theorem Zrt (b : BoardD) (T : List (List Int)) (h0 : b.2.2.length ≤ 9223372036854775806) (h1 : T.length ≤ 9223372036854775806) (hx : ∀ x ∈ T, x.length ≤ 9223372036854775806) : Ev (fun k => Z8P k b T) (Zp b T) := by
 refine Ev.succ ?_
 simp only [Z8P]
 unfold Zp
 refine Ev.bind (a := (smallB b && testsOK b T)) (Zby b T h0 h1 hx) ?_
 cases g0 : (smallB b && testsOK b T) with
 | false => simp only [Bool.not_false, if_true, Bool.false_eq_true, if_false, Bool.false_and, Bool.and_false]; exact Ev.some _
 | true =>
  simp only [Bool.not_true, Bool.false_eq_true, if_false, if_true, Bool.and_self]
  obtain ⟨hb, hn, hT⟩ := Z3e g0
  have hT1 : ∀ t ∈ T, t.length ≤ 1000 ∧ colsOK b t := fun t ht => ⟨by have := (hT t ht).1; omega, (hT t ht).2⟩
  have hC := Z7G hb hT1
  refine Ev.ite (fun h => ?_) (fun h => ?_)
  ·simp only [decide_eq_true_eq] at h; rw [if_pos h]; exact Ev.some _
  ·simp only [decide_eq_true_eq] at h; rw [if_neg h]
   exact Ev.bind (ZbE b hb T hT1 (by omega)) (Ev.bind (Z7y hC (by omega) T.length 0 0 (-1) (by omega)) (Ev.some _))
theorem Zse (b : BoardD) (T : List (List Int)) (h0 : b.2.2.length ≤ 9223372036854775806) (h1 : T.length ≤ 9223372036854775806) (hx : ∀ x ∈ T, x.length ≤ 9223372036854775806) : Ev (fun k => Z8Y k b T) (Zp b T) := by
 refine Ev.succ ?_
 simp only [Z8Y]
 unfold Zp
 refine Ev.bind (a := (smallB b && testsOK b T)) (ZaJ b T h0 h1 hx) ?_
 cases g0 : (smallB b && testsOK b T) with
 | false => simp only [Bool.not_false, if_true, Bool.false_eq_true, if_false, Bool.false_and, Bool.and_false]; exact Ev.some _
 | true =>
  simp only [Bool.not_true, Bool.false_eq_true, if_false, if_true, Bool.and_self]
  obtain ⟨hb, hn, hT⟩ := Z3e g0
  have hT1 : ∀ t ∈ T, t.length ≤ 1000 ∧ colsOK b t := fun t ht => ⟨by have := (hT t ht).1; omega, (hT t ht).2⟩
  have hC := Z7G hb hT1
  refine Ev.ite (fun h => ?_) (fun h => ?_)
  ·simp only [decide_eq_true_eq] at h; rw [if_pos h]; exact Ev.some _
  ·simp only [decide_eq_true_eq] at h; rw [if_neg h]
   exact Ev.bind (ZaM b hb T hT1 (by omega)) (Ev.bind (Z7q hC (by omega) T.length 0 0 (-1) (by omega)) (Ev.some _))
end
section
theorem ZGh {l : List Int} (h : ∀ x ∈ l, Wf (.int .u8) x) : ∀ x ∈ l, 0 ≤ x ∧ x ≤ 255 := by
 intro x hx
 have h2 : (Lit.int .u8 x).wf = true := h x hx
 simp only [Lit.wf, Bool.and_eq_true, decide_eq_true_eq] at h2
 have e1 : IntKind.u8.min = 0 := by decide
 have e2 : IntKind.u8.max = 255 := by decide
 omega
def Cur (code : List Int) (at' n : Int) : Prop := (∀ x ∈ code, 0 ≤ x ∧ x ≤ 255) ∧ code.length ≤ 9223372036854775807 ∧ 0 ≤ at' ∧ at' + n ≤ 4611686018427387904
theorem Cur.to {code : List Int} {at' n at2 m : Int} (h : Cur code at' n) (h1 : at' ≤ at2) (h2 : at2 + m ≤ at' + n) : Cur code at2 m := ⟨h.1, h.2.1, by have := h.2.2.1; omega, by have := h.2.2.2; omega⟩
theorem Zow (n : Int) (h0 : 0 ≤ n) (h1 : n < 2 ^ 64) : IntKind.u64.wrap n = n := by
 have : (2 : Int) ^ 64 = 18446744073709551616 := by decide
 simp [IntKind.wrap, IntKind.bits, IntKind.signed]
 omega
theorem and255 (x : Int) : 0 ≤ bits BinOp.and IntKind.u64 x 255 ∧ bits BinOp.and IntKind.u64 x 255 ≤ 255 := by
 unfold bits
 simp only
 have h : ((BitVec.ofInt IntKind.u64.bits x &&& BitVec.ofInt IntKind.u64.bits 255).toNat) ≤ 255 := by
  rw [BitVec.toNat_and]
  exact Nat.and_le_right
 have h2 : ((2 : Int) ^ 64) = 18446744073709551616 := by decide
 rw [Zow _ (Int.natCast_nonneg _) (by omega)]
 omega
theorem ZDE {l : List Int} {i : Int} (h : i < (l.length : Int)) (h0 : 0 ≤ i) : List.getD l i.toNat 0 ∈ l := by
 have hi : i.toNat < l.length := by omega
 simp only [List.getD, List.getElem?_eq_getElem hi, Option.getD_some]
 exact List.getElem_mem hi
def seedN (s b : Int) : Int := IntKind.wrap IntKind.u64 (IntKind.wrap IntKind.u64 (IntKind.wrap IntKind.u64 (s * 6364136223846793005) + IntKind.wrap IntKind.u64 b) + 1442695040888963407)
theorem ZI9 {code : List Int} {at' : Int} (seed : Int) (h : Cur code at' 1) : ∃ v s, Ev (fun k => Z5Z k (code, at', seed)) (v, at' + 1, s) ∧ 0 ≤ v ∧ v ≤ 255 := by
 obtain ⟨hb, hl, h0, h1⟩ := h
 have w1 : wrap64 (at' + 1) = at' + 1 := w64 (by omega) (by omega)
 have big : ∀ x : Int, 0 ≤ wrap64 (bits BinOp.and IntKind.u64 x 255) ∧ wrap64 (bits BinOp.and IntKind.u64 x 255) ≤ 255 := fun x => by
  have := and255 x
  rw [w64 (by omega) (by omega)]
  exact this
 by_cases hin : at' < (code.length : Int)
 ·have hx := hb _ (ZDE hin h0)
  have w2 : wrap64 (List.getD code at'.toNat 0) = List.getD code at'.toNat 0 := w64 (by omega) (by omega)
  have hle : at' + 1 ≤ (code.length : Int) := by omega
  refine ⟨List.getD code at'.toNat 0, seedN seed (List.getD code at'.toNat 0), Ev.succ ?_, hx.1, hx.2⟩
  simp only [Z5Z, hin, h0, w1, hle, decide_true, if_true, w2]
  exact Ev.some _
 ·have hle : ¬ at' + 1 ≤ (code.length : Int) := by omega
  refine ⟨wrap64 (bits BinOp.and IntKind.u64 (Int.fdiv (seedN seed 0) (2 ^ min (Int.toNat 40) (IntKind.bits IntKind.u64))) 255), seedN seed 0, Ev.succ ?_, (big _).1, (big _).2⟩
  simp only [Z5Z, hin, w1, hle, decide_false, Bool.false_eq_true, if_false]
  exact Ev.some _
theorem ZC8 {code : List Int} {at' : Int} (seed n : Int) (h : Cur code at' 2) : ∃ v at2 s, Ev (fun k => Z1 k (code, at', seed) n) (v, at2, s) ∧ at' ≤ at2 ∧ at2 ≤ at' + 2 ∧ 0 ≤ v ∧ (n ≤ 1 → v = 0) ∧ (1 < n → v < n) := by
 by_cases hn : n ≤ 1
 ·refine ⟨0, at', seed, Ev.succ ?_, by omega, by omega, by omega, fun _ => rfl, fun h => by omega⟩
  simp only [Z1, hn, decide_true, if_true]
  exact Ev.some _
 ·obtain ⟨v1, s1, e1, b1, b2⟩ := ZI9 seed (h.to (at2 := at') (m := 1) (by omega) (by omega))
  by_cases hb : n > 200
  ·obtain ⟨v2, s2, e2, b3, b4⟩ := ZI9 s1 (h.to (at2 := at' + 1) (m := 1) (by omega) (by omega))
   have hp : 0 ≤ v1 * 256 + v2 := by omega
   refine ⟨Int.tmod (v1 * 256 + v2) n, at' + 1 + 1, s2, Ev.succ ?_, by omega, by omega, Int.tmod_nonneg _ hp, fun h => by omega, fun _ => Int.tmod_lt_of_pos _ (by omega)⟩
   have hn0 : ¬ n = 0 := by omega
   simp only [Z1, hn, decide_false, Bool.false_eq_true, if_false]
   refine Ev.bind e1 ?_
   simp only [hb, decide_true, if_true]
   refine Ev.bind e2 ?_
   simp only [hn0, if_false]
   rw [w64 (n := v1 * 256) (by omega) (by omega), w64 (n := v1 * 256 + v2) (by omega) (by omega)]
   exact Ev.some _
  ·refine ⟨Int.tmod v1 n, at' + 1, s1, Ev.succ ?_, by omega, by omega, Int.tmod_nonneg _ b1, fun h => by omega, fun _ => Int.tmod_lt_of_pos _ (by omega)⟩
   have hn0 : ¬ n = 0 := by omega
   simp only [Z1, hn, decide_false, Bool.false_eq_true, if_false]
   refine Ev.bind e1 ?_
   simp only [hb, decide_false, Bool.false_eq_true, if_false, hn0]
   exact Ev.some _
theorem Zgc {code : List Int} {at' : Int} (seed : Int) (l : List Int) (hl : 0 < l.length) (h : Cur code at' 2) : ∃ v at2 s, Ev (fun k => Zb k (code, at', seed) l) (v, at2, s) ∧ at' ≤ at2 ∧ at2 ≤ at' + 2 ∧ v ∈ l := by
 obtain ⟨v, at2, s, e1, b1, b2, b3, b4, b5⟩ := ZC8 seed (l.length : Int) h
 have hlt : v < (l.length : Int) := by
  by_cases h1 : (l.length : Int) ≤ 1
  ·rw [b4 h1]; omega
  ·exact b5 (by omega)
 refine ⟨List.getD l v.toNat 0, at2, s, Ev.succ ?_, b1, b2, ZDE hlt b3⟩
 simp only [Zb]
 refine Ev.bind e1 ?_
 simp only [b3, hlt, if_true]
 exact Ev.some _
end
section
theorem ZB4 {code : List Int} {at' : Int} (seed n : Int) (h : Cur code at' 2) : ∃ b at2 s, Ev (fun k => ZC k (code, at', seed) n) (b, at2, s) ∧ at' ≤ at2 ∧ at2 ≤ at' + 2 := by
 obtain ⟨v, at2, s, e1, b1, b2, _⟩ := ZC8 seed n h
 refine ⟨decide (v = 0), at2, s, Ev.succ ?_, b1, b2⟩
 simp only [ZC]
 exact Ev.bind e1 (Ev.some _)
theorem Zg5 {code : List Int} {at' : Int} (seed n : Int) (h : Cur code at' 2) (hn : 0 < n) : ∃ v at2 s, Ev (fun k => Z1 k (code, at', seed) n) (v, at2, s) ∧ at' ≤ at2 ∧ at2 ≤ at' + 2 ∧ 0 ≤ v ∧ v < n := by
 obtain ⟨v, at2, s, e1, b1, b2, b3, b4, b5⟩ := ZC8 seed n h
 refine ⟨v, at2, s, e1, b1, b2, b3, ?_⟩
 by_cases h1 : n ≤ 1
 ·rw [b4 h1]; exact hn
 ·exact b5 (by omega)
end
section
theorem Zwz : ∀ (d : Nat) (v : Int) (acc : List (Int × Int)), v + d = 8 → 0 ≤ v → (acc.length : Int) ≤ 2 * v → (0 < v → 0 < acc.length) → ∃ l, Ev (fun k => Z5h k acc v) l ∧ 0 < l.length ∧ l.length ≤ 16
 | 0, v, acc, hv, h0, h1, h2 => by
  have hn : ¬ v ≤ 7 := by omega
  refine ⟨acc, Ev.succ ?_, h2 (by omega), by omega⟩
  simp only [Z5h, hn, decide_false, Bool.false_eq_true, if_false]
  exact Ev.some _
 | d + 1, v, acc, hv, h0, h1, h2 => by
  have hle : v ≤ 7 := by omega
  have hw : wrap64 (v + 1) = v + 1 := w64 (by omega) (by omega)
  have hal : acc.length + 1 ≤ 140737488355328 / 16 := by omega
  have hal2 : (acc ++ [(v, (0 : Int))]).length + 1 ≤ 140737488355328 / 16 := by simp; omega
  have ht := Z9k (v, 1)
  cases hb : turning (v, 1) with
  | true =>
   rw [hb] at ht
   obtain ⟨l, e1, g1, g2⟩ := Zwz d (v + 1) (acc ++ [(v, 0)] ++ [(v, 1)]) (by omega) (by omega) (by simp; omega) (by simp)
   refine ⟨l, Ev.succ ?_, g1, g2⟩
   simp only [Z5h, hle, decide_true, if_true, List.length_singleton, hal, hw]
   refine Ev.bind ht ?_
   simp only [if_true, hal2]
   exact e1
  | false =>
   rw [hb] at ht
   obtain ⟨l, e1, g1, g2⟩ := Zwz d (v + 1) (acc ++ [(v, 0)]) (by omega) (by omega) (by simp; omega) (by simp)
   refine ⟨l, Ev.succ ?_, g1, g2⟩
   simp only [Z5h, hle, decide_true, if_true, List.length_singleton, hal, hw]
   refine Ev.bind ht ?_
   simp only [Bool.false_eq_true, if_false]
   exact e1
theorem ZIj {code : List Int} {at' : Int} (seed : Int) (h : Cur code at' 2) : ∃ x at2 s, Ev (fun k => Z4e k (code, at', seed)) (x, at2, s) ∧ at' ≤ at2 ∧ at2 ≤ at' + 2 := by
 obtain ⟨l, e0, g1, g2⟩ := Zwz 8 0 [] (by omega) (by omega) (by simp) (by omega)
 obtain ⟨v, at2, s, e1, b1, b2, b3, b4⟩ := Zg5 seed (l.length : Int) h (by omega)
 refine ⟨(List.getD l v.toNat (0, 0)), at2, s, Ev.succ ?_, b1, b2⟩
 have hp : Ev (fun k => Zh1 k) l := by
  refine Ev.succ ?_
  simp only [Zh1]
  exact Ev.bind e0 (Ev.some _)
 simp only [Z4e]
 refine Ev.bind hp (Ev.bind e1 ?_)
 simp only [b3, b4, if_true]
 exact Ev.some _
theorem ZIa {code : List Int} {at' : Int} (seed : Int) (h : Cur code at' 6) : ∃ x at2 s, Ev (fun k => Z1f k (code, at', seed)) (x, at2, s) ∧ at' ≤ at2 ∧ at2 ≤ at' + 6 := by
 obtain ⟨x, a0, s0, e0, b1, b2⟩ := ZIj seed (h.to (at2 := at') (m := 2) (by omega) (by omega))
 obtain ⟨v, a1, s1, e1, b3, b4, _⟩ := Zg5 s0 20 (h.to (at2 := a0) (m := 2) (by omega) (by omega)) (by omega)
 by_cases h0 : v = 0
 ·obtain ⟨y, a2, s2, e2, b5, b6, _⟩ := Zgc s1 [-1, 8] (by simp) (h.to (at2 := a1) (m := 2) (by omega) (by omega))
  refine ⟨(y, x.2), a2, s2, Ev.succ ?_, by omega, by omega⟩
  simp only [Z1f]
  refine Ev.bind e0 (Ev.bind e1 ?_)
  simp only [h0, decide_true, if_true]
  exact Ev.bind e2 (Ev.some _)
 ·by_cases h1 : v = 1
  ·obtain ⟨y, a2, s2, e2, b5, b6, _⟩ := Zgc s1 [-1, 1, 2] (by simp) (h.to (at2 := a1) (m := 2) (by omega) (by omega))
   refine ⟨(x.1, y), a2, s2, Ev.succ ?_, by omega, by omega⟩
   simp only [Z1f]
   refine Ev.bind e0 (Ev.bind e1 ?_)
   subst h1
   simp only [h0, decide_true, decide_false, Bool.false_eq_true, if_false, if_true]
   exact Ev.bind e2 (Ev.some _)
  ·refine ⟨(x.1, x.2), a1, s1, Ev.succ ?_, by omega, by omega⟩
   simp only [Z1f]
   refine Ev.bind e0 (Ev.bind e1 ?_)
   simp only [h0, h1, decide_false, Bool.false_eq_true, if_false]
   exact Ev.some _
theorem ZyW (code : List Int) (n : Nat) (hn : n ≤ 1000) (v1 v2 v8 b30 b31 b50 b51 : Int) (o4 : List (Int × Int)) (hw : wrap64 (v1 * v2) = (n : Int)) : ∀ (d : Nat) (acc : List (Int × Int)) (at' seed : Int), acc.length + d = n → Cur code at' (10 * d) → ∃ at2 s l, Ev (fun k => Z8 k at' seed code b30 b31 o4 b50 b51 acc v1 v2 v8) (at2, s, code, b30, b31, o4, b50, b51, l) ∧ l.length = n ∧ at' ≤ at2 ∧ at2 ≤ at' + 10 * d
 | 0, acc, at', seed, h, hc => by
  have hlt : ¬ (acc.length : Int) < (n : Int) := by omega
  refine ⟨at', seed, acc, Ev.succ ?_, by omega, by omega, by omega⟩
  simp only [Z8, hw, hlt, decide_false, Bool.false_eq_true, if_false]
  exact Ev.some _
 | d + 1, acc, at', seed, h, hc => by
  have hlt : (acc.length : Int) < (n : Int) := by omega
  have hal : acc.length + 1 ≤ 140737488355328 / 16 := by omega
  have step : ∀ (x : Int × Int) (a1 s1 : Int), at' ≤ a1 → a1 ≤ at' + 10 → ∃ at2 s l, Ev (fun k => Z8 k a1 s1 code b30 b31 o4 b50 b51 (acc ++ [x]) v1 v2 v8) (at2, s, code, b30, b31, o4, b50, b51, l) ∧ l.length = n ∧ at' ≤ at2 ∧ at2 ≤ at' + 10 * ((d + 1 : Nat) : Int) := by
   intro x a1 s1 g1 g2
   obtain ⟨a2, s2, l, e, c1, c2, c3⟩ := ZyW code n hn v1 v2 v8 b30 b31 b50 b51 o4 hw d (acc ++ [x]) a1 s1 (by simp; omega) (hc.to (at2 := a1) (by omega) (by omega))
   exact ⟨a2, s2, l, e, c1, by omega, by omega⟩
  have part : ∀ (a1 s1 : Int), at' ≤ a1 → a1 ≤ at' + 4 → ∃ at2 s l, Ev (fun k => Option.bind (Z4e k (code, a1, s1)) fun z2 => if decide (z2.1.1 = 5) = true then Option.bind (ZC k (code, z2.2.1, z2.2.2) 3) fun z3 => if (!z3.1) = true then Option.bind (Z1 k (code, z3.2.1, z3.2.2) 2) fun z4 => Z8 k z4.2.1 z4.2.2 code b30 b31 o4 b50 b51 (acc ++ [(3, z4.1)]) v1 v2 v8 else Z8 k z3.2.1 z3.2.2 code b30 b31 o4 b50 b51 (acc ++ [(z2.1.1, z2.1.2)]) v1 v2 v8 else Z8 k z2.2.1 z2.2.2 code b30 b31 o4 b50 b51 (acc ++ [(z2.1.1, z2.1.2)]) v1 v2 v8) (at2, s, code, b30, b31, o4, b50, b51, l) ∧ l.length = n ∧ at' ≤ at2 ∧ at2 ≤ at' + 10 * ((d + 1 : Nat) : Int) := by
   intro a1 s1 g1 g2
   obtain ⟨x, a2, s2, e2, b1, b2⟩ := ZIj s1 (hc.to (at2 := a1) (m := 2) (by omega) (by omega))
   by_cases hx : x.1 = 5
   ·obtain ⟨q, a3, s3, e3, b3, b4⟩ := ZB4 s2 3 (hc.to (at2 := a2) (m := 2) (by omega) (by omega))
    cases q with
    | true =>
     obtain ⟨a5, s5, l, e5, c1, c2, c3⟩ := step (x.1, x.2) a3 s3 (by omega) (by omega)
     refine ⟨a5, s5, l, Ev.bind e2 ?_, c1, c2, c3⟩
     simp only [hx, decide_true, if_true]
     refine Ev.bind e3 ?_
     simp only [Bool.not_true, Bool.false_eq_true, if_false]
     rw [hx] at e5
     exact e5
    | false =>
     obtain ⟨v, a4, s4, e4, b5, b6, _⟩ := Zg5 s3 2 (hc.to (at2 := a3) (m := 2) (by omega) (by omega)) (by omega)
     obtain ⟨a5, s5, l, e5, c1, c2, c3⟩ := step (3, v) a4 s4 (by omega) (by omega)
     refine ⟨a5, s5, l, Ev.bind e2 ?_, c1, c2, c3⟩
     simp only [hx, decide_true, if_true]
     refine Ev.bind e3 ?_
     simp only [Bool.not_false, if_true]
     exact Ev.bind e4 e5
   ·obtain ⟨a5, s5, l, e5, c1, c2, c3⟩ := step (x.1, x.2) a2 s2 (by omega) (by omega)
    refine ⟨a5, s5, l, Ev.bind e2 ?_, c1, c2, c3⟩
    simp only [hx, decide_false, Bool.false_eq_true, if_false]
    exact e5
  obtain ⟨q, a1, s1, e1, b1, b2⟩ := ZB4 seed v8 (hc.to (at2 := at') (m := 2) (by omega) (by omega))
  cases q with
  | true =>
   obtain ⟨a5, s5, l, e5, c1, c2, c3⟩ := part a1 s1 b1 (by omega)
   refine ⟨a5, s5, l, Ev.succ ?_, c1, c2, c3⟩
   simp only [Z8, hw, hlt, decide_true, if_true]
   refine Ev.bind e1 ?_
   simp only [if_true, List.length_singleton, hal]
   exact e5
  | false =>
   obtain ⟨q2, a2, s2, e2, b3, b4⟩ := ZB4 s1 3 (hc.to (at2 := a1) (m := 2) (by omega) (by omega))
   cases q2 with
   | true =>
    obtain ⟨a5, s5, l, e5, c1, c2, c3⟩ := part a2 s2 (by omega) (by omega)
    refine ⟨a5, s5, l, Ev.succ ?_, c1, c2, c3⟩
    simp only [Z8, hw, hlt, decide_true, if_true]
    refine Ev.bind e1 ?_
    simp only [Bool.false_eq_true, if_false]
    refine Ev.bind e2 ?_
    simp only [if_true, List.length_singleton, hal]
    exact e5
   | false =>
    obtain ⟨a5, s5, l, e5, c1, c2, c3⟩ := step (0, 0) a2 s2 (by omega) (by omega)
    refine ⟨a5, s5, l, Ev.succ ?_, c1, c2, c3⟩
    simp only [Z8, hw, hlt, decide_true, if_true]
    refine Ev.bind e1 ?_
    simp only [Bool.false_eq_true, if_false]
    refine Ev.bind e2 ?_
    simp only [Bool.false_eq_true, if_false, List.length_singleton, hal, if_true]
    exact e5
theorem Zw4 {code : List Int} {at' : Int} (seed r c : Int) (n : Nat) (hw : wrap64 (r * c) = (n : Int)) (hn : n ≤ 100) (h : Cur code at' 1010) : ∃ l at2 s, Ev (fun k => Z1g k (code, at', seed) r c) ((r, c, l), at2, s) ∧ at' ≤ at2 ∧ at2 ≤ at' + 1010 ∧ l.length = n := by
 obtain ⟨v, a0, s0, e0, b1, b2, _⟩ := Zgc seed [1, 2, 2] (by simp) (h.to (at2 := at') (m := 2) (by omega) (by omega))
 obtain ⟨a1, s1, l, e1, c1, c2, c3⟩ := ZyW code n (by omega) r c v 0 0 r c [] hw n [] a0 s0 (by simp) (h.to (at2 := a0) (by omega) (by omega))
 refine ⟨l, a1, s1, Ev.succ ?_, by omega, by omega, c1⟩
 simp only [Z1g]
 exact Ev.bind e0 (Ev.bind e1 (Ev.some _))
theorem Zxf {r c : Int} (r1 : 1 ≤ r) (r2 : r ≤ 10) (c1 : 1 ≤ c) (c2 : c ≤ 9) : 1 ≤ r * c ∧ r * c ≤ 90 := by
 have h1 : r * c ≤ 10 * 9 := Int.mul_le_mul r2 c2 (by omega) (by omega)
 have h2 : 1 * 1 ≤ r * c := Int.mul_le_mul r1 c1 (by omega) (by omega)
 omega
theorem ZIZ {code : List Int} {at' : Int} (seed : Int) (h : Cur code at' 1020) : ∃ r c l at2 s, Ev (fun k => Z7J k (code, at', seed)) ((r, c, l), at2, s) ∧ at' ≤ at2 ∧ at2 ≤ at' + 1020 ∧ 1 ≤ r ∧ r ≤ 10 ∧ 1 ≤ c ∧ c ≤ 9 ∧ (l.length : Int) = r * c := by
 obtain ⟨q, a0, s0, e0, b1, b2⟩ := ZB4 seed 20 (h.to (at2 := at') (m := 2) (by omega) (by omega))
 cases q with
 | true =>
  obtain ⟨r, a1, s1, e1, b3, b4, b5⟩ := Zgc s0 [1, 10] (by simp) (h.to (at2 := a0) (m := 2) (by omega) (by omega))
  obtain ⟨c, a2, s2, e2, b6, b7, b8⟩ := Zgc s1 [1, 9] (by simp) (h.to (at2 := a1) (m := 2) (by omega) (by omega))
  simp only [List.mem_cons, List.not_mem_nil, or_false] at b5 b8
  have hp := Zxf (r := r) (c := c) (by omega) (by omega) (by omega) (by omega)
  obtain ⟨l, a3, s3, e3, c1, c2, c3⟩ := Zw4 s2 r c (r * c).toNat (by rw [w64 (by omega) (by omega)]; omega) (by omega) (h.to (at2 := a2) (by omega) (by omega))
  refine ⟨r, c, l, a3, s3, Ev.succ ?_, by omega, by omega, by omega, by omega, by omega, by omega, by omega⟩
  simp only [Z7J]
  refine Ev.bind e0 ?_
  simp only [if_true]
  exact Ev.bind e1 (Ev.bind e2 (Ev.bind e3 (Ev.some _)))
 | false =>
  obtain ⟨r, a1, s1, e1, b3, b4, b5, b6⟩ := Zg5 s0 5 (h.to (at2 := a0) (m := 2) (by omega) (by omega)) (by omega)
  obtain ⟨c, a2, s2, e2, b7, b8, b9, b10⟩ := Zg5 s1 5 (h.to (at2 := a1) (m := 2) (by omega) (by omega)) (by omega)
  have w1 : wrap64 (1 + r) = 1 + r := w64 (by omega) (by omega)
  have w2 : wrap64 (1 + c) = 1 + c := w64 (by omega) (by omega)
  have hp := Zxf (r := 1 + r) (c := 1 + c) (by omega) (by omega) (by omega) (by omega)
  obtain ⟨l, a3, s3, e3, c1, c2, c3⟩ := Zw4 s2 (1 + r) (1 + c) ((1 + r) * (1 + c)).toNat (by rw [w64 (by omega) (by omega)]; omega) (by omega) (h.to (at2 := a2) (by omega) (by omega))
  refine ⟨1 + r, 1 + c, l, a3, s3, Ev.succ ?_, by omega, by omega, by omega, by omega, by omega, by omega, by omega⟩
  simp only [Z7J]
  refine Ev.bind e0 ?_
  simp only [Bool.false_eq_true, if_false]
  refine Ev.bind e1 (Ev.bind e2 ?_)
  simp only [w1, w2]
  exact Ev.bind e3 (Ev.some _)
theorem ZHu {code : List Int} {at' : Int} (seed : Int) (h : Cur code at' 1040) : ∃ b at2 s, Ev (fun k => Zs k (code, at', seed)) (b, at2, s) ∧ at' ≤ at2 ∧ at2 ≤ at' + 1040 ∧ b.2.2.length ≤ 91 := by
 obtain ⟨r, c, l, a0, s0, e0, b1, b2, r1, r2, c1, c2, hl⟩ := ZIZ seed (h.to (at2 := at') (by omega) (by omega))
 obtain ⟨v, a1, s1, e1, b3, b4, _⟩ := Zg5 s0 36 (h.to (at2 := a0) (m := 2) (by omega) (by omega)) (by omega)
 have hp := Zxf r1 r2 c1 c2
 by_cases v0 : v = 0
 ·subst v0
  obtain ⟨x, a2, s2, e2, b5, b6, _⟩ := Zgc s1 [0, wrap64 (r + 1), 10, 11] (by simp) (h.to (at2 := a1) (m := 2) (by omega) (by omega))
  refine ⟨(x, c, l), a2, s2, Ev.succ ?_, by omega, by omega, by dsimp only; omega⟩
  simp only [Zs]
  refine Ev.bind e0 (Ev.bind e1 ?_)
  simp only [decide_true, if_true]
  exact Ev.bind e2 (Ev.some _)
 by_cases v1 : v = 1
 ·subst v1
  obtain ⟨x, a2, s2, e2, b5, b6, _⟩ := Zgc s1 [0, wrap64 (c + 1), 9, 10] (by simp) (h.to (at2 := a1) (m := 2) (by omega) (by omega))
  refine ⟨(r, x, l), a2, s2, Ev.succ ?_, by omega, by omega, by dsimp only; omega⟩
  simp only [Zs]
  refine Ev.bind e0 (Ev.bind e1 ?_)
  simp only [v0, decide_true, decide_false, Bool.false_eq_true, if_false, if_true]
  exact Ev.bind e2 (Ev.some _)
 by_cases v2 : v = 2
 ·subst v2
  obtain ⟨i, a2, s2, e2, b5, b6, b7, b8⟩ := Zg5 s1 (l.length : Int) (h.to (at2 := a1) (m := 2) (by omega) (by omega)) (by omega)
  obtain ⟨x, a3, s3, e3, b9, b10⟩ := ZIa s2 (h.to (at2 := a2) (by omega) (by omega))
  have hg : Ev (fun k => Z1u k a1 s1 code 0 0 [] r c l) (a3, s3, code, 0, 0, [], r, c, List.set l i.toNat (x.1, x.2)) := by
   simp only [Z1u]
   refine Ev.bind e2 (Ev.bind e3 ?_)
   simp only [b7, b8, if_true]
   exact Ev.some _
  refine ⟨(r, c, List.set l i.toNat (x.1, x.2)), a3, s3, Ev.succ ?_, by omega, by omega, by dsimp only; rw [List.length_set]; omega⟩
  simp only [Zs]
  refine Ev.bind e0 (Ev.bind e1 ?_)
  simp only [v0, v1, decide_true, decide_false, Bool.false_eq_true, if_false, if_true]
  exact Ev.bind hg (Ev.some _)
 by_cases v3 : v = 3
 ·subst v3
  have h1 : 1 ≤ (l.length : Int) := by omega
  refine ⟨(r, c, List.drop (Int.toNat 1) l), a1, s1, Ev.succ ?_, by omega, by omega, by dsimp only; rw [List.length_drop]; omega⟩
  simp only [Zs]
  refine Ev.bind e0 (Ev.bind e1 ?_)
  simp only [v0, v1, v2, decide_true, decide_false, Bool.false_eq_true, if_false, if_true, h1, Int.le_refl]
  exact Ev.some _
 by_cases v4 : v = 4
 ·subst v4
  refine ⟨(11, 2, List.replicate (Int.toNat 22) (0, 0)), a1, s1, Ev.succ ?_, by omega, by omega, by dsimp only; rw [List.length_replicate]; decide⟩
  simp only [Zs]
  refine Ev.bind e0 (Ev.bind e1 ?_)
  simp only [v0, v1, v2, v3, decide_true, decide_false, Bool.false_eq_true, if_false, if_true]
  exact Ev.some _
 by_cases v5 : v = 5
 ·subst v5
  refine ⟨(2, 10, List.replicate (Int.toNat 20) (0, 0)), a1, s1, Ev.succ ?_, by omega, by omega, by dsimp only; rw [List.length_replicate]; decide⟩
  simp only [Zs]
  refine Ev.bind e0 (Ev.bind e1 ?_)
  simp only [v0, v1, v2, v3, v4, decide_true, decide_false, Bool.false_eq_true, if_false, if_true]
  exact Ev.some _
 refine ⟨(r, c, l), a1, s1, Ev.succ ?_, by omega, by omega, by dsimp only; omega⟩
 simp only [Zs]
 refine Ev.bind e0 (Ev.bind e1 ?_)
 simp only [v0, v1, v2, v3, v4, v5, decide_false, Bool.false_eq_true, if_false]
 exact Ev.some _
end
section
theorem ZJo (a b : Int) : ∃ m, Ev (fun k => Z4R k a b) m ∧ a ≤ m ∧ (m = a ∨ m = b) := by
 by_cases h : a > b
 ·refine ⟨a, Ev.succ ?_, by omega, .inl rfl⟩
  simp only [Z4R, h, decide_true, if_true]
  exact Ev.some _
 ·refine ⟨b, Ev.succ ?_, by omega, .inr rfl⟩
  simp only [Z4R, h, decide_false, Bool.false_eq_true, if_false]
  exact Ev.some _
end
section
end
section
def EvP {α : Type} (f : Nat → Option α) (Q : α → Prop) : Prop := ∃ v, Ev f v ∧ Q v
section
variable {α β : Type} {f g : Nat → Option α} {Q : α → Prop} {Q1 : β → Prop}
theorem EvP.some {v : α} (h : Q v) : EvP (fun _ => some v) Q := ⟨v, Ev.some v, h⟩
theorem EvP.succ (h : EvP (fun k => f (k + 1)) Q) : EvP f Q := by
 obtain ⟨v, h1, h2⟩ := h
 exact ⟨v, Ev.succ h1, h2⟩
theorem EvP.bind {x : Nat → Option β} {y : β → Nat → Option α} (h : EvP x Q1) (h2 : ∀ a, Q1 a → EvP (y a) Q) : EvP (fun k => Option.bind (x k) fun z => y z k) Q := by
 obtain ⟨a, h1, h3⟩ := h
 obtain ⟨v, h4, h5⟩ := h2 a h3
 exact ⟨v, Ev.bind h1 h4, h5⟩
theorem EvP.ite {c : Prop} [Decidable c] (h1 : c → EvP f Q) (h2 : ¬ c → EvP g Q) : EvP (fun k => if c then f k else g k) Q := by
 by_cases hc : c
 ·simp only [if_pos hc]; exact h1 hc
 ·simp only [if_neg hc]; exact h2 hc
theorem EvP.guard {c : Prop} [Decidable c] (hc : c) (h : EvP f Q) : EvP (fun k => if c then f k else none) Q := by
 simp only [if_pos hc]; exact h
theorem EvP.mono {Q' : α → Prop} (h : EvP f Q) (hq : ∀ v, Q v → Q' v) : EvP f Q' := by
 obtain ⟨v, h1, h2⟩ := h
 exact ⟨v, h1, hq v h2⟩
theorem EvP.ev {v : α} (h : Ev f v) (hq : Q v) : EvP f Q := ⟨v, h, hq⟩
end
section
variable {code : List Int} {at' seed : Int}
theorem ZaT (n : Int) (h : Cur code at' 2) (hn : 0 < n) : EvP (fun k => Z1 k (code, at', seed) n) (fun r => at' ≤ r.2.1 ∧ r.2.1 ≤ at' + 2 ∧ 0 ≤ r.1 ∧ r.1 < n) := by
 obtain ⟨v, a, s, e, h1, h2, h3, h4⟩ := Zg5 seed n h hn
 exact ⟨_, e, h1, h2, h3, h4⟩
theorem ZJ1 (n : Int) (h : Cur code at' 2) : EvP (fun k => Z1 k (code, at', seed) n) (fun r => at' ≤ r.2.1 ∧ r.2.1 ≤ at' + 2 ∧ 0 ≤ r.1) := by
 obtain ⟨v, a, s, e, h1, h2, h3, _⟩ := ZC8 seed n h
 exact ⟨_, e, h1, h2, h3⟩
theorem ZBO (n : Int) (h : Cur code at' 2) : EvP (fun k => ZC k (code, at', seed) n) (fun r => at' ≤ r.2.1 ∧ r.2.1 ≤ at' + 2) := by
 obtain ⟨v, a, s, e, h1, h2⟩ := ZB4 seed n h
 exact ⟨_, e, h1, h2⟩
theorem ZHe (l : List Int) (hl : 0 < l.length) (h : Cur code at' 2) : EvP (fun k => Zb k (code, at', seed) l) (fun r => at' ≤ r.2.1 ∧ r.2.1 ≤ at' + 2 ∧ r.1 ∈ l) := by
 obtain ⟨v, a, s, e, h1, h2, h3⟩ := Zgc seed l hl h
 exact ⟨_, e, h1, h2, h3⟩
theorem ZB7 (h : Cur code at' 1040) : EvP (fun k => Zs k (code, at', seed)) (fun r => at' ≤ r.2.1 ∧ r.2.1 ≤ at' + 1040 ∧ r.1.2.2.length ≤ 91) := by
 obtain ⟨x, a, s, e, h1, h2, h3⟩ := ZHu seed h
 exact ⟨_, e, h1, h2, h3⟩
end
end
section
theorem two64 : (2 : Int) ^ 64 = 18446744073709551616 := by decide
theorem and1 (x : Int) : bits BinOp.and IntKind.i64 x 1 = 0 ∨ bits BinOp.and IntKind.i64 x 1 = 1 := by
 unfold bits
 simp only
 have h : ((BitVec.ofInt IntKind.i64.bits x &&& BitVec.ofInt IntKind.i64.bits 1).toNat) ≤ 1 := by
  rw [BitVec.toNat_and]
  exact Nat.and_le_right
 generalize (BitVec.ofInt IntKind.i64.bits x &&& BitVec.ofInt IntKind.i64.bits 1).toNat = m at h
 have : m = 0 ∨ m = 1 := by omega
 rcases this with rfl | rfl
 ·left; decide
 ·right; decide
theorem ZIT (s v : Int) (h0 : 0 ≤ v) (h1 : v ≤ 100) : EvP (fun k => ZgX k s v) (fun b => b = 0 ∨ b = 1) := by
 refine EvP.succ ?_
 have hw : IntKind.wrap IntKind.u64 v = v := Zow v h0 (by rw [two64]; omega)
 have hn : ¬ v < 0 := by omega
 simp only [ZgX, hw, hn, if_false]
 exact EvP.some (and1 _)
theorem Zzb (n : Nat) (hn : n ≤ 4) (set d1 d2 e1 e2 : Int) (o2 : List CellD) : ∀ (d i : Nat) (o : List CellD), i + d = n → o.length = 6 * n → (∀ x ∈ o, cellOK x = true) →
    EvP (fun k => Z73 k d1 d2 o2 e1 e2 o (n : Int) set (i : Int)) (fun r => r.2.2.2.1 = e1 ∧ r.2.2.2.2.1 = e2 ∧ r.2.2.2.2.2.length = 6 * n ∧ ∀ x ∈ r.2.2.2.2.2, cellOK x = true)
  | 0, i, o, h, ho, hx => by
    refine EvP.succ ?_
    have hlt : ¬ (i : Int) < (n : Int) := by omega
    simp only [Z73, hlt, decide_false, Bool.false_eq_true, if_false]
    exact EvP.some ⟨rfl, rfl, ho, hx⟩
  | d + 1, i, o, h, ho, hx => by
    refine EvP.succ ?_
    have hlt : (i : Int) < (n : Int) := by omega
    have w1 : wrap64 (wrap64 (6 * (i : Int)) + 1) = ((6 * i + 1 : Nat) : Int) := by rw [w64 (n := 6 * (i : Int)) (by omega) (by omega), w64 (by omega) (by omega)]; omega
    have w2 : wrap64 (wrap64 (6 * (i : Int)) + 5) = ((6 * i + 5 : Nat) : Int) := by rw [w64 (n := 6 * (i : Int)) (by omega) (by omega), w64 (by omega) (by omega)]; omega
    have w3 : wrap64 ((i : Int) + 1) = ((i + 1 : Nat) : Int) := by rw [w64 (by omega) (by omega)]; omega
    simp only [Z73, hlt, decide_true, if_true, w1, w2, w3, Int.toNat_natCast]
    refine EvP.bind (ZIT set (i : Int) (by omega) (by omega)) (fun z hz => ?_)
    refine EvP.guard (by omega) (EvP.guard (by omega) (EvP.guard (by omega) (EvP.guard (by rw [List.length_set]; omega) ?_)))
    refine Zzb n hn set d1 d2 e1 e2 o2 d (i + 1) _ (by omega) (by rw [List.length_set, List.length_set]; exact ho) (fun x hx' => ?_)
    rcases List.mem_or_eq_of_mem_set hx' with h1 | rfl
    · rcases List.mem_or_eq_of_mem_set h1 with h2 | rfl
      · exact hx x h2
      · rcases hz with rfl | rfl <;> decide
    · decide
theorem ZIc (n set : Int) (h1 : 1 ≤ n) (h4 : n ≤ 4) : EvP (fun k => Zef k n set) (fun b => b.1 = 2 * n ∧ b.2.1 = 3 ∧ (b.2.2.length : Int) = 6 * n ∧ ∀ x ∈ b.2.2, cellOK x = true) := by
 refine EvP.succ ?_
 have w1 : wrap64 (6 * n) = 6 * n := w64 (by omega) (by omega)
 have w2 : wrap64 (2 * n) = 2 * n := w64 (by omega) (by omega)
 obtain ⟨m, rfl⟩ : ∃ m : Nat, n = (m : Int) := ⟨n.toNat, by omega⟩
 simp only [Zef, w1, w2]
 refine EvP.guard (by omega) (EvP.guard (by omega) ?_)
 refine EvP.bind (Zzb m (by omega) set 0 0 (2 * (m : Int)) 3 [] m 0 (List.replicate (6 * (m : Int)).toNat (0, 0)) (by omega) (by rw [List.length_replicate]; omega) (fun x hx => by rw [(List.mem_replicate.1 hx).2]; decide)) (fun r hr => ?_)
 exact EvP.some ⟨hr.1, hr.2.1, by have := hr.2.2.1; dsimp only; omega, hr.2.2.2⟩
section
variable {code : List Int} {at' seed : Int}
end
end
end Go.Proofs.Ytkbikniinjalbaa.Vs
