/- The proof, part 4. -/
import Derived.Test.Ytgjmhbjdhihgaaaqcm2
import Derived.Laws.StructEq
import Derived.Carry
import Derived.ChangeArms
import Derived.SizedLaws
import Derived.Deep.Slices
import Derived.WideShapes
import Derived.ChangeOld
import Derived.ChangeShapes
import Derived.OpenShut
import Derived.Test.YtgjmhbjdhihgaaaProg
import Derived.KernelRfl
set_option linter.unusedVariables false
set_option linter.unusedSimpArgs false
namespace Go.Proofs.Ytgjmhbjdhihgaaa.Vs
open Go.RowKit

def resTV (T : TT) (st : St) : ResultVar → Option TV
  | .tmp t => st.tmps[t]?
  | .cell a t => match T.get t with
    | some i => match st.tmps[a]? with
      | some (.sv (.at (.ptr j f))) => match st.objs[j]? with
        | some (.box _ cells) => if f + i.ty.sz ≤ cells.length then some (mkV i ((cells.drop f).take i.ty.sz)) else none
        | _ => none
      | _ => none
    | none => none
def takeRes (T : TT) : (rs : List PK) → List ResultVar → St → Option (Tup rs × St)
  | [], [], st => some ((), st)
  | p :: rs, v :: vs, st => match resTV T st v with
    | some x => match x.cells with
      | some l => if aggOK p.agg x then match takeTree p.t st l with
          | some (y, st1) => match takeRes T rs vs st1 with
            | some (ys, st2) => some ((y, ys), st2)
            | none => none
          | none => none
        else none
      | none => none
    | none => none
  | _, _, _ => none
/-- What a struct told by a pointer holds at the end. -/
def boxBack (st : St) : (t : Ty) → List At → Option t.D
  | .pair (.slice _ u) b, .sl 2 :: r => if b.flat = true then match readTree st [] b r with
    | some y => some (([] : List u.D), y)
    | none => none
    else none
  | _, _ => none
def resOf (T : TT) (ps rs : List PK) (vars : List ResultVar) (st : St) : Option (Tup rs × OutD) := match takeRes T rs vars st with
  | some (res, st1) => match ownI ps with
    | none => match boxI ps with
      | none => some (res, none)
      | some (e, t) => match st1.objs[1]? with
        | some (Ob.box e' cells) => if e' = e then match boxBack st1 t cells with
          | some y => some (res, some ⟨t, [y]⟩)
          | none => none
          else none
        | _ => none
    | some q => if giveI ps = true then some (res, none) else match st1.objs[1]? with
      | some (Ob.row _ e u xs) => if e = q.2.1 ∧ u = q.2.2 then some (res, some ⟨u, xs⟩) else none
      | _ => none
  | none => none
/-- A function by its own function. -/
structure FnDef where
  ps : List PK
  rs : List PK
  R : Type
  f : Nat → Tup ps → Option R
  dsp : {γ : Type} → R → (Tup rs → OutD → Option γ) → Option γ
  ret : Tup rs × OutD → Option R
  hret : ∀ {γ : Type} (b : Tup rs × OutD) (z : R) (K : Tup rs → OutD → Option γ), ret b = some z → dsp z K = K b.1 b.2
def FnDef.E (D : FnDef) : CallE where
  ps := D.ps
  rs := D.rs
  fn := fun k x K => match D.f k x with
    | some z => D.dsp z K
    | none => none
def endK {B : Type} (X : Ctx B) {R : Type} (mk : B → Option R) (st : St) : Option R := match X.res st with
  | some b => mk b
  | none => none
noncomputable def fnK (D : FnDef) (X : Ctx (Tup D.rs × OutD)) (body : Code) (k : Nat) (x : Tup D.ps) : Option D.R :=
  exec X k body (initSt D.ps X.n x) (endK X D.ret) (fun _ _ => none) D.ret

section
variable {P : Program} {w w1 w0 : World} {S0 : Own} {st : St} {μ μ' : List ORec} {a : Act}
def resSem (tmps : Array Value) : ResultVar → Sem Value
  | .tmp t => pure (tmps.getD t undef)
  | .cell a t => do loadVar t (← asAddr (tmps.getD a undef))
theorem resTV_sound {T : TT} (hT : TTok P T) (h : Rel w0 S0 st μ a w) {v : ResultVar} {x : TV} (hr : resTV T st v = some x) : ∃ u, (resSem a.tmps v).run P w = .ok u w ∧ TR μ w x u := by
  cases v with
  | tmp t => exact ⟨_, rfl, h.tv t x hr⟩
  | cell ad t =>
    simp only [resTV] at hr
    split at hr
    · rename_i i hi
      split at hr
      · rename_i j f hp
        split at hr
        · rename_i e cells hob
          split at hr
          · rename_i hle
            injection hr with hr
            subst hr
            have ok := hT.1 t i hi
            obtain ⟨rec, hrec, hv⟩ := (h.tv ad _ hp).1
            obtain ⟨h0, vs, h1, h2, h3⟩ := h.ob j _ rec hob hrec
            have hl : ((vs.drop f).take i.ty.sz).length = i.ty.sz := by rw [List.length_take, List.length_drop, h2.1]; omega
            refine ⟨packV i ((vs.drop f).take i.ty.sz), ?_, packV_tr ok.one (by simp; omega) ((h2.drop f).take i.ty.sz)⟩
            simp only [resSem, hv, Sem.run_bind, asAddr, Sem.run_pure, Result.andThen_ok]
            refine run_loadVar ok _ _ hl (fun m u hm => ?_)
            rw [add_at, cell_at h1]
            rw [List.getElem?_take] at hm
            split at hm
            · rw [List.getElem?_drop] at hm
              simpa using hm
            · cases hm
          · cases hr
        · cases hr
      · cases hr
    · cases hr
theorem takeRes_sound {T : TT} (hT : TTok P T) : ∀ {rs : List PK} {vars : List ResultVar} {st st1 : St} {μ : List ORec} {res : Tup rs}, Rel w0 S0 st μ a w → takeRes T rs vars st = some (res, st1) →
    ∃ us μ1 S, (vars.mapM (resSem a.tmps)).run P w = .ok us w ∧ ResL w rs S res us ∧ Rel w0 S0 st1 μ1 a w ∧ Less μ μ1 ∧ Taken S0 w0 w μ1 S ∧ ∀ k, S k → ∃ (i : Nat) (r : ORec), μ[i]? = some r ∧ r.ok k
  | [], [], st, st1, μ, res, h, hr => by
    simp only [takeRes] at hr
    injection hr with hr
    injection hr with h1 h2
    subst h2
    exact ⟨[], μ, fun _ => False, rfl, rfl, h, .refl μ, .none _ _ _ _, fun _ hf => hf.elim⟩
  | [], _ :: _, st, st1, μ, res, h, hr => by simp [takeRes] at hr
  | _ :: _, [], st, st1, μ, res, h, hr => by simp [takeRes] at hr
  | p :: rs, v :: vars, st, st1, μ, res, h, hr => by
    simp only [takeRes] at hr
    split at hr
    · rename_i x hx
      split at hr
      · rename_i l hl
        split at hr
        · rename_i hag
          split at hr
          · rename_i y st2 hy
            split at hr
            · rename_i ys st3 hys
              injection hr with hr
              injection hr with h1 h2
              subst h1 h2
              obtain ⟨u, hu, htr⟩ := resTV_sound hT h hx
              have hA := htr.cells_sound hl
              obtain ⟨μ1, S1, r1, l1, t1, i1, rep1⟩ := takeTree_sound h hA.al0 hy
              obtain ⟨us, μ2, S2, hus, hres, r2, l2, t2, i2⟩ := takeRes_sound hT r1 hys
              refine ⟨u :: us, μ2, fun k => S1 k ∨ S2 k, ?_, ⟨u, us, S1, S2, rfl, aggOK_sound htr hl hag, rep1, fun k hk => ⟨.inl hk, fun hk2 => ?_⟩, fun k hk => .inr hk, hres⟩, r2, l1.trans l2, ⟨fun k hk => hk.elim (t1.new k) (t2.new k), fun k hk => hk.elim (t1.lt k) (t2.lt k), fun j q hq k hk => hk.elim ((t1.less l2).apart j q hq k) (t2.apart j q hq k)⟩, fun k hk => ?_⟩
              · simp only [List.mapM_cons, Sem.run_bind, hu, Result.andThen_ok, hus, Sem.run_pure]
              · obtain ⟨j, q, hq, hqk⟩ := i2 k hk2
                exact t1.apart j q hq k hk hqk
              · rcases hk with hk | hk
                · exact i1 k hk
                · obtain ⟨j, q, hq, hqk⟩ := i2 k hk
                  obtain ⟨q0, g0, _, _, g3⟩ := l1.at_ j q hq
                  exact ⟨j, q0, g0, g3 k hqk⟩
            · cases hr
          · cases hr
        · cases hr
      · cases hr
    · cases hr
theorem results_run {fn : Func} {tmps : Array Value} {us : List Value} (h : (fn.results.toList.mapM (resSem tmps)).run P w = .ok us w) : (results fn tmps).run P w = .ok (packR us) w := by
  have he : results fn tmps = (do let vs ← fn.results.mapM (resSem tmps); pure (if h : vs.size = 1 then vs[0] else .tuple vs)) := by
    unfold results
    congr 1
  rw [he, Sem.run_bind, Array.mapM_eq_mapM_toList]
  have : ((List.toArray <$> fn.results.toList.mapM (resSem tmps)).run P w) = .ok us.toArray w := by
    rw [map_eq_pure_bind, Sem.run_bind, h]; rfl
  rw [this, Result.andThen_ok, Sem.run_pure]
  congr 1
  match us with
  | [] => rfl
  | [u] => rfl
  | u :: u' :: us => simp [packR]
theorem SoundAt.zero {D : FnDef} {f : FuncId} (he : ∀ vs w, (callFunc f vs).run P w = .ok (.enter f vs) w) (h0 : ∀ x, D.f 0 x = none) : SoundAt P 0 f D.E :=
  ⟨he, fun w Sro So x vs _ _ _ _ _ hk => by
    simp only [FnDef.E] at hk
    split at hk
    · rename_i z hz
      exact nomatch (h0 x).symm.trans hz
    · cases hk⟩
theorem run_enter {f : FuncId} {fn : Func} (hf : P.funcs[f]? = some fn) (hn : (fn.name == "runtime.NumGoroutine") = false) (hb : fn.body.isNone = false) (vs : Array Value) (w : World) : (callFunc f vs).run P w = .ok (.enter f vs) w := by
  have h2 : ¬ fn.name = "runtime.NumGoroutine" := by simpa using hn
  have h3 : ¬ fn.body = none := by intro h; rw [h] at hb; cases hb
  unfold callFunc
  simp [hf, h2, h3]
theorem fn_sound {D : FnDef} {X : Ctx (Tup D.rs × OutD)} {f : FuncId} {fn : Func} {body : Code} {k : Nat} (hX : X.res = resOf X.T D.ps D.rs fn.results.toList) (hXno : X.no = noOf D.ps) (hXn : X.n = fn.ntmps) (hf : P.funcs[f]? = some fn) (hb : fn.body = some body)
    (hn : (fn.name == "runtime.NumGoroutine") = false) (h1 : oneOwn D.ps = true) (hT : TTok P X.T) (hG : EnvOK P k X.G) (hL : LOK P X k body) (hs : ∀ x, D.f (k + 1) x = fnK D X body k x) : SoundAt P (k + 1) f D.E := by
  refine ⟨run_enter hf hn (by rw [hb]; rfl), fun {γ} {K} {r} w Sro So x vs hA hd hl hl2 hso hk => ?_⟩
  simp only [FnDef.E] at hk
  split at hk
  · rename_i z hz
    obtain ⟨S0, hS0, hgv, hov, hovB, hno, μ, h⟩ := init_sound (n := X.n) h1 hA hd hl hl2
    have hno2 : S0.ov.length = X.no := hno.trans hXno.symm
    have hz := (hs x).symm.trans hz
    rw [hXn] at h
    have hz2 : exec X k body (initSt D.ps fn.ntmps x) (endK X D.ret) (fun _ _ => none) D.ret = some z := by rw [← hXn]; exact hz
    refine calls_of_wp hf hb (Code.wp_mono (fun e a' w' hq => ?_) (exec_sound hT hG hno2 hL h hz2))
    have fin : ∀ (st1 : St) (μ1 : List ORec) (b : Tup D.rs × OutD), Rel w S0 st1 μ1 a' w' → X.res st1 = some b → D.ret b = some z → ∃ v, (results fn a'.tmps).run P w' = .ok v w' ∧ ∃ res out, K res out = some r ∧ Fin w w' So D.E vs res out v := by
      intro st1 μ1 b r1 hb2 hmk
      rw [hX] at hb2
      unfold resOf at hb2
      split at hb2
      · rename_i res st2 hres
        obtain ⟨us, μ2, S, hus, hR, r2, l2, t2, _⟩ := takeRes_sound hT r1 hres
        refine ⟨packR us, results_run hus, b.1, b.2, by rw [← D.hret b z K hmk]; exact hk, ?_⟩
        have hchg : Chg w w' So := by rw [← hS0]; exact r1.kp
        have hnew : ∀ k, S k → ((giveI D.E.ps = true ∧ So k) ∨ w.heap.size ≤ k) ∧ k < w'.heap.size := fun k hk => ⟨(t2.new k hk).imp (hgv k) id, t2.lt k hk⟩
        split at hb2
        · rename_i hown
          split at hb2
          · rename_i hbox
            injection hb2 with hb2
            subst hb2
            exact ⟨hchg, (fun e t he => by rw [show boxI D.E.ps = boxI D.ps from rfl, hbox] at he; cases he), S, us, hnew, rfl, hR, fun q _ hq => by rw [show ownI D.E.ps = ownI D.ps from rfl, hown] at hq; cases hq⟩
          · rename_i e t hbox
            split at hb2
            · rename_i e' cells hob
              split at hb2
              · rename_i hee
                subst hee
                split at hb2
                · rename_i y hy
                  injection hb2 with hb2
                  subst hb2
                  refine ⟨hchg, fun e t he => ?_, S, us, hnew, rfl, hR, fun q _ hq => by rw [show ownI D.E.ps = ownI D.ps from rfl, hown] at hq; cases hq⟩
                  rw [show boxI D.E.ps = boxI D.ps from rfl, hbox] at he
                  injection he with he
                  injection he with he1 he2
                  subst he1 he2
                  obtain ⟨g, c, r0, q1, q2, ⟨pv, q3⟩, q4⟩ := hovB _ _ hbox
                  obtain ⟨rec, hrec, _, hrb⟩ := r2.ov 0 _ q3
                  obtain ⟨rec2, hrec2, hrv2, _⟩ := r2.ov 1 _ q4
                  obtain ⟨hok, vs2, hh, hAl, _⟩ := r2.ob 1 _ rec hob hrec
                  unfold boxBack at hy
                  split at hy
                  · rename_i u b r2' yo
                    split at hy
                    · rename_i hflat
                      split at hy
                      · rename_i y2 hy2
                        injection hy with hy
                        subst hy
                        match vs2, hAl, hh with
                        | [], hAl, hh => have := hAl.1; simp at this
                        | v2 :: vr, hAl, hh =>
                          have hv2 : AR μ2 w' (.sl 2) v2 := hAl.2 0 _ v2 rfl rfl
                          obtain ⟨rr, hrr, hvv, _⟩ := hv2
                          rw [hrec2] at hrr
                          injection hrr with hrr
                          subst hrr
                          have hAr : AL μ2 w' r2' vr := ⟨by have := hAl.1; simpa using this, fun j x v hx hv => hAl.2 (j + 1) x v (by simpa using hx) (by simpa using hv)⟩
                          have hrep := flat_rep (S := okBut μ2 []) hflat (readTree_sound r2 hAr hy2)
                          refine ⟨g, c, r0, vr, _, rfl, q1, q2, ?_, hrep⟩
                          have hcc : v2 = c := by rw [hvv]; exact hrv2
                          have hbb : rec.blk = g := hrb
                          rw [hbb, hcc] at hh
                          exact hh
                      · cases hy
                    · cases hy
                  · cases hy
                · cases hb2
              · cases hb2
            · cases hb2
        · rename_i q hown
          split at hb2
          · rename_i hg
            injection hb2 with hb2
            subst hb2
            exact ⟨hchg, fun e t he => (by have := (boxV_some h1 he hA).1; rw [hown] at this; cases this), S, us, hnew, rfl, hR, fun q hf => by rw [show giveI D.E.ps = giveI D.ps from rfl, hg] at hf; cases hf⟩
          split at hb2
          · rename_i fr e u xs hob
            split at hb2
            · rename_i heu
              obtain ⟨rfl, rfl⟩ := heu
              injection hb2 with hb2
              subst hb2
              refine ⟨hchg, fun e t he => (by have := (boxV_some h1 he hA).1; rw [hown] at this; cases this), S, us, hnew, rfl, hR, fun q' _ hq => ?_⟩
              rw [show ownI D.E.ps = ownI D.ps from rfl, hown] at hq
              injection hq with hq
              subst hq
              obtain ⟨hv, hhv⟩ := ownV_some hown hA
              obtain ⟨rec, hrec, hrv, _⟩ := r2.ov 0 (hv, 0) (hov hv (by rw [hown]; exact fun hn => by cases hn) hhv)
              refine ⟨xs, hv, rec.ok, rfl, hhv, by have hrv' : rec.v = hv := hrv; rw [← hrv']; exact r2.ob 1 _ rec hob hrec, fun k hk => ⟨?_, r2.lt 1 rec hrec k hk, fun hk2 => t2.apart 1 rec hrec k hk2 hk⟩⟩
              have := r2.wr 1 _ rec hob hrec rfl k hk
              rw [hS0] at this
              exact this
            · cases hb2
          · cases hb2
      · cases hb2
    cases e with
    | normal =>
      obtain ⟨st1, μ1, r1, hr1⟩ := hq
      unfold endK at hr1
      split at hr1
      · rename_i b hb2
        obtain ⟨v, g1, g2⟩ := fin st1 μ1 b r1 hb2 hr1
        exact ⟨r1.df, v, g1, g2⟩
      · cases hr1
    | ret =>
      obtain ⟨st1, μ1, b, r1, hb2, hr1⟩ := hq
      obtain ⟨v, g1, g2⟩ := fin st1 μ1 b r1 hb2 hr1
      exact ⟨r1.df, v, g1, g2⟩
    | exit id => obtain ⟨st1, μ1, r1, hr1⟩ := hq; cases hr1
    | goto l => exact False.elim hq
    | panic ch => exact False.elim hq
    | outgrown => exact False.elim hq
  · cases hk
end
end Go.Proofs.Ytgjmhbjdhihgaaa.Vs

set_option linter.unusedVariables false
set_option linter.unusedSimpArgs false
namespace Go.Proofs.Ytgjmhbjdhihgaaa.Vs
open Go.RowKit

/-! ### Types -/
section
variable {P : Program}
theorem TyOK.scal {t : TypeId} {ty : Ty} {b : Nat} {d : TypeDesc} (hi : (P.info? t).map (fun x => (x.zero, x.size, x.bytes)) = some (some (zval ⟨.scal, ty, b, false⟩), ty.sz, b)) (hb : 0 < b) (h1 : ty.sz = 1) (hd : scalDesc ty = some d) (hu : P.underlying t = some d) : TyOK P t ⟨.scal, ty, b, false⟩ :=
  ⟨hi, hb, fun _ => h1, ⟨d, hd, hu⟩, fun h => by cases h⟩
theorem TyOK.slice {t e : TypeId} {ty : Ty} {b : Nat} (hi : (P.info? t).map (fun x => (x.zero, x.size, x.bytes)) = some (some (zval ⟨.slice e, ty, b, false⟩), ty.sz, b)) (hb : 0 < b) (h1 : ty.sz = 1) (hu : P.underlying t = some (.slice e)) : TyOK P t ⟨.slice e, ty, b, false⟩ :=
  ⟨hi, hb, fun _ => h1, hu, fun h => by cases h⟩
theorem TyOK.arr {t e : TypeId} {n : Nat} {ty : Ty} {b : Nat} (hi : (P.info? t).map (fun x => (x.zero, x.size, x.bytes)) = some (some (zval ⟨.arr n e, ty, b, false⟩), ty.sz, b)) (hb : 0 < b) (hu : P.underlying t = some (.array n e)) : TyOK P t ⟨.arr n e, ty, b, false⟩ :=
  ⟨hi, hb, (fun h => by simp [TI.isAgg] at h), hu, fun h => by cases h⟩
def fieldsOK (P : Program) (fs : List (Nat × TypeId)) : Bool := fs.all fun p => match P.info? p.2 with | some x => x.size != 0 | none => false
theorem TyOK.struct {t : TypeId} {fs : List (Nat × TypeId)} {ty : Ty} {b : Nat} (hi : (P.info? t).map (fun x => (x.zero, x.size, x.bytes)) = some (some (zval ⟨.struct fs, ty, b, false⟩), ty.sz, b)) (hb : 0 < b) (hu : (P.underlying t).bind fieldsOf = some fs) (hf : fieldsOK P fs = true) : TyOK P t ⟨.struct fs, ty, b, false⟩ :=
  ⟨hi, hb, (fun h => by simp [TI.isAgg] at h), ⟨hu, fun p hp => by
    have := List.all_eq_true.1 hf p hp
    split at this
    · rename_i x hx
      exact ⟨x, hx, by simpa using this⟩
    · cases this⟩, (fun h => by cases h)⟩
/-- Fields that are all ints, each in a cell of its own, in order. -/
def intFit (P : Program) : List Field → Nat → Bool
  | [], _ => true
  | f :: fs, o => f.name != "_" && f.offset == o && (match P.underlying f.type with | some (.int .i64) => true | _ => false) && intFit P fs (o + 1)
theorem part_int {f : Field} {xs : List Int} {w : World} (hu : P.underlying f.type = some (.int .i64)) (hl : f.offset < xs.length) : (part f.type (xs.map (Value.int .i64)).toArray f.offset).run P w = .ok (.int .i64 xs[f.offset]) w := by
  unfold part
  rw [Sem.run_bind]
  have ha : (isAgg f.type).run P w = .ok false w := by unfold isAgg; rw [Sem.run_bind, run_underlying hu]; rfl
  rw [ha]
  have hg : (xs.map (Value.int .i64)).toArray[f.offset]? = some (.int .i64 xs[f.offset]) := by simp [List.getElem?_eq_getElem hl]
  simp only [Result.andThen_ok, Bool.false_eq_true, if_false, hg]
  rfl
theorem eqFields_ints {d : Nat} {xs ys : List Int} {w : World} (hxy : xs.length = ys.length) : ∀ {fs : List Field} {o : Nat}, intFit P fs o = true → o + fs.length = xs.length → (Op.eqFields (d + 1) (xs.map (Value.int .i64)).toArray (ys.map (Value.int .i64)).toArray fs).run P w = .ok (decide (xs.drop o = ys.drop o)) w
  | [], o, _, hl => by
    simp only [List.length_nil, Nat.add_zero] at hl
    rw [List.drop_of_length_le (by omega), List.drop_of_length_le (by omega)]
    simp [Op.eqFields]
  | f :: fs, o, hf, hl => by
    simp only [intFit, Bool.and_eq_true, beq_iff_eq] at hf
    obtain ⟨⟨⟨h1, h2⟩, h3⟩, h4⟩ := hf
    simp only [List.length_cons] at hl
    have hu : P.underlying f.type = some (.int .i64) := by
      split at h3
      · assumption
      · cases h3
    subst h2
    have hn : f.name ≠ "_" := by simpa using h1
    have hx := part_int (P := P) (w := w) (xs := xs) hu (by omega)
    have hy := part_int (P := P) (w := w) (xs := ys) hu (by omega)
    have ih := eqFields_ints (d := d) (w := w) hxy h4 (by omega)
    rw [Op.eqFields]
    simp only [if_pos hn, Sem.run_bind, hx, hy, run_equalIn_int w d f.type .i64 .i64 _ _ hu, Result.andThen_ok]
    rw [List.drop_eq_getElem_cons (show f.offset < xs.length by omega), List.drop_eq_getElem_cons (show f.offset < ys.length by omega)]
    by_cases he : xs[f.offset] = ys[f.offset]
    · simp only [he, beq_self_eq_true, Bool.not_true, Bool.false_eq_true, if_false, ih, List.cons.injEq, true_and]
    · have hb : (xs[f.offset] == ys[f.offset]) = false := by simpa using he
      simp only [hb, he, List.cons.injEq, false_and, decide_false, Bool.not_false, if_true]
      rfl
def eqOK (P : Program) (t : TypeId) (n : Nat) : Bool := match P.underlying t with
  | some (.struct fs) => !P.stoodInHeld t && !P.eqGuardType P.depth t && intFit P fs.toList 0 && fs.size == n
  | _ => false
theorem TyOK.structE {t : TypeId} {fs : List (Nat × TypeId)} {ty : Ty} {b : Nat} (he : eqOK P t ty.sz = true) (hi : (P.info? t).map (fun x => (x.zero, x.size, x.bytes)) = some (some (zval ⟨.struct fs, ty, b, true⟩), ty.sz, b)) (hb : 0 < b) (hu : (P.underlying t).bind fieldsOf = some fs) (hf : fieldsOK P fs = true) : TyOK P t ⟨.struct fs, ty, b, true⟩ := by
  refine ⟨hi, hb, (fun h => by simp [TI.isAgg] at h), ⟨hu, fun p hp => by
    have := List.all_eq_true.1 hf p hp
    split at this
    · rename_i x hx
      exact ⟨x, hx, by simpa using this⟩
    · cases this⟩, ?_⟩
  intro _ xs ys hx hy x y op hop w
  unfold eqOK at he
  split at he
  · rename_i gs hgs
    simp only [Bool.and_eq_true, Bool.not_eq_true', beq_iff_eq] at he
    obtain ⟨⟨⟨h1, h2⟩, h3⟩, h4⟩ := he
    simp only at hx hy
    have hfo : P.fieldsOf t = gs := by simp [Program.fieldsOf, hgs]
    have hrun : (Op.equalIn 10000 t (.agg (xs.map (Value.int .i64)).toArray) (.agg (ys.map (Value.int .i64)).toArray)).run P w = .ok (decide (xs = ys)) w := by
      rw [run_equalIn_struct (P := P) w 9999 t _ _ (by rw [hfo]; exact hgs) h1, hfo]
      have := eqFields_ints (P := P) (d := 9998) (w := w) (xs := xs) (ys := ys) (by omega) h3 (by rw [Array.length_toList, h4]; omega)
      simpa using this
    rcases hop with rfl | rfl
    · rw [Sem.run_bind, run_eqGuard_agg w .eql t x y _ _ h2]
      simp only [Result.andThen_ok, run_eql_struct, hrun, if_true]
    · rw [Sem.run_bind, run_eqGuard_agg w .neq t x y _ _ h2]
      simp only [Result.andThen_ok, run_neq_struct, hrun]
      rfl
  · cases he
/-! ### Maps -/
theorem KeyLaw.int {k : TypeId} (hu : P.underlying k = some (.int .i64)) : KeyLaw P k false 1 := by
  have one : ∀ ks : List Int, ks.length = 1 → ∃ q, ks = [q] := fun ks h => by
    match ks, h with
    | [q], _ => exact ⟨q, rfl⟩
  refine ⟨fun w em ks h => ?_, fun w ks es E h hE hk => ?_, fun w ks h => ?_⟩
  · obtain ⟨q, rfl⟩ := one ks h
    exact MapKept.run_checkKey hu (show MapKept.IsKey (.int .i64) (.int .i64 q) from rfl) em 9999
  · obtain ⟨q, rfl⟩ := one ks h
    refine MapKept.run_findKey hu ?_
    show Instr.findNow (.int .i64) (.int .i64 q) es 0 = some (findIx [q] es E 0)
    have : ∀ (es : List MapEntry) (E : List (List Int)) (i : Nat), (∀ x ∈ E, x.length = 1) → es.map (·.key) = E.map (keyV false) → Instr.findNow (.int .i64) (.int .i64 q) es i = some (findIx [q] es E i) := by
      intro es
      induction es with
      | nil => intro E i _ _; cases E <;> rfl
      | cons e es ih =>
        intro E i hE hk
        cases E with
        | nil => simp at hk
        | cons x E =>
          simp only [List.map_cons, List.cons.injEq] at hk
          obtain ⟨q', rfl⟩ := one x (hE x (List.mem_cons_self ..))
          have h1 : e.key = .int .i64 q' := hk.1
          have ih' := ih E (i + 1) (fun y hy => hE y (List.mem_cons_of_mem _ hy)) hk.2
          simp only [Instr.findNow, h1, Instr.sameNow, if_true, findIx]
          by_cases hq : q = q'
          · subst hq; simp
          · have h2 : (q == q') = false := by simpa using hq
            have h3 : ¬ [q'] = [q] := fun h => hq (by injection h with h _; exact h.symm)
            simp only [h2, h3, if_false, ih']
    exact this es E 0 hE hk
  · obtain ⟨q, rfl⟩ := one ks h
    simp [Instr.keyThatStays, keyV, Instr.sameBits]
theorem KeyLaw.struct {k : TypeId} {n : Nat} (he : eqOK P k n = true) : KeyLaw P k true n := by
  unfold eqOK at he
  split at he
  · rename_i gs hgs
    simp only [Bool.and_eq_true, Bool.not_eq_true', beq_iff_eq] at he
    obtain ⟨⟨⟨h1, h2⟩, h3⟩, h4⟩ := he
    have hfo : P.fieldsOf k = gs := by simp [Program.fieldsOf, hgs]
    have heq : ∀ (w : World) (xs ys : List Int), xs.length = n → ys.length = n → (Op.equal k (.agg (xs.map (Value.int .i64)).toArray) (.agg (ys.map (Value.int .i64)).toArray)).run P w = .ok (decide (xs = ys)) w := by
      intro w xs ys hx hy
      unfold Op.equal Op.maxDepth
      rw [run_equalIn_struct (P := P) w 9999 k _ _ (by rw [hfo]; exact hgs) h1, hfo]
      have := eqFields_ints (P := P) (d := 9998) (w := w) (xs := xs) (ys := ys) (by omega) h3 (by rw [Array.length_toList, h4]; omega)
      simpa using this
    refine ⟨fun w em ks h => ?_, fun w ks es E h hE hk => ?_, fun w ks h => ?_⟩
    · show (Instr.checkKey em (9999 + 1) k (.agg (ks.map (Value.int .i64)).toArray)).run P w = .ok () w
      rw [Instr.checkKey]
      simp only [Sem.run_bind, run_underlying hgs, Result.andThen_ok]
      rw [← Array.forIn_toList]
      have hlen : gs.toList.length = n := by rw [Array.length_toList]; exact h4
      have : ∀ (L : List Field) (o : Nat), intFit P L o = true → o + L.length = ks.length → (forIn L PUnit.unit fun f _ => (if f.name ≠ "_" then (do
            let x ← part f.type (ks.map (Value.int .i64)).toArray f.offset
            Instr.checkKey em 9999 f.type x
            pure (ForInStep.yield PUnit.unit)) else pure (ForInStep.yield PUnit.unit) : Sem (ForInStep PUnit))).run P w = .ok PUnit.unit w := by
        intro L
        induction L with
        | nil => intro o _ _; simp
        | cons f L ih =>
          intro o hf hl
          simp only [intFit, Bool.and_eq_true, beq_iff_eq] at hf
          obtain ⟨⟨⟨g1, g2⟩, g3⟩, g4⟩ := hf
          simp only [List.length_cons] at hl
          have hu : P.underlying f.type = some (.int .i64) := by
            split at g3
            · assumption
            · cases g3
          subst g2
          have hn : f.name ≠ "_" := by simpa using g1
          have hx := part_int (P := P) (w := w) (xs := ks) hu (by omega)
          have hc := MapKept.run_checkKey (P := P) (w := w) hu (show MapKept.IsKey (.int .i64) (.int .i64 ks[f.offset]) from rfl) em 9998
          simp only [List.forIn_cons, Sem.run_bind, hn, ne_eq, not_false_eq_true, if_true, Result.andThen_ok, hx, hc, Sem.run_pure]
          exact ih (f.offset + 1) g4 (by omega)
      rw [this gs.toList 0 h3 (by omega)]
      rfl
    · have asking : ∀ (es : List MapEntry) (E : List (List Int)) (i : Nat), (∀ x ∈ E, x.length = n) → es.map (·.key) = E.map (keyV true) → (Instr.findAsking k (keyV true ks) es i).run P w = .ok (findIx ks es E i) w := by
        intro es
        induction es with
        | nil => intro E i _ _; cases E <;> rfl
        | cons e es ih =>
          intro E i hE hk
          cases E with
          | nil => simp at hk
          | cons x E =>
            simp only [List.map_cons, List.cons.injEq] at hk
            have h5 : e.key = .agg (x.map (Value.int .i64)).toArray := hk.1
            have ih' := ih E (i + 1) (fun y hy => hE y (List.mem_cons_of_mem _ hy)) hk.2
            have hq := heq w ks x h (hE x (List.mem_cons_self ..))
            simp only [Instr.findAsking, Sem.run_bind, h5, show keyV true ks = .agg (ks.map (Value.int .i64)).toArray from rfl, hq, Result.andThen_ok, findIx]
            by_cases hx : ks = x
            · subst hx; simp
            · have hx2 : ¬ x = ks := fun h => hx h.symm
              simp only [hx, hx2, decide_false, Bool.false_eq_true, if_false]
              exact ih'
      cases es with
      | nil =>
        refine (MapKept.run_findKey hgs (a := none) rfl).trans ?_
        cases E <;> rfl
      | cons e es =>
        have hnone : Instr.findNow (.struct gs) (keyV true ks) (e :: es) 0 = none := by simp [Instr.findNow, keyV, Instr.sameNow]
        unfold Instr.findKey
        simp only [Sem.run_bind, run_underlying hgs, Result.andThen_ok, hnone]
        exact asking (e :: es) E 0 hE hk
    · have hsb : ∀ (l : List Int), (l.map (Value.int .i64)).zip (l.map (Value.int .i64)) |>.all (fun (x, y) => Instr.sameBits 9999 x y) := by
        intro l
        induction l with
        | nil => rfl
        | cons q l ih => simp only [List.map_cons, List.zip_cons_cons, List.all_cons, ih, Bool.and_true]; simp [Instr.sameBits]
      have : Instr.sameBits 10000 (keyV true ks) (keyV true ks) = true := by
        show ((ks.map (Value.int .i64)).toArray.size == (ks.map (Value.int .i64)).toArray.size && _) = true
        rw [beq_self_eq_true, Bool.true_and]
        exact hsb ks
      unfold Instr.keyThatStays
      rw [if_pos this]
      rfl
  · cases he
theorem MapOK.int {t k e : TypeId} (hu : P.underlying t = some (.map k e)) (hk : P.underlying k = some (.int .i64)) : MapOK P t (k, e, false, 1) := ⟨hu, .int hk⟩
theorem MapOK.struct {t k e : TypeId} {n : Nat} (hu : P.underlying t = some (.map k e)) (hk : eqOK P k n = true) : MapOK P t (k, e, true, n) := ⟨hu, .struct hk⟩
def EntryOK (P : Program) (p : TypeId × TI) : Prop := match p.2.d with
  | .map k e ag n => MapOK P p.1 (k, e, ag, n)
  | _ => TyOK P p.1 p.2
theorem TTok.of {T : TT} (h : ∀ p ∈ T, EntryOK P p) : TTok P T := by
  refine ⟨fun t i hi => ?_, fun t m hm => ?_⟩
  · unfold TT.get at hi
    obtain ⟨p, hp, rfl⟩ := Option.map_eq_some_iff.1 hi
    have h1 := List.find?_some hp
    have h2 := List.mem_of_find?_eq_some hp
    simp only [Bool.and_eq_true, beq_iff_eq, Bool.not_eq_true'] at h1
    have := h p h2
    rw [← h1.1]
    unfold EntryOK at this
    unfold TI.isMap at h1
    split at this
    · rename_i k e ag n hd
      rw [hd] at h1
      cases h1.2
    · exact this
  · unfold TT.mapOf at hm
    split at hm
    · rename_i p hp
      have h1 := List.find?_some hp
      have h2 := List.mem_of_find?_eq_some hp
      simp only [Bool.and_eq_true, beq_iff_eq] at h1
      have := h p h2
      unfold EntryOK at this
      split at hm
      · rename_i k e ag n hd
        injection hm with hm
        subst hm
        rw [hd] at this
        rw [← h1.1]
        exact this
      · cases hm
    · cases hm
end

/-! ### Functions and loops -/
noncomputable section
def castU {u v : Ty} (h : u = v) (ys : List u.D) : List v.D := h ▸ ys
def FnDef.of (ps rs : List PK) (R : Type) (f : Nat → Tup ps → Option R) (toB : R → Tup rs × OutD) (ret : Tup rs × OutD → Option R) (h : ∀ b r, ret b = some r → toB r = b) : FnDef where
  ps := ps
  rs := rs
  R := R
  f := f
  dsp := fun z K => K (toB z).1 (toB z).2
  ret := ret
  hret := fun b z K hb => by rw [h b z hb]
def LoopDef.plain {B : Type} (inp out : Spec) (Z : Type) (lp : Nat → inp.D → Option Z) (to : Z → out.D) (of : out.D → Z) (h : ∀ y, to (of y) = y) : LoopDef B where
  inp := inp
  out := out
  Z := Z
  lp := lp
  dsp := fun z KN _ => KN (to z)
  mkN := fun y => some (of y)
  mkB := fun _ => none
  hN := fun y z KN KB hz => by injection hz with hz; subst hz; rw [h]
  hB := fun b z KN KB hz => by cases hz
inductive LR (Z R : Type) where
  | go (z : Z) | ret (r : R)
def LR.on {Z R γ : Type} (z : LR Z R) (f : Z → Option γ) (g : R → Option γ) : Option γ := match z with | .go y => f y | .ret r => g r
def LoopDef.rets {B : Type} (inp out : Spec) (Z R : Type) (lp : Nat → inp.D → Option (LR Z R)) (to : Z → out.D) (of : out.D → Z) (h : ∀ y, to (of y) = y) (toB : R → B) (ret : B → Option R) (hB : ∀ b r, ret b = some r → toB r = b) : LoopDef B where
  inp := inp
  out := out
  Z := LR Z R
  lp := lp
  dsp := fun z KN KB => z.on (fun y => KN (to y)) (fun r => KB (toB r))
  mkN := fun y => some (.go (of y))
  mkB := fun b => match ret b with | some r => some (.ret r) | none => none
  hN := fun y z KN KB hz => by injection hz with hz; subst hz; simp only [LR.on, h]
  hB := fun b z KN KB hz => by
    split at hz
    · rename_i r hr
      injection hz with hz
      subst hz
      simp only [LR.on, hB b r hr]
    · cases hz
end
theorem EnvOK.nil {P : Program} {k : Nat} (h : P.follows .mixedOrders = true) : EnvOK P k [] := ⟨h, fun f E h => by cases h⟩
theorem EnvOK.cons {P : Program} {k : Nat} {f : FuncId} {E : CallE} {G : Env} (h : SoundAt P k f E) (hG : EnvOK P k G) : EnvOK P k ((f, E) :: G) := by
  refine ⟨hG.mixed, fun g E' hg => ?_⟩
  unfold Env.get at hg
  rw [List.find?_cons] at hg
  split at hg
  · rename_i hb
    have hfg : f = g := beq_iff_eq.1 hb
    simp only [Option.map_some] at hg
    injection hg with hg
    subst hfg hg
    exact h
  · exact hG.ok g E' hg
/-! ### What a piece of code needs of its loops -/
def findLoop (id : Nat) : Code → Option Code
  | .seq a b => match findLoop id a with
    | some c => some c
    | none => findLoop id b
  | .cond _ a b => match findLoop id a with
    | some c => some c
    | none => findLoop id b
  | .block i (.loop c) => if i = id then some c else findLoop id c
  | .block _ c => findLoop id c
  | .loop c => findLoop id c
  | _ => none
def findCond (d : Tmp) : Code → Option (Code × Code)
  | .seq a b => match findCond d a with
    | some c => some c
    | none => findCond d b
  | .cond (.tmp e) a b => if e = d then some (a, b) else match findCond d a with
    | some c => some c
    | none => findCond d b
  | .cond _ a b => match findCond d a with
    | some c => some c
    | none => findCond d b
  | .block _ c => findCond d c
  | .loop c => findCond d c
  | _ => none
def needs {B : Type} (X : Ctx B) : Code → List (LoopE B × Code)
  | .seq a b => needs X a ++ needs X b
  | .cond c a b => match condE X c with
    | some E => [(E, .cond c a b)]
    | none => needs X a ++ needs X b
  | .block id c => match findE X.loops id with
    | some E => [(E, .block id c)]
    | none => needs X c
  | .region id ops true => match findE X.regs id with
    | some E => [(E, .region id ops true)]
    | none => []
  | _ => []
def AllOK {B : Type} (P : Program) (X : Ctx B) (k : Nat) (l : List (LoopE B × Code)) : Prop := ∀ p ∈ l, EOK P X k p.1 p.2
theorem AllOK.nil {B : Type} {P : Program} {X : Ctx B} {k : Nat} : AllOK P X k [] := fun p hp => by cases hp
theorem AllOK.cons {B : Type} {P : Program} {X : Ctx B} {k : Nat} {E : LoopE B} {c : Code} {l : List (LoopE B × Code)} (h : EOK P X k E c) (hl : AllOK P X k l) : AllOK P X k ((E, c) :: l) := by
  intro p hp
  rcases List.mem_cons.1 hp with rfl | hp
  · exact h
  · exact hl p hp
theorem AllOK.left {B : Type} {P : Program} {X : Ctx B} {k : Nat} {l l' : List (LoopE B × Code)} (h : AllOK P X k (l ++ l')) : AllOK P X k l := fun p hp => h p (List.mem_append.2 (.inl hp))
theorem AllOK.right {B : Type} {P : Program} {X : Ctx B} {k : Nat} {l l' : List (LoopE B × Code)} (h : AllOK P X k (l ++ l')) : AllOK P X k l' := fun p hp => h p (List.mem_append.2 (.inr hp))
theorem LOK.of {B : Type} {P : Program} {X : Ctx B} {k : Nat} : ∀ {c : Code}, AllOK P X k (needs X c) → LOK P X k c := by
  intro c
  induction c with
  | seq a b iha ihb => intro h; exact ⟨iha h.left, ihb h.right⟩
  | cond c a b iha ihb =>
    intro h
    simp only [LOK]
    simp only [needs] at h
    split
    · rename_i E hE
      rw [hE] at h
      exact h _ (List.mem_cons_self ..)
    · rename_i hE
      rw [hE] at h
      exact ⟨iha h.left, ihb h.right⟩
  | block id c ih =>
    intro h
    simp only [LOK]
    simp only [needs] at h
    split
    · rename_i E hE
      rw [hE] at h
      exact h _ (List.mem_cons_self ..)
    · rename_i hE
      rw [hE] at h
      exact ih h
  | region id ops d =>
    intro h
    cases d with
    | false => trivial
    | true =>
      simp only [LOK]
      simp only [needs] at h
      split
      · rename_i E hE
        rw [hE] at h
        exact h _ (List.mem_cons_self ..)
      · trivial
  | _ => intro _; trivial
theorem LOK.by {B : Type} {P : Program} {X : Ctx B} {k : Nat} {c : Code} (l : List (LoopE B × Code)) (h : needs X c = l) (h2 : AllOK P X k l) : LOK P X k c := LOK.of (by rw [h]; exact h2)
/-- A function is sound at every fuel. -/
theorem fn_all {P : Program} {D : FnDef} {X : Ctx (Tup D.rs × OutD)} {f : FuncId} {fn : Func} {body : Code} (hX : X.res = resOf X.T D.ps D.rs fn.results.toList) (hXno : X.no = noOf D.ps) (hXn : X.n = fn.ntmps) (hf : P.funcs[f]? = some fn) (hb : fn.body = some body)
    (hn : (fn.name == "runtime.NumGoroutine") = false) (h1 : oneOwn D.ps = true) (hT : TTok P X.T) (hG : ∀ k, EnvOK P k X.G) (hL : ∀ k, LOK P X k body) (h0 : ∀ x, D.f 0 x = none) (hs : ∀ k x, D.f (k + 1) x = fnK D X body k x) (k : Nat) : SoundAt P k f D.E := by
  cases k with
  | zero => exact .zero (run_enter hf hn (by rw [hb]; rfl)) h0
  | succ k => exact fn_sound hX hXno hXn hf hb hn h1 hT (hG k) (hL k) (hs k)
end Go.Proofs.Ytgjmhbjdhihgaaa.Vs

set_option linter.unusedVariables false
set_option linter.unusedSimpArgs false
namespace Go.Proofs.Ytgjmhbjdhihgaaa.Vs
open Go.RowKit
/-- From some fuel on, v. -/
def Ev {α : Type} (f : Nat → Option α) (v : α) : Prop := ∃ n, ∀ k, n ≤ k → f k = some v
section
variable {α β : Type} {f g : Nat → Option α} {v : α} {a : β}
theorem Ev.some (v : α) : Ev (fun _ => some v) v := ⟨0, fun _ _ => rfl⟩
theorem Ev.of {x : Option α} (h : x = Option.some v) : Ev (fun _ => x) v := ⟨0, fun _ _ => h⟩
theorem Ev.succ (h : Ev (fun k => f (k + 1)) v) : Ev f v := by
  obtain ⟨n, h⟩ := h
  refine ⟨n + 1, fun k hk => ?_⟩
  obtain ⟨m, rfl⟩ : ∃ m, k = m + 1 := ⟨k - 1, by omega⟩
  exact h m (by omega)
theorem Ev.bind {x : Nat → Option β} {y : β → Nat → Option α} (h : Ev x a) (h2 : Ev (y a) v) : Ev (fun k => Option.bind (x k) fun z => y z k) v := by
  obtain ⟨n, h⟩ := h
  obtain ⟨m, h2⟩ := h2
  exact ⟨max n m, fun k hk => by show Option.bind (x k) _ = _; rw [h k (by omega)]; exact h2 k (by omega)⟩
theorem Ev.ite {c : Prop} [Decidable c] (h1 : c → Ev f v) (h2 : ¬ c → Ev g v) : Ev (fun k => if c then f k else g k) v := by
  by_cases hc : c
  · simp only [if_pos hc]; exact h1 hc
  · simp only [if_neg hc]; exact h2 hc
theorem Ev.go {Z R : Type} {z : Z} {x : Z → Nat → Option α} {y : R → Nat → Option α} (h : Ev (x z) v) : Ev (fun k => LR.on (LR.go z : LR Z R) (fun a => x a k) (fun r => y r k)) v := h
theorem Ev.ret {Z R : Type} {r : R} {x : Z → Nat → Option α} {y : R → Nat → Option α} (h : Ev (y r) v) : Ev (fun k => LR.on (LR.ret r : LR Z R) (fun a => x a k) (fun r => y r k)) v := h
theorem Ev.congr (h : Ev f v) {w : α} (hw : v = w) : Ev f w := hw ▸ h
theorem Ev.at (h : Ev f v) : ∃ k, f k = Option.some v := by obtain ⟨n, h⟩ := h; exact ⟨n, h n (Nat.le_refl _)⟩
end
theorem w64 {n : Int} (h1 : -9223372036854775808 ≤ n) (h2 : n ≤ 9223372036854775807) : wrap64 n = n := by unfold wrap64; omega
/-! ### Lists by their parts -/
section
variable {α : Type}
end
end Go.Proofs.Ytgjmhbjdhihgaaa.Vs

set_option linter.unusedVariables false
set_option linter.unusedSimpArgs false
namespace Go.Proofs.Ytgjmhbjdhihgaaa.Vs
open Go.RowKit Go.ChangeShapes Go.WideShapes Go.Deep

/-! ### Types by their descriptions -/
def nestTy : List Ty → Ty
  | [] => .bool
  | [u] => u
  | u :: v :: r => .pair u (nestTy (v :: r))
def szs (l : List Ty) : Nat := (l.map Ty.sz).sum
inductive Deep (P : Program) : TypeId → Ty → Prop
  | int {t : TypeId} {k : IntKind} (h : P.underlying t = some (.int k)) : Deep P t (.int k)
  | bool {t : TypeId} (h : P.underlying t = some .bool) : Deep P t .bool
  | str {t : TypeId} (h : P.underlying t = some .string) : Deep P t .str
  | slice {t e : TypeId} {u : Ty} (h : P.underlying t = some (.slice e)) (hc : P.cellsOf e = u.sz) (hu : Deep P e u) : Deep P t (.slice e u)
  | struct {t : TypeId} {fs : Array Field} (l : List Ty) (h : P.underlying t = some (.struct fs)) (hn : l ≠ []) (hl : l.length = fs.size) (hc : P.cellsOf t = szs l)
      (ho : ∀ (i : Nat) f u, fs[i]? = some f → l[i]? = some u → f.offset = szs (l.take i) ∧ P.cellsOf f.type = u.sz) (hf : ∀ (i : Nat) f u, fs[i]? = some f → l[i]? = some u → Deep P f.type u) : Deep P t (nestTy l)
/-- The fields of a struct, as a check. -/
def fieldsFit (P : Program) : List Field → List Ty → Nat → Bool
  | [], [], _ => true
  | f :: fs, u :: l, o => f.offset == o && P.cellsOf f.type == u.sz && fieldsFit P fs l (o + u.sz)
  | _, _, _ => false
/-- The fields' types, one by one. -/
def FieldsDeep (P : Program) : List Field → List Ty → Prop
  | f :: fs, u :: l => Deep P f.type u ∧ FieldsDeep P fs l
  | _, _ => True
theorem fieldsFit_at {P : Program} : ∀ {fs : List Field} {l : List Ty} {o : Nat}, fieldsFit P fs l o = true → l.length = fs.length ∧ ∀ (i : Nat) f u, fs[i]? = some f → l[i]? = some u → f.offset = o + szs (l.take i) ∧ P.cellsOf f.type = u.sz
  | [], [], _, _ => ⟨rfl, fun i f u h => by simp at h⟩
  | f :: fs, [], _, h => by cases h
  | [], u :: l, _, h => by cases h
  | f :: fs, u :: l, o, h => by
    simp only [fieldsFit, Bool.and_eq_true, beq_iff_eq] at h
    obtain ⟨⟨h1, h2⟩, h3⟩ := h
    obtain ⟨g1, g2⟩ := fieldsFit_at h3
    refine ⟨by simp [g1], fun i f' u' hf hu => ?_⟩
    cases i with
    | zero =>
      simp at hf hu
      subst hf; subst hu
      exact ⟨by simpa [szs] using h1, h2⟩
    | succ i =>
      simp only [List.getElem?_cons_succ] at hf hu
      obtain ⟨k1, k2⟩ := g2 i f' u' hf hu
      exact ⟨by rw [k1]; simp [szs, Nat.add_assoc], k2⟩
theorem fieldsDeep_at {P : Program} : ∀ {fs : List Field} {l : List Ty}, FieldsDeep P fs l → ∀ (i : Nat) f u, fs[i]? = some f → l[i]? = some u → Deep P f.type u
  | [], _, _, i, f, u, hf, _ => by simp at hf
  | _ :: _, [], _, i, f, u, _, hu => by simp at hu
  | f :: fs, u :: l, h, i, f', u', hf, hu => by
    cases i with
    | zero =>
      simp at hf hu
      subst hf; subst hu
      exact h.1
    | succ i =>
      simp only [List.getElem?_cons_succ] at hf hu
      exact fieldsDeep_at h.2 i f' u' hf hu
theorem Deep.mk {P : Program} {t : TypeId} {fs : Array Field} (l : List Ty) (h : P.underlying t = some (.struct fs)) (hn : l ≠ []) (hc : P.cellsOf t = szs l) (hx : fieldsFit P fs.toList l 0 = true) (hd : FieldsDeep P fs.toList l) : Deep P t (nestTy l) := by
  obtain ⟨h1, h2⟩ := fieldsFit_at hx
  refine .struct l h hn (by simpa using h1) hc (fun i f u hf hu => ?_) (fun i f u hf hu => fieldsDeep_at hd i f u (by simpa using hf) hu)
  obtain ⟨g1, g2⟩ := h2 i f u (by simpa using hf) hu
  exact ⟨by simpa using g1, g2⟩

def structTys (P : Program) (t : TypeId) (l : List Ty) : Option (List TypeId) := match P.underlying t with
  | some (.struct fs) => if fieldsFit P fs.toList l 0 && P.cellsOf t == szs l then some (fs.toList.map Field.type) else none
  | _ => none
def TysDeep (P : Program) : List TypeId → List Ty → Prop
  | [], [] => True
  | t :: ts, u :: us => Deep P t u ∧ TysDeep P ts us
  | _, _ => False
theorem tysDeep_fields {P : Program} : ∀ {fs : List Field} {l : List Ty}, TysDeep P (fs.map Field.type) l → FieldsDeep P fs l
  | [], _, _ => by unfold FieldsDeep; trivial
  | f :: fs, [], h => h.elim
  | f :: fs, u :: l, h => ⟨h.1, tysDeep_fields h.2⟩
theorem Deep.st {P : Program} {t : TypeId} (l : List Ty) {tys : List TypeId} (hn : l ≠ []) (h : structTys P t l = some tys) (hd : TysDeep P tys l) : Deep P t (nestTy l) := by
  unfold structTys at h
  split at h
  · rename_i fs hfs
    split at h
    · rename_i hc
      simp only [Bool.and_eq_true, beq_iff_eq] at hc
      injection h with h
      subst h
      exact .mk l hfs hn hc.2 hc.1 (tysDeep_fields hd)
    · cases h
  · cases h
def isStruct (P : Program) (t : TypeId) : Bool := match P.underlying t with
  | some (.struct _) => true
  | _ => false
/-- What is known of a datum that can be read: numbers in range, no length beyond the greatest. -/
def Wf : (t : Ty) → t.D → Prop
  | .int k, n => (Lit.int k n).wf = true
  | .bool, _ => True
  | .str, s => s.size ≤ maxLen
  | .pair a b, x => Wf a x.1 ∧ Wf b x.2
  | .slice _ t, xs => xs.length ≤ maxLen ∧ ∀ x ∈ xs, Wf t x
section
variable {P : Program} {w : World}
theorem szs_cons (u : Ty) (l : List Ty) : szs (u :: l) = u.sz + szs l := by simp [szs]
theorem open_nest {S : Nat → Prop} : ∀ (l : List Ty), l ≠ [] → ∀ (cs : List Value), cs.length = szs l → (∀ (i : Nat) u, l[i]? = some u → ∃ x : u.D, Wf u x ∧ Rd u w S x ((cs.drop (szs (l.take i))).take u.sz)) → ∃ x : (nestTy l).D, Wf (nestTy l) x ∧ Rd (nestTy l) w S x cs
  | [], h, _, _, _ => absurd rfl h
  | [u], _, cs, hl, h => by
    obtain ⟨x, h1, h2⟩ := h 0 u rfl
    refine ⟨x, h1, ?_⟩
    have : (cs.drop (szs ([u].take 0))).take u.sz = cs := by
      simp only [List.take_zero, szs, List.map_nil, List.sum_nil, List.drop_zero]
      exact List.take_of_length_le (by rw [hl]; simp [szs])
    rw [this] at h2
    exact h2
  | u :: v :: r, _, cs, hl, h => by
    rw [szs_cons] at hl
    obtain ⟨x, h1, h2⟩ := h 0 u rfl
    have hx : (cs.drop (szs ((u :: v :: r).take 0))).take u.sz = cs.take u.sz := by simp [szs]
    rw [hx] at h2
    obtain ⟨y, g1, g2⟩ := open_nest (v :: r) (by simp) (cs.drop u.sz) (by simp; omega) (fun i u' hu => by
      obtain ⟨z, k1, k2⟩ := h (i + 1) u' hu
      refine ⟨z, k1, ?_⟩
      rw [List.take_succ_cons, szs_cons, ← List.drop_drop] at k2
      exact k2)
    exact ⟨(x, y), ⟨h1, g1⟩, cs.take u.sz, cs.drop u.sz, (List.take_append_drop _ _).symm, h2, g2⟩
/-- The blocks that a reading met. -/
def blocksOf (ps : List MemPlace) (k : Nat) : Prop := ∃ p ∈ ps, p.block = k
variable {H : Type} {enc : TypeId × Value → H}
theorem open_deep : ∀ (t : TypeId) (u : Ty), Deep P t u → ∀ (fuel : Nat) (cs : List Value) (d : DataW H) (ps : List MemPlace), DataW.trod enc P w 0 (fun _ => true) true fuel t cs = some (d, ps) → ∃ x : u.D, Wf u x ∧ Rd u w (blocksOf ps) x cs := by
  intro t u h
  induction h with
  | @int t k h =>
    intro fuel cs d ps hd
    obtain ⟨n, h1, hx, hw⟩ := DataW.trod_int h hd
    exact ⟨n, hw, h1⟩
  | @bool t h =>
    intro fuel cs d ps hd
    obtain ⟨b, h1, hx⟩ := DataW.trod_bool h hd
    exact ⟨b, trivial, h1⟩
  | @str t h =>
    intro fuel cs d ps hd
    obtain ⟨s, h1, hx, hs⟩ := DataW.trod_string h hd
    exact ⟨s, hs, h1⟩
  | @slice t e u h hc hu ih =>
    intro fuel cs d ps hd
    rcases open_slice h hd with ⟨rfl, hx⟩ | ⟨a, len, cap, m, n, D, Pl, rfl, hb, hl, hm, hmm, hx, hel⟩
    · exact ⟨[], ⟨Nat.zero_le _, fun x hx => by simp at hx⟩, _, rfl, none, 0, rfl, Nat.le_refl _, by simp, fun h0 => by simp at h0⟩
    · rw [if_pos rfl] at hmm
      subst hmm
      injection hx with hx1 hx2
      have hel2 : ∀ i, i < len → ∃ x : u.D, Wf u x ∧ ∃ cs' : List Value, cs'.length = u.sz ∧ (∀ j v, cs'[j]? = some v → w.cell? (a.add (i * u.sz + j)) = some v) ∧ Rd u w (blocksOf ps) x cs' := by
        intro i hi
        obtain ⟨cs', h1, h2⟩ := hel i (by omega)
        obtain ⟨_, hlen, hcell⟩ := World.cells?_some h1
        obtain ⟨x, hw, hr⟩ := ih _ _ _ _ h2
        rw [hc] at hlen hcell
        refine ⟨x, hw, cs', hlen, fun j v hv => ?_, hr.wide (fun k ⟨p, hp, hk⟩ => ⟨p, ?_, hk⟩)⟩
        · have hj : j < u.sz := by rw [← hlen]; exact (List.getElem?_eq_some_iff.1 hv).1
          have := hcell j hj
          rw [add_at'] at this
          rw [this, hv]
        · rw [hx2]
          refine List.mem_append.2 (.inr (List.mem_flatMap.2 ⟨i, List.mem_range.2 (by omega), hp⟩))
      have hz : Nonempty u.D := ⟨u.zero⟩
      obtain ⟨f, hf⟩ := @choose_lt u.D ⟨u.zero⟩ len (fun i x => Wf u x ∧ ∃ cs' : List Value, cs'.length = u.sz ∧ (∀ j v, cs'[j]? = some v → w.cell? (a.add (i * u.sz + j)) = some v) ∧ Rd u w (blocksOf ps) x cs') hel2
      refine ⟨(List.range len).map f, ⟨by simp; omega, fun x hx => ?_⟩, _, rfl, some a, m, by simp, by simpa using hl, by simp [maxLen] at hm ⊢; omega, fun h0 => ⟨a, rfl, ?_, fun j x hj => ?_⟩⟩
      · obtain ⟨i, hi, rfl⟩ := List.mem_map.1 hx
        exact (hf i (List.mem_range.1 hi)).1
      · simp at h0
        refine ⟨.cell a.block (a.off + 0), ?_, rfl⟩
        rw [hx2]
        refine List.mem_append.2 (.inl (List.mem_map.2 ⟨0, List.mem_range.2 ?_, rfl⟩))
        have := u.sz_pos
        rw [hc]
        exact Nat.mul_pos (by omega) this
      · rw [List.getElem?_map] at hj
        obtain ⟨i, hi, rfl⟩ := Option.map_eq_some_iff.1 hj
        have hlt : j < len := by simpa using (List.getElem?_eq_some_iff.1 hi).1
        rw [List.getElem?_range hlt] at hi
        injection hi with hi
        subst hi
        exact (hf j hlt).2
  | @struct t fs l h hn hl hc ho hf ih =>
    intro fuel cs d ps hd
    obtain ⟨xs, n, rfl, hx, hlen, hxl, hfl⟩ := DataW.trod_struct h hd
    injection hx with hx1 hx2
    refine open_nest l hn cs (by rw [hlen, hc]) (fun i u hu => ?_)
    have hi : i < fs.size := by rw [← hl]; exact (List.getElem?_eq_some_iff.1 hu).1
    have hfi : fs[i]? = some fs[i] := Array.getElem?_eq_getElem hi
    obtain ⟨o1, o2⟩ := ho i _ u hfi hu
    have h2 := hfl i _ hfi
    have hxi : i < xs.length := by omega
    rw [List.getElem?_eq_getElem hxi, o1, o2] at h2
    obtain ⟨x, hw, hr⟩ := ih i _ u hfi hu n _ _ _ h2
    exact ⟨x, hw, hr.wide (fun k ⟨p, hp, hk⟩ => ⟨p, by rw [hx2]; exact List.mem_flatMap.2 ⟨_, List.getElem_mem hxi, hp⟩, hk⟩)⟩

/-! ### All arguments -/
inductive ParOK (P : Program) : List TypeId → List PK → Prop
  | nil : ParOK P [] []
  | cell {t : TypeId} {ts : List TypeId} {u : Ty} {ps : List PK} (h : Deep P t u) (hs : ∀ fs, P.underlying t ≠ some (.struct fs)) (hr : ParOK P ts ps) : ParOK P (t :: ts) (⟨u, false, none, false, none⟩ :: ps)
  | agg {t : TypeId} {ts : List TypeId} {u : Ty} {ps : List PK} {fs : Array Field} (h : Deep P t u) (hs : P.underlying t = some (.struct fs)) (hr : ParOK P ts ps) : ParOK P (t :: ts) (⟨u, true, none, false, none⟩ :: ps)
theorem ParOK.c {P : Program} {t : TypeId} {ts : List TypeId} {u : Ty} {ps : List PK} (h : Deep P t u) (hs : isStruct P t = false) (hr : ParOK P ts ps) : ParOK P (t :: ts) (⟨u, false, none, false, none⟩ :: ps) :=
  .cell h (fun fs he => by unfold isStruct at hs; rw [he] at hs; cases hs) hr
theorem ParOK.a {P : Program} {t : TypeId} {ts : List TypeId} {u : Ty} {ps : List PK} (h : Deep P t u) (hs : isStruct P t = true) (hr : ParOK P ts ps) : ParOK P (t :: ts) (⟨u, true, none, false, none⟩ :: ps) := by
  unfold isStruct at hs
  split at hs
  · rename_i fs hfs; exact .agg h hfs hr
  · cases hs
def WfT : (ps : List PK) → Tup ps → Prop
  | [], _ => True
  | p :: ps, x => Wf p.t x.1 ∧ WfT ps x.2
theorem shaped_cell {W : World} {r : Reach} {b0 : Nat} {t : TypeId} {u : Ty} {v : Value} (h : Deep P t u) (hs : ∀ fs, P.underlying t ≠ some (.struct fs)) (hv : Value.okWide P W r b0 t v) : v.cells = #[v] := by
  cases h with
  | int h => obtain ⟨n, rfl⟩ := okWide_int h hv; rfl
  | bool h => obtain ⟨n, rfl⟩ := okWide_bool h hv; rfl
  | str h => obtain ⟨n, rfl⟩ := okWide_string h hv; rfl
  | slice h _ _ => obtain ⟨a, l, c, rfl⟩ := okWide_slice h hv; rfl
  | struct l h => exact absurd h (hs _)
theorem boxT_wide {W : World} {S S' : Nat → Prop} (hS : ∀ k, S k → S' k) : ∀ {t : Ty} {x : t.D} {c : Value} {r : List Value}, BoxT W S t x c r → BoxT W S' t x c r
  | .pair (.slice _ u) b, x, c, r, h => by
    obtain ⟨h1, h2, h3⟩ := h
    refine ⟨h1, ?_, h3⟩
    obtain ⟨v, hv, h4⟩ := Rd.wide (t := .slice 0 u) (show Rd (.slice 0 u) W S x.1 [c] from ⟨_, rfl, h2⟩) hS
    obtain rfl : c = v := by simpa using hv
    exact h4
  | .pair (.int _) b, _, _, _, h => h
  | .pair .bool b, _, _, _, h => h
  | .pair .str b, _, _, _, h => h
  | .pair (.pair _ _) b, _, _, _, h => h
  | .int _, _, _, _, h => h
  | .bool, _, _, _, h => h
  | .str, _, _, _, h => h
  | .slice _ _, _, _, _, h => h
theorem args_open {W : World} {r : Reach} {b0 : Nat} : ∀ (ts : List TypeId) (pks : List PK), ParOK P ts pks → ∀ {vs : List Value} {ds : List (DataW H)} {ps : List MemPlace}, DataW.TrodAll enc P W 0 (fun _ => true) true ts vs ds ps →
    (∀ (j : Nat) t v, ts[j]? = some t → vs[j]? = some v → Value.okWide P W r b0 t v) → ∃ x : Tup pks, WfT pks x ∧ ArgsR W (blocksOf ps) (fun _ => False) pks x vs := by
  intro ts pks h
  induction h with
  | nil =>
    intro vs ds ps h hv
    obtain ⟨rfl, rfl, rfl⟩ := trodAll_nil h
    exact ⟨(), trivial, rfl⟩
  | @cell t ts u pks hd hs hr ih =>
    intro vs ds ps h hv
    obtain ⟨v, vs', d, ds', p, q, rfl, rfl, rfl, h1, h2⟩ := trodAll_cons h
    obtain ⟨y, g1, g2⟩ := ih h2 (fun j t' v' ht hv' => hv (j + 1) t' v' ht hv')
    obtain ⟨fuel, hf⟩ := h1
    obtain ⟨x, k1, k2⟩ := open_deep _ _ hd fuel _ _ _ hf
    refine ⟨(x, y), ⟨k1, g1⟩, v, vs', rfl, ?_, k2.wide (fun k ⟨p', hp, hk⟩ => ⟨p', List.mem_append.2 (.inl hp), hk⟩), ?_⟩
    · show (if (false = true) then _ else _)
      rw [if_neg (by simp)]
      exact shaped_cell hd hs (hv 0 t v rfl rfl)
    · exact argsR_wide g2 (fun k ⟨p', hp, hk⟩ => ⟨p', List.mem_append.2 (.inr hp), hk⟩)
  | @agg t ts u pks fs hd hs hr ih =>
    intro vs ds ps h hv
    obtain ⟨v, vs', d, ds', p, q, rfl, rfl, rfl, h1, h2⟩ := trodAll_cons h
    obtain ⟨y, g1, g2⟩ := ih h2 (fun j t' v' ht hv' => hv (j + 1) t' v' ht hv')
    obtain ⟨fuel, hf⟩ := h1
    obtain ⟨x, k1, k2⟩ := open_deep _ _ hd fuel _ _ _ hf
    refine ⟨(x, y), ⟨k1, g1⟩, v, vs', rfl, ?_, k2.wide (fun k ⟨p', hp, hk⟩ => ⟨p', List.mem_append.2 (.inl hp), hk⟩), ?_⟩
    · show (if (true = true) then _ else _)
      rw [if_pos rfl]
      obtain ⟨cs, h3, _⟩ := okWide_struct hs (hv 0 t v rfl rfl)
      exact ⟨cs, h3⟩
    · exact argsR_wide g2 (fun k ⟨p', hp, hk⟩ => ⟨p', List.mem_append.2 (.inr hp), hk⟩)
where argsR_wide {W : World} {S S' So : Nat → Prop} : ∀ {pks : List PK} {x : Tup pks} {vs : List Value}, ArgsR W S So pks x vs → (∀ k, S k → S' k) → ArgsR W S' So pks x vs
  | [], _, _, h, _ => h
  | p :: pks, x, vs, h, hS => by
    obtain ⟨v, vs', rfl, h1, h2, h3⟩ := h
    refine ⟨v, vs', rfl, h1, ?_, argsR_wide h3 hS⟩
    split
    · rename_i ho
      rw [ho] at h2
      simp only at h2
      split
      · rename_i hb
        rw [hb] at h2
        exact h2.wide hS
      · rename_i e hb
        rw [hb] at h2
        obtain ⟨g, c, r, g1, g2, g3, g4⟩ := h2
        exact ⟨g, c, r, g1, g2, g3, boxT_wide hS g4⟩
    · rename_i q ho
      rw [ho] at h2
      exact h2
theorem trodAll_below (hl : laidOutB P = true) {W W' : World} (hb : Below W.heap.size W W') : ∀ {ts : List TypeId} {vs : List Value} {ds : List (DataW H)} {ps : List MemPlace}, (ts.all fun t => P.readableRec t && decide (t < P.types.size)) = true → DataW.TrodAll enc P W 0 (fun _ => true) true ts vs ds ps → (∀ x ∈ ps, x.block < W.heap.size) →
    DataW.TrodAll enc P W' 0 (fun b => decide (b < W.heap.size)) true ts vs ds ps
  | [], vs, ds, ps, _, h, _ => by
    obtain ⟨rfl, rfl, rfl⟩ := trodAll_nil h
    exact trodAll_mk0
  | t :: ts, vs, ds, ps, ht, h, hlt => by
    simp only [List.all_cons, Bool.and_eq_true, decide_eq_true_eq] at ht
    obtain ⟨v, vs', d, ds', p, q, rfl, rfl, rfl, h1, h2⟩ := trodAll_cons h
    exact trodAll_cons_mk (Below.trod hl ht.1.1 ht.1.2 h1 hb (fun x hx => hlt x (List.mem_append.2 (.inl hx)))) (trodAll_below hl hb (by simpa using ht.2) h2 (fun x hx => hlt x (List.mem_append.2 (.inr hx))))
theorem trodAll_lt {W : World} : ∀ {ts : List TypeId} {vs : List Value} {ds : List (DataW H)} {ps : List MemPlace}, DataW.TrodAll enc P W 0 (fun _ => true) true ts vs ds ps → ∀ x ∈ ps, x.block < W.heap.size
  | [], vs, ds, ps, h, x, hx => by
    obtain ⟨rfl, rfl, rfl⟩ := trodAll_nil h
    cases hx
  | t :: ts, vs, ds, ps, h, x, hx => by
    obtain ⟨v, vs', d, ds', p, q, rfl, rfl, rfl, h1, h2⟩ := trodAll_cons h
    rcases List.mem_append.1 hx with hx | hx
    · obtain ⟨m, hm⟩ := h1
      exact DataW.trod_lt m _ _ _ hm x hx
    · exact trodAll_lt h2 x hx

theorem E_at {D : FnDef} {k : Nat} {x : Tup D.ps} {z : D.R} (h : D.f k x = some z) {γ : Type} (K : Tup D.rs → OutD → Option γ) : D.E.fn k x K = D.dsp z K := by
  show (match D.f k x with | some z => D.dsp z K | none => none) = _
  rw [h]
/-! ### A law's contract: it returns true, and the world that was there stays. -/
def yes {E : Type} (res : Bool × Unit) (_ : E) : Option Unit := if res.1 = true then some () else none
theorem law_calls {f : FuncId} {ts : List TypeId} {pks : List PK} {fn : {γ : Type} → Nat → Tup pks → (Tup [⟨.bool, false, none, false, none⟩] → OutD → Option γ) → Option γ}
    (hs : ∀ k, SoundAt P k f ⟨pks, [⟨.bool, false, none, false, none⟩], fn⟩) (hp : ParOK P ts pks) (hno : ownI pks = none) (hlaw : ∀ x : Tup pks, WfT pks x → ∃ k, fn k x yes = some ())
    {W : World} {base : Nat} {args : Array Value} {ds : List (DataW H)} {ps : List MemPlace} (hA : DataW.TrodAll enc P W 0 (fun _ => true) true ts args.toList ds ps) (hval : ∀ (j : Nat) t v, ts[j]? = some t → args[j]? = some v → Value.okWide P W .any base t v) :
    Calls P f args W fun e W' => e = .returned (.bool true) ∧ Below W.heap.size W W' := by
  obtain ⟨x, hw, hx⟩ := args_open _ _ hp hA (r := .any) (b0 := base) (fun j t v ht hv => hval j t v ht (by simpa using hv))
  obtain ⟨k, hk⟩ := hlaw x hw
  have hlt := trodAll_lt hA
  have := (hs k).calls (K := yes) (r := ()) W _ _ x _ hx (fun _ hf => hf.elim) (fun _ hf => hf.elim) (fun k' ⟨p, hp', hk'⟩ => by rw [← hk']; exact hlt p hp') (fun _ _ _ hf => hf) hk
  rw [Array.toArray_toList] at this
  refine this.mono fun e W' he => ?_
  cases e with
  | returned v =>
    obtain ⟨res, out, hy, hF⟩ := he
    obtain ⟨Sr, us, _, rfl, hres, _⟩ := hF.res
    obtain ⟨u, us', S1, S2, rfl, hsh, hrep, _, _, hnil⟩ := hres
    obtain rfl : us' = [] := hnil
    refine ⟨?_, hF.chg.below (fun _ hf => hf)⟩
    have hsh2 : u.cells = #[u] := by
      have := hsh
      unfold Shaped at this
      rw [if_neg (by simp)] at this
      exact this
    have hr1 : res.1 = true := by
      unfold yes at hy
      split at hy
      · assumption
      · cases hy
    have hrep2 : u.cells.toList = [.bool res.1] := hrep
    rw [hsh2] at hrep2
    simp at hrep2
    rw [hrep2, hr1]
    rfl
  | panicked c => exact False.elim he
  | outgrown => exact False.elim he
end
end Go.Proofs.Ytgjmhbjdhihgaaa.Vs

set_option maxRecDepth 100000
namespace Go.Proofs.Ytgjmhbjdhihgaaa.Vs
open Go.RowKit
noncomputable section
def i5 : TI := ⟨.scal, .int Go.IntKind.u8, 1, false⟩
theorem t5 : TyOK Try.prog 5 i5 := .scal (by kernel_rfl) (by decide) rfl rfl (by kernel_rfl)
theorem dp5 : Deep Try.prog 5 (.int Go.IntKind.u8) := .int (by kernel_rfl)
def i22 : TI := ⟨.slice 5, .slice 5 (.int Go.IntKind.u8), 24, false⟩
theorem t22 : TyOK Try.prog 22 i22 := .slice (by kernel_rfl) (by decide) rfl (by kernel_rfl)
theorem dp22 : Deep Try.prog 22 (.slice 5 (.int Go.IntKind.u8)) := .slice (by kernel_rfl) (by kernel_rfl) dp5
def i4 : TI := ⟨.scal, .bool, 1, false⟩
theorem t4 : TyOK Try.prog 4 i4 := .scal (by kernel_rfl) (by decide) rfl rfl (by kernel_rfl)
def i3 : TI := ⟨.scal, .int Go.IntKind.i64, 8, false⟩
theorem t3 : TyOK Try.prog 3 i3 := .scal (by kernel_rfl) (by decide) rfl rfl (by kernel_rfl)
def i34 : TI := ⟨.slice 3, .slice 3 (.int Go.IntKind.i64), 24, false⟩
theorem t34 : TyOK Try.prog 34 i34 := .slice (by kernel_rfl) (by decide) rfl (by kernel_rfl)
def i39 : TI := ⟨.slice 34, .slice 34 (.slice 3 (.int Go.IntKind.i64)), 24, false⟩
theorem t39 : TyOK Try.prog 39 i39 := .slice (by kernel_rfl) (by decide) rfl (by kernel_rfl)
def i79 : TI := ⟨.struct [(0, 3), (1, 3)], .pair (.int Go.IntKind.i64) (.int Go.IntKind.i64), 16, true⟩
theorem t79 : TyOK Try.prog 79 i79 := .structE (by kernel_rfl) (by kernel_rfl) (by decide) (by kernel_rfl) (by kernel_rfl)
def i51 : TI := ⟨.slice 79, .slice 79 (.pair (.int Go.IntKind.i64) (.int Go.IntKind.i64)), 24, false⟩
theorem t51 : TyOK Try.prog 51 i51 := .slice (by kernel_rfl) (by decide) rfl (by kernel_rfl)
def i53 : TI := ⟨.struct [(0, 3), (1, 3), (2, 51)], .pair (.int Go.IntKind.i64) (.pair (.int Go.IntKind.i64) (.slice 79 (.pair (.int Go.IntKind.i64) (.int Go.IntKind.i64)))), 40, false⟩
theorem t53 : TyOK Try.prog 53 i53 := .struct (by kernel_rfl) (by decide) (by kernel_rfl) (by kernel_rfl)
def i77 : TI := ⟨.struct [(0, 3), (1, 3), (2, 3)], .pair (.int Go.IntKind.i64) (.pair (.int Go.IntKind.i64) (.int Go.IntKind.i64)), 24, true⟩
theorem t77 : TyOK Try.prog 77 i77 := .structE (by kernel_rfl) (by kernel_rfl) (by decide) (by kernel_rfl) (by kernel_rfl)
def i54 : TI := ⟨.slice 77, .slice 77 (.pair (.int Go.IntKind.i64) (.pair (.int Go.IntKind.i64) (.int Go.IntKind.i64))), 24, false⟩
theorem t54 : TyOK Try.prog 54 i54 := .slice (by kernel_rfl) (by decide) rfl (by kernel_rfl)
def i63 : TI := ⟨.struct [(0, 3), (1, 3), (2, 3)], .pair (.int Go.IntKind.i64) (.pair (.int Go.IntKind.i64) (.int Go.IntKind.i64)), 24, true⟩
theorem t63 : TyOK Try.prog 63 i63 := .structE (by kernel_rfl) (by kernel_rfl) (by decide) (by kernel_rfl) (by kernel_rfl)
def i57 : TI := ⟨.slice 63, .slice 63 (.pair (.int Go.IntKind.i64) (.pair (.int Go.IntKind.i64) (.int Go.IntKind.i64))), 24, false⟩
theorem t57 : TyOK Try.prog 57 i57 := .slice (by kernel_rfl) (by decide) rfl (by kernel_rfl)
def i100 : TI := ⟨.slice 57, .slice 57 (.slice 63 (.pair (.int Go.IntKind.i64) (.pair (.int Go.IntKind.i64) (.int Go.IntKind.i64)))), 24, false⟩
theorem t100 : TyOK Try.prog 100 i100 := .slice (by kernel_rfl) (by decide) rfl (by kernel_rfl)
def i112 : TI := ⟨.scal, .int Go.IntKind.u64, 8, false⟩
theorem t112 : TyOK Try.prog 112 i112 := .scal (by kernel_rfl) (by decide) rfl rfl (by kernel_rfl)
def i114 : TI := ⟨.struct [(0, 22), (1, 3), (2, 112)], .pair (.slice 5 (.int Go.IntKind.u8)) (.pair (.int Go.IntKind.i64) (.int Go.IntKind.u64)), 40, false⟩
theorem t114 : TyOK Try.prog 114 i114 := .struct (by kernel_rfl) (by decide) (by kernel_rfl) (by kernel_rfl)
def i128 : TI := ⟨.arr 10 3, .pair (.int Go.IntKind.i64) (.pair (.int Go.IntKind.i64) (.pair (.int Go.IntKind.i64) (.pair (.int Go.IntKind.i64) (.pair (.int Go.IntKind.i64) (.pair (.int Go.IntKind.i64) (.pair (.int Go.IntKind.i64) (.pair (.int Go.IntKind.i64) (.pair (.int Go.IntKind.i64) (.int Go.IntKind.i64))))))))), 80, false⟩
theorem t128 : TyOK Try.prog 128 i128 := .arr (by kernel_rfl) (by decide) (by kernel_rfl)
def i158 : TI := ⟨.slice 100, .slice 100 (.slice 57 (.slice 63 (.pair (.int Go.IntKind.i64) (.pair (.int Go.IntKind.i64) (.int Go.IntKind.i64))))), 24, false⟩
theorem t158 : TyOK Try.prog 158 i158 := .slice (by kernel_rfl) (by decide) rfl (by kernel_rfl)
def i189 : TI := ⟨.scal, .int Go.IntKind.u64, 8, false⟩
theorem t189 : TyOK Try.prog 189 i189 := .scal (by kernel_rfl) (by decide) rfl rfl (by kernel_rfl)
theorem mixed : Try.prog.follows .mixedOrders = true := by kernel_rfl
def T : TT := [(5, i5), (22, i22), (4, i4), (3, i3), (34, i34), (39, i39), (79, i79), (51, i51), (53, i53), (77, i77), (54, i54), (63, i63), (57, i57), (100, i100), (112, i112), (114, i114), (128, i128), (158, i158), (189, i189)]
theorem T_ok : TTok Try.prog T := .of (by unfold T; exact (List.forall_mem_cons.2 ⟨t5, (List.forall_mem_cons.2 ⟨t22, (List.forall_mem_cons.2 ⟨t4, (List.forall_mem_cons.2 ⟨t3, (List.forall_mem_cons.2 ⟨t34, (List.forall_mem_cons.2 ⟨t39, (List.forall_mem_cons.2 ⟨t79, (List.forall_mem_cons.2 ⟨t51, (List.forall_mem_cons.2 ⟨t53, (List.forall_mem_cons.2 ⟨t77, (List.forall_mem_cons.2 ⟨t54, (List.forall_mem_cons.2 ⟨t63, (List.forall_mem_cons.2 ⟨t57, (List.forall_mem_cons.2 ⟨t100, (List.forall_mem_cons.2 ⟨t112, (List.forall_mem_cons.2 ⟨t114, (List.forall_mem_cons.2 ⟨t128, (List.forall_mem_cons.2 ⟨t158, (List.forall_mem_cons.2 ⟨t189, (fun _ h => nomatch h)⟩)⟩)⟩)⟩)⟩)⟩)⟩)⟩)⟩)⟩)⟩)⟩)⟩)⟩)⟩)⟩)⟩)⟩)⟩))
end
end Go.Proofs.Ytgjmhbjdhihgaaa.Vs

set_option maxRecDepth 100000
set_option maxHeartbeats 2000000
set_option linter.unusedVariables false
set_option linter.unusedSimpArgs false
namespace Go.Proofs.Ytgjmhbjdhihgaaa.Vs
open Go.RowKit
noncomputable section
/-! function 8 -/
noncomputable def r_laws_big : List PK := [{ t := Ty.bool }]
noncomputable def q_laws_big : List PK := [{ t := Ty.slice (5 : Nat) (Ty.int IntKind.u8) }, { t := Ty.slice (5 : Nat) (Ty.int IntKind.u8) }]
noncomputable def to_laws_big (r : Bool) : Tup r_laws_big × OutD := ((r, ()), none)
noncomputable def of_laws_big : Tup r_laws_big × OutD → Option (Bool)
  | (a, none) => some (a.1)
  | _ => none
theorem to_of_laws_big : ∀ b r, of_laws_big b = some r → to_laws_big r = b := by
  rintro ⟨a, o⟩ r h
  cases o with
  | none => injection h with h; subst h; rfl
  | some _ => cases h
noncomputable def f_laws_big : Nat → List Int → List Int → Option Bool
  | 0, _, _ => none
  | k + 1, p0, p1 =>
    if decide ((↑(List.length p0) : Int) > (1048576 : Int)) = true then some true else some (decide ((↑(List.length p1) : Int) > wrap64 ((1048576 : Int) - (↑(List.length p0) : Int))))
noncomputable def d_laws_big : FnDef := .of q_laws_big r_laws_big (Bool) (fun k x => f_laws_big k x.1 x.2.1) to_laws_big of_laws_big to_of_laws_big
noncomputable def c_laws_big : Code := Try.f8.body.getD .skip
noncomputable def x_laws_big : Ctx (Tup r_laws_big × OutD) := { T := T, G := [], mvs := [], no := 0, n := 16, res := resOf T q_laws_big r_laws_big Try.f8.results.toList, loops := [], regs := [], conds := [] }
theorem g_laws_big (k : Nat) : EnvOK Try.prog k x_laws_big.G := (EnvOK.nil mixed)
theorem h_laws_big (k : Nat) (x : Tup d_laws_big.ps) : d_laws_big.f (k + 1) x = fnK d_laws_big x_laws_big c_laws_big k x := by kernel_rfl
theorem z_laws_big (x : Tup d_laws_big.ps) : d_laws_big.f 0 x = none := by kernel_rfl
theorem l_laws_big (k : Nat) : LOK Try.prog x_laws_big k c_laws_big := LOK.by [] (by kernel_rfl) AllOK.nil
theorem s_laws_big (k : Nat) : SoundAt Try.prog k 8 d_laws_big.E := @fn_all Try.prog d_laws_big x_laws_big 8 Try.f8 c_laws_big (by kernel_rfl) (by kernel_rfl) (by kernel_rfl) Try.func8 (by kernel_rfl) (by kernel_rfl) (by kernel_rfl) T_ok g_laws_big l_laws_big z_laws_big h_laws_big k
/-! function 16 -/
noncomputable def r_impl_Tolerated : List PK := [{ t := Ty.int IntKind.i64 }, { t := Ty.bool }]
noncomputable def q_impl_Tolerated : List PK := [{ t := Ty.int IntKind.i64 }]
noncomputable def to_impl_Tolerated (r : Int × Bool) : Tup r_impl_Tolerated × OutD := ((r.1, r.2, ()), none)
noncomputable def of_impl_Tolerated : Tup r_impl_Tolerated × OutD → Option (Int × Bool)
  | (a, none) => some (a.1, a.2.1)
  | _ => none
theorem to_of_impl_Tolerated : ∀ b r, of_impl_Tolerated b = some r → to_impl_Tolerated r = b := by
  rintro ⟨a, o⟩ r h
  cases o with
  | none => injection h with h; subst h; rfl
  | some _ => cases h
noncomputable def f_impl_Tolerated : Nat → Int → Option (Int × Bool)
  | 0, _ => none
  | k + 1, p0 =>
    if decide (p0 < (1 : Int)) = true then some ((0 : Int), false) else if decide (p0 > (9 : Int)) = true then some ((0 : Int), false) else some (wrap64 (Int.tdiv (wrap64 (p0 - (1 : Int))) (2 : Int)), true)
noncomputable def d_impl_Tolerated : FnDef := .of q_impl_Tolerated r_impl_Tolerated (Int × Bool) (fun k x => f_impl_Tolerated k x.1) to_impl_Tolerated of_impl_Tolerated to_of_impl_Tolerated
noncomputable def c_impl_Tolerated : Code := Try.f16.body.getD .skip
noncomputable def x_impl_Tolerated : Ctx (Tup r_impl_Tolerated × OutD) := { T := T, G := [], mvs := [], no := 0, n := 13, res := resOf T q_impl_Tolerated r_impl_Tolerated Try.f16.results.toList, loops := [], regs := [], conds := [] }
theorem g_impl_Tolerated (k : Nat) : EnvOK Try.prog k x_impl_Tolerated.G := (EnvOK.nil mixed)
theorem h_impl_Tolerated (k : Nat) (x : Tup d_impl_Tolerated.ps) : d_impl_Tolerated.f (k + 1) x = fnK d_impl_Tolerated x_impl_Tolerated c_impl_Tolerated k x := by kernel_rfl
theorem z_impl_Tolerated (x : Tup d_impl_Tolerated.ps) : d_impl_Tolerated.f 0 x = none := by kernel_rfl
theorem l_impl_Tolerated (k : Nat) : LOK Try.prog x_impl_Tolerated k c_impl_Tolerated := LOK.by [] (by kernel_rfl) AllOK.nil
theorem s_impl_Tolerated (k : Nat) : SoundAt Try.prog k 16 d_impl_Tolerated.E := @fn_all Try.prog d_impl_Tolerated x_impl_Tolerated 16 Try.f16 c_impl_Tolerated (by kernel_rfl) (by kernel_rfl) (by kernel_rfl) Try.func16 (by kernel_rfl) (by kernel_rfl) (by kernel_rfl) T_ok g_impl_Tolerated l_impl_Tolerated z_impl_Tolerated h_impl_Tolerated k
/-! function 92 -/
noncomputable def r_impl_chanceRight : List PK := [{ t := Ty.int IntKind.i64 }, { t := Ty.int IntKind.i64 }]
noncomputable def q_impl_chanceRight : List PK := [{ t := Ty.int IntKind.i64 }, { t := Ty.int IntKind.i64 }, { t := Ty.int IntKind.i64 }]
noncomputable def to_impl_chanceRight (r : Int × Int) : Tup r_impl_chanceRight × OutD := ((r.1, r.2, ()), none)
noncomputable def of_impl_chanceRight : Tup r_impl_chanceRight × OutD → Option (Int × Int)
  | (a, none) => some (a.1, a.2.1)
  | _ => none
theorem to_of_impl_chanceRight : ∀ b r, of_impl_chanceRight b = some r → to_impl_chanceRight r = b := by
  rintro ⟨a, o⟩ r h
  cases o with
  | none => injection h with h; subst h; rfl
  | some _ => cases h
noncomputable def f_impl_chanceRight_0 : Nat → Int → Int → Int → Int → Int → Int → Option (Int × Int × Int × Int × Int)
  | 0, _, _, _, _, _, _ => none
  | k + 1, v0, v1, v2, v8, v9, v10 =>
    if decide (v10 < v0) = true then f_impl_chanceRight_0 k v0 v1 v2 v8 (wrap64 (v9 * v2)) (wrap64 (v10 + (1 : Int))) else some (v0, v1, v2, v8, v9)
noncomputable def f_impl_chanceRight_0i : Spec := { objs := [OSh.ro], tmps := [((0 : Nat), TSh.at (Sh.int IntKind.i64)), ((1 : Nat), TSh.at (Sh.int IntKind.i64)), ((2 : Nat), TSh.at (Sh.int IntKind.i64)), ((8 : Nat), TSh.at (Sh.int IntKind.i64)), ((9 : Nat), TSh.at (Sh.int IntKind.i64)), ((10 : Nat), TSh.at (Sh.int IntKind.i64))] }
noncomputable def f_impl_chanceRight_0o : Spec := { objs := [OSh.ro], tmps := [((0 : Nat), TSh.at (Sh.int IntKind.i64)), ((1 : Nat), TSh.at (Sh.int IntKind.i64)), ((2 : Nat), TSh.at (Sh.int IntKind.i64)), ((8 : Nat), TSh.at (Sh.int IntKind.i64)), ((9 : Nat), TSh.at (Sh.int IntKind.i64))] }
noncomputable def f_impl_chanceRight_0D : LoopDef (Tup r_impl_chanceRight × OutD) := .plain f_impl_chanceRight_0i f_impl_chanceRight_0o (Int × Int × Int × Int × Int) (fun k x => f_impl_chanceRight_0 k x.2.1 x.2.2.1 x.2.2.2.1 x.2.2.2.2.1 x.2.2.2.2.2.1 x.2.2.2.2.2.2.1) (fun z => (((), ()), (z.1, z.2.1, z.2.2.1, z.2.2.2.1, z.2.2.2.2, ()))) (fun y => (y.2.1, y.2.2.1, y.2.2.2.1, y.2.2.2.2.1, y.2.2.2.2.2.1)) (fun _ => rfl)
noncomputable def f_impl_chanceRight_4 : Nat → Int → Int → Int → Int → Int → Int → Int → Int → Option (Int × Int × Int × Int × Int × Int × Int)
  | 0, _, _, _, _, _, _, _, _ => none
  | k + 1, v0, v1, v2, v8, v9, v11, v12, v13 =>
    if decide (v13 < v11) = true then if wrap64 (v13 + (1 : Int)) = (0 : Int) then none else f_impl_chanceRight_4 k v0 v1 v2 v8 v9 v11 (wrap64 (Int.tdiv (wrap64 (v12 * wrap64 (v0 - v13))) (wrap64 (v13 + (1 : Int))))) (wrap64 (v13 + (1 : Int))) else some (v0, v1, v2, v8, v9, v11, v12)
noncomputable def f_impl_chanceRight_4i : Spec := { objs := [OSh.ro], tmps := [((0 : Nat), TSh.at (Sh.int IntKind.i64)), ((1 : Nat), TSh.at (Sh.int IntKind.i64)), ((2 : Nat), TSh.at (Sh.int IntKind.i64)), ((8 : Nat), TSh.at (Sh.int IntKind.i64)), ((9 : Nat), TSh.at (Sh.int IntKind.i64)), ((11 : Nat), TSh.at (Sh.int IntKind.i64)), ((12 : Nat), TSh.at (Sh.int IntKind.i64)), ((13 : Nat), TSh.at (Sh.int IntKind.i64))] }
noncomputable def f_impl_chanceRight_4o : Spec := { objs := [OSh.ro], tmps := [((0 : Nat), TSh.at (Sh.int IntKind.i64)), ((1 : Nat), TSh.at (Sh.int IntKind.i64)), ((2 : Nat), TSh.at (Sh.int IntKind.i64)), ((8 : Nat), TSh.at (Sh.int IntKind.i64)), ((9 : Nat), TSh.at (Sh.int IntKind.i64)), ((11 : Nat), TSh.at (Sh.int IntKind.i64)), ((12 : Nat), TSh.at (Sh.int IntKind.i64))] }
noncomputable def f_impl_chanceRight_4D : LoopDef (Tup r_impl_chanceRight × OutD) := .plain f_impl_chanceRight_4i f_impl_chanceRight_4o (Int × Int × Int × Int × Int × Int × Int) (fun k x => f_impl_chanceRight_4 k x.2.1 x.2.2.1 x.2.2.2.1 x.2.2.2.2.1 x.2.2.2.2.2.1 x.2.2.2.2.2.2.1 x.2.2.2.2.2.2.2.1 x.2.2.2.2.2.2.2.2.1) (fun z => (((), ()), (z.1, z.2.1, z.2.2.1, z.2.2.2.1, z.2.2.2.2.1, z.2.2.2.2.2.1, z.2.2.2.2.2.2, ()))) (fun y => (y.2.1, y.2.2.1, y.2.2.2.1, y.2.2.2.2.1, y.2.2.2.2.2.1, y.2.2.2.2.2.2.1, y.2.2.2.2.2.2.2.1)) (fun _ => rfl)
noncomputable def f_impl_chanceRight_6 : Nat → Int → Int → Int → Int → Int → Int → Int → Int → Option (Int × Int × Int × Int × Int × Int × Int)
  | 0, _, _, _, _, _, _, _, _ => none
  | k + 1, v0, v1, v2, v8, v9, v11, v12, v14 =>
    if decide (v14 < v0) = true then if decide (v14 < v11) = true then f_impl_chanceRight_6 k v0 v1 v2 v8 v9 v11 (wrap64 (v12 * v1)) (wrap64 (v14 + (1 : Int))) else f_impl_chanceRight_6 k v0 v1 v2 v8 v9 v11 (wrap64 (v12 * wrap64 (v2 - v1))) (wrap64 (v14 + (1 : Int))) else some (v0, v1, v2, v8, v9, v11, v12)
noncomputable def f_impl_chanceRight_6i : Spec := { objs := [OSh.ro], tmps := [((0 : Nat), TSh.at (Sh.int IntKind.i64)), ((1 : Nat), TSh.at (Sh.int IntKind.i64)), ((2 : Nat), TSh.at (Sh.int IntKind.i64)), ((8 : Nat), TSh.at (Sh.int IntKind.i64)), ((9 : Nat), TSh.at (Sh.int IntKind.i64)), ((11 : Nat), TSh.at (Sh.int IntKind.i64)), ((12 : Nat), TSh.at (Sh.int IntKind.i64)), ((14 : Nat), TSh.at (Sh.int IntKind.i64))] }
noncomputable def f_impl_chanceRight_6o : Spec := { objs := [OSh.ro], tmps := [((0 : Nat), TSh.at (Sh.int IntKind.i64)), ((1 : Nat), TSh.at (Sh.int IntKind.i64)), ((2 : Nat), TSh.at (Sh.int IntKind.i64)), ((8 : Nat), TSh.at (Sh.int IntKind.i64)), ((9 : Nat), TSh.at (Sh.int IntKind.i64)), ((11 : Nat), TSh.at (Sh.int IntKind.i64)), ((12 : Nat), TSh.at (Sh.int IntKind.i64))] }
noncomputable def f_impl_chanceRight_6D : LoopDef (Tup r_impl_chanceRight × OutD) := .plain f_impl_chanceRight_6i f_impl_chanceRight_6o (Int × Int × Int × Int × Int × Int × Int) (fun k x => f_impl_chanceRight_6 k x.2.1 x.2.2.1 x.2.2.2.1 x.2.2.2.2.1 x.2.2.2.2.2.1 x.2.2.2.2.2.2.1 x.2.2.2.2.2.2.2.1 x.2.2.2.2.2.2.2.2.1) (fun z => (((), ()), (z.1, z.2.1, z.2.2.1, z.2.2.2.1, z.2.2.2.2.1, z.2.2.2.2.2.1, z.2.2.2.2.2.2, ()))) (fun y => (y.2.1, y.2.2.1, y.2.2.2.1, y.2.2.2.2.1, y.2.2.2.2.2.1, y.2.2.2.2.2.2.1, y.2.2.2.2.2.2.2.1)) (fun _ => rfl)
noncomputable def f_impl_chanceRight_2 : Nat → Int → Int → Int → Int → Int → Int → Option (Int × Int)
  | 0, _, _, _, _, _, _ => none
  | k + 1, v0, v1, v2, v8, v9, v11 =>
    if decide (wrap64 ((2 : Int) * v11) < v0) = true then Option.bind (f_impl_chanceRight_4 k v0 v1 v2 v8 v9 v11 (1 : Int) (0 : Int)) fun z1 => Option.bind (f_impl_chanceRight_6 k (Prod.fst z1) (Prod.fst (Prod.snd z1)) (Prod.fst (Prod.snd (Prod.snd z1))) (Prod.fst (Prod.snd (Prod.snd (Prod.snd z1)))) (Prod.fst (Prod.snd (Prod.snd (Prod.snd (Prod.snd z1))))) (Prod.fst (Prod.snd (Prod.snd (Prod.snd (Prod.snd (Prod.snd z1)))))) (Prod.snd (Prod.snd (Prod.snd (Prod.snd (Prod.snd (Prod.snd z1)))))) (0 : Int)) fun z2 => f_impl_chanceRight_2 k (Prod.fst z2) (Prod.fst (Prod.snd z2)) (Prod.fst (Prod.snd (Prod.snd z2))) (wrap64 (Prod.fst (Prod.snd (Prod.snd (Prod.snd z2))) + Prod.snd (Prod.snd (Prod.snd (Prod.snd (Prod.snd (Prod.snd z2))))))) (Prod.fst (Prod.snd (Prod.snd (Prod.snd (Prod.snd z2))))) (wrap64 (Prod.fst (Prod.snd (Prod.snd (Prod.snd (Prod.snd (Prod.snd z2))))) + (1 : Int))) else some (v8, v9)
noncomputable def f_impl_chanceRight_2i : Spec := { objs := [OSh.ro], tmps := [((0 : Nat), TSh.at (Sh.int IntKind.i64)), ((1 : Nat), TSh.at (Sh.int IntKind.i64)), ((2 : Nat), TSh.at (Sh.int IntKind.i64)), ((8 : Nat), TSh.at (Sh.int IntKind.i64)), ((9 : Nat), TSh.at (Sh.int IntKind.i64)), ((11 : Nat), TSh.at (Sh.int IntKind.i64))] }
noncomputable def f_impl_chanceRight_2o : Spec := { objs := [OSh.ro], tmps := [((8 : Nat), TSh.at (Sh.int IntKind.i64)), ((9 : Nat), TSh.at (Sh.int IntKind.i64))] }
noncomputable def f_impl_chanceRight_2D : LoopDef (Tup r_impl_chanceRight × OutD) := .plain f_impl_chanceRight_2i f_impl_chanceRight_2o (Int × Int) (fun k x => f_impl_chanceRight_2 k x.2.1 x.2.2.1 x.2.2.2.1 x.2.2.2.2.1 x.2.2.2.2.2.1 x.2.2.2.2.2.2.1) (fun z => (((), ()), (z.1, z.2, ()))) (fun y => (y.2.1, y.2.2.1)) (fun _ => rfl)
noncomputable def f_impl_chanceRight_8 : Nat → Int → Int → Int → Int → Option (Int × Int × Int)
  | 0, _, _, _, _ => none
  | k + 1, v8, v9, v15, v16 =>
    if decide (v16 ≠ (0 : Int)) = true then if v16 = (0 : Int) then none else f_impl_chanceRight_8 k v8 v9 v16 (Int.tmod v15 v16) else some (v8, v9, v15)
noncomputable def f_impl_chanceRight_8i : Spec := { objs := [OSh.ro], tmps := [((8 : Nat), TSh.at (Sh.int IntKind.i64)), ((9 : Nat), TSh.at (Sh.int IntKind.i64)), ((15 : Nat), TSh.at (Sh.int IntKind.i64)), ((16 : Nat), TSh.at (Sh.int IntKind.i64))] }
noncomputable def f_impl_chanceRight_8o : Spec := { objs := [OSh.ro], tmps := [((8 : Nat), TSh.at (Sh.int IntKind.i64)), ((9 : Nat), TSh.at (Sh.int IntKind.i64)), ((15 : Nat), TSh.at (Sh.int IntKind.i64))] }
noncomputable def f_impl_chanceRight_8D : LoopDef (Tup r_impl_chanceRight × OutD) := .plain f_impl_chanceRight_8i f_impl_chanceRight_8o (Int × Int × Int) (fun k x => f_impl_chanceRight_8 k x.2.1 x.2.2.1 x.2.2.2.1 x.2.2.2.2.1) (fun z => (((), ()), (z.1, z.2.1, z.2.2, ()))) (fun y => (y.2.1, y.2.2.1, y.2.2.2.1)) (fun _ => rfl)
noncomputable def f_impl_chanceRight : Nat → Int → Int → Int → Option (Int × Int)
  | 0, _, _, _ => none
  | k + 1, p0, p1, p2 =>
    Option.bind (f_impl_chanceRight_0 k p0 p1 p2 (0 : Int) (1 : Int) (0 : Int)) fun z0 => Option.bind (f_impl_chanceRight_2 k (Prod.fst z0) (Prod.fst (Prod.snd z0)) (Prod.fst (Prod.snd (Prod.snd z0))) (Prod.fst (Prod.snd (Prod.snd (Prod.snd z0)))) (Prod.snd (Prod.snd (Prod.snd (Prod.snd z0)))) (0 : Int)) fun z3 => Option.bind (f_impl_chanceRight_8 k (Prod.fst z3) (Prod.snd z3) (Prod.fst z3) (Prod.snd z3)) fun z4 => if Prod.snd (Prod.snd z4) = (0 : Int) then none else if Prod.snd (Prod.snd z4) = (0 : Int) then none else some (wrap64 (Int.tdiv (Prod.fst z4) (Prod.snd (Prod.snd z4))), wrap64 (Int.tdiv (Prod.fst (Prod.snd z4)) (Prod.snd (Prod.snd z4))))
noncomputable def d_impl_chanceRight : FnDef := .of q_impl_chanceRight r_impl_chanceRight (Int × Int) (fun k x => f_impl_chanceRight k x.1 x.2.1 x.2.2.1) to_impl_chanceRight of_impl_chanceRight to_of_impl_chanceRight
noncomputable def c_impl_chanceRight : Code := Try.f92.body.getD .skip
noncomputable def x_impl_chanceRight : Ctx (Tup r_impl_chanceRight × OutD) := { T := T, G := [], mvs := [], no := 0, n := 77, res := resOf T q_impl_chanceRight r_impl_chanceRight Try.f92.results.toList, loops := [(0, f_impl_chanceRight_0D.E), (4, f_impl_chanceRight_4D.E), (6, f_impl_chanceRight_6D.E), (2, f_impl_chanceRight_2D.E), (8, f_impl_chanceRight_8D.E)], regs := [], conds := [] }
theorem g_impl_chanceRight (k : Nat) : EnvOK Try.prog k x_impl_chanceRight.G := (EnvOK.nil mixed)
noncomputable def f_impl_chanceRight_0B : Code := (findLoop 0 c_impl_chanceRight).getD .skip
theorem f_impl_chanceRight_0h (k : Nat) (x : f_impl_chanceRight_0i.D) : f_impl_chanceRight_0D.lp (k + 1) x = loopK x_impl_chanceRight f_impl_chanceRight_0D 0 f_impl_chanceRight_0B k x := by kernel_rfl
theorem f_impl_chanceRight_0l (k : Nat) : LOK Try.prog x_impl_chanceRight k f_impl_chanceRight_0B := LOK.by [] (by kernel_rfl) AllOK.nil
theorem f_impl_chanceRight_0z (x : f_impl_chanceRight_0i.D) : f_impl_chanceRight_0D.lp 0 x = none := by kernel_rfl
theorem f_impl_chanceRight_0ok (k : Nat) : EOK Try.prog x_impl_chanceRight k f_impl_chanceRight_0D.E (.block 0 (.loop f_impl_chanceRight_0B)) := loop_ok T_ok g_impl_chanceRight f_impl_chanceRight_0z f_impl_chanceRight_0h f_impl_chanceRight_0l k
noncomputable def f_impl_chanceRight_4B : Code := (findLoop 4 c_impl_chanceRight).getD .skip
theorem f_impl_chanceRight_4h (k : Nat) (x : f_impl_chanceRight_4i.D) : f_impl_chanceRight_4D.lp (k + 1) x = loopK x_impl_chanceRight f_impl_chanceRight_4D 4 f_impl_chanceRight_4B k x := by kernel_rfl
theorem f_impl_chanceRight_4l (k : Nat) : LOK Try.prog x_impl_chanceRight k f_impl_chanceRight_4B := LOK.by [] (by kernel_rfl) AllOK.nil
theorem f_impl_chanceRight_4z (x : f_impl_chanceRight_4i.D) : f_impl_chanceRight_4D.lp 0 x = none := by kernel_rfl
theorem f_impl_chanceRight_4ok (k : Nat) : EOK Try.prog x_impl_chanceRight k f_impl_chanceRight_4D.E (.block 4 (.loop f_impl_chanceRight_4B)) := loop_ok T_ok g_impl_chanceRight f_impl_chanceRight_4z f_impl_chanceRight_4h f_impl_chanceRight_4l k
noncomputable def f_impl_chanceRight_6B : Code := (findLoop 6 c_impl_chanceRight).getD .skip
theorem f_impl_chanceRight_6h (k : Nat) (x : f_impl_chanceRight_6i.D) : f_impl_chanceRight_6D.lp (k + 1) x = loopK x_impl_chanceRight f_impl_chanceRight_6D 6 f_impl_chanceRight_6B k x := by kernel_rfl
theorem f_impl_chanceRight_6l (k : Nat) : LOK Try.prog x_impl_chanceRight k f_impl_chanceRight_6B := LOK.by [] (by kernel_rfl) AllOK.nil
theorem f_impl_chanceRight_6z (x : f_impl_chanceRight_6i.D) : f_impl_chanceRight_6D.lp 0 x = none := by kernel_rfl
theorem f_impl_chanceRight_6ok (k : Nat) : EOK Try.prog x_impl_chanceRight k f_impl_chanceRight_6D.E (.block 6 (.loop f_impl_chanceRight_6B)) := loop_ok T_ok g_impl_chanceRight f_impl_chanceRight_6z f_impl_chanceRight_6h f_impl_chanceRight_6l k
noncomputable def f_impl_chanceRight_2B : Code := (findLoop 2 c_impl_chanceRight).getD .skip
theorem f_impl_chanceRight_2h (k : Nat) (x : f_impl_chanceRight_2i.D) : f_impl_chanceRight_2D.lp (k + 1) x = loopK x_impl_chanceRight f_impl_chanceRight_2D 2 f_impl_chanceRight_2B k x := by kernel_rfl
theorem f_impl_chanceRight_2l (k : Nat) : LOK Try.prog x_impl_chanceRight k f_impl_chanceRight_2B := LOK.by [(f_impl_chanceRight_4D.E, .block 4 (.loop f_impl_chanceRight_4B)), (f_impl_chanceRight_6D.E, .block 6 (.loop f_impl_chanceRight_6B))] (by kernel_rfl) (AllOK.cons (f_impl_chanceRight_4ok k) (AllOK.cons (f_impl_chanceRight_6ok k) AllOK.nil))
theorem f_impl_chanceRight_2z (x : f_impl_chanceRight_2i.D) : f_impl_chanceRight_2D.lp 0 x = none := by kernel_rfl
theorem f_impl_chanceRight_2ok (k : Nat) : EOK Try.prog x_impl_chanceRight k f_impl_chanceRight_2D.E (.block 2 (.loop f_impl_chanceRight_2B)) := loop_ok T_ok g_impl_chanceRight f_impl_chanceRight_2z f_impl_chanceRight_2h f_impl_chanceRight_2l k
noncomputable def f_impl_chanceRight_8B : Code := (findLoop 8 c_impl_chanceRight).getD .skip
theorem f_impl_chanceRight_8h (k : Nat) (x : f_impl_chanceRight_8i.D) : f_impl_chanceRight_8D.lp (k + 1) x = loopK x_impl_chanceRight f_impl_chanceRight_8D 8 f_impl_chanceRight_8B k x := by kernel_rfl
theorem f_impl_chanceRight_8l (k : Nat) : LOK Try.prog x_impl_chanceRight k f_impl_chanceRight_8B := LOK.by [] (by kernel_rfl) AllOK.nil
theorem f_impl_chanceRight_8z (x : f_impl_chanceRight_8i.D) : f_impl_chanceRight_8D.lp 0 x = none := by kernel_rfl
theorem f_impl_chanceRight_8ok (k : Nat) : EOK Try.prog x_impl_chanceRight k f_impl_chanceRight_8D.E (.block 8 (.loop f_impl_chanceRight_8B)) := loop_ok T_ok g_impl_chanceRight f_impl_chanceRight_8z f_impl_chanceRight_8h f_impl_chanceRight_8l k
theorem h_impl_chanceRight (k : Nat) (x : Tup d_impl_chanceRight.ps) : d_impl_chanceRight.f (k + 1) x = fnK d_impl_chanceRight x_impl_chanceRight c_impl_chanceRight k x := by kernel_rfl
theorem z_impl_chanceRight (x : Tup d_impl_chanceRight.ps) : d_impl_chanceRight.f 0 x = none := by kernel_rfl
theorem l_impl_chanceRight (k : Nat) : LOK Try.prog x_impl_chanceRight k c_impl_chanceRight := LOK.by [(f_impl_chanceRight_0D.E, .block 0 (.loop f_impl_chanceRight_0B)), (f_impl_chanceRight_2D.E, .block 2 (.loop f_impl_chanceRight_2B)), (f_impl_chanceRight_8D.E, .block 8 (.loop f_impl_chanceRight_8B))] (by kernel_rfl) (AllOK.cons (f_impl_chanceRight_0ok k) (AllOK.cons (f_impl_chanceRight_2ok k) (AllOK.cons (f_impl_chanceRight_8ok k) AllOK.nil)))
theorem s_impl_chanceRight (k : Nat) : SoundAt Try.prog k 92 d_impl_chanceRight.E := @fn_all Try.prog d_impl_chanceRight x_impl_chanceRight 92 Try.f92 c_impl_chanceRight (by kernel_rfl) (by kernel_rfl) (by kernel_rfl) Try.func92 (by kernel_rfl) (by kernel_rfl) (by kernel_rfl) T_ok g_impl_chanceRight l_impl_chanceRight z_impl_chanceRight h_impl_chanceRight k
/-! function 96 -/
noncomputable def r_spec_l1In : List PK := [{ t := Ty.bool }]
noncomputable def q_spec_l1In : List PK := [{ t := Ty.int IntKind.i64 }, { t := Ty.int IntKind.i64 }, { t := Ty.int IntKind.i64 }]
noncomputable def to_spec_l1In (r : Bool) : Tup r_spec_l1In × OutD := ((r, ()), none)
noncomputable def of_spec_l1In : Tup r_spec_l1In × OutD → Option (Bool)
  | (a, none) => some (a.1)
  | _ => none
theorem to_of_spec_l1In : ∀ b r, of_spec_l1In b = some r → to_spec_l1In r = b := by
  rintro ⟨a, o⟩ r h
  cases o with
  | none => injection h with h; subst h; rfl
  | some _ => cases h
noncomputable def f_spec_l1In : Nat → Int → Int → Int → Option Bool
  | 0, _, _, _ => none
  | k + 1, p0, p1, p2 =>
    if decide (p0 ≥ p1) = true then some (decide (p0 ≤ p2)) else some false
noncomputable def d_spec_l1In : FnDef := .of q_spec_l1In r_spec_l1In (Bool) (fun k x => f_spec_l1In k x.1 x.2.1 x.2.2.1) to_spec_l1In of_spec_l1In to_of_spec_l1In
noncomputable def c_spec_l1In : Code := Try.f96.body.getD .skip
noncomputable def x_spec_l1In : Ctx (Tup r_spec_l1In × OutD) := { T := T, G := [], mvs := [], no := 0, n := 15, res := resOf T q_spec_l1In r_spec_l1In Try.f96.results.toList, loops := [], regs := [], conds := [] }
theorem g_spec_l1In (k : Nat) : EnvOK Try.prog k x_spec_l1In.G := (EnvOK.nil mixed)
theorem h_spec_l1In (k : Nat) (x : Tup d_spec_l1In.ps) : d_spec_l1In.f (k + 1) x = fnK d_spec_l1In x_spec_l1In c_spec_l1In k x := by kernel_rfl
theorem z_spec_l1In (x : Tup d_spec_l1In.ps) : d_spec_l1In.f 0 x = none := by kernel_rfl
theorem l_spec_l1In (k : Nat) : LOK Try.prog x_spec_l1In k c_spec_l1In := LOK.by [] (by kernel_rfl) AllOK.nil
theorem s_spec_l1In (k : Nat) : SoundAt Try.prog k 96 d_spec_l1In.E := @fn_all Try.prog d_spec_l1In x_spec_l1In 96 Try.f96 c_spec_l1In (by kernel_rfl) (by kernel_rfl) (by kernel_rfl) Try.func96 (by kernel_rfl) (by kernel_rfl) (by kernel_rfl) T_ok g_spec_l1In l_spec_l1In z_spec_l1In h_spec_l1In k
/-! function 115 -/
noncomputable def r_spec_l1Most : List PK := [{ t := Ty.int IntKind.i64 }]
noncomputable def q_spec_l1Most : List PK := [{ t := Ty.int IntKind.i64 }, { t := Ty.int IntKind.i64 }]
noncomputable def to_spec_l1Most (r : Int) : Tup r_spec_l1Most × OutD := ((r, ()), none)
noncomputable def of_spec_l1Most : Tup r_spec_l1Most × OutD → Option (Int)
  | (a, none) => some (a.1)
  | _ => none
theorem to_of_spec_l1Most : ∀ b r, of_spec_l1Most b = some r → to_spec_l1Most r = b := by
  rintro ⟨a, o⟩ r h
  cases o with
  | none => injection h with h; subst h; rfl
  | some _ => cases h
noncomputable def f_spec_l1Most : Nat → Int → Int → Option Int
  | 0, _, _ => none
  | k + 1, p0, p1 =>
    if decide (p0 > p1) = true then some p0 else some p1
noncomputable def d_spec_l1Most : FnDef := .of q_spec_l1Most r_spec_l1Most (Int) (fun k x => f_spec_l1Most k x.1 x.2.1) to_spec_l1Most of_spec_l1Most to_of_spec_l1Most
noncomputable def c_spec_l1Most : Code := Try.f115.body.getD .skip
noncomputable def x_spec_l1Most : Ctx (Tup r_spec_l1Most × OutD) := { T := T, G := [], mvs := [], no := 0, n := 10, res := resOf T q_spec_l1Most r_spec_l1Most Try.f115.results.toList, loops := [], regs := [], conds := [] }
theorem g_spec_l1Most (k : Nat) : EnvOK Try.prog k x_spec_l1Most.G := (EnvOK.nil mixed)
theorem h_spec_l1Most (k : Nat) (x : Tup d_spec_l1Most.ps) : d_spec_l1Most.f (k + 1) x = fnK d_spec_l1Most x_spec_l1Most c_spec_l1Most k x := by kernel_rfl
theorem z_spec_l1Most (x : Tup d_spec_l1Most.ps) : d_spec_l1Most.f 0 x = none := by kernel_rfl
theorem l_spec_l1Most (k : Nat) : LOK Try.prog x_spec_l1Most k c_spec_l1Most := LOK.by [] (by kernel_rfl) AllOK.nil
theorem s_spec_l1Most (k : Nat) : SoundAt Try.prog k 115 d_spec_l1Most.E := @fn_all Try.prog d_spec_l1Most x_spec_l1Most 115 Try.f115 c_spec_l1Most (by kernel_rfl) (by kernel_rfl) (by kernel_rfl) Try.func115 (by kernel_rfl) (by kernel_rfl) (by kernel_rfl) T_ok g_spec_l1Most l_spec_l1Most z_spec_l1Most h_spec_l1Most k
/-! function 171 -/
noncomputable def r_spec_voPower : List PK := [{ t := Ty.int IntKind.i64 }]
noncomputable def q_spec_voPower : List PK := [{ t := Ty.int IntKind.i64 }, { t := Ty.int IntKind.i64 }]
noncomputable def to_spec_voPower (r : Int) : Tup r_spec_voPower × OutD := ((r, ()), none)
noncomputable def of_spec_voPower : Tup r_spec_voPower × OutD → Option (Int)
  | (a, none) => some (a.1)
  | _ => none
theorem to_of_spec_voPower : ∀ b r, of_spec_voPower b = some r → to_spec_voPower r = b := by
  rintro ⟨a, o⟩ r h
  cases o with
  | none => injection h with h; subst h; rfl
  | some _ => cases h
noncomputable def f_spec_voPower_0 : Nat → Int → Int → Int → Option Int
  | 0, _, _, _ => none
  | k + 1, v0, v1, v5 =>
    if decide (v1 > (0 : Int)) = true then f_spec_voPower_0 k v0 (wrap64 (v1 - (1 : Int))) (wrap64 (v5 * v0)) else some v5
noncomputable def f_spec_voPower_0i : Spec := { objs := [OSh.ro], tmps := [((0 : Nat), TSh.at (Sh.int IntKind.i64)), ((1 : Nat), TSh.at (Sh.int IntKind.i64)), ((5 : Nat), TSh.at (Sh.int IntKind.i64))] }
noncomputable def f_spec_voPower_0o : Spec := { objs := [OSh.ro], tmps := [((5 : Nat), TSh.at (Sh.int IntKind.i64))] }
noncomputable def f_spec_voPower_0D : LoopDef (Tup r_spec_voPower × OutD) := .plain f_spec_voPower_0i f_spec_voPower_0o (Int) (fun k x => f_spec_voPower_0 k x.2.1 x.2.2.1 x.2.2.2.1) (fun z => (((), ()), (z, ()))) (fun y => (y.2.1)) (fun _ => rfl)
noncomputable def f_spec_voPower : Nat → Int → Int → Option Int
  | 0, _, _ => none
  | k + 1, p0, p1 =>
    Option.bind (f_spec_voPower_0 k p0 p1 (1 : Int)) fun z0 => some z0
noncomputable def d_spec_voPower : FnDef := .of q_spec_voPower r_spec_voPower (Int) (fun k x => f_spec_voPower k x.1 x.2.1) to_spec_voPower of_spec_voPower to_of_spec_voPower
noncomputable def c_spec_voPower : Code := Try.f171.body.getD .skip
noncomputable def x_spec_voPower : Ctx (Tup r_spec_voPower × OutD) := { T := T, G := [], mvs := [], no := 0, n := 14, res := resOf T q_spec_voPower r_spec_voPower Try.f171.results.toList, loops := [(0, f_spec_voPower_0D.E)], regs := [], conds := [] }
theorem g_spec_voPower (k : Nat) : EnvOK Try.prog k x_spec_voPower.G := (EnvOK.nil mixed)
noncomputable def f_spec_voPower_0B : Code := (findLoop 0 c_spec_voPower).getD .skip
theorem f_spec_voPower_0h (k : Nat) (x : f_spec_voPower_0i.D) : f_spec_voPower_0D.lp (k + 1) x = loopK x_spec_voPower f_spec_voPower_0D 0 f_spec_voPower_0B k x := by kernel_rfl
theorem f_spec_voPower_0l (k : Nat) : LOK Try.prog x_spec_voPower k f_spec_voPower_0B := LOK.by [] (by kernel_rfl) AllOK.nil
theorem f_spec_voPower_0z (x : f_spec_voPower_0i.D) : f_spec_voPower_0D.lp 0 x = none := by kernel_rfl
theorem f_spec_voPower_0ok (k : Nat) : EOK Try.prog x_spec_voPower k f_spec_voPower_0D.E (.block 0 (.loop f_spec_voPower_0B)) := loop_ok T_ok g_spec_voPower f_spec_voPower_0z f_spec_voPower_0h f_spec_voPower_0l k
theorem h_spec_voPower (k : Nat) (x : Tup d_spec_voPower.ps) : d_spec_voPower.f (k + 1) x = fnK d_spec_voPower x_spec_voPower c_spec_voPower k x := by kernel_rfl
theorem z_spec_voPower (x : Tup d_spec_voPower.ps) : d_spec_voPower.f 0 x = none := by kernel_rfl
theorem l_spec_voPower (k : Nat) : LOK Try.prog x_spec_voPower k c_spec_voPower := LOK.by [(f_spec_voPower_0D.E, .block 0 (.loop f_spec_voPower_0B))] (by kernel_rfl) (AllOK.cons (f_spec_voPower_0ok k) AllOK.nil)
theorem s_spec_voPower (k : Nat) : SoundAt Try.prog k 171 d_spec_voPower.E := @fn_all Try.prog d_spec_voPower x_spec_voPower 171 Try.f171 c_spec_voPower (by kernel_rfl) (by kernel_rfl) (by kernel_rfl) Try.func171 (by kernel_rfl) (by kernel_rfl) (by kernel_rfl) T_ok g_spec_voPower l_spec_voPower z_spec_voPower h_spec_voPower k
/-! function 175 -/
noncomputable def r_spec_l1Cur_next : List PK := [{ t := Ty.int IntKind.i64 }]
noncomputable def q_spec_l1Cur_next : List PK := [{ t := Ty.pair (Ty.slice (5 : Nat) (Ty.int IntKind.u8)) (Ty.pair (Ty.int IntKind.i64) (Ty.int IntKind.u64)), box := some (114 : Nat) }]
noncomputable def to_spec_l1Cur_next (r : Int × Int × Int) : Tup r_spec_l1Cur_next × OutD := ((r.1, ()), some ⟨Ty.pair (Ty.slice (5 : Nat) (Ty.int IntKind.u8)) (Ty.pair (Ty.int IntKind.i64) (Ty.int IntKind.u64)), [([], r.2)]⟩)
noncomputable def of_spec_l1Cur_next : Tup r_spec_l1Cur_next × OutD → Option (Int × Int × Int)
  | (a, some ⟨u, ys⟩) => if h : u = Ty.pair (Ty.slice (5 : Nat) (Ty.int IntKind.u8)) (Ty.pair (Ty.int IntKind.i64) (Ty.int IntKind.u64)) then (match castU h ys with
    | [([], y)] => some (a.1, y)
    | _ => none) else none
  | _ => none
theorem to_of_spec_l1Cur_next : ∀ b r, of_spec_l1Cur_next b = some r → to_spec_l1Cur_next r = b := by
  rintro ⟨a, o⟩ r h
  cases o with
  | none => cases h
  | some s =>
    obtain ⟨u, ys⟩ := s
    simp only [of_spec_l1Cur_next] at h
    split at h
    · rename_i hu
      subst hu
      match ys, h with
      | [], h => cases (show (none : Option _) = some r from h)
      | [([], y)], h => injection (show some _ = some r from h) with h; subst h; rfl
      | [(_ :: _, y)], h => cases (show (none : Option _) = some r from h)
      | (h1, _) :: _ :: _, h => cases h1 <;> cases (show (none : Option _) = some r from h)
    · cases h
noncomputable def f_spec_l1Cur_next : Nat → List Int × Int × Int → Option (Int × Int × Int)
  | 0, _ => none
  | k + 1, p0 =>
    if decide (Prod.fst (Prod.snd p0) < (↑(List.length (Prod.fst p0)) : Int)) = true then if (0 : Int) ≤ Prod.fst (Prod.snd p0) then if Prod.fst (Prod.snd p0) < (↑(List.length (Prod.fst p0)) : Int) then if decide (wrap64 (Prod.fst (Prod.snd p0) + (1 : Int)) ≤ (↑(List.length (Prod.fst p0)) : Int)) = true then some (wrap64 (List.getD (Prod.fst p0) (Int.toNat (Prod.fst (Prod.snd p0))) (0 : Int)), wrap64 (Prod.fst (Prod.snd p0) + (1 : Int)), IntKind.wrap IntKind.u64 (IntKind.wrap IntKind.u64 (IntKind.wrap IntKind.u64 (Prod.snd (Prod.snd p0) * (6364136223846793005 : Int)) + IntKind.wrap IntKind.u64 (wrap64 (List.getD (Prod.fst p0) (Int.toNat (Prod.fst (Prod.snd p0))) (0 : Int)))) + (1442695040888963407 : Int))) else some (wrap64 (bits BinOp.and IntKind.u64 (Int.fdiv (IntKind.wrap IntKind.u64 (IntKind.wrap IntKind.u64 (IntKind.wrap IntKind.u64 (Prod.snd (Prod.snd p0) * (6364136223846793005 : Int)) + IntKind.wrap IntKind.u64 (wrap64 (List.getD (Prod.fst p0) (Int.toNat (Prod.fst (Prod.snd p0))) (0 : Int)))) + (1442695040888963407 : Int))) ((2 : Int) ^ min (Int.toNat (40 : Int)) (IntKind.bits IntKind.u64))) (255 : Int)), wrap64 (Prod.fst (Prod.snd p0) + (1 : Int)), IntKind.wrap IntKind.u64 (IntKind.wrap IntKind.u64 (IntKind.wrap IntKind.u64 (Prod.snd (Prod.snd p0) * (6364136223846793005 : Int)) + IntKind.wrap IntKind.u64 (wrap64 (List.getD (Prod.fst p0) (Int.toNat (Prod.fst (Prod.snd p0))) (0 : Int)))) + (1442695040888963407 : Int))) else none else none else if decide (wrap64 (Prod.fst (Prod.snd p0) + (1 : Int)) ≤ (↑(List.length (Prod.fst p0)) : Int)) = true then some ((0 : Int), wrap64 (Prod.fst (Prod.snd p0) + (1 : Int)), IntKind.wrap IntKind.u64 (IntKind.wrap IntKind.u64 (IntKind.wrap IntKind.u64 (Prod.snd (Prod.snd p0) * (6364136223846793005 : Int)) + IntKind.wrap IntKind.u64 (0 : Int)) + (1442695040888963407 : Int))) else some (wrap64 (bits BinOp.and IntKind.u64 (Int.fdiv (IntKind.wrap IntKind.u64 (IntKind.wrap IntKind.u64 (IntKind.wrap IntKind.u64 (Prod.snd (Prod.snd p0) * (6364136223846793005 : Int)) + IntKind.wrap IntKind.u64 (0 : Int)) + (1442695040888963407 : Int))) ((2 : Int) ^ min (Int.toNat (40 : Int)) (IntKind.bits IntKind.u64))) (255 : Int)), wrap64 (Prod.fst (Prod.snd p0) + (1 : Int)), IntKind.wrap IntKind.u64 (IntKind.wrap IntKind.u64 (IntKind.wrap IntKind.u64 (Prod.snd (Prod.snd p0) * (6364136223846793005 : Int)) + IntKind.wrap IntKind.u64 (0 : Int)) + (1442695040888963407 : Int)))
noncomputable def d_spec_l1Cur_next : FnDef := .of q_spec_l1Cur_next r_spec_l1Cur_next (Int × Int × Int) (fun k x => f_spec_l1Cur_next k x.1) to_spec_l1Cur_next of_spec_l1Cur_next to_of_spec_l1Cur_next
noncomputable def c_spec_l1Cur_next : Code := Try.f175.body.getD .skip
noncomputable def x_spec_l1Cur_next : Ctx (Tup r_spec_l1Cur_next × OutD) := { T := T, G := [], mvs := [], no := 2, n := 62, res := resOf T q_spec_l1Cur_next r_spec_l1Cur_next Try.f175.results.toList, loops := [], regs := [], conds := [] }
theorem g_spec_l1Cur_next (k : Nat) : EnvOK Try.prog k x_spec_l1Cur_next.G := (EnvOK.nil mixed)
theorem h_spec_l1Cur_next (k : Nat) (x : Tup d_spec_l1Cur_next.ps) : d_spec_l1Cur_next.f (k + 1) x = fnK d_spec_l1Cur_next x_spec_l1Cur_next c_spec_l1Cur_next k x := by kernel_rfl
theorem z_spec_l1Cur_next (x : Tup d_spec_l1Cur_next.ps) : d_spec_l1Cur_next.f 0 x = none := by kernel_rfl
theorem l_spec_l1Cur_next (k : Nat) : LOK Try.prog x_spec_l1Cur_next k c_spec_l1Cur_next := LOK.by [] (by kernel_rfl) AllOK.nil
theorem s_spec_l1Cur_next (k : Nat) : SoundAt Try.prog k 175 d_spec_l1Cur_next.E := @fn_all Try.prog d_spec_l1Cur_next x_spec_l1Cur_next 175 Try.f175 c_spec_l1Cur_next (by kernel_rfl) (by kernel_rfl) (by kernel_rfl) Try.func175 (by kernel_rfl) (by kernel_rfl) (by kernel_rfl) T_ok g_spec_l1Cur_next l_spec_l1Cur_next z_spec_l1Cur_next h_spec_l1Cur_next k
end
end Go.Proofs.Ytgjmhbjdhihgaaa.Vs

set_option maxRecDepth 100000
set_option maxHeartbeats 2000000
set_option linter.unusedVariables false
set_option linter.unusedSimpArgs false
namespace Go.Proofs.Ytgjmhbjdhihgaaa.Vs
open Go.RowKit
noncomputable section
/-! function 10 -/
noncomputable def r_impl_ChanceRight : List PK := [{ t := Ty.int IntKind.i64 }, { t := Ty.int IntKind.i64 }, { t := Ty.bool }]
noncomputable def q_impl_ChanceRight : List PK := [{ t := Ty.int IntKind.i64 }, { t := Ty.int IntKind.i64 }, { t := Ty.int IntKind.i64 }]
noncomputable def to_impl_ChanceRight (r : Int × Int × Bool) : Tup r_impl_ChanceRight × OutD := ((r.1, r.2.1, r.2.2, ()), none)
noncomputable def of_impl_ChanceRight : Tup r_impl_ChanceRight × OutD → Option (Int × Int × Bool)
  | (a, none) => some (a.1, a.2.1, a.2.2.1)
  | _ => none
theorem to_of_impl_ChanceRight : ∀ b r, of_impl_ChanceRight b = some r → to_impl_ChanceRight r = b := by
  rintro ⟨a, o⟩ r h
  cases o with
  | none => injection h with h; subst h; rfl
  | some _ => cases h
noncomputable def f_impl_ChanceRight : Nat → Int → Int → Int → Option (Int × Int × Bool)
  | 0, _, _, _ => none
  | k + 1, p0, p1, p2 =>
    if decide (p0 < (1 : Int)) = true then some ((0 : Int), (0 : Int), false) else if decide (p0 > (9 : Int)) = true then some ((0 : Int), (0 : Int), false) else if decide (Int.tmod p0 (2 : Int) = (0 : Int)) = true then some ((0 : Int), (0 : Int), false) else if decide (p2 < (1 : Int)) = true then some ((0 : Int), (0 : Int), false) else if decide (p2 > (10 : Int)) = true then some ((0 : Int), (0 : Int), false) else if decide (p1 < (0 : Int)) = true then some ((0 : Int), (0 : Int), false) else if decide (p1 > p2) = true then some ((0 : Int), (0 : Int), false) else Option.bind (f_impl_chanceRight k p0 p1 p2) fun z0 => some (Prod.fst z0, Prod.snd z0, true)
noncomputable def d_impl_ChanceRight : FnDef := .of q_impl_ChanceRight r_impl_ChanceRight (Int × Int × Bool) (fun k x => f_impl_ChanceRight k x.1 x.2.1 x.2.2.1) to_impl_ChanceRight of_impl_ChanceRight to_of_impl_ChanceRight
noncomputable def c_impl_ChanceRight : Code := Try.f10.body.getD .skip
noncomputable def x_impl_ChanceRight : Ctx (Tup r_impl_ChanceRight × OutD) := { T := T, G := [(92, d_impl_chanceRight.E)], mvs := [], no := 0, n := 48, res := resOf T q_impl_ChanceRight r_impl_ChanceRight Try.f10.results.toList, loops := [], regs := [], conds := [] }
theorem g_impl_ChanceRight (k : Nat) : EnvOK Try.prog k x_impl_ChanceRight.G := (EnvOK.cons (s_impl_chanceRight k) (EnvOK.nil mixed))
theorem h_impl_ChanceRight (k : Nat) (x : Tup d_impl_ChanceRight.ps) : d_impl_ChanceRight.f (k + 1) x = fnK d_impl_ChanceRight x_impl_ChanceRight c_impl_ChanceRight k x := by kernel_rfl
theorem z_impl_ChanceRight (x : Tup d_impl_ChanceRight.ps) : d_impl_ChanceRight.f 0 x = none := by kernel_rfl
theorem l_impl_ChanceRight (k : Nat) : LOK Try.prog x_impl_ChanceRight k c_impl_ChanceRight := LOK.by [] (by kernel_rfl) AllOK.nil
theorem s_impl_ChanceRight (k : Nat) : SoundAt Try.prog k 10 d_impl_ChanceRight.E := @fn_all Try.prog d_impl_ChanceRight x_impl_ChanceRight 10 Try.f10 c_impl_ChanceRight (by kernel_rfl) (by kernel_rfl) (by kernel_rfl) Try.func10 (by kernel_rfl) (by kernel_rfl) (by kernel_rfl) T_ok g_impl_ChanceRight l_impl_ChanceRight z_impl_ChanceRight h_impl_ChanceRight k
/-! function 13 -/
noncomputable def r_impl_LeastCopies : List PK := [{ t := Ty.int IntKind.i64 }, { t := Ty.bool }]
noncomputable def q_impl_LeastCopies : List PK := [{ t := Ty.int IntKind.i64 }, { t := Ty.int IntKind.i64 }, { t := Ty.int IntKind.i64 }, { t := Ty.int IntKind.i64 }]
noncomputable def to_impl_LeastCopies (r : Int × Bool) : Tup r_impl_LeastCopies × OutD := ((r.1, r.2, ()), none)
noncomputable def of_impl_LeastCopies : Tup r_impl_LeastCopies × OutD → Option (Int × Bool)
  | (a, none) => some (a.1, a.2.1)
  | _ => none
theorem to_of_impl_LeastCopies : ∀ b r, of_impl_LeastCopies b = some r → to_impl_LeastCopies r = b := by
  rintro ⟨a, o⟩ r h
  cases o with
  | none => injection h with h; subst h; rfl
  | some _ => cases h
noncomputable def f_impl_LeastCopies_0 : Nat → Int → Int → Int → Int → Int → Option (LR Unit (Int × Bool))
  | 0, _, _, _, _, _ => none
  | k + 1, v0, v1, v2, v3, v10 =>
    if decide (v10 ≤ (9 : Int)) = true then Option.bind (f_impl_chanceRight k v10 v0 v1) fun z0 => if decide (wrap64 (Prod.fst z0 * v3) ≥ wrap64 (v2 * Prod.snd z0)) = true then some (LR.ret (v10, true)) else f_impl_LeastCopies_0 k v0 v1 v2 v3 (wrap64 (v10 + (2 : Int))) else some (LR.go ())
noncomputable def f_impl_LeastCopies_0i : Spec := { objs := [OSh.ro], tmps := [((0 : Nat), TSh.at (Sh.int IntKind.i64)), ((1 : Nat), TSh.at (Sh.int IntKind.i64)), ((2 : Nat), TSh.at (Sh.int IntKind.i64)), ((3 : Nat), TSh.at (Sh.int IntKind.i64)), ((10 : Nat), TSh.at (Sh.int IntKind.i64))] }
noncomputable def f_impl_LeastCopies_0o : Spec := { objs := [OSh.ro], tmps := [] }
noncomputable def f_impl_LeastCopies_0D : LoopDef (Tup r_impl_LeastCopies × OutD) := .rets f_impl_LeastCopies_0i f_impl_LeastCopies_0o (Unit) (Int × Bool) (fun k x => f_impl_LeastCopies_0 k x.2.1 x.2.2.1 x.2.2.2.1 x.2.2.2.2.1 x.2.2.2.2.2.1) (fun z => (((), ()), (()))) (fun y => ()) (fun _ => rfl) to_impl_LeastCopies of_impl_LeastCopies to_of_impl_LeastCopies
noncomputable def f_impl_LeastCopies : Nat → Int → Int → Int → Int → Option (Int × Bool)
  | 0, _, _, _, _ => none
  | k + 1, p0, p1, p2, p3 =>
    if decide (p1 < (1 : Int)) = true then some ((0 : Int), false) else if decide (p1 > (10 : Int)) = true then some ((0 : Int), false) else if decide (p0 < (0 : Int)) = true then some ((0 : Int), false) else if decide (p0 > p1) = true then some ((0 : Int), false) else if decide (p3 < (1 : Int)) = true then some ((0 : Int), false) else if decide (p3 > (1000 : Int)) = true then some ((0 : Int), false) else if decide (p2 < (0 : Int)) = true then some ((0 : Int), false) else if decide (p2 > p3) = true then some ((0 : Int), false) else Option.bind (f_impl_LeastCopies_0 k p0 p1 p2 p3 (1 : Int)) fun z1 => LR.on z1 (fun y1 => some ((0 : Int), false)) fun r1 => some r1
noncomputable def d_impl_LeastCopies : FnDef := .of q_impl_LeastCopies r_impl_LeastCopies (Int × Bool) (fun k x => f_impl_LeastCopies k x.1 x.2.1 x.2.2.1 x.2.2.2.1) to_impl_LeastCopies of_impl_LeastCopies to_of_impl_LeastCopies
noncomputable def c_impl_LeastCopies : Code := Try.f13.body.getD .skip
noncomputable def x_impl_LeastCopies : Ctx (Tup r_impl_LeastCopies × OutD) := { T := T, G := [(92, d_impl_chanceRight.E)], mvs := [], no := 0, n := 64, res := resOf T q_impl_LeastCopies r_impl_LeastCopies Try.f13.results.toList, loops := [(0, f_impl_LeastCopies_0D.E)], regs := [], conds := [] }
theorem g_impl_LeastCopies (k : Nat) : EnvOK Try.prog k x_impl_LeastCopies.G := (EnvOK.cons (s_impl_chanceRight k) (EnvOK.nil mixed))
noncomputable def f_impl_LeastCopies_0B : Code := (findLoop 0 c_impl_LeastCopies).getD .skip
theorem f_impl_LeastCopies_0h (k : Nat) (x : f_impl_LeastCopies_0i.D) : f_impl_LeastCopies_0D.lp (k + 1) x = loopK x_impl_LeastCopies f_impl_LeastCopies_0D 0 f_impl_LeastCopies_0B k x := by kernel_rfl
theorem f_impl_LeastCopies_0l (k : Nat) : LOK Try.prog x_impl_LeastCopies k f_impl_LeastCopies_0B := LOK.by [] (by kernel_rfl) AllOK.nil
theorem f_impl_LeastCopies_0z (x : f_impl_LeastCopies_0i.D) : f_impl_LeastCopies_0D.lp 0 x = none := by kernel_rfl
theorem f_impl_LeastCopies_0ok (k : Nat) : EOK Try.prog x_impl_LeastCopies k f_impl_LeastCopies_0D.E (.block 0 (.loop f_impl_LeastCopies_0B)) := loop_ok T_ok g_impl_LeastCopies f_impl_LeastCopies_0z f_impl_LeastCopies_0h f_impl_LeastCopies_0l k
theorem h_impl_LeastCopies (k : Nat) (x : Tup d_impl_LeastCopies.ps) : d_impl_LeastCopies.f (k + 1) x = fnK d_impl_LeastCopies x_impl_LeastCopies c_impl_LeastCopies k x := by kernel_rfl
theorem z_impl_LeastCopies (x : Tup d_impl_LeastCopies.ps) : d_impl_LeastCopies.f 0 x = none := by kernel_rfl
theorem l_impl_LeastCopies (k : Nat) : LOK Try.prog x_impl_LeastCopies k c_impl_LeastCopies := LOK.by [(f_impl_LeastCopies_0D.E, .block 0 (.loop f_impl_LeastCopies_0B))] (by kernel_rfl) (AllOK.cons (f_impl_LeastCopies_0ok k) AllOK.nil)
theorem s_impl_LeastCopies (k : Nat) : SoundAt Try.prog k 13 d_impl_LeastCopies.E := @fn_all Try.prog d_impl_LeastCopies x_impl_LeastCopies 13 Try.f13 c_impl_LeastCopies (by kernel_rfl) (by kernel_rfl) (by kernel_rfl) Try.func13 (by kernel_rfl) (by kernel_rfl) (by kernel_rfl) T_ok g_impl_LeastCopies l_impl_LeastCopies z_impl_LeastCopies h_impl_LeastCopies k
/-! function 93 -/
noncomputable def r_spec_voCopies : List PK := [{ t := Ty.bool }]
noncomputable def q_spec_voCopies : List PK := [{ t := Ty.int IntKind.i64 }]
noncomputable def to_spec_voCopies (r : Bool) : Tup r_spec_voCopies × OutD := ((r, ()), none)
noncomputable def of_spec_voCopies : Tup r_spec_voCopies × OutD → Option (Bool)
  | (a, none) => some (a.1)
  | _ => none
theorem to_of_spec_voCopies : ∀ b r, of_spec_voCopies b = some r → to_spec_voCopies r = b := by
  rintro ⟨a, o⟩ r h
  cases o with
  | none => injection h with h; subst h; rfl
  | some _ => cases h
noncomputable def f_spec_voCopies : Nat → Int → Option Bool
  | 0, _ => none
  | k + 1, p0 =>
    Option.bind (f_spec_l1In k p0 (1 : Int) (9 : Int)) fun z0 => some z0
noncomputable def d_spec_voCopies : FnDef := .of q_spec_voCopies r_spec_voCopies (Bool) (fun k x => f_spec_voCopies k x.1) to_spec_voCopies of_spec_voCopies to_of_spec_voCopies
noncomputable def c_spec_voCopies : Code := Try.f93.body.getD .skip
noncomputable def x_spec_voCopies : Ctx (Tup r_spec_voCopies × OutD) := { T := T, G := [(96, d_spec_l1In.E)], mvs := [], no := 0, n := 5, res := resOf T q_spec_voCopies r_spec_voCopies Try.f93.results.toList, loops := [], regs := [], conds := [] }
theorem g_spec_voCopies (k : Nat) : EnvOK Try.prog k x_spec_voCopies.G := (EnvOK.cons (s_spec_l1In k) (EnvOK.nil mixed))
theorem h_spec_voCopies (k : Nat) (x : Tup d_spec_voCopies.ps) : d_spec_voCopies.f (k + 1) x = fnK d_spec_voCopies x_spec_voCopies c_spec_voCopies k x := by kernel_rfl
theorem z_spec_voCopies (x : Tup d_spec_voCopies.ps) : d_spec_voCopies.f 0 x = none := by kernel_rfl
theorem l_spec_voCopies (k : Nat) : LOK Try.prog x_spec_voCopies k c_spec_voCopies := LOK.by [] (by kernel_rfl) AllOK.nil
theorem s_spec_voCopies (k : Nat) : SoundAt Try.prog k 93 d_spec_voCopies.E := @fn_all Try.prog d_spec_voCopies x_spec_voCopies 93 Try.f93 c_spec_voCopies (by kernel_rfl) (by kernel_rfl) (by kernel_rfl) Try.func93 (by kernel_rfl) (by kernel_rfl) (by kernel_rfl) T_ok g_spec_voCopies l_spec_voCopies z_spec_voCopies h_spec_voCopies k
/-! function 94 -/
noncomputable def r_spec_voWrong : List PK := [{ t := Ty.bool }]
noncomputable def q_spec_voWrong : List PK := [{ t := Ty.int IntKind.i64 }, { t := Ty.int IntKind.i64 }]
noncomputable def to_spec_voWrong (r : Bool) : Tup r_spec_voWrong × OutD := ((r, ()), none)
noncomputable def of_spec_voWrong : Tup r_spec_voWrong × OutD → Option (Bool)
  | (a, none) => some (a.1)
  | _ => none
theorem to_of_spec_voWrong : ∀ b r, of_spec_voWrong b = some r → to_spec_voWrong r = b := by
  rintro ⟨a, o⟩ r h
  cases o with
  | none => injection h with h; subst h; rfl
  | some _ => cases h
noncomputable def f_spec_voWrong : Nat → Int → Int → Option Bool
  | 0, _, _ => none
  | k + 1, p0, p1 =>
    Option.bind (f_spec_l1In k p1 (1 : Int) (10 : Int)) fun z0 => if z0 = true then Option.bind (f_spec_l1In k p0 (0 : Int) p1) fun z1 => some z1 else some false
noncomputable def d_spec_voWrong : FnDef := .of q_spec_voWrong r_spec_voWrong (Bool) (fun k x => f_spec_voWrong k x.1 x.2.1) to_spec_voWrong of_spec_voWrong to_of_spec_voWrong
noncomputable def c_spec_voWrong : Code := Try.f94.body.getD .skip
noncomputable def x_spec_voWrong : Ctx (Tup r_spec_voWrong × OutD) := { T := T, G := [(96, d_spec_l1In.E)], mvs := [], no := 0, n := 12, res := resOf T q_spec_voWrong r_spec_voWrong Try.f94.results.toList, loops := [], regs := [], conds := [] }
theorem g_spec_voWrong (k : Nat) : EnvOK Try.prog k x_spec_voWrong.G := (EnvOK.cons (s_spec_l1In k) (EnvOK.nil mixed))
theorem h_spec_voWrong (k : Nat) (x : Tup d_spec_voWrong.ps) : d_spec_voWrong.f (k + 1) x = fnK d_spec_voWrong x_spec_voWrong c_spec_voWrong k x := by kernel_rfl
theorem z_spec_voWrong (x : Tup d_spec_voWrong.ps) : d_spec_voWrong.f 0 x = none := by kernel_rfl
theorem l_spec_voWrong (k : Nat) : LOK Try.prog x_spec_voWrong k c_spec_voWrong := LOK.by [] (by kernel_rfl) AllOK.nil
theorem s_spec_voWrong (k : Nat) : SoundAt Try.prog k 94 d_spec_voWrong.E := @fn_all Try.prog d_spec_voWrong x_spec_voWrong 94 Try.f94 c_spec_voWrong (by kernel_rfl) (by kernel_rfl) (by kernel_rfl) Try.func94 (by kernel_rfl) (by kernel_rfl) (by kernel_rfl) T_ok g_spec_voWrong l_spec_voWrong z_spec_voWrong h_spec_voWrong k
/-! function 111 -/
noncomputable def r_spec_l1Cur_pick : List PK := [{ t := Ty.int IntKind.i64 }]
noncomputable def q_spec_l1Cur_pick : List PK := [{ t := Ty.pair (Ty.slice (5 : Nat) (Ty.int IntKind.u8)) (Ty.pair (Ty.int IntKind.i64) (Ty.int IntKind.u64)), box := some (114 : Nat) }, { t := Ty.int IntKind.i64 }]
noncomputable def to_spec_l1Cur_pick (r : Int × Int × Int) : Tup r_spec_l1Cur_pick × OutD := ((r.1, ()), some ⟨Ty.pair (Ty.slice (5 : Nat) (Ty.int IntKind.u8)) (Ty.pair (Ty.int IntKind.i64) (Ty.int IntKind.u64)), [([], r.2)]⟩)
noncomputable def of_spec_l1Cur_pick : Tup r_spec_l1Cur_pick × OutD → Option (Int × Int × Int)
  | (a, some ⟨u, ys⟩) => if h : u = Ty.pair (Ty.slice (5 : Nat) (Ty.int IntKind.u8)) (Ty.pair (Ty.int IntKind.i64) (Ty.int IntKind.u64)) then (match castU h ys with
    | [([], y)] => some (a.1, y)
    | _ => none) else none
  | _ => none
theorem to_of_spec_l1Cur_pick : ∀ b r, of_spec_l1Cur_pick b = some r → to_spec_l1Cur_pick r = b := by
  rintro ⟨a, o⟩ r h
  cases o with
  | none => cases h
  | some s =>
    obtain ⟨u, ys⟩ := s
    simp only [of_spec_l1Cur_pick] at h
    split at h
    · rename_i hu
      subst hu
      match ys, h with
      | [], h => cases (show (none : Option _) = some r from h)
      | [([], y)], h => injection (show some _ = some r from h) with h; subst h; rfl
      | [(_ :: _, y)], h => cases (show (none : Option _) = some r from h)
      | (h1, _) :: _ :: _, h => cases h1 <;> cases (show (none : Option _) = some r from h)
    · cases h
noncomputable def f_spec_l1Cur_pick : Nat → List Int × Int × Int → Int → Option (Int × Int × Int)
  | 0, _, _ => none
  | k + 1, p0, p1 =>
    if decide (p1 ≤ (1 : Int)) = true then some ((0 : Int), Prod.fst (Prod.snd p0), Prod.snd (Prod.snd p0)) else Option.bind (f_spec_l1Cur_next k (Prod.fst p0, Prod.fst (Prod.snd p0), Prod.snd (Prod.snd p0))) fun z0 => if decide (p1 > (200 : Int)) = true then Option.bind (f_spec_l1Cur_next k (Prod.fst p0, Prod.fst (Prod.snd z0), Prod.snd (Prod.snd z0))) fun z1 => if p1 = (0 : Int) then none else some (Int.tmod (wrap64 (wrap64 (Prod.fst z0 * (256 : Int)) + Prod.fst z1)) p1, Prod.fst (Prod.snd z1), Prod.snd (Prod.snd z1)) else if p1 = (0 : Int) then none else some (Int.tmod (Prod.fst z0) p1, Prod.fst (Prod.snd z0), Prod.snd (Prod.snd z0))
noncomputable def d_spec_l1Cur_pick : FnDef := .of q_spec_l1Cur_pick r_spec_l1Cur_pick (Int × Int × Int) (fun k x => f_spec_l1Cur_pick k x.1 x.2.1) to_spec_l1Cur_pick of_spec_l1Cur_pick to_of_spec_l1Cur_pick
noncomputable def c_spec_l1Cur_pick : Code := Try.f111.body.getD .skip
noncomputable def x_spec_l1Cur_pick : Ctx (Tup r_spec_l1Cur_pick × OutD) := { T := T, G := [(175, d_spec_l1Cur_next.E)], mvs := [], no := 2, n := 20, res := resOf T q_spec_l1Cur_pick r_spec_l1Cur_pick Try.f111.results.toList, loops := [], regs := [], conds := [] }
theorem g_spec_l1Cur_pick (k : Nat) : EnvOK Try.prog k x_spec_l1Cur_pick.G := (EnvOK.cons (s_spec_l1Cur_next k) (EnvOK.nil mixed))
theorem h_spec_l1Cur_pick (k : Nat) (x : Tup d_spec_l1Cur_pick.ps) : d_spec_l1Cur_pick.f (k + 1) x = fnK d_spec_l1Cur_pick x_spec_l1Cur_pick c_spec_l1Cur_pick k x := by kernel_rfl
theorem z_spec_l1Cur_pick (x : Tup d_spec_l1Cur_pick.ps) : d_spec_l1Cur_pick.f 0 x = none := by kernel_rfl
theorem l_spec_l1Cur_pick (k : Nat) : LOK Try.prog x_spec_l1Cur_pick k c_spec_l1Cur_pick := LOK.by [] (by kernel_rfl) AllOK.nil
theorem s_spec_l1Cur_pick (k : Nat) : SoundAt Try.prog k 111 d_spec_l1Cur_pick.E := @fn_all Try.prog d_spec_l1Cur_pick x_spec_l1Cur_pick 111 Try.f111 c_spec_l1Cur_pick (by kernel_rfl) (by kernel_rfl) (by kernel_rfl) Try.func111 (by kernel_rfl) (by kernel_rfl) (by kernel_rfl) T_ok g_spec_l1Cur_pick l_spec_l1Cur_pick z_spec_l1Cur_pick h_spec_l1Cur_pick k
/-! function 201 -/
noncomputable def r_spec_l1Abs : List PK := [{ t := Ty.int IntKind.i64 }]
noncomputable def q_spec_l1Abs : List PK := [{ t := Ty.int IntKind.i64 }]
noncomputable def to_spec_l1Abs (r : Int) : Tup r_spec_l1Abs × OutD := ((r, ()), none)
noncomputable def of_spec_l1Abs : Tup r_spec_l1Abs × OutD → Option (Int)
  | (a, none) => some (a.1)
  | _ => none
theorem to_of_spec_l1Abs : ∀ b r, of_spec_l1Abs b = some r → to_spec_l1Abs r = b := by
  rintro ⟨a, o⟩ r h
  cases o with
  | none => injection h with h; subst h; rfl
  | some _ => cases h
noncomputable def f_spec_l1Abs : Nat → Int → Option Int
  | 0, _ => none
  | k + 1, p0 =>
    Option.bind (f_spec_l1Most k p0 (wrap64 ((0 : Int) - p0))) fun z0 => some z0
noncomputable def d_spec_l1Abs : FnDef := .of q_spec_l1Abs r_spec_l1Abs (Int) (fun k x => f_spec_l1Abs k x.1) to_spec_l1Abs of_spec_l1Abs to_of_spec_l1Abs
noncomputable def c_spec_l1Abs : Code := Try.f201.body.getD .skip
noncomputable def x_spec_l1Abs : Ctx (Tup r_spec_l1Abs × OutD) := { T := T, G := [(115, d_spec_l1Most.E)], mvs := [], no := 0, n := 7, res := resOf T q_spec_l1Abs r_spec_l1Abs Try.f201.results.toList, loops := [], regs := [], conds := [] }
theorem g_spec_l1Abs (k : Nat) : EnvOK Try.prog k x_spec_l1Abs.G := (EnvOK.cons (s_spec_l1Most k) (EnvOK.nil mixed))
theorem h_spec_l1Abs (k : Nat) (x : Tup d_spec_l1Abs.ps) : d_spec_l1Abs.f (k + 1) x = fnK d_spec_l1Abs x_spec_l1Abs c_spec_l1Abs k x := by kernel_rfl
theorem z_spec_l1Abs (x : Tup d_spec_l1Abs.ps) : d_spec_l1Abs.f 0 x = none := by kernel_rfl
theorem l_spec_l1Abs (k : Nat) : LOK Try.prog x_spec_l1Abs k c_spec_l1Abs := LOK.by [] (by kernel_rfl) AllOK.nil
theorem s_spec_l1Abs (k : Nat) : SoundAt Try.prog k 201 d_spec_l1Abs.E := @fn_all Try.prog d_spec_l1Abs x_spec_l1Abs 201 Try.f201 c_spec_l1Abs (by kernel_rfl) (by kernel_rfl) (by kernel_rfl) Try.func201 (by kernel_rfl) (by kernel_rfl) (by kernel_rfl) T_ok g_spec_l1Abs l_spec_l1Abs z_spec_l1Abs h_spec_l1Abs k
end
end Go.Proofs.Ytgjmhbjdhihgaaa.Vs

set_option maxRecDepth 100000
set_option maxHeartbeats 2000000
set_option linter.unusedVariables false
set_option linter.unusedSimpArgs false
namespace Go.Proofs.Ytgjmhbjdhihgaaa.Vs
open Go.RowKit
noncomputable section
/-! function 17 -/
noncomputable def r_spec_Tolerated : List PK := [{ t := Ty.int IntKind.i64 }, { t := Ty.bool }]
noncomputable def q_spec_Tolerated : List PK := [{ t := Ty.int IntKind.i64 }]
noncomputable def to_spec_Tolerated (r : Int × Bool) : Tup r_spec_Tolerated × OutD := ((r.1, r.2, ()), none)
noncomputable def of_spec_Tolerated : Tup r_spec_Tolerated × OutD → Option (Int × Bool)
  | (a, none) => some (a.1, a.2.1)
  | _ => none
theorem to_of_spec_Tolerated : ∀ b r, of_spec_Tolerated b = some r → to_spec_Tolerated r = b := by
  rintro ⟨a, o⟩ r h
  cases o with
  | none => injection h with h; subst h; rfl
  | some _ => cases h
noncomputable def f_spec_Tolerated : Nat → Int → Option (Int × Bool)
  | 0, _ => none
  | k + 1, p0 =>
    Option.bind (f_spec_voCopies k p0) fun z0 => if (!z0) = true then some ((0 : Int), false) else some (wrap64 (Int.tdiv (wrap64 (p0 - (1 : Int))) (2 : Int)), true)
noncomputable def d_spec_Tolerated : FnDef := .of q_spec_Tolerated r_spec_Tolerated (Int × Bool) (fun k x => f_spec_Tolerated k x.1) to_spec_Tolerated of_spec_Tolerated to_of_spec_Tolerated
noncomputable def c_spec_Tolerated : Code := Try.f17.body.getD .skip
noncomputable def x_spec_Tolerated : Ctx (Tup r_spec_Tolerated × OutD) := { T := T, G := [(93, d_spec_voCopies.E)], mvs := [], no := 0, n := 10, res := resOf T q_spec_Tolerated r_spec_Tolerated Try.f17.results.toList, loops := [], regs := [], conds := [] }
theorem g_spec_Tolerated (k : Nat) : EnvOK Try.prog k x_spec_Tolerated.G := (EnvOK.cons (s_spec_voCopies k) (EnvOK.nil mixed))
theorem h_spec_Tolerated (k : Nat) (x : Tup d_spec_Tolerated.ps) : d_spec_Tolerated.f (k + 1) x = fnK d_spec_Tolerated x_spec_Tolerated c_spec_Tolerated k x := by kernel_rfl
theorem z_spec_Tolerated (x : Tup d_spec_Tolerated.ps) : d_spec_Tolerated.f 0 x = none := by kernel_rfl
theorem l_spec_Tolerated (k : Nat) : LOK Try.prog x_spec_Tolerated k c_spec_Tolerated := LOK.by [] (by kernel_rfl) AllOK.nil
theorem s_spec_Tolerated (k : Nat) : SoundAt Try.prog k 17 d_spec_Tolerated.E := @fn_all Try.prog d_spec_Tolerated x_spec_Tolerated 17 Try.f17 c_spec_Tolerated (by kernel_rfl) (by kernel_rfl) (by kernel_rfl) Try.func17 (by kernel_rfl) (by kernel_rfl) (by kernel_rfl) T_ok g_spec_Tolerated l_spec_Tolerated z_spec_Tolerated h_spec_Tolerated k
/-! function 90 -/
noncomputable def r_spec_l1Cur_among : List PK := [{ t := Ty.int IntKind.i64 }]
noncomputable def q_spec_l1Cur_among : List PK := [{ t := Ty.pair (Ty.slice (5 : Nat) (Ty.int IntKind.u8)) (Ty.pair (Ty.int IntKind.i64) (Ty.int IntKind.u64)), box := some (114 : Nat) }, { t := Ty.slice (3 : Nat) (Ty.int IntKind.i64) }]
noncomputable def to_spec_l1Cur_among (r : Int × Int × Int) : Tup r_spec_l1Cur_among × OutD := ((r.1, ()), some ⟨Ty.pair (Ty.slice (5 : Nat) (Ty.int IntKind.u8)) (Ty.pair (Ty.int IntKind.i64) (Ty.int IntKind.u64)), [([], r.2)]⟩)
noncomputable def of_spec_l1Cur_among : Tup r_spec_l1Cur_among × OutD → Option (Int × Int × Int)
  | (a, some ⟨u, ys⟩) => if h : u = Ty.pair (Ty.slice (5 : Nat) (Ty.int IntKind.u8)) (Ty.pair (Ty.int IntKind.i64) (Ty.int IntKind.u64)) then (match castU h ys with
    | [([], y)] => some (a.1, y)
    | _ => none) else none
  | _ => none
theorem to_of_spec_l1Cur_among : ∀ b r, of_spec_l1Cur_among b = some r → to_spec_l1Cur_among r = b := by
  rintro ⟨a, o⟩ r h
  cases o with
  | none => cases h
  | some s =>
    obtain ⟨u, ys⟩ := s
    simp only [of_spec_l1Cur_among] at h
    split at h
    · rename_i hu
      subst hu
      match ys, h with
      | [], h => cases (show (none : Option _) = some r from h)
      | [([], y)], h => injection (show some _ = some r from h) with h; subst h; rfl
      | [(_ :: _, y)], h => cases (show (none : Option _) = some r from h)
      | (h1, _) :: _ :: _, h => cases h1 <;> cases (show (none : Option _) = some r from h)
    · cases h
noncomputable def f_spec_l1Cur_among : Nat → List Int × Int × Int → List Int → Option (Int × Int × Int)
  | 0, _, _ => none
  | k + 1, p0, p1 =>
    Option.bind (f_spec_l1Cur_pick k (Prod.fst p0, Prod.fst (Prod.snd p0), Prod.snd (Prod.snd p0)) (↑(List.length p1) : Int)) fun z0 => if (0 : Int) ≤ Prod.fst z0 then if Prod.fst z0 < (↑(List.length p1) : Int) then some (List.getD p1 (Int.toNat (Prod.fst z0)) (0 : Int), Prod.fst (Prod.snd z0), Prod.snd (Prod.snd z0)) else none else none
noncomputable def d_spec_l1Cur_among : FnDef := .of q_spec_l1Cur_among r_spec_l1Cur_among (Int × Int × Int) (fun k x => f_spec_l1Cur_among k x.1 x.2.1) to_spec_l1Cur_among of_spec_l1Cur_among to_of_spec_l1Cur_among
noncomputable def c_spec_l1Cur_among : Code := Try.f90.body.getD .skip
noncomputable def x_spec_l1Cur_among : Ctx (Tup r_spec_l1Cur_among × OutD) := { T := T, G := [(111, d_spec_l1Cur_pick.E)], mvs := [], no := 2, n := 12, res := resOf T q_spec_l1Cur_among r_spec_l1Cur_among Try.f90.results.toList, loops := [], regs := [], conds := [] }
theorem g_spec_l1Cur_among (k : Nat) : EnvOK Try.prog k x_spec_l1Cur_among.G := (EnvOK.cons (s_spec_l1Cur_pick k) (EnvOK.nil mixed))
theorem h_spec_l1Cur_among (k : Nat) (x : Tup d_spec_l1Cur_among.ps) : d_spec_l1Cur_among.f (k + 1) x = fnK d_spec_l1Cur_among x_spec_l1Cur_among c_spec_l1Cur_among k x := by kernel_rfl
theorem z_spec_l1Cur_among (x : Tup d_spec_l1Cur_among.ps) : d_spec_l1Cur_among.f 0 x = none := by kernel_rfl
theorem l_spec_l1Cur_among (k : Nat) : LOK Try.prog x_spec_l1Cur_among k c_spec_l1Cur_among := LOK.by [] (by kernel_rfl) AllOK.nil
theorem s_spec_l1Cur_among (k : Nat) : SoundAt Try.prog k 90 d_spec_l1Cur_among.E := @fn_all Try.prog d_spec_l1Cur_among x_spec_l1Cur_among 90 Try.f90 c_spec_l1Cur_among (by kernel_rfl) (by kernel_rfl) (by kernel_rfl) Try.func90 (by kernel_rfl) (by kernel_rfl) (by kernel_rfl) T_ok g_spec_l1Cur_among l_spec_l1Cur_among z_spec_l1Cur_among h_spec_l1Cur_among k
/-! function 172 -/
noncomputable def r_spec_voPart : List PK := [{ t := Ty.int IntKind.i64 }, { t := Ty.int IntKind.i64 }]
noncomputable def q_spec_voPart : List PK := [{ t := Ty.int IntKind.i64 }, { t := Ty.int IntKind.i64 }]
noncomputable def to_spec_voPart (r : Int × Int) : Tup r_spec_voPart × OutD := ((r.1, r.2, ()), none)
noncomputable def of_spec_voPart : Tup r_spec_voPart × OutD → Option (Int × Int)
  | (a, none) => some (a.1, a.2.1)
  | _ => none
theorem to_of_spec_voPart : ∀ b r, of_spec_voPart b = some r → to_spec_voPart r = b := by
  rintro ⟨a, o⟩ r h
  cases o with
  | none => injection h with h; subst h; rfl
  | some _ => cases h
noncomputable def f_spec_voPart_0 : Nat → Int → Int → Int → Int → Option (Int × Int × Int)
  | 0, _, _, _, _ => none
  | k + 1, v0, v1, v6, v7 =>
    if decide (v7 > (0 : Int)) = true then if v7 = (0 : Int) then none else f_spec_voPart_0 k v0 v1 v7 (Int.tmod v6 v7) else some (v0, v1, v6)
noncomputable def f_spec_voPart_0i : Spec := { objs := [OSh.ro], tmps := [((0 : Nat), TSh.at (Sh.int IntKind.i64)), ((1 : Nat), TSh.at (Sh.int IntKind.i64)), ((6 : Nat), TSh.at (Sh.int IntKind.i64)), ((7 : Nat), TSh.at (Sh.int IntKind.i64))] }
noncomputable def f_spec_voPart_0o : Spec := { objs := [OSh.ro], tmps := [((0 : Nat), TSh.at (Sh.int IntKind.i64)), ((1 : Nat), TSh.at (Sh.int IntKind.i64)), ((6 : Nat), TSh.at (Sh.int IntKind.i64))] }
noncomputable def f_spec_voPart_0D : LoopDef (Tup r_spec_voPart × OutD) := .plain f_spec_voPart_0i f_spec_voPart_0o (Int × Int × Int) (fun k x => f_spec_voPart_0 k x.2.1 x.2.2.1 x.2.2.2.1 x.2.2.2.2.1) (fun z => (((), ()), (z.1, z.2.1, z.2.2, ()))) (fun y => (y.2.1, y.2.2.1, y.2.2.2.1)) (fun _ => rfl)
noncomputable def f_spec_voPart : Nat → Int → Int → Option (Int × Int)
  | 0, _, _ => none
  | k + 1, p0, p1 =>
    Option.bind (f_spec_l1Abs k p0) fun z0 => Option.bind (f_spec_voPart_0 k p0 p1 z0 p1) fun z1 => if Prod.snd (Prod.snd z1) = (0 : Int) then none else if Prod.snd (Prod.snd z1) = (0 : Int) then none else some (wrap64 (Int.tdiv (Prod.fst z1) (Prod.snd (Prod.snd z1))), wrap64 (Int.tdiv (Prod.fst (Prod.snd z1)) (Prod.snd (Prod.snd z1))))
noncomputable def d_spec_voPart : FnDef := .of q_spec_voPart r_spec_voPart (Int × Int) (fun k x => f_spec_voPart k x.1 x.2.1) to_spec_voPart of_spec_voPart to_of_spec_voPart
noncomputable def c_spec_voPart : Code := Try.f172.body.getD .skip
noncomputable def x_spec_voPart : Ctx (Tup r_spec_voPart × OutD) := { T := T, G := [(201, d_spec_l1Abs.E)], mvs := [], no := 0, n := 25, res := resOf T q_spec_voPart r_spec_voPart Try.f172.results.toList, loops := [(0, f_spec_voPart_0D.E)], regs := [], conds := [] }
theorem g_spec_voPart (k : Nat) : EnvOK Try.prog k x_spec_voPart.G := (EnvOK.cons (s_spec_l1Abs k) (EnvOK.nil mixed))
noncomputable def f_spec_voPart_0B : Code := (findLoop 0 c_spec_voPart).getD .skip
theorem f_spec_voPart_0h (k : Nat) (x : f_spec_voPart_0i.D) : f_spec_voPart_0D.lp (k + 1) x = loopK x_spec_voPart f_spec_voPart_0D 0 f_spec_voPart_0B k x := by kernel_rfl
theorem f_spec_voPart_0l (k : Nat) : LOK Try.prog x_spec_voPart k f_spec_voPart_0B := LOK.by [] (by kernel_rfl) AllOK.nil
theorem f_spec_voPart_0z (x : f_spec_voPart_0i.D) : f_spec_voPart_0D.lp 0 x = none := by kernel_rfl
theorem f_spec_voPart_0ok (k : Nat) : EOK Try.prog x_spec_voPart k f_spec_voPart_0D.E (.block 0 (.loop f_spec_voPart_0B)) := loop_ok T_ok g_spec_voPart f_spec_voPart_0z f_spec_voPart_0h f_spec_voPart_0l k
theorem h_spec_voPart (k : Nat) (x : Tup d_spec_voPart.ps) : d_spec_voPart.f (k + 1) x = fnK d_spec_voPart x_spec_voPart c_spec_voPart k x := by kernel_rfl
theorem z_spec_voPart (x : Tup d_spec_voPart.ps) : d_spec_voPart.f 0 x = none := by kernel_rfl
theorem l_spec_voPart (k : Nat) : LOK Try.prog x_spec_voPart k c_spec_voPart := LOK.by [(f_spec_voPart_0D.E, .block 0 (.loop f_spec_voPart_0B))] (by kernel_rfl) (AllOK.cons (f_spec_voPart_0ok k) AllOK.nil)
theorem s_spec_voPart (k : Nat) : SoundAt Try.prog k 172 d_spec_voPart.E := @fn_all Try.prog d_spec_voPart x_spec_voPart 172 Try.f172 c_spec_voPart (by kernel_rfl) (by kernel_rfl) (by kernel_rfl) Try.func172 (by kernel_rfl) (by kernel_rfl) (by kernel_rfl) T_ok g_spec_voPart l_spec_voPart z_spec_voPart h_spec_voPart k
end
end Go.Proofs.Ytgjmhbjdhihgaaa.Vs

set_option maxRecDepth 100000
set_option maxHeartbeats 2000000
set_option linter.unusedVariables false
set_option linter.unusedSimpArgs false
namespace Go.Proofs.Ytgjmhbjdhihgaaa.Vs
open Go.RowKit
noncomputable section
/-! function 12 -/
noncomputable def r_spec_DrawLeastCopies : List PK := [{ t := Ty.int IntKind.i64 }, { t := Ty.int IntKind.i64 }, { t := Ty.int IntKind.i64 }, { t := Ty.int IntKind.i64 }]
noncomputable def q_spec_DrawLeastCopies : List PK := [{ t := Ty.slice (5 : Nat) (Ty.int IntKind.u8) }]
noncomputable def to_spec_DrawLeastCopies (r : Int × Int × Int × Int) : Tup r_spec_DrawLeastCopies × OutD := ((r.1, r.2.1, r.2.2.1, r.2.2.2, ()), none)
noncomputable def of_spec_DrawLeastCopies : Tup r_spec_DrawLeastCopies × OutD → Option (Int × Int × Int × Int)
  | (a, none) => some (a.1, a.2.1, a.2.2.1, a.2.2.2.1)
  | _ => none
theorem to_of_spec_DrawLeastCopies : ∀ b r, of_spec_DrawLeastCopies b = some r → to_spec_DrawLeastCopies r = b := by
  rintro ⟨a, o⟩ r h
  cases o with
  | none => injection h with h; subst h; rfl
  | some _ => cases h
noncomputable def f_spec_DrawLeastCopies : Nat → List Int → Option (Int × Int × Int × Int)
  | 0, _ => none
  | k + 1, p0 =>
    Option.bind (f_spec_l1Cur_among k (p0, (0 : Int), (0 : Int)) [(0 : Int), (11 : Int)]) fun z0 => Option.bind (f_spec_l1Cur_among k (p0, Prod.fst (Prod.snd z0), Prod.snd (Prod.snd z0)) [(1 : Int), (2 : Int), (3 : Int), (10 : Int), (10 : Int), Prod.fst z0]) fun z1 => Option.bind (f_spec_l1Cur_among k (p0, Prod.fst (Prod.snd z1), Prod.snd (Prod.snd z1)) [(0 : Int), (1001 : Int)]) fun z2 => Option.bind (f_spec_l1Cur_among k (p0, Prod.fst (Prod.snd z2), Prod.snd (Prod.snd z2)) [(1 : Int), (10 : Int), (100 : Int), (1000 : Int), Prod.fst z2]) fun z3 => Option.bind (f_spec_l1Cur_among k (p0, Prod.fst (Prod.snd z3), Prod.snd (Prod.snd z3)) [(0 : Int), (1 : Int), (1 : Int), (2 : Int), Prod.fst z1, wrap64 (Prod.fst z1 + (1 : Int)), (-1 : Int)]) fun z4 => Option.bind (f_spec_l1Cur_among k (p0, Prod.fst (Prod.snd z4), Prod.snd (Prod.snd z4)) [(0 : Int), wrap64 (Int.tdiv (Prod.fst z3) (2 : Int)), wrap64 (Prod.fst z3 - (1 : Int)), Prod.fst z3, wrap64 (Int.tdiv (wrap64 (Prod.fst z3 * (97 : Int))) (100 : Int)), wrap64 (Prod.fst z3 + (1 : Int))]) fun z5 => some (Prod.fst z4, Prod.fst z1, Prod.fst z5, Prod.fst z3)
noncomputable def d_spec_DrawLeastCopies : FnDef := .of q_spec_DrawLeastCopies r_spec_DrawLeastCopies (Int × Int × Int × Int) (fun k x => f_spec_DrawLeastCopies k x.1) to_spec_DrawLeastCopies of_spec_DrawLeastCopies to_of_spec_DrawLeastCopies
noncomputable def c_spec_DrawLeastCopies : Code := Try.f12.body.getD .skip
noncomputable def x_spec_DrawLeastCopies : Ctx (Tup r_spec_DrawLeastCopies × OutD) := { T := T, G := [(90, d_spec_l1Cur_among.E)], mvs := [], no := 0, n := 45, res := resOf T q_spec_DrawLeastCopies r_spec_DrawLeastCopies Try.f12.results.toList, loops := [], regs := [], conds := [] }
theorem g_spec_DrawLeastCopies (k : Nat) : EnvOK Try.prog k x_spec_DrawLeastCopies.G := (EnvOK.cons (s_spec_l1Cur_among k) (EnvOK.nil mixed))
theorem h_spec_DrawLeastCopies (k : Nat) (x : Tup d_spec_DrawLeastCopies.ps) : d_spec_DrawLeastCopies.f (k + 1) x = fnK d_spec_DrawLeastCopies x_spec_DrawLeastCopies c_spec_DrawLeastCopies k x := by kernel_rfl
theorem z_spec_DrawLeastCopies (x : Tup d_spec_DrawLeastCopies.ps) : d_spec_DrawLeastCopies.f 0 x = none := by kernel_rfl
theorem l_spec_DrawLeastCopies (k : Nat) : LOK Try.prog x_spec_DrawLeastCopies k c_spec_DrawLeastCopies := LOK.by [] (by kernel_rfl) AllOK.nil
theorem s_spec_DrawLeastCopies (k : Nat) : SoundAt Try.prog k 12 d_spec_DrawLeastCopies.E := @fn_all Try.prog d_spec_DrawLeastCopies x_spec_DrawLeastCopies 12 Try.f12 c_spec_DrawLeastCopies (by kernel_rfl) (by kernel_rfl) (by kernel_rfl) Try.func12 (by kernel_rfl) (by kernel_rfl) (by kernel_rfl) T_ok g_spec_DrawLeastCopies l_spec_DrawLeastCopies z_spec_DrawLeastCopies h_spec_DrawLeastCopies k
/-! function 91 -/
noncomputable def r_spec_l1Cur_copies : List PK := [{ t := Ty.int IntKind.i64 }]
noncomputable def q_spec_l1Cur_copies : List PK := [{ t := Ty.pair (Ty.slice (5 : Nat) (Ty.int IntKind.u8)) (Ty.pair (Ty.int IntKind.i64) (Ty.int IntKind.u64)), box := some (114 : Nat) }]
noncomputable def to_spec_l1Cur_copies (r : Int × Int × Int) : Tup r_spec_l1Cur_copies × OutD := ((r.1, ()), some ⟨Ty.pair (Ty.slice (5 : Nat) (Ty.int IntKind.u8)) (Ty.pair (Ty.int IntKind.i64) (Ty.int IntKind.u64)), [([], r.2)]⟩)
noncomputable def of_spec_l1Cur_copies : Tup r_spec_l1Cur_copies × OutD → Option (Int × Int × Int)
  | (a, some ⟨u, ys⟩) => if h : u = Ty.pair (Ty.slice (5 : Nat) (Ty.int IntKind.u8)) (Ty.pair (Ty.int IntKind.i64) (Ty.int IntKind.u64)) then (match castU h ys with
    | [([], y)] => some (a.1, y)
    | _ => none) else none
  | _ => none
theorem to_of_spec_l1Cur_copies : ∀ b r, of_spec_l1Cur_copies b = some r → to_spec_l1Cur_copies r = b := by
  rintro ⟨a, o⟩ r h
  cases o with
  | none => cases h
  | some s =>
    obtain ⟨u, ys⟩ := s
    simp only [of_spec_l1Cur_copies] at h
    split at h
    · rename_i hu
      subst hu
      match ys, h with
      | [], h => cases (show (none : Option _) = some r from h)
      | [([], y)], h => injection (show some _ = some r from h) with h; subst h; rfl
      | [(_ :: _, y)], h => cases (show (none : Option _) = some r from h)
      | (h1, _) :: _ :: _, h => cases h1 <;> cases (show (none : Option _) = some r from h)
    · cases h
noncomputable def f_spec_l1Cur_copies : Nat → List Int × Int × Int → Option (Int × Int × Int)
  | 0, _ => none
  | k + 1, p0 =>
    Option.bind (f_spec_l1Cur_among k (Prod.fst p0, Prod.fst (Prod.snd p0), Prod.snd (Prod.snd p0)) [(0 : Int), (10 : Int), (11 : Int)]) fun z0 => Option.bind (f_spec_l1Cur_among k (Prod.fst p0, Prod.fst (Prod.snd z0), Prod.snd (Prod.snd z0)) [(1 : Int), (2 : Int), (3 : Int), (5 : Int), (7 : Int), (9 : Int), Prod.fst z0]) fun z1 => some (Prod.fst z1, Prod.fst (Prod.snd z1), Prod.snd (Prod.snd z1))
noncomputable def d_spec_l1Cur_copies : FnDef := .of q_spec_l1Cur_copies r_spec_l1Cur_copies (Int × Int × Int) (fun k x => f_spec_l1Cur_copies k x.1) to_spec_l1Cur_copies of_spec_l1Cur_copies to_of_spec_l1Cur_copies
noncomputable def c_spec_l1Cur_copies : Code := Try.f91.body.getD .skip
noncomputable def x_spec_l1Cur_copies : Ctx (Tup r_spec_l1Cur_copies × OutD) := { T := T, G := [(90, d_spec_l1Cur_among.E)], mvs := [], no := 2, n := 9, res := resOf T q_spec_l1Cur_copies r_spec_l1Cur_copies Try.f91.results.toList, loops := [], regs := [], conds := [] }
theorem g_spec_l1Cur_copies (k : Nat) : EnvOK Try.prog k x_spec_l1Cur_copies.G := (EnvOK.cons (s_spec_l1Cur_among k) (EnvOK.nil mixed))
theorem h_spec_l1Cur_copies (k : Nat) (x : Tup d_spec_l1Cur_copies.ps) : d_spec_l1Cur_copies.f (k + 1) x = fnK d_spec_l1Cur_copies x_spec_l1Cur_copies c_spec_l1Cur_copies k x := by kernel_rfl
theorem z_spec_l1Cur_copies (x : Tup d_spec_l1Cur_copies.ps) : d_spec_l1Cur_copies.f 0 x = none := by kernel_rfl
theorem l_spec_l1Cur_copies (k : Nat) : LOK Try.prog x_spec_l1Cur_copies k c_spec_l1Cur_copies := LOK.by [] (by kernel_rfl) AllOK.nil
theorem s_spec_l1Cur_copies (k : Nat) : SoundAt Try.prog k 91 d_spec_l1Cur_copies.E := @fn_all Try.prog d_spec_l1Cur_copies x_spec_l1Cur_copies 91 Try.f91 c_spec_l1Cur_copies (by kernel_rfl) (by kernel_rfl) (by kernel_rfl) Try.func91 (by kernel_rfl) (by kernel_rfl) (by kernel_rfl) T_ok g_spec_l1Cur_copies l_spec_l1Cur_copies z_spec_l1Cur_copies h_spec_l1Cur_copies k
/-! function 95 -/
noncomputable def r_spec_voChance : List PK := [{ t := Ty.int IntKind.i64 }, { t := Ty.int IntKind.i64 }]
noncomputable def q_spec_voChance : List PK := [{ t := Ty.int IntKind.i64 }, { t := Ty.int IntKind.i64 }, { t := Ty.int IntKind.i64 }]
noncomputable def to_spec_voChance (r : Int × Int) : Tup r_spec_voChance × OutD := ((r.1, r.2, ()), none)
noncomputable def of_spec_voChance : Tup r_spec_voChance × OutD → Option (Int × Int)
  | (a, none) => some (a.1, a.2.1)
  | _ => none
theorem to_of_spec_voChance : ∀ b r, of_spec_voChance b = some r → to_spec_voChance r = b := by
  rintro ⟨a, o⟩ r h
  cases o with
  | none => injection h with h; subst h; rfl
  | some _ => cases h
noncomputable def f_spec_voChance_0 : Nat → Int → Int → Int → Int → Int → Int → Option (Int × Int × Int)
  | 0, _, _, _, _, _, _ => none
  | k + 1, v0, v1, v2, v8, v9, v10 =>
    if decide (wrap64 ((2 : Int) * v10) < v0) = true then Option.bind (f_spec_voPower k v1 v10) fun z0 => Option.bind (f_spec_voPower k (wrap64 (v2 - v1)) (wrap64 (v0 - v10))) fun z1 => if wrap64 (v10 + (1 : Int)) = (0 : Int) then none else f_spec_voChance_0 k v0 v1 v2 (wrap64 (v8 + wrap64 (wrap64 (v9 * z0) * z1))) (wrap64 (Int.tdiv (wrap64 (v9 * wrap64 (v0 - v10))) (wrap64 (v10 + (1 : Int))))) (wrap64 (v10 + (1 : Int))) else some (v0, v2, v8)
noncomputable def f_spec_voChance_0i : Spec := { objs := [OSh.ro], tmps := [((0 : Nat), TSh.at (Sh.int IntKind.i64)), ((1 : Nat), TSh.at (Sh.int IntKind.i64)), ((2 : Nat), TSh.at (Sh.int IntKind.i64)), ((8 : Nat), TSh.at (Sh.int IntKind.i64)), ((9 : Nat), TSh.at (Sh.int IntKind.i64)), ((10 : Nat), TSh.at (Sh.int IntKind.i64))] }
noncomputable def f_spec_voChance_0o : Spec := { objs := [OSh.ro], tmps := [((0 : Nat), TSh.at (Sh.int IntKind.i64)), ((2 : Nat), TSh.at (Sh.int IntKind.i64)), ((8 : Nat), TSh.at (Sh.int IntKind.i64))] }
noncomputable def f_spec_voChance_0D : LoopDef (Tup r_spec_voChance × OutD) := .plain f_spec_voChance_0i f_spec_voChance_0o (Int × Int × Int) (fun k x => f_spec_voChance_0 k x.2.1 x.2.2.1 x.2.2.2.1 x.2.2.2.2.1 x.2.2.2.2.2.1 x.2.2.2.2.2.2.1) (fun z => (((), ()), (z.1, z.2.1, z.2.2, ()))) (fun y => (y.2.1, y.2.2.1, y.2.2.2.1)) (fun _ => rfl)
noncomputable def f_spec_voChance : Nat → Int → Int → Int → Option (Int × Int)
  | 0, _, _, _ => none
  | k + 1, p0, p1, p2 =>
    Option.bind (f_spec_voChance_0 k p0 p1 p2 (0 : Int) (1 : Int) (0 : Int)) fun z2 => Option.bind (f_spec_voPower k (Prod.fst (Prod.snd z2)) (Prod.fst z2)) fun z3 => Option.bind (f_spec_voPart k (Prod.snd (Prod.snd z2)) z3) fun z4 => some (Prod.fst z4, Prod.snd z4)
noncomputable def d_spec_voChance : FnDef := .of q_spec_voChance r_spec_voChance (Int × Int) (fun k x => f_spec_voChance k x.1 x.2.1 x.2.2.1) to_spec_voChance of_spec_voChance to_of_spec_voChance
noncomputable def c_spec_voChance : Code := Try.f95.body.getD .skip
noncomputable def x_spec_voChance : Ctx (Tup r_spec_voChance × OutD) := { T := T, G := [(171, d_spec_voPower.E), (172, d_spec_voPart.E)], mvs := [], no := 0, n := 47, res := resOf T q_spec_voChance r_spec_voChance Try.f95.results.toList, loops := [(0, f_spec_voChance_0D.E)], regs := [], conds := [] }
theorem g_spec_voChance (k : Nat) : EnvOK Try.prog k x_spec_voChance.G := (EnvOK.cons (s_spec_voPower k) (EnvOK.cons (s_spec_voPart k) (EnvOK.nil mixed)))
noncomputable def f_spec_voChance_0B : Code := (findLoop 0 c_spec_voChance).getD .skip
theorem f_spec_voChance_0h (k : Nat) (x : f_spec_voChance_0i.D) : f_spec_voChance_0D.lp (k + 1) x = loopK x_spec_voChance f_spec_voChance_0D 0 f_spec_voChance_0B k x := by kernel_rfl
theorem f_spec_voChance_0l (k : Nat) : LOK Try.prog x_spec_voChance k f_spec_voChance_0B := LOK.by [] (by kernel_rfl) AllOK.nil
theorem f_spec_voChance_0z (x : f_spec_voChance_0i.D) : f_spec_voChance_0D.lp 0 x = none := by kernel_rfl
theorem f_spec_voChance_0ok (k : Nat) : EOK Try.prog x_spec_voChance k f_spec_voChance_0D.E (.block 0 (.loop f_spec_voChance_0B)) := loop_ok T_ok g_spec_voChance f_spec_voChance_0z f_spec_voChance_0h f_spec_voChance_0l k
theorem h_spec_voChance (k : Nat) (x : Tup d_spec_voChance.ps) : d_spec_voChance.f (k + 1) x = fnK d_spec_voChance x_spec_voChance c_spec_voChance k x := by kernel_rfl
theorem z_spec_voChance (x : Tup d_spec_voChance.ps) : d_spec_voChance.f 0 x = none := by kernel_rfl
theorem l_spec_voChance (k : Nat) : LOK Try.prog x_spec_voChance k c_spec_voChance := LOK.by [(f_spec_voChance_0D.E, .block 0 (.loop f_spec_voChance_0B))] (by kernel_rfl) (AllOK.cons (f_spec_voChance_0ok k) AllOK.nil)
theorem s_spec_voChance (k : Nat) : SoundAt Try.prog k 95 d_spec_voChance.E := @fn_all Try.prog d_spec_voChance x_spec_voChance 95 Try.f95 c_spec_voChance (by kernel_rfl) (by kernel_rfl) (by kernel_rfl) Try.func95 (by kernel_rfl) (by kernel_rfl) (by kernel_rfl) T_ok g_spec_voChance l_spec_voChance z_spec_voChance h_spec_voChance k
end
end Go.Proofs.Ytgjmhbjdhihgaaa.Vs

set_option maxRecDepth 100000
set_option maxHeartbeats 2000000
set_option linter.unusedVariables false
set_option linter.unusedSimpArgs false
namespace Go.Proofs.Ytgjmhbjdhihgaaa.Vs
open Go.RowKit
noncomputable section
/-! function 9 -/
noncomputable def r_spec_DrawChanceRight : List PK := [{ t := Ty.int IntKind.i64 }, { t := Ty.int IntKind.i64 }, { t := Ty.int IntKind.i64 }]
noncomputable def q_spec_DrawChanceRight : List PK := [{ t := Ty.slice (5 : Nat) (Ty.int IntKind.u8) }]
noncomputable def to_spec_DrawChanceRight (r : Int × Int × Int) : Tup r_spec_DrawChanceRight × OutD := ((r.1, r.2.1, r.2.2, ()), none)
noncomputable def of_spec_DrawChanceRight : Tup r_spec_DrawChanceRight × OutD → Option (Int × Int × Int)
  | (a, none) => some (a.1, a.2.1, a.2.2.1)
  | _ => none
theorem to_of_spec_DrawChanceRight : ∀ b r, of_spec_DrawChanceRight b = some r → to_spec_DrawChanceRight r = b := by
  rintro ⟨a, o⟩ r h
  cases o with
  | none => injection h with h; subst h; rfl
  | some _ => cases h
noncomputable def f_spec_DrawChanceRight : Nat → List Int → Option (Int × Int × Int)
  | 0, _ => none
  | k + 1, p0 =>
    Option.bind (f_spec_l1Cur_among k (p0, (0 : Int), (0 : Int)) [(0 : Int), (11 : Int)]) fun z0 => Option.bind (f_spec_l1Cur_among k (p0, Prod.fst (Prod.snd z0), Prod.snd (Prod.snd z0)) [(1 : Int), (2 : Int), (3 : Int), (10 : Int), (10 : Int), Prod.fst z0]) fun z1 => Option.bind (f_spec_l1Cur_copies k (p0, Prod.fst (Prod.snd z1), Prod.snd (Prod.snd z1))) fun z2 => Option.bind (f_spec_l1Cur_among k (p0, Prod.fst (Prod.snd z2), Prod.snd (Prod.snd z2)) [(0 : Int), (1 : Int), (1 : Int), (2 : Int), Prod.fst z1, wrap64 (Prod.fst z1 + (1 : Int)), (-1 : Int)]) fun z3 => some (Prod.fst z2, Prod.fst z3, Prod.fst z1)
noncomputable def d_spec_DrawChanceRight : FnDef := .of q_spec_DrawChanceRight r_spec_DrawChanceRight (Int × Int × Int) (fun k x => f_spec_DrawChanceRight k x.1) to_spec_DrawChanceRight of_spec_DrawChanceRight to_of_spec_DrawChanceRight
noncomputable def c_spec_DrawChanceRight : Code := Try.f9.body.getD .skip
noncomputable def x_spec_DrawChanceRight : Ctx (Tup r_spec_DrawChanceRight × OutD) := { T := T, G := [(90, d_spec_l1Cur_among.E), (91, d_spec_l1Cur_copies.E)], mvs := [], no := 0, n := 25, res := resOf T q_spec_DrawChanceRight r_spec_DrawChanceRight Try.f9.results.toList, loops := [], regs := [], conds := [] }
theorem g_spec_DrawChanceRight (k : Nat) : EnvOK Try.prog k x_spec_DrawChanceRight.G := (EnvOK.cons (s_spec_l1Cur_among k) (EnvOK.cons (s_spec_l1Cur_copies k) (EnvOK.nil mixed)))
theorem h_spec_DrawChanceRight (k : Nat) (x : Tup d_spec_DrawChanceRight.ps) : d_spec_DrawChanceRight.f (k + 1) x = fnK d_spec_DrawChanceRight x_spec_DrawChanceRight c_spec_DrawChanceRight k x := by kernel_rfl
theorem z_spec_DrawChanceRight (x : Tup d_spec_DrawChanceRight.ps) : d_spec_DrawChanceRight.f 0 x = none := by kernel_rfl
theorem l_spec_DrawChanceRight (k : Nat) : LOK Try.prog x_spec_DrawChanceRight k c_spec_DrawChanceRight := LOK.by [] (by kernel_rfl) AllOK.nil
theorem s_spec_DrawChanceRight (k : Nat) : SoundAt Try.prog k 9 d_spec_DrawChanceRight.E := @fn_all Try.prog d_spec_DrawChanceRight x_spec_DrawChanceRight 9 Try.f9 c_spec_DrawChanceRight (by kernel_rfl) (by kernel_rfl) (by kernel_rfl) Try.func9 (by kernel_rfl) (by kernel_rfl) (by kernel_rfl) T_ok g_spec_DrawChanceRight l_spec_DrawChanceRight z_spec_DrawChanceRight h_spec_DrawChanceRight k
/-! function 11 -/
noncomputable def r_spec_ChanceRight : List PK := [{ t := Ty.int IntKind.i64 }, { t := Ty.int IntKind.i64 }, { t := Ty.bool }]
noncomputable def q_spec_ChanceRight : List PK := [{ t := Ty.int IntKind.i64 }, { t := Ty.int IntKind.i64 }, { t := Ty.int IntKind.i64 }]
noncomputable def to_spec_ChanceRight (r : Int × Int × Bool) : Tup r_spec_ChanceRight × OutD := ((r.1, r.2.1, r.2.2, ()), none)
noncomputable def of_spec_ChanceRight : Tup r_spec_ChanceRight × OutD → Option (Int × Int × Bool)
  | (a, none) => some (a.1, a.2.1, a.2.2.1)
  | _ => none
theorem to_of_spec_ChanceRight : ∀ b r, of_spec_ChanceRight b = some r → to_spec_ChanceRight r = b := by
  rintro ⟨a, o⟩ r h
  cases o with
  | none => injection h with h; subst h; rfl
  | some _ => cases h
noncomputable def f_spec_ChanceRight : Nat → Int → Int → Int → Option (Int × Int × Bool)
  | 0, _, _, _ => none
  | k + 1, p0, p1, p2 =>
    Option.bind (f_spec_voCopies k p0) fun z0 => if (!z0) = true then some ((0 : Int), (0 : Int), false) else if decide (Int.tmod p0 (2 : Int) = (0 : Int)) = true then some ((0 : Int), (0 : Int), false) else Option.bind (f_spec_voWrong k p1 p2) fun z1 => if (!z1) = true then some ((0 : Int), (0 : Int), false) else Option.bind (f_spec_voChance k p0 p1 p2) fun z2 => some (Prod.fst z2, Prod.snd z2, true)
noncomputable def d_spec_ChanceRight : FnDef := .of q_spec_ChanceRight r_spec_ChanceRight (Int × Int × Bool) (fun k x => f_spec_ChanceRight k x.1 x.2.1 x.2.2.1) to_spec_ChanceRight of_spec_ChanceRight to_of_spec_ChanceRight
noncomputable def c_spec_ChanceRight : Code := Try.f11.body.getD .skip
noncomputable def x_spec_ChanceRight : Ctx (Tup r_spec_ChanceRight × OutD) := { T := T, G := [(93, d_spec_voCopies.E), (94, d_spec_voWrong.E), (95, d_spec_voChance.E)], mvs := [], no := 0, n := 34, res := resOf T q_spec_ChanceRight r_spec_ChanceRight Try.f11.results.toList, loops := [], regs := [], conds := [] }
theorem g_spec_ChanceRight (k : Nat) : EnvOK Try.prog k x_spec_ChanceRight.G := (EnvOK.cons (s_spec_voCopies k) (EnvOK.cons (s_spec_voWrong k) (EnvOK.cons (s_spec_voChance k) (EnvOK.nil mixed))))
theorem h_spec_ChanceRight (k : Nat) (x : Tup d_spec_ChanceRight.ps) : d_spec_ChanceRight.f (k + 1) x = fnK d_spec_ChanceRight x_spec_ChanceRight c_spec_ChanceRight k x := by kernel_rfl
theorem z_spec_ChanceRight (x : Tup d_spec_ChanceRight.ps) : d_spec_ChanceRight.f 0 x = none := by kernel_rfl
theorem l_spec_ChanceRight (k : Nat) : LOK Try.prog x_spec_ChanceRight k c_spec_ChanceRight := LOK.by [] (by kernel_rfl) AllOK.nil
theorem s_spec_ChanceRight (k : Nat) : SoundAt Try.prog k 11 d_spec_ChanceRight.E := @fn_all Try.prog d_spec_ChanceRight x_spec_ChanceRight 11 Try.f11 c_spec_ChanceRight (by kernel_rfl) (by kernel_rfl) (by kernel_rfl) Try.func11 (by kernel_rfl) (by kernel_rfl) (by kernel_rfl) T_ok g_spec_ChanceRight l_spec_ChanceRight z_spec_ChanceRight h_spec_ChanceRight k
/-! function 14 -/
noncomputable def r_spec_LeastCopies : List PK := [{ t := Ty.int IntKind.i64 }, { t := Ty.bool }]
noncomputable def q_spec_LeastCopies : List PK := [{ t := Ty.int IntKind.i64 }, { t := Ty.int IntKind.i64 }, { t := Ty.int IntKind.i64 }, { t := Ty.int IntKind.i64 }]
noncomputable def to_spec_LeastCopies (r : Int × Bool) : Tup r_spec_LeastCopies × OutD := ((r.1, r.2, ()), none)
noncomputable def of_spec_LeastCopies : Tup r_spec_LeastCopies × OutD → Option (Int × Bool)
  | (a, none) => some (a.1, a.2.1)
  | _ => none
theorem to_of_spec_LeastCopies : ∀ b r, of_spec_LeastCopies b = some r → to_spec_LeastCopies r = b := by
  rintro ⟨a, o⟩ r h
  cases o with
  | none => injection h with h; subst h; rfl
  | some _ => cases h
noncomputable def f_spec_LeastCopies_0 : Nat → Int → Int → Int → Int → Int → Option (LR Unit (Int × Bool))
  | 0, _, _, _, _, _ => none
  | k + 1, v0, v1, v2, v3, v10 =>
    if decide (v10 ≤ (9 : Int)) = true then Option.bind (f_spec_voChance k v10 v0 v1) fun z3 => if decide (wrap64 (Prod.fst z3 * v3) ≥ wrap64 (v2 * Prod.snd z3)) = true then some (LR.ret (v10, true)) else f_spec_LeastCopies_0 k v0 v1 v2 v3 (wrap64 (v10 + (2 : Int))) else some (LR.go ())
noncomputable def f_spec_LeastCopies_0i : Spec := { objs := [OSh.ro], tmps := [((0 : Nat), TSh.at (Sh.int IntKind.i64)), ((1 : Nat), TSh.at (Sh.int IntKind.i64)), ((2 : Nat), TSh.at (Sh.int IntKind.i64)), ((3 : Nat), TSh.at (Sh.int IntKind.i64)), ((10 : Nat), TSh.at (Sh.int IntKind.i64))] }
noncomputable def f_spec_LeastCopies_0o : Spec := { objs := [OSh.ro], tmps := [] }
noncomputable def f_spec_LeastCopies_0D : LoopDef (Tup r_spec_LeastCopies × OutD) := .rets f_spec_LeastCopies_0i f_spec_LeastCopies_0o (Unit) (Int × Bool) (fun k x => f_spec_LeastCopies_0 k x.2.1 x.2.2.1 x.2.2.2.1 x.2.2.2.2.1 x.2.2.2.2.2.1) (fun z => (((), ()), (()))) (fun y => ()) (fun _ => rfl) to_spec_LeastCopies of_spec_LeastCopies to_of_spec_LeastCopies
noncomputable def f_spec_LeastCopies : Nat → Int → Int → Int → Int → Option (Int × Bool)
  | 0, _, _, _, _ => none
  | k + 1, p0, p1, p2, p3 =>
    Option.bind (f_spec_voWrong k p0 p1) fun z0 => if (!z0) = true then some ((0 : Int), false) else Option.bind (f_spec_l1In k p3 (1 : Int) (1000 : Int)) fun z1 => if (!z1) = true then some ((0 : Int), false) else Option.bind (f_spec_l1In k p2 (0 : Int) p3) fun z2 => if (!z2) = true then some ((0 : Int), false) else Option.bind (f_spec_LeastCopies_0 k p0 p1 p2 p3 (1 : Int)) fun z4 => LR.on z4 (fun y4 => some ((0 : Int), false)) fun r4 => some r4
noncomputable def d_spec_LeastCopies : FnDef := .of q_spec_LeastCopies r_spec_LeastCopies (Int × Bool) (fun k x => f_spec_LeastCopies k x.1 x.2.1 x.2.2.1 x.2.2.2.1) to_spec_LeastCopies of_spec_LeastCopies to_of_spec_LeastCopies
noncomputable def c_spec_LeastCopies : Code := Try.f14.body.getD .skip
noncomputable def x_spec_LeastCopies : Ctx (Tup r_spec_LeastCopies × OutD) := { T := T, G := [(94, d_spec_voWrong.E), (96, d_spec_l1In.E), (95, d_spec_voChance.E)], mvs := [], no := 0, n := 47, res := resOf T q_spec_LeastCopies r_spec_LeastCopies Try.f14.results.toList, loops := [(0, f_spec_LeastCopies_0D.E)], regs := [], conds := [] }
theorem g_spec_LeastCopies (k : Nat) : EnvOK Try.prog k x_spec_LeastCopies.G := (EnvOK.cons (s_spec_voWrong k) (EnvOK.cons (s_spec_l1In k) (EnvOK.cons (s_spec_voChance k) (EnvOK.nil mixed))))
noncomputable def f_spec_LeastCopies_0B : Code := (findLoop 0 c_spec_LeastCopies).getD .skip
theorem f_spec_LeastCopies_0h (k : Nat) (x : f_spec_LeastCopies_0i.D) : f_spec_LeastCopies_0D.lp (k + 1) x = loopK x_spec_LeastCopies f_spec_LeastCopies_0D 0 f_spec_LeastCopies_0B k x := by kernel_rfl
theorem f_spec_LeastCopies_0l (k : Nat) : LOK Try.prog x_spec_LeastCopies k f_spec_LeastCopies_0B := LOK.by [] (by kernel_rfl) AllOK.nil
theorem f_spec_LeastCopies_0z (x : f_spec_LeastCopies_0i.D) : f_spec_LeastCopies_0D.lp 0 x = none := by kernel_rfl
theorem f_spec_LeastCopies_0ok (k : Nat) : EOK Try.prog x_spec_LeastCopies k f_spec_LeastCopies_0D.E (.block 0 (.loop f_spec_LeastCopies_0B)) := loop_ok T_ok g_spec_LeastCopies f_spec_LeastCopies_0z f_spec_LeastCopies_0h f_spec_LeastCopies_0l k
theorem h_spec_LeastCopies (k : Nat) (x : Tup d_spec_LeastCopies.ps) : d_spec_LeastCopies.f (k + 1) x = fnK d_spec_LeastCopies x_spec_LeastCopies c_spec_LeastCopies k x := by kernel_rfl
theorem z_spec_LeastCopies (x : Tup d_spec_LeastCopies.ps) : d_spec_LeastCopies.f 0 x = none := by kernel_rfl
theorem l_spec_LeastCopies (k : Nat) : LOK Try.prog x_spec_LeastCopies k c_spec_LeastCopies := LOK.by [(f_spec_LeastCopies_0D.E, .block 0 (.loop f_spec_LeastCopies_0B))] (by kernel_rfl) (AllOK.cons (f_spec_LeastCopies_0ok k) AllOK.nil)
theorem s_spec_LeastCopies (k : Nat) : SoundAt Try.prog k 14 d_spec_LeastCopies.E := @fn_all Try.prog d_spec_LeastCopies x_spec_LeastCopies 14 Try.f14 c_spec_LeastCopies (by kernel_rfl) (by kernel_rfl) (by kernel_rfl) Try.func14 (by kernel_rfl) (by kernel_rfl) (by kernel_rfl) T_ok g_spec_LeastCopies l_spec_LeastCopies z_spec_LeastCopies h_spec_LeastCopies k
/-! function 15 -/
noncomputable def r_spec_DrawTolerated : List PK := [{ t := Ty.int IntKind.i64 }]
noncomputable def q_spec_DrawTolerated : List PK := [{ t := Ty.slice (5 : Nat) (Ty.int IntKind.u8) }]
noncomputable def to_spec_DrawTolerated (r : Int) : Tup r_spec_DrawTolerated × OutD := ((r, ()), none)
noncomputable def of_spec_DrawTolerated : Tup r_spec_DrawTolerated × OutD → Option (Int)
  | (a, none) => some (a.1)
  | _ => none
theorem to_of_spec_DrawTolerated : ∀ b r, of_spec_DrawTolerated b = some r → to_spec_DrawTolerated r = b := by
  rintro ⟨a, o⟩ r h
  cases o with
  | none => injection h with h; subst h; rfl
  | some _ => cases h
noncomputable def f_spec_DrawTolerated : Nat → List Int → Option Int
  | 0, _ => none
  | k + 1, p0 =>
    Option.bind (f_spec_l1Cur_copies k (p0, (0 : Int), (0 : Int))) fun z0 => some (Prod.fst z0)
noncomputable def d_spec_DrawTolerated : FnDef := .of q_spec_DrawTolerated r_spec_DrawTolerated (Int) (fun k x => f_spec_DrawTolerated k x.1) to_spec_DrawTolerated of_spec_DrawTolerated to_of_spec_DrawTolerated
noncomputable def c_spec_DrawTolerated : Code := Try.f15.body.getD .skip
noncomputable def x_spec_DrawTolerated : Ctx (Tup r_spec_DrawTolerated × OutD) := { T := T, G := [(91, d_spec_l1Cur_copies.E)], mvs := [], no := 0, n := 9, res := resOf T q_spec_DrawTolerated r_spec_DrawTolerated Try.f15.results.toList, loops := [], regs := [], conds := [] }
theorem g_spec_DrawTolerated (k : Nat) : EnvOK Try.prog k x_spec_DrawTolerated.G := (EnvOK.cons (s_spec_l1Cur_copies k) (EnvOK.nil mixed))
theorem h_spec_DrawTolerated (k : Nat) (x : Tup d_spec_DrawTolerated.ps) : d_spec_DrawTolerated.f (k + 1) x = fnK d_spec_DrawTolerated x_spec_DrawTolerated c_spec_DrawTolerated k x := by kernel_rfl
theorem z_spec_DrawTolerated (x : Tup d_spec_DrawTolerated.ps) : d_spec_DrawTolerated.f 0 x = none := by kernel_rfl
theorem l_spec_DrawTolerated (k : Nat) : LOK Try.prog x_spec_DrawTolerated k c_spec_DrawTolerated := LOK.by [] (by kernel_rfl) AllOK.nil
theorem s_spec_DrawTolerated (k : Nat) : SoundAt Try.prog k 15 d_spec_DrawTolerated.E := @fn_all Try.prog d_spec_DrawTolerated x_spec_DrawTolerated 15 Try.f15 c_spec_DrawTolerated (by kernel_rfl) (by kernel_rfl) (by kernel_rfl) Try.func15 (by kernel_rfl) (by kernel_rfl) (by kernel_rfl) T_ok g_spec_DrawTolerated l_spec_DrawTolerated z_spec_DrawTolerated h_spec_DrawTolerated k
end
end Go.Proofs.Ytgjmhbjdhihgaaa.Vs

set_option maxRecDepth 100000
set_option maxHeartbeats 2000000
set_option linter.unusedVariables false
set_option linter.unusedSimpArgs false
namespace Go.Proofs.Ytgjmhbjdhihgaaa.Vs
open Go.RowKit
noncomputable section
/-! function 3 -/
noncomputable def r_laws_FnChances : List PK := [{ t := Ty.bool }]
noncomputable def q_laws_FnChances : List PK := [{ t := Ty.slice (5 : Nat) (Ty.int IntKind.u8) }, { t := Ty.slice (5 : Nat) (Ty.int IntKind.u8) }]
noncomputable def to_laws_FnChances (r : Bool) : Tup r_laws_FnChances × OutD := ((r, ()), none)
noncomputable def of_laws_FnChances : Tup r_laws_FnChances × OutD → Option (Bool)
  | (a, none) => some (a.1)
  | _ => none
theorem to_of_laws_FnChances : ∀ b r, of_laws_FnChances b = some r → to_laws_FnChances r = b := by
  rintro ⟨a, o⟩ r h
  cases o with
  | none => injection h with h; subst h; rfl
  | some _ => cases h
noncomputable def f_laws_FnChances_j72 : Nat → List Int → Int → Int → Int → Int → Int → Bool → Option (LR (List Int) Bool) := fun k v1 v5 v6 v7 v11 v12 v72 =>
    if v72 = true then Option.bind (f_impl_ChanceRight k v5 (wrap64 (v7 - v6)) v7) fun z4 => if (!Prod.snd (Prod.snd z4)) = true then some (LR.ret false) else if decide (v12 < (1 : Int)) = true then some (LR.ret false) else if decide (v11 < (0 : Int)) = true then some (LR.ret false) else if decide (Prod.fst (Prod.snd z4) ≠ v12) = true then some (LR.ret false) else if decide (Prod.fst z4 ≠ wrap64 (v12 - v11)) = true then some (LR.ret false) else some (LR.go v1) else some (LR.go v1)
noncomputable def f_laws_FnChances_j72i : Spec := { objs := [OSh.ro], tmps := [((1 : Nat), TSh.at (Sh.snap (0 : Nat) (Ty.int IntKind.u8))), ((5 : Nat), TSh.at (Sh.int IntKind.i64)), ((6 : Nat), TSh.at (Sh.int IntKind.i64)), ((7 : Nat), TSh.at (Sh.int IntKind.i64)), ((11 : Nat), TSh.at (Sh.int IntKind.i64)), ((12 : Nat), TSh.at (Sh.int IntKind.i64)), ((72 : Nat), TSh.at Sh.bool)] }
noncomputable def f_laws_FnChances_j72o : Spec := { objs := [OSh.ro], tmps := [((1 : Nat), TSh.at (Sh.snap (0 : Nat) (Ty.int IntKind.u8)))] }
noncomputable def f_laws_FnChances_j72D : LoopDef (Tup r_laws_FnChances × OutD) := .rets f_laws_FnChances_j72i f_laws_FnChances_j72o (List Int) (Bool) (fun k x => f_laws_FnChances_j72 k x.2.1 x.2.2.1 x.2.2.2.1 x.2.2.2.2.1 x.2.2.2.2.2.1 x.2.2.2.2.2.2.1 x.2.2.2.2.2.2.2.1) (fun z => (((), ()), (z, ()))) (fun y => (y.2.1)) (fun _ => rfl) to_laws_FnChances of_laws_FnChances to_of_laws_FnChances
noncomputable def f_laws_FnChances_0 : Nat → List Int → Int → Int → Int → Int → Int → Int → Option (LR (List Int) Bool)
  | 0, _, _, _, _, _, _, _ => none
  | k + 1, v1, v17, v18, v19, v20, v23, v25 =>
    if decide (v25 ≤ v23) = true then Option.bind (f_impl_ChanceRight k v25 v17 v18) fun z9 => if (!Prod.snd (Prod.snd z9)) = true then some (LR.ret false) else if (!decide (wrap64 (Prod.fst z9 * v20) ≥ wrap64 (v19 * Prod.fst (Prod.snd z9))) == decide (v25 = v23)) = true then some (LR.ret false) else f_laws_FnChances_0 k v1 v17 v18 v19 v20 v23 (wrap64 (v25 + (2 : Int))) else some (LR.go v1)
noncomputable def f_laws_FnChances_0i : Spec := { objs := [OSh.ro], tmps := [((1 : Nat), TSh.at (Sh.snap (0 : Nat) (Ty.int IntKind.u8))), ((17 : Nat), TSh.at (Sh.int IntKind.i64)), ((18 : Nat), TSh.at (Sh.int IntKind.i64)), ((19 : Nat), TSh.at (Sh.int IntKind.i64)), ((20 : Nat), TSh.at (Sh.int IntKind.i64)), ((23 : Nat), TSh.at (Sh.int IntKind.i64)), ((25 : Nat), TSh.at (Sh.int IntKind.i64))] }
noncomputable def f_laws_FnChances_0o : Spec := { objs := [OSh.ro], tmps := [((1 : Nat), TSh.at (Sh.snap (0 : Nat) (Ty.int IntKind.u8)))] }
noncomputable def f_laws_FnChances_0D : LoopDef (Tup r_laws_FnChances × OutD) := .rets f_laws_FnChances_0i f_laws_FnChances_0o (List Int) (Bool) (fun k x => f_laws_FnChances_0 k x.2.1 x.2.2.1 x.2.2.2.1 x.2.2.2.2.1 x.2.2.2.2.2.1 x.2.2.2.2.2.2.1 x.2.2.2.2.2.2.2.1) (fun z => (((), ()), (z, ()))) (fun y => (y.2.1)) (fun _ => rfl) to_laws_FnChances of_laws_FnChances to_of_laws_FnChances
noncomputable def f_laws_FnChances : Nat → List Int → List Int → Option Bool
  | 0, _, _ => none
  | k + 1, p0, p1 =>
    Option.bind (f_laws_big k p0 p1) fun z0 => if z0 = true then some true else Option.bind (f_spec_DrawChanceRight k p0) fun z1 => Option.bind (f_impl_ChanceRight k (Prod.fst z1) (Prod.fst (Prod.snd z1)) (Prod.snd (Prod.snd z1))) fun z2 => Option.bind (f_spec_ChanceRight k (Prod.fst z1) (Prod.fst (Prod.snd z1)) (Prod.snd (Prod.snd z1))) fun z3 => if (!Prod.snd (Prod.snd z2) == Prod.snd (Prod.snd z3)) = true then some false else if decide (Prod.fst z2 ≠ Prod.fst z3) = true then some false else if decide (Prod.fst (Prod.snd z2) ≠ Prod.fst (Prod.snd z3)) = true then some false else Option.bind (f_laws_FnChances_j72 k p1 (Prod.fst z1) (Prod.fst (Prod.snd z1)) (Prod.snd (Prod.snd z1)) (Prod.fst z3) (Prod.fst (Prod.snd z3)) (Prod.snd (Prod.snd z2))) fun z5 => LR.on z5 (fun y5 => Option.bind (f_spec_DrawLeastCopies k y5) fun z6 => Option.bind (f_impl_LeastCopies k (Prod.fst z6) (Prod.fst (Prod.snd z6)) (Prod.fst (Prod.snd (Prod.snd z6))) (Prod.snd (Prod.snd (Prod.snd z6)))) fun z7 => Option.bind (f_spec_LeastCopies k (Prod.fst z6) (Prod.fst (Prod.snd z6)) (Prod.fst (Prod.snd (Prod.snd z6))) (Prod.snd (Prod.snd (Prod.snd z6)))) fun z8 => if (!Prod.snd z7 == Prod.snd z8) = true then some false else if decide (Prod.fst z7 ≠ Prod.fst z8) = true then some false else if Prod.snd z7 = true then Option.bind (f_laws_FnChances_0 k y5 (Prod.fst z6) (Prod.fst (Prod.snd z6)) (Prod.fst (Prod.snd (Prod.snd z6))) (Prod.snd (Prod.snd (Prod.snd z6))) (Prod.fst z8) (1 : Int)) fun z10 => LR.on z10 (fun y10 => Option.bind (f_spec_DrawTolerated k y10) fun z11 => Option.bind (f_impl_Tolerated k z11) fun z12 => Option.bind (f_spec_Tolerated k z11) fun z13 => if (Prod.snd z12 == Prod.snd z13) = true then if decide (Prod.fst z12 = Prod.fst z13) = true then if (!Prod.snd z12) = true then some true else if decide (wrap64 ((2 : Int) * wrap64 (z11 - Prod.fst z13)) > z11) = true then some (decide (wrap64 ((2 : Int) * wrap64 (wrap64 (z11 - Prod.fst z13) - (1 : Int))) ≤ z11)) else some false else some false else some false) fun r10 => some r10 else Option.bind (f_spec_DrawTolerated k y5) fun z14 => Option.bind (f_impl_Tolerated k z14) fun z15 => Option.bind (f_spec_Tolerated k z14) fun z16 => if (Prod.snd z15 == Prod.snd z16) = true then if decide (Prod.fst z15 = Prod.fst z16) = true then if (!Prod.snd z15) = true then some true else if decide (wrap64 ((2 : Int) * wrap64 (z14 - Prod.fst z16)) > z14) = true then some (decide (wrap64 ((2 : Int) * wrap64 (wrap64 (z14 - Prod.fst z16) - (1 : Int))) ≤ z14)) else some false else some false else some false) fun r5 => some r5
noncomputable def d_laws_FnChances : FnDef := .of q_laws_FnChances r_laws_FnChances (Bool) (fun k x => f_laws_FnChances k x.1 x.2.1) to_laws_FnChances of_laws_FnChances to_of_laws_FnChances
noncomputable def c_laws_FnChances : Code := Try.f3.body.getD .skip
noncomputable def x_laws_FnChances : Ctx (Tup r_laws_FnChances × OutD) := { T := T, G := [(8, d_laws_big.E), (9, d_spec_DrawChanceRight.E), (10, d_impl_ChanceRight.E), (11, d_spec_ChanceRight.E), (12, d_spec_DrawLeastCopies.E), (13, d_impl_LeastCopies.E), (14, d_spec_LeastCopies.E), (15, d_spec_DrawTolerated.E), (16, d_impl_Tolerated.E), (17, d_spec_Tolerated.E)], mvs := [], no := 0, n := 206, res := resOf T q_laws_FnChances r_laws_FnChances Try.f3.results.toList, loops := [(0, f_laws_FnChances_0D.E)], regs := [], conds := [(72, f_laws_FnChances_j72D.E)] }
theorem g_laws_FnChances (k : Nat) : EnvOK Try.prog k x_laws_FnChances.G := (EnvOK.cons (s_laws_big k) (EnvOK.cons (s_spec_DrawChanceRight k) (EnvOK.cons (s_impl_ChanceRight k) (EnvOK.cons (s_spec_ChanceRight k) (EnvOK.cons (s_spec_DrawLeastCopies k) (EnvOK.cons (s_impl_LeastCopies k) (EnvOK.cons (s_spec_LeastCopies k) (EnvOK.cons (s_spec_DrawTolerated k) (EnvOK.cons (s_impl_Tolerated k) (EnvOK.cons (s_spec_Tolerated k) (EnvOK.nil mixed)))))))))))
noncomputable def f_laws_FnChances_j72X : Code := ((findCond 72 c_laws_FnChances).map (·.1)).getD .skip
noncomputable def f_laws_FnChances_j72Y : Code := ((findCond 72 c_laws_FnChances).map (·.2)).getD .skip
theorem f_laws_FnChances_j72h (k : Nat) (i : f_laws_FnChances_j72D.inp.D) : f_laws_FnChances_j72D.lp k i = branch (f_laws_FnChances_j72D.inp.st x_laws_FnChances.n i) (.tmp 72) (fun st => exec x_laws_FnChances k f_laws_FnChances_j72X st (outK x_laws_FnChances f_laws_FnChances_j72D) (fun _ _ => none) f_laws_FnChances_j72D.mkB) (fun st => exec x_laws_FnChances k f_laws_FnChances_j72Y st (outK x_laws_FnChances f_laws_FnChances_j72D) (fun _ _ => none) f_laws_FnChances_j72D.mkB) := by kernel_rfl
theorem f_laws_FnChances_j72ok (k : Nat) : EOK Try.prog x_laws_FnChances k f_laws_FnChances_j72D.E (.cond (.tmp 72) f_laws_FnChances_j72X f_laws_FnChances_j72Y) := join_ok (D := f_laws_FnChances_j72D) T_ok (g_laws_FnChances k) (f_laws_FnChances_j72h k) (LOK.by [] (by kernel_rfl) AllOK.nil) (LOK.by [] (by kernel_rfl) AllOK.nil)
noncomputable def f_laws_FnChances_0B : Code := (findLoop 0 c_laws_FnChances).getD .skip
theorem f_laws_FnChances_0h (k : Nat) (x : f_laws_FnChances_0i.D) : f_laws_FnChances_0D.lp (k + 1) x = loopK x_laws_FnChances f_laws_FnChances_0D 0 f_laws_FnChances_0B k x := by kernel_rfl
theorem f_laws_FnChances_0l (k : Nat) : LOK Try.prog x_laws_FnChances k f_laws_FnChances_0B := LOK.by [] (by kernel_rfl) AllOK.nil
theorem f_laws_FnChances_0z (x : f_laws_FnChances_0i.D) : f_laws_FnChances_0D.lp 0 x = none := by kernel_rfl
theorem f_laws_FnChances_0ok (k : Nat) : EOK Try.prog x_laws_FnChances k f_laws_FnChances_0D.E (.block 0 (.loop f_laws_FnChances_0B)) := loop_ok T_ok g_laws_FnChances f_laws_FnChances_0z f_laws_FnChances_0h f_laws_FnChances_0l k
theorem h_laws_FnChances (k : Nat) (x : Tup d_laws_FnChances.ps) : d_laws_FnChances.f (k + 1) x = fnK d_laws_FnChances x_laws_FnChances c_laws_FnChances k x := by kernel_rfl
theorem z_laws_FnChances (x : Tup d_laws_FnChances.ps) : d_laws_FnChances.f 0 x = none := by kernel_rfl
theorem l_laws_FnChances (k : Nat) : LOK Try.prog x_laws_FnChances k c_laws_FnChances := LOK.by [(f_laws_FnChances_j72D.E, .cond (.tmp 72) f_laws_FnChances_j72X f_laws_FnChances_j72Y), (f_laws_FnChances_0D.E, .block 0 (.loop f_laws_FnChances_0B))] (by kernel_rfl) (AllOK.cons (f_laws_FnChances_j72ok k) (AllOK.cons (f_laws_FnChances_0ok k) AllOK.nil))
theorem s_laws_FnChances (k : Nat) : SoundAt Try.prog k 3 d_laws_FnChances.E := @fn_all Try.prog d_laws_FnChances x_laws_FnChances 3 Try.f3 c_laws_FnChances (by kernel_rfl) (by kernel_rfl) (by kernel_rfl) Try.func3 (by kernel_rfl) (by kernel_rfl) (by kernel_rfl) T_ok g_laws_FnChances l_laws_FnChances z_laws_FnChances h_laws_FnChances k
end
end Go.Proofs.Ytgjmhbjdhihgaaa.Vs

set_option linter.unusedVariables false
set_option linter.unusedSimpArgs false
namespace Go.Proofs.Ytgjmhbjdhihgaaa.Vs
open Go.RowKit
theorem bytes_of {l : List Int} (h : ∀ x ∈ l, Wf (.int .u8) x) : ∀ x ∈ l, 0 ≤ x ∧ x ≤ 255 := by
  intro x hx
  have h2 : (Lit.int .u8 x).wf = true := h x hx
  simp only [Lit.wf, Bool.and_eq_true, decide_eq_true_eq] at h2
  have e1 : IntKind.u8.min = 0 := by decide
  have e2 : IntKind.u8.max = 255 := by decide
  omega
/-- A cursor that can be drawn from: bytes, and room for n more steps. -/
def Cur (code : List Int) (at' n : Int) : Prop := (∀ x ∈ code, 0 ≤ x ∧ x ≤ 255) ∧ code.length ≤ 9223372036854775807 ∧ 0 ≤ at' ∧ at' + n ≤ 4611686018427387904
theorem Cur.to {code : List Int} {at' n at2 m : Int} (h : Cur code at' n) (h1 : at' ≤ at2) (h2 : at2 + m ≤ at' + n) : Cur code at2 m := ⟨h.1, h.2.1, by have := h.2.2.1; omega, by have := h.2.2.2; omega⟩
theorem wrap_u64_in (n : Int) (h0 : 0 ≤ n) (h1 : n < 2 ^ 64) : IntKind.u64.wrap n = n := by
  have : (2 : Int) ^ 64 = 18446744073709551616 := by decide
  simp [IntKind.wrap, IntKind.bits, IntKind.signed]
  omega
theorem and255 (x : Int) : 0 ≤ bits BinOp.and IntKind.u64 x 255 ∧ bits BinOp.and IntKind.u64 x 255 ≤ 255 := by
  unfold bits
  simp only
  have h : ((BitVec.ofInt IntKind.u64.bits x &&& BitVec.ofInt IntKind.u64.bits 255).toNat) ≤ 255 := by
    rw [BitVec.toNat_and]
    exact Nat.and_le_right
  have h2 : ((2 : Int) ^ 64) = 18446744073709551616 := by decide
  rw [wrap_u64_in _ (Int.natCast_nonneg _) (by omega)]
  omega
theorem getD_memI {l : List Int} {i : Int} (h : i < (l.length : Int)) (h0 : 0 ≤ i) : List.getD l i.toNat 0 ∈ l := by
  have hi : i.toNat < l.length := by omega
  simp only [List.getD, List.getElem?_eq_getElem hi, Option.getD_some]
  exact List.getElem_mem hi
def seedN (s b : Int) : Int := IntKind.wrap IntKind.u64 (IntKind.wrap IntKind.u64 (IntKind.wrap IntKind.u64 (s * 6364136223846793005) + IntKind.wrap IntKind.u64 b) + 1442695040888963407)
theorem e_next {code : List Int} {at' : Int} (seed : Int) (h : Cur code at' 1) : ∃ v s, Ev (fun k => f_spec_l1Cur_next k (code, at', seed)) (v, at' + 1, s) ∧ 0 ≤ v ∧ v ≤ 255 := by
  obtain ⟨hb, hl, h0, h1⟩ := h
  have w1 : wrap64 (at' + 1) = at' + 1 := w64 (by omega) (by omega)
  have big : ∀ x : Int, 0 ≤ wrap64 (bits BinOp.and IntKind.u64 x 255) ∧ wrap64 (bits BinOp.and IntKind.u64 x 255) ≤ 255 := fun x => by
    have := and255 x
    rw [w64 (by omega) (by omega)]
    exact this
  by_cases hin : at' < (code.length : Int)
  · have hx := hb _ (getD_memI hin h0)
    have w2 : wrap64 (List.getD code at'.toNat 0) = List.getD code at'.toNat 0 := w64 (by omega) (by omega)
    have hle : at' + 1 ≤ (code.length : Int) := by omega
    refine ⟨List.getD code at'.toNat 0, seedN seed (List.getD code at'.toNat 0), Ev.succ ?_, hx.1, hx.2⟩
    simp only [f_spec_l1Cur_next, hin, h0, w1, hle, decide_true, if_true, w2]
    exact Ev.some _
  · have hle : ¬ at' + 1 ≤ (code.length : Int) := by omega
    refine ⟨wrap64 (bits BinOp.and IntKind.u64 (Int.fdiv (seedN seed 0) (2 ^ min (Int.toNat 40) (IntKind.bits IntKind.u64))) 255), seedN seed 0, Ev.succ ?_, (big _).1, (big _).2⟩
    simp only [f_spec_l1Cur_next, hin, w1, hle, decide_false, Bool.false_eq_true, if_false]
    exact Ev.some _
theorem e_pick {code : List Int} {at' : Int} (seed n : Int) (h : Cur code at' 2) : ∃ v at2 s, Ev (fun k => f_spec_l1Cur_pick k (code, at', seed) n) (v, at2, s) ∧ at' ≤ at2 ∧ at2 ≤ at' + 2 ∧ 0 ≤ v ∧ (n ≤ 1 → v = 0) ∧ (1 < n → v < n) := by
  by_cases hn : n ≤ 1
  · refine ⟨0, at', seed, Ev.succ ?_, by omega, by omega, by omega, fun _ => rfl, fun h => by omega⟩
    simp only [f_spec_l1Cur_pick, hn, decide_true, if_true]
    exact Ev.some _
  · obtain ⟨v1, s1, e1, b1, b2⟩ := e_next seed (h.to (at2 := at') (m := 1) (by omega) (by omega))
    by_cases hb : n > 200
    · obtain ⟨v2, s2, e2, b3, b4⟩ := e_next s1 (h.to (at2 := at' + 1) (m := 1) (by omega) (by omega))
      have hp : 0 ≤ v1 * 256 + v2 := by omega
      refine ⟨Int.tmod (v1 * 256 + v2) n, at' + 1 + 1, s2, Ev.succ ?_, by omega, by omega, Int.tmod_nonneg _ hp, fun h => by omega, fun _ => Int.tmod_lt_of_pos _ (by omega)⟩
      have hn0 : ¬ n = 0 := by omega
      simp only [f_spec_l1Cur_pick, hn, decide_false, Bool.false_eq_true, if_false]
      refine Ev.bind e1 ?_
      simp only [hb, decide_true, if_true]
      refine Ev.bind e2 ?_
      simp only [hn0, if_false]
      rw [w64 (n := v1 * 256) (by omega) (by omega), w64 (n := v1 * 256 + v2) (by omega) (by omega)]
      exact Ev.some _
    · refine ⟨Int.tmod v1 n, at' + 1, s1, Ev.succ ?_, by omega, by omega, Int.tmod_nonneg _ b1, fun h => by omega, fun _ => Int.tmod_lt_of_pos _ (by omega)⟩
      have hn0 : ¬ n = 0 := by omega
      simp only [f_spec_l1Cur_pick, hn, decide_false, Bool.false_eq_true, if_false]
      refine Ev.bind e1 ?_
      simp only [hb, decide_false, Bool.false_eq_true, if_false, hn0]
      exact Ev.some _
theorem e_among {code : List Int} {at' : Int} (seed : Int) (l : List Int) (hl : 0 < l.length) (h : Cur code at' 2) : ∃ v at2 s, Ev (fun k => f_spec_l1Cur_among k (code, at', seed) l) (v, at2, s) ∧ at' ≤ at2 ∧ at2 ≤ at' + 2 ∧ v ∈ l := by
  obtain ⟨v, at2, s, e1, b1, b2, b3, b4, b5⟩ := e_pick seed (l.length : Int) h
  have hlt : v < (l.length : Int) := by
    by_cases h1 : (l.length : Int) ≤ 1
    · rw [b4 h1]; omega
    · exact b5 (by omega)
  refine ⟨List.getD l v.toNat 0, at2, s, Ev.succ ?_, b1, b2, getD_memI hlt b3⟩
  simp only [f_spec_l1Cur_among]
  refine Ev.bind e1 ?_
  simp only [b3, hlt, if_true]
  exact Ev.some _
end Go.Proofs.Ytgjmhbjdhihgaaa.Vs
