/- Functions, on: their ends. -/
import Derived.Test.YtgpmbmnfcbippaaqtesVsQ
set_option linter.unusedVariables false
set_option linter.unusedSimpArgs false
namespace Go.Proofs.Ytgpmbmnfcbippaa.Vs
open Go.RowKit

def resTV (T : TT) (st : St) : ResultVar → Option TV
  | .tmp t => st.tmps[t]?
  | .cell a t => match T.get t with
    | some i => match st.tmps[a]? with
      | some (.sv (.at (.ptr j f))) => match st.objs[j]? with
        | some (.box _ cells) => if f + i.ty.sz ≤ cells.length then some (mkV i ((cells.drop f).take i.ty.sz)) else none
        | _ => none
      | _ => none
    | none => none
def takeRes (T : TT) : (rs : List PK) → List ResultVar → St → Option (Tup rs × St)
  | [], [], st => some ((), st)
  | p :: rs, v :: vs, st => match resTV T st v with
    | some x => match x.cells with
      | some l => if aggOK p.agg x then match takeTree p.t st l with
          | some (y, st1) => match takeRes T rs vs st1 with
            | some (ys, st2) => some ((y, ys), st2)
            | none => none
          | none => none
        else none
      | none => none
    | none => none
  | _, _, _ => none
def resOf (T : TT) (ps rs : List PK) (vars : List ResultVar) (st : St) : Option (Tup rs × OutD) := match takeRes T rs vars st with
  | some (res, st1) => match ownI ps with
    | none => some (res, none)
    | some q => if giveI ps = true then some (res, none) else match st1.objs[1]? with
      | some (Ob.row _ e u xs) => if e = q.2.1 ∧ u = q.2.2 then some (res, some ⟨u, xs⟩) else none
      | _ => none
  | none => none
/-- A function by its own function. -/
structure FnDef where
  ps : List PK
  rs : List PK
  R : Type
  f : Nat → Tup ps → Option R
  dsp : {γ : Type} → R → (Tup rs → OutD → Option γ) → Option γ
  ret : Tup rs × OutD → Option R
  hret : ∀ {γ : Type} (b : Tup rs × OutD) (z : R) (K : Tup rs → OutD → Option γ), ret b = some z → dsp z K = K b.1 b.2
def FnDef.E (D : FnDef) : CallE where
  ps := D.ps
  rs := D.rs
  fn := fun k x K => match D.f k x with
    | some z => D.dsp z K
    | none => none
def endK {B : Type} (X : Ctx B) {R : Type} (mk : B → Option R) (st : St) : Option R := match X.res st with
  | some b => mk b
  | none => none
def fnK (D : FnDef) (X : Ctx (Tup D.rs × OutD)) (body : Code) (k : Nat) (x : Tup D.ps) : Option D.R :=
  exec X k body (initSt D.ps X.n x) (endK X D.ret) (fun _ _ => none) D.ret

section
variable {P : Program} {w w1 w0 : World} {S0 : Own} {st : St} {μ μ' : List ORec} {a : Act}
def resSem (tmps : Array Value) : ResultVar → Sem Value
  | .tmp t => pure (tmps.getD t undef)
  | .cell a t => do loadVar t (← asAddr (tmps.getD a undef))
theorem resTV_sound {T : TT} (hT : TTok P T) (h : Rel w0 S0 st μ a w) {v : ResultVar} {x : TV} (hr : resTV T st v = some x) : ∃ u, (resSem a.tmps v).run P w = .ok u w ∧ TR μ w x u := by
  cases v with
  | tmp t => exact ⟨_, rfl, h.tv t x hr⟩
  | cell ad t =>
    simp only [resTV] at hr
    split at hr
    · rename_i i hi
      split at hr
      · rename_i j f hp
        split at hr
        · rename_i e cells hob
          split at hr
          · rename_i hle
            injection hr with hr
            subst hr
            have ok := hT t i hi
            obtain ⟨rec, hrec, hv⟩ := (h.tv ad _ hp).1
            obtain ⟨h0, vs, h1, h2, h3⟩ := h.ob j _ rec hob hrec
            have hl : ((vs.drop f).take i.ty.sz).length = i.ty.sz := by rw [List.length_take, List.length_drop, h2.1]; omega
            refine ⟨packV i ((vs.drop f).take i.ty.sz), ?_, packV_tr ok.one (by simp; omega) ((h2.drop f).take i.ty.sz)⟩
            simp only [resSem, hv, Sem.run_bind, asAddr, Sem.run_pure, Result.andThen_ok]
            refine run_loadVar ok _ _ hl (fun m u hm => ?_)
            rw [add_at, cell_at h1]
            rw [List.getElem?_take] at hm
            split at hm
            · rw [List.getElem?_drop] at hm
              simpa using hm
            · cases hm
          · cases hr
        · cases hr
      · cases hr
    · cases hr
theorem takeRes_sound {T : TT} (hT : TTok P T) : ∀ {rs : List PK} {vars : List ResultVar} {st st1 : St} {μ : List ORec} {res : Tup rs}, Rel w0 S0 st μ a w → takeRes T rs vars st = some (res, st1) →
    ∃ us μ1 S, (vars.mapM (resSem a.tmps)).run P w = .ok us w ∧ ResL w rs S res us ∧ Rel w0 S0 st1 μ1 a w ∧ Less μ μ1 ∧ Taken S0 w0 w μ1 S ∧ ∀ k, S k → ∃ (i : Nat) (r : ORec), μ[i]? = some r ∧ r.ok k
  | [], [], st, st1, μ, res, h, hr => by
    simp only [takeRes] at hr
    injection hr with hr
    injection hr with h1 h2
    subst h2
    exact ⟨[], μ, fun _ => False, rfl, rfl, h, .refl μ, .none _ _ _ _, fun _ hf => hf.elim⟩
  | [], _ :: _, st, st1, μ, res, h, hr => by simp [takeRes] at hr
  | _ :: _, [], st, st1, μ, res, h, hr => by simp [takeRes] at hr
  | p :: rs, v :: vars, st, st1, μ, res, h, hr => by
    simp only [takeRes] at hr
    split at hr
    · rename_i x hx
      split at hr
      · rename_i l hl
        split at hr
        · rename_i hag
          split at hr
          · rename_i y st2 hy
            split at hr
            · rename_i ys st3 hys
              injection hr with hr
              injection hr with h1 h2
              subst h1 h2
              obtain ⟨u, hu, htr⟩ := resTV_sound hT h hx
              have hA := htr.cells_sound hl
              obtain ⟨μ1, S1, r1, l1, t1, i1, rep1⟩ := takeTree_sound h hA.al0 hy
              obtain ⟨us, μ2, S2, hus, hres, r2, l2, t2, i2⟩ := takeRes_sound hT r1 hys
              refine ⟨u :: us, μ2, fun k => S1 k ∨ S2 k, ?_, ⟨u, us, S1, S2, rfl, aggOK_sound htr hl hag, rep1, fun k hk => ⟨.inl hk, fun hk2 => ?_⟩, fun k hk => .inr hk, hres⟩, r2, l1.trans l2, ⟨fun k hk => hk.elim (t1.new k) (t2.new k), fun k hk => hk.elim (t1.lt k) (t2.lt k), fun j q hq k hk => hk.elim ((t1.less l2).apart j q hq k) (t2.apart j q hq k)⟩, fun k hk => ?_⟩
              · simp only [List.mapM_cons, Sem.run_bind, hu, Result.andThen_ok, hus, Sem.run_pure]
              · obtain ⟨j, q, hq, hqk⟩ := i2 k hk2
                exact t1.apart j q hq k hk hqk
              · rcases hk with hk | hk
                · exact i1 k hk
                · obtain ⟨j, q, hq, hqk⟩ := i2 k hk
                  obtain ⟨q0, g0, _, _, g3⟩ := l1.at_ j q hq
                  exact ⟨j, q0, g0, g3 k hqk⟩
            · cases hr
          · cases hr
        · cases hr
      · cases hr
    · cases hr
theorem results_run {fn : Func} {tmps : Array Value} {us : List Value} (h : (fn.results.toList.mapM (resSem tmps)).run P w = .ok us w) : (results fn tmps).run P w = .ok (packR us) w := by
  have he : results fn tmps = (do let vs ← fn.results.mapM (resSem tmps); pure (if h : vs.size = 1 then vs[0] else .tuple vs)) := by
    unfold results
    congr 1
  rw [he, Sem.run_bind, Array.mapM_eq_mapM_toList]
  have : ((List.toArray <$> fn.results.toList.mapM (resSem tmps)).run P w) = .ok us.toArray w := by
    rw [map_eq_pure_bind, Sem.run_bind, h]; rfl
  rw [this, Result.andThen_ok, Sem.run_pure]
  congr 1
  match us with
  | [] => rfl
  | [u] => rfl
  | u :: u' :: us => simp [packR]
theorem SoundAt.zero {D : FnDef} {f : FuncId} (he : ∀ vs w, (callFunc f vs).run P w = .ok (.enter f vs) w) (h0 : ∀ x, D.f 0 x = none) : SoundAt P 0 f D.E :=
  ⟨he, fun w Sro So x vs _ _ _ _ _ hk => by
    simp only [FnDef.E] at hk
    split at hk
    · rename_i z hz
      exact nomatch (h0 x).symm.trans hz
    · cases hk⟩
theorem run_enter {f : FuncId} {fn : Func} (hf : P.funcs[f]? = some fn) (hn : (fn.name == "runtime.NumGoroutine") = false) (hb : fn.body.isNone = false) (vs : Array Value) (w : World) : (callFunc f vs).run P w = .ok (.enter f vs) w := by
  have h2 : ¬ fn.name = "runtime.NumGoroutine" := by simpa using hn
  have h3 : ¬ fn.body = none := by intro h; rw [h] at hb; cases hb
  unfold callFunc
  simp [hf, h2, h3]
theorem fn_sound {D : FnDef} {X : Ctx (Tup D.rs × OutD)} {f : FuncId} {fn : Func} {body : Code} {k : Nat} (hX : X.res = resOf X.T D.ps D.rs fn.results.toList) (hXno : X.no = noOf D.ps) (hXn : X.n = fn.ntmps) (hf : P.funcs[f]? = some fn) (hb : fn.body = some body)
    (hn : (fn.name == "runtime.NumGoroutine") = false) (h1 : oneOwn D.ps = true) (hT : TTok P X.T) (hG : EnvOK P k X.G) (hL : LOK P X k body) (hs : ∀ x, D.f (k + 1) x = fnK D X body k x) : SoundAt P (k + 1) f D.E := by
  refine ⟨run_enter hf hn (by rw [hb]; rfl), fun {γ} {K} {r} w Sro So x vs hA hd hl hl2 hso hk => ?_⟩
  simp only [FnDef.E] at hk
  split at hk
  · rename_i z hz
    obtain ⟨S0, hS0, hgv, hov, hno, μ, h⟩ := init_sound (n := X.n) h1 hA hd hl hl2
    have hno2 : S0.ov.length = X.no := hno.trans hXno.symm
    have hz := (hs x).symm.trans hz
    rw [hXn] at h
    have hz2 : exec X k body (initSt D.ps fn.ntmps x) (endK X D.ret) (fun _ _ => none) D.ret = some z := by rw [← hXn]; exact hz
    refine calls_of_wp hf hb (Code.wp_mono (fun e a' w' hq => ?_) (exec_sound hT hG hno2 hL h hz2))
    have fin : ∀ (st1 : St) (μ1 : List ORec) (b : Tup D.rs × OutD), Rel w S0 st1 μ1 a' w' → X.res st1 = some b → D.ret b = some z → ∃ v, (results fn a'.tmps).run P w' = .ok v w' ∧ ∃ res out, K res out = some r ∧ Fin w w' So D.E vs res out v := by
      intro st1 μ1 b r1 hb2 hmk
      rw [hX] at hb2
      unfold resOf at hb2
      split at hb2
      · rename_i res st2 hres
        obtain ⟨us, μ2, S, hus, hR, r2, l2, t2, _⟩ := takeRes_sound hT r1 hres
        refine ⟨packR us, results_run hus, b.1, b.2, by rw [← D.hret b z K hmk]; exact hk, ?_⟩
        have hchg : Chg w w' So := by rw [← hS0]; exact r1.kp
        have hnew : ∀ k, S k → ((giveI D.E.ps = true ∧ So k) ∨ w.heap.size ≤ k) ∧ k < w'.heap.size := fun k hk => ⟨(t2.new k hk).imp (hgv k) id, t2.lt k hk⟩
        split at hb2
        · rename_i hown
          injection hb2 with hb2
          subst hb2
          exact ⟨hchg, S, us, hnew, rfl, hR, fun q _ hq => by rw [show ownI D.E.ps = ownI D.ps from rfl, hown] at hq; cases hq⟩
        · rename_i q hown
          split at hb2
          · rename_i hg
            injection hb2 with hb2
            subst hb2
            exact ⟨hchg, S, us, hnew, rfl, hR, fun q hf => by rw [show giveI D.E.ps = giveI D.ps from rfl, hg] at hf; cases hf⟩
          split at hb2
          · rename_i fr e u xs hob
            split at hb2
            · rename_i heu
              obtain ⟨rfl, rfl⟩ := heu
              injection hb2 with hb2
              subst hb2
              refine ⟨hchg, S, us, hnew, rfl, hR, fun q' _ hq => ?_⟩
              rw [show ownI D.E.ps = ownI D.ps from rfl, hown] at hq
              injection hq with hq
              subst hq
              obtain ⟨hv, hhv⟩ := ownV_some hown hA
              obtain ⟨rec, hrec, hrv⟩ := r2.ov 0 hv (by rw [hov, hhv]; rfl)
              refine ⟨xs, hv, rec.ok, rfl, hhv, by rw [← hrv]; exact r2.ob 1 _ rec hob hrec, fun k hk => ⟨?_, r2.lt 1 rec hrec k hk, fun hk2 => t2.apart 1 rec hrec k hk2 hk⟩⟩
              have := r2.wr 1 _ rec hob hrec rfl k hk
              rw [hS0] at this
              exact this
            · cases hb2
          · cases hb2
      · cases hb2
    cases e with
    | normal =>
      obtain ⟨st1, μ1, r1, hr1⟩ := hq
      unfold endK at hr1
      split at hr1
      · rename_i b hb2
        obtain ⟨v, g1, g2⟩ := fin st1 μ1 b r1 hb2 hr1
        exact ⟨r1.df, v, g1, g2⟩
      · cases hr1
    | ret =>
      obtain ⟨st1, μ1, b, r1, hb2, hr1⟩ := hq
      obtain ⟨v, g1, g2⟩ := fin st1 μ1 b r1 hb2 hr1
      exact ⟨r1.df, v, g1, g2⟩
    | exit id => obtain ⟨st1, μ1, r1, hr1⟩ := hq; cases hr1
    | goto l => exact False.elim hq
    | panic ch => exact False.elim hq
    | outgrown => exact False.elim hq
  · cases hk
end
end Go.Proofs.Ytgpmbmnfcbippaa.Vs
