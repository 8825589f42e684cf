/- The proof, part 3. -/
import Derived.Test.Ytcmndffpmjinlaaqwvm1
import Derived.Laws.StructEq
import Derived.Carry
import Derived.ChangeArms
import Derived.SizedLaws
import Derived.Deep.Slices
import Derived.WideShapes
import Derived.ChangeOld
import Derived.ChangeShapes
import Derived.OpenShut
import Derived.Test.YtcmndffpmjinlaaProg
import Derived.KernelRfl
set_option linter.unusedVariables false
set_option linter.unusedSimpArgs false
namespace Go.Proofs.Ytcmndffpmjinlaa.Vs
open Go.RowKit

/-! ### Nil rows made rows of one's own -/
def rowAt (s : Spec) (i : Nat) : Option (TypeId × Ty) := match s.objs[i]? with | some (.row _ e t) => some (e, t) | _ => none
def fixCells (s : Spec) (j : Nat) (e : TypeId) : Nat → List Sh → St → St
  | _, [], st => st
  | c, .sl i :: l, st => match st.objs[j]? with
    | some (.box e' cells) => match cells[c]? with
      | some .nils => match rowAt s i with
        | some (e1, t) => fixCells s j e (c + 1) l { st.push (.row true e1 t []) with objs := (st.push (.row true e1 t [])).objs.set j (.box e' (cells.set c (.sl st.objs.length))) }
        | none => fixCells s j e (c + 1) l st
      | _ => fixCells s j e (c + 1) l st
    | _ => fixCells s j e (c + 1) l st
  | c, _ :: l, st => fixCells s j e (c + 1) l st
def fixTmps (s : Spec) : List (Tmp × TSh) → St → St
  | [], st => st
  | (d, .at (.sl i)) :: l, st => match st.tmps[d]? with
    | some (.sv (.at .nils)) => match rowAt s i with
      | some (e1, t) => fixTmps s l { st.push (.row true e1 t []) with tmps := st.tmps.set d (.sv (.at (.sl st.objs.length))) }
      | none => fixTmps s l st
    | _ => fixTmps s l st
  | (d, .at (.ptr i 0)) :: l, st => match st.tmps[d]? with
    | some (.sv (.at (.ptr j 0))) => match s.objs[i]? with
      | some (.box e sh) => fixTmps s l (fixCells s j e 0 sh st)
      | _ => fixTmps s l st
    | _ => fixTmps s l st
  | _ :: l, st => fixTmps s l st

/-! ### Which object is which -/
def meet (i j : Nat) (g : List (Option Nat)) : List (Option Nat) := match g[i]? with | some none => g.set i (some j) | _ => g
def Sh.guess : Sh → At → List (Option Nat) → List (Option Nat)
  | .sl i, .sl j, g => meet i j g
  | .snap i _, .snap j _ _, g => meet i j g
  | .ptr i _, .ptr j _, g => meet i j g
  | .inn i, .inn j _, g => meet i j g
  | _, _, g => g
def guessL : List Sh → List At → List (Option Nat) → List (Option Nat)
  | s :: l, x :: xs, g => guessL l xs (s.guess x g)
  | _, _, g => g
def guessT (st : St) : List (Tmp × TSh) → List (Option Nat) → List (Option Nat)
  | [], g => g
  | (d, .at s) :: l, g => guessT st l (match st.tmps[d]? with | some (.sv (.at x)) => s.guess x g | _ => g)
  | (d, .agg ss) :: l, g => guessT st l (match st.tmps[d]? with | some (.sv (.agg xs)) => guessL ss xs g | _ => g)
def guessO (st : St) : Nat → List OSh → List (Option Nat) → List (Option Nat)
  | _, [], g => g
  | i, .box _ ss :: l, g => guessO st (i + 1) l (match g[i]? with
    | some (some j) => match st.objs[j]? with
      | some (.box _ xs) => guessL ss xs g
      | _ => g
    | _ => g)
  | i, _ :: l, g => guessO st (i + 1) l g
def Spec.guess (s : Spec) (no : Nat) (st : St) : List Nat :=
  (guessO st 0 s.objs (guessT st s.tmps ((List.range s.objs.length).map fun i => if i ≤ no then some i else none))).map fun x => x.getD 0
def Spec.enter (s : Spec) (no : Nat) (st : St) : Option s.D :=
  s.fit no (s.guess no (fixTmps s s.tmps st)) (fixTmps s s.tmps st)

section
variable {P : Program} {w w1 w0 : World} {S0 : Own} {st : St} {μ μ' : List ORec} {a : Act}
/-- An object is told anew, of the same cells. -/
theorem Rel.reob (h : Rel w0 S0 st μ a w) {i : Nat} {o o' : Ob} (ho : st.objs[i]? = some o) (hw : o'.owned = true → o.owned = true) (hn : ∀ r, μ[i]? = some r → OR μ w o' r) (hf : ∀ e t xs, o' = .row true e t xs → ∃ e t xs, o = .row true e t xs) : Rel w0 S0 { st with objs := st.objs.set i o' } μ a w := by
  have hob : ∀ (j : Nat) p, (st.objs.set i o')[j]? = some p → (j = i ∧ p = o') ∨ (j ≠ i ∧ st.objs[j]? = some p) := by
    intro j p hp
    rw [List.getElem?_set] at hp
    split at hp
    · rename_i hij
      split at hp
      · injection hp with hp
        exact .inl ⟨hij.symm, hp.symm⟩
      · cases hp
    · rename_i hij
      exact .inr ⟨fun e => hij e.symm, hp⟩
  refine ⟨by simp [h.len], h.tm, h.tv, fun j p q hp hq => ?_, fun j l p rj rl hjl hp hwp hrj hrl k hk => ?_, fun j p q hp hq hwp k hk => ?_, fun j e t xs q hp hq k hk => ?_, h.lt, h.kp, h.df, h.ov⟩
  · rcases hob j p hp with ⟨rfl, rfl⟩ | ⟨hj, hp⟩
    · exact hn q hq
    · exact h.ob j p q hp hq
  · rcases hob j p hp with ⟨rfl, rfl⟩ | ⟨hj, hp⟩
    · exact h.dj j l o rj rl hjl ho (hw hwp) hrj hrl k hk
    · exact h.dj j l p rj rl hjl hp hwp hrj hrl k hk
  · rcases hob j p hp with ⟨rfl, rfl⟩ | ⟨hj, hp⟩
    · exact h.wr j o q ho hq (hw hwp) k hk
    · exact h.wr j p q hp hq hwp k hk
  · rcases hob j _ hp with ⟨rfl, he⟩ | ⟨hj, hp⟩
    · obtain ⟨e', t', xs', rfl⟩ := hf e t xs he.symm
      exact h.fr j e' t' xs' q ho hq k hk
    · exact h.fr j e t xs q hp hq k hk
theorem Rel.nilRow (h : Rel w0 S0 st μ a w) (e : TypeId) (t : Ty) : Rel w0 S0 (st.push (.row true e t [])) (μ ++ [⟨.slice none 0 0, 0, fun _ => False⟩]) a w :=
  h.push (o := .row true e t []) (r := ⟨.slice none 0 0, 0, fun _ => False⟩) (Rep.nils _ _ _ _ _) (fun _ _ _ _ _ hk => hk.elim) (fun _ _ _ _ _ _ _ _ hk => hk.elim) (fun _ _ hk => hk.elim) (fun _ _ _ _ _ hk => hk.elim) (fun _ hk => hk.elim)
theorem nil_ar (h : Rel w0 S0 st μ a w) (w : World) : AR (μ ++ [⟨.slice none 0 0, 0, fun _ => False⟩]) w (.sl st.objs.length) (.slice none 0 0) :=
  ⟨⟨.slice none 0 0, 0, fun _ => False⟩, by rw [← h.len]; exact last_rec _ _, rfl, none, 0, 0, rfl⟩
theorem fixCells_sound {s : Spec} {j : Nat} {e : TypeId} : ∀ {l : List Sh} {c : Nat} {st : St} {μ : List ORec}, Rel w0 S0 st μ a w → ∃ μ', Rel w0 S0 (fixCells s j e c l st) μ' a w ∧ (fixCells s j e c l st).tmps = st.tmps
  | [], c, st, μ, h => ⟨μ, h, rfl⟩
  | .sl i :: l, c, st, μ, h => by
    simp only [fixCells]
    split
    · rename_i e' cells hob
      split
      · rename_i hc
        split
        · rename_i e1 t hr
          have h1 := h.nilRow e1 t
          have hlt := (List.getElem?_eq_some_iff.1 hob).1
          have hob1 : (st.push (.row true e1 t [])).objs[j]? = some (.box e' cells) := by simp only [St.push]; rw [List.getElem?_append_left hlt]; exact hob
          have h2 := h1.reob (o' := .box e' (cells.set c (.sl st.objs.length))) hob1 (fun h => h) (fun r hr => by
            obtain ⟨g0, vs, g1, g2, g3⟩ := h1.ob j _ r hob1 hr
            refine ⟨g0, vs, g1, ⟨by simp [g2.1], fun m y v hy hv => ?_⟩, g3⟩
            rw [List.getElem?_set] at hy
            split at hy
            · rename_i hcm
              split at hy
              · injection hy with hy
                subst hy hcm
                have hnil := g2.2 c _ v hc hv
                rw [show v = _ from hnil]
                exact nil_ar h w
              · cases hy
            · exact g2.2 m y v hy hv) (fun _ _ _ he => by cases he)
          obtain ⟨μ', h3, h4⟩ := fixCells_sound (s := s) (j := j) (e := e) (l := l) (c := c + 1) h2
          exact ⟨μ', h3, h4⟩
        · exact fixCells_sound h
      · exact fixCells_sound h
    · exact fixCells_sound h
  | .int _ :: l, c, st, μ, h => by simp only [fixCells]; exact fixCells_sound h
  | .bool :: l, c, st, μ, h => by simp only [fixCells]; exact fixCells_sound h
  | .str :: l, c, st, μ, h => by simp only [fixCells]; exact fixCells_sound h
  | .snap _ _ :: l, c, st, μ, h => by simp only [fixCells]; exact fixCells_sound h
  | .ptr _ _ :: l, c, st, μ, h => by simp only [fixCells]; exact fixCells_sound h
  | .inn _ :: l, c, st, μ, h => by simp only [fixCells]; exact fixCells_sound h
theorem fixTmps_sound {s : Spec} : ∀ {l : List (Tmp × TSh)} {st : St} {μ : List ORec}, Rel w0 S0 st μ a w → ∃ μ', Rel w0 S0 (fixTmps s l st) μ' a w ∧ (fixTmps s l st).tmps.length = st.tmps.length
  | [], st, μ, h => ⟨μ, h, rfl⟩
  | (d, .at (.sl i)) :: l, st, μ, h => by
    simp only [fixTmps]
    split
    · rename_i hc
      split
      · rename_i e1 t hr
        have h1 := h.nilRow e1 t
        have hv : a.tmps.getD d undef = .slice none 0 0 := (h.tv d _ hc).1
        have h2 := h1.retell (t := d) (x := .sv (.at (.sl st.objs.length))) (by rw [hv]; exact ⟨nil_ar h w, .inr rfl⟩)
        obtain ⟨μ', h3, h4⟩ := fixTmps_sound (s := s) (l := l) h2
        exact ⟨μ', h3, h4.trans (by simp [St.push])⟩
      · exact fixTmps_sound h
    · exact fixTmps_sound h
  | (d, .at (.ptr i 0)) :: l, st, μ, h => by
    simp only [fixTmps]
    split
    · rename_i j hc
      split
      · rename_i e sh hr
        obtain ⟨μ1, h1, h2⟩ := fixCells_sound (s := s) (j := j) (e := e) (l := sh) (c := 0) h
        obtain ⟨μ', h3, h4⟩ := fixTmps_sound (s := s) (l := l) h1
        exact ⟨μ', h3, by rw [h4, h2]⟩
      · exact fixTmps_sound h
    · exact fixTmps_sound h
  | (d, .at (.ptr i (f + 1))) :: l, st, μ, h => by simp only [fixTmps]; exact fixTmps_sound h
  | (d, .at (.int _)) :: l, st, μ, h => by simp only [fixTmps]; exact fixTmps_sound h
  | (d, .at .bool) :: l, st, μ, h => by simp only [fixTmps]; exact fixTmps_sound h
  | (d, .at .str) :: l, st, μ, h => by simp only [fixTmps]; exact fixTmps_sound h
  | (d, .at (.snap _ _)) :: l, st, μ, h => by simp only [fixTmps]; exact fixTmps_sound h
  | (d, .at (.inn _)) :: l, st, μ, h => by simp only [fixTmps]; exact fixTmps_sound h
  | (d, .agg _) :: l, st, μ, h => by simp only [fixTmps]; exact fixTmps_sound h
theorem Spec.enter_sound (h : Rel w0 S0 st μ a w) {s : Spec} {no n : Nat} {x : s.D} (hno : S0.ov.length = no) (hn : st.tmps.length = n) (hf : s.enter no st = some x) : ∃ μ', Rel w0 S0 (s.st n x) μ' a w := by
  obtain ⟨μ1, h1, h2⟩ := fixTmps_sound (s := s) (l := s.tmps) h
  exact Spec.fit_sound h1 hno (h2.trans hn) hf
end
end Go.Proofs.Ytcmndffpmjinlaa.Vs

set_option linter.unusedVariables false
set_option linter.unusedSimpArgs false
namespace Go.Proofs.Ytcmndffpmjinlaa.Vs
open Go.RowKit

/-! ### Whatever order is picked: what is quiet leaves what was there as it was -/
section
variable {P : Program} {ops : Array Oper} {Q : Exit → Act → World → Prop} {md : Region.Mode} {qt : Nat → Bool}
def wpAnyR (P : Program) (md : Region.Mode) (ops : Array Oper) (Q : Exit → Act → World → Prop) (qt : Nat → Bool) : Nat → Array Bool → Act → World → Prop
  | 0, listed, a, w => Region.ready md ops listed = [] ∧ Q .normal a w
  | fuel + 1, listed, a, w =>
    (Region.ready md ops listed = [] → Q .normal a w) ∧
    ∀ i ∈ Region.ready md ops listed, wpOp P ops Q i (fun a' w' => (qt i = true → Same w w') ∧ wpAnyR P md ops Q qt fuel (listed.setIfInBounds i true) a' w') a w
theorem wpAny_of_listed : ∀ (fuel : Nat) (listed : Array Bool) (a : Act) (w : World), wpAnyR P md ops Q qt fuel listed a w → wpAny P md ops Q fuel listed a w
  | 0, _, _, _, h => h
  | fuel + 1, _, _, _, h => ⟨h.1, fun i hi => wpOp_mono (fun a' w' h' => wpAny_of_listed fuel _ a' w' h'.2) (h.2 i hi)⟩
theorem Same.trans {w w1 w2 : World} (h : Same w w1) (h2 : Same w1 w2) : Same w w2 := Chg.trans h h2 (fun _ hf => hf.elim)
/-- What has come up came up behind all that it waits for. -/
structure Shut (md : Region.Mode) (ops : Array Oper) (l : Array Bool) : Prop where
  size : l.size = ops.size
  at_ : ∀ (j : Nat) o, ops[j]? = some o → l.getD j false = true → ∀ e ∈ o.after, Region.binds md e = true → l.getD e.on false = true
theorem getD_set_false {l : Array Bool} {i j : Nat} (h : (l.setIfInBounds i true).getD j false = true) : j = i ∨ l.getD j false = true := by
  by_cases hij : i = j
  · exact .inl hij.symm
  · rw [getD_set_ne false hij] at h
    exact .inr h
theorem Shut.set {l : Array Bool} {i : Nat} (h : Shut md ops l) (hi : i ∈ Region.ready md ops l) : Shut md ops (l.setIfInBounds i true) := by
  obtain ⟨_, oi, hoi, hall⟩ := mem_ready.1 hi
  refine ⟨by simp [h.size], fun j o ho hj e he hb => getD_set_true ?_⟩
  rcases getD_set_false hj with rfl | hj
  · rw [hoi] at ho
    injection ho with ho
    subst ho
    exact hall e he hb
  · exact h.at_ j o ho hj e he hb
theorem wpAnyR_first {i : Nat} {oi : Oper} {v : Value} {ld : Bool} (hi : ops[i]? = some oi) (hsel : ∀ (j : Nat) (o : Oper) cs b, ops[j]? = some o → o.op ≠ .select cs b)
    (hQ : ∀ c a w, Q (.panic c) (a.put oi.dst v) w → Q (.panic c) a w) :
    ∀ (fuel : Nat) (listed : Array Bool) (a : Act) (w : World), Shut md ops listed →
      (∀ l j, Shut md ops l → (∀ k, listed.getD k false = true → l.getD k false = true) → l.getD i true = false → j ∈ Region.ready md ops l → j ≠ i → ld = true → qt j = true) →
      (∀ j oj, ops[j]? = some oj → j ≠ i → listed.getD j true = false → (∀ e ∈ oj.after, Region.binds md e = true → e.on ≠ i) → oi.apart ops oj = true) →
      i ∈ Region.ready md ops listed → YieldsIf P ops (fun w' => ld = true → Same w w') oi v a →
      wpAnyR P md ops Q qt fuel (listed.setIfInBounds i true) (a.put oi.dst v) w → wpAnyR P md ops Q qt (fuel + 1) listed a w := by
  intro fuel
  induction fuel with
  | zero =>
    intro listed a w hG _ _ hr hy H
    refine ⟨fun h => (by rw [h] at hr; cases hr), fun j hj => ?_⟩
    by_cases hji : j = i
    · subst hji; exact hy.wpOp hi (fun _ => .refl w) ⟨fun _ => .refl w, H⟩
    · have := ready_mono hj hji
      rw [H.1] at this
      cases this
  | succ fuel ih =>
    intro listed a w hG hqt hfree hr hy H
    refine ⟨fun h => (by rw [h] at hr; cases hr), fun j hj => ?_⟩
    by_cases hji : j = i
    · subst hji; exact hy.wpOp hi (fun _ => .refl w) ⟨fun _ => .refl w, H⟩
    · have h1 := H.2 j (ready_mono hj hji)
      obtain ⟨hjun, oj, hoj, hall⟩ := mem_ready.1 hj
      have hnot : ∀ e ∈ oj.after, Region.binds md e = true → e.on ≠ i := fun e he hb heq => by
        have h1 := hall e he hb
        have h0 := (mem_ready.1 hr).1
        rw [heq] at h1
        rcases Nat.lt_or_ge i listed.size with h' | h'
        · simp [h'] at h0 h1; rw [h0] at h1; cases h1
        · simp [Array.getElem?_eq_none h'] at h1
      have h2 := wpOp_putIf hoj (hfree j oj hoj hji hjun hnot) (fun cs b => hsel i oi cs b hi) (fun cs b => hsel j oj cs b hoj) hQ hy h1
      have hfree' : ∀ k ok, ops[k]? = some ok → k ≠ i → (listed.setIfInBounds j true).getD k true = false →
          (∀ e ∈ ok.after, Region.binds md e = true → e.on ≠ i) → oi.apart ops ok = true := fun k ok hk hki hun hno => by
        refine hfree k ok hk hki ?_ hno
        by_cases hjk : j = k
        · subst hjk; exact hjun
        · rw [getD_set_ne true hjk] at hun; exact hun
      refine wpOp_mono (fun a' w' h3 => ?_) h2
      have hcomm : (listed.setIfInBounds i true).setIfInBounds j true = (listed.setIfInBounds j true).setIfInBounds i true := Array.setIfInBounds_comm _ _ (Ne.symm hji)
      have hq : ld = true → qt j = true := hqt listed j hG (fun _ hk => hk) (mem_ready.1 hr).1 hj hji
      refine ⟨h3.2.1, ih (listed.setIfInBounds j true) a' w' (hG.set hj) (fun l j' hl hsub => hqt l j' hl (fun k hk => hsub k (getD_set_true hk))) hfree' (ready_mono hr (Ne.symm hji)) ?_ ?_⟩
      · exact h3.1.imp (fun ⟨x, y⟩ => ⟨x, fun w'' hw => y w'' (fun hld => (h3.2.1 (hq hld)).trans (hw hld))⟩) id
      · rw [← hcomm]
        exact h3.2.2
/-- Which of the operations wait for number i, at some steps' distance. -/
def marksTo (md : Region.Mode) (i : Nat) : List Oper → List Bool → List Bool
  | [], acc => acc
  | o :: r, acc => marksTo md i r (acc ++ [o.after.toList.any fun e => Region.binds md e && (e.on == i || acc.getD e.on false)])
def waits (md : Region.Mode) (ops : Array Oper) (j i : Nat) : Bool := (marksTo md i ops.toList []).getD j false
theorem marksTo_sound {l : Array Bool} (h : Shut md ops l) {i : Nat} : ∀ (r : List Oper) (acc : List Bool), ops.toList.drop acc.length = r → (∀ j, acc.getD j false = true → l.getD j false = true → l.getD i false = true) →
    ∀ j, (marksTo md i r acc).getD j false = true → l.getD j false = true → l.getD i false = true
  | [], acc, _, ha, j, hj, hl => ha j hj hl
  | o :: r, acc, hr, ha, j, hj, hl => by
    have ho : ops[acc.length]? = some o := by
      rw [← Array.getElem?_toList]
      have := congrArg (fun x => x[0]?) hr
      simpa using this
    refine marksTo_sound h r _ ?_ ?_ j hj hl
    · have := congrArg List.tail hr
      rw [List.tail_drop] at this
      rw [List.length_append]
      exact this
    · intro j' hj' hl'
      simp only [List.getD_eq_getElem?_getD] at hj'
      rcases Nat.lt_or_ge j' acc.length with h1 | h1
      · rw [List.getElem?_append_left h1] at hj'
        exact ha j' (by simpa [List.getD_eq_getElem?_getD] using hj') hl'
      · rw [List.getElem?_append_right h1] at hj'
        rcases Nat.eq_or_lt_of_le h1 with h2 | h2
        · subst h2
          simp only [Nat.sub_self, List.getElem?_cons_zero, Option.getD_some] at hj'
          obtain ⟨e, he, h3⟩ := List.any_eq_true.1 hj'
          simp only [Bool.and_eq_true, Bool.or_eq_true, beq_iff_eq] at h3
          have h4 := h.at_ _ o ho hl' e (by simpa using he) h3.1
          rcases h3.2 with h5 | h5
          · rw [← h5]; exact h4
          · exact ha _ h5 h4
        · rw [List.getElem?_eq_none (by simp; omega)] at hj'
          cases hj'
theorem waits_listed {l : Array Bool} (h : Shut md ops l) {i j : Nat} (h1 : waits md ops j i = true) (hj : l.getD j false = true) : l.getD i false = true :=
  marksTo_sound h ops.toList [] (by simp) (fun j hj => by simp at hj) j h1 hj
end

/-! ### The machine -/
def mayWrite (G : Env) (o : Oper) : Bool := !(pureOp o.op || stillOp G o.op)
section
variable {γ : Type}
end
/-! In one order, where that is as good as any. -/
def needMask (o : Oper) : Nat := o.after.toList.foldl (fun m e => if Region.binds .any e then m ||| (1 <<< e.on) else m) 0
/-- Those that may come up, those that only look first. -/
def nextOrd (listed : Nat) : List (Nat × Nat × Bool) → Option Nat → Option Nat
  | [], d => d
  | (i, m, p) :: l, d => if !listed.testBit i && (m &&& listed) == m then (if p then some i else nextOrd listed l (d.or (some i))) else nextOrd listed l d
def ordGo (l : List (Nat × Nat × Bool)) : Nat → Nat → List Nat
  | 0, _ => []
  | n + 1, listed => match nextOrd listed l none with
    | some i => i :: ordGo l n (listed ||| (1 <<< i))
    | none => []
def numbered : Nat → List Oper → List (Nat × Nat × Bool)
  | _, [] => []
  | i, o :: l => (i, needMask o, pureOp o.op) :: numbered (i + 1) l
def drawOrd (ops : Array Oper) : List Nat := ordGo (numbered 0 ops.toList) ops.size 0
def takeAt (G : Env) (ops : Array Oper) (i : Nat) (o : Oper) (rest : List Nat) : Bool := pureOp o.op &&
  (rest.all fun j => match ops[j]? with
    | some oj => oj.after.any (fun e => Region.binds .any e && e.on == i) || o.apart ops oj
    | none => true) &&
  (!isLoad o.op || (List.range ops.size).all fun j => match ops[j]? with
    | some oj => !mayWrite G oj || (rest.contains j && waits .any ops j i)
    | none => true)
def aloneAt (ops : Array Oper) (i : Nat) (rest : List Nat) : Bool := rest.all fun j => match ops[j]? with
  | some oj => oj.after.toList.any fun e => Region.binds .any e && (i :: rest).contains e.on
  | none => true
def ordOK (G : Env) (ops : Array Oper) : List Nat → Bool
  | [] => true
  | i :: rest => (match ops[i]? with
    | some o => !rest.contains i && (o.after.toList.all fun e => !Region.binds .any e || (decide (e.on < ops.size) && !(i :: rest).contains e.on)) && (takeAt G ops i o rest || aloneAt ops i rest)
    | none => false) && ordOK G ops rest
def drawOK (G : Env) (ops : Array Oper) : Bool := Region.noSelect ops && (List.range ops.size).all (drawOrd ops).contains && ordOK G ops (drawOrd ops)
def pickOps (ops : Array Oper) : List Nat → List Oper
  | [] => []
  | i :: r => match ops[i]? with
    | some o => o :: pickOps ops r
    | none => pickOps ops r
section
variable {P : Program} {w w1 w0 : World} {S0 : Own} {st : St} {μ : List ORec} {a : Act}
/-- One operation of a region, with its guard. -/
theorem one_op {γ : Type} {step : Oper → St → (St → Option γ) → Option γ} {ops : Array Oper} {o : Oper} {K : St → Option γ} {r : γ} (h : Rel w0 S0 st μ a w) (hk : execOps step ops [o] st K = some r) :
    (Region.wanted o (yielded ops a.tmps) = true ∧ ∃ st2, Rel w0 S0 st2 μ a w ∧ step o st2 K = some r) ∨ (Region.wanted o (yielded ops a.tmps) = false ∧ ∃ st2, Rel w0 S0 st2 μ (a.put o.dst undef) w ∧ K st2 = some r) := by
  simp only [execOps] at hk
  split at hk
  · rename_i hg
    exact .inl ⟨by unfold Region.wanted; rw [hg], st, h, hk⟩
  · rename_i j want hg
    have hwant : ∀ y, yielded ops a.tmps j = y → Region.wanted o (yielded ops a.tmps) = (y == some want) := by
      intro y hy
      unfold Region.wanted
      rw [hg]
      simp only [hy]
    split at hk
    · cases hk
    · rename_i d hd
      split at hk
      · rename_i b hb
        have hlt := (List.getElem?_eq_some_iff.1 hb).1
        have hv : a.tmps.getD d undef = .bool b := (h.tv d _ hb).1
        have hy := yielded_at hd h hlt
        rw [hv] at hy
        have hre : Rel w0 S0 (st.put (some d) (.sv (.at (.bool b)))) μ a w := h.retell (t := d) (x := .sv (.at (.bool b))) (by rw [hv]; exact ⟨rfl, .inr rfl⟩)
        split at hk
        · rename_i hbt
          subst hbt
          split at hk
          · rename_i hw; subst hw
            exact .inl ⟨by rw [hwant _ hy]; rfl, _, hre, hk⟩
          · rename_i hw
            exact .inr ⟨by rw [hwant _ hy]; cases want <;> simp_all, _, hre.put o.dst undef_tr, hk⟩
        · rename_i hbf
          have hbf : b = false := by simpa using hbf
          subst hbf
          split at hk
          · rename_i hw; subst hw
            exact .inr ⟨by rw [hwant _ hy]; rfl, _, hre.put o.dst undef_tr, hk⟩
          · rename_i hw
            exact .inl ⟨by rw [hwant _ hy]; cases want <;> simp_all, _, hre, hk⟩
      · rename_i hb
        have hlt := (List.getElem?_eq_some_iff.1 hb).1
        obtain ⟨vs, hv, hl, _⟩ := h.tv d _ hb
        obtain rfl : vs = [] := List.eq_nil_of_length_eq_zero hl
        have hy := yielded_at hd h hlt
        rw [hv] at hy
        exact .inr ⟨by rw [hwant _ hy]; rfl, _, h.put o.dst undef_tr, hk⟩
      · cases hk
def quietAt (G : Env) (ops : Array Oper) (j : Nat) : Bool := match ops[j]? with
  | some o => !mayWrite G o
  | none => true
/-- What has come up is what does not remain. -/
structure LstOf (ops : Array Oper) (L : Array Bool) (r : List Nat) : Prop where
  size : L.size = ops.size
  val : ∀ j, j < ops.size → L[j]? = some (!r.contains j)
theorem LstOf.get {ops : Array Oper} {L : Array Bool} {r : List Nat} (h : LstOf ops L r) (d : Bool) {j : Nat} (hj : j < ops.size) : L.getD j d = !r.contains j := by
  rw [Array.getD_eq_getD_getElem?, h.val j hj]; rfl
theorem LstOf.out {ops : Array Oper} {L : Array Bool} {r : List Nat} (h : LstOf ops L r) (d : Bool) {j : Nat} (hj : ops.size ≤ j) : L.getD j d = d := by
  rw [Array.getD_eq_getD_getElem?, Array.getElem?_eq_none (by rw [h.size]; exact hj)]; rfl
theorem LstOf.set {ops : Array Oper} {L : Array Bool} {i : Nat} {r : List Nat} (h : LstOf ops L (i :: r)) (hi : i < ops.size) (hn : r.contains i = false) : LstOf ops (L.setIfInBounds i true) r := by
  refine ⟨by simp [h.size], fun j hj => ?_⟩
  by_cases hij : i = j
  · subst hij
    rw [Array.getElem?_setIfInBounds_self_of_lt (by rw [h.size]; exact hi), hn]
    rfl
  · rw [Array.getElem?_setIfInBounds_ne hij, h.val j hj]
    have : (i :: r).contains j = r.contains j := by
      rw [List.contains_cons]
      have : (j == i) = false := by simpa using fun h => hij h.symm
      rw [this, Bool.false_or]
    rw [this]
theorem drawn_sound {γ : Type} {T : TT} {G : Env} {mvs : List Tmp} {k : Nat} {ops : Array Oper} {K : St → Option γ} {r : γ} {Q : Exit → Act → World → Prop} (hT : TTok P T) (hG : EnvOK P k G) (hno : Region.noSelect ops = true) (hQp : ∀ c a w, ¬ Q (.panic c) a w) (hQ : ∀ a w, Nx w0 S0 K r a w → Q .normal a w) :
    ∀ (ord : List Nat) (L : Array Bool) (st : St) (μ : List ORec) (a : Act) (w : World), ordOK G ops ord = true → LstOf ops L ord → Shut .any ops L → Rel w0 S0 st μ a w → execOps (stepOp T G mvs k) ops (pickOps ops ord) st K = some r →
      ∃ n, n = ord.length ∧ wpAnyR P .any ops Q (quietAt G ops) n L a w := by
  intro ord
  induction ord with
  | nil =>
    intro L st μ a w hok hL hS h hk
    have hr : Region.ready .any ops L = [] := by
      apply List.eq_nil_iff_forall_not_mem.2
      intro x hx
      obtain ⟨h1, oj, hoj, _⟩ := mem_ready.1 hx
      rw [hL.get true (Array.getElem?_eq_some_iff.1 hoj).1] at h1
      simp at h1
    exact ⟨0, rfl, hr, hQ a w ⟨st, μ, h, hk⟩⟩
  | cons i rest ih =>
    intro L st μ a w hok hL hS h hk
    simp only [ordOK, Bool.and_eq_true] at hok
    obtain ⟨hok1, hokr⟩ := hok
    split at hok1
    · rename_i o hoi
      simp only [Bool.and_eq_true, Bool.or_eq_true, Bool.not_eq_true'] at hok1
      obtain ⟨⟨hnr, hedge⟩, hhow⟩ := hok1
      have hlt : i < ops.size := (Array.getElem?_eq_some_iff.1 hoi).1
      have hready : i ∈ Region.ready .any ops L := by
        refine mem_ready.2 ⟨by rw [hL.get true hlt]; simp, o, hoi, fun e he hb => ?_⟩
        have h2 := List.all_eq_true.1 hedge e (by simpa using he)
        simp only [hb, Bool.not_true, Bool.false_or, Bool.and_eq_true, decide_eq_true_eq] at h2
        rw [hL.get false h2.1]
        exact h2.2
      have hS' : Shut .any ops (L.setIfInBounds i true) := hS.set hready
      have hL' := hL.set hlt hnr
      simp only [pickOps, hoi] at hk
      have hk1 : execOps (stepOp T G mvs k) ops [o] st (fun st1 => execOps (stepOp T G mvs k) ops (pickOps ops rest) st1 K) = some r := hk
      refine ⟨rest.length + 1, rfl, ?_⟩
      have ih' : ∀ st' μ' a' w', Rel w0 S0 st' μ' a' w' → execOps (stepOp T G mvs k) ops (pickOps ops rest) st' K = some r → wpAnyR P .any ops Q (quietAt G ops) rest.length (L.setIfInBounds i true) a' w' := by
        intro st' μ' a' w' h' hk'
        obtain ⟨n, rfl, hw⟩ := ih _ st' μ' a' w' hokr hL' hS' h' hk'
        exact hw
      rcases hhow with htake | halone
      · simp only [takeAt, Bool.and_eq_true, Bool.or_eq_true] at htake
        obtain ⟨⟨hpure, hfree⟩, hload⟩ := htake
        have hfree' : ∀ j oj, ops[j]? = some oj → j ≠ i → L.getD j true = false → (∀ e ∈ oj.after, Region.binds .any e = true → e.on ≠ i) → o.apart ops oj = true := by
          intro j oj hoj hji hun hno2
          have hjn := (Array.getElem?_eq_some_iff.1 hoj).1
          rw [hL.get true hjn] at hun
          have hjr : j ∈ rest := by
            have : (i :: rest).contains j = true := by cases hc : (i :: rest).contains j with | true => rfl | false => rw [hc] at hun; cases hun
            rcases List.mem_cons.1 (List.contains_iff_mem.1 this) with h1 | h1
            · exact absurd h1 hji
            · exact h1
          have h1 := List.all_eq_true.1 hfree j hjr
          simp only [hoj, Bool.or_eq_true] at h1
          rcases h1 with h1 | h1
          · obtain ⟨e, he, hb⟩ := Array.any_eq_true'.1 h1
            simp only [Bool.and_eq_true, beq_iff_eq] at hb
            exact absurd hb.2 (hno2 e he hb.1)
          · exact h1
        have hqt : ∀ l j, Shut .any ops l → (∀ k, L.getD k false = true → l.getD k false = true) → l.getD i true = false → j ∈ Region.ready .any ops l → j ≠ i → isLoad o.op = true → quietAt G ops j = true := by
          intro l j hl hsub hli hj hji hld
          unfold quietAt
          split
          · rename_i oj hoj
            cases hwj : mayWrite G oj with
            | false => rfl
            | true =>
              rcases hload with hload | hload
              · rw [hld] at hload; cases hload
              · have hj2 := List.all_eq_true.1 hload j (List.mem_range.2 (Array.getElem?_eq_some_iff.1 hoj).1)
                simp only [hoj, hwj, Bool.not_true, Bool.false_or, Bool.and_eq_true] at hj2
                have h1 := waits_listed (hl.set hj) hj2.2 (by
                  have hjs : j < l.size := by rw [hl.size]; exact (Array.getElem?_eq_some_iff.1 hoj).1
                  simp [hjs])
                rw [getD_set_ne false hji] at h1
                rcases Nat.lt_or_ge i l.size with h2 | h2
                · simp [h2] at h1 hli; rw [h1] at hli; cases hli
                · simp [Array.getElem?_eq_none h2] at h1
          · rfl
        rcases one_op h hk1 with ⟨hw, st2, h2, hk2⟩ | ⟨hw, st2, h2, hk2⟩
        · obtain ⟨v, hrun, st', μ', h', hk'⟩ := stepOp_went hT h2 hpure hk2
          exact wpAnyR_first (v := v) hoi (Region.noSelect_spec hno) (fun c a w hq => absurd hq (hQp c _ w)) _ _ a w hS hqt hfree' hready (.inl ⟨hw, hrun⟩) (ih' st' μ' _ w h' hk')
        · exact wpAnyR_first (v := undef) (ld := isLoad o.op) hoi (Region.noSelect_spec hno) (fun c a w hq => absurd hq (hQp c _ w)) _ _ a w hS hqt hfree' hready (.inr ⟨hw, rfl⟩) (ih' st2 μ _ w h2 hk2)
      · have hone : ∀ j ∈ Region.ready .any ops L, j = i := by
          intro j hj
          obtain ⟨hun, oj, hoj, hall⟩ := mem_ready.1 hj
          have hjn := (Array.getElem?_eq_some_iff.1 hoj).1
          rw [hL.get true hjn] at hun
          have hmem : (i :: rest).contains j = true := by cases hc : (i :: rest).contains j with | true => rfl | false => rw [hc] at hun; cases hun
          rcases List.mem_cons.1 (List.contains_iff_mem.1 hmem) with h1 | h1
          · exact h1
          · have h2 := List.all_eq_true.1 halone j h1
            simp only [hoj] at h2
            obtain ⟨e, he, hb⟩ := List.any_eq_true.1 h2
            simp only [Bool.and_eq_true] at hb
            have h3 := hall e (by simpa using he) hb.1
            rcases Nat.lt_or_ge e.on ops.size with h4 | h4
            · rw [hL.get false h4, hb.2] at h3; cases h3
            · rw [hL.out false h4] at h3; cases h3
        refine ⟨fun hr => (by rw [hr] at hready; cases hready), fun j hj => ?_⟩
        have := hone j hj
        subst this
        unfold wpOp
        simp only [hoi]
        rcases one_op h hk1 with ⟨hw, st2, h2, hk2⟩ | ⟨hw, st2, h2, hk2⟩
        · rw [if_pos hw]
          left
          cases hp : pureOp o.op with
          | true =>
            refine Oper.wp_mono (fun a' w' hn => ?_) (stepOp_went hT h2 hp hk2).still
            obtain ⟨⟨st', μ', h', hk'⟩, hs⟩ := hn
            exact ⟨fun _ => hs, ih' st' μ' a' w' h' hk'⟩
          | false =>
            cases hq : stillOp G o.op with
            | true =>
              refine Oper.wp_mono (fun a' w' hn => ?_) (stepOp_still hT hG h2 hq hk2)
              obtain ⟨⟨st', μ', h', hk'⟩, hs⟩ := hn
              exact ⟨fun _ => hs, ih' st' μ' a' w' h' hk'⟩
            | false =>
              refine Oper.wp_mono (fun a' w' hn => ?_) (stepOp_sound hT hG h2 hk2)
              obtain ⟨st', μ', h', hk'⟩ := hn
              refine ⟨fun hqt => ?_, ih' st' μ' a' w' h' hk'⟩
              simp [quietAt, hoi, mayWrite, hp, hq] at hqt
        · rw [if_neg (by rw [hw]; simp)]
          exact ⟨fun _ => .refl w, ih' st2 μ _ w h2 hk2⟩
    · cases hok1
/-- With more steps than there are operations left. -/
theorem wpAnyR_more {P : Program} {md : Region.Mode} {ops : Array Oper} {Q : Exit → Act → World → Prop} {qt : Nat → Bool} : ∀ (n m : Nat) (L : Array Bool) (a : Act) (w : World), n ≤ m → wpAnyR P md ops Q qt n L a w → wpAnyR P md ops Q qt m L a w
  | 0, 0, _, _, _, _, h => h
  | 0, m + 1, L, a, w, _, h => ⟨fun _ => h.2, fun i hi => by rw [h.1] at hi; cases hi⟩
  | n + 1, 0, _, _, _, hn, _ => by omega
  | n + 1, m + 1, L, a, w, hn, h => ⟨h.1, fun i hi => wpOp_mono (fun a' w' h' => ⟨h'.1, wpAnyR_more n m _ a' w' (by omega) h'.2⟩) (h.2 i hi)⟩
theorem nodup_len {n : Nat} : ∀ (l : List Nat), (∀ i ∈ l, i < n) → l.Nodup → l.length ≤ n := by
  intro l hl hd
  have := List.Nodup.length_le_of_subset hd (l₂ := List.range n) (fun i hi => List.mem_range.2 (hl i hi))
  simpa using this
theorem ordOK_nodup {G : Env} {ops : Array Oper} : ∀ {ord : List Nat}, ordOK G ops ord = true → ord.Nodup ∧ ∀ i ∈ ord, i < ops.size
  | [], _ => ⟨List.nodup_nil, fun i hi => by cases hi⟩
  | i :: rest, h => by
    simp only [ordOK, Bool.and_eq_true] at h
    obtain ⟨h1, h2⟩ := h
    obtain ⟨g1, g2⟩ := ordOK_nodup h2
    split at h1
    · rename_i o ho
      simp only [Bool.and_eq_true, Bool.not_eq_true'] at h1
      refine ⟨List.nodup_cons.2 ⟨fun hm => ?_, g1⟩, fun j hj => ?_⟩
      · rw [List.contains_iff_mem.2 hm] at h1
        cases h1.1.1
      · rcases List.mem_cons.1 hj with rfl | hj
        · exact (Array.getElem?_eq_some_iff.1 ho).1
        · exact g2 j hj
    · cases h1
def none0 (n : Nat) : Array Bool := Array.replicate n false
theorem shut_none (md : Region.Mode) (ops : Array Oper) : Shut md ops (none0 ops.size) := by
  refine ⟨by simp [none0], fun j o ho hj => ?_⟩
  simp only [none0, Array.getD_eq_getD_getElem?, Array.getElem?_replicate] at hj
  split at hj <;> simp at hj
theorem drawn1_sound {γ : Type} {T : TT} {G : Env} {mvs : List Tmp} {k : Nat} {id : Nat} {ops : Array Oper} {K : St → Option γ} {Q : Exit → Act → World → Prop} (hT : TTok P T) (hG : EnvOK P k G) (hok : drawOK G ops = true) (hQp : ∀ c a w, ¬ Q (.panic c) a w)
    {r : γ} (h : Rel w0 S0 st μ a w) (hk : execOps (stepOp T G mvs k) ops (pickOps ops (drawOrd ops)) st K = some r) (hQ : ∀ a w, Nx w0 S0 K r a w → Q .normal a w) : (Code.region id ops true).wp P Q a w := by
  refine wp_region_any hG.mixed (wpAny_of_listed (qt := quietAt G ops) _ _ _ _ ?_)
  have h1 : Rel w0 S0 st μ a { w with drawn := w.drawn + 1 } := h.world (Chg.drew w (fun _ => False)) (fun _ _ _ _ _ hf => hf) (fun _ hf => hf.elim)
  simp only [drawOK, Bool.and_eq_true] at hok
  obtain ⟨⟨hno, hall⟩, hord⟩ := hok
  have hL : LstOf ops (none0 ops.size) (drawOrd ops) := by
    refine ⟨by simp [none0], fun j hj => ?_⟩
    rw [List.all_eq_true.1 hall j (List.mem_range.2 hj)]
    simp [none0, Array.getElem?_replicate, hj]
  obtain ⟨n, hn, hw⟩ := drawn_sound (w0 := w0) (S0 := S0) hT hG hno hQp hQ (drawOrd ops) _ st μ a _ hord hL (shut_none _ _) h1 hk
  obtain ⟨hnd, hlt⟩ := ordOK_nodup hord
  exact wpAnyR_more n ops.size _ _ _ (by rw [hn]; exact nodup_len _ hlt hnd) hw
end
end Go.Proofs.Ytcmndffpmjinlaa.Vs

set_option linter.unusedVariables false
set_option linter.unusedSimpArgs false
namespace Go.Proofs.Ytcmndffpmjinlaa.Vs
open Go.RowKit

/-- A piece of code by a function: from what it wants to what it leaves, or to the function's end. -/
structure LoopE (B : Type) where
  inp : Spec
  out : Spec
  fn : {γ : Type} → Nat → inp.D → (out.D → Option γ) → (B → Option γ) → Option γ
structure Ctx (B : Type) where
  T : TT
  G : Env
  mvs : List Tmp := []
  no : Nat
  n : Nat
  res : St → Option B
  loops : List (Nat × LoopE B) := []
  conds : List (Tmp × LoopE B) := []
  regs : List (Nat × LoopE B) := []
def findE {β : Type 1} (l : List (Nat × β)) (i : Nat) : Option β := match l with
  | [] => none
  | p :: l => if p.1 = i then some p.2 else findE l i
section
variable {B : Type} {γ : Type}
def condE (X : Ctx B) : Operand → Option (LoopE B)
  | .tmp d => findE X.conds d
  | _ => none
def St.told (st : St) (c : Operand) (b : Bool) : St := match c with
  | .tmp d => st.put (some d) (.sv (.at (.bool b)))
  | _ => st
def enterN (X : Ctx B) (s : Spec) (st : St) : Option s.D := if st.tmps.length = X.n then s.enter X.no st else none
def runE (X : Ctx B) (k : Nat) (E : LoopE B) (st : St) (KN : St → Option γ) (KB : B → Option γ) : Option γ :=
  match enterN X E.inp st with
  | some x => E.fn k x (fun y => KN (E.out.st X.n y)) KB
  | none => none
def branch (st : St) (c : Operand) (ka kb : St → Option γ) : Option γ := match st.ev c with
  | .sv (.at (.bool t)) => if t = true then ka (st.told c true) else kb (st.told c false)
  | _ => none
def exec (X : Ctx B) (k : Nat) : Code → St → (St → Option γ) → (Nat → St → Option γ) → (B → Option γ) → Option γ
  | .skip, st, KN, _, _ => KN st
  | .seq a b, st, KN, KX, KB => exec X k a st (fun st1 => exec X k b st1 KN KX KB) KX KB
  | .cond c a b, st, KN, KX, KB => match condE X c with
    | some E => runE X k E st KN KB
    | none => branch st c (fun st1 => exec X k a st1 KN KX KB) (fun st1 => exec X k b st1 KN KX KB)
  | .block id c, st, KN, KX, KB => match findE X.loops id with
    | some E => runE X k E st KN KB
    | none => exec X k c st KN (fun i st1 => if i = id then KN st1 else KX i st1) KB
  | .exit id, st, _, KX, _ => KX id st
  | .ret, st, _, _, KB => match X.res st with
    | some b => KB b
    | none => none
  | .region _ ops false, st, KN, _, _ => execOps (stepOp X.T X.G X.mvs k) ops ops.toList st KN
  | .region id ops true, st, KN, _, KB => match findE X.regs id with
    | some E => runE X k E st KN KB
    | none => if drawOK X.G ops = true then execOps (stepOp X.T X.G X.mvs k) ops (pickOps ops (drawOrd ops)) st KN else none
  | _, _, _, _, _ => none
end

section
variable {P : Program} {w w1 w0 : World} {S0 : Own} {st : St} {μ μ' : List ORec} {a : Act} {B : Type}
def LPost (X : Ctx B) (w0 : World) (S0 : Own) {γ : Type} {D : Type} (f : D → St) (KN : D → Option γ) (KB : B → Option γ) (r : γ) : Exit → Act → World → Prop
  | .normal, a, w => ∃ y μ, Rel w0 S0 (f y) μ a w ∧ KN y = some r
  | .ret, a, w => ∃ st μ b, Rel w0 S0 st μ a w ∧ X.res st = some b ∧ KB b = some r
  | _, _, _ => False
def EOK (P : Program) (X : Ctx B) (k : Nat) (E : LoopE B) (c : Code) : Prop :=
  ∀ {γ : Type} (KN : E.out.D → Option γ) (KB : B → Option γ) (r : γ) (x : E.inp.D) (w0 : World) (S0 : Own) (μ : List ORec) (a : Act) (w : World), S0.ov.length = X.no → Rel w0 S0 (E.inp.st X.n x) μ a w → E.fn k x KN KB = some r →
    c.wp P (LPost X w0 S0 (E.out.st X.n) KN KB r) a w
def LOK (P : Program) (X : Ctx B) (k : Nat) : Code → Prop
  | .seq a b => LOK P X k a ∧ LOK P X k b
  | .cond c a b => match condE X c with
    | some E => EOK P X k E (.cond c a b)
    | none => LOK P X k a ∧ LOK P X k b
  | .block id c => match findE X.loops id with
    | some E => EOK P X k E (.block id c)
    | none => LOK P X k c
  | .region id ops true => match findE X.regs id with
    | some E => EOK P X k E (.region id ops true)
    | none => True
  | _ => True
def EPost (X : Ctx B) (w0 : World) (S0 : Own) {γ : Type} (KN : St → Option γ) (KX : Nat → St → Option γ) (KB : B → Option γ) (r : γ) : Exit → Act → World → Prop
  | .normal, a, w => ∃ st μ, Rel w0 S0 st μ a w ∧ KN st = some r
  | .exit id, a, w => ∃ st μ, Rel w0 S0 st μ a w ∧ KX id st = some r
  | .ret, a, w => ∃ st μ b, Rel w0 S0 st μ a w ∧ X.res st = some b ∧ KB b = some r
  | _, _, _ => False
theorem told_sound (h : Rel w0 S0 st μ a w) {c : Operand} {b : Bool} (hc : st.ev c = .sv (.at (.bool b))) : Rel w0 S0 (st.told c b) μ a w := by
  cases c with
  | tmp d =>
    have hv : a.eval (.tmp d) = .bool b := h.at hc
    have hv2 : a.tmps.getD d undef = .bool b := hv
    exact h.retell (t := d) (x := .sv (.at (.bool b))) (by rw [hv2]; exact ⟨rfl, .inr rfl⟩)
  | _ => exact h
theorem runE_sound {X : Ctx B} {k : Nat} {E : LoopE B} {c : Code} {γ : Type} {KN : St → Option γ} {KX : Nat → St → Option γ} {KB : B → Option γ} {r : γ} (hE : EOK P X k E c) (hno : S0.ov.length = X.no) (h : Rel w0 S0 st μ a w) (hr : runE X k E st KN KB = some r) : c.wp P (EPost X w0 S0 KN KX KB r) a w := by
  unfold runE at hr
  split at hr
  · rename_i x hx
    unfold enterN at hx
    split at hx
    · rename_i hn
      obtain ⟨μ', h1⟩ := Spec.enter_sound h hno hn hx
      refine Code.wp_mono (fun e a' w' hq => ?_) (hE _ KB r x w0 S0 μ' a w hno h1 hr)
      cases e with
      | normal => obtain ⟨y, μ2, g1, g2⟩ := hq; exact ⟨_, μ2, g1, g2⟩
      | ret => exact hq
      | exit id => exact False.elim hq
      | goto l => exact False.elim hq
      | panic ch => exact False.elim hq
      | outgrown => exact False.elim hq
    · cases hx
  · cases hr
theorem exec_sound {X : Ctx B} {k : Nat} (hT : TTok P X.T) (hG : EnvOK P k X.G) (hno : S0.ov.length = X.no) : ∀ {c : Code} {γ : Type} {st : St} {μ : List ORec} {a : Act} {w : World} {KN : St → Option γ} {KX : Nat → St → Option γ} {KB : B → Option γ} {r : γ}, LOK P X k c → Rel w0 S0 st μ a w → exec X k c st KN KX KB = some r → c.wp P (EPost X w0 S0 KN KX KB r) a w := by
  intro c
  induction c with
  | skip => intro γ st μ a w KN KX KB r _ h hr; exact wp_skip ⟨st, μ, h, hr⟩
  | seq x y ihx ihy =>
    intro γ st μ a w KN KX KB r hL h hr
    refine wp_seq (Code.wp_mono (fun e a' w' hq => ?_) (ihx hL.1 h hr))
    cases e with
    | normal => obtain ⟨st1, μ1, h1, hr1⟩ := hq; exact ihy hL.2 h1 hr1
    | exit id => exact hq
    | ret => exact hq
    | goto l => exact hq
    | panic ch => exact hq
    | outgrown => exact hq
  | cond c x y ihx ihy =>
    intro γ st μ a w KN KX KB r hL h hr
    simp only [exec] at hr
    simp only [LOK] at hL
    split at hr
    · rename_i E hE
      rw [hE] at hL
      exact runE_sound hL hno h hr
    · rename_i hE
      rw [hE] at hL
      unfold branch at hr
      split at hr
      · rename_i t ht
        have hc : a.eval c = .bool t := h.at ht
        refine wp_cond_split hc (fun htt => ?_) (fun htf => ?_)
        · subst htt
          rw [if_pos rfl] at hr
          exact ihx hL.1 (told_sound h ht) hr
        · subst htf
          rw [if_neg (by simp)] at hr
          exact ihy hL.2 (told_sound h ht) hr
      · cases hr
  | block id c ih =>
    intro γ st μ a w KN KX KB r hL h hr
    simp only [exec] at hr
    simp only [LOK] at hL
    split at hr
    · rename_i E hE
      rw [hE] at hL
      exact runE_sound hL hno h hr
    · rename_i hE
      rw [hE] at hL
      refine wp_block (Code.wp_mono (fun e a' w' hq => ?_) (ih hL h hr))
      cases e with
      | normal => exact hq
      | exit id' =>
        obtain ⟨st1, μ1, h1, hr1⟩ := hq
        unfold Exit.inBlock
        simp only at hr1 ⊢
        split
        · rename_i hid
          rw [if_pos hid] at hr1
          exact ⟨st1, μ1, h1, hr1⟩
        · rename_i hid
          rw [if_neg hid] at hr1
          exact ⟨st1, μ1, h1, hr1⟩
      | ret => exact hq
      | goto l => exact hq
      | panic ch => exact hq
      | outgrown => exact hq
  | exit id => intro γ st μ a w KN KX KB r _ h hr; exact wp_exit ⟨st, μ, h, hr⟩
  | ret =>
    intro γ st μ a w KN KX KB r _ h hr
    simp only [exec] at hr
    split at hr
    · rename_i b hb; exact wp_ret ⟨st, μ, b, h, hb, hr⟩
    · cases hr
  | region id ops draw =>
    intro γ st μ a w KN KX KB r hL h hr
    cases draw with
    | true =>
      simp only [exec] at hr
      simp only [LOK] at hL
      split at hr
      · rename_i E hE
        rw [hE] at hL
        exact runE_sound hL hno h hr
      · split at hr
        · rename_i hok
          exact drawn1_sound (Q := EPost X w0 S0 KN KX KB r) (w0 := w0) (S0 := S0) hT hG hok (fun c a' w' hf => hf) h hr (fun a' w' hn => hn)
        · cases hr
    | false =>
      simp only [exec] at hr
      exact wp_region_list (execOps_sound (Q := EPost X w0 S0 KN KX KB r) (w0 := w0) (S0 := S0) (fun a' w' hn => hn) (fun o st1 μ1 a1 w1 K' h1 hk => stepOp_sound hT hG h1 hk) ops.toList st μ a w h hr)
  | loop _ _ => intro γ st μ a w KN KX KB r _ h hr; cases hr
  | rangeFunc _ _ _ _ _ _ => intro γ st μ a w KN KX KB r _ h hr; cases hr
  | scope _ _ => intro γ st μ a w KN KX KB r _ h hr; cases hr
  | label _ => intro γ st μ a w KN KX KB r _ h hr; cases hr
  | goto _ => intro γ st μ a w KN KX KB r _ h hr; cases hr
  | refuse _ => intro γ st μ a w KN KX KB r _ h hr; cases hr

/-! ### Loops -/
structure LoopDef (B : Type) where
  inp : Spec
  out : Spec
  Z : Type
  lp : Nat → inp.D → Option Z
  dsp : {γ : Type} → Z → (out.D → Option γ) → (B → Option γ) → Option γ
  mkN : out.D → Option Z
  mkB : B → Option Z
  hN : ∀ {γ : Type} (y : out.D) (z : Z) (KN : out.D → Option γ) (KB : B → Option γ), mkN y = some z → dsp z KN KB = KN y
  hB : ∀ {γ : Type} (b : B) (z : Z) (KN : out.D → Option γ) (KB : B → Option γ), mkB b = some z → dsp z KN KB = KB b
def LoopDef.E (D : LoopDef B) : LoopE B where
  inp := D.inp
  out := D.out
  fn := fun k x KN KB => match D.lp k x with
    | some z => D.dsp z KN KB
    | none => none
def backK (X : Ctx B) (D : LoopDef B) (k : Nat) (st : St) : Option D.Z := match enterN X D.inp st with
  | some x => D.lp k x
  | none => none
def outK (X : Ctx B) (D : LoopDef B) (st : St) : Option D.Z := match enterN X D.out st with
  | some y => D.mkN y
  | none => none
def loopK (X : Ctx B) (D : LoopDef B) (id : Nat) (body : Code) (k : Nat) (x : D.inp.D) : Option D.Z :=
  exec X k body (D.inp.st X.n x) (backK X D k) (fun i st => if i = id then outK X D st else none) D.mkB
theorem enterN_sound {X : Ctx B} (hno : S0.ov.length = X.no) (h : Rel w0 S0 st μ a w) {s : Spec} {x : s.D} (hx : enterN X s st = some x) : ∃ μ', Rel w0 S0 (s.st X.n x) μ' a w := by
  unfold enterN at hx
  split at hx
  · rename_i hn; exact Spec.enter_sound h hno hn hx
  · cases hx
theorem loop_ok {X : Ctx B} {D : LoopDef B} {id : Nat} {body : Code} (hT : TTok P X.T) (hG : ∀ k, EnvOK P k X.G) (h0 : ∀ x, D.lp 0 x = none) (hs : ∀ k x, D.lp (k + 1) x = loopK X D id body k x) (hL : ∀ k, LOK P X k body) (k : Nat) : EOK P X k D.E (.block id (.loop body)) := by
  intro γ KN KB r x w0 S0 μ a w hno h hr
  simp only [LoopDef.E] at hr
  split at hr
  · rename_i z hz
    refine wp_block (wp_loop_ghost (fun j a w => ∃ x μ, Rel w0 S0 (D.inp.st X.n x) μ a w ∧ D.lp j x = some z) k ⟨x, μ, h, hz⟩ fun j a w ⟨x, μ, h, hz⟩ => ?_)
    cases j with
    | zero => rw [h0] at hz; cases hz
    | succ j =>
      rw [hs] at hz
      refine Code.wp_mono (fun e a' w' hq => ?_) (exec_sound hT (hG j) hno (hL j) h hz)
      cases e with
      | normal =>
        obtain ⟨st1, μ1, h1, hr1⟩ := hq
        unfold backK at hr1
        split at hr1
        · rename_i x' hx'
          obtain ⟨μ', h2⟩ := enterN_sound hno h1 hx'
          exact ⟨j, Nat.lt_succ_self j, x', μ', h2, hr1⟩
        · cases hr1
      | exit id' =>
        obtain ⟨st1, μ1, h1, hr1⟩ := hq
        show Exit.inBlock id _ (.exit id') a' w'
        unfold Exit.inBlock
        simp only at hr1 ⊢
        split at hr1
        · rename_i hid
          rw [if_pos hid]
          unfold outK at hr1
          split at hr1
          · rename_i y hy
            obtain ⟨μ', h2⟩ := enterN_sound hno h1 hy
            exact ⟨y, μ', h2, by rw [← D.hN y z KN KB hr1]; exact hr⟩
          · cases hr1
        · cases hr1
      | ret =>
        obtain ⟨st1, μ1, b, h1, hb, hr1⟩ := hq
        exact ⟨st1, μ1, b, h1, hb, by rw [← D.hB b z KN KB hr1]; exact hr⟩
      | goto l => exact hq
      | panic ch => exact hq
      | outgrown => exact hq
  · cases hr
end
end Go.Proofs.Ytcmndffpmjinlaa.Vs

set_option linter.unusedVariables false
set_option linter.unusedSimpArgs false
namespace Go.Proofs.Ytcmndffpmjinlaa.Vs
open Go.RowKit

/-! ### The beginning -/
/-- The cells of a tree of one's own, its row being object i. -/
def ownAtoms (i : Nat) : (t : Ty) → t.D → List At
  | .int k, n => [.int k n] | .bool, b => [.bool b] | .str, s => [.str s] | .pair a b, x => ownAtoms i a x.1 ++ ownAtoms i b x.2 | .slice _ _, _ => [.sl i]
def leafOf (u : Ty) : (t : Ty) → t.D → Nat → List u.D
  | .slice _ u', xs, _ => if h : u' = u then h ▸ xs else []
  | .pair a b, x, pos => if pos < a.sz then leafOf u a x.1 pos else leafOf u b x.2 (pos - a.sz)
  | _, _, _ => []
def packA (agg : Bool) (l : List At) : TV := if agg then .sv (.agg l) else .sv (.at (l.headD .un))
def initTmps : (ps : List PK) → Tup ps → List TV
  | [], _ => []
  | p :: ps, x => packA p.agg (match p.own with | none => atomsOf 0 p.t x.1 | some _ => ownAtoms 1 p.t x.1) :: initTmps ps x.2
def ownObjs : (ps : List PK) → Tup ps → List Ob
  | [], _ => []
  | p :: ps, x => match p.own with
    | some q => [.row p.give q.2.1 q.2.2 (leafOf q.2.2 p.t x.1 q.1)]
    | none => ownObjs ps x.2
def oneOwn : List PK → Bool
  | [] => true
  | p :: ps => match p.own with
    | some _ => (ownI ps).isNone
    | none => oneOwn ps
def initSt (ps : List PK) (n : Nat) (x : Tup ps) : St := { tmps := initTmps ps x ++ List.replicate (n - ps.length) (.sv (.at .un)), objs := .ro :: ownObjs ps x }
def noOf (ps : List PK) : Nat := match ownI ps with | some _ => 1 | none => 0

section
variable {P : Program} {w w1 w0 : World} {S0 : Own} {st : St} {μ μ' : List ORec} {a : Act}
theorem packA_sound {agg : Bool} {l : List At} {v : Value} (hs : Shaped agg v) (h : AL μ w l v.cells.toList) : TR μ w (packA agg l) v := by
  unfold Shaped at hs
  unfold packA
  split
  · rename_i hag
    rw [if_pos hag] at hs
    obtain ⟨cs, rfl⟩ := hs
    exact ⟨cs.toList, by simp, h⟩
  · rename_i hag
    rw [if_neg hag] at hs
    rw [hs] at h
    have hl := h.1
    match l, hl with
    | [y], _ => exact ⟨h.2 0 y v rfl rfl, .inr hs⟩
theorem flat_al {j : Nat} : ∀ {t : Ty} {x : t.D} {S : Nat → Prop} {cs : List Value}, t.flat = true → Rep t w S x cs → AL μ w (ownAtoms j t x) cs
  | .int _, n, S, cs, _, h => by rw [show cs = _ from h]; exact AL.one (show AR μ w (.int _ n) _ from rfl)
  | .bool, b, S, cs, _, h => by rw [show cs = _ from h]; exact AL.one (show AR μ w (.bool b) _ from rfl)
  | .str, s, S, cs, _, h => by rw [show cs = _ from h]; exact AL.one (show AR μ w (.str s) _ from rfl)
  | .slice _ _, _, _, _, h, _ => by cases h
  | .pair a b, x, S, cs, hf, h => by
    simp only [Ty.flat, Bool.and_eq_true] at hf
    obtain ⟨c0, c1, S0, S1, rfl, h0, h1, _, _⟩ := h
    exact AL.append (flat_al hf.1 h0) (flat_al hf.2 h1)
theorem own_atoms {i : Nat} {rec : ORec} (hr : μ[i]? = some rec) {u : Ty} {e : TypeId} {So : Nat → Prop} : ∀ {t : Ty} {x : t.D} {cs : List Value} {pos : Nat} {S : Nat → Prop}, (∀ k, S k → So k) → oneLeaf t pos e u = true → Rep t w S x cs → cs[pos]? = some rec.v →
    AL μ w (ownAtoms i t x) cs ∧ RowRep (Rep u) u.sz e w So (leafOf u t x pos) rec.v
  | .int _, x, cs, pos, S, _, h1, _, _ => by cases h1
  | .bool, x, cs, pos, S, _, h1, _, _ => by cases h1
  | .str, x, cs, pos, S, _, h1, _, _ => by cases h1
  | .slice e' u', x, cs, pos, S, hS, h1, hrep, hv => by
    simp only [oneLeaf, Bool.and_eq_true, beq_iff_eq, decide_eq_true_eq] at h1
    obtain ⟨⟨rfl, rfl⟩, rfl⟩ := h1
    obtain ⟨v, rfl, hrow⟩ := hrep
    obtain rfl : v = rec.v := by simpa using hv
    obtain ⟨A, c, hvv, _⟩ := row_val hrow
    refine ⟨AL.one (show AR μ w (.sl i) rec.v from ⟨rec, hr, rfl, A, _, c, hvv⟩), ?_⟩
    simp only [leafOf, dif_pos]
    obtain ⟨v2, hv2, h3⟩ := Rep.wide (t := .slice e' u') (show Rep (.slice e' u') w S x [rec.v] from ⟨_, rfl, hrow⟩) hS
    obtain rfl : rec.v = v2 := by simpa using hv2
    exact h3
  | .pair ta tb, x, cs, pos, S, hS, h1, hrep, hv => by
    obtain ⟨c0, c1, S0, S1, rfl, h0, h2, d0, d1⟩ := hrep
    simp only [oneLeaf] at h1
    have hl := h0.len
    split at h1
    · rename_i hp
      simp only [Bool.and_eq_true] at h1
      rw [List.getElem?_append_left (by omega)] at hv
      obtain ⟨g1, g2⟩ := own_atoms hr (fun k hk => hS k (d0 k hk).1) h1.1 h0 hv
      refine ⟨AL.append g1 (flat_al h1.2 h2), ?_⟩
      simp only [leafOf, if_pos hp]
      exact g2
    · rename_i hp
      simp only [Bool.and_eq_true] at h1
      rw [List.getElem?_append_right (by omega), hl] at hv
      obtain ⟨g1, g2⟩ := own_atoms hr (fun k hk => hS k (d1 k hk)) h1.2 h2 hv
      refine ⟨AL.append (flat_al h1.1 h0) g1, ?_⟩
      simp only [leafOf, if_neg hp]
      exact g2
theorem ArgsR.len : ∀ {ps : List PK} {x : Tup ps} {vs : List Value} {Sro So : Nat → Prop}, ArgsR w Sro So ps x vs → vs.length = ps.length
  | [], _, vs, _, _, h => by rw [show vs = [] from h]; rfl
  | p :: ps, x, vs, _, _, h => by
    obtain ⟨v, vs', rfl, _, _, h⟩ := h
    simp [h.len]
theorem oneLeaf_lt : ∀ {t : Ty} {pos : Nat} {e : TypeId} {u : Ty}, oneLeaf t pos e u = true → pos < t.sz
  | .int _, _, _, _, h => by cases h
  | .bool, _, _, _, h => by cases h
  | .str, _, _, _, h => by cases h
  | .slice _ _, pos, _, _, h => by
    simp only [oneLeaf, Bool.and_eq_true, beq_iff_eq] at h
    obtain ⟨⟨rfl, _⟩, _⟩ := h
    exact Nat.one_pos
  | .pair a b, pos, _, _, h => by
    simp only [oneLeaf] at h
    simp only [Ty.sz]
    split at h
    · omega
    · simp only [Bool.and_eq_true] at h
      have := oneLeaf_lt h.2
      omega
/-- The arguments as the function finds them; no row of one's own among them. -/
theorem init_none {rec0 : ORec} {Sro So : Nat → Prop} (hro : μ[0]? = some rec0) (hr0 : rec0.ok = Sro) : ∀ {ps : List PK} {x : Tup ps} {vs : List Value}, ownI ps = none → ArgsR w Sro So ps x vs →
    ownObjs ps x = [] ∧ ∀ (i : Nat) y, (initTmps ps x)[i]? = some y → ∃ v, vs[i]? = some v ∧ TR μ w y v
  | [], x, vs, _, _ => ⟨rfl, fun i y h => by simp [initTmps] at h⟩
  | p :: ps, x, vs, ho, h => by
    obtain ⟨v, vs', rfl, hsh, hm, hrest⟩ := h
    have hp : p.own = none := by
      simp only [ownI] at ho
      split at ho
      · cases ho
      · assumption
    have ho2 : ownI ps = none := by
      simp only [ownI, hp] at ho
      exact ho
    rw [hp] at hm
    obtain ⟨g1, g2⟩ := init_none hro hr0 ho2 hrest
    refine ⟨by simp only [ownObjs, hp]; exact g1, fun i y hy => ?_⟩
    simp only [initTmps, hp] at hy
    cases i with
    | zero =>
      simp only [List.getElem?_cons_zero] at hy
      injection hy with hy
      subst hy
      exact ⟨v, rfl, packA_sound hsh (AL.of_rd hro (by rw [hr0]; exact hm))⟩
    | succ i => exact g2 i y (by simpa using hy)
theorem init_own {rec0 rec : ORec} {Sro So : Nat → Prop} (hro : μ[0]? = some rec0) (hr0 : rec0.ok = Sro) (hrec : μ[1]? = some rec) (hok : rec.ok = So) : ∀ {ps : List PK} {x : Tup ps} {vs : List Value} {q : Nat × TypeId × Ty}, ownI ps = some q → oneOwn ps = true → ownV ps vs = some rec.v → ArgsR w Sro So ps x vs →
    (∃ xs : List q.2.2.D, ownObjs ps x = [.row (giveI ps) q.2.1 q.2.2 xs] ∧ RowRep (Rep q.2.2) q.2.2.sz q.2.1 w So xs rec.v) ∧ ∀ (i : Nat) y, (initTmps ps x)[i]? = some y → ∃ v, vs[i]? = some v ∧ TR μ w y v
  | [], x, vs, q, ho, _, _, _ => by cases ho
  | p :: ps, x, vs, q, ho, h1, hv, h => by
    obtain ⟨v, vs', rfl, hsh, hm, hrest⟩ := h
    cases hp : p.own with
    | none =>
      simp only [ownI, hp] at ho
      simp only [oneOwn, hp] at h1
      simp only [ownV, hp] at hv
      rw [hp] at hm
      obtain ⟨g1, g2⟩ := init_own hro hr0 hrec hok ho h1 hv hrest
      refine ⟨by simp only [ownObjs, giveI, hp]; exact g1, fun i y hy => ?_⟩
      simp only [initTmps, hp] at hy
      cases i with
      | zero =>
        simp only [List.getElem?_cons_zero] at hy
        injection hy with hy
        subst hy
        exact ⟨v, rfl, packA_sound hsh (AL.of_rd hro (by rw [hr0]; exact hm))⟩
      | succ i => exact g2 i y (by simpa using hy)
    | some q' =>
      simp only [ownI, hp] at ho
      injection ho with ho
      subst ho
      simp only [oneOwn, hp, Option.isNone_iff_eq_none] at h1
      simp only [ownV, hp] at hv
      rw [hp] at hm
      obtain ⟨g1, g2⟩ := own_atoms (So := So) hrec (fun k hk => hk) hm.1 hm.2 hv
      obtain ⟨_, f2⟩ := init_none hro hr0 h1 hrest
      refine ⟨⟨_, by simp only [ownObjs, giveI, hp], g2⟩, fun i y hy => ?_⟩
      simp only [initTmps, hp] at hy
      cases i with
      | zero =>
        simp only [List.getElem?_cons_zero] at hy
        injection hy with hy
        subst hy
        exact ⟨v, rfl, packA_sound hsh g1⟩
      | succ i => exact f2 i y (by simpa using hy)
theorem initTmps_len : ∀ {ps : List PK} {x : Tup ps}, (initTmps ps x).length = ps.length
  | [], _ => rfl
  | p :: ps, x => by simp [initTmps, initTmps_len]
theorem ownV_some : ∀ {ps : List PK} {x : Tup ps} {vs : List Value} {q : Nat × TypeId × Ty} {Sro So : Nat → Prop}, ownI ps = some q → ArgsR w Sro So ps x vs → ∃ v, ownV ps vs = some v
  | [], _, _, _, _, _, h, _ => by cases h
  | p :: ps, x, vs, q, Sro, So, ho, h => by
    obtain ⟨v, vs', rfl, hsh, hm, hrest⟩ := h
    cases hp : p.own with
    | none =>
      simp only [ownI, hp] at ho
      simp only [ownV, hp]
      exact ownV_some ho hrest
    | some q' =>
      simp only [ownV, hp]
      rw [hp] at hm
      have h1 := oneLeaf_lt hm.1
      have h2 := hm.2.len
      exact ⟨_, List.getElem?_eq_getElem (by omega)⟩
theorem init_sound {ps : List PK} {n : Nat} {x : Tup ps} {vs : List Value} {Sro So : Nat → Prop} (h1 : oneOwn ps = true) (h : ArgsR w Sro So ps x vs) (hd : ∀ k, So k → ¬ Sro k) (hl : ∀ k, So k → k < w.heap.size) (hl2 : ∀ k, Sro k → k < w.heap.size) :
    ∃ S0 : Own, S0.ok = So ∧ (∀ k, S0.gv k → giveI ps = true ∧ So k) ∧ S0.ov = (ownV ps vs).toList ∧ S0.ov.length = noOf ps ∧ ∃ μ, Rel w S0 (initSt ps n x) μ { tmps := vs.toArray ++ Array.replicate (n - vs.toArray.size) undef, defers := [] } w := by
  have hlen := h.len
  have hun : ∀ (μ : List ORec) (i : Nat) y, (∀ (i : Nat) y, (initTmps ps x)[i]? = some y → ∃ v, vs[i]? = some v ∧ TR μ w y v) → (initTmps ps x ++ List.replicate (n - ps.length) (.sv (.at .un)))[i]? = some y → TR μ w y ((vs.toArray ++ Array.replicate (n - vs.toArray.size) undef).getD i undef) := by
    intro μ i y hI hy
    rw [List.getElem?_append] at hy
    split at hy
    · rename_i hi
      obtain ⟨v, hv, ht⟩ := hI i y hy
      have : (vs.toArray ++ Array.replicate (n - vs.toArray.size) undef).getD i undef = v := by
        rw [Array.getD_eq_getD_getElem?, Array.getElem?_append_left (by simp; exact (List.getElem?_eq_some_iff.1 hv).1)]
        simp [hv]
      rw [this]; exact ht
    · rw [List.getElem?_replicate] at hy
      split at hy
      · injection hy with hy
        subst hy
        exact ⟨trivial, .inl rfl⟩
      · cases hy
  have hsz : (vs.toArray ++ Array.replicate (n - vs.toArray.size) undef).size = (initSt ps n x).tmps.length := by
    simp [initSt, initTmps_len, hlen]
  cases ho : ownI ps with
  | none =>
    have hov : ownV ps vs = none := by
      clear hun hsz hlen
      induction ps generalizing vs with
      | nil => cases vs <;> rfl
      | cons p ps ih =>
        obtain ⟨v, vs', rfl, hsh, hm, hrest⟩ := h
        simp only [ownI] at ho
        split at ho
        · cases ho
        · rename_i hp
          simp only [ownV, hp]
          exact ih (by simpa [oneOwn, hp] using h1) hrest ho
    refine ⟨{ ok := So, ov := [] }, rfl, fun _ hf => hf.elim, by rw [hov]; rfl, by simp [noOf, ho], [⟨undef, 0, Sro⟩], ?_⟩
    obtain ⟨g1, g2⟩ := init_none (μ := [⟨undef, 0, Sro⟩]) (rec0 := ⟨undef, 0, Sro⟩) rfl rfl ho h
    refine ⟨by simp [initSt, g1], hsz, fun i y hy => hun _ i y g2 hy, fun i o r hob hr => ?_, fun i j o ri rj hij hob hw hri hrj k hk => ?_, fun i o r hob hr hw k hk => ?_, fun i e t xs r hob hr k hk => ?_, fun i r hr k hk => ?_, .refl w _, rfl, fun j v hv => by simp at hv⟩
    · simp only [initSt, g1] at hob
      cases i with
      | zero => simp at hob; subst hob; trivial
      | succ i => simp at hob
    · simp only [initSt, g1] at hob
      cases i with
      | zero => simp at hob; subst hob; cases hw
      | succ i => simp at hob
    · simp only [initSt, g1] at hob
      cases i with
      | zero => simp at hob; subst hob; cases hw
      | succ i => simp at hob
    · simp only [initSt, g1] at hob
      cases i with
      | zero => simp at hob
      | succ i => simp at hob
    · cases i with
      | zero => simp at hr; subst hr; exact hl2 k hk
      | succ i => simp at hr
  | some q =>
    obtain ⟨hv, hhv⟩ := ownV_some ho h
    refine ⟨{ ok := So, ov := [hv], gv := fun k => giveI ps = true ∧ So k, go := fun k hk => hk.2 }, rfl, fun _ hk => hk, by rw [hhv]; rfl, by simp [noOf, ho], [⟨undef, 0, Sro⟩, ⟨hv, 0, So⟩], ?_⟩
    obtain ⟨⟨xs, g1, g3⟩, g2⟩ := init_own (μ := [⟨undef, 0, Sro⟩, ⟨hv, 0, So⟩]) (rec0 := ⟨undef, 0, Sro⟩) (rec := ⟨hv, 0, So⟩) rfl rfl rfl rfl ho h1 hhv h
    refine ⟨by simp [initSt, g1], hsz, fun i y hy => hun _ i y g2 hy, fun i o r hob hr => ?_, fun i j o ri rj hij hob hw hri hrj k hk => ?_, fun i o r hob hr hw k hk => ?_, fun i e t ys r hob hr k hk => ?_, fun i r hr k hk => ?_, .refl w _, rfl, fun j v hv => ?_⟩
    · simp only [initSt, g1] at hob
      match i, hob, hr with
      | 0, hob, hr => simp at hob; subst hob; trivial
      | 1, hob, hr => simp at hob hr; subst hob hr; exact g3
      | i + 2, hob, hr => simp at hob
    · simp only [initSt, g1] at hob
      match i, hob, hri with
      | 0, hob, hri => simp at hob; subst hob; cases hw
      | 1, hob, hri =>
        simp at hri; subst hri
        match j, hrj with
        | 0, hrj => simp at hrj; subst hrj; exact hd k hk
        | 1, hrj => exact absurd rfl hij
        | j + 2, hrj => simp at hrj
      | i + 2, hob, hri => simp at hob
    · simp only [initSt, g1] at hob
      match i, hob, hr with
      | 0, hob, hr => simp at hob; subst hob; cases hw
      | 1, hob, hr => simp at hr; subst hr; exact .inl hk
      | i + 2, hob, hr => simp at hob
    · simp only [initSt, g1] at hob
      match i, hob, hr with
      | 0, hob, hr => simp at hob
      | 1, hob, hr =>
        simp at hob hr
        subst hr
        exact .inl ⟨hob.1, hk⟩
      | i + 2, hob, hr => simp at hob
    · match i, hr with
      | 0, hr => simp at hr; subst hr; exact hl2 k hk
      | 1, hr => simp at hr; subst hr; exact hl k hk
      | i + 2, hr => simp at hr
    · cases j with
      | zero => simp at hv; subst hv; exact ⟨_, rfl, rfl⟩
      | succ j => simp at hv
end
end Go.Proofs.Ytcmndffpmjinlaa.Vs

set_option linter.unusedVariables false
set_option linter.unusedSimpArgs false
namespace Go.Proofs.Ytcmndffpmjinlaa.Vs
open Go.RowKit

def resTV (T : TT) (st : St) : ResultVar → Option TV
  | .tmp t => st.tmps[t]?
  | .cell a t => match T.get t with
    | some i => match st.tmps[a]? with
      | some (.sv (.at (.ptr j f))) => match st.objs[j]? with
        | some (.box _ cells) => if f + i.ty.sz ≤ cells.length then some (mkV i ((cells.drop f).take i.ty.sz)) else none
        | _ => none
      | _ => none
    | none => none
def takeRes (T : TT) : (rs : List PK) → List ResultVar → St → Option (Tup rs × St)
  | [], [], st => some ((), st)
  | p :: rs, v :: vs, st => match resTV T st v with
    | some x => match x.cells with
      | some l => if aggOK p.agg x then match takeTree p.t st l with
          | some (y, st1) => match takeRes T rs vs st1 with
            | some (ys, st2) => some ((y, ys), st2)
            | none => none
          | none => none
        else none
      | none => none
    | none => none
  | _, _, _ => none
def resOf (T : TT) (ps rs : List PK) (vars : List ResultVar) (st : St) : Option (Tup rs × OutD) := match takeRes T rs vars st with
  | some (res, st1) => match ownI ps with
    | none => some (res, none)
    | some q => if giveI ps = true then some (res, none) else match st1.objs[1]? with
      | some (Ob.row _ e u xs) => if e = q.2.1 ∧ u = q.2.2 then some (res, some ⟨u, xs⟩) else none
      | _ => none
  | none => none
/-- A function by its own function. -/
structure FnDef where
  ps : List PK
  rs : List PK
  R : Type
  f : Nat → Tup ps → Option R
  dsp : {γ : Type} → R → (Tup rs → OutD → Option γ) → Option γ
  ret : Tup rs × OutD → Option R
  hret : ∀ {γ : Type} (b : Tup rs × OutD) (z : R) (K : Tup rs → OutD → Option γ), ret b = some z → dsp z K = K b.1 b.2
def FnDef.E (D : FnDef) : CallE where
  ps := D.ps
  rs := D.rs
  fn := fun k x K => match D.f k x with
    | some z => D.dsp z K
    | none => none
def endK {B : Type} (X : Ctx B) {R : Type} (mk : B → Option R) (st : St) : Option R := match X.res st with
  | some b => mk b
  | none => none
def fnK (D : FnDef) (X : Ctx (Tup D.rs × OutD)) (body : Code) (k : Nat) (x : Tup D.ps) : Option D.R :=
  exec X k body (initSt D.ps X.n x) (endK X D.ret) (fun _ _ => none) D.ret

section
variable {P : Program} {w w1 w0 : World} {S0 : Own} {st : St} {μ μ' : List ORec} {a : Act}
def resSem (tmps : Array Value) : ResultVar → Sem Value
  | .tmp t => pure (tmps.getD t undef)
  | .cell a t => do loadVar t (← asAddr (tmps.getD a undef))
theorem resTV_sound {T : TT} (hT : TTok P T) (h : Rel w0 S0 st μ a w) {v : ResultVar} {x : TV} (hr : resTV T st v = some x) : ∃ u, (resSem a.tmps v).run P w = .ok u w ∧ TR μ w x u := by
  cases v with
  | tmp t => exact ⟨_, rfl, h.tv t x hr⟩
  | cell ad t =>
    simp only [resTV] at hr
    split at hr
    · rename_i i hi
      split at hr
      · rename_i j f hp
        split at hr
        · rename_i e cells hob
          split at hr
          · rename_i hle
            injection hr with hr
            subst hr
            have ok := hT t i hi
            obtain ⟨rec, hrec, hv⟩ := (h.tv ad _ hp).1
            obtain ⟨h0, vs, h1, h2, h3⟩ := h.ob j _ rec hob hrec
            have hl : ((vs.drop f).take i.ty.sz).length = i.ty.sz := by rw [List.length_take, List.length_drop, h2.1]; omega
            refine ⟨packV i ((vs.drop f).take i.ty.sz), ?_, packV_tr ok.one (by simp; omega) ((h2.drop f).take i.ty.sz)⟩
            simp only [resSem, hv, Sem.run_bind, asAddr, Sem.run_pure, Result.andThen_ok]
            refine run_loadVar ok _ _ hl (fun m u hm => ?_)
            rw [add_at, cell_at h1]
            rw [List.getElem?_take] at hm
            split at hm
            · rw [List.getElem?_drop] at hm
              simpa using hm
            · cases hm
          · cases hr
        · cases hr
      · cases hr
    · cases hr
theorem takeRes_sound {T : TT} (hT : TTok P T) : ∀ {rs : List PK} {vars : List ResultVar} {st st1 : St} {μ : List ORec} {res : Tup rs}, Rel w0 S0 st μ a w → takeRes T rs vars st = some (res, st1) →
    ∃ us μ1 S, (vars.mapM (resSem a.tmps)).run P w = .ok us w ∧ ResL w rs S res us ∧ Rel w0 S0 st1 μ1 a w ∧ Less μ μ1 ∧ Taken S0 w0 w μ1 S ∧ ∀ k, S k → ∃ (i : Nat) (r : ORec), μ[i]? = some r ∧ r.ok k
  | [], [], st, st1, μ, res, h, hr => by
    simp only [takeRes] at hr
    injection hr with hr
    injection hr with h1 h2
    subst h2
    exact ⟨[], μ, fun _ => False, rfl, rfl, h, .refl μ, .none _ _ _ _, fun _ hf => hf.elim⟩
  | [], _ :: _, st, st1, μ, res, h, hr => by simp [takeRes] at hr
  | _ :: _, [], st, st1, μ, res, h, hr => by simp [takeRes] at hr
  | p :: rs, v :: vars, st, st1, μ, res, h, hr => by
    simp only [takeRes] at hr
    split at hr
    · rename_i x hx
      split at hr
      · rename_i l hl
        split at hr
        · rename_i hag
          split at hr
          · rename_i y st2 hy
            split at hr
            · rename_i ys st3 hys
              injection hr with hr
              injection hr with h1 h2
              subst h1 h2
              obtain ⟨u, hu, htr⟩ := resTV_sound hT h hx
              have hA := htr.cells_sound hl
              obtain ⟨μ1, S1, r1, l1, t1, i1, rep1⟩ := takeTree_sound h hA.al0 hy
              obtain ⟨us, μ2, S2, hus, hres, r2, l2, t2, i2⟩ := takeRes_sound hT r1 hys
              refine ⟨u :: us, μ2, fun k => S1 k ∨ S2 k, ?_, ⟨u, us, S1, S2, rfl, aggOK_sound htr hl hag, rep1, fun k hk => ⟨.inl hk, fun hk2 => ?_⟩, fun k hk => .inr hk, hres⟩, r2, l1.trans l2, ⟨fun k hk => hk.elim (t1.new k) (t2.new k), fun k hk => hk.elim (t1.lt k) (t2.lt k), fun j q hq k hk => hk.elim ((t1.less l2).apart j q hq k) (t2.apart j q hq k)⟩, fun k hk => ?_⟩
              · simp only [List.mapM_cons, Sem.run_bind, hu, Result.andThen_ok, hus, Sem.run_pure]
              · obtain ⟨j, q, hq, hqk⟩ := i2 k hk2
                exact t1.apart j q hq k hk hqk
              · rcases hk with hk | hk
                · exact i1 k hk
                · obtain ⟨j, q, hq, hqk⟩ := i2 k hk
                  obtain ⟨q0, g0, _, _, g3⟩ := l1.at_ j q hq
                  exact ⟨j, q0, g0, g3 k hqk⟩
            · cases hr
          · cases hr
        · cases hr
      · cases hr
    · cases hr
theorem results_run {fn : Func} {tmps : Array Value} {us : List Value} (h : (fn.results.toList.mapM (resSem tmps)).run P w = .ok us w) : (results fn tmps).run P w = .ok (packR us) w := by
  have he : results fn tmps = (do let vs ← fn.results.mapM (resSem tmps); pure (if h : vs.size = 1 then vs[0] else .tuple vs)) := by
    unfold results
    congr 1
  rw [he, Sem.run_bind, Array.mapM_eq_mapM_toList]
  have : ((List.toArray <$> fn.results.toList.mapM (resSem tmps)).run P w) = .ok us.toArray w := by
    rw [map_eq_pure_bind, Sem.run_bind, h]; rfl
  rw [this, Result.andThen_ok, Sem.run_pure]
  congr 1
  match us with
  | [] => rfl
  | [u] => rfl
  | u :: u' :: us => simp [packR]
theorem SoundAt.zero {D : FnDef} {f : FuncId} (he : ∀ vs w, (callFunc f vs).run P w = .ok (.enter f vs) w) (h0 : ∀ x, D.f 0 x = none) : SoundAt P 0 f D.E :=
  ⟨he, fun w Sro So x vs _ _ _ _ _ hk => by
    simp only [FnDef.E] at hk
    split at hk
    · rename_i z hz
      exact nomatch (h0 x).symm.trans hz
    · cases hk⟩
theorem run_enter {f : FuncId} {fn : Func} (hf : P.funcs[f]? = some fn) (hn : (fn.name == "runtime.NumGoroutine") = false) (hb : fn.body.isNone = false) (vs : Array Value) (w : World) : (callFunc f vs).run P w = .ok (.enter f vs) w := by
  have h2 : ¬ fn.name = "runtime.NumGoroutine" := by simpa using hn
  have h3 : ¬ fn.body = none := by intro h; rw [h] at hb; cases hb
  unfold callFunc
  simp [hf, h2, h3]
theorem fn_sound {D : FnDef} {X : Ctx (Tup D.rs × OutD)} {f : FuncId} {fn : Func} {body : Code} {k : Nat} (hX : X.res = resOf X.T D.ps D.rs fn.results.toList) (hXno : X.no = noOf D.ps) (hXn : X.n = fn.ntmps) (hf : P.funcs[f]? = some fn) (hb : fn.body = some body)
    (hn : (fn.name == "runtime.NumGoroutine") = false) (h1 : oneOwn D.ps = true) (hT : TTok P X.T) (hG : EnvOK P k X.G) (hL : LOK P X k body) (hs : ∀ x, D.f (k + 1) x = fnK D X body k x) : SoundAt P (k + 1) f D.E := by
  refine ⟨run_enter hf hn (by rw [hb]; rfl), fun {γ} {K} {r} w Sro So x vs hA hd hl hl2 hso hk => ?_⟩
  simp only [FnDef.E] at hk
  split at hk
  · rename_i z hz
    obtain ⟨S0, hS0, hgv, hov, hno, μ, h⟩ := init_sound (n := X.n) h1 hA hd hl hl2
    have hno2 : S0.ov.length = X.no := hno.trans hXno.symm
    have hz := (hs x).symm.trans hz
    rw [hXn] at h
    have hz2 : exec X k body (initSt D.ps fn.ntmps x) (endK X D.ret) (fun _ _ => none) D.ret = some z := by rw [← hXn]; exact hz
    refine calls_of_wp hf hb (Code.wp_mono (fun e a' w' hq => ?_) (exec_sound hT hG hno2 hL h hz2))
    have fin : ∀ (st1 : St) (μ1 : List ORec) (b : Tup D.rs × OutD), Rel w S0 st1 μ1 a' w' → X.res st1 = some b → D.ret b = some z → ∃ v, (results fn a'.tmps).run P w' = .ok v w' ∧ ∃ res out, K res out = some r ∧ Fin w w' So D.E vs res out v := by
      intro st1 μ1 b r1 hb2 hmk
      rw [hX] at hb2
      unfold resOf at hb2
      split at hb2
      · rename_i res st2 hres
        obtain ⟨us, μ2, S, hus, hR, r2, l2, t2, _⟩ := takeRes_sound hT r1 hres
        refine ⟨packR us, results_run hus, b.1, b.2, by rw [← D.hret b z K hmk]; exact hk, ?_⟩
        have hchg : Chg w w' So := by rw [← hS0]; exact r1.kp
        have hnew : ∀ k, S k → ((giveI D.E.ps = true ∧ So k) ∨ w.heap.size ≤ k) ∧ k < w'.heap.size := fun k hk => ⟨(t2.new k hk).imp (hgv k) id, t2.lt k hk⟩
        split at hb2
        · rename_i hown
          injection hb2 with hb2
          subst hb2
          exact ⟨hchg, S, us, hnew, rfl, hR, fun q _ hq => by rw [show ownI D.E.ps = ownI D.ps from rfl, hown] at hq; cases hq⟩
        · rename_i q hown
          split at hb2
          · rename_i hg
            injection hb2 with hb2
            subst hb2
            exact ⟨hchg, S, us, hnew, rfl, hR, fun q hf => by rw [show giveI D.E.ps = giveI D.ps from rfl, hg] at hf; cases hf⟩
          split at hb2
          · rename_i fr e u xs hob
            split at hb2
            · rename_i heu
              obtain ⟨rfl, rfl⟩ := heu
              injection hb2 with hb2
              subst hb2
              refine ⟨hchg, S, us, hnew, rfl, hR, fun q' _ hq => ?_⟩
              rw [show ownI D.E.ps = ownI D.ps from rfl, hown] at hq
              injection hq with hq
              subst hq
              obtain ⟨hv, hhv⟩ := ownV_some hown hA
              obtain ⟨rec, hrec, hrv⟩ := r2.ov 0 hv (by rw [hov, hhv]; rfl)
              refine ⟨xs, hv, rec.ok, rfl, hhv, by rw [← hrv]; exact r2.ob 1 _ rec hob hrec, fun k hk => ⟨?_, r2.lt 1 rec hrec k hk, fun hk2 => t2.apart 1 rec hrec k hk2 hk⟩⟩
              have := r2.wr 1 _ rec hob hrec rfl k hk
              rw [hS0] at this
              exact this
            · cases hb2
          · cases hb2
      · cases hb2
    cases e with
    | normal =>
      obtain ⟨st1, μ1, r1, hr1⟩ := hq
      unfold endK at hr1
      split at hr1
      · rename_i b hb2
        obtain ⟨v, g1, g2⟩ := fin st1 μ1 b r1 hb2 hr1
        exact ⟨r1.df, v, g1, g2⟩
      · cases hr1
    | ret =>
      obtain ⟨st1, μ1, b, r1, hb2, hr1⟩ := hq
      obtain ⟨v, g1, g2⟩ := fin st1 μ1 b r1 hb2 hr1
      exact ⟨r1.df, v, g1, g2⟩
    | exit id => obtain ⟨st1, μ1, r1, hr1⟩ := hq; cases hr1
    | goto l => exact False.elim hq
    | panic ch => exact False.elim hq
    | outgrown => exact False.elim hq
  · cases hk
end
end Go.Proofs.Ytcmndffpmjinlaa.Vs

set_option linter.unusedVariables false
set_option linter.unusedSimpArgs false
namespace Go.Proofs.Ytcmndffpmjinlaa.Vs
open Go.RowKit

/-! ### Types -/
section
variable {P : Program}
theorem TyOK.scal {t : TypeId} {ty : Ty} {b : Nat} {d : TypeDesc} (hi : (P.info? t).map (fun x => (x.zero, x.size, x.bytes)) = some (some (zval ⟨.scal, ty, b, false⟩), ty.sz, b)) (hb : 0 < b) (h1 : ty.sz = 1) (hd : scalDesc ty = some d) (hu : P.underlying t = some d) : TyOK P t ⟨.scal, ty, b, false⟩ :=
  ⟨hi, hb, fun _ => h1, ⟨d, hd, hu⟩, fun h => by cases h⟩
theorem TyOK.slice {t e : TypeId} {ty : Ty} {b : Nat} (hi : (P.info? t).map (fun x => (x.zero, x.size, x.bytes)) = some (some (zval ⟨.slice e, ty, b, false⟩), ty.sz, b)) (hb : 0 < b) (h1 : ty.sz = 1) (hu : P.underlying t = some (.slice e)) : TyOK P t ⟨.slice e, ty, b, false⟩ :=
  ⟨hi, hb, fun _ => h1, hu, fun h => by cases h⟩
theorem TyOK.arr {t e : TypeId} {n : Nat} {ty : Ty} {b : Nat} (hi : (P.info? t).map (fun x => (x.zero, x.size, x.bytes)) = some (some (zval ⟨.arr n e, ty, b, false⟩), ty.sz, b)) (hb : 0 < b) (hu : P.underlying t = some (.array n e)) : TyOK P t ⟨.arr n e, ty, b, false⟩ :=
  ⟨hi, hb, (fun h => by simp [TI.isAgg] at h), hu, fun h => by cases h⟩
def fieldsOK (P : Program) (fs : List (Nat × TypeId)) : Bool := fs.all fun p => match P.info? p.2 with | some x => x.size != 0 | none => false
theorem TyOK.struct {t : TypeId} {fs : List (Nat × TypeId)} {ty : Ty} {b : Nat} (hi : (P.info? t).map (fun x => (x.zero, x.size, x.bytes)) = some (some (zval ⟨.struct fs, ty, b, false⟩), ty.sz, b)) (hb : 0 < b) (hu : (P.underlying t).bind fieldsOf = some fs) (hf : fieldsOK P fs = true) : TyOK P t ⟨.struct fs, ty, b, false⟩ :=
  ⟨hi, hb, (fun h => by simp [TI.isAgg] at h), ⟨hu, fun p hp => by
    have := List.all_eq_true.1 hf p hp
    split at this
    · rename_i x hx
      exact ⟨x, hx, by simpa using this⟩
    · cases this⟩, (fun h => by cases h)⟩
/-- Fields that are all ints, each in a cell of its own, in order. -/
def intFit (P : Program) : List Field → Nat → Bool
  | [], _ => true
  | f :: fs, o => f.name != "_" && f.offset == o && (match P.underlying f.type with | some (.int .i64) => true | _ => false) && intFit P fs (o + 1)
theorem part_int {f : Field} {xs : List Int} {w : World} (hu : P.underlying f.type = some (.int .i64)) (hl : f.offset < xs.length) : (part f.type (xs.map (Value.int .i64)).toArray f.offset).run P w = .ok (.int .i64 xs[f.offset]) w := by
  unfold part
  rw [Sem.run_bind]
  have ha : (isAgg f.type).run P w = .ok false w := by unfold isAgg; rw [Sem.run_bind, run_underlying hu]; rfl
  rw [ha]
  have hg : (xs.map (Value.int .i64)).toArray[f.offset]? = some (.int .i64 xs[f.offset]) := by simp [List.getElem?_eq_getElem hl]
  simp only [Result.andThen_ok, Bool.false_eq_true, if_false, hg]
  rfl
theorem eqFields_ints {d : Nat} {xs ys : List Int} {w : World} (hxy : xs.length = ys.length) : ∀ {fs : List Field} {o : Nat}, intFit P fs o = true → o + fs.length = xs.length → (Op.eqFields (d + 1) (xs.map (Value.int .i64)).toArray (ys.map (Value.int .i64)).toArray fs).run P w = .ok (decide (xs.drop o = ys.drop o)) w
  | [], o, _, hl => by
    simp only [List.length_nil, Nat.add_zero] at hl
    rw [List.drop_of_length_le (by omega), List.drop_of_length_le (by omega)]
    simp [Op.eqFields]
  | f :: fs, o, hf, hl => by
    simp only [intFit, Bool.and_eq_true, beq_iff_eq] at hf
    obtain ⟨⟨⟨h1, h2⟩, h3⟩, h4⟩ := hf
    simp only [List.length_cons] at hl
    have hu : P.underlying f.type = some (.int .i64) := by
      split at h3
      · assumption
      · cases h3
    subst h2
    have hn : f.name ≠ "_" := by simpa using h1
    have hx := part_int (P := P) (w := w) (xs := xs) hu (by omega)
    have hy := part_int (P := P) (w := w) (xs := ys) hu (by omega)
    have ih := eqFields_ints (d := d) (w := w) hxy h4 (by omega)
    rw [Op.eqFields]
    simp only [if_pos hn, Sem.run_bind, hx, hy, run_equalIn_int w d f.type .i64 .i64 _ _ hu, Result.andThen_ok]
    rw [List.drop_eq_getElem_cons (show f.offset < xs.length by omega), List.drop_eq_getElem_cons (show f.offset < ys.length by omega)]
    by_cases he : xs[f.offset] = ys[f.offset]
    · simp only [he, beq_self_eq_true, Bool.not_true, Bool.false_eq_true, if_false, ih, List.cons.injEq, true_and]
    · have hb : (xs[f.offset] == ys[f.offset]) = false := by simpa using he
      simp only [hb, he, List.cons.injEq, false_and, decide_false, Bool.not_false, if_true]
      rfl
def eqOK (P : Program) (t : TypeId) (n : Nat) : Bool := match P.underlying t with
  | some (.struct fs) => !P.stoodInHeld t && !P.eqGuardType P.depth t && intFit P fs.toList 0 && fs.size == n
  | _ => false
theorem TyOK.structE {t : TypeId} {fs : List (Nat × TypeId)} {ty : Ty} {b : Nat} (he : eqOK P t ty.sz = true) (hi : (P.info? t).map (fun x => (x.zero, x.size, x.bytes)) = some (some (zval ⟨.struct fs, ty, b, true⟩), ty.sz, b)) (hb : 0 < b) (hu : (P.underlying t).bind fieldsOf = some fs) (hf : fieldsOK P fs = true) : TyOK P t ⟨.struct fs, ty, b, true⟩ := by
  refine ⟨hi, hb, (fun h => by simp [TI.isAgg] at h), ⟨hu, fun p hp => by
    have := List.all_eq_true.1 hf p hp
    split at this
    · rename_i x hx
      exact ⟨x, hx, by simpa using this⟩
    · cases this⟩, ?_⟩
  intro _ xs ys hx hy x y op hop w
  unfold eqOK at he
  split at he
  · rename_i gs hgs
    simp only [Bool.and_eq_true, Bool.not_eq_true', beq_iff_eq] at he
    obtain ⟨⟨⟨h1, h2⟩, h3⟩, h4⟩ := he
    simp only at hx hy
    have hfo : P.fieldsOf t = gs := by simp [Program.fieldsOf, hgs]
    have hrun : (Op.equalIn 10000 t (.agg (xs.map (Value.int .i64)).toArray) (.agg (ys.map (Value.int .i64)).toArray)).run P w = .ok (decide (xs = ys)) w := by
      rw [run_equalIn_struct (P := P) w 9999 t _ _ (by rw [hfo]; exact hgs) h1, hfo]
      have := eqFields_ints (P := P) (d := 9998) (w := w) (xs := xs) (ys := ys) (by omega) h3 (by rw [Array.length_toList, h4]; omega)
      simpa using this
    rcases hop with rfl | rfl
    · rw [Sem.run_bind, run_eqGuard_agg w .eql t x y _ _ h2]
      simp only [Result.andThen_ok, run_eql_struct, hrun, if_true]
    · rw [Sem.run_bind, run_eqGuard_agg w .neq t x y _ _ h2]
      simp only [Result.andThen_ok, run_neq_struct, hrun]
      rfl
  · cases he
theorem TTok.of {T : TT} (h : ∀ p ∈ T, TyOK P p.1 p.2) : TTok P T := by
  intro t i hi
  unfold TT.get at hi
  obtain ⟨p, hp, rfl⟩ := Option.map_eq_some_iff.1 hi
  have h1 := List.find?_some hp
  have h2 := List.mem_of_find?_eq_some hp
  have := h p h2
  rw [beq_iff_eq.1 h1] at this
  exact this
end

/-! ### Functions and loops -/
noncomputable section
def FnDef.of (ps rs : List PK) (R : Type) (f : Nat → Tup ps → Option R) (toB : R → Tup rs × OutD) (ret : Tup rs × OutD → Option R) (h : ∀ b r, ret b = some r → toB r = b) : FnDef where
  ps := ps
  rs := rs
  R := R
  f := f
  dsp := fun z K => K (toB z).1 (toB z).2
  ret := ret
  hret := fun b z K hb => by rw [h b z hb]
def LoopDef.plain {B : Type} (inp out : Spec) (Z : Type) (lp : Nat → inp.D → Option Z) (to : Z → out.D) (of : out.D → Z) (h : ∀ y, to (of y) = y) : LoopDef B where
  inp := inp
  out := out
  Z := Z
  lp := lp
  dsp := fun z KN _ => KN (to z)
  mkN := fun y => some (of y)
  mkB := fun _ => none
  hN := fun y z KN KB hz => by injection hz with hz; subst hz; rw [h]
  hB := fun b z KN KB hz => by cases hz
inductive LR (Z R : Type) where
  | go (z : Z) | ret (r : R)
def LR.on {Z R γ : Type} (z : LR Z R) (f : Z → Option γ) (g : R → Option γ) : Option γ := match z with | .go y => f y | .ret r => g r
def LoopDef.rets {B : Type} (inp out : Spec) (Z R : Type) (lp : Nat → inp.D → Option (LR Z R)) (to : Z → out.D) (of : out.D → Z) (h : ∀ y, to (of y) = y) (toB : R → B) (ret : B → Option R) (hB : ∀ b r, ret b = some r → toB r = b) : LoopDef B where
  inp := inp
  out := out
  Z := LR Z R
  lp := lp
  dsp := fun z KN KB => z.on (fun y => KN (to y)) (fun r => KB (toB r))
  mkN := fun y => some (.go (of y))
  mkB := fun b => match ret b with | some r => some (.ret r) | none => none
  hN := fun y z KN KB hz => by injection hz with hz; subst hz; simp only [LR.on, h]
  hB := fun b z KN KB hz => by
    split at hz
    · rename_i r hr
      injection hz with hz
      subst hz
      simp only [LR.on, hB b r hr]
    · cases hz
end
theorem EnvOK.nil {P : Program} {k : Nat} (h : P.follows .mixedOrders = true) : EnvOK P k [] := ⟨h, fun f E h => by cases h⟩
theorem EnvOK.cons {P : Program} {k : Nat} {f : FuncId} {E : CallE} {G : Env} (h : SoundAt P k f E) (hG : EnvOK P k G) : EnvOK P k ((f, E) :: G) := by
  refine ⟨hG.mixed, fun g E' hg => ?_⟩
  unfold Env.get at hg
  rw [List.find?_cons] at hg
  split at hg
  · rename_i hb
    have hfg : f = g := beq_iff_eq.1 hb
    simp only [Option.map_some] at hg
    injection hg with hg
    subst hfg hg
    exact h
  · exact hG.ok g E' hg
/-! ### What a piece of code needs of its loops -/
def findLoop (id : Nat) : Code → Option Code
  | .seq a b => match findLoop id a with
    | some c => some c
    | none => findLoop id b
  | .cond _ a b => match findLoop id a with
    | some c => some c
    | none => findLoop id b
  | .block i (.loop c) => if i = id then some c else findLoop id c
  | .block _ c => findLoop id c
  | .loop c => findLoop id c
  | _ => none
def needs {B : Type} (X : Ctx B) : Code → List (LoopE B × Code)
  | .seq a b => needs X a ++ needs X b
  | .cond c a b => match condE X c with
    | some E => [(E, .cond c a b)]
    | none => needs X a ++ needs X b
  | .block id c => match findE X.loops id with
    | some E => [(E, .block id c)]
    | none => needs X c
  | .region id ops true => match findE X.regs id with
    | some E => [(E, .region id ops true)]
    | none => []
  | _ => []
def AllOK {B : Type} (P : Program) (X : Ctx B) (k : Nat) (l : List (LoopE B × Code)) : Prop := ∀ p ∈ l, EOK P X k p.1 p.2
theorem AllOK.nil {B : Type} {P : Program} {X : Ctx B} {k : Nat} : AllOK P X k [] := fun p hp => by cases hp
theorem AllOK.cons {B : Type} {P : Program} {X : Ctx B} {k : Nat} {E : LoopE B} {c : Code} {l : List (LoopE B × Code)} (h : EOK P X k E c) (hl : AllOK P X k l) : AllOK P X k ((E, c) :: l) := by
  intro p hp
  rcases List.mem_cons.1 hp with rfl | hp
  · exact h
  · exact hl p hp
theorem AllOK.left {B : Type} {P : Program} {X : Ctx B} {k : Nat} {l l' : List (LoopE B × Code)} (h : AllOK P X k (l ++ l')) : AllOK P X k l := fun p hp => h p (List.mem_append.2 (.inl hp))
theorem AllOK.right {B : Type} {P : Program} {X : Ctx B} {k : Nat} {l l' : List (LoopE B × Code)} (h : AllOK P X k (l ++ l')) : AllOK P X k l' := fun p hp => h p (List.mem_append.2 (.inr hp))
theorem LOK.of {B : Type} {P : Program} {X : Ctx B} {k : Nat} : ∀ {c : Code}, AllOK P X k (needs X c) → LOK P X k c := by
  intro c
  induction c with
  | seq a b iha ihb => intro h; exact ⟨iha h.left, ihb h.right⟩
  | cond c a b iha ihb =>
    intro h
    simp only [LOK]
    simp only [needs] at h
    split
    · rename_i E hE
      rw [hE] at h
      exact h _ (List.mem_cons_self ..)
    · rename_i hE
      rw [hE] at h
      exact ⟨iha h.left, ihb h.right⟩
  | block id c ih =>
    intro h
    simp only [LOK]
    simp only [needs] at h
    split
    · rename_i E hE
      rw [hE] at h
      exact h _ (List.mem_cons_self ..)
    · rename_i hE
      rw [hE] at h
      exact ih h
  | region id ops d =>
    intro h
    cases d with
    | false => trivial
    | true =>
      simp only [LOK]
      simp only [needs] at h
      split
      · rename_i E hE
        rw [hE] at h
        exact h _ (List.mem_cons_self ..)
      · trivial
  | _ => intro _; trivial
theorem LOK.by {B : Type} {P : Program} {X : Ctx B} {k : Nat} {c : Code} (l : List (LoopE B × Code)) (h : needs X c = l) (h2 : AllOK P X k l) : LOK P X k c := LOK.of (by rw [h]; exact h2)
/-- A function is sound at every fuel. -/
theorem fn_all {P : Program} {D : FnDef} {X : Ctx (Tup D.rs × OutD)} {f : FuncId} {fn : Func} {body : Code} (hX : X.res = resOf X.T D.ps D.rs fn.results.toList) (hXno : X.no = noOf D.ps) (hXn : X.n = fn.ntmps) (hf : P.funcs[f]? = some fn) (hb : fn.body = some body)
    (hn : (fn.name == "runtime.NumGoroutine") = false) (h1 : oneOwn D.ps = true) (hT : TTok P X.T) (hG : ∀ k, EnvOK P k X.G) (hL : ∀ k, LOK P X k body) (h0 : ∀ x, D.f 0 x = none) (hs : ∀ k x, D.f (k + 1) x = fnK D X body k x) (k : Nat) : SoundAt P k f D.E := by
  cases k with
  | zero => exact .zero (run_enter hf hn (by rw [hb]; rfl)) h0
  | succ k => exact fn_sound hX hXno hXn hf hb hn h1 hT (hG k) (hL k) (hs k)
end Go.Proofs.Ytcmndffpmjinlaa.Vs

set_option linter.unusedVariables false
set_option linter.unusedSimpArgs false
namespace Go.Proofs.Ytcmndffpmjinlaa.Vs
open Go.RowKit
/-- From some fuel on, v. -/
def Ev {α : Type} (f : Nat → Option α) (v : α) : Prop := ∃ n, ∀ k, n ≤ k → f k = some v
section
variable {α β : Type} {f g : Nat → Option α} {v : α} {a : β}
theorem Ev.some (v : α) : Ev (fun _ => some v) v := ⟨0, fun _ _ => rfl⟩
theorem Ev.of {x : Option α} (h : x = Option.some v) : Ev (fun _ => x) v := ⟨0, fun _ _ => h⟩
theorem Ev.succ (h : Ev (fun k => f (k + 1)) v) : Ev f v := by
  obtain ⟨n, h⟩ := h
  refine ⟨n + 1, fun k hk => ?_⟩
  obtain ⟨m, rfl⟩ : ∃ m, k = m + 1 := ⟨k - 1, by omega⟩
  exact h m (by omega)
theorem Ev.bind {x : Nat → Option β} {y : β → Nat → Option α} (h : Ev x a) (h2 : Ev (y a) v) : Ev (fun k => Option.bind (x k) fun z => y z k) v := by
  obtain ⟨n, h⟩ := h
  obtain ⟨m, h2⟩ := h2
  exact ⟨max n m, fun k hk => by show Option.bind (x k) _ = _; rw [h k (by omega)]; exact h2 k (by omega)⟩
theorem Ev.ite {c : Prop} [Decidable c] (h1 : c → Ev f v) (h2 : ¬ c → Ev g v) : Ev (fun k => if c then f k else g k) v := by
  by_cases hc : c
  · simp only [if_pos hc]; exact h1 hc
  · simp only [if_neg hc]; exact h2 hc
theorem Ev.go {Z R : Type} {z : Z} {x : Z → Nat → Option α} {y : R → Nat → Option α} (h : Ev (x z) v) : Ev (fun k => LR.on (LR.go z : LR Z R) (fun a => x a k) (fun r => y r k)) v := h
theorem Ev.ret {Z R : Type} {r : R} {x : Z → Nat → Option α} {y : R → Nat → Option α} (h : Ev (y r) v) : Ev (fun k => LR.on (LR.ret r : LR Z R) (fun a => x a k) (fun r => y r k)) v := h
theorem Ev.congr (h : Ev f v) {w : α} (hw : v = w) : Ev f w := hw ▸ h
theorem Ev.at (h : Ev f v) : ∃ k, f k = Option.some v := by obtain ⟨n, h⟩ := h; exact ⟨n, h n (Nat.le_refl _)⟩
end
theorem w64 {n : Int} (h1 : -9223372036854775808 ≤ n) (h2 : n ≤ 9223372036854775807) : wrap64 n = n := by unfold wrap64; omega
/-! ### Lists by their parts -/
section
variable {α : Type}
theorem getD_mid (pre : List α) (x : α) (r : List α) (d : α) : List.getD (pre ++ x :: r) pre.length d = x := by simp [List.getD]
theorem set_mid (pre : List α) (x y : α) (r : List α) : List.set (pre ++ x :: r) pre.length y = pre ++ y :: r := by simp
theorem lt_mid (pre : List α) (x : α) (r : List α) : (pre.length : Int) < ((pre ++ x :: r).length : Int) := by simp; omega
theorem ge_mid (pre : List α) : (0 : Int) ≤ (pre.length : Int) := Int.natCast_nonneg _
theorem nlt_end (pre : List α) : ¬ (pre.length : Int) < ((pre ++ ([] : List α)).length : Int) := by simp
theorem next_mid (pre : List α) (x : α) (r : List α) (h : (pre ++ x :: r).length ≤ 9223372036854775806) : wrap64 ((pre.length : Int) + 1) = ((pre ++ [x]).length : Int) := by
  simp only [List.length_append, List.length_cons, List.length_nil] at h ⊢
  rw [w64 (by omega) (by omega)]
  omega
theorem shift_mid (pre : List α) (x : α) (r : List α) : pre ++ x :: r = (pre ++ [x]) ++ r := by simp
end
end Go.Proofs.Ytcmndffpmjinlaa.Vs

set_option linter.unusedVariables false
set_option linter.unusedSimpArgs false
namespace Go.Proofs.Ytcmndffpmjinlaa.Vs
open Go.RowKit Go.ChangeShapes Go.WideShapes Go.Deep

/-! ### Types by their descriptions -/
def nestTy : List Ty → Ty
  | [] => .bool
  | [u] => u
  | u :: v :: r => .pair u (nestTy (v :: r))
def szs (l : List Ty) : Nat := (l.map Ty.sz).sum
inductive Deep (P : Program) : TypeId → Ty → Prop
  | int {t : TypeId} {k : IntKind} (h : P.underlying t = some (.int k)) : Deep P t (.int k)
  | bool {t : TypeId} (h : P.underlying t = some .bool) : Deep P t .bool
  | str {t : TypeId} (h : P.underlying t = some .string) : Deep P t .str
  | slice {t e : TypeId} {u : Ty} (h : P.underlying t = some (.slice e)) (hc : P.cellsOf e = u.sz) (hu : Deep P e u) : Deep P t (.slice e u)
  | struct {t : TypeId} {fs : Array Field} (l : List Ty) (h : P.underlying t = some (.struct fs)) (hn : l ≠ []) (hl : l.length = fs.size) (hc : P.cellsOf t = szs l)
      (ho : ∀ (i : Nat) f u, fs[i]? = some f → l[i]? = some u → f.offset = szs (l.take i) ∧ P.cellsOf f.type = u.sz) (hf : ∀ (i : Nat) f u, fs[i]? = some f → l[i]? = some u → Deep P f.type u) : Deep P t (nestTy l)
/-- The fields of a struct, as a check. -/
def fieldsFit (P : Program) : List Field → List Ty → Nat → Bool
  | [], [], _ => true
  | f :: fs, u :: l, o => f.offset == o && P.cellsOf f.type == u.sz && fieldsFit P fs l (o + u.sz)
  | _, _, _ => false
/-- The fields' types, one by one. -/
def FieldsDeep (P : Program) : List Field → List Ty → Prop
  | f :: fs, u :: l => Deep P f.type u ∧ FieldsDeep P fs l
  | _, _ => True
theorem fieldsFit_at {P : Program} : ∀ {fs : List Field} {l : List Ty} {o : Nat}, fieldsFit P fs l o = true → l.length = fs.length ∧ ∀ (i : Nat) f u, fs[i]? = some f → l[i]? = some u → f.offset = o + szs (l.take i) ∧ P.cellsOf f.type = u.sz
  | [], [], _, _ => ⟨rfl, fun i f u h => by simp at h⟩
  | f :: fs, [], _, h => by cases h
  | [], u :: l, _, h => by cases h
  | f :: fs, u :: l, o, h => by
    simp only [fieldsFit, Bool.and_eq_true, beq_iff_eq] at h
    obtain ⟨⟨h1, h2⟩, h3⟩ := h
    obtain ⟨g1, g2⟩ := fieldsFit_at h3
    refine ⟨by simp [g1], fun i f' u' hf hu => ?_⟩
    cases i with
    | zero =>
      simp at hf hu
      subst hf; subst hu
      exact ⟨by simpa [szs] using h1, h2⟩
    | succ i =>
      simp only [List.getElem?_cons_succ] at hf hu
      obtain ⟨k1, k2⟩ := g2 i f' u' hf hu
      exact ⟨by rw [k1]; simp [szs, Nat.add_assoc], k2⟩
theorem fieldsDeep_at {P : Program} : ∀ {fs : List Field} {l : List Ty}, FieldsDeep P fs l → ∀ (i : Nat) f u, fs[i]? = some f → l[i]? = some u → Deep P f.type u
  | [], _, _, i, f, u, hf, _ => by simp at hf
  | _ :: _, [], _, i, f, u, _, hu => by simp at hu
  | f :: fs, u :: l, h, i, f', u', hf, hu => by
    cases i with
    | zero =>
      simp at hf hu
      subst hf; subst hu
      exact h.1
    | succ i =>
      simp only [List.getElem?_cons_succ] at hf hu
      exact fieldsDeep_at h.2 i f' u' hf hu
theorem Deep.mk {P : Program} {t : TypeId} {fs : Array Field} (l : List Ty) (h : P.underlying t = some (.struct fs)) (hn : l ≠ []) (hc : P.cellsOf t = szs l) (hx : fieldsFit P fs.toList l 0 = true) (hd : FieldsDeep P fs.toList l) : Deep P t (nestTy l) := by
  obtain ⟨h1, h2⟩ := fieldsFit_at hx
  refine .struct l h hn (by simpa using h1) hc (fun i f u hf hu => ?_) (fun i f u hf hu => fieldsDeep_at hd i f u (by simpa using hf) hu)
  obtain ⟨g1, g2⟩ := h2 i f u (by simpa using hf) hu
  exact ⟨by simpa using g1, g2⟩

def structTys (P : Program) (t : TypeId) (l : List Ty) : Option (List TypeId) := match P.underlying t with
  | some (.struct fs) => if fieldsFit P fs.toList l 0 && P.cellsOf t == szs l then some (fs.toList.map Field.type) else none
  | _ => none
def TysDeep (P : Program) : List TypeId → List Ty → Prop
  | [], [] => True
  | t :: ts, u :: us => Deep P t u ∧ TysDeep P ts us
  | _, _ => False
theorem tysDeep_fields {P : Program} : ∀ {fs : List Field} {l : List Ty}, TysDeep P (fs.map Field.type) l → FieldsDeep P fs l
  | [], _, _ => by unfold FieldsDeep; trivial
  | f :: fs, [], h => h.elim
  | f :: fs, u :: l, h => ⟨h.1, tysDeep_fields h.2⟩
theorem Deep.st {P : Program} {t : TypeId} (l : List Ty) {tys : List TypeId} (hn : l ≠ []) (h : structTys P t l = some tys) (hd : TysDeep P tys l) : Deep P t (nestTy l) := by
  unfold structTys at h
  split at h
  · rename_i fs hfs
    split at h
    · rename_i hc
      simp only [Bool.and_eq_true, beq_iff_eq] at hc
      injection h with h
      subst h
      exact .mk l hfs hn hc.2 hc.1 (tysDeep_fields hd)
    · cases h
  · cases h
def isStruct (P : Program) (t : TypeId) : Bool := match P.underlying t with
  | some (.struct _) => true
  | _ => false
/-- What is known of a datum that can be read: numbers in range, no length beyond the greatest. -/
def Wf : (t : Ty) → t.D → Prop
  | .int k, n => (Lit.int k n).wf = true
  | .bool, _ => True
  | .str, s => s.size ≤ maxLen
  | .pair a b, x => Wf a x.1 ∧ Wf b x.2
  | .slice _ t, xs => xs.length ≤ maxLen ∧ ∀ x ∈ xs, Wf t x
section
variable {P : Program} {w : World}
theorem szs_cons (u : Ty) (l : List Ty) : szs (u :: l) = u.sz + szs l := by simp [szs]
theorem open_nest {S : Nat → Prop} : ∀ (l : List Ty), l ≠ [] → ∀ (cs : List Value), cs.length = szs l → (∀ (i : Nat) u, l[i]? = some u → ∃ x : u.D, Wf u x ∧ Rd u w S x ((cs.drop (szs (l.take i))).take u.sz)) → ∃ x : (nestTy l).D, Wf (nestTy l) x ∧ Rd (nestTy l) w S x cs
  | [], h, _, _, _ => absurd rfl h
  | [u], _, cs, hl, h => by
    obtain ⟨x, h1, h2⟩ := h 0 u rfl
    refine ⟨x, h1, ?_⟩
    have : (cs.drop (szs ([u].take 0))).take u.sz = cs := by
      simp only [List.take_zero, szs, List.map_nil, List.sum_nil, List.drop_zero]
      exact List.take_of_length_le (by rw [hl]; simp [szs])
    rw [this] at h2
    exact h2
  | u :: v :: r, _, cs, hl, h => by
    rw [szs_cons] at hl
    obtain ⟨x, h1, h2⟩ := h 0 u rfl
    have hx : (cs.drop (szs ((u :: v :: r).take 0))).take u.sz = cs.take u.sz := by simp [szs]
    rw [hx] at h2
    obtain ⟨y, g1, g2⟩ := open_nest (v :: r) (by simp) (cs.drop u.sz) (by simp; omega) (fun i u' hu => by
      obtain ⟨z, k1, k2⟩ := h (i + 1) u' hu
      refine ⟨z, k1, ?_⟩
      rw [List.take_succ_cons, szs_cons, ← List.drop_drop] at k2
      exact k2)
    exact ⟨(x, y), ⟨h1, g1⟩, cs.take u.sz, cs.drop u.sz, (List.take_append_drop _ _).symm, h2, g2⟩
/-- The blocks that a reading met. -/
def blocksOf (ps : List MemPlace) (k : Nat) : Prop := ∃ p ∈ ps, p.block = k
variable {H : Type} {enc : TypeId × Value → H}
theorem open_deep : ∀ (t : TypeId) (u : Ty), Deep P t u → ∀ (fuel : Nat) (cs : List Value) (d : DataW H) (ps : List MemPlace), DataW.trod enc P w 0 (fun _ => true) true fuel t cs = some (d, ps) → ∃ x : u.D, Wf u x ∧ Rd u w (blocksOf ps) x cs := by
  intro t u h
  induction h with
  | @int t k h =>
    intro fuel cs d ps hd
    obtain ⟨n, h1, hx, hw⟩ := DataW.trod_int h hd
    exact ⟨n, hw, h1⟩
  | @bool t h =>
    intro fuel cs d ps hd
    obtain ⟨b, h1, hx⟩ := DataW.trod_bool h hd
    exact ⟨b, trivial, h1⟩
  | @str t h =>
    intro fuel cs d ps hd
    obtain ⟨s, h1, hx, hs⟩ := DataW.trod_string h hd
    exact ⟨s, hs, h1⟩
  | @slice t e u h hc hu ih =>
    intro fuel cs d ps hd
    rcases open_slice h hd with ⟨rfl, hx⟩ | ⟨a, len, cap, m, n, D, Pl, rfl, hb, hl, hm, hmm, hx, hel⟩
    · exact ⟨[], ⟨Nat.zero_le _, fun x hx => by simp at hx⟩, _, rfl, none, 0, rfl, Nat.le_refl _, by simp, fun h0 => by simp at h0⟩
    · rw [if_pos rfl] at hmm
      subst hmm
      injection hx with hx1 hx2
      have hel2 : ∀ i, i < len → ∃ x : u.D, Wf u x ∧ ∃ cs' : List Value, cs'.length = u.sz ∧ (∀ j v, cs'[j]? = some v → w.cell? (a.add (i * u.sz + j)) = some v) ∧ Rd u w (blocksOf ps) x cs' := by
        intro i hi
        obtain ⟨cs', h1, h2⟩ := hel i (by omega)
        obtain ⟨_, hlen, hcell⟩ := World.cells?_some h1
        obtain ⟨x, hw, hr⟩ := ih _ _ _ _ h2
        rw [hc] at hlen hcell
        refine ⟨x, hw, cs', hlen, fun j v hv => ?_, hr.wide (fun k ⟨p, hp, hk⟩ => ⟨p, ?_, hk⟩)⟩
        · have hj : j < u.sz := by rw [← hlen]; exact (List.getElem?_eq_some_iff.1 hv).1
          have := hcell j hj
          rw [add_at'] at this
          rw [this, hv]
        · rw [hx2]
          refine List.mem_append.2 (.inr (List.mem_flatMap.2 ⟨i, List.mem_range.2 (by omega), hp⟩))
      have hz : Nonempty u.D := ⟨u.zero⟩
      obtain ⟨f, hf⟩ := @choose_lt u.D ⟨u.zero⟩ len (fun i x => Wf u x ∧ ∃ cs' : List Value, cs'.length = u.sz ∧ (∀ j v, cs'[j]? = some v → w.cell? (a.add (i * u.sz + j)) = some v) ∧ Rd u w (blocksOf ps) x cs') hel2
      refine ⟨(List.range len).map f, ⟨by simp; omega, fun x hx => ?_⟩, _, rfl, some a, m, by simp, by simpa using hl, by simp [maxLen] at hm ⊢; omega, fun h0 => ⟨a, rfl, ?_, fun j x hj => ?_⟩⟩
      · obtain ⟨i, hi, rfl⟩ := List.mem_map.1 hx
        exact (hf i (List.mem_range.1 hi)).1
      · simp at h0
        refine ⟨.cell a.block (a.off + 0), ?_, rfl⟩
        rw [hx2]
        refine List.mem_append.2 (.inl (List.mem_map.2 ⟨0, List.mem_range.2 ?_, rfl⟩))
        have := u.sz_pos
        rw [hc]
        exact Nat.mul_pos (by omega) this
      · rw [List.getElem?_map] at hj
        obtain ⟨i, hi, rfl⟩ := Option.map_eq_some_iff.1 hj
        have hlt : j < len := by simpa using (List.getElem?_eq_some_iff.1 hi).1
        rw [List.getElem?_range hlt] at hi
        injection hi with hi
        subst hi
        exact (hf j hlt).2
  | @struct t fs l h hn hl hc ho hf ih =>
    intro fuel cs d ps hd
    obtain ⟨xs, n, rfl, hx, hlen, hxl, hfl⟩ := DataW.trod_struct h hd
    injection hx with hx1 hx2
    refine open_nest l hn cs (by rw [hlen, hc]) (fun i u hu => ?_)
    have hi : i < fs.size := by rw [← hl]; exact (List.getElem?_eq_some_iff.1 hu).1
    have hfi : fs[i]? = some fs[i] := Array.getElem?_eq_getElem hi
    obtain ⟨o1, o2⟩ := ho i _ u hfi hu
    have h2 := hfl i _ hfi
    have hxi : i < xs.length := by omega
    rw [List.getElem?_eq_getElem hxi, o1, o2] at h2
    obtain ⟨x, hw, hr⟩ := ih i _ u hfi hu n _ _ _ h2
    exact ⟨x, hw, hr.wide (fun k ⟨p, hp, hk⟩ => ⟨p, by rw [hx2]; exact List.mem_flatMap.2 ⟨_, List.getElem_mem hxi, hp⟩, hk⟩)⟩

/-! ### All arguments -/
inductive ParOK (P : Program) : List TypeId → List PK → Prop
  | nil : ParOK P [] []
  | cell {t : TypeId} {ts : List TypeId} {u : Ty} {ps : List PK} (h : Deep P t u) (hs : ∀ fs, P.underlying t ≠ some (.struct fs)) (hr : ParOK P ts ps) : ParOK P (t :: ts) (⟨u, false, none, false⟩ :: ps)
  | agg {t : TypeId} {ts : List TypeId} {u : Ty} {ps : List PK} {fs : Array Field} (h : Deep P t u) (hs : P.underlying t = some (.struct fs)) (hr : ParOK P ts ps) : ParOK P (t :: ts) (⟨u, true, none, false⟩ :: ps)
theorem ParOK.c {P : Program} {t : TypeId} {ts : List TypeId} {u : Ty} {ps : List PK} (h : Deep P t u) (hs : isStruct P t = false) (hr : ParOK P ts ps) : ParOK P (t :: ts) (⟨u, false, none, false⟩ :: ps) :=
  .cell h (fun fs he => by unfold isStruct at hs; rw [he] at hs; cases hs) hr
theorem ParOK.a {P : Program} {t : TypeId} {ts : List TypeId} {u : Ty} {ps : List PK} (h : Deep P t u) (hs : isStruct P t = true) (hr : ParOK P ts ps) : ParOK P (t :: ts) (⟨u, true, none, false⟩ :: ps) := by
  unfold isStruct at hs
  split at hs
  · rename_i fs hfs; exact .agg h hfs hr
  · cases hs
def WfT : (ps : List PK) → Tup ps → Prop
  | [], _ => True
  | p :: ps, x => Wf p.t x.1 ∧ WfT ps x.2
theorem shaped_cell {W : World} {r : Reach} {b0 : Nat} {t : TypeId} {u : Ty} {v : Value} (h : Deep P t u) (hs : ∀ fs, P.underlying t ≠ some (.struct fs)) (hv : Value.okWide P W r b0 t v) : v.cells = #[v] := by
  cases h with
  | int h => obtain ⟨n, rfl⟩ := okWide_int h hv; rfl
  | bool h => obtain ⟨n, rfl⟩ := okWide_bool h hv; rfl
  | str h => obtain ⟨n, rfl⟩ := okWide_string h hv; rfl
  | slice h _ _ => obtain ⟨a, l, c, rfl⟩ := okWide_slice h hv; rfl
  | struct l h => exact absurd h (hs _)
theorem args_open {W : World} {r : Reach} {b0 : Nat} : ∀ (ts : List TypeId) (pks : List PK), ParOK P ts pks → ∀ {vs : List Value} {ds : List (DataW H)} {ps : List MemPlace}, DataW.TrodAll enc P W 0 (fun _ => true) true ts vs ds ps →
    (∀ (j : Nat) t v, ts[j]? = some t → vs[j]? = some v → Value.okWide P W r b0 t v) → ∃ x : Tup pks, WfT pks x ∧ ArgsR W (blocksOf ps) (fun _ => False) pks x vs := by
  intro ts pks h
  induction h with
  | nil =>
    intro vs ds ps h hv
    obtain ⟨rfl, rfl, rfl⟩ := trodAll_nil h
    exact ⟨(), trivial, rfl⟩
  | @cell t ts u pks hd hs hr ih =>
    intro vs ds ps h hv
    obtain ⟨v, vs', d, ds', p, q, rfl, rfl, rfl, h1, h2⟩ := trodAll_cons h
    obtain ⟨y, g1, g2⟩ := ih h2 (fun j t' v' ht hv' => hv (j + 1) t' v' ht hv')
    obtain ⟨fuel, hf⟩ := h1
    obtain ⟨x, k1, k2⟩ := open_deep _ _ hd fuel _ _ _ hf
    refine ⟨(x, y), ⟨k1, g1⟩, v, vs', rfl, ?_, k2.wide (fun k ⟨p', hp, hk⟩ => ⟨p', List.mem_append.2 (.inl hp), hk⟩), ?_⟩
    · show (if (false = true) then _ else _)
      rw [if_neg (by simp)]
      exact shaped_cell hd hs (hv 0 t v rfl rfl)
    · exact argsR_wide g2 (fun k ⟨p', hp, hk⟩ => ⟨p', List.mem_append.2 (.inr hp), hk⟩)
  | @agg t ts u pks fs hd hs hr ih =>
    intro vs ds ps h hv
    obtain ⟨v, vs', d, ds', p, q, rfl, rfl, rfl, h1, h2⟩ := trodAll_cons h
    obtain ⟨y, g1, g2⟩ := ih h2 (fun j t' v' ht hv' => hv (j + 1) t' v' ht hv')
    obtain ⟨fuel, hf⟩ := h1
    obtain ⟨x, k1, k2⟩ := open_deep _ _ hd fuel _ _ _ hf
    refine ⟨(x, y), ⟨k1, g1⟩, v, vs', rfl, ?_, k2.wide (fun k ⟨p', hp, hk⟩ => ⟨p', List.mem_append.2 (.inl hp), hk⟩), ?_⟩
    · show (if (true = true) then _ else _)
      rw [if_pos rfl]
      obtain ⟨cs, h3, _⟩ := okWide_struct hs (hv 0 t v rfl rfl)
      exact ⟨cs, h3⟩
    · exact argsR_wide g2 (fun k ⟨p', hp, hk⟩ => ⟨p', List.mem_append.2 (.inr hp), hk⟩)
where argsR_wide {W : World} {S S' So : Nat → Prop} : ∀ {pks : List PK} {x : Tup pks} {vs : List Value}, ArgsR W S So pks x vs → (∀ k, S k → S' k) → ArgsR W S' So pks x vs
  | [], _, _, h, _ => h
  | p :: pks, x, vs, h, hS => by
    obtain ⟨v, vs', rfl, h1, h2, h3⟩ := h
    refine ⟨v, vs', rfl, h1, ?_, argsR_wide h3 hS⟩
    split
    · rename_i ho
      rw [ho] at h2
      exact h2.wide hS
    · rename_i q ho
      rw [ho] at h2
      exact h2
theorem trodAll_below (hl : laidOutB P = true) {W W' : World} (hb : Below W.heap.size W W') : ∀ {ts : List TypeId} {vs : List Value} {ds : List (DataW H)} {ps : List MemPlace}, (ts.all fun t => P.readableRec t && decide (t < P.types.size)) = true → DataW.TrodAll enc P W 0 (fun _ => true) true ts vs ds ps → (∀ x ∈ ps, x.block < W.heap.size) →
    DataW.TrodAll enc P W' 0 (fun b => decide (b < W.heap.size)) true ts vs ds ps
  | [], vs, ds, ps, _, h, _ => by
    obtain ⟨rfl, rfl, rfl⟩ := trodAll_nil h
    exact trodAll_mk0
  | t :: ts, vs, ds, ps, ht, h, hlt => by
    simp only [List.all_cons, Bool.and_eq_true, decide_eq_true_eq] at ht
    obtain ⟨v, vs', d, ds', p, q, rfl, rfl, rfl, h1, h2⟩ := trodAll_cons h
    exact trodAll_cons_mk (Below.trod hl ht.1.1 ht.1.2 h1 hb (fun x hx => hlt x (List.mem_append.2 (.inl hx)))) (trodAll_below hl hb (by simpa using ht.2) h2 (fun x hx => hlt x (List.mem_append.2 (.inr hx))))
theorem trodAll_lt {W : World} : ∀ {ts : List TypeId} {vs : List Value} {ds : List (DataW H)} {ps : List MemPlace}, DataW.TrodAll enc P W 0 (fun _ => true) true ts vs ds ps → ∀ x ∈ ps, x.block < W.heap.size
  | [], vs, ds, ps, h, x, hx => by
    obtain ⟨rfl, rfl, rfl⟩ := trodAll_nil h
    cases hx
  | t :: ts, vs, ds, ps, h, x, hx => by
    obtain ⟨v, vs', d, ds', p, q, rfl, rfl, rfl, h1, h2⟩ := trodAll_cons h
    rcases List.mem_append.1 hx with hx | hx
    · obtain ⟨m, hm⟩ := h1
      exact DataW.trod_lt m _ _ _ hm x hx
    · exact trodAll_lt h2 x hx

theorem E_at {D : FnDef} {k : Nat} {x : Tup D.ps} {z : D.R} (h : D.f k x = some z) {γ : Type} (K : Tup D.rs → OutD → Option γ) : D.E.fn k x K = D.dsp z K := by
  show (match D.f k x with | some z => D.dsp z K | none => none) = _
  rw [h]
/-! ### A law's contract: it returns true, and the world that was there stays. -/
def yes {E : Type} (res : Bool × Unit) (_ : E) : Option Unit := if res.1 = true then some () else none
theorem law_calls {f : FuncId} {ts : List TypeId} {pks : List PK} {fn : {γ : Type} → Nat → Tup pks → (Tup [⟨.bool, false, none, false⟩] → OutD → Option γ) → Option γ}
    (hs : ∀ k, SoundAt P k f ⟨pks, [⟨.bool, false, none, false⟩], fn⟩) (hp : ParOK P ts pks) (hno : ownI pks = none) (hlaw : ∀ x : Tup pks, WfT pks x → ∃ k, fn k x yes = some ())
    {W : World} {base : Nat} {args : Array Value} {ds : List (DataW H)} {ps : List MemPlace} (hA : DataW.TrodAll enc P W 0 (fun _ => true) true ts args.toList ds ps) (hval : ∀ (j : Nat) t v, ts[j]? = some t → args[j]? = some v → Value.okWide P W .any base t v) :
    Calls P f args W fun e W' => e = .returned (.bool true) ∧ Below W.heap.size W W' := by
  obtain ⟨x, hw, hx⟩ := args_open _ _ hp hA (r := .any) (b0 := base) (fun j t v ht hv => hval j t v ht (by simpa using hv))
  obtain ⟨k, hk⟩ := hlaw x hw
  have hlt := trodAll_lt hA
  have := (hs k).calls (K := yes) (r := ()) W _ _ x _ hx (fun _ hf => hf.elim) (fun _ hf => hf.elim) (fun k' ⟨p, hp', hk'⟩ => by rw [← hk']; exact hlt p hp') (fun _ _ hf => hf) hk
  rw [Array.toArray_toList] at this
  refine this.mono fun e W' he => ?_
  cases e with
  | returned v =>
    obtain ⟨res, out, hy, hF⟩ := he
    obtain ⟨Sr, us, _, rfl, hres, _⟩ := hF.res
    obtain ⟨u, us', S1, S2, rfl, hsh, hrep, _, _, hnil⟩ := hres
    obtain rfl : us' = [] := hnil
    refine ⟨?_, hF.chg.below (fun _ hf => hf)⟩
    have hsh2 : u.cells = #[u] := by
      have := hsh
      unfold Shaped at this
      rw [if_neg (by simp)] at this
      exact this
    have hr1 : res.1 = true := by
      unfold yes at hy
      split at hy
      · assumption
      · cases hy
    have hrep2 : u.cells.toList = [.bool res.1] := hrep
    rw [hsh2] at hrep2
    simp at hrep2
    rw [hrep2, hr1]
    rfl
  | panicked c => exact False.elim he
  | outgrown => exact False.elim he
end
end Go.Proofs.Ytcmndffpmjinlaa.Vs

set_option maxRecDepth 100000
namespace Go.Proofs.Ytcmndffpmjinlaa.Vs
open Go.RowKit
noncomputable section
def i3 : TI := ⟨.scal, .int Go.IntKind.i64, 8, false⟩
theorem t3 : TyOK Try.prog 3 i3 := .scal (by kernel_rfl) (by decide) rfl rfl (by kernel_rfl)
theorem dp3 : Deep Try.prog 3 (.int Go.IntKind.i64) := .int (by kernel_rfl)
def i4 : TI := ⟨.scal, .bool, 1, false⟩
theorem t4 : TyOK Try.prog 4 i4 := .scal (by kernel_rfl) (by decide) rfl rfl (by kernel_rfl)
def i25 : TI := ⟨.slice 3, .slice 3 (.int Go.IntKind.i64), 24, false⟩
theorem t25 : TyOK Try.prog 25 i25 := .slice (by kernel_rfl) (by decide) rfl (by kernel_rfl)
theorem dp25 : Deep Try.prog 25 (.slice 3 (.int Go.IntKind.i64)) := .slice (by kernel_rfl) (by kernel_rfl) dp3
def i95 : TI := ⟨.struct [(0, 3), (1, 3), (2, 3), (3, 3)], .pair (.int Go.IntKind.i64) (.pair (.int Go.IntKind.i64) (.pair (.int Go.IntKind.i64) (.int Go.IntKind.i64))), 32, true⟩
theorem t95 : TyOK Try.prog 95 i95 := .structE (by kernel_rfl) (by kernel_rfl) (by decide) (by kernel_rfl) (by kernel_rfl)
def i39 : TI := ⟨.slice 95, .slice 95 (.pair (.int Go.IntKind.i64) (.pair (.int Go.IntKind.i64) (.pair (.int Go.IntKind.i64) (.int Go.IntKind.i64)))), 24, false⟩
theorem t39 : TyOK Try.prog 39 i39 := .slice (by kernel_rfl) (by decide) rfl (by kernel_rfl)
def i41 : TI := ⟨.struct [(0, 25), (1, 39)], .pair (.slice 3 (.int Go.IntKind.i64)) (.slice 95 (.pair (.int Go.IntKind.i64) (.pair (.int Go.IntKind.i64) (.pair (.int Go.IntKind.i64) (.int Go.IntKind.i64))))), 48, false⟩
theorem t41 : TyOK Try.prog 41 i41 := .struct (by kernel_rfl) (by decide) (by kernel_rfl) (by kernel_rfl)
def i81 : TI := ⟨.struct [(0, 3), (1, 3), (2, 3), (3, 3)], .pair (.int Go.IntKind.i64) (.pair (.int Go.IntKind.i64) (.pair (.int Go.IntKind.i64) (.int Go.IntKind.i64))), 32, true⟩
theorem t81 : TyOK Try.prog 81 i81 := .structE (by kernel_rfl) (by kernel_rfl) (by decide) (by kernel_rfl) (by kernel_rfl)
def i44 : TI := ⟨.slice 81, .slice 81 (.pair (.int Go.IntKind.i64) (.pair (.int Go.IntKind.i64) (.pair (.int Go.IntKind.i64) (.int Go.IntKind.i64)))), 24, false⟩
theorem t44 : TyOK Try.prog 44 i44 := .slice (by kernel_rfl) (by decide) rfl (by kernel_rfl)
def i46 : TI := ⟨.struct [(0, 25), (1, 44)], .pair (.slice 3 (.int Go.IntKind.i64)) (.slice 81 (.pair (.int Go.IntKind.i64) (.pair (.int Go.IntKind.i64) (.pair (.int Go.IntKind.i64) (.int Go.IntKind.i64))))), 48, false⟩
theorem t46 : TyOK Try.prog 46 i46 := .struct (by kernel_rfl) (by decide) (by kernel_rfl) (by kernel_rfl)
def i50 : TI := ⟨.slice 25, .slice 25 (.slice 3 (.int Go.IntKind.i64)), 24, false⟩
theorem t50 : TyOK Try.prog 50 i50 := .slice (by kernel_rfl) (by decide) rfl (by kernel_rfl)
def i100 : TI := ⟨.struct [(0, 3), (1, 3)], .pair (.int Go.IntKind.i64) (.int Go.IntKind.i64), 16, true⟩
theorem t100 : TyOK Try.prog 100 i100 := .structE (by kernel_rfl) (by kernel_rfl) (by decide) (by kernel_rfl) (by kernel_rfl)
def i59 : TI := ⟨.slice 100, .slice 100 (.pair (.int Go.IntKind.i64) (.int Go.IntKind.i64)), 24, false⟩
theorem t59 : TyOK Try.prog 59 i59 := .slice (by kernel_rfl) (by decide) rfl (by kernel_rfl)
def i61 : TI := ⟨.struct [(0, 3), (1, 3), (2, 59)], .pair (.int Go.IntKind.i64) (.pair (.int Go.IntKind.i64) (.slice 100 (.pair (.int Go.IntKind.i64) (.int Go.IntKind.i64)))), 40, false⟩
theorem t61 : TyOK Try.prog 61 i61 := .struct (by kernel_rfl) (by decide) (by kernel_rfl) (by kernel_rfl)
def i98 : TI := ⟨.struct [(0, 3), (1, 3)], .pair (.int Go.IntKind.i64) (.int Go.IntKind.i64), 16, true⟩
theorem t98 : TyOK Try.prog 98 i98 := .structE (by kernel_rfl) (by kernel_rfl) (by decide) (by kernel_rfl) (by kernel_rfl)
def i65 : TI := ⟨.slice 98, .slice 98 (.pair (.int Go.IntKind.i64) (.int Go.IntKind.i64)), 24, false⟩
theorem t65 : TyOK Try.prog 65 i65 := .slice (by kernel_rfl) (by decide) rfl (by kernel_rfl)
def i67 : TI := ⟨.struct [(0, 3), (1, 3), (2, 65)], .pair (.int Go.IntKind.i64) (.pair (.int Go.IntKind.i64) (.slice 98 (.pair (.int Go.IntKind.i64) (.int Go.IntKind.i64)))), 40, false⟩
theorem t67 : TyOK Try.prog 67 i67 := .struct (by kernel_rfl) (by decide) (by kernel_rfl) (by kernel_rfl)
def i77 : TI := ⟨.arr 10 3, .pair (.int Go.IntKind.i64) (.pair (.int Go.IntKind.i64) (.pair (.int Go.IntKind.i64) (.pair (.int Go.IntKind.i64) (.pair (.int Go.IntKind.i64) (.pair (.int Go.IntKind.i64) (.pair (.int Go.IntKind.i64) (.pair (.int Go.IntKind.i64) (.pair (.int Go.IntKind.i64) (.int Go.IntKind.i64))))))))), 80, false⟩
theorem t77 : TyOK Try.prog 77 i77 := .arr (by kernel_rfl) (by decide) (by kernel_rfl)
theorem mixed : Try.prog.follows .mixedOrders = true := by kernel_rfl
def T : TT := [(3, i3), (4, i4), (25, i25), (95, i95), (39, i39), (41, i41), (81, i81), (44, i44), (46, i46), (50, i50), (100, i100), (59, i59), (61, i61), (98, i98), (65, i65), (67, i67), (77, i77)]
theorem T_ok : TTok Try.prog T := .of (by unfold T; exact (List.forall_mem_cons.2 ⟨t3, (List.forall_mem_cons.2 ⟨t4, (List.forall_mem_cons.2 ⟨t25, (List.forall_mem_cons.2 ⟨t95, (List.forall_mem_cons.2 ⟨t39, (List.forall_mem_cons.2 ⟨t41, (List.forall_mem_cons.2 ⟨t81, (List.forall_mem_cons.2 ⟨t44, (List.forall_mem_cons.2 ⟨t46, (List.forall_mem_cons.2 ⟨t50, (List.forall_mem_cons.2 ⟨t100, (List.forall_mem_cons.2 ⟨t59, (List.forall_mem_cons.2 ⟨t61, (List.forall_mem_cons.2 ⟨t98, (List.forall_mem_cons.2 ⟨t65, (List.forall_mem_cons.2 ⟨t67, (List.forall_mem_cons.2 ⟨t77, (fun _ h => nomatch h)⟩)⟩)⟩)⟩)⟩)⟩)⟩)⟩)⟩)⟩)⟩)⟩)⟩)⟩)⟩)⟩)⟩))
end
end Go.Proofs.Ytcmndffpmjinlaa.Vs

set_option maxRecDepth 100000
set_option linter.unusedVariables false
set_option linter.unusedSimpArgs false
namespace Go.Proofs.Ytcmndffpmjinlaa.Vs
open Go.RowKit
noncomputable section
/-! function 16 -/
/-! function 18 -/
noncomputable def r_laws_toIntS : List PK := [{ t := Ty.slice (3 : Nat) (Ty.int IntKind.i64) }]
noncomputable def q_laws_toIntS : List PK := [{ t := Ty.slice (3 : Nat) (Ty.int IntKind.i64) }]
noncomputable def to_laws_toIntS (r : List Int) : Tup r_laws_toIntS × OutD := ((r, ()), none)
noncomputable def of_laws_toIntS : Tup r_laws_toIntS × OutD → Option (List Int)
  | (a, none) => some (a.1)
  | _ => none
theorem to_of_laws_toIntS : ∀ b r, of_laws_toIntS b = some r → to_laws_toIntS r = b := by
  rintro ⟨a, o⟩ r h
  cases o with
  | none => injection h with h; subst h; rfl
  | some _ => cases h
noncomputable def f_laws_toIntS_0 : Nat → List Int → List Int → Int → Option (List Int)
  | 0, _, _, _ => none
  | k + 1, o1, v0, v4 =>
    if decide (v4 < (↑(List.length v0) : Int)) = true then if (0 : Int) ≤ v4 then if v4 < (↑(List.length v0) : Int) then if (0 : Int) ≤ v4 then if v4 < (↑(List.length o1) : Int) then f_laws_toIntS_0 k (List.set o1 (Int.toNat v4) (List.getD v0 (Int.toNat v4) (0 : Int))) v0 (wrap64 (v4 + (1 : Int))) else none else none else none else none else some o1
noncomputable def f_laws_toIntS_0i : Spec := { objs := [OSh.ro, OSh.row true (3 : Nat) (Ty.int IntKind.i64)], tmps := [((0 : Nat), TSh.at (Sh.snap (0 : Nat) (Ty.int IntKind.i64))), ((3 : Nat), TSh.at (Sh.sl (1 : Nat))), ((4 : Nat), TSh.at (Sh.int IntKind.i64))] }
noncomputable def f_laws_toIntS_0o : Spec := { objs := [OSh.ro, OSh.row true (3 : Nat) (Ty.int IntKind.i64)], tmps := [((3 : Nat), TSh.at (Sh.sl (1 : Nat)))] }
noncomputable def f_laws_toIntS_0D : LoopDef (Tup r_laws_toIntS × OutD) := .plain f_laws_toIntS_0i f_laws_toIntS_0o (List Int) (fun k x => f_laws_toIntS_0 k x.1.2.1 x.2.1 x.2.2.2.1) (fun z => (((), z, ()), ((), ()))) (fun y => (y.1.2.1)) (fun _ => rfl)
noncomputable def f_laws_toIntS : Nat → List Int → Option (List Int)
  | 0, _ => none
  | k + 1, p0 =>
    if Int.toNat (↑(List.length p0) : Int) * (8 : Nat) ≤ (281474976710656 : Nat) then Option.bind (f_laws_toIntS_0 k (List.replicate (Int.toNat (↑(List.length p0) : Int)) (0 : Int)) p0 (0 : Int)) fun z0 => some z0 else none
noncomputable def d_laws_toIntS : FnDef := .of q_laws_toIntS r_laws_toIntS (List Int) (fun k x => f_laws_toIntS k x.1) to_laws_toIntS of_laws_toIntS to_of_laws_toIntS
noncomputable def c_laws_toIntS : Code := Try.f18.body.getD .skip
noncomputable def x_laws_toIntS : Ctx (Tup r_laws_toIntS × OutD) := { T := T, G := [], mvs := [], no := 0, n := 22, res := resOf T q_laws_toIntS r_laws_toIntS Try.f18.results.toList, loops := [(0, f_laws_toIntS_0D.E)], regs := [], conds := [] }
theorem g_laws_toIntS (k : Nat) : EnvOK Try.prog k x_laws_toIntS.G := (EnvOK.nil mixed)
noncomputable def f_laws_toIntS_0B : Code := (findLoop 0 c_laws_toIntS).getD .skip
theorem f_laws_toIntS_0h (k : Nat) (x : f_laws_toIntS_0i.D) : f_laws_toIntS_0D.lp (k + 1) x = loopK x_laws_toIntS f_laws_toIntS_0D 0 f_laws_toIntS_0B k x := by kernel_rfl
theorem f_laws_toIntS_0l (k : Nat) : LOK Try.prog x_laws_toIntS k f_laws_toIntS_0B := LOK.by [] (by kernel_rfl) AllOK.nil
theorem f_laws_toIntS_0z (x : f_laws_toIntS_0i.D) : f_laws_toIntS_0D.lp 0 x = none := by kernel_rfl
theorem f_laws_toIntS_0ok (k : Nat) : EOK Try.prog x_laws_toIntS k f_laws_toIntS_0D.E (.block 0 (.loop f_laws_toIntS_0B)) := loop_ok T_ok g_laws_toIntS f_laws_toIntS_0z f_laws_toIntS_0h f_laws_toIntS_0l k
theorem h_laws_toIntS (k : Nat) (x : Tup d_laws_toIntS.ps) : d_laws_toIntS.f (k + 1) x = fnK d_laws_toIntS x_laws_toIntS c_laws_toIntS k x := by kernel_rfl
theorem z_laws_toIntS (x : Tup d_laws_toIntS.ps) : d_laws_toIntS.f 0 x = none := by kernel_rfl
theorem l_laws_toIntS (k : Nat) : LOK Try.prog x_laws_toIntS k c_laws_toIntS := LOK.by [(f_laws_toIntS_0D.E, .block 0 (.loop f_laws_toIntS_0B))] (by kernel_rfl) (AllOK.cons (f_laws_toIntS_0ok k) AllOK.nil)
theorem s_laws_toIntS (k : Nat) : SoundAt Try.prog k 18 d_laws_toIntS.E := @fn_all Try.prog d_laws_toIntS x_laws_toIntS 18 Try.f18 c_laws_toIntS (by kernel_rfl) (by kernel_rfl) (by kernel_rfl) Try.func18 (by kernel_rfl) (by kernel_rfl) (by kernel_rfl) T_ok g_laws_toIntS l_laws_toIntS z_laws_toIntS h_laws_toIntS k
/-! function 20 -/
noncomputable def r_laws_eqIntS : List PK := [{ t := Ty.bool }]
noncomputable def q_laws_eqIntS : List PK := [{ t := Ty.slice (3 : Nat) (Ty.int IntKind.i64) }, { t := Ty.slice (3 : Nat) (Ty.int IntKind.i64) }]
noncomputable def to_laws_eqIntS (r : Bool) : Tup r_laws_eqIntS × OutD := ((r, ()), none)
noncomputable def of_laws_eqIntS : Tup r_laws_eqIntS × OutD → Option (Bool)
  | (a, none) => some (a.1)
  | _ => none
theorem to_of_laws_eqIntS : ∀ b r, of_laws_eqIntS b = some r → to_laws_eqIntS r = b := by
  rintro ⟨a, o⟩ r h
  cases o with
  | none => injection h with h; subst h; rfl
  | some _ => cases h
noncomputable def f_laws_eqIntS_0 : Nat → List Int → List Int → Int → Option (LR Unit Bool)
  | 0, _, _, _ => none
  | k + 1, v0, v1, v5 =>
    if decide (v5 < (↑(List.length v0) : Int)) = true then if (0 : Int) ≤ v5 then if v5 < (↑(List.length v0) : Int) then if (0 : Int) ≤ v5 then if v5 < (↑(List.length v1) : Int) then if decide (List.getD v0 (Int.toNat v5) (0 : Int) ≠ List.getD v1 (Int.toNat v5) (0 : Int)) = true then some (LR.ret false) else f_laws_eqIntS_0 k v0 v1 (wrap64 (v5 + (1 : Int))) else none else none else none else none else some (LR.go ())
noncomputable def f_laws_eqIntS_0i : Spec := { objs := [OSh.ro], tmps := [((0 : Nat), TSh.at (Sh.snap (0 : Nat) (Ty.int IntKind.i64))), ((1 : Nat), TSh.at (Sh.snap (0 : Nat) (Ty.int IntKind.i64))), ((5 : Nat), TSh.at (Sh.int IntKind.i64))] }
noncomputable def f_laws_eqIntS_0o : Spec := { objs := [OSh.ro], tmps := [] }
noncomputable def f_laws_eqIntS_0D : LoopDef (Tup r_laws_eqIntS × OutD) := .rets f_laws_eqIntS_0i f_laws_eqIntS_0o (Unit) (Bool) (fun k x => f_laws_eqIntS_0 k x.2.1 x.2.2.1 x.2.2.2.1) (fun z => (((), ()), (()))) (fun y => ()) (fun _ => rfl) to_laws_eqIntS of_laws_eqIntS to_of_laws_eqIntS
noncomputable def f_laws_eqIntS : Nat → List Int → List Int → Option Bool
  | 0, _, _ => none
  | k + 1, p0, p1 =>
    if decide ((↑(List.length p0) : Int) ≠ (↑(List.length p1) : Int)) = true then some false else Option.bind (f_laws_eqIntS_0 k p0 p1 (0 : Int)) fun z0 => LR.on z0 (fun y0 => some true) fun r0 => some r0
noncomputable def d_laws_eqIntS : FnDef := .of q_laws_eqIntS r_laws_eqIntS (Bool) (fun k x => f_laws_eqIntS k x.1 x.2.1) to_laws_eqIntS of_laws_eqIntS to_of_laws_eqIntS
noncomputable def c_laws_eqIntS : Code := Try.f20.body.getD .skip
noncomputable def x_laws_eqIntS : Ctx (Tup r_laws_eqIntS × OutD) := { T := T, G := [], mvs := [], no := 0, n := 26, res := resOf T q_laws_eqIntS r_laws_eqIntS Try.f20.results.toList, loops := [(0, f_laws_eqIntS_0D.E)], regs := [], conds := [] }
theorem g_laws_eqIntS (k : Nat) : EnvOK Try.prog k x_laws_eqIntS.G := (EnvOK.nil mixed)
noncomputable def f_laws_eqIntS_0B : Code := (findLoop 0 c_laws_eqIntS).getD .skip
theorem f_laws_eqIntS_0h (k : Nat) (x : f_laws_eqIntS_0i.D) : f_laws_eqIntS_0D.lp (k + 1) x = loopK x_laws_eqIntS f_laws_eqIntS_0D 0 f_laws_eqIntS_0B k x := by kernel_rfl
theorem f_laws_eqIntS_0l (k : Nat) : LOK Try.prog x_laws_eqIntS k f_laws_eqIntS_0B := LOK.by [] (by kernel_rfl) AllOK.nil
theorem f_laws_eqIntS_0z (x : f_laws_eqIntS_0i.D) : f_laws_eqIntS_0D.lp 0 x = none := by kernel_rfl
theorem f_laws_eqIntS_0ok (k : Nat) : EOK Try.prog x_laws_eqIntS k f_laws_eqIntS_0D.E (.block 0 (.loop f_laws_eqIntS_0B)) := loop_ok T_ok g_laws_eqIntS f_laws_eqIntS_0z f_laws_eqIntS_0h f_laws_eqIntS_0l k
theorem h_laws_eqIntS (k : Nat) (x : Tup d_laws_eqIntS.ps) : d_laws_eqIntS.f (k + 1) x = fnK d_laws_eqIntS x_laws_eqIntS c_laws_eqIntS k x := by kernel_rfl
theorem z_laws_eqIntS (x : Tup d_laws_eqIntS.ps) : d_laws_eqIntS.f 0 x = none := by kernel_rfl
theorem l_laws_eqIntS (k : Nat) : LOK Try.prog x_laws_eqIntS k c_laws_eqIntS := LOK.by [(f_laws_eqIntS_0D.E, .block 0 (.loop f_laws_eqIntS_0B))] (by kernel_rfl) (AllOK.cons (f_laws_eqIntS_0ok k) AllOK.nil)
theorem s_laws_eqIntS (k : Nat) : SoundAt Try.prog k 20 d_laws_eqIntS.E := @fn_all Try.prog d_laws_eqIntS x_laws_eqIntS 20 Try.f20 c_laws_eqIntS (by kernel_rfl) (by kernel_rfl) (by kernel_rfl) Try.func20 (by kernel_rfl) (by kernel_rfl) (by kernel_rfl) T_ok g_laws_eqIntS l_laws_eqIntS z_laws_eqIntS h_laws_eqIntS k
/-! function 44 -/
/-! function 45 -/
/-! function 55 -/
noncomputable def r_spec_l1In : List PK := [{ t := Ty.bool }]
noncomputable def q_spec_l1In : List PK := [{ t := Ty.int IntKind.i64 }, { t := Ty.int IntKind.i64 }, { t := Ty.int IntKind.i64 }]
noncomputable def to_spec_l1In (r : Bool) : Tup r_spec_l1In × OutD := ((r, ()), none)
noncomputable def of_spec_l1In : Tup r_spec_l1In × OutD → Option (Bool)
  | (a, none) => some (a.1)
  | _ => none
theorem to_of_spec_l1In : ∀ b r, of_spec_l1In b = some r → to_spec_l1In r = b := by
  rintro ⟨a, o⟩ r h
  cases o with
  | none => injection h with h; subst h; rfl
  | some _ => cases h
noncomputable def f_spec_l1In : Nat → Int → Int → Int → Option Bool
  | 0, _, _, _ => none
  | k + 1, p0, p1, p2 =>
    if decide (p0 ≥ p1) = true then some (decide (p0 ≤ p2)) else some false
noncomputable def d_spec_l1In : FnDef := .of q_spec_l1In r_spec_l1In (Bool) (fun k x => f_spec_l1In k x.1 x.2.1 x.2.2.1) to_spec_l1In of_spec_l1In to_of_spec_l1In
noncomputable def c_spec_l1In : Code := Try.f55.body.getD .skip
noncomputable def x_spec_l1In : Ctx (Tup r_spec_l1In × OutD) := { T := T, G := [], mvs := [], no := 0, n := 15, res := resOf T q_spec_l1In r_spec_l1In Try.f55.results.toList, loops := [], regs := [], conds := [] }
theorem g_spec_l1In (k : Nat) : EnvOK Try.prog k x_spec_l1In.G := (EnvOK.nil mixed)
theorem h_spec_l1In (k : Nat) (x : Tup d_spec_l1In.ps) : d_spec_l1In.f (k + 1) x = fnK d_spec_l1In x_spec_l1In c_spec_l1In k x := by kernel_rfl
theorem z_spec_l1In (x : Tup d_spec_l1In.ps) : d_spec_l1In.f 0 x = none := by kernel_rfl
theorem l_spec_l1In (k : Nat) : LOK Try.prog x_spec_l1In k c_spec_l1In := LOK.by [] (by kernel_rfl) AllOK.nil
theorem s_spec_l1In (k : Nat) : SoundAt Try.prog k 55 d_spec_l1In.E := @fn_all Try.prog d_spec_l1In x_spec_l1In 55 Try.f55 c_spec_l1In (by kernel_rfl) (by kernel_rfl) (by kernel_rfl) Try.func55 (by kernel_rfl) (by kernel_rfl) (by kernel_rfl) T_ok g_spec_l1In l_spec_l1In z_spec_l1In h_spec_l1In k
/-! function 56 -/
/-! function 60 -/
/-! function 61 -/
/-! function 62 -/
/-! function 64 -/
noncomputable def r_spec_l1Has : List PK := [{ t := Ty.bool }]
noncomputable def q_spec_l1Has : List PK := [{ t := Ty.slice (3 : Nat) (Ty.int IntKind.i64) }, { t := Ty.int IntKind.i64 }]
noncomputable def to_spec_l1Has (r : Bool) : Tup r_spec_l1Has × OutD := ((r, ()), none)
noncomputable def of_spec_l1Has : Tup r_spec_l1Has × OutD → Option (Bool)
  | (a, none) => some (a.1)
  | _ => none
theorem to_of_spec_l1Has : ∀ b r, of_spec_l1Has b = some r → to_spec_l1Has r = b := by
  rintro ⟨a, o⟩ r h
  cases o with
  | none => injection h with h; subst h; rfl
  | some _ => cases h
noncomputable def f_spec_l1Has_0 : Nat → Int → List Int → Int → Int → Option (LR Unit Bool)
  | 0, _, _, _, _ => none
  | k + 1, v1, v7, v8, v9 =>
    if decide (v9 < v8) = true then if (0 : Int) ≤ v9 then if v9 < (↑(List.length v7) : Int) then if decide (List.getD v7 (Int.toNat v9) (0 : Int) = v1) = true then some (LR.ret true) else f_spec_l1Has_0 k v1 v7 v8 (wrap64 (v9 + (1 : Int))) else none else none else some (LR.go ())
noncomputable def f_spec_l1Has_0i : Spec := { objs := [OSh.ro], tmps := [((1 : Nat), TSh.at (Sh.int IntKind.i64)), ((7 : Nat), TSh.at (Sh.snap (0 : Nat) (Ty.int IntKind.i64))), ((8 : Nat), TSh.at (Sh.int IntKind.i64)), ((9 : Nat), TSh.at (Sh.int IntKind.i64))] }
noncomputable def f_spec_l1Has_0o : Spec := { objs := [OSh.ro], tmps := [] }
noncomputable def f_spec_l1Has_0D : LoopDef (Tup r_spec_l1Has × OutD) := .rets f_spec_l1Has_0i f_spec_l1Has_0o (Unit) (Bool) (fun k x => f_spec_l1Has_0 k x.2.1 x.2.2.1 x.2.2.2.1 x.2.2.2.2.1) (fun z => (((), ()), (()))) (fun y => ()) (fun _ => rfl) to_spec_l1Has of_spec_l1Has to_of_spec_l1Has
noncomputable def f_spec_l1Has : Nat → List Int → Int → Option Bool
  | 0, _, _ => none
  | k + 1, p0, p1 =>
    Option.bind (f_spec_l1Has_0 k p1 p0 (↑(List.length p0) : Int) (0 : Int)) fun z0 => LR.on z0 (fun y0 => some false) fun r0 => some r0
noncomputable def d_spec_l1Has : FnDef := .of q_spec_l1Has r_spec_l1Has (Bool) (fun k x => f_spec_l1Has k x.1 x.2.1) to_spec_l1Has of_spec_l1Has to_of_spec_l1Has
noncomputable def c_spec_l1Has : Code := Try.f64.body.getD .skip
noncomputable def x_spec_l1Has : Ctx (Tup r_spec_l1Has × OutD) := { T := T, G := [], mvs := [], no := 0, n := 17, res := resOf T q_spec_l1Has r_spec_l1Has Try.f64.results.toList, loops := [(0, f_spec_l1Has_0D.E)], regs := [], conds := [] }
theorem g_spec_l1Has (k : Nat) : EnvOK Try.prog k x_spec_l1Has.G := (EnvOK.nil mixed)
noncomputable def f_spec_l1Has_0B : Code := (findLoop 0 c_spec_l1Has).getD .skip
theorem f_spec_l1Has_0h (k : Nat) (x : f_spec_l1Has_0i.D) : f_spec_l1Has_0D.lp (k + 1) x = loopK x_spec_l1Has f_spec_l1Has_0D 0 f_spec_l1Has_0B k x := by kernel_rfl
theorem f_spec_l1Has_0l (k : Nat) : LOK Try.prog x_spec_l1Has k f_spec_l1Has_0B := LOK.by [] (by kernel_rfl) AllOK.nil
theorem f_spec_l1Has_0z (x : f_spec_l1Has_0i.D) : f_spec_l1Has_0D.lp 0 x = none := by kernel_rfl
theorem f_spec_l1Has_0ok (k : Nat) : EOK Try.prog x_spec_l1Has k f_spec_l1Has_0D.E (.block 0 (.loop f_spec_l1Has_0B)) := loop_ok T_ok g_spec_l1Has f_spec_l1Has_0z f_spec_l1Has_0h f_spec_l1Has_0l k
theorem h_spec_l1Has (k : Nat) (x : Tup d_spec_l1Has.ps) : d_spec_l1Has.f (k + 1) x = fnK d_spec_l1Has x_spec_l1Has c_spec_l1Has k x := by kernel_rfl
theorem z_spec_l1Has (x : Tup d_spec_l1Has.ps) : d_spec_l1Has.f 0 x = none := by kernel_rfl
theorem l_spec_l1Has (k : Nat) : LOK Try.prog x_spec_l1Has k c_spec_l1Has := LOK.by [(f_spec_l1Has_0D.E, .block 0 (.loop f_spec_l1Has_0B))] (by kernel_rfl) (AllOK.cons (f_spec_l1Has_0ok k) AllOK.nil)
theorem s_spec_l1Has (k : Nat) : SoundAt Try.prog k 64 d_spec_l1Has.E := @fn_all Try.prog d_spec_l1Has x_spec_l1Has 64 Try.f64 c_spec_l1Has (by kernel_rfl) (by kernel_rfl) (by kernel_rfl) Try.func64 (by kernel_rfl) (by kernel_rfl) (by kernel_rfl) T_ok g_spec_l1Has l_spec_l1Has z_spec_l1Has h_spec_l1Has k
/-! function 66 -/
/-! function 67 -/
/-! function 71 -/
/-! function 74 -/
/-! function 76 -/
/-! function 79 -/
/-! function 80 -/
/-! function 81 -/
/-! function 88 -/
noncomputable def r_impl_areDigits : List PK := [{ t := Ty.bool }]
noncomputable def q_impl_areDigits : List PK := [{ t := Ty.slice (3 : Nat) (Ty.int IntKind.i64) }]
noncomputable def to_impl_areDigits (r : Bool) : Tup r_impl_areDigits × OutD := ((r, ()), none)
noncomputable def of_impl_areDigits : Tup r_impl_areDigits × OutD → Option (Bool)
  | (a, none) => some (a.1)
  | _ => none
theorem to_of_impl_areDigits : ∀ b r, of_impl_areDigits b = some r → to_impl_areDigits r = b := by
  rintro ⟨a, o⟩ r h
  cases o with
  | none => injection h with h; subst h; rfl
  | some _ => cases h
noncomputable def f_impl_areDigits_0 : Nat → List Int → Int → Int → Option (LR Unit Bool)
  | 0, _, _, _ => none
  | k + 1, v5, v6, v7 =>
    if decide (v7 < v6) = true then if (0 : Int) ≤ v7 then if v7 < (↑(List.length v5) : Int) then if decide (List.getD v5 (Int.toNat v7) (0 : Int) < (0 : Int)) = true then some (LR.ret false) else if decide (List.getD v5 (Int.toNat v7) (0 : Int) > (9 : Int)) = true then some (LR.ret false) else f_impl_areDigits_0 k v5 v6 (wrap64 (v7 + (1 : Int))) else none else none else some (LR.go ())
noncomputable def f_impl_areDigits_0i : Spec := { objs := [OSh.ro], tmps := [((5 : Nat), TSh.at (Sh.snap (0 : Nat) (Ty.int IntKind.i64))), ((6 : Nat), TSh.at (Sh.int IntKind.i64)), ((7 : Nat), TSh.at (Sh.int IntKind.i64))] }
noncomputable def f_impl_areDigits_0o : Spec := { objs := [OSh.ro], tmps := [] }
noncomputable def f_impl_areDigits_0D : LoopDef (Tup r_impl_areDigits × OutD) := .rets f_impl_areDigits_0i f_impl_areDigits_0o (Unit) (Bool) (fun k x => f_impl_areDigits_0 k x.2.1 x.2.2.1 x.2.2.2.1) (fun z => (((), ()), (()))) (fun y => ()) (fun _ => rfl) to_impl_areDigits of_impl_areDigits to_of_impl_areDigits
noncomputable def f_impl_areDigits : Nat → List Int → Option Bool
  | 0, _ => none
  | k + 1, p0 =>
    Option.bind (f_impl_areDigits_0 k p0 (↑(List.length p0) : Int) (0 : Int)) fun z0 => LR.on z0 (fun y0 => some true) fun r0 => some r0
noncomputable def d_impl_areDigits : FnDef := .of q_impl_areDigits r_impl_areDigits (Bool) (fun k x => f_impl_areDigits k x.1) to_impl_areDigits of_impl_areDigits to_of_impl_areDigits
noncomputable def c_impl_areDigits : Code := Try.f88.body.getD .skip
noncomputable def x_impl_areDigits : Ctx (Tup r_impl_areDigits × OutD) := { T := T, G := [], mvs := [], no := 0, n := 18, res := resOf T q_impl_areDigits r_impl_areDigits Try.f88.results.toList, loops := [(0, f_impl_areDigits_0D.E)], regs := [], conds := [] }
theorem g_impl_areDigits (k : Nat) : EnvOK Try.prog k x_impl_areDigits.G := (EnvOK.nil mixed)
noncomputable def f_impl_areDigits_0B : Code := (findLoop 0 c_impl_areDigits).getD .skip
theorem f_impl_areDigits_0h (k : Nat) (x : f_impl_areDigits_0i.D) : f_impl_areDigits_0D.lp (k + 1) x = loopK x_impl_areDigits f_impl_areDigits_0D 0 f_impl_areDigits_0B k x := by kernel_rfl
theorem f_impl_areDigits_0l (k : Nat) : LOK Try.prog x_impl_areDigits k f_impl_areDigits_0B := LOK.by [] (by kernel_rfl) AllOK.nil
theorem f_impl_areDigits_0z (x : f_impl_areDigits_0i.D) : f_impl_areDigits_0D.lp 0 x = none := by kernel_rfl
theorem f_impl_areDigits_0ok (k : Nat) : EOK Try.prog x_impl_areDigits k f_impl_areDigits_0D.E (.block 0 (.loop f_impl_areDigits_0B)) := loop_ok T_ok g_impl_areDigits f_impl_areDigits_0z f_impl_areDigits_0h f_impl_areDigits_0l k
theorem h_impl_areDigits (k : Nat) (x : Tup d_impl_areDigits.ps) : d_impl_areDigits.f (k + 1) x = fnK d_impl_areDigits x_impl_areDigits c_impl_areDigits k x := by kernel_rfl
theorem z_impl_areDigits (x : Tup d_impl_areDigits.ps) : d_impl_areDigits.f 0 x = none := by kernel_rfl
theorem l_impl_areDigits (k : Nat) : LOK Try.prog x_impl_areDigits k c_impl_areDigits := LOK.by [(f_impl_areDigits_0D.E, .block 0 (.loop f_impl_areDigits_0B))] (by kernel_rfl) (AllOK.cons (f_impl_areDigits_0ok k) AllOK.nil)
theorem s_impl_areDigits (k : Nat) : SoundAt Try.prog k 88 d_impl_areDigits.E := @fn_all Try.prog d_impl_areDigits x_impl_areDigits 88 Try.f88 c_impl_areDigits (by kernel_rfl) (by kernel_rfl) (by kernel_rfl) Try.func88 (by kernel_rfl) (by kernel_rfl) (by kernel_rfl) T_ok g_impl_areDigits l_impl_areDigits z_impl_areDigits h_impl_areDigits k
/-! function 89 -/
/-! function 91 -/
noncomputable def r_slices_Index_int_int : List PK := [{ t := Ty.int IntKind.i64 }]
noncomputable def q_slices_Index_int_int : List PK := [{ t := Ty.slice (3 : Nat) (Ty.int IntKind.i64) }, { t := Ty.int IntKind.i64 }]
noncomputable def to_slices_Index_int_int (r : Int) : Tup r_slices_Index_int_int × OutD := ((r, ()), none)
noncomputable def of_slices_Index_int_int : Tup r_slices_Index_int_int × OutD → Option (Int)
  | (a, none) => some (a.1)
  | _ => none
theorem to_of_slices_Index_int_int : ∀ b r, of_slices_Index_int_int b = some r → to_slices_Index_int_int r = b := by
  rintro ⟨a, o⟩ r h
  cases o with
  | none => injection h with h; subst h; rfl
  | some _ => cases h
noncomputable def f_slices_Index_int_int_0 : Nat → List Int → Int → Int → Int → Option (LR Unit Int)
  | 0, _, _, _, _ => none
  | k + 1, v0, v1, v7, v8 =>
    if decide (v8 < v7) = true then if (0 : Int) ≤ v8 then if v8 < (↑(List.length v0) : Int) then if decide (v1 = List.getD v0 (Int.toNat v8) (0 : Int)) = true then some (LR.ret v8) else f_slices_Index_int_int_0 k v0 v1 v7 (wrap64 (v8 + (1 : Int))) else none else none else some (LR.go ())
noncomputable def f_slices_Index_int_int_0i : Spec := { objs := [OSh.ro], tmps := [((0 : Nat), TSh.at (Sh.snap (0 : Nat) (Ty.int IntKind.i64))), ((1 : Nat), TSh.at (Sh.int IntKind.i64)), ((7 : Nat), TSh.at (Sh.int IntKind.i64)), ((8 : Nat), TSh.at (Sh.int IntKind.i64))] }
noncomputable def f_slices_Index_int_int_0o : Spec := { objs := [OSh.ro], tmps := [] }
noncomputable def f_slices_Index_int_int_0D : LoopDef (Tup r_slices_Index_int_int × OutD) := .rets f_slices_Index_int_int_0i f_slices_Index_int_int_0o (Unit) (Int) (fun k x => f_slices_Index_int_int_0 k x.2.1 x.2.2.1 x.2.2.2.1 x.2.2.2.2.1) (fun z => (((), ()), (()))) (fun y => ()) (fun _ => rfl) to_slices_Index_int_int of_slices_Index_int_int to_of_slices_Index_int_int
noncomputable def f_slices_Index_int_int : Nat → List Int → Int → Option Int
  | 0, _, _ => none
  | k + 1, p0, p1 =>
    Option.bind (f_slices_Index_int_int_0 k p0 p1 (↑(List.length p0) : Int) (0 : Int)) fun z0 => LR.on z0 (fun y0 => some (-1 : Int)) fun r0 => some r0
noncomputable def d_slices_Index_int_int : FnDef := .of q_slices_Index_int_int r_slices_Index_int_int (Int) (fun k x => f_slices_Index_int_int k x.1 x.2.1) to_slices_Index_int_int of_slices_Index_int_int to_of_slices_Index_int_int
noncomputable def c_slices_Index_int_int : Code := Try.f91.body.getD .skip
noncomputable def x_slices_Index_int_int : Ctx (Tup r_slices_Index_int_int × OutD) := { T := T, G := [], mvs := [], no := 0, n := 19, res := resOf T q_slices_Index_int_int r_slices_Index_int_int Try.f91.results.toList, loops := [(0, f_slices_Index_int_int_0D.E)], regs := [], conds := [] }
theorem g_slices_Index_int_int (k : Nat) : EnvOK Try.prog k x_slices_Index_int_int.G := (EnvOK.nil mixed)
noncomputable def f_slices_Index_int_int_0B : Code := (findLoop 0 c_slices_Index_int_int).getD .skip
theorem f_slices_Index_int_int_0h (k : Nat) (x : f_slices_Index_int_int_0i.D) : f_slices_Index_int_int_0D.lp (k + 1) x = loopK x_slices_Index_int_int f_slices_Index_int_int_0D 0 f_slices_Index_int_int_0B k x := by kernel_rfl
theorem f_slices_Index_int_int_0l (k : Nat) : LOK Try.prog x_slices_Index_int_int k f_slices_Index_int_int_0B := LOK.by [] (by kernel_rfl) AllOK.nil
theorem f_slices_Index_int_int_0z (x : f_slices_Index_int_int_0i.D) : f_slices_Index_int_int_0D.lp 0 x = none := by kernel_rfl
theorem f_slices_Index_int_int_0ok (k : Nat) : EOK Try.prog x_slices_Index_int_int k f_slices_Index_int_int_0D.E (.block 0 (.loop f_slices_Index_int_int_0B)) := loop_ok T_ok g_slices_Index_int_int f_slices_Index_int_int_0z f_slices_Index_int_int_0h f_slices_Index_int_int_0l k
theorem h_slices_Index_int_int (k : Nat) (x : Tup d_slices_Index_int_int.ps) : d_slices_Index_int_int.f (k + 1) x = fnK d_slices_Index_int_int x_slices_Index_int_int c_slices_Index_int_int k x := by kernel_rfl
theorem z_slices_Index_int_int (x : Tup d_slices_Index_int_int.ps) : d_slices_Index_int_int.f 0 x = none := by kernel_rfl
theorem l_slices_Index_int_int (k : Nat) : LOK Try.prog x_slices_Index_int_int k c_slices_Index_int_int := LOK.by [(f_slices_Index_int_int_0D.E, .block 0 (.loop f_slices_Index_int_int_0B))] (by kernel_rfl) (AllOK.cons (f_slices_Index_int_int_0ok k) AllOK.nil)
theorem s_slices_Index_int_int (k : Nat) : SoundAt Try.prog k 91 d_slices_Index_int_int.E := @fn_all Try.prog d_slices_Index_int_int x_slices_Index_int_int 91 Try.f91 c_slices_Index_int_int (by kernel_rfl) (by kernel_rfl) (by kernel_rfl) Try.func91 (by kernel_rfl) (by kernel_rfl) (by kernel_rfl) T_ok g_slices_Index_int_int l_slices_Index_int_int z_slices_Index_int_int h_slices_Index_int_int k
/-! function 93 -/
/-! function 94 -/
/-! function 95 -/
/-! function 96 -/
/-! function 98 -/
/-! function 101 -/
/-! function 104 -/
/-! function 105 -/
end
end Go.Proofs.Ytcmndffpmjinlaa.Vs

set_option maxRecDepth 100000
set_option linter.unusedVariables false
set_option linter.unusedSimpArgs false
namespace Go.Proofs.Ytcmndffpmjinlaa.Vs
open Go.RowKit
noncomputable section
/-! function 22 -/
/-! function 26 -/
/-! function 31 -/
/-! function 36 -/
/-! function 38 -/
/-! function 40 -/
/-! function 43 -/
/-! function 48 -/
/-! function 53 -/
/-! function 57 -/
noncomputable def r_impl_areVotes : List PK := [{ t := Ty.bool }]
noncomputable def q_impl_areVotes : List PK := [{ t := Ty.slice (3 : Nat) (Ty.int IntKind.i64) }]
noncomputable def to_impl_areVotes (r : Bool) : Tup r_impl_areVotes × OutD := ((r, ()), none)
noncomputable def of_impl_areVotes : Tup r_impl_areVotes × OutD → Option (Bool)
  | (a, none) => some (a.1)
  | _ => none
theorem to_of_impl_areVotes : ∀ b r, of_impl_areVotes b = some r → to_impl_areVotes r = b := by
  rintro ⟨a, o⟩ r h
  cases o with
  | none => injection h with h; subst h; rfl
  | some _ => cases h
noncomputable def f_impl_areVotes : Nat → List Int → Option Bool
  | 0, _ => none
  | k + 1, p0 =>
    if decide ((↑(List.length p0) : Int) ≥ (1 : Int)) = true then if decide ((↑(List.length p0) : Int) ≤ (9 : Int)) = true then Option.bind (f_impl_areDigits k p0) fun z0 => some z0 else some false else some false
noncomputable def d_impl_areVotes : FnDef := .of q_impl_areVotes r_impl_areVotes (Bool) (fun k x => f_impl_areVotes k x.1) to_impl_areVotes of_impl_areVotes to_of_impl_areVotes
noncomputable def c_impl_areVotes : Code := Try.f57.body.getD .skip
noncomputable def x_impl_areVotes : Ctx (Tup r_impl_areVotes × OutD) := { T := T, G := [(88, d_impl_areDigits.E)], mvs := [], no := 0, n := 15, res := resOf T q_impl_areVotes r_impl_areVotes Try.f57.results.toList, loops := [], regs := [], conds := [] }
theorem g_impl_areVotes (k : Nat) : EnvOK Try.prog k x_impl_areVotes.G := (EnvOK.cons (s_impl_areDigits k) (EnvOK.nil mixed))
theorem h_impl_areVotes (k : Nat) (x : Tup d_impl_areVotes.ps) : d_impl_areVotes.f (k + 1) x = fnK d_impl_areVotes x_impl_areVotes c_impl_areVotes k x := by kernel_rfl
theorem z_impl_areVotes (x : Tup d_impl_areVotes.ps) : d_impl_areVotes.f 0 x = none := by kernel_rfl
theorem l_impl_areVotes (k : Nat) : LOK Try.prog x_impl_areVotes k c_impl_areVotes := LOK.by [] (by kernel_rfl) AllOK.nil
theorem s_impl_areVotes (k : Nat) : SoundAt Try.prog k 57 d_impl_areVotes.E := @fn_all Try.prog d_impl_areVotes x_impl_areVotes 57 Try.f57 c_impl_areVotes (by kernel_rfl) (by kernel_rfl) (by kernel_rfl) Try.func57 (by kernel_rfl) (by kernel_rfl) (by kernel_rfl) T_ok g_impl_areVotes l_impl_areVotes z_impl_areVotes h_impl_areVotes k
/-! function 58 -/
/-! function 63 -/
noncomputable def r_spec_l1All : List PK := [{ t := Ty.bool }]
noncomputable def q_spec_l1All : List PK := [{ t := Ty.slice (3 : Nat) (Ty.int IntKind.i64) }, { t := Ty.int IntKind.i64 }, { t := Ty.int IntKind.i64 }]
noncomputable def to_spec_l1All (r : Bool) : Tup r_spec_l1All × OutD := ((r, ()), none)
noncomputable def of_spec_l1All : Tup r_spec_l1All × OutD → Option (Bool)
  | (a, none) => some (a.1)
  | _ => none
theorem to_of_spec_l1All : ∀ b r, of_spec_l1All b = some r → to_spec_l1All r = b := by
  rintro ⟨a, o⟩ r h
  cases o with
  | none => injection h with h; subst h; rfl
  | some _ => cases h
noncomputable def f_spec_l1All_0 : Nat → Int → Int → List Int → Int → Int → Option (LR Unit Bool)
  | 0, _, _, _, _, _ => none
  | k + 1, v1, v2, v9, v10, v11 =>
    if decide (v11 < v10) = true then if (0 : Int) ≤ v11 then if v11 < (↑(List.length v9) : Int) then Option.bind (f_spec_l1In k (List.getD v9 (Int.toNat v11) (0 : Int)) v1 v2) fun z0 => if (!z0) = true then some (LR.ret false) else f_spec_l1All_0 k v1 v2 v9 v10 (wrap64 (v11 + (1 : Int))) else none else none else some (LR.go ())
noncomputable def f_spec_l1All_0i : Spec := { objs := [OSh.ro], tmps := [((1 : Nat), TSh.at (Sh.int IntKind.i64)), ((2 : Nat), TSh.at (Sh.int IntKind.i64)), ((9 : Nat), TSh.at (Sh.snap (0 : Nat) (Ty.int IntKind.i64))), ((10 : Nat), TSh.at (Sh.int IntKind.i64)), ((11 : Nat), TSh.at (Sh.int IntKind.i64))] }
noncomputable def f_spec_l1All_0o : Spec := { objs := [OSh.ro], tmps := [] }
noncomputable def f_spec_l1All_0D : LoopDef (Tup r_spec_l1All × OutD) := .rets f_spec_l1All_0i f_spec_l1All_0o (Unit) (Bool) (fun k x => f_spec_l1All_0 k x.2.1 x.2.2.1 x.2.2.2.1 x.2.2.2.2.1 x.2.2.2.2.2.1) (fun z => (((), ()), (()))) (fun y => ()) (fun _ => rfl) to_spec_l1All of_spec_l1All to_of_spec_l1All
noncomputable def f_spec_l1All : Nat → List Int → Int → Int → Option Bool
  | 0, _, _, _ => none
  | k + 1, p0, p1, p2 =>
    Option.bind (f_spec_l1All_0 k p1 p2 p0 (↑(List.length p0) : Int) (0 : Int)) fun z1 => LR.on z1 (fun y1 => some true) fun r1 => some r1
noncomputable def d_spec_l1All : FnDef := .of q_spec_l1All r_spec_l1All (Bool) (fun k x => f_spec_l1All k x.1 x.2.1 x.2.2.1) to_spec_l1All of_spec_l1All to_of_spec_l1All
noncomputable def c_spec_l1All : Code := Try.f63.body.getD .skip
noncomputable def x_spec_l1All : Ctx (Tup r_spec_l1All × OutD) := { T := T, G := [(55, d_spec_l1In.E)], mvs := [], no := 0, n := 21, res := resOf T q_spec_l1All r_spec_l1All Try.f63.results.toList, loops := [(0, f_spec_l1All_0D.E)], regs := [], conds := [] }
theorem g_spec_l1All (k : Nat) : EnvOK Try.prog k x_spec_l1All.G := (EnvOK.cons (s_spec_l1In k) (EnvOK.nil mixed))
noncomputable def f_spec_l1All_0B : Code := (findLoop 0 c_spec_l1All).getD .skip
theorem f_spec_l1All_0h (k : Nat) (x : f_spec_l1All_0i.D) : f_spec_l1All_0D.lp (k + 1) x = loopK x_spec_l1All f_spec_l1All_0D 0 f_spec_l1All_0B k x := by kernel_rfl
theorem f_spec_l1All_0l (k : Nat) : LOK Try.prog x_spec_l1All k f_spec_l1All_0B := LOK.by [] (by kernel_rfl) AllOK.nil
theorem f_spec_l1All_0z (x : f_spec_l1All_0i.D) : f_spec_l1All_0D.lp 0 x = none := by kernel_rfl
theorem f_spec_l1All_0ok (k : Nat) : EOK Try.prog x_spec_l1All k f_spec_l1All_0D.E (.block 0 (.loop f_spec_l1All_0B)) := loop_ok T_ok g_spec_l1All f_spec_l1All_0z f_spec_l1All_0h f_spec_l1All_0l k
theorem h_spec_l1All (k : Nat) (x : Tup d_spec_l1All.ps) : d_spec_l1All.f (k + 1) x = fnK d_spec_l1All x_spec_l1All c_spec_l1All k x := by kernel_rfl
theorem z_spec_l1All (x : Tup d_spec_l1All.ps) : d_spec_l1All.f 0 x = none := by kernel_rfl
theorem l_spec_l1All (k : Nat) : LOK Try.prog x_spec_l1All k c_spec_l1All := LOK.by [(f_spec_l1All_0D.E, .block 0 (.loop f_spec_l1All_0B))] (by kernel_rfl) (AllOK.cons (f_spec_l1All_0ok k) AllOK.nil)
theorem s_spec_l1All (k : Nat) : SoundAt Try.prog k 63 d_spec_l1All.E := @fn_all Try.prog d_spec_l1All x_spec_l1All 63 Try.f63 c_spec_l1All (by kernel_rfl) (by kernel_rfl) (by kernel_rfl) Try.func63 (by kernel_rfl) (by kernel_rfl) (by kernel_rfl) T_ok g_spec_l1All l_spec_l1All z_spec_l1All h_spec_l1All k
/-! function 65 -/
noncomputable def r_slices_Contains_int_int : List PK := [{ t := Ty.bool }]
noncomputable def q_slices_Contains_int_int : List PK := [{ t := Ty.slice (3 : Nat) (Ty.int IntKind.i64) }, { t := Ty.int IntKind.i64 }]
noncomputable def to_slices_Contains_int_int (r : Bool) : Tup r_slices_Contains_int_int × OutD := ((r, ()), none)
noncomputable def of_slices_Contains_int_int : Tup r_slices_Contains_int_int × OutD → Option (Bool)
  | (a, none) => some (a.1)
  | _ => none
theorem to_of_slices_Contains_int_int : ∀ b r, of_slices_Contains_int_int b = some r → to_slices_Contains_int_int r = b := by
  rintro ⟨a, o⟩ r h
  cases o with
  | none => injection h with h; subst h; rfl
  | some _ => cases h
noncomputable def f_slices_Contains_int_int : Nat → List Int → Int → Option Bool
  | 0, _, _ => none
  | k + 1, p0, p1 =>
    Option.bind (f_slices_Index_int_int k p0 p1) fun z0 => some (decide (z0 ≥ (0 : Int)))
noncomputable def d_slices_Contains_int_int : FnDef := .of q_slices_Contains_int_int r_slices_Contains_int_int (Bool) (fun k x => f_slices_Contains_int_int k x.1 x.2.1) to_slices_Contains_int_int of_slices_Contains_int_int to_of_slices_Contains_int_int
noncomputable def c_slices_Contains_int_int : Code := Try.f65.body.getD .skip
noncomputable def x_slices_Contains_int_int : Ctx (Tup r_slices_Contains_int_int × OutD) := { T := T, G := [(91, d_slices_Index_int_int.E)], mvs := [], no := 0, n := 9, res := resOf T q_slices_Contains_int_int r_slices_Contains_int_int Try.f65.results.toList, loops := [], regs := [], conds := [] }
theorem g_slices_Contains_int_int (k : Nat) : EnvOK Try.prog k x_slices_Contains_int_int.G := (EnvOK.cons (s_slices_Index_int_int k) (EnvOK.nil mixed))
theorem h_slices_Contains_int_int (k : Nat) (x : Tup d_slices_Contains_int_int.ps) : d_slices_Contains_int_int.f (k + 1) x = fnK d_slices_Contains_int_int x_slices_Contains_int_int c_slices_Contains_int_int k x := by kernel_rfl
theorem z_slices_Contains_int_int (x : Tup d_slices_Contains_int_int.ps) : d_slices_Contains_int_int.f 0 x = none := by kernel_rfl
theorem l_slices_Contains_int_int (k : Nat) : LOK Try.prog x_slices_Contains_int_int k c_slices_Contains_int_int := LOK.by [] (by kernel_rfl) AllOK.nil
theorem s_slices_Contains_int_int (k : Nat) : SoundAt Try.prog k 65 d_slices_Contains_int_int.E := @fn_all Try.prog d_slices_Contains_int_int x_slices_Contains_int_int 65 Try.f65 c_slices_Contains_int_int (by kernel_rfl) (by kernel_rfl) (by kernel_rfl) Try.func65 (by kernel_rfl) (by kernel_rfl) (by kernel_rfl) T_ok g_slices_Contains_int_int l_slices_Contains_int_int z_slices_Contains_int_int h_slices_Contains_int_int k
/-! function 69 -/
/-! function 70 -/
/-! function 72 -/
/-! function 75 -/
/-! function 77 -/
/-! function 78 -/
/-! function 84 -/
/-! function 87 -/
/-! function 92 -/
/-! function 99 -/
/-! function 102 -/
/-! function 103 -/
end
end Go.Proofs.Ytcmndffpmjinlaa.Vs

set_option maxRecDepth 100000
set_option linter.unusedVariables false
set_option linter.unusedSimpArgs false
namespace Go.Proofs.Ytcmndffpmjinlaa.Vs
open Go.RowKit
noncomputable section
/-! function 15 -/
/-! function 19 -/
/-! function 24 -/
/-! function 28 -/
/-! function 30 -/
noncomputable def r_impl_WeightedVote : List PK := [{ t := Ty.int IntKind.i64 }, { t := Ty.bool }]
noncomputable def q_impl_WeightedVote : List PK := [{ t := Ty.slice (3 : Nat) (Ty.int IntKind.i64) }, { t := Ty.slice (3 : Nat) (Ty.int IntKind.i64) }]
noncomputable def to_impl_WeightedVote (r : Int × Bool) : Tup r_impl_WeightedVote × OutD := ((r.1, r.2, ()), none)
noncomputable def of_impl_WeightedVote : Tup r_impl_WeightedVote × OutD → Option (Int × Bool)
  | (a, none) => some (a.1, a.2.1)
  | _ => none
theorem to_of_impl_WeightedVote : ∀ b r, of_impl_WeightedVote b = some r → to_impl_WeightedVote r = b := by
  rintro ⟨a, o⟩ r h
  cases o with
  | none => injection h with h; subst h; rfl
  | some _ => cases h
noncomputable def f_impl_WeightedVote_0 : Nat → Int → Int → Int → Int → Int → Int → Int → Int → Int → Int → List Int → List Int → Int → Int → Option (LR (Int × Int × Int × Int × Int × Int × Int × Int × Int × Int × List Int) (Int × Bool))
  | 0, _, _, _, _, _, _, _, _, _, _, _, _, _, _ => none
  | k + 1, b1_0, b1_1, b1_2, b1_3, b1_4, b1_5, b1_6, b1_7, b1_8, b1_9, v0, v22, v23, v24 =>
    if decide (v24 < v23) = true then if (0 : Int) ≤ v24 then if v24 < (↑(List.length v22) : Int) then if decide (List.getD v22 (Int.toNat v24) (0 : Int) < (0 : Int)) = true then some (LR.ret ((0 : Int), false)) else if decide (List.getD v22 (Int.toNat v24) (0 : Int) > (100 : Int)) = true then some (LR.ret ((0 : Int), false)) else if (0 : Int) ≤ v24 then if v24 < (↑(List.length v0) : Int) then if (0 : Int) ≤ List.getD v0 (Int.toNat v24) (0 : Int) then if List.getD v0 (Int.toNat v24) (0 : Int) < (↑(10 : Nat) : Int) then if Int.toNat (List.getD v0 (Int.toNat v24) (0 : Int)) < List.length [b1_0, b1_1, b1_2, b1_3, b1_4, b1_5, b1_6, b1_7, b1_8, b1_9] then if (0 : Int) ≤ List.getD v0 (Int.toNat v24) (0 : Int) then if List.getD v0 (Int.toNat v24) (0 : Int) < (↑(10 : Nat) : Int) then if Int.toNat (List.getD v0 (Int.toNat v24) (0 : Int)) < List.length [b1_0, b1_1, b1_2, b1_3, b1_4, b1_5, b1_6, b1_7, b1_8, b1_9] then f_impl_WeightedVote_0 k (List.getD (List.set [b1_0, b1_1, b1_2, b1_3, b1_4, b1_5, b1_6, b1_7, b1_8, b1_9] (Int.toNat (List.getD v0 (Int.toNat v24) (0 : Int))) (wrap64 (List.getD [b1_0, b1_1, b1_2, b1_3, b1_4, b1_5, b1_6, b1_7, b1_8, b1_9] (Int.toNat (List.getD v0 (Int.toNat v24) (0 : Int))) (0 : Int) + List.getD v22 (Int.toNat v24) (0 : Int)))) (0 : Nat) (0 : Int)) (List.getD (List.set [b1_0, b1_1, b1_2, b1_3, b1_4, b1_5, b1_6, b1_7, b1_8, b1_9] (Int.toNat (List.getD v0 (Int.toNat v24) (0 : Int))) (wrap64 (List.getD [b1_0, b1_1, b1_2, b1_3, b1_4, b1_5, b1_6, b1_7, b1_8, b1_9] (Int.toNat (List.getD v0 (Int.toNat v24) (0 : Int))) (0 : Int) + List.getD v22 (Int.toNat v24) (0 : Int)))) ((0 : Nat) + (1 : Nat)) (0 : Int)) (List.getD (List.set [b1_0, b1_1, b1_2, b1_3, b1_4, b1_5, b1_6, b1_7, b1_8, b1_9] (Int.toNat (List.getD v0 (Int.toNat v24) (0 : Int))) (wrap64 (List.getD [b1_0, b1_1, b1_2, b1_3, b1_4, b1_5, b1_6, b1_7, b1_8, b1_9] (Int.toNat (List.getD v0 (Int.toNat v24) (0 : Int))) (0 : Int) + List.getD v22 (Int.toNat v24) (0 : Int)))) ((0 : Nat) + (1 : Nat) + (1 : Nat)) (0 : Int)) (List.getD (List.set [b1_0, b1_1, b1_2, b1_3, b1_4, b1_5, b1_6, b1_7, b1_8, b1_9] (Int.toNat (List.getD v0 (Int.toNat v24) (0 : Int))) (wrap64 (List.getD [b1_0, b1_1, b1_2, b1_3, b1_4, b1_5, b1_6, b1_7, b1_8, b1_9] (Int.toNat (List.getD v0 (Int.toNat v24) (0 : Int))) (0 : Int) + List.getD v22 (Int.toNat v24) (0 : Int)))) ((0 : Nat) + (1 : Nat) + (1 : Nat) + (1 : Nat)) (0 : Int)) (List.getD (List.set [b1_0, b1_1, b1_2, b1_3, b1_4, b1_5, b1_6, b1_7, b1_8, b1_9] (Int.toNat (List.getD v0 (Int.toNat v24) (0 : Int))) (wrap64 (List.getD [b1_0, b1_1, b1_2, b1_3, b1_4, b1_5, b1_6, b1_7, b1_8, b1_9] (Int.toNat (List.getD v0 (Int.toNat v24) (0 : Int))) (0 : Int) + List.getD v22 (Int.toNat v24) (0 : Int)))) ((0 : Nat) + (1 : Nat) + (1 : Nat) + (1 : Nat) + (1 : Nat)) (0 : Int)) (List.getD (List.set [b1_0, b1_1, b1_2, b1_3, b1_4, b1_5, b1_6, b1_7, b1_8, b1_9] (Int.toNat (List.getD v0 (Int.toNat v24) (0 : Int))) (wrap64 (List.getD [b1_0, b1_1, b1_2, b1_3, b1_4, b1_5, b1_6, b1_7, b1_8, b1_9] (Int.toNat (List.getD v0 (Int.toNat v24) (0 : Int))) (0 : Int) + List.getD v22 (Int.toNat v24) (0 : Int)))) ((0 : Nat) + (1 : Nat) + (1 : Nat) + (1 : Nat) + (1 : Nat) + (1 : Nat)) (0 : Int)) (List.getD (List.set [b1_0, b1_1, b1_2, b1_3, b1_4, b1_5, b1_6, b1_7, b1_8, b1_9] (Int.toNat (List.getD v0 (Int.toNat v24) (0 : Int))) (wrap64 (List.getD [b1_0, b1_1, b1_2, b1_3, b1_4, b1_5, b1_6, b1_7, b1_8, b1_9] (Int.toNat (List.getD v0 (Int.toNat v24) (0 : Int))) (0 : Int) + List.getD v22 (Int.toNat v24) (0 : Int)))) ((0 : Nat) + (1 : Nat) + (1 : Nat) + (1 : Nat) + (1 : Nat) + (1 : Nat) + (1 : Nat)) (0 : Int)) (List.getD (List.set [b1_0, b1_1, b1_2, b1_3, b1_4, b1_5, b1_6, b1_7, b1_8, b1_9] (Int.toNat (List.getD v0 (Int.toNat v24) (0 : Int))) (wrap64 (List.getD [b1_0, b1_1, b1_2, b1_3, b1_4, b1_5, b1_6, b1_7, b1_8, b1_9] (Int.toNat (List.getD v0 (Int.toNat v24) (0 : Int))) (0 : Int) + List.getD v22 (Int.toNat v24) (0 : Int)))) ((0 : Nat) + (1 : Nat) + (1 : Nat) + (1 : Nat) + (1 : Nat) + (1 : Nat) + (1 : Nat) + (1 : Nat)) (0 : Int)) (List.getD (List.set [b1_0, b1_1, b1_2, b1_3, b1_4, b1_5, b1_6, b1_7, b1_8, b1_9] (Int.toNat (List.getD v0 (Int.toNat v24) (0 : Int))) (wrap64 (List.getD [b1_0, b1_1, b1_2, b1_3, b1_4, b1_5, b1_6, b1_7, b1_8, b1_9] (Int.toNat (List.getD v0 (Int.toNat v24) (0 : Int))) (0 : Int) + List.getD v22 (Int.toNat v24) (0 : Int)))) ((0 : Nat) + (1 : Nat) + (1 : Nat) + (1 : Nat) + (1 : Nat) + (1 : Nat) + (1 : Nat) + (1 : Nat) + (1 : Nat)) (0 : Int)) (List.getD (List.set [b1_0, b1_1, b1_2, b1_3, b1_4, b1_5, b1_6, b1_7, b1_8, b1_9] (Int.toNat (List.getD v0 (Int.toNat v24) (0 : Int))) (wrap64 (List.getD [b1_0, b1_1, b1_2, b1_3, b1_4, b1_5, b1_6, b1_7, b1_8, b1_9] (Int.toNat (List.getD v0 (Int.toNat v24) (0 : Int))) (0 : Int) + List.getD v22 (Int.toNat v24) (0 : Int)))) ((0 : Nat) + (1 : Nat) + (1 : Nat) + (1 : Nat) + (1 : Nat) + (1 : Nat) + (1 : Nat) + (1 : Nat) + (1 : Nat) + (1 : Nat)) (0 : Int)) v0 v22 v23 (wrap64 (v24 + (1 : Int))) else none else none else none else none else none else none else none else none else none else none else some (LR.go (b1_0, b1_1, b1_2, b1_3, b1_4, b1_5, b1_6, b1_7, b1_8, b1_9, v0))
noncomputable def f_impl_WeightedVote_0i : Spec := { objs := [OSh.ro, OSh.box (77 : Nat) [Sh.int IntKind.i64, Sh.int IntKind.i64, Sh.int IntKind.i64, Sh.int IntKind.i64, Sh.int IntKind.i64, Sh.int IntKind.i64, Sh.int IntKind.i64, Sh.int IntKind.i64, Sh.int IntKind.i64, Sh.int IntKind.i64]], tmps := [((0 : Nat), TSh.at (Sh.snap (0 : Nat) (Ty.int IntKind.i64))), ((6 : Nat), TSh.at (Sh.ptr (1 : Nat) (0 : Nat))), ((22 : Nat), TSh.at (Sh.snap (0 : Nat) (Ty.int IntKind.i64))), ((23 : Nat), TSh.at (Sh.int IntKind.i64)), ((24 : Nat), TSh.at (Sh.int IntKind.i64))] }
noncomputable def f_impl_WeightedVote_0o : Spec := { objs := [OSh.ro, OSh.box (77 : Nat) [Sh.int IntKind.i64, Sh.int IntKind.i64, Sh.int IntKind.i64, Sh.int IntKind.i64, Sh.int IntKind.i64, Sh.int IntKind.i64, Sh.int IntKind.i64, Sh.int IntKind.i64, Sh.int IntKind.i64, Sh.int IntKind.i64]], tmps := [((0 : Nat), TSh.at (Sh.snap (0 : Nat) (Ty.int IntKind.i64))), ((6 : Nat), TSh.at (Sh.ptr (1 : Nat) (0 : Nat)))] }
noncomputable def f_impl_WeightedVote_0D : LoopDef (Tup r_impl_WeightedVote × OutD) := .rets f_impl_WeightedVote_0i f_impl_WeightedVote_0o (Int × Int × Int × Int × Int × Int × Int × Int × Int × Int × List Int) (Int × Bool) (fun k x => f_impl_WeightedVote_0 k x.1.2.1.1 x.1.2.1.2.1 x.1.2.1.2.2.1 x.1.2.1.2.2.2.1 x.1.2.1.2.2.2.2.1 x.1.2.1.2.2.2.2.2.1 x.1.2.1.2.2.2.2.2.2.1 x.1.2.1.2.2.2.2.2.2.2.1 x.1.2.1.2.2.2.2.2.2.2.2.1 x.1.2.1.2.2.2.2.2.2.2.2.2.1 x.2.1 x.2.2.2.1 x.2.2.2.2.1 x.2.2.2.2.2.1) (fun z => (((), (z.1, z.2.1, z.2.2.1, z.2.2.2.1, z.2.2.2.2.1, z.2.2.2.2.2.1, z.2.2.2.2.2.2.1, z.2.2.2.2.2.2.2.1, z.2.2.2.2.2.2.2.2.1, z.2.2.2.2.2.2.2.2.2.1, ()), ()), (z.2.2.2.2.2.2.2.2.2.2, (), ()))) (fun y => (y.1.2.1.1, y.1.2.1.2.1, y.1.2.1.2.2.1, y.1.2.1.2.2.2.1, y.1.2.1.2.2.2.2.1, y.1.2.1.2.2.2.2.2.1, y.1.2.1.2.2.2.2.2.2.1, y.1.2.1.2.2.2.2.2.2.2.1, y.1.2.1.2.2.2.2.2.2.2.2.1, y.1.2.1.2.2.2.2.2.2.2.2.2.1, y.2.1)) (fun _ => rfl) to_impl_WeightedVote of_impl_WeightedVote to_of_impl_WeightedVote
noncomputable def f_impl_WeightedVote_2 : Nat → Int → Int → Int → Int → Int → Int → Int → Int → Int → Int → List Int → Int → Int → Option Int
  | 0, _, _, _, _, _, _, _, _, _, _, _, _, _ => none
  | k + 1, b1_0, b1_1, b1_2, b1_3, b1_4, b1_5, b1_6, b1_7, b1_8, b1_9, v0, v9, v45 =>
    if decide (v45 < (10 : Int)) = true then Option.bind (f_slices_Contains_int_int k v0 v45) fun z2 => if z2 = true then if decide (v9 < (0 : Int)) = true then f_impl_WeightedVote_2 k b1_0 b1_1 b1_2 b1_3 b1_4 b1_5 b1_6 b1_7 b1_8 b1_9 v0 v45 (wrap64 (v45 + (1 : Int))) else if (0 : Int) ≤ v45 then if v45 < (↑(10 : Nat) : Int) then if Int.toNat v45 < List.length [b1_0, b1_1, b1_2, b1_3, b1_4, b1_5, b1_6, b1_7, b1_8, b1_9] then if (0 : Int) ≤ v9 then if v9 < (↑(10 : Nat) : Int) then if Int.toNat v9 < List.length [b1_0, b1_1, b1_2, b1_3, b1_4, b1_5, b1_6, b1_7, b1_8, b1_9] then if decide (List.getD [b1_0, b1_1, b1_2, b1_3, b1_4, b1_5, b1_6, b1_7, b1_8, b1_9] (Int.toNat v45) (0 : Int) > List.getD [b1_0, b1_1, b1_2, b1_3, b1_4, b1_5, b1_6, b1_7, b1_8, b1_9] (Int.toNat v9) (0 : Int)) = true then f_impl_WeightedVote_2 k b1_0 b1_1 b1_2 b1_3 b1_4 b1_5 b1_6 b1_7 b1_8 b1_9 v0 v45 (wrap64 (v45 + (1 : Int))) else f_impl_WeightedVote_2 k b1_0 b1_1 b1_2 b1_3 b1_4 b1_5 b1_6 b1_7 b1_8 b1_9 v0 v9 (wrap64 (v45 + (1 : Int))) else none else none else none else none else none else none else f_impl_WeightedVote_2 k b1_0 b1_1 b1_2 b1_3 b1_4 b1_5 b1_6 b1_7 b1_8 b1_9 v0 v9 (wrap64 (v45 + (1 : Int))) else some v9
noncomputable def f_impl_WeightedVote_2i : Spec := { objs := [OSh.ro, OSh.box (77 : Nat) [Sh.int IntKind.i64, Sh.int IntKind.i64, Sh.int IntKind.i64, Sh.int IntKind.i64, Sh.int IntKind.i64, Sh.int IntKind.i64, Sh.int IntKind.i64, Sh.int IntKind.i64, Sh.int IntKind.i64, Sh.int IntKind.i64]], tmps := [((0 : Nat), TSh.at (Sh.snap (0 : Nat) (Ty.int IntKind.i64))), ((6 : Nat), TSh.at (Sh.ptr (1 : Nat) (0 : Nat))), ((9 : Nat), TSh.at (Sh.int IntKind.i64)), ((45 : Nat), TSh.at (Sh.int IntKind.i64))] }
noncomputable def f_impl_WeightedVote_2o : Spec := { objs := [OSh.ro], tmps := [((9 : Nat), TSh.at (Sh.int IntKind.i64))] }
noncomputable def f_impl_WeightedVote_2D : LoopDef (Tup r_impl_WeightedVote × OutD) := .plain f_impl_WeightedVote_2i f_impl_WeightedVote_2o (Int) (fun k x => f_impl_WeightedVote_2 k x.1.2.1.1 x.1.2.1.2.1 x.1.2.1.2.2.1 x.1.2.1.2.2.2.1 x.1.2.1.2.2.2.2.1 x.1.2.1.2.2.2.2.2.1 x.1.2.1.2.2.2.2.2.2.1 x.1.2.1.2.2.2.2.2.2.2.1 x.1.2.1.2.2.2.2.2.2.2.2.1 x.1.2.1.2.2.2.2.2.2.2.2.2.1 x.2.1 x.2.2.2.1 x.2.2.2.2.1) (fun z => (((), ()), (z, ()))) (fun y => (y.2.1)) (fun _ => rfl)
noncomputable def f_impl_WeightedVote : Nat → List Int → List Int → Option (Int × Bool)
  | 0, _, _ => none
  | k + 1, p0, p1 =>
    Option.bind (f_impl_areVotes k p0) fun z0 => if (!z0) = true then some ((0 : Int), false) else if decide ((↑(List.length p1) : Int) ≠ (↑(List.length p0) : Int)) = true then some ((0 : Int), false) else Option.bind (f_impl_WeightedVote_0 k (0 : Int) (0 : Int) (0 : Int) (0 : Int) (0 : Int) (0 : Int) (0 : Int) (0 : Int) (0 : Int) (0 : Int) p0 p1 (↑(List.length p1) : Int) (0 : Int)) fun z1 => LR.on z1 (fun y1 => Option.bind (f_impl_WeightedVote_2 k (Prod.fst y1) (Prod.fst (Prod.snd y1)) (Prod.fst (Prod.snd (Prod.snd y1))) (Prod.fst (Prod.snd (Prod.snd (Prod.snd y1)))) (Prod.fst (Prod.snd (Prod.snd (Prod.snd (Prod.snd y1))))) (Prod.fst (Prod.snd (Prod.snd (Prod.snd (Prod.snd (Prod.snd y1)))))) (Prod.fst (Prod.snd (Prod.snd (Prod.snd (Prod.snd (Prod.snd (Prod.snd y1))))))) (Prod.fst (Prod.snd (Prod.snd (Prod.snd (Prod.snd (Prod.snd (Prod.snd (Prod.snd y1)))))))) (Prod.fst (Prod.snd (Prod.snd (Prod.snd (Prod.snd (Prod.snd (Prod.snd (Prod.snd (Prod.snd y1))))))))) (Prod.fst (Prod.snd (Prod.snd (Prod.snd (Prod.snd (Prod.snd (Prod.snd (Prod.snd (Prod.snd (Prod.snd y1)))))))))) (Prod.snd (Prod.snd (Prod.snd (Prod.snd (Prod.snd (Prod.snd (Prod.snd (Prod.snd (Prod.snd (Prod.snd y1)))))))))) (-1 : Int) (0 : Int)) fun z3 => some (z3, true)) fun r1 => some r1
noncomputable def d_impl_WeightedVote : FnDef := .of q_impl_WeightedVote r_impl_WeightedVote (Int × Bool) (fun k x => f_impl_WeightedVote k x.1 x.2.1) to_impl_WeightedVote of_impl_WeightedVote to_of_impl_WeightedVote
noncomputable def c_impl_WeightedVote : Code := Try.f30.body.getD .skip
noncomputable def x_impl_WeightedVote : Ctx (Tup r_impl_WeightedVote × OutD) := { T := T, G := [(57, d_impl_areVotes.E), (65, d_slices_Contains_int_int.E)], mvs := [], no := 0, n := 67, res := resOf T q_impl_WeightedVote r_impl_WeightedVote Try.f30.results.toList, loops := [(0, f_impl_WeightedVote_0D.E), (2, f_impl_WeightedVote_2D.E)], regs := [], conds := [] }
theorem g_impl_WeightedVote (k : Nat) : EnvOK Try.prog k x_impl_WeightedVote.G := (EnvOK.cons (s_impl_areVotes k) (EnvOK.cons (s_slices_Contains_int_int k) (EnvOK.nil mixed)))
noncomputable def f_impl_WeightedVote_0B : Code := (findLoop 0 c_impl_WeightedVote).getD .skip
theorem f_impl_WeightedVote_0h (k : Nat) (x : f_impl_WeightedVote_0i.D) : f_impl_WeightedVote_0D.lp (k + 1) x = loopK x_impl_WeightedVote f_impl_WeightedVote_0D 0 f_impl_WeightedVote_0B k x := by kernel_rfl
theorem f_impl_WeightedVote_0l (k : Nat) : LOK Try.prog x_impl_WeightedVote k f_impl_WeightedVote_0B := LOK.by [] (by kernel_rfl) AllOK.nil
theorem f_impl_WeightedVote_0z (x : f_impl_WeightedVote_0i.D) : f_impl_WeightedVote_0D.lp 0 x = none := by kernel_rfl
theorem f_impl_WeightedVote_0ok (k : Nat) : EOK Try.prog x_impl_WeightedVote k f_impl_WeightedVote_0D.E (.block 0 (.loop f_impl_WeightedVote_0B)) := loop_ok T_ok g_impl_WeightedVote f_impl_WeightedVote_0z f_impl_WeightedVote_0h f_impl_WeightedVote_0l k
noncomputable def f_impl_WeightedVote_2B : Code := (findLoop 2 c_impl_WeightedVote).getD .skip
theorem f_impl_WeightedVote_2h (k : Nat) (x : f_impl_WeightedVote_2i.D) : f_impl_WeightedVote_2D.lp (k + 1) x = loopK x_impl_WeightedVote f_impl_WeightedVote_2D 2 f_impl_WeightedVote_2B k x := by kernel_rfl
theorem f_impl_WeightedVote_2l (k : Nat) : LOK Try.prog x_impl_WeightedVote k f_impl_WeightedVote_2B := LOK.by [] (by kernel_rfl) AllOK.nil
theorem f_impl_WeightedVote_2z (x : f_impl_WeightedVote_2i.D) : f_impl_WeightedVote_2D.lp 0 x = none := by kernel_rfl
theorem f_impl_WeightedVote_2ok (k : Nat) : EOK Try.prog x_impl_WeightedVote k f_impl_WeightedVote_2D.E (.block 2 (.loop f_impl_WeightedVote_2B)) := loop_ok T_ok g_impl_WeightedVote f_impl_WeightedVote_2z f_impl_WeightedVote_2h f_impl_WeightedVote_2l k
theorem h_impl_WeightedVote (k : Nat) (x : Tup d_impl_WeightedVote.ps) : d_impl_WeightedVote.f (k + 1) x = fnK d_impl_WeightedVote x_impl_WeightedVote c_impl_WeightedVote k x := by kernel_rfl
theorem z_impl_WeightedVote (x : Tup d_impl_WeightedVote.ps) : d_impl_WeightedVote.f 0 x = none := by kernel_rfl
theorem l_impl_WeightedVote (k : Nat) : LOK Try.prog x_impl_WeightedVote k c_impl_WeightedVote := LOK.by [(f_impl_WeightedVote_0D.E, .block 0 (.loop f_impl_WeightedVote_0B)), (f_impl_WeightedVote_2D.E, .block 2 (.loop f_impl_WeightedVote_2B))] (by kernel_rfl) (AllOK.cons (f_impl_WeightedVote_0ok k) (AllOK.cons (f_impl_WeightedVote_2ok k) AllOK.nil))
theorem s_impl_WeightedVote (k : Nat) : SoundAt Try.prog k 30 d_impl_WeightedVote.E := @fn_all Try.prog d_impl_WeightedVote x_impl_WeightedVote 30 Try.f30 c_impl_WeightedVote (by kernel_rfl) (by kernel_rfl) (by kernel_rfl) Try.func30 (by kernel_rfl) (by kernel_rfl) (by kernel_rfl) T_ok g_impl_WeightedVote l_impl_WeightedVote z_impl_WeightedVote h_impl_WeightedVote k
/-! function 33 -/
/-! function 34 -/
/-! function 35 -/
/-! function 39 -/
/-! function 42 -/
/-! function 47 -/
/-! function 50 -/
/-! function 52 -/
/-! function 54 -/
noncomputable def r_spec_voVotes : List PK := [{ t := Ty.bool }]
noncomputable def q_spec_voVotes : List PK := [{ t := Ty.slice (3 : Nat) (Ty.int IntKind.i64) }]
noncomputable def to_spec_voVotes (r : Bool) : Tup r_spec_voVotes × OutD := ((r, ()), none)
noncomputable def of_spec_voVotes : Tup r_spec_voVotes × OutD → Option (Bool)
  | (a, none) => some (a.1)
  | _ => none
theorem to_of_spec_voVotes : ∀ b r, of_spec_voVotes b = some r → to_spec_voVotes r = b := by
  rintro ⟨a, o⟩ r h
  cases o with
  | none => injection h with h; subst h; rfl
  | some _ => cases h
noncomputable def f_spec_voVotes : Nat → List Int → Option Bool
  | 0, _ => none
  | k + 1, p0 =>
    Option.bind (f_spec_l1In k (↑(List.length p0) : Int) (1 : Int) (9 : Int)) fun z0 => if z0 = true then Option.bind (f_spec_l1All k p0 (0 : Int) (9 : Int)) fun z1 => some z1 else some false
noncomputable def d_spec_voVotes : FnDef := .of q_spec_voVotes r_spec_voVotes (Bool) (fun k x => f_spec_voVotes k x.1) to_spec_voVotes of_spec_voVotes to_of_spec_voVotes
noncomputable def c_spec_voVotes : Code := Try.f54.body.getD .skip
noncomputable def x_spec_voVotes : Ctx (Tup r_spec_voVotes × OutD) := { T := T, G := [(55, d_spec_l1In.E), (63, d_spec_l1All.E)], mvs := [], no := 0, n := 10, res := resOf T q_spec_voVotes r_spec_voVotes Try.f54.results.toList, loops := [], regs := [], conds := [] }
theorem g_spec_voVotes (k : Nat) : EnvOK Try.prog k x_spec_voVotes.G := (EnvOK.cons (s_spec_l1In k) (EnvOK.cons (s_spec_l1All k) (EnvOK.nil mixed)))
theorem h_spec_voVotes (k : Nat) (x : Tup d_spec_voVotes.ps) : d_spec_voVotes.f (k + 1) x = fnK d_spec_voVotes x_spec_voVotes c_spec_voVotes k x := by kernel_rfl
theorem z_spec_voVotes (x : Tup d_spec_voVotes.ps) : d_spec_voVotes.f 0 x = none := by kernel_rfl
theorem l_spec_voVotes (k : Nat) : LOK Try.prog x_spec_voVotes k c_spec_voVotes := LOK.by [] (by kernel_rfl) AllOK.nil
theorem s_spec_voVotes (k : Nat) : SoundAt Try.prog k 54 d_spec_voVotes.E := @fn_all Try.prog d_spec_voVotes x_spec_voVotes 54 Try.f54 c_spec_voVotes (by kernel_rfl) (by kernel_rfl) (by kernel_rfl) Try.func54 (by kernel_rfl) (by kernel_rfl) (by kernel_rfl) T_ok g_spec_voVotes l_spec_voVotes z_spec_voVotes h_spec_voVotes k
/-! function 68 -/
/-! function 73 -/
/-! function 83 -/
/-! function 85 -/
/-! function 90 -/
/-! function 97 -/
end
end Go.Proofs.Ytcmndffpmjinlaa.Vs

set_option maxRecDepth 100000
set_option linter.unusedVariables false
set_option linter.unusedSimpArgs false
namespace Go.Proofs.Ytcmndffpmjinlaa.Vs
open Go.RowKit
noncomputable section
/-! function 3 -/
/-! function 17 -/
/-! function 23 -/
/-! function 27 -/
/-! function 29 -/
noncomputable def r_spec_WeightedVote : List PK := [{ t := Ty.int IntKind.i64 }, { t := Ty.bool }]
noncomputable def q_spec_WeightedVote : List PK := [{ t := Ty.slice (3 : Nat) (Ty.int IntKind.i64) }, { t := Ty.slice (3 : Nat) (Ty.int IntKind.i64) }]
noncomputable def to_spec_WeightedVote (r : Int × Bool) : Tup r_spec_WeightedVote × OutD := ((r.1, r.2, ()), none)
noncomputable def of_spec_WeightedVote : Tup r_spec_WeightedVote × OutD → Option (Int × Bool)
  | (a, none) => some (a.1, a.2.1)
  | _ => none
theorem to_of_spec_WeightedVote : ∀ b r, of_spec_WeightedVote b = some r → to_spec_WeightedVote r = b := by
  rintro ⟨a, o⟩ r h
  cases o with
  | none => injection h with h; subst h; rfl
  | some _ => cases h
noncomputable def f_spec_WeightedVote_0 : Nat → List Int → List Int → List Int → Int → List Int → Int → Int → Option (List Int × List Int × Int)
  | 0, _, _, _, _, _, _, _ => none
  | k + 1, o1, v0, v1, v7, v28, v29, v30 =>
    if decide (v30 < v29) = true then if (0 : Int) ≤ v30 then if v30 < (↑(List.length v28) : Int) then if (0 : Int) ≤ List.getD v28 (Int.toNat v30) (0 : Int) then if List.getD v28 (Int.toNat v30) (0 : Int) < (↑(List.length o1) : Int) then if (0 : Int) ≤ v30 then if v30 < (↑(List.length v1) : Int) then if (0 : Int) ≤ List.getD v28 (Int.toNat v30) (0 : Int) then if List.getD v28 (Int.toNat v30) (0 : Int) < (↑(List.length o1) : Int) then f_spec_WeightedVote_0 k (List.set o1 (Int.toNat (List.getD v28 (Int.toNat v30) (0 : Int))) (wrap64 (List.getD o1 (Int.toNat (List.getD v28 (Int.toNat v30) (0 : Int))) (0 : Int) + List.getD v1 (Int.toNat v30) (0 : Int)))) v0 v1 v7 v28 v29 (wrap64 (v30 + (1 : Int))) else none else none else none else none else none else none else none else none else some (o1, v0, v7)
noncomputable def f_spec_WeightedVote_0i : Spec := { objs := [OSh.ro, OSh.row true (3 : Nat) (Ty.int IntKind.i64)], tmps := [((0 : Nat), TSh.at (Sh.snap (0 : Nat) (Ty.int IntKind.i64))), ((1 : Nat), TSh.at (Sh.snap (0 : Nat) (Ty.int IntKind.i64))), ((6 : Nat), TSh.at (Sh.sl (1 : Nat))), ((7 : Nat), TSh.at (Sh.int IntKind.i64)), ((28 : Nat), TSh.at (Sh.snap (0 : Nat) (Ty.int IntKind.i64))), ((29 : Nat), TSh.at (Sh.int IntKind.i64)), ((30 : Nat), TSh.at (Sh.int IntKind.i64))] }
noncomputable def f_spec_WeightedVote_0o : Spec := { objs := [OSh.ro, OSh.row true (3 : Nat) (Ty.int IntKind.i64)], tmps := [((0 : Nat), TSh.at (Sh.snap (0 : Nat) (Ty.int IntKind.i64))), ((6 : Nat), TSh.at (Sh.sl (1 : Nat))), ((7 : Nat), TSh.at (Sh.int IntKind.i64))] }
noncomputable def f_spec_WeightedVote_0D : LoopDef (Tup r_spec_WeightedVote × OutD) := .plain f_spec_WeightedVote_0i f_spec_WeightedVote_0o (List Int × List Int × Int) (fun k x => f_spec_WeightedVote_0 k x.1.2.1 x.2.1 x.2.2.1 x.2.2.2.2.1 x.2.2.2.2.2.1 x.2.2.2.2.2.2.1 x.2.2.2.2.2.2.2.1) (fun z => (((), z.1, ()), (z.2.1, (), z.2.2, ()))) (fun y => (y.1.2.1, y.2.1, y.2.2.2.1)) (fun _ => rfl)
noncomputable def f_spec_WeightedVote_2 : Nat → List Int → List Int → Int → Int → Int → Option Int
  | 0, _, _, _, _, _ => none
  | k + 1, o1, v0, v7, v47, v48 =>
    if decide (v48 < v47) = true then if (0 : Int) ≤ v48 then if v48 < (↑(List.length o1) : Int) then Option.bind (f_spec_l1Has k v0 v48) fun z3 => if z3 = true then if decide (v7 < (0 : Int)) = true then f_spec_WeightedVote_2 k o1 v0 v48 v47 (wrap64 (v48 + (1 : Int))) else if (0 : Int) ≤ v7 then if v7 < (↑(List.length o1) : Int) then if decide (List.getD o1 (Int.toNat v48) (0 : Int) > List.getD o1 (Int.toNat v7) (0 : Int)) = true then f_spec_WeightedVote_2 k o1 v0 v48 v47 (wrap64 (v48 + (1 : Int))) else f_spec_WeightedVote_2 k o1 v0 v7 v47 (wrap64 (v48 + (1 : Int))) else none else none else f_spec_WeightedVote_2 k o1 v0 v7 v47 (wrap64 (v48 + (1 : Int))) else none else none else some v7
noncomputable def f_spec_WeightedVote_2i : Spec := { objs := [OSh.ro, OSh.row true (3 : Nat) (Ty.int IntKind.i64)], tmps := [((0 : Nat), TSh.at (Sh.snap (0 : Nat) (Ty.int IntKind.i64))), ((6 : Nat), TSh.at (Sh.sl (1 : Nat))), ((7 : Nat), TSh.at (Sh.int IntKind.i64)), ((46 : Nat), TSh.at (Sh.sl (1 : Nat))), ((47 : Nat), TSh.at (Sh.int IntKind.i64)), ((48 : Nat), TSh.at (Sh.int IntKind.i64))] }
noncomputable def f_spec_WeightedVote_2o : Spec := { objs := [OSh.ro], tmps := [((7 : Nat), TSh.at (Sh.int IntKind.i64))] }
noncomputable def f_spec_WeightedVote_2D : LoopDef (Tup r_spec_WeightedVote × OutD) := .plain f_spec_WeightedVote_2i f_spec_WeightedVote_2o (Int) (fun k x => f_spec_WeightedVote_2 k x.1.2.1 x.2.1 x.2.2.2.1 x.2.2.2.2.2.1 x.2.2.2.2.2.2.1) (fun z => (((), ()), (z, ()))) (fun y => (y.2.1)) (fun _ => rfl)
noncomputable def f_spec_WeightedVote : Nat → List Int → List Int → Option (Int × Bool)
  | 0, _, _ => none
  | k + 1, p0, p1 =>
    Option.bind (f_spec_voVotes k p0) fun z0 => if (!z0) = true then some ((0 : Int), false) else if decide ((↑(List.length p1) : Int) ≠ (↑(List.length p0) : Int)) = true then some ((0 : Int), false) else Option.bind (f_spec_l1All k p1 (0 : Int) (100 : Int)) fun z1 => if (!z1) = true then some ((0 : Int), false) else Option.bind (f_spec_WeightedVote_0 k (List.replicate (Int.toNat (10 : Int)) (0 : Int)) p0 p1 (-1 : Int) p0 (↑(List.length p0) : Int) (0 : Int)) fun z2 => Option.bind (f_spec_WeightedVote_2 k (Prod.fst z2) (Prod.fst (Prod.snd z2)) (Prod.snd (Prod.snd z2)) (↑(List.length (Prod.fst z2)) : Int) (0 : Int)) fun z4 => some (z4, true)
noncomputable def d_spec_WeightedVote : FnDef := .of q_spec_WeightedVote r_spec_WeightedVote (Int × Bool) (fun k x => f_spec_WeightedVote k x.1 x.2.1) to_spec_WeightedVote of_spec_WeightedVote to_of_spec_WeightedVote
noncomputable def c_spec_WeightedVote : Code := Try.f29.body.getD .skip
noncomputable def x_spec_WeightedVote : Ctx (Tup r_spec_WeightedVote × OutD) := { T := T, G := [(54, d_spec_voVotes.E), (63, d_spec_l1All.E), (64, d_spec_l1Has.E)], mvs := [], no := 0, n := 71, res := resOf T q_spec_WeightedVote r_spec_WeightedVote Try.f29.results.toList, loops := [(0, f_spec_WeightedVote_0D.E), (2, f_spec_WeightedVote_2D.E)], regs := [], conds := [] }
theorem g_spec_WeightedVote (k : Nat) : EnvOK Try.prog k x_spec_WeightedVote.G := (EnvOK.cons (s_spec_voVotes k) (EnvOK.cons (s_spec_l1All k) (EnvOK.cons (s_spec_l1Has k) (EnvOK.nil mixed))))
noncomputable def f_spec_WeightedVote_0B : Code := (findLoop 0 c_spec_WeightedVote).getD .skip
theorem f_spec_WeightedVote_0h (k : Nat) (x : f_spec_WeightedVote_0i.D) : f_spec_WeightedVote_0D.lp (k + 1) x = loopK x_spec_WeightedVote f_spec_WeightedVote_0D 0 f_spec_WeightedVote_0B k x := by kernel_rfl
theorem f_spec_WeightedVote_0l (k : Nat) : LOK Try.prog x_spec_WeightedVote k f_spec_WeightedVote_0B := LOK.by [] (by kernel_rfl) AllOK.nil
theorem f_spec_WeightedVote_0z (x : f_spec_WeightedVote_0i.D) : f_spec_WeightedVote_0D.lp 0 x = none := by kernel_rfl
theorem f_spec_WeightedVote_0ok (k : Nat) : EOK Try.prog x_spec_WeightedVote k f_spec_WeightedVote_0D.E (.block 0 (.loop f_spec_WeightedVote_0B)) := loop_ok T_ok g_spec_WeightedVote f_spec_WeightedVote_0z f_spec_WeightedVote_0h f_spec_WeightedVote_0l k
noncomputable def f_spec_WeightedVote_2B : Code := (findLoop 2 c_spec_WeightedVote).getD .skip
theorem f_spec_WeightedVote_2h (k : Nat) (x : f_spec_WeightedVote_2i.D) : f_spec_WeightedVote_2D.lp (k + 1) x = loopK x_spec_WeightedVote f_spec_WeightedVote_2D 2 f_spec_WeightedVote_2B k x := by kernel_rfl
theorem f_spec_WeightedVote_2l (k : Nat) : LOK Try.prog x_spec_WeightedVote k f_spec_WeightedVote_2B := LOK.by [] (by kernel_rfl) AllOK.nil
theorem f_spec_WeightedVote_2z (x : f_spec_WeightedVote_2i.D) : f_spec_WeightedVote_2D.lp 0 x = none := by kernel_rfl
theorem f_spec_WeightedVote_2ok (k : Nat) : EOK Try.prog x_spec_WeightedVote k f_spec_WeightedVote_2D.E (.block 2 (.loop f_spec_WeightedVote_2B)) := loop_ok T_ok g_spec_WeightedVote f_spec_WeightedVote_2z f_spec_WeightedVote_2h f_spec_WeightedVote_2l k
theorem h_spec_WeightedVote (k : Nat) (x : Tup d_spec_WeightedVote.ps) : d_spec_WeightedVote.f (k + 1) x = fnK d_spec_WeightedVote x_spec_WeightedVote c_spec_WeightedVote k x := by kernel_rfl
theorem z_spec_WeightedVote (x : Tup d_spec_WeightedVote.ps) : d_spec_WeightedVote.f 0 x = none := by kernel_rfl
theorem l_spec_WeightedVote (k : Nat) : LOK Try.prog x_spec_WeightedVote k c_spec_WeightedVote := LOK.by [(f_spec_WeightedVote_0D.E, .block 0 (.loop f_spec_WeightedVote_0B)), (f_spec_WeightedVote_2D.E, .block 2 (.loop f_spec_WeightedVote_2B))] (by kernel_rfl) (AllOK.cons (f_spec_WeightedVote_0ok k) (AllOK.cons (f_spec_WeightedVote_2ok k) AllOK.nil))
theorem s_spec_WeightedVote (k : Nat) : SoundAt Try.prog k 29 d_spec_WeightedVote.E := @fn_all Try.prog d_spec_WeightedVote x_spec_WeightedVote 29 Try.f29 c_spec_WeightedVote (by kernel_rfl) (by kernel_rfl) (by kernel_rfl) Try.func29 (by kernel_rfl) (by kernel_rfl) (by kernel_rfl) T_ok g_spec_WeightedVote l_spec_WeightedVote z_spec_WeightedVote h_spec_WeightedVote k
/-! function 32 -/
/-! function 37 -/
/-! function 41 -/
/-! function 46 -/
/-! function 59 -/
/-! function 82 -/
/-! function 100 -/
end
end Go.Proofs.Ytcmndffpmjinlaa.Vs

set_option maxRecDepth 100000
set_option maxHeartbeats 2000000
set_option linter.unusedVariables false
set_option linter.unusedSimpArgs false
namespace Go.Proofs.Ytcmndffpmjinlaa.Vs
open Go.RowKit
noncomputable section
/-! function 4 -/
/-! function 6 -/
/-! function 8 -/
/-! function 10 -/
/-! function 11 -/
/-! function 12 -/
/-! function 13 -/
/-! function 21 -/
/-! function 25 -/
/-! function 49 -/
/-! function 86 -/
end
end Go.Proofs.Ytcmndffpmjinlaa.Vs

set_option maxRecDepth 100000
set_option maxHeartbeats 2000000
set_option linter.unusedVariables false
set_option linter.unusedSimpArgs false
namespace Go.Proofs.Ytcmndffpmjinlaa.Vs
open Go.RowKit
noncomputable section
/-! function 5 -/
/-! function 7 -/
/-! function 51 -/
end
end Go.Proofs.Ytcmndffpmjinlaa.Vs

set_option maxRecDepth 100000
set_option maxHeartbeats 2000000
set_option linter.unusedVariables false
set_option linter.unusedSimpArgs false
namespace Go.Proofs.Ytcmndffpmjinlaa.Vs
open Go.RowKit
noncomputable section
/-! function 14 -/
end
end Go.Proofs.Ytcmndffpmjinlaa.Vs

set_option linter.unusedVariables false
set_option linter.unusedSimpArgs false
namespace Go.Proofs.Ytcmndffpmjinlaa.Vs
open Go.RowKit
theorem e_spec_l1In (a b c : Int) : Ev (fun k => f_spec_l1In k a b c) (decide (b ≤ a ∧ a ≤ c)) := by
  refine Ev.succ ?_
  simp only [f_spec_l1In]
  refine Ev.of ?_
  by_cases h1 : b ≤ a <;> by_cases h2 : a ≤ c <;> simp [h1, h2]
theorem e_spec_l1All_0 (lo hi : Int) : ∀ (r pre : List Int), (pre ++ r).length ≤ 9223372036854775806 → Ev (fun k => f_spec_l1All_0 k lo hi (pre ++ r) ((pre ++ r).length : Int) (pre.length : Int)) (if r.all (fun n => decide (lo ≤ n ∧ n ≤ hi)) then LR.go () else LR.ret false)
  | [], pre, hl => by
    refine Ev.succ ?_
    simp only [f_spec_l1All_0, nlt_end, decide_false, Bool.false_eq_true, if_false, List.all_nil, if_true]
    exact Ev.some _
  | x :: r, pre, hl => by
    have ih := e_spec_l1All_0 lo hi r (pre ++ [x]) (by simpa using hl)
    refine Ev.succ ?_
    simp only [f_spec_l1All_0, lt_mid, ge_mid, decide_true, if_true, Int.toNat_natCast, getD_mid]
    rw [next_mid pre x r (by omega)]
    rw [← shift_mid] at ih
    refine Ev.bind (e_spec_l1In x lo hi) ?_
    by_cases hx : lo ≤ x ∧ x ≤ hi
    · simp only [hx, and_self, List.all_cons, decide_true, Bool.true_and, Bool.not_true, Bool.false_eq_true, if_false]; exact ih
    · simp only [hx, List.all_cons, decide_false, Bool.false_and, Bool.not_false, if_true, Bool.false_eq_true, if_false]; exact Ev.some _
theorem e_spec_l1All (l : List Int) (lo hi : Int) (hl : l.length ≤ 9223372036854775806) : Ev (fun k => f_spec_l1All k l lo hi) (l.all fun n => decide (lo ≤ n ∧ n ≤ hi)) := by
  refine Ev.succ ?_
  simp only [f_spec_l1All]
  refine Ev.bind (e_spec_l1All_0 lo hi l [] (by simpa using hl)) ?_
  cases hx : l.all fun n => decide (lo ≤ n ∧ n ≤ hi) with
  | true => simp only [if_true]; exact Ev.go (Ev.some _)
  | false => simp only [Bool.false_eq_true, if_false]; exact Ev.ret (Ev.some _)
end Go.Proofs.Ytcmndffpmjinlaa.Vs
