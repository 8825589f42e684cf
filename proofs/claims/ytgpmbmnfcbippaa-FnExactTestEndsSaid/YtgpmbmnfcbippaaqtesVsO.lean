/- The machine runs whole code: loops by name. -/
import Derived.Test.YtgpmbmnfcbippaaqtesVsN
set_option linter.unusedVariables false
set_option linter.unusedSimpArgs false
namespace Go.Proofs.Ytgpmbmnfcbippaa.Vs
open Go.RowKit

/-! ### Nil rows made rows of one's own -/
def rowAt (s : Spec) (i : Nat) : Option (TypeId × Ty) := match s.objs[i]? with | some (.row _ e t) => some (e, t) | _ => none
def fixCells (s : Spec) (j : Nat) (e : TypeId) : Nat → List Sh → St → St
  | _, [], st => st
  | c, .sl i :: l, st => match st.objs[j]? with
    | some (.box e' cells) => match cells[c]? with
      | some .nils => match rowAt s i with
        | some (e1, t) => fixCells s j e (c + 1) l { st.push (.row true e1 t []) with objs := (st.push (.row true e1 t [])).objs.set j (.box e' (cells.set c (.sl st.objs.length))) }
        | none => fixCells s j e (c + 1) l st
      | _ => fixCells s j e (c + 1) l st
    | _ => fixCells s j e (c + 1) l st
  | c, _ :: l, st => fixCells s j e (c + 1) l st
def fixTmps (s : Spec) : List (Tmp × TSh) → St → St
  | [], st => st
  | (d, .at (.sl i)) :: l, st => match st.tmps[d]? with
    | some (.sv (.at .nils)) => match rowAt s i with
      | some (e1, t) => fixTmps s l { st.push (.row true e1 t []) with tmps := st.tmps.set d (.sv (.at (.sl st.objs.length))) }
      | none => fixTmps s l st
    | _ => fixTmps s l st
  | (d, .at (.ptr i 0)) :: l, st => match st.tmps[d]? with
    | some (.sv (.at (.ptr j 0))) => match s.objs[i]? with
      | some (.box e sh) => fixTmps s l (fixCells s j e 0 sh st)
      | _ => fixTmps s l st
    | _ => fixTmps s l st
  | _ :: l, st => fixTmps s l st

/-! ### Which object is which -/
def meet (i j : Nat) (g : List (Option Nat)) : List (Option Nat) := match g[i]? with | some none => g.set i (some j) | _ => g
def Sh.guess : Sh → At → List (Option Nat) → List (Option Nat)
  | .sl i, .sl j, g => meet i j g
  | .snap i _, .snap j _ _, g => meet i j g
  | .ptr i _, .ptr j _, g => meet i j g
  | .inn i, .inn j _, g => meet i j g
  | _, _, g => g
def guessL : List Sh → List At → List (Option Nat) → List (Option Nat)
  | s :: l, x :: xs, g => guessL l xs (s.guess x g)
  | _, _, g => g
def guessT (st : St) : List (Tmp × TSh) → List (Option Nat) → List (Option Nat)
  | [], g => g
  | (d, .at s) :: l, g => guessT st l (match st.tmps[d]? with | some (.sv (.at x)) => s.guess x g | _ => g)
  | (d, .agg ss) :: l, g => guessT st l (match st.tmps[d]? with | some (.sv (.agg xs)) => guessL ss xs g | _ => g)
def guessO (st : St) : Nat → List OSh → List (Option Nat) → List (Option Nat)
  | _, [], g => g
  | i, .box _ ss :: l, g => guessO st (i + 1) l (match g[i]? with
    | some (some j) => match st.objs[j]? with
      | some (.box _ xs) => guessL ss xs g
      | _ => g
    | _ => g)
  | i, _ :: l, g => guessO st (i + 1) l g
def Spec.guess (s : Spec) (no : Nat) (st : St) : List Nat :=
  (guessO st 0 s.objs (guessT st s.tmps ((List.range s.objs.length).map fun i => if i ≤ no then some i else none))).map fun x => x.getD 0
def Spec.enter (s : Spec) (no : Nat) (st : St) : Option s.D :=
  s.fit no (s.guess no (fixTmps s s.tmps st)) (fixTmps s s.tmps st)

section
variable {P : Program} {w w1 w0 : World} {S0 : Own} {st : St} {μ μ' : List ORec} {a : Act}
/-- An object is told anew, of the same cells. -/
theorem Rel.reob (h : Rel w0 S0 st μ a w) {i : Nat} {o o' : Ob} (ho : st.objs[i]? = some o) (hw : o'.owned = true → o.owned = true) (hn : ∀ r, μ[i]? = some r → OR μ w o' r) (hf : ∀ e t xs, o' = .row true e t xs → ∃ e t xs, o = .row true e t xs) : Rel w0 S0 { st with objs := st.objs.set i o' } μ a w := by
  have hob : ∀ (j : Nat) p, (st.objs.set i o')[j]? = some p → (j = i ∧ p = o') ∨ (j ≠ i ∧ st.objs[j]? = some p) := by
    intro j p hp
    rw [List.getElem?_set] at hp
    split at hp
    · rename_i hij
      split at hp
      · injection hp with hp
        exact .inl ⟨hij.symm, hp.symm⟩
      · cases hp
    · rename_i hij
      exact .inr ⟨fun e => hij e.symm, hp⟩
  refine ⟨by simp [h.len], h.tm, h.tv, fun j p q hp hq => ?_, fun j l p rj rl hjl hp hwp hrj hrl k hk => ?_, fun j p q hp hq hwp k hk => ?_, fun j e t xs q hp hq k hk => ?_, h.lt, h.kp, h.df, h.ov⟩
  · rcases hob j p hp with ⟨rfl, rfl⟩ | ⟨hj, hp⟩
    · exact hn q hq
    · exact h.ob j p q hp hq
  · rcases hob j p hp with ⟨rfl, rfl⟩ | ⟨hj, hp⟩
    · exact h.dj j l o rj rl hjl ho (hw hwp) hrj hrl k hk
    · exact h.dj j l p rj rl hjl hp hwp hrj hrl k hk
  · rcases hob j p hp with ⟨rfl, rfl⟩ | ⟨hj, hp⟩
    · exact h.wr j o q ho hq (hw hwp) k hk
    · exact h.wr j p q hp hq hwp k hk
  · rcases hob j _ hp with ⟨rfl, he⟩ | ⟨hj, hp⟩
    · obtain ⟨e', t', xs', rfl⟩ := hf e t xs he.symm
      exact h.fr j e' t' xs' q ho hq k hk
    · exact h.fr j e t xs q hp hq k hk
theorem Rel.nilRow (h : Rel w0 S0 st μ a w) (e : TypeId) (t : Ty) : Rel w0 S0 (st.push (.row true e t [])) (μ ++ [⟨.slice none 0 0, 0, fun _ => False⟩]) a w :=
  h.push (o := .row true e t []) (r := ⟨.slice none 0 0, 0, fun _ => False⟩) (Rep.nils _ _ _ _ _) (fun _ _ _ _ _ hk => hk.elim) (fun _ _ _ _ _ _ _ _ hk => hk.elim) (fun _ _ hk => hk.elim) (fun _ _ _ _ _ hk => hk.elim) (fun _ hk => hk.elim)
theorem nil_ar (h : Rel w0 S0 st μ a w) (w : World) : AR (μ ++ [⟨.slice none 0 0, 0, fun _ => False⟩]) w (.sl st.objs.length) (.slice none 0 0) :=
  ⟨⟨.slice none 0 0, 0, fun _ => False⟩, by rw [← h.len]; exact last_rec _ _, rfl, none, 0, 0, rfl⟩
theorem fixCells_sound {s : Spec} {j : Nat} {e : TypeId} : ∀ {l : List Sh} {c : Nat} {st : St} {μ : List ORec}, Rel w0 S0 st μ a w → ∃ μ', Rel w0 S0 (fixCells s j e c l st) μ' a w ∧ (fixCells s j e c l st).tmps = st.tmps
  | [], c, st, μ, h => ⟨μ, h, rfl⟩
  | .sl i :: l, c, st, μ, h => by
    simp only [fixCells]
    split
    · rename_i e' cells hob
      split
      · rename_i hc
        split
        · rename_i e1 t hr
          have h1 := h.nilRow e1 t
          have hlt := (List.getElem?_eq_some_iff.1 hob).1
          have hob1 : (st.push (.row true e1 t [])).objs[j]? = some (.box e' cells) := by simp only [St.push]; rw [List.getElem?_append_left hlt]; exact hob
          have h2 := h1.reob (o' := .box e' (cells.set c (.sl st.objs.length))) hob1 (fun h => h) (fun r hr => by
            obtain ⟨g0, vs, g1, g2, g3⟩ := h1.ob j _ r hob1 hr
            refine ⟨g0, vs, g1, ⟨by simp [g2.1], fun m y v hy hv => ?_⟩, g3⟩
            rw [List.getElem?_set] at hy
            split at hy
            · rename_i hcm
              split at hy
              · injection hy with hy
                subst hy hcm
                have hnil := g2.2 c _ v hc hv
                rw [show v = _ from hnil]
                exact nil_ar h w
              · cases hy
            · exact g2.2 m y v hy hv) (fun _ _ _ he => by cases he)
          obtain ⟨μ', h3, h4⟩ := fixCells_sound (s := s) (j := j) (e := e) (l := l) (c := c + 1) h2
          exact ⟨μ', h3, h4⟩
        · exact fixCells_sound h
      · exact fixCells_sound h
    · exact fixCells_sound h
  | .int _ :: l, c, st, μ, h => by simp only [fixCells]; exact fixCells_sound h
  | .bool :: l, c, st, μ, h => by simp only [fixCells]; exact fixCells_sound h
  | .str :: l, c, st, μ, h => by simp only [fixCells]; exact fixCells_sound h
  | .snap _ _ :: l, c, st, μ, h => by simp only [fixCells]; exact fixCells_sound h
  | .ptr _ _ :: l, c, st, μ, h => by simp only [fixCells]; exact fixCells_sound h
  | .inn _ :: l, c, st, μ, h => by simp only [fixCells]; exact fixCells_sound h
theorem fixTmps_sound {s : Spec} : ∀ {l : List (Tmp × TSh)} {st : St} {μ : List ORec}, Rel w0 S0 st μ a w → ∃ μ', Rel w0 S0 (fixTmps s l st) μ' a w ∧ (fixTmps s l st).tmps.length = st.tmps.length
  | [], st, μ, h => ⟨μ, h, rfl⟩
  | (d, .at (.sl i)) :: l, st, μ, h => by
    simp only [fixTmps]
    split
    · rename_i hc
      split
      · rename_i e1 t hr
        have h1 := h.nilRow e1 t
        have hv : a.tmps.getD d undef = .slice none 0 0 := (h.tv d _ hc).1
        have h2 := h1.retell (t := d) (x := .sv (.at (.sl st.objs.length))) (by rw [hv]; exact ⟨nil_ar h w, .inr rfl⟩)
        obtain ⟨μ', h3, h4⟩ := fixTmps_sound (s := s) (l := l) h2
        exact ⟨μ', h3, h4.trans (by simp [St.push])⟩
      · exact fixTmps_sound h
    · exact fixTmps_sound h
  | (d, .at (.ptr i 0)) :: l, st, μ, h => by
    simp only [fixTmps]
    split
    · rename_i j hc
      split
      · rename_i e sh hr
        obtain ⟨μ1, h1, h2⟩ := fixCells_sound (s := s) (j := j) (e := e) (l := sh) (c := 0) h
        obtain ⟨μ', h3, h4⟩ := fixTmps_sound (s := s) (l := l) h1
        exact ⟨μ', h3, by rw [h4, h2]⟩
      · exact fixTmps_sound h
    · exact fixTmps_sound h
  | (d, .at (.ptr i (f + 1))) :: l, st, μ, h => by simp only [fixTmps]; exact fixTmps_sound h
  | (d, .at (.int _)) :: l, st, μ, h => by simp only [fixTmps]; exact fixTmps_sound h
  | (d, .at .bool) :: l, st, μ, h => by simp only [fixTmps]; exact fixTmps_sound h
  | (d, .at .str) :: l, st, μ, h => by simp only [fixTmps]; exact fixTmps_sound h
  | (d, .at (.snap _ _)) :: l, st, μ, h => by simp only [fixTmps]; exact fixTmps_sound h
  | (d, .at (.inn _)) :: l, st, μ, h => by simp only [fixTmps]; exact fixTmps_sound h
  | (d, .agg _) :: l, st, μ, h => by simp only [fixTmps]; exact fixTmps_sound h
theorem Spec.enter_sound (h : Rel w0 S0 st μ a w) {s : Spec} {no n : Nat} {x : s.D} (hno : S0.ov.length = no) (hn : st.tmps.length = n) (hf : s.enter no st = some x) : ∃ μ', Rel w0 S0 (s.st n x) μ' a w := by
  obtain ⟨μ1, h1, h2⟩ := fixTmps_sound (s := s) (l := s.tmps) h
  exact Spec.fit_sound h1 hno (h2.trans hn) hf
end
end Go.Proofs.Ytgpmbmnfcbippaa.Vs
