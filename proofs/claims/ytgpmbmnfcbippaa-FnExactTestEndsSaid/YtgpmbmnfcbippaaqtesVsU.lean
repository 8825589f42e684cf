/- From the judge's readings of the arguments to trees that are read; and the row of a law out of its function's contract. -/
import Derived.Test.YtgpmbmnfcbippaaqtesVsS
import Derived.Carry
import Derived.ChangeArms
import Derived.SizedLaws
import Derived.Deep.Slices
import Derived.WideShapes
import Derived.ChangeOld
import Derived.ChangeShapes
import Derived.OpenShut
set_option linter.unusedVariables false
set_option linter.unusedSimpArgs false
namespace Go.Proofs.Ytgpmbmnfcbippaa.Vs
open Go.RowKit Go.ChangeShapes Go.WideShapes Go.Deep

/-! ### Types by their descriptions -/
def nestTy : List Ty → Ty
  | [] => .bool
  | [u] => u
  | u :: v :: r => .pair u (nestTy (v :: r))
def szs (l : List Ty) : Nat := (l.map Ty.sz).sum
inductive Deep (P : Program) : TypeId → Ty → Prop
  | int {t : TypeId} {k : IntKind} (h : P.underlying t = some (.int k)) : Deep P t (.int k)
  | bool {t : TypeId} (h : P.underlying t = some .bool) : Deep P t .bool
  | str {t : TypeId} (h : P.underlying t = some .string) : Deep P t .str
  | slice {t e : TypeId} {u : Ty} (h : P.underlying t = some (.slice e)) (hc : P.cellsOf e = u.sz) (hu : Deep P e u) : Deep P t (.slice e u)
  | struct {t : TypeId} {fs : Array Field} (l : List Ty) (h : P.underlying t = some (.struct fs)) (hn : l ≠ []) (hl : l.length = fs.size) (hc : P.cellsOf t = szs l)
      (ho : ∀ (i : Nat) f u, fs[i]? = some f → l[i]? = some u → f.offset = szs (l.take i) ∧ P.cellsOf f.type = u.sz) (hf : ∀ (i : Nat) f u, fs[i]? = some f → l[i]? = some u → Deep P f.type u) : Deep P t (nestTy l)
/-- The fields of a struct, as a check. -/
def fieldsFit (P : Program) : List Field → List Ty → Nat → Bool
  | [], [], _ => true
  | f :: fs, u :: l, o => f.offset == o && P.cellsOf f.type == u.sz && fieldsFit P fs l (o + u.sz)
  | _, _, _ => false
/-- The fields' types, one by one. -/
def FieldsDeep (P : Program) : List Field → List Ty → Prop
  | f :: fs, u :: l => Deep P f.type u ∧ FieldsDeep P fs l
  | _, _ => True
theorem fieldsFit_at {P : Program} : ∀ {fs : List Field} {l : List Ty} {o : Nat}, fieldsFit P fs l o = true → l.length = fs.length ∧ ∀ (i : Nat) f u, fs[i]? = some f → l[i]? = some u → f.offset = o + szs (l.take i) ∧ P.cellsOf f.type = u.sz
  | [], [], _, _ => ⟨rfl, fun i f u h => by simp at h⟩
  | f :: fs, [], _, h => by cases h
  | [], u :: l, _, h => by cases h
  | f :: fs, u :: l, o, h => by
    simp only [fieldsFit, Bool.and_eq_true, beq_iff_eq] at h
    obtain ⟨⟨h1, h2⟩, h3⟩ := h
    obtain ⟨g1, g2⟩ := fieldsFit_at h3
    refine ⟨by simp [g1], fun i f' u' hf hu => ?_⟩
    cases i with
    | zero =>
      simp at hf hu
      subst hf; subst hu
      exact ⟨by simpa [szs] using h1, h2⟩
    | succ i =>
      simp only [List.getElem?_cons_succ] at hf hu
      obtain ⟨k1, k2⟩ := g2 i f' u' hf hu
      exact ⟨by rw [k1]; simp [szs, Nat.add_assoc], k2⟩
theorem fieldsDeep_at {P : Program} : ∀ {fs : List Field} {l : List Ty}, FieldsDeep P fs l → ∀ (i : Nat) f u, fs[i]? = some f → l[i]? = some u → Deep P f.type u
  | [], _, _, i, f, u, hf, _ => by simp at hf
  | _ :: _, [], _, i, f, u, _, hu => by simp at hu
  | f :: fs, u :: l, h, i, f', u', hf, hu => by
    cases i with
    | zero =>
      simp at hf hu
      subst hf; subst hu
      exact h.1
    | succ i =>
      simp only [List.getElem?_cons_succ] at hf hu
      exact fieldsDeep_at h.2 i f' u' hf hu
theorem Deep.mk {P : Program} {t : TypeId} {fs : Array Field} (l : List Ty) (h : P.underlying t = some (.struct fs)) (hn : l ≠ []) (hc : P.cellsOf t = szs l) (hx : fieldsFit P fs.toList l 0 = true) (hd : FieldsDeep P fs.toList l) : Deep P t (nestTy l) := by
  obtain ⟨h1, h2⟩ := fieldsFit_at hx
  refine .struct l h hn (by simpa using h1) hc (fun i f u hf hu => ?_) (fun i f u hf hu => fieldsDeep_at hd i f u (by simpa using hf) hu)
  obtain ⟨g1, g2⟩ := h2 i f u (by simpa using hf) hu
  exact ⟨by simpa using g1, g2⟩

def structTys (P : Program) (t : TypeId) (l : List Ty) : Option (List TypeId) := match P.underlying t with
  | some (.struct fs) => if fieldsFit P fs.toList l 0 && P.cellsOf t == szs l then some (fs.toList.map Field.type) else none
  | _ => none
def TysDeep (P : Program) : List TypeId → List Ty → Prop
  | [], [] => True
  | t :: ts, u :: us => Deep P t u ∧ TysDeep P ts us
  | _, _ => False
theorem tysDeep_fields {P : Program} : ∀ {fs : List Field} {l : List Ty}, TysDeep P (fs.map Field.type) l → FieldsDeep P fs l
  | [], _, _ => by unfold FieldsDeep; trivial
  | f :: fs, [], h => h.elim
  | f :: fs, u :: l, h => ⟨h.1, tysDeep_fields h.2⟩
theorem Deep.st {P : Program} {t : TypeId} (l : List Ty) {tys : List TypeId} (hn : l ≠ []) (h : structTys P t l = some tys) (hd : TysDeep P tys l) : Deep P t (nestTy l) := by
  unfold structTys at h
  split at h
  · rename_i fs hfs
    split at h
    · rename_i hc
      simp only [Bool.and_eq_true, beq_iff_eq] at hc
      injection h with h
      subst h
      exact .mk l hfs hn hc.2 hc.1 (tysDeep_fields hd)
    · cases h
  · cases h
def isStruct (P : Program) (t : TypeId) : Bool := match P.underlying t with
  | some (.struct _) => true
  | _ => false
/-- What is known of a datum that can be read: numbers in range, no length beyond the greatest. -/
def Wf : (t : Ty) → t.D → Prop
  | .int k, n => (Lit.int k n).wf = true
  | .bool, _ => True
  | .str, s => s.size ≤ maxLen
  | .pair a b, x => Wf a x.1 ∧ Wf b x.2
  | .slice _ t, xs => xs.length ≤ maxLen ∧ ∀ x ∈ xs, Wf t x
section
variable {P : Program} {w : World}
theorem szs_cons (u : Ty) (l : List Ty) : szs (u :: l) = u.sz + szs l := by simp [szs]
theorem open_nest {S : Nat → Prop} : ∀ (l : List Ty), l ≠ [] → ∀ (cs : List Value), cs.length = szs l → (∀ (i : Nat) u, l[i]? = some u → ∃ x : u.D, Wf u x ∧ Rd u w S x ((cs.drop (szs (l.take i))).take u.sz)) → ∃ x : (nestTy l).D, Wf (nestTy l) x ∧ Rd (nestTy l) w S x cs
  | [], h, _, _, _ => absurd rfl h
  | [u], _, cs, hl, h => by
    obtain ⟨x, h1, h2⟩ := h 0 u rfl
    refine ⟨x, h1, ?_⟩
    have : (cs.drop (szs ([u].take 0))).take u.sz = cs := by
      simp only [List.take_zero, szs, List.map_nil, List.sum_nil, List.drop_zero]
      exact List.take_of_length_le (by rw [hl]; simp [szs])
    rw [this] at h2
    exact h2
  | u :: v :: r, _, cs, hl, h => by
    rw [szs_cons] at hl
    obtain ⟨x, h1, h2⟩ := h 0 u rfl
    have hx : (cs.drop (szs ((u :: v :: r).take 0))).take u.sz = cs.take u.sz := by simp [szs]
    rw [hx] at h2
    obtain ⟨y, g1, g2⟩ := open_nest (v :: r) (by simp) (cs.drop u.sz) (by simp; omega) (fun i u' hu => by
      obtain ⟨z, k1, k2⟩ := h (i + 1) u' hu
      refine ⟨z, k1, ?_⟩
      rw [List.take_succ_cons, szs_cons, ← List.drop_drop] at k2
      exact k2)
    exact ⟨(x, y), ⟨h1, g1⟩, cs.take u.sz, cs.drop u.sz, (List.take_append_drop _ _).symm, h2, g2⟩
/-- The blocks that a reading met. -/
def blocksOf (ps : List MemPlace) (k : Nat) : Prop := ∃ p ∈ ps, p.block = k
variable {H : Type} {enc : TypeId × Value → H}
theorem open_deep : ∀ (t : TypeId) (u : Ty), Deep P t u → ∀ (fuel : Nat) (cs : List Value) (d : DataW H) (ps : List MemPlace), DataW.trod enc P w 0 (fun _ => true) true fuel t cs = some (d, ps) → ∃ x : u.D, Wf u x ∧ Rd u w (blocksOf ps) x cs := by
  intro t u h
  induction h with
  | @int t k h =>
    intro fuel cs d ps hd
    obtain ⟨n, h1, hx, hw⟩ := DataW.trod_int h hd
    exact ⟨n, hw, h1⟩
  | @bool t h =>
    intro fuel cs d ps hd
    obtain ⟨b, h1, hx⟩ := DataW.trod_bool h hd
    exact ⟨b, trivial, h1⟩
  | @str t h =>
    intro fuel cs d ps hd
    obtain ⟨s, h1, hx, hs⟩ := DataW.trod_string h hd
    exact ⟨s, hs, h1⟩
  | @slice t e u h hc hu ih =>
    intro fuel cs d ps hd
    rcases open_slice h hd with ⟨rfl, hx⟩ | ⟨a, len, cap, m, n, D, Pl, rfl, hb, hl, hm, hmm, hx, hel⟩
    · exact ⟨[], ⟨Nat.zero_le _, fun x hx => by simp at hx⟩, _, rfl, none, 0, rfl, Nat.le_refl _, by simp, fun h0 => by simp at h0⟩
    · rw [if_pos rfl] at hmm
      subst hmm
      injection hx with hx1 hx2
      have hel2 : ∀ i, i < len → ∃ x : u.D, Wf u x ∧ ∃ cs' : List Value, cs'.length = u.sz ∧ (∀ j v, cs'[j]? = some v → w.cell? (a.add (i * u.sz + j)) = some v) ∧ Rd u w (blocksOf ps) x cs' := by
        intro i hi
        obtain ⟨cs', h1, h2⟩ := hel i (by omega)
        obtain ⟨_, hlen, hcell⟩ := World.cells?_some h1
        obtain ⟨x, hw, hr⟩ := ih _ _ _ _ h2
        rw [hc] at hlen hcell
        refine ⟨x, hw, cs', hlen, fun j v hv => ?_, hr.wide (fun k ⟨p, hp, hk⟩ => ⟨p, ?_, hk⟩)⟩
        · have hj : j < u.sz := by rw [← hlen]; exact (List.getElem?_eq_some_iff.1 hv).1
          have := hcell j hj
          rw [add_at'] at this
          rw [this, hv]
        · rw [hx2]
          refine List.mem_append.2 (.inr (List.mem_flatMap.2 ⟨i, List.mem_range.2 (by omega), hp⟩))
      have hz : Nonempty u.D := ⟨u.zero⟩
      obtain ⟨f, hf⟩ := @choose_lt u.D ⟨u.zero⟩ len (fun i x => Wf u x ∧ ∃ cs' : List Value, cs'.length = u.sz ∧ (∀ j v, cs'[j]? = some v → w.cell? (a.add (i * u.sz + j)) = some v) ∧ Rd u w (blocksOf ps) x cs') hel2
      refine ⟨(List.range len).map f, ⟨by simp; omega, fun x hx => ?_⟩, _, rfl, some a, m, by simp, by simpa using hl, by simp [maxLen] at hm ⊢; omega, fun h0 => ⟨a, rfl, ?_, fun j x hj => ?_⟩⟩
      · obtain ⟨i, hi, rfl⟩ := List.mem_map.1 hx
        exact (hf i (List.mem_range.1 hi)).1
      · simp at h0
        refine ⟨.cell a.block (a.off + 0), ?_, rfl⟩
        rw [hx2]
        refine List.mem_append.2 (.inl (List.mem_map.2 ⟨0, List.mem_range.2 ?_, rfl⟩))
        have := u.sz_pos
        rw [hc]
        exact Nat.mul_pos (by omega) this
      · rw [List.getElem?_map] at hj
        obtain ⟨i, hi, rfl⟩ := Option.map_eq_some_iff.1 hj
        have hlt : j < len := by simpa using (List.getElem?_eq_some_iff.1 hi).1
        rw [List.getElem?_range hlt] at hi
        injection hi with hi
        subst hi
        exact (hf j hlt).2
  | @struct t fs l h hn hl hc ho hf ih =>
    intro fuel cs d ps hd
    obtain ⟨xs, n, rfl, hx, hlen, hxl, hfl⟩ := DataW.trod_struct h hd
    injection hx with hx1 hx2
    refine open_nest l hn cs (by rw [hlen, hc]) (fun i u hu => ?_)
    have hi : i < fs.size := by rw [← hl]; exact (List.getElem?_eq_some_iff.1 hu).1
    have hfi : fs[i]? = some fs[i] := Array.getElem?_eq_getElem hi
    obtain ⟨o1, o2⟩ := ho i _ u hfi hu
    have h2 := hfl i _ hfi
    have hxi : i < xs.length := by omega
    rw [List.getElem?_eq_getElem hxi, o1, o2] at h2
    obtain ⟨x, hw, hr⟩ := ih i _ u hfi hu n _ _ _ h2
    exact ⟨x, hw, hr.wide (fun k ⟨p, hp, hk⟩ => ⟨p, by rw [hx2]; exact List.mem_flatMap.2 ⟨_, List.getElem_mem hxi, hp⟩, hk⟩)⟩

/-! ### All arguments -/
inductive ParOK (P : Program) : List TypeId → List PK → Prop
  | nil : ParOK P [] []
  | cell {t : TypeId} {ts : List TypeId} {u : Ty} {ps : List PK} (h : Deep P t u) (hs : ∀ fs, P.underlying t ≠ some (.struct fs)) (hr : ParOK P ts ps) : ParOK P (t :: ts) (⟨u, false, none, false⟩ :: ps)
  | agg {t : TypeId} {ts : List TypeId} {u : Ty} {ps : List PK} {fs : Array Field} (h : Deep P t u) (hs : P.underlying t = some (.struct fs)) (hr : ParOK P ts ps) : ParOK P (t :: ts) (⟨u, true, none, false⟩ :: ps)
theorem ParOK.c {P : Program} {t : TypeId} {ts : List TypeId} {u : Ty} {ps : List PK} (h : Deep P t u) (hs : isStruct P t = false) (hr : ParOK P ts ps) : ParOK P (t :: ts) (⟨u, false, none, false⟩ :: ps) :=
  .cell h (fun fs he => by unfold isStruct at hs; rw [he] at hs; cases hs) hr
theorem ParOK.a {P : Program} {t : TypeId} {ts : List TypeId} {u : Ty} {ps : List PK} (h : Deep P t u) (hs : isStruct P t = true) (hr : ParOK P ts ps) : ParOK P (t :: ts) (⟨u, true, none, false⟩ :: ps) := by
  unfold isStruct at hs
  split at hs
  · rename_i fs hfs; exact .agg h hfs hr
  · cases hs
def WfT : (ps : List PK) → Tup ps → Prop
  | [], _ => True
  | p :: ps, x => Wf p.t x.1 ∧ WfT ps x.2
theorem shaped_cell {W : World} {r : Reach} {b0 : Nat} {t : TypeId} {u : Ty} {v : Value} (h : Deep P t u) (hs : ∀ fs, P.underlying t ≠ some (.struct fs)) (hv : Value.okWide P W r b0 t v) : v.cells = #[v] := by
  cases h with
  | int h => obtain ⟨n, rfl⟩ := okWide_int h hv; rfl
  | bool h => obtain ⟨n, rfl⟩ := okWide_bool h hv; rfl
  | str h => obtain ⟨n, rfl⟩ := okWide_string h hv; rfl
  | slice h _ _ => obtain ⟨a, l, c, rfl⟩ := okWide_slice h hv; rfl
  | struct l h => exact absurd h (hs _)
theorem args_open {W : World} {r : Reach} {b0 : Nat} : ∀ (ts : List TypeId) (pks : List PK), ParOK P ts pks → ∀ {vs : List Value} {ds : List (DataW H)} {ps : List MemPlace}, DataW.TrodAll enc P W 0 (fun _ => true) true ts vs ds ps →
    (∀ (j : Nat) t v, ts[j]? = some t → vs[j]? = some v → Value.okWide P W r b0 t v) → ∃ x : Tup pks, WfT pks x ∧ ArgsR W (blocksOf ps) (fun _ => False) pks x vs := by
  intro ts pks h
  induction h with
  | nil =>
    intro vs ds ps h hv
    obtain ⟨rfl, rfl, rfl⟩ := trodAll_nil h
    exact ⟨(), trivial, rfl⟩
  | @cell t ts u pks hd hs hr ih =>
    intro vs ds ps h hv
    obtain ⟨v, vs', d, ds', p, q, rfl, rfl, rfl, h1, h2⟩ := trodAll_cons h
    obtain ⟨y, g1, g2⟩ := ih h2 (fun j t' v' ht hv' => hv (j + 1) t' v' ht hv')
    obtain ⟨fuel, hf⟩ := h1
    obtain ⟨x, k1, k2⟩ := open_deep _ _ hd fuel _ _ _ hf
    refine ⟨(x, y), ⟨k1, g1⟩, v, vs', rfl, ?_, k2.wide (fun k ⟨p', hp, hk⟩ => ⟨p', List.mem_append.2 (.inl hp), hk⟩), ?_⟩
    · show (if (false = true) then _ else _)
      rw [if_neg (by simp)]
      exact shaped_cell hd hs (hv 0 t v rfl rfl)
    · exact argsR_wide g2 (fun k ⟨p', hp, hk⟩ => ⟨p', List.mem_append.2 (.inr hp), hk⟩)
  | @agg t ts u pks fs hd hs hr ih =>
    intro vs ds ps h hv
    obtain ⟨v, vs', d, ds', p, q, rfl, rfl, rfl, h1, h2⟩ := trodAll_cons h
    obtain ⟨y, g1, g2⟩ := ih h2 (fun j t' v' ht hv' => hv (j + 1) t' v' ht hv')
    obtain ⟨fuel, hf⟩ := h1
    obtain ⟨x, k1, k2⟩ := open_deep _ _ hd fuel _ _ _ hf
    refine ⟨(x, y), ⟨k1, g1⟩, v, vs', rfl, ?_, k2.wide (fun k ⟨p', hp, hk⟩ => ⟨p', List.mem_append.2 (.inl hp), hk⟩), ?_⟩
    · show (if (true = true) then _ else _)
      rw [if_pos rfl]
      obtain ⟨cs, h3, _⟩ := okWide_struct hs (hv 0 t v rfl rfl)
      exact ⟨cs, h3⟩
    · exact argsR_wide g2 (fun k ⟨p', hp, hk⟩ => ⟨p', List.mem_append.2 (.inr hp), hk⟩)
where argsR_wide {W : World} {S S' So : Nat → Prop} : ∀ {pks : List PK} {x : Tup pks} {vs : List Value}, ArgsR W S So pks x vs → (∀ k, S k → S' k) → ArgsR W S' So pks x vs
  | [], _, _, h, _ => h
  | p :: pks, x, vs, h, hS => by
    obtain ⟨v, vs', rfl, h1, h2, h3⟩ := h
    refine ⟨v, vs', rfl, h1, ?_, argsR_wide h3 hS⟩
    split
    · rename_i ho
      rw [ho] at h2
      exact h2.wide hS
    · rename_i q ho
      rw [ho] at h2
      exact h2
theorem trodAll_below (hl : laidOutB P = true) {W W' : World} (hb : Below W.heap.size W W') : ∀ {ts : List TypeId} {vs : List Value} {ds : List (DataW H)} {ps : List MemPlace}, (ts.all fun t => P.readableRec t && decide (t < P.types.size)) = true → DataW.TrodAll enc P W 0 (fun _ => true) true ts vs ds ps → (∀ x ∈ ps, x.block < W.heap.size) →
    DataW.TrodAll enc P W' 0 (fun b => decide (b < W.heap.size)) true ts vs ds ps
  | [], vs, ds, ps, _, h, _ => by
    obtain ⟨rfl, rfl, rfl⟩ := trodAll_nil h
    exact trodAll_mk0
  | t :: ts, vs, ds, ps, ht, h, hlt => by
    simp only [List.all_cons, Bool.and_eq_true, decide_eq_true_eq] at ht
    obtain ⟨v, vs', d, ds', p, q, rfl, rfl, rfl, h1, h2⟩ := trodAll_cons h
    exact trodAll_cons_mk (Below.trod hl ht.1.1 ht.1.2 h1 hb (fun x hx => hlt x (List.mem_append.2 (.inl hx)))) (trodAll_below hl hb (by simpa using ht.2) h2 (fun x hx => hlt x (List.mem_append.2 (.inr hx))))
theorem trodAll_lt {W : World} : ∀ {ts : List TypeId} {vs : List Value} {ds : List (DataW H)} {ps : List MemPlace}, DataW.TrodAll enc P W 0 (fun _ => true) true ts vs ds ps → ∀ x ∈ ps, x.block < W.heap.size
  | [], vs, ds, ps, h, x, hx => by
    obtain ⟨rfl, rfl, rfl⟩ := trodAll_nil h
    cases hx
  | t :: ts, vs, ds, ps, h, x, hx => by
    obtain ⟨v, vs', d, ds', p, q, rfl, rfl, rfl, h1, h2⟩ := trodAll_cons h
    rcases List.mem_append.1 hx with hx | hx
    · obtain ⟨m, hm⟩ := h1
      exact DataW.trod_lt m _ _ _ hm x hx
    · exact trodAll_lt h2 x hx

theorem E_at {D : FnDef} {k : Nat} {x : Tup D.ps} {z : D.R} (h : D.f k x = some z) {γ : Type} (K : Tup D.rs → OutD → Option γ) : D.E.fn k x K = D.dsp z K := by
  show (match D.f k x with | some z => D.dsp z K | none => none) = _
  rw [h]
/-! ### A law's contract: it returns true, and the world that was there stays. -/
def yes {E : Type} (res : Bool × Unit) (_ : E) : Option Unit := if res.1 = true then some () else none
theorem law_calls {f : FuncId} {ts : List TypeId} {pks : List PK} {fn : {γ : Type} → Nat → Tup pks → (Tup [⟨.bool, false, none, false⟩] → OutD → Option γ) → Option γ}
    (hs : ∀ k, SoundAt P k f ⟨pks, [⟨.bool, false, none, false⟩], fn⟩) (hp : ParOK P ts pks) (hno : ownI pks = none) (hlaw : ∀ x : Tup pks, WfT pks x → ∃ k, fn k x yes = some ())
    {W : World} {base : Nat} {args : Array Value} {ds : List (DataW H)} {ps : List MemPlace} (hA : DataW.TrodAll enc P W 0 (fun _ => true) true ts args.toList ds ps) (hval : ∀ (j : Nat) t v, ts[j]? = some t → args[j]? = some v → Value.okWide P W .any base t v) :
    Calls P f args W fun e W' => e = .returned (.bool true) ∧ Below W.heap.size W W' := by
  obtain ⟨x, hw, hx⟩ := args_open _ _ hp hA (r := .any) (b0 := base) (fun j t v ht hv => hval j t v ht (by simpa using hv))
  obtain ⟨k, hk⟩ := hlaw x hw
  have hlt := trodAll_lt hA
  have := (hs k).calls (K := yes) (r := ()) W _ _ x _ hx (fun _ hf => hf.elim) (fun _ hf => hf.elim) (fun k' ⟨p, hp', hk'⟩ => by rw [← hk']; exact hlt p hp') (fun _ _ hf => hf) hk
  rw [Array.toArray_toList] at this
  refine this.mono fun e W' he => ?_
  cases e with
  | returned v =>
    obtain ⟨res, out, hy, hF⟩ := he
    obtain ⟨Sr, us, _, rfl, hres, _⟩ := hF.res
    obtain ⟨u, us', S1, S2, rfl, hsh, hrep, _, _, hnil⟩ := hres
    obtain rfl : us' = [] := hnil
    refine ⟨?_, hF.chg.below (fun _ hf => hf)⟩
    have hsh2 : u.cells = #[u] := by
      have := hsh
      unfold Shaped at this
      rw [if_neg (by simp)] at this
      exact this
    have hr1 : res.1 = true := by
      unfold yes at hy
      split at hy
      · assumption
      · cases hy
    have hrep2 : u.cells.toList = [.bool res.1] := hrep
    rw [hsh2] at hrep2
    simp at hrep2
    rw [hrep2, hr1]
    rfl
  | panicked c => exact False.elim he
  | outgrown => exact False.elim he
end
end Go.Proofs.Ytgpmbmnfcbippaa.Vs
