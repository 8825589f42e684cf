/- The proof, part 4. -/
import Derived.Test.Ytjjlmnbmpgfcbaaqbm2
import Derived.Carry
import Derived.ChangeArms
import Derived.SizedLaws
import Derived.Deep.Slices
import Derived.WideShapes
import Derived.ChangeOld
import Derived.ChangeShapes
import Derived.OpenShut
import Derived.Test.YtjjlmnbmpgfcbaaProg
import Derived.KernelRfl
set_option linter.unusedVariables false
set_option linter.unusedSimpArgs false
namespace Go.Proofs.Ytjjlmnbmpgfcbaa.Vs
open Go.RowKit Go.ChangeShapes Go.WideShapes Go.Deep

/-! ### Types by their descriptions -/
def nestTy : List Ty → Ty
  | [] => .bool
  | [u] => u
  | u :: v :: r => .pair u (nestTy (v :: r))
def szs (l : List Ty) : Nat := (l.map Ty.sz).sum
inductive Deep (P : Program) : TypeId → Ty → Prop
  | int {t : TypeId} {k : IntKind} (h : P.underlying t = some (.int k)) : Deep P t (.int k)
  | bool {t : TypeId} (h : P.underlying t = some .bool) : Deep P t .bool
  | str {t : TypeId} (h : P.underlying t = some .string) : Deep P t .str
  | slice {t e : TypeId} {u : Ty} (h : P.underlying t = some (.slice e)) (hc : P.cellsOf e = u.sz) (hu : Deep P e u) : Deep P t (.slice e u)
  | struct {t : TypeId} {fs : Array Field} (l : List Ty) (h : P.underlying t = some (.struct fs)) (hn : l ≠ []) (hl : l.length = fs.size) (hc : P.cellsOf t = szs l)
      (ho : ∀ (i : Nat) f u, fs[i]? = some f → l[i]? = some u → f.offset = szs (l.take i) ∧ P.cellsOf f.type = u.sz) (hf : ∀ (i : Nat) f u, fs[i]? = some f → l[i]? = some u → Deep P f.type u) : Deep P t (nestTy l)
/-- The fields of a struct, as a check. -/
def fieldsFit (P : Program) : List Field → List Ty → Nat → Bool
  | [], [], _ => true
  | f :: fs, u :: l, o => f.offset == o && P.cellsOf f.type == u.sz && fieldsFit P fs l (o + u.sz)
  | _, _, _ => false
/-- The fields' types, one by one. -/
def FieldsDeep (P : Program) : List Field → List Ty → Prop
  | f :: fs, u :: l => Deep P f.type u ∧ FieldsDeep P fs l
  | _, _ => True
theorem fieldsFit_at {P : Program} : ∀ {fs : List Field} {l : List Ty} {o : Nat}, fieldsFit P fs l o = true → l.length = fs.length ∧ ∀ (i : Nat) f u, fs[i]? = some f → l[i]? = some u → f.offset = o + szs (l.take i) ∧ P.cellsOf f.type = u.sz
  | [], [], _, _ => ⟨rfl, fun i f u h => by simp at h⟩
  | f :: fs, [], _, h => by cases h
  | [], u :: l, _, h => by cases h
  | f :: fs, u :: l, o, h => by
    simp only [fieldsFit, Bool.and_eq_true, beq_iff_eq] at h
    obtain ⟨⟨h1, h2⟩, h3⟩ := h
    obtain ⟨g1, g2⟩ := fieldsFit_at h3
    refine ⟨by simp [g1], fun i f' u' hf hu => ?_⟩
    cases i with
    | zero =>
      simp at hf hu
      subst hf; subst hu
      exact ⟨by simpa [szs] using h1, h2⟩
    | succ i =>
      simp only [List.getElem?_cons_succ] at hf hu
      obtain ⟨k1, k2⟩ := g2 i f' u' hf hu
      exact ⟨by rw [k1]; simp [szs, Nat.add_assoc], k2⟩
theorem fieldsDeep_at {P : Program} : ∀ {fs : List Field} {l : List Ty}, FieldsDeep P fs l → ∀ (i : Nat) f u, fs[i]? = some f → l[i]? = some u → Deep P f.type u
  | [], _, _, i, f, u, hf, _ => by simp at hf
  | _ :: _, [], _, i, f, u, _, hu => by simp at hu
  | f :: fs, u :: l, h, i, f', u', hf, hu => by
    cases i with
    | zero =>
      simp at hf hu
      subst hf; subst hu
      exact h.1
    | succ i =>
      simp only [List.getElem?_cons_succ] at hf hu
      exact fieldsDeep_at h.2 i f' u' hf hu
theorem Deep.mk {P : Program} {t : TypeId} {fs : Array Field} (l : List Ty) (h : P.underlying t = some (.struct fs)) (hn : l ≠ []) (hc : P.cellsOf t = szs l) (hx : fieldsFit P fs.toList l 0 = true) (hd : FieldsDeep P fs.toList l) : Deep P t (nestTy l) := by
  obtain ⟨h1, h2⟩ := fieldsFit_at hx
  refine .struct l h hn (by simpa using h1) hc (fun i f u hf hu => ?_) (fun i f u hf hu => fieldsDeep_at hd i f u (by simpa using hf) hu)
  obtain ⟨g1, g2⟩ := h2 i f u (by simpa using hf) hu
  exact ⟨by simpa using g1, g2⟩

def structTys (P : Program) (t : TypeId) (l : List Ty) : Option (List TypeId) := match P.underlying t with
  | some (.struct fs) => if fieldsFit P fs.toList l 0 && P.cellsOf t == szs l then some (fs.toList.map Field.type) else none
  | _ => none
def TysDeep (P : Program) : List TypeId → List Ty → Prop
  | [], [] => True
  | t :: ts, u :: us => Deep P t u ∧ TysDeep P ts us
  | _, _ => False
theorem tysDeep_fields {P : Program} : ∀ {fs : List Field} {l : List Ty}, TysDeep P (fs.map Field.type) l → FieldsDeep P fs l
  | [], _, _ => by unfold FieldsDeep; trivial
  | f :: fs, [], h => h.elim
  | f :: fs, u :: l, h => ⟨h.1, tysDeep_fields h.2⟩
theorem Deep.st {P : Program} {t : TypeId} (l : List Ty) {tys : List TypeId} (hn : l ≠ []) (h : structTys P t l = some tys) (hd : TysDeep P tys l) : Deep P t (nestTy l) := by
  unfold structTys at h
  split at h
  · rename_i fs hfs
    split at h
    · rename_i hc
      simp only [Bool.and_eq_true, beq_iff_eq] at hc
      injection h with h
      subst h
      exact .mk l hfs hn hc.2 hc.1 (tysDeep_fields hd)
    · cases h
  · cases h
def isStruct (P : Program) (t : TypeId) : Bool := match P.underlying t with
  | some (.struct _) => true
  | _ => false
/-- What is known of a datum that can be read: numbers in range, no length beyond the greatest. -/
def Wf : (t : Ty) → t.D → Prop
  | .int k, n => (Lit.int k n).wf = true
  | .bool, _ => True
  | .str, s => s.size ≤ maxLen
  | .pair a b, x => Wf a x.1 ∧ Wf b x.2
  | .slice _ t, xs => xs.length ≤ maxLen ∧ ∀ x ∈ xs, Wf t x
section
variable {P : Program} {w : World}
theorem szs_cons (u : Ty) (l : List Ty) : szs (u :: l) = u.sz + szs l := by simp [szs]
theorem open_nest {S : Nat → Prop} : ∀ (l : List Ty), l ≠ [] → ∀ (cs : List Value), cs.length = szs l → (∀ (i : Nat) u, l[i]? = some u → ∃ x : u.D, Wf u x ∧ Rd u w S x ((cs.drop (szs (l.take i))).take u.sz)) → ∃ x : (nestTy l).D, Wf (nestTy l) x ∧ Rd (nestTy l) w S x cs
  | [], h, _, _, _ => absurd rfl h
  | [u], _, cs, hl, h => by
    obtain ⟨x, h1, h2⟩ := h 0 u rfl
    refine ⟨x, h1, ?_⟩
    have : (cs.drop (szs ([u].take 0))).take u.sz = cs := by
      simp only [List.take_zero, szs, List.map_nil, List.sum_nil, List.drop_zero]
      exact List.take_of_length_le (by rw [hl]; simp [szs])
    rw [this] at h2
    exact h2
  | u :: v :: r, _, cs, hl, h => by
    rw [szs_cons] at hl
    obtain ⟨x, h1, h2⟩ := h 0 u rfl
    have hx : (cs.drop (szs ((u :: v :: r).take 0))).take u.sz = cs.take u.sz := by simp [szs]
    rw [hx] at h2
    obtain ⟨y, g1, g2⟩ := open_nest (v :: r) (by simp) (cs.drop u.sz) (by simp; omega) (fun i u' hu => by
      obtain ⟨z, k1, k2⟩ := h (i + 1) u' hu
      refine ⟨z, k1, ?_⟩
      rw [List.take_succ_cons, szs_cons, ← List.drop_drop] at k2
      exact k2)
    exact ⟨(x, y), ⟨h1, g1⟩, cs.take u.sz, cs.drop u.sz, (List.take_append_drop _ _).symm, h2, g2⟩
/-- The blocks that a reading met. -/
def blocksOf (ps : List MemPlace) (k : Nat) : Prop := ∃ p ∈ ps, p.block = k
variable {H : Type} {enc : TypeId × Value → H}
theorem open_deep : ∀ (t : TypeId) (u : Ty), Deep P t u → ∀ (fuel : Nat) (cs : List Value) (d : DataW H) (ps : List MemPlace), DataW.trod enc P w 0 (fun _ => true) true fuel t cs = some (d, ps) → ∃ x : u.D, Wf u x ∧ Rd u w (blocksOf ps) x cs := by
  intro t u h
  induction h with
  | @int t k h =>
    intro fuel cs d ps hd
    obtain ⟨n, h1, hx, hw⟩ := DataW.trod_int h hd
    exact ⟨n, hw, h1⟩
  | @bool t h =>
    intro fuel cs d ps hd
    obtain ⟨b, h1, hx⟩ := DataW.trod_bool h hd
    exact ⟨b, trivial, h1⟩
  | @str t h =>
    intro fuel cs d ps hd
    obtain ⟨s, h1, hx, hs⟩ := DataW.trod_string h hd
    exact ⟨s, hs, h1⟩
  | @slice t e u h hc hu ih =>
    intro fuel cs d ps hd
    rcases open_slice h hd with ⟨rfl, hx⟩ | ⟨a, len, cap, m, n, D, Pl, rfl, hb, hl, hm, hmm, hx, hel⟩
    · exact ⟨[], ⟨Nat.zero_le _, fun x hx => by simp at hx⟩, _, rfl, none, 0, rfl, Nat.le_refl _, by simp, fun h0 => by simp at h0⟩
    · rw [if_pos rfl] at hmm
      subst hmm
      injection hx with hx1 hx2
      have hel2 : ∀ i, i < len → ∃ x : u.D, Wf u x ∧ ∃ cs' : List Value, cs'.length = u.sz ∧ (∀ j v, cs'[j]? = some v → w.cell? (a.add (i * u.sz + j)) = some v) ∧ Rd u w (blocksOf ps) x cs' := by
        intro i hi
        obtain ⟨cs', h1, h2⟩ := hel i (by omega)
        obtain ⟨_, hlen, hcell⟩ := World.cells?_some h1
        obtain ⟨x, hw, hr⟩ := ih _ _ _ _ h2
        rw [hc] at hlen hcell
        refine ⟨x, hw, cs', hlen, fun j v hv => ?_, hr.wide (fun k ⟨p, hp, hk⟩ => ⟨p, ?_, hk⟩)⟩
        · have hj : j < u.sz := by rw [← hlen]; exact (List.getElem?_eq_some_iff.1 hv).1
          have := hcell j hj
          rw [add_at'] at this
          rw [this, hv]
        · rw [hx2]
          refine List.mem_append.2 (.inr (List.mem_flatMap.2 ⟨i, List.mem_range.2 (by omega), hp⟩))
      have hz : Nonempty u.D := ⟨u.zero⟩
      obtain ⟨f, hf⟩ := @choose_lt u.D ⟨u.zero⟩ len (fun i x => Wf u x ∧ ∃ cs' : List Value, cs'.length = u.sz ∧ (∀ j v, cs'[j]? = some v → w.cell? (a.add (i * u.sz + j)) = some v) ∧ Rd u w (blocksOf ps) x cs') hel2
      refine ⟨(List.range len).map f, ⟨by simp; omega, fun x hx => ?_⟩, _, rfl, some a, m, by simp, by simpa using hl, by simp [maxLen] at hm ⊢; omega, fun h0 => ⟨a, rfl, ?_, fun j x hj => ?_⟩⟩
      · obtain ⟨i, hi, rfl⟩ := List.mem_map.1 hx
        exact (hf i (List.mem_range.1 hi)).1
      · simp at h0
        refine ⟨.cell a.block (a.off + 0), ?_, rfl⟩
        rw [hx2]
        refine List.mem_append.2 (.inl (List.mem_map.2 ⟨0, List.mem_range.2 ?_, rfl⟩))
        have := u.sz_pos
        rw [hc]
        exact Nat.mul_pos (by omega) this
      · rw [List.getElem?_map] at hj
        obtain ⟨i, hi, rfl⟩ := Option.map_eq_some_iff.1 hj
        have hlt : j < len := by simpa using (List.getElem?_eq_some_iff.1 hi).1
        rw [List.getElem?_range hlt] at hi
        injection hi with hi
        subst hi
        exact (hf j hlt).2
  | @struct t fs l h hn hl hc ho hf ih =>
    intro fuel cs d ps hd
    obtain ⟨xs, n, rfl, hx, hlen, hxl, hfl⟩ := DataW.trod_struct h hd
    injection hx with hx1 hx2
    refine open_nest l hn cs (by rw [hlen, hc]) (fun i u hu => ?_)
    have hi : i < fs.size := by rw [← hl]; exact (List.getElem?_eq_some_iff.1 hu).1
    have hfi : fs[i]? = some fs[i] := Array.getElem?_eq_getElem hi
    obtain ⟨o1, o2⟩ := ho i _ u hfi hu
    have h2 := hfl i _ hfi
    have hxi : i < xs.length := by omega
    rw [List.getElem?_eq_getElem hxi, o1, o2] at h2
    obtain ⟨x, hw, hr⟩ := ih i _ u hfi hu n _ _ _ h2
    exact ⟨x, hw, hr.wide (fun k ⟨p, hp, hk⟩ => ⟨p, by rw [hx2]; exact List.mem_flatMap.2 ⟨_, List.getElem_mem hxi, hp⟩, hk⟩)⟩

/-! ### All arguments -/
inductive ParOK (P : Program) : List TypeId → List PK → Prop
  | nil : ParOK P [] []
  | cell {t : TypeId} {ts : List TypeId} {u : Ty} {ps : List PK} (h : Deep P t u) (hs : ∀ fs, P.underlying t ≠ some (.struct fs)) (hr : ParOK P ts ps) : ParOK P (t :: ts) (⟨u, false, none, false⟩ :: ps)
  | agg {t : TypeId} {ts : List TypeId} {u : Ty} {ps : List PK} {fs : Array Field} (h : Deep P t u) (hs : P.underlying t = some (.struct fs)) (hr : ParOK P ts ps) : ParOK P (t :: ts) (⟨u, true, none, false⟩ :: ps)
theorem ParOK.c {P : Program} {t : TypeId} {ts : List TypeId} {u : Ty} {ps : List PK} (h : Deep P t u) (hs : isStruct P t = false) (hr : ParOK P ts ps) : ParOK P (t :: ts) (⟨u, false, none, false⟩ :: ps) :=
  .cell h (fun fs he => by unfold isStruct at hs; rw [he] at hs; cases hs) hr
theorem ParOK.a {P : Program} {t : TypeId} {ts : List TypeId} {u : Ty} {ps : List PK} (h : Deep P t u) (hs : isStruct P t = true) (hr : ParOK P ts ps) : ParOK P (t :: ts) (⟨u, true, none, false⟩ :: ps) := by
  unfold isStruct at hs
  split at hs
  · rename_i fs hfs; exact .agg h hfs hr
  · cases hs
def WfT : (ps : List PK) → Tup ps → Prop
  | [], _ => True
  | p :: ps, x => Wf p.t x.1 ∧ WfT ps x.2
theorem shaped_cell {W : World} {r : Reach} {b0 : Nat} {t : TypeId} {u : Ty} {v : Value} (h : Deep P t u) (hs : ∀ fs, P.underlying t ≠ some (.struct fs)) (hv : Value.okWide P W r b0 t v) : v.cells = #[v] := by
  cases h with
  | int h => obtain ⟨n, rfl⟩ := okWide_int h hv; rfl
  | bool h => obtain ⟨n, rfl⟩ := okWide_bool h hv; rfl
  | str h => obtain ⟨n, rfl⟩ := okWide_string h hv; rfl
  | slice h _ _ => obtain ⟨a, l, c, rfl⟩ := okWide_slice h hv; rfl
  | struct l h => exact absurd h (hs _)
theorem args_open {W : World} {r : Reach} {b0 : Nat} : ∀ (ts : List TypeId) (pks : List PK), ParOK P ts pks → ∀ {vs : List Value} {ds : List (DataW H)} {ps : List MemPlace}, DataW.TrodAll enc P W 0 (fun _ => true) true ts vs ds ps →
    (∀ (j : Nat) t v, ts[j]? = some t → vs[j]? = some v → Value.okWide P W r b0 t v) → ∃ x : Tup pks, WfT pks x ∧ ArgsR W (blocksOf ps) (fun _ => False) pks x vs := by
  intro ts pks h
  induction h with
  | nil =>
    intro vs ds ps h hv
    obtain ⟨rfl, rfl, rfl⟩ := trodAll_nil h
    exact ⟨(), trivial, rfl⟩
  | @cell t ts u pks hd hs hr ih =>
    intro vs ds ps h hv
    obtain ⟨v, vs', d, ds', p, q, rfl, rfl, rfl, h1, h2⟩ := trodAll_cons h
    obtain ⟨y, g1, g2⟩ := ih h2 (fun j t' v' ht hv' => hv (j + 1) t' v' ht hv')
    obtain ⟨fuel, hf⟩ := h1
    obtain ⟨x, k1, k2⟩ := open_deep _ _ hd fuel _ _ _ hf
    refine ⟨(x, y), ⟨k1, g1⟩, v, vs', rfl, ?_, k2.wide (fun k ⟨p', hp, hk⟩ => ⟨p', List.mem_append.2 (.inl hp), hk⟩), ?_⟩
    · show (if (false = true) then _ else _)
      rw [if_neg (by simp)]
      exact shaped_cell hd hs (hv 0 t v rfl rfl)
    · exact argsR_wide g2 (fun k ⟨p', hp, hk⟩ => ⟨p', List.mem_append.2 (.inr hp), hk⟩)
  | @agg t ts u pks fs hd hs hr ih =>
    intro vs ds ps h hv
    obtain ⟨v, vs', d, ds', p, q, rfl, rfl, rfl, h1, h2⟩ := trodAll_cons h
    obtain ⟨y, g1, g2⟩ := ih h2 (fun j t' v' ht hv' => hv (j + 1) t' v' ht hv')
    obtain ⟨fuel, hf⟩ := h1
    obtain ⟨x, k1, k2⟩ := open_deep _ _ hd fuel _ _ _ hf
    refine ⟨(x, y), ⟨k1, g1⟩, v, vs', rfl, ?_, k2.wide (fun k ⟨p', hp, hk⟩ => ⟨p', List.mem_append.2 (.inl hp), hk⟩), ?_⟩
    · show (if (true = true) then _ else _)
      rw [if_pos rfl]
      obtain ⟨cs, h3, _⟩ := okWide_struct hs (hv 0 t v rfl rfl)
      exact ⟨cs, h3⟩
    · exact argsR_wide g2 (fun k ⟨p', hp, hk⟩ => ⟨p', List.mem_append.2 (.inr hp), hk⟩)
where argsR_wide {W : World} {S S' So : Nat → Prop} : ∀ {pks : List PK} {x : Tup pks} {vs : List Value}, ArgsR W S So pks x vs → (∀ k, S k → S' k) → ArgsR W S' So pks x vs
  | [], _, _, h, _ => h
  | p :: pks, x, vs, h, hS => by
    obtain ⟨v, vs', rfl, h1, h2, h3⟩ := h
    refine ⟨v, vs', rfl, h1, ?_, argsR_wide h3 hS⟩
    split
    · rename_i ho
      rw [ho] at h2
      exact h2.wide hS
    · rename_i q ho
      rw [ho] at h2
      exact h2
theorem trodAll_below (hl : laidOutB P = true) {W W' : World} (hb : Below W.heap.size W W') : ∀ {ts : List TypeId} {vs : List Value} {ds : List (DataW H)} {ps : List MemPlace}, (ts.all fun t => P.readableRec t && decide (t < P.types.size)) = true → DataW.TrodAll enc P W 0 (fun _ => true) true ts vs ds ps → (∀ x ∈ ps, x.block < W.heap.size) →
    DataW.TrodAll enc P W' 0 (fun b => decide (b < W.heap.size)) true ts vs ds ps
  | [], vs, ds, ps, _, h, _ => by
    obtain ⟨rfl, rfl, rfl⟩ := trodAll_nil h
    exact trodAll_mk0
  | t :: ts, vs, ds, ps, ht, h, hlt => by
    simp only [List.all_cons, Bool.and_eq_true, decide_eq_true_eq] at ht
    obtain ⟨v, vs', d, ds', p, q, rfl, rfl, rfl, h1, h2⟩ := trodAll_cons h
    exact trodAll_cons_mk (Below.trod hl ht.1.1 ht.1.2 h1 hb (fun x hx => hlt x (List.mem_append.2 (.inl hx)))) (trodAll_below hl hb (by simpa using ht.2) h2 (fun x hx => hlt x (List.mem_append.2 (.inr hx))))
theorem trodAll_lt {W : World} : ∀ {ts : List TypeId} {vs : List Value} {ds : List (DataW H)} {ps : List MemPlace}, DataW.TrodAll enc P W 0 (fun _ => true) true ts vs ds ps → ∀ x ∈ ps, x.block < W.heap.size
  | [], vs, ds, ps, h, x, hx => by
    obtain ⟨rfl, rfl, rfl⟩ := trodAll_nil h
    cases hx
  | t :: ts, vs, ds, ps, h, x, hx => by
    obtain ⟨v, vs', d, ds', p, q, rfl, rfl, rfl, h1, h2⟩ := trodAll_cons h
    rcases List.mem_append.1 hx with hx | hx
    · obtain ⟨m, hm⟩ := h1
      exact DataW.trod_lt m _ _ _ hm x hx
    · exact trodAll_lt h2 x hx

theorem E_at {D : FnDef} {k : Nat} {x : Tup D.ps} {z : D.R} (h : D.f k x = some z) {γ : Type} (K : Tup D.rs → OutD → Option γ) : D.E.fn k x K = D.dsp z K := by
  show (match D.f k x with | some z => D.dsp z K | none => none) = _
  rw [h]
/-! ### A law's contract: it returns true, and the world that was there stays. -/
def yes {E : Type} (res : Bool × Unit) (_ : E) : Option Unit := if res.1 = true then some () else none
theorem law_calls {f : FuncId} {ts : List TypeId} {pks : List PK} {fn : {γ : Type} → Nat → Tup pks → (Tup [⟨.bool, false, none, false⟩] → OutD → Option γ) → Option γ}
    (hs : ∀ k, SoundAt P k f ⟨pks, [⟨.bool, false, none, false⟩], fn⟩) (hp : ParOK P ts pks) (hno : ownI pks = none) (hlaw : ∀ x : Tup pks, WfT pks x → ∃ k, fn k x yes = some ())
    {W : World} {base : Nat} {args : Array Value} {ds : List (DataW H)} {ps : List MemPlace} (hA : DataW.TrodAll enc P W 0 (fun _ => true) true ts args.toList ds ps) (hval : ∀ (j : Nat) t v, ts[j]? = some t → args[j]? = some v → Value.okWide P W .any base t v) :
    Calls P f args W fun e W' => e = .returned (.bool true) ∧ Below W.heap.size W W' := by
  obtain ⟨x, hw, hx⟩ := args_open _ _ hp hA (r := .any) (b0 := base) (fun j t v ht hv => hval j t v ht (by simpa using hv))
  obtain ⟨k, hk⟩ := hlaw x hw
  have hlt := trodAll_lt hA
  have := (hs k).calls (K := yes) (r := ()) W _ _ x _ hx (fun _ hf => hf.elim) (fun _ hf => hf.elim) (fun k' ⟨p, hp', hk'⟩ => by rw [← hk']; exact hlt p hp') (fun _ _ hf => hf) hk
  rw [Array.toArray_toList] at this
  refine this.mono fun e W' he => ?_
  cases e with
  | returned v =>
    obtain ⟨res, out, hy, hF⟩ := he
    obtain ⟨Sr, us, _, rfl, hres, _⟩ := hF.res
    obtain ⟨u, us', S1, S2, rfl, hsh, hrep, _, _, hnil⟩ := hres
    obtain rfl : us' = [] := hnil
    refine ⟨?_, hF.chg.below (fun _ hf => hf)⟩
    have hsh2 : u.cells = #[u] := by
      have := hsh
      unfold Shaped at this
      rw [if_neg (by simp)] at this
      exact this
    have hr1 : res.1 = true := by
      unfold yes at hy
      split at hy
      · assumption
      · cases hy
    have hrep2 : u.cells.toList = [.bool res.1] := hrep
    rw [hsh2] at hrep2
    simp at hrep2
    rw [hrep2, hr1]
    rfl
  | panicked c => exact False.elim he
  | outgrown => exact False.elim he
end
end Go.Proofs.Ytjjlmnbmpgfcbaa.Vs

set_option maxRecDepth 100000
namespace Go.Proofs.Ytjjlmnbmpgfcbaa.Vs
open Go.RowKit
noncomputable section
theorem grd_and {α : Type} {c d : Prop} [Decidable c] [Decidable d] {x : Option α} : (if c then (if d then x else none) else none) = if c ∧ d then x else none := by
  by_cases h : c <;> by_cases h2 : d <;> simp [h, h2]
theorem joinL_grdl {α : Type} {c : Prop} [Decidable c] {x y : Option (List α)} : joinL (if c then x else none) y = if c then joinL x y else none := by
  by_cases h : c <;> simp [h, joinL]
theorem joinL_grdr {α : Type} {c : Prop} [Decidable c] {x y : Option (List α)} : joinL x (if c then y else none) = if c then joinL x y else none := by
  by_cases h : c <;> simp [h, joinL]
theorem repl_grd {α : Type} {c : Prop} [Decidable c] {m : Nat} {x : Option α} : repl m (if c then x else none) = if c then repl m x else none := by
  by_cases h : c <;> simp [h, repl]
theorem grd_congr {α : Type} {c d : Prop} [Decidable c] [Decidable d] {x : Option α} (h : c ↔ d) : (if c then x else none) = if d then x else none := by
  by_cases h1 : c
  · rw [if_pos h1, if_pos (h.1 h1)]
  · rw [if_neg h1, if_neg (fun h2 => h1 (h.2 h2))]
def i3 : TI := ⟨.scal, .int Go.IntKind.i64, 8, false⟩
theorem t3 : TyOK Try.prog 3 i3 := .scal (by kernel_rfl) (by decide) rfl rfl (by kernel_rfl)
theorem dp3 : Deep Try.prog 3 (.int Go.IntKind.i64) := .int (by kernel_rfl)
def i77 : TI := ⟨.struct [(0, 3), (1, 3)], .pair (.int Go.IntKind.i64) (.int Go.IntKind.i64), 16, true⟩
theorem t77 : TyOK Try.prog 77 i77 := .structE (by kernel_rfl) (by kernel_rfl) (by decide) (by kernel_rfl) (by kernel_rfl)
theorem dp77 : Deep Try.prog 77 (.pair (.int Go.IntKind.i64) (.int Go.IntKind.i64)) := .st [.int Go.IntKind.i64, .int Go.IntKind.i64] (tys := [3, 3]) (by simp) (by kernel_rfl) ⟨dp3, dp3, trivial⟩
def i22 : TI := ⟨.slice 77, .slice 77 (.pair (.int Go.IntKind.i64) (.int Go.IntKind.i64)), 24, false⟩
theorem t22 : TyOK Try.prog 22 i22 := .slice (by kernel_rfl) (by decide) rfl (by kernel_rfl)
theorem dp22 : Deep Try.prog 22 (.slice 77 (.pair (.int Go.IntKind.i64) (.int Go.IntKind.i64))) := .slice (by kernel_rfl) (by kernel_rfl) dp77
def i24 : TI := ⟨.struct [(0, 3), (1, 3), (2, 22)], .pair (.int Go.IntKind.i64) (.pair (.int Go.IntKind.i64) (.slice 77 (.pair (.int Go.IntKind.i64) (.int Go.IntKind.i64)))), 40, false⟩
theorem t24 : TyOK Try.prog 24 i24 := .struct (by kernel_rfl) (by decide) (by kernel_rfl) (by kernel_rfl)
theorem dp24 : Deep Try.prog 24 (.pair (.int Go.IntKind.i64) (.pair (.int Go.IntKind.i64) (.slice 77 (.pair (.int Go.IntKind.i64) (.int Go.IntKind.i64))))) := .st [.int Go.IntKind.i64, .int Go.IntKind.i64, .slice 77 (.pair (.int Go.IntKind.i64) (.int Go.IntKind.i64))] (tys := [3, 3, 22]) (by simp) (by kernel_rfl) ⟨dp3, dp3, dp22, trivial⟩
def i4 : TI := ⟨.scal, .bool, 1, false⟩
theorem t4 : TyOK Try.prog 4 i4 := .scal (by kernel_rfl) (by decide) rfl rfl (by kernel_rfl)
def i75 : TI := ⟨.struct [(0, 3), (1, 3)], .pair (.int Go.IntKind.i64) (.int Go.IntKind.i64), 16, true⟩
theorem t75 : TyOK Try.prog 75 i75 := .structE (by kernel_rfl) (by kernel_rfl) (by decide) (by kernel_rfl) (by kernel_rfl)
def i29 : TI := ⟨.slice 75, .slice 75 (.pair (.int Go.IntKind.i64) (.int Go.IntKind.i64)), 24, false⟩
theorem t29 : TyOK Try.prog 29 i29 := .slice (by kernel_rfl) (by decide) rfl (by kernel_rfl)
def i31 : TI := ⟨.struct [(0, 3), (1, 3), (2, 29)], .pair (.int Go.IntKind.i64) (.pair (.int Go.IntKind.i64) (.slice 75 (.pair (.int Go.IntKind.i64) (.int Go.IntKind.i64)))), 40, false⟩
theorem t31 : TyOK Try.prog 31 i31 := .struct (by kernel_rfl) (by decide) (by kernel_rfl) (by kernel_rfl)
def i26 : TI := ⟨.slice 3, .slice 3 (.int Go.IntKind.i64), 24, false⟩
theorem t26 : TyOK Try.prog 26 i26 := .slice (by kernel_rfl) (by decide) rfl (by kernel_rfl)
theorem dp26 : Deep Try.prog 26 (.slice 3 (.int Go.IntKind.i64)) := .slice (by kernel_rfl) (by kernel_rfl) dp3
def i43 : TI := ⟨.slice 31, .slice 31 (.pair (.int Go.IntKind.i64) (.pair (.int Go.IntKind.i64) (.slice 75 (.pair (.int Go.IntKind.i64) (.int Go.IntKind.i64))))), 24, false⟩
theorem t43 : TyOK Try.prog 43 i43 := .slice (by kernel_rfl) (by decide) rfl (by kernel_rfl)
def i55 : TI := ⟨.slice 26, .slice 26 (.slice 3 (.int Go.IntKind.i64)), 24, false⟩
theorem t55 : TyOK Try.prog 55 i55 := .slice (by kernel_rfl) (by decide) rfl (by kernel_rfl)
def i71 : TI := ⟨.struct [(0, 3), (1, 3), (2, 3)], .pair (.int Go.IntKind.i64) (.pair (.int Go.IntKind.i64) (.int Go.IntKind.i64)), 24, true⟩
theorem t71 : TyOK Try.prog 71 i71 := .structE (by kernel_rfl) (by kernel_rfl) (by decide) (by kernel_rfl) (by kernel_rfl)
def i85 : TI := ⟨.scal, .int Go.IntKind.u64, 8, false⟩
theorem t85 : TyOK Try.prog 85 i85 := .scal (by kernel_rfl) (by decide) rfl rfl (by kernel_rfl)
def i87 : TI := ⟨.map 3 3 false 1, .bool, 1, false⟩
theorem t87 : MapOK Try.prog 87 (3, 3, false, 1) := .int (by kernel_rfl) (by kernel_rfl)
theorem mixed : Try.prog.follows .mixedOrders = true := by kernel_rfl
def T : TT := [(3, i3), (77, i77), (22, i22), (24, i24), (4, i4), (75, i75), (29, i29), (31, i31), (26, i26), (43, i43), (55, i55), (71, i71), (85, i85), (87, i87)]
theorem T_ok : TTok Try.prog T := .of (by unfold T; exact (List.forall_mem_cons.2 ⟨t3, (List.forall_mem_cons.2 ⟨t77, (List.forall_mem_cons.2 ⟨t22, (List.forall_mem_cons.2 ⟨t24, (List.forall_mem_cons.2 ⟨t4, (List.forall_mem_cons.2 ⟨t75, (List.forall_mem_cons.2 ⟨t29, (List.forall_mem_cons.2 ⟨t31, (List.forall_mem_cons.2 ⟨t26, (List.forall_mem_cons.2 ⟨t43, (List.forall_mem_cons.2 ⟨t55, (List.forall_mem_cons.2 ⟨t71, (List.forall_mem_cons.2 ⟨t85, (List.forall_mem_cons.2 ⟨t87, (fun _ h => nomatch h)⟩)⟩)⟩)⟩)⟩)⟩)⟩)⟩)⟩)⟩)⟩)⟩)⟩)⟩))
end
end Go.Proofs.Ytjjlmnbmpgfcbaa.Vs

set_option maxRecDepth 100000
set_option maxHeartbeats 2000000
set_option linter.unusedVariables false
set_option linter.unusedSimpArgs false
namespace Go.Proofs.Ytjjlmnbmpgfcbaa.Vs
open Go.RowKit
noncomputable section
/-! function 12 -/
noncomputable def r_laws_eqIntS : List PK := [{ t := Ty.bool }]
noncomputable def q_laws_eqIntS : List PK := [{ t := Ty.slice (3 : Nat) (Ty.int IntKind.i64) }, { t := Ty.slice (3 : Nat) (Ty.int IntKind.i64) }]
noncomputable def to_laws_eqIntS (r : Bool) : Tup r_laws_eqIntS × OutD := ((r, ()), none)
noncomputable def of_laws_eqIntS : Tup r_laws_eqIntS × OutD → Option (Bool)
  | (a, none) => some (a.1)
  | _ => none
theorem to_of_laws_eqIntS : ∀ b r, of_laws_eqIntS b = some r → to_laws_eqIntS r = b := by
  rintro ⟨a, o⟩ r h
  cases o with
  | none => injection h with h; subst h; rfl
  | some _ => cases h
noncomputable def f_laws_eqIntS_0 : Nat → List Int → List Int → Int → Option (LR Unit Bool)
  | 0, _, _, _ => none
  | k + 1, v0, v1, v5 =>
    if decide (v5 < (↑(List.length v0) : Int)) = true then if (0 : Int) ≤ v5 then if v5 < (↑(List.length v0) : Int) then if (0 : Int) ≤ v5 then if v5 < (↑(List.length v1) : Int) then if decide (List.getD v0 (Int.toNat v5) (0 : Int) ≠ List.getD v1 (Int.toNat v5) (0 : Int)) = true then some (LR.ret false) else f_laws_eqIntS_0 k v0 v1 (wrap64 (v5 + (1 : Int))) else none else none else none else none else some (LR.go ())
noncomputable def f_laws_eqIntS_0i : Spec := { objs := [OSh.ro], tmps := [((0 : Nat), TSh.at (Sh.snap (0 : Nat) (Ty.int IntKind.i64))), ((1 : Nat), TSh.at (Sh.snap (0 : Nat) (Ty.int IntKind.i64))), ((5 : Nat), TSh.at (Sh.int IntKind.i64))] }
noncomputable def f_laws_eqIntS_0o : Spec := { objs := [OSh.ro], tmps := [] }
noncomputable def f_laws_eqIntS_0D : LoopDef (Tup r_laws_eqIntS × OutD) := .rets f_laws_eqIntS_0i f_laws_eqIntS_0o (Unit) (Bool) (fun k x => f_laws_eqIntS_0 k x.2.1 x.2.2.1 x.2.2.2.1) (fun z => (((), ()), (()))) (fun y => ()) (fun _ => rfl) to_laws_eqIntS of_laws_eqIntS to_of_laws_eqIntS
noncomputable def f_laws_eqIntS : Nat → List Int → List Int → Option Bool
  | 0, _, _ => none
  | k + 1, p0, p1 =>
    if decide ((↑(List.length p0) : Int) ≠ (↑(List.length p1) : Int)) = true then some false else Option.bind (f_laws_eqIntS_0 k p0 p1 (0 : Int)) fun z0 => LR.on z0 (fun y0 => some true) fun r0 => some r0
noncomputable def d_laws_eqIntS : FnDef := .of q_laws_eqIntS r_laws_eqIntS (Bool) (fun k x => f_laws_eqIntS k x.1 x.2.1) to_laws_eqIntS of_laws_eqIntS to_of_laws_eqIntS
noncomputable def c_laws_eqIntS : Code := Try.f12.body.getD .skip
noncomputable def x_laws_eqIntS : Ctx (Tup r_laws_eqIntS × OutD) := { T := T, G := [], mvs := [], no := 0, n := 26, res := resOf T q_laws_eqIntS r_laws_eqIntS Try.f12.results.toList, loops := [(0, f_laws_eqIntS_0D.E)], regs := [], conds := [] }
theorem g_laws_eqIntS (k : Nat) : EnvOK Try.prog k x_laws_eqIntS.G := (EnvOK.nil mixed)
noncomputable def f_laws_eqIntS_0B : Code := (findLoop 0 c_laws_eqIntS).getD .skip
theorem f_laws_eqIntS_0h (k : Nat) (x : f_laws_eqIntS_0i.D) : f_laws_eqIntS_0D.lp (k + 1) x = loopK x_laws_eqIntS f_laws_eqIntS_0D 0 f_laws_eqIntS_0B k x := by kernel_rfl
theorem f_laws_eqIntS_0l (k : Nat) : LOK Try.prog x_laws_eqIntS k f_laws_eqIntS_0B := LOK.by [] (by kernel_rfl) AllOK.nil
theorem f_laws_eqIntS_0z (x : f_laws_eqIntS_0i.D) : f_laws_eqIntS_0D.lp 0 x = none := by kernel_rfl
theorem f_laws_eqIntS_0ok (k : Nat) : EOK Try.prog x_laws_eqIntS k f_laws_eqIntS_0D.E (.block 0 (.loop f_laws_eqIntS_0B)) := loop_ok T_ok g_laws_eqIntS f_laws_eqIntS_0z f_laws_eqIntS_0h f_laws_eqIntS_0l k
theorem h_laws_eqIntS (k : Nat) (x : Tup d_laws_eqIntS.ps) : d_laws_eqIntS.f (k + 1) x = fnK d_laws_eqIntS x_laws_eqIntS c_laws_eqIntS k x := by kernel_rfl
theorem z_laws_eqIntS (x : Tup d_laws_eqIntS.ps) : d_laws_eqIntS.f 0 x = none := by kernel_rfl
theorem l_laws_eqIntS (k : Nat) : LOK Try.prog x_laws_eqIntS k c_laws_eqIntS := LOK.by [(f_laws_eqIntS_0D.E, .block 0 (.loop f_laws_eqIntS_0B))] (by kernel_rfl) (AllOK.cons (f_laws_eqIntS_0ok k) AllOK.nil)
theorem s_laws_eqIntS (k : Nat) : SoundAt Try.prog k 12 d_laws_eqIntS.E := @fn_all Try.prog d_laws_eqIntS x_laws_eqIntS 12 Try.f12 c_laws_eqIntS (by kernel_rfl) (by kernel_rfl) (by kernel_rfl) Try.func12 (by kernel_rfl) (by kernel_rfl) (by kernel_rfl) T_ok g_laws_eqIntS l_laws_eqIntS z_laws_eqIntS h_laws_eqIntS k
/-! function 15 -/
noncomputable def r_laws_markIntS : List PK := [{ t := Ty.int IntKind.i64 }]
noncomputable def q_laws_markIntS : List PK := [{ t := Ty.slice (3 : Nat) (Ty.int IntKind.i64), own := some ((0 : Nat), (3 : Nat), Ty.int IntKind.i64) }, { t := Ty.int IntKind.i64 }]
noncomputable def to_laws_markIntS (r : Int × List Int) : Tup r_laws_markIntS × OutD := ((r.1, ()), some ⟨Ty.int IntKind.i64, r.2⟩)
noncomputable def of_laws_markIntS : Tup r_laws_markIntS × OutD → Option (Int × List Int)
  | (a, some ⟨u, ys⟩) => if h : u = Ty.int IntKind.i64 then some (a.1, castU h ys) else none
  | _ => none
theorem to_of_laws_markIntS : ∀ b r, of_laws_markIntS b = some r → to_laws_markIntS r = b := by
  rintro ⟨a, o⟩ r h
  cases o with
  | none => cases h
  | some s =>
    obtain ⟨u, ys⟩ := s
    simp only [of_laws_markIntS] at h
    split at h
    · rename_i hu; subst hu; injection h with h; subst h; rfl
    · cases h
noncomputable def f_laws_markIntS_0 : Nat → List Int → Int → Int → Option (List Int × Int)
  | 0, _, _, _ => none
  | k + 1, o1, v1, v5 =>
    if decide (v5 < (↑(List.length o1) : Int)) = true then if (0 : Int) ≤ v5 then if v5 < (↑(List.length o1) : Int) then f_laws_markIntS_0 k (List.set o1 (Int.toNat v5) v1) (wrap64 (v1 + (1 : Int))) (wrap64 (v5 + (1 : Int))) else none else none else some (o1, v1)
noncomputable def f_laws_markIntS_0i : Spec := { objs := [OSh.ro, OSh.row false (3 : Nat) (Ty.int IntKind.i64)], tmps := [((0 : Nat), TSh.at (Sh.sl (1 : Nat))), ((1 : Nat), TSh.at (Sh.int IntKind.i64)), ((5 : Nat), TSh.at (Sh.int IntKind.i64))] }
noncomputable def f_laws_markIntS_0o : Spec := { objs := [OSh.ro, OSh.row false (3 : Nat) (Ty.int IntKind.i64)], tmps := [((1 : Nat), TSh.at (Sh.int IntKind.i64))] }
noncomputable def f_laws_markIntS_0D : LoopDef (Tup r_laws_markIntS × OutD) := .plain f_laws_markIntS_0i f_laws_markIntS_0o (List Int × Int) (fun k x => f_laws_markIntS_0 k x.1.2.1 x.2.2.1 x.2.2.2.1) (fun z => (((), z.1, ()), (z.2, ()))) (fun y => (y.1.2.1, y.2.1)) (fun _ => rfl)
noncomputable def f_laws_markIntS : Nat → List Int → Int → Option (Int × List Int)
  | 0, _, _ => none
  | k + 1, p0, p1 =>
    Option.bind (f_laws_markIntS_0 k p0 p1 (0 : Int)) fun z0 => some (Prod.snd z0, Prod.fst z0)
noncomputable def d_laws_markIntS : FnDef := .of q_laws_markIntS r_laws_markIntS (Int × List Int) (fun k x => f_laws_markIntS k x.1 x.2.1) to_laws_markIntS of_laws_markIntS to_of_laws_markIntS
noncomputable def c_laws_markIntS : Code := Try.f15.body.getD .skip
noncomputable def x_laws_markIntS : Ctx (Tup r_laws_markIntS × OutD) := { T := T, G := [], mvs := [], no := 1, n := 19, res := resOf T q_laws_markIntS r_laws_markIntS Try.f15.results.toList, loops := [(0, f_laws_markIntS_0D.E)], regs := [], conds := [] }
theorem g_laws_markIntS (k : Nat) : EnvOK Try.prog k x_laws_markIntS.G := (EnvOK.nil mixed)
noncomputable def f_laws_markIntS_0B : Code := (findLoop 0 c_laws_markIntS).getD .skip
theorem f_laws_markIntS_0h (k : Nat) (x : f_laws_markIntS_0i.D) : f_laws_markIntS_0D.lp (k + 1) x = loopK x_laws_markIntS f_laws_markIntS_0D 0 f_laws_markIntS_0B k x := by kernel_rfl
theorem f_laws_markIntS_0l (k : Nat) : LOK Try.prog x_laws_markIntS k f_laws_markIntS_0B := LOK.by [] (by kernel_rfl) AllOK.nil
theorem f_laws_markIntS_0z (x : f_laws_markIntS_0i.D) : f_laws_markIntS_0D.lp 0 x = none := by kernel_rfl
theorem f_laws_markIntS_0ok (k : Nat) : EOK Try.prog x_laws_markIntS k f_laws_markIntS_0D.E (.block 0 (.loop f_laws_markIntS_0B)) := loop_ok T_ok g_laws_markIntS f_laws_markIntS_0z f_laws_markIntS_0h f_laws_markIntS_0l k
theorem h_laws_markIntS (k : Nat) (x : Tup d_laws_markIntS.ps) : d_laws_markIntS.f (k + 1) x = fnK d_laws_markIntS x_laws_markIntS c_laws_markIntS k x := by kernel_rfl
theorem z_laws_markIntS (x : Tup d_laws_markIntS.ps) : d_laws_markIntS.f 0 x = none := by kernel_rfl
theorem l_laws_markIntS (k : Nat) : LOK Try.prog x_laws_markIntS k c_laws_markIntS := LOK.by [(f_laws_markIntS_0D.E, .block 0 (.loop f_laws_markIntS_0B))] (by kernel_rfl) (AllOK.cons (f_laws_markIntS_0ok k) AllOK.nil)
theorem s_laws_markIntS (k : Nat) : SoundAt Try.prog k 15 d_laws_markIntS.E := @fn_all Try.prog d_laws_markIntS x_laws_markIntS 15 Try.f15 c_laws_markIntS (by kernel_rfl) (by kernel_rfl) (by kernel_rfl) Try.func15 (by kernel_rfl) (by kernel_rfl) (by kernel_rfl) T_ok g_laws_markIntS l_laws_markIntS z_laws_markIntS h_laws_markIntS k
/-! function 16 -/
/-! function 28 -/
noncomputable def r_laws_toIntS : List PK := [{ t := Ty.slice (3 : Nat) (Ty.int IntKind.i64) }]
noncomputable def q_laws_toIntS : List PK := [{ t := Ty.slice (3 : Nat) (Ty.int IntKind.i64) }]
noncomputable def to_laws_toIntS (r : List Int) : Tup r_laws_toIntS × OutD := ((r, ()), none)
noncomputable def of_laws_toIntS : Tup r_laws_toIntS × OutD → Option (List Int)
  | (a, none) => some (a.1)
  | _ => none
theorem to_of_laws_toIntS : ∀ b r, of_laws_toIntS b = some r → to_laws_toIntS r = b := by
  rintro ⟨a, o⟩ r h
  cases o with
  | none => injection h with h; subst h; rfl
  | some _ => cases h
noncomputable def f_laws_toIntS_0 : Nat → List Int → List Int → Int → Option (List Int)
  | 0, _, _, _ => none
  | k + 1, o1, v0, v4 =>
    if decide (v4 < (↑(List.length v0) : Int)) = true then if (0 : Int) ≤ v4 then if v4 < (↑(List.length v0) : Int) then if (0 : Int) ≤ v4 then if v4 < (↑(List.length o1) : Int) then f_laws_toIntS_0 k (List.set o1 (Int.toNat v4) (List.getD v0 (Int.toNat v4) (0 : Int))) v0 (wrap64 (v4 + (1 : Int))) else none else none else none else none else some o1
noncomputable def f_laws_toIntS_0i : Spec := { objs := [OSh.ro, OSh.row true (3 : Nat) (Ty.int IntKind.i64)], tmps := [((0 : Nat), TSh.at (Sh.snap (0 : Nat) (Ty.int IntKind.i64))), ((3 : Nat), TSh.at (Sh.sl (1 : Nat))), ((4 : Nat), TSh.at (Sh.int IntKind.i64))] }
noncomputable def f_laws_toIntS_0o : Spec := { objs := [OSh.ro, OSh.row true (3 : Nat) (Ty.int IntKind.i64)], tmps := [((3 : Nat), TSh.at (Sh.sl (1 : Nat)))] }
noncomputable def f_laws_toIntS_0D : LoopDef (Tup r_laws_toIntS × OutD) := .plain f_laws_toIntS_0i f_laws_toIntS_0o (List Int) (fun k x => f_laws_toIntS_0 k x.1.2.1 x.2.1 x.2.2.2.1) (fun z => (((), z, ()), ((), ()))) (fun y => (y.1.2.1)) (fun _ => rfl)
noncomputable def f_laws_toIntS : Nat → List Int → Option (List Int)
  | 0, _ => none
  | k + 1, p0 =>
    if Int.toNat (↑(List.length p0) : Int) * (8 : Nat) ≤ (281474976710656 : Nat) then Option.bind (f_laws_toIntS_0 k (List.replicate (Int.toNat (↑(List.length p0) : Int)) (0 : Int)) p0 (0 : Int)) fun z0 => some z0 else none
noncomputable def d_laws_toIntS : FnDef := .of q_laws_toIntS r_laws_toIntS (List Int) (fun k x => f_laws_toIntS k x.1) to_laws_toIntS of_laws_toIntS to_of_laws_toIntS
noncomputable def c_laws_toIntS : Code := Try.f28.body.getD .skip
noncomputable def x_laws_toIntS : Ctx (Tup r_laws_toIntS × OutD) := { T := T, G := [], mvs := [], no := 0, n := 22, res := resOf T q_laws_toIntS r_laws_toIntS Try.f28.results.toList, loops := [(0, f_laws_toIntS_0D.E)], regs := [], conds := [] }
theorem g_laws_toIntS (k : Nat) : EnvOK Try.prog k x_laws_toIntS.G := (EnvOK.nil mixed)
noncomputable def f_laws_toIntS_0B : Code := (findLoop 0 c_laws_toIntS).getD .skip
theorem f_laws_toIntS_0h (k : Nat) (x : f_laws_toIntS_0i.D) : f_laws_toIntS_0D.lp (k + 1) x = loopK x_laws_toIntS f_laws_toIntS_0D 0 f_laws_toIntS_0B k x := by kernel_rfl
theorem f_laws_toIntS_0l (k : Nat) : LOK Try.prog x_laws_toIntS k f_laws_toIntS_0B := LOK.by [] (by kernel_rfl) AllOK.nil
theorem f_laws_toIntS_0z (x : f_laws_toIntS_0i.D) : f_laws_toIntS_0D.lp 0 x = none := by kernel_rfl
theorem f_laws_toIntS_0ok (k : Nat) : EOK Try.prog x_laws_toIntS k f_laws_toIntS_0D.E (.block 0 (.loop f_laws_toIntS_0B)) := loop_ok T_ok g_laws_toIntS f_laws_toIntS_0z f_laws_toIntS_0h f_laws_toIntS_0l k
theorem h_laws_toIntS (k : Nat) (x : Tup d_laws_toIntS.ps) : d_laws_toIntS.f (k + 1) x = fnK d_laws_toIntS x_laws_toIntS c_laws_toIntS k x := by kernel_rfl
theorem z_laws_toIntS (x : Tup d_laws_toIntS.ps) : d_laws_toIntS.f 0 x = none := by kernel_rfl
theorem l_laws_toIntS (k : Nat) : LOK Try.prog x_laws_toIntS k c_laws_toIntS := LOK.by [(f_laws_toIntS_0D.E, .block 0 (.loop f_laws_toIntS_0B))] (by kernel_rfl) (AllOK.cons (f_laws_toIntS_0ok k) AllOK.nil)
theorem s_laws_toIntS (k : Nat) : SoundAt Try.prog k 28 d_laws_toIntS.E := @fn_all Try.prog d_laws_toIntS x_laws_toIntS 28 Try.f28 c_laws_toIntS (by kernel_rfl) (by kernel_rfl) (by kernel_rfl) Try.func28 (by kernel_rfl) (by kernel_rfl) (by kernel_rfl) T_ok g_laws_toIntS l_laws_toIntS z_laws_toIntS h_laws_toIntS k
/-! function 30 -/
noncomputable def r_laws_szCellS : List PK := [{ t := Ty.int IntKind.i64 }]
noncomputable def q_laws_szCellS : List PK := [{ t := Ty.slice (77 : Nat) (Ty.pair (Ty.int IntKind.i64) (Ty.int IntKind.i64)) }, { t := Ty.int IntKind.i64 }]
noncomputable def to_laws_szCellS (r : Int) : Tup r_laws_szCellS × OutD := ((r, ()), none)
noncomputable def of_laws_szCellS : Tup r_laws_szCellS × OutD → Option (Int)
  | (a, none) => some (a.1)
  | _ => none
theorem to_of_laws_szCellS : ∀ b r, of_laws_szCellS b = some r → to_laws_szCellS r = b := by
  rintro ⟨a, o⟩ r h
  cases o with
  | none => injection h with h; subst h; rfl
  | some _ => cases h
noncomputable def f_laws_szCellS : Nat → List (Int × Int) → Int → Option Int
  | 0, _, _ => none
  | k + 1, p0, p1 =>
    if decide (wrap64 (p1 - (↑(List.length p0) : Int)) < (0 : Int)) = true then some (-1 : Int) else some (wrap64 (p1 - (↑(List.length p0) : Int)))
noncomputable def d_laws_szCellS : FnDef := .of q_laws_szCellS r_laws_szCellS (Int) (fun k x => f_laws_szCellS k x.1 x.2.1) to_laws_szCellS of_laws_szCellS to_of_laws_szCellS
noncomputable def c_laws_szCellS : Code := Try.f30.body.getD .skip
noncomputable def x_laws_szCellS : Ctx (Tup r_laws_szCellS × OutD) := { T := T, G := [], mvs := [], no := 0, n := 12, res := resOf T q_laws_szCellS r_laws_szCellS Try.f30.results.toList, loops := [], regs := [], conds := [] }
theorem g_laws_szCellS (k : Nat) : EnvOK Try.prog k x_laws_szCellS.G := (EnvOK.nil mixed)
theorem h_laws_szCellS (k : Nat) (x : Tup d_laws_szCellS.ps) : d_laws_szCellS.f (k + 1) x = fnK d_laws_szCellS x_laws_szCellS c_laws_szCellS k x := by kernel_rfl
theorem z_laws_szCellS (x : Tup d_laws_szCellS.ps) : d_laws_szCellS.f 0 x = none := by kernel_rfl
theorem l_laws_szCellS (k : Nat) : LOK Try.prog x_laws_szCellS k c_laws_szCellS := LOK.by [] (by kernel_rfl) AllOK.nil
theorem s_laws_szCellS (k : Nat) : SoundAt Try.prog k 30 d_laws_szCellS.E := @fn_all Try.prog d_laws_szCellS x_laws_szCellS 30 Try.f30 c_laws_szCellS (by kernel_rfl) (by kernel_rfl) (by kernel_rfl) Try.func30 (by kernel_rfl) (by kernel_rfl) (by kernel_rfl) T_ok g_laws_szCellS l_laws_szCellS z_laws_szCellS h_laws_szCellS k
/-! function 33 -/
/-! function 37 -/
/-! function 39 -/
noncomputable def r_laws_markCellS : List PK := [{ t := Ty.int IntKind.i64 }]
noncomputable def q_laws_markCellS : List PK := [{ t := Ty.slice (75 : Nat) (Ty.pair (Ty.int IntKind.i64) (Ty.int IntKind.i64)), own := some ((0 : Nat), (75 : Nat), Ty.pair (Ty.int IntKind.i64) (Ty.int IntKind.i64)) }, { t := Ty.int IntKind.i64 }]
noncomputable def to_laws_markCellS (r : Int × List (Int × Int)) : Tup r_laws_markCellS × OutD := ((r.1, ()), some ⟨Ty.pair (Ty.int IntKind.i64) (Ty.int IntKind.i64), r.2⟩)
noncomputable def of_laws_markCellS : Tup r_laws_markCellS × OutD → Option (Int × List (Int × Int))
  | (a, some ⟨u, ys⟩) => if h : u = Ty.pair (Ty.int IntKind.i64) (Ty.int IntKind.i64) then some (a.1, castU h ys) else none
  | _ => none
theorem to_of_laws_markCellS : ∀ b r, of_laws_markCellS b = some r → to_laws_markCellS r = b := by
  rintro ⟨a, o⟩ r h
  cases o with
  | none => cases h
  | some s =>
    obtain ⟨u, ys⟩ := s
    simp only [of_laws_markCellS] at h
    split at h
    · rename_i hu; subst hu; injection h with h; subst h; rfl
    · cases h
noncomputable def f_laws_markCellS_0 : Nat → List (Int × Int) → Int → Int → Option (List (Int × Int) × Int)
  | 0, _, _, _ => none
  | k + 1, o1, v1, v5 =>
    if decide (v5 < (↑(List.length o1) : Int)) = true then if (0 : Int) ≤ v5 then if v5 < (↑(List.length o1) : Int) then if (0 : Int) ≤ v5 then if v5 < (↑(List.length (List.set o1 (Int.toNat v5) (v1, Prod.snd (List.getD o1 (Int.toNat v5) ((0 : Int), (0 : Int)))))) : Int) then f_laws_markCellS_0 k (List.set (List.set o1 (Int.toNat v5) (v1, Prod.snd (List.getD o1 (Int.toNat v5) ((0 : Int), (0 : Int))))) (Int.toNat v5) (Prod.fst (List.getD (List.set o1 (Int.toNat v5) (v1, Prod.snd (List.getD o1 (Int.toNat v5) ((0 : Int), (0 : Int))))) (Int.toNat v5) ((0 : Int), (0 : Int))), wrap64 (v1 + (1 : Int)))) (wrap64 (wrap64 (v1 + (1 : Int)) + (1 : Int))) (wrap64 (v5 + (1 : Int))) else none else none else none else none else some (o1, v1)
noncomputable def f_laws_markCellS_0i : Spec := { objs := [OSh.ro, OSh.row false (75 : Nat) (Ty.pair (Ty.int IntKind.i64) (Ty.int IntKind.i64))], tmps := [((0 : Nat), TSh.at (Sh.sl (1 : Nat))), ((1 : Nat), TSh.at (Sh.int IntKind.i64)), ((5 : Nat), TSh.at (Sh.int IntKind.i64))] }
noncomputable def f_laws_markCellS_0o : Spec := { objs := [OSh.ro, OSh.row false (75 : Nat) (Ty.pair (Ty.int IntKind.i64) (Ty.int IntKind.i64))], tmps := [((1 : Nat), TSh.at (Sh.int IntKind.i64))] }
noncomputable def f_laws_markCellS_0D : LoopDef (Tup r_laws_markCellS × OutD) := .plain f_laws_markCellS_0i f_laws_markCellS_0o (List (Int × Int) × Int) (fun k x => f_laws_markCellS_0 k x.1.2.1 x.2.2.1 x.2.2.2.1) (fun z => (((), z.1, ()), (z.2, ()))) (fun y => (y.1.2.1, y.2.1)) (fun _ => rfl)
noncomputable def f_laws_markCellS : Nat → List (Int × Int) → Int → Option (Int × List (Int × Int))
  | 0, _, _ => none
  | k + 1, p0, p1 =>
    Option.bind (f_laws_markCellS_0 k p0 p1 (0 : Int)) fun z0 => some (Prod.snd z0, Prod.fst z0)
noncomputable def d_laws_markCellS : FnDef := .of q_laws_markCellS r_laws_markCellS (Int × List (Int × Int)) (fun k x => f_laws_markCellS k x.1 x.2.1) to_laws_markCellS of_laws_markCellS to_of_laws_markCellS
noncomputable def c_laws_markCellS : Code := Try.f39.body.getD .skip
noncomputable def x_laws_markCellS : Ctx (Tup r_laws_markCellS × OutD) := { T := T, G := [], mvs := [], no := 1, n := 27, res := resOf T q_laws_markCellS r_laws_markCellS Try.f39.results.toList, loops := [(0, f_laws_markCellS_0D.E)], regs := [], conds := [] }
theorem g_laws_markCellS (k : Nat) : EnvOK Try.prog k x_laws_markCellS.G := (EnvOK.nil mixed)
noncomputable def f_laws_markCellS_0B : Code := (findLoop 0 c_laws_markCellS).getD .skip
theorem f_laws_markCellS_0h (k : Nat) (x : f_laws_markCellS_0i.D) : f_laws_markCellS_0D.lp (k + 1) x = loopK x_laws_markCellS f_laws_markCellS_0D 0 f_laws_markCellS_0B k x := by kernel_rfl
theorem f_laws_markCellS_0l (k : Nat) : LOK Try.prog x_laws_markCellS k f_laws_markCellS_0B := LOK.by [] (by kernel_rfl) AllOK.nil
theorem f_laws_markCellS_0z (x : f_laws_markCellS_0i.D) : f_laws_markCellS_0D.lp 0 x = none := by kernel_rfl
theorem f_laws_markCellS_0ok (k : Nat) : EOK Try.prog x_laws_markCellS k f_laws_markCellS_0D.E (.block 0 (.loop f_laws_markCellS_0B)) := loop_ok T_ok g_laws_markCellS f_laws_markCellS_0z f_laws_markCellS_0h f_laws_markCellS_0l k
theorem h_laws_markCellS (k : Nat) (x : Tup d_laws_markCellS.ps) : d_laws_markCellS.f (k + 1) x = fnK d_laws_markCellS x_laws_markCellS c_laws_markCellS k x := by kernel_rfl
theorem z_laws_markCellS (x : Tup d_laws_markCellS.ps) : d_laws_markCellS.f 0 x = none := by kernel_rfl
theorem l_laws_markCellS (k : Nat) : LOK Try.prog x_laws_markCellS k c_laws_markCellS := LOK.by [(f_laws_markCellS_0D.E, .block 0 (.loop f_laws_markCellS_0B))] (by kernel_rfl) (AllOK.cons (f_laws_markCellS_0ok k) AllOK.nil)
theorem s_laws_markCellS (k : Nat) : SoundAt Try.prog k 39 d_laws_markCellS.E := @fn_all Try.prog d_laws_markCellS x_laws_markCellS 39 Try.f39 c_laws_markCellS (by kernel_rfl) (by kernel_rfl) (by kernel_rfl) Try.func39 (by kernel_rfl) (by kernel_rfl) (by kernel_rfl) T_ok g_laws_markCellS l_laws_markCellS z_laws_markCellS h_laws_markCellS k
/-! function 41 -/
noncomputable def r_laws_heldCellS : List PK := [{ t := Ty.int IntKind.i64 }]
noncomputable def q_laws_heldCellS : List PK := [{ t := Ty.slice (75 : Nat) (Ty.pair (Ty.int IntKind.i64) (Ty.int IntKind.i64)) }, { t := Ty.int IntKind.i64 }]
noncomputable def to_laws_heldCellS (r : Int) : Tup r_laws_heldCellS × OutD := ((r, ()), none)
noncomputable def of_laws_heldCellS : Tup r_laws_heldCellS × OutD → Option (Int)
  | (a, none) => some (a.1)
  | _ => none
theorem to_of_laws_heldCellS : ∀ b r, of_laws_heldCellS b = some r → to_laws_heldCellS r = b := by
  rintro ⟨a, o⟩ r h
  cases o with
  | none => injection h with h; subst h; rfl
  | some _ => cases h
noncomputable def f_laws_heldCellS_0 : Nat → List (Int × Int) → Int → Int → Option (LR Int Int)
  | 0, _, _, _ => none
  | k + 1, v0, v1, v5 =>
    if decide (v5 < (↑(List.length v0) : Int)) = true then if (0 : Int) ≤ v5 then if v5 < (↑(List.length v0) : Int) then if decide (Prod.fst (List.getD v0 (Int.toNat v5) ((0 : Int), (0 : Int))) ≠ v1) = true then some (LR.ret (-1 : Int)) else if (0 : Int) ≤ v5 then if v5 < (↑(List.length v0) : Int) then if decide (Prod.snd (List.getD v0 (Int.toNat v5) ((0 : Int), (0 : Int))) ≠ wrap64 (v1 + (1 : Int))) = true then some (LR.ret (-1 : Int)) else f_laws_heldCellS_0 k v0 (wrap64 (wrap64 (v1 + (1 : Int)) + (1 : Int))) (wrap64 (v5 + (1 : Int))) else none else none else none else none else some (LR.go v1)
noncomputable def f_laws_heldCellS_0i : Spec := { objs := [OSh.ro], tmps := [((0 : Nat), TSh.at (Sh.snap (0 : Nat) (Ty.pair (Ty.int IntKind.i64) (Ty.int IntKind.i64)))), ((1 : Nat), TSh.at (Sh.int IntKind.i64)), ((5 : Nat), TSh.at (Sh.int IntKind.i64))] }
noncomputable def f_laws_heldCellS_0o : Spec := { objs := [OSh.ro], tmps := [((1 : Nat), TSh.at (Sh.int IntKind.i64))] }
noncomputable def f_laws_heldCellS_0D : LoopDef (Tup r_laws_heldCellS × OutD) := .rets f_laws_heldCellS_0i f_laws_heldCellS_0o (Int) (Int) (fun k x => f_laws_heldCellS_0 k x.2.1 x.2.2.1 x.2.2.2.1) (fun z => (((), ()), (z, ()))) (fun y => (y.2.1)) (fun _ => rfl) to_laws_heldCellS of_laws_heldCellS to_of_laws_heldCellS
noncomputable def f_laws_heldCellS : Nat → List (Int × Int) → Int → Option Int
  | 0, _, _ => none
  | k + 1, p0, p1 =>
    Option.bind (f_laws_heldCellS_0 k p0 p1 (0 : Int)) fun z0 => LR.on z0 (fun y0 => some y0) fun r0 => some r0
noncomputable def d_laws_heldCellS : FnDef := .of q_laws_heldCellS r_laws_heldCellS (Int) (fun k x => f_laws_heldCellS k x.1 x.2.1) to_laws_heldCellS of_laws_heldCellS to_of_laws_heldCellS
noncomputable def c_laws_heldCellS : Code := Try.f41.body.getD .skip
noncomputable def x_laws_heldCellS : Ctx (Tup r_laws_heldCellS × OutD) := { T := T, G := [], mvs := [], no := 0, n := 31, res := resOf T q_laws_heldCellS r_laws_heldCellS Try.f41.results.toList, loops := [(0, f_laws_heldCellS_0D.E)], regs := [], conds := [] }
theorem g_laws_heldCellS (k : Nat) : EnvOK Try.prog k x_laws_heldCellS.G := (EnvOK.nil mixed)
noncomputable def f_laws_heldCellS_0B : Code := (findLoop 0 c_laws_heldCellS).getD .skip
theorem f_laws_heldCellS_0h (k : Nat) (x : f_laws_heldCellS_0i.D) : f_laws_heldCellS_0D.lp (k + 1) x = loopK x_laws_heldCellS f_laws_heldCellS_0D 0 f_laws_heldCellS_0B k x := by kernel_rfl
theorem f_laws_heldCellS_0l (k : Nat) : LOK Try.prog x_laws_heldCellS k f_laws_heldCellS_0B := LOK.by [] (by kernel_rfl) AllOK.nil
theorem f_laws_heldCellS_0z (x : f_laws_heldCellS_0i.D) : f_laws_heldCellS_0D.lp 0 x = none := by kernel_rfl
theorem f_laws_heldCellS_0ok (k : Nat) : EOK Try.prog x_laws_heldCellS k f_laws_heldCellS_0D.E (.block 0 (.loop f_laws_heldCellS_0B)) := loop_ok T_ok g_laws_heldCellS f_laws_heldCellS_0z f_laws_heldCellS_0h f_laws_heldCellS_0l k
theorem h_laws_heldCellS (k : Nat) (x : Tup d_laws_heldCellS.ps) : d_laws_heldCellS.f (k + 1) x = fnK d_laws_heldCellS x_laws_heldCellS c_laws_heldCellS k x := by kernel_rfl
theorem z_laws_heldCellS (x : Tup d_laws_heldCellS.ps) : d_laws_heldCellS.f 0 x = none := by kernel_rfl
theorem l_laws_heldCellS (k : Nat) : LOK Try.prog x_laws_heldCellS k c_laws_heldCellS := LOK.by [(f_laws_heldCellS_0D.E, .block 0 (.loop f_laws_heldCellS_0B))] (by kernel_rfl) (AllOK.cons (f_laws_heldCellS_0ok k) AllOK.nil)
theorem s_laws_heldCellS (k : Nat) : SoundAt Try.prog k 41 d_laws_heldCellS.E := @fn_all Try.prog d_laws_heldCellS x_laws_heldCellS 41 Try.f41 c_laws_heldCellS (by kernel_rfl) (by kernel_rfl) (by kernel_rfl) Try.func41 (by kernel_rfl) (by kernel_rfl) (by kernel_rfl) T_ok g_laws_heldCellS l_laws_heldCellS z_laws_heldCellS h_laws_heldCellS k
/-! function 48 -/
noncomputable def r_impl_numberOf : List PK := [{ t := Ty.int IntKind.i64 }]
noncomputable def q_impl_numberOf : List PK := [{ t := Ty.slice (3 : Nat) (Ty.int IntKind.i64) }]
noncomputable def to_impl_numberOf (r : Int) : Tup r_impl_numberOf × OutD := ((r, ()), none)
noncomputable def of_impl_numberOf : Tup r_impl_numberOf × OutD → Option (Int)
  | (a, none) => some (a.1)
  | _ => none
theorem to_of_impl_numberOf : ∀ b r, of_impl_numberOf b = some r → to_impl_numberOf r = b := by
  rintro ⟨a, o⟩ r h
  cases o with
  | none => injection h with h; subst h; rfl
  | some _ => cases h
noncomputable def f_impl_numberOf_0 : Nat → Int → List Int → Int → Int → Option Int
  | 0, _, _, _, _ => none
  | k + 1, v3, v6, v7, v8 =>
    if decide (v8 < v7) = true then if (0 : Int) ≤ v8 then if v8 < (↑(List.length v6) : Int) then if v8 < (0 : Int) then none else f_impl_numberOf_0 k (bits BinOp.or IntKind.i64 v3 (shlS (List.getD v6 (Int.toNat v8) (0 : Int)) v8)) v6 v7 (wrap64 (v8 + (1 : Int))) else none else none else some v3
noncomputable def f_impl_numberOf_0i : Spec := { objs := [OSh.ro], tmps := [((3 : Nat), TSh.at (Sh.int IntKind.i64)), ((6 : Nat), TSh.at (Sh.snap (0 : Nat) (Ty.int IntKind.i64))), ((7 : Nat), TSh.at (Sh.int IntKind.i64)), ((8 : Nat), TSh.at (Sh.int IntKind.i64))] }
noncomputable def f_impl_numberOf_0o : Spec := { objs := [OSh.ro], tmps := [((3 : Nat), TSh.at (Sh.int IntKind.i64))] }
noncomputable def f_impl_numberOf_0D : LoopDef (Tup r_impl_numberOf × OutD) := .plain f_impl_numberOf_0i f_impl_numberOf_0o (Int) (fun k x => f_impl_numberOf_0 k x.2.1 x.2.2.1 x.2.2.2.1 x.2.2.2.2.1) (fun z => (((), ()), (z, ()))) (fun y => (y.2.1)) (fun _ => rfl)
noncomputable def f_impl_numberOf : Nat → List Int → Option Int
  | 0, _ => none
  | k + 1, p0 =>
    Option.bind (f_impl_numberOf_0 k (0 : Int) p0 (↑(List.length p0) : Int) (0 : Int)) fun z0 => some z0
noncomputable def d_impl_numberOf : FnDef := .of q_impl_numberOf r_impl_numberOf (Int) (fun k x => f_impl_numberOf k x.1) to_impl_numberOf of_impl_numberOf to_of_impl_numberOf
noncomputable def c_impl_numberOf : Code := Try.f48.body.getD .skip
noncomputable def x_impl_numberOf : Ctx (Tup r_impl_numberOf × OutD) := { T := T, G := [], mvs := [], no := 0, n := 20, res := resOf T q_impl_numberOf r_impl_numberOf Try.f48.results.toList, loops := [(0, f_impl_numberOf_0D.E)], regs := [], conds := [] }
theorem g_impl_numberOf (k : Nat) : EnvOK Try.prog k x_impl_numberOf.G := (EnvOK.nil mixed)
noncomputable def f_impl_numberOf_0B : Code := (findLoop 0 c_impl_numberOf).getD .skip
theorem f_impl_numberOf_0h (k : Nat) (x : f_impl_numberOf_0i.D) : f_impl_numberOf_0D.lp (k + 1) x = loopK x_impl_numberOf f_impl_numberOf_0D 0 f_impl_numberOf_0B k x := by kernel_rfl
theorem f_impl_numberOf_0l (k : Nat) : LOK Try.prog x_impl_numberOf k f_impl_numberOf_0B := LOK.by [] (by kernel_rfl) AllOK.nil
theorem f_impl_numberOf_0z (x : f_impl_numberOf_0i.D) : f_impl_numberOf_0D.lp 0 x = none := by kernel_rfl
theorem f_impl_numberOf_0ok (k : Nat) : EOK Try.prog x_impl_numberOf k f_impl_numberOf_0D.E (.block 0 (.loop f_impl_numberOf_0B)) := loop_ok T_ok g_impl_numberOf f_impl_numberOf_0z f_impl_numberOf_0h f_impl_numberOf_0l k
theorem h_impl_numberOf (k : Nat) (x : Tup d_impl_numberOf.ps) : d_impl_numberOf.f (k + 1) x = fnK d_impl_numberOf x_impl_numberOf c_impl_numberOf k x := by kernel_rfl
theorem z_impl_numberOf (x : Tup d_impl_numberOf.ps) : d_impl_numberOf.f 0 x = none := by kernel_rfl
theorem l_impl_numberOf (k : Nat) : LOK Try.prog x_impl_numberOf k c_impl_numberOf := LOK.by [(f_impl_numberOf_0D.E, .block 0 (.loop f_impl_numberOf_0B))] (by kernel_rfl) (AllOK.cons (f_impl_numberOf_0ok k) AllOK.nil)
theorem s_impl_numberOf (k : Nat) : SoundAt Try.prog k 48 d_impl_numberOf.E := @fn_all Try.prog d_impl_numberOf x_impl_numberOf 48 Try.f48 c_impl_numberOf (by kernel_rfl) (by kernel_rfl) (by kernel_rfl) Try.func48 (by kernel_rfl) (by kernel_rfl) (by kernel_rfl) T_ok g_impl_numberOf l_impl_numberOf z_impl_numberOf h_impl_numberOf k
/-! function 50 -/
noncomputable def r_spec_rvBefore : List PK := [{ t := Ty.slice (3 : Nat) (Ty.int IntKind.i64) }]
noncomputable def q_spec_rvBefore : List PK := [{ t := Ty.slice (3 : Nat) (Ty.int IntKind.i64) }, { t := Ty.int IntKind.i64 }]
noncomputable def to_spec_rvBefore (r : List Int) : Tup r_spec_rvBefore × OutD := ((r, ()), none)
noncomputable def of_spec_rvBefore : Tup r_spec_rvBefore × OutD → Option (List Int)
  | (a, none) => some (a.1)
  | _ => none
theorem to_of_spec_rvBefore : ∀ b r, of_spec_rvBefore b = some r → to_spec_rvBefore r = b := by
  rintro ⟨a, o⟩ r h
  cases o with
  | none => injection h with h; subst h; rfl
  | some _ => cases h
noncomputable def f_spec_rvBefore_0 : Nat → List Int → Int → List Int → Int → Int → Option (List Int)
  | 0, _, _, _, _, _ => none
  | k + 1, o1, v1, v8, v9, v10 =>
    if decide (v10 < v9) = true then if (0 : Int) ≤ v10 then if v10 < (↑(List.length v8) : Int) then if decide (List.getD v8 (Int.toNat v10) (0 : Int) = v1) = true then if List.length o1 + List.length [v10] ≤ (140737488355328 / 8 : Nat) then f_spec_rvBefore_0 k (o1 ++ [v10]) v1 v8 v9 (wrap64 (v10 + (1 : Int))) else none else f_spec_rvBefore_0 k o1 v1 v8 v9 (wrap64 (v10 + (1 : Int))) else none else none else some o1
noncomputable def f_spec_rvBefore_0i : Spec := { objs := [OSh.ro, OSh.row true (3 : Nat) (Ty.int IntKind.i64)], tmps := [((1 : Nat), TSh.at (Sh.int IntKind.i64)), ((5 : Nat), TSh.at (Sh.sl (1 : Nat))), ((8 : Nat), TSh.at (Sh.snap (0 : Nat) (Ty.int IntKind.i64))), ((9 : Nat), TSh.at (Sh.int IntKind.i64)), ((10 : Nat), TSh.at (Sh.int IntKind.i64))] }
noncomputable def f_spec_rvBefore_0o : Spec := { objs := [OSh.ro, OSh.row true (3 : Nat) (Ty.int IntKind.i64)], tmps := [((5 : Nat), TSh.at (Sh.sl (1 : Nat)))] }
noncomputable def f_spec_rvBefore_0D : LoopDef (Tup r_spec_rvBefore × OutD) := .plain f_spec_rvBefore_0i f_spec_rvBefore_0o (List Int) (fun k x => f_spec_rvBefore_0 k x.1.2.1 x.2.1 x.2.2.2.1 x.2.2.2.2.1 x.2.2.2.2.2.1) (fun z => (((), z, ()), ((), ()))) (fun y => (y.1.2.1)) (fun _ => rfl)
noncomputable def f_spec_rvBefore : Nat → List Int → Int → Option (List Int)
  | 0, _, _ => none
  | k + 1, p0, p1 =>
    Option.bind (f_spec_rvBefore_0 k [] p1 p0 (↑(List.length p0) : Int) (0 : Int)) fun z0 => some z0
noncomputable def d_spec_rvBefore : FnDef := .of q_spec_rvBefore r_spec_rvBefore (List Int) (fun k x => f_spec_rvBefore k x.1 x.2.1) to_spec_rvBefore of_spec_rvBefore to_of_spec_rvBefore
noncomputable def c_spec_rvBefore : Code := Try.f50.body.getD .skip
noncomputable def x_spec_rvBefore : Ctx (Tup r_spec_rvBefore × OutD) := { T := T, G := [], mvs := [], no := 0, n := 24, res := resOf T q_spec_rvBefore r_spec_rvBefore Try.f50.results.toList, loops := [(0, f_spec_rvBefore_0D.E)], regs := [], conds := [] }
theorem g_spec_rvBefore (k : Nat) : EnvOK Try.prog k x_spec_rvBefore.G := (EnvOK.nil mixed)
noncomputable def f_spec_rvBefore_0B : Code := (findLoop 0 c_spec_rvBefore).getD .skip
theorem f_spec_rvBefore_0h (k : Nat) (x : f_spec_rvBefore_0i.D) : f_spec_rvBefore_0D.lp (k + 1) x = loopK x_spec_rvBefore f_spec_rvBefore_0D 0 f_spec_rvBefore_0B k x := by kernel_rfl
theorem f_spec_rvBefore_0l (k : Nat) : LOK Try.prog x_spec_rvBefore k f_spec_rvBefore_0B := LOK.by [] (by kernel_rfl) AllOK.nil
theorem f_spec_rvBefore_0z (x : f_spec_rvBefore_0i.D) : f_spec_rvBefore_0D.lp 0 x = none := by kernel_rfl
theorem f_spec_rvBefore_0ok (k : Nat) : EOK Try.prog x_spec_rvBefore k f_spec_rvBefore_0D.E (.block 0 (.loop f_spec_rvBefore_0B)) := loop_ok T_ok g_spec_rvBefore f_spec_rvBefore_0z f_spec_rvBefore_0h f_spec_rvBefore_0l k
theorem h_spec_rvBefore (k : Nat) (x : Tup d_spec_rvBefore.ps) : d_spec_rvBefore.f (k + 1) x = fnK d_spec_rvBefore x_spec_rvBefore c_spec_rvBefore k x := by kernel_rfl
theorem z_spec_rvBefore (x : Tup d_spec_rvBefore.ps) : d_spec_rvBefore.f 0 x = none := by kernel_rfl
theorem l_spec_rvBefore (k : Nat) : LOK Try.prog x_spec_rvBefore k c_spec_rvBefore := LOK.by [(f_spec_rvBefore_0D.E, .block 0 (.loop f_spec_rvBefore_0B))] (by kernel_rfl) (AllOK.cons (f_spec_rvBefore_0ok k) AllOK.nil)
theorem s_spec_rvBefore (k : Nat) : SoundAt Try.prog k 50 d_spec_rvBefore.E := @fn_all Try.prog d_spec_rvBefore x_spec_rvBefore 50 Try.f50 c_spec_rvBefore (by kernel_rfl) (by kernel_rfl) (by kernel_rfl) Try.func50 (by kernel_rfl) (by kernel_rfl) (by kernel_rfl) T_ok g_spec_rvBefore l_spec_rvBefore z_spec_rvBefore h_spec_rvBefore k
/-! function 54 -/
noncomputable def r_spec_boOwn : List PK := [{ t := Ty.pair (Ty.int IntKind.i64) (Ty.pair (Ty.int IntKind.i64) (Ty.slice (75 : Nat) (Ty.pair (Ty.int IntKind.i64) (Ty.int IntKind.i64)))), agg := true }]
noncomputable def q_spec_boOwn : List PK := [{ t := Ty.pair (Ty.int IntKind.i64) (Ty.pair (Ty.int IntKind.i64) (Ty.slice (75 : Nat) (Ty.pair (Ty.int IntKind.i64) (Ty.int IntKind.i64)))), agg := true }]
noncomputable def to_spec_boOwn (r : Int × Int × List (Int × Int)) : Tup r_spec_boOwn × OutD := ((r, ()), none)
noncomputable def of_spec_boOwn : Tup r_spec_boOwn × OutD → Option (Int × Int × List (Int × Int))
  | (a, none) => some (a.1)
  | _ => none
theorem to_of_spec_boOwn : ∀ b r, of_spec_boOwn b = some r → to_spec_boOwn r = b := by
  rintro ⟨a, o⟩ r h
  cases o with
  | none => injection h with h; subst h; rfl
  | some _ => cases h
noncomputable def f_spec_boOwn_g1 : Nat → Int → Int → List (Int × Int) → Int → Int → List (Int × Int) → Option (Int × Int × List (Int × Int)) := fun k b1_0 b1_1 b1_2 b2_0 b2_1 o3 =>
    if (0 : Nat) + List.length b1_2 ≤ (140737488355328 / 16 : Nat) then some (b1_0, b1_1, b1_2) else none
noncomputable def f_spec_boOwn_g1A : Nat → Int → Int → List (Int × Int) → Int → Int → List (Int × Int) → Option (List (Int × Int × List (Int × Int))) := fun k b1_0 b1_1 b1_2 b2_0 b2_1 o3 =>
    joinL (joinL (if (0 : Nat) + List.length b1_2 ≤ (140737488355328 / 16 : Nat) then some [(b1_0, b1_1, b1_2)] else none) (joinL (if (0 : Nat) + List.length b1_2 ≤ (140737488355328 / 16 : Nat) then some [(b1_0, b1_1, b1_2)] else none) (if (0 : Nat) + List.length b1_2 ≤ (140737488355328 / 16 : Nat) then some [(b1_0, b1_1, b1_2)] else none))) (joinL (joinL (if (0 : Nat) + List.length b1_2 ≤ (140737488355328 / 16 : Nat) then some [(b1_0, b1_1, b1_2)] else none) (joinL (if (0 : Nat) + List.length b1_2 ≤ (140737488355328 / 16 : Nat) then some [(b1_0, b1_1, b1_2)] else none) (if (0 : Nat) + List.length b1_2 ≤ (140737488355328 / 16 : Nat) then some [(b1_0, b1_1, b1_2)] else none))) (joinL (joinL (if (0 : Nat) + List.length b1_2 ≤ (140737488355328 / 16 : Nat) then some [(b1_0, b1_1, b1_2)] else none) (if (0 : Nat) + List.length b1_2 ≤ (140737488355328 / 16 : Nat) then some [(b1_0, b1_1, b1_2)] else none)) (joinL (joinL (if (0 : Nat) + List.length b1_2 ≤ (140737488355328 / 16 : Nat) then some [(b1_0, b1_1, b1_2)] else none) (if (0 : Nat) + List.length b1_2 ≤ (140737488355328 / 16 : Nat) then some [(b1_0, b1_1, b1_2)] else none)) (if (0 : Nat) + List.length b1_2 ≤ (140737488355328 / 16 : Nat) then joinL (some [(b1_0, b1_1, b1_2)]) (some [(b1_0, b1_1, b1_2)]) else none))))
noncomputable def f_spec_boOwn_g1i : Spec := { objs := [OSh.ro, OSh.box (31 : Nat) [Sh.int IntKind.i64, Sh.int IntKind.i64, Sh.snap (0 : Nat) (Ty.pair (Ty.int IntKind.i64) (Ty.int IntKind.i64))], OSh.box (31 : Nat) [Sh.int IntKind.i64, Sh.int IntKind.i64, Sh.sl (3 : Nat)], OSh.row true (75 : Nat) (Ty.pair (Ty.int IntKind.i64) (Ty.int IntKind.i64))], tmps := [((1 : Nat), TSh.at (Sh.ptr (1 : Nat) (0 : Nat))), ((2 : Nat), TSh.at (Sh.ptr (2 : Nat) (0 : Nat)))] }
noncomputable def f_spec_boOwn_g1o : Spec := { objs := [OSh.ro, OSh.box (31 : Nat) [Sh.int IntKind.i64, Sh.int IntKind.i64, Sh.sl (2 : Nat)], OSh.row true (75 : Nat) (Ty.pair (Ty.int IntKind.i64) (Ty.int IntKind.i64))], tmps := [((2 : Nat), TSh.at (Sh.ptr (1 : Nat) (0 : Nat)))] }
noncomputable def f_spec_boOwn_g1D : LoopDef (Tup r_spec_boOwn × OutD) := .plain f_spec_boOwn_g1i f_spec_boOwn_g1o (Int × Int × List (Int × Int)) (fun k x => f_spec_boOwn_g1 k x.1.2.1.1 x.1.2.1.2.1 x.1.2.1.2.2.1 x.1.2.2.1.1 x.1.2.2.1.2.1 x.1.2.2.2.1) (fun z => (((), (z.1, z.2.1, (), ()), z.2.2, ()), ((), ()))) (fun y => (y.1.2.1.1, y.1.2.1.2.1, y.1.2.2.1)) (fun _ => rfl)
theorem f_spec_boOwn_g1j (k : Nat) (b1_0 : Int) (b1_1 : Int) (b1_2 : List (Int × Int)) (b2_0 : Int) (b2_1 : Int) (o3 : List (Int × Int)) : f_spec_boOwn_g1A k b1_0 b1_1 b1_2 b2_0 b2_1 o3 = repl 12 (f_spec_boOwn_g1 k b1_0 b1_1 b1_2 b2_0 b2_1 o3) := by
  first
  | (simp only [f_spec_boOwn_g1A, f_spec_boOwn_g1, repl_some, repl_ite, repl_ite0, repl_ite1, repl_bind, joinL_repl, if_true]; done)
  | (simp only [f_spec_boOwn_g1A, f_spec_boOwn_g1, repl_some, repl_ite, repl_ite0, repl_ite1, repl_bind, joinL_repl, if_true]; simp only [joinL_grdl, joinL_grdr, repl_grd, joinL_repl]; simp only [grd_and]; exact grd_congr ⟨fun h => by simp only [h, and_self], fun h => by simp only [h, and_self]⟩)
noncomputable def f_spec_boOwn : Nat → Int × Int × List (Int × Int) → Option (Int × Int × List (Int × Int))
  | 0, _ => none
  | k + 1, p0 =>
    Option.bind (f_spec_boOwn_g1 k (Prod.fst p0) (Prod.fst (Prod.snd p0)) (Prod.snd (Prod.snd p0)) (0 : Int) (0 : Int) []) fun z0 => some (Prod.fst z0, Prod.fst (Prod.snd z0), Prod.snd (Prod.snd z0))
noncomputable def d_spec_boOwn : FnDef := .of q_spec_boOwn r_spec_boOwn (Int × Int × List (Int × Int)) (fun k x => f_spec_boOwn k x.1) to_spec_boOwn of_spec_boOwn to_of_spec_boOwn
noncomputable def c_spec_boOwn : Code := Try.f54.body.getD .skip
noncomputable def x_spec_boOwn : Ctx (Tup r_spec_boOwn × OutD) := { T := T, G := [], mvs := [], no := 0, n := 12, res := resOf T q_spec_boOwn r_spec_boOwn Try.f54.results.toList, loops := [], regs := [(1, f_spec_boOwn_g1D.E)], conds := [] }
theorem g_spec_boOwn (k : Nat) : EnvOK Try.prog k x_spec_boOwn.G := (EnvOK.nil mixed)
noncomputable def f_spec_boOwn_g1O : Array Oper := (findReg 1 c_spec_boOwn).getD #[]
theorem f_spec_boOwn_g1e (k : Nat) (x : f_spec_boOwn_g1i.D) : execD x_spec_boOwn.T x_spec_boOwn.G x_spec_boOwn.mvs k f_spec_boOwn_g1O (f_spec_boOwn_g1D.inp.st x_spec_boOwn.n x) (outK x_spec_boOwn f_spec_boOwn_g1D) = f_spec_boOwn_g1A k x.1.2.1.1 x.1.2.1.2.1 x.1.2.1.2.2.1 x.1.2.2.1.1 x.1.2.2.1.2.1 x.1.2.2.2.1 := by kernel_rfl
theorem f_spec_boOwn_g1ok (k : Nat) : EOK Try.prog x_spec_boOwn k f_spec_boOwn_g1D.E (.region 1 f_spec_boOwn_g1O true) := reg_ok (D := f_spec_boOwn_g1D) (m := 12) T_ok (g_spec_boOwn k) (fun x => (f_spec_boOwn_g1e k x).trans (f_spec_boOwn_g1j k x.1.2.1.1 x.1.2.1.2.1 x.1.2.1.2.2.1 x.1.2.2.1.1 x.1.2.2.1.2.1 x.1.2.2.2.1))
theorem h_spec_boOwn (k : Nat) (x : Tup d_spec_boOwn.ps) : d_spec_boOwn.f (k + 1) x = fnK d_spec_boOwn x_spec_boOwn c_spec_boOwn k x := by kernel_rfl
theorem z_spec_boOwn (x : Tup d_spec_boOwn.ps) : d_spec_boOwn.f 0 x = none := by kernel_rfl
theorem l_spec_boOwn (k : Nat) : LOK Try.prog x_spec_boOwn k c_spec_boOwn := LOK.by [(f_spec_boOwn_g1D.E, .region 1 f_spec_boOwn_g1O true)] (by kernel_rfl) (AllOK.cons (f_spec_boOwn_g1ok k) AllOK.nil)
theorem s_spec_boOwn (k : Nat) : SoundAt Try.prog k 54 d_spec_boOwn.E := @fn_all Try.prog d_spec_boOwn x_spec_boOwn 54 Try.f54 c_spec_boOwn (by kernel_rfl) (by kernel_rfl) (by kernel_rfl) Try.func54 (by kernel_rfl) (by kernel_rfl) (by kernel_rfl) T_ok g_spec_boOwn l_spec_boOwn z_spec_boOwn h_spec_boOwn k
/-! function 59 -/
noncomputable def r_laws_toCell : List PK := [{ t := Ty.pair (Ty.int IntKind.i64) (Ty.int IntKind.i64), agg := true }]
noncomputable def q_laws_toCell : List PK := [{ t := Ty.pair (Ty.int IntKind.i64) (Ty.int IntKind.i64), agg := true }]
noncomputable def to_laws_toCell (r : Int × Int) : Tup r_laws_toCell × OutD := ((r, ()), none)
noncomputable def of_laws_toCell : Tup r_laws_toCell × OutD → Option (Int × Int)
  | (a, none) => some (a.1)
  | _ => none
theorem to_of_laws_toCell : ∀ b r, of_laws_toCell b = some r → to_laws_toCell r = b := by
  rintro ⟨a, o⟩ r h
  cases o with
  | none => injection h with h; subst h; rfl
  | some _ => cases h
noncomputable def f_laws_toCell : Nat → Int × Int → Option (Int × Int)
  | 0, _ => none
  | k + 1, p0 =>
    some (Prod.fst p0, Prod.snd p0)
noncomputable def d_laws_toCell : FnDef := .of q_laws_toCell r_laws_toCell (Int × Int) (fun k x => f_laws_toCell k x.1) to_laws_toCell of_laws_toCell to_of_laws_toCell
noncomputable def c_laws_toCell : Code := Try.f59.body.getD .skip
noncomputable def x_laws_toCell : Ctx (Tup r_laws_toCell × OutD) := { T := T, G := [], mvs := [], no := 0, n := 11, res := resOf T q_laws_toCell r_laws_toCell Try.f59.results.toList, loops := [], regs := [], conds := [] }
theorem g_laws_toCell (k : Nat) : EnvOK Try.prog k x_laws_toCell.G := (EnvOK.nil mixed)
theorem h_laws_toCell (k : Nat) (x : Tup d_laws_toCell.ps) : d_laws_toCell.f (k + 1) x = fnK d_laws_toCell x_laws_toCell c_laws_toCell k x := by kernel_rfl
theorem z_laws_toCell (x : Tup d_laws_toCell.ps) : d_laws_toCell.f 0 x = none := by kernel_rfl
theorem l_laws_toCell (k : Nat) : LOK Try.prog x_laws_toCell k c_laws_toCell := LOK.by [] (by kernel_rfl) AllOK.nil
theorem s_laws_toCell (k : Nat) : SoundAt Try.prog k 59 d_laws_toCell.E := @fn_all Try.prog d_laws_toCell x_laws_toCell 59 Try.f59 c_laws_toCell (by kernel_rfl) (by kernel_rfl) (by kernel_rfl) Try.func59 (by kernel_rfl) (by kernel_rfl) (by kernel_rfl) T_ok g_laws_toCell l_laws_toCell z_laws_toCell h_laws_toCell k
/-! function 62 -/
noncomputable def r_impl_copyBoard : List PK := [{ t := Ty.pair (Ty.int IntKind.i64) (Ty.pair (Ty.int IntKind.i64) (Ty.slice (75 : Nat) (Ty.pair (Ty.int IntKind.i64) (Ty.int IntKind.i64)))), agg := true }]
noncomputable def q_impl_copyBoard : List PK := [{ t := Ty.pair (Ty.int IntKind.i64) (Ty.pair (Ty.int IntKind.i64) (Ty.slice (75 : Nat) (Ty.pair (Ty.int IntKind.i64) (Ty.int IntKind.i64)))), agg := true }]
noncomputable def to_impl_copyBoard (r : Int × Int × List (Int × Int)) : Tup r_impl_copyBoard × OutD := ((r, ()), none)
noncomputable def of_impl_copyBoard : Tup r_impl_copyBoard × OutD → Option (Int × Int × List (Int × Int))
  | (a, none) => some (a.1)
  | _ => none
theorem to_of_impl_copyBoard : ∀ b r, of_impl_copyBoard b = some r → to_impl_copyBoard r = b := by
  rintro ⟨a, o⟩ r h
  cases o with
  | none => injection h with h; subst h; rfl
  | some _ => cases h
noncomputable def f_impl_copyBoard_g1 : Nat → Int → Int → List (Int × Int) → Int → Int → List (Int × Int) → Option (Int × Int × List (Int × Int)) := fun k b1_0 b1_1 b1_2 b2_0 b2_1 o3 =>
    if (0 : Nat) + List.length b1_2 ≤ (140737488355328 / 16 : Nat) then some (b1_0, b1_1, b1_2) else none
noncomputable def f_impl_copyBoard_g1A : Nat → Int → Int → List (Int × Int) → Int → Int → List (Int × Int) → Option (List (Int × Int × List (Int × Int))) := fun k b1_0 b1_1 b1_2 b2_0 b2_1 o3 =>
    joinL (joinL (if (0 : Nat) + List.length b1_2 ≤ (140737488355328 / 16 : Nat) then some [(b1_0, b1_1, b1_2)] else none) (joinL (if (0 : Nat) + List.length b1_2 ≤ (140737488355328 / 16 : Nat) then some [(b1_0, b1_1, b1_2)] else none) (if (0 : Nat) + List.length b1_2 ≤ (140737488355328 / 16 : Nat) then some [(b1_0, b1_1, b1_2)] else none))) (joinL (joinL (if (0 : Nat) + List.length b1_2 ≤ (140737488355328 / 16 : Nat) then some [(b1_0, b1_1, b1_2)] else none) (joinL (if (0 : Nat) + List.length b1_2 ≤ (140737488355328 / 16 : Nat) then some [(b1_0, b1_1, b1_2)] else none) (if (0 : Nat) + List.length b1_2 ≤ (140737488355328 / 16 : Nat) then some [(b1_0, b1_1, b1_2)] else none))) (joinL (joinL (if (0 : Nat) + List.length b1_2 ≤ (140737488355328 / 16 : Nat) then some [(b1_0, b1_1, b1_2)] else none) (if (0 : Nat) + List.length b1_2 ≤ (140737488355328 / 16 : Nat) then some [(b1_0, b1_1, b1_2)] else none)) (joinL (joinL (if (0 : Nat) + List.length b1_2 ≤ (140737488355328 / 16 : Nat) then some [(b1_0, b1_1, b1_2)] else none) (if (0 : Nat) + List.length b1_2 ≤ (140737488355328 / 16 : Nat) then some [(b1_0, b1_1, b1_2)] else none)) (if (0 : Nat) + List.length b1_2 ≤ (140737488355328 / 16 : Nat) then joinL (some [(b1_0, b1_1, b1_2)]) (some [(b1_0, b1_1, b1_2)]) else none))))
noncomputable def f_impl_copyBoard_g1i : Spec := { objs := [OSh.ro, OSh.box (31 : Nat) [Sh.int IntKind.i64, Sh.int IntKind.i64, Sh.snap (0 : Nat) (Ty.pair (Ty.int IntKind.i64) (Ty.int IntKind.i64))], OSh.box (31 : Nat) [Sh.int IntKind.i64, Sh.int IntKind.i64, Sh.sl (3 : Nat)], OSh.row true (75 : Nat) (Ty.pair (Ty.int IntKind.i64) (Ty.int IntKind.i64))], tmps := [((1 : Nat), TSh.at (Sh.ptr (1 : Nat) (0 : Nat))), ((2 : Nat), TSh.at (Sh.ptr (2 : Nat) (0 : Nat)))] }
noncomputable def f_impl_copyBoard_g1o : Spec := { objs := [OSh.ro, OSh.box (31 : Nat) [Sh.int IntKind.i64, Sh.int IntKind.i64, Sh.sl (2 : Nat)], OSh.row true (75 : Nat) (Ty.pair (Ty.int IntKind.i64) (Ty.int IntKind.i64))], tmps := [((2 : Nat), TSh.at (Sh.ptr (1 : Nat) (0 : Nat)))] }
noncomputable def f_impl_copyBoard_g1D : LoopDef (Tup r_impl_copyBoard × OutD) := .plain f_impl_copyBoard_g1i f_impl_copyBoard_g1o (Int × Int × List (Int × Int)) (fun k x => f_impl_copyBoard_g1 k x.1.2.1.1 x.1.2.1.2.1 x.1.2.1.2.2.1 x.1.2.2.1.1 x.1.2.2.1.2.1 x.1.2.2.2.1) (fun z => (((), (z.1, z.2.1, (), ()), z.2.2, ()), ((), ()))) (fun y => (y.1.2.1.1, y.1.2.1.2.1, y.1.2.2.1)) (fun _ => rfl)
theorem f_impl_copyBoard_g1j (k : Nat) (b1_0 : Int) (b1_1 : Int) (b1_2 : List (Int × Int)) (b2_0 : Int) (b2_1 : Int) (o3 : List (Int × Int)) : f_impl_copyBoard_g1A k b1_0 b1_1 b1_2 b2_0 b2_1 o3 = repl 12 (f_impl_copyBoard_g1 k b1_0 b1_1 b1_2 b2_0 b2_1 o3) := by
  first
  | (simp only [f_impl_copyBoard_g1A, f_impl_copyBoard_g1, repl_some, repl_ite, repl_ite0, repl_ite1, repl_bind, joinL_repl, if_true]; done)
  | (simp only [f_impl_copyBoard_g1A, f_impl_copyBoard_g1, repl_some, repl_ite, repl_ite0, repl_ite1, repl_bind, joinL_repl, if_true]; simp only [joinL_grdl, joinL_grdr, repl_grd, joinL_repl]; simp only [grd_and]; exact grd_congr ⟨fun h => by simp only [h, and_self], fun h => by simp only [h, and_self]⟩)
noncomputable def f_impl_copyBoard : Nat → Int × Int × List (Int × Int) → Option (Int × Int × List (Int × Int))
  | 0, _ => none
  | k + 1, p0 =>
    Option.bind (f_impl_copyBoard_g1 k (Prod.fst p0) (Prod.fst (Prod.snd p0)) (Prod.snd (Prod.snd p0)) (0 : Int) (0 : Int) []) fun z0 => some (Prod.fst z0, Prod.fst (Prod.snd z0), Prod.snd (Prod.snd z0))
noncomputable def d_impl_copyBoard : FnDef := .of q_impl_copyBoard r_impl_copyBoard (Int × Int × List (Int × Int)) (fun k x => f_impl_copyBoard k x.1) to_impl_copyBoard of_impl_copyBoard to_of_impl_copyBoard
noncomputable def c_impl_copyBoard : Code := Try.f62.body.getD .skip
noncomputable def x_impl_copyBoard : Ctx (Tup r_impl_copyBoard × OutD) := { T := T, G := [], mvs := [], no := 0, n := 12, res := resOf T q_impl_copyBoard r_impl_copyBoard Try.f62.results.toList, loops := [], regs := [(1, f_impl_copyBoard_g1D.E)], conds := [] }
theorem g_impl_copyBoard (k : Nat) : EnvOK Try.prog k x_impl_copyBoard.G := (EnvOK.nil mixed)
noncomputable def f_impl_copyBoard_g1O : Array Oper := (findReg 1 c_impl_copyBoard).getD #[]
theorem f_impl_copyBoard_g1e (k : Nat) (x : f_impl_copyBoard_g1i.D) : execD x_impl_copyBoard.T x_impl_copyBoard.G x_impl_copyBoard.mvs k f_impl_copyBoard_g1O (f_impl_copyBoard_g1D.inp.st x_impl_copyBoard.n x) (outK x_impl_copyBoard f_impl_copyBoard_g1D) = f_impl_copyBoard_g1A k x.1.2.1.1 x.1.2.1.2.1 x.1.2.1.2.2.1 x.1.2.2.1.1 x.1.2.2.1.2.1 x.1.2.2.2.1 := by kernel_rfl
theorem f_impl_copyBoard_g1ok (k : Nat) : EOK Try.prog x_impl_copyBoard k f_impl_copyBoard_g1D.E (.region 1 f_impl_copyBoard_g1O true) := reg_ok (D := f_impl_copyBoard_g1D) (m := 12) T_ok (g_impl_copyBoard k) (fun x => (f_impl_copyBoard_g1e k x).trans (f_impl_copyBoard_g1j k x.1.2.1.1 x.1.2.1.2.1 x.1.2.1.2.2.1 x.1.2.2.1.1 x.1.2.2.1.2.1 x.1.2.2.2.1))
theorem h_impl_copyBoard (k : Nat) (x : Tup d_impl_copyBoard.ps) : d_impl_copyBoard.f (k + 1) x = fnK d_impl_copyBoard x_impl_copyBoard c_impl_copyBoard k x := by kernel_rfl
theorem z_impl_copyBoard (x : Tup d_impl_copyBoard.ps) : d_impl_copyBoard.f 0 x = none := by kernel_rfl
theorem l_impl_copyBoard (k : Nat) : LOK Try.prog x_impl_copyBoard k c_impl_copyBoard := LOK.by [(f_impl_copyBoard_g1D.E, .region 1 f_impl_copyBoard_g1O true)] (by kernel_rfl) (AllOK.cons (f_impl_copyBoard_g1ok k) AllOK.nil)
theorem s_impl_copyBoard (k : Nat) : SoundAt Try.prog k 62 d_impl_copyBoard.E := @fn_all Try.prog d_impl_copyBoard x_impl_copyBoard 62 Try.f62 c_impl_copyBoard (by kernel_rfl) (by kernel_rfl) (by kernel_rfl) Try.func62 (by kernel_rfl) (by kernel_rfl) (by kernel_rfl) T_ok g_impl_copyBoard l_impl_copyBoard z_impl_copyBoard h_impl_copyBoard k
/-! function 63 -/
noncomputable def r_impl_setBits : List PK := []
noncomputable def q_impl_setBits : List PK := [{ t := Ty.pair (Ty.int IntKind.i64) (Ty.pair (Ty.int IntKind.i64) (Ty.slice (75 : Nat) (Ty.pair (Ty.int IntKind.i64) (Ty.int IntKind.i64)))), agg := true, own := some ((2 : Nat), (75 : Nat), Ty.pair (Ty.int IntKind.i64) (Ty.int IntKind.i64)) }, { t := Ty.slice (26 : Nat) (Ty.slice (3 : Nat) (Ty.int IntKind.i64)) }, { t := Ty.slice (3 : Nat) (Ty.int IntKind.i64) }]
noncomputable def to_impl_setBits (r : List (Int × Int)) : Tup r_impl_setBits × OutD := ((()), some ⟨Ty.pair (Ty.int IntKind.i64) (Ty.int IntKind.i64), r⟩)
noncomputable def of_impl_setBits : Tup r_impl_setBits × OutD → Option (List (Int × Int))
  | (a, some ⟨u, ys⟩) => if h : u = Ty.pair (Ty.int IntKind.i64) (Ty.int IntKind.i64) then some (castU h ys) else none
  | _ => none
theorem to_of_impl_setBits : ∀ b r, of_impl_setBits b = some r → to_impl_setBits r = b := by
  rintro ⟨a, o⟩ r h
  cases o with
  | none => cases h
  | some s =>
    obtain ⟨u, ys⟩ := s
    simp only [of_impl_setBits] at h
    split at h
    · rename_i hu; subst hu; injection h with h; subst h; rfl
    · cases h
noncomputable def f_impl_setBits_2 : Nat → List (Int × Int) → Int → Int → List Int → List (List Int) → Int → Int → List Int → Int → Int → Option (List (Int × Int) × Int × Int × List Int × List (List Int) × Int × Int)
  | 0, _, _, _, _, _, _, _, _, _, _ => none
  | k + 1, o1, b2_0, b2_1, v2, v10, v11, v12, v30, v31, v32 =>
    if decide (v32 < v31) = true then if (0 : Int) ≤ v32 then if v32 < (↑(List.length v30) : Int) then if (0 : Int) ≤ List.getD v30 (Int.toNat v32) (0 : Int) then if List.getD v30 (Int.toNat v32) (0 : Int) < (↑(List.length o1) : Int) then if (0 : Int) ≤ List.getD v30 (Int.toNat v32) (0 : Int) then if List.getD v30 (Int.toNat v32) (0 : Int) < (↑(List.length o1) : Int) then f_impl_setBits_2 k (List.set o1 (Int.toNat (List.getD v30 (Int.toNat v32) (0 : Int))) (Prod.fst (List.getD o1 (Int.toNat (List.getD v30 (Int.toNat v32) (0 : Int))) ((0 : Int), (0 : Int))), wrap64 ((1 : Int) - Prod.snd (List.getD o1 (Int.toNat (List.getD v30 (Int.toNat v32) (0 : Int))) ((0 : Int), (0 : Int)))))) b2_0 b2_1 v2 v10 v11 v12 v30 v31 (wrap64 (v32 + (1 : Int))) else none else none else none else none else none else none else some (o1, b2_0, b2_1, v2, v10, v11, v12)
noncomputable def f_impl_setBits_2i : Spec := { objs := [OSh.ro, OSh.row false (75 : Nat) (Ty.pair (Ty.int IntKind.i64) (Ty.int IntKind.i64)), OSh.box (31 : Nat) [Sh.int IntKind.i64, Sh.int IntKind.i64, Sh.sl (1 : Nat)]], tmps := [((2 : Nat), TSh.at (Sh.snap (0 : Nat) (Ty.int IntKind.i64))), ((3 : Nat), TSh.at (Sh.ptr (2 : Nat) (0 : Nat))), ((10 : Nat), TSh.at (Sh.snap (0 : Nat) (Ty.slice (3 : Nat) (Ty.int IntKind.i64)))), ((11 : Nat), TSh.at (Sh.int IntKind.i64)), ((12 : Nat), TSh.at (Sh.int IntKind.i64)), ((30 : Nat), TSh.at (Sh.snap (0 : Nat) (Ty.int IntKind.i64))), ((31 : Nat), TSh.at (Sh.int IntKind.i64)), ((32 : Nat), TSh.at (Sh.int IntKind.i64))] }
noncomputable def f_impl_setBits_2o : Spec := { objs := [OSh.ro, OSh.row false (75 : Nat) (Ty.pair (Ty.int IntKind.i64) (Ty.int IntKind.i64)), OSh.box (31 : Nat) [Sh.int IntKind.i64, Sh.int IntKind.i64, Sh.sl (1 : Nat)]], tmps := [((2 : Nat), TSh.at (Sh.snap (0 : Nat) (Ty.int IntKind.i64))), ((3 : Nat), TSh.at (Sh.ptr (2 : Nat) (0 : Nat))), ((10 : Nat), TSh.at (Sh.snap (0 : Nat) (Ty.slice (3 : Nat) (Ty.int IntKind.i64)))), ((11 : Nat), TSh.at (Sh.int IntKind.i64)), ((12 : Nat), TSh.at (Sh.int IntKind.i64))] }
noncomputable def f_impl_setBits_2D : LoopDef (Tup r_impl_setBits × OutD) := .plain f_impl_setBits_2i f_impl_setBits_2o (List (Int × Int) × Int × Int × List Int × List (List Int) × Int × Int) (fun k x => f_impl_setBits_2 k x.1.2.1 x.1.2.2.1.1 x.1.2.2.1.2.1 x.2.1 x.2.2.2.1 x.2.2.2.2.1 x.2.2.2.2.2.1 x.2.2.2.2.2.2.1 x.2.2.2.2.2.2.2.1 x.2.2.2.2.2.2.2.2.1) (fun z => (((), z.1, (z.2.1, z.2.2.1, (), ()), ()), (z.2.2.2.1, (), z.2.2.2.2.1, z.2.2.2.2.2.1, z.2.2.2.2.2.2, ()))) (fun y => (y.1.2.1, y.1.2.2.1.1, y.1.2.2.1.2.1, y.2.1, y.2.2.2.1, y.2.2.2.2.1, y.2.2.2.2.2.1)) (fun _ => rfl)
noncomputable def f_impl_setBits_0 : Nat → List (Int × Int) → Int → Int → List Int → List (List Int) → Int → Int → Option (List (Int × Int))
  | 0, _, _, _, _, _, _, _ => none
  | k + 1, o1, b2_0, b2_1, v2, v10, v11, v12 =>
    if decide (v12 < v11) = true then if (0 : Int) ≤ v12 then if v12 < (↑(List.length v10) : Int) then if (0 : Int) < (↑(List.length (List.getD v10 (Int.toNat v12) [])) : Int) then if (0 : Int) ≤ List.getD (List.getD v10 (Int.toNat v12) []) (Int.toNat (0 : Int)) (0 : Int) then if List.getD (List.getD v10 (Int.toNat v12) []) (Int.toNat (0 : Int)) (0 : Int) < (↑(List.length o1) : Int) then if (0 : Int) ≤ v12 then if v12 < (↑(List.length v2) : Int) then if decide (Prod.snd (List.getD o1 (Int.toNat (List.getD (List.getD v10 (Int.toNat v12) []) (Int.toNat (0 : Int)) (0 : Int))) ((0 : Int), (0 : Int))) = List.getD v2 (Int.toNat v12) (0 : Int)) = true then f_impl_setBits_0 k o1 b2_0 b2_1 v2 v10 v11 (wrap64 (v12 + (1 : Int))) else Option.bind (f_impl_setBits_2 k o1 b2_0 b2_1 v2 v10 v11 v12 (List.getD v10 (Int.toNat v12) []) (↑(List.length (List.getD v10 (Int.toNat v12) [])) : Int) (0 : Int)) fun z0 => f_impl_setBits_0 k (Prod.fst z0) (Prod.fst (Prod.snd z0)) (Prod.fst (Prod.snd (Prod.snd z0))) (Prod.fst (Prod.snd (Prod.snd (Prod.snd z0)))) (Prod.fst (Prod.snd (Prod.snd (Prod.snd (Prod.snd z0))))) (Prod.fst (Prod.snd (Prod.snd (Prod.snd (Prod.snd (Prod.snd z0)))))) (wrap64 (Prod.snd (Prod.snd (Prod.snd (Prod.snd (Prod.snd (Prod.snd z0))))) + (1 : Int))) else none else none else none else none else none else none else none else some o1
noncomputable def f_impl_setBits_0i : Spec := { objs := [OSh.ro, OSh.row false (75 : Nat) (Ty.pair (Ty.int IntKind.i64) (Ty.int IntKind.i64)), OSh.box (31 : Nat) [Sh.int IntKind.i64, Sh.int IntKind.i64, Sh.sl (1 : Nat)]], tmps := [((2 : Nat), TSh.at (Sh.snap (0 : Nat) (Ty.int IntKind.i64))), ((3 : Nat), TSh.at (Sh.ptr (2 : Nat) (0 : Nat))), ((10 : Nat), TSh.at (Sh.snap (0 : Nat) (Ty.slice (3 : Nat) (Ty.int IntKind.i64)))), ((11 : Nat), TSh.at (Sh.int IntKind.i64)), ((12 : Nat), TSh.at (Sh.int IntKind.i64))] }
noncomputable def f_impl_setBits_0o : Spec := { objs := [OSh.ro, OSh.row false (75 : Nat) (Ty.pair (Ty.int IntKind.i64) (Ty.int IntKind.i64))], tmps := [] }
noncomputable def f_impl_setBits_0D : LoopDef (Tup r_impl_setBits × OutD) := .plain f_impl_setBits_0i f_impl_setBits_0o (List (Int × Int)) (fun k x => f_impl_setBits_0 k x.1.2.1 x.1.2.2.1.1 x.1.2.2.1.2.1 x.2.1 x.2.2.2.1 x.2.2.2.2.1 x.2.2.2.2.2.1) (fun z => (((), z, ()), (()))) (fun y => (y.1.2.1)) (fun _ => rfl)
noncomputable def f_impl_setBits : Nat → Int × Int × List (Int × Int) → List (List Int) → List Int → Option (List (Int × Int))
  | 0, _, _, _ => none
  | k + 1, p0, p1, p2 =>
    Option.bind (f_impl_setBits_0 k (Prod.snd (Prod.snd p0)) (Prod.fst p0) (Prod.fst (Prod.snd p0)) p2 p1 (↑(List.length p1) : Int) (0 : Int)) fun z1 => some z1
noncomputable def d_impl_setBits : FnDef := .of q_impl_setBits r_impl_setBits (List (Int × Int)) (fun k x => f_impl_setBits k x.1 x.2.1 x.2.2.1) to_impl_setBits of_impl_setBits to_of_impl_setBits
noncomputable def c_impl_setBits : Code := Try.f63.body.getD .skip
noncomputable def x_impl_setBits : Ctx (Tup r_impl_setBits × OutD) := { T := T, G := [], mvs := [], no := 1, n := 50, res := resOf T q_impl_setBits r_impl_setBits Try.f63.results.toList, loops := [(2, f_impl_setBits_2D.E), (0, f_impl_setBits_0D.E)], regs := [], conds := [] }
theorem g_impl_setBits (k : Nat) : EnvOK Try.prog k x_impl_setBits.G := (EnvOK.nil mixed)
noncomputable def f_impl_setBits_2B : Code := (findLoop 2 c_impl_setBits).getD .skip
theorem f_impl_setBits_2h (k : Nat) (x : f_impl_setBits_2i.D) : f_impl_setBits_2D.lp (k + 1) x = loopK x_impl_setBits f_impl_setBits_2D 2 f_impl_setBits_2B k x := by kernel_rfl
theorem f_impl_setBits_2l (k : Nat) : LOK Try.prog x_impl_setBits k f_impl_setBits_2B := LOK.by [] (by kernel_rfl) AllOK.nil
theorem f_impl_setBits_2z (x : f_impl_setBits_2i.D) : f_impl_setBits_2D.lp 0 x = none := by kernel_rfl
theorem f_impl_setBits_2ok (k : Nat) : EOK Try.prog x_impl_setBits k f_impl_setBits_2D.E (.block 2 (.loop f_impl_setBits_2B)) := loop_ok T_ok g_impl_setBits f_impl_setBits_2z f_impl_setBits_2h f_impl_setBits_2l k
noncomputable def f_impl_setBits_0B : Code := (findLoop 0 c_impl_setBits).getD .skip
theorem f_impl_setBits_0h (k : Nat) (x : f_impl_setBits_0i.D) : f_impl_setBits_0D.lp (k + 1) x = loopK x_impl_setBits f_impl_setBits_0D 0 f_impl_setBits_0B k x := by kernel_rfl
theorem f_impl_setBits_0l (k : Nat) : LOK Try.prog x_impl_setBits k f_impl_setBits_0B := LOK.by [(f_impl_setBits_2D.E, .block 2 (.loop f_impl_setBits_2B))] (by kernel_rfl) (AllOK.cons (f_impl_setBits_2ok k) AllOK.nil)
theorem f_impl_setBits_0z (x : f_impl_setBits_0i.D) : f_impl_setBits_0D.lp 0 x = none := by kernel_rfl
theorem f_impl_setBits_0ok (k : Nat) : EOK Try.prog x_impl_setBits k f_impl_setBits_0D.E (.block 0 (.loop f_impl_setBits_0B)) := loop_ok T_ok g_impl_setBits f_impl_setBits_0z f_impl_setBits_0h f_impl_setBits_0l k
theorem h_impl_setBits (k : Nat) (x : Tup d_impl_setBits.ps) : d_impl_setBits.f (k + 1) x = fnK d_impl_setBits x_impl_setBits c_impl_setBits k x := by kernel_rfl
theorem z_impl_setBits (x : Tup d_impl_setBits.ps) : d_impl_setBits.f 0 x = none := by kernel_rfl
theorem l_impl_setBits (k : Nat) : LOK Try.prog x_impl_setBits k c_impl_setBits := LOK.by [(f_impl_setBits_0D.E, .block 0 (.loop f_impl_setBits_0B))] (by kernel_rfl) (AllOK.cons (f_impl_setBits_0ok k) AllOK.nil)
theorem s_impl_setBits (k : Nat) : SoundAt Try.prog k 63 d_impl_setBits.E := @fn_all Try.prog d_impl_setBits x_impl_setBits 63 Try.f63 c_impl_setBits (by kernel_rfl) (by kernel_rfl) (by kernel_rfl) Try.func63 (by kernel_rfl) (by kernel_rfl) (by kernel_rfl) T_ok g_impl_setBits l_impl_setBits z_impl_setBits h_impl_setBits k
/-! function 64 -/
noncomputable def r_impl_bitList : List PK := [{ t := Ty.slice (3 : Nat) (Ty.int IntKind.i64) }]
noncomputable def q_impl_bitList : List PK := [{ t := Ty.int IntKind.i64 }, { t := Ty.int IntKind.i64 }]
noncomputable def to_impl_bitList (r : List Int) : Tup r_impl_bitList × OutD := ((r, ()), none)
noncomputable def of_impl_bitList : Tup r_impl_bitList × OutD → Option (List Int)
  | (a, none) => some (a.1)
  | _ => none
theorem to_of_impl_bitList : ∀ b r, of_impl_bitList b = some r → to_impl_bitList r = b := by
  rintro ⟨a, o⟩ r h
  cases o with
  | none => injection h with h; subst h; rfl
  | some _ => cases h
noncomputable def f_impl_bitList_0 : Nat → List Int → Int → Int → Int → Option (List Int)
  | 0, _, _, _, _ => none
  | k + 1, o1, v0, v10, v11 =>
    if decide (v11 < v10) = true then if v11 < (0 : Int) then none else if (0 : Int) ≤ v11 then if v11 < (↑(List.length o1) : Int) then f_impl_bitList_0 k (List.set o1 (Int.toNat v11) (bits BinOp.and IntKind.i64 (Int.fdiv v0 ((2 : Int) ^ min (Int.toNat v11) (IntKind.bits IntKind.i64))) (1 : Int))) v0 v10 (wrap64 (v11 + (1 : Int))) else none else none else some o1
noncomputable def f_impl_bitList_0i : Spec := { objs := [OSh.ro, OSh.row true (3 : Nat) (Ty.int IntKind.i64)], tmps := [((0 : Nat), TSh.at (Sh.int IntKind.i64)), ((5 : Nat), TSh.at (Sh.sl (1 : Nat))), ((10 : Nat), TSh.at (Sh.int IntKind.i64)), ((11 : Nat), TSh.at (Sh.int IntKind.i64))] }
noncomputable def f_impl_bitList_0o : Spec := { objs := [OSh.ro, OSh.row true (3 : Nat) (Ty.int IntKind.i64)], tmps := [((5 : Nat), TSh.at (Sh.sl (1 : Nat)))] }
noncomputable def f_impl_bitList_0D : LoopDef (Tup r_impl_bitList × OutD) := .plain f_impl_bitList_0i f_impl_bitList_0o (List Int) (fun k x => f_impl_bitList_0 k x.1.2.1 x.2.1 x.2.2.2.1 x.2.2.2.2.1) (fun z => (((), z, ()), ((), ()))) (fun y => (y.1.2.1)) (fun _ => rfl)
noncomputable def f_impl_bitList : Nat → Int → Int → Option (List Int)
  | 0, _, _ => none
  | k + 1, p0, p1 =>
    if (0 : Int) ≤ p1 then if Int.toNat p1 * (8 : Nat) ≤ (281474976710656 : Nat) then Option.bind (f_impl_bitList_0 k (List.replicate (Int.toNat p1) (0 : Int)) p0 (↑(List.length (List.replicate (Int.toNat p1) (0 : Int))) : Int) (0 : Int)) fun z0 => some z0 else none else none
noncomputable def d_impl_bitList : FnDef := .of q_impl_bitList r_impl_bitList (List Int) (fun k x => f_impl_bitList k x.1 x.2.1) to_impl_bitList of_impl_bitList to_of_impl_bitList
noncomputable def c_impl_bitList : Code := Try.f64.body.getD .skip
noncomputable def x_impl_bitList : Ctx (Tup r_impl_bitList × OutD) := { T := T, G := [], mvs := [], no := 0, n := 23, res := resOf T q_impl_bitList r_impl_bitList Try.f64.results.toList, loops := [(0, f_impl_bitList_0D.E)], regs := [], conds := [] }
theorem g_impl_bitList (k : Nat) : EnvOK Try.prog k x_impl_bitList.G := (EnvOK.nil mixed)
noncomputable def f_impl_bitList_0B : Code := (findLoop 0 c_impl_bitList).getD .skip
theorem f_impl_bitList_0h (k : Nat) (x : f_impl_bitList_0i.D) : f_impl_bitList_0D.lp (k + 1) x = loopK x_impl_bitList f_impl_bitList_0D 0 f_impl_bitList_0B k x := by kernel_rfl
theorem f_impl_bitList_0l (k : Nat) : LOK Try.prog x_impl_bitList k f_impl_bitList_0B := LOK.by [] (by kernel_rfl) AllOK.nil
theorem f_impl_bitList_0z (x : f_impl_bitList_0i.D) : f_impl_bitList_0D.lp 0 x = none := by kernel_rfl
theorem f_impl_bitList_0ok (k : Nat) : EOK Try.prog x_impl_bitList k f_impl_bitList_0D.E (.block 0 (.loop f_impl_bitList_0B)) := loop_ok T_ok g_impl_bitList f_impl_bitList_0z f_impl_bitList_0h f_impl_bitList_0l k
theorem h_impl_bitList (k : Nat) (x : Tup d_impl_bitList.ps) : d_impl_bitList.f (k + 1) x = fnK d_impl_bitList x_impl_bitList c_impl_bitList k x := by kernel_rfl
theorem z_impl_bitList (x : Tup d_impl_bitList.ps) : d_impl_bitList.f 0 x = none := by kernel_rfl
theorem l_impl_bitList (k : Nat) : LOK Try.prog x_impl_bitList k c_impl_bitList := LOK.by [(f_impl_bitList_0D.E, .block 0 (.loop f_impl_bitList_0B))] (by kernel_rfl) (AllOK.cons (f_impl_bitList_0ok k) AllOK.nil)
theorem s_impl_bitList (k : Nat) : SoundAt Try.prog k 64 d_impl_bitList.E := @fn_all Try.prog d_impl_bitList x_impl_bitList 64 Try.f64 c_impl_bitList (by kernel_rfl) (by kernel_rfl) (by kernel_rfl) Try.func64 (by kernel_rfl) (by kernel_rfl) (by kernel_rfl) T_ok g_impl_bitList l_impl_bitList z_impl_bitList h_impl_bitList k
/-! function 66 -/
noncomputable def r_laws_eqCell : List PK := [{ t := Ty.bool }]
noncomputable def q_laws_eqCell : List PK := [{ t := Ty.pair (Ty.int IntKind.i64) (Ty.int IntKind.i64), agg := true }, { t := Ty.pair (Ty.int IntKind.i64) (Ty.int IntKind.i64), agg := true }]
noncomputable def to_laws_eqCell (r : Bool) : Tup r_laws_eqCell × OutD := ((r, ()), none)
noncomputable def of_laws_eqCell : Tup r_laws_eqCell × OutD → Option (Bool)
  | (a, none) => some (a.1)
  | _ => none
theorem to_of_laws_eqCell : ∀ b r, of_laws_eqCell b = some r → to_laws_eqCell r = b := by
  rintro ⟨a, o⟩ r h
  cases o with
  | none => injection h with h; subst h; rfl
  | some _ => cases h
noncomputable def f_laws_eqCell : Nat → Int × Int → Int × Int → Option Bool
  | 0, _, _ => none
  | k + 1, p0, p1 =>
    if decide (Prod.fst p0 ≠ Prod.fst p1) = true then some false else if decide (Prod.snd p0 ≠ Prod.snd p1) = true then some false else some true
noncomputable def d_laws_eqCell : FnDef := .of q_laws_eqCell r_laws_eqCell (Bool) (fun k x => f_laws_eqCell k x.1 x.2.1) to_laws_eqCell of_laws_eqCell to_of_laws_eqCell
noncomputable def c_laws_eqCell : Code := Try.f66.body.getD .skip
noncomputable def x_laws_eqCell : Ctx (Tup r_laws_eqCell × OutD) := { T := T, G := [], mvs := [], no := 0, n := 15, res := resOf T q_laws_eqCell r_laws_eqCell Try.f66.results.toList, loops := [], regs := [], conds := [] }
theorem g_laws_eqCell (k : Nat) : EnvOK Try.prog k x_laws_eqCell.G := (EnvOK.nil mixed)
theorem h_laws_eqCell (k : Nat) (x : Tup d_laws_eqCell.ps) : d_laws_eqCell.f (k + 1) x = fnK d_laws_eqCell x_laws_eqCell c_laws_eqCell k x := by kernel_rfl
theorem z_laws_eqCell (x : Tup d_laws_eqCell.ps) : d_laws_eqCell.f 0 x = none := by kernel_rfl
theorem l_laws_eqCell (k : Nat) : LOK Try.prog x_laws_eqCell k c_laws_eqCell := LOK.by [] (by kernel_rfl) AllOK.nil
theorem s_laws_eqCell (k : Nat) : SoundAt Try.prog k 66 d_laws_eqCell.E := @fn_all Try.prog d_laws_eqCell x_laws_eqCell 66 Try.f66 c_laws_eqCell (by kernel_rfl) (by kernel_rfl) (by kernel_rfl) Try.func66 (by kernel_rfl) (by kernel_rfl) (by kernel_rfl) T_ok g_laws_eqCell l_laws_eqCell z_laws_eqCell h_laws_eqCell k
/-! function 69 -/
/-! function 72 -/
/-! function 74 -/
noncomputable def r_spec_l1In : List PK := [{ t := Ty.bool }]
noncomputable def q_spec_l1In : List PK := [{ t := Ty.int IntKind.i64 }, { t := Ty.int IntKind.i64 }, { t := Ty.int IntKind.i64 }]
noncomputable def to_spec_l1In (r : Bool) : Tup r_spec_l1In × OutD := ((r, ()), none)
noncomputable def of_spec_l1In : Tup r_spec_l1In × OutD → Option (Bool)
  | (a, none) => some (a.1)
  | _ => none
theorem to_of_spec_l1In : ∀ b r, of_spec_l1In b = some r → to_spec_l1In r = b := by
  rintro ⟨a, o⟩ r h
  cases o with
  | none => injection h with h; subst h; rfl
  | some _ => cases h
noncomputable def f_spec_l1In : Nat → Int → Int → Int → Option Bool
  | 0, _, _, _ => none
  | k + 1, p0, p1, p2 =>
    if decide (p0 ≥ p1) = true then some (decide (p0 ≤ p2)) else some false
noncomputable def d_spec_l1In : FnDef := .of q_spec_l1In r_spec_l1In (Bool) (fun k x => f_spec_l1In k x.1 x.2.1 x.2.2.1) to_spec_l1In of_spec_l1In to_of_spec_l1In
noncomputable def c_spec_l1In : Code := Try.f74.body.getD .skip
noncomputable def x_spec_l1In : Ctx (Tup r_spec_l1In × OutD) := { T := T, G := [], mvs := [], no := 0, n := 15, res := resOf T q_spec_l1In r_spec_l1In Try.f74.results.toList, loops := [], regs := [], conds := [] }
theorem g_spec_l1In (k : Nat) : EnvOK Try.prog k x_spec_l1In.G := (EnvOK.nil mixed)
theorem h_spec_l1In (k : Nat) (x : Tup d_spec_l1In.ps) : d_spec_l1In.f (k + 1) x = fnK d_spec_l1In x_spec_l1In c_spec_l1In k x := by kernel_rfl
theorem z_spec_l1In (x : Tup d_spec_l1In.ps) : d_spec_l1In.f 0 x = none := by kernel_rfl
theorem l_spec_l1In (k : Nat) : LOK Try.prog x_spec_l1In k c_spec_l1In := LOK.by [] (by kernel_rfl) AllOK.nil
theorem s_spec_l1In (k : Nat) : SoundAt Try.prog k 74 d_spec_l1In.E := @fn_all Try.prog d_spec_l1In x_spec_l1In 74 Try.f74 c_spec_l1In (by kernel_rfl) (by kernel_rfl) (by kernel_rfl) Try.func74 (by kernel_rfl) (by kernel_rfl) (by kernel_rfl) T_ok g_spec_l1In l_spec_l1In z_spec_l1In h_spec_l1In k
/-! function 77 -/
noncomputable def r_impl_isGeared : List PK := [{ t := Ty.bool }]
noncomputable def q_impl_isGeared : List PK := [{ t := Ty.pair (Ty.int IntKind.i64) (Ty.int IntKind.i64), agg := true }]
noncomputable def to_impl_isGeared (r : Bool) : Tup r_impl_isGeared × OutD := ((r, ()), none)
noncomputable def of_impl_isGeared : Tup r_impl_isGeared × OutD → Option (Bool)
  | (a, none) => some (a.1)
  | _ => none
theorem to_of_impl_isGeared : ∀ b r, of_impl_isGeared b = some r → to_impl_isGeared r = b := by
  rintro ⟨a, o⟩ r h
  cases o with
  | none => injection h with h; subst h; rfl
  | some _ => cases h
noncomputable def f_impl_isGeared : Nat → Int × Int → Option Bool
  | 0, _ => none
  | k + 1, p0 =>
    if decide (Prod.fst p0 = (6 : Int)) = true then some true else some (decide (Prod.fst p0 = (7 : Int)))
noncomputable def d_impl_isGeared : FnDef := .of q_impl_isGeared r_impl_isGeared (Bool) (fun k x => f_impl_isGeared k x.1) to_impl_isGeared of_impl_isGeared to_of_impl_isGeared
noncomputable def c_impl_isGeared : Code := Try.f77.body.getD .skip
noncomputable def x_impl_isGeared : Ctx (Tup r_impl_isGeared × OutD) := { T := T, G := [], mvs := [], no := 0, n := 11, res := resOf T q_impl_isGeared r_impl_isGeared Try.f77.results.toList, loops := [], regs := [], conds := [] }
theorem g_impl_isGeared (k : Nat) : EnvOK Try.prog k x_impl_isGeared.G := (EnvOK.nil mixed)
theorem h_impl_isGeared (k : Nat) (x : Tup d_impl_isGeared.ps) : d_impl_isGeared.f (k + 1) x = fnK d_impl_isGeared x_impl_isGeared c_impl_isGeared k x := by kernel_rfl
theorem z_impl_isGeared (x : Tup d_impl_isGeared.ps) : d_impl_isGeared.f 0 x = none := by kernel_rfl
theorem l_impl_isGeared (k : Nat) : LOK Try.prog x_impl_isGeared k c_impl_isGeared := LOK.by [] (by kernel_rfl) AllOK.nil
theorem s_impl_isGeared (k : Nat) : SoundAt Try.prog k 77 d_impl_isGeared.E := @fn_all Try.prog d_impl_isGeared x_impl_isGeared 77 Try.f77 c_impl_isGeared (by kernel_rfl) (by kernel_rfl) (by kernel_rfl) Try.func77 (by kernel_rfl) (by kernel_rfl) (by kernel_rfl) T_ok g_impl_isGeared l_impl_isGeared z_impl_isGeared h_impl_isGeared k
/-! function 78 -/
noncomputable def r_impl_besideOf : List PK := [{ t := Ty.slice (3 : Nat) (Ty.int IntKind.i64) }]
noncomputable def q_impl_besideOf : List PK := [{ t := Ty.pair (Ty.int IntKind.i64) (Ty.pair (Ty.int IntKind.i64) (Ty.slice (75 : Nat) (Ty.pair (Ty.int IntKind.i64) (Ty.int IntKind.i64)))), agg := true }, { t := Ty.int IntKind.i64 }]
noncomputable def to_impl_besideOf (r : List Int) : Tup r_impl_besideOf × OutD := ((r, ()), none)
noncomputable def of_impl_besideOf : Tup r_impl_besideOf × OutD → Option (List Int)
  | (a, none) => some (a.1)
  | _ => none
theorem to_of_impl_besideOf : ∀ b r, of_impl_besideOf b = some r → to_impl_besideOf r = b := by
  rintro ⟨a, o⟩ r h
  cases o with
  | none => injection h with h; subst h; rfl
  | some _ => cases h
noncomputable def f_impl_besideOf : Nat → Int × Int × List (Int × Int) → Int → Option (List Int)
  | 0, _, _ => none
  | k + 1, p0, p1 =>
    if Prod.fst (Prod.snd p0) = (0 : Int) then none else if Prod.fst (Prod.snd p0) = (0 : Int) then none else if decide (wrap64 (Int.tdiv p1 (Prod.fst (Prod.snd p0))) > (0 : Int)) = true then if decide (Int.tmod p1 (Prod.fst (Prod.snd p0)) > (0 : Int)) = true then if decide (wrap64 (Int.tmod p1 (Prod.fst (Prod.snd p0)) + (1 : Int)) < Prod.fst (Prod.snd p0)) = true then if decide (wrap64 (wrap64 (Int.tdiv p1 (Prod.fst (Prod.snd p0))) + (1 : Int)) < Prod.fst p0) = true then some ([wrap64 (p1 - Prod.fst (Prod.snd p0))] ++ [wrap64 (p1 - (1 : Int))] ++ [wrap64 (p1 + (1 : Int))] ++ [wrap64 (p1 + Prod.fst (Prod.snd p0))]) else some ([wrap64 (p1 - Prod.fst (Prod.snd p0))] ++ [wrap64 (p1 - (1 : Int))] ++ [wrap64 (p1 + (1 : Int))]) else if decide (wrap64 (wrap64 (Int.tdiv p1 (Prod.fst (Prod.snd p0))) + (1 : Int)) < Prod.fst p0) = true then some ([wrap64 (p1 - Prod.fst (Prod.snd p0))] ++ [wrap64 (p1 - (1 : Int))] ++ [wrap64 (p1 + Prod.fst (Prod.snd p0))]) else some ([wrap64 (p1 - Prod.fst (Prod.snd p0))] ++ [wrap64 (p1 - (1 : Int))]) else if decide (wrap64 (Int.tmod p1 (Prod.fst (Prod.snd p0)) + (1 : Int)) < Prod.fst (Prod.snd p0)) = true then if decide (wrap64 (wrap64 (Int.tdiv p1 (Prod.fst (Prod.snd p0))) + (1 : Int)) < Prod.fst p0) = true then some ([wrap64 (p1 - Prod.fst (Prod.snd p0))] ++ [wrap64 (p1 + (1 : Int))] ++ [wrap64 (p1 + Prod.fst (Prod.snd p0))]) else some ([wrap64 (p1 - Prod.fst (Prod.snd p0))] ++ [wrap64 (p1 + (1 : Int))]) else if decide (wrap64 (wrap64 (Int.tdiv p1 (Prod.fst (Prod.snd p0))) + (1 : Int)) < Prod.fst p0) = true then some ([wrap64 (p1 - Prod.fst (Prod.snd p0))] ++ [wrap64 (p1 + Prod.fst (Prod.snd p0))]) else some [wrap64 (p1 - Prod.fst (Prod.snd p0))] else if decide (Int.tmod p1 (Prod.fst (Prod.snd p0)) > (0 : Int)) = true then if decide (wrap64 (Int.tmod p1 (Prod.fst (Prod.snd p0)) + (1 : Int)) < Prod.fst (Prod.snd p0)) = true then if decide (wrap64 (wrap64 (Int.tdiv p1 (Prod.fst (Prod.snd p0))) + (1 : Int)) < Prod.fst p0) = true then some ([wrap64 (p1 - (1 : Int))] ++ [wrap64 (p1 + (1 : Int))] ++ [wrap64 (p1 + Prod.fst (Prod.snd p0))]) else some ([wrap64 (p1 - (1 : Int))] ++ [wrap64 (p1 + (1 : Int))]) else if decide (wrap64 (wrap64 (Int.tdiv p1 (Prod.fst (Prod.snd p0))) + (1 : Int)) < Prod.fst p0) = true then some ([wrap64 (p1 - (1 : Int))] ++ [wrap64 (p1 + Prod.fst (Prod.snd p0))]) else some [wrap64 (p1 - (1 : Int))] else if decide (wrap64 (Int.tmod p1 (Prod.fst (Prod.snd p0)) + (1 : Int)) < Prod.fst (Prod.snd p0)) = true then if decide (wrap64 (wrap64 (Int.tdiv p1 (Prod.fst (Prod.snd p0))) + (1 : Int)) < Prod.fst p0) = true then some ([wrap64 (p1 + (1 : Int))] ++ [wrap64 (p1 + Prod.fst (Prod.snd p0))]) else some [wrap64 (p1 + (1 : Int))] else if decide (wrap64 (wrap64 (Int.tdiv p1 (Prod.fst (Prod.snd p0))) + (1 : Int)) < Prod.fst p0) = true then some [wrap64 (p1 + Prod.fst (Prod.snd p0))] else some []
noncomputable def d_impl_besideOf : FnDef := .of q_impl_besideOf r_impl_besideOf (List Int) (fun k x => f_impl_besideOf k x.1 x.2.1) to_impl_besideOf of_impl_besideOf to_of_impl_besideOf
noncomputable def c_impl_besideOf : Code := Try.f78.body.getD .skip
noncomputable def x_impl_besideOf : Ctx (Tup r_impl_besideOf × OutD) := { T := T, G := [], mvs := [], no := 0, n := 56, res := resOf T q_impl_besideOf r_impl_besideOf Try.f78.results.toList, loops := [], regs := [], conds := [] }
theorem g_impl_besideOf (k : Nat) : EnvOK Try.prog k x_impl_besideOf.G := (EnvOK.nil mixed)
theorem h_impl_besideOf (k : Nat) (x : Tup d_impl_besideOf.ps) : d_impl_besideOf.f (k + 1) x = fnK d_impl_besideOf x_impl_besideOf c_impl_besideOf k x := by kernel_rfl
theorem z_impl_besideOf (x : Tup d_impl_besideOf.ps) : d_impl_besideOf.f 0 x = none := by kernel_rfl
theorem l_impl_besideOf (k : Nat) : LOK Try.prog x_impl_besideOf k c_impl_besideOf := LOK.by [] (by kernel_rfl) AllOK.nil
theorem s_impl_besideOf (k : Nat) : SoundAt Try.prog k 78 d_impl_besideOf.E := @fn_all Try.prog d_impl_besideOf x_impl_besideOf 78 Try.f78 c_impl_besideOf (by kernel_rfl) (by kernel_rfl) (by kernel_rfl) Try.func78 (by kernel_rfl) (by kernel_rfl) (by kernel_rfl) T_ok g_impl_besideOf l_impl_besideOf z_impl_besideOf h_impl_besideOf k
/-! function 80 -/
noncomputable def r_impl_turnGroup : List PK := []
noncomputable def q_impl_turnGroup : List PK := [{ t := Ty.pair (Ty.int IntKind.i64) (Ty.pair (Ty.int IntKind.i64) (Ty.slice (75 : Nat) (Ty.pair (Ty.int IntKind.i64) (Ty.int IntKind.i64)))), agg := true, own := some ((2 : Nat), (75 : Nat), Ty.pair (Ty.int IntKind.i64) (Ty.int IntKind.i64)) }, { t := Ty.slice (3 : Nat) (Ty.int IntKind.i64) }, { t := Ty.int IntKind.i64 }]
noncomputable def to_impl_turnGroup (r : List (Int × Int)) : Tup r_impl_turnGroup × OutD := ((()), some ⟨Ty.pair (Ty.int IntKind.i64) (Ty.int IntKind.i64), r⟩)
noncomputable def of_impl_turnGroup : Tup r_impl_turnGroup × OutD → Option (List (Int × Int))
  | (a, some ⟨u, ys⟩) => if h : u = Ty.pair (Ty.int IntKind.i64) (Ty.int IntKind.i64) then some (castU h ys) else none
  | _ => none
theorem to_of_impl_turnGroup : ∀ b r, of_impl_turnGroup b = some r → to_impl_turnGroup r = b := by
  rintro ⟨a, o⟩ r h
  cases o with
  | none => cases h
  | some s =>
    obtain ⟨u, ys⟩ := s
    simp only [of_impl_turnGroup] at h
    split at h
    · rename_i hu; subst hu; injection h with h; subst h; rfl
    · cases h
noncomputable def f_impl_turnGroup_0 : Nat → List (Int × Int) → Int → Int → List Int → Int → Int → Int → Option (List (Int × Int))
  | 0, _, _, _, _, _, _, _ => none
  | k + 1, o1, b2_0, b2_1, v1, v2, v9, v10 =>
    if decide (v10 < v9) = true then if (0 : Int) ≤ v10 then if v10 < (↑(List.length o1) : Int) then if decide (Prod.fst (List.getD o1 (Int.toNat v10) ((0 : Int), (0 : Int))) = (6 : Int)) = true then if (0 : Int) ≤ v10 then if v10 < (↑(List.length v1) : Int) then if (0 : Int) ≤ v2 then if v2 < (↑(List.length v1) : Int) then if decide (List.getD v1 (Int.toNat v10) (0 : Int) = List.getD v1 (Int.toNat v2) (0 : Int)) = true then if (0 : Int) ≤ v10 then if v10 < (↑(List.length o1) : Int) then if (0 : Int) ≤ v10 then if v10 < (↑(List.length o1) : Int) then f_impl_turnGroup_0 k (List.set o1 (Int.toNat v10) (Prod.fst (List.getD o1 (Int.toNat v10) ((0 : Int), (0 : Int))), wrap64 ((1 : Int) - Prod.snd (List.getD o1 (Int.toNat v10) ((0 : Int), (0 : Int)))))) b2_0 b2_1 v1 v2 v9 (wrap64 (v10 + (1 : Int))) else none else none else none else none else f_impl_turnGroup_0 k o1 b2_0 b2_1 v1 v2 v9 (wrap64 (v10 + (1 : Int))) else none else none else none else none else f_impl_turnGroup_0 k o1 b2_0 b2_1 v1 v2 v9 (wrap64 (v10 + (1 : Int))) else none else none else some o1
noncomputable def f_impl_turnGroup_0i : Spec := { objs := [OSh.ro, OSh.row false (75 : Nat) (Ty.pair (Ty.int IntKind.i64) (Ty.int IntKind.i64)), OSh.box (31 : Nat) [Sh.int IntKind.i64, Sh.int IntKind.i64, Sh.sl (1 : Nat)]], tmps := [((1 : Nat), TSh.at (Sh.snap (0 : Nat) (Ty.int IntKind.i64))), ((2 : Nat), TSh.at (Sh.int IntKind.i64)), ((3 : Nat), TSh.at (Sh.ptr (2 : Nat) (0 : Nat))), ((9 : Nat), TSh.at (Sh.int IntKind.i64)), ((10 : Nat), TSh.at (Sh.int IntKind.i64))] }
noncomputable def f_impl_turnGroup_0o : Spec := { objs := [OSh.ro, OSh.row false (75 : Nat) (Ty.pair (Ty.int IntKind.i64) (Ty.int IntKind.i64))], tmps := [] }
noncomputable def f_impl_turnGroup_0D : LoopDef (Tup r_impl_turnGroup × OutD) := .plain f_impl_turnGroup_0i f_impl_turnGroup_0o (List (Int × Int)) (fun k x => f_impl_turnGroup_0 k x.1.2.1 x.1.2.2.1.1 x.1.2.2.1.2.1 x.2.1 x.2.2.1 x.2.2.2.2.1 x.2.2.2.2.2.1) (fun z => (((), z, ()), (()))) (fun y => (y.1.2.1)) (fun _ => rfl)
noncomputable def f_impl_turnGroup : Nat → Int × Int × List (Int × Int) → List Int → Int → Option (List (Int × Int))
  | 0, _, _, _ => none
  | k + 1, p0, p1, p2 =>
    Option.bind (f_impl_turnGroup_0 k (Prod.snd (Prod.snd p0)) (Prod.fst p0) (Prod.fst (Prod.snd p0)) p1 p2 (↑(List.length (Prod.snd (Prod.snd p0))) : Int) (0 : Int)) fun z0 => some z0
noncomputable def d_impl_turnGroup : FnDef := .of q_impl_turnGroup r_impl_turnGroup (List (Int × Int)) (fun k x => f_impl_turnGroup k x.1 x.2.1 x.2.2.1) to_impl_turnGroup of_impl_turnGroup to_of_impl_turnGroup
noncomputable def c_impl_turnGroup : Code := Try.f80.body.getD .skip
noncomputable def x_impl_turnGroup : Ctx (Tup r_impl_turnGroup × OutD) := { T := T, G := [], mvs := [], no := 1, n := 44, res := resOf T q_impl_turnGroup r_impl_turnGroup Try.f80.results.toList, loops := [(0, f_impl_turnGroup_0D.E)], regs := [], conds := [] }
theorem g_impl_turnGroup (k : Nat) : EnvOK Try.prog k x_impl_turnGroup.G := (EnvOK.nil mixed)
noncomputable def f_impl_turnGroup_0B : Code := (findLoop 0 c_impl_turnGroup).getD .skip
theorem f_impl_turnGroup_0h (k : Nat) (x : f_impl_turnGroup_0i.D) : f_impl_turnGroup_0D.lp (k + 1) x = loopK x_impl_turnGroup f_impl_turnGroup_0D 0 f_impl_turnGroup_0B k x := by kernel_rfl
theorem f_impl_turnGroup_0l (k : Nat) : LOK Try.prog x_impl_turnGroup k f_impl_turnGroup_0B := LOK.by [] (by kernel_rfl) AllOK.nil
theorem f_impl_turnGroup_0z (x : f_impl_turnGroup_0i.D) : f_impl_turnGroup_0D.lp 0 x = none := by kernel_rfl
theorem f_impl_turnGroup_0ok (k : Nat) : EOK Try.prog x_impl_turnGroup k f_impl_turnGroup_0D.E (.block 0 (.loop f_impl_turnGroup_0B)) := loop_ok T_ok g_impl_turnGroup f_impl_turnGroup_0z f_impl_turnGroup_0h f_impl_turnGroup_0l k
theorem h_impl_turnGroup (k : Nat) (x : Tup d_impl_turnGroup.ps) : d_impl_turnGroup.f (k + 1) x = fnK d_impl_turnGroup x_impl_turnGroup c_impl_turnGroup k x := by kernel_rfl
theorem z_impl_turnGroup (x : Tup d_impl_turnGroup.ps) : d_impl_turnGroup.f 0 x = none := by kernel_rfl
theorem l_impl_turnGroup (k : Nat) : LOK Try.prog x_impl_turnGroup k c_impl_turnGroup := LOK.by [(f_impl_turnGroup_0D.E, .block 0 (.loop f_impl_turnGroup_0B))] (by kernel_rfl) (AllOK.cons (f_impl_turnGroup_0ok k) AllOK.nil)
theorem s_impl_turnGroup (k : Nat) : SoundAt Try.prog k 80 d_impl_turnGroup.E := @fn_all Try.prog d_impl_turnGroup x_impl_turnGroup 80 Try.f80 c_impl_turnGroup (by kernel_rfl) (by kernel_rfl) (by kernel_rfl) Try.func80 (by kernel_rfl) (by kernel_rfl) (by kernel_rfl) T_ok g_impl_turnGroup l_impl_turnGroup z_impl_turnGroup h_impl_turnGroup k
/-! function 82 -/
noncomputable def r_spec_paTurn : List PK := [{ t := Ty.pair (Ty.int IntKind.i64) (Ty.int IntKind.i64), agg := true }]
noncomputable def q_spec_paTurn : List PK := [{ t := Ty.pair (Ty.int IntKind.i64) (Ty.int IntKind.i64), agg := true }]
noncomputable def to_spec_paTurn (r : Int × Int) : Tup r_spec_paTurn × OutD := ((r, ()), none)
noncomputable def of_spec_paTurn : Tup r_spec_paTurn × OutD → Option (Int × Int)
  | (a, none) => some (a.1)
  | _ => none
theorem to_of_spec_paTurn : ∀ b r, of_spec_paTurn b = some r → to_spec_paTurn r = b := by
  rintro ⟨a, o⟩ r h
  cases o with
  | none => injection h with h; subst h; rfl
  | some _ => cases h
noncomputable def f_spec_paTurn : Nat → Int × Int → Option (Int × Int)
  | 0, _ => none
  | k + 1, p0 =>
    some (Prod.fst p0, wrap64 ((1 : Int) - Prod.snd p0))
noncomputable def d_spec_paTurn : FnDef := .of q_spec_paTurn r_spec_paTurn (Int × Int) (fun k x => f_spec_paTurn k x.1) to_spec_paTurn of_spec_paTurn to_of_spec_paTurn
noncomputable def c_spec_paTurn : Code := Try.f82.body.getD .skip
noncomputable def x_spec_paTurn : Ctx (Tup r_spec_paTurn × OutD) := { T := T, G := [], mvs := [], no := 0, n := 9, res := resOf T q_spec_paTurn r_spec_paTurn Try.f82.results.toList, loops := [], regs := [], conds := [] }
theorem g_spec_paTurn (k : Nat) : EnvOK Try.prog k x_spec_paTurn.G := (EnvOK.nil mixed)
theorem h_spec_paTurn (k : Nat) (x : Tup d_spec_paTurn.ps) : d_spec_paTurn.f (k + 1) x = fnK d_spec_paTurn x_spec_paTurn c_spec_paTurn k x := by kernel_rfl
theorem z_spec_paTurn (x : Tup d_spec_paTurn.ps) : d_spec_paTurn.f 0 x = none := by kernel_rfl
theorem l_spec_paTurn (k : Nat) : LOK Try.prog x_spec_paTurn k c_spec_paTurn := LOK.by [] (by kernel_rfl) AllOK.nil
theorem s_spec_paTurn (k : Nat) : SoundAt Try.prog k 82 d_spec_paTurn.E := @fn_all Try.prog d_spec_paTurn x_spec_paTurn 82 Try.f82 c_spec_paTurn (by kernel_rfl) (by kernel_rfl) (by kernel_rfl) Try.func82 (by kernel_rfl) (by kernel_rfl) (by kernel_rfl) T_ok g_spec_paTurn l_spec_paTurn z_spec_paTurn h_spec_paTurn k
/-! function 83 -/
noncomputable def r_impl_IsCell : List PK := [{ t := Ty.bool }]
noncomputable def q_impl_IsCell : List PK := [{ t := Ty.pair (Ty.int IntKind.i64) (Ty.int IntKind.i64), agg := true }]
noncomputable def to_impl_IsCell (r : Bool) : Tup r_impl_IsCell × OutD := ((r, ()), none)
noncomputable def of_impl_IsCell : Tup r_impl_IsCell × OutD → Option (Bool)
  | (a, none) => some (a.1)
  | _ => none
theorem to_of_impl_IsCell : ∀ b r, of_impl_IsCell b = some r → to_impl_IsCell r = b := by
  rintro ⟨a, o⟩ r h
  cases o with
  | none => injection h with h; subst h; rfl
  | some _ => cases h
noncomputable def f_impl_IsCell : Nat → Int × Int → Option Bool
  | 0, _ => none
  | k + 1, p0 =>
    if decide (Prod.fst p0 < (0 : Int)) = true then some false else if decide (Prod.fst p0 > (7 : Int)) = true then some false else if decide (Prod.snd p0 < (0 : Int)) = true then some false else if decide (Prod.snd p0 > (1 : Int)) = true then some false else if decide (Prod.snd p0 = (0 : Int)) = true then some true else if decide (Prod.fst p0 = (3 : Int)) = true then some true else some (decide (Prod.fst p0 = (6 : Int)))
noncomputable def d_impl_IsCell : FnDef := .of q_impl_IsCell r_impl_IsCell (Bool) (fun k x => f_impl_IsCell k x.1) to_impl_IsCell of_impl_IsCell to_of_impl_IsCell
noncomputable def c_impl_IsCell : Code := Try.f83.body.getD .skip
noncomputable def x_impl_IsCell : Ctx (Tup r_impl_IsCell × OutD) := { T := T, G := [], mvs := [], no := 0, n := 34, res := resOf T q_impl_IsCell r_impl_IsCell Try.f83.results.toList, loops := [], regs := [], conds := [] }
theorem g_impl_IsCell (k : Nat) : EnvOK Try.prog k x_impl_IsCell.G := (EnvOK.nil mixed)
theorem h_impl_IsCell (k : Nat) (x : Tup d_impl_IsCell.ps) : d_impl_IsCell.f (k + 1) x = fnK d_impl_IsCell x_impl_IsCell c_impl_IsCell k x := by kernel_rfl
theorem z_impl_IsCell (x : Tup d_impl_IsCell.ps) : d_impl_IsCell.f 0 x = none := by kernel_rfl
theorem l_impl_IsCell (k : Nat) : LOK Try.prog x_impl_IsCell k c_impl_IsCell := LOK.by [] (by kernel_rfl) AllOK.nil
theorem s_impl_IsCell (k : Nat) : SoundAt Try.prog k 83 d_impl_IsCell.E := @fn_all Try.prog d_impl_IsCell x_impl_IsCell 83 Try.f83 c_impl_IsCell (by kernel_rfl) (by kernel_rfl) (by kernel_rfl) Try.func83 (by kernel_rfl) (by kernel_rfl) (by kernel_rfl) T_ok g_impl_IsCell l_impl_IsCell z_impl_IsCell h_impl_IsCell k
/-! function 84 -/
noncomputable def r_spec_ggGear : List PK := [{ t := Ty.bool }]
noncomputable def q_spec_ggGear : List PK := [{ t := Ty.pair (Ty.int IntKind.i64) (Ty.int IntKind.i64), agg := true }]
noncomputable def to_spec_ggGear (r : Bool) : Tup r_spec_ggGear × OutD := ((r, ()), none)
noncomputable def of_spec_ggGear : Tup r_spec_ggGear × OutD → Option (Bool)
  | (a, none) => some (a.1)
  | _ => none
theorem to_of_spec_ggGear : ∀ b r, of_spec_ggGear b = some r → to_spec_ggGear r = b := by
  rintro ⟨a, o⟩ r h
  cases o with
  | none => injection h with h; subst h; rfl
  | some _ => cases h
noncomputable def f_spec_ggGear : Nat → Int × Int → Option Bool
  | 0, _ => none
  | k + 1, p0 =>
    if decide (Prod.fst p0 = (6 : Int)) = true then some true else some (decide (Prod.fst p0 = (7 : Int)))
noncomputable def d_spec_ggGear : FnDef := .of q_spec_ggGear r_spec_ggGear (Bool) (fun k x => f_spec_ggGear k x.1) to_spec_ggGear of_spec_ggGear to_of_spec_ggGear
noncomputable def c_spec_ggGear : Code := Try.f84.body.getD .skip
noncomputable def x_spec_ggGear : Ctx (Tup r_spec_ggGear × OutD) := { T := T, G := [], mvs := [], no := 0, n := 11, res := resOf T q_spec_ggGear r_spec_ggGear Try.f84.results.toList, loops := [], regs := [], conds := [] }
theorem g_spec_ggGear (k : Nat) : EnvOK Try.prog k x_spec_ggGear.G := (EnvOK.nil mixed)
theorem h_spec_ggGear (k : Nat) (x : Tup d_spec_ggGear.ps) : d_spec_ggGear.f (k + 1) x = fnK d_spec_ggGear x_spec_ggGear c_spec_ggGear k x := by kernel_rfl
theorem z_spec_ggGear (x : Tup d_spec_ggGear.ps) : d_spec_ggGear.f 0 x = none := by kernel_rfl
theorem l_spec_ggGear (k : Nat) : LOK Try.prog x_spec_ggGear k c_spec_ggGear := LOK.by [] (by kernel_rfl) AllOK.nil
theorem s_spec_ggGear (k : Nat) : SoundAt Try.prog k 84 d_spec_ggGear.E := @fn_all Try.prog d_spec_ggGear x_spec_ggGear 84 Try.f84 c_spec_ggGear (by kernel_rfl) (by kernel_rfl) (by kernel_rfl) Try.func84 (by kernel_rfl) (by kernel_rfl) (by kernel_rfl) T_ok g_spec_ggGear l_spec_ggGear z_spec_ggGear h_spec_ggGear k
/-! function 85 -/
noncomputable def r_spec_ggNear : List PK := [{ t := Ty.slice (3 : Nat) (Ty.int IntKind.i64) }]
noncomputable def q_spec_ggNear : List PK := [{ t := Ty.pair (Ty.int IntKind.i64) (Ty.pair (Ty.int IntKind.i64) (Ty.slice (75 : Nat) (Ty.pair (Ty.int IntKind.i64) (Ty.int IntKind.i64)))), agg := true }, { t := Ty.int IntKind.i64 }]
noncomputable def to_spec_ggNear (r : List Int) : Tup r_spec_ggNear × OutD := ((r, ()), none)
noncomputable def of_spec_ggNear : Tup r_spec_ggNear × OutD → Option (List Int)
  | (a, none) => some (a.1)
  | _ => none
theorem to_of_spec_ggNear : ∀ b r, of_spec_ggNear b = some r → to_spec_ggNear r = b := by
  rintro ⟨a, o⟩ r h
  cases o with
  | none => injection h with h; subst h; rfl
  | some _ => cases h
noncomputable def f_spec_ggNear : Nat → Int × Int × List (Int × Int) → Int → Option (List Int)
  | 0, _, _ => none
  | k + 1, p0, p1 =>
    if Prod.fst (Prod.snd p0) = (0 : Int) then none else if Prod.fst (Prod.snd p0) = (0 : Int) then none else if decide (wrap64 (Int.tdiv p1 (Prod.fst (Prod.snd p0))) > (0 : Int)) = true then if decide (Int.tmod p1 (Prod.fst (Prod.snd p0)) > (0 : Int)) = true then if decide (wrap64 (Int.tmod p1 (Prod.fst (Prod.snd p0)) + (1 : Int)) < Prod.fst (Prod.snd p0)) = true then if decide (wrap64 (wrap64 (Int.tdiv p1 (Prod.fst (Prod.snd p0))) + (1 : Int)) < Prod.fst p0) = true then some ([wrap64 (p1 - Prod.fst (Prod.snd p0))] ++ [wrap64 (p1 - (1 : Int))] ++ [wrap64 (p1 + (1 : Int))] ++ [wrap64 (p1 + Prod.fst (Prod.snd p0))]) else some ([wrap64 (p1 - Prod.fst (Prod.snd p0))] ++ [wrap64 (p1 - (1 : Int))] ++ [wrap64 (p1 + (1 : Int))]) else if decide (wrap64 (wrap64 (Int.tdiv p1 (Prod.fst (Prod.snd p0))) + (1 : Int)) < Prod.fst p0) = true then some ([wrap64 (p1 - Prod.fst (Prod.snd p0))] ++ [wrap64 (p1 - (1 : Int))] ++ [wrap64 (p1 + Prod.fst (Prod.snd p0))]) else some ([wrap64 (p1 - Prod.fst (Prod.snd p0))] ++ [wrap64 (p1 - (1 : Int))]) else if decide (wrap64 (Int.tmod p1 (Prod.fst (Prod.snd p0)) + (1 : Int)) < Prod.fst (Prod.snd p0)) = true then if decide (wrap64 (wrap64 (Int.tdiv p1 (Prod.fst (Prod.snd p0))) + (1 : Int)) < Prod.fst p0) = true then some ([wrap64 (p1 - Prod.fst (Prod.snd p0))] ++ [wrap64 (p1 + (1 : Int))] ++ [wrap64 (p1 + Prod.fst (Prod.snd p0))]) else some ([wrap64 (p1 - Prod.fst (Prod.snd p0))] ++ [wrap64 (p1 + (1 : Int))]) else if decide (wrap64 (wrap64 (Int.tdiv p1 (Prod.fst (Prod.snd p0))) + (1 : Int)) < Prod.fst p0) = true then some ([wrap64 (p1 - Prod.fst (Prod.snd p0))] ++ [wrap64 (p1 + Prod.fst (Prod.snd p0))]) else some [wrap64 (p1 - Prod.fst (Prod.snd p0))] else if decide (Int.tmod p1 (Prod.fst (Prod.snd p0)) > (0 : Int)) = true then if decide (wrap64 (Int.tmod p1 (Prod.fst (Prod.snd p0)) + (1 : Int)) < Prod.fst (Prod.snd p0)) = true then if decide (wrap64 (wrap64 (Int.tdiv p1 (Prod.fst (Prod.snd p0))) + (1 : Int)) < Prod.fst p0) = true then some ([wrap64 (p1 - (1 : Int))] ++ [wrap64 (p1 + (1 : Int))] ++ [wrap64 (p1 + Prod.fst (Prod.snd p0))]) else some ([wrap64 (p1 - (1 : Int))] ++ [wrap64 (p1 + (1 : Int))]) else if decide (wrap64 (wrap64 (Int.tdiv p1 (Prod.fst (Prod.snd p0))) + (1 : Int)) < Prod.fst p0) = true then some ([wrap64 (p1 - (1 : Int))] ++ [wrap64 (p1 + Prod.fst (Prod.snd p0))]) else some [wrap64 (p1 - (1 : Int))] else if decide (wrap64 (Int.tmod p1 (Prod.fst (Prod.snd p0)) + (1 : Int)) < Prod.fst (Prod.snd p0)) = true then if decide (wrap64 (wrap64 (Int.tdiv p1 (Prod.fst (Prod.snd p0))) + (1 : Int)) < Prod.fst p0) = true then some ([wrap64 (p1 + (1 : Int))] ++ [wrap64 (p1 + Prod.fst (Prod.snd p0))]) else some [wrap64 (p1 + (1 : Int))] else if decide (wrap64 (wrap64 (Int.tdiv p1 (Prod.fst (Prod.snd p0))) + (1 : Int)) < Prod.fst p0) = true then some [wrap64 (p1 + Prod.fst (Prod.snd p0))] else some []
noncomputable def d_spec_ggNear : FnDef := .of q_spec_ggNear r_spec_ggNear (List Int) (fun k x => f_spec_ggNear k x.1 x.2.1) to_spec_ggNear of_spec_ggNear to_of_spec_ggNear
noncomputable def c_spec_ggNear : Code := Try.f85.body.getD .skip
noncomputable def x_spec_ggNear : Ctx (Tup r_spec_ggNear × OutD) := { T := T, G := [], mvs := [], no := 0, n := 55, res := resOf T q_spec_ggNear r_spec_ggNear Try.f85.results.toList, loops := [], regs := [], conds := [] }
theorem g_spec_ggNear (k : Nat) : EnvOK Try.prog k x_spec_ggNear.G := (EnvOK.nil mixed)
theorem h_spec_ggNear (k : Nat) (x : Tup d_spec_ggNear.ps) : d_spec_ggNear.f (k + 1) x = fnK d_spec_ggNear x_spec_ggNear c_spec_ggNear k x := by kernel_rfl
theorem z_spec_ggNear (x : Tup d_spec_ggNear.ps) : d_spec_ggNear.f 0 x = none := by kernel_rfl
theorem l_spec_ggNear (k : Nat) : LOK Try.prog x_spec_ggNear k c_spec_ggNear := LOK.by [] (by kernel_rfl) AllOK.nil
theorem s_spec_ggNear (k : Nat) : SoundAt Try.prog k 85 d_spec_ggNear.E := @fn_all Try.prog d_spec_ggNear x_spec_ggNear 85 Try.f85 c_spec_ggNear (by kernel_rfl) (by kernel_rfl) (by kernel_rfl) Try.func85 (by kernel_rfl) (by kernel_rfl) (by kernel_rfl) T_ok g_spec_ggNear l_spec_ggNear z_spec_ggNear h_spec_ggNear k
/-! function 86 -/
noncomputable def r_spec_boAt : List PK := [{ t := Ty.pair (Ty.int IntKind.i64) (Ty.int IntKind.i64), agg := true }]
noncomputable def q_spec_boAt : List PK := [{ t := Ty.pair (Ty.int IntKind.i64) (Ty.pair (Ty.int IntKind.i64) (Ty.slice (75 : Nat) (Ty.pair (Ty.int IntKind.i64) (Ty.int IntKind.i64)))), agg := true }, { t := Ty.int IntKind.i64 }, { t := Ty.int IntKind.i64 }]
noncomputable def to_spec_boAt (r : Int × Int) : Tup r_spec_boAt × OutD := ((r, ()), none)
noncomputable def of_spec_boAt : Tup r_spec_boAt × OutD → Option (Int × Int)
  | (a, none) => some (a.1)
  | _ => none
theorem to_of_spec_boAt : ∀ b r, of_spec_boAt b = some r → to_spec_boAt r = b := by
  rintro ⟨a, o⟩ r h
  cases o with
  | none => injection h with h; subst h; rfl
  | some _ => cases h
noncomputable def f_spec_boAt : Nat → Int × Int × List (Int × Int) → Int → Int → Option (Int × Int)
  | 0, _, _, _ => none
  | k + 1, p0, p1, p2 =>
    if (0 : Int) ≤ wrap64 (wrap64 (p1 * Prod.fst (Prod.snd p0)) + p2) then if wrap64 (wrap64 (p1 * Prod.fst (Prod.snd p0)) + p2) < (↑(List.length (Prod.snd (Prod.snd p0))) : Int) then some (Prod.fst (List.getD (Prod.snd (Prod.snd p0)) (Int.toNat (wrap64 (wrap64 (p1 * Prod.fst (Prod.snd p0)) + p2))) ((0 : Int), (0 : Int))), Prod.snd (List.getD (Prod.snd (Prod.snd p0)) (Int.toNat (wrap64 (wrap64 (p1 * Prod.fst (Prod.snd p0)) + p2))) ((0 : Int), (0 : Int)))) else none else none
noncomputable def d_spec_boAt : FnDef := .of q_spec_boAt r_spec_boAt (Int × Int) (fun k x => f_spec_boAt k x.1 x.2.1 x.2.2.1) to_spec_boAt of_spec_boAt to_of_spec_boAt
noncomputable def c_spec_boAt : Code := Try.f86.body.getD .skip
noncomputable def x_spec_boAt : Ctx (Tup r_spec_boAt × OutD) := { T := T, G := [], mvs := [], no := 0, n := 17, res := resOf T q_spec_boAt r_spec_boAt Try.f86.results.toList, loops := [], regs := [], conds := [] }
theorem g_spec_boAt (k : Nat) : EnvOK Try.prog k x_spec_boAt.G := (EnvOK.nil mixed)
theorem h_spec_boAt (k : Nat) (x : Tup d_spec_boAt.ps) : d_spec_boAt.f (k + 1) x = fnK d_spec_boAt x_spec_boAt c_spec_boAt k x := by kernel_rfl
theorem z_spec_boAt (x : Tup d_spec_boAt.ps) : d_spec_boAt.f 0 x = none := by kernel_rfl
theorem l_spec_boAt (k : Nat) : LOK Try.prog x_spec_boAt k c_spec_boAt := LOK.by [] (by kernel_rfl) AllOK.nil
theorem s_spec_boAt (k : Nat) : SoundAt Try.prog k 86 d_spec_boAt.E := @fn_all Try.prog d_spec_boAt x_spec_boAt 86 Try.f86 c_spec_boAt (by kernel_rfl) (by kernel_rfl) (by kernel_rfl) Try.func86 (by kernel_rfl) (by kernel_rfl) (by kernel_rfl) T_ok g_spec_boAt l_spec_boAt z_spec_boAt h_spec_boAt k
/-! function 87 -/
noncomputable def r_spec_paGoes : List PK := [{ t := Ty.int IntKind.i64 }]
noncomputable def q_spec_paGoes : List PK := [{ t := Ty.pair (Ty.int IntKind.i64) (Ty.int IntKind.i64), agg := true }, { t := Ty.int IntKind.i64 }]
noncomputable def to_spec_paGoes (r : Int) : Tup r_spec_paGoes × OutD := ((r, ()), none)
noncomputable def of_spec_paGoes : Tup r_spec_paGoes × OutD → Option (Int)
  | (a, none) => some (a.1)
  | _ => none
theorem to_of_spec_paGoes : ∀ b r, of_spec_paGoes b = some r → to_spec_paGoes r = b := by
  rintro ⟨a, o⟩ r h
  cases o with
  | none => injection h with h; subst h; rfl
  | some _ => cases h
noncomputable def f_spec_paGoes : Nat → Int × Int → Int → Option Int
  | 0, _, _ => none
  | k + 1, p0, p1 =>
    if decide (Prod.fst p0 = (1 : Int)) = true then some (-1 : Int) else if decide (Prod.fst p0 = (2 : Int)) = true then some (1 : Int) else if decide (Prod.fst p0 = (3 : Int)) = true then some (wrap64 (wrap64 ((2 : Int) * Prod.snd p0) - (1 : Int))) else if decide (Prod.fst p0 = (6 : Int)) = true then some (wrap64 (wrap64 ((2 : Int) * Prod.snd p0) - (1 : Int))) else if decide (Prod.fst p0 = (4 : Int)) = true then some (wrap64 ((0 : Int) - p1)) else some (0 : Int)
noncomputable def d_spec_paGoes : FnDef := .of q_spec_paGoes r_spec_paGoes (Int) (fun k x => f_spec_paGoes k x.1 x.2.1) to_spec_paGoes of_spec_paGoes to_of_spec_paGoes
noncomputable def c_spec_paGoes : Code := Try.f87.body.getD .skip
noncomputable def x_spec_paGoes : Ctx (Tup r_spec_paGoes × OutD) := { T := T, G := [], mvs := [], no := 0, n := 22, res := resOf T q_spec_paGoes r_spec_paGoes Try.f87.results.toList, loops := [], regs := [], conds := [] }
theorem g_spec_paGoes (k : Nat) : EnvOK Try.prog k x_spec_paGoes.G := (EnvOK.nil mixed)
theorem h_spec_paGoes (k : Nat) (x : Tup d_spec_paGoes.ps) : d_spec_paGoes.f (k + 1) x = fnK d_spec_paGoes x_spec_paGoes c_spec_paGoes k x := by kernel_rfl
theorem z_spec_paGoes (x : Tup d_spec_paGoes.ps) : d_spec_paGoes.f 0 x = none := by kernel_rfl
theorem l_spec_paGoes (k : Nat) : LOK Try.prog x_spec_paGoes k c_spec_paGoes := LOK.by [] (by kernel_rfl) AllOK.nil
theorem s_spec_paGoes (k : Nat) : SoundAt Try.prog k 87 d_spec_paGoes.E := @fn_all Try.prog d_spec_paGoes x_spec_paGoes 87 Try.f87 c_spec_paGoes (by kernel_rfl) (by kernel_rfl) (by kernel_rfl) Try.func87 (by kernel_rfl) (by kernel_rfl) (by kernel_rfl) T_ok g_spec_paGoes l_spec_paGoes z_spec_paGoes h_spec_paGoes k
/-! function 89 -/
noncomputable def r_spec_paTurning : List PK := [{ t := Ty.bool }]
noncomputable def q_spec_paTurning : List PK := [{ t := Ty.pair (Ty.int IntKind.i64) (Ty.int IntKind.i64), agg := true }]
noncomputable def to_spec_paTurning (r : Bool) : Tup r_spec_paTurning × OutD := ((r, ()), none)
noncomputable def of_spec_paTurning : Tup r_spec_paTurning × OutD → Option (Bool)
  | (a, none) => some (a.1)
  | _ => none
theorem to_of_spec_paTurning : ∀ b r, of_spec_paTurning b = some r → to_spec_paTurning r = b := by
  rintro ⟨a, o⟩ r h
  cases o with
  | none => injection h with h; subst h; rfl
  | some _ => cases h
noncomputable def f_spec_paTurning : Nat → Int × Int → Option Bool
  | 0, _ => none
  | k + 1, p0 =>
    if decide (Prod.fst p0 = (3 : Int)) = true then some true else some (decide (Prod.fst p0 = (6 : Int)))
noncomputable def d_spec_paTurning : FnDef := .of q_spec_paTurning r_spec_paTurning (Bool) (fun k x => f_spec_paTurning k x.1) to_spec_paTurning of_spec_paTurning to_of_spec_paTurning
noncomputable def c_spec_paTurning : Code := Try.f89.body.getD .skip
noncomputable def x_spec_paTurning : Ctx (Tup r_spec_paTurning × OutD) := { T := T, G := [], mvs := [], no := 0, n := 11, res := resOf T q_spec_paTurning r_spec_paTurning Try.f89.results.toList, loops := [], regs := [], conds := [] }
theorem g_spec_paTurning (k : Nat) : EnvOK Try.prog k x_spec_paTurning.G := (EnvOK.nil mixed)
theorem h_spec_paTurning (k : Nat) (x : Tup d_spec_paTurning.ps) : d_spec_paTurning.f (k + 1) x = fnK d_spec_paTurning x_spec_paTurning c_spec_paTurning k x := by kernel_rfl
theorem z_spec_paTurning (x : Tup d_spec_paTurning.ps) : d_spec_paTurning.f 0 x = none := by kernel_rfl
theorem l_spec_paTurning (k : Nat) : LOK Try.prog x_spec_paTurning k c_spec_paTurning := LOK.by [] (by kernel_rfl) AllOK.nil
theorem s_spec_paTurning (k : Nat) : SoundAt Try.prog k 89 d_spec_paTurning.E := @fn_all Try.prog d_spec_paTurning x_spec_paTurning 89 Try.f89 c_spec_paTurning (by kernel_rfl) (by kernel_rfl) (by kernel_rfl) Try.func89 (by kernel_rfl) (by kernel_rfl) (by kernel_rfl) T_ok g_spec_paTurning l_spec_paTurning z_spec_paTurning h_spec_paTurning k
end
end Go.Proofs.Ytjjlmnbmpgfcbaa.Vs
