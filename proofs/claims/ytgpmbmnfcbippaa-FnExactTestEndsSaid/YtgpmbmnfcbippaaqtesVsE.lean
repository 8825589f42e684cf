/- The machine's operations, one by one: what the abstract state says is so behind them. -/
import Derived.Test.YtgpmbmnfcbippaaqtesVsD
set_option linter.unusedVariables false
set_option linter.unusedSimpArgs false
namespace Go.Proofs.Ytgpmbmnfcbippaa.Vs
open Go.RowKit

/-! ### Types -/
def zval (i : TI) : Value := if i.isAgg then .agg (zcells i.ty).toArray else (zcells i.ty).headD undef
def fieldsOf : TypeDesc → Option (List (Nat × TypeId))
  | .struct fs => some (fs.toList.map fun f => (f.offset, f.type)) | _ => none
def scalDesc : Ty → Option TypeDesc
  | .int k => some (.int k) | .bool => some .bool | .str => some .string | _ => none
structure TyOK (P : Program) (t : TypeId) (i : TI) : Prop where
  info : (P.info? t).map (fun x => (x.zero, x.size, x.bytes)) = some (some (zval i), i.ty.sz, i.bytes)
  pos : 0 < i.bytes
  one : i.isAgg = false → i.ty.sz = 1
  desc : match i.d with
    | .scal => ∃ d, scalDesc i.ty = some d ∧ P.underlying t = some d
    | .slice e => P.underlying t = some (.slice e)
    | .arr n e => P.underlying t = some (.array n e)
    | .struct fs => (P.underlying t).bind fieldsOf = some fs ∧ ∀ p ∈ fs, ∃ x, P.info? p.2 = some x ∧ x.size ≠ 0
  eqs : i.eqs = true → ∀ (xs ys : List Int), xs.length = i.ty.sz → ys.length = i.ty.sz → ∀ (x y : Operand) (op : BinOp), op = .eql ∨ op = .neq → ∀ w : World,
    ((do eqGuard op t x y (.agg (xs.map (Value.int .i64)).toArray) (.agg (ys.map (Value.int .i64)).toArray); binOp op t (.agg (xs.map (Value.int .i64)).toArray) (.agg (ys.map (Value.int .i64)).toArray)) : Sem Value).run P w = .ok (.bool (if op = .eql then decide (xs = ys) else !decide (xs = ys))) w
def TTok (P : Program) (T : TT) : Prop := ∀ t i, T.get t = some i → TyOK P t i

section
variable {P : Program} {w w1 w0 : World} {S0 : Own} {st : St} {μ : List ORec} {a : Act} {t : TypeId} {i : TI}
theorem TyOK.get (h : TyOK P t i) : ∃ x, P.info? t = some x ∧ x.zero = some (zval i) ∧ x.size = i.ty.sz ∧ x.bytes = i.bytes := by
  obtain ⟨x, hx, he⟩ := Option.map_eq_some_iff.1 h.info
  injection he with h1 h2
  injection h2 with h2 h3
  exact ⟨x, hx, h1, h2, h3⟩
theorem TyOK.zcell (h : TyOK P t i) : (zval i).cells.toList = zcells i.ty := by
  unfold zval
  split
  · rfl
  · rename_i ha
    have h1 := h.one (by simpa using ha)
    have h2 := zcells_len i.ty
    rw [h1] at h2
    have h3 := zcells_one i.ty
    match hz : zcells i.ty, h2 with
    | [v], _ =>
      have h4 := h3 v (by rw [hz]; simp)
      show (Value.cells v).toList = [v]
      cases v <;> first | rfl | cases h4
theorem TyOK.agg (h : TyOK P t i) (w : World) : (isAgg t).run P w = .ok i.isAgg w := by
  have hd := h.desc
  unfold TI.isAgg
  unfold isAgg
  rw [Sem.run_bind]
  cases hi : i.d with
  | scal =>
    rw [hi] at hd
    obtain ⟨d, h2, h1⟩ := hd
    rw [run_underlying h1]
    cases hty : i.ty <;> rw [hty] at h2 <;> simp [scalDesc] at h2 <;> subst h2 <;> rfl
  | slice e =>
    rw [hi] at hd
    rw [run_underlying hd]
    rfl
  | arr n e =>
    rw [hi] at hd
    rw [run_underlying hd]
    rfl
  | struct fs =>
    rw [hi] at hd
    obtain ⟨d, h1, h2⟩ := Option.bind_eq_some_iff.1 hd.1
    rw [run_underlying h1]
    cases d <;> first | rfl | cases h2
theorem run_sizeOf (h : TyOK P t i) (w : World) : (sizeOf t).run P w = .ok i.ty.sz w := by
  obtain ⟨x, hx, _, hs, _⟩ := h.get
  simp [sizeOf, typeInfo, hx, hs]
theorem run_zero (h : TyOK P t i) (w : World) : (zeroValue t).run P w = .ok (zval i) w := by
  obtain ⟨x, hx, hz, _, _⟩ := h.get
  simp [zeroValue, typeInfo, hx, hz]
/-- A value of type t out of memory. -/
def packV (i : TI) (cs : List Value) : Value := if i.isAgg then .agg cs.toArray else cs.headD undef
theorem run_loadVar (h : TyOK P t i) (ad : Addr) (cs : List Value) (hl : cs.length = i.ty.sz) (hc : ∀ j v, cs[j]? = some v → w.cell? (ad.add j) = some v) : (loadVar t ad).run P w = .ok (packV i cs) w := by
  unfold loadVar packV
  rw [Sem.run_bind, h.agg]
  simp only [Result.andThen_ok]
  cases ha : i.isAgg with
  | true =>
    have := run_loadCells_list (P := P) w ad cs hc
    simp [Sem.run_bind, run_sizeOf h, ← hl, this]
  | false =>
    have h1 := h.one ha
    rw [h1] at hl
    match cs, hl with
    | [v], _ =>
      have := hc 0 v rfl
      rw [show ad.add 0 = ad from by simp [Addr.add]] at this
      simp [this]
theorem packV_tr {l : List At} {cs : List Value} (hi : i.isAgg = false → i.ty.sz = 1) (hl : l.length = i.ty.sz) (h : AL μ w l cs) : TR μ w (mkV i l) (packV i cs) := by
  unfold mkV packV
  split
  · exact ⟨cs, rfl, h⟩
  · rename_i ha
    have h1 := hi (by simpa using ha)
    rw [h1] at hl
    match l, hl with
    | [x], _ =>
      obtain ⟨v, rfl, hv⟩ := h.single
      refine ⟨hv, ?_⟩
      cases hu : x.isUn with
      | true => left; cases x <;> first | rfl | cases hu
      | false => right; exact (hv.oneCell hu).2

/-! ### Operands -/
theorem ofV1_ar (v : Value) : AR μ w (ofV1 v) v := by
  unfold ofV1
  split <;> first | rfl | trivial
theorem ofV1_sr (v : Value) : SR μ w (.at (ofV1 v)) v := by
  refine ⟨ofV1_ar v, ?_⟩
  unfold ofV1
  split <;> first | (left; rfl) | (right; rfl)
theorem ofV_tr (v : Value) : TR μ w (ofV v) v := by
  unfold ofV
  split
  · rename_i cs
    refine ⟨cs.toList, by simp, by simp, fun j x u hx hu => ?_⟩
    rw [List.getElem?_map, hu] at hx
    simp at hx
    subst hx
    exact ofV1_ar u
  · exact ofV1_sr _
theorem Rel.ev (h : Rel w0 S0 st μ a w) (x : Operand) : TR μ w (st.ev x) (a.eval x) := by
  cases x with
  | tmp t =>
    simp only [St.ev, Act.eval, List.getD]
    cases hx : st.tmps[t]? with
    | some y => exact h.tv t y hx
    | none => exact ⟨trivial, .inl rfl⟩
  | const v => exact ofV_tr v
  | global g => exact ⟨trivial, .inl rfl⟩
  | func f => exact ⟨trivial, .inl rfl⟩
theorem Rel.at (h : Rel w0 S0 st μ a w) {x : Operand} {y : At} (hx : st.ev x = .sv (.at y)) : AR μ w y (a.eval x) := by
  have := h.ev x
  rw [hx] at this
  exact this.1
theorem Rel.atom (h : Rel w0 S0 st μ a w) (x : Operand) : AR μ w (st.ev x).atom (a.eval x) := TR.atom_sound (h.ev x)

/-! ### The walk's end of an operation -/
variable {o : Oper} {next : Act → World → Prop} {Q : Exit → Act → World → Prop} {v : Value} {β : Type} {K : St → Option β} {r : β}
theorem wp_val (h : (execOp a.eval o).run P w = .ok (.value v) w1) (hn : next (a.put o.dst v) w1) : o.wp P a w next Q := by
  unfold Oper.wp
  rw [h]
  exact hn
theorem wp_none (h : (execOp a.eval o).run P w = .ok .skip w1) (hn : next (a.put o.dst undef) w1) : o.wp P a w next Q := by
  unfold Oper.wp
  rw [h]
  exact hn
/-- What the machine promises of what comes behind. -/
def Nx (w0 : World) (S0 : Own) (K : St → Option β) (r : β) (a' : Act) (w' : World) : Prop := ∃ st' μ', Rel w0 S0 st' μ' a' w' ∧ K st' = some r
/-- An operation that leaves the world alone. -/
def Same (w w1 : World) : Prop := Chg w w1 (fun _ => False)
theorem Same.refl (w : World) : Same w w := Chg.refl w _
theorem cell_same (h : Same w w1) {ad : Addr} {v : Value} (hc : w.cell? ad = some v) : w1.cell? ad = some v := by
  refine cell_keep (h.block _ ?_ (fun hf => hf)) hc
  unfold World.cell? at hc
  rcases Nat.lt_or_ge ad.block w.heap.size with hl | hl
  · exact hl
  · rw [Array.getElem?_eq_none hl] at hc; cases hc
/-- It looks into memory. -/
def isLoad : Op → Bool
  | .load _ _ => true | _ => false
/-- The operation yields one value in every world; where it looks into memory: in every world in which what was there is as it was. -/
def Went (P : Program) (o : Oper) (a : Act) (w : World) (next : Act → World → Prop) : Prop := ∃ v, (∀ w', (isLoad o.op = true → Same w w') → (execOp a.eval o).run P w' = .ok (.value v) w') ∧ next (a.put o.dst v) w
theorem Went.wp (h : Went P o a w next) : o.wp P a w next Q := by
  obtain ⟨v, h1, h2⟩ := h
  exact wp_val (h1 w (fun _ => .refl w)) h2
theorem pure_op (h : Rel w0 S0 st μ a w) {x : TV} (hr : ∀ w', (isLoad o.op = true → Same w w') → (execOp a.eval o).run P w' = .ok (.value v) w') (hx : TR μ w x v) (hk : K (st.put o.dst x) = some r) : Went P o a w (Nx w0 S0 K r) :=
  ⟨_, hr, _, μ, h.put o.dst hx, hk⟩
/-- What was there stays. -/
def Nxs (w0 : World) (S0 : Own) (w : World) (K : St → Option β) (r : β) (a' : Act) (w' : World) : Prop := Nx w0 S0 K r a' w' ∧ Same w w'
theorem wp_drop (h : o.wp P a w (Nxs w0 S0 w K r) Q) : o.wp P a w (Nx w0 S0 K r) Q := Oper.wp_mono (fun _ _ hn => hn.1) h
theorem Went.still (h : Went P o a w (Nx w0 S0 K r)) : o.wp P a w (Nxs w0 S0 w K r) Q := by
  obtain ⟨v, h1, h2⟩ := h
  exact wp_val (h1 w (fun _ => .refl w)) ⟨h2, .refl w⟩
/-- A new object in fresh memory. -/
theorem Rel.fresh (h : Rel w0 S0 st μ a w) (hc : Chg w w1 (fun _ => False)) {o : Ob} {q : ORec} (hk : ∀ k, q.ok k → w.heap.size ≤ k ∧ k < w1.heap.size) (ho : OR (μ ++ [q]) w1 o q) : Rel w0 S0 (st.push o) (μ ++ [q]) a w1 := by
  have h1 := h.world hc (fun _ _ _ _ _ hf => hf) (fun _ hf => hf.elim)
  have hs := h.kp.size
  refine h1.push ho (fun _ j rj hj k hk1 hk2 => ?_) (fun j oj rj _ _ hj k hk1 hk2 => ?_) (fun _ k hk1 => .inr ?_) (fun _ _ _ _ k hk1 => ?_) (fun k hk1 => (hk k hk1).2)
  · have := (hk k hk1).1; have := h.lt j rj hj k hk2; omega
  · have := (hk k hk2).1; have := h.lt j rj hj k hk1; omega
  · have := (hk k hk1).1; omega
  · have := (hk k hk1).1; omega
theorem Rel.mk1 {o' : Ob} {q : ORec} (h : Rel w0 S0 (st.push o') (μ ++ [q]) a w) (dst : Option Tmp) {x : At} (hx : AR (μ ++ [q]) w x v) (hv : v.cells = #[v]) : Rel w0 S0 (st.mk1 dst o' x) (μ ++ [q]) (a.put dst v) w :=
  h.put dst (x := .sv (.at x)) ⟨hx, .inr hv⟩
theorem last_rec (μ : List ORec) (q : ORec) : (μ ++ [q])[μ.length]? = some q := by simp
theorem alloc_at (w : World) (o : Obj) : (w.alloc o).heap[w.heap.size]? = some o := by show (w.heap.push o)[w.heap.size]? = some o; simp
theorem alloc_size (w : World) (o : Obj) : (w.alloc o).heap.size = w.heap.size + 1 := by show (w.heap.push o).size = _; simp

/-! ### alloc, box -/
theorem box_rel (h : Rel w0 S0 st μ a w) {e : TypeId} {l : List At} {vs : List Value} (hl : AL μ w l vs) (h1 : ∀ u ∈ vs, u.oneCell' = true) :
    Rel w0 S0 (st.push (.box e l)) (μ ++ [⟨undef, w.heap.size, fun k => k = w.heap.size⟩]) a (w.alloc (.cells vs.toArray e)) := by
  refine h.fresh (.alloc w _ _) (fun k hk => by rw [show k = _ from hk, alloc_size]; exact ⟨Nat.le_refl _, Nat.lt_succ_self _⟩) ⟨rfl, vs, by rw [alloc_at], ?_, h1⟩
  have hA : ∀ x v, AR μ w x v → AR μ (w.alloc (.cells vs.toArray e)) x v := fun x v hx => hx.move (fun i r _ hr k hk => (Chg.alloc w _ (fun _ => False)).block k (h.lt i r hr k hk) (fun hf => hf))
  exact hl.imp id (by simp) (fun x v _ hx => (hA x v hx).more (fun i q hq => by rw [List.getElem?_append_left (List.getElem?_eq_some_iff.1 hq).1]; exact hq))
theorem alloc_op {dst : Option Tmp} (T : TT) (hT : TTok P T) (h : Rel w0 S0 st μ a w) (ho : o.op = .alloc t) (hi : T.get t = some i) (hd : o.dst = dst) (hk : K (st.mk1 dst (.box t (zatoms i.ty)) (.ptr st.objs.length 0)) = some r) : o.wp P a w (Nxs w0 S0 w K r) Q := by
  have ok := hT t i hi
  have hrun : (execOp a.eval o).run P w = .ok (.value (.pointer (some ⟨w.heap.size, 0, none⟩))) (w.alloc (.cells (zcells i.ty).toArray t)) := by
    have hz : (zval i).cells = (zcells i.ty).toArray := by rw [← ok.zcell]
    unfold execOp
    simp only [ho, Instr.alloc, Sem.run_bind, run_zero ok, Result.andThen_ok, newVar, newRow, run_newObj, Sem.run_pure, hz]
    rfl
  subst hd
  refine wp_val hrun ⟨⟨_, _, (box_rel h (AL.zero i.ty) (zcells_one i.ty)).mk1 o.dst (x := .ptr st.objs.length 0) ?_ rfl, hk⟩, .alloc w _ _⟩
  rw [← h.len]
  exact ⟨_, last_rec _ _, rfl⟩
theorem box_op {x : Operand} {l : List At} (h : Rel w0 S0 st μ a w) (ho : o.op = .box t x) (hl : (st.ev x).cells = some l) (hu : l.all (fun y => !y.isUn) = true) (hk : K (st.mk1 o.dst (.box t l) (.ptr st.objs.length 0)) = some r) : o.wp P a w (Nxs w0 S0 w K r) Q := by
  have hA := TR.cells_sound (h.ev x) hl
  have hrun : (execOp a.eval o).run P w = .ok (.value (.pointer (some ⟨w.heap.size, 0, none⟩))) (w.alloc (.cells ((a.eval x).cells.toList).toArray t)) := by
    unfold execOp
    simp only [ho, Instr.box, Sem.run_bind, Result.andThen_ok, newVar, newRow, run_newObj, Sem.run_pure, Array.toArray_toList]
    rfl
  have h1 : ∀ u ∈ (a.eval x).cells.toList, u.oneCell' = true := by
    intro u hu2
    obtain ⟨j, hj⟩ := List.getElem?_of_mem hu2
    have hjl : j < l.length := by rw [← hA.1]; exact (List.getElem?_eq_some_iff.1 hj).1
    have hx := hA.2 j l[j] u (List.getElem?_eq_getElem hjl) hj
    refine (hx.oneCell ?_).1
    have := List.all_eq_true.1 hu l[j] (List.getElem_mem hjl)
    simpa using this
  refine wp_val hrun ⟨⟨_, _, (box_rel h hA h1).mk1 o.dst (x := .ptr st.objs.length 0) ?_ rfl, hk⟩, .alloc w _ _⟩
  rw [← h.len]
  exact ⟨_, last_rec _ _, rfl⟩

/-! ### load -/
theorem intsOf_map {k : IntKind} : ∀ {l : List At} {ns : List Int}, intsOf k l = some ns → l = ns.map (At.int k)
  | [], ns, h => by injection h with h; subst h; rfl
  | x :: l, ns, h => by
    simp only [intsOf] at h
    split at h
    · split at h
      · rename_i hk
        split at h
        · rename_i ns' hns
          injection h with h
          subst h hk
          rw [intsOf_map hns]
          rfl
        · cases h
      · cases h
    · cases h
theorem dynInt_inv {i : TI} {cells : List At} {k : IntKind} {ns : List Int} (h : dynInt i cells = some (k, ns)) : i.ty = .int k ∧ i.isAgg = false ∧ cells = ns.map (At.int k) := by
  unfold dynInt at h
  split at h
  · rename_i k' hty
    split at h
    · rename_i hc
      split at h
      · rename_i ns' hns
        injection h with h
        injection h with h1 h2
        subst h1 h2
        exact ⟨hty, hc.2, intsOf_map hns⟩
      · cases h
    · cases h
  · cases h
theorem cellsFrom_eq (k : IntKind) (ns : List Int) : ∀ (r pre : List Int), ns.length = (pre ++ r).length → cellsFrom k ns pre.length r = (ns.drop pre.length).map (At.int k)
  | [], pre, h => by
    rw [List.append_nil] at h
    rw [List.drop_of_length_le (by omega)]
    rfl
  | x :: r, pre, h => by
    have h1 : pre.length < ns.length := by rw [h]; simp
    have ih := cellsFrom_eq k ns r (pre ++ [x]) (by simpa using h)
    simp only [List.length_append, List.length_cons, List.length_nil, Nat.zero_add] at ih
    simp only [cellsFrom]
    rw [ih, List.drop_eq_getElem_cons h1, List.map_cons]
    congr 1
    simp only [List.getD, List.getElem?_eq_getElem h1, Option.getD_some]
theorem setCells_inv {β : Type} {i : TI} {cells : List At} {f : Nat} {l : List At} {K : List At → Option β} {r : β} (h : setCells i cells f l K = some r) : f + l.length ≤ cells.length ∧ K (At.setw cells f l) = some r := by
  unfold setCells at h
  split at h
  · rename_i k ns hd
    obtain ⟨_, _, rfl⟩ := dynInt_inv hd
    split at h
    · rename_i k' m
      split at h
      · rename_i hk
        subst hk
        split at h
        · rename_i hf
          refine ⟨by simp; omega, ?_⟩
          have hc := cellsFrom_eq k' (List.set ns f m) ns [] (by simp)
          simp only [List.length_nil, List.drop_zero] at hc
          rw [hc] at h
          have he : At.setw (ns.map (At.int k')) f [.int k' m] = (List.set ns f m).map (At.int k') := by
            unfold At.setw
            rw [List.set_eq_take_append_cons_drop, if_pos hf]
            simp [List.map_take, List.map_drop]
          rw [he]
          exact h
        · cases h
      · cases h
    · cases h
  · split at h
    · rename_i hle
      exact ⟨hle, h⟩
    · cases h
theorem load_op {p : Operand} {K : TV → Option β} {K' : St → Option β} (T : TT) (hT : TTok P T) (h : Rel w0 S0 st μ a w) (ho : o.op = .load t p) (hi : T.get t = some i) (hk : opLoad i st (st.ev p).atom K = some r) (hK : ∀ x, K x = some r → K' (st.put o.dst x) = some r) : Went P o a w (Nx w0 S0 K' r) := by
  have ok := hT t i hi
  have ha := h.atom p
  have fin : ∀ (ad : Addr) (cs : List Value) (l : List At), a.eval p = .pointer (some ad) → l.length = i.ty.sz → AL μ w l cs → (∀ j v, cs[j]? = some v → w.cell? (ad.add j) = some v) → K (mkV i l) = some r → Went P o a w (Nx w0 S0 K' r) := by
    intro ad cs l hp hl hA hc hk
    have hrun : ∀ w', (isLoad o.op = true → Same w w') → (execOp a.eval o).run P w' = .ok (.value (packV i cs)) w' := by
      intro w' hw0
      have hw := hw0 (by rw [ho]; rfl)
      unfold execOp
      simp only [ho, hp, Instr.loadAt, Instr.sureAddr, Sem.run_bind, Sem.run_pure, Result.andThen_ok, run_loadVar ok ad cs (by rw [hA.1, hl]) (fun j v hj => cell_same hw (hc j v hj))]
    exact pure_op h hrun (packV_tr ok.one hl hA) (hK _ hk)
  cases hx : (st.ev p).atom with
  | ptr j f =>
    rw [hx] at hk ha
    simp only [opLoad] at hk
    split at hk
    · rename_i e cells hob
      split at hk
      · rename_i kk ns hdyn
        obtain ⟨hty, hag, rfl⟩ := dynInt_inv hdyn
        split at hk
        · rename_i hf
          obtain ⟨q, hq, hp⟩ := ha
          obtain ⟨_, vs, hb, hA, _⟩ := h.ob j _ q hob hq
          have hsz : i.ty.sz = 1 := by rw [hty]; rfl
          have hm : mkV i ((((ns.map (At.int kk)).drop f).take 1)) = .sv (.at (.int kk (List.getD ns f 0))) := by
            unfold mkV
            rw [hag, List.drop_eq_getElem_cons (by simpa using hf)]
            simp [List.getD, List.getElem?_eq_getElem hf]
          refine fin ⟨q.blk, f, none⟩ ((vs.drop f).take 1) (((ns.map (At.int kk)).drop f).take 1) hp (by simp; omega) ((hA.drop f).take _) (fun m v hm => ?_) (by rw [hm]; exact hk)
          rw [List.getElem?_take] at hm
          split at hm
          · rw [List.getElem?_drop] at hm
            rw [add_at, cell_at hb]
            simpa using hm
          · cases hm
        · cases hk
      split at hk
      · rename_i hle
        obtain ⟨q, hq, hp⟩ := ha
        obtain ⟨_, vs, hb, hA, _⟩ := h.ob j _ q hob hq
        refine fin ⟨q.blk, f, none⟩ ((vs.drop f).take i.ty.sz) _ hp (by simp; omega) ((hA.drop f).take _) (fun m v hm => ?_) hk
        rw [List.getElem?_take] at hm
        split at hm
        · rw [List.getElem?_drop] at hm
          rw [add_at, cell_at hb]
          simpa using hm
        · cases hm
      · cases hk
    · cases hk
  | ep j u q f =>
    rw [hx] at hk ha
    simp only [opLoad] at hk
    split at hk
    · rename_i fr e t' xs hob
      split at hk
      · rename_i ht
        subst ht
        obtain ⟨rec, ad, n, c, hrec, hv, h0, h1, hp⟩ := ha
        have hrow : RowRep (Rep t') t'.sz e w rec.ok xs rec.v := h.ob j _ rec hob hrec
        have hn : n = xs.length := by
          obtain ⟨inner, hqr, _⟩ := hrow
          obtain ⟨A', c', hv', _⟩ := q_slice hqr
          rw [hv] at hv'
          injection hv'
        have hj : q.toNat < xs.length := by omega
        obtain ⟨A, c', cs, hv', hs, hl, hcell, hrep⟩ := hrow.elem hj
        rw [hv] at hv'
        injection hv' with ha2 _ _
        injection ha2 with ha2
        subst ha2
        have hg : List.getD xs q.toNat t'.zero = xs[q.toNat] := by simp [List.getD, List.getElem?_eq_getElem hj]
        have gen : ∀ (hle : f + i.ty.sz ≤ t'.sz), K (mkV i (((atomsOf j t' (xs.getD q.toNat t'.zero)).drop f).take i.ty.sz)) = some r → Went P o a w (Nx w0 S0 K' r) := by
          intro hle hk
          rw [hg] at hk
          have hA := AL.of_rd hrec hrep.rd
          refine fin _ ((cs.drop f).take i.ty.sz) _ hp (by simp [← hA.1]; omega) ((hA.drop f).take _) (fun m v hm => ?_) hk
          rw [List.getElem?_take] at hm
          split at hm
          · rw [List.getElem?_drop] at hm
            have := hcell _ v hm
            rw [add_at', Nat.add_assoc]
            exact this
          · cases hm
        cases t' with
        | slice e2 t2 =>
          simp only at hk
          split at hk
          · rename_i hf
            obtain ⟨rfl, hag⟩ := hf
            obtain ⟨u, rfl, hrow2⟩ := hrep
            have hc0 := hcell 0 u rfl
            simp only [Ty.sz, Nat.mul_one, Nat.add_zero] at hc0 hp
            have hrun : ∀ w', (isLoad o.op = true → Same w w') → (execOp a.eval o).run P w' = .ok (.value u) w' := by
              intro w' hw0
              have hw := hw0 (by rw [ho]; rfl)
              have hcs : ∀ j v, [u][j]? = some v → w'.cell? ((ad.add q.toNat).add j) = some v := by
                intro j v hjv
                cases j with
                | zero => simp at hjv; subst hjv; rw [add_at']; exact cell_same hw hc0
                | succ j => simp at hjv
              have h2 := run_loadVar ok (ad.add q.toNat) [u] (by rw [ok.one hag]; rfl) hcs
              unfold execOp
              simp only [ho, hp, Instr.loadAt, Instr.sureAddr, Sem.run_bind, Sem.run_pure, Result.andThen_ok, h2]
              simp [packV, hag]
            obtain ⟨inner, hqr, _⟩ := hrow2
            obtain ⟨A2, c2, hv2, _⟩ := q_slice hqr
            exact pure_op h hrun (x := .sv (.at (.inn j q))) ⟨⟨rec, ad, n, c, hrec, hv, h0, h1, hs, hc0, A2, _, c2, hv2⟩, .inr (by rw [hv2]; rfl)⟩ (hK _ hk)
          · cases hk
        | int k => simp only at hk; split at hk; · rename_i hle; exact gen hle hk
                   · cases hk
        | bool => simp only at hk; split at hk; · rename_i hle; exact gen hle hk
                  · cases hk
        | str => simp only at hk; split at hk; · rename_i hle; exact gen hle hk
                 · cases hk
        | pair u1 u2 => simp only at hk; split at hk; · rename_i hle; exact gen hle hk
                        · cases hk
      · cases hk
    · cases hk
  | es j u x f =>
    rw [hx] at hk ha
    simp only [opLoad] at hk
    split at hk
    · rename_i hle
      obtain ⟨rec, ad, cs, hrec, hok, hp, hl, hcell, hrd⟩ := ha
      have hA := AL.of_rd hrec hrd
      refine fin _ ((cs.drop f).take i.ty.sz) _ hp (by simp [← hA.1]; omega) ((hA.drop f).take _) (fun m v hm => ?_) hk
      rw [List.getElem?_take] at hm
      split at hm
      · rw [List.getElem?_drop] at hm
        rw [add_at']
        exact hcell _ v hm
      · cases hm
    · cases hk
  | _ => rw [hx] at hk; simp [opLoad] at hk
end
end Go.Proofs.Ytgpmbmnfcbippaa.Vs
