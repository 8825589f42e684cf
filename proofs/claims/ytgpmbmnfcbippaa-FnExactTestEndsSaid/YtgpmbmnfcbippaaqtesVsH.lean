/- The machine's operations, on: rows made, appended to, cut. -/
import Derived.Test.YtgpmbmnfcbippaaqtesVsG
set_option linter.unusedVariables false
set_option linter.unusedSimpArgs false
namespace Go.Proofs.Ytgpmbmnfcbippaa.Vs
open Go.RowKit

section
variable {P : Program} {w w1 w0 : World} {S0 : Own} {st : St} {μ : List ORec} {a : Act} {t : TypeId} {i : TI}
variable {o : Oper} {next : Act → World → Prop} {Q : Exit → Act → World → Prop} {v : Value} {β : Type} {K : St → Option β} {r : β}

/-- A new row: Tk: what it took over; R: what it holds. -/
theorem Rel.pushRow (h : Rel w0 S0 st μ a w) {Tk R : Nat → Prop} {fr : Bool} {e : TypeId} {u : Ty} {xs : List u.D} (hA : ∀ (j : Nat) q, μ[j]? = some q → ∀ k, Tk k → ¬ q.ok k) (hS : ∀ k, Tk k → S0 k ∨ w0.heap.size ≤ k) (hc : Chg w w1 Tk)
    (hR : ∀ k, R k → (Tk k ∨ w.heap.size ≤ k) ∧ k < w1.heap.size) (hrow : RowRep (Rep u) u.sz e w1 R xs v) (hf : fr = true → ∀ k, Tk k → S0.gv k ∨ w0.heap.size ≤ k) (dst : Option Tmp) :
    Rel w0 S0 (st.mk1 dst (.row fr e u xs) (.sl st.objs.length)) (μ ++ [⟨v, 0, R⟩]) (a.put dst v) w1 := by
  have h1 := h.world hc (fun j q hq k hk ht => hA j q hq k ht hk) hS
  have hs := h.kp.size
  obtain ⟨A, c, hv, _⟩ := row_val hrow
  have h2 : Rel w0 S0 (st.push (.row fr e u xs)) (μ ++ [⟨v, 0, R⟩]) a w1 := by
    refine h1.push (o := .row fr e u xs) hrow (fun _ j q hq k hk1 hk2 => ?_) (fun j oj q _ _ hq k hk1 hk2 => ?_) (fun _ k hk => ?_) (fun e t xs he k hk => ?_) (fun k hk => (hR k hk).2)
    · rcases (hR k hk1).1 with h3 | h3
      · exact hA j q hq k h3 hk2
      · have := h.lt j q hq k hk2; omega
    · rcases (hR k hk2).1 with h3 | h3
      · exact hA j q hq k h3 hk1
      · have := h.lt j q hq k hk1; omega
    · rcases (hR k hk).1 with h3 | h3
      · exact hS k h3
      · right; omega
    · have hfr : fr = true := by cases he; rfl
      rcases (hR k hk).1 with h3 | h3
      · exact hf hfr k h3
      · omega
  refine h2.put dst (x := .sv (.at (.sl st.objs.length))) ⟨⟨⟨v, 0, R⟩, ?_, rfl, A, _, c, hv⟩, .inr (by rw [hv]; rfl)⟩
  rw [← h.len]
  exact last_rec _ _

/-! ### make -/
def opMake (e : TypeId) (ti : TI) (st : St) (dst : Option Tmp) (n : Int) (K : St → Option β) : Option β :=
  if 0 ≤ n then if n.toNat * ti.bytes ≤ 281474976710656 then K (st.mk1 dst (.row true e ti.ty (List.replicate n.toNat ti.ty.zero)) (.sl st.objs.length)) else none else none
theorem seg_made {sz n j : Nat} {z : Array Value} (hz : z.size = sz) (hsz : 0 < sz) (hj : j < n) : seg (madeCells z (n * sz)).toList sz j = z.toList := by
  apply List.ext_getElem?
  intro q
  have h1 : (j + 1) * sz ≤ n * sz := Nat.mul_le_mul_right _ hj
  rw [Nat.succ_mul] at h1
  simp only [seg, List.getElem?_take, List.getElem?_drop]
  by_cases hq : q < sz
  · rw [if_pos hq]
    have : j * sz + q < n * sz := by omega
    have hm : (j * sz + q) % sz = q := by rw [Nat.mul_comm, Nat.mul_add_mod]; exact Nat.mod_eq_of_lt hq
    simp [madeCells, this, hz, hm, hq]
  · rw [if_neg hq, List.getElem?_eq_none (by simp [hz]; omega)]
theorem make_op {x y : Operand} {e : TypeId} {ti : TI} {k : IntKind} {n : Int} {K' : St → Option β} (T : TT) (hT : TTok P T) (h : Rel w0 S0 st μ a w) (ho : o.op = .makeSlice t x x) (hi : T.get t = some i) (hie : i.d = .slice e) (hte : T.get e = some ti)
    (hn : st.ev x = .sv (.at (.int k n))) (hk : opMake e ti st o.dst n K' = some r) : o.wp P a w (Nxs w0 S0 w K' r) Q := by
  have ok := hT t i hi
  have oke := hT e ti hte
  have hu : P.underlying t = some (.slice e) := by have := ok.desc; rw [hie] at this; exact this
  have hx : a.eval x = .int k n := h.at hn
  unfold opMake at hk
  split at hk
  · rename_i h0
    split at hk
    · rename_i hb
      obtain ⟨xi, hxi, hz, hsz, hby⟩ := oke.get
      have hpos := oke.pos
      have hn63 : n.toNat ≤ maxLen := by
        have : n.toNat ≤ n.toNat * ti.bytes := Nat.le_mul_of_pos_right _ hpos
        simp only [maxLen]; omega
      have hnn : ((n.toNat : Nat) : Int) = n := Int.toNat_of_nonneg h0
      have hcz : n.toNat * ti.ty.sz ≤ 16777216 ∨ True := .inr trivial
      obtain ⟨w', hr, hown, hg⟩ := run_make_full (P := P) w 0 t e xi (zval ti) ti.ty.sz hu hxi hz hsz k k n.toNat (by rw [hby, Nat.mul_comm]; exact hb) hn63 (Nat.zero_le _)
      rw [hnn] at hr
      have hq := q_of_own hown
      have hzs : (zval ti).cells.size = ti.ty.sz := by rw [← Array.length_toList, oke.zcell, zcells_len]
      have hlt := q_lt hq w.heap.size rfl
      have hrow : RowRep (Rep ti.ty) ti.ty.sz e w' (fun k => k = w.heap.size) (List.replicate n.toNat ti.ty.zero) (.slice (some ⟨w.heap.size, 0, none⟩) n.toNat n.toNat) := by
        refine ⟨_, by rw [List.length_replicate]; exact hq, fun k hk => by simpa [Value.ownBlock] using hk.symm, fun _ => 0, fun j y hj => ?_⟩
        have hjl : j < n.toNat := by have := (List.getElem?_eq_some_iff.1 hj).1; simpa using this
        rw [List.getElem?_replicate, if_pos hjl] at hj
        injection hj with hj
        subst hj
        rw [seg_made hzs ti.ty.sz_pos hjl, oke.zcell]
        exact (Rep.zero ti.ty w').wide (fun _ hf => hf.elim)
      have hrun : (execOp a.eval o).run P w = .ok (.value (.slice (some ⟨w.heap.size, 0, none⟩) n.toNat n.toNat)) w' := by
        unfold execOp
        simp only [ho, hx]
        rw [Sem.run_bind, hr]
        rfl
      exact wp_val hrun ⟨⟨_, _, h.pushRow (fr := true) (Tk := fun _ => False) (fun _ _ _ _ hf => hf.elim) (fun _ hf => hf.elim) (.of_grown hg (fun k hk => by cases hk)) (fun k hk => by rw [hk]; exact ⟨.inr (Nat.le_refl _), hlt⟩) hrow (fun _ _ hf => hf.elim) o.dst, hk⟩, .of_grown hg (fun k hk => by cases hk)⟩
    · cases hk
  · cases hk

/-! ### append -/
theorem flat_rep : ∀ {u : Ty} {x : u.D} {S : Nat → Prop} {cs : List Value}, u.flat = true → Rd u w S x cs → Rep u w (fun _ => False) x cs
  | .int _, _, _, _, _, h => h
  | .bool, _, _, _, _, h => h
  | .str, _, _, _, _, h => h
  | .pair p q, _, _, _, hf, h => by
    simp only [Ty.flat, Bool.and_eq_true] at hf
    obtain ⟨c0, c1, rfl, h0, h1⟩ := h
    exact ⟨c0, c1, _, _, rfl, flat_rep hf.1 h0, flat_rep hf.2 h1, fun _ hf => hf.elim, fun _ hf => hf.elim⟩
  | .slice _ _, _, _, _, hf, _ => by cases hf
open Classical in
theorem append_core {e ty : TypeId} {ti : TI} (hu : P.underlying t = some (.slice e)) (oke : TyOK P e ti) {S Sy : Nat → Prop} {xs ys : List ti.ty.D} {vx : Value} (hx : RowRep (Rep ti.ty) ti.ty.sz e w S xs vx) (hSl : ∀ k, S k → k < w.heap.size)
    {ad : Addr} {c : Nat} {news : List Value} {fy : Nat → Nat} (hne : 0 < ys.length) (hnl : news.length = ys.length * ti.ty.sz) (hnc : ∀ j u, news[j]? = some u → w.cell? (ad.add j) = some u)
    (hny : ∀ m y, ys[m]? = some y → Rep ti.ty w (fun k => Sy k ∧ fy k = m) y (seg news ti.ty.sz m)) (hd : ∀ k, Sy k → ¬ S k) (hSyl : ∀ k, Sy k → k < w.heap.size) (hl : xs.length + ys.length ≤ lim ti.bytes) :
    ∃ v1 w1, (Builtin.append_ #[t, t] ty #[vx, .slice (some ad) ys.length c]).run P w = .ok v1 w1 ∧ w.grownBy w1 vx.ownBlock ∧ (∀ k, vx.ownBlock = some k → S k) ∧
      RowRep (Rep ti.ty) ti.ty.sz e w1 (fun k => (S k ∨ Sy k ∨ w.heap.size ≤ k) ∧ k < w1.heap.size) (xs ++ ys) v1 ∧ RowRep (Rep ti.ty) ti.ty.sz e w1 S xs vx := by
  obtain ⟨inner, hq, hb, f, hr⟩ := hx
  obtain ⟨xi, hxi, hz, hsz, hby⟩ := oke.get
  have hzs : (zval ti).cells.size = ti.ty.sz := by rw [← Array.length_toList, oke.zcell, zcells_len]
  have hpos := oke.pos
  have hbytes : (xs.length + ys.length) * ti.bytes ≤ 140737488355328 := Nat.le_trans (Nat.mul_le_mul_right _ hl) (Nat.div_mul_le_self _ _)
  have h63 : xs.length + ys.length ≤ maxLen := by
    have : xs.length + ys.length ≤ (xs.length + ys.length) * ti.bytes := Nat.le_mul_of_pos_right _ hpos
    simp only [maxLen]; omega
  have h1n : ∀ u ∈ news, u.oneCell' = true := by
    intro u hu2
    obtain ⟨j, hj⟩ := List.getElem?_of_mem hu2
    have hjl := (List.getElem?_eq_some_iff.1 hj).1
    have hp := ti.ty.sz_pos
    have hm : j / ti.ty.sz < ys.length := by rw [Nat.div_lt_iff_lt_mul hp]; omega
    have h2 := (hny (j / ti.ty.sz) _ (List.getElem?_eq_getElem hm)).one
    refine h2 u (List.mem_of_getElem? (i := j % ti.ty.sz) ?_)
    simp only [seg, List.getElem?_take, List.getElem?_drop]
    rw [if_pos (Nat.mod_lt _ hp), Nat.mul_comm, Nat.div_add_mod]
    exact hj
  obtain ⟨v1, w1, hrun, hq1, hg, hat, hqo⟩ := q_append (P := P) w t ty e xi (zval ti) ti.ty.sz ti.bytes hu hxi hz hsz hby hzs ti.ty.sz_pos vx xs.length inner hq ad ys.length c news hnl hnc h1n hne h63 hbytes
  refine ⟨v1, w1, hrun, hg, hb, ?_, inner, hqo, hb, f, fun j x hj => (hr j x hj).bound.move (fun k hk => hk.1) (fun k hk => hg.block k hk.2 (fun he => hk.1.2.1 he.symm))⟩
  refine ⟨inner ++ news, by rw [List.length_append]; exact hq1, fun k hk => ⟨?_, q_lt hq1 k hk⟩, fun k => if Sy k then xs.length + fy k else f k, fun j x hj => ?_⟩
  · rcases hat with hat | ⟨b, hat, hbb⟩
    · exact .inl (hb k (by rw [← hat]; exact hk))
    · rw [hat] at hk; injection hk with hk; exact .inr (.inr (by omega))
  · have hgs := hg.size
    rw [List.getElem?_append] at hj
    split at hj
    · rename_i hjl
      have h2 := (hr j x hj).bound
      have hseg : seg (inner ++ news) ti.ty.sz j = seg inner ti.ty.sz j := by
        have h3 : (j + 1) * ti.ty.sz ≤ xs.length * ti.ty.sz := Nat.mul_le_mul_right _ hjl
        rw [Nat.succ_mul, ← hq.1] at h3
        unfold seg
        rw [List.drop_append_of_le_length (by omega), List.take_append_of_le_length (by rw [List.length_drop]; omega)]
      rw [hseg]
      refine h2.move (fun k hk => ⟨⟨.inl hk.1.1, by have := hk.2; omega⟩, fun he => ?_, ?_⟩) (fun k hk => hg.block k hk.2 (fun he => hk.1.2.1 he.symm))
      · rcases hat with hat | ⟨b, hat, hbb⟩
        · exact hk.1.2.1 (by rw [← hat]; exact he)
        · rw [hat] at he; injection he with he; have := hk.2; omega
      · show (if Sy k then xs.length + fy k else f k) = j
        rw [if_neg (fun h4 => hd k h4 hk.1.1)]; exact hk.1.2.2
    · rename_i hjl
      have hjm : j - xs.length < ys.length := (List.getElem?_eq_some_iff.1 hj).1
      have h2 := (hny _ x hj).bound
      have hseg : seg (inner ++ news) ti.ty.sz j = seg news ti.ty.sz (j - xs.length) := by
        unfold seg
        have h3 : j * ti.ty.sz = inner.length + (j - xs.length) * ti.ty.sz := by rw [hq.1, ← Nat.add_mul]; congr 1; omega
        rw [h3, List.drop_append, List.drop_of_length_le (by omega), List.nil_append]
        congr 2
        omega
      rw [hseg]
      refine h2.move (fun k hk => ⟨⟨.inr (.inl hk.1.1), by have := hk.2; omega⟩, fun he => ?_, ?_⟩) (fun k hk => hg.block k hk.2 (fun he => hd k hk.1.1 (hb k he.symm)))
      · rcases hat with hat | ⟨b, hat, hbb⟩
        · exact hd k hk.1.1 (hb k (by rw [← hat]; exact he))
        · rw [hat] at he; injection he with he; have := hk.2; omega
      · show (if Sy k then xs.length + fy k else f k) = j
        rw [if_pos hk.1.1, hk.1.2]; omega
theorem append_nothing {e ty : TypeId} {ti : TI} (hu : P.underlying t = some (.slice e)) (oke : TyOK P e ti) {A B : Option Addr} {n c d : Nat} (hc : n ≤ c) :
    (Builtin.append_ #[t, t] ty #[.slice A n c, .slice B 0 d]).run P w = .ok (.slice A n c) w := by
  obtain ⟨xi, hxi, hz, hsz, hby⟩ := oke.get
  cases A <;> cases B <;> simp [Builtin.append_, run_underlying hu, sizeOf, typeInfo, hxi, Builtin.lenOf, Builtin.firstCells, loadCells, loadCellsFrom, hc, storeCells]
end
end Go.Proofs.Ytgpmbmnfcbippaa.Vs
