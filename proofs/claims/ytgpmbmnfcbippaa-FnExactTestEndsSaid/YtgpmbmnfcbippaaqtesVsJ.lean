/- The machine's operations, on: literals of structs and slices, moves, cuts. -/
import Derived.Test.YtgpmbmnfcbippaaqtesVsI
import Derived.Great.BuildSlice
set_option linter.unusedVariables false
set_option linter.unusedSimpArgs false
namespace Go.Proofs.Ytgpmbmnfcbippaa.Vs
open Go.RowKit

section
variable {P : Program} {w w1 w0 : World} {S0 : Own} {st : St} {μ : List ORec} {a : Act} {t : TypeId} {i : TI}
variable {o : Oper} {next : Act → World → Prop} {Q : Exit → Act → World → Prop} {v : Value} {β : Type} {K : St → Option β} {r : β}

/-! ### Moves -/
theorem move_op {x : Operand} (h : Rel w0 S0 st μ a w) (ho : o.op = .move x ∨ o.op = .assign x) (hk : K (st.put o.dst (st.ev x)) = some r) : Went P o a w (Nx w0 S0 K r) := by
  refine pure_op h (v := a.eval x) ?_ (h.ev x) hk
  intro w' hw
  unfold execOp
  rcases ho with ho | ho <;> simp [ho]
theorem pick_op {c x y : Operand} {b : Bool} (h : Rel w0 S0 st μ a w) (ho : o.op = .pick c x y) (hc : st.ev c = .sv (.at (.bool b))) (hk : K (st.put o.dst (if b = true then st.ev x else st.ev y)) = some r) : Went P o a w (Nx w0 S0 K r) := by
  have hb : a.eval c = .bool b := h.at hc
  cases b with
  | true =>
    refine pure_op h (v := a.eval x) ?_ (h.ev x) hk
    intro w' hw
    unfold execOp
    simp [ho, hb, asBool]
  | false =>
    refine pure_op h (v := a.eval y) ?_ (h.ev y) hk
    intro w' hw
    unfold execOp
    simp [ho, hb, asBool]

/-! ### Literals -/
theorem fill_at (off : Nat) (v : Value) (cs : Array Value) (h : off + v.cells.size ≤ cs.size) : (v.cells.zipIdx.foldl (fun cs (c, j) => cs.setIfInBounds (off + j) c) cs).toList = setw cs.toList off v.cells.toList := by
  rw [← fill_foldl 0 v.cells.toList off cs (by simpa using h), ← Array.foldl_toList, Array.toList_zipIdx]
theorem fillParts_sound {T : TT} {fs : List (Nat × TypeId)} {place : Nat → Option (Nat × Nat)} (h : Rel w0 S0 st μ a w) (hp : ∀ i off t ti, fs[i]? = some (off, t) → T.get t = some ti → place i = some (off, ti.ty.sz)) :
    ∀ {ps : List (Nat × Operand)} {acc l : List At} {cs : Array Value}, AL μ w acc cs.toList → fillParts T fs st ps acc = some l →
      ∃ cs', Instr.fill place cs (ps.map fun p => (p.1, a.eval p.2)) = some cs' ∧ AL μ w l cs'.toList
  | [], acc, l, cs, hA, hf => by
    simp only [fillParts] at hf
    injection hf with hf
    subst hf
    exact ⟨cs, rfl, hA⟩
  | (i, x) :: ps, acc, l, cs, hA, hf => by
    simp only [fillParts] at hf
    split at hf
    · rename_i off t hfi
      split at hf
      · rename_i ti l' hti hl'
        split at hf
        · rename_i hle
          have hB := (h.ev x).cells_sound hl'
          have hsz : (a.eval x).cells.size = ti.ty.sz := by rw [← hle.1, ← hB.1, Array.length_toList]
          have hcl : cs.size = acc.length := by rw [← hA.1, Array.length_toList]
          have hA2 := AL.setw (f := off) hA hB
          rw [← fill_at off (a.eval x) cs (by rw [hsz, hcl, ← hle.1]; exact hle.2)] at hA2
          obtain ⟨cs', h1, h2⟩ := fillParts_sound h hp hA2 hf
          refine ⟨cs', ?_, h2⟩
          simp only [List.map_cons, Instr.fill, hp i off t ti hfi hti]
          rw [if_neg (by simp [hsz, hcl]; omega)]
          exact h1
        · cases hf
      · cases hf
    · cases hf
theorem mapM_places {P : Program} : ∀ {fs : List Field}, (∀ f ∈ fs, ∃ x, P.info? f.type = some x ∧ x.size ≠ 0) → ∃ places, fs.mapM (fun f => (P.info? f.type).map fun i => (f.offset, i.size)) = some places ∧
    ∀ (i : Nat) f x, fs[i]? = some f → P.info? f.type = some x → places[i]? = some (f.offset, x.size)
  | [], _ => ⟨[], rfl, fun i f x h => by simp at h⟩
  | f :: fs, h => by
    obtain ⟨x, hx, _⟩ := h f (by simp)
    obtain ⟨pl, h1, h2⟩ := mapM_places (fs := fs) (fun g hg => h g (by simp [hg]))
    refine ⟨(f.offset, x.size) :: pl, by simp [List.mapM_cons, hx, h1], fun i g y hg hy => ?_⟩
    cases i with
    | zero =>
      obtain rfl : f = g := by simpa using hg
      rw [hx] at hy
      injection hy with hy
      subst hy
      rfl
    | succ i => exact h2 i g y (by simpa using hg) hy
theorem build_arr_op {ps : Array (Nat × Operand)} {n : Nat} {e : TypeId} {ti : TI} (T : TT) (hT : TTok P T) (h : Rel w0 S0 st μ a w) (ho : o.op = .build t ps) (hi : T.get t = some i) (hif : i.d = .arr n e) (hte : T.get e = some ti)
    (hl : ps.toList = []) (hk : K (st.put o.dst (.sv (.agg (zatoms i.ty)))) = some r) : Went P o a w (Nx w0 S0 K r) := by
  have ok := hT t i hi
  have oke := hT e ti hte
  have hu : P.underlying t = some (.array n e) := by have := ok.desc; rw [hif] at this; exact this
  have hps : ps = #[] := by apply Array.ext'; rw [hl]
  subst hps
  refine pure_op h (v := .agg (zval i).cells) (x := .sv (.agg (zatoms i.ty))) (fun w' hw => ?_) ⟨(zval i).cells.toList, by simp, by rw [ok.zcell]; exact AL.zero i.ty⟩ hk
  unfold execOp
  simp only [ho, Instr.build, Sem.run_bind, run_zero ok, Result.andThen_ok, run_underlying hu, run_sizeOf oke]
  have he : (Array.map (fun x : Nat × Operand => (x.fst, a.eval x.snd)) #[]).toList = [] := by simp
  rw [he]
  rfl
theorem build_op {ps : Array (Nat × Operand)} {fs : List (Nat × TypeId)} {l : List At} (T : TT) (hT : TTok P T) (h : Rel w0 S0 st μ a w) (ho : o.op = .build t ps) (hi : T.get t = some i) (hif : i.d = .struct fs)
    (hl : fillParts T fs st ps.toList (zatoms i.ty) = some l) (hk : K (st.put o.dst (.sv (.agg l))) = some r) : Went P o a w (Nx w0 S0 K r) := by
  have ok := hT t i hi
  have hd := ok.desc
  rw [hif] at hd
  obtain ⟨d, hu, hfs⟩ := Option.bind_eq_some_iff.1 hd.1
  obtain ⟨xi, hxi, hz, hsz, hby⟩ := ok.get
  cases d with
  | struct flds =>
    simp only [fieldsOf] at hfs
    injection hfs with hfs
    obtain ⟨places, hp1, hp2⟩ := mapM_places (P := P) (fs := flds.toList) (fun f hf => by
      have := hd.2 (f.offset, f.type) (by rw [← hfs]; exact List.mem_map.2 ⟨f, hf, rfl⟩)
      exact this)
    have hplace : ∀ (j off : Nat) u ti, fs[j]? = some (off, u) → T.get u = some ti → places.toArray[j]? = some (off, ti.ty.sz) := by
      intro j off u ti hj hti
      rw [← hfs, List.getElem?_map] at hj
      obtain ⟨fd, hfd, he⟩ := Option.map_eq_some_iff.1 hj
      injection he with he1 he2
      obtain ⟨x, hx, _, hs, _⟩ := (hT u ti hti).get
      rw [List.getElem?_toArray, hp2 j fd x hfd (by rw [he2]; exact hx), hs, he1]
    have hA : AL μ w (zatoms i.ty) (zval i).cells.toList := by rw [ok.zcell]; exact AL.zero i.ty
    obtain ⟨cs', h1, h2⟩ := fillParts_sound h hplace hA hl
    have hb : P.built t (ps.map fun (i, x) => (i, a.eval x)).toList = some cs' := by
      unfold Program.built
      simp only [hxi, hu, hz, hp1]
      rw [Array.toList_map]
      exact h1
    refine pure_op h (v := .agg cs') (x := .sv (.agg l)) ?_ ⟨cs'.toList, rfl, h2⟩ hk
    intro w' hw
    unfold execOp
    simp only [ho, Sem.run_bind, run_build w' t _ cs' hb, Result.andThen_ok, Sem.run_pure]
  | _ => simp [fieldsOf] at hfs
theorem setw_take {α : Type} {l new : List α} {f n : Nat} (h : f + new.length ≤ l.length) (hn : n ≤ f) : (setw l f new).take n = l.take n := by
  apply List.ext_getElem?
  intro j
  rw [List.getElem?_take, List.getElem?_take, setw_get h]
  split
  · rw [if_pos (by omega)]
  · rfl
theorem setw_seg {α : Type} {l new : List α} {f : Nat} (h : f + new.length ≤ l.length) : ((setw l f new).drop f).take new.length = new := by
  apply List.ext_getElem?
  intro j
  rw [List.getElem?_take, List.getElem?_drop, setw_get h]
  split
  · rw [if_neg (by omega), if_pos (by omega)]; congr 1; omega
  · rw [List.getElem?_eq_none (by omega)]
open Classical in
theorem fillElems_sound {sz : Nat} {u : Ty} (hsz : u.sz = sz) : ∀ {ps : List (Nat × Operand)} {n : Nat} {st st' : St} {μ : List ORec} {cs : Array Value} {ys : List u.D}, Rel w0 S0 st μ a w → fillElems u n st ps = some (ys, st') → (n + ps.length) * sz ≤ cs.size →
    ∃ cs' μ' S, ∃ f : Nat → Nat, Instr.fill (fun i => some (i * sz, sz)) cs (ps.map fun p => (p.1, a.eval p.2)) = some cs' ∧ cs'.size = cs.size ∧ cs'.toList.take (n * sz) = cs.toList.take (n * sz) ∧ Rel w0 S0 st' μ' a w ∧ Less μ μ' ∧ Taken S0 w0 w μ' S ∧
      (∀ k, S k → ∃ (i : Nat) (r : ORec), μ[i]? = some r ∧ r.ok k) ∧ ys.length = ps.length ∧ ∀ (m : Nat) y, ys[m]? = some y → Rep u w (fun k => S k ∧ f k = n + m) y (seg cs'.toList sz (n + m))
  | [], n, st, st', μ, cs, ys, h, hf, hs => by
    simp only [fillElems] at hf
    injection hf with hf
    injection hf with h1 h2
    subst h1 h2
    exact ⟨cs, μ, fun _ => False, fun _ => 0, rfl, rfl, rfl, h, .refl μ, .none _ _ _ _, fun _ hf => hf.elim, rfl, fun m y hm => by simp at hm⟩
  | (i, x) :: ps, n, st, st', μ, cs, ys, h, hf, hs => by
    simp only [fillElems] at hf
    split at hf
    · rename_i hin
      subst hin
      split at hf
      · rename_i l hl
        split at hf
        · rename_i y st1 hy
          split at hf
          · rename_i ys' st2 hys
            injection hf with hf
            injection hf with g1 g2
            subst g1 g2
            have hB := (h.ev x).cells_sound hl
            obtain ⟨μ1, S1, h1, hl1, ht1, hi1, hr1⟩ := takeTree_sound h hB.al0 hy
            have hlen : (a.eval x).cells.toList.length = sz := by rw [← hsz]; exact hr1.len
            have hfit : i * sz + (a.eval x).cells.size ≤ cs.size := by
              rw [← Array.length_toList (xs := (a.eval x).cells), hlen]
              simp only [List.length_cons] at hs
              have : (i + 1) * sz ≤ (i + (ps.length + 1)) * sz := Nat.mul_le_mul_right _ (by omega)
              rw [Nat.succ_mul] at this
              omega
            generalize hcs1 : (a.eval x).cells.zipIdx.foldl (fun cs (c, j) => cs.setIfInBounds (i * sz + j) c) cs = cs1
            have hcl : cs1.toList = setw cs.toList (i * sz) (a.eval x).cells.toList := by rw [← hcs1]; exact fill_at _ _ _ hfit
            have hfit2 : i * sz + (a.eval x).cells.toList.length ≤ cs.toList.length := by rw [Array.length_toList, Array.length_toList]; exact hfit
            have hsize : cs1.size = cs.size := by rw [← Array.length_toList, hcl, setw_len hfit2, Array.length_toList]
            obtain ⟨cs', μ2, S2, f, e1, e2, e3, h2, hl2, ht2, hi2, hlen2, hr2⟩ := fillElems_sound hsz (cs := cs1) h1 hys (by rw [hsize]; simp only [List.length_cons] at hs; rw [show i + 1 + ps.length = i + (ps.length + 1) by omega]; exact hs)
            have hmul : (i + 1) * sz = i * sz + sz := Nat.succ_mul _ _
            refine ⟨cs', μ2, fun k => S1 k ∨ S2 k, fun k => if S1 k then i else f k, ?_, e2.trans hsize, ?_, h2, hl1.trans hl2, ⟨fun k hk => hk.elim (ht1.new k) (ht2.new k), fun k hk => hk.elim (ht1.lt k) (ht2.lt k), fun j q hq k hk => hk.elim ((ht1.less hl2).apart j q hq k) (ht2.apart j q hq k)⟩, ?_, by simp [hlen2], ?_⟩
            · simp only [List.map_cons, Instr.fill]
              rw [← Array.length_toList (xs := (a.eval x).cells), hlen, if_neg (by rw [← Array.length_toList (xs := (a.eval x).cells), hlen] at hfit; simp; omega), hcs1]
              exact e1
            · have h3 : cs'.toList.take (i * sz) = (cs'.toList.take ((i + 1) * sz)).take (i * sz) := by rw [List.take_take, Nat.min_eq_left (by omega)]
              rw [h3, e3, List.take_take, Nat.min_eq_left (by omega), hcl, setw_take hfit2 (Nat.le_refl _)]
            · intro k hk
              rcases hk with hk | hk
              · exact hi1 k hk
              · obtain ⟨j, q, hq, hqk⟩ := hi2 k hk
                obtain ⟨q0, g0, _, _, g3⟩ := hl1.at_ j q hq
                exact ⟨j, q0, g0, g3 k hqk⟩
            · intro m y' hm
              have hdis : ∀ k, S2 k → ¬ S1 k := by
                intro k hk hk1
                obtain ⟨j, q, hq, hqk⟩ := hi2 k hk
                exact ht1.apart j q hq k hk1 hqk
              cases m with
              | zero =>
                obtain rfl : y = y' := by simpa using hm
                have hseg : seg cs'.toList sz i = (a.eval x).cells.toList := by
                  unfold seg
                  have h3 : (cs'.toList.drop (i * sz)).take sz = ((cs'.toList.take ((i + 1) * sz)).drop (i * sz)).take sz := by
                    rw [List.drop_take, List.take_take, hmul]; congr 1; omega
                  rw [h3, e3, List.drop_take, List.take_take, hcl, hmul, show min sz (i * sz + sz - i * sz) = sz by omega]
                  have := setw_seg hfit2
                  rw [hlen] at this
                  exact this
                rw [Nat.add_zero, hseg]
                exact hr1.wide (fun k hk => ⟨.inl hk, by show (if S1 k then i else f k) = i; rw [if_pos hk]⟩)
              | succ m =>
                have := hr2 m y' (by simpa using hm)
                rw [show i + 1 + m = i + (m + 1) by omega] at this
                exact this.wide (fun k hk => ⟨.inr hk.1, by show (if S1 k then i else f k) = _; rw [if_neg (hdis k hk.1)]; exact hk.2⟩)
          · cases hf
        · cases hf
      · cases hf
    · cases hf
theorem build_slice_op {len : Nat} {ps : Array (Nat × Operand)} {e : TypeId} {ti : TI} {K' : St → Option β} (T : TT) (hT : TTok P T) (h : Rel w0 S0 st μ a w) (ho : o.op = .buildSlice t len ps) (hi : T.get t = some i) (hie : i.d = .slice e) (hte : T.get e = some ti)
    (hk : opBuildSlice e ti st o.dst len ps.toList K' = some r) (h0 : len ≠ 0) : o.wp P a w (Nxs w0 S0 w K' r) Q := by
  have ok := hT t i hi
  have oke := hT e ti hte
  have hu : P.underlying t = some (.slice e) := by have := ok.desc; rw [hie] at this; exact this
  obtain ⟨xi, hxi, hz, hsz, hby⟩ := oke.get
  have hpos := ti.ty.sz_pos
  unfold opBuildSlice at hk
  split at hk
  · rename_i hle
    obtain ⟨hpl, hsm⟩ := hle
    split at hk
    · rename_i ys st1 hf
      generalize hz0 : ((Array.range (len * ti.ty.sz)).map ((zval ti).cells[· % (zval ti).cells.size]!)) = z0
      have hz0s : z0.size = len * ti.ty.sz := by rw [← hz0]; simp
      obtain ⟨cs', μ1, S, f, e1, e2, _, h1, hl1, ht1, _, hyl, hr1⟩ := fillElems_sound (sz := ti.ty.sz) rfl (cs := z0) h hf (by rw [hz0s, Nat.zero_add, hpl]; exact Nat.le_refl _)
      have hne : ¬ len * ti.ty.sz = 0 := by
        intro h3
        rcases Nat.mul_eq_zero.1 h3 with h3 | h3
        · exact h0 h3
        · omega
      have hrun : (execOp a.eval o).run P w = .ok (.value (.slice (some ⟨w.heap.size, 0, none⟩) len len)) (w.alloc (.cells cs' e)) := by
        unfold execOp
        simp only [ho, Sem.run_bind, run_buildSlice (P := P) w t e len (ps.map fun (i, x) => (i, a.eval x)) cs' xi (zval ti) hu hxi hz (by rw [hsz]; omega) (by rw [hsz]; exact hne) (by rw [hsz, hz0, Array.toList_map]; exact e1), Result.andThen_ok, Sem.run_pure]
      have hlen1 : len ≤ 16777216 := Nat.le_trans (Nat.le_mul_of_pos_right _ hpos) hsm
      have hheap : (w.alloc (.cells cs' e)).heap[w.heap.size]? = some (.cells cs' e (0, 0)) := alloc_at w _
      have hrow : RowRep (Rep ti.ty) ti.ty.sz e (w.alloc (.cells cs' e)) (fun k => S k ∨ k = w.heap.size) ys (.slice (some ⟨w.heap.size, 0, none⟩) len len) := by
        have hyl2 : ys.length = len := hyl.trans hpl
        refine ⟨cs'.toList, ⟨by rw [hyl2, Array.length_toList, e2, hz0s], .inr ⟨w.heap.size, 0, len, cs', by rw [hyl2, Nat.zero_mul], hheap, by omega, by simp only [maxLen]; omega, by rw [e2, hz0s, Nat.zero_add], ?_⟩⟩, fun k hk => .inr (by simpa [Value.ownBlock] using hk.symm), f, fun j y hj => ?_⟩
        · rw [Nat.zero_mul, List.drop_zero, List.take_of_length_le (by rw [Array.length_toList, e2, hz0s, hyl2]; exact Nat.le_refl _)]
        · have := hr1 j y hj
          rw [Nat.zero_add] at this
          refine this.move (fun k hk => ⟨.inl hk.1, ?_, hk.2⟩) (fun k hk => heap_alloc_old w _ (ht1.lt k hk.1))
          have := ht1.lt k hk.1
          simp [Value.ownBlock]
          omega
      refine wp_val hrun ⟨⟨_, _, h1.pushRow (fr := true) (Tk := S) ht1.apart (fun k hk => ((ht1.new k hk).imp (S0.go k) id)) (.alloc w _ _) (fun k hk => ?_) hrow (fun _ => ht1.new) o.dst, hk⟩, .alloc w _ _⟩
      rcases hk with hk | hk
      · exact ⟨.inl hk, by have := ht1.lt k hk; rw [alloc_size]; omega⟩
      · subst hk
        exact ⟨.inr (Nat.le_refl _), by rw [alloc_size]; omega⟩
    · cases hk
  · cases hk

theorem build_slice_zero {ps : Array (Nat × Operand)} {e : TypeId} {ti : TI} {K' : St → Option β} (T : TT) (hT : TTok P T) (h : Rel w0 S0 st μ a w) (ho : o.op = .buildSlice t 0 ps) (hi : T.get t = some i) (hie : i.d = .slice e) (hte : T.get e = some ti)
    (hk : opBuildSlice e ti st o.dst 0 ps.toList K' = some r) : o.wp P a w (Nxs w0 S0 w K' r) Q := by
  have ok := hT t i hi
  have oke := hT e ti hte
  have hu : P.underlying t = some (.slice e) := by have := ok.desc; rw [hie] at this; exact this
  obtain ⟨xi, hxi, hz, hsz, hby⟩ := oke.get
  unfold opBuildSlice at hk
  split at hk
  · rename_i hle
    obtain ⟨hpl, _⟩ := hle
    have hps : ps.toList = [] := List.eq_nil_of_length_eq_zero hpl
    have hps2 : ps = #[] := by apply Array.ext'; simpa using hps
    subst hps2
    simp only [fillElems] at hk
    have hrun : (execOp a.eval o).run P w = .ok (.value (.slice (some ⟨w.heap.size, 0, none⟩) 0 0)) (w.alloc (.cells #[] e)) := by
      unfold execOp
      simp [ho, Instr.buildSlice, run_underlying hu, sizeOf, typeInfo, hxi, newRow, Instr.fill]
      congr 2
      apply Array.ext'
      simp [Array.range]
    have hheap : (w.alloc (.cells #[] e)).heap[w.heap.size]? = some (.cells #[] e (0, 0)) := alloc_at w _
    have hrow : RowRep (Rep ti.ty) ti.ty.sz e (w.alloc (.cells #[] e)) (fun k => k = w.heap.size) [] (.slice (some ⟨w.heap.size, 0, none⟩) 0 0) :=
      ⟨[], ⟨by simp, .inl ⟨rfl, _, rfl, fun ad had => by injection had with had; subst had; exact ⟨_, hheap⟩⟩⟩, fun k hk => by simpa [Value.ownBlock] using hk.symm, fun _ => 0, fun j y hj => by simp at hj⟩
    exact wp_val hrun ⟨⟨_, _, h.pushRow (fr := true) (Tk := fun _ => False) (fun _ _ _ _ hf => hf.elim) (fun _ hf => hf.elim) (.alloc w _ _) (fun k hk => by rw [hk]; exact ⟨.inr (Nat.le_refl _), by rw [alloc_size]; omega⟩) hrow (fun _ _ hf => hf.elim) o.dst, hk⟩, .alloc w _ _⟩
  · cases hk

/-! ### Cuts -/
theorem cutAt_inv {lo hi : Option TV} {n : Nat} {K : Nat → Nat → Option β} (h : cutAt lo hi n K = some r) : ∃ x y : Nat, x ≤ y ∧ y ≤ n ∧ K x y = some r ∧
    (lo = none ∧ x = 0 ∨ ∃ k, lo = some (.sv (.at (.int k x)))) ∧ (hi = none ∧ y = n ∨ ∃ k, hi = some (.sv (.at (.int k y)))) := by
  unfold cutAt at h
  simp only at h
  split at h
  · rename_i l h2 hl hh
    split at h
    · rename_i h0
      split at h
      · rename_i h1
        split at h
        · rename_i h3
          refine ⟨l.toNat, h2.toNat, by omega, by omega, h, ?_, ?_⟩
          · split at hl
            · injection hl with hl; subst hl; exact .inl ⟨rfl, rfl⟩
            · rename_i k z; injection hl with hl; subst hl; exact .inr ⟨k, by rw [Int.toNat_of_nonneg h0]⟩
            · cases hl
          · split at hh
            · injection hh with hh; subst hh; exact .inl ⟨rfl, by simp⟩
            · rename_i k z; injection hh with hh; subst hh; exact .inr ⟨k, by rw [Int.toNat_of_nonneg (by omega)]⟩
            · cases hh
        · cases h
      · cases h
    · cases h
  · cases h
theorem run_cut {e : TypeId} {ti : TI} {x : Operand} {lo hi : Option Operand} (hu : P.underlying t = some (.slice e)) (oke : TyOK P e ti) (h : Rel w0 S0 st μ a w) (ho : o.op = .slice t x lo hi none) {A : Option Addr} {n c p q : Nat} (hv : a.eval x = .slice A n c) (hnc : n ≤ c)
    (hpq : p ≤ q) (hqn : q ≤ n) (hl : lo.map st.ev = none ∧ p = 0 ∨ ∃ k, lo.map st.ev = some (.sv (.at (.int k p)))) (hh : hi.map st.ev = none ∧ q = n ∨ ∃ k, hi.map st.ev = some (.sv (.at (.int k q)))) :
    ∀ w', (isLoad o.op = true → Same w w') → (execOp a.eval o).run P w' = .ok (.value (.slice (if c = p then A else A.map (·.add (p * ti.ty.sz))) (q - p) (c - p))) w' := by
  intro w' hw
  have he : P.elem t = e := by simp [Program.elem, hu]
  have hu2 : P.underlying t = some (.slice (P.elem t)) := by rw [he]; exact hu
  have hs : (sizeOf (P.elem t)).run P w' = .ok ti.ty.sz w' := by rw [he]; exact run_sizeOf oke w'
  have hlo : lo = none ∧ p = 0 ∨ ∃ k x', lo = some x' ∧ a.eval x' = .int k p := by
    rcases hl with ⟨hl, hp⟩ | ⟨k, hl⟩
    · exact .inl ⟨by simpa using hl, hp⟩
    · obtain ⟨x', hx, hx2⟩ := Option.map_eq_some_iff.1 hl
      exact .inr ⟨k, x', hx, h.at hx2⟩
  have hhi : hi = none ∧ q = n ∨ ∃ k x', hi = some x' ∧ a.eval x' = .int k q := by
    rcases hh with ⟨hl, hp⟩ | ⟨k, hl⟩
    · exact .inl ⟨by simpa using hl, hp⟩
    · obtain ⟨x', hx, hx2⟩ := Option.map_eq_some_iff.1 hl
      exact .inr ⟨k, x', hx, h.at hx2⟩
  unfold execOp
  simp only [ho, hv, Option.map_none, Sem.run_bind]
  rcases hlo with ⟨rfl, rfl⟩ | ⟨k, x', rfl, hx'⟩ <;> rcases hhi with ⟨rfl, rfl⟩ | ⟨k2, y', rfl, hy'⟩ <;> simp only [Option.map_none, Option.map_some, *]
  · rw [run_sliceAt_slice w' t _ _ _ _ hu2, run_slice_all w' t A q c hu2, hs]; rfl
  · rw [run_sliceAt_slice w' t _ _ _ _ hu2, run_slice_h w' t A n c hu2 k2 (q : Int) (by omega) (by omega), hs]; rfl
  · rw [run_sliceAt_slice w' t _ _ _ _ hu2, run_slice_l w' t A q c hu2 k (p : Int) (by omega) (by omega), hs]; rfl
  · rw [run_sliceAt_slice w' t _ _ _ _ hu2, run_slice_lh w' t A n c hu2 k k2 (p : Int) (q : Int) (by omega) (by omega) (by omega), hs]; rfl
theorem RowRd.cut {u : Ty} {S : Nat → Prop} {xs : List u.D} {A : Option Addr} {n c p q : Nat} (h : RowRd (Rd u) u.sz w S xs (.slice A n c)) (hpq : p ≤ q) (hq : q ≤ n) : RowRd (Rd u) u.sz w S ((xs.drop p).take (q - p)) (.slice (if c = p then A else A.map (·.add (p * u.sz))) (q - p) (c - p)) := by
  obtain ⟨A', c', hv, hl, hm, hA⟩ := h
  injection hv with h1 h2 h3
  subst h1 h2 h3
  have hlen : ((xs.drop p).take (q - p)).length = q - p := by simp; omega
  refine ⟨_, c - p, by rw [hlen], by rw [hlen]; omega, by rw [hlen]; omega, fun h0 => ?_⟩
  rw [hlen] at h0
  obtain ⟨ad, rfl, hs, hel⟩ := hA (by omega)
  rw [if_neg (by omega)]
  refine ⟨ad.add (p * u.sz), rfl, by rw [add_block]; exact hs, fun j x hj => ?_⟩
  have hj2 : xs[p + j]? = some x := by
    rw [List.getElem?_take, List.getElem?_drop] at hj
    split at hj
    · exact hj
    · cases hj
  obtain ⟨cs, hcl, hcell, hrd⟩ := hel (p + j) x hj2
  exact ⟨cs, hcl, fun m v hm => by rw [add_at', show p * u.sz + (j * u.sz + m) = (p + j) * u.sz + m by rw [Nat.add_mul]; omega]; exact hcell m v hm, hrd⟩
theorem RowRep.drop {u : Ty} {e : TypeId} {S : Nat → Prop} {xs : List u.D} {A : Option Addr} {n c p : Nat} (h : RowRep (Rep u) u.sz e w S xs (.slice A n c)) (hp : p ≤ n) (hnx : n = xs.length) :
    RowRep (Rep u) u.sz e w S (xs.drop p) (.slice (if c = p then A else A.map (·.add (p * u.sz))) (n - p) (c - p)) := by
  obtain ⟨inner, hq, hb, f, hr⟩ := h
  subst hnx
  have hob : ∀ k, (Value.slice (if c = p then A else A.map (·.add (p * u.sz))) (xs.length - p) (c - p)).ownBlock = some k ↔ (Value.slice A xs.length c).ownBlock = some k := by
    intro k
    cases A with
    | none => split <;> simp [Value.ownBlock]
    | some ad => split <;> simp [Value.ownBlock, add_block]
  refine ⟨inner.drop (p * u.sz), by rw [List.length_drop]; exact q_drop hq hp, fun k hk => hb k ((hob k).1 hk), fun k => f k - p, fun j x hj => ?_⟩
  rw [List.getElem?_drop] at hj
  have h2 := hr (p + j) x hj
  have hseg : seg (inner.drop (p * u.sz)) u.sz j = seg inner u.sz (p + j) := by
    unfold seg
    rw [List.drop_drop, Nat.add_mul]
  rw [hseg]
  exact h2.wide (fun k hk => ⟨hk.1, fun he => hk.2.1 ((hob k).1 he), by show f k - p = j; rw [hk.2.2]; omega⟩)
theorem slice_op {mv : Bool} {x : Operand} {lo hi : Option Operand} {e : TypeId} {ti : TI} {K' : St → Option β} (T : TT) (hT : TTok P T) (h : Rel w0 S0 st μ a w) (ho : o.op = .slice t x lo hi none) (hi' : T.get t = some i) (hie : i.d = .slice e) (hte : T.get e = some ti)
    (hk : opSlice mv e ti st o.dst (st.ev x).atom (lo.map st.ev) (hi.map st.ev) K' = some r) : Went P o a w (Nx w0 S0 K' r) := by
  have ok := hT t i hi'
  have oke := hT e ti hte
  have hu : P.underlying t = some (.slice e) := by have := ok.desc; rw [hie] at this; exact this
  have hx := h.atom x
  unfold opSlice at hk
  split at hk
  · rename_i hxa
    rw [hxa] at hx
    obtain ⟨p, q, h1, h2, hk, hl, hh⟩ := cutAt_inv hk
    have hr := run_cut hu oke h ho (show a.eval x = .slice none 0 0 from hx) (Nat.le_refl _) h1 h2 hl hh
    obtain rfl : q = 0 := by omega
    obtain rfl : p = 0 := by omega
    exact pure_op h hr (x := .sv (.at .nils)) ⟨rfl, .inr rfl⟩ hk
  · rename_i j hxa
    rw [hxa] at hx
    split at hk
    · rename_i fr e' u xs hob
      split at hk
      · rename_i hu2
        subst hu2
        obtain ⟨p, q, h1, h2, hk3, hl, hh⟩ := cutAt_inv hk
        clear hk
        have hk := hk3
        clear hk3
        obtain ⟨rec, hrec, hv, _⟩ := hx
        have hrow : RowRep (Rep ti.ty) ti.ty.sz e' w rec.ok xs rec.v := h.ob j _ rec hob hrec
        obtain ⟨A, c, hrv, hc, _⟩ := row_val hrow
        have hr := run_cut hu oke h ho (hv.trans hrv) hc h1 h2 hl hh
        cases mv with
        | false =>
          simp only [Bool.false_eq_true, if_false] at hk
          have hrd := hrow.rd
          rw [hrv] at hrd
          exact pure_op h hr (x := .sv (.at (.snap j ti.ty ((xs.drop p).take (q - p))))) ⟨⟨rec, hrec, hrd.cut h1 h2⟩, .inr rfl⟩ hk
        | true =>
          simp only [if_true] at hk
          split at hk
          · rename_i hc2
            have hhn : hi.map st.ev = none := by simpa using hc2.1
            have hee := hc2.2
            subst hee
            have hk3 := hk
            have hq : q = xs.length := by
              rcases hh with ⟨_, hh⟩ | ⟨k, hh⟩
              · exact hh
              · rw [hhn] at hh; cases hh
            subst hq
            rw [hrv] at hrow
            have hrow2 := hrow.drop h1 rfl
            have hlen : (st.die j).objs.length = st.objs.length := by simp [St.die]
            rw [← hlen] at hk3
            refine ⟨_, hr, _, _, (h.die j).pushRow (fr := fr) (Tk := rec.ok) (R := rec.ok) (fun m q hq k hk hqk => ?_) (h.wr j _ rec hob hrec rfl) (.refl w _) (fun k hk => ⟨.inl hk, h.lt j rec hrec k hk⟩) hrow2 (fun hfr => by subst hfr; exact h.fr j _ _ _ rec hob hrec) o.dst, hk3⟩
            obtain ⟨q0, g0, _, _, g3⟩ := offAt_inv hq
            rcases g3 with ⟨_, g3⟩ | ⟨hm, rfl⟩
            · exact g3 k hqk
            · exact h.dj j m _ rec q (Ne.symm hm) hob rfl hrec g0 k hk hqk
          · cases hk
      · cases hk
    · cases hk
  · rename_i j u xs hxa
    rw [hxa] at hx
    split at hk
    · rename_i hu2
      subst hu2
      obtain ⟨p, q, h1, h2, hk, hl, hh⟩ := cutAt_inv hk
      obtain ⟨rec, hrec, hrd⟩ := hx
      obtain ⟨A, c, hv, hc, _⟩ := id hrd
      rw [hv] at hrd
      exact pure_op h (run_cut hu oke h ho hv hc h1 h2 hl hh) (x := .sv (.at (.snap j ti.ty ((xs.drop p).take (q - p))))) ⟨⟨rec, hrec, hrd.cut h1 h2⟩, .inr rfl⟩ hk
    · cases hk
  · rename_i j m hxa
    split at hk
    · rename_i fr e1 e2 u xs hob
      split at hk
      · rename_i hu2
        subst hu2
        obtain ⟨p, q, h1, h2, hk, hl, hh⟩ := cutAt_inv hk
        rw [hxa] at hx
        obtain ⟨rec, ad, n, c0, hrec, hrv, h0, hmn, hok, hcell, hsl⟩ := hx
        have hrow : RowRep (Rep (.slice e2 ti.ty)) (Ty.slice e2 ti.ty).sz e1 w rec.ok xs rec.v := h.ob j _ rec hob hrec
        have hn : n = xs.length := by
          obtain ⟨A', c', hv', _⟩ := row_val hrow
          rw [hrv] at hv'
          injection hv'
        have hj : m.toNat < xs.length := by omega
        obtain ⟨A, c', cs, hv', hs, hl2, hcell2, hrep⟩ := hrow.elem hj
        rw [hrv] at hv'
        injection hv' with ha _ _
        injection ha with ha
        subst ha
        obtain ⟨u, rfl, hrow2⟩ := hrep
        have hu3 := hcell2 0 u rfl
        simp only [Ty.sz, Nat.mul_one, Nat.add_zero] at hu3
        rw [hcell] at hu3
        injection hu3 with hu3
        subst hu3
        have hg : List.getD xs m.toNat [] = xs[m.toNat] := by simp [List.getD, List.getElem?_eq_getElem hj]
        rw [← hg] at hrow2
        have hrd := hrow2.rd
        obtain ⟨A2, c2, hv2, hc2, _⟩ := id hrd
        rw [hv2] at hrd
        exact pure_op h (run_cut hu oke h ho hv2 hc2 h1 h2 hl hh) (x := .sv (.at (.snap j ti.ty (((xs.getD m.toNat []).drop p).take (q - p))))) ⟨⟨rec, hrec, hrd.cut h1 h2⟩, .inr rfl⟩ hk
      · cases hk
    · cases hk
  · cases hk
end
end Go.Proofs.Ytgpmbmnfcbippaa.Vs
