/- The machine's operations, on: stores, arithmetic, rows. -/
import Derived.Test.YtgpmbmnfcbippaaqtesVsE
set_option linter.unusedVariables false
set_option linter.unusedSimpArgs false
namespace Go.Proofs.Ytgpmbmnfcbippaa.Vs
open Go.RowKit

section
variable {P : Program} {w w1 w0 : World} {S0 : Own} {st : St} {μ : List ORec} {a : Act} {t : TypeId} {i : TI}
variable {o : Oper} {next : Act → World → Prop} {Q : Exit → Act → World → Prop} {v : Value} {β : Type} {K : St → Option β} {r : β}

/-! ### Cells overwritten -/
def setw {α : Type} (l : List α) (f : Nat) (new : List α) : List α := l.take f ++ new ++ l.drop (f + new.length)
theorem setw_len {α : Type} {l new : List α} {f : Nat} (h : f + new.length ≤ l.length) : (setw l f new).length = l.length := by simp [setw]; omega
theorem setw_get {α : Type} {l new : List α} {f : Nat} (h : f + new.length ≤ l.length) (j : Nat) : (setw l f new)[j]? = if j < f then l[j]? else if j < f + new.length then new[j - f]? else l[j]? := by
  unfold setw
  rw [List.append_assoc, List.getElem?_append, List.length_take, Nat.min_eq_left (by omega)]
  split
  · rename_i hj
    rw [List.getElem?_take, if_pos hj]
  · rename_i hj
    rw [List.getElem?_append]
    split
    · rename_i hj2
      rw [if_pos (by omega)]
    · rename_i hj2
      rw [if_neg (by omega), List.getElem?_drop]
      congr 1
      omega
theorem setRun_eq : ∀ (vs cs : List Value) (f : Nat), f + vs.length ≤ cs.length → setRun cs f vs = setw cs f vs
  | [], cs, f, h => by simp [setRun, setw]
  | v :: vs, cs, f, h => by
    simp only [List.length_cons] at h
    show setRun (cs.set f v) (f + 1) vs = _
    rw [setRun_eq vs (cs.set f v) (f + 1) (by simp; omega)]
    apply List.ext_getElem?
    intro j
    rw [setw_get (by simp; omega), setw_get (by simp; omega)]
    simp only [List.length_cons, List.getElem?_set]
    by_cases h1 : j < f
    · rw [if_pos (by omega), if_pos h1, if_neg (by omega)]
    · rw [if_neg h1]
      by_cases h2 : j = f
      · subst h2
        rw [if_pos (by omega), if_pos rfl, if_pos (by omega), if_pos (by omega), Nat.sub_self]
        rfl
      · rw [if_neg (by omega)]
        by_cases h3 : j < f + 1 + vs.length
        · rw [if_pos h3, if_pos (by omega), show j - f = (j - (f + 1)) + 1 by omega, List.getElem?_cons_succ]
        · rw [if_neg h3, if_neg (by omega), if_neg (by omega)]
theorem AL.setw {l l' : List At} {vs vs' : List Value} {f : Nat} (h : AL μ w l vs) (h' : AL μ w l' vs') : AL μ w (At.setw l f l') (Vs.setw vs f vs') := by
  unfold At.setw Vs.setw
  rw [h'.1]
  exact ((h.take f).append h').append (h.drop _)
/-- A run of cells stored. -/
theorem run_storeVar (ok : TyOK P t i) {g f : Nat} {e : TypeId} {cur : Array Value} (hb : w.heap[g]? = some (.cells cur e (0, 0))) (u : Value) (hl : u.cells.toList.length = i.ty.sz) (hf : f + u.cells.toList.length ≤ cur.size) (h1 : ∀ v ∈ u.cells.toList, v.oneCell' = true) :
    (storeVar t ⟨g, f, none⟩ u).run P w = .ok () (w.setRow g (Vs.setw cur.toList f u.cells.toList).toArray) := by
  unfold storeVar
  rw [Sem.run_bind, run_sizeOf ok]
  simp only [Result.andThen_ok]
  have hs : u.cells.size = i.ty.sz := by rw [← hl]; simp
  have := run_storeCells_at (P := P) g f e u.cells.toList 0 cur w hb (by simpa using hf) h1
  simp only [Nat.add_zero] at this
  simp [hs, this, setw]
theorem Chg.setRow (w : World) (g : Nat) (cs : Array Value) {T : Nat → Prop} (hT : T g) : Chg w (w.setRow g cs) T :=
  ⟨rfl, rfl, rfl, by simp, fun k _ hn => setRow_other w g k cs (fun he => hn (by rw [he]; exact hT))⟩
theorem all_one {l : List At} {vs : List Value} (hA : AL μ w l vs) (hu : l.all (fun y => !y.isUn) = true) : ∀ u ∈ vs, u.oneCell' = true := by
  intro u hu2
  obtain ⟨j, hj⟩ := List.getElem?_of_mem hu2
  have hjl : j < l.length := by rw [← hA.1]; exact (List.getElem?_eq_some_iff.1 hj).1
  have hx := hA.2 j l[j] u (List.getElem?_eq_getElem hjl) hj
  refine (hx.oneCell ?_).1
  have := List.all_eq_true.1 hu l[j] (List.getElem_mem hjl)
  simpa using this
/-- An element of a row of one's own with some cells turned. -/
theorem RowRep.store {u : Ty} {e : TypeId} {S : Nat → Prop} {xs : List u.D} {vr : Value} (h : RowRep (Rep u) u.sz e w S xs vr) {j : Nat} (hj : j < xs.length) {f : Nat} {new : List Value} {y : u.D} (hf : f + new.length ≤ u.sz)
    (hn : ∀ T cs, Rep u w T xs[j] cs → Rep u w T y (Vs.setw cs f new)) :
    ∃ g cap off cur, vr = .slice (some ⟨g, off * u.sz, none⟩) xs.length cap ∧ w.heap[g]? = some (.cells cur e (0, 0)) ∧ S g ∧ off * u.sz + (j * u.sz + f) + new.length ≤ cur.size ∧
      RowRep (Rep u) u.sz e (w.setRow g (Vs.setw cur.toList (off * u.sz + (j * u.sz + f)) new).toArray) S (xs.set j y) vr := by
  obtain ⟨inner, hq, hb, ff, hr⟩ := h
  have hlen := hq.1
  rcases hq.2 with ⟨h0, _⟩ | ⟨g, off, cap, cur, hv, hh, hnc, hcm, hcs, ht⟩
  · omega
  have hjs : (j + 1) * u.sz ≤ xs.length * u.sz := Nat.mul_le_mul_right _ hj
  rw [Nat.succ_mul] at hjs
  have hcap : off * u.sz + xs.length * u.sz ≤ cur.size := by rw [hcs, ← Nat.add_mul]; exact Nat.mul_le_mul_right _ (by omega)
  have hfit : off * u.sz + (j * u.sz + f) + new.length ≤ cur.size := by omega
  have hfit2 : (j * u.sz + f) + new.length ≤ inner.length := by omega
  refine ⟨g, cap, off, cur, hv, hh, hb g (by rw [hv]; rfl), hfit, Vs.setw inner (j * u.sz + f) new, ?_, hb, ff, ?_⟩
  · refine ⟨by rw [setw_len hfit2, List.length_set, hlen], .inr ⟨g, off, cap, _, by rw [List.length_set]; exact hv, setRow_heap w g cur _ e _ hh, by rw [List.length_set]; exact hnc, hcm, ?_, ?_⟩⟩
    · rw [List.size_toArray, setw_len (by simpa using hfit), Array.length_toList, hcs]
    · apply List.ext_getElem?
      intro m
      rw [List.length_set, List.getElem?_take, setw_get hfit2]
      have hin : ∀ m, m < xs.length * u.sz → inner[m]? = cur.toList[off * u.sz + m]? := by
        intro m hm
        rw [← ht, List.getElem?_take, if_pos hm, List.getElem?_drop]
      split
      · rename_i hm
        rw [List.getElem?_drop, List.toList_toArray, setw_get (by simpa using hfit)]
        by_cases h1 : m < j * u.sz + f
        · rw [if_pos h1, if_pos (by omega), hin m hm]
        · rw [if_neg h1, if_neg (by omega)]
          by_cases h2 : m < j * u.sz + f + new.length
          · rw [if_pos h2, if_pos (by omega)]
            congr 1
            omega
          · rw [if_neg h2, if_neg (by omega), hin m hm]
      · rename_i hm
        rw [if_neg (by omega), if_neg (by omega), List.getElem?_eq_none (by omega)]
  · intro m x hm
    rw [List.getElem?_set] at hm
    have hvg : vr.ownBlock = some g := by rw [hv]; rfl
    have hkeep : ∀ k, (S k ∧ vr.ownBlock ≠ some k ∧ ff k = m) → (w.setRow g (Vs.setw cur.toList (off * u.sz + (j * u.sz + f)) new).toArray).heap[k]? = w.heap[k]? := by
      intro k hk
      exact setRow_other w g k _ (fun he => hk.2.1 (by rw [hvg, he]))
    by_cases hmj : j = m
    · subst hmj
      rw [if_pos rfl, if_pos hj] at hm
      injection hm with hm
      subst hm
      have h2 := hn _ _ (hr j xs[j] (List.getElem?_eq_getElem hj))
      have hseg : seg (Vs.setw inner (j * u.sz + f) new) u.sz j = Vs.setw (seg inner u.sz j) f new := by
        have hsl : (seg inner u.sz j).length = u.sz := seg_len hlen hj
        apply List.ext_getElem?
        intro q
        rw [setw_get (by rw [hsl]; exact hf)]
        simp only [seg, List.getElem?_take, List.getElem?_drop]
        rw [setw_get hfit2]
        by_cases hq1 : q < u.sz
        · simp only [if_pos hq1]
          by_cases h3 : q < f
          · rw [if_pos (by omega), if_pos h3]
          · rw [if_neg (by omega), if_neg h3]
            by_cases h4 : q < f + new.length
            · rw [if_pos (by omega), if_pos h4]
              congr 1
              omega
            · rw [if_neg (by omega), if_neg h4]
        · simp only [if_neg hq1]
          rw [if_neg (by omega), if_neg (by omega)]
      rw [hseg]
      exact h2.move (fun _ hk => hk) hkeep
    · rw [if_neg hmj] at hm
      have hml : m < xs.length := (List.getElem?_eq_some_iff.1 hm).1
      have hms : (m + 1) * u.sz ≤ xs.length * u.sz := Nat.mul_le_mul_right _ hml
      rw [Nat.succ_mul] at hms
      have hseg : seg (Vs.setw inner (j * u.sz + f) new) u.sz m = seg inner u.sz m := by
        apply List.ext_getElem?
        intro q
        simp only [seg, List.getElem?_take, List.getElem?_drop]
        rw [setw_get hfit2]
        by_cases hq1 : q < u.sz
        · simp only [if_pos hq1]
          rcases Nat.lt_or_gt_of_ne hmj with h5 | h5
          · have : (j + 1) * u.sz ≤ m * u.sz := Nat.mul_le_mul_right _ h5
            rw [Nat.succ_mul] at this
            rw [if_neg (by omega), if_neg (by omega)]
          · have : (m + 1) * u.sz ≤ j * u.sz := Nat.mul_le_mul_right _ h5
            rw [Nat.succ_mul] at this
            rw [if_pos (by omega)]
        · simp only [if_neg hq1]
      rw [hseg]
      exact (hr m x hm).move (fun _ hk => hk) hkeep

open Classical in
/-- An element of a row of one's own laid anew, with what it leads to. -/
theorem RowRep.store3 {u : Ty} {e : TypeId} {S Sy : Nat → Prop} {xs : List u.D} {vr : Value} {inner : List Value} {ff : Nat → Nat} (hq : QRow w e u.sz vr xs.length inner) (hb : ∀ k, vr.ownBlock = some k → S k)
    (hr : ∀ j x, xs[j]? = some x → Rep u w (fun k => S k ∧ vr.ownBlock ≠ some k ∧ ff k = j) x (seg inner u.sz j)) {j : Nat} (hj : j < xs.length) {new : List Value} {y : u.D} (hnl : new.length = u.sz)
    (hn : Rep u w Sy y new) (hd : ∀ k, Sy k → ¬ S k ∨ (vr.ownBlock ≠ some k ∧ ff k = j)) :
    ∃ g cap off cur, vr = .slice (some ⟨g, off * u.sz, none⟩) xs.length cap ∧ w.heap[g]? = some (.cells cur e (0, 0)) ∧ S g ∧ off * u.sz + (j * u.sz + 0) + new.length ≤ cur.size ∧
      RowRep (Rep u) u.sz e (w.setRow g (Vs.setw cur.toList (off * u.sz + (j * u.sz + 0)) new).toArray) (fun k => S k ∨ Sy k) (xs.set j y) vr := by
  have hf : 0 + new.length ≤ u.sz := by omega
  have hlen := hq.1
  rcases hq.2 with ⟨h0, _⟩ | ⟨g, off, cap, cur, hv, hh, hnc, hcm, hcs, ht⟩
  · omega
  have hjs : (j + 1) * u.sz ≤ xs.length * u.sz := Nat.mul_le_mul_right _ hj
  rw [Nat.succ_mul] at hjs
  have hcap : off * u.sz + xs.length * u.sz ≤ cur.size := by rw [hcs, ← Nat.add_mul]; exact Nat.mul_le_mul_right _ (by omega)
  have hfit : off * u.sz + (j * u.sz + 0) + new.length ≤ cur.size := by omega
  have hfit2 : (j * u.sz + 0) + new.length ≤ inner.length := by omega
  refine ⟨g, cap, off, cur, hv, hh, hb g (by rw [hv]; rfl), hfit, Vs.setw inner (j * u.sz + 0) new, ?_, fun k hk => .inl (hb k hk), fun k => if Sy k then j else ff k, ?_⟩
  · refine ⟨by rw [setw_len hfit2, List.length_set, hlen], .inr ⟨g, off, cap, _, by rw [List.length_set]; exact hv, setRow_heap w g cur _ e _ hh, by rw [List.length_set]; exact hnc, hcm, ?_, ?_⟩⟩
    · rw [List.size_toArray, setw_len (by simpa using hfit), Array.length_toList, hcs]
    · apply List.ext_getElem?
      intro m
      rw [List.length_set, List.getElem?_take, setw_get hfit2]
      have hin : ∀ m, m < xs.length * u.sz → inner[m]? = cur.toList[off * u.sz + m]? := by
        intro m hm
        rw [← ht, List.getElem?_take, if_pos hm, List.getElem?_drop]
      split
      · rename_i hm
        rw [List.getElem?_drop, List.toList_toArray, setw_get (by simpa using hfit)]
        by_cases h1 : m < j * u.sz + 0
        · rw [if_pos h1, if_pos (by omega), hin m hm]
        · rw [if_neg h1, if_neg (by omega)]
          by_cases h2 : m < j * u.sz + 0 + new.length
          · rw [if_pos h2, if_pos (by omega)]
            congr 1
            omega
          · rw [if_neg h2, if_neg (by omega), hin m hm]
      · rename_i hm
        rw [if_neg (by omega), if_neg (by omega), List.getElem?_eq_none (by omega)]
  · intro m x hm
    rw [List.getElem?_set] at hm
    have hvg : vr.ownBlock = some g := by rw [hv]; rfl
    have hkeep : ∀ k, (S k ∧ vr.ownBlock ≠ some k ∧ ff k = m) → (w.setRow g (Vs.setw cur.toList (off * u.sz + (j * u.sz + 0)) new).toArray).heap[k]? = w.heap[k]? := by
      intro k hk
      exact setRow_other w g k _ (fun he => hk.2.1 (by rw [hvg, he]))
    by_cases hmj : j = m
    · subst hmj
      rw [if_pos rfl, if_pos hj] at hm
      injection hm with hm
      subst hm
      have hseg : seg (Vs.setw inner (j * u.sz + 0) new) u.sz j = new := by
        apply List.ext_getElem?
        intro q
        simp only [seg, List.getElem?_take, List.getElem?_drop]
        rw [setw_get hfit2]
        by_cases hq1 : q < u.sz
        · simp only [if_pos hq1]
          rw [if_neg (by omega), if_pos (by omega)]
          congr 1
          omega
        · simp only [if_neg hq1]
          rw [List.getElem?_eq_none (by omega)]
      rw [hseg]
      refine hn.move (fun k hk => ⟨.inr hk, fun he => ?_, if_pos hk⟩) (fun k hk => setRow_other w g k _ (fun he => ?_))
      · rcases hd _ hk with h1 | h1
        · exact h1 (hb _ he)
        · exact h1.1 he
      · subst he
        rcases hd _ hk with h1 | h1
        · exact h1 (hb _ hvg)
        · exact h1.1 hvg
    · rw [if_neg hmj] at hm
      have hml : m < xs.length := (List.getElem?_eq_some_iff.1 hm).1
      have hms : (m + 1) * u.sz ≤ xs.length * u.sz := Nat.mul_le_mul_right _ hml
      rw [Nat.succ_mul] at hms
      have hseg : seg (Vs.setw inner (j * u.sz + 0) new) u.sz m = seg inner u.sz m := by
        apply List.ext_getElem?
        intro q
        simp only [seg, List.getElem?_take, List.getElem?_drop]
        rw [setw_get hfit2]
        by_cases hq1 : q < u.sz
        · simp only [if_pos hq1]
          rcases Nat.lt_or_gt_of_ne hmj with h5 | h5
          · have : (j + 1) * u.sz ≤ m * u.sz := Nat.mul_le_mul_right _ h5
            rw [Nat.succ_mul] at this
            rw [if_neg (by omega), if_neg (by omega)]
          · have : (m + 1) * u.sz ≤ j * u.sz := Nat.mul_le_mul_right _ h5
            rw [Nat.succ_mul] at this
            rw [if_pos (by omega)]
        · simp only [if_neg hq1]
      rw [hseg]
      exact (hr m x hm).move (fun k hk => ⟨.inl hk.1, hk.2.1, (if_neg (fun hs => (hd k hs).elim (fun h1 => h1 hk.1) (fun h1 => hmj (h1.2.symm.trans hk.2.2)))).trans hk.2.2⟩) hkeep

/-- The same, the row's parts not told. -/
theorem RowRep.store2 {u : Ty} {e : TypeId} {S Sy : Nat → Prop} {xs : List u.D} {vr : Value} (h : RowRep (Rep u) u.sz e w S xs vr) {j : Nat} (hj : j < xs.length) {new : List Value} {y : u.D} (hnl : new.length = u.sz)
    (hn : Rep u w Sy y new) (hd : ∀ k, Sy k → ¬ S k) :
    ∃ g cap off cur, vr = .slice (some ⟨g, off * u.sz, none⟩) xs.length cap ∧ w.heap[g]? = some (.cells cur e (0, 0)) ∧ S g ∧ off * u.sz + (j * u.sz + 0) + new.length ≤ cur.size ∧
      RowRep (Rep u) u.sz e (w.setRow g (Vs.setw cur.toList (off * u.sz + (j * u.sz + 0)) new).toArray) (fun k => S k ∨ Sy k) (xs.set j y) vr := by
  obtain ⟨inner, hq, hb, ff, hr⟩ := h
  exact RowRep.store3 hq hb hr hj hnl hn (fun k hk => .inl (hd k hk))

/-! ### store -/
theorem store_op {p x : Operand} {K : St → Option β} {K' : St → Option β} (T : TT) (hT : TTok P T) (h : Rel w0 S0 st μ a w) (ho : o.op = .store t p x) (hd : o.dst = none) (hi : T.get t = some i) (hk : opStore i st (st.ev p).atom (st.ev x) K = some r) (hK : ∀ x, K x = some r → K' x = some r) : o.wp P a w (Nx w0 S0 K' r) Q := by
  have ok := hT t i hi
  have ha := h.atom p
  unfold opStore at hk
  split at hk
  · rename_i l hl
    split at hk
    · rename_i hlu
      obtain ⟨hll, hu⟩ := hlu
      have hA := TR.cells_sound (h.ev x) hl
      have h1 := all_one hA hu
      have hul : (a.eval x).cells.toList.length = i.ty.sz := by rw [hA.1, hll]
      have fin : ∀ {g f : Nat} {e : TypeId} {cur : Array Value}, a.eval p = .pointer (some ⟨g, f, none⟩) → w.heap[g]? = some (.cells cur e (0, 0)) → f + (a.eval x).cells.toList.length ≤ cur.size →
          ∀ st', Rel w0 S0 st' μ a (w.setRow g (Vs.setw cur.toList f (a.eval x).cells.toList).toArray) → K st' = some r → o.wp P a w (Nx w0 S0 K' r) Q := by
        intro g f e cur hp hb hf st' hR hk
        have hrun : (execOp a.eval o).run P w = .ok .skip (w.setRow g (Vs.setw cur.toList f (a.eval x).cells.toList).toArray) := by
          unfold execOp
          simp only [ho, hp, Instr.storeAt, Instr.sureAddr, Sem.run_bind, Sem.run_pure, Result.andThen_ok, run_storeVar ok hb (a.eval x) hul hf h1]
        refine wp_none hrun ⟨st', μ, ?_, hK _ hk⟩
        rw [hd]
        exact hR
      cases hx : (st.ev p).atom with
      | ptr j f =>
        rw [hx] at hk ha
        simp only at hk
        split at hk
        · rename_i e cells hob
          obtain ⟨hle, hk⟩ := setCells_inv hk
          · obtain ⟨q, hq, hp⟩ := ha
            obtain ⟨hok, vs, hb, hAv, h1v⟩ := h.ob j _ q hob hq
            have hcl : f + (a.eval x).cells.toList.length ≤ vs.length := by rw [hA.1, hAv.1]; exact hle
            refine fin hp hb (by simpa using hcl) _ (h.turn (o' := .box e ((At.setw cells f l).map (At.kill j))) hob hq rfl rfl (.setRow w q.blk _ hok) ⟨hok, Vs.setw vs f (a.eval x).cells.toList, setRow_heap w q.blk _ _ e _ hb, ?_, ?_⟩ (fun e t xs he => by cases he)) hk
            · refine (hAv.setw hA).imp (At.kill j) rfl (fun y u _ hy => (hy.kill j).move (fun m rm hd hm k hk2 => setRow_other w q.blk k _ (fun he => ?_)))
              subst he
              exact h.dj j m _ q rm (Ne.symm (dep_kill hd).1) hob rfl hq hm q.blk hok hk2
            · intro u hu2
              unfold setw at hu2
              rcases List.mem_append.1 hu2 with hu2 | hu2
              · rcases List.mem_append.1 hu2 with hu2 | hu2
                · exact h1v u (List.mem_of_mem_take hu2)
                · exact h1 u hu2
              · exact h1v u (List.mem_of_mem_drop hu2)
        · cases hk
      | ep j u q f =>
        rw [hx] at hk ha
        simp only at hk
        split at hk
        · rename_i fr e t' xs hob
          split at hk
          · rename_i ht
            subst ht
            split at hk
            · rename_i y hy
              obtain ⟨rec, ad, n, c, hrec, hv, h0, hn1, hp⟩ := ha
              have hrow : RowRep (Rep t') t'.sz e w rec.ok xs rec.v := h.ob j _ rec hob hrec
              have hn : n = xs.length := by
                obtain ⟨inner, hqr, _⟩ := hrow
                obtain ⟨A', c', hv', _⟩ := q_slice hqr
                rw [hv] at hv'
                injection hv'
              have hj : q.toNat < xs.length := by omega
              have hg : List.getD xs q.toNat t'.zero = xs[q.toNat] := by simp [List.getD, List.getElem?_eq_getElem hj]
              simp only at hy
              rw [hg] at hy
              have hff : f + (a.eval x).cells.toList.length ≤ t'.sz ∨ l = [] := by
                by_cases hle : f + l.length ≤ t'.sz
                · left; rw [hA.1]; exact hle
                · exfalso
                  have : ∀ (l : List At) (z : t'.D) (f : Nat), f ≤ t'.sz ∨ True → setLeaves t' z f l ≠ none → l = [] ∨ f + l.length ≤ t'.sz := by
                    intro l
                    induction l with
                    | nil => intro z f _ _; exact .inl rfl
                    | cons c l ih =>
                      intro z f _ hne
                      simp only [setLeaves] at hne
                      split at hne
                      · rename_i z2 hz
                        have hlt : f < t'.sz := by
                          have : ∀ (t : Ty) (x : t.D) (f : Nat) (c : At), setLeaf t x f c ≠ none → f < t.sz := by
                            intro t
                            induction t with
                            | int k => intro x f c hne; cases f with
                              | zero => exact Nat.one_pos
                              | succ f => cases c <;> exact absurd rfl hne
                            | bool => intro x f c hne; cases f with
                              | zero => exact Nat.one_pos
                              | succ f => cases c <;> exact absurd rfl hne
                            | str => intro x f c hne; cases f with
                              | zero => exact Nat.one_pos
                              | succ f => cases c <;> exact absurd rfl hne
                            | slice e t ih => intro x f c hne; cases f <;> cases c <;> exact absurd rfl hne
                            | pair a b iha ihb =>
                              intro x f c hne
                              simp only [setLeaf] at hne
                              simp only [Ty.sz]
                              split at hne
                              · omega
                              · split at hne
                                · rename_i z hz
                                  have := ihb x.2 (f - a.sz) c (by rw [hz]; simp)
                                  omega
                                · exact absurd rfl hne
                          exact this t' z f c (by rw [hz]; simp)
                        rcases ih z2 (f + 1) (.inr trivial) hne with rfl | h3
                        · right; simp; omega
                        · right; simp only [List.length_cons]; omega
                      · exact absurd rfl hne
                  rcases this l _ f (.inr trivial) (by rw [hy]; simp) with rfl | h3
                  · simp at hll; have := i.ty.sz_pos; omega
                  · omega
              have hff2 : f + (a.eval x).cells.toList.length ≤ t'.sz := by
                rcases hff with h3 | rfl
                · exact h3
                · simp at hll; have := i.ty.sz_pos; omega
              obtain ⟨g, cap, off, cur, hvs, hh, hS, hfit, hrow2⟩ := hrow.store hj hff2 (y := y) (fun T cs hrep => by
                have h3 := setLeaves_sound hrep hA hy
                rwa [setRun_eq _ _ _ (by rw [hrep.len]; exact hff2)] at h3)
              have hpp : a.eval p = .pointer (some ⟨g, off * t'.sz + (q.toNat * t'.sz + f), none⟩) := by
                rw [hp]
                rw [hv] at hvs
                injection hvs with ha2 _ _
                injection ha2 with ha2
                rw [ha2, add_at]
              refine fin hpp hh hfit _ (h.turn (o' := .row fr e t' (xs.set q.toNat y)) hob hrec rfl rfl (.setRow w g _ hS) hrow2 (fun e t xs he => ?_)) hk
              cases he
              exact ⟨_, _, _, rfl⟩
            · split at hk
              · rename_i j2 q2 t2 ys2 happ
                split at hk
                · rename_i hfj
                  obtain ⟨hf0, hj2⟩ := hfj
                  subst hf0 hj2
                  split at hk
                  · rename_i hq2
                    subst hq2
                    split at hk
                    · rename_i ht2
                      subst ht2
                      obtain rfl : l = [.app j2 q2 t2 ys2] := by
                        unfold appOf at happ
                        split at happ
                        · injection happ with h1
                          injection h1 with h1 h2
                          injection h2 with h2 h3
                          subst h1 h2
                          cases h3
                          rfl
                        · cases happ
                      obtain ⟨u, hu1, hu2⟩ := hA.single
                      obtain ⟨rec, hrec, g, off, n, c, e3, cur, g1, g2, g3, g4, g5, g6, g7, g8⟩ := hu2
                      obtain ⟨rec2, ad, n2, c2, hrec2, hv, h0, hn1, hp⟩ := ha
                      rw [hrec] at hrec2
                      injection hrec2 with hrec2
                      subst hrec2
                      have hrow : RowRep (Rep t2) t2.sz e w rec.ok xs rec.v := h.ob j2 _ rec hob hrec
                      have hee : e3 = e := by
                        obtain ⟨inner, hqr, _⟩ := hrow
                        obtain ⟨cells, hc⟩ := q_typed hqr g (by rw [g1]; rfl)
                        rw [g5] at hc
                        injection hc with hc
                        injection hc
                      subst hee
                      have hpp : a.eval p = .pointer (some ⟨g, off * t2.sz + (q2.toNat * t2.sz + 0), none⟩) := by
                        rw [hp]
                        rw [hv] at g1
                        injection g1 with ha2 _ _
                        injection ha2 with ha2
                        rw [ha2, add_at]
                      have g8' : RowRep (Rep t2) t2.sz e3 (w.setRow g (Vs.setw cur.toList (off * t2.sz + (q2.toNat * t2.sz + 0)) (a.eval x).cells.toList).toArray) rec.ok ys2 rec.v := by rw [hu1]; exact g8
                      refine fin hpp g5 (by rw [hu1]; exact g6) _ (h.turn (o' := .row fr e3 t2 ys2) hob hrec rfl rfl (.setRow w g _ g4) g8' (fun e t xs he => ?_)) hk
                      cases he
                      exact ⟨_, _, _, rfl⟩
                    · cases hk
                  · cases hk
                · cases hk
              · split at hk
                · rename_i hf0
                  subst hf0
                  split at hk
                  · rename_i y st1 hy
                    split at hk
                    · rename_i fr2 e2 t2 xs2 hob1
                      split at hk
                      · rename_i ht2
                        subst ht2
                        obtain ⟨rec, ad, n, c, hrec, hv, h0, hn1, hp⟩ := ha
                        obtain ⟨μ1, Sy, h1r, hless, htk, _, hrep⟩ := takeTree_sound h hA.al0 hy
                        obtain ⟨rec1, hrec1⟩ := h1r.some_rec hob1
                        obtain ⟨r0, g0, gv, gb, _⟩ := hless.at_ j rec1 hrec1
                        rw [hrec] at g0
                        injection g0 with g0
                        subst g0
                        have hrow : RowRep (Rep t2) t2.sz e2 w rec1.ok xs2 rec1.v := h1r.ob j _ rec1 hob1 hrec1
                        have hn : n = xs2.length := by
                          obtain ⟨inner, hqr, _⟩ := hrow
                          obtain ⟨A', c', hv', _⟩ := q_slice hqr
                          rw [gv, hv] at hv'
                          injection hv'
                        have hj : q.toNat < xs2.length := by omega
                        obtain ⟨g, cap, off, cur, hvs, hh, hS, hfit, hrow2⟩ := hrow.store2 hj hrep.len hrep (htk.apart j rec1 hrec1)
                        have hpp : a.eval p = .pointer (some ⟨g, off * t2.sz + (q.toNat * t2.sz + 0), none⟩) := by
                          rw [hp]
                          rw [gv, hv] at hvs
                          injection hvs with ha2 _ _
                          injection ha2 with ha2
                          rw [ha2, add_at]
                        have hrun : (execOp a.eval o).run P w = .ok .skip (w.setRow g (Vs.setw cur.toList (off * t2.sz + (q.toNat * t2.sz + 0)) (a.eval x).cells.toList).toArray) := by
                          unfold execOp
                          simp only [ho, hpp, Instr.storeAt, Instr.sureAddr, Sem.run_bind, Sem.run_pure, Result.andThen_ok, run_storeVar ok hh (a.eval x) hul hfit h1]
                        have hs := h.kp.size
                        have hdis : ∀ (m : Nat) rm, (offAt μ1 j)[m]? = some rm → ∀ k, rm.ok k → ¬ rec1.ok k ∧ ¬ Sy k := by
                          intro m rm hm k hk2
                          obtain ⟨q0, g0, _, _, g3⟩ := offAt_inv hm
                          rcases g3 with ⟨_, g3⟩ | ⟨hmj, rfl⟩
                          · exact absurd hk2 (g3 k)
                          · exact ⟨fun hk3 => h1r.dj j m _ rec1 rm (Ne.symm hmj) hob1 rfl hrec1 g0 k hk3 hk2, fun hk3 => htk.apart m rm g0 k hk3 hk2⟩
                        have hw := (h1r.die j).world (Chg.setRow w g (Vs.setw cur.toList (off * t2.sz + (q.toNat * t2.sz + 0)) (a.eval x).cells.toList).toArray (T := rec1.ok) hS) (fun m rm hm k hk2 => (hdis m rm hm k hk2).1) (fun k hk2 => h1r.wr j _ rec1 hob1 hrec1 rfl k hk2)
                        have hir : (offAt μ1 j)[j]? = some rec1.off := by rw [offAt_same, hrec1]; rfl
                        have hlen : j < (st1.die j).objs.length := by simp [St.die]; exact (List.getElem?_eq_some_iff.1 hob1).1
                        have h2 := hw.revive (o' := .row fr2 e2 t2 (xs2.set q.toNat y)) (r' := ⟨rec1.v, rec1.blk, fun k => rec1.ok k ∨ Sy k⟩) hir rfl rfl hlen (fun _ _ _ => hrow2)
                          (fun m rm hmj hm k hk2 hk3 => by
                            rcases hk2 with hk2 | hk2
                            · exact (hdis m rm hm k hk3).1 hk2
                            · exact (hdis m rm hm k hk3).2 hk2)
                          (fun k hk2 => by
                            rcases hk2 with hk2 | hk2
                            · exact h1r.wr j _ rec1 hob1 hrec1 rfl k hk2
                            · exact ((htk.new k hk2).imp (S0.go k) id))
                          (fun e3 t3 xs3 he3 k hk2 => by
                            have hfr : fr2 = true := by cases he3; rfl
                            subst hfr
                            rcases hk2 with hk2 | hk2
                            · exact h1r.fr j _ _ _ rec1 hob1 hrec1 k hk2
                            · exact htk.new k hk2)
                          (fun k hk2 => by
                            have hsz : (w.setRow g (Vs.setw cur.toList (off * t2.sz + (q.toNat * t2.sz + 0)) (a.eval x).cells.toList).toArray).heap.size = w.heap.size := by simp [World.setRow]
                            rw [hsz]
                            rcases hk2 with hk2 | hk2
                            · exact h1r.lt j rec1 hrec1 k hk2
                            · exact htk.lt k hk2)
                        refine wp_none hrun ⟨_, (offAt μ1 j).set j ⟨rec1.v, rec1.blk, fun k => rec1.ok k ∨ Sy k⟩, ?_, hK _ hk⟩
                        rw [hd]
                        exact h2
                      · cases hk
                    · cases hk
                  · cases hk
                · cases hk
          · cases hk
        · cases hk
      | _ => rw [hx] at hk; simp at hk
    · cases hk
  · cases hk
end
end Go.Proofs.Ytgpmbmnfcbippaa.Vs
