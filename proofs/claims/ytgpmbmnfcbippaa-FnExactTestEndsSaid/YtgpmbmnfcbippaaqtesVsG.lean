/- The machine's operations, on: arithmetic, addresses, lengths. -/
import Derived.Test.YtgpmbmnfcbippaaqtesVsF
set_option linter.unusedVariables false
set_option linter.unusedSimpArgs false
namespace Go.Proofs.Ytgpmbmnfcbippaa.Vs
open Go.RowKit

section
variable {P : Program} {w w1 w0 : World} {S0 : Own} {st : St} {μ : List ORec} {a : Act} {t : TypeId} {i : TI}
variable {o : Oper} {next : Act → World → Prop} {Q : Exit → Act → World → Prop} {v : Value} {β : Type} {K : St → Option β} {r : β}

theorem wrapK_eq (k : IntKind) (n : Int) : wrapK k n = k.wrap n := by
  cases k <;> try rfl
  show wrap64 n = _
  rw [IntKind.wrap_i64]
  simp only [wrap64]
/-- A scalar's atom fits its value, and the value is one cell. -/
def Fits (x : At) (v : Value) : Prop := (∀ (μ : List ORec) (w : World), AR μ w x v) ∧ v.cells = #[v]
theorem fits_int (k : IntKind) (n : Int) : Fits (.int k n) (.int k n) := ⟨fun _ _ => rfl, rfl⟩
theorem fits_bool (b : Bool) : Fits (.bool b) (.bool b) := ⟨fun _ _ => rfl, rfl⟩
theorem fits_str (s : ByteArray) : Fits (.str s) (.string s) := ⟨fun _ _ => rfl, rfl⟩
theorem opInt_run {op : BinOp} {k : IntKind} {x y : Int} {K : At → Option β} (h : opInt op k x y K = some r) (P : Program) (t : TypeId) : ∃ z v, (∀ w, (binOp op t (.int k x) (.int k y)).run P w = .ok v w) ∧ Fits z v ∧ K z = some r := by
  cases op <;> simp only [opInt] at h <;> try (cases h; done)
  case add => exact ⟨_, _, by intro w; simp [binOp, Op.intArith]; rfl, by rw [← wrapK_eq]; exact fits_int _ _, h⟩
  case sub => exact ⟨_, _, by intro w; simp [binOp, Op.intArith]; rfl, by rw [← wrapK_eq]; exact fits_int _ _, h⟩
  case mul => exact ⟨_, _, by intro w; simp [binOp, Op.intArith]; rfl, by rw [← wrapK_eq]; exact fits_int _ _, h⟩
  case quo =>
    split at h
    · cases h
    · rename_i hy
      exact ⟨_, _, by intro w; simp [binOp, Op.intDiv, hy]; rfl, by rw [← wrapK_eq]; exact fits_int _ _, h⟩
  case rem =>
    split at h
    · cases h
    · rename_i hy
      exact ⟨_, _, by intro w; simp [binOp, Op.intDiv, hy] <;> rfl, fits_int _ _, h⟩
  case and => exact ⟨_, _, by intro w; rw [binOp_and]; rfl, fits_int _ _, h⟩
  case or => exact ⟨_, _, by intro w; rw [binOp_or]; rfl, fits_int _ _, h⟩
  case xor => exact ⟨_, _, by intro w; rw [binOp_xor]; rfl, fits_int _ _, h⟩
  case andNot => exact ⟨_, _, by intro w; rw [binOp_andNot]; rfl, fits_int _ _, h⟩
  case eql => exact ⟨_, .bool (decide (x = y)), by intro w; rw [binOp_eql]; (by_cases e : x = y <;> simp [e]), fits_bool _, h⟩
  case neq => exact ⟨_, .bool (decide (x ≠ y)), by intro w; rw [binOp_neq]; (by_cases e : x = y <;> simp [e]), fits_bool _, h⟩
  case lss => exact ⟨_, _, by intro w; rw [binOp_lss]; rfl, fits_bool _, h⟩
  case leq => exact ⟨_, _, by intro w; rw [binOp_leq]; rfl, fits_bool _, h⟩
  case gtr => exact ⟨_, _, by intro w; rw [binOp_gtr]; rfl, fits_bool _, h⟩
  case geq => exact ⟨_, _, by intro w; rw [binOp_geq]; rfl, fits_bool _, h⟩
theorem opShift_run {op : BinOp} {k k' : IntKind} {x y : Int} {K : At → Option β} (h : opShift op k x y K = some r) (P : Program) (t : TypeId) : ∃ z v, (∀ w, (binOp op t (.int k x) (.int k' y)).run P w = .ok v w) ∧ Fits z v ∧ K z = some r := by
  cases op <;> simp only [opShift] at h <;> try (cases h; done)
  case shl =>
    split at h
    · cases h
    · rename_i hy
      exact ⟨_, _, by intro w; rw [binOp_shl]; simp [Op.shift, hy]; rfl, by rw [← wrapK_eq]; exact fits_int _ _, h⟩
  case shr =>
    split at h
    · cases h
    · rename_i hy
      exact ⟨_, _, by intro w; rw [binOp_shr]; simp [Op.shift, hy] <;> rfl, fits_int _ _, h⟩
theorem eqAtoms_sound : ∀ {l l' : List At} {vs vs' : List Value} {b : Bool}, AL μ w l vs → AL μ w l' vs' → eqAtoms l l' = some b →
    ∃ xs ys : List Int, vs = xs.map (Value.int .i64) ∧ vs' = ys.map (Value.int .i64) ∧ xs.length = l.length ∧ ys.length = l.length ∧ b = decide (xs = ys)
  | [], l', vs, vs', b, h, h', he => by
    cases l' with
    | nil =>
      simp only [eqAtoms] at he
      injection he with he
      have e1 : vs = [] := List.eq_nil_of_length_eq_zero h.1
      have e2 : vs' = [] := List.eq_nil_of_length_eq_zero h'.1
      exact ⟨[], [], by simp [e1], by simp [e2], rfl, rfl, by simp [← he]⟩
    | cons c l' => simp [eqAtoms] at he
  | c :: l, l', vs, vs', b, h, h', he => by
    unfold eqAtoms at he
    split at he
    · exact absurd ‹c :: l = []› (by simp)
    · rename_i n l1 m l2 h1
      cases h1
      obtain ⟨b', hb', rfl⟩ := Option.map_eq_some_iff.1 he
      match vs, vs', h, h' with
      | [], _, h, _ => exact absurd h.1 (by simp)
      | _, [], _, h' => exact absurd h'.1 (by simp)
      | v :: vs, v' :: vs', h, h' =>
        have e1 : v = .int .i64 n := h.2 0 _ v rfl rfl
        have e2 : v' = .int .i64 m := h'.2 0 _ v' rfl rfl
        obtain ⟨xs, ys, g1, g2, g3, g4, g5⟩ := eqAtoms_sound (vs := vs) (vs' := vs') ⟨by simpa using h.1, fun j x u hx hu => h.2 (j + 1) x u hx hu⟩ ⟨by simpa using h'.1, fun j x u hx hu => h'.2 (j + 1) x u hx hu⟩ hb'
        refine ⟨n :: xs, m :: ys, by simp [e1, g1], by simp [e2, g2], by simp [g3], by simp [g4], ?_⟩
        rw [g5]
        by_cases q1 : n = m <;> by_cases q2 : xs = ys <;> simp [q1, q2]
    · cases he
theorem bin_op {op : BinOp} {x y : Operand} {yt : TypeId} {K : At → Option β} {K' : St → Option β} (T : TT) (hT : TTok P T) (h : Rel w0 S0 st μ a w) (ho : o.op = .binOp op t x y yt) (hk : opBin T op t (st.ev x) (st.ev y) K = some r) (hK : ∀ x, K x = some r → K' (st.put o.dst (.sv (.at x))) = some r) : Went P o a w (Nx w0 S0 K' r) := by
  have fin : ∀ {z : At} {v : Value}, (∀ w', ((do eqGuard op t x y (a.eval x) (a.eval y); binOp op t (a.eval x) (a.eval y)) : Sem Value).run P w' = .ok v w') → Fits z v → K z = some r → Went P o a w (Nx w0 S0 K' r) := by
    intro z v hr hf hk
    have hrun : ∀ w', (isLoad o.op = true → Same w w') → (execOp a.eval o).run P w' = .ok (.value v) w' := by
      intro w' hw
      unfold execOp
      simp only [ho]
      rw [Sem.run_bind, hr w']
      rfl
    exact pure_op h hrun (x := .sv (.at z)) ⟨hf.1 _ _, .inr hf.2⟩ (hK _ hk)
  have hx := h.ev x
  have hy := h.ev y
  unfold opBin at hk
  split at hk
  · rename_i k m k' n ex ey
    rw [ex] at hx; rw [ey] at hy
    have e1 : a.eval x = .int k m := hx.1
    have e2 : a.eval y = .int k' n := hy.1
    rw [e1, e2] at fin
    split at hk
    · obtain ⟨z, v, hr, hf, hk⟩ := opShift_run hk P t (k' := k')
      exact fin (fun w' => by rw [eqGuard_at_int]; exact hr w') hf hk
    · split at hk
      · rename_i hkk
        subst hkk
        obtain ⟨z, v, hr, hf, hk⟩ := opInt_run hk P t
        exact fin (fun w' => by rw [eqGuard_at_int]; exact hr w') hf hk
      · cases hk
  · rename_i m n ex ey
    rw [ex] at hx; rw [ey] at hy
    have e1 : a.eval x = .bool m := hx.1
    have e2 : a.eval y = .bool n := hy.1
    rw [e1, e2] at fin
    split at hk
    · rename_i i hi
      split at hk
      · rename_i hb
        have ok := hT t i hi
        have hd := ok.desc
        have hu : P.underlying t = some .bool := by
          have h1 := hb.1
          unfold TI.isScal at h1
          cases hid : i.d with
          | scal =>
            rw [hid] at hd
            obtain ⟨d, g1, g2⟩ := hd
            rw [hb.2] at g1
            injection g1 with g1
            rw [g2, ← g1]
          | slice e => rw [hid] at h1; cases h1
          | arr n e => rw [hid] at h1; cases h1
          | struct fs => rw [hid] at h1; cases h1
        have he : ∀ w', (Op.equal t (.bool m) (.bool n)).run P w' = .ok (m == n) w' := by
          intro w'
          show (Op.equalIn (9999 + 1) t (.bool m) (.bool n)).run P w' = _
          rw [Op.equalIn, Sem.run_bind, run_underlying hu]
          rfl
        split at hk
        · exact fin (z := .bool (m == n)) (v := .bool (m == n)) (fun w' => by rw [eqGuard_at_bool]; simp [binOp, he w']) (fits_bool _) hk
        · exact fin (z := .bool (!(m == n))) (v := .bool (!(m == n))) (fun w' => by rw [eqGuard_at_bool]; simp [binOp, he w']) (fits_bool _) hk
        · cases hk
      · cases hk
    · cases hk
  · rename_i m n ex ey
    rw [ex] at hx; rw [ey] at hy
    have e1 : a.eval x = .string m := hx.1
    have e2 : a.eval y = .string n := hy.1
    rw [e1, e2] at fin
    split at hk
    · split at hk
      · rename_i hs
        refine fin (z := .str (m ++ n)) (v := .string (m ++ n)) ?_ (fits_str _) hk
        intro w'
        rw [eqGuard_at_string]
        have : ¬ ((m.size + n.size : Nat) : Int) > IntKind.i64.max := by simp [IntKind.max, IntKind.signed, IntKind.bits]; omega
        simp only [binOp, Op.stringOp, Sem.run_bind, Sem.run_pure, Result.andThen_ok, if_neg this]
      · cases hk
    · exact fin (z := .bool (m.toList == n.toList)) (v := .bool (m.toList == n.toList)) (fun w' => by rw [eqGuard_at_string]; simp [binOp, Op.stringOp]) (fits_bool _) hk
    · exact fin (z := .bool (!(m.toList == n.toList))) (v := .bool (!(m.toList == n.toList))) (fun w' => by rw [eqGuard_at_string]; simp [binOp, Op.stringOp]) (fits_bool _) hk
    · cases hk
  · rename_i l l' ex ey
    rw [ex] at hx; rw [ey] at hy
    split at hk
    · rename_i i hi
      split at hk
      · rename_i hc
        split at hk
        · rename_i b hb
          obtain ⟨vs, e1, hA⟩ := hx
          obtain ⟨vs', e2, hA'⟩ := hy
          have ok := hT t i hi
          simp only [Bool.and_eq_true, beq_iff_eq] at hc
          obtain ⟨xs, ys, rfl, rfl, g3, g4, rfl⟩ := eqAtoms_sound hA hA' hb
          rw [e1, e2] at fin
          split at hk
          · refine fin (z := .bool (decide (xs = ys))) (v := .bool (decide (xs = ys))) ?_ (fits_bool _) hk
            intro w'
            have := ok.eqs hc.1 xs ys (by rw [g3, hc.2]) (by rw [g4, hc.2]) x y .eql (.inl rfl) w'
            simpa using this
          · refine fin (z := .bool (!decide (xs = ys))) (v := .bool (!decide (xs = ys))) ?_ (fits_bool _) hk
            intro w'
            have := ok.eqs hc.1 xs ys (by rw [g3, hc.2]) (by rw [g4, hc.2]) x y .neq (.inr rfl) w'
            simpa using this
          · cases hk
        · cases hk
      · cases hk
    · cases hk
  · cases hk
theorem un_op {op : UnOp} {x : Operand} {K : At → Option β} {K' : St → Option β} (h : Rel w0 S0 st μ a w) (ho : o.op = .unOp op t x) (hk : opUn op (st.ev x) K = some r) (hK : ∀ x, K x = some r → K' (st.put o.dst (.sv (.at x))) = some r) : Went P o a w (Nx w0 S0 K' r) := by
  have hx := h.ev x
  have fin : ∀ {z : At} {v : Value}, (∀ w', (Op.unary op (a.eval x)).run P w' = .ok v w') → Fits z v → K z = some r → Went P o a w (Nx w0 S0 K' r) := by
    intro z v hr hf hk
    have hrun : ∀ w', (isLoad o.op = true → Same w w') → (execOp a.eval o).run P w' = .ok (.value v) w' := by
      intro w' hw
      unfold execOp
      simp only [ho]
      rw [Sem.run_bind, hr w']
      rfl
    exact pure_op h hrun (x := .sv (.at z)) ⟨hf.1 _ _, .inr hf.2⟩ (hK _ hk)
  unfold opUn at hk
  split at hk
  · rename_i b ex
    rw [ex] at hx
    rw [show a.eval x = .bool b from hx.1] at fin
    exact fin (z := .bool (!b)) (v := .bool (!b)) (fun _ => rfl) (fits_bool _) hk
  · rename_i k n ex
    rw [ex] at hx
    rw [show a.eval x = .int k n from hx.1] at fin
    exact fin (z := .int k (wrapK k (0 - n))) (v := .int k (wrapK k (0 - n))) (fun w' => by rw [wrapK_eq]; rfl) (fits_int _ _) hk
  · cases hk
/-! ### Addresses, lengths, parts -/
/-- A slice's value: how the walk sees it. -/
theorem row_val {e : TypeId} {u : Ty} {S : Nat → Prop} {xs : List u.D} (h : RowRep (Rep u) u.sz e w S xs v) : ∃ A c, v = .slice A xs.length c ∧ xs.length ≤ c ∧ xs.length ≤ 9223372036854775807 ∧ (0 < xs.length → ∃ ad, A = some ad) := by
  obtain ⟨A, c, hv, hl, hm, ha⟩ := h.rd
  exact ⟨A, c, hv, hl, hm, fun h0 => let ⟨ad, h1, _⟩ := ha h0; ⟨ad, h1⟩⟩
theorem inRange_inv {j : Int} {n : Nat} {K : Option β} (h : inRange j n K = some r) : 0 ≤ j ∧ j < n ∧ K = some r := by
  unfold inRange at h
  split at h
  · rename_i h0
    split at h
    · rename_i h1
      exact ⟨h0, h1, h⟩
    · cases h
  · cases h
theorem index_addr_op {x y : Operand} {e : TypeId} {ti : TI} {k : IntKind} {n : Int} {K : At → Option β} {K' : St → Option β} (T : TT) (hT : TTok P T) (h : Rel w0 S0 st μ a w) (ho : o.op = .indexAddr t x y) (hi : T.get t = some i) (hie : i.d = .slice e) (hte : T.get e = some ti)
    (hn : st.ev y = .sv (.at (.int k n))) (hk : opIndexAddr ti st (st.ev x).atom n K = some r) (hK : ∀ x, K x = some r → K' (st.put o.dst (.sv (.at x))) = some r) : Went P o a w (Nx w0 S0 K' r) := by
  have ok := hT t i hi
  have oke := hT e ti hte
  have hu : P.underlying t = some (.slice e) := by have := ok.desc; rw [hie] at this; exact this
  have hy : a.eval y = .int k n := h.at hn
  have ha := h.atom x
  have run : ∀ (ad : Addr) (len c : Nat), a.eval x = .slice (some ad) len c → 0 ≤ n → n < len → ∀ w', (isLoad o.op = true → Same w w') → (execOp a.eval o).run P w' = .ok (.value (.pointer (some (ad.add (n.toNat * ti.ty.sz))))) w' := by
    intro ad len c hx h0 h1 w' hw
    unfold execOp
    simp only [ho, hx, hy, Instr.indexAt, asIntOf, Sem.run_bind, Sem.run_pure, Result.andThen_ok, run_underlying hu]
    rw [Sem.run_ite, if_pos ⟨h0, h1⟩, Sem.run_bind, run_sizeOf oke]
    rfl
  cases hx : (st.ev x).atom with
  | sl j =>
    rw [hx] at hk ha
    simp only [opIndexAddr] at hk
    split at hk
    · rename_i fr e' t' xs hob
      split at hk
      · rename_i ht
        subst ht
        obtain ⟨h0, h1, hk⟩ := inRange_inv hk
        obtain ⟨rec, hrec, hv, _⟩ := ha
        obtain ⟨A, c, hv2, _, _, hA⟩ := row_val (h.ob j _ rec hob hrec)
        obtain ⟨ad, rfl⟩ := hA (by omega)
        have hr := run ad xs.length c (by rw [hv, hv2]) h0 h1
        exact pure_op h hr (x := .sv (.at (.ep j ti.ty n 0))) ⟨⟨rec, ad, _, c, hrec, hv2, h0, h1, by simp⟩, .inr rfl⟩ (hK _ hk)
      · cases hk
    · cases hk
  | snap j t' xs =>
    rw [hx] at hk ha
    simp only [opIndexAddr] at hk
    split at hk
    · rename_i ht
      subst ht
      obtain ⟨h0, h1, hk⟩ := inRange_inv hk
      obtain ⟨rec, hrec, A, c, hv, hl, hm, hA⟩ := ha
      obtain ⟨ad, rfl, hs, hel⟩ := hA (by omega)
      have hr := run ad xs.length c hv h0 h1
      have hj : n.toNat < xs.length := by omega
      obtain ⟨cs, hcl, hcell, hrd⟩ := hel n.toNat xs[n.toNat] (List.getElem?_eq_getElem hj)
      have hg : List.getD xs n.toNat ti.ty.zero = xs[n.toNat] := by simp [List.getD, List.getElem?_eq_getElem hj]
      rw [hg] at hk
      exact pure_op h hr (x := .sv (.at (.es j ti.ty xs[n.toNat] 0))) ⟨⟨rec, ad.add (n.toNat * ti.ty.sz), cs, hrec, by rw [add_block]; exact hs, by rw [add_at', Nat.add_zero], hcl, fun m u hu => by rw [add_at']; exact hcell m u hu, hrd⟩, .inr rfl⟩ (hK _ hk)
    · cases hk
  | inn j q =>
    rw [hx] at hk ha
    simp only [opIndexAddr] at hk
    split at hk
    · rename_i fr e' e2 t' xs hob
      split at hk
      · rename_i ht
        subst ht
        obtain ⟨h0, h1, hk⟩ := inRange_inv hk
        have hrow := readSl_sound h (ex := []) (t := ti.ty) (xs := xs.getD q.toNat []) ha (by simp only [readSl, hob]; simp)
        obtain ⟨rec, ad0, n0, c0, hrec, hv0, hq0, hq1, hok0, hcell0, _⟩ := ha
        have hin : RowRd (Rd ti.ty) ti.ty.sz w rec.ok (xs.getD q.toNat []) (a.eval x) := by
          have hR : RowRep (Rep (.slice e2 ti.ty)) (Ty.slice e2 ti.ty).sz e' w rec.ok xs rec.v := h.ob j _ rec hob hrec
          have hlen : n0 = xs.length := by
            obtain ⟨inner, hqr, _⟩ := hR
            obtain ⟨A', c', hv', _⟩ := q_slice hqr
            rw [hv0] at hv'
            injection hv'
          have hjx : q.toNat < xs.length := by omega
          obtain ⟨A, c', cs, hv', hs, hl, hcell, hrep⟩ := hR.elem hjx
          rw [hv0] at hv'
          injection hv' with hA2 _ _
          injection hA2 with hA2
          subst hA2
          obtain ⟨u, rfl, hrow2⟩ := hrep
          have hu2 := hcell 0 u rfl
          simp only [Ty.sz, Nat.mul_one, Nat.add_zero] at hu2
          rw [hcell0] at hu2
          injection hu2 with hu2
          have hg : List.getD xs q.toNat [] = xs[q.toNat] := by simp [List.getD, List.getElem?_eq_getElem hjx]
          rw [hg, hu2]
          exact hrow2.rd
        obtain ⟨A, c, hv, hl, hm, hA⟩ := hin
        obtain ⟨ad, rfl, hs, hel⟩ := hA (by omega)
        have hr := run ad _ c hv h0 h1
        have hj : n.toNat < (xs.getD q.toNat []).length := by omega
        obtain ⟨cs, hcl, hcell, hrd⟩ := hel n.toNat (xs.getD q.toNat [])[n.toNat] (List.getElem?_eq_getElem hj)
        have hg : List.getD (xs.getD q.toNat []) n.toNat ti.ty.zero = (xs.getD q.toNat [])[n.toNat] := by rw [List.getD, List.getElem?_eq_getElem hj]; rfl
        rw [hg] at hk
        exact pure_op h hr (x := .sv (.at (.es j ti.ty (xs.getD q.toNat [])[n.toNat] 0))) ⟨⟨rec, ad.add (n.toNat * ti.ty.sz), cs, hrec, by rw [add_block]; exact hs, by rw [add_at', Nat.add_zero], hcl, fun m u hu => by rw [add_at']; exact hcell m u hu, hrd⟩, .inr rfl⟩ (hK _ hk)
      · cases hk
    · cases hk
  | _ => rw [hx] at hk; simp [opIndexAddr] at hk
theorem index_arr_op {x y : Operand} {e : TypeId} {m : Nat} {ti : TI} {k : IntKind} {n : Int} {K : At → Option β} {K' : St → Option β} (T : TT) (hT : TTok P T) (h : Rel w0 S0 st μ a w) (ho : o.op = .indexAddr t x y) (hi : T.get t = some i) (hie : i.d = .arr m e) (hte : T.get e = some ti)
    (hn : st.ev y = .sv (.at (.int k n))) (hk : opIndexArr m ti (st.ev x).atom n K = some r) (hK : ∀ x, K x = some r → K' (st.put o.dst (.sv (.at x))) = some r) : Went P o a w (Nx w0 S0 K' r) := by
  have ok := hT t i hi
  have oke := hT e ti hte
  have hu : P.underlying t = some (.array m e) := by have := ok.desc; rw [hie] at this; exact this
  have hy : a.eval y = .int k n := h.at hn
  have ha := h.atom x
  cases hx : (st.ev x).atom with
  | ptr j f =>
    rw [hx] at hk ha
    simp only [opIndexArr] at hk
    split at hk
    · rename_i hf
      obtain ⟨rfl, hsz⟩ := hf
      obtain ⟨h0, h1, hk⟩ := inRange_inv hk
      obtain ⟨rec, hrec, hv⟩ := ha
      have hr : ∀ w', (isLoad o.op = true → Same w w') → (execOp a.eval o).run P w' = .ok (.value (.pointer (some ⟨rec.blk, n.toNat, none⟩))) w' := by
        intro w' hw
        unfold execOp
        simp only [ho, hv, hy, Instr.indexAt, asIntOf, Instr.sureAddr, Sem.run_bind, Sem.run_pure, Result.andThen_ok, run_underlying hu]
        rw [Sem.run_ite, if_pos ⟨h0, h1⟩, Sem.run_bind, run_sizeOf oke]
        simp only [Result.andThen_ok, Sem.run_pure, hsz, Nat.mul_one, add_at, Nat.zero_add]
      exact pure_op h hr (x := .sv (.at (.ptr j n.toNat))) ⟨⟨rec, hrec, rfl⟩, .inr rfl⟩ (hK _ hk)
    · cases hk
  | _ => rw [hx] at hk; simp [opIndexArr] at hk
theorem ints_vals {μ : List ORec} {w : World} {k : IntKind} : ∀ {ns : List Int} {vs : List Value}, AL μ w (ns.map (At.int k)) vs → vs = ns.map (Value.int k)
  | [], vs, h => by
    have := h.1
    simpa using this
  | n :: ns, [], h => by have := h.1; simp at this
  | n :: ns, v :: vs, h => by
    have h1 : AR μ w (.int k n) v := h.2 0 _ _ rfl rfl
    have h2 : AL μ w (ns.map (At.int k)) vs := ⟨by have := h.1; simpa using this, fun j x u hx hu => h.2 (j + 1) x u (by simpa using hx) (by simpa using hu)⟩
    rw [ints_vals h2, show v = _ from h1]
    rfl
theorem index_op {x y : Operand} {e : TypeId} {m : Nat} {ti : TI} {K : At → Option β} {K' : St → Option β} (T : TT) (hT : TTok P T) (h : Rel w0 S0 st μ a w) (ho : o.op = .index t x y) (hi : T.get t = some i) (hie : i.d = .arr m e) (hte : T.get e = some ti)
    (hk : opIndex m ti (st.ev x) (st.ev y) K = some r) (hK : ∀ x, K x = some r → K' (st.put o.dst (.sv (.at x))) = some r) : Went P o a w (Nx w0 S0 K' r) := by
  have ok := hT t i hi
  have oke := hT e ti hte
  have hu : P.underlying t = some (.array m e) := by have := ok.desc; rw [hie] at this; exact this
  unfold opIndex at hk
  split at hk
  · rename_i k hty
    split at hk
    · rename_i l hl
      split at hk
      · rename_i k2 q hq
        split at hk
        · rename_i ns hns
          split at hk
          · rename_i hc
            obtain ⟨hlen, hag⟩ := hc
            obtain ⟨h0, h1, hk⟩ := inRange_inv hk
            have hy : a.eval y = .int k2 q := h.at hq
            have hx := h.ev x
            rw [hl] at hx
            obtain ⟨vs, hvx, hA⟩ := hx
            rw [intsOf_map hns] at hA
            have hvs := ints_vals hA
            subst hvs
            have hqn : q.toNat < ns.length := by omega
            have hsz : ti.ty.sz = 1 := by rw [hty]; rfl
            refine pure_op h (v := .int k (List.getD ns q.toNat 0)) (x := .sv (.at (.int k (List.getD ns q.toNat 0)))) (fun w' hw => ?_) ⟨rfl, .inr rfl⟩ (hK _ hk)
            unfold execOp
            simp only [ho, hvx, hy, Instr.index, asIntOf, Sem.run_bind, Sem.run_pure, Result.andThen_ok, run_underlying hu]
            rw [Sem.run_ite, if_pos ⟨h0, h1⟩, Sem.run_bind, run_sizeOf oke]
            simp only [Result.andThen_ok, hsz, Nat.mul_one, part, Sem.run_bind, oke.agg, hag, Bool.false_eq_true, if_false]
            have hg : (ns.map (Value.int k)).toArray[q.toNat]? = some (.int k (List.getD ns q.toNat 0)) := by simp [List.getD, List.getElem?_eq_getElem hqn]
            rw [hg]
            rfl
          · cases hk
        · cases hk
      · cases hk
    · cases hk
  · cases hk
theorem field_addr_op {x : Operand} {f : Nat} {fs : List (Nat × TypeId)} {z : At} (T : TT) (hT : TTok P T) (h : Rel w0 S0 st μ a w) (ho : o.op = .fieldAddr t x f) (hi : T.get t = some i) (hif : i.d = .struct fs) (hz : opFieldAddr fs (st.ev x).atom f = some z) (hk : K (st.put o.dst (.sv (.at z))) = some r) : Went P o a w (Nx w0 S0 K r) := by
  have ok := hT t i hi
  have ha := h.atom x
  have hd := ok.desc
  rw [hif] at hd
  obtain ⟨d, hu, hfs⟩ := Option.bind_eq_some_iff.1 hd.1
  cases d with
  | struct flds =>
    simp only [fieldsOf] at hfs
    injection hfs with hfs
    unfold opFieldAddr at hz
    split at hz
    · rename_i off tf hf
      have hmem := List.mem_of_getElem? hf
      obtain ⟨xi, hxi, hsz⟩ := hd.2 _ hmem
      rw [← hfs, List.getElem?_map] at hf
      obtain ⟨fd, hfd, he⟩ := Option.map_eq_some_iff.1 hf
      injection he with he1 he2
      have run : ∀ ad : Addr, a.eval x = .pointer (some ad) → ∀ w', (isLoad o.op = true → Same w w') → (execOp a.eval o).run P w' = .ok (.value (.pointer (some (ad.add off)))) w' := by
        intro ad hx w' hw
        have hfd' : flds[f]? = some fd := by rw [← Array.getElem?_toList]; exact hfd
        have hs : (sizeOf fd.type).run P w' = .ok xi.size w' := by rw [he2]; simp [sizeOf, typeInfo, hxi]
        unfold execOp
        simp only [ho, hx, Instr.fieldAt, Sem.run_bind, run_underlying hu, Result.andThen_ok, hfd', Instr.sureAddr, Sem.run_pure, fieldPlace, hs]
        rw [if_neg hsz]
        simp [he1]
      split at hz
      · rename_i j g hx
        injection hz with hz
        subst hz
        rw [hx] at ha
        obtain ⟨q, hq, hp⟩ := ha
        exact pure_op h (run _ hp) (x := .sv (.at (.ptr j (g + off)))) ⟨⟨q, hq, by rw [add_at]⟩, .inr rfl⟩ hk
      · rename_i j u q g hx
        injection hz with hz
        subst hz
        rw [hx] at ha
        obtain ⟨rec, ad, n, c, hrec, hv, h0, h1, hp⟩ := ha
        exact pure_op h (run _ hp) (x := .sv (.at (.ep j u q (g + off)))) ⟨⟨rec, ad, n, c, hrec, hv, h0, h1, by rw [add_at', Nat.add_assoc]⟩, .inr rfl⟩ hk
      · rename_i j u y g hx
        injection hz with hz
        subst hz
        rw [hx] at ha
        obtain ⟨rec, ad, cs, hrec, hok, hp, hl, hc, hrd⟩ := ha
        exact pure_op h (run _ hp) (x := .sv (.at (.es j u y (g + off)))) ⟨⟨rec, ad, cs, hrec, hok, by rw [add_at'], hl, hc, hrd⟩, .inr rfl⟩ hk
      · cases hz
    · cases hz
  | _ => simp [fieldsOf] at hfs
theorem field_op {x : Operand} {f : Nat} {fs : List (Nat × TypeId)} {z : TV} (T : TT) (hT : TTok P T) (h : Rel w0 S0 st μ a w) (ho : o.op = .field t x f) (hi : T.get t = some i) (hif : i.d = .struct fs) (hz : opField T fs (st.ev x) f = some z) (hk : K (st.put o.dst z) = some r) : Went P o a w (Nx w0 S0 K r) := by
  have ok := hT t i hi
  have ha := h.ev x
  have hd := ok.desc
  rw [hif] at hd
  obtain ⟨d, hu, hfs⟩ := Option.bind_eq_some_iff.1 hd.1
  cases d with
  | struct flds =>
    simp only [fieldsOf] at hfs
    injection hfs with hfs
    unfold opField at hz
    split at hz
    · rename_i off tf l hf hx
      split at hz
      · rename_i ti hti
        split at hz
        · rename_i hle
          injection hz with hz
          subst hz
          rw [hx] at ha
          obtain ⟨vs, hv, hA⟩ := ha
          have okf := hT tf ti hti
          rw [← hfs, List.getElem?_map] at hf
          obtain ⟨fd, hfd, he⟩ := Option.map_eq_some_iff.1 hf
          injection he with he1 he2
          have hfd' : flds[f]? = some fd := by rw [← Array.getElem?_toList]; exact hfd
          have hA2 := (hA.drop off).take ti.ty.sz
          have hlen : ((l.drop off).take ti.ty.sz).length = ti.ty.sz := by simp; omega
          have hrun : ∀ w', (isLoad o.op = true → Same w w') → (execOp a.eval o).run P w' = .ok (.value (packV ti ((vs.drop off).take ti.ty.sz))) w' := by
            intro w' hw
            unfold execOp
            simp only [ho, hv, Instr.field, Sem.run_bind, run_underlying hu, Result.andThen_ok, hfd', asAgg, Sem.run_pure, part, he2, okf.agg, he1]
            unfold packV
            cases hag : ti.isAgg with
            | true =>
              simp only [if_true, Sem.run_bind, run_sizeOf okf, Result.andThen_ok, Sem.run_pure]
              congr 3
              apply Array.ext'
              simp [List.extract_eq_take_drop]
            | false =>
              have h1 := okf.one hag
              have hvl := hA.1
              have hlt : off < vs.length := by rw [hvl]; omega
              simp only [Bool.false_eq_true, if_false, List.getElem?_toArray, List.getElem?_eq_getElem hlt, Sem.run_pure, Result.andThen_ok, h1]
              rw [List.drop_eq_getElem_cons hlt]
              rfl
          exact pure_op h hrun (packV_tr okf.one hlen hA2) hk
        · cases hz
      · cases hz
    · cases hz
  | _ => simp [fieldsOf] at hfs
theorem extract_op {x : Operand} {j : Nat} {l : List SV} {z : SV} (h : Rel w0 S0 st μ a w) (ho : o.op = .extract x j) (hx : st.ev x = .tup l) (hz : l[j]? = some z) (hk : K (st.put o.dst (.sv z)) = some r) : Went P o a w (Nx w0 S0 K r) := by
  have ha := h.ev x
  rw [hx] at ha
  obtain ⟨vs, hv, hl, hA⟩ := ha
  have hj : j < vs.length := by rw [hl]; exact (List.getElem?_eq_some_iff.1 hz).1
  have hrun : ∀ w', (isLoad o.op = true → Same w w') → (execOp a.eval o).run P w' = .ok (.value vs[j]) w' := by
    intro w' hw
    unfold execOp
    simp [ho, hv, Instr.extract, List.getElem?_eq_getElem hj]
  exact pure_op h hrun (x := .sv z) (hA j z vs[j] hz (List.getElem?_eq_getElem hj)) hk
theorem lenOf_sound (h : Rel w0 S0 st μ a w) {x : At} {n : Int} (hx : AR μ w x v) (hn : lenOf st x = some n) : ∃ A m c, v = .slice A m c ∧ n = m ∧ m ≤ 9223372036854775807 := by
  cases x with
  | nils => simp only [lenOf] at hn; injection hn with hn; exact ⟨none, 0, 0, hx, by omega, by omega⟩
  | sl j =>
    simp only [lenOf] at hn
    split at hn
    · rename_i fr e t xs hob
      injection hn with hn
      obtain ⟨rec, hrec, hv, _⟩ := hx
      obtain ⟨A, c, hv2, _, hm, _⟩ := row_val (h.ob j _ rec hob hrec)
      exact ⟨A, _, c, by rw [hv, hv2], hn.symm, hm⟩
    · cases hn
  | snap j t xs =>
    simp only [lenOf] at hn
    injection hn with hn
    obtain ⟨rec, hrec, A, c, hv, _, hm, _⟩ := hx
    exact ⟨A, _, c, hv, hn.symm, hm⟩
  | inn j q =>
    simp only [lenOf] at hn
    split at hn
    · rename_i fr e e2 t xs hob
      injection hn with hn
      obtain ⟨A, c, hv, _, hm, _⟩ := readSl_sound h (ex := []) (t := t) (xs := xs.getD q.toNat []) hx (by simp only [readSl, hob]; simp)
      exact ⟨A, _, c, hv, hn.symm, hm⟩
    · cases hn
  | _ => simp [lenOf] at hn
theorem len_op {x : Operand} {n : Int} (T : TT) (hT : TTok P T) (h : Rel w0 S0 st μ a w) (ho : o.op = .call { callee := .builtin .len, args := #[x], argTypes := #[t] }) (hi : T.get t = some i) (hn : opLen i st (st.ev x).atom = some n)
    (hk : K (st.put o.dst (.sv (.at (.int .i64 n)))) = some r) : Went P o a w (Nx w0 S0 K r) := by
  have ok := hT t i hi
  have ha := h.atom x
  have hrun : ∀ w', (isLoad o.op = true → Same w w') → (execOp a.eval o).run P w' = .ok (.value (.int .i64 n)) w' := by
    intro w' hw
    have hd2 := ok.desc
    unfold execOp
    simp only [ho, resolve, invoke, builtin, Sem.run_bind, Sem.run_pure, Result.andThen_ok, List.map_toArray, List.map_cons, List.map_nil]
    unfold opLen at hn
    cases hd : i.d with
    | slice e =>
      rw [hd] at hd2 hn
      obtain ⟨A, m, c, hv, rfl, _⟩ := lenOf_sound h ha hn
      simp [Builtin.len_, run_underlying hd2, hv, goInt]
    | scal =>
      rw [hd] at hd2 hn
      simp only at hn
      split at hn
      · rename_i s hx
        split at hn
        · rename_i hty
          injection hn with hn
          rw [hx] at ha
          obtain ⟨d, h1, h2⟩ := hd2
          rw [hty] at h1
          injection h1 with h1
          subst h1
          simp [Builtin.len_, run_underlying h2, show a.eval x = _ from ha, goInt, ← hn]
        · cases hn
      · cases hn
    | arr n e => rw [hd] at hn; cases hn
    | struct fs => rw [hd] at hn; cases hn
  exact pure_op h hrun (x := .sv (.at (.int .i64 n))) ⟨rfl, .inr rfl⟩ hk
end
end Go.Proofs.Ytgpmbmnfcbippaa.Vs
