/- The machine runs code. -/
import Derived.Test.YtgpmbmnfcbippaaqtesVsL
set_option linter.unusedVariables false
set_option linter.unusedSimpArgs false
namespace Go.Proofs.Ytgpmbmnfcbippaa.Vs
open Go.RowKit

def sameOp : Operand → Operand → Bool
  | .tmp a, .tmp b => a == b
  | .const (.int k n), .const (.int k' n') => decide (k = k') && decide (n = n')
  | _, _ => false
theorem sameOp_sound {x y : Operand} (h : sameOp x y = true) : x = y := by
  unfold sameOp at h
  split at h
  · rw [beq_iff_eq.1 h]
  · simp at h; rw [h.1, h.2]
  · cases h
section
variable {γ : Type}
def stepOp (T : TT) (G : Env) (mvs : List Tmp) (k : Nat) (o : Oper) (st : St) (K : St → Option γ) : Option γ :=
  match o.op with
  | .move x => K (st.put o.dst (st.ev x))
  | .assign x => K (st.put o.dst (st.ev x))
  | .pick c x y => match st.ev c with
    | .sv (.at (.bool b)) => if b = true then K (st.put o.dst (st.ev x)) else K (st.put o.dst (st.ev y))
    | _ => none
  | .alloc t => match T.get t with
    | some i => K (st.mk1 o.dst (.box t (zatoms i.ty)) (.ptr st.objs.length 0))
    | none => none
  | .box t x => match (st.ev x).cells with
    | some l => if l.all (fun y => !y.isUn) = true then K (st.mk1 o.dst (.box t l) (.ptr st.objs.length 0)) else none
    | none => none
  | .build t ps => match T.get t with
    | some i => match i.d with
      | .struct fs => match fillParts T fs st ps.toList (zatoms i.ty) with
        | some l => K (st.put o.dst (.sv (.agg l)))
        | none => none
      | .arr n e => match T.get e with
        | some ti => match ps.toList with
          | [] => K (st.put o.dst (.sv (.agg (zatoms i.ty))))
          | _ => none
        | none => none
      | _ => none
    | none => none
  | .buildSlice t len ps => match T.get t with
    | some i => match i.d with
      | .slice e => match T.get e with
        | some ti => opBuildSlice e ti st o.dst len ps.toList K
        | none => none
      | _ => none
    | none => none
  | .load t p => match T.get t with
    | some i => opLoad i st (st.ev p).atom fun x => K (st.put o.dst x)
    | none => none
  | .store t p x => match o.dst with
    | none => match T.get t with
      | some i => opStore i st (st.ev p).atom (st.ev x) K
      | none => none
    | some _ => none
  | .binOp op t x y _ => opBin T op t (st.ev x) (st.ev y) fun z => K (st.put o.dst (.sv (.at z)))
  | .unOp op _ x => opUn op (st.ev x) fun z => K (st.put o.dst (.sv (.at z)))
  | .makeSlice t x y => if sameOp x y = true then match T.get t with
      | some i => match i.d with
        | .slice e => match T.get e with
          | some ti => match st.ev x with
            | .sv (.at (.int _ n)) => opMake e ti st o.dst n K
            | _ => none
          | none => none
        | _ => none
      | none => none
    else none
  | .slice t x lo hi none => match T.get t with
    | some i => match i.d with
      | .slice e => match T.get e with
        | some ti => opSlice (match o.dst with | some d => mvs.contains d | none => false) e ti st o.dst (st.ev x).atom (lo.map st.ev) (hi.map st.ev) K
        | none => none
      | _ => none
    | none => none
  | .fieldAddr t x f => match T.get t with
    | some i => match i.d with
      | .struct fs => match opFieldAddr fs (st.ev x).atom f with
        | some z => K (st.put o.dst (.sv (.at z)))
        | none => none
      | _ => none
    | none => none
  | .field t x f => match T.get t with
    | some i => match i.d with
      | .struct fs => match opField T fs (st.ev x) f with
        | some z => K (st.put o.dst z)
        | none => none
      | _ => none
    | none => none
  | .indexAddr t x y => match T.get t with
    | some i => match i.d with
      | .slice e => match T.get e with
        | some ti => match st.ev y with
          | .sv (.at (.int _ n)) => opIndexAddr ti st (st.ev x).atom n fun z => K (st.put o.dst (.sv (.at z)))
          | _ => none
        | none => none
      | .arr m e => match T.get e with
        | some ti => match st.ev y with
          | .sv (.at (.int _ n)) => opIndexArr m ti (st.ev x).atom n fun z => K (st.put o.dst (.sv (.at z)))
          | _ => none
        | none => none
      | _ => none
    | none => none
  | .index t x y => match T.get t with
    | some i => match i.d with
      | .arr m e => match T.get e with
        | some ti => opIndex m ti (st.ev x) (st.ev y) fun z => K (st.put o.dst (.sv (.at z)))
        | none => none
      | _ => none
    | none => none
  | .extract x j => match st.ev x with
    | .tup l => match l[j]? with
      | some z => K (st.put o.dst (.sv z))
      | none => none
    | _ => none
  | .call c => match c.callee with
    | .builtin .len => match c.args.toList, c.argTypes.toList with
      | [x], [t] => match T.get t with
        | some i => match opLen i st (st.ev x).atom with
          | some n => K (st.put o.dst (.sv (.at (.int .i64 n))))
          | none => none
        | none => none
      | _, _ => none
    | .builtin .append => match c.args.toList, c.argTypes.toList with
      | [x, y], [t, t'] => if t' = t then match T.get t with
          | some i => match i.d with
            | .slice e => match T.get e with
              | some ti => opAppend e ti st o.dst (st.ev x).atom (st.ev y).atom K
              | none => none
            | _ => none
          | none => none
        else none
      | _, _ => none
    | .value (.func f) => match G.get f with
      | some E => opCall k E st o.dst (c.args.toList.map st.ev) K
      | none => none
    | _ => none
  | _ => none
end

section
variable {P : Program} {w w1 w0 : World} {S0 : Own} {st : St} {μ : List ORec} {a : Act}
/-- The contracts hold, and the program is one of those under which a drawn region's order is any order. -/
structure EnvOK (P : Program) (k : Nat) (G : Env) : Prop where
  mixed : P.follows .mixedOrders = true
  ok : ∀ f E, G.get f = some E → SoundAt P k f E
theorem stepOp_sound {γ : Type} {T : TT} {G : Env} {mvs : List Tmp} {k : Nat} {o : Oper} {K : St → Option γ} {r : γ} {Q : Exit → Act → World → Prop} (hT : TTok P T) (hG : EnvOK P k G) (h : Rel w0 S0 st μ a w) (hk : stepOp T G mvs k o st K = some r) : o.wp P a w (Nx w0 S0 K r) Q := by
  unfold stepOp at hk
  split at hk
  · rename_i x ho; exact Went.wp (move_op h (.inl ho) hk)
  · rename_i x ho; exact Went.wp (move_op h (.inr ho) hk)
  · rename_i c x y ho
    split at hk
    · rename_i b hc
      exact Went.wp (pick_op h ho hc (by split at hk <;> rename_i hb <;> simp only [hb, if_true, if_false, Bool.false_eq_true] <;> exact hk))
    · cases hk
  · rename_i t ho
    split at hk
    · rename_i i hi; exact wp_drop (alloc_op T hT h ho hi rfl hk)
    · cases hk
  · rename_i t x ho
    split at hk
    · rename_i l hl
      split at hk
      · rename_i hu; exact wp_drop (box_op h ho hl hu hk)
      · cases hk
    · cases hk
  · rename_i t ps ho
    split at hk
    · rename_i i hi
      split at hk
      · rename_i fs hd
        split at hk
        · rename_i l hl; exact Went.wp (build_op T hT h ho hi hd hl hk)
        · cases hk
      · rename_i n e hd
        split at hk
        · rename_i ti hti
          split at hk
          · rename_i hl; exact Went.wp (build_arr_op T hT h ho hi hd hti hl hk)
          · cases hk
        · cases hk
      · cases hk
    · cases hk
  · rename_i t len ps ho
    split at hk
    · rename_i i hi
      split at hk
      · rename_i e hd
        split at hk
        · rename_i ti hti
          by_cases h0 : len = 0
          · subst h0; exact wp_drop (build_slice_zero T hT h ho hi hd hti hk)
          · exact wp_drop (build_slice_op T hT h ho hi hd hti hk h0)
        · cases hk
      · cases hk
    · cases hk
  · rename_i t p ho
    split at hk
    · rename_i i hi; exact Went.wp (load_op T hT h ho hi hk (fun _ hx => hx))
    · cases hk
  · rename_i t p x ho
    split at hk
    · rename_i hd
      split at hk
      · rename_i i hi; exact store_op T hT h ho hd hi hk (fun _ hx => hx)
      · cases hk
    · cases hk
  · rename_i op t x y yt ho; exact Went.wp (bin_op T hT h ho hk (fun _ hx => hx))
  · rename_i op t x ho; exact Went.wp (un_op h ho hk (fun _ hx => hx))
  · rename_i t x y ho
    split at hk
    · rename_i hs
      have := sameOp_sound hs
      subst this
      split at hk
      · rename_i i hi
        split at hk
        · rename_i e hd
          split at hk
          · rename_i ti hti
            split at hk
            · rename_i kk n hn; exact wp_drop (make_op (y := x) T hT h ho hi hd hti hn hk)
            · cases hk
          · cases hk
        · cases hk
      · cases hk
    · cases hk
  · rename_i t x lo hi2 ho
    split at hk
    · rename_i i hi
      split at hk
      · rename_i e hd
        split at hk
        · rename_i ti hti; exact Went.wp (slice_op T hT h ho hi hd hti hk)
        · cases hk
      · cases hk
    · cases hk
  · rename_i t x f ho
    split at hk
    · rename_i i hi
      split at hk
      · rename_i fs hd
        split at hk
        · rename_i z hz; exact Went.wp (field_addr_op T hT h ho hi hd hz hk)
        · cases hk
      · cases hk
    · cases hk
  · rename_i t x f ho
    split at hk
    · rename_i i hi
      split at hk
      · rename_i fs hd
        split at hk
        · rename_i z hz; exact Went.wp (field_op T hT h ho hi hd hz hk)
        · cases hk
      · cases hk
    · cases hk
  · rename_i t x y ho
    split at hk
    · rename_i i hi
      split at hk
      · rename_i e hd
        split at hk
        · rename_i ti hti
          split at hk
          · rename_i kk n hn; exact Went.wp (index_addr_op T hT h ho hi hd hti hn hk (fun _ hx => hx))
          · cases hk
        · cases hk
      · rename_i m e hd
        split at hk
        · rename_i ti hti
          split at hk
          · rename_i kk n hn; exact Went.wp (index_arr_op T hT h ho hi hd hti hn hk (fun _ hx => hx))
          · cases hk
        · cases hk
      · cases hk
    · cases hk
  · rename_i t x y ho
    split at hk
    · rename_i i hi
      split at hk
      · rename_i m e hd
        split at hk
        · rename_i ti hti; exact Went.wp (index_op T hT h ho hi hd hti hk (fun _ hx => hx))
        · cases hk
      · cases hk
    · cases hk
  · rename_i x j ho
    split at hk
    · rename_i l hl
      split at hk
      · rename_i z hz; exact Went.wp (extract_op h ho hl hz hk)
      · cases hk
    · cases hk
  · rename_i c ho
    obtain ⟨callee, args, ats⟩ := c
    simp only at hk
    split at hk
    · split at hk
      · rename_i x t hargs hats
        have h1 : args = #[x] := by apply Array.ext'; exact hargs
        have h2 : ats = #[t] := by apply Array.ext'; exact hats
        subst h1 h2
        split at hk
        · rename_i i hi
          split at hk
          · rename_i n hn; exact Went.wp (len_op T hT h ho hi hn hk)
          · cases hk
        · cases hk
      · cases hk
    · split at hk
      · rename_i x y t t' hargs hats
        split at hk
        · rename_i ht
          subst ht
          have h1 : args = #[x, y] := by apply Array.ext'; exact hargs
          have h2 : ats = #[t', t'] := by apply Array.ext'; exact hats
          subst h1 h2
          split at hk
          · rename_i i hi
            split at hk
            · rename_i e hd
              split at hk
              · rename_i ti hti; exact append_op T hT h ho hi hd hti hk
              · cases hk
            · cases hk
          · cases hk
        · cases hk
      · cases hk
    · rename_i f
      split at hk
      · rename_i E hE; exact call_op (hG.ok f E hE) h ho hk
      · cases hk
    · cases hk
  · cases hk
/-- An operation that only looks. -/
def pureOp : Op → Bool
  | .move _ => true | .assign _ => true | .pick _ _ _ => true | .build _ _ => true | .load _ _ => true | .binOp _ _ _ _ _ => true | .unOp _ _ _ => true
  | .slice _ _ _ _ _ => true | .fieldAddr _ _ _ => true | .field _ _ _ => true | .indexAddr _ _ _ => true | .index _ _ _ => true | .extract _ _ => true
  | .call c => match c.callee with | .builtin .len => true | _ => false
  | _ => false
theorem stepOp_went {γ : Type} {T : TT} {G : Env} {mvs : List Tmp} {k : Nat} {o : Oper} {K : St → Option γ} {r : γ} (hT : TTok P T) (h : Rel w0 S0 st μ a w) (hp : pureOp o.op = true) (hk : stepOp T G mvs k o st K = some r) : Went P o a w (Nx w0 S0 K r) := by
  unfold stepOp at hk
  split at hk
  · rename_i x ho; exact move_op h (.inl ho) hk
  · rename_i x ho; exact move_op h (.inr ho) hk
  · rename_i c x y ho
    split at hk
    · rename_i b hc
      exact pick_op h ho hc (by split at hk <;> rename_i hb <;> simp only [hb, if_true, if_false, Bool.false_eq_true] <;> exact hk)
    · cases hk
  · rename_i t ho
    split at hk
    · rename_i i hi; rw [ho] at hp; cases hp
    · cases hk
  · rename_i t x ho
    split at hk
    · rename_i l hl
      split at hk
      · rename_i hu; rw [ho] at hp; cases hp
      · cases hk
    · cases hk
  · rename_i t ps ho
    split at hk
    · rename_i i hi
      split at hk
      · rename_i fs hd
        split at hk
        · rename_i l hl; exact build_op T hT h ho hi hd hl hk
        · cases hk
      · rename_i n e hd
        split at hk
        · rename_i ti hti
          split at hk
          · rename_i hl; exact build_arr_op T hT h ho hi hd hti hl hk
          · cases hk
        · cases hk
      · cases hk
    · cases hk
  · rename_i t len ps ho
    rw [ho] at hp; cases hp
  · rename_i t p ho
    split at hk
    · rename_i i hi; exact load_op T hT h ho hi hk (fun _ hx => hx)
    · cases hk
  · rename_i t p x ho
    split at hk
    · rename_i hd
      split at hk
      · rename_i i hi; rw [ho] at hp; cases hp
      · cases hk
    · cases hk
  · rename_i op t x y yt ho; exact bin_op T hT h ho hk (fun _ hx => hx)
  · rename_i op t x ho; exact un_op h ho hk (fun _ hx => hx)
  · rename_i t x y ho
    split at hk
    · rename_i hs
      have := sameOp_sound hs
      subst this
      split at hk
      · rename_i i hi
        split at hk
        · rename_i e hd
          split at hk
          · rename_i ti hti
            split at hk
            · rename_i kk n hn; rw [ho] at hp; cases hp
            · cases hk
          · cases hk
        · cases hk
      · cases hk
    · cases hk
  · rename_i t x lo hi2 ho
    split at hk
    · rename_i i hi
      split at hk
      · rename_i e hd
        split at hk
        · rename_i ti hti; exact slice_op T hT h ho hi hd hti hk
        · cases hk
      · cases hk
    · cases hk
  · rename_i t x f ho
    split at hk
    · rename_i i hi
      split at hk
      · rename_i fs hd
        split at hk
        · rename_i z hz; exact field_addr_op T hT h ho hi hd hz hk
        · cases hk
      · cases hk
    · cases hk
  · rename_i t x f ho
    split at hk
    · rename_i i hi
      split at hk
      · rename_i fs hd
        split at hk
        · rename_i z hz; exact field_op T hT h ho hi hd hz hk
        · cases hk
      · cases hk
    · cases hk
  · rename_i t x y ho
    split at hk
    · rename_i i hi
      split at hk
      · rename_i e hd
        split at hk
        · rename_i ti hti
          split at hk
          · rename_i kk n hn; exact index_addr_op T hT h ho hi hd hti hn hk (fun _ hx => hx)
          · cases hk
        · cases hk
      · rename_i m e hd
        split at hk
        · rename_i ti hti
          split at hk
          · rename_i kk n hn; exact index_arr_op T hT h ho hi hd hti hn hk (fun _ hx => hx)
          · cases hk
        · cases hk
      · cases hk
    · cases hk
  · rename_i t x y ho
    split at hk
    · rename_i i hi
      split at hk
      · rename_i m e hd
        split at hk
        · rename_i ti hti; exact index_op T hT h ho hi hd hti hk (fun _ hx => hx)
        · cases hk
      · cases hk
    · cases hk
  · rename_i x j ho
    split at hk
    · rename_i l hl
      split at hk
      · rename_i z hz; exact extract_op h ho hl hz hk
      · cases hk
    · cases hk
  · rename_i c ho
    obtain ⟨callee, args, ats⟩ := c
    simp only at hk
    split at hk
    · split at hk
      · rename_i x t hargs hats
        have h1 : args = #[x] := by apply Array.ext'; exact hargs
        have h2 : ats = #[t] := by apply Array.ext'; exact hats
        subst h1 h2
        split at hk
        · rename_i i hi
          split at hk
          · rename_i n hn; exact len_op T hT h ho hi hn hk
          · cases hk
        · cases hk
      · cases hk
    · split at hk
      · rename_i x y t t' hargs hats
        split at hk
        · rename_i ht
          subst ht
          have h1 : args = #[x, y] := by apply Array.ext'; exact hargs
          have h2 : ats = #[t', t'] := by apply Array.ext'; exact hats
          subst h1 h2
          split at hk
          · rename_i i hi
            split at hk
            · rename_i e hd
              split at hk
              · rename_i ti hti; rw [ho] at hp; cases hp
              · cases hk
            · cases hk
          · cases hk
        · cases hk
      · cases hk
    · rename_i f
      split at hk
      · rename_i E hE; rw [ho] at hp; cases hp
      · cases hk
    · cases hk
  · cases hk
/-- An operation that leaves what was there as it was. -/
def stillOp (G : Env) : Op → Bool
  | .alloc _ => true | .box _ _ => true | .buildSlice _ _ _ => true | .makeSlice _ _ _ => true
  | .call c => match c.callee with
    | .value (.func f) => match G.get f with
      | some E => (ownI E.ps).isNone
      | none => false
    | _ => false
  | _ => false
theorem stepOp_still {γ : Type} {T : TT} {G : Env} {mvs : List Tmp} {k : Nat} {o : Oper} {K : St → Option γ} {r : γ} {Q : Exit → Act → World → Prop} (hT : TTok P T) (hG : EnvOK P k G) (h : Rel w0 S0 st μ a w) (hp : stillOp G o.op = true) (hk : stepOp T G mvs k o st K = some r) : o.wp P a w (Nxs w0 S0 w K r) Q := by
  unfold stepOp at hk
  cases ho : o.op with
  | alloc t =>
    rw [ho] at hk
    simp only at hk
    split at hk
    · rename_i i hi; exact alloc_op T hT h ho hi rfl hk
    · cases hk
  | box t x =>
    rw [ho] at hk
    simp only at hk
    split at hk
    · rename_i l hl
      split at hk
      · rename_i hu; exact box_op h ho hl hu hk
      · cases hk
    · cases hk
  | buildSlice t len ps =>
    rw [ho] at hk
    simp only at hk
    split at hk
    · rename_i i hi
      split at hk
      · rename_i e hd
        split at hk
        · rename_i ti hti
          by_cases h0 : len = 0
          · subst h0; exact build_slice_zero T hT h ho hi hd hti hk
          · exact build_slice_op T hT h ho hi hd hti hk h0
        · cases hk
      · cases hk
    · cases hk
  | makeSlice t x y =>
    rw [ho] at hk
    simp only at hk
    split at hk
    · rename_i hs
      have := sameOp_sound hs
      subst this
      split at hk
      · rename_i i hi
        split at hk
        · rename_i e hd
          split at hk
          · rename_i ti hti
            split at hk
            · rename_i kk n hn; exact make_op (y := x) T hT h ho hi hd hti hn hk
            · cases hk
          · cases hk
        · cases hk
      · cases hk
    · cases hk
  | call c =>
    obtain ⟨callee, args, ats⟩ := c
    rw [ho] at hk hp
    simp only [stillOp] at hk hp
    split at hp
    · rename_i f
      split at hp
      · rename_i E hE
        simp only [hE] at hk
        exact call_still (hG.ok f E hE) h ho (Option.isNone_iff_eq_none.1 hp) hk
      · cases hp
    · cases hp
  | _ => rw [ho] at hp; cases hp
end

/-! ### Regions -/
section
variable {γ : Type}
def guardAt (ops : Array Oper) (j : Nat) : Option Tmp := (ops[j]?).bind (·.dst)
def execOps (step : Oper → St → (St → Option γ) → Option γ) (ops : Array Oper) : List Oper → St → (St → Option γ) → Option γ
  | [], st, K => K st
  | o :: rest, st, K => match o.guard with
    | none => step o st fun st1 => execOps step ops rest st1 K
    | some (j, want) => match guardAt ops j with
      | none => none
      | some d => match st.tmps[d]? with
        | some (.sv (.at (.bool b))) =>
          if b = true then
            (if want = true then step o (st.put (some d) (.sv (.at (.bool true)))) fun st1 => execOps step ops rest st1 K
             else execOps step ops rest ((st.put (some d) (.sv (.at (.bool true)))).put o.dst (.tup [])) K)
          else
            (if want = true then execOps step ops rest ((st.put (some d) (.sv (.at (.bool false)))).put o.dst (.tup [])) K
             else step o (st.put (some d) (.sv (.at (.bool false)))) fun st1 => execOps step ops rest st1 K)
        | some (.tup []) => execOps step ops rest (st.put o.dst (.tup [])) K
        | _ => none
end
section
variable {P : Program} {w w1 w0 : World} {S0 : Own} {st : St} {μ : List ORec} {a : Act}
theorem undef_tr {μ : List ORec} {w : World} : TR μ w (.tup []) undef := ⟨[], rfl, rfl, fun j x u hx => by simp at hx⟩
theorem yielded_at {ops : Array Oper} {j : Nat} {d : Tmp} (hg : guardAt ops j = some d) (h : Rel w0 S0 st μ a w) (hd : d < st.tmps.length) : yielded ops a.tmps j = match a.tmps.getD d undef with | .bool b => some b | _ => none := by
  unfold yielded
  unfold guardAt at hg
  have : a.tmps[d]? = some (a.tmps.getD d undef) := getD_of_some (by rw [h.tm]; exact hd)
  simp only [hg, Option.bind_some, this]
  cases a.tmps.getD d undef <;> rfl
theorem execOps_sound {γ : Type} {step : Oper → St → (St → Option γ) → Option γ} {ops : Array Oper} {K : St → Option γ} {r : γ} {Q : Exit → Act → World → Prop} (hQ : ∀ a w, Nx w0 S0 K r a w → Q .normal a w)
    (hstep : ∀ (o : Oper) (st : St) (μ : List ORec) (a : Act) (w : World) (K' : St → Option γ), Rel w0 S0 st μ a w → step o st K' = some r → o.wp P a w (Nx w0 S0 K' r) Q) :
    ∀ (l : List Oper) (st : St) (μ : List ORec) (a : Act) (w : World), Rel w0 S0 st μ a w → execOps step ops l st K = some r → wpList P ops Q l a w
  | [], st, μ, a, w, h, hk => hQ a w ⟨st, μ, h, hk⟩
  | o :: rest, st, μ, a, w, h, hk => by
    have go : ∀ (st : St), Rel w0 S0 st μ a w → Region.wanted o (yielded ops a.tmps) = true → step o st (fun st1 => execOps step ops rest st1 K) = some r → wpList P ops Q (o :: rest) a w := by
      intro st h hw hk
      unfold wpList
      rw [if_pos hw]
      left
      have := hstep o st μ a w _ h hk
      exact Oper.wp_mono (fun a' w' ⟨st', μ', h', hk'⟩ => execOps_sound hQ hstep rest st' μ' a' w' h' hk') this
    have skip : ∀ (st : St), Rel w0 S0 st μ a w → Region.wanted o (yielded ops a.tmps) = false → execOps step ops rest (st.put o.dst (.tup [])) K = some r → wpList P ops Q (o :: rest) a w := by
      intro st h hw hk
      unfold wpList
      rw [if_neg (by rw [hw]; simp)]
      exact execOps_sound hQ hstep rest _ μ _ w (h.put o.dst undef_tr) hk
    simp only [execOps] at hk
    split at hk
    · rename_i hg
      exact go st h (by unfold Region.wanted; rw [hg]) hk
    · rename_i j want hg
      have hwant : ∀ y, yielded ops a.tmps j = y → Region.wanted o (yielded ops a.tmps) = (y == some want) := by
        intro y hy
        unfold Region.wanted
        rw [hg]
        simp only [hy]
      split at hk
      · cases hk
      · rename_i d hd
        split at hk
        · rename_i b hb
          have hlt := (List.getElem?_eq_some_iff.1 hb).1
          have hv : a.tmps.getD d undef = .bool b := (h.tv d _ hb).1
          have hy := yielded_at hd h hlt
          rw [hv] at hy
          have hre : Rel w0 S0 (st.put (some d) (.sv (.at (.bool b)))) μ a w := h.retell (t := d) (x := .sv (.at (.bool b))) (by rw [hv]; exact ⟨rfl, .inr rfl⟩)
          split at hk
          · rename_i hbt
            subst hbt
            split at hk
            · rename_i hw; subst hw
              exact go _ hre (by rw [hwant _ hy]; rfl) hk
            · rename_i hw
              exact skip _ hre (by rw [hwant _ hy]; cases want <;> simp_all) hk
          · rename_i hbf
            have hbf : b = false := by simpa using hbf
            subst hbf
            split at hk
            · rename_i hw; subst hw
              exact skip _ hre (by rw [hwant _ hy]; rfl) hk
            · rename_i hw
              exact go _ hre (by rw [hwant _ hy]; cases want <;> simp_all) hk
        · rename_i hb
          have hlt := (List.getElem?_eq_some_iff.1 hb).1
          obtain ⟨vs, hv, hl, _⟩ := h.tv d _ hb
          obtain rfl : vs = [] := List.eq_nil_of_length_eq_zero hl
          have hy := yielded_at hd h hlt
          rw [hv] at hy
          exact skip st h (by rw [hwant _ hy]; rfl) hk
        · cases hk
end
end Go.Proofs.Ytgpmbmnfcbippaa.Vs
