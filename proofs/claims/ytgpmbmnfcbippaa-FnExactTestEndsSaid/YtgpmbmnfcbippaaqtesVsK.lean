/- Calls: what a function promises (a contract), and what the machine does with it. -/
import Derived.Test.YtgpmbmnfcbippaaqtesVsJ
set_option linter.unusedVariables false
set_option linter.unusedSimpArgs false
namespace Go.Proofs.Ytgpmbmnfcbippaa.Vs
open Go.RowKit

/-! ### Trees given -/
def giveTree : (t : Ty) → t.D → St → List At × St
  | .int k, n, st => ([.int k n], st)
  | .bool, b, st => ([.bool b], st)
  | .str, s, st => ([.str s], st)
  | .pair a b, x, st => ((giveTree a x.1 st).1 ++ (giveTree b x.2 (giveTree a x.1 st).2).1, (giveTree b x.2 (giveTree a x.1 st).2).2)
  | .slice e t, xs, st => ([.sl st.objs.length], st.push (.row true e t xs))

section
variable {P : Program} {w w1 w0 : World} {S0 : Own} {st : St} {μ : List ORec} {a : Act}
theorem giveTree_sound : ∀ {t : Ty} {x : t.D} {st : St} {μ : List ORec} {S : Nat → Prop} {cs : List Value}, Rel w0 S0 st μ a w → Rep t w S x cs → (∀ k, S k → (S0.gv k ∨ w0.heap.size ≤ k) ∧ k < w.heap.size) → (∀ (j : Nat) q, μ[j]? = some q → ∀ k, S k → ¬ q.ok k) →
    ∃ μ', Rel w0 S0 (giveTree t x st).2 μ' a w ∧ AL μ' w (giveTree t x st).1 cs ∧ (∀ (j : Nat) q, μ[j]? = some q → μ'[j]? = some q) ∧ (∀ (j : Nat) q, μ'[j]? = some q → μ[j]? = some q ∨ ∀ k, q.ok k → S k)
  | .int k, n, st, μ, S, cs, h, hr, hS, hd => ⟨μ, h, by rw [show cs = [.int k n] from hr]; exact AL.one (show AR μ w (.int k n) _ from rfl), fun _ _ hq => hq, fun _ _ hq => .inl hq⟩
  | .bool, b, st, μ, S, cs, h, hr, hS, hd => ⟨μ, h, by rw [show cs = [.bool b] from hr]; exact AL.one (show AR μ w (.bool b) _ from rfl), fun _ _ hq => hq, fun _ _ hq => .inl hq⟩
  | .str, s, st, μ, S, cs, h, hr, hS, hd => ⟨μ, h, by rw [show cs = [.string s] from hr]; exact AL.one (show AR μ w (.str s) _ from rfl), fun _ _ hq => hq, fun _ _ hq => .inl hq⟩
  | .pair ta tb, x, st, μ, S, cs, h, hr, hS, hd => by
    obtain ⟨c0, c1, S0', S1', rfl, h0, h1, d0, d1⟩ := hr
    obtain ⟨μ1, r1, a1, m1, n1⟩ := giveTree_sound (t := ta) h h0 (fun k hk => hS k (d0 k hk).1) (fun j q hq k hk => hd j q hq k (d0 k hk).1)
    obtain ⟨μ2, r2, a2, m2, n2⟩ := giveTree_sound (t := tb) r1 h1 (fun k hk => hS k (d1 k hk)) (fun j q hq k hk => by
      rcases n1 j q hq with h3 | h3
      · exact hd j q h3 k (d1 k hk)
      · exact fun hqk => (d0 k (h3 k hqk)).2 hk)
    refine ⟨μ2, r2, AL.append (a1.imp id (by simp) (fun y u _ hy => hy.more m2)) a2, fun j q hq => m2 j q (m1 j q hq), fun j q hq => ?_⟩
    rcases n2 j q hq with h3 | h3
    · rcases n1 j q h3 with h4 | h4
      · exact .inl h4
      · exact .inr fun k hk => (d0 k (h4 k hk)).1
    · exact .inr fun k hk => d1 k (h3 k hk)
  | .slice e t, xs, st, μ, S, cs, h, hr, hS, hd => by
    obtain ⟨v, rfl, hrow⟩ := hr
    obtain ⟨A, c, hv, _⟩ := row_val hrow
    have hμ : ∀ (j : Nat) q, μ[j]? = some q → (μ ++ [⟨v, 0, S⟩])[j]? = some q := fun j q hq => by
      rw [List.getElem?_append_left (List.getElem?_eq_some_iff.1 hq).1]; exact hq
    refine ⟨μ ++ [⟨v, 0, S⟩], by simp only [giveTree]; exact h.push (o := .row true e t xs) (r := ⟨v, 0, S⟩) hrow (fun _ j q hq k hk => hd j q hq k hk) (fun j o q _ _ hq k hk hk2 => hd j q hq k hk2 hk) (fun _ k hk => (hS k hk).1.imp (S0.go k) id) (fun _ _ _ _ k hk => (hS k hk).1) (fun k hk => (hS k hk).2), ?_, hμ, fun j q hq => ?_⟩
    · simp only [giveTree]
      refine AL.one (show AR _ w (.sl st.objs.length) v from ⟨⟨v, 0, S⟩, ?_, rfl, A, _, c, hv⟩)
      rw [← h.len]
      exact last_rec _ _
    · rcases Nat.lt_or_ge j μ.length with hlt | hge
      · rw [List.getElem?_append_left hlt] at hq
        exact .inl hq
      · rw [List.getElem?_append_right hge] at hq
        have h1 := (List.getElem?_eq_some_iff.1 hq).1
        simp at h1
        have : j = μ.length := by omega
        subst this
        simp at hq
        subst hq
        exact .inr fun k hk => hk
/-! ### Trees of one's own handed in: one row in them -/
def oneLeaf : Ty → Nat → TypeId → Ty → Bool
  | .slice e' u', pos, e, u => pos == 0 && e' == e && decide (u' = u)
  | .pair a b, pos, e, u => if pos < a.sz then oneLeaf a pos e u && b.flat else a.flat && oneLeaf b (pos - a.sz) e u
  | _, _, _, _ => false
theorem own_tree (h : Rel w0 S0 st μ a w) {i : Nat} {e : TypeId} {u : Ty} {fr : Bool} {zs : List u.D} {rec : ORec} (ho : st.objs[i]? = some (.row fr e u zs)) (hrec : μ[i]? = some rec) : ∀ {t : Ty} {l : List At} {vs : List Value} {x : t.D} {pos : Nat}, AL μ w l vs → readTree st [] t l = some x → oneLeaf t pos e u = true → l[pos]? = some (.sl i) →
    Rep t w rec.ok x vs ∧ vs[pos]? = some rec.v
  | .int _, l, vs, x, pos, hA, hr, h1, hl => by cases h1
  | .bool, l, vs, x, pos, hA, hr, h1, hl => by cases h1
  | .str, l, vs, x, pos, hA, hr, h1, hl => by cases h1
  | .slice e' u', l, vs, x, pos, hA, hr, h1, hl => by
    simp only [oneLeaf, Bool.and_eq_true, beq_iff_eq, decide_eq_true_eq] at h1
    obtain ⟨⟨rfl, rfl⟩, rfl⟩ := h1
    match l, hr, hl with
    | [y], hr, hl =>
      obtain rfl : y = .sl i := by simpa using hl
      obtain ⟨v, rfl, hv⟩ := hA.single
      obtain ⟨q, hq, hqv, _⟩ := hv
      rw [hrec] at hq
      injection hq with hq
      subst hq
      simp only [readTree, readSl, ho] at hr
      simp at hr
      subst hr
      exact ⟨⟨v, rfl, by rw [hqv]; exact h.ob i _ rec ho hrec⟩, by rw [hqv]; rfl⟩
  | .pair ta tb, l, vs, x, pos, hA, hr, h1, hl => by
    simp only [readTree] at hr
    split at hr
    · rename_i xa xb ha hb
      injection hr with hr
      subst hr
      simp only [oneLeaf] at h1
      split at h1
      · rename_i hp
        simp only [Bool.and_eq_true] at h1
        obtain ⟨hra, hva⟩ := own_tree h ho hrec (hA.take ta.sz) ha h1.1 (by rw [List.getElem?_take, if_pos hp]; exact hl)
        have hrb := flat_rep (S := okBut μ []) h1.2 (readTree_sound h (hA.drop ta.sz) hb)
        refine ⟨⟨_, _, rec.ok, fun _ => False, (List.take_append_drop ta.sz vs).symm, hra, hrb, fun k hk => ⟨hk, fun hf => hf⟩, fun _ hf => hf.elim⟩, ?_⟩
        rw [List.getElem?_take, if_pos hp] at hva
        exact hva
      · rename_i hp
        simp only [Bool.and_eq_true] at h1
        obtain ⟨hrb, hvb⟩ := own_tree h ho hrec (hA.drop ta.sz) hb h1.2 (by rw [List.getElem?_drop, show ta.sz + (pos - ta.sz) = pos by omega]; exact hl)
        have hra := flat_rep (S := okBut μ []) h1.1 (readTree_sound h (hA.take ta.sz) ha)
        refine ⟨⟨_, _, fun _ => False, rec.ok, (List.take_append_drop ta.sz vs).symm, hra, hrb, fun _ hf => hf.elim, fun k hk => hk⟩, ?_⟩
        rw [List.getElem?_drop, show ta.sz + (pos - ta.sz) = pos by omega] at hvb
        exact hvb
    · cases hr
end
end Go.Proofs.Ytgpmbmnfcbippaa.Vs
