/- The typed trees of the machine Vs, and what it means that a value in memory holds one: Rep (a tree of one's own), Rd (a tree that is read). -/
import Derived.Below
import Derived.Deep.Draws
import Derived.Maps.AppendAt
import Derived.OwnWalk
import Derived.Laws.MakeOwn
import Derived.Laws.OwnMore
import Derived.Deep.OwnRows
import Derived.Tactics
import Derived.Laws.Slices
import Derived.WalkKit
import Derived.KernelRfl
import Derived.RowKit3
import Derived.Deep.LoopGhost
import Derived.ArgAppend
import Derived.OrdersHeld
import Derived.Laws.BitsLemmas
import Derived.RowKit
import Derived.Laws.Rows
import Derived.Laws.CopyRow
set_option linter.unusedVariables false
set_option linter.unusedSimpArgs false
namespace Go.Proofs.Ytgpmbmnfcbippaa.Vs
open Go.RowKit

/-! ### Types and trees -/
inductive Ty where
  | int (k : IntKind) | bool | str | pair (a b : Ty) | slice (e : TypeId) (t : Ty)
  deriving DecidableEq
@[reducible] def Ty.D : Ty → Type
  | .int _ => Int | .bool => Bool | .str => ByteArray | .pair a b => a.D × b.D | .slice _ t => List t.D
def Ty.sz : Ty → Nat
  | .pair a b => a.sz + b.sz | _ => 1
def Ty.zero : (t : Ty) → t.D
  | .int _ => (0 : Int) | .bool => false | .str => (⟨#[]⟩ : ByteArray) | .pair a b => (a.zero, b.zero) | .slice _ _ => []
/-- No slice lies in it. -/
def Ty.flat : Ty → Bool
  | .pair a b => a.flat && b.flat | .slice _ _ => false | _ => true
theorem Ty.sz_pos : ∀ t : Ty, 0 < t.sz
  | .int _ => Nat.one_pos | .bool => Nat.one_pos | .str => Nat.one_pos | .slice _ _ => Nat.one_pos
  | .pair a b => by have := a.sz_pos; simp only [Ty.sz]; omega

/-! ### Rows of cells of one's own -/
theorem add_at (g o j : Nat) : (⟨g, o, none⟩ : Addr).add j = ⟨g, o + j, none⟩ := by unfold Addr.add; split <;> simp_all
theorem add_at' (a : Addr) (i j : Nat) : (a.add i).add j = a.add (i + j) := by
  unfold Addr.add
  by_cases hi : i = 0 <;> by_cases hj : j = 0 <;> simp [hi, hj, Nat.add_assoc]
theorem add_block (a : Addr) (i : Nat) : (a.add i).block = a.block := by unfold Addr.add; split <;> rfl
theorem cell_at {w : World} {g o : Nat} {cur : Array Value} {e : TypeId} {fr : Nat × Nat} (h : w.heap[g]? = some (.cells cur e fr)) : w.cell? ⟨g, o, none⟩ = cur[o]? := by simp [World.cell?, h]
theorem frozen_at {w : World} {g o : Nat} {cur : Array Value} {e : TypeId} (h : w.heap[g]? = some (.cells cur e (0, 0))) : w.frozen? ⟨g, o, none⟩ = false := by simp [World.frozen?, h]
theorem lt_of_some {w : World} {g : Nat} {o : Obj} (h : w.heap[g]? = some o) : g < w.heap.size := (Array.getElem?_eq_some_iff.1 h).1
def QRow (w : World) (e : TypeId) (size : Nat) (v : Value) (n : Nat) (xs : List Value) : Prop :=
  xs.length = n * size ∧
  ((n = 0 ∧ ∃ A, v = .slice A 0 0 ∧ ∀ a, A = some a → ∃ cur, w.heap[a.block]? = some (.cells cur e (0, 0))) ∨
   ∃ g off cap cur, v = .slice (some ⟨g, off * size, none⟩) n cap ∧ w.heap[g]? = some (.cells cur e (0, 0)) ∧ n ≤ cap ∧ off + cap ≤ maxLen ∧ cur.size = (off + cap) * size ∧ (cur.toList.drop (off * size)).take (n * size) = xs)
section
variable {w w1 : World} {n size : Nat} {e : TypeId} {v : Value} {xs : List Value}
theorem q_nil (w : World) (e : TypeId) (size : Nat) : QRow w e size (.slice none 0 0) 0 [] := ⟨by simp, .inl ⟨rfl, none, rfl, fun a ha => by cases ha⟩⟩
theorem q_of_own {base : Nat} (h : w.ownsRow base e size v n xs) : QRow w e size v n xs := by
  obtain ⟨h1, h2⟩ := h
  refine ⟨h1, ?_⟩
  rcases h2 with ⟨rfl, h0⟩ | ⟨g, cap, cur, rfl, hb, hh, hnc, hcm, hcs, ht⟩
  · exact .inl ⟨h0, none, rfl, fun a ha => by cases ha⟩
  · exact .inr ⟨g, 0, cap, cur, by rw [Nat.zero_mul], hh, hnc, by rw [Nat.zero_add]; exact hcm, by rw [Nat.zero_add]; exact hcs, by rw [Nat.zero_mul, List.drop_zero]; exact ht⟩
theorem q_move (h : QRow w e size v n xs) (hm : ∀ k, v.ownBlock = some k → w1.heap[k]? = w.heap[k]?) : QRow w1 e size v n xs := by
  obtain ⟨h1, h2⟩ := h
  refine ⟨h1, ?_⟩
  rcases h2 with ⟨h0, A, rfl, hA⟩ | ⟨g, off, cap, cur, rfl, hh, r⟩
  · refine .inl ⟨h0, A, rfl, fun a ha => ?_⟩
    obtain ⟨cur, hc⟩ := hA a ha
    subst ha
    exact ⟨cur, (hm a.block (by simp [Value.ownBlock])).trans hc⟩
  · exact .inr ⟨g, off, cap, cur, rfl, (hm g (by simp [Value.ownBlock])).trans hh, r⟩
theorem q_typed (h : QRow w e size v n xs) (k : Nat) (hk : v.ownBlock = some k) : ∃ cells, w.heap[k]? = some (.cells cells e (0, 0)) := by
  rcases h.2 with ⟨_, A, rfl, hA⟩ | ⟨g, off, cap, cur, rfl, hh, r⟩
  · cases A with
    | none => simp [Value.ownBlock] at hk
    | some a =>
      have : a.block = k := by simpa [Value.ownBlock] using hk
      subst this
      exact hA a rfl
  · have : g = k := by simpa [Value.ownBlock] using hk
    subst this
    exact ⟨cur, hh⟩
theorem q_lt (h : QRow w e size v n xs) (k : Nat) (hk : v.ownBlock = some k) : k < w.heap.size := by
  obtain ⟨cells, hc⟩ := q_typed h k hk
  exact lt_of_some hc
theorem q_slice (h : QRow w e size v n xs) : ∃ A c, v = .slice A n c ∧ n ≤ c := by
  rcases h.2 with ⟨h0, A, rfl, _⟩ | ⟨g, off, cap, cur, rfl, hh, hnc, r⟩
  · exact ⟨A, 0, by rw [h0], by omega⟩
  · exact ⟨_, cap, rfl, hnc⟩
theorem q_max (h : QRow w e size v n xs) : n ≤ 9223372036854775807 := by
  rcases h.2 with ⟨h0, _⟩ | ⟨g, off, cap, cur, rfl, hh, hnc, hm, r⟩
  · omega
  · simp only [maxLen] at hm
    omega
theorem q_cells {A : Option Addr} {c : Nat} (h : QRow w e size (.slice A n c) n xs) (hn : 0 < n) : ∃ ad, A = some ad ∧ ∀ j u, xs[j]? = some u → w.cell? (ad.add j) = some u := by
  rcases h.2 with ⟨h0, _⟩ | ⟨g, off, cap, cur, he, hh, hnc, hm, hcs, ht⟩
  · omega
  · injection he with ha _ hc
    subst ha
    refine ⟨_, rfl, fun j u hu => ?_⟩
    rw [add_at, cell_at hh]
    rw [← ht, List.getElem?_take] at hu
    split at hu
    · rw [List.getElem?_drop] at hu
      rw [← Array.getElem?_toList]
      exact hu
    · cases hu
theorem q_drop {A : Option Addr} {c k : Nat} (h : QRow w e size (.slice A n c) n xs) (hk : k ≤ n) : QRow w e size (.slice (if c = k then A else A.map (·.add (k * size))) (n - k) (c - k)) (n - k) (xs.drop (k * size)) := by
  obtain ⟨h1, h2⟩ := h
  refine ⟨by rw [List.length_drop, h1, Nat.sub_mul], ?_⟩
  rcases h2 with ⟨h0, A', he, hA⟩ | ⟨g, off, cap, cur, he, hh, hnc, hcm, hcs, ht⟩
  · injection he with ha hb hc
    subst ha; subst hc
    have hk0 : k = 0 := by omega
    subst hk0
    exact .inl ⟨by omega, A, by rw [if_pos rfl, h0], hA⟩
  · injection he with ha _ hc
    subst ha; subst hc
    by_cases hck : c = k
    · rw [if_pos hck]
      refine .inl ⟨by omega, some ⟨g, off * size, none⟩, ?_, fun a ha => ?_⟩
      · rw [show n - k = 0 by omega, show c - k = 0 by omega]
      · injection ha with ha
        subst ha
        exact ⟨cur, hh⟩
    · rw [if_neg hck]
      refine .inr ⟨g, off + k, c - k, cur, ?_, hh, by omega, by omega, by rw [hcs]; congr 1; omega, ?_⟩
      · rw [Option.map_some, add_at, Nat.add_mul]
      · rw [← ht, List.drop_take, List.drop_drop, Nat.add_mul, Nat.sub_mul]
theorem setCells_far {g : Nat} : ∀ (vs : List Value) (o : Nat) {w : World} (k : Nat), k ≠ g → (w.setCells g o vs).heap[k]? = w.heap[k]?
  | [], _, _, _, _ => rfl
  | v :: r, o, w, k, hk => by
    rw [World.setCells, setCells_far r (o + 1) k hk]
    exact Below.heap_setCell w ⟨g, o, none⟩ v k hk
theorem setCells_same (g : Nat) : ∀ (vs : List Value) (o : Nat) (w : World), (w.setCells g o vs).os = w.os ∧ (w.setCells g o vs).tape = w.tape ∧ (w.setCells g o vs).output = w.output ∧ (w.setCells g o vs).heap.size = w.heap.size
  | [], _, _ => ⟨rfl, rfl, rfl, rfl⟩
  | v :: r, o, w => by
    obtain ⟨h1, h2, h3, h4⟩ := setCells_same g r (o + 1) (w.setCell ⟨g, o, none⟩ v)
    rw [World.setCells]
    exact ⟨h1, h2, h3, by rw [h4]; simp [World.setCell]⟩
theorem blk_set {g : Nat} {cur : Array Value} {e : TypeId} (h : w.heap[g]? = some (.cells cur e (0, 0))) (o : Nat) (v : Value) : (w.setCell ⟨g, o, none⟩ v).heap[g]? = some (.cells (cur.setIfInBounds o v) e (0, 0)) := by
  have hlt := lt_of_some h
  have hg : w.heap[g] = .cells cur e (0, 0) := by rw [Array.getElem?_eq_getElem hlt] at h; exact Option.some.inj h
  simp [World.setCell, Array.getElem_modify, hlt, hg]
theorem setCells_row {g : Nat} {e : TypeId} : ∀ (vs : List Value) (o : Nat) (w : World) (cur : Array Value), w.heap[g]? = some (.cells cur e (0, 0)) → o + vs.length ≤ cur.size →
    ∃ cur', (w.setCells g o vs).heap[g]? = some (.cells cur' e (0, 0)) ∧ cur'.size = cur.size ∧ cur'.toList = cur.toList.take o ++ vs ++ cur.toList.drop (o + vs.length)
  | [], o, w, cur, h, _ => ⟨cur, h, rfl, by simp⟩
  | v :: r, o, w, cur, h, hl => by
    have h2 := blk_set h o v
    simp only [List.length_cons] at hl
    obtain ⟨cur', h3, h4, h5⟩ := setCells_row r (o + 1) (w.setCell ⟨g, o, none⟩ v) _ h2 (by simp; omega)
    refine ⟨cur', h3, by rw [h4]; simp, ?_⟩
    rw [h5, Array.toList_setIfInBounds]
    have ho : o < cur.toList.length := by rw [Array.length_toList]; omega
    rw [List.take_set, List.drop_set_of_lt (by omega)]
    simp only [List.length_cons]
    rw [show o + 1 + r.length = o + (r.length + 1) by omega]
    congr 1
    rw [List.take_succ_eq_append_getElem ho, List.set_append_right _ _ (by rw [List.length_take]; omega)]
    have ho' : o < cur.size := by omega
    simp [Nat.min_eq_left (Nat.le_of_lt ho')]
end
section
variable {P : Program}
theorem q_append (w : World) (t ty e : TypeId) (i : TypeInfo) (z : Value) (size bytes : Nat) (ht : P.underlying t = some (.slice e)) (hi : P.info? e = some i) (hz : i.zero = some z)
    (hsize : i.size = size) (hby : i.bytes = bytes) (hzs : z.cells.size = size) (hsz : 0 < size)
    (v : Value) (n : Nat) (xs : List Value) (hown : QRow w e size v n xs)
    (a : Addr) (m c : Nat) (news : List Value) (hl : news.length = m * size) (hnews : ∀ j u, news[j]? = some u → w.cell? (a.add j) = some u) (h1 : ∀ u ∈ news, u.oneCell' = true) (hm : 0 < m)
    (h63 : n + m ≤ maxLen) (hbytes : (n + m) * bytes ≤ 140737488355328) :
    ∃ v' w', (Builtin.append_ #[t, t] ty #[v, .slice (some a) m c]).run P w = .ok v' w' ∧ QRow w' e size v' (n + m) (xs ++ news) ∧ w.grownBy w' v.ownBlock ∧ (v'.ownBlock = v.ownBlock ∨ ∃ b, v'.ownBlock = some b ∧ w.heap.size ≤ b) ∧ QRow w' e size v n xs := by
  have grows : ∀ (b : Addr) (cap : Nat), cap < n + m → (∀ j u, xs[j]? = some u → w.cell? (b.add j) = some u) → v = .slice (some b) n cap →
      ∃ v' w', (Builtin.append_ #[t, t] ty #[v, .slice (some a) m c]).run P w = .ok v' w' ∧ QRow w' e size v' (n + m) (xs ++ news) ∧ w.grownBy w' v.ownBlock ∧ (v'.ownBlock = v.ownBlock ∨ ∃ b, v'.ownBlock = some b ∧ w.heap.size ≤ b) ∧ QRow w' e size v n xs := by
    intro b cap hcap hcells hv
    obtain ⟨v', w', hr, ho, hg⟩ := run_append_arg_grows (P := P) (w := w) t ty e i z size bytes ht hi hz hsize hby hzs hsz b n cap xs hown.1 hcells a m c news hl hnews hcap h63 hbytes
    refine ⟨v', w', by rw [hv]; exact hr, q_of_own ho, ⟨hg.os, hg.tape, hg.output, hg.size, fun k hk _ => hg.block k hk (by simp)⟩, ?_, q_move hown (fun k hk => hg.block k (q_lt hown k hk) (by simp))⟩
    rcases ho.2 with ⟨_, h0⟩ | ⟨g', cap', cur', he, hb, _⟩
    · omega
    · exact .inr ⟨g', by rw [he]; simp [Value.ownBlock], hb⟩
  rcases hown.2 with ⟨h0, A, hv, hA⟩ | ⟨g, off, cap, cur, hv, hg, hnc, hcm, hcs, htake⟩
  · cases A with
    | none =>
      subst h0
      have ho : w.ownsRow 0 e size v 0 xs := ⟨hown.1, .inl ⟨hv, rfl⟩⟩
      obtain ⟨v', w', hr, ho', hg, _, hat⟩ := run_append_own_at (P := P) w 0 t ty e i z size bytes ht hi hz hsize hby hzs hsz v 0 xs ho a m c news hl hnews h1 h63 hbytes (Nat.zero_le _)
      refine ⟨v', w', hr, q_of_own ho', hg, ?_, q_move hown (fun k hk => by rw [hv] at hk; simp [Value.ownBlock] at hk)⟩
      rcases hat with hat | hat
      · exact .inl hat
      · exact .inr ⟨_, hat, Nat.le_refl _⟩
    | some b =>
      have hx : xs = [] := List.eq_nil_of_length_eq_zero (by rw [hown.1, h0, Nat.zero_mul])
      exact grows b 0 (by omega) (fun j u hu => by rw [hx] at hu; simp at hu) (by rw [hv, h0])
  · by_cases hroom : n + m ≤ cap
    · have hfit : off * size + n * size + news.length ≤ cur.size := by
        rw [hl, hcs, ← Nat.add_mul, ← Nat.add_mul]
        exact Nat.mul_le_mul_right _ (by omega)
      subst hsize
      have hr := run_append_room_cells (P := P) (w := w) t ty e i ht hi g (off * i.size) n cap a m c news hl hnews h1 hroom
        (fun j hj => by rw [cell_at hg]; simp; omega) (fun j _ => frozen_at hg)
      obtain ⟨cur', h3, h4, h5⟩ := setCells_row news (off * i.size + n * i.size) w cur hg hfit
      obtain ⟨s1, s2, s3, s4⟩ := setCells_same g news (off * i.size + n * i.size) w
      refine ⟨_, _, by rw [hv]; exact hr, ⟨by rw [List.length_append, hown.1, hl, Nat.add_mul], .inr ⟨g, off, cap, cur', rfl, h3, hroom, hcm, by rw [h4, hcs], ?_⟩⟩,
        ⟨s1, s2, s3, by rw [s4]; exact Nat.le_refl _, fun k _ hk => setCells_far news _ k (fun he => hk (by rw [hv, he]; simp [Value.ownBlock]))⟩, .inl (by rw [hv]; rfl), ⟨hown.1, .inr ⟨g, off, cap, cur', hv, h3, hnc, hcm, by rw [h4, hcs], ?_⟩⟩⟩
      · rw [h5, List.append_assoc, List.drop_append_of_le_length (by rw [List.length_take, Array.length_toList]; omega), List.drop_take]
        rw [show off * i.size + n * i.size - off * i.size = n * i.size by omega, htake]
        rw [← List.append_assoc]
        exact List.take_left' (by rw [List.length_append, hown.1, hl, Nat.add_mul])
      · rw [h5, List.append_assoc, List.drop_append_of_le_length (by rw [List.length_take, Array.length_toList]; omega), List.drop_take]
        rw [show off * i.size + n * i.size - off * i.size = n * i.size by omega, htake]
        exact List.take_left' hown.1
    · refine grows ⟨g, off * size, none⟩ cap (by omega) (fun j u hu => ?_) hv
      rw [add_at, cell_at hg]
      rw [← htake, List.getElem?_take] at hu
      split at hu
      · rw [List.getElem?_drop] at hu
        rw [← Array.getElem?_toList]
        exact hu
      · cases hu
end

/-! ### A tree of one's own in memory -/
/-- The cells of element j. -/
def seg (inner : List Value) (sz j : Nat) : List Value := (inner.drop (j * sz)).take sz
def RowRep {α : Type} (R : World → (Nat → Prop) → α → List Value → Prop) (sz : Nat) (e : TypeId) (w : World) (S : Nat → Prop) (xs : List α) (v : Value) : Prop :=
  ∃ inner, QRow w e sz v xs.length inner ∧ (∀ k, v.ownBlock = some k → S k) ∧
    ∃ f : Nat → Nat, ∀ j x, xs[j]? = some x → R w (fun k => S k ∧ v.ownBlock ≠ some k ∧ f k = j) x (seg inner sz j)
def Rep : (t : Ty) → World → (Nat → Prop) → t.D → List Value → Prop
  | .int k, _, _, n, cs => cs = [.int k n]
  | .bool, _, _, b, cs => cs = [.bool b]
  | .str, _, _, s, cs => cs = [.string s]
  | .pair a b, w, S, x, cs => ∃ c0 c1 S0 S1, cs = c0 ++ c1 ∧ Rep a w S0 x.1 c0 ∧ Rep b w S1 x.2 c1 ∧ (∀ k, S0 k → S k ∧ ¬ S1 k) ∧ (∀ k, S1 k → S k)
  | .slice e t, w, S, xs, cs => ∃ v, cs = [v] ∧ RowRep (Rep t) t.sz e w S xs v
/-- A row that is read. -/
def RowRd {α : Type} (R : World → (Nat → Prop) → α → List Value → Prop) (sz : Nat) (w : World) (S : Nat → Prop) (xs : List α) (v : Value) : Prop :=
  ∃ A c, v = .slice A xs.length c ∧ xs.length ≤ c ∧ xs.length ≤ 9223372036854775807 ∧
    (0 < xs.length → ∃ a, A = some a ∧ S a.block ∧ ∀ j x, xs[j]? = some x → ∃ cs : List Value, cs.length = sz ∧ (∀ i u, cs[i]? = some u → w.cell? (a.add (j * sz + i)) = some u) ∧ R w S x cs)
def Rd : (t : Ty) → World → (Nat → Prop) → t.D → List Value → Prop
  | .int k, _, _, n, cs => cs = [.int k n]
  | .bool, _, _, b, cs => cs = [.bool b]
  | .str, _, _, s, cs => cs = [.string s]
  | .pair a b, w, S, x, cs => ∃ c0 c1, cs = c0 ++ c1 ∧ Rd a w S x.1 c0 ∧ Rd b w S x.2 c1
  | .slice e t, w, S, xs, cs => ∃ v, cs = [v] ∧ RowRd (Rd t) t.sz w S xs v

theorem RowRep.imp {α : Type} {R R' : World → (Nat → Prop) → α → List Value → Prop} {sz : Nat} {e : TypeId} {w w1 : World} {S S' : Nat → Prop} {xs : List α} {v : Value}
    (h : RowRep R sz e w S xs v) (hS : ∀ k, S k → S' k) (hm : ∀ k, S k → w1.heap[k]? = w.heap[k]?)
    (hR : ∀ T T' x cs, (∀ k, T k → S k) → (∀ k, T k → T' k) → R w T x cs → R' w1 T' x cs) : RowRep R' sz e w1 S' xs v := by
  obtain ⟨inner, hq, hb, f, hr⟩ := h
  exact ⟨inner, q_move hq (fun k hk => hm k (hb k hk)), fun k hk => hS k (hb k hk), f, fun j x hj => hR _ _ x _ (fun k hk => hk.1) (fun k hk => ⟨hS k hk.1, hk.2⟩) (hr j x hj)⟩
theorem Rep.len : ∀ {t : Ty} {w : World} {S : Nat → Prop} {x : t.D} {cs : List Value}, Rep t w S x cs → cs.length = t.sz
  | .int _, _, _, _, _, h => by rw [show _ = _ from h]; rfl
  | .bool, _, _, _, _, h => by rw [show _ = _ from h]; rfl
  | .str, _, _, _, _, h => by rw [show _ = _ from h]; rfl
  | .pair a b, _, _, _, _, h => by
    obtain ⟨c0, c1, S0, S1, rfl, h0, h1, _⟩ := h
    rw [List.length_append, Rep.len h0, Rep.len h1]; rfl
  | .slice _ _, _, _, _, _, h => by
    obtain ⟨v, rfl, _⟩ := h
    rfl
/-- Moved to another world that keeps its blocks, and to a wider footprint. -/
theorem Rep.move : ∀ {t : Ty} {w w1 : World} {S S' : Nat → Prop} {x : t.D} {cs : List Value}, Rep t w S x cs → (∀ k, S k → S' k) → (∀ k, S k → w1.heap[k]? = w.heap[k]?) → Rep t w1 S' x cs
  | .int _, _, _, _, _, _, _, h, _, _ => h
  | .bool, _, _, _, _, _, _, h, _, _ => h
  | .str, _, _, _, _, _, _, h, _, _ => h
  | .pair a b, _, _, _, _, _, _, h, hS, hm => by
    obtain ⟨c0, c1, S0, S1, rfl, h0, h1, h2, h3⟩ := h
    exact ⟨c0, c1, S0, S1, rfl, h0.move (fun _ hk => hk) (fun k hk => hm k (h2 k hk).1), h1.move (fun _ hk => hk) (fun k hk => hm k (h3 k hk)), fun k hk => ⟨hS k (h2 k hk).1, (h2 k hk).2⟩, fun k hk => hS k (h3 k hk)⟩
  | .slice e t, _, _, _, _, _, _, h, hS, hm => by
    obtain ⟨v, rfl, hr⟩ := h
    exact ⟨v, rfl, hr.imp hS hm (fun T T' x cs h1 h2 h3 => h3.move h2 (fun k hk => hm k (h1 k hk)))⟩
theorem Rep.wide {t : Ty} {w : World} {S S' : Nat → Prop} {x : t.D} {cs : List Value} (h : Rep t w S x cs) (hS : ∀ k, S k → S' k) : Rep t w S' x cs := h.move hS (fun _ _ => rfl)
theorem Rep.bound : ∀ {t : Ty} {w : World} {S : Nat → Prop} {x : t.D} {cs : List Value}, Rep t w S x cs → Rep t w (fun k => S k ∧ k < w.heap.size) x cs
  | .int _, _, _, _, _, h => h
  | .bool, _, _, _, _, h => h
  | .str, _, _, _, _, h => h
  | .pair a b, _, _, _, _, h => by
    obtain ⟨c0, c1, S0, S1, rfl, h0, h1, h2, h3⟩ := h
    exact ⟨c0, c1, _, _, rfl, h0.bound, h1.bound, fun k hk => ⟨⟨(h2 k hk.1).1, hk.2⟩, fun h => (h2 k hk.1).2 h.1⟩, fun k hk => ⟨h3 k hk.1, hk.2⟩⟩
  | .slice e t, w, _, _, _, h => by
    obtain ⟨v, rfl, inner, hq, hb, f, hr⟩ := h
    exact ⟨v, rfl, inner, hq, fun k hk => ⟨hb k hk, q_lt hq k hk⟩, f, fun j x hj => (hr j x hj).bound.wide (fun k hk => ⟨⟨hk.1.1, hk.2⟩, hk.1.2⟩)⟩
theorem Rep.one : ∀ {t : Ty} {w : World} {S : Nat → Prop} {x : t.D} {cs : List Value}, Rep t w S x cs → ∀ u ∈ cs, u.oneCell' = true
  | .int _, _, _, _, _, h, u, hu => by rw [show _ = _ from h] at hu; rw [List.mem_singleton.1 hu]; rfl
  | .bool, _, _, _, _, h, u, hu => by rw [show _ = _ from h] at hu; rw [List.mem_singleton.1 hu]; rfl
  | .str, _, _, _, _, h, u, hu => by rw [show _ = _ from h] at hu; rw [List.mem_singleton.1 hu]; rfl
  | .pair a b, _, _, _, _, h, u, hu => by
    obtain ⟨c0, c1, S0, S1, rfl, h0, h1, _⟩ := h
    rcases List.mem_append.1 hu with hu | hu
    · exact h0.one u hu
    · exact h1.one u hu
  | .slice _ _, _, _, _, _, h, u, hu => by
    obtain ⟨v, rfl, inner, hq, _⟩ := h
    obtain ⟨A, c, rfl, _⟩ := q_slice hq
    rw [List.mem_singleton.1 hu]; rfl

/-! ### A tree that is read -/
theorem Rd.len : ∀ {t : Ty} {w : World} {S : Nat → Prop} {x : t.D} {cs : List Value}, Rd t w S x cs → cs.length = t.sz
  | .int _, _, _, _, _, h => by rw [show _ = _ from h]; rfl
  | .bool, _, _, _, _, h => by rw [show _ = _ from h]; rfl
  | .str, _, _, _, _, h => by rw [show _ = _ from h]; rfl
  | .pair a b, _, _, _, _, h => by
    obtain ⟨c0, c1, rfl, h0, h1⟩ := h
    rw [List.length_append, Rd.len h0, Rd.len h1]; rfl
  | .slice _ _, _, _, _, _, h => by
    obtain ⟨v, rfl, _⟩ := h
    rfl
theorem cell_keep {w w1 : World} {a : Addr} {u : Value} (h : w1.heap[a.block]? = w.heap[a.block]?) (hc : w.cell? a = some u) : w1.cell? a = some u := by simpa [World.cell?, h] using hc
theorem Rd.move : ∀ {t : Ty} {w w1 : World} {S S' : Nat → Prop} {x : t.D} {cs : List Value}, Rd t w S x cs → (∀ k, S k → S' k) → (∀ k, S k → w1.heap[k]? = w.heap[k]?) → Rd t w1 S' x cs
  | .int _, _, _, _, _, _, _, h, _, _ => h
  | .bool, _, _, _, _, _, _, h, _, _ => h
  | .str, _, _, _, _, _, _, h, _, _ => h
  | .pair a b, _, _, _, _, _, _, h, hS, hm => by
    obtain ⟨c0, c1, rfl, h0, h1⟩ := h
    exact ⟨c0, c1, rfl, h0.move hS hm, h1.move hS hm⟩
  | .slice e t, _, _, _, _, _, _, h, hS, hm => by
    obtain ⟨v, rfl, A, c, hv, hl, hx, hr⟩ := h
    refine ⟨v, rfl, A, c, hv, hl, hx, fun h0 => ?_⟩
    obtain ⟨a, ha, hs, hel⟩ := hr h0
    refine ⟨a, ha, hS _ hs, fun j x hj => ?_⟩
    obtain ⟨cs, h1, h2, h3⟩ := hel j x hj
    exact ⟨cs, h1, fun i u hu => cell_keep (by rw [add_block]; exact hm _ hs) (h2 i u hu), h3.move hS hm⟩
theorem Rd.wide {t : Ty} {w : World} {S S' : Nat → Prop} {x : t.D} {cs : List Value} (h : Rd t w S x cs) (hS : ∀ k, S k → S' k) : Rd t w S' x cs := h.move hS (fun _ _ => rfl)
/-- What lies in memory lies below its size. -/
theorem Rd.bound : ∀ {t : Ty} {w : World} {S : Nat → Prop} {x : t.D} {cs : List Value}, Rd t w S x cs → Rd t w (fun k => S k ∧ k < w.heap.size) x cs
  | .int _, _, _, _, _, h => h
  | .bool, _, _, _, _, h => h
  | .str, _, _, _, _, h => h
  | .pair a b, _, _, _, _, h => by
    obtain ⟨c0, c1, rfl, h0, h1⟩ := h
    exact ⟨c0, c1, rfl, h0.bound, h1.bound⟩
  | .slice e t, w, S, xs, _, h => by
    obtain ⟨v, rfl, A, c, hv, hl, hx, hr⟩ := h
    refine ⟨v, rfl, A, c, hv, hl, hx, fun h0 => ?_⟩
    obtain ⟨a, ha, hs, hel⟩ := hr h0
    refine ⟨a, ha, ⟨hs, ?_⟩, fun j x hj => ?_⟩
    · obtain ⟨cs, h1, h2, h3⟩ := hel 0 xs[0] (List.getElem?_eq_getElem h0)
      have hp := t.sz_pos
      have hc := h2 0 cs[0] (List.getElem?_eq_getElem (by omega))
      have hb := World.block_lt_of_cell? w _ hc
      rwa [add_block] at hb
    · obtain ⟨cs, h1, h2, h3⟩ := hel j x hj
      exact ⟨cs, h1, h2, h3.bound⟩
theorem seg_len {inner : List Value} {sz n j : Nat} (h : inner.length = n * sz) (hj : j < n) : (seg inner sz j).length = sz := by
  have : (j + 1) * sz ≤ n * sz := Nat.mul_le_mul_right _ hj
  rw [Nat.succ_mul] at this
  simp only [seg, List.length_take, List.length_drop]
  omega
theorem seg_at {inner : List Value} {sz j i : Nat} {u : Value} (h : (seg inner sz j)[i]? = some u) : inner[j * sz + i]? = some u := by
  simp only [seg, List.getElem?_take, List.getElem?_drop] at h
  split at h
  · exact h
  · cases h
theorem Rep.rd : ∀ {t : Ty} {w : World} {S : Nat → Prop} {x : t.D} {cs : List Value}, Rep t w S x cs → Rd t w S x cs
  | .int _, _, _, _, _, h => h
  | .bool, _, _, _, _, h => h
  | .str, _, _, _, _, h => h
  | .pair a b, _, _, _, _, h => by
    obtain ⟨c0, c1, S0, S1, rfl, h0, h1, h2, h3⟩ := h
    exact ⟨c0, c1, rfl, h0.rd.wide (fun k hk => (h2 k hk).1), h1.rd.wide h3⟩
  | .slice e t, w, S, xs, _, h => by
    obtain ⟨v, rfl, inner, hq, hb, f, hr⟩ := h
    obtain ⟨A, c, rfl, hc⟩ := q_slice hq
    refine ⟨_, rfl, A, c, rfl, hc, q_max hq, fun h0 => ?_⟩
    obtain ⟨a, rfl, hcell⟩ := q_cells hq h0
    refine ⟨a, rfl, hb _ rfl, fun j x hj => ⟨seg inner t.sz j, (hr j x hj).len, fun i u hu => hcell _ u (seg_at hu), (hr j x hj).rd.wide (fun k hk => hk.1)⟩⟩

end Go.Proofs.Ytgpmbmnfcbippaa.Vs
