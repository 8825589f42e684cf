/- The abstract state of the machine Vs, and how it stands to a frame and a world. -/
import Derived.Test.YtgpmbmnfcbippaaqtesVsA
set_option linter.unusedVariables false
set_option linter.unusedSimpArgs false
namespace Go.Proofs.Ytgpmbmnfcbippaa.Vs
open Go.RowKit

/-- What one cell holds. Objects are named by their numbers. -/
inductive At where
  | un
  | int (k : IntKind) (n : Int)
  | bool (b : Bool)
  | str (s : ByteArray)
  | nils
  | sl (i : Nat)
  | snap (i : Nat) (t : Ty) (xs : List t.D)
  | inn (i : Nat) (j : Int)
  | ptr (i f : Nat)
  | ep (i : Nat) (t : Ty) (j : Int) (f : Nat)
  | es (i : Nat) (t : Ty) (x : t.D) (f : Nat)
  | app (i : Nat) (j : Int) (t : Ty) (xs : List t.D)
inductive SV where
  | at (x : At)
  | agg (l : List At)
inductive TV where
  | sv (x : SV)
  | tup (l : List SV)
inductive Ob where
  | dead
  | ro
  | row (fresh : Bool) (e : TypeId) (t : Ty) (xs : List t.D)
  | box (e : TypeId) (cells : List At)
structure St where
  tmps : List TV
  objs : List Ob
structure ORec where
  v : Value
  blk : Nat
  ok : Nat → Prop
def Ob.owned : Ob → Bool
  | .row .. => true | .box .. => true | _ => false
/-- The object whose content an atom leans on. -/
def At.dep : At → Option Nat
  | .snap i _ _ => some i | .es i _ _ _ => some i | .inn i _ => some i | .app i _ _ _ => some i | _ => none
def At.kill (i : Nat) (x : At) : At := if x.dep = some i then .un else x
def SV.kill (i : Nat) : SV → SV
  | .at x => .at (x.kill i) | .agg l => .agg (l.map (At.kill i))
def TV.kill (i : Nat) : TV → TV
  | .sv x => .sv (x.kill i) | .tup l => .tup (l.map (SV.kill i))
def Ob.kill (i : Nat) : Ob → Ob
  | .box e l => .box e (l.map (At.kill i)) | o => o
def St.kill (i : Nat) (st : St) : St := { tmps := st.tmps.map (TV.kill i), objs := st.objs.map (Ob.kill i) }
def St.die (i : Nat) (st : St) : St := { tmps := st.tmps.map (TV.kill i), objs := (st.objs.map (Ob.kill i)).set i .dead }
def St.put (st : St) (dst : Option Tmp) (x : TV) : St :=
  match dst with
  | some d => { st with tmps := st.tmps.set d x }
  | none => st

/-- Put into place j of the row, the value makes it hold xs. -/
def AppR (w : World) (r : ORec) (j : Int) (t : Ty) (xs : List t.D) (v : Value) : Prop :=
  ∃ (g off n c : Nat) (e : TypeId) (cur : Array Value), r.v = .slice (some ⟨g, off * t.sz, none⟩) n c ∧ 0 ≤ j ∧ j < n ∧ r.ok g ∧ w.heap[g]? = some (.cells cur e (0, 0)) ∧ off * t.sz + (j.toNat * t.sz + 0) + 1 ≤ cur.size ∧ (∃ A m c', v = .slice A m c') ∧
    RowRep (Rep t) t.sz e (w.setRow g (cur.toList.take (off * t.sz + (j.toNat * t.sz + 0)) ++ [v] ++ cur.toList.drop (off * t.sz + (j.toNat * t.sz + 0) + 1)).toArray) r.ok xs r.v
theorem AppR.move {w w1 : World} {r : ORec} {j : Int} {t : Ty} {xs : List t.D} {v : Value} (h : AppR w r j t xs v) (hm : ∀ k, r.ok k → w1.heap[k]? = w.heap[k]?) : AppR w1 r j t xs v := by
  obtain ⟨g, off, n, c, e, cur, h1, h2, h3, h4, h5, h6, h7, h8⟩ := h
  have h5' := (hm g h4).trans h5
  refine ⟨g, off, n, c, e, cur, h1, h2, h3, h4, h5', h6, h7, ?_⟩
  obtain ⟨u, hu, h9⟩ := Rep.move (t := .slice e t) (S' := r.ok) (show Rep (.slice e t) _ r.ok xs [r.v] from ⟨_, rfl, h8⟩) (fun _ hk => hk) (w1 := w1.setRow g (cur.toList.take (off * t.sz + (j.toNat * t.sz + 0)) ++ [v] ++ cur.toList.drop (off * t.sz + (j.toNat * t.sz + 0) + 1)).toArray) (fun k hk => by
    by_cases hkg : k = g
    · subst hkg
      rw [setRow_heap _ _ _ _ _ _ h5', setRow_heap _ _ _ _ _ _ h5]
    · rw [setRow_other _ _ _ _ hkg, setRow_other _ _ _ _ hkg]
      exact hm k hk)
  obtain rfl : r.v = u := by simpa using hu
  exact h9
section
variable (μ : List ORec) (w : World)
def AR : At → Value → Prop
  | .un, _ => True
  | .int k n, v => v = .int k n
  | .bool b, v => v = .bool b
  | .str s, v => v = .string s
  | .nils, v => v = .slice none 0 0
  | .sl i, v => ∃ r, μ[i]? = some r ∧ v = r.v ∧ ∃ A n c, v = .slice A n c
  | .snap i t xs, v => ∃ r, μ[i]? = some r ∧ RowRd (Rd t) t.sz w r.ok xs v
  | .inn i j, v => ∃ (r : ORec) (a : Addr) (n c : Nat), μ[i]? = some r ∧ r.v = .slice (some a) n c ∧ 0 ≤ j ∧ j < n ∧ r.ok a.block ∧ w.cell? (a.add j.toNat) = some v ∧ ∃ A m c', v = .slice A m c'
  | .ptr i f, v => ∃ r, μ[i]? = some r ∧ v = .pointer (some ⟨r.blk, f, none⟩)
  | .ep i t j f, v => ∃ (r : ORec) (a : Addr) (n c : Nat), μ[i]? = some r ∧ r.v = .slice (some a) n c ∧ 0 ≤ j ∧ j < n ∧ v = .pointer (some (a.add (j.toNat * t.sz + f)))
  | .es i t x f, v => ∃ (r : ORec) (a : Addr) (cs : List Value), μ[i]? = some r ∧ r.ok a.block ∧ v = .pointer (some (a.add f)) ∧ cs.length = t.sz ∧ (∀ j u, cs[j]? = some u → w.cell? (a.add j) = some u) ∧ Rd t w r.ok x cs
  | .app i j t xs, v => ∃ r, μ[i]? = some r ∧ AppR w r j t xs v
/-- Atoms and values one by one. -/
def AL (l : List At) (vs : List Value) : Prop := vs.length = l.length ∧ ∀ (j : Nat) x v, l[j]? = some x → vs[j]? = some v → AR μ w x v
def SR : SV → Value → Prop
  | .at x, v => AR μ w x v ∧ (x = .un ∨ v.cells = #[v])
  | .agg l, v => ∃ vs, v = .agg vs.toArray ∧ AL μ w l vs
def TR : TV → Value → Prop
  | .sv x, v => SR μ w x v
  | .tup l, v => ∃ vs : List Value, v = .tuple vs.toArray ∧ vs.length = l.length ∧ ∀ (j : Nat) x u, l[j]? = some x → vs[j]? = some u → SR μ w x u
def OR : Ob → ORec → Prop
  | .dead, _ => True
  | .ro, _ => True
  | .row _ e t xs, r => RowRep (Rep t) t.sz e w r.ok xs r.v
  | .box e l, r => r.ok r.blk ∧ ∃ vs, w.heap[r.blk]? = some (.cells vs.toArray e (0, 0)) ∧ AL μ w l vs ∧ ∀ v ∈ vs, v.oneCell' = true
end

/-- A world that is the old one but for blocks of T, and what is new. -/
structure Chg (w w1 : World) (T : Nat → Prop) : Prop where
  os : w1.os = w.os
  tape : w1.tape = w.tape
  output : w1.output = w.output
  size : w.heap.size ≤ w1.heap.size
  block : ∀ k, k < w.heap.size → ¬ T k → w1.heap[k]? = w.heap[k]?
theorem Chg.refl (w : World) (T : Nat → Prop) : Chg w w T := ⟨rfl, rfl, rfl, Nat.le_refl _, fun _ _ _ => rfl⟩
theorem Chg.trans {w w1 w2 : World} {T T2 : Nat → Prop} (h : Chg w w1 T) (h2 : Chg w1 w2 T2) (hT : ∀ k, T2 k → T k ∨ w.heap.size ≤ k) : Chg w w2 T :=
  ⟨h2.os.trans h.os, h2.tape.trans h.tape, h2.output.trans h.output, Nat.le_trans h.size h2.size, fun k hk hn =>
    (h2.block k (Nat.lt_of_lt_of_le hk h.size) (fun h3 => (hT k h3).elim hn (fun h4 => by omega))).trans (h.block k hk hn)⟩
theorem Chg.wide {w w1 : World} {T T2 : Nat → Prop} (h : Chg w w1 T) (hT : ∀ k, T k → T2 k) : Chg w w1 T2 := ⟨h.os, h.tape, h.output, h.size, fun k hk hn => h.block k hk (fun h3 => hn (hT k h3))⟩
theorem Chg.of_grown {w w1 : World} {row : Option Nat} (h : w.grownBy w1 row) {T : Nat → Prop} (hT : ∀ k, row = some k → T k) : Chg w w1 T := ⟨h.os, h.tape, h.output, h.size, fun k hk hn => h.block k hk (fun he => hn (hT k he.symm))⟩
theorem Chg.alloc (w : World) (o : Obj) (T : Nat → Prop) : Chg w (w.alloc o) T := ⟨rfl, rfl, rfl, by simp, fun k hk _ => heap_alloc_old w o hk⟩
theorem Chg.set (w : World) (g o : Nat) (v : Value) {T : Nat → Prop} (hT : T g) : Chg w (w.setCell ⟨g, o, none⟩ v) T :=
  ⟨rfl, rfl, rfl, by simp [World.setCell], fun k _ hn => Below.heap_setCell w ⟨g, o, none⟩ v k (fun he => hn (by rw [he]; exact hT))⟩
theorem Chg.drew (w : World) (T : Nat → Prop) : Chg w w.drew T := ⟨rfl, rfl, rfl, Nat.le_refl _, fun _ _ _ => rfl⟩
theorem Chg.below {w w1 : World} {T : Nat → Prop} (h : Chg w w1 T) (hT : ∀ k, ¬ T k) : Below w.heap.size w w1 := ⟨h.os, h.tape, h.output, h.size, fun k hk => h.block k hk (hT k)⟩

theorem AR.move {μ : List ORec} {w w1 : World} {x : At} {v : Value} (h : AR μ w x v) (hm : ∀ i r, x.dep = some i → μ[i]? = some r → ∀ k, r.ok k → w1.heap[k]? = w.heap[k]?) : AR μ w1 x v := by
  cases x with
  | snap i t xs =>
    obtain ⟨r, hr, h⟩ := h
    obtain ⟨u, hu, h2⟩ := Rd.move (t := .slice 0 t) (S' := r.ok) (show Rd (.slice 0 t) w r.ok xs [v] from ⟨v, rfl, h⟩) (fun _ hk => hk) (hm i r rfl hr)
    obtain rfl : v = u := by simpa using hu
    exact ⟨r, hr, h2⟩
  | es i t x f =>
    obtain ⟨r, a, cs, hr, hk, hv, hl, hc, hx⟩ := h
    exact ⟨r, a, cs, hr, hk, hv, hl, fun j u hu => cell_keep (by rw [add_block]; exact hm i r rfl hr _ hk) (hc j u hu), hx.move (fun _ hk => hk) (hm i r rfl hr)⟩
  | inn i j =>
    obtain ⟨r, a, n, c, hr, hv, h0, h1, hk, hc, hs⟩ := h
    exact ⟨r, a, n, c, hr, hv, h0, h1, hk, cell_keep (by rw [add_block]; exact hm i r rfl hr _ hk) hc, hs⟩
  | app i j t xs => obtain ⟨r, hr, h⟩ := h; exact ⟨r, hr, h.move (hm i r rfl hr)⟩
  | _ => exact h
theorem AR.more {μ μ' : List ORec} {w : World} {x : At} {v : Value} (h : AR μ w x v) (hμ : ∀ (i : Nat) r, μ[i]? = some r → μ'[i]? = some r) : AR μ' w x v := by
  cases x with
  | un => exact h
  | int => exact h
  | bool => exact h
  | str => exact h
  | nils => exact h
  | sl i => obtain ⟨r, hr, h⟩ := h; exact ⟨r, hμ i r hr, h⟩
  | snap i t xs => obtain ⟨r, hr, h⟩ := h; exact ⟨r, hμ i r hr, h⟩
  | inn i j => obtain ⟨r, a, n, c, hr, h⟩ := h; exact ⟨r, a, n, c, hμ i r hr, h⟩
  | ptr i f => obtain ⟨r, hr, h⟩ := h; exact ⟨r, hμ i r hr, h⟩
  | ep i t j f => obtain ⟨r, a, n, c, hr, h⟩ := h; exact ⟨r, a, n, c, hμ i r hr, h⟩
  | es i t x f => obtain ⟨r, a, cs, hr, h⟩ := h; exact ⟨r, a, cs, hμ i r hr, h⟩
  | app i j t xs => obtain ⟨r, hr, h⟩ := h; exact ⟨r, hμ i r hr, h⟩
theorem AR.kill {μ : List ORec} {w : World} {x : At} {v : Value} (i : Nat) (h : AR μ w x v) : AR μ w (x.kill i) v := by
  unfold At.kill
  split
  · trivial
  · exact h
theorem dep_kill {x : At} {i j : Nat} (h : (x.kill i).dep = some j) : j ≠ i ∧ x.dep = some j := by
  unfold At.kill at h
  split at h
  · cases h
  · rename_i hn
    exact ⟨fun e => hn (e ▸ h), h⟩
/-- How atoms go over, atom by atom. -/
theorem AL.imp {μ μ' : List ORec} {w w1 : World} {l l' : List At} {vs : List Value} (g : At → At) (hl : l' = l.map g) (h : AL μ w l vs) (hg : ∀ x v, x ∈ l → AR μ w x v → AR μ' w1 (g x) v) : AL μ' w1 l' vs := by
  subst hl
  refine ⟨by simpa using h.1, fun j x v hx hv => ?_⟩
  rw [List.getElem?_map] at hx
  obtain ⟨y, hy, rfl⟩ := Option.map_eq_some_iff.1 hx
  exact hg y v (List.mem_of_getElem? hy) (h.2 j y v hy hv)
theorem SR.imp {μ μ' : List ORec} {w w1 : World} {x : SV} {v : Value} (i : Option Nat) (h : SR μ w x v) (hg : ∀ y u, AR μ w y u → AR μ' w1 (match i with | some i => y.kill i | none => y) u) :
    SR μ' w1 (match i with | some i => x.kill i | none => x) v := by
  cases x with
  | «at» y =>
    have h1 := hg y v h.1
    cases i with
    | none => exact ⟨h1, h.2⟩
    | some i =>
      refine ⟨h1, ?_⟩
      rcases h.2 with rfl | h2
      · left; rfl
      · right; exact h2
  | agg l =>
    obtain ⟨vs, hv, hl⟩ := h
    cases i with
    | none => exact ⟨vs, hv, hl.imp id (by simp) (fun y u _ hy => hg y u hy)⟩
    | some i => exact ⟨vs, hv, hl.imp (At.kill i) rfl (fun y u _ hy => hg y u hy)⟩
theorem TR.imp {μ μ' : List ORec} {w w1 : World} {x : TV} {v : Value} (i : Option Nat) (h : TR μ w x v) (hg : ∀ y u, AR μ w y u → AR μ' w1 (match i with | some i => y.kill i | none => y) u) :
    TR μ' w1 (match i with | some i => x.kill i | none => x) v := by
  cases x with
  | sv y =>
    have := SR.imp i h hg
    cases i <;> exact this
  | tup l =>
    obtain ⟨vs, hv, hl, h⟩ := h
    cases i with
    | none => exact ⟨vs, hv, hl, fun j x u hx hu => SR.imp none (h j x u hx hu) hg⟩
    | some i =>
      refine ⟨vs, hv, by simpa using hl, fun j x u hx hu => ?_⟩
      simp only [List.getElem?_map] at hx
      obtain ⟨y, hy, rfl⟩ := Option.map_eq_some_iff.1 hx
      exact SR.imp (some i) (h j y u hy hu) hg

/-- What the call may write of the world that it found (ok), and the values by which its caller holds it (ov). -/
structure Own where
  ok : Nat → Prop
  ov : List Value
  gv : Nat → Prop := fun _ => False
  go : ∀ k, gv k → ok k := by intro k h; exact h.elim
instance : CoeFun Own (fun _ => Nat → Prop) := ⟨Own.ok⟩
/-- How the abstract state stands to a frame and a world; w0: the world at the call's begin; S0: what of it may be written. -/
structure Rel (w0 : World) (S0 : Own) (st : St) (μ : List ORec) (a : Act) (w : World) : Prop where
  len : μ.length = st.objs.length
  tm : a.tmps.size = st.tmps.length
  tv : ∀ (i : Nat) x, st.tmps[i]? = some x → TR μ w x (a.tmps.getD i undef)
  ob : ∀ (i : Nat) o r, st.objs[i]? = some o → μ[i]? = some r → OR μ w o r
  dj : ∀ (i j : Nat) o ri rj, i ≠ j → st.objs[i]? = some o → o.owned = true → μ[i]? = some ri → μ[j]? = some rj → ∀ k, ri.ok k → ¬ rj.ok k
  wr : ∀ (i : Nat) o r, st.objs[i]? = some o → μ[i]? = some r → o.owned = true → ∀ k, r.ok k → S0 k ∨ w0.heap.size ≤ k
  fr : ∀ (i : Nat) e t xs r, st.objs[i]? = some (.row true e t xs) → μ[i]? = some r → ∀ k, r.ok k → S0.gv k ∨ w0.heap.size ≤ k
  lt : ∀ (i : Nat) r, μ[i]? = some r → ∀ k, r.ok k → k < w.heap.size
  kp : Chg w0 w S0.ok
  df : a.defers = []
  ov : ∀ (j : Nat) v, S0.ov[j]? = some v → ∃ r, μ[j + 1]? = some r ∧ r.v = v

theorem kill_owned (i : Nat) (o : Ob) : (o.kill i).owned = o.owned := by cases o <;> rfl
/-- An object's record where its content is given up. -/
def ORec.off (r : ORec) : ORec := { r with ok := fun _ => False }
def offAt (μ : List ORec) (i : Nat) : List ORec := μ.modify i ORec.off
theorem offAt_other {μ : List ORec} {i j : Nat} (h : i ≠ j) : (offAt μ i)[j]? = μ[j]? := by simp [offAt, List.getElem?_modify, h]
theorem offAt_same (μ : List ORec) (i : Nat) : (offAt μ i)[i]? = (μ[i]?).map ORec.off := by simp [offAt]
theorem offAt_inv {μ : List ORec} {i j : Nat} {r : ORec} (h : (offAt μ i)[j]? = some r) : ∃ r0, μ[j]? = some r0 ∧ r.v = r0.v ∧ r.blk = r0.blk ∧ ((j = i ∧ ∀ k, ¬ r.ok k) ∨ (j ≠ i ∧ r = r0)) := by
  by_cases hj : i = j
  · subst hj
    rw [offAt_same] at h
    obtain ⟨r0, h0, rfl⟩ := Option.map_eq_some_iff.1 h
    exact ⟨r0, h0, rfl, rfl, .inl ⟨rfl, fun _ h => h⟩⟩
  · rw [offAt_other hj] at h
    exact ⟨r, h, rfl, rfl, .inr ⟨fun e => hj e.symm, rfl⟩⟩
theorem AR.off {μ : List ORec} {w : World} {x : At} {v : Value} (i : Nat) (h : AR μ w x v) : AR (offAt μ i) w (x.kill i) v := by
  have keep : ∀ (j : Nat) r, μ[j]? = some r → ∃ r', (offAt μ i)[j]? = some r' ∧ r'.v = r.v ∧ r'.blk = r.blk ∧ (j ≠ i → r' = r) := by
    intro j r hr
    by_cases hj : i = j
    · subst hj
      exact ⟨r.off, by rw [offAt_same, hr]; rfl, rfl, rfl, fun h => absurd rfl h⟩
    · exact ⟨r, by rw [offAt_other hj]; exact hr, rfl, rfl, fun _ => rfl⟩
  unfold At.kill
  split
  · trivial
  · rename_i hd
    cases x with
    | un => exact h
    | int => exact h
    | bool => exact h
    | str => exact h
    | nils => exact h
    | sl j =>
      obtain ⟨r, hr, h⟩ := h
      obtain ⟨r', h1, h2, _⟩ := keep j r hr
      exact ⟨r', h1, by rw [h2]; exact h⟩
    | ptr j f =>
      obtain ⟨r, hr, h⟩ := h
      obtain ⟨r', h1, _, h2, _⟩ := keep j r hr
      exact ⟨r', h1, by rw [h2]; exact h⟩
    | ep j t jj f =>
      obtain ⟨r, a, n, c, hr, h⟩ := h
      obtain ⟨r', h1, h2, _⟩ := keep j r hr
      exact ⟨r', a, n, c, h1, by rw [h2]; exact h⟩
    | snap j t xs =>
      obtain ⟨r, hr, h⟩ := h
      obtain ⟨r', h1, _, _, h2⟩ := keep j r hr
      obtain rfl := h2 (fun e => hd (by rw [e]; rfl))
      exact ⟨r', h1, h⟩
    | inn j jj =>
      obtain ⟨r, a, n, c, hr, h⟩ := h
      obtain ⟨r', h1, _, _, h2⟩ := keep j r hr
      obtain rfl := h2 (fun e => hd (by rw [e]; rfl))
      exact ⟨r', a, n, c, h1, h⟩
    | es j t xx f =>
      obtain ⟨r, a, cs, hr, h⟩ := h
      obtain ⟨r', h1, _, _, h2⟩ := keep j r hr
      obtain rfl := h2 (fun e => hd (by rw [e]; rfl))
      exact ⟨r', a, cs, h1, h⟩
    | app j jj t xx =>
      obtain ⟨r, hr, h⟩ := h
      obtain ⟨r', h1, _, _, h2⟩ := keep j r hr
      obtain rfl := h2 (fun e => hd (by rw [e]; rfl))
      exact ⟨r', h1, h⟩
theorem getD_of_some {α : Type} {xs : Array α} {d : α} {i : Nat} (h : i < xs.size) : xs[i]? = some (xs.getD i d) := by simp [Array.getD, h]
section
variable {w0 : World} {S0 : Own} {st : St} {μ : List ORec} {a : Act} {w w1 : World}
theorem Rel.some_rec (h : Rel w0 S0 st μ a w) {i : Nat} {o : Ob} (ho : st.objs[i]? = some o) : ∃ r, μ[i]? = some r := by
  have := (List.getElem?_eq_some_iff.1 ho).1
  exact ⟨μ[i]'(by rw [h.len]; exact this), List.getElem?_eq_getElem _⟩
theorem OR.move {o : Ob} {r : ORec} (h : OR μ w o r) (hm : ∀ k, r.ok k → w1.heap[k]? = w.heap[k]?) (hA : ∀ x v, AR μ w x v → AR μ w1 x v) : OR μ w1 o r := by
  cases o with
  | dead => trivial
  | ro => trivial
  | row f e t xs =>
    obtain ⟨v, hv, h2⟩ := Rep.move (t := .slice e t) (S' := r.ok) (show Rep (.slice e t) w r.ok xs [r.v] from ⟨_, rfl, h⟩) (fun _ hk => hk) hm
    obtain rfl : r.v = v := by simpa using hv
    exact h2
  | box e l =>
    obtain ⟨h0, vs, h1, h2, h3⟩ := h
    exact ⟨h0, vs, (hm _ h0).trans h1, h2.imp id (by simp) (fun x v _ hx => hA x v hx), h3⟩
/-- The world turns, but for what the objects hold. -/
theorem Rel.world (h : Rel w0 S0 st μ a w) {T : Nat → Prop} (hc : Chg w w1 T) (hT : ∀ (i : Nat) r, μ[i]? = some r → ∀ k, r.ok k → ¬ T k) (hT0 : ∀ k, T k → S0 k ∨ w0.heap.size ≤ k) : Rel w0 S0 st μ a w1 := by
  have hm : ∀ (i : Nat) r, μ[i]? = some r → ∀ k, r.ok k → w1.heap[k]? = w.heap[k]? := fun i r hr k hk => hc.block k (h.lt i r hr k hk) (hT i r hr k hk)
  have hA : ∀ x v, AR μ w x v → AR μ w1 x v := fun x v hx => hx.move (fun i r _ hr => hm i r hr)
  exact ⟨h.len, h.tm, fun i x hx => TR.imp none (h.tv i x hx) hA, fun i o r ho hr => (h.ob i o r ho hr).move (hm i r hr) hA, h.dj, h.wr, h.fr, fun i r hr k hk => Nat.lt_of_lt_of_le (h.lt i r hr k hk) hc.size, h.kp.trans hc hT0, h.df, h.ov⟩
theorem Rel.put (h : Rel w0 S0 st μ a w) (dst : Option Tmp) {x : TV} {v : Value} (hx : TR μ w x v) : Rel w0 S0 (st.put dst x) μ (a.put dst v) w := by
  cases dst with
  | none => exact h
  | some d =>
    refine ⟨h.len, by simp [Act.put, St.put, h.tm], fun i y hy => ?_, h.ob, h.dj, h.wr, h.fr, h.lt, h.kp, h.df, h.ov⟩
    simp only [St.put, List.getElem?_set] at hy
    have hs := h.tm
    by_cases hd : d = i
    · subst hd
      rw [if_pos rfl] at hy
      split at hy
      · rename_i hlt
        injection hy with hy
        subst hy
        have : (a.put (some d) v).tmps.getD d undef = v := by simp [Act.put, Array.getD, hs, hlt]
        rw [this]
        exact hx
      · cases hy
    · rw [if_neg hd] at hy
      have : (a.put (some d) v).tmps.getD i undef = a.tmps.getD i undef := by simp only [Act.put, Array.getD_eq_getD_getElem?, Array.getElem?_setIfInBounds_ne hd]
      rw [this]
      exact h.tv i y hy
/-- A slot's abstract value is told anew, of the same value. -/
theorem Rel.retell (h : Rel w0 S0 st μ a w) {t : Nat} {x : TV} (hx : TR μ w x (a.tmps.getD t undef)) : Rel w0 S0 { st with tmps := st.tmps.set t x } μ a w := by
  refine ⟨h.len, by simp [h.tm], fun i y hy => ?_, h.ob, h.dj, h.wr, h.fr, h.lt, h.kp, h.df, h.ov⟩
  simp only [List.getElem?_set] at hy
  by_cases hd : t = i
  · subst hd
    rw [if_pos rfl] at hy
    split at hy
    · injection hy with hy; subst hy; exact hx
    · cases hy
  · rw [if_neg hd] at hy
    exact h.tv i y hy
/-- An object's content is given up. -/
theorem Rel.die (h : Rel w0 S0 st μ a w) (i : Nat) : Rel w0 S0 (st.die i) (offAt μ i) a w := by
  have hob : ∀ (j : Nat) o, (st.die i).objs[j]? = some o → ∃ o0, st.objs[j]? = some o0 ∧ ((j = i ∧ o = .dead) ∨ (j ≠ i ∧ o = o0.kill i)) := by
    intro j o ho
    simp only [St.die, List.getElem?_set, List.getElem?_map, List.length_map] at ho
    by_cases hj : i = j
    · subst hj
      rw [if_pos rfl] at ho
      split at ho
      · rename_i hlt
        injection ho with ho
        exact ⟨st.objs[i], List.getElem?_eq_getElem hlt, .inl ⟨rfl, ho.symm⟩⟩
      · cases ho
    · rw [if_neg hj] at ho
      obtain ⟨o0, h0, rfl⟩ := Option.map_eq_some_iff.1 ho
      exact ⟨o0, h0, .inr ⟨fun e => hj e.symm, rfl⟩⟩
  refine ⟨by simp [offAt, St.die, h.len], by simp [St.die, h.tm], fun j x hx => ?_, fun j o r ho hr => ?_, fun j l o rj rl hjl ho hw hrj hrl k hk => ?_, fun j o r ho hr hw k hk => ?_, fun j e t xs r ho hr k hk => ?_, fun j r hr k hk => ?_, h.kp, h.df, fun j v hv => ?_⟩
  · simp only [St.die, List.getElem?_map] at hx
    obtain ⟨y, hy, rfl⟩ := Option.map_eq_some_iff.1 hx
    exact TR.imp (some i) (h.tv j y hy) (fun y u hy => hy.off i)
  · obtain ⟨o0, h0, hh⟩ := hob j o ho
    rcases hh with ⟨_, rfl⟩ | ⟨hj, rfl⟩
    · trivial
    · rw [offAt_other (Ne.symm hj)] at hr
      have h1 := h.ob j o0 r h0 hr
      cases o0 with
      | dead => trivial
      | ro => trivial
      | row f e t xs => exact h1
      | box e l =>
        obtain ⟨g0, vs, g1, g2, g3⟩ := h1
        exact ⟨g0, vs, g1, g2.imp (At.kill i) rfl (fun x v _ hx => hx.off i), g3⟩
  · obtain ⟨o0, h0, hh⟩ := hob j o ho
    rcases hh with ⟨_, rfl⟩ | ⟨hj, rfl⟩
    · cases hw
    · rw [offAt_other (Ne.symm hj)] at hrj
      obtain ⟨r0, g0, _, _, g⟩ := offAt_inv hrl
      rcases g with ⟨_, g⟩ | ⟨_, rfl⟩
      · exact g k
      · exact h.dj j l o0 rj rl hjl h0 (by rw [← kill_owned i]; exact hw) hrj g0 k hk
  · obtain ⟨o0, h0, hh⟩ := hob j o ho
    rcases hh with ⟨_, rfl⟩ | ⟨hj, rfl⟩
    · cases hw
    · rw [offAt_other (Ne.symm hj)] at hr
      exact h.wr j o0 r h0 hr (by rw [← kill_owned i]; exact hw) k hk
  · obtain ⟨o0, h0, hh⟩ := hob j _ ho
    rcases hh with ⟨_, hh⟩ | ⟨hj, hh⟩
    · cases hh
    · rw [offAt_other (Ne.symm hj)] at hr
      cases o0 <;> simp only [Ob.kill] at hh <;> cases hh
      exact h.fr j e t xs r h0 hr k hk
  · obtain ⟨r0, g0, _, _, g⟩ := offAt_inv hr
    rcases g with ⟨_, g⟩ | ⟨_, rfl⟩
    · exact absurd hk (g k)
    · exact h.lt j r g0 k hk
  · obtain ⟨r, hr, hrv⟩ := h.ov j v hv
    by_cases hj : i = j + 1
    · subst hj
      exact ⟨r.off, by rw [offAt_same, hr]; rfl, hrv⟩
    · exact ⟨r, by rw [offAt_other hj]; exact hr, hrv⟩
/-- A new object. -/
theorem Rel.push (h : Rel w0 S0 st μ a w) {o : Ob} {r : ORec} (ho : OR (μ ++ [r]) w o r) (hd : o.owned = true → ∀ (j : Nat) rj, μ[j]? = some rj → ∀ k, r.ok k → ¬ rj.ok k) (hd2 : ∀ (j : Nat) oj rj, st.objs[j]? = some oj → oj.owned = true → μ[j]? = some rj → ∀ k, rj.ok k → ¬ r.ok k)
    (hw : o.owned = true → ∀ k, r.ok k → S0 k ∨ w0.heap.size ≤ k) (hf : ∀ e t xs, o = .row true e t xs → ∀ k, r.ok k → S0.gv k ∨ w0.heap.size ≤ k) (hl : ∀ k, r.ok k → k < w.heap.size) : Rel w0 S0 { st with objs := st.objs ++ [o] } (μ ++ [r]) a w := by
  have hμ : ∀ (i : Nat) q, μ[i]? = some q → (μ ++ [r])[i]? = some q := fun i q hq => by
    rw [List.getElem?_append_left (List.getElem?_eq_some_iff.1 hq).1]; exact hq
  have split : ∀ (i : Nat) o', (st.objs ++ [o])[i]? = some o' → (i < μ.length ∧ st.objs[i]? = some o') ∨ (i = μ.length ∧ o' = o) := by
    intro i o' hi
    rw [h.len]
    rcases Nat.lt_or_ge i st.objs.length with hlt | hge
    · rw [List.getElem?_append_left hlt] at hi
      exact .inl ⟨hlt, hi⟩
    · rw [List.getElem?_append_right hge] at hi
      have h1 := (List.getElem?_eq_some_iff.1 hi).1
      simp at h1
      have : i = st.objs.length := by omega
      subst this
      simp at hi
      exact .inr ⟨rfl, hi.symm⟩
  have splitr : ∀ (i : Nat) q, (μ ++ [r])[i]? = some q → (i < μ.length ∧ μ[i]? = some q) ∨ (i = μ.length ∧ q = r) := by
    intro i q hi
    rcases Nat.lt_or_ge i μ.length with hlt | hge
    · rw [List.getElem?_append_left hlt] at hi
      exact .inl ⟨hlt, hi⟩
    · rw [List.getElem?_append_right hge] at hi
      have h1 := (List.getElem?_eq_some_iff.1 hi).1
      simp at h1
      have : i = μ.length := by omega
      subst this
      simp at hi
      exact .inr ⟨rfl, hi.symm⟩
  have hA : ∀ x v, AR μ w x v → AR (μ ++ [r]) w x v := fun x v hx => hx.more hμ
  refine ⟨by simp [h.len], h.tm, fun i x hx => TR.imp none (h.tv i x hx) hA, fun i o' q ho' hq => ?_, fun i j o' ri rj hij ho' hw' hri hrj k hk => ?_, fun i o' q ho' hq hw' k hk => ?_, fun i e t xs q ho' hq k hk => ?_, fun i q hq k hk => ?_, h.kp, h.df, fun j v hv => ?_⟩
  · rcases split i o' ho' with ⟨hi, h1⟩ | ⟨hi, rfl⟩
    · rcases splitr i q hq with ⟨_, h2⟩ | ⟨h2, _⟩
      · have h3 := h.ob i o' q h1 h2
        cases o' with
        | dead => trivial
        | ro => trivial
        | row => exact h3
        | box e l =>
          obtain ⟨g0, vs, g1, g2, g3⟩ := h3
          exact ⟨g0, vs, g1, g2.imp id (by simp) (fun x v _ hx => hA x v hx), g3⟩
      · omega
    · rcases splitr i q hq with ⟨h2, _⟩ | ⟨_, rfl⟩
      · omega
      · exact ho
  · rcases split i o' ho' with ⟨hi, h1⟩ | ⟨hi, rfl⟩
    · rcases splitr i ri hri with ⟨_, h2⟩ | ⟨h2, _⟩
      · rcases splitr j rj hrj with ⟨_, h3⟩ | ⟨_, rfl⟩
        · exact h.dj i j o' ri rj hij h1 hw' h2 h3 k hk
        · exact hd2 i o' ri h1 hw' h2 k hk
      · omega
    · rcases splitr i ri hri with ⟨h2, _⟩ | ⟨_, rfl⟩
      · omega
      · rcases splitr j rj hrj with ⟨_, h3⟩ | ⟨h3, _⟩
        · exact hd hw' j rj h3 k hk
        · omega
  · rcases split i o' ho' with ⟨hi, h1⟩ | ⟨hi, rfl⟩
    · rcases splitr i q hq with ⟨_, h2⟩ | ⟨h2, _⟩
      · exact h.wr i o' q h1 h2 hw' k hk
      · omega
    · rcases splitr i q hq with ⟨h2, _⟩ | ⟨_, rfl⟩
      · omega
      · exact hw hw' k hk
  · rcases split i _ ho' with ⟨hi, h1⟩ | ⟨hi, h1⟩
    · rcases splitr i q hq with ⟨_, h2⟩ | ⟨h2, _⟩
      · exact h.fr i e t xs q h1 h2 k hk
      · omega
    · rcases splitr i q hq with ⟨h2, _⟩ | ⟨_, rfl⟩
      · omega
      · exact hf e t xs h1.symm k hk
  · rcases splitr i q hq with ⟨_, h2⟩ | ⟨_, rfl⟩
    · exact h.lt i q h2 k hk
    · exact hl k hk
  · obtain ⟨q, hq, hqv⟩ := h.ov j v hv
    exact ⟨q, hμ _ q hq, hqv⟩
/-- A row's or a box' content turns, and with it the world in its blocks. -/
theorem Rel.turn (h : Rel w0 S0 st μ a w) {i : Nat} {o o' : Ob} {r : ORec} (ho : st.objs[i]? = some o) (hr : μ[i]? = some r) (hw : o.owned = true) (hw' : o'.owned = true) (hc : Chg w w1 r.ok) (hn : OR μ w1 o' r)
    (hf : ∀ e t xs, o' = .row true e t xs → ∃ e t xs, o = .row true e t xs) : Rel w0 S0 { st.kill i with objs := (st.kill i).objs.set i o' } μ a w1 := by
  have hm : ∀ (j : Nat) q, j ≠ i → μ[j]? = some q → ∀ k, q.ok k → w1.heap[k]? = w.heap[k]? := fun j q hj hq k hk => hc.block k (h.lt j q hq k hk) (fun h2 => h.dj i j o r q (Ne.symm hj) ho hw hr hq k h2 hk)
  have hA : ∀ x v, AR μ w x v → AR μ w1 (x.kill i) v := fun x v hx => (hx.kill i).move (fun j q hd hq => hm j q (dep_kill hd).1 hq)
  have hlt : i < st.objs.length := (List.getElem?_eq_some_iff.1 ho).1
  have hob : ∀ (j : Nat) p, ({ st.kill i with objs := (st.kill i).objs.set i o' } : St).objs[j]? = some p → ∃ p0, st.objs[j]? = some p0 ∧ ((j = i ∧ p = o') ∨ (j ≠ i ∧ p = p0.kill i)) := by
    intro j p hp
    simp only [St.kill, List.getElem?_set, List.getElem?_map, List.length_map] at hp
    by_cases hj : i = j
    · subst hj
      rw [if_pos rfl, if_pos hlt] at hp
      injection hp with hp
      exact ⟨o, ho, .inl ⟨rfl, hp.symm⟩⟩
    · rw [if_neg hj] at hp
      obtain ⟨p0, h0, rfl⟩ := Option.map_eq_some_iff.1 hp
      exact ⟨p0, h0, .inr ⟨fun e => hj e.symm, rfl⟩⟩
  refine ⟨by simp [St.kill, h.len], by simp [St.kill, h.tm], fun j x hx => ?_, fun j p q hp hq => ?_, fun j l p rj rl hjl hp hwp hrj hrl k hk => ?_, fun j p q hp hq hwp k hk => ?_, fun j e t xs q hp hq k hk => ?_, fun j q hq k hk => Nat.lt_of_lt_of_le (h.lt j q hq k hk) hc.size, h.kp.trans hc (fun k hk => h.wr i o r ho hr hw k hk), h.df, h.ov⟩
  · simp only [St.kill, List.getElem?_map] at hx
    obtain ⟨y, hy, rfl⟩ := Option.map_eq_some_iff.1 hx
    exact TR.imp (some i) (h.tv j y hy) hA
  · obtain ⟨p0, h0, hh⟩ := hob j p hp
    rcases hh with ⟨rfl, rfl⟩ | ⟨hj, rfl⟩
    · obtain rfl : r = q := by rw [hr] at hq; exact Option.some.inj hq
      exact hn
    · have h1 := h.ob j p0 q h0 hq
      cases p0 with
      | dead => trivial
      | ro => trivial
      | row f e t xs =>
        obtain ⟨v, hv, h2⟩ := Rep.move (t := .slice e t) (S' := q.ok) (show Rep (.slice e t) w q.ok xs [q.v] from ⟨_, rfl, h1⟩) (fun _ hk => hk) (hm j q hj hq)
        obtain rfl : q.v = v := by simpa using hv
        exact h2
      | box e l =>
        obtain ⟨g0, vs, g1, g2, g3⟩ := h1
        exact ⟨g0, vs, (hm j q hj hq _ g0).trans g1, g2.imp (At.kill i) rfl (fun x v _ hx => hA x v hx), g3⟩
  · obtain ⟨p0, h0, hh⟩ := hob j p hp
    rcases hh with ⟨rfl, rfl⟩ | ⟨hj, rfl⟩
    · exact h.dj j l o rj rl hjl ho hw hrj hrl k hk
    · exact h.dj j l p0 rj rl hjl h0 (by rw [← kill_owned i]; exact hwp) hrj hrl k hk
  · obtain ⟨p0, h0, hh⟩ := hob j p hp
    rcases hh with ⟨rfl, rfl⟩ | ⟨hj, rfl⟩
    · exact h.wr j o q ho hq hw k hk
    · exact h.wr j p0 q h0 hq (by rw [← kill_owned i]; exact hwp) k hk
  · obtain ⟨p0, h0, hh⟩ := hob j _ hp
    rcases hh with ⟨rfl, hh⟩ | ⟨hj, hh⟩
    · obtain ⟨e', t', xs', rfl⟩ := hf e t xs hh.symm
      exact h.fr j e' t' xs' q ho hq k hk
    · cases p0 <;> simp only [Ob.kill] at hh <;> cases hh
      exact h.fr j e t xs q h0 hq k hk
/-- An object that was given up comes back with new content. -/
theorem Rel.revive (h : Rel w0 S0 st μ a w) {i : Nat} {o' : Ob} {r r' : ORec} (hr : μ[i]? = some r) (hv : r'.v = r.v) (hb : r'.blk = r.blk) (hlt0 : i < st.objs.length) (ho : ∀ μ', (∀ j, j ≠ i → μ'[j]? = μ[j]?) → μ'[i]? = some r' → OR μ' w o' r')
    (hd : ∀ (j : Nat) q, j ≠ i → μ[j]? = some q → ∀ k, r'.ok k → ¬ q.ok k) (hw : ∀ k, r'.ok k → S0 k ∨ w0.heap.size ≤ k) (hf : ∀ e t xs, o' = .row true e t xs → ∀ k, r'.ok k → S0.gv k ∨ w0.heap.size ≤ k) (hl : ∀ k, r'.ok k → k < w.heap.size) :
    Rel w0 S0 { st.kill i with objs := (st.kill i).objs.set i o' } (μ.set i r') a w := by
  have hil : i < μ.length := (List.getElem?_eq_some_iff.1 hr).1
  have same : (μ.set i r')[i]? = some r' := by rw [List.getElem?_set_self hil]
  have other : ∀ j, j ≠ i → (μ.set i r')[j]? = μ[j]? := fun j hj => List.getElem?_set_ne (Ne.symm hj)
  have keep : ∀ (j : Nat) q, μ[j]? = some q → ∃ q', (μ.set i r')[j]? = some q' ∧ q'.v = q.v ∧ q'.blk = q.blk ∧ (j ≠ i → q' = q) := by
    intro j q hq
    by_cases hj : j = i
    · subst hj
      rw [hr] at hq
      injection hq with hq
      subst hq
      exact ⟨r', same, hv, hb, fun h => absurd rfl h⟩
    · exact ⟨q, by rw [other j hj]; exact hq, rfl, rfl, fun _ => rfl⟩
  have hA : ∀ x v, AR μ w x v → AR (μ.set i r') w (x.kill i) v := by
    intro x v hx
    unfold At.kill
    split
    · trivial
    · rename_i hdp
      cases x with
      | un => exact hx
      | int => exact hx
      | bool => exact hx
      | str => exact hx
      | nils => exact hx
      | sl j =>
        obtain ⟨q, hq, hx⟩ := hx
        obtain ⟨q', h1, h2, _⟩ := keep j q hq
        exact ⟨q', h1, by rw [h2]; exact hx⟩
      | ptr j f =>
        obtain ⟨q, hq, hx⟩ := hx
        obtain ⟨q', h1, _, h2, _⟩ := keep j q hq
        exact ⟨q', h1, by rw [h2]; exact hx⟩
      | ep j t jj f =>
        obtain ⟨q, ad, n, c, hq, hx⟩ := hx
        obtain ⟨q', h1, h2, _⟩ := keep j q hq
        exact ⟨q', ad, n, c, h1, by rw [h2]; exact hx⟩
      | snap j t xs =>
        obtain ⟨q, hq, hx⟩ := hx
        obtain ⟨q', h1, _, _, h2⟩ := keep j q hq
        obtain rfl := h2 (fun e => hdp (by rw [e]; rfl))
        exact ⟨q', h1, hx⟩
      | inn j jj =>
        obtain ⟨q, ad, n, c, hq, hx⟩ := hx
        obtain ⟨q', h1, _, _, h2⟩ := keep j q hq
        obtain rfl := h2 (fun e => hdp (by rw [e]; rfl))
        exact ⟨q', ad, n, c, h1, hx⟩
      | es j t xx f =>
        obtain ⟨q, ad, cs, hq, hx⟩ := hx
        obtain ⟨q', h1, _, _, h2⟩ := keep j q hq
        obtain rfl := h2 (fun e => hdp (by rw [e]; rfl))
        exact ⟨q', ad, cs, h1, hx⟩
      | app j jj t xx =>
        obtain ⟨q, hq, hx⟩ := hx
        obtain ⟨q', h1, _, _, h2⟩ := keep j q hq
        obtain rfl := h2 (fun e => hdp (by rw [e]; rfl))
        exact ⟨q', h1, hx⟩
  have hob : ∀ (j : Nat) p, ({ st.kill i with objs := (st.kill i).objs.set i o' } : St).objs[j]? = some p → (j = i ∧ p = o') ∨ (j ≠ i ∧ ∃ p0, st.objs[j]? = some p0 ∧ p = p0.kill i) := by
    intro j p hp
    simp only [St.kill, List.getElem?_set, List.getElem?_map, List.length_map] at hp
    by_cases hj : i = j
    · subst hj
      rw [if_pos rfl, if_pos hlt0] at hp
      injection hp with hp
      exact .inl ⟨rfl, hp.symm⟩
    · rw [if_neg hj] at hp
      obtain ⟨p0, h0, rfl⟩ := Option.map_eq_some_iff.1 hp
      exact .inr ⟨fun e => hj e.symm, p0, h0, rfl⟩
  have hrec : ∀ (j : Nat) q, (μ.set i r')[j]? = some q → (j = i ∧ q = r') ∨ (j ≠ i ∧ μ[j]? = some q) := by
    intro j q hq
    by_cases hj : j = i
    · subst hj
      rw [same] at hq
      exact .inl ⟨rfl, (Option.some.inj hq).symm⟩
    · rw [other j hj] at hq
      exact .inr ⟨hj, hq⟩
  refine ⟨by simp [St.kill, h.len], by simp [St.kill, h.tm], fun j x hx => ?_, fun j p q hp hq => ?_, fun j l p rj rl hjl hp hwp hrj hrl k hk => ?_, fun j p q hp hq hwp k hk => ?_, fun j e t xs q hp hq k hk => ?_, fun j q hq k hk => ?_, h.kp, h.df, fun j v hv2 => ?_⟩
  · simp only [St.kill, List.getElem?_map] at hx
    obtain ⟨y, hy, rfl⟩ := Option.map_eq_some_iff.1 hx
    exact TR.imp (some i) (h.tv j y hy) hA
  · rcases hob j p hp with ⟨rfl, rfl⟩ | ⟨hj, p0, h0, rfl⟩
    · rw [same] at hq
      injection hq with hq
      subst hq
      exact ho _ other same
    · rw [other j hj] at hq
      have h1 := h.ob j p0 q h0 hq
      cases p0 with
      | dead => trivial
      | ro => trivial
      | row f e t xs => exact h1
      | box e l =>
        obtain ⟨g0, vs, g1, g2, g3⟩ := h1
        exact ⟨g0, vs, g1, g2.imp (At.kill i) rfl (fun x v _ hx => hA x v hx), g3⟩
  · rcases hob j p hp with ⟨rfl, rfl⟩ | ⟨hj, p0, h0, rfl⟩
    · rcases hrec j rj hrj with ⟨_, rfl⟩ | ⟨hn, _⟩
      · rcases hrec l rl hrl with ⟨hl, _⟩ | ⟨hl, hql⟩
        · exact absurd hl.symm hjl
        · exact hd l rl hl hql k hk
      · exact absurd rfl hn
    · rcases hrec j rj hrj with ⟨hn, _⟩ | ⟨_, hqj⟩
      · exact absurd hn hj
      · rcases hrec l rl hrl with ⟨rfl, rfl⟩ | ⟨hl, hql⟩
        · exact fun hk2 => hd j rj hj hqj k hk2 hk
        · exact h.dj j l p0 rj rl hjl h0 (by rw [← kill_owned i]; exact hwp) hqj hql k hk
  · rcases hob j p hp with ⟨rfl, rfl⟩ | ⟨hj, p0, h0, rfl⟩
    · rw [same] at hq
      injection hq with hq
      subst hq
      exact hw k hk
    · rw [other j hj] at hq
      exact h.wr j p0 q h0 hq (by rw [← kill_owned i]; exact hwp) k hk
  · rcases hob j _ hp with ⟨rfl, he⟩ | ⟨hj, p0, h0, he⟩
    · rw [same] at hq
      injection hq with hq
      subst hq
      exact hf e t xs he.symm k hk
    · rw [other j hj] at hq
      cases p0 <;> simp only [Ob.kill] at he <;> cases he
      exact h.fr j e t xs q h0 hq k hk
  · rcases hrec j q hq with ⟨rfl, rfl⟩ | ⟨hj, hq2⟩
    · exact hl k hk
    · exact h.lt j q hq2 k hk
  · obtain ⟨q, hq, hqv⟩ := h.ov j v hv2
    obtain ⟨q', h1, h2, _⟩ := keep (j + 1) q hq
    exact ⟨q', h1, h2.trans hqv⟩
end
end Go.Proofs.Ytgpmbmnfcbippaa.Vs
