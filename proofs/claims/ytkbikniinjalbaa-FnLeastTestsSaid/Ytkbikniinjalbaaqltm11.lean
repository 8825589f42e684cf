/- The proof, part 12. -/
import Derived.Test.Ytkbikniinjalbaaqltm10
set_option linter.unusedVariables false
set_option linter.unusedSimpArgs false
namespace Go.Proofs.Ytkbikniinjalbaa.Vs
open Go.RowKit
section
theorem ZJh (a b : Int) : EvP (fun k => Z4R k a b) (fun m => a ≤ m) := by
 obtain ⟨m, e, h, _⟩ := ZJo a b
 exact ⟨m, e, h⟩
section
variable {code : List Int} {at' seed : Int}
theorem ZwU (r c : Int) (n : Nat) (hw : wrap64 (r * c) = (n : Int)) (hn : n ≤ 100) (h : Cur code at' 1010) : EvP (fun k => Z1g k (code, at', seed) r c) (fun z => at' ≤ z.2.1 ∧ z.2.1 ≤ at' + 1010 ∧ z.1.2.2.length = n) := by
 obtain ⟨l, a, s, e, h1, h2, h3⟩ := Zw4 seed r c n hw hn h
 exact ⟨_, e, h1, h2, h3⟩
theorem ZwD (code : List Int) (b30 b31 b50 b51 : Int) (o4 : List CellD) : ∀ (d i : Nat) (o6 : List CellD) (at' seed : Int), i + d = 9 → o6.length = 9 → Cur code at' (2 * d) →
    EvP (fun k => Z2L k at' seed code b30 b31 o4 b50 b51 o6 9 (i : Int)) (fun z => ∃ a s l, z = (a, s, code, b30, b31, o4, b50, b51, l) ∧ l.length = 9 ∧ at' ≤ a ∧ a ≤ at' + 2 * d)
  | 0, i, o6, at', seed, h, hl, hc => by
    refine EvP.succ ?_
    have hlt : ¬ (i : Int) < 9 := by omega
    simp only [Z2L, hlt, decide_false, Bool.false_eq_true, if_false]
    exact EvP.some ⟨at', seed, o6, rfl, hl, by omega, by omega⟩
  | d + 1, i, o6, at', seed, h, hl, hc => by
    refine EvP.succ ?_
    have hlt : (i : Int) < 9 := by omega
    simp only [Z2L, hlt, decide_true, if_true]
    refine EvP.bind (Q1 := fun z => ∃ a s l, z = (a, s, code, b30, b31, o4, b50, b51, l, (9 : Int), (i : Int)) ∧ l.length = 9 ∧ at' ≤ a ∧ a ≤ at' + 2) ?_ (fun z hz => ?_)
    · simp only [Z21]
      refine EvP.bind (ZaT 2 (hc.to (by omega) (by omega)) (by omega)) (fun y hy => ?_)
      refine EvP.guard (by omega) (EvP.guard (by omega) (EvP.some ⟨y.2.1, y.2.2, _, rfl, by rw [List.length_set]; exact hl, by omega, by omega⟩))
    · obtain ⟨a, s, l, rfl, h1, h2, h3⟩ := hz
      have w : wrap64 ((i : Int) + 1) = ((i + 1 : Nat) : Int) := by rw [w64 (by omega) (by omega)]; omega
      dsimp only
      rw [w]
      refine (ZwD code b30 b31 b50 b51 o4 d (i + 1) l a s (by omega) h1 (hc.to (by omega) (by omega))).mono (fun z hz => ?_)
      obtain ⟨a2, s2, l2, e, g1, g2, g3⟩ := hz
      exact ⟨a2, s2, l2, e, g1, by omega, by omega⟩
theorem ZvW (code : List Int) (n : Nat) (hn : n ≤ 1000) (b30 b31 b50 b51 : Int) (o4 : List CellD) : ∀ (d i : Nat) (o6 : List CellD) (v7 at' seed : Int), i + d = n → o6.length = n → Cur code at' (2 * d) →
    EvP (fun k => Z1e k at' seed code b30 b31 o4 b50 b51 o6 v7 (n : Int) (i : Int)) (fun z => ∃ a s l, z = (a, s, code, b30, b31, o4, b50, b51, l) ∧ l.length = n ∧ at' ≤ a ∧ a ≤ at' + 2 * d)
  | 0, i, o6, v7, at', seed, h, hl, hc => by
    refine EvP.succ ?_
    have hlt : ¬ (i : Int) < (n : Int) := by omega
    simp only [Z1e, hlt, decide_false, Bool.false_eq_true, if_false]
    exact EvP.some ⟨at', seed, o6, rfl, hl, by omega, by omega⟩
  | d + 1, i, o6, v7, at', seed, h, hl, hc => by
    refine EvP.succ ?_
    have hlt : (i : Int) < (n : Int) := by omega
    have w : wrap64 ((i : Int) + 1) = ((i + 1 : Nat) : Int) := by rw [w64 (by omega) (by omega)]; omega
    have ih := fun (o6 : List CellD) (v7 a s : Int) (h1 : o6.length = n) (h2 : at' ≤ a) (h3 : a ≤ at' + 2) => (ZvW code n hn b30 b31 b50 b51 o4 d (i + 1) o6 v7 a s (by omega) h1 (hc.to (by omega) (by omega))).mono (Q' := fun z => ∃ a s l, z = (a, s, code, b30, b31, o4, b50, b51, l) ∧ l.length = n ∧ at' ≤ a ∧ a ≤ at' + 2 * ((d + 1 : Nat) : Int)) (fun z hz => by
      obtain ⟨a2, s2, l2, e, g1, g2, g3⟩ := hz
      exact ⟨a2, s2, l2, e, g1, by omega, by omega⟩)
    simp only [Z1e, hlt, decide_true, if_true, w]
    refine EvP.guard (by omega) (EvP.guard (by omega) ?_)
    refine EvP.bind (EvP.ev (Q := fun _ => True) (Z9k _) trivial) (fun q _ => ?_)
    refine EvP.ite (fun _ => EvP.ite (fun _ => ?_) (fun _ => ih _ _ _ _ hl (by omega) (by omega))) (fun _ => ih _ _ _ _ hl (by omega) (by omega))
    refine EvP.bind (Q1 := fun z => ∃ a s l, z = (a, s, code, b30, b31, o4, b50, b51, l, wrap64 (v7 + 1), (n : Int), (i : Int)) ∧ l.length = n ∧ at' ≤ a ∧ a ≤ at' + 2) ?_ (fun z hz => ?_)
    · simp only [Z22]
      refine EvP.bind (ZHe _ (by simp) (hc.to (by omega) (by omega))) (fun y hy => ?_)
      refine EvP.guard (by omega) (EvP.guard (by omega) (EvP.some ⟨y.2.1, y.2.2, _, rfl, by rw [List.length_set]; exact hl, by omega, by omega⟩))
    · obtain ⟨a, s, l, rfl, h1, h2, h3⟩ := hz
      dsimp only
      rw [w]
      exact ih _ _ _ _ h1 h2 h3
theorem ZHE (h : Cur code at' 1300) : EvP (fun k => Z86 k (code, at', seed)) (fun r => at' ≤ r.2.1 ∧ r.2.1 ≤ at' + 1300 ∧ r.1.2.2.length ≤ 91) := by
 refine EvP.succ ?_
 simp only [Z86]
 refine EvP.bind (ZaT 8 (h.to (by omega) (by omega)) (by omega)) (fun z0 h0 => ?_)
 refine EvP.ite (fun _ => ?_) (fun _ => EvP.ite (fun _ => ?_) (fun _ => EvP.ite (fun _ => ?_) (fun _ => ?_)))
 ·refine EvP.bind (ZB7 (h.to (by omega) (by omega))) (fun z4 h4 => ?_)
  exact EvP.some ⟨by dsimp only; omega, by dsimp only; omega, h4.2.2⟩
 ·refine EvP.bind (ZaT 3 (h.to (by omega) (by omega)) (by omega)) (fun z2 h2 => ?_)
  have w0 : wrap64 (1 + z2.1) = 1 + z2.1 := w64 (by omega) (by omega)
  have w1 : IntKind.wrap IntKind.u64 (1 + z2.1) = 1 + z2.1 := Zow _ (by omega) (by rw [two64]; omega)
  have hn : ¬ (1 + z2.1 < 0) := by omega
  simp only [w0, w1, hn, if_false]
  refine EvP.bind (ZJ1 _ (h.to (by omega) (by omega))) (fun z1 h1 => ?_)
  refine EvP.bind (ZIc _ _ (by omega) (by omega)) (fun z3 h3 => ?_)
  exact EvP.some ⟨by dsimp only; omega, by dsimp only; omega, by dsimp only; omega⟩
 ·have e9 : (List.replicate (Int.toNat 9) ((0, 0) : CellD)).length = 9 := by rw [List.length_replicate]; rfl
  have c9 : (((List.replicate (Int.toNat 9) ((0, 0) : CellD)).length : Nat) : Int) = 9 := by rw [e9]; rfl
  rw [c9]
  refine EvP.bind (ZwD code 0 0 3 3 [] 9 0 _ z0.2.1 z0.2.2 (by omega) e9 (h.to (by omega) (by omega))) (fun z hz => ?_)
  obtain ⟨a, s, l, rfl, h1, h2, h3⟩ := hz
  dsimp only
  refine EvP.bind (ZBO 3 (h.to (by omega) (by omega))) (fun z10 h10 => ?_)
  refine EvP.bind (Q1 := fun z => ∃ a s l, z = (a, s, code, 0, 0, [], 3, 3, l) ∧ l.length = 9 ∧ at' ≤ a ∧ a ≤ at' + 1000) ?_ (fun z hz => ?_)
  ·simp only [Z8I]
   refine EvP.ite (fun _ => ?_) (fun _ => EvP.some ⟨z10.2.1, z10.2.2, l, rfl, h1, by omega, by omega⟩)
   simp only [Z25]
   refine EvP.bind (Q1 := fun z => ∃ a s l, z = (a, s, code, 0, 0, [], 3, 3, l) ∧ l.length = 9 ∧ at' ≤ a ∧ a ≤ at' + 1000) ?_ (fun z hz => by obtain ⟨a, s, l, rfl, h1, h2, h3⟩ := hz; exact EvP.some ⟨a, s, l, rfl, h1, h2, h3⟩)
   refine EvP.bind (ZaT 9 (h.to (by omega) (by omega)) (by omega)) (fun y hy => ?_)
   exact EvP.guard (by omega) (EvP.guard (by omega) (EvP.some ⟨y.2.1, y.2.2, _, rfl, by rw [List.length_set]; exact h1, by omega, by omega⟩))
  ·obtain ⟨a, s, l, rfl, h1, h2, h3⟩ := hz
   exact EvP.some ⟨by dsimp only; omega, by dsimp only; omega, by dsimp only; omega⟩
 ·refine EvP.bind (ZaT 4 (h.to (by omega) (by omega)) (by omega)) (fun z16 h16 => ?_)
  refine EvP.bind (ZaT 4 (h.to (by omega) (by omega)) (by omega)) (fun z17 h17 => ?_)
  have w0 : wrap64 (1 + z16.1) = 1 + z16.1 := w64 (by omega) (by omega)
  have w1 : wrap64 (1 + z17.1) = 1 + z17.1 := w64 (by omega) (by omega)
  have hp := Zxf (r := 1 + z16.1) (c := 1 + z17.1) (by omega) (by omega) (by omega) (by omega)
  rw [w0, w1]
  refine EvP.bind (ZwU _ _ ((1 + z16.1) * (1 + z17.1)).toNat (by rw [w64 (by omega) (by omega)]; omega) (by omega) (h.to (by omega) (by omega))) (fun z18 h18 => ?_)
  refine EvP.bind (ZvW code z18.1.2.2.length (by omega) 0 0 z18.1.1 z18.1.2.1 [] z18.1.2.2.length 0 z18.1.2.2 0 z18.2.1 z18.2.2 (by omega) rfl (h.to (by omega) (by omega))) (fun z hz => ?_)
  obtain ⟨a, s, l, rfl, h1, h2, h3⟩ := hz
  exact EvP.some ⟨by dsimp only; omega, by dsimp only; omega, by dsimp only; omega⟩
def TestsIn (T : List (List Int)) : Prop := T.length ≤ 11 ∧ ∀ x ∈ T, x.length ≤ 9
theorem ZB3 (code : List Int) (b30 b31 b50 b51 : Int) (o4 o6 : List CellD) (o7 : List (List Int)) (v6 v8 : Int) : ∀ (d : Nat) (o8 : List Int) (at' seed : Int), v8 ≤ ((o8.length + d : Nat) : Int) → o8.length + d ≤ 9 → Cur code at' (2 * d) →
    EvP (fun k => Z3x k at' seed code b30 b31 o4 b50 b51 o6 o7 o8 v6 v8) (fun z => ∃ a s l, z = (a, s, code, b30, b31, o4, b50, b51, o6, o7, l, v6) ∧ l.length ≤ 9 ∧ at' ≤ a ∧ a ≤ at' + 2 * d)
  | 0, o8, at', seed, h, hl, hc => by
    refine EvP.succ ?_
    have hlt : ¬ (o8.length : Int) < v8 := by omega
    simp only [Z3x, hlt, decide_false, Bool.false_eq_true, if_false]
    exact EvP.some ⟨at', seed, o8, rfl, by omega, by omega, by omega⟩
  | d + 1, o8, at', seed, h, hl, hc => by
    refine EvP.succ ?_
    simp only [Z3x]
    refine EvP.ite (fun _ => ?_) (fun _ => EvP.some ⟨at', seed, o8, rfl, by omega, by omega, by omega⟩)
    refine EvP.bind (ZJh 1 b51) (fun m hm => ?_)
    refine EvP.bind (ZaT m (hc.to (by omega) (by omega)) (by omega)) (fun y hy => ?_)
    refine EvP.guard (by simp only [List.length_cons, List.length_nil]; omega) ?_
    refine (ZB3 code b30 b31 b50 b51 o4 o6 o7 v6 v8 d (o8 ++ [y.1]) y.2.1 y.2.2 (by simp; omega) (by simp; omega) (hc.to (by omega) (by omega))).mono (fun z hz => ?_)
    obtain ⟨a2, s2, l2, e, g1, g2, g3⟩ := hz
    exact ⟨a2, s2, l2, e, g1, by omega, by omega⟩
theorem ZBs (code : List Int) (b30 b31 b50 b51 : Int) (o4 o6 : List CellD) (v6 : Int) : ∀ (d : Nat) (o7 : List (List Int)) (at' seed : Int), v6 ≤ ((o7.length + d : Nat) : Int) → o7.length + d ≤ 11 → o7.length ≤ max v6 0 → (∀ x ∈ o7, x.length ≤ 9) → Cur code at' (40 * d) →
    EvP (fun k => Z3u k at' seed code b30 b31 o4 b50 b51 o6 o7 v6) (fun z => ∃ a s l, z = (a, s, code, b30, b31, o4, b50, b51, o6, l, v6) ∧ TestsIn l ∧ (l.length : Int) = max v6 0 ∧ at' ≤ a ∧ a ≤ at' + 40 * d)
  | 0, o7, at', seed, h, hl, hv, hx, hc => by
    refine EvP.succ ?_
    have hlt : ¬ (o7.length : Int) < v6 := by omega
    simp only [Z3u, hlt, decide_false, Bool.false_eq_true, if_false]
    exact EvP.some ⟨at', seed, o7, rfl, ⟨by omega, hx⟩, by omega, by omega, by omega⟩
  | d + 1, o7, at', seed, h, hl, hv, hx, hc => by
    refine EvP.succ ?_
    simp only [Z3u, decide_eq_true_eq]
    refine EvP.ite (fun hlt => ?_) (fun hlt => EvP.some ⟨at', seed, o7, rfl, ⟨by omega, hx⟩, by omega, by omega, by omega⟩)
    refine EvP.bind (ZaT 4 (hc.to (by omega) (by omega)) (by omega)) (fun z11 h11 => ?_)
    refine EvP.bind (ZBO 12 (hc.to (by omega) (by omega))) (fun z12 h12 => ?_)
    refine EvP.bind (Q1 := fun z => ∃ a s m : Int, z = (a, s, code, b30, b31, o4, b50, b51, o6, o7, [], v6, m) ∧ m ≤ 9 ∧ at' ≤ a ∧ a ≤ at' + 8) ?_ (fun z hz => ?_)
    · simp only [Za3]
      refine EvP.ite (fun _ => ?_) (fun _ => EvP.some ⟨z12.2.1, z12.2.2, z11.1, rfl, by omega, by omega, by omega⟩)
      refine EvP.bind (ZaT 2 (hc.to (by omega) (by omega)) (by omega)) (fun z13 h13 => ?_)
      refine EvP.bind (ZaT 2 (hc.to (by omega) (by omega)) (by omega)) (fun z14 h14 => EvP.some ⟨z14.2.1, z14.2.2, _, rfl, ?_, by omega, by omega⟩)
      have h1 : z13.1 = 0 ∨ z13.1 = 1 := by omega
      have h2 : z14.1 = 0 ∨ z14.1 = 1 := by omega
      rcases h1 with e1 | e1 <;> rcases h2 with e2 | e2 <;> rw [e1, e2, w64 (n := _ * _) (by omega) (by omega), w64 (by omega) (by omega)] <;> decide
    · obtain ⟨a, s, m, rfl, h1, h2, h3⟩ := hz
      dsimp only
      refine EvP.bind (ZB3 code b30 b31 b50 b51 o4 o6 o7 v6 m 9 [] a s (by simpa using h1) (by simp) (hc.to (by omega) (by omega))) (fun z hz => ?_)
      obtain ⟨a2, s2, l2, rfl, g1, g2, g3⟩ := hz
      dsimp only
      refine EvP.guard (by simp only [List.length_cons, List.length_nil]; omega) ?_
      refine (ZBs code b30 b31 b50 b51 o4 o6 v6 d (o7 ++ [l2]) a2 s2 (by simp; omega) (by simp; omega) (by simp; omega) (fun x hx' => ?_) (hc.to (by omega) (by omega))).mono (fun z hz => ?_)
      · rcases List.mem_append.1 hx' with h5 | h5
        · exact hx x h5
        · rw [List.mem_singleton.1 h5]; exact g1
      · obtain ⟨a4, s4, l4, e, k1, k2, k3, k4⟩ := hz
        exact ⟨a4, s4, l4, e, k1, k2, by omega, by omega⟩
theorem ZIz (h : Cur code at' 5000) : EvP (fun k => Z9U k (code, at', seed)) (fun r => at' ≤ r.2.2.1 ∧ r.2.2.1 ≤ at' + 5000 ∧ r.1.2.2.length ≤ 91 ∧ TestsIn r.2.1) := by
 refine EvP.succ ?_
 simp only [Z9U]
 refine EvP.bind (ZHE (h.to (by omega) (by omega))) (fun z0 h0 => ?_)
 refine EvP.bind (ZaT 20 (h.to (by omega) (by omega)) (by omega)) (fun z1 h1 => ?_)
 refine EvP.bind (Q1 := fun z => ∃ a s : Int, ∃ b : BoardD, z = (a, s, code, 0, 0, [], b.1, b.2.1, b.2.2) ∧ at' ≤ a ∧ a ≤ at' + 4000 ∧ b.2.2.length ≤ 91) ?_ (fun z hz => ?_)
 ·simp only [Zaf]
  refine EvP.ite (fun _ => ?_) (fun _ => EvP.ite (fun _ => ?_) (fun _ => EvP.some ⟨z1.2.1, z1.2.2, z0.1, rfl, by omega, by omega, h0.2.2⟩))
  ·exact EvP.bind (ZB7 (h.to (by omega) (by omega))) (fun z2 h2 => EvP.some ⟨z2.2.1, z2.2.2, z2.1, rfl, by omega, by omega, h2.2.2⟩)
  ·refine EvP.bind (ZwU 6 5 30 (by rw [w64 (by omega) (by omega)]; rfl) (by omega) (h.to (by omega) (by omega))) (fun z3 h3 => ?_)
   refine EvP.bind (ZBO 3 (h.to (by omega) (by omega))) (fun z4 h4 => ?_)
   refine EvP.ite (fun _ => ?_) (fun _ => EvP.some ⟨z4.2.1, z4.2.2, z3.1, rfl, by omega, by omega, by omega⟩)
   exact EvP.bind (ZwU 8 4 32 (by rw [w64 (by omega) (by omega)]; rfl) (by omega) (h.to (by omega) (by omega))) (fun z5 h5 => EvP.some ⟨z5.2.1, z5.2.2, z5.1, rfl, by omega, by omega, by omega⟩)
 obtain ⟨a3, s3, b, rfl, q1, q2, q3⟩ := hz
 dsimp only
 refine EvP.bind (ZaT 4 (h.to (by omega) (by omega)) (by omega)) (fun z7 h7 => ?_)
 refine EvP.bind (ZBO 16 (h.to (by omega) (by omega))) (fun z8 h8 => ?_)
 refine EvP.bind (Q1 := fun z => ∃ a s n : Int, z = (a, s, code, 0, 0, [], b.1, b.2.1, b.2.2, [], n) ∧ 0 ≤ n ∧ n ≤ 11 ∧ at' ≤ a ∧ a ≤ at' + 4010) ?_ (fun z hz => ?_)
 ·simp only [Za7]
  refine EvP.ite (fun _ => ?_) (fun _ => EvP.some ⟨z8.2.1, z8.2.2, z7.1, rfl, by omega, by omega, by omega, by omega⟩)
  refine EvP.bind (ZaT 2 (h.to (by omega) (by omega)) (by omega)) (fun z9 h9 => ?_)
  have w : wrap64 (10 + z9.1) = 10 + z9.1 := w64 (by omega) (by omega)
  rw [w]
  exact EvP.some ⟨z9.2.1, z9.2.2, _, rfl, by omega, by omega, by omega, by omega⟩
 obtain ⟨a4, s4, n, rfl, n1, n2, q4, q5⟩ := hz
 dsimp only
 refine EvP.bind (ZBs code 0 0 b.1 b.2.1 [] b.2.2 n 11 [] a4 s4 (by simpa using n2) (by simp) (by simp; omega) (fun x hx => by cases hx) (h.to (by omega) (by omega))) (fun z hz => ?_)
 obtain ⟨a5, s5, T, rfl, t1, t2, q6, q7⟩ := hz
 dsimp only
 refine EvP.ite (fun hn => ?_) (fun _ => EvP.some ⟨by dsimp only; omega, by dsimp only; omega, q3, t1⟩)
 simp only [decide_eq_true_eq] at hn
 refine EvP.bind (ZBO 24 (h.to (by omega) (by omega))) (fun z20 h20 => ?_)
 refine EvP.ite (fun _ => ?_) (fun _ => EvP.some ⟨by dsimp only; omega, by dsimp only; omega, q3, t1⟩)
 refine EvP.bind (Q1 := fun z => ∃ a s T, z = (a, s, code, 0, 0, [], b.1, b.2.1, b.2.2, T) ∧ TestsIn T ∧ at' ≤ a ∧ a ≤ at' + 5000) ?_ (fun z hz => ?_)
 ·simp only [Z2E]
  refine EvP.bind (ZaT n (h.to (by omega) (by omega)) (by omega)) (fun y hy => ?_)
  refine EvP.bind (ZHe _ (by simp) (h.to (by omega) (by omega))) (fun x hx => ?_)
  refine EvP.guard (by omega) (EvP.guard (by omega) (EvP.some ⟨x.2.1, x.2.2, _, rfl, ⟨by rw [List.length_set]; exact t1.1, fun u hu => ?_⟩, by omega, by omega⟩))
  rcases List.mem_or_eq_of_mem_set hu with h1 | rfl
  ·exact t1.2 u h1
  ·simp
 ·obtain ⟨a, s, T2, rfl, h1, h2, h3⟩ := hz
  exact EvP.some ⟨by dsimp only; omega, by dsimp only; omega, q3, h1⟩
end
theorem ZDu (code : List Int) (h : Cur code 0 6000) : EvP (fun k => Z9J k code) (fun r => r.1.2.2.length ≤ 91 ∧ TestsIn r.2) := by
 refine EvP.succ ?_
 simp only [Z9J]
 exact EvP.bind (ZIz (h.to (by omega) (by omega))) (fun z hz => EvP.some ⟨hz.2.2.1, hz.2.2.2⟩)
end
section
theorem Zqn : ∀ (r s pre q : List Int), r.length = s.length → pre.length = q.length → (pre ++ r).length ≤ 1000000 → Ev (fun k => Z99 k (pre ++ r) (q ++ s) ((pre ++ r).length : Int) (pre.length : Int)) (if r = s then LR.go () else LR.ret false)
 | [], s, pre, q, h, hq, hl => by
  obtain rfl : s = [] := List.eq_nil_of_length_eq_zero h.symm
  refine Ev.succ ?_
  simp only [Z99, Zj, decide_false, Bool.false_eq_true, if_false, if_true]
  exact Ev.some _
 | x :: r, [], pre, q, h, hq, hl => by simp at h
 | x :: r, y :: s, pre, q, h, hq, hl => by
  have ih := Zqn r s (pre ++ [x]) (q ++ [y]) (by simpa using h) (by simpa using hq) (by simpa using hl)
  have l2 : (pre.length : Int) < ((q ++ y :: s).length : Int) := by rw [hq]; exact Zc _ _ _
  have g2 : List.getD (q ++ y :: s) pre.length 0 = y := by rw [hq]; exact Za _ _ _ _
  refine Ev.succ ?_
  simp only [Z99, Zc, Zr, l2, decide_true, if_true, Int.toNat_natCast, Za, g2]
  rw [Zd pre x r (by omega)]
  rw [← Z6, ← Z6] at ih
  refine Ev.ite (fun hh => ?_) (fun hh => ?_)
  ·simp only [decide_eq_true_eq] at hh
   rw [if_neg (fun he => hh (List.cons.inj he).1)]
   exact Ev.some _
  ·simp only [decide_eq_true_eq, Decidable.not_not] at hh
   refine ih.congr ?_
   simp [hh]
theorem ZdW (a c : List Int) (ha : a.length ≤ 1000000) : Ev (fun k => Z7L k a c) (decide (a = c)) := by
 refine Ev.succ ?_
 simp only [Z7L]
 refine Ev.ite (fun h => ?_) (fun h => ?_)
 ·simp only [decide_eq_true_eq] at h
  rw [decide_eq_false (fun he => h (by rw [he]))]
  exact Ev.some _
 ·simp only [decide_eq_true_eq, Decidable.not_not] at h
  refine Ev.bind (Zqn a c [] [] (by omega) rfl (by simpa using ha)) ?_
  by_cases he : a = c
  ·rw [if_pos he, decide_eq_true he]; exact Ev.go (Ev.some _)
  ·rw [if_neg he, decide_eq_false he]; exact Ev.ret (Ev.some _)
theorem ZnF : ∀ (r s pre q : List (List Int)), r.length = s.length → pre.length = q.length → (pre ++ r).length ≤ 1000000 → (∀ x ∈ r, x.length ≤ 1000000) → Ev (fun k => Z8h k (pre ++ r) (q ++ s) ((pre ++ r).length : Int) (pre.length : Int)) (if r = s then LR.go () else LR.ret false)
 | [], s, pre, q, h, hq, hl, hx => by
  obtain rfl : s = [] := List.eq_nil_of_length_eq_zero h.symm
  refine Ev.succ ?_
  simp only [Z8h, Zj, decide_false, Bool.false_eq_true, if_false, if_true]
  exact Ev.some _
 | x :: r, [], pre, q, h, hq, hl, hx => by simp at h
 | x :: r, y :: s, pre, q, h, hq, hl, hx => by
  have ih := ZnF r s (pre ++ [x]) (q ++ [y]) (by simpa using h) (by simpa using hq) (by simpa using hl) (fun z hz => hx z (List.mem_cons_of_mem _ hz))
  have l2 : (pre.length : Int) < ((q ++ y :: s).length : Int) := by rw [hq]; exact Zc _ _ _
  have g2 : List.getD (q ++ y :: s) pre.length [] = y := by rw [hq]; exact Za _ _ _ _
  refine Ev.succ ?_
  simp only [Z8h, Zc, Zr, l2, decide_true, if_true, Int.toNat_natCast, Za, g2]
  rw [Zd pre x r (by omega)]
  rw [← Z6, ← Z6] at ih
  refine Ev.bind (ZdW x y (hx x (List.mem_cons_self ..))) ?_
  by_cases hh : x = y
  ·simp only [hh, decide_true, Bool.not_true, Bool.false_eq_true, if_false]
   rw [hh] at ih
   refine ih.congr ?_
   simp
  ·simp only [hh, decide_false, Bool.not_false, if_true]
   rw [if_neg (fun he => hh (List.cons.inj he).1)]
   exact Ev.some _
theorem Zjb (a c : List (List Int)) (ha : a.length ≤ 1000000) (hx : ∀ x ∈ a, x.length ≤ 1000000) : Ev (fun k => Zam k a c) (decide (a = c)) := by
 refine Ev.succ ?_
 simp only [Zam]
 refine Ev.ite (fun h => ?_) (fun h => ?_)
 ·simp only [decide_eq_true_eq] at h
  rw [decide_eq_false (fun he => h (by rw [he]))]
  exact Ev.some _
 ·simp only [decide_eq_true_eq, Decidable.not_not] at h
  refine Ev.bind (ZnF a c [] [] (by omega) rfl (by simpa using ha) hx) ?_
  by_cases he : a = c
  ·rw [if_pos he, decide_eq_true he]; exact Ev.go (Ev.some _)
  ·rw [if_neg he, decide_eq_false he]; exact Ev.ret (Ev.some _)
end
set_option maxRecDepth 100000
set_option maxHeartbeats 2000000
section
noncomputable section
noncomputable def Ze : List PK := [PK.mk .bool false none false none]
noncomputable def Z6K : List PK := [PK.mk (.slice 5 (.int .u8)) false none false none, PK.mk (.slice 5 (.int .u8)) false none false none]
noncomputable def ZR (r : Bool) : Tup Ze × OutD := ((r, ()), none)
noncomputable def ZQ : Tup Ze × OutD → Option (Bool)
 | (a, none) => some (a.1)
 | _ => none
theorem ZE : ∀ b r, ZQ b = some r → ZR r = b := by
 rintro ⟨a, _ | _⟩ r h <;> cases h; rfl
noncomputable def Z2w : Nat → Int → Int → List (Int × Int) → List (List Int) → List Int → List Int → List (List Int) → List Int → List (List Int) → Int → Int → Int → Int → Int → Option (Int × Int × List (Int × Int) × List (List Int) × List Int × List Int × List (List Int) × List Int × List (List Int) × Int × Int × Int)
 | 0, _, _, _, _, _, _, _, _, _, _, _, _, _, _ => none
 | k + 1, b1_0, b1_1, o2, o3, o4, o5, o6, o7, o8, v18, v19, v25, v175, v176 =>
  if decide (v176 < v175) = true then if (0 : Int) ≤ v176 then if v176 < (↑(List.length o4) : Int) then if decide (v176 ≠ v25) = true then if (0 : Int) ≤ List.getD o4 (Int.toNat v176) (0 : Int) then if List.getD o4 (Int.toNat v176) (0 : Int) < (↑(List.length o3) : Int) then if List.length o8 + List.length [List.getD o3 (Int.toNat (List.getD o4 (Int.toNat v176) (0 : Int))) []] ≤ (140737488355328 / 24 : Nat) then Z2w k b1_0 b1_1 o2 o3 o4 o5 o6 o7 (o8 ++ [List.getD o3 (Int.toNat (List.getD o4 (Int.toNat v176) (0 : Int))) []]) v18 v19 v25 v175 (wrap64 (v176 + 1)) else none else none else none else Z2w k b1_0 b1_1 o2 o3 o4 o5 o6 o7 o8 v18 v19 v25 v175 (wrap64 (v176 + 1)) else none else none else some (b1_0, b1_1, o2, o3, o4, o5, o6, o7, o8, v18, v19, v25)
noncomputable def ZaX : Spec := Spec.mk [.ro, O7, O0, O5, O3, O3, O5, O3, Or] [(5, .at (.ptr 1 0)), (6, .at (.sl 3)), (9, .at (.sl 4)), (13, .at (.sl 5)), (18, .at (.int .i64)), (19, .at (.int .i64)), (21, .at (.sl 6)), (23, .at (.sl 7)), (25, .at (.int .i64)), (26, .at (.sl 8)), (174, .at (.sl 4)), (175, .at (.int .i64)), (176, .at (.int .i64))]
noncomputable def Zov : Spec := Spec.mk [.ro, O7, O0, O5, O3, O3, O5, O3, Or] [(5, .at (.ptr 1 0)), (6, .at (.sl 3)), (9, .at (.sl 4)), (13, .at (.sl 5)), (18, .at (.int .i64)), (19, .at (.int .i64)), (21, .at (.sl 6)), (23, .at (.sl 7)), (25, .at (.int .i64)), (26, .at (.sl 8))]
noncomputable def Z35 : LoopDef (Tup Ze × OutD) := .plain ZaX Zov (Int × Int × List (Int × Int) × List (List Int) × List Int × List Int × List (List Int) × List Int × List (List Int) × Int × Int × Int) (fun k x => Z2w k x.1.2.1.1 x.1.2.1.2.1 x.1.2.2.1 x.1.2.2.2.1 x.1.2.2.2.2.1 x.1.2.2.2.2.2.1 x.1.2.2.2.2.2.2.1 x.1.2.2.2.2.2.2.2.1 x.1.2.2.2.2.2.2.2.2.1 x.2.2.2.2.2.1 x.2.2.2.2.2.2.1 x.2.2.2.2.2.2.2.2.2.1 x.2.2.2.2.2.2.2.2.2.2.2.2.1 x.2.2.2.2.2.2.2.2.2.2.2.2.2.1) (fun z => (((), (z.1, z.2.1, (), ()), z.2.2.1, z.2.2.2.1, z.2.2.2.2.1, z.2.2.2.2.2.1, z.2.2.2.2.2.2.1, z.2.2.2.2.2.2.2.1, z.2.2.2.2.2.2.2.2.1, ()), ((), (), (), (), z.2.2.2.2.2.2.2.2.2.1, z.2.2.2.2.2.2.2.2.2.2.1, (), (), z.2.2.2.2.2.2.2.2.2.2.2, (), ()))) (fun y => (y.1.2.1.1, y.1.2.1.2.1, y.1.2.2.1, y.1.2.2.2.1, y.1.2.2.2.2.1, y.1.2.2.2.2.2.1, y.1.2.2.2.2.2.2.1, y.1.2.2.2.2.2.2.2.1, y.1.2.2.2.2.2.2.2.2.1, y.2.2.2.2.2.1, y.2.2.2.2.2.2.1, y.2.2.2.2.2.2.2.2.2.1)) (fun _ => rfl)
noncomputable def Z3B : Nat → Int → Int → List (Int × Int) → List (List Int) → List Int → List Int → List (List Int) → List Int → Int → Int → Int → Option (LR (Int × Int × List (Int × Int) × List (List Int) × List Int × List Int × Int × Int) Bool)
 | 0, _, _, _, _, _, _, _, _, _, _, _ => none
 | k + 1, b1_0, b1_1, o2, o3, o4, o5, o6, o7, v18, v19, v25 =>
  if decide (v25 < (↑(List.length o4) : Int)) = true then Option.bind (Z2w k b1_0 b1_1 o2 o3 o4 o5 o6 o7 [] v18 v19 v25 (↑(List.length o4) : Int) (0 : Int)) fun z11 => Option.bind (Z4q k (z11.1, z11.2.1, z11.2.2.1) z11.2.2.2.2.2.2.2.2.1) fun z12 => Option.bind (Z3g k (z11.1, z11.2.1, z11.2.2.1) z11.2.2.2.2.2.2.2.2.1) fun z13 => if (!z12.2) = true then some (LR.ret false) else if (!z13.2) = true then some (LR.ret false) else Option.bind (Zam k z12.1 z13.1) fun z14 => if (!z14) = true then some (LR.ret false) else Option.bind (Zam k z13.1 z11.2.2.2.2.2.2.1) fun z15 => if (!z15 == decide (z11.2.2.2.2.2.2.2.2.2.2.2 < 0)) = true then some (LR.ret false) else Z3B k z11.1 z11.2.1 z11.2.2.1 z11.2.2.2.1 z11.2.2.2.2.1 z11.2.2.2.2.2.1 z11.2.2.2.2.2.2.1 z11.2.2.2.2.2.2.2.1 z11.2.2.2.2.2.2.2.2.2.1 z11.2.2.2.2.2.2.2.2.2.2.1 (wrap64 (z11.2.2.2.2.2.2.2.2.2.2.2 + 1)) else some (LR.go (b1_0, b1_1, o2, o3, o5, o7, v18, v19))
noncomputable def ZaU : Spec := Spec.mk [.ro, O7, O0, O5, O3, O3, O5, O3] [(5, .at (.ptr 1 0)), (6, .at (.sl 3)), (9, .at (.sl 4)), (13, .at (.sl 5)), (18, .at (.int .i64)), (19, .at (.int .i64)), (21, .at (.sl 6)), (23, .at (.sl 7)), (25, .at (.int .i64))]
noncomputable def Zor : Spec := Spec.mk [.ro, O7, O0, O5, O3, O3] [(5, .at (.ptr 1 0)), (6, .at (.sl 3)), (13, .at (.sl 4)), (18, .at (.int .i64)), (19, .at (.int .i64)), (23, .at (.sl 5))]
noncomputable def Z36 : LoopDef (Tup Ze × OutD) := .rets ZaU Zor (Int × Int × List (Int × Int) × List (List Int) × List Int × List Int × Int × Int) (Bool) (fun k x => Z3B k x.1.2.1.1 x.1.2.1.2.1 x.1.2.2.1 x.1.2.2.2.1 x.1.2.2.2.2.1 x.1.2.2.2.2.2.1 x.1.2.2.2.2.2.2.1 x.1.2.2.2.2.2.2.2.1 x.2.2.2.2.2.1 x.2.2.2.2.2.2.1 x.2.2.2.2.2.2.2.2.2.1) (fun z => (((), (z.1, z.2.1, (), ()), z.2.2.1, z.2.2.2.1, z.2.2.2.2.1, z.2.2.2.2.2.1, ()), ((), (), (), z.2.2.2.2.2.2.1, z.2.2.2.2.2.2.2, (), ()))) (fun y => (y.1.2.1.1, y.1.2.1.2.1, y.1.2.2.1, y.1.2.2.2.1, y.1.2.2.2.2.1, y.1.2.2.2.2.2.1, y.2.2.2.2.1, y.2.2.2.2.2.1)) (fun _ => rfl) ZR ZQ ZE
noncomputable def Z2x : Nat → Int → Int → List (Int × Int) → List (List Int) → List Int → List Int → List (List Int) → Int → Int → Int → Int → Int → Option (Int × Int × List (Int × Int) × List (List Int) × List Int × List Int × List (List Int) × Int × Int × Int)
 | 0, _, _, _, _, _, _, _, _, _, _, _, _ => none
 | k + 1, b1_0, b1_1, o2, o3, o4, o5, o6, v18, v19, v33, v231, v232 =>
  if decide (v232 < v231) = true then if (0 : Int) ≤ v232 then if v232 < (↑(List.length o4) : Int) then if decide (v232 ≠ v33) = true then if (0 : Int) ≤ List.getD o4 (Int.toNat v232) (0 : Int) then if List.getD o4 (Int.toNat v232) (0 : Int) < (↑(List.length o3) : Int) then if List.length o6 + List.length [List.getD o3 (Int.toNat (List.getD o4 (Int.toNat v232) (0 : Int))) []] ≤ (140737488355328 / 24 : Nat) then Z2x k b1_0 b1_1 o2 o3 o4 o5 (o6 ++ [List.getD o3 (Int.toNat (List.getD o4 (Int.toNat v232) (0 : Int))) []]) v18 v19 v33 v231 (wrap64 (v232 + 1)) else none else none else none else Z2x k b1_0 b1_1 o2 o3 o4 o5 o6 v18 v19 v33 v231 (wrap64 (v232 + 1)) else none else none else some (b1_0, b1_1, o2, o3, o4, o5, o6, v18, v19, v33)
noncomputable def ZaZ : Spec := Spec.mk [.ro, O7, O0, O5, O3, O3, Or] [(5, .at (.ptr 1 0)), (6, .at (.sl 3)), (13, .at (.sl 4)), (18, .at (.int .i64)), (19, .at (.int .i64)), (23, .at (.sl 5)), (33, .at (.int .i64)), (34, .at (.sl 6)), (230, .at (.sl 4)), (231, .at (.int .i64)), (232, .at (.int .i64))]
noncomputable def Zpx : Spec := Spec.mk [.ro, O7, O0, O5, O3, O3, Or] [(5, .at (.ptr 1 0)), (6, .at (.sl 3)), (13, .at (.sl 4)), (18, .at (.int .i64)), (19, .at (.int .i64)), (23, .at (.sl 5)), (33, .at (.int .i64)), (34, .at (.sl 6))]
noncomputable def Z2S : LoopDef (Tup Ze × OutD) := .plain ZaZ Zpx (Int × Int × List (Int × Int) × List (List Int) × List Int × List Int × List (List Int) × Int × Int × Int) (fun k x => Z2x k x.1.2.1.1 x.1.2.1.2.1 x.1.2.2.1 x.1.2.2.2.1 x.1.2.2.2.2.1 x.1.2.2.2.2.2.1 x.1.2.2.2.2.2.2.1 x.2.2.2.2.1 x.2.2.2.2.2.1 x.2.2.2.2.2.2.2.1 x.2.2.2.2.2.2.2.2.2.2.1 x.2.2.2.2.2.2.2.2.2.2.2.1) (fun z => (((), (z.1, z.2.1, (), ()), z.2.2.1, z.2.2.2.1, z.2.2.2.2.1, z.2.2.2.2.2.1, z.2.2.2.2.2.2.1, ()), ((), (), (), z.2.2.2.2.2.2.2.1, z.2.2.2.2.2.2.2.2.1, (), z.2.2.2.2.2.2.2.2.2, (), ()))) (fun y => (y.1.2.1.1, y.1.2.1.2.1, y.1.2.2.1, y.1.2.2.2.1, y.1.2.2.2.2.1, y.1.2.2.2.2.2.1, y.1.2.2.2.2.2.2.1, y.2.2.2.2.1, y.2.2.2.2.2.1, y.2.2.2.2.2.2.2.1)) (fun _ => rfl)
noncomputable def Z3C : Nat → Int → Int → List (Int × Int) → List (List Int) → List Int → List Int → Int → Int → Int → Option (LR (Int × Int × List (Int × Int) × List (List Int) × Int × Int) Bool)
 | 0, _, _, _, _, _, _, _, _, _ => none
 | k + 1, b1_0, b1_1, o2, o3, o4, o5, v18, v19, v33 =>
  if decide (v33 < (↑(List.length o4) : Int)) = true then Option.bind (Z2x k b1_0 b1_1 o2 o3 o4 o5 [] v18 v19 v33 (↑(List.length o4) : Int) (0 : Int)) fun z17 => Option.bind (Z5i k (z17.1, z17.2.1, z17.2.2.1) z17.2.2.2.2.2.2.1) fun z18 => Option.bind (Z3t k (z17.1, z17.2.1, z17.2.2.1) z17.2.2.2.2.2.2.1) fun z19 => if (!z18.2) = true then some (LR.ret false) else if (!z19.2) = true then some (LR.ret false) else Option.bind (Z7L k z18.1 z19.1) fun z20 => if (!z20) = true then some (LR.ret false) else Option.bind (Z7L k z19.1 z17.2.2.2.2.2.1) fun z21 => if (!z21 == decide (z17.2.2.2.2.2.2.2.2.2 < 0)) = true then some (LR.ret false) else Z3C k z17.1 z17.2.1 z17.2.2.1 z17.2.2.2.1 z17.2.2.2.2.1 z17.2.2.2.2.2.1 z17.2.2.2.2.2.2.2.1 z17.2.2.2.2.2.2.2.2.1 (wrap64 (z17.2.2.2.2.2.2.2.2.2 + 1)) else some (LR.go (b1_0, b1_1, o2, o3, v18, v19))
noncomputable def Zb3 : Spec := Spec.mk [.ro, O7, O0, O5, O3, O3] [(5, .at (.ptr 1 0)), (6, .at (.sl 3)), (13, .at (.sl 4)), (18, .at (.int .i64)), (19, .at (.int .i64)), (23, .at (.sl 5)), (33, .at (.int .i64))]
noncomputable def ZoL : Spec := Spec.mk [.ro, O7, O0, O5] [(5, .at (.ptr 1 0)), (6, .at (.sl 3)), (18, .at (.int .i64)), (19, .at (.int .i64))]
noncomputable def Z33 : LoopDef (Tup Ze × OutD) := .rets Zb3 ZoL (Int × Int × List (Int × Int) × List (List Int) × Int × Int) (Bool) (fun k x => Z3C k x.1.2.1.1 x.1.2.1.2.1 x.1.2.2.1 x.1.2.2.2.1 x.1.2.2.2.2.1 x.1.2.2.2.2.2.1 x.2.2.2.2.1 x.2.2.2.2.2.1 x.2.2.2.2.2.2.2.1) (fun z => (((), (z.1, z.2.1, (), ()), z.2.2.1, z.2.2.2.1, ()), ((), (), z.2.2.2.2.1, z.2.2.2.2.2, ()))) (fun y => (y.1.2.1.1, y.1.2.1.2.1, y.1.2.2.1, y.1.2.2.2.1, y.2.2.2.1, y.2.2.2.2.1)) (fun _ => rfl) ZR ZQ ZE
noncomputable def Z1Z : Nat → Int → Int → List (Int × Int) → List (List Int) → List (List Int) → Int → Int → Int → Int → Int → Int → Int → Int → Option (Int × Int × List (Int × Int) × List (List Int) × Int × Int × Int × Int × Int × Int)
 | 0, _, _, _, _, _, _, _, _, _, _, _, _, _ => none
 | k + 1, b1_0, b1_1, o2, o3, o4, v18, v19, v41, v46, v281, v282, v318, v319 =>
  if decide (v319 < v318) = true then if (0 : Int) ≤ v319 then if v319 < (↑(List.length o4) : Int) then if decide ((↑(List.length (List.getD o4 (Int.toNat v319) [])) : Int) > v46) = true then Z1Z k b1_0 b1_1 o2 o3 o4 v18 v19 v41 (↑(List.length (List.getD o4 (Int.toNat v319) [])) : Int) v281 v282 v318 (wrap64 (v319 + 1)) else Z1Z k b1_0 b1_1 o2 o3 o4 v18 v19 v41 v46 v281 v282 v318 (wrap64 (v319 + 1)) else none else none else some (b1_0, b1_1, o2, o3, v18, v19, v41, v46, v281, v282)
noncomputable def Zaa : Spec := Spec.mk [.ro, O7, O0, O5, O5] [(5, .at (.ptr 1 0)), (6, .at (.sl 3)), (18, .at (.int .i64)), (19, .at (.int .i64)), (41, .at (.int .i64)), (46, .at (.int .i64)), (281, .at (.int .i64)), (282, .at (.int .i64)), (317, .at (.sl 4)), (318, .at (.int .i64)), (319, .at (.int .i64))]
noncomputable def Znl : Spec := Spec.mk [.ro, O7, O0, O5] [(5, .at (.ptr 1 0)), (6, .at (.sl 3)), (18, .at (.int .i64)), (19, .at (.int .i64)), (41, .at (.int .i64)), (46, .at (.int .i64)), (281, .at (.int .i64)), (282, .at (.int .i64))]
noncomputable def Z2H : LoopDef (Tup Ze × OutD) := .plain Zaa Znl (Int × Int × List (Int × Int) × List (List Int) × Int × Int × Int × Int × Int × Int) (fun k x => Z1Z k x.1.2.1.1 x.1.2.1.2.1 x.1.2.2.1 x.1.2.2.2.1 x.1.2.2.2.2.1 x.2.2.2.1 x.2.2.2.2.1 x.2.2.2.2.2.1 x.2.2.2.2.2.2.1 x.2.2.2.2.2.2.2.1 x.2.2.2.2.2.2.2.2.1 x.2.2.2.2.2.2.2.2.2.2.1 x.2.2.2.2.2.2.2.2.2.2.2.1) (fun z => (((), (z.1, z.2.1, (), ()), z.2.2.1, z.2.2.2.1, ()), ((), (), z.2.2.2.2.1, z.2.2.2.2.2.1, z.2.2.2.2.2.2.1, z.2.2.2.2.2.2.2.1, z.2.2.2.2.2.2.2.2.1, z.2.2.2.2.2.2.2.2.2, ()))) (fun y => (y.1.2.1.1, y.1.2.1.2.1, y.1.2.2.1, y.1.2.2.2.1, y.2.2.2.1, y.2.2.2.2.1, y.2.2.2.2.2.1, y.2.2.2.2.2.2.1, y.2.2.2.2.2.2.2.1, y.2.2.2.2.2.2.2.2.1)) (fun _ => rfl)
noncomputable def ZH : Nat → Int → Int → List (Int × Int) → List (List Int) → Int → Int → Int → Int → Option (LR Unit Bool)
 | 0, _, _, _, _, _, _, _, _ => none
 | k + 1, b1_0, b1_1, o2, o3, v18, v19, v281, v282 =>
  if decide (v282 < v281) = true then if (0 : Int) ≤ v282 then if v282 < (↑(List.length o3) : Int) then Option.bind (Z4q k (b1_0, b1_1, o2) [List.getD o3 (Int.toNat v282) []]) fun z23 => if (0 : Int) ≤ v282 then if v282 < (↑(List.length o3) : Int) then Option.bind (Z3g k (b1_0, b1_1, o2) [List.getD o3 (Int.toNat v282) []]) fun z24 => if (!z23.2) = true then some (LR.ret false) else if (!z24.2) = true then some (LR.ret false) else Option.bind (Zam k z23.1 z24.1) fun z25 => if (!z25) = true then some (LR.ret false) else Option.bind (Z1Z k b1_0 b1_1 o2 o3 z24.1 v18 v19 v282 (0 : Int) v281 v282 (↑(List.length z24.1) : Int) (0 : Int)) fun z26 => if decide (z26.2.2.2.2.2.2.2.1 < z26.2.2.2.2.2.1) = true then some (LR.ret false) else if decide (z26.2.2.2.2.2.2.2.1 = z26.2.2.2.2.2.1) = true then if decide (z26.2.2.2.2.2.2.1 < z26.2.2.2.2.1) = true then some (LR.ret false) else if decide (z26.2.2.2.2.2.2.1 = z26.2.2.2.2.1) = true then if decide (z26.2.2.2.2.2.2.2.1 ≠ z26.2.2.2.2.2.1) = true then some (LR.ret false) else ZH k z26.1 z26.2.1 z26.2.2.1 z26.2.2.2.1 z26.2.2.2.2.1 z26.2.2.2.2.2.1 z26.2.2.2.2.2.2.2.2.1 (wrap64 (z26.2.2.2.2.2.2.2.2.2 + 1)) else ZH k z26.1 z26.2.1 z26.2.2.1 z26.2.2.2.1 z26.2.2.2.2.1 z26.2.2.2.2.2.1 z26.2.2.2.2.2.2.2.2.1 (wrap64 (z26.2.2.2.2.2.2.2.2.2 + 1)) else if decide (z26.2.2.2.2.2.2.1 = z26.2.2.2.2.1) = true then if decide (z26.2.2.2.2.2.2.2.1 ≠ z26.2.2.2.2.2.1) = true then some (LR.ret false) else ZH k z26.1 z26.2.1 z26.2.2.1 z26.2.2.2.1 z26.2.2.2.2.1 z26.2.2.2.2.2.1 z26.2.2.2.2.2.2.2.2.1 (wrap64 (z26.2.2.2.2.2.2.2.2.2 + 1)) else ZH k z26.1 z26.2.1 z26.2.2.1 z26.2.2.2.1 z26.2.2.2.2.1 z26.2.2.2.2.2.1 z26.2.2.2.2.2.2.2.2.1 (wrap64 (z26.2.2.2.2.2.2.2.2.2 + 1)) else none else none else none else none else some (LR.go ())
noncomputable def Zb8 : Spec := Spec.mk [.ro, O7, O0, O5] [(5, .at (.ptr 1 0)), (6, .at (.sl 3)), (18, .at (.int .i64)), (19, .at (.int .i64)), (281, .at (.int .i64)), (282, .at (.int .i64))]
noncomputable def Zp6 : Spec := Spec.mk [.ro] []
noncomputable def Z30 : LoopDef (Tup Ze × OutD) := .rets Zb8 Zp6 (Unit) (Bool) (fun k x => ZH k x.1.2.1.1 x.1.2.1.2.1 x.1.2.2.1 x.1.2.2.2.1 x.2.2.2.1 x.2.2.2.2.1 x.2.2.2.2.2.1 x.2.2.2.2.2.2.1) (fun z => (((), ()), (()))) (fun y => ()) (fun _ => rfl) ZR ZQ ZE
noncomputable def Zer : Nat → Option Bool := fun k =>
    some true
noncomputable def ZmL : Spec := Spec.mk [.ro] []
noncomputable def ZS : LoopDef (Tup Ze × OutD) := .ends ZmL (Bool) (fun k x => Zer k) ZR ZQ ZE
noncomputable def Za0 : Nat → Int → Int → List (Int × Int) → List (List Int) → Int → Int → Option Bool := fun k b1_0 b1_1 o2 o3 v18 v19 =>
    Option.bind (ZH k b1_0 b1_1 o2 o3 v18 v19 (↑(List.length o3) : Int) (0 : Int)) fun z27 => LR.on z27 (fun y27 => Option.bind (Zer k) fun z28 => some z28) fun r27 => some r27
noncomputable def ZmD : Spec := Spec.mk [.ro, O7, O0, O5] [(5, .at (.ptr 1 0)), (6, .at (.sl 3)), (18, .at (.int .i64)), (19, .at (.int .i64))]
noncomputable def ZO : LoopDef (Tup Ze × OutD) := .ends ZmD (Bool) (fun k x => Za0 k x.1.2.1.1 x.1.2.1.2.1 x.1.2.2.1 x.1.2.2.2.1 x.2.2.2.1 x.2.2.2.2.1) ZR ZQ ZE
noncomputable def Za8 : Nat → Int → Int → List (Int × Int) → List (List Int) → List Int → List Int → Int → Int → Option Bool := fun k b1_0 b1_1 o2 o3 o4 o5 v18 v19 =>
    Option.bind (Z3C k b1_0 b1_1 o2 o3 o4 o5 v18 v19 (-1 : Int)) fun z22 => LR.on z22 (fun y22 => Option.bind (Za0 k y22.1 y22.2.1 y22.2.2.1 y22.2.2.2.1 y22.2.2.2.2.1 y22.2.2.2.2.2) fun z29 => some z29) fun r22 => some r22
noncomputable def Zlk : Spec := Spec.mk [.ro, O7, O0, O5, O3, O3] [(5, .at (.ptr 1 0)), (6, .at (.sl 3)), (13, .at (.sl 4)), (18, .at (.int .i64)), (19, .at (.int .i64)), (23, .at (.sl 5))]
noncomputable def ZM : LoopDef (Tup Ze × OutD) := .ends Zlk (Bool) (fun k x => Za8 k x.1.2.1.1 x.1.2.1.2.1 x.1.2.2.1 x.1.2.2.2.1 x.1.2.2.2.2.1 x.1.2.2.2.2.2.1 x.2.2.2.2.1 x.2.2.2.2.2.1) ZR ZQ ZE
noncomputable def Z48 : Nat → Int → Int → List (Int × Int) → List (List Int) → List Int → List Int → Bool → Int → Int → Option Bool := fun k b1_0 b1_1 o2 o3 o4 o5 v8 v18 v19 =>
    if (!v8) = true then some true else Option.bind (Z3g k (b1_0, b1_1, o2) o3) fun z9 => Option.bind (Z3t k (b1_0, b1_1, o2) o3) fun z10 => if (!z9.2) = true then some false else if (!z10.2) = true then some false else Option.bind (Z3B k b1_0 b1_1 o2 o3 o4 o5 z9.1 z10.1 v18 v19 (-1 : Int)) fun z16 => LR.on z16 (fun y16 => Option.bind (Za8 k y16.1 y16.2.1 y16.2.2.1 y16.2.2.2.1 y16.2.2.2.2.1 y16.2.2.2.2.2.1 y16.2.2.2.2.2.2.1 y16.2.2.2.2.2.2.2) fun z30 => some z30) fun r16 => some r16
noncomputable def Zlm : Spec := Spec.mk [.ro, O7, O0, O5, O3, O3] [(5, .at (.ptr 1 0)), (6, .at (.sl 3)), (8, .at .bool), (9, .at (.sl 4)), (13, .at (.sl 5)), (18, .at (.int .i64)), (19, .at (.int .i64))]
noncomputable def ZN : LoopDef (Tup Ze × OutD) := .ends Zlm (Bool) (fun k x => Z48 k x.1.2.1.1 x.1.2.1.2.1 x.1.2.2.1 x.1.2.2.2.1 x.1.2.2.2.2.1 x.1.2.2.2.2.2.1 x.2.2.2.1 x.2.2.2.2.2.2.1 x.2.2.2.2.2.2.2.1) ZR ZQ ZE
noncomputable def Za4 : Nat → Int → Int → List (Int × Int) → List (List Int) → List Int → List Int → List Int → List Int → Bool → Bool → Bool → Bool → Int → Int → Bool → Int → Int → Bool → Option Bool := fun k b1_0 b1_1 o2 o3 o4 o5 o6 o7 v8 v10 v12 v14 v15 v16 v17 v18 v19 v20 =>
    if (!v8 == v10) = true then some false else Option.bind (Z7L k o4 o5) fun z7 => if (!z7) = true then some false else if (!v12 == v14) = true then some false else Option.bind (Z7L k o6 o7) fun z8 => if (!z8) = true then some false else if (!v17 == v20) = true then some false else if decide (v15 ≠ v18) = true then some false else if decide (v16 ≠ v19) = true then some false else if (!v12 == v8) = true then some false else if v8 = true then if (!v17 == decide ((↑(List.length o3) : Int) > 0)) = true then some false else Option.bind (Z48 k b1_0 b1_1 o2 o3 o5 o7 v8 v18 v19) fun z31 => some z31 else if (!v17 == false) = true then some false else Option.bind (Z48 k b1_0 b1_1 o2 o3 o5 o7 v8 v18 v19) fun z32 => some z32
noncomputable def Zl9 : Spec := Spec.mk [.ro, O7, O0, O5, O3, O3, O3, O3] [(5, .at (.ptr 1 0)), (6, .at (.sl 3)), (7, .at (.sl 4)), (8, .at .bool), (9, .at (.sl 5)), (10, .at .bool), (11, .at (.sl 6)), (12, .at .bool), (13, .at (.sl 7)), (14, .at .bool), (15, .at (.int .i64)), (16, .at (.int .i64)), (17, .at .bool), (18, .at (.int .i64)), (19, .at (.int .i64)), (20, .at .bool)]
noncomputable def ZP : LoopDef (Tup Ze × OutD) := .ends Zl9 (Bool) (fun k x => Za4 k x.1.2.1.1 x.1.2.1.2.1 x.1.2.2.1 x.1.2.2.2.1 x.1.2.2.2.2.1 x.1.2.2.2.2.2.1 x.1.2.2.2.2.2.2.1 x.1.2.2.2.2.2.2.2.1 x.2.2.2.2.1 x.2.2.2.2.2.2.1 x.2.2.2.2.2.2.2.2.1 x.2.2.2.2.2.2.2.2.2.2.1 x.2.2.2.2.2.2.2.2.2.2.2.1 x.2.2.2.2.2.2.2.2.2.2.2.2.1 x.2.2.2.2.2.2.2.2.2.2.2.2.2.1 x.2.2.2.2.2.2.2.2.2.2.2.2.2.2.1 x.2.2.2.2.2.2.2.2.2.2.2.2.2.2.2.1 x.2.2.2.2.2.2.2.2.2.2.2.2.2.2.2.2.1) ZR ZQ ZE
noncomputable def Zb6 : Nat → Int → Int → List (Int × Int) → List (List Int) → List Int → List Int → Bool → Bool → Option Bool := fun k b1_0 b1_1 o2 o3 o4 o5 v8 v10 =>
    Option.bind (Z7T k (b1_0, b1_1, o2) o3) fun z3 => Option.bind (Z8l k (b1_0, b1_1, o2) o3) fun z4 => Option.bind (Z8Y k (b1_0, b1_1, o2) o3) fun z5 => Option.bind (Z8P k (b1_0, b1_1, o2) o3) fun z6 => Option.bind (Za4 k b1_0 b1_1 o2 o3 o4 o5 z3.1 z4.1 v8 v10 z3.2 z4.2 z5.1 z5.2.1 z5.2.2 z6.1 z6.2.1 z6.2.2) fun z33 => some z33
noncomputable def ZmV : Spec := Spec.mk [.ro, O7, O0, O5, O3, O3] [(5, .at (.ptr 1 0)), (6, .at (.sl 3)), (7, .at (.sl 4)), (8, .at .bool), (9, .at (.sl 5)), (10, .at .bool)]
noncomputable def Z10 : LoopDef (Tup Ze × OutD) := .ends ZmV (Bool) (fun k x => Zb6 k x.1.2.1.1 x.1.2.1.2.1 x.1.2.2.1 x.1.2.2.2.1 x.1.2.2.2.2.1 x.1.2.2.2.2.2.1 x.2.2.2.2.1 x.2.2.2.2.2.2.1) ZR ZQ ZE
noncomputable def Zdd : Nat → List Int → List Int → Option Bool
 | 0, _, _ => none
 | k + 1, p0, p1 =>
  if gtS (wrap64 ((↑(List.length p0) : Int) + (↑(List.length p1) : Int))) (1048576 : Int) = true then some true else Option.bind (Z6G k p0) fun z0 => Option.bind (Z9Y k (z0.1.1, z0.1.2.1, z0.1.2.2) z0.2) fun z1 => Option.bind (Z9Q k (z0.1.1, z0.1.2.1, z0.1.2.2) z0.2) fun z2 => Option.bind (Zb6 k z0.1.1 z0.1.2.1 z0.1.2.2 z0.2 z1.1 z2.1 z1.2 z2.2) fun z34 => some z34
noncomputable def Z1x : FnDef := .of Z6K Ze (Bool) (fun k x => Zdd k x.1 x.2.1) ZR ZQ ZE
noncomputable def Zi : Code := Try.f5.body.getD .skip
noncomputable def Z0 : Ctx (Tup Ze × OutD) := { T := T, G := [(21, Z1d.E), (11, Z27.E), (8, Z2a.E), (20, Z1A.E), (19, Z1F.E), (22, Z1T.E), (23, Z1S.E), (24, Z5M.E), (25, Z2e.E), (26, Z1z.E), (27, Z2c.E), (28, Z6v.E), (29, Z1E.E)], mvs := [], no := 0, n := 354, res := resOf T Z6K Ze Try.f5.results.toList, loops := [(2, Z35.E), (0, Z36.E), (6, Z2S.E), (4, Z33.E), (10, Z2H.E), (8, Z30.E)], regs := [], conds := [], cuts := [(63, ZS.E), (46, ZO.E), (32, ZM.E), (12, ZN.E), (10, ZP.E), (6, Z10.E)] }
theorem Zw (k : Nat) : EnvOK Try.prog k Z0.G := (EnvOK.cons (Zny k) (EnvOK.cons (Zut k) (EnvOK.cons (Zum k) (EnvOK.cons (Zrd k) (EnvOK.cons (ZqU k) (EnvOK.cons (Zrw k) (EnvOK.cons (ZrH k) (EnvOK.cons (Zvt k) (EnvOK.cons (Zux k) (EnvOK.cons (Zr5 k) (EnvOK.cons (Zuq k) (EnvOK.cons (ZEC k) (EnvOK.cons (Zqp k) (EnvOK.nil mixed))))))))))))))
noncomputable def Z7l : Code := (findLoop 2 Zi).getD .skip
theorem Zpn (k : Nat) (x : ZaX.D) : Z35.lp (k + 1) x = loopK Z0 Z35 2 Z7l k x := by kernel_rfl
theorem Zpv (k : Nat) : LOK Try.prog Z0 k Z7l := LOK.by [] (by kernel_rfl) AllOK.nil
theorem ZpA (x : ZaX.D) : Z35.lp 0 x = none := by kernel_rfl
theorem Zn1 (k : Nat) : EOK Try.prog Z0 k Z35.E (.block 2 (.loop Z7l)) := Z4 T_ok Zw ZpA Zpn Zpv k
noncomputable def Z7x : Code := (findLoop 0 Zi).getD .skip
theorem ZoZ (k : Nat) (x : ZaU.D) : Z36.lp (k + 1) x = loopK Z0 Z36 0 Z7x k x := by kernel_rfl
theorem ZoT (k : Nat) : LOK Try.prog Z0 k Z7x := LOK.by [(Z35.E, .block 2 (.loop Z7l))] (by kernel_rfl) (AllOK.cons (Zn1 k) AllOK.nil)
theorem Zpa (x : ZaU.D) : Z36.lp 0 x = none := by kernel_rfl
theorem ZnC (k : Nat) : EOK Try.prog Z0 k Z36.E (.block 0 (.loop Z7x)) := Z4 T_ok Zw Zpa ZoZ ZoT k
noncomputable def Z7j : Code := (findLoop 6 Zi).getD .skip
theorem Zpz (k : Nat) (x : ZaZ.D) : Z2S.lp (k + 1) x = loopK Z0 Z2S 6 Z7j k x := by kernel_rfl
theorem Zp7 (k : Nat) : LOK Try.prog Z0 k Z7j := LOK.by [] (by kernel_rfl) AllOK.nil
theorem ZpC (x : ZaZ.D) : Z2S.lp 0 x = none := by kernel_rfl
theorem Znc (k : Nat) : EOK Try.prog Z0 k Z2S.E (.block 6 (.loop Z7j)) := Z4 T_ok Zw ZpC Zpz Zp7 k
noncomputable def Z7m : Code := (findLoop 4 Zi).getD .skip
theorem Zou (k : Nat) (x : Zb3.D) : Z33.lp (k + 1) x = loopK Z0 Z33 4 Z7m k x := by kernel_rfl
theorem Zpu (k : Nat) : LOK Try.prog Z0 k Z7m := LOK.by [(Z2S.E, .block 6 (.loop Z7j))] (by kernel_rfl) (AllOK.cons (Znc k) AllOK.nil)
theorem ZoF (x : Zb3.D) : Z33.lp 0 x = none := by kernel_rfl
theorem ZmT (k : Nat) : EOK Try.prog Z0 k Z33.E (.block 4 (.loop Z7m)) := Z4 T_ok Zw ZoF Zou Zpu k
noncomputable def Z6C : Code := (findLoop 10 Zi).getD .skip
theorem Zn8 (k : Nat) (x : Zaa.D) : Z2H.lp (k + 1) x = loopK Z0 Z2H 10 Z6C k x := by kernel_rfl
theorem Zn6 (k : Nat) : LOK Try.prog Z0 k Z6C := LOK.by [] (by kernel_rfl) AllOK.nil
theorem Zn0 (x : Zaa.D) : Z2H.lp 0 x = none := by kernel_rfl
theorem Zmh (k : Nat) : EOK Try.prog Z0 k Z2H.E (.block 10 (.loop Z6C)) := Z4 T_ok Zw Zn0 Zn8 Zn6 k
noncomputable def Z7k : Code := (findLoop 8 Zi).getD .skip
theorem ZoG (k : Nat) (x : Zb8.D) : Z30.lp (k + 1) x = loopK Z0 Z30 8 Z7k k x := by kernel_rfl
theorem Zp5 (k : Nat) : LOK Try.prog Z0 k Z7k := LOK.by [(Z2H.E, .block 10 (.loop Z6C))] (by kernel_rfl) (AllOK.cons (Zmh k) AllOK.nil)
theorem Zpl (x : Zb8.D) : Z30.lp 0 x = none := by kernel_rfl
theorem Zn7 (k : Nat) : EOK Try.prog Z0 k Z30.E (.block 8 (.loop Z7k)) := Z4 T_ok Zw Zpl ZoG Zp5 k
noncomputable def Z5W : Code := (findCut 63 Zi).getD .skip
theorem Zlu (k : Nat) (i : ZS.inp.D) : ZS.lp k i = exec Z0 k Z5W (ZS.inp.st Z0.n i) (outK Z0 ZS) (fun _ _ => none) ZS.mkB := by kernel_rfl
theorem ZkU (k : Nat) : EOK Try.prog Z0 k ZS.E Z5W := ZpK (D := ZS) T_ok (Zw k) (Zlu k) (@LOK.by _ _ _ _ Z5W [] (by kernel_rfl) AllOK.nil)
noncomputable def Z5C : Code := (findCut 46 Zi).getD .skip
theorem Zmw (k : Nat) (i : ZO.inp.D) : ZO.lp k i = exec Z0 k Z5C (ZO.inp.st Z0.n i) (outK Z0 ZO) (fun _ _ => none) ZO.mkB := by kernel_rfl
theorem ZkR (k : Nat) : EOK Try.prog Z0 k ZO.E Z5C := ZpK (D := ZO) T_ok (Zw k) (Zmw k) (@LOK.by _ _ _ _ Z5C [(Z30.E, .block 8 (.loop Z7k)), (ZS.E, Z5W)] (by kernel_rfl) (AllOK.cons (Zn7 k) (AllOK.cons (ZkU k) AllOK.nil)))
noncomputable def Z5I : Code := (findCut 32 Zi).getD .skip
theorem Zl3 (k : Nat) (i : ZM.inp.D) : ZM.lp k i = exec Z0 k Z5I (ZM.inp.st Z0.n i) (outK Z0 ZM) (fun _ _ => none) ZM.mkB := by kernel_rfl
theorem Zkw (k : Nat) : EOK Try.prog Z0 k ZM.E Z5I := ZpK (D := ZM) T_ok (Zw k) (Zl3 k) (@LOK.by _ _ _ _ Z5I [(Z33.E, .block 4 (.loop Z7m)), (ZO.E, Z5C)] (by kernel_rfl) (AllOK.cons (ZmT k) (AllOK.cons (ZkR k) AllOK.nil)))
noncomputable def Z5V : Code := (findCut 12 Zi).getD .skip
theorem ZlN (k : Nat) (i : ZN.inp.D) : ZN.lp k i = exec Z0 k Z5V (ZN.inp.st Z0.n i) (outK Z0 ZN) (fun _ _ => none) ZN.mkB := by kernel_rfl
theorem Zku (k : Nat) : EOK Try.prog Z0 k ZN.E Z5V := ZpK (D := ZN) T_ok (Zw k) (ZlN k) (@LOK.by _ _ _ _ Z5V [(Z36.E, .block 0 (.loop Z7x)), (ZM.E, Z5I)] (by kernel_rfl) (AllOK.cons (ZnC k) (AllOK.cons (Zkw k) AllOK.nil)))
noncomputable def Z5u : Code := (findCut 10 Zi).getD .skip
theorem ZlQ (k : Nat) (i : ZP.inp.D) : ZP.lp k i = exec Z0 k Z5u (ZP.inp.st Z0.n i) (outK Z0 ZP) (fun _ _ => none) ZP.mkB := by kernel_rfl
theorem Zkm (k : Nat) : EOK Try.prog Z0 k ZP.E Z5u := ZpK (D := ZP) T_ok (Zw k) (ZlQ k) (@LOK.by _ _ _ _ Z5u [(ZN.E, Z5V)] (by kernel_rfl) (AllOK.cons (Zku k) AllOK.nil))
noncomputable def Z6F : Code := (findCut 6 Zi).getD .skip
theorem ZnB (k : Nat) (i : Z10.inp.D) : Z10.lp k i = exec Z0 k Z6F (Z10.inp.st Z0.n i) (outK Z0 Z10) (fun _ _ => none) Z10.mkB := by kernel_rfl
theorem Zlt (k : Nat) : EOK Try.prog Z0 k Z10.E Z6F := ZpK (D := Z10) T_ok (Zw k) (ZnB k) (@LOK.by _ _ _ _ Z6F [(ZP.E, Z5u)] (by kernel_rfl) (AllOK.cons (Zkm k) AllOK.nil))
theorem Zu9 (k : Nat) (x : Tup Z1x.ps) : Z1x.f (k + 1) x = fnK Z1x Z0 Zi k x := by kernel_rfl
theorem ZtZ (x : Tup Z1x.ps) : Z1x.f 0 x = none := by kernel_rfl
theorem Zue (k : Nat) : LOK Try.prog Z0 k Zi := LOK.by [(Z10.E, Z6F)] (by kernel_rfl) (AllOK.cons (Zlt k) AllOK.nil)
theorem ZtP (k : Nat) : SoundAt Try.prog k 5 Z1x.E := @Z5 Try.prog Z1x Z0 5 Try.f5 Zi (by kernel_rfl) (by kernel_rfl) (by kernel_rfl) Try.func5 (by kernel_rfl) (by kernel_rfl) (by kernel_rfl) T_ok Zw Zue ZtZ Zu9 k
end
end
section
def dropIx (less : Int) : Nat → List Int → List Int
 | _, [] => []
 | i, x :: r => if (i : Int) ≠ less then x :: dropIx less (i + 1) r else dropIx less (i + 1) r
theorem Zpp {less : Int} : ∀ (l : List Int) (i : Nat), less < i → dropIx less i l = l
 | [], i, h => rfl
 | x :: r, i, h => by
  simp only [dropIx]
  rw [if_pos (by omega), Zpp r (i + 1) (by omega)]
theorem ZDF : ∀ (l : List Int) (i m : Nat), m < l.length → dropIx ((i + m : Nat) : Int) i l = l.eraseIdx m
 | [], i, m, h => by simp at h
 | x :: r, i, 0, h => by
  simp only [dropIx, Nat.add_zero, ne_eq, not_true_eq_false, if_false, List.eraseIdx_zero, List.tail_cons]
  exact Zpp r (i + 1) (by omega)
 | x :: r, i, m + 1, h => by
  have ih := ZDF r (i + 1) m (by simpa using h)
  simp only [dropIx, List.eraseIdx_cons_succ]
  rw [if_pos (by omega), show i + (m + 1) = i + 1 + m by omega, ih]
theorem ZkC {less : Int} : ∀ (l : List Int) (i : Nat), List.Sublist (dropIx less i l) l
 | [], i => List.Sublist.refl _
 | x :: r, i => by
  simp only [dropIx]
  split
  ·exact (ZkC r (i + 1)).cons_cons x
  ·exact (ZkC r (i + 1)).cons x
theorem ZwH {less : Int} {l : List Int} {n i : Nat} (h : chOK l n) : chOK (dropIx less i l) n := fun t ht => h t ((ZkC l i).subset ht)
theorem ZB2 (less : Int) (l : List Int) (i : Nat) : (dropIx less i l).length ≤ l.length := (ZkC l i).length_le
theorem Zlc {n : Nat} {P : List Int → Bool} {X : List Int} (h : IsLeast n P X) : chOK X n := fun t ht => Zx2 h.inc t ht
theorem Zo6 {n : Nat} {P : List Int → Bool} {X : List Int} (h : IsLeast n P X) : X.length ≤ n := by
 rcases Zxh h.inc with h1 | h1
 ·rw [h1]; exact Nat.zero_le _
 ·omega
theorem ZBc {n : Nat} {P : List Int → Bool} {X : List Int} (h : IsLeast n P X) (j : Nat) (hj : j < X.length + 1) : P (dropIx ((j : Int) - 1) 0 X) = decide ((j : Int) - 1 < 0) := by
 cases j with
 | zero =>
  rw [Zpp X 0 (by omega), h.ok]
  exact (decide_eq_true (by omega)).symm
 | succ m =>
  have e : ((m + 1 : Nat) : Int) - 1 = ((0 + m : Nat) : Int) := by omega
  rw [e, ZDF X 0 m (by omega), ZGJ h (by omega)]
  exact (decide_eq_false (by omega)).symm
theorem ZHz {C : List (List (List FallD))} {n : Nat} {X : List Int} (h : IsLeast n (tellP C n) X) (j : Nat) (hj : j < X.length + 1) : decide (classesL (keyC C (dropIx ((j : Int) - 1) 0 X)) C.length = classesL (keyC C (rangeI n)) C.length) = decide ((j : Int) - 1 < 0) := by
 have hc := ZwH (less := (j : Int) - 1) (i := 0) (Zlc h)
 rw [← ZBc h j hj]
 unfold tellP
 exact decide_eq_decide.2 ((ZCT _ _ (fun a b => ZHV C hc a b) _).trans (ZGd C n _ hc))
theorem Zmx (r c : Int) (cs : List CellD) (T : List (List Int)) (o5 : List Int) (o6 : List (List Int)) (o7 : List Int) (v18 v19 less : Int) : ∀ (R pre : List Int) (acc : List (List Int)), chOK R T.length → (pre ++ R).length ≤ 1000 → acc.length ≤ pre.length →
    Ev (fun k => Z2w k r c cs T (pre ++ R) o5 o6 o7 acc v18 v19 less ((pre ++ R).length : Int) (pre.length : Int)) (r, c, cs, T, pre ++ R, o5, o6, o7, acc ++ chosen T (dropIx less pre.length R), v18, v19, less)
  | [], pre, acc, hR, hl, ha => by
    refine Ev.succ ?_
    simp only [Z2w, List.append_nil, Int.lt_irrefl, decide_false, Bool.false_eq_true, if_false, dropIx, chosen, List.map_nil]
    exact Ev.some _
  | t :: R, pre, acc, hR, hl, ha => by
    obtain ⟨t0, tn⟩ := hR t (List.mem_cons_self ..)
    have hpl : pre.length ≤ 1000 := by simp at hl; omega
    have ih := fun acc h => Zmx r c cs T o5 o6 o7 v18 v19 less R (pre ++ [t]) acc (fun x hx => hR x (List.mem_cons_of_mem _ hx)) (by simpa using hl) h
    simp only [← Z6] at ih
    have hg : acc.length + 1 ≤ 140737488355328 / 24 := by omega
    refine Ev.succ ?_
    simp only [Z2w, Zc, Zr, decide_true, if_true, Int.toNat_natCast, Za, t0, tn, List.length_singleton, hg, decide_eq_true_eq]
    rw [Zd pre t R (by omega)]
    simp only [dropIx]
    refine Ev.ite (fun h => ?_) (fun h => ?_)
    · rw [if_pos h]
      refine (ih (acc ++ [List.getD T t.toNat []]) (by simp; omega)).congr ?_
      simp [chosen]
    · rw [if_neg h]
      refine (ih acc (by simp; omega)).congr ?_
      simp [chosen]
theorem Zls (r c : Int) (cs : List CellD) (T : List (List Int)) (o5 : List Int) (v18 v19 less : Int) : ∀ (R pre : List Int) (acc : List (List Int)), chOK R T.length → (pre ++ R).length ≤ 1000 → acc.length ≤ pre.length →
    Ev (fun k => Z2x k r c cs T (pre ++ R) o5 acc v18 v19 less ((pre ++ R).length : Int) (pre.length : Int)) (r, c, cs, T, pre ++ R, o5, acc ++ chosen T (dropIx less pre.length R), v18, v19, less)
  | [], pre, acc, hR, hl, ha => by
    refine Ev.succ ?_
    simp only [Z2x, List.append_nil, Int.lt_irrefl, decide_false, Bool.false_eq_true, if_false, dropIx, chosen, List.map_nil]
    exact Ev.some _
  | t :: R, pre, acc, hR, hl, ha => by
    obtain ⟨t0, tn⟩ := hR t (List.mem_cons_self ..)
    have hpl : pre.length ≤ 1000 := by simp at hl; omega
    have ih := fun acc h => Zls r c cs T o5 v18 v19 less R (pre ++ [t]) acc (fun x hx => hR x (List.mem_cons_of_mem _ hx)) (by simpa using hl) h
    simp only [← Z6] at ih
    have hg : acc.length + 1 ≤ 140737488355328 / 24 := by omega
    refine Ev.succ ?_
    simp only [Z2x, Zc, Zr, decide_true, if_true, Int.toNat_natCast, Za, t0, tn, List.length_singleton, hg, decide_eq_true_eq]
    rw [Zd pre t R (by omega)]
    simp only [dropIx]
    refine Ev.ite (fun h => ?_) (fun h => ?_)
    · rw [if_pos h]
      refine (ih (acc ++ [List.getD T t.toNat []]) (by simp; omega)).congr ?_
      simp [chosen]
    · rw [if_neg h]
      refine (ih acc (by simp; omega)).congr ?_
      simp [chosen]
theorem Zxe {α : Type} : ∀ {l : List (List α)} {x : List α}, x ∈ l → (x.length : Int) ≤ szRows l
 | [], x, h => by cases h
 | y :: l, x, h => by
  have := ZtB l
  simp only [szRows]
  rcases List.mem_cons.1 h with rfl | h
  ·omega
  ·have := Zxe h; omega
section
variable {b : BoardD} (hb : b.2.2.length ≤ 1000) {T : List (List Int)} (g0 : (smallB b && testsOK b T) = true)
include hb g0
theorem ZoK (ch : List Int) (hc : chOK ch T.length) (hl : ch.length ≤ 10) :
    (Ev (fun k => Z4q k b (chosen T ch)) (Zv b (chosen T ch)) ∧ Ev (fun k => Z3g k b (chosen T ch)) (Zv b (chosen T ch))) ∧ Ev (fun k => Z5i k b (chosen T ch)) (Zl b (chosen T ch)) ∧ Ev (fun k => Z3t k b (chosen T ch)) (Zl b (chosen T ch)) := by
  obtain ⟨_, hn, hx⟩ := Z3e (Zvj g0 hc hl)
  have hx2 : ∀ x ∈ chosen T ch, x.length ≤ 9223372036854775806 := fun x h => by have := (hx x h).1; omega
  exact ⟨⟨Zua b _ (by omega) (by omega) hx2, Zi3 b _ (by omega) (by omega) hx2⟩, Zr9 b _ (by omega) (by omega) hx2, Zgw b _ (by omega) (by omega) hx2⟩
theorem ZAi {X : List Int} (hX : IsLeast T.length (tellP (casesL b T) T.length) X) (det o7 : List Int) (v18 v19 : Int) : ∀ (d j : Nat), j + d = X.length + 1 →
    Ev (fun k => Z3B k b.1 b.2.1 b.2.2 T X det (Zv b T).1 o7 v18 v19 ((j : Int) - 1)) (LR.go (b.1, b.2.1, b.2.2, T, det, o7, v18, v19)) := by
  obtain ⟨hbo, hn, hT⟩ := Z3e g0
  have hXl := Zo6 hX
  intro d
  induction d with
  | zero =>
    intro j h
    have hj : ¬ ((j : Int) - 1 < (X.length : Int)) := by omega
    refine Ev.succ ?_
    simp only [Z3B, hj, decide_false, Bool.false_eq_true, if_false]
    exact Ev.some _
  | succ d ih =>
    intro j h
    have hj : (j : Int) - 1 < (X.length : Int) := by omega
    have hw : wrap64 ((j : Int) - 1 + 1) = ((j + 1 : Nat) : Int) - 1 := by rw [w64 (by omega) (by omega)]; omega
    have hc := ZwH (less := (j : Int) - 1) (i := 0) (Zlc hX)
    have hcl : (dropIx ((j : Int) - 1) 0 X).length ≤ 10 := by have := ZB2 ((j : Int) - 1) X 0; omega
    obtain ⟨⟨e1, e2⟩, _⟩ := ZoK hb g0 _ hc hcl
    have hk := ZHz hX j (by omega)
    have hlen := ZiZ b (chosen T (dropIx ((j : Int) - 1) 0 X))
    rw [ZpV g0 hc hcl] at e1 e2 hlen
    dsimp only at hlen
    have hkn : (Zv b T).1 = classesL (keyC (casesL b T) (rangeI T.length)) (casesL b T).length := by unfold Zv; rw [if_pos g0]
    have e0 := Zmx b.1 b.2.1 b.2.2 T det (Zv b T).1 o7 v18 v19 ((j : Int) - 1) X [] [] (Zlc hX) (by simp; omega) (by simp)
    simp only [List.nil_append, List.length_nil, Int.natCast_zero] at e0
    refine Ev.succ ?_
    simp only [Z3B, hj, decide_true, if_true]
    refine Ev.bind e0 (Ev.bind e1 (Ev.bind e2 ?_))
    simp only [Bool.not_true, Bool.false_eq_true, if_false]
    refine Ev.bind (Zjb _ _ (by omega) (fun z hz => by have := Zxe hz; omega)) ?_
    simp only [decide_true, Bool.not_true, Bool.false_eq_true, if_false]
    refine Ev.bind (Zjb _ _ (by omega) (fun z hz => by have := Zxe hz; omega)) ?_
    rw [hkn] at ih ⊢
    simp only [hk, beq_self_eq_true, Bool.not_true, Bool.false_eq_true, if_false, hw]
    exact ih (j + 1) (by omega)
theorem ZAc {X : List Int} (hX : IsLeast T.length (detPP (casesL b T) T.length) X) (v18 v19 : Int) : ∀ (d j : Nat), j + d = X.length + 1 →
    Ev (fun k => Z3C k b.1 b.2.1 b.2.2 T X (Zl b T).1 v18 v19 ((j : Int) - 1)) (LR.go (b.1, b.2.1, b.2.2, T, v18, v19)) := by
  obtain ⟨hbo, hn, hT⟩ := Z3e g0
  have hXl := Zo6 hX
  intro d
  induction d with
  | zero =>
    intro j h
    have hj : ¬ ((j : Int) - 1 < (X.length : Int)) := by omega
    refine Ev.succ ?_
    simp only [Z3C, hj, decide_false, Bool.false_eq_true, if_false]
    exact Ev.some _
  | succ d ih =>
    intro j h
    have hj : (j : Int) - 1 < (X.length : Int) := by omega
    have hw : wrap64 ((j : Int) - 1 + 1) = ((j + 1 : Nat) : Int) - 1 := by rw [w64 (by omega) (by omega)]; omega
    have hc := ZwH (less := (j : Int) - 1) (i := 0) (Zlc hX)
    have hcl : (dropIx ((j : Int) - 1) 0 X).length ≤ 10 := by have := ZB2 ((j : Int) - 1) X 0; omega
    obtain ⟨_, e1, e2⟩ := ZoK hb g0 _ hc hcl
    have hk : decide (detI (casesL b T) (dropIx ((j : Int) - 1) 0 X) = detI (casesL b T) (rangeI T.length)) = decide ((j : Int) - 1 < 0) := ZBc hX j (by omega)
    have hlen := ZrX b (chosen T (dropIx ((j : Int) - 1) 0 X))
    rw [ZBD g0 hc hcl] at e1 e2 hlen
    dsimp only at hlen
    have hkn : (Zl b T).1 = detI (casesL b T) (rangeI T.length) := by unfold Zl; rw [if_pos g0]; rfl
    have e0 := Zls b.1 b.2.1 b.2.2 T (Zl b T).1 v18 v19 ((j : Int) - 1) X [] [] (Zlc hX) (by simp; omega) (by simp)
    simp only [List.nil_append, List.length_nil, Int.natCast_zero] at e0
    refine Ev.succ ?_
    simp only [Z3C, hj, decide_true, if_true]
    refine Ev.bind e0 (Ev.bind e1 (Ev.bind e2 ?_))
    simp only [Bool.not_true, Bool.false_eq_true, if_false]
    refine Ev.bind (ZdW _ _ (by omega)) ?_
    simp only [decide_true, Bool.not_true, Bool.false_eq_true, if_false]
    refine Ev.bind (ZdW _ _ (by omega)) ?_
    rw [hkn] at ih ⊢
    have hk2 := hk
    unfold detI at hk2 ih ⊢
    simp only [hk2, beq_self_eq_true, Bool.not_true, Bool.false_eq_true, if_false, hw]
    exact ih (j + 1) (by omega)
end
theorem ZFp : ∀ (r : List (List Int)) (v : Int), v ≤ mostL r v
 | [], v => Int.le_refl _
 | x :: r, v => by
  simp only [mostL]
  have := ZFp r (if (x.length : Int) > v then (x.length : Int) else v)
  split at this <;> rename_i h
  ·rw [if_pos h]; omega
  ·rw [if_neg h]; omega
theorem ZBv (f : Nat → Int) (hf : ∀ i, 0 ≤ f i) : ∀ (d i : Nat) (b l : Int), (i = 0 ∧ l < 0 ∨ ∃ q : Nat, b = q ∧ q < i ∧ f q = l ∧ (∀ p, p < i → l ≤ f p) ∧ ∀ p, p < q → l < f p) → 0 < i + d →
    ∃ q : Nat, (bfR f d i b l).1 = q ∧ q < i + d ∧ f q = (bfR f d i b l).2 ∧ (∀ p, p < i + d → (bfR f d i b l).2 ≤ f p) ∧ ∀ p, p < q → (bfR f d i b l).2 < f p
  | 0, i, b, l, h, hp => by
    rcases h with ⟨h, _⟩ | ⟨q, h1, h2, h3, h4, h5⟩
    · omega
    · exact ⟨q, h1, h2, h3, h4, h5⟩
  | d + 1, i, b, l, h, hp => by
    have e : i + (d + 1) = i + 1 + d := by omega
    rw [e]
    simp only [bfR]
    rcases h with ⟨h, hl⟩ | ⟨q, h1, h2, h3, h4, h5⟩
    · rw [if_pos hl]
      refine ZBv f hf d (i + 1) _ _ (.inr ⟨i, rfl, by omega, rfl, fun p hp => ?_, fun p hp => ?_⟩) (by omega)
      · have : p = i := by omega
        rw [this]; exact Int.le_refl _
      · omega
    · have hl : ¬ l < 0 := by have := hf q; omega
      rw [if_neg hl]
      split
      · rename_i hlt
        refine ZBv f hf d (i + 1) _ _ (.inr ⟨i, rfl, by omega, rfl, fun p hp => ?_, fun p hp => ?_⟩) (by omega)
        · by_cases hpi : p = i
          · rw [hpi]; exact Int.le_refl _
          · have := h4 p (by omega); omega
        · have := h4 p (by omega); omega
      · rename_i hlt
        refine ZBv f hf d (i + 1) _ _ (.inr ⟨q, h1, by omega, h3, fun p hp => ?_, h5⟩) (by omega)
        by_cases hpi : p = i
        · rw [hpi]; omega
        · exact h4 p (by omega)
theorem Zka (r c : Int) (cs : List CellD) (T : List (List Int)) (v18 v19 v41 v281 v282 : Int) : ∀ (R pre : List (List Int)) (v : Int), (pre ++ R).length ≤ 1000 →
    Ev (fun k => Z1Z k r c cs T (pre ++ R) v18 v19 v41 v v281 v282 ((pre ++ R).length : Int) (pre.length : Int)) (r, c, cs, T, v18, v19, v41, mostL R v, v281, v282)
  | [], pre, v, hl => by
    refine Ev.succ ?_
    simp only [Z1Z, Zj, decide_false, Bool.false_eq_true, if_false, mostL]
    exact Ev.some _
  | x :: R, pre, v, hl => by
    have ih := fun v => Zka r c cs T v18 v19 v41 v281 v282 R (pre ++ [x]) v (by simpa using hl)
    simp only [← Z6] at ih
    refine Ev.succ ?_
    simp only [Z1Z, Zc, Zr, decide_true, if_true, Int.toNat_natCast, Za, decide_eq_true_eq, mostL]
    rw [Zd pre x R (by omega)]
    refine Ev.ite (fun h => ?_) (fun h => ?_)
    · rw [if_pos h]; exact ih _
    · rw [if_neg h]; exact ih _
theorem ZzK {b : BoardD} (hb : b.2.2.length ≤ 1000) {T : List (List Int)} (g0 : (smallB b && testsOK b T) = true) (q : Nat) (m : Int) (h1 : longF (casesL b T) q = m) (h2 : ∀ p, p < T.length → m ≤ longF (casesL b T) p) (h3 : ∀ p, p < q → m < longF (casesL b T) p) : ∀ (d i : Nat), i + d = T.length →
    Ev (fun k => ZH k b.1 b.2.1 b.2.2 T (q : Int) m (T.length : Int) (i : Int)) (LR.go ()) := by
  obtain ⟨hbo, hn, hT⟩ := Z3e g0
  intro d
  induction d with
  | zero =>
    intro i h
    have hi : ¬ ((i : Int) < (T.length : Int)) := by omega
    refine Ev.succ ?_
    simp only [ZH, hi, decide_false, Bool.false_eq_true, if_false]
    exact Ev.some _
  | succ d ih =>
    intro i h
    have hi : (i : Int) < (T.length : Int) := by omega
    have h0 : (0 : Int) ≤ (i : Int) := by omega
    have hw : wrap64 ((i : Int) + 1) = ((i + 1 : Nat) : Int) := by rw [w64 (by omega) (by omega)]; omega
    have hc : chOK [(i : Int)] T.length := ZFf (by omega)
    have hch : [List.getD T i []] = chosen T [(i : Int)] := by simp [chosen]
    obtain ⟨⟨e1, e2⟩, _⟩ := ZoK hb g0 [(i : Int)] hc (by simp)
    have hlen := ZiZ b (chosen T [(i : Int)])
    rw [ZpV g0 hc (by simp)] at e1 e2 hlen
    dsimp only at hlen
    rw [← hch] at e1 e2
    have e3 := Zka b.1 b.2.1 b.2.2 T (q : Int) m (i : Int) (T.length : Int) (i : Int) (classesL (keyC (casesL b T) [(i : Int)]) (casesL b T).length) [] 0 (by simp; have := hlen.1; omega)
    simp only [List.nil_append, List.length_nil, Int.natCast_zero] at e3
    have hm := h2 i (by omega)
    have hlt : ¬ (mostL (classesL (keyC (casesL b T) [(i : Int)]) (casesL b T).length) 0 < m) := by have : m ≤ mostL (classesL (keyC (casesL b T) [(i : Int)]) (casesL b T).length) 0 := hm; omega
    refine Ev.succ ?_
    simp only [ZH, hi, h0, decide_true, if_true, Int.toNat_natCast]
    refine Ev.bind e1 (Ev.bind e2 ?_)
    simp only [Bool.not_true, Bool.false_eq_true, if_false]
    refine Ev.bind (Zjb _ _ (by omega) (fun z hz => by have := Zxe hz; omega)) ?_
    simp only [decide_true, Bool.not_true, Bool.false_eq_true, if_false]
    refine Ev.bind e3 ?_
    simp only [hlt, decide_false, Bool.false_eq_true, if_false, hw]
    refine Ev.ite (fun h4 => ?_) (fun h4 => ?_)
    · simp only [decide_eq_true_eq] at h4
      have hiq : ¬ ((i : Int) < (q : Int)) := fun hlq => by
        have : m < mostL (classesL (keyC (casesL b T) [(i : Int)]) (casesL b T).length) 0 := h3 i (by omega)
        omega
      simp only [hiq, decide_false, Bool.false_eq_true, if_false, h4, ne_eq, not_true_eq_false]
      refine Ev.ite (fun h5 => ih (i + 1) (by omega)) (fun h5 => ih (i + 1) (by omega))
    · simp only [decide_eq_true_eq] at h4
      have hiq : ¬ ((i : Int) = (q : Int)) := fun hlq => by
        have : i = q := by omega
        rw [← this] at h1
        exact h4 h1
      simp only [hiq, decide_false, Bool.false_eq_true, if_false]
      exact ih (i + 1) (by omega)
theorem Zvv (code : List Int) (h : Cur code 0 6000) : EvP (fun k => Z6G k code) (fun r => r.1.2.2.length ≤ 91 ∧ TestsIn r.2) := by
 refine EvP.succ ?_
 simp only [Z6G]
 exact EvP.bind (ZDu code h) (fun r hr => EvP.some hr)
theorem Zzn (p0 p1 : List Int) (h0 : p0.length ≤ 9223372036854775807) (b0 : ∀ x ∈ p0, 0 ≤ x ∧ x ≤ 255) (h1 : p1.length ≤ 9223372036854775807) (b1 : ∀ x ∈ p1, 0 ≤ x ∧ x ≤ 255) : Ev (fun k => Zdd k p0 p1) true := by
 have c0 : Cur p0 0 6000 := ⟨b0, h0, by omega, by omega⟩
 refine Ev.succ ?_
 simp only [Zdd]
 refine Ev.ite (fun _ => Ev.some _) (fun _ => ?_)
 obtain ⟨⟨b, T⟩, e0, bl, t1⟩ := Zvv p0 c0
 simp only at bl t1
 have tl : T.length ≤ 9223372036854775806 := by have := t1.1; omega
 have tx : ∀ x ∈ T, x.length ≤ 9223372036854775806 := fun x hx => by have := t1.2 x hx; omega
 refine Ev.bind e0 (Ev.bind (ZtL b T (by omega) tl tx) (Ev.bind (ZuB b T (by omega) tl tx) (Ev.bind (a := true) ?_ (Ev.some _))))
 simp only [Zb6]
 refine Ev.bind (ZpJ b T (by omega) tl tx) (Ev.bind (Zrr b T (by omega) tl tx) (Ev.bind (Zse b T (by omega) tl tx) (Ev.bind (Zrt b T (by omega) tl tx) (Ev.bind (a := true) ?_ (Ev.some _)))))
 have main : Ev (fun k => Z48 k b.1 b.2.1 b.2.2 T (ZU b T).1 (Z1o b T).1 (ZU b T).2 (Zp b T).1 (Zp b T).2.1) true := by
  simp only [Z48]
  cases g0 : (smallB b && testsOK b T) with
  | false =>
   have : (ZU b T).2 = false := by unfold ZU; rw [g0]; rfl
   simp only [this, Bool.not_false, if_true]
   exact Ev.some _
  | true =>
   have hr : (ZU b T) = (foldB (tellP (casesL b T) T.length) ((List.range (2 ^ T.length)).map (choiceL T.length)) (rangeI T.length), true) := by unfold ZU; rw [if_pos g0]
   have hd : (Z1o b T) = (foldB (detPP (casesL b T) T.length) ((List.range (2 ^ T.length)).map (choiceL T.length)) (rangeI T.length), true) := by unfold Z1o; rw [if_pos g0]
   have hX := ZdO T.length (tellP (casesL b T) T.length) (rangeI T.length) (ZgN _) (by unfold tellP; exact decide_eq_true rfl)
   have hY := ZdO T.length (detPP (casesL b T) T.length) (rangeI T.length) (ZgN _) (by unfold detPP; exact decide_eq_true rfl)
   rw [hr, hd]
   generalize foldB (tellP (casesL b T) T.length) ((List.range (2 ^ T.length)).map (choiceL T.length)) (rangeI T.length) = X at hX ⊢
   generalize foldB (detPP (casesL b T) T.length) ((List.range (2 ^ T.length)).map (choiceL T.length)) (rangeI T.length) = Y at hY ⊢
   have c1 : (Zv b T).2 = true := by unfold Zv; rw [if_pos g0]
   have c2 : (Zl b T).2 = true := by unfold Zl; rw [if_pos g0]
   dsimp only
   simp only [Bool.not_true, Bool.false_eq_true, if_false]
   refine Ev.bind (Zi3 b T (by omega) tl tx) (Ev.bind (Zgw b T (by omega) tl tx) ?_)
   simp only [c1, c2, Bool.not_true, Bool.false_eq_true, if_false]
   have hm1 : ((0 : Nat) : Int) - 1 = -1 := rfl
   have e1 := ZAi (by omega) g0 hX Y (Zl b T).1 (Zp b T).1 (Zp b T).2.1 (X.length + 1) 0 (by omega)
   have e2 := ZAc (by omega) g0 hY (Zp b T).1 (Zp b T).2.1 (Y.length + 1) 0 (by omega)
   rw [hm1] at e1 e2
   refine Ev.bind e1 (Ev.go (Ev.bind (a := true) ?_ (Ev.some _)))
   simp only [Za8]
   refine Ev.bind e2 (Ev.go (Ev.bind (a := true) ?_ (Ev.some _)))
   simp only [Za0]
   have e3 : Ev (fun k => ZH k b.1 b.2.1 b.2.2 T (Zp b T).1 (Zp b T).2.1 (T.length : Int) 0) (LR.go ()) := by
    by_cases hT0 : (T.length : Int) = 0
    ·refine Ev.succ ?_
     simp only [ZH, hT0, Int.lt_irrefl, decide_false, Bool.false_eq_true, if_false]
     exact Ev.some _
    ·have hbf : Zp b T = ((bfR (longF (casesL b T)) T.length 0 0 (-1)).1, (bfR (longF (casesL b T)) T.length 0 0 (-1)).2, true) := by unfold Zp; rw [if_pos g0, if_neg hT0]
     obtain ⟨q, q1, q2, q3, q4, q5⟩ := ZBv (longF (casesL b T)) (fun i => ZFp _ 0) T.length 0 0 (-1) (.inl ⟨rfl, by omega⟩) (by omega)
     rw [Nat.zero_add] at q4
     rw [hbf, q1]
     exact ZzK (by omega) g0 q _ q3 q4 q5 T.length 0 (by omega)
   refine Ev.bind e3 (Ev.go (Ev.bind (a := true) ?_ (Ev.some _)))
   exact (Ev.some true : Ev (fun _ => some true) true)
 simp only [Za4]
 have s1 : (Z1o b T).2 = (ZU b T).2 := by unfold Z1o ZU; split <;> rfl
 have s2 : (ZU b T).2 = (smallB b && testsOK b T) := by unfold ZU; split <;> rename_i h <;> simp [h]
 have ln1 : (ZU b T).1.length ≤ 1000000 := by
  unfold ZU
  split
  ·rename_i g0
   obtain ⟨_, hn, _⟩ := Z3e g0
   have := Zo6 (ZdO T.length (tellP (casesL b T) T.length) (rangeI T.length) (ZgN _) (by unfold tellP; exact decide_eq_true rfl))
   show (foldB _ _ _).length ≤ 1000000
   omega
  ·exact Nat.zero_le _
 have ln2 : (Z1o b T).1.length ≤ 1000000 := by
  unfold Z1o
  split
  ·rename_i g0
   obtain ⟨_, hn, _⟩ := Z3e g0
   have := Zo6 (ZdO T.length (detPP (casesL b T) T.length) (rangeI T.length) (ZgN _) (by unfold detPP; exact decide_eq_true rfl))
   show (foldB _ _ _).length ≤ 1000000
   omega
  ·exact Nat.zero_le _
 simp only [beq_self_eq_true, Bool.not_true, Bool.false_eq_true, if_false]
 refine Ev.bind (ZdW _ _ ln1) ?_
 simp only [decide_true, Bool.not_true, Bool.false_eq_true, if_false]
 refine Ev.bind (ZdW _ _ ln2) ?_
 simp only [decide_true, s1, beq_self_eq_true, Bool.not_true, Bool.false_eq_true, if_false, ne_eq, not_true_eq_false, decide_false]
 refine Ev.ite (fun h => ?_) (fun h => ?_)
 ·have g0 : (smallB b && testsOK b T) = true := s2.symm.trans h
  have s3 : (Zp b T).2.2 = decide ((T.length : Int) > 0) := by
   unfold Zp
   rw [if_pos g0]
   split <;> rename_i hT0
   ·rw [decide_eq_false (by omega)]
   ·rw [decide_eq_true (by omega)]
  simp only [s3, beq_self_eq_true, Bool.not_true, Bool.false_eq_true, if_false]
  exact Ev.bind main (Ev.some _)
 ·have g0 : ¬ (smallB b && testsOK b T) = true := fun hh => h (s2.trans hh)
  have s3 : (Zp b T).2.2 = false := by
   unfold Zp
   rw [if_neg g0]
  simp only [s3, beq_self_eq_true, Bool.not_true, Bool.false_eq_true, if_false]
  exact Ev.bind main (Ev.some _)
end
end Go.Proofs.Ytkbikniinjalbaa.Vs
