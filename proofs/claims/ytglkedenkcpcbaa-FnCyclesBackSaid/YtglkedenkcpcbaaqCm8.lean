/- The proof, part 9. -/
import Derived.Test.YtglkedenkcpcbaaqCm7
set_option linter.unusedVariables false
set_option linter.unusedSimpArgs false
namespace Go.Proofs.Ytglkedenkcpcbaa.Vs
open Go.RowKit
theorem Zs2 : ∀ (d : Nat) (v : Int) (acc : List (Int × Int)), v + d = 8 → 0 ≤ v → (acc.length : Int) ≤ 2 * v → (0 < v → 0 < acc.length) → ∃ l, Ev (fun k => Z4A k acc v) l ∧ 0 < l.length ∧ l.length ≤ 16
 | 0, v, acc, hv, h0, h1, h2 => by
  have hn : ¬ v ≤ 7 := by omega
  refine ⟨acc, Ev.succ ?_, h2 (by omega), by omega⟩
  simp only [Z4A, hn, decide_false, Bool.false_eq_true, if_false]
  exact Ev.some _
 | d + 1, v, acc, hv, h0, h1, h2 => by
  have hle : v ≤ 7 := by omega
  have hw : wrap64 (v + 1) = v + 1 := w64 (by omega) (by omega)
  have hal : acc.length + 1 ≤ 140737488355328 / 16 := by omega
  have hal2 : (acc ++ [(v, (0 : Int))]).length + 1 ≤ 140737488355328 / 16 := by simp; omega
  have ht := Zjp (v, 1)
  cases hb : turning (v, 1) with
  | true =>
   rw [hb] at ht
   obtain ⟨l, e1, g1, g2⟩ := Zs2 d (v + 1) (acc ++ [(v, 0)] ++ [(v, 1)]) (by omega) (by omega) (by simp; omega) (by simp)
   refine ⟨l, Ev.succ ?_, g1, g2⟩
   simp only [Z4A, hle, decide_true, if_true, List.length_singleton, hal, hw]
   refine Ev.bind ht ?_
   simp only [if_true, hal2]
   exact e1
  | false =>
   rw [hb] at ht
   obtain ⟨l, e1, g1, g2⟩ := Zs2 d (v + 1) (acc ++ [(v, 0)]) (by omega) (by omega) (by simp; omega) (by simp)
   refine ⟨l, Ev.succ ?_, g1, g2⟩
   simp only [Z4A, hle, decide_true, if_true, List.length_singleton, hal, hw]
   refine Ev.bind ht ?_
   simp only [Bool.false_eq_true, if_false]
   exact e1
theorem ZAS {code : List Int} {at' : Int} (seed : Int) (h : Cur code at' 2) : ∃ x at2 s, Ev (fun k => ZL k (code, at', seed)) (x, at2, s) ∧ at' ≤ at2 ∧ at2 ≤ at' + 2 := by
 obtain ⟨l, e0, g1, g2⟩ := Zs2 8 0 [] (by omega) (by omega) (by simp) (by omega)
 obtain ⟨v, at2, s, e1, b1, b2, b3, b4⟩ := Zcg seed (l.length : Int) h (by omega)
 refine ⟨(List.getD l v.toNat (0, 0)), at2, s, Ev.succ ?_, b1, b2⟩
 have hp : Ev (fun k => Zfk k) l := by
  refine Ev.succ ?_
  simp only [Zfk]
  exact Ev.bind e0 (Ev.some _)
 simp only [ZL]
 refine Ev.bind hp (Ev.bind e1 ?_)
 simp only [b3, b4, if_true]
 exact Ev.some _
theorem ZCZ {code : List Int} {at' : Int} (seed : Int) (h : Cur code at' 6) : ∃ x at2 s, Ev (fun k => Z16 k (code, at', seed)) (x, at2, s) ∧ at' ≤ at2 ∧ at2 ≤ at' + 6 := by
 obtain ⟨x, a0, s0, e0, b1, b2⟩ := ZAS seed (h.to (at2 := at') (m := 2) (by omega) (by omega))
 obtain ⟨v, a1, s1, e1, b3, b4, _⟩ := Zcg s0 20 (h.to (at2 := a0) (m := 2) (by omega) (by omega)) (by omega)
 by_cases h0 : v = 0
 ·obtain ⟨y, a2, s2, e2, b5, b6, _⟩ := Zch s1 [-1, 8] (by simp) (h.to (at2 := a1) (m := 2) (by omega) (by omega))
  refine ⟨(y, x.2), a2, s2, Ev.succ ?_, by omega, by omega⟩
  simp only [Z16]
  refine Ev.bind e0 (Ev.bind e1 ?_)
  simp only [h0, decide_true, if_true]
  exact Ev.bind e2 (Ev.some _)
 ·by_cases h1 : v = 1
  ·obtain ⟨y, a2, s2, e2, b5, b6, _⟩ := Zch s1 [-1, 1, 2] (by simp) (h.to (at2 := a1) (m := 2) (by omega) (by omega))
   refine ⟨(x.1, y), a2, s2, Ev.succ ?_, by omega, by omega⟩
   simp only [Z16]
   refine Ev.bind e0 (Ev.bind e1 ?_)
   subst h1
   simp only [h0, decide_true, decide_false, Bool.false_eq_true, if_false, if_true]
   exact Ev.bind e2 (Ev.some _)
  ·refine ⟨(x.1, x.2), a1, s1, Ev.succ ?_, by omega, by omega⟩
   simp only [Z16]
   refine Ev.bind e0 (Ev.bind e1 ?_)
   simp only [h0, h1, decide_false, Bool.false_eq_true, if_false]
   exact Ev.some _
theorem ZuI (code : List Int) (n : Nat) (hn : n ≤ 1000) (v1 v2 v8 b30 b31 b50 b51 : Int) (o4 : List (Int × Int)) (hw : wrap64 (v1 * v2) = (n : Int)) : ∀ (d : Nat) (acc : List (Int × Int)) (at' seed : Int), acc.length + d = n → Cur code at' (10 * d) → ∃ at2 s l, Ev (fun k => Z7 k at' seed code b30 b31 o4 b50 b51 acc v1 v2 v8) (at2, s, code, b30, b31, o4, b50, b51, l) ∧ l.length = n ∧ at' ≤ at2 ∧ at2 ≤ at' + 10 * d
 | 0, acc, at', seed, h, hc => by
  have hlt : ¬ (acc.length : Int) < (n : Int) := by omega
  refine ⟨at', seed, acc, Ev.succ ?_, by omega, by omega, by omega⟩
  simp only [Z7, hw, hlt, decide_false, Bool.false_eq_true, if_false]
  exact Ev.some _
 | d + 1, acc, at', seed, h, hc => by
  have hlt : (acc.length : Int) < (n : Int) := by omega
  have hal : acc.length + 1 ≤ 140737488355328 / 16 := by omega
  have step : ∀ (x : Int × Int) (a1 s1 : Int), at' ≤ a1 → a1 ≤ at' + 10 → ∃ at2 s l, Ev (fun k => Z7 k a1 s1 code b30 b31 o4 b50 b51 (acc ++ [x]) v1 v2 v8) (at2, s, code, b30, b31, o4, b50, b51, l) ∧ l.length = n ∧ at' ≤ at2 ∧ at2 ≤ at' + 10 * ((d + 1 : Nat) : Int) := by
   intro x a1 s1 g1 g2
   obtain ⟨a2, s2, l, e, c1, c2, c3⟩ := ZuI code n hn v1 v2 v8 b30 b31 b50 b51 o4 hw d (acc ++ [x]) a1 s1 (by simp; omega) (hc.to (at2 := a1) (by omega) (by omega))
   exact ⟨a2, s2, l, e, c1, by omega, by omega⟩
  have part : ∀ (a1 s1 : Int), at' ≤ a1 → a1 ≤ at' + 4 → ∃ at2 s l, Ev (fun k => Option.bind (ZL k (code, a1, s1)) fun z2 => if decide (z2.1.1 = 5) = true then Option.bind (Zm k (code, z2.2.1, z2.2.2) 3) fun z3 => if (!z3.1) = true then Option.bind (Z0 k (code, z3.2.1, z3.2.2) 2) fun z4 => Z7 k z4.2.1 z4.2.2 code b30 b31 o4 b50 b51 (acc ++ [(3, z4.1)]) v1 v2 v8 else Z7 k z3.2.1 z3.2.2 code b30 b31 o4 b50 b51 (acc ++ [(z2.1.1, z2.1.2)]) v1 v2 v8 else Z7 k z2.2.1 z2.2.2 code b30 b31 o4 b50 b51 (acc ++ [(z2.1.1, z2.1.2)]) v1 v2 v8) (at2, s, code, b30, b31, o4, b50, b51, l) ∧ l.length = n ∧ at' ≤ at2 ∧ at2 ≤ at' + 10 * ((d + 1 : Nat) : Int) := by
   intro a1 s1 g1 g2
   obtain ⟨x, a2, s2, e2, b1, b2⟩ := ZAS s1 (hc.to (at2 := a1) (m := 2) (by omega) (by omega))
   by_cases hx : x.1 = 5
   ·obtain ⟨q, a3, s3, e3, b3, b4⟩ := ZsG s2 3 (hc.to (at2 := a2) (m := 2) (by omega) (by omega))
    cases q with
    | true =>
     obtain ⟨a5, s5, l, e5, c1, c2, c3⟩ := step (x.1, x.2) a3 s3 (by omega) (by omega)
     refine ⟨a5, s5, l, Ev.bind e2 ?_, c1, c2, c3⟩
     simp only [hx, decide_true, if_true]
     refine Ev.bind e3 ?_
     simp only [Bool.not_true, Bool.false_eq_true, if_false]
     rw [hx] at e5
     exact e5
    | false =>
     obtain ⟨v, a4, s4, e4, b5, b6, _⟩ := Zcg s3 2 (hc.to (at2 := a3) (m := 2) (by omega) (by omega)) (by omega)
     obtain ⟨a5, s5, l, e5, c1, c2, c3⟩ := step (3, v) a4 s4 (by omega) (by omega)
     refine ⟨a5, s5, l, Ev.bind e2 ?_, c1, c2, c3⟩
     simp only [hx, decide_true, if_true]
     refine Ev.bind e3 ?_
     simp only [Bool.not_false, if_true]
     exact Ev.bind e4 e5
   ·obtain ⟨a5, s5, l, e5, c1, c2, c3⟩ := step (x.1, x.2) a2 s2 (by omega) (by omega)
    refine ⟨a5, s5, l, Ev.bind e2 ?_, c1, c2, c3⟩
    simp only [hx, decide_false, Bool.false_eq_true, if_false]
    exact e5
  obtain ⟨q, a1, s1, e1, b1, b2⟩ := ZsG seed v8 (hc.to (at2 := at') (m := 2) (by omega) (by omega))
  cases q with
  | true =>
   obtain ⟨a5, s5, l, e5, c1, c2, c3⟩ := part a1 s1 b1 (by omega)
   refine ⟨a5, s5, l, Ev.succ ?_, c1, c2, c3⟩
   simp only [Z7, hw, hlt, decide_true, if_true]
   refine Ev.bind e1 ?_
   simp only [if_true, List.length_singleton, hal]
   exact e5
  | false =>
   obtain ⟨q2, a2, s2, e2, b3, b4⟩ := ZsG s1 3 (hc.to (at2 := a1) (m := 2) (by omega) (by omega))
   cases q2 with
   | true =>
    obtain ⟨a5, s5, l, e5, c1, c2, c3⟩ := part a2 s2 (by omega) (by omega)
    refine ⟨a5, s5, l, Ev.succ ?_, c1, c2, c3⟩
    simp only [Z7, hw, hlt, decide_true, if_true]
    refine Ev.bind e1 ?_
    simp only [Bool.false_eq_true, if_false]
    refine Ev.bind e2 ?_
    simp only [if_true, List.length_singleton, hal]
    exact e5
   | false =>
    obtain ⟨a5, s5, l, e5, c1, c2, c3⟩ := step (0, 0) a2 s2 (by omega) (by omega)
    refine ⟨a5, s5, l, Ev.succ ?_, c1, c2, c3⟩
    simp only [Z7, hw, hlt, decide_true, if_true]
    refine Ev.bind e1 ?_
    simp only [Bool.false_eq_true, if_false]
    refine Ev.bind e2 ?_
    simp only [Bool.false_eq_true, if_false, List.length_singleton, hal, if_true]
    exact e5
theorem Zr8 {code : List Int} {at' : Int} (seed r c : Int) (n : Nat) (hw : wrap64 (r * c) = (n : Int)) (hn : n ≤ 100) (h : Cur code at' 1010) : ∃ l at2 s, Ev (fun k => Z2w k (code, at', seed) r c) ((r, c, l), at2, s) ∧ at' ≤ at2 ∧ at2 ≤ at' + 1010 ∧ l.length = n := by
 obtain ⟨v, a0, s0, e0, b1, b2, _⟩ := Zch seed [1, 2, 2] (by simp) (h.to (at2 := at') (m := 2) (by omega) (by omega))
 obtain ⟨a1, s1, l, e1, c1, c2, c3⟩ := ZuI code n (by omega) r c v 0 0 r c [] hw n [] a0 s0 (by simp) (h.to (at2 := a0) (by omega) (by omega))
 refine ⟨l, a1, s1, Ev.succ ?_, by omega, by omega, c1⟩
 simp only [Z2w]
 exact Ev.bind e0 (Ev.bind e1 (Ev.some _))
theorem Zyv {r c : Int} (r1 : 1 ≤ r) (r2 : r ≤ 10) (c1 : 1 ≤ c) (c2 : c ≤ 9) : 1 ≤ r * c ∧ r * c ≤ 90 := by
 have h1 : r * c ≤ 10 * 9 := Int.mul_le_mul r2 c2 (by omega) (by omega)
 have h2 : 1 * 1 ≤ r * c := Int.mul_le_mul r1 c1 (by omega) (by omega)
 omega
theorem ZDv {code : List Int} {at' : Int} (seed : Int) (h : Cur code at' 1020) : ∃ r c l at2 s, Ev (fun k => Z6B k (code, at', seed)) ((r, c, l), at2, s) ∧ at' ≤ at2 ∧ at2 ≤ at' + 1020 ∧ 1 ≤ r ∧ r ≤ 10 ∧ 1 ≤ c ∧ c ≤ 9 ∧ (l.length : Int) = r * c := by
 obtain ⟨q, a0, s0, e0, b1, b2⟩ := ZsG seed 20 (h.to (at2 := at') (m := 2) (by omega) (by omega))
 cases q with
 | true =>
  obtain ⟨r, a1, s1, e1, b3, b4, b5⟩ := Zch s0 [1, 10] (by simp) (h.to (at2 := a0) (m := 2) (by omega) (by omega))
  obtain ⟨c, a2, s2, e2, b6, b7, b8⟩ := Zch s1 [1, 9] (by simp) (h.to (at2 := a1) (m := 2) (by omega) (by omega))
  simp only [List.mem_cons, List.not_mem_nil, or_false] at b5 b8
  have hp := Zyv (r := r) (c := c) (by omega) (by omega) (by omega) (by omega)
  obtain ⟨l, a3, s3, e3, c1, c2, c3⟩ := Zr8 s2 r c (r * c).toNat (by rw [w64 (by omega) (by omega)]; omega) (by omega) (h.to (at2 := a2) (by omega) (by omega))
  refine ⟨r, c, l, a3, s3, Ev.succ ?_, by omega, by omega, by omega, by omega, by omega, by omega, by omega⟩
  simp only [Z6B]
  refine Ev.bind e0 ?_
  simp only [if_true]
  exact Ev.bind e1 (Ev.bind e2 (Ev.bind e3 (Ev.some _)))
 | false =>
  obtain ⟨r, a1, s1, e1, b3, b4, b5, b6⟩ := Zcg s0 5 (h.to (at2 := a0) (m := 2) (by omega) (by omega)) (by omega)
  obtain ⟨c, a2, s2, e2, b7, b8, b9, b10⟩ := Zcg s1 5 (h.to (at2 := a1) (m := 2) (by omega) (by omega)) (by omega)
  have w1 : wrap64 (1 + r) = 1 + r := w64 (by omega) (by omega)
  have w2 : wrap64 (1 + c) = 1 + c := w64 (by omega) (by omega)
  have hp := Zyv (r := 1 + r) (c := 1 + c) (by omega) (by omega) (by omega) (by omega)
  obtain ⟨l, a3, s3, e3, c1, c2, c3⟩ := Zr8 s2 (1 + r) (1 + c) ((1 + r) * (1 + c)).toNat (by rw [w64 (by omega) (by omega)]; omega) (by omega) (h.to (at2 := a2) (by omega) (by omega))
  refine ⟨1 + r, 1 + c, l, a3, s3, Ev.succ ?_, by omega, by omega, by omega, by omega, by omega, by omega, by omega⟩
  simp only [Z6B]
  refine Ev.bind e0 ?_
  simp only [Bool.false_eq_true, if_false]
  refine Ev.bind e1 (Ev.bind e2 ?_)
  simp only [w1, w2]
  exact Ev.bind e3 (Ev.some _)
theorem ZwI {code : List Int} {at' : Int} (seed : Int) (h : Cur code at' 1040) : ∃ b at2 s, Ev (fun k => Zf k (code, at', seed)) (b, at2, s) ∧ at' ≤ at2 ∧ at2 ≤ at' + 1040 ∧ b.2.2.length ≤ 91 := by
 obtain ⟨r, c, l, a0, s0, e0, b1, b2, r1, r2, c1, c2, hl⟩ := ZDv seed (h.to (at2 := at') (by omega) (by omega))
 obtain ⟨v, a1, s1, e1, b3, b4, _⟩ := Zcg s0 36 (h.to (at2 := a0) (m := 2) (by omega) (by omega)) (by omega)
 have hp := Zyv r1 r2 c1 c2
 by_cases v0 : v = 0
 ·subst v0
  obtain ⟨x, a2, s2, e2, b5, b6, _⟩ := Zch s1 [0, wrap64 (r + 1), 10, 11] (by simp) (h.to (at2 := a1) (m := 2) (by omega) (by omega))
  refine ⟨(x, c, l), a2, s2, Ev.succ ?_, by omega, by omega, by dsimp only; omega⟩
  simp only [Zf]
  refine Ev.bind e0 (Ev.bind e1 ?_)
  simp only [decide_true, if_true]
  exact Ev.bind e2 (Ev.some _)
 by_cases v1 : v = 1
 ·subst v1
  obtain ⟨x, a2, s2, e2, b5, b6, _⟩ := Zch s1 [0, wrap64 (c + 1), 9, 10] (by simp) (h.to (at2 := a1) (m := 2) (by omega) (by omega))
  refine ⟨(r, x, l), a2, s2, Ev.succ ?_, by omega, by omega, by dsimp only; omega⟩
  simp only [Zf]
  refine Ev.bind e0 (Ev.bind e1 ?_)
  simp only [v0, decide_true, decide_false, Bool.false_eq_true, if_false, if_true]
  exact Ev.bind e2 (Ev.some _)
 by_cases v2 : v = 2
 ·subst v2
  obtain ⟨i, a2, s2, e2, b5, b6, b7, b8⟩ := Zcg s1 (l.length : Int) (h.to (at2 := a1) (m := 2) (by omega) (by omega)) (by omega)
  obtain ⟨x, a3, s3, e3, b9, b10⟩ := ZCZ s2 (h.to (at2 := a2) (by omega) (by omega))
  have hg : Ev (fun k => Z1f k a1 s1 code 0 0 [] r c l) (a3, s3, code, 0, 0, [], r, c, List.set l i.toNat (x.1, x.2)) := by
   simp only [Z1f]
   refine Ev.bind e2 (Ev.bind e3 ?_)
   simp only [b7, b8, if_true]
   exact Ev.some _
  refine ⟨(r, c, List.set l i.toNat (x.1, x.2)), a3, s3, Ev.succ ?_, by omega, by omega, by dsimp only; rw [List.length_set]; omega⟩
  simp only [Zf]
  refine Ev.bind e0 (Ev.bind e1 ?_)
  simp only [v0, v1, decide_true, decide_false, Bool.false_eq_true, if_false, if_true]
  exact Ev.bind hg (Ev.some _)
 by_cases v3 : v = 3
 ·subst v3
  have h1 : 1 ≤ (l.length : Int) := by omega
  refine ⟨(r, c, List.drop (Int.toNat 1) l), a1, s1, Ev.succ ?_, by omega, by omega, by dsimp only; rw [List.length_drop]; omega⟩
  simp only [Zf]
  refine Ev.bind e0 (Ev.bind e1 ?_)
  simp only [v0, v1, v2, decide_true, decide_false, Bool.false_eq_true, if_false, if_true, h1, Int.le_refl]
  exact Ev.some _
 by_cases v4 : v = 4
 ·subst v4
  refine ⟨(11, 2, List.replicate (Int.toNat 22) (0, 0)), a1, s1, Ev.succ ?_, by omega, by omega, by dsimp only; rw [List.length_replicate]; decide⟩
  simp only [Zf]
  refine Ev.bind e0 (Ev.bind e1 ?_)
  simp only [v0, v1, v2, v3, decide_true, decide_false, Bool.false_eq_true, if_false, if_true]
  exact Ev.some _
 by_cases v5 : v = 5
 ·subst v5
  refine ⟨(2, 10, List.replicate (Int.toNat 20) (0, 0)), a1, s1, Ev.succ ?_, by omega, by omega, by dsimp only; rw [List.length_replicate]; decide⟩
  simp only [Zf]
  refine Ev.bind e0 (Ev.bind e1 ?_)
  simp only [v0, v1, v2, v3, v4, decide_true, decide_false, Bool.false_eq_true, if_false, if_true]
  exact Ev.some _
 refine ⟨(r, c, l), a1, s1, Ev.succ ?_, by omega, by omega, by dsimp only; omega⟩
 simp only [Zf]
 refine Ev.bind e0 (Ev.bind e1 ?_)
 simp only [v0, v1, v2, v3, v4, v5, decide_false, Bool.false_eq_true, if_false]
 exact Ev.some _
end Go.Proofs.Ytglkedenkcpcbaa.Vs

set_option linter.unusedVariables false
set_option linter.unusedSimpArgs false
namespace Go.Proofs.Ytglkedenkcpcbaa.Vs
open Go.RowKit
theorem ZDI (a b : Int) : ∃ m, Ev (fun k => Zb1 k a b) m ∧ a ≤ m ∧ (m = a ∨ m = b) := by
 by_cases h : a > b
 ·refine ⟨a, Ev.succ ?_, by omega, .inl rfl⟩
  simp only [Zb1, h, decide_true, if_true]
  exact Ev.some _
 ·refine ⟨b, Ev.succ ?_, by omega, .inr rfl⟩
  simp only [Zb1, h, decide_false, Bool.false_eq_true, if_false]
  exact Ev.some _
theorem ZCx {code : List Int} {at' : Int} (seed : Int) (b : Int × Int × List (Int × Int)) (h : Cur code at' 6) : ∃ x at2 s, Ev (fun k => Z1o k (code, at', seed) b) (x, at2, s) ∧ at' ≤ at2 ∧ at2 ≤ at' + 6 := by
 obtain ⟨m, e0, _⟩ := ZDI 1 b.2.1
 obtain ⟨v1, a1, s1, e1, b1, b2, _⟩ := ZnS seed 16 (h.to (at2 := at') (m := 2) (by omega) (by omega))
 obtain ⟨v2, a2, s2, e2, b3, b4, _⟩ := ZnS s1 (wrap64 (m + wrap64 (Int.tdiv v1 15))) (h.to (at2 := a1) (m := 2) (by omega) (by omega))
 obtain ⟨v3, a3, s3, e3, b5, b6, _⟩ := ZnS s2 24 (h.to (at2 := a2) (m := 2) (by omega) (by omega))
 refine ⟨wrap64 (v2 - wrap64 (Int.tdiv v3 23)), a3, s3, Ev.succ ?_, by omega, by omega⟩
 simp only [Z1o]
 exact Ev.bind e0 (Ev.bind e1 (Ev.bind e2 (Ev.bind e3 (Ev.some _))))
end Go.Proofs.Ytglkedenkcpcbaa.Vs

set_option linter.unusedVariables false
set_option linter.unusedSimpArgs false
namespace Go.Proofs.Ytglkedenkcpcbaa.Vs
open Go.RowKit
theorem Zin (code : List Int) (n : Nat) (hn : n ≤ 1000) (b30 b31 b50 b51 : Int) (o4 : List (Int × Int)) : ∀ (d i : Nat) (acc : List (Int × Int)) (at' seed : Int), i + d = n → acc.length = n → Cur code at' (6 * d) → ∃ at2 s l, Ev (fun k => ZF k at' seed code b30 b31 o4 b50 b51 acc (n : Int) (i : Int)) (at2, s, code, b30, b31, o4, b50, b51, l) ∧ l.length = n ∧ at' ≤ at2 ∧ at2 ≤ at' + 6 * d
 | 0, i, acc, at', seed, h, ha, hc => by
  have hlt : ¬ (i : Int) < (n : Int) := by omega
  refine ⟨at', seed, acc, Ev.succ ?_, ha, by omega, by omega⟩
  simp only [ZF, hlt, decide_false, Bool.false_eq_true, if_false]
  exact Ev.some _
 | d + 1, i, acc, at', seed, h, ha, hc => by
  have hlt : (i : Int) < (n : Int) := by omega
  have h5 : wrap64 ((i : Int) + 1) = ((i + 1 : Nat) : Int) := by rw [w64 (by omega) (by omega)]; omega
  obtain ⟨q, a1, s1, e1, b1, b2⟩ := ZsG seed 2 (hc.to (at2 := at') (m := 2) (by omega) (by omega))
  cases q with
  | false =>
   obtain ⟨a3, s3, l, e3, c1, c2, c3⟩ := Zin code n hn b30 b31 b50 b51 o4 d (i + 1) acc a1 s1 (by omega) ha (hc.to (at2 := a1) (by omega) (by omega))
   refine ⟨a3, s3, l, Ev.succ ?_, c1, by omega, by omega⟩
   simp only [ZF, hlt, decide_true, if_true]
   refine Ev.bind e1 ?_
   simp only [Bool.false_eq_true, if_false, h5]
   exact e3
  | true =>
   obtain ⟨x, a2, s2, e2, b3, b4, _⟩ := Zch s1 [6, 6, 7, 0] (by simp) (hc.to (at2 := a1) (m := 2) (by omega) (by omega))
   have hia : (i : Int) < (acc.length : Int) := by omega
   have hset : (i : Int) < ((List.set acc i (x, 0)).length : Int) := by rw [List.length_set]; omega
   have hg : Ev (fun k => Z1Q k a1 s1 code b30 b31 o4 b50 b51 acc (i : Int) (n : Int) (i : Int)) (a2, s2, code, b30, b31, o4, b50, b51, List.set acc i (x, 0), (i : Int), (n : Int), (i : Int)) := by
    simp only [Z1Q]
    refine Ev.bind e2 ?_
    simp only [Int.natCast_nonneg, hia, if_true, Int.toNat_natCast]
    exact Ev.some _
   have hget : List.getD (List.set acc i (x, (0 : Int))) i (0, 0) = (x, 0) := by
    simp [List.getD, List.getElem?_set, show i < acc.length by omega]
   by_cases hx : x = 6
   ·subst hx
    obtain ⟨v, a3, s3, e3, b5, b6, _⟩ := Zcg s2 2 (hc.to (at2 := a2) (m := 2) (by omega) (by omega)) (by omega)
    have hg8 : Ev (fun k => Z1L k a2 s2 code b30 b31 o4 b50 b51 (List.set acc i (6, 0)) (i : Int) (n : Int) (i : Int)) (a3, s3, code, b30, b31, o4, b50, b51, List.set (List.set acc i (6, 0)) i (6, v), (n : Int), (i : Int)) := by
     simp only [Z1L]
     refine Ev.bind e3 ?_
     simp only [Int.natCast_nonneg, hset, if_true, Int.toNat_natCast, hget]
     exact Ev.some _
    obtain ⟨a4, s4, l, e4, c1, c2, c3⟩ := Zin code n hn b30 b31 b50 b51 o4 d (i + 1) (List.set (List.set acc i (6, 0)) i (6, v)) a3 s3 (by omega) (by rw [List.length_set, List.length_set]; exact ha) (hc.to (at2 := a3) (by omega) (by omega))
    refine ⟨a4, s4, l, Ev.succ ?_, c1, by omega, by omega⟩
    simp only [ZF, hlt, decide_true, if_true]
    refine Ev.bind e1 ?_
    simp only [if_true]
    refine Ev.bind hg ?_
    simp only [Int.natCast_nonneg, hset, if_true, Int.toNat_natCast, hget, eq_self, decide_true]
    refine Ev.bind hg8 ?_
    simp only [h5]
    exact e4
   ·obtain ⟨a4, s4, l, e4, c1, c2, c3⟩ := Zin code n hn b30 b31 b50 b51 o4 d (i + 1) (List.set acc i (x, 0)) a2 s2 (by omega) (by rw [List.length_set]; exact ha) (hc.to (at2 := a2) (by omega) (by omega))
    refine ⟨a4, s4, l, Ev.succ ?_, c1, by omega, by omega⟩
    simp only [ZF, hlt, decide_true, if_true]
    refine Ev.bind e1 ?_
    simp only [if_true]
    refine Ev.bind hg ?_
    simp only [Int.natCast_nonneg, hset, if_true, Int.toNat_natCast, hget, hx, decide_false, Bool.false_eq_true, if_false, h5]
    exact e4
theorem ZDh {code : List Int} {at' : Int} (seed : Int) (h : Cur code at' 1600) : ∃ b at2 s, Ev (fun k => Z5F k (code, at', seed)) (b, at2, s) ∧ at' ≤ at2 ∧ at2 ≤ at' + 1600 ∧ b.2.2.length ≤ 91 := by
 obtain ⟨b, a0, s0, e0, b1, b2, hl⟩ := ZwI seed (h.to (at2 := at') (by omega) (by omega))
 obtain ⟨a1, s1, l, e1, c1, c2, c3⟩ := Zin code b.2.2.length (by omega) 0 0 b.1 b.2.1 [] b.2.2.length 0 b.2.2 a0 s0 (by omega) rfl (h.to (at2 := a0) (by omega) (by omega))
 refine ⟨(b.1, b.2.1, l), a1, s1, Ev.succ ?_, by omega, by omega, by dsimp only; omega⟩
 simp only [Z5F]
 exact Ev.bind e0 (Ev.bind e1 (Ev.some _))
end Go.Proofs.Ytglkedenkcpcbaa.Vs

set_option linter.unusedVariables false
set_option linter.unusedSimpArgs false
namespace Go.Proofs.Ytglkedenkcpcbaa.Vs
open Go.RowKit
def EvP {α : Type} (f : Nat → Option α) (Q : α → Prop) : Prop := ∃ v, Ev f v ∧ Q v
section
variable {α β : Type} {f g : Nat → Option α} {Q : α → Prop} {Q1 : β → Prop}
theorem EvP.some {v : α} (h : Q v) : EvP (fun _ => some v) Q := ⟨v, Ev.some v, h⟩
theorem EvP.succ (h : EvP (fun k => f (k + 1)) Q) : EvP f Q := by
 obtain ⟨v, h1, h2⟩ := h
 exact ⟨v, Ev.succ h1, h2⟩
theorem EvP.bind {x : Nat → Option β} {y : β → Nat → Option α} (h : EvP x Q1) (h2 : ∀ a, Q1 a → EvP (y a) Q) : EvP (fun k => Option.bind (x k) fun z => y z k) Q := by
 obtain ⟨a, h1, h3⟩ := h
 obtain ⟨v, h4, h5⟩ := h2 a h3
 exact ⟨v, Ev.bind h1 h4, h5⟩
theorem EvP.ite {c : Prop} [Decidable c] (h1 : c → EvP f Q) (h2 : ¬ c → EvP g Q) : EvP (fun k => if c then f k else g k) Q := by
 by_cases hc : c
 ·simp only [if_pos hc]; exact h1 hc
 ·simp only [if_neg hc]; exact h2 hc
theorem EvP.guard {c : Prop} [Decidable c] (hc : c) (h : EvP f Q) : EvP (fun k => if c then f k else none) Q := by
 simp only [if_pos hc]; exact h
theorem EvP.mono {Q' : α → Prop} (h : EvP f Q) (hq : ∀ v, Q v → Q' v) : EvP f Q' := by
 obtain ⟨v, h1, h2⟩ := h
 exact ⟨v, h1, hq v h2⟩
theorem EvP.ev {v : α} (h : Ev f v) (hq : Q v) : EvP f Q := ⟨v, h, hq⟩
end
section
variable {code : List Int} {at' seed : Int}
theorem Zh1 (n : Int) (h : Cur code at' 2) (hn : 0 < n) : EvP (fun k => Z0 k (code, at', seed) n) (fun r => at' ≤ r.2.1 ∧ r.2.1 ≤ at' + 2 ∧ 0 ≤ r.1 ∧ r.1 < n) := by
 obtain ⟨v, a, s, e, h1, h2, h3, h4⟩ := Zcg seed n h hn
 exact ⟨_, e, h1, h2, h3, h4⟩
theorem ZsE (n : Int) (h : Cur code at' 2) : EvP (fun k => Zm k (code, at', seed) n) (fun r => at' ≤ r.2.1 ∧ r.2.1 ≤ at' + 2) := by
 obtain ⟨v, a, s, e, h1, h2⟩ := ZsG seed n h
 exact ⟨_, e, h1, h2⟩
theorem ZDB (l : List Int) (hl : 0 < l.length) (h : Cur code at' 2) : EvP (fun k => Zb k (code, at', seed) l) (fun r => at' ≤ r.2.1 ∧ r.2.1 ≤ at' + 2 ∧ r.1 ∈ l) := by
 obtain ⟨v, a, s, e, h1, h2, h3⟩ := Zch seed l hl h
 exact ⟨_, e, h1, h2, h3⟩
theorem ZDR (h : Cur code at' 2) : EvP (fun k => ZL k (code, at', seed)) (fun r => at' ≤ r.2.1 ∧ r.2.1 ≤ at' + 2) := by
 obtain ⟨x, a, s, e, h1, h2⟩ := ZAS seed h
 exact ⟨_, e, h1, h2⟩
theorem ZCB (h : Cur code at' 1040) : EvP (fun k => Zf k (code, at', seed)) (fun r => at' ≤ r.2.1 ∧ r.2.1 ≤ at' + 1040 ∧ r.1.2.2.length ≤ 91) := by
 obtain ⟨x, a, s, e, h1, h2, h3⟩ := ZwI seed h
 exact ⟨_, e, h1, h2, h3⟩
theorem ZDe (h : Cur code at' 1600) : EvP (fun k => Z5F k (code, at', seed)) (fun r => at' ≤ r.2.1 ∧ r.2.1 ≤ at' + 1600 ∧ r.1.2.2.length ≤ 91) := by
 obtain ⟨x, a, s, e, h1, h2, h3⟩ := ZDh seed h
 exact ⟨_, e, h1, h2, h3⟩
end
end Go.Proofs.Ytglkedenkcpcbaa.Vs

set_option linter.unusedVariables false
set_option linter.unusedSimpArgs false
namespace Go.Proofs.Ytglkedenkcpcbaa.Vs
open Go.RowKit
def geared (x : CellD) : Bool := decide (x.1 = 6 ∨ x.1 = 7)
theorem Zl4 (x : CellD) : Ev (fun k => Z97 k x) (geared x) := by
 refine Ev.succ ?_
 simp only [Z97]
 refine Ev.of ?_
 by_cases h1 : x.1 = 6 <;> simp [geared, h1]
theorem Zps (x : CellD) : Ev (fun k => Zb6 k x) (geared x) := by
 refine Ev.succ ?_
 simp only [Zb6]
 refine Ev.of ?_
 by_cases h1 : x.1 = 6 <;> simp [geared, h1]
def nears (b : BoardD) (i : Int) : List Int := (if 0 < Int.tdiv i b.2.1 then [i - b.2.1] else []) ++ (if 0 < Int.tmod i b.2.1 then [i - 1] else []) ++ (if Int.tmod i b.2.1 + 1 < b.2.1 then [i + 1] else []) ++ (if Int.tdiv i b.2.1 + 1 < b.1 then [i + b.2.1] else [])
theorem Zgt {b : BoardD} (hb : boardOK b = true) {i : Int} (h0 : 0 ≤ i) (h1 : i < (b.2.2.length : Int)) : ∃ q m t : Int, Int.tdiv i b.2.1 = q ∧ Int.tmod i b.2.1 = m ∧ i = t + m ∧ 0 ≤ m ∧ m < b.2.1 ∧ 0 ≤ q ∧ q < b.1 ∧ 0 ≤ t ∧ t + b.2.1 ≤ (b.2.2.length : Int) ∧ (1 ≤ q → b.2.1 ≤ t) ∧ (q + 1 < b.1 → t + b.2.1 + b.2.1 ≤ (b.2.2.length : Int)) := by
 obtain ⟨g1, g2, g3, g4, g5, g6⟩ := Zr hb
 have hq : Int.tdiv i b.2.1 = i / b.2.1 := Int.tdiv_eq_ediv_of_nonneg h0
 have hm : Int.tmod i b.2.1 = i % b.2.1 := Int.tmod_eq_emod_of_nonneg h0
 have e1 := Int.mul_ediv_add_emod i b.2.1
 have e2 := Int.emod_nonneg i (show b.2.1 ≠ 0 by omega)
 have e3 := Int.emod_lt_of_pos i (show 0 < b.2.1 by omega)
 have e4 : 0 ≤ i / b.2.1 := Int.ediv_nonneg h0 (by omega)
 have e5 : i / b.2.1 < b.1 := Int.ediv_lt_of_lt_mul (by omega) (by rw [← g5]; exact h1)
 have e6 : 0 ≤ b.2.1 * (i / b.2.1) := Int.mul_nonneg (by omega) e4
 have e7 : b.2.1 * (i / b.2.1 + 1) ≤ b.2.1 * b.1 := Int.mul_le_mul_of_nonneg_left (by omega) (by omega)
 rw [Int.mul_add, Int.mul_one, Int.mul_comm b.2.1 b.1, ← g5] at e7
 refine ⟨_, _, b.2.1 * (i / b.2.1), hq, hm, by omega, e2, e3, e4, e5, e6, e7, fun h => ?_, fun h => ?_⟩
 ·have := Int.mul_le_mul_of_nonneg_left h (show 0 ≤ b.2.1 by omega)
  omega
 ·have e8 : b.2.1 * (i / b.2.1 + 2) ≤ b.2.1 * b.1 := Int.mul_le_mul_of_nonneg_left (by omega) (by omega)
  rw [Int.mul_add, Int.mul_comm b.2.1 b.1, ← g5] at e8
  omega
theorem ZAl {b : BoardD} (hb : boardOK b = true) {i : Int} (h0 : 0 ≤ i) (h1 : i < (b.2.2.length : Int)) : ∀ n ∈ nears b i, 0 ≤ n ∧ n < (b.2.2.length : Int) := by
 obtain ⟨q, m, t, hq, hm, k1, k2, k3, k4, k5, k6, k7, k8, k9⟩ := Zgt hb h0 h1
 intro n hn
 unfold nears at hn
 rw [hq, hm] at hn
 simp only [List.mem_append] at hn
 rcases hn with ((hn | hn) | hn) | hn
 ·split at hn
  ·have := List.mem_singleton.1 hn; have := k8 (by omega); omega
  ·cases hn
 ·split at hn
  ·have := List.mem_singleton.1 hn; omega
  ·cases hn
 ·split at hn
  ·have := List.mem_singleton.1 hn; omega
  ·cases hn
 ·split at hn
  ·have := List.mem_singleton.1 hn; have := k9 (by omega); omega
  ·cases hn
theorem ZyE (b : BoardD) (i : Int) : (nears b i).length ≤ 4 := by
 unfold nears
 simp only [List.length_append]
 have h1 : ∀ (c : Prop) [Decidable c] (x : Int), (if c then [x] else []).length ≤ 1 := by intro c _ x; split <;> simp
 have a1 := h1 (0 < Int.tdiv i b.2.1) (i - b.2.1)
 have a2 := h1 (0 < Int.tmod i b.2.1) (i - 1)
 have a3 := h1 (Int.tmod i b.2.1 + 1 < b.2.1) (i + 1)
 have a4 := h1 (Int.tdiv i b.2.1 + 1 < b.1) (i + b.2.1)
 omega
theorem ZxA (b : BoardD) (hb : boardOK b = true) (i : Int) (h0 : 0 ≤ i) (h1 : i < (b.2.2.length : Int)) : Ev (fun k => Zbr k b i) (nears b i) := by
 obtain ⟨g1, g2, g3, g4, g5, g6⟩ := Zr hb
 have hp := ZU g1 g2 g3 g4
 obtain ⟨q, m, t, hq, hm, k1, k2, k3, k4, k5, k6, k7, k8, k9⟩ := Zgt hb h0 h1
 have hC : ¬ b.2.1 = 0 := by omega
 refine Ev.succ ?_
 simp only [Zbr, hC, if_false, nears, hq, hm, gt_iff_lt]
 rw [w64 (n := q) (by omega) (by omega), w64 (n := q + 1) (by omega) (by omega), w64 (n := m + 1) (by omega) (by omega), w64 (n := i - b.2.1) (by omega) (by omega), w64 (n := i - 1) (by omega) (by omega), w64 (n := i + 1) (by omega) (by omega), w64 (n := i + b.2.1) (by omega) (by omega)]
 refine Ev.of ?_
 by_cases h1 : 0 < q <;> by_cases h2 : 0 < m <;> by_cases h3 : m + 1 < b.2.1 <;> by_cases h4 : q + 1 < b.1 <;> simp [h1, h2, h3, h4]
theorem ZzR (b : BoardD) (hb : boardOK b = true) (i : Int) (h0 : 0 ≤ i) (h1 : i < (b.2.2.length : Int)) : Ev (fun k => ZdA k b i) (nears b i) := by
 obtain ⟨g1, g2, g3, g4, g5, g6⟩ := Zr hb
 have hp := ZU g1 g2 g3 g4
 obtain ⟨q, m, t, hq, hm, k1, k2, k3, k4, k5, k6, k7, k8, k9⟩ := Zgt hb h0 h1
 have hC : ¬ b.2.1 = 0 := by omega
 refine Ev.succ ?_
 simp only [ZdA, hC, if_false, nears, hq, hm, gt_iff_lt]
 rw [w64 (n := q) (by omega) (by omega), w64 (n := q + 1) (by omega) (by omega), w64 (n := m + 1) (by omega) (by omega), w64 (n := i - b.2.1) (by omega) (by omega), w64 (n := i - 1) (by omega) (by omega), w64 (n := i + 1) (by omega) (by omega), w64 (n := i + b.2.1) (by omega) (by omega)]
 refine Ev.of ?_
 by_cases h1 : 0 < q <;> by_cases h2 : 0 < m <;> by_cases h3 : m + 1 < b.2.1 <;> by_cases h4 : q + 1 < b.1 <;> simp [h1, h2, h3, h4]
def visit (b : BoardD) (v : Int) (G : List Int × List Int) (n : Int) : List Int × List Int := if geared (List.getD b.2.2 n.toNat (0, 0)) && decide (List.getD G.1 n.toNat 0 < 0) then (List.set G.1 n.toNat v, G.2 ++ [n]) else G
def unl (l : List Int) : Nat := l.countP fun x => decide (x < 0)
theorem ZsF (v : Int) (hv : 0 ≤ v) : ∀ (l : List Int) (i : Nat), i < l.length → List.getD l i 0 < 0 → unl (l.set i v) + 1 = unl l
 | [], i, h, _ => by simp at h
 | x :: l, 0, _, h => by
  have h' : x < 0 := by simpa using h
  have : ¬ v < 0 := by omega
  simp [unl, h', this]
 | x :: l, i + 1, h, h2 => by
  have ih := ZsF v hv l i (by simpa using h) (by simpa using h2)
  simp only [unl, List.set_cons_succ, List.countP_cons] at ih ⊢
  omega
theorem ZBZ (l : List Int) : unl l ≤ l.length := List.countP_le_length
theorem ZsA (b : BoardD) (v : Int) (G : List Int × List Int) (n : Int) : (visit b v G n).1.length = G.1.length := by
 unfold visit; split <;> simp
theorem ZeJ (b : BoardD) (v : Int) : ∀ (r : List Int) (G : List Int × List Int), (r.foldl (visit b v) G).1.length = G.1.length
 | [], G => rfl
 | n :: r, G => by rw [List.foldl_cons, ZeJ b v r, ZsA]
theorem ZCO (b : BoardD) (v : Int) (hv : 0 ≤ v) (G : List Int × List Int) (n : Int) (h0 : 0 ≤ n) (h1 : n < (G.1.length : Int)) : unl (visit b v G n).1 + (visit b v G n).2.length = unl G.1 + G.2.length := by
 unfold visit
 split
 ·rename_i hc
  simp only [Bool.and_eq_true, decide_eq_true_eq] at hc
  have := ZsF v hv G.1 n.toNat (by omega) hc.2
  simp only [List.length_append, List.length_singleton]
  omega
 ·rfl
theorem ZoV (b : BoardD) (v : Int) (hv : 0 ≤ v) : ∀ (r : List Int) (G : List Int × List Int), (∀ n ∈ r, 0 ≤ n ∧ n < (G.1.length : Int)) → unl (r.foldl (visit b v) G).1 + (r.foldl (visit b v) G).2.length = unl G.1 + G.2.length
 | [], G, _ => rfl
 | n :: r, G, h => by
  rw [List.foldl_cons, ZoV b v hv r _ (fun m hm => by rw [ZsA]; exact h m (List.mem_cons_of_mem _ hm))]
  exact ZCO b v hv G n (h n (List.mem_cons_self ..)).1 (h n (List.mem_cons_self ..)).2
theorem Zid (b : BoardD) (v : Int) : ∀ (r : List Int) (o2 o3 a : List Int), (r.foldl (visit b v) (o2, o3 ++ a)) = ((r.foldl (visit b v) (o2, a)).1, o3 ++ (r.foldl (visit b v) (o2, a)).2)
 | [], o2, o3, a => rfl
 | n :: r, o2, o3, a => by
  simp only [List.foldl_cons]
  by_cases hc : (geared (List.getD b.2.2 n.toNat (0, 0)) && decide (List.getD o2 n.toNat 0 < 0)) = true
  ·have e1 : visit b v (o2, o3 ++ a) n = (List.set o2 n.toNat v, o3 ++ (a ++ [n])) := by simp only [visit]; rw [if_pos hc, List.append_assoc]
   have e2 : visit b v (o2, a) n = (List.set o2 n.toNat v, a ++ [n]) := by simp only [visit]; rw [if_pos hc]
   rw [e1, e2]
   exact Zid b v r _ o3 _
  ·have e1 : visit b v (o2, o3 ++ a) n = (o2, o3 ++ a) := by simp only [visit]; rw [if_neg hc]
   have e2 : visit b v (o2, a) n = (o2, a) := by simp only [visit]; rw [if_neg hc]
   rw [e1, e2]
   exact Zid b v r o2 o3 a
theorem ZoJ (b : BoardD) (v : Int) (P : Int → Prop) : ∀ (r : List Int) (G : List Int × List Int), (∀ n ∈ r, P n) → (∀ n ∈ G.2, P n) → ∀ n ∈ (r.foldl (visit b v) G).2, P n
 | [], G, _, h => h
 | m :: r, G, h, hg => by
  rw [List.foldl_cons]
  refine ZoJ b v P r _ (fun n hn => h n (List.mem_cons_of_mem _ hn)) (fun n hn => ?_)
  unfold visit at hn
  split at hn
  ·rcases List.mem_append.1 hn with hn | hn
   ·exact hg n hn
   ·rw [List.mem_singleton.1 hn]; exact h m (List.mem_cons_self ..)
  ·exact hg n hn
theorem Z9S (b : BoardD) (hb : boardOK b = true) (v : Int) (hv : 0 ≤ v) (v26 : List CellD) (v27 v28 : Int) : ∀ (r pre o2 o3 : List Int), (∀ n ∈ r, 0 ≤ n ∧ n < (b.2.2.length : Int)) → (pre ++ r).length ≤ 100 → o2.length = b.2.2.length → o3.length + unl o2 ≤ 1000 →
    Ev (fun k => Z1i k b.1 b.2.1 b.2.2 o2 o3 (pre ++ r) v  v26 v27 v28 ((pre ++ r).length : Int) (pre.length : Int)) (b.1, b.2.1, b.2.2, (r.foldl (visit b v) (o2, o3)).1, (r.foldl (visit b v) (o2, o3)).2, v, v26, v27, v28)
  | [], pre, o2, o3, hr, hl, h2, h3 => by
    refine Ev.succ ?_
    simp only [Z1i, Zx, decide_false, Bool.false_eq_true, if_false]
    exact Ev.some _
  | x :: r, pre, o2, o3, hr, hl, h2, h3 => by
    obtain ⟨hx0, hx1⟩ := hr x (List.mem_cons_self ..)
    have hx2 : x < (o2.length : Int) := by omega
    have hr' : ∀ n ∈ r, 0 ≤ n ∧ n < (b.2.2.length : Int) := fun n hn => hr n (List.mem_cons_of_mem _ hn)
    have ih0 := Z9S b hb v hv  v26 v27 v28 r (pre ++ [x]) o2 o3 hr' (by simpa using hl) h2 h3
    rw [← Z6] at ih0
    have hn := Zj pre x r (by omega)
    refine Ev.succ ?_
    simp only [Z1i, Zk, ZA, decide_true, if_true, Int.toNat_natCast, Za, hn, hx0, hx1, hx2]
    refine Ev.bind (Zl4 (List.getD b.2.2 x.toNat (0, 0))) ?_
    rw [List.foldl_cons]
    by_cases hg : geared (List.getD b.2.2 x.toNat (0, 0)) = true
    · simp only [hg, if_true]
      by_cases ho : List.getD o2 x.toNat 0 < 0
      · have e1 : visit b v (o2, o3) x = (List.set o2 x.toNat v, o3 ++ [x]) := by unfold visit; rw [if_pos (by simp only [hg, ho, decide_true, Bool.and_self])]
        have hu := ZsF v hv o2 x.toNat (by omega) ho
        have hle : o3.length + 1 ≤ 140737488355328 / 8 := by omega
        have ih := Z9S b hb v hv  v26 v27 v28 r (pre ++ [x]) (List.set o2 x.toNat v) (o3 ++ [x]) hr' (by simpa using hl) (by simpa using h2) (by simp; omega)
        rw [← Z6] at ih
        simp only [ho, decide_true, if_true, List.length_singleton, hle]
        rw [e1]
        exact ih
      · have e1 : visit b v (o2, o3) x = (o2, o3) := by unfold visit; rw [if_neg (by simp only [ho, decide_false, Bool.and_false, Bool.false_eq_true, not_false_eq_true])]
        simp only [ho, decide_false, Bool.false_eq_true, if_false]
        rw [e1]
        exact ih0
    · have e1 : visit b v (o2, o3) x = (o2, o3) := by unfold visit; rw [if_neg (by simp only [hg, Bool.false_and, Bool.false_eq_true, not_false_eq_true])]
      simp only [hg, Bool.false_eq_true, if_false]
      rw [e1]
      exact ih0
theorem ZcM (b : BoardD) (hb : boardOK b = true) (v : Int) (hv : 0 ≤ v) (v9 : Int) (v26 : List CellD) (v27 v28 : Int) : ∀ (r pre o2 o3 : List Int), (∀ n ∈ r, 0 ≤ n ∧ n < (b.2.2.length : Int)) → (pre ++ r).length ≤ 100 → o2.length = b.2.2.length → o3.length + unl o2 ≤ 1000 →
    Ev (fun k => Z2P k b.1 b.2.1 b.2.2 o2 o3 (pre ++ r) v v9 v26 v27 v28 ((pre ++ r).length : Int) (pre.length : Int)) (b.1, b.2.1, b.2.2, (r.foldl (visit b v) (o2, o3)).1, (r.foldl (visit b v) (o2, o3)).2, v, v9, v26, v27, v28)
  | [], pre, o2, o3, hr, hl, h2, h3 => by
    refine Ev.succ ?_
    simp only [Z2P, Zx, decide_false, Bool.false_eq_true, if_false]
    exact Ev.some _
  | x :: r, pre, o2, o3, hr, hl, h2, h3 => by
    obtain ⟨hx0, hx1⟩ := hr x (List.mem_cons_self ..)
    have hx2 : x < (o2.length : Int) := by omega
    have hr' : ∀ n ∈ r, 0 ≤ n ∧ n < (b.2.2.length : Int) := fun n hn => hr n (List.mem_cons_of_mem _ hn)
    have ih0 := ZcM b hb v hv v9 v26 v27 v28 r (pre ++ [x]) o2 o3 hr' (by simpa using hl) h2 h3
    rw [← Z6] at ih0
    have hn := Zj pre x r (by omega)
    refine Ev.succ ?_
    simp only [Z2P, Zk, ZA, decide_true, if_true, Int.toNat_natCast, Za, hn, hx0, hx1, hx2]
    refine Ev.bind (Zps (List.getD b.2.2 x.toNat (0, 0))) ?_
    rw [List.foldl_cons]
    by_cases hg : geared (List.getD b.2.2 x.toNat (0, 0)) = true
    · simp only [hg, if_true]
      by_cases ho : List.getD o2 x.toNat 0 < 0
      · have e1 : visit b v (o2, o3) x = (List.set o2 x.toNat v, o3 ++ [x]) := by unfold visit; rw [if_pos (by simp only [hg, ho, decide_true, Bool.and_self])]
        have hu := ZsF v hv o2 x.toNat (by omega) ho
        have hle : o3.length + 1 ≤ 140737488355328 / 8 := by omega
        have ih := ZcM b hb v hv v9 v26 v27 v28 r (pre ++ [x]) (List.set o2 x.toNat v) (o3 ++ [x]) hr' (by simpa using hl) (by simpa using h2) (by simp; omega)
        rw [← Z6] at ih
        simp only [ho, decide_true, if_true, List.length_singleton, hle]
        rw [e1]
        exact ih
      · have e1 : visit b v (o2, o3) x = (o2, o3) := by unfold visit; rw [if_neg (by simp only [ho, decide_false, Bool.and_false, Bool.false_eq_true, not_false_eq_true])]
        simp only [ho, decide_false, Bool.false_eq_true, if_false]
        rw [e1]
        exact ih0
    · have e1 : visit b v (o2, o3) x = (o2, o3) := by unfold visit; rw [if_neg (by simp only [hg, Bool.false_and, Bool.false_eq_true, not_false_eq_true])]
      simp only [hg, Bool.false_eq_true, if_false]
      rw [e1]
      exact ih0
def bfs (b : BoardD) (v : Int) : Nat → List Int → List Int → List Int
 | 0, o2, _ => o2
 | _ + 1, o2, [] => o2
 | n + 1, o2, x :: q => bfs b v n ((nears b x).foldl (visit b v) (o2, [])).1 (q ++ ((nears b x).foldl (visit b v) (o2, [])).2)
theorem Zgj (b : BoardD) (v : Int) : ∀ (n : Nat) (o2 q : List Int), (bfs b v n o2 q).length = o2.length
 | 0, o2, _ => rfl
 | _ + 1, o2, [] => rfl
 | n + 1, o2, x :: q => by simp only [bfs]; rw [Zgj b v n, ZeJ]
theorem Zet (b : BoardD) (hb : boardOK b = true) (v : Int) (hv : 0 ≤ v) (v26 : List CellD) (v27 v28 : Int) : ∀ (n : Nat) (o2 q : List Int), (∀ m ∈ q, 0 ≤ m ∧ m < (b.2.2.length : Int)) → o2.length = b.2.2.length → unl o2 + q.length + 1 ≤ n → q.length + unl o2 ≤ 1000 →
    Ev (fun k => Z2d k b.1 b.2.1 b.2.2 o2 q v v26 v27 v28) (b.1, b.2.1, b.2.2, bfs b v n o2 q, v, v26, v27, v28)
  | 0, o2, q, hq, h2, hn, hm => by omega
  | n + 1, o2, [], hq, h2, hn, hm => by
    refine Ev.succ ?_
    simp only [Z2d, List.length_nil]
    have : ¬ ((0 : Nat) : Int) > 0 := by omega
    simp only [this, decide_false, Bool.false_eq_true, if_false]
    exact Ev.some _
  | n + 1, o2, x :: q, hq, h2, hn, hm => by
    obtain ⟨hx0, hx1⟩ := hq x (List.mem_cons_self ..)
    have hlen : (((x :: q).length : Nat) : Int) > 0 := by simp only [List.length_cons]; omega
    have hlen1 : (1 : Int) ≤ (((x :: q).length : Nat) : Int) := by omega
    have hlen0 : (0 : Int) < (((x :: q).length : Nat) : Int) := by omega
    have hin := ZAl hb hx0 hx1
    have hun := ZoV b v hv (nears b x) (o2, []) (fun m hm => by rw [h2]; exact hin m hm)
    simp only [List.length_nil, Nat.add_zero] at hun
    simp only [List.length_cons] at hn hm
    refine Ev.succ ?_
    simp only [Z2d, hlen, hlen1, hlen0, Int.le_refl, decide_true, if_true]
    refine Ev.bind (ZxA b hb x hx0 hx1) ?_
    have h6 := Z9S b hb v hv v26 v27 v28 (nears b x) [] o2 q hin (by have := ZyE b x; simp; omega) h2 (by omega)
    refine Ev.bind h6 ?_
    have happ := Zid b v (nears b x) o2 q []
    rw [List.append_nil] at happ
    rw [happ]
    show Ev (fun k => Z2d k b.1 b.2.1 b.2.2 (List.foldl (visit b v) (o2, []) (nears b x)).1 (q ++ (List.foldl (visit b v) (o2, []) (nears b x)).2) v v26 v27 v28) _
    exact Zet b hb v hv v26 v27 v28 n _ _ (fun m hm => by
      rcases List.mem_append.1 hm with hm | hm
      · exact hq m (List.mem_cons_of_mem _ hm)
      · exact ZoJ b v (fun m => 0 ≤ m ∧ m < (b.2.2.length : Int)) (nears b x) (o2, []) hin (fun m hm => by cases hm) m hm) (by rw [ZeJ]; exact h2) (by rw [List.length_append]; omega) (by rw [List.length_append]; omega)
theorem ZhJ (b : BoardD) (hb : boardOK b = true) (v : Int) (hv : 0 ≤ v) (v26 : List CellD) (v27 v28 : Int) : ∀ (n : Nat) (o2 q pre : List Int), (∀ m ∈ q, 0 ≤ m ∧ m < (b.2.2.length : Int)) → o2.length = b.2.2.length → unl o2 + q.length + 1 ≤ n → (pre ++ q).length + unl o2 ≤ 1000 →
    Ev (fun k => Z3E k b.1 b.2.1 b.2.2 o2 (pre ++ q) v (pre.length : Int) v26 v27 v28) (b.1, b.2.1, b.2.2, bfs b v n o2 q, v, v26, v27, v28)
  | 0, o2, q, pre, hq, h2, hn, hm => by omega
  | n + 1, o2, [], pre, hq, h2, hn, hm => by
    refine Ev.succ ?_
    simp only [Z3E, Zx, decide_false, Bool.false_eq_true, if_false]
    exact Ev.some _
  | n + 1, o2, x :: q, pre, hq, h2, hn, hm => by
    obtain ⟨hx0, hx1⟩ := hq x (List.mem_cons_self ..)
    have hin := ZAl hb hx0 hx1
    have hun := ZoV b v hv (nears b x) (o2, []) (fun m hm => by rw [h2]; exact hin m hm)
    simp only [List.length_nil, Nat.add_zero] at hun
    have hm' := hm
    simp only [List.length_cons, List.length_append] at hn hm'
    refine Ev.succ ?_
    simp only [Z3E, Zk, ZA, decide_true, if_true, Int.toNat_natCast, Za]
    refine Ev.bind (ZzR b hb x hx0 hx1) ?_
    have h6 := ZcM b hb v hv (pre.length : Int) v26 v27 v28 (nears b x) [] o2 (pre ++ x :: q) hin (by have := ZyE b x; simp; omega) h2 hm
    refine Ev.bind h6 ?_
    have happ := Zid b v (nears b x) o2 (pre ++ x :: q) []
    rw [List.append_nil] at happ
    rw [happ]
    show Ev (fun k => Z3E k b.1 b.2.1 b.2.2 (List.foldl (visit b v) (o2, []) (nears b x)).1 ((pre ++ x :: q) ++ (List.foldl (visit b v) (o2, []) (nears b x)).2) v (wrap64 ((pre.length : Int) + 1)) v26 v27 v28) _
    rw [Zj pre x q (by simp; omega), Z6, List.append_assoc]
    exact ZhJ b hb v hv v26 v27 v28 n _ _ (pre ++ [x]) (fun m hm => by
      rcases List.mem_append.1 hm with hm | hm
      · exact hq m (List.mem_cons_of_mem _ hm)
      · exact ZoJ b v (fun m => 0 ≤ m ∧ m < (b.2.2.length : Int)) (nears b x) (o2, []) hin (fun m hm => by cases hm) m hm) (by rw [ZeJ]; exact h2) (by rw [List.length_append]; omega) (by simp only [List.length_append, List.length_singleton]; omega)
def groupsFrom (b : BoardD) : Int → List CellD → List Int → Int → List Int
 | _, [], o2, _ => o2
 | i, x :: r, o2, v => if geared x && decide (List.getD o2 i.toNat 0 < 0) then groupsFrom b (i + 1) r (bfs b v 200 (List.set o2 i.toNat v) [i]) (v + 1) else groupsFrom b (i + 1) r o2 v
theorem Zg6 (b : BoardD) : ∀ (r : List CellD) (i : Int) (o2 : List Int) (v : Int), (groupsFrom b i r o2 v).length = o2.length
 | [], _, _, _ => rfl
 | x :: r, i, o2, v => by
  simp only [groupsFrom]
  split
  ·rw [Zg6 b r, Zgj, List.length_set]
  ·exact Zg6 b r _ _ _
def groupsOf (b : BoardD) : List Int := groupsFrom b 0 b.2.2 (List.replicate b.2.2.length (-1)) 0
theorem Z3j (b : BoardD) : (groupsOf b).length = b.2.2.length := by unfold groupsOf; rw [Zg6]; simp
theorem Zev (b : BoardD) (m : Int) : ∀ (r pre : List Int), m = ((pre ++ r).length : Int) → (pre ++ r).length ≤ 1000 → Ev (fun k => Z33 k b.1 b.2.1 b.2.2 (pre ++ r) m (pre.length : Int)) (b.1, b.2.1, b.2.2, pre ++ List.replicate r.length (-1))
 | [], pre, hm, hl => by
  refine Ev.succ ?_
  have : ¬ (pre.length : Int) < m := by rw [hm]; exact Zx pre
  simp only [Z33, this, decide_false, Bool.false_eq_true, if_false]
  exact Ev.of (by simp)
 | x :: r, pre, hm, hl => by
  have ih := Zev b m r (pre ++ [-1]) (by rw [hm]; simp) (by simpa using hl)
  have hlt : (pre.length : Int) < m := by rw [hm]; exact Zk _ _ _
  have hn2 : ((pre ++ [x]).length : Int) = ((pre ++ [(-1 : Int)]).length : Int) := by simp
  refine Ev.succ ?_
  simp only [Z33, hlt, Zk, ZA, decide_true, if_true, Int.toNat_natCast, Za6]
  rw [Zj pre x r (by omega), hn2]
  rw [← Z6] at ih
  refine ih.congr ?_
  simp [List.replicate_succ]
theorem Z9O (b : BoardD) (hb : boardOK b = true) : ∀ (r pre : List CellD) (o2 : List Int) (v : Int), pre ++ r = b.2.2 → o2.length = b.2.2.length → 0 ≤ v → v ≤ pre.length → Ev (fun k => ZS k b.1 b.2.1 b.2.2 o2 v (pre ++ r) ((pre ++ r).length : Int) (pre.length : Int)) (groupsFrom b pre.length r o2 v)
 | [], pre, o2, v, hpr, h2, hv, hv2 => by
  refine Ev.succ ?_
  simp only [ZS, Zx, decide_false, Bool.false_eq_true, if_false]
  exact Ev.some _
 | x :: r, pre, o2, v, hpr, h2, hv, hv2 => by
  obtain ⟨g1, g2, g3, g4, g5, g6⟩ := Zr hb
  have hp := ZU g1 g2 g3 g4
  have hl90 : (pre ++ x :: r).length ≤ 90 := by rw [hpr]; omega
  have hn := Zj pre x r (by omega)
  have hc : ((pre ++ [x]).length : Int) = (pre.length : Int) + 1 := by simp
  have hlt := Zk pre x r
  have hlo : (pre.length : Int) < (o2.length : Int) := by rw [h2, ← hpr]; exact hlt
  have ih0 := Z9O b hb r (pre ++ [x]) o2 v (by rw [← hpr]; simp) h2 hv (by simp; omega)
  rw [← Z6, hc] at ih0
  refine Ev.succ ?_
  simp only [ZS, Zk, ZA, decide_true, if_true, Int.toNat_natCast, Za, hn, hc, hlo]
  refine Ev.bind (Zl4 x) ?_
  cases hg : geared x with
  | false =>
   simp only [Bool.not_false, if_true, groupsFrom, hg, Bool.false_and, Bool.false_eq_true, if_false]
   exact ih0
  | true =>
   simp only [Bool.not_true, Bool.false_eq_true, if_false]
   refine Ev.ite (fun h => ?_) (fun h => ?_)
   ·simp only [ge_iff_le, decide_eq_true_eq] at h
    have hno : ¬ List.getD o2 pre.length 0 < 0 := by omega
    simp only [groupsFrom, hg, Int.toNat_natCast, hno, decide_false, Bool.and_false, Bool.false_eq_true, if_false]
    exact ih0
   ·simp only [ge_iff_le, decide_eq_true_eq] at h
    have hno : List.getD o2 pre.length 0 < 0 := by omega
    have hul := ZBZ (List.set o2 pre.length v)
    rw [List.length_set, h2, ← hpr] at hul
    have h4 := Zet b hb v hv (pre ++ x :: r) ((pre ++ x :: r).length : Int) (pre.length : Int) 200 (List.set o2 pre.length v) [(pre.length : Int)] (fun m hm => by rw [List.mem_singleton.1 hm, ← hpr]; exact ⟨by omega, hlt⟩) (by rw [List.length_set]; exact h2) (by simp; omega) (by simp; omega)
    refine Ev.bind h4 ?_
    have ih := Z9O b hb r (pre ++ [x]) (bfs b v 200 (List.set o2 pre.length v) [(pre.length : Int)]) (v + 1) (by rw [← hpr]; simp) (by rw [Zgj, List.length_set]; exact h2) (by omega) (by simp; omega)
    rw [← Z6, hc] at ih
    show Ev (fun k => ZS k b.1 b.2.1 b.2.2 (bfs b v 200 (List.set o2 pre.length v) [(pre.length : Int)]) (wrap64 (v + 1)) (pre ++ x :: r) ((pre ++ x :: r).length : Int) (wrap64 ((pre.length : Int) + 1))) _
    rw [w64 (n := v + 1) (by omega) (by omega), hn, hc]
    simp only [groupsFrom, hg, Int.toNat_natCast, hno, decide_true, Bool.and_self, if_true]
    exact ih
theorem Zbd (b : BoardD) (hb : boardOK b = true) : Ev (fun k => Z3X k b) (groupsOf b) := by
 obtain ⟨g1, g2, g3, g4, g5, g6⟩ := Zr hb
 have hp := ZU g1 g2 g3 g4
 have hm : b.2.2.length * 8 ≤ 281474976710656 := by omega
 refine Ev.succ ?_
 simp only [Z3X, Int.toNat_natCast, hm, if_true]
 refine Ev.bind (Zev b _ (List.replicate b.2.2.length 0) [] rfl (by simp; omega)) ?_
 have hrep : ([] : List Int) ++ List.replicate (List.replicate b.2.2.length (0 : Int)).length (-1) = List.replicate b.2.2.length (-1) := by simp
 rw [hrep]
 exact Ev.bind (Z9O b hb b.2.2 [] (List.replicate b.2.2.length (-1)) 0 rfl (by simp) (by omega) (by simp)) (Ev.some _)
theorem Zi0 (b : BoardD) (m : Int) : ∀ (r pre : List Int), m = ((pre ++ r).length : Int) → (pre ++ r).length ≤ 1000 → Ev (fun k => Z5f k b.1 b.2.1 b.2.2 (pre ++ r) m (pre.length : Int)) (b.1, b.2.1, b.2.2, pre ++ List.replicate r.length (-1))
 | [], pre, hm, hl => by
  refine Ev.succ ?_
  have : ¬ (pre.length : Int) < m := by rw [hm]; exact Zx pre
  simp only [Z5f, this, decide_false, Bool.false_eq_true, if_false]
  exact Ev.of (by simp)
 | x :: r, pre, hm, hl => by
  have ih := Zi0 b m r (pre ++ [-1]) (by rw [hm]; simp) (by simpa using hl)
  have hlt : (pre.length : Int) < m := by rw [hm]; exact Zk _ _ _
  have hn2 : ((pre ++ [x]).length : Int) = ((pre ++ [(-1 : Int)]).length : Int) := by simp
  refine Ev.succ ?_
  simp only [Z5f, hlt, Zk, ZA, decide_true, if_true, Int.toNat_natCast, Za6]
  rw [Zj pre x r (by omega), hn2]
  rw [← Z6] at ih
  refine ih.congr ?_
  simp [List.replicate_succ]
theorem ZcT (b : BoardD) (hb : boardOK b = true) : ∀ (r pre : List CellD) (o2 : List Int) (v : Int), pre ++ r = b.2.2 → o2.length = b.2.2.length → 0 ≤ v → v ≤ pre.length → Ev (fun k => Z24 k b.1 b.2.1 b.2.2 o2 v (pre ++ r) ((pre ++ r).length : Int) (pre.length : Int)) (groupsFrom b pre.length r o2 v)
 | [], pre, o2, v, hpr, h2, hv, hv2 => by
  refine Ev.succ ?_
  simp only [Z24, Zx, decide_false, Bool.false_eq_true, if_false]
  exact Ev.some _
 | x :: r, pre, o2, v, hpr, h2, hv, hv2 => by
  obtain ⟨g1, g2, g3, g4, g5, g6⟩ := Zr hb
  have hp := ZU g1 g2 g3 g4
  have hl90 : (pre ++ x :: r).length ≤ 90 := by rw [hpr]; omega
  have hn := Zj pre x r (by omega)
  have hc : ((pre ++ [x]).length : Int) = (pre.length : Int) + 1 := by simp
  have hlt := Zk pre x r
  have hlo : (pre.length : Int) < (o2.length : Int) := by rw [h2, ← hpr]; exact hlt
  have ih0 := ZcT b hb r (pre ++ [x]) o2 v (by rw [← hpr]; simp) h2 hv (by simp; omega)
  rw [← Z6, hc] at ih0
  refine Ev.succ ?_
  simp only [Z24, Zk, ZA, decide_true, if_true, Int.toNat_natCast, Za, hn, hc, hlo]
  refine Ev.bind (Zps x) ?_
  cases hg : geared x with
  | false =>
   simp only [Bool.not_false, if_true, groupsFrom, hg, Bool.false_and, Bool.false_eq_true, if_false]
   exact ih0
  | true =>
   simp only [Bool.not_true, Bool.false_eq_true, if_false]
   refine Ev.ite (fun h => ?_) (fun h => ?_)
   ·simp only [ge_iff_le, decide_eq_true_eq] at h
    have hno : ¬ List.getD o2 pre.length 0 < 0 := by omega
    simp only [groupsFrom, hg, Int.toNat_natCast, hno, decide_false, Bool.and_false, Bool.false_eq_true, if_false]
    exact ih0
   ·simp only [ge_iff_le, decide_eq_true_eq] at h
    have hno : List.getD o2 pre.length 0 < 0 := by omega
    have hul := ZBZ (List.set o2 pre.length v)
    rw [List.length_set, h2, ← hpr] at hul
    have h4 := ZhJ b hb v hv (pre ++ x :: r) ((pre ++ x :: r).length : Int) (pre.length : Int) 200 (List.set o2 pre.length v) [(pre.length : Int)] [] (fun m hm => by rw [List.mem_singleton.1 hm, ← hpr]; exact ⟨by omega, hlt⟩) (by rw [List.length_set]; exact h2) (by simp; omega) (by simp; omega)
    refine Ev.bind h4 ?_
    have ih := ZcT b hb r (pre ++ [x]) (bfs b v 200 (List.set o2 pre.length v) [(pre.length : Int)]) (v + 1) (by rw [← hpr]; simp) (by rw [Zgj, List.length_set]; exact h2) (by omega) (by simp; omega)
    rw [← Z6, hc] at ih
    show Ev (fun k => Z24 k b.1 b.2.1 b.2.2 (bfs b v 200 (List.set o2 pre.length v) [(pre.length : Int)]) (wrap64 (v + 1)) (pre ++ x :: r) ((pre ++ x :: r).length : Int) (wrap64 ((pre.length : Int) + 1))) _
    rw [w64 (n := v + 1) (by omega) (by omega), hn, hc]
    simp only [groupsFrom, hg, Int.toNat_natCast, hno, decide_true, Bool.and_self, if_true]
    exact ih
theorem Zlg (b : BoardD) (hb : boardOK b = true) : Ev (fun k => Z2f k b) (groupsOf b) := by
 obtain ⟨g1, g2, g3, g4, g5, g6⟩ := Zr hb
 have hp := ZU g1 g2 g3 g4
 have hm : b.2.2.length * 8 ≤ 281474976710656 := by omega
 refine Ev.succ ?_
 simp only [Z2f, Int.toNat_natCast, hm, if_true]
 refine Ev.bind (Zi0 b _ (List.replicate b.2.2.length 0) [] rfl (by simp; omega)) ?_
 have hrep : ([] : List Int) ++ List.replicate (List.replicate b.2.2.length (0 : Int)).length (-1) = List.replicate b.2.2.length (-1) := by simp
 rw [hrep]
 exact Ev.bind (ZcT b hb b.2.2 [] (List.replicate b.2.2.length (-1)) 0 rfl (by simp) (by omega) (by simp)) (Ev.some _)
end Go.Proofs.Ytglkedenkcpcbaa.Vs

set_option linter.unusedVariables false
set_option linter.unusedSimpArgs false
namespace Go.Proofs.Ytglkedenkcpcbaa.Vs
open Go.RowKit
def fits (x : CellD) (kd : Int) : Bool := decide (kd = 2) || (decide (kd = 1) && turning x) || (decide (kd = 3) && (turning x || decide (x.1 = 1 ∨ x.1 = 2)))
def faultsOK (b : BoardD) : Int → List FaultD → Bool
 | _, [] => true
 | last, x :: r => decide (0 ≤ x.2.1 ∧ x.2.1 < b.1 ∧ 0 ≤ x.2.2 ∧ x.2.2 < b.2.1 ∧ last < x.2.1 * b.2.1 + x.2.2) && fits (List.getD b.2.2 (x.2.1 * b.2.1 + x.2.2).toNat (0, 0)) x.1 && faultsOK b (x.2.1 * b.2.1 + x.2.2) r
end Go.Proofs.Ytglkedenkcpcbaa.Vs

set_option linter.unusedVariables false
set_option linter.unusedSimpArgs false
namespace Go.Proofs.Ytglkedenkcpcbaa.Vs
open Go.RowKit
def placeOf (b : BoardD) (f : FaultD) : Int := f.2.1 * b.2.1 + f.2.2
def kindsOf (b : BoardD) (l : List FaultD) (K : List Int) : List Int := l.foldl (fun K f => List.set K (placeOf b f).toNat f.1) K
def faAtD (r c d : Int) : List FaultD → Int
 | [] => d
 | f :: l => if f.2.1 = r ∧ f.2.2 = c then f.1 else faAtD r c d l
theorem Zdq {b : BoardD} {last : Int} {f : FaultD} {l : List FaultD} (h : faultsOK b last (f :: l) = true) : (0 ≤ f.2.1 ∧ f.2.1 < b.1 ∧ 0 ≤ f.2.2 ∧ f.2.2 < b.2.1 ∧ last < placeOf b f) ∧ faultsOK b (placeOf b f) l = true := by
 simp only [faultsOK, Bool.and_eq_true, decide_eq_true_eq] at h
 exact ⟨h.1.1, h.2⟩
theorem ZyW {b : BoardD} : ∀ {l : List FaultD} {last : Int}, faultsOK b last l = true → ∀ f ∈ l, 0 ≤ f.2.1 ∧ f.2.1 < b.1 ∧ 0 ≤ f.2.2 ∧ f.2.2 < b.2.1
 | [], _, _, f, hf => by cases hf
 | g :: l, last, h, f, hf => by
  obtain ⟨h1, h2⟩ := Zdq h
  rcases List.mem_cons.1 hf with rfl | hf
  ·exact ⟨h1.1, h1.2.1, h1.2.2.1, h1.2.2.2.1⟩
  ·exact ZyW h2 f hf
theorem ZyH {C r c r' c' : Int} (h1 : 0 ≤ c) (h2 : c < C) (h3 : 0 ≤ c') (h4 : c' < C) (h : r * C + c = r' * C + c') : r = r' ∧ c = c' := by
 have key : ∀ {x y : Int}, x < y → x * C + C ≤ y * C := by
  intro x y hxy
  have := Int.mul_le_mul_of_nonneg_right (show x + 1 ≤ y by omega) (show 0 ≤ C by omega)
  rw [Int.add_mul, Int.one_mul] at this
  exact this
 rcases Int.lt_trichotomy r r' with hr | hr | hr
 ·have := key hr; omega
 ·subst hr; omega
 ·have := key hr; omega
theorem Zut {b : BoardD} {r c : Int} (d : Int) : ∀ {l : List FaultD} {last : Int}, faultsOK b last l = true → r * b.2.1 + c ≤ last → faAtD r c d l = d
 | [], _, _, _ => rfl
 | f :: l, last, h, hp => by
  obtain ⟨h1, h2⟩ := Zdq h
  unfold placeOf at h1 h2
  simp only [faAtD]
  rw [if_neg (by rintro ⟨rfl, rfl⟩; omega)]
  exact Zut d h2 (by omega)
theorem Zdj {α : Type} (l : List α) (i j : Nat) (x d : α) (hi : i < l.length) : List.getD (List.set l i x) j d = if i = j then x else List.getD l j d := by
 simp only [List.getD, List.getElem?_set]
 by_cases h : i = j
 ·subst h; simp [hi]
 ·simp [h]
theorem ZwX {b : BoardD} (hb : boardOK b = true) {r c : Int} (h1 : 0 ≤ r) (h2 : r < b.1) (h3 : 0 ≤ c) (h4 : c < b.2.1) : ∀ {l : List FaultD} {last : Int} {K : List Int}, faultsOK b last l = true → K.length = b.2.2.length → List.getD (kindsOf b l K) (r * b.2.1 + c).toNat 0 = faAtD r c (List.getD K (r * b.2.1 + c).toNat 0) l
 | [], _, _, _, _ => rfl
 | f :: l, last, K, h, hK => by
  obtain ⟨g1, g2⟩ := Zdq h
  have hp := Zgc hb h1 h2 h3 h4
  have hf := Zgc hb g1.1 g1.2.1 g1.2.2.1 g1.2.2.2.1
  show List.getD (kindsOf b l (List.set K (placeOf b f).toNat f.1)) _ 0 = _
  rw [ZwX hb h1 h2 h3 h4 g2 (by rw [List.length_set]; exact hK)]
  rw [Zdj _ _ _ _ _ (by unfold placeOf; omega)]
  simp only [faAtD]
  by_cases hm : f.2.1 = r ∧ f.2.2 = c
  ·rw [if_pos hm, if_pos (by unfold placeOf; rw [hm.1, hm.2])]
   exact Zut _ g2 (by unfold placeOf; rw [hm.1, hm.2]; omega)
  ·rw [if_neg hm, if_neg (fun he => hm (ZyH g1.2.2.1 g1.2.2.2.1 h3 h4 (by unfold placeOf at he; omega)))]
def kindsB (b : BoardD) (l : List FaultD) : List Int := kindsOf b l (List.replicate b.2.2.length 0)
def flip1 (x : CellD) : CellD := (x.1, 1 - x.2)
def turnGo (G K : List Int) (at' : Nat) (ka : Int) : Nat → List CellD → List CellD
 | _, [] => []
 | i, x :: r => (if (i = at' ∨ (ka = 6 ∧ x.1 = 6 ∧ List.getD G i 0 = List.getD G at' 0)) ∧ List.getD K i 0 ≠ 1 then flip1 x else x) :: turnGo G K at' ka (i + 1) r
def passGo (G : List Int) (ga : Int) : Nat → List CellD → List CellD
 | _, [] => []
 | i, x :: r => (if x.1 = 6 ∧ List.getD G i 0 = ga then flip1 x else x) :: passGo G ga (i + 1) r
theorem ZdW {x : CellD} (h : cellOK x = true) : 0 ≤ x.1 ∧ x.1 ≤ 7 ∧ (x.2 = 0 ∨ x.2 = 1) := by
 unfold cellOK at h
 simp only [decide_eq_true_eq] at h
 omega
def turnAt (G K : List Int) (at' : Nat) (o : List CellD) : List CellD := turnGo G K at' (List.getD o at' (0, 0)).1 0 o
theorem Zpd (x : CellD) (h : cellOK x = true) : Ev (fun k => Z5m k x) (flip1 x) := by
 obtain ⟨c1, c2, c3⟩ := ZdW h
 refine Ev.succ ?_
 simp only [Z5m]
 rw [w64 (n := 1 - x.2) (by omega) (by omega)]
 exact Ev.some _
theorem Zlw (R C : Int) (G : List Int) (at' : Nat) : ∀ (r pre : List CellD), (pre ++ r).length ≤ 1000 → at' < (pre ++ r).length → G.length = (pre ++ r).length → (∀ x ∈ r, cellOK x = true) →
    Ev (fun k => Z30 k (pre ++ r) R C G (at' : Int) ((pre ++ r).length : Int) (pre.length : Int)) (pre ++ passGo G (List.getD G at' 0) pre.length r)
  | [], pre, hl, ha, hG, hx => by
    refine Ev.succ ?_
    simp only [Z30, Zx, decide_false, Bool.false_eq_true, if_false, passGo]
    exact Ev.some _
  | x :: r, pre, hl, ha, hG, hx => by
    have hn := Zj pre x r (by omega)
    have hlt := Zk pre x r
    have hGl : (pre.length : Int) < (G.length : Int) := by rw [hG]; exact hlt
    have ha0 : (0 : Int) ≤ (at' : Int) := Int.natCast_nonneg _
    have ha1 : (at' : Int) < ((pre ++ x :: r).length : Int) := by omega
    have haG : (at' : Int) < (G.length : Int) := by rw [hG]; exact ha1
    have hr' : ∀ y ∈ r, cellOK y = true := fun y hy => hx y (List.mem_cons_of_mem _ hy)
    have next : ∀ y : CellD, Ev (fun k => Z30 k (pre ++ y :: r) R C G (at' : Int) ((pre ++ x :: r).length : Int) ((pre ++ [x]).length : Int)) (pre ++ y :: passGo G (List.getD G at' 0) (pre.length + 1) r) := by
      intro y
      have ih := Zlw R C G at' r (pre ++ [y]) (by simpa using hl) (by simpa using ha) (by simpa using hG) hr'
      have e1 : ((pre ++ [y] ++ r).length : Int) = ((pre ++ x :: r).length : Int) := by simp
      have e2 : ((pre ++ [y]).length : Int) = ((pre ++ [x]).length : Int) := by simp
      have e3 : (pre ++ [y]).length = pre.length + 1 := by simp
      rw [e1, e2, e3, ← Z6, ← Z6] at ih
      exact ih
    refine Ev.succ ?_
    simp only [Z30, Zk, ZA, decide_true, if_true, Int.toNat_natCast, Za, Za6, hn, hGl, ha0, haG]
    simp only [passGo]
    refine Ev.ite (fun h1 => Ev.ite (fun h2 => ?_) (fun h2 => ?_)) (fun h1 => ?_)
    · simp only [decide_eq_true_eq] at h1 h2
      rw [if_pos ⟨h1, h2⟩]
      exact Ev.bind (Zpd x (hx x (List.mem_cons_self ..))) (next (flip1 x))
    · simp only [decide_eq_true_eq] at h2
      rw [if_neg (fun hc => h2 hc.2)]
      exact next x
    · simp only [decide_eq_true_eq] at h1
      rw [if_neg (fun hc => h1 hc.1)]
      exact next x
def passAt (G : List Int) (at' : Nat) (o : List CellD) : List CellD := if (List.getD o at' (0, 0)).1 = 3 then List.set o at' (flip1 (List.getD o at' (0, 0))) else if (List.getD o at' (0, 0)).1 = 6 then passGo G (List.getD G at' 0) 0 o else o
theorem Zz3 (R C : Int) (o : List CellD) (G : List Int) (at' : Nat) (hl : o.length ≤ 1000) (ha : at' < o.length) (hG : G.length = o.length) (hx : ∀ x ∈ o, cellOK x = true) : Ev (fun k => Zb4 k (R, C, o) G (at' : Int)) (passAt G at' o) := by
 have ha0 : (0 : Int) ≤ (at' : Int) := Int.natCast_nonneg _
 have ha1 : (at' : Int) < (o.length : Int) := by omega
 refine Ev.succ ?_
 simp only [Zb4, ha0, ha1, if_true, Int.toNat_natCast]
 unfold passAt
 refine Ev.ite (fun h1 => ?_) (fun h1 => Ev.ite (fun h2 => ?_) (fun h2 => ?_))
 ·simp only [decide_eq_true_eq] at h1
  rw [if_pos h1]
  exact Ev.bind (Zpd _ (hx _ (Z8z ha0 ha1 _))) (Ev.some _)
 ·simp only [decide_eq_true_eq] at h1 h2
  rw [if_neg h1, if_pos h2]
  exact Ev.bind (Zlw R C G at' o [] hl ha hG hx) (Ev.some _)
 ·simp only [decide_eq_true_eq] at h1 h2
  rw [if_neg h1, if_neg h2]
  exact Ev.some _
theorem ZoA (G K : List Int) (at' : Nat) (ka : Int) : ∀ (l : List CellD) (i : Nat), (turnGo G K at' ka i l).length = l.length
 | [], _ => rfl
 | x :: r, i => by simp [turnGo, ZoA G K at' ka r]
theorem Zxy (G : List Int) (ga : Int) : ∀ (l : List CellD) (i : Nat), (passGo G ga i l).length = l.length
 | [], _ => rfl
 | x :: r, i => by simp [passGo, Zxy G ga r]
theorem Zc4 (G K : List Int) (at' : Nat) (ka : Int) : ∀ (l : List CellD) (j i : Nat), (turnGo G K at' ka j l)[i]? = l[i]?.map fun x => if (j + i = at' ∨ (ka = 6 ∧ x.1 = 6 ∧ List.getD G (j + i) 0 = List.getD G at' 0)) ∧ List.getD K (j + i) 0 ≠ 1 then flip1 x else x
 | [], _, i => by simp [turnGo]
 | x :: r, j, 0 => by simp [turnGo]
 | x :: r, j, i + 1 => by
  simp only [turnGo, List.getElem?_cons_succ]
  rw [Zc4 G K at' ka r (j + 1) i, show j + 1 + i = j + (i + 1) by omega]
theorem ZyO (G : List Int) (ga : Int) : ∀ (l : List CellD) (j i : Nat), (passGo G ga j l)[i]? = l[i]?.map fun x => if x.1 = 6 ∧ List.getD G (j + i) 0 = ga then flip1 x else x
 | [], _, i => by simp [passGo]
 | x :: r, j, 0 => by simp [passGo]
 | x :: r, j, i + 1 => by
  simp only [passGo, List.getElem?_cons_succ]
  rw [ZyO G ga r (j + 1) i, show j + 1 + i = j + (i + 1) by omega]
def restore (b : BoardD) (l : List FaultD) (o : List CellD) : List CellD := l.foldl (fun o f => if f.1 = 1 then List.set o (placeOf b f).toNat (List.getD b.2.2 (placeOf b f).toNat (0, 0)) else o) o
theorem Zuv (b : BoardD) : ∀ (l : List FaultD) (o : List CellD), (restore b l o).length = o.length
 | [], _ => rfl
 | f :: l, o => by
  show (restore b l (if f.1 = 1 then _ else _)).length = _
  rw [Zuv b l]
  split <;> simp
theorem Zoj (b : BoardD) : ∀ (l : List FaultD) (o : List CellD) (i : Nat), i < o.length → (restore b l o)[i]? = if ∃ f ∈ l, f.1 = 1 ∧ (placeOf b f).toNat = i then some (List.getD b.2.2 i (0, 0)) else o[i]?
  | [], o, i, hi => by rw [if_neg (by rintro ⟨f, hf, _⟩; cases hf)]; rfl
  | f :: l, o, i, hi => by
    show (restore b l (if f.1 = 1 then _ else _))[i]? = _
    by_cases hf : f.1 = 1
    · rw [if_pos hf, Zoj b l _ i (by rw [List.length_set]; exact hi)]
      by_cases h : ∃ g ∈ l, g.1 = 1 ∧ (placeOf b g).toNat = i
      · rw [if_pos h]
        obtain ⟨g, hg, h2⟩ := h
        rw [if_pos ⟨g, List.mem_cons_of_mem _ hg, h2⟩]
      · rw [if_neg h]
        by_cases hp : (placeOf b f).toNat = i
        · rw [if_pos ⟨f, List.mem_cons_self .., hf, hp⟩, hp, List.getElem?_set_self hi]
        · rw [List.getElem?_set_ne hp, if_neg (by
            rintro ⟨g, hg, h2, h3⟩
            rcases List.mem_cons.1 hg with rfl | hg
            · exact hp h3
            · exact h ⟨g, hg, h2, h3⟩)]
    · rw [if_neg hf, Zoj b l o i hi]
      by_cases h : ∃ g ∈ l, g.1 = 1 ∧ (placeOf b g).toNat = i
      · rw [if_pos h]
        obtain ⟨g, hg, h2⟩ := h
        rw [if_pos ⟨g, List.mem_cons_of_mem _ hg, h2⟩]
      · rw [if_neg h, if_neg (by
            rintro ⟨g, hg, h2, h3⟩
            rcases List.mem_cons.1 hg with rfl | hg
            · exact hf h2
            · exact h ⟨g, hg, h2, h3⟩)]
theorem Zyy {r c : Int} : ∀ {l : List FaultD} {f : FaultD}, f ∈ l → f.2.1 = r → f.2.2 = c → ∀ {b : BoardD} {last : Int}, faultsOK b last l = true → faAtD r c 0 l = f.1
 | g :: l, f, hf, h1, h2, b, last, hok => by
  obtain ⟨k1, k2⟩ := Zdq hok
  simp only [faAtD]
  rcases List.mem_cons.1 hf with rfl | hf
  ·rw [if_pos ⟨h1, h2⟩]
  ·have hno : ¬ (g.2.1 = r ∧ g.2.2 = c) := by
    rintro ⟨e1, e2⟩
    have key : ∀ {l : List FaultD} {last : Int}, faultsOK b last l = true → ∀ f ∈ l, last < placeOf b f := by
     intro l
     induction l with
     | nil => intro last _ f hf; cases hf
     | cons g l ih =>
      intro last h f hf
      obtain ⟨a1, a2⟩ := Zdq h
      rcases List.mem_cons.1 hf with rfl | hf
      ·exact a1.2.2.2.2
      ·have := ih a2 f hf; omega
    have := key k2 f hf
    unfold placeOf at this
    rw [h1, h2, e1, e2] at this
    omega
   rw [if_neg hno]
   exact Zyy hf h1 h2 k2
theorem ZyK {r c : Int} : ∀ {l : List FaultD}, faAtD r c 0 l = 1 → ∃ f ∈ l, f.1 = 1 ∧ f.2.1 = r ∧ f.2.2 = c
 | [], h => by simp [faAtD] at h
 | f :: l, h => by
  simp only [faAtD] at h
  split at h
  ·rename_i hm
   exact ⟨f, List.mem_cons_self .., h, hm.1, hm.2⟩
  ·obtain ⟨g, hg, h2⟩ := ZyK h
   exact ⟨g, List.mem_cons_of_mem _ hg, h2⟩
theorem ZCP {b : BoardD} (hb : boardOK b = true) {l : List FaultD} (hl : faultsOK b (-1) l = true) {i : Nat} (hi : i < b.2.2.length) : List.getD (kindsB b l) i 0 = 1 ↔ ∃ f ∈ l, f.1 = 1 ∧ (placeOf b f).toNat = i := by
 obtain ⟨q, m, t, hq, hm, k1, k2, k3, k4, k5, k6, k7, k8, k9⟩ := Zgt hb (i := (i : Int)) (by omega) (by omega)
 have hC : 0 < b.2.1 := by omega
 have e0 : Int.tdiv (i : Int) b.2.1 = (i : Int) / b.2.1 := Int.tdiv_eq_ediv_of_nonneg (by omega)
 have e1 : Int.tmod (i : Int) b.2.1 = (i : Int) % b.2.1 := Int.tmod_eq_emod_of_nonneg (by omega)
 have e2 := Int.mul_ediv_add_emod (i : Int) b.2.1
 rw [← e0, ← e1, hq, hm] at e2
 have hi2 : (i : Int) = q * b.2.1 + m := by rw [Int.mul_comm]; omega
 have hi3 : i = (q * b.2.1 + m).toNat := by omega
 have hk : List.getD (kindsB b l) i 0 = faAtD q m 0 l := by
  unfold kindsB
  rw [hi3, ZwX hb k4 k5 k2 k3 hl (by simp)]
  congr 1
  simp only [List.getD, List.getElem?_replicate]
  split <;> rfl
 rw [hk]
 constructor
 ·intro h
  obtain ⟨f, hf, h1, h2, h3⟩ := ZyK h
  exact ⟨f, hf, h1, by unfold placeOf; rw [h2, h3]; exact hi3.symm⟩
 ·rintro ⟨f, hf, h1, h2⟩
  obtain ⟨o1, o2, o3, o4⟩ := ZyW hl f hf
  have hp := Zgc hb o1 o2 o3 o4
  have := ZyH o3 o4 k2 k3 (show f.2.1 * b.2.1 + f.2.2 = q * b.2.1 + m by unfold placeOf at h2; omega)
  rw [Zyy hf this.1 this.2 hl, h1]
def stepAt (G K : List Int) (at' : Nat) (o : List CellD) : List CellD := if turning (List.getD o at' (0, 0)) then turnAt G K at' o else o
theorem ZAg {b : BoardD} (hb : boardOK b = true) {l : List FaultD} (hl : faultsOK b (-1) l = true) (G : List Int) {at' : Nat} {o : List CellD} (ho : o.length = b.2.2.length) (ha : at' < o.length) (hs : ∀ i, i < o.length → List.getD (kindsB b l) i 0 = 1 → o[i]? = some (List.getD b.2.2 i (0, 0))) :
    restore b l (passAt G at' o) = stepAt G (kindsB b l) at' o := by
  have hpl : (passAt G at' o).length = o.length := by
    unfold passAt; split
    · simp
    · split
      · exact Zxy _ _ _ _
      · rfl
  apply List.ext_getElem?
  intro i
  rcases Nat.lt_or_ge i o.length with hi | hi
  · rw [Zoj b l _ i (by rw [hpl]; exact hi)]
    have hst := ZCP hb hl (i := i) (by omega)
    have hox : o[i]? = some o[i] := List.getElem?_eq_getElem hi
    have hax : List.getD o at' (0, 0) = o[at'] := by simp [List.getD, List.getElem?_eq_getElem ha]
    by_cases hk : List.getD (kindsB b l) i 0 = 1
    · rw [if_pos (hst.1 hk), ← hs i hi hk]
      unfold stepAt turnAt
      split
      · rw [Zc4, hox, Option.map_some, if_neg (fun hc => hc.2 (by rw [Nat.zero_add]; exact hk))]
      · rfl
    · rw [if_neg (fun h => hk (hst.2 h))]
      unfold stepAt turnAt passAt turning
      rw [hax]
      by_cases h3 : (o[at']).1 = 3
      · simp only [h3, true_or, decide_true, if_true]
        rw [Zc4, hox, Option.map_some, Nat.zero_add]
        by_cases hia : at' = i
        · subst hia
          rw [List.getElem?_set_self hi, if_pos ⟨.inl rfl, hk⟩]
        · have hno : ¬ ((i = at' ∨ ((3 : Int) = 6 ∧ (o[i]).1 = 6 ∧ List.getD G i 0 = List.getD G at' 0)) ∧ List.getD (kindsB b l) i 0 ≠ 1) := by
            rintro ⟨h | ⟨h, _⟩, _⟩
            · exact hia h.symm
            · omega
          rw [List.getElem?_set_ne hia, hox, if_neg hno]
      · by_cases h6 : (o[at']).1 = 6
        · have h36 : ¬ (6 : Int) = 3 := by omega
          simp only [h6, h36, or_true, decide_true, if_true, if_false]
          rw [Zc4, ZyO, hox, Option.map_some, Option.map_some, Nat.zero_add]
          congr 1
          by_cases hc : (o[i]).1 = 6 ∧ List.getD G i 0 = List.getD G at' 0
          · rw [if_pos hc, if_pos ⟨.inr ⟨rfl, hc⟩, hk⟩]
          · rw [if_neg hc, if_neg (by
              rintro ⟨h | ⟨_, h⟩, _⟩
              · subst h; exact hc ⟨h6, rfl⟩
              · exact hc h)]
        · simp only [h3, h6, or_self, decide_false, Bool.false_eq_true, if_false]
  · rw [List.getElem?_eq_none (by rw [Zuv, hpl]; exact hi), List.getElem?_eq_none ?_]
    unfold stepAt turnAt
    split
    · rw [ZoA]; exact hi
    · exact hi
end Go.Proofs.Ytglkedenkcpcbaa.Vs

set_option linter.unusedVariables false
set_option linter.unusedSimpArgs false
namespace Go.Proofs.Ytglkedenkcpcbaa.Vs
open Go.RowKit
abbrev FallD := Int × Int × Int
def goesOf (x : CellD) (side : Int) : Int := if x.1 = 1 then -1 else if x.1 = 2 then 1 else if x.1 = 3 then 2 * x.2 - 1 else if x.1 = 6 then 2 * x.2 - 1 else if x.1 = 4 then 0 - side else 0
theorem ZyR {x : CellD} (hx : cellOK x = true) {side : Int} (h1 : -1 ≤ side) (h2 : side ≤ 1) : -1 ≤ goesOf x side ∧ goesOf x side ≤ 1 := by
 obtain ⟨c1, c2, c3⟩ := ZdW hx
 unfold goesOf
 repeat' split
 all_goals omega
theorem ZAc (x : CellD) (side : Int) (hx : cellOK x = true) (h1 : -1 ≤ side) (h2 : side ≤ 1) : Ev (fun k => ZdS k x side) (if x.1 = 5 then (0, false) else (goesOf x side, true)) := by
 obtain ⟨c1, c2, c3⟩ := ZdW hx
 have n1 : ¬ side < -1 := by omega
 have n2 : ¬ side > 1 := by omega
 refine Ev.succ ?_
 simp only [ZdS]
 refine Ev.bind (ZpK x) ?_
 simp only [hx, Bool.not_true, Bool.false_eq_true, if_false, n1, n2, decide_false]
 rw [w64 (n := 2 * x.2) (by omega) (by omega), w64 (n := 2 * x.2 - 1) (by omega) (by omega), w64 (n := 0 - side) (by omega) (by omega)]
 refine Ev.of ?_
 unfold goesOf
 by_cases a5 : x.1 = 5
 ·simp [a5]
 ·by_cases a1 : x.1 = 1 <;> by_cases a2 : x.1 = 2 <;> by_cases a3 : x.1 = 3 <;> by_cases a6 : x.1 = 6 <;> by_cases a4 : x.1 = 4 <;> simp [a1, a2, a3, a4, a5, a6]
theorem Zzl (x : CellD) (side : Int) (hx : cellOK x = true) (h1 : -1 ≤ side) (h2 : side ≤ 1) : Ev (fun k => Zb5 k x side) (goesOf x side) := by
 obtain ⟨c1, c2, c3⟩ := ZdW hx
 refine Ev.succ ?_
 simp only [Zb5]
 rw [w64 (n := 2 * x.2) (by omega) (by omega), w64 (n := 2 * x.2 - 1) (by omega) (by omega), w64 (n := 0 - side) (by omega) (by omega)]
 refine Ev.of ?_
 unfold goesOf
 by_cases a1 : x.1 = 1 <;> by_cases a2 : x.1 = 2 <;> by_cases a3 : x.1 = 3 <;> by_cases a6 : x.1 = 6 <;> by_cases a4 : x.1 = 4 <;> simp [a1, a2, a3, a4, a6]
theorem ZDc {x : CellD} (hx : cellOK x = true) (h : x.1 = 3 ∨ x.1 = 6) : cellOK (flip1 x) = true := by
 obtain ⟨c1, c2, c3⟩ := ZdW hx
 unfold cellOK flip1
 simp only [decide_eq_true_eq]
 omega
theorem ZDL {α : Type} {l : List α} {x : α} (h : x ∈ l) : ∃ i : Nat, l[i]? = some x := List.getElem?_of_mem h
theorem Zck (G K : List Int) (at' : Nat) (o : List CellD) : (stepAt G K at' o).length = o.length := by
 unfold stepAt turnAt
 split
 ·exact ZoA _ _ _ _ _ _
 ·rfl
theorem Zl3 (G K : List Int) {at' : Nat} {o : List CellD} (hx : ∀ x ∈ o, cellOK x = true) : ∀ x ∈ stepAt G K at' o, cellOK x = true := by
 unfold stepAt turnAt
 split
 ·rename_i ht
  unfold turning at ht
  simp only [decide_eq_true_eq] at ht
  intro y hy
  obtain ⟨i, hi⟩ := ZDL hy
  rw [Zc4] at hi
  obtain ⟨x, h1, h2⟩ := Option.map_eq_some_iff.1 hi
  have hxo := hx x (List.mem_of_getElem? h1)
  split at h2
  ·rename_i hc
   rw [← h2]
   refine ZDc hxo ?_
   rcases hc.1 with h | ⟨_, h, _⟩
   ·rw [Nat.zero_add] at h
    subst h
    simpa [List.getD, h1] using ht
   ·exact .inr h
  ·rw [← h2]; exact hxo
 ·exact hx
def fallL (b : BoardD) (G K : List Int) : Nat → Int → Int → Int → List CellD → LR (Int × List CellD) (FallD × List CellD)
 | 0, _, col, _, o => .go (col, o)
 | n + 1, row, col, side, o =>
  let at' := (row * b.2.1 + col).toNat
  let x := List.getD o at' (0, 0)
  if List.getD K at' 0 = 2 then .ret ((3, row, col), o)
  else if x.1 = 5 then .ret ((2, row, col), o)
  else
   let g := if List.getD K at' 0 = 3 then 0 - goesOf x side else goesOf x side
   if 0 ≤ col + g ∧ col + g < b.2.1 then fallL b G K n (row + 1) (col + g) (0 - g) (stepAt G K at' o) else .ret ((3, row, col + g), stepAt G K at' o)
def LR.map2 {Z R Z' R' : Type} (f : Z → Z') (g : R → R') : LR Z R → LR Z' R'
 | .go z => .go (f z) | .ret r => .ret (g r)
def fallEnd (b : BoardD) (z : LR (Int × List CellD) (FallD × List CellD)) : FallD × List CellD := match z with
 | .go z => ((1, b.1, z.1), z.2)
 | .ret r => r
def fallOf (b : BoardD) (G K : List Int) (col : Int) (o : List CellD) : FallD × List CellD := fallEnd b (fallL b G K b.1.toNat 0 col 0 o)
theorem Zf6 (b : BoardD) (h : b.2.2.length ≤ 1000000) : Ev (fun k => Z84 k b) b := by
 refine Ev.succ ?_
 simp only [Z84, Z78]
 have : 0 + b.2.2.length ≤ 140737488355328 / 16 := by omega
 simp only [this, if_true]
 exact Ev.some _
theorem Zea (b : BoardD) (h : b.2.2.length ≤ 1000000) : Ev (fun k => Z68 k b) b := by
 refine Ev.succ ?_
 simp only [Z68, Z40]
 have : 0 + b.2.2.length ≤ 140737488355328 / 16 := by omega
 simp only [this, if_true]
 exact Ev.some _
theorem Zy7 (b : BoardD) (hb : boardOK b = true) (o : List CellD) (ho : o.length = b.2.2.length) {r c : Int} (h1 : 0 ≤ r) (h2 : r < b.1) (h3 : 0 ≤ c) (h4 : c < b.2.1) : Ev (fun k => Zgn k (b.1, b.2.1, o) r c) (List.getD o (r * b.2.1 + c).toNat (0, 0)) := by
 have hp := Zgc hb h1 h2 h3 h4
 have hpo : r * b.2.1 + c < (o.length : Int) := by omega
 refine Ev.succ ?_
 simp only [Zgn]
 rw [w64 (n := r * b.2.1) (by omega) (by omega), w64 (n := r * b.2.1 + c) (by omega) (by omega)]
 simp only [hp.1, hpo, if_true]
 exact Ev.some _
end Go.Proofs.Ytglkedenkcpcbaa.Vs

set_option linter.unusedVariables false
set_option linter.unusedSimpArgs false
namespace Go.Proofs.Ytglkedenkcpcbaa.Vs
open Go.RowKit
end Go.Proofs.Ytglkedenkcpcbaa.Vs

set_option linter.unusedVariables false
set_option linter.unusedSimpArgs false
namespace Go.Proofs.Ytglkedenkcpcbaa.Vs
open Go.RowKit
abbrev FallT := Int × Int × Int
theorem ZhF (b : BoardD) (c : Int) (hl : b.2.2.length ≤ 9223372036854775806) : Ev (fun k => Z7q k b c) (boardOK b && decide (0 ≤ c ∧ c < b.2.1)) := by
 refine Ev.succ ?_
 simp only [Z7q]
 refine Ev.bind (Zgf b hl) ?_
 cases hb : boardOK b with
 | false => simp only [Bool.false_eq_true, if_false, Bool.false_and]; exact Ev.some _
 | true =>
  simp only [if_true, Bool.true_and]
  refine Ev.of ?_
  by_cases h1 : c ≥ 0 <;> by_cases h2 : c < b.2.1 <;> simp [h1, h2]
  all_goals omega
theorem ZjI (b : BoardD) (c : Int) (hl : b.2.2.length ≤ 9223372036854775806) : Ev (fun k => Z9P k b c) (boardOK b && decide (0 ≤ c ∧ c < b.2.1)) := by
 refine Ev.succ ?_
 simp only [Z9P]
 refine Ev.bind (Zds b hl) ?_
 cases hb : boardOK b with
 | false => simp only [Bool.false_eq_true, if_false, Bool.false_and]; exact Ev.some _
 | true =>
  obtain ⟨g1, g2, g3, g4, g5, g6⟩ := Zr hb
  simp only [if_true, Bool.true_and]
  rw [w64 (n := b.2.1 - 1) (by omega) (by omega)]
  refine Ev.bind (Zb8 _ _ _) (Ev.of ?_)
  have : (0 ≤ c ∧ c ≤ b.2.1 - 1) ↔ (0 ≤ c ∧ c < b.2.1) := by omega
  simp only [this]
def faRunOf (b : BoardD) (l : List FaultD) (c : Int) : FallT × BoardD := ((fallOf b (groupsOf b) (kindsB b l) c b.2.2).1, b.1, b.2.1, (fallOf b (groupsOf b) (kindsB b l) c b.2.2).2)
theorem ZyD (b : BoardD) (G K : List Int) : ∀ (n : Nat) (row col side : Int) (o : List CellD), (fallEnd b (fallL b G K n row col side o)).2.length = o.length
 | 0, _, _, _, _ => rfl
 | n + 1, row, col, side, o => by
  unfold fallL
  dsimp only
  repeat' split
  all_goals first | rfl | (rw [ZyD]; exact Zck _ _ _ _) | exact Zck _ _ _ _
end Go.Proofs.Ytglkedenkcpcbaa.Vs

set_option linter.unusedVariables false
set_option linter.unusedSimpArgs false
namespace Go.Proofs.Ytglkedenkcpcbaa.Vs
open Go.RowKit
theorem Zr4 (G K : List Int) (at' : Nat) (o : List CellD) : (stepAt G K at' o).map Prod.fst = o.map Prod.fst := by
 unfold stepAt turnAt
 split
 ·apply List.ext_getElem?
  intro i
  simp only [List.getElem?_map, Zc4]
  cases o[i]? with
  | none => rfl
  | some x =>
   simp only [Option.map_some]
   split <;> simp [flip1]
 ·rfl
theorem Zmo (b : BoardD) (G K : List Int) : ∀ (n : Nat) (row col side : Int) (o : List CellD), (∀ x ∈ o, cellOK x = true) → (∀ x ∈ (fallEnd b (fallL b G K n row col side o)).2, cellOK x = true) ∧ (fallEnd b (fallL b G K n row col side o)).2.map Prod.fst = o.map Prod.fst
 | 0, _, _, _, o, hx => ⟨hx, rfl⟩
 | n + 1, row, col, side, o, hx => by
  have h1 := Zmo b G K n (row + 1)
  unfold fallL
  dsimp only
  have h2 := Zl3 G K (at' := (row * b.2.1 + col).toNat) hx
  have h3 := Zr4 G K (row * b.2.1 + col).toNat o
  repeat' split
  all_goals first | exact ⟨hx, rfl⟩ | exact ⟨h2, h3⟩ | exact ⟨(h1 _ _ _ h2).1, (h1 _ _ _ h2).2.trans h3⟩
theorem Zst (b : BoardD) (G K : List Int) (c : Int) {o : List CellD} (hx : ∀ x ∈ o, cellOK x = true) : ∀ x ∈ (fallOf b G K c o).2, cellOK x = true := (Zmo b G K _ _ _ _ o hx).1
theorem ZAT (b : BoardD) (G K : List Int) (c : Int) {o : List CellD} (hx : ∀ x ∈ o, cellOK x = true) : (fallOf b G K c o).2.map Prod.fst = o.map Prod.fst := (Zmo b G K _ _ _ _ o hx).2
theorem Zx7 {b b' : BoardD} (h : b.2.1 = b'.2.1) (G K : List Int) : ∀ (n : Nat) (row col side : Int) (o : List CellD), fallL b G K n row col side o = fallL b' G K n row col side o
 | 0, _, _, _, _ => rfl
 | n + 1, row, col, side, o => by simp only [fallL, h, Zx7 h G K n]
theorem ZuL {b b' : BoardD} (h1 : b.1 = b'.1) (h2 : b.2.1 = b'.2.1) (G K : List Int) (c : Int) (o : List CellD) : fallOf b G K c o = fallOf b' G K c o := by
 have : fallEnd b = fallEnd b' := by funext z; cases z <;> simp [fallEnd, h1]
 unfold fallOf
 rw [this, Zx7 h2, h1]
theorem ZuK {b b' : BoardD} (h : b.2.1 = b'.2.1) (hl : b.2.2.length = b'.2.2.length) (l : List FaultD) : kindsB b l = kindsB b' l := by simp only [kindsB, kindsOf, placeOf, h, hl]
theorem Zhe {o o' : List CellD} (h : o.map Prod.fst = o'.map Prod.fst) (i : Nat) : (List.getD o i (0, 0)).1 = (List.getD o' i (0, 0)).1 := by
 have := congrArg (fun l => l[i]?) h
 simp only [List.getElem?_map] at this
 simp only [List.getD]
 cases h1 : o[i]? <;> cases h2 : o'[i]? <;> simp [h1, h2] at this ⊢
 exact this
theorem Zvu {b : BoardD} (hb : boardOK b = true) {o : List CellD} (ho : o.length = b.2.2.length) (hx : ∀ x ∈ o, cellOK x = true) : boardOK (b.1, b.2.1, o) = true := by
 obtain ⟨g1, g2, g3, g4, g5, g6⟩ := Zr hb
 unfold boardOK
 have : (o.length : Int) = b.1 * b.2.1 := by omega
 simp only [g1, g2, g3, g4, this, and_self, decide_true, Bool.true_and]
 exact List.all_eq_true.2 hx
def colsOK (b : BoardD) (l : List Int) : Prop := ∀ c ∈ l, 0 ≤ c ∧ c < b.2.1
theorem Ziu (b : BoardD) (i : Nat) : List.getD (kindsB b []) i 0 = 0 := by
 show List.getD (List.replicate b.2.2.length (0 : Int)) i 0 = 0
 simp only [List.getD, List.getElem?_replicate]
 split <;> rfl
theorem ZyB {b : BoardD} (hb : boardOK b = true) (G : List Int) {at' : Nat} {o : List CellD} (ho : o.length = b.2.2.length) (ha : at' < o.length) : passAt G at' o = stepAt G (kindsB b []) at' o :=
 ZAg (l := []) hb rfl G ho ha (fun i _ h => by rw [Ziu] at h; cases h)
theorem ZpP (b : BoardD) (hb : boardOK b = true) (G : List Int) (hG : G.length = b.2.2.length) (d1 d2 d3 d4 d5 : Int) (o4 : List CellD) : ∀ (n : Nat) (row col side : Int) (o : List CellD) (q : List (List Int)), row + n = b.1 → 0 ≤ row → 0 ≤ col → col < b.2.1 → -1 ≤ side → side ≤ 1 → o.length = b.2.2.length → (∀ x ∈ o, cellOK x = true) → (q.length : Int) = row →
    ∃ p, Ev (fun k => Z5u k b.1 b.2.1 b.2.2 d1 d2 d3 d4 d5 o4 b.1 b.2.1 o q G col side row) ((fallL b G (kindsB b []) n row col side o).map2 (fun z => (b.1, b.2.1, b.2.2, d1, d2, d3, d4, d5, o4, b.1, b.2.1, z.2, p, z.1)) (fun r => (r.1, (b.1, b.2.1, r.2), p)))
  | 0, row, col, side, o, q, hn, hr, hc, hc2, hs, hs2, ho, hx, hq => by
    refine ⟨q, Ev.succ ?_⟩
    have : ¬ row < b.1 := by omega
    simp only [Z5u, this, decide_false, Bool.false_eq_true, if_false, fallL, LR.map2]
    exact Ev.some _
  | n + 1, row, col, side, o, q, hn, hr, hc, hc2, hs, hs2, ho, hx, hq => by
    obtain ⟨g1, g2, g3, g4, g5, g6⟩ := Zr hb
    have hpp := ZU g1 g2 g3 g4
    have hrow : row < b.1 := by omega
    have hp := Zgc hb hr hrow hc hc2
    have hoI : row * b.2.1 + col < (o.length : Int) := by omega
    have hcast : ((row * b.2.1 + col).toNat : Int) = row * b.2.1 + col := Int.toNat_of_nonneg hp.1
    have hxo := hx _ (Z8z hp.1 hoI (0, 0))
    have hgo := ZyR hxo hs hs2
    have hpass := Zz3 b.1 b.2.1 o G (row * b.2.1 + col).toNat (by omega) (by omega) (by omega) hx
    rw [hcast, ZyB hb G ho (by omega)] at hpass
    have hql : q.length + 1 ≤ 140737488355328 / 24 := by omega
    have hk2 : ¬ (0 : Int) = 2 := by omega
    have hk3 : ¬ (0 : Int) = 3 := by omega
    generalize hX : List.getD o (row * b.2.1 + col).toNat (0, 0) = X at *
    have start : ∀ {v : List (List Int) → LR (Int × Int × List CellD × Int × Int × Int × Int × Int × List CellD × Int × Int × List CellD × List (List Int) × Int) (FallD × BoardD × List (List Int))}, (∃ p, Ev (fun k => if decide (X.1 = 5) = true then Option.bind (Z4Z k d1 d2 d3 d4 d5 o4 b.1 b.2.1 o (q ++ [[row, col]]) col row) fun z2 => some (LR.ret ((z2.1, z2.2.1, z2.2.2.1), (z2.2.2.2.1, z2.2.2.2.2.1, z2.2.2.2.2.2.1), z2.2.2.2.2.2.2))
        else Option.bind (Zb5 k X side) fun z3 => Option.bind (Zb4 k (b.1, b.2.1, o) G (row * b.2.1 + col)) fun z4 => Option.bind (Z6g k (wrap64 (col + z3)) (0 : Int) (b.2.1 - 1)) fun z5 => if (!z5) = true then Option.bind (Z54 k d1 d2 d3 d4 d5 o4 b.1 b.2.1 z4 (q ++ [[row, col]]) (wrap64 (col + z3)) row) fun z6 => some (LR.ret ((z6.1, z6.2.1, z6.2.2.1), (z6.2.2.2.1, z6.2.2.2.2.1, z6.2.2.2.2.2.1), z6.2.2.2.2.2.2)) else Z5u k b.1 b.2.1 b.2.2 d1 d2 d3 d4 d5 o4 b.1 b.2.1 z4 (q ++ [[row, col]]) G (wrap64 (col + z3)) (wrap64 ((0 : Int) - z3)) (wrap64 (row + (1 : Int)))) (v p)) →
        ∃ p, Ev (fun k => Z5u k b.1 b.2.1 b.2.2 d1 d2 d3 d4 d5 o4 b.1 b.2.1 o q G col side row) (v p) := by
      rintro v ⟨p, h⟩
      refine ⟨p, Ev.succ ?_⟩
      simp only [Z5u, hrow, decide_true, if_true, List.length_singleton, hql]
      rw [w64 (n := row * b.2.1) (by omega) (by omega), w64 (n := row * b.2.1 + col) (by omega) (by omega), w64 (n := b.2.1 - 1) (by omega) (by omega)]
      have := Zy7 b hb o ho hr hrow hc hc2
      rw [hX] at this
      exact Ev.bind this h
    refine start ?_
    simp only [fallL, hX, Ziu, hk2, hk3, if_false]
    by_cases h5 : X.1 = 5
    · refine ⟨q ++ [[row, col]], ?_⟩
      simp only [h5, decide_true, if_true, Z4Z]
      exact Ev.bind (Ev.some _) (Ev.some _)
    simp only [h5, decide_false, Bool.false_eq_true, if_false]
    generalize hgg : goesOf X side = g at *
    have hgo' := Zzl X side hxo hs hs2
    rw [hgg] at hgo'
    by_cases hin : 0 ≤ col + g ∧ col + g < b.2.1
    · rw [if_pos hin]
      obtain ⟨p, ih⟩ := ZpP b hb G hG d1 d2 d3 d4 d5 o4 n (row + 1) (col + g) (0 - g) (stepAt G (kindsB b []) (row * b.2.1 + col).toNat o) (q ++ [[row, col]]) (by omega) (by omega) (by omega) (by omega) (by omega) (by omega) (by rw [Zck]; exact ho) (Zl3 G _ hx) (by simp; omega)
      refine ⟨p, Ev.bind hgo' (Ev.bind hpass ?_)⟩
      rw [w64 (n := col + g) (by omega) (by omega), w64 (n := 0 - g) (by omega) (by omega), w64 (n := row + 1) (by omega) (by omega)]
      refine Ev.bind (Zb8 _ _ _) (Ev.ite (fun hh => ?_) (fun hh => ih))
      have hh : ¬ (0 ≤ col + g ∧ col + g ≤ b.2.1 - 1) := nd hh
      omega
    · rw [if_neg hin]
      refine ⟨q ++ [[row, col]], Ev.bind hgo' (Ev.bind hpass ?_)⟩
      rw [w64 (n := col + g) (by omega) (by omega)]
      refine Ev.bind (Zb8 _ _ _) (Ev.ite (fun hh => ?_) (fun hh => ?_))
      · simp only [Z54]
        exact Ev.bind (Ev.some _) (Ev.some _)
      · have hh : 0 ≤ col + g ∧ col + g ≤ b.2.1 - 1 := yd hh
        omega
theorem ZBD (b : BoardD) (hb : boardOK b = true) (G : List Int) (hG : G.length = b.2.2.length) (col : Int) (hc : 0 ≤ col) (hc2 : col < b.2.1) : ∃ p, Ev (fun k => Z1R k b G col) ((fallOf b G (kindsB b []) col b.2.2).1, (b.1, b.2.1, (fallOf b G (kindsB b []) col b.2.2).2), p) := by
 obtain ⟨g1, g2, g3, g4, g5, g6⟩ := Zr hb
 have hpp := ZU g1 g2 g3 g4
 obtain ⟨p, h⟩ := ZpP b hb G hG 0 0 0 0 0 [] b.1.toNat 0 col 0 b.2.2 [] (by omega) (by omega) hc hc2 (by omega) (by omega) rfl g6 rfl
 refine ⟨p, Ev.succ ?_⟩
 simp only [Z1R]
 refine Ev.bind (Zf6 b (by omega)) (Ev.bind h ?_)
 unfold fallOf
 cases fallL b G (kindsB b []) b.1.toNat 0 col 0 b.2.2 with
 | go z =>
  refine Ev.go ?_
  simp only [Z6Z]
  exact Ev.bind (Ev.some _) (Ev.some _)
 | ret r => exact Ev.ret (Ev.some _)
theorem ZgG (R C : Int) (G : List Int) (at' : Nat) : ∀ (r pre : List CellD), (pre ++ r).length ≤ 1000 → at' < (pre ++ r).length → G.length = (pre ++ r).length → (∀ x ∈ r, cellOK x = true) →
    Ev (fun k => Z1I k (pre ++ r) R C G (at' : Int) ((pre ++ r).length : Int) (pre.length : Int)) (pre ++ passGo G (List.getD G at' 0) pre.length r)
  | [], pre, hl, ha, hG, hx => by
    refine Ev.succ ?_
    simp only [Z1I, Zx, decide_false, Bool.false_eq_true, if_false, passGo]
    exact Ev.some _
  | x :: r, pre, hl, ha, hG, hx => by
    have hn := Zj pre x r (by omega)
    have hlt := Zk pre x r
    have hGl : (pre.length : Int) < (G.length : Int) := by rw [hG]; exact hlt
    have ha0 : (0 : Int) ≤ (at' : Int) := Int.natCast_nonneg _
    have ha1 : (at' : Int) < ((pre ++ x :: r).length : Int) := by omega
    have haG : (at' : Int) < (G.length : Int) := by rw [hG]; exact ha1
    obtain ⟨c1, c2, c3⟩ := ZdW (hx x (List.mem_cons_self ..))
    have hr' : ∀ y ∈ r, cellOK y = true := fun y hy => hx y (List.mem_cons_of_mem _ hy)
    have next : ∀ y : CellD, Ev (fun k => Z1I k (pre ++ y :: r) R C G (at' : Int) ((pre ++ x :: r).length : Int) ((pre ++ [x]).length : Int)) (pre ++ y :: passGo G (List.getD G at' 0) (pre.length + 1) r) := by
      intro y
      have ih := ZgG R C G at' r (pre ++ [y]) (by simpa using hl) (by simpa using ha) (by simpa using hG) hr'
      have e1 : ((pre ++ [y] ++ r).length : Int) = ((pre ++ x :: r).length : Int) := by simp
      have e2 : ((pre ++ [y]).length : Int) = ((pre ++ [x]).length : Int) := by simp
      have e3 : (pre ++ [y]).length = pre.length + 1 := by simp
      rw [e1, e2, e3, ← Z6, ← Z6] at ih
      exact ih
    refine Ev.succ ?_
    simp only [Z1I, Zk, ZA, decide_true, if_true, Int.toNat_natCast, Za, Za6, hn, hGl, ha0, haG]
    rw [w64 (n := 1 - x.2) (by omega) (by omega)]
    simp only [passGo]
    refine Ev.ite (fun h1 => Ev.ite (fun h2 => ?_) (fun h2 => ?_)) (fun h1 => ?_)
    · simp only [decide_eq_true_eq] at h1 h2
      rw [if_pos ⟨h1, h2⟩]
      exact next (flip1 x)
    · simp only [decide_eq_true_eq] at h2
      rw [if_neg (fun hc => h2 hc.2)]
      exact next x
    · simp only [decide_eq_true_eq] at h1
      rw [if_neg (fun hc => h1 hc.1)]
      exact next x
theorem Zvs (R C : Int) (o : List CellD) (G : List Int) (at' : Nat) (hl : o.length ≤ 1000) (ha : at' < o.length) (hG : G.length = o.length) (hx : ∀ x ∈ o, cellOK x = true) : Ev (fun k => Z85 k (R, C, o) G (at' : Int)) (passGo G (List.getD G at' 0) 0 o) := by
 refine Ev.succ ?_
 simp only [Z85]
 exact Ev.bind (ZgG R C G at' o [] hl ha hG hx) (Ev.some _)
theorem ZpJ (b : BoardD) (hb : boardOK b = true) (G : List Int) (hG : G.length = b.2.2.length) (c0 c1 c2 : Int) : ∀ (n : Nat) (row col side : Int) (o : List CellD) (q : List Int), row + n = b.1 → 0 ≤ row → 0 ≤ col → col < b.2.1 → -1 ≤ side → side ≤ 1 → o.length = b.2.2.length → (∀ x ∈ o, cellOK x = true) → (q.length : Int) = row →
    ∃ p, Ev (fun k => Z2x k o b.1 b.2.1 c0 c1 c2 q G col side row) ((fallL b G (kindsB b []) n row col side o).map2 (fun z => (z.2, b.1, b.2.1, c0, c1, c2, p, z.1)) (fun r => (r.1, p, r.2)))
  | 0, row, col, side, o, q, hn, hr, hc, hc2, hs, hs2, ho, hx, hq => by
    refine ⟨q, Ev.succ ?_⟩
    have : ¬ row < b.1 := by omega
    simp only [Z2x, this, decide_false, Bool.false_eq_true, if_false, fallL, LR.map2]
    exact Ev.some _
  | n + 1, row, col, side, o, q, hn, hr, hc, hc2, hs, hs2, ho, hx, hq => by
    obtain ⟨g1, g2, g3, g4, g5, g6⟩ := Zr hb
    have hpp := ZU g1 g2 g3 g4
    have hrow : row < b.1 := by omega
    have hp := Zgc hb hr hrow hc hc2
    have hoI : row * b.2.1 + col < (o.length : Int) := by omega
    have hcast : ((row * b.2.1 + col).toNat : Int) = row * b.2.1 + col := Int.toNat_of_nonneg hp.1
    have hxo := hx _ (Z8z hp.1 hoI (0, 0))
    have hgo := ZyR hxo hs hs2
    have hgt := ZAc (List.getD o (row * b.2.1 + col).toNat (0, 0)) side hxo hs hs2
    have hturn := Zvs b.1 b.2.1 o G (row * b.2.1 + col).toNat (by omega) (by omega) (by omega) hx
    rw [hcast] at hturn
    have hpass := ZyB hb G ho (show (row * b.2.1 + col).toNat < o.length by omega)
    unfold passAt at hpass
    have hql : q.length + 1 ≤ 140737488355328 / 8 := by omega
    have hk2 : ¬ (0 : Int) = 2 := by omega
    have hk3 : ¬ (0 : Int) = 3 := by omega
    obtain ⟨cc1, cc2, cc3⟩ := ZdW hxo
    simp only [fallL, Ziu, hk2, hk3, if_false]
    generalize hS : stepAt G (kindsB b []) (row * b.2.1 + col).toNat o = S at *
    have hSl : S.length = b.2.2.length := by rw [← hS, Zck]; exact ho
    have hSx : ∀ x ∈ S, cellOK x = true := by rw [← hS]; exact Zl3 G _ hx
    generalize hX : List.getD o (row * b.2.1 + col).toNat (0, 0) = X at *
    by_cases h5 : X.1 = 5
    · refine ⟨q ++ [row * b.2.1 + col], Ev.succ ?_⟩
      simp only [Z2x, hrow, decide_true, if_true, List.length_singleton, hql]
      rw [w64 (n := row * b.2.1) (by omega) (by omega), w64 (n := row * b.2.1 + col) (by omega) (by omega)]
      simp only [hp.1, hoI, if_true, hX]
      refine Ev.bind hgt ?_
      simp only [h5, if_true, Bool.not_false]
      exact Ev.some _
    simp only [h5, if_false] at hgt ⊢
    generalize goesOf X side = g at *
    have tail : ∃ p, ∀ o', o' = S → Ev (fun k => if decide (wrap64 (col + g) < 0) = true then some (LR.ret ((3, row, wrap64 (col + g)), q ++ [row * b.2.1 + col], o')) else if decide (wrap64 (col + g) ≥ b.2.1) = true then some (LR.ret ((3, row, wrap64 (col + g)), q ++ [row * b.2.1 + col], o')) else Z2x k o' b.1 b.2.1 c0 c1 c2 (q ++ [row * b.2.1 + col]) G (wrap64 (col + g)) (wrap64 (0 - g)) (wrap64 (row + 1)))
        (LR.map2 (fun z => (z.2, b.1, b.2.1, c0, c1, c2, p, z.1)) (fun r => (r.1, p, r.2)) (if 0 ≤ col + g ∧ col + g < b.2.1 then fallL b G (kindsB b []) n (row + 1) (col + g) (0 - g) S else .ret ((3, row, col + g), S))) := by
      rw [w64 (n := col + g) (by omega) (by omega), w64 (n := 0 - g) (by omega) (by omega), w64 (n := row + 1) (by omega) (by omega)]
      by_cases hin : 0 ≤ col + g ∧ col + g < b.2.1
      · obtain ⟨p, ih⟩ := ZpJ b hb G hG c0 c1 c2 n (row + 1) (col + g) (0 - g) S (q ++ [row * b.2.1 + col]) (by omega) (by omega) (by omega) (by omega) (by omega) (by omega) hSl hSx (by simp; omega)
        refine ⟨p, fun o' ho' => ?_⟩
        subst ho'
        rw [if_pos hin]
        refine Ev.ite (fun h => ?_) (fun _ => Ev.ite (fun h => ?_) (fun _ => ih))
        · simp only [decide_eq_true_eq] at h; omega
        · simp only [decide_eq_true_eq] at h; omega
      · refine ⟨q ++ [row * b.2.1 + col], fun o' ho' => ?_⟩
        subst ho'
        rw [if_neg hin]
        refine Ev.ite (fun _ => Ev.some _) (fun h => Ev.ite (fun _ => Ev.some _) (fun h2 => ?_))
        simp only [decide_eq_true_eq] at h h2
        omega
    obtain ⟨p, tail⟩ := tail
    refine ⟨p, Ev.succ ?_⟩
    simp only [Z2x, hrow, decide_true, if_true, List.length_singleton, hql]
    rw [w64 (n := row * b.2.1) (by omega) (by omega), w64 (n := row * b.2.1 + col) (by omega) (by omega)]
    simp only [hp.1, hoI, if_true, hX]
    rw [w64 (n := 1 - X.2) (by omega) (by omega)]
    refine Ev.bind hgt ?_
    simp only [Bool.not_true, Bool.false_eq_true, if_false]
    by_cases h3 : X.1 = 3
    · have h36 : ¬ (3 : Int) = 6 := by omega
      simp only [h3, decide_true, if_true, h36, decide_false, Bool.false_eq_true, if_false]
      rw [if_pos h3] at hpass
      refine tail _ ?_
      rw [← hpass]
      simp [flip1, h3]
    · simp only [h3, decide_false, Bool.false_eq_true, if_false]
      rw [if_neg h3] at hpass
      by_cases h6 : X.1 = 6
      · simp only [h6, decide_true, if_true]
        rw [if_pos h6] at hpass
        exact Ev.bind hturn (tail _ hpass)
      · simp only [h6, decide_false, Bool.false_eq_true, if_false]
        rw [if_neg h6] at hpass
        exact tail _ hpass
theorem Zun (b : BoardD) (hb : boardOK b = true) (G : List Int) (hG : G.length = b.2.2.length) (col : Int) (hc : 0 ≤ col) (hc2 : col < b.2.1) (o : List CellD) (ho : o.length = b.2.2.length) (hx : ∀ x ∈ o, cellOK x = true) : ∃ p, Ev (fun k => Zdp k (b.1, b.2.1, o) G col) ((fallOf b G (kindsB b []) col o).1, p, (fallOf b G (kindsB b []) col o).2) := by
 obtain ⟨g1, g2, g3, g4, g5, g6⟩ := Zr hb
 obtain ⟨p, h⟩ := ZpJ b hb G hG 0 0 0 b.1.toNat 0 col 0 o [] (by omega) (by omega) hc hc2 (by omega) (by omega) ho hx rfl
 refine ⟨p, Ev.succ ?_⟩
 simp only [Zdp]
 refine Ev.bind h ?_
 unfold fallOf
 cases fallL b G (kindsB b []) b.1.toNat 0 col 0 o with
 | go z => exact Ev.go (Ev.some _)
 | ret r => exact Ev.ret (Ev.some _)
end Go.Proofs.Ytglkedenkcpcbaa.Vs

set_option linter.unusedVariables false
set_option linter.unusedSimpArgs false
namespace Go.Proofs.Ytglkedenkcpcbaa.Vs
open Go.RowKit
theorem Zus {x y : CellD} (h : x.1 = y.1) : geared x = geared y := by unfold geared; rw [h]
theorem ZBF {b b' : BoardD} (h1 : b.1 = b'.1) (h2 : b.2.1 = b'.2.1) (i : Int) : nears b i = nears b' i := by unfold nears; rw [h1, h2]
theorem ZBJ {b b' : BoardD} (h : b.2.2.map Prod.fst = b'.2.2.map Prod.fst) (v : Int) : visit b v = visit b' v := by
 funext G n
 unfold visit
 rw [Zus (Zhe h n.toNat)]
theorem ZyP {b b' : BoardD} (h1 : b.1 = b'.1) (h2 : b.2.1 = b'.2.1) (h : b.2.2.map Prod.fst = b'.2.2.map Prod.fst) (v : Int) : ∀ (n : Nat) (o q : List Int), bfs b v n o q = bfs b' v n o q
 | 0, o, q => rfl
 | _ + 1, o, [] => rfl
 | n + 1, o, x :: q => by simp only [bfs]; rw [ZBF h1 h2, ZBJ h, ZyP h1 h2 h v n]
theorem Zec {b b' : BoardD} (h1 : b.1 = b'.1) (h2 : b.2.1 = b'.2.1) (h : b.2.2.map Prod.fst = b'.2.2.map Prod.fst) : ∀ (r r' : List CellD) (i : Int) (o : List Int) (v : Int), r.map Prod.fst = r'.map Prod.fst → groupsFrom b i r o v = groupsFrom b' i r' o v
 | [], [], i, o, v, hr => rfl
 | [], y :: r', i, o, v, hr => by simp at hr
 | x :: r, [], i, o, v, hr => by simp at hr
 | x :: r, y :: r', i, o, v, hr => by
  simp only [List.map_cons, List.cons.injEq] at hr
  simp only [groupsFrom]
  rw [Zus hr.1, ZyP h1 h2 h, Zec h1 h2 h r r' _ _ _ hr.2, Zec h1 h2 h r r' _ _ _ hr.2]
theorem Z9T {o o' : List CellD} (h : o.map Prod.fst = o'.map Prod.fst) : o.length = o'.length := by
 have := congrArg List.length h
 simpa using this
theorem Znn {b b' : BoardD} (h1 : b.1 = b'.1) (h2 : b.2.1 = b'.2.1) (h : b.2.2.map Prod.fst = b'.2.2.map Prod.fst) : groupsOf b = groupsOf b' := by
 unfold groupsOf
 rw [Z9T h, Zec h1 h2 h _ _ _ _ _ h]
def Told (o o' : List Int) : Prop := ∀ j : Nat, j < o.length → 0 ≤ List.getD o j 0 → 0 ≤ List.getD o' j 0
theorem Told.set {o : List Int} {v : Int} (hv : 0 ≤ v) (i : Nat) : Told o (List.set o i v) := by
 intro j hj h
 by_cases hi : i < o.length
 ·rw [Zdj o i j v 0 hi]
  split
  ·exact hv
  ·exact h
 ·rw [List.set_eq_of_length_le (by omega)]
  exact h
theorem Told.trans {o o' o2 : List Int} (h : Told o o') (hl : o'.length = o.length) (h2 : Told o' o2) : Told o o2 := fun j hj h0 => h2 j (by omega) (h j hj h0)
theorem ZCh (b : BoardD) {v : Int} (hv : 0 ≤ v) (G : List Int × List Int) (n : Int) : Told G.1 (visit b v G n).1 := by
 unfold visit
 split
 ·exact Told.set hv _
 ·exact fun _ _ h => h
theorem ZuC (b : BoardD) {v : Int} (hv : 0 ≤ v) : ∀ (r : List Int) (G : List Int × List Int), Told G.1 (r.foldl (visit b v) G).1
 | [], G => fun _ _ h => h
 | n :: r, G => (ZCh b hv G n).trans (ZsA b v G n) (ZuC b hv r _)
theorem ZvW (b : BoardD) {v : Int} (hv : 0 ≤ v) : ∀ (n : Nat) (o q : List Int), Told o (bfs b v n o q)
 | 0, o, q => fun _ _ h => h
 | _ + 1, o, [] => fun _ _ h => h
 | n + 1, o, x :: q => by
  simp only [bfs]
  exact (ZuC b hv (nears b x) (o, [])).trans (ZeJ b v _ _) (ZvW b hv n _ _)
theorem Zbx (b : BoardD) : ∀ (r : List CellD) (i : Int) (o : List Int) (v : Int), 0 ≤ v → Told o (groupsFrom b i r o v)
 | [], i, o, v, hv => fun _ _ h => h
 | x :: r, i, o, v, hv => by
  simp only [groupsFrom]
  split
  ·exact ((Told.set hv _).trans (by simp) ((ZvW b hv 200 _ _))).trans (by rw [Zgj]; simp) (Zbx b r _ _ _ (by omega))
  ·exact Zbx b r _ _ _ hv
theorem ZhX (b : BoardD) : ∀ (r pre : List CellD) (o : List Int) (v : Int), 0 ≤ v → o.length = (pre ++ r).length → ∀ j : Nat, j < r.length → geared (List.getD r j (0, 0)) = true → 0 ≤ List.getD (groupsFrom b pre.length r o v) (pre.length + j) 0
 | [], pre, o, v, hv, ho, j, hj, hg => by simp at hj
 | x :: r, pre, o, v, hv, ho, 0, hj, hg => by
  have hg' : geared x = true := hg
  have hpl : pre.length < o.length := by rw [ho]; simp
  simp only [groupsFrom, hg', Bool.true_and, Nat.add_zero, Int.toNat_natCast, decide_eq_true_eq]
  split
  ·refine Zbx b r _ _ _ (by omega) _ (by rw [Zgj]; simpa using hpl) (ZvW b hv 200 _ _ _ (by simpa using hpl) ?_)
   rw [Zdj o _ _ v 0 hpl, if_pos rfl]
   exact hv
  ·exact Zbx b r _ _ _ hv _ hpl (by omega)
 | x :: r, pre, o, v, hv, ho, j + 1, hj, hg => by
  have ih := fun (o2 : List Int) (v2 : Int) (h2 : 0 ≤ v2) (hl : o2.length = o.length) => ZhX b r (pre ++ [x]) o2 v2 h2 (by rw [hl, ho]; simp) j (by simpa using hj) (by simpa using hg)
  simp only [List.length_append, List.length_singleton] at ih
  have e1 : ((pre.length + 1 : Nat) : Int) = (pre.length : Int) + 1 := by omega
  have e2 : pre.length + 1 + j = pre.length + (j + 1) := by omega
  simp only [groupsFrom]
  rw [e1, e2] at ih
  split
  ·exact ih _ _ (by omega) (by rw [Zgj]; simp)
  ·exact ih _ _ hv rfl
theorem Z8x (b : BoardD) {j : Nat} (hj : j < b.2.2.length) (hg : geared (List.getD b.2.2 j (0, 0)) = true) : 0 ≤ List.getD (groupsOf b) j 0 := by
 have := ZhX b b.2.2 [] (List.replicate b.2.2.length (-1)) 0 (Int.le_refl 0) (by simp) j hj hg
 simpa [groupsOf] using this
theorem ZBY {P : Int → Prop} {o : List Int} (h : ∀ x ∈ o, P x) {v : Int} (hv : P v) (i : Nat) : ∀ x ∈ List.set o i v, P x := fun x hx => by
 rcases List.mem_or_eq_of_mem_set hx with h1 | rfl
 ·exact h x h1
 ·exact hv
theorem ZwF (b : BoardD) {P : Int → Prop} {v : Int} (hv : P v) : ∀ (r : List Int) (G : List Int × List Int), (∀ x ∈ G.1, P x) → ∀ x ∈ (r.foldl (visit b v) G).1, P x
 | [], G, h => h
 | n :: r, G, h => ZwF b hv r _ (by unfold visit; split; exact ZBY h hv _; exact h)
theorem ZC4 (b : BoardD) {P : Int → Prop} {v : Int} (hv : P v) : ∀ (n : Nat) (o q : List Int), (∀ x ∈ o, P x) → ∀ x ∈ bfs b v n o q, P x
 | 0, o, q, h => h
 | _ + 1, o, [], h => h
 | n + 1, o, x :: q, h => by
  simp only [bfs]
  exact ZC4 b hv n _ _ (ZwF b hv _ (o, []) h)
theorem Zeh (b : BoardD) (m : Int) : ∀ (r : List CellD) (i : Int) (o : List Int) (v : Int), v + r.length ≤ m → (∀ x ∈ o, x < m) → ∀ x ∈ groupsFrom b i r o v, x < m
 | [], i, o, v, hv, h => h
 | y :: r, i, o, v, hv, h => by
  simp only [List.length_cons] at hv
  simp only [groupsFrom]
  split
  ·exact Zeh b m r _ _ _ (by omega) (ZC4 b (P := fun x => x < m) (show v < m by omega) 200 _ _ (ZBY (P := fun x => x < m) h (show v < m by omega) _))
  ·exact Zeh b m r _ _ _ (by omega) h
theorem Zc7 (b : BoardD) : ∀ x ∈ groupsOf b, x < (b.2.2.length : Int) := by
 by_cases h0 : b.2.2.length = 0
 ·intro x hx
  have : groupsOf b = [] := List.eq_nil_of_length_eq_zero (by rw [Z3j]; exact h0)
  rw [this] at hx
  cases hx
 ·refine Zeh b _ _ _ _ _ (by omega) ?_
  intro x hx
  rw [(List.mem_replicate.1 hx).2]
  omega
def unitsGo (G : List Int) : Int → List CellD → List Int → List (List Int) → List (List Int)
  | _, [], _, o => o
  | i, x :: r, N, o => if x.1 = 3 then unitsGo G (i + 1) r N (o ++ [[i]]) else if x.1 = 6 then (if List.getD N (List.getD G i.toNat 0).toNat 0 < 0 then unitsGo G (i + 1) r (List.set N (List.getD G i.toNat 0).toNat (o.length : Int)) (o ++ [[i]])
      else unitsGo G (i + 1) r N (List.set o (List.getD N (List.getD G i.toNat 0).toNat 0).toNat (List.getD o (List.getD N (List.getD G i.toNat 0).toNat 0).toNat [] ++ [i]))) else unitsGo G (i + 1) r N o
def unitsP (b : BoardD) : List (List Int) := unitsGo (groupsOf b) 0 b.2.2 (List.replicate b.2.2.length (-1)) []
theorem ZaX (G : List Int) : ∀ (r r' : List CellD) (i : Int) (N : List Int) (o : List (List Int)), r.map Prod.fst = r'.map Prod.fst → unitsGo G i r N o = unitsGo G i r' N o
 | [], [], i, N, o, hr => rfl
 | [], y :: r', i, N, o, hr => by simp at hr
 | x :: r, [], i, N, o, hr => by simp at hr
 | x :: r, y :: r', i, N, o, hr => by
  simp only [List.map_cons, List.cons.injEq] at hr
  simp only [unitsGo, hr.1]
  rw [ZaX G r r' _ _ _ hr.2, ZaX G r r' _ _ _ hr.2, ZaX G r r' _ _ _ hr.2, ZaX G r r' _ _ _ hr.2]
theorem Zfa {b b' : BoardD} (h1 : b.1 = b'.1) (h2 : b.2.1 = b'.2.1) (h : b.2.2.map Prod.fst = b'.2.2.map Prod.fst) : unitsP b = unitsP b' := by
 unfold unitsP
 rw [Znn h1 h2 h, Z9T h, ZaX _ _ _ _ _ _ h]
structure UnitsOK (L : List CellD) (i : Int) (o : List (List Int)) : Prop where
 some : ∀ u ∈ o, u ≠ []
 on : ∀ u ∈ o, ∀ m ∈ u, 0 ≤ m ∧ m < i ∧ turning (List.getD L m.toNat (0, 0)) = true
 once : ∀ u ∈ o, u.Nodup
 no : ∃ f : Int → Nat, ∀ (k : Nat) u, o[k]? = Option.some u → ∀ m ∈ u, f m = k
theorem UnitsOK.next {L : List CellD} {i : Int} {o : List (List Int)} (h : UnitsOK L i o) : UnitsOK L (i + 1) o :=
 ⟨h.some, fun u hu m hm => by obtain ⟨a, b, c⟩ := h.on u hu m hm; exact ⟨a, by omega, c⟩, h.once, h.no⟩
theorem UnitsOK.fresh {L : List CellD} {i : Int} {o : List (List Int)} (h : UnitsOK L i o) (h0 : 0 ≤ i) (ht : turning (List.getD L i.toNat (0, 0)) = true) : UnitsOK L (i + 1) (o ++ [[i]]) := by
 obtain ⟨f, hf⟩ := h.no
 refine ⟨fun u hu => ?_, fun u hu m hm => ?_, fun u hu => ?_, fun m => if m = i then o.length else f m, fun k u hk m hm => ?_⟩
 ·rcases List.mem_append.1 hu with hu | hu
  ·exact h.some u hu
  ·rw [List.mem_singleton.1 hu]; simp
 ·rcases List.mem_append.1 hu with hu | hu
  ·exact h.next.on u hu m hm
  ·rw [List.mem_singleton.1 hu] at hm
   rw [List.mem_singleton.1 hm]
   exact ⟨h0, by omega, ht⟩
 ·rcases List.mem_append.1 hu with hu | hu
  ·exact h.once u hu
  ·rw [List.mem_singleton.1 hu]; simp
 ·rcases Nat.lt_or_ge k o.length with hlt | hge
  ·rw [List.getElem?_append_left hlt] at hk
   have h1 := (h.on u (List.mem_of_getElem? hk) m hm).2.1
   simp only [show ¬ m = i by omega, if_false]
   exact hf k u hk m hm
  ·rw [List.getElem?_append_right hge] at hk
   have h2 := (List.getElem?_eq_some_iff.1 hk).1
   simp at h2
   have : k = o.length := by omega
   subst this
   simp at hk
   subst hk
   simp [List.mem_singleton.1 hm]
theorem UnitsOK.join {L : List CellD} {i : Int} {o : List (List Int)} (h : UnitsOK L i o) (h0 : 0 ≤ i) (ht : turning (List.getD L i.toNat (0, 0)) = true) {n : Nat} (hn : n < o.length) : UnitsOK L (i + 1) (List.set o n (List.getD o n [] ++ [i])) := by
 obtain ⟨f, hf⟩ := h.no
 have hg : List.getD o n [] = o[n] := by simp [List.getD, List.getElem?_eq_getElem hn]
 rw [hg]
 have hin : o[n] ∈ o := List.getElem_mem hn
 have split : ∀ u ∈ List.set o n (o[n] ++ [i]), u ∈ o ∨ u = o[n] ++ [i] := fun u hu => List.mem_or_eq_of_mem_set hu
 refine ⟨fun u hu => ?_, fun u hu m hm => ?_, fun u hu => ?_, fun m => if m = i then n else f m, fun k u hk m hm => ?_⟩
 ·rcases split u hu with hu | rfl
  ·exact h.some u hu
  ·simp
 ·rcases split u hu with hu | rfl
  ·exact h.next.on u hu m hm
  ·rcases List.mem_append.1 hm with hm | hm
   ·exact h.next.on _ hin m hm
   ·rw [List.mem_singleton.1 hm]
    exact ⟨h0, by omega, ht⟩
 ·rcases split u hu with hu | rfl
  ·exact h.once u hu
  ·rw [List.nodup_append]
   refine ⟨h.once _ hin, by simp, fun a ha b hb => ?_⟩
   rw [List.mem_singleton.1 hb]
   have := (h.on _ hin a ha).2.1
   omega
 ·rw [List.getElem?_set] at hk
  split at hk
  ·rename_i hnk
   subst hnk
   injection hk with hk
   subst hk
   rcases List.mem_append.1 hm with hm | hm
   ·have h1 := (h.on _ hin m hm).2.1
    simp only [show ¬ m = i by omega, if_false]
    exact hf n _ (List.getElem?_eq_getElem hn) m hm
   ·simp [List.mem_singleton.1 hm]
  ·have h1 := (h.on u (List.mem_of_getElem? hk) m hm).2.1
   simp only [show ¬ m = i by omega, if_false]
   exact hf k u hk m hm
def Below (N : List Int) (n : Nat) : Prop := ∀ x ∈ N, -1 ≤ x ∧ x < (n : Int)
theorem Below.more {N : List Int} {n m : Nat} (h : Below N n) (hm : n ≤ m) : Below N m := fun x hx => ⟨(h x hx).1, by have := (h x hx).2; omega⟩
theorem Zat {l : List Int} {i : Nat} (h : i < l.length) (d : Int) : List.getD l i d ∈ l := by
 simp only [List.getD, List.getElem?_eq_getElem h, Option.getD_some]
 exact List.getElem_mem h
theorem Zwv (b : BoardD) : ∀ (r pre : List CellD) (N : List Int) (o : List (List Int)), pre ++ r = b.2.2 → N.length = b.2.2.length → Below N o.length → o.length ≤ pre.length → UnitsOK b.2.2 pre.length o → UnitsOK b.2.2 b.2.2.length (unitsGo (groupsOf b) pre.length r N o) ∧ (unitsGo (groupsOf b) pre.length r N o).length ≤ b.2.2.length
 | [], pre, N, o, hp, hN, hB, hlen, ho => by
  rw [List.append_nil] at hp
  subst hp
  exact ⟨ho, hlen⟩
 | x :: r, pre, N, o, hp, hN, hB, hlen, ho => by
  have hlt : pre.length < b.2.2.length := by rw [← hp]; simp
  have hx : List.getD b.2.2 pre.length (0, 0) = x := by rw [← hp]; exact Za _ _ _ _
  have hcast : ((pre ++ [x]).length : Int) = (pre.length : Int) + 1 := by simp
  have h0 : (0 : Int) ≤ (pre.length : Int) := Int.natCast_nonneg _
  have hp' : (pre ++ [x]) ++ r = b.2.2 := by rw [← hp]; simp
  have ih := fun N o h1 h2 h3 h4 => Zwv b r (pre ++ [x]) N o hp' h1 h2 h3 h4
  rw [hcast] at ih
  simp only [unitsGo, Int.toNat_natCast]
  split
  ·rename_i h3
   exact ih _ _ hN (hB.more (by simp)) (by simp; omega) (ho.fresh h0 (by rw [Int.toNat_natCast, hx]; simp [turning, h3]))
  ·split
   ·rename_i h6
    have hg : geared x = true := by simp [geared, h6]
    have ht : turning (List.getD b.2.2 (pre.length : Int).toNat (0, 0)) = true := by rw [Int.toNat_natCast, hx]; simp [turning, h6]
    have hG0 := Z8x b hlt (by rw [hx]; exact hg)
    have hG1 := Zc7 b _ (Zat (l := groupsOf b) (i := pre.length) (by rw [Z3j]; exact hlt) 0)
    have hNl : (List.getD (groupsOf b) pre.length 0).toNat < N.length := by rw [hN]; omega
    have hNB := hB _ (Zat hNl 0)
    split
    ·refine ih _ _ (by simpa using hN) ?_ (by simp; omega) (ho.fresh h0 ht)
     intro y hy
     rcases List.mem_or_eq_of_mem_set hy with hy | rfl
     ·have := hB y hy
      simp only [List.length_append, List.length_singleton]
      omega
     ·simp only [List.length_append, List.length_singleton]
      omega
    ·refine ih _ _ hN (by rw [List.length_set]; exact hB) (by rw [List.length_set]; simp; omega) (ho.join h0 ht (by omega))
   ·exact ih _ _ hN hB (by simp; omega) ho.next
theorem Z9m (b : BoardD) : UnitsOK b.2.2 b.2.2.length (unitsP b) ∧ (unitsP b).length ≤ b.2.2.length := by
 refine Zwv b b.2.2 [] (List.replicate b.2.2.length (-1)) [] rfl (by simp) (fun x hx => ?_) (Nat.le_refl _) ⟨by simp, by simp, by simp, fun _ => 0, by simp⟩
 rw [(List.mem_replicate.1 hx).2]
 simp
end Go.Proofs.Ytglkedenkcpcbaa.Vs

set_option linter.unusedVariables false
set_option linter.unusedSimpArgs false
namespace Go.Proofs.Ytglkedenkcpcbaa.Vs
open Go.RowKit
def cellAt (o : List CellD) (m : Int) : CellD := List.getD o m.toNat (0, 0)
def flipC (x : CellD) : CellD := (x.1, 1 - x.2)
def flipAt (o : List CellD) (m : Int) : List CellD := List.set o m.toNat (flipC (cellAt o m))
def turnU (u : List Int) (o : List CellD) : List CellD := u.foldl flipAt o
theorem Z21 : ∀ (u : List Int) (o : List CellD), (turnU u o).length = o.length
 | [], o => rfl
 | m :: u, o => by
  show (turnU u (flipAt o m)).length = _
  rw [Z21 u]; simp [flipAt]
theorem ZB9 {o : List CellD} {i m : Int} (h0 : 0 ≤ i) (h1 : i < (o.length : Int)) (hm : 0 ≤ m) : cellAt (flipAt o i) m = if m = i then flipC (cellAt o m) else cellAt o m := by
 unfold flipAt cellAt
 rw [Zdj o i.toNat m.toNat _ _ (by omega)]
 by_cases h : m = i
 ·subst h; simp
 ·rw [if_neg h, if_neg (by omega)]
theorem Z4U : ∀ (u : List Int) (o : List CellD) (m : Int), (∀ i ∈ u, 0 ≤ i ∧ i < (o.length : Int)) → u.Nodup → 0 ≤ m → cellAt (turnU u o) m = if m ∈ u then flipC (cellAt o m) else cellAt o m
 | [], o, m, hi, hn, hm => by simp [turnU]
 | i :: u, o, m, hi, hn, hm => by
  obtain ⟨hn1, hn2⟩ := List.nodup_cons.1 hn
  obtain ⟨h0, h1⟩ := hi i (List.mem_cons_self ..)
  show cellAt (turnU u (flipAt o i)) m = _
  rw [Z4U u (flipAt o i) m (fun j hj => by have := hi j (List.mem_cons_of_mem _ hj); simpa [flipAt] using this) hn2 hm, ZB9 h0 h1 hm]
  by_cases hmi : m = i
  ·subst hmi
   simp [hn1]
  ·simp [hmi]
def bitOf (o : List CellD) (u : List Int) : Int := (cellAt o (List.getD u 0 0)).2
def bitsP (o : List CellD) (us : List (List Int)) : List Int := us.map (bitOf o)
def setGo : List (List Int) → List Int → List CellD → List CellD
 | u :: us, x :: xs, o => setGo us xs (if bitOf o u = x then o else turnU u o)
 | _, _, o => o
structure Units (us : List (List Int)) (n : Nat) : Prop where
 some : ∀ u ∈ us, u ≠ []
 on : ∀ u ∈ us, ∀ m ∈ u, 0 ≤ m ∧ m < (n : Int)
 once : ∀ u ∈ us, u.Nodup
 apart : us.Pairwise fun u v => ∀ m ∈ u, m ∉ v
theorem Units.tail {u : List Int} {us : List (List Int)} {n : Nat} (h : Units (u :: us) n) : Units us n :=
 ⟨fun v hv => h.some v (List.mem_cons_of_mem _ hv), fun v hv => h.on v (List.mem_cons_of_mem _ hv), fun v hv => h.once v (List.mem_cons_of_mem _ hv), (List.pairwise_cons.1 h.apart).2⟩
theorem UnitsOK.units {L : List CellD} {n : Nat} {us : List (List Int)} (h : UnitsOK L n us) : Units us n := by
 refine ⟨h.some, fun u hu m hm => ⟨(h.on u hu m hm).1, (h.on u hu m hm).2.1⟩, h.once, ?_⟩
 obtain ⟨f, hf⟩ := h.no
 rw [List.pairwise_iff_getElem]
 intro i j hi hj hij m hm hm2
 have h1 := hf i _ (List.getElem?_eq_getElem hi) m hm
 have h2 := hf j _ (List.getElem?_eq_getElem hj) m hm2
 omega
theorem Zg9 {u : List Int} (h : u ≠ []) : List.getD u 0 0 ∈ u := by
 cases u with
 | nil => exact absurd rfl h
 | cons a u => simp
theorem Zjy {us : List (List Int)} {u : List Int} {n : Nat} (h : Units (u :: us) n) {o : List CellD} (ho : o.length = n) {v : List Int} (hv : v ∈ us) : bitOf (turnU u o) v = bitOf o v := by
 have hin := Zg9 (h.tail.some v hv)
 have hap := (List.pairwise_cons.1 h.apart).1 v hv
 unfold bitOf
 rw [Z4U u o _ (fun i hi => by have := h.on u (List.mem_cons_self ..) i hi; omega) (h.once u (List.mem_cons_self ..)) (h.tail.on v hv _ hin).1, if_neg (fun hm => hap _ hm hin)]
theorem Zlm : ∀ (us : List (List Int)) (xs : List Int) (o : List CellD), (setGo us xs o).length = o.length
 | [], _, o => by simp [setGo]
 | u :: us, [], o => by simp [setGo]
 | u :: us, x :: xs, o => by
  simp only [setGo]
  rw [Zlm us xs]
  split
  ·rfl
  ·exact Z21 u o
theorem Zen : ∀ (us : List (List Int)) (xs : List Int) (o : List CellD) (m : Int), Units us o.length → 0 ≤ m → (∀ u ∈ us, m ∉ u) → cellAt (setGo us xs o) m = cellAt o m
 | [], _, o, m, h, hm, hn => by simp [setGo]
 | u :: us, [], o, m, h, hm, hn => by simp [setGo]
 | u :: us, x :: xs, o, m, h, hm, hn => by
  simp only [setGo]
  split
  ·exact Zen us xs o m h.tail hm (fun v hv => hn v (List.mem_cons_of_mem _ hv))
  ·rw [Zen us xs _ m (by rw [Z21]; exact h.tail) hm (fun v hv => hn v (List.mem_cons_of_mem _ hv)), Z4U u o m (fun i hi => h.on u (List.mem_cons_self ..) i hi) (h.once u (List.mem_cons_self ..)) hm, if_neg (hn u (List.mem_cons_self ..))]
theorem ZjK : ∀ (us : List (List Int)) (xs : List Int) (o : List CellD) (m : Int) (k : Nat) (u : List Int) (x : Int), Units us o.length → us[k]? = some u → xs[k]? = some x → m ∈ u → cellAt (setGo us xs o) m = if bitOf o u = x then cellAt o m else flipC (cellAt o m)
 | [], _, o, m, k, u, x, h, hu, hx, hm => by simp at hu
 | v :: us, [], o, m, k, u, x, h, hu, hx, hm => by simp at hx
 | v :: us, y :: xs, o, m, 0, u, x, h, hu, hx, hm => by
  simp only [List.getElem?_cons_zero, Option.some.injEq] at hu hx
  subst hu hx
  have hm0 := (h.on v (List.mem_cons_self ..) m hm).1
  have hap := (List.pairwise_cons.1 h.apart).1
  have hnot : ∀ w ∈ us, m ∉ w := fun w hw => hap w hw m hm
  simp only [setGo]
  split
  ·exact Zen us xs o m h.tail hm0 hnot
  ·rw [Zen us xs _ m (by rw [Z21]; exact h.tail) hm0 hnot, Z4U v o m (fun i hi => h.on v (List.mem_cons_self ..) i hi) (h.once v (List.mem_cons_self ..)) hm0, if_pos hm]
 | v :: us, y :: xs, o, m, k + 1, u, x, h, hu, hx, hm => by
  simp only [List.getElem?_cons_succ] at hu hx
  have hin := List.mem_of_getElem? hu
  have hm0 := (h.tail.on u hin m hm).1
  have hap := (List.pairwise_cons.1 h.apart).1 u hin
  simp only [setGo]
  split
  ·exact ZjK us xs o m k u x h.tail hu hx hm
  ·rw [ZjK us xs _ m k u x (by rw [Z21]; exact h.tail) hu hx hm, Zjy h rfl hin, Z4U v o m (fun i hi => h.on v (List.mem_cons_self ..) i hi) (h.once v (List.mem_cons_self ..)) hm0, if_neg (fun hmv => hap m hmv hm)]
theorem ZyJ {o o' : List CellD} (hl : o.length = o'.length) (h : ∀ m : Int, 0 ≤ m → m < (o.length : Int) → cellAt o m = cellAt o' m) : o = o' := by
 apply List.ext_getElem hl
 intro i h1 h2
 have := h (i : Int) (by omega) (by omega)
 simpa [cellAt, List.getD, List.getElem?_eq_getElem h1, List.getElem?_eq_getElem h2] using this
def isBit (x : Int) : Prop := x = 0 ∨ x = 1
theorem ZDb {x : CellD} (h : isBit x.2) : isBit (flipC x).2 := by
 rcases h with h | h <;> simp [isBit, flipC, h]
theorem ZDD (us : List (List Int)) (m : Int) : (∀ u ∈ us, m ∉ u) ∨ ∃ (k : Nat) (u : List Int), us[k]? = some u ∧ m ∈ u := by
 by_cases h : ∃ u ∈ us, m ∈ u
 ·obtain ⟨u, hu, hm⟩ := h
  obtain ⟨k, hk⟩ := List.getElem?_of_mem hu
  exact .inr ⟨k, u, hk, hm⟩
 ·exact .inl (fun u hu hm => h ⟨u, hu, hm⟩)
theorem ZDJ {us : List (List Int)} {xs : List Int} (hl : xs.length = us.length) {k : Nat} {u : List Int} (hu : us[k]? = some u) : ∃ x, xs[k]? = some x ∧ x ∈ xs := by
 have hk := (List.getElem?_eq_some_iff.1 hu).1
 exact ⟨xs[k], List.getElem?_eq_getElem (by omega), List.getElem_mem _⟩
theorem ZD8 {us : List (List Int)} {xs : List Int} {o : List CellD} (h : Units us o.length) (hx : ∀ x ∈ xs, isBit x) (ho : ∀ c ∈ o, isBit c.2) {k : Nat} {u : List Int} {x : Int} (hu : us[k]? = some u) (hxk : xs[k]? = some x) : bitOf (setGo us xs o) u = x := by
 have hin := Zg9 (h.some u (List.mem_of_getElem? hu))
 have hon := h.on u (List.mem_of_getElem? hu) _ hin
 have h1 := ZjK us xs o _ k u x h hu hxk hin
 have hb : isBit (bitOf o u) := ho _ (Z8z hon.1 hon.2 (0, 0))
 have hxb := hx x (List.mem_of_getElem? hxk)
 unfold bitOf at h1 hb ⊢
 rw [h1]
 split
 ·assumption
 ·rename_i hne
  simp only [flipC]
  rcases hb with hb | hb <;> rcases hxb with hxb | hxb <;> rw [hb, hxb] at hne <;> first | exact absurd rfl hne | (rw [hb, hxb]; rfl)
theorem ZwW {us : List (List Int)} {xs : List Int} {o : List CellD} (h : Units us o.length) (hl : xs.length = us.length) (hx : ∀ x ∈ xs, isBit x) (ho : ∀ c ∈ o, isBit c.2) : bitsP (setGo us xs o) us = xs := by
 apply List.ext_getElem?
 intro k
 simp only [bitsP, List.getElem?_map]
 cases hu : us[k]? with
 | none =>
  have := List.getElem?_eq_none_iff.1 hu
  rw [List.getElem?_eq_none (by omega)]; rfl
 | some u =>
  obtain ⟨x, hxk, _⟩ := ZDJ hl hu
  rw [hxk, Option.map_some, ZD8 h hx ho hu hxk]
theorem Zxh : ∀ (us : List (List Int)) (o : List CellD), setGo us (bitsP o us) o = o
 | [], o => rfl
 | u :: us, o => by
  show setGo us (bitsP o us) (if bitOf o u = bitOf o u then o else turnU u o) = o
  rw [if_pos rfl]; exact Zxh us o
theorem ZCW (x : CellD) : flipC (flipC x) = x := by
 unfold flipC
 ext
 ·rfl
 ·show 1 - (1 - x.2) = x.2
  omega
theorem ZBX : ∀ (us : List (List Int)) (xs : List Int) (o : List CellD), (∀ u ∈ us, ∀ m ∈ u, 0 ≤ m ∧ m < (o.length : Int) ∧ turning (cellAt o m) = true) → (∀ c ∈ o, cellOK c = true) → (∀ c ∈ setGo us xs o, cellOK c = true) ∧ (setGo us xs o).map Prod.fst = o.map Prod.fst := by
 have one : ∀ (u : List Int) (o : List CellD), (∀ m ∈ u, 0 ≤ m ∧ m < (o.length : Int) ∧ turning (cellAt o m) = true) → (∀ c ∈ o, cellOK c = true) → (∀ c ∈ turnU u o, cellOK c = true) ∧ (turnU u o).map Prod.fst = o.map Prod.fst := by
  intro u
  induction u with
  | nil => intro o _ ho; exact ⟨ho, rfl⟩
  | cons i u ih =>
   intro o hu ho
   obtain ⟨h0, h1, ht⟩ := hu i (List.mem_cons_self ..)
   have hp : (flipAt o i).map Prod.fst = o.map Prod.fst := by
    have hil : i.toNat < o.length := by omega
    unfold flipAt
    rw [List.map_set]
    show List.set (o.map Prod.fst) i.toNat (cellAt o i).1 = _
    apply List.ext_getElem?
    intro j
    rw [List.getElem?_set]
    split
    ·rename_i hij
     subst hij
     simp [cellAt, List.getD, List.getElem?_eq_getElem hil, hil]
    ·rfl
   have hok : ∀ c ∈ flipAt o i, cellOK c = true := by
    intro c hc
    rcases List.mem_or_eq_of_mem_set hc with hc | rfl
    ·exact ho c hc
    ·have hx := ho _ (Z8z h0 h1 (0, 0))
     have hxx : cellOK (cellAt o i) = true := hx
     unfold turning at ht
     unfold cellOK flipC at *
     simp only [decide_eq_true_eq] at *
     omega
   have := ih (flipAt o i) (fun m hm => by
    obtain ⟨a, b, c⟩ := hu m (List.mem_cons_of_mem _ hm)
    refine ⟨a, by simpa [flipAt] using b, ?_⟩
    have : (cellAt (flipAt o i) m).1 = (cellAt o m).1 := Zhe hp _
    unfold turning at c ⊢
    rw [this]; exact c) hok
   exact ⟨this.1, this.2.trans hp⟩
 intro us
 induction us with
 | nil => intro xs o _ ho; exact ⟨by simpa [setGo] using ho, by simp [setGo]⟩
 | cons u us ih =>
  intro xs o hu ho
  cases xs with
  | nil => exact ⟨by simpa [setGo] using ho, by simp [setGo]⟩
  | cons x xs =>
   simp only [setGo]
   split
   ·exact ih xs o (fun v hv => hu v (List.mem_cons_of_mem _ hv)) ho
   ·obtain ⟨h1, h2⟩ := one u o (hu u (List.mem_cons_self ..)) ho
    have := ih xs (turnU u o) (fun v hv m hm => by
     obtain ⟨a, b, c⟩ := hu v (List.mem_cons_of_mem _ hv) m hm
     refine ⟨a, by rw [Z21]; exact b, ?_⟩
     have : (cellAt (turnU u o) m).1 = (cellAt o m).1 := Zhe h2 _
     unfold turning at c ⊢
     rw [this]; exact c) h1
    exact ⟨this.1, this.2.trans h2⟩
theorem Zg5 {x : CellD} (h : cellOK x = true) : isBit x.2 := by
 unfold cellOK at h
 simp only [decide_eq_true_eq] at h
 unfold isBit
 omega
def numP : List Int → Int
 | [] => 0
 | x :: r => x + 2 * numP r
def bitsN : Nat → Int → List Int
 | 0, _ => []
 | u + 1, n => n % 2 :: bitsN u (n / 2)
theorem Z6D : ∀ (u : Nat) (n : Int), (bitsN u n).length = u
 | 0, _ => rfl
 | u + 1, n => by simp [bitsN, Z6D u]
theorem Zs5 : ∀ (u : Nat) (n : Int), ∀ x ∈ bitsN u n, isBit x
 | 0, _, x, hx => by cases hx
 | u + 1, n, x, hx => by
  rcases List.mem_cons.1 hx with rfl | hx
  ·unfold isBit; omega
  ·exact Zs5 u _ x hx
theorem Ziz : ∀ (xs : List Int), (∀ x ∈ xs, isBit x) → 0 ≤ numP xs ∧ numP xs < 2 ^ xs.length
 | [], _ => by simp [numP]
 | x :: r, h => by
  have ih := Ziz r (fun y hy => h y (List.mem_cons_of_mem _ hy))
  have hx := h x (List.mem_cons_self ..)
  simp only [numP, List.length_cons, Int.pow_succ]
  unfold isBit at hx
  omega
theorem Zr5 : ∀ (xs : List Int) (y : Int), numP (xs ++ [y]) = numP xs + y * 2 ^ xs.length
 | [], y => by simp [numP]
 | x :: r, y => by
  simp only [List.cons_append, numP, List.length_cons, Int.pow_succ]
  rw [Zr5 r y, Int.mul_add, ← Int.mul_assoc y, Int.mul_comm (y * 2 ^ r.length) 2]
  omega
theorem ZwP : ∀ (u : Nat) (n : Int), 0 ≤ n → n < 2 ^ u → numP (bitsN u n) = n
 | 0, n, h0, h1 => by simp at h1; simp [bitsN, numP]; omega
 | u + 1, n, h0, h1 => by
  rw [Int.pow_succ] at h1
  simp only [bitsN, numP]
  rw [ZwP u (n / 2) (by omega) (by omega)]
  omega
theorem ZoC : ∀ (xs : List Int), (∀ x ∈ xs, isBit x) → bitsN xs.length (numP xs) = xs
 | [], _ => rfl
 | x :: r, h => by
  have ih := ZoC r (fun y hy => h y (List.mem_cons_of_mem _ hy))
  have hx := h x (List.mem_cons_self ..)
  unfold isBit at hx
  have e1 : (x + 2 * numP r) % 2 = x := by omega
  have e2 : (x + 2 * numP r) / 2 = numP r := by omega
  simp only [numP, List.length_cons, bitsN, e1, e2, ih]
theorem ZoG : ∀ (u : Nat) (n : Int) (k : Nat), k < u → (bitsN u n)[k]? = some (n / 2 ^ k % 2)
 | 0, n, k, h => by omega
 | u + 1, n, 0, h => by simp [bitsN]
 | u + 1, n, k + 1, h => by
  simp only [bitsN, List.getElem?_cons_succ]
  rw [ZoG u (n / 2) k (by omega), Int.pow_succ, Int.mul_comm, Int.ediv_ediv_of_nonneg (by omega)]
theorem Zx6 (u : Nat) (n : Int) : bitsN (u + 1) n = bitsN u n ++ [n / 2 ^ u % 2] := by
 apply List.ext_getElem?
 intro k
 rcases Nat.lt_trichotomy k u with h | h | h
 ·rw [ZoG _ _ _ (by omega), List.getElem?_append_left (by rw [Z6D]; exact h), ZoG _ _ _ h]
 ·subst h
  rw [ZoG _ _ _ (by omega), List.getElem?_append_right (by rw [Z6D]; omega), Z6D]
  simp
 ·rw [List.getElem?_eq_none (by rw [Z6D]; omega), List.getElem?_eq_none (by simp [Z6D]; omega)]
end Go.Proofs.Ytglkedenkcpcbaa.Vs

set_option linter.unusedVariables false
set_option linter.unusedSimpArgs false
namespace Go.Proofs.Ytglkedenkcpcbaa.Vs
open Go.RowKit
theorem Zlr {u : Nat} (h : u ≤ 40) : (0 : Int) < 2 ^ u ∧ (2 : Int) ^ u ≤ 1099511627776 := by
 have h1 : (0 : Int) < 2 ^ u := Int.pow_pos (by omega)
 have h2 : (2 : Nat) ^ u ≤ 2 ^ 40 := Nat.pow_le_pow_right (by omega) h
 have h3 : ((2 ^ u : Nat) : Int) ≤ ((2 ^ 40 : Nat) : Int) := by exact_mod_cast h2
 refine ⟨h1, ?_⟩
 have h4 : ((2 ^ u : Nat) : Int) = (2 : Int) ^ u := by simp
 rw [h4] at h3
 have h5 : ((2 ^ 40 : Nat) : Int) = 1099511627776 := by decide
 omega
theorem Zy1 {x : Int} (hx : isBit x) {u : Nat} (h : u ≤ 40) : shlS x (u : Int) = x * 2 ^ u := by
 rw [ZC8, Int.toNat_natCast, Nat.min_eq_left (by omega)]
 have hp := Zlr h
 have h2 : x * 2 ^ u = 0 ∨ x * 2 ^ u = 2 ^ u := by rcases hx with rfl | rfl <;> simp
 exact w64 (by omega) (by omega)
theorem ZC1 {u : Nat} (h : u ≤ 40) : shlS 1 (u : Int) = 2 ^ u := by rw [Zy1 (.inr rfl) h]; simp
theorem ZvF {n : Int} (h0 : 0 ≤ n) (h1 : n ≤ 9223372036854775807) : IntKind.wrap IntKind.u64 n = n := by
 simp [IntKind.wrap, IntKind.bits, IntKind.signed]
 omega
theorem ZD2 (n : Int) (h0 : 0 ≤ n) (h1 : n < 2 ^ 62) : IntKind.i64.wrap n = n := by
 rw [IntKind.wrap_i64]
 have : (2 : Int) ^ 62 = 4611686018427387904 := by decide
 omega
theorem Zpl {v : Int} (h0 : 0 ≤ v) (h1 : v < 1099511627776) {k : Nat} (hk : k ≤ 40) : bits BinOp.and IntKind.i64 (Int.fdiv v (2 ^ min (Int.toNat (k : Int)) (IntKind.bits IntKind.i64))) 1 = v / 2 ^ k % 2 := by
 have hp := Zlr hk
 rw [Int.toNat_natCast, show IntKind.bits IntKind.i64 = 64 from rfl, Nat.min_eq_left (by omega), Int.fdiv_eq_ediv_of_nonneg _ (by omega)]
 have hd0 : 0 ≤ v / 2 ^ k := Int.ediv_nonneg h0 (by omega)
 have hd1 : v / 2 ^ k ≤ v := Int.ediv_le_self _ h0
 have := bits_mask .i64 62 (by decide) ZD2 1 (by decide) (v / 2 ^ k) hd0 (by rw [show (2 : Int) ^ 62 = 4611686018427387904 by decide]; omega)
 simpa using this
theorem ZCT (a b : Int) : bits BinOp.or IntKind.i64 a b = bits BinOp.or IntKind.i64 b a := by
 unfold bits
 simp only [BitVec.or_comm]
theorem ZDK {n x : Int} (hx : isBit x) {k : Nat} (hk : k ≤ 40) (h0 : 0 ≤ n) (h1 : n < 2 ^ k) : bits BinOp.or IntKind.i64 n (x * 2 ^ k) = n + x * 2 ^ k := by
 have hp := Zlr hk
 have h2 : x * 2 ^ k = 0 ∨ x * 2 ^ k = 2 ^ k := by rcases hx with rfl | rfl <;> simp
 have e62 : (2 : Int) ^ 62 = 4611686018427387904 := by decide
 rw [ZCT, bits_join .i64 62 (by decide) ZD2 k (x * 2 ^ k) n (by omega) (by simp) (by omega) h0 h1 (by omega), Int.add_comm]
theorem ZyN {α : Type} {l : List α} {i : Nat} (h : i < l.length) (d : α) : List.getD l i d ∈ l := by
 simp only [List.getD, List.getElem?_eq_getElem h, Option.getD_some]
 exact List.getElem_mem h
def Keys (es : List (List Int × Int)) (N : List Int) : Prop := ∀ g : Nat, g < N.length → findK [(g : Int)] es = if List.getD N g 0 < 0 then none else some (List.getD N g 0)
theorem ZyU (ks ks' : List Int) (x : Int) : ∀ (es : List (List Int × Int)), findK ks (putK ks' x es) = if ks' = ks then some x else findK ks es
 | [] => by simp only [putK, findK]
 | e :: r => by
  simp only [putK]
  by_cases h1 : e.1 = ks'
  ·rw [if_pos h1]
   simp only [findK]
   by_cases h2 : ks' = ks
   ·rw [if_pos h2, if_pos h2]
   ·rw [if_neg h2, if_neg h2, if_neg (by rw [h1]; exact h2)]
  ·rw [if_neg h1]
   simp only [findK]
   rw [ZyU ks ks' x r]
   by_cases h2 : ks' = ks
   ·simp only [h2, if_true]; rw [if_neg (by rw [← h2]; exact h1)]
   ·simp only [h2, if_false]
theorem Keys.put {es : List (List Int × Int)} {N : List Int} (h : Keys es N) {g : Nat} (hg : g < N.length) {n : Nat} : Keys (putK [(g : Int)] (n : Int) es) (List.set N g (n : Int)) := by
 intro m hm
 rw [List.length_set] at hm
 rw [ZyU, Zdj N g m _ 0 hg]
 by_cases hgm : g = m
 ·subst hgm
  simp
 ·have : ¬ [(g : Int)] = [(m : Int)] := by simp; omega
  rw [if_neg this, if_neg hgm, h m hm]
theorem Zk7 (b : BoardD) (hb : boardOK b = true) : ∀ (r pre : List CellD) (es : List (List Int × Int)) (N : List Int) (o : List (List Int)), pre ++ r = b.2.2 → N.length = b.2.2.length → Below N o.length → o.length ≤ pre.length → Keys es N → (∀ u ∈ o, u.length ≤ pre.length) →
    Ev (fun k => Z2u k (groupsOf b) es o (pre ++ r) ((pre ++ r).length : Int) (pre.length : Int)) (unitsGo (groupsOf b) pre.length r N o)
  | [], pre, es, N, o, hp, hN, hB, hlen, hK, hu => by
    refine Ev.succ ?_
    simp only [Z2u, Zx, decide_false, Bool.false_eq_true, if_false, unitsGo]
    exact Ev.some _
  | x :: r, pre, es, N, o, hp, hN, hB, hlen, hK, hu => by
    obtain ⟨g1, g2, g3, g4, g5, g6⟩ := Zr hb
    have hpp := ZU g1 g2 g3 g4
    have hll : (pre ++ x :: r).length ≤ 90 := by rw [hp]; omega
    have hlt : pre.length < b.2.2.length := by rw [← hp]; simp
    have hx : List.getD b.2.2 pre.length (0, 0) = x := by rw [← hp]; exact Za _ _ _ _
    have hcast : ((pre ++ [x]).length : Int) = (pre.length : Int) + 1 := by simp
    have hp' : (pre ++ [x]) ++ r = b.2.2 := by rw [← hp]; simp
    have hpl : pre.length ≤ 90 := by omega
    have ol : o.length + 1 ≤ 140737488355328 / 24 := by omega
    have hu' : ∀ u ∈ o, u.length ≤ (pre ++ [x]).length := fun u h => by have := hu u h; simp; omega
    have ih := fun es N o h1 h2 h3 h4 h5 => Zk7 b hb r (pre ++ [x]) es N o hp' h1 h2 h3 h4 h5
    rw [← Z6, hcast] at ih
    have hgl : (pre.length : Int) < ((groupsOf b).length : Int) := by rw [Z3j]; omega
    refine Ev.succ ?_
    simp only [Z2u, Zk, ZA, decide_true, if_true, Int.toNat_natCast, Za, unitsGo, hgl, List.length_singleton, ol, decide_eq_true_eq]
    rw [Zj pre x r (by omega), hcast]
    by_cases h3 : x.1 = 3
    · simp only [h3, if_true]
      refine ih es N (o ++ [[(pre.length : Int)]]) hN (hB.more (by simp)) (by simp; omega) hK (fun u h => ?_)
      rcases List.mem_append.1 h with h | h
      · exact hu' u h
      · rw [List.mem_singleton.1 h]; simp
    · simp only [h3, if_false]
      by_cases h6 : x.1 = 6
      · have hg : geared x = true := by simp [geared, h6]
        have hG0 := Z8x b hlt (by rw [hx]; exact hg)
        have hG1 := Zc7 b _ (Zat (l := groupsOf b) (i := pre.length) (by rw [Z3j]; exact hlt) 0)
        generalize hgv : List.getD (groupsOf b) pre.length 0 = gI at *
        obtain ⟨g, rfl⟩ := Int.eq_ofNat_of_zero_le hG0
        have hgN : g < N.length := by rw [hN]; omega
        have hkey := hK g hgN
        have hNB := hB _ (Zat hgN 0)
        simp only [h6, if_true, hkey, Int.toNat_natCast]
        by_cases hneg : List.getD N g 0 < 0
        · have l1 : (o.length : Int) < ((o ++ [([] : List Int)]).length : Int) := by simp; omega
          have l2 : ([] : List Int).length + 1 ≤ 140737488355328 / 8 := by simp
          simp only [hneg, if_true, Option.isSome_none, Bool.not_false, l1, Za, List.nil_append, l2, Za6, ZA]
          refine ih _ _ (o ++ [[(pre.length : Int)]]) (by simpa using hN) ?_ (by simp; omega) (hK.put hgN) (fun u h => ?_)
          · intro y hy
            rcases List.mem_or_eq_of_mem_set hy with hy | rfl
            · have := hB y hy
              simp only [List.length_append, List.length_singleton]
              omega
            · simp only [List.length_append, List.length_singleton]
              omega
          · rcases List.mem_append.1 h with h | h
            · exact hu' u h
            · rw [List.mem_singleton.1 h]; simp
        · have l0 : (0 : Int) ≤ List.getD N g 0 := by omega
          have l1 := hNB.2
          have lno : (List.getD N g 0).toNat < o.length := by omega
          have hgo : List.getD o (List.getD N g 0).toNat [] ∈ o := ZyN lno []
          have l2 : (List.getD o (List.getD N g 0).toNat []).length + 1 ≤ 140737488355328 / 8 := by have := hu _ hgo; omega
          simp only [hneg, if_false, Option.isSome_some, Bool.not_true, Bool.false_eq_true, Option.getD_some, l0, l1, l2, if_true]
          refine ih es N _ hN (by rw [List.length_set]; exact hB) (by rw [List.length_set]; simp; omega) hK (fun u h => ?_)
          rcases List.mem_or_eq_of_mem_set h with h | rfl
          · exact hu' u h
          · have := hu _ hgo
            simp only [List.length_append, List.length_singleton]
            omega
      · simp only [h6, if_false]
        exact ih es N o hN hB (by simp; omega) hK hu'
theorem ZD5 (n : Nat) : Keys [] (List.replicate n (-1)) := by
 intro g hg
 simp only [List.length_replicate] at hg
 simp [findK, List.getD, List.getElem?_replicate, hg]
theorem Zwy (n : Nat) : Below (List.replicate n (-1)) 0 := fun x hx => by rw [(List.mem_replicate.1 hx).2]; simp
theorem Za7 (b : BoardD) (hb : boardOK b = true) : Ev (fun k => Z4i k b) (unitsP b) := by
 refine Ev.succ ?_
 simp only [Z4i]
 refine Ev.bind (Zbd b hb) ?_
 refine Ev.bind (Zk7 b hb b.2.2 [] [] (List.replicate b.2.2.length (-1)) [] rfl (by simp) (Zwy _) (Nat.le_refl _) (ZD5 _) (by simp)) ?_
 exact Ev.some _
theorem Zjc (b : BoardD) (G : List Int) (m : Int) : ∀ (r pre : List Int), m = ((pre ++ r).length : Int) → (pre ++ r).length ≤ 1000 → Ev (fun k => Z66 k b.1 b.2.1 b.2.2 G (pre ++ r) m (pre.length : Int)) (b.1, b.2.1, b.2.2, G, pre ++ List.replicate r.length (-1))
 | [], pre, hm, hl => by
  refine Ev.succ ?_
  have : ¬ (pre.length : Int) < m := by rw [hm]; exact Zx pre
  simp only [Z66, this, decide_false, Bool.false_eq_true, if_false]
  exact Ev.some _
 | x :: r, pre, hm, hl => by
  have ih := Zjc b G m r (pre ++ [-1]) (by rw [hm]; simp) (by simpa using hl)
  have h1 : (pre.length : Int) < m := by rw [hm]; exact Zk pre x r
  refine Ev.succ ?_
  simp only [Z66, h1, Zk, ZA, decide_true, if_true, Int.toNat_natCast, Za6]
  rw [Zj pre x r (by omega), Z6]
  simp only [List.length_append, List.length_singleton] at ih ⊢
  refine ih.congr ?_
  simp [List.replicate_succ]
theorem ZjH (b : BoardD) (hb : boardOK b = true) : ∀ (r pre : List CellD) (N : List Int) (o : List (List Int)), pre ++ r = b.2.2 → N.length = b.2.2.length → Below N o.length → o.length ≤ pre.length → (∀ u ∈ o, u.length ≤ pre.length) →
    Ev (fun k => Z1d k (groupsOf b) N o (pre ++ r) ((pre ++ r).length : Int) (pre.length : Int)) (unitsGo (groupsOf b) pre.length r N o)
  | [], pre, N, o, hp, hN, hB, hlen, hu => by
    refine Ev.succ ?_
    simp only [Z1d, Zx, decide_false, Bool.false_eq_true, if_false, unitsGo]
    exact Ev.some _
  | x :: r, pre, N, o, hp, hN, hB, hlen, hu => by
    obtain ⟨g1, g2, g3, g4, g5, g6⟩ := Zr hb
    have hpp := ZU g1 g2 g3 g4
    have hll : (pre ++ x :: r).length ≤ 90 := by rw [hp]; omega
    have hlt : pre.length < b.2.2.length := by rw [← hp]; simp
    have hx : List.getD b.2.2 pre.length (0, 0) = x := by rw [← hp]; exact Za _ _ _ _
    have hcast : ((pre ++ [x]).length : Int) = (pre.length : Int) + 1 := by simp
    have hp' : (pre ++ [x]) ++ r = b.2.2 := by rw [← hp]; simp
    have hpl : pre.length ≤ 90 := by omega
    have ol : o.length + 1 ≤ 140737488355328 / 24 := by omega
    have hu' : ∀ u ∈ o, u.length ≤ (pre ++ [x]).length := fun u h => by have := hu u h; simp; omega
    have ih := fun N o h1 h2 h3 h5 => ZjH b hb r (pre ++ [x]) N o hp' h1 h2 h3 h5
    rw [← Z6, hcast] at ih
    have hgl : (pre.length : Int) < ((groupsOf b).length : Int) := by rw [Z3j]; omega
    refine Ev.succ ?_
    simp only [Z1d, Zk, ZA, decide_true, if_true, Int.toNat_natCast, Za, unitsGo, hgl, List.length_singleton, ol, decide_eq_true_eq]
    rw [Zj pre x r (by omega), hcast]
    by_cases h3 : x.1 = 3
    · simp only [h3, if_true]
      refine ih N (o ++ [[(pre.length : Int)]]) hN (hB.more (by simp)) (by simp; omega) (fun u h => ?_)
      rcases List.mem_append.1 h with h | h
      · exact hu' u h
      · rw [List.mem_singleton.1 h]; simp
    · simp only [h3, if_false]
      by_cases h6 : x.1 = 6
      · have hg : geared x = true := by simp [geared, h6]
        have hG0 := Z8x b hlt (by rw [hx]; exact hg)
        have hG1 := Zc7 b _ (Zat (l := groupsOf b) (i := pre.length) (by rw [Z3j]; exact hlt) 0)
        generalize hgv : List.getD (groupsOf b) pre.length 0 = gI at *
        obtain ⟨g, rfl⟩ := Int.eq_ofNat_of_zero_le hG0
        have hgN : g < N.length := by rw [hN]; omega
        have hNB := hB _ (Zat hgN 0)
        have hgI : (g : Int) < (N.length : Int) := by omega
        have hg0 : (0 : Int) ≤ (g : Int) := Int.natCast_nonneg _
        simp only [h6, if_true, Int.toNat_natCast, hgI, hg0]
        by_cases hneg : List.getD N g 0 < 0
        · simp only [hneg, if_true]
          refine ih _ (o ++ [[(pre.length : Int)]]) (by simpa using hN) ?_ (by simp; omega) (fun u h => ?_)
          · intro y hy
            rcases List.mem_or_eq_of_mem_set hy with hy | rfl
            · have := hB y hy
              simp only [List.length_append, List.length_singleton]
              omega
            · simp only [List.length_append, List.length_singleton]
              omega
          · rcases List.mem_append.1 h with h | h
            · exact hu' u h
            · rw [List.mem_singleton.1 h]; simp
        · have l0 : (0 : Int) ≤ List.getD N g 0 := by omega
          have l1 := hNB.2
          have lno : (List.getD N g 0).toNat < o.length := by omega
          have hgo : List.getD o (List.getD N g 0).toNat [] ∈ o := ZyN lno []
          have l2 : (List.getD o (List.getD N g 0).toNat []).length + 1 ≤ 140737488355328 / 8 := by have := hu _ hgo; omega
          simp only [hneg, if_false, Z3m, ZA, hgl, if_true, hgv, Int.toNat_natCast, hgI, hg0, l0, l1, l2, List.length_singleton]
          refine Ev.bind (Ev.some _) ?_
          simp only [Zj pre x r (by omega), hcast]
          refine ih N _ hN (by rw [List.length_set]; exact hB) (by rw [List.length_set]; simp; omega) (fun u h => ?_)
          rcases List.mem_or_eq_of_mem_set h with h | rfl
          · exact hu' u h
          · have := hu _ hgo
            simp only [List.length_append, List.length_singleton]
            omega
      · simp only [h6, if_false]
        exact ih N o hN hB (by simp; omega) hu'
theorem Z5Y (b : BoardD) (hb : boardOK b = true) : Ev (fun k => Z2z k b) (unitsP b) := by
 obtain ⟨g1, g2, g3, g4, g5, g6⟩ := Zr hb
 have hpp := ZU g1 g2 g3 g4
 have hm : b.2.2.length * 8 ≤ 281474976710656 := by omega
 refine Ev.succ ?_
 simp only [Z2z]
 refine Ev.bind (Zlg b hb) ?_
 simp only [Int.toNat_natCast, hm, if_true]
 refine Ev.bind (Zjc b (groupsOf b) _ (List.replicate b.2.2.length 0) [] rfl (by simp; omega)) ?_
 simp only [List.nil_append, List.length_replicate]
 refine Ev.bind (ZjH b hb b.2.2 [] (List.replicate b.2.2.length (-1)) [] rfl (by simp) (Zwy _) (Nat.le_refl _) (by simp)) ?_
 exact Ev.some _
theorem Zgp (b : BoardD) (hb : boardOK b = true) : (unitsP b).length ≤ 90 := by
 obtain ⟨g1, g2, g3, g4, g5, g6⟩ := Zr hb
 have hpp := ZU g1 g2 g3 g4
 have := (Z9m b).2
 omega
theorem ZO (b : BoardD) : Units (unitsP b) b.2.2.length := (Z9m b).1.units
end Go.Proofs.Ytglkedenkcpcbaa.Vs

set_option linter.unusedVariables false
set_option linter.unusedSimpArgs false
namespace Go.Proofs.Ytglkedenkcpcbaa.Vs
open Go.RowKit
def Heads (us : List (List Int)) (n : Nat) : Prop := ∀ u ∈ us, 0 < u.length ∧ 0 ≤ List.getD u 0 0 ∧ List.getD u 0 0 < (n : Int)
theorem Units.heads {us : List (List Int)} {n : Nat} (h : Units us n) : Heads us n := fun u hu => by
 have h1 := h.on u hu _ (Zg9 (h.some u hu))
 exact ⟨List.length_pos_iff.2 (h.some u hu), h1.1, h1.2⟩
theorem Zl9 (R C : Int) (o : List CellD) : ∀ (r pre : List (List Int)) (w : List Int), Heads r o.length → (pre ++ r).length ≤ 1000 → w.length = pre.length →
    Ev (fun k => Z6V k R C o w (pre ++ r) ((pre ++ r).length : Int) (pre.length : Int)) (w ++ bitsP o r)
  | [], pre, w, hh, hl, hw => by
    refine Ev.succ ?_
    simp only [Z6V, Zx, decide_false, Bool.false_eq_true, if_false]
    exact (Ev.some _).congr (by simp [bitsP])
  | u :: r, pre, w, hh, hl, hw => by
    obtain ⟨h1, h2, h3⟩ := hh u (List.mem_cons_self ..)
    have h1' : (0 : Int) < (u.length : Int) := by omega
    have hwl : w.length + 1 ≤ 140737488355328 / 8 := by simp at hl; omega
    have ih := Zl9 R C o r (pre ++ [u]) (w ++ [bitOf o u]) (fun v hv => hh v (List.mem_cons_of_mem _ hv)) (by simpa using hl) (by simp [hw])
    refine Ev.succ ?_
    simp only [Z6V, Zk, ZA, decide_true, if_true, Int.toNat_natCast, Za, Int.toNat_zero, h1', h2, h3, List.length_singleton, hwl]
    rw [Zj pre u r (by omega)]
    rw [← Z6] at ih
    refine ih.congr ?_
    simp [bitsP]
theorem ZdC (b : BoardD) (hb : boardOK b = true) : Ev (fun k => Z7i k b) (bitsP b.2.2 (unitsP b)) := by
 have hs := Zgp b hb
 refine Ev.succ ?_
 simp only [Z7i]
 refine Ev.bind (Za7 b hb) ?_
 refine Ev.bind (Zl9 b.1 b.2.1 b.2.2 (unitsP b) [] [] (ZO b).heads (by simp; omega) rfl) ?_
 exact Ev.some _
theorem Zlh (R C : Int) (o : List CellD) : ∀ (r pre : List (List Int)) (w : List Int), Heads r o.length → (pre ++ r).length ≤ 1000 → w.length = pre.length →
    Ev (fun k => Z79 k R C o w (pre ++ r) ((pre ++ r).length : Int) (pre.length : Int)) (w ++ bitsP o r)
  | [], pre, w, hh, hl, hw => by
    refine Ev.succ ?_
    simp only [Z79, Zx, decide_false, Bool.false_eq_true, if_false]
    exact (Ev.some _).congr (by simp [bitsP])
  | u :: r, pre, w, hh, hl, hw => by
    obtain ⟨h1, h2, h3⟩ := hh u (List.mem_cons_self ..)
    have h1' : (0 : Int) < (u.length : Int) := by omega
    have hwl : w.length + 1 ≤ 140737488355328 / 8 := by simp at hl; omega
    have ih := Zlh R C o r (pre ++ [u]) (w ++ [bitOf o u]) (fun v hv => hh v (List.mem_cons_of_mem _ hv)) (by simpa using hl) (by simp [hw])
    refine Ev.succ ?_
    simp only [Z79, Zk, ZA, decide_true, if_true, Int.toNat_natCast, Za, Int.toNat_zero, h1', h2, h3, List.length_singleton, hwl]
    rw [Zj pre u r (by omega)]
    rw [← Z6] at ih
    refine ih.congr ?_
    simp [bitsP]
theorem ZyZ (b : BoardD) (hb : boardOK b = true) : Ev (fun k => ZdN k b) (bitsP b.2.2 (unitsP b)) := by
 have hs := Zgp b hb
 refine Ev.succ ?_
 simp only [ZdN]
 refine Ev.bind (Z5Y b hb) ?_
 refine Ev.bind (Zlh b.1 b.2.1 b.2.2 (unitsP b) [] [] (ZO b).heads (by simp; omega) rfl) ?_
 exact Ev.some _
theorem ZbM {o : List CellD} (ho : ∀ c ∈ o, isBit c.2) {us : List (List Int)} (h : Units us o.length) : ∀ x ∈ bitsP o us, isBit x := by
 intro x hx
 obtain ⟨u, hu, rfl⟩ := List.mem_map.1 hx
 have h1 := h.on u hu _ (Zg9 (h.some u hu))
 exact ho _ (Z8z h1.1 h1.2 (0, 0))
theorem Zi4 : ∀ (r pre : List Int), (∀ x ∈ pre ++ r, isBit x) → (pre ++ r).length ≤ 40 → Ev (fun k => Z5e k (numP pre) (pre ++ r) ((pre ++ r).length : Int) (pre.length : Int)) (numP (pre ++ r))
 | [], pre, hb, hl => by
  refine Ev.succ ?_
  simp only [Z5e, Zx, decide_false, Bool.false_eq_true, if_false]
  exact (Ev.some _).congr (by simp)
 | x :: r, pre, hb, hl => by
  have ih := Zi4 r (pre ++ [x]) (by simpa using hb) (by simpa using hl)
  have hx := hb x (by simp)
  have hpl : pre.length ≤ 40 := by simp at hl; omega
  have hr := Ziz pre (fun y hy => hb y (List.mem_append_left _ hy))
  refine Ev.succ ?_
  have hneg : ¬ (pre.length : Int) < 0 := by omega
  simp only [Z5e, Zk, ZA, decide_true, if_true, hneg, if_false, Int.toNat_natCast, Za]
  rw [Zy1 hx hpl, ZDK hx hpl hr.1 hr.2, ← Zr5, Zj pre x r (by omega)]
  rw [← Z6] at ih
  exact ih
theorem Z8S (xs : List Int) (hb : ∀ x ∈ xs, isBit x) (hl : xs.length ≤ 40) : Ev (fun k => Z3R k xs) (numP xs) := by
 refine Ev.succ ?_
 simp only [Z3R]
 exact Ev.bind (Zi4 xs [] (by simpa using hb) (by simpa using hl)) (Ev.some _)
theorem ZhV : ∀ (r pre : List Int), (∀ x ∈ pre ++ r, isBit x) → (pre ++ r).length ≤ 40 → Ev (fun k => Z5g k (pre ++ r) (numP pre) ((pre ++ r).length : Int) (pre.length : Int)) (numP (pre ++ r))
 | [], pre, hb, hl => by
  refine Ev.succ ?_
  simp only [Z5g, Zx, decide_false, Bool.false_eq_true, if_false]
  exact (Ev.some _).congr (by simp)
 | x :: r, pre, hb, hl => by
  have ih := ZhV r (pre ++ [x]) (by simpa using hb) (by simpa using hl)
  have hx := hb x (by simp)
  have hpl : pre.length ≤ 40 := by simp at hl; omega
  have hr := Ziz pre (fun y hy => hb y (List.mem_append_left _ hy))
  have hp := Zlr hpl
  have h2 : x * 2 ^ pre.length = 0 ∨ x * 2 ^ pre.length = 2 ^ pre.length := by rcases hx with rfl | rfl <;> simp
  refine Ev.succ ?_
  have hneg : ¬ (pre.length : Int) < 0 := by omega
  simp only [Z5g, Zk, ZA, decide_true, if_true, ZvF (Int.natCast_nonneg pre.length) (by omega), hneg, if_false, Int.toNat_natCast, Za]
  rw [Zy1 hx hpl, w64 (by omega) (by omega), ← Zr5, Zj pre x r (by omega)]
  rw [← Z6] at ih
  exact ih
theorem Z4b {b : BoardD} (hb : boardOK b = true) : ∀ c ∈ b.2.2, isBit c.2 := fun c hc => Zg5 ((Zr hb).2.2.2.2.2 c hc)
theorem Z8K (o : List CellD) (us : List (List Int)) : (bitsP o us).length = us.length := by simp [bitsP]
theorem Z93 (b : BoardD) (hb : boardOK b = true) (hu : (unitsP b).length ≤ 40) : Ev (fun k => Z3P k b) (numP (bitsP b.2.2 (unitsP b))) := by
 refine Ev.succ ?_
 simp only [Z3P]
 refine Ev.bind (ZyZ b hb) ?_
 exact Ev.bind (ZhV (bitsP b.2.2 (unitsP b)) [] (by simpa using ZbM (Z4b hb) (ZO b)) (by rw [List.nil_append, Z8K]; exact hu)) (Ev.some _)
theorem ZiW (v : Int) (h0 : 0 ≤ v) (h1 : v < 1099511627776) (m : Int) : ∀ (r pre : List Int), m = ((pre ++ r).length : Int) → (pre ++ r).length ≤ 40 → pre = bitsN pre.length v → Ev (fun k => Z5M k (pre ++ r) v m (pre.length : Int)) (bitsN (pre ++ r).length v)
 | [], pre, hm, hl, hp => by
  refine Ev.succ ?_
  have : ¬ (pre.length : Int) < m := by rw [hm]; exact Zx pre
  simp only [Z5M, this, decide_false, Bool.false_eq_true, if_false]
  exact (Ev.some _).congr (by simp only [List.append_nil]; exact hp)
 | x :: r, pre, hm, hl, hp => by
  have hpl : pre.length ≤ 40 := by simp at hl; omega
  have hlt : (pre.length : Int) < m := by rw [hm]; exact Zk pre x r
  have ih := ZiW v h0 h1 m r (pre ++ [v / 2 ^ pre.length % 2]) (by rw [hm]; simp) (by simpa using hl) (by simp only [List.length_append, List.length_singleton]; rw [Zx6, ← hp])
  refine Ev.succ ?_
  have hneg : ¬ (pre.length : Int) < 0 := by omega
  simp only [Z5M, hlt, Zk, ZA, decide_true, if_true, hneg, if_false]
  rw [Zpl h0 h1 hpl, Zj pre x r (by omega)]
  simp only [Int.toNat_natCast, Za6]
  rw [Z6]
  simp only [List.length_append, List.length_singleton] at ih ⊢
  refine ih.congr ?_
  congr 1
  simp only [List.length_cons]
  omega
theorem Zy6 (v : Int) (h0 : 0 ≤ v) (h1 : v < 1099511627776) (u : Nat) (hu : u ≤ 40) : Ev (fun k => Zcw k v (u : Int)) (bitsN u v) := by
 have hm : u * 8 ≤ 281474976710656 := by omega
 refine Ev.succ ?_
 simp only [Zcw, Int.natCast_nonneg, if_true, Int.toNat_natCast, hm]
 refine Ev.bind (ZiW v h0 h1 _ (List.replicate u 0) [] rfl (by simpa using hu) rfl) ?_
 exact (Ev.some _).congr (by simp)
theorem ZpT (b1 b2 : Int) (b3 : List CellD) (c1 c2 : Int) (c3 : List CellD) (v : Int) (h0 : 0 ≤ v) (h1 : v < 1099511627776) : ∀ (n m : Nat), n + m ≤ 40 → Ev (fun k => Z8B k b1 b2 b3 c1 c2 c3 (bitsN m v) v ((m + n : Nat) : Int) (m : Int)) (b1, b2, b3, c1, c2, c3, bitsN (m + n) v)
 | 0, m, hl => by
  refine Ev.succ ?_
  have : ¬ (m : Int) < ((m + 0 : Nat) : Int) := by omega
  simp only [Z8B, this, decide_false, Bool.false_eq_true, if_false]
  exact Ev.some _
 | n + 1, m, hl => by
  have hlt : (m : Int) < ((m + (n + 1) : Nat) : Int) := by omega
  have hneg : ¬ (m : Int) < 0 := by omega
  have ih := ZpT b1 b2 b3 c1 c2 c3 v h0 h1 n (m + 1) (by omega)
  have hbl : m + 1 ≤ 140737488355328 / 8 := by omega
  have hw : wrap64 ((m : Int) + 1) = ((m + 1 : Nat) : Int) := by rw [w64 (by omega) (by omega)]; omega
  refine Ev.succ ?_
  simp only [Z8B, hlt, decide_true, if_true, ZvF (Int.natCast_nonneg m) (by omega), hneg, if_false, List.length_singleton, Z6D, hbl]
  rw [Zpl h0 h1 (by omega), ← Zx6, hw]
  rw [show m + 1 + n = m + (n + 1) by omega] at ih
  exact ih
theorem ZAm {o : List CellD} (ho : ∀ c ∈ o, isBit c.2) {m : Int} (h0 : 0 ≤ m) (h1 : m < (o.length : Int)) : ((List.getD o m.toNat (0, 0)).1, wrap64 (1 - (List.getD o m.toNat (0, 0)).2)) = flipC (cellAt o m) := by
 have h := ho _ (Z8z h0 h1 (0, 0))
 unfold flipC cellAt
 rw [w64 (by unfold isBit at h; omega) (by unfold isBit at h; omega)]
theorem Zgl {o : List CellD} (ho : ∀ c ∈ o, isBit c.2) {m : Int} (h0 : 0 ≤ m) (h1 : m < (o.length : Int)) : ∀ c ∈ flipAt o m, isBit c.2 := by
 intro c hc
 rcases List.mem_or_eq_of_mem_set hc with hc | rfl
 ·exact ho c hc
 ·exact ZDb (ho _ (Z8z h0 h1 (0, 0)))
theorem Zf1 : ∀ (u : List Int) (o : List CellD), (∀ c ∈ o, isBit c.2) → (∀ m ∈ u, 0 ≤ m ∧ m < (o.length : Int)) → ∀ c ∈ turnU u o, isBit c.2
 | [], o, ho, hu => ho
 | m :: u, o, ho, hu => by
  obtain ⟨h0, h1⟩ := hu m (List.mem_cons_self ..)
  exact Zf1 u (flipAt o m) (Zgl ho h0 h1) (fun i hi => by have := hu i (List.mem_cons_of_mem _ hi); simpa [flipAt] using this)
theorem ZjX (d1 d2 : Int) (d3 : List Int) (d4 : List (List Int)) (d5 d6 : Int) : ∀ (r pre : List Int) (o : List CellD), (∀ c ∈ o, isBit c.2) → (∀ m ∈ r, 0 ≤ m ∧ m < (o.length : Int)) → (pre ++ r).length ≤ 1000 →
    Ev (fun k => Z62 k o d1 d2 d3 d4 d5 d6 (pre ++ r) ((pre ++ r).length : Int) (pre.length : Int)) (turnU r o, d1, d2, d3, d4, d5, d6)
  | [], pre, o, ho, hr, hl => by
    refine Ev.succ ?_
    simp only [Z62, Zx, decide_false, Bool.false_eq_true, if_false]
    exact Ev.some _
  | m :: r, pre, o, ho, hr, hl => by
    obtain ⟨h0, h1⟩ := hr m (List.mem_cons_self ..)
    have ih := ZjX d1 d2 d3 d4 d5 d6 r (pre ++ [m]) (flipAt o m) (Zgl ho h0 h1) (fun i hi => by have := hr i (List.mem_cons_of_mem _ hi); simpa [flipAt] using this) (by simpa using hl)
    refine Ev.succ ?_
    simp only [Z62, Zk, ZA, decide_true, if_true, Int.toNat_natCast, Za, h0, h1]
    rw [ZAm ho h0 h1, Zj pre m r (by omega)]
    rw [← Z6] at ih
    exact ih
theorem Zju (d1 d2 : Int) : ∀ (r pre : List (List Int)) (ys xs : List Int) (o : List CellD), Units r o.length → (∀ c ∈ o, isBit c.2) → (∀ u ∈ r, u.length ≤ 1000) → (pre ++ r).length ≤ 1000 → ys.length = pre.length → xs.length = r.length →
    Ev (fun k => Z4e k o d1 d2 (ys ++ xs) (pre ++ r) ((pre ++ r).length : Int) (pre.length : Int)) (setGo r xs o)
  | [], pre, ys, xs, o, hU, ho, hr, hl, hy, hx => by
    refine Ev.succ ?_
    simp only [Z4e, Zx, decide_false, Bool.false_eq_true, if_false]
    exact (Ev.some _).congr (by simp [setGo])
  | u :: r, pre, ys, [], o, hU, ho, hr, hl, hy, hx => by simp at hx
  | u :: r, pre, ys, x :: xs, o, hU, ho, hr, hl, hy, hx => by
    have hon := hU.on u (List.mem_cons_self ..)
    obtain ⟨p1, p2, p3⟩ := hU.heads u (List.mem_cons_self ..)
    have p1' : (0 : Int) < (u.length : Int) := by omega
    have hlt2 : (pre.length : Int) < ((ys ++ x :: xs).length : Int) := by simp; omega
    have hg : List.getD (ys ++ x :: xs) pre.length 0 = x := by rw [← hy]; exact Za _ _ _ _
    have ih := fun o h1 h2 => Zju d1 d2 r (pre ++ [u]) (ys ++ [x]) xs o h1 h2 (fun v hv => hr v (List.mem_cons_of_mem _ hv)) (by simpa using hl) (by simp [hy]) (by simpa using hx)
    rw [← Z6, ← Z6] at ih
    refine Ev.succ ?_
    simp only [Z4e, Zk, ZA, decide_true, if_true, Int.toNat_natCast, Za, Int.toNat_zero, p1', p2, p3, hlt2, hg, decide_eq_true_eq, setGo]
    by_cases hbx : bitOf o u = x
    · have hbx' : (List.getD o (List.getD u 0 0).toNat (0, 0)).2 = x := hbx
      simp only [hbx', hbx, if_true]
      rw [Zj pre u r (by omega)]
      exact ih o hU.tail ho
    · have hbx' : ¬ (List.getD o (List.getD u 0 0).toNat (0, 0)).2 = x := hbx
      simp only [hbx', hbx, if_false]
      refine Ev.bind (ZjX d1 d2 (ys ++ x :: xs) (pre ++ u :: r) _ _ u [] o ho hon (by simpa using hr u (List.mem_cons_self ..))) ?_
      simp only
      rw [Zj pre u r (by omega)]
      exact ih (turnU u o) (by rw [Z21]; exact hU.tail) (Zf1 u o ho hon)
theorem Zyb (R C : Int) (o : List CellD) (us : List (List Int)) (xs : List Int) (hU : Units us o.length) (ho : ∀ c ∈ o, isBit c.2) (hr : ∀ u ∈ us, u.length ≤ 1000) (hl : us.length ≤ 1000) (hx : xs.length = us.length) : Ev (fun k => Zcq k (R, C, o) us xs) (setGo us xs o) := by
 refine Ev.succ ?_
 simp only [Zcq]
 exact Ev.bind (Zju R C us [] [] xs o hU ho hr (by simpa using hl) rfl hx) (Ev.some _)
theorem ZxR (x : CellD) (h : isBit x.2) : Ev (fun k => Z5m k x) (flipC x) := by
 refine Ev.succ ?_
 simp only [Z5m]
 refine Ev.of ?_
 unfold flipC
 rw [w64 (by unfold isBit at h; omega) (by unfold isBit at h; omega)]
theorem Zl2 (d1 d2 : Int) : ∀ (r pre : List Int) (o : List CellD), (∀ c ∈ o, isBit c.2) → (∀ m ∈ r, 0 ≤ m ∧ m < (o.length : Int)) → (pre ++ r).length ≤ 1000 →
    Ev (fun k => Z77 k o d1 d2 (pre ++ r) ((pre ++ r).length : Int) (pre.length : Int)) (turnU r o)
  | [], pre, o, ho, hr, hl => by
    refine Ev.succ ?_
    simp only [Z77, Zx, decide_false, Bool.false_eq_true, if_false]
    exact Ev.some _
  | m :: r, pre, o, ho, hr, hl => by
    obtain ⟨h0, h1⟩ := hr m (List.mem_cons_self ..)
    have ih := Zl2 d1 d2 r (pre ++ [m]) (flipAt o m) (Zgl ho h0 h1) (fun i hi => by have := hr i (List.mem_cons_of_mem _ hi); simpa [flipAt] using this) (by simpa using hl)
    have hp := ZxR (cellAt o m) (ho _ (Z8z h0 h1 (0, 0)))
    refine Ev.succ ?_
    simp only [Z77, Zk, ZA, decide_true, if_true, Int.toNat_natCast, Za, h0, h1]
    refine Ev.bind (a := flipC (cellAt o m)) hp ?_
    rw [Zj pre m r (by omega)]
    rw [← Z6] at ih
    exact ih
theorem Zpt (R C : Int) (o : List CellD) (u : List Int) (ho : ∀ c ∈ o, isBit c.2) (hu : ∀ m ∈ u, 0 ≤ m ∧ m < (o.length : Int)) (hl : u.length ≤ 1000) : Ev (fun k => ZaU k (R, C, o) u) (turnU u o) := by
 refine Ev.succ ?_
 simp only [ZaU]
 exact Ev.bind (Zl2 R C u [] o ho hu (by simpa using hl)) (Ev.some _)
theorem Zlt (L : List CellD) (d0 d1 d2 d3 : Int) (d4 : List CellD) (d5 d6 : Int) : ∀ (r pre : List (List Int)) (ys xs : List Int) (o : List CellD), o.length = L.length → Units r o.length → (∀ u ∈ r, bitOf o u = bitOf L u) → (∀ c ∈ o, isBit c.2) → (∀ u ∈ r, u.length ≤ 1000) → (pre ++ r).length ≤ 1000 → ys.length = pre.length → xs.length = r.length →
    Ev (fun k => Z4Y k d0 d1 L d2 d3 d4 d5 d6 o (pre ++ r) (ys ++ xs) ((pre ++ r).length : Int) (pre.length : Int)) (d2, d3, d4, d5, d6, setGo r xs o)
  | [], pre, ys, xs, o, hL, hU, hsame, ho, hr, hl, hy, hx => by
    refine Ev.succ ?_
    simp only [Z4Y, Zx, decide_false, Bool.false_eq_true, if_false]
    exact (Ev.some _).congr (by simp [setGo])
  | u :: r, pre, ys, [], o, hL, hU, hsame, ho, hr, hl, hy, hx => by simp at hx
  | u :: r, pre, ys, x :: xs, o, hL, hU, hsame, ho, hr, hl, hy, hx => by
    have hon := hU.on u (List.mem_cons_self ..)
    obtain ⟨p1, p2, p3⟩ := hU.heads u (List.mem_cons_self ..)
    rw [hL] at p3
    have p1' : (0 : Int) < (u.length : Int) := by omega
    have hlt2 : (pre.length : Int) < ((ys ++ x :: xs).length : Int) := by simp; omega
    have hg : List.getD (ys ++ x :: xs) pre.length 0 = x := by rw [← hy]; exact Za _ _ _ _
    have hs := hsame u (List.mem_cons_self ..)
    have ih := fun o h0 h1 h2 h3 => Zlt L d0 d1 d2 d3 d4 d5 d6 r (pre ++ [u]) (ys ++ [x]) xs o h0 h1 h2 h3 (fun v hv => hr v (List.mem_cons_of_mem _ hv)) (by simpa using hl) (by simp [hy]) (by simpa using hx)
    rw [← Z6, ← Z6] at ih
    refine Ev.succ ?_
    simp only [Z4Y, Zk, ZA, decide_true, if_true, Int.toNat_natCast, Za, Int.toNat_zero, p1', p2, p3, hlt2, hg, decide_eq_true_eq, setGo, ne_eq, ite_not]
    by_cases hbx : bitOf o u = x
    · have hbx' : (List.getD L (List.getD u 0 0).toNat (0, 0)).2 = x := hs.symm.trans hbx
      simp only [hbx', hbx, if_true]
      rw [Zj pre u r (by omega)]
      exact ih o hL hU.tail (fun v hv => hsame v (List.mem_cons_of_mem _ hv)) ho
    · have hbx' : ¬ (List.getD L (List.getD u 0 0).toNat (0, 0)).2 = x := fun h => hbx (hs.trans h)
      simp only [hbx', hbx, if_false]
      refine Ev.bind (Zpt d5 d6 o u ho hon (hr u (List.mem_cons_self ..))) ?_
      rw [Zj pre u r (by omega)]
      exact ih (turnU u o) (by rw [Z21]; exact hL) (by rw [Z21]; exact hU.tail) (fun v hv => (Zjy hU rfl hv).trans (hsame v (List.mem_cons_of_mem _ hv))) (Zf1 u o ho hon)
theorem ZCG {n : Nat} {u : List Int} (h : u.Nodup) (hon : ∀ m ∈ u, 0 ≤ m ∧ m < (n : Int)) : u.length ≤ n := by
 have h1 : (u.map Int.toNat).Nodup := by
  rw [List.nodup_iff_pairwise_ne, List.pairwise_map]
  rw [List.nodup_iff_pairwise_ne] at h
  refine List.Pairwise.imp_of_mem ?_ h
  intro a b ha hb hab hc
  have := hon a ha
  have := hon b hb
  omega
 have h2 : (u.map Int.toNat) ⊆ List.range n := by
  intro x hx
  obtain ⟨m, hm, rfl⟩ := List.mem_map.1 hx
  have := hon m hm
  rw [List.mem_range]
  omega
 have := h1.length_le_of_subset h2
 simpa using this
theorem Zlv (b : BoardD) (hb : boardOK b = true) : ∀ u ∈ unitsP b, u.length ≤ 1000 := by
 intro u hu
 obtain ⟨g1, g2, g3, g4, g5, g6⟩ := Zr hb
 have hpp := ZU g1 g2 g3 g4
 have := ZCG ((ZO b).once u hu) ((ZO b).on u hu)
 omega
def stateN (b : BoardD) (n : Int) : List CellD := setGo (unitsP b) (bitsN (unitsP b).length n) b.2.2
theorem ZBH (b : BoardD) (hb : boardOK b = true) (hu : (unitsP b).length ≤ 40) (v : Int) (h0 : 0 ≤ v) (h1 : v < 1099511627776) : Ev (fun k => Zgm k b v) (b.1, b.2.1, stateN b v) := by
 obtain ⟨g1, g2, g3, g4, g5, g6⟩ := Zr hb
 have hpp := ZU g1 g2 g3 g4
 refine Ev.succ ?_
 simp only [Zgm]
 refine Ev.bind (Z5Y b hb) ?_
 have h2 := ZpT b.1 b.2.1 b.2.2 0 0 [] v h0 h1 (unitsP b).length 0 (by omega)
 simp only [Nat.zero_add] at h2
 refine Ev.bind h2 ?_
 have h3 : Ev (fun k => ZdQ k b (bitsN (unitsP b).length v)) (b.1, b.2.1, stateN b v) := by
  refine Ev.succ ?_
  simp only [ZdQ]
  refine Ev.bind (Zf6 b (by omega)) (Ev.bind (Z5Y b hb) ?_)
  exact Ev.bind (Zlt b.2.2 b.1 b.2.1 0 0 [] b.1 b.2.1 (unitsP b) [] [] (bitsN (unitsP b).length v) b.2.2 rfl (ZO b) (fun _ _ => rfl) (Z4b hb) (Zlv b hb) (by simp; omega) rfl (Z6D _ _)) (Ev.some _)
 exact Ev.bind h3 (Ev.some _)
theorem Z9Z (b : BoardD) (hb : boardOK b = true) (n : Int) : (∀ c ∈ stateN b n, cellOK c = true) ∧ (stateN b n).map Prod.fst = b.2.2.map Prod.fst :=
 ZBX (unitsP b) _ b.2.2 (fun u hu m hm => (Z9m b).1.on u hu m hm) (Zr hb).2.2.2.2.2
theorem Zay (b : BoardD) (n : Int) : (stateN b n).length = b.2.2.length := Zlm _ _ _
theorem Zrd (b : BoardD) (hb : boardOK b = true) (n : Int) : boardOK (b.1, b.2.1, stateN b n) = true := Zvu hb (Zay b n) (Z9Z b hb n).1
theorem Zsk (b : BoardD) (hb : boardOK b = true) (n : Int) : unitsP (b.1, b.2.1, stateN b n) = unitsP b := Zfa (b := (b.1, b.2.1, stateN b n)) (b' := b) rfl rfl (Z9Z b hb n).2
theorem ZpV (b : BoardD) (hb : boardOK b = true) (n : Int) : groupsOf (b.1, b.2.1, stateN b n) = groupsOf b := Znn (b := (b.1, b.2.1, stateN b n)) (b' := b) rfl rfl (Z9Z b hb n).2
theorem ZB4 (b : BoardD) (hb : boardOK b = true) (n : Int) : bitsP (stateN b n) (unitsP b) = bitsN (unitsP b).length n := ZwW (ZO b) (Z6D _ _) (Zs5 _ _) (Z4b hb)
def numB (b : BoardD) : Int := numP (bitsP b.2.2 (unitsP b))
theorem Z7H (b : BoardD) (hb : boardOK b = true) : 0 ≤ numB b ∧ numB b < 2 ^ (unitsP b).length := by
 have := Ziz (bitsP b.2.2 (unitsP b)) (ZbM (Z4b hb) (ZO b))
 rw [Z8K] at this
 exact this
theorem ZBb (b : BoardD) (hb : boardOK b = true) (n : Int) (h0 : 0 ≤ n) (h1 : n < 2 ^ (unitsP b).length) : numB (b.1, b.2.1, stateN b n) = n := by
 show numP (bitsP (stateN b n) (unitsP (b.1, b.2.1, stateN b n))) = n
 rw [Zsk b hb, ZB4 b hb, ZwP _ _ h0 h1]
theorem Zux (b : BoardD) (hb : boardOK b = true) : stateN b (numB b) = b.2.2 := by
 unfold stateN numB
 have h := ZoC (bitsP b.2.2 (unitsP b)) (ZbM (Z4b hb) (ZO b))
 rw [Z8K] at h
 rw [h]
 exact Zxh _ _
end Go.Proofs.Ytglkedenkcpcbaa.Vs
