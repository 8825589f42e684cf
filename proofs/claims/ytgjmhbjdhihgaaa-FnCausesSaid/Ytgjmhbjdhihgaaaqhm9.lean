/- The proof, part 10. -/
import Derived.Test.Ytgjmhbjdhihgaaaqhm8
set_option linter.unusedVariables false
set_option linter.unusedSimpArgs false
namespace Go.Proofs.Ytgjmhbjdhihgaaa.Vs
open Go.RowKit
theorem ZrJ : ∀ (d : Nat) (v : Int) (acc : List (Int × Int)), v + d = 8 → 0 ≤ v → (acc.length : Int) ≤ 2 * v → (0 < v → 0 < acc.length) → ∃ l, Ev (fun k => Z4Q k acc v) l ∧ 0 < l.length ∧ l.length ≤ 16
 | 0, v, acc, hv, h0, h1, h2 => by
  have hn : ¬ v ≤ 7 := by omega
  refine ⟨acc, Ev.succ ?_, h2 (by omega), by omega⟩
  simp only [Z4Q, hn, decide_false, Bool.false_eq_true, if_false]
  exact Ev.some _
 | d + 1, v, acc, hv, h0, h1, h2 => by
  have hle : v ≤ 7 := by omega
  have hw : wrap64 (v + 1) = v + 1 := w64 (by omega) (by omega)
  have hal : acc.length + 1 ≤ 140737488355328 / 16 := by omega
  have hal2 : (acc ++ [(v, (0 : Int))]).length + 1 ≤ 140737488355328 / 16 := by simp; omega
  have ht := ZaP (v, 1)
  cases hb : turning (v, 1) with
  | true =>
   rw [hb] at ht
   obtain ⟨l, e1, g1, g2⟩ := ZrJ d (v + 1) (acc ++ [(v, 0)] ++ [(v, 1)]) (by omega) (by omega) (by simp; omega) (by simp)
   refine ⟨l, Ev.succ ?_, g1, g2⟩
   simp only [Z4Q, hle, decide_true, if_true, List.length_singleton, hal, hw]
   refine Ev.bind ht ?_
   simp only [if_true, hal2]
   exact e1
  | false =>
   rw [hb] at ht
   obtain ⟨l, e1, g1, g2⟩ := ZrJ d (v + 1) (acc ++ [(v, 0)]) (by omega) (by omega) (by simp; omega) (by simp)
   refine ⟨l, Ev.succ ?_, g1, g2⟩
   simp only [Z4Q, hle, decide_true, if_true, List.length_singleton, hal, hw]
   refine Ev.bind ht ?_
   simp only [Bool.false_eq_true, if_false]
   exact e1
theorem ZDQ {code : List Int} {at' : Int} (seed : Int) (h : Cur code at' 2) : ∃ x at2 s, Ev (fun k => Z4a k (code, at', seed)) (x, at2, s) ∧ at' ≤ at2 ∧ at2 ≤ at' + 2 := by
 obtain ⟨l, e0, g1, g2⟩ := ZrJ 8 0 [] (by omega) (by omega) (by simp) (by omega)
 obtain ⟨v, at2, s, e1, b1, b2, b3, b4⟩ := ZeA seed (l.length : Int) h (by omega)
 refine ⟨(List.getD l v.toNat (0, 0)), at2, s, Ev.succ ?_, b1, b2⟩
 have hp : Ev (fun k => Zfv k) l := by
  refine Ev.succ ?_
  simp only [Zfv]
  exact Ev.bind e0 (Ev.some _)
 simp only [Z4a]
 refine Ev.bind hp (Ev.bind e1 ?_)
 simp only [b3, b4, if_true]
 exact Ev.some _
theorem ZDX {code : List Int} {at' : Int} (seed : Int) (h : Cur code at' 6) : ∃ x at2 s, Ev (fun k => Z1p k (code, at', seed)) (x, at2, s) ∧ at' ≤ at2 ∧ at2 ≤ at' + 6 := by
 obtain ⟨x, a0, s0, e0, b1, b2⟩ := ZDQ seed (h.to (at2 := at') (m := 2) (by omega) (by omega))
 obtain ⟨v, a1, s1, e1, b3, b4, _⟩ := ZeA s0 20 (h.to (at2 := a0) (m := 2) (by omega) (by omega)) (by omega)
 by_cases h0 : v = 0
 ·obtain ⟨y, a2, s2, e2, b5, b6, _⟩ := ZeE s1 [-1, 8] (by simp) (h.to (at2 := a1) (m := 2) (by omega) (by omega))
  refine ⟨(y, x.2), a2, s2, Ev.succ ?_, by omega, by omega⟩
  simp only [Z1p]
  refine Ev.bind e0 (Ev.bind e1 ?_)
  simp only [h0, decide_true, if_true]
  exact Ev.bind e2 (Ev.some _)
 ·by_cases h1 : v = 1
  ·obtain ⟨y, a2, s2, e2, b5, b6, _⟩ := ZeE s1 [-1, 1, 2] (by simp) (h.to (at2 := a1) (m := 2) (by omega) (by omega))
   refine ⟨(x.1, y), a2, s2, Ev.succ ?_, by omega, by omega⟩
   simp only [Z1p]
   refine Ev.bind e0 (Ev.bind e1 ?_)
   subst h1
   simp only [h0, decide_true, decide_false, Bool.false_eq_true, if_false, if_true]
   exact Ev.bind e2 (Ev.some _)
  ·refine ⟨(x.1, x.2), a1, s1, Ev.succ ?_, by omega, by omega⟩
   simp only [Z1p]
   refine Ev.bind e0 (Ev.bind e1 ?_)
   simp only [h0, h1, decide_false, Bool.false_eq_true, if_false]
   exact Ev.some _
theorem Zvt (code : List Int) (n : Nat) (hn : n ≤ 1000) (v1 v2 v8 b30 b31 b50 b51 : Int) (o4 : List (Int × Int)) (hw : wrap64 (v1 * v2) = (n : Int)) : ∀ (d : Nat) (acc : List (Int × Int)) (at' seed : Int), acc.length + d = n → Cur code at' (10 * d) → ∃ at2 s l, Ev (fun k => Zk k at' seed code b30 b31 o4 b50 b51 acc v1 v2 v8) (at2, s, code, b30, b31, o4, b50, b51, l) ∧ l.length = n ∧ at' ≤ at2 ∧ at2 ≤ at' + 10 * d
 | 0, acc, at', seed, h, hc => by
  have hlt : ¬ (acc.length : Int) < (n : Int) := by omega
  refine ⟨at', seed, acc, Ev.succ ?_, by omega, by omega, by omega⟩
  simp only [Zk, hw, hlt, decide_false, Bool.false_eq_true, if_false]
  exact Ev.some _
 | d + 1, acc, at', seed, h, hc => by
  have hlt : (acc.length : Int) < (n : Int) := by omega
  have hal : acc.length + 1 ≤ 140737488355328 / 16 := by omega
  have step : ∀ (x : Int × Int) (a1 s1 : Int), at' ≤ a1 → a1 ≤ at' + 10 → ∃ at2 s l, Ev (fun k => Zk k a1 s1 code b30 b31 o4 b50 b51 (acc ++ [x]) v1 v2 v8) (at2, s, code, b30, b31, o4, b50, b51, l) ∧ l.length = n ∧ at' ≤ at2 ∧ at2 ≤ at' + 10 * ((d + 1 : Nat) : Int) := by
   intro x a1 s1 g1 g2
   obtain ⟨a2, s2, l, e, c1, c2, c3⟩ := Zvt code n hn v1 v2 v8 b30 b31 b50 b51 o4 hw d (acc ++ [x]) a1 s1 (by simp; omega) (hc.to (at2 := a1) (by omega) (by omega))
   exact ⟨a2, s2, l, e, c1, by omega, by omega⟩
  have part : ∀ (a1 s1 : Int), at' ≤ a1 → a1 ≤ at' + 4 → ∃ at2 s l, Ev (fun k => Option.bind (Z4a k (code, a1, s1)) fun z2 => if decide (z2.1.1 = 5) = true then Option.bind (Z19 k (code, z2.2.1, z2.2.2) 3) fun z3 => if (!z3.1) = true then Option.bind (Z2 k (code, z3.2.1, z3.2.2) 2) fun z4 => Zk k z4.2.1 z4.2.2 code b30 b31 o4 b50 b51 (acc ++ [(3, z4.1)]) v1 v2 v8 else Zk k z3.2.1 z3.2.2 code b30 b31 o4 b50 b51 (acc ++ [(z2.1.1, z2.1.2)]) v1 v2 v8 else Zk k z2.2.1 z2.2.2 code b30 b31 o4 b50 b51 (acc ++ [(z2.1.1, z2.1.2)]) v1 v2 v8) (at2, s, code, b30, b31, o4, b50, b51, l) ∧ l.length = n ∧ at' ≤ at2 ∧ at2 ≤ at' + 10 * ((d + 1 : Nat) : Int) := by
   intro a1 s1 g1 g2
   obtain ⟨x, a2, s2, e2, b1, b2⟩ := ZDQ s1 (hc.to (at2 := a1) (m := 2) (by omega) (by omega))
   by_cases hx : x.1 = 5
   ·obtain ⟨q, a3, s3, e3, b3, b4⟩ := Zyp s2 3 (hc.to (at2 := a2) (m := 2) (by omega) (by omega))
    cases q with
    | true =>
     obtain ⟨a5, s5, l, e5, c1, c2, c3⟩ := step (x.1, x.2) a3 s3 (by omega) (by omega)
     refine ⟨a5, s5, l, Ev.bind e2 ?_, c1, c2, c3⟩
     simp only [hx, decide_true, if_true]
     refine Ev.bind e3 ?_
     simp only [Bool.not_true, Bool.false_eq_true, if_false]
     rw [hx] at e5
     exact e5
    | false =>
     obtain ⟨v, a4, s4, e4, b5, b6, _⟩ := ZeA s3 2 (hc.to (at2 := a3) (m := 2) (by omega) (by omega)) (by omega)
     obtain ⟨a5, s5, l, e5, c1, c2, c3⟩ := step (3, v) a4 s4 (by omega) (by omega)
     refine ⟨a5, s5, l, Ev.bind e2 ?_, c1, c2, c3⟩
     simp only [hx, decide_true, if_true]
     refine Ev.bind e3 ?_
     simp only [Bool.not_false, if_true]
     exact Ev.bind e4 e5
   ·obtain ⟨a5, s5, l, e5, c1, c2, c3⟩ := step (x.1, x.2) a2 s2 (by omega) (by omega)
    refine ⟨a5, s5, l, Ev.bind e2 ?_, c1, c2, c3⟩
    simp only [hx, decide_false, Bool.false_eq_true, if_false]
    exact e5
  obtain ⟨q, a1, s1, e1, b1, b2⟩ := Zyp seed v8 (hc.to (at2 := at') (m := 2) (by omega) (by omega))
  cases q with
  | true =>
   obtain ⟨a5, s5, l, e5, c1, c2, c3⟩ := part a1 s1 b1 (by omega)
   refine ⟨a5, s5, l, Ev.succ ?_, c1, c2, c3⟩
   simp only [Zk, hw, hlt, decide_true, if_true]
   refine Ev.bind e1 ?_
   simp only [if_true, List.length_singleton, hal]
   exact e5
  | false =>
   obtain ⟨q2, a2, s2, e2, b3, b4⟩ := Zyp s1 3 (hc.to (at2 := a1) (m := 2) (by omega) (by omega))
   cases q2 with
   | true =>
    obtain ⟨a5, s5, l, e5, c1, c2, c3⟩ := part a2 s2 (by omega) (by omega)
    refine ⟨a5, s5, l, Ev.succ ?_, c1, c2, c3⟩
    simp only [Zk, hw, hlt, decide_true, if_true]
    refine Ev.bind e1 ?_
    simp only [Bool.false_eq_true, if_false]
    refine Ev.bind e2 ?_
    simp only [if_true, List.length_singleton, hal]
    exact e5
   | false =>
    obtain ⟨a5, s5, l, e5, c1, c2, c3⟩ := step (0, 0) a2 s2 (by omega) (by omega)
    refine ⟨a5, s5, l, Ev.succ ?_, c1, c2, c3⟩
    simp only [Zk, hw, hlt, decide_true, if_true]
    refine Ev.bind e1 ?_
    simp only [Bool.false_eq_true, if_false]
    refine Ev.bind e2 ?_
    simp only [Bool.false_eq_true, if_false, List.length_singleton, hal, if_true]
    exact e5
theorem Zs9 {code : List Int} {at' : Int} (seed r c : Int) (n : Nat) (hw : wrap64 (r * c) = (n : Int)) (hn : n ≤ 100) (h : Cur code at' 1010) : ∃ l at2 s, Ev (fun k => Z1W k (code, at', seed) r c) ((r, c, l), at2, s) ∧ at' ≤ at2 ∧ at2 ≤ at' + 1010 ∧ l.length = n := by
 obtain ⟨v, a0, s0, e0, b1, b2, _⟩ := ZeE seed [1, 2, 2] (by simp) (h.to (at2 := at') (m := 2) (by omega) (by omega))
 obtain ⟨a1, s1, l, e1, c1, c2, c3⟩ := Zvt code n (by omega) r c v 0 0 r c [] hw n [] a0 s0 (by simp) (h.to (at2 := a0) (by omega) (by omega))
 refine ⟨l, a1, s1, Ev.succ ?_, by omega, by omega, c1⟩
 simp only [Z1W]
 exact Ev.bind e0 (Ev.bind e1 (Ev.some _))
theorem Ztu {r c : Int} (r1 : 1 ≤ r) (r2 : r ≤ 10) (c1 : 1 ≤ c) (c2 : c ≤ 9) : 1 ≤ r * c ∧ r * c ≤ 90 := by
 have h1 : r * c ≤ 10 * 9 := Int.mul_le_mul r2 c2 (by omega) (by omega)
 have h2 : 1 * 1 ≤ r * c := Int.mul_le_mul r1 c1 (by omega) (by omega)
 omega
theorem ZEL {code : List Int} {at' : Int} (seed : Int) (h : Cur code at' 1020) : ∃ r c l at2 s, Ev (fun k => Z6T k (code, at', seed)) ((r, c, l), at2, s) ∧ at' ≤ at2 ∧ at2 ≤ at' + 1020 ∧ 1 ≤ r ∧ r ≤ 10 ∧ 1 ≤ c ∧ c ≤ 9 ∧ (l.length : Int) = r * c := by
 obtain ⟨q, a0, s0, e0, b1, b2⟩ := Zyp seed 20 (h.to (at2 := at') (m := 2) (by omega) (by omega))
 cases q with
 | true =>
  obtain ⟨r, a1, s1, e1, b3, b4, b5⟩ := ZeE s0 [1, 10] (by simp) (h.to (at2 := a0) (m := 2) (by omega) (by omega))
  obtain ⟨c, a2, s2, e2, b6, b7, b8⟩ := ZeE s1 [1, 9] (by simp) (h.to (at2 := a1) (m := 2) (by omega) (by omega))
  simp only [List.mem_cons, List.not_mem_nil, or_false] at b5 b8
  have hp := Ztu (r := r) (c := c) (by omega) (by omega) (by omega) (by omega)
  obtain ⟨l, a3, s3, e3, c1, c2, c3⟩ := Zs9 s2 r c (r * c).toNat (by rw [w64 (by omega) (by omega)]; omega) (by omega) (h.to (at2 := a2) (by omega) (by omega))
  refine ⟨r, c, l, a3, s3, Ev.succ ?_, by omega, by omega, by omega, by omega, by omega, by omega, by omega⟩
  simp only [Z6T]
  refine Ev.bind e0 ?_
  simp only [if_true]
  exact Ev.bind e1 (Ev.bind e2 (Ev.bind e3 (Ev.some _)))
 | false =>
  obtain ⟨r, a1, s1, e1, b3, b4, b5, b6⟩ := ZeA s0 5 (h.to (at2 := a0) (m := 2) (by omega) (by omega)) (by omega)
  obtain ⟨c, a2, s2, e2, b7, b8, b9, b10⟩ := ZeA s1 5 (h.to (at2 := a1) (m := 2) (by omega) (by omega)) (by omega)
  have w1 : wrap64 (1 + r) = 1 + r := w64 (by omega) (by omega)
  have w2 : wrap64 (1 + c) = 1 + c := w64 (by omega) (by omega)
  have hp := Ztu (r := 1 + r) (c := 1 + c) (by omega) (by omega) (by omega) (by omega)
  obtain ⟨l, a3, s3, e3, c1, c2, c3⟩ := Zs9 s2 (1 + r) (1 + c) ((1 + r) * (1 + c)).toNat (by rw [w64 (by omega) (by omega)]; omega) (by omega) (h.to (at2 := a2) (by omega) (by omega))
  refine ⟨1 + r, 1 + c, l, a3, s3, Ev.succ ?_, by omega, by omega, by omega, by omega, by omega, by omega, by omega⟩
  simp only [Z6T]
  refine Ev.bind e0 ?_
  simp only [Bool.false_eq_true, if_false]
  refine Ev.bind e1 (Ev.bind e2 ?_)
  simp only [w1, w2]
  exact Ev.bind e3 (Ev.some _)
theorem ZDd {code : List Int} {at' : Int} (seed : Int) (h : Cur code at' 1040) : ∃ b at2 s, Ev (fun k => ZP k (code, at', seed)) (b, at2, s) ∧ at' ≤ at2 ∧ at2 ≤ at' + 1040 ∧ b.2.2.length ≤ 91 := by
 obtain ⟨r, c, l, a0, s0, e0, b1, b2, r1, r2, c1, c2, hl⟩ := ZEL seed (h.to (at2 := at') (by omega) (by omega))
 obtain ⟨v, a1, s1, e1, b3, b4, _⟩ := ZeA s0 36 (h.to (at2 := a0) (m := 2) (by omega) (by omega)) (by omega)
 have hp := Ztu r1 r2 c1 c2
 by_cases v0 : v = 0
 ·subst v0
  obtain ⟨x, a2, s2, e2, b5, b6, _⟩ := ZeE s1 [0, wrap64 (r + 1), 10, 11] (by simp) (h.to (at2 := a1) (m := 2) (by omega) (by omega))
  refine ⟨(x, c, l), a2, s2, Ev.succ ?_, by omega, by omega, by dsimp only; omega⟩
  simp only [ZP]
  refine Ev.bind e0 (Ev.bind e1 ?_)
  simp only [decide_true, if_true]
  exact Ev.bind e2 (Ev.some _)
 by_cases v1 : v = 1
 ·subst v1
  obtain ⟨x, a2, s2, e2, b5, b6, _⟩ := ZeE s1 [0, wrap64 (c + 1), 9, 10] (by simp) (h.to (at2 := a1) (m := 2) (by omega) (by omega))
  refine ⟨(r, x, l), a2, s2, Ev.succ ?_, by omega, by omega, by dsimp only; omega⟩
  simp only [ZP]
  refine Ev.bind e0 (Ev.bind e1 ?_)
  simp only [v0, decide_true, decide_false, Bool.false_eq_true, if_false, if_true]
  exact Ev.bind e2 (Ev.some _)
 by_cases v2 : v = 2
 ·subst v2
  obtain ⟨i, a2, s2, e2, b5, b6, b7, b8⟩ := ZeA s1 (l.length : Int) (h.to (at2 := a1) (m := 2) (by omega) (by omega)) (by omega)
  obtain ⟨x, a3, s3, e3, b9, b10⟩ := ZDX s2 (h.to (at2 := a2) (by omega) (by omega))
  have hg : Ev (fun k => Z1u k a1 s1 code 0 0 [] r c l) (a3, s3, code, 0, 0, [], r, c, List.set l i.toNat (x.1, x.2)) := by
   simp only [Z1u]
   refine Ev.bind e2 (Ev.bind e3 ?_)
   simp only [b7, b8, if_true]
   exact Ev.some _
  refine ⟨(r, c, List.set l i.toNat (x.1, x.2)), a3, s3, Ev.succ ?_, by omega, by omega, by dsimp only; rw [List.length_set]; omega⟩
  simp only [ZP]
  refine Ev.bind e0 (Ev.bind e1 ?_)
  simp only [v0, v1, decide_true, decide_false, Bool.false_eq_true, if_false, if_true]
  exact Ev.bind hg (Ev.some _)
 by_cases v3 : v = 3
 ·subst v3
  have h1 : 1 ≤ (l.length : Int) := by omega
  refine ⟨(r, c, List.drop (Int.toNat 1) l), a1, s1, Ev.succ ?_, by omega, by omega, by dsimp only; rw [List.length_drop]; omega⟩
  simp only [ZP]
  refine Ev.bind e0 (Ev.bind e1 ?_)
  simp only [v0, v1, v2, decide_true, decide_false, Bool.false_eq_true, if_false, if_true, h1, Int.le_refl]
  exact Ev.some _
 by_cases v4 : v = 4
 ·subst v4
  refine ⟨(11, 2, List.replicate (Int.toNat 22) (0, 0)), a1, s1, Ev.succ ?_, by omega, by omega, by dsimp only; rw [List.length_replicate]; decide⟩
  simp only [ZP]
  refine Ev.bind e0 (Ev.bind e1 ?_)
  simp only [v0, v1, v2, v3, decide_true, decide_false, Bool.false_eq_true, if_false, if_true]
  exact Ev.some _
 by_cases v5 : v = 5
 ·subst v5
  refine ⟨(2, 10, List.replicate (Int.toNat 20) (0, 0)), a1, s1, Ev.succ ?_, by omega, by omega, by dsimp only; rw [List.length_replicate]; decide⟩
  simp only [ZP]
  refine Ev.bind e0 (Ev.bind e1 ?_)
  simp only [v0, v1, v2, v3, v4, decide_true, decide_false, Bool.false_eq_true, if_false, if_true]
  exact Ev.some _
 refine ⟨(r, c, l), a1, s1, Ev.succ ?_, by omega, by omega, by dsimp only; omega⟩
 simp only [ZP]
 refine Ev.bind e0 (Ev.bind e1 ?_)
 simp only [v0, v1, v2, v3, v4, v5, decide_false, Bool.false_eq_true, if_false]
 exact Ev.some _
end Go.Proofs.Ytgjmhbjdhihgaaa.Vs

set_option linter.unusedVariables false
set_option linter.unusedSimpArgs false
namespace Go.Proofs.Ytgjmhbjdhihgaaa.Vs
open Go.RowKit
theorem ZF2 (a b : Int) : ∃ m, Ev (fun k => Z9a k a b) m ∧ a ≤ m ∧ (m = a ∨ m = b) := by
 by_cases h : a > b
 ·refine ⟨a, Ev.succ ?_, by omega, .inl rfl⟩
  simp only [Z9a, h, decide_true, if_true]
  exact Ev.some _
 ·refine ⟨b, Ev.succ ?_, by omega, .inr rfl⟩
  simp only [Z9a, h, decide_false, Bool.false_eq_true, if_false]
  exact Ev.some _
end Go.Proofs.Ytgjmhbjdhihgaaa.Vs

set_option linter.unusedVariables false
set_option linter.unusedSimpArgs false
namespace Go.Proofs.Ytgjmhbjdhihgaaa.Vs
open Go.RowKit
end Go.Proofs.Ytgjmhbjdhihgaaa.Vs

set_option linter.unusedVariables false
set_option linter.unusedSimpArgs false
namespace Go.Proofs.Ytgjmhbjdhihgaaa.Vs
open Go.RowKit
def EvP {α : Type} (f : Nat → Option α) (Q : α → Prop) : Prop := ∃ v, Ev f v ∧ Q v
section
variable {α β : Type} {f g : Nat → Option α} {Q : α → Prop} {Q1 : β → Prop}
theorem EvP.some {v : α} (h : Q v) : EvP (fun _ => some v) Q := ⟨v, Ev.some v, h⟩
theorem EvP.succ (h : EvP (fun k => f (k + 1)) Q) : EvP f Q := by
 obtain ⟨v, h1, h2⟩ := h
 exact ⟨v, Ev.succ h1, h2⟩
theorem EvP.bind {x : Nat → Option β} {y : β → Nat → Option α} (h : EvP x Q1) (h2 : ∀ a, Q1 a → EvP (y a) Q) : EvP (fun k => Option.bind (x k) fun z => y z k) Q := by
 obtain ⟨a, h1, h3⟩ := h
 obtain ⟨v, h4, h5⟩ := h2 a h3
 exact ⟨v, Ev.bind h1 h4, h5⟩
theorem EvP.ite {c : Prop} [Decidable c] (h1 : c → EvP f Q) (h2 : ¬ c → EvP g Q) : EvP (fun k => if c then f k else g k) Q := by
 by_cases hc : c
 ·simp only [if_pos hc]; exact h1 hc
 ·simp only [if_neg hc]; exact h2 hc
theorem EvP.guard {c : Prop} [Decidable c] (hc : c) (h : EvP f Q) : EvP (fun k => if c then f k else none) Q := by
 simp only [if_pos hc]; exact h
theorem EvP.mono {Q' : α → Prop} (h : EvP f Q) (hq : ∀ v, Q v → Q' v) : EvP f Q' := by
 obtain ⟨v, h1, h2⟩ := h
 exact ⟨v, h1, hq v h2⟩
theorem EvP.ev {v : α} (h : Ev f v) (hq : Q v) : EvP f Q := ⟨v, h, hq⟩
end
section
variable {code : List Int} {at' seed : Int}
theorem Z5i (n : Int) (h : Cur code at' 2) (hn : 0 < n) : EvP (fun k => Z2 k (code, at', seed) n) (fun r => at' ≤ r.2.1 ∧ r.2.1 ≤ at' + 2 ∧ 0 ≤ r.1 ∧ r.1 < n) := by
 obtain ⟨v, a, s, e, h1, h2, h3, h4⟩ := ZeA seed n h hn
 exact ⟨_, e, h1, h2, h3, h4⟩
theorem ZD9 (n : Int) (h : Cur code at' 2) : EvP (fun k => Z19 k (code, at', seed) n) (fun r => at' ≤ r.2.1 ∧ r.2.1 ≤ at' + 2) := by
 obtain ⟨v, a, s, e, h1, h2⟩ := Zyp seed n h
 exact ⟨_, e, h1, h2⟩
theorem Z5n (l : List Int) (hl : 0 < l.length) (h : Cur code at' 2) : EvP (fun k => Zg k (code, at', seed) l) (fun r => at' ≤ r.2.1 ∧ r.2.1 ≤ at' + 2 ∧ r.1 ∈ l) := by
 obtain ⟨v, a, s, e, h1, h2, h3⟩ := ZeE seed l hl h
 exact ⟨_, e, h1, h2, h3⟩
theorem ZD8 (h : Cur code at' 1040) : EvP (fun k => ZP k (code, at', seed)) (fun r => at' ≤ r.2.1 ∧ r.2.1 ≤ at' + 1040 ∧ r.1.2.2.length ≤ 91) := by
 obtain ⟨x, a, s, e, h1, h2, h3⟩ := ZDd seed h
 exact ⟨_, e, h1, h2, h3⟩
end
end Go.Proofs.Ytgjmhbjdhihgaaa.Vs

set_option linter.unusedVariables false
set_option linter.unusedSimpArgs false
namespace Go.Proofs.Ytgjmhbjdhihgaaa.Vs
open Go.RowKit
def geared (x : CellD) : Bool := decide (x.1 = 6 ∨ x.1 = 7)
theorem Zli (x : CellD) : Ev (fun k => Z9p k x) (geared x) := by
 refine Ev.succ ?_
 simp only [Z9p]
 refine Ev.of ?_
 by_cases h1 : x.1 = 6 <;> simp [geared, h1]
theorem ZpA (x : CellD) : Ev (fun k => ZbB k x) (geared x) := by
 refine Ev.succ ?_
 simp only [ZbB]
 refine Ev.of ?_
 by_cases h1 : x.1 = 6 <;> simp [geared, h1]
def nears (b : BoardD) (i : Int) : List Int := (if 0 < Int.tdiv i b.2.1 then [i - b.2.1] else []) ++ (if 0 < Int.tmod i b.2.1 then [i - 1] else []) ++ (if Int.tmod i b.2.1 + 1 < b.2.1 then [i + 1] else []) ++ (if Int.tdiv i b.2.1 + 1 < b.1 then [i + b.2.1] else [])
theorem ZgQ {b : BoardD} (hb : boardOK b = true) {i : Int} (h0 : 0 ≤ i) (h1 : i < (b.2.2.length : Int)) : ∃ q m t : Int, Int.tdiv i b.2.1 = q ∧ Int.tmod i b.2.1 = m ∧ i = t + m ∧ 0 ≤ m ∧ m < b.2.1 ∧ 0 ≤ q ∧ q < b.1 ∧ 0 ≤ t ∧ t + b.2.1 ≤ (b.2.2.length : Int) ∧ (1 ≤ q → b.2.1 ≤ t) ∧ (q + 1 < b.1 → t + b.2.1 + b.2.1 ≤ (b.2.2.length : Int)) := by
 obtain ⟨g1, g2, g3, g4, g5, g6⟩ := ZH hb
 have hq : Int.tdiv i b.2.1 = i / b.2.1 := Int.tdiv_eq_ediv_of_nonneg h0
 have hm : Int.tmod i b.2.1 = i % b.2.1 := Int.tmod_eq_emod_of_nonneg h0
 have e1 := Int.mul_ediv_add_emod i b.2.1
 have e2 := Int.emod_nonneg i (show b.2.1 ≠ 0 by omega)
 have e3 := Int.emod_lt_of_pos i (show 0 < b.2.1 by omega)
 have e4 : 0 ≤ i / b.2.1 := Int.ediv_nonneg h0 (by omega)
 have e5 : i / b.2.1 < b.1 := Int.ediv_lt_of_lt_mul (by omega) (by rw [← g5]; exact h1)
 have e6 : 0 ≤ b.2.1 * (i / b.2.1) := Int.mul_nonneg (by omega) e4
 have e7 : b.2.1 * (i / b.2.1 + 1) ≤ b.2.1 * b.1 := Int.mul_le_mul_of_nonneg_left (by omega) (by omega)
 rw [Int.mul_add, Int.mul_one, Int.mul_comm b.2.1 b.1, ← g5] at e7
 refine ⟨_, _, b.2.1 * (i / b.2.1), hq, hm, by omega, e2, e3, e4, e5, e6, e7, fun h => ?_, fun h => ?_⟩
 ·have := Int.mul_le_mul_of_nonneg_left h (show 0 ≤ b.2.1 by omega)
  omega
 ·have e8 : b.2.1 * (i / b.2.1 + 2) ≤ b.2.1 * b.1 := Int.mul_le_mul_of_nonneg_left (by omega) (by omega)
  rw [Int.mul_add, Int.mul_comm b.2.1 b.1, ← g5] at e8
  omega
theorem ZBf {b : BoardD} (hb : boardOK b = true) {i : Int} (h0 : 0 ≤ i) (h1 : i < (b.2.2.length : Int)) : ∀ n ∈ nears b i, 0 ≤ n ∧ n < (b.2.2.length : Int) := by
 obtain ⟨q, m, t, hq, hm, k1, k2, k3, k4, k5, k6, k7, k8, k9⟩ := ZgQ hb h0 h1
 intro n hn
 unfold nears at hn
 rw [hq, hm] at hn
 simp only [List.mem_append] at hn
 rcases hn with ((hn | hn) | hn) | hn
 ·split at hn
  ·have := List.mem_singleton.1 hn; have := k8 (by omega); omega
  ·cases hn
 ·split at hn
  ·have := List.mem_singleton.1 hn; omega
  ·cases hn
 ·split at hn
  ·have := List.mem_singleton.1 hn; omega
  ·cases hn
 ·split at hn
  ·have := List.mem_singleton.1 hn; have := k9 (by omega); omega
  ·cases hn
theorem ZzC (b : BoardD) (i : Int) : (nears b i).length ≤ 4 := by
 unfold nears
 simp only [List.length_append]
 have h1 : ∀ (c : Prop) [Decidable c] (x : Int), (if c then [x] else []).length ≤ 1 := by intro c _ x; split <;> simp
 have a1 := h1 (0 < Int.tdiv i b.2.1) (i - b.2.1)
 have a2 := h1 (0 < Int.tmod i b.2.1) (i - 1)
 have a3 := h1 (Int.tmod i b.2.1 + 1 < b.2.1) (i + 1)
 have a4 := h1 (Int.tdiv i b.2.1 + 1 < b.1) (i + b.2.1)
 omega
theorem Zxr (b : BoardD) (hb : boardOK b = true) (i : Int) (h0 : 0 ≤ i) (h1 : i < (b.2.2.length : Int)) : Ev (fun k => ZbY k b i) (nears b i) := by
 obtain ⟨g1, g2, g3, g4, g5, g6⟩ := ZH hb
 have hp := ZL g1 g2 g3 g4
 obtain ⟨q, m, t, hq, hm, k1, k2, k3, k4, k5, k6, k7, k8, k9⟩ := ZgQ hb h0 h1
 have hC : ¬ b.2.1 = 0 := by omega
 refine Ev.succ ?_
 simp only [ZbY, hC, if_false, nears, hq, hm, gt_iff_lt]
 rw [w64 (n := q) (by omega) (by omega), w64 (n := q + 1) (by omega) (by omega), w64 (n := m + 1) (by omega) (by omega), w64 (n := i - b.2.1) (by omega) (by omega), w64 (n := i - 1) (by omega) (by omega), w64 (n := i + 1) (by omega) (by omega), w64 (n := i + b.2.1) (by omega) (by omega)]
 refine Ev.of ?_
 by_cases h1 : 0 < q <;> by_cases h2 : 0 < m <;> by_cases h3 : m + 1 < b.2.1 <;> by_cases h4 : q + 1 < b.1 <;> simp [h1, h2, h3, h4]
theorem ZAs (b : BoardD) (hb : boardOK b = true) (i : Int) (h0 : 0 ≤ i) (h1 : i < (b.2.2.length : Int)) : Ev (fun k => ZdW k b i) (nears b i) := by
 obtain ⟨g1, g2, g3, g4, g5, g6⟩ := ZH hb
 have hp := ZL g1 g2 g3 g4
 obtain ⟨q, m, t, hq, hm, k1, k2, k3, k4, k5, k6, k7, k8, k9⟩ := ZgQ hb h0 h1
 have hC : ¬ b.2.1 = 0 := by omega
 refine Ev.succ ?_
 simp only [ZdW, hC, if_false, nears, hq, hm, gt_iff_lt]
 rw [w64 (n := q) (by omega) (by omega), w64 (n := q + 1) (by omega) (by omega), w64 (n := m + 1) (by omega) (by omega), w64 (n := i - b.2.1) (by omega) (by omega), w64 (n := i - 1) (by omega) (by omega), w64 (n := i + 1) (by omega) (by omega), w64 (n := i + b.2.1) (by omega) (by omega)]
 refine Ev.of ?_
 by_cases h1 : 0 < q <;> by_cases h2 : 0 < m <;> by_cases h3 : m + 1 < b.2.1 <;> by_cases h4 : q + 1 < b.1 <;> simp [h1, h2, h3, h4]
def visit (b : BoardD) (v : Int) (G : List Int × List Int) (n : Int) : List Int × List Int := if geared (List.getD b.2.2 n.toNat (0, 0)) && decide (List.getD G.1 n.toNat 0 < 0) then (List.set G.1 n.toNat v, G.2 ++ [n]) else G
def unl (l : List Int) : Nat := l.countP fun x => decide (x < 0)
theorem Zty (v : Int) (hv : 0 ≤ v) : ∀ (l : List Int) (i : Nat), i < l.length → List.getD l i 0 < 0 → unl (l.set i v) + 1 = unl l
 | [], i, h, _ => by simp at h
 | x :: l, 0, _, h => by
  have h' : x < 0 := by simpa using h
  have : ¬ v < 0 := by omega
  simp [unl, h', this]
 | x :: l, i + 1, h, h2 => by
  have ih := Zty v hv l i (by simpa using h) (by simpa using h2)
  simp only [unl, List.set_cons_succ, List.countP_cons] at ih ⊢
  omega
theorem ZD2 (l : List Int) : unl l ≤ l.length := List.countP_le_length
theorem ZzB (b : BoardD) (v : Int) (G : List Int × List Int) (n : Int) : (visit b v G n).1.length = G.1.length := by
 unfold visit; split <;> simp
theorem ZiD (b : BoardD) (v : Int) : ∀ (r : List Int) (G : List Int × List Int), (r.foldl (visit b v) G).1.length = G.1.length
 | [], G => rfl
 | n :: r, G => by rw [List.foldl_cons, ZiD b v r, ZzB]
theorem ZDL (b : BoardD) (v : Int) (hv : 0 ≤ v) (G : List Int × List Int) (n : Int) (h0 : 0 ≤ n) (h1 : n < (G.1.length : Int)) : unl (visit b v G n).1 + (visit b v G n).2.length = unl G.1 + G.2.length := by
 unfold visit
 split
 ·rename_i hc
  simp only [Bool.and_eq_true, decide_eq_true_eq] at hc
  have := Zty v hv G.1 n.toNat (by omega) hc.2
  simp only [List.length_append, List.length_singleton]
  omega
 ·rfl
theorem Zp1 (b : BoardD) (v : Int) (hv : 0 ≤ v) : ∀ (r : List Int) (G : List Int × List Int), (∀ n ∈ r, 0 ≤ n ∧ n < (G.1.length : Int)) → unl (r.foldl (visit b v) G).1 + (r.foldl (visit b v) G).2.length = unl G.1 + G.2.length
 | [], G, _ => rfl
 | n :: r, G, h => by
  rw [List.foldl_cons, Zp1 b v hv r _ (fun m hm => by rw [ZzB]; exact h m (List.mem_cons_of_mem _ hm))]
  exact ZDL b v hv G n (h n (List.mem_cons_self ..)).1 (h n (List.mem_cons_self ..)).2
theorem Ziz (b : BoardD) (v : Int) : ∀ (r : List Int) (o2 o3 a : List Int), (r.foldl (visit b v) (o2, o3 ++ a)) = ((r.foldl (visit b v) (o2, a)).1, o3 ++ (r.foldl (visit b v) (o2, a)).2)
 | [], o2, o3, a => rfl
 | n :: r, o2, o3, a => by
  simp only [List.foldl_cons]
  by_cases hc : (geared (List.getD b.2.2 n.toNat (0, 0)) && decide (List.getD o2 n.toNat 0 < 0)) = true
  ·have e1 : visit b v (o2, o3 ++ a) n = (List.set o2 n.toNat v, o3 ++ (a ++ [n])) := by simp only [visit]; rw [if_pos hc, List.append_assoc]
   have e2 : visit b v (o2, a) n = (List.set o2 n.toNat v, a ++ [n]) := by simp only [visit]; rw [if_pos hc]
   rw [e1, e2]
   exact Ziz b v r _ o3 _
  ·have e1 : visit b v (o2, o3 ++ a) n = (o2, o3 ++ a) := by simp only [visit]; rw [if_neg hc]
   have e2 : visit b v (o2, a) n = (o2, a) := by simp only [visit]; rw [if_neg hc]
   rw [e1, e2]
   exact Ziz b v r o2 o3 a
theorem Zoj (b : BoardD) (v : Int) (P : Int → Prop) : ∀ (r : List Int) (G : List Int × List Int), (∀ n ∈ r, P n) → (∀ n ∈ G.2, P n) → ∀ n ∈ (r.foldl (visit b v) G).2, P n
 | [], G, _, h => h
 | m :: r, G, h, hg => by
  rw [List.foldl_cons]
  refine Zoj b v P r _ (fun n hn => h n (List.mem_cons_of_mem _ hn)) (fun n hn => ?_)
  unfold visit at hn
  split at hn
  ·rcases List.mem_append.1 hn with hn | hn
   ·exact hg n hn
   ·rw [List.mem_singleton.1 hn]; exact h m (List.mem_cons_self ..)
  ·exact hg n hn
theorem ZaF (b : BoardD) (hb : boardOK b = true) (v : Int) (hv : 0 ≤ v) (v26 : List CellD) (v27 v28 : Int) : ∀ (r pre o2 o3 : List Int), (∀ n ∈ r, 0 ≤ n ∧ n < (b.2.2.length : Int)) → (pre ++ r).length ≤ 100 → o2.length = b.2.2.length → o3.length + unl o2 ≤ 1000 →
    Ev (fun k => Z1H k b.1 b.2.1 b.2.2 o2 o3 (pre ++ r) v  v26 v27 v28 ((pre ++ r).length : Int) (pre.length : Int)) (b.1, b.2.1, b.2.2, (r.foldl (visit b v) (o2, o3)).1, (r.foldl (visit b v) (o2, o3)).2, v, v26, v27, v28)
  | [], pre, o2, o3, hr, hl, h2, h3 => by
    refine Ev.succ ?_
    simp only [Z1H, Zz, decide_false, Bool.false_eq_true, if_false]
    exact Ev.some _
  | x :: r, pre, o2, o3, hr, hl, h2, h3 => by
    obtain ⟨hx0, hx1⟩ := hr x (List.mem_cons_self ..)
    have hx2 : x < (o2.length : Int) := by omega
    have hr' : ∀ n ∈ r, 0 ≤ n ∧ n < (b.2.2.length : Int) := fun n hn => hr n (List.mem_cons_of_mem _ hn)
    have ih0 := ZaF b hb v hv  v26 v27 v28 r (pre ++ [x]) o2 o3 hr' (by simpa using hl) h2 h3
    rw [← Zh] at ih0
    have hn := Zq pre x r (by omega)
    refine Ev.succ ?_
    simp only [Z1H, Zs, ZN, decide_true, if_true, Int.toNat_natCast, Zo, hn, hx0, hx1, hx2]
    refine Ev.bind (Zli (List.getD b.2.2 x.toNat (0, 0))) ?_
    rw [List.foldl_cons]
    by_cases hg : geared (List.getD b.2.2 x.toNat (0, 0)) = true
    · simp only [hg, if_true]
      by_cases ho : List.getD o2 x.toNat 0 < 0
      · have e1 : visit b v (o2, o3) x = (List.set o2 x.toNat v, o3 ++ [x]) := by unfold visit; rw [if_pos (by simp only [hg, ho, decide_true, Bool.and_self])]
        have hu := Zty v hv o2 x.toNat (by omega) ho
        have hle : o3.length + 1 ≤ 140737488355328 / 8 := by omega
        have ih := ZaF b hb v hv  v26 v27 v28 r (pre ++ [x]) (List.set o2 x.toNat v) (o3 ++ [x]) hr' (by simpa using hl) (by simpa using h2) (by simp; omega)
        rw [← Zh] at ih
        simp only [ho, decide_true, if_true, List.length_singleton, hle]
        rw [e1]
        exact ih
      · have e1 : visit b v (o2, o3) x = (o2, o3) := by unfold visit; rw [if_neg (by simp only [ho, decide_false, Bool.and_false, Bool.false_eq_true, not_false_eq_true])]
        simp only [ho, decide_false, Bool.false_eq_true, if_false]
        rw [e1]
        exact ih0
    · have e1 : visit b v (o2, o3) x = (o2, o3) := by unfold visit; rw [if_neg (by simp only [hg, Bool.false_and, Bool.false_eq_true, not_false_eq_true])]
      simp only [hg, Bool.false_eq_true, if_false]
      rw [e1]
      exact ih0
theorem Zdn (b : BoardD) (hb : boardOK b = true) (v : Int) (hv : 0 ≤ v) (v9 : Int) (v26 : List CellD) (v27 v28 : Int) : ∀ (r pre o2 o3 : List Int), (∀ n ∈ r, 0 ≤ n ∧ n < (b.2.2.length : Int)) → (pre ++ r).length ≤ 100 → o2.length = b.2.2.length → o3.length + unl o2 ≤ 1000 →
    Ev (fun k => Z33 k b.1 b.2.1 b.2.2 o2 o3 (pre ++ r) v v9 v26 v27 v28 ((pre ++ r).length : Int) (pre.length : Int)) (b.1, b.2.1, b.2.2, (r.foldl (visit b v) (o2, o3)).1, (r.foldl (visit b v) (o2, o3)).2, v, v9, v26, v27, v28)
  | [], pre, o2, o3, hr, hl, h2, h3 => by
    refine Ev.succ ?_
    simp only [Z33, Zz, decide_false, Bool.false_eq_true, if_false]
    exact Ev.some _
  | x :: r, pre, o2, o3, hr, hl, h2, h3 => by
    obtain ⟨hx0, hx1⟩ := hr x (List.mem_cons_self ..)
    have hx2 : x < (o2.length : Int) := by omega
    have hr' : ∀ n ∈ r, 0 ≤ n ∧ n < (b.2.2.length : Int) := fun n hn => hr n (List.mem_cons_of_mem _ hn)
    have ih0 := Zdn b hb v hv v9 v26 v27 v28 r (pre ++ [x]) o2 o3 hr' (by simpa using hl) h2 h3
    rw [← Zh] at ih0
    have hn := Zq pre x r (by omega)
    refine Ev.succ ?_
    simp only [Z33, Zs, ZN, decide_true, if_true, Int.toNat_natCast, Zo, hn, hx0, hx1, hx2]
    refine Ev.bind (ZpA (List.getD b.2.2 x.toNat (0, 0))) ?_
    rw [List.foldl_cons]
    by_cases hg : geared (List.getD b.2.2 x.toNat (0, 0)) = true
    · simp only [hg, if_true]
      by_cases ho : List.getD o2 x.toNat 0 < 0
      · have e1 : visit b v (o2, o3) x = (List.set o2 x.toNat v, o3 ++ [x]) := by unfold visit; rw [if_pos (by simp only [hg, ho, decide_true, Bool.and_self])]
        have hu := Zty v hv o2 x.toNat (by omega) ho
        have hle : o3.length + 1 ≤ 140737488355328 / 8 := by omega
        have ih := Zdn b hb v hv v9 v26 v27 v28 r (pre ++ [x]) (List.set o2 x.toNat v) (o3 ++ [x]) hr' (by simpa using hl) (by simpa using h2) (by simp; omega)
        rw [← Zh] at ih
        simp only [ho, decide_true, if_true, List.length_singleton, hle]
        rw [e1]
        exact ih
      · have e1 : visit b v (o2, o3) x = (o2, o3) := by unfold visit; rw [if_neg (by simp only [ho, decide_false, Bool.and_false, Bool.false_eq_true, not_false_eq_true])]
        simp only [ho, decide_false, Bool.false_eq_true, if_false]
        rw [e1]
        exact ih0
    · have e1 : visit b v (o2, o3) x = (o2, o3) := by unfold visit; rw [if_neg (by simp only [hg, Bool.false_and, Bool.false_eq_true, not_false_eq_true])]
      simp only [hg, Bool.false_eq_true, if_false]
      rw [e1]
      exact ih0
def bfs (b : BoardD) (v : Int) : Nat → List Int → List Int → List Int
 | 0, o2, _ => o2
 | _ + 1, o2, [] => o2
 | n + 1, o2, x :: q => bfs b v n ((nears b x).foldl (visit b v) (o2, [])).1 (q ++ ((nears b x).foldl (visit b v) (o2, [])).2)
theorem Ztz (b : BoardD) (v : Int) : ∀ (n : Nat) (o2 q : List Int), (bfs b v n o2 q).length = o2.length
 | 0, o2, _ => rfl
 | _ + 1, o2, [] => rfl
 | n + 1, o2, x :: q => by simp only [bfs]; rw [Ztz b v n, ZiD]
theorem Zex (b : BoardD) (hb : boardOK b = true) (v : Int) (hv : 0 ≤ v) (v26 : List CellD) (v27 v28 : Int) : ∀ (n : Nat) (o2 q : List Int), (∀ m ∈ q, 0 ≤ m ∧ m < (b.2.2.length : Int)) → o2.length = b.2.2.length → unl o2 + q.length + 1 ≤ n → q.length + unl o2 ≤ 1000 →
    Ev (fun k => Z2o k b.1 b.2.1 b.2.2 o2 q v v26 v27 v28) (b.1, b.2.1, b.2.2, bfs b v n o2 q, v, v26, v27, v28)
  | 0, o2, q, hq, h2, hn, hm => by omega
  | n + 1, o2, [], hq, h2, hn, hm => by
    refine Ev.succ ?_
    simp only [Z2o, List.length_nil]
    have : ¬ ((0 : Nat) : Int) > 0 := by omega
    simp only [this, decide_false, Bool.false_eq_true, if_false]
    exact Ev.some _
  | n + 1, o2, x :: q, hq, h2, hn, hm => by
    obtain ⟨hx0, hx1⟩ := hq x (List.mem_cons_self ..)
    have hlen : (((x :: q).length : Nat) : Int) > 0 := by simp only [List.length_cons]; omega
    have hlen1 : (1 : Int) ≤ (((x :: q).length : Nat) : Int) := by omega
    have hlen0 : (0 : Int) < (((x :: q).length : Nat) : Int) := by omega
    have hin := ZBf hb hx0 hx1
    have hun := Zp1 b v hv (nears b x) (o2, []) (fun m hm => by rw [h2]; exact hin m hm)
    simp only [List.length_nil, Nat.add_zero] at hun
    simp only [List.length_cons] at hn hm
    refine Ev.succ ?_
    simp only [Z2o, hlen, hlen1, hlen0, Int.le_refl, decide_true, if_true]
    refine Ev.bind (Zxr b hb x hx0 hx1) ?_
    have h6 := ZaF b hb v hv v26 v27 v28 (nears b x) [] o2 q hin (by have := ZzC b x; simp; omega) h2 (by omega)
    refine Ev.bind h6 ?_
    have happ := Ziz b v (nears b x) o2 q []
    rw [List.append_nil] at happ
    rw [happ]
    show Ev (fun k => Z2o k b.1 b.2.1 b.2.2 (List.foldl (visit b v) (o2, []) (nears b x)).1 (q ++ (List.foldl (visit b v) (o2, []) (nears b x)).2) v v26 v27 v28) _
    exact Zex b hb v hv v26 v27 v28 n _ _ (fun m hm => by
      rcases List.mem_append.1 hm with hm | hm
      · exact hq m (List.mem_cons_of_mem _ hm)
      · exact Zoj b v (fun m => 0 ≤ m ∧ m < (b.2.2.length : Int)) (nears b x) (o2, []) hin (fun m hm => by cases hm) m hm) (by rw [ZiD]; exact h2) (by rw [List.length_append]; omega) (by rw [List.length_append]; omega)
theorem Zii (b : BoardD) (hb : boardOK b = true) (v : Int) (hv : 0 ≤ v) (v26 : List CellD) (v27 v28 : Int) : ∀ (n : Nat) (o2 q pre : List Int), (∀ m ∈ q, 0 ≤ m ∧ m < (b.2.2.length : Int)) → o2.length = b.2.2.length → unl o2 + q.length + 1 ≤ n → (pre ++ q).length + unl o2 ≤ 1000 →
    Ev (fun k => Z47 k b.1 b.2.1 b.2.2 o2 (pre ++ q) v (pre.length : Int) v26 v27 v28) (b.1, b.2.1, b.2.2, bfs b v n o2 q, v, v26, v27, v28)
  | 0, o2, q, pre, hq, h2, hn, hm => by omega
  | n + 1, o2, [], pre, hq, h2, hn, hm => by
    refine Ev.succ ?_
    simp only [Z47, Zz, decide_false, Bool.false_eq_true, if_false]
    exact Ev.some _
  | n + 1, o2, x :: q, pre, hq, h2, hn, hm => by
    obtain ⟨hx0, hx1⟩ := hq x (List.mem_cons_self ..)
    have hin := ZBf hb hx0 hx1
    have hun := Zp1 b v hv (nears b x) (o2, []) (fun m hm => by rw [h2]; exact hin m hm)
    simp only [List.length_nil, Nat.add_zero] at hun
    have hm' := hm
    simp only [List.length_cons, List.length_append] at hn hm'
    refine Ev.succ ?_
    simp only [Z47, Zs, ZN, decide_true, if_true, Int.toNat_natCast, Zo]
    refine Ev.bind (ZAs b hb x hx0 hx1) ?_
    have h6 := Zdn b hb v hv (pre.length : Int) v26 v27 v28 (nears b x) [] o2 (pre ++ x :: q) hin (by have := ZzC b x; simp; omega) h2 hm
    refine Ev.bind h6 ?_
    have happ := Ziz b v (nears b x) o2 (pre ++ x :: q) []
    rw [List.append_nil] at happ
    rw [happ]
    show Ev (fun k => Z47 k b.1 b.2.1 b.2.2 (List.foldl (visit b v) (o2, []) (nears b x)).1 ((pre ++ x :: q) ++ (List.foldl (visit b v) (o2, []) (nears b x)).2) v (wrap64 ((pre.length : Int) + 1)) v26 v27 v28) _
    rw [Zq pre x q (by simp; omega), Zh, List.append_assoc]
    exact Zii b hb v hv v26 v27 v28 n _ _ (pre ++ [x]) (fun m hm => by
      rcases List.mem_append.1 hm with hm | hm
      · exact hq m (List.mem_cons_of_mem _ hm)
      · exact Zoj b v (fun m => 0 ≤ m ∧ m < (b.2.2.length : Int)) (nears b x) (o2, []) hin (fun m hm => by cases hm) m hm) (by rw [ZiD]; exact h2) (by rw [List.length_append]; omega) (by simp only [List.length_append, List.length_singleton]; omega)
def groupsFrom (b : BoardD) : Int → List CellD → List Int → Int → List Int
 | _, [], o2, _ => o2
 | i, x :: r, o2, v => if geared x && decide (List.getD o2 i.toNat 0 < 0) then groupsFrom b (i + 1) r (bfs b v 200 (List.set o2 i.toNat v) [i]) (v + 1) else groupsFrom b (i + 1) r o2 v
theorem Zgx (b : BoardD) : ∀ (r : List CellD) (i : Int) (o2 : List Int) (v : Int), (groupsFrom b i r o2 v).length = o2.length
 | [], _, _, _ => rfl
 | x :: r, i, o2, v => by
  simp only [groupsFrom]
  split
  ·rw [Zgx b r, Ztz, List.length_set]
  ·exact Zgx b r _ _ _
def groupsOf (b : BoardD) : List Int := groupsFrom b 0 b.2.2 (List.replicate b.2.2.length (-1)) 0
theorem Zfq (b : BoardD) : (groupsOf b).length = b.2.2.length := by unfold groupsOf; rw [Zgx]; simp
theorem Zey (b : BoardD) (m : Int) : ∀ (r pre : List Int), m = ((pre ++ r).length : Int) → (pre ++ r).length ≤ 1000 → Ev (fun k => Z3p k b.1 b.2.1 b.2.2 (pre ++ r) m (pre.length : Int)) (b.1, b.2.1, b.2.2, pre ++ List.replicate r.length (-1))
 | [], pre, hm, hl => by
  refine Ev.succ ?_
  have : ¬ (pre.length : Int) < m := by rw [hm]; exact Zz pre
  simp only [Z3p, this, decide_false, Bool.false_eq_true, if_false]
  exact Ev.of (by simp)
 | x :: r, pre, hm, hl => by
  have ih := Zey b m r (pre ++ [-1]) (by rw [hm]; simp) (by simpa using hl)
  have hlt : (pre.length : Int) < m := by rw [hm]; exact Zs _ _ _
  have hn2 : ((pre ++ [x]).length : Int) = ((pre ++ [(-1 : Int)]).length : Int) := by simp
  refine Ev.succ ?_
  simp only [Z3p, hlt, Zs, ZN, decide_true, if_true, Int.toNat_natCast, Zno]
  rw [Zq pre x r (by omega), hn2]
  rw [← Zh] at ih
  refine ih.congr ?_
  simp [List.replicate_succ]
theorem Zay (b : BoardD) (hb : boardOK b = true) : ∀ (r pre : List CellD) (o2 : List Int) (v : Int), pre ++ r = b.2.2 → o2.length = b.2.2.length → 0 ≤ v → v ≤ pre.length → Ev (fun k => Z1c k b.1 b.2.1 b.2.2 o2 v (pre ++ r) ((pre ++ r).length : Int) (pre.length : Int)) (groupsFrom b pre.length r o2 v)
 | [], pre, o2, v, hpr, h2, hv, hv2 => by
  refine Ev.succ ?_
  simp only [Z1c, Zz, decide_false, Bool.false_eq_true, if_false]
  exact Ev.some _
 | x :: r, pre, o2, v, hpr, h2, hv, hv2 => by
  obtain ⟨g1, g2, g3, g4, g5, g6⟩ := ZH hb
  have hp := ZL g1 g2 g3 g4
  have hl90 : (pre ++ x :: r).length ≤ 90 := by rw [hpr]; omega
  have hn := Zq pre x r (by omega)
  have hc : ((pre ++ [x]).length : Int) = (pre.length : Int) + 1 := by simp
  have hlt := Zs pre x r
  have hlo : (pre.length : Int) < (o2.length : Int) := by rw [h2, ← hpr]; exact hlt
  have ih0 := Zay b hb r (pre ++ [x]) o2 v (by rw [← hpr]; simp) h2 hv (by simp; omega)
  rw [← Zh, hc] at ih0
  refine Ev.succ ?_
  simp only [Z1c, Zs, ZN, decide_true, if_true, Int.toNat_natCast, Zo, hn, hc, hlo]
  refine Ev.bind (Zli x) ?_
  cases hg : geared x with
  | false =>
   simp only [Bool.not_false, if_true, groupsFrom, hg, Bool.false_and, Bool.false_eq_true, if_false]
   exact ih0
  | true =>
   simp only [Bool.not_true, Bool.false_eq_true, if_false]
   refine Ev.ite (fun h => ?_) (fun h => ?_)
   ·simp only [ge_iff_le, decide_eq_true_eq] at h
    have hno : ¬ List.getD o2 pre.length 0 < 0 := by omega
    simp only [groupsFrom, hg, Int.toNat_natCast, hno, decide_false, Bool.and_false, Bool.false_eq_true, if_false]
    exact ih0
   ·simp only [ge_iff_le, decide_eq_true_eq] at h
    have hno : List.getD o2 pre.length 0 < 0 := by omega
    have hul := ZD2 (List.set o2 pre.length v)
    rw [List.length_set, h2, ← hpr] at hul
    have h4 := Zex b hb v hv (pre ++ x :: r) ((pre ++ x :: r).length : Int) (pre.length : Int) 200 (List.set o2 pre.length v) [(pre.length : Int)] (fun m hm => by rw [List.mem_singleton.1 hm, ← hpr]; exact ⟨by omega, hlt⟩) (by rw [List.length_set]; exact h2) (by simp; omega) (by simp; omega)
    refine Ev.bind h4 ?_
    have ih := Zay b hb r (pre ++ [x]) (bfs b v 200 (List.set o2 pre.length v) [(pre.length : Int)]) (v + 1) (by rw [← hpr]; simp) (by rw [Ztz, List.length_set]; exact h2) (by omega) (by simp; omega)
    rw [← Zh, hc] at ih
    show Ev (fun k => Z1c k b.1 b.2.1 b.2.2 (bfs b v 200 (List.set o2 pre.length v) [(pre.length : Int)]) (wrap64 (v + 1)) (pre ++ x :: r) ((pre ++ x :: r).length : Int) (wrap64 ((pre.length : Int) + 1))) _
    rw [w64 (n := v + 1) (by omega) (by omega), hn, hc]
    simp only [groupsFrom, hg, Int.toNat_natCast, hno, decide_true, Bool.and_self, if_true]
    exact ih
theorem ZfS (b : BoardD) (hb : boardOK b = true) : Ev (fun k => Z5P k b) (groupsOf b) := by
 obtain ⟨g1, g2, g3, g4, g5, g6⟩ := ZH hb
 have hp := ZL g1 g2 g3 g4
 have hm : b.2.2.length * 8 ≤ 281474976710656 := by omega
 refine Ev.succ ?_
 simp only [Z5P, Int.toNat_natCast, hm, if_true]
 refine Ev.bind (Zey b _ (List.replicate b.2.2.length 0) [] rfl (by simp; omega)) ?_
 have hrep : ([] : List Int) ++ List.replicate (List.replicate b.2.2.length (0 : Int)).length (-1) = List.replicate b.2.2.length (-1) := by simp
 rw [hrep]
 exact Ev.bind (Zay b hb b.2.2 [] (List.replicate b.2.2.length (-1)) 0 rfl (by simp) (by omega) (by simp)) (Ev.some _)
theorem Zil (b : BoardD) (m : Int) : ∀ (r pre : List Int), m = ((pre ++ r).length : Int) → (pre ++ r).length ≤ 1000 → Ev (fun k => Z5p k b.1 b.2.1 b.2.2 (pre ++ r) m (pre.length : Int)) (b.1, b.2.1, b.2.2, pre ++ List.replicate r.length (-1))
 | [], pre, hm, hl => by
  refine Ev.succ ?_
  have : ¬ (pre.length : Int) < m := by rw [hm]; exact Zz pre
  simp only [Z5p, this, decide_false, Bool.false_eq_true, if_false]
  exact Ev.of (by simp)
 | x :: r, pre, hm, hl => by
  have ih := Zil b m r (pre ++ [-1]) (by rw [hm]; simp) (by simpa using hl)
  have hlt : (pre.length : Int) < m := by rw [hm]; exact Zs _ _ _
  have hn2 : ((pre ++ [x]).length : Int) = ((pre ++ [(-1 : Int)]).length : Int) := by simp
  refine Ev.succ ?_
  simp only [Z5p, hlt, Zs, ZN, decide_true, if_true, Int.toNat_natCast, Zno]
  rw [Zq pre x r (by omega), hn2]
  rw [← Zh] at ih
  refine ih.congr ?_
  simp [List.replicate_succ]
theorem Zdj (b : BoardD) (hb : boardOK b = true) : ∀ (r pre : List CellD) (o2 : List Int) (v : Int), pre ++ r = b.2.2 → o2.length = b.2.2.length → 0 ≤ v → v ≤ pre.length → Ev (fun k => Z2d k b.1 b.2.1 b.2.2 o2 v (pre ++ r) ((pre ++ r).length : Int) (pre.length : Int)) (groupsFrom b pre.length r o2 v)
 | [], pre, o2, v, hpr, h2, hv, hv2 => by
  refine Ev.succ ?_
  simp only [Z2d, Zz, decide_false, Bool.false_eq_true, if_false]
  exact Ev.some _
 | x :: r, pre, o2, v, hpr, h2, hv, hv2 => by
  obtain ⟨g1, g2, g3, g4, g5, g6⟩ := ZH hb
  have hp := ZL g1 g2 g3 g4
  have hl90 : (pre ++ x :: r).length ≤ 90 := by rw [hpr]; omega
  have hn := Zq pre x r (by omega)
  have hc : ((pre ++ [x]).length : Int) = (pre.length : Int) + 1 := by simp
  have hlt := Zs pre x r
  have hlo : (pre.length : Int) < (o2.length : Int) := by rw [h2, ← hpr]; exact hlt
  have ih0 := Zdj b hb r (pre ++ [x]) o2 v (by rw [← hpr]; simp) h2 hv (by simp; omega)
  rw [← Zh, hc] at ih0
  refine Ev.succ ?_
  simp only [Z2d, Zs, ZN, decide_true, if_true, Int.toNat_natCast, Zo, hn, hc, hlo]
  refine Ev.bind (ZpA x) ?_
  cases hg : geared x with
  | false =>
   simp only [Bool.not_false, if_true, groupsFrom, hg, Bool.false_and, Bool.false_eq_true, if_false]
   exact ih0
  | true =>
   simp only [Bool.not_true, Bool.false_eq_true, if_false]
   refine Ev.ite (fun h => ?_) (fun h => ?_)
   ·simp only [ge_iff_le, decide_eq_true_eq] at h
    have hno : ¬ List.getD o2 pre.length 0 < 0 := by omega
    simp only [groupsFrom, hg, Int.toNat_natCast, hno, decide_false, Bool.and_false, Bool.false_eq_true, if_false]
    exact ih0
   ·simp only [ge_iff_le, decide_eq_true_eq] at h
    have hno : List.getD o2 pre.length 0 < 0 := by omega
    have hul := ZD2 (List.set o2 pre.length v)
    rw [List.length_set, h2, ← hpr] at hul
    have h4 := Zii b hb v hv (pre ++ x :: r) ((pre ++ x :: r).length : Int) (pre.length : Int) 200 (List.set o2 pre.length v) [(pre.length : Int)] [] (fun m hm => by rw [List.mem_singleton.1 hm, ← hpr]; exact ⟨by omega, hlt⟩) (by rw [List.length_set]; exact h2) (by simp; omega) (by simp; omega)
    refine Ev.bind h4 ?_
    have ih := Zdj b hb r (pre ++ [x]) (bfs b v 200 (List.set o2 pre.length v) [(pre.length : Int)]) (v + 1) (by rw [← hpr]; simp) (by rw [Ztz, List.length_set]; exact h2) (by omega) (by simp; omega)
    rw [← Zh, hc] at ih
    show Ev (fun k => Z2d k b.1 b.2.1 b.2.2 (bfs b v 200 (List.set o2 pre.length v) [(pre.length : Int)]) (wrap64 (v + 1)) (pre ++ x :: r) ((pre ++ x :: r).length : Int) (wrap64 ((pre.length : Int) + 1))) _
    rw [w64 (n := v + 1) (by omega) (by omega), hn, hc]
    simp only [groupsFrom, hg, Int.toNat_natCast, hno, decide_true, Bool.and_self, if_true]
    exact ih
theorem Zlc (b : BoardD) (hb : boardOK b = true) : Ev (fun k => Z20 k b) (groupsOf b) := by
 obtain ⟨g1, g2, g3, g4, g5, g6⟩ := ZH hb
 have hp := ZL g1 g2 g3 g4
 have hm : b.2.2.length * 8 ≤ 281474976710656 := by omega
 refine Ev.succ ?_
 simp only [Z20, Int.toNat_natCast, hm, if_true]
 refine Ev.bind (Zil b _ (List.replicate b.2.2.length 0) [] rfl (by simp; omega)) ?_
 have hrep : ([] : List Int) ++ List.replicate (List.replicate b.2.2.length (0 : Int)).length (-1) = List.replicate b.2.2.length (-1) := by simp
 rw [hrep]
 exact Ev.bind (Zdj b hb b.2.2 [] (List.replicate b.2.2.length (-1)) 0 rfl (by simp) (by omega) (by simp)) (Ev.some _)
end Go.Proofs.Ytgjmhbjdhihgaaa.Vs

set_option linter.unusedVariables false
set_option linter.unusedSimpArgs false
namespace Go.Proofs.Ytgjmhbjdhihgaaa.Vs
open Go.RowKit
def fits (x : CellD) (kd : Int) : Bool := decide (kd = 2) || (decide (kd = 1) && turning x) || (decide (kd = 3) && (turning x || decide (x.1 = 1 ∨ x.1 = 2)))
theorem ZpV (x : CellD) (kd : Int) : Ev (fun k => Zbq k x kd) (fits x kd) := by
 refine Ev.succ ?_
 simp only [Zbq]
 refine Ev.ite (fun h => ?_) (fun h => ?_)
 ·simp only [decide_eq_true_eq] at h
  refine Ev.bind (ZaP x) (Ev.of ?_)
  simp [fits, h]
 ·simp only [decide_eq_true_eq] at h
  refine Ev.ite (fun h2 => ?_) (fun h2 => ?_)
  ·simp only [decide_eq_true_eq] at h2
   exact Ev.of (by simp [fits, h2])
  ·simp only [decide_eq_true_eq] at h2
   refine Ev.ite (fun h3 => ?_) (fun h3 => ?_)
   ·simp only [decide_eq_true_eq] at h3
    refine Ev.bind (ZaP x) (Ev.ite (fun h4 => ?_) (fun h4 => ?_))
    ·exact Ev.of (by simp [fits, h3, h4])
    ·refine Ev.of ?_
     simp only [Bool.not_eq_true] at h4
     by_cases h5 : x.1 = 1 <;> simp [fits, h3, h4, h5]
   ·simp only [decide_eq_true_eq] at h3
    exact Ev.of (by simp [fits, h, h2, h3])
theorem Znm (x : CellD) (kd : Int) (hx : cellOK x = true) : Ev (fun k => ZaE k x kd) (fits x kd) := by
 have ht : Ev (fun k => Z2I k x) (turning x) := by simpa [hx] using Zj1 x
 refine Ev.succ ?_
 simp only [ZaE]
 refine Ev.ite (fun h => ?_) (fun h => ?_)
 ·simp only [decide_eq_true_eq] at h
  refine Ev.bind ht (Ev.of ?_)
  simp [fits, h]
 ·simp only [decide_eq_true_eq] at h
  refine Ev.ite (fun h2 => ?_) (fun h2 => ?_)
  ·simp only [decide_eq_true_eq] at h2
   exact Ev.of (by simp [fits, h2])
  ·simp only [decide_eq_true_eq] at h2
   refine Ev.ite (fun h3 => ?_) (fun h3 => ?_)
   ·simp only [decide_eq_true_eq] at h3
    refine Ev.bind ht (Ev.ite (fun h4 => ?_) (fun h4 => ?_))
    ·exact Ev.of (by simp [fits, h3, h4])
    ·refine Ev.of ?_
     simp only [Bool.not_eq_true] at h4
     by_cases h5 : x.1 = 1 <;> simp [fits, h3, h4, h5]
   ·simp only [decide_eq_true_eq] at h3
    exact Ev.of (by simp [fits, h, h2, h3])
def faultsOK (b : BoardD) : Int → List FaultD → Bool
 | _, [] => true
 | last, x :: r => decide (0 ≤ x.2.1 ∧ x.2.1 < b.1 ∧ 0 ≤ x.2.2 ∧ x.2.2 < b.2.1 ∧ last < x.2.1 * b.2.1 + x.2.2) && fits (List.getD b.2.2 (x.2.1 * b.2.1 + x.2.2).toNat (0, 0)) x.1 && faultsOK b (x.2.1 * b.2.1 + x.2.2) r
theorem ZCp (b : BoardD) (hb : boardOK b = true) {r c : Int} (h1 : 0 ≤ r) (h2 : r < b.1) (h3 : 0 ≤ c) (h4 : c < b.2.1) : Ev (fun k => Z87 k b r c) (List.getD b.2.2 (r * b.2.1 + c).toNat (0, 0)) := by
 have hp := Z4E hb h1 h2 h3 h4
 refine Ev.succ ?_
 simp only [Z87]
 rw [w64 (n := r * b.2.1) (by omega) (by omega), w64 (by omega) (by omega)]
 simp only [hp.1, hp.2.1, if_true]
 exact Ev.some _
theorem Zl7 (b : BoardD) (hb : boardOK b = true) (w : List FaultD) : ∀ (r pre : List FaultD) (last : Int), (pre ++ r).length ≤ 9223372036854775806 → Ev (fun k => Z6Y k b.1 b.2.1 b.2.2 w last (pre ++ r) ((pre ++ r).length : Int) (pre.length : Int)) (if faultsOK b last r then LR.go w else LR.ret false)
 | [], pre, last, hl => by
  refine Ev.succ ?_
  simp only [Z6Y, Zz, decide_false, Bool.false_eq_true, if_false, faultsOK, if_true]
  exact Ev.some _
 | x :: r, pre, last, hl => by
  obtain ⟨g1, g2, g3, g4, g5, g6⟩ := ZH hb
  refine Ev.succ ?_
  simp only [Z6Y, Zs, ZN, decide_true, if_true, Int.toNat_natCast, Zo]
  rw [Zq pre x r (by omega), w64 (n := b.1 - 1) (by omega) (by omega), w64 (n := b.2.1 - 1) (by omega) (by omega)]
  refine Ev.bind (Z3G _ _ _) (Ev.ite (fun h => Ev.of ?_) (fun h => ?_))
  ·have h : ¬ (0 ≤ x.2.1 ∧ x.2.1 ≤ b.1 - 1) := nd h
   rw [if_neg (by simp only [faultsOK, Bool.and_eq_true, decide_eq_true_eq]; omega)]
  have h1 : 0 ≤ x.2.1 ∧ x.2.1 ≤ b.1 - 1 := yd h
  refine Ev.bind (Z3G _ _ _) (Ev.ite (fun h => Ev.of ?_) (fun h => ?_))
  ·have h : ¬ (0 ≤ x.2.2 ∧ x.2.2 ≤ b.2.1 - 1) := nd h
   rw [if_neg (by simp only [faultsOK, Bool.and_eq_true, decide_eq_true_eq]; omega)]
  have h2 : 0 ≤ x.2.2 ∧ x.2.2 ≤ b.2.1 - 1 := yd h
  have hp := Z4E hb h1.1 (by omega) h2.1 (by omega)
  rw [w64 (n := x.2.1 * b.2.1) (by omega) (by omega), w64 (n := x.2.1 * b.2.1 + x.2.2) (by omega) (by omega)]
  refine Ev.bind (ZCp b hb h1.1 (by omega) h2.1 (by omega)) ?_
  refine Ev.bind (ZpV _ _) (Ev.ite (fun h => Ev.of ?_) (fun h => ?_))
  ·have h : fits (List.getD b.2.2 (x.2.1 * b.2.1 + x.2.2).toNat (0, 0)) x.1 = false := by simpa using h
   simp only [faultsOK, h, Bool.and_false, Bool.false_and, Bool.false_eq_true, if_false]
  have h3 : fits (List.getD b.2.2 (x.2.1 * b.2.1 + x.2.2).toNat (0, 0)) x.1 = true := by simpa using h
  refine Ev.ite (fun h => Ev.of ?_) (fun h => ?_)
  ·simp only [decide_eq_true_eq] at h
   rw [if_neg (by simp only [faultsOK, Bool.and_eq_true, decide_eq_true_eq]; omega)]
  simp only [decide_eq_true_eq] at h
  have ih := Zl7 b hb w r (pre ++ [x]) (x.2.1 * b.2.1 + x.2.2) (by simpa using hl)
  rw [← Zh] at ih
  refine ih.congr ?_
  have h5 : 0 ≤ x.2.1 ∧ x.2.1 < b.1 ∧ 0 ≤ x.2.2 ∧ x.2.2 < b.2.1 ∧ last < x.2.1 * b.2.1 + x.2.2 := by omega
  simp only [faultsOK, h3, h5, and_self, decide_true, Bool.true_and]
theorem ZpZ (b : BoardD) (hb : boardOK b = true) (l : List FaultD) (hl : l.length ≤ 9223372036854775806) : Ev (fun k => Zbp k b l) (decide (l.length ≤ 4) && faultsOK b (-1) l) := by
 refine Ev.succ ?_
 simp only [Zbp]
 refine Ev.bind (Zl7 b hb l l [] (-1) (by simpa using hl)) ?_
 cases hx : faultsOK b (-1) l with
 | true =>
  simp only [if_true]
  refine Ev.go (Ev.of ?_)
  by_cases h4 : l.length ≤ 4
  ·have : (l.length : Int) ≤ 4 := by omega
   simp [h4, this]
  ·have : ¬ (l.length : Int) ≤ 4 := by omega
   simp [h4, this]
 | false =>
  simp only [Bool.false_eq_true, if_false, Bool.and_false]
  exact Ev.ret (Ev.some _)
theorem Zhm (b : BoardD) (hb : boardOK b = true) : ∀ (r pre : List FaultD) (last : Int), (pre ++ r).length ≤ 9223372036854775806 → Ev (fun k => Z4L k b.1 b.2.1 b.2.2 last (pre ++ r) ((pre ++ r).length : Int) (pre.length : Int)) (if faultsOK b last r then LR.go () else LR.ret false)
 | [], pre, last, hl => by
  refine Ev.succ ?_
  simp only [Z4L, Zz, decide_false, Bool.false_eq_true, if_false, faultsOK, if_true]
  exact Ev.some _
 | x :: r, pre, last, hl => by
  obtain ⟨g1, g2, g3, g4, g5, g6⟩ := ZH hb
  have hp := ZL g1 g2 g3 g4
  refine Ev.succ ?_
  simp only [Z4L, Zs, ZN, decide_true, if_true, Int.toNat_natCast, Zo]
  rw [Zq pre x r (by omega)]
  refine Ev.bind (Zz3 b _ _ (by omega)) (Ev.ite (fun h => Ev.of ?_) (fun h => ?_))
  ·rw [hb, Bool.true_and] at h
   have h : ¬ (0 ≤ x.2.1 ∧ x.2.1 < b.1 ∧ 0 ≤ x.2.2 ∧ x.2.2 < b.2.1) := nd h
   rw [if_neg (by simp only [faultsOK, Bool.and_eq_true, decide_eq_true_eq]; omega)]
  rw [hb, Bool.true_and] at h
  have h1 : 0 ≤ x.2.1 ∧ x.2.1 < b.1 ∧ 0 ≤ x.2.2 ∧ x.2.2 < b.2.1 := yd h
  have hp := Z4E hb h1.1 h1.2.1 h1.2.2.1 h1.2.2.2
  rw [w64 (n := x.2.1 * b.2.1) (by omega) (by omega), w64 (n := x.2.1 * b.2.1 + x.2.2) (by omega) (by omega)]
  refine Ev.ite (fun h => Ev.of ?_) (fun h => ?_)
  ·simp only [decide_eq_true_eq] at h
   rw [if_neg (by simp only [faultsOK, Bool.and_eq_true, decide_eq_true_eq]; omega)]
  simp only [decide_eq_true_eq] at h
  simp only [hp.1, hp.2.1, if_true]
  refine Ev.bind (Znm _ _ (g6 _ (ZiP hp.1 hp.2.1 _))) (Ev.ite (fun h => Ev.of ?_) (fun h => ?_))
  ·have h : fits (List.getD b.2.2 (x.2.1 * b.2.1 + x.2.2).toNat (0, 0)) x.1 = false := by simpa using h
   simp only [faultsOK, h, Bool.and_false, Bool.false_and, Bool.false_eq_true, if_false]
  have h3 : fits (List.getD b.2.2 (x.2.1 * b.2.1 + x.2.2).toNat (0, 0)) x.1 = true := by simpa using h
  have ih := Zhm b hb r (pre ++ [x]) (x.2.1 * b.2.1 + x.2.2) (by simpa using hl)
  rw [← Zh] at ih
  refine ih.congr ?_
  have h5 : 0 ≤ x.2.1 ∧ x.2.1 < b.1 ∧ 0 ≤ x.2.2 ∧ x.2.2 < b.2.1 ∧ last < x.2.1 * b.2.1 + x.2.2 := by omega
  simp only [faultsOK, h3, h5, and_self, decide_true, Bool.true_and]
theorem ZwF (b : BoardD) (hb : boardOK b = true) (l : List FaultD) (hl : l.length ≤ 9223372036854775806) : Ev (fun k => Zbk k b l) (decide (l.length ≤ 4) && faultsOK b (-1) l) := by
 refine Ev.succ ?_
 simp only [Zbk]
 refine Ev.ite (fun h => Ev.of ?_) (fun h => ?_)
 ·simp only [decide_eq_true_eq] at h
  have : ¬ l.length ≤ 4 := by omega
  simp [this]
 simp only [decide_eq_true_eq] at h
 have h4 : l.length ≤ 4 := by omega
 refine Ev.bind (Zhm b hb l [] (-1) (by simpa using hl)) ?_
 simp only [h4, decide_true, Bool.true_and]
 cases hx : faultsOK b (-1) l with
 | true => simp only [if_true]; exact Ev.go (Ev.some _)
 | false => simp only [Bool.false_eq_true, if_false]; exact Ev.ret (Ev.some _)
end Go.Proofs.Ytgjmhbjdhihgaaa.Vs

set_option linter.unusedVariables false
set_option linter.unusedSimpArgs false
namespace Go.Proofs.Ytgjmhbjdhihgaaa.Vs
open Go.RowKit
def placeOf (b : BoardD) (f : FaultD) : Int := f.2.1 * b.2.1 + f.2.2
def kindsOf (b : BoardD) (l : List FaultD) (K : List Int) : List Int := l.foldl (fun K f => List.set K (placeOf b f).toNat f.1) K
def faAtD (r c d : Int) : List FaultD → Int
 | [] => d
 | f :: l => if f.2.1 = r ∧ f.2.2 = c then f.1 else faAtD r c d l
theorem ZdI {b : BoardD} {last : Int} {f : FaultD} {l : List FaultD} (h : faultsOK b last (f :: l) = true) : (0 ≤ f.2.1 ∧ f.2.1 < b.1 ∧ 0 ≤ f.2.2 ∧ f.2.2 < b.2.1 ∧ last < placeOf b f) ∧ faultsOK b (placeOf b f) l = true := by
 simp only [faultsOK, Bool.and_eq_true, decide_eq_true_eq] at h
 exact ⟨h.1.1, h.2⟩
theorem Zle {b : BoardD} : ∀ {l : List FaultD} {last : Int}, faultsOK b last l = true → ∀ f ∈ l, 0 ≤ f.2.1 ∧ f.2.1 < b.1 ∧ 0 ≤ f.2.2 ∧ f.2.2 < b.2.1
 | [], _, _, f, hf => by cases hf
 | g :: l, last, h, f, hf => by
  obtain ⟨h1, h2⟩ := ZdI h
  rcases List.mem_cons.1 hf with rfl | hf
  ·exact ⟨h1.1, h1.2.1, h1.2.2.1, h1.2.2.2.1⟩
  ·exact Zle h2 f hf
theorem Zrl {C r c r' c' : Int} (h1 : 0 ≤ c) (h2 : c < C) (h3 : 0 ≤ c') (h4 : c' < C) (h : r * C + c = r' * C + c') : r = r' ∧ c = c' := by
 have key : ∀ {x y : Int}, x < y → x * C + C ≤ y * C := by
  intro x y hxy
  have := Int.mul_le_mul_of_nonneg_right (show x + 1 ≤ y by omega) (show 0 ≤ C by omega)
  rw [Int.add_mul, Int.one_mul] at this
  exact this
 rcases Int.lt_trichotomy r r' with hr | hr | hr
 ·have := key hr; omega
 ·subst hr; omega
 ·have := key hr; omega
theorem Zvq {b : BoardD} {r c : Int} (d : Int) : ∀ {l : List FaultD} {last : Int}, faultsOK b last l = true → r * b.2.1 + c ≤ last → faAtD r c d l = d
 | [], _, _, _ => rfl
 | f :: l, last, h, hp => by
  obtain ⟨h1, h2⟩ := ZdI h
  unfold placeOf at h1 h2
  simp only [faAtD]
  rw [if_neg (by rintro ⟨rfl, rfl⟩; omega)]
  exact Zvq d h2 (by omega)
theorem Zvr (b : BoardD) : ∀ (l : List FaultD) (K : List Int), (kindsOf b l K).length = K.length
 | [], _ => rfl
 | f :: l, K => by
  show (kindsOf b l (List.set K (placeOf b f).toNat f.1)).length = _
  rw [Zvr b l, List.length_set]
theorem ZCk {α : Type} (l : List α) (i j : Nat) (x d : α) (hi : i < l.length) : List.getD (List.set l i x) j d = if i = j then x else List.getD l j d := by
 simp only [List.getD, List.getElem?_set]
 by_cases h : i = j
 ·subst h; simp [hi]
 ·simp [h]
theorem ZoA {b : BoardD} (hb : boardOK b = true) {r c : Int} (h1 : 0 ≤ r) (h2 : r < b.1) (h3 : 0 ≤ c) (h4 : c < b.2.1) : ∀ {l : List FaultD} {last : Int} {K : List Int}, faultsOK b last l = true → K.length = b.2.2.length → List.getD (kindsOf b l K) (r * b.2.1 + c).toNat 0 = faAtD r c (List.getD K (r * b.2.1 + c).toNat 0) l
 | [], _, _, _, _ => rfl
 | f :: l, last, K, h, hK => by
  obtain ⟨g1, g2⟩ := ZdI h
  have hp := Z4E hb h1 h2 h3 h4
  have hf := Z4E hb g1.1 g1.2.1 g1.2.2.1 g1.2.2.2.1
  show List.getD (kindsOf b l (List.set K (placeOf b f).toNat f.1)) _ 0 = _
  rw [ZoA hb h1 h2 h3 h4 g2 (by rw [List.length_set]; exact hK)]
  rw [ZCk _ _ _ _ _ (by unfold placeOf; omega)]
  simp only [faAtD]
  by_cases hm : f.2.1 = r ∧ f.2.2 = c
  ·rw [if_pos hm, if_pos (by unfold placeOf; rw [hm.1, hm.2])]
   exact Zvq _ g2 (by unfold placeOf; rw [hm.1, hm.2]; omega)
  ·rw [if_neg hm, if_neg (fun he => hm (Zrl g1.2.2.1 g1.2.2.2.1 h3 h4 (by unfold placeOf at he; omega)))]
theorem Zer (b : BoardD) (hb : boardOK b = true) : ∀ (r pre : List FaultD) (K : List Int), (∀ f ∈ r, 0 ≤ f.2.1 ∧ f.2.1 < b.1 ∧ 0 ≤ f.2.2 ∧ f.2.2 < b.2.1) → (pre ++ r).length ≤ 9223372036854775806 → K.length = b.2.2.length → Ev (fun k => Z3r k b.1 b.2.1 b.2.2 K (pre ++ r) ((pre ++ r).length : Int) (pre.length : Int)) (kindsOf b r K)
 | [], pre, K, hr, hl, hK => by
  refine Ev.succ ?_
  simp only [Z3r, Zz, decide_false, Bool.false_eq_true, if_false]
  exact Ev.some _
 | f :: r, pre, K, hr, hl, hK => by
  obtain ⟨k1, k2, k3, k4⟩ := hr f (List.mem_cons_self ..)
  have hp := Z4E hb k1 k2 k3 k4
  have hpK : f.2.1 * b.2.1 + f.2.2 < (K.length : Int) := by omega
  have ih := Zer b hb r (pre ++ [f]) (List.set K (placeOf b f).toNat f.1) (fun g hg => hr g (List.mem_cons_of_mem _ hg)) (by simpa using hl) (by rw [List.length_set]; exact hK)
  refine Ev.succ ?_
  simp only [Z3r, Zs, ZN, decide_true, if_true, Int.toNat_natCast, Zo]
  rw [Zq pre f r (by omega), w64 (n := f.2.1 * b.2.1) (by omega) (by omega), w64 (n := f.2.1 * b.2.1 + f.2.2) (by omega) (by omega)]
  simp only [hp.1, hpK, if_true]
  rw [← Zh] at ih
  exact ih
def kindsB (b : BoardD) (l : List FaultD) : List Int := kindsOf b l (List.replicate b.2.2.length 0)
theorem ZDs (b : BoardD) (l : List FaultD) : (kindsB b l).length = b.2.2.length := by unfold kindsB; rw [Zvr]; simp
theorem ZqL (b : BoardD) (hb : boardOK b = true) (l : List FaultD) (hl : faultsOK b (-1) l = true) (hlen : l.length ≤ 9223372036854775806) : Ev (fun k => Z8J k b l) (kindsB b l) := by
 obtain ⟨g1, g2, g3, g4, g5, g6⟩ := ZH hb
 have hp := ZL g1 g2 g3 g4
 have hm : b.2.2.length * 8 ≤ 281474976710656 := by omega
 refine Ev.succ ?_
 simp only [Z8J, Int.toNat_natCast, hm, if_true]
 exact Ev.bind (Zer b hb l [] _ (Zle hl) (by simpa using hlen) (by simp)) (Ev.some _)
theorem ZhB (r c : Int) : ∀ (l pre : List FaultD), (pre ++ l).length ≤ 9223372036854775806 → ∀ {z : LR Unit Int}, (z = LR.go () ∧ faAtD r c 0 l = 0 ∨ z = LR.ret (faAtD r c 0 l)) → (∀ f ∈ l, ¬ (f.2.1 = r ∧ f.2.2 = c)) ∧ z = LR.go () ∨ (∃ f ∈ l, f.2.1 = r ∧ f.2.2 = c) ∧ z = LR.ret (faAtD r c 0 l) → Ev (fun k => Z5J k r c (pre ++ l) ((pre ++ l).length : Int) (pre.length : Int)) z
 | [], pre, hl, z, _, hz => by
  refine Ev.succ ?_
  simp only [Z5J, Zz, decide_false, Bool.false_eq_true, if_false]
  rcases hz with ⟨_, rfl⟩ | ⟨⟨f, hf, _⟩, _⟩
  ·exact Ev.some _
  ·cases hf
 | f :: l, pre, hl, z, hz0, hz => by
  have hn := Zq pre f l (by omega)
  have hl' : ((pre ++ [f]) ++ l).length ≤ 9223372036854775806 := by simpa using hl
  refine Ev.succ ?_
  simp only [Z5J, Zs, ZN, decide_true, if_true, Int.toNat_natCast, Zo, hn]
  by_cases hm : f.2.1 = r ∧ f.2.2 = c
  ·simp only [hm.1, hm.2, decide_true, if_true]
   rcases hz with ⟨h, _⟩ | ⟨_, rfl⟩
   ·exact absurd hm (h f (List.mem_cons_self ..))
   ·simp only [faAtD, hm, and_self, if_true]; exact Ev.some _
  ·have hfa : faAtD r c 0 (f :: l) = faAtD r c 0 l := by simp only [faAtD]; rw [if_neg hm]
   have ih : Ev (fun k => Z5J k r c (pre ++ f :: l) ((pre ++ f :: l).length : Int) ((pre ++ [f]).length : Int)) z := by
    rw [Zh]
    refine ZhB r c l (pre ++ [f]) hl' (by rw [← hfa]; exact hz0) ?_
    rcases hz with ⟨h, h2⟩ | ⟨⟨g, hg, hgm⟩, h2⟩
    ·exact .inl ⟨fun g hg => h g (List.mem_cons_of_mem _ hg), h2⟩
    ·rcases List.mem_cons.1 hg with rfl | hg
     ·exact absurd hgm hm
     ·exact .inr ⟨⟨g, hg, hgm⟩, by rw [← hfa]; exact h2⟩
   refine Ev.ite (fun g1 => Ev.ite (fun g2 => ?_) (fun _ => ih)) (fun _ => ih)
   simp only [decide_eq_true_eq] at g1 g2
   exact absurd ⟨g1, g2⟩ hm
theorem ZxR {r c d : Int} : ∀ {l : List FaultD}, (∀ f ∈ l, ¬ (f.2.1 = r ∧ f.2.2 = c)) → faAtD r c d l = d
 | [], _ => rfl
 | f :: l, h => by
  simp only [faAtD]
  rw [if_neg (h f (List.mem_cons_self ..))]
  exact ZxR (fun g hg => h g (List.mem_cons_of_mem _ hg))
theorem ZCd (l : List FaultD) (r c : Int) (hl : l.length ≤ 9223372036854775806) : Ev (fun k => ZgS k l r c) (faAtD r c 0 l) := by
 refine Ev.succ ?_
 simp only [ZgS]
 by_cases h : ∃ f ∈ l, f.2.1 = r ∧ f.2.2 = c
 ·exact Ev.bind (ZhB r c l [] (by simpa using hl) (z := LR.ret (faAtD r c 0 l)) (.inr rfl) (.inr ⟨h, rfl⟩)) (Ev.ret (Ev.some _))
 ·have h' : ∀ f ∈ l, ¬ (f.2.1 = r ∧ f.2.2 = c) := fun f hf hm => h ⟨f, hf, hm⟩
  have h0 := ZxR (d := 0) h'
  refine Ev.bind (ZhB r c l [] (by simpa using hl) (z := LR.go ()) (.inl ⟨rfl, h0⟩) (.inl ⟨h', rfl⟩)) ?_
  rw [h0]
  exact Ev.go (Ev.some _)
def flip1 (x : CellD) : CellD := (x.1, 1 - x.2)
def turnGo (G K : List Int) (at' : Nat) (ka : Int) : Nat → List CellD → List CellD
 | _, [] => []
 | i, x :: r => (if (i = at' ∨ (ka = 6 ∧ x.1 = 6 ∧ List.getD G i 0 = List.getD G at' 0)) ∧ List.getD K i 0 ≠ 1 then flip1 x else x) :: turnGo G K at' ka (i + 1) r
def passGo (G : List Int) (ga : Int) : Nat → List CellD → List CellD
 | _, [] => []
 | i, x :: r => (if x.1 = 6 ∧ List.getD G i 0 = ga then flip1 x else x) :: passGo G ga (i + 1) r
theorem ZcE {x : CellD} (h : cellOK x = true) : 0 ≤ x.1 ∧ x.1 ≤ 7 ∧ (x.2 = 0 ∨ x.2 = 1) := by
 unfold cellOK at h
 simp only [decide_eq_true_eq] at h
 omega
theorem ZE8 {p r : List CellD} {x y d : CellD} (h : y.1 = x.1) (n : Nat) : (List.getD (p ++ y :: r) n d).1 = (List.getD (p ++ x :: r) n d).1 := by
 simp only [List.getD]
 rcases Nat.lt_trichotomy n p.length with hn | hn | hn
 ·rw [List.getElem?_append_left hn, List.getElem?_append_left hn]
 ·subst hn; simp [h]
 ·rw [List.getElem?_append_right (by omega), List.getElem?_append_right (by omega)]
  have : ∃ m, n - p.length = m + 1 := ⟨n - p.length - 1, by omega⟩
  obtain ⟨m, hm⟩ := this
  rw [hm]
  rfl
theorem ZfQ (R C : Int) (G K : List Int) (at' : Nat) (ka : Int) : ∀ (r pre : List CellD), (pre ++ r).length ≤ 1000 → at' < (pre ++ r).length → G.length = (pre ++ r).length → K.length = (pre ++ r).length → (List.getD (pre ++ r) at' (0, 0)).1 = ka → (∀ x ∈ r, cellOK x = true) →
    Ev (fun k => ZF k (pre ++ r) R C G K (at' : Int) ((pre ++ r).length : Int) (pre.length : Int)) (pre ++ turnGo G K at' ka pre.length r)
  | [], pre, hl, ha, hG, hK, hka, hx => by
    refine Ev.succ ?_
    simp only [ZF, Zz, decide_false, Bool.false_eq_true, if_false, turnGo]
    exact Ev.some _
  | x :: r, pre, hl, ha, hG, hK, hka, hx => by
    have hn := Zq pre x r (by omega)
    have hlt := Zs pre x r
    have hGl : (pre.length : Int) < (G.length : Int) := by rw [hG]; exact hlt
    have hKl : (pre.length : Int) < (K.length : Int) := by rw [hK]; exact hlt
    have ha0 : (0 : Int) ≤ (at' : Int) := Int.natCast_nonneg _
    have ha1 : (at' : Int) < ((pre ++ x :: r).length : Int) := by omega
    have haG : (at' : Int) < (G.length : Int) := by rw [hG]; exact ha1
    obtain ⟨c1, c2, c3⟩ := ZcE (hx x (List.mem_cons_self ..))
    have hr' : ∀ y ∈ r, cellOK y = true := fun y hy => hx y (List.mem_cons_of_mem _ hy)
    have next : ∀ y : CellD, y.1 = x.1 → Ev (fun k => ZF k (pre ++ y :: r) R C G K (at' : Int) ((pre ++ x :: r).length : Int) ((pre ++ [x]).length : Int)) (pre ++ y :: turnGo G K at' ka (pre.length + 1) r) := by
      intro y hy
      have ih := ZfQ R C G K at' ka r (pre ++ [y]) (by simpa using hl) (by simpa using ha) (by simpa using hG) (by simpa using hK) (by rw [← Zh, ZE8 hy]; exact hka) hr'
      have e1 : ((pre ++ [y] ++ r).length : Int) = ((pre ++ x :: r).length : Int) := by simp
      have e2 : ((pre ++ [y]).length : Int) = ((pre ++ [x]).length : Int) := by simp
      have e3 : (pre ++ [y]).length = pre.length + 1 := by simp
      rw [e1, e2, e3, ← Zh, ← Zh] at ih
      exact ih
    refine Ev.succ ?_
    simp only [ZF, Zs, ZN, decide_true, if_true, Int.toNat_natCast, Zo, Zno, hn, hGl, hKl, ha0, ha1, haG, hka]
    rw [w64 (n := 1 - x.2) (by omega) (by omega)]
    simp only [turnGo]
    by_cases hia : pre.length = at'
    · have hia' : (pre.length : Int) = (at' : Int) := by omega
      simp only [hia', decide_true, if_true]
      rw [← hia]
      refine Ev.ite (fun h => ?_) (fun h => ?_)
      · simp only [ne_eq, decide_eq_true_eq] at h
        rw [if_pos ⟨.inl rfl, h⟩]
        have := next (flip1 x) rfl
        rw [← hia] at this
        exact this
      · simp only [ne_eq, decide_eq_true_eq, Decidable.not_not] at h
        rw [if_neg (fun hc => hc.2 h)]
        have := next x rfl
        rw [← hia] at this
        exact this
    · have hia' : ¬ (pre.length : Int) = (at' : Int) := by omega
      simp only [hia', decide_false, Bool.false_eq_true, if_false]
      have no : ¬ (ka = 6 ∧ x.1 = 6 ∧ List.getD G pre.length 0 = List.getD G at' 0) → Ev (fun k => ZF k (pre ++ x :: r) R C G K (at' : Int) ((pre ++ x :: r).length : Int) ((pre ++ [x]).length : Int)) (pre ++ (if (pre.length = at' ∨ (ka = 6 ∧ x.1 = 6 ∧ List.getD G pre.length 0 = List.getD G at' 0)) ∧ List.getD K pre.length 0 ≠ 1 then flip1 x else x) :: turnGo G K at' ka (pre.length + 1) r) := by
        intro hno
        rw [if_neg (fun hc => hc.1.elim hia hno)]
        exact next x rfl
      refine Ev.ite (fun h1 => ?_) (fun h1 => no (fun hc => h1 (decide_eq_true hc.1)))
      refine Ev.ite (fun h2 => ?_) (fun h2 => no (fun hc => h2 (decide_eq_true hc.2.1)))
      refine Ev.ite (fun h3 => ?_) (fun h3 => no (fun hc => h3 (decide_eq_true hc.2.2)))
      simp only [decide_eq_true_eq] at h1 h2 h3
      refine Ev.ite (fun h => ?_) (fun h => ?_)
      · simp only [ne_eq, decide_eq_true_eq] at h
        rw [if_pos ⟨.inr ⟨h1, h2, h3⟩, h⟩]
        exact next (flip1 x) rfl
      · simp only [ne_eq, decide_eq_true_eq, Decidable.not_not] at h
        rw [if_neg (fun hc => hc.2 h)]
        exact next x rfl
def turnAt (G K : List Int) (at' : Nat) (o : List CellD) : List CellD := turnGo G K at' (List.getD o at' (0, 0)).1 0 o
theorem ZuZ (R C : Int) (o : List CellD) (G K : List Int) (at' : Nat) (hl : o.length ≤ 1000) (ha : at' < o.length) (hG : G.length = o.length) (hK : K.length = o.length) (hx : ∀ x ∈ o, cellOK x = true) : Ev (fun k => Z5o k (R, C, o) G K (at' : Int)) (turnAt G K at' o) := by
 refine Ev.succ ?_
 simp only [Z5o]
 exact Ev.bind (ZfQ R C G K at' _ o [] hl ha hG hK rfl hx) (Ev.some _)
theorem Zpx (x : CellD) (h : cellOK x = true) : Ev (fun k => Zby k x) (flip1 x) := by
 obtain ⟨c1, c2, c3⟩ := ZcE h
 refine Ev.succ ?_
 simp only [Zby]
 rw [w64 (n := 1 - x.2) (by omega) (by omega)]
 exact Ev.some _
theorem Zl0 (R C : Int) (G : List Int) (at' : Nat) : ∀ (r pre : List CellD), (pre ++ r).length ≤ 1000 → at' < (pre ++ r).length → G.length = (pre ++ r).length → (∀ x ∈ r, cellOK x = true) →
    Ev (fun k => Z3h k (pre ++ r) R C G (at' : Int) ((pre ++ r).length : Int) (pre.length : Int)) (pre ++ passGo G (List.getD G at' 0) pre.length r)
  | [], pre, hl, ha, hG, hx => by
    refine Ev.succ ?_
    simp only [Z3h, Zz, decide_false, Bool.false_eq_true, if_false, passGo]
    exact Ev.some _
  | x :: r, pre, hl, ha, hG, hx => by
    have hn := Zq pre x r (by omega)
    have hlt := Zs pre x r
    have hGl : (pre.length : Int) < (G.length : Int) := by rw [hG]; exact hlt
    have ha0 : (0 : Int) ≤ (at' : Int) := Int.natCast_nonneg _
    have ha1 : (at' : Int) < ((pre ++ x :: r).length : Int) := by omega
    have haG : (at' : Int) < (G.length : Int) := by rw [hG]; exact ha1
    have hr' : ∀ y ∈ r, cellOK y = true := fun y hy => hx y (List.mem_cons_of_mem _ hy)
    have next : ∀ y : CellD, Ev (fun k => Z3h k (pre ++ y :: r) R C G (at' : Int) ((pre ++ x :: r).length : Int) ((pre ++ [x]).length : Int)) (pre ++ y :: passGo G (List.getD G at' 0) (pre.length + 1) r) := by
      intro y
      have ih := Zl0 R C G at' r (pre ++ [y]) (by simpa using hl) (by simpa using ha) (by simpa using hG) hr'
      have e1 : ((pre ++ [y] ++ r).length : Int) = ((pre ++ x :: r).length : Int) := by simp
      have e2 : ((pre ++ [y]).length : Int) = ((pre ++ [x]).length : Int) := by simp
      have e3 : (pre ++ [y]).length = pre.length + 1 := by simp
      rw [e1, e2, e3, ← Zh, ← Zh] at ih
      exact ih
    refine Ev.succ ?_
    simp only [Z3h, Zs, ZN, decide_true, if_true, Int.toNat_natCast, Zo, Zno, hn, hGl, ha0, haG]
    simp only [passGo]
    refine Ev.ite (fun h1 => Ev.ite (fun h2 => ?_) (fun h2 => ?_)) (fun h1 => ?_)
    · simp only [decide_eq_true_eq] at h1 h2
      rw [if_pos ⟨h1, h2⟩]
      exact Ev.bind (Zpx x (hx x (List.mem_cons_self ..))) (next (flip1 x))
    · simp only [decide_eq_true_eq] at h2
      rw [if_neg (fun hc => h2 hc.2)]
      exact next x
    · simp only [decide_eq_true_eq] at h1
      rw [if_neg (fun hc => h1 hc.1)]
      exact next x
def passAt (G : List Int) (at' : Nat) (o : List CellD) : List CellD := if (List.getD o at' (0, 0)).1 = 3 then List.set o at' (flip1 (List.getD o at' (0, 0))) else if (List.getD o at' (0, 0)).1 = 6 then passGo G (List.getD G at' 0) 0 o else o
theorem ZpB (R C : Int) (o : List CellD) (G : List Int) (at' : Nat) (hl : o.length ≤ 1000) (ha : at' < o.length) (hG : G.length = o.length) (hx : ∀ x ∈ o, cellOK x = true) : Ev (fun k => Z99 k (R, C, o) G (at' : Int)) (passAt G at' o) := by
 have ha0 : (0 : Int) ≤ (at' : Int) := Int.natCast_nonneg _
 have ha1 : (at' : Int) < (o.length : Int) := by omega
 refine Ev.succ ?_
 simp only [Z99, ha0, ha1, if_true, Int.toNat_natCast]
 unfold passAt
 refine Ev.ite (fun h1 => ?_) (fun h1 => Ev.ite (fun h2 => ?_) (fun h2 => ?_))
 ·simp only [decide_eq_true_eq] at h1
  rw [if_pos h1]
  exact Ev.bind (Zpx _ (hx _ (ZiP ha0 ha1 _))) (Ev.some _)
 ·simp only [decide_eq_true_eq] at h1 h2
  rw [if_neg h1, if_pos h2]
  exact Ev.bind (Zl0 R C G at' o [] hl ha hG hx) (Ev.some _)
 ·simp only [decide_eq_true_eq] at h1 h2
  rw [if_neg h1, if_neg h2]
  exact Ev.some _
theorem ZoX (G K : List Int) (at' : Nat) (ka : Int) : ∀ (l : List CellD) (i : Nat), (turnGo G K at' ka i l).length = l.length
 | [], _ => rfl
 | x :: r, i => by simp [turnGo, ZoX G K at' ka r]
theorem Zyy (G : List Int) (ga : Int) : ∀ (l : List CellD) (i : Nat), (passGo G ga i l).length = l.length
 | [], _ => rfl
 | x :: r, i => by simp [passGo, Zyy G ga r]
theorem Zcs (G K : List Int) (at' : Nat) (ka : Int) : ∀ (l : List CellD) (j i : Nat), (turnGo G K at' ka j l)[i]? = l[i]?.map fun x => if (j + i = at' ∨ (ka = 6 ∧ x.1 = 6 ∧ List.getD G (j + i) 0 = List.getD G at' 0)) ∧ List.getD K (j + i) 0 ≠ 1 then flip1 x else x
 | [], _, i => by simp [turnGo]
 | x :: r, j, 0 => by simp [turnGo]
 | x :: r, j, i + 1 => by
  simp only [turnGo, List.getElem?_cons_succ]
  rw [Zcs G K at' ka r (j + 1) i, show j + 1 + i = j + (i + 1) by omega]
theorem Zzv (G : List Int) (ga : Int) : ∀ (l : List CellD) (j i : Nat), (passGo G ga j l)[i]? = l[i]?.map fun x => if x.1 = 6 ∧ List.getD G (j + i) 0 = ga then flip1 x else x
 | [], _, i => by simp [passGo]
 | x :: r, j, 0 => by simp [passGo]
 | x :: r, j, i + 1 => by
  simp only [passGo, List.getElem?_cons_succ]
  rw [Zzv G ga r (j + 1) i, show j + 1 + i = j + (i + 1) by omega]
def restore (b : BoardD) (l : List FaultD) (o : List CellD) : List CellD := l.foldl (fun o f => if f.1 = 1 then List.set o (placeOf b f).toNat (List.getD b.2.2 (placeOf b f).toNat (0, 0)) else o) o
theorem Zme (b : BoardD) : ∀ (l : List FaultD) (o : List CellD), (restore b l o).length = o.length
 | [], _ => rfl
 | f :: l, o => by
  show (restore b l (if f.1 = 1 then _ else _)).length = _
  rw [Zme b l]
  split <;> simp
theorem ZoJ (b : BoardD) : ∀ (l : List FaultD) (o : List CellD) (i : Nat), i < o.length → (restore b l o)[i]? = if ∃ f ∈ l, f.1 = 1 ∧ (placeOf b f).toNat = i then some (List.getD b.2.2 i (0, 0)) else o[i]?
  | [], o, i, hi => by rw [if_neg (by rintro ⟨f, hf, _⟩; cases hf)]; rfl
  | f :: l, o, i, hi => by
    show (restore b l (if f.1 = 1 then _ else _))[i]? = _
    by_cases hf : f.1 = 1
    · rw [if_pos hf, ZoJ b l _ i (by rw [List.length_set]; exact hi)]
      by_cases h : ∃ g ∈ l, g.1 = 1 ∧ (placeOf b g).toNat = i
      · rw [if_pos h]
        obtain ⟨g, hg, h2⟩ := h
        rw [if_pos ⟨g, List.mem_cons_of_mem _ hg, h2⟩]
      · rw [if_neg h]
        by_cases hp : (placeOf b f).toNat = i
        · rw [if_pos ⟨f, List.mem_cons_self .., hf, hp⟩, hp, List.getElem?_set_self hi]
        · rw [List.getElem?_set_ne hp, if_neg (by
            rintro ⟨g, hg, h2, h3⟩
            rcases List.mem_cons.1 hg with rfl | hg
            · exact hp h3
            · exact h ⟨g, hg, h2, h3⟩)]
    · rw [if_neg hf, ZoJ b l o i hi]
      by_cases h : ∃ g ∈ l, g.1 = 1 ∧ (placeOf b g).toNat = i
      · rw [if_pos h]
        obtain ⟨g, hg, h2⟩ := h
        rw [if_pos ⟨g, List.mem_cons_of_mem _ hg, h2⟩]
      · rw [if_neg h, if_neg (by
            rintro ⟨g, hg, h2, h3⟩
            rcases List.mem_cons.1 hg with rfl | hg
            · exact hf h2
            · exact h ⟨g, hg, h2, h3⟩)]
theorem Zzu {r c : Int} : ∀ {l : List FaultD} {f : FaultD}, f ∈ l → f.2.1 = r → f.2.2 = c → ∀ {b : BoardD} {last : Int}, faultsOK b last l = true → faAtD r c 0 l = f.1
 | g :: l, f, hf, h1, h2, b, last, hok => by
  obtain ⟨k1, k2⟩ := ZdI hok
  simp only [faAtD]
  rcases List.mem_cons.1 hf with rfl | hf
  ·rw [if_pos ⟨h1, h2⟩]
  ·have hno : ¬ (g.2.1 = r ∧ g.2.2 = c) := by
    rintro ⟨e1, e2⟩
    have key : ∀ {l : List FaultD} {last : Int}, faultsOK b last l = true → ∀ f ∈ l, last < placeOf b f := by
     intro l
     induction l with
     | nil => intro last _ f hf; cases hf
     | cons g l ih =>
      intro last h f hf
      obtain ⟨a1, a2⟩ := ZdI h
      rcases List.mem_cons.1 hf with rfl | hf
      ·exact a1.2.2.2.2
      ·have := ih a2 f hf; omega
    have := key k2 f hf
    unfold placeOf at this
    rw [h1, h2, e1, e2] at this
    omega
   rw [if_neg hno]
   exact Zzu hf h1 h2 k2
theorem ZzG {r c : Int} : ∀ {l : List FaultD}, faAtD r c 0 l = 1 → ∃ f ∈ l, f.1 = 1 ∧ f.2.1 = r ∧ f.2.2 = c
 | [], h => by simp [faAtD] at h
 | f :: l, h => by
  simp only [faAtD] at h
  split at h
  ·rename_i hm
   exact ⟨f, List.mem_cons_self .., h, hm.1, hm.2⟩
  ·obtain ⟨g, hg, h2⟩ := ZzG h
   exact ⟨g, List.mem_cons_of_mem _ hg, h2⟩
theorem ZDH {b : BoardD} (hb : boardOK b = true) {l : List FaultD} (hl : faultsOK b (-1) l = true) {i : Nat} (hi : i < b.2.2.length) : List.getD (kindsB b l) i 0 = 1 ↔ ∃ f ∈ l, f.1 = 1 ∧ (placeOf b f).toNat = i := by
 obtain ⟨q, m, t, hq, hm, k1, k2, k3, k4, k5, k6, k7, k8, k9⟩ := ZgQ hb (i := (i : Int)) (by omega) (by omega)
 have hC : 0 < b.2.1 := by omega
 have e0 : Int.tdiv (i : Int) b.2.1 = (i : Int) / b.2.1 := Int.tdiv_eq_ediv_of_nonneg (by omega)
 have e1 : Int.tmod (i : Int) b.2.1 = (i : Int) % b.2.1 := Int.tmod_eq_emod_of_nonneg (by omega)
 have e2 := Int.mul_ediv_add_emod (i : Int) b.2.1
 rw [← e0, ← e1, hq, hm] at e2
 have hi2 : (i : Int) = q * b.2.1 + m := by rw [Int.mul_comm]; omega
 have hi3 : i = (q * b.2.1 + m).toNat := by omega
 have hk : List.getD (kindsB b l) i 0 = faAtD q m 0 l := by
  unfold kindsB
  rw [hi3, ZoA hb k4 k5 k2 k3 hl (by simp)]
  congr 1
  simp only [List.getD, List.getElem?_replicate]
  split <;> rfl
 rw [hk]
 constructor
 ·intro h
  obtain ⟨f, hf, h1, h2, h3⟩ := ZzG h
  exact ⟨f, hf, h1, by unfold placeOf; rw [h2, h3]; exact hi3.symm⟩
 ·rintro ⟨f, hf, h1, h2⟩
  obtain ⟨o1, o2, o3, o4⟩ := Zle hl f hf
  have hp := Z4E hb o1 o2 o3 o4
  have := Zrl o3 o4 k2 k3 (show f.2.1 * b.2.1 + f.2.2 = q * b.2.1 + m by unfold placeOf at h2; omega)
  rw [Zzu hf this.1 this.2 hl, h1]
def stepAt (G K : List Int) (at' : Nat) (o : List CellD) : List CellD := if turning (List.getD o at' (0, 0)) then turnAt G K at' o else o
theorem ZrE {b : BoardD} (hb : boardOK b = true) {l : List FaultD} (hl : faultsOK b (-1) l = true) (G : List Int) {at' : Nat} {o : List CellD} (ho : o.length = b.2.2.length) (ha : at' < o.length) (hs : ∀ i, i < o.length → List.getD (kindsB b l) i 0 = 1 → o[i]? = some (List.getD b.2.2 i (0, 0))) :
    restore b l (passAt G at' o) = stepAt G (kindsB b l) at' o := by
  have hpl : (passAt G at' o).length = o.length := by
    unfold passAt; split
    · simp
    · split
      · exact Zyy _ _ _ _
      · rfl
  apply List.ext_getElem?
  intro i
  rcases Nat.lt_or_ge i o.length with hi | hi
  · rw [ZoJ b l _ i (by rw [hpl]; exact hi)]
    have hst := ZDH hb hl (i := i) (by omega)
    have hox : o[i]? = some o[i] := List.getElem?_eq_getElem hi
    have hax : List.getD o at' (0, 0) = o[at'] := by simp [List.getD, List.getElem?_eq_getElem ha]
    by_cases hk : List.getD (kindsB b l) i 0 = 1
    · rw [if_pos (hst.1 hk), ← hs i hi hk]
      unfold stepAt turnAt
      split
      · rw [Zcs, hox, Option.map_some, if_neg (fun hc => hc.2 (by rw [Nat.zero_add]; exact hk))]
      · rfl
    · rw [if_neg (fun h => hk (hst.2 h))]
      unfold stepAt turnAt passAt turning
      rw [hax]
      by_cases h3 : (o[at']).1 = 3
      · simp only [h3, true_or, decide_true, if_true]
        rw [Zcs, hox, Option.map_some, Nat.zero_add]
        by_cases hia : at' = i
        · subst hia
          rw [List.getElem?_set_self hi, if_pos ⟨.inl rfl, hk⟩]
        · have hno : ¬ ((i = at' ∨ ((3 : Int) = 6 ∧ (o[i]).1 = 6 ∧ List.getD G i 0 = List.getD G at' 0)) ∧ List.getD (kindsB b l) i 0 ≠ 1) := by
            rintro ⟨h | ⟨h, _⟩, _⟩
            · exact hia h.symm
            · omega
          rw [List.getElem?_set_ne hia, hox, if_neg hno]
      · by_cases h6 : (o[at']).1 = 6
        · have h36 : ¬ (6 : Int) = 3 := by omega
          simp only [h6, h36, or_true, decide_true, if_true, if_false]
          rw [Zcs, Zzv, hox, Option.map_some, Option.map_some, Nat.zero_add]
          congr 1
          by_cases hc : (o[i]).1 = 6 ∧ List.getD G i 0 = List.getD G at' 0
          · rw [if_pos hc, if_pos ⟨.inr ⟨rfl, hc⟩, hk⟩]
          · rw [if_neg hc, if_neg (by
              rintro ⟨h | ⟨_, h⟩, _⟩
              · subst h; exact hc ⟨h6, rfl⟩
              · exact hc h)]
        · simp only [h3, h6, or_self, decide_false, Bool.false_eq_true, if_false]
  · rw [List.getElem?_eq_none (by rw [Zme, hpl]; exact hi), List.getElem?_eq_none ?_]
    unfold stepAt turnAt
    split
    · rw [ZoX]; exact hi
    · exact hi
end Go.Proofs.Ytgjmhbjdhihgaaa.Vs

set_option linter.unusedVariables false
set_option linter.unusedSimpArgs false
namespace Go.Proofs.Ytgjmhbjdhihgaaa.Vs
open Go.RowKit
section
variable {code : List Int} {at' seed : Int}
end
end Go.Proofs.Ytgjmhbjdhihgaaa.Vs

set_option linter.unusedVariables false
set_option linter.unusedSimpArgs false
namespace Go.Proofs.Ytgjmhbjdhihgaaa.Vs
open Go.RowKit
abbrev FallD := Int × Int × Int
def goesOf (x : CellD) (side : Int) : Int := if x.1 = 1 then -1 else if x.1 = 2 then 1 else if x.1 = 3 then 2 * x.2 - 1 else if x.1 = 6 then 2 * x.2 - 1 else if x.1 = 4 then 0 - side else 0
theorem Zl5 {x : CellD} (hx : cellOK x = true) {side : Int} (h1 : -1 ≤ side) (h2 : side ≤ 1) : -1 ≤ goesOf x side ∧ goesOf x side ≤ 1 := by
 obtain ⟨c1, c2, c3⟩ := ZcE hx
 unfold goesOf
 repeat' split
 all_goals omega
theorem Zq0 (x : CellD) (side : Int) (hx : cellOK x = true) (h1 : -1 ≤ side) (h2 : side ≤ 1) : Ev (fun k => Zbv k x side) (if x.1 = 5 then (0, false) else (goesOf x side, true)) := by
 obtain ⟨c1, c2, c3⟩ := ZcE hx
 have n1 : ¬ side < -1 := by omega
 have n2 : ¬ side > 1 := by omega
 refine Ev.succ ?_
 simp only [Zbv]
 refine Ev.bind (ZhA x) ?_
 simp only [hx, Bool.not_true, Bool.false_eq_true, if_false, n1, n2, decide_false]
 rw [w64 (n := 2 * x.2) (by omega) (by omega), w64 (n := 2 * x.2 - 1) (by omega) (by omega), w64 (n := 0 - side) (by omega) (by omega)]
 refine Ev.of ?_
 unfold goesOf
 by_cases a5 : x.1 = 5
 ·simp [a5]
 ·by_cases a1 : x.1 = 1 <;> by_cases a2 : x.1 = 2 <;> by_cases a3 : x.1 = 3 <;> by_cases a6 : x.1 = 6 <;> by_cases a4 : x.1 = 4 <;> simp [a1, a2, a3, a4, a5, a6]
theorem ZpP (x : CellD) (side : Int) (hx : cellOK x = true) (h1 : -1 ≤ side) (h2 : side ≤ 1) : Ev (fun k => Z9c k x side) (goesOf x side) := by
 obtain ⟨c1, c2, c3⟩ := ZcE hx
 refine Ev.succ ?_
 simp only [Z9c]
 rw [w64 (n := 2 * x.2) (by omega) (by omega), w64 (n := 2 * x.2 - 1) (by omega) (by omega), w64 (n := 0 - side) (by omega) (by omega)]
 refine Ev.of ?_
 unfold goesOf
 by_cases a1 : x.1 = 1 <;> by_cases a2 : x.1 = 2 <;> by_cases a3 : x.1 = 3 <;> by_cases a6 : x.1 = 6 <;> by_cases a4 : x.1 = 4 <;> simp [a1, a2, a3, a4, a6]
theorem ZE0 {x : CellD} (hx : cellOK x = true) (h : x.1 = 3 ∨ x.1 = 6) : cellOK (flip1 x) = true := by
 obtain ⟨c1, c2, c3⟩ := ZcE hx
 unfold cellOK flip1
 simp only [decide_eq_true_eq]
 omega
theorem ZF5 {α : Type} {l : List α} {x : α} (h : x ∈ l) : ∃ i : Nat, l[i]? = some x := List.getElem?_of_mem h
theorem Z9t (G K : List Int) (at' : Nat) (o : List CellD) : (stepAt G K at' o).length = o.length := by
 unfold stepAt turnAt
 split
 ·exact ZoX _ _ _ _ _ _
 ·rfl
theorem Zht (G K : List Int) {at' : Nat} {o : List CellD} (hx : ∀ x ∈ o, cellOK x = true) : ∀ x ∈ stepAt G K at' o, cellOK x = true := by
 unfold stepAt turnAt
 split
 ·rename_i ht
  unfold turning at ht
  simp only [decide_eq_true_eq] at ht
  intro y hy
  obtain ⟨i, hi⟩ := ZF5 hy
  rw [Zcs] at hi
  obtain ⟨x, h1, h2⟩ := Option.map_eq_some_iff.1 hi
  have hxo := hx x (List.mem_of_getElem? h1)
  split at h2
  ·rename_i hc
   rw [← h2]
   refine ZE0 hxo ?_
   rcases hc.1 with h | ⟨_, h, _⟩
   ·rw [Nat.zero_add] at h
    subst h
    simpa [List.getD, h1] using ht
   ·exact .inr h
  ·rw [← h2]; exact hxo
 ·exact hx
theorem ZBb (G K : List Int) {at' i : Nat} {o : List CellD} (hk : List.getD K i 0 = 1) : (stepAt G K at' o)[i]? = o[i]? := by
 unfold stepAt turnAt
 split
 ·rw [Zcs, Nat.zero_add]
  cases h : o[i]? with
  | none => rfl
  | some x => rw [Option.map_some, if_neg (fun hc => hc.2 hk)]
 ·rfl
def fallL (b : BoardD) (G K : List Int) : Nat → Int → Int → Int → List CellD → LR (Int × List CellD) (FallD × List CellD)
 | 0, _, col, _, o => .go (col, o)
 | n + 1, row, col, side, o =>
  let at' := (row * b.2.1 + col).toNat
  let x := List.getD o at' (0, 0)
  if List.getD K at' 0 = 2 then .ret ((3, row, col), o)
  else if x.1 = 5 then .ret ((2, row, col), o)
  else
   let g := if List.getD K at' 0 = 3 then 0 - goesOf x side else goesOf x side
   if 0 ≤ col + g ∧ col + g < b.2.1 then fallL b G K n (row + 1) (col + g) (0 - g) (stepAt G K at' o) else .ret ((3, row, col + g), stepAt G K at' o)
def LR.map2 {Z R Z' R' : Type} (f : Z → Z') (g : R → R') : LR Z R → LR Z' R'
 | .go z => .go (f z) | .ret r => .ret (g r)
theorem ZfX (b : BoardD) (hb : boardOK b = true) (G K : List Int) (hG : G.length = b.2.2.length) (hK : K.length = b.2.2.length) (c0 c1 c2 : Int) : ∀ (n : Nat) (row col side : Int) (o : List CellD), row + n = b.1 → 0 ≤ row → 0 ≤ col → col < b.2.1 → -1 ≤ side → side ≤ 1 → o.length = b.2.2.length → (∀ x ∈ o, cellOK x = true) →
    Ev (fun k => ZS k o b.1 b.2.1 c0 c1 c2 G K col side row) ((fallL b G K n row col side o).map2 (fun z => (z.2, b.1, b.2.1, c0, c1, c2, z.1)) id)
  | 0, row, col, side, o, hn, hr, hc, hc2, hs, hs2, ho, hx => by
    refine Ev.succ ?_
    have : ¬ row < b.1 := by omega
    simp only [ZS, this, decide_false, Bool.false_eq_true, if_false, fallL, LR.map2]
    exact Ev.some _
  | n + 1, row, col, side, o, hn, hr, hc, hc2, hs, hs2, ho, hx => by
    obtain ⟨g1, g2, g3, g4, g5, g6⟩ := ZH hb
    have hpp := ZL g1 g2 g3 g4
    have hrow : row < b.1 := by omega
    have hp := Z4E hb hr hrow hc hc2
    have hoI : row * b.2.1 + col < (o.length : Int) := by omega
    have hKI : row * b.2.1 + col < (K.length : Int) := by omega
    have hcast : ((row * b.2.1 + col).toNat : Int) = row * b.2.1 + col := Int.toNat_of_nonneg hp.1
    refine Ev.succ ?_
    simp only [ZS, fallL]
    rw [w64 (n := row * b.2.1) (by omega) (by omega), w64 (n := row * b.2.1 + col) (by omega) (by omega), w64 (n := row + 1) (by omega) (by omega)]
    simp only [hrow, hp.1, hKI, hoI, decide_true, if_true]
    have hxo := hx _ (ZiP hp.1 hoI (0, 0))
    have hgo := Zl5 hxo hs hs2
    have ht := Zj1 (List.getD o (row * b.2.1 + col).toNat (0, 0))
    rw [hxo, Bool.true_and] at ht
    have hturn := ZuZ b.1 b.2.1 o G K (row * b.2.1 + col).toNat (by omega) (by omega) (by omega) (by omega) hx
    rw [hcast] at hturn
    generalize hX : List.getD o (row * b.2.1 + col).toNat (0, 0) = X at *
    refine Ev.ite (fun h => ?_) (fun h => ?_)
    · simp only [decide_eq_true_eq] at h
      rw [if_pos h]
      exact Ev.some _
    simp only [decide_eq_true_eq] at h
    rw [if_neg h]
    refine Ev.bind (Zq0 X side hxo hs hs2) ?_
    by_cases h5 : X.1 = 5
    · simp only [h5, if_true, Bool.not_false]
      exact Ev.some _
    simp only [h5, if_false, Bool.not_true, Bool.false_eq_true]
    have tail : ∀ g : Int, -1 ≤ g → g ≤ 1 → Ev (fun k => Option.bind (Z2I k X) fun z => if z = true then Option.bind (Z5o k (b.1, b.2.1, o) G K (row * b.2.1 + col)) fun z2 => if decide (wrap64 (col + g) < 0) = true then some (LR.ret ((3, row, wrap64 (col + g)), z2)) else if decide (wrap64 (col + g) ≥ b.2.1) = true then some (LR.ret ((3, row, wrap64 (col + g)), z2)) else ZS k z2 b.1 b.2.1 c0 c1 c2 G K (wrap64 (col + g)) (wrap64 (0 - g)) (row + 1)
        else if decide (wrap64 (col + g) < 0) = true then some (LR.ret ((3, row, wrap64 (col + g)), o)) else if decide (wrap64 (col + g) ≥ b.2.1) = true then some (LR.ret ((3, row, wrap64 (col + g)), o)) else ZS k o b.1 b.2.1 c0 c1 c2 G K (wrap64 (col + g)) (wrap64 (0 - g)) (row + 1))
        (LR.map2 (fun z => (z.2, b.1, b.2.1, c0, c1, c2, z.1)) id (if 0 ≤ col + g ∧ col + g < b.2.1 then fallL b G K n (row + 1) (col + g) (0 - g) (stepAt G K (row * b.2.1 + col).toNat o) else .ret ((3, row, col + g), stepAt G K (row * b.2.1 + col).toNat o))) := by
      intro g hg hg2
      rw [w64 (n := col + g) (by omega) (by omega), w64 (n := 0 - g) (by omega) (by omega)]
      have last : ∀ o' : List CellD, o' = stepAt G K (row * b.2.1 + col).toNat o → Ev (fun k => if decide (col + g < 0) = true then some (LR.ret ((3, row, col + g), o')) else if decide (col + g ≥ b.2.1) = true then some (LR.ret ((3, row, col + g), o')) else ZS k o' b.1 b.2.1 c0 c1 c2 G K (col + g) (0 - g) (row + 1))
          (LR.map2 (fun z => (z.2, b.1, b.2.1, c0, c1, c2, z.1)) id (if 0 ≤ col + g ∧ col + g < b.2.1 then fallL b G K n (row + 1) (col + g) (0 - g) (stepAt G K (row * b.2.1 + col).toNat o) else .ret ((3, row, col + g), stepAt G K (row * b.2.1 + col).toNat o))) := by
        intro o' ho'
        refine Ev.ite (fun q => ?_) (fun q => Ev.ite (fun q2 => ?_) (fun q2 => ?_))
        · simp only [decide_eq_true_eq] at q
          rw [if_neg (by omega), ho']
          exact Ev.some _
        · simp only [decide_eq_true_eq] at q2
          rw [if_neg (by omega), ho']
          exact Ev.some _
        · simp only [decide_eq_true_eq] at q q2
          rw [if_pos (by omega), ho']
          exact ZfX b hb G K hG hK c0 c1 c2 n (row + 1) (col + g) (0 - g) _ (by omega) (by omega) (by omega) (by omega) (by omega) (by omega) (by rw [Z9t]; exact ho) (Zht G K hx)
      refine Ev.bind ht ?_
      have hstep : stepAt G K (row * b.2.1 + col).toNat o = if turning X then turnAt G K (row * b.2.1 + col).toNat o else o := by unfold stepAt; rw [hX]
      cases htx : turning X with
      | true =>
        simp only [if_true]
        exact Ev.bind hturn (last _ (by rw [hstep, htx]; rfl))
      | false =>
        simp only [Bool.false_eq_true, if_false]
        exact last _ (by rw [hstep, htx]; rfl)
    refine Ev.ite (fun h3 => ?_) (fun h3 => ?_)
    · simp only [decide_eq_true_eq] at h3
      simp only [h3, if_true]
      rw [w64 (n := 0 - goesOf X side) (by omega) (by omega)]
      exact tail _ (by omega) (by omega)
    · simp only [decide_eq_true_eq] at h3
      simp only [h3, if_false]
      exact tail _ hgo.1 hgo.2
def fallEnd (b : BoardD) (z : LR (Int × List CellD) (FallD × List CellD)) : FallD × List CellD := match z with
 | .go z => ((1, b.1, z.1), z.2)
 | .ret r => r
def fallOf (b : BoardD) (G K : List Int) (col : Int) (o : List CellD) : FallD × List CellD := fallEnd b (fallL b G K b.1.toNat 0 col 0 o)
theorem ZtW (b : BoardD) (hb : boardOK b = true) (G K : List Int) (hG : G.length = b.2.2.length) (hK : K.length = b.2.2.length) (col : Int) (hc : 0 ≤ col) (hc2 : col < b.2.1) (o : List CellD) (ho : o.length = b.2.2.length) (hx : ∀ x ∈ o, cellOK x = true) : Ev (fun k => Zac k (b.1, b.2.1, o) G K col) (fallOf b G K col o) := by
 obtain ⟨g1, g2, g3, g4, g5, g6⟩ := ZH hb
 refine Ev.succ ?_
 simp only [Zac]
 refine Ev.bind (ZfX b hb G K hG hK 0 0 0 b.1.toNat 0 col 0 o (by omega) (by omega) hc hc2 (by omega) (by omega) ho hx) ?_
 unfold fallOf
 cases fallL b G K b.1.toNat 0 col 0 o with
 | go z => exact Ev.go (Ev.some _)
 | ret r => exact Ev.ret (Ev.some _)
theorem ZpG (b : BoardD) (hb : boardOK b = true) (d1 d2 d3 d4 d5 : Int) (o4 : List CellD) (e1 e2 : Int) (v1 : List Int) (v2 : List FaultD) (v3 v12 v15 : Int) : ∀ (r pre : List FaultD) (o : List CellD), (∀ f ∈ r, 0 ≤ f.2.1 ∧ f.2.1 < b.1 ∧ 0 ≤ f.2.2 ∧ f.2.2 < b.2.1) → (pre ++ r).length ≤ 9223372036854775806 → o.length = b.2.2.length →
    Ev (fun k => Z7n k b.1 b.2.1 b.2.2 d1 d2 d3 d4 d5 o4 e1 e2 o v1 v2 v3 v12 v15 (pre ++ r) ((pre ++ r).length : Int) (pre.length : Int)) (b.1, b.2.1, b.2.2, d1, d2, d3, d4, d5, o4, e1, e2, restore b r o, v1, v2, v3, v12, v15)
  | [], pre, o, hr, hl, ho => by
    refine Ev.succ ?_
    simp only [Z7n, Zz, decide_false, Bool.false_eq_true, if_false]
    exact Ev.some _
  | f :: r, pre, o, hr, hl, ho => by
    obtain ⟨k1, k2, k3, k4⟩ := hr f (List.mem_cons_self ..)
    have hp := Z4E hb k1 k2 k3 k4
    have hpo : f.2.1 * b.2.1 + f.2.2 < (o.length : Int) := by omega
    have hr' : ∀ g ∈ r, 0 ≤ g.2.1 ∧ g.2.1 < b.1 ∧ 0 ≤ g.2.2 ∧ g.2.2 < b.2.1 := fun g hg => hr g (List.mem_cons_of_mem _ hg)
    have ih := fun (o' : List CellD) (ho' : o'.length = b.2.2.length) => ZpG b hb d1 d2 d3 d4 d5 o4 e1 e2 v1 v2 v3 v12 v15 r (pre ++ [f]) o' hr' (by simpa using hl) ho'
    simp only [← Zh] at ih
    have hrest : restore b (f :: r) o = restore b r (if f.1 = 1 then List.set o (placeOf b f).toNat (List.getD b.2.2 (placeOf b f).toNat (0, 0)) else o) := rfl
    rw [hrest]
    refine Ev.succ ?_
    simp only [Z7n, Zs, ZN, decide_true, if_true, Int.toNat_natCast, Zo]
    rw [Zq pre f r (by omega), w64 (n := f.2.1 * b.2.1) (by omega) (by omega), w64 (n := f.2.1 * b.2.1 + f.2.2) (by omega) (by omega)]
    simp only [hp.1, hp.2.1, hpo, if_true]
    refine Ev.ite (fun h => ?_) (fun h => ?_)
    · simp only [decide_eq_true_eq] at h
      rw [if_pos h]
      exact ih _ (by rw [List.length_set]; exact ho)
    · simp only [decide_eq_true_eq] at h
      rw [if_neg h]
      exact ih _ ho
theorem Zf2 (b : BoardD) (h : b.2.2.length ≤ 1000000) : Ev (fun k => Z3y k b) b := by
 refine Ev.succ ?_
 simp only [Z3y, Z7g]
 have : 0 + b.2.2.length ≤ 140737488355328 / 16 := by omega
 simp only [this, if_true]
 exact Ev.some _
theorem Zk9 (b : BoardD) (h : b.2.2.length ≤ 1000000) : Ev (fun k => Z8r k b) b := by
 refine Ev.succ ?_
 simp only [Z8r, Z4l]
 have : 0 + b.2.2.length ≤ 140737488355328 / 16 := by omega
 simp only [this, if_true]
 exact Ev.some _
theorem Zn7 (b : BoardD) (hb : boardOK b = true) (o : List CellD) (ho : o.length = b.2.2.length) {r c : Int} (h1 : 0 ≤ r) (h2 : r < b.1) (h3 : 0 ≤ c) (h4 : c < b.2.1) : Ev (fun k => Z87 k (b.1, b.2.1, o) r c) (List.getD o (r * b.2.1 + c).toNat (0, 0)) := by
 have hp := Z4E hb h1 h2 h3 h4
 have hpo : r * b.2.1 + c < (o.length : Int) := by omega
 refine Ev.succ ?_
 simp only [Z87]
 rw [w64 (n := r * b.2.1) (by omega) (by omega), w64 (n := r * b.2.1 + c) (by omega) (by omega)]
 simp only [hp.1, hpo, if_true]
 exact Ev.some _
theorem ZpX (b : BoardD) (hb : boardOK b = true) (G : List Int) (hG : G.length = b.2.2.length) (l : List FaultD) (hl : faultsOK b (-1) l = true) (hll : l.length ≤ 9223372036854775806) (d1 d2 d3 d4 d5 : Int) (o4 : List CellD) : ∀ (n : Nat) (row col side : Int) (o : List CellD), row + n = b.1 → 0 ≤ row → 0 ≤ col → col < b.2.1 → -1 ≤ side → side ≤ 1 → o.length = b.2.2.length → (∀ x ∈ o, cellOK x = true) → (∀ i, i < o.length → List.getD (kindsB b l) i 0 = 1 → o[i]? = some (List.getD b.2.2 i (0, 0))) →
    Ev (fun k => Z95 k b.1 b.2.1 b.2.2 d1 d2 d3 d4 d5 o4 b.1 b.2.1 o G l col side row) ((fallL b G (kindsB b l) n row col side o).map2 (fun z => (b.1, b.2.1, b.2.2, d1, d2, d3, d4, d5, o4, b.1, b.2.1, z.2, z.1)) (fun r => (r.1, b.1, b.2.1, r.2)))
  | 0, row, col, side, o, hn, hr, hc, hc2, hs, hs2, ho, hx, hst => by
    refine Ev.succ ?_
    have : ¬ row < b.1 := by omega
    simp only [Z95, this, decide_false, Bool.false_eq_true, if_false, fallL, LR.map2]
    exact Ev.some _
  | n + 1, row, col, side, o, hn, hr, hc, hc2, hs, hs2, ho, hx, hst => by
    obtain ⟨g1, g2, g3, g4, g5, g6⟩ := ZH hb
    have hpp := ZL g1 g2 g3 g4
    have hrow : row < b.1 := by omega
    have hp := Z4E hb hr hrow hc hc2
    have hoI : row * b.2.1 + col < (o.length : Int) := by omega
    have hcast : ((row * b.2.1 + col).toNat : Int) = row * b.2.1 + col := Int.toNat_of_nonneg hp.1
    have hK : List.getD (kindsB b l) (row * b.2.1 + col).toNat 0 = faAtD row col 0 l := by
      unfold kindsB
      rw [ZoA hb hr hrow hc hc2 hl (by simp)]
      congr 1
      simp only [List.getD, List.getElem?_replicate]
      split <;> rfl
    have hxo := hx _ (ZiP hp.1 hoI (0, 0))
    have hgo := Zl5 hxo hs hs2
    have hpass := ZpB b.1 b.2.1 o G (row * b.2.1 + col).toNat (by omega) (by omega) (by omega) hx
    rw [hcast] at hpass
    have hres := ZrE hb hl G ho (at' := (row * b.2.1 + col).toNat) (by omega) hst
    have hpl : (passAt G (row * b.2.1 + col).toNat o).length = b.2.2.length := by
      have := congrArg List.length hres
      rw [Zme, Z9t] at this
      omega
    refine Ev.succ ?_
    simp only [Z95, fallL]
    simp only [hrow, decide_true, if_true]
    refine Ev.bind (Zn7 b hb o ho hr hrow hc hc2) ?_
    generalize hX : List.getD o (row * b.2.1 + col).toNat (0, 0) = X at *
    refine Ev.bind (ZCd l row col hll) ?_
    rw [hK]
    refine Ev.ite (fun h => ?_) (fun h => ?_)
    · simp only [decide_eq_true_eq] at h
      rw [if_pos h]
      simp only [Z8l]
      exact Ev.bind (Ev.some _) (Ev.some _)
    simp only [decide_eq_true_eq] at h
    rw [if_neg h]
    refine Ev.ite (fun h5 => ?_) (fun h5 => ?_)
    · simp only [decide_eq_true_eq] at h5
      rw [if_pos h5]
      simp only [Z77]
      exact Ev.bind (Ev.some _) (Ev.some _)
    simp only [decide_eq_true_eq] at h5
    rw [if_neg h5]
    refine Ev.bind (ZpP X side hxo hs hs2) ?_
    have hg : -1 ≤ (if faAtD row col 0 l = 3 then 0 - goesOf X side else goesOf X side) ∧ (if faAtD row col 0 l = 3 then 0 - goesOf X side else goesOf X side) ≤ 1 := by split <;> omega
    have hj : Ev (fun k => Zc3 k b.1 b.2.1 b.2.2 d1 d2 d3 d4 d5 o4 b.1 b.2.1 o G l col row (goesOf X side) (decide (faAtD row col 0 l = 3))) (b.1, b.2.1, b.2.2, d1, d2, d3, d4, d5, o4, b.1, b.2.1, o, G, l, col, row, if faAtD row col 0 l = 3 then 0 - goesOf X side else goesOf X side) := by
      simp only [Zc3]
      rw [w64 (n := 0 - goesOf X side) (by omega) (by omega)]
      refine Ev.of ?_
      by_cases h3 : faAtD row col 0 l = 3 <;> simp [h3]
    refine Ev.bind hj ?_
    generalize (if faAtD row col 0 l = 3 then 0 - goesOf X side else goesOf X side) = g at *
    dsimp only
    rw [w64 (n := row * b.2.1) (by omega) (by omega), w64 (n := row * b.2.1 + col) (by omega) (by omega)]
    refine Ev.bind hpass ?_
    refine Ev.bind (ZpG b hb d1 d2 d3 d4 d5 o4 b.1 b.2.1 G l col row g l [] _ (Zle hl) (by simpa using hll) hpl) ?_
    rw [hres]
    dsimp only
    rw [w64 (n := col + g) (by omega) (by omega), w64 (n := b.2.1 - 1) (by omega) (by omega), w64 (n := 0 - g) (by omega) (by omega), w64 (n := row + 1) (by omega) (by omega)]
    refine Ev.bind (Z3G _ _ _) (Ev.ite (fun q => ?_) (fun q => ?_))
    · have q : ¬ (0 ≤ col + g ∧ col + g ≤ b.2.1 - 1) := nd q
      rw [if_neg (by omega)]
      simp only [Z6X]
      exact Ev.bind (Ev.some _) (Ev.some _)
    · have q : 0 ≤ col + g ∧ col + g ≤ b.2.1 - 1 := yd q
      rw [if_pos (by omega)]
      refine ZpX b hb G hG l hl hll d1 d2 d3 d4 d5 o4 n (row + 1) (col + g) (0 - g) _ (by omega) (by omega) (by omega) (by omega) (by omega) (by omega) (by rw [Z9t]; exact ho) (Zht G _ hx) (fun i hi hk => ?_)
      rw [ZBb G _ hk]
      rw [Z9t] at hi
      exact hst i hi hk
theorem ZCC (b : BoardD) (hb : boardOK b = true) (G : List Int) (hG : G.length = b.2.2.length) (l : List FaultD) (hl : faultsOK b (-1) l = true) (hll : l.length ≤ 9223372036854775806) (col : Int) (hc : 0 ≤ col) (hc2 : col < b.2.1) : Ev (fun k => ZgU k b G l col) ((fallOf b G (kindsB b l) col b.2.2).1, b.1, b.2.1, (fallOf b G (kindsB b l) col b.2.2).2) := by
 obtain ⟨g1, g2, g3, g4, g5, g6⟩ := ZH hb
 have hpp := ZL g1 g2 g3 g4
 refine Ev.succ ?_
 simp only [ZgU]
 refine Ev.bind (Zf2 b (by omega)) ?_
 refine Ev.bind (ZpX b hb G hG l hl hll 0 0 0 0 0 [] b.1.toNat 0 col 0 b.2.2 (by omega) (by omega) hc hc2 (by omega) (by omega) rfl g6 (fun i hi _ => by simp [List.getD, List.getElem?_eq_getElem hi])) ?_
 unfold fallOf
 cases fallL b G (kindsB b l) b.1.toNat 0 col 0 b.2.2 with
 | go z =>
  refine Ev.go ?_
  simp only [Z7k]
  exact Ev.bind (Ev.some _) (Ev.some _)
 | ret r => exact Ev.ret (Ev.some _)
end Go.Proofs.Ytgjmhbjdhihgaaa.Vs

set_option linter.unusedVariables false
set_option linter.unusedSimpArgs false
namespace Go.Proofs.Ytgjmhbjdhihgaaa.Vs
open Go.RowKit
end Go.Proofs.Ytgjmhbjdhihgaaa.Vs

set_option linter.unusedVariables false
set_option linter.unusedSimpArgs false
namespace Go.Proofs.Ytgjmhbjdhihgaaa.Vs
open Go.RowKit
theorem Zhe (b : BoardD) (G K : List Int) : ∀ (n : Nat) (row col side : Int) (o : List CellD), (fallEnd b (fallL b G K n row col side o)).2.length = o.length
 | 0, _, _, _, _ => rfl
 | n + 1, row, col, side, o => by
  unfold fallL
  dsimp only
  repeat' split
  all_goals first | rfl | (rw [Zhe]; exact Z9t _ _ _ _) | exact Z9t _ _ _ _
end Go.Proofs.Ytgjmhbjdhihgaaa.Vs

set_option linter.unusedVariables false
set_option linter.unusedSimpArgs false
namespace Go.Proofs.Ytgjmhbjdhihgaaa.Vs
open Go.RowKit
theorem ZAW (G K : List Int) (at' : Nat) (o : List CellD) : (stepAt G K at' o).map Prod.fst = o.map Prod.fst := by
 unfold stepAt turnAt
 split
 ·apply List.ext_getElem?
  intro i
  simp only [List.getElem?_map, Zcs]
  cases o[i]? with
  | none => rfl
  | some x =>
   simp only [Option.map_some]
   split <;> simp [flip1]
 ·rfl
theorem Zm7 (b : BoardD) (G K : List Int) : ∀ (n : Nat) (row col side : Int) (o : List CellD), (∀ x ∈ o, cellOK x = true) → (∀ x ∈ (fallEnd b (fallL b G K n row col side o)).2, cellOK x = true) ∧ (fallEnd b (fallL b G K n row col side o)).2.map Prod.fst = o.map Prod.fst
 | 0, _, _, _, o, hx => ⟨hx, rfl⟩
 | n + 1, row, col, side, o, hx => by
  have h1 := Zm7 b G K n (row + 1)
  unfold fallL
  dsimp only
  have h2 := Zht G K (at' := (row * b.2.1 + col).toNat) hx
  have h3 := ZAW G K (row * b.2.1 + col).toNat o
  repeat' split
  all_goals first | exact ⟨hx, rfl⟩ | exact ⟨h2, h3⟩ | exact ⟨(h1 _ _ _ h2).1, (h1 _ _ _ h2).2.trans h3⟩
theorem ZeT (b : BoardD) (G K : List Int) (c : Int) {o : List CellD} (hx : ∀ x ∈ o, cellOK x = true) : ∀ x ∈ (fallOf b G K c o).2, cellOK x = true := (Zm7 b G K _ _ _ _ o hx).1
theorem ZBk (b : BoardD) (G K : List Int) (c : Int) {o : List CellD} (hx : ∀ x ∈ o, cellOK x = true) : (fallOf b G K c o).2.map Prod.fst = o.map Prod.fst := (Zm7 b G K _ _ _ _ o hx).2
theorem Zxx {b b' : BoardD} (h : b.2.1 = b'.2.1) (G K : List Int) : ∀ (n : Nat) (row col side : Int) (o : List CellD), fallL b G K n row col side o = fallL b' G K n row col side o
 | 0, _, _, _, _ => rfl
 | n + 1, row, col, side, o => by simp only [fallL, h, Zxx h G K n]
theorem Zvd {b b' : BoardD} (h1 : b.1 = b'.1) (h2 : b.2.1 = b'.2.1) (G K : List Int) (c : Int) (o : List CellD) : fallOf b G K c o = fallOf b' G K c o := by
 have : fallEnd b = fallEnd b' := by funext z; cases z <;> simp [fallEnd, h1]
 unfold fallOf
 rw [this, Zxx h2, h1]
theorem Zvh {b b' : BoardD} (h : b.2.1 = b'.2.1) (hl : b.2.2.length = b'.2.2.length) (l : List FaultD) : kindsB b l = kindsB b' l := by simp only [kindsB, kindsOf, placeOf, h, hl]
theorem ZDu {x y : CellD} (h : x.1 = y.1) (k : Int) : fits x k = fits y k := by unfold fits turning; rw [h]
theorem ZDC {o o' : List CellD} (h : o.map Prod.fst = o'.map Prod.fst) (i : Nat) : (List.getD o i (0, 0)).1 = (List.getD o' i (0, 0)).1 := by
 have := congrArg (fun l => l[i]?) h
 simp only [List.getElem?_map] at this
 simp only [List.getD]
 cases h1 : o[i]? <;> cases h2 : o'[i]? <;> simp [h1, h2] at this ⊢
 exact this
theorem ZpS {b b' : BoardD} (h1 : b.1 = b'.1) (h2 : b.2.1 = b'.2.1) (h : b.2.2.map Prod.fst = b'.2.2.map Prod.fst) : ∀ (l : List FaultD) (last : Int), faultsOK b last l = faultsOK b' last l
 | [], _ => rfl
 | x :: r, last => by
  simp only [faultsOK, h1, h2, ZpS h1 h2 h r]
  rw [ZDu (ZDC h _)]
theorem ZBD {b : BoardD} (hb : boardOK b = true) {o : List CellD} (ho : o.length = b.2.2.length) (hx : ∀ x ∈ o, cellOK x = true) : boardOK (b.1, b.2.1, o) = true := by
 obtain ⟨g1, g2, g3, g4, g5, g6⟩ := ZH hb
 unfold boardOK
 have : (o.length : Int) = b.1 * b.2.1 := by omega
 simp only [g1, g2, g3, g4, this, and_self, decide_true, Bool.true_and]
 exact List.all_eq_true.2 hx
def runsOf (b : BoardD) (G K : List Int) : List Int → List CellD → List FallD × List CellD
 | [], o => ([], o)
 | c :: r, o => ((fallOf b G K c o).1 :: (runsOf b G K r (fallOf b G K c o).2).1, (runsOf b G K r (fallOf b G K c o).2).2)
theorem ZxM (b : BoardD) (G K : List Int) : ∀ (l : List Int) (o : List CellD), (runsOf b G K l o).1.length = l.length
 | [], _ => rfl
 | c :: r, o => by simp [runsOf, ZxM b G K r]
def colsOK (b : BoardD) (l : List Int) : Prop := ∀ c ∈ l, 0 ≤ c ∧ c < b.2.1
theorem Znj (b : BoardD) (hb : boardOK b = true) (G : List Int) (hG : G.length = b.2.2.length) (l : List FaultD) (hl : faultsOK b (-1) l = true) (hll : l.length ≤ 9223372036854775806) (d1 d2 : Int) (d3 : List CellD) : ∀ (r pre : List Int) (o : List CellD) (w : List FallD), colsOK b r → (pre ++ r).length ≤ 1000 → w.length = pre.length → o.length = b.2.2.length → (∀ x ∈ o, cellOK x = true) → o.map Prod.fst = b.2.2.map Prod.fst →
    Ev (fun k => Z8e k d1 d2 d3 b.1 b.2.1 o G w l (pre ++ r) ((pre ++ r).length : Int) (pre.length : Int)) (d1, d2, d3, b.1, b.2.1, (runsOf b G (kindsB b l) r o).2, w ++ (runsOf b G (kindsB b l) r o).1)
  | [], pre, o, w, hc, hl1, hw, ho, hx, hp => by
    refine Ev.succ ?_
    simp only [Z8e, Zz, decide_false, Bool.false_eq_true, if_false]
    simp only [runsOf, List.append_nil]
    exact Ev.some _
  | c :: r, pre, o, w, hc, hl1, hw, ho, hx, hp => by
    obtain ⟨k1, k2⟩ := hc c (List.mem_cons_self ..)
    have hb' := ZBD hb ho hx
    have hg := ZCC (b.1, b.2.1, o) hb' G (hG.trans ho.symm) l (by rw [ZpS (b := (b.1, b.2.1, o)) (b' := b) rfl rfl hp]; exact hl) hll c k1 k2
    rw [Zvd (b := (b.1, b.2.1, o)) (b' := b) rfl rfl, Zvh (b := (b.1, b.2.1, o)) (b' := b) rfl ho] at hg
    have hlw : w.length + 1 ≤ 140737488355328 / 24 := by simp at hl1; omega
    refine Ev.succ ?_
    simp only [Z8e, Zs, ZN, decide_true, if_true, Int.toNat_natCast, Zo]
    refine Ev.bind hg ?_
    simp only [List.length_singleton, hlw, if_true]
    rw [Zq pre c r (by omega)]
    have ih := Znj b hb G hG l hl hll d1 d2 d3 r (pre ++ [c]) (fallOf b G (kindsB b l) c o).2 (w ++ [(fallOf b G (kindsB b l) c o).1]) (fun y hy => hc y (List.mem_cons_of_mem _ hy)) (by simpa using hl1) (by simp [hw]) ((Zhe b G _ _ _ _ _ o).trans ho) (ZeT _ _ _ _ hx) ((ZBk _ _ _ _ hx).trans hp)
    rw [← Zh] at ih
    refine ih.congr ?_
    simp [runsOf]
theorem ZcB (b : BoardD) (hb : boardOK b = true) (l : List FaultD) (hl : faultsOK b (-1) l = true) (hll : l.length ≤ 9223372036854775806) (t : List Int) (ht : t.length ≤ 1000) (hc : colsOK b t) : Ev (fun k => Z6Q k b l t) ((runsOf b (groupsOf b) (kindsB b l) t b.2.2).1, b.1, b.2.1, (runsOf b (groupsOf b) (kindsB b l) t b.2.2).2) := by
 obtain ⟨g1, g2, g3, g4, g5, g6⟩ := ZH hb
 have hpp := ZL g1 g2 g3 g4
 refine Ev.succ ?_
 simp only [Z6Q]
 have h0 : Ev (fun k => Z58 k b.1 b.2.1 b.2.2 0 0 [] l t) (0, 0, [], b.1, b.2.1, b.2.2, groupsOf b, l, t) := by
  simp only [Z58]
  exact Ev.bind (Zf2 b (by omega)) (Ev.bind (Zlc b hb) (Ev.some _))
 refine Ev.bind h0 ?_
 refine Ev.bind (Znj b hb (groupsOf b) (Zfq b) l hl hll 0 0 [] t [] b.2.2 [] hc (by simpa using ht) rfl rfl g6 rfl) ?_
 exact Ev.some _
theorem Zfo (b : BoardD) (hb : boardOK b = true) (G K : List Int) (hG : G.length = b.2.2.length) (hK : K.length = b.2.2.length) (d1 d2 : Int) (d3 : List CellD) : ∀ (r pre : List Int) (o : List CellD) (w : List FallD), colsOK b r → (pre ++ r).length ≤ 1000 → w.length = pre.length → o.length = b.2.2.length → (∀ x ∈ o, cellOK x = true) →
    Ev (fun k => Z3P k d1 d2 d3 b.1 b.2.1 o G K w (pre ++ r) ((pre ++ r).length : Int) (pre.length : Int)) (d1, d2, d3, b.1, b.2.1, (runsOf b G K r o).2, w ++ (runsOf b G K r o).1)
  | [], pre, o, w, hc, hl1, hw, ho, hx => by
    refine Ev.succ ?_
    simp only [Z3P, Zz, decide_false, Bool.false_eq_true, if_false]
    simp only [runsOf, List.append_nil]
    exact Ev.some _
  | c :: r, pre, o, w, hc, hl1, hw, ho, hx => by
    obtain ⟨k1, k2⟩ := hc c (List.mem_cons_self ..)
    have hg := ZtW b hb G K hG hK c k1 k2 o ho hx
    have hlw : w.length + 1 ≤ 140737488355328 / 24 := by simp at hl1; omega
    refine Ev.succ ?_
    simp only [Z3P, Zs, ZN, decide_true, if_true, Int.toNat_natCast, Zo]
    refine Ev.bind hg ?_
    simp only [List.length_singleton, hlw, if_true]
    rw [Zq pre c r (by omega)]
    have ih := Zfo b hb G K hG hK d1 d2 d3 r (pre ++ [c]) (fallOf b G K c o).2 (w ++ [(fallOf b G K c o).1]) (fun y hy => hc y (List.mem_cons_of_mem _ hy)) (by simpa using hl1) (by simp [hw]) ((Zhe b G _ _ _ _ _ o).trans ho) (ZeT _ _ _ _ hx)
    rw [← Zh] at ih
    refine ih.congr ?_
    simp [runsOf]
theorem Zst (b : BoardD) (hb : boardOK b = true) (l : List FaultD) (hl : faultsOK b (-1) l = true) (hll : l.length ≤ 9223372036854775806) (t : List Int) (ht : t.length ≤ 1000) (hc : colsOK b t) : Ev (fun k => Z9s k b l t) ((runsOf b (groupsOf b) (kindsB b l) t b.2.2).1, b.1, b.2.1, (runsOf b (groupsOf b) (kindsB b l) t b.2.2).2) := by
 obtain ⟨g1, g2, g3, g4, g5, g6⟩ := ZH hb
 have hpp := ZL g1 g2 g3 g4
 refine Ev.succ ?_
 simp only [Z9s]
 refine Ev.bind (Zk9 b (by omega)) (Ev.bind (ZfS b hb) (Ev.bind (ZqL b hb l hl hll) ?_))
 refine Ev.bind (Zfo b hb (groupsOf b) (kindsB b l) (Zfq b) (ZDs b l) 0 0 [] t [] b.2.2 [] hc (by simpa using ht) rfl rfl g6) ?_
 exact Ev.some _
theorem ZoO (b : BoardD) (i : Nat) : List.getD (kindsB b []) i 0 = 0 := by
 show List.getD (List.replicate b.2.2.length (0 : Int)) i 0 = 0
 simp only [List.getD, List.getElem?_replicate]
 split <;> rfl
theorem Zzt {b : BoardD} (hb : boardOK b = true) (G : List Int) {at' : Nat} {o : List CellD} (ho : o.length = b.2.2.length) (ha : at' < o.length) : passAt G at' o = stepAt G (kindsB b []) at' o :=
 ZrE (l := []) hb rfl G ho ha (fun i _ h => by rw [ZoO] at h; cases h)
theorem Zpu (b : BoardD) (hb : boardOK b = true) (G : List Int) (hG : G.length = b.2.2.length) (d1 d2 d3 d4 d5 : Int) (o4 : List CellD) : ∀ (n : Nat) (row col side : Int) (o : List CellD) (q : List (List Int)), row + n = b.1 → 0 ≤ row → 0 ≤ col → col < b.2.1 → -1 ≤ side → side ≤ 1 → o.length = b.2.2.length → (∀ x ∈ o, cellOK x = true) → (q.length : Int) = row →
    ∃ p, Ev (fun k => Z5E k b.1 b.2.1 b.2.2 d1 d2 d3 d4 d5 o4 b.1 b.2.1 o q G col side row) ((fallL b G (kindsB b []) n row col side o).map2 (fun z => (b.1, b.2.1, b.2.2, d1, d2, d3, d4, d5, o4, b.1, b.2.1, z.2, p, z.1)) (fun r => (r.1, (b.1, b.2.1, r.2), p)))
  | 0, row, col, side, o, q, hn, hr, hc, hc2, hs, hs2, ho, hx, hq => by
    refine ⟨q, Ev.succ ?_⟩
    have : ¬ row < b.1 := by omega
    simp only [Z5E, this, decide_false, Bool.false_eq_true, if_false, fallL, LR.map2]
    exact Ev.some _
  | n + 1, row, col, side, o, q, hn, hr, hc, hc2, hs, hs2, ho, hx, hq => by
    obtain ⟨g1, g2, g3, g4, g5, g6⟩ := ZH hb
    have hpp := ZL g1 g2 g3 g4
    have hrow : row < b.1 := by omega
    have hp := Z4E hb hr hrow hc hc2
    have hoI : row * b.2.1 + col < (o.length : Int) := by omega
    have hcast : ((row * b.2.1 + col).toNat : Int) = row * b.2.1 + col := Int.toNat_of_nonneg hp.1
    have hxo := hx _ (ZiP hp.1 hoI (0, 0))
    have hgo := Zl5 hxo hs hs2
    have hpass := ZpB b.1 b.2.1 o G (row * b.2.1 + col).toNat (by omega) (by omega) (by omega) hx
    rw [hcast, Zzt hb G ho (by omega)] at hpass
    have hql : q.length + 1 ≤ 140737488355328 / 24 := by omega
    have hk2 : ¬ (0 : Int) = 2 := by omega
    have hk3 : ¬ (0 : Int) = 3 := by omega
    generalize hX : List.getD o (row * b.2.1 + col).toNat (0, 0) = X at *
    have start : ∀ {v : List (List Int) → LR (Int × Int × List CellD × Int × Int × Int × Int × Int × List CellD × Int × Int × List CellD × List (List Int) × Int) (FallD × BoardD × List (List Int))}, (∃ p, Ev (fun k => if decide (X.1 = 5) = true then Option.bind (Z5h k d1 d2 d3 d4 d5 o4 b.1 b.2.1 o (q ++ [[row, col]]) col row) fun z2 => some (LR.ret ((z2.1, z2.2.1, z2.2.2.1), (z2.2.2.2.1, z2.2.2.2.2.1, z2.2.2.2.2.2.1), z2.2.2.2.2.2.2))
        else Option.bind (Z9c k X side) fun z3 => Option.bind (Z99 k (b.1, b.2.1, o) G (row * b.2.1 + col)) fun z4 => Option.bind (Z21 k (wrap64 (col + z3)) (0 : Int) (b.2.1 - 1)) fun z5 => if (!z5) = true then Option.bind (Z5l k d1 d2 d3 d4 d5 o4 b.1 b.2.1 z4 (q ++ [[row, col]]) (wrap64 (col + z3)) row) fun z6 => some (LR.ret ((z6.1, z6.2.1, z6.2.2.1), (z6.2.2.2.1, z6.2.2.2.2.1, z6.2.2.2.2.2.1), z6.2.2.2.2.2.2)) else Z5E k b.1 b.2.1 b.2.2 d1 d2 d3 d4 d5 o4 b.1 b.2.1 z4 (q ++ [[row, col]]) G (wrap64 (col + z3)) (wrap64 ((0 : Int) - z3)) (wrap64 (row + (1 : Int)))) (v p)) →
        ∃ p, Ev (fun k => Z5E k b.1 b.2.1 b.2.2 d1 d2 d3 d4 d5 o4 b.1 b.2.1 o q G col side row) (v p) := by
      rintro v ⟨p, h⟩
      refine ⟨p, Ev.succ ?_⟩
      simp only [Z5E, hrow, decide_true, if_true, List.length_singleton, hql]
      rw [w64 (n := row * b.2.1) (by omega) (by omega), w64 (n := row * b.2.1 + col) (by omega) (by omega), w64 (n := b.2.1 - 1) (by omega) (by omega)]
      have := Zn7 b hb o ho hr hrow hc hc2
      rw [hX] at this
      exact Ev.bind this h
    refine start ?_
    simp only [fallL, hX, ZoO, hk2, hk3, if_false]
    by_cases h5 : X.1 = 5
    · refine ⟨q ++ [[row, col]], ?_⟩
      simp only [h5, decide_true, if_true, Z5h]
      exact Ev.bind (Ev.some _) (Ev.some _)
    simp only [h5, decide_false, Bool.false_eq_true, if_false]
    generalize hgg : goesOf X side = g at *
    have hgo' := ZpP X side hxo hs hs2
    rw [hgg] at hgo'
    by_cases hin : 0 ≤ col + g ∧ col + g < b.2.1
    · rw [if_pos hin]
      obtain ⟨p, ih⟩ := Zpu b hb G hG d1 d2 d3 d4 d5 o4 n (row + 1) (col + g) (0 - g) (stepAt G (kindsB b []) (row * b.2.1 + col).toNat o) (q ++ [[row, col]]) (by omega) (by omega) (by omega) (by omega) (by omega) (by omega) (by rw [Z9t]; exact ho) (Zht G _ hx) (by simp; omega)
      refine ⟨p, Ev.bind hgo' (Ev.bind hpass ?_)⟩
      rw [w64 (n := col + g) (by omega) (by omega), w64 (n := 0 - g) (by omega) (by omega), w64 (n := row + 1) (by omega) (by omega)]
      refine Ev.bind (Z3G _ _ _) (Ev.ite (fun hh => ?_) (fun hh => ih))
      have hh : ¬ (0 ≤ col + g ∧ col + g ≤ b.2.1 - 1) := nd hh
      omega
    · rw [if_neg hin]
      refine ⟨q ++ [[row, col]], Ev.bind hgo' (Ev.bind hpass ?_)⟩
      rw [w64 (n := col + g) (by omega) (by omega)]
      refine Ev.bind (Z3G _ _ _) (Ev.ite (fun hh => ?_) (fun hh => ?_))
      · simp only [Z5l]
        exact Ev.bind (Ev.some _) (Ev.some _)
      · have hh : 0 ≤ col + g ∧ col + g ≤ b.2.1 - 1 := yd hh
        omega
theorem ZBR (b : BoardD) (hb : boardOK b = true) (G : List Int) (hG : G.length = b.2.2.length) (col : Int) (hc : 0 ≤ col) (hc2 : col < b.2.1) : ∃ p, Ev (fun k => ZgM k b G col) ((fallOf b G (kindsB b []) col b.2.2).1, (b.1, b.2.1, (fallOf b G (kindsB b []) col b.2.2).2), p) := by
 obtain ⟨g1, g2, g3, g4, g5, g6⟩ := ZH hb
 have hpp := ZL g1 g2 g3 g4
 obtain ⟨p, h⟩ := Zpu b hb G hG 0 0 0 0 0 [] b.1.toNat 0 col 0 b.2.2 [] (by omega) (by omega) hc hc2 (by omega) (by omega) rfl g6 rfl
 refine ⟨p, Ev.succ ?_⟩
 simp only [ZgM]
 refine Ev.bind (Zf2 b (by omega)) (Ev.bind h ?_)
 unfold fallOf
 cases fallL b G (kindsB b []) b.1.toNat 0 col 0 b.2.2 with
 | go z =>
  refine Ev.go ?_
  simp only [Z7h]
  exact Ev.bind (Ev.some _) (Ev.some _)
 | ret r => exact Ev.ret (Ev.some _)
theorem Zhw (R C : Int) (G : List Int) (at' : Nat) : ∀ (r pre : List CellD), (pre ++ r).length ≤ 1000 → at' < (pre ++ r).length → G.length = (pre ++ r).length → (∀ x ∈ r, cellOK x = true) →
    Ev (fun k => Z1Y k (pre ++ r) R C G (at' : Int) ((pre ++ r).length : Int) (pre.length : Int)) (pre ++ passGo G (List.getD G at' 0) pre.length r)
  | [], pre, hl, ha, hG, hx => by
    refine Ev.succ ?_
    simp only [Z1Y, Zz, decide_false, Bool.false_eq_true, if_false, passGo]
    exact Ev.some _
  | x :: r, pre, hl, ha, hG, hx => by
    have hn := Zq pre x r (by omega)
    have hlt := Zs pre x r
    have hGl : (pre.length : Int) < (G.length : Int) := by rw [hG]; exact hlt
    have ha0 : (0 : Int) ≤ (at' : Int) := Int.natCast_nonneg _
    have ha1 : (at' : Int) < ((pre ++ x :: r).length : Int) := by omega
    have haG : (at' : Int) < (G.length : Int) := by rw [hG]; exact ha1
    obtain ⟨c1, c2, c3⟩ := ZcE (hx x (List.mem_cons_self ..))
    have hr' : ∀ y ∈ r, cellOK y = true := fun y hy => hx y (List.mem_cons_of_mem _ hy)
    have next : ∀ y : CellD, Ev (fun k => Z1Y k (pre ++ y :: r) R C G (at' : Int) ((pre ++ x :: r).length : Int) ((pre ++ [x]).length : Int)) (pre ++ y :: passGo G (List.getD G at' 0) (pre.length + 1) r) := by
      intro y
      have ih := Zhw R C G at' r (pre ++ [y]) (by simpa using hl) (by simpa using ha) (by simpa using hG) hr'
      have e1 : ((pre ++ [y] ++ r).length : Int) = ((pre ++ x :: r).length : Int) := by simp
      have e2 : ((pre ++ [y]).length : Int) = ((pre ++ [x]).length : Int) := by simp
      have e3 : (pre ++ [y]).length = pre.length + 1 := by simp
      rw [e1, e2, e3, ← Zh, ← Zh] at ih
      exact ih
    refine Ev.succ ?_
    simp only [Z1Y, Zs, ZN, decide_true, if_true, Int.toNat_natCast, Zo, Zno, hn, hGl, ha0, haG]
    rw [w64 (n := 1 - x.2) (by omega) (by omega)]
    simp only [passGo]
    refine Ev.ite (fun h1 => Ev.ite (fun h2 => ?_) (fun h2 => ?_)) (fun h1 => ?_)
    · simp only [decide_eq_true_eq] at h1 h2
      rw [if_pos ⟨h1, h2⟩]
      exact next (flip1 x)
    · simp only [decide_eq_true_eq] at h2
      rw [if_neg (fun hc => h2 hc.2)]
      exact next x
    · simp only [decide_eq_true_eq] at h1
      rw [if_neg (fun hc => h1 hc.1)]
      exact next x
theorem Zwo (R C : Int) (o : List CellD) (G : List Int) (at' : Nat) (hl : o.length ≤ 1000) (ha : at' < o.length) (hG : G.length = o.length) (hx : ∀ x ∈ o, cellOK x = true) : Ev (fun k => Z8q k (R, C, o) G (at' : Int)) (passGo G (List.getD G at' 0) 0 o) := by
 refine Ev.succ ?_
 simp only [Z8q]
 exact Ev.bind (Zhw R C G at' o [] hl ha hG hx) (Ev.some _)
theorem Zpv (b : BoardD) (hb : boardOK b = true) (G : List Int) (hG : G.length = b.2.2.length) (c0 c1 c2 : Int) : ∀ (n : Nat) (row col side : Int) (o : List CellD) (q : List Int), row + n = b.1 → 0 ≤ row → 0 ≤ col → col < b.2.1 → -1 ≤ side → side ≤ 1 → o.length = b.2.2.length → (∀ x ∈ o, cellOK x = true) → (q.length : Int) = row →
    ∃ p, Ev (fun k => Z2L k o b.1 b.2.1 c0 c1 c2 q G col side row) ((fallL b G (kindsB b []) n row col side o).map2 (fun z => (z.2, b.1, b.2.1, c0, c1, c2, p, z.1)) (fun r => (r.1, p, r.2)))
  | 0, row, col, side, o, q, hn, hr, hc, hc2, hs, hs2, ho, hx, hq => by
    refine ⟨q, Ev.succ ?_⟩
    have : ¬ row < b.1 := by omega
    simp only [Z2L, this, decide_false, Bool.false_eq_true, if_false, fallL, LR.map2]
    exact Ev.some _
  | n + 1, row, col, side, o, q, hn, hr, hc, hc2, hs, hs2, ho, hx, hq => by
    obtain ⟨g1, g2, g3, g4, g5, g6⟩ := ZH hb
    have hpp := ZL g1 g2 g3 g4
    have hrow : row < b.1 := by omega
    have hp := Z4E hb hr hrow hc hc2
    have hoI : row * b.2.1 + col < (o.length : Int) := by omega
    have hcast : ((row * b.2.1 + col).toNat : Int) = row * b.2.1 + col := Int.toNat_of_nonneg hp.1
    have hxo := hx _ (ZiP hp.1 hoI (0, 0))
    have hgo := Zl5 hxo hs hs2
    have hgt := Zq0 (List.getD o (row * b.2.1 + col).toNat (0, 0)) side hxo hs hs2
    have hturn := Zwo b.1 b.2.1 o G (row * b.2.1 + col).toNat (by omega) (by omega) (by omega) hx
    rw [hcast] at hturn
    have hpass := Zzt hb G ho (show (row * b.2.1 + col).toNat < o.length by omega)
    unfold passAt at hpass
    have hql : q.length + 1 ≤ 140737488355328 / 8 := by omega
    have hk2 : ¬ (0 : Int) = 2 := by omega
    have hk3 : ¬ (0 : Int) = 3 := by omega
    obtain ⟨cc1, cc2, cc3⟩ := ZcE hxo
    simp only [fallL, ZoO, hk2, hk3, if_false]
    generalize hS : stepAt G (kindsB b []) (row * b.2.1 + col).toNat o = S at *
    have hSl : S.length = b.2.2.length := by rw [← hS, Z9t]; exact ho
    have hSx : ∀ x ∈ S, cellOK x = true := by rw [← hS]; exact Zht G _ hx
    generalize hX : List.getD o (row * b.2.1 + col).toNat (0, 0) = X at *
    by_cases h5 : X.1 = 5
    · refine ⟨q ++ [row * b.2.1 + col], Ev.succ ?_⟩
      simp only [Z2L, hrow, decide_true, if_true, List.length_singleton, hql]
      rw [w64 (n := row * b.2.1) (by omega) (by omega), w64 (n := row * b.2.1 + col) (by omega) (by omega)]
      simp only [hp.1, hoI, if_true, hX]
      refine Ev.bind hgt ?_
      simp only [h5, if_true, Bool.not_false]
      exact Ev.some _
    simp only [h5, if_false] at hgt ⊢
    generalize goesOf X side = g at *
    have tail : ∃ p, ∀ o', o' = S → Ev (fun k => if decide (wrap64 (col + g) < 0) = true then some (LR.ret ((3, row, wrap64 (col + g)), q ++ [row * b.2.1 + col], o')) else if decide (wrap64 (col + g) ≥ b.2.1) = true then some (LR.ret ((3, row, wrap64 (col + g)), q ++ [row * b.2.1 + col], o')) else Z2L k o' b.1 b.2.1 c0 c1 c2 (q ++ [row * b.2.1 + col]) G (wrap64 (col + g)) (wrap64 (0 - g)) (wrap64 (row + 1)))
        (LR.map2 (fun z => (z.2, b.1, b.2.1, c0, c1, c2, p, z.1)) (fun r => (r.1, p, r.2)) (if 0 ≤ col + g ∧ col + g < b.2.1 then fallL b G (kindsB b []) n (row + 1) (col + g) (0 - g) S else .ret ((3, row, col + g), S))) := by
      rw [w64 (n := col + g) (by omega) (by omega), w64 (n := 0 - g) (by omega) (by omega), w64 (n := row + 1) (by omega) (by omega)]
      by_cases hin : 0 ≤ col + g ∧ col + g < b.2.1
      · obtain ⟨p, ih⟩ := Zpv b hb G hG c0 c1 c2 n (row + 1) (col + g) (0 - g) S (q ++ [row * b.2.1 + col]) (by omega) (by omega) (by omega) (by omega) (by omega) (by omega) hSl hSx (by simp; omega)
        refine ⟨p, fun o' ho' => ?_⟩
        subst ho'
        rw [if_pos hin]
        refine Ev.ite (fun h => ?_) (fun _ => Ev.ite (fun h => ?_) (fun _ => ih))
        · simp only [decide_eq_true_eq] at h; omega
        · simp only [decide_eq_true_eq] at h; omega
      · refine ⟨q ++ [row * b.2.1 + col], fun o' ho' => ?_⟩
        subst ho'
        rw [if_neg hin]
        refine Ev.ite (fun _ => Ev.some _) (fun h => Ev.ite (fun _ => Ev.some _) (fun h2 => ?_))
        simp only [decide_eq_true_eq] at h h2
        omega
    obtain ⟨p, tail⟩ := tail
    refine ⟨p, Ev.succ ?_⟩
    simp only [Z2L, hrow, decide_true, if_true, List.length_singleton, hql]
    rw [w64 (n := row * b.2.1) (by omega) (by omega), w64 (n := row * b.2.1 + col) (by omega) (by omega)]
    simp only [hp.1, hoI, if_true, hX]
    rw [w64 (n := 1 - X.2) (by omega) (by omega)]
    refine Ev.bind hgt ?_
    simp only [Bool.not_true, Bool.false_eq_true, if_false]
    by_cases h3 : X.1 = 3
    · have h36 : ¬ (3 : Int) = 6 := by omega
      simp only [h3, decide_true, if_true, h36, decide_false, Bool.false_eq_true, if_false]
      rw [if_pos h3] at hpass
      refine tail _ ?_
      rw [← hpass]
      simp [flip1, h3]
    · simp only [h3, decide_false, Bool.false_eq_true, if_false]
      rw [if_neg h3] at hpass
      by_cases h6 : X.1 = 6
      · simp only [h6, decide_true, if_true]
        rw [if_pos h6] at hpass
        exact Ev.bind hturn (tail _ hpass)
      · simp only [h6, decide_false, Bool.false_eq_true, if_false]
        rw [if_neg h6] at hpass
        exact tail _ hpass
theorem ZCc (b : BoardD) (hb : boardOK b = true) (G : List Int) (hG : G.length = b.2.2.length) (col : Int) (hc : 0 ≤ col) (hc2 : col < b.2.1) (o : List CellD) (ho : o.length = b.2.2.length) (hx : ∀ x ∈ o, cellOK x = true) : ∃ p, Ev (fun k => ZgW k (b.1, b.2.1, o) G col) ((fallOf b G (kindsB b []) col o).1, p, (fallOf b G (kindsB b []) col o).2) := by
 obtain ⟨g1, g2, g3, g4, g5, g6⟩ := ZH hb
 obtain ⟨p, h⟩ := Zpv b hb G hG 0 0 0 b.1.toNat 0 col 0 o [] (by omega) (by omega) hc hc2 (by omega) (by omega) ho hx rfl
 refine ⟨p, Ev.succ ?_⟩
 simp only [ZgW]
 refine Ev.bind h ?_
 unfold fallOf
 cases fallL b G (kindsB b []) b.1.toNat 0 col 0 o with
 | go z => exact Ev.go (Ev.some _)
 | ret r => exact Ev.ret (Ev.some _)
theorem Zns (b : BoardD) (hb : boardOK b = true) (G : List Int) (hG : G.length = b.2.2.length) (d1 d2 : Int) (d3 : List CellD) : ∀ (r pre : List Int) (o : List CellD) (w : List FallD), colsOK b r → (pre ++ r).length ≤ 1000 → w.length = pre.length → o.length = b.2.2.length → (∀ x ∈ o, cellOK x = true) →
    Ev (fun k => Z8c k d1 d2 d3 b.1 b.2.1 o G w (pre ++ r) ((pre ++ r).length : Int) (pre.length : Int)) (d1, d2, d3, b.1, b.2.1, (runsOf b G (kindsB b []) r o).2, w ++ (runsOf b G (kindsB b []) r o).1)
  | [], pre, o, w, hc, hl1, hw, ho, hx => by
    refine Ev.succ ?_
    simp only [Z8c, Zz, decide_false, Bool.false_eq_true, if_false]
    simp only [runsOf, List.append_nil]
    exact Ev.some _
  | c :: r, pre, o, w, hc, hl1, hw, ho, hx => by
    obtain ⟨k1, k2⟩ := hc c (List.mem_cons_self ..)
    have hb' := ZBD hb ho hx
    obtain ⟨p, hg⟩ := ZBR (b.1, b.2.1, o) hb' G (hG.trans ho.symm) c k1 k2
    rw [Zvd (b := (b.1, b.2.1, o)) (b' := b) rfl rfl, Zvh (b := (b.1, b.2.1, o)) (b' := b) rfl ho] at hg
    have hlw : w.length + 1 ≤ 140737488355328 / 24 := by simp at hl1; omega
    refine Ev.succ ?_
    simp only [Z8c, Zs, ZN, decide_true, if_true, Int.toNat_natCast, Zo]
    refine Ev.bind hg ?_
    simp only [List.length_singleton, hlw, if_true]
    rw [Zq pre c r (by omega)]
    have ih := Zns b hb G hG d1 d2 d3 r (pre ++ [c]) (fallOf b G (kindsB b []) c o).2 (w ++ [(fallOf b G (kindsB b []) c o).1]) (fun y hy => hc y (List.mem_cons_of_mem _ hy)) (by simpa using hl1) (by simp [hw]) ((Zhe b G _ _ _ _ _ o).trans ho) (ZeT _ _ _ _ hx)
    rw [← Zh] at ih
    refine ih.congr ?_
    simp [runsOf]
theorem ZBE (b : BoardD) (hb : boardOK b = true) (t : List Int) (ht : t.length ≤ 1000) (hc : colsOK b t) : Ev (fun k => Zfl k b t) ((runsOf b (groupsOf b) (kindsB b []) t b.2.2).1, b.1, b.2.1, (runsOf b (groupsOf b) (kindsB b []) t b.2.2).2) := by
 obtain ⟨g1, g2, g3, g4, g5, g6⟩ := ZH hb
 have hpp := ZL g1 g2 g3 g4
 refine Ev.succ ?_
 simp only [Zfl]
 have h0 : Ev (fun k => Z5f k b.1 b.2.1 b.2.2 0 0 [] t) (0, 0, [], b.1, b.2.1, b.2.2, groupsOf b, t) := by
  simp only [Z5f]
  exact Ev.bind (Zf2 b (by omega)) (Ev.bind (Zlc b hb) (Ev.some _))
 refine Ev.bind h0 ?_
 refine Ev.bind (Zns b hb (groupsOf b) (Zfq b) 0 0 [] t [] b.2.2 [] hc (by simpa using ht) rfl rfl g6) ?_
 exact Ev.some _
theorem Zjt (b : BoardD) (hb : boardOK b = true) (G : List Int) (hG : G.length = b.2.2.length) (d1 d2 : Int) (d3 : List CellD) : ∀ (r pre : List Int) (o : List CellD) (w : List FallD), colsOK b r → (pre ++ r).length ≤ 1000 → w.length = pre.length → o.length = b.2.2.length → (∀ x ∈ o, cellOK x = true) →
    Ev (fun k => Z6c k d1 d2 d3 b.1 b.2.1 o G w (pre ++ r) ((pre ++ r).length : Int) (pre.length : Int)) (d1, d2, d3, b.1, b.2.1, (runsOf b G (kindsB b []) r o).2, w ++ (runsOf b G (kindsB b []) r o).1)
  | [], pre, o, w, hc, hl1, hw, ho, hx => by
    refine Ev.succ ?_
    simp only [Z6c, Zz, decide_false, Bool.false_eq_true, if_false]
    simp only [runsOf, List.append_nil]
    exact Ev.some _
  | c :: r, pre, o, w, hc, hl1, hw, ho, hx => by
    obtain ⟨k1, k2⟩ := hc c (List.mem_cons_self ..)
    obtain ⟨p, hg⟩ := ZCc b hb G hG c k1 k2 o ho hx
    have hlw : w.length + 1 ≤ 140737488355328 / 24 := by simp at hl1; omega
    refine Ev.succ ?_
    simp only [Z6c, Zs, ZN, decide_true, if_true, Int.toNat_natCast, Zo]
    refine Ev.bind hg ?_
    simp only [List.length_singleton, hlw, if_true]
    rw [Zq pre c r (by omega)]
    have ih := Zjt b hb G hG d1 d2 d3 r (pre ++ [c]) (fallOf b G (kindsB b []) c o).2 (w ++ [(fallOf b G (kindsB b []) c o).1]) (fun y hy => hc y (List.mem_cons_of_mem _ hy)) (by simpa using hl1) (by simp [hw]) ((Zhe b G _ _ _ _ _ o).trans ho) (ZeT _ _ _ _ hx)
    rw [← Zh] at ih
    refine ih.congr ?_
    simp [runsOf]
theorem Zzi (b : BoardD) (hb : boardOK b = true) (t : List Int) (ht : t.length ≤ 1000) (hc : colsOK b t) : Ev (fun k => ZcV k b t) ((runsOf b (groupsOf b) (kindsB b []) t b.2.2).1, b.1, b.2.1, (runsOf b (groupsOf b) (kindsB b []) t b.2.2).2) := by
 obtain ⟨g1, g2, g3, g4, g5, g6⟩ := ZH hb
 have hpp := ZL g1 g2 g3 g4
 refine Ev.succ ?_
 simp only [ZcV]
 refine Ev.bind (Zk9 b (by omega)) (Ev.bind (ZfS b hb) ?_)
 refine Ev.bind (Zjt b hb (groupsOf b) (Zfq b) 0 0 [] t [] b.2.2 [] hc (by simpa using ht) rfl rfl g6) ?_
 exact Ev.some _
end Go.Proofs.Ytgjmhbjdhihgaaa.Vs

set_option linter.unusedVariables false
set_option linter.unusedSimpArgs false
namespace Go.Proofs.Ytgjmhbjdhihgaaa.Vs
open Go.RowKit
theorem ZeF (b : BoardD) : ∀ (r pre : List Int), (pre ++ r).length ≤ 9223372036854775806 → Ev (fun k => Z3s k b.1 b.2.1 b.2.2 (pre ++ r) ((pre ++ r).length : Int) (pre.length : Int)) (if r.all (fun c => decide (0 ≤ c ∧ c < b.2.1)) then LR.go () else LR.ret false)
 | [], pre, hl => by
  refine Ev.succ ?_
  simp only [Z3s, Zz, decide_false, Bool.false_eq_true, if_false, List.all_nil, if_true]
  exact Ev.some _
 | x :: r, pre, hl => by
  have ih := ZeF b r (pre ++ [x]) (by simpa using hl)
  refine Ev.succ ?_
  simp only [Z3s, Zs, ZN, decide_true, if_true, Int.toNat_natCast, Zo]
  rw [Zq pre x r (by omega)]
  rw [← Zh] at ih
  refine Ev.ite (fun h => ?_) (fun h => Ev.ite (fun h2 => ?_) (fun h2 => ?_))
  ·simp only [decide_eq_true_eq] at h
   have hx : ¬ (0 ≤ x ∧ x < b.2.1) := by omega
   simp only [hx, List.all_cons, decide_false, Bool.false_and, Bool.false_eq_true, if_false]; exact Ev.some _
  ·simp only [decide_eq_true_eq] at h2
   have hx : ¬ (0 ≤ x ∧ x < b.2.1) := by omega
   simp only [hx, List.all_cons, decide_false, Bool.false_and, Bool.false_eq_true, if_false]; exact Ev.some _
  ·simp only [decide_eq_true_eq] at h h2
   have hx : 0 ≤ x ∧ x < b.2.1 := by omega
   simp only [hx, and_self, List.all_cons, decide_true, Bool.true_and]; exact ih
theorem Zqm (b : BoardD) (l : List Int) (hb : b.2.2.length ≤ 9223372036854775806) (hl : l.length ≤ 9223372036854775806) : Ev (fun k => Z8O k b l) (boardOK b && decide (l.length ≤ 60) && l.all fun c => decide (0 ≤ c ∧ c < b.2.1)) := by
 refine Ev.succ ?_
 simp only [Z8O]
 refine Ev.bind (Zgo b hb) ?_
 cases hbo : boardOK b with
 | false => simp only [Bool.not_false, if_true, Bool.false_and]; exact Ev.some _
 | true =>
  simp only [Bool.not_true, Bool.false_eq_true, if_false, Bool.true_and]
  refine Ev.ite (fun h => Ev.of ?_) (fun h => ?_)
  ·simp only [decide_eq_true_eq] at h
   have : ¬ l.length ≤ 60 := by omega
   simp [this]
  ·simp only [decide_eq_true_eq] at h
   have h6 : l.length ≤ 60 := by omega
   refine Ev.bind (ZeF b l [] (by simpa using hl)) ?_
   simp only [h6, decide_true, Bool.true_and]
   cases hx : l.all (fun c => decide (0 ≤ c ∧ c < b.2.1)) with
   | true => simp only [if_true]; exact Ev.go (Ev.some _)
   | false => simp only [Bool.false_eq_true, if_false]; exact Ev.ret (Ev.some _)
end Go.Proofs.Ytgjmhbjdhihgaaa.Vs

set_option linter.unusedVariables false
set_option linter.unusedSimpArgs false
namespace Go.Proofs.Ytgjmhbjdhihgaaa.Vs
open Go.RowKit
end Go.Proofs.Ytgjmhbjdhihgaaa.Vs

set_option linter.unusedVariables false
set_option linter.unusedSimpArgs false
namespace Go.Proofs.Ytgjmhbjdhihgaaa.Vs
open Go.RowKit
theorem eq3 (x y : FallD) : (decide (x.1 = y.1) && (decide (x.2.1 = y.2.1) && (decide (x.2.2 = y.2.2) && true))) = decide (x = y) := by
 obtain ⟨a0, a1, a2⟩ := x
 obtain ⟨b0, b1, b2⟩ := y
 by_cases h0 : a0 = b0 <;> by_cases h1 : a1 = b1 <;> by_cases h2 : a2 = b2 <;> simp [h0, h1, h2]
def diffIx : Nat → List FallD → List FallD → Option Nat
 | i, x :: r, y :: s => if x = y then diffIx (i + 1) r s else some i
 | _, _, _ => none
def ixOf : Option Nat → Int
 | none => -1
 | some i => (i : Int)
def lrOf {R : Type} (f : Nat → R) : Option Nat → LR Unit R
 | none => .go ()
 | some i => .ret (f i)
def diffsFrom : Nat → List FallD → List FallD → List Int
 | i, x :: r, y :: s => if x = y then diffsFrom (i + 1) r s else (i : Int) :: diffsFrom (i + 1) r s
 | _, _, _ => []
theorem ZlA : ∀ (i : Nat) (r s : List FallD), s.length = r.length → (diffIx i r s = none ↔ r = s)
 | i, [], s, h => by
  obtain rfl : s = [] := List.eq_nil_of_length_eq_zero h
  simp [diffIx]
 | i, x :: r, [], h => by simp at h
 | i, x :: r, y :: s, h => by
  have ih := ZlA (i + 1) r s (by simpa using h)
  by_cases hxy : x = y <;> simp [diffIx, hxy, ih]
theorem Zpt : ∀ (i : Nat) (r s : List FallD), (diffsFrom i r s).length ≤ r.length
 | i, [], s => by simp [diffsFrom]
 | i, x :: r, [] => by simp [diffsFrom]
 | i, x :: r, y :: s => by
  have ih := Zpt (i + 1) r s
  simp only [diffsFrom]
  split <;> simp <;> omega
theorem ZFc (z : Option Nat) : ixOf z < 0 ↔ z = none := by
 cases z with
 | none => simp [ixOf]
 | some i => simp only [ixOf, reduceCtorEq, iff_false]; omega
theorem ZkT : ∀ (r s pre pre' : List FallD), s.length = r.length → pre'.length = pre.length → (pre ++ r).length ≤ 1000000 → Ev (fun k => Z71 k (pre' ++ s) (pre ++ r) ((pre ++ r).length : Int) (pre.length : Int)) (lrOf (fun i => (i : Int)) (diffIx pre.length r s))
 | [], s, pre, pre', h, hp, hl => by
  obtain rfl : s = [] := List.eq_nil_of_length_eq_zero h
  refine Ev.succ ?_
  simp only [Z71, Zz, decide_false, Bool.false_eq_true, if_false]
  exact Ev.some _
 | x :: r, [], pre, pre', h, hp, hl => by simp at h
 | x :: r, y :: s, pre, pre', h, hp, hl => by
  have ih := ZkT r s (pre ++ [x]) (pre' ++ [y]) (by simpa using h) (by simpa using hp) (by simpa using hl)
  have l2 : (pre.length : Int) < ((pre' ++ y :: s).length : Int) := by rw [← hp]; exact Zs _ _ _
  have g2 : List.getD (pre' ++ y :: s) pre.length (0, 0, 0) = y := by rw [← hp]; exact Zo _ _ _ _
  refine Ev.succ ?_
  simp only [Z71, Zs, ZN, l2, decide_true, if_true, Int.toNat_natCast, Zo, g2, eq3]
  rw [Zq pre x r (by omega)]
  rw [← Zh, ← Zh] at ih
  refine Ev.ite (fun hh => ?_) (fun hh => ?_)
  ·have hh : ¬ x = y := nd hh
   exact Ev.of (by simp [diffIx, hh, lrOf])
  ·have hh : x = y := yd hh
   refine ih.congr ?_
   simp [diffIx, hh]
theorem Z6N : ∀ (r s pre pre' : List FallD), s.length = r.length → pre'.length = pre.length → (pre ++ r).length ≤ 1000000 → Ev (fun k => ZQ k (pre ++ r) (pre' ++ s) ((pre ++ r).length : Int) (pre.length : Int)) (lrOf (fun _ => false) (diffIx pre.length r s))
 | [], s, pre, pre', h, hp, hl => by
  obtain rfl : s = [] := List.eq_nil_of_length_eq_zero h
  refine Ev.succ ?_
  simp only [ZQ, Zz, decide_false, Bool.false_eq_true, if_false]
  exact Ev.some _
 | x :: r, [], pre, pre', h, hp, hl => by simp at h
 | x :: r, y :: s, pre, pre', h, hp, hl => by
  have ih := Z6N r s (pre ++ [x]) (pre' ++ [y]) (by simpa using h) (by simpa using hp) (by simpa using hl)
  have l2 : (pre.length : Int) < ((pre' ++ y :: s).length : Int) := by rw [← hp]; exact Zs _ _ _
  have g2 : List.getD (pre' ++ y :: s) pre.length (0, 0, 0) = y := by rw [← hp]; exact Zo _ _ _ _
  refine Ev.succ ?_
  simp only [ZQ, Zs, ZN, l2, decide_true, if_true, Int.toNat_natCast, Zo, g2, eq3]
  rw [Zq pre x r (by omega)]
  rw [← Zh, ← Zh] at ih
  refine Ev.ite (fun hh => ?_) (fun hh => ?_)
  ·have hh : ¬ x = y := nd hh
   exact Ev.of (by simp [diffIx, hh, lrOf])
  ·have hh : x = y := yd hh
   refine ih.congr ?_
   simp [diffIx, hh]
theorem ZzP (l m : List FallD) (h : m.length = l.length) (hl : l.length ≤ 1000000) : Ev (fun k => Ze2 k l m) (ixOf (diffIx 0 l m)) := by
 refine Ev.succ ?_
 simp only [Ze2]
 refine Ev.bind (ZkT l m [] [] h rfl (by simpa using hl)) ?_
 simp only [List.length_nil]
 cases diffIx 0 l m with
 | none => exact Ev.go (Ev.some _)
 | some i => exact Ev.ret (Ev.some _)
theorem Zdl (l m : List FallD) (hl : l.length ≤ 1000000) : Ev (fun k => Z2h k l m) (decide (l = m)) := by
 refine Ev.succ ?_
 simp only [Z2h]
 by_cases h : l.length = m.length
 ·simp only [h, ne_eq, not_true_eq_false, decide_false, Bool.false_eq_true, if_false]
  have hh := Z6N l m [] [] h.symm rfl (by simpa using hl)
  simp only [List.nil_append, List.length_nil, h] at hh
  refine Ev.bind hh ?_
  have hn := ZlA 0 l m h.symm
  cases hd : diffIx 0 l m with
  | none =>
   rw [hd] at hn
   simp only [hn.1 rfl, decide_true]
   exact Ev.go (Ev.some _)
  | some i =>
   rw [hd] at hn
   have : ¬ l = m := fun hc => by have := hn.2 hc; cases this
   simp only [this, decide_false]
   exact Ev.ret (Ev.some _)
 ·have h2 : ¬ (l.length : Int) = (m.length : Int) := by omega
  have h3 : ¬ l = m := fun hc => h (by rw [hc])
  simp only [ne_eq, h2, not_false_eq_true, decide_true, if_true, h3, decide_false]
  exact Ev.some _
theorem Zfs : ∀ (r s pre pre' : List FallD) (acc : List Int), s.length = r.length → pre'.length = pre.length → (pre ++ r).length ≤ 1000000 → acc.length ≤ pre.length → Ev (fun k => Z2D k acc (pre ++ r) (pre' ++ s) ((pre ++ r).length : Int) (pre.length : Int)) (acc ++ diffsFrom pre.length r s)
 | [], s, pre, pre', acc, h, hp, hl, ha => by
  obtain rfl : s = [] := List.eq_nil_of_length_eq_zero h
  refine Ev.succ ?_
  simp only [Z2D, Zz, decide_false, Bool.false_eq_true, if_false]
  exact Ev.of (by simp [diffsFrom])
 | x :: r, [], pre, pre', acc, h, hp, hl, ha => by simp at h
 | x :: r, y :: s, pre, pre', acc, h, hp, hl, ha => by
  have ih := fun acc' ha' => Zfs r s (pre ++ [x]) (pre' ++ [y]) acc' (by simpa using h) (by simpa using hp) (by simpa using hl) ha'
  have l2 : (pre.length : Int) < ((pre' ++ y :: s).length : Int) := by rw [← hp]; exact Zs _ _ _
  have g2 : List.getD (pre' ++ y :: s) pre.length (0, 0, 0) = y := by rw [← hp]; exact Zo _ _ _ _
  have hal : acc.length + 1 ≤ 140737488355328 / 8 := by simp at hl; omega
  refine Ev.succ ?_
  simp only [Z2D, Zs, ZN, l2, decide_true, if_true, Int.toNat_natCast, Zo, g2, eq3, List.length_singleton, hal]
  rw [Zq pre x r (by omega)]
  simp only [← Zh] at ih
  refine Ev.ite (fun hh => ?_) (fun hh => ?_)
  ·have hh : ¬ x = y := nd hh
   refine (ih (acc ++ [(pre.length : Int)]) (by simp; omega)).congr ?_
   simp [diffsFrom, hh]
  ·have hh : x = y := yd hh
   refine (ih acc (by simp; omega)).congr ?_
   simp [diffsFrom, hh]
theorem Zf9 : ∀ (r s pre pre' : List FallD) (acc : List Int), s.length = r.length → pre'.length = pre.length → (pre ++ r).length ≤ 1000000 → acc.length ≤ pre.length → Ev (fun k => Z2F k acc (pre ++ r) (pre' ++ s) ((pre ++ r).length : Int) (pre.length : Int)) (acc ++ diffsFrom pre.length r s)
 | [], s, pre, pre', acc, h, hp, hl, ha => by
  obtain rfl : s = [] := List.eq_nil_of_length_eq_zero h
  refine Ev.succ ?_
  simp only [Z2F, Zz, decide_false, Bool.false_eq_true, if_false]
  exact Ev.of (by simp [diffsFrom])
 | x :: r, [], pre, pre', acc, h, hp, hl, ha => by simp at h
 | x :: r, y :: s, pre, pre', acc, h, hp, hl, ha => by
  have ih := fun acc' ha' => Zf9 r s (pre ++ [x]) (pre' ++ [y]) acc' (by simpa using h) (by simpa using hp) (by simpa using hl) ha'
  have l2 : (pre.length : Int) < ((pre' ++ y :: s).length : Int) := by rw [← hp]; exact Zs _ _ _
  have g2 : List.getD (pre' ++ y :: s) pre.length (0, 0, 0) = y := by rw [← hp]; exact Zo _ _ _ _
  have hal : acc.length + 1 ≤ 140737488355328 / 8 := by simp at hl; omega
  refine Ev.succ ?_
  simp only [Z2F, Zs, ZN, l2, decide_true, if_true, Int.toNat_natCast, Zo, g2, eq3, List.length_singleton, hal]
  rw [Zq pre x r (by omega)]
  simp only [← Zh] at ih
  refine Ev.ite (fun hh => ?_) (fun hh => ?_)
  ·have hh : ¬ x = y := nd hh
   refine (ih (acc ++ [(pre.length : Int)]) (by simp; omega)).congr ?_
   simp [diffsFrom, hh]
  ·have hh : x = y := yd hh
   refine (ih acc (by simp; omega)).congr ?_
   simp [diffsFrom, hh]
def endOK (b : BoardD) (e : FallD) : Bool := decide (1 ≤ e.1 ∧ e.1 ≤ 3) && decide (0 ≤ e.2.1 ∧ e.2.1 ≤ b.1) && decide (-1 ≤ e.2.2 ∧ e.2.2 ≤ b.2.1)
def seenOK (b : BoardD) (t : List Int) (s : List FallD) : Bool := boardOK b && (decide (b.2.2.length ≤ 24) && (decide (t.length ≤ 20) && ((t.all fun c => decide (0 ≤ c ∧ c < b.2.1)) && (decide (s.length = t.length) && s.all (endOK b)))))
theorem Z4U {b : BoardD} {t : List Int} {s : List FallD} (h : seenOK b t s = true) : boardOK b = true ∧ b.2.2.length ≤ 24 ∧ t.length ≤ 20 ∧ colsOK b t ∧ s.length = t.length := by
 unfold seenOK at h
 simp only [Bool.and_eq_true, decide_eq_true_eq, List.all_eq_true] at h
 exact ⟨h.1, h.2.1, h.2.2.1, h.2.2.2.1, h.2.2.2.2.1⟩
theorem ZkQ (b : BoardD) : ∀ (r pre : List FallD), (pre ++ r).length ≤ 9223372036854775806 → Ev (fun k => Z6W k b.1 b.2.1 b.2.2 (pre ++ r) ((pre ++ r).length : Int) (pre.length : Int)) (if r.all (endOK b) then LR.go () else LR.ret false)
 | [], pre, hl => by
  refine Ev.succ ?_
  simp only [Z6W, Zz, decide_false, Bool.false_eq_true, if_false, List.all_nil, if_true]
  exact Ev.some _
 | x :: r, pre, hl => by
  have ih := ZkQ b r (pre ++ [x]) (by simpa using hl)
  refine Ev.succ ?_
  simp only [Z6W, Zs, ZN, decide_true, if_true, Int.toNat_natCast, Zo]
  rw [Zq pre x r (by omega)]
  rw [← Zh] at ih
  simp only [List.all_cons]
  have hd : endOK b x = (decide (1 ≤ x.1 ∧ x.1 ≤ 3) && decide (0 ≤ x.2.1 ∧ x.2.1 ≤ b.1) && decide (-1 ≤ x.2.2 ∧ x.2.2 ≤ b.2.1)) := rfl
  refine Ev.bind (Z3G _ _ _) (Ev.ite (fun h => ?_) (fun h1 => ?_))
  ·have h := nd (c := 1 ≤ x.1 ∧ x.1 ≤ 3) h
   exact Ev.of (by simp [hd, h])
  refine Ev.bind (Z3G _ _ _) (Ev.ite (fun h => ?_) (fun h2 => ?_))
  ·have h := nd (c := 0 ≤ x.2.1 ∧ x.2.1 ≤ b.1) h
   exact Ev.of (by simp only [hd, h, decide_false, Bool.and_false, Bool.false_and, Bool.false_eq_true, if_false])
  refine Ev.bind (Z3G _ _ _) (Ev.ite (fun h => ?_) (fun h3 => ?_))
  ·have h := nd (c := -1 ≤ x.2.2 ∧ x.2.2 ≤ b.2.1) h
   exact Ev.of (by simp only [hd, h, decide_false, Bool.and_false, Bool.false_and, Bool.false_eq_true, if_false])
  have h1 := yd (c := 1 ≤ x.1 ∧ x.1 ≤ 3) h1
  have h2 := yd (c := 0 ≤ x.2.1 ∧ x.2.1 ≤ b.1) h2
  have h3 := yd (c := -1 ≤ x.2.2 ∧ x.2.2 ≤ b.2.1) h3
  refine ih.congr ?_
  simp only [hd, h1, h2, h3, and_self, decide_true, Bool.true_and]
theorem Z9b (b : BoardD) (t : List Int) (s : List FallD) (hb : b.2.2.length ≤ 9223372036854775806) (ht : t.length ≤ 9223372036854775806) (hs : s.length ≤ 9223372036854775806) : Ev (fun k => Z4t k b t s) (seenOK b t s) := by
 refine Ev.succ ?_
 simp only [Z4t]
 have hdg : Ev (fun k => Zd0 k b) (boardOK b && decide (b.2.2.length ≤ 24)) := by
  refine Ev.succ ?_
  simp only [Zd0]
  refine Ev.bind (ZdR b hb) (Ev.of ?_)
  have : ((b.2.2.length : Int) ≤ 24) ↔ b.2.2.length ≤ 24 := by omega
  cases boardOK b <;> simp [this]
 refine Ev.bind hdg ?_
 unfold seenOK
 rw [← Bool.and_assoc]
 cases h0 : (boardOK b && decide (b.2.2.length ≤ 24)) with
 | false => simp only [Bool.not_false, if_true, Bool.false_and]; exact Ev.some _
 | true =>
  have hbo : boardOK b = true := by rw [Bool.and_eq_true] at h0; exact h0.1
  obtain ⟨g1, g2, g3, g4, g5, g6⟩ := ZH hbo
  simp only [Bool.not_true, Bool.false_eq_true, if_false, Bool.true_and]
  rw [w64 (n := b.2.1 - 1) (by omega) (by omega)]
  refine Ev.ite (fun h => ?_) (fun h => ?_)
  ·simp only [decide_eq_true_eq] at h
   have : ¬ t.length ≤ 20 := by omega
   simp only [this, decide_false, Bool.false_and]
   exact Ev.some _
  simp only [decide_eq_true_eq] at h
  have h20 : t.length ≤ 20 := by omega
  simp only [h20, decide_true, Bool.true_and]
  have hall : (t.all fun n => decide (0 ≤ n ∧ n ≤ b.2.1 - 1)) = (t.all fun c => decide (0 ≤ c ∧ c < b.2.1)) := by
   congr 1
   funext c
   have : (0 ≤ c ∧ c ≤ b.2.1 - 1) ↔ (0 ≤ c ∧ c < b.2.1) := by omega
   simp only [this]
  refine Ev.bind (ZB8 t _ _ ht) ?_
  rw [hall]
  cases h1 : (t.all fun c => decide (0 ≤ c ∧ c < b.2.1)) with
  | false => simp only [Bool.not_false, if_true, Bool.false_and]; exact Ev.some _
  | true =>
   simp only [Bool.not_true, Bool.false_eq_true, if_false, Bool.true_and]
   refine Ev.ite (fun h => ?_) (fun h => ?_)
   ·simp only [decide_eq_true_eq] at h
    have : ¬ s.length = t.length := by omega
    simp only [this, decide_false, Bool.false_and]
    exact Ev.some _
   simp only [decide_eq_true_eq] at h
   have hst : s.length = t.length := by omega
   rw [decide_eq_true hst, Bool.true_and]
   refine Ev.bind (ZkQ b s [] (by simpa using hs)) ?_
   cases s.all (endOK b) with
   | true => simp only [if_true]; exact Ev.go (Ev.some _)
   | false => simp only [Bool.false_eq_true, if_false]; exact Ev.ret (Ev.some _)
theorem Zlk (b : BoardD) : ∀ (r pre : List FallD), (pre ++ r).length ≤ 9223372036854775806 → Ev (fun k => Z78 k b.1 b.2.1 b.2.2 (pre ++ r) ((pre ++ r).length : Int) (pre.length : Int)) (if r.all (endOK b) then LR.go () else LR.ret false)
 | [], pre, hl => by
  refine Ev.succ ?_
  simp only [Z78, Zz, decide_false, Bool.false_eq_true, if_false, List.all_nil, if_true]
  exact Ev.some _
 | x :: r, pre, hl => by
  have ih := Zlk b r (pre ++ [x]) (by simpa using hl)
  refine Ev.succ ?_
  simp only [Z78, Zs, ZN, decide_true, if_true, Int.toNat_natCast, Zo]
  rw [Zq pre x r (by omega)]
  rw [← Zh] at ih
  simp only [List.all_cons]
  have hd : endOK b x = decide (1 ≤ x.1 ∧ x.1 ≤ 3 ∧ 0 ≤ x.2.1 ∧ x.2.1 ≤ b.1 ∧ -1 ≤ x.2.2 ∧ x.2.2 ≤ b.2.1) := by
   unfold endOK
   rw [← Bool.decide_and, ← Bool.decide_and]
   exact decide_eq_decide.2 (by omega)
  have no : ¬ (1 ≤ x.1 ∧ x.1 ≤ 3 ∧ 0 ≤ x.2.1 ∧ x.2.1 ≤ b.1 ∧ -1 ≤ x.2.2 ∧ x.2.2 ≤ b.2.1) → (if (endOK b x && r.all (endOK b)) = true then LR.go () else LR.ret false : LR Unit Bool) = LR.ret false := by
   intro h
   simp only [hd, h, decide_false, Bool.false_and, Bool.false_eq_true, if_false]
  refine Ev.ite (fun h => Ev.of ?_) (fun a1 => Ev.ite (fun h => Ev.of ?_) (fun a2 => Ev.ite (fun h => Ev.of ?_) (fun a3 => Ev.ite (fun h => Ev.of ?_) (fun a4 => Ev.ite (fun h => Ev.of ?_) (fun a5 => Ev.ite (fun h => Ev.of ?_) (fun a6 => ?_))))))
  all_goals try (simp only [decide_eq_true_eq] at h; exact congrArg some (no (by omega)).symm)
  simp only [decide_eq_true_eq] at a1 a2 a3 a4 a5 a6
  have : 1 ≤ x.1 ∧ x.1 ≤ 3 ∧ 0 ≤ x.2.1 ∧ x.2.1 ≤ b.1 ∧ -1 ≤ x.2.2 ∧ x.2.2 ≤ b.2.1 := by omega
  refine ih.congr ?_
  simp only [hd, decide_eq_true this, Bool.true_and]
theorem Zbz (b : BoardD) (t : List Int) (s : List FallD) (hb : b.2.2.length ≤ 9223372036854775806) (ht : t.length ≤ 9223372036854775806) (hs : s.length ≤ 9223372036854775806) : Ev (fun k => Z5B k b t s) (seenOK b t s) := by
 refine Ev.succ ?_
 simp only [Z5B]
 refine Ev.bind (Zqm b t hb ht) ?_
 unfold seenOK
 have no : ∀ {p q r : Bool} {c : Bool}, (p && (q && (r && (c && (decide (s.length = t.length) && s.all (endOK b)))))) = true → p = true ∧ q = true ∧ r = true ∧ c = true ∧ s.length = t.length ∧ s.all (endOK b) = true := by
  intro p q r c h
  simp only [Bool.and_eq_true, decide_eq_true_eq] at h
  exact ⟨h.1, h.2.1, h.2.2.1, h.2.2.2.1, h.2.2.2.2.1, h.2.2.2.2.2⟩
 generalize hv : (boardOK b && (decide (b.2.2.length ≤ 24) && (decide (t.length ≤ 20) && ((t.all fun c => decide (0 ≤ c ∧ c < b.2.1)) && (decide (s.length = t.length) && s.all (endOK b)))))) = v
 have out : (∀ (h1 : boardOK b = true) (h2 : b.2.2.length ≤ 24) (h3 : t.length ≤ 20) (h4 : (t.all fun c => decide (0 ≤ c ∧ c < b.2.1)) = true) (h5 : s.length = t.length) (h6 : s.all (endOK b) = true), False) → v = false := by
  intro h
  cases hb : v with
  | false => rfl
  | true =>
   rw [hb] at hv
   obtain ⟨a1, a2, a3, a4, a5, a6⟩ := no hv
   exact (h a1 (of_decide_eq_true a2) (of_decide_eq_true a3) a4 a5 a6).elim
 refine Ev.ite (fun h => ?_) (fun h => ?_)
 ·rw [out (fun h1 h2 h3 h4 h5 h6 => by
   have h3' : t.length ≤ 60 := by omega
   rw [h1, h4, decide_eq_true h3'] at h
   cases h)]
  exact Ev.some _
 simp only [Bool.not_eq_true, Bool.not_eq_false', Bool.and_eq_true, decide_eq_true_eq] at h
 obtain ⟨⟨a1, a2⟩, a3⟩ := h
 refine Ev.ite (fun h => ?_) (fun h => ?_)
 ·simp only [decide_eq_true_eq] at h
  rw [out (fun h1 h2 h3 h4 h5 h6 => by omega)]
  exact Ev.some _
 refine Ev.ite (fun h' => ?_) (fun h' => ?_)
 ·simp only [decide_eq_true_eq] at h'
  rw [out (fun h1 h2 h3 h4 h5 h6 => by omega)]
  exact Ev.some _
 refine Ev.ite (fun h'' => ?_) (fun h'' => ?_)
 ·simp only [decide_eq_true_eq] at h''
  rw [out (fun h1 h2 h3 h4 h5 h6 => by omega)]
  exact Ev.some _
 simp only [decide_eq_true_eq] at h h' h''
 have b2 : b.2.2.length ≤ 24 := by omega
 have b3 : t.length ≤ 20 := by omega
 have b5 : s.length = t.length := by omega
 rw [a1, a3, decide_eq_true b2, decide_eq_true b3, decide_eq_true b5, Bool.true_and, Bool.true_and, Bool.true_and, Bool.true_and, Bool.true_and] at hv
 subst hv
 refine Ev.bind (Zlk b s [] (by simpa using hs)) ?_
 cases s.all (endOK b) with
 | true => simp only [if_true]; exact Ev.go (Ev.some _)
 | false => simp only [Bool.false_eq_true, if_false]; exact Ev.ret (Ev.some _)
def endsOf (b : BoardD) (l : List FaultD) (t : List Int) : List FallD := (runsOf b (groupsOf b) (kindsB b l) t b.2.2).1
theorem Z6w (b : BoardD) (l : List FaultD) (t : List Int) : (endsOf b l t).length = t.length := ZxM _ _ _ _ _
theorem Z7D (b : BoardD) (hb : boardOK b = true) (l : List FaultD) (hl : faultsOK b (-1) l = true) (hll : l.length ≤ 9223372036854775806) (t : List Int) (ht : t.length ≤ 1000) (hc : colsOK b t) (s : List FallD) (hs : s.length = t.length) : Ev (fun k => Z34 k b l t s) (decide (endsOf b l t = s)) := by
 refine Ev.succ ?_
 simp only [Z34]
 have he := Z6w b l t
 refine Ev.bind (ZcB b hb l hl hll t ht hc) (Ev.bind (ZzP (endsOf b l t) s (by omega) (by omega)) (Ev.of ?_))
 congr 1
 exact decide_eq_decide.2 ((ZFc _).trans (ZlA 0 _ _ (by omega)))
theorem Z5S (b : BoardD) (hb : boardOK b = true) (l : List FaultD) (hl : faultsOK b (-1) l = true) (hll : l.length ≤ 9223372036854775806) (t : List Int) (ht : t.length ≤ 1000) (hc : colsOK b t) (s : List FallD) : Ev (fun k => Z2b k b l t s) (decide (endsOf b l t = s)) := by
 refine Ev.succ ?_
 simp only [Z2b]
 have he := Z6w b l t
 exact Ev.bind (Zst b hb l hl hll t ht hc) (Ev.bind (Zdl (endsOf b l t) s (by omega)) (Ev.some _))
end Go.Proofs.Ytgjmhbjdhihgaaa.Vs
