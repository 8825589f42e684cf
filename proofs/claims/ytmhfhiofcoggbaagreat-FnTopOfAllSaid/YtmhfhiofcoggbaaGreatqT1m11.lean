/- The proof, part 12. -/
import Derived.Test.YtmhfhiofcoggbaaGreatqT1m10
set_option linter.unusedVariables false
set_option linter.unusedSimpArgs false
namespace Go.Proofs.YtmhfhiofcoggbaaGreat.Vs
open Go.RowKit
section
abbrev ChD := Int × Int × List (Int × Int) × List Int × List Int
theorem ZI7 {α : Type} (pre r : List α) : List.take (Int.toNat (pre.length : Int) - Int.toNat 0) (List.drop (Int.toNat 0) (pre ++ r)) = pre := by simp
theorem Zuq (x : CellD) : ∀ (r pre : List CellD), (pre ++ r).length ≤ 1000000 → ∃ v, Ev (fun k => Zf k x.1 x.2 (pre ++ r) ((pre ++ r).length : Int) (pre.length : Int)) v ∧ ((x ∈ r ∧ ∃ m : Nat, v = LR.ret (m : Int)) ∨ (x ∉ r ∧ v = LR.go ()))
 | [], pre, hl => ⟨LR.go (), by
  refine Ev.succ ?_
  simp only [Zf, Za, decide_false, Bool.false_eq_true, if_false]
  exact Ev.some _, .inr ⟨by simp, rfl⟩⟩
 | y :: r, pre, hl => by
  obtain ⟨v, hv, hc⟩ := Zuq x r (pre ++ [y]) (by simpa using hl)
  have e : (decide (x.1 = y.1) && (decide (x.2 = y.2) && true)) = decide (x = y) := by
   rw [Bool.eq_iff_iff]
   simp [Prod.ext_iff]
  by_cases hxy : x = y
  ·refine ⟨LR.ret (pre.length : Int), ?_, .inl ⟨by simp [hxy], _, rfl⟩⟩
   refine Ev.succ ?_
   simp only [Zf, Z8, Ze, decide_true, if_true, Int.toNat_natCast, Z3]
   rw [e, decide_eq_true hxy]
   simp only [if_true]
   exact Ev.some _
  ·refine ⟨v, ?_, ?_⟩
   ·refine Ev.succ ?_
    simp only [Zf, Z8, Ze, decide_true, if_true, Int.toNat_natCast, Z3]
    rw [e, decide_eq_false hxy, Z7 pre y r (by omega)]
    rw [← Z1] at hv
    simp only [Bool.false_eq_true, if_false]
    exact hv
   ·rcases hc with ⟨h1, h2⟩ | ⟨h1, h2⟩
    ·exact .inl ⟨List.mem_cons_of_mem _ h1, h2⟩
    ·exact .inr ⟨by simp [hxy, h1], h2⟩
theorem ZpQ (l : List CellD) (x : CellD) (hl : l.length ≤ 1000000) : Ev (fun k => ZI k l x) (decide (x ∈ l)) := by
 obtain ⟨v, hv, hc⟩ := Zuq x l [] (by simpa using hl)
 simp only [List.nil_append, List.length_nil, Int.natCast_zero] at hv
 refine Ev.succ ?_
 simp only [ZI]
 rcases hc with ⟨h1, m, rfl⟩ | ⟨h1, rfl⟩
 ·have e1 : Ev (fun k => Zy k l x) (m : Int) := by
   refine Ev.succ ?_
   simp only [Zy]
   exact Ev.bind hv (Ev.ret (Ev.some _))
  refine Ev.bind e1 ((Ev.some _).congr ?_)
  rw [decide_eq_true h1]
  exact decide_eq_true (by omega)
 ·have e1 : Ev (fun k => Zy k l x) (-1) := by
   refine Ev.succ ?_
   simp only [Zy]
   exact Ev.bind hv (Ev.go (Ev.some _))
  refine Ev.bind e1 ((Ev.some _).congr ?_)
  rw [decide_eq_false h1]
  exact decide_eq_false (by omega)
def partsOK : List CellD → List CellD → Bool
 | _, [] => true
 | pre, x :: r => cellOK x && (!decide (x.1 = 0) && (!decide (x ∈ pre) && partsOK (pre ++ [x]) r))
def triedOf (c : ChD) : Int := ((c.2.2.1.length : Int) + 1) ^ (c.1 * c.2.1).toNat
def sizesOK (c : ChD) : Bool := decide (1 ≤ c.1 ∧ c.1 ≤ 4 ∧ 1 ≤ c.2.1 ∧ c.2.1 ≤ 4 ∧ 1 ≤ c.2.2.1.length ∧ c.2.2.1.length ≤ 6 ∧ 1 ≤ c.2.2.2.1.length ∧ c.2.2.2.1.length ≤ 8 ∧ c.2.2.2.2.length = c.2.2.2.1.length)
def challOK (c : ChD) : Bool := sizesOK c && (partsOK [] c.2.2.1 && ((c.2.2.2.1.all fun e => decide (0 ≤ e ∧ e ≤ c.2.1 - 1)) && ((c.2.2.2.2.all fun e => decide (0 ≤ e ∧ e ≤ c.2.1 + 1)) && decide (triedOf c ≤ 7000))))
theorem Zhx (c : ChD) : ∀ (r pre : List CellD), c.2.2.1 = pre ++ r → (pre ++ r).length ≤ 1000000 →
  Ev (fun k => Z3h k c.1 c.2.1 c.2.2.1 c.2.2.2.1 c.2.2.2.2 (pre ++ r) ((pre ++ r).length : Int) (pre.length : Int)) (if partsOK pre r = true then LR.go c else LR.ret false)
 | [], pre, hc, hl => by
  refine Ev.succ ?_
  simp only [Z3h, Za, decide_false, Bool.false_eq_true, if_false, partsOK, if_true]
  exact Ev.some _
 | x :: r, pre, hc, hl => by
  have ih := Zhx c r (pre ++ [x]) (by rw [hc]; simp) (by simpa using hl)
  have hle : (pre.length : Int) ≤ (c.2.2.1.length : Int) := by rw [hc]; simp; omega
  have htk : List.take (Int.toNat (pre.length : Int) - Int.toNat 0) (List.drop (Int.toNat 0) c.2.2.1) = pre := by rw [hc]; exact ZI7 _ _
  refine Ev.succ ?_
  simp only [Z3h, Z8, Ze, hle, decide_true, if_true, Int.toNat_natCast, Z3, partsOK]
  refine Ev.bind (ZfW x) ?_
  by_cases h1 : cellOK x = false
  ·simp only [h1, Bool.not_false, if_true, Bool.false_and, Bool.false_eq_true, if_false]; exact Ev.some _
  ·have h1 : cellOK x = true := by simpa using h1
   simp only [h1, Bool.not_true, Bool.false_eq_true, if_false, Bool.true_and]
   by_cases h2 : x.1 = 0
   ·simp only [h2, decide_true, if_true, Bool.not_true, Bool.false_and, Bool.false_eq_true, if_false]; exact Ev.some _
   ·simp only [h2, decide_false, Bool.false_eq_true, if_false, Bool.not_false, Bool.true_and]
    simp only [Int.toNat_natCast] at htk
    rw [htk]
    refine Ev.bind (ZpQ pre x (by simp at hl; omega)) ?_
    by_cases h3 : x ∈ pre
    ·simp only [h3, decide_true, if_true, Bool.not_true, Bool.false_and, Bool.false_eq_true, if_false]; exact Ev.some _
    ·simp only [h3, decide_false, Bool.false_eq_true, if_false, Bool.not_false, Bool.true_and]
     rw [Z7 pre x r (by omega)]
     rw [← Z1] at ih
     exact ih
theorem ZnK (c : ChD) (x : CellD) (v8 : List CellD) (v9 v10 : Int) : ∀ (r pre : List CellD), (pre ++ r).length ≤ 1000000 →
  Ev (fun k => Z84 k c.1 c.2.1 c.2.2.1 c.2.2.2.1 c.2.2.2.2 x.1 x.2 v8 v9 v10 (pre ++ r) ((pre ++ r).length : Int) (pre.length : Int)) (if decide (x ∈ r) = true then LR.ret false else LR.go (c.1, c.2.1, c.2.2.1, c.2.2.2.1, c.2.2.2.2, v8, v9, v10))
 | [], pre, hl => by
  refine Ev.succ ?_
  simp only [Z84, Za, decide_false, Bool.false_eq_true, if_false, List.not_mem_nil]
  exact Ev.some _
 | y :: r, pre, hl => by
  have ih := ZnK c x v8 v9 v10 r (pre ++ [y]) (by simpa using hl)
  have e : (decide (x.1 = y.1) && (decide (x.2 = y.2) && true)) = decide (x = y) := by
   rw [Bool.eq_iff_iff]
   simp [Prod.ext_iff]
  refine Ev.succ ?_
  simp only [Z84, Z8, Ze, decide_true, if_true, Int.toNat_natCast, Z3]
  rw [e]
  by_cases hxy : x = y
  ·simp only [hxy, decide_true, if_true, List.mem_cons, true_or]; exact Ev.some _
  ·rw [Z7 pre y r (by omega)]
   rw [← Z1] at ih
   simp only [hxy, decide_false, Bool.false_eq_true, if_false, List.mem_cons, false_or]
   exact ih
theorem Zny (c : ChD) : ∀ (r pre : List CellD), c.2.2.1 = pre ++ r → (pre ++ r).length ≤ 1000000 →
  Ev (fun k => Z7I k c.1 c.2.1 c.2.2.1 c.2.2.2.1 c.2.2.2.2 (pre ++ r) ((pre ++ r).length : Int) (pre.length : Int)) (if partsOK pre r = true then LR.go c else LR.ret false)
 | [], pre, hc, hl => by
  refine Ev.succ ?_
  simp only [Z7I, Za, decide_false, Bool.false_eq_true, if_false, partsOK, if_true]
  exact Ev.some _
 | x :: r, pre, hc, hl => by
  have ih := Zny c r (pre ++ [x]) (by rw [hc]; simp) (by simpa using hl)
  have hle : (pre.length : Int) ≤ (c.2.2.1.length : Int) := by rw [hc]; simp; omega
  have htk : List.take (Int.toNat (pre.length : Int) - Int.toNat 0) (List.drop (Int.toNat 0) c.2.2.1) = pre := by rw [hc]; exact ZI7 _ _
  have e2 := ZnK c x (pre ++ x :: r) ((pre ++ x :: r).length : Int) (pre.length : Int) pre [] (by simp at hl ⊢; omega)
  simp only [List.nil_append, List.length_nil, Int.natCast_zero] at e2
  refine Ev.succ ?_
  simp only [Z7I, Z8, Ze, hle, decide_true, if_true, Int.toNat_natCast, Z3, partsOK]
  refine Ev.bind (Ztm x) ?_
  by_cases h1 : cellOK x = false
  ·simp only [h1, Bool.not_false, if_true, Bool.false_and, Bool.false_eq_true, if_false]; exact Ev.some _
  ·have h1 : cellOK x = true := by simpa using h1
   simp only [h1, Bool.not_true, Bool.false_eq_true, if_false, Bool.true_and]
   by_cases h2 : x.1 = 0
   ·simp only [h2, decide_true, if_true, Bool.not_true, Bool.false_and, Bool.false_eq_true, if_false]; exact Ev.some _
   ·simp only [h2, decide_false, Bool.false_eq_true, if_false, Bool.not_false, Bool.true_and]
    simp only [Int.toNat_natCast] at htk
    rw [htk]
    refine Ev.bind e2 ?_
    by_cases h3 : x ∈ pre
    ·simp only [h3, decide_true, if_true, Bool.not_true, Bool.false_and, Bool.false_eq_true, if_false]
     exact Ev.ret (Ev.some _)
    ·simp only [h3, decide_false, Bool.false_eq_true, if_false, Bool.not_false, Bool.true_and]
     refine Ev.go ?_
     simp only []
     rw [Z7 pre x r (by omega)]
     rw [← Z1] at ih
     exact ih
end
section
def endsB (C : Int) : List Int → List Int → Bool
 | x :: r, y :: s => (decide (0 ≤ x ∧ x ≤ C - 1) && decide (0 ≤ y ∧ y ≤ C + 1)) && endsB C r s
 | _, _ => true
theorem ZFQ (C : Int) : ∀ (r s : List Int), s.length = r.length → endsB C r s = ((r.all fun e => decide (0 ≤ e ∧ e ≤ C - 1)) && (s.all fun e => decide (0 ≤ e ∧ e ≤ C + 1)))
 | [], [], _ => rfl
 | [], _ :: _, h => by simp at h
 | _ :: _, [], h => by simp at h
 | x :: r, y :: s, h => by
  have ih := ZFQ C r s (by simpa using h)
  simp only [endsB, List.all_cons, ih]
  cases decide (0 ≤ x ∧ x ≤ C - 1) <;> cases decide (0 ≤ y ∧ y ≤ C + 1) <;> simp
theorem ZhH (c : ChD) (hC : 1 ≤ c.2.1 ∧ c.2.1 ≤ 4) : ∀ (r pre s q : List Int), c.2.2.2.2 = q ++ s → s.length = r.length → q.length = pre.length → (pre ++ r).length ≤ 1000000 →
  Ev (fun k => Z3y k c.1 c.2.1 c.2.2.1 c.2.2.2.1 c.2.2.2.2 (pre ++ r) ((pre ++ r).length : Int) (pre.length : Int)) (if endsB c.2.1 r s = true then LR.go c else LR.ret false)
 | [], pre, s, q, hs, h1, h2, hl => by
  refine Ev.succ ?_
  simp only [Z3y, Za, decide_false, Bool.false_eq_true, if_false, endsB, if_true]
  exact Ev.some _
 | x :: r, pre, [], q, hs, h1, h2, hl => by simp at h1
 | x :: r, pre, y :: s, q, hs, h1, h2, hl => by
  have ih := ZhH c hC r (pre ++ [x]) s (q ++ [y]) (by rw [hs]; simp) (by simpa using h1) (by simpa using h2) (by simpa using hl)
  have hlt : (pre.length : Int) < (c.2.2.2.2.length : Int) := by rw [hs, ← h2]; exact Z8 _ _ _
  have hgd : List.getD c.2.2.2.2 pre.length 0 = y := by rw [hs, ← h2]; exact Z3 _ _ _ _
  refine Ev.succ ?_
  simp only [Z3y, Z8, Ze, hlt, decide_true, if_true, Int.toNat_natCast, Z3, hgd, endsB]
  rw [w64 (n := c.2.1 + 1) (by omega) (by omega)]
  by_cases a1 : x < 0
  ·have e1 : decide (0 ≤ x ∧ x ≤ c.2.1 - 1) = false := decide_eq_false (by omega)
   simp only [e1, a1, decide_true, if_true, Bool.false_and, Bool.false_eq_true, if_false]; exact Ev.some _
  by_cases a2 : x ≥ c.2.1
  ·have e1 : decide (0 ≤ x ∧ x ≤ c.2.1 - 1) = false := decide_eq_false (by omega)
   simp only [e1, a1, a2, decide_true, decide_false, if_true, Bool.false_and, Bool.false_eq_true, if_false]; exact Ev.some _
  have e1 : decide (0 ≤ x ∧ x ≤ c.2.1 - 1) = true := decide_eq_true (by omega)
  by_cases a3 : y < 0
  ·have e2 : decide (0 ≤ y ∧ y ≤ c.2.1 + 1) = false := decide_eq_false (by omega)
   simp only [e1, e2, a1, a2, a3, decide_true, decide_false, if_true, Bool.false_and, Bool.and_false, Bool.false_eq_true, if_false]; exact Ev.some _
  by_cases a4 : y > c.2.1 + 1
  ·have e2 : decide (0 ≤ y ∧ y ≤ c.2.1 + 1) = false := decide_eq_false (by omega)
   simp only [e1, e2, a1, a2, a3, a4, decide_true, decide_false, if_true, Bool.false_and, Bool.and_false, Bool.false_eq_true, if_false]; exact Ev.some _
  have e2 : decide (0 ≤ y ∧ y ≤ c.2.1 + 1) = true := decide_eq_true (by omega)
  simp only [e1, e2, a1, a2, a3, a4, decide_true, decide_false, Bool.true_and, Bool.and_self, Bool.false_eq_true, if_false]
  rw [Z7 pre x r (by omega)]
  rw [← Z1] at ih
  exact ih
theorem ZxY {p : Int} (hp : 1 ≤ p) : ∀ (n : Nat), 1 ≤ p ^ n
 | 0 => by simp
 | n + 1 => by
  have := ZxY hp n
  rw [Int.pow_succ]
  have := Int.mul_le_mul this hp (by omega) (by omega)
  omega
theorem ZrU {m q : Int} (hm : 0 ≤ m) (hq : 1 ≤ q) : m ≤ m * q := by
 have := Int.mul_le_mul_of_nonneg_left hq hm
 simpa using this
theorem ZhI (c : ChD) (hR : 1 ≤ c.1 ∧ c.1 ≤ 4) (hC : 1 ≤ c.2.1 ∧ c.2.1 ≤ 4) (hP : c.2.2.1.length ≤ 6) : ∀ (n : Nat) (v7 v8 : Int), v8 + n = c.1 * c.2.1 → 0 ≤ v8 → 1 ≤ v7 → v7 ≤ 7000 →
  Ev (fun k => Z3q k c.1 c.2.1 c.2.2.1 c.2.2.2.1 c.2.2.2.2 v7 v8) (if decide (v7 * ((c.2.2.1.length : Int) + 1) ^ n ≤ 7000) = true then LR.go () else LR.ret false)
 | 0, v7, v8, hn, h8, h7, h70 => by
  have hm : c.1 * c.2.1 ≤ 4 * 4 := Int.mul_le_mul hR.2 hC.2 (by omega) (by omega)
  refine Ev.succ ?_
  simp only [Z3q]
  rw [w64 (n := c.1 * c.2.1) (by omega) (by omega), decide_eq_false (p := v8 < c.1 * c.2.1) (by omega)]
  rw [Int.pow_zero, Int.mul_one, decide_eq_true h70]
  simp only [Bool.false_eq_true, if_false, if_true]
  exact Ev.some _
 | n + 1, v7, v8, hn, h8, h7, h70 => by
  have hm : c.1 * c.2.1 ≤ 4 * 4 := Int.mul_le_mul hR.2 hC.2 (by omega) (by omega)
  have hp1 : 1 ≤ (c.2.2.1.length : Int) + 1 := by omega
  have hp7 : (c.2.2.1.length : Int) + 1 ≤ 7 := by omega
  have hv : v7 * ((c.2.2.1.length : Int) + 1) ≤ 7000 * 7 := Int.mul_le_mul h70 hp7 (by omega) (by omega)
  have hv1 : v7 ≤ v7 * ((c.2.2.1.length : Int) + 1) := ZrU (by omega) hp1
  have hpw : v7 * ((c.2.2.1.length : Int) + 1) ^ (n + 1) = (v7 * ((c.2.2.1.length : Int) + 1)) * ((c.2.2.1.length : Int) + 1) ^ n := by rw [Int.pow_succ, Int.mul_comm (((c.2.2.1.length : Int) + 1) ^ n), Int.mul_assoc]
  refine Ev.succ ?_
  simp only [Z3q]
  rw [hpw, w64 (n := c.1 * c.2.1) (by omega) (by omega), decide_eq_true (p := v8 < c.1 * c.2.1) (by omega), w64 (n := (c.2.2.1.length : Int) + 1) (by omega) (by omega)]
  generalize hq : v7 * ((c.2.2.1.length : Int) + 1) = q at hv hv1 ⊢
  rw [w64 (n := q) (by omega) (by omega), w64 (n := v8 + 1) (by omega) (by omega)]
  by_cases hb : q > 7000
  ·have := ZrU (m := q) (by omega) (ZxY hp1 n)
   rw [decide_eq_false (p := q * ((c.2.2.1.length : Int) + 1) ^ n ≤ 7000) (by omega)]
   simp only [hb, decide_true, if_true, Bool.false_eq_true, if_false]
   exact Ev.some _
  ·simp only [hb, decide_false, if_true, Bool.false_eq_true, if_false]
   exact ZhI c hR hC hP n q (v8 + 1) (by omega) (by omega) (by omega) (by omega)
theorem Zax (c : ChD) (h1 : c.2.2.1.length ≤ 1000000) (h2 : c.2.2.2.1.length ≤ 1000000) : Ev (fun k => Z35 k c) (challOK c) := by
 refine Ev.succ ?_
 simp only [Z35]
 unfold challOK
 by_cases hs : sizesOK c = true
 ·rw [hs]
  unfold sizesOK at hs
  simp only [decide_eq_true_eq] at hs
  obtain ⟨a1, a2, a3, a4, a5, a6, a7, a8, a9⟩ := hs
  have n1 : ¬ c.1 < 1 := by omega
  have n2 : ¬ c.1 > 4 := by omega
  have n3 : ¬ c.2.1 < 1 := by omega
  have n4 : ¬ c.2.1 > 4 := by omega
  have n5 : ¬ (c.2.2.1.length : Int) < 1 := by omega
  have n6 : ¬ (c.2.2.1.length : Int) > 6 := by omega
  have n7 : ¬ (c.2.2.2.1.length : Int) < 1 := by omega
  have n8 : ¬ (c.2.2.2.1.length : Int) > 8 := by omega
  have n9 : (c.2.2.2.2.length : Int) = (c.2.2.2.1.length : Int) := by omega
  simp only [n1, n2, n3, n4, n5, n6, n7, n8, n9, decide_false, ne_eq, not_true_eq_false, Bool.false_eq_true, if_false, Bool.true_and]
  have e0 := Zhx c c.2.2.1 [] rfl (by simpa using h1)
  have e2 := ZhH c ⟨a3, a4⟩ c.2.2.2.1 [] c.2.2.2.2 [] rfl a9 rfl (by simpa using h2)
  have hm : 1 * 1 ≤ c.1 * c.2.1 := Int.mul_le_mul a1 a3 (by omega) (by omega)
  have e4 := ZhI c ⟨a1, a2⟩ ⟨a3, a4⟩ a6 (c.1 * c.2.1).toNat 1 0 (by omega) (by omega) (by omega) (by omega)
  simp only [List.nil_append, List.length_nil, Int.natCast_zero] at e0 e2
  rw [Int.one_mul] at e4
  rw [ZFQ _ _ _ a9] at e2
  refine Ev.bind e0 ?_
  cases partsOK [] c.2.2.1 with
  | false => simp only [Bool.false_eq_true, if_false, Bool.false_and]; exact Ev.ret (Ev.some _)
  | true =>
   simp only [if_true, Bool.true_and]
   refine Ev.go (Ev.bind e2 ?_)
   rw [← Bool.and_assoc]
   generalize ((c.2.2.2.1.all fun e => decide (0 ≤ e ∧ e ≤ c.2.1 - 1)) && (c.2.2.2.2.all fun e => decide (0 ≤ e ∧ e ≤ c.2.1 + 1))) = u
   cases u with
   | false => simp only [Bool.false_eq_true, if_false, Bool.false_and]; exact Ev.ret (Ev.some _)
   | true =>
    simp only [if_true, Bool.true_and]
    refine Ev.go (Ev.bind e4 ?_)
    show Ev _ (decide (triedOf c ≤ 7000))
    unfold triedOf
    cases decide (((c.2.2.1.length : Int) + 1) ^ (c.1 * c.2.1).toNat ≤ 7000) with
    | false => simp only [Bool.false_eq_true, if_false]; exact Ev.ret (Ev.some _)
    | true => simp only [if_true]; exact Ev.go (Ev.some _)
 ·have hs' : sizesOK c = false := by simpa using hs
  rw [hs', Bool.false_and]
  unfold sizesOK at hs
  simp only [decide_eq_true_eq] at hs
  by_cases n1 : c.1 < 1
  ·simp only [n1, decide_true, if_true]; exact Ev.some _
  by_cases n2 : c.1 > 4
  ·simp only [n1, n2, decide_true, decide_false, Bool.false_eq_true, if_false, if_true]; exact Ev.some _
  by_cases n3 : c.2.1 < 1
  ·simp only [n1, n2, n3, decide_true, decide_false, Bool.false_eq_true, if_false, if_true]; exact Ev.some _
  by_cases n4 : c.2.1 > 4
  ·simp only [n1, n2, n3, n4, decide_true, decide_false, Bool.false_eq_true, if_false, if_true]; exact Ev.some _
  by_cases n5 : (c.2.2.1.length : Int) < 1
  ·simp only [n1, n2, n3, n4, n5, decide_true, decide_false, Bool.false_eq_true, if_false, if_true]; exact Ev.some _
  by_cases n6 : (c.2.2.1.length : Int) > 6
  ·simp only [n1, n2, n3, n4, n5, n6, decide_true, decide_false, Bool.false_eq_true, if_false, if_true]; exact Ev.some _
  by_cases n7 : (c.2.2.2.1.length : Int) < 1
  ·simp only [n1, n2, n3, n4, n5, n6, n7, decide_true, decide_false, Bool.false_eq_true, if_false, if_true]; exact Ev.some _
  by_cases n8 : (c.2.2.2.1.length : Int) > 8
  ·simp only [n1, n2, n3, n4, n5, n6, n7, n8, decide_true, decide_false, Bool.false_eq_true, if_false, if_true]; exact Ev.some _
  have n9 : (c.2.2.2.2.length : Int) ≠ (c.2.2.2.1.length : Int) := fun h => hs (by omega)
  simp only [n1, n2, n3, n4, n5, n6, n7, n8, n9, ne_eq, not_false_eq_true, decide_true, decide_false, Bool.false_eq_true, if_false, if_true]
  exact Ev.some _
end
section
theorem ZmJ {p : Int} (hp : 1 ≤ p) (hp7 : p ≤ 1000000) : ∀ (n : Nat) (v : Int), 1 ≤ v → v ≤ 7000 * 1000000 → n ≤ 1000000 → ∃ o, Ev (fun k => Z4w k p (n : Int) v) o ∧ (v * p ^ n ≤ 7000 → o = v * p ^ n) ∧ (v * p ^ n > 7000 → o > 7000)
 | 0, v, h1, h2, hn => ⟨v, by
  refine Ev.succ ?_
  simp only [Z4w, Int.natCast_zero, gt_iff_lt, Int.lt_irrefl, decide_false, Bool.false_eq_true, if_false]
  exact Ev.some _, by simp, by simp⟩
 | n + 1, v, h1, h2, hn => by
  have hpw : v * p ^ (n + 1) = (v * p) * p ^ n := by rw [Int.pow_succ, Int.mul_comm (p ^ n), Int.mul_assoc]
  have hx : ((n + 1 : Nat) : Int) > 0 := by omega
  by_cases hv : v ≤ 7000
  ·have hv1 : v * p ≤ 7000 * 1000000 := Int.mul_le_mul hv hp7 (by omega) (by omega)
   have hv2 : v ≤ v * p := ZrU (by omega) hp
   obtain ⟨o, ho, c1, c2⟩ := ZmJ hp hp7 n (v * p) (by omega) hv1 (by omega)
   refine ⟨o, ?_, by rw [hpw]; exact c1, by rw [hpw]; exact c2⟩
   refine Ev.succ ?_
   simp only [Z4w, hx, hv, decide_true, if_true]
   generalize hq : v * p = q at hv1 hv2 ho ⊢
   rw [w64 (n := q) (by omega) (by omega), w64 (n := ((n + 1 : Nat) : Int) - 1) (by omega) (by omega), show ((n + 1 : Nat) : Int) - 1 = (n : Int) by omega]
   exact ho
  ·refine ⟨v, ?_, fun h => ?_, fun _ => by omega⟩
   ·refine Ev.succ ?_
    simp only [Z4w, hx, hv, decide_true, decide_false, Bool.false_eq_true, if_false, if_true]
    exact Ev.some _
   ·have := ZrU (m := v) (by omega) (ZxY hp (n + 1))
    omega
theorem Zr9 (c : ChD) (hP : c.2.2.1.length ≤ 1000) (hm0 : 0 ≤ c.1 * c.2.1) (hm : c.1 * c.2.1 ≤ 1000000) : ∃ o, Ev (fun k => Z9d k c) o ∧ (triedOf c ≤ 7000 → o = triedOf c) ∧ (triedOf c > 7000 → o > 7000) := by
 obtain ⟨o, ho, c1, c2⟩ := ZmJ (p := (c.2.2.1.length : Int) + 1) (by omega) (by omega) (c.1 * c.2.1).toNat 1 (by omega) (by omega) (by omega)
 rw [Int.one_mul] at c1 c2
 rw [Int.toNat_of_nonneg hm0] at ho
 refine ⟨o, ?_, c1, c2⟩
 refine Ev.succ ?_
 simp only [Z9d]
 rw [w64 (n := c.1 * c.2.1) (by omega) (by omega), w64 (n := (c.2.2.1.length : Int) + 1) (by omega) (by omega)]
 refine Ev.bind (a := o) ?_ (Ev.some _)
 refine Ev.succ ?_
 simp only [Zjy]
 exact Ev.bind ho (Ev.some _)
theorem Zuk (c : ChD) (h1 : c.2.2.1.length ≤ 1000000) (h2 : c.2.2.2.1.length ≤ 1000000) (h3 : c.2.2.2.2.length ≤ 1000000) : Ev (fun k => Zda k c) (challOK c) := by
 have e0 := Zny c c.2.2.1 [] rfl (by simpa using h1)
 simp only [List.nil_append, List.length_nil, Int.natCast_zero] at e0
 refine Ev.succ ?_
 simp only [Zda]
 unfold challOK
 refine Ev.bind e0 ?_
 by_cases hp : partsOK [] c.2.2.1 = true
 ·rw [if_pos hp, hp]
  refine Ev.go ?_
  refine Ev.bind (Z1o c.1 1 4) ?_
  by_cases q1 : 1 ≤ c.1 ∧ c.1 ≤ 4
  ·simp only [q1, and_self, decide_true, Bool.not_true, Bool.false_eq_true, if_false]
   refine Ev.bind (Z1o c.2.1 1 4) ?_
   by_cases q2 : 1 ≤ c.2.1 ∧ c.2.1 ≤ 4
   ·simp only [q2, and_self, decide_true, Bool.not_true, Bool.false_eq_true, if_false]
    refine Ev.bind (Z1o (c.2.2.1.length : Int) 1 6) ?_
    by_cases q3 : 1 ≤ (c.2.2.1.length : Int) ∧ (c.2.2.1.length : Int) ≤ 6
    ·simp only [q3, and_self, decide_true, Bool.not_true, Bool.false_eq_true, if_false]
     refine Ev.bind (Z1o (c.2.2.2.1.length : Int) 1 8) ?_
     by_cases q4 : 1 ≤ (c.2.2.2.1.length : Int) ∧ (c.2.2.2.1.length : Int) ≤ 8
     ·by_cases q5 : (c.2.2.2.2.length : Int) = (c.2.2.2.1.length : Int)
      ·have hs : sizesOK c = true := by
        unfold sizesOK
        exact decide_eq_true (by omega)
       rw [hs]
       simp only [q1, q2, q3, q4, q5, and_self, decide_true, Bool.not_true, Bool.false_eq_true, if_false, ne_eq, not_true_eq_false, decide_false, Bool.true_and]
       rw [w64 (n := c.2.1 - 1) (by omega) (by omega), w64 (n := c.2.1 + 1) (by omega) (by omega)]
       refine Ev.bind (ZhY c.2.2.2.1 0 (c.2.1 - 1) (by omega)) ?_
       cases (c.2.2.2.1.all fun e => decide (0 ≤ e ∧ e ≤ c.2.1 - 1)) with
       | false => simp only [Bool.false_eq_true, if_false, Bool.false_and]; exact Ev.some _
       | true =>
        simp only [if_true, Bool.true_and]
        refine Ev.bind (ZhY c.2.2.2.2 0 (c.2.1 + 1) (by omega)) ?_
        cases (c.2.2.2.2.all fun e => decide (0 ≤ e ∧ e ≤ c.2.1 + 1)) with
        | false => simp only [Bool.false_eq_true, if_false, Bool.false_and]; exact Ev.some _
        | true =>
         simp only [if_true, Bool.true_and]
         have hm : c.1 * c.2.1 ≤ 4 * 4 := Int.mul_le_mul q1.2 q2.2 (by omega) (by omega)
         have hm0 : 1 * 1 ≤ c.1 * c.2.1 := Int.mul_le_mul q1.1 q2.1 (by omega) (by omega)
         obtain ⟨o, ho, c1, c2⟩ := Zr9 c (by omega) (by omega) (by omega)
         refine Ev.bind ho ((Ev.some _).congr ?_)
         by_cases ht : triedOf c ≤ 7000
         ·rw [decide_eq_true ht, c1 ht]; exact decide_eq_true ht
         ·rw [decide_eq_false ht]; exact decide_eq_false (by have := c2 (by omega); omega)
      ·have hs : sizesOK c = false := by
        unfold sizesOK
        exact decide_eq_false (by omega)
       rw [hs]
       simp only [q1, q2, q3, q4, q5, and_self, decide_true, Bool.not_true, Bool.false_eq_true, if_false, ne_eq, not_false_eq_true, if_true, Bool.false_and]
       exact Ev.some _
     ·have hs : sizesOK c = false := by
       unfold sizesOK
       exact decide_eq_false (by omega)
      rw [hs]
      simp only [q1, q2, q3, q4, and_self, decide_true, decide_false, Bool.not_true, Bool.not_false, Bool.false_eq_true, if_false, if_true, Bool.false_and]
      exact Ev.some _
    ·have hs : sizesOK c = false := by
      unfold sizesOK
      exact decide_eq_false (by omega)
     rw [hs]
     simp only [q1, q2, q3, and_self, decide_true, decide_false, Bool.not_true, Bool.not_false, Bool.false_eq_true, if_false, if_true, Bool.false_and]
     exact Ev.some _
   ·have hs : sizesOK c = false := by
     unfold sizesOK
     exact decide_eq_false (by omega)
    rw [hs]
    simp only [q1, q2, and_self, decide_true, decide_false, Bool.not_true, Bool.not_false, Bool.false_eq_true, if_false, if_true, Bool.false_and]
    exact Ev.some _
  ·have hs : sizesOK c = false := by
    unfold sizesOK
    exact decide_eq_false (by omega)
   rw [hs]
   simp only [q1, decide_false, Bool.not_false, Bool.false_eq_true, if_true, Bool.false_and]
   exact Ev.some _
 ·have hp' : partsOK [] c.2.2.1 = false := by simpa using hp
  rw [if_neg hp, hp', Bool.false_and, Bool.and_false]
  exact Ev.ret (Ev.some _)
end
section
def digitCell (P : List CellD) (d : Int) : CellD := if d > 0 then List.getD P (d - 1).toNat (0, 0) else (0, 0)
def cellsOf (P : List CellD) : Nat → Int → List CellD → List CellD
 | 0, _, s => s
 | i + 1, n, s => cellsOf P i (n.tdiv ((P.length : Int) + 1)) (digitCell P (n.tmod ((P.length : Int) + 1)) :: s)
def boardAt (c : ChD) (n : Int) : BoardD := (c.1, c.2.1, cellsOf c.2.2.1 (c.1 * c.2.1).toNat n [])
theorem ZAw (P : List CellD) : ∀ (i : Nat) (n : Int) (s : List CellD), (cellsOf P i n s).length = i + s.length
 | 0, n, s => by simp [cellsOf]
 | i + 1, n, s => by rw [cellsOf, ZAw P i]; simp; omega
theorem ZHd {P : List CellD} {d : Int} (hd : d ≤ (P.length : Int)) : digitCell P d = (0, 0) ∨ digitCell P d ∈ P := by
 unfold digitCell
 split
 ·right
  have h : (d - 1).toNat < P.length := by omega
  rw [List.getD_eq_getElem?_getD, List.getElem?_eq_getElem h]
  exact List.getElem_mem h
 ·exact .inl rfl
theorem Zt1 {n m : Int} (hn : 0 ≤ n) (hm : 0 < m) : 0 ≤ n.tmod m ∧ n.tmod m < m := ⟨Int.tmod_nonneg m hn, Int.tmod_lt_of_pos n hm⟩
theorem ZsC {n m : Int} (hn : 0 ≤ n) (hm : 0 < m) : 0 ≤ n.tdiv m ∧ n.tdiv m ≤ n := by
 rw [Int.tdiv_eq_ediv_of_nonneg hn]
 exact ⟨Int.ediv_nonneg hn (by omega), Int.ediv_le_self m hn⟩
theorem ZAi {P : List CellD} : ∀ (i : Nat) (n : Int) (s : List CellD), 0 ≤ n → (∀ x ∈ s, x = (0, 0) ∨ x ∈ P) → ∀ x ∈ cellsOf P i n s, x = (0, 0) ∨ x ∈ P
 | 0, n, s, hn, hs => hs
 | i + 1, n, s, hn, hs => by
  have h1 := Zt1 (m := (P.length : Int) + 1) hn (by omega)
  have h2 := ZsC (m := (P.length : Int) + 1) hn (by omega)
  refine ZAi i _ _ h2.1 ?_
  intro x hx
  rcases List.mem_cons.1 hx with rfl | hx
  ·exact ZHd (by omega)
  ·exact hs x hx
theorem ZIJ {i : Nat} (s : List CellD) (x : CellD) : List.set (List.replicate (i + 1) ((0 : Int), (0 : Int)) ++ s) i x = List.replicate i (0, 0) ++ x :: s := by
 have h : (List.replicate (i + 1) ((0 : Int), (0 : Int)) ++ s) = List.replicate i (0, 0) ++ (0, 0) :: s := by
  rw [List.replicate_succ']
  simp
 rw [h]
 simp
theorem ZFV {i : Nat} (s : List CellD) : (List.replicate (i + 1) ((0 : Int), (0 : Int)) ++ s) = List.replicate i (0, 0) ++ (0, 0) :: s := by
 rw [List.replicate_succ']
 simp
theorem ZlY (c : ChD) (b20 b21 : Int) (o3 : List CellD) (b40 b41 : Int) (hP : c.2.2.1.length ≤ 1000) : ∀ (i : Nat) (n : Int) (s : List CellD), 0 ≤ n → n ≤ 1000000 → i ≤ 1000 →
  Ev (fun k => Z4q k c.1 c.2.1 c.2.2.1 c.2.2.2.1 c.2.2.2.2 b20 b21 o3 b40 b41 (List.replicate i (0, 0) ++ s) n ((i : Int) - 1)) (b20, b21, o3, b40, b41, cellsOf c.2.2.1 i n s)
 | 0, n, s, h0, h1, hi => by
  refine Ev.succ ?_
  simp only [Z4q]
  rw [decide_eq_false (p := ((0 : Nat) : Int) - 1 ≥ 0) (by omega)]
  simp only [Bool.false_eq_true, if_false, List.replicate_zero, List.nil_append, cellsOf]
  exact Ev.some _
 | i + 1, n, s, h0, h1, hi => by
  have hm := Zt1 (m := (c.2.2.1.length : Int) + 1) h0 (by omega)
  have hd := ZsC (m := (c.2.2.1.length : Int) + 1) h0 (by omega)
  have ih := ZlY c b20 b21 o3 b40 b41 hP i (n.tdiv ((c.2.2.1.length : Int) + 1)) (digitCell c.2.2.1 (n.tmod ((c.2.2.1.length : Int) + 1)) :: s) hd.1 (by omega) (by omega)
  have hs : ((i + 1 : Nat) : Int) - 1 = (i : Int) := by omega
  refine Ev.succ ?_
  simp only [Z4q, ZEJ, hs]
  rw [w64 (n := (c.2.2.1.length : Int) + 1) (by omega) (by omega)]
  generalize hM : (c.2.2.1.length : Int) + 1 = M at hm hd ih ⊢
  rw [w64 (n := n.tmod M - 1) (by omega) (by omega), w64 (n := n.tdiv M) (by omega) (by omega), w64 (n := (i : Int) - 1) (by omega) (by omega)]
  have g1 : (i : Int) ≥ 0 := by omega
  have g2 : ¬ M = 0 := by omega
  simp only [g1, g2, decide_true, if_true, if_false]
  show Ev _ (b20, b21, o3, b40, b41, cellsOf c.2.2.1 i (n.tdiv ((c.2.2.1.length : Int) + 1)) (digitCell c.2.2.1 (n.tmod ((c.2.2.1.length : Int) + 1)) :: s))
  rw [hM]
  by_cases hk : n.tmod M > 0
  ·have q1 : (0 : Int) ≤ n.tmod M - 1 := by omega
   have q2 : n.tmod M - 1 < (c.2.2.1.length : Int) := by omega
   have q3 : (0 : Int) ≤ (i : Int) := by omega
   have q4 : (i : Int) < (((List.replicate (i + 1) ((0 : Int), (0 : Int)) ++ s).length : Nat) : Int) := by simp; omega
   simp only [hk, q1, q2, q3, q4, decide_true, if_true, Int.toNat_natCast]
   rw [ZIJ]
   unfold digitCell at ih ⊢
   rw [if_pos hk] at ih ⊢
   exact ih
  ·simp only [hk, decide_false, Bool.false_eq_true, if_false]
   rw [ZFV]
   unfold digitCell at ih ⊢
   rw [if_neg hk] at ih ⊢
   exact ih
theorem Zme (c : ChD) (b20 b21 : Int) (o3 : List CellD) (b40 b41 : Int) (hP : c.2.2.1.length ≤ 1000) : ∀ (i : Nat) (n : Int) (s : List CellD), 0 ≤ n → n ≤ 1000000 → i ≤ 1000 →
  Ev (fun k => Z4p k c.1 c.2.1 c.2.2.1 c.2.2.2.1 c.2.2.2.2 b20 b21 o3 b40 b41 (List.replicate i (0, 0) ++ s) n ((i : Int) - 1)) (b20, b21, o3, b40, b41, cellsOf c.2.2.1 i n s)
 | 0, n, s, h0, h1, hi => by
  refine Ev.succ ?_
  simp only [Z4p]
  rw [decide_eq_false (p := ((0 : Nat) : Int) - 1 ≥ 0) (by omega)]
  simp only [Bool.false_eq_true, if_false, List.replicate_zero, List.nil_append, cellsOf]
  exact Ev.some _
 | i + 1, n, s, h0, h1, hi => by
  have hm := Zt1 (m := (c.2.2.1.length : Int) + 1) h0 (by omega)
  have hd := ZsC (m := (c.2.2.1.length : Int) + 1) h0 (by omega)
  have ih := Zme c b20 b21 o3 b40 b41 hP i (n.tdiv ((c.2.2.1.length : Int) + 1)) (digitCell c.2.2.1 (n.tmod ((c.2.2.1.length : Int) + 1)) :: s) hd.1 (by omega) (by omega)
  have hs : ((i + 1 : Nat) : Int) - 1 = (i : Int) := by omega
  refine Ev.succ ?_
  simp only [Z4p, ZEJ, hs]
  rw [w64 (n := (c.2.2.1.length : Int) + 1) (by omega) (by omega)]
  generalize hM : (c.2.2.1.length : Int) + 1 = M at hm hd ih ⊢
  rw [w64 (n := n.tmod M - 1) (by omega) (by omega), w64 (n := n.tdiv M) (by omega) (by omega), w64 (n := (i : Int) - 1) (by omega) (by omega)]
  have g1 : (i : Int) ≥ 0 := by omega
  have g2 : ¬ M = 0 := by omega
  simp only [g1, g2, decide_true, if_true, if_false]
  show Ev _ (b20, b21, o3, b40, b41, cellsOf c.2.2.1 i (n.tdiv ((c.2.2.1.length : Int) + 1)) (digitCell c.2.2.1 (n.tmod ((c.2.2.1.length : Int) + 1)) :: s))
  rw [hM]
  by_cases hk : n.tmod M > 0
  ·have q1 : (0 : Int) ≤ n.tmod M - 1 := by omega
   have q2 : n.tmod M - 1 < (c.2.2.1.length : Int) := by omega
   have q3 : (0 : Int) ≤ (i : Int) := by omega
   have q4 : (i : Int) < (((List.replicate (i + 1) ((0 : Int), (0 : Int)) ++ s).length : Nat) : Int) := by simp; omega
   simp only [hk, q1, q2, q3, q4, decide_true, if_true, Int.toNat_natCast]
   rw [ZIJ]
   unfold digitCell at ih ⊢
   rw [if_pos hk] at ih ⊢
   exact ih
  ·simp only [hk, decide_false, Bool.false_eq_true, if_false]
   rw [ZFV]
   unfold digitCell at ih ⊢
   rw [if_neg hk] at ih ⊢
   exact ih
theorem ZF0 (c : ChD) (hP : c.2.2.1.length ≤ 1000) (h0 : 0 ≤ c.1 * c.2.1) (h1 : c.1 * c.2.1 ≤ 1000) (n : Int) (hn : 0 ≤ n) (hn2 : n ≤ 1000000) : Ev (fun k => Zeo k c n) (boardAt c n) := by
 have e0 := ZlY c 0 0 [] c.1 c.2.1 hP (c.1 * c.2.1).toNat n [] hn hn2 (by omega)
 simp only [List.append_nil] at e0
 have g : (c.1 * c.2.1).toNat * 16 ≤ 281474976710656 := by omega
 refine Ev.succ ?_
 simp only [Zeo, Z5g]
 rw [w64 (n := c.1 * c.2.1) (by omega) (by omega)]
 simp only [h0, g, if_true]
 refine Ev.bind (Ev.some _) ?_
 simp only []
 rw [w64 (by simp; omega) (by simp; omega), List.length_replicate]
 exact Ev.bind e0 (Ev.some _)
theorem Zjz (c : ChD) (hP : c.2.2.1.length ≤ 1000) (h0 : 0 ≤ c.1 * c.2.1) (h1 : c.1 * c.2.1 ≤ 1000) (n : Int) (hn : 0 ≤ n) (hn2 : n ≤ 1000000) : Ev (fun k => Zbo k c n) (boardAt c n) := by
 have e0 := Zme c 0 0 [] c.1 c.2.1 hP (c.1 * c.2.1).toNat n [] hn hn2 (by omega)
 simp only [List.append_nil] at e0
 have g : (c.1 * c.2.1).toNat * 16 ≤ 281474976710656 := by omega
 refine Ev.succ ?_
 simp only [Zbo, Z5i]
 rw [w64 (n := c.1 * c.2.1) (by omega) (by omega)]
 simp only [h0, g, if_true]
 refine Ev.bind (Ev.some _) ?_
 simp only []
 rw [w64 (by simp; omega) (by simp; omega), List.length_replicate]
 exact Ev.bind e0 (Ev.some _)
end
section
theorem ZAB {x y : CellD} (h : x.1 = y.1) : geared x = geared y := by unfold geared; rw [h]
theorem ZJJ {b b' : BoardD} (h1 : b.1 = b'.1) (h2 : b.2.1 = b'.2.1) (i : Int) : nears b i = nears b' i := by unfold nears; rw [h1, h2]
theorem ZJ2 {b b' : BoardD} (h : b.2.2.map Prod.fst = b'.2.2.map Prod.fst) (v : Int) : visit b v = visit b' v := by
 funext G n
 unfold visit
 rw [ZAB (ZGa h n.toNat)]
theorem ZFT {b b' : BoardD} (h1 : b.1 = b'.1) (h2 : b.2.1 = b'.2.1) (h : b.2.2.map Prod.fst = b'.2.2.map Prod.fst) (v : Int) : ∀ (n : Nat) (o q : List Int), bfs b v n o q = bfs b' v n o q
 | 0, o, q => rfl
 | _ + 1, o, [] => rfl
 | n + 1, o, x :: q => by simp only [bfs]; rw [ZJJ h1 h2, ZJ2 h, ZFT h1 h2 h v n]
theorem ZgH {b b' : BoardD} (h1 : b.1 = b'.1) (h2 : b.2.1 = b'.2.1) (h : b.2.2.map Prod.fst = b'.2.2.map Prod.fst) : ∀ (r r' : List CellD) (i : Int) (o : List Int) (v : Int), r.map Prod.fst = r'.map Prod.fst → groupsFrom b i r o v = groupsFrom b' i r' o v
 | [], [], i, o, v, hr => rfl
 | [], y :: r', i, o, v, hr => by simp at hr
 | x :: r, [], i, o, v, hr => by simp at hr
 | x :: r, y :: r', i, o, v, hr => by
  simp only [List.map_cons, List.cons.injEq] at hr
  simp only [groupsFrom]
  rw [ZAB hr.1, ZFT h1 h2 h, ZgH h1 h2 h r r' _ _ _ hr.2, ZgH h1 h2 h r r' _ _ _ hr.2]
theorem ZIq {o o' : List CellD} (h : o.map Prod.fst = o'.map Prod.fst) : o.length = o'.length := by
 have := congrArg List.length h
 simpa using this
theorem ZEH {b b' : BoardD} (h1 : b.1 = b'.1) (h2 : b.2.1 = b'.2.1) (h : b.2.2.map Prod.fst = b'.2.2.map Prod.fst) : groupsOf b = groupsOf b' := by
 unfold groupsOf
 rw [ZIq h, ZgH h1 h2 h _ _ _ _ _ h]
def Told (o o' : List Int) : Prop := ∀ j : Nat, j < o.length → 0 ≤ List.getD o j 0 → 0 ≤ List.getD o' j 0
theorem Told.set {o : List Int} {v : Int} (hv : 0 ≤ v) (i : Nat) : Told o (List.set o i v) := by
 intro j hj h
 by_cases hi : i < o.length
 ·rw [ZAu o i j v 0 hi]
  split
  ·exact hv
  ·exact h
 ·rw [List.set_eq_of_length_le (by omega)]
  exact h
theorem Told.trans {o o' o2 : List Int} (h : Told o o') (hl : o'.length = o.length) (h2 : Told o' o2) : Told o o2 := fun j hj h0 => h2 j (by omega) (h j hj h0)
def Below (N : List Int) (n : Nat) : Prop := ∀ x ∈ N, -1 ≤ x ∧ x < (n : Int)
theorem Below.more {N : List Int} {n m : Nat} (h : Below N n) (hm : n ≤ m) : Below N m := fun x hx => ⟨(h x hx).1, by have := (h x hx).2; omega⟩
end
section
theorem Zil (a b c d : Int) : ∀ (r pre : List CellD), (pre ++ r).length ≤ 1000000 → Ev (fun k => Z7L k a b (pre ++ r) c d (pre ++ r) ((pre ++ r).length : Int) (pre.length : Int)) (LR.go ())
 | [], pre, hl => by
  refine Ev.succ ?_
  simp only [Z7L, Za, decide_false, Bool.false_eq_true, if_false]
  exact Ev.some _
 | x :: r, pre, hl => by
  have ih := Zil a b c d r (pre ++ [x]) (by simpa using hl)
  refine Ev.succ ?_
  simp only [Z7L, Z8, Ze, decide_true, if_true, Int.toNat_natCast, Z3, Bool.and_self, Bool.not_true, Bool.false_eq_true, if_false]
  rw [Z7 pre x r (by omega)]
  rw [← Z1] at ih
  exact ih
theorem Zat (b : BoardD) (hl : b.2.2.length ≤ 1000000) : Ev (fun k => ZcZ k b b) true := by
 refine Ev.succ ?_
 simp only [ZcZ, ne_eq, not_true_eq_false, decide_false, Bool.false_eq_true, if_false]
 exact Ev.bind (Zil _ _ _ _ b.2.2 [] (by simpa using hl)) (Ev.go (Ev.some _))
theorem ZHH (b : BoardD) (hb : boardOK b = true) (c : Int) (hc : 0 ≤ c) (hc2 : c < b.2.1) : Ev (fun k => ZhZ k b c) ((fallOf b (groupsOf b) (kindsB b []) c b.2.2).1, b.1, b.2.1, (fallOf b (groupsOf b) (kindsB b []) c b.2.2).2) := by
 obtain ⟨p, hp⟩ := ZJD b hb (groupsOf b) (Ze2 b) c hc hc2
 refine Ev.succ ?_
 simp only [ZhZ, Z80, Z83]
 refine Ev.bind (Ev.bind (ZnN b hb) (Ev.bind hp (Ev.some _))) ?_
 exact Ev.bind (Ev.some _) (Ev.some _)
end
section
def endNum (b : BoardD) (f : FallD) : Int := if f.1 = 1 then f.2.2 else if f.1 = 2 then b.2.1 else b.2.1 + 1
def meetsFrom (b : BoardD) (G K : List Int) : List Int → List Int → List CellD → Bool
 | x :: r, y :: s, o => if endNum b (fallOf b G K x o).1 = y then meetsFrom b G K r s (fallOf b G K x o).2 else false
 | _, _, _ => true
def meetsB (c : ChD) (b : BoardD) : Bool := meetsFrom b (groupsOf b) (kindsB b []) c.2.2.2.1 c.2.2.2.2 b.2.2
theorem ZB7 (b : BoardD) (hb : boardOK b = true) (f : FallD) : Ev (fun k => ZcM k b f) (endNum b f) := by
 have hC : b.2.1 ≤ 9 ∧ 1 ≤ b.2.1 := by
  unfold boardOK at hb
  simp only [Bool.and_eq_true, decide_eq_true_eq] at hb
  omega
 refine Ev.succ ?_
 simp only [ZcM]
 rw [w64 (n := b.2.1 + 1) (by omega) (by omega)]
 unfold endNum
 by_cases h1 : f.1 = 1
 ·simp only [h1, decide_true, if_true]; exact Ev.some _
 ·by_cases h2 : f.1 = 2
  ·simp only [h2, decide_true, decide_false, if_true, Bool.false_eq_true, if_false, show ¬ (2 : Int) = 1 by omega]; exact Ev.some _
  ·simp only [h1, h2, decide_false, Bool.false_eq_true, if_false]; exact Ev.some _
theorem ZIe (b : BoardD) (hb : boardOK b = true) (f : FallD) : Ev (fun k => Zic k b f) (endNum b f) := by
 have hC : b.2.1 ≤ 9 ∧ 1 ≤ b.2.1 := by
  unfold boardOK at hb
  simp only [Bool.and_eq_true, decide_eq_true_eq] at hb
  omega
 refine Ev.succ ?_
 simp only [Zic]
 rw [w64 (n := b.2.1 + 1) (by omega) (by omega)]
 unfold endNum
 by_cases h1 : f.1 = 1
 ·simp only [h1, decide_true, if_true]; exact Ev.some _
 ·by_cases h2 : f.1 = 2
  ·simp only [h2, decide_true, decide_false, if_true, Bool.false_eq_true, if_false, show ¬ (2 : Int) = 1 by omega]; exact Ev.some _
  ·simp only [h1, h2, decide_false, Bool.false_eq_true, if_false]; exact Ev.some _
theorem ZlW (c : ChD) (b : BoardD) (hb : boardOK b = true) (G : List Int) (hG : G.length = b.2.2.length) : ∀ (r pre s q : List Int) (o : List CellD), c.2.2.2.2 = q ++ s → s.length = r.length → q.length = pre.length → (pre ++ r).length ≤ 1000000 → colsOK b r → o.length = b.2.2.length → (∀ x ∈ o, cellOK x = true) →
  Ev (fun k => Z6u k c.1 c.2.1 c.2.2.1 c.2.2.2.1 c.2.2.2.2 b.1 b.2.1 b.2.2 b.1 b.2.1 o G (pre ++ r) ((pre ++ r).length : Int) (pre.length : Int)) (if meetsFrom b G (kindsB b []) r s o = true then LR.go () else LR.ret false)
 | [], pre, s, q, o, hs, h1, h2, hl, hc, ho, hx => by
  refine Ev.succ ?_
  simp only [Z6u, Za, decide_false, Bool.false_eq_true, if_false, meetsFrom, if_true]
  exact Ev.some _
 | x :: r, pre, [], q, o, hs, h1, h2, hl, hc, ho, hx => by simp at h1
 | x :: r, pre, y :: s, q, o, hs, h1, h2, hl, hc, ho, hx => by
  have hcx := hc x (List.mem_cons_self ..)
  obtain ⟨p, hp⟩ := ZAs b hb G hG x hcx.1 hcx.2 o ho hx
  have hlt : (pre.length : Int) < (c.2.2.2.2.length : Int) := by rw [hs, ← h2]; exact Z8 _ _ _
  have hgd : List.getD c.2.2.2.2 pre.length 0 = y := by rw [hs, ← h2]; exact Z3 _ _ _ _
  have ih := ZlW c b hb G hG r (pre ++ [x]) s (q ++ [y]) (fallOf b G (kindsB b []) x o).2 (by rw [hs]; simp) (by simpa using h1) (by simpa using h2) (by simpa using hl) (fun z hz => hc z (List.mem_cons_of_mem _ hz)) ((ZKb ..).trans ho) (ZhM b G _ x hx)
  refine Ev.succ ?_
  simp only [Z6u, Z8, Ze, hlt, decide_true, if_true, Int.toNat_natCast, Z3, hgd, meetsFrom]
  refine Ev.bind hp (Ev.bind (ZB7 b hb _) ?_)
  by_cases he : endNum b (fallOf b G (kindsB b []) x o).1 = y
  ·simp only [he, ne_eq, not_true_eq_false, decide_false, Bool.false_eq_true, if_false, if_true]
   rw [Z7 pre x r (by omega)]
   rw [← Z1] at ih
   exact ih
  ·simp only [he, ne_eq, not_false_eq_true, decide_true, Bool.false_eq_true, if_false, if_true]
   exact Ev.some _
theorem Zqu (c : ChD) (b : BoardD) (hb : boardOK b = true) (h1 : c.2.2.2.2.length = c.2.2.2.1.length) (h2 : c.2.2.2.1.length ≤ 1000) (hc : colsOK b c.2.2.2.1) (hl : b.2.2.length ≤ 1000000) : Ev (fun k => Zby k c b) (meetsB c b) := by
 have hx : ∀ x ∈ b.2.2, cellOK x = true := by
  have := hb
  unfold boardOK at this
  simp only [Bool.and_eq_true, List.all_eq_true] at this
  exact this.2
 have e0 := ZlW c b hb (groupsOf b) (Ze2 b) c.2.2.2.1 [] c.2.2.2.2 [] b.2.2 rfl h1 rfl (by simp; omega) hc rfl hx
 simp only [List.nil_append, List.length_nil, Int.natCast_zero] at e0
 refine Ev.succ ?_
 simp only [Zby]
 refine Ev.bind (ZgG b hl) (Ev.bind (Zdf b hb) (Ev.bind e0 ?_))
 unfold meetsB
 cases meetsFrom b (groupsOf b) (kindsB b []) c.2.2.2.1 c.2.2.2.2 b.2.2 with
 | true => simp only [if_true]; exact Ev.go (Ev.some _)
 | false => simp only [Bool.false_eq_true, if_false]; exact Ev.ret (Ev.some _)
theorem ZmP (c : ChD) (b : BoardD) (hb : boardOK b = true) : ∀ (r pre s q : List Int) (o : List CellD), c.2.2.2.2 = q ++ s → s.length = r.length → q.length = pre.length → (pre ++ r).length ≤ 1000000 → colsOK b r → (∀ x ∈ o, cellOK x = true) → o.map Prod.fst = b.2.2.map Prod.fst →
  Ev (fun k => Z6w k c.1 c.2.1 c.2.2.1 c.2.2.2.1 c.2.2.2.2 b.1 b.2.1 b.2.2 b.1 b.2.1 o (pre ++ r) ((pre ++ r).length : Int) (pre.length : Int)) (if meetsFrom b (groupsOf b) (kindsB b []) r s o = true then LR.go () else LR.ret false)
 | [], pre, s, q, o, hs, h1, h2, hl, hc, hx, hp => by
  refine Ev.succ ?_
  simp only [Z6w, Za, decide_false, Bool.false_eq_true, if_false, meetsFrom, if_true]
  exact Ev.some _
 | x :: r, pre, [], q, o, hs, h1, h2, hl, hc, hx, hp => by simp at h1
 | x :: r, pre, y :: s, q, o, hs, h1, h2, hl, hc, hx, hp => by
  have hcx := hc x (List.mem_cons_self ..)
  have ho : o.length = b.2.2.length := by have := congrArg List.length hp; simpa using this
  have hb' : boardOK (b.1, b.2.1, o) = true := by
   have hb2 := hb
   unfold boardOK at hb2 ⊢
   simp only [Bool.and_eq_true, decide_eq_true_eq, List.all_eq_true] at hb2 ⊢
   exact ⟨by rw [ho]; exact hb2.1, hx⟩
  have hrun := ZHH (b.1, b.2.1, o) hb' x hcx.1 hcx.2
  rw [ZEH (b := (b.1, b.2.1, o)) (b' := b) rfl rfl hp, ZAf (b := (b.1, b.2.1, o)) (b' := b) rfl ho, ZA5 (b := (b.1, b.2.1, o)) (b' := b) rfl rfl] at hrun
  have hlt : (pre.length : Int) < (c.2.2.2.2.length : Int) := by rw [hs, ← h2]; exact Z8 _ _ _
  have hgd : List.getD c.2.2.2.2 pre.length 0 = y := by rw [hs, ← h2]; exact Z3 _ _ _ _
  have ih := ZmP c b hb r (pre ++ [x]) s (q ++ [y]) (fallOf b (groupsOf b) (kindsB b []) x o).2 (by rw [hs]; simp) (by simpa using h1) (by simpa using h2) (by simpa using hl) (fun z hz => hc z (List.mem_cons_of_mem _ hz)) (ZhM b _ _ x hx) ((ZxU b _ _ x hx).trans hp)
  refine Ev.succ ?_
  simp only [Z6w, Z8, Ze, hlt, decide_true, if_true, Int.toNat_natCast, Z3, hgd, meetsFrom]
  refine Ev.bind hrun (Ev.bind (ZIe b hb _) ?_)
  by_cases he : endNum b (fallOf b (groupsOf b) (kindsB b []) x o).1 = y
  ·simp only [he, ne_eq, not_true_eq_false, decide_false, Bool.false_eq_true, if_false, if_true]
   rw [Z7 pre x r (by omega)]
   rw [← Z1] at ih
   exact ih
  ·simp only [he, ne_eq, not_false_eq_true, decide_true, Bool.false_eq_true, if_false, if_true]
   exact Ev.some _
theorem ZrR (c : ChD) (b : BoardD) (hb : boardOK b = true) (h1 : c.2.2.2.2.length = c.2.2.2.1.length) (h2 : c.2.2.2.1.length ≤ 1000) (hc : colsOK b c.2.2.2.1) : Ev (fun k => Zez k c b) (meetsB c b) := by
 have hx : ∀ x ∈ b.2.2, cellOK x = true := by
  have := hb
  unfold boardOK at this
  simp only [Bool.and_eq_true, List.all_eq_true] at this
  exact this.2
 have e0 := ZmP c b hb c.2.2.2.1 [] c.2.2.2.2 [] b.2.2 rfl h1 rfl (by simp; omega) hc hx rfl
 simp only [List.nil_append, List.length_nil, Int.natCast_zero] at e0
 refine Ev.succ ?_
 simp only [Zez]
 refine Ev.bind e0 ?_
 unfold meetsB
 cases meetsFrom b (groupsOf b) (kindsB b []) c.2.2.2.1 c.2.2.2.2 b.2.2 with
 | true => simp only [if_true]; exact Ev.go (Ev.some _)
 | false => simp only [Bool.false_eq_true, if_false]; exact Ev.ret (Ev.some _)
def sizeL : List CellD → Nat
 | [] => 0
 | x :: r => (if x.1 = 0 then 0 else 1) + sizeL r
theorem Zs9 : ∀ l : List CellD, sizeL l ≤ l.length
 | [] => Nat.le_refl _
 | x :: r => by
  have := Zs9 r
  simp only [sizeL, List.length_cons]
  split <;> omega
theorem ZgM : ∀ (r pre : List CellD) (v : Int), 0 ≤ v → v ≤ (pre.length : Int) → (pre ++ r).length ≤ 1000000 → Ev (fun k => Z4r k v (pre ++ r) ((pre ++ r).length : Int) (pre.length : Int)) (v + (sizeL r : Int))
 | [], pre, v, h0, hv, hl => by
  refine Ev.succ ?_
  simp only [Z4r, Za, decide_false, Bool.false_eq_true, if_false, sizeL]
  exact (Ev.some _).congr (by omega)
 | x :: r, pre, v, h0, hv, hl => by
  have hpl : pre.length ≤ 1000000 := by simp at hl; omega
  refine Ev.succ ?_
  simp only [Z4r, Z8, Ze, decide_true, if_true, Int.toNat_natCast, Z3, sizeL]
  rw [Z7 pre x r (by omega), w64 (n := v + 1) (by omega) (by omega)]
  by_cases hx : x.1 = 0
  ·have ih := ZgM r (pre ++ [x]) v h0 (by simp; omega) (by simpa using hl)
   rw [← Z1] at ih
   simp only [hx, ne_eq, not_true_eq_false, decide_false, Bool.false_eq_true, if_false, if_true]
   exact ih.congr (by omega)
  ·have ih := ZgM r (pre ++ [x]) (v + 1) (by omega) (by simp; omega) (by simpa using hl)
   rw [← Z1] at ih
   simp only [hx, ne_eq, not_false_eq_true, decide_true, if_true, if_false]
   exact ih.congr (by omega)
theorem Zbs (b : BoardD) (hl : b.2.2.length ≤ 1000000) : Ev (fun k => Z4D k b) (sizeL b.2.2 : Int) := by
 have e0 := ZgM b.2.2 [] 0 (by omega) (by simp) (by simpa using hl)
 simp only [List.nil_append, List.length_nil, Int.natCast_zero, Int.zero_add] at e0
 refine Ev.succ ?_
 simp only [Z4D]
 exact Ev.bind e0 (Ev.some _)
theorem ZlM : ∀ (r pre : List CellD) (o : List Int) (z : Nat), o.length = 8 → List.getD o 0 0 = (z : Int) → z + r.length ≤ 1000000 → (∀ x ∈ r, cellOK x = true) → (pre ++ r).length ≤ 1000000 →
  ∃ l, Ev (fun k => Z6I k o (pre ++ r) ((pre ++ r).length : Int) (pre.length : Int)) l ∧ l.length = 8 ∧ List.getD l 0 0 = (z : Int) + ((r.length : Int) - (sizeL r : Int))
 | [], pre, o, z, ho, hz, hzl, hx, hl => ⟨o, by
  refine Ev.succ ?_
  simp only [Z6I, Za, decide_false, Bool.false_eq_true, if_false]
  exact Ev.some _, ho, by rw [hz]; simp [sizeL]⟩
 | x :: r, pre, o, z, ho, hz, hzl, hx, hl => by
  have hok := hx x (List.mem_cons_self ..)
  unfold cellOK at hok
  have hok := of_decide_eq_true hok
  have k0 : 0 ≤ x.1 := hok.1
  have k1 : x.1 < (o.length : Int) := by omega
  have hzz : z ≤ 1000000 := by omega
  obtain ⟨l, h1, h2, h3⟩ := ZlM r (pre ++ [x]) (List.set o x.1.toNat (wrap64 (List.getD o x.1.toNat 0 + 1))) (if x.1 = 0 then z + 1 else z) (by simp [ho]) (by
   by_cases hx0 : x.1 = 0
   ·rw [if_pos hx0, hx0]
    simp only [Int.toNat_zero]
    rw [hz, w64 (by omega) (by omega)]
    match o, ho with
    | a :: o', _ => simp
   ·rw [if_neg hx0, ← hz]
    have : x.1.toNat ≠ 0 := by omega
    simp only [List.getD_eq_getElem?_getD, List.getElem?_set_ne this]) (by
   simp only [List.length_cons] at hzl
   split <;> omega) (fun y hy => hx y (List.mem_cons_of_mem _ hy)) (by simpa using hl)
  refine ⟨l, ?_, h2, ?_⟩
  ·refine Ev.succ ?_
   simp only [Z6I, Z8, Ze, decide_true, if_true, Int.toNat_natCast, Z3, k0, k1]
   rw [Z7 pre x r (by omega)]
   rw [← Z1] at h1
   exact h1
  ·rw [h3]
   simp only [sizeL, List.length_cons]
   have := Zs9 r
   split <;> omega
theorem ZGI (b : BoardD) (hx : ∀ x ∈ b.2.2, cellOK x = true) (hl : b.2.2.length ≤ 1000000) : Ev (fun k => ZfR k b) (sizeL b.2.2 : Int) := by
 obtain ⟨l, h1, h2, h3⟩ := ZlM b.2.2 [] (List.replicate 8 0) 0 (by simp) (by simp) (by omega) hx (by simpa using hl)
 simp only [List.nil_append, List.length_nil, Int.natCast_zero] at h1
 have := Zs9 b.2.2
 refine Ev.succ ?_
 simp only [ZfR]
 refine Ev.bind (a := l) ?_ ?_
 ·refine Ev.succ ?_
  simp only [Zjc]
  exact Ev.bind h1 (Ev.some _)
 ·have hp : (0 : Int) < (l.length : Int) := by omega
  simp only [hp, if_true]
  rw [show Int.toNat 0 = 0 from rfl, h3]
  exact (Ev.some _).congr (by rw [w64 (by omega) (by omega)]; omega)
end
section
theorem Z3K {c : ChD} (h : challOK c = true) : (1 ≤ c.1 ∧ c.1 ≤ 4 ∧ 1 ≤ c.2.1 ∧ c.2.1 ≤ 4 ∧ 1 ≤ c.2.2.1.length ∧ c.2.2.1.length ≤ 6 ∧ 1 ≤ c.2.2.2.1.length ∧ c.2.2.2.1.length ≤ 8 ∧ c.2.2.2.2.length = c.2.2.2.1.length) ∧ partsOK [] c.2.2.1 = true ∧ (∀ e ∈ c.2.2.2.1, 0 ≤ e ∧ e ≤ c.2.1 - 1) ∧ triedOf c ≤ 7000 := by
 unfold challOK sizesOK at h
 simp only [Bool.and_eq_true, decide_eq_true_eq, List.all_eq_true] at h
 exact ⟨h.1, h.2.1, h.2.2.1, h.2.2.2.2⟩
theorem ZAd : ∀ (r pre : List CellD), partsOK pre r = true → ∀ x ∈ r, cellOK x = true
 | [], _, _, x, hx => by simp at hx
 | y :: r, pre, h, x, hx => by
  simp only [partsOK, Bool.and_eq_true] at h
  rcases List.mem_cons.1 hx with rfl | hx
  ·exact h.1
  ·exact ZAd r _ h.2.2.2 x hx
theorem Z6Q {c : ChD} (h : challOK c = true) : 1 ≤ c.1 * c.2.1 ∧ c.1 * c.2.1 ≤ 16 := by
 obtain ⟨⟨a1, a2, a3, a4, _⟩, _⟩ := Z3K h
 have h1 : 1 * 1 ≤ c.1 * c.2.1 := Int.mul_le_mul a1 a3 (by omega) (by omega)
 have h2 : c.1 * c.2.1 ≤ 4 * 4 := Int.mul_le_mul a2 a4 (by omega) (by omega)
 omega
theorem Z2i (c : ChD) (n : Int) : (boardAt c n).2.2.length = (c.1 * c.2.1).toNat := by
 unfold boardAt
 rw [ZAw]
 simp
theorem Zty {c : ChD} (h : challOK c = true) {n : Int} (hn : 0 ≤ n) : ∀ x ∈ (boardAt c n).2.2, x = (0, 0) ∨ x ∈ c.2.2.1 := ZAi _ _ _ hn (by simp)
theorem Zlf {c : ChD} (h : challOK c = true) {n : Int} (hn : 0 ≤ n) : boardOK (boardAt c n) = true := by
 obtain ⟨⟨a1, a2, a3, a4, _⟩, hp, _⟩ := Z3K h
 have ha := Z6Q h
 unfold boardOK
 rw [Z2i]
 simp only [Bool.and_eq_true, decide_eq_true_eq, List.all_eq_true]
 refine ⟨⟨a1, by show c.1 ≤ 10; omega, a3, by show c.2.1 ≤ 9; omega, ?_⟩, fun x hx => ?_⟩
 ·show ((c.1 * c.2.1).toNat : Int) = c.1 * c.2.1
  omega
 ·rcases Zty h hn x hx with rfl | hx
  ·rfl
  ·exact ZAd _ _ hp x hx
theorem Zhv {c : ChD} (h : challOK c = true) (n : Int) : colsOK (boardAt c n) c.2.2.2.1 := by
 obtain ⟨_, _, he, _⟩ := Z3K h
 intro e hm
 have := he e hm
 exact ⟨this.1, by show e < c.2.1; omega⟩
theorem Zhr (c : ChD) (h : challOK c = true) : ∀ (j : Nat) (v i : Int), 0 ≤ i → i + j = c.1 * c.2.1 → 1 ≤ v → v * ((c.2.2.1.length : Int) + 1) ^ j ≤ 7000 → Ev (fun k => Z3C k c.1 c.2.1 c.2.2.1 c.2.2.2.1 c.2.2.2.2 v i) (v * ((c.2.2.1.length : Int) + 1) ^ j)
 | 0, v, i, hi, hj, hv, hb => by
  have ha := Z6Q h
  refine Ev.succ ?_
  simp only [Z3C]
  rw [w64 (n := c.1 * c.2.1) (by omega) (by omega), decide_eq_false (p := i < c.1 * c.2.1) (by omega)]
  simp only [Bool.false_eq_true, if_false, Int.pow_zero, Int.mul_one]
  exact Ev.some _
 | j + 1, v, i, hi, hj, hv, hb => by
  have ha := Z6Q h
  obtain ⟨⟨_, _, _, _, a5, a6, _⟩, _⟩ := Z3K h
  have hp1 : 1 ≤ (c.2.2.1.length : Int) + 1 := by omega
  have hpw : v * ((c.2.2.1.length : Int) + 1) ^ (j + 1) = (v * ((c.2.2.1.length : Int) + 1)) * ((c.2.2.1.length : Int) + 1) ^ j := by rw [Int.pow_succ, Int.mul_comm (((c.2.2.1.length : Int) + 1) ^ j), Int.mul_assoc]
  rw [hpw] at hb ⊢
  have hv1 : v ≤ v * ((c.2.2.1.length : Int) + 1) := ZrU (by omega) hp1
  have hv2 := ZrU (m := v * ((c.2.2.1.length : Int) + 1)) (by omega) (ZxY hp1 j)
  refine Ev.succ ?_
  simp only [Z3C]
  rw [w64 (n := c.1 * c.2.1) (by omega) (by omega), decide_eq_true (p := i < c.1 * c.2.1) (by omega), w64 (n := (c.2.2.1.length : Int) + 1) (by omega) (by omega), w64 (n := v * ((c.2.2.1.length : Int) + 1)) (by omega) (by omega), w64 (n := i + 1) (by omega) (by omega)]
  simp only [if_true]
  exact Zhr c h j _ (i + 1) (by omega) (by omega) (by omega) hb
theorem ZwZ (c : ChD) (h : challOK c = true) : Ev (fun k => Zaw k c) (triedOf c) := by
 have ha := Z6Q h
 obtain ⟨_, _, _, ht⟩ := Z3K h
 have e0 := Zhr c h (c.1 * c.2.1).toNat 1 0 (by omega) (by omega) (by omega) (by rw [Int.one_mul]; exact ht)
 rw [Int.one_mul] at e0
 refine Ev.succ ?_
 simp only [Zaw]
 exact Ev.bind e0 (Ev.some _)
theorem ZhO (c : ChD) (h : challOK c = true) : Ev (fun k => Z9d k c) (triedOf c) := by
 have ha := Z6Q h
 obtain ⟨⟨_, _, _, _, a5, a6, _⟩, _, _, ht⟩ := Z3K h
 obtain ⟨o, ho, c1, _⟩ := Zr9 c (by omega) (by omega) (by omega)
 rw [c1 ht] at ho
 exact ho
theorem ZFU {c : ChD} (h : challOK c = true) : 1 ≤ triedOf c := ZxY (by omega) _
def rndOf (c : ChD) (n : Int) : ItR BoardD := if n < triedOf c then if meetsB c (boardAt c n) = true then .give (boardAt c n) else .skip else .stop
theorem ZKA (c : ChD) (h : challOK c = true) (n : Int) (hn : 0 ≤ n) (hn2 : n ≤ 7000) : Ev (fun k => iRnd k c n) (rndOf c n) := by
 have ha := Z6Q h
 obtain ⟨⟨_, _, _, _, a5, a6, a7, a8, a9⟩, _, _, ht⟩ := Z3K h
 unfold rndOf
 simp only [iRnd]
 refine Ev.bind (ZwZ c h) ?_
 by_cases hlt : n < triedOf c
 ·simp only [hlt, decide_true, if_true]
  refine Ev.bind (ZF0 c (by omega) (by omega) (by omega) n hn (by omega)) ?_
  refine Ev.bind (Zqu c (boardAt c n) (Zlf h hn) a9 (by omega) (Zhv h n) (by rw [Z2i]; omega)) ?_
  by_cases hm : meetsB c (boardAt c n) = true
  ·simp only [hm, if_true]; exact Ev.some _
  ·simp only [hm, Bool.false_eq_true, if_false]; exact Ev.some _
 ·simp only [hlt, decide_false, Bool.false_eq_true, if_false]; exact Ev.some _
def solsFrom (c : ChD) : Nat → Int → List BoardD
 | 0, _ => []
 | j + 1, n => if meetsB c (boardAt c n) = true then boardAt c n :: solsFrom c j (n + 1) else solsFrom c j (n + 1)
theorem Zmw {c : ChD} : ∀ (j : Nat) (n : Int), 0 ≤ n → ∀ b ∈ solsFrom c j n, ∃ m, 0 ≤ m ∧ b = boardAt c m ∧ meetsB c b = true
 | 0, n, hn, b, hb => by simp [solsFrom] at hb
 | j + 1, n, hn, b, hb => by
  simp only [solsFrom] at hb
  split at hb
  ·rename_i hm
   rcases List.mem_cons.1 hb with rfl | hb
   ·exact ⟨n, hn, rfl, hm⟩
   ·exact Zmw j (n + 1) (by omega) b hb
  ·exact Zmw j (n + 1) (by omega) b hb
theorem ZFv {Y : Type} {c : ChD} (h : challOK c = true) {cy : Y → ChD} {step : Nat → Y → BoardD → Option Y} {F : Y → BoardD → Y} {I : Y → Prop} (hcy : ∀ y, I y → cy y = c) (hF : ∀ y m, 0 ≤ m → I y → I (F y (boardAt c m))) (hs : ∀ y m, 0 ≤ m → I y → Ev (fun k => step k y (boardAt c m)) (F y (boardAt c m))) :
  ∀ (j : Nat) (n : Int) (y : Y), I y → 0 ≤ n → n + j = triedOf c → ∃ N, ∀ k, N ≤ k → ∀ f, N ≤ f → itLoop (iRnd k) (fun m => wrap64 (m + 1)) cy (step k) f y n = some ((solsFrom c j n).foldl F y)
 | 0, n, y, hI, hn, hj => by
  obtain ⟨_, _, _, ht⟩ := Z3K h
  obtain ⟨N, hN⟩ := ZKA c h n hn (by omega)
  refine ⟨N + 1, fun k hk f hf => ?_⟩
  obtain ⟨f, rfl⟩ : ∃ f', f = f' + 1 := ⟨f - 1, by omega⟩
  have hr : rndOf c n = .stop := by unfold rndOf; rw [if_neg (by omega)]
  simp only [itLoop, hcy y hI, hN k (by omega), hr, solsFrom, List.foldl_nil]
 | j + 1, n, y, hI, hn, hj => by
  obtain ⟨_, _, _, ht⟩ := Z3K h
  obtain ⟨N, hN⟩ := ZKA c h n hn (by omega)
  have hw : wrap64 (n + 1) = n + 1 := w64 (by omega) (by omega)
  by_cases hm : meetsB c (boardAt c n) = true
  ·obtain ⟨N1, hN1⟩ := ZFv h hcy hF hs j (n + 1) (F y (boardAt c n)) (hF y n hn hI) (by omega) (by omega)
   obtain ⟨N2, hN2⟩ := hs y n hn hI
   refine ⟨N + N1 + N2 + 1, fun k hk f hf => ?_⟩
   obtain ⟨f, rfl⟩ : ∃ f', f = f' + 1 := ⟨f - 1, by omega⟩
   have hr : rndOf c n = .give (boardAt c n) := by unfold rndOf; rw [if_pos (by omega), if_pos hm]
   simp only [itLoop, hcy y hI, hN k (by omega), hr, hN2 k (by omega), hw, solsFrom, hm, if_true, List.foldl_cons]
   exact hN1 k (by omega) f (by omega)
  ·obtain ⟨N1, hN1⟩ := ZFv h hcy hF hs j (n + 1) y hI (by omega) (by omega)
   refine ⟨N + N1 + 1, fun k hk f hf => ?_⟩
   obtain ⟨f, rfl⟩ : ∃ f', f = f' + 1 := ⟨f - 1, by omega⟩
   have hr : rndOf c n = .skip := by unfold rndOf; rw [if_pos (by omega), if_neg hm]
   simp only [itLoop, hcy y hI, hN k (by omega), hr, hw, solsFrom, hm, Bool.false_eq_true, if_false]
   exact hN1 k (by omega) f (by omega)
def solsOf (c : ChD) : List BoardD := solsFrom c (triedOf c).toNat 0
theorem ZJO {Y : Type} {c : ChD} (h : challOK c = true) {cy : Y → ChD} {step : Nat → Y → BoardD → Option Y} {F : Y → BoardD → Y} {I : Y → Prop} (hcy : ∀ y, I y → cy y = c) (hF : ∀ y m, 0 ≤ m → I y → I (F y (boardAt c m))) (hs : ∀ y m, 0 ≤ m → I y → Ev (fun k => step k y (boardAt c m)) (F y (boardAt c m))) {y : Y} (hI : I y) : Ev (fun k => iLoop k cy (step k) y) ((solsOf c).foldl F y) := by
 have := ZFU h
 obtain ⟨N, hN⟩ := ZFv h hcy hF hs (triedOf c).toNat 0 y hI (by omega) (by omega)
 exact ⟨N, fun k hk => hN k hk k hk⟩
end
section
def bestStep (y b : BoardD) : BoardD := if y.1 = 0 then b else if (sizeL b.2.2 : Int) < (sizeL y.2.2 : Int) then b else y
def bestOf (l : List BoardD) : BoardD := l.foldl bestStep (0, 0, [])
noncomputable def yF (y : YS) (b : BoardD) : YS := if (yBest y).1 = 0 then ySet y b else if (sizeL b.2.2 : Int) < (sizeL (yBest y).2.2 : Int) then ySet y b else y
theorem ZJY (y : YS) (b : BoardD) : yBest (yF y b) = bestStep (yBest y) b := by
 unfold yF bestStep
 split
 ·rfl
 ·split <;> rfl
theorem yF_c (y : YS) (b : BoardD) : yC (yF y b) = yC y := by
 unfold yF
 split
 ·rfl
 ·split <;> rfl
theorem ZJR : ∀ (l : List BoardD) (y : YS), yBest (l.foldl yF y) = l.foldl bestStep (yBest y)
 | [], y => rfl
 | b :: l, y => by rw [List.foldl_cons, List.foldl_cons, ZJR l, ZJY]
theorem ZkH (c : ChD) (h : challOK c = true) : Ev (fun k => Z8k k c) (bestOf (solsOf c), decide ((bestOf (solsOf c)).1 > 0)) := by
 have ha := Z6Q h
 have e0 : Ev (fun k => iLoop k yC (yStep k) (yStart c)) ((solsOf c).foldl yF (yStart c)) := by
  refine ZJO (I := fun y => yC y = c ∧ (yBest y).2.2.length ≤ 1000) h (fun y hy => hy.1) (fun y m hm hy => ⟨(yF_c y _).trans hy.1, ?_⟩) (fun y m hm hy => ?_) ⟨rfl, by show ([] : List CellD).length ≤ 1000; simp⟩
  ·rw [ZJY]
   unfold bestStep
   split
   ·rw [Z2i]; omega
   ·split
    ·rw [Z2i]; omega
    ·exact hy.2
  ·simp only [yStep]
   unfold yF
   by_cases h1 : (yBest y).1 = 0
   ·simp only [h1, decide_true, if_true]; exact Ev.some _
   ·simp only [h1, decide_false, Bool.false_eq_true, if_false]
    refine Ev.bind (Zbs (boardAt c m) (by rw [Z2i]; omega)) (Ev.bind (Zbs (yBest y) (by omega)) ?_)
    by_cases h2 : (sizeL (boardAt c m).2.2 : Int) < (sizeL (yBest y).2.2 : Int)
    ·simp only [h2, decide_true, if_true]; exact Ev.some _
    ·simp only [h2, decide_false, Bool.false_eq_true, if_false]; exact Ev.some _
 obtain ⟨N, hN⟩ := e0
 refine ⟨N + 1, fun k hk => ?_⟩
 obtain ⟨k, rfl⟩ : ∃ k', k = k' + 1 := ⟨k - 1, by omega⟩
 simp only [Z8k, hN k (by omega)]
 rw [ZJR]
 rfl
def incrS (l : List Int) (b : BoardD) : List Int := List.set l (sizeL b.2.2) (wrap64 (List.getD l (sizeL b.2.2) 0 + 1))
noncomputable def bF (y : BS) (b : BoardD) : BS := bSet y (incrS y.1.2.2.1 b)
theorem ZJW : ∀ (l : List BoardD) (y : BS), (l.foldl bF y).1.2.2.1 = l.foldl incrS y.1.2.2.1
 | [], y => rfl
 | b :: l, y => by rw [List.foldl_cons, List.foldl_cons, ZJW l]; rfl
theorem Zxi (l : List Int) (b : BoardD) : (incrS l b).length = l.length := by simp [incrS]
theorem Zy9 {c : ChD} (h : challOK c = true) (m : Int) : sizeL (boardAt c m).2.2 < (c.1 * c.2.1 + 1).toNat := by
 have ha := Z6Q h
 have := Zs9 (boardAt c m).2.2
 rw [Z2i] at this
 omega
def zerosOf (c : ChD) : List Int := List.replicate (c.1 * c.2.1 + 1).toNat 0
theorem Zpd (c : ChD) (h1 : c.2.2.1.length ≤ 1000000) (h2 : c.2.2.2.1.length ≤ 1000000) : Ev (fun k => Z74 k c) (if challOK c = true then ((solsOf c).foldl incrS (zerosOf c), true) else ([], false)) := by
 refine Ev.succ ?_
 simp only [Z74]
 refine Ev.bind (Zax c h1 h2) ?_
 by_cases h : challOK c = true
 ·have ha := Z6Q h
  have e0 : Ev (fun k => iLoop k bC (bStep k) (bStart c (zerosOf c))) ((solsOf c).foldl bF (bStart c (zerosOf c))) := by
   refine ZJO (I := fun y => bC y = c ∧ y.1.2.2.1.length = (c.1 * c.2.1 + 1).toNat) h (fun y hy => hy.1) (fun y m hm hy => ⟨hy.1, ?_⟩) (fun y m hm hy => ?_) ⟨rfl, by show (zerosOf c).length = _; simp [zerosOf]⟩
   ·show (incrS y.1.2.2.1 _).length = _
    rw [Zxi]; exact hy.2
   ·have hsz := Zy9 h m
    simp only [bStep]
    refine Ev.bind (Zbs (boardAt c m) (by rw [Z2i]; omega)) ?_
    have p0 : (0 : Int) ≤ (sizeL (boardAt c m).2.2 : Int) := by omega
    have p1 : (sizeL (boardAt c m).2.2 : Int) < (y.1.2.2.1.length : Int) := by rw [hy.2]; omega
    simp only [p0, p1, if_true, Int.toNat_natCast]
    exact Ev.some _
  have w1 : wrap64 (wrap64 (c.1 * c.2.1) + 1) = c.1 * c.2.1 + 1 := by rw [w64 (n := c.1 * c.2.1) (by omega) (by omega), w64 (by omega) (by omega)]
  have p0 : (0 : Int) ≤ c.1 * c.2.1 + 1 := by omega
  have p1 : (c.1 * c.2.1 + 1).toNat * 8 ≤ 281474976710656 := by omega
  simp only [h, Bool.not_true, Bool.false_eq_true, if_false, w1, p0, p1, if_true]
  obtain ⟨N, hN⟩ := e0
  refine ⟨N, fun k hk => ?_⟩
  have := hN k hk
  unfold zerosOf at this ⊢
  simp only [this]
  rw [ZJW]
  rfl
 ·have h' : challOK c = false := by simpa using h
  simp only [h', Bool.not_false, if_true, Bool.false_eq_true, if_false]
  exact Ev.some _
def BestR (c : ChD) (y : BoardD) (v7 v8 : Int) : Prop := (y = (0, 0, []) ∧ v7 < 0) ∨ (y.1 = c.1 ∧ 0 ≤ v7 ∧ v7 ≤ 7000 ∧ boardAt c v7 = y ∧ v8 = (sizeL y.2.2 : Int))
theorem Zgq (c : ChD) (h : challOK c = true) : ∀ (j : Nat) (n : Int) (l : List Int) (v6 v7 v8 : Int) (y : BoardD), BestR c y v7 v8 → l.length = (c.1 * c.2.1 + 1).toNat → 0 ≤ n → n + j = triedOf c →
  ∃ v6' v7' v8', Ev (fun k => ZF k c.1 c.2.1 c.2.2.1 c.2.2.2.1 c.2.2.2.2 l v6 v7 v8 n) ((solsFrom c j n).foldl incrS l, v6', v7') ∧ BestR c ((solsFrom c j n).foldl bestStep y) v7' v8'
 | 0, n, l, v6, v7, v8, y, hR, hl, hn, hj => by
  refine ⟨v6, v7, v8, ?_, hR⟩
  refine Ev.succ ?_
  simp only [ZF]
  refine Ev.bind (ZhO c h) ?_
  rw [decide_eq_false (p := n < triedOf c) (by omega)]
  simp only [Bool.false_eq_true, if_false]
  exact Ev.some _
 | j + 1, n, l, v6, v7, v8, y, hR, hl, hn, hj => by
  have ha := Z6Q h
  obtain ⟨⟨c1, c2, c3, c4, a5, a6, a7, a8, a9⟩, _, _, ht⟩ := Z3K h
  have hbo := Zlf h hn
  have hsz := Zy9 h n
  have hw : wrap64 (n + 1) = n + 1 := w64 (by omega) (by omega)
  have hxs : ∀ x ∈ (boardAt c n).2.2, cellOK x = true := by
   have := hbo
   unfold boardOK at this
   simp only [Bool.and_eq_true, List.all_eq_true] at this
   exact this.2
  have hlt : n < triedOf c := by omega
  by_cases hm : meetsB c (boardAt c n) = true
  ·have hR2 : BestR c (bestStep y (boardAt c n)) (if v7 < 0 then n else if (sizeL (boardAt c n).2.2 : Int) < v8 then n else v7) (if v7 < 0 then (sizeL (boardAt c n).2.2 : Int) else if (sizeL (boardAt c n).2.2 : Int) < v8 then (sizeL (boardAt c n).2.2 : Int) else v8) := by
    rcases hR with ⟨rfl, h7⟩ | ⟨y1, y2, y3, y4, y5⟩
    ·rw [if_pos h7, if_pos h7]
     exact .inr ⟨rfl, hn, by omega, rfl, rfl⟩
    ·have h7 : ¬ v7 < 0 := by omega
     rw [if_neg h7, if_neg h7]
     unfold bestStep
     rw [if_neg (by omega)]
     by_cases hs : (sizeL (boardAt c n).2.2 : Int) < v8
     ·rw [if_pos hs, if_pos hs, if_pos (by rw [← y5]; exact hs)]
      exact .inr ⟨rfl, hn, by omega, rfl, rfl⟩
     ·rw [if_neg hs, if_neg hs, if_neg (by rw [← y5]; exact hs)]
      exact .inr ⟨y1, y2, y3, y4, y5⟩
   obtain ⟨w6, w7, w8, e1, e2⟩ := Zgq c h j (n + 1) (incrS l (boardAt c n)) (if v6 < 0 then n else v6) _ _ _ hR2 ((Zxi ..).trans hl) (by omega) (by omega)
   simp only [solsFrom, hm, if_true, List.foldl_cons]
   refine ⟨w6, w7, w8, ?_, e2⟩
   have p0 : (0 : Int) ≤ (sizeL (boardAt c n).2.2 : Int) := by omega
   have p1 : (sizeL (boardAt c n).2.2 : Int) < (l.length : Int) := by rw [hl]; omega
   refine Ev.succ ?_
   simp only [ZF]
   refine Ev.bind (ZhO c h) ?_
   simp only [hlt, decide_true, if_true]
   refine Ev.bind (Zjz c (by omega) (by omega) (by omega) n hn (by omega)) (Ev.bind (ZrR c (boardAt c n) hbo a9 (by omega) (Zhv h n)) ?_)
   simp only [hm, Bool.not_true, Bool.false_eq_true, if_false]
   refine Ev.bind (ZGI (boardAt c n) hxs (by rw [Z2i]; omega)) ?_
   simp only [p0, p1, if_true, Int.toNat_natCast, hw]
   unfold incrS at e1 ⊢
   by_cases h6 : v6 < 0 <;> by_cases h7 : v7 < 0 <;> by_cases h8 : (sizeL (boardAt c n).2.2 : Int) < v8 <;>
    simp only [h6, h7, h8, decide_true, decide_false, if_true, if_false, Bool.false_eq_true] at e1 ⊢ <;> exact e1
  ·obtain ⟨w6, w7, w8, e1, e2⟩ := Zgq c h j (n + 1) l v6 v7 v8 y hR hl (by omega) (by omega)
   simp only [solsFrom, hm, Bool.false_eq_true, if_false]
   refine ⟨w6, w7, w8, ?_, e2⟩
   have hm' : meetsB c (boardAt c n) = false := by simpa using hm
   refine Ev.succ ?_
   simp only [ZF]
   refine Ev.bind (ZhO c h) ?_
   simp only [hlt, decide_true, if_true]
   refine Ev.bind (Zjz c (by omega) (by omega) (by omega) n hn (by omega)) (Ev.bind (ZrR c (boardAt c n) hbo a9 (by omega) (Zhv h n)) ?_)
   simp only [hm', Bool.not_false, if_true, hw]
   exact e1
theorem Zq1 (c : ChD) (h : challOK c = true) : ∃ v6 v7 v8, Ev (fun k => ZbR k c) ((solsOf c).foldl incrS (zerosOf c), v6, v7) ∧ BestR c (bestOf (solsOf c)) v7 v8 := by
 have ha := Z6Q h
 have hp := ZFU h
 obtain ⟨v6, v7, v8, e1, e2⟩ := Zgq c h (triedOf c).toNat 0 (zerosOf c) (-1) (-1) 0 (0, 0, []) (.inl ⟨rfl, by omega⟩) (by simp [zerosOf]) (by omega) (by omega)
 refine ⟨v6, v7, v8, ?_, e2⟩
 have w1 : wrap64 (wrap64 (c.1 * c.2.1) + 1) = c.1 * c.2.1 + 1 := by rw [w64 (n := c.1 * c.2.1) (by omega) (by omega), w64 (by omega) (by omega)]
 have p0 : (0 : Int) ≤ c.1 * c.2.1 + 1 := by omega
 have p1 : (c.1 * c.2.1 + 1).toNat * 8 ≤ 281474976710656 := by omega
 refine Ev.succ ?_
 simp only [ZbR, w1, p0, p1, if_true]
 exact Ev.bind e1 (Ev.some _)
end
section
theorem ZnM : ∀ (l : List BoardD) (y : BoardD), 1 ≤ y.1 → (∀ b ∈ l, 1 ≤ b.1) → (l.foldl bestStep y = y ∨ l.foldl bestStep y ∈ l) ∧ sizeL (l.foldl bestStep y).2.2 ≤ sizeL y.2.2 ∧ ∀ b ∈ l, sizeL (l.foldl bestStep y).2.2 ≤ sizeL b.2.2
 | [], y, hy, hl => ⟨.inl rfl, Nat.le_refl _, by simp⟩
 | b :: l, y, hy, hl => by
  have hb := hl b (List.mem_cons_self ..)
  have hl2 : ∀ x ∈ l, 1 ≤ x.1 := fun x hx => hl x (List.mem_cons_of_mem _ hx)
  rw [List.foldl_cons]
  by_cases hs : (sizeL b.2.2 : Int) < (sizeL y.2.2 : Int)
  ·have he : bestStep y b = b := by unfold bestStep; rw [if_neg (by omega), if_pos hs]
   rw [he]
   obtain ⟨h1, h2, h3⟩ := ZnM l b hb hl2
   refine ⟨?_, by omega, fun x hx => ?_⟩
   ·rcases h1 with h1 | h1
    ·exact .inr (by rw [h1]; exact List.mem_cons_self ..)
    ·exact .inr (List.mem_cons_of_mem _ h1)
   ·rcases List.mem_cons.1 hx with rfl | hx
    ·exact h2
    ·exact h3 x hx
  ·have he : bestStep y b = y := by unfold bestStep; rw [if_neg (by omega), if_neg hs]
   rw [he]
   obtain ⟨h1, h2, h3⟩ := ZnM l y hy hl2
   refine ⟨?_, h2, fun x hx => ?_⟩
   ·rcases h1 with h1 | h1
    ·exact .inl h1
    ·exact .inr (List.mem_cons_of_mem _ h1)
   ·rcases List.mem_cons.1 hx with rfl | hx
    ·omega
    ·exact h3 x hx
theorem ZLD {l : List BoardD} (hl : ∀ b ∈ l, 1 ≤ b.1) (hb : (bestOf l).1 > 0) : bestOf l ∈ l ∧ ∀ b ∈ l, sizeL (bestOf l).2.2 ≤ sizeL b.2.2 := by
 cases l with
 | nil => exact absurd hb (by simp [bestOf])
 | cons b l =>
  have he : bestOf (b :: l) = l.foldl bestStep b := by
   unfold bestOf
   rw [List.foldl_cons]
   rfl
  obtain ⟨h1, h2, h3⟩ := ZnM l b (hl b (List.mem_cons_self ..)) (fun x hx => hl x (List.mem_cons_of_mem _ hx))
  rw [he]
  refine ⟨?_, fun x hx => ?_⟩
  ·rcases h1 with h1 | h1
   ·rw [h1]; exact List.mem_cons_self ..
   ·exact List.mem_cons_of_mem _ h1
  ·rcases List.mem_cons.1 hx with rfl | hx
   ·exact h2
   ·exact h3 x hx
theorem ZIg {c : ChD} : ∀ (j : Nat) (n : Int), (solsFrom c j n).length ≤ j
 | 0, n => by simp [solsFrom]
 | j + 1, n => by
  have := ZIg (c := c) j (n + 1)
  simp only [solsFrom]
  split
  ·simp only [List.length_cons]; omega
  ·omega
def cntS (l : List BoardD) (i : Nat) : Nat := (l.filter fun b => sizeL b.2.2 == i).length
theorem ZLH (l : List BoardD) (i : Nat) : cntS l i ≤ l.length := List.length_filter_le _ _
theorem ZKM (l : List BoardD) (b : BoardD) (i : Nat) : cntS (l ++ [b]) i = cntS l i + if sizeL b.2.2 = i then 1 else 0 := by
 unfold cntS
 rw [List.filter_append, List.length_append]
 by_cases h : sizeL b.2.2 = i <;> simp [h]
theorem ZI9 (m : Nat) : ∀ (l acc : List BoardD) (s : List Int), s.length = m → (∀ i, i < m → List.getD s i 0 = (cntS acc i : Int)) → (∀ b ∈ l, sizeL b.2.2 < m) → acc.length + l.length ≤ 1000000 →
  (l.foldl incrS s).length = m ∧ ∀ i, i < m → List.getD (l.foldl incrS s) i 0 = (cntS (acc ++ l) i : Int)
 | [], acc, s, hs, hc, hb, hl => ⟨hs, fun i hi => by rw [List.append_nil]; exact hc i hi⟩
 | b :: l, acc, s, hs, hc, hb, hl => by
  rw [List.foldl_cons]
  have hbs := hb b (List.mem_cons_self ..)
  have := ZI9 m l (acc ++ [b]) (incrS s b) ((Zxi s b).trans hs) (fun i hi => by
   have hle := ZLH acc (sizeL b.2.2)
   simp only [List.length_cons] at hl
   rw [ZKM]
   unfold incrS
   rw [hc _ hbs, w64 (by omega) (by omega)]
   by_cases h : sizeL b.2.2 = i
   ·subst h
    rw [List.getD_eq_getElem?_getD, List.getElem?_set_self (by omega)]
    simp
   ·rw [List.getD_eq_getElem?_getD, List.getElem?_set_ne h, ← List.getD_eq_getElem?_getD, hc i hi, if_neg h]
    simp) (fun x hx => hb x (List.mem_cons_of_mem _ hx)) (by simp only [List.length_append, List.length_cons, List.length_nil] at hl ⊢; omega)
  refine ⟨this.1, fun i hi => ?_⟩
  rw [this.2 i hi, List.append_assoc]
  rfl
theorem ZtD : ∀ (r pre : List Int), (∀ x ∈ r, x = 0) → (pre ++ r).length ≤ 1000000 → Ev (fun k => Za0 k 0 (pre ++ r) ((pre ++ r).length : Int) (pre.length : Int)) 0
 | [], pre, hr, hl => by
  refine Ev.succ ?_
  simp only [Za0, Za, decide_false, Bool.false_eq_true, if_false]
  exact Ev.some _
 | x :: r, pre, hr, hl => by
  have ih := ZtD r (pre ++ [x]) (fun y hy => hr y (List.mem_cons_of_mem _ hy)) (by simpa using hl)
  have hx := hr x (List.mem_cons_self ..)
  refine Ev.succ ?_
  simp only [Za0, Z8, Ze, decide_true, if_true, Int.toNat_natCast, Z3]
  rw [Z7 pre x r (by omega), hx, show wrap64 ((0 : Int) + 0) = 0 from (by rw [w64 (by omega) (by omega)]; rfl)]
  rw [← Z1, hx] at ih
  exact ih
theorem ZJf (l : List Int) (h : ∀ x ∈ l, x = 0) (hl : l.length ≤ 1000000) : Ev (fun k => ZjK k l) 0 := by
 have e0 := ZtD l [] h (by simpa using hl)
 simp only [List.nil_append, List.length_nil, Int.natCast_zero] at e0
 refine Ev.succ ?_
 simp only [ZjK]
 exact Ev.bind e0 (Ev.some _)
theorem ZeV (c : ChD) (b : BoardD) (hP : c.2.2.1.length ≤ 1000) : ∀ (r pre : List CellD), (∀ x ∈ r, x.1 = 0 ∨ x ∈ c.2.2.1) → (pre ++ r).length ≤ 1000000 →
  Ev (fun k => Z1g k c.1 c.2.1 c.2.2.1 c.2.2.2.1 c.2.2.2.2 b.1 b.2.1 b.2.2 (pre ++ r) ((pre ++ r).length : Int) (pre.length : Int)) (LR.go (c.1, c.2.1, c.2.2.1, c.2.2.2.1, c.2.2.2.2, b.1, b.2.1, b.2.2))
 | [], pre, hr, hl => by
  refine Ev.succ ?_
  simp only [Z1g, Za, decide_false, Bool.false_eq_true, if_false]
  exact Ev.some _
 | x :: r, pre, hr, hl => by
  have ih := ZeV c b hP r (pre ++ [x]) (fun y hy => hr y (List.mem_cons_of_mem _ hy)) (by simpa using hl)
  have hx := hr x (List.mem_cons_self ..)
  refine Ev.succ ?_
  simp only [Z1g, Z8, Ze, decide_true, if_true, Int.toNat_natCast, Z3]
  rw [Z7 pre x r (by omega)]
  rw [← Z1] at ih
  by_cases h0 : x.1 = 0
  ·simp only [h0, ne_eq, not_true_eq_false, decide_false, Bool.false_eq_true, if_false]
   exact ih
  ·have hm : x ∈ c.2.2.1 := hx.resolve_left h0
   simp only [h0, ne_eq, not_false_eq_true, decide_true, if_true]
   refine Ev.bind (ZpQ c.2.2.1 x (by omega)) ?_
   simp only [hm, decide_true, Bool.not_true, Bool.false_eq_true, if_false]
   exact ih
theorem Zqp (c : ChD) (h : challOK c = true) {m : Int} (hm : 0 ≤ m) (hmt : meetsB c (boardAt c m) = true) : Ev (fun k => Z7G k c (boardAt c m)) (true, true) := by
 have ha := Z6Q h
 obtain ⟨⟨c1, c2, c3, c4, a5, a6, a7, a8, a9⟩, _, _, ht⟩ := Z3K h
 have hbo := Zlf h hm
 have e0 := ZeV c (boardAt c m) (by omega) (boardAt c m).2.2 [] (fun x hx => by
  rcases Zty h hm x hx with rfl | hx
  ·exact .inl rfl
  ·exact .inr hx) (by rw [List.nil_append, Z2i]; omega)
 simp only [List.nil_append, List.length_nil, Int.natCast_zero] at e0
 refine Ev.succ ?_
 simp only [Z7G]
 refine Ev.bind (Zax c (by omega) (by omega)) ?_
 simp only [h, Bool.not_true, Bool.false_eq_true, if_false]
 refine Ev.bind (Z6G (boardAt c m) (by rw [Z2i]; omega)) ?_
 have d1 : (boardAt c m).1 = c.1 := rfl
 have d2 : (boardAt c m).2.1 = c.2.1 := rfl
 simp only [hbo, Bool.not_true, Bool.false_eq_true, if_false]
 rw [decide_eq_false (p := (boardAt c m).1 ≠ c.1) (by simp [d1]), decide_eq_false (p := (boardAt c m).2.1 ≠ c.2.1) (by simp [d2])]
 simp only [Bool.false_eq_true, if_false]
 refine Ev.bind e0 (Ev.go ?_)
 refine Ev.bind (Zqu c (boardAt c m) hbo a9 (by omega) (Zhv h m) (by rw [Z2i]; omega)) ?_
 rw [hmt]
 exact Ev.some _
def ZQ (c : ChD) : BoardD × Bool := if challOK c = true then (bestOf (solsOf c), decide ((bestOf (solsOf c)).1 > 0)) else ((0, 0, []), false)
theorem Zt0 (c : ChD) (h1 : c.2.2.1.length ≤ 1000000) (h2 : c.2.2.2.1.length ≤ 1000000) : Ev (fun k => Z8E k c) (ZQ c) := by
 refine Ev.succ ?_
 simp only [Z8E]
 unfold ZQ
 refine Ev.bind (Zax c h1 h2) ?_
 by_cases h : challOK c = true
 ·simp only [h, Bool.not_true, Bool.false_eq_true, if_false, if_true]
  exact Ev.bind (ZkH c h) (Ev.some _)
 ·have h' : challOK c = false := by simpa using h
  simp only [h', Bool.not_false, if_true, Bool.false_eq_true, if_false]
  exact Ev.some _
theorem Zta (c : ChD) (h1 : c.2.2.1.length ≤ 1000000) (h2 : c.2.2.2.1.length ≤ 1000000) (h3 : c.2.2.2.2.length ≤ 1000000) : Ev (fun k => Z8L k c) (ZQ c) := by
 refine Ev.succ ?_
 simp only [Z8L]
 unfold ZQ
 refine Ev.bind (Zuk c h1 h2 h3) ?_
 by_cases h : challOK c = true
 ·have ha := Z6Q h
  obtain ⟨⟨c1, c2, c3, c4, a5, a6, a7, a8, a9⟩, _, _, ht⟩ := Z3K h
  obtain ⟨v6, v7, v8, e1, hR⟩ := Zq1 c h
  simp only [h, Bool.not_true, Bool.false_eq_true, if_false, if_true]
  refine Ev.bind e1 ?_
  rcases hR with ⟨hb, h7⟩ | ⟨y1, y2, y3, y4, y5⟩
  ·simp only [h7, decide_true, if_true]
   rw [hb]
   exact Ev.some _
  ·have h7 : ¬ v7 < 0 := by omega
   simp only [h7, decide_false, Bool.false_eq_true, if_false]
   refine Ev.bind (Zjz c (by omega) (by omega) (by omega) v7 y2 (by omega)) ?_
   rw [y4]
   refine (Ev.some _).congr ?_
   rw [decide_eq_true (show (bestOf (solsOf c)).1 > 0 by omega)]
 ·have h' : challOK c = false := by simpa using h
  simp only [h', Bool.not_false, if_true, Bool.false_eq_true, if_false]
  exact Ev.some _
theorem ZoW (c : ChD) (h1 : c.2.2.1.length ≤ 1000000) (h2 : c.2.2.2.1.length ≤ 1000000) (h3 : c.2.2.2.2.length ≤ 1000000) : Ev (fun k => Z75 k c) (if challOK c = true then ((solsOf c).foldl incrS (zerosOf c), true) else ([], false)) := by
 refine Ev.succ ?_
 simp only [Z75]
 refine Ev.bind (Zuk c h1 h2 h3) ?_
 by_cases h : challOK c = true
 ·obtain ⟨v6, v7, v8, e1, hR⟩ := Zq1 c h
  simp only [h, Bool.not_true, Bool.false_eq_true, if_false, if_true]
  exact Ev.bind e1 (Ev.some _)
 ·have h' : challOK c = false := by simpa using h
  simp only [h', Bool.not_false, if_true, Bool.false_eq_true, if_false]
  exact Ev.some _
end
section
theorem ZDd {c : ChD} (h : challOK c = true) : bestOf (solsOf c) = (0, 0, []) ∨ ∃ m, 0 ≤ m ∧ bestOf (solsOf c) = boardAt c m ∧ meetsB c (boardAt c m) = true ∧ boardAt c m ∈ solsOf c ∧ ∀ b ∈ solsOf c, sizeL (boardAt c m).2.2 ≤ sizeL b.2.2 := by
 obtain ⟨⟨c1, _⟩, _⟩ := Z3K h
 have hall : ∀ b ∈ solsOf c, 1 ≤ b.1 := fun b hb => by
  obtain ⟨m, _, rfl, _⟩ := Zmw _ _ (by omega) b hb
  exact c1
 by_cases hb : (bestOf (solsOf c)).1 > 0
 ·obtain ⟨h1, h2⟩ := ZLD hall hb
  obtain ⟨m, h3, h4, h5⟩ := Zmw _ _ (by omega) _ h1
  refine .inr ⟨m, h3, h4, by rw [← h4]; exact h5, by rw [← h4]; exact h1, by rw [← h4]; exact h2⟩
 ·left
  generalize solsOf c = l at hall hb
  cases l with
  | nil => rfl
  | cons b l =>
   exfalso
   have he : bestOf (b :: l) = l.foldl bestStep b := by
    unfold bestOf
    rw [List.foldl_cons]
    rfl
   obtain ⟨h1, _, _⟩ := ZnM l b (hall b (List.mem_cons_self ..)) (fun x hx => hall x (List.mem_cons_of_mem _ hx))
   rw [he] at hb
   rcases h1 with h1 | h1
   ·have := hall b (List.mem_cons_self ..)
    rw [h1] at hb
    omega
   ·have := hall _ (List.mem_cons_of_mem _ h1)
    omega
theorem ZCp (b : BoardD) (hb : boardOK b = true) (hl : b.2.2.length ≤ 1000000) : Ev (fun k => Zcm k b) ((sizeL b.2.2 : Int), true) := by
 refine Ev.succ ?_
 simp only [Zcm]
 refine Ev.bind (Z6G b (by omega)) ?_
 simp only [hb, Bool.not_true, Bool.false_eq_true, if_false]
 exact Ev.bind (Zbs b hl) (Ev.some _)
theorem Zw3 (c : ChD) (h : challOK c = true) {m : Int} (hm : bestOf (solsOf c) = boardAt c m) : Ev (fun k => ZaD k c) ((sizeL (boardAt c m).2.2 : Int), true) := by
 have ha := Z6Q h
 obtain ⟨⟨c1, c2, c3, c4, a5, a6, a7, a8, a9⟩, _, _, ht⟩ := Z3K h
 have es := ZkH c h
 rw [hm, decide_eq_true (show (boardAt c m).1 > 0 from by show c.1 > 0; omega)] at es
 refine Ev.succ ?_
 simp only [ZaD]
 refine Ev.bind (Zax c (by omega) (by omega)) ?_
 simp only [h, Bool.not_true, Bool.false_eq_true, if_false]
 exact Ev.bind es (Ev.bind (Zbs (boardAt c m) (by rw [Z2i]; omega)) (Ev.some _))
theorem ZCs (c : ChD) (h1 : c.2.2.1.length ≤ 1000000) (h2 : c.2.2.2.1.length ≤ 1000000) (h3 : c.2.2.2.2.length ≤ 1000000) (b : BoardD) (hb : b.2.2.length ≤ 1000000) (t : List Int) (ht : t.length ≤ 1000000) (s : List FallD) (hs : s.length ≤ 1000000) :
  Ev (fun k => Z4P k c.1 c.2.1 c.2.2.1 c.2.2.2.1 c.2.2.2.2 b.1 b.2.1 b.2.2 t s) true := by
 have ec := ZC6 b hb t ht s hs
 have ei := Zt0 c h1 h2
 have es := Zta c h1 h2 h3
 simp only [Z4P]
 refine Ev.bind ei (Ev.bind es ?_)
 simp only [beq_self_eq_true, Bool.not_true, Bool.false_eq_true, if_false]
 have rest : (ZQ c).2 = false → (ZQ c).1 = (0, 0, []) := by
  unfold ZQ
  by_cases h : challOK c = true
  ·rw [if_pos h]
   intro hf
   rcases ZDd h with hz | ⟨m, _, hm, _⟩
   ·exact hz
   ·exfalso
    obtain ⟨⟨c1, _⟩, _⟩ := Z3K h
    have hf := of_decide_eq_false hf
    rw [hm] at hf
    exact hf (show c.1 > 0 by omega)
  ·rw [if_neg h]; intro _; rfl
 by_cases ho : (ZQ c).2 = true
 ·have h : challOK c = true := by
   unfold ZQ at ho
   by_cases h : challOK c = true
   ·exact h
   ·rw [if_neg h] at ho; cases ho
  have ha := Z6Q h
  have htp := Z3K h
  obtain ⟨⟨c1, c2, c3, c4, a5, a6, a7, a8, a9⟩, _, _, htr⟩ := htp
  obtain ⟨m, hm0, hm, hmt, hmem, hmin⟩ : ∃ m, 0 ≤ m ∧ bestOf (solsOf c) = boardAt c m ∧ meetsB c (boardAt c m) = true ∧ boardAt c m ∈ solsOf c ∧ ∀ b ∈ solsOf c, sizeL (boardAt c m).2.2 ≤ sizeL b.2.2 := by
   rcases ZDd h with hz | hx
   ·exfalso
    unfold ZQ at ho
    rw [if_pos h] at ho
    have := of_decide_eq_true ho
    rw [hz] at this
    exact absurd this (by decide)
   ·exact hx
  have hR : ZQ c = (boardAt c m, true) := by
   unfold ZQ
   rw [if_pos h, hm, decide_eq_true (show (boardAt c m).1 > 0 from by show c.1 > 0; omega)]
  rw [hR]
  have hlen : (boardAt c m).2.2.length ≤ 1000000 := by rw [Z2i]; omega
  refine Ev.bind (Zat (boardAt c m) hlen) ?_
  simp only [Bool.not_true, Bool.false_eq_true, if_false, if_true]
  refine Ev.bind (Zqp c h hm0 hmt) ?_
  have e12 := Zpd c h1 h2
  have e13 := ZoW c h1 h2 h3
  rw [if_pos h] at e12 e13
  refine Ev.bind e12 (Ev.bind e13 (Ev.bind (ZCp _ (Zlf h hm0) hlen) (Ev.bind (Zw3 c h hm) ?_)))
  have hsl : (solsOf c).length ≤ 7000 := by
   have := ZIg (c := c) (triedOf c).toNat 0
   unfold solsOf
   omega
  obtain ⟨hS1, hS2⟩ := ZI9 (c.1 * c.2.1 + 1).toNat (solsOf c) [] (zerosOf c) (by simp [zerosOf]) (fun i hi => by
   unfold zerosOf cntS
   rw [List.getD_eq_getElem?_getD, List.getElem?_replicate, if_pos hi]
   simp) (fun x hx => by
   obtain ⟨n, _, rfl, _⟩ := Zmw _ _ (by omega) x hx
   exact Zy9 h n) (by simp; omega)
  rw [List.nil_append] at hS2
  generalize hS : (solsOf c).foldl incrS (zerosOf c) = S at hS1 hS2 ⊢
  have hsz := Zy9 h m
  generalize hp : sizeL (boardAt c m).2.2 = p at hsz hmin ⊢
  simp only [Bool.not_true, Bool.false_eq_true, if_false]
  refine Ev.bind (Zxk S S (by omega)) ?_
  have hcp : 1 ≤ cntS (solsOf c) p := by
   unfold cntS
   refine List.length_pos_of_mem (a := boardAt c m) (List.mem_filter.2 ⟨hmem, by simp [hp]⟩)
  have q1 : ¬ (p : Int) < 0 := by omega
  have q2 : ¬ (p : Int) ≥ (S.length : Int) := by omega
  have q3 : (0 : Int) ≤ (p : Int) := by omega
  have q4 : (p : Int) < (S.length : Int) := by omega
  have q5 : (p : Int) ≤ (S.length : Int) := by omega
  have q6 : ¬ List.getD S p 0 < 1 := by rw [hS2 p hsz]; omega
  simp only [decide_true, Bool.not_true, Bool.false_eq_true, if_false, ne_eq, not_true_eq_false, decide_false, q1, q2, q3, q4, q5, if_true, Int.toNat_natCast, q6]
  refine Ev.bind (ZJf _ ?_ ?_) ?_
  ·intro x hx
   simp only [Int.toNat_zero, Nat.sub_zero, List.drop_zero] at hx
   obtain ⟨i, hi⟩ := List.getElem?_of_mem hx
   rw [List.getElem?_take] at hi
   split at hi
   ·rename_i hip
    have hg := hS2 i (by omega)
    rw [List.getD_eq_getElem?_getD, hi] at hg
    have hz : cntS (solsOf c) i = 0 := by
     unfold cntS
     rw [List.length_eq_zero_iff, List.filter_eq_nil_iff]
     intro y hy
     have := hmin y hy
     simp
     omega
    rw [hz] at hg
    simpa using hg
   ·cases hi
  ·simp only [List.length_take, List.length_drop]
   omega
  ·simp only [ne_eq, not_true_eq_false, decide_false, Bool.false_eq_true, if_false]
   exact Ev.bind ec (Ev.some _)
 ·have ho' : (ZQ c).2 = false := by simpa using ho
  rw [rest ho', ho']
  refine Ev.bind (Zat (0, 0, []) (by simp)) ?_
  simp only [Bool.not_true, Bool.false_eq_true, if_false]
  exact Ev.bind ec (Ev.some _)
end
set_option maxRecDepth 100000
section
def lists01 : Nat → List (List Int)
 | 0 => [[]]
 | n + 1 => (lists01 n).map (fun l => 0 :: l) ++ (lists01 n).map (fun l => 1 :: l)
theorem ZA7 : ∀ (l : List Int), (∀ x ∈ l, x = 0 ∨ x = 1) → l ∈ lists01 l.length
 | [], _ => by simp [lists01]
 | x :: l, h => by
  have ih := ZA7 l (fun y hy => h y (List.mem_cons_of_mem _ hy))
  simp only [List.length_cons, lists01, List.mem_append, List.mem_map]
  rcases h x (List.mem_cons_self ..) with rfl | rfl
  ·exact .inl ⟨l, ih, rfl⟩
  ·exact .inr ⟨l, ih, rfl⟩
def exch : List Int → List (Int × Int) × List Int
 | x :: y :: r => if x > y then ((2, 0) :: (1, 0) :: (exch r).1, y :: x :: (exch r).2) else ((0, 0) :: (0, 0) :: (exch r).1, x :: y :: (exch r).2)
 | l => (l.map fun _ => (0, 0), l)
def rowOf (r : Nat) (l : List Int) : List (Int × Int) × List Int := if r % 2 = 0 then exch l else match l with
 | x :: l => ((0, 0) :: (exch l).1, x :: (exch l).2)
 | [] => ([], [])
def isSort : List Int → Bool
 | x :: y :: r => decide (x ≤ y) && isSort (y :: r)
 | _ => true
def sortGo : Nat → Nat → List Int → Nat × List (Int × Int)
 | 0, r, _ => (r, [])
 | f + 1, r, l => if r != 0 && isSort l then (r, []) else ((sortGo f (r + 1) (rowOf r l).2).1, (rowOf r l).1 ++ (sortGo f (r + 1) (rowOf r l).2).2)
def zerosIn : List Int → Nat
 | [] => 0
 | x :: r => (if x = 0 then 1 else 0) + zerosIn r
def sortB (l : List Int) : BoardD := (((sortGo 12 0 l).1 : Int), (l.length : Int), (sortGo 12 0 l).2)
noncomputable def sortChk (k : Nat) (m : Int) (l : List Int) : Bool := (match Z41 (k + 40) (m, l) with
  | some (b, s, _) => decide (b = sortB l) && decide (s = (zerosIn l : Int))
  | none => false) && ((match ZbG (k + 40) (m, l) with
  | some b => decide (b = sortB l)
  | none => false) && (match ZbS (k + 40) (m, l) with
  | some s => decide (s = (zerosIn l : Int))
  | none => false))
theorem ZKU (k : Nat) (m : Int) : (lists01 1).all (sortChk k m) = true := by kernel_rfl
theorem ZKw (k : Nat) (m : Int) : (lists01 2).all (sortChk k m) = true := by kernel_rfl
theorem ZKT (k : Nat) (m : Int) : (lists01 4).all (sortChk k m) = true := by kernel_rfl
theorem ZKO (k : Nat) (m : Int) : (lists01 8).all (sortChk k m) = true := by kernel_rfl
def fallAt (b : BoardD) (z : Int) (l : List Int) (c : Nat) : Bool := decide ((fallOf b (groupsOf b) (kindsB b []) (c : Int) b.2.2).1.1 = 1) && (decide ((fallOf b (groupsOf b) (kindsB b []) (c : Int) b.2.2).1.2.2 ≥ z) == decide (List.getD l c 0 = 1))
def fallChk (l : List Int) : Bool := boardOK (sortB l) && (List.range l.length).all (fallAt (sortB l) (zerosIn l : Int) l)
theorem ZKG : (lists01 1).all fallChk = true := by kernel_rfl
theorem ZKI : (lists01 2).all fallChk = true := by kernel_rfl
theorem ZKx : (lists01 4).all fallChk = true := by kernel_rfl
end
section
theorem ZKS : (lists01 8).all fallChk = true := by kernel_rfl
end
section
abbrev TblD := Int × List Int
def bitsB (l : List Int) : Bool := l.all fun x => decide (0 ≤ x ∧ x ≤ 1)
def tblOK (t : TblD) : Bool := decide (0 ≤ t.1 ∧ t.1 ≤ 4) && (decide ((t.2.length : Int) = 2 ^ t.1.toNat) && bitsB t.2)
theorem five {m : Int} (h0 : 0 ≤ m) (h4 : m ≤ 4) : m = 0 ∨ m = 1 ∨ m = 2 ∨ m = 3 ∨ m = 4 := by omega
theorem Zy6 {m : Int} (h0 : 0 ≤ m) (h4 : m ≤ 4) : shlS 1 m = 2 ^ m.toNat := by
 rw [ZJV]
 rcases five h0 h4 with rfl | rfl | rfl | rfl | rfl <;> rw [w64 (by decide) (by decide)] <;> decide
theorem Zmj : ∀ (r pre : List Int), (pre ++ r).length ≤ 1000000 → Ev (fun k => Z4x k (pre ++ r) ((pre ++ r).length : Int) (pre.length : Int)) (if bitsB r = true then LR.go () else LR.ret false)
 | [], pre, hl => by
  refine Ev.succ ?_
  simp only [Z4x, Za, decide_false, Bool.false_eq_true, if_false, bitsB, List.all_nil, if_true]
  exact Ev.some _
 | x :: r, pre, hl => by
  have ih := Zmj r (pre ++ [x]) (by simpa using hl)
  refine Ev.succ ?_
  simp only [Z4x, Z8, Ze, decide_true, if_true, Int.toNat_natCast, Z3]
  rw [Z7 pre x r (by omega)]
  rw [← Z1] at ih
  by_cases h0 : x = 0
  ·have hb : bitsB (x :: r) = bitsB r := by simp [bitsB, h0]
   rw [hb]
   simp only [h0, ne_eq, not_true_eq_false, decide_false, Bool.false_eq_true, if_false]
   rw [h0] at ih
   exact ih
  ·by_cases h1 : x = 1
   ·have hb : bitsB (x :: r) = bitsB r := by simp [bitsB, h1]
    rw [hb]
    simp only [h0, h1, ne_eq, not_true_eq_false, not_false_eq_true, decide_false, decide_true, Bool.false_eq_true, if_false, if_true, show ¬ (1 : Int) = 0 by omega]
    rw [h1] at ih
    exact ih
   ·have hb : bitsB (x :: r) = false := by
     have : decide (0 ≤ x ∧ x ≤ 1) = false := decide_eq_false (by omega)
     simp only [bitsB, List.all_cons, this, Bool.false_and]
    rw [hb]
    simp only [h0, h1, ne_eq, not_false_eq_true, decide_true, Bool.false_eq_true, if_false, if_true]
    exact Ev.some _
theorem ZEu (l : List Int) (hl : l.length ≤ 1000000) : Ev (fun k => ZeB k l) (bitsB l) := by
 have e0 := Zmj l [] (by simpa using hl)
 simp only [List.nil_append, List.length_nil, Int.natCast_zero] at e0
 refine Ev.succ ?_
 simp only [ZeB]
 refine Ev.bind e0 ?_
 cases bitsB l with
 | true => simp only [if_true]; exact Ev.go (Ev.some _)
 | false => simp only [Bool.false_eq_true, if_false]; exact Ev.ret (Ev.some _)
theorem ZpZ (t : TblD) (hl : t.2.length ≤ 1000000) : Ev (fun k => ZbA k t) (tblOK t) := by
 refine Ev.succ ?_
 simp only [ZbA]
 unfold tblOK
 by_cases h0 : t.1 ≥ 0
 ·by_cases h4 : t.1 ≤ 4
  ·rw [Zy6 h0 h4]
   simp only [h0, h4, ge_iff_le, and_self, decide_true, if_true, show ¬ t.1 < 0 by omega, if_false, Bool.true_and]
   by_cases h2 : (t.2.length : Int) = 2 ^ t.1.toNat
   ·simp only [h2, decide_true, if_true, Bool.true_and]
    exact Ev.bind (ZEu t.2 hl) (Ev.some _)
   ·simp only [h2, decide_false, Bool.false_eq_true, if_false, Bool.false_and]
    exact Ev.some _
  ·rw [decide_eq_false (p := 0 ≤ t.1 ∧ t.1 ≤ 4) (by omega)]
   simp only [h0, h4, decide_true, decide_false, if_true, Bool.false_eq_true, if_false, Bool.false_and]
   exact Ev.some _
 ·rw [decide_eq_false (p := 0 ≤ t.1 ∧ t.1 ≤ 4) (by omega)]
  simp only [h0, decide_false, Bool.false_eq_true, if_false, Bool.false_and]
  exact Ev.some _
theorem u_id {m : Int} (h0 : 0 ≤ m) (h4 : m ≤ 4) : IntKind.wrap IntKind.u64 m = m := by
 rcases five h0 h4 with rfl | rfl | rfl | rfl | rfl <;> rfl
theorem ZHG (t : TblD) (hl : t.2.length ≤ 1000000) : Ev (fun k => ZfP k t) (tblOK t) := by
 refine Ev.succ ?_
 simp only [ZfP]
 unfold tblOK
 have e1 : Ev (fun k => ZdC k t.1) (decide (0 ≤ t.1 ∧ t.1 ≤ 4)) := by
  refine Ev.succ ?_
  simp only [ZdC]
  exact Ev.bind (Z1o t.1 0 4) (Ev.some _)
 refine Ev.bind e1 ?_
 by_cases h : 0 ≤ t.1 ∧ t.1 ≤ 4
 ·rw [u_id h.1 h.2, Zy6 h.1 h.2]
  simp only [h, and_self, decide_true, if_true, show ¬ t.1 < 0 by omega, if_false, Bool.true_and]
  by_cases h2 : (t.2.length : Int) = 2 ^ t.1.toNat
  ·simp only [h2, decide_true, if_true, Bool.true_and]
   exact Ev.bind (ZhY t.2 0 1 (by omega)) (Ev.some _)
  ·simp only [h2, decide_false, Bool.false_eq_true, if_false, Bool.false_and]
   exact Ev.some _
 ·simp only [h, decide_false, Bool.false_eq_true, if_false, Bool.false_and]
  exact Ev.some _
def smallT (t : TblD) : Bool := tblOK t && decide (t.1 ≤ 3)
theorem ZnL {t : TblD} (h : smallT t = true) : (0 ≤ t.1 ∧ t.1 ≤ 3) ∧ (t.2.length = 1 ∨ t.2.length = 2 ∨ t.2.length = 4 ∨ t.2.length = 8) ∧ (∀ x ∈ t.2, x = 0 ∨ x = 1) ∧ (t.2.length : Int) = 2 ^ t.1.toNat := by
 unfold smallT tblOK bitsB at h
 simp only [Bool.and_eq_true, decide_eq_true_eq, List.all_eq_true] at h
 obtain ⟨⟨⟨h0, h4⟩, hl, hb⟩, h3⟩ := h
 refine ⟨⟨h0, h3⟩, ?_, fun x hx => by have := hb x hx; omega, hl⟩
 rcases five h0 h4 with h | h | h | h | h <;> rw [h] at hl <;> simp at hl <;> omega
theorem ZK0 {f : List Int → Bool} (h1 : (lists01 1).all f = true) (h2 : (lists01 2).all f = true) (h4 : (lists01 4).all f = true) (h8 : (lists01 8).all f = true) {l : List Int} (hl : l.length = 1 ∨ l.length = 2 ∨ l.length = 4 ∨ l.length = 8) (hb : ∀ x ∈ l, x = 0 ∨ x = 1) : f l = true := by
 have hm := ZA7 l hb
 rcases hl with h | h | h | h <;> rw [h] at hm
 ·exact List.all_eq_true.1 h1 l hm
 ·exact List.all_eq_true.1 h2 l hm
 ·exact List.all_eq_true.1 h4 l hm
 ·exact List.all_eq_true.1 h8 l hm
theorem ZG7 {t : TblD} (h : smallT t = true) : (∀ k, 40 ≤ k → ∃ e, Z41 k t = some (sortB t.2, (zerosIn t.2 : Int), e)) ∧ Ev (fun k => ZbG k t) (sortB t.2) ∧ Ev (fun k => ZbS k t) (zerosIn t.2 : Int) := by
 obtain ⟨_, hl, hb, _⟩ := ZnL h
 have hc : ∀ k, sortChk k t.1 t.2 = true := fun k => ZK0 (ZKU k t.1) (ZKw k t.1) (ZKT k t.1) (ZKO k t.1) hl hb
 have hc2 : ∀ k, 40 ≤ k → (match Z41 k t with
  | some (b, s, _) => decide (b = sortB t.2) && decide (s = (zerosIn t.2 : Int))
  | none => false) = true ∧ (match ZbG k t with
  | some b => decide (b = sortB t.2)
  | none => false) = true ∧ (match ZbS k t with
  | some s => decide (s = (zerosIn t.2 : Int))
  | none => false) = true := by
  intro k hk
  obtain ⟨k, rfl⟩ : ∃ k', k = k' + 40 := ⟨k - 40, by omega⟩
  have := hc k
  unfold sortChk at this
  simp only [Bool.and_eq_true] at this ⊢
  exact this
 refine ⟨fun k hk => ?_, ⟨40, fun k hk => ?_⟩, ⟨40, fun k hk => ?_⟩⟩
 ·have := (hc2 k hk).1
  split at this
  ·rename_i b s e he
   simp only [Bool.and_eq_true, decide_eq_true_eq] at this
   exact ⟨e, by rw [he, this.1, this.2]⟩
  ·cases this
 ·have := (hc2 k hk).2.1
  split at this
  ·rename_i b he
   exact he.trans (by rw [of_decide_eq_true this])
  ·cases this
 ·have := (hc2 k hk).2.2
  split at this
  ·rename_i b he
   exact he.trans (by rw [of_decide_eq_true this])
  ·cases this
def Z1F (t : TblD) : BoardD × Int × Bool := if smallT t = true then (sortB t.2, (zerosIn t.2 : Int), true) else ((0, 0, []), 0, false)
theorem Zvr (t : TblD) (hl : t.2.length ≤ 1000000) : Ev (fun k => Z9A k t) (Z1F t) := by
 refine Ev.succ ?_
 simp only [Z9A]
 unfold Z1F
 refine Ev.bind (ZpZ t hl) ?_
 by_cases h : tblOK t = true
 ·by_cases h3 : t.1 ≤ 3
  ·have hs : smallT t = true := by unfold smallT; rw [h, decide_eq_true h3]; rfl
   obtain ⟨h1, _, _⟩ := ZG7 hs
   simp only [h, hs, Bool.not_true, Bool.false_eq_true, if_false, if_true, show ¬ t.1 > 3 by omega, decide_false]
   refine ⟨40, fun k hk => ?_⟩
   obtain ⟨e, he⟩ := h1 k hk
   show Option.bind (Z41 k t) _ = _
   rw [he]
   rfl
  ·have hs : smallT t = false := by unfold smallT; rw [decide_eq_false h3, Bool.and_false]
   simp only [h, hs, Bool.not_true, Bool.false_eq_true, if_false, if_true, show t.1 > 3 by omega, decide_true]
   exact Ev.some _
 ·have h' : tblOK t = false := by simpa using h
  have hs : smallT t = false := by unfold smallT; rw [h', Bool.false_and]
  simp only [h', hs, Bool.not_false, Bool.false_eq_true, if_false, if_true]
  exact Ev.some _
theorem ZvZ (t : TblD) (hl : t.2.length ≤ 1000000) : Ev (fun k => Z9T k t) (Z1F t) := by
 have e1 : Ev (fun k => ZeG k t) (smallT t) := by
  refine Ev.succ ?_
  simp only [ZeG]
  unfold smallT
  refine Ev.bind (ZHG t hl) ?_
  by_cases h : tblOK t = true
  ·simp only [h, if_true, Bool.true_and]; exact Ev.some _
  ·have h' : tblOK t = false := by simpa using h
   simp only [h', Bool.false_eq_true, if_false, Bool.false_and]; exact Ev.some _
 refine Ev.succ ?_
 simp only [Z9T]
 unfold Z1F
 refine Ev.bind e1 ?_
 by_cases hs : smallT t = true
 ·obtain ⟨_, h2, h3⟩ := ZG7 hs
  simp only [hs, Bool.not_true, Bool.false_eq_true, if_false, if_true]
  exact Ev.bind h2 (Ev.bind h3 (Ev.some _))
 ·have hs' : smallT t = false := by simpa using hs
  simp only [hs', Bool.not_false, Bool.false_eq_true, if_false, if_true]
  exact Ev.some _
end
section
theorem Zth (b : BoardD) (hb : boardOK b = true) (hl : b.2.2.length ≤ 1000000) (c : Int) (h0 : 0 ≤ c) (h1 : c < b.2.1) : Ev (fun k => ZcQ k b c) ((fallOf b (groupsOf b) (kindsB b []) c b.2.2).1, true) := by
 have hx : ∀ x ∈ b.2.2, cellOK x = true := by
  have := hb
  unfold boardOK at this
  simp only [Bool.and_eq_true, List.all_eq_true] at this
  exact this.2
 obtain ⟨p, hp⟩ := ZAs b hb (groupsOf b) (Ze2 b) c h0 h1 b.2.2 rfl hx
 have ev := Zz3 b c (by omega)
 rw [hb, decide_eq_true (show 0 ≤ c ∧ c < b.2.1 from ⟨h0, h1⟩)] at ev
 refine Ev.succ ?_
 simp only [ZcQ, Z69]
 refine Ev.bind ev ?_
 simp only [Bool.and_self, Bool.not_true, Bool.false_eq_true, if_false]
 refine Ev.bind (Ev.bind (ZgG b hl) (Ev.bind (Zdf b hb) (Ev.bind hp (Ev.some _)))) ?_
 exact Ev.some _
structure Sorts (t : TblD) (b : BoardD) (z : Int) : Prop where
 ok : boardOK b = true
 cols : b.2.1 = (t.2.length : Int)
 len : b.2.2.length ≤ 1000000
 fall : ∀ c : Nat, c < t.2.length → (fallOf b (groupsOf b) (kindsB b []) (c : Int) b.2.2).1.1 = 1 ∧ (((fallOf b (groupsOf b) (kindsB b []) (c : Int) b.2.2).1.2.2 ≥ z) ↔ List.getD t.2 c 0 = 1)
 bits : ∀ x ∈ t.2, x = 0 ∨ x = 1
 tlen : t.2.length ≤ 8
 split : 0 ≤ z ∧ z ≤ (t.2.length : Int)
theorem ZDV : ∀ l : List Int, zerosIn l ≤ l.length
 | [] => Nat.le_refl _
 | x :: r => by
  have := ZDV r
  simp only [zerosIn, List.length_cons]
  split <;> omega
theorem sorts {t : TblD} (h : smallT t = true) : Sorts t (sortB t.2) (zerosIn t.2 : Int) := by
 obtain ⟨_, hl, hb, _⟩ := ZnL h
 have hc := ZK0 ZKG ZKI ZKx ZKS hl hb
 unfold fallChk at hc
 simp only [Bool.and_eq_true, List.all_eq_true, List.mem_range] at hc
 obtain ⟨hok, hf⟩ := hc
 have hz := ZDV t.2
 refine ⟨hok, rfl, ?_, fun c hc => ?_, hb, by omega, by omega, by omega⟩
 ·have := hok
  unfold boardOK at this
  simp only [Bool.and_eq_true, decide_eq_true_eq] at this
  obtain ⟨⟨a1, a2, a3, a4, a5⟩, _⟩ := this
  have : (sortB t.2).1 * (sortB t.2).2.1 ≤ 10 * 9 := Int.mul_le_mul a2 a4 (by omega) (by omega)
  omega
 ·have := hf c hc
  unfold fallAt at this
  simp only [Bool.and_eq_true, decide_eq_true_eq, beq_iff_eq, decide_eq_decide] at this
  exact this
theorem Zo9 {t : TblD} {b : BoardD} {z : Int} (hS : Sorts t b z) : ∀ (r pre : List Int), pre ++ r = t.2 → Ev (fun k => Z3E k b.1 b.2.1 b.2.2 pre z (pre.length : Int)) (pre ++ r)
 | [], pre, h => by
  have hl : (pre.length : Int) = b.2.1 := by rw [hS.cols, ← h]; simp
  refine Ev.succ ?_
  simp only [Z3E]
  rw [decide_eq_false (p := (pre.length : Int) < b.2.1) (by omega)]
  simp only [Bool.false_eq_true, if_false, List.append_nil]
  exact Ev.some _
 | x :: r, pre, h => by
  have hlt : pre.length < t.2.length := by rw [← h]; simp
  have htl := hS.tlen
  have hlb : (pre.length : Int) < b.2.1 := by rw [hS.cols]; omega
  have hgd : List.getD t.2 pre.length 0 = x := by rw [← h]; exact Z3 _ _ _ _
  have hx : x = 0 ∨ x = 1 := hS.bits x (by rw [← h]; simp)
  obtain ⟨f1, f2⟩ := hS.fall pre.length hlt
  rw [hgd] at f2
  have ih := Zo9 hS r (pre ++ [x]) (by rw [← h]; simp)
  have ev : Ev (fun k => Z9N k b z (pre.length : Int)) x := by
   refine Ev.succ ?_
   simp only [Z9N]
   refine Ev.bind (Zth b hS.ok hS.len _ (by omega) hlb) ?_
   simp only [f1, ne_eq, not_true_eq_false, decide_false, Bool.false_eq_true, if_false]
   by_cases hz : (fallOf b (groupsOf b) (kindsB b []) (pre.length : Int) b.2.2).1.2.2 ≥ z
   ·simp only [hz, decide_true, if_true]
    exact (Ev.some _).congr (f2.1 hz).symm
   ·simp only [hz, decide_false, Bool.false_eq_true, if_false]
    refine (Ev.some _).congr ?_
    rcases hx with hx | hx
    ·exact hx.symm
    ·exact absurd (f2.2 hx) hz
  refine Ev.succ ?_
  simp only [Z3E]
  rw [decide_eq_true hlb]
  simp only [if_true]
  refine Ev.bind ev ?_
  have hcap : pre.length + [x].length ≤ 140737488355328 / 8 := by simp; omega
  simp only [hcap, if_true]
  rw [w64 (by omega) (by omega)]
  rw [show (pre.length : Int) + 1 = ((pre ++ [x]).length : Int) by simp]
  exact ih.congr (by simp)
theorem ZtK {t : TblD} {b : BoardD} {z : Int} (hS : Sorts t b z) : Ev (fun k => Z7o k b z) t.2 := by
 have e0 := Zo9 hS t.2 [] rfl
 simp only [List.nil_append, List.length_nil, Int.natCast_zero] at e0
 refine Ev.succ ?_
 simp only [Z7o]
 exact Ev.bind e0 (Ev.some _)
theorem ZlF (m : Int) : ∀ (r pre : List Int), (pre ++ r).length ≤ 1000000 → Ev (fun k => Z1P k m (pre ++ r) [] (pre ++ r) ((pre ++ r).length : Int) (pre.length : Int)) []
 | [], pre, hl => by
  refine Ev.succ ?_
  simp only [Z1P, Za, decide_false, Bool.false_eq_true, if_false]
  exact Ev.some _
 | x :: r, pre, hl => by
  have ih := ZlF m r (pre ++ [x]) (by simpa using hl)
  refine Ev.succ ?_
  simp only [Z1P, Z8, Ze, decide_true, if_true, Int.toNat_natCast, Z3, ne_eq, not_true_eq_false, decide_false, Bool.false_eq_true, if_false]
  rw [Z7 pre x r (by omega)]
  rw [← Z1] at ih
  exact ih
theorem Zm8 (v2 : Int) (b1 : Int) (o2 : List Int) : ∀ (r pre : List Int), (∀ x ∈ r, x = 0 ∨ x = 1) → (pre ++ r).length ≤ 1000000 → Ev (fun k => Z2W k b1 o2 (pre ++ r) v2 ((pre ++ r).length : Int) (pre.length : Int)) (LR.go (b1, o2, pre ++ r, v2))
 | [], pre, hb, hl => by
  refine Ev.succ ?_
  simp only [Z2W, Za, decide_false, Bool.false_eq_true, if_false]
  exact Ev.some _
 | x :: r, pre, hb, hl => by
  have ih := Zm8 v2 b1 o2 r (pre ++ [x]) (fun y hy => hb y (List.mem_cons_of_mem _ hy)) (by simpa using hl)
  have hx : ¬ x < 0 := by rcases hb x (List.mem_cons_self ..) with h | h <;> omega
  refine Ev.succ ?_
  simp only [Z2W, Z8, Ze, decide_true, if_true, Int.toNat_natCast, Z3, hx, decide_false, Bool.false_eq_true, if_false]
  rw [Z7 pre x r (by omega)]
  rw [← Z1] at ih
  exact ih
theorem Zr0 {t : TblD} {b : BoardD} {z : Int} (hS : Sorts t b z) (c : ChD) (a : BoardD) (v3 : List Int) (v4 : List FallD) : ∀ (r pre : List Int), pre ++ r = t.2 → Ev (fun k => Z3W k c.1 c.2.1 c.2.2.1 c.2.2.2.1 c.2.2.2.2 a.1 a.2.1 a.2.2 b.1 b.2.1 b.2.2 v3 v4 z (pre ++ r) ((pre ++ r).length : Int) (pre.length : Int)) (LR.go (c.1, c.2.1, c.2.2.1, c.2.2.2.1, c.2.2.2.2, a.1, a.2.1, a.2.2, v3, v4))
 | [], pre, h => by
  refine Ev.succ ?_
  simp only [Z3W, Za, decide_false, Bool.false_eq_true, if_false]
  exact Ev.some _
 | x :: r, pre, h => by
  have hlt : pre.length < t.2.length := by rw [← h]; simp
  have htl := hS.tlen
  have hl2 : (pre ++ x :: r).length ≤ 8 := by rw [h]; exact htl
  have hlb : (pre.length : Int) < b.2.1 := by rw [hS.cols]; omega
  have hgd : List.getD t.2 pre.length 0 = x := by rw [← h]; exact Z3 _ _ _ _
  obtain ⟨f1, f2⟩ := hS.fall pre.length hlt
  rw [hgd] at f2
  have ih := Zr0 hS c a v3 v4 r (pre ++ [x]) (by rw [← h]; simp)
  refine Ev.succ ?_
  simp only [Z3W, Z8, Ze, decide_true, if_true, Int.toNat_natCast, Z3]
  refine Ev.bind (Zth b hS.ok hS.len _ (by omega) hlb) ?_
  have hd : decide ((fallOf b (groupsOf b) (kindsB b []) (pre.length : Int) b.2.2).1.2.2 ≥ z) = decide (x = 1) := decide_eq_decide.2 f2
  simp only [f1, ne_eq, not_true_eq_false, decide_false, Bool.not_true, Bool.false_eq_true, if_false, hd, beq_self_eq_true]
  rw [Z7 pre x r (by omega)]
  rw [← Z1] at ih
  exact ih
end
section
theorem ZHr (t : TblD) (hl : t.2.length ≤ 1000000) : Ev (fun k => Zg3 k t t) true := by
 refine Ev.succ ?_
 simp only [Zg3, decide_true, if_true]
 refine Ev.bind (Zxk t.2 t.2 hl) ?_
 rw [decide_eq_true rfl]
 exact Ev.some _
theorem ZuF {t : TblD} (h : smallT t = true) : Ev (fun k => Z9K k (sortB t.2) (zerosIn t.2 : Int) t) ([], true) := by
 have hS := sorts h
 obtain ⟨⟨m0, m3⟩, hl, hb, hp⟩ := ZnL h
 have ht : tblOK t = true := by
  unfold smallT at h
  simp only [Bool.and_eq_true] at h
  exact h.1
 have htl := hS.tlen
 have hsp := hS.split
 have hcols : (sortB t.2).2.1 = (t.2.length : Int) := rfl
 have e1 : Ev (fun k => Z8I k (sortB t.2) (zerosIn t.2 : Int)) true := by
  refine Ev.succ ?_
  simp only [Z8I]
  refine Ev.bind (Z6G (sortB t.2) (by have := hS.len; omega)) ?_
  simp only [hS.ok, Bool.not_true, Bool.false_eq_true, if_false]
  rw [hcols]
  simp only [show ¬ (zerosIn t.2 : Int) < 0 by omega, show ¬ (zerosIn t.2 : Int) > (t.2.length : Int) by omega, decide_false, Bool.false_eq_true, if_false]
  rcases hl with h | h | h | h <;> rw [h] <;> exact Ev.of rfl
 refine Ev.succ ?_
 simp only [Z9K]
 refine Ev.bind e1 ?_
 simp only [Bool.not_true, Bool.false_eq_true, if_false]
 refine Ev.bind (ZpZ t (by omega)) ?_
 rw [Zy6 m0 (by omega), hcols, ← hp]
 simp only [ht, Bool.not_true, Bool.false_eq_true, if_false, show ¬ t.1 < 0 by omega, ne_eq, not_true_eq_false, decide_false]
 refine Ev.bind (ZtK hS) ?_
 have e0 := ZlF t.1 t.2 [] (by rw [List.nil_append]; omega)
 simp only [List.nil_append, List.length_nil, Int.natCast_zero] at e0
 refine Ev.bind (a := []) ?_ (Ev.some _)
 refine Ev.succ ?_
 simp only [Zdn]
 exact Ev.bind e0 (Ev.some _)
theorem ZvL {t : TblD} (h : smallT t = true) : Ev (fun k => Z9W k (sortB t.2) (zerosIn t.2 : Int) t.1) (t, true) := by
 have hS := sorts h
 obtain ⟨⟨m0, m3⟩, hl, hb, hp⟩ := ZnL h
 have htl := hS.tlen
 have hsp := hS.split
 have hcols : (sortB t.2).2.1 = (t.2.length : Int) := rfl
 refine Ev.succ ?_
 simp only [Z9W]
 refine Ev.bind (Z6G (sortB t.2) (by have := hS.len; omega)) ?_
 rw [Zy6 m0 (by omega), hcols, ← hp]
 simp only [hS.ok, Bool.not_true, Bool.false_eq_true, if_false, show ¬ t.1 < 0 by omega, show ¬ t.1 > 3 by omega, show ¬ (zerosIn t.2 : Int) < 0 by omega, show ¬ (zerosIn t.2 : Int) > (t.2.length : Int) by omega, decide_false, ne_eq, not_true_eq_false]
 refine Ev.bind (ZtK hS) ?_
 have e0 := Zm8 t.1 0 [] t.2 [] hb (by rw [List.nil_append]; omega)
 simp only [List.nil_append, List.length_nil, Int.natCast_zero] at e0
 exact Ev.bind e0 (Ev.go (Ev.some _))
theorem ZCW (t : TblD) (hl : t.2.length ≤ 1000000) (c : ChD) (h1 : c.2.2.1.length ≤ 1000000) (h2 : c.2.2.2.1.length ≤ 1000000) (h3 : c.2.2.2.2.length ≤ 1000000) (b : BoardD) (hb : b.2.2.length ≤ 1000000) (v3 : List Int) (ht : v3.length ≤ 1000000) (v4 : List FallD) (hs : v4.length ≤ 1000000) :
  Ev (fun k => Z8w k t.1 t.2 c.1 c.2.1 c.2.2.1 c.2.2.2.1 c.2.2.2.2 b.1 b.2.1 b.2.2 (Z1F t).1.1 (Z1F t).1.2.1 (Z1F t).1.2.2 (Z1F t).1.1 (Z1F t).1.2.1 (Z1F t).1.2.2 v3 v4 (Z1F t).2.1 (Z1F t).2.2 (Z1F t).2.1 (Z1F t).2.2) true := by
 have ec := ZCs c h1 h2 h3 b hb v3 ht v4 hs
 simp only [Z8w, beq_self_eq_true, Bool.not_true, Bool.false_eq_true, if_false]
 by_cases h : smallT t = true
 ·have hS := sorts h
  have htl := hS.tlen
  have hR : Z1F t = (sortB t.2, (zerosIn t.2 : Int), true) := by unfold Z1F; rw [if_pos h]
  rw [hR]
  refine Ev.bind (Zat (sortB t.2) hS.len) ?_
  simp only [Bool.not_true, Bool.false_eq_true, if_false, ne_eq, not_true_eq_false, decide_false, if_true]
  refine Ev.bind (ZuF h) (Ev.bind (ZvL h) ?_)
  simp only [Bool.not_true, Bool.false_eq_true, if_false, List.length_nil, Int.natCast_zero, not_true_eq_false, decide_false]
  refine Ev.bind (ZHr t hl) ?_
  simp only [Bool.not_true, Bool.false_eq_true, if_false]
  have e0 := Zr0 hS c b v3 v4 t.2 [] rfl
  simp only [List.nil_append, List.length_nil, Int.natCast_zero] at e0
  exact Ev.bind e0 (Ev.go (Ev.bind ec (Ev.some _)))
 ·have hR : Z1F t = ((0, 0, []), 0, false) := by unfold Z1F; rw [if_neg h]
  rw [hR]
  refine Ev.bind (Zat (0, 0, []) (by simp)) ?_
  simp only [Bool.not_true, Bool.false_eq_true, if_false, ne_eq, not_true_eq_false, decide_false]
  exact Ev.bind ec (Ev.some _)
theorem ZEg (p0 : TblD) (p1 : ChD) (p2 : BoardD) (p3 : List Int) (p4 : List FallD) : Ev (fun k => Zfk k p0 p1 p2 p3 p4) true := by
 refine Ev.succ ?_
 simp only [Zfk]
 by_cases q0 : (p0.2.length : Int) > 1000
 ·simp only [q0, decide_true, if_true]; exact Ev.some _
 by_cases q1 : (p1.2.2.1.length : Int) > 1000
 ·simp only [q0, q1, decide_true, decide_false, Bool.false_eq_true, if_false, if_true]; exact Ev.some _
 by_cases q2 : (p1.2.2.2.1.length : Int) > 1000
 ·simp only [q0, q1, q2, decide_true, decide_false, Bool.false_eq_true, if_false, if_true]; exact Ev.some _
 by_cases q3 : (p1.2.2.2.2.length : Int) > 1000
 ·simp only [q0, q1, q2, q3, decide_true, decide_false, Bool.false_eq_true, if_false, if_true]; exact Ev.some _
 by_cases q4 : (p2.2.2.length : Int) > 10000
 ·simp only [q0, q1, q2, q3, q4, decide_true, decide_false, Bool.false_eq_true, if_false, if_true]; exact Ev.some _
 by_cases q5 : (p3.length : Int) > 1000
 ·simp only [q0, q1, q2, q3, q4, q5, decide_true, decide_false, Bool.false_eq_true, if_false, if_true]; exact Ev.some _
 by_cases q6 : (p4.length : Int) > 1000
 ·simp only [q0, q1, q2, q3, q4, q5, q6, decide_true, decide_false, Bool.false_eq_true, if_false, if_true]; exact Ev.some _
 simp only [q0, q1, q2, q3, q4, q5, q6, decide_false, Bool.false_eq_true, if_false]
 refine Ev.bind (Zvr p0 (by omega)) (Ev.bind (ZvZ p0 (by omega)) ?_)
 exact Ev.bind (ZCW p0 (by omega) p1 (by omega) (by omega) (by omega) p2 (by omega) p3 (by omega) p4 (by omega)) (Ev.some _)
end
end Go.Proofs.YtmhfhiofcoggbaaGreat.Vs
