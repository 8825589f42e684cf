/- The proof, part 10. -/
import Derived.Test.Ytkbikniinjalbaaqltm8
set_option linter.unusedVariables false
set_option linter.unusedSimpArgs false
namespace Go.Proofs.Ytkbikniinjalbaa.Vs
open Go.RowKit
section
def testOK (b : BoardD) (t : List Int) : Bool := decide (t.length ≤ 8) && t.all fun c => decide (0 ≤ c ∧ c < b.2.1)
theorem Zgf (b : BoardD) : ∀ (r pre : List Int), (pre ++ r).length ≤ 9223372036854775806 → Ev (fun k => Z3A k b.1 b.2.1 b.2.2 (pre ++ r) ((pre ++ r).length : Int) (pre.length : Int)) (if r.all (fun c => decide (0 ≤ c ∧ c < b.2.1)) then LR.go () else LR.ret false)
 | [], pre, hl => by
  refine Ev.succ ?_
  simp only [Z3A, Zj, decide_false, Bool.false_eq_true, if_false, List.all_nil, if_true]
  exact Ev.some _
 | x :: r, pre, hl => by
  have ih := Zgf b r (pre ++ [x]) (by simpa using hl)
  refine Ev.succ ?_
  simp only [Z3A, Zc, Zr, decide_true, if_true, Int.toNat_natCast, Za]
  rw [Zd pre x r (by omega)]
  rw [← Z6] at ih
  refine Ev.ite (fun h => ?_) (fun h => Ev.ite (fun h2 => ?_) (fun h2 => ?_))
  ·simp only [decide_eq_true_eq] at h
   have hx : ¬ (0 ≤ x ∧ x < b.2.1) := by omega
   simp only [hx, List.all_cons, decide_false, Bool.false_and, Bool.false_eq_true, if_false]; exact Ev.some _
  ·simp only [decide_eq_true_eq] at h2
   have hx : ¬ (0 ≤ x ∧ x < b.2.1) := by omega
   simp only [hx, List.all_cons, decide_false, Bool.false_and, Bool.false_eq_true, if_false]; exact Ev.some _
  ·simp only [decide_eq_true_eq] at h h2
   have hx : 0 ≤ x ∧ x < b.2.1 := by omega
   simp only [hx, and_self, List.all_cons, decide_true, Bool.true_and]; exact ih
theorem Zug (b : BoardD) (l : List Int) (hb : b.2.2.length ≤ 9223372036854775806) (hl : l.length ≤ 9223372036854775806) : Ev (fun k => Z9X k b l) (boardOK b && decide (l.length ≤ 60) && l.all fun c => decide (0 ≤ c ∧ c < b.2.1)) := by
 refine Ev.succ ?_
 simp only [Z9X]
 refine Ev.bind (Zrs b hb) ?_
 cases hbo : boardOK b with
 | false => simp only [Bool.not_false, if_true, Bool.false_and]; exact Ev.some _
 | true =>
  simp only [Bool.not_true, Bool.false_eq_true, if_false, Bool.true_and]
  refine Ev.ite (fun h => Ev.of ?_) (fun h => ?_)
  ·simp only [decide_eq_true_eq] at h
   have : ¬ l.length ≤ 60 := by omega
   simp [this]
  ·simp only [decide_eq_true_eq] at h
   have h6 : l.length ≤ 60 := by omega
   refine Ev.bind (Zgf b l [] (by simpa using hl)) ?_
   simp only [h6, decide_true, Bool.true_and]
   cases hx : l.all (fun c => decide (0 ≤ c ∧ c < b.2.1)) with
   | true => simp only [if_true]; exact Ev.go (Ev.some _)
   | false => simp only [Bool.false_eq_true, if_false]; exact Ev.ret (Ev.some _)
end
section
end
section
theorem eq3 (x y : FallD) : (decide (x.1 = y.1) && (decide (x.2.1 = y.2.1) && (decide (x.2.2 = y.2.2) && true))) = decide (x = y) := by
 obtain ⟨a0, a1, a2⟩ := x
 obtain ⟨b0, b1, b2⟩ := y
 by_cases h0 : a0 = b0 <;> by_cases h1 : a1 = b1 <;> by_cases h2 : a2 = b2 <;> simp [h0, h1, h2]
def diffIx : Nat → List FallD → List FallD → Option Nat
 | i, x :: r, y :: s => if x = y then diffIx (i + 1) r s else some i
 | _, _, _ => none
def ixOf : Option Nat → Int
 | none => -1
 | some i => (i : Int)
def lrOf {R : Type} (f : Nat → R) : Option Nat → LR Unit R
 | none => .go ()
 | some i => .ret (f i)
theorem ZoP : ∀ (i : Nat) (r s : List FallD), s.length = r.length → (diffIx i r s = none ↔ r = s)
 | i, [], s, h => by
  obtain rfl : s = [] := List.eq_nil_of_length_eq_zero h
  simp [diffIx]
 | i, x :: r, [], h => by simp at h
 | i, x :: r, y :: s, h => by
  have ih := ZoP (i + 1) r s (by simpa using h)
  by_cases hxy : x = y <;> simp [diffIx, hxy, ih]
theorem ZJe (z : Option Nat) : ixOf z < 0 ↔ z = none := by
 cases z with
 | none => simp [ixOf]
 | some i => simp only [ixOf, reduceCtorEq, iff_false]; omega
theorem Zoe : ∀ (r s pre pre' : List FallD), s.length = r.length → pre'.length = pre.length → (pre ++ r).length ≤ 1000000 → Ev (fun k => Z7Z k (pre' ++ s) (pre ++ r) ((pre ++ r).length : Int) (pre.length : Int)) (lrOf (fun i => (i : Int)) (diffIx pre.length r s))
 | [], s, pre, pre', h, hp, hl => by
  obtain rfl : s = [] := List.eq_nil_of_length_eq_zero h
  refine Ev.succ ?_
  simp only [Z7Z, Zj, decide_false, Bool.false_eq_true, if_false]
  exact Ev.some _
 | x :: r, [], pre, pre', h, hp, hl => by simp at h
 | x :: r, y :: s, pre, pre', h, hp, hl => by
  have ih := Zoe r s (pre ++ [x]) (pre' ++ [y]) (by simpa using h) (by simpa using hp) (by simpa using hl)
  have l2 : (pre.length : Int) < ((pre' ++ y :: s).length : Int) := by rw [← hp]; exact Zc _ _ _
  have g2 : List.getD (pre' ++ y :: s) pre.length (0, 0, 0) = y := by rw [← hp]; exact Za _ _ _ _
  refine Ev.succ ?_
  simp only [Z7Z, Zc, Zr, l2, decide_true, if_true, Int.toNat_natCast, Za, g2, eq3]
  rw [Zd pre x r (by omega)]
  rw [← Z6, ← Z6] at ih
  refine Ev.ite (fun hh => ?_) (fun hh => ?_)
  ·have hh : ¬ x = y := nd hh
   exact Ev.of (by simp [diffIx, hh, lrOf])
  ·have hh : x = y := yd hh
   refine ih.congr ?_
   simp [diffIx, hh]
theorem Z7K : ∀ (r s pre pre' : List FallD), s.length = r.length → pre'.length = pre.length → (pre ++ r).length ≤ 1000000 → Ev (fun k => ZG k (pre ++ r) (pre' ++ s) ((pre ++ r).length : Int) (pre.length : Int)) (lrOf (fun _ => false) (diffIx pre.length r s))
 | [], s, pre, pre', h, hp, hl => by
  obtain rfl : s = [] := List.eq_nil_of_length_eq_zero h
  refine Ev.succ ?_
  simp only [ZG, Zj, decide_false, Bool.false_eq_true, if_false]
  exact Ev.some _
 | x :: r, [], pre, pre', h, hp, hl => by simp at h
 | x :: r, y :: s, pre, pre', h, hp, hl => by
  have ih := Z7K r s (pre ++ [x]) (pre' ++ [y]) (by simpa using h) (by simpa using hp) (by simpa using hl)
  have l2 : (pre.length : Int) < ((pre' ++ y :: s).length : Int) := by rw [← hp]; exact Zc _ _ _
  have g2 : List.getD (pre' ++ y :: s) pre.length (0, 0, 0) = y := by rw [← hp]; exact Za _ _ _ _
  refine Ev.succ ?_
  simp only [ZG, Zc, Zr, l2, decide_true, if_true, Int.toNat_natCast, Za, g2, eq3]
  rw [Zd pre x r (by omega)]
  rw [← Z6, ← Z6] at ih
  refine Ev.ite (fun hh => ?_) (fun hh => ?_)
  ·have hh : ¬ x = y := nd hh
   exact Ev.of (by simp [diffIx, hh, lrOf])
  ·have hh : x = y := yd hh
   refine ih.congr ?_
   simp [diffIx, hh]
theorem ZEO (l m : List FallD) (h : m.length = l.length) (hl : l.length ≤ 1000000) : Ev (fun k => ZfF k l m) (ixOf (diffIx 0 l m)) := by
 refine Ev.succ ?_
 simp only [ZfF]
 refine Ev.bind (Zoe l m [] [] h rfl (by simpa using hl)) ?_
 simp only [List.length_nil]
 cases diffIx 0 l m with
 | none => exact Ev.go (Ev.some _)
 | some i => exact Ev.ret (Ev.some _)
theorem ZeG (l m : List FallD) (hl : l.length ≤ 1000000) : Ev (fun k => Z2i k l m) (decide (l = m)) := by
 refine Ev.succ ?_
 simp only [Z2i]
 by_cases h : l.length = m.length
 ·simp only [h, ne_eq, not_true_eq_false, decide_false, Bool.false_eq_true, if_false]
  have hh := Z7K l m [] [] h.symm rfl (by simpa using hl)
  simp only [List.nil_append, List.length_nil, h] at hh
  refine Ev.bind hh ?_
  have hn := ZoP 0 l m h.symm
  cases hd : diffIx 0 l m with
  | none =>
   rw [hd] at hn
   simp only [hn.1 rfl, decide_true]
   exact Ev.go (Ev.some _)
  | some i =>
   rw [hd] at hn
   have : ¬ l = m := fun hc => by have := hn.2 hc; cases this
   simp only [this, decide_false]
   exact Ev.ret (Ev.some _)
 ·have h2 : ¬ (l.length : Int) = (m.length : Int) := by omega
  have h3 : ¬ l = m := fun hc => h (by rw [hc])
  simp only [ne_eq, h2, not_false_eq_true, decide_true, if_true, h3, decide_false]
  exact Ev.some _
def endsOf (b : BoardD) (l : List FaultD) (t : List Int) : List FallD := (runsOf b (groupsOf b) (kindsB b l) t b.2.2).1
theorem ZHR (b : BoardD) (l : List FaultD) (t : List Int) : (endsOf b l t).length = t.length := ZCw _ _ _ _ _
end
section
def kindsAt (C i : Int) (x : CellD) : List FaultD := ([1, 2, 3].filter (fits x)).map fun kd => (kd, Int.tdiv i C, Int.tmod i C)
def possFrom (C : Int) : Int → List CellD → List FaultD
 | _, [] => []
 | i, x :: r => kindsAt C i x ++ possFrom C (i + 1) r
theorem Zpo (C i : Int) (x : CellD) : (kindsAt C i x).length ≤ 3 := by
 unfold kindsAt
 rw [List.length_map]
 exact Nat.le_trans (List.length_filter_le _ _) (by simp)
theorem Zx9 (C : Int) : ∀ (r : List CellD) (i : Int), (possFrom C i r).length ≤ 3 * r.length
 | [], _ => by simp [possFrom]
 | x :: r, i => by
  have h1 := Zpo C i x
  have h2 := Zx9 C r (i + 1)
  simp only [possFrom, List.length_append, List.length_cons]
  omega
theorem ZHd {i C : Int} (hi : 0 ≤ i) (hC : 1 ≤ C) : 0 ≤ Int.tdiv i C ∧ Int.tdiv i C ≤ i := by
 rw [Int.tdiv_eq_ediv_of_nonneg hi]
 exact ⟨Int.ediv_nonneg hi (by omega), Int.ediv_le_self _ hi⟩
theorem Z9o (R C : Int) (cs : List CellD) (x : CellD) (i kd : Int) (hi : 0 ≤ i) (hi2 : i ≤ 90) (hC : 1 ≤ C) (hk : 1 ≤ kd) (hk2 : kd ≤ 3) (v8 : List CellD) (v9 v10 : Int) (o : List FaultD) (ho : o.length ≤ 1000) (z : Int × Int × List CellD × List FaultD × List CellD × Int × Int)
    (h : Ev (fun k => Z1y k R C cs (if fits x kd then o ++ [(kd, Int.tdiv i C, Int.tmod i C)] else o) x.1 x.2 i (kd + 1) v8 v9 v10) z) : Ev (fun k => Z1y k R C cs o x.1 x.2 i kd v8 v9 v10) z := by
  have hd := ZHd hi hC
  have hC0 : ¬ C = 0 := by omega
  have hlen : o.length + 1 ≤ 5864062014805 := by omega
  refine Ev.succ ?_
  simp only [Z1y, hk2, decide_true, if_true]
  rw [w64 (n := kd + 1) (by omega) (by omega), w64 (n := Int.tdiv i C) (by omega) (by omega)]
  refine Ev.bind (ZE0 x kd) ?_
  cases hf : fits x kd with
  | true =>
    simp only [hf, if_true] at h
    simp only [if_true, hC0, if_false, List.length_singleton]
    have : o.length + 1 ≤ 140737488355328 / 24 := by omega
    simp only [this, if_true]
    exact h
  | false =>
    simp only [hf, Bool.false_eq_true, if_false] at h
    simp only [Bool.false_eq_true, if_false]
    exact h
theorem ZtN (R C : Int) (cs : List CellD) (x : CellD) (i : Int) (hi : 0 ≤ i) (hi2 : i ≤ 90) (hC : 1 ≤ C) (v8 : List CellD) (v9 v10 : Int) (o : List FaultD) (ho : o.length ≤ 900) : Ev (fun k => Z1y k R C cs o x.1 x.2 i 1 v8 v9 v10) (R, C, cs, o ++ kindsAt C i x, v8, v9, v10) := by
 have e1 : (if fits x 1 then o ++ [(1, Int.tdiv i C, Int.tmod i C)] else o) = o ++ (if fits x 1 then [(1, Int.tdiv i C, Int.tmod i C)] else []) := by split <;> simp
 refine Z9o R C cs x i 1 hi hi2 hC (by omega) (by omega) v8 v9 v10 o (by omega) _ ?_
 rw [e1]
 generalize h1 : (if fits x 1 then [((1 : Int), Int.tdiv i C, Int.tmod i C)] else []) = o1
 have l1 : o1.length ≤ 1 := by rw [← h1]; split <;> simp
 refine Z9o R C cs x i 2 hi hi2 hC (by omega) (by omega) v8 v9 v10 _ (by simp; omega) _ ?_
 have e2 : (if fits x 2 then (o ++ o1) ++ [(2, Int.tdiv i C, Int.tmod i C)] else o ++ o1) = (o ++ o1) ++ (if fits x 2 then [(2, Int.tdiv i C, Int.tmod i C)] else []) := by split <;> simp
 rw [e2]
 generalize h2 : (if fits x 2 then [((2 : Int), Int.tdiv i C, Int.tmod i C)] else []) = o2
 have l2 : o2.length ≤ 1 := by rw [← h2]; split <;> simp
 refine Z9o R C cs x i 3 hi hi2 hC (by omega) (by omega) v8 v9 v10 _ (by simp; omega) _ ?_
 refine Ev.succ ?_
 simp only [Z1y]
 have h4 : ¬ (3 + 1 : Int) ≤ 3 := by omega
 simp only [h4, decide_false, Bool.false_eq_true, if_false]
 refine Ev.of ?_
 rw [← h1, ← h2]
 unfold kindsAt
 cases f1 : fits x 1 <;> cases f2 : fits x 2 <;> cases f3 : fits x 3 <;> simp [List.filter, f1, f2, f3]
theorem ZhT (R C : Int) (hC : 1 ≤ C) (cs : List CellD) : ∀ (r pre : List CellD) (o : List FaultD), (pre ++ r).length ≤ 90 → o.length ≤ 3 * pre.length → Ev (fun k => Z3h k R C cs o (pre ++ r) ((pre ++ r).length : Int) (pre.length : Int)) (o ++ possFrom C pre.length r)
 | [], pre, o, hl, ho => by
  refine Ev.succ ?_
  simp only [Z3h, Zj, decide_false, Bool.false_eq_true, if_false, possFrom]
  rw [List.append_nil o]
  exact Ev.some _
 | x :: r, pre, o, hl, ho => by
  have hl2 := hl
  simp only [List.length_append, List.length_cons] at hl2
  have hka : (kindsAt C pre.length x).length ≤ 3 := Zpo _ _ _
  have ih := ZhT R C hC cs r (pre ++ [x]) (o ++ kindsAt C pre.length x) (by simpa using hl) (by simp; omega)
  refine Ev.succ ?_
  simp only [Z3h, Zc, Zr, decide_true, if_true, Int.toNat_natCast, Za]
  refine Ev.bind (ZtN R C cs x (pre.length : Int) (by omega) (by omega) hC (pre ++ x :: r) ((pre ++ x :: r).length : Int) (pre.length : Int) o (by omega)) ?_
  show Ev (fun k => Z3h k R C cs (o ++ kindsAt C pre.length x) (pre ++ x :: r) ((pre ++ x :: r).length : Int) (wrap64 ((pre.length : Int) + 1))) _
  rw [Zd pre x r (by omega)]
  rw [← Z6] at ih
  refine ih.congr ?_
  simp [possFrom]
theorem Zye (b : BoardD) (hb : boardOK b = true) : Ev (fun k => Zbu k b) (possFrom b.2.1 0 b.2.2) := by
 obtain ⟨g1, g2, g3, g4, g5, g6⟩ := Z1L hb
 have hp := Z1h g1 g2 g3 g4
 refine Ev.succ ?_
 simp only [Zbu]
 exact Ev.bind (ZhT b.1 b.2.1 g3 b.2.2 b.2.2 [] [] (by simp; omega) (by simp)) (Ev.some _)
theorem Z71 (R C : Int) (cs : List CellD) (x : CellD) (hx : cellOK x = true) (i kd : Int) (hi : 0 ≤ i) (hi2 : i ≤ 90) (hC : 1 ≤ C) (hk : 1 ≤ kd) (hk2 : kd ≤ 3) (v8 : List CellD) (v9 v10 : Int) (o : List FaultD) (ho : o.length ≤ 1000) (z : Int × Int × List CellD × List FaultD × List CellD × Int × Int)
    (h : Ev (fun k => Z11 k R C cs (if fits x kd then o ++ [(kd, Int.tdiv i C, Int.tmod i C)] else o) x.1 x.2 i (kd + 1) v8 v9 v10) z) : Ev (fun k => Z11 k R C cs o x.1 x.2 i kd v8 v9 v10) z := by
  have hd := ZHd hi hC
  have hC0 : ¬ C = 0 := by omega
  have hlen : o.length + 1 ≤ 5864062014805 := by omega
  refine Ev.succ ?_
  simp only [Z11, hk2, decide_true, if_true]
  rw [w64 (n := kd + 1) (by omega) (by omega), w64 (n := Int.tdiv i C) (by omega) (by omega)]
  refine Ev.bind (ZDg x kd hx) ?_
  cases hf : fits x kd with
  | true =>
    simp only [hf, if_true] at h
    simp only [if_true, hC0, if_false, List.length_singleton]
    have : o.length + 1 ≤ 140737488355328 / 24 := by omega
    simp only [this, if_true]
    exact h
  | false =>
    simp only [hf, Bool.false_eq_true, if_false] at h
    simp only [Bool.false_eq_true, if_false]
    exact h
theorem ZmP (R C : Int) (cs : List CellD) (x : CellD) (hx : cellOK x = true) (i : Int) (hi : 0 ≤ i) (hi2 : i ≤ 90) (hC : 1 ≤ C) (v8 : List CellD) (v9 v10 : Int) (o : List FaultD) (ho : o.length ≤ 900) : Ev (fun k => Z11 k R C cs o x.1 x.2 i 1 v8 v9 v10) (R, C, cs, o ++ kindsAt C i x, v8, v9, v10) := by
 have e1 : (if fits x 1 then o ++ [(1, Int.tdiv i C, Int.tmod i C)] else o) = o ++ (if fits x 1 then [(1, Int.tdiv i C, Int.tmod i C)] else []) := by split <;> simp
 refine Z71 R C cs x hx i 1 hi hi2 hC (by omega) (by omega) v8 v9 v10 o (by omega) _ ?_
 rw [e1]
 generalize h1 : (if fits x 1 then [((1 : Int), Int.tdiv i C, Int.tmod i C)] else []) = o1
 have l1 : o1.length ≤ 1 := by rw [← h1]; split <;> simp
 refine Z71 R C cs x hx i 2 hi hi2 hC (by omega) (by omega) v8 v9 v10 _ (by simp; omega) _ ?_
 have e2 : (if fits x 2 then (o ++ o1) ++ [(2, Int.tdiv i C, Int.tmod i C)] else o ++ o1) = (o ++ o1) ++ (if fits x 2 then [(2, Int.tdiv i C, Int.tmod i C)] else []) := by split <;> simp
 rw [e2]
 generalize h2 : (if fits x 2 then [((2 : Int), Int.tdiv i C, Int.tmod i C)] else []) = o2
 have l2 : o2.length ≤ 1 := by rw [← h2]; split <;> simp
 refine Z71 R C cs x hx i 3 hi hi2 hC (by omega) (by omega) v8 v9 v10 _ (by simp; omega) _ ?_
 refine Ev.succ ?_
 simp only [Z11]
 have h4 : ¬ (3 + 1 : Int) ≤ 3 := by omega
 simp only [h4, decide_false, Bool.false_eq_true, if_false]
 refine Ev.of ?_
 rw [← h1, ← h2]
 unfold kindsAt
 cases f1 : fits x 1 <;> cases f2 : fits x 2 <;> cases f3 : fits x 3 <;> simp [List.filter, f1, f2, f3]
theorem Zet (R C : Int) (hC : 1 ≤ C) (cs : List CellD) : ∀ (r pre : List CellD) (o : List FaultD), (∀ y ∈ r, cellOK y = true) → (pre ++ r).length ≤ 90 → o.length ≤ 3 * pre.length → Ev (fun k => Z1M k R C cs o (pre ++ r) ((pre ++ r).length : Int) (pre.length : Int)) (o ++ possFrom C pre.length r)
 | [], pre, o, hx, hl, ho => by
  refine Ev.succ ?_
  simp only [Z1M, Zj, decide_false, Bool.false_eq_true, if_false, possFrom]
  rw [List.append_nil o]
  exact Ev.some _
 | x :: r, pre, o, hx, hl, ho => by
  have hl2 := hl
  simp only [List.length_append, List.length_cons] at hl2
  have hka : (kindsAt C pre.length x).length ≤ 3 := Zpo _ _ _
  have ih := Zet R C hC cs r (pre ++ [x]) (o ++ kindsAt C pre.length x) (fun y hy => hx y (List.mem_cons_of_mem _ hy)) (by simpa using hl) (by simp; omega)
  refine Ev.succ ?_
  simp only [Z1M, Zc, Zr, decide_true, if_true, Int.toNat_natCast, Za]
  refine Ev.bind (ZmP R C cs x (hx x (List.mem_cons_self ..)) (pre.length : Int) (by omega) (by omega) hC (pre ++ x :: r) ((pre ++ x :: r).length : Int) (pre.length : Int) o (by omega)) ?_
  show Ev (fun k => Z1M k R C cs (o ++ kindsAt C pre.length x) (pre ++ x :: r) ((pre ++ x :: r).length : Int) (wrap64 ((pre.length : Int) + 1))) _
  rw [Zd pre x r (by omega)]
  rw [← Z6] at ih
  refine ih.congr ?_
  simp [possFrom]
theorem ZqV (b : BoardD) (hb : boardOK b = true) : Ev (fun k => Z8k k b) (possFrom b.2.1 0 b.2.2) := by
 obtain ⟨g1, g2, g3, g4, g5, g6⟩ := Z1L hb
 have hp := Z1h g1 g2 g3 g4
 refine Ev.succ ?_
 simp only [Z8k]
 exact Ev.bind (Zet b.1 b.2.1 g3 b.2.2 b.2.2 [] [] g6 (by simp; omega) (by simp)) (Ev.some _)
theorem ZJ6 {i C : Int} (hi : 0 ≤ i) (hC : 1 ≤ C) : Int.tdiv i C * C + Int.tmod i C = i ∧ 0 ≤ Int.tmod i C ∧ Int.tmod i C < C ∧ 0 ≤ Int.tdiv i C := by
 rw [Int.tdiv_eq_ediv_of_nonneg hi, Int.tmod_eq_emod_of_nonneg hi]
 refine ⟨?_, Int.emod_nonneg _ (by omega), Int.emod_lt_of_pos _ (by omega), Int.ediv_nonneg hi (by omega)⟩
 rw [Int.mul_comm]
 exact Int.mul_ediv_add_emod i C
theorem ZGR {C i : Int} {x : CellD} {f : FaultD} (h : f ∈ kindsAt C i x) : f.2.1 = Int.tdiv i C ∧ f.2.2 = Int.tmod i C ∧ fits x f.1 = true := by
 unfold kindsAt at h
 obtain ⟨kd, h1, rfl⟩ := List.mem_map.1 h
 exact ⟨rfl, rfl, (List.mem_filter.1 h1).2⟩
theorem ZFl {C : Int} : ∀ {r : List CellD} {i : Nat} {f : FaultD}, f ∈ possFrom C i r → ∃ j : Nat, i ≤ j ∧ j < i + r.length ∧ f.2.1 = Int.tdiv j C ∧ f.2.2 = Int.tmod j C ∧ fits (List.getD r (j - i) (0, 0)) f.1 = true
 | [], i, f, h => by simp [possFrom] at h
 | x :: r, i, f, h => by
  simp only [possFrom, List.mem_append] at h
  rcases h with h | h
  ·obtain ⟨h1, h2, h3⟩ := ZGR h
   exact ⟨i, Nat.le_refl _, by simp, h1, h2, by simpa using h3⟩
  ·have h' : f ∈ possFrom C ((i + 1 : Nat) : Int) r := h
   obtain ⟨j, h1, h2, h3, h4, h5⟩ := ZFl h'
   refine ⟨j, by omega, by simp only [List.length_cons]; omega, h3, h4, ?_⟩
   rw [show j - i = (j - (i + 1)) + 1 by omega]
   exact h5
theorem ZHw {b : BoardD} (hb : boardOK b = true) {f : FaultD} (h : f ∈ possFrom b.2.1 0 b.2.2) : 0 ≤ f.2.1 ∧ f.2.1 < b.1 ∧ 0 ≤ f.2.2 ∧ f.2.2 < b.2.1 ∧ fits (List.getD b.2.2 (placeOf b f).toNat (0, 0)) f.1 = true := by
 obtain ⟨g1, g2, g3, g4, g5, g6⟩ := Z1L hb
 have h' : f ∈ possFrom b.2.1 ((0 : Nat) : Int) b.2.2 := h
 obtain ⟨j, h1, h2, h3, h4, h5⟩ := ZFl h'
 obtain ⟨d1, d2, d3, d4⟩ := ZJ6 (i := (j : Int)) (C := b.2.1) (by omega) g3
 have hp : placeOf b f = j := by unfold placeOf; rw [h3, h4]; exact d1
 refine ⟨by rw [h3]; exact d4, ?_, by rw [h4]; exact d2, by rw [h4]; exact d3, ?_⟩
 ·rw [h3]
  by_cases hh : Int.tdiv (j : Int) b.2.1 < b.1
  ·exact hh
  ·have := Int.mul_le_mul_of_nonneg_right (show b.1 ≤ Int.tdiv (j : Int) b.2.1 by omega) (show 0 ≤ b.2.1 by omega)
   omega
 ·rw [hp]
  simpa using h5
theorem ZG9 {b : BoardD} (hb : boardOK b = true) {f : FaultD} (h : f ∈ possFrom b.2.1 0 b.2.2) : faultsOK b (-1) [f] = true := by
 obtain ⟨h1, h2, h3, h4, h5⟩ := ZHw hb h
 have hp := Zcm hb h1 h2 h3 h4
 unfold placeOf at h5
 have h6 : 0 ≤ f.2.1 ∧ f.2.1 < b.1 ∧ 0 ≤ f.2.2 ∧ f.2.2 < b.2.1 ∧ -1 < f.2.1 * b.2.1 + f.2.2 := ⟨h1, h2, h3, h4, by omega⟩
 simp only [faultsOK, h5, h6, and_self, decide_true, Bool.and_self]
theorem Zkx {b : BoardD} (hb : boardOK b = true) : (possFrom b.2.1 0 b.2.2).length ≤ 270 := by
 obtain ⟨g1, g2, g3, g4, g5, g6⟩ := Z1L hb
 have hpp := Z1h g1 g2 g3 g4
 have := Zx9 b.2.1 b.2.2 0
 omega
end
section
def szRows {α : Type} : List (List α) → Int
 | [] => 0
 | x :: r => (x.length : Int) + szRows r
theorem ZtB {α : Type} : ∀ (l : List (List α)), 0 ≤ szRows l
 | [] => Int.le_refl _
 | x :: r => by have := ZtB r; simp only [szRows]; omega
end
section
theorem Zk5 (b : BoardD) (hb : boardOK b = true) : ∀ (r pre : List (List Int)), (∀ x ∈ r, x.length ≤ 9223372036854775806) → (pre ++ r).length ≤ 9223372036854775806 → Ev (fun k => Z6a k b.1 b.2.1 b.2.2 (pre ++ r) ((pre ++ r).length : Int) (pre.length : Int)) (if r.all (testOK b) then LR.go () else LR.ret false)
 | [], pre, hx, hl => by
  refine Ev.succ ?_
  simp only [Z6a, Zj, decide_false, Bool.false_eq_true, if_false, List.all_nil, if_true]
  exact Ev.some _
 | x :: r, pre, hx, hl => by
  obtain ⟨g1, g2, g3, g4, g5, g6⟩ := Z1L hb
  have hp := Z1h g1 g2 g3 g4
  have ih := Zk5 b hb r (pre ++ [x]) (fun y hy => hx y (List.mem_cons_of_mem _ hy)) (by simpa using hl)
  refine Ev.succ ?_
  simp only [Z6a, Zc, Zr, decide_true, if_true, Int.toNat_natCast, Za]
  rw [Zd pre x r (by omega)]
  rw [← Z6] at ih
  refine Ev.ite (fun h => ?_) (fun h => ?_)
  ·simp only [decide_eq_true_eq] at h
   have : ¬ x.length ≤ 8 := by omega
   simp only [List.all_cons, testOK, this, decide_false, Bool.false_and, Bool.false_eq_true, if_false]; exact Ev.some _
  simp only [decide_eq_true_eq] at h
  have h8 : x.length ≤ 8 := by omega
  have h60 : x.length ≤ 60 := by omega
  refine Ev.bind (Zug b x (by omega) (hx x (List.mem_cons_self ..))) ?_
  simp only [hb, h60, decide_true, Bool.true_and]
  have ht : testOK b x = x.all (fun c => decide (0 ≤ c ∧ c < b.2.1)) := by simp only [testOK, h8, decide_true, Bool.true_and]
  rw [List.all_cons, ht]
  cases hxx : x.all (fun c => decide (0 ≤ c ∧ c < b.2.1)) with
  | true => simp only [Bool.not_true, Bool.false_eq_true, if_false, Bool.true_and]; exact ih
  | false => simp only [Bool.not_false, if_true, Bool.false_and, Bool.false_eq_true, if_false]; exact Ev.some _
theorem Zmd (b : BoardD) (hb : boardOK b = true) (w : List (List Int)) : ∀ (r pre : List (List Int)), (∀ x ∈ r, x.length ≤ 9223372036854775806) → (pre ++ r).length ≤ 9223372036854775806 → Ev (fun k => Z7c k b.1 b.2.1 b.2.2 w (pre ++ r) ((pre ++ r).length : Int) (pre.length : Int)) (if r.all (testOK b) then LR.go w else LR.ret false)
 | [], pre, hx, hl => by
  refine Ev.succ ?_
  simp only [Z7c, Zj, decide_false, Bool.false_eq_true, if_false, List.all_nil, if_true]
  exact Ev.some _
 | x :: r, pre, hx, hl => by
  obtain ⟨g1, g2, g3, g4, g5, g6⟩ := Z1L hb
  have ih := Zmd b hb w r (pre ++ [x]) (fun y hy => hx y (List.mem_cons_of_mem _ hy)) (by simpa using hl)
  refine Ev.succ ?_
  simp only [Z7c, Zc, Zr, decide_true, if_true, Int.toNat_natCast, Za]
  rw [Zd pre x r (by omega), w64 (n := b.2.1 - 1) (by omega) (by omega)]
  rw [← Z6] at ih
  refine Ev.ite (fun h => ?_) (fun h => ?_)
  ·simp only [decide_eq_true_eq] at h
   have : ¬ x.length ≤ 8 := by omega
   simp only [List.all_cons, testOK, this, decide_false, Bool.false_and, Bool.false_eq_true, if_false]; exact Ev.some _
  simp only [decide_eq_true_eq] at h
  have h8 : x.length ≤ 8 := by omega
  refine Ev.bind (ZGa x 0 (b.2.1 - 1) (hx x (List.mem_cons_self ..))) ?_
  have hfun : (fun n : Int => decide (0 ≤ n ∧ n ≤ b.2.1 - 1)) = fun c => decide (0 ≤ c ∧ c < b.2.1) := by
   funext c
   apply decide_eq_decide.2
   omega
  rw [hfun]
  have ht : testOK b x = x.all (fun c => decide (0 ≤ c ∧ c < b.2.1)) := by simp only [testOK, h8, decide_true, Bool.true_and]
  rw [List.all_cons, ht]
  cases hxx : x.all (fun c => decide (0 ≤ c ∧ c < b.2.1)) with
  | true => simp only [Bool.not_true, Bool.false_eq_true, if_false, Bool.true_and]; exact ih
  | false => simp only [Bool.not_false, if_true, Bool.false_and, Bool.false_eq_true, if_false]; exact Ev.some _
def smallB (b : BoardD) : Bool := boardOK b && decide (b.2.2.length ≤ 30)
def testsOK (b : BoardD) (l : List (List Int)) : Bool := decide (l.length ≤ 10) && l.all (testOK b)
theorem ZaJ (b : BoardD) (l : List (List Int)) (hb : b.2.2.length ≤ 9223372036854775806) (hl : l.length ≤ 9223372036854775806) (hx : ∀ x ∈ l, x.length ≤ 9223372036854775806) : Ev (fun k => Z4l k b l) (smallB b && testsOK b l) := by
 refine Ev.succ ?_
 simp only [Z4l]
 refine Ev.bind (Zrs b hb) ?_
 cases hbo : boardOK b with
 | false => simp only [Bool.not_false, if_true, smallB, hbo, Bool.false_and]; exact Ev.some _
 | true =>
  simp only [Bool.not_true, Bool.false_eq_true, if_false, smallB, hbo, Bool.true_and]
  refine Ev.ite (fun h => Ev.of ?_) (fun h => Ev.ite (fun h2 => Ev.of ?_) (fun h2 => ?_))
  ·simp only [decide_eq_true_eq] at h
   have : ¬ b.2.2.length ≤ 30 := by omega
   simp [this]
  ·simp only [decide_eq_true_eq] at h2
   have : ¬ l.length ≤ 10 := by omega
   simp [testsOK, this]
  ·simp only [decide_eq_true_eq] at h h2
   have h3 : b.2.2.length ≤ 30 := by omega
   have h4 : l.length ≤ 10 := by omega
   refine Ev.bind (Zk5 b hbo l [] hx (by simpa using hl)) ?_
   simp only [h3, testsOK, h4, decide_true, Bool.true_and]
   cases hy : l.all (testOK b) with
   | true => simp only [if_true]; exact Ev.go (Ev.some _)
   | false => simp only [Bool.false_eq_true, if_false]; exact Ev.ret (Ev.some _)
theorem ZEN (b : BoardD) (hb : b.2.2.length ≤ 9223372036854775806) : Ev (fun k => Zfj k b) (smallB b) := by
 refine Ev.succ ?_
 simp only [Zfj]
 refine Ev.bind (ZEc b hb) ?_
 cases hbo : boardOK b with
 | false => simp only [Bool.false_eq_true, if_false, smallB, hbo, Bool.false_and]; exact Ev.some _
 | true =>
  simp only [if_true, smallB, hbo, Bool.true_and]
  refine Ev.of ?_
  congr 1
  apply decide_eq_decide.2
  omega
theorem ZCE (b : BoardD) (hbo : boardOK b = true) (l : List (List Int)) (hl : l.length ≤ 9223372036854775806) (hx : ∀ x ∈ l, x.length ≤ 9223372036854775806) : Ev (fun k => Zeg k b l) (testsOK b l) := by
 refine Ev.succ ?_
 simp only [Zeg]
 refine Ev.bind (Zmd b hbo l l [] hx (by simpa using hl)) ?_
 cases hy : l.all (testOK b) with
 | true =>
  simp only [if_true, testsOK, hy, Bool.and_true]
  refine Ev.go (Ev.of ?_)
  congr 1
  apply decide_eq_decide.2
  omega
 | false => simp only [Bool.false_eq_true, if_false, testsOK, hy, Bool.and_false]; exact Ev.ret (Ev.some _)
end
section
end
section
end
section
end
section
theorem ZnU (b : BoardD) (hb : boardOK b = true) (l : List FaultD) (hl : faultsOK b (-1) l = true) (hll : l.length ≤ 9223372036854775806) : ∀ (r pre : List (List Int)) (acc : List (List FallD)), (∀ t ∈ r, t.length ≤ 1000 ∧ colsOK b t) → (pre ++ r).length ≤ 1000 → acc.length ≤ pre.length → Ev (fun k => Z81 k b.1 b.2.1 b.2.2 acc l (pre ++ r) ((pre ++ r).length : Int) (pre.length : Int)) (acc ++ r.map (endsOf b l))
 | [], pre, acc, ht, hln, ha => by
  refine Ev.succ ?_
  simp only [Z81, Zj, decide_false, Bool.false_eq_true, if_false]
  exact Ev.of (by simp)
 | t :: r, pre, acc, ht, hln, ha => by
  have ih := ZnU b hb l hl hll r (pre ++ [t]) (acc ++ [endsOf b l t]) (fun x hx => ht x (List.mem_cons_of_mem _ hx)) (by simpa using hln) (by simp; omega)
  rw [← Z6] at ih
  have hal : acc.length + 1 ≤ 140737488355328 / 24 := by simp at hln; omega
  refine Ev.succ ?_
  simp only [Z81, Zc, Zr, decide_true, if_true, Int.toNat_natCast, Za, List.length_singleton, hal]
  rw [Zd pre t r (by omega)]
  obtain ⟨t1, t2⟩ := ht t (List.mem_cons_self ..)
  refine Ev.bind (ZGg b hb l hl hll t t1 t2) ?_
  refine ih.congr ?_
  simp
theorem ZsU (b : BoardD) (hb : boardOK b = true) (l : List FaultD) (hl : faultsOK b (-1) l = true) (hll : l.length ≤ 9223372036854775806) (T : List (List Int)) (hT : ∀ t ∈ T, t.length ≤ 1000 ∧ colsOK b t) (hn : T.length ≤ 1000) : Ev (fun k => ZcK k b l T) (T.map (endsOf b l)) := by
 refine Ev.succ ?_
 simp only [ZcK]
 exact Ev.bind (ZnU b hb l hl hll T [] [] hT (by simpa using hn) (by simp)) (Ev.some _)
theorem ZjH (b : BoardD) (hb : boardOK b = true) (l : List FaultD) (hl : faultsOK b (-1) l = true) (hll : l.length ≤ 9223372036854775806) : ∀ (r pre : List (List Int)) (acc : List (List FallD)), (∀ t ∈ r, t.length ≤ 1000 ∧ colsOK b t) → (pre ++ r).length ≤ 1000 → acc.length ≤ pre.length → Ev (fun k => Z6c k b.1 b.2.1 b.2.2 acc l (pre ++ r) ((pre ++ r).length : Int) (pre.length : Int)) (acc ++ r.map (endsOf b l))
 | [], pre, acc, ht, hln, ha => by
  refine Ev.succ ?_
  simp only [Z6c, Zj, decide_false, Bool.false_eq_true, if_false]
  exact Ev.of (by simp)
 | t :: r, pre, acc, ht, hln, ha => by
  have ih := ZjH b hb l hl hll r (pre ++ [t]) (acc ++ [endsOf b l t]) (fun x hx => ht x (List.mem_cons_of_mem _ hx)) (by simpa using hln) (by simp; omega)
  rw [← Z6] at ih
  have hal : acc.length + 1 ≤ 140737488355328 / 24 := by simp at hln; omega
  refine Ev.succ ?_
  simp only [Z6c, Zc, Zr, decide_true, if_true, Int.toNat_natCast, Za, List.length_singleton, hal]
  rw [Zd pre t r (by omega)]
  obtain ⟨t1, t2⟩ := ht t (List.mem_cons_self ..)
  refine Ev.bind (ZwM b hb l hl hll t t1 t2) ?_
  refine ih.congr ?_
  simp
theorem Zo1 (b : BoardD) (hb : boardOK b = true) (l : List FaultD) (hl : faultsOK b (-1) l = true) (hll : l.length ≤ 9223372036854775806) (T : List (List Int)) (hT : ∀ t ∈ T, t.length ≤ 1000 ∧ colsOK b t) (hn : T.length ≤ 1000) : Ev (fun k => ZaP k b l T) (T.map (endsOf b l)) := by
 refine Ev.succ ?_
 simp only [ZaP]
 exact Ev.bind (ZjH b hb l hl hll T [] [] hT (by simpa using hn) (by simp)) (Ev.some _)
theorem Z3e {b : BoardD} {T : List (List Int)} (h : (smallB b && testsOK b T) = true) : boardOK b = true ∧ T.length ≤ 10 ∧ ∀ t ∈ T, t.length ≤ 8 ∧ colsOK b t := by
 unfold smallB testsOK testOK at h
 simp only [Bool.and_eq_true, decide_eq_true_eq, List.all_eq_true] at h
 exact ⟨h.1.1, h.2.1, h.2.2⟩
theorem Zby (b : BoardD) (T : List (List Int)) (hb : b.2.2.length ≤ 9223372036854775806) (hl : T.length ≤ 9223372036854775806) (hx : ∀ x ∈ T, x.length ≤ 9223372036854775806) : Ev (fun k => Z5q k b T) (smallB b && testsOK b T) := by
 refine Ev.succ ?_
 simp only [Z5q]
 refine Ev.bind (ZEN b hb) ?_
 cases h : smallB b with
 | false => simp only [Bool.false_eq_true, if_false, Bool.false_and]; exact Ev.some _
 | true =>
  have hbo : boardOK b = true := by unfold smallB at h; rw [Bool.and_eq_true] at h; exact h.1
  simp only [if_true, Bool.true_and]
  exact Ev.bind (ZCE b hbo T hl hx) (Ev.some _)
theorem ZHZ {α : Type} {l : List (List α)} {n : Nat} (h : ∀ x ∈ l, x.length ≤ n) : szRows l ≤ (l.length : Int) * n := by
 induction l with
 | nil => simp [szRows]
 | cons x r ih =>
  have h1 := h x (List.mem_cons_self ..)
  have h2 := ih (fun y hy => h y (List.mem_cons_of_mem _ hy))
  simp only [szRows, List.length_cons]
  rw [Int.natCast_add, Int.add_mul]
  omega
end
section
section
variable {α : Type} [DecidableEq α] (key : Nat → α)
def isFirst (k : Nat) : Bool := (List.range k).all fun i => decide (key i ≠ key k)
def firsts (n : Nat) : List Nat := (List.range n).filter (isFirst key)
def members (n f : Nat) : List Int := ((List.range n).filter fun j => decide (key j = key f)).map fun (j : Nat) => (j : Int) - 1
def classesL (n : Nat) : List (List Int) := (firsts key n).map (members key n)
theorem ZiY {n f : Nat} (h : f ∈ firsts key n) : f < n ∧ isFirst key f = true := by
 unfold firsts at h
 rw [List.mem_filter, List.mem_range] at h
 exact h
theorem ZgQ {k i : Nat} (h : isFirst key k = true) (hi : i < k) : key i ≠ key k := by
 unfold isFirst at h
 rw [List.all_eq_true] at h
 exact of_decide_eq_true (h i (List.mem_range.2 hi))
theorem ZBb (n : Nat) : List.Pairwise (fun f g => key f ≠ key g) (firsts key n) := by
 have h1 : List.Pairwise (fun a b => a < b) (firsts key n) := List.Pairwise.filter _ List.pairwise_lt_range
 refine List.Pairwise.imp_of_mem (fun {f g} hf hg hlt => ?_) h1
 exact ZgQ key (ZiY key hg).2 hlt
theorem Zz5 (n : Nat) : firsts key (n + 1) = firsts key n ++ (if isFirst key n then [n] else []) := by
 unfold firsts
 rw [List.range_succ, List.filter_append]
 congr 1
 cases h : isFirst key n <;> simp [List.filter, h]
theorem Zhd (n f : Nat) : members key (n + 1) f = members key n f ++ (if key n = key f then [(n : Int) - 1] else []) := by
 unfold members
 rw [List.range_succ, List.filter_append, List.map_append]
 congr 1
 by_cases h : key n = key f <;> simp [List.filter, h]
theorem ZHH {n f : Nat} (h : f ∈ firsts key n) : ∃ r, members key n f = ((f : Int) - 1) :: r := by
 obtain ⟨h1, h2⟩ := ZiY key h
 induction n with
 | zero => omega
 | succ n ih =>
  rw [Zhd]
  by_cases hf : f < n
  ·have hm : f ∈ firsts key n := by unfold firsts; rw [List.mem_filter, List.mem_range]; exact ⟨hf, h2⟩
   obtain ⟨r, hr⟩ := ih hm hf
   exact ⟨_, by rw [hr]; rfl⟩
  ·have hfn : f = n := by omega
   subst hfn
   have : members key f f = [] := by
    unfold members
    rw [List.map_eq_nil_iff, List.filter_eq_nil_iff]
    intro j hj
    have := ZgQ key h2 (List.mem_range.1 hj)
    simpa using this
   rw [this, if_pos rfl]
   exact ⟨[], rfl⟩
def placeIx (x : α) : List Nat → Nat
 | [] => 0
 | f :: r => if key f = x then 0 else placeIx x r + 1
theorem ZBw (x : α) : ∀ (F : List Nat), placeIx key x F ≤ F.length
 | [] => Nat.le_refl _
 | f :: r => by
  have := ZBw x r
  simp only [placeIx]
  split <;> simp
  omega
theorem ZyZ {x : α} : ∀ {F : List Nat}, placeIx key x F = F.length → ∀ f ∈ F, key f ≠ x
 | [], _, f, hf => by cases hf
 | g :: r, h, f, hf => by
  simp only [placeIx] at h
  split at h
  ·simp at h
  ·rename_i hg
   rcases List.mem_cons.1 hf with rfl | hf
   ·exact hg
   ·exact ZyZ (by simpa using h) f hf
theorem ZHo (m : Nat → List Int) (x : α) (y : Int) : ∀ (F : List Nat), List.Pairwise (fun f g => key f ≠ key g) F →
    F.map (fun f => m f ++ (if x = key f then [y] else [])) = if placeIx key x F < F.length then List.set (F.map m) (placeIx key x F) (List.getD (F.map m) (placeIx key x F) [] ++ [y]) else F.map m
  | [], _ => by simp
  | f :: F, hp => by
    obtain ⟨h1, h2⟩ := List.pairwise_cons.1 hp
    have ih := ZHo m x y F h2
    by_cases hf : key f = x
    · subst hf
      have h3 : F.map (fun g => m g ++ (if key f = key g then [y] else [])) = F.map m := List.map_congr_left (fun g hg => by rw [if_neg (h1 g hg), List.append_nil])
      simp only [List.map_cons, h3, placeIx, if_true, List.length_cons, Nat.zero_lt_succ, List.set_cons_zero, List.getD_cons_zero]
    · have hf' : ¬ x = key f := fun h => hf h.symm
      simp only [List.map_cons, placeIx, if_neg hf, if_neg hf', List.append_nil, ih, List.length_cons, Nat.add_lt_add_iff_right, List.set_cons_succ, List.getD_cons_succ]
      split <;> rfl
theorem ZGQ {k : Nat} (h : placeIx key (key k) (firsts key k) < (firsts key k).length) : classesL key (k + 1) = List.set (classesL key k) (placeIx key (key k) (firsts key k)) (List.getD (classesL key k) (placeIx key (key k) (firsts key k)) [] ++ [(k : Int) - 1]) := by
 have hnf : isFirst key k = false := by
  cases hc : isFirst key k with
  | false => rfl
  | true =>
   exfalso
   have hall : ∀ f ∈ firsts key k, key f ≠ key k := fun f hf => ZgQ key hc (ZiY key hf).1
   have : ∀ (F : List Nat), (∀ f ∈ F, key f ≠ key k) → placeIx key (key k) F = F.length := by
    intro F
    induction F with
    | nil => intro _; rfl
    | cons g r ih =>
     intro hF
     simp only [placeIx]
     rw [if_neg (hF g (List.mem_cons_self ..)), ih (fun f hf => hF f (List.mem_cons_of_mem _ hf))]
     rfl
   have := this _ hall
   omega
 unfold classesL
 rw [Zz5, hnf]
 simp only [Bool.false_eq_true, if_false, List.append_nil]
 rw [show members key (k + 1) = fun f => members key k f ++ (if key k = key f then [(k : Int) - 1] else []) from funext (Zhd key k)]
 rw [ZHo key _ _ _ _ (ZBb key k), if_pos h]
theorem ZGK {k : Nat} (h : placeIx key (key k) (firsts key k) = (firsts key k).length) : classesL key (k + 1) = classesL key k ++ [[(k : Int) - 1]] := by
 have hall := ZyZ key h
 have hf : isFirst key k = true := by
  cases hc : isFirst key k with
  | true => rfl
  | false =>
   exfalso
   have : ∀ m, m < k → key m = key k → False := by
    intro m
    induction m using Nat.strongRecOn with
    | ind m ih =>
     intro hm hk
     by_cases hfm : isFirst key m = true
     ·refine hall m ?_ hk
      unfold firsts
      rw [List.mem_filter, List.mem_range]
      exact ⟨hm, hfm⟩
     ·unfold isFirst at hfm
      rw [List.all_eq_true] at hfm
      apply hfm
      intro i hi
      have hi := List.mem_range.1 hi
      refine decide_eq_true (fun he => ih i hi (by omega) (he.trans hk))
   unfold isFirst at hc
   rw [List.all_eq_false] at hc
   obtain ⟨i, hi, hd⟩ := hc
   exact this i (List.mem_range.1 hi) (by simpa using hd)
 unfold classesL
 rw [Zz5, hf]
 simp only [if_true, List.map_append, Zhd, List.map_cons, List.map_nil]
 have h1 : (firsts key k).map (fun f => members key k f ++ (if key k = key f then [(k : Int) - 1] else [])) = (firsts key k).map (members key k) :=
  List.map_congr_left (fun f hf => by rw [if_neg (fun he => hall f hf he.symm), List.append_nil])
 have h2 : members key k k = [] := by
  unfold members
  rw [List.map_eq_nil_iff, List.filter_eq_nil_iff]
  intro j hj
  have := ZgQ key hf (List.mem_range.1 hj)
  simpa using this
 rw [(List.map_congr_left (fun f _ => Zhd key k f)).trans h1, h2]
 simp
def fstR (k : Nat) : Nat → Nat → Nat
 | 0, i => i
 | n + 1, i => if key i = key k then i else fstR k n (i + 1)
def fstOf (k : Nat) : Nat := fstR key k k 0
theorem ZDj (k : Nat) : ∀ (n i : Nat), i + n = k → (∀ j, j < i → key j ≠ key k) → fstR key k n i ≤ k ∧ key (fstR key k n i) = key k ∧ ∀ j, j < fstR key k n i → key j ≠ key k
 | 0, i, h, hj => by
  have : i = k := by omega
  subst this
  exact ⟨Nat.le_refl _, rfl, hj⟩
 | n + 1, i, h, hj => by
  simp only [fstR]
  split
  ·rename_i hi
   exact ⟨by omega, hi, hj⟩
  ·rename_i hi
   exact ZDj k n (i + 1) (by omega) (fun j hj2 => by
    rcases Nat.lt_or_eq_of_le (Nat.le_of_lt_succ hj2) with h3 | h3
    ·exact hj j h3
    ·rw [h3]; exact hi)
theorem Z7O {f j : Nat} : fstOf key j = f ↔ isFirst key f = true ∧ key j = key f := by
 obtain ⟨h1, h2, h3⟩ := ZDj key j j 0 (by omega) (fun _ h => by omega)
 have hF : isFirst key (fstOf key j) = true := by
  unfold isFirst
  rw [List.all_eq_true]
  intro i hi
  exact decide_eq_true (by rw [show key (fstOf key j) = key j from h2]; exact h3 i (List.mem_range.1 hi))
 constructor
 ·rintro rfl
  exact ⟨hF, h2.symm⟩
 ·rintro ⟨g1, g2⟩
  rcases Nat.lt_trichotomy (fstOf key j) f with h | h | h
  ·exact (ZgQ key g1 h (by rw [← g2]; exact h2)).elim
  ·exact h
  ·exact (h3 f h g2.symm).elim
theorem ZIM (k : Nat) : fstOf key k ≤ k := (ZDj key k k 0 (by omega) (fun _ h => by omega)).1
def listsOf (n : Nat) : List (List Int) := ((List.range n).map fun f => ((List.range n).filter fun j => decide (fstOf key j = f)).map fun (j : Nat) => (j : Int) - 1).filter fun l => !l.isEmpty
theorem ZjD (n : Nat) : listsOf key n = classesL key n := by
 unfold listsOf classesL firsts
 rw [List.filter_map]
 have h1 : (List.range n).filter ((fun l : List Int => !l.isEmpty) ∘ fun f => ((List.range n).filter fun j => decide (fstOf key j = f)).map fun (j : Nat) => (j : Int) - 1) = (List.range n).filter (isFirst key) := by
  refine List.filter_congr (fun f hf => ?_)
  simp only [Function.comp]
  rw [Bool.eq_iff_iff]
  simp only [Bool.not_eq_true', List.isEmpty_eq_false_iff, ne_eq, List.map_eq_nil_iff, List.filter_eq_nil_iff, decide_eq_true_eq]
  constructor
  ·intro h
   by_cases hc : isFirst key f = true
   ·exact hc
   ·exact (h (fun j _ hj => hc ((Z7O key).1 hj).1)).elim
  ·intro hc h
   exact h f hf ((Z7O key).2 ⟨hc, rfl⟩)
 rw [h1]
 refine List.map_congr_left (fun f hf => ?_)
 have hff := (List.mem_filter.1 hf).2
 unfold members
 congr 1
 refine List.filter_congr (fun j _ => ?_)
 apply decide_eq_decide.2
 rw [Z7O]
 exact ⟨fun h => h.2, fun h => ⟨hff, h⟩⟩
end
end
section
end
section
def putL : List Int → Int → List Int
 | [], n => [n]
 | x :: r, n => if x < n then x :: putL r n else if x = n then x :: r else n :: x :: r
def idxFrom (p : Nat → Bool) : Nat → Nat → List Int
 | _, 0 => []
 | k, n + 1 => if p k then (k : Int) :: idxFrom p (k + 1) n else idxFrom p (k + 1) n
theorem Zfg (p : Nat → Bool) : ∀ (n k : Nat), (idxFrom p k n).length ≤ n
 | 0, k => by simp [idxFrom]
 | n + 1, k => by
  have := Zfg p n (k + 1)
  simp only [idxFrom]
  split <;> simp <;> omega
theorem Z6j {p q : Nat → Bool} : ∀ (n k : Nat), (∀ i, k ≤ i → i < k + n → p i = q i) → idxFrom p k n = idxFrom q k n
 | 0, k, h => rfl
 | n + 1, k, h => by
  simp only [idxFrom, h k (Nat.le_refl _) (by omega), Z6j n (k + 1) (fun i h1 h2 => h i (by omega) (by omega))]
theorem Zvn : ∀ (n k : Nat), idxFrom (fun _ => false) k n = []
 | 0, k => rfl
 | n + 1, k => by simp only [idxFrom, Bool.false_eq_true, if_false, Zvn n (k + 1)]
theorem Zsi (p : Nat → Bool) : ∀ (n k : Nat) (x : Int), x ∈ idxFrom p k n → (k : Int) ≤ x ∧ x < (k + n : Nat)
 | 0, k, x, h => by simp [idxFrom] at h
 | n + 1, k, x, h => by
  simp only [idxFrom] at h
  split at h
  ·rcases List.mem_cons.1 h with rfl | h
   ·omega
   ·have := Zsi p n (k + 1) x h; omega
  ·have := Zsi p n (k + 1) x h; omega
theorem ZHW : ∀ (l : List Int) (n : Int), (∀ x ∈ l, n < x) → putL l n = n :: l
 | [], n, h => rfl
 | x :: r, n, h => by
  have := h x (List.mem_cons_self ..)
  simp only [putL]
  rw [if_neg (by omega), if_neg (by omega)]
theorem ZFs (p : Nat → Bool) (i : Nat) : ∀ (n k : Nat), k ≤ i → i < k + n → putL (idxFrom p k n) (i : Int) = idxFrom (fun j => p j || j == i) k n
 | 0, k, h1, h2 => by omega
 | n + 1, k, h1, h2 => by
  rcases Nat.lt_or_eq_of_le h1 with h | h
  ·have ih := ZFs p i n (k + 1) (by omega) (by omega)
   have hk : (k == i) = false := by simp; omega
   simp only [idxFrom, hk, Bool.or_false]
   split
   ·simp only [putL]
    rw [if_pos (by omega), ih]
   ·exact ih
  ·subst h
   have hc : idxFrom (fun j => p j || j == k) (k + 1) n = idxFrom p (k + 1) n := Z6j n (k + 1) (fun i h1 h2 => by
    have : (i == k) = false := by simp; omega
    rw [this, Bool.or_false])
   simp only [idxFrom, beq_self_eq_true, Bool.or_true, if_true, hc]
   split
   ·simp [putL]
   ·exact ZHW _ _ (fun x hx => by have := Zsi p n (k + 1) x hx; omega)
end
section
theorem ZB0 : ∀ (l : List Int) (n : Int), ∃ t d, l = t ++ d ∧ (∀ x ∈ t, x < n) ∧ (∀ x s, d = x :: s → ¬ x < n) ∧ putL l n = t ++ putL d n
 | [], n => ⟨[], [], rfl, fun _ h => (by cases h), fun _ _ h => (by cases h), rfl⟩
 | y :: r, n => by
  by_cases hy : y < n
  ·obtain ⟨t, d, h1, h2, h3, h4⟩ := ZB0 r n
   refine ⟨y :: t, d, by rw [h1]; rfl, fun x hx => ?_, h3, ?_⟩
   ·rcases List.mem_cons.1 hx with rfl | hx
    ·exact hy
    ·exact h2 x hx
   ·simp only [putL, if_pos hy, h4, List.cons_append]
  ·refine ⟨[], y :: r, rfl, fun _ h => (by cases h), fun x s h => ?_, rfl⟩
   injection h with h1 _
   rw [← h1]; exact hy
theorem ZqB (n : Int) : ∀ (t pre d : List Int), (∀ x ∈ t, x < n) → (∀ x s, d = x :: s → ¬ x < n) → (pre ++ (t ++ d)).length ≤ 1000000 → Ev (fun k => Z6S k (pre ++ (t ++ d)) n (pre.length : Int)) (pre ++ (t ++ d), n, ((pre ++ t).length : Int))
 | [], pre, [], ht, hd, hl => by
  refine Ev.succ ?_
  simp only [Z6S, List.nil_append, Zj, Int.lt_irrefl, decide_false, Bool.false_eq_true, if_false, List.append_nil]
  exact Ev.some _
 | [], pre, x :: s, ht, hd, hl => by
  have hx := hd x s rfl
  refine Ev.succ ?_
  simp only [Z6S, List.nil_append, Zc, Zr, decide_true, if_true, Int.toNat_natCast, Za, hx, decide_false, Bool.false_eq_true, if_false, List.append_nil]
  exact Ev.some _
 | x :: t, pre, d, ht, hd, hl => by
  have hx := ht x (List.mem_cons_self ..)
  have ih := ZqB n t (pre ++ [x]) d (fun y hy => ht y (List.mem_cons_of_mem _ hy)) hd (by simpa using hl)
  simp only [List.cons_append] at hl ⊢
  refine Ev.succ ?_
  simp only [Z6S, Zc, Zr, decide_true, if_true, Int.toNat_natCast, Za, hx]
  rw [Zd pre x (t ++ d) (by omega)]
  rw [← Z6] at ih
  refine ih.congr ?_
  simp
theorem ZFY (l : List Int) (n : Int) (hl : l.length ≤ 1000000) : Ev (fun k => Zh9 k l n) (putL l n) := by
 obtain ⟨t, d, rfl, h2, h3, h4⟩ := ZB0 l n
 have h0 := ZqB n t [] d h2 h3 (by simpa using hl)
 simp only [List.nil_append, List.length_nil, Int.natCast_zero] at h0
 rw [h4]
 have hlt : t.length + d.length ≤ 1000000 := by simpa using hl
 have z1 : (0 : Nat) + t.length ≤ 140737488355328 / 8 := by omega
 have z2 : t.length + 1 ≤ 140737488355328 / 8 := by omega
 refine Ev.succ ?_
 simp only [Zh9]
 refine Ev.bind h0 ?_
 cases d with
 | nil =>
  have z3 : (t ++ [n]).length + 0 ≤ 140737488355328 / 8 := by simp; omega
  simp only [Zj, Int.lt_irrefl, decide_false, Bool.false_eq_true, if_false, Zr, Int.le_refl, if_true, Int.toNat_natCast, Int.toNat_zero, Nat.sub_zero, List.drop_zero, List.append_nil, List.take_length, List.length_singleton, z1, z2, List.drop_length, List.take_nil, List.length_nil, z3, putL]
  exact Ev.some _
 | cons x s =>
  have hx := h3 x s rfl
  have y1 : (t.length : Int) ≤ ((t ++ x :: s).length : Int) := by simp; omega
  have y2 : List.take t.length (t ++ x :: s) = t := List.take_left' rfl
  have y3 : List.drop t.length (t ++ x :: s) = x :: s := List.drop_left' rfl
  have y4 : List.take ((t ++ x :: s).length - t.length) (x :: s) = x :: s := List.take_of_length_le (by simp)
  have z3 : (t ++ [n]).length + (x :: s).length ≤ 140737488355328 / 8 := by simp at hlt ⊢; omega
  simp only [Zc, Zr, decide_true, if_true, Int.toNat_natCast, Za, Int.toNat_zero, Nat.sub_zero, List.drop_zero, y1, y2, y3, y4, Int.le_refl, List.length_singleton, z1, z2, z3, putL, if_neg hx]
  refine Ev.ite (fun h => ?_) (fun h => ?_)
  ·simp only [decide_eq_true_eq] at h
   rw [if_pos h]
   exact Ev.some _
  ·simp only [decide_eq_true_eq] at h
   rw [if_neg h]
   exact Ev.of (by simp)
end
section
def casesL (b : BoardD) (T : List (List Int)) : List (List (List FallD)) := T.map (endsOf b []) :: (possFrom b.2.1 0 b.2.2).map fun f => T.map (endsOf b [f])
theorem ZlR (b : BoardD) (hb : boardOK b = true) (T : List (List Int)) (hT : ∀ t ∈ T, t.length ≤ 1000 ∧ colsOK b t) (hn : T.length ≤ 1000) : ∀ (r pre : List FaultD) (acc : List (List (List FallD))), (∀ f ∈ r, faultsOK b (-1) [f] = true) → (pre ++ r).length ≤ 1000 → acc.length ≤ pre.length + 1 → Ev (fun k => Z6O k b.1 b.2.1 b.2.2 acc (pre ++ r) T ((pre ++ r).length : Int) (pre.length : Int)) (acc ++ r.map fun f => T.map (endsOf b [f]))
 | [], pre, acc, hf, hl, ha => by
  refine Ev.succ ?_
  simp only [Z6O, Zj, decide_false, Bool.false_eq_true, if_false]
  exact Ev.of (by simp)
 | f :: r, pre, acc, hf, hl, ha => by
  have ih := ZlR b hb T hT hn r (pre ++ [f]) (acc ++ [T.map (endsOf b [f])]) (fun g hg => hf g (List.mem_cons_of_mem _ hg)) (by simpa using hl) (by simp; omega)
  rw [← Z6] at ih
  have hal : acc.length + 1 ≤ 140737488355328 / 24 := by simp at hl; omega
  refine Ev.succ ?_
  simp only [Z6O, Zc, Zr, decide_true, if_true, Int.toNat_natCast, Za, List.length_singleton, hal]
  rw [Zd pre f r (by omega)]
  refine Ev.bind (ZsU b hb [f] (hf f (List.mem_cons_self ..)) (by simp) T hT hn) ?_
  refine ih.congr ?_
  simp
theorem ZDo (b : BoardD) (hb : boardOK b = true) (T : List (List Int)) (hT : ∀ t ∈ T, t.length ≤ 1000 ∧ colsOK b t) (hn : T.length ≤ 1000) : Ev (fun k => Zej k b T) (casesL b T) := by
 have hp := Zkx hb
 refine Ev.succ ?_
 simp only [Zej]
 refine Ev.bind (ZsU b hb [] rfl (by simp) T hT hn) (Ev.bind (Zye b hb) ?_)
 exact Ev.bind (ZlR b hb T hT hn (possFrom b.2.1 0 b.2.2) [] [T.map (endsOf b [])] (fun f hf => ZG9 hb hf) (by simp; omega) (by simp)) (Ev.some _)
theorem Zkf (b : BoardD) (hb : boardOK b = true) (T : List (List Int)) (hT : ∀ t ∈ T, t.length ≤ 1000 ∧ colsOK b t) (hn : T.length ≤ 1000) : ∀ (r pre : List FaultD) (acc : List (List (List FallD))), (∀ f ∈ r, faultsOK b (-1) [f] = true) → (pre ++ r).length ≤ 1000 → acc.length ≤ pre.length + 1 → Ev (fun k => Z6h k b.1 b.2.1 b.2.2 acc (pre ++ r) T ((pre ++ r).length : Int) (pre.length : Int)) (acc ++ r.map fun f => T.map (endsOf b [f]))
 | [], pre, acc, hf, hl, ha => by
  refine Ev.succ ?_
  simp only [Z6h, Zj, decide_false, Bool.false_eq_true, if_false]
  exact Ev.of (by simp)
 | f :: r, pre, acc, hf, hl, ha => by
  have ih := Zkf b hb T hT hn r (pre ++ [f]) (acc ++ [T.map (endsOf b [f])]) (fun g hg => hf g (List.mem_cons_of_mem _ hg)) (by simpa using hl) (by simp; omega)
  rw [← Z6] at ih
  have hal : acc.length + 1 ≤ 140737488355328 / 24 := by simp at hl; omega
  refine Ev.succ ?_
  simp only [Z6h, Zc, Zr, decide_true, if_true, Int.toNat_natCast, Za, List.length_singleton, hal]
  rw [Zd pre f r (by omega)]
  refine Ev.bind (Zo1 b hb [f] (hf f (List.mem_cons_self ..)) (by simp) T hT hn) ?_
  refine ih.congr ?_
  simp
theorem ZaM (b : BoardD) (hb : boardOK b = true) (T : List (List Int)) (hT : ∀ t ∈ T, t.length ≤ 1000 ∧ colsOK b t) (hn : T.length ≤ 1000) : Ev (fun k => Z4n k b T) (casesL b T) := by
 have hp := Zkx hb
 refine Ev.succ ?_
 simp only [Z4n]
 refine Ev.bind (Zo1 b hb [] rfl (by simp) T hT hn) (Ev.bind (ZqV b hb) ?_)
 exact Ev.bind (Zkf b hb T hT hn (possFrom b.2.1 0 b.2.2) [] [T.map (endsOf b [])] (fun f hf => ZG9 hb hf) (by simp; omega) (by simp)) (Ev.some _)
structure Tab (C : List (List (List FallD))) (n : Nat) (L : Nat → Nat) : Prop where
 len : C.length ≤ 1000
 pos : 0 < C.length
 row : ∀ k, k < C.length → (List.getD C k []).length = n
 cell : ∀ k t, k < C.length → t < n → (List.getD (List.getD C k []) t []).length = L t
 small : ∀ t, t < n → L t ≤ 1000
theorem Z7G {b : BoardD} (hb : boardOK b = true) {T : List (List Int)} (hT : ∀ t ∈ T, t.length ≤ 1000 ∧ colsOK b t) : Tab (casesL b T) T.length (fun t => (List.getD T t []).length) := by
 have hp := Zkx hb
 have hrow : ∀ row ∈ casesL b T, ∃ l, row = T.map (endsOf b l) := by
  intro row hr
  rcases List.mem_cons.1 hr with rfl | hr
  ·exact ⟨[], rfl⟩
  ·obtain ⟨f, _, rfl⟩ := List.mem_map.1 hr
   exact ⟨[f], rfl⟩
 have get : ∀ k, k < (casesL b T).length → ∃ l, List.getD (casesL b T) k [] = T.map (endsOf b l) := by
  intro k hk
  have : List.getD (casesL b T) k [] ∈ casesL b T := by simp [List.getD, List.getElem?_eq_getElem hk]
  exact hrow _ this
 refine ⟨by simp [casesL]; omega, by simp [casesL], fun k hk => ?_, fun k t hk ht => ?_, fun t ht => ?_⟩
 ·obtain ⟨l, hl⟩ := get k hk
  rw [hl, List.length_map]
 ·obtain ⟨l, hl⟩ := get k hk
  rw [hl]
  simp only [List.getD, List.getElem?_map, List.getElem?_eq_getElem ht, Option.map_some, Option.getD_some]
  exact ZHR _ _ _
 ·have : List.getD T t [] ∈ T := by simp [List.getD, List.getElem?_eq_getElem ht]
  exact (hT _ this).1
def cellC (C : List (List (List FallD))) (t k : Nat) : List FallD := List.getD (List.getD C k []) t []
def keyC (C : List (List (List FallD))) (ch : List Int) (k : Nat) : List (List FallD) := ch.map fun t => cellC C t.toNat k
theorem ZkY {C : List (List (List FallD))} {ch : List Int} {i j : Nat} : keyC C ch i = keyC C ch j ↔ ∀ t ∈ ch, cellC C t.toNat i = cellC C t.toNat j := by
 unfold keyC
 rw [List.map_inj_left]
def chOK (ch : List Int) (n : Nat) : Prop := ∀ t ∈ ch, 0 ≤ t ∧ t < (n : Int)
theorem Zmf {C : List (List (List FallD))} {n : Nat} {L : Nat → Nat} (hC : Tab C n L) (i j : Nat) (hi : i < C.length) (hj : j < C.length) : ∀ (r pre : List Int), chOK r n → (pre ++ r).length ≤ 1000 → Ev (fun k => Z6V k (List.getD C i []) (List.getD C j []) (pre ++ r) ((pre ++ r).length : Int) (pre.length : Int)) (if keyC C r i = keyC C r j then LR.go () else LR.ret false)
 | [], pre, hr, hl => by
  refine Ev.succ ?_
  simp only [Z6V, Zj, decide_false, Bool.false_eq_true, if_false, keyC, List.map_nil, if_true]
  exact Ev.some _
 | t :: r, pre, hr, hl => by
  obtain ⟨t0, tn⟩ := hr t (List.mem_cons_self ..)
  have ih := Zmf hC i j hi hj r (pre ++ [t]) (fun x hx => hr x (List.mem_cons_of_mem _ hx)) (by simpa using hl)
  have h1 : t < ((List.getD C i []).length : Int) := by rw [hC.row i hi]; exact tn
  have h2 : t < ((List.getD C j []).length : Int) := by rw [hC.row j hj]; exact tn
  have c1 := hC.cell i t.toNat hi (by omega)
  have c3 := hC.small t.toNat (by omega)
  refine Ev.succ ?_
  simp only [Z6V, Zc, Zr, decide_true, if_true, Int.toNat_natCast, Za, t0, h1, h2]
  rw [Zd pre t r (by omega)]
  rw [← Z6] at ih
  refine Ev.bind (ZeG _ _ (by omega)) (Ev.ite (fun h => ?_) (fun h => ?_))
  ·have h : ¬ cellC C t.toNat i = cellC C t.toNat j := nd h
   rw [if_neg (fun hh => h (ZkY.1 hh t (List.mem_cons_self ..)))]
   exact Ev.some _
  ·have h : cellC C t.toNat i = cellC C t.toNat j := yd h
   refine ih.congr ?_
   have hk : keyC C (t :: r) i = keyC C (t :: r) j ↔ keyC C r i = keyC C r j := by simp only [keyC, List.map_cons, h, List.cons.injEq, true_and]
   by_cases h9 : keyC C r i = keyC C r j
   ·rw [if_pos h9, if_pos (hk.2 h9)]
   ·rw [if_neg h9, if_neg (fun h => h9 (hk.1 h))]
theorem ZpS {C : List (List (List FallD))} {n : Nat} {L : Nat → Nat} (hC : Tab C n L) (i j : Nat) (hi : i < C.length) (hj : j < C.length) (ch : List Int) (hch : chOK ch n) (hl : ch.length ≤ 1000) : Ev (fun k => ZbD k (List.getD C i []) (List.getD C j []) ch) (decide (keyC C ch i = keyC C ch j)) := by
 refine Ev.succ ?_
 simp only [ZbD]
 refine Ev.bind (Zmf hC i j hi hj ch [] hch (by simpa using hl)) ?_
 by_cases h : keyC C ch i = keyC C ch j
 ·rw [if_pos h, decide_eq_true h]; exact Ev.go (Ev.some _)
 ·rw [if_neg h, decide_eq_false h]; exact Ev.ret (Ev.some _)
def rangeI (n : Nat) : List Int := (List.range n).map fun (j : Nat) => (j : Int)
theorem Zar (n : Nat) : chOK (rangeI n) n := fun t ht => by
 obtain ⟨j, hj, rfl⟩ := List.mem_map.1 ht
 have := List.mem_range.1 hj
 omega
theorem Z7o (n : Nat) : (rangeI n).length = n := by simp [rangeI]
theorem Zz1 (n : Nat) : rangeI (n + 1) = rangeI n ++ [(n : Int)] := by simp [rangeI, List.range_succ]
theorem Zqw (n : Nat) (hn : n ≤ 1000) : ∀ (d i : Nat), i + d = n → Ev (fun k => Z9g k (rangeI i) (n : Int) (i : Int)) (rangeI n)
 | 0, i, h => by
  obtain rfl : i = n := by omega
  refine Ev.succ ?_
  simp only [Z9g, Int.lt_irrefl, decide_false, Bool.false_eq_true, if_false]
  exact Ev.some _
 | d + 1, i, h => by
  have h1 : (i : Int) < n := by omega
  have h2 : wrap64 ((i : Int) + 1) = ((i + 1 : Nat) : Int) := by rw [w64 (by omega) (by omega)]; omega
  have hal : i + 1 ≤ 140737488355328 / 8 := by omega
  refine Ev.succ ?_
  simp only [Z9g, h1, decide_true, if_true, List.length_singleton, Z7o, hal, h2]
  rw [← Zz1]
  exact Zqw n hn d (i + 1) (by omega)
theorem Zhg (T : List (List Int)) (hn : T.length ≤ 1000) : Ev (fun k => Z9n k T) (rangeI T.length) := by
 refine Ev.succ ?_
 simp only [Z9n]
 exact Ev.bind (Zqw T.length hn T.length 0 (by omega)) (Ev.some _)
theorem ZiA (n : Nat) (hn : n ≤ 1000) : ∀ (d i : Nat), i + d = n → Ev (fun k => Z5b k (rangeI i) (n : Int) (i : Int)) (rangeI n)
 | 0, i, h => by
  obtain rfl : i = n := by omega
  refine Ev.succ ?_
  simp only [Z5b, Int.lt_irrefl, decide_false, Bool.false_eq_true, if_false]
  exact Ev.some _
 | d + 1, i, h => by
  have h1 : (i : Int) < n := by omega
  have h2 : wrap64 ((i : Int) + 1) = ((i + 1 : Nat) : Int) := by rw [w64 (by omega) (by omega)]; omega
  have hal : i + 1 ≤ 140737488355328 / 8 := by omega
  refine Ev.succ ?_
  simp only [Z5b, h1, decide_true, if_true, List.length_singleton, Z7o, hal, h2]
  rw [← Zz1]
  exact ZiA n hn d (i + 1) (by omega)
theorem Zch (T : List (List Int)) (hn : T.length ≤ 1000) : Ev (fun k => Z1s k T) (rangeI T.length) := by
 refine Ev.succ ?_
 simp only [Z1s]
 exact Ev.bind (ZiA T.length hn T.length 0 (by omega)) (Ev.some _)
theorem Zd8 {C : List (List (List FallD))} {n : Nat} {L : Nat → Nat} (hC : Tab C n L) (ch : List Int) (hch : chOK ch n) (hl : ch.length ≤ 1000) : ∀ (d i : Nat) (acc : List Int), i + 1 + d = C.length → acc.length ≤ i → Ev (fun k => Z3i k acc C ch ((i + 1 : Nat) : Int)) (acc ++ idxFrom (fun j => !decide (keyC C ch 0 = keyC C ch (j + 1))) i d)
 | 0, i, acc, h, ha => by
  have : ¬ ((i + 1 : Nat) : Int) < (C.length : Int) := by omega
  refine Ev.succ ?_
  simp only [Z3i, this, decide_false, Bool.false_eq_true, if_false, idxFrom, List.append_nil]
  exact Ev.some _
 | d + 1, i, acc, h, ha => by
  have hcl := hC.len
  have h1 : ((i + 1 : Nat) : Int) < (C.length : Int) := by omega
  have h0 : (0 : Int) < (C.length : Int) := by omega
  have h2 : (0 : Int) ≤ ((i + 1 : Nat) : Int) := by omega
  have h4 : wrap64 (((i + 1 : Nat) : Int) + 1) = ((i + 1 + 1 : Nat) : Int) := by rw [w64 (by omega) (by omega)]; omega
  have h5 : wrap64 (((i + 1 : Nat) : Int) - 1) = (i : Int) := by rw [w64 (by omega) (by omega)]; omega
  have hal : acc.length + 1 ≤ 140737488355328 / 8 := by omega
  refine Ev.succ ?_
  simp only [Z3i, h1, h0, h2, h4, h5, decide_true, if_true, List.length_singleton, hal, Int.toNat_natCast, Int.toNat_zero, idxFrom]
  refine Ev.bind (ZpS hC 0 (i + 1) (by omega) (by omega) ch hch hl) (Ev.ite (fun hh => ?_) (fun hh => ?_))
  ·refine (Zd8 hC ch hch hl d (i + 1) (acc ++ [(i : Int)]) (by omega) (by simp; omega)).congr ?_
   rw [if_pos hh]; simp
  ·refine (Zd8 hC ch hch hl d (i + 1) acc (by omega) (by omega)).congr ?_
   rw [if_neg hh]
theorem ZeH {C : List (List (List FallD))} {n : Nat} {L : Nat → Nat} (hC : Tab C n L) (ch : List Int) (hch : chOK ch n) (hl : ch.length ≤ 1000) : Ev (fun k => Z2j k C ch) (idxFrom (fun j => !decide (keyC C ch 0 = keyC C ch (j + 1))) 0 (C.length - 1)) := by
 have hp := hC.pos
 refine Ev.succ ?_
 simp only [Z2j]
 exact Ev.bind (Zd8 hC ch hch hl (C.length - 1) 0 [] (by omega) (by simp)) (Ev.some _)
def markC (C : List (List (List FallD))) (t k : Nat) : Int := (fstOf (cellC C t) k : Int)
theorem ZmG {C : List (List (List FallD))} {n : Nat} {L : Nat → Nat} (hC : Tab C n L) (o2 : List (List Int)) (o3 : List Int) (T : List (List Int)) (i t : Nat) (hi : i < C.length) (ht : t < n) (v16 v17 v23 v24 : Int) : ∀ (d j : Nat), j + d = i →
    Ev (fun k => Z70 k C o2 o3 T (i : Int) (i : Int) (t : Int) (j : Int) v16 v17 v23 v24) (C, o2, o3, T, (i : Int), (i : Int), (fstR (cellC C t) i d j : Int), v16, v17, v23, v24)
  | 0, j, h => by
    obtain rfl : j = i := by omega
    refine Ev.succ ?_
    simp only [Z70, Int.lt_irrefl, decide_false, Bool.false_eq_true, if_false, fstR]
    exact Ev.some _
  | d + 1, j, h => by
    have hcl := hC.len
    have h1 : (j : Int) < i := by omega
    have h2 : (t : Int) < ((List.getD C i []).length : Int) := by rw [hC.row i hi]; omega
    have h3 : (j : Int) < (C.length : Int) := by omega
    have h4 : (t : Int) < ((List.getD C j []).length : Int) := by rw [hC.row j (by omega)]; omega
    have h5 : wrap64 ((j : Int) + 1) = ((j + 1 : Nat) : Int) := by rw [w64 (by omega) (by omega)]; omega
    have c1 := hC.cell i t hi ht
    have c2 := hC.cell j t (by omega) ht
    have c3 := hC.small t ht
    have hn := ZoP 0 (cellC C t i) (cellC C t j) (by unfold cellC; omega)
    have ih := ZmG hC o2 o3 T i t hi ht v16 v17 v23 v24 d (j + 1) (by omega)
    refine Ev.succ ?_
    simp only [Z70, h1, h2, h3, h4, h5, decide_true, if_true, Int.natCast_nonneg, Int.toNat_natCast, fstR]
    refine Ev.bind (ZEO _ _ (by omega) (by omega)) (Ev.ite (fun hh => ?_) (fun hh => ?_))
    · have hne : ¬ cellC C t j = cellC C t i := fun hq => by
        have : ixOf (diffIx 0 (cellC C t i) (cellC C t j)) ≥ 0 := of_decide_eq_true hh
        rw [hn.2 hq.symm] at this
        simp [ixOf] at this
      rw [if_neg hne]
      exact ih
    · have heq : cellC C t j = cellC C t i := by
        have : ixOf (diffIx 0 (cellC C t i) (cellC C t j)) < 0 := by
          have : ¬ ixOf (diffIx 0 (cellC C t i) (cellC C t j)) ≥ 0 := fun hq => hh (decide_eq_true hq)
          omega
        exact (hn.1 ((ZJe _).1 this)).symm
      rw [if_pos heq]
      exact Ev.some _
def marksRow (C : List (List (List FallD))) (i n : Nat) : List Int := (List.range n).map fun t => markC C t i
theorem Zhp (C : List (List (List FallD))) (i n : Nat) : (marksRow C i n).length = n := by simp [marksRow]
theorem ZEw (C : List (List (List FallD))) (i n : Nat) : marksRow C i (n + 1) = marksRow C i n ++ [markC C n i] := by simp [marksRow, List.range_succ]
theorem Zlr {C : List (List (List FallD))} {n : Nat} {L : Nat → Nat} (hC : Tab C n L) (hn : n ≤ 1000) (o2 : List (List Int)) (T : List (List Int)) (i : Nat) (hi : i < C.length) (v16 v17 : Int) : ∀ (d t : Nat), t + d = n →
    Ev (fun k => Z6Y k C o2 (marksRow C i t) T (i : Int) (i : Int) v16 v17 (n : Int) (t : Int)) (C, o2, marksRow C i n, T, v16, v17)
  | 0, t, h => by
    obtain rfl : t = n := by omega
    refine Ev.succ ?_
    simp only [Z6Y, Int.lt_irrefl, decide_false, Bool.false_eq_true, if_false]
    exact Ev.some _
  | d + 1, t, h => by
    have h1 : (t : Int) < n := by omega
    have h5 : wrap64 ((t : Int) + 1) = ((t + 1 : Nat) : Int) := by rw [w64 (by omega) (by omega)]; omega
    have hal : t + 1 ≤ 140737488355328 / 8 := by omega
    have ih := Zlr hC hn o2 T i hi v16 v17 d (t + 1) (by omega)
    refine Ev.succ ?_
    simp only [Z6Y, h1, decide_true, if_true]
    refine Ev.bind (ZmG hC o2 (marksRow C i t) T i t hi (by omega) v16 v17 (n : Int) (t : Int) i 0 (by omega)) ?_
    simp only [List.length_singleton, Zhp, hal, if_true, h5]
    rw [ZEw] at ih
    exact ih
def marksM (C : List (List (List FallD))) (n m : Nat) : List (List Int) := (List.range m).map fun i => marksRow C i n
theorem Ze7 (C : List (List (List FallD))) (n m : Nat) : (marksM C n m).length = m := by simp [marksM]
theorem ZGy (C : List (List (List FallD))) (n m : Nat) : marksM C n (m + 1) = marksM C n m ++ [marksRow C m n] := by simp [marksM, List.range_succ]
theorem Zsm (C : List (List (List FallD))) (n m i : Nat) (hi : i < m) : List.getD (marksM C n m) i [] = marksRow C i n := by simp [marksM, List.getD, List.getElem?_map, List.getElem?_range hi]
theorem ZlK (C : List (List (List FallD))) (n i t : Nat) (ht : t < n) : List.getD (marksRow C i n) t 0 = markC C t i := by simp [marksRow, List.getD, List.getElem?_map, List.getElem?_range ht]
theorem Zmt {C : List (List (List FallD))} {n : Nat} {L : Nat → Nat} (hC : Tab C n L) (hn : n ≤ 1000) (T : List (List Int)) (hT : T.length = n) : ∀ (d i : Nat), i + d = C.length →
    Ev (fun k => Z75 k C (marksM C n i) T (C.length : Int) (i : Int)) (marksM C n C.length)
  | 0, i, h => by
    obtain rfl : i = C.length := by omega
    refine Ev.succ ?_
    simp only [Z75, Int.lt_irrefl, decide_false, Bool.false_eq_true, if_false]
    exact Ev.some _
  | d + 1, i, h => by
    have hcl := hC.len
    have h1 : (i : Int) < (C.length : Int) := by omega
    have h5 : wrap64 ((i : Int) + 1) = ((i + 1 : Nat) : Int) := by rw [w64 (by omega) (by omega)]; omega
    have hal : i + 1 ≤ 140737488355328 / 24 := by omega
    have ih := Zmt hC hn T hT d (i + 1) (by omega)
    refine Ev.succ ?_
    simp only [Z75, h1, decide_true, if_true, Int.natCast_nonneg, hT]
    refine Ev.bind (Zlr hC hn (marksM C n i) T i (by omega) (C.length : Int) (i : Int) n 0 (by omega)) ?_
    simp only [List.length_singleton, Ze7, hal, if_true, h5]
    rw [ZGy] at ih
    exact ih
theorem ZbE (b : BoardD) (hb : boardOK b = true) (T : List (List Int)) (hT : ∀ t ∈ T, t.length ≤ 1000 ∧ colsOK b t) (hn : T.length ≤ 1000) : Ev (fun k => Z5j k b T) (marksM (casesL b T) T.length (casesL b T).length) := by
 refine Ev.succ ?_
 simp only [Z5j]
 exact Ev.bind (ZDo b hb T hT hn) (Ev.bind (Zmt (Z7G hb hT) hn T rfl (casesL b T).length 0 (by omega)) (Ev.some _))
theorem ZI8 {C : List (List (List FallD))} {t k : Nat} : markC C t k ≠ 0 ↔ ¬ cellC C t 0 = cellC C t k := by
 unfold markC
 have h := Z7O (cellC C t) (f := 0) (j := k)
 have h0 : isFirst (cellC C t) 0 = true := by simp [isFirst]
 constructor
 ·intro h1 h2
  exact h1 (by rw [h.2 ⟨h0, h2.symm⟩]; rfl)
 ·intro h1 h2
  have h3 : fstOf (cellC C t) k = 0 := by omega
  exact h1 (h.1 h3).2.symm
theorem ZIX {C : List (List (List FallD))} {t i j : Nat} : markC C t i = markC C t j ↔ cellC C t i = cellC C t j := by
 unfold markC
 have hi := (Z7O (cellC C t) (f := fstOf (cellC C t) i) (j := i)).1 rfl
 have hj := (Z7O (cellC C t) (f := fstOf (cellC C t) j) (j := j)).1 rfl
 constructor
 ·intro h
  have h3 : fstOf (cellC C t) i = fstOf (cellC C t) j := by omega
  rw [hi.2, h3, ← hj.2]
 ·intro h
  have h3 : fstOf (cellC C t) i = fstOf (cellC C t) j := (Z7O (cellC C t)).2 ⟨hj.1, h.trans hj.2⟩
  rw [h3]
def detP (C : List (List (List FallD))) (ch : List Int) (i : Nat) (pre : List Int) (j : Nat) : Bool := (decide (j + 1 < i) && !decide (keyC C ch 0 = keyC C ch (j + 1))) || (decide (j + 1 = i) && !decide (keyC C pre 0 = keyC C pre i))
theorem ZhG {C : List (List (List FallD))} {n : Nat} {L : Nat → Nat} (hC : Tab C n L) (ch : List Int) (i : Nat) (hi : i < C.length) (M : List (List Int)) (v11 v12 : Int) : ∀ (r pre : List Int), chOK r n → (pre ++ r).length ≤ 1000 →
    Ev (fun k => Z3f k (idxFrom (detP C ch i pre) 0 (C.length - 1)) ch (i : Int) (marksRow C i n) M v11 v12 (pre ++ r) ((pre ++ r).length : Int) (pre.length : Int)) (idxFrom (detP C ch i (pre ++ r)) 0 (C.length - 1), ch, M, v11, v12)
  | [], pre, hr, hl => by
    refine Ev.succ ?_
    simp only [Z3f, Zj, Int.lt_irrefl, decide_false, Bool.false_eq_true, if_false, List.append_nil]
    exact Ev.some _
  | t :: r, pre, hr, hl => by
    have hcl := hC.len
    obtain ⟨t0, tn⟩ := hr t (List.mem_cons_self ..)
    have ih := ZhG hC ch i hi M v11 v12 r (pre ++ [t]) (fun x hx => hr x (List.mem_cons_of_mem _ hx)) (by simpa using hl)
    have h1 : t < ((marksRow C i n).length : Int) := by rw [Zhp]; exact tn
    have hg := ZlK C n i t.toNat (by omega)
    have hz := ZI8 (C := C) (t := t.toNat) (k := i)
    have hlen := Zfg (detP C ch i pre) (C.length - 1) 0
    refine Ev.succ ?_
    simp only [Z3f, Zc, Zr, decide_true, if_true, Int.toNat_natCast, Za, t0, h1, hg]
    rw [Zd pre t r (by omega)]
    rw [← Z6] at ih
    have hk : ∀ j, keyC C (pre ++ [t]) 0 = keyC C (pre ++ [t]) j ↔ keyC C pre 0 = keyC C pre j ∧ cellC C t.toNat 0 = cellC C t.toNat j := by
      intro j
      rw [ZkY, ZkY]
      constructor
      · intro h2
        exact ⟨fun x hx => h2 x (List.mem_append_left _ hx), h2 t (List.mem_append_right _ (List.mem_singleton.2 rfl))⟩
      · rintro ⟨h2, h3⟩ x hx
        rcases List.mem_append.1 hx with hx | hx
        · exact h2 x hx
        · rw [List.mem_singleton.1 hx]; exact h3
    refine Ev.ite (fun hh => ?_) (fun hh => ?_)
    · have hne := hz.1 (by simpa using hh)
      have hi0 : 0 < i := by
        rcases Nat.eq_zero_or_pos i with h0 | h0
        · subst h0; exact (hne rfl).elim
        · exact h0
      have h5 : wrap64 ((i : Int) - 1) = ((i - 1 : Nat) : Int) := by rw [w64 (by omega) (by omega)]; omega
      have hput : putL (idxFrom (detP C ch i pre) 0 (C.length - 1)) ((i - 1 : Nat) : Int) = idxFrom (detP C ch i (pre ++ [t])) 0 (C.length - 1) := by
        rw [ZFs (detP C ch i pre) (i - 1) (C.length - 1) 0 (by omega) (by omega)]
        refine Z6j _ _ (fun j _ _ => ?_)
        unfold detP
        by_cases hj : j = i - 1
        · subst hj
          have e1 : i - 1 + 1 = i := by omega
          have hn2 : ¬ keyC C (pre ++ [t]) 0 = keyC C (pre ++ [t]) i := fun h2 => hne ((hk i).1 h2).2
          simp [e1, hn2]
        · have e1 : ¬ j + 1 = i := by omega
          have e2 : (j == i - 1) = false := by simp; omega
          simp [e1, e2]
      rw [h5]
      refine Ev.bind (ZFY _ _ (by omega)) ?_
      rw [hput]
      exact ih
    · have heq : cellC C t.toNat 0 = cellC C t.toNat i := by
        by_cases hc : cellC C t.toNat 0 = cellC C t.toNat i
        · exact hc
        · exact (hh (by simpa using hz.2 hc)).elim
      have hsame : idxFrom (detP C ch i pre) 0 (C.length - 1) = idxFrom (detP C ch i (pre ++ [t])) 0 (C.length - 1) := by
        refine Z6j _ _ (fun j _ _ => ?_)
        unfold detP
        have : (keyC C (pre ++ [t]) 0 = keyC C (pre ++ [t]) i) ↔ (keyC C pre 0 = keyC C pre i) := ⟨fun h2 => ((hk i).1 h2).1, fun h2 => (hk i).2 ⟨h2, heq⟩⟩
        simp only [this]
      rw [hsame]
      exact ih
theorem ZhI {C : List (List (List FallD))} {n : Nat} {L : Nat → Nat} (hC : Tab C n L) (ch : List Int) (hch : chOK ch n) (hl : ch.length ≤ 1000) : ∀ (d i : Nat), i + d = C.length →
    Ev (fun k => Z4v k (idxFrom (detP C ch i []) 0 (C.length - 1)) ch (marksM C n C.length) (C.length : Int) (i : Int)) (idxFrom (fun j => !decide (keyC C ch 0 = keyC C ch (j + 1))) 0 (C.length - 1))
  | 0, i, h => by
    obtain rfl : i = C.length := by omega
    refine Ev.succ ?_
    simp only [Z4v, Int.lt_irrefl, decide_false, Bool.false_eq_true, if_false]
    refine Ev.of ?_
    congr 1
    refine Z6j _ _ (fun j _ hj => ?_)
    unfold detP
    have h1 : j + 1 < C.length := by omega
    have h2 : ¬ j + 1 = C.length := by omega
    simp [h1, h2]
  | d + 1, i, h => by
    have hcl := hC.len
    have h1 : (i : Int) < (C.length : Int) := by omega
    have h2 : (i : Int) < ((marksM C n C.length).length : Int) := by rw [Ze7]; exact h1
    have h5 : wrap64 ((i : Int) + 1) = ((i + 1 : Nat) : Int) := by rw [w64 (by omega) (by omega)]; omega
    have ih := ZhI hC ch hch hl d (i + 1) (by omega)
    have hstep : idxFrom (detP C ch (i + 1) []) 0 (C.length - 1) = idxFrom (detP C ch i ch) 0 (C.length - 1) := by
      refine Z6j _ _ (fun j _ _ => ?_)
      unfold detP
      by_cases hj : j + 1 = i
      · subst hj
        have e2 : j + 1 < j + 1 + 1 := by omega
        simp [e2, keyC]
      · have e1 : (j + 1 < i + 1) ↔ (j + 1 < i) := by omega
        simp only [hj, e1, decide_false, Bool.false_and, Bool.or_false, keyC, List.map_nil, decide_true, Bool.not_true, Bool.and_false]
    rw [hstep] at ih
    refine Ev.succ ?_
    simp only [Z4v, h1, h2, decide_true, if_true, Int.natCast_nonneg, Int.toNat_natCast, Zsm C n C.length i (by omega)]
    have h8 := ZhG hC ch i (by omega) (marksM C n C.length) (C.length : Int) (i : Int) ch [] hch (by simpa using hl)
    simp only [List.nil_append, List.length_nil, Int.natCast_zero] at h8
    refine Ev.bind h8 ?_
    simp only [h5]
    exact ih
theorem ZeA {C : List (List (List FallD))} {n : Nat} {L : Nat → Nat} (hC : Tab C n L) (ch : List Int) (hch : chOK ch n) (hl : ch.length ≤ 1000) : Ev (fun k => Z63 k (marksM C n C.length) ch) (idxFrom (fun j => !decide (keyC C ch 0 = keyC C ch (j + 1))) 0 (C.length - 1)) := by
 have h0 : idxFrom (detP C ch 0 []) 0 (C.length - 1) = [] := by
  rw [Z6j (q := fun _ => false) _ _ (fun j _ _ => by simp [detP]), Zvn]
 have h8 := ZhI hC ch hch hl C.length 0 (by omega)
 rw [h0] at h8
 refine Ev.succ ?_
 simp only [Z63, Ze7]
 exact Ev.bind h8 (Ev.some _)
def Zl (b : BoardD) (T : List (List Int)) : List Int × Bool := if (smallB b && testsOK b T) then (idxFrom (fun j => !decide (keyC (casesL b T) (rangeI T.length) 0 = keyC (casesL b T) (rangeI T.length) (j + 1))) 0 ((casesL b T).length - 1), true) else ([], false)
theorem Zgw (b : BoardD) (T : List (List Int)) (h0 : b.2.2.length ≤ 9223372036854775806) (h1 : T.length ≤ 9223372036854775806) (hx : ∀ x ∈ T, x.length ≤ 9223372036854775806) : Ev (fun k => Z3t k b T) (Zl b T) := by
 refine Ev.succ ?_
 simp only [Z3t]
 unfold Zl
 refine Ev.bind (a := (smallB b && testsOK b T)) (Zby b T h0 h1 hx) ?_
 cases g0 : (smallB b && testsOK b T) with
 | false => simp only [Bool.not_false, if_true, Bool.false_eq_true, if_false, Bool.false_and, Bool.and_false]; exact Ev.some _
 | true =>
  simp only [Bool.not_true, Bool.false_eq_true, if_false, if_true, Bool.and_self]
  obtain ⟨hb, hn, hT⟩ := Z3e g0
  have hT1 : ∀ t ∈ T, t.length ≤ 1000 ∧ colsOK b t := fun t ht => ⟨by have := (hT t ht).1; omega, (hT t ht).2⟩
  have hC := Z7G hb hT1
  exact Ev.bind (ZbE b hb T hT1 (by omega)) (Ev.bind (Zhg T (by omega)) (Ev.bind (ZeA hC _ (Zar _) (by rw [Z7o]; omega)) (Ev.some _)))
theorem Zr9 (b : BoardD) (T : List (List Int)) (h0 : b.2.2.length ≤ 9223372036854775806) (h1 : T.length ≤ 9223372036854775806) (hx : ∀ x ∈ T, x.length ≤ 9223372036854775806) : Ev (fun k => Z5i k b T) (Zl b T) := by
 refine Ev.succ ?_
 simp only [Z5i]
 unfold Zl
 refine Ev.bind (a := (smallB b && testsOK b T)) (ZaJ b T h0 h1 hx) ?_
 cases g0 : (smallB b && testsOK b T) with
 | false => simp only [Bool.not_false, if_true, Bool.false_eq_true, if_false, Bool.false_and, Bool.and_false]; exact Ev.some _
 | true =>
  simp only [Bool.not_true, Bool.false_eq_true, if_false, if_true, Bool.and_self]
  obtain ⟨hb, hn, hT⟩ := Z3e g0
  have hT1 : ∀ t ∈ T, t.length ≤ 1000 ∧ colsOK b t := fun t ht => ⟨by have := (hT t ht).1; omega, (hT t ht).2⟩
  have hC := Z7G hb hT1
  exact Ev.bind (ZaM b hb T hT1 (by omega)) (Ev.bind (Zch T (by omega)) (Ev.bind (ZeH hC _ (Zar _) (by rw [Z7o]; omega)) (Ev.some _)))
theorem ZDD {b : BoardD} (hb : boardOK b = true) (T : List (List Int)) : (casesL b T).length ≤ 271 := by
 have := Zkx hb
 simp [casesL]; omega
theorem ZrX (b : BoardD) (T : List (List Int)) : (Zl b T).1.length ≤ 271 := by
 unfold Zl
 split
 ·rename_i h
  have h1 := ZDD (Z3e h).1 T
  have h2 := Zfg (fun j => !decide (keyC (casesL b T) (rangeI T.length) 0 = keyC (casesL b T) (rangeI T.length) (j + 1))) ((casesL b T).length - 1) 0
  exact Nat.le_trans h2 (by omega)
 ·simp
end
section
theorem ZiE {C : List (List (List FallD))} {n : Nat} {L : Nat → Nat} (hC : Tab C n L) (o1 : List Int) (v1 : List Int) (i j : Nat) (hi : i < C.length) (hj : j < C.length) (v12 : List (List Int)) (v13 v14 : Int) : ∀ (r pre : List Int) (same : Bool), chOK r n → (pre ++ r).length ≤ 1000 →
    Ev (fun k => Z3M k o1 (marksM C n C.length) v1 (i : Int) (marksRow C i n) (j : Int) same v12 v13 v14 (pre ++ r) ((pre ++ r).length : Int) (pre.length : Int)) (o1, marksM C n C.length, v1, (i : Int), marksRow C i n, (j : Int), same && decide (keyC C r i = keyC C r j), v12, v13, v14)
  | [], pre, same, hr, hl => by
    refine Ev.succ ?_
    simp only [Z3M, Zj, decide_false, Bool.false_eq_true, if_false, keyC, List.map_nil, decide_true, Bool.and_true]
    exact Ev.some _
  | t :: r, pre, same, hr, hl => by
    obtain ⟨t0, tn⟩ := hr t (List.mem_cons_self ..)
    have ih := fun s => ZiE hC o1 v1 i j hi hj v12 v13 v14 r (pre ++ [t]) s (fun x hx => hr x (List.mem_cons_of_mem _ hx)) (by simpa using hl)
    simp only [← Z6] at ih
    have h1 : t < ((marksRow C i n).length : Int) := by rw [Zhp]; exact tn
    have h2 : (j : Int) < ((marksM C n C.length).length : Int) := by rw [Ze7]; omega
    have h3 : t < ((marksRow C j n).length : Int) := by rw [Zhp]; exact tn
    have hg1 := ZlK C n i t.toNat (by omega)
    have hg2 := ZlK C n j t.toNat (by omega)
    have hm := ZIX (C := C) (t := t.toNat) (i := i) (j := j)
    have hk : keyC C (t :: r) i = keyC C (t :: r) j ↔ cellC C t.toNat i = cellC C t.toNat j ∧ keyC C r i = keyC C r j := by simp only [keyC, List.map_cons, List.cons.injEq]
    refine Ev.succ ?_
    simp only [Z3M, Zc, Zr, decide_true, if_true, Int.toNat_natCast, Za, t0, h1, h2, Zsm C n C.length j hj, h3, hg1, hg2]
    rw [Zd pre t r (by omega)]
    cases same with
    | true =>
      simp only [if_true, Bool.true_and]
      refine (ih _).congr ?_
      simp only [hm, hk, Bool.decide_and]
    | false =>
      simp only [Bool.false_eq_true, if_false, Bool.false_and]
      exact (ih false).congr (by simp)
theorem ZiI {C : List (List (List FallD))} {n : Nat} {L : Nat → Nat} (hC : Tab C n L) (ch : List Int) (hch : chOK ch n) (hl : ch.length ≤ 1000) (o1 : List Int) (i : Nat) (hi : i < C.length) (v12 : List (List Int)) (v13 v14 : Int) : ∀ (d j : Nat), j + d = i →
    Ev (fun k => Z50 k o1 (marksM C n C.length) ch (i : Int) (marksRow C i n) (j : Int) v12 v13 v14) (o1, marksM C n C.length, ch, (fstR (keyC C ch) i d j : Int), v12, v13, v14)
  | 0, j, h => by
    obtain rfl : j = i := by omega
    refine Ev.succ ?_
    simp only [Z50, Int.lt_irrefl, decide_false, Bool.false_eq_true, if_false, fstR]
    exact Ev.some _
  | d + 1, j, h => by
    have hcl := hC.len
    have h1 : (j : Int) < i := by omega
    have h5 : wrap64 ((j : Int) + 1) = ((j + 1 : Nat) : Int) := by rw [w64 (by omega) (by omega)]; omega
    have h8 := ZiE hC o1 ch i j hi (by omega) v12 v13 v14 ch [] true hch (by simpa using hl)
    simp only [List.nil_append, List.length_nil, Int.natCast_zero, Bool.true_and] at h8
    have ih := ZiI hC ch hch hl o1 i hi v12 v13 v14 d (j + 1) (by omega)
    refine Ev.succ ?_
    simp only [Z50, h1, decide_true, if_true]
    refine Ev.bind h8 (Ev.ite (fun hh => ?_) (fun hh => ?_))
    · have hh : keyC C ch i = keyC C ch j := of_decide_eq_true hh
      simp only [fstR]
      rw [if_pos hh.symm]
      exact Ev.some _
    · have hh : ¬ keyC C ch i = keyC C ch j := fun hq => hh (decide_eq_true hq)
      simp only [fstR, h5]
      rw [if_neg (fun hq => hh hq.symm)]
      exact ih
def classI (C : List (List (List FallD))) (ch : List Int) (m : Nat) : List Int := (List.range m).map fun k => (fstOf (keyC C ch) k : Int)
theorem ZgE (C : List (List (List FallD))) (ch : List Int) (m : Nat) : (classI C ch m).length = m := by simp [classI]
theorem ZGx (C : List (List (List FallD))) (ch : List Int) (m : Nat) : classI C ch (m + 1) = classI C ch m ++ [(fstOf (keyC C ch) m : Int)] := by simp [classI, List.range_succ]
theorem ZHP (C : List (List (List FallD))) (ch : List Int) {m k : Nat} (hk : k < m) : List.getD (classI C ch m) k 0 = (fstOf (keyC C ch) k : Int) := by simp [classI, List.getD, List.getElem?_map, List.getElem?_range hk]
theorem ZiR {C : List (List (List FallD))} {n : Nat} {L : Nat → Nat} (hC : Tab C n L) (ch : List Int) (hch : chOK ch n) (hl : ch.length ≤ 1000) : ∀ (d i : Nat), i + d = C.length →
    Ev (fun k => Z5g k (classI C ch i) (marksM C n C.length) ch (marksM C n C.length) (C.length : Int) (i : Int)) (classI C ch C.length)
  | 0, i, h => by
    obtain rfl : i = C.length := by omega
    refine Ev.succ ?_
    simp only [Z5g, Int.lt_irrefl, decide_false, Bool.false_eq_true, if_false]
    exact Ev.some _
  | d + 1, i, h => by
    have hcl := hC.len
    have h1 : (i : Int) < (C.length : Int) := by omega
    have h2 : (i : Int) < ((marksM C n C.length).length : Int) := by rw [Ze7]; exact h1
    have h5 : wrap64 ((i : Int) + 1) = ((i + 1 : Nat) : Int) := by rw [w64 (by omega) (by omega)]; omega
    have hal : i + 1 ≤ 140737488355328 / 8 := by omega
    have ih := ZiR hC ch hch hl d (i + 1) (by omega)
    rw [ZGx] at ih
    refine Ev.succ ?_
    simp only [Z5g, h1, h2, decide_true, if_true, Int.natCast_nonneg, Int.toNat_natCast, Zsm C n C.length i (by omega)]
    refine Ev.bind (ZiI hC ch hch hl (classI C ch i) i (by omega) (marksM C n C.length) (C.length : Int) (i : Int) i 0 (by omega)) ?_
    simp only [List.length_singleton, ZgE, hal, if_true, h5]
    exact ih
theorem ZcE {C : List (List (List FallD))} {n : Nat} {L : Nat → Nat} (hC : Tab C n L) (ch : List Int) (hch : chOK ch n) (hl : ch.length ≤ 1000) : Ev (fun k => Z4X k (marksM C n C.length) ch) (classI C ch C.length) := by
 refine Ev.succ ?_
 simp only [Z4X, Ze7]
 have h8 := ZiR hC ch hch hl C.length 0 (by omega)
 exact Ev.bind h8 (Ev.some _)
def listF (C : List (List (List FallD))) (ch : List Int) (f m : Nat) : List Int := ((List.range m).filter fun j => decide (fstOf (keyC C ch) j = f)).map fun (j : Nat) => (j : Int) - 1
theorem ZHS (C : List (List (List FallD))) (ch : List Int) (f m : Nat) : listF C ch f (m + 1) = listF C ch f m ++ (if fstOf (keyC C ch) m = f then [(m : Int) - 1] else []) := by
 unfold listF
 rw [List.range_succ, List.filter_append, List.map_append]
 congr 1
 by_cases h : fstOf (keyC C ch) m = f <;> simp [List.filter, h]
theorem ZHY (C : List (List (List FallD))) (ch : List Int) (f m : Nat) : (listF C ch f m).length ≤ m := by
 unfold listF
 rw [List.length_map]
 exact Nat.le_trans (List.length_filter_le _ _) (by simp)
theorem Zld (C : List (List (List FallD))) (ch : List Int) (m : Nat) (hm : m ≤ 1000) (o1 : List (List Int)) (f : Nat) (v9 v10 : Int) : ∀ (d i : Nat), i + d = m →
    Ev (fun k => Z4T k o1 (listF C ch f i) (classI C ch m) (f : Int) v9 v10 (classI C ch m) (m : Int) (i : Int)) (o1, listF C ch f m, classI C ch m, v9, v10)
  | 0, i, h => by
    obtain rfl : i = m := by omega
    refine Ev.succ ?_
    simp only [Z4T, Int.lt_irrefl, decide_false, Bool.false_eq_true, if_false]
    exact Ev.some _
  | d + 1, i, h => by
    have h1 : (i : Int) < (m : Int) := by omega
    have h2 : (i : Int) < ((classI C ch m).length : Int) := by rw [ZgE]; exact h1
    have h5 : wrap64 ((i : Int) + 1) = ((i + 1 : Nat) : Int) := by rw [w64 (by omega) (by omega)]; omega
    have h6 : wrap64 ((i : Int) - 1) = (i : Int) - 1 := by rw [w64 (by omega) (by omega)]
    have hll := ZHY C ch f i
    have hal : (listF C ch f i).length + 1 ≤ 140737488355328 / 8 := by omega
    have ih := Zld C ch m hm o1 f v9 v10 d (i + 1) (by omega)
    rw [ZHS] at ih
    refine Ev.succ ?_
    simp only [Z4T, h1, h2, decide_true, if_true, Int.natCast_nonneg, Int.toNat_natCast, ZHP C ch (show i < m by omega), List.length_singleton, hal, h5, h6]
    refine Ev.ite (fun hh => ?_) (fun hh => ?_)
    · have hh : ((fstOf (keyC C ch) i : Nat) : Int) = f := of_decide_eq_true hh
      rw [if_pos (by omega)] at ih
      exact ih
    · have hh : ¬ ((fstOf (keyC C ch) i : Nat) : Int) = f := fun hq => hh (decide_eq_true hq)
      rw [if_neg (by omega), List.append_nil] at ih
      exact ih
def listsP (C : List (List (List FallD))) (ch : List Int) (m i : Nat) : List (List Int) := ((List.range i).map fun f => listF C ch f m).filter fun l => !l.isEmpty
theorem ZGX (C : List (List (List FallD))) (ch : List Int) (m i : Nat) : listsP C ch m (i + 1) = listsP C ch m i ++ (if (listF C ch i m).length > 0 then [listF C ch i m] else []) := by
 unfold listsP
 rw [List.range_succ, List.map_append, List.filter_append]
 congr 1
 cases h : listF C ch i m with
 | nil => simp [h]
 | cons x r => simp [h]
theorem ZHC (C : List (List (List FallD))) (ch : List Int) (m i : Nat) : (listsP C ch m i).length ≤ i :=
 Nat.le_trans (List.length_filter_le _ _) (by simp)
theorem ZlG (C : List (List (List FallD))) (ch : List Int) (m : Nat) (hm : m ≤ 1000) : ∀ (d i : Nat), i + d = m →
    Ev (fun k => Z4W k (listsP C ch m i) (classI C ch m) (m : Int) (i : Int)) (listsP C ch m m)
  | 0, i, h => by
    obtain rfl : i = m := by omega
    refine Ev.succ ?_
    simp only [Z4W, Int.lt_irrefl, decide_false, Bool.false_eq_true, if_false]
    exact Ev.some _
  | d + 1, i, h => by
    have h1 : (i : Int) < (m : Int) := by omega
    have h5 : wrap64 ((i : Int) + 1) = ((i + 1 : Nat) : Int) := by rw [w64 (by omega) (by omega)]; omega
    have hll := ZHC C ch m i
    have hal : (listsP C ch m i).length + 1 ≤ 140737488355328 / 24 := by omega
    have ih := ZlG C ch m hm d (i + 1) (by omega)
    rw [ZGX] at ih
    have h8 := Zld C ch m hm (listsP C ch m i) i (m : Int) (i : Int) m 0 (by omega)
    rw [show listF C ch i 0 = [] from rfl] at h8
    refine Ev.succ ?_
    simp only [Z4W, h1, decide_true, if_true, ZgE]
    refine Ev.bind h8 ?_
    simp only [List.length_singleton, hal, if_true, h5]
    refine Ev.ite (fun hh => ?_) (fun hh => ?_)
    · have hh : ((listF C ch i m).length : Int) > 0 := of_decide_eq_true hh
      rw [if_pos (by omega)] at ih
      exact ih
    · have hh : ¬ ((listF C ch i m).length : Int) > 0 := fun hq => hh (decide_eq_true hq)
      rw [if_neg (by omega), List.append_nil] at ih
      exact ih
theorem ZqG (C : List (List (List FallD))) (ch : List Int) (m : Nat) (hm : m ≤ 1000) : Ev (fun k => ZbF k (classI C ch m)) (classesL (keyC C ch) m) := by
 have h0 : listsP C ch m m = classesL (keyC C ch) m := ZjD (keyC C ch) m
 have h8 := ZlG C ch m hm m 0 (by omega)
 rw [h0] at h8
 refine Ev.succ ?_
 simp only [ZbF, ZgE]
 exact Ev.bind h8 (Ev.some _)
theorem ZGz {α : Type} [DecidableEq α] (key : Nat → α) (n f : Nat) : (members key n f).length ≤ n := by
 unfold members
 rw [List.length_map]
 exact Nat.le_trans (List.length_filter_le _ _) (by simp)
theorem Zho {α : Type} [DecidableEq α] (key : Nat → α) (n : Nat) : (classesL key n).length ≤ n := by
 unfold classesL firsts
 rw [List.length_map]
 exact Nat.le_trans (List.length_filter_le _ _) (by simp)
theorem Zx7 {α : Type} [DecidableEq α] (key : Nat → α) (n : Nat) : ∀ x ∈ classesL key n, x.length ≤ n := by
 intro x hx
 obtain ⟨f, _, rfl⟩ := List.mem_map.1 hx
 exact ZGz key n f
theorem ZiO {C : List (List (List FallD))} {n : Nat} {L : Nat → Nat} (hC : Tab C n L) (ch : List Int) (hch : chOK ch n) (hl : ch.length ≤ 1000) (i : Nat) (hi : i < C.length) (v10 v11 : Int) : ∀ (F pre : List Nat), firsts (keyC C ch) i = pre ++ F →
    Ev (fun k => Z5m k (classesL (keyC C ch) i) C ch (i : Int) (pre.length : Int) v10 v11) (classesL (keyC C ch) i, C, ch, (i : Int), ((pre.length + placeIx (keyC C ch) (keyC C ch i) F : Nat) : Int), v10, v11)
  | [], pre, h => by
    have hlen : (classesL (keyC C ch) i).length = pre.length := by unfold classesL; rw [List.length_map, h]; simp
    refine Ev.succ ?_
    simp only [Z5m, hlen, Int.lt_irrefl, decide_false, Bool.false_eq_true, if_false, placeIx]
    exact Ev.some _
  | f :: F, pre, h => by
    have hcl := hC.len
    have hf : f ∈ firsts (keyC C ch) i := by rw [h]; simp
    obtain ⟨hfi, _⟩ := ZiY (keyC C ch) hf
    obtain ⟨r, hr⟩ := ZHH (keyC C ch) hf
    have hlen : (classesL (keyC C ch) i).length = pre.length + (F.length + 1) := by unfold classesL; rw [List.length_map, h]; simp
    have hfl : (firsts (keyC C ch) i).length ≤ i := by unfold firsts; exact Nat.le_trans (List.length_filter_le _ _) (by simp)
    have hpl : pre.length ≤ i := by rw [h] at hfl; simp at hfl; omega
    have h1 : (pre.length : Int) < ((classesL (keyC C ch) i).length : Int) := by omega
    have hg : List.getD (classesL (keyC C ch) i) pre.length [] = ((f : Int) - 1) :: r := by
      unfold classesL
      rw [h]
      simp [List.getD, List.getElem?_map, hr]
    have h5 : wrap64 ((pre.length : Int) + 1) = (((pre ++ [f]).length : Nat) : Int) := by rw [w64 (by omega) (by omega)]; simp
    have h6 : wrap64 ((f : Int) - 1 + 1) = (f : Int) := by rw [w64 (by omega) (by omega)]; omega
    have h7 : (0 : Int) < ((((f : Int) - 1) :: r).length : Int) := by simp
    have h8 : (f : Int) < (C.length : Int) := by omega
    have h9 : (i : Int) < (C.length : Int) := by omega
    have ih := ZiO hC ch hch hl i hi v10 v11 F (pre ++ [f]) (by rw [h]; simp)
    refine Ev.succ ?_
    simp only [Z5m, h1, decide_true, if_true, Int.natCast_nonneg, Int.toNat_natCast, hg, h7, Int.toNat_zero, List.getD_cons_zero, h6, h8, h9, h5]
    refine Ev.bind (ZpS hC f i (by omega) hi ch hch hl) (Ev.ite (fun hh => ?_) (fun hh => ?_))
    · have hh : ¬ keyC C ch f = keyC C ch i := nd hh
      refine ih.congr ?_
      simp only [placeIx, if_neg hh, List.length_append, List.length_singleton]
      congr 5
      omega
    · have hh : keyC C ch f = keyC C ch i := yd hh
      simp only [placeIx, if_pos hh, Nat.add_zero]
      exact Ev.some _
theorem Ziw {C : List (List (List FallD))} {n : Nat} {L : Nat → Nat} (hC : Tab C n L) (ch : List Int) (hch : chOK ch n) (hl : ch.length ≤ 1000) : ∀ (d i : Nat), i + d = C.length →
    Ev (fun k => Z3H k (classesL (keyC C ch) i) C ch (C.length : Int) (i : Int)) (classesL (keyC C ch) C.length)
  | 0, i, h => by
    obtain rfl : i = C.length := by omega
    refine Ev.succ ?_
    simp only [Z3H, Int.lt_irrefl, decide_false, Bool.false_eq_true, if_false]
    exact Ev.some _
  | d + 1, i, h => by
    have hcl := hC.len
    have h1 : (i : Int) < (C.length : Int) := by omega
    have h5 : wrap64 ((i : Int) + 1) = ((i + 1 : Nat) : Int) := by rw [w64 (by omega) (by omega)]; omega
    have h6 : wrap64 ((i : Int) - 1) = (i : Int) - 1 := by rw [w64 (by omega) (by omega)]
    have hlen : (classesL (keyC C ch) i).length = (firsts (keyC C ch) i).length := by unfold classesL; rw [List.length_map]
    have hle := Zho (keyC C ch) i
    have hpl := ZBw (keyC C ch) (keyC C ch i) (firsts (keyC C ch) i)
    have ih := Ziw hC ch hch hl d (i + 1) (by omega)
    have h8 := ZiO hC ch hch hl i (by omega) (C.length : Int) (i : Int) (firsts (keyC C ch) i) [] rfl
    simp only [List.length_nil, Int.natCast_zero, Nat.zero_add] at h8
    refine Ev.succ ?_
    simp only [Z3H, h1, decide_true, if_true]
    refine Ev.bind h8 ?_
    simp only [h5, h6, Int.natCast_nonneg, if_true, Int.toNat_natCast]
    refine Ev.ite (fun hh => ?_) (fun hh => ?_)
    · have hh : ((placeIx (keyC C ch) (keyC C ch i) (firsts (keyC C ch) i) : Nat) : Int) = ((classesL (keyC C ch) i).length : Int) := of_decide_eq_true hh
      have hp : placeIx (keyC C ch) (keyC C ch i) (firsts (keyC C ch) i) = (firsts (keyC C ch) i).length := by omega
      have hnew := ZGK (keyC C ch) hp
      have hp2 : placeIx (keyC C ch) (keyC C ch i) (firsts (keyC C ch) i) = (classesL (keyC C ch) i).length := by omega
      have g1 : (classesL (keyC C ch) i).length + 1 ≤ 140737488355328 / 24 := by omega
      have g2 : (((classesL (keyC C ch) i).length : Nat) : Int) < (((classesL (keyC C ch) i) ++ [[]]).length : Int) := by simp; omega
      have g3 : List.getD (classesL (keyC C ch) i ++ [[]]) (classesL (keyC C ch) i).length [] = [] := Za _ _ _ _
      have g4 : ([] : List Int).length + [(i : Int) - 1].length ≤ 140737488355328 / 8 := by simp
      have g5 : List.set (classesL (keyC C ch) i ++ [[]]) (classesL (keyC C ch) i).length ([] ++ [(i : Int) - 1]) = classesL (keyC C ch) (i + 1) := by rw [Zr7, hnew]; rfl
      simp only [hp2, g1, g2, g3, g4, g5, if_true]
      exact ih
    · have hh : ¬ ((placeIx (keyC C ch) (keyC C ch i) (firsts (keyC C ch) i) : Nat) : Int) = ((classesL (keyC C ch) i).length : Int) := fun hq => hh (decide_eq_true hq)
      have hp : placeIx (keyC C ch) (keyC C ch i) (firsts (keyC C ch) i) < (firsts (keyC C ch) i).length := by omega
      have hold := ZGQ (keyC C ch) hp
      have g2 : ((placeIx (keyC C ch) (keyC C ch i) (firsts (keyC C ch) i) : Nat) : Int) < ((classesL (keyC C ch) i).length : Int) := by omega
      have hm : (List.getD (classesL (keyC C ch) i) (placeIx (keyC C ch) (keyC C ch i) (firsts (keyC C ch) i)) []).length ≤ i := by
        have : List.getD (classesL (keyC C ch) i) (placeIx (keyC C ch) (keyC C ch i) (firsts (keyC C ch) i)) [] ∈ classesL (keyC C ch) i := by simp [List.getD, List.getElem?_eq_getElem (show placeIx (keyC C ch) (keyC C ch i) (firsts (keyC C ch) i) < (classesL (keyC C ch) i).length by omega)]
        exact Zx7 _ _ _ this
      have g4 : (List.getD (classesL (keyC C ch) i) (placeIx (keyC C ch) (keyC C ch i) (firsts (keyC C ch) i)) []).length + [(i : Int) - 1].length ≤ 140737488355328 / 8 := by rw [List.length_singleton]; omega
      simp only [g2, g4, ← hold, if_true]
      exact ih
theorem Zc8 {C : List (List (List FallD))} {n : Nat} {L : Nat → Nat} (hC : Tab C n L) (ch : List Int) (hch : chOK ch n) (hl : ch.length ≤ 1000) : Ev (fun k => Z20 k C ch) (classesL (keyC C ch) C.length) := by
 refine Ev.succ ?_
 simp only [Z20]
 have h8 := Ziw hC ch hch hl C.length 0 (by omega)
 exact Ev.bind h8 (Ev.some _)
def Zv (b : BoardD) (T : List (List Int)) : List (List Int) × Bool := if (smallB b && testsOK b T) then (classesL (keyC (casesL b T) (rangeI T.length)) (casesL b T).length, true) else ([], false)
theorem Zi3 (b : BoardD) (T : List (List Int)) (h0 : b.2.2.length ≤ 9223372036854775806) (h1 : T.length ≤ 9223372036854775806) (hx : ∀ x ∈ T, x.length ≤ 9223372036854775806) : Ev (fun k => Z3g k b T) (Zv b T) := by
 refine Ev.succ ?_
 simp only [Z3g]
 unfold Zv
 refine Ev.bind (a := (smallB b && testsOK b T)) (Zby b T h0 h1 hx) ?_
 cases g0 : (smallB b && testsOK b T) with
 | false => simp only [Bool.not_false, if_true, Bool.false_eq_true, if_false, Bool.false_and, Bool.and_false]; exact Ev.some _
 | true =>
  simp only [Bool.not_true, Bool.false_eq_true, if_false, if_true, Bool.and_self]
  obtain ⟨hb, hn, hT⟩ := Z3e g0
  have hT1 : ∀ t ∈ T, t.length ≤ 1000 ∧ colsOK b t := fun t ht => ⟨by have := (hT t ht).1; omega, (hT t ht).2⟩
  have hC := Z7G hb hT1
  exact Ev.bind (ZbE b hb T hT1 (by omega)) (Ev.bind (Zhg T (by omega)) (Ev.bind (ZcE hC _ (Zar _) (by rw [Z7o]; omega)) (Ev.bind (ZqG _ _ _ hC.len) (Ev.some _))))
theorem Zua (b : BoardD) (T : List (List Int)) (h0 : b.2.2.length ≤ 9223372036854775806) (h1 : T.length ≤ 9223372036854775806) (hx : ∀ x ∈ T, x.length ≤ 9223372036854775806) : Ev (fun k => Z4q k b T) (Zv b T) := by
 refine Ev.succ ?_
 simp only [Z4q]
 unfold Zv
 refine Ev.bind (a := (smallB b && testsOK b T)) (ZaJ b T h0 h1 hx) ?_
 cases g0 : (smallB b && testsOK b T) with
 | false => simp only [Bool.not_false, if_true, Bool.false_eq_true, if_false, Bool.false_and, Bool.and_false]; exact Ev.some _
 | true =>
  simp only [Bool.not_true, Bool.false_eq_true, if_false, if_true, Bool.and_self]
  obtain ⟨hb, hn, hT⟩ := Z3e g0
  have hT1 : ∀ t ∈ T, t.length ≤ 1000 ∧ colsOK b t := fun t ht => ⟨by have := (hT t ht).1; omega, (hT t ht).2⟩
  have hC := Z7G hb hT1
  exact Ev.bind (ZaM b hb T hT1 (by omega)) (Ev.bind (Zch T (by omega)) (Ev.bind (Zc8 hC _ (Zar _) (by rw [Z7o]; omega)) (Ev.some _)))
theorem ZiZ (b : BoardD) (T : List (List Int)) : (Zv b T).1.length ≤ 271 ∧ szRows (Zv b T).1 ≤ 73441 ∧ ∀ x ∈ (Zv b T).1, x.length ≤ 9223372036854775806 := by
 unfold Zv
 split
 ·rename_i h
  have h1 := ZDD (Z3e h).1 T
  have h2 := Zho (keyC (casesL b T) (rangeI T.length)) (casesL b T).length
  have h3 : ∀ x ∈ classesL (keyC (casesL b T) (rangeI T.length)) (casesL b T).length, x.length ≤ 271 := fun x hx => Nat.le_trans (Zx7 _ _ x hx) h1
  have h4 := ZHZ h3
  refine ⟨Nat.le_trans h2 h1, ?_, fun x hx => by have := h3 x hx; omega⟩
  show szRows (classesL (keyC (casesL b T) (rangeI T.length)) (casesL b T).length) ≤ 73441
  omega
 ·exact ⟨by simp, by simp [szRows], fun x hx => by simp at hx⟩
def likeC (C : List (List (List FallD))) (E : List (List FallD)) (n k : Nat) : Bool := (List.range n).all fun t => decide (cellC C t k = List.getD E t [])
def likes (C : List (List (List FallD))) (E : List (List FallD)) (n m : Nat) : List Int := ((List.range m).filter (likeC C E n)).map fun (j : Nat) => (j : Int) - 1
def ZFZ (b : BoardD) (T : List (List Int)) (E : List (List FallD)) : List Int × Bool := if (smallB b && testsOK b T) then (if T.map List.length = E.map List.length then (likes (casesL b T) E T.length (casesL b T).length, true) else ([], false)) else ([], false)
end
section
section
variable {α β : Type} [DecidableEq α] [DecidableEq β] (kL : Nat → α) (kA : Nat → β)
theorem ZHB (h : ∀ i j, kA i = kA j → kL i = kL j) {k : Nat} (hk : isFirst kL k = true) : isFirst kA k = true := by
 unfold isFirst at hk ⊢
 rw [List.all_eq_true] at hk ⊢
 intro i hi
 have := of_decide_eq_true (hk i hi)
 exact decide_eq_true (fun he => this (h i k he))
theorem Zti {p q : Nat → Bool} (h : ∀ k, p k = true → q k = true) : ∀ l : List Nat, (l.filter p).length ≤ (l.filter q).length
 | [] => Nat.le_refl _
 | x :: l => by
  have ih := Zti h l
  cases hp : p x with
  | true =>
   rw [List.filter_cons_of_pos hp, List.filter_cons_of_pos (h x hp)]
   simp only [List.length_cons]
   omega
  | false =>
   rw [List.filter_cons_of_neg (by simp [hp])]
   cases hq : q x with
   | true => rw [List.filter_cons_of_pos hq]; simp only [List.length_cons]; omega
   | false => rw [List.filter_cons_of_neg (by simp [hq])]; exact ih
theorem Zj1 {p q : Nat → Bool} (h : ∀ k, p k = true → q k = true) : ∀ l : List Nat, (l.filter p).length = (l.filter q).length → ∀ k ∈ l, p k = q k
 | [], _, k, hk => by cases hk
 | x :: l, he, k, hk => by
  have hle := Zti h l
  cases hp : p x with
  | true =>
   have hq := h x hp
   rw [List.filter_cons_of_pos hp, List.filter_cons_of_pos hq] at he
   rcases List.mem_cons.1 hk with rfl | hk
   ·rw [hp, hq]
   ·exact Zj1 h l (by simpa using he) k hk
  | false =>
   rw [List.filter_cons_of_neg (by simp [hp])] at he
   cases hq : q x with
   | true =>
    rw [List.filter_cons_of_pos hq] at he
    simp only [List.length_cons] at he
    omega
   | false =>
    rw [List.filter_cons_of_neg (by simp [hq])] at he
    rcases List.mem_cons.1 hk with rfl | hk
    ·rw [hp, hq]
    ·exact Zj1 h l he k hk
theorem ZIv {γ : Type} [DecidableEq γ] (k : Nat → γ) (j : Nat) : isFirst k (fstOf k j) = true ∧ k j = k (fstOf k j) := (Z7O k).1 rfl
theorem Zlq (h : ∀ i j, kA i = kA j → kL i = kL j) (m : Nat) : (classesL kL m).length = (classesL kA m).length ↔ ∀ j, j < m → fstOf kL j = fstOf kA j := by
 have hl : ∀ {γ : Type} [DecidableEq γ] (k : Nat → γ), (classesL k m).length = ((List.range m).filter (isFirst k)).length := fun k => by unfold classesL firsts; rw [List.length_map]
 rw [hl, hl]
 constructor
 ·intro he j hj
  have hf := Zj1 (fun k => ZHB kL kA h) (List.range m) he
  obtain ⟨a1, a2⟩ := ZIv kA j
  have hle := ZIM kA j
  have hL : isFirst kL (fstOf kA j) = true := by rw [hf _ (List.mem_range.2 (by omega))]; exact a1
  exact (Z7O kL).2 ⟨hL, h _ _ a2⟩
 ·intro he
  congr 1
  refine List.filter_congr (fun k hk => ?_)
  have hk := List.mem_range.1 hk
  have key : ∀ {γ : Type} [DecidableEq γ] (q : Nat → γ), isFirst q k = true ↔ fstOf q k = k := fun q => ⟨fun hh => (Z7O q).2 ⟨hh, rfl⟩, fun hh => ((Z7O q).1 hh).1⟩
  rw [Bool.eq_iff_iff, key, key, he k hk]
end
end
section
def lexB : List Int → List Int → Bool
 | x :: a, y :: b => if x = y then lexB a b else decide (x < y)
 | _, _ => false
def befB (a b : List Int) : Bool := if a.length = b.length then lexB a b else decide (a.length < b.length)
theorem Zzi : ∀ a, lexB a a = false
 | [] => rfl
 | x :: a => by simp only [lexB, if_true]; exact Zzi a
theorem ZBu : ∀ (a b c : List Int), a.length = b.length → b.length = c.length → lexB a b = true → lexB b c = true → lexB a c = true
 | [], b, c, h1, h2, h3, h4 => by
  obtain rfl : b = [] := List.eq_nil_of_length_eq_zero h1.symm
  simp [lexB] at h3
 | x :: a, [], c, h1, h2, h3, h4 => by simp at h1
 | x :: a, y :: b, [], h1, h2, h3, h4 => by simp at h2
 | x :: a, y :: b, z :: c, h1, h2, h3, h4 => by
  simp only [lexB] at h3 h4 ⊢
  by_cases hxy : x = y
  ·subst hxy
   rw [if_pos rfl] at h3
   by_cases hxz : x = z
   ·subst hxz
    rw [if_pos rfl] at h4 ⊢
    exact ZBu a b c (by simpa using h1) (by simpa using h2) h3 h4
   ·rw [if_neg hxz] at h4 ⊢
    exact h4
  ·rw [if_neg hxy] at h3
   have h3 := of_decide_eq_true h3
   by_cases hyz : y = z
   ·subst hyz
    rw [if_neg hxy]
    exact decide_eq_true h3
   ·rw [if_neg hyz] at h4
    have h4 := of_decide_eq_true h4
    rw [if_neg (by omega)]
    exact decide_eq_true (by omega)
theorem ZFU : ∀ (a b : List Int), a.length = b.length → lexB a b = true ∨ a = b ∨ lexB b a = true
 | [], b, h => by
  obtain rfl : b = [] := List.eq_nil_of_length_eq_zero h.symm
  exact .inr (.inl rfl)
 | x :: a, [], h => by simp at h
 | x :: a, y :: b, h => by
  simp only [lexB]
  by_cases hxy : x = y
  ·subst hxy
   simp only [if_true]
   rcases ZFU a b (by simpa using h) with h1 | h1 | h1
   ·exact .inl h1
   ·exact .inr (.inl (by rw [h1]))
   ·exact .inr (.inr h1)
  ·rw [if_neg hxy, if_neg (fun he => hxy he.symm)]
   by_cases hlt : x < y
   ·exact .inl (decide_eq_true hlt)
   ·exact .inr (.inr (decide_eq_true (by omega)))
theorem ZAw (a : List Int) : befB a a = false := by unfold befB; rw [if_pos rfl]; exact Zzi a
theorem ZB5 {a b c : List Int} (h1 : befB a b = true) (h2 : befB b c = true) : befB a c = true := by
 unfold befB at *
 by_cases e1 : a.length = b.length
 ·rw [if_pos e1] at h1
  by_cases e2 : b.length = c.length
  ·rw [if_pos e2] at h2
   rw [if_pos (e1.trans e2)]
   exact ZBu a b c e1 e2 h1 h2
  ·rw [if_neg e2] at h2
   have h2 := of_decide_eq_true h2
   rw [if_neg (by omega)]
   exact decide_eq_true (by omega)
 ·rw [if_neg e1] at h1
  have h1 := of_decide_eq_true h1
  by_cases e2 : b.length = c.length
  ·rw [if_neg (by omega)]
   exact decide_eq_true (by omega)
  ·rw [if_neg e2] at h2
   have h2 := of_decide_eq_true h2
   rw [if_neg (by omega)]
   exact decide_eq_true (by omega)
theorem ZI7 {a b : List Int} (h : befB a b = true) : befB b a = false := by
 cases h2 : befB b a with
 | false => rfl
 | true =>
  have := ZB5 h h2
  rw [ZAw] at this
  cases this
theorem ZIH (a b : List Int) : befB a b = true ∨ a = b ∨ befB b a = true := by
 unfold befB
 by_cases e : a.length = b.length
 ·rw [if_pos e, if_pos e.symm]
  exact ZFU a b e
 ·rw [if_neg e, if_neg (fun h => e h.symm)]
  by_cases hlt : a.length < b.length
  ·exact .inl (decide_eq_true hlt)
  ·exact .inr (.inr (decide_eq_true (by omega)))
def Inc (n : Int) : Int → List Int → Prop
 | _, [] => True
 | lo, x :: r => lo ≤ x ∧ x < n ∧ Inc n (x + 1) r
theorem Zxh {n : Int} : ∀ {lo : Int} {s : List Int}, Inc n lo s → s = [] ∨ lo + (s.length : Int) ≤ n
 | lo, [], h => .inl rfl
 | lo, x :: r, h => by
  obtain ⟨h1, h2, h3⟩ := h
  right
  rcases Zxh h3 with rfl | h4
  ·simp; omega
  ·simp only [List.length_cons]; omega
theorem Zx2 {n : Int} : ∀ {lo : Int} {s : List Int}, Inc n lo s → ∀ x ∈ s, lo ≤ x ∧ x < n
 | lo, [], _, x, hx => by cases hx
 | lo, y :: r, h, x, hx => by
  obtain ⟨h1, h2, h3⟩ := h
  rcases List.mem_cons.1 hx with rfl | hx
  ·exact ⟨h1, h2⟩
  ·have := Zx2 h3 x hx
   exact ⟨by omega, this.2⟩
def extL (n : Nat) : Nat → Nat → List (List Int)
 | 0, _ => [[]]
 | left + 1, lo => (List.range (n - (lo + left))).flatMap fun j => (extL n left (lo + j + 1)).map fun s => ((lo + j : Nat) : Int) :: s
theorem Zb4 (n : Nat) : ∀ (left lo : Nat) (s : List Int), s ∈ extL n left lo ↔ s.length = left ∧ Inc n lo s
 | 0, lo, s => by
  simp only [extL, List.mem_singleton]
  constructor
  ·rintro rfl; exact ⟨rfl, trivial⟩
  ·rintro ⟨h, _⟩; exact List.eq_nil_of_length_eq_zero h
 | left + 1, lo, s => by
  simp only [extL, List.mem_flatMap, List.mem_range, List.mem_map]
  constructor
  ·rintro ⟨j, hj, r, hr, rfl⟩
   obtain ⟨h1, h2⟩ := (Zb4 n left _ r).1 hr
   refine ⟨by simp [h1], by omega, by omega, ?_⟩
   have e : ((lo + j + 1 : Nat) : Int) = ((lo + j : Nat) : Int) + 1 := by omega
   rw [e] at h2
   exact h2
  ·rintro ⟨h1, h2⟩
   cases s with
   | nil => simp at h1
   | cons x r =>
    obtain ⟨g1, g2, g3⟩ := h2
    have hr : r.length = left := by simpa using h1
    have hb : x + 1 + (left : Int) ≤ n := by
     rcases Zxh g3 with rfl | h4
     ·simp at hr; omega
     ·rw [hr] at h4; exact h4
    refine ⟨x.toNat - lo, by omega, r, (Zb4 n left _ r).2 ⟨hr, ?_⟩, ?_⟩
    ·have e : ((lo + (x.toNat - lo) + 1 : Nat) : Int) = x + 1 := by omega
     rw [e]
     exact g3
    ·have e : ((lo + (x.toNat - lo) : Nat) : Int) = x := by omega
     rw [e]
theorem Zzd (n : Nat) : ∀ (left lo : Nat), List.Pairwise (fun a b => befB a b = true) (extL n left lo)
 | 0, lo => by simp [extL]
 | left + 1, lo => by
  simp only [extL]
  rw [List.pairwise_flatMap]
  refine ⟨fun j _ => ?_, ?_⟩
  ·refine List.Pairwise.map _ (fun a b hab => ?_) (List.Pairwise.imp_of_mem (R := fun a b => befB a b = true) (S := fun a b => befB a b = true ∧ a.length = b.length) (fun {a b} ha hb h => ⟨h, by rw [((Zb4 n left _ a).1 ha).1, ((Zb4 n left _ b).1 hb).1]⟩) (Zzd n left (lo + j + 1)))
   obtain ⟨h1, h2⟩ := hab
   unfold befB at h1 ⊢
   rw [if_pos h2] at h1
   rw [if_pos (by simp [h2])]
   simp only [lexB, if_true]
   exact h1
  ·refine List.Pairwise.imp (fun {i j} hij => ?_) List.pairwise_lt_range
   intro a ha b hb
   obtain ⟨r, hr, rfl⟩ := List.mem_map.1 ha
   obtain ⟨q, hq, rfl⟩ := List.mem_map.1 hb
   have h1 := ((Zb4 n left _ r).1 hr).1
   have h2 := ((Zb4 n left _ q).1 hq).1
   unfold befB
   rw [if_pos (by simp [h1, h2])]
   simp only [lexB]
   rw [if_neg (by omega)]
   exact decide_eq_true (by omega)
def allL (n : Nat) : List (List Int) := (List.range (n + 1)).flatMap fun size => extL n size 0
theorem ZzO (n : Nat) (s : List Int) : s ∈ allL n ↔ Inc n 0 s := by
 unfold allL
 simp only [List.mem_flatMap, List.mem_range]
 constructor
 ·rintro ⟨size, _, h⟩
  exact ((Zb4 n size 0 s).1 h).2
 ·intro h
  refine ⟨s.length, ?_, (Zb4 n s.length 0 s).2 ⟨rfl, h⟩⟩
  rcases Zxh h with rfl | h1
  ·simp
  ·omega
theorem ZHa (n : Nat) : List.Pairwise (fun a b => befB a b = true) (allL n) := by
 unfold allL
 rw [List.pairwise_flatMap]
 refine ⟨fun size _ => Zzd n size 0, List.Pairwise.imp (fun {i j} hij => ?_) List.pairwise_lt_range⟩
 intro a ha b hb
 have h1 := ((Zb4 n i 0 a).1 ha).1
 have h2 := ((Zb4 n j 0 b).1 hb).1
 unfold befB
 rw [if_neg (by omega)]
 exact decide_eq_true (by omega)
structure IsLeast (n : Nat) (P : List Int → Bool) (x : List Int) : Prop where
 inc : Inc n 0 x
 ok : P x = true
 least : ∀ y, Inc n 0 y → P y = true → befB y x = false
theorem IsLeast.eq {n : Nat} {P : List Int → Bool} {x y : List Int} (hx : IsLeast n P x) (hy : IsLeast n P y) : x = y := by
 rcases ZIH x y with h | h | h
 ·rw [hy.least x hx.inc hx.ok] at h; cases h
 ·exact h
 ·rw [hx.least y hy.inc hy.ok] at h; cases h
theorem ZBn {P : List Int → Bool} : ∀ {l : List (List Int)}, List.Pairwise (fun a b => befB a b = true) l → ∀ {x}, l.find? P = some x → x ∈ l ∧ P x = true ∧ ∀ y ∈ l, P y = true → befB y x = false
 | [], _, x, h => by simp at h
 | a :: l, hp, x, h => by
  obtain ⟨h1, h2⟩ := List.pairwise_cons.1 hp
  cases ha : P a with
  | true =>
   rw [List.find?_cons_of_pos ha] at h
   injection h with h
   subst h
   refine ⟨List.mem_cons_self .., ha, fun y hy _ => ?_⟩
   rcases List.mem_cons.1 hy with rfl | hy
   ·exact ZAw _
   ·exact ZI7 (h1 y hy)
  | false =>
   rw [List.find?_cons_of_neg (by simp [ha])] at h
   obtain ⟨g1, g2, g3⟩ := ZBn h2 h
   refine ⟨List.mem_cons_of_mem _ g1, g2, fun y hy hPy => ?_⟩
   rcases List.mem_cons.1 hy with rfl | hy
   ·rw [ha] at hPy; cases hPy
   ·exact g3 y hy hPy
theorem ZIf {n : Nat} {P : List Int → Bool} {x : List Int} (h : (allL n).find? P = some x) : IsLeast n P x := by
 obtain ⟨h1, h2, h3⟩ := ZBn (ZHa n) h
 exact ⟨(ZzO n x).1 h1, h2, fun y hy hPy => h3 y ((ZzO n y).2 hy) hPy⟩
def foldB (P : List Int → Bool) : List (List Int) → List Int → List Int
 | [], best => best
 | l :: r, best => foldB P r (if befB l best && P l then l else best)
theorem Zsj {n : Nat} {P : List Int → Bool} : ∀ (C : List (List Int)) (best : List Int) (seen : List (List Int)), (∀ l ∈ C, Inc n 0 l) → Inc n 0 best → P best = true → (∀ y ∈ seen, P y = true → befB y best = false) →
    Inc n 0 (foldB P C best) ∧ P (foldB P C best) = true ∧ ∀ y, y ∈ seen ∨ y ∈ C → P y = true → befB y (foldB P C best) = false
  | [], best, seen, hC, h1, h2, h3 => ⟨h1, h2, fun y hy hPy => by rcases hy with hy | hy; exact h3 y hy hPy; cases hy⟩
  | l :: C, best, seen, hC, h1, h2, h3 => by
    simp only [foldB]
    by_cases hc : (befB l best && P l) = true
    · rw [if_pos hc]
      rw [Bool.and_eq_true] at hc
      obtain ⟨g1, g2, g3⟩ := Zsj (n := n) C l (l :: seen) (fun x hx => hC x (List.mem_cons_of_mem _ hx)) (hC l (List.mem_cons_self ..)) hc.2 (fun y hy hPy => by
        rcases List.mem_cons.1 hy with rfl | hy
        · exact ZAw _
        · cases hb : befB y l with
          | false => rfl
          | true =>
            have := ZB5 hb hc.1
            rw [h3 y hy hPy] at this
            cases this)
      refine ⟨g1, g2, fun y hy hPy => g3 y ?_ hPy⟩
      rcases hy with hy | hy
      · exact .inl (List.mem_cons_of_mem _ hy)
      · rcases List.mem_cons.1 hy with rfl | hy
        · exact .inl (List.mem_cons_self ..)
        · exact .inr hy
    · rw [if_neg hc]
      obtain ⟨g1, g2, g3⟩ := Zsj (n := n) C best (l :: seen) (fun x hx => hC x (List.mem_cons_of_mem _ hx)) h1 h2 (fun y hy hPy => by
        rcases List.mem_cons.1 hy with rfl | hy
        · cases hb : befB y best with
          | false => rfl
          | true => rw [hb, hPy] at hc; exact (hc rfl).elim
        · exact h3 y hy hPy)
      refine ⟨g1, g2, fun y hy hPy => g3 y ?_ hPy⟩
      rcases hy with hy | hy
      · exact .inl (List.mem_cons_of_mem _ hy)
      · rcases List.mem_cons.1 hy with rfl | hy
        · exact .inl (List.mem_cons_self ..)
        · exact .inr hy
def choiceL (n set : Nat) : List Int := ((List.range n).filter fun t => decide (set / 2 ^ t % 2 = 1)).map fun (t : Nat) => (t : Int)
def setOf (p : Nat → Bool) : Nat → Nat
 | 0 => 0
 | n + 1 => setOf p n + (if p n then 2 ^ n else 0)
theorem ZzE (p : Nat → Bool) : ∀ n, setOf p n < 2 ^ n
 | 0 => by simp [setOf]
 | n + 1 => by
  have := ZzE p n
  simp only [setOf, Nat.pow_succ]
  split <;> omega
theorem Zw6 (p : Nat → Bool) : ∀ (n t : Nat), t < n → setOf p n / 2 ^ t % 2 = if p t then 1 else 0
 | 0, t, h => by omega
 | n + 1, t, h => by
  have hlt := ZzE p n
  simp only [setOf]
  rcases Nat.lt_or_eq_of_le (Nat.le_of_lt_succ h) with h1 | h1
  ·have ih := Zw6 p n t h1
   split
   ·obtain ⟨d, rfl⟩ : ∃ d, n = t + (d + 1) := ⟨n - t - 1, by omega⟩
    have e : 2 ^ (t + (d + 1)) = 2 ^ t * (2 * 2 ^ d) := by rw [Nat.pow_add, Nat.pow_succ, Nat.mul_comm (2 ^ d) 2]
    rw [e, Nat.add_mul_div_left _ _ (Nat.two_pow_pos t), Nat.add_mul_mod_self_left]
    exact ih
   ·rw [Nat.add_zero]; exact ih
  ·subst h1
   split
   ·rw [Nat.add_div_right _ (Nat.two_pow_pos t), Nat.div_eq_of_lt hlt]
   ·rw [Nat.add_zero, Nat.div_eq_of_lt hlt]
theorem ZDM : ∀ {a b : List Int}, List.Pairwise (fun x y : Int => x < y) a → List.Pairwise (fun x y : Int => x < y) b → (∀ x, x ∈ a ↔ x ∈ b) → a = b
 | [], [], _, _, _ => rfl
 | [], y :: b, _, _, h => by have := (h y).2 (List.mem_cons_self ..); cases this
 | x :: a, [], _, _, h => by have := (h x).1 (List.mem_cons_self ..); cases this
 | x :: a, y :: b, ha, hb, h => by
  obtain ⟨a1, a2⟩ := List.pairwise_cons.1 ha
  obtain ⟨b1, b2⟩ := List.pairwise_cons.1 hb
  have hxy : x = y := by
   rcases List.mem_cons.1 ((h x).1 (List.mem_cons_self ..)) with h1 | h1
   ·exact h1
   ·rcases List.mem_cons.1 ((h y).2 (List.mem_cons_self ..)) with h2 | h2
    ·exact h2.symm
    ·have := b1 x h1
     have := a1 y h2
     omega
  subst hxy
  congr 1
  refine ZDM a2 b2 (fun z => ?_)
  constructor
  ·intro hz
   rcases List.mem_cons.1 ((h z).1 (List.mem_cons_of_mem _ hz)) with rfl | h1
   ·have := a1 z hz; omega
   ·exact h1
  ·intro hz
   rcases List.mem_cons.1 ((h z).2 (List.mem_cons_of_mem _ hz)) with rfl | h1
   ·have := b1 z hz; omega
   ·exact h1
theorem ZsD {n : Int} : ∀ {lo : Int} {s : List Int}, Inc n lo s → List.Pairwise (fun x y : Int => x < y) s
 | lo, [], _ => List.Pairwise.nil
 | lo, x :: r, h => List.pairwise_cons.2 ⟨fun y hy => by have := (Zx2 h.2.2 y hy).1; omega, ZsD h.2.2⟩
theorem Zfk {n : Int} : ∀ {lo : Int} {s : List Int}, List.Pairwise (fun x y : Int => x < y) s → (∀ x ∈ s, lo ≤ x ∧ x < n) → Inc n lo s
 | lo, [], _, _ => trivial
 | lo, x :: r, hp, h => by
  obtain ⟨h1, h2⟩ := List.pairwise_cons.1 hp
  have hx := h x (List.mem_cons_self ..)
  exact ⟨hx.1, hx.2, Zfk h2 (fun y hy => ⟨by have := h1 y hy; omega, (h y (List.mem_cons_of_mem _ hy)).2⟩)⟩
theorem ZpP (n set : Nat) : List.Pairwise (fun x y : Int => x < y) (choiceL n set) := by
 unfold choiceL
 exact List.Pairwise.map _ (fun a b h => by omega) (List.Pairwise.filter _ List.pairwise_lt_range)
theorem ZoN (n set : Nat) (x : Int) : x ∈ choiceL n set ↔ ∃ t : Nat, t < n ∧ x = (t : Int) ∧ set / 2 ^ t % 2 = 1 := by
 unfold choiceL
 simp only [List.mem_map, List.mem_filter, List.mem_range, decide_eq_true_eq]
 constructor
 ·rintro ⟨t, ⟨h1, h2⟩, rfl⟩; exact ⟨t, h1, rfl, h2⟩
 ·rintro ⟨t, h1, rfl, h2⟩; exact ⟨t, ⟨h1, h2⟩, rfl⟩
theorem ZH2 (n set : Nat) : Inc n 0 (choiceL n set) := by
 refine Zfk (ZpP n set) (fun x hx => ?_)
 obtain ⟨t, h1, rfl, _⟩ := (ZoN n set x).1 hx
 omega
theorem ZIm {n : Nat} {s : List Int} (h : Inc n 0 s) : ∃ set, set < 2 ^ n ∧ choiceL n set = s := by
 refine ⟨setOf (fun t => decide ((t : Int) ∈ s)) n, ZzE _ n, ZDM (ZpP _ _) (ZsD h) (fun x => ?_)⟩
 rw [ZoN]
 constructor
 ·rintro ⟨t, h1, rfl, h2⟩
  rw [Zw6 _ n t h1] at h2
  split at h2
  ·rename_i hp
   exact of_decide_eq_true hp
  ·cases h2
 ·intro hx
  obtain ⟨h0, h1⟩ := Zx2 h x hx
  refine ⟨x.toNat, by omega, by omega, ?_⟩
  rw [Zw6 _ n _ (by omega)]
  have e : ((x.toNat : Nat) : Int) = x := by omega
  rw [if_pos (decide_eq_true (by rw [e]; exact hx))]
theorem ZGJ {n : Nat} {P : List Int → Bool} {x : List Int} (h : IsLeast n P x) {i : Nat} (hi : i < x.length) : P (x.eraseIdx i) = false := by
 cases hP : P (x.eraseIdx i) with
 | false => rfl
 | true =>
  exfalso
  have hs : List.Sublist (x.eraseIdx i) x := List.eraseIdx_sublist x i
  have hinc : Inc n 0 (x.eraseIdx i) := Zfk (List.Pairwise.sublist hs (ZsD h.inc)) (fun y hy => Zx2 h.inc y (hs.subset hy))
  have hl : (x.eraseIdx i).length = x.length - 1 := by rw [List.length_eraseIdx, if_pos hi]
  have hb : befB (x.eraseIdx i) x = true := by
   unfold befB
   rw [if_neg (by omega)]
   exact decide_eq_true (by omega)
  rw [h.least _ hinc hP] at hb
  cases hb
theorem ZdO (n : Nat) (P : List Int → Bool) (all : List Int) (ha : Inc n 0 all) (hP : P all = true) : IsLeast n P (foldB P ((List.range (2 ^ n)).map (choiceL n)) all) := by
 obtain ⟨g1, g2, g3⟩ := Zsj (n := n) (P := P) ((List.range (2 ^ n)).map (choiceL n)) all [] (fun l hl => by
  obtain ⟨s, _, rfl⟩ := List.mem_map.1 hl
  exact ZH2 n s) ha hP (fun y hy => by cases hy)
 exact ⟨g1, g2, fun y hy hPy => by
  obtain ⟨s, hs, rfl⟩ := ZIm hy
  exact g3 _ (.inr (List.mem_map.2 ⟨s, List.mem_range.2 hs, rfl⟩)) hPy⟩
theorem ZHT (n : Nat) (P : List Int → Bool) (all : List Int) (ha : Inc n 0 all) (hP : P all = true) : (allL n).find? P = some (foldB P ((List.range (2 ^ n)).map (choiceL n)) all) := by
 have hf := ZdO n P all ha hP
 cases hd : (allL n).find? P with
 | none =>
  have := List.find?_eq_none.1 hd all ((ZzO n all).2 ha)
  exact (this hP).elim
 | some x => rw [(ZIf hd).eq hf]
end
section
theorem ZIl {u : Nat} (h : u ≤ 40) : (0 : Int) < 2 ^ u ∧ (2 : Int) ^ u ≤ 1099511627776 := by
 have h1 : (0 : Int) < 2 ^ u := Int.pow_pos (by omega)
 have h2 : (2 : Nat) ^ u ≤ 2 ^ 40 := Nat.pow_le_pow_right (by omega) h
 have h3 : ((2 ^ u : Nat) : Int) ≤ ((2 ^ 40 : Nat) : Int) := by exact_mod_cast h2
 refine ⟨h1, ?_⟩
 have h4 : ((2 ^ u : Nat) : Int) = (2 : Int) ^ u := by simp
 rw [h4] at h3
 have h5 : ((2 ^ 40 : Nat) : Int) = 1099511627776 := by decide
 omega
theorem ZqX {n : Int} (h0 : 0 ≤ n) (h1 : n ≤ 9223372036854775807) : IntKind.wrap IntKind.u64 n = n := by
 simp [IntKind.wrap, IntKind.bits, IntKind.signed]
 omega
theorem ZBa {u : Nat} (h : u ≤ 40) : shlS 1 (u : Int) = ((2 ^ u : Nat) : Int) := by
 rw [ZHr, Int.toNat_natCast, Nat.min_eq_left (by omega)]
 have hp := ZIl h
 rw [w64 (by omega) (by omega)]
 simp
theorem ZJf (n : Int) (h0 : 0 ≤ n) (h1 : n < 2 ^ 62) : IntKind.i64.wrap n = n := by
 rw [IntKind.wrap_i64]
 have : (2 : Int) ^ 62 = 4611686018427387904 := by decide
 omega
theorem ZJg {v : Int} (h0 : 0 ≤ v) (h1 : v < 1099511627776) {k : Nat} (hk : k ≤ 40) : bits BinOp.and IntKind.i64 (Int.fdiv v (2 ^ min (Int.toNat (k : Int)) (IntKind.bits IntKind.i64))) 1 = v / 2 ^ k % 2 := by
 have hp := ZIl hk
 rw [Int.toNat_natCast, show IntKind.bits IntKind.i64 = 64 from rfl, Nat.min_eq_left (by omega), Int.fdiv_eq_ediv_of_nonneg _ (by omega)]
 have hd0 : 0 ≤ v / 2 ^ k := Int.ediv_nonneg h0 (by omega)
 have hd1 : v / 2 ^ k ≤ v := Int.ediv_le_self _ h0
 have := bits_mask .i64 62 (by decide) ZJf 1 (by decide) (v / 2 ^ k) hd0 (by rw [show (2 : Int) ^ 62 = 4611686018427387904 by decide]; omega)
 simpa using this
theorem ZGb (n set : Nat) : choiceL (n + 1) set = choiceL n set ++ (if set / 2 ^ n % 2 = 1 then [(n : Int)] else []) := by
 unfold choiceL
 rw [List.range_succ, List.filter_append, List.map_append]
 congr 1
 by_cases h : set / 2 ^ n % 2 = 1 <;> simp [List.filter, h]
theorem Zp1 (n set : Nat) : (choiceL n set).length ≤ n := by
 unfold choiceL
 rw [List.length_map]
 exact Nat.le_trans (List.length_filter_le _ _) (by simp)
theorem ZBr (n set : Nat) : chOK (choiceL n set) n := fun t ht => by
 obtain ⟨j, h1, rfl, _⟩ := (ZoN n set t).1 ht
 omega
theorem ZjW (n set : Nat) (hn : n ≤ 10) (hs : set ≤ 1024) : ∀ (d i : Nat), i + d = n → Ev (fun k => Z4h k (choiceL i set) (set : Int) (n : Int) (i : Int)) (choiceL n set)
 | 0, i, h => by
  obtain rfl : i = n := by omega
  refine Ev.succ ?_
  simp only [Z4h, Int.lt_irrefl, decide_false, Bool.false_eq_true, if_false]
  exact Ev.some _
 | d + 1, i, h => by
  have ih := ZjW n set hn hs d (i + 1) (by omega)
  rw [ZGb] at ih
  have h1 : (i : Int) < (n : Int) := by omega
  have h2 : ¬ (i : Int) < 0 := by omega
  have h5 : wrap64 ((i : Int) + 1) = ((i + 1 : Nat) : Int) := by rw [w64 (by omega) (by omega)]; omega
  have hb : ((set : Int) / 2 ^ i % 2 = 1) ↔ set / 2 ^ i % 2 = 1 := by
   have : ((set / 2 ^ i % 2 : Nat) : Int) = (set : Int) / 2 ^ i % 2 := by simp
   omega
  have hl := Zp1 i set
  have hal : (choiceL i set).length + 1 ≤ 140737488355328 / 8 := by omega
  refine Ev.succ ?_
  simp only [Z4h, h1, decide_true, if_true, ZqX (show (0 : Int) ≤ (i : Int) by omega) (by omega), h2, if_false, ZJg (show (0 : Int) ≤ (set : Int) by omega) (by omega) (show i ≤ 40 by omega), h5, hb]
  by_cases hc : set / 2 ^ i % 2 = 1
  ·rw [if_pos hc] at ih
   simp only [hc, decide_true, if_true, List.length_singleton, hal]
   exact ih
  ·rw [if_neg hc, List.append_nil] at ih
   simp only [hc, decide_false, Bool.false_eq_true, if_false]
   exact ih
theorem Zoa (n set : Nat) (hn : n ≤ 10) (hs : set ≤ 1024) : Ev (fun k => ZaN k (set : Int) (n : Int)) (choiceL n set) := by
 refine Ev.succ ?_
 simp only [ZaN]
 have h8 := ZjW n set hn hs n 0 (by omega)
 exact Ev.bind h8 (Ev.some _)
theorem ZjY : ∀ (r s pre pre' : List Int), s.length = r.length → pre'.length = pre.length → (pre ++ r).length ≤ 9223372036854775806 → Ev (fun k => Z62 k (pre' ++ s) (pre ++ r) ((pre ++ r).length : Int) (pre.length : Int)) (if r = s then LR.go () else LR.ret (lexB r s))
 | [], s, pre, pre', h, hp, hl => by
  obtain rfl : s = [] := List.eq_nil_of_length_eq_zero h
  refine Ev.succ ?_
  simp only [Z62, Zj, decide_false, Bool.false_eq_true, if_false, if_true]
  exact Ev.some _
 | x :: r, [], pre, pre', h, hp, hl => by simp at h
 | x :: r, y :: s, pre, pre', h, hp, hl => by
  have ih := ZjY r s (pre ++ [x]) (pre' ++ [y]) (by simpa using h) (by simpa using hp) (by simpa using hl)
  have l2 : (pre.length : Int) < ((pre' ++ y :: s).length : Int) := by rw [← hp]; exact Zc _ _ _
  have g2 : List.getD (pre' ++ y :: s) pre.length 0 = y := by rw [← hp]; exact Za _ _ _ _
  refine Ev.succ ?_
  simp only [Z62, Zc, Zr, l2, decide_true, if_true, Int.toNat_natCast, Za, g2]
  rw [Zd pre x r (by omega)]
  rw [← Z6, ← Z6] at ih
  by_cases hxy : x = y
  ·subst hxy
   simp only [ne_eq, not_true_eq_false, decide_false, Bool.false_eq_true, if_false]
   refine ih.congr ?_
   by_cases hrs : r = s <;> simp [hrs, lexB]
  ·simp only [ne_eq, hxy, not_false_eq_true, decide_true, if_true]
   refine Ev.of ?_
   rw [if_neg (by intro hc; injection hc with h1 h2; exact hxy h1)]
   simp only [lexB, hxy, if_false]
theorem Zo0 (l m : List Int) (hl : l.length ≤ 9223372036854775806) : Ev (fun k => ZaA k l m) (befB l m) := by
 refine Ev.succ ?_
 simp only [ZaA]
 unfold befB
 by_cases h : l.length = m.length
 ·simp only [h, ne_eq, not_true_eq_false, decide_false, Bool.false_eq_true, if_false, if_true]
  have h8 := ZjY l m [] [] h.symm rfl (by simpa using hl)
  simp only [List.nil_append, List.length_nil, Int.natCast_zero, h] at h8
  refine Ev.bind h8 ?_
  by_cases hlm : l = m
  ·rw [if_pos hlm]; subst hlm; rw [Zzi]; exact Ev.go (Ev.some _)
  ·rw [if_neg hlm]; exact Ev.ret (Ev.some _)
 ·have h2 : ¬ (l.length : Int) = (m.length : Int) := by omega
  simp only [ne_eq, h2, h, not_false_eq_true, decide_true, if_true, if_false, Int.ofNat_lt]
  exact Ev.some _
theorem ZsT : ∀ (r s pre pre' : List Int), s.length = r.length → pre'.length = pre.length → (pre ++ r).length ≤ 9223372036854775806 → Ev (fun k => Z7V k (pre ++ r) (pre' ++ s) ((pre ++ r).length : Int) (pre.length : Int)) (if r = s then LR.go () else LR.ret false)
 | [], s, pre, pre', h, hp, hl => by
  obtain rfl : s = [] := List.eq_nil_of_length_eq_zero h
  refine Ev.succ ?_
  simp only [Z7V, Zj, decide_false, Bool.false_eq_true, if_false, if_true]
  exact Ev.some _
 | x :: r, [], pre, pre', h, hp, hl => by simp at h
 | x :: r, y :: s, pre, pre', h, hp, hl => by
  have ih := ZsT r s (pre ++ [x]) (pre' ++ [y]) (by simpa using h) (by simpa using hp) (by simpa using hl)
  have l2 : (pre.length : Int) < ((pre' ++ y :: s).length : Int) := by rw [← hp]; exact Zc _ _ _
  have g2 : List.getD (pre' ++ y :: s) pre.length 0 = y := by rw [← hp]; exact Za _ _ _ _
  refine Ev.succ ?_
  simp only [Z7V, Zc, Zr, l2, decide_true, if_true, Int.toNat_natCast, Za, g2]
  rw [Zd pre x r (by omega)]
  rw [← Z6, ← Z6] at ih
  by_cases hxy : x = y
  ·subst hxy
   simp only [ne_eq, not_true_eq_false, decide_false, Bool.false_eq_true, if_false]
   refine ih.congr ?_
   by_cases hrs : r = s <;> simp [hrs]
  ·simp only [ne_eq, hxy, not_false_eq_true, decide_true, if_true]
   refine Ev.of ?_
   rw [if_neg (by intro hc; injection hc with h1 h2; exact hxy h1)]
theorem Zzc (l m : List Int) (hl : l.length ≤ 9223372036854775806) : Ev (fun k => ZcR k l m) (decide (l = m)) := by
 refine Ev.succ ?_
 simp only [ZcR]
 by_cases h : l.length = m.length
 ·simp only [h, ne_eq, not_true_eq_false, decide_false, Bool.false_eq_true, if_false]
  have h8 := ZsT l m [] [] h.symm rfl (by simpa using hl)
  simp only [List.nil_append, List.length_nil, Int.natCast_zero, h] at h8
  refine Ev.bind h8 ?_
  by_cases hlm : l = m
  ·rw [if_pos hlm]; simp only [hlm, decide_true]; exact Ev.go (Ev.some _)
  ·rw [if_neg hlm]; simp only [hlm, decide_false]; exact Ev.ret (Ev.some _)
 ·have h2 : ¬ (l.length : Int) = (m.length : Int) := by omega
  have h3 : ¬ l = m := fun hc => h (by rw [hc])
  simp only [ne_eq, h2, not_false_eq_true, decide_true, if_true, h3, decide_false]
  exact Ev.some _
def setsL (n s d : Nat) : List (List Int) := (List.range d).map fun j => choiceL n (s + j)
theorem ZCf (n s d : Nat) : setsL n s (d + 1) = choiceL n s :: setsL n (s + 1) d := by
 unfold setsL
 rw [List.range_succ_eq_map, List.map_cons, List.map_map]
 congr 1
 refine List.map_congr_left (fun j _ => ?_)
 show choiceL n (s + (j + 1)) = choiceL n (s + 1 + j)
 rw [show s + (j + 1) = s + 1 + j by omega]
theorem ZDy (n : Nat) : setsL n 0 (2 ^ n) = (List.range (2 ^ n)).map (choiceL n) := by
 unfold setsL
 exact List.map_congr_left (fun j _ => by rw [Nat.zero_add])
def detI (C : List (List (List FallD))) (ch : List Int) : List Int := idxFrom (fun j => !decide (keyC C ch 0 = keyC C ch (j + 1))) 0 (C.length - 1)
def tellP (C : List (List (List FallD))) (n : Nat) (l : List Int) : Bool := decide (classI C l C.length = classI C (rangeI n) C.length)
def detPP (C : List (List (List FallD))) (n : Nat) (l : List Int) : Bool := decide (detI C l = detI C (rangeI n))
theorem ZI2 {n : Nat} (hn : n ≤ 10) : 2 ^ n ≤ 1024 := Nat.le_trans (Nat.pow_le_pow_right (by omega) hn) (by decide)
theorem Zgy {C : List (List (List FallD))} {n : Nat} {L : Nat → Nat} (hC : Tab C n L) (hn : n ≤ 10) (T : List (List Int)) (hT : T.length = n) : ∀ (d s : Nat) (best : List Int), s + d = 2 ^ n → Ev (fun k => Z1D k (marksM C n C.length) best (classI C (rangeI n) C.length) T (s : Int)) (foldB (tellP C n) (setsL n s d) best)
 | 0, s, best, h => by
  obtain rfl : s = 2 ^ n := by omega
  have hsh : shlS 1 (IntKind.wrap IntKind.u64 (n : Int)) = ((2 ^ n : Nat) : Int) := by rw [ZqX (by omega) (by omega)]; exact ZBa (by omega)
  refine Ev.succ ?_
  simp only [Z1D, hT, hsh, Int.lt_irrefl, decide_false, Bool.false_eq_true, if_false]
  exact Ev.some _
 | d + 1, s, best, h => by
  have hp := ZI2 hn
  have hsh : shlS 1 (IntKind.wrap IntKind.u64 (n : Int)) = ((2 ^ n : Nat) : Int) := by rw [ZqX (by omega) (by omega)]; exact ZBa (by omega)
  have h1 : (s : Int) < ((2 ^ n : Nat) : Int) := by omega
  have h5 : wrap64 ((s : Int) + 1) = ((s + 1 : Nat) : Int) := by rw [w64 (by omega) (by omega)]; omega
  have hl := Zp1 n s
  have ih := fun b => Zgy hC hn T hT d (s + 1) b (by omega)
  rw [ZCf]
  refine Ev.succ ?_
  simp only [Z1D, hsh, h1, decide_true, if_true, hT, h5, foldB]
  refine Ev.bind (Zoa n s hn (by omega)) ?_
  refine Ev.bind (Zo0 (choiceL n s) best (by omega)) ?_
  cases hb : befB (choiceL n s) best with
  | false => simp only [Bool.false_eq_true, if_false, Bool.false_and]; exact ih _
  | true =>
   simp only [if_true, Bool.true_and]
   refine Ev.bind (ZcE hC _ (ZBr n s) (by omega)) (Ev.bind (Zzc _ _ (by rw [ZgE]; have := hC.len; omega)) ?_)
   show Ev _ (foldB (tellP C n) (setsL n (s + 1) d) (if tellP C n (choiceL n s) = true then choiceL n s else best))
   unfold tellP
   by_cases hc : classI C (choiceL n s) C.length = classI C (rangeI n) C.length
   ·simp only [hc, decide_true, if_true]; exact ih _
   ·simp only [hc, decide_false, Bool.false_eq_true, if_false]; exact ih _
theorem Zes {C : List (List (List FallD))} {n : Nat} {L : Nat → Nat} (hC : Tab C n L) (hn : n ≤ 10) (T : List (List Int)) (hT : T.length = n) : ∀ (d s : Nat) (best : List Int), s + d = 2 ^ n → Ev (fun k => Z1c k (marksM C n C.length) best (detI C (rangeI n)) T (s : Int)) (foldB (detPP C n) (setsL n s d) best)
 | 0, s, best, h => by
  obtain rfl : s = 2 ^ n := by omega
  have hsh : shlS 1 (IntKind.wrap IntKind.u64 (n : Int)) = ((2 ^ n : Nat) : Int) := by rw [ZqX (by omega) (by omega)]; exact ZBa (by omega)
  refine Ev.succ ?_
  simp only [Z1c, hT, hsh, Int.lt_irrefl, decide_false, Bool.false_eq_true, if_false]
  exact Ev.some _
 | d + 1, s, best, h => by
  have hp := ZI2 hn
  have hsh : shlS 1 (IntKind.wrap IntKind.u64 (n : Int)) = ((2 ^ n : Nat) : Int) := by rw [ZqX (by omega) (by omega)]; exact ZBa (by omega)
  have h1 : (s : Int) < ((2 ^ n : Nat) : Int) := by omega
  have h5 : wrap64 ((s : Int) + 1) = ((s + 1 : Nat) : Int) := by rw [w64 (by omega) (by omega)]; omega
  have hl := Zp1 n s
  have ih := fun b => Zes hC hn T hT d (s + 1) b (by omega)
  rw [ZCf]
  refine Ev.succ ?_
  simp only [Z1c, hsh, h1, decide_true, if_true, hT, h5, foldB]
  refine Ev.bind (Zoa n s hn (by omega)) ?_
  refine Ev.bind (Zo0 (choiceL n s) best (by omega)) ?_
  cases hb : befB (choiceL n s) best with
  | false => simp only [Bool.false_eq_true, if_false, Bool.false_and]; exact ih _
  | true =>
   simp only [if_true, Bool.true_and]
   have hdl := Zfg (fun j => !decide (keyC C (choiceL n s) 0 = keyC C (choiceL n s) (j + 1))) (C.length - 1) 0
   have := hC.len
   refine Ev.bind (a := detI C (choiceL n s)) (ZeA hC _ (ZBr n s) (by omega)) (Ev.bind (Zzc _ _ (by unfold detI; omega)) ?_)
   show Ev _ (foldB (detPP C n) (setsL n (s + 1) d) (if detPP C n (choiceL n s) = true then choiceL n s else best))
   unfold detPP
   by_cases hc : detI C (choiceL n s) = detI C (rangeI n)
   ·simp only [hc, decide_true, if_true]; exact ih _
   ·simp only [hc, decide_false, Bool.false_eq_true, if_false]; exact ih _
def ZU (b : BoardD) (T : List (List Int)) : List Int × Bool := if (smallB b && testsOK b T) then (foldB (tellP (casesL b T) T.length) ((List.range (2 ^ T.length)).map (choiceL T.length)) (rangeI T.length), true) else ([], false)
def Z1o (b : BoardD) (T : List (List Int)) : List Int × Bool := if (smallB b && testsOK b T) then (foldB (detPP (casesL b T) T.length) ((List.range (2 ^ T.length)).map (choiceL T.length)) (rangeI T.length), true) else ([], false)
theorem ZuB (b : BoardD) (T : List (List Int)) (h0 : b.2.2.length ≤ 9223372036854775806) (h1 : T.length ≤ 9223372036854775806) (hx : ∀ x ∈ T, x.length ≤ 9223372036854775806) : Ev (fun k => Z9Q k b T) (ZU b T) := by
 refine Ev.succ ?_
 simp only [Z9Q]
 unfold ZU
 refine Ev.bind (a := (smallB b && testsOK b T)) (Zby b T h0 h1 hx) ?_
 cases g0 : (smallB b && testsOK b T) with
 | false => simp only [Bool.not_false, if_true, Bool.false_eq_true, if_false, Bool.false_and, Bool.and_false]; exact Ev.some _
 | true =>
  simp only [Bool.not_true, Bool.false_eq_true, if_false, if_true, Bool.and_self]
  obtain ⟨hb, hn, hT⟩ := Z3e g0
  have hT1 : ∀ t ∈ T, t.length ≤ 1000 ∧ colsOK b t := fun t ht => ⟨by have := (hT t ht).1; omega, (hT t ht).2⟩
  have hC := Z7G hb hT1
  have h8 := Zgy hC hn T rfl (2 ^ T.length) 0 (rangeI T.length) (by omega)
  rw [ZDy] at h8
  exact Ev.bind (ZbE b hb T hT1 (by omega)) (Ev.bind (Zhg T (by omega)) (Ev.bind (ZcE hC _ (Zar _) (by rw [Z7o]; omega)) (Ev.bind h8 (Ev.some _))))
theorem Zrr (b : BoardD) (T : List (List Int)) (h0 : b.2.2.length ≤ 9223372036854775806) (h1 : T.length ≤ 9223372036854775806) (hx : ∀ x ∈ T, x.length ≤ 9223372036854775806) : Ev (fun k => Z8l k b T) (Z1o b T) := by
 refine Ev.succ ?_
 simp only [Z8l]
 unfold Z1o
 refine Ev.bind (a := (smallB b && testsOK b T)) (Zby b T h0 h1 hx) ?_
 cases g0 : (smallB b && testsOK b T) with
 | false => simp only [Bool.not_false, if_true, Bool.false_eq_true, if_false, Bool.false_and, Bool.and_false]; exact Ev.some _
 | true =>
  simp only [Bool.not_true, Bool.false_eq_true, if_false, if_true, Bool.and_self]
  obtain ⟨hb, hn, hT⟩ := Z3e g0
  have hT1 : ∀ t ∈ T, t.length ≤ 1000 ∧ colsOK b t := fun t ht => ⟨by have := (hT t ht).1; omega, (hT t ht).2⟩
  have hC := Z7G hb hT1
  have h8 := Zes hC hn T rfl (2 ^ T.length) 0 (rangeI T.length) (by omega)
  rw [ZDy] at h8
  exact Ev.bind (ZbE b hb T hT1 (by omega)) (Ev.bind (Zhg T (by omega)) (Ev.bind (ZeA hC _ (Zar _) (by rw [Z7o]; omega)) (Ev.bind h8 (Ev.some _))))
end
section
inductive KP where
 | tree (agg : Bool) (t : Ty)
 | cp (t : Ty)
 | fn (f : Nat) (ts : List Ty)
@[reducible] def TupT : List Ty → Type
 | [] => Unit
 | t :: ts => t.D × TupT ts
@[reducible] def KP.D : KP → Type
 | .tree _ t => t.D
 | .cp t => t.D
 | .fn _ ts => TupT ts
@[reducible] def KTup : List KP → Type
 | [] => Unit
 | p :: ps => p.D × KTup ps
def readCp (st : St) (ex : List Nat) (t : Ty) : At → Option t.D
 | .es i u x 0 => if ex.contains i then none else if h : u = t then some (h ▸ x) else none
 | .ptr j 0 => if ex.contains j then none else match st.objs[j]? with
  | some (.box _ cells) => if cells.length = t.sz then readTree st ex t cells else none
  | _ => none
 | _ => none
def readCps (st : St) (ex : List Nat) : (ts : List Ty) → List At → Option (TupT ts)
 | [], [] => some ()
 | t :: ts, x :: l => match readCp st ex t x with
  | some y => match readCps st ex ts l with
   | some ys => some (y, ys)
   | none => none
  | none => none
 | _, _ => none
def readFn (st : St) (ex : List Nat) (f : Nat) (ts : List Ty) : At → Option (TupT ts)
 | .cv q => match st.objs[q]? with
  | some (.clo f' l) => if f' = f then readCps st ex ts l else none
  | _ => none
 | _ => none
def readK (st : St) (ex : List Nat) : (p : KP) → TV → Option p.D
 | .tree agg t, x => match x.cells with
  | some l => if aggOK agg x = true then readTree st ex t l else none
  | none => none
 | .cp t, .sv (.at x) => readCp st ex t x
 | .fn f ts, .sv (.at x) => readFn st ex f ts x
 | _, _ => none
def readKs (st : St) (ex : List Nat) : (ps : List KP) → List TV → Option (KTup ps)
 | [], [] => some ()
 | p :: ps, x :: xs => match readK st ex p x with
  | some y => match readKs st ex ps xs with
   | some ys => some (y, ys)
   | none => none
  | none => none
 | _, _ => none
def CpR (w : World) (S : Nat → Prop) (t : Ty) (x : t.D) (v : Value) : Prop :=
 ∃ (a : Addr) (cs : List Value), S a.block ∧ v = .pointer (some (a.add 0)) ∧ cs.length = t.sz ∧ (∀ (j : Nat) u, cs[j]? = some u → w.cell? (a.add j) = some u) ∧ Rd t w S x cs
def CpsR (w : World) (S : Nat → Prop) : (ts : List Ty) → TupT ts → List Value → Prop
 | [], _, vs => vs = []
 | t :: ts, x, vs => ∃ v vs', vs = v :: vs' ∧ CpR w S t x.1 v ∧ CpsR w S ts x.2 vs'
def FnR (w : World) (S : Nat → Prop) (f : Nat) (ts : List Ty) (x : TupT ts) (v : Value) : Prop :=
 ∃ vs : List Value, v = .func (.func f) #[] vs.toArray ∧ CpsR w S ts x vs
def KR (w : World) (S : Nat → Prop) : (p : KP) → p.D → Value → Prop
 | .tree agg t, x, v => Shaped agg v ∧ Rd t w S x v.cells.toList
 | .cp t, x, v => CpR w S t x v
 | .fn f ts, x, v => FnR w S f ts x v
def KsR (w : World) (S : Nat → Prop) : (ps : List KP) → KTup ps → List Value → Prop
 | [], _, vs => vs = []
 | p :: ps, x, vs => ∃ v vs', vs = v :: vs' ∧ KR w S p x.1 v ∧ KsR w S ps x.2 vs'
section
variable {P : Program} {w w1 w0 : World} {S0 : Own} {st : St} {μ : List ORec} {a : Act}
theorem Zhm (h : Rel w0 S0 st μ a w) {ex : List Nat} {t : Ty} {x : At} {v : Value} {y : t.D} (hx : AR μ w x v) (hr : readCp st ex t x = some y) : CpR w (okBut μ ex) t y v := by
 unfold readCp at hr
 split at hr
 ·rename_i i u x0
  split at hr
  ·cases hr
  ·rename_i hex
   split at hr
   ·rename_i hu
    subst hu
    injection hr with hr
    subst hr
    obtain ⟨r, a, cs, hr, hk, hv, hl, hc, hrd⟩ := hx
    have hex' : ex.contains i = false := by simpa using hex
    exact ⟨a, cs, ⟨i, r, hex', hr, hk⟩, hv, hl, hc, hrd.wide (fun k hk => ⟨i, r, hex', hr, hk⟩)⟩
   ·cases hr
 ·rename_i j
  split at hr
  ·cases hr
  ·rename_i hex
   split at hr
   ·rename_i e cells hob
    split at hr
    ·rename_i hl
     have hex' : ex.contains j = false := by simpa using hex
     obtain ⟨r, hrec, hv⟩ := hx
     obtain ⟨hok, vs, hb, hA, _⟩ := h.ob j _ r hob hrec
     refine ⟨⟨r.blk, 0, none⟩, vs, ⟨j, r, hex', hrec, hok⟩, hv, by rw [hA.1, hl], fun m u hm => ?_, Z19 h hA hr⟩
     rw [Zas, Zg7 hb, Nat.zero_add]
     simpa using hm
    ·cases hr
   ·cases hr
 ·cases hr
theorem ZsY (h : Rel w0 S0 st μ a w) {ex : List Nat} : ∀ {ts : List Ty} {l : List At} {vs : List Value} {y : TupT ts}, AL μ w l vs → readCps st ex ts l = some y → CpsR w (okBut μ ex) ts y vs
 | [], [], vs, y, hA, hr => by
  have := hA.1
  simpa [CpsR] using this
 | [], _ :: _, vs, y, hA, hr => by simp [readCps] at hr
 | _ :: _, [], vs, y, hA, hr => by simp [readCps] at hr
 | t :: ts, x :: l, vs, y, hA, hr => by
  simp only [readCps] at hr
  split at hr
  ·rename_i y1 hy1
   split at hr
   ·rename_i ys hys
    injection hr with hr
    subst hr
    match vs, hA with
    | [], hA => have := hA.1; simp at this
    | v :: vs, hA =>
     exact ⟨v, vs, rfl, Zhm h (hA.2 0 x v rfl rfl) hy1, ZsY h ⟨by simpa using hA.1, fun j x v hx hv => hA.2 (j + 1) x v (by simpa using hx) (by simpa using hv)⟩ hys⟩
   ·cases hr
  ·cases hr
theorem Zx6 (h : Rel w0 S0 st μ a w) {ex : List Nat} {f : Nat} {ts : List Ty} {x : At} {v : Value} {y : TupT ts} (hx : AR μ w x v) (hr : readFn st ex f ts x = some y) : FnR w (okBut μ ex) f ts y v := by
 unfold readFn at hr
 split at hr
 ·rename_i q
  split at hr
  ·rename_i f' l hob
   split at hr
   ·rename_i hf
    subst hf
    obtain ⟨r, hrec, hv, _⟩ := hx
    obtain ⟨vs, h1, h2⟩ := h.ob q _ r hob hrec
    exact ⟨vs, by rw [hv]; exact h1, ZsY h h2 hr⟩
   ·cases hr
  ·cases hr
 ·cases hr
theorem ZGl (h : Rel w0 S0 st μ a w) {ex : List Nat} {p : KP} {x : TV} {v : Value} {y : p.D} (hx : TR μ w x v) (hr : readK st ex p x = some y) : KR w (okBut μ ex) p y v := by
 cases p with
 | tree agg t =>
  simp only [readK] at hr
  split at hr
  ·rename_i l hl
   split at hr
   ·rename_i hag
    exact ⟨Zd0 hx hl hag, Z19 h (hx.cells_sound hl) hr⟩
   ·cases hr
  ·cases hr
 | cp t =>
  cases x with
  | tup l => cases hr
  | sv s => cases s with
   | agg l => cases hr
   | «at» y => exact Zhm h hx.1 hr
 | fn f ts =>
  cases x with
  | tup l => cases hr
  | sv s => cases s with
   | agg l => cases hr
   | «at» y => exact Zx6 h hx.1 hr
theorem ZlA (h : Rel w0 S0 st μ a w) {ex : List Nat} : ∀ {ps : List KP} {xs : List TV} {vs : List Value} {y : KTup ps}, vs.length = xs.length → (∀ (j : Nat) x v, xs[j]? = some x → vs[j]? = some v → TR μ w x v) → readKs st ex ps xs = some y → KsR w (okBut μ ex) ps y vs
 | [], [], vs, y, hl, hT, hr => by simpa [KsR] using hl
 | [], _ :: _, vs, y, hl, hT, hr => by simp [readKs] at hr
 | _ :: _, [], vs, y, hl, hT, hr => by simp [readKs] at hr
 | p :: ps, x :: xs, vs, y, hl, hT, hr => by
  simp only [readKs] at hr
  split at hr
  ·rename_i y1 hy1
   split at hr
   ·rename_i ys hys
    injection hr with hr
    subst hr
    match vs, hl with
    | v :: vs, hl =>
     exact ⟨v, vs, rfl, ZGl h (hT 0 x v rfl rfl) hy1, ZlA h (by simpa using hl) (fun j x v hx hv => hT (j + 1) x v (by simpa using hx) (by simpa using hv)) hys⟩
   ·cases hr
  ·cases hr
end
structure KDef where
 ps : List KP
 rs : List PK
 R : Type
 f : Nat → KTup ps → Option R
 dsp : {γ : Type} → R → (Tup rs → OutD → Option γ) → Option γ
 ret : Tup rs × OutD → Option R
 hret : ∀ {γ : Type} (b : Tup rs × OutD) (z : R) (K : Tup rs → OutD → Option γ), ret b = some z → dsp z K = K b.1 b.2
def KDef.fn (D : KDef) {γ : Type} (k : Nat) (x : KTup D.ps) (K : Tup D.rs → Option γ) : Option γ := match D.f k x with
 | some z => D.dsp z (fun res _ => K res)
 | none => none
def KDef.of (ps : List KP) (rs : List PK) (R : Type) (f : Nat → KTup ps → Option R) (toB : R → Tup rs × OutD) (ret : Tup rs × OutD → Option R) (h : ∀ b r, ret b = some r → toB r = b) : KDef where
 ps := ps
 rs := rs
 R := R
 f := f
 dsp := fun z K => K (toB z).1 (toB z).2
 ret := ret
 hret := fun b z K hb => by rw [h b z hb]
def KDef.E (D : KDef) : CloE where
 act := fun k st dst xs K => match readKs st [] D.ps xs with
  | some x => D.fn k x fun res => K (giveRes dst D.rs res st)
  | none => none
structure KSound (P : Program) (k : Nat) (f : FuncId) (D : KDef) : Prop where
  enter : ∀ vs w, (callFunc f vs).run P w = .ok (.enter f vs) w
  calls : ∀ {γ : Type} {K : Tup D.rs → Option γ} {r : γ} (w : World) (S : Nat → Prop) (x : KTup D.ps) (vs : List Value), KsR w S D.ps x vs → (∀ k, S k → k < w.heap.size) → GlOK w (fun _ => False) → D.fn k x K = some r → Calls P f vs.toArray w fun
      | .returned v, w' => ∃ res, K res = some r ∧ Chg w w' (fun _ => False) ∧ ∃ Sr us, (∀ k, Sr k → w.heap.size ≤ k ∧ k < w'.heap.size) ∧ v = packR us ∧ ResL w' D.rs Sr res us
      | _, _ => False
theorem KSound.cl {P : Program} {k : Nat} {f : FuncId} {D : KDef} (hE : KSound P k f D) : ClSound P k f D.E := by
 refine ⟨hE.enter, fun {γ K r w w0 S0 st μ a} dst xs vs h hl hT hk => ?_⟩
 simp only [KDef.E] at hk
 split at hk
 ·rename_i x hx
  refine (hE.calls w _ x vs (ZlA h hl hT hx) (fun k ⟨i, q, _, hq, hk⟩ => h.lt i q hq k hk) (h.glob (fun _ hf => hf.elim)) hk).mono fun e w' he => ?_
  cases e with
  | returned v =>
   obtain ⟨res, hK, hchg, Sr, us, hSr, rfl, hres⟩ := he
   have hs := h.kp.size
   have h1 := h.world hchg (fun _ _ _ _ _ hf => hf) (fun _ hf => hf.elim)
   obtain ⟨μ', h2⟩ := Z6l h1 hres (fun k hk => ⟨.inr (by have := (hSr k hk).1; omega), (hSr k hk).2⟩) (fun j q hq k hk hqk => by have := (hSr k hk).1; have := h.lt j q hq k hqk; omega) dst
   exact ⟨_, μ', h2, hK⟩
  | panicked c => exact False.elim he
  | outgrown => exact False.elim he
 ·cases hk
def esL : (ts : List Ty) → TupT ts → List At
 | [], _ => []
 | t :: ts, x => .es 0 t x.1 0 :: esL ts x.2
def initK : (ps : List KP) → KTup ps → Nat → List TV
 | [], _, _ => []
 | .tree agg t :: ps, x, i => packA agg (atomsOf 0 t x.1) :: initK ps x.2 i
 | .cp t :: ps, x, i => .sv (.at (.es 0 t x.1 0)) :: initK ps x.2 i
 | .fn _ _ :: ps, x, i => .sv (.at (.cv i)) :: initK ps x.2 (i + 1)
def objsK : (ps : List KP) → KTup ps → List Ob
 | [], _ => []
 | .tree _ _ :: ps, x => objsK ps x.2
 | .cp _ :: ps, x => objsK ps x.2
 | .fn f ts :: ps, x => .clo f (esL ts x.1) :: objsK ps x.2
def initKS (ps : List KP) (n : Nat) (x : KTup ps) : St := { tmps := initK ps x 1 ++ List.replicate (n - ps.length) (.sv (.at .un)), objs := .ro :: objsK ps x }
section
variable {P : Program} {w w1 w0 : World} {S0 : Own} {st : St} {μ : List ORec} {a : Act} {S : Nat → Prop}
theorem Zwf (hro : μ[0]? = some ⟨undef, 0, S⟩) : ∀ {ts : List Ty} {x : TupT ts} {vs : List Value}, CpsR w S ts x vs → AL μ w (esL ts x) vs
 | [], x, vs, h => by rw [show vs = [] from h]; exact ⟨rfl, fun j x v hx => by simp [esL] at hx⟩
 | t :: ts, x, vs, h => by
  obtain ⟨v, vs', rfl, ⟨a, cs, hk, hv, hl, hc, hrd⟩, hr⟩ := h
  have ih := Zwf hro hr
  refine ⟨by simp [esL, ih.1], fun j y u hy hu => ?_⟩
  cases j with
  | zero =>
   simp only [esL, List.getElem?_cons_zero] at hy hu
   injection hy with hy
   injection hu with hu
   subst hy hu
   exact ⟨_, a, cs, hro, hk, hv, hl, hc, hrd⟩
  | succ j =>
   simp only [esL, List.getElem?_cons_succ] at hy hu
   exact ih.2 j y u hy hu
theorem KsR.len : ∀ {ps : List KP} {x : KTup ps} {vs : List Value}, KsR w S ps x vs → vs.length = ps.length
 | [], _, vs, h => by rw [show vs = [] from h]; rfl
 | p :: ps, x, vs, h => by
  obtain ⟨v, vs', rfl, _, h⟩ := h
  simp [h.len]
theorem ZdH : ∀ {ps : List KP} {x : KTup ps} {i : Nat}, (initK ps x i).length = ps.length
 | [], _, _ => rfl
 | .tree _ _ :: ps, x, i => by simp [initK, ZdH]
 | .cp _ :: ps, x, i => by simp [initK, ZdH]
 | .fn _ _ :: ps, x, i => by simp [initK, ZdH]
theorem Zog : ∀ {ps : List KP} {x : KTup ps} {o : Ob}, o ∈ objsK ps x → ∃ f l, o = .clo f l
 | [], _, o, h => by simp [objsK] at h
 | .tree _ _ :: ps, x, o, h => Zog (ps := ps) h
 | .cp _ :: ps, x, o, h => Zog (ps := ps) h
 | .fn f ts :: ps, x, o, h => by
  simp only [objsK, List.mem_cons] at h
  rcases h with h | h
  ·exact ⟨_, _, h⟩
  ·exact Zog h
theorem Zf3 : ∀ {ps : List KP} {x : KTup ps} {vs : List Value}, KsR w S ps x vs → ∃ recs : List ORec, recs.length = (objsK ps x).length ∧ (∀ r ∈ recs, ∀ k, ¬ r.ok k) ∧ ∀ (μ : List ORec) (i : Nat), μ[0]? = some ⟨undef, 0, S⟩ → (∀ (j : Nat) r, recs[j]? = some r → μ[i + j]? = some r) →
    (∀ (j : Nat) y, (initK ps x i)[j]? = some y → ∃ v, vs[j]? = some v ∧ TR μ w y v) ∧ ∀ (j : Nat) o r, (objsK ps x)[j]? = some o → recs[j]? = some r → OR μ w o r
  | [], x, vs, h => ⟨[], rfl, fun r hr => by simp at hr, fun μ i _ _ => ⟨fun j y hy => by simp [initK] at hy, fun j o r ho => by simp [objsK] at ho⟩⟩
  | .tree agg t :: ps, x, vs, h => by
    obtain ⟨v, vs', rfl, ⟨hsh, hrd⟩, hr⟩ := h
    obtain ⟨recs, h1, h2, h3⟩ := Zf3 hr
    refine ⟨recs, h1, h2, fun μ i hro hrec => ⟨fun j y hy => ?_, (h3 μ i hro hrec).2⟩⟩
    cases j with
    | zero =>
      simp only [initK, List.getElem?_cons_zero] at hy
      injection hy with hy
      subst hy
      exact ⟨v, rfl, Zfe hsh (AL.of_rd hro hrd)⟩
    | succ j => exact (h3 μ i hro hrec).1 j y (by simpa [initK] using hy)
  | .cp t :: ps, x, vs, h => by
    obtain ⟨v, vs', rfl, ⟨a, cs, hk, hv, hl, hc, hrd⟩, hr⟩ := h
    obtain ⟨recs, h1, h2, h3⟩ := Zf3 hr
    refine ⟨recs, h1, h2, fun μ i hro hrec => ⟨fun j y hy => ?_, (h3 μ i hro hrec).2⟩⟩
    cases j with
    | zero =>
      simp only [initK, List.getElem?_cons_zero] at hy
      injection hy with hy
      subst hy
      exact ⟨v, rfl, ⟨_, a, cs, hro, hk, hv, hl, hc, hrd⟩, .inr (by rw [hv]; rfl)⟩
    | succ j => exact (h3 μ i hro hrec).1 j y (by simpa [initK] using hy)
  | .fn f ts :: ps, x, vs, h => by
    obtain ⟨v, vs', rfl, ⟨us, hv, hcs⟩, hr⟩ := h
    obtain ⟨recs, h1, h2, h3⟩ := Zf3 hr
    refine ⟨⟨v, 0, fun _ => False⟩ :: recs, by simp [objsK, h1], fun r hr => ?_, fun μ i hro hrec => ?_⟩
    · rcases List.mem_cons.1 hr with rfl | hr
      · exact fun _ hf => hf
      · exact h2 r hr
    · have h0 : μ[i]? = some ⟨v, 0, fun _ => False⟩ := hrec 0 _ rfl
      have h4 := h3 μ (i + 1) hro (fun j r hj => by rw [show i + 1 + j = i + (j + 1) by omega]; exact hrec (j + 1) r (by simpa using hj))
      refine ⟨fun j y hy => ?_, fun j o r ho hj => ?_⟩
      · cases j with
        | zero =>
          simp only [initK, List.getElem?_cons_zero] at hy
          injection hy with hy
          subst hy
          exact ⟨v, rfl, ⟨_, h0, rfl, _, _, hv⟩, .inr (by rw [hv]; rfl)⟩
        | succ j => exact h4.1 j y (by simpa [initK] using hy)
      · cases j with
        | zero =>
          simp only [objsK, List.getElem?_cons_zero] at ho hj
          injection ho with ho
          injection hj with hj
          subst ho hj
          exact ⟨us, hv, Zwf hro hcs⟩
        | succ j => exact h4.2 j o r (by simpa [objsK] using ho) (by simpa using hj)
theorem ZFy {ps : List KP} {n : Nat} {x : KTup ps} {vs : List Value} (h : KsR w S ps x vs) (hl : ∀ k, S k → k < w.heap.size) (hgl : GlOK w (fun _ => False)) :
    ∃ μ, Rel w { ok := fun _ => False, ov := [] } (initKS ps n x) μ { tmps := vs.toArray ++ Array.replicate (n - vs.toArray.size) undef, defers := [] } w := by
  obtain ⟨recs, h1, h2, h3⟩ := Zf3 h
  have hlen := h.len
  obtain ⟨g1, g2⟩ := h3 (⟨undef, 0, S⟩ :: recs) 1 rfl (fun j r hj => by rw [Nat.add_comm]; simpa using hj)
  have hno : ∀ (i : Nat) o, (initKS ps n x).objs[i]? = some o → o = .ro ∨ ∃ f l, o = .clo f l := by
    intro i o ho
    cases i with
    | zero => simp [initKS] at ho; exact .inl ho.symm
    | succ i => exact .inr (Zog (List.mem_of_getElem? (by simpa [initKS] using ho)))
  have hfree : ∀ (i : Nat) r, (⟨undef, 0, S⟩ :: recs)[i]? = some r → ∀ k, r.ok k → S k := by
    intro i r hr k hk
    cases i with
    | zero => simp at hr; subst hr; exact hk
    | succ i => exact ((h2 r (List.mem_of_getElem? (by simpa using hr))) k hk).elim
  refine ⟨⟨undef, 0, S⟩ :: recs, by simp [initKS, h1], by simp [initKS, ZdH, hlen], fun i y hy => ?_, fun i o r ho hr => ?_, fun i j o ri rj hij ho hw => ?_, fun i o r ho hr hw => ?_, fun i e t xs r ho => ?_, fun i r hr k hk => hl k (hfree i r hr k hk), .refl w _, rfl, fun j v hv => by simp at hv, hgl⟩
  · simp only [initKS] at hy
    rw [List.getElem?_append] at hy
    split at hy
    · obtain ⟨v, hv, ht⟩ := g1 i y hy
      have : (vs.toArray ++ Array.replicate (n - vs.toArray.size) undef).getD i undef = v := by
        rw [Array.getD_eq_getD_getElem?, Array.getElem?_append_left (by simp; exact (List.getElem?_eq_some_iff.1 hv).1)]
        simp [hv]
      rw [this]; exact ht
    · rw [List.getElem?_replicate] at hy
      split at hy
      · injection hy with hy
        subst hy
        exact ⟨trivial, .inl rfl⟩
      · cases hy
  · cases i with
    | zero => simp [initKS] at ho; subst ho; trivial
    | succ i => exact g2 i o r (by simpa [initKS] using ho) (by simpa using hr)
  · rcases hno i o ho with rfl | ⟨f, l, rfl⟩ <;> cases hw
  · rcases hno i o ho with rfl | ⟨f, l, rfl⟩ <;> cases hw
  · rcases hno i _ ho with h5 | ⟨f, l, h5⟩ <;> cases h5
noncomputable def fnKK (D : KDef) (X : Ctx (Tup D.rs × OutD)) (body : Code) (k : Nat) (x : KTup D.ps) : Option D.R :=
 exec X k body (initKS D.ps X.n x) (endK X D.ret) (fun _ _ => none) D.ret
theorem KSound.zero {D : KDef} {f : FuncId} (he : ∀ vs w, (callFunc f vs).run P w = .ok (.enter f vs) w) (h0 : ∀ x, D.f 0 x = none) : KSound P 0 f D :=
 ⟨he, fun w S x vs _ _ _ hk => by
  simp only [KDef.fn] at hk
  split at hk
  ·rename_i z hz
   exact nomatch (h0 x).symm.trans hz
  ·cases hk⟩
theorem ZIN {D : KDef} {X : Ctx (Tup D.rs × OutD)} {f : FuncId} {fn : Func} {body : Code} {k : Nat} (hX : X.res = resOf X.T [] D.rs fn.results.toList) (hXno : X.no = 0) (hXn : X.n = fn.ntmps) (hf : P.funcs[f]? = some fn) (hb : fn.body = some body)
    (hn : (fn.name == "runtime.NumGoroutine") = false) (hT : TTok P X.T) (hG : EnvOK P k X.G) (hL : LOK P X k body) (hs : ∀ x, D.f (k + 1) x = fnKK D X body k x) : KSound P (k + 1) f D := by
  refine ⟨Zga hf hn (by rw [hb]; rfl), fun {γ} {K} {r} w S x vs hA hl hgl hk => ?_⟩
  simp only [KDef.fn] at hk
  split at hk
  · rename_i z hz
    obtain ⟨μ, h⟩ := ZFy (n := X.n) hA hl hgl
    have hz := (hs x).symm.trans hz
    rw [hXn] at h
    have hz2 : exec X k body (initKS D.ps fn.ntmps x) (endK X D.ret) (fun _ _ => none) D.ret = some z := by rw [← hXn]; exact hz
    refine calls_of_wp hf hb (Code.wp_mono (fun e a' w' hq => ?_) (Zaz (S0 := { ok := fun _ => False, ov := [] }) hT hG (by rw [hXno]; rfl) hL h hz2))
    have fin : ∀ (st1 : St) (μ1 : List ORec) (b : Tup D.rs × OutD), Rel w { ok := fun _ => False, ov := [] } st1 μ1 a' w' → X.res st1 = some b → D.ret b = some z → ∃ v, (results fn a'.tmps).run P w' = .ok v w' ∧ ∃ res, K res = some r ∧ Chg w w' (fun _ => False) ∧ ∃ Sr us, (∀ k, Sr k → w.heap.size ≤ k ∧ k < w'.heap.size) ∧ v = packR us ∧ ResL w' D.rs Sr res us := by
      intro st1 μ1 b r1 hb2 hmk
      rw [hX] at hb2
      unfold resOf at hb2
      split at hb2
      · rename_i res st2 hres
        obtain ⟨us, μ2, Sr, hus, hR, r2, l2, t2, _⟩ := Zja hT r1 hres
        simp only [ownI, boxI] at hb2
        injection hb2 with hb2
        subst hb2
        have hkk := (D.hret _ z (fun res _ => K res) hmk).symm.trans hk
        refine ⟨packR us, ZoQ hus, res, hkk, r1.kp, Sr, us, fun k hk => ⟨?_, t2.lt k hk⟩, rfl, hR⟩
        rcases t2.new k hk with h5 | h5
        · exact h5.elim
        · exact h5
      · cases hb2
    cases e with
    | normal =>
      obtain ⟨st1, μ1, r1, hr1⟩ := hq
      unfold endK at hr1
      split at hr1
      · rename_i b hb2
        obtain ⟨v, g1, g2⟩ := fin st1 μ1 b r1 hb2 hr1
        exact ⟨r1.df, v, g1, g2⟩
      · cases hr1
    | ret =>
      obtain ⟨st1, μ1, b, r1, hb2, hr1⟩ := hq
      obtain ⟨v, g1, g2⟩ := fin st1 μ1 b r1 hb2 hr1
      exact ⟨r1.df, v, g1, g2⟩
    | exit id => obtain ⟨st1, μ1, r1, hr1⟩ := hq; cases hr1
    | goto l => exact False.elim hq
    | panic ch => exact False.elim hq
    | outgrown => exact False.elim hq
  · cases hk
theorem ZBM {D : KDef} {X : Ctx (Tup D.rs × OutD)} {f : FuncId} {fn : Func} {body : Code} (hX : X.res = resOf X.T [] D.rs fn.results.toList) (hXno : X.no = 0) (hXn : X.n = fn.ntmps) (hf : P.funcs[f]? = some fn) (hb : fn.body = some body)
    (hn : (fn.name == "runtime.NumGoroutine") = false) (hT : TTok P X.T) (hG : ∀ k, EnvOK P k X.G) (hL : ∀ k, LOK P X k body) (h0 : ∀ x, D.f 0 x = none) (hs : ∀ k x, D.f (k + 1) x = fnKK D X body k x) (k : Nat) : ClSound P k f D.E := by
  cases k with
  | zero => exact (KSound.zero (Zga hf hn (by rw [hb]; rfl)) h0).cl
  | succ k => exact (ZIN hX hXno hXn hf hb hn hT (hG k) (hL k) (hs k)).cl
end
end
end Go.Proofs.Ytkbikniinjalbaa.Vs
