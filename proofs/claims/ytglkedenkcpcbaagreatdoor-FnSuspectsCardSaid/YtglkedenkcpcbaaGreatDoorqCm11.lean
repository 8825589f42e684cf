/- The proof, part 12. -/
import Derived.Test.YtglkedenkcpcbaaGreatDoorqCm10
import Derived.KernelRfl
set_option linter.unusedVariables false
set_option linter.unusedSimpArgs false
namespace Go.Proofs.YtglkedenkcpcbaaGreatDoor.Vs
open Go.RowKit
theorem eq3 (x y : FallD) : (decide (x.1 = y.1) && (decide (x.2.1 = y.2.1) && (decide (x.2.2 = y.2.2) && true))) = decide (x = y) := by
 obtain ⟨a0, a1, a2⟩ := x
 obtain ⟨b0, b1, b2⟩ := y
 by_cases h0 : a0 = b0 <;> by_cases h1 : a1 = b1 <;> by_cases h2 : a2 = b2 <;> simp [h0, h1, h2]
def diffIx : Nat → List FallD → List FallD → Option Nat
 | i, x :: r, y :: s => if x = y then diffIx (i + 1) r s else some i
 | _, _, _ => none
def ixOf : Option Nat → Int
 | none => -1
 | some i => (i : Int)
def lrOf {R : Type} (f : Nat → R) : Option Nat → LR Unit R
 | none => .go ()
 | some i => .ret (f i)
theorem Zm8 : ∀ (i : Nat) (r s : List FallD), s.length = r.length → (diffIx i r s = none ↔ r = s)
 | i, [], s, h => by
  obtain rfl : s = [] := List.eq_nil_of_length_eq_zero h
  simp [diffIx]
 | i, x :: r, [], h => by simp at h
 | i, x :: r, y :: s, h => by
  have ih := Zm8 (i + 1) r s (by simpa using h)
  by_cases hxy : x = y <;> simp [diffIx, hxy, ih]
theorem ZNc (z : Option Nat) : ixOf z < 0 ↔ z = none := by
 cases z with
 | none => simp [ixOf]
 | some i => simp only [ixOf, reduceCtorEq, iff_false]; omega
theorem Zlz : ∀ (r s pre pre' : List FallD), s.length = r.length → pre'.length = pre.length → (pre ++ r).length ≤ 1000000 → Ev (fun k => Z7i k (pre' ++ s) (pre ++ r) ((pre ++ r).length : Int) (pre.length : Int)) (lrOf (fun i => (i : Int)) (diffIx pre.length r s))
 | [], s, pre, pre', h, hp, hl => by
  obtain rfl : s = [] := List.eq_nil_of_length_eq_zero h
  refine Ev.succ ?_
  simp only [Z7i, ZC, decide_false, Bool.false_eq_true, if_false]
  exact Ev.some _
 | x :: r, [], pre, pre', h, hp, hl => by simp at h
 | x :: r, y :: s, pre, pre', h, hp, hl => by
  have ih := Zlz r s (pre ++ [x]) (pre' ++ [y]) (by simpa using h) (by simpa using hp) (by simpa using hl)
  have l2 : (pre.length : Int) < ((pre' ++ y :: s).length : Int) := by rw [← hp]; exact ZA _ _ _
  have g2 : List.getD (pre' ++ y :: s) pre.length (0, 0, 0) = y := by rw [← hp]; exact Zs _ _ _ _
  refine Ev.succ ?_
  simp only [Z7i, ZA, ZN, l2, decide_true, if_true, Int.toNat_natCast, Zs, g2, eq3]
  rw [Zx pre x r (by omega)]
  rw [← Zm, ← Zm] at ih
  refine Ev.ite (fun hh => ?_) (fun hh => ?_)
  ·have hh : ¬ x = y := nd hh
   exact Ev.of (by simp [diffIx, hh, lrOf])
  ·have hh : x = y := yd hh
   refine ih.congr ?_
   simp [diffIx, hh]
theorem Z6Z : ∀ (r s pre pre' : List FallD), s.length = r.length → pre'.length = pre.length → (pre ++ r).length ≤ 1000000 → Ev (fun k => ZT k (pre ++ r) (pre' ++ s) ((pre ++ r).length : Int) (pre.length : Int)) (lrOf (fun _ => false) (diffIx pre.length r s))
 | [], s, pre, pre', h, hp, hl => by
  obtain rfl : s = [] := List.eq_nil_of_length_eq_zero h
  refine Ev.succ ?_
  simp only [ZT, ZC, decide_false, Bool.false_eq_true, if_false]
  exact Ev.some _
 | x :: r, [], pre, pre', h, hp, hl => by simp at h
 | x :: r, y :: s, pre, pre', h, hp, hl => by
  have ih := Z6Z r s (pre ++ [x]) (pre' ++ [y]) (by simpa using h) (by simpa using hp) (by simpa using hl)
  have l2 : (pre.length : Int) < ((pre' ++ y :: s).length : Int) := by rw [← hp]; exact ZA _ _ _
  have g2 : List.getD (pre' ++ y :: s) pre.length (0, 0, 0) = y := by rw [← hp]; exact Zs _ _ _ _
  refine Ev.succ ?_
  simp only [ZT, ZA, ZN, l2, decide_true, if_true, Int.toNat_natCast, Zs, g2, eq3]
  rw [Zx pre x r (by omega)]
  rw [← Zm, ← Zm] at ih
  refine Ev.ite (fun hh => ?_) (fun hh => ?_)
  ·have hh : ¬ x = y := nd hh
   exact Ev.of (by simp [diffIx, hh, lrOf])
  ·have hh : x = y := yd hh
   refine ih.congr ?_
   simp [diffIx, hh]
theorem ZAN (l m : List FallD) (h : m.length = l.length) (hl : l.length ≤ 1000000) : Ev (fun k => Zej k l m) (ixOf (diffIx 0 l m)) := by
 refine Ev.succ ?_
 simp only [Zej]
 refine Ev.bind (Zlz l m [] [] h rfl (by simpa using hl)) ?_
 simp only [List.length_nil]
 cases diffIx 0 l m with
 | none => exact Ev.go (Ev.some _)
 | some i => exact Ev.ret (Ev.some _)
theorem ZdA (l m : List FallD) (hl : l.length ≤ 1000000) : Ev (fun k => Z2p k l m) (decide (l = m)) := by
 refine Ev.succ ?_
 simp only [Z2p]
 by_cases h : l.length = m.length
 ·simp only [h, ne_eq, not_true_eq_false, decide_false, Bool.false_eq_true, if_false]
  have hh := Z6Z l m [] [] h.symm rfl (by simpa using hl)
  simp only [List.nil_append, List.length_nil, h] at hh
  refine Ev.bind hh ?_
  have hn := Zm8 0 l m h.symm
  cases hd : diffIx 0 l m with
  | none =>
   rw [hd] at hn
   simp only [hn.1 rfl, decide_true]
   exact Ev.go (Ev.some _)
  | some i =>
   rw [hd] at hn
   have : ¬ l = m := fun hc => by have := hn.2 hc; cases this
   simp only [this, decide_false]
   exact Ev.ret (Ev.some _)
 ·have h2 : ¬ (l.length : Int) = (m.length : Int) := by omega
  have h3 : ¬ l = m := fun hc => h (by rw [hc])
  simp only [ne_eq, h2, not_false_eq_true, decide_true, if_true, h3, decide_false]
  exact Ev.some _
def endOK (b : BoardD) (e : FallD) : Bool := decide (1 ≤ e.1 ∧ e.1 ≤ 3) && decide (0 ≤ e.2.1 ∧ e.2.1 ≤ b.1) && decide (-1 ≤ e.2.2 ∧ e.2.2 ≤ b.2.1)
def seenOK (b : BoardD) (t : List Int) (s : List FallD) : Bool := boardOK b && (decide (b.2.2.length ≤ 24) && (decide (t.length ≤ 20) && ((t.all fun c => decide (0 ≤ c ∧ c < b.2.1)) && (decide (s.length = t.length) && s.all (endOK b)))))
theorem Z6l {b : BoardD} {t : List Int} {s : List FallD} (h : seenOK b t s = true) : boardOK b = true ∧ b.2.2.length ≤ 24 ∧ t.length ≤ 20 ∧ colsOK b t ∧ s.length = t.length := by
 unfold seenOK at h
 simp only [Bool.and_eq_true, decide_eq_true_eq, List.all_eq_true] at h
 exact ⟨h.1, h.2.1, h.2.2.1, h.2.2.2.1, h.2.2.2.2.1⟩
theorem ZlM (b : BoardD) : ∀ (r pre : List FallD), (pre ++ r).length ≤ 9223372036854775806 → Ev (fun k => Z7v k b.1 b.2.1 b.2.2 (pre ++ r) ((pre ++ r).length : Int) (pre.length : Int)) (if r.all (endOK b) then LR.go () else LR.ret false)
 | [], pre, hl => by
  refine Ev.succ ?_
  simp only [Z7v, ZC, decide_false, Bool.false_eq_true, if_false, List.all_nil, if_true]
  exact Ev.some _
 | x :: r, pre, hl => by
  have ih := ZlM b r (pre ++ [x]) (by simpa using hl)
  refine Ev.succ ?_
  simp only [Z7v, ZA, ZN, decide_true, if_true, Int.toNat_natCast, Zs]
  rw [Zx pre x r (by omega)]
  rw [← Zm] at ih
  simp only [List.all_cons]
  have hd : endOK b x = (decide (1 ≤ x.1 ∧ x.1 ≤ 3) && decide (0 ≤ x.2.1 ∧ x.2.1 ≤ b.1) && decide (-1 ≤ x.2.2 ∧ x.2.2 ≤ b.2.1)) := rfl
  refine Ev.bind (Z4F _ _ _) (Ev.ite (fun h => ?_) (fun h1 => ?_))
  ·have h := nd (c := 1 ≤ x.1 ∧ x.1 ≤ 3) h
   exact Ev.of (by simp [hd, h])
  refine Ev.bind (Z4F _ _ _) (Ev.ite (fun h => ?_) (fun h2 => ?_))
  ·have h := nd (c := 0 ≤ x.2.1 ∧ x.2.1 ≤ b.1) h
   exact Ev.of (by simp only [hd, h, decide_false, Bool.and_false, Bool.false_and, Bool.false_eq_true, if_false])
  refine Ev.bind (Z4F _ _ _) (Ev.ite (fun h => ?_) (fun h3 => ?_))
  ·have h := nd (c := -1 ≤ x.2.2 ∧ x.2.2 ≤ b.2.1) h
   exact Ev.of (by simp only [hd, h, decide_false, Bool.and_false, Bool.false_and, Bool.false_eq_true, if_false])
  have h1 := yd (c := 1 ≤ x.1 ∧ x.1 ≤ 3) h1
  have h2 := yd (c := 0 ≤ x.2.1 ∧ x.2.1 ≤ b.1) h2
  have h3 := yd (c := -1 ≤ x.2.2 ∧ x.2.2 ≤ b.2.1) h3
  refine ih.congr ?_
  simp only [hd, h1, h2, h3, and_self, decide_true, Bool.true_and]
theorem Z9o (b : BoardD) (t : List Int) (s : List FallD) (hb : b.2.2.length ≤ 9223372036854775806) (ht : t.length ≤ 9223372036854775806) (hs : s.length ≤ 9223372036854775806) : Ev (fun k => Z4J k b t s) (seenOK b t s) := by
 refine Ev.succ ?_
 simp only [Z4J]
 have hdg : Ev (fun k => Zd4 k b) (boardOK b && decide (b.2.2.length ≤ 24)) := by
  refine Ev.succ ?_
  simp only [Zd4]
  refine Ev.bind (Zqv b hb) (Ev.of ?_)
  have : ((b.2.2.length : Int) ≤ 24) ↔ b.2.2.length ≤ 24 := by omega
  cases boardOK b <;> simp [this]
 refine Ev.bind hdg ?_
 unfold seenOK
 rw [← Bool.and_assoc]
 cases h0 : (boardOK b && decide (b.2.2.length ≤ 24)) with
 | false => simp only [Bool.not_false, if_true, Bool.false_and]; exact Ev.some _
 | true =>
  have hbo : boardOK b = true := by rw [Bool.and_eq_true] at h0; exact h0.1
  obtain ⟨g1, g2, g3, g4, g5, g6⟩ := ZP hbo
  simp only [Bool.not_true, Bool.false_eq_true, if_false, Bool.true_and]
  rw [w64 (n := b.2.1 - 1) (by omega) (by omega)]
  refine Ev.ite (fun h => ?_) (fun h => ?_)
  ·simp only [decide_eq_true_eq] at h
   have : ¬ t.length ≤ 20 := by omega
   simp only [this, decide_false, Bool.false_and]
   exact Ev.some _
  simp only [decide_eq_true_eq] at h
  have h20 : t.length ≤ 20 := by omega
  simp only [h20, decide_true, Bool.true_and]
  have hall : (t.all fun n => decide (0 ≤ n ∧ n ≤ b.2.1 - 1)) = (t.all fun c => decide (0 ≤ c ∧ c < b.2.1)) := by
   congr 1
   funext c
   have : (0 ≤ c ∧ c ≤ b.2.1 - 1) ↔ (0 ≤ c ∧ c < b.2.1) := by omega
   simp only [this]
  refine Ev.bind (ZE2 t _ _ ht) ?_
  rw [hall]
  cases h1 : (t.all fun c => decide (0 ≤ c ∧ c < b.2.1)) with
  | false => simp only [Bool.not_false, if_true, Bool.false_and]; exact Ev.some _
  | true =>
   simp only [Bool.not_true, Bool.false_eq_true, if_false, Bool.true_and]
   refine Ev.ite (fun h => ?_) (fun h => ?_)
   ·simp only [decide_eq_true_eq] at h
    have : ¬ s.length = t.length := by omega
    simp only [this, decide_false, Bool.false_and]
    exact Ev.some _
   simp only [decide_eq_true_eq] at h
   have hst : s.length = t.length := by omega
   rw [decide_eq_true hst, Bool.true_and]
   refine Ev.bind (ZlM b s [] (by simpa using hs)) ?_
   cases s.all (endOK b) with
   | true => simp only [if_true]; exact Ev.go (Ev.some _)
   | false => simp only [Bool.false_eq_true, if_false]; exact Ev.ret (Ev.some _)
theorem ZlL (b : BoardD) : ∀ (r pre : List FallD), (pre ++ r).length ≤ 9223372036854775806 → Ev (fun k => Z7m k b.1 b.2.1 b.2.2 (pre ++ r) ((pre ++ r).length : Int) (pre.length : Int)) (if r.all (endOK b) then LR.go () else LR.ret false)
 | [], pre, hl => by
  refine Ev.succ ?_
  simp only [Z7m, ZC, decide_false, Bool.false_eq_true, if_false, List.all_nil, if_true]
  exact Ev.some _
 | x :: r, pre, hl => by
  have ih := ZlL b r (pre ++ [x]) (by simpa using hl)
  refine Ev.succ ?_
  simp only [Z7m, ZA, ZN, decide_true, if_true, Int.toNat_natCast, Zs]
  rw [Zx pre x r (by omega)]
  rw [← Zm] at ih
  simp only [List.all_cons]
  have hd : endOK b x = decide (1 ≤ x.1 ∧ x.1 ≤ 3 ∧ 0 ≤ x.2.1 ∧ x.2.1 ≤ b.1 ∧ -1 ≤ x.2.2 ∧ x.2.2 ≤ b.2.1) := by
   unfold endOK
   rw [← Bool.decide_and, ← Bool.decide_and]
   exact decide_eq_decide.2 (by omega)
  have no : ¬ (1 ≤ x.1 ∧ x.1 ≤ 3 ∧ 0 ≤ x.2.1 ∧ x.2.1 ≤ b.1 ∧ -1 ≤ x.2.2 ∧ x.2.2 ≤ b.2.1) → (if (endOK b x && r.all (endOK b)) = true then LR.go () else LR.ret false : LR Unit Bool) = LR.ret false := by
   intro h
   simp only [hd, h, decide_false, Bool.false_and, Bool.false_eq_true, if_false]
  refine Ev.ite (fun h => Ev.of ?_) (fun a1 => Ev.ite (fun h => Ev.of ?_) (fun a2 => Ev.ite (fun h => Ev.of ?_) (fun a3 => Ev.ite (fun h => Ev.of ?_) (fun a4 => Ev.ite (fun h => Ev.of ?_) (fun a5 => Ev.ite (fun h => Ev.of ?_) (fun a6 => ?_))))))
  all_goals try (simp only [decide_eq_true_eq] at h; exact congrArg some (no (by omega)).symm)
  simp only [decide_eq_true_eq] at a1 a2 a3 a4 a5 a6
  have : 1 ≤ x.1 ∧ x.1 ≤ 3 ∧ 0 ≤ x.2.1 ∧ x.2.1 ≤ b.1 ∧ -1 ≤ x.2.2 ∧ x.2.2 ≤ b.2.1 := by omega
  refine ih.congr ?_
  simp only [hd, decide_eq_true this, Bool.true_and]
theorem Z9k (b : BoardD) (t : List Int) (s : List FallD) (hb : b.2.2.length ≤ 9223372036854775806) (ht : t.length ≤ 9223372036854775806) (hs : s.length ≤ 9223372036854775806) : Ev (fun k => Z4K k b t s) (seenOK b t s) := by
 refine Ev.succ ?_
 simp only [Z4K]
 refine Ev.bind (Zr9 b t hb ht) ?_
 unfold seenOK
 have no : ∀ {p q r : Bool} {c : Bool}, (p && (q && (r && (c && (decide (s.length = t.length) && s.all (endOK b)))))) = true → p = true ∧ q = true ∧ r = true ∧ c = true ∧ s.length = t.length ∧ s.all (endOK b) = true := by
  intro p q r c h
  simp only [Bool.and_eq_true, decide_eq_true_eq] at h
  exact ⟨h.1, h.2.1, h.2.2.1, h.2.2.2.1, h.2.2.2.2.1, h.2.2.2.2.2⟩
 generalize hv : (boardOK b && (decide (b.2.2.length ≤ 24) && (decide (t.length ≤ 20) && ((t.all fun c => decide (0 ≤ c ∧ c < b.2.1)) && (decide (s.length = t.length) && s.all (endOK b)))))) = v
 have out : (∀ (h1 : boardOK b = true) (h2 : b.2.2.length ≤ 24) (h3 : t.length ≤ 20) (h4 : (t.all fun c => decide (0 ≤ c ∧ c < b.2.1)) = true) (h5 : s.length = t.length) (h6 : s.all (endOK b) = true), False) → v = false := by
  intro h
  cases hb : v with
  | false => rfl
  | true =>
   rw [hb] at hv
   obtain ⟨a1, a2, a3, a4, a5, a6⟩ := no hv
   exact (h a1 (of_decide_eq_true a2) (of_decide_eq_true a3) a4 a5 a6).elim
 refine Ev.ite (fun h => ?_) (fun h => ?_)
 ·rw [out (fun h1 h2 h3 h4 h5 h6 => by
   have h3' : t.length ≤ 60 := by omega
   rw [h1, h4, decide_eq_true h3'] at h
   cases h)]
  exact Ev.some _
 simp only [Bool.not_eq_true, Bool.not_eq_false', Bool.and_eq_true, decide_eq_true_eq] at h
 obtain ⟨⟨a1, a2⟩, a3⟩ := h
 refine Ev.ite (fun h => ?_) (fun h => ?_)
 ·simp only [decide_eq_true_eq] at h
  rw [out (fun h1 h2 h3 h4 h5 h6 => by omega)]
  exact Ev.some _
 refine Ev.ite (fun h' => ?_) (fun h' => ?_)
 ·simp only [decide_eq_true_eq] at h'
  rw [out (fun h1 h2 h3 h4 h5 h6 => by omega)]
  exact Ev.some _
 refine Ev.ite (fun h'' => ?_) (fun h'' => ?_)
 ·simp only [decide_eq_true_eq] at h''
  rw [out (fun h1 h2 h3 h4 h5 h6 => by omega)]
  exact Ev.some _
 simp only [decide_eq_true_eq] at h h' h''
 have b2 : b.2.2.length ≤ 24 := by omega
 have b3 : t.length ≤ 20 := by omega
 have b5 : s.length = t.length := by omega
 rw [a1, a3, decide_eq_true b2, decide_eq_true b3, decide_eq_true b5, Bool.true_and, Bool.true_and, Bool.true_and, Bool.true_and, Bool.true_and] at hv
 subst hv
 refine Ev.bind (ZlL b s [] (by simpa using hs)) ?_
 cases s.all (endOK b) with
 | true => simp only [if_true]; exact Ev.go (Ev.some _)
 | false => simp only [Bool.false_eq_true, if_false]; exact Ev.ret (Ev.some _)
def endsOf (b : BoardD) (l : List FaultD) (t : List Int) : List FallD := (runsOf b (groupsOf b) (kindsB b l) t b.2.2).1
theorem Z9E (b : BoardD) (l : List FaultD) (t : List Int) : (endsOf b l t).length = t.length := ZxF _ _ _ _ _
theorem Zub (b : BoardD) (hb : boardOK b = true) (l : List FaultD) (hl : faultsOK b (-1) l = true) (hll : l.length ≤ 9223372036854775806) (t : List Int) (ht : t.length ≤ 1000) (hc : colsOK b t) (s : List FallD) (hs : s.length = t.length) : Ev (fun k => Zap k b l t s) (decide (endsOf b l t = s)) := by
 refine Ev.succ ?_
 simp only [Zap]
 have he := Z9E b l t
 refine Ev.bind (ZaS b hb l hl hll t ht hc) (Ev.bind (ZAN (endsOf b l t) s (by omega) (by omega)) (Ev.of ?_))
 congr 1
 exact decide_eq_decide.2 ((ZNc _).trans (Zm8 0 _ _ (by omega)))
theorem ZrB (b : BoardD) (hb : boardOK b = true) (l : List FaultD) (hl : faultsOK b (-1) l = true) (hll : l.length ≤ 9223372036854775806) (t : List Int) (ht : t.length ≤ 1000) (hc : colsOK b t) (s : List FallD) : Ev (fun k => Z91 k b l t s) (decide (endsOf b l t = s)) := by
 refine Ev.succ ?_
 simp only [Z91]
 have he := Z9E b l t
 exact Ev.bind (Zhj b hb l hl hll t ht hc) (Ev.bind (ZdA (endsOf b l t) s (by omega)) (Ev.some _))
end Go.Proofs.YtglkedenkcpcbaaGreatDoor.Vs

set_option linter.unusedVariables false
set_option linter.unusedSimpArgs false
namespace Go.Proofs.YtglkedenkcpcbaaGreatDoor.Vs
open Go.RowKit
def kindsAt (C i : Int) (x : CellD) : List FaultD := ([1, 2, 3].filter (fits x)).map fun kd => (kd, Int.tdiv i C, Int.tmod i C)
def possFrom (C : Int) : Int → List CellD → List FaultD
 | _, [] => []
 | i, x :: r => kindsAt C i x ++ possFrom C (i + 1) r
theorem Zmp (C i : Int) (x : CellD) : (kindsAt C i x).length ≤ 3 := by
 unfold kindsAt
 rw [List.length_map]
 exact Nat.le_trans (List.length_filter_le _ _) (by simp)
theorem ZtI (C : Int) : ∀ (r : List CellD) (i : Int), (possFrom C i r).length ≤ 3 * r.length
 | [], _ => by simp [possFrom]
 | x :: r, i => by
  have h1 := Zmp C i x
  have h2 := ZtI C r (i + 1)
  simp only [possFrom, List.length_append, List.length_cons]
  omega
theorem ZFP {i C : Int} (hi : 0 ≤ i) (hC : 1 ≤ C) : 0 ≤ Int.tdiv i C ∧ Int.tdiv i C ≤ i := by
 rw [Int.tdiv_eq_ediv_of_nonneg hi]
 exact ⟨Int.ediv_nonneg hi (by omega), Int.ediv_le_self _ hi⟩
theorem Z8F (R C : Int) (cs : List CellD) (x : CellD) (i kd : Int) (hi : 0 ≤ i) (hi2 : i ≤ 90) (hC : 1 ≤ C) (hk : 1 ≤ kd) (hk2 : kd ≤ 3) (v8 : List CellD) (v9 v10 : Int) (o : List FaultD) (ho : o.length ≤ 1000) (z : Int × Int × List CellD × List FaultD × List CellD × Int × Int)
    (h : Ev (fun k => Z1K k R C cs (if fits x kd then o ++ [(kd, Int.tdiv i C, Int.tmod i C)] else o) x.1 x.2 i (kd + 1) v8 v9 v10) z) : Ev (fun k => Z1K k R C cs o x.1 x.2 i kd v8 v9 v10) z := by
  have hd := ZFP hi hC
  have hC0 : ¬ C = 0 := by omega
  have hlen : o.length + 1 ≤ 5864062014805 := by omega
  refine Ev.succ ?_
  simp only [Z1K, hk2, decide_true, if_true]
  rw [w64 (n := kd + 1) (by omega) (by omega), w64 (n := Int.tdiv i C) (by omega) (by omega)]
  refine Ev.bind (Zqh x kd) ?_
  cases hf : fits x kd with
  | true =>
    simp only [hf, if_true] at h
    simp only [if_true, hC0, if_false, List.length_singleton]
    have : o.length + 1 ≤ 140737488355328 / 24 := by omega
    simp only [this, if_true]
    exact h
  | false =>
    simp only [hf, Bool.false_eq_true, if_false] at h
    simp only [Bool.false_eq_true, if_false]
    exact h
theorem ZqZ (R C : Int) (cs : List CellD) (x : CellD) (i : Int) (hi : 0 ≤ i) (hi2 : i ≤ 90) (hC : 1 ≤ C) (v8 : List CellD) (v9 v10 : Int) (o : List FaultD) (ho : o.length ≤ 900) : Ev (fun k => Z1K k R C cs o x.1 x.2 i 1 v8 v9 v10) (R, C, cs, o ++ kindsAt C i x, v8, v9, v10) := by
 have e1 : (if fits x 1 then o ++ [(1, Int.tdiv i C, Int.tmod i C)] else o) = o ++ (if fits x 1 then [(1, Int.tdiv i C, Int.tmod i C)] else []) := by split <;> simp
 refine Z8F R C cs x i 1 hi hi2 hC (by omega) (by omega) v8 v9 v10 o (by omega) _ ?_
 rw [e1]
 generalize h1 : (if fits x 1 then [((1 : Int), Int.tdiv i C, Int.tmod i C)] else []) = o1
 have l1 : o1.length ≤ 1 := by rw [← h1]; split <;> simp
 refine Z8F R C cs x i 2 hi hi2 hC (by omega) (by omega) v8 v9 v10 _ (by simp; omega) _ ?_
 have e2 : (if fits x 2 then (o ++ o1) ++ [(2, Int.tdiv i C, Int.tmod i C)] else o ++ o1) = (o ++ o1) ++ (if fits x 2 then [(2, Int.tdiv i C, Int.tmod i C)] else []) := by split <;> simp
 rw [e2]
 generalize h2 : (if fits x 2 then [((2 : Int), Int.tdiv i C, Int.tmod i C)] else []) = o2
 have l2 : o2.length ≤ 1 := by rw [← h2]; split <;> simp
 refine Z8F R C cs x i 3 hi hi2 hC (by omega) (by omega) v8 v9 v10 _ (by simp; omega) _ ?_
 refine Ev.succ ?_
 simp only [Z1K]
 have h4 : ¬ (3 + 1 : Int) ≤ 3 := by omega
 simp only [h4, decide_false, Bool.false_eq_true, if_false]
 refine Ev.of ?_
 rw [← h1, ← h2]
 unfold kindsAt
 cases f1 : fits x 1 <;> cases f2 : fits x 2 <;> cases f3 : fits x 3 <;> simp [List.filter, f1, f2, f3]
theorem Zg8 (R C : Int) (hC : 1 ≤ C) (cs : List CellD) : ∀ (r pre : List CellD) (o : List FaultD), (pre ++ r).length ≤ 90 → o.length ≤ 3 * pre.length → Ev (fun k => Z3o k R C cs o (pre ++ r) ((pre ++ r).length : Int) (pre.length : Int)) (o ++ possFrom C pre.length r)
 | [], pre, o, hl, ho => by
  refine Ev.succ ?_
  simp only [Z3o, ZC, decide_false, Bool.false_eq_true, if_false, possFrom]
  rw [List.append_nil o]
  exact Ev.some _
 | x :: r, pre, o, hl, ho => by
  have hl2 := hl
  simp only [List.length_append, List.length_cons] at hl2
  have hka : (kindsAt C pre.length x).length ≤ 3 := Zmp _ _ _
  have ih := Zg8 R C hC cs r (pre ++ [x]) (o ++ kindsAt C pre.length x) (by simpa using hl) (by simp; omega)
  refine Ev.succ ?_
  simp only [Z3o, ZA, ZN, decide_true, if_true, Int.toNat_natCast, Zs]
  refine Ev.bind (ZqZ R C cs x (pre.length : Int) (by omega) (by omega) hC (pre ++ x :: r) ((pre ++ x :: r).length : Int) (pre.length : Int) o (by omega)) ?_
  show Ev (fun k => Z3o k R C cs (o ++ kindsAt C pre.length x) (pre ++ x :: r) ((pre ++ x :: r).length : Int) (wrap64 ((pre.length : Int) + 1))) _
  rw [Zx pre x r (by omega)]
  rw [← Zm] at ih
  refine ih.congr ?_
  simp [possFrom]
theorem Zii (b : BoardD) (hb : boardOK b = true) : Ev (fun k => Z7I k b) (possFrom b.2.1 0 b.2.2) := by
 obtain ⟨g1, g2, g3, g4, g5, g6⟩ := ZP hb
 have hp := Z1x g1 g2 g3 g4
 refine Ev.succ ?_
 simp only [Z7I]
 exact Ev.bind (Zg8 b.1 b.2.1 g3 b.2.2 b.2.2 [] [] (by simp; omega) (by simp)) (Ev.some _)
theorem Z6n (R C : Int) (cs : List CellD) (x : CellD) (hx : cellOK x = true) (i kd : Int) (hi : 0 ≤ i) (hi2 : i ≤ 90) (hC : 1 ≤ C) (hk : 1 ≤ kd) (hk2 : kd ≤ 3) (v8 : List CellD) (v9 v10 : Int) (o : List FaultD) (ho : o.length ≤ 1000) (z : Int × Int × List CellD × List FaultD × List CellD × Int × Int)
    (h : Ev (fun k => Z1e k R C cs (if fits x kd then o ++ [(kd, Int.tdiv i C, Int.tmod i C)] else o) x.1 x.2 i (kd + 1) v8 v9 v10) z) : Ev (fun k => Z1e k R C cs o x.1 x.2 i kd v8 v9 v10) z := by
  have hd := ZFP hi hC
  have hC0 : ¬ C = 0 := by omega
  have hlen : o.length + 1 ≤ 5864062014805 := by omega
  refine Ev.succ ?_
  simp only [Z1e, hk2, decide_true, if_true]
  rw [w64 (n := kd + 1) (by omega) (by omega), w64 (n := Int.tdiv i C) (by omega) (by omega)]
  refine Ev.bind (ZzZ x kd hx) ?_
  cases hf : fits x kd with
  | true =>
    simp only [hf, if_true] at h
    simp only [if_true, hC0, if_false, List.length_singleton]
    have : o.length + 1 ≤ 140737488355328 / 24 := by omega
    simp only [this, if_true]
    exact h
  | false =>
    simp only [hf, Bool.false_eq_true, if_false] at h
    simp only [Bool.false_eq_true, if_false]
    exact h
theorem Zl7 (R C : Int) (cs : List CellD) (x : CellD) (hx : cellOK x = true) (i : Int) (hi : 0 ≤ i) (hi2 : i ≤ 90) (hC : 1 ≤ C) (v8 : List CellD) (v9 v10 : Int) (o : List FaultD) (ho : o.length ≤ 900) : Ev (fun k => Z1e k R C cs o x.1 x.2 i 1 v8 v9 v10) (R, C, cs, o ++ kindsAt C i x, v8, v9, v10) := by
 have e1 : (if fits x 1 then o ++ [(1, Int.tdiv i C, Int.tmod i C)] else o) = o ++ (if fits x 1 then [(1, Int.tdiv i C, Int.tmod i C)] else []) := by split <;> simp
 refine Z6n R C cs x hx i 1 hi hi2 hC (by omega) (by omega) v8 v9 v10 o (by omega) _ ?_
 rw [e1]
 generalize h1 : (if fits x 1 then [((1 : Int), Int.tdiv i C, Int.tmod i C)] else []) = o1
 have l1 : o1.length ≤ 1 := by rw [← h1]; split <;> simp
 refine Z6n R C cs x hx i 2 hi hi2 hC (by omega) (by omega) v8 v9 v10 _ (by simp; omega) _ ?_
 have e2 : (if fits x 2 then (o ++ o1) ++ [(2, Int.tdiv i C, Int.tmod i C)] else o ++ o1) = (o ++ o1) ++ (if fits x 2 then [(2, Int.tdiv i C, Int.tmod i C)] else []) := by split <;> simp
 rw [e2]
 generalize h2 : (if fits x 2 then [((2 : Int), Int.tdiv i C, Int.tmod i C)] else []) = o2
 have l2 : o2.length ≤ 1 := by rw [← h2]; split <;> simp
 refine Z6n R C cs x hx i 3 hi hi2 hC (by omega) (by omega) v8 v9 v10 _ (by simp; omega) _ ?_
 refine Ev.succ ?_
 simp only [Z1e]
 have h4 : ¬ (3 + 1 : Int) ≤ 3 := by omega
 simp only [h4, decide_false, Bool.false_eq_true, if_false]
 refine Ev.of ?_
 rw [← h1, ← h2]
 unfold kindsAt
 cases f1 : fits x 1 <;> cases f2 : fits x 2 <;> cases f3 : fits x 3 <;> simp [List.filter, f1, f2, f3]
theorem Zdo (R C : Int) (hC : 1 ≤ C) (cs : List CellD) : ∀ (r pre : List CellD) (o : List FaultD), (∀ y ∈ r, cellOK y = true) → (pre ++ r).length ≤ 90 → o.length ≤ 3 * pre.length → Ev (fun k => Z1X k R C cs o (pre ++ r) ((pre ++ r).length : Int) (pre.length : Int)) (o ++ possFrom C pre.length r)
 | [], pre, o, hx, hl, ho => by
  refine Ev.succ ?_
  simp only [Z1X, ZC, decide_false, Bool.false_eq_true, if_false, possFrom]
  rw [List.append_nil o]
  exact Ev.some _
 | x :: r, pre, o, hx, hl, ho => by
  have hl2 := hl
  simp only [List.length_append, List.length_cons] at hl2
  have hka : (kindsAt C pre.length x).length ≤ 3 := Zmp _ _ _
  have ih := Zdo R C hC cs r (pre ++ [x]) (o ++ kindsAt C pre.length x) (fun y hy => hx y (List.mem_cons_of_mem _ hy)) (by simpa using hl) (by simp; omega)
  refine Ev.succ ?_
  simp only [Z1X, ZA, ZN, decide_true, if_true, Int.toNat_natCast, Zs]
  refine Ev.bind (Zl7 R C cs x (hx x (List.mem_cons_self ..)) (pre.length : Int) (by omega) (by omega) hC (pre ++ x :: r) ((pre ++ x :: r).length : Int) (pre.length : Int) o (by omega)) ?_
  show Ev (fun k => Z1X k R C cs (o ++ kindsAt C pre.length x) (pre ++ x :: r) ((pre ++ x :: r).length : Int) (wrap64 ((pre.length : Int) + 1))) _
  rw [Zx pre x r (by omega)]
  rw [← Zm] at ih
  refine ih.congr ?_
  simp [possFrom]
theorem Zns (b : BoardD) (hb : boardOK b = true) : Ev (fun k => Z7n k b) (possFrom b.2.1 0 b.2.2) := by
 obtain ⟨g1, g2, g3, g4, g5, g6⟩ := ZP hb
 have hp := Z1x g1 g2 g3 g4
 refine Ev.succ ?_
 simp only [Z7n]
 exact Ev.bind (Zdo b.1 b.2.1 g3 b.2.2 b.2.2 [] [] g6 (by simp; omega) (by simp)) (Ev.some _)
theorem ZKm {i C : Int} (hi : 0 ≤ i) (hC : 1 ≤ C) : Int.tdiv i C * C + Int.tmod i C = i ∧ 0 ≤ Int.tmod i C ∧ Int.tmod i C < C ∧ 0 ≤ Int.tdiv i C := by
 rw [Int.tdiv_eq_ediv_of_nonneg hi, Int.tmod_eq_emod_of_nonneg hi]
 refine ⟨?_, Int.emod_nonneg _ (by omega), Int.emod_lt_of_pos _ (by omega), Int.ediv_nonneg hi (by omega)⟩
 rw [Int.mul_comm]
 exact Int.mul_ediv_add_emod i C
theorem ZFu {C i : Int} {x : CellD} {f : FaultD} (h : f ∈ kindsAt C i x) : f.2.1 = Int.tdiv i C ∧ f.2.2 = Int.tmod i C ∧ fits x f.1 = true := by
 unfold kindsAt at h
 obtain ⟨kd, h1, rfl⟩ := List.mem_map.1 h
 exact ⟨rfl, rfl, (List.mem_filter.1 h1).2⟩
theorem ZDd {C : Int} : ∀ {r : List CellD} {i : Nat} {f : FaultD}, f ∈ possFrom C i r → ∃ j : Nat, i ≤ j ∧ j < i + r.length ∧ f.2.1 = Int.tdiv j C ∧ f.2.2 = Int.tmod j C ∧ fits (List.getD r (j - i) (0, 0)) f.1 = true
 | [], i, f, h => by simp [possFrom] at h
 | x :: r, i, f, h => by
  simp only [possFrom, List.mem_append] at h
  rcases h with h | h
  ·obtain ⟨h1, h2, h3⟩ := ZFu h
   exact ⟨i, Nat.le_refl _, by simp, h1, h2, by simpa using h3⟩
  ·have h' : f ∈ possFrom C ((i + 1 : Nat) : Int) r := h
   obtain ⟨j, h1, h2, h3, h4, h5⟩ := ZDd h'
   refine ⟨j, by omega, by simp only [List.length_cons]; omega, h3, h4, ?_⟩
   rw [show j - i = (j - (i + 1)) + 1 by omega]
   exact h5
theorem ZpP {b : BoardD} (hb : boardOK b = true) {f : FaultD} (h : f ∈ possFrom b.2.1 0 b.2.2) : 0 ≤ f.2.1 ∧ f.2.1 < b.1 ∧ 0 ≤ f.2.2 ∧ f.2.2 < b.2.1 ∧ fits (List.getD b.2.2 (placeOf b f).toNat (0, 0)) f.1 = true := by
 obtain ⟨g1, g2, g3, g4, g5, g6⟩ := ZP hb
 have h' : f ∈ possFrom b.2.1 ((0 : Nat) : Int) b.2.2 := h
 obtain ⟨j, h1, h2, h3, h4, h5⟩ := ZDd h'
 obtain ⟨d1, d2, d3, d4⟩ := ZKm (i := (j : Int)) (C := b.2.1) (by omega) g3
 have hp : placeOf b f = j := by unfold placeOf; rw [h3, h4]; exact d1
 refine ⟨by rw [h3]; exact d4, ?_, by rw [h4]; exact d2, by rw [h4]; exact d3, ?_⟩
 ·rw [h3]
  by_cases hh : Int.tdiv (j : Int) b.2.1 < b.1
  ·exact hh
  ·have := Int.mul_le_mul_of_nonneg_right (show b.1 ≤ Int.tdiv (j : Int) b.2.1 by omega) (show 0 ≤ b.2.1 by omega)
   omega
 ·rw [hp]
  simpa using h5
theorem Zkg {b : BoardD} (hb : boardOK b = true) {f : FaultD} (h : f ∈ possFrom b.2.1 0 b.2.2) : faultsOK b (-1) [f] = true := by
 obtain ⟨h1, h2, h3, h4, h5⟩ := ZpP hb h
 have hp := Z7D hb h1 h2 h3 h4
 unfold placeOf at h5
 have h6 : 0 ≤ f.2.1 ∧ f.2.1 < b.1 ∧ 0 ≤ f.2.2 ∧ f.2.2 < b.2.1 ∧ -1 < f.2.1 * b.2.1 + f.2.2 := ⟨h1, h2, h3, h4, by omega⟩
 simp only [faultsOK, h5, h6, and_self, decide_true, Bool.and_self]
theorem Zg1 {b : BoardD} (hb : boardOK b = true) : (possFrom b.2.1 0 b.2.2).length ≤ 270 := by
 obtain ⟨g1, g2, g3, g4, g5, g6⟩ := ZP hb
 have hpp := Z1x g1 g2 g3 g4
 have := ZtI b.2.1 b.2.2 0
 omega
end Go.Proofs.YtglkedenkcpcbaaGreatDoor.Vs

set_option linter.unusedVariables false
set_option linter.unusedSimpArgs false
namespace Go.Proofs.YtglkedenkcpcbaaGreatDoor.Vs
open Go.RowKit
def singlesOf (b : BoardD) (t : List Int) (s : List FallD) : List FaultD := (possFrom b.2.1 0 b.2.2).filter fun f => decide (endsOf b [f] t = s)
theorem Ziz (b : BoardD) (hb : boardOK b = true) (t : List Int) (ht : t.length ≤ 1000) (hc : colsOK b t) (s : List FallD) (hs : s.length = t.length) : ∀ (r pre acc : List FaultD), (∀ f ∈ r, faultsOK b (-1) [f] = true) → (pre ++ r).length ≤ 1000 → acc.length ≤ pre.length → Ev (fun k => Z48 k b.1 b.2.1 b.2.2 acc (pre ++ r) t s ((pre ++ r).length : Int) (pre.length : Int)) (acc ++ r.filter (fun f => decide (endsOf b [f] t = s)))
 | [], pre, acc, hf, hl, ha => by
  refine Ev.succ ?_
  simp only [Z48, ZC, decide_false, Bool.false_eq_true, if_false]
  exact Ev.of (by simp)
 | f :: r, pre, acc, hf, hl, ha => by
  have ih := fun acc' ha' => Ziz b hb t ht hc s hs r (pre ++ [f]) acc' (fun g hg => hf g (List.mem_cons_of_mem _ hg)) (by simpa using hl) ha'
  simp only [← Zm] at ih
  have hal : acc.length + 1 ≤ 140737488355328 / 24 := by simp at hl; omega
  have h1 := Zub b hb [f] (hf f (List.mem_cons_self ..)) (by simp) t ht hc s hs
  refine Ev.succ ?_
  simp only [Z48, ZA, ZN, decide_true, if_true, Int.toNat_natCast, Zs, List.length_singleton, hal]
  rw [Zx pre f r (by omega)]
  refine Ev.bind h1 (Ev.ite (fun h => ?_) (fun h => ?_))
  ·have h : (fun f => decide (endsOf b [f] t = s)) f = true := h
   refine (ih (acc ++ [f]) (by simp; omega)).congr ?_
   simp only [List.filter_cons, h, if_true, List.append_assoc, List.singleton_append]
  ·have h : ¬ (fun f => decide (endsOf b [f] t = s)) f = true := h
   refine (ih acc (by simp; omega)).congr ?_
   exact congrArg (acc ++ ·) (List.filter_cons_of_neg (p := (fun f => decide (endsOf b [f] t = s))) h).symm
theorem Z9s (b : BoardD) (hb : boardOK b = true) (t : List Int) (ht : t.length ≤ 1000) (hc : colsOK b t) (s : List FallD) (hs : s.length = t.length) : Ev (fun k => Z4n k b t s) (singlesOf b t s) := by
 have hn := Zg1 hb
 refine Ev.succ ?_
 simp only [Z4n]
 exact Ev.bind (Zii b hb) (Ev.bind (Ziz b hb t ht hc s hs (possFrom b.2.1 0 b.2.2) [] [] (fun f hf => Zkg hb hf) (by simp; omega) (by simp)) (Ev.some _))
theorem ZeO (b : BoardD) (hb : boardOK b = true) (t : List Int) (ht : t.length ≤ 1000) (hc : colsOK b t) (s : List FallD) (hs : s.length = t.length) : ∀ (r pre acc : List FaultD), (∀ f ∈ r, faultsOK b (-1) [f] = true) → (pre ++ r).length ≤ 1000 → acc.length ≤ pre.length → Ev (fun k => Z2w k b.1 b.2.1 b.2.2 acc (pre ++ r) t s ((pre ++ r).length : Int) (pre.length : Int)) (acc ++ r.filter (fun f => decide (endsOf b [f] t = s)))
 | [], pre, acc, hf, hl, ha => by
  refine Ev.succ ?_
  simp only [Z2w, ZC, decide_false, Bool.false_eq_true, if_false]
  exact Ev.of (by simp)
 | f :: r, pre, acc, hf, hl, ha => by
  have ih := fun acc' ha' => ZeO b hb t ht hc s hs r (pre ++ [f]) acc' (fun g hg => hf g (List.mem_cons_of_mem _ hg)) (by simpa using hl) ha'
  simp only [← Zm] at ih
  have hal : acc.length + 1 ≤ 140737488355328 / 24 := by simp at hl; omega
  have h1 := ZrB b hb [f] (hf f (List.mem_cons_self ..)) (by simp) t ht hc s
  refine Ev.succ ?_
  simp only [Z2w, ZA, ZN, decide_true, if_true, Int.toNat_natCast, Zs, List.length_singleton, hal]
  rw [Zx pre f r (by omega)]
  refine Ev.bind h1 (Ev.ite (fun h => ?_) (fun h => ?_))
  ·have h : (fun f => decide (endsOf b [f] t = s)) f = true := h
   refine (ih (acc ++ [f]) (by simp; omega)).congr ?_
   simp only [List.filter_cons, h, if_true, List.append_assoc, List.singleton_append]
  ·have h : ¬ (fun f => decide (endsOf b [f] t = s)) f = true := h
   refine (ih acc (by simp; omega)).congr ?_
   exact congrArg (acc ++ ·) (List.filter_cons_of_neg (p := (fun f => decide (endsOf b [f] t = s))) h).symm
theorem Z4x (b : BoardD) (hb : boardOK b = true) (t : List Int) (ht : t.length ≤ 1000) (hc : colsOK b t) (s : List FallD) (hs : s.length = t.length) : Ev (fun k => Z1G k b t s) (singlesOf b t s) := by
 have hn := Zg1 hb
 refine Ev.succ ?_
 simp only [Z1G]
 exact Ev.bind (Zns b hb) (Ev.bind (ZeO b hb t ht hc s hs (possFrom b.2.1 0 b.2.2) [] [] (fun f hf => Zkg hb hf) (by simp; omega) (by simp)) (Ev.some _))
end Go.Proofs.YtglkedenkcpcbaaGreatDoor.Vs

set_option linter.unusedVariables false
set_option linter.unusedSimpArgs false
namespace Go.Proofs.YtglkedenkcpcbaaGreatDoor.Vs
open Go.RowKit
def faultsB (b : BoardD) (l : List FaultD) : Bool := decide (l.length ≤ 4) && faultsOK b (-1) l
theorem ZHc {b : BoardD} {l : List FaultD} (h : faultsB b l = true) : l.length ≤ 4 ∧ faultsOK b (-1) l = true := by
 unfold faultsB at h
 simp only [Bool.and_eq_true, decide_eq_true_eq] at h
 exact h
end Go.Proofs.YtglkedenkcpcbaaGreatDoor.Vs

set_option linter.unusedVariables false
set_option linter.unusedSimpArgs false
namespace Go.Proofs.YtglkedenkcpcbaaGreatDoor.Vs
open Go.RowKit
theorem ZEa (C i : Int) (x : CellD) : 0 < (kindsAt C i x).length := by
 unfold kindsAt
 rw [List.length_map]
 refine List.length_pos_of_mem (a := 2) (List.mem_filter.2 ⟨by simp, ?_⟩)
 simp [fits]
theorem ZHM {b : BoardD} (hb : boardOK b = true) : 0 < (possFrom b.2.1 0 b.2.2).length := by
 obtain ⟨g1, g2, g3, g4, g5, g6⟩ := ZP hb
 have hpp := Z1x g1 g2 g3 g4
 have hp : 0 < b.1 * b.2.1 := Int.mul_pos (by omega) (by omega)
 cases hc : b.2.2 with
 | nil => rw [hc] at g5; simp only [List.length_nil] at g5; omega
 | cons x r =>
  simp only [possFrom, List.length_append]
  have := ZEa b.2.1 0 x
  omega
theorem ZCA {b : BoardD} {i : Int} (h0 : 0 ≤ i) (h1 : i < ((possFrom b.2.1 0 b.2.2).length : Int)) : List.getD (possFrom b.2.1 0 b.2.2) i.toNat (0, 0, 0) ∈ possFrom b.2.1 0 b.2.2 := by
 have hi : i.toNat < (possFrom b.2.1 0 b.2.2).length := by omega
 rw [List.getD, List.getElem?_eq_getElem hi]
 exact List.getElem_mem hi
section
variable {code : List Int} {at' seed : Int}
theorem ZAi (r c : Int) (n : Nat) (hw : wrap64 (r * c) = (n : Int)) (hn : n ≤ 100) (h : Cur code at' 1010) : EvP (fun k => Z24 k (code, at', seed) r c) (fun z => at' ≤ z.2.1 ∧ z.2.1 ≤ at' + 1010 ∧ z.1.2.2.length = n) := by
 obtain ⟨l, a, s, e, h1, h2, h3⟩ := ZtN seed r c n hw hn h
 exact ⟨_, e, h1, h2, h3⟩
theorem ZyX (code : List Int) (b30 b31 b50 b51 : Int) (o4 o6 : List CellD) (v7 : Int) (hb : 0 < b51) : ∀ (d : Nat) (o7 : List Int) (at' seed : Int), v7 ≤ ((o7.length + d : Nat) : Int) → o7.length + d ≤ 21 → (∀ c ∈ o7, 0 ≤ c ∧ c < b51) → Cur code at' (2 * d) →
    EvP (fun k => Z3w k at' seed code b30 b31 o4 b50 b51 o6 o7 v7) (fun z => ∃ a s l, z = (a, s, code, b30, b31, o4, b50, b51, o6, l) ∧ l.length ≤ 21 ∧ (∀ c ∈ l, 0 ≤ c ∧ c < b51) ∧ at' ≤ a ∧ a ≤ at' + 2 * d)
  | 0, o7, at', seed, h, hl, hx, hc => by
    refine EvP.succ ?_
    have hlt : ¬ (o7.length : Int) < v7 := by omega
    simp only [Z3w, hlt, decide_false, Bool.false_eq_true, if_false]
    exact EvP.some ⟨at', seed, o7, rfl, by omega, hx, by omega, by omega⟩
  | d + 1, o7, at', seed, h, hl, hx, hc => by
    refine EvP.succ ?_
    simp only [Z3w]
    refine EvP.ite (fun _ => ?_) (fun _ => EvP.some ⟨at', seed, o7, rfl, by omega, hx, by omega, by omega⟩)
    refine EvP.bind (Zaw b51 (hc.to (by omega) (by omega)) hb) (fun y hy => ?_)
    refine EvP.guard (by simp only [List.length_cons, List.length_nil]; omega) ?_
    refine (ZyX code b30 b31 b50 b51 o4 o6 v7 hb d (o7 ++ [y.1]) y.2.1 y.2.2 (by simp; omega) (by simp; omega) (fun c hc' => ?_) (hc.to (by omega) (by omega))).mono (fun z hz => ?_)
    · rcases List.mem_append.1 hc' with h5 | h5
      · exact hx c h5
      · rw [List.mem_singleton.1 h5]; exact hy.2.2
    · obtain ⟨a2, s2, l2, e, g1, g2, g3, g4⟩ := hz
      exact ⟨a2, s2, l2, e, g1, g2, by omega, by omega⟩
def SeenIn (at' : Int) (r : BoardD × List Int × List FallD × Int × Int) : Prop := at' ≤ r.2.2.2.1 ∧ r.2.2.2.1 ≤ at' + 4000 ∧ r.1.2.2.length ≤ 91 ∧ r.2.1.length ≤ 21 ∧ r.2.2.1.length ≤ 21
set_option maxHeartbeats 1000000 in
theorem ZDr (b : BoardD) (l : List Int) (s : List FallD) (a e : Int) : EvP (fun k => ZJ k a e code 0 0 [] b.1 b.2.1 b.2.2 l s) (fun r => r = ((b.1, b.2.1, b.2.2), l, s, a, e)) := by
 simp only [ZJ]
 exact EvP.some rfl
theorem ZEd (h : Cur code at' 4000) (b : BoardD) (hl : b.2.2.length ≤ 91) (cols : List Int) (hc : cols.length ≤ 21) (E : List FallD) (hE : E.length = cols.length) (a e : Int) (h1 : at' ≤ a) (h2 : a ≤ at' + 3900) : EvP (fun k => Z1V k a e code 0 0 [] b.1 b.2.1 b.2.2 cols E) (SeenIn at') := by
 have fin : ∀ (l2 : List Int) (s2 : List FallD) (a2 e2 : Int), l2.length = cols.length → s2.length ≤ cols.length → at' ≤ a2 → a2 ≤ at' + 4000 → EvP (fun k => Option.bind (ZJ k a2 e2 code 0 0 [] b.1 b.2.1 b.2.2 l2 s2) fun z => some z) (SeenIn at') := fun l2 s2 a2 e2 k1 k2 k3 k4 => by
  refine EvP.bind (ZDr b l2 s2 a2 e2) (fun z hz => ?_)
  subst hz
  exact EvP.some ⟨k3, k4, hl, by dsimp only; omega, by dsimp only; omega⟩
 simp only [Z1V]
 refine EvP.ite (fun hp => ?_) (fun _ => fin _ _ _ _ rfl (by omega) (by omega) (by omega))
 simp only [decide_eq_true_eq] at hp
 refine EvP.bind (Zaw _ (h.to (by omega) (by omega)) (by omega)) (fun w hw => ?_)
 refine EvP.guard (by omega) (EvP.guard (by omega) ?_)
 refine EvP.bind (Zaw 30 (h.to (by omega) (by omega)) (by omega)) (fun u hu => ?_)
 refine EvP.ite (fun _ => ?_) (fun _ => EvP.ite (fun _ => ?_) (fun _ => EvP.ite (fun _ => ?_) (fun _ => EvP.ite (fun _ => ?_) (fun _ => EvP.ite (fun _ => ?_) (fun _ => fin _ _ _ _ rfl (by omega) (by omega) (by omega))))))
 ·exact EvP.bind (Zu3 _ (by simp) (h.to (by omega) (by omega))) (fun y hy => fin _ _ _ _ rfl (by rw [List.length_set]; omega) (by omega) (by omega))
 ·exact EvP.bind (Zu3 _ (by simp) (h.to (by omega) (by omega))) (fun y hy => fin _ _ _ _ rfl (by rw [List.length_set]; omega) (by omega) (by omega))
 ·exact EvP.bind (Zu3 _ (by simp) (h.to (by omega) (by omega))) (fun y hy => fin _ _ _ _ rfl (by rw [List.length_set]; omega) (by omega) (by omega))
 ·exact EvP.guard (by omega) (EvP.guard (by omega) (fin _ _ _ _ rfl (by rw [List.length_drop]; omega) (by omega) (by omega)))
 ·exact EvP.bind (Zu3 _ (by simp) (h.to (by omega) (by omega))) (fun y hy => EvP.guard (by omega) (fin _ _ _ _ (List.length_set) (by omega) (by omega) (by omega)))
theorem ZCK (h : Cur code at' 4000) : EvP (fun k => Z69 k (code, at', seed)) (SeenIn at') := by
 refine EvP.succ ?_
 simp only [Z69]
 refine EvP.bind (Zaw 4 (h.to (by omega) (by omega)) (by omega)) (fun z0 h0 => ?_)
 refine EvP.bind (Zaw 4 (h.to (by omega) (by omega)) (by omega)) (fun z1 h1 => ?_)
 have w0 : wrap64 (1 + z0.1) = 1 + z0.1 := w64 (by omega) (by omega)
 have w1 : wrap64 (1 + z1.1) = 1 + z1.1 := w64 (by omega) (by omega)
 have hp := Zu4 (r := 1 + z0.1) (c := 1 + z1.1) (by omega) (by omega) (by omega) (by omega)
 rw [w0, w1]
 refine EvP.bind (ZAi _ _ ((1 + z0.1) * (1 + z1.1)).toNat (by rw [w64 (by omega) (by omega)]; omega) (by omega) (h.to (by omega) (by omega))) (fun z2 h2 => ?_)
 refine EvP.bind (Zaw 20 (h.to (by omega) (by omega)) (by omega)) (fun z3 h3 => ?_)
 refine EvP.bind (Q1 := fun z => ∃ a s : Int, ∃ b : BoardD, z = (a, s, code, 0, 0, [], b.1, b.2.1, b.2.2) ∧ at' ≤ a ∧ a ≤ at' + 3000 ∧ b.2.2.length ≤ 91) ?_ (fun z hz => ?_)
 ·simp only [Z99]
  refine EvP.ite (fun _ => ?_) (fun _ => EvP.ite (fun _ => ?_) (fun _ => EvP.some ⟨z3.2.1, z3.2.2, z2.1, rfl, by omega, by omega, by omega⟩))
  ·exact EvP.bind (ZHb (h.to (by omega) (by omega))) (fun z4 h4 => EvP.some ⟨z4.2.1, z4.2.2, z4.1, rfl, by omega, by omega, h4.2.2⟩)
  ·refine EvP.bind (Zaw 2 (h.to (by omega) (by omega)) (by omega)) (fun z5 h5 => ?_)
   have w5 : wrap64 (4 + z5.1) = 4 + z5.1 := w64 (by omega) (by omega)
   rw [w5]
   exact EvP.bind (ZAi _ 6 ((4 + z5.1) * 6).toNat (by rw [w64 (by omega) (by omega)]; omega) (by omega) (h.to (by omega) (by omega))) (fun z6 h6 => EvP.some ⟨z6.2.1, z6.2.2, z6.1, rfl, by omega, by omega, by omega⟩)
 obtain ⟨a3, s3, b, rfl, q1, q2, q3⟩ := hz
 dsimp only
 refine EvP.bind (EvP.ev (Q := fun v => v = boardOK b) (Zqv b (by omega)) rfl) (fun v hv => ?_)
 subst hv
 cases hb : boardOK b with
 | false =>
  simp only [Bool.not_false, if_true]
  exact EvP.some ⟨by dsimp only; omega, by dsimp only; omega, q3, by simp, by simp⟩
 | true =>
  obtain ⟨b1, b2, b3, b4, b5, b6⟩ := ZP hb
  have hall := Zg1 hb
  have hone := ZHM hb
  simp only [Bool.not_true, Bool.false_eq_true, if_false]
  refine EvP.bind (Zaw 6 (h.to (by omega) (by omega)) (by omega)) (fun z9 h9 => ?_)
  refine EvP.bind (ZO4 20 (h.to (by omega) (by omega))) (fun z10 h10 => ?_)
  have w9 : wrap64 (1 + z9.1) = 1 + z9.1 := w64 (by omega) (by omega)
  rw [w9]
  refine EvP.bind (Q1 := fun z => ∃ a s n : Int, z = (a, s, code, 0, 0, [], b.1, b.2.1, b.2.2, [], n) ∧ 0 ≤ n ∧ n ≤ 21 ∧ at' ≤ a ∧ a ≤ at' + 3010) ?_ (fun z hz => ?_)
  ·simp only [Z97]
   refine EvP.ite (fun _ => ?_) (fun _ => EvP.some ⟨z10.2.1, z10.2.2, 1 + z9.1, rfl, by omega, by omega, by omega, by omega⟩)
   refine EvP.bind (Zaw 2 (h.to (by omega) (by omega)) (by omega)) (fun z11 h11 => ?_)
   have w11 : wrap64 (20 + z11.1) = 20 + z11.1 := w64 (by omega) (by omega)
   rw [w11]
   exact EvP.some ⟨z11.2.1, z11.2.2, _, rfl, by omega, by omega, by omega, by omega⟩
  obtain ⟨a4, s4, n, rfl, n1, n2, q4, q5⟩ := hz
  dsimp only
  refine EvP.bind (ZyX code 0 0 b.1 b.2.1 [] b.2.2 n (by omega) 21 [] a4 s4 (by simpa using n2) (by simp) (fun c hc => by cases hc) (h.to (by omega) (by omega))) (fun z hz => ?_)
  obtain ⟨a5, s5, cols, rfl, c1, hcols, q6, q7⟩ := hz
  dsimp only
  refine EvP.bind (Q1 := SeenIn at') ?_ (fun z hz => EvP.some hz)
  simp only [Z9a]
  refine EvP.bind (EvP.ev (Q := fun v => v = possFrom b.2.1 0 b.2.2) (Zii b hb) rfl) (fun all ha => ?_)
  subst ha
  have c27 := fun (E : List FallD) (hE : E.length = cols.length) (a e : Int) (h1 : at' ≤ a) (h2 : a ≤ at' + 3900) => EvP.bind (y := fun z k => some z) (ZEd h b q3 cols c1 E hE a e h1 h2) (fun z hz => EvP.some hz)
  refine EvP.bind (Zaw 4 (h.to (by omega) (by omega)) (by omega)) (fun z16 h16 => ?_)
  refine EvP.ite (fun _ => ?_) (fun _ => EvP.ite (fun _ => ?_) (fun _ => ?_))
  ·refine EvP.bind (EvP.ev (Q := fun v => v.1.length = cols.length) (ZaS b hb [] rfl (by simp) cols (by omega) hcols) (Z9E _ _ _)) (fun v hv => ?_)
   exact c27 _ hv _ _ (by omega) (by omega)
  ·refine EvP.bind (Q1 := fun z => ∃ a s : Int, ∃ f g : FaultD, z = (a, s, code, 0, 0, [], b.1, b.2.1, b.2.2, cols, f.1, f.2.1, f.2.2, g.1, g.2.1, g.2.2) ∧ f ∈ possFrom b.2.1 0 b.2.2 ∧ at' ≤ a ∧ a ≤ at' + 3080) ?_ (fun z hz => ?_)
   ·simp only [Z98]
    refine EvP.bind (Zaw _ (h.to (by omega) (by omega)) (by omega)) (fun w hw => ?_)
    refine EvP.guard (by omega) (EvP.guard (by omega) ?_)
    refine EvP.bind (Zaw _ (h.to (by omega) (by omega)) (by omega)) (fun u hu => ?_)
    exact EvP.guard (by omega) (EvP.guard (by omega) (EvP.some ⟨u.2.1, u.2.2, _, _, rfl, ZCA (by omega) (by omega), by omega, by omega⟩))
   ·obtain ⟨a6, s6, f, g, rfl, hf, q8, q9⟩ := hz
    dsimp only
    refine EvP.bind (EvP.ev (Q := fun v => v = faultsB b [f, g]) (ZAs b hb [f, g] (by simp)) rfl) (fun v hv => ?_)
    subst hv
    cases hg : faultsB b [f, g] with
    | false =>
     simp only [Bool.not_false, if_true]
     refine EvP.bind (EvP.ev (Q := fun v => v.1.length = cols.length) (ZaS b hb [f] (Zkg hb hf) (by simp) cols (by omega) hcols) (Z9E _ _ _)) (fun v hv => ?_)
     exact c27 _ hv _ _ (by omega) (by omega)
    | true =>
     simp only [Bool.not_true, Bool.false_eq_true, if_false]
     refine EvP.bind (EvP.ev (Q := fun v => v.1.length = cols.length) (ZaS b hb [f, g] (ZHc hg).2 (by simp) cols (by omega) hcols) (Z9E _ _ _)) (fun v hv => ?_)
     exact c27 _ hv _ _ (by omega) (by omega)
  ·refine EvP.bind (Zaw _ (h.to (by omega) (by omega)) (by omega)) (fun z50 h50 => ?_)
   refine EvP.guard (by omega) (EvP.guard (by omega) ?_)
   refine EvP.bind (EvP.ev (Q := fun v => v.1.length = cols.length) (ZaS b hb [List.getD (possFrom b.2.1 0 b.2.2) z50.1.toNat (0, 0, 0)] (Zkg hb (ZCA (by omega) (by omega))) (by simp) cols (by omega) hcols) (Z9E _ _ _)) (fun v hv => ?_)
   exact c27 _ hv _ _ (by omega) (by omega)
end
theorem Zum (code : List Int) (h : Cur code 0 6000) : EvP (fun k => Z6G k code) (fun r => r.1.2.2.length ≤ 91 ∧ r.2.1.length ≤ 21 ∧ r.2.2.length ≤ 21) := by
 refine EvP.succ ?_
 simp only [Z6G]
 exact EvP.bind (ZCK (h.to (by omega) (by omega))) (fun z hz => EvP.some ⟨hz.2.2.1, hz.2.2.2.1, hz.2.2.2.2⟩)
end Go.Proofs.YtglkedenkcpcbaaGreatDoor.Vs

set_option linter.unusedVariables false
set_option linter.unusedSimpArgs false
namespace Go.Proofs.YtglkedenkcpcbaaGreatDoor.Vs
open Go.RowKit
section
variable {code : List Int} {at' seed : Int}
theorem ZGj (b : BoardD) (h : Cur code at' 6) : EvP (fun k => Z2D k (code, at', seed) b) (fun r => at' ≤ r.2.1 ∧ r.2.1 ≤ at' + 6) := by
 obtain ⟨v, a, s, e, h1, h2⟩ := ZGI seed b h
 exact ⟨_, e, h1, h2⟩
end
end Go.Proofs.YtglkedenkcpcbaaGreatDoor.Vs

set_option linter.unusedVariables false
set_option linter.unusedSimpArgs false
namespace Go.Proofs.YtglkedenkcpcbaaGreatDoor.Vs
open Go.RowKit
def nameK : List ByteArray := [ByteArray.mk #[115, 116, 117, 99, 107], ByteArray.mk #[104, 111, 108, 101], ByteArray.mk #[116, 117, 114, 110, 101, 100]]
def atS : ByteArray := ByteArray.mk #[32, 97, 116, 32]
def commaS : ByteArray := ByteArray.mk #[44]
def dig (n : Int) : ByteArray := bytesOf [IntKind.wrap IntKind.u8 (wrap64 ((48 : Int) + n))]
def validF (p : Int × Int × Int) : Prop := 1 ≤ p.1 ∧ p.1 ≤ 3 ∧ 0 ≤ p.2.1 ∧ p.2.1 ≤ 9 ∧ 0 ≤ p.2.2 ∧ p.2.2 ≤ 9
instance (p : Int × Int × Int) : Decidable (validF p) := by unfold validF; infer_instance
def nameF (p : Int × Int × Int) : ByteArray := List.getD nameK (Int.toNat (p.1 - 1)) (ByteArray.mk #[]) ++ atS ++ dig p.2.1 ++ commaS ++ dig p.2.2
theorem Z2R (a b : ByteArray) : (a ++ b).size = a.size + b.size := ByteArray.size_append
theorem ZcI (n : Int) : (dig n).size = 1 := rfl
theorem ten {n : Int} (h0 : 0 ≤ n) (h1 : n ≤ 9) : n = 0 ∨ n = 1 ∨ n = 2 ∨ n = 3 ∨ n = 4 ∨ n = 5 ∨ n = 6 ∨ n = 7 ∨ n = 8 ∨ n = 9 := by omega
theorem Zka (n : Int) (h0 : 0 ≤ n) (h1 : n ≤ 9) : Ev (fun k => Z8u k n) (dig n) := by
 rcases ten h0 h1 with rfl | rfl | rfl | rfl | rfl | rfl | rfl | rfl | rfl | rfl <;> exact Ev.succ (Ev.of (by kernel_rfl))
theorem Znj (n : Int) (h0 : 0 ≤ n) (h1 : n ≤ 9) : Ev (fun k => Z8d k n) (dig n) := by
 refine Ev.succ (Ev.bind (Ev.succ (Ev.bind (a := dig n) (Ev.succ ?_) (Ev.some _))) (Ev.some _))
 have h2 : n < 100 := by omega
 simp only [Z6p, decide_eq_true_eq, if_true, h0, h2]
 exact Ev.bind (Zka n h0 h1) (Ev.some _)
theorem ZtT (n : Int) (h0 : 0 ≤ n) (h1 : n ≤ 9) : Ev (fun k => Z8C k n) (dig n) := by
 refine Ev.succ ?_
 have h2 : n < 10 := by omega
 simp only [Z8C, decide_eq_true_eq, if_true, h2]
 exact Ev.some _
theorem ZkE (p : Int × Int × Int) (h : validF p) : Ev (fun k => Z8y k p) (nameF p, true) := by
  obtain ⟨kind, row, column⟩ := p
  obtain ⟨a1, a2, a3, a4, a5, a6⟩ := h
  simp only at a1 a2 a3 a4 a5 a6
  refine Ev.succ ?_
  have b1 : ¬ kind < 1 := by omega
  have b2 : ¬ kind > 3 := by omega
  have b3 : ¬ row < 0 := by omega
  have b4 : ¬ row > 9 := by omega
  have b5 : ¬ column < 0 := by omega
  have b6 : ¬ column > 9 := by omega
  have b7 : wrap64 (kind - 1) = kind - 1 := w64 (by omega) (by omega)
  have b8 : (0 : Int) ≤ kind - 1 := by omega
  have b9 : kind - 1 < ((3 : Nat) : Int) := by omega
  have b10 : (kind - 1).toNat < 3 := by omega
  simp only [Z8y, decide_eq_true_eq, if_false, if_true, b1, b2, b3, b4, b5, b6, b7, b8, b9, b10, List.length_cons, List.length_nil]
  have hk : kind = 1 ∨ kind = 2 ∨ kind = 3 := by omega
  have go : ∀ s : ByteArray, s.size ≤ 10 → Ev (fun k => if s.size + (ByteArray.mk #[32, 97, 116, 32]).size ≤ 9223372036854775807 then Option.bind (Z8d k row) fun z0 => if (s ++ ByteArray.mk #[32, 97, 116, 32]).size + z0.size ≤ 9223372036854775807 then if (s ++ ByteArray.mk #[32, 97, 116, 32] ++ z0).size + (ByteArray.mk #[44]).size ≤ 9223372036854775807 then Option.bind (Z8d k column) fun z1 => if (s ++ ByteArray.mk #[32, 97, 116, 32] ++ z0 ++ ByteArray.mk #[44]).size + z1.size ≤ 9223372036854775807 then some (s ++ ByteArray.mk #[32, 97, 116, 32] ++ z0 ++ ByteArray.mk #[44] ++ z1, true) else none else none else none else none)
      (s ++ atS ++ dig row ++ commaS ++ dig column, true) := by
    intro s hs
    have e1 : (ByteArray.mk #[32, 97, 116, 32]).size = 4 := rfl
    have e2 : (ByteArray.mk #[44]).size = 1 := rfl
    refine Ev.ite (fun _ => ?_) (fun hn => (hn (by rw [e1]; omega)).elim)
    refine Ev.bind (Znj row a3 a4) ?_
    refine Ev.ite (fun _ => ?_) (fun hn => (hn (by simp only [Z2R, e1, ZcI]; omega)).elim)
    refine Ev.ite (fun _ => ?_) (fun hn => (hn (by simp only [Z2R, e1, e2, ZcI]; omega)).elim)
    refine Ev.bind (Znj column a5 a6) ?_
    refine Ev.ite (fun _ => ?_) (fun hn => (hn (by simp only [Z2R, e1, e2, ZcI]; omega)).elim)
    exact Ev.some _
  rcases hk with rfl | rfl | rfl
  · exact go (ByteArray.mk #[115, 116, 117, 99, 107]) (by decide)
  · exact go (ByteArray.mk #[104, 111, 108, 101]) (by decide)
  · exact go (ByteArray.mk #[116, 117, 114, 110, 101, 100]) (by decide)
theorem ZBz (p : Int × Int × Int) (h : validF p) : Ev (fun k => Ze9 k p) (nameF p) := by
  obtain ⟨kind, row, column⟩ := p
  obtain ⟨a1, a2, a3, a4, a5, a6⟩ := h
  simp only at a1 a2 a3 a4 a5 a6
  refine Ev.succ ?_
  have b1 : (0 : Int) ≤ kind := by omega
  have b2 : kind < ((4 : Nat) : Int) := by omega
  simp only [Ze9]
  refine Ev.bind (Ev.succ (Ev.some _)) ?_
  simp only [if_true, b1, b2, List.length_cons, List.length_nil, Nat.reduceAdd, Nat.zero_add]
  have hk : kind = 1 ∨ kind = 2 ∨ kind = 3 := by omega
  have go : ∀ s : ByteArray, s.size ≤ 10 → Ev (fun k => if s.size + (ByteArray.mk #[32, 97, 116, 32]).size ≤ 9223372036854775807 then Option.bind (Z8C k row) fun z0 => if (s ++ ByteArray.mk #[32, 97, 116, 32]).size + z0.size ≤ 9223372036854775807 then if (s ++ ByteArray.mk #[32, 97, 116, 32] ++ z0).size + (ByteArray.mk #[44]).size ≤ 9223372036854775807 then Option.bind (Z8C k column) fun z1 => if (s ++ ByteArray.mk #[32, 97, 116, 32] ++ z0 ++ ByteArray.mk #[44]).size + z1.size ≤ 9223372036854775807 then some (s ++ ByteArray.mk #[32, 97, 116, 32] ++ z0 ++ ByteArray.mk #[44] ++ z1) else none else none else none else none)
      (s ++ atS ++ dig row ++ commaS ++ dig column) := by
    intro s hs
    have e1 : (ByteArray.mk #[32, 97, 116, 32]).size = 4 := rfl
    have e2 : (ByteArray.mk #[44]).size = 1 := rfl
    refine Ev.ite (fun _ => ?_) (fun hn => (hn (by rw [e1]; omega)).elim)
    refine Ev.bind (ZtT row a3 a4) ?_
    refine Ev.ite (fun _ => ?_) (fun hn => (hn (by simp only [Z2R, e1, ZcI]; omega)).elim)
    refine Ev.ite (fun _ => ?_) (fun hn => (hn (by simp only [Z2R, e1, e2, ZcI]; omega)).elim)
    refine Ev.bind (ZtT column a5 a6) ?_
    refine Ev.ite (fun _ => ?_) (fun hn => (hn (by simp only [Z2R, e1, e2, ZcI]; omega)).elim)
    exact Ev.some _
  rcases hk with rfl | rfl | rfl
  · exact go (ByteArray.mk #[115, 116, 117, 99, 107]) (by decide)
  · exact go (ByteArray.mk #[104, 111, 108, 101]) (by decide)
  · exact go (ByteArray.mk #[116, 117, 114, 110, 101, 100]) (by decide)
end Go.Proofs.YtglkedenkcpcbaaGreatDoor.Vs

set_option linter.unusedVariables false
set_option linter.unusedSimpArgs false
namespace Go.Proofs.YtglkedenkcpcbaaGreatDoor.Vs
open Go.RowKit
end Go.Proofs.YtglkedenkcpcbaaGreatDoor.Vs

set_option linter.unusedVariables false
set_option linter.unusedSimpArgs false
namespace Go.Proofs.YtglkedenkcpcbaaGreatDoor.Vs
open Go.RowKit
section
variable {code : List Int} {at' seed : Int}
end
theorem Zps (code : List Int) (h : Cur code 0 6000) : EvP (fun k => Z5d k code) (fun r => r.1.2.2.length ≤ 91 ∧ r.2.1.length ≤ 21 ∧ r.2.2.length ≤ 21) := by
 refine EvP.succ ?_
 simp only [Z5d]
 exact EvP.bind (Zum code h) (fun z hz => EvP.some hz)
theorem ZsY (code : List Int) (h : Cur code 0 6000) : EvP (fun k => Z5Y k code) (fun r => r.1.2.2.length ≤ 91 ∧ r.2.1.length ≤ 21 ∧ r.2.2.1.length ≤ 21) := by
 refine EvP.succ ?_
 simp only [Z5Y]
 refine EvP.bind (ZCK (h.to (by omega) (by omega))) (fun z hz => ?_)
 obtain ⟨q1, q2, q3, q4, q5⟩ := hz
 refine EvP.bind (Q1 := fun y => y.2.2.1.length ≤ 91 ∧ y.2.2.2.1.length ≤ 21 ∧ y.2.2.2.2.1.length ≤ 21) ?_ (fun y hy => EvP.some hy)
 simp only [Z1Z]
 exact EvP.bind (ZGj _ (h.to (by omega) (by omega))) (fun y hy => EvP.some ⟨q3, q4, q5⟩)
end Go.Proofs.YtglkedenkcpcbaaGreatDoor.Vs

set_option linter.unusedVariables false
set_option linter.unusedSimpArgs false
namespace Go.Proofs.YtglkedenkcpcbaaGreatDoor.Vs
open Go.RowKit
def Z8g (b : BoardD) (t : List Int) (s : List FallD) : List FaultD × Bool := if seenOK b t s then (singlesOf b t s, true) else ([], false)
theorem Zra (b : BoardD) (t : List Int) (s : List FallD) (h0 : b.2.2.length ≤ 9223372036854775806) (h2 : t.length ≤ 9223372036854775806) (h3 : s.length ≤ 9223372036854775806) : Ev (fun k => Z92 k b t s) (Z8g b t s) := by
 refine Ev.succ ?_
 simp only [Z92]
 unfold Z8g
 refine Ev.bind (a := seenOK b t s) (Z9o b t s h0 h2 h3) ?_
 cases g0 : seenOK b t s with
 | false => simp only [Bool.not_false, if_true, Bool.false_eq_true, if_false, Bool.false_and, Bool.and_false]; exact Ev.some _
 | true =>
  simp only [Bool.not_true, Bool.false_eq_true, if_false, if_true, Bool.and_self]
  obtain ⟨hb, h24, ht, hc, hs⟩ := Z6l g0
  exact Ev.bind (Z9s b hb t (by omega) hc s hs) (Ev.some _)
theorem Zsf (b : BoardD) (t : List Int) (s : List FallD) (h0 : b.2.2.length ≤ 9223372036854775806) (h2 : t.length ≤ 9223372036854775806) (h3 : s.length ≤ 9223372036854775806) : Ev (fun k => Z8Y k b t s) (Z8g b t s) := by
 refine Ev.succ ?_
 simp only [Z8Y]
 unfold Z8g
 refine Ev.bind (a := seenOK b t s) (Z9k b t s h0 h2 h3) ?_
 cases g0 : seenOK b t s with
 | false => simp only [Bool.not_false, if_true, Bool.false_eq_true, if_false, Bool.false_and, Bool.and_false]; exact Ev.some _
 | true =>
  simp only [Bool.not_true, Bool.false_eq_true, if_false, if_true, Bool.and_self]
  obtain ⟨hb, h24, ht, hc, hs⟩ := Z6l g0
  exact Ev.bind (Z4x b hb t (by omega) hc s hs) (Ev.some _)
theorem ZbQ {b : BoardD} (hb : boardOK b = true) (t : List Int) (s : List FallD) : (singlesOf b t s).length ≤ 270 :=
 Nat.le_trans (List.length_filter_le _ _) (Zg1 hb)
end Go.Proofs.YtglkedenkcpcbaaGreatDoor.Vs

set_option linter.unusedVariables false
set_option linter.unusedSimpArgs false
namespace Go.Proofs.YtglkedenkcpcbaaGreatDoor.Vs
open Go.RowKit
def nlS : ByteArray := ByteArray.mk #[10]
def textG : List FaultD → ByteArray → ByteArray
 | [], v => v
 | f :: r, v => textG r (v ++ (nameF f ++ nlS))
theorem Zp9 (p : FaultD) : (nameF p).size ≤ 13 := by
 have h : (List.getD nameK (Int.toNat (p.1 - 1)) (ByteArray.mk #[])).size ≤ 6 := by
  match Int.toNat (p.1 - 1) with
  | 0 => decide
  | 1 => decide
  | 2 => decide
  | n + 3 => exact Nat.zero_le _
 unfold nameF
 rw [Z2R, Z2R, Z2R, Z2R, ZcI, ZcI, show atS.size = 4 from rfl, show commaS.size = 1 from rfl]
 omega
theorem Zi6 {b : BoardD} (hb : boardOK b = true) {t : List Int} {s : List FallD} {f : FaultD} (h : f ∈ singlesOf b t s) : validF f := by
 have hm := (List.mem_filter.1 h).1
 obtain ⟨h1, h2, h3, h4, h5⟩ := ZpP hb hm
 simp only [boardOK, Bool.and_eq_true, decide_eq_true_eq] at hb
 obtain ⟨⟨g1, g2, g3, g4, _⟩, _⟩ := hb
 have hk : 1 ≤ f.1 ∧ f.1 ≤ 3 := by
  unfold fits at h5
  by_cases k1 : f.1 = 1
  ·omega
  ·by_cases k2 : f.1 = 2
   ·omega
   ·by_cases k3 : f.1 = 3
    ·omega
    ·simp [k1, k2, k3] at h5
 exact ⟨hk.1, hk.2, h1, by omega, h3, by omega⟩
def Z4E (b : BoardD) (t : List Int) (s : List FallD) : ByteArray × Bool := if seenOK b t s then (textG (singlesOf b t s) (ByteArray.mk #[]), true) else (ByteArray.mk #[], false)
theorem Zgm : ∀ (r pre : List FaultD) (v : ByteArray), (∀ f ∈ r, validF f) → v.size + 14 * r.length ≤ 1048576 → (pre ++ r).length ≤ 9223372036854775806 →
    Ev (fun k => Z4C k (pre ++ r) v ((pre ++ r).length : Int) (pre.length : Int)) (textG r v)
  | [], pre, v, hv, hs, hl => by
    refine Ev.succ ?_
    simp only [Z4C, ZC, decide_false, Bool.false_eq_true, if_false, textG]
    exact Ev.some _
  | x :: r, pre, v, hv, hs, hl => by
    have hx := hv x (List.mem_cons_self ..)
    have h1 := Zp9 x
    simp only [List.length_cons] at hs
    have h2 : (v ++ (nameF x ++ nlS)).size ≤ v.size + 14 := by rw [Z2R, Z2R, show nlS.size = 1 from rfl]; omega
    have ih := Zgm r (pre ++ [x]) (v ++ (nameF x ++ nlS)) (fun f hf => hv f (List.mem_cons_of_mem _ hf)) (by omega) (by simpa using hl)
    refine Ev.succ ?_
    simp only [Z4C, ZA, ZN, decide_true, if_true, Int.toNat_natCast, Zs]
    rw [Zx pre x r (by omega)]
    rw [← Zm] at ih
    refine Ev.bind (ZBz x hx) ?_
    refine Ev.ite (fun _ => ?_) (fun hn => (hn (by show (nameF x).size + 1 ≤ _; omega)).elim)
    refine Ev.ite (fun _ => ?_) (fun hn => (hn (by show v.size + (nameF x ++ nlS).size ≤ _; rw [Z2R, show nlS.size = 1 from rfl]; omega)).elim)
    exact ih
theorem Zgd : ∀ (r pre : List FaultD) (v : ByteArray), (∀ f ∈ r, validF f) → v.size + 14 * r.length ≤ 1048576 → (pre ++ r).length ≤ 9223372036854775806 →
    Ev (fun k => Z4z k (pre ++ r) v ((pre ++ r).length : Int) (pre.length : Int)) (textG r v)
  | [], pre, v, hv, hs, hl => by
    refine Ev.succ ?_
    simp only [Z4z, ZC, decide_false, Bool.false_eq_true, if_false, textG]
    exact Ev.some _
  | x :: r, pre, v, hv, hs, hl => by
    have hx := hv x (List.mem_cons_self ..)
    have h1 := Zp9 x
    simp only [List.length_cons] at hs
    have h2 : (v ++ (nameF x ++ nlS)).size ≤ v.size + 14 := by rw [Z2R, Z2R, show nlS.size = 1 from rfl]; omega
    have ih := Zgd r (pre ++ [x]) (v ++ (nameF x ++ nlS)) (fun f hf => hv f (List.mem_cons_of_mem _ hf)) (by omega) (by simpa using hl)
    refine Ev.succ ?_
    simp only [Z4z, ZA, ZN, decide_true, if_true, Int.toNat_natCast, Zs]
    rw [Zx pre x r (by omega)]
    rw [← Zm] at ih
    refine Ev.bind (ZkE x hx) ?_
    refine Ev.ite (fun _ => ?_) (fun hn => (hn (by show (nameF x).size + 1 ≤ _; omega)).elim)
    refine Ev.ite (fun _ => ?_) (fun hn => (hn (by show v.size + (nameF x ++ nlS).size ≤ _; rw [Z2R, show nlS.size = 1 from rfl]; omega)).elim)
    exact ih
theorem Zvs (b : BoardD) (t : List Int) (s : List FallD) (h0 : b.2.2.length ≤ 9223372036854775806) (h2 : t.length ≤ 9223372036854775806) (h3 : s.length ≤ 9223372036854775806) : Ev (fun k => Zaa k b t s) (Z4E b t s) := by
 refine Ev.succ ?_
 simp only [Zaa]
 unfold Z4E
 refine Ev.bind (a := seenOK b t s) (Z9o b t s h0 h2 h3) ?_
 cases g0 : seenOK b t s with
 | false => simp only [Bool.not_false, if_true, Bool.false_eq_true, if_false, Bool.false_and, Bool.and_false]; exact Ev.some _
 | true =>
  simp only [Bool.not_true, Bool.false_eq_true, if_false, if_true, Bool.and_self]
  obtain ⟨hb, h24, ht, hc, hs⟩ := Z6l g0
  have hl := ZbQ hb t s
  refine Ev.bind (Z9s b hb t (by omega) hc s hs) ?_
  refine Ev.bind (Zgm (singlesOf b t s) [] (ByteArray.mk #[]) (fun f hf => Zi6 hb hf) (by show 0 + _ ≤ _; omega) (by rw [List.nil_append]; omega)) (Ev.some _)
theorem Zun (b : BoardD) (t : List Int) (s : List FallD) (h0 : b.2.2.length ≤ 9223372036854775806) (h2 : t.length ≤ 9223372036854775806) (h3 : s.length ≤ 9223372036854775806) : Ev (fun k => Zaf k b t s) (Z4E b t s) := by
 refine Ev.succ ?_
 simp only [Zaf]
 unfold Z4E
 refine Ev.bind (a := seenOK b t s) (Z9k b t s h0 h2 h3) ?_
 cases g0 : seenOK b t s with
 | false => simp only [Bool.not_false, if_true, Bool.false_eq_true, if_false, Bool.false_and, Bool.and_false]; exact Ev.some _
 | true =>
  simp only [Bool.not_true, Bool.false_eq_true, if_false, if_true, Bool.and_self]
  obtain ⟨hb, h24, ht, hc, hs⟩ := Z6l g0
  have hl := ZbQ hb t s
  refine Ev.bind (Z4x b hb t (by omega) hc s hs) ?_
  refine Ev.bind (Zgd (singlesOf b t s) [] (ByteArray.mk #[]) (fun f hf => Zi6 hb hf) (by show 0 + _ ≤ _; omega) (by rw [List.nil_append]; omega)) (Ev.some _)
end Go.Proofs.YtglkedenkcpcbaaGreatDoor.Vs

set_option linter.unusedVariables false
set_option linter.unusedSimpArgs false
namespace Go.Proofs.YtglkedenkcpcbaaGreatDoor.Vs
open Go.RowKit
def lastE (b : BoardD) (t : List Int) (c : Int) (f : FaultD) : FallD := List.getD (endsOf b [f] (t ++ [c])) t.length (0, 0, 0)
def addE (acc : List FallD) (x : FallD) : List FallD := if x ∈ acc then acc else acc ++ [x]
def distE (b : BoardD) (t : List Int) (c : Int) : List FaultD → List FallD → List FallD
 | [], acc => acc
 | f :: r, acc => distE b t c r (addE acc (lastE b t c f))
def keyE (x : FallD) : List Int × Bool := ([x.1, x.2.1, x.2.2], true)
theorem ZEB (x : FallD) : ∀ (acc : List FallD), putK [x.1, x.2.1, x.2.2] true (acc.map keyE) = (addE acc x).map keyE
 | [] => by simp [putK, addE, keyE]
 | y :: r => by
  have ih := ZEB x r
  obtain ⟨x1, x2, x3⟩ := x
  obtain ⟨y1, y2, y3⟩ := y
  by_cases h : (y1, y2, y3) = (x1, x2, x3)
  ·injection h with h1 h2; injection h2 with h2 h3
   subst h1 h2 h3
   simp [putK, addE, keyE]
  ·have h1 : ¬ ([y1, y2, y3] = [x1, x2, x3]) := fun h2 => h (by
    injection h2 with h3 h4; injection h4 with h5 h6; injection h6 with h7 h8
    subst h3 h5 h7; rfl)
   have h2 : ¬ ((x1, x2, x3) = (y1, y2, y3)) := fun h3 => h h3.symm
   simp only [List.map_cons, putK]
   rw [if_neg (show ¬ (keyE (y1, y2, y3)).1 = [x1, x2, x3] from h1), ih]
   unfold addE
   by_cases h3 : (x1, x2, x3) ∈ r
   ·rw [if_pos h3, if_pos (List.mem_cons_of_mem _ h3)]; rfl
   ·rw [if_neg h3, if_neg (fun h4 => (List.mem_cons.1 h4).elim h2 h3)]; rfl
theorem ZIK (acc : List FallD) (x : FallD) : (addE acc x).length ≤ acc.length + 1 := by
 unfold addE; split <;> simp
theorem ZlQ {b : BoardD} {t : List Int} {c : Int} (hc : colsOK b t) (h : 0 ≤ c ∧ c < b.2.1) : colsOK b (t ++ [c]) := fun x hx => by
 rcases List.mem_append.1 hx with hx | hx
 ·exact hc x hx
 ·rw [List.mem_singleton.1 hx]; exact h
theorem ZeY (b : BoardD) (hb : boardOK b = true) (t : List Int) (ht : t.length ≤ 500) (c : Int) (hc : colsOK b (t ++ [c])) : ∀ (r pre : List FaultD) (acc : List FallD), (∀ f ∈ r, faultsOK b (-1) [f] = true) → (pre ++ r).length ≤ 1000 → Ev (fun k => Z2x k b.1 b.2.1 b.2.2 (acc.map keyE) (t ++ [c]) (pre ++ r) ((pre ++ r).length : Int) (pre.length : Int)) ((distE b t c r acc).map keyE)
 | [], pre, acc, hf, hl => by
  refine Ev.succ ?_
  simp only [Z2x, ZC, decide_false, Bool.false_eq_true, if_false]
  exact Ev.of (by simp [distE])
 | f :: r, pre, acc, hf, hl => by
  have ih := ZeY b hb t ht c hc r (pre ++ [f]) (addE acc (lastE b t c f)) (fun g hg => hf g (List.mem_cons_of_mem _ hg)) (by simpa using hl)
  simp only [← Zm] at ih
  have h1 := Zhj b hb [f] (hf f (List.mem_cons_self ..)) (by simp) (t ++ [c]) (by simp; omega) hc
  have hn : (endsOf b [f] (t ++ [c])).length = t.length + 1 := by rw [Z9E]; simp
  have hw : wrap64 (((endsOf b [f] (t ++ [c])).length : Int) - 1) = (t.length : Int) := by rw [hn, w64 (by omega) (by omega)]; omega
  have hlt : (t.length : Int) < ((endsOf b [f] (t ++ [c])).length : Int) := by rw [hn]; omega
  have hge : (0 : Int) ≤ (t.length : Int) := by omega
  refine Ev.succ ?_
  simp only [Z2x, ZA, ZN, decide_true, if_true, Int.toNat_natCast, Zs]
  rw [Zx pre f r (by omega)]
  refine Ev.bind h1 ?_
  change Ev (fun k => if 0 ≤ wrap64 (((endsOf b [f] (t ++ [c])).length : Int) - 1) then if wrap64 (((endsOf b [f] (t ++ [c])).length : Int) - 1) < ((endsOf b [f] (t ++ [c])).length : Int) then Z2x k b.1 b.2.1 b.2.2 (putK [(List.getD (endsOf b [f] (t ++ [c])) (Int.toNat (wrap64 (((endsOf b [f] (t ++ [c])).length : Int) - 1))) (0, 0, 0)).1, (List.getD (endsOf b [f] (t ++ [c])) (Int.toNat (wrap64 (((endsOf b [f] (t ++ [c])).length : Int) - 1))) (0, 0, 0)).2.1, (List.getD (endsOf b [f] (t ++ [c])) (Int.toNat (wrap64 (((endsOf b [f] (t ++ [c])).length : Int) - 1))) (0, 0, 0)).2.2] true (acc.map keyE)) (t ++ [c]) (pre ++ f :: r) ((pre ++ f :: r).length : Int) ((pre ++ [f]).length : Int) else none else none) _
  rw [hw]
  simp only [hlt, hge, if_true, Int.toNat_natCast]
  rw [show List.getD (endsOf b [f] (t ++ [c])) t.length (0, 0, 0) = lastE b t c f from rfl, ZEB]
  exact ih
theorem Zgq (b : BoardD) (hb : boardOK b = true) (t : List Int) (ht : t.length ≤ 500) (c : Int) (hc : colsOK b (t ++ [c])) (l : List FaultD) (hf : ∀ f ∈ l, faultsOK b (-1) [f] = true) (hl : l.length ≤ 1000) : Ev (fun k => Z61 k b l t c) ((distE b t c l []).length : Int) := by
 refine Ev.succ ?_
 have h1 : 0 + t.length ≤ 140737488355328 / 8 := by omega
 have h2 : t.length + 1 ≤ 140737488355328 / 8 := by omega
 simp only [Z61, h1, h2, List.length_singleton, if_true]
 refine Ev.bind (ZeY b hb t ht c hc l [] [] hf (by simpa using hl)) ?_
 exact Ev.of (by simp)
end Go.Proofs.YtglkedenkcpcbaaGreatDoor.Vs

set_option linter.unusedVariables false
set_option linter.unusedSimpArgs false
namespace Go.Proofs.YtglkedenkcpcbaaGreatDoor.Vs
open Go.RowKit
theorem ZDP (l : List Int) (h : l.length ≤ 1000000) : Ev (fun k => Zi k l) l := by
 have h1 : 0 + l.length ≤ 140737488355328 / 8 := by omega
 refine Ev.succ ?_
 simp only [Zi, h1, if_true]
 exact Ev.some _
theorem Ztg (b : BoardD) (hb : boardOK b = true) (t : List Int) (ht : t.length ≤ 500) (c : Int) (hc : colsOK b (t ++ [c])) (f : FaultD) (hf : faultsOK b (-1) [f] = true) (o2 : List FallD) (v18 : List FaultD) (v19 v20 : Int) : Ev (fun k => Z9M k b.1 b.2.1 b.2.2 o2 f.1 f.2.1 f.2.2 t c v18 v19 v20) (b.1, b.2.1, b.2.2, o2, endsOf b [f] (t ++ [c]), t, c, v18, v19, v20) := by
 have h1 := ZaS b hb [f] hf (by simp) (t ++ [c]) (by simp; omega) hc
 have h2 : t.length + 1 ≤ 140737488355328 / 8 := by omega
 simp only [Z9M]
 refine Ev.bind (ZDP t (by omega)) ?_
 simp only [h2, List.length_singleton, if_true]
 exact Ev.bind h1 (Ev.some _)
theorem ZHl (y x : FallD) : (decide (y.1 = x.1) && (decide (y.2.1 = x.2.1) && (decide (y.2.2 = x.2.2) && true))) = decide (y = x) := by
 obtain ⟨y1, y2, y3⟩ := y
 obtain ⟨x1, x2, x3⟩ := x
 simp only [Prod.mk.injEq, Bool.and_true, Bool.decide_and]
theorem ZiB (b1 b2 : Int) (b3 : List CellD) (x : FallD) (t : List Int) (c : Int) (v18 : List FaultD) (v19 v20 : Int) : ∀ (r pre : List FallD) (q : Bool), (pre ++ r).length ≤ 1000000 → Ev (fun k => Z4e k b1 b2 b3 (pre ++ r) x.1 x.2.1 x.2.2 t c q v18 v19 v20 ((pre ++ r).length : Int) (pre.length : Int)) (b1, b2, b3, pre ++ r, x.1, x.2.1, x.2.2, t, c, q || decide (x ∈ r), v18, v19, v20)
 | [], pre, q, hl => by
  refine Ev.succ ?_
  simp only [Z4e, ZC, decide_false, Bool.false_eq_true, if_false]
  exact Ev.of (by simp)
 | y :: r, pre, q, hl => by
  have ih := fun q => ZiB b1 b2 b3 x t c v18 v19 v20 r (pre ++ [y]) q (by simpa using hl)
  simp only [← Zm] at ih
  refine Ev.succ ?_
  simp only [Z4e, ZA, ZN, decide_true, if_true, Int.toNat_natCast, Zs, ZHl]
  rw [Zx pre y r (by omega)]
  refine Ev.ite (fun h => ?_) (fun h => ?_)
  ·subst h
   refine (ih true).congr ?_
   simp
  ·have h : q = false := by simpa using h
   subst h
   refine (ih (decide (y = x))).congr ?_
   have h1 : (x = y) = (y = x) := propext ⟨Eq.symm, Eq.symm⟩
   simp only [Bool.false_or, List.mem_cons, Bool.decide_or, h1]
theorem ZiK (b : BoardD) (hb : boardOK b = true) (t : List Int) (ht : t.length ≤ 500) (c : Int) (hc : colsOK b (t ++ [c])) : ∀ (r pre : List FaultD) (acc : List FallD), (∀ f ∈ r, faultsOK b (-1) [f] = true) → (pre ++ r).length ≤ 1000 → acc.length ≤ pre.length → Ev (fun k => Z44 k b.1 b.2.1 b.2.2 acc t c (pre ++ r) ((pre ++ r).length : Int) (pre.length : Int)) (distE b t c r acc)
 | [], pre, acc, hf, hl, ha => by
  refine Ev.succ ?_
  simp only [Z44, ZC, decide_false, Bool.false_eq_true, if_false]
  exact Ev.of (by simp [distE])
 | f :: r, pre, acc, hf, hl, ha => by
  have hk := ZIK acc (lastE b t c f)
  have ih := ZiK b hb t ht c hc r (pre ++ [f]) (addE acc (lastE b t c f)) (fun g hg => hf g (List.mem_cons_of_mem _ hg)) (by simpa using hl) (by simp; omega)
  simp only [← Zm] at ih
  have h1 := Ztg b hb t ht c hc f (hf f (List.mem_cons_self ..)) acc (pre ++ f :: r) ((pre ++ f :: r).length : Int) (pre.length : Int)
  have hn : (endsOf b [f] (t ++ [c])).length = t.length + 1 := by rw [Z9E]; simp
  have hw : wrap64 (((endsOf b [f] (t ++ [c])).length : Int) - 1) = (t.length : Int) := by rw [hn, w64 (by omega) (by omega)]; omega
  have hlt : (t.length : Int) < ((endsOf b [f] (t ++ [c])).length : Int) := by rw [hn]; omega
  have hge : (0 : Int) ≤ (t.length : Int) := by omega
  have hal : acc.length + 1 ≤ 140737488355328 / 24 := by simp at hl; omega
  have h2 := ZiB b.1 b.2.1 b.2.2 (lastE b t c f) t c (pre ++ f :: r) ((pre ++ f :: r).length : Int) (pre.length : Int) acc [] false (by simp at hl ⊢; omega)
  refine Ev.succ ?_
  simp only [Z44, ZA, ZN, decide_true, if_true, Int.toNat_natCast, Zs]
  refine Ev.bind h1 ?_
  dsimp only
  rw [hw]
  simp only [hlt, hge, if_true, Int.toNat_natCast]
  rw [show List.getD (endsOf b [f] (t ++ [c])) t.length (0, 0, 0) = lastE b t c f from rfl]
  refine Ev.bind h2 ?_
  dsimp only [List.nil_append]
  rw [Zx pre f r (by omega)]
  simp only [Bool.false_or, List.length_singleton, hal, if_true]
  by_cases h : lastE b t c f ∈ acc
  ·have e : addE acc (lastE b t c f) = acc := if_pos h
   rw [e] at ih
   simp only [h, decide_true, Bool.not_true, Bool.false_eq_true, if_false, distE, e]
   exact ih
  ·have e : addE acc (lastE b t c f) = acc ++ [lastE b t c f] := if_neg h
   rw [e] at ih
   simp only [h, decide_false, Bool.not_false, if_true, distE, e]
   exact ih
theorem Zly (b : BoardD) (hb : boardOK b = true) (t : List Int) (ht : t.length ≤ 500) (c : Int) (hc : colsOK b (t ++ [c])) (l : List FaultD) (hf : ∀ f ∈ l, faultsOK b (-1) [f] = true) (hl : l.length ≤ 1000) : Ev (fun k => Z9y k b l t c) ((distE b t c l []).length : Int) := by
 refine Ev.succ ?_
 simp only [Z9y]
 exact Ev.bind (ZiK b hb t ht c hc l [] [] hf (by simpa using hl) (by simp)) (Ev.some _)
theorem Zjj {b : BoardD} (hb : boardOK b = true) (t : List Int) (s : List FallD) : ∀ f ∈ singlesOf b t s, faultsOK b (-1) [f] = true := fun f hf => Zkg hb (List.mem_filter.1 hf).1
def ZaE (b : BoardD) (t : List Int) (s : List FallD) (c : Int) : Int × Bool := if seenOK b t s then (if 0 ≤ c ∧ c < b.2.1 then (if (singlesOf b t s).length = 0 then (0, false) else (((distE b t c (singlesOf b t s) []).length : Int), true)) else (0, false)) else (0, false)
theorem Zs0 (b : BoardD) (t : List Int) (s : List FallD) (c : Int) (h0 : b.2.2.length ≤ 9223372036854775806) (h2 : t.length ≤ 9223372036854775806) (h3 : s.length ≤ 9223372036854775806) : Ev (fun k => Z8Z k b t s c) (ZaE b t s c) := by
 refine Ev.succ ?_
 simp only [Z8Z]
 unfold ZaE
 refine Ev.bind (a := seenOK b t s) (Z9o b t s h0 h2 h3) ?_
 cases g0 : seenOK b t s with
 | false => simp only [Bool.not_false, if_true, Bool.false_eq_true, if_false]; exact Ev.some _
 | true =>
  simp only [Bool.not_true, Bool.false_eq_true, if_false, if_true]
  obtain ⟨hb, h24, ht, hc, hs⟩ := Z6l g0
  have hn := ZbQ hb t s
  have hcol := (ZP hb).2.2
  have hw : wrap64 (b.2.1 - 1) = b.2.1 - 1 := w64 (by omega) (by omega)
  rw [hw]
  refine Ev.bind (Z4F c 0 (b.2.1 - 1)) ?_
  by_cases h : 0 ≤ c ∧ c < b.2.1
  ·have h' : 0 ≤ c ∧ c ≤ b.2.1 - 1 := by omega
   simp only [h, h', and_self, decide_true, Bool.not_true, Bool.false_eq_true, if_false, if_true]
   refine Ev.bind (Z9s b hb t (by omega) hc s hs) ?_
   by_cases h4 : (singlesOf b t s).length = 0
   ·simp only [h4, Int.natCast_zero, Int.ofNat_zero, decide_true, if_true]; exact Ev.some _
   ·have h5 : ¬ (((singlesOf b t s).length : Int) = 0) := by omega
    simp only [h4, h5, decide_false, Bool.false_eq_true, if_false]
    exact Ev.bind (Zly b hb t (by omega) c (ZlQ hc h) _ (Zjj hb t s) (by omega)) (Ev.some _)
  ·have h' : ¬ (0 ≤ c ∧ c ≤ b.2.1 - 1) := by omega
   simp only [h, h', decide_false, Bool.not_false, if_true, if_false]; exact Ev.some _
theorem Zgj (b : BoardD) (t : List Int) (s : List FallD) (c : Int) (h0 : b.2.2.length ≤ 9223372036854775806) (h2 : t.length ≤ 9223372036854775806) (h3 : s.length ≤ 9223372036854775806) : Ev (fun k => Z6a k b t s c) (ZaE b t s c) := by
 refine Ev.succ ?_
 simp only [Z6a]
 unfold ZaE
 refine Ev.bind (a := seenOK b t s) (Z9k b t s h0 h2 h3) ?_
 cases g0 : seenOK b t s with
 | false => simp only [Bool.not_false, if_true, Bool.false_eq_true, if_false]; exact Ev.some _
 | true =>
  simp only [Bool.not_true, Bool.false_eq_true, if_false, if_true]
  obtain ⟨hb, h24, ht, hc, hs⟩ := Z6l g0
  have hn := ZbQ hb t s
  refine Ev.ite (fun h => ?_) (fun h => ?_)
  ·simp only [decide_eq_true_eq] at h
   rw [if_neg (show ¬ (0 ≤ c ∧ c < b.2.1) by omega)]; exact Ev.some _
  ·simp only [decide_eq_true_eq] at h
   refine Ev.ite (fun h1 => ?_) (fun h1 => ?_)
   ·simp only [decide_eq_true_eq] at h1
    rw [if_neg (show ¬ (0 ≤ c ∧ c < b.2.1) by omega)]; exact Ev.some _
   ·simp only [decide_eq_true_eq] at h1
    have hcc : 0 ≤ c ∧ c < b.2.1 := by omega
    rw [if_pos hcc]
    refine Ev.bind (Z4x b hb t (by omega) hc s hs) ?_
    by_cases h4 : (singlesOf b t s).length = 0
    ·simp only [h4, Int.natCast_zero, Int.ofNat_zero, decide_true, if_true]; exact Ev.some _
    ·have h5 : ¬ (((singlesOf b t s).length : Int) = 0) := by omega
     simp only [h4, h5, decide_false, Bool.false_eq_true, if_false]
     exact Ev.bind (Zgq b hb t (by omega) c (ZlQ hc hcc) _ (Zjj hb t s) (by omega)) (Ev.some _)
def bmR (n : Nat → Int) : Nat → Nat → Int → Int → Int × Int
 | 0, _, b, m => (b, m)
 | d + 1, i, b, m => if n i > m then bmR n d (i + 1) (i : Int) (n i) else bmR n d (i + 1) b m
theorem Z9b (b : BoardD) (hb : boardOK b = true) (t : List Int) (ht : t.length ≤ 400) (hc : colsOK b t) (l : List FaultD) (hf : ∀ f ∈ l, faultsOK b (-1) [f] = true) (hl : l.length ≤ 1000) : ∀ (d i : Nat) (v m : Int), ((i + d : Nat) : Int) = b.2.1 → Ev (fun k => Z1U k b.1 b.2.1 b.2.2 l t v m (i : Int)) (bmR (fun j => ((distE b t (j : Int) l []).length : Int)) d i v m)
 | 0, i, v, m, h => by
  have hi : ¬ ((i : Int) < b.2.1) := by omega
  refine Ev.succ ?_
  simp only [Z1U, hi, decide_false, Bool.false_eq_true, if_false, bmR]
  exact Ev.some _
 | d + 1, i, v, m, h => by
  have hi : (i : Int) < b.2.1 := by omega
  have hcol := (ZP hb).2.2
  have hw : wrap64 ((i : Int) + 1) = ((i + 1 : Nat) : Int) := by rw [w64 (by omega) (by omega)]; omega
  refine Ev.succ ?_
  simp only [Z1U, hi, decide_true, if_true, bmR, hw]
  refine Ev.bind (Zgq b hb t (by omega) (i : Int) (ZlQ hc ⟨by omega, hi⟩) l hf hl) ?_
  refine Ev.ite (fun h1 => ?_) (fun h1 => ?_)
  ·simp only [decide_eq_true_eq] at h1; rw [if_pos h1]; exact Z9b b hb t ht hc l hf hl d (i + 1) _ _ (by omega)
  ·simp only [decide_eq_true_eq] at h1; rw [if_neg h1]; exact Z9b b hb t ht hc l hf hl d (i + 1) _ _ (by omega)
theorem Z96 (b : BoardD) (hb : boardOK b = true) (t : List Int) (ht : t.length ≤ 400) (hc : colsOK b t) (l : List FaultD) (hf : ∀ f ∈ l, faultsOK b (-1) [f] = true) (hl : l.length ≤ 1000) : ∀ (d i : Nat) (v m : Int), ((i + d : Nat) : Int) = b.2.1 → Ev (fun k => Z1W k b.1 b.2.1 b.2.2 l t v m (i : Int)) (bmR (fun j => ((distE b t (j : Int) l []).length : Int)) d i v m)
 | 0, i, v, m, h => by
  have hi : ¬ ((i : Int) < b.2.1) := by omega
  refine Ev.succ ?_
  simp only [Z1W, hi, decide_false, Bool.false_eq_true, if_false, bmR]
  exact Ev.some _
 | d + 1, i, v, m, h => by
  have hi : (i : Int) < b.2.1 := by omega
  have hcol := (ZP hb).2.2
  have hw : wrap64 ((i : Int) + 1) = ((i + 1 : Nat) : Int) := by rw [w64 (by omega) (by omega)]; omega
  refine Ev.succ ?_
  simp only [Z1W, hi, decide_true, if_true, bmR, hw]
  refine Ev.bind (Zly b hb t (by omega) (i : Int) (ZlQ hc ⟨by omega, hi⟩) l hf hl) ?_
  refine Ev.ite (fun h1 => ?_) (fun h1 => ?_)
  ·simp only [decide_eq_true_eq] at h1; rw [if_pos h1]; exact Z96 b hb t ht hc l hf hl d (i + 1) _ _ (by omega)
  ·simp only [decide_eq_true_eq] at h1; rw [if_neg h1]; exact Z96 b hb t ht hc l hf hl d (i + 1) _ _ (by omega)
def Zu (b : BoardD) (t : List Int) (s : List FallD) : Int × Int × Bool := if seenOK b t s then (if (singlesOf b t s).length = 0 then (0, 0, false) else ((bmR (fun j => ((distE b t (j : Int) (singlesOf b t s) []).length : Int)) b.2.1.toNat 0 0 0).1, (bmR (fun j => ((distE b t (j : Int) (singlesOf b t s) []).length : Int)) b.2.1.toNat 0 0 0).2, true)) else (0, 0, false)
theorem Zo0 (b : BoardD) (t : List Int) (s : List FallD) (h0 : b.2.2.length ≤ 9223372036854775806) (h2 : t.length ≤ 9223372036854775806) (h3 : s.length ≤ 9223372036854775806) : Ev (fun k => Z7h k b t s) (Zu b t s) := by
 refine Ev.succ ?_
 simp only [Z7h]
 unfold Zu
 refine Ev.bind (a := seenOK b t s) (Z9o b t s h0 h2 h3) ?_
 cases g0 : seenOK b t s with
 | false => simp only [Bool.not_false, if_true, Bool.false_eq_true, if_false]; exact Ev.some _
 | true =>
  simp only [Bool.not_true, Bool.false_eq_true, if_false, if_true]
  obtain ⟨hb, h24, ht, hc, hs⟩ := Z6l g0
  have hn := ZbQ hb t s
  have hcol := (ZP hb).2.2
  refine Ev.bind (Z9s b hb t (by omega) hc s hs) ?_
  by_cases h4 : (singlesOf b t s).length = 0
  ·simp only [h4, Int.natCast_zero, Int.ofNat_zero, decide_true, if_true]; exact Ev.some _
  ·have h5 : ¬ (((singlesOf b t s).length : Int) = 0) := by omega
   simp only [h4, h5, decide_false, Bool.false_eq_true, if_false]
   exact Ev.bind (Z96 b hb t (by omega) hc _ (Zjj hb t s) (by omega) b.2.1.toNat 0 0 0 (by omega)) (Ev.some _)
theorem ZnW (b : BoardD) (t : List Int) (s : List FallD) (h0 : b.2.2.length ≤ 9223372036854775806) (h2 : t.length ≤ 9223372036854775806) (h3 : s.length ≤ 9223372036854775806) : Ev (fun k => Z7u k b t s) (Zu b t s) := by
 refine Ev.succ ?_
 simp only [Z7u]
 unfold Zu
 refine Ev.bind (a := seenOK b t s) (Z9k b t s h0 h2 h3) ?_
 cases g0 : seenOK b t s with
 | false => simp only [Bool.not_false, if_true, Bool.false_eq_true, if_false]; exact Ev.some _
 | true =>
  simp only [Bool.not_true, Bool.false_eq_true, if_false, if_true]
  obtain ⟨hb, h24, ht, hc, hs⟩ := Z6l g0
  have hn := ZbQ hb t s
  have hcol := (ZP hb).2.2
  refine Ev.bind (Z4x b hb t (by omega) hc s hs) ?_
  by_cases h4 : (singlesOf b t s).length = 0
  ·simp only [h4, Int.natCast_zero, Int.ofNat_zero, decide_true, if_true]; exact Ev.some _
  ·have h5 : ¬ (((singlesOf b t s).length : Int) = 0) := by omega
   simp only [h4, h5, decide_false, Bool.false_eq_true, if_false]
   exact Ev.bind (Z9b b hb t (by omega) hc _ (Zjj hb t s) (by omega) b.2.1.toNat 0 0 0 (by omega)) (Ev.some _)
end Go.Proofs.YtglkedenkcpcbaaGreatDoor.Vs

set_option linter.unusedVariables false
set_option linter.unusedSimpArgs false
namespace Go.Proofs.YtglkedenkcpcbaaGreatDoor.Vs
open Go.RowKit
def putL : List Int → Int → List Int
 | [], n => [n]
 | x :: r, n => if x < n then x :: putL r n else if x = n then x :: r else n :: x :: r
def idxFrom (p : Nat → Bool) : Nat → Nat → List Int
 | _, 0 => []
 | k, n + 1 => if p k then (k : Int) :: idxFrom p (k + 1) n else idxFrom p (k + 1) n
theorem ZbR (p : Nat → Bool) : ∀ (n k : Nat), (idxFrom p k n).length ≤ n
 | 0, k => by simp [idxFrom]
 | n + 1, k => by
  have := ZbR p n (k + 1)
  simp only [idxFrom]
  split <;> simp <;> omega
theorem ZbO {p q : Nat → Bool} : ∀ (n k : Nat), (∀ i, k ≤ i → i < k + n → p i = q i) → idxFrom p k n = idxFrom q k n
 | 0, k, h => rfl
 | n + 1, k, h => by
  simp only [idxFrom, h k (Nat.le_refl _) (by omega), ZbO n (k + 1) (fun i h1 h2 => h i (by omega) (by omega))]
theorem ZfF : ∀ (n k : Nat), idxFrom (fun _ => false) k n = []
 | 0, k => rfl
 | n + 1, k => by simp only [idxFrom, Bool.false_eq_true, if_false, ZfF n (k + 1)]
theorem Zjg (p : Nat → Bool) : ∀ (n k : Nat) (x : Int), x ∈ idxFrom p k n → (k : Int) ≤ x ∧ x < (k + n : Nat)
 | 0, k, x, h => by simp [idxFrom] at h
 | n + 1, k, x, h => by
  simp only [idxFrom] at h
  split at h
  ·rcases List.mem_cons.1 h with rfl | h
   ·omega
   ·have := Zjg p n (k + 1) x h; omega
  ·have := Zjg p n (k + 1) x h; omega
theorem ZH0 : ∀ (l : List Int) (n : Int), (∀ x ∈ l, n < x) → putL l n = n :: l
 | [], n, h => rfl
 | x :: r, n, h => by
  have := h x (List.mem_cons_self ..)
  simp only [putL]
  rw [if_neg (by omega), if_neg (by omega)]
theorem ZCU (p : Nat → Bool) (i : Nat) : ∀ (n k : Nat), k ≤ i → i < k + n → putL (idxFrom p k n) (i : Int) = idxFrom (fun j => p j || j == i) k n
 | 0, k, h1, h2 => by omega
 | n + 1, k, h1, h2 => by
  rcases Nat.lt_or_eq_of_le h1 with h | h
  ·have ih := ZCU p i n (k + 1) (by omega) (by omega)
   have hk : (k == i) = false := by simp; omega
   simp only [idxFrom, hk, Bool.or_false]
   split
   ·simp only [putL]
    rw [if_pos (by omega), ih]
   ·exact ih
  ·subst h
   have hc : idxFrom (fun j => p j || j == k) (k + 1) n = idxFrom p (k + 1) n := ZbO n (k + 1) (fun i h1 h2 => by
    have : (i == k) = false := by simp; omega
    rw [this, Bool.or_false])
   simp only [idxFrom, beq_self_eq_true, Bool.or_true, if_true, hc]
   split
   ·simp [putL]
   ·exact ZH0 _ _ (fun x hx => by have := Zjg p n (k + 1) x hx; omega)
end Go.Proofs.YtglkedenkcpcbaaGreatDoor.Vs

set_option linter.unusedVariables false
set_option linter.unusedSimpArgs false
namespace Go.Proofs.YtglkedenkcpcbaaGreatDoor.Vs
open Go.RowKit
end Go.Proofs.YtglkedenkcpcbaaGreatDoor.Vs

set_option linter.unusedVariables false
set_option linter.unusedSimpArgs false
namespace Go.Proofs.YtglkedenkcpcbaaGreatDoor.Vs
open Go.RowKit
end Go.Proofs.YtglkedenkcpcbaaGreatDoor.Vs

set_option linter.unusedVariables false
set_option linter.unusedSimpArgs false
namespace Go.Proofs.YtglkedenkcpcbaaGreatDoor.Vs
open Go.RowKit
theorem Zyo : ∀ (l : List Int) (n : Int), ∃ t d, l = t ++ d ∧ (∀ x ∈ t, x < n) ∧ (∀ x s, d = x :: s → ¬ x < n) ∧ putL l n = t ++ putL d n
 | [], n => ⟨[], [], rfl, fun _ h => (by cases h), fun _ _ h => (by cases h), rfl⟩
 | y :: r, n => by
  by_cases hy : y < n
  ·obtain ⟨t, d, h1, h2, h3, h4⟩ := Zyo r n
   refine ⟨y :: t, d, by rw [h1]; rfl, fun x hx => ?_, h3, ?_⟩
   ·rcases List.mem_cons.1 hx with rfl | hx
    ·exact hy
    ·exact h2 x hx
   ·simp only [putL, if_pos hy, h4, List.cons_append]
  ·refine ⟨[], y :: r, rfl, fun _ h => (by cases h), fun x s h => ?_, rfl⟩
   injection h with h1 _
   rw [← h1]; exact hy
theorem Znn (n : Int) : ∀ (t pre d : List Int), (∀ x ∈ t, x < n) → (∀ x s, d = x :: s → ¬ x < n) → (pre ++ (t ++ d)).length ≤ 1000000 → Ev (fun k => Z6w k (pre ++ (t ++ d)) n (pre.length : Int)) (pre ++ (t ++ d), n, ((pre ++ t).length : Int))
 | [], pre, [], ht, hd, hl => by
  refine Ev.succ ?_
  simp only [Z6w, List.nil_append, ZC, Int.lt_irrefl, decide_false, Bool.false_eq_true, if_false, List.append_nil]
  exact Ev.some _
 | [], pre, x :: s, ht, hd, hl => by
  have hx := hd x s rfl
  refine Ev.succ ?_
  simp only [Z6w, List.nil_append, ZA, ZN, decide_true, if_true, Int.toNat_natCast, Zs, hx, decide_false, Bool.false_eq_true, if_false, List.append_nil]
  exact Ev.some _
 | x :: t, pre, d, ht, hd, hl => by
  have hx := ht x (List.mem_cons_self ..)
  have ih := Znn n t (pre ++ [x]) d (fun y hy => ht y (List.mem_cons_of_mem _ hy)) hd (by simpa using hl)
  simp only [List.cons_append] at hl ⊢
  refine Ev.succ ?_
  simp only [Z6w, ZA, ZN, decide_true, if_true, Int.toNat_natCast, Zs, hx]
  rw [Zx pre x (t ++ d) (by omega)]
  rw [← Zm] at ih
  refine ih.congr ?_
  simp
theorem ZEz (l : List Int) (n : Int) (hl : l.length ≤ 1000000) : Ev (fun k => ZfU k l n) (putL l n) := by
 obtain ⟨t, d, rfl, h2, h3, h4⟩ := Zyo l n
 have h0 := Znn n t [] d h2 h3 (by simpa using hl)
 simp only [List.nil_append, List.length_nil, Int.natCast_zero] at h0
 rw [h4]
 have hlt : t.length + d.length ≤ 1000000 := by simpa using hl
 have z1 : (0 : Nat) + t.length ≤ 140737488355328 / 8 := by omega
 have z2 : t.length + 1 ≤ 140737488355328 / 8 := by omega
 refine Ev.succ ?_
 simp only [ZfU]
 refine Ev.bind h0 ?_
 cases d with
 | nil =>
  have z3 : (t ++ [n]).length + 0 ≤ 140737488355328 / 8 := by simp; omega
  simp only [ZC, Int.lt_irrefl, decide_false, Bool.false_eq_true, if_false, ZN, Int.le_refl, if_true, Int.toNat_natCast, Int.toNat_zero, Nat.sub_zero, List.drop_zero, List.append_nil, List.take_length, List.length_singleton, z1, z2, List.drop_length, List.take_nil, List.length_nil, z3, putL]
  exact Ev.some _
 | cons x s =>
  have hx := h3 x s rfl
  have y1 : (t.length : Int) ≤ ((t ++ x :: s).length : Int) := by simp; omega
  have y2 : List.take t.length (t ++ x :: s) = t := List.take_left' rfl
  have y3 : List.drop t.length (t ++ x :: s) = x :: s := List.drop_left' rfl
  have y4 : List.take ((t ++ x :: s).length - t.length) (x :: s) = x :: s := List.take_of_length_le (by simp)
  have z3 : (t ++ [n]).length + (x :: s).length ≤ 140737488355328 / 8 := by simp at hlt ⊢; omega
  simp only [ZA, ZN, decide_true, if_true, Int.toNat_natCast, Zs, Int.toNat_zero, Nat.sub_zero, List.drop_zero, y1, y2, y3, y4, Int.le_refl, List.length_singleton, z1, z2, z3, putL, if_neg hx]
  refine Ev.ite (fun h => ?_) (fun h => ?_)
  ·simp only [decide_eq_true_eq] at h
   rw [if_pos h]
   exact Ev.some _
  ·simp only [decide_eq_true_eq] at h
   rw [if_neg h]
   exact Ev.of (by simp)
theorem ZoE (n : Int) : ∀ (r pre : List Int), (pre ++ r).length ≤ 1000000 → Ev (fun k => Z8f k n (pre ++ r) ((pre ++ r).length : Int) (pre.length : Int)) (if n ∈ r then LR.ret true else LR.go ())
 | [], pre, hl => by
  refine Ev.succ ?_
  simp only [Z8f, ZC, decide_false, Bool.false_eq_true, if_false, List.not_mem_nil]
  exact Ev.some _
 | x :: r, pre, hl => by
  have ih := ZoE n r (pre ++ [x]) (by simpa using hl)
  refine Ev.succ ?_
  simp only [Z8f, ZA, ZN, decide_true, if_true, Int.toNat_natCast, Zs]
  rw [Zx pre x r (by omega)]
  rw [← Zm] at ih
  refine Ev.ite (fun h => ?_) (fun h => ?_)
  ·simp only [decide_eq_true_eq] at h
   rw [if_pos (by rw [h]; exact List.mem_cons_self ..)]
   exact Ev.some _
  ·simp only [decide_eq_true_eq] at h
   refine ih.congr ?_
   have : (n ∈ x :: r) ↔ n ∈ r := by rw [List.mem_cons]; exact ⟨fun h2 => h2.elim (fun h3 => (h h3.symm).elim) id, .inr⟩
   simp only [this]
theorem ZDR (l : List Int) (n : Int) (hl : l.length ≤ 1000000) : Ev (fun k => Zfu k l n) (decide (n ∈ l)) := by
 refine Ev.succ ?_
 simp only [Zfu]
 refine Ev.bind (ZoE n l [] (by simpa using hl)) ?_
 by_cases h : n ∈ l
 ·rw [if_pos h, decide_eq_true h]; exact Ev.ret (Ev.some _)
 ·rw [if_neg h, decide_eq_false h]; exact Ev.go (Ev.some _)
def hasAt (b : BoardD) (l : List FaultD) (i : Nat) : Bool := l.any fun f => decide (placeOf b f = i)
def inB (b : BoardD) (f : FaultD) : Prop := 0 ≤ f.2.1 * b.2.1 ∧ f.2.1 * b.2.1 ≤ 90 ∧ 0 ≤ placeOf b f ∧ placeOf b f < (b.2.2.length : Int) ∧ placeOf b f ≤ 90
theorem ZAp {b : BoardD} {f : FaultD} (h : inB b f) (pre : List FaultD) (j : Nat) : hasAt b (pre ++ [f]) j = (hasAt b pre j || j == (placeOf b f).toNat) := by
 unfold hasAt
 rw [List.any_append, List.any_cons, List.any_nil, Bool.or_false]
 congr 1
 have h0 := h.2.2.1
 rw [Bool.eq_iff_iff]
 simp only [decide_eq_true_eq, beq_iff_eq]
 omega
theorem ZKE {b : BoardD} (hb : boardOK b = true) {f : FaultD} (h : f ∈ possFrom b.2.1 0 b.2.2) : inB b f := by
 obtain ⟨h1, h2, h3, h4, h5⟩ := ZpP hb h
 have hp := Z7D hb h1 h2 h3 h4
 unfold inB placeOf
 omega
theorem Zgi (b : BoardD) : ∀ (r pre : List FaultD), (∀ f ∈ r, inB b f) → b.2.2.length ≤ 1000 → (pre ++ r).length ≤ 1000000 → Ev (fun k => Z4B k b.1 b.2.1 b.2.2 (idxFrom (hasAt b pre) 0 b.2.2.length) (pre ++ r) ((pre ++ r).length : Int) (pre.length : Int)) (idxFrom (hasAt b (pre ++ r)) 0 b.2.2.length)
 | [], pre, hf, hn, hl => by
  refine Ev.succ ?_
  simp only [Z4B, ZC, Int.lt_irrefl, decide_false, Bool.false_eq_true, if_false, List.append_nil]
  exact Ev.some _
 | f :: r, pre, hf, hn, hl => by
  have hi := hf f (List.mem_cons_self ..)
  have ih := Zgi b r (pre ++ [f]) (fun g hg => hf g (List.mem_cons_of_mem _ hg)) hn (by simpa using hl)
  have hlen := ZbR (hasAt b pre) b.2.2.length 0
  have hput : putL (idxFrom (hasAt b pre) 0 b.2.2.length) (placeOf b f) = idxFrom (hasAt b (pre ++ [f])) 0 b.2.2.length := by
   have h1 := ZCU (hasAt b pre) (placeOf b f).toNat b.2.2.length 0 (by omega) (by have := hi.2.2.1; have := hi.2.2.2.1; omega)
   rw [Int.toNat_of_nonneg hi.2.2.1] at h1
   rw [h1]
   exact ZbO _ _ (fun j _ _ => (ZAp hi pre j).symm)
  obtain ⟨i1, i2, i3, i4, i5⟩ := hi
  have hw : wrap64 (wrap64 (f.2.1 * b.2.1) + f.2.2) = placeOf b f := by
   rw [w64 (n := f.2.1 * b.2.1) (by omega) (by omega)]
   unfold placeOf at i3 i5 ⊢
   rw [w64 (by omega) (by omega)]
  refine Ev.succ ?_
  simp only [Z4B, ZA, ZN, decide_true, if_true, Int.toNat_natCast, Zs]
  rw [Zx pre f r (by omega), hw]
  refine Ev.bind (ZEz _ _ (by omega)) ?_
  rw [hput]
  rw [← Zm] at ih
  exact ih
theorem ZHr (n i : Nat) (p q : Nat → Bool) (hi : i < n) (hp : ∀ j, q j = (p j || j == i)) : List.set ((List.range n).map p) i true = (List.range n).map q := by
 apply List.ext_getElem?
 intro j
 rw [List.getElem?_set]
 by_cases hij : i = j
 ·subst hij
  rw [if_pos rfl, if_pos (by simpa using hi), List.getElem?_map, List.getElem?_range hi]
  simp [hp]
 ·rw [if_neg hij]
  simp only [List.getElem?_map]
  by_cases hj : j < n
  ·rw [List.getElem?_range hj]
   have : (j == i) = false := by simp; omega
   simp [hp, this]
  ·rw [List.getElem?_eq_none (by simpa using hj)]
   rfl
theorem ZI5 {n i : Nat} (p : Nat → Bool) (hi : i < n) : List.getD ((List.range n).map p) i false = p i := by
 simp [List.getD, List.getElem?_map, List.getElem?_range hi]
theorem Zhx (b : BoardD) (wth : Bool) : ∀ (r pre : List FaultD), (∀ f ∈ r, inB b f) → (pre ++ r).length ≤ 1000000 → Ev (fun k => Z55 k b.1 b.2.1 b.2.2 ((List.range b.2.2.length).map (hasAt b pre)) wth (pre ++ r) ((pre ++ r).length : Int) (pre.length : Int)) ((List.range b.2.2.length).map (hasAt b (pre ++ r)), wth)
 | [], pre, hf, hl => by
  refine Ev.succ ?_
  simp only [Z55, ZC, Int.lt_irrefl, decide_false, Bool.false_eq_true, if_false, List.append_nil]
  exact Ev.some _
 | f :: r, pre, hf, hl => by
  have hi := hf f (List.mem_cons_self ..)
  have ih := Zhx b wth r (pre ++ [f]) (fun g hg => hf g (List.mem_cons_of_mem _ hg)) (by simpa using hl)
  have hset := ZHr b.2.2.length (placeOf b f).toNat (hasAt b pre) (hasAt b (pre ++ [f])) (by have := hi.2.2.1; have := hi.2.2.2.1; omega) (ZAp hi pre)
  obtain ⟨i1, i2, i3, i4, i5⟩ := hi
  have hw : wrap64 (wrap64 (f.2.1 * b.2.1) + f.2.2) = placeOf b f := by
   rw [w64 (n := f.2.1 * b.2.1) (by omega) (by omega)]
   unfold placeOf at i3 i5 ⊢
   rw [w64 (by omega) (by omega)]
  have i4' : placeOf b f < (((List.range b.2.2.length).map (hasAt b pre)).length : Int) := by simpa using i4
  refine Ev.succ ?_
  simp only [Z55, ZA, ZN, decide_true, if_true, Int.toNat_natCast, Zs, hw, i3, i4', hset]
  rw [Zx pre f r (by omega)]
  rw [← Zm] at ih
  exact ih
theorem ZcA (n : Nat) (p : Nat → Bool) (wth : Bool) (hn : n ≤ 1000000) : ∀ (m i : Nat) (acc : List Int), i + m = n → acc.length ≤ i → Ev (fun k => Z3H k acc ((List.range n).map p) wth (n : Int) (i : Int)) (acc ++ idxFrom (fun j => p j == wth) i m)
 | 0, i, acc, h, ha => by
  have : ¬ (i : Int) < n := by omega
  refine Ev.succ ?_
  simp only [Z3H, this, decide_false, Bool.false_eq_true, if_false, idxFrom, List.append_nil]
  exact Ev.some _
 | m + 1, i, acc, h, ha => by
  have h1 : (i : Int) < n := by omega
  have h2 : (i : Int) < (((List.range n).map p).length : Int) := by simp; omega
  have h3 : (0 : Int) ≤ i := by omega
  have h4 : wrap64 ((i : Int) + 1) = ((i + 1 : Nat) : Int) := by rw [w64 (by omega) (by omega)]; omega
  have hal : acc.length + 1 ≤ 140737488355328 / 8 := by omega
  refine Ev.succ ?_
  simp only [Z3H, h1, h2, h3, h4, decide_true, if_true, Int.toNat_natCast, ZI5 p (show i < n by omega), List.length_singleton, hal, idxFrom]
  refine Ev.ite (fun hh => ?_) (fun hh => ?_)
  ·refine (ZcA n p wth hn m (i + 1) (acc ++ [(i : Int)]) (by omega) (by simp; omega)).congr ?_
   rw [if_pos hh]; simp
  ·refine (ZcA n p wth hn m (i + 1) acc (by omega) (by omega)).congr ?_
   rw [if_neg hh]
theorem ZkQ (b : BoardD) (l : List FaultD) (wth : Bool) (hl : ∀ f ∈ l, inB b f) (hn : b.2.2.length ≤ 1000) (hll : l.length ≤ 1000000) : Ev (fun k => Z8n k b l wth) (idxFrom (fun j => hasAt b l j == wth) 0 b.2.2.length) := by
 refine Ev.succ ?_
 have hm : b.2.2.length * 1 ≤ 281474976710656 := by omega
 simp only [Z8n, Int.toNat_natCast, hm, if_true]
 have e0 : List.replicate b.2.2.length false = (List.range b.2.2.length).map (hasAt b []) := by
  apply List.ext_getElem
  ·simp
  ·intro i h1 h2
   simp [hasAt]
 rw [e0]
 refine Ev.bind (Zhx b wth l [] hl (by simpa using hll)) ?_
 have h2 := ZcA b.2.2.length (hasAt b l) wth (by omega) b.2.2.length 0 [] (by omega) (by simp)
 simp only [List.nil_append, List.length_map, List.length_range]
 exact Ev.bind (by simpa using h2) (Ev.some _)
theorem Zdf {b : BoardD} (hb : boardOK b = true) (t : List Int) (s : List FallD) : ∀ f ∈ singlesOf b t s, inB b f := fun f hf => ZKE hb (List.mem_filter.1 hf).1
theorem Ze4 {b : BoardD} (hb : boardOK b = true) (t : List Int) (s : List FallD) : (singlesOf b t s).length ≤ 270 :=
 Nat.le_trans (List.length_filter_le _ _) (Zg1 hb)
theorem Zig (b : BoardD) (hb : boardOK b = true) (h24 : b.2.2.length ≤ 24) (t : List Int) (ht : t.length ≤ 1000) (hc : colsOK b t) (s : List FallD) (hs : s.length = t.length) : Ev (fun k => Z7L k b t s) (idxFrom (hasAt b (singlesOf b t s)) 0 b.2.2.length) := by
 refine Ev.succ ?_
 simp only [Z7L]
 have h0 := Zgi b (singlesOf b t s) [] (Zdf hb t s) (by omega) (by have := Ze4 hb t s; simp; omega)
 have e0 : idxFrom (hasAt b []) 0 b.2.2.length = [] := ZfF _ _
 rw [e0] at h0
 exact Ev.bind (Z9s b hb t ht hc s hs) (Ev.bind h0 (Ev.some _))
theorem Zhc (p : Nat → Bool) : ∀ (n k i : Nat), k ≤ i → i < k + n → (((i : Int) ∈ idxFrom p k n) ↔ p i = true)
 | 0, k, i, h1, h2 => by omega
 | n + 1, k, i, h1, h2 => by
  have hg := Zjg p n (k + 1)
  simp only [idxFrom]
  by_cases hki : k = i
  ·subst hki
   have hno : ¬ (k : Int) ∈ idxFrom p (k + 1) n := fun hm => by have := hg _ hm; omega
   split
   ·rename_i hp; simp [hp]
   ·rename_i hp; simp [hno, hp]
  ·have ih := Zhc p n (k + 1) i (by omega) (by omega)
   split
   ·rw [List.mem_cons, ih]
    constructor
    ·rintro (h3 | h3)
     ·omega
     ·exact h3
    ·exact .inr
   ·exact ih
theorem Zqz {b : BoardD} {l : List FaultD} (hl : ∀ f ∈ l, inB b f) : (idxFrom (hasAt b l) 0 b.2.2.length).length = 0 ↔ l.length = 0 := by
 constructor
 ·intro h
  cases l with
  | nil => rfl
  | cons f r =>
   exfalso
   have hi := hl f (List.mem_cons_self ..)
   have hm := (Zhc (hasAt b (f :: r)) b.2.2.length 0 (placeOf b f).toNat (by omega) (by have := hi.2.2.1; have := hi.2.2.2.1; omega)).2 (by
    unfold hasAt
    rw [List.any_cons]
    have : placeOf b f = ((placeOf b f).toNat : Int) := (Int.toNat_of_nonneg hi.2.2.1).symm
    rw [decide_eq_true this, Bool.true_or])
   rw [List.eq_nil_of_length_eq_zero h] at hm
   cases hm
 ·intro h
  obtain rfl := List.eq_nil_of_length_eq_zero h
  have e0 : idxFrom (hasAt b []) 0 b.2.2.length = [] := ZfF _ _
  rw [e0]; rfl
theorem ZbX (n : Nat) (p : Nat → Bool) (hn : n ≤ 1000) : ∀ (m i : Nat) (acc : List Int), i + m = n → acc.length ≤ i → Ev (fun k => Z3i k (idxFrom p 0 n) acc (n : Int) (i : Int)) (acc ++ idxFrom (fun j => !p j) i m)
 | 0, i, acc, h, ha => by
  have : ¬ (i : Int) < n := by omega
  refine Ev.succ ?_
  simp only [Z3i, this, decide_false, Bool.false_eq_true, if_false, idxFrom, List.append_nil]
  exact Ev.some _
 | m + 1, i, acc, h, ha => by
  have h1 : (i : Int) < n := by omega
  have h4 : wrap64 ((i : Int) + 1) = ((i + 1 : Nat) : Int) := by rw [w64 (by omega) (by omega)]; omega
  have hal : acc.length + 1 ≤ 140737488355328 / 8 := by omega
  have hlen := ZbR p n 0
  have hmem := Zhc p n 0 i (by omega) (by omega)
  refine Ev.succ ?_
  simp only [Z3i, h1, h4, decide_true, if_true, List.length_singleton, hal, idxFrom]
  refine Ev.bind (ZDR _ _ (by omega)) (Ev.ite (fun hh => ?_) (fun hh => ?_))
  ·have hh : ¬ (i : Int) ∈ idxFrom p 0 n := nd hh
   have hp : p i = false := by simpa [hmem] using hh
   refine (ZbX n p hn m (i + 1) (acc ++ [(i : Int)]) (by omega) (by simp; omega)).congr ?_
   simp [hp]
  ·have hh : (i : Int) ∈ idxFrom p 0 n := yd hh
   have hp : p i = true := hmem.1 hh
   refine (ZbX n p hn m (i + 1) acc (by omega) (by omega)).congr ?_
   simp [hp]
def Zq (b : BoardD) (t : List Int) (s : List FallD) : List Int × Bool := if seenOK b t s then (idxFrom (hasAt b (singlesOf b t s)) 0 b.2.2.length, true) else ([], false)
theorem Zr1 (b : BoardD) (t : List Int) (s : List FallD) (h0 : b.2.2.length ≤ 9223372036854775806) (h2 : t.length ≤ 9223372036854775806) (h3 : s.length ≤ 9223372036854775806) : Ev (fun k => Z8U k b t s) (Zq b t s) := by
 refine Ev.succ ?_
 simp only [Z8U]
 unfold Zq
 refine Ev.bind (a := seenOK b t s) (Z9o b t s h0 h2 h3) ?_
 cases g0 : seenOK b t s with
 | false => simp only [Bool.not_false, if_true, Bool.false_eq_true, if_false, Bool.false_and, Bool.and_false]; exact Ev.some _
 | true =>
  simp only [Bool.not_true, Bool.false_eq_true, if_false, if_true, Bool.and_self]
  obtain ⟨hb, h24, ht, hc, hs⟩ := Z6l g0
  exact Ev.bind (Zig b hb h24 t (by omega) hc s hs) (Ev.some _)
theorem Zr8 (b : BoardD) (t : List Int) (s : List FallD) (h0 : b.2.2.length ≤ 9223372036854775806) (h2 : t.length ≤ 9223372036854775806) (h3 : s.length ≤ 9223372036854775806) : Ev (fun k => Z8Q k b t s) (Zq b t s) := by
 refine Ev.succ ?_
 simp only [Z8Q]
 unfold Zq
 refine Ev.bind (a := seenOK b t s) (Z9k b t s h0 h2 h3) ?_
 cases g0 : seenOK b t s with
 | false => simp only [Bool.not_false, if_true, Bool.false_eq_true, if_false, Bool.false_and, Bool.and_false]; exact Ev.some _
 | true =>
  simp only [Bool.not_true, Bool.false_eq_true, if_false, if_true, Bool.and_self]
  obtain ⟨hb, h24, ht, hc, hs⟩ := Z6l g0
  have hn := Ze4 hb t s
  have h9 := ZkQ b (singlesOf b t s) true (Zdf hb t s) (by omega) (by omega)
  have e9 : idxFrom (fun j => hasAt b (singlesOf b t s) j == true) 0 b.2.2.length = idxFrom (hasAt b (singlesOf b t s)) 0 b.2.2.length := ZbO _ _ (fun j _ _ => by simp)
  rw [e9] at h9
  exact Ev.bind (Z4x b hb t (by omega) hc s hs) (Ev.bind h9 (Ev.some _))
def Z2X (b : BoardD) (t : List Int) (s : List FallD) : List Int × Bool := if seenOK b t s then (if (singlesOf b t s).length = 0 then ([], false) else (idxFrom (fun j => !hasAt b (singlesOf b t s) j) 0 b.2.2.length, true)) else ([], false)
theorem Zv9 (b : BoardD) (t : List Int) (s : List FallD) (h0 : b.2.2.length ≤ 9223372036854775806) (h2 : t.length ≤ 9223372036854775806) (h3 : s.length ≤ 9223372036854775806) : Ev (fun k => Zai k b t s) (Z2X b t s) := by
 refine Ev.succ ?_
 simp only [Zai]
 unfold Z2X
 refine Ev.bind (a := seenOK b t s) (Z9o b t s h0 h2 h3) ?_
 cases g0 : seenOK b t s with
 | false => simp only [Bool.not_false, if_true, Bool.false_eq_true, if_false, Bool.false_and, Bool.and_false]; exact Ev.some _
 | true =>
  simp only [Bool.not_true, Bool.false_eq_true, if_false, if_true, Bool.and_self]
  obtain ⟨hb, h24, ht, hc, hs⟩ := Z6l g0
  have hz := Zqz (Zdf hb t s)
  refine Ev.bind (Zig b hb h24 t (by omega) hc s hs) (Ev.ite (fun h => ?_) (fun h => ?_))
  ·simp only [decide_eq_true_eq] at h; rw [if_pos (hz.1 (by omega))]; exact Ev.some _
  ·simp only [decide_eq_true_eq] at h; rw [if_neg (fun h8 => h (by have := hz.2 h8; omega))]
   have h9 := ZbX b.2.2.length (hasAt b (singlesOf b t s)) (by omega) b.2.2.length 0 [] (by omega) (by simp)
   simp only [List.nil_append] at h9
   exact Ev.bind h9 (Ev.some _)
theorem ZuP (b : BoardD) (t : List Int) (s : List FallD) (h0 : b.2.2.length ≤ 9223372036854775806) (h2 : t.length ≤ 9223372036854775806) (h3 : s.length ≤ 9223372036854775806) : Ev (fun k => Zal k b t s) (Z2X b t s) := by
 refine Ev.succ ?_
 simp only [Zal]
 unfold Z2X
 refine Ev.bind (a := seenOK b t s) (Z9k b t s h0 h2 h3) ?_
 cases g0 : seenOK b t s with
 | false => simp only [Bool.not_false, if_true, Bool.false_eq_true, if_false, Bool.false_and, Bool.and_false]; exact Ev.some _
 | true =>
  simp only [Bool.not_true, Bool.false_eq_true, if_false, if_true, Bool.and_self]
  obtain ⟨hb, h24, ht, hc, hs⟩ := Z6l g0
  have hn := Ze4 hb t s
  have h9 := ZkQ b (singlesOf b t s) false (Zdf hb t s) (by omega) (by omega)
  have e9 : idxFrom (fun j => hasAt b (singlesOf b t s) j == false) 0 b.2.2.length = idxFrom (fun j => !hasAt b (singlesOf b t s) j) 0 b.2.2.length := ZbO _ _ (fun j _ _ => by cases hasAt b (singlesOf b t s) j <;> rfl)
  rw [e9] at h9
  refine Ev.bind (Z4x b hb t (by omega) hc s hs) (Ev.ite (fun h => ?_) (fun h => ?_))
  ·simp only [decide_eq_true_eq] at h; rw [if_pos (by omega)]; exact Ev.some _
  ·simp only [decide_eq_true_eq] at h; rw [if_neg (by omega)]; exact Ev.bind h9 (Ev.some _)
end Go.Proofs.YtglkedenkcpcbaaGreatDoor.Vs

set_option linter.unusedVariables false
set_option linter.unusedSimpArgs false
namespace Go.Proofs.YtglkedenkcpcbaaGreatDoor.Vs
open Go.RowKit
theorem ZDm (p : Nat → Bool) : ∀ (n k : Nat), (idxFrom p k n).length + (idxFrom (fun j => !p j) k n).length = n
 | 0, k => by simp [idxFrom]
 | n + 1, k => by
  have ih := ZDm p n (k + 1)
  by_cases hp : p k = true
  ·simp only [idxFrom, hp, if_true, Bool.not_true, Bool.false_eq_true, if_false, List.length_cons]
   omega
  ·have hp : p k = false := by simpa using hp
   simp only [idxFrom, hp, if_true, Bool.not_false, Bool.false_eq_true, if_false, List.length_cons]
   omega
theorem ZI7 (p q : Nat → Bool) : ∀ (n k : Nat), (idxFrom (fun j => p j || q j) k n).length ≤ (idxFrom p k n).length + (idxFrom q k n).length
 | 0, k => by simp [idxFrom]
 | n + 1, k => by
  have ih := ZI7 p q n (k + 1)
  by_cases hp : p k = true
  ·by_cases hq : q k = true
   ·simp only [idxFrom, hp, hq, if_true, Bool.or_true, List.length_cons]
    omega
   ·have hq : q k = false := by simpa using hq
    simp only [idxFrom, hp, hq, if_true, Bool.or_false, Bool.false_eq_true, if_false, List.length_cons]
    omega
  ·have hp : p k = false := by simpa using hp
   by_cases hq : q k = true
   ·simp only [idxFrom, hp, hq, if_true, Bool.or_true, Bool.false_eq_true, if_false, List.length_cons]
    omega
   ·have hq : q k = false := by simpa using hq
    simp only [idxFrom, hp, hq, Bool.or_false, Bool.false_eq_true, if_false]
    exact ih
theorem ZGf (m : Int) : ∀ (n k : Nat), (idxFrom (fun (j : Nat) => decide (m = (j : Int))) k n).length ≤ (if (k : Int) ≤ m then 1 else 0)
 | 0, k => by simp [idxFrom]
 | n + 1, k => by
  have ih := ZGf m n (k + 1)
  by_cases h : m = (k : Int)
  ·subst h
   rw [if_neg (by omega)] at ih
   simp only [idxFrom, decide_true, if_true, List.length_cons]
   rw [if_pos (Int.le_refl _)]
   omega
  ·simp only [idxFrom, h, decide_false, Bool.false_eq_true, if_false]
   refine Nat.le_trans ih ?_
   by_cases h2 : ((k + 1 : Nat) : Int) ≤ m
   ·rw [if_pos h2, if_pos (by omega)]; exact Nat.le_refl _
   ·rw [if_neg h2]; omega
theorem ZvK (b : BoardD) : ∀ (l : List FaultD) (n : Nat), (idxFrom (hasAt b l) 0 n).length ≤ l.length
 | [], n => by
  have : hasAt b [] = fun _ => false := by funext i; rfl
  rw [this, ZfF]
  simp
 | f :: l, n => by
  have ih := ZvK b l n
  have h : hasAt b (f :: l) = fun (j : Nat) => decide (placeOf b f = (j : Int)) || hasAt b l j := by
   funext i
   unfold hasAt
   rw [List.any_cons]
  rw [h]
  have h1 := ZI7 (fun (j : Nat) => decide (placeOf b f = (j : Int))) (hasAt b l) n 0
  have h2 := ZGf (placeOf b f) n 0
  have h3 : (if ((0 : Nat) : Int) ≤ placeOf b f then 1 else 0) ≤ 1 := by split <;> omega
  simp only [List.length_cons]
  omega
end Go.Proofs.YtglkedenkcpcbaaGreatDoor.Vs

set_option linter.unusedVariables false
set_option linter.unusedSimpArgs false
namespace Go.Proofs.YtglkedenkcpcbaaGreatDoor.Vs
open Go.RowKit
theorem Zim : ∀ (r s pre q : List Int), r.length = s.length → pre.length = q.length → (pre ++ r).length ≤ 1000000 → Ev (fun k => Z5I k (pre ++ r) (q ++ s) ((pre ++ r).length : Int) (pre.length : Int)) (if r = s then LR.go () else LR.ret false)
 | [], s, pre, q, h, hq, hl => by
  obtain rfl : s = [] := List.eq_nil_of_length_eq_zero h.symm
  refine Ev.succ ?_
  simp only [Z5I, ZC, decide_false, Bool.false_eq_true, if_false, if_true]
  exact Ev.some _
 | x :: r, [], pre, q, h, hq, hl => by simp at h
 | x :: r, y :: s, pre, q, h, hq, hl => by
  have ih := Zim r s (pre ++ [x]) (q ++ [y]) (by simpa using h) (by simpa using hq) (by simpa using hl)
  have l2 : (pre.length : Int) < ((q ++ y :: s).length : Int) := by rw [hq]; exact ZA _ _ _
  have g2 : List.getD (q ++ y :: s) pre.length 0 = y := by rw [hq]; exact Zs _ _ _ _
  refine Ev.succ ?_
  simp only [Z5I, ZA, ZN, l2, decide_true, if_true, Int.toNat_natCast, Zs, g2]
  rw [Zx pre x r (by omega)]
  rw [← Zm, ← Zm] at ih
  refine Ev.ite (fun hh => ?_) (fun hh => ?_)
  ·simp only [decide_eq_true_eq] at hh
   rw [if_neg (fun he => hh (List.cons.inj he).1)]
   exact Ev.some _
  ·simp only [decide_eq_true_eq, Decidable.not_not] at hh
   refine ih.congr ?_
   simp [hh]
theorem ZlS (a c : List Int) (ha : a.length ≤ 1000000) : Ev (fun k => Z9A k a c) (decide (a = c)) := by
 refine Ev.succ ?_
 simp only [Z9A]
 refine Ev.ite (fun h => ?_) (fun h => ?_)
 ·simp only [decide_eq_true_eq] at h
  rw [decide_eq_false (fun he => h (by rw [he]))]
  exact Ev.some _
 ·simp only [decide_eq_true_eq, Decidable.not_not] at h
  refine Ev.bind (Zim a c [] [] (by omega) rfl (by simpa using ha)) ?_
  by_cases he : a = c
  ·rw [if_pos he, decide_eq_true he]; exact Ev.go (Ev.some _)
  ·rw [if_neg he, decide_eq_false he]; exact Ev.ret (Ev.some _)
theorem Zf7 : ∀ (r s pre q : List FaultD), r.length = s.length → pre.length = q.length → (pre ++ r).length ≤ 1000000 → Ev (fun k => Z3O k (pre ++ r) (q ++ s) ((pre ++ r).length : Int) (pre.length : Int)) (if r = s then LR.go () else LR.ret false)
 | [], s, pre, q, h, hq, hl => by
  obtain rfl : s = [] := List.eq_nil_of_length_eq_zero h.symm
  refine Ev.succ ?_
  simp only [Z3O, ZC, decide_false, Bool.false_eq_true, if_false, if_true]
  exact Ev.some _
 | x :: r, [], pre, q, h, hq, hl => by simp at h
 | x :: r, y :: s, pre, q, h, hq, hl => by
  have ih := Zf7 r s (pre ++ [x]) (q ++ [y]) (by simpa using h) (by simpa using hq) (by simpa using hl)
  have l2 : (pre.length : Int) < ((q ++ y :: s).length : Int) := by rw [hq]; exact ZA _ _ _
  have g2 : List.getD (q ++ y :: s) pre.length (0, 0, 0) = y := by rw [hq]; exact Zs _ _ _ _
  refine Ev.succ ?_
  simp only [Z3O, ZA, ZN, l2, decide_true, if_true, Int.toNat_natCast, Zs, g2]
  rw [Zx pre x r (by omega)]
  rw [← Zm, ← Zm] at ih
  have e : (decide (x.1 = y.1) && (decide (x.2.1 = y.2.1) && (decide (x.2.2 = y.2.2) && true))) = decide (x = y) := by
   rw [Bool.eq_iff_iff]
   simp [Prod.ext_iff]
  rw [e]
  by_cases hh : x = y
  ·simp only [hh, decide_true, Bool.not_true, Bool.false_eq_true, if_false]
   rw [hh] at ih
   refine ih.congr ?_
   simp
  ·simp only [hh, decide_false, Bool.not_false, if_true]
   rw [if_neg (fun he => hh (List.cons.inj he).1)]
   exact Ev.some _
theorem ZsG (a c : List FaultD) (ha : a.length ≤ 1000000) : Ev (fun k => Z9K k a c) (decide (a = c)) := by
 refine Ev.succ ?_
 simp only [Z9K]
 refine Ev.ite (fun h => ?_) (fun h => ?_)
 ·simp only [decide_eq_true_eq] at h
  rw [decide_eq_false (fun he => h (by rw [he]))]
  exact Ev.some _
 ·simp only [decide_eq_true_eq, Decidable.not_not] at h
  refine Ev.bind (Zf7 a c [] [] (by omega) rfl (by simpa using ha)) ?_
  by_cases he : a = c
  ·rw [if_pos he, decide_eq_true he]; exact Ev.go (Ev.some _)
  ·rw [if_neg he, decide_eq_false he]; exact Ev.ret (Ev.some _)
end Go.Proofs.YtglkedenkcpcbaaGreatDoor.Vs

set_option maxRecDepth 100000
set_option maxHeartbeats 2000000
set_option linter.unusedVariables false
set_option linter.unusedSimpArgs false
namespace Go.Proofs.YtglkedenkcpcbaaGreatDoor.Vs
open Go.RowKit
noncomputable section
noncomputable def Z12 : List PK := [PK.mk Ty.bool false none false none]
noncomputable def Z7K : List PK := [PK.mk (Ty.slice (5 : Nat) (Ty.int .u8)) false none false none, PK.mk (Ty.slice (5 : Nat) (Ty.int .u8)) false none false none]
noncomputable def Z1A (r : Bool) : Tup Z12 × OutD := ((r, ()), none)
noncomputable def Z1z : Tup Z12 × OutD → Option (Bool)
 | (a, none) => some (a.1)
 | _ => none
theorem Z1q : ∀ b r, Z1z b = some r → Z1A r = b := by
 rintro ⟨a, o⟩ r h
 cases o with
 | none => injection h with h; subst h; rfl
 | some _ => cases h
noncomputable def Z4p : Nat → Int → Int → List (Int × Int) → List Int → List (Int × Int × Int) → List Int → List Int → List (Int × Int × Int) → List (Int × Int × Int) → List Int → Bool → Int → Int → ByteArray → Bool → Bool → ByteArray → Int → Int → Option (LR (Int × Int × List (Int × Int) × List Int × List (Int × Int × Int) × List Int × List Int × List (Int × Int × Int) × List (Int × Int × Int) × List Int × Bool × Int × Int × ByteArray × Bool × Bool × ByteArray) Bool)
 | 0, _, _, _, _, _, _, _, _, _, _, _, _, _, _, _, _, _, _, _ => none
 | k + 1, b1_0, b1_1, o2, o3, o4, o5, o6, o7, o8, v1, v10, v11, v12, v24, v27, v29, v30, v194, v195 =>
  if decide (v195 < v194) = true then if (0 : Int) ≤ v195 then if v195 < (↑(List.length o8) : Int) then Option.bind (Z8y k (Prod.fst (List.getD o8 (Int.toNat v195) ((0 : Int), (0 : Int), (0 : Int))), Prod.fst (Prod.snd (List.getD o8 (Int.toNat v195) ((0 : Int), (0 : Int), (0 : Int)))), Prod.snd (Prod.snd (List.getD o8 (Int.toNat v195) ((0 : Int), (0 : Int), (0 : Int)))))) fun z14 => if (!Prod.snd z14) = true then some (LR.ret false) else Option.bind (Zj3 k o5 (wrap64 (wrap64 (Prod.fst (Prod.snd (List.getD o8 (Int.toNat v195) ((0 : Int), (0 : Int), (0 : Int)))) * b1_1) + Prod.snd (Prod.snd (List.getD o8 (Int.toNat v195) ((0 : Int), (0 : Int), (0 : Int))))))) fun z15 => if (!z15) = true then some (LR.ret false) else if ByteArray.size z14.1 + ByteArray.size (ByteArray.mk #[(10 : UInt8)]) ≤ (9223372036854775807 : Nat) then if ByteArray.size v30 + ByteArray.size (Prod.fst z14 ++ ByteArray.mk #[(10 : UInt8)]) ≤ (9223372036854775807 : Nat) then Z4p k b1_0 b1_1 o2 o3 o4 o5 o6 o7 o8 v1 v10 v11 v12 v24 v27 v29 (v30 ++ (Prod.fst z14 ++ ByteArray.mk #[(10 : UInt8)])) v194 (wrap64 (v195 + (1 : Int))) else none else none else none else none else some (LR.go (b1_0, b1_1, o2, o3, o4, o5, o6, o7, o8, v1, v10, v11, v12, v24, v27, v29, v30))
noncomputable def Zbg : Spec := Spec.mk [OSh.ro, OSh.box (26 : Nat) [Sh.int .i64, Sh.int .i64, Sh.sl (2 : Nat)], OSh.row true (122 : Nat) (Ty.pair (Ty.int .i64) (Ty.int .i64)), OSh.row true (3 : Nat) (Ty.int .i64), OSh.row true (67 : Nat) (Ty.pair (Ty.int .i64) (Ty.pair (Ty.int .i64) (Ty.int .i64))), OSh.row true (3 : Nat) (Ty.int .i64), OSh.row true (3 : Nat) (Ty.int .i64), OSh.row true (42 : Nat) (Ty.pair (Ty.int .i64) (Ty.pair (Ty.int .i64) (Ty.int .i64))), OSh.row true (42 : Nat) (Ty.pair (Ty.int .i64) (Ty.pair (Ty.int .i64) (Ty.int .i64)))] [((1 : Nat), TSh.at (Sh.snap (0 : Nat) (Ty.int .u8))), ((5 : Nat), TSh.at (Sh.ptr (1 : Nat) (0 : Nat))), ((6 : Nat), TSh.at (Sh.sl (3 : Nat))), ((7 : Nat), TSh.at (Sh.sl (4 : Nat))), ((10 : Nat), TSh.at Sh.bool), ((11 : Nat), TSh.at (Sh.int .i64)), ((12 : Nat), TSh.at (Sh.int .i64)), ((16 : Nat), TSh.at (Sh.sl (5 : Nat))), ((20 : Nat), TSh.at (Sh.sl (6 : Nat))), ((24 : Nat), TSh.at Sh.str), ((26 : Nat), TSh.at (Sh.sl (7 : Nat))), ((27 : Nat), TSh.at Sh.bool), ((28 : Nat), TSh.at (Sh.sl (8 : Nat))), ((29 : Nat), TSh.at Sh.bool), ((30 : Nat), TSh.at Sh.str), ((193 : Nat), TSh.at (Sh.sl (8 : Nat))), ((194 : Nat), TSh.at (Sh.int .i64)), ((195 : Nat), TSh.at (Sh.int .i64))]
noncomputable def ZpX : Spec := Spec.mk [OSh.ro, OSh.box (26 : Nat) [Sh.int .i64, Sh.int .i64, Sh.sl (2 : Nat)], OSh.row true (122 : Nat) (Ty.pair (Ty.int .i64) (Ty.int .i64)), OSh.row true (3 : Nat) (Ty.int .i64), OSh.row true (67 : Nat) (Ty.pair (Ty.int .i64) (Ty.pair (Ty.int .i64) (Ty.int .i64))), OSh.row true (3 : Nat) (Ty.int .i64), OSh.row true (3 : Nat) (Ty.int .i64), OSh.row true (42 : Nat) (Ty.pair (Ty.int .i64) (Ty.pair (Ty.int .i64) (Ty.int .i64))), OSh.row true (42 : Nat) (Ty.pair (Ty.int .i64) (Ty.pair (Ty.int .i64) (Ty.int .i64)))] [((1 : Nat), TSh.at (Sh.snap (0 : Nat) (Ty.int .u8))), ((5 : Nat), TSh.at (Sh.ptr (1 : Nat) (0 : Nat))), ((6 : Nat), TSh.at (Sh.sl (3 : Nat))), ((7 : Nat), TSh.at (Sh.sl (4 : Nat))), ((10 : Nat), TSh.at Sh.bool), ((11 : Nat), TSh.at (Sh.int .i64)), ((12 : Nat), TSh.at (Sh.int .i64)), ((16 : Nat), TSh.at (Sh.sl (5 : Nat))), ((20 : Nat), TSh.at (Sh.sl (6 : Nat))), ((24 : Nat), TSh.at Sh.str), ((26 : Nat), TSh.at (Sh.sl (7 : Nat))), ((27 : Nat), TSh.at Sh.bool), ((28 : Nat), TSh.at (Sh.sl (8 : Nat))), ((29 : Nat), TSh.at Sh.bool), ((30 : Nat), TSh.at Sh.str)]
noncomputable def Z3S : LoopDef (Tup Z12 × OutD) := .rets Zbg ZpX (Int × Int × List (Int × Int) × List Int × List (Int × Int × Int) × List Int × List Int × List (Int × Int × Int) × List (Int × Int × Int) × List Int × Bool × Int × Int × ByteArray × Bool × Bool × ByteArray) (Bool) (fun k x => Z4p k x.1.2.1.1 x.1.2.1.2.1 x.1.2.2.1 x.1.2.2.2.1 x.1.2.2.2.2.1 x.1.2.2.2.2.2.1 x.1.2.2.2.2.2.2.1 x.1.2.2.2.2.2.2.2.1 x.1.2.2.2.2.2.2.2.2.1 x.2.1 x.2.2.2.2.2.1 x.2.2.2.2.2.2.1 x.2.2.2.2.2.2.2.1 x.2.2.2.2.2.2.2.2.2.2.1 x.2.2.2.2.2.2.2.2.2.2.2.2.1 x.2.2.2.2.2.2.2.2.2.2.2.2.2.2.1 x.2.2.2.2.2.2.2.2.2.2.2.2.2.2.2.1 x.2.2.2.2.2.2.2.2.2.2.2.2.2.2.2.2.2.1 x.2.2.2.2.2.2.2.2.2.2.2.2.2.2.2.2.2.2.1) (fun z => (((), (z.1, z.2.1, (), ()), z.2.2.1, z.2.2.2.1, z.2.2.2.2.1, z.2.2.2.2.2.1, z.2.2.2.2.2.2.1, z.2.2.2.2.2.2.2.1, z.2.2.2.2.2.2.2.2.1, ()), (z.2.2.2.2.2.2.2.2.2.1, (), (), (), z.2.2.2.2.2.2.2.2.2.2.1, z.2.2.2.2.2.2.2.2.2.2.2.1, z.2.2.2.2.2.2.2.2.2.2.2.2.1, (), (), z.2.2.2.2.2.2.2.2.2.2.2.2.2.1, (), z.2.2.2.2.2.2.2.2.2.2.2.2.2.2.1, (), z.2.2.2.2.2.2.2.2.2.2.2.2.2.2.2.1, z.2.2.2.2.2.2.2.2.2.2.2.2.2.2.2.2, ()))) (fun y => (y.1.2.1.1, y.1.2.1.2.1, y.1.2.2.1, y.1.2.2.2.1, y.1.2.2.2.2.1, y.1.2.2.2.2.2.1, y.1.2.2.2.2.2.2.1, y.1.2.2.2.2.2.2.2.1, y.1.2.2.2.2.2.2.2.2.1, y.2.1, y.2.2.2.2.2.1, y.2.2.2.2.2.2.1, y.2.2.2.2.2.2.2.1, y.2.2.2.2.2.2.2.2.2.2.1, y.2.2.2.2.2.2.2.2.2.2.2.2.1, y.2.2.2.2.2.2.2.2.2.2.2.2.2.2.1, y.2.2.2.2.2.2.2.2.2.2.2.2.2.2.2.1)) (fun _ => rfl) Z1A Z1z Z1q
noncomputable def Z1f : Nat → Int → Int → List (Int × Int) → List Int → List (Int × Int × Int) → List Int → Int → Int → Int → Option (LR (List Int) Bool)
 | 0, _, _, _, _, _, _, _, _, _ => none
 | k + 1, b1_0, b1_1, o2, o3, o4, v1, v11, v12, v35 =>
  if decide (v35 < b1_1) = true then Option.bind (Z6a k (b1_0, b1_1, o2) o3 o4 v35) fun z18 => if (!Prod.snd z18) = true then some (LR.ret false) else if decide (Prod.fst z18 < (1 : Int)) = true then some (LR.ret false) else if decide (Prod.fst z18 > v12) = true then some (LR.ret false) else if decide (Prod.fst z18 = v12) = true then if decide (v35 < v11) = true then some (LR.ret false) else if decide (v35 = v11) = true then if decide (Prod.fst z18 ≠ v12) = true then some (LR.ret false) else Z1f k b1_0 b1_1 o2 o3 o4 v1 v11 v12 (wrap64 (v35 + (1 : Int))) else Z1f k b1_0 b1_1 o2 o3 o4 v1 v11 v12 (wrap64 (v35 + (1 : Int))) else if decide (v35 = v11) = true then if decide (Prod.fst z18 ≠ v12) = true then some (LR.ret false) else Z1f k b1_0 b1_1 o2 o3 o4 v1 v11 v12 (wrap64 (v35 + (1 : Int))) else Z1f k b1_0 b1_1 o2 o3 o4 v1 v11 v12 (wrap64 (v35 + (1 : Int))) else some (LR.go v1)
noncomputable def Zb0 : Spec := Spec.mk [OSh.ro, OSh.box (26 : Nat) [Sh.int .i64, Sh.int .i64, Sh.sl (2 : Nat)], OSh.row true (122 : Nat) (Ty.pair (Ty.int .i64) (Ty.int .i64)), OSh.row true (3 : Nat) (Ty.int .i64), OSh.row true (67 : Nat) (Ty.pair (Ty.int .i64) (Ty.pair (Ty.int .i64) (Ty.int .i64)))] [((1 : Nat), TSh.at (Sh.snap (0 : Nat) (Ty.int .u8))), ((5 : Nat), TSh.at (Sh.ptr (1 : Nat) (0 : Nat))), ((6 : Nat), TSh.at (Sh.sl (3 : Nat))), ((7 : Nat), TSh.at (Sh.sl (4 : Nat))), ((11 : Nat), TSh.at (Sh.int .i64)), ((12 : Nat), TSh.at (Sh.int .i64)), ((35 : Nat), TSh.at (Sh.int .i64))]
noncomputable def Zpg : Spec := Spec.mk [OSh.ro] [((1 : Nat), TSh.at (Sh.snap (0 : Nat) (Ty.int .u8)))]
noncomputable def Z3Z : LoopDef (Tup Z12 × OutD) := .rets Zb0 Zpg (List Int) (Bool) (fun k x => Z1f k x.1.2.1.1 x.1.2.1.2.1 x.1.2.2.1 x.1.2.2.2.1 x.1.2.2.2.2.1 x.2.1 x.2.2.2.2.2.1 x.2.2.2.2.2.2.1 x.2.2.2.2.2.2.2.1) (fun z => (((), ()), (z, ()))) (fun y => (y.2.1)) (fun _ => rfl) Z1A Z1z Z1q
noncomputable def Zas : Nat → Int → Bool → Int → Bool → Option Bool := fun k v42 v43 v44 v45 =>
    if (v43 == v45) = true then some (decide (v42 = v44)) else some false
noncomputable def Zmv : Spec := Spec.mk [OSh.ro] [((42 : Nat), TSh.at (Sh.int .i64)), ((43 : Nat), TSh.at Sh.bool), ((44 : Nat), TSh.at (Sh.int .i64)), ((45 : Nat), TSh.at Sh.bool)]
noncomputable def Z1k : LoopDef (Tup Z12 × OutD) := .ends Zmv (Bool) (fun k x => Zas k x.2.1 x.2.2.1 x.2.2.2.1 x.2.2.2.2.1) Z1A Z1z Z1q
noncomputable def Z54 : Nat → List Int → Option Bool := fun k v1 =>
    Option.bind (Z5Y k v1) fun z20 => Option.bind (Z6a k (Prod.fst z20.1, Prod.fst z20.1.2, Prod.snd z20.1.2) z20.2.1 z20.2.2.1 z20.2.2.2) fun z21 => Option.bind (Z8Z k (Prod.fst z20.1, Prod.fst z20.1.2, Prod.snd z20.1.2) z20.2.1 z20.2.2.1 z20.2.2.2) fun z22 => Option.bind (Zas k z21.1 z21.2 z22.1 z22.2) fun z23 => some z23
noncomputable def Zmt : Spec := Spec.mk [OSh.ro] [((1 : Nat), TSh.at (Sh.snap (0 : Nat) (Ty.int .u8)))]
noncomputable def Z1j : LoopDef (Tup Z12 × OutD) := .ends Zmt (Bool) (fun k x => Z54 k x.2.1) Z1A Z1z Z1q
noncomputable def Z4V : Nat → Int → Int → List (Int × Int) → List Int → List (Int × Int × Int) → List Int → List Int → List Int → Bool → Int → Int → Option Bool := fun k b1_0 b1_1 o2 o3 o4 o5 o6 v1 v10 v11 v12 =>
    if v10 = true then if decide (addS (↑(List.length o5) : Int) (↑(List.length o6) : Int) ≠ (↑(List.length o2) : Int)) = true then some false else Option.bind (Z1f k b1_0 b1_1 o2 o3 o4 v1 v11 v12 (0 : Int)) fun z19 => LR.on z19 (fun y19 => Option.bind (Z54 k y19) fun z24 => some z24) fun r19 => some r19 else Option.bind (Z54 k v1) fun z25 => some z25
noncomputable def Zmh : Spec := Spec.mk [OSh.ro, OSh.box (26 : Nat) [Sh.int .i64, Sh.int .i64, Sh.sl (2 : Nat)], OSh.row true (122 : Nat) (Ty.pair (Ty.int .i64) (Ty.int .i64)), OSh.row true (3 : Nat) (Ty.int .i64), OSh.row true (67 : Nat) (Ty.pair (Ty.int .i64) (Ty.pair (Ty.int .i64) (Ty.int .i64))), OSh.row true (3 : Nat) (Ty.int .i64), OSh.row true (3 : Nat) (Ty.int .i64)] [((1 : Nat), TSh.at (Sh.snap (0 : Nat) (Ty.int .u8))), ((5 : Nat), TSh.at (Sh.ptr (1 : Nat) (0 : Nat))), ((6 : Nat), TSh.at (Sh.sl (3 : Nat))), ((7 : Nat), TSh.at (Sh.sl (4 : Nat))), ((10 : Nat), TSh.at Sh.bool), ((11 : Nat), TSh.at (Sh.int .i64)), ((12 : Nat), TSh.at (Sh.int .i64)), ((16 : Nat), TSh.at (Sh.sl (5 : Nat))), ((20 : Nat), TSh.at (Sh.sl (6 : Nat)))]
noncomputable def Z1h : LoopDef (Tup Z12 × OutD) := .ends Zmh (Bool) (fun k x => Z4V k x.1.2.1.1 x.1.2.1.2.1 x.1.2.2.1 x.1.2.2.2.1 x.1.2.2.2.2.1 x.1.2.2.2.2.2.1 x.1.2.2.2.2.2.2.1 x.2.1 x.2.2.2.2.2.1 x.2.2.2.2.2.2.1 x.2.2.2.2.2.2.2.1) Z1A Z1z Z1q
noncomputable def Z4W : Nat → Int → Int → List (Int × Int) → List Int → List (Int × Int × Int) → List Int → List Int → List Int → Bool → Int → Int → Bool → ByteArray → Option Bool := fun k b1_0 b1_1 o2 o3 o4 o5 o6 v1 v10 v11 v12 v15 v24 =>
    if v15 = true then Option.bind (Z8Y k (b1_0, b1_1, o2) o3 o4) fun z12 => Option.bind (Z92 k (b1_0, b1_1, o2) o3 o4) fun z13 => Option.bind (Z4p k b1_0 b1_1 o2 o3 o4 o5 o6 z12.1 z13.1 v1 v10 v11 v12 v24 z12.2 z13.2 (ByteArray.mk #[]) (↑(List.length z13.1) : Int) (0 : Int)) fun z16 => LR.on z16 (fun y16 => if (!Prod.fst y16.2.2.2.2.2.2.2.2.2.2.2.2.2.2) = true then some false else if (!Prod.fst y16.2.2.2.2.2.2.2.2.2.2.2.2.2.2.2) = true then some false else Option.bind (Z9K k y16.2.2.2.2.2.2.2.1 y16.2.2.2.2.2.2.2.2.1) fun z17 => if (!z17) = true then some false else if (!ByteArray.toList y16.2.2.2.2.2.2.2.2.2.2.2.2.2.2.2.2 == ByteArray.toList y16.2.2.2.2.2.2.2.2.2.2.2.2.2.1) = true then some false else if decide ((↑(List.length y16.2.2.2.2.2.1) : Int) > (↑(List.length y16.2.2.2.2.2.2.2.2.1) : Int)) = true then some false else Option.bind (Z4V k y16.1 y16.2.1 y16.2.2.1 y16.2.2.2.1 y16.2.2.2.2.1 y16.2.2.2.2.2.1 y16.2.2.2.2.2.2.1 y16.2.2.2.2.2.2.2.2.2.1 y16.2.2.2.2.2.2.2.2.2.2.1 y16.2.2.2.2.2.2.2.2.2.2.2.1 y16.2.2.2.2.2.2.2.2.2.2.2.2.1) fun z26 => some z26) fun r16 => some r16 else Option.bind (Z4V k b1_0 b1_1 o2 o3 o4 o5 o6 v1 v10 v11 v12) fun z27 => some z27
noncomputable def Zmn : Spec := Spec.mk [OSh.ro, OSh.box (26 : Nat) [Sh.int .i64, Sh.int .i64, Sh.sl (2 : Nat)], OSh.row true (122 : Nat) (Ty.pair (Ty.int .i64) (Ty.int .i64)), OSh.row true (3 : Nat) (Ty.int .i64), OSh.row true (67 : Nat) (Ty.pair (Ty.int .i64) (Ty.pair (Ty.int .i64) (Ty.int .i64))), OSh.row true (3 : Nat) (Ty.int .i64), OSh.row true (3 : Nat) (Ty.int .i64)] [((1 : Nat), TSh.at (Sh.snap (0 : Nat) (Ty.int .u8))), ((5 : Nat), TSh.at (Sh.ptr (1 : Nat) (0 : Nat))), ((6 : Nat), TSh.at (Sh.sl (3 : Nat))), ((7 : Nat), TSh.at (Sh.sl (4 : Nat))), ((10 : Nat), TSh.at Sh.bool), ((11 : Nat), TSh.at (Sh.int .i64)), ((12 : Nat), TSh.at (Sh.int .i64)), ((15 : Nat), TSh.at Sh.bool), ((16 : Nat), TSh.at (Sh.sl (5 : Nat))), ((20 : Nat), TSh.at (Sh.sl (6 : Nat))), ((24 : Nat), TSh.at Sh.str)]
noncomputable def Z1l : LoopDef (Tup Z12 × OutD) := .ends Zmn (Bool) (fun k x => Z4W k x.1.2.1.1 x.1.2.1.2.1 x.1.2.2.1 x.1.2.2.2.1 x.1.2.2.2.2.1 x.1.2.2.2.2.2.1 x.1.2.2.2.2.2.2.1 x.2.1 x.2.2.2.2.2.1 x.2.2.2.2.2.2.1 x.2.2.2.2.2.2.2.1 x.2.2.2.2.2.2.2.2.1 x.2.2.2.2.2.2.2.2.2.2.2.1) Z1A Z1z Z1q
noncomputable def ZaA : Nat → Int → Int → List (Int × Int) → List Int → List (Int × Int × Int) → List Int → List Int → List Int → List Int → List Int → Int → Int → Bool → Int → Int → Bool → Bool → Bool → Bool → Bool → Option Bool := fun k b1_0 b1_1 o2 o3 o4 o5 o6 o7 o8 v1 v8 v9 v10 v11 v12 v13 v15 v17 v19 v21 =>
    Option.bind (Zaf k (b1_0, b1_1, o2) o3 o4) fun z8 => Option.bind (Zaa k (b1_0, b1_1, o2) o3 o4) fun z9 => if (!v10 == v13) = true then some false else if decide (v8 ≠ v11) = true then some false else if decide (v9 ≠ v12) = true then some false else if (!v15 == v17) = true then some false else Option.bind (Z9A k o5 o6) fun z10 => if (!z10) = true then some false else if (!v19 == v21) = true then some false else Option.bind (Z9A k o7 o8) fun z11 => if (!z11) = true then some false else if (!Prod.snd z8 == Prod.snd z9) = true then some false else if (!ByteArray.toList z8.1 == ByteArray.toList z9.1) = true then some false else if (!Prod.snd z8 == v15) = true then some false else if v15 = true then if (!v10 == decide ((↑(List.length o6) : Int) > (0 : Int))) = true then some false else if (!v19 == v10) = true then some false else Option.bind (Z4W k b1_0 b1_1 o2 o3 o4 o6 o8 v1 v10 v11 v12 v15 z9.1) fun z28 => some z28 else if (!v10 == false) = true then some false else if (!v19 == v10) = true then some false else Option.bind (Z4W k b1_0 b1_1 o2 o3 o4 o6 o8 v1 v10 v11 v12 v15 z9.1) fun z29 => some z29
noncomputable def Zn6 : Spec := Spec.mk [OSh.ro, OSh.box (26 : Nat) [Sh.int .i64, Sh.int .i64, Sh.sl (2 : Nat)], OSh.row true (122 : Nat) (Ty.pair (Ty.int .i64) (Ty.int .i64)), OSh.row true (3 : Nat) (Ty.int .i64), OSh.row true (67 : Nat) (Ty.pair (Ty.int .i64) (Ty.pair (Ty.int .i64) (Ty.int .i64))), OSh.row true (3 : Nat) (Ty.int .i64), OSh.row true (3 : Nat) (Ty.int .i64), OSh.row true (3 : Nat) (Ty.int .i64), OSh.row true (3 : Nat) (Ty.int .i64)] [((1 : Nat), TSh.at (Sh.snap (0 : Nat) (Ty.int .u8))), ((5 : Nat), TSh.at (Sh.ptr (1 : Nat) (0 : Nat))), ((6 : Nat), TSh.at (Sh.sl (3 : Nat))), ((7 : Nat), TSh.at (Sh.sl (4 : Nat))), ((8 : Nat), TSh.at (Sh.int .i64)), ((9 : Nat), TSh.at (Sh.int .i64)), ((10 : Nat), TSh.at Sh.bool), ((11 : Nat), TSh.at (Sh.int .i64)), ((12 : Nat), TSh.at (Sh.int .i64)), ((13 : Nat), TSh.at Sh.bool), ((14 : Nat), TSh.at (Sh.sl (5 : Nat))), ((15 : Nat), TSh.at Sh.bool), ((16 : Nat), TSh.at (Sh.sl (6 : Nat))), ((17 : Nat), TSh.at Sh.bool), ((18 : Nat), TSh.at (Sh.sl (7 : Nat))), ((19 : Nat), TSh.at Sh.bool), ((20 : Nat), TSh.at (Sh.sl (8 : Nat))), ((21 : Nat), TSh.at Sh.bool)]
noncomputable def Z1i : LoopDef (Tup Z12 × OutD) := .ends Zn6 (Bool) (fun k x => ZaA k x.1.2.1.1 x.1.2.1.2.1 x.1.2.2.1 x.1.2.2.2.1 x.1.2.2.2.2.1 x.1.2.2.2.2.2.1 x.1.2.2.2.2.2.2.1 x.1.2.2.2.2.2.2.2.1 x.1.2.2.2.2.2.2.2.2.1 x.2.1 x.2.2.2.2.2.1 x.2.2.2.2.2.2.1 x.2.2.2.2.2.2.2.1 x.2.2.2.2.2.2.2.2.1 x.2.2.2.2.2.2.2.2.2.1 x.2.2.2.2.2.2.2.2.2.2.1 x.2.2.2.2.2.2.2.2.2.2.2.2.1 x.2.2.2.2.2.2.2.2.2.2.2.2.2.2.1 x.2.2.2.2.2.2.2.2.2.2.2.2.2.2.2.2.1 x.2.2.2.2.2.2.2.2.2.2.2.2.2.2.2.2.2.2.1) Z1A Z1z Z1q
noncomputable def Zbs : Nat → Int → Int → List (Int × Int) → List Int → List (Int × Int × Int) → List Int → Int → Int → Bool → Int → Int → Bool → Option Bool := fun k b1_0 b1_1 o2 o3 o4 v1 v8 v9 v10 v11 v12 v13 =>
    Option.bind (Z8Q k (b1_0, b1_1, o2) o3 o4) fun z4 => Option.bind (Z8U k (b1_0, b1_1, o2) o3 o4) fun z5 => Option.bind (Zal k (b1_0, b1_1, o2) o3 o4) fun z6 => Option.bind (Zai k (b1_0, b1_1, o2) o3 o4) fun z7 => Option.bind (ZaA k b1_0 b1_1 o2 o3 o4 z4.1 z5.1 z6.1 z7.1 v1 v8 v9 v10 v11 v12 v13 z4.2 z5.2 z6.2 z7.2) fun z30 => some z30
noncomputable def ZoH : Spec := Spec.mk [OSh.ro, OSh.box (26 : Nat) [Sh.int .i64, Sh.int .i64, Sh.sl (2 : Nat)], OSh.row true (122 : Nat) (Ty.pair (Ty.int .i64) (Ty.int .i64)), OSh.row true (3 : Nat) (Ty.int .i64), OSh.row true (67 : Nat) (Ty.pair (Ty.int .i64) (Ty.pair (Ty.int .i64) (Ty.int .i64)))] [((1 : Nat), TSh.at (Sh.snap (0 : Nat) (Ty.int .u8))), ((5 : Nat), TSh.at (Sh.ptr (1 : Nat) (0 : Nat))), ((6 : Nat), TSh.at (Sh.sl (3 : Nat))), ((7 : Nat), TSh.at (Sh.sl (4 : Nat))), ((8 : Nat), TSh.at (Sh.int .i64)), ((9 : Nat), TSh.at (Sh.int .i64)), ((10 : Nat), TSh.at Sh.bool), ((11 : Nat), TSh.at (Sh.int .i64)), ((12 : Nat), TSh.at (Sh.int .i64)), ((13 : Nat), TSh.at Sh.bool)]
noncomputable def Z1p : LoopDef (Tup Z12 × OutD) := .ends ZoH (Bool) (fun k x => Zbs k x.1.2.1.1 x.1.2.1.2.1 x.1.2.2.1 x.1.2.2.2.1 x.1.2.2.2.2.1 x.2.1 x.2.2.2.2.2.1 x.2.2.2.2.2.2.1 x.2.2.2.2.2.2.2.1 x.2.2.2.2.2.2.2.2.1 x.2.2.2.2.2.2.2.2.2.1 x.2.2.2.2.2.2.2.2.2.2.1) Z1A Z1z Z1q
noncomputable def Zdu : Nat → List Int → List Int → Option Bool
 | 0, _, _ => none
 | k + 1, p0, p1 =>
  Option.bind (ZfE k p0 p1) fun z0 => if z0 = true then some true else Option.bind (Z5d k p0) fun z1 => Option.bind (Z7u k (Prod.fst z1.1, Prod.fst z1.1.2, Prod.snd z1.1.2) z1.2.1 z1.2.2) fun z2 => Option.bind (Z7h k (Prod.fst z1.1, Prod.fst z1.1.2, Prod.snd z1.1.2) z1.2.1 z1.2.2) fun z3 => Option.bind (Zbs k z1.1.1 z1.1.2.1 z1.1.2.2 z1.2.1 z1.2.2 p1 z2.1 z2.2.1 z2.2.2 z3.1 z3.2.1 z3.2.2) fun z31 => some z31
noncomputable def Z2m : FnDef := .of Z7K Z12 (Bool) (fun k x => Zdu k x.1 x.2.1) Z1A Z1z Z1q
noncomputable def Z1u : Code := Tryz.f3.body.getD .skip
noncomputable def Zj : Ctx (Tup Z12 × OutD) := { T := T, G := [(5, Z9J.E), (6, Z1g.E), (7, Z1P.E), (8, Z1Q.E), (9, Z2e.E), (10, Z2i.E), (11, Z3d.E), (12, Z37.E), (13, Z38.E), (14, Z3c.E), (15, Z4j.E), (16, Z2j.E), (17, Z2g.E), (18, Z2T.E), (19, Z9D.E), (20, Z2N.E), (21, Z2d.E), (22, Z1s.E), (23, Z2c.E)], mvs := [200253], no := 0, n := 334, res := resOf T Z7K Z12 Tryz.f3.results.toList, loops := [(0, Z3S.E), (2, Z3Z.E)], regs := [], conds := [], cuts := [(40, Z1k.E), (37, Z1j.E), (28, Z1h.E), (14, Z1l.E), (10, Z1i.E), (6, Z1p.E)] }
theorem Z2r (k : Nat) : EnvOK Tryz.prog k Zj.G := (EnvOK.cons (ZGH k) (EnvOK.cons (Zjr k) (EnvOK.cons (ZoA k) (EnvOK.cons (ZnN k) (EnvOK.cons (Zrf k) (EnvOK.cons (ZrL k) (EnvOK.cons (ZuK k) (EnvOK.cons (Zup k) (EnvOK.cons (ZuB k) (EnvOK.cons (ZuM k) (EnvOK.cons (ZyW k) (EnvOK.cons (Zrx k) (EnvOK.cons (Zrh k) (EnvOK.cons (Zkm k) (EnvOK.cons (ZGK k) (EnvOK.cons (Ztm k) (EnvOK.cons (ZrC k) (EnvOK.cons (Zl9 k) (EnvOK.cons (ZrP k) (EnvOK.nil mixed))))))))))))))))))))
noncomputable def Z85 : Code := (findLoop 0 Z1u).getD .skip
theorem Zq3 (k : Nat) (x : Zbg.D) : Z3S.lp (k + 1) x = loopK Zj Z3S 0 Z85 k x := by kernel_rfl
theorem ZpY (k : Nat) : LOK Tryz.prog Zj k Z85 := LOK.by [] (by kernel_rfl) AllOK.nil
theorem ZpM (x : Zbg.D) : Z3S.lp 0 x = none := by kernel_rfl
theorem ZnZ (k : Nat) : EOK Tryz.prog Zj k Z3S.E (.block 0 (.loop Z85)) := Zr T_ok Z2r ZpM Zq3 ZpY k
noncomputable def Z7S : Code := (findLoop 2 Z1u).getD .skip
theorem Zq0 (k : Nat) (x : Zb0.D) : Z3Z.lp (k + 1) x = loopK Zj Z3Z 2 Z7S k x := by kernel_rfl
theorem ZpC (k : Nat) : LOK Tryz.prog Zj k Z7S := LOK.by [] (by kernel_rfl) AllOK.nil
theorem ZoR (x : Zb0.D) : Z3Z.lp 0 x = none := by kernel_rfl
theorem Zng (k : Nat) : EOK Tryz.prog Zj k Z3Z.E (.block 2 (.loop Z7S)) := Zr T_ok Z2r ZoR Zq0 ZpC k
noncomputable def Z6H : Code := (findCut 40 Z1u).getD .skip
theorem Zmw (k : Nat) (i : Z1k.inp.D) : Z1k.lp k i = exec Zj k Z6H (Z1k.inp.st Zj.n i) (outK Zj Z1k) (fun _ _ => none) Z1k.mkB := by kernel_rfl
theorem Zl4 (k : Nat) : EOK Tryz.prog Zj k Z1k.E Z6H := Zfy (D := Z1k) T_ok (Z2r k) (Zmw k) (@LOK.by _ _ _ _ Z6H [] (by kernel_rfl) AllOK.nil)
noncomputable def Z6D : Code := (findCut 37 Z1u).getD .skip
theorem Zmb (k : Nat) (i : Z1j.inp.D) : Z1j.lp k i = exec Zj k Z6D (Z1j.inp.st Zj.n i) (outK Zj Z1j) (fun _ _ => none) Z1j.mkB := by kernel_rfl
theorem Zl1 (k : Nat) : EOK Tryz.prog Zj k Z1j.E Z6D := Zfy (D := Z1j) T_ok (Z2r k) (Zmb k) (@LOK.by _ _ _ _ Z6D [(Z1k.E, Z6H)] (by kernel_rfl) (AllOK.cons (Zl4 k) AllOK.nil))
noncomputable def Z6P : Code := (findCut 28 Z1u).getD .skip
theorem Zmx (k : Nat) (i : Z1h.inp.D) : Z1h.lp k i = exec Zj k Z6P (Z1h.inp.st Zj.n i) (outK Zj Z1h) (fun _ _ => none) Z1h.mkB := by kernel_rfl
theorem Zle (k : Nat) : EOK Tryz.prog Zj k Z1h.E Z6P := Zfy (D := Z1h) T_ok (Z2r k) (Zmx k) (@LOK.by _ _ _ _ Z6P [(Z3Z.E, .block 2 (.loop Z7S)), (Z1j.E, Z6D)] (by kernel_rfl) (AllOK.cons (Zng k) (AllOK.cons (Zl1 k) AllOK.nil)))
noncomputable def Z6C : Code := (findCut 14 Z1u).getD .skip
theorem Zn7 (k : Nat) (i : Z1l.inp.D) : Z1l.lp k i = exec Zj k Z6C (Z1l.inp.st Zj.n i) (outK Zj Z1l) (fun _ _ => none) Z1l.mkB := by kernel_rfl
theorem Zlg (k : Nat) : EOK Tryz.prog Zj k Z1l.E Z6C := Zfy (D := Z1l) T_ok (Z2r k) (Zn7 k) (@LOK.by _ _ _ _ Z6C [(Z3S.E, .block 0 (.loop Z85)), (Z1h.E, Z6P)] (by kernel_rfl) (AllOK.cons (ZnZ k) (AllOK.cons (Zle k) AllOK.nil)))
noncomputable def Z6I : Code := (findCut 10 Z1u).getD .skip
theorem Zmq (k : Nat) (i : Z1i.inp.D) : Z1i.lp k i = exec Zj k Z6I (Z1i.inp.st Zj.n i) (outK Zj Z1i) (fun _ _ => none) Z1i.mkB := by kernel_rfl
theorem Zlq (k : Nat) : EOK Tryz.prog Zj k Z1i.E Z6I := Zfy (D := Z1i) T_ok (Z2r k) (Zmq k) (@LOK.by _ _ _ _ Z6I [(Z1l.E, Z6C)] (by kernel_rfl) (AllOK.cons (Zlg k) AllOK.nil))
noncomputable def Z7q : Code := (findCut 6 Z1u).getD .skip
theorem Zob (k : Nat) (i : Z1p.inp.D) : Z1p.lp k i = exec Zj k Z7q (Z1p.inp.st Zj.n i) (outK Zj Z1p) (fun _ _ => none) Z1p.mkB := by kernel_rfl
theorem ZmA (k : Nat) : EOK Tryz.prog Zj k Z1p.E Z7q := Zfy (D := Z1p) T_ok (Z2r k) (Zob k) (@LOK.by _ _ _ _ Z7q [(Z1i.E, Z6I)] (by kernel_rfl) (AllOK.cons (Zlq k) AllOK.nil))
theorem Zvb (k : Nat) (x : Tup Z2m.ps) : Z2m.f (k + 1) x = fnK Z2m Zj Z1u k x := by kernel_rfl
theorem ZuC (x : Tup Z2m.ps) : Z2m.f 0 x = none := by kernel_rfl
theorem ZuO (k : Nat) : LOK Tryz.prog Zj k Z1u := LOK.by [(Z1p.E, Z7q)] (by kernel_rfl) (AllOK.cons (ZmA k) AllOK.nil)
theorem ZuE (k : Nat) : SoundAt Tryz.prog k 3 Z2m.E := @Zk Tryz.prog Z2m Zj 3 Tryz.f3 Z1u (by kernel_rfl) (by kernel_rfl) (by kernel_rfl) Tryz.func3 (by kernel_rfl) (by kernel_rfl) (by kernel_rfl) T_ok Z2r ZuO ZuC Zvb k
end
end Go.Proofs.YtglkedenkcpcbaaGreatDoor.Vs

set_option linter.unusedVariables false
set_option linter.unusedSimpArgs false
namespace Go.Proofs.YtglkedenkcpcbaaGreatDoor.Vs
open Go.RowKit
theorem ZGA (p q : List Int) : ∃ v, Ev (fun k => ZfE k p q) v := by
 cases h : gtS (p.length : Int) 1048576 with
 | true => exact ⟨true, Ev.succ (by simp only [ZfE, h, if_true]; exact Ev.some _)⟩
 | false => exact ⟨_, Ev.succ (by simp only [ZfE, h, Bool.false_eq_true, if_false]; exact Ev.some _)⟩
theorem ZsQ (x : Int) : ∀ (r pre : List Int), (pre ++ r).length ≤ 1000000 → Ev (fun k => Zax k x (pre ++ r) ((pre ++ r).length : Int) (pre.length : Int)) (if x ∈ r then LR.ret true else LR.go ())
 | [], pre, hl => by
  refine Ev.succ ?_
  simp only [Zax, ZC, decide_false, Bool.false_eq_true, if_false, List.not_mem_nil]
  exact Ev.some _
 | y :: r, pre, hl => by
  have ih := ZsQ x r (pre ++ [y]) (by simpa using hl)
  refine Ev.succ ?_
  simp only [Zax, ZA, ZN, decide_true, if_true, Int.toNat_natCast, Zs]
  rw [Zx pre y r (by omega)]
  rw [← Zm] at ih
  by_cases h : y = x
  ·simp only [h, decide_true, if_true, List.mem_cons, true_or]; exact Ev.some _
  ·have h' : ¬ x = y := fun e => h e.symm
   simp only [h, decide_false, Bool.false_eq_true, if_false]
   refine ih.congr ?_
   simp [h']
theorem ZGS (l : List Int) (x : Int) (hl : l.length ≤ 1000000) : Ev (fun k => Zj3 k l x) (decide (x ∈ l)) := by
 refine Ev.succ ?_
 simp only [Zj3]
 refine Ev.bind (ZsQ x l [] (by simpa using hl)) ?_
 by_cases h : x ∈ l
 ·rw [if_pos h, decide_eq_true h]; exact Ev.ret (Ev.some _)
 ·rw [if_neg h, decide_eq_false h]; exact Ev.go (Ev.some _)
theorem Zw5 (n : Nat → Int) : ∀ (d i : Nat) (b m : Int), m ≤ (bmR n d i b m).2 ∧ (∀ j : Nat, i ≤ j → j < i + d → n j ≤ (bmR n d i b m).2) ∧ ((bmR n d i b m = (b, m)) ∨ ∃ v : Nat, i ≤ v ∧ v < i + d ∧ (bmR n d i b m).1 = (v : Int) ∧ n v = (bmR n d i b m).2 ∧ m < n v ∧ ∀ j : Nat, i ≤ j → j < v → n j < n v)
 | 0, i, b, m => ⟨Int.le_refl _, fun j h1 h2 => by omega, .inl rfl⟩
 | d + 1, i, b, m => by
  simp only [bmR]
  by_cases h : n i > m
  ·rw [if_pos h]
   obtain ⟨h1, h2, h3⟩ := Zw5 n d (i + 1) (i : Int) (n i)
   refine ⟨by omega, fun j k1 k2 => ?_, .inr ?_⟩
   ·by_cases hj : j = i
    ·rw [hj]; exact h1
    ·exact h2 j (by omega) (by omega)
   ·rcases h3 with h3 | ⟨v, v1, v2, v3, v4, v5, v6⟩
    ·refine ⟨i, by omega, by omega, by rw [h3], by rw [h3], h, fun j k1 k2 => by omega⟩
    ·refine ⟨v, by omega, by omega, v3, v4, by omega, fun j k1 k2 => ?_⟩
     by_cases hj : j = i
     ·rw [hj]; omega
     ·exact v6 j (by omega) k2
  ·rw [if_neg h]
   obtain ⟨h1, h2, h3⟩ := Zw5 n d (i + 1) b m
   refine ⟨h1, fun j k1 k2 => ?_, ?_⟩
   ·by_cases hj : j = i
    ·rw [hj]; omega
    ·exact h2 j (by omega) (by omega)
   ·rcases h3 with h3 | ⟨v, v1, v2, v3, v4, v5, v6⟩
    ·exact .inl h3
    ·refine .inr ⟨v, by omega, by omega, v3, v4, v5, fun j k1 k2 => ?_⟩
     by_cases hj : j = i
     ·rw [hj]; omega
     ·exact v6 j (by omega) k2
theorem ZFN (acc : List FallD) (x : FallD) : acc.length ≤ (addE acc x).length ∧ 1 ≤ (addE acc x).length := by
 unfold addE
 split
 ·rename_i h
  have := List.length_pos_of_mem h
  exact ⟨Nat.le_refl _, this⟩
 ·simp
theorem ZCu (b : BoardD) (t : List Int) (c : Int) : ∀ (r : List FaultD) (acc : List FallD), acc.length ≤ (distE b t c r acc).length
 | [], acc => Nat.le_refl _
 | f :: r, acc => Nat.le_trans (ZFN acc _).1 (ZCu b t c r _)
theorem Zzh (b : BoardD) (t : List Int) (c : Int) {l : List FaultD} (h : ¬ l.length = 0) : 1 ≤ (distE b t c l []).length := by
 cases l with
 | nil => exact (h rfl).elim
 | cons f r => exact Nat.le_trans (ZFN [] _).2 (ZCu b t c r _)
theorem ZoL (b : BoardD) (hb : boardOK b = true) (t : List Int) (s : List FallD) (o5 o6 : List Int) (o7 : List FaultD) (v1 : List Int) (v10 : Bool) (v11 v12 : Int) (v24 : ByteArray) (v27 v29 : Bool) (h5 : o5.length ≤ 1000000) : ∀ (r pre : List FaultD) (v : ByteArray), (∀ f ∈ r, validF f ∧ inB b f ∧ placeOf b f ∈ o5) → v.size + 14 * r.length ≤ 1048576 → (pre ++ r).length ≤ 1000000 →
    Ev (fun k => Z4p k b.1 b.2.1 b.2.2 t s o5 o6 o7 (pre ++ r) v1 v10 v11 v12 v24 v27 v29 v ((pre ++ r).length : Int) (pre.length : Int)) (LR.go (b.1, b.2.1, b.2.2, t, s, o5, o6, o7, pre ++ r, v1, v10, v11, v12, v24, v27, v29, textG r v))
  | [], pre, v, hr, hs, hl => by
    refine Ev.succ ?_
    simp only [Z4p, ZC, decide_false, Bool.false_eq_true, if_false, textG]
    exact Ev.some _
  | f :: r, pre, v, hr, hs, hl => by
    obtain ⟨hf, hi, hm⟩ := hr f (List.mem_cons_self ..)
    have h1 := Zp9 f
    have hn : nlS.size = 1 := rfl
    simp only [List.length_cons] at hs
    have ih := ZoL b hb t s o5 o6 o7 v1 v10 v11 v12 v24 v27 v29 h5 r (pre ++ [f]) (v ++ (nameF f ++ nlS)) (fun g hg => hr g (List.mem_cons_of_mem _ hg)) (by rw [Z2R, Z2R, hn]; omega) (by simpa using hl)
    obtain ⟨i1, i2, i3, i4, i5⟩ := hi
    have w1 : wrap64 (wrap64 (f.2.1 * b.2.1) + f.2.2) = placeOf b f := by
      rw [w64 (n := f.2.1 * b.2.1) (by omega) (by omega), show f.2.1 * b.2.1 + f.2.2 = placeOf b f from rfl, w64 (by omega) (by omega)]
    refine Ev.succ ?_
    simp only [Z4p, ZA, ZN, decide_true, if_true, Int.toNat_natCast, Zs, w1, textG]
    rw [Zx pre f r (by omega)]
    rw [← Zm] at ih
    refine Ev.bind (ZkE f hf) ?_
    simp only [Bool.not_true, Bool.false_eq_true, if_false]
    refine Ev.bind (ZGS o5 _ h5) ?_
    simp only [hm, decide_true, Bool.not_true, Bool.false_eq_true, if_false]
    refine Ev.ite (fun _ => ?_) (fun h => (h (by show (nameF f).size + 1 ≤ _; omega)).elim)
    refine Ev.ite (fun _ => ?_) (fun h => (h (by show v.size + (nameF f ++ nlS).size ≤ _; rw [Z2R, hn]; omega)).elim)
    exact ih
theorem Zop (b : BoardD) (hb : boardOK b = true) (t : List Int) (s : List FallD) (hl1 : b.2.2.length ≤ 1000) (hl2 : t.length ≤ 1000) (hl3 : s.length ≤ 1000) (hok : seenOK b t s = true) (hne : ¬ (singlesOf b t s).length = 0) (p1 : List Int) (v : Nat) (M : Int)
    (hM : M = ((distE b t (v : Int) (singlesOf b t s) []).length : Int)) (hle : ∀ j : Nat, (j : Int) < b.2.1 → ((distE b t (j : Int) (singlesOf b t s) []).length : Int) ≤ M) (hlt : ∀ j : Nat, j < v → ((distE b t (j : Int) (singlesOf b t s) []).length : Int) < M) : ∀ (d j : Nat), ((j + d : Nat) : Int) = b.2.1 →
    Ev (fun k => Z1f k b.1 b.2.1 b.2.2 t s p1 (v : Int) M (j : Int)) (LR.go p1)
  | 0, j, h => by
    refine Ev.succ ?_
    have hn : ¬ (j : Int) < b.2.1 := by omega
    simp only [Z1f, hn, decide_false, Bool.false_eq_true, if_false]
    exact Ev.some _
  | d + 1, j, h => by
    refine Ev.succ ?_
    have hcol := (ZP hb).2.2.2.1
    have hj : (j : Int) < b.2.1 := by omega
    have w : wrap64 ((j : Int) + 1) = ((j + 1 : Nat) : Int) := by rw [w64 (by omega) (by omega)]; omega
    have ih := Zop b hb t s hl1 hl2 hl3 hok hne p1 v M hM hle hlt d (j + 1) (by omega)
    have e := Zgj b t s (j : Int) (by omega) (by omega) (by omega)
    unfold ZaE at e
    have hc : (0 : Int) ≤ (j : Int) ∧ (j : Int) < b.2.1 := ⟨by omega, hj⟩
    simp only [hok, hc, and_self, hne, if_true, if_false] at e
    have q1 := Zzh b t (j : Int) hne
    have q2 := hle j hj
    have n1 : ¬ ((distE b t (j : Int) (singlesOf b t s) []).length : Int) < 1 := by omega
    have n2 : ¬ ((distE b t (j : Int) (singlesOf b t s) []).length : Int) > M := by omega
    simp only [Z1f, hj, decide_true, if_true, w]
    refine Ev.bind e ?_
    simp only [Bool.not_true, Bool.false_eq_true, if_false, n1, n2, decide_false, decide_eq_true_eq]
    have tail : Ev (fun k => if (j : Int) = (v : Int) then if ((distE b t (j : Int) (singlesOf b t s) []).length : Int) ≠ M then some (LR.ret false) else Z1f k b.1 b.2.1 b.2.2 t s p1 (v : Int) M ((j + 1 : Nat) : Int) else Z1f k b.1 b.2.1 b.2.2 t s p1 (v : Int) M ((j + 1 : Nat) : Int)) (LR.go p1) := by
      refine Ev.ite (fun h2 => Ev.ite (fun h3 => ?_) (fun _ => ih)) (fun _ => ih)
      exact (h3 (by rw [h2]; exact hM.symm)).elim
    refine Ev.ite (fun h1 => Ev.ite (fun h2 => ?_) (fun _ => tail)) (fun _ => tail)
    have := hlt j (by omega)
    omega
theorem Zwl (p1 : List Int) (c1 : Cur p1 0 6000) : Ev (fun k => Z54 k p1) true := by
 obtain ⟨⟨u, v, w, c⟩, e0, g1, g2, g3⟩ := ZsY p1 c1
 simp only at g1 g2 g3
 simp only [Z54]
 refine Ev.bind e0 (Ev.bind (Zgj u v w c (by omega) (by omega) (by omega)) (Ev.bind (Zs0 u v w c (by omega) (by omega) (by omega)) (Ev.bind (a := true) ?_ (Ev.some _))))
 simp only [Zas, beq_self_eq_true, if_true, decide_true]
 exact Ev.some _
theorem Zx7 (b : BoardD) (t : List Int) (s : List FallD) (hl1 : b.2.2.length ≤ 1000) (hl2 : t.length ≤ 1000) (hl3 : s.length ≤ 1000) (p1 : List Int) (c1 : Cur p1 0 6000) : Ev (fun k => Z4V k b.1 b.2.1 b.2.2 t s (Zq b t s).1 (Z2X b t s).1 p1 (Zu b t s).2.2 (Zu b t s).1 (Zu b t s).2.1) true := by
 have h37 := Zwl p1 c1
 simp only [Z4V]
 unfold Zq Z2X Zu
 cases hok : seenOK b t s with
 | false => simp only [Bool.false_eq_true, if_false]; exact Ev.bind h37 (Ev.some _)
 | true =>
  obtain ⟨hb, h24, ht, hc, hs⟩ := Z6l hok
  by_cases hne : (singlesOf b t s).length = 0
  ·simp only [hne, if_true, Bool.false_eq_true, if_false]; exact Ev.bind h37 (Ev.some _)
  ·simp only [hne, if_true, if_false]
   have hcol := (ZP hb).2.2
   have hboth := ZDm (hasAt b (singlesOf b t s)) b.2.2.length 0
   have hsum : addS ((idxFrom (hasAt b (singlesOf b t s)) 0 b.2.2.length).length : Int) ((idxFrom (fun j => !hasAt b (singlesOf b t s) j) 0 b.2.2.length).length : Int) = (b.2.2.length : Int) := by
    rw [ZFI, w64 (by omega) (by omega)]
    omega
   simp only [hsum, ne_eq, not_true_eq_false, decide_false, Bool.false_eq_true, if_false]
   obtain ⟨m1, m2, m3⟩ := Zw5 (fun j => ((distE b t (j : Int) (singlesOf b t s) []).length : Int)) b.2.1.toNat 0 0 0
   have hcols : 1 ≤ b.2.1 := hcol.1
   rcases m3 with m3 | ⟨v, v1, v2, v3, v4, v5, v6⟩
   ·exfalso
    have := m2 0 (Nat.le_refl _) (by omega)
    rw [m3] at this
    have := Zzh b t ((0 : Nat) : Int) hne
    simp only at *
    omega
   ·have h2 := Zop b hb t s hl1 hl2 hl3 hok hne p1 v (bmR (fun j => ((distE b t (j : Int) (singlesOf b t s) []).length : Int)) b.2.1.toNat 0 0 0).2 v4.symm (fun j hj => m2 j (Nat.zero_le _) (by omega)) (fun j hj => by rw [← v4]; exact v6 j (Nat.zero_le _) hj) b.2.1.toNat 0 (by omega)
    rw [v3]
    exact Ev.bind h2 (Ev.go (Ev.bind h37 (Ev.some _)))
theorem Zwk (b : BoardD) (t : List Int) (s : List FallD) (hl1 : b.2.2.length ≤ 1000) (hl2 : t.length ≤ 1000) (hl3 : s.length ≤ 1000) (p1 : List Int) (c1 : Cur p1 0 6000) : Ev (fun k => Z4W k b.1 b.2.1 b.2.2 t s (Zq b t s).1 (Z2X b t s).1 p1 (Zu b t s).2.2 (Zu b t s).1 (Zu b t s).2.1 (Zq b t s).2 (Z4E b t s).1) true := by
 have h28 := Zx7 b t s hl1 hl2 hl3 p1 c1
 simp only [Z4W]
 cases hok : seenOK b t s with
 | false =>
  have e1 : (Zq b t s).2 = false := by unfold Zq; rw [hok]; rfl
  rw [e1]
  simp only [Bool.false_eq_true, if_false]
  exact Ev.bind h28 (Ev.some _)
 | true =>
  obtain ⟨hb, h24, ht, hc, hs⟩ := Z6l hok
  have e1 : (Zq b t s).2 = true := by unfold Zq; rw [hok]; rfl
  have e2 : (Zq b t s).1 = idxFrom (hasAt b (singlesOf b t s)) 0 b.2.2.length := by unfold Zq; rw [hok]; rfl
  have e3 : Z8g b t s = (singlesOf b t s, true) := by unfold Z8g; rw [hok]; rfl
  have e4 : (Z4E b t s).1 = textG (singlesOf b t s) (ByteArray.mk #[]) := by unfold Z4E; rw [hok]; rfl
  have ei := Zsf b t s (by omega) (by omega) (by omega)
  have es := Zra b t s (by omega) (by omega) (by omega)
  rw [e3] at ei es
  rw [e1]
  simp only [if_true]
  refine Ev.bind ei (Ev.bind es ?_)
  have hcount := Ze4 hb t s
  have hlen := ZbR (hasAt b (singlesOf b t s)) b.2.2.length 0
  have h0 := ZoL b hb t s (Zq b t s).1 (Z2X b t s).1 (singlesOf b t s) p1 (Zu b t s).2.2 (Zu b t s).1 (Zu b t s).2.1 (Z4E b t s).1 true true (by rw [e2]; omega) (singlesOf b t s) [] (ByteArray.mk #[]) (fun f hf => by
   have hi := Zdf hb t s f hf
   refine ⟨Zi6 hb hf, hi, ?_⟩
   rw [e2]
   have h7 := (Zhc (hasAt b (singlesOf b t s)) b.2.2.length 0 (placeOf b f).toNat (Nat.zero_le _) (by have h3 := hi.2.2.1; have h4 := hi.2.2.2.1; omega)).2 (by
    unfold hasAt
    rw [List.any_eq_true]
    exact ⟨f, hf, by have := hi.2.2.1; simp only [decide_eq_true_eq]; omega⟩)
   have h8 : (((placeOf b f).toNat : Nat) : Int) = placeOf b f := by have := hi.2.2.1; omega
   rw [h8] at h7
   exact h7) (by show 0 + _ ≤ _; omega) (by rw [List.nil_append]; omega)
  simp only [List.nil_append, List.length_nil, Int.natCast_zero] at h0
  refine Ev.bind h0 (Ev.go ?_)
  simp only [Bool.not_true, Bool.false_eq_true, if_false]
  refine Ev.bind (ZsG _ _ (by omega)) ?_
  have hle := ZvK b (singlesOf b t s) b.2.2.length
  have hn : ¬ (((Zq b t s).1.length : Int) > ((singlesOf b t s).length : Int)) := by rw [e2]; omega
  simp only [decide_true, Bool.not_true, Bool.false_eq_true, if_false, e4, beq_self_eq_true, hn, decide_false]
  exact Ev.bind h28 (Ev.some _)
theorem ZzM (p0 p1 : List Int) (h0 : p0.length ≤ 9223372036854775807) (b0 : ∀ x ∈ p0, 0 ≤ x ∧ x ≤ 255) (h1 : p1.length ≤ 9223372036854775807) (b1 : ∀ x ∈ p1, 0 ≤ x ∧ x ≤ 255) : Ev (fun k => Zdu k p0 p1) true := by
 have c0 : Cur p0 0 6000 := ⟨b0, h0, by omega, by omega⟩
 have c1 : Cur p1 0 6000 := ⟨b1, h1, by omega, by omega⟩
 obtain ⟨v, hv⟩ := ZGA p0 p1
 refine Ev.succ ?_
 simp only [Zdu]
 refine Ev.bind hv ?_
 refine Ev.ite (fun _ => Ev.some _) (fun _ => ?_)
 obtain ⟨⟨b, t, s⟩, e0, g1, g2, g3⟩ := Zps p0 c0
 simp only at g1 g2 g3
 have h14 := Zwk b t s (by omega) (by omega) (by omega) p1 c1
 refine Ev.bind e0 (Ev.bind (ZnW b t s (by omega) (by omega) (by omega)) (Ev.bind (Zo0 b t s (by omega) (by omega) (by omega)) (Ev.bind (a := true) ?_ (Ev.some _))))
 simp only [Zbs]
 refine Ev.bind (Zr8 b t s (by omega) (by omega) (by omega)) (Ev.bind (Zr1 b t s (by omega) (by omega) (by omega)) (Ev.bind (ZuP b t s (by omega) (by omega) (by omega)) (Ev.bind (Zv9 b t s (by omega) (by omega) (by omega)) (Ev.bind (a := true) ?_ (Ev.some _)))))
 simp only [ZaA]
 refine Ev.bind (Zun b t s (by omega) (by omega) (by omega)) (Ev.bind (Zvs b t s (by omega) (by omega) (by omega)) ?_)
 have hs1 : (Zq b t s).1.length ≤ 1000000 := by
  unfold Zq
  split
  ·have := ZbR (hasAt b (singlesOf b t s)) b.2.2.length 0
   show (idxFrom _ 0 _).length ≤ _
   omega
  ·simp
 have hs2 : (Z2X b t s).1.length ≤ 1000000 := by
  unfold Z2X
  split
  ·split
   ·simp
   ·have := ZbR (fun j => !hasAt b (singlesOf b t s) j) b.2.2.length 0
    show (idxFrom _ 0 _).length ≤ _
    omega
  ·simp
 have q1 : (Z4E b t s).2 = (Zq b t s).2 := by unfold Z4E Zq; split <;> rfl
 have q2 : (Z2X b t s).2 = (Zu b t s).2.2 := by
  unfold Z2X Zu
  split
  ·split <;> rfl
  ·rfl
 simp only [beq_self_eq_true, Bool.not_true, Bool.false_eq_true, if_false, ne_eq, not_true_eq_false, decide_false]
 refine Ev.bind (ZlS _ _ hs1) ?_
 simp only [decide_true, Bool.not_true, Bool.false_eq_true, if_false]
 refine Ev.bind (ZlS _ _ hs2) ?_
 simp only [decide_true, Bool.not_true, Bool.false_eq_true, if_false, q1, q2, beq_self_eq_true]
 have hfin := h14
 cases hok : seenOK b t s with
 | false =>
  have e1 : (Zq b t s).2 = false := by unfold Zq; rw [hok]; rfl
  have e2 : (Zu b t s).2.2 = false := by unfold Zu; rw [hok]; rfl
  rw [e1, e2] at hfin
  simp only [e1, e2, Bool.false_eq_true, if_false, beq_self_eq_true, Bool.not_true]
  exact Ev.bind hfin (Ev.some _)
 | true =>
  obtain ⟨hb, h24, ht, hc, hs⟩ := Z6l hok
  have e1 : (Zq b t s).2 = true := by unfold Zq; rw [hok]; rfl
  have e2 : (Zu b t s).2.2 = decide (((Zq b t s).1.length : Int) > 0) := by
   have hz := Zqz (Zdf hb t s)
   unfold Zu Zq
   simp only [hok, if_true]
   by_cases hne : (singlesOf b t s).length = 0
   ·have := hz.2 hne
    simp only [hne, if_true]
    rw [eq_comm, decide_eq_false_iff_not]
    omega
   ·have : ¬ (idxFrom (hasAt b (singlesOf b t s)) 0 b.2.2.length).length = 0 := fun h => hne (hz.1 h)
    simp only [hne, if_false]
    rw [eq_comm, decide_eq_true_eq]
    omega
  rw [e1] at hfin
  simp only [e1, if_true, ← e2, beq_self_eq_true, Bool.not_true, Bool.false_eq_true, if_false]
  exact Ev.bind hfin (Ev.some _)
end Go.Proofs.YtglkedenkcpcbaaGreatDoor.Vs
