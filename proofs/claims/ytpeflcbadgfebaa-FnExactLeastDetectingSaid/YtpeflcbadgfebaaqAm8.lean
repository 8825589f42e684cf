/- The proof, part 9. -/
import Derived.Test.YtpeflcbadgfebaaqAm7
set_option linter.unusedVariables false
set_option linter.unusedSimpArgs false
namespace Go.Proofs.Ytpeflcbadgfebaa.Vs
open Go.RowKit
theorem Zgu (b : BoardD) (hb : boardOK b = true) : ∀ (r pre : List (List Int)), (∀ x ∈ r, x.length ≤ 9223372036854775806) → (pre ++ r).length ≤ 9223372036854775806 → Ev (fun k => Z4m k b.1 b.2.1 b.2.2 (pre ++ r) ((pre ++ r).length : Int) (pre.length : Int)) (if r.all (testOK b) then LR.go () else LR.ret false)
 | [], pre, hx, hl => by
  refine Ev.succ ?_
  simp only [Z4m, Z7, decide_false, Bool.false_eq_true, if_false, List.all_nil, if_true]
  exact Ev.some _
 | x :: r, pre, hx, hl => by
  obtain ⟨g1, g2, g3, g4, g5, g6⟩ := ZL hb
  have hp := Zw g1 g2 g3 g4
  have ih := Zgu b hb r (pre ++ [x]) (fun y hy => hx y (List.mem_cons_of_mem _ hy)) (by simpa using hl)
  refine Ev.succ ?_
  simp only [Z4m, Z5, Za, decide_true, if_true, Int.toNat_natCast, Z4]
  rw [Z6 pre x r (by omega)]
  rw [← Z0] at ih
  refine Ev.ite (fun h => ?_) (fun h => ?_)
  ·simp only [decide_eq_true_eq] at h
   have : ¬ x.length ≤ 8 := by omega
   simp only [List.all_cons, testOK, this, decide_false, Bool.false_and, Bool.false_eq_true, if_false]; exact Ev.some _
  simp only [decide_eq_true_eq] at h
  have h8 : x.length ≤ 8 := by omega
  have h60 : x.length ≤ 60 := by omega
  refine Ev.bind (Zpu b x (by omega) (hx x (List.mem_cons_self ..))) ?_
  simp only [hb, h60, decide_true, Bool.true_and]
  have ht : testOK b x = x.all (fun c => decide (0 ≤ c ∧ c < b.2.1)) := by simp only [testOK, h8, decide_true, Bool.true_and]
  rw [List.all_cons, ht]
  cases hxx : x.all (fun c => decide (0 ≤ c ∧ c < b.2.1)) with
  | true => simp only [Bool.not_true, Bool.false_eq_true, if_false, Bool.true_and]; exact ih
  | false => simp only [Bool.not_false, if_true, Bool.false_and, Bool.false_eq_true, if_false]; exact Ev.some _
theorem Zhs (b : BoardD) (hb : boardOK b = true) (w : List (List Int)) : ∀ (r pre : List (List Int)), (∀ x ∈ r, x.length ≤ 9223372036854775806) → (pre ++ r).length ≤ 9223372036854775806 → Ev (fun k => Z54 k b.1 b.2.1 b.2.2 w (pre ++ r) ((pre ++ r).length : Int) (pre.length : Int)) (if r.all (testOK b) then LR.go w else LR.ret false)
 | [], pre, hx, hl => by
  refine Ev.succ ?_
  simp only [Z54, Z7, decide_false, Bool.false_eq_true, if_false, List.all_nil, if_true]
  exact Ev.some _
 | x :: r, pre, hx, hl => by
  obtain ⟨g1, g2, g3, g4, g5, g6⟩ := ZL hb
  have ih := Zhs b hb w r (pre ++ [x]) (fun y hy => hx y (List.mem_cons_of_mem _ hy)) (by simpa using hl)
  refine Ev.succ ?_
  simp only [Z54, Z5, Za, decide_true, if_true, Int.toNat_natCast, Z4]
  rw [Z6 pre x r (by omega), w64 (n := b.2.1 - 1) (by omega) (by omega)]
  rw [← Z0] at ih
  refine Ev.ite (fun h => ?_) (fun h => ?_)
  ·simp only [decide_eq_true_eq] at h
   have : ¬ x.length ≤ 8 := by omega
   simp only [List.all_cons, testOK, this, decide_false, Bool.false_and, Bool.false_eq_true, if_false]; exact Ev.some _
  simp only [decide_eq_true_eq] at h
  have h8 : x.length ≤ 8 := by omega
  refine Ev.bind (ZA2 x 0 (b.2.1 - 1) (hx x (List.mem_cons_self ..))) ?_
  have hfun : (fun n : Int => decide (0 ≤ n ∧ n ≤ b.2.1 - 1)) = fun c => decide (0 ≤ c ∧ c < b.2.1) := by
   funext c
   apply decide_eq_decide.2
   omega
  rw [hfun]
  have ht : testOK b x = x.all (fun c => decide (0 ≤ c ∧ c < b.2.1)) := by simp only [testOK, h8, decide_true, Bool.true_and]
  rw [List.all_cons, ht]
  cases hxx : x.all (fun c => decide (0 ≤ c ∧ c < b.2.1)) with
  | true => simp only [Bool.not_true, Bool.false_eq_true, if_false, Bool.true_and]; exact ih
  | false => simp only [Bool.not_false, if_true, Bool.false_and, Bool.false_eq_true, if_false]; exact Ev.some _
def smallB (b : BoardD) : Bool := boardOK b && decide (b.2.2.length ≤ 30)
def testsOK (b : BoardD) (l : List (List Int)) : Bool := decide (l.length ≤ 10) && l.all (testOK b)
theorem Zjy (b : BoardD) (l : List (List Int)) (hb : b.2.2.length ≤ 9223372036854775806) (hl : l.length ≤ 9223372036854775806) (hx : ∀ x ∈ l, x.length ≤ 9223372036854775806) : Ev (fun k => Z7Z k b l) (smallB b && testsOK b l) := by
 refine Ev.succ ?_
 simp only [Z7Z]
 refine Ev.bind (Zlm b hb) ?_
 cases hbo : boardOK b with
 | false => simp only [Bool.not_false, if_true, smallB, hbo, Bool.false_and]; exact Ev.some _
 | true =>
  simp only [Bool.not_true, Bool.false_eq_true, if_false, smallB, hbo, Bool.true_and]
  refine Ev.ite (fun h => Ev.of ?_) (fun h => Ev.ite (fun h2 => Ev.of ?_) (fun h2 => ?_))
  ·simp only [decide_eq_true_eq] at h
   have : ¬ b.2.2.length ≤ 30 := by omega
   simp [this]
  ·simp only [decide_eq_true_eq] at h2
   have : ¬ l.length ≤ 10 := by omega
   simp [testsOK, this]
  ·simp only [decide_eq_true_eq] at h h2
   have h3 : b.2.2.length ≤ 30 := by omega
   have h4 : l.length ≤ 10 := by omega
   refine Ev.bind (Zgu b hbo l [] hx (by simpa using hl)) ?_
   simp only [h3, testsOK, h4, decide_true, Bool.true_and]
   cases hy : l.all (testOK b) with
   | true => simp only [if_true]; exact Ev.go (Ev.some _)
   | false => simp only [Bool.false_eq_true, if_false]; exact Ev.ret (Ev.some _)
theorem Zzk (b : BoardD) (hb : b.2.2.length ≤ 9223372036854775806) : Ev (fun k => Zcs k b) (smallB b) := by
 refine Ev.succ ?_
 simp only [Zcs]
 refine Ev.bind (Zyi b hb) ?_
 cases hbo : boardOK b with
 | false => simp only [Bool.false_eq_true, if_false, smallB, hbo, Bool.false_and]; exact Ev.some _
 | true =>
  simp only [if_true, smallB, hbo, Bool.true_and]
  refine Ev.of ?_
  congr 1
  apply decide_eq_decide.2
  omega
theorem Zxe (b : BoardD) (hbo : boardOK b = true) (l : List (List Int)) (hl : l.length ≤ 9223372036854775806) (hx : ∀ x ∈ l, x.length ≤ 9223372036854775806) : Ev (fun k => Zbd k b l) (testsOK b l) := by
 refine Ev.succ ?_
 simp only [Zbd]
 refine Ev.bind (Zhs b hbo l l [] hx (by simpa using hl)) ?_
 cases hy : l.all (testOK b) with
 | true =>
  simp only [if_true, testsOK, hy, Bool.and_true]
  refine Ev.go (Ev.of ?_)
  congr 1
  apply decide_eq_decide.2
  omega
 | false => simp only [Bool.false_eq_true, if_false, testsOK, hy, Bool.and_false]; exact Ev.ret (Ev.some _)
end Go.Proofs.Ytpeflcbadgfebaa.Vs

set_option linter.unusedVariables false
set_option linter.unusedSimpArgs false
namespace Go.Proofs.Ytpeflcbadgfebaa.Vs
open Go.RowKit
end Go.Proofs.Ytpeflcbadgfebaa.Vs

set_option linter.unusedVariables false
set_option linter.unusedSimpArgs false
namespace Go.Proofs.Ytpeflcbadgfebaa.Vs
open Go.RowKit
end Go.Proofs.Ytpeflcbadgfebaa.Vs

set_option linter.unusedVariables false
set_option linter.unusedSimpArgs false
namespace Go.Proofs.Ytpeflcbadgfebaa.Vs
open Go.RowKit
def marksIntSS : List (List Int) → Int → List (List Int)
 | [], _ => []
 | x :: r, k => marksIntS x k :: marksIntSS r (k + 1 * x.length)
theorem Zfe : ∀ (r pre : List (List Int)) (c : Int), 0 ≤ c → c + 1 * szRows r ≤ 4611686018427387904 → (pre ++ r).length ≤ 4611686018427387904 → Ev (fun k => Z3u k (pre ++ r) c (pre.length : Int)) (pre ++ marksIntSS r c, c + 1 * szRows r)
 | [], pre, c, hc, h, hl => by
  refine Ev.succ ?_
  simp only [Z3u, Z7, decide_false, Bool.false_eq_true, if_false, marksIntSS, szRows, Int.mul_zero, Int.add_zero]
  exact Ev.some _
 | x :: r, pre, c, hc, h, hl => by
  have hz := Z7K r
  simp only [szRows] at h ⊢
  have h' : (c + 1 * (x.length : Int)) + 1 * szRows r = c + 1 * ((x.length : Int) + szRows r) := by omega
  have ih := Zfe r (pre ++ [marksIntS x c]) (c + 1 * x.length) (by omega) (by omega) (by simpa using hl)
  have hn := Z6 pre x r (by omega)
  have hn2 : ((pre ++ [x]).length : Int) = ((pre ++ [marksIntS x c]).length : Int) := by simp
  have hx := ZdP x c hc (by omega)
  refine Ev.succ ?_
  unfold Z3u
  refine Ev.ite (fun _ => Ev.ite (fun _ => Ev.ite (fun _ => ?_) (fun h => absurd (Z5 _ _ _) h)) (fun h => absurd (Za _) h)) (fun h => absurd (decide_eq_true (Z5 _ _ _)) h)
  refine Ev.bind (a := (List.getD (pre ++ x :: r) (Int.toNat (pre.length : Int)) [], c, ())) (Ev.of ((if_pos (c := (1 : Nat) = 1 ∧ (pre.length : Int) = pre.length) ⟨rfl, rfl⟩).trans rfl)) ?_
  simp only [Int.toNat_natCast, Z4]
  refine Ev.bind hx ?_
  simp only [Z8Q, hn]
  rw [← Z0, h'] at ih
  rw [hn2]
  refine ih.congr ?_
  simp [marksIntSS]
theorem ZhZ (l : List (List Int)) (c : Int) (hc : 0 ≤ c) (h : c + 1 * szRows l ≤ 4611686018427387904) (hl : l.length ≤ 4611686018427387904) : Ev (fun k => Z9n k l c) (c + 1 * szRows l, marksIntSS l c) :=
 Ev.succ (Ev.bind (Zfe l [] c hc h (by simpa using hl)) (Ev.some _))
end Go.Proofs.Ytpeflcbadgfebaa.Vs

set_option linter.unusedVariables false
set_option linter.unusedSimpArgs false
namespace Go.Proofs.Ytpeflcbadgfebaa.Vs
open Go.RowKit
theorem ZiT (b : BoardD) (hb : boardOK b = true) (l : List FaultD) (hl : faultsOK b (-1) l = true) (hll : l.length ≤ 9223372036854775806) : ∀ (r pre : List (List Int)) (acc : List (List FallD)), (∀ t ∈ r, t.length ≤ 1000 ∧ colsOK b t) → (pre ++ r).length ≤ 1000 → acc.length ≤ pre.length → Ev (fun k => Z68 k b.1 b.2.1 b.2.2 acc l (pre ++ r) ((pre ++ r).length : Int) (pre.length : Int)) (acc ++ r.map (endsOf b l))
 | [], pre, acc, ht, hln, ha => by
  refine Ev.succ ?_
  simp only [Z68, Z7, decide_false, Bool.false_eq_true, if_false]
  exact Ev.of (by simp)
 | t :: r, pre, acc, ht, hln, ha => by
  have ih := ZiT b hb l hl hll r (pre ++ [t]) (acc ++ [endsOf b l t]) (fun x hx => ht x (List.mem_cons_of_mem _ hx)) (by simpa using hln) (by simp; omega)
  rw [← Z0] at ih
  have hal : acc.length + 1 ≤ 140737488355328 / 24 := by simp at hln; omega
  refine Ev.succ ?_
  simp only [Z68, Z5, Za, decide_true, if_true, Int.toNat_natCast, Z4, List.length_singleton, hal]
  rw [Z6 pre t r (by omega)]
  obtain ⟨t1, t2⟩ := ht t (List.mem_cons_self ..)
  refine Ev.bind (ZAC b hb l hl hll t t1 t2) ?_
  refine ih.congr ?_
  simp
theorem ZnD (b : BoardD) (hb : boardOK b = true) (l : List FaultD) (hl : faultsOK b (-1) l = true) (hll : l.length ≤ 9223372036854775806) (T : List (List Int)) (hT : ∀ t ∈ T, t.length ≤ 1000 ∧ colsOK b t) (hn : T.length ≤ 1000) : Ev (fun k => Za3 k b l T) (T.map (endsOf b l)) := by
 refine Ev.succ ?_
 simp only [Za3]
 exact Ev.bind (ZiT b hb l hl hll T [] [] hT (by simpa using hn) (by simp)) (Ev.some _)
theorem ZgF (b : BoardD) (hb : boardOK b = true) (l : List FaultD) (hl : faultsOK b (-1) l = true) (hll : l.length ≤ 9223372036854775806) : ∀ (r pre : List (List Int)) (acc : List (List FallD)), (∀ t ∈ r, t.length ≤ 1000 ∧ colsOK b t) → (pre ++ r).length ≤ 1000 → acc.length ≤ pre.length → Ev (fun k => Z4k k b.1 b.2.1 b.2.2 acc l (pre ++ r) ((pre ++ r).length : Int) (pre.length : Int)) (acc ++ r.map (endsOf b l))
 | [], pre, acc, ht, hln, ha => by
  refine Ev.succ ?_
  simp only [Z4k, Z7, decide_false, Bool.false_eq_true, if_false]
  exact Ev.of (by simp)
 | t :: r, pre, acc, ht, hln, ha => by
  have ih := ZgF b hb l hl hll r (pre ++ [t]) (acc ++ [endsOf b l t]) (fun x hx => ht x (List.mem_cons_of_mem _ hx)) (by simpa using hln) (by simp; omega)
  rw [← Z0] at ih
  have hal : acc.length + 1 ≤ 140737488355328 / 24 := by simp at hln; omega
  refine Ev.succ ?_
  simp only [Z4k, Z5, Za, decide_true, if_true, Int.toNat_natCast, Z4, List.length_singleton, hal]
  rw [Z6 pre t r (by omega)]
  obtain ⟨t1, t2⟩ := ht t (List.mem_cons_self ..)
  refine Ev.bind (Zq1 b hb l hl hll t t1 t2) ?_
  refine ih.congr ?_
  simp
theorem Zjz (b : BoardD) (hb : boardOK b = true) (l : List FaultD) (hl : faultsOK b (-1) l = true) (hll : l.length ≤ 9223372036854775806) (T : List (List Int)) (hT : ∀ t ∈ T, t.length ≤ 1000 ∧ colsOK b t) (hn : T.length ≤ 1000) : Ev (fun k => Z7Q k b l T) (T.map (endsOf b l)) := by
 refine Ev.succ ?_
 simp only [Z7Q]
 exact Ev.bind (ZgF b hb l hl hll T [] [] hT (by simpa using hn) (by simp)) (Ev.some _)
theorem ZeL {b : BoardD} {T : List (List Int)} (h : (smallB b && testsOK b T) = true) : boardOK b = true ∧ T.length ≤ 10 ∧ ∀ t ∈ T, t.length ≤ 8 ∧ colsOK b t := by
 unfold smallB testsOK testOK at h
 simp only [Bool.and_eq_true, decide_eq_true_eq, List.all_eq_true] at h
 exact ⟨h.1.1, h.2.1, h.2.2⟩
theorem ZkI (b : BoardD) (T : List (List Int)) (hb : b.2.2.length ≤ 9223372036854775806) (hl : T.length ≤ 9223372036854775806) (hx : ∀ x ∈ T, x.length ≤ 9223372036854775806) : Ev (fun k => Z8U k b T) (smallB b && testsOK b T) := by
 refine Ev.succ ?_
 simp only [Z8U]
 refine Ev.bind (Zzk b hb) ?_
 cases h : smallB b with
 | false => simp only [Bool.false_eq_true, if_false, Bool.false_and]; exact Ev.some _
 | true =>
  have hbo : boardOK b = true := by unfold smallB at h; rw [Bool.and_eq_true] at h; exact h.1
  simp only [if_true, Bool.true_and]
  exact Ev.bind (Zxe b hbo T hl hx) (Ev.some _)
end Go.Proofs.Ytpeflcbadgfebaa.Vs

set_option linter.unusedVariables false
set_option linter.unusedSimpArgs false
namespace Go.Proofs.Ytpeflcbadgfebaa.Vs
open Go.RowKit
section
variable {α : Type} [DecidableEq α] (key : Nat → α)
def isFirst (k : Nat) : Bool := (List.range k).all fun i => decide (key i ≠ key k)
def firsts (n : Nat) : List Nat := (List.range n).filter (isFirst key)
def members (n f : Nat) : List Int := ((List.range n).filter fun j => decide (key j = key f)).map fun (j : Nat) => (j : Int) - 1
def classesL (n : Nat) : List (List Int) := (firsts key n).map (members key n)
theorem ZiS {n f : Nat} (h : f ∈ firsts key n) : f < n ∧ isFirst key f = true := by
 unfold firsts at h
 rw [List.mem_filter, List.mem_range] at h
 exact h
theorem ZdF {k i : Nat} (h : isFirst key k = true) (hi : i < k) : key i ≠ key k := by
 unfold isFirst at h
 rw [List.all_eq_true] at h
 exact of_decide_eq_true (h i (List.mem_range.2 hi))
theorem Zvt (n : Nat) : List.Pairwise (fun f g => key f ≠ key g) (firsts key n) := by
 have h1 : List.Pairwise (fun a b => a < b) (firsts key n) := List.Pairwise.filter _ List.pairwise_lt_range
 refine List.Pairwise.imp_of_mem (fun {f g} hf hg hlt => ?_) h1
 exact ZdF key (ZiS key hg).2 hlt
theorem Zt9 (n : Nat) : firsts key (n + 1) = firsts key n ++ (if isFirst key n then [n] else []) := by
 unfold firsts
 rw [List.range_succ, List.filter_append]
 congr 1
 cases h : isFirst key n <;> simp [List.filter, h]
theorem ZdX (n f : Nat) : members key (n + 1) f = members key n f ++ (if key n = key f then [(n : Int) - 1] else []) := by
 unfold members
 rw [List.range_succ, List.filter_append, List.map_append]
 congr 1
 by_cases h : key n = key f <;> simp [List.filter, h]
theorem ZC1 {n f : Nat} (h : f ∈ firsts key n) : ∃ r, members key n f = ((f : Int) - 1) :: r := by
 obtain ⟨h1, h2⟩ := ZiS key h
 induction n with
 | zero => omega
 | succ n ih =>
  rw [ZdX]
  by_cases hf : f < n
  ·have hm : f ∈ firsts key n := by unfold firsts; rw [List.mem_filter, List.mem_range]; exact ⟨hf, h2⟩
   obtain ⟨r, hr⟩ := ih hm hf
   exact ⟨_, by rw [hr]; rfl⟩
  ·have hfn : f = n := by omega
   subst hfn
   have : members key f f = [] := by
    unfold members
    rw [List.map_eq_nil_iff, List.filter_eq_nil_iff]
    intro j hj
    have := ZdF key h2 (List.mem_range.1 hj)
    simpa using this
   rw [this, if_pos rfl]
   exact ⟨[], rfl⟩
def placeIx (x : α) : List Nat → Nat
 | [] => 0
 | f :: r => if key f = x then 0 else placeIx x r + 1
theorem ZvT (x : α) : ∀ (F : List Nat), placeIx key x F ≤ F.length
 | [] => Nat.le_refl _
 | f :: r => by
  have := ZvT x r
  simp only [placeIx]
  split <;> simp
  omega
theorem Ztq {x : α} : ∀ {F : List Nat}, placeIx key x F = F.length → ∀ f ∈ F, key f ≠ x
 | [], _, f, hf => by cases hf
 | g :: r, h, f, hf => by
  simp only [placeIx] at h
  split at h
  ·simp at h
  ·rename_i hg
   rcases List.mem_cons.1 hf with rfl | hf
   ·exact hg
   ·exact Ztq (by simpa using h) f hf
theorem ZBF (m : Nat → List Int) (x : α) (y : Int) : ∀ (F : List Nat), List.Pairwise (fun f g => key f ≠ key g) F →
    F.map (fun f => m f ++ (if x = key f then [y] else [])) = if placeIx key x F < F.length then List.set (F.map m) (placeIx key x F) (List.getD (F.map m) (placeIx key x F) [] ++ [y]) else F.map m
  | [], _ => by simp
  | f :: F, hp => by
    obtain ⟨h1, h2⟩ := List.pairwise_cons.1 hp
    have ih := ZBF m x y F h2
    by_cases hf : key f = x
    · subst hf
      have h3 : F.map (fun g => m g ++ (if key f = key g then [y] else [])) = F.map m := List.map_congr_left (fun g hg => by rw [if_neg (h1 g hg), List.append_nil])
      simp only [List.map_cons, h3, placeIx, if_true, List.length_cons, Nat.zero_lt_succ, List.set_cons_zero, List.getD_cons_zero]
    · have hf' : ¬ x = key f := fun h => hf h.symm
      simp only [List.map_cons, placeIx, if_neg hf, if_neg hf', List.append_nil, ih, List.length_cons, Nat.add_lt_add_iff_right, List.set_cons_succ, List.getD_cons_succ]
      split <;> rfl
theorem ZBk {k : Nat} (h : placeIx key (key k) (firsts key k) < (firsts key k).length) : classesL key (k + 1) = List.set (classesL key k) (placeIx key (key k) (firsts key k)) (List.getD (classesL key k) (placeIx key (key k) (firsts key k)) [] ++ [(k : Int) - 1]) := by
 have hnf : isFirst key k = false := by
  cases hc : isFirst key k with
  | false => rfl
  | true =>
   exfalso
   have hall : ∀ f ∈ firsts key k, key f ≠ key k := fun f hf => ZdF key hc (ZiS key hf).1
   have : ∀ (F : List Nat), (∀ f ∈ F, key f ≠ key k) → placeIx key (key k) F = F.length := by
    intro F
    induction F with
    | nil => intro _; rfl
    | cons g r ih =>
     intro hF
     simp only [placeIx]
     rw [if_neg (hF g (List.mem_cons_self ..)), ih (fun f hf => hF f (List.mem_cons_of_mem _ hf))]
     rfl
   have := this _ hall
   omega
 unfold classesL
 rw [Zt9, hnf]
 simp only [Bool.false_eq_true, if_false, List.append_nil]
 rw [show members key (k + 1) = fun f => members key k f ++ (if key k = key f then [(k : Int) - 1] else []) from funext (ZdX key k)]
 rw [ZBF key _ _ _ _ (Zvt key k), if_pos h]
theorem ZBi {k : Nat} (h : placeIx key (key k) (firsts key k) = (firsts key k).length) : classesL key (k + 1) = classesL key k ++ [[(k : Int) - 1]] := by
 have hall := Ztq key h
 have hf : isFirst key k = true := by
  cases hc : isFirst key k with
  | true => rfl
  | false =>
   exfalso
   have : ∀ m, m < k → key m = key k → False := by
    intro m
    induction m using Nat.strongRecOn with
    | ind m ih =>
     intro hm hk
     by_cases hfm : isFirst key m = true
     ·refine hall m ?_ hk
      unfold firsts
      rw [List.mem_filter, List.mem_range]
      exact ⟨hm, hfm⟩
     ·unfold isFirst at hfm
      rw [List.all_eq_true] at hfm
      apply hfm
      intro i hi
      have hi := List.mem_range.1 hi
      refine decide_eq_true (fun he => ih i hi (by omega) (he.trans hk))
   unfold isFirst at hc
   rw [List.all_eq_false] at hc
   obtain ⟨i, hi, hd⟩ := hc
   exact this i (List.mem_range.1 hi) (by simpa using hd)
 unfold classesL
 rw [Zt9, hf]
 simp only [if_true, List.map_append, ZdX, List.map_cons, List.map_nil]
 have h1 : (firsts key k).map (fun f => members key k f ++ (if key k = key f then [(k : Int) - 1] else [])) = (firsts key k).map (members key k) :=
  List.map_congr_left (fun f hf => by rw [if_neg (fun he => hall f hf he.symm), List.append_nil])
 have h2 : members key k k = [] := by
  unfold members
  rw [List.map_eq_nil_iff, List.filter_eq_nil_iff]
  intro j hj
  have := ZdF key hf (List.mem_range.1 hj)
  simpa using this
 rw [(List.map_congr_left (fun f _ => ZdX key k f)).trans h1, h2]
 simp
def fstR (k : Nat) : Nat → Nat → Nat
 | 0, i => i
 | n + 1, i => if key i = key k then i else fstR k n (i + 1)
def fstOf (k : Nat) : Nat := fstR key k k 0
theorem ZwZ (k : Nat) : ∀ (n i : Nat), i + n = k → (∀ j, j < i → key j ≠ key k) → fstR key k n i ≤ k ∧ key (fstR key k n i) = key k ∧ ∀ j, j < fstR key k n i → key j ≠ key k
 | 0, i, h, hj => by
  have : i = k := by omega
  subst this
  exact ⟨Nat.le_refl _, rfl, hj⟩
 | n + 1, i, h, hj => by
  simp only [fstR]
  split
  ·rename_i hi
   exact ⟨by omega, hi, hj⟩
  ·rename_i hi
   exact ZwZ k n (i + 1) (by omega) (fun j hj2 => by
    rcases Nat.lt_or_eq_of_le (Nat.le_of_lt_succ hj2) with h3 | h3
    ·exact hj j h3
    ·rw [h3]; exact hi)
theorem Z96 {f j : Nat} : fstOf key j = f ↔ isFirst key f = true ∧ key j = key f := by
 obtain ⟨h1, h2, h3⟩ := ZwZ key j j 0 (by omega) (fun _ h => by omega)
 have hF : isFirst key (fstOf key j) = true := by
  unfold isFirst
  rw [List.all_eq_true]
  intro i hi
  exact decide_eq_true (by rw [show key (fstOf key j) = key j from h2]; exact h3 i (List.mem_range.1 hi))
 constructor
 ·rintro rfl
  exact ⟨hF, h2.symm⟩
 ·rintro ⟨g1, g2⟩
  rcases Nat.lt_trichotomy (fstOf key j) f with h | h | h
  ·exact (ZdF key g1 h (by rw [← g2]; exact h2)).elim
  ·exact h
  ·exact (h3 f h g2.symm).elim
theorem ZCJ (k : Nat) : fstOf key k ≤ k := (ZwZ key k k 0 (by omega) (fun _ h => by omega)).1
end
end Go.Proofs.Ytpeflcbadgfebaa.Vs

set_option linter.unusedVariables false
set_option linter.unusedSimpArgs false
namespace Go.Proofs.Ytpeflcbadgfebaa.Vs
open Go.RowKit
end Go.Proofs.Ytpeflcbadgfebaa.Vs

set_option linter.unusedVariables false
set_option linter.unusedSimpArgs false
namespace Go.Proofs.Ytpeflcbadgfebaa.Vs
open Go.RowKit
def putL : List Int → Int → List Int
 | [], n => [n]
 | x :: r, n => if x < n then x :: putL r n else if x = n then x :: r else n :: x :: r
def idxFrom (p : Nat → Bool) : Nat → Nat → List Int
 | _, 0 => []
 | k, n + 1 => if p k then (k : Int) :: idxFrom p (k + 1) n else idxFrom p (k + 1) n
theorem Zf9 (p : Nat → Bool) : ∀ (n k : Nat), (idxFrom p k n).length ≤ n
 | 0, k => by simp [idxFrom]
 | n + 1, k => by
  have := Zf9 p n (k + 1)
  simp only [idxFrom]
  split <;> simp <;> omega
theorem Z6g {p q : Nat → Bool} : ∀ (n k : Nat), (∀ i, k ≤ i → i < k + n → p i = q i) → idxFrom p k n = idxFrom q k n
 | 0, k, h => rfl
 | n + 1, k, h => by
  simp only [idxFrom, h k (Nat.le_refl _) (by omega), Z6g n (k + 1) (fun i h1 h2 => h i (by omega) (by omega))]
theorem Zqp : ∀ (n k : Nat), idxFrom (fun _ => false) k n = []
 | 0, k => rfl
 | n + 1, k => by simp only [idxFrom, Bool.false_eq_true, if_false, Zqp n (k + 1)]
theorem ZmS (p : Nat → Bool) : ∀ (n k : Nat) (x : Int), x ∈ idxFrom p k n → (k : Int) ≤ x ∧ x < (k + n : Nat)
 | 0, k, x, h => by simp [idxFrom] at h
 | n + 1, k, x, h => by
  simp only [idxFrom] at h
  split at h
  ·rcases List.mem_cons.1 h with rfl | h
   ·omega
   ·have := ZmS p n (k + 1) x h; omega
  ·have := ZmS p n (k + 1) x h; omega
theorem ZBX : ∀ (l : List Int) (n : Int), (∀ x ∈ l, n < x) → putL l n = n :: l
 | [], n, h => rfl
 | x :: r, n, h => by
  have := h x (List.mem_cons_self ..)
  simp only [putL]
  rw [if_neg (by omega), if_neg (by omega)]
theorem ZAg (p : Nat → Bool) (i : Nat) : ∀ (n k : Nat), k ≤ i → i < k + n → putL (idxFrom p k n) (i : Int) = idxFrom (fun j => p j || j == i) k n
 | 0, k, h1, h2 => by omega
 | n + 1, k, h1, h2 => by
  rcases Nat.lt_or_eq_of_le h1 with h | h
  ·have ih := ZAg p i n (k + 1) (by omega) (by omega)
   have hk : (k == i) = false := by simp; omega
   simp only [idxFrom, hk, Bool.or_false]
   split
   ·simp only [putL]
    rw [if_pos (by omega), ih]
   ·exact ih
  ·subst h
   have hc : idxFrom (fun j => p j || j == k) (k + 1) n = idxFrom p (k + 1) n := Z6g n (k + 1) (fun i h1 h2 => by
    have : (i == k) = false := by simp; omega
    rw [this, Bool.or_false])
   simp only [idxFrom, beq_self_eq_true, Bool.or_true, if_true, hc]
   split
   ·simp [putL]
   ·exact ZBX _ _ (fun x hx => by have := ZmS p n (k + 1) x hx; omega)
end Go.Proofs.Ytpeflcbadgfebaa.Vs

set_option linter.unusedVariables false
set_option linter.unusedSimpArgs false
namespace Go.Proofs.Ytpeflcbadgfebaa.Vs
open Go.RowKit
theorem ZvF : ∀ (l : List Int) (n : Int), ∃ t d, l = t ++ d ∧ (∀ x ∈ t, x < n) ∧ (∀ x s, d = x :: s → ¬ x < n) ∧ putL l n = t ++ putL d n
 | [], n => ⟨[], [], rfl, fun _ h => (by cases h), fun _ _ h => (by cases h), rfl⟩
 | y :: r, n => by
  by_cases hy : y < n
  ·obtain ⟨t, d, h1, h2, h3, h4⟩ := ZvF r n
   refine ⟨y :: t, d, by rw [h1]; rfl, fun x hx => ?_, h3, ?_⟩
   ·rcases List.mem_cons.1 hx with rfl | hx
    ·exact hy
    ·exact h2 x hx
   ·simp only [putL, if_pos hy, h4, List.cons_append]
  ·refine ⟨[], y :: r, rfl, fun _ h => (by cases h), fun x s h => ?_, rfl⟩
   injection h with h1 _
   rw [← h1]; exact hy
theorem Zli (n : Int) : ∀ (t pre d : List Int), (∀ x ∈ t, x < n) → (∀ x s, d = x :: s → ¬ x < n) → (pre ++ (t ++ d)).length ≤ 1000000 → Ev (fun k => Z5d k (pre ++ (t ++ d)) n (pre.length : Int)) (pre ++ (t ++ d), n, ((pre ++ t).length : Int))
 | [], pre, [], ht, hd, hl => by
  refine Ev.succ ?_
  simp only [Z5d, List.nil_append, Z7, Int.lt_irrefl, decide_false, Bool.false_eq_true, if_false, List.append_nil]
  exact Ev.some _
 | [], pre, x :: s, ht, hd, hl => by
  have hx := hd x s rfl
  refine Ev.succ ?_
  simp only [Z5d, List.nil_append, Z5, Za, decide_true, if_true, Int.toNat_natCast, Z4, hx, decide_false, Bool.false_eq_true, if_false, List.append_nil]
  exact Ev.some _
 | x :: t, pre, d, ht, hd, hl => by
  have hx := ht x (List.mem_cons_self ..)
  have ih := Zli n t (pre ++ [x]) d (fun y hy => ht y (List.mem_cons_of_mem _ hy)) hd (by simpa using hl)
  simp only [List.cons_append] at hl ⊢
  refine Ev.succ ?_
  simp only [Z5d, Z5, Za, decide_true, if_true, Int.toNat_natCast, Z4, hx]
  rw [Z6 pre x (t ++ d) (by omega)]
  rw [← Z0] at ih
  refine ih.congr ?_
  simp
theorem ZAz (l : List Int) (n : Int) (hl : l.length ≤ 1000000) : Ev (fun k => Ze3 k l n) (putL l n) := by
 obtain ⟨t, d, rfl, h2, h3, h4⟩ := ZvF l n
 have h0 := Zli n t [] d h2 h3 (by simpa using hl)
 simp only [List.nil_append, List.length_nil, Int.natCast_zero] at h0
 rw [h4]
 have hlt : t.length + d.length ≤ 1000000 := by simpa using hl
 have z1 : (0 : Nat) + t.length ≤ 140737488355328 / 8 := by omega
 have z2 : t.length + 1 ≤ 140737488355328 / 8 := by omega
 refine Ev.succ ?_
 simp only [Ze3]
 refine Ev.bind h0 ?_
 cases d with
 | nil =>
  have z3 : (t ++ [n]).length + 0 ≤ 140737488355328 / 8 := by simp; omega
  simp only [Z7, Int.lt_irrefl, decide_false, Bool.false_eq_true, if_false, Za, Int.le_refl, if_true, Int.toNat_natCast, Int.toNat_zero, Nat.sub_zero, List.drop_zero, List.append_nil, List.take_length, List.length_singleton, z1, z2, List.drop_length, List.take_nil, List.length_nil, z3, putL]
  exact Ev.some _
 | cons x s =>
  have hx := h3 x s rfl
  have y1 : (t.length : Int) ≤ ((t ++ x :: s).length : Int) := by simp; omega
  have y2 : List.take t.length (t ++ x :: s) = t := List.take_left' rfl
  have y3 : List.drop t.length (t ++ x :: s) = x :: s := List.drop_left' rfl
  have y4 : List.take ((t ++ x :: s).length - t.length) (x :: s) = x :: s := List.take_of_length_le (by simp)
  have z3 : (t ++ [n]).length + (x :: s).length ≤ 140737488355328 / 8 := by simp at hlt ⊢; omega
  simp only [Z5, Za, decide_true, if_true, Int.toNat_natCast, Z4, Int.toNat_zero, Nat.sub_zero, List.drop_zero, y1, y2, y3, y4, Int.le_refl, List.length_singleton, z1, z2, z3, putL, if_neg hx]
  refine Ev.ite (fun h => ?_) (fun h => ?_)
  ·simp only [decide_eq_true_eq] at h
   rw [if_pos h]
   exact Ev.some _
  ·simp only [decide_eq_true_eq] at h
   rw [if_neg h]
   exact Ev.of (by simp)
end Go.Proofs.Ytpeflcbadgfebaa.Vs

set_option linter.unusedVariables false
set_option linter.unusedSimpArgs false
namespace Go.Proofs.Ytpeflcbadgfebaa.Vs
open Go.RowKit
def casesL (b : BoardD) (T : List (List Int)) : List (List (List FallD)) := T.map (endsOf b []) :: (possFrom b.2.1 0 b.2.2).map fun f => T.map (endsOf b [f])
theorem Zhv (b : BoardD) (hb : boardOK b = true) (T : List (List Int)) (hT : ∀ t ∈ T, t.length ≤ 1000 ∧ colsOK b t) (hn : T.length ≤ 1000) : ∀ (r pre : List FaultD) (acc : List (List (List FallD))), (∀ f ∈ r, faultsOK b (-1) [f] = true) → (pre ++ r).length ≤ 1000 → acc.length ≤ pre.length + 1 → Ev (fun k => Z4X k b.1 b.2.1 b.2.2 acc (pre ++ r) T ((pre ++ r).length : Int) (pre.length : Int)) (acc ++ r.map fun f => T.map (endsOf b [f]))
 | [], pre, acc, hf, hl, ha => by
  refine Ev.succ ?_
  simp only [Z4X, Z7, decide_false, Bool.false_eq_true, if_false]
  exact Ev.of (by simp)
 | f :: r, pre, acc, hf, hl, ha => by
  have ih := Zhv b hb T hT hn r (pre ++ [f]) (acc ++ [T.map (endsOf b [f])]) (fun g hg => hf g (List.mem_cons_of_mem _ hg)) (by simpa using hl) (by simp; omega)
  rw [← Z0] at ih
  have hal : acc.length + 1 ≤ 140737488355328 / 24 := by simp at hl; omega
  refine Ev.succ ?_
  simp only [Z4X, Z5, Za, decide_true, if_true, Int.toNat_natCast, Z4, List.length_singleton, hal]
  rw [Z6 pre f r (by omega)]
  refine Ev.bind (ZnD b hb [f] (hf f (List.mem_cons_self ..)) (by simp) T hT hn) ?_
  refine ih.congr ?_
  simp
theorem Zxg (b : BoardD) (hb : boardOK b = true) (T : List (List Int)) (hT : ∀ t ∈ T, t.length ≤ 1000 ∧ colsOK b t) (hn : T.length ≤ 1000) : Ev (fun k => Zb5 k b T) (casesL b T) := by
 have hp := Znq hb
 refine Ev.succ ?_
 simp only [Zb5]
 refine Ev.bind (ZnD b hb [] rfl (by simp) T hT hn) (Ev.bind (Zs9 b hb) ?_)
 exact Ev.bind (Zhv b hb T hT hn (possFrom b.2.1 0 b.2.2) [] [T.map (endsOf b [])] (fun f hf => ZzP hb hf) (by simp; omega) (by simp)) (Ev.some _)
theorem ZgE (b : BoardD) (hb : boardOK b = true) (T : List (List Int)) (hT : ∀ t ∈ T, t.length ≤ 1000 ∧ colsOK b t) (hn : T.length ≤ 1000) : ∀ (r pre : List FaultD) (acc : List (List (List FallD))), (∀ f ∈ r, faultsOK b (-1) [f] = true) → (pre ++ r).length ≤ 1000 → acc.length ≤ pre.length + 1 → Ev (fun k => Z4a k b.1 b.2.1 b.2.2 acc (pre ++ r) T ((pre ++ r).length : Int) (pre.length : Int)) (acc ++ r.map fun f => T.map (endsOf b [f]))
 | [], pre, acc, hf, hl, ha => by
  refine Ev.succ ?_
  simp only [Z4a, Z7, decide_false, Bool.false_eq_true, if_false]
  exact Ev.of (by simp)
 | f :: r, pre, acc, hf, hl, ha => by
  have ih := ZgE b hb T hT hn r (pre ++ [f]) (acc ++ [T.map (endsOf b [f])]) (fun g hg => hf g (List.mem_cons_of_mem _ hg)) (by simpa using hl) (by simp; omega)
  rw [← Z0] at ih
  have hal : acc.length + 1 ≤ 140737488355328 / 24 := by simp at hl; omega
  refine Ev.succ ?_
  simp only [Z4a, Z5, Za, decide_true, if_true, Int.toNat_natCast, Z4, List.length_singleton, hal]
  rw [Z6 pre f r (by omega)]
  refine Ev.bind (Zjz b hb [f] (hf f (List.mem_cons_self ..)) (by simp) T hT hn) ?_
  refine ih.congr ?_
  simp
theorem Zjv (b : BoardD) (hb : boardOK b = true) (T : List (List Int)) (hT : ∀ t ∈ T, t.length ≤ 1000 ∧ colsOK b t) (hn : T.length ≤ 1000) : Ev (fun k => Z88 k b T) (casesL b T) := by
 have hp := Znq hb
 refine Ev.succ ?_
 simp only [Z88]
 refine Ev.bind (Zjz b hb [] rfl (by simp) T hT hn) (Ev.bind (ZlE b hb) ?_)
 exact Ev.bind (ZgE b hb T hT hn (possFrom b.2.1 0 b.2.2) [] [T.map (endsOf b [])] (fun f hf => ZzP hb hf) (by simp; omega) (by simp)) (Ev.some _)
structure Tab (C : List (List (List FallD))) (n : Nat) (L : Nat → Nat) : Prop where
 len : C.length ≤ 1000
 pos : 0 < C.length
 row : ∀ k, k < C.length → (List.getD C k []).length = n
 cell : ∀ k t, k < C.length → t < n → (List.getD (List.getD C k []) t []).length = L t
 small : ∀ t, t < n → L t ≤ 1000
theorem Zfg {b : BoardD} (hb : boardOK b = true) {T : List (List Int)} (hT : ∀ t ∈ T, t.length ≤ 1000 ∧ colsOK b t) : Tab (casesL b T) T.length (fun t => (List.getD T t []).length) := by
 have hp := Znq hb
 have hrow : ∀ row ∈ casesL b T, ∃ l, row = T.map (endsOf b l) := by
  intro row hr
  rcases List.mem_cons.1 hr with rfl | hr
  ·exact ⟨[], rfl⟩
  ·obtain ⟨f, _, rfl⟩ := List.mem_map.1 hr
   exact ⟨[f], rfl⟩
 have get : ∀ k, k < (casesL b T).length → ∃ l, List.getD (casesL b T) k [] = T.map (endsOf b l) := by
  intro k hk
  have : List.getD (casesL b T) k [] ∈ casesL b T := by simp [List.getD, List.getElem?_eq_getElem hk]
  exact hrow _ this
 refine ⟨by simp [casesL]; omega, by simp [casesL], fun k hk => ?_, fun k t hk ht => ?_, fun t ht => ?_⟩
 ·obtain ⟨l, hl⟩ := get k hk
  rw [hl, List.length_map]
 ·obtain ⟨l, hl⟩ := get k hk
  rw [hl]
  simp only [List.getD, List.getElem?_map, List.getElem?_eq_getElem ht, Option.map_some, Option.getD_some]
  exact ZC2 _ _ _
 ·have : List.getD T t [] ∈ T := by simp [List.getD, List.getElem?_eq_getElem ht]
  exact (hT _ this).1
def cellC (C : List (List (List FallD))) (t k : Nat) : List FallD := List.getD (List.getD C k []) t []
def keyC (C : List (List (List FallD))) (ch : List Int) (k : Nat) : List (List FallD) := ch.map fun t => cellC C t.toNat k
theorem ZkP {C : List (List (List FallD))} {ch : List Int} {i j : Nat} : keyC C ch i = keyC C ch j ↔ ∀ t ∈ ch, cellC C t.toNat i = cellC C t.toNat j := by
 unfold keyC
 rw [List.map_inj_left]
def chOK (ch : List Int) (n : Nat) : Prop := ∀ t ∈ ch, 0 ≤ t ∧ t < (n : Int)
theorem Zhf {C : List (List (List FallD))} {n : Nat} {L : Nat → Nat} (hC : Tab C n L) (i j : Nat) (hi : i < C.length) (hj : j < C.length) : ∀ (r pre : List Int), chOK r n → (pre ++ r).length ≤ 1000 → Ev (fun k => Z51 k (List.getD C i []) (List.getD C j []) (pre ++ r) ((pre ++ r).length : Int) (pre.length : Int)) (if keyC C r i = keyC C r j then LR.go () else LR.ret false)
 | [], pre, hr, hl => by
  refine Ev.succ ?_
  simp only [Z51, Z7, decide_false, Bool.false_eq_true, if_false, keyC, List.map_nil, if_true]
  exact Ev.some _
 | t :: r, pre, hr, hl => by
  obtain ⟨t0, tn⟩ := hr t (List.mem_cons_self ..)
  have ih := Zhf hC i j hi hj r (pre ++ [t]) (fun x hx => hr x (List.mem_cons_of_mem _ hx)) (by simpa using hl)
  have h1 : t < ((List.getD C i []).length : Int) := by rw [hC.row i hi]; exact tn
  have h2 : t < ((List.getD C j []).length : Int) := by rw [hC.row j hj]; exact tn
  have c1 := hC.cell i t.toNat hi (by omega)
  have c3 := hC.small t.toNat (by omega)
  refine Ev.succ ?_
  simp only [Z51, Z5, Za, decide_true, if_true, Int.toNat_natCast, Z4, t0, h1, h2]
  rw [Z6 pre t r (by omega)]
  rw [← Z0] at ih
  refine Ev.bind (ZbF _ _ (by omega)) (Ev.ite (fun h => ?_) (fun h => ?_))
  ·have h : ¬ cellC C t.toNat i = cellC C t.toNat j := nd h
   rw [if_neg (fun hh => h (ZkP.1 hh t (List.mem_cons_self ..)))]
   exact Ev.some _
  ·have h : cellC C t.toNat i = cellC C t.toNat j := yd h
   refine ih.congr ?_
   have hk : keyC C (t :: r) i = keyC C (t :: r) j ↔ keyC C r i = keyC C r j := by simp only [keyC, List.map_cons, h, List.cons.injEq, true_and]
   by_cases h9 : keyC C r i = keyC C r j
   ·rw [if_pos h9, if_pos (hk.2 h9)]
   ·rw [if_neg h9, if_neg (fun h => h9 (hk.1 h))]
theorem Zmo {C : List (List (List FallD))} {n : Nat} {L : Nat → Nat} (hC : Tab C n L) (i j : Nat) (hi : i < C.length) (hj : j < C.length) (ch : List Int) (hch : chOK ch n) (hl : ch.length ≤ 1000) : Ev (fun k => Z8T k (List.getD C i []) (List.getD C j []) ch) (decide (keyC C ch i = keyC C ch j)) := by
 refine Ev.succ ?_
 simp only [Z8T]
 refine Ev.bind (Zhf hC i j hi hj ch [] hch (by simpa using hl)) ?_
 by_cases h : keyC C ch i = keyC C ch j
 ·rw [if_pos h, decide_eq_true h]; exact Ev.go (Ev.some _)
 ·rw [if_neg h, decide_eq_false h]; exact Ev.ret (Ev.some _)
def rangeI (n : Nat) : List Int := (List.range n).map fun (j : Nat) => (j : Int)
theorem Zff (n : Nat) : chOK (rangeI n) n := fun t ht => by
 obtain ⟨j, hj, rfl⟩ := List.mem_map.1 ht
 have := List.mem_range.1 hj
 omega
theorem Zbp (n : Nat) : (rangeI n).length = n := by simp [rangeI]
theorem Ztn (n : Nat) : rangeI (n + 1) = rangeI n ++ [(n : Int)] := by simp [rangeI, List.range_succ]
theorem Zlp (n : Nat) (hn : n ≤ 1000) : ∀ (d i : Nat), i + d = n → Ev (fun k => Z6U k (rangeI i) (n : Int) (i : Int)) (rangeI n)
 | 0, i, h => by
  obtain rfl : i = n := by omega
  refine Ev.succ ?_
  simp only [Z6U, Int.lt_irrefl, decide_false, Bool.false_eq_true, if_false]
  exact Ev.some _
 | d + 1, i, h => by
  have h1 : (i : Int) < n := by omega
  have h2 : wrap64 ((i : Int) + 1) = ((i + 1 : Nat) : Int) := by rw [w64 (by omega) (by omega)]; omega
  have hal : i + 1 ≤ 140737488355328 / 8 := by omega
  refine Ev.succ ?_
  simp only [Z6U, h1, decide_true, if_true, List.length_singleton, Zbp, hal, h2]
  rw [← Ztn]
  exact Zlp n hn d (i + 1) (by omega)
theorem Zr5 (T : List (List Int)) (hn : T.length ≤ 1000) : Ev (fun k => ZaQ k T) (rangeI T.length) := by
 refine Ev.succ ?_
 simp only [ZaQ]
 exact Ev.bind (Zlp T.length hn T.length 0 (by omega)) (Ev.some _)
theorem ZfA (n : Nat) (hn : n ≤ 1000) : ∀ (d i : Nat), i + d = n → Ev (fun k => Z3v k (rangeI i) (n : Int) (i : Int)) (rangeI n)
 | 0, i, h => by
  obtain rfl : i = n := by omega
  refine Ev.succ ?_
  simp only [Z3v, Int.lt_irrefl, decide_false, Bool.false_eq_true, if_false]
  exact Ev.some _
 | d + 1, i, h => by
  have h1 : (i : Int) < n := by omega
  have h2 : wrap64 ((i : Int) + 1) = ((i + 1 : Nat) : Int) := by rw [w64 (by omega) (by omega)]; omega
  have hal : i + 1 ≤ 140737488355328 / 8 := by omega
  refine Ev.succ ?_
  simp only [Z3v, h1, decide_true, if_true, List.length_singleton, Zbp, hal, h2]
  rw [← Ztn]
  exact ZfA n hn d (i + 1) (by omega)
theorem Zis (T : List (List Int)) (hn : T.length ≤ 1000) : Ev (fun k => Z1l k T) (rangeI T.length) := by
 refine Ev.succ ?_
 simp only [Z1l]
 exact Ev.bind (ZfA T.length hn T.length 0 (by omega)) (Ev.some _)
theorem Zah {C : List (List (List FallD))} {n : Nat} {L : Nat → Nat} (hC : Tab C n L) (ch : List Int) (hch : chOK ch n) (hl : ch.length ≤ 1000) : ∀ (d i : Nat) (acc : List Int), i + 1 + d = C.length → acc.length ≤ i → Ev (fun k => Z1O k acc C ch ((i + 1 : Nat) : Int)) (acc ++ idxFrom (fun j => !decide (keyC C ch 0 = keyC C ch (j + 1))) i d)
 | 0, i, acc, h, ha => by
  have : ¬ ((i + 1 : Nat) : Int) < (C.length : Int) := by omega
  refine Ev.succ ?_
  simp only [Z1O, this, decide_false, Bool.false_eq_true, if_false, idxFrom, List.append_nil]
  exact Ev.some _
 | d + 1, i, acc, h, ha => by
  have hcl := hC.len
  have h1 : ((i + 1 : Nat) : Int) < (C.length : Int) := by omega
  have h0 : (0 : Int) < (C.length : Int) := by omega
  have h2 : (0 : Int) ≤ ((i + 1 : Nat) : Int) := by omega
  have h4 : wrap64 (((i + 1 : Nat) : Int) + 1) = ((i + 1 + 1 : Nat) : Int) := by rw [w64 (by omega) (by omega)]; omega
  have h5 : wrap64 (((i + 1 : Nat) : Int) - 1) = (i : Int) := by rw [w64 (by omega) (by omega)]; omega
  have hal : acc.length + 1 ≤ 140737488355328 / 8 := by omega
  refine Ev.succ ?_
  simp only [Z1O, h1, h0, h2, h4, h5, decide_true, if_true, List.length_singleton, hal, Int.toNat_natCast, Int.toNat_zero, idxFrom]
  refine Ev.bind (Zmo hC 0 (i + 1) (by omega) (by omega) ch hch hl) (Ev.ite (fun hh => ?_) (fun hh => ?_))
  ·refine (Zah hC ch hch hl d (i + 1) (acc ++ [(i : Int)]) (by omega) (by simp; omega)).congr ?_
   rw [if_pos hh]; simp
  ·refine (Zah hC ch hch hl d (i + 1) acc (by omega) (by omega)).congr ?_
   rw [if_neg hh]
theorem Zgz {C : List (List (List FallD))} {n : Nat} {L : Nat → Nat} (hC : Tab C n L) (ch : List Int) (hch : chOK ch n) (hl : ch.length ≤ 1000) : Ev (fun k => Z1H k C ch) (idxFrom (fun j => !decide (keyC C ch 0 = keyC C ch (j + 1))) 0 (C.length - 1)) := by
 have hp := hC.pos
 refine Ev.succ ?_
 simp only [Z1H]
 exact Ev.bind (Zah hC ch hch hl (C.length - 1) 0 [] (by omega) (by simp)) (Ev.some _)
def markC (C : List (List (List FallD))) (t k : Nat) : Int := (fstOf (cellC C t) k : Int)
theorem Zi2 {C : List (List (List FallD))} {n : Nat} {L : Nat → Nat} (hC : Tab C n L) (o2 : List (List Int)) (o3 : List Int) (T : List (List Int)) (i t : Nat) (hi : i < C.length) (ht : t < n) (v16 v17 v23 v24 : Int) : ∀ (d j : Nat), j + d = i →
    Ev (fun k => Z5k k C o2 o3 T (i : Int) (i : Int) (t : Int) (j : Int) v16 v17 v23 v24) (C, o2, o3, T, (i : Int), (i : Int), (fstR (cellC C t) i d j : Int), v16, v17, v23, v24)
  | 0, j, h => by
    obtain rfl : j = i := by omega
    refine Ev.succ ?_
    simp only [Z5k, Int.lt_irrefl, decide_false, Bool.false_eq_true, if_false, fstR]
    exact Ev.some _
  | d + 1, j, h => by
    have hcl := hC.len
    have h1 : (j : Int) < i := by omega
    have h2 : (t : Int) < ((List.getD C i []).length : Int) := by rw [hC.row i hi]; omega
    have h3 : (j : Int) < (C.length : Int) := by omega
    have h4 : (t : Int) < ((List.getD C j []).length : Int) := by rw [hC.row j (by omega)]; omega
    have h5 : wrap64 ((j : Int) + 1) = ((j + 1 : Nat) : Int) := by rw [w64 (by omega) (by omega)]; omega
    have c1 := hC.cell i t hi ht
    have c2 := hC.cell j t (by omega) ht
    have c3 := hC.small t ht
    have hn := ZjO 0 (cellC C t i) (cellC C t j) (by unfold cellC; omega)
    have ih := Zi2 hC o2 o3 T i t hi ht v16 v17 v23 v24 d (j + 1) (by omega)
    refine Ev.succ ?_
    simp only [Z5k, h1, h2, h3, h4, h5, decide_true, if_true, Int.natCast_nonneg, Int.toNat_natCast, fstR]
    refine Ev.bind (Zyo _ _ (by omega) (by omega)) (Ev.ite (fun hh => ?_) (fun hh => ?_))
    · have hne : ¬ cellC C t j = cellC C t i := fun hq => by
        have : ixOf (diffIx 0 (cellC C t i) (cellC C t j)) ≥ 0 := of_decide_eq_true hh
        rw [hn.2 hq.symm] at this
        simp [ixOf] at this
      rw [if_neg hne]
      exact ih
    · have heq : cellC C t j = cellC C t i := by
        have : ixOf (diffIx 0 (cellC C t i) (cellC C t j)) < 0 := by
          have : ¬ ixOf (diffIx 0 (cellC C t i) (cellC C t j)) ≥ 0 := fun hq => hh (decide_eq_true hq)
          omega
        exact (hn.1 ((ZDk _).1 this)).symm
      rw [if_pos heq]
      exact Ev.some _
def marksRow (C : List (List (List FallD))) (i n : Nat) : List Int := (List.range n).map fun t => markC C t i
theorem Zeb (C : List (List (List FallD))) (i n : Nat) : (marksRow C i n).length = n := by simp [marksRow]
theorem Zz6 (C : List (List (List FallD))) (i n : Nat) : marksRow C i (n + 1) = marksRow C i n ++ [markC C n i] := by simp [marksRow, List.range_succ]
theorem Zi8 {C : List (List (List FallD))} {n : Nat} {L : Nat → Nat} (hC : Tab C n L) (hn : n ≤ 1000) (o2 : List (List Int)) (T : List (List Int)) (i : Nat) (hi : i < C.length) (v16 v17 : Int) : ∀ (d t : Nat), t + d = n →
    Ev (fun k => Z5o k C o2 (marksRow C i t) T (i : Int) (i : Int) v16 v17 (n : Int) (t : Int)) (C, o2, marksRow C i n, T, v16, v17)
  | 0, t, h => by
    obtain rfl : t = n := by omega
    refine Ev.succ ?_
    simp only [Z5o, Int.lt_irrefl, decide_false, Bool.false_eq_true, if_false]
    exact Ev.some _
  | d + 1, t, h => by
    have h1 : (t : Int) < n := by omega
    have h5 : wrap64 ((t : Int) + 1) = ((t + 1 : Nat) : Int) := by rw [w64 (by omega) (by omega)]; omega
    have hal : t + 1 ≤ 140737488355328 / 8 := by omega
    have ih := Zi8 hC hn o2 T i hi v16 v17 d (t + 1) (by omega)
    refine Ev.succ ?_
    simp only [Z5o, h1, decide_true, if_true]
    refine Ev.bind (Zi2 hC o2 (marksRow C i t) T i t hi (by omega) v16 v17 (n : Int) (t : Int) i 0 (by omega)) ?_
    simp only [List.length_singleton, Zeb, hal, if_true, h5]
    rw [Zz6] at ih
    exact ih
def marksM (C : List (List (List FallD))) (n m : Nat) : List (List Int) := (List.range m).map fun i => marksRow C i n
theorem Zbs (C : List (List (List FallD))) (n m : Nat) : (marksM C n m).length = m := by simp [marksM]
theorem ZB4 (C : List (List (List FallD))) (n m : Nat) : marksM C n (m + 1) = marksM C n m ++ [marksRow C m n] := by simp [marksM, List.range_succ]
theorem Znk (C : List (List (List FallD))) (n m i : Nat) (hi : i < m) : List.getD (marksM C n m) i [] = marksRow C i n := by simp [marksM, List.getD, List.getElem?_map, List.getElem?_range hi]
theorem ZhH (C : List (List (List FallD))) (n i t : Nat) (ht : t < n) : List.getD (marksRow C i n) t 0 = markC C t i := by simp [marksRow, List.getD, List.getElem?_map, List.getElem?_range ht]
theorem Zh9 {C : List (List (List FallD))} {n : Nat} {L : Nat → Nat} (hC : Tab C n L) (hn : n ≤ 1000) (T : List (List Int)) (hT : T.length = n) : ∀ (d i : Nat), i + d = C.length →
    Ev (fun k => Z5b k C (marksM C n i) T (C.length : Int) (i : Int)) (marksM C n C.length)
  | 0, i, h => by
    obtain rfl : i = C.length := by omega
    refine Ev.succ ?_
    simp only [Z5b, Int.lt_irrefl, decide_false, Bool.false_eq_true, if_false]
    exact Ev.some _
  | d + 1, i, h => by
    have hcl := hC.len
    have h1 : (i : Int) < (C.length : Int) := by omega
    have h5 : wrap64 ((i : Int) + 1) = ((i + 1 : Nat) : Int) := by rw [w64 (by omega) (by omega)]; omega
    have hal : i + 1 ≤ 140737488355328 / 24 := by omega
    have ih := Zh9 hC hn T hT d (i + 1) (by omega)
    refine Ev.succ ?_
    simp only [Z5b, h1, decide_true, if_true, Int.natCast_nonneg, hT]
    refine Ev.bind (Zi8 hC hn (marksM C n i) T i (by omega) (C.length : Int) (i : Int) n 0 (by omega)) ?_
    simp only [List.length_singleton, Zbs, hal, if_true, h5]
    rw [ZB4] at ih
    exact ih
theorem Zlk (b : BoardD) (hb : boardOK b = true) (T : List (List Int)) (hT : ∀ t ∈ T, t.length ≤ 1000 ∧ colsOK b t) (hn : T.length ≤ 1000) : Ev (fun k => Z8W k b T) (marksM (casesL b T) T.length (casesL b T).length) := by
 refine Ev.succ ?_
 simp only [Z8W]
 exact Ev.bind (Zxg b hb T hT hn) (Ev.bind (Zh9 (Zfg hb hT) hn T rfl (casesL b T).length 0 (by omega)) (Ev.some _))
theorem ZCh {C : List (List (List FallD))} {t k : Nat} : markC C t k ≠ 0 ↔ ¬ cellC C t 0 = cellC C t k := by
 unfold markC
 have h := Z96 (cellC C t) (f := 0) (j := k)
 have h0 : isFirst (cellC C t) 0 = true := by simp [isFirst]
 constructor
 ·intro h1 h2
  exact h1 (by rw [h.2 ⟨h0, h2.symm⟩]; rfl)
 ·intro h1 h2
  have h3 : fstOf (cellC C t) k = 0 := by omega
  exact h1 (h.1 h3).2.symm
theorem ZD9 {C : List (List (List FallD))} {t i j : Nat} : markC C t i = markC C t j ↔ cellC C t i = cellC C t j := by
 unfold markC
 have hi := (Z96 (cellC C t) (f := fstOf (cellC C t) i) (j := i)).1 rfl
 have hj := (Z96 (cellC C t) (f := fstOf (cellC C t) j) (j := j)).1 rfl
 constructor
 ·intro h
  have h3 : fstOf (cellC C t) i = fstOf (cellC C t) j := by omega
  rw [hi.2, h3, ← hj.2]
 ·intro h
  have h3 : fstOf (cellC C t) i = fstOf (cellC C t) j := (Z96 (cellC C t)).2 ⟨hj.1, h.trans hj.2⟩
  rw [h3]
def detP (C : List (List (List FallD))) (ch : List Int) (i : Nat) (pre : List Int) (j : Nat) : Bool := (decide (j + 1 < i) && !decide (keyC C ch 0 = keyC C ch (j + 1))) || (decide (j + 1 = i) && !decide (keyC C pre 0 = keyC C pre i))
theorem Zes {C : List (List (List FallD))} {n : Nat} {L : Nat → Nat} (hC : Tab C n L) (ch : List Int) (i : Nat) (hi : i < C.length) (M : List (List Int)) (v11 v12 : Int) : ∀ (r pre : List Int), chOK r n → (pre ++ r).length ≤ 1000 →
    Ev (fun k => Z1P k (idxFrom (detP C ch i pre) 0 (C.length - 1)) ch (i : Int) (marksRow C i n) M v11 v12 (pre ++ r) ((pre ++ r).length : Int) (pre.length : Int)) (idxFrom (detP C ch i (pre ++ r)) 0 (C.length - 1), ch, M, v11, v12)
  | [], pre, hr, hl => by
    refine Ev.succ ?_
    simp only [Z1P, Z7, Int.lt_irrefl, decide_false, Bool.false_eq_true, if_false, List.append_nil]
    exact Ev.some _
  | t :: r, pre, hr, hl => by
    have hcl := hC.len
    obtain ⟨t0, tn⟩ := hr t (List.mem_cons_self ..)
    have ih := Zes hC ch i hi M v11 v12 r (pre ++ [t]) (fun x hx => hr x (List.mem_cons_of_mem _ hx)) (by simpa using hl)
    have h1 : t < ((marksRow C i n).length : Int) := by rw [Zeb]; exact tn
    have hg := ZhH C n i t.toNat (by omega)
    have hz := ZCh (C := C) (t := t.toNat) (k := i)
    have hlen := Zf9 (detP C ch i pre) (C.length - 1) 0
    refine Ev.succ ?_
    simp only [Z1P, Z5, Za, decide_true, if_true, Int.toNat_natCast, Z4, t0, h1, hg]
    rw [Z6 pre t r (by omega)]
    rw [← Z0] at ih
    have hk : ∀ j, keyC C (pre ++ [t]) 0 = keyC C (pre ++ [t]) j ↔ keyC C pre 0 = keyC C pre j ∧ cellC C t.toNat 0 = cellC C t.toNat j := by
      intro j
      rw [ZkP, ZkP]
      constructor
      · intro h2
        exact ⟨fun x hx => h2 x (List.mem_append_left _ hx), h2 t (List.mem_append_right _ (List.mem_singleton.2 rfl))⟩
      · rintro ⟨h2, h3⟩ x hx
        rcases List.mem_append.1 hx with hx | hx
        · exact h2 x hx
        · rw [List.mem_singleton.1 hx]; exact h3
    refine Ev.ite (fun hh => ?_) (fun hh => ?_)
    · have hne := hz.1 (by simpa using hh)
      have hi0 : 0 < i := by
        rcases Nat.eq_zero_or_pos i with h0 | h0
        · subst h0; exact (hne rfl).elim
        · exact h0
      have h5 : wrap64 ((i : Int) - 1) = ((i - 1 : Nat) : Int) := by rw [w64 (by omega) (by omega)]; omega
      have hput : putL (idxFrom (detP C ch i pre) 0 (C.length - 1)) ((i - 1 : Nat) : Int) = idxFrom (detP C ch i (pre ++ [t])) 0 (C.length - 1) := by
        rw [ZAg (detP C ch i pre) (i - 1) (C.length - 1) 0 (by omega) (by omega)]
        refine Z6g _ _ (fun j _ _ => ?_)
        unfold detP
        by_cases hj : j = i - 1
        · subst hj
          have e1 : i - 1 + 1 = i := by omega
          have hn2 : ¬ keyC C (pre ++ [t]) 0 = keyC C (pre ++ [t]) i := fun h2 => hne ((hk i).1 h2).2
          simp [e1, hn2]
        · have e1 : ¬ j + 1 = i := by omega
          have e2 : (j == i - 1) = false := by simp; omega
          simp [e1, e2]
      rw [h5]
      refine Ev.bind (ZAz _ _ (by omega)) ?_
      rw [hput]
      exact ih
    · have heq : cellC C t.toNat 0 = cellC C t.toNat i := by
        by_cases hc : cellC C t.toNat 0 = cellC C t.toNat i
        · exact hc
        · exact (hh (by simpa using hz.2 hc)).elim
      have hsame : idxFrom (detP C ch i pre) 0 (C.length - 1) = idxFrom (detP C ch i (pre ++ [t])) 0 (C.length - 1) := by
        refine Z6g _ _ (fun j _ _ => ?_)
        unfold detP
        have : (keyC C (pre ++ [t]) 0 = keyC C (pre ++ [t]) i) ↔ (keyC C pre 0 = keyC C pre i) := ⟨fun h2 => ((hk i).1 h2).1, fun h2 => (hk i).2 ⟨h2, heq⟩⟩
        simp only [this]
      rw [hsame]
      exact ih
theorem Zex {C : List (List (List FallD))} {n : Nat} {L : Nat → Nat} (hC : Tab C n L) (ch : List Int) (hch : chOK ch n) (hl : ch.length ≤ 1000) : ∀ (d i : Nat), i + d = C.length →
    Ev (fun k => Z2V k (idxFrom (detP C ch i []) 0 (C.length - 1)) ch (marksM C n C.length) (C.length : Int) (i : Int)) (idxFrom (fun j => !decide (keyC C ch 0 = keyC C ch (j + 1))) 0 (C.length - 1))
  | 0, i, h => by
    obtain rfl : i = C.length := by omega
    refine Ev.succ ?_
    simp only [Z2V, Int.lt_irrefl, decide_false, Bool.false_eq_true, if_false]
    refine Ev.of ?_
    congr 1
    refine Z6g _ _ (fun j _ hj => ?_)
    unfold detP
    have h1 : j + 1 < C.length := by omega
    have h2 : ¬ j + 1 = C.length := by omega
    simp [h1, h2]
  | d + 1, i, h => by
    have hcl := hC.len
    have h1 : (i : Int) < (C.length : Int) := by omega
    have h2 : (i : Int) < ((marksM C n C.length).length : Int) := by rw [Zbs]; exact h1
    have h5 : wrap64 ((i : Int) + 1) = ((i + 1 : Nat) : Int) := by rw [w64 (by omega) (by omega)]; omega
    have ih := Zex hC ch hch hl d (i + 1) (by omega)
    have hstep : idxFrom (detP C ch (i + 1) []) 0 (C.length - 1) = idxFrom (detP C ch i ch) 0 (C.length - 1) := by
      refine Z6g _ _ (fun j _ _ => ?_)
      unfold detP
      by_cases hj : j + 1 = i
      · subst hj
        have e2 : j + 1 < j + 1 + 1 := by omega
        simp [e2, keyC]
      · have e1 : (j + 1 < i + 1) ↔ (j + 1 < i) := by omega
        simp only [hj, e1, decide_false, Bool.false_and, Bool.or_false, keyC, List.map_nil, decide_true, Bool.not_true, Bool.and_false]
    rw [hstep] at ih
    refine Ev.succ ?_
    simp only [Z2V, h1, h2, decide_true, if_true, Int.natCast_nonneg, Int.toNat_natCast, Znk C n C.length i (by omega)]
    have h8 := Zes hC ch i (by omega) (marksM C n C.length) (C.length : Int) (i : Int) ch [] hch (by simpa using hl)
    simp only [List.nil_append, List.length_nil, Int.natCast_zero] at h8
    refine Ev.bind h8 ?_
    simp only [h5]
    exact ih
theorem Zg9 {C : List (List (List FallD))} {n : Nat} {L : Nat → Nat} (hC : Tab C n L) (ch : List Int) (hch : chOK ch n) (hl : ch.length ≤ 1000) : Ev (fun k => Z6s k (marksM C n C.length) ch) (idxFrom (fun j => !decide (keyC C ch 0 = keyC C ch (j + 1))) 0 (C.length - 1)) := by
 have h0 : idxFrom (detP C ch 0 []) 0 (C.length - 1) = [] := by
  rw [Z6g (q := fun _ => false) _ _ (fun j _ _ => by simp [detP]), Zqp]
 have h8 := Zex hC ch hch hl C.length 0 (by omega)
 rw [h0] at h8
 refine Ev.succ ?_
 simp only [Z6s, Zbs]
 exact Ev.bind h8 (Ev.some _)
end Go.Proofs.Ytpeflcbadgfebaa.Vs

set_option linter.unusedVariables false
set_option linter.unusedSimpArgs false
namespace Go.Proofs.Ytpeflcbadgfebaa.Vs
open Go.RowKit
theorem Zfu {C : List (List (List FallD))} {n : Nat} {L : Nat → Nat} (hC : Tab C n L) (o1 : List Int) (v1 : List Int) (i j : Nat) (hi : i < C.length) (hj : j < C.length) (v12 : List (List Int)) (v13 v14 : Int) : ∀ (r pre : List Int) (same : Bool), chOK r n → (pre ++ r).length ≤ 1000 →
    Ev (fun k => Z26 k o1 (marksM C n C.length) v1 (i : Int) (marksRow C i n) (j : Int) same v12 v13 v14 (pre ++ r) ((pre ++ r).length : Int) (pre.length : Int)) (o1, marksM C n C.length, v1, (i : Int), marksRow C i n, (j : Int), same && decide (keyC C r i = keyC C r j), v12, v13, v14)
  | [], pre, same, hr, hl => by
    refine Ev.succ ?_
    simp only [Z26, Z7, decide_false, Bool.false_eq_true, if_false, keyC, List.map_nil, decide_true, Bool.and_true]
    exact Ev.some _
  | t :: r, pre, same, hr, hl => by
    obtain ⟨t0, tn⟩ := hr t (List.mem_cons_self ..)
    have ih := fun s => Zfu hC o1 v1 i j hi hj v12 v13 v14 r (pre ++ [t]) s (fun x hx => hr x (List.mem_cons_of_mem _ hx)) (by simpa using hl)
    simp only [← Z0] at ih
    have h1 : t < ((marksRow C i n).length : Int) := by rw [Zeb]; exact tn
    have h2 : (j : Int) < ((marksM C n C.length).length : Int) := by rw [Zbs]; omega
    have h3 : t < ((marksRow C j n).length : Int) := by rw [Zeb]; exact tn
    have hg1 := ZhH C n i t.toNat (by omega)
    have hg2 := ZhH C n j t.toNat (by omega)
    have hm := ZD9 (C := C) (t := t.toNat) (i := i) (j := j)
    have hk : keyC C (t :: r) i = keyC C (t :: r) j ↔ cellC C t.toNat i = cellC C t.toNat j ∧ keyC C r i = keyC C r j := by simp only [keyC, List.map_cons, List.cons.injEq]
    refine Ev.succ ?_
    simp only [Z26, Z5, Za, decide_true, if_true, Int.toNat_natCast, Z4, t0, h1, h2, Znk C n C.length j hj, h3, hg1, hg2]
    rw [Z6 pre t r (by omega)]
    cases same with
    | true =>
      simp only [if_true, Bool.true_and]
      refine (ih _).congr ?_
      simp only [hm, hk, Bool.decide_and]
    | false =>
      simp only [Bool.false_eq_true, if_false, Bool.false_and]
      exact (ih false).congr (by simp)
theorem Zfk {C : List (List (List FallD))} {n : Nat} {L : Nat → Nat} (hC : Tab C n L) (ch : List Int) (hch : chOK ch n) (hl : ch.length ≤ 1000) (o1 : List Int) (i : Nat) (hi : i < C.length) (v12 : List (List Int)) (v13 v14 : Int) : ∀ (d j : Nat), j + d = i →
    Ev (fun k => Z3F k o1 (marksM C n C.length) ch (i : Int) (marksRow C i n) (j : Int) v12 v13 v14) (o1, marksM C n C.length, ch, (fstR (keyC C ch) i d j : Int), v12, v13, v14)
  | 0, j, h => by
    obtain rfl : j = i := by omega
    refine Ev.succ ?_
    simp only [Z3F, Int.lt_irrefl, decide_false, Bool.false_eq_true, if_false, fstR]
    exact Ev.some _
  | d + 1, j, h => by
    have hcl := hC.len
    have h1 : (j : Int) < i := by omega
    have h5 : wrap64 ((j : Int) + 1) = ((j + 1 : Nat) : Int) := by rw [w64 (by omega) (by omega)]; omega
    have h8 := Zfu hC o1 ch i j hi (by omega) v12 v13 v14 ch [] true hch (by simpa using hl)
    simp only [List.nil_append, List.length_nil, Int.natCast_zero, Bool.true_and] at h8
    have ih := Zfk hC ch hch hl o1 i hi v12 v13 v14 d (j + 1) (by omega)
    refine Ev.succ ?_
    simp only [Z3F, h1, decide_true, if_true]
    refine Ev.bind h8 (Ev.ite (fun hh => ?_) (fun hh => ?_))
    · have hh : keyC C ch i = keyC C ch j := of_decide_eq_true hh
      simp only [fstR]
      rw [if_pos hh.symm]
      exact Ev.some _
    · have hh : ¬ keyC C ch i = keyC C ch j := fun hq => hh (decide_eq_true hq)
      simp only [fstR, h5]
      rw [if_neg (fun hq => hh hq.symm)]
      exact ih
def classI (C : List (List (List FallD))) (ch : List Int) (m : Nat) : List Int := (List.range m).map fun k => (fstOf (keyC C ch) k : Int)
theorem Zws (C : List (List (List FallD))) (ch : List Int) (m : Nat) : (classI C ch m).length = m := by simp [classI]
theorem ZB5 (C : List (List (List FallD))) (ch : List Int) (m : Nat) : classI C ch (m + 1) = classI C ch m ++ [(fstOf (keyC C ch) m : Int)] := by simp [classI, List.range_succ]
theorem Zfq {C : List (List (List FallD))} {n : Nat} {L : Nat → Nat} (hC : Tab C n L) (ch : List Int) (hch : chOK ch n) (hl : ch.length ≤ 1000) : ∀ (d i : Nat), i + d = C.length →
    Ev (fun k => Z3z k (classI C ch i) (marksM C n C.length) ch (marksM C n C.length) (C.length : Int) (i : Int)) (classI C ch C.length)
  | 0, i, h => by
    obtain rfl : i = C.length := by omega
    refine Ev.succ ?_
    simp only [Z3z, Int.lt_irrefl, decide_false, Bool.false_eq_true, if_false]
    exact Ev.some _
  | d + 1, i, h => by
    have hcl := hC.len
    have h1 : (i : Int) < (C.length : Int) := by omega
    have h2 : (i : Int) < ((marksM C n C.length).length : Int) := by rw [Zbs]; exact h1
    have h5 : wrap64 ((i : Int) + 1) = ((i + 1 : Nat) : Int) := by rw [w64 (by omega) (by omega)]; omega
    have hal : i + 1 ≤ 140737488355328 / 8 := by omega
    have ih := Zfq hC ch hch hl d (i + 1) (by omega)
    rw [ZB5] at ih
    refine Ev.succ ?_
    simp only [Z3z, h1, h2, decide_true, if_true, Int.natCast_nonneg, Int.toNat_natCast, Znk C n C.length i (by omega)]
    refine Ev.bind (Zfk hC ch hch hl (classI C ch i) i (by omega) (marksM C n C.length) (C.length : Int) (i : Int) i 0 (by omega)) ?_
    simp only [List.length_singleton, Zws, hal, if_true, h5]
    exact ih
theorem ZhA {C : List (List (List FallD))} {n : Nat} {L : Nat → Nat} (hC : Tab C n L) (ch : List Int) (hch : chOK ch n) (hl : ch.length ≤ 1000) : Ev (fun k => Z7d k (marksM C n C.length) ch) (classI C ch C.length) := by
 refine Ev.succ ?_
 simp only [Z7d, Zbs]
 have h8 := Zfq hC ch hch hl C.length 0 (by omega)
 exact Ev.bind h8 (Ev.some _)
theorem ZAU {α : Type} [DecidableEq α] (key : Nat → α) (n f : Nat) : (members key n f).length ≤ n := by
 unfold members
 rw [List.length_map]
 exact Nat.le_trans (List.length_filter_le _ _) (by simp)
theorem ZA4 {α : Type} [DecidableEq α] (key : Nat → α) (n : Nat) : (classesL key n).length ≤ n := by
 unfold classesL firsts
 rw [List.length_map]
 exact Nat.le_trans (List.length_filter_le _ _) (by simp)
theorem ZzS {α : Type} [DecidableEq α] (key : Nat → α) (n : Nat) : ∀ x ∈ classesL key n, x.length ≤ n := by
 intro x hx
 obtain ⟨f, _, rfl⟩ := List.mem_map.1 hx
 exact ZAU key n f
theorem Zfy {C : List (List (List FallD))} {n : Nat} {L : Nat → Nat} (hC : Tab C n L) (ch : List Int) (hch : chOK ch n) (hl : ch.length ≤ 1000) (i : Nat) (hi : i < C.length) (v10 v11 : Int) : ∀ (F pre : List Nat), firsts (keyC C ch) i = pre ++ F →
    Ev (fun k => Z3q k (classesL (keyC C ch) i) C ch (i : Int) (pre.length : Int) v10 v11) (classesL (keyC C ch) i, C, ch, (i : Int), ((pre.length + placeIx (keyC C ch) (keyC C ch i) F : Nat) : Int), v10, v11)
  | [], pre, h => by
    have hlen : (classesL (keyC C ch) i).length = pre.length := by unfold classesL; rw [List.length_map, h]; simp
    refine Ev.succ ?_
    simp only [Z3q, hlen, Int.lt_irrefl, decide_false, Bool.false_eq_true, if_false, placeIx]
    exact Ev.some _
  | f :: F, pre, h => by
    have hcl := hC.len
    have hf : f ∈ firsts (keyC C ch) i := by rw [h]; simp
    obtain ⟨hfi, _⟩ := ZiS (keyC C ch) hf
    obtain ⟨r, hr⟩ := ZC1 (keyC C ch) hf
    have hlen : (classesL (keyC C ch) i).length = pre.length + (F.length + 1) := by unfold classesL; rw [List.length_map, h]; simp
    have hfl : (firsts (keyC C ch) i).length ≤ i := by unfold firsts; exact Nat.le_trans (List.length_filter_le _ _) (by simp)
    have hpl : pre.length ≤ i := by rw [h] at hfl; simp at hfl; omega
    have h1 : (pre.length : Int) < ((classesL (keyC C ch) i).length : Int) := by omega
    have hg : List.getD (classesL (keyC C ch) i) pre.length [] = ((f : Int) - 1) :: r := by
      unfold classesL
      rw [h]
      simp [List.getD, List.getElem?_map, hr]
    have h5 : wrap64 ((pre.length : Int) + 1) = (((pre ++ [f]).length : Nat) : Int) := by rw [w64 (by omega) (by omega)]; simp
    have h6 : wrap64 ((f : Int) - 1 + 1) = (f : Int) := by rw [w64 (by omega) (by omega)]; omega
    have h7 : (0 : Int) < ((((f : Int) - 1) :: r).length : Int) := by simp
    have h8 : (f : Int) < (C.length : Int) := by omega
    have h9 : (i : Int) < (C.length : Int) := by omega
    have ih := Zfy hC ch hch hl i hi v10 v11 F (pre ++ [f]) (by rw [h]; simp)
    refine Ev.succ ?_
    simp only [Z3q, h1, decide_true, if_true, Int.natCast_nonneg, Int.toNat_natCast, hg, h7, Int.toNat_zero, List.getD_cons_zero, h6, h8, h9, h5]
    refine Ev.bind (Zmo hC f i (by omega) hi ch hch hl) (Ev.ite (fun hh => ?_) (fun hh => ?_))
    · have hh : ¬ keyC C ch f = keyC C ch i := nd hh
      refine ih.congr ?_
      simp only [placeIx, if_neg hh, List.length_append, List.length_singleton]
      congr 5
      omega
    · have hh : keyC C ch f = keyC C ch i := yd hh
      simp only [placeIx, if_pos hh, Nat.add_zero]
      exact Ev.some _
theorem Zfj {C : List (List (List FallD))} {n : Nat} {L : Nat → Nat} (hC : Tab C n L) (ch : List Int) (hch : chOK ch n) (hl : ch.length ≤ 1000) : ∀ (d i : Nat), i + d = C.length →
    Ev (fun k => Z27 k (classesL (keyC C ch) i) C ch (C.length : Int) (i : Int)) (classesL (keyC C ch) C.length)
  | 0, i, h => by
    obtain rfl : i = C.length := by omega
    refine Ev.succ ?_
    simp only [Z27, Int.lt_irrefl, decide_false, Bool.false_eq_true, if_false]
    exact Ev.some _
  | d + 1, i, h => by
    have hcl := hC.len
    have h1 : (i : Int) < (C.length : Int) := by omega
    have h5 : wrap64 ((i : Int) + 1) = ((i + 1 : Nat) : Int) := by rw [w64 (by omega) (by omega)]; omega
    have h6 : wrap64 ((i : Int) - 1) = (i : Int) - 1 := by rw [w64 (by omega) (by omega)]
    have hlen : (classesL (keyC C ch) i).length = (firsts (keyC C ch) i).length := by unfold classesL; rw [List.length_map]
    have hle := ZA4 (keyC C ch) i
    have hpl := ZvT (keyC C ch) (keyC C ch i) (firsts (keyC C ch) i)
    have ih := Zfj hC ch hch hl d (i + 1) (by omega)
    have h8 := Zfy hC ch hch hl i (by omega) (C.length : Int) (i : Int) (firsts (keyC C ch) i) [] rfl
    simp only [List.length_nil, Int.natCast_zero, Nat.zero_add] at h8
    refine Ev.succ ?_
    simp only [Z27, h1, decide_true, if_true]
    refine Ev.bind h8 ?_
    simp only [h5, h6, Int.natCast_nonneg, if_true, Int.toNat_natCast]
    refine Ev.ite (fun hh => ?_) (fun hh => ?_)
    · have hh : ((placeIx (keyC C ch) (keyC C ch i) (firsts (keyC C ch) i) : Nat) : Int) = ((classesL (keyC C ch) i).length : Int) := of_decide_eq_true hh
      have hp : placeIx (keyC C ch) (keyC C ch i) (firsts (keyC C ch) i) = (firsts (keyC C ch) i).length := by omega
      have hnew := ZBi (keyC C ch) hp
      have hp2 : placeIx (keyC C ch) (keyC C ch i) (firsts (keyC C ch) i) = (classesL (keyC C ch) i).length := by omega
      have g1 : (classesL (keyC C ch) i).length + 1 ≤ 140737488355328 / 24 := by omega
      have g2 : (((classesL (keyC C ch) i).length : Nat) : Int) < (((classesL (keyC C ch) i) ++ [[]]).length : Int) := by simp; omega
      have g3 : List.getD (classesL (keyC C ch) i ++ [[]]) (classesL (keyC C ch) i).length [] = [] := Z4 _ _ _ _
      have g4 : ([] : List Int).length + [(i : Int) - 1].length ≤ 140737488355328 / 8 := by simp
      have g5 : List.set (classesL (keyC C ch) i ++ [[]]) (classesL (keyC C ch) i).length ([] ++ [(i : Int) - 1]) = classesL (keyC C ch) (i + 1) := by rw [Z8Q, hnew]; rfl
      simp only [hp2, g1, g2, g3, g4, g5, if_true]
      exact ih
    · have hh : ¬ ((placeIx (keyC C ch) (keyC C ch i) (firsts (keyC C ch) i) : Nat) : Int) = ((classesL (keyC C ch) i).length : Int) := fun hq => hh (decide_eq_true hq)
      have hp : placeIx (keyC C ch) (keyC C ch i) (firsts (keyC C ch) i) < (firsts (keyC C ch) i).length := by omega
      have hold := ZBk (keyC C ch) hp
      have g2 : ((placeIx (keyC C ch) (keyC C ch i) (firsts (keyC C ch) i) : Nat) : Int) < ((classesL (keyC C ch) i).length : Int) := by omega
      have hm : (List.getD (classesL (keyC C ch) i) (placeIx (keyC C ch) (keyC C ch i) (firsts (keyC C ch) i)) []).length ≤ i := by
        have : List.getD (classesL (keyC C ch) i) (placeIx (keyC C ch) (keyC C ch i) (firsts (keyC C ch) i)) [] ∈ classesL (keyC C ch) i := by simp [List.getD, List.getElem?_eq_getElem (show placeIx (keyC C ch) (keyC C ch i) (firsts (keyC C ch) i) < (classesL (keyC C ch) i).length by omega)]
        exact ZzS _ _ _ this
      have g4 : (List.getD (classesL (keyC C ch) i) (placeIx (keyC C ch) (keyC C ch i) (firsts (keyC C ch) i)) []).length + [(i : Int) - 1].length ≤ 140737488355328 / 8 := by rw [List.length_singleton]; omega
      simp only [g2, g4, ← hold, if_true]
      exact ih
theorem ZhM {C : List (List (List FallD))} {n : Nat} {L : Nat → Nat} (hC : Tab C n L) (ch : List Int) (hch : chOK ch n) (hl : ch.length ≤ 1000) : Ev (fun k => Z28 k C ch) (classesL (keyC C ch) C.length) := by
 refine Ev.succ ?_
 simp only [Z28]
 have h8 := Zfj hC ch hch hl C.length 0 (by omega)
 exact Ev.bind h8 (Ev.some _)
end Go.Proofs.Ytpeflcbadgfebaa.Vs

set_option linter.unusedVariables false
set_option linter.unusedSimpArgs false
namespace Go.Proofs.Ytpeflcbadgfebaa.Vs
section
variable {α β : Type} [DecidableEq α] [DecidableEq β] (kL : Nat → α) (kA : Nat → β)
theorem ZBW (h : ∀ i j, kA i = kA j → kL i = kL j) {k : Nat} (hk : isFirst kL k = true) : isFirst kA k = true := by
 unfold isFirst at hk ⊢
 rw [List.all_eq_true] at hk ⊢
 intro i hi
 have := of_decide_eq_true (hk i hi)
 exact decide_eq_true (fun he => this (h i k he))
theorem ZnA {p q : Nat → Bool} (h : ∀ k, p k = true → q k = true) : ∀ l : List Nat, (l.filter p).length ≤ (l.filter q).length
 | [] => Nat.le_refl _
 | x :: l => by
  have ih := ZnA h l
  cases hp : p x with
  | true =>
   rw [List.filter_cons_of_pos hp, List.filter_cons_of_pos (h x hp)]
   simp only [List.length_cons]
   omega
  | false =>
   rw [List.filter_cons_of_neg (by simp [hp])]
   cases hq : q x with
   | true => rw [List.filter_cons_of_pos hq]; simp only [List.length_cons]; omega
   | false => rw [List.filter_cons_of_neg (by simp [hq])]; exact ih
theorem Zg4 {p q : Nat → Bool} (h : ∀ k, p k = true → q k = true) : ∀ l : List Nat, (l.filter p).length = (l.filter q).length → ∀ k ∈ l, p k = q k
 | [], _, k, hk => by cases hk
 | x :: l, he, k, hk => by
  have hle := ZnA h l
  cases hp : p x with
  | true =>
   have hq := h x hp
   rw [List.filter_cons_of_pos hp, List.filter_cons_of_pos hq] at he
   rcases List.mem_cons.1 hk with rfl | hk
   ·rw [hp, hq]
   ·exact Zg4 h l (by simpa using he) k hk
  | false =>
   rw [List.filter_cons_of_neg (by simp [hp])] at he
   cases hq : q x with
   | true =>
    rw [List.filter_cons_of_pos hq] at he
    simp only [List.length_cons] at he
    omega
   | false =>
    rw [List.filter_cons_of_neg (by simp [hq])] at he
    rcases List.mem_cons.1 hk with rfl | hk
    ·rw [hp, hq]
    ·exact Zg4 h l he k hk
theorem ZCP {γ : Type} [DecidableEq γ] (k : Nat → γ) (j : Nat) : isFirst k (fstOf k j) = true ∧ k j = k (fstOf k j) := (Z96 k).1 rfl
theorem Zuf (h : ∀ i j, kA i = kA j → kL i = kL j) (m : Nat) : (classesL kL m).length = (classesL kA m).length ↔ ∀ j, j < m → fstOf kL j = fstOf kA j := by
 have hl : ∀ {γ : Type} [DecidableEq γ] (k : Nat → γ), (classesL k m).length = ((List.range m).filter (isFirst k)).length := fun k => by unfold classesL firsts; rw [List.length_map]
 rw [hl, hl]
 constructor
 ·intro he j hj
  have hf := Zg4 (fun k => ZBW kL kA h) (List.range m) he
  obtain ⟨a1, a2⟩ := ZCP kA j
  have hle := ZCJ kA j
  have hL : isFirst kL (fstOf kA j) = true := by rw [hf _ (List.mem_range.2 (by omega))]; exact a1
  exact (Z96 kL).2 ⟨hL, h _ _ a2⟩
 ·intro he
  congr 1
  refine List.filter_congr (fun k hk => ?_)
  have hk := List.mem_range.1 hk
  have key : ∀ {γ : Type} [DecidableEq γ] (q : Nat → γ), isFirst q k = true ↔ fstOf q k = k := fun q => ⟨fun hh => (Z96 q).2 ⟨hh, rfl⟩, fun hh => ((Z96 q).1 hh).1⟩
  rw [Bool.eq_iff_iff, key, key, he k hk]
end
end Go.Proofs.Ytpeflcbadgfebaa.Vs

set_option linter.unusedVariables false
set_option linter.unusedSimpArgs false
namespace Go.Proofs.Ytpeflcbadgfebaa.Vs
def lexB : List Int → List Int → Bool
 | x :: a, y :: b => if x = y then lexB a b else decide (x < y)
 | _, _ => false
def befB (a b : List Int) : Bool := if a.length = b.length then lexB a b else decide (a.length < b.length)
theorem Zv2 : ∀ a, lexB a a = false
 | [] => rfl
 | x :: a => by simp only [lexB, if_true]; exact Zv2 a
theorem Zv5 : ∀ (a b c : List Int), a.length = b.length → b.length = c.length → lexB a b = true → lexB b c = true → lexB a c = true
 | [], b, c, h1, h2, h3, h4 => by
  obtain rfl : b = [] := List.eq_nil_of_length_eq_zero h1.symm
  simp [lexB] at h3
 | x :: a, [], c, h1, h2, h3, h4 => by simp at h1
 | x :: a, y :: b, [], h1, h2, h3, h4 => by simp at h2
 | x :: a, y :: b, z :: c, h1, h2, h3, h4 => by
  simp only [lexB] at h3 h4 ⊢
  by_cases hxy : x = y
  ·subst hxy
   rw [if_pos rfl] at h3
   by_cases hxz : x = z
   ·subst hxz
    rw [if_pos rfl] at h4 ⊢
    exact Zv5 a b c (by simpa using h1) (by simpa using h2) h3 h4
   ·rw [if_neg hxz] at h4 ⊢
    exact h4
  ·rw [if_neg hxy] at h3
   have h3 := of_decide_eq_true h3
   by_cases hyz : y = z
   ·subst hyz
    rw [if_neg hxy]
    exact decide_eq_true h3
   ·rw [if_neg hyz] at h4
    have h4 := of_decide_eq_true h4
    rw [if_neg (by omega)]
    exact decide_eq_true (by omega)
theorem ZzT : ∀ (a b : List Int), a.length = b.length → lexB a b = true ∨ a = b ∨ lexB b a = true
 | [], b, h => by
  obtain rfl : b = [] := List.eq_nil_of_length_eq_zero h.symm
  exact .inr (.inl rfl)
 | x :: a, [], h => by simp at h
 | x :: a, y :: b, h => by
  simp only [lexB]
  by_cases hxy : x = y
  ·subst hxy
   simp only [if_true]
   rcases ZzT a b (by simpa using h) with h1 | h1 | h1
   ·exact .inl h1
   ·exact .inr (.inl (by rw [h1]))
   ·exact .inr (.inr h1)
  ·rw [if_neg hxy, if_neg (fun he => hxy he.symm)]
   by_cases hlt : x < y
   ·exact .inl (decide_eq_true hlt)
   ·exact .inr (.inr (decide_eq_true (by omega)))
theorem Zux (a : List Int) : befB a a = false := by unfold befB; rw [if_pos rfl]; exact Zv2 a
theorem Zvq {a b c : List Int} (h1 : befB a b = true) (h2 : befB b c = true) : befB a c = true := by
 unfold befB at *
 by_cases e1 : a.length = b.length
 ·rw [if_pos e1] at h1
  by_cases e2 : b.length = c.length
  ·rw [if_pos e2] at h2
   rw [if_pos (e1.trans e2)]
   exact Zv5 a b c e1 e2 h1 h2
  ·rw [if_neg e2] at h2
   have h2 := of_decide_eq_true h2
   rw [if_neg (by omega)]
   exact decide_eq_true (by omega)
 ·rw [if_neg e1] at h1
  have h1 := of_decide_eq_true h1
  by_cases e2 : b.length = c.length
  ·rw [if_neg (by omega)]
   exact decide_eq_true (by omega)
  ·rw [if_neg e2] at h2
   have h2 := of_decide_eq_true h2
   rw [if_neg (by omega)]
   exact decide_eq_true (by omega)
theorem ZCu {a b : List Int} (h : befB a b = true) : befB b a = false := by
 cases h2 : befB b a with
 | false => rfl
 | true =>
  have := Zvq h h2
  rw [Zux] at this
  cases this
theorem ZCL (a b : List Int) : befB a b = true ∨ a = b ∨ befB b a = true := by
 unfold befB
 by_cases e : a.length = b.length
 ·rw [if_pos e, if_pos e.symm]
  exact ZzT a b e
 ·rw [if_neg e, if_neg (fun h => e h.symm)]
  by_cases hlt : a.length < b.length
  ·exact .inl (decide_eq_true hlt)
  ·exact .inr (.inr (decide_eq_true (by omega)))
def Inc (n : Int) : Int → List Int → Prop
 | _, [] => True
 | lo, x :: r => lo ≤ x ∧ x < n ∧ Inc n (x + 1) r
theorem ZkH {n : Int} : ∀ {lo : Int} {s : List Int}, Inc n lo s → s = [] ∨ lo + (s.length : Int) ≤ n
 | lo, [], h => .inl rfl
 | lo, x :: r, h => by
  obtain ⟨h1, h2, h3⟩ := h
  right
  rcases ZkH h3 with rfl | h4
  ·simp; omega
  ·simp only [List.length_cons]; omega
theorem ZAt {n : Int} : ∀ {lo : Int} {s : List Int}, Inc n lo s → ∀ x ∈ s, lo ≤ x ∧ x < n
 | lo, [], _, x, hx => by cases hx
 | lo, y :: r, h, x, hx => by
  obtain ⟨h1, h2, h3⟩ := h
  rcases List.mem_cons.1 hx with rfl | hx
  ·exact ⟨h1, h2⟩
  ·have := ZAt h3 x hx
   exact ⟨by omega, this.2⟩
def extL (n : Nat) : Nat → Nat → List (List Int)
 | 0, _ => [[]]
 | left + 1, lo => (List.range (n - (lo + left))).flatMap fun j => (extL n left (lo + j + 1)).map fun s => ((lo + j : Nat) : Int) :: s
theorem Z8f (n : Nat) : ∀ (left lo : Nat) (s : List Int), s ∈ extL n left lo ↔ s.length = left ∧ Inc n lo s
 | 0, lo, s => by
  simp only [extL, List.mem_singleton]
  constructor
  ·rintro rfl; exact ⟨rfl, trivial⟩
  ·rintro ⟨h, _⟩; exact List.eq_nil_of_length_eq_zero h
 | left + 1, lo, s => by
  simp only [extL, List.mem_flatMap, List.mem_range, List.mem_map]
  constructor
  ·rintro ⟨j, hj, r, hr, rfl⟩
   obtain ⟨h1, h2⟩ := (Z8f n left _ r).1 hr
   refine ⟨by simp [h1], by omega, by omega, ?_⟩
   have e : ((lo + j + 1 : Nat) : Int) = ((lo + j : Nat) : Int) + 1 := by omega
   rw [e] at h2
   exact h2
  ·rintro ⟨h1, h2⟩
   cases s with
   | nil => simp at h1
   | cons x r =>
    obtain ⟨g1, g2, g3⟩ := h2
    have hr : r.length = left := by simpa using h1
    have hb : x + 1 + (left : Int) ≤ n := by
     rcases ZkH g3 with rfl | h4
     ·simp at hr; omega
     ·rw [hr] at h4; exact h4
    refine ⟨x.toNat - lo, by omega, r, (Z8f n left _ r).2 ⟨hr, ?_⟩, ?_⟩
    ·have e : ((lo + (x.toNat - lo) + 1 : Nat) : Int) = x + 1 := by omega
     rw [e]
     exact g3
    ·have e : ((lo + (x.toNat - lo) : Nat) : Int) = x := by omega
     rw [e]
theorem Ztc (n : Nat) : ∀ (left lo : Nat), List.Pairwise (fun a b => befB a b = true) (extL n left lo)
 | 0, lo => by simp [extL]
 | left + 1, lo => by
  simp only [extL]
  rw [List.pairwise_flatMap]
  refine ⟨fun j _ => ?_, ?_⟩
  ·refine List.Pairwise.map _ (fun a b hab => ?_) (List.Pairwise.imp_of_mem (R := fun a b => befB a b = true) (S := fun a b => befB a b = true ∧ a.length = b.length) (fun {a b} ha hb h => ⟨h, by rw [((Z8f n left _ a).1 ha).1, ((Z8f n left _ b).1 hb).1]⟩) (Ztc n left (lo + j + 1)))
   obtain ⟨h1, h2⟩ := hab
   unfold befB at h1 ⊢
   rw [if_pos h2] at h1
   rw [if_pos (by simp [h2])]
   simp only [lexB, if_true]
   exact h1
  ·refine List.Pairwise.imp (fun {i j} hij => ?_) List.pairwise_lt_range
   intro a ha b hb
   obtain ⟨r, hr, rfl⟩ := List.mem_map.1 ha
   obtain ⟨q, hq, rfl⟩ := List.mem_map.1 hb
   have h1 := ((Z8f n left _ r).1 hr).1
   have h2 := ((Z8f n left _ q).1 hq).1
   unfold befB
   rw [if_pos (by simp [h1, h2])]
   simp only [lexB]
   rw [if_neg (by omega)]
   exact decide_eq_true (by omega)
def allL (n : Nat) : List (List Int) := (List.range (n + 1)).flatMap fun size => extL n size 0
theorem Zv3 (n : Nat) (s : List Int) : s ∈ allL n ↔ Inc n 0 s := by
 unfold allL
 simp only [List.mem_flatMap, List.mem_range]
 constructor
 ·rintro ⟨size, _, h⟩
  exact ((Z8f n size 0 s).1 h).2
 ·intro h
  refine ⟨s.length, ?_, (Z8f n s.length 0 s).2 ⟨rfl, h⟩⟩
  rcases ZkH h with rfl | h1
  ·simp
  ·omega
theorem ZAM (n : Nat) : List.Pairwise (fun a b => befB a b = true) (allL n) := by
 unfold allL
 rw [List.pairwise_flatMap]
 refine ⟨fun size _ => Ztc n size 0, List.Pairwise.imp (fun {i j} hij => ?_) List.pairwise_lt_range⟩
 intro a ha b hb
 have h1 := ((Z8f n i 0 a).1 ha).1
 have h2 := ((Z8f n j 0 b).1 hb).1
 unfold befB
 rw [if_neg (by omega)]
 exact decide_eq_true (by omega)
structure IsLeast (n : Nat) (P : List Int → Bool) (x : List Int) : Prop where
 inc : Inc n 0 x
 ok : P x = true
 least : ∀ y, Inc n 0 y → P y = true → befB y x = false
theorem IsLeast.eq {n : Nat} {P : List Int → Bool} {x y : List Int} (hx : IsLeast n P x) (hy : IsLeast n P y) : x = y := by
 rcases ZCL x y with h | h | h
 ·rw [hy.least x hx.inc hx.ok] at h; cases h
 ·exact h
 ·rw [hx.least y hy.inc hy.ok] at h; cases h
theorem Zwu {P : List Int → Bool} : ∀ {l : List (List Int)}, List.Pairwise (fun a b => befB a b = true) l → ∀ {x}, l.find? P = some x → x ∈ l ∧ P x = true ∧ ∀ y ∈ l, P y = true → befB y x = false
 | [], _, x, h => by simp at h
 | a :: l, hp, x, h => by
  obtain ⟨h1, h2⟩ := List.pairwise_cons.1 hp
  cases ha : P a with
  | true =>
   rw [List.find?_cons_of_pos ha] at h
   injection h with h
   subst h
   refine ⟨List.mem_cons_self .., ha, fun y hy _ => ?_⟩
   rcases List.mem_cons.1 hy with rfl | hy
   ·exact Zux _
   ·exact ZCu (h1 y hy)
  | false =>
   rw [List.find?_cons_of_neg (by simp [ha])] at h
   obtain ⟨g1, g2, g3⟩ := Zwu h2 h
   refine ⟨List.mem_cons_of_mem _ g1, g2, fun y hy hPy => ?_⟩
   rcases List.mem_cons.1 hy with rfl | hy
   ·rw [ha] at hPy; cases hPy
   ·exact g3 y hy hPy
theorem ZC9 {n : Nat} {P : List Int → Bool} {x : List Int} (h : (allL n).find? P = some x) : IsLeast n P x := by
 obtain ⟨h1, h2, h3⟩ := Zwu (ZAM n) h
 exact ⟨(Zv3 n x).1 h1, h2, fun y hy hPy => h3 y ((Zv3 n y).2 hy) hPy⟩
def foldB (P : List Int → Bool) : List (List Int) → List Int → List Int
 | [], best => best
 | l :: r, best => foldB P r (if befB l best && P l then l else best)
theorem Znu {n : Nat} {P : List Int → Bool} : ∀ (C : List (List Int)) (best : List Int) (seen : List (List Int)), (∀ l ∈ C, Inc n 0 l) → Inc n 0 best → P best = true → (∀ y ∈ seen, P y = true → befB y best = false) →
    Inc n 0 (foldB P C best) ∧ P (foldB P C best) = true ∧ ∀ y, y ∈ seen ∨ y ∈ C → P y = true → befB y (foldB P C best) = false
  | [], best, seen, hC, h1, h2, h3 => ⟨h1, h2, fun y hy hPy => by rcases hy with hy | hy; exact h3 y hy hPy; cases hy⟩
  | l :: C, best, seen, hC, h1, h2, h3 => by
    simp only [foldB]
    by_cases hc : (befB l best && P l) = true
    · rw [if_pos hc]
      rw [Bool.and_eq_true] at hc
      obtain ⟨g1, g2, g3⟩ := Znu (n := n) C l (l :: seen) (fun x hx => hC x (List.mem_cons_of_mem _ hx)) (hC l (List.mem_cons_self ..)) hc.2 (fun y hy hPy => by
        rcases List.mem_cons.1 hy with rfl | hy
        · exact Zux _
        · cases hb : befB y l with
          | false => rfl
          | true =>
            have := Zvq hb hc.1
            rw [h3 y hy hPy] at this
            cases this)
      refine ⟨g1, g2, fun y hy hPy => g3 y ?_ hPy⟩
      rcases hy with hy | hy
      · exact .inl (List.mem_cons_of_mem _ hy)
      · rcases List.mem_cons.1 hy with rfl | hy
        · exact .inl (List.mem_cons_self ..)
        · exact .inr hy
    · rw [if_neg hc]
      obtain ⟨g1, g2, g3⟩ := Znu (n := n) C best (l :: seen) (fun x hx => hC x (List.mem_cons_of_mem _ hx)) h1 h2 (fun y hy hPy => by
        rcases List.mem_cons.1 hy with rfl | hy
        · cases hb : befB y best with
          | false => rfl
          | true => rw [hb, hPy] at hc; exact (hc rfl).elim
        · exact h3 y hy hPy)
      refine ⟨g1, g2, fun y hy hPy => g3 y ?_ hPy⟩
      rcases hy with hy | hy
      · exact .inl (List.mem_cons_of_mem _ hy)
      · rcases List.mem_cons.1 hy with rfl | hy
        · exact .inl (List.mem_cons_self ..)
        · exact .inr hy
def choiceL (n set : Nat) : List Int := ((List.range n).filter fun t => decide (set / 2 ^ t % 2 = 1)).map fun (t : Nat) => (t : Int)
def setOf (p : Nat → Bool) : Nat → Nat
 | 0 => 0
 | n + 1 => setOf p n + (if p n then 2 ^ n else 0)
theorem ZtL (p : Nat → Bool) : ∀ n, setOf p n < 2 ^ n
 | 0 => by simp [setOf]
 | n + 1 => by
  have := ZtL p n
  simp only [setOf, Nat.pow_succ]
  split <;> omega
theorem ZqA (p : Nat → Bool) : ∀ (n t : Nat), t < n → setOf p n / 2 ^ t % 2 = if p t then 1 else 0
 | 0, t, h => by omega
 | n + 1, t, h => by
  have hlt := ZtL p n
  simp only [setOf]
  rcases Nat.lt_or_eq_of_le (Nat.le_of_lt_succ h) with h1 | h1
  ·have ih := ZqA p n t h1
   split
   ·obtain ⟨d, rfl⟩ : ∃ d, n = t + (d + 1) := ⟨n - t - 1, by omega⟩
    have e : 2 ^ (t + (d + 1)) = 2 ^ t * (2 * 2 ^ d) := by rw [Nat.pow_add, Nat.pow_succ, Nat.mul_comm (2 ^ d) 2]
    rw [e, Nat.add_mul_div_left _ _ (Nat.two_pow_pos t), Nat.add_mul_mod_self_left]
    exact ih
   ·rw [Nat.add_zero]; exact ih
  ·subst h1
   split
   ·rw [Nat.add_div_right _ (Nat.two_pow_pos t), Nat.div_eq_of_lt hlt]
   ·rw [Nat.add_zero, Nat.div_eq_of_lt hlt]
theorem Zy7 : ∀ {a b : List Int}, List.Pairwise (fun x y : Int => x < y) a → List.Pairwise (fun x y : Int => x < y) b → (∀ x, x ∈ a ↔ x ∈ b) → a = b
 | [], [], _, _, _ => rfl
 | [], y :: b, _, _, h => by have := (h y).2 (List.mem_cons_self ..); cases this
 | x :: a, [], _, _, h => by have := (h x).1 (List.mem_cons_self ..); cases this
 | x :: a, y :: b, ha, hb, h => by
  obtain ⟨a1, a2⟩ := List.pairwise_cons.1 ha
  obtain ⟨b1, b2⟩ := List.pairwise_cons.1 hb
  have hxy : x = y := by
   rcases List.mem_cons.1 ((h x).1 (List.mem_cons_self ..)) with h1 | h1
   ·exact h1
   ·rcases List.mem_cons.1 ((h y).2 (List.mem_cons_self ..)) with h2 | h2
    ·exact h2.symm
    ·have := b1 x h1
     have := a1 y h2
     omega
  subst hxy
  congr 1
  refine Zy7 a2 b2 (fun z => ?_)
  constructor
  ·intro hz
   rcases List.mem_cons.1 ((h z).1 (List.mem_cons_of_mem _ hz)) with rfl | h1
   ·have := a1 z hz; omega
   ·exact h1
  ·intro hz
   rcases List.mem_cons.1 ((h z).2 (List.mem_cons_of_mem _ hz)) with rfl | h1
   ·have := b1 z hz; omega
   ·exact h1
theorem Zwi {n : Int} : ∀ {lo : Int} {s : List Int}, Inc n lo s → List.Pairwise (fun x y : Int => x < y) s
 | lo, [], _ => List.Pairwise.nil
 | lo, x :: r, h => List.pairwise_cons.2 ⟨fun y hy => by have := (ZAt h.2.2 y hy).1; omega, Zwi h.2.2⟩
theorem ZfF {n : Int} : ∀ {lo : Int} {s : List Int}, List.Pairwise (fun x y : Int => x < y) s → (∀ x ∈ s, lo ≤ x ∧ x < n) → Inc n lo s
 | lo, [], _, _ => trivial
 | lo, x :: r, hp, h => by
  obtain ⟨h1, h2⟩ := List.pairwise_cons.1 hp
  have hx := h x (List.mem_cons_self ..)
  exact ⟨hx.1, hx.2, ZfF h2 (fun y hy => ⟨by have := h1 y hy; omega, (h y (List.mem_cons_of_mem _ hy)).2⟩)⟩
theorem Zle (n set : Nat) : List.Pairwise (fun x y : Int => x < y) (choiceL n set) := by
 unfold choiceL
 exact List.Pairwise.map _ (fun a b h => by omega) (List.Pairwise.filter _ List.pairwise_lt_range)
theorem ZjX (n set : Nat) (x : Int) : x ∈ choiceL n set ↔ ∃ t : Nat, t < n ∧ x = (t : Int) ∧ set / 2 ^ t % 2 = 1 := by
 unfold choiceL
 simp only [List.mem_map, List.mem_filter, List.mem_range, decide_eq_true_eq]
 constructor
 ·rintro ⟨t, ⟨h1, h2⟩, rfl⟩; exact ⟨t, h1, rfl, h2⟩
 ·rintro ⟨t, h1, rfl, h2⟩; exact ⟨t, ⟨h1, h2⟩, rfl⟩
theorem ZAL (n set : Nat) : Inc n 0 (choiceL n set) := by
 refine ZfF (Zle n set) (fun x hx => ?_)
 obtain ⟨t, h1, rfl, _⟩ := (ZjX n set x).1 hx
 omega
theorem ZCa {n : Nat} {s : List Int} (h : Inc n 0 s) : ∃ set, set < 2 ^ n ∧ choiceL n set = s := by
 refine ⟨setOf (fun t => decide ((t : Int) ∈ s)) n, ZtL _ n, Zy7 (Zle _ _) (Zwi h) (fun x => ?_)⟩
 rw [ZjX]
 constructor
 ·rintro ⟨t, h1, rfl, h2⟩
  rw [ZqA _ n t h1] at h2
  split at h2
  ·rename_i hp
   exact of_decide_eq_true hp
  ·cases h2
 ·intro hx
  obtain ⟨h0, h1⟩ := ZAt h x hx
  refine ⟨x.toNat, by omega, by omega, ?_⟩
  rw [ZqA _ n _ (by omega)]
  have e : ((x.toNat : Nat) : Int) = x := by omega
  rw [if_pos (decide_eq_true (by rw [e]; exact hx))]
theorem ZhL (n : Nat) (P : List Int → Bool) (all : List Int) (ha : Inc n 0 all) (hP : P all = true) : IsLeast n P (foldB P ((List.range (2 ^ n)).map (choiceL n)) all) := by
 obtain ⟨g1, g2, g3⟩ := Znu (n := n) (P := P) ((List.range (2 ^ n)).map (choiceL n)) all [] (fun l hl => by
  obtain ⟨s, _, rfl⟩ := List.mem_map.1 hl
  exact ZAL n s) ha hP (fun y hy => by cases hy)
 exact ⟨g1, g2, fun y hy hPy => by
  obtain ⟨s, hs, rfl⟩ := ZCa hy
  exact g3 _ (.inr (List.mem_map.2 ⟨s, List.mem_range.2 hs, rfl⟩)) hPy⟩
theorem ZC3 (n : Nat) (P : List Int → Bool) (all : List Int) (ha : Inc n 0 all) (hP : P all = true) : (allL n).find? P = some (foldB P ((List.range (2 ^ n)).map (choiceL n)) all) := by
 have hf := ZhL n P all ha hP
 cases hd : (allL n).find? P with
 | none =>
  have := List.find?_eq_none.1 hd all ((Zv3 n all).2 ha)
  exact (this hP).elim
 | some x => rw [(ZC9 hd).eq hf]
end Go.Proofs.Ytpeflcbadgfebaa.Vs

set_option linter.unusedVariables false
set_option linter.unusedSimpArgs false
namespace Go.Proofs.Ytpeflcbadgfebaa.Vs
open Go.RowKit
theorem ZCs {u : Nat} (h : u ≤ 40) : (0 : Int) < 2 ^ u ∧ (2 : Int) ^ u ≤ 1099511627776 := by
 have h1 : (0 : Int) < 2 ^ u := Int.pow_pos (by omega)
 have h2 : (2 : Nat) ^ u ≤ 2 ^ 40 := Nat.pow_le_pow_right (by omega) h
 have h3 : ((2 ^ u : Nat) : Int) ≤ ((2 ^ 40 : Nat) : Int) := by exact_mod_cast h2
 refine ⟨h1, ?_⟩
 have h4 : ((2 ^ u : Nat) : Int) = (2 : Int) ^ u := by simp
 rw [h4] at h3
 have h5 : ((2 ^ 40 : Nat) : Int) = 1099511627776 := by decide
 omega
theorem Zma {n : Int} (h0 : 0 ≤ n) (h1 : n ≤ 9223372036854775807) : IntKind.wrap IntKind.u64 n = n := by
 simp [IntKind.wrap, IntKind.bits, IntKind.signed]
 omega
theorem Zv8 {u : Nat} (h : u ≤ 40) : shlS 1 (u : Int) = ((2 ^ u : Nat) : Int) := by
 rw [ZBE, Int.toNat_natCast, Nat.min_eq_left (by omega)]
 have hp := ZCs h
 rw [w64 (by omega) (by omega)]
 simp
theorem ZDe (n : Int) (h0 : 0 ≤ n) (h1 : n < 2 ^ 62) : IntKind.i64.wrap n = n := by
 rw [IntKind.wrap_i64]
 have : (2 : Int) ^ 62 = 4611686018427387904 := by decide
 omega
theorem ZDd {v : Int} (h0 : 0 ≤ v) (h1 : v < 1099511627776) {k : Nat} (hk : k ≤ 40) : bits BinOp.and IntKind.i64 (Int.fdiv v (2 ^ min (Int.toNat (k : Int)) (IntKind.bits IntKind.i64))) 1 = v / 2 ^ k % 2 := by
 have hp := ZCs hk
 rw [Int.toNat_natCast, show IntKind.bits IntKind.i64 = 64 from rfl, Nat.min_eq_left (by omega), Int.fdiv_eq_ediv_of_nonneg _ (by omega)]
 have hd0 : 0 ≤ v / 2 ^ k := Int.ediv_nonneg h0 (by omega)
 have hd1 : v / 2 ^ k ≤ v := Int.ediv_le_self _ h0
 have := bits_mask .i64 62 (by decide) ZDe 1 (by decide) (v / 2 ^ k) hd0 (by rw [show (2 : Int) ^ 62 = 4611686018427387904 by decide]; omega)
 simpa using this
theorem ZAh (n set : Nat) : choiceL (n + 1) set = choiceL n set ++ (if set / 2 ^ n % 2 = 1 then [(n : Int)] else []) := by
 unfold choiceL
 rw [List.range_succ, List.filter_append, List.map_append]
 congr 1
 by_cases h : set / 2 ^ n % 2 = 1 <;> simp [List.filter, h]
theorem Zkp (n set : Nat) : (choiceL n set).length ≤ n := by
 unfold choiceL
 rw [List.length_map]
 exact Nat.le_trans (List.length_filter_le _ _) (by simp)
theorem ZvK (n set : Nat) : chOK (choiceL n set) n := fun t ht => by
 obtain ⟨j, h1, rfl, _⟩ := (ZjX n set t).1 ht
 omega
theorem Zgk (n set : Nat) (hn : n ≤ 10) (hs : set ≤ 1024) : ∀ (d i : Nat), i + d = n → Ev (fun k => Z2I k (choiceL i set) (set : Int) (n : Int) (i : Int)) (choiceL n set)
 | 0, i, h => by
  obtain rfl : i = n := by omega
  refine Ev.succ ?_
  simp only [Z2I, Int.lt_irrefl, decide_false, Bool.false_eq_true, if_false]
  exact Ev.some _
 | d + 1, i, h => by
  have ih := Zgk n set hn hs d (i + 1) (by omega)
  rw [ZAh] at ih
  have h1 : (i : Int) < (n : Int) := by omega
  have h2 : ¬ (i : Int) < 0 := by omega
  have h5 : wrap64 ((i : Int) + 1) = ((i + 1 : Nat) : Int) := by rw [w64 (by omega) (by omega)]; omega
  have hb : ((set : Int) / 2 ^ i % 2 = 1) ↔ set / 2 ^ i % 2 = 1 := by
   have : ((set / 2 ^ i % 2 : Nat) : Int) = (set : Int) / 2 ^ i % 2 := by simp
   omega
  have hl := Zkp i set
  have hal : (choiceL i set).length + 1 ≤ 140737488355328 / 8 := by omega
  refine Ev.succ ?_
  simp only [Z2I, h1, decide_true, if_true, Zma (show (0 : Int) ≤ (i : Int) by omega) (by omega), h2, if_false, ZDd (show (0 : Int) ≤ (set : Int) by omega) (by omega) (show i ≤ 40 by omega), h5, hb]
  by_cases hc : set / 2 ^ i % 2 = 1
  ·rw [if_pos hc] at ih
   simp only [hc, decide_true, if_true, List.length_singleton, hal]
   exact ih
  ·rw [if_neg hc, List.append_nil] at ih
   simp only [hc, decide_false, Bool.false_eq_true, if_false]
   exact ih
theorem ZiR (n set : Nat) (hn : n ≤ 10) (hs : set ≤ 1024) : Ev (fun k => Z80 k (set : Int) (n : Int)) (choiceL n set) := by
 refine Ev.succ ?_
 simp only [Z80]
 have h8 := Zgk n set hn hs n 0 (by omega)
 exact Ev.bind h8 (Ev.some _)
theorem Zgw : ∀ (r s pre pre' : List Int), s.length = r.length → pre'.length = pre.length → (pre ++ r).length ≤ 9223372036854775806 → Ev (fun k => Z45 k (pre' ++ s) (pre ++ r) ((pre ++ r).length : Int) (pre.length : Int)) (if r = s then LR.go () else LR.ret (lexB r s))
 | [], s, pre, pre', h, hp, hl => by
  obtain rfl : s = [] := List.eq_nil_of_length_eq_zero h
  refine Ev.succ ?_
  simp only [Z45, Z7, decide_false, Bool.false_eq_true, if_false, if_true]
  exact Ev.some _
 | x :: r, [], pre, pre', h, hp, hl => by simp at h
 | x :: r, y :: s, pre, pre', h, hp, hl => by
  have ih := Zgw r s (pre ++ [x]) (pre' ++ [y]) (by simpa using h) (by simpa using hp) (by simpa using hl)
  have l2 : (pre.length : Int) < ((pre' ++ y :: s).length : Int) := by rw [← hp]; exact Z5 _ _ _
  have g2 : List.getD (pre' ++ y :: s) pre.length 0 = y := by rw [← hp]; exact Z4 _ _ _ _
  refine Ev.succ ?_
  simp only [Z45, Z5, Za, l2, decide_true, if_true, Int.toNat_natCast, Z4, g2]
  rw [Z6 pre x r (by omega)]
  rw [← Z0, ← Z0] at ih
  by_cases hxy : x = y
  ·subst hxy
   simp only [ne_eq, not_true_eq_false, decide_false, Bool.false_eq_true, if_false]
   refine ih.congr ?_
   by_cases hrs : r = s <;> simp [hrs, lexB]
  ·simp only [ne_eq, hxy, not_false_eq_true, decide_true, if_true]
   refine Ev.of ?_
   rw [if_neg (by intro hc; injection hc with h1 h2; exact hxy h1)]
   simp only [lexB, hxy, if_false]
theorem Zjg (l m : List Int) (hl : l.length ≤ 9223372036854775806) : Ev (fun k => Z84 k l m) (befB l m) := by
 refine Ev.succ ?_
 simp only [Z84]
 unfold befB
 by_cases h : l.length = m.length
 ·simp only [h, ne_eq, not_true_eq_false, decide_false, Bool.false_eq_true, if_false, if_true]
  have h8 := Zgw l m [] [] h.symm rfl (by simpa using hl)
  simp only [List.nil_append, List.length_nil, Int.natCast_zero, h] at h8
  refine Ev.bind h8 ?_
  by_cases hlm : l = m
  ·rw [if_pos hlm]; subst hlm; rw [Zv2]; exact Ev.go (Ev.some _)
  ·rw [if_neg hlm]; exact Ev.ret (Ev.some _)
 ·have h2 : ¬ (l.length : Int) = (m.length : Int) := by omega
  simp only [ne_eq, h2, h, not_false_eq_true, decide_true, if_true, if_false, Int.ofNat_lt]
  exact Ev.some _
theorem Zoh : ∀ (r s pre pre' : List Int), s.length = r.length → pre'.length = pre.length → (pre ++ r).length ≤ 9223372036854775806 → Ev (fun k => Z5N k (pre ++ r) (pre' ++ s) ((pre ++ r).length : Int) (pre.length : Int)) (if r = s then LR.go () else LR.ret false)
 | [], s, pre, pre', h, hp, hl => by
  obtain rfl : s = [] := List.eq_nil_of_length_eq_zero h
  refine Ev.succ ?_
  simp only [Z5N, Z7, decide_false, Bool.false_eq_true, if_false, if_true]
  exact Ev.some _
 | x :: r, [], pre, pre', h, hp, hl => by simp at h
 | x :: r, y :: s, pre, pre', h, hp, hl => by
  have ih := Zoh r s (pre ++ [x]) (pre' ++ [y]) (by simpa using h) (by simpa using hp) (by simpa using hl)
  have l2 : (pre.length : Int) < ((pre' ++ y :: s).length : Int) := by rw [← hp]; exact Z5 _ _ _
  have g2 : List.getD (pre' ++ y :: s) pre.length 0 = y := by rw [← hp]; exact Z4 _ _ _ _
  refine Ev.succ ?_
  simp only [Z5N, Z5, Za, l2, decide_true, if_true, Int.toNat_natCast, Z4, g2]
  rw [Z6 pre x r (by omega)]
  rw [← Z0, ← Z0] at ih
  by_cases hxy : x = y
  ·subst hxy
   simp only [ne_eq, not_true_eq_false, decide_false, Bool.false_eq_true, if_false]
   refine ih.congr ?_
   by_cases hrs : r = s <;> simp [hrs]
  ·simp only [ne_eq, hxy, not_false_eq_true, decide_true, if_true]
   refine Ev.of ?_
   rw [if_neg (by intro hc; injection hc with h1 h2; exact hxy h1)]
theorem Ztd (l m : List Int) (hl : l.length ≤ 9223372036854775806) : Ev (fun k => Z9O k l m) (decide (l = m)) := by
 refine Ev.succ ?_
 simp only [Z9O]
 by_cases h : l.length = m.length
 ·simp only [h, ne_eq, not_true_eq_false, decide_false, Bool.false_eq_true, if_false]
  have h8 := Zoh l m [] [] h.symm rfl (by simpa using hl)
  simp only [List.nil_append, List.length_nil, Int.natCast_zero, h] at h8
  refine Ev.bind h8 ?_
  by_cases hlm : l = m
  ·rw [if_pos hlm]; simp only [hlm, decide_true]; exact Ev.go (Ev.some _)
  ·rw [if_neg hlm]; simp only [hlm, decide_false]; exact Ev.ret (Ev.some _)
 ·have h2 : ¬ (l.length : Int) = (m.length : Int) := by omega
  have h3 : ¬ l = m := fun hc => h (by rw [hc])
  simp only [ne_eq, h2, not_false_eq_true, decide_true, if_true, h3, decide_false]
  exact Ev.some _
def setsL (n s d : Nat) : List (List Int) := (List.range d).map fun j => choiceL n (s + j)
theorem Zwd (n s d : Nat) : setsL n s (d + 1) = choiceL n s :: setsL n (s + 1) d := by
 unfold setsL
 rw [List.range_succ_eq_map, List.map_cons, List.map_map]
 congr 1
 refine List.map_congr_left (fun j _ => ?_)
 show choiceL n (s + (j + 1)) = choiceL n (s + 1 + j)
 rw [show s + (j + 1) = s + 1 + j by omega]
theorem ZxW (n : Nat) : setsL n 0 (2 ^ n) = (List.range (2 ^ n)).map (choiceL n) := by
 unfold setsL
 exact List.map_congr_left (fun j _ => by rw [Nat.zero_add])
def detI (C : List (List (List FallD))) (ch : List Int) : List Int := idxFrom (fun j => !decide (keyC C ch 0 = keyC C ch (j + 1))) 0 (C.length - 1)
def tellP (C : List (List (List FallD))) (n : Nat) (l : List Int) : Bool := decide (classI C l C.length = classI C (rangeI n) C.length)
def detPP (C : List (List (List FallD))) (n : Nat) (l : List Int) : Bool := decide (detI C l = detI C (rangeI n))
theorem ZCm {n : Nat} (hn : n ≤ 10) : 2 ^ n ≤ 1024 := Nat.le_trans (Nat.pow_le_pow_right (by omega) hn) (by decide)
theorem Zda {C : List (List (List FallD))} {n : Nat} {L : Nat → Nat} (hC : Tab C n L) (hn : n ≤ 10) (T : List (List Int)) (hT : T.length = n) : ∀ (d s : Nat) (best : List Int), s + d = 2 ^ n → Ev (fun k => ZE k (marksM C n C.length) best (classI C (rangeI n) C.length) T (s : Int)) (foldB (tellP C n) (setsL n s d) best)
 | 0, s, best, h => by
  obtain rfl : s = 2 ^ n := by omega
  have hsh : shlS 1 (IntKind.wrap IntKind.u64 (n : Int)) = ((2 ^ n : Nat) : Int) := by rw [Zma (by omega) (by omega)]; exact Zv8 (by omega)
  refine Ev.succ ?_
  simp only [ZE, hT, hsh, Int.lt_irrefl, decide_false, Bool.false_eq_true, if_false]
  exact Ev.some _
 | d + 1, s, best, h => by
  have hp := ZCm hn
  have hsh : shlS 1 (IntKind.wrap IntKind.u64 (n : Int)) = ((2 ^ n : Nat) : Int) := by rw [Zma (by omega) (by omega)]; exact Zv8 (by omega)
  have h1 : (s : Int) < ((2 ^ n : Nat) : Int) := by omega
  have h5 : wrap64 ((s : Int) + 1) = ((s + 1 : Nat) : Int) := by rw [w64 (by omega) (by omega)]; omega
  have hl := Zkp n s
  have ih := fun b => Zda hC hn T hT d (s + 1) b (by omega)
  rw [Zwd]
  refine Ev.succ ?_
  simp only [ZE, hsh, h1, decide_true, if_true, hT, h5, foldB]
  refine Ev.bind (ZiR n s hn (by omega)) ?_
  refine Ev.bind (Zjg (choiceL n s) best (by omega)) ?_
  cases hb : befB (choiceL n s) best with
  | false => simp only [Bool.false_eq_true, if_false, Bool.false_and]; exact ih _
  | true =>
   simp only [if_true, Bool.true_and]
   refine Ev.bind (ZhA hC _ (ZvK n s) (by omega)) (Ev.bind (Ztd _ _ (by rw [Zws]; have := hC.len; omega)) ?_)
   show Ev _ (foldB (tellP C n) (setsL n (s + 1) d) (if tellP C n (choiceL n s) = true then choiceL n s else best))
   unfold tellP
   by_cases hc : classI C (choiceL n s) C.length = classI C (rangeI n) C.length
   ·simp only [hc, decide_true, if_true]; exact ih _
   ·simp only [hc, decide_false, Bool.false_eq_true, if_false]; exact ih _
theorem Zbz {C : List (List (List FallD))} {n : Nat} {L : Nat → Nat} (hC : Tab C n L) (hn : n ≤ 10) (T : List (List Int)) (hT : T.length = n) : ∀ (d s : Nat) (best : List Int), s + d = 2 ^ n → Ev (fun k => Zv k (marksM C n C.length) best (detI C (rangeI n)) T (s : Int)) (foldB (detPP C n) (setsL n s d) best)
 | 0, s, best, h => by
  obtain rfl : s = 2 ^ n := by omega
  have hsh : shlS 1 (IntKind.wrap IntKind.u64 (n : Int)) = ((2 ^ n : Nat) : Int) := by rw [Zma (by omega) (by omega)]; exact Zv8 (by omega)
  refine Ev.succ ?_
  simp only [Zv, hT, hsh, Int.lt_irrefl, decide_false, Bool.false_eq_true, if_false]
  exact Ev.some _
 | d + 1, s, best, h => by
  have hp := ZCm hn
  have hsh : shlS 1 (IntKind.wrap IntKind.u64 (n : Int)) = ((2 ^ n : Nat) : Int) := by rw [Zma (by omega) (by omega)]; exact Zv8 (by omega)
  have h1 : (s : Int) < ((2 ^ n : Nat) : Int) := by omega
  have h5 : wrap64 ((s : Int) + 1) = ((s + 1 : Nat) : Int) := by rw [w64 (by omega) (by omega)]; omega
  have hl := Zkp n s
  have ih := fun b => Zbz hC hn T hT d (s + 1) b (by omega)
  rw [Zwd]
  refine Ev.succ ?_
  simp only [Zv, hsh, h1, decide_true, if_true, hT, h5, foldB]
  refine Ev.bind (ZiR n s hn (by omega)) ?_
  refine Ev.bind (Zjg (choiceL n s) best (by omega)) ?_
  cases hb : befB (choiceL n s) best with
  | false => simp only [Bool.false_eq_true, if_false, Bool.false_and]; exact ih _
  | true =>
   simp only [if_true, Bool.true_and]
   have hdl := Zf9 (fun j => !decide (keyC C (choiceL n s) 0 = keyC C (choiceL n s) (j + 1))) (C.length - 1) 0
   have := hC.len
   refine Ev.bind (a := detI C (choiceL n s)) (Zg9 hC _ (ZvK n s) (by omega)) (Ev.bind (Ztd _ _ (by unfold detI; omega)) ?_)
   show Ev _ (foldB (detPP C n) (setsL n (s + 1) d) (if detPP C n (choiceL n s) = true then choiceL n s else best))
   unfold detPP
   by_cases hc : detI C (choiceL n s) = detI C (rangeI n)
   ·simp only [hc, decide_true, if_true]; exact ih _
   ·simp only [hc, decide_false, Bool.false_eq_true, if_false]; exact ih _
def Z5n (b : BoardD) (T : List (List Int)) : List Int × Bool := if (smallB b && testsOK b T) then (foldB (tellP (casesL b T) T.length) ((List.range (2 ^ T.length)).map (choiceL T.length)) (rangeI T.length), true) else ([], false)
def Z3i (b : BoardD) (T : List (List Int)) : List Int × Bool := if (smallB b && testsOK b T) then (foldB (detPP (casesL b T) T.length) ((List.range (2 ^ T.length)).map (choiceL T.length)) (rangeI T.length), true) else ([], false)
theorem Zoz (b : BoardD) (T : List (List Int)) (h0 : b.2.2.length ≤ 9223372036854775806) (h1 : T.length ≤ 9223372036854775806) (hx : ∀ x ∈ T, x.length ≤ 9223372036854775806) : Ev (fun k => Z7n k b T) (Z5n b T) := by
 refine Ev.succ ?_
 simp only [Z7n]
 unfold Z5n
 refine Ev.bind (a := (smallB b && testsOK b T)) (ZkI b T h0 h1 hx) ?_
 cases g0 : (smallB b && testsOK b T) with
 | false => simp only [Bool.not_false, if_true, Bool.false_eq_true, if_false, Bool.false_and, Bool.and_false]; exact Ev.some _
 | true =>
  simp only [Bool.not_true, Bool.false_eq_true, if_false, if_true, Bool.and_self]
  obtain ⟨hb, hn, hT⟩ := ZeL g0
  have hT1 : ∀ t ∈ T, t.length ≤ 1000 ∧ colsOK b t := fun t ht => ⟨by have := (hT t ht).1; omega, (hT t ht).2⟩
  have hC := Zfg hb hT1
  have h8 := Zda hC hn T rfl (2 ^ T.length) 0 (rangeI T.length) (by omega)
  rw [ZxW] at h8
  exact Ev.bind (Zlk b hb T hT1 (by omega)) (Ev.bind (Zr5 T (by omega)) (Ev.bind (ZhA hC _ (Zff _) (by rw [Zbp]; omega)) (Ev.bind h8 (Ev.some _))))
theorem Zmj (b : BoardD) (T : List (List Int)) (h0 : b.2.2.length ≤ 9223372036854775806) (h1 : T.length ≤ 9223372036854775806) (hx : ∀ x ∈ T, x.length ≤ 9223372036854775806) : Ev (fun k => Z5T k b T) (Z3i b T) := by
 refine Ev.succ ?_
 simp only [Z5T]
 unfold Z3i
 refine Ev.bind (a := (smallB b && testsOK b T)) (ZkI b T h0 h1 hx) ?_
 cases g0 : (smallB b && testsOK b T) with
 | false => simp only [Bool.not_false, if_true, Bool.false_eq_true, if_false, Bool.false_and, Bool.and_false]; exact Ev.some _
 | true =>
  simp only [Bool.not_true, Bool.false_eq_true, if_false, if_true, Bool.and_self]
  obtain ⟨hb, hn, hT⟩ := ZeL g0
  have hT1 : ∀ t ∈ T, t.length ≤ 1000 ∧ colsOK b t := fun t ht => ⟨by have := (hT t ht).1; omega, (hT t ht).2⟩
  have hC := Zfg hb hT1
  have h8 := Zbz hC hn T rfl (2 ^ T.length) 0 (rangeI T.length) (by omega)
  rw [ZxW] at h8
  exact Ev.bind (Zlk b hb T hT1 (by omega)) (Ev.bind (Zr5 T (by omega)) (Ev.bind (Zg9 hC _ (Zff _) (by rw [Zbp]; omega)) (Ev.bind h8 (Ev.some _))))
end Go.Proofs.Ytpeflcbadgfebaa.Vs

set_option linter.unusedVariables false
set_option linter.unusedSimpArgs false
namespace Go.Proofs.Ytpeflcbadgfebaa.Vs
open Go.RowKit

inductive KP where
 | tree (agg : Bool) (t : Ty)
 | cp (t : Ty)
 | fn (f : Nat) (ts : List Ty)
@[reducible] def TupT : List Ty → Type
 | [] => Unit
 | t :: ts => t.D × TupT ts
@[reducible] def KP.D : KP → Type
 | .tree _ t => t.D
 | .cp t => t.D
 | .fn _ ts => TupT ts
@[reducible] def KTup : List KP → Type
 | [] => Unit
 | p :: ps => p.D × KTup ps

def readCp (st : St) (ex : List Nat) (t : Ty) : At → Option t.D
 | .es i u x 0 => if ex.contains i then none else if h : u = t then some (h ▸ x) else none
 | .ptr j 0 => if ex.contains j then none else match st.objs[j]? with
  | some (.box _ cells) => if cells.length = t.sz then readTree st ex t cells else none
  | _ => none
 | _ => none
def readCps (st : St) (ex : List Nat) : (ts : List Ty) → List At → Option (TupT ts)
 | [], [] => some ()
 | t :: ts, x :: l => match readCp st ex t x with
  | some y => match readCps st ex ts l with
   | some ys => some (y, ys)
   | none => none
  | none => none
 | _, _ => none
def readFn (st : St) (ex : List Nat) (f : Nat) (ts : List Ty) : At → Option (TupT ts)
 | .cv q => match st.objs[q]? with
  | some (.clo f' l) => if f' = f then readCps st ex ts l else none
  | _ => none
 | _ => none
def readK (st : St) (ex : List Nat) : (p : KP) → TV → Option p.D
 | .tree agg t, x => match x.cells with
  | some l => if aggOK agg x = true then readTree st ex t l else none
  | none => none
 | .cp t, .sv (.at x) => readCp st ex t x
 | .fn f ts, .sv (.at x) => readFn st ex f ts x
 | _, _ => none
def readKs (st : St) (ex : List Nat) : (ps : List KP) → List TV → Option (KTup ps)
 | [], [] => some ()
 | p :: ps, x :: xs => match readK st ex p x with
  | some y => match readKs st ex ps xs with
   | some ys => some (y, ys)
   | none => none
  | none => none
 | _, _ => none

def CpR (w : World) (S : Nat → Prop) (t : Ty) (x : t.D) (v : Value) : Prop :=
 ∃ (a : Addr) (cs : List Value), S a.block ∧ v = .pointer (some (a.add 0)) ∧ cs.length = t.sz ∧ (∀ (j : Nat) u, cs[j]? = some u → w.cell? (a.add j) = some u) ∧ Rd t w S x cs
def CpsR (w : World) (S : Nat → Prop) : (ts : List Ty) → TupT ts → List Value → Prop
 | [], _, vs => vs = []
 | t :: ts, x, vs => ∃ v vs', vs = v :: vs' ∧ CpR w S t x.1 v ∧ CpsR w S ts x.2 vs'
def FnR (w : World) (S : Nat → Prop) (f : Nat) (ts : List Ty) (x : TupT ts) (v : Value) : Prop :=
 ∃ vs : List Value, v = .func (.func f) #[] vs.toArray ∧ CpsR w S ts x vs
def KR (w : World) (S : Nat → Prop) : (p : KP) → p.D → Value → Prop
 | .tree agg t, x, v => Shaped agg v ∧ Rd t w S x v.cells.toList
 | .cp t, x, v => CpR w S t x v
 | .fn f ts, x, v => FnR w S f ts x v
def KsR (w : World) (S : Nat → Prop) : (ps : List KP) → KTup ps → List Value → Prop
 | [], _, vs => vs = []
 | p :: ps, x, vs => ∃ v vs', vs = v :: vs' ∧ KR w S p x.1 v ∧ KsR w S ps x.2 vs'

section
variable {P : Program} {w w1 w0 : World} {S0 : Own} {st : St} {μ : List ORec} {a : Act}
theorem ZdC (h : Rel w0 S0 st μ a w) {ex : List Nat} {t : Ty} {x : At} {v : Value} {y : t.D} (hx : AR μ w x v) (hr : readCp st ex t x = some y) : CpR w (okBut μ ex) t y v := by
 unfold readCp at hr
 split at hr
 ·rename_i i u x0
  split at hr
  ·cases hr
  ·rename_i hex
   split at hr
   ·rename_i hu
    subst hu
    injection hr with hr
    subst hr
    obtain ⟨r, a, cs, hr, hk, hv, hl, hc, hrd⟩ := hx
    have hex' : ex.contains i = false := by simpa using hex
    exact ⟨a, cs, ⟨i, r, hex', hr, hk⟩, hv, hl, hc, hrd.wide (fun k hk => ⟨i, r, hex', hr, hk⟩)⟩
   ·cases hr
 ·rename_i j
  split at hr
  ·cases hr
  ·rename_i hex
   split at hr
   ·rename_i e cells hob
    split at hr
    ·rename_i hl
     have hex' : ex.contains j = false := by simpa using hex
     obtain ⟨r, hrec, hv⟩ := hx
     obtain ⟨hok, vs, hb, hA, _⟩ := h.ob j _ r hob hrec
     refine ⟨⟨r.blk, 0, none⟩, vs, ⟨j, r, hex', hrec, hok⟩, hv, by rw [hA.1, hl], fun m u hm => ?_, Zs h hA hr⟩
     rw [Z87, Zdk hb, Nat.zero_add]
     simpa using hm
    ·cases hr
   ·cases hr
 ·cases hr
theorem Zof (h : Rel w0 S0 st μ a w) {ex : List Nat} : ∀ {ts : List Ty} {l : List At} {vs : List Value} {y : TupT ts}, AL μ w l vs → readCps st ex ts l = some y → CpsR w (okBut μ ex) ts y vs
 | [], [], vs, y, hA, hr => by
  have := hA.1
  simpa [CpsR] using this
 | [], _ :: _, vs, y, hA, hr => by simp [readCps] at hr
 | _ :: _, [], vs, y, hA, hr => by simp [readCps] at hr
 | t :: ts, x :: l, vs, y, hA, hr => by
  simp only [readCps] at hr
  split at hr
  ·rename_i y1 hy1
   split at hr
   ·rename_i ys hys
    injection hr with hr
    subst hr
    match vs, hA with
    | [], hA => have := hA.1; simp at this
    | v :: vs, hA =>
     exact ⟨v, vs, rfl, ZdC h (hA.2 0 x v rfl rfl) hy1, Zof h ⟨by simpa using hA.1, fun j x v hx hv => hA.2 (j + 1) x v (by simpa using hx) (by simpa using hv)⟩ hys⟩
   ·cases hr
  ·cases hr
theorem Zrf (h : Rel w0 S0 st μ a w) {ex : List Nat} {f : Nat} {ts : List Ty} {x : At} {v : Value} {y : TupT ts} (hx : AR μ w x v) (hr : readFn st ex f ts x = some y) : FnR w (okBut μ ex) f ts y v := by
 unfold readFn at hr
 split at hr
 ·rename_i q
  split at hr
  ·rename_i f' l hob
   split at hr
   ·rename_i hf
    subst hf
    obtain ⟨r, hrec, hv, _⟩ := hx
    obtain ⟨vs, h1, h2⟩ := h.ob q _ r hob hrec
    exact ⟨vs, by rw [hv]; exact h1, Zof h h2 hr⟩
   ·cases hr
  ·cases hr
 ·cases hr
theorem ZBf (h : Rel w0 S0 st μ a w) {ex : List Nat} {p : KP} {x : TV} {v : Value} {y : p.D} (hx : TR μ w x v) (hr : readK st ex p x = some y) : KR w (okBut μ ex) p y v := by
 cases p with
 | tree agg t =>
  simp only [readK] at hr
  split at hr
  ·rename_i l hl
   split at hr
   ·rename_i hag
    exact ⟨Za6 hx hl hag, Zs h (hx.cells_sound hl) hr⟩
   ·cases hr
  ·cases hr
 | cp t =>
  cases x with
  | tup l => cases hr
  | sv s => cases s with
   | agg l => cases hr
   | «at» y => exact ZdC h hx.1 hr
 | fn f ts =>
  cases x with
  | tup l => cases hr
  | sv s => cases s with
   | agg l => cases hr
   | «at» y => exact Zrf h hx.1 hr
theorem Zi5 (h : Rel w0 S0 st μ a w) {ex : List Nat} : ∀ {ps : List KP} {xs : List TV} {vs : List Value} {y : KTup ps}, vs.length = xs.length → (∀ (j : Nat) x v, xs[j]? = some x → vs[j]? = some v → TR μ w x v) → readKs st ex ps xs = some y → KsR w (okBut μ ex) ps y vs
 | [], [], vs, y, hl, hT, hr => by simpa [KsR] using hl
 | [], _ :: _, vs, y, hl, hT, hr => by simp [readKs] at hr
 | _ :: _, [], vs, y, hl, hT, hr => by simp [readKs] at hr
 | p :: ps, x :: xs, vs, y, hl, hT, hr => by
  simp only [readKs] at hr
  split at hr
  ·rename_i y1 hy1
   split at hr
   ·rename_i ys hys
    injection hr with hr
    subst hr
    match vs, hl with
    | v :: vs, hl =>
     exact ⟨v, vs, rfl, ZBf h (hT 0 x v rfl rfl) hy1, Zi5 h (by simpa using hl) (fun j x v hx hv => hT (j + 1) x v (by simpa using hx) (by simpa using hv)) hys⟩
   ·cases hr
  ·cases hr
end

structure KDef where
 ps : List KP
 rs : List PK
 R : Type
 f : Nat → KTup ps → Option R
 dsp : {γ : Type} → R → (Tup rs → OutD → Option γ) → Option γ
 ret : Tup rs × OutD → Option R
 hret : ∀ {γ : Type} (b : Tup rs × OutD) (z : R) (K : Tup rs → OutD → Option γ), ret b = some z → dsp z K = K b.1 b.2
def KDef.fn (D : KDef) {γ : Type} (k : Nat) (x : KTup D.ps) (K : Tup D.rs → Option γ) : Option γ := match D.f k x with
 | some z => D.dsp z (fun res _ => K res)
 | none => none
def KDef.of (ps : List KP) (rs : List PK) (R : Type) (f : Nat → KTup ps → Option R) (toB : R → Tup rs × OutD) (ret : Tup rs × OutD → Option R) (h : ∀ b r, ret b = some r → toB r = b) : KDef where
 ps := ps
 rs := rs
 R := R
 f := f
 dsp := fun z K => K (toB z).1 (toB z).2
 ret := ret
 hret := fun b z K hb => by rw [h b z hb]
def KDef.E (D : KDef) : CloE where
 act := fun k st dst xs K => match readKs st [] D.ps xs with
  | some x => D.fn k x fun res => K (giveRes dst D.rs res st)
  | none => none
structure KSound (P : Program) (k : Nat) (f : FuncId) (D : KDef) : Prop where
  enter : ∀ vs w, (callFunc f vs).run P w = .ok (.enter f vs) w
  calls : ∀ {γ : Type} {K : Tup D.rs → Option γ} {r : γ} (w : World) (S : Nat → Prop) (x : KTup D.ps) (vs : List Value), KsR w S D.ps x vs → (∀ k, S k → k < w.heap.size) → GlOK w (fun _ => False) → D.fn k x K = some r → Calls P f vs.toArray w fun
      | .returned v, w' => ∃ res, K res = some r ∧ Chg w w' (fun _ => False) ∧ ∃ Sr us, (∀ k, Sr k → w.heap.size ≤ k ∧ k < w'.heap.size) ∧ v = packR us ∧ ResL w' D.rs Sr res us
      | _, _ => False
theorem KSound.cl {P : Program} {k : Nat} {f : FuncId} {D : KDef} (hE : KSound P k f D) : ClSound P k f D.E := by
 refine ⟨hE.enter, fun {γ K r w w0 S0 st μ a} dst xs vs h hl hT hk => ?_⟩
 simp only [KDef.E] at hk
 split at hk
 ·rename_i x hx
  refine (hE.calls w _ x vs (Zi5 h hl hT hx) (fun k ⟨i, q, _, hq, hk⟩ => h.lt i q hq k hk) (h.glob (fun _ hf => hf.elim)) hk).mono fun e w' he => ?_
  cases e with
  | returned v =>
   obtain ⟨res, hK, hchg, Sr, us, hSr, rfl, hres⟩ := he
   have hs := h.kp.size
   have h1 := h.world hchg (fun _ _ _ _ _ hf => hf) (fun _ hf => hf.elim)
   obtain ⟨μ', h2⟩ := Z4E h1 hres (fun k hk => ⟨.inr (by have := (hSr k hk).1; omega), (hSr k hk).2⟩) (fun j q hq k hk hqk => by have := (hSr k hk).1; have := h.lt j q hq k hqk; omega) dst
   exact ⟨_, μ', h2, hK⟩
  | panicked c => exact False.elim he
  | outgrown => exact False.elim he
 ·cases hk

def esL : (ts : List Ty) → TupT ts → List At
 | [], _ => []
 | t :: ts, x => .es 0 t x.1 0 :: esL ts x.2
def initK : (ps : List KP) → KTup ps → Nat → List TV
 | [], _, _ => []
 | .tree agg t :: ps, x, i => packA agg (atomsOf 0 t x.1) :: initK ps x.2 i
 | .cp t :: ps, x, i => .sv (.at (.es 0 t x.1 0)) :: initK ps x.2 i
 | .fn _ _ :: ps, x, i => .sv (.at (.cv i)) :: initK ps x.2 (i + 1)
def objsK : (ps : List KP) → KTup ps → List Ob
 | [], _ => []
 | .tree _ _ :: ps, x => objsK ps x.2
 | .cp _ :: ps, x => objsK ps x.2
 | .fn f ts :: ps, x => .clo f (esL ts x.1) :: objsK ps x.2
def initKS (ps : List KP) (n : Nat) (x : KTup ps) : St := { tmps := initK ps x 1 ++ List.replicate (n - ps.length) (.sv (.at .un)), objs := .ro :: objsK ps x }
section
variable {P : Program} {w w1 w0 : World} {S0 : Own} {st : St} {μ : List ORec} {a : Act} {S : Nat → Prop}
theorem ZqE (hro : μ[0]? = some ⟨undef, 0, S⟩) : ∀ {ts : List Ty} {x : TupT ts} {vs : List Value}, CpsR w S ts x vs → AL μ w (esL ts x) vs
 | [], x, vs, h => by rw [show vs = [] from h]; exact ⟨rfl, fun j x v hx => by simp [esL] at hx⟩
 | t :: ts, x, vs, h => by
  obtain ⟨v, vs', rfl, ⟨a, cs, hk, hv, hl, hc, hrd⟩, hr⟩ := h
  have ih := ZqE hro hr
  refine ⟨by simp [esL, ih.1], fun j y u hy hu => ?_⟩
  cases j with
  | zero =>
   simp only [esL, List.getElem?_cons_zero] at hy hu
   injection hy with hy
   injection hu with hu
   subst hy hu
   exact ⟨_, a, cs, hro, hk, hv, hl, hc, hrd⟩
  | succ j =>
   simp only [esL, List.getElem?_cons_succ] at hy hu
   exact ih.2 j y u hy hu
theorem KsR.len : ∀ {ps : List KP} {x : KTup ps} {vs : List Value}, KsR w S ps x vs → vs.length = ps.length
 | [], _, vs, h => by rw [show vs = [] from h]; rfl
 | p :: ps, x, vs, h => by
  obtain ⟨v, vs', rfl, _, h⟩ := h
  simp [h.len]
theorem ZaZ : ∀ {ps : List KP} {x : KTup ps} {i : Nat}, (initK ps x i).length = ps.length
 | [], _, _ => rfl
 | .tree _ _ :: ps, x, i => by simp [initK, ZaZ]
 | .cp _ :: ps, x, i => by simp [initK, ZaZ]
 | .fn _ _ :: ps, x, i => by simp [initK, ZaZ]
theorem Zj3 : ∀ {ps : List KP} {x : KTup ps} {o : Ob}, o ∈ objsK ps x → ∃ f l, o = .clo f l
 | [], _, o, h => by simp [objsK] at h
 | .tree _ _ :: ps, x, o, h => Zj3 (ps := ps) h
 | .cp _ :: ps, x, o, h => Zj3 (ps := ps) h
 | .fn f ts :: ps, x, o, h => by
  simp only [objsK, List.mem_cons] at h
  rcases h with h | h
  ·exact ⟨_, _, h⟩
  ·exact Zj3 h
theorem ZbZ : ∀ {ps : List KP} {x : KTup ps} {vs : List Value}, KsR w S ps x vs → ∃ recs : List ORec, recs.length = (objsK ps x).length ∧ (∀ r ∈ recs, ∀ k, ¬ r.ok k) ∧ ∀ (μ : List ORec) (i : Nat), μ[0]? = some ⟨undef, 0, S⟩ → (∀ (j : Nat) r, recs[j]? = some r → μ[i + j]? = some r) →
    (∀ (j : Nat) y, (initK ps x i)[j]? = some y → ∃ v, vs[j]? = some v ∧ TR μ w y v) ∧ ∀ (j : Nat) o r, (objsK ps x)[j]? = some o → recs[j]? = some r → OR μ w o r
  | [], x, vs, h => ⟨[], rfl, fun r hr => by simp at hr, fun μ i _ _ => ⟨fun j y hy => by simp [initK] at hy, fun j o r ho => by simp [objsK] at ho⟩⟩
  | .tree agg t :: ps, x, vs, h => by
    obtain ⟨v, vs', rfl, ⟨hsh, hrd⟩, hr⟩ := h
    obtain ⟨recs, h1, h2, h3⟩ := ZbZ hr
    refine ⟨recs, h1, h2, fun μ i hro hrec => ⟨fun j y hy => ?_, (h3 μ i hro hrec).2⟩⟩
    cases j with
    | zero =>
      simp only [initK, List.getElem?_cons_zero] at hy
      injection hy with hy
      subst hy
      exact ⟨v, rfl, Zc3 hsh (AL.of_rd hro hrd)⟩
    | succ j => exact (h3 μ i hro hrec).1 j y (by simpa [initK] using hy)
  | .cp t :: ps, x, vs, h => by
    obtain ⟨v, vs', rfl, ⟨a, cs, hk, hv, hl, hc, hrd⟩, hr⟩ := h
    obtain ⟨recs, h1, h2, h3⟩ := ZbZ hr
    refine ⟨recs, h1, h2, fun μ i hro hrec => ⟨fun j y hy => ?_, (h3 μ i hro hrec).2⟩⟩
    cases j with
    | zero =>
      simp only [initK, List.getElem?_cons_zero] at hy
      injection hy with hy
      subst hy
      exact ⟨v, rfl, ⟨_, a, cs, hro, hk, hv, hl, hc, hrd⟩, .inr (by rw [hv]; rfl)⟩
    | succ j => exact (h3 μ i hro hrec).1 j y (by simpa [initK] using hy)
  | .fn f ts :: ps, x, vs, h => by
    obtain ⟨v, vs', rfl, ⟨us, hv, hcs⟩, hr⟩ := h
    obtain ⟨recs, h1, h2, h3⟩ := ZbZ hr
    refine ⟨⟨v, 0, fun _ => False⟩ :: recs, by simp [objsK, h1], fun r hr => ?_, fun μ i hro hrec => ?_⟩
    · rcases List.mem_cons.1 hr with rfl | hr
      · exact fun _ hf => hf
      · exact h2 r hr
    · have h0 : μ[i]? = some ⟨v, 0, fun _ => False⟩ := hrec 0 _ rfl
      have h4 := h3 μ (i + 1) hro (fun j r hj => by rw [show i + 1 + j = i + (j + 1) by omega]; exact hrec (j + 1) r (by simpa using hj))
      refine ⟨fun j y hy => ?_, fun j o r ho hj => ?_⟩
      · cases j with
        | zero =>
          simp only [initK, List.getElem?_cons_zero] at hy
          injection hy with hy
          subst hy
          exact ⟨v, rfl, ⟨_, h0, rfl, _, _, hv⟩, .inr (by rw [hv]; rfl)⟩
        | succ j => exact h4.1 j y (by simpa [initK] using hy)
      · cases j with
        | zero =>
          simp only [objsK, List.getElem?_cons_zero] at ho hj
          injection ho with ho
          injection hj with hj
          subst ho hj
          exact ⟨us, hv, ZqE hro hcs⟩
        | succ j => exact h4.2 j o r (by simpa [objsK] using ho) (by simpa using hj)
theorem ZA7 {ps : List KP} {n : Nat} {x : KTup ps} {vs : List Value} (h : KsR w S ps x vs) (hl : ∀ k, S k → k < w.heap.size) (hgl : GlOK w (fun _ => False)) :
    ∃ μ, Rel w { ok := fun _ => False, ov := [] } (initKS ps n x) μ { tmps := vs.toArray ++ Array.replicate (n - vs.toArray.size) undef, defers := [] } w := by
  obtain ⟨recs, h1, h2, h3⟩ := ZbZ h
  have hlen := h.len
  obtain ⟨g1, g2⟩ := h3 (⟨undef, 0, S⟩ :: recs) 1 rfl (fun j r hj => by rw [Nat.add_comm]; simpa using hj)
  have hno : ∀ (i : Nat) o, (initKS ps n x).objs[i]? = some o → o = .ro ∨ ∃ f l, o = .clo f l := by
    intro i o ho
    cases i with
    | zero => simp [initKS] at ho; exact .inl ho.symm
    | succ i => exact .inr (Zj3 (List.mem_of_getElem? (by simpa [initKS] using ho)))
  have hfree : ∀ (i : Nat) r, (⟨undef, 0, S⟩ :: recs)[i]? = some r → ∀ k, r.ok k → S k := by
    intro i r hr k hk
    cases i with
    | zero => simp at hr; subst hr; exact hk
    | succ i => exact ((h2 r (List.mem_of_getElem? (by simpa using hr))) k hk).elim
  refine ⟨⟨undef, 0, S⟩ :: recs, by simp [initKS, h1], by simp [initKS, ZaZ, hlen], fun i y hy => ?_, fun i o r ho hr => ?_, fun i j o ri rj hij ho hw => ?_, fun i o r ho hr hw => ?_, fun i e t xs r ho => ?_, fun i r hr k hk => hl k (hfree i r hr k hk), .refl w _, rfl, fun j v hv => by simp at hv, hgl⟩
  · simp only [initKS] at hy
    rw [List.getElem?_append] at hy
    split at hy
    · obtain ⟨v, hv, ht⟩ := g1 i y hy
      have : (vs.toArray ++ Array.replicate (n - vs.toArray.size) undef).getD i undef = v := by
        rw [Array.getD_eq_getD_getElem?, Array.getElem?_append_left (by simp; exact (List.getElem?_eq_some_iff.1 hv).1)]
        simp [hv]
      rw [this]; exact ht
    · rw [List.getElem?_replicate] at hy
      split at hy
      · injection hy with hy
        subst hy
        exact ⟨trivial, .inl rfl⟩
      · cases hy
  · cases i with
    | zero => simp [initKS] at ho; subst ho; trivial
    | succ i => exact g2 i o r (by simpa [initKS] using ho) (by simpa using hr)
  · rcases hno i o ho with rfl | ⟨f, l, rfl⟩ <;> cases hw
  · rcases hno i o ho with rfl | ⟨f, l, rfl⟩ <;> cases hw
  · rcases hno i _ ho with h5 | ⟨f, l, h5⟩ <;> cases h5
noncomputable def fnKK (D : KDef) (X : Ctx (Tup D.rs × OutD)) (body : Code) (k : Nat) (x : KTup D.ps) : Option D.R :=
 exec X k body (initKS D.ps X.n x) (endK X D.ret) (fun _ _ => none) D.ret
theorem KSound.zero {D : KDef} {f : FuncId} (he : ∀ vs w, (callFunc f vs).run P w = .ok (.enter f vs) w) (h0 : ∀ x, D.f 0 x = none) : KSound P 0 f D :=
 ⟨he, fun w S x vs _ _ _ hk => by
  simp only [KDef.fn] at hk
  split at hk
  ·rename_i z hz
   exact nomatch (h0 x).symm.trans hz
  ·cases hk⟩
theorem ZCy {D : KDef} {X : Ctx (Tup D.rs × OutD)} {f : FuncId} {fn : Func} {body : Code} {k : Nat} (hX : X.res = resOf X.T [] D.rs fn.results.toList) (hXno : X.no = 0) (hXn : X.n = fn.ntmps) (hf : P.funcs[f]? = some fn) (hb : fn.body = some body)
    (hn : (fn.name == "runtime.NumGoroutine") = false) (hT : TTok P X.T) (hG : EnvOK P k X.G) (hL : LOK P X k body) (hs : ∀ x, D.f (k + 1) x = fnKK D X body k x) : KSound P (k + 1) f D := by
  refine ⟨Zd9 hf hn (by rw [hb]; rfl), fun {γ} {K} {r} w S x vs hA hl hgl hk => ?_⟩
  simp only [KDef.fn] at hk
  split at hk
  · rename_i z hz
    obtain ⟨μ, h⟩ := ZA7 (n := X.n) hA hl hgl
    have hz := (hs x).symm.trans hz
    rw [hXn] at h
    have hz2 : exec X k body (initKS D.ps fn.ntmps x) (endK X D.ret) (fun _ _ => none) D.ret = some z := by rw [← hXn]; exact hz
    refine calls_of_wp hf hb (Code.wp_mono (fun e a' w' hq => ?_) (Z9x (S0 := { ok := fun _ => False, ov := [] }) hT hG (by rw [hXno]; rfl) hL h hz2))
    have fin : ∀ (st1 : St) (μ1 : List ORec) (b : Tup D.rs × OutD), Rel w { ok := fun _ => False, ov := [] } st1 μ1 a' w' → X.res st1 = some b → D.ret b = some z → ∃ v, (results fn a'.tmps).run P w' = .ok v w' ∧ ∃ res, K res = some r ∧ Chg w w' (fun _ => False) ∧ ∃ Sr us, (∀ k, Sr k → w.heap.size ≤ k ∧ k < w'.heap.size) ∧ v = packR us ∧ ResL w' D.rs Sr res us := by
      intro st1 μ1 b r1 hb2 hmk
      rw [hX] at hb2
      unfold resOf at hb2
      split at hb2
      · rename_i res st2 hres
        obtain ⟨us, μ2, Sr, hus, hR, r2, l2, t2, _⟩ := ZfR hT r1 hres
        simp only [ownI, boxI] at hb2
        injection hb2 with hb2
        subst hb2
        have hkk := (D.hret _ z (fun res _ => K res) hmk).symm.trans hk
        refine ⟨packR us, Zkj hus, res, hkk, r1.kp, Sr, us, fun k hk => ⟨?_, t2.lt k hk⟩, rfl, hR⟩
        rcases t2.new k hk with h5 | h5
        · exact h5.elim
        · exact h5
      · cases hb2
    cases e with
    | normal =>
      obtain ⟨st1, μ1, r1, hr1⟩ := hq
      unfold endK at hr1
      split at hr1
      · rename_i b hb2
        obtain ⟨v, g1, g2⟩ := fin st1 μ1 b r1 hb2 hr1
        exact ⟨r1.df, v, g1, g2⟩
      · cases hr1
    | ret =>
      obtain ⟨st1, μ1, b, r1, hb2, hr1⟩ := hq
      obtain ⟨v, g1, g2⟩ := fin st1 μ1 b r1 hb2 hr1
      exact ⟨r1.df, v, g1, g2⟩
    | exit id => obtain ⟨st1, μ1, r1, hr1⟩ := hq; cases hr1
    | goto l => exact False.elim hq
    | panic ch => exact False.elim hq
    | outgrown => exact False.elim hq
  · cases hk
theorem Zvk {D : KDef} {X : Ctx (Tup D.rs × OutD)} {f : FuncId} {fn : Func} {body : Code} (hX : X.res = resOf X.T [] D.rs fn.results.toList) (hXno : X.no = 0) (hXn : X.n = fn.ntmps) (hf : P.funcs[f]? = some fn) (hb : fn.body = some body)
    (hn : (fn.name == "runtime.NumGoroutine") = false) (hT : TTok P X.T) (hG : ∀ k, EnvOK P k X.G) (hL : ∀ k, LOK P X k body) (h0 : ∀ x, D.f 0 x = none) (hs : ∀ k x, D.f (k + 1) x = fnKK D X body k x) (k : Nat) : ClSound P k f D.E := by
  cases k with
  | zero => exact (KSound.zero (Zd9 hf hn (by rw [hb]; rfl)) h0).cl
  | succ k => exact (ZCy hX hXno hXn hf hb hn hT (hG k) (hL k) (hs k)).cl
end
end Go.Proofs.Ytpeflcbadgfebaa.Vs

set_option linter.unusedVariables false
set_option linter.unusedSimpArgs false
namespace Go.Proofs.Ytpeflcbadgfebaa.Vs
open Go.RowKit

structure QSig where
 ps : List KP
 fe : Nat
 ts : List Ty
 fs : Nat
 eF : TypeId
 eB : TypeId
 eR : TypeId
 t : Ty
@[reducible] def QSig.In (q : QSig) : Type := KTup q.ps × (TupT q.ts × (Int × (Int × (Bool × List q.t.D))))
def pfnObj (st : St) (ex : List Nat) : At → Option Nat
 | .pc i q => if ex.contains i then none else some q
 | .ptr j 0 => if ex.contains j then none else match st.objs[j]? with
  | some (.box _ [.cv q]) => some q
  | _ => none
 | _ => none
def readN (st : St) (ex : List Nat) (x : At) : Option Int := readCp st ex (.int .i64) x
def readSelf (st : St) (ex : List Nat) (q : QSig) (iF iB qe qx : Nat) : Option Int := match st.objs[qx]? with
 | some (.clo f' [.ptr jF 0, pe, .ptr jB 0, pn, px]) => if f' = q.fs ∧ jF = iF ∧ jB = iB ∧ pfnObj st ex pe = some qe ∧ pfnObj st ex px = some qx then readN st ex pn else none
 | _ => none
def QSig.read3 (q : QSig) (st : St) (iF iB iR : Nat) (fd : Bool) (best : List q.t.D) (x1 x2 x3 : TV) (pe pn px : At) : Option q.In :=
 match readKs st [iF, iB, iR] q.ps [x1, x2, x3] with
 | some y => match pfnObj st [iF, iB, iR] pe with
  | some qe => match readFn st [iF, iB, iR] q.fe q.ts (.cv qe) with
   | some d => match readN st [iF, iB, iR] pn with
    | some n => match pfnObj st [iF, iB, iR] px with
     | some qx => match readSelf st [iF, iB, iR] q iF iB qe qx with
      | some n2 => some (y, d, n, n2, fd, best)
      | none => none
     | none => none
    | none => none
   | none => none
  | none => none
 | none => none
def QSig.read (q : QSig) (st : St) : List TV → Option (q.In × (Nat × Nat × Nat))
  | [x1, x2, x3, .sv (.at (.ptr iF 0)), .sv (.at pe), .sv (.at (.ptr iB 0)), .sv (.at pn), .sv (.at px)] => match st.objs[iF]? with
    | some (.box eF' [.bool fd]) => match st.objs[iB]? with
      | some (.box eB' [.sl iR]) => match st.objs[iR]? with
        | some (.row true eR' t' best) => if h : (eF' = q.eF ∧ eB' = q.eB ∧ eR' = q.eR) ∧ t' = q.t then match q.read3 st iF iB iR fd (h.2 ▸ best) x1 x2 x3 pe pn px with
            | some x => some (x, (iF, iB, iR))
            | none => none
          else none
        | _ => none
      | _ => none
    | _ => none
  | _ => none
def reSt (st : St) (i : Nat) (o : Ob) : St := { st.kill i with objs := (st.kill i).objs.set i o }
def QSig.back (q : QSig) (st : St) (iF iB iR : Nat) (dst : Option Tmp) (b : Bool) (l : List q.t.D) : St :=
 (reSt (St.push (reSt (((st.die iF).die iB).die iR) iF (.box q.eF [.bool b])) (.row true q.eR q.t l)) iB (.box q.eB [.sl st.objs.length])).put dst (.tup [])
def QSig.init (q : QSig) (n : Nat) (x : q.In) : St :=
 { tmps := initK q.ps x.1 0 ++ [.sv (.at (.ptr 1 0)), .sv (.at (.pc 0 4)), .sv (.at (.ptr 2 0)), .sv (.at (.es 0 (.int .i64) x.2.2.1 0)), .sv (.at (.pc 0 5))] ++ List.replicate (n - 8) (.sv (.at .un)), objs := [.ro, .box q.eF [.bool x.2.2.2.2.1], .box q.eB [.sl 3], .row true q.eR q.t x.2.2.2.2.2, .clo q.fe (esL q.ts x.2.1), .clo q.fs [.ptr 1 0, .pc 0 4, .ptr 2 0, .es 0 (.int .i64) x.2.2.2.1 0, .pc 0 5]] }
def QSig.res (q : QSig) (st : St) : Option (Bool × List q.t.D) := match st.objs[1]? with
 | some (Ob.box eF' [.bool b]) => match st.objs[2]? with
  | some (Ob.box eB' [.sl m]) => match st.objs[m]? with
   | some (Ob.row true eR' t' l) => if h : (eF' = q.eF ∧ eB' = q.eB ∧ eR' = q.eR) ∧ t' = q.t then some (b, h.2 ▸ l) else none
   | _ => none
  | _ => none
 | _ => none
def qOwn (rF rB rR : ORec) : Own where
 ok := fun k => rF.ok k ∨ rB.ok k ∨ rR.ok k
 ov := [(rF.v, rF.blk), (rB.v, rB.blk)]
 gv := rR.ok
 go := fun k hk => .inr (.inr hk)
section
variable {P : Program} {w w1 w0 : World} {S0 : Own} {st : St} {μ : List ORec} {a : Act} {S : Nat → Prop}
theorem ZAe {α : Type} {c : Prop} [Decidable c] {x : Option α} {y : α} (h : (if c then x else none) = some y) : c ∧ x = some y := by
 split at h
 ·rename_i hc; exact ⟨hc, h⟩
 ·cases h
theorem ZdT (h : Rel w0 S0 st μ a w) {ex : List Nat} {x : At} {v : Value} {q : Nat} (hx : AR μ w x v) (hr : pfnObj st ex x = some q) : ∃ (r : ORec) (g : Nat), μ[q]? = some r ∧ okBut μ ex g ∧ v = .pointer (some ⟨g, 0, none⟩) ∧ w.cell? ⟨g, 0, none⟩ = some r.v ∧ ∃ f vs, r.v = .func (.func f) #[] vs := by
 unfold pfnObj at hr
 split at hr
 ·rename_i i q0
  split at hr
  ·cases hr
  ·rename_i hex
   injection hr with hr
   subst hr
   obtain ⟨r, rq, g, hri, hrq, hk, hv, hc, hf⟩ := hx
   exact ⟨rq, g, hrq, ⟨i, r, by simpa using hex, hri, hk⟩, hv, hc, hf⟩
 ·rename_i j
  split at hr
  ·cases hr
  ·rename_i hex
   split at hr
   ·rename_i e q0 hob
    injection hr with hr
    subst hr
    obtain ⟨r, hrec, hv⟩ := hx
    obtain ⟨hok, vs, hb, hA, _⟩ := h.ob j _ r hob hrec
    match vs, hA, hb with
    | [], hA, hb => have := hA.1; simp at this
    | u :: us, hA, hb =>
     obtain ⟨rq, hrq, hu, hf⟩ := hA.2 0 _ u rfl rfl
     refine ⟨rq, r.blk, hrq, ⟨j, r, by simpa using hex, hrec, hok⟩, hv, ?_, by rw [← hu]; exact hf⟩
     rw [Zdk hb, ← hu]
     rfl
   ·cases hr
 ·cases hr
theorem QSig.read_sound {q : QSig} (hps : ∀ x, objsK q.ps x = []) {n : Nat} (h : Rel w0 S0 st μ a w) {xs : List TV} {vs : List Value} (hl : vs.length = xs.length) (hT : ∀ (j : Nat) x v, xs[j]? = some x → vs[j]? = some v → TR μ w x v) {x : q.In} {iF iB iR : Nat} (hr : q.read st xs = some (x, (iF, iB, iR))) :
    ∃ rF rB rR : ORec, (st.objs[iF]? = some (.box q.eF [.bool x.2.2.2.2.1]) ∧ st.objs[iB]? = some (.box q.eB [.sl iR]) ∧ st.objs[iR]? = some (.row true q.eR q.t x.2.2.2.2.2)) ∧ (μ[iF]? = some rF ∧ μ[iB]? = some rB ∧ μ[iR]? = some rR) ∧
      ∃ μ', Rel w (qOwn rF rB rR) (q.init n x) μ' { tmps := vs.toArray ++ Array.replicate (n - vs.toArray.size) undef, defers := [] } w := by
  unfold QSig.read at hr
  split at hr
  · rename_i x1 x2 x3 iF' pe iB' pn px
    split at hr
    · rename_i eF' fd hoF
      split at hr
      · rename_i eB' iR' hoB
        split at hr
        · rename_i eR' t' best hoR
          split at hr
          · rename_i hc
            obtain ⟨⟨rfl, rfl, rfl⟩, ht⟩ := hc
            subst ht
            split at hr
            · rename_i x0 hx0
              injection hr with hr
              injection hr with hr1 hr2
              injection hr2 with hr2 hr3
              injection hr3 with hr3 hr4
              subst hr1 hr2 hr3 hr4
              unfold QSig.read3 at hx0
              split at hx0
              · rename_i y hy
                split at hx0
                · rename_i qe hqe
                  split at hx0
                  · rename_i d hd
                    split at hx0
                    · rename_i m hm
                      split at hx0
                      · rename_i qx hqx
                        split at hx0
                        · rename_i n2 hself
                          injection hx0 with hx0
                          subst hx0
                          obtain ⟨rF, hrF⟩ := h.some_rec hoF
                          obtain ⟨rB, hrB⟩ := h.some_rec hoB
                          obtain ⟨rR, hrR⟩ := h.some_rec hoR
                          match vs, hl with
                          | [v1, v2, v3, vF, ve, vB, vn, vx], _ =>
                          have tF := (hT 3 _ vF rfl rfl).1
                          have te := (hT 4 _ ve rfl rfl).1
                          have tB := (hT 5 _ vB rfl rfl).1
                          have tn := (hT 6 _ vn rfl rfl).1
                          have tx := (hT 7 _ vx rfl rfl).1
                          have hks := Zi5 h (xs := [x1, x2, x3]) (vs := [v1, v2, v3]) rfl (fun j x v hx hv => by
                            match j, hx, hv with
                            | 0, hx, hv => exact hT 0 x v hx hv
                            | 1, hx, hv => exact hT 1 x v hx hv
                            | 2, hx, hv => exact hT 2 x v hx hv
                            | j + 3, hx, hv => simp at hx) hy
                          have hlen : q.ps.length = 3 := hks.len.symm
                          obtain ⟨re, ge, hre, hge, hve, hce, hfe⟩ := ZdT h te hqe
                          obtain ⟨rx, gx, hrx, hgx, hvx, hcx, hfx⟩ := ZdT h tx hqx
                          have hfn := Zrf h (x := .cv qe) (v := re.v) ⟨re, hre, rfl, hfe⟩ hd
                          have hn := ZdC h tn hm
                          unfold readSelf at hself
                          split at hself
                          · rename_i f' jF pe' jB pn' px' hox
                            obtain ⟨⟨rfl, rfl, rfl, hpe', hpx'⟩, hself2⟩ := ZAe hself
                            obtain ⟨us, hus, hA⟩ := h.ob qx _ rx hox hrx
                            have okF : ∀ k, okBut μ [jF, jB, iR'] k → ¬ rF.ok k ∧ ¬ rB.ok k ∧ ¬ rR.ok k := by
                              intro k ⟨j, r, hj, hrj, hk⟩
                              have hj' : j ≠ jF ∧ j ≠ jB ∧ j ≠ iR' := by
                                refine ⟨?_, ?_, ?_⟩ <;> intro he <;> subst he <;> simp at hj
                              exact ⟨fun hk2 => h.dj jF j _ rF r (Ne.symm hj'.1) hoF rfl hrF hrj k hk2 hk, fun hk2 => h.dj jB j _ rB r (Ne.symm hj'.2.1) hoB rfl hrB hrj k hk2 hk, fun hk2 => h.dj iR' j _ rR r (Ne.symm hj'.2.2) hoR rfl hrR hrj k hk2 hk⟩
                            have nFB : jF ≠ jB := by intro he; subst he; rw [hoF] at hoB; injection hoB with hoB; injection hoB with _ hoB; injection hoB with hoB; cases hoB
                            have nFR : jF ≠ iR' := by intro he; subst he; rw [hoF] at hoR; injection hoR with hoR; cases hoR
                            have nBR : jB ≠ iR' := by intro he; subst he; rw [hoB] at hoR; injection hoR with hoR; cases hoR
                            have dFB := h.dj jF jB _ rF rB nFB hoF rfl hrF hrB
                            have dFR := h.dj jF iR' _ rF rR nFR hoF rfl hrF hrR
                            have dBR := h.dj jB iR' _ rB rR nBR hoB rfl hrB hrR
                            refine ⟨rF, rB, rR, ⟨hoF, hoB, hoR⟩, ⟨hrF, hrB, hrR⟩, [⟨undef, 0, okBut μ [jF, jB, iR']⟩, rF, rB, rR, ⟨re.v, 0, fun _ => False⟩, ⟨rx.v, 0, fun _ => False⟩], ?_⟩
                            have ar1 : ∀ v, AR μ w (.ptr jF 0) v → AR [⟨undef, 0, okBut μ [jF, jB, iR']⟩, rF, rB, rR, ⟨re.v, 0, fun _ => False⟩, ⟨rx.v, 0, fun _ => False⟩] w (.ptr 1 0) v := by
                              intro v ⟨r, hr, hv⟩
                              rw [hrF] at hr
                              injection hr with hr
                              subst hr
                              exact ⟨rF, rfl, hv⟩
                            have ar2 : ∀ v, AR μ w (.ptr jB 0) v → AR [⟨undef, 0, okBut μ [jF, jB, iR']⟩, rF, rB, rR, ⟨re.v, 0, fun _ => False⟩, ⟨rx.v, 0, fun _ => False⟩] w (.ptr 2 0) v := by
                              intro v ⟨r, hr, hv⟩
                              rw [hrB] at hr
                              injection hr with hr
                              subst hr
                              exact ⟨rB, rfl, hv⟩
                            have are : ∀ p v, AR μ w p v → pfnObj st [jF, jB, iR'] p = some qe → AR [⟨undef, 0, okBut μ [jF, jB, iR']⟩, rF, rB, rR, ⟨re.v, 0, fun _ => False⟩, ⟨rx.v, 0, fun _ => False⟩] w (.pc 0 4) v := by
                              intro p v hv hp
                              obtain ⟨r, g, hr, hg, hv, hc, hf⟩ := ZdT h hv hp
                              rw [hre] at hr
                              injection hr with hr
                              subst hr
                              exact ⟨_, _, g, rfl, rfl, hg, hv, hc, hf⟩
                            have arx : ∀ p v, AR μ w p v → pfnObj st [jF, jB, iR'] p = some qx → AR [⟨undef, 0, okBut μ [jF, jB, iR']⟩, rF, rB, rR, ⟨re.v, 0, fun _ => False⟩, ⟨rx.v, 0, fun _ => False⟩] w (.pc 0 5) v := by
                              intro p v hv hp
                              obtain ⟨r, g, hr, hg, hv, hc, hf⟩ := ZdT h hv hp
                              rw [hrx] at hr
                              injection hr with hr
                              subst hr
                              exact ⟨_, _, g, rfl, rfl, hg, hv, hc, hf⟩
                            have arn : ∀ p v m, AR μ w p v → readN st [jF, jB, iR'] p = some m → AR [⟨undef, 0, okBut μ [jF, jB, iR']⟩, rF, rB, rR, ⟨re.v, 0, fun _ => False⟩, ⟨rx.v, 0, fun _ => False⟩] w (.es 0 (.int .i64) m 0) v := by
                              intro p v m hv hp
                              obtain ⟨ad, cs, h1, h2, h3, h4, h5⟩ := ZdC h hv hp
                              exact ⟨_, ad, cs, rfl, h1, h2, h3, h4, h5⟩
                            obtain ⟨recs, g1, _, g3⟩ := ZbZ hks
                            rw [hps] at g1
                            have g1 : recs = [] := List.length_eq_zero_iff.1 g1
                            subst g1
                            have g4 := (g3 [⟨undef, 0, okBut μ [jF, jB, iR']⟩, rF, rB, rR, ⟨re.v, 0, fun _ => False⟩, ⟨rx.v, 0, fun _ => False⟩] 0 rfl (fun j r hj => by simp at hj)).1
                            refine ⟨rfl, by simp [QSig.init, ZaZ, hlen]; omega, fun i z hz => ?_, fun i o r ho hr => ?_, fun i j o ri rj hij ho hw hri hrj k hk => ?_, fun i o r ho hr hw k hk => ?_, fun i e t xs r ho hr k hk => ?_, fun i r hr k hk => ?_, .refl w _, rfl, fun j v hv => ?_, h.glob (fun k hk => ?_)⟩
                            · have fin : ∀ v, [v1, v2, v3, vF, ve, vB, vn, vx][i]? = some v → (([v1, v2, v3, vF, ve, vB, vn, vx].toArray ++ Array.replicate (n - [v1, v2, v3, vF, ve, vB, vn, vx].toArray.size) undef).getD i undef) = v := by
                                intro v hv
                                rw [Array.getD_eq_getD_getElem?, Array.getElem?_append_left (by have := (List.getElem?_eq_some_iff.1 hv).1; simpa using this)]
                                rw [List.getElem?_toArray, hv]
                                rfl
                              simp only [QSig.init, List.append_assoc] at hz
                              rw [List.getElem?_append] at hz
                              split at hz
                              · rename_i hi
                                rw [ZaZ, hlen] at hi
                                obtain ⟨v, hv, ht⟩ := g4 i z hz
                                rw [fin v (by rw [← hv]; match i, hi with | 0, _ => rfl | 1, _ => rfl | 2, _ => rfl)]
                                exact ht
                              · rename_i hi
                                rw [ZaZ, hlen] at hi hz
                                match i, hi, hz with
                                | 0, hi, _ => omega
                                | 1, hi, _ => omega
                                | 2, hi, _ => omega
                                | 3, _, hz => injection hz with hz; subst hz; rw [fin vF rfl]; exact ⟨ar1 vF tF, .inr (by obtain ⟨r, _, hv⟩ := tF; rw [hv]; rfl)⟩
                                | 4, _, hz => injection hz with hz; subst hz; rw [fin ve rfl]; exact ⟨are pe ve te hqe, .inr (by rw [hve]; rfl)⟩
                                | 5, _, hz => injection hz with hz; subst hz; rw [fin vB rfl]; exact ⟨ar2 vB tB, .inr (by obtain ⟨r, _, hv⟩ := tB; rw [hv]; rfl)⟩
                                | 6, _, hz => injection hz with hz; subst hz; rw [fin vn rfl]; exact ⟨arn pn vn _ tn hm, .inr (by obtain ⟨ad, cs, _, h2, _⟩ := hn; rw [h2]; rfl)⟩
                                | 7, _, hz => injection hz with hz; subst hz; rw [fin vx rfl]; exact ⟨arx px vx tx hqx, .inr (by rw [hvx]; rfl)⟩
                                | i + 8, _, hz =>
                                  simp only [show i + 8 - 3 = i + 5 by omega, List.cons_append, List.nil_append, List.getElem?_cons_succ] at hz
                                  rw [List.getElem?_replicate] at hz
                                  split at hz
                                  · injection hz with hz
                                    subst hz
                                    exact ⟨trivial, .inl rfl⟩
                                  · cases hz
                            · simp only [QSig.init] at ho
                              match i, ho, hr with
                              | 0, ho, hr => injection ho with ho; subst ho; trivial
                              | 1, ho, hr =>
                                injection ho with ho; subst ho
                                injection hr with hr; subst hr
                                obtain ⟨h1, us', h2, h3, h4⟩ := h.ob jF _ _ hoF hrF
                                exact ⟨h1, us', h2, ⟨h3.1, fun j x v hx hv => by
                                  have := h3.2 j x v hx hv
                                  match j, hx with
                                  | 0, hx => injection hx with hx; subst hx; exact this
                                  | j + 1, hx => simp at hx⟩, h4⟩
                              | 2, ho, hr =>
                                injection ho with ho; subst ho
                                injection hr with hr; subst hr
                                obtain ⟨h1, us', h2, h3, h4⟩ := h.ob jB _ _ hoB hrB
                                exact ⟨h1, us', h2, ⟨h3.1, fun j x v hx hv => by
                                  match j, hx with
                                  | 0, hx =>
                                    injection hx with hx; subst hx
                                    obtain ⟨r, hr, hrest⟩ := h3.2 0 _ v rfl hv
                                    rw [hrR] at hr
                                    injection hr with hr
                                    subst hr
                                    exact ⟨rR, rfl, hrest⟩
                                  | j + 1, hx => simp at hx⟩, h4⟩
                              | 3, ho, hr =>
                                injection ho with ho; subst ho
                                injection hr with hr; subst hr
                                exact h.ob iR' _ _ hoR hrR
                              | 4, ho, hr =>
                                injection ho with ho; subst ho
                                injection hr with hr; subst hr
                                obtain ⟨us', h1, h2⟩ := hfn
                                exact ⟨us', h1, ZqE rfl h2⟩
                              | 5, ho, hr =>
                                injection ho with ho; subst ho
                                injection hr with hr; subst hr
                                refine ⟨us, hus, hA.1, fun j x v hx hv => ?_⟩
                                match j, hx, hv with
                                | 0, hx, hv => injection hx with hx; subst hx; exact ar1 v (hA.2 0 _ v rfl hv)
                                | 1, hx, hv => injection hx with hx; subst hx; exact are _ v (hA.2 1 _ v rfl hv) hpe'
                                | 2, hx, hv => injection hx with hx; subst hx; exact ar2 v (hA.2 2 _ v rfl hv)
                                | 3, hx, hv => injection hx with hx; subst hx; exact arn _ v _ (hA.2 3 _ v rfl hv) hself2
                                | 4, hx, hv => injection hx with hx; subst hx; exact arx _ v (hA.2 4 _ v rfl hv) hpx'
                                | j + 5, hx, hv => simp at hx
                              | i + 6, ho, hr => simp at ho
                            · simp only [QSig.init] at ho
                              match i, ho, hri with
                              | 0, ho, hri => injection ho with ho; subst ho; cases hw
                              | 1, ho, hri =>
                                injection hri with hri; subst hri
                                match j, hrj with
                                | 0, hrj => injection hrj with hrj; subst hrj; exact fun hk2 => (okF k hk2).1 hk
                                | 1, hrj => exact absurd rfl hij
                                | 2, hrj => injection hrj with hrj; subst hrj; exact dFB k hk
                                | 3, hrj => injection hrj with hrj; subst hrj; exact dFR k hk
                                | 4, hrj => injection hrj with hrj; subst hrj; exact fun hf => hf
                                | 5, hrj => injection hrj with hrj; subst hrj; exact fun hf => hf
                                | j + 6, hrj => simp at hrj
                              | 2, ho, hri =>
                                injection hri with hri; subst hri
                                match j, hrj with
                                | 0, hrj => injection hrj with hrj; subst hrj; exact fun hk2 => (okF k hk2).2.1 hk
                                | 1, hrj => injection hrj with hrj; subst hrj; exact fun hk2 => dFB k hk2 hk
                                | 2, hrj => exact absurd rfl hij
                                | 3, hrj => injection hrj with hrj; subst hrj; exact dBR k hk
                                | 4, hrj => injection hrj with hrj; subst hrj; exact fun hf => hf
                                | 5, hrj => injection hrj with hrj; subst hrj; exact fun hf => hf
                                | j + 6, hrj => simp at hrj
                              | 3, ho, hri =>
                                injection hri with hri; subst hri
                                match j, hrj with
                                | 0, hrj => injection hrj with hrj; subst hrj; exact fun hk2 => (okF k hk2).2.2 hk
                                | 1, hrj => injection hrj with hrj; subst hrj; exact fun hk2 => dFR k hk2 hk
                                | 2, hrj => injection hrj with hrj; subst hrj; exact fun hk2 => dBR k hk2 hk
                                | 3, hrj => exact absurd rfl hij
                                | 4, hrj => injection hrj with hrj; subst hrj; exact fun hf => hf
                                | 5, hrj => injection hrj with hrj; subst hrj; exact fun hf => hf
                                | j + 6, hrj => simp at hrj
                              | 4, ho, hri => injection ho with ho; subst ho; cases hw
                              | 5, ho, hri => injection ho with ho; subst ho; cases hw
                              | i + 6, ho, hri => simp at ho
                            · simp only [QSig.init] at ho
                              left
                              match i, ho, hr with
                              | 0, ho, hr => injection ho with ho; subst ho; cases hw
                              | 1, ho, hr => injection hr with hr; subst hr; exact .inl hk
                              | 2, ho, hr => injection hr with hr; subst hr; exact .inr (.inl hk)
                              | 3, ho, hr => injection hr with hr; subst hr; exact .inr (.inr hk)
                              | 4, ho, hr => injection ho with ho; subst ho; cases hw
                              | 5, ho, hr => injection ho with ho; subst ho; cases hw
                              | i + 6, ho, hr => simp at ho
                            · simp only [QSig.init] at ho
                              left
                              match i, ho, hr with
                              | 0, ho, hr => injection ho with ho; cases ho
                              | 1, ho, hr => injection ho with ho; cases ho
                              | 2, ho, hr => injection ho with ho; cases ho
                              | 3, ho, hr => injection hr with hr; subst hr; exact hk
                              | 4, ho, hr => injection ho with ho; cases ho
                              | 5, ho, hr => injection ho with ho; cases ho
                              | i + 6, ho, hr => simp at ho
                            · match i, hr with
                              | 0, hr =>
                                injection hr with hr; subst hr
                                obtain ⟨j, r, _, hrj, hk⟩ := hk
                                exact h.lt j r hrj k hk
                              | 1, hr => injection hr with hr; subst hr; exact h.lt jF _ hrF k hk
                              | 2, hr => injection hr with hr; subst hr; exact h.lt jB _ hrB k hk
                              | 3, hr => injection hr with hr; subst hr; exact h.lt iR' _ hrR k hk
                              | 4, hr => injection hr with hr; subst hr; exact hk.elim
                              | 5, hr => injection hr with hr; subst hr; exact hk.elim
                              | i + 6, hr => simp at hr
                            · match j, hv with
                              | 0, hv => injection hv with hv; subst hv; exact ⟨rF, rfl, rfl, rfl⟩
                              | 1, hv => injection hv with hv; subst hv; exact ⟨rB, rfl, rfl, rfl⟩
                              | j + 2, hv => simp [qOwn] at hv
                            · rcases hk with hk | hk | hk
                              · exact h.wr jF _ rF hoF hrF rfl k hk
                              · exact h.wr jB _ rB hoB hrB rfl k hk
                              · exact h.wr iR' _ rR hoR hrR rfl k hk
                          · cases hself
                        · cases hx0
                      · cases hx0
                    · cases hx0
                  · cases hx0
                · cases hx0
              · cases hx0
            · cases hr
          · cases hr
        · cases hr
      · cases hr
    · cases hr
  · cases hr
end
end Go.Proofs.Ytpeflcbadgfebaa.Vs

set_option linter.unusedVariables false
set_option linter.unusedSimpArgs false
namespace Go.Proofs.Ytpeflcbadgfebaa.Vs
open Go.RowKit
section
variable {P : Program} {w w1 w0 w' : World} {S0 : Own} {st st1 : St} {μ μ1 : List ORec} {a a' : Act} {S : Nat → Prop}
theorem QSig.back_sound {q : QSig} {iF iB iR : Nat} {fd : Bool} {best : List q.t.D} {rF rB rR : ORec} (h : Rel w0 S0 st μ a w) (hoF : st.objs[iF]? = some (.box q.eF [.bool fd])) (hoB : st.objs[iB]? = some (.box q.eB [.sl iR])) (hoR : st.objs[iR]? = some (.row true q.eR q.t best))
    (hrF : μ[iF]? = some rF) (hrB : μ[iB]? = some rB) (hrR : μ[iR]? = some rR) (r1 : Rel w (qOwn rF rB rR) st1 μ1 a' w') {b : Bool} {l : List q.t.D} (hres : q.res st1 = some (b, l)) (dst : Option Tmp) :
    ∃ μ', Rel w0 S0 (q.back st iF iB iR dst b l) μ' (a.put dst (.tuple #[])) w' := by
  have nFB : iF ≠ iB := by intro he; subst he; rw [hoF] at hoB; injection hoB with hoB; injection hoB with _ hoB; injection hoB with hoB; cases hoB
  have nFR : iF ≠ iR := by intro he; subst he; rw [hoF] at hoR; injection hoR with hoR; cases hoR
  have nBR : iB ≠ iR := by intro he; subst he; rw [hoB] at hoR; injection hoR with hoR; cases hoR
  have dFB := h.dj iF iB _ rF rB nFB hoF rfl hrF hrB
  have dFR := h.dj iF iR _ rF rR nFR hoF rfl hrF hrR
  have dBR := h.dj iB iR _ rB rR nBR hoB rfl hrB hrR
  obtain ⟨okF, _⟩ := h.ob iF _ rF hoF hrF
  obtain ⟨okB, _⟩ := h.ob iB _ rB hoB hrB
  have hs := h.kp.size
  have hs1 := r1.kp.size
  unfold QSig.res at hres
  split at hres
  · rename_i eF' b' ho1
    split at hres
    · rename_i eB' m ho2
      split at hres
      · rename_i eR' t' l' hom
        split at hres
        · rename_i hc
          obtain ⟨⟨rfl, rfl, rfl⟩, ht⟩ := hc
          subst ht
          injection hres with hres
          injection hres with hb hl
          subst hb
          have hl : l' = l := hl
          subst hl
          obtain ⟨c1, hc1, hc1v, hc1b⟩ := r1.ov 0 (rF.v, rF.blk) rfl
          obtain ⟨c2, hc2, hc2v, hc2b⟩ := r1.ov 1 (rB.v, rB.blk) rfl
          obtain ⟨cm, hcm⟩ := r1.some_rec hom
          obtain ⟨_, vs1, g1, g2, g3⟩ := r1.ob 1 _ c1 ho1 hc1
          obtain ⟨_, vs2, k1, k2, k3⟩ := r1.ob 2 _ c2 ho2 hc2
          have hrow : RowRep (Rep q.t) q.t.sz q.eR w' cm.ok l' cm.v := r1.ob m _ cm hom hcm
          have hcmok : ∀ k, cm.ok k → rR.ok k ∨ w.heap.size ≤ k := fun k hk => r1.fr m _ _ _ cm hom hcm k hk
          rw [show c1.blk = rF.blk from hc1b] at g1
          rw [show c2.blk = rB.blk from hc2b] at k1
          have h1 := ((h.die iF).die iB).die iR
          have hdis : ∀ (j : Nat) r, (offAt (offAt (offAt μ iF) iB) iR)[j]? = some r → ∀ k, r.ok k → ¬ rF.ok k ∧ ¬ rB.ok k ∧ ¬ rR.ok k ∧ k < w.heap.size := by
            intro j r hr k hk
            obtain ⟨r2, e2, _, _, f2⟩ := Z1i hr
            rcases f2 with ⟨_, f2⟩ | ⟨n2, rfl⟩
            · exact absurd hk (f2 k)
            obtain ⟨r3, e3, _, _, f3⟩ := Z1i e2
            rcases f3 with ⟨_, f3⟩ | ⟨n3, rfl⟩
            · exact absurd hk (f3 k)
            obtain ⟨r4, e4, _, _, f4⟩ := Z1i e3
            rcases f4 with ⟨_, f4⟩ | ⟨n4, rfl⟩
            · exact absurd hk (f4 k)
            exact ⟨fun h2 => h.dj iF j _ rF r (Ne.symm n4) hoF rfl hrF e4 k h2 hk, fun h2 => h.dj iB j _ rB r (Ne.symm n3) hoB rfl hrB e4 k h2 hk, fun h2 => h.dj iR j _ rR r (Ne.symm n2) hoR rfl hrR e4 k h2 hk, h.lt j r e4 k hk⟩
          have h2 := h1.world r1.kp (fun j r hr k hk hk2 => by
            have hd := hdis j r hr k hk
            rcases hk2 with hk2 | hk2 | hk2
            · exact hd.1 hk2
            · exact hd.2.1 hk2
            · exact hd.2.2.1 hk2) (fun k hk => by
            rcases hk with hk | hk | hk
            · exact h.wr iF _ rF hoF hrF rfl k hk
            · exact h.wr iB _ rB hoB hrB rfl k hk
            · exact h.wr iR _ rR hoR hrR rfl k hk)
          have eF : (offAt (offAt (offAt μ iF) iB) iR)[iF]? = some rF.off := by
            rw [Z2h (Ne.symm nFR), Z2h (Ne.symm nFB), Z3O, hrF]; rfl
          have eB : (offAt (offAt (offAt μ iF) iB) iR)[iB]? = some rB.off := by
            rw [Z2h (Ne.symm nBR), Z3O, Z2h nFB, hrB]; rfl
          have lF := (List.getElem?_eq_some_iff.1 hoF).1
          have lB := (List.getElem?_eq_some_iff.1 hoB).1
          have hlen1 : (((st.die iF).die iB).die iR).objs.length = st.objs.length := by simp [St.die]
          have h3 := h2.revive (i := iF) (o' := .box q.eF [.bool b']) (r' := rF) eF rfl rfl (by rw [hlen1]; exact lF) (fun μ' _ _ => ⟨okF, vs1, g1, ⟨g2.1, fun j x v hx hv => by
              have := g2.2 j x v hx hv
              match j, hx with
              | 0, hx => injection hx with hx; subst hx; exact this
              | j + 1, hx => simp at hx⟩, g3⟩) (fun j r _ hr k hk hk2 => (hdis j r hr k hk2).1 hk) (fun k hk => h.wr iF _ rF hoF hrF rfl k hk) (fun _ _ _ he => by cases he) (fun k hk => by have := h.lt iF rF hrF k hk; omega)
          have eF3 : ∀ (j : Nat) r, ((offAt (offAt (offAt μ iF) iB) iR).set iF rF)[j]? = some r → (j = iF ∧ r = rF) ∨ ∀ k, r.ok k → ¬ rF.ok k ∧ ¬ rB.ok k ∧ ¬ rR.ok k ∧ k < w.heap.size := by
            intro j r hr
            rw [List.getElem?_set] at hr
            split at hr
            · rename_i hj
              split at hr
              · injection hr with hr
                exact .inl ⟨hj.symm, hr.symm⟩
              · cases hr
            · exact .inr (hdis j r hr)
          have hno : ∀ (j : Nat) r, ((offAt (offAt (offAt μ iF) iB) iR).set iF rF)[j]? = some r → ∀ k, cm.ok k → ¬ r.ok k := by
            intro j r hr k hk hk2
            rcases eF3 j r hr with ⟨_, rfl⟩ | hd
            · rcases hcmok k hk with h5 | h5
              · exact dFR k hk2 h5
              · have := h.lt iF r hrF k hk2; omega
            · have hd := hd k hk2
              rcases hcmok k hk with h5 | h5
              · exact hd.2.2.1 h5
              · have := hd.2.2.2; omega
          have h4 := h3.push (o := .row true q.eR q.t l') (r := ⟨cm.v, 0, cm.ok⟩) hrow (fun _ j r hr k hk => hno j r hr k hk) (fun j o r _ _ hr k hk hk2 => hno j r hr k hk2 hk)
            (fun _ k hk => by
              rcases hcmok k hk with h5 | h5
              · exact h.wr iR _ rR hoR hrR rfl k h5
              · right; omega) (fun _ _ _ _ k hk => by
              rcases hcmok k hk with h5 | h5
              · exact h.fr iR _ _ _ rR hoR hrR k h5
              · right; omega) (fun k hk => r1.lt m cm hcm k hk)
          have hl3 : ((offAt (offAt (offAt μ iF) iB) iR).set iF rF).length = st.objs.length := by simp [offAt, h.len]
          have eB4 : (((offAt (offAt (offAt μ iF) iB) iR).set iF rF) ++ [⟨cm.v, 0, cm.ok⟩])[iB]? = some rB.off := by
            rw [List.getElem?_append_left (by rw [hl3]; exact lB), List.getElem?_set_ne nFB]
            exact eB
          have h5 := h4.revive (i := iB) (o' := .box q.eB [.sl st.objs.length]) (r' := rB) eB4 rfl rfl (by simp [St.die, St.kill]; omega) (fun μ' hμ' _ => ⟨okB, vs2, k1, ⟨k2.1, fun j x v hx hv => by
              match j, hx with
              | 0, hx =>
                injection hx with hx; subst hx
                obtain ⟨r, hr, hv2, hrest⟩ := k2.2 0 _ v rfl hv
                rw [hcm] at hr
                injection hr with hr
                subst hr
                refine ⟨⟨cm.v, 0, cm.ok⟩, ?_, hv2, hrest⟩
                rw [hμ' _ (by omega), ← hl3]
                exact Z9w _ _
              | j + 1, hx => simp at hx⟩, k3⟩) (fun j r hj hr k hk hk2 => by
                rw [List.getElem?_append] at hr
                split at hr
                · rcases eF3 j r hr with ⟨_, rfl⟩ | hd
                  · exact dFB k hk2 hk
                  · exact (hd k hk2).2.1 hk
                · have hin := List.mem_of_getElem? hr
                  obtain rfl := List.mem_singleton.1 hin
                  rcases hcmok k hk2 with h6 | h6
                  · exact dBR k hk h6
                  · have := h.lt iB rB hrB k hk; omega) (fun k hk => h.wr iB _ rB hoB hrB rfl k hk) (fun _ _ _ he => by cases he) (fun k hk => by have := h.lt iB rB hrB k hk; omega)
          exact ⟨_, h5.put dst (x := .tup []) (v := .tuple #[]) ⟨[], rfl, rfl, fun j x u hx => by simp at hx⟩⟩
        · cases hres
      · cases hres
    · cases hres
  · cases hres
end
structure QDef where
 q : QSig
 R : Type
 f : Nat → q.In → Option R
 dsp : {γ : Type} → R → (Bool → List q.t.D → Option γ) → Option γ
 ret : Bool × List q.t.D → Option R
 hret : ∀ {γ : Type} (b : Bool × List q.t.D) (z : R) (K : Bool → List q.t.D → Option γ), ret b = some z → dsp z K = K b.1 b.2
def QDef.of (q : QSig) (f : Nat → q.In → Option (Bool × List q.t.D)) : QDef where
 q := q
 R := Bool × List q.t.D
 f := f
 dsp := fun z K => K z.1 z.2
 ret := some
 hret := fun b z K hb => by injection hb with hb; rw [hb]
def QDef.E (D : QDef) : CloE where
 act := fun k st dst xs K => match D.q.read st xs with
  | some (x, (iF, iB, iR)) => match D.f k x with
   | some z => D.dsp z fun b l => K (D.q.back st iF iB iR dst b l)
   | none => none
  | none => none
noncomputable def fnKQ (D : QDef) (X : Ctx (Bool × List D.q.t.D)) (body : Code) (k : Nat) (x : D.q.In) : Option D.R :=
 exec X k body (D.q.init X.n x) (endK X D.ret) (fun _ _ => none) D.ret
section
variable {P : Program}
theorem QDef.zero {D : QDef} {f : FuncId} (he : ∀ vs w, (callFunc f vs).run P w = .ok (.enter f vs) w) (h0 : ∀ x, D.f 0 x = none) : ClSound P 0 f D.E :=
 ⟨he, fun dst xs vs h hl hT hk => by
  simp only [QDef.E] at hk
  split at hk
  ·split at hk
   ·rename_i z hz
    exact nomatch (h0 _).symm.trans hz
   ·cases hk
  ·cases hk⟩
theorem ZDb {D : QDef} {X : Ctx (Bool × List D.q.t.D)} {f : FuncId} {fn : Func} {body : Code} {k : Nat} (hps : ∀ x, objsK D.q.ps x = []) (hX : X.res = D.q.res) (hXno : X.no = 2) (hXn : X.n = fn.ntmps) (hf : P.funcs[f]? = some fn) (hb : fn.body = some body) (hrs : fn.results = #[])
    (hn : (fn.name == "runtime.NumGoroutine") = false) (hT : TTok P X.T) (hG : EnvOK P k X.G) (hL : LOK P X k body) (hs : ∀ x, D.f (k + 1) x = fnKQ D X body k x) : ClSound P (k + 1) f D.E := by
  refine ⟨Zd9 hf hn (by rw [hb]; rfl), fun {γ K r w w0 S0 st μ a} dst xs vs h hl hTr hk => ?_⟩
  simp only [QDef.E] at hk
  split at hk
  · rename_i x iF iB iR hx
    split at hk
    · rename_i z hz
      obtain ⟨rF, rB, rR, ⟨hoF, hoB, hoR⟩, ⟨hrF, hrB, hrR⟩, μ', h'⟩ := QSig.read_sound (n := X.n) hps h hl hTr hx
      have hz := (hs x).symm.trans hz
      rw [hXn] at h'
      have hz2 : exec X k body (D.q.init fn.ntmps x) (endK X D.ret) (fun _ _ => none) D.ret = some z := by rw [← hXn]; exact hz
      refine calls_of_wp hf hb (Code.wp_mono (fun e a' w' hq => ?_) (Z9x (S0 := qOwn rF rB rR) hT hG (by rw [hXno]; rfl) hL h' hz2))
      have fin : ∀ (st1 : St) (μ1 : List ORec) (b : Bool × List D.q.t.D), Rel w (qOwn rF rB rR) st1 μ1 a' w' → X.res st1 = some b → D.ret b = some z → ∃ v, (results fn a'.tmps).run P w' = .ok v w' ∧ ∃ st' μ', Rel w0 S0 st' μ' (a.put dst v) w' ∧ K st' = some r := by
        intro st1 μ1 b r1 hb2 hmk
        rw [hX] at hb2
        obtain ⟨μ2, r2⟩ := QSig.back_sound h hoF hoB hoR hrF hrB hrR r1 (b := b.1) (l := b.2) hb2 dst
        have hkk := (D.hret _ z (fun b l => K (D.q.back st iF iB iR dst b l)) hmk).symm.trans hk
        refine ⟨.tuple #[], ?_, _, μ2, r2, hkk⟩
        exact Zkj (us := []) (by rw [hrs]; rfl)
      cases e with
      | normal =>
        obtain ⟨st1, μ1, r1, hr1⟩ := hq
        unfold endK at hr1
        split at hr1
        · rename_i b hb2
          obtain ⟨v, g1, g2⟩ := fin st1 μ1 b r1 hb2 hr1
          exact ⟨r1.df, v, g1, g2⟩
        · cases hr1
      | ret =>
        obtain ⟨st1, μ1, b, r1, hb2, hr1⟩ := hq
        obtain ⟨v, g1, g2⟩ := fin st1 μ1 b r1 hb2 hr1
        exact ⟨r1.df, v, g1, g2⟩
      | exit id => obtain ⟨st1, μ1, r1, hr1⟩ := hq; cases hr1
      | goto l => exact False.elim hq
      | panic ch => exact False.elim hq
      | outgrown => exact False.elim hq
    · cases hk
  · cases hk
theorem ZBA {B : Type} {X : Ctx B} {D : LoopDef B} {id : Nat} {body : Code} (hT : TTok P X.T) (k : Nat) (hG : ∀ j, j ≤ k → EnvOK P j X.G) (h0 : ∀ x, D.lp 0 x = none) (hs : ∀ k x, D.lp (k + 1) x = loopK X D id body k x) (hL : ∀ j, j ≤ k → LOK P X j body) : EOK P X k D.E (.block id (.loop body)) := by
 intro γ KN KB r x w0 S0 μ a w hno h hr
 simp only [LoopDef.E] at hr
 split at hr
 ·rename_i z hz
  refine wp_block (wp_loop_ghost (fun j a w => j ≤ k ∧ ∃ x μ, Rel w0 S0 (D.inp.st X.n x) μ a w ∧ D.lp j x = some z) k ⟨Nat.le_refl k, x, μ, h, hz⟩ fun j a w ⟨hjk, x, μ, h, hz⟩ => ?_)
  cases j with
  | zero => rw [h0] at hz; cases hz
  | succ j =>
   rw [hs] at hz
   refine Code.wp_mono (fun e a' w' hq => ?_) (Z9x hT (hG j (by omega)) hno (hL j (by omega)) h hz)
   cases e with
   | normal =>
    obtain ⟨st1, μ1, h1, hr1⟩ := hq
    unfold backK at hr1
    split at hr1
    ·rename_i x' hx'
     obtain ⟨μ', h2⟩ := Z8L hno h1 hx'
     exact ⟨j, Nat.lt_succ_self j, by omega, x', μ', h2, hr1⟩
    ·cases hr1
   | exit id' =>
    obtain ⟨st1, μ1, h1, hr1⟩ := hq
    show Exit.inBlock id _ (.exit id') a' w'
    unfold Exit.inBlock
    simp only at hr1 ⊢
    split at hr1
    ·rename_i hid
     rw [if_pos hid]
     unfold outK at hr1
     split at hr1
     ·rename_i y hy
      obtain ⟨μ', h2⟩ := Z8L hno h1 hy
      exact ⟨y, μ', h2, by rw [← D.hN y z KN KB hr1]; exact hr⟩
     ·cases hr1
    ·cases hr1
   | ret =>
    obtain ⟨st1, μ1, b, h1, hb, hr1⟩ := hq
    exact ⟨st1, μ1, b, h1, hb, by rw [← D.hB b z KN KB hr1]; exact hr⟩
   | goto l => exact hq
   | panic ch => exact hq
   | outgrown => exact hq
 ·cases hr
theorem ZC4 {D : QDef} {X : Ctx (Bool × List D.q.t.D)} {f : FuncId} {fn : Func} {body : Code} {G : Env} (hps : ∀ x, objsK D.q.ps x = []) (hX : X.res = D.q.res) (hXG : X.G = (f, cloE D.E) :: G) (hXno : X.no = 2) (hXn : X.n = fn.ntmps) (hf : P.funcs[f]? = some fn) (hb : fn.body = some body) (hrs : fn.results = #[])
    (hn : (fn.name == "runtime.NumGoroutine") = false) (hT : TTok P X.T) (hG : ∀ k, EnvOK P k G) (hL : ∀ k, (∀ j, j ≤ k → EnvOK P j X.G) → LOK P X k body) (h0 : ∀ x, D.f 0 x = none) (hs : ∀ k x, D.f (k + 1) x = fnKQ D X body k x) : ∀ k j, j ≤ k → ClSound P j f D.E
  | 0, j, hj => by
    obtain rfl : j = 0 := by omega
    exact QDef.zero (Zd9 hf hn (by rw [hb]; rfl)) h0
  | k + 1, j, hj => by
    have ih := ZC4 hps hX hXG hXno hXn hf hb hrs hn hT hG hL h0 hs k
    have hE : ∀ j, j ≤ k → EnvOK P j X.G := fun j hj => by rw [hXG]; exact EnvOK.consC (ih j hj) (hG j)
    rcases Nat.lt_or_ge k j with hlt | hge
    · obtain rfl : j = k + 1 := by omega
      exact ZDb hps hX hXno hXn hf hb hrs hn hT (hE k (Nat.le_refl k)) (hL k hE) (hs k)
    · exact ih j hge
end
end Go.Proofs.Ytpeflcbadgfebaa.Vs
