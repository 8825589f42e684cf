/- The proof, part 11. -/
import Derived.Test.Ytgjmhbjdhihgaaaqhm9
set_option linter.unusedVariables false
set_option linter.unusedSimpArgs false
namespace Go.Proofs.Ytgjmhbjdhihgaaa.Vs
open Go.RowKit
def kindsAt (C i : Int) (x : CellD) : List FaultD := ([1, 2, 3].filter (fits x)).map fun kd => (kd, Int.tdiv i C, Int.tmod i C)
def possFrom (C : Int) : Int → List CellD → List FaultD
 | _, [] => []
 | i, x :: r => kindsAt C i x ++ possFrom C (i + 1) r
theorem Zm2 (C i : Int) (x : CellD) : (kindsAt C i x).length ≤ 3 := by
 unfold kindsAt
 rw [List.length_map]
 exact Nat.le_trans (List.length_filter_le _ _) (by simp)
theorem Zso (C : Int) : ∀ (r : List CellD) (i : Int), (possFrom C i r).length ≤ 3 * r.length
 | [], _ => by simp [possFrom]
 | x :: r, i => by
  have h1 := Zm2 C i x
  have h2 := Zso C r (i + 1)
  simp only [possFrom, List.length_append, List.length_cons]
  omega
theorem ZCK {i C : Int} (hi : 0 ≤ i) (hC : 1 ≤ C) : 0 ≤ Int.tdiv i C ∧ Int.tdiv i C ≤ i := by
 rw [Int.tdiv_eq_ediv_of_nonneg hi]
 exact ⟨Int.ediv_nonneg hi (by omega), Int.ediv_le_self _ hi⟩
theorem Z8p (R C : Int) (cs : List CellD) (x : CellD) (i kd : Int) (hi : 0 ≤ i) (hi2 : i ≤ 90) (hC : 1 ≤ C) (hk : 1 ≤ kd) (hk2 : kd ≤ 3) (v8 : List CellD) (v9 v10 : Int) (o : List FaultD) (ho : o.length ≤ 1000) (z : Int × Int × List CellD × List FaultD × List CellD × Int × Int)
    (h : Ev (fun k => Z1A k R C cs (if fits x kd then o ++ [(kd, Int.tdiv i C, Int.tmod i C)] else o) x.1 x.2 i (kd + 1) v8 v9 v10) z) : Ev (fun k => Z1A k R C cs o x.1 x.2 i kd v8 v9 v10) z := by
  have hd := ZCK hi hC
  have hC0 : ¬ C = 0 := by omega
  have hlen : o.length + 1 ≤ 5864062014805 := by omega
  refine Ev.succ ?_
  simp only [Z1A, hk2, decide_true, if_true]
  rw [w64 (n := kd + 1) (by omega) (by omega), w64 (n := Int.tdiv i C) (by omega) (by omega)]
  refine Ev.bind (ZpV x kd) ?_
  cases hf : fits x kd with
  | true =>
    simp only [hf, if_true] at h
    simp only [if_true, hC0, if_false, List.length_singleton]
    have : o.length + 1 ≤ 140737488355328 / 24 := by omega
    simp only [this, if_true]
    exact h
  | false =>
    simp only [hf, Bool.false_eq_true, if_false] at h
    simp only [Bool.false_eq_true, if_false]
    exact h
theorem Zr7 (R C : Int) (cs : List CellD) (x : CellD) (i : Int) (hi : 0 ≤ i) (hi2 : i ≤ 90) (hC : 1 ≤ C) (v8 : List CellD) (v9 v10 : Int) (o : List FaultD) (ho : o.length ≤ 900) : Ev (fun k => Z1A k R C cs o x.1 x.2 i 1 v8 v9 v10) (R, C, cs, o ++ kindsAt C i x, v8, v9, v10) := by
 have e1 : (if fits x 1 then o ++ [(1, Int.tdiv i C, Int.tmod i C)] else o) = o ++ (if fits x 1 then [(1, Int.tdiv i C, Int.tmod i C)] else []) := by split <;> simp
 refine Z8p R C cs x i 1 hi hi2 hC (by omega) (by omega) v8 v9 v10 o (by omega) _ ?_
 rw [e1]
 generalize h1 : (if fits x 1 then [((1 : Int), Int.tdiv i C, Int.tmod i C)] else []) = o1
 have l1 : o1.length ≤ 1 := by rw [← h1]; split <;> simp
 refine Z8p R C cs x i 2 hi hi2 hC (by omega) (by omega) v8 v9 v10 _ (by simp; omega) _ ?_
 have e2 : (if fits x 2 then (o ++ o1) ++ [(2, Int.tdiv i C, Int.tmod i C)] else o ++ o1) = (o ++ o1) ++ (if fits x 2 then [(2, Int.tdiv i C, Int.tmod i C)] else []) := by split <;> simp
 rw [e2]
 generalize h2 : (if fits x 2 then [((2 : Int), Int.tdiv i C, Int.tmod i C)] else []) = o2
 have l2 : o2.length ≤ 1 := by rw [← h2]; split <;> simp
 refine Z8p R C cs x i 3 hi hi2 hC (by omega) (by omega) v8 v9 v10 _ (by simp; omega) _ ?_
 refine Ev.succ ?_
 simp only [Z1A]
 have h4 : ¬ (3 + 1 : Int) ≤ 3 := by omega
 simp only [h4, decide_false, Bool.false_eq_true, if_false]
 refine Ev.of ?_
 rw [← h1, ← h2]
 unfold kindsAt
 cases f1 : fits x 1 <;> cases f2 : fits x 2 <;> cases f3 : fits x 3 <;> simp [List.filter, f1, f2, f3]
theorem Zg8 (R C : Int) (hC : 1 ≤ C) (cs : List CellD) : ∀ (r pre : List CellD) (o : List FaultD), (pre ++ r).length ≤ 90 → o.length ≤ 3 * pre.length → Ev (fun k => Z3e k R C cs o (pre ++ r) ((pre ++ r).length : Int) (pre.length : Int)) (o ++ possFrom C pre.length r)
 | [], pre, o, hl, ho => by
  refine Ev.succ ?_
  simp only [Z3e, Zz, decide_false, Bool.false_eq_true, if_false, possFrom]
  rw [List.append_nil o]
  exact Ev.some _
 | x :: r, pre, o, hl, ho => by
  have hl2 := hl
  simp only [List.length_append, List.length_cons] at hl2
  have hka : (kindsAt C pre.length x).length ≤ 3 := Zm2 _ _ _
  have ih := Zg8 R C hC cs r (pre ++ [x]) (o ++ kindsAt C pre.length x) (by simpa using hl) (by simp; omega)
  refine Ev.succ ?_
  simp only [Z3e, Zs, ZN, decide_true, if_true, Int.toNat_natCast, Zo]
  refine Ev.bind (Zr7 R C cs x (pre.length : Int) (by omega) (by omega) hC (pre ++ x :: r) ((pre ++ x :: r).length : Int) (pre.length : Int) o (by omega)) ?_
  show Ev (fun k => Z3e k R C cs (o ++ kindsAt C pre.length x) (pre ++ x :: r) ((pre ++ x :: r).length : Int) (wrap64 ((pre.length : Int) + 1))) _
  rw [Zq pre x r (by omega)]
  rw [← Zh] at ih
  refine ih.congr ?_
  simp [possFrom]
theorem Z7L (b : BoardD) (hb : boardOK b = true) : Ev (fun k => Z30 k b) (possFrom b.2.1 0 b.2.2) := by
 obtain ⟨g1, g2, g3, g4, g5, g6⟩ := ZH hb
 have hp := ZL g1 g2 g3 g4
 refine Ev.succ ?_
 simp only [Z30]
 exact Ev.bind (Zg8 b.1 b.2.1 g3 b.2.2 b.2.2 [] [] (by simp; omega) (by simp)) (Ev.some _)
theorem Zn3 (b : BoardD) (hl : b.2.2.length ≤ 9223372036854775806) : Ev (fun k => Z7i k b) (if boardOK b then (possFrom b.2.1 0 b.2.2, true) else ([], false)) := by
 refine Ev.succ ?_
 simp only [Z7i]
 refine Ev.bind (ZdR b hl) ?_
 cases hb : boardOK b with
 | false => simp only [Bool.not_false, if_true, Bool.false_eq_true, if_false]; exact Ev.some _
 | true =>
  simp only [Bool.not_true, Bool.false_eq_true, if_false, if_true]
  exact Ev.bind (Z7L b hb) (Ev.some _)
theorem Z63 (R C : Int) (cs : List CellD) (x : CellD) (hx : cellOK x = true) (i kd : Int) (hi : 0 ≤ i) (hi2 : i ≤ 90) (hC : 1 ≤ C) (hk : 1 ≤ kd) (hk2 : kd ≤ 3) (v8 : List CellD) (v9 v10 : Int) (o : List FaultD) (ho : o.length ≤ 1000) (z : Int × Int × List CellD × List FaultD × List CellD × Int × Int)
    (h : Ev (fun k => Z16 k R C cs (if fits x kd then o ++ [(kd, Int.tdiv i C, Int.tmod i C)] else o) x.1 x.2 i (kd + 1) v8 v9 v10) z) : Ev (fun k => Z16 k R C cs o x.1 x.2 i kd v8 v9 v10) z := by
  have hd := ZCK hi hC
  have hC0 : ¬ C = 0 := by omega
  have hlen : o.length + 1 ≤ 5864062014805 := by omega
  refine Ev.succ ?_
  simp only [Z16, hk2, decide_true, if_true]
  rw [w64 (n := kd + 1) (by omega) (by omega), w64 (n := Int.tdiv i C) (by omega) (by omega)]
  refine Ev.bind (Znm x kd hx) ?_
  cases hf : fits x kd with
  | true =>
    simp only [hf, if_true] at h
    simp only [if_true, hC0, if_false, List.length_singleton]
    have : o.length + 1 ≤ 140737488355328 / 24 := by omega
    simp only [this, if_true]
    exact h
  | false =>
    simp only [hf, Bool.false_eq_true, if_false] at h
    simp only [Bool.false_eq_true, if_false]
    exact h
theorem ZkE (R C : Int) (cs : List CellD) (x : CellD) (hx : cellOK x = true) (i : Int) (hi : 0 ≤ i) (hi2 : i ≤ 90) (hC : 1 ≤ C) (v8 : List CellD) (v9 v10 : Int) (o : List FaultD) (ho : o.length ≤ 900) : Ev (fun k => Z16 k R C cs o x.1 x.2 i 1 v8 v9 v10) (R, C, cs, o ++ kindsAt C i x, v8, v9, v10) := by
 have e1 : (if fits x 1 then o ++ [(1, Int.tdiv i C, Int.tmod i C)] else o) = o ++ (if fits x 1 then [(1, Int.tdiv i C, Int.tmod i C)] else []) := by split <;> simp
 refine Z63 R C cs x hx i 1 hi hi2 hC (by omega) (by omega) v8 v9 v10 o (by omega) _ ?_
 rw [e1]
 generalize h1 : (if fits x 1 then [((1 : Int), Int.tdiv i C, Int.tmod i C)] else []) = o1
 have l1 : o1.length ≤ 1 := by rw [← h1]; split <;> simp
 refine Z63 R C cs x hx i 2 hi hi2 hC (by omega) (by omega) v8 v9 v10 _ (by simp; omega) _ ?_
 have e2 : (if fits x 2 then (o ++ o1) ++ [(2, Int.tdiv i C, Int.tmod i C)] else o ++ o1) = (o ++ o1) ++ (if fits x 2 then [(2, Int.tdiv i C, Int.tmod i C)] else []) := by split <;> simp
 rw [e2]
 generalize h2 : (if fits x 2 then [((2 : Int), Int.tdiv i C, Int.tmod i C)] else []) = o2
 have l2 : o2.length ≤ 1 := by rw [← h2]; split <;> simp
 refine Z63 R C cs x hx i 3 hi hi2 hC (by omega) (by omega) v8 v9 v10 _ (by simp; omega) _ ?_
 refine Ev.succ ?_
 simp only [Z16]
 have h4 : ¬ (3 + 1 : Int) ≤ 3 := by omega
 simp only [h4, decide_false, Bool.false_eq_true, if_false]
 refine Ev.of ?_
 rw [← h1, ← h2]
 unfold kindsAt
 cases f1 : fits x 1 <;> cases f2 : fits x 2 <;> cases f3 : fits x 3 <;> simp [List.filter, f1, f2, f3]
theorem Zd4 (R C : Int) (hC : 1 ≤ C) (cs : List CellD) : ∀ (r pre : List CellD) (o : List FaultD), (∀ y ∈ r, cellOK y = true) → (pre ++ r).length ≤ 90 → o.length ≤ 3 * pre.length → Ev (fun k => Z1P k R C cs o (pre ++ r) ((pre ++ r).length : Int) (pre.length : Int)) (o ++ possFrom C pre.length r)
 | [], pre, o, hx, hl, ho => by
  refine Ev.succ ?_
  simp only [Z1P, Zz, decide_false, Bool.false_eq_true, if_false, possFrom]
  rw [List.append_nil o]
  exact Ev.some _
 | x :: r, pre, o, hx, hl, ho => by
  have hl2 := hl
  simp only [List.length_append, List.length_cons] at hl2
  have hka : (kindsAt C pre.length x).length ≤ 3 := Zm2 _ _ _
  have ih := Zd4 R C hC cs r (pre ++ [x]) (o ++ kindsAt C pre.length x) (fun y hy => hx y (List.mem_cons_of_mem _ hy)) (by simpa using hl) (by simp; omega)
  refine Ev.succ ?_
  simp only [Z1P, Zs, ZN, decide_true, if_true, Int.toNat_natCast, Zo]
  refine Ev.bind (ZkE R C cs x (hx x (List.mem_cons_self ..)) (pre.length : Int) (by omega) (by omega) hC (pre ++ x :: r) ((pre ++ x :: r).length : Int) (pre.length : Int) o (by omega)) ?_
  show Ev (fun k => Z1P k R C cs (o ++ kindsAt C pre.length x) (pre ++ x :: r) ((pre ++ x :: r).length : Int) (wrap64 ((pre.length : Int) + 1))) _
  rw [Zq pre x r (by omega)]
  rw [← Zh] at ih
  refine ih.congr ?_
  simp [possFrom]
theorem ZaA (b : BoardD) (hb : boardOK b = true) : Ev (fun k => Z3w k b) (possFrom b.2.1 0 b.2.2) := by
 obtain ⟨g1, g2, g3, g4, g5, g6⟩ := ZH hb
 have hp := ZL g1 g2 g3 g4
 refine Ev.succ ?_
 simp only [Z3w]
 exact Ev.bind (Zd4 b.1 b.2.1 g3 b.2.2 b.2.2 [] [] g6 (by simp; omega) (by simp)) (Ev.some _)
theorem Zn5 (b : BoardD) (hl : b.2.2.length ≤ 9223372036854775806) : Ev (fun k => Z74 k b) (if boardOK b then (possFrom b.2.1 0 b.2.2, true) else ([], false)) := by
 refine Ev.succ ?_
 simp only [Z74]
 refine Ev.bind (Zgo b hl) ?_
 cases hb : boardOK b with
 | false => simp only [Bool.not_false, if_true, Bool.false_eq_true, if_false]; exact Ev.some _
 | true =>
  simp only [Bool.not_true, Bool.false_eq_true, if_false, if_true]
  exact Ev.bind (ZaA b hb) (Ev.some _)
theorem ZCL {i C : Int} (hi : 0 ≤ i) (hC : 1 ≤ C) : Int.tdiv i C * C + Int.tmod i C = i ∧ 0 ≤ Int.tmod i C ∧ Int.tmod i C < C ∧ 0 ≤ Int.tdiv i C := by
 rw [Int.tdiv_eq_ediv_of_nonneg hi, Int.tmod_eq_emod_of_nonneg hi]
 refine ⟨?_, Int.emod_nonneg _ (by omega), Int.emod_lt_of_pos _ (by omega), Int.ediv_nonneg hi (by omega)⟩
 rw [Int.mul_comm]
 exact Int.mul_ediv_add_emod i C
theorem Zvv {C i : Int} {x : CellD} {f : FaultD} (h : f ∈ kindsAt C i x) : f.2.1 = Int.tdiv i C ∧ f.2.2 = Int.tmod i C ∧ fits x f.1 = true := by
 unfold kindsAt at h
 obtain ⟨kd, h1, rfl⟩ := List.mem_map.1 h
 exact ⟨rfl, rfl, (List.mem_filter.1 h1).2⟩
theorem ZvQ {C : Int} : ∀ {r : List CellD} {i : Nat} {f : FaultD}, f ∈ possFrom C i r → ∃ j : Nat, i ≤ j ∧ j < i + r.length ∧ f.2.1 = Int.tdiv j C ∧ f.2.2 = Int.tmod j C ∧ fits (List.getD r (j - i) (0, 0)) f.1 = true
 | [], i, f, h => by simp [possFrom] at h
 | x :: r, i, f, h => by
  simp only [possFrom, List.mem_append] at h
  rcases h with h | h
  ·obtain ⟨h1, h2, h3⟩ := Zvv h
   exact ⟨i, Nat.le_refl _, by simp, h1, h2, by simpa using h3⟩
  ·have h' : f ∈ possFrom C ((i + 1 : Nat) : Int) r := h
   obtain ⟨j, h1, h2, h3, h4, h5⟩ := ZvQ h'
   refine ⟨j, by omega, by simp only [List.length_cons]; omega, h3, h4, ?_⟩
   rw [show j - i = (j - (i + 1)) + 1 by omega]
   exact h5
theorem ZoR {b : BoardD} (hb : boardOK b = true) {f : FaultD} (h : f ∈ possFrom b.2.1 0 b.2.2) : 0 ≤ f.2.1 ∧ f.2.1 < b.1 ∧ 0 ≤ f.2.2 ∧ f.2.2 < b.2.1 ∧ fits (List.getD b.2.2 (placeOf b f).toNat (0, 0)) f.1 = true := by
 obtain ⟨g1, g2, g3, g4, g5, g6⟩ := ZH hb
 have h' : f ∈ possFrom b.2.1 ((0 : Nat) : Int) b.2.2 := h
 obtain ⟨j, h1, h2, h3, h4, h5⟩ := ZvQ h'
 obtain ⟨d1, d2, d3, d4⟩ := ZCL (i := (j : Int)) (C := b.2.1) (by omega) g3
 have hp : placeOf b f = j := by unfold placeOf; rw [h3, h4]; exact d1
 refine ⟨by rw [h3]; exact d4, ?_, by rw [h4]; exact d2, by rw [h4]; exact d3, ?_⟩
 ·rw [h3]
  by_cases hh : Int.tdiv (j : Int) b.2.1 < b.1
  ·exact hh
  ·have := Int.mul_le_mul_of_nonneg_right (show b.1 ≤ Int.tdiv (j : Int) b.2.1 by omega) (show 0 ≤ b.2.1 by omega)
   omega
 ·rw [hp]
  simpa using h5
theorem Zjd {b : BoardD} (hb : boardOK b = true) {f : FaultD} (h : f ∈ possFrom b.2.1 0 b.2.2) : faultsOK b (-1) [f] = true := by
 obtain ⟨h1, h2, h3, h4, h5⟩ := ZoR hb h
 have hp := Z4E hb h1 h2 h3 h4
 unfold placeOf at h5
 have h6 : 0 ≤ f.2.1 ∧ f.2.1 < b.1 ∧ 0 ≤ f.2.2 ∧ f.2.2 < b.2.1 ∧ -1 < f.2.1 * b.2.1 + f.2.2 := ⟨h1, h2, h3, h4, by omega⟩
 simp only [faultsOK, h5, h6, and_self, decide_true, Bool.and_self]
theorem ZvH {b : BoardD} (hb : boardOK b = true) {f g : FaultD} (hf : f ∈ possFrom b.2.1 0 b.2.2) (hg : g ∈ possFrom b.2.1 0 b.2.2) (hle : placeOf b f ≤ placeOf b g) (hne : f.2.1 ≠ g.2.1 ∨ f.2.2 ≠ g.2.2) : faultsOK b (-1) [f, g] = true := by
 obtain ⟨h1, h2, h3, h4, h5⟩ := ZoR hb hf
 obtain ⟨k1, k2, k3, k4, k5⟩ := ZoR hb hg
 have hp := Z4E hb h1 h2 h3 h4
 unfold placeOf at h5 k5 hle
 have hlt : f.2.1 * b.2.1 + f.2.2 < g.2.1 * b.2.1 + g.2.2 := by
  rcases Int.lt_or_eq_of_le hle with hh | hh
  ·exact hh
  ·obtain ⟨e1, e2⟩ := Zrl h3 h4 k3 k4 hh
   rcases hne with hn | hn
   ·exact (hn e1).elim
   ·exact (hn e2).elim
 have h6 : 0 ≤ f.2.1 ∧ f.2.1 < b.1 ∧ 0 ≤ f.2.2 ∧ f.2.2 < b.2.1 ∧ -1 < f.2.1 * b.2.1 + f.2.2 := ⟨h1, h2, h3, h4, by omega⟩
 have h7 : 0 ≤ g.2.1 ∧ g.2.1 < b.1 ∧ 0 ≤ g.2.2 ∧ g.2.2 < b.2.1 ∧ f.2.1 * b.2.1 + f.2.2 < g.2.1 * b.2.1 + g.2.2 := ⟨k1, k2, k3, k4, hlt⟩
 simp only [faultsOK, h5, k5, h6, h7, and_self, decide_true, Bool.and_self]
theorem ZiN {b : BoardD} (hC : 1 ≤ b.2.1) : ∀ (r : List CellD) (i : Nat), List.Pairwise (fun f g => placeOf b f ≤ placeOf b g) (possFrom b.2.1 i r)
 | [], i => by simp [possFrom]
 | x :: r, i => by
  simp only [possFrom]
  have place : ∀ (j : Nat) (f : FaultD), f.2.1 = Int.tdiv j b.2.1 → f.2.2 = Int.tmod j b.2.1 → placeOf b f = j := by
   intro j f h3 h4
   unfold placeOf
   rw [h3, h4]
   exact (ZCL (Int.natCast_nonneg j) hC).1
  have hk : ∀ f ∈ kindsAt b.2.1 i x, placeOf b f = i := fun f hf => by
   obtain ⟨h1, h2, h3⟩ := Zvv hf
   exact place i f h1 h2
  refine List.pairwise_append.2 ⟨?_, ?_, ?_⟩
  ·exact List.Pairwise.imp_of_mem (R := fun _ _ => True) (fun {f g} hf hg _ => by rw [hk f hf, hk g hg]; exact Int.le_refl _) (List.pairwise_of_forall (fun _ _ => trivial))
  ·exact ZiN hC r (i + 1)
  ·intro f hf g hg
   have hg' : g ∈ possFrom b.2.1 ((i + 1 : Nat) : Int) r := hg
   obtain ⟨j, h1, h2, h3, h4, h5⟩ := ZvQ hg'
   rw [hk f hf, place j g h3 h4]
   omega
theorem Z7S {b : BoardD} (hb : boardOK b = true) : (possFrom b.2.1 0 b.2.2).length ≤ 270 := by
 obtain ⟨g1, g2, g3, g4, g5, g6⟩ := ZH hb
 have hpp := ZL g1 g2 g3 g4
 have := Zso b.2.1 b.2.2 0
 omega
end Go.Proofs.Ytgjmhbjdhihgaaa.Vs

set_option linter.unusedVariables false
set_option linter.unusedSimpArgs false
namespace Go.Proofs.Ytgjmhbjdhihgaaa.Vs
open Go.RowKit
def singlesOf (b : BoardD) (t : List Int) (s : List FallD) : List FaultD := (possFrom b.2.1 0 b.2.2).filter fun f => decide (endsOf b [f] t = s)
theorem ZhW (b : BoardD) (hb : boardOK b = true) (t : List Int) (ht : t.length ≤ 1000) (hc : colsOK b t) (s : List FallD) (hs : s.length = t.length) : ∀ (r pre acc : List FaultD), (∀ f ∈ r, faultsOK b (-1) [f] = true) → (pre ++ r).length ≤ 1000 → acc.length ≤ pre.length → Ev (fun k => Z45 k b.1 b.2.1 b.2.2 acc (pre ++ r) t s ((pre ++ r).length : Int) (pre.length : Int)) (acc ++ r.filter (fun f => decide (endsOf b [f] t = s)))
 | [], pre, acc, hf, hl, ha => by
  refine Ev.succ ?_
  simp only [Z45, Zz, decide_false, Bool.false_eq_true, if_false]
  exact Ev.of (by simp)
 | f :: r, pre, acc, hf, hl, ha => by
  have ih := fun acc' ha' => ZhW b hb t ht hc s hs r (pre ++ [f]) acc' (fun g hg => hf g (List.mem_cons_of_mem _ hg)) (by simpa using hl) ha'
  simp only [← Zh] at ih
  have hal : acc.length + 1 ≤ 140737488355328 / 24 := by simp at hl; omega
  have h1 := Z7D b hb [f] (hf f (List.mem_cons_self ..)) (by simp) t ht hc s hs
  refine Ev.succ ?_
  simp only [Z45, Zs, ZN, decide_true, if_true, Int.toNat_natCast, Zo, List.length_singleton, hal]
  rw [Zq pre f r (by omega)]
  refine Ev.bind h1 (Ev.ite (fun h => ?_) (fun h => ?_))
  ·have h : (fun f => decide (endsOf b [f] t = s)) f = true := h
   refine (ih (acc ++ [f]) (by simp; omega)).congr ?_
   simp only [List.filter_cons, h, if_true, List.append_assoc, List.singleton_append]
  ·have h : ¬ (fun f => decide (endsOf b [f] t = s)) f = true := h
   refine (ih acc (by simp; omega)).congr ?_
   exact congrArg (acc ++ ·) (List.filter_cons_of_neg (p := (fun f => decide (endsOf b [f] t = s))) h).symm
theorem ZfD (b : BoardD) (hb : boardOK b = true) (t : List Int) (ht : t.length ≤ 1000) (hc : colsOK b t) (s : List FallD) (hs : s.length = t.length) : Ev (fun k => Z70 k b t s) (singlesOf b t s) := by
 have hn := Z7S hb
 refine Ev.succ ?_
 simp only [Z70]
 exact Ev.bind (Z7L b hb) (Ev.bind (ZhW b hb t ht hc s hs (possFrom b.2.1 0 b.2.2) [] [] (fun f hf => Zjd hb hf) (by simp; omega) (by simp)) (Ev.some _))
theorem Zet (b : BoardD) (hb : boardOK b = true) (t : List Int) (ht : t.length ≤ 1000) (hc : colsOK b t) (s : List FallD) (hs : s.length = t.length) : ∀ (r pre acc : List FaultD), (∀ f ∈ r, faultsOK b (-1) [f] = true) → (pre ++ r).length ≤ 1000 → acc.length ≤ pre.length → Ev (fun k => Z2n k b.1 b.2.1 b.2.2 acc (pre ++ r) t s ((pre ++ r).length : Int) (pre.length : Int)) (acc ++ r.filter (fun f => decide (endsOf b [f] t = s)))
 | [], pre, acc, hf, hl, ha => by
  refine Ev.succ ?_
  simp only [Z2n, Zz, decide_false, Bool.false_eq_true, if_false]
  exact Ev.of (by simp)
 | f :: r, pre, acc, hf, hl, ha => by
  have ih := fun acc' ha' => Zet b hb t ht hc s hs r (pre ++ [f]) acc' (fun g hg => hf g (List.mem_cons_of_mem _ hg)) (by simpa using hl) ha'
  simp only [← Zh] at ih
  have hal : acc.length + 1 ≤ 140737488355328 / 24 := by simp at hl; omega
  have h1 := Z5S b hb [f] (hf f (List.mem_cons_self ..)) (by simp) t ht hc s
  refine Ev.succ ?_
  simp only [Z2n, Zs, ZN, decide_true, if_true, Int.toNat_natCast, Zo, List.length_singleton, hal]
  rw [Zq pre f r (by omega)]
  refine Ev.bind h1 (Ev.ite (fun h => ?_) (fun h => ?_))
  ·have h : (fun f => decide (endsOf b [f] t = s)) f = true := h
   refine (ih (acc ++ [f]) (by simp; omega)).congr ?_
   simp only [List.filter_cons, h, if_true, List.append_assoc, List.singleton_append]
  ·have h : ¬ (fun f => decide (endsOf b [f] t = s)) f = true := h
   refine (ih acc (by simp; omega)).congr ?_
   exact congrArg (acc ++ ·) (List.filter_cons_of_neg (p := (fun f => decide (endsOf b [f] t = s))) h).symm
theorem Zgi (b : BoardD) (hb : boardOK b = true) (t : List Int) (ht : t.length ≤ 1000) (hc : colsOK b t) (s : List FallD) (hs : s.length = t.length) : Ev (fun k => Z5Q k b t s) (singlesOf b t s) := by
 have hn := Z7S hb
 refine Ev.succ ?_
 simp only [Z5Q]
 exact Ev.bind (ZaA b hb) (Ev.bind (Zet b hb t ht hc s hs (possFrom b.2.1 0 b.2.2) [] [] (fun f hf => Zjd hb hf) (by simp; omega) (by simp)) (Ev.some _))
def pairsRow (b : BoardD) (t : List Int) (s : List FallD) (f : FaultD) (i : Nat) : Nat → List FaultD → List (List Int)
 | _, [] => []
 | j, g :: r => if (f.2.1 ≠ g.2.1 ∨ f.2.2 ≠ g.2.2) ∧ endsOf b [f, g] t = s then [(i : Int), (j : Int)] :: pairsRow b t s f i (j + 1) r else pairsRow b t s f i (j + 1) r
def pairsAll (b : BoardD) (t : List Int) (s : List FallD) : Nat → List FaultD → List (List Int)
 | _, [] => []
 | i, f :: r => pairsRow b t s f i (i + 1) r ++ pairsAll b t s (i + 1) r
def pairsOf (b : BoardD) (t : List Int) (s : List FallD) : List (List Int) := pairsAll b t s 0 (possFrom b.2.1 0 b.2.2)
theorem Zfw (b : BoardD) (t : List Int) (s : List FallD) (f : FaultD) (i : Nat) : ∀ (r : List FaultD) (j : Nat), (pairsRow b t s f i j r).length ≤ r.length
 | [], _ => by simp [pairsRow]
 | g :: r, j => by
  have ih := Zfw b t s f i r (j + 1)
  simp only [pairsRow]
  split <;> simp <;> omega
theorem Zja (b : BoardD) (hb : boardOK b = true) (t : List Int) (ht : t.length ≤ 1000) (hc : colsOK b t) (s : List FallD) (hs : s.length = t.length) (f : FaultD) (i : Nat) (v16 v17 : Int) : ∀ (r pre : List FaultD) (acc : List (List Int)), (∀ g ∈ r, (f.2.1 ≠ g.2.1 ∨ f.2.2 ≠ g.2.2) → faultsOK b (-1) [f, g] = true) → (pre ++ r).length ≤ 1000 → acc.length + r.length ≤ 1000000 →
    Ev (fun k => Z24 k b.1 b.2.1 b.2.2 (pre ++ r) acc f.1 f.2.1 f.2.2 t s (i : Int) (pre.length : Int) v16 v17) (b.1, b.2.1, b.2.2, pre ++ r, acc ++ pairsRow b t s f i pre.length r, t, s, v16, v17)
  | [], pre, acc, hfg, hl, ha => by
    refine Ev.succ ?_
    simp only [Z24, Zz, decide_false, Bool.false_eq_true, if_false]
    exact Ev.of (by simp [pairsRow])
  | g :: r, pre, acc, hfg, hl, ha => by
    have ih := fun acc' ha' => Zja b hb t ht hc s hs f i v16 v17 r (pre ++ [g]) acc' (fun x hx => hfg x (List.mem_cons_of_mem _ hx)) (by simpa using hl) ha'
    simp only [← Zh] at ih
    have hal : acc.length + 1 ≤ 140737488355328 / 24 := by omega
    refine Ev.succ ?_
    simp only [Z24, Zs, ZN, decide_true, if_true, Int.toNat_natCast, Zo, List.length_singleton, hal]
    rw [Zq pre g r (by omega)]
    refine Ev.ite (fun h => ?_) (fun h => Ev.ite (fun h2 => ?_) (fun h2 => ?_))
    · simp only [ne_eq, decide_eq_true_eq] at h
      have h1 := Z7D b hb [f, g] (hfg g (List.mem_cons_self ..) (.inl h)) (by simp) t ht hc s hs
      refine Ev.bind h1 (Ev.ite (fun hh => ?_) (fun hh => ?_))
      · simp only [decide_eq_true_eq] at hh
        refine (ih (acc ++ [[(i : Int), (pre.length : Int)]]) (by simp only [List.length_append, List.length_singleton]; simp only [List.length_cons] at ha; omega)).congr ?_
        simp only [pairsRow]
        rw [if_pos ⟨.inl h, hh⟩]
        simp
      · simp only [decide_eq_true_eq] at hh
        refine (ih acc (by simp only [List.length_cons] at ha; omega)).congr ?_
        simp only [pairsRow]
        rw [if_neg (fun hc => hh hc.2)]
        simp
    · simp only [ne_eq, decide_eq_true_eq] at h2
      have h1 := Z7D b hb [f, g] (hfg g (List.mem_cons_self ..) (.inr h2)) (by simp) t ht hc s hs
      refine Ev.bind h1 (Ev.ite (fun hh => ?_) (fun hh => ?_))
      · simp only [decide_eq_true_eq] at hh
        refine (ih (acc ++ [[(i : Int), (pre.length : Int)]]) (by simp only [List.length_append, List.length_singleton]; simp only [List.length_cons] at ha; omega)).congr ?_
        simp only [pairsRow]
        rw [if_pos ⟨.inr h2, hh⟩]
        simp
      · simp only [decide_eq_true_eq] at hh
        refine (ih acc (by simp only [List.length_cons] at ha; omega)).congr ?_
        simp only [pairsRow]
        rw [if_neg (fun hc => hh hc.2)]
        simp
    · simp only [ne_eq, decide_eq_true_eq, Decidable.not_not] at h h2
      refine (ih acc (by simp only [List.length_cons] at ha; omega)).congr ?_
      simp only [pairsRow]
      rw [if_neg (fun hc => by rcases hc.1 with hx | hx; exact hx h; exact hx h2)]
      simp
theorem Zkc (b : BoardD) (hb : boardOK b = true) (t : List Int) (ht : t.length ≤ 1000) (hc : colsOK b t) (s : List FallD) (hs : s.length = t.length) : ∀ (r pre : List FaultD) (acc : List (List Int)), List.Pairwise (fun f g => (f.2.1 ≠ g.2.1 ∨ f.2.2 ≠ g.2.2) → faultsOK b (-1) [f, g] = true) r → (pre ++ r).length ≤ 1000 → acc.length + 1000 * r.length ≤ 1000000 →
    Ev (fun k => Z4C k b.1 b.2.1 b.2.2 (pre ++ r) acc t s ((pre ++ r).length : Int) (pre.length : Int)) (acc ++ pairsAll b t s pre.length r)
  | [], pre, acc, hf, hl, ha => by
    refine Ev.succ ?_
    simp only [Z4C, Zz, decide_false, Bool.false_eq_true, if_false]
    exact Ev.of (by simp [pairsAll])
  | f :: r, pre, acc, hf, hl, ha => by
    obtain ⟨hf1, hf2⟩ := List.pairwise_cons.1 hf
    have hrl : r.length ≤ 1000 := by simp at hl; omega
    have hrow := Zfw b t s f pre.length r (pre.length + 1)
    have h2 := Zja b hb t ht hc s hs f pre.length ((pre ++ f :: r).length : Int) (pre.length : Int) r (pre ++ [f]) acc hf1 (by simpa using hl) (by simp only [List.length_cons] at ha; omega)
    have ih := Zkc b hb t ht hc s hs r (pre ++ [f]) (acc ++ pairsRow b t s f pre.length (pre.length + 1) r) hf2 (by simpa using hl) (by simp only [List.length_append]; simp only [List.length_cons] at ha; omega)
    have e1 : (pre ++ [f]).length = pre.length + 1 := by simp
    rw [← Zh] at ih h2
    rw [e1] at ih h2
    have hn := Zq pre f r (by omega)
    rw [e1] at hn
    refine Ev.succ ?_
    simp only [Z4C, Zs, ZN, decide_true, if_true, Int.toNat_natCast, Zo]
    rw [hn]
    refine Ev.bind h2 ?_
    show Ev (fun k => Z4C k b.1 b.2.1 b.2.2 (pre ++ f :: r) (acc ++ pairsRow b t s f pre.length (pre.length + 1) r) t s ((pre ++ f :: r).length : Int) (wrap64 ((pre.length : Int) + 1))) _
    rw [hn]
    refine ih.congr ?_
    simp [pairsAll]
theorem ZmQ (b : BoardD) (hb : boardOK b = true) (t : List Int) (ht : t.length ≤ 1000) (hc : colsOK b t) (s : List FallD) (hs : s.length = t.length) : Ev (fun k => Zar k b t s) (pairsOf b t s) := by
 have hn := Z7S hb
 obtain ⟨g1, g2, g3, g4, g5, g6⟩ := ZH hb
 have hpw : List.Pairwise (fun f g => (f.2.1 ≠ g.2.1 ∨ f.2.2 ≠ g.2.2) → faultsOK b (-1) [f, g] = true) (possFrom b.2.1 0 b.2.2) :=
  List.Pairwise.imp_of_mem (fun {f g} hf hg hle hne => ZvH hb hf hg hle hne) (ZiN (b := b) g3 b.2.2 0)
 refine Ev.succ ?_
 simp only [Zar]
 exact Ev.bind (Z7L b hb) (Ev.bind (Zkc b hb t ht hc s hs (possFrom b.2.1 0 b.2.2) [] [] hpw (by simp; omega) (by simp; omega)) (Ev.some _))
theorem Zgc (b : BoardD) (hb : boardOK b = true) (t : List Int) (ht : t.length ≤ 1000) (hc : colsOK b t) (s : List FallD) (hs : s.length = t.length) (f : FaultD) (i : Nat) (v16 v17 : Int) : ∀ (r pre : List FaultD) (acc : List (List Int)), (∀ g ∈ r, (f.2.1 ≠ g.2.1 ∨ f.2.2 ≠ g.2.2) → faultsOK b (-1) [f, g] = true) → (pre ++ r).length ≤ 1000 → acc.length + r.length ≤ 1000000 →
    Ev (fun k => Z1d k b.1 b.2.1 b.2.2 acc (pre ++ r) f.1 f.2.1 f.2.2 t s (i : Int) (pre.length : Int) v16 v17) (b.1, b.2.1, b.2.2, acc ++ pairsRow b t s f i pre.length r, pre ++ r, t, s, v16, v17)
  | [], pre, acc, hfg, hl, ha => by
    refine Ev.succ ?_
    simp only [Z1d, Zz, decide_false, Bool.false_eq_true, if_false]
    exact Ev.of (by simp [pairsRow])
  | g :: r, pre, acc, hfg, hl, ha => by
    have ih := fun acc' ha' => Zgc b hb t ht hc s hs f i v16 v17 r (pre ++ [g]) acc' (fun x hx => hfg x (List.mem_cons_of_mem _ hx)) (by simpa using hl) ha'
    simp only [← Zh] at ih
    have hal : acc.length + 1 ≤ 140737488355328 / 24 := by omega
    refine Ev.succ ?_
    simp only [Z1d, Zs, ZN, decide_true, if_true, Int.toNat_natCast, Zo, List.length_singleton, hal]
    rw [Zq pre g r (by omega)]
    refine Ev.ite (fun h => ?_) (fun h => Ev.ite (fun h2 => ?_) (fun h2 => ?_))
    · simp only [ne_eq, decide_eq_true_eq] at h
      have h1 := Z5S b hb [f, g] (hfg g (List.mem_cons_self ..) (.inl h)) (by simp) t ht hc s
      refine Ev.bind h1 (Ev.ite (fun hh => ?_) (fun hh => ?_))
      · simp only [decide_eq_true_eq] at hh
        refine (ih (acc ++ [[(i : Int), (pre.length : Int)]]) (by simp only [List.length_append, List.length_singleton]; simp only [List.length_cons] at ha; omega)).congr ?_
        simp only [pairsRow]
        rw [if_pos ⟨.inl h, hh⟩]
        simp
      · simp only [decide_eq_true_eq] at hh
        refine (ih acc (by simp only [List.length_cons] at ha; omega)).congr ?_
        simp only [pairsRow]
        rw [if_neg (fun hc => hh hc.2)]
        simp
    · simp only [ne_eq, decide_eq_true_eq] at h2
      have h1 := Z5S b hb [f, g] (hfg g (List.mem_cons_self ..) (.inr h2)) (by simp) t ht hc s
      refine Ev.bind h1 (Ev.ite (fun hh => ?_) (fun hh => ?_))
      · simp only [decide_eq_true_eq] at hh
        refine (ih (acc ++ [[(i : Int), (pre.length : Int)]]) (by simp only [List.length_append, List.length_singleton]; simp only [List.length_cons] at ha; omega)).congr ?_
        simp only [pairsRow]
        rw [if_pos ⟨.inr h2, hh⟩]
        simp
      · simp only [decide_eq_true_eq] at hh
        refine (ih acc (by simp only [List.length_cons] at ha; omega)).congr ?_
        simp only [pairsRow]
        rw [if_neg (fun hc => hh hc.2)]
        simp
    · simp only [ne_eq, decide_eq_true_eq, Decidable.not_not] at h h2
      refine (ih acc (by simp only [List.length_cons] at ha; omega)).congr ?_
      simp only [pairsRow]
      rw [if_neg (fun hc => by rcases hc.1 with hx | hx; exact hx h; exact hx h2)]
      simp
theorem Zg9 (b : BoardD) (hb : boardOK b = true) (t : List Int) (ht : t.length ≤ 1000) (hc : colsOK b t) (s : List FallD) (hs : s.length = t.length) : ∀ (r pre : List FaultD) (acc : List (List Int)), List.Pairwise (fun f g => (f.2.1 ≠ g.2.1 ∨ f.2.2 ≠ g.2.2) → faultsOK b (-1) [f, g] = true) r → (pre ++ r).length ≤ 1000 → acc.length + 1000 * r.length ≤ 1000000 →
    Ev (fun k => Z3c k b.1 b.2.1 b.2.2 acc (pre ++ r) t s ((pre ++ r).length : Int) (pre.length : Int)) (acc ++ pairsAll b t s pre.length r)
  | [], pre, acc, hf, hl, ha => by
    refine Ev.succ ?_
    simp only [Z3c, Zz, decide_false, Bool.false_eq_true, if_false]
    exact Ev.of (by simp [pairsAll])
  | f :: r, pre, acc, hf, hl, ha => by
    obtain ⟨hf1, hf2⟩ := List.pairwise_cons.1 hf
    have hrl : r.length ≤ 1000 := by simp at hl; omega
    have hrow := Zfw b t s f pre.length r (pre.length + 1)
    have h2 := Zgc b hb t ht hc s hs f pre.length ((pre ++ f :: r).length : Int) (pre.length : Int) r (pre ++ [f]) acc hf1 (by simpa using hl) (by simp only [List.length_cons] at ha; omega)
    have ih := Zg9 b hb t ht hc s hs r (pre ++ [f]) (acc ++ pairsRow b t s f pre.length (pre.length + 1) r) hf2 (by simpa using hl) (by simp only [List.length_append]; simp only [List.length_cons] at ha; omega)
    have e1 : (pre ++ [f]).length = pre.length + 1 := by simp
    rw [← Zh] at ih h2
    rw [e1] at ih h2
    have hn := Zq pre f r (by omega)
    rw [e1] at hn
    refine Ev.succ ?_
    simp only [Z3c, Zs, ZN, decide_true, if_true, Int.toNat_natCast, Zo]
    rw [hn]
    refine Ev.bind h2 ?_
    show Ev (fun k => Z3c k b.1 b.2.1 b.2.2 (acc ++ pairsRow b t s f pre.length (pre.length + 1) r) (pre ++ f :: r) t s ((pre ++ f :: r).length : Int) (wrap64 ((pre.length : Int) + 1))) _
    rw [hn]
    refine ih.congr ?_
    simp [pairsAll]
theorem Zi3 (b : BoardD) (hb : boardOK b = true) (t : List Int) (ht : t.length ≤ 1000) (hc : colsOK b t) (s : List FallD) (hs : s.length = t.length) : Ev (fun k => Z7G k b t s) (pairsOf b t s) := by
 have hn := Z7S hb
 obtain ⟨g1, g2, g3, g4, g5, g6⟩ := ZH hb
 have hpw : List.Pairwise (fun f g => (f.2.1 ≠ g.2.1 ∨ f.2.2 ≠ g.2.2) → faultsOK b (-1) [f, g] = true) (possFrom b.2.1 0 b.2.2) :=
  List.Pairwise.imp_of_mem (fun {f g} hf hg hle hne => ZvH hb hf hg hle hne) (ZiN (b := b) g3 b.2.2 0)
 refine Ev.succ ?_
 simp only [Z7G]
 exact Ev.bind (ZaA b hb) (Ev.bind (Zg9 b hb t ht hc s hs (possFrom b.2.1 0 b.2.2) [] [] hpw (by simp; omega) (by simp; omega)) (Ev.some _))
end Go.Proofs.Ytgjmhbjdhihgaaa.Vs

set_option linter.unusedVariables false
set_option linter.unusedSimpArgs false
namespace Go.Proofs.Ytgjmhbjdhihgaaa.Vs
open Go.RowKit
def faultsB (b : BoardD) (l : List FaultD) : Bool := decide (l.length ≤ 4) && faultsOK b (-1) l
theorem Zp9 {b : BoardD} {l : List FaultD} (h : faultsB b l = true) : l.length ≤ 4 ∧ faultsOK b (-1) l = true := by
 unfold faultsB at h
 simp only [Bool.and_eq_true, decide_eq_true_eq] at h
 exact h
def Z3J (b : BoardD) (t : List Int) (s : List FallD) : List Int × Bool := if seenOK b t s then (diffsFrom 0 (endsOf b [] t) s, true) else ([], false)
theorem Zs0 (b : BoardD) (t : List Int) (s : List FallD) (h0 : b.2.2.length ≤ 9223372036854775806) (h2 : t.length ≤ 9223372036854775806) (h3 : s.length ≤ 9223372036854775806) : Ev (fun k => Z9w k b t s) (Z3J b t s) := by
 refine Ev.succ ?_
 simp only [Z9w]
 unfold Z3J
 refine Ev.bind (a := seenOK b t s) (Z9b b t s h0 h2 h3) ?_
 cases g0 : seenOK b t s with
 | false => simp only [Bool.not_false, if_true, Bool.false_eq_true, if_false, Bool.false_and, Bool.and_false]; exact Ev.some _
 | true =>
  simp only [Bool.not_true, Bool.false_eq_true, if_false, if_true, Bool.and_self]
  obtain ⟨hb, h24, ht, hc, hs⟩ := Z4U g0
  have he := Z6w b [] t
  exact Ev.bind (ZBE b hb t (by omega) hc) (Ev.bind (Zfs (endsOf b [] t) s [] [] [] (by omega) rfl (by simp; omega) (by simp)) (Ev.some _))
theorem ZsD (b : BoardD) (t : List Int) (s : List FallD) (h0 : b.2.2.length ≤ 9223372036854775806) (h2 : t.length ≤ 9223372036854775806) (h3 : s.length ≤ 9223372036854775806) : Ev (fun k => Z9j k b t s) (Z3J b t s) := by
 refine Ev.succ ?_
 simp only [Z9j]
 unfold Z3J
 refine Ev.bind (a := seenOK b t s) (Zbz b t s h0 h2 h3) ?_
 cases g0 : seenOK b t s with
 | false => simp only [Bool.not_false, if_true, Bool.false_eq_true, if_false, Bool.false_and, Bool.and_false]; exact Ev.some _
 | true =>
  simp only [Bool.not_true, Bool.false_eq_true, if_false, if_true, Bool.and_self]
  obtain ⟨hb, h24, ht, hc, hs⟩ := Z4U g0
  have he := Z6w b [] t
  exact Ev.bind (Zzi b hb t (by omega) hc) (Ev.bind (Zf9 (endsOf b [] t) s [] [] [] (by omega) rfl (by simp; omega) (by simp)) (Ev.some _))
theorem Zuz (b : BoardD) (t : List Int) (s : List FallD) : (Z3J b t s).1.length ≤ t.length := by
 unfold Z3J
 split
 ·exact Nat.le_trans (Zpt _ _ _) (Nat.le_of_eq (Z6w _ _ _))
 ·simp
def Z1T (b : BoardD) (l : List FaultD) (t : List Int) (s : List FallD) : Bool × Bool := if seenOK b t s && faultsB b l then (decide (endsOf b l t = s), true) else (false, false)
theorem ZqS (b : BoardD) (l : List FaultD) (t : List Int) (s : List FallD) (h0 : b.2.2.length ≤ 9223372036854775806) (h1 : l.length ≤ 9223372036854775806) (h2 : t.length ≤ 9223372036854775806) (h3 : s.length ≤ 9223372036854775806) : Ev (fun k => Z8I k b l t s) (Z1T b l t s) := by
 refine Ev.succ ?_
 simp only [Z8I]
 unfold Z1T
 refine Ev.bind (a := seenOK b t s) (Z9b b t s h0 h2 h3) ?_
 cases g0 : seenOK b t s with
 | false => simp only [Bool.not_false, if_true, Bool.false_eq_true, if_false, Bool.false_and, Bool.and_false]; exact Ev.some _
 | true =>
  simp only [Bool.not_true, Bool.false_eq_true, if_false, if_true, Bool.and_self]
  obtain ⟨hb, h24, ht, hc, hs⟩ := Z4U g0
  refine Ev.bind (a := faultsB b l) (ZpZ b hb l h1) ?_
  cases g1 : faultsB b l with
  | false => simp only [Bool.not_false, if_true, Bool.false_eq_true, if_false, Bool.false_and, Bool.and_false]; exact Ev.some _
  | true =>
   simp only [Bool.not_true, Bool.false_eq_true, if_false, if_true, Bool.and_self]
   obtain ⟨hl4, hl⟩ := Zp9 g1
   exact Ev.bind (Z7D b hb l hl h1 t (by omega) hc s hs) (Ev.some _)
theorem Z8G (b : BoardD) (l : List FaultD) (t : List Int) (s : List FallD) (h0 : b.2.2.length ≤ 9223372036854775806) (h1 : l.length ≤ 9223372036854775806) (h2 : t.length ≤ 9223372036854775806) (h3 : s.length ≤ 9223372036854775806) : Ev (fun k => Z3a k b l t s) (Z1T b l t s) := by
 refine Ev.succ ?_
 simp only [Z3a]
 unfold Z1T
 refine Ev.bind (a := seenOK b t s) (Zbz b t s h0 h2 h3) ?_
 cases g0 : seenOK b t s with
 | false => simp only [Bool.not_false, if_true, Bool.false_eq_true, if_false, Bool.false_and, Bool.and_false]; exact Ev.some _
 | true =>
  simp only [Bool.not_true, Bool.false_eq_true, if_false, if_true, Bool.and_self]
  obtain ⟨hb, h24, ht, hc, hs⟩ := Z4U g0
  refine Ev.bind (a := faultsB b l) (ZwF b hb l h1) ?_
  cases g1 : faultsB b l with
  | false => simp only [Bool.not_false, if_true, Bool.false_eq_true, if_false, Bool.false_and, Bool.and_false]; exact Ev.some _
  | true =>
   simp only [Bool.not_true, Bool.false_eq_true, if_false, if_true, Bool.and_self]
   obtain ⟨hl4, hl⟩ := Zp9 g1
   exact Ev.bind (Z5S b hb l hl h1 t (by omega) hc s) (Ev.some _)
end Go.Proofs.Ytgjmhbjdhihgaaa.Vs

set_option maxRecDepth 100000
set_option maxHeartbeats 2000000
set_option linter.unusedVariables false
set_option linter.unusedSimpArgs false
namespace Go.Proofs.Ytgjmhbjdhihgaaa.Vs
open Go.RowKit
noncomputable section
noncomputable def Z1Q : List PK := [PK.mk (Ty.pair (Ty.int .i64) (Ty.pair (Ty.int .i64) (Ty.slice (79 : Nat) (Ty.pair (Ty.int .i64) (Ty.int .i64))))) true none false none, PK.mk (Ty.slice (77 : Nat) (Ty.pair (Ty.int .i64) (Ty.pair (Ty.int .i64) (Ty.int .i64)))) false none false none, PK.mk (Ty.slice (3 : Nat) (Ty.int .i64)) false none false none, PK.mk (Ty.slice (63 : Nat) (Ty.pair (Ty.int .i64) (Ty.pair (Ty.int .i64) (Ty.int .i64)))) false none false none]
noncomputable def Zd3 : List PK := [PK.mk (Ty.slice (5 : Nat) (Ty.int .u8)) false none false none]
noncomputable def Z8y (r : (Int × Int × List (Int × Int)) × List (Int × Int × Int) × List Int × List (Int × Int × Int)) : Tup Z1Q × OutD := ((r.1, r.2.1, r.2.2.1, r.2.2.2, ()), none)
noncomputable def Z8u : Tup Z1Q × OutD → Option ((Int × Int × List (Int × Int)) × List (Int × Int × Int) × List Int × List (Int × Int × Int))
 | (a, none) => some (a.1, a.2.1, a.2.2.1, a.2.2.2.1)
 | _ => none
theorem ZaG : ∀ b r, Z8u b = some r → Z8y r = b := by
 rintro ⟨a, o⟩ r h
 cases o with
 | none => injection h with h; subst h; rfl
 | some _ => cases h
noncomputable def Z6V : Nat → Int → Int → List (Int × Int) → List Int → Int → Int → Int → Int → List (Int × Int) → List Int → List (Int × Int × Int) → List (Int × Int × Int) → List (Int × Int × Int) → Bool → Option (LR (Int × Int × List (Int × Int) × List Int × Int × Int × Int × Int × List (Int × Int) × List Int × List (Int × Int × Int) × List (Int × Int × Int) × List (Int × Int × Int)) ((Int × Int × List (Int × Int)) × List (Int × Int × Int) × List Int × List (Int × Int × Int))) := fun k b1_0 b1_1 o2 b3_0 b3_1 b3_2 b4_0 b4_1 o5 o6 o7 o8 o9 v39 =>
    if v39 = true then Option.bind (Z70 k (b4_0, b4_1, o5) o6 o7) fun z5 => if decide ((↑(List.length z5) : Int) > (0 : Int)) = true then if (1 : Int) ≤ (↑(List.length z5) : Int) then some (LR.ret ((b4_0, b4_1, o5), List.take (Int.toNat (1 : Int) - Int.toNat (0 : Int)) (List.drop (Int.toNat (0 : Int)) z5), o6, o7)) else none else some (LR.go (b1_0, b1_1, o2, b3_0, b3_1, b3_2, b4_0, b4_1, o5, o6, o7, o8, o9)) else some (LR.go (b1_0, b1_1, o2, b3_0, b3_1, b3_2, b4_0, b4_1, o5, o6, o7, o8, o9))
noncomputable def Zgt : Spec := Spec.mk [OSh.ro, OSh.box (53 : Nat) [Sh.int .i64, Sh.int .i64, Sh.sl (2 : Nat)], OSh.row true (79 : Nat) (Ty.pair (Ty.int .i64) (Ty.int .i64)), OSh.box (114 : Nat) [Sh.snap (0 : Nat) (Ty.int .u8), Sh.int .i64, Sh.int .u64], OSh.box (53 : Nat) [Sh.int .i64, Sh.int .i64, Sh.sl (5 : Nat)], OSh.row true (79 : Nat) (Ty.pair (Ty.int .i64) (Ty.int .i64)), OSh.row true (3 : Nat) (Ty.int .i64), OSh.row true (63 : Nat) (Ty.pair (Ty.int .i64) (Ty.pair (Ty.int .i64) (Ty.int .i64))), OSh.row true (77 : Nat) (Ty.pair (Ty.int .i64) (Ty.pair (Ty.int .i64) (Ty.int .i64))), OSh.row true (77 : Nat) (Ty.pair (Ty.int .i64) (Ty.pair (Ty.int .i64) (Ty.int .i64)))] [((2 : Nat), TSh.at (Sh.ptr (1 : Nat) (0 : Nat))), ((6 : Nat), TSh.at (Sh.ptr (3 : Nat) (0 : Nat))), ((7 : Nat), TSh.at (Sh.ptr (4 : Nat) (0 : Nat))), ((8 : Nat), TSh.at (Sh.sl (6 : Nat))), ((9 : Nat), TSh.at (Sh.sl (7 : Nat))), ((10 : Nat), TSh.at (Sh.sl (8 : Nat))), ((11 : Nat), TSh.at (Sh.sl (9 : Nat))), ((39 : Nat), TSh.at Sh.bool)]
noncomputable def Zgw : Spec := Spec.mk [OSh.ro, OSh.box (53 : Nat) [Sh.int .i64, Sh.int .i64, Sh.sl (2 : Nat)], OSh.row true (79 : Nat) (Ty.pair (Ty.int .i64) (Ty.int .i64)), OSh.box (114 : Nat) [Sh.snap (0 : Nat) (Ty.int .u8), Sh.int .i64, Sh.int .u64], OSh.box (53 : Nat) [Sh.int .i64, Sh.int .i64, Sh.sl (5 : Nat)], OSh.row true (79 : Nat) (Ty.pair (Ty.int .i64) (Ty.int .i64)), OSh.row true (3 : Nat) (Ty.int .i64), OSh.row true (63 : Nat) (Ty.pair (Ty.int .i64) (Ty.pair (Ty.int .i64) (Ty.int .i64))), OSh.row true (77 : Nat) (Ty.pair (Ty.int .i64) (Ty.pair (Ty.int .i64) (Ty.int .i64))), OSh.row true (77 : Nat) (Ty.pair (Ty.int .i64) (Ty.pair (Ty.int .i64) (Ty.int .i64)))] [((2 : Nat), TSh.at (Sh.ptr (1 : Nat) (0 : Nat))), ((6 : Nat), TSh.at (Sh.ptr (3 : Nat) (0 : Nat))), ((7 : Nat), TSh.at (Sh.ptr (4 : Nat) (0 : Nat))), ((8 : Nat), TSh.at (Sh.sl (6 : Nat))), ((9 : Nat), TSh.at (Sh.sl (7 : Nat))), ((10 : Nat), TSh.at (Sh.sl (8 : Nat))), ((11 : Nat), TSh.at (Sh.sl (9 : Nat)))]
noncomputable def Zt : LoopDef (Tup Z1Q × OutD) := .rets Zgt Zgw (Int × Int × List (Int × Int) × List Int × Int × Int × Int × Int × List (Int × Int) × List Int × List (Int × Int × Int) × List (Int × Int × Int) × List (Int × Int × Int)) ((Int × Int × List (Int × Int)) × List (Int × Int × Int) × List Int × List (Int × Int × Int)) (fun k x => Z6V k x.1.2.1.1 x.1.2.1.2.1 x.1.2.2.1 x.1.2.2.2.1.1 x.1.2.2.2.1.2.1 x.1.2.2.2.1.2.2.1 x.1.2.2.2.2.1.1 x.1.2.2.2.2.1.2.1 x.1.2.2.2.2.2.1 x.1.2.2.2.2.2.2.1 x.1.2.2.2.2.2.2.2.1 x.1.2.2.2.2.2.2.2.2.1 x.1.2.2.2.2.2.2.2.2.2.1 x.2.2.2.2.2.2.2.2.1) (fun z => (((), (z.1, z.2.1, (), ()), z.2.2.1, (z.2.2.2.1, z.2.2.2.2.1, z.2.2.2.2.2.1, ()), (z.2.2.2.2.2.2.1, z.2.2.2.2.2.2.2.1, (), ()), z.2.2.2.2.2.2.2.2.1, z.2.2.2.2.2.2.2.2.2.1, z.2.2.2.2.2.2.2.2.2.2.1, z.2.2.2.2.2.2.2.2.2.2.2.1, z.2.2.2.2.2.2.2.2.2.2.2.2, ()), ((), (), (), (), (), (), (), ()))) (fun y => (y.1.2.1.1, y.1.2.1.2.1, y.1.2.2.1, y.1.2.2.2.1.1, y.1.2.2.2.1.2.1, y.1.2.2.2.1.2.2.1, y.1.2.2.2.2.1.1, y.1.2.2.2.2.1.2.1, y.1.2.2.2.2.2.1, y.1.2.2.2.2.2.2.1, y.1.2.2.2.2.2.2.2.1, y.1.2.2.2.2.2.2.2.2.1, y.1.2.2.2.2.2.2.2.2.2.1)) (fun _ => rfl) Z8y Z8u ZaG
noncomputable def ZR : Nat → Int → Int → List (Int × Int) → List Int → Int → Int → Int → Int → List (Int × Int) → List Int → List (Int × Int × Int) → List (Int × Int × Int) → List (Int × Int × Int) → Int → Int → Option (Int × Int × List (Int × Int) × Int × Int × List (Int × Int) × List Int × List (Int × Int × Int) × List (Int × Int × Int))
 | 0, _, _, _, _, _, _, _, _, _, _, _, _, _, _, _ => none
 | k + 1, b1_0, b1_1, o2, b3_0, b3_1, b3_2, b4_0, b4_1, o5, o6, o7, o8, o9, v53, v54 =>
  if decide (v54 < v53) = true then if (0 : Int) ≤ v54 then if v54 < (↑(List.length o8) : Int) then Option.bind (Z9a k (2 : Int) (↑(List.length o8) : Int)) fun z7 => Option.bind (Z19 k (b3_0, b3_1, b3_2) z7) fun z8 => if Prod.fst z8 = true then if List.length o9 + List.length [(Prod.fst (List.getD o8 (Int.toNat v54) ((0 : Int), (0 : Int), (0 : Int))), Prod.fst (Prod.snd (List.getD o8 (Int.toNat v54) ((0 : Int), (0 : Int), (0 : Int)))), Prod.snd (Prod.snd (List.getD o8 (Int.toNat v54) ((0 : Int), (0 : Int), (0 : Int)))))] ≤ (140737488355328 / 24 : Nat) then ZR k b1_0 b1_1 o2 b3_0 z8.2.1 z8.2.2 b4_0 b4_1 o5 o6 o7 o8 (o9 ++ [(Prod.fst (List.getD o8 (Int.toNat v54) ((0 : Int), (0 : Int), (0 : Int))), Prod.fst (Prod.snd (List.getD o8 (Int.toNat v54) ((0 : Int), (0 : Int), (0 : Int)))), Prod.snd (Prod.snd (List.getD o8 (Int.toNat v54) ((0 : Int), (0 : Int), (0 : Int)))))]) v53 (wrap64 (v54 + (1 : Int))) else none else ZR k b1_0 b1_1 o2 b3_0 z8.2.1 z8.2.2 b4_0 b4_1 o5 o6 o7 o8 o9 v53 (wrap64 (v54 + (1 : Int))) else none else none else some (b1_0, b1_1, o2, b4_0, b4_1, o5, o6, o7, o9)
noncomputable def Z7r : Spec := Spec.mk [OSh.ro, OSh.box (53 : Nat) [Sh.int .i64, Sh.int .i64, Sh.sl (2 : Nat)], OSh.row true (79 : Nat) (Ty.pair (Ty.int .i64) (Ty.int .i64)), OSh.box (114 : Nat) [Sh.snap (0 : Nat) (Ty.int .u8), Sh.int .i64, Sh.int .u64], OSh.box (53 : Nat) [Sh.int .i64, Sh.int .i64, Sh.sl (5 : Nat)], OSh.row true (79 : Nat) (Ty.pair (Ty.int .i64) (Ty.int .i64)), OSh.row true (3 : Nat) (Ty.int .i64), OSh.row true (63 : Nat) (Ty.pair (Ty.int .i64) (Ty.pair (Ty.int .i64) (Ty.int .i64))), OSh.row true (77 : Nat) (Ty.pair (Ty.int .i64) (Ty.pair (Ty.int .i64) (Ty.int .i64))), OSh.row true (77 : Nat) (Ty.pair (Ty.int .i64) (Ty.pair (Ty.int .i64) (Ty.int .i64)))] [((2 : Nat), TSh.at (Sh.ptr (1 : Nat) (0 : Nat))), ((6 : Nat), TSh.at (Sh.ptr (3 : Nat) (0 : Nat))), ((7 : Nat), TSh.at (Sh.ptr (4 : Nat) (0 : Nat))), ((8 : Nat), TSh.at (Sh.sl (6 : Nat))), ((9 : Nat), TSh.at (Sh.sl (7 : Nat))), ((10 : Nat), TSh.at (Sh.sl (8 : Nat))), ((11 : Nat), TSh.at (Sh.sl (9 : Nat))), ((52 : Nat), TSh.at (Sh.sl (8 : Nat))), ((53 : Nat), TSh.at (Sh.int .i64)), ((54 : Nat), TSh.at (Sh.int .i64))]
noncomputable def ZhS : Spec := Spec.mk [OSh.ro, OSh.box (53 : Nat) [Sh.int .i64, Sh.int .i64, Sh.sl (2 : Nat)], OSh.row true (79 : Nat) (Ty.pair (Ty.int .i64) (Ty.int .i64)), OSh.box (53 : Nat) [Sh.int .i64, Sh.int .i64, Sh.sl (4 : Nat)], OSh.row true (79 : Nat) (Ty.pair (Ty.int .i64) (Ty.int .i64)), OSh.row true (3 : Nat) (Ty.int .i64), OSh.row true (63 : Nat) (Ty.pair (Ty.int .i64) (Ty.pair (Ty.int .i64) (Ty.int .i64))), OSh.row true (77 : Nat) (Ty.pair (Ty.int .i64) (Ty.pair (Ty.int .i64) (Ty.int .i64)))] [((2 : Nat), TSh.at (Sh.ptr (1 : Nat) (0 : Nat))), ((7 : Nat), TSh.at (Sh.ptr (3 : Nat) (0 : Nat))), ((8 : Nat), TSh.at (Sh.sl (5 : Nat))), ((9 : Nat), TSh.at (Sh.sl (6 : Nat))), ((11 : Nat), TSh.at (Sh.sl (7 : Nat)))]
noncomputable def Z1V : LoopDef (Tup Z1Q × OutD) := .plain Z7r ZhS (Int × Int × List (Int × Int) × Int × Int × List (Int × Int) × List Int × List (Int × Int × Int) × List (Int × Int × Int)) (fun k x => ZR k x.1.2.1.1 x.1.2.1.2.1 x.1.2.2.1 x.1.2.2.2.1.1 x.1.2.2.2.1.2.1 x.1.2.2.2.1.2.2.1 x.1.2.2.2.2.1.1 x.1.2.2.2.2.1.2.1 x.1.2.2.2.2.2.1 x.1.2.2.2.2.2.2.1 x.1.2.2.2.2.2.2.2.1 x.1.2.2.2.2.2.2.2.2.1 x.1.2.2.2.2.2.2.2.2.2.1 x.2.2.2.2.2.2.2.2.2.1 x.2.2.2.2.2.2.2.2.2.2.1) (fun z => (((), (z.1, z.2.1, (), ()), z.2.2.1, (z.2.2.2.1, z.2.2.2.2.1, (), ()), z.2.2.2.2.2.1, z.2.2.2.2.2.2.1, z.2.2.2.2.2.2.2.1, z.2.2.2.2.2.2.2.2, ()), ((), (), (), (), (), ()))) (fun y => (y.1.2.1.1, y.1.2.1.2.1, y.1.2.2.1, y.1.2.2.2.1.1, y.1.2.2.2.1.2.1, y.1.2.2.2.2.1, y.1.2.2.2.2.2.1, y.1.2.2.2.2.2.2.1, y.1.2.2.2.2.2.2.2.1)) (fun _ => rfl)
noncomputable def Z5M : Nat → List Int → Option ((Int × Int × List (Int × Int)) × List (Int × Int × Int) × List Int × List (Int × Int × Int))
 | 0, _ => none
 | k + 1, p0 =>
  Option.bind (Z5Y k (p0, (0 : Int), (0 : Int))) fun z0 => Option.bind (Z7o k (Prod.fst z0.1, Prod.fst z0.1.2, Prod.snd z0.1.2)) fun z1 => if (!z1) = true then some ((Prod.fst z0.1, Prod.fst z0.1.2, Prod.snd z0.1.2), [], Prod.fst z0.2, Prod.fst z0.2.2) else Option.bind (Z30 k (Prod.fst z0.1, Prod.fst z0.1.2, Prod.snd z0.1.2)) fun z2 => Option.bind (Z4t k (Prod.fst z0.1, Prod.fst z0.1.2, Prod.snd z0.1.2) z0.2.1 z0.2.2.1) fun z3 => if z3 = true then Option.bind (Z19 k (p0, Prod.fst z0.2.2.2, Prod.snd z0.2.2.2) (2 : Int)) fun z4 => Option.bind (Z6V k (0 : Int) (0 : Int) [] p0 z4.2.1 z4.2.2 z0.1.1 z0.1.2.1 z0.1.2.2 z0.2.1 z0.2.2.1 z2 [] z4.1) fun z6 => LR.on z6 (fun y6 => Option.bind (ZR k y6.1 y6.2.1 y6.2.2.1 y6.2.2.2.1 y6.2.2.2.2.1 y6.2.2.2.2.2.1 y6.2.2.2.2.2.2.1 y6.2.2.2.2.2.2.2.1 y6.2.2.2.2.2.2.2.2.1 y6.2.2.2.2.2.2.2.2.2.1 y6.2.2.2.2.2.2.2.2.2.2.1 y6.2.2.2.2.2.2.2.2.2.2.2.1 y6.2.2.2.2.2.2.2.2.2.2.2.2 (↑(List.length y6.2.2.2.2.2.2.2.2.2.2.2.1) : Int) (0 : Int)) fun z9 => some ((Prod.fst z9.2.2.2, Prod.fst z9.2.2.2.2, Prod.fst z9.2.2.2.2.2), Prod.snd z9.2.2.2.2.2.2.2, Prod.fst z9.2.2.2.2.2.2, Prod.fst z9.2.2.2.2.2.2.2)) fun r6 => some r6 else Option.bind (ZR k (0 : Int) (0 : Int) [] p0 z0.2.2.2.1 z0.2.2.2.2 z0.1.1 z0.1.2.1 z0.1.2.2 z0.2.1 z0.2.2.1 z2 [] (↑(List.length z2) : Int) (0 : Int)) fun z10 => some ((Prod.fst z10.2.2.2, Prod.fst z10.2.2.2.2, Prod.fst z10.2.2.2.2.2), Prod.snd z10.2.2.2.2.2.2.2, Prod.fst z10.2.2.2.2.2.2, Prod.fst z10.2.2.2.2.2.2.2)
noncomputable def Z1h : FnDef := .of Zd3 Z1Q ((Int × Int × List (Int × Int)) × List (Int × Int × Int) × List Int × List (Int × Int × Int)) (fun k x => Z5M k x.1) Z8y Z8u ZaG
noncomputable def Z2B : Code := Try.f67.body.getD .skip
noncomputable def Zw : Ctx (Tup Z1Q × OutD) := { T := T, G := [(149, Z1z.E), (133, Z2M.E), (148, Z1a.E), (139, Z1S.E), (150, Z1v.E), (140, Z2r.E), (115, Z5K.E)], mvs := [49], no := 0, n := 72, res := resOf T Zd3 Z1Q Try.f67.results.toList, loops := [(0, Z1V.E)], regs := [], conds := [(39, Zt.E)], cuts := [] }
theorem Z8X (k : Nat) : EnvOK Try.prog k Zw.G := (EnvOK.cons (ZfO k) (EnvOK.cons (ZdT k) (EnvOK.cons (Z7B k) (EnvOK.cons (Z9g k) (EnvOK.cons (Zb3 k) (EnvOK.cons (ZeM k) (EnvOK.cons (ZzH k) (EnvOK.nil mixed))))))))
noncomputable def Z40 : Code := ((findCond 39 Z2B).map (·.1)).getD .skip
noncomputable def Z3Y : Code := ((findCond 39 Z2B).map (·.2)).getD .skip
theorem ZgA (k : Nat) (i : Zt.inp.D) : Zt.lp k i = branch (Zt.inp.st Zw.n i) (.tmp 39) (fun st => exec Zw k Z40 st (outK Zw Zt) (fun _ _ => none) Zt.mkB) (fun st => exec Zw k Z3Y st (outK Zw Zt) (fun _ _ => none) Zt.mkB) := by kernel_rfl
theorem ZfI (k : Nat) : EOK Try.prog Zw k Zt.E (.cond (.tmp 39) Z40 Z3Y) := Ztv (D := Zt) T_ok (Z8X k) (ZgA k) (@LOK.by _ _ _ _ Z40 [] (by kernel_rfl) AllOK.nil) (@LOK.by _ _ _ _ Z3Y [] (by kernel_rfl) AllOK.nil)
noncomputable def Z4s : Code := (findLoop 0 Z2B).getD .skip
theorem ZhP (k : Nat) (x : Z7r.D) : Z1V.lp (k + 1) x = loopK Zw Z1V 0 Z4s k x := by kernel_rfl
theorem ZhH (k : Nat) : LOK Try.prog Zw k Z4s := LOK.by [] (by kernel_rfl) AllOK.nil
theorem ZhV (x : Z7r.D) : Z1V.lp 0 x = none := by kernel_rfl
theorem Zhr (k : Nat) : EOK Try.prog Zw k Z1V.E (.block 0 (.loop Z4s)) := Zp T_ok Z8X ZhV ZhP ZhH k
theorem Zkr (k : Nat) (x : Tup Z1h.ps) : Z1h.f (k + 1) x = fnK Z1h Zw Z2B k x := by kernel_rfl
theorem ZkA (x : Tup Z1h.ps) : Z1h.f 0 x = none := by kernel_rfl
theorem Zkz (k : Nat) : LOK Try.prog Zw k Z2B := LOK.by [(Zt.E, .cond (.tmp 39) Z40 Z3Y), (Z1V.E, .block 0 (.loop Z4s))] (by kernel_rfl) (AllOK.cons (ZfI k) (AllOK.cons (Zhr k) AllOK.nil))
theorem Zki (k : Nat) : SoundAt Try.prog k 67 Z1h.E := @Ze Try.prog Z1h Zw 67 Try.f67 Z2B (by kernel_rfl) (by kernel_rfl) (by kernel_rfl) Try.func67 (by kernel_rfl) (by kernel_rfl) (by kernel_rfl) T_ok Z8X Zkz ZkA Zkr k
end
end Go.Proofs.Ytgjmhbjdhihgaaa.Vs

set_option linter.unusedVariables false
set_option linter.unusedSimpArgs false
namespace Go.Proofs.Ytgjmhbjdhihgaaa.Vs
open Go.RowKit
theorem ZBz (C i : Int) (x : CellD) : 0 < (kindsAt C i x).length := by
 unfold kindsAt
 rw [List.length_map]
 refine List.length_pos_of_mem (a := 2) (List.mem_filter.2 ⟨by simp, ?_⟩)
 simp [fits]
theorem ZDB {b : BoardD} (hb : boardOK b = true) : 0 < (possFrom b.2.1 0 b.2.2).length := by
 obtain ⟨g1, g2, g3, g4, g5, g6⟩ := ZH hb
 have hpp := ZL g1 g2 g3 g4
 have hp : 0 < b.1 * b.2.1 := Int.mul_pos (by omega) (by omega)
 cases hc : b.2.2 with
 | nil => rw [hc] at g5; simp only [List.length_nil] at g5; omega
 | cons x r =>
  simp only [possFrom, List.length_append]
  have := ZBz b.2.1 0 x
  omega
theorem ZFf (a b : Int) : EvP (fun k => Z9a k a b) (fun m => a ≤ m) := by
 obtain ⟨m, e, h, _⟩ := ZF2 a b
 exact ⟨m, e, h⟩
theorem ZBA {b : BoardD} {i : Int} (h0 : 0 ≤ i) (h1 : i < ((possFrom b.2.1 0 b.2.2).length : Int)) : List.getD (possFrom b.2.1 0 b.2.2) i.toNat (0, 0, 0) ∈ possFrom b.2.1 0 b.2.2 := by
 have hi : i.toNat < (possFrom b.2.1 0 b.2.2).length := by omega
 rw [List.getD, List.getElem?_eq_getElem hi]
 exact List.getElem_mem hi
section
variable {code : List Int} {at' seed : Int}
theorem Zzs (r c : Int) (n : Nat) (hw : wrap64 (r * c) = (n : Int)) (hn : n ≤ 100) (h : Cur code at' 1010) : EvP (fun k => Z1W k (code, at', seed) r c) (fun z => at' ≤ z.2.1 ∧ z.2.1 ≤ at' + 1010 ∧ z.1.2.2.length = n) := by
 obtain ⟨l, a, s, e, h1, h2, h3⟩ := Zs9 seed r c n hw hn h
 exact ⟨_, e, h1, h2, h3⟩
theorem Zyc (code : List Int) (b30 b31 b50 b51 : Int) (o4 o6 : List CellD) (v7 : Int) (hb : 0 < b51) : ∀ (d : Nat) (o7 : List Int) (at' seed : Int), v7 ≤ ((o7.length + d : Nat) : Int) → o7.length + d ≤ 21 → (∀ c ∈ o7, 0 ≤ c ∧ c < b51) → Cur code at' (2 * d) →
    EvP (fun k => Z3n k at' seed code b30 b31 o4 b50 b51 o6 o7 v7) (fun z => ∃ a s l, z = (a, s, code, b30, b31, o4, b50, b51, o6, l) ∧ l.length ≤ 21 ∧ (∀ c ∈ l, 0 ≤ c ∧ c < b51) ∧ at' ≤ a ∧ a ≤ at' + 2 * d)
  | 0, o7, at', seed, h, hl, hx, hc => by
    refine EvP.succ ?_
    have hlt : ¬ (o7.length : Int) < v7 := by omega
    simp only [Z3n, hlt, decide_false, Bool.false_eq_true, if_false]
    exact EvP.some ⟨at', seed, o7, rfl, by omega, hx, by omega, by omega⟩
  | d + 1, o7, at', seed, h, hl, hx, hc => by
    refine EvP.succ ?_
    simp only [Z3n]
    refine EvP.ite (fun _ => ?_) (fun _ => EvP.some ⟨at', seed, o7, rfl, by omega, hx, by omega, by omega⟩)
    refine EvP.bind (Z5i b51 (hc.to (by omega) (by omega)) hb) (fun y hy => ?_)
    refine EvP.guard (by simp only [List.length_cons, List.length_nil]; omega) ?_
    refine (Zyc code b30 b31 b50 b51 o4 o6 v7 hb d (o7 ++ [y.1]) y.2.1 y.2.2 (by simp; omega) (by simp; omega) (fun c hc' => ?_) (hc.to (by omega) (by omega))).mono (fun z hz => ?_)
    · rcases List.mem_append.1 hc' with h5 | h5
      · exact hx c h5
      · rw [List.mem_singleton.1 h5]; exact hy.2.2
    · obtain ⟨a2, s2, l2, e, g1, g2, g3, g4⟩ := hz
      exact ⟨a2, s2, l2, e, g1, g2, by omega, by omega⟩
def SeenIn (at' : Int) (r : BoardD × List Int × List FallD × Int × Int) : Prop := at' ≤ r.2.2.2.1 ∧ r.2.2.2.1 ≤ at' + 4000 ∧ r.1.2.2.length ≤ 91 ∧ r.2.1.length ≤ 21 ∧ r.2.2.1.length ≤ 21
set_option maxHeartbeats 1000000 in
theorem ZBF (h : Cur code at' 4000) : EvP (fun k => Z5Y k (code, at', seed)) (SeenIn at') := by
 refine EvP.succ ?_
 simp only [Z5Y]
 refine EvP.bind (Z5i 4 (h.to (by omega) (by omega)) (by omega)) (fun z0 h0 => ?_)
 refine EvP.bind (Z5i 4 (h.to (by omega) (by omega)) (by omega)) (fun z1 h1 => ?_)
 have w0 : wrap64 (1 + z0.1) = 1 + z0.1 := w64 (by omega) (by omega)
 have w1 : wrap64 (1 + z1.1) = 1 + z1.1 := w64 (by omega) (by omega)
 have hp := Ztu (r := 1 + z0.1) (c := 1 + z1.1) (by omega) (by omega) (by omega) (by omega)
 rw [w0, w1]
 refine EvP.bind (Zzs _ _ ((1 + z0.1) * (1 + z1.1)).toNat (by rw [w64 (by omega) (by omega)]; omega) (by omega) (h.to (by omega) (by omega))) (fun z2 h2 => ?_)
 refine EvP.bind (Z5i 20 (h.to (by omega) (by omega)) (by omega)) (fun z3 h3 => ?_)
 refine EvP.bind (Q1 := fun z => ∃ a s : Int, ∃ b : BoardD, z = (a, s, code, 0, 0, [], b.1, b.2.1, b.2.2) ∧ at' ≤ a ∧ a ≤ at' + 3000 ∧ b.2.2.length ≤ 91) ?_ (fun z hz => ?_)
 ·simp only [Z91]
  refine EvP.ite (fun _ => ?_) (fun _ => EvP.ite (fun _ => ?_) (fun _ => EvP.some ⟨z3.2.1, z3.2.2, z2.1, rfl, by omega, by omega, by omega⟩))
  ·exact EvP.bind (ZD8 (h.to (by omega) (by omega))) (fun z4 h4 => EvP.some ⟨z4.2.1, z4.2.2, z4.1, rfl, by omega, by omega, h4.2.2⟩)
  ·refine EvP.bind (Z5i 2 (h.to (by omega) (by omega)) (by omega)) (fun z5 h5 => ?_)
   have w5 : wrap64 (4 + z5.1) = 4 + z5.1 := w64 (by omega) (by omega)
   rw [w5]
   exact EvP.bind (Zzs _ 6 ((4 + z5.1) * 6).toNat (by rw [w64 (by omega) (by omega)]; omega) (by omega) (h.to (by omega) (by omega))) (fun z6 h6 => EvP.some ⟨z6.2.1, z6.2.2, z6.1, rfl, by omega, by omega, by omega⟩)
 obtain ⟨a3, s3, b, rfl, q1, q2, q3⟩ := hz
 dsimp only
 refine EvP.bind (EvP.ev (Q := fun v => v = boardOK b) (ZdR b (by omega)) rfl) (fun v hv => ?_)
 subst hv
 cases hb : boardOK b with
 | false =>
  simp only [Bool.not_false, if_true]
  exact EvP.some ⟨by dsimp only; omega, by dsimp only; omega, q3, by simp, by simp⟩
 | true =>
  obtain ⟨b1, b2, b3, b4, b5, b6⟩ := ZH hb
  have hall := Z7S hb
  have hone := ZDB hb
  simp only [Bool.not_true, Bool.false_eq_true, if_false]
  refine EvP.bind (Z5i 6 (h.to (by omega) (by omega)) (by omega)) (fun z9 h9 => ?_)
  refine EvP.bind (ZD9 20 (h.to (by omega) (by omega))) (fun z10 h10 => ?_)
  have w9 : wrap64 (1 + z9.1) = 1 + z9.1 := w64 (by omega) (by omega)
  rw [w9]
  refine EvP.bind (Q1 := fun z => ∃ a s n : Int, z = (a, s, code, 0, 0, [], b.1, b.2.1, b.2.2, [], n) ∧ 0 ≤ n ∧ n ≤ 21 ∧ at' ≤ a ∧ a ≤ at' + 3010) ?_ (fun z hz => ?_)
  ·simp only [Z8W]
   refine EvP.ite (fun _ => ?_) (fun _ => EvP.some ⟨z10.2.1, z10.2.2, 1 + z9.1, rfl, by omega, by omega, by omega, by omega⟩)
   refine EvP.bind (Z5i 2 (h.to (by omega) (by omega)) (by omega)) (fun z11 h11 => ?_)
   have w11 : wrap64 (20 + z11.1) = 20 + z11.1 := w64 (by omega) (by omega)
   rw [w11]
   exact EvP.some ⟨z11.2.1, z11.2.2, _, rfl, by omega, by omega, by omega, by omega⟩
  obtain ⟨a4, s4, n, rfl, n1, n2, q4, q5⟩ := hz
  dsimp only
  refine EvP.bind (Zyc code 0 0 b.1 b.2.1 [] b.2.2 n (by omega) 21 [] a4 s4 (by simpa using n2) (by simp) (fun c hc => by cases hc) (h.to (by omega) (by omega))) (fun z hz => ?_)
  obtain ⟨a5, s5, cols, rfl, c1, hcols, q6, q7⟩ := hz
  dsimp only
  refine EvP.bind (EvP.ev (Q := fun v => v = possFrom b.2.1 0 b.2.2) (Z7L b hb) rfl) (fun all ha => ?_)
  subst ha
  refine EvP.bind (Z5i 4 (h.to (by omega) (by omega)) (by omega)) (fun z16 h16 => ?_)
  refine EvP.ite (fun _ => ?_) (fun _ => EvP.ite (fun _ => ?_) (fun _ => ?_))
  ·-- no fault
   refine EvP.bind (EvP.ev (Q := fun v => v.1.length = cols.length) (ZcB b hb [] rfl (by simp) cols (by omega) hcols) (Z6w _ _ _)) (fun v hv => ?_)
   have fin : ∀ (l2 : List Int) (s2 : List FallD) (a2 e2 : Int), l2.length = cols.length → s2.length ≤ cols.length → at' ≤ a2 → a2 ≤ at' + 4000 → SeenIn at' ((b.1, b.2.1, b.2.2), l2, s2, a2, e2) := fun l2 s2 a2 e2 h1 h2 h3 h4 => ⟨h3, h4, q3, by dsimp only; omega, by dsimp only; omega⟩
   refine EvP.ite (fun hp => ?_) (fun _ => EvP.some (fin _ _ _ _ rfl (by omega) (by omega) (by omega)))
   simp only [decide_eq_true_eq] at hp
   refine EvP.bind (Z5i _ (h.to (by omega) (by omega)) (by omega)) (fun w hw => ?_)
   refine EvP.guard (by omega) (EvP.guard (by omega) ?_)
   refine EvP.bind (Z5i 30 (h.to (by omega) (by omega)) (by omega)) (fun u hu => ?_)
   refine EvP.ite (fun _ => ?_) (fun _ => EvP.ite (fun _ => ?_) (fun _ => EvP.ite (fun _ => ?_) (fun _ => EvP.ite (fun _ => ?_) (fun _ => EvP.ite (fun _ => ?_) (fun _ => EvP.some (fin _ _ _ _ rfl (by omega) (by omega) (by omega)))))))
   ·exact EvP.bind (Z5n _ (by simp) (h.to (by omega) (by omega))) (fun y hy => EvP.some (fin _ _ _ _ rfl (by rw [List.length_set]; omega) (by omega) (by omega)))
   ·exact EvP.bind (Z5n _ (by simp) (h.to (by omega) (by omega))) (fun y hy => EvP.some (fin _ _ _ _ rfl (by rw [List.length_set]; omega) (by omega) (by omega)))
   ·exact EvP.bind (Z5n _ (by simp) (h.to (by omega) (by omega))) (fun y hy => EvP.some (fin _ _ _ _ rfl (by rw [List.length_set]; omega) (by omega) (by omega)))
   ·exact EvP.guard (by omega) (EvP.guard (by omega) (EvP.some (fin _ _ _ _ rfl (by rw [List.length_drop]; omega) (by omega) (by omega))))
   ·exact EvP.bind (Z5n _ (by simp) (h.to (by omega) (by omega))) (fun y hy => EvP.guard (by omega) (EvP.some (fin _ _ _ _ (List.length_set) (by omega) (by omega) (by omega))))
  ·-- two faults, or the first of them
   refine EvP.bind (Q1 := fun z => ∃ a s : Int, ∃ f g : FaultD, z = (a, s, code, 0, 0, [], b.1, b.2.1, b.2.2, cols, f.1, f.2.1, f.2.2, g.1, g.2.1, g.2.2) ∧ f ∈ possFrom b.2.1 0 b.2.2 ∧ at' ≤ a ∧ a ≤ at' + 3080) ?_ (fun z hz => ?_)
   ·simp only [Z8Z]
    refine EvP.bind (Z5i _ (h.to (by omega) (by omega)) (by omega)) (fun w hw => ?_)
    refine EvP.guard (by omega) (EvP.guard (by omega) ?_)
    refine EvP.bind (Z5i _ (h.to (by omega) (by omega)) (by omega)) (fun u hu => ?_)
    exact EvP.guard (by omega) (EvP.guard (by omega) (EvP.some ⟨u.2.1, u.2.2, _, _, rfl, ZBA (by omega) (by omega), by omega, by omega⟩))
   ·obtain ⟨a6, s6, f, g, rfl, hf, q8, q9⟩ := hz
    dsimp only
    refine EvP.bind (EvP.ev (Q := fun v => v = faultsB b [f, g]) (ZpZ b hb [f, g] (by simp)) rfl) (fun v hv => ?_)
    subst hv
    cases hg : faultsB b [f, g] with
    | false =>
     simp only [Bool.not_false, if_true]
     refine EvP.bind (EvP.ev (Q := fun v => v.1.length = cols.length) (ZcB b hb [f] (Zjd hb hf) (by simp) cols (by omega) hcols) (Z6w _ _ _)) (fun v hv => ?_)
     have fin : ∀ (l2 : List Int) (s2 : List FallD) (a2 e2 : Int), l2.length = cols.length → s2.length ≤ cols.length → at' ≤ a2 → a2 ≤ at' + 4000 → SeenIn at' ((b.1, b.2.1, b.2.2), l2, s2, a2, e2) := fun l2 s2 a2 e2 h1 h2 h3 h4 => ⟨h3, h4, q3, by dsimp only; omega, by dsimp only; omega⟩
     refine EvP.ite (fun hp => ?_) (fun _ => EvP.some (fin _ _ _ _ rfl (by omega) (by omega) (by omega)))
     simp only [decide_eq_true_eq] at hp
     refine EvP.bind (Z5i _ (h.to (by omega) (by omega)) (by omega)) (fun w hw => ?_)
     refine EvP.guard (by omega) (EvP.guard (by omega) ?_)
     refine EvP.bind (Z5i 30 (h.to (by omega) (by omega)) (by omega)) (fun u hu => ?_)
     refine EvP.ite (fun _ => ?_) (fun _ => EvP.ite (fun _ => ?_) (fun _ => EvP.ite (fun _ => ?_) (fun _ => EvP.ite (fun _ => ?_) (fun _ => EvP.ite (fun _ => ?_) (fun _ => EvP.some (fin _ _ _ _ rfl (by omega) (by omega) (by omega)))))))
     ·exact EvP.bind (Z5n _ (by simp) (h.to (by omega) (by omega))) (fun y hy => EvP.some (fin _ _ _ _ rfl (by rw [List.length_set]; omega) (by omega) (by omega)))
     ·exact EvP.bind (Z5n _ (by simp) (h.to (by omega) (by omega))) (fun y hy => EvP.some (fin _ _ _ _ rfl (by rw [List.length_set]; omega) (by omega) (by omega)))
     ·exact EvP.bind (Z5n _ (by simp) (h.to (by omega) (by omega))) (fun y hy => EvP.some (fin _ _ _ _ rfl (by rw [List.length_set]; omega) (by omega) (by omega)))
     ·exact EvP.guard (by omega) (EvP.guard (by omega) (EvP.some (fin _ _ _ _ rfl (by rw [List.length_drop]; omega) (by omega) (by omega))))
     ·exact EvP.bind (Z5n _ (by simp) (h.to (by omega) (by omega))) (fun y hy => EvP.guard (by omega) (EvP.some (fin _ _ _ _ (List.length_set) (by omega) (by omega) (by omega))))
    | true =>
     simp only [Bool.not_true, Bool.false_eq_true, if_false]
     refine EvP.bind (EvP.ev (Q := fun v => v.1.length = cols.length) (ZcB b hb [f, g] (Zp9 hg).2 (by simp) cols (by omega) hcols) (Z6w _ _ _)) (fun v hv => ?_)
     have fin : ∀ (l2 : List Int) (s2 : List FallD) (a2 e2 : Int), l2.length = cols.length → s2.length ≤ cols.length → at' ≤ a2 → a2 ≤ at' + 4000 → SeenIn at' ((b.1, b.2.1, b.2.2), l2, s2, a2, e2) := fun l2 s2 a2 e2 h1 h2 h3 h4 => ⟨h3, h4, q3, by dsimp only; omega, by dsimp only; omega⟩
     refine EvP.ite (fun hp => ?_) (fun _ => EvP.some (fin _ _ _ _ rfl (by omega) (by omega) (by omega)))
     simp only [decide_eq_true_eq] at hp
     refine EvP.bind (Z5i _ (h.to (by omega) (by omega)) (by omega)) (fun w hw => ?_)
     refine EvP.guard (by omega) (EvP.guard (by omega) ?_)
     refine EvP.bind (Z5i 30 (h.to (by omega) (by omega)) (by omega)) (fun u hu => ?_)
     refine EvP.ite (fun _ => ?_) (fun _ => EvP.ite (fun _ => ?_) (fun _ => EvP.ite (fun _ => ?_) (fun _ => EvP.ite (fun _ => ?_) (fun _ => EvP.ite (fun _ => ?_) (fun _ => EvP.some (fin _ _ _ _ rfl (by omega) (by omega) (by omega)))))))
     ·exact EvP.bind (Z5n _ (by simp) (h.to (by omega) (by omega))) (fun y hy => EvP.some (fin _ _ _ _ rfl (by rw [List.length_set]; omega) (by omega) (by omega)))
     ·exact EvP.bind (Z5n _ (by simp) (h.to (by omega) (by omega))) (fun y hy => EvP.some (fin _ _ _ _ rfl (by rw [List.length_set]; omega) (by omega) (by omega)))
     ·exact EvP.bind (Z5n _ (by simp) (h.to (by omega) (by omega))) (fun y hy => EvP.some (fin _ _ _ _ rfl (by rw [List.length_set]; omega) (by omega) (by omega)))
     ·exact EvP.guard (by omega) (EvP.guard (by omega) (EvP.some (fin _ _ _ _ rfl (by rw [List.length_drop]; omega) (by omega) (by omega))))
     ·exact EvP.bind (Z5n _ (by simp) (h.to (by omega) (by omega))) (fun y hy => EvP.guard (by omega) (EvP.some (fin _ _ _ _ (List.length_set) (by omega) (by omega) (by omega))))
  ·refine EvP.bind (Z5i _ (h.to (by omega) (by omega)) (by omega)) (fun z50 h50 => ?_)
   refine EvP.guard (by omega) (EvP.guard (by omega) ?_)
   refine EvP.bind (EvP.ev (Q := fun v => v.1.length = cols.length) (ZcB b hb [List.getD (possFrom b.2.1 0 b.2.2) z50.1.toNat (0, 0, 0)] (Zjd hb (ZBA (by omega) (by omega))) (by simp) cols (by omega) hcols) (Z6w _ _ _)) (fun v hv => ?_)
   have fin : ∀ (l2 : List Int) (s2 : List FallD) (a2 e2 : Int), l2.length = cols.length → s2.length ≤ cols.length → at' ≤ a2 → a2 ≤ at' + 4000 → SeenIn at' ((b.1, b.2.1, b.2.2), l2, s2, a2, e2) := fun l2 s2 a2 e2 h1 h2 h3 h4 => ⟨h3, h4, q3, by dsimp only; omega, by dsimp only; omega⟩
   refine EvP.ite (fun hp => ?_) (fun _ => EvP.some (fin _ _ _ _ rfl (by omega) (by omega) (by omega)))
   simp only [decide_eq_true_eq] at hp
   refine EvP.bind (Z5i _ (h.to (by omega) (by omega)) (by omega)) (fun w hw => ?_)
   refine EvP.guard (by omega) (EvP.guard (by omega) ?_)
   refine EvP.bind (Z5i 30 (h.to (by omega) (by omega)) (by omega)) (fun u hu => ?_)
   refine EvP.ite (fun _ => ?_) (fun _ => EvP.ite (fun _ => ?_) (fun _ => EvP.ite (fun _ => ?_) (fun _ => EvP.ite (fun _ => ?_) (fun _ => EvP.ite (fun _ => ?_) (fun _ => EvP.some (fin _ _ _ _ rfl (by omega) (by omega) (by omega)))))))
   ·exact EvP.bind (Z5n _ (by simp) (h.to (by omega) (by omega))) (fun y hy => EvP.some (fin _ _ _ _ rfl (by rw [List.length_set]; omega) (by omega) (by omega)))
   ·exact EvP.bind (Z5n _ (by simp) (h.to (by omega) (by omega))) (fun y hy => EvP.some (fin _ _ _ _ rfl (by rw [List.length_set]; omega) (by omega) (by omega)))
   ·exact EvP.bind (Z5n _ (by simp) (h.to (by omega) (by omega))) (fun y hy => EvP.some (fin _ _ _ _ rfl (by rw [List.length_set]; omega) (by omega) (by omega)))
   ·exact EvP.guard (by omega) (EvP.guard (by omega) (EvP.some (fin _ _ _ _ rfl (by rw [List.length_drop]; omega) (by omega) (by omega))))
   ·exact EvP.bind (Z5n _ (by simp) (h.to (by omega) (by omega))) (fun y hy => EvP.guard (by omega) (EvP.some (fin _ _ _ _ (List.length_set) (by omega) (by omega) (by omega))))
end
theorem ZuE (code : List Int) (h : Cur code 0 6000) : EvP (fun k => Z6G k code) (fun r => r.1.2.2.length ≤ 91 ∧ r.2.1.length ≤ 21 ∧ r.2.2.length ≤ 21) := by
 refine EvP.succ ?_
 simp only [Z6G]
 exact EvP.bind (ZBF (h.to (by omega) (by omega))) (fun z hz => EvP.some ⟨hz.2.2.1, hz.2.2.2.1, hz.2.2.2.2⟩)
theorem Zsc (code : List Int) (h : Cur code 0 6000) : EvP (fun k => Z5L k code) (fun r => r.1.2.2.length ≤ 91 ∧ r.2.1.length ≤ 21 ∧ r.2.2.length ≤ 21) := by
 refine EvP.succ ?_
 simp only [Z5L]
 exact EvP.bind (ZuE code h) (fun z hz => EvP.some hz)
theorem Zba (code : List Int) (x0 x1 b0 b1 : Int) (o2 o5 : List CellD) (o6 : List Int) (o7 : List FallD) (o8 : List FaultD) (hl : o8.length ≤ 1000) : ∀ (d i : Nat) (o9 : List FaultD) (at' seed : Int), i + d = o8.length → o9.length ≤ i → Cur code at' (2 * d) →
    EvP (fun k => ZR k x0 x1 o2 code at' seed b0 b1 o5 o6 o7 o8 o9 (o8.length : Int) (i : Int)) (fun z => ∃ l, z = (x0, x1, o2, b0, b1, o5, o6, o7, l) ∧ l.length ≤ 1000)
  | 0, i, o9, at', seed, h, h9, hc => by
    refine EvP.succ ?_
    have hlt : ¬ (i : Int) < (o8.length : Int) := by omega
    simp only [ZR, hlt, decide_false, Bool.false_eq_true, if_false]
    exact EvP.some ⟨o9, rfl, by omega⟩
  | d + 1, i, o9, at', seed, h, h9, hc => by
    refine EvP.succ ?_
    have hlt : (i : Int) < (o8.length : Int) := by omega
    have h0 : (0 : Int) ≤ (i : Int) := by omega
    have w : wrap64 ((i : Int) + 1) = ((i + 1 : Nat) : Int) := by rw [w64 (by omega) (by omega)]; omega
    simp only [ZR, hlt, h0, decide_true, if_true, w]
    refine EvP.bind (ZFf 2 _) (fun m hm => ?_)
    refine EvP.bind (ZD9 m (hc.to (by omega) (by omega))) (fun y hy => ?_)
    refine EvP.ite (fun _ => ?_) (fun _ => Zba code x0 x1 b0 b1 o2 o5 o6 o7 o8 hl d (i + 1) o9 y.2.1 y.2.2 (by omega) (by omega) (hc.to (by omega) (by omega)))
    refine EvP.guard (by simp only [List.length_cons, List.length_nil]; omega) ?_
    exact Zba code x0 x1 b0 b1 o2 o5 o6 o7 o8 hl d (i + 1) _ y.2.1 y.2.2 (by omega) (by simp; omega) (hc.to (by omega) (by omega))
theorem Zt0 (code : List Int) (h : Cur code 0 6000) : EvP (fun k => Z5M k code) (fun r => r.1.2.2.length ≤ 91 ∧ r.2.1.length ≤ 1000 ∧ r.2.2.1.length ≤ 21 ∧ r.2.2.2.length ≤ 21) := by
 refine EvP.succ ?_
 simp only [Z5M]
 refine EvP.bind (ZBF (h.to (by omega) (by omega))) (fun z0 h0 => ?_)
 obtain ⟨q1, q2, q3, q4, q5⟩ := h0
 refine EvP.bind (EvP.ev (Q := fun v => v = boardOK z0.1) (ZdR z0.1 (by omega)) rfl) (fun v hv => ?_)
 subst hv
 cases hb : boardOK z0.1 with
 | false => simp only [Bool.not_false, if_true]; exact EvP.some ⟨q3, by simp, q4, q5⟩
 | true =>
  have hall := Z7S hb
  simp only [Bool.not_true, Bool.false_eq_true, if_false]
  refine EvP.bind (EvP.ev (Q := fun v => v = possFrom z0.1.2.1 0 z0.1.2.2) (Z7L z0.1 hb) rfl) (fun all ha => ?_)
  subst ha
  refine EvP.bind (EvP.ev (Q := fun v => v = seenOK z0.1 z0.2.1 z0.2.2.1) (Z9b z0.1 z0.2.1 z0.2.2.1 (by omega) (by omega) (by omega)) rfl) (fun v hv => ?_)
  subst hv
  have last : ∀ (a s : Int), 0 ≤ a → a ≤ 4010 → EvP (fun k => Option.bind (ZR k 0 0 [] code a s z0.1.1 z0.1.2.1 z0.1.2.2 z0.2.1 z0.2.2.1 (possFrom z0.1.2.1 0 z0.1.2.2) [] ((possFrom z0.1.2.1 0 z0.1.2.2).length : Int) 0) fun z10 => some ((z10.2.2.2.1, z10.2.2.2.2.1, z10.2.2.2.2.2.1), z10.2.2.2.2.2.2.2.2, z10.2.2.2.2.2.2.1, z10.2.2.2.2.2.2.2.1)) (fun r : BoardD × List FaultD × List Int × List FallD => r.1.2.2.length ≤ 91 ∧ r.2.1.length ≤ 1000 ∧ r.2.2.1.length ≤ 21 ∧ r.2.2.2.length ≤ 21) := by
   intro a s ha hs
   refine EvP.bind (Zba code 0 0 z0.1.1 z0.1.2.1 [] z0.1.2.2 z0.2.1 z0.2.2.1 (possFrom z0.1.2.1 0 z0.1.2.2) (by omega) (possFrom z0.1.2.1 0 z0.1.2.2).length 0 [] a s (by omega) (by simp) (h.to (by omega) (by omega))) (fun z hz => ?_)
   obtain ⟨l, rfl, hl⟩ := hz
   exact EvP.some ⟨q3, hl, q4, q5⟩
  cases hs : seenOK z0.1 z0.2.1 z0.2.2.1 with
  | false =>
   simp only [Bool.false_eq_true, if_false]
   exact last _ _ (by omega) (by omega)
  | true =>
   obtain ⟨_, _, hs2, hs3, hs4⟩ := Z4U hs
   simp only [if_true]
   refine EvP.bind (ZD9 2 (h.to (by omega) (by omega))) (fun z4 h4 => ?_)
   refine EvP.bind (Q1 := fun z => z = LR.go (0, 0, [], code, z4.2.1, z4.2.2, z0.1.1, z0.1.2.1, z0.1.2.2, z0.2.1, z0.2.2.1, possFrom z0.1.2.1 0 z0.1.2.2, []) ∨ ∃ l : List FaultD, z = LR.ret ((z0.1.1, z0.1.2.1, z0.1.2.2), l, z0.2.1, z0.2.2.1) ∧ l.length ≤ 1000) ?_ (fun z hz => ?_)
   ·simp only [Z6V]
    refine EvP.ite (fun _ => ?_) (fun _ => EvP.some (.inl rfl))
    refine EvP.bind (EvP.ev (Q := fun v => v = singlesOf z0.1 z0.2.1 z0.2.2.1) (ZfD z0.1 hb z0.2.1 (by omega) hs3 z0.2.2.1 hs4) rfl) (fun l hl => ?_)
    refine EvP.ite (fun hp => ?_) (fun _ => EvP.some (.inl rfl))
    simp only [decide_eq_true_eq] at hp
    refine EvP.guard (by omega) (EvP.some (.inr ⟨_, rfl, ?_⟩))
    rw [List.length_take]
    simp
    omega
   ·rcases hz with rfl | ⟨l, rfl, hl⟩
    ·exact last z4.2.1 z4.2.2 (by omega) (by omega)
    ·exact EvP.some ⟨q3, hl, q4, q5⟩
end Go.Proofs.Ytgjmhbjdhihgaaa.Vs

set_option linter.unusedVariables false
set_option linter.unusedSimpArgs false
namespace Go.Proofs.Ytgjmhbjdhihgaaa.Vs
open Go.RowKit
def Z2T (b : BoardD) (t : List Int) (s : List FallD) : List FaultD × Bool := if seenOK b t s then (singlesOf b t s, true) else ([], false)
theorem ZqF (b : BoardD) (t : List Int) (s : List FallD) (h0 : b.2.2.length ≤ 9223372036854775806) (h2 : t.length ≤ 9223372036854775806) (h3 : s.length ≤ 9223372036854775806) : Ev (fun k => Z8M k b t s) (Z2T b t s) := by
 refine Ev.succ ?_
 simp only [Z8M]
 unfold Z2T
 refine Ev.bind (a := seenOK b t s) (Z9b b t s h0 h2 h3) ?_
 cases g0 : seenOK b t s with
 | false => simp only [Bool.not_false, if_true, Bool.false_eq_true, if_false, Bool.false_and, Bool.and_false]; exact Ev.some _
 | true =>
  simp only [Bool.not_true, Bool.false_eq_true, if_false, if_true, Bool.and_self]
  obtain ⟨hb, h24, ht, hc, hs⟩ := Z4U g0
  exact Ev.bind (ZfD b hb t (by omega) hc s hs) (Ev.some _)
theorem ZqE (b : BoardD) (t : List Int) (s : List FallD) (h0 : b.2.2.length ≤ 9223372036854775806) (h2 : t.length ≤ 9223372036854775806) (h3 : s.length ≤ 9223372036854775806) : Ev (fun k => Z8U k b t s) (Z2T b t s) := by
 refine Ev.succ ?_
 simp only [Z8U]
 unfold Z2T
 refine Ev.bind (a := seenOK b t s) (Zbz b t s h0 h2 h3) ?_
 cases g0 : seenOK b t s with
 | false => simp only [Bool.not_false, if_true, Bool.false_eq_true, if_false, Bool.false_and, Bool.and_false]; exact Ev.some _
 | true =>
  simp only [Bool.not_true, Bool.false_eq_true, if_false, if_true, Bool.and_self]
  obtain ⟨hb, h24, ht, hc, hs⟩ := Z4U g0
  exact Ev.bind (Zgi b hb t (by omega) hc s hs) (Ev.some _)
theorem Zvk {b : BoardD} (hb : boardOK b = true) (t : List Int) (s : List FallD) : (singlesOf b t s).length ≤ 270 :=
 Nat.le_trans (List.length_filter_le _ _) (Z7S hb)
end Go.Proofs.Ytgjmhbjdhihgaaa.Vs

set_option linter.unusedVariables false
set_option linter.unusedSimpArgs false
namespace Go.Proofs.Ytgjmhbjdhihgaaa.Vs
open Go.RowKit
def Z3I (b : BoardD) (t : List Int) (s : List FallD) : Int × Bool := if seenOK b t s then (if endsOf b [] t = s then (0, true) else if ((singlesOf b t s).length : Int) > 0 then (1, true) else if ((pairsOf b t s).length : Int) > 0 then (2, true) else (0, false)) else (0, false)
theorem Ztd (b : BoardD) (t : List Int) (s : List FallD) (h0 : b.2.2.length ≤ 9223372036854775806) (h2 : t.length ≤ 9223372036854775806) (h3 : s.length ≤ 9223372036854775806) : Ev (fun k => Z9H k b t s) (Z3I b t s) := by
 refine Ev.succ ?_
 simp only [Z9H]
 unfold Z3I
 refine Ev.bind (a := seenOK b t s) (Z9b b t s h0 h2 h3) ?_
 cases g0 : seenOK b t s with
 | false => simp only [Bool.not_false, if_true, Bool.false_eq_true, if_false, Bool.false_and, Bool.and_false]; exact Ev.some _
 | true =>
  simp only [Bool.not_true, Bool.false_eq_true, if_false, if_true, Bool.and_self]
  obtain ⟨hb, h24, ht, hc, hs⟩ := Z4U g0
  refine Ev.bind (Z7D b hb [] rfl (by simp) t (by omega) hc s hs) (Ev.ite (fun h => ?_) (fun h => ?_))
  ·rw [if_pos (of_decide_eq_true h)]; exact Ev.some _
  rw [if_neg (fun hh => h (decide_eq_true hh))]
  refine Ev.bind (ZfD b hb t (by omega) hc s hs) (Ev.ite (fun h1 => ?_) (fun h1 => ?_))
  ·simp only [decide_eq_true_eq] at h1; rw [if_pos h1]; exact Ev.some _
  simp only [decide_eq_true_eq] at h1
  rw [if_neg h1]
  refine Ev.bind (ZmQ b hb t (by omega) hc s hs) (Ev.ite (fun h2 => ?_) (fun h2 => ?_))
  ·simp only [decide_eq_true_eq] at h2; rw [if_pos h2]; exact Ev.some _
  simp only [decide_eq_true_eq] at h2
  rw [if_neg h2]
  exact Ev.some _
theorem ZsE (b : BoardD) (t : List Int) (s : List FallD) (h0 : b.2.2.length ≤ 9223372036854775806) (h2 : t.length ≤ 9223372036854775806) (h3 : s.length ≤ 9223372036854775806) : Ev (fun k => Z9n k b t s) (Z3I b t s) := by
 refine Ev.succ ?_
 simp only [Z9n]
 unfold Z3I
 refine Ev.bind (a := seenOK b t s) (Zbz b t s h0 h2 h3) ?_
 cases g0 : seenOK b t s with
 | false => simp only [Bool.not_false, if_true, Bool.false_eq_true, if_false, Bool.false_and, Bool.and_false]; exact Ev.some _
 | true =>
  simp only [Bool.not_true, Bool.false_eq_true, if_false, if_true, Bool.and_self]
  obtain ⟨hb, h24, ht, hc, hs⟩ := Z4U g0
  refine Ev.bind (Z5S b hb [] rfl (by simp) t (by omega) hc s) (Ev.ite (fun h => ?_) (fun h => ?_))
  ·rw [if_pos (of_decide_eq_true h)]; exact Ev.some _
  rw [if_neg (fun hh => h (decide_eq_true hh))]
  refine Ev.bind (Zgi b hb t (by omega) hc s hs) (Ev.ite (fun h1 => ?_) (fun h1 => ?_))
  ·simp only [decide_eq_true_eq] at h1; rw [if_pos h1]; exact Ev.some _
  simp only [decide_eq_true_eq] at h1
  rw [if_neg h1]
  refine Ev.bind (Zi3 b hb t (by omega) hc s hs) (Ev.ite (fun h2 => ?_) (fun h2 => ?_))
  ·simp only [decide_eq_true_eq] at h2; rw [if_pos h2]; exact Ev.some _
  simp only [decide_eq_true_eq] at h2
  rw [if_neg h2]
  exact Ev.some _
end Go.Proofs.Ytgjmhbjdhihgaaa.Vs

set_option linter.unusedVariables false
set_option linter.unusedSimpArgs false
namespace Go.Proofs.Ytgjmhbjdhihgaaa.Vs
open Go.RowKit
end Go.Proofs.Ytgjmhbjdhihgaaa.Vs

set_option linter.unusedVariables false
set_option linter.unusedSimpArgs false
namespace Go.Proofs.Ytgjmhbjdhihgaaa.Vs
open Go.RowKit
def szRows {α : Type} : List (List α) → Int
 | [] => 0
 | x :: r => (x.length : Int) + szRows r
theorem ZpL {α : Type} : ∀ (l : List (List α)), 0 ≤ szRows l
 | [] => Int.le_refl _
 | x :: r => by have := ZpL r; simp only [szRows]; omega
end Go.Proofs.Ytgjmhbjdhihgaaa.Vs

set_option linter.unusedVariables false
set_option linter.unusedSimpArgs false
namespace Go.Proofs.Ytgjmhbjdhihgaaa.Vs
open Go.RowKit
end Go.Proofs.Ytgjmhbjdhihgaaa.Vs

set_option linter.unusedVariables false
set_option linter.unusedSimpArgs false
namespace Go.Proofs.Ytgjmhbjdhihgaaa.Vs
open Go.RowKit
def Z1Z (b : BoardD) (t : List Int) (s : List FallD) : List (List Int) × Bool := if seenOK b t s then (pairsOf b t s, true) else ([], false)
theorem ZtT (b : BoardD) (t : List Int) (s : List FallD) (h0 : b.2.2.length ≤ 9223372036854775806) (h2 : t.length ≤ 9223372036854775806) (h3 : s.length ≤ 9223372036854775806) : Ev (fun k => Za2 k b t s) (Z1Z b t s) := by
 refine Ev.succ ?_
 simp only [Za2]
 unfold Z1Z
 refine Ev.bind (a := seenOK b t s) (Z9b b t s h0 h2 h3) ?_
 cases g0 : seenOK b t s with
 | false => simp only [Bool.not_false, if_true, Bool.false_eq_true, if_false, Bool.false_and, Bool.and_false]; exact Ev.some _
 | true =>
  simp only [Bool.not_true, Bool.false_eq_true, if_false, if_true, Bool.and_self]
  obtain ⟨hb, h24, ht, hc, hs⟩ := Z4U g0
  exact Ev.bind (ZmQ b hb t (by omega) hc s hs) (Ev.some _)
theorem ZuN (b : BoardD) (t : List Int) (s : List FallD) (h0 : b.2.2.length ≤ 9223372036854775806) (h2 : t.length ≤ 9223372036854775806) (h3 : s.length ≤ 9223372036854775806) : Ev (fun k => Z9Z k b t s) (Z1Z b t s) := by
 refine Ev.succ ?_
 simp only [Z9Z]
 unfold Z1Z
 refine Ev.bind (a := seenOK b t s) (Zbz b t s h0 h2 h3) ?_
 cases g0 : seenOK b t s with
 | false => simp only [Bool.not_false, if_true, Bool.false_eq_true, if_false, Bool.false_and, Bool.and_false]; exact Ev.some _
 | true =>
  simp only [Bool.not_true, Bool.false_eq_true, if_false, if_true, Bool.and_self]
  obtain ⟨hb, h24, ht, hc, hs⟩ := Z4U g0
  exact Ev.bind (Zi3 b hb t (by omega) hc s hs) (Ev.some _)
theorem ZjR (b : BoardD) (t : List Int) (s : List FallD) (f : FaultD) (i : Nat) : ∀ (r : List FaultD) (j : Nat), ∀ x ∈ pairsRow b t s f i j r, x.length = 2
 | [], _, x, hx => by simp [pairsRow] at hx
 | g :: r, j, x, hx => by
  simp only [pairsRow] at hx
  split at hx
  ·rcases List.mem_cons.1 hx with rfl | hx
   ·rfl
   ·exact ZjR b t s f i r (j + 1) x hx
  ·exact ZjR b t s f i r (j + 1) x hx
theorem Zsd (b : BoardD) (t : List Int) (s : List FallD) : ∀ (r : List FaultD) (i : Nat), ∀ x ∈ pairsAll b t s i r, x.length = 2
 | [], _, x, hx => by simp [pairsAll] at hx
 | f :: r, i, x, hx => by
  simp only [pairsAll, List.mem_append] at hx
  rcases hx with hx | hx
  ·exact ZjR b t s f i r (i + 1) x hx
  ·exact Zsd b t s r (i + 1) x hx
theorem Zs4 (b : BoardD) (t : List Int) (s : List FallD) : ∀ (r : List FaultD) (i : Nat), (pairsAll b t s i r).length ≤ r.length * r.length
 | [], _ => by simp [pairsAll]
 | f :: r, i => by
  have h1 := Zfw b t s f i r (i + 1)
  have h2 := Zs4 b t s r (i + 1)
  simp only [pairsAll, List.length_append, List.length_cons, Nat.succ_mul, Nat.mul_succ]
  omega
theorem ZDn {l : List (List Int)} (h : ∀ x ∈ l, x.length = 2) : szRows l = 2 * (l.length : Int) := by
 induction l with
 | nil => rfl
 | cons x r ih =>
  have h1 := h x (List.mem_cons_self ..)
  have h2 := ih (fun y hy => h y (List.mem_cons_of_mem _ hy))
  simp only [szRows, List.length_cons, h1, h2]
  omega
theorem Zjn (b : BoardD) (t : List Int) (s : List FallD) : (Z1Z b t s).1.length ≤ 72900 ∧ szRows (Z1Z b t s).1 = 2 * ((Z1Z b t s).1.length : Int) ∧ ∀ x ∈ (Z1Z b t s).1, x.length ≤ 9223372036854775806 := by
 unfold Z1Z
 split
 ·rename_i h
  have h1 := Zs4 b t s (possFrom b.2.1 0 b.2.2) 0
  have h2 := Z7S (Z4U h).1
  have h3 : (possFrom b.2.1 0 b.2.2).length * (possFrom b.2.1 0 b.2.2).length ≤ 270 * 270 := Nat.mul_le_mul h2 h2
  have h4 := Zsd b t s (possFrom b.2.1 0 b.2.2) 0
  exact ⟨by show (pairsAll b t s 0 (possFrom b.2.1 0 b.2.2)).length ≤ 72900; omega, ZDn h4, fun x hx => by have := h4 x hx; omega⟩
 ·exact ⟨by simp, rfl, fun x hx => by simp at hx⟩
end Go.Proofs.Ytgjmhbjdhihgaaa.Vs

set_option linter.unusedVariables false
set_option linter.unusedSimpArgs false
namespace Go.Proofs.Ytgjmhbjdhihgaaa.Vs
open Go.RowKit
theorem Zi0 : ∀ (r s pre q : List Int), r.length = s.length → pre.length = q.length → (pre ++ r).length ≤ 1000000 → Ev (fun k => Z5y k (pre ++ r) (q ++ s) ((pre ++ r).length : Int) (pre.length : Int)) (if r = s then LR.go () else LR.ret false)
 | [], s, pre, q, h, hq, hl => by
  obtain rfl : s = [] := List.eq_nil_of_length_eq_zero h.symm
  refine Ev.succ ?_
  simp only [Z5y, Zz, decide_false, Bool.false_eq_true, if_false, if_true]
  exact Ev.some _
 | x :: r, [], pre, q, h, hq, hl => by simp at h
 | x :: r, y :: s, pre, q, h, hq, hl => by
  have ih := Zi0 r s (pre ++ [x]) (q ++ [y]) (by simpa using h) (by simpa using hq) (by simpa using hl)
  have l2 : (pre.length : Int) < ((q ++ y :: s).length : Int) := by rw [hq]; exact Zs _ _ _
  have g2 : List.getD (q ++ y :: s) pre.length 0 = y := by rw [hq]; exact Zo _ _ _ _
  refine Ev.succ ?_
  simp only [Z5y, Zs, ZN, l2, decide_true, if_true, Int.toNat_natCast, Zo, g2]
  rw [Zq pre x r (by omega)]
  rw [← Zh, ← Zh] at ih
  refine Ev.ite (fun hh => ?_) (fun hh => ?_)
  ·simp only [decide_eq_true_eq] at hh
   rw [if_neg (fun he => hh (List.cons.inj he).1)]
   exact Ev.some _
  ·simp only [decide_eq_true_eq, Decidable.not_not] at hh
   refine ih.congr ?_
   simp [hh]
theorem Zl9 (a c : List Int) (ha : a.length ≤ 1000000) : Ev (fun k => Z9B k a c) (decide (a = c)) := by
 refine Ev.succ ?_
 simp only [Z9B]
 refine Ev.ite (fun h => ?_) (fun h => ?_)
 ·simp only [decide_eq_true_eq] at h
  rw [decide_eq_false (fun he => h (by rw [he]))]
  exact Ev.some _
 ·simp only [decide_eq_true_eq, Decidable.not_not] at h
  refine Ev.bind (Zi0 a c [] [] (by omega) rfl (by simpa using ha)) ?_
  by_cases he : a = c
  ·rw [if_pos he, decide_eq_true he]; exact Ev.go (Ev.some _)
  ·rw [if_neg he, decide_eq_false he]; exact Ev.ret (Ev.some _)
theorem ZeR : ∀ (r s pre q : List FaultD), r.length = s.length → pre.length = q.length → (pre ++ r).length ≤ 1000000 → Ev (fun k => Z3L k (pre ++ r) (q ++ s) ((pre ++ r).length : Int) (pre.length : Int)) (if r = s then LR.go () else LR.ret false)
 | [], s, pre, q, h, hq, hl => by
  obtain rfl : s = [] := List.eq_nil_of_length_eq_zero h.symm
  refine Ev.succ ?_
  simp only [Z3L, Zz, decide_false, Bool.false_eq_true, if_false, if_true]
  exact Ev.some _
 | x :: r, [], pre, q, h, hq, hl => by simp at h
 | x :: r, y :: s, pre, q, h, hq, hl => by
  have ih := ZeR r s (pre ++ [x]) (q ++ [y]) (by simpa using h) (by simpa using hq) (by simpa using hl)
  have l2 : (pre.length : Int) < ((q ++ y :: s).length : Int) := by rw [hq]; exact Zs _ _ _
  have g2 : List.getD (q ++ y :: s) pre.length (0, 0, 0) = y := by rw [hq]; exact Zo _ _ _ _
  refine Ev.succ ?_
  simp only [Z3L, Zs, ZN, l2, decide_true, if_true, Int.toNat_natCast, Zo, g2]
  rw [Zq pre x r (by omega)]
  rw [← Zh, ← Zh] at ih
  have e : (decide (x.1 = y.1) && (decide (x.2.1 = y.2.1) && (decide (x.2.2 = y.2.2) && true))) = decide (x = y) := by
   rw [Bool.eq_iff_iff]
   simp [Prod.ext_iff]
  rw [e]
  by_cases hh : x = y
  ·simp only [hh, decide_true, Bool.not_true, Bool.false_eq_true, if_false]
   rw [hh] at ih
   refine ih.congr ?_
   simp
  ·simp only [hh, decide_false, Bool.not_false, if_true]
   rw [if_neg (fun he => hh (List.cons.inj he).1)]
   exact Ev.some _
theorem Zhi (a c : List FaultD) (ha : a.length ≤ 1000000) : Ev (fun k => Z6I k a c) (decide (a = c)) := by
 refine Ev.succ ?_
 simp only [Z6I]
 refine Ev.ite (fun h => ?_) (fun h => ?_)
 ·simp only [decide_eq_true_eq] at h
  rw [decide_eq_false (fun he => h (by rw [he]))]
  exact Ev.some _
 ·simp only [decide_eq_true_eq, Decidable.not_not] at h
  refine Ev.bind (ZeR a c [] [] (by omega) rfl (by simpa using ha)) ?_
  by_cases he : a = c
  ·rw [if_pos he, decide_eq_true he]; exact Ev.go (Ev.some _)
  ·rw [if_neg he, decide_eq_false he]; exact Ev.ret (Ev.some _)
theorem Zh4 : ∀ (r s pre q : List (List Int)), r.length = s.length → pre.length = q.length → (pre ++ r).length ≤ 1000000 → (∀ x ∈ r, x.length ≤ 1000000) → Ev (fun k => Z4W k (pre ++ r) (q ++ s) ((pre ++ r).length : Int) (pre.length : Int)) (if r = s then LR.go () else LR.ret false)
 | [], s, pre, q, h, hq, hl, hx => by
  obtain rfl : s = [] := List.eq_nil_of_length_eq_zero h.symm
  refine Ev.succ ?_
  simp only [Z4W, Zz, decide_false, Bool.false_eq_true, if_false, if_true]
  exact Ev.some _
 | x :: r, [], pre, q, h, hq, hl, hx => by simp at h
 | x :: r, y :: s, pre, q, h, hq, hl, hx => by
  have ih := Zh4 r s (pre ++ [x]) (q ++ [y]) (by simpa using h) (by simpa using hq) (by simpa using hl) (fun z hz => hx z (List.mem_cons_of_mem _ hz))
  have l2 : (pre.length : Int) < ((q ++ y :: s).length : Int) := by rw [hq]; exact Zs _ _ _
  have g2 : List.getD (q ++ y :: s) pre.length [] = y := by rw [hq]; exact Zo _ _ _ _
  refine Ev.succ ?_
  simp only [Z4W, Zs, ZN, l2, decide_true, if_true, Int.toNat_natCast, Zo, g2]
  rw [Zq pre x r (by omega)]
  rw [← Zh, ← Zh] at ih
  refine Ev.bind (Zl9 x y (hx x (List.mem_cons_self ..))) ?_
  by_cases hh : x = y
  ·simp only [hh, decide_true, Bool.not_true, Bool.false_eq_true, if_false]
   rw [hh] at ih
   refine ih.congr ?_
   simp
  ·simp only [hh, decide_false, Bool.not_false, if_true]
   rw [if_neg (fun he => hh (List.cons.inj he).1)]
   exact Ev.some _
theorem ZwV (a c : List (List Int)) (ha : a.length ≤ 1000000) (hx : ∀ x ∈ a, x.length ≤ 1000000) : Ev (fun k => Zbi k a c) (decide (a = c)) := by
 refine Ev.succ ?_
 simp only [Zbi]
 refine Ev.ite (fun h => ?_) (fun h => ?_)
 ·simp only [decide_eq_true_eq] at h
  rw [decide_eq_false (fun he => h (by rw [he]))]
  exact Ev.some _
 ·simp only [decide_eq_true_eq, Decidable.not_not] at h
  refine Ev.bind (Zh4 a c [] [] (by omega) rfl (by simpa using ha) hx) ?_
  by_cases he : a = c
  ·rw [if_pos he, decide_eq_true he]; exact Ev.go (Ev.some _)
  ·rw [if_neg he, decide_eq_false he]; exact Ev.ret (Ev.some _)
end Go.Proofs.Ytgjmhbjdhihgaaa.Vs

set_option linter.unusedVariables false
set_option linter.unusedSimpArgs false
namespace Go.Proofs.Ytgjmhbjdhihgaaa.Vs
open Go.RowKit
theorem ZDg (p q : List Int) : ∃ v, Ev (fun k => ZeN k p q) v := by
 cases h : gtS (p.length : Int) 1048576 with
 | true => exact ⟨true, Ev.succ (by simp only [ZeN, h, if_true]; exact Ev.some _)⟩
 | false => exact ⟨_, Ev.succ (by simp only [ZeN, h, Bool.false_eq_true, if_false]; exact Ev.some _)⟩
theorem Zxn : ∀ (i : Nat) (r s : List FallD), s.length = r.length → ((diffsFrom i r s).length = 0 ↔ r = s)
 | i, [], s, h => by
  obtain rfl : s = [] := List.eq_nil_of_length_eq_zero h
  simp [diffsFrom]
 | i, x :: r, [], h => by simp at h
 | i, x :: r, y :: s, h => by
  have ih := Zxn (i + 1) r s (by simpa using h)
  simp only [diffsFrom]
  split
  ·rename_i he
   rw [ih, he]
   simp
  ·rename_i he
   simp [he]
theorem ZsP (b : BoardD) (t : List Int) (s : List FallD) (f : FaultD) (i : Nat) : ∀ (r : List FaultD) (j : Nat) (x : List Int), x ∈ pairsRow b t s f i j r →
    ∃ m : Nat, m < r.length ∧ x = [(i : Int), ((j + m : Nat) : Int)] ∧ (f.2.1 ≠ (List.getD r m (0, 0, 0)).2.1 ∨ f.2.2 ≠ (List.getD r m (0, 0, 0)).2.2) ∧ endsOf b [f, List.getD r m (0, 0, 0)] t = s
  | [], j, x, h => by simp [pairsRow] at h
  | g :: r, j, x, h => by
    have next : x ∈ pairsRow b t s f i (j + 1) r → ∃ m : Nat, m < (g :: r).length ∧ x = [(i : Int), ((j + m : Nat) : Int)] ∧ (f.2.1 ≠ (List.getD (g :: r) m (0, 0, 0)).2.1 ∨ f.2.2 ≠ (List.getD (g :: r) m (0, 0, 0)).2.2) ∧ endsOf b [f, List.getD (g :: r) m (0, 0, 0)] t = s := by
      intro hx
      obtain ⟨m, h1, h2, h3, h4⟩ := ZsP b t s f i r (j + 1) x hx
      refine ⟨m + 1, by simp; omega, ?_, ?_, ?_⟩
      · rw [h2, show j + 1 + m = j + (m + 1) by omega]
      · rw [List.getD_cons_succ]; exact h3
      · rw [List.getD_cons_succ]; exact h4
    simp only [pairsRow] at h
    split at h
    · rename_i hc
      rcases List.mem_cons.1 h with rfl | h
      · exact ⟨0, by simp, by simp, by rw [List.getD_cons_zero]; exact hc.1, by rw [List.getD_cons_zero]; exact hc.2⟩
      · exact next h
    · exact next h
theorem Ztk (b : BoardD) (t : List Int) (s : List FallD) : ∀ (r : List FaultD) (i : Nat) (x : List Int), x ∈ pairsAll b t s i r →
    ∃ m n : Nat, m < n ∧ n < r.length ∧ x = [((i + m : Nat) : Int), ((i + n : Nat) : Int)] ∧ ((List.getD r m (0, 0, 0)).2.1 ≠ (List.getD r n (0, 0, 0)).2.1 ∨ (List.getD r m (0, 0, 0)).2.2 ≠ (List.getD r n (0, 0, 0)).2.2) ∧ endsOf b [List.getD r m (0, 0, 0), List.getD r n (0, 0, 0)] t = s
  | [], i, x, h => by simp [pairsAll] at h
  | f :: r, i, x, h => by
    simp only [pairsAll] at h
    rcases List.mem_append.1 h with h | h
    · obtain ⟨m, h1, h2, h3, h4⟩ := ZsP b t s f i r (i + 1) x h
      refine ⟨0, m + 1, by omega, by simp; omega, ?_, ?_, ?_⟩
      · rw [h2, show i + 1 + m = i + (m + 1) by omega]; rfl
      · rw [List.getD_cons_succ, List.getD_cons_zero]; exact h3
      · rw [List.getD_cons_succ, List.getD_cons_zero]; exact h4
    · obtain ⟨m, n, h1, h2, h3, h4, h5⟩ := Ztk b t s r (i + 1) x h
      refine ⟨m + 1, n + 1, by omega, by simp; omega, ?_, ?_, ?_⟩
      · rw [h3, show i + 1 + m = i + (m + 1) by omega, show i + 1 + n = i + (n + 1) by omega]
      · rw [List.getD_cons_succ, List.getD_cons_succ]; exact h4
      · rw [List.getD_cons_succ, List.getD_cons_succ]; exact h5
theorem ZEC {b : BoardD} {t : List Int} {s : List FallD} (hok : seenOK b t s = true) {x : List Int} (hx : x ∈ pairsOf b t s) :
    ∃ m n : Nat, m < (possFrom b.2.1 0 b.2.2).length ∧ n < (possFrom b.2.1 0 b.2.2).length ∧ x = [(m : Int), (n : Int)] ∧ Z1T b [List.getD (possFrom b.2.1 0 b.2.2) m (0, 0, 0), List.getD (possFrom b.2.1 0 b.2.2) n (0, 0, 0)] t s = (true, true) := by
  obtain ⟨hb, _, _, _, _⟩ := Z4U hok
  obtain ⟨g1, g2, g3, g4, g5, g6⟩ := ZH hb
  obtain ⟨m, n, h1, h2, h3, h4, h5⟩ := Ztk b t s _ 0 x hx
  have hm : m < (possFrom b.2.1 0 b.2.2).length := by omega
  refine ⟨m, n, hm, h2, by rw [h3]; simp, ?_⟩
  have em : List.getD (possFrom b.2.1 0 b.2.2) m (0, 0, 0) = (possFrom b.2.1 0 b.2.2)[m] := by rw [List.getD, List.getElem?_eq_getElem hm]; rfl
  have en : List.getD (possFrom b.2.1 0 b.2.2) n (0, 0, 0) = (possFrom b.2.1 0 b.2.2)[n] := by rw [List.getD, List.getElem?_eq_getElem h2]; rfl
  have hpw : List.Pairwise (fun f g => placeOf b f ≤ placeOf b g) (possFrom b.2.1 0 b.2.2) := ZiN g3 b.2.2 0
  have hle := List.pairwise_iff_getElem.1 hpw m n hm h2 h1
  rw [em, en] at h4 h5 ⊢
  have hf := ZvH hb (List.getElem_mem hm) (List.getElem_mem h2) hle h4
  unfold Z1T faultsB
  rw [hok, hf, h5]
  simp
theorem ZDK {b : BoardD} {t : List Int} {s : List FallD} (hok : seenOK b t s = true) {f : FaultD} (hf : f ∈ singlesOf b t s) : Z1T b [f] t s = (true, true) := by
 obtain ⟨hb, _, _, _, _⟩ := Z4U hok
 unfold singlesOf at hf
 obtain ⟨h1, h2⟩ := List.mem_filter.1 hf
 have h2 := of_decide_eq_true h2
 unfold Z1T faultsB
 rw [hok, Zjd hb h1, h2]
 simp
end Go.Proofs.Ytgjmhbjdhihgaaa.Vs

set_option maxRecDepth 100000
set_option maxHeartbeats 2000000
set_option linter.unusedVariables false
set_option linter.unusedSimpArgs false
namespace Go.Proofs.Ytgjmhbjdhihgaaa.Vs
open Go.RowKit
noncomputable section
noncomputable def Z18 : List PK := [PK.mk Ty.bool false none false none]
noncomputable def Z9A : List PK := [PK.mk (Ty.slice (5 : Nat) (Ty.int .u8)) false none false none, PK.mk (Ty.slice (5 : Nat) (Ty.int .u8)) false none false none]
noncomputable def Z1w (r : Bool) : Tup Z18 × OutD := ((r, ()), none)
noncomputable def Z1t : Tup Z18 × OutD → Option (Bool)
 | (a, none) => some (a.1)
 | _ => none
theorem Z1e : ∀ b r, Z1t b = some r → Z1w r = b := by
 rintro ⟨a, o⟩ r h
 cases o with
 | none => injection h with h; subst h; rfl
 | some _ => cases h
noncomputable def Z5m : Nat → Int → Int → List (Int × Int) → List Int → List (Int × Int × Int) → List (List Int) → List (Int × Int × Int) → List Int → Int → Int → Option (LR (Int × Int × List (Int × Int) × List Int × List (Int × Int × Int) × List (List Int) × List Int) Bool)
 | 0, _, _, _, _, _, _, _, _, _, _ => none
 | k + 1, b1_0, b1_1, o2, o3, o4, o5, o6, v1, v236, v237 =>
  if decide (v237 < v236) = true then if (0 : Int) ≤ v237 then if v237 < (↑(List.length o6) : Int) then Option.bind (Z3a k (b1_0, b1_1, o2) [(Prod.fst (List.getD o6 (Int.toNat v237) ((0 : Int), (0 : Int), (0 : Int))), Prod.fst (Prod.snd (List.getD o6 (Int.toNat v237) ((0 : Int), (0 : Int), (0 : Int)))), Prod.snd (Prod.snd (List.getD o6 (Int.toNat v237) ((0 : Int), (0 : Int), (0 : Int)))))] o3 o4) fun z14 => if (!Prod.snd z14) = true then some (LR.ret false) else if (!Prod.fst z14) = true then some (LR.ret false) else Z5m k b1_0 b1_1 o2 o3 o4 o5 o6 v1 v236 (wrap64 (v237 + (1 : Int))) else none else none else some (LR.go (b1_0, b1_1, o2, o3, o4, o5, v1))
noncomputable def Zcx : Spec := Spec.mk [OSh.ro, OSh.box (53 : Nat) [Sh.int .i64, Sh.int .i64, Sh.sl (2 : Nat)], OSh.row true (79 : Nat) (Ty.pair (Ty.int .i64) (Ty.int .i64)), OSh.row true (3 : Nat) (Ty.int .i64), OSh.row true (63 : Nat) (Ty.pair (Ty.int .i64) (Ty.pair (Ty.int .i64) (Ty.int .i64))), OSh.row true (34 : Nat) (Ty.slice (3 : Nat) (Ty.int .i64)), OSh.row true (77 : Nat) (Ty.pair (Ty.int .i64) (Ty.pair (Ty.int .i64) (Ty.int .i64)))] [((1 : Nat), TSh.at (Sh.snap (0 : Nat) (Ty.int .u8))), ((5 : Nat), TSh.at (Sh.ptr (1 : Nat) (0 : Nat))), ((6 : Nat), TSh.at (Sh.sl (3 : Nat))), ((7 : Nat), TSh.at (Sh.sl (4 : Nat))), ((14 : Nat), TSh.at (Sh.sl (5 : Nat))), ((235 : Nat), TSh.at (Sh.sl (6 : Nat))), ((236 : Nat), TSh.at (Sh.int .i64)), ((237 : Nat), TSh.at (Sh.int .i64))]
noncomputable def Zt5 : Spec := Spec.mk [OSh.ro, OSh.box (53 : Nat) [Sh.int .i64, Sh.int .i64, Sh.sl (2 : Nat)], OSh.row true (79 : Nat) (Ty.pair (Ty.int .i64) (Ty.int .i64)), OSh.row true (3 : Nat) (Ty.int .i64), OSh.row true (63 : Nat) (Ty.pair (Ty.int .i64) (Ty.pair (Ty.int .i64) (Ty.int .i64))), OSh.row true (34 : Nat) (Ty.slice (3 : Nat) (Ty.int .i64))] [((1 : Nat), TSh.at (Sh.snap (0 : Nat) (Ty.int .u8))), ((5 : Nat), TSh.at (Sh.ptr (1 : Nat) (0 : Nat))), ((6 : Nat), TSh.at (Sh.sl (3 : Nat))), ((7 : Nat), TSh.at (Sh.sl (4 : Nat))), ((14 : Nat), TSh.at (Sh.sl (5 : Nat)))]
noncomputable def Z4M : LoopDef (Tup Z18 × OutD) := .rets Zcx Zt5 (Int × Int × List (Int × Int) × List Int × List (Int × Int × Int) × List (List Int) × List Int) (Bool) (fun k x => Z5m k x.1.2.1.1 x.1.2.1.2.1 x.1.2.2.1 x.1.2.2.2.1 x.1.2.2.2.2.1 x.1.2.2.2.2.2.1 x.1.2.2.2.2.2.2.1 x.2.1 x.2.2.2.2.2.2.2.1 x.2.2.2.2.2.2.2.2.1) (fun z => (((), (z.1, z.2.1, (), ()), z.2.2.1, z.2.2.2.1, z.2.2.2.2.1, z.2.2.2.2.2.1, ()), (z.2.2.2.2.2.2, (), (), (), (), ()))) (fun y => (y.1.2.1.1, y.1.2.1.2.1, y.1.2.2.1, y.1.2.2.2.1, y.1.2.2.2.2.1, y.1.2.2.2.2.2.1, y.2.1)) (fun _ => rfl) Z1w Z1t Z1e
noncomputable def Z5q : Nat → Int → Int → List (Int × Int) → List Int → List (Int × Int × Int) → List (Int × Int × Int) → List (List Int) → List Int → Int → Int → Option (LR (List Int) Bool)
 | 0, _, _, _, _, _, _, _, _, _, _ => none
 | k + 1, b1_0, b1_1, o2, o3, o4, o5, o6, v1, v280, v281 =>
  if decide (v281 < v280) = true then if (0 : Int) ≤ v281 then if v281 < (↑(List.length o6) : Int) then if decide (v281 = (20 : Int)) = true then some (LR.go v1) else if (0 : Int) < (↑(List.length (List.getD o6 (Int.toNat v281) [])) : Int) then if (0 : Int) ≤ List.getD (List.getD o6 (Int.toNat v281) []) (Int.toNat (0 : Int)) (0 : Int) then if List.getD (List.getD o6 (Int.toNat v281) []) (Int.toNat (0 : Int)) (0 : Int) < (↑(List.length o5) : Int) then if (1 : Int) < (↑(List.length (List.getD o6 (Int.toNat v281) [])) : Int) then if (0 : Int) ≤ List.getD (List.getD o6 (Int.toNat v281) []) (Int.toNat (1 : Int)) (0 : Int) then if List.getD (List.getD o6 (Int.toNat v281) []) (Int.toNat (1 : Int)) (0 : Int) < (↑(List.length o5) : Int) then Option.bind (Z3a k (b1_0, b1_1, o2) [(Prod.fst (List.getD o5 (Int.toNat (List.getD (List.getD o6 (Int.toNat v281) []) (Int.toNat (0 : Int)) (0 : Int))) ((0 : Int), (0 : Int), (0 : Int))), Prod.fst (Prod.snd (List.getD o5 (Int.toNat (List.getD (List.getD o6 (Int.toNat v281) []) (Int.toNat (0 : Int)) (0 : Int))) ((0 : Int), (0 : Int), (0 : Int)))), Prod.snd (Prod.snd (List.getD o5 (Int.toNat (List.getD (List.getD o6 (Int.toNat v281) []) (Int.toNat (0 : Int)) (0 : Int))) ((0 : Int), (0 : Int), (0 : Int))))), (Prod.fst (List.getD o5 (Int.toNat (List.getD (List.getD o6 (Int.toNat v281) []) (Int.toNat (1 : Int)) (0 : Int))) ((0 : Int), (0 : Int), (0 : Int))), Prod.fst (Prod.snd (List.getD o5 (Int.toNat (List.getD (List.getD o6 (Int.toNat v281) []) (Int.toNat (1 : Int)) (0 : Int))) ((0 : Int), (0 : Int), (0 : Int)))), Prod.snd (Prod.snd (List.getD o5 (Int.toNat (List.getD (List.getD o6 (Int.toNat v281) []) (Int.toNat (1 : Int)) (0 : Int))) ((0 : Int), (0 : Int), (0 : Int)))))] o3 o4) fun z19 => if (!Prod.snd z19) = true then some (LR.ret false) else if (!Prod.fst z19) = true then some (LR.ret false) else Z5q k b1_0 b1_1 o2 o3 o4 o5 o6 v1 v280 (wrap64 (v281 + (1 : Int))) else none else none else none else none else none else none else none else none else some (LR.go v1)
noncomputable def Zcy : Spec := Spec.mk [OSh.ro, OSh.box (53 : Nat) [Sh.int .i64, Sh.int .i64, Sh.sl (2 : Nat)], OSh.row true (79 : Nat) (Ty.pair (Ty.int .i64) (Ty.int .i64)), OSh.row true (3 : Nat) (Ty.int .i64), OSh.row true (63 : Nat) (Ty.pair (Ty.int .i64) (Ty.pair (Ty.int .i64) (Ty.int .i64))), OSh.row true (77 : Nat) (Ty.pair (Ty.int .i64) (Ty.pair (Ty.int .i64) (Ty.int .i64))), OSh.row true (34 : Nat) (Ty.slice (3 : Nat) (Ty.int .i64))] [((1 : Nat), TSh.at (Sh.snap (0 : Nat) (Ty.int .u8))), ((5 : Nat), TSh.at (Sh.ptr (1 : Nat) (0 : Nat))), ((6 : Nat), TSh.at (Sh.sl (3 : Nat))), ((7 : Nat), TSh.at (Sh.sl (4 : Nat))), ((32 : Nat), TSh.at (Sh.sl (5 : Nat))), ((279 : Nat), TSh.at (Sh.sl (6 : Nat))), ((280 : Nat), TSh.at (Sh.int .i64)), ((281 : Nat), TSh.at (Sh.int .i64))]
noncomputable def Zsp : Spec := Spec.mk [OSh.ro] [((1 : Nat), TSh.at (Sh.snap (0 : Nat) (Ty.int .u8)))]
noncomputable def Z52 : LoopDef (Tup Z18 × OutD) := .rets Zcy Zsp (List Int) (Bool) (fun k x => Z5q k x.1.2.1.1 x.1.2.1.2.1 x.1.2.2.1 x.1.2.2.2.1 x.1.2.2.2.2.1 x.1.2.2.2.2.2.1 x.1.2.2.2.2.2.2.1 x.2.1 x.2.2.2.2.2.2.2.1 x.2.2.2.2.2.2.2.2.1) (fun z => (((), ()), (z, ()))) (fun y => (y.2.1)) (fun _ => rfl) Z1w Z1t Z1e
noncomputable def Z4 : Nat → Int → Int → List (Int × Int) → List Int → List (Int × Int × Int) → List (Int × Int × Int) → List (List Int) → List Int → Option (LR (List Int) Bool) := fun k b1_0 b1_1 o2 o3 o4 o5 o6 v1 =>
    Option.bind (Z5m k b1_0 b1_1 o2 o3 o4 o6 o5 v1 (↑(List.length o5) : Int) (0 : Int)) fun z15 => LR.on z15 (fun y15 => Option.bind (Z74 k (Prod.fst y15, Prod.fst y15.2, Prod.fst y15.2.2)) fun z16 => Option.bind (Z7i k (Prod.fst y15, Prod.fst y15.2, Prod.fst y15.2.2)) fun z17 => if (!Prod.snd z16) = true then some (LR.ret false) else if (!Prod.snd z17) = true then some (LR.ret false) else Option.bind (Z6I k z16.1 z17.1) fun z18 => if (!z18) = true then some (LR.ret false) else Option.bind (Z5q k y15.1 y15.2.1 y15.2.2.1 y15.2.2.2.1 y15.2.2.2.2.1 z17.1 y15.2.2.2.2.2.1 y15.2.2.2.2.2.2 (↑(List.length y15.2.2.2.2.2.1) : Int) (0 : Int)) fun z20 => LR.on z20 (fun y20 => some (LR.go y20)) fun r20 => some (LR.ret r20)) fun r15 => some (LR.ret r15)
noncomputable def Zpd : Spec := Spec.mk [OSh.ro, OSh.box (53 : Nat) [Sh.int .i64, Sh.int .i64, Sh.sl (2 : Nat)], OSh.row true (79 : Nat) (Ty.pair (Ty.int .i64) (Ty.int .i64)), OSh.row true (3 : Nat) (Ty.int .i64), OSh.row true (63 : Nat) (Ty.pair (Ty.int .i64) (Ty.pair (Ty.int .i64) (Ty.int .i64))), OSh.row true (77 : Nat) (Ty.pair (Ty.int .i64) (Ty.pair (Ty.int .i64) (Ty.int .i64))), OSh.row true (34 : Nat) (Ty.slice (3 : Nat) (Ty.int .i64))] [((1 : Nat), TSh.at (Sh.snap (0 : Nat) (Ty.int .u8))), ((5 : Nat), TSh.at (Sh.ptr (1 : Nat) (0 : Nat))), ((6 : Nat), TSh.at (Sh.sl (3 : Nat))), ((7 : Nat), TSh.at (Sh.sl (4 : Nat))), ((10 : Nat), TSh.at (Sh.sl (5 : Nat))), ((14 : Nat), TSh.at (Sh.sl (6 : Nat)))]
noncomputable def Zp8 : Spec := Spec.mk [OSh.ro] [((1 : Nat), TSh.at (Sh.snap (0 : Nat) (Ty.int .u8)))]
noncomputable def Z1k : LoopDef (Tup Z18 × OutD) := .rets Zpd Zp8 (List Int) (Bool) (fun k x => Z4 k x.1.2.1.1 x.1.2.1.2.1 x.1.2.2.1 x.1.2.2.2.1 x.1.2.2.2.2.1 x.1.2.2.2.2.2.1 x.1.2.2.2.2.2.2.1 x.2.1) (fun z => (((), ()), (z, ()))) (fun y => (y.2.1)) (fun _ => rfl) Z1w Z1t Z1e
noncomputable def ZbR : Nat → Int → Int → List (Int × Int) → List Int → List (Int × Int × Int) → List (Int × Int × Int) → List (List Int) → List Int → List Int → Bool → Int → Bool → Bool → Option (LR (List Int) Bool) := fun k b1_0 b1_1 o2 o3 o4 o5 o6 o7 v1 v17 v18 v24 v25 =>
    if (!v25) = true then some (LR.ret false) else if (!v24 == decide ((↑(List.length o7) : Int) = (0 : Int))) = true then some (LR.ret false) else if v24 = true then if (!v17 == true) = true then some (LR.ret false) else if v17 = true then if (!decide (v18 = (0 : Int)) == v24) = true then some (LR.ret false) else if v17 = true then if decide (v18 = (1 : Int)) = true then if decide ((↑(List.length o5) : Int) = (0 : Int)) = true then some (LR.ret false) else if v17 = true then if decide (v18 = (2 : Int)) = true then if decide ((↑(List.length o5) : Int) > (0 : Int)) = true then some (LR.ret false) else Option.bind (Z4 k b1_0 b1_1 o2 o3 o4 o5 o6 v1) fun z21 => LR.on z21 (fun y21 => some (LR.go y21)) fun r21 => some (LR.ret r21) else Option.bind (Z4 k b1_0 b1_1 o2 o3 o4 o5 o6 v1) fun z22 => LR.on z22 (fun y22 => some (LR.go y22)) fun r22 => some (LR.ret r22) else Option.bind (Z4 k b1_0 b1_1 o2 o3 o4 o5 o6 v1) fun z23 => LR.on z23 (fun y23 => some (LR.go y23)) fun r23 => some (LR.ret r23) else if v17 = true then if decide (v18 = (2 : Int)) = true then if decide ((↑(List.length o5) : Int) > (0 : Int)) = true then some (LR.ret false) else Option.bind (Z4 k b1_0 b1_1 o2 o3 o4 o5 o6 v1) fun z24 => LR.on z24 (fun y24 => some (LR.go y24)) fun r24 => some (LR.ret r24) else Option.bind (Z4 k b1_0 b1_1 o2 o3 o4 o5 o6 v1) fun z25 => LR.on z25 (fun y25 => some (LR.go y25)) fun r25 => some (LR.ret r25) else Option.bind (Z4 k b1_0 b1_1 o2 o3 o4 o5 o6 v1) fun z26 => LR.on z26 (fun y26 => some (LR.go y26)) fun r26 => some (LR.ret r26) else if v17 = true then if decide (v18 = (2 : Int)) = true then if decide ((↑(List.length o5) : Int) > (0 : Int)) = true then some (LR.ret false) else Option.bind (Z4 k b1_0 b1_1 o2 o3 o4 o5 o6 v1) fun z27 => LR.on z27 (fun y27 => some (LR.go y27)) fun r27 => some (LR.ret r27) else Option.bind (Z4 k b1_0 b1_1 o2 o3 o4 o5 o6 v1) fun z28 => LR.on z28 (fun y28 => some (LR.go y28)) fun r28 => some (LR.ret r28) else Option.bind (Z4 k b1_0 b1_1 o2 o3 o4 o5 o6 v1) fun z29 => LR.on z29 (fun y29 => some (LR.go y29)) fun r29 => some (LR.ret r29) else if v17 = true then if decide (v18 = (1 : Int)) = true then if decide ((↑(List.length o5) : Int) = (0 : Int)) = true then some (LR.ret false) else if v17 = true then if decide (v18 = (2 : Int)) = true then if decide ((↑(List.length o5) : Int) > (0 : Int)) = true then some (LR.ret false) else Option.bind (Z4 k b1_0 b1_1 o2 o3 o4 o5 o6 v1) fun z30 => LR.on z30 (fun y30 => some (LR.go y30)) fun r30 => some (LR.ret r30) else Option.bind (Z4 k b1_0 b1_1 o2 o3 o4 o5 o6 v1) fun z31 => LR.on z31 (fun y31 => some (LR.go y31)) fun r31 => some (LR.ret r31) else Option.bind (Z4 k b1_0 b1_1 o2 o3 o4 o5 o6 v1) fun z32 => LR.on z32 (fun y32 => some (LR.go y32)) fun r32 => some (LR.ret r32) else if v17 = true then if decide (v18 = (2 : Int)) = true then if decide ((↑(List.length o5) : Int) > (0 : Int)) = true then some (LR.ret false) else Option.bind (Z4 k b1_0 b1_1 o2 o3 o4 o5 o6 v1) fun z33 => LR.on z33 (fun y33 => some (LR.go y33)) fun r33 => some (LR.ret r33) else Option.bind (Z4 k b1_0 b1_1 o2 o3 o4 o5 o6 v1) fun z34 => LR.on z34 (fun y34 => some (LR.go y34)) fun r34 => some (LR.ret r34) else Option.bind (Z4 k b1_0 b1_1 o2 o3 o4 o5 o6 v1) fun z35 => LR.on z35 (fun y35 => some (LR.go y35)) fun r35 => some (LR.ret r35) else if v17 = true then if decide (v18 = (2 : Int)) = true then if decide ((↑(List.length o5) : Int) > (0 : Int)) = true then some (LR.ret false) else Option.bind (Z4 k b1_0 b1_1 o2 o3 o4 o5 o6 v1) fun z36 => LR.on z36 (fun y36 => some (LR.go y36)) fun r36 => some (LR.ret r36) else Option.bind (Z4 k b1_0 b1_1 o2 o3 o4 o5 o6 v1) fun z37 => LR.on z37 (fun y37 => some (LR.go y37)) fun r37 => some (LR.ret r37) else Option.bind (Z4 k b1_0 b1_1 o2 o3 o4 o5 o6 v1) fun z38 => LR.on z38 (fun y38 => some (LR.go y38)) fun r38 => some (LR.ret r38) else if decide ((↑(List.length o5) : Int) > (0 : Int)) = true then if (!v17 == true) = true then some (LR.ret false) else if v17 = true then if (!decide (v18 = (0 : Int)) == v24) = true then some (LR.ret false) else if v17 = true then if decide (v18 = (1 : Int)) = true then if decide ((↑(List.length o5) : Int) = (0 : Int)) = true then some (LR.ret false) else if v17 = true then if decide (v18 = (2 : Int)) = true then if decide ((↑(List.length o5) : Int) > (0 : Int)) = true then some (LR.ret false) else Option.bind (Z4 k b1_0 b1_1 o2 o3 o4 o5 o6 v1) fun z39 => LR.on z39 (fun y39 => some (LR.go y39)) fun r39 => some (LR.ret r39) else Option.bind (Z4 k b1_0 b1_1 o2 o3 o4 o5 o6 v1) fun z40 => LR.on z40 (fun y40 => some (LR.go y40)) fun r40 => some (LR.ret r40) else Option.bind (Z4 k b1_0 b1_1 o2 o3 o4 o5 o6 v1) fun z41 => LR.on z41 (fun y41 => some (LR.go y41)) fun r41 => some (LR.ret r41) else if v17 = true then if decide (v18 = (2 : Int)) = true then if decide ((↑(List.length o5) : Int) > (0 : Int)) = true then some (LR.ret false) else Option.bind (Z4 k b1_0 b1_1 o2 o3 o4 o5 o6 v1) fun z42 => LR.on z42 (fun y42 => some (LR.go y42)) fun r42 => some (LR.ret r42) else Option.bind (Z4 k b1_0 b1_1 o2 o3 o4 o5 o6 v1) fun z43 => LR.on z43 (fun y43 => some (LR.go y43)) fun r43 => some (LR.ret r43) else Option.bind (Z4 k b1_0 b1_1 o2 o3 o4 o5 o6 v1) fun z44 => LR.on z44 (fun y44 => some (LR.go y44)) fun r44 => some (LR.ret r44) else if v17 = true then if decide (v18 = (2 : Int)) = true then if decide ((↑(List.length o5) : Int) > (0 : Int)) = true then some (LR.ret false) else Option.bind (Z4 k b1_0 b1_1 o2 o3 o4 o5 o6 v1) fun z45 => LR.on z45 (fun y45 => some (LR.go y45)) fun r45 => some (LR.ret r45) else Option.bind (Z4 k b1_0 b1_1 o2 o3 o4 o5 o6 v1) fun z46 => LR.on z46 (fun y46 => some (LR.go y46)) fun r46 => some (LR.ret r46) else Option.bind (Z4 k b1_0 b1_1 o2 o3 o4 o5 o6 v1) fun z47 => LR.on z47 (fun y47 => some (LR.go y47)) fun r47 => some (LR.ret r47) else if v17 = true then if decide (v18 = (1 : Int)) = true then if decide ((↑(List.length o5) : Int) = (0 : Int)) = true then some (LR.ret false) else if v17 = true then if decide (v18 = (2 : Int)) = true then if decide ((↑(List.length o5) : Int) > (0 : Int)) = true then some (LR.ret false) else Option.bind (Z4 k b1_0 b1_1 o2 o3 o4 o5 o6 v1) fun z48 => LR.on z48 (fun y48 => some (LR.go y48)) fun r48 => some (LR.ret r48) else Option.bind (Z4 k b1_0 b1_1 o2 o3 o4 o5 o6 v1) fun z49 => LR.on z49 (fun y49 => some (LR.go y49)) fun r49 => some (LR.ret r49) else Option.bind (Z4 k b1_0 b1_1 o2 o3 o4 o5 o6 v1) fun z50 => LR.on z50 (fun y50 => some (LR.go y50)) fun r50 => some (LR.ret r50) else if v17 = true then if decide (v18 = (2 : Int)) = true then if decide ((↑(List.length o5) : Int) > (0 : Int)) = true then some (LR.ret false) else Option.bind (Z4 k b1_0 b1_1 o2 o3 o4 o5 o6 v1) fun z51 => LR.on z51 (fun y51 => some (LR.go y51)) fun r51 => some (LR.ret r51) else Option.bind (Z4 k b1_0 b1_1 o2 o3 o4 o5 o6 v1) fun z52 => LR.on z52 (fun y52 => some (LR.go y52)) fun r52 => some (LR.ret r52) else Option.bind (Z4 k b1_0 b1_1 o2 o3 o4 o5 o6 v1) fun z53 => LR.on z53 (fun y53 => some (LR.go y53)) fun r53 => some (LR.ret r53) else if v17 = true then if decide (v18 = (2 : Int)) = true then if decide ((↑(List.length o5) : Int) > (0 : Int)) = true then some (LR.ret false) else Option.bind (Z4 k b1_0 b1_1 o2 o3 o4 o5 o6 v1) fun z54 => LR.on z54 (fun y54 => some (LR.go y54)) fun r54 => some (LR.ret r54) else Option.bind (Z4 k b1_0 b1_1 o2 o3 o4 o5 o6 v1) fun z55 => LR.on z55 (fun y55 => some (LR.go y55)) fun r55 => some (LR.ret r55) else Option.bind (Z4 k b1_0 b1_1 o2 o3 o4 o5 o6 v1) fun z56 => LR.on z56 (fun y56 => some (LR.go y56)) fun r56 => some (LR.ret r56) else if (!v17 == decide ((↑(List.length o6) : Int) > (0 : Int))) = true then some (LR.ret false) else if v17 = true then if (!decide (v18 = (0 : Int)) == v24) = true then some (LR.ret false) else if v17 = true then if decide (v18 = (1 : Int)) = true then if decide ((↑(List.length o5) : Int) = (0 : Int)) = true then some (LR.ret false) else if v17 = true then if decide (v18 = (2 : Int)) = true then if decide ((↑(List.length o5) : Int) > (0 : Int)) = true then some (LR.ret false) else Option.bind (Z4 k b1_0 b1_1 o2 o3 o4 o5 o6 v1) fun z57 => LR.on z57 (fun y57 => some (LR.go y57)) fun r57 => some (LR.ret r57) else Option.bind (Z4 k b1_0 b1_1 o2 o3 o4 o5 o6 v1) fun z58 => LR.on z58 (fun y58 => some (LR.go y58)) fun r58 => some (LR.ret r58) else Option.bind (Z4 k b1_0 b1_1 o2 o3 o4 o5 o6 v1) fun z59 => LR.on z59 (fun y59 => some (LR.go y59)) fun r59 => some (LR.ret r59) else if v17 = true then if decide (v18 = (2 : Int)) = true then if decide ((↑(List.length o5) : Int) > (0 : Int)) = true then some (LR.ret false) else Option.bind (Z4 k b1_0 b1_1 o2 o3 o4 o5 o6 v1) fun z60 => LR.on z60 (fun y60 => some (LR.go y60)) fun r60 => some (LR.ret r60) else Option.bind (Z4 k b1_0 b1_1 o2 o3 o4 o5 o6 v1) fun z61 => LR.on z61 (fun y61 => some (LR.go y61)) fun r61 => some (LR.ret r61) else Option.bind (Z4 k b1_0 b1_1 o2 o3 o4 o5 o6 v1) fun z62 => LR.on z62 (fun y62 => some (LR.go y62)) fun r62 => some (LR.ret r62) else if v17 = true then if decide (v18 = (2 : Int)) = true then if decide ((↑(List.length o5) : Int) > (0 : Int)) = true then some (LR.ret false) else Option.bind (Z4 k b1_0 b1_1 o2 o3 o4 o5 o6 v1) fun z63 => LR.on z63 (fun y63 => some (LR.go y63)) fun r63 => some (LR.ret r63) else Option.bind (Z4 k b1_0 b1_1 o2 o3 o4 o5 o6 v1) fun z64 => LR.on z64 (fun y64 => some (LR.go y64)) fun r64 => some (LR.ret r64) else Option.bind (Z4 k b1_0 b1_1 o2 o3 o4 o5 o6 v1) fun z65 => LR.on z65 (fun y65 => some (LR.go y65)) fun r65 => some (LR.ret r65) else if v17 = true then if decide (v18 = (1 : Int)) = true then if decide ((↑(List.length o5) : Int) = (0 : Int)) = true then some (LR.ret false) else if v17 = true then if decide (v18 = (2 : Int)) = true then if decide ((↑(List.length o5) : Int) > (0 : Int)) = true then some (LR.ret false) else Option.bind (Z4 k b1_0 b1_1 o2 o3 o4 o5 o6 v1) fun z66 => LR.on z66 (fun y66 => some (LR.go y66)) fun r66 => some (LR.ret r66) else Option.bind (Z4 k b1_0 b1_1 o2 o3 o4 o5 o6 v1) fun z67 => LR.on z67 (fun y67 => some (LR.go y67)) fun r67 => some (LR.ret r67) else Option.bind (Z4 k b1_0 b1_1 o2 o3 o4 o5 o6 v1) fun z68 => LR.on z68 (fun y68 => some (LR.go y68)) fun r68 => some (LR.ret r68) else if v17 = true then if decide (v18 = (2 : Int)) = true then if decide ((↑(List.length o5) : Int) > (0 : Int)) = true then some (LR.ret false) else Option.bind (Z4 k b1_0 b1_1 o2 o3 o4 o5 o6 v1) fun z69 => LR.on z69 (fun y69 => some (LR.go y69)) fun r69 => some (LR.ret r69) else Option.bind (Z4 k b1_0 b1_1 o2 o3 o4 o5 o6 v1) fun z70 => LR.on z70 (fun y70 => some (LR.go y70)) fun r70 => some (LR.ret r70) else Option.bind (Z4 k b1_0 b1_1 o2 o3 o4 o5 o6 v1) fun z71 => LR.on z71 (fun y71 => some (LR.go y71)) fun r71 => some (LR.ret r71) else if v17 = true then if decide (v18 = (2 : Int)) = true then if decide ((↑(List.length o5) : Int) > (0 : Int)) = true then some (LR.ret false) else Option.bind (Z4 k b1_0 b1_1 o2 o3 o4 o5 o6 v1) fun z72 => LR.on z72 (fun y72 => some (LR.go y72)) fun r72 => some (LR.ret r72) else Option.bind (Z4 k b1_0 b1_1 o2 o3 o4 o5 o6 v1) fun z73 => LR.on z73 (fun y73 => some (LR.go y73)) fun r73 => some (LR.ret r73) else Option.bind (Z4 k b1_0 b1_1 o2 o3 o4 o5 o6 v1) fun z74 => LR.on z74 (fun y74 => some (LR.go y74)) fun r74 => some (LR.ret r74)
noncomputable def Zoy : Spec := Spec.mk [OSh.ro, OSh.box (53 : Nat) [Sh.int .i64, Sh.int .i64, Sh.sl (2 : Nat)], OSh.row true (79 : Nat) (Ty.pair (Ty.int .i64) (Ty.int .i64)), OSh.row true (3 : Nat) (Ty.int .i64), OSh.row true (63 : Nat) (Ty.pair (Ty.int .i64) (Ty.pair (Ty.int .i64) (Ty.int .i64))), OSh.row true (77 : Nat) (Ty.pair (Ty.int .i64) (Ty.pair (Ty.int .i64) (Ty.int .i64))), OSh.row true (34 : Nat) (Ty.slice (3 : Nat) (Ty.int .i64)), OSh.row true (3 : Nat) (Ty.int .i64)] [((1 : Nat), TSh.at (Sh.snap (0 : Nat) (Ty.int .u8))), ((5 : Nat), TSh.at (Sh.ptr (1 : Nat) (0 : Nat))), ((6 : Nat), TSh.at (Sh.sl (3 : Nat))), ((7 : Nat), TSh.at (Sh.sl (4 : Nat))), ((10 : Nat), TSh.at (Sh.sl (5 : Nat))), ((14 : Nat), TSh.at (Sh.sl (6 : Nat))), ((17 : Nat), TSh.at Sh.bool), ((18 : Nat), TSh.at (Sh.int .i64)), ((22 : Nat), TSh.at (Sh.sl (7 : Nat))), ((24 : Nat), TSh.at Sh.bool), ((25 : Nat), TSh.at Sh.bool)]
noncomputable def Zp6 : Spec := Spec.mk [OSh.ro] [((1 : Nat), TSh.at (Sh.snap (0 : Nat) (Ty.int .u8)))]
noncomputable def Z1 : LoopDef (Tup Z18 × OutD) := .rets Zoy Zp6 (List Int) (Bool) (fun k x => ZbR k x.1.2.1.1 x.1.2.1.2.1 x.1.2.2.1 x.1.2.2.2.1 x.1.2.2.2.2.1 x.1.2.2.2.2.2.1 x.1.2.2.2.2.2.2.1 x.1.2.2.2.2.2.2.2.1 x.2.1 x.2.2.2.2.2.2.2.1 x.2.2.2.2.2.2.2.2.1 x.2.2.2.2.2.2.2.2.2.2.1 x.2.2.2.2.2.2.2.2.2.2.2.1) (fun z => (((), ()), (z, ()))) (fun y => (y.2.1)) (fun _ => rfl) Z1w Z1t Z1e
noncomputable def ZbJ : Nat → Bool → Bool → Bool → Bool → Option Bool := fun k v42 v43 v44 v45 =>
    if (v43 == v45) = true then some (v42 == v44) else some false
noncomputable def ZoU : Spec := Spec.mk [OSh.ro] [((42 : Nat), TSh.at Sh.bool), ((43 : Nat), TSh.at Sh.bool), ((44 : Nat), TSh.at Sh.bool), ((45 : Nat), TSh.at Sh.bool)]
noncomputable def Z1m : LoopDef (Tup Z18 × OutD) := .ends ZoU (Bool) (fun k x => ZbJ k x.2.1 x.2.2.1 x.2.2.2.1 x.2.2.2.2.1) Z1w Z1t Z1e
noncomputable def Z5V : Nat → List Int → Option Bool := fun k v1 =>
    Option.bind (Z5M k v1) fun z76 => Option.bind (Z3a k (Prod.fst z76.1, Prod.fst z76.1.2, Prod.snd z76.1.2) z76.2.1 z76.2.2.1 z76.2.2.2) fun z77 => Option.bind (Z8I k (Prod.fst z76.1, Prod.fst z76.1.2, Prod.snd z76.1.2) z76.2.1 z76.2.2.1 z76.2.2.2) fun z78 => Option.bind (ZbJ k z77.1 z77.2 z78.1 z78.2) fun z79 => some z79
noncomputable def Zog : Spec := Spec.mk [OSh.ro] [((1 : Nat), TSh.at (Sh.snap (0 : Nat) (Ty.int .u8)))]
noncomputable def Z1j : LoopDef (Tup Z18 × OutD) := .ends Zog (Bool) (fun k x => Z5V k x.2.1) Z1w Z1t Z1e
noncomputable def Z4j : Nat → Int → Int → List (Int × Int) → List Int → List (Int × Int × Int) → List (Int × Int × Int) → List (List Int) → List Int → List Int → Bool → Bool → Int → Option Bool := fun k b1_0 b1_1 o2 o3 o4 o5 o6 o7 v1 v9 v17 v18 =>
    if v9 = true then Option.bind (Z3a k (b1_0, b1_1, o2) [] o3 o4) fun z13 => Option.bind (ZbR k b1_0 b1_1 o2 o3 o4 o5 o6 o7 v1 v17 v18 z13.1 z13.2) fun z75 => LR.on z75 (fun y75 => Option.bind (Z5V k y75) fun z80 => some z80) fun r75 => some r75 else Option.bind (Z5V k v1) fun z81 => some z81
noncomputable def Zp3 : Spec := Spec.mk [OSh.ro, OSh.box (53 : Nat) [Sh.int .i64, Sh.int .i64, Sh.sl (2 : Nat)], OSh.row true (79 : Nat) (Ty.pair (Ty.int .i64) (Ty.int .i64)), OSh.row true (3 : Nat) (Ty.int .i64), OSh.row true (63 : Nat) (Ty.pair (Ty.int .i64) (Ty.pair (Ty.int .i64) (Ty.int .i64))), OSh.row true (77 : Nat) (Ty.pair (Ty.int .i64) (Ty.pair (Ty.int .i64) (Ty.int .i64))), OSh.row true (34 : Nat) (Ty.slice (3 : Nat) (Ty.int .i64)), OSh.row true (3 : Nat) (Ty.int .i64)] [((1 : Nat), TSh.at (Sh.snap (0 : Nat) (Ty.int .u8))), ((5 : Nat), TSh.at (Sh.ptr (1 : Nat) (0 : Nat))), ((6 : Nat), TSh.at (Sh.sl (3 : Nat))), ((7 : Nat), TSh.at (Sh.sl (4 : Nat))), ((9 : Nat), TSh.at Sh.bool), ((10 : Nat), TSh.at (Sh.sl (5 : Nat))), ((14 : Nat), TSh.at (Sh.sl (6 : Nat))), ((17 : Nat), TSh.at Sh.bool), ((18 : Nat), TSh.at (Sh.int .i64)), ((22 : Nat), TSh.at (Sh.sl (7 : Nat)))]
noncomputable def Z1n : LoopDef (Tup Z18 × OutD) := .ends Zp3 (Bool) (fun k x => Z4j k x.1.2.1.1 x.1.2.1.2.1 x.1.2.2.1 x.1.2.2.2.1 x.1.2.2.2.2.1 x.1.2.2.2.2.2.1 x.1.2.2.2.2.2.2.1 x.1.2.2.2.2.2.2.2.1 x.2.1 x.2.2.2.2.2.1 x.2.2.2.2.2.2.2.2.1 x.2.2.2.2.2.2.2.2.2.1) Z1w Z1t Z1e
noncomputable def ZbH : Nat → Int → Int → List (Int × Int) → List Int → List (Int × Int × Int) → List (Int × Int × Int) → List (Int × Int × Int) → List (List Int) → List (List Int) → List Int → Bool → Bool → Bool → Bool → Int → Bool → Int → Bool → Option Bool := fun k b1_0 b1_1 o2 o3 o4 o5 o6 o7 o8 v1 v9 v11 v13 v15 v16 v17 v18 v19 =>
    Option.bind (Z9j k (b1_0, b1_1, o2) o3 o4) fun z8 => Option.bind (Z9w k (b1_0, b1_1, o2) o3 o4) fun z9 => if (!v9 == v11) = true then some false else Option.bind (Z6I k o5 o6) fun z10 => if (!z10) = true then some false else if (!v13 == v15) = true then some false else Option.bind (Zbi k o7 o8) fun z11 => if (!z11) = true then some false else if (!v17 == v19) = true then some false else if decide (v16 ≠ v18) = true then some false else if (!Prod.snd z8 == Prod.snd z9) = true then some false else Option.bind (Z9B k z8.1 z9.1) fun z12 => if (!z12) = true then some false else if (!v13 == v9) = true then some false else if (!Prod.snd z8 == v9) = true then some false else if v17 = true then if (!v9) = true then some false else Option.bind (Z4j k b1_0 b1_1 o2 o3 o4 o6 o8 z9.1 v1 v9 v17 v18) fun z82 => some z82 else Option.bind (Z4j k b1_0 b1_1 o2 o3 o4 o6 o8 z9.1 v1 v9 v17 v18) fun z83 => some z83
noncomputable def Zom : Spec := Spec.mk [OSh.ro, OSh.box (53 : Nat) [Sh.int .i64, Sh.int .i64, Sh.sl (2 : Nat)], OSh.row true (79 : Nat) (Ty.pair (Ty.int .i64) (Ty.int .i64)), OSh.row true (3 : Nat) (Ty.int .i64), OSh.row true (63 : Nat) (Ty.pair (Ty.int .i64) (Ty.pair (Ty.int .i64) (Ty.int .i64))), OSh.row true (77 : Nat) (Ty.pair (Ty.int .i64) (Ty.pair (Ty.int .i64) (Ty.int .i64))), OSh.row true (77 : Nat) (Ty.pair (Ty.int .i64) (Ty.pair (Ty.int .i64) (Ty.int .i64))), OSh.row true (34 : Nat) (Ty.slice (3 : Nat) (Ty.int .i64)), OSh.row true (34 : Nat) (Ty.slice (3 : Nat) (Ty.int .i64))] [((1 : Nat), TSh.at (Sh.snap (0 : Nat) (Ty.int .u8))), ((5 : Nat), TSh.at (Sh.ptr (1 : Nat) (0 : Nat))), ((6 : Nat), TSh.at (Sh.sl (3 : Nat))), ((7 : Nat), TSh.at (Sh.sl (4 : Nat))), ((8 : Nat), TSh.at (Sh.sl (5 : Nat))), ((9 : Nat), TSh.at Sh.bool), ((10 : Nat), TSh.at (Sh.sl (6 : Nat))), ((11 : Nat), TSh.at Sh.bool), ((12 : Nat), TSh.at (Sh.sl (7 : Nat))), ((13 : Nat), TSh.at Sh.bool), ((14 : Nat), TSh.at (Sh.sl (8 : Nat))), ((15 : Nat), TSh.at Sh.bool), ((16 : Nat), TSh.at (Sh.int .i64)), ((17 : Nat), TSh.at Sh.bool), ((18 : Nat), TSh.at (Sh.int .i64)), ((19 : Nat), TSh.at Sh.bool)]
noncomputable def Z1o : LoopDef (Tup Z18 × OutD) := .ends Zom (Bool) (fun k x => ZbH k x.1.2.1.1 x.1.2.1.2.1 x.1.2.2.1 x.1.2.2.2.1 x.1.2.2.2.2.1 x.1.2.2.2.2.2.1 x.1.2.2.2.2.2.2.1 x.1.2.2.2.2.2.2.2.1 x.1.2.2.2.2.2.2.2.2.1 x.2.1 x.2.2.2.2.2.2.1 x.2.2.2.2.2.2.2.2.1 x.2.2.2.2.2.2.2.2.2.2.1 x.2.2.2.2.2.2.2.2.2.2.2.2.1 x.2.2.2.2.2.2.2.2.2.2.2.2.2.1 x.2.2.2.2.2.2.2.2.2.2.2.2.2.2.1 x.2.2.2.2.2.2.2.2.2.2.2.2.2.2.2.1 x.2.2.2.2.2.2.2.2.2.2.2.2.2.2.2.2.1) Z1w Z1t Z1e
noncomputable def Zcg : Nat → Int → Int → List (Int × Int) → List Int → List (Int × Int × Int) → List (Int × Int × Int) → List (Int × Int × Int) → List Int → Bool → Bool → Option Bool := fun k b1_0 b1_1 o2 o3 o4 o5 o6 v1 v9 v11 =>
    Option.bind (Z9Z k (b1_0, b1_1, o2) o3 o4) fun z4 => Option.bind (Za2 k (b1_0, b1_1, o2) o3 o4) fun z5 => Option.bind (Z9n k (b1_0, b1_1, o2) o3 o4) fun z6 => Option.bind (Z9H k (b1_0, b1_1, o2) o3 o4) fun z7 => Option.bind (ZbH k b1_0 b1_1 o2 o3 o4 o5 o6 z4.1 z5.1 v1 v9 v11 z4.2 z5.2 z6.1 z6.2 z7.1 z7.2) fun z84 => some z84
noncomputable def ZqU : Spec := Spec.mk [OSh.ro, OSh.box (53 : Nat) [Sh.int .i64, Sh.int .i64, Sh.sl (2 : Nat)], OSh.row true (79 : Nat) (Ty.pair (Ty.int .i64) (Ty.int .i64)), OSh.row true (3 : Nat) (Ty.int .i64), OSh.row true (63 : Nat) (Ty.pair (Ty.int .i64) (Ty.pair (Ty.int .i64) (Ty.int .i64))), OSh.row true (77 : Nat) (Ty.pair (Ty.int .i64) (Ty.pair (Ty.int .i64) (Ty.int .i64))), OSh.row true (77 : Nat) (Ty.pair (Ty.int .i64) (Ty.pair (Ty.int .i64) (Ty.int .i64)))] [((1 : Nat), TSh.at (Sh.snap (0 : Nat) (Ty.int .u8))), ((5 : Nat), TSh.at (Sh.ptr (1 : Nat) (0 : Nat))), ((6 : Nat), TSh.at (Sh.sl (3 : Nat))), ((7 : Nat), TSh.at (Sh.sl (4 : Nat))), ((8 : Nat), TSh.at (Sh.sl (5 : Nat))), ((9 : Nat), TSh.at Sh.bool), ((10 : Nat), TSh.at (Sh.sl (6 : Nat))), ((11 : Nat), TSh.at Sh.bool)]
noncomputable def Z1D : LoopDef (Tup Z18 × OutD) := .ends ZqU (Bool) (fun k x => Zcg k x.1.2.1.1 x.1.2.1.2.1 x.1.2.2.1 x.1.2.2.2.1 x.1.2.2.2.2.1 x.1.2.2.2.2.2.1 x.1.2.2.2.2.2.2.1 x.2.1 x.2.2.2.2.2.2.1 x.2.2.2.2.2.2.2.2.1) Z1w Z1t Z1e
noncomputable def ZfF : Nat → List Int → List Int → Option Bool
 | 0, _, _ => none
 | k + 1, p0, p1 =>
  Option.bind (ZeN k p0 p1) fun z0 => if z0 = true then some true else Option.bind (Z5L k p0) fun z1 => Option.bind (Z8U k (Prod.fst z1.1, Prod.fst z1.1.2, Prod.snd z1.1.2) z1.2.1 z1.2.2) fun z2 => Option.bind (Z8M k (Prod.fst z1.1, Prod.fst z1.1.2, Prod.snd z1.1.2) z1.2.1 z1.2.2) fun z3 => Option.bind (Zcg k z1.1.1 z1.1.2.1 z1.1.2.2 z1.2.1 z1.2.2 z2.1 z3.1 p1 z2.2 z3.2) fun z85 => some z85
noncomputable def Z3j : FnDef := .of Z9A Z18 (Bool) (fun k x => ZfF k x.1 x.2.1) Z1w Z1t Z1e
noncomputable def Z1r : Code := Try.f6.body.getD .skip
noncomputable def Z6 : Ctx (Tup Z18 × OutD) := { T := T, G := [(8, Z9E.E), (53, Z1g.E), (54, Z27.E), (55, Z26.E), (56, Z32.E), (57, Z35.E), (58, Z2z.E), (59, Z2y.E), (60, Z2x.E), (61, Z2v.E), (62, Z2w.E), (63, Z3F.E), (31, Z3f.E), (64, Z29.E), (65, Z1K.E), (66, Z1J.E), (67, Z1h.E), (68, Z2c.E)], mvs := [], no := 0, n := 346, res := resOf T Z9A Z18 Try.f6.results.toList, loops := [(0, Z4M.E), (2, Z52.E)], regs := [], conds := [], cuts := [(18, Z1k.E), (16, Z1.E), (40, Z1m.E), (37, Z1j.E), (14, Z1n.E), (10, Z1o.E), (6, Z1D.E)] }
theorem Z2t (k : Nat) : EnvOK Try.prog k Z6.G := (EnvOK.cons (ZDj k) (EnvOK.cons (Zkm k) (EnvOK.cons (Zqv k) (EnvOK.cons (ZqG k) (EnvOK.cons (ZtC k) (EnvOK.cons (ZuV k) (EnvOK.cons (ZsU k) (EnvOK.cons (Ztr k) (EnvOK.cons (Zss k) (EnvOK.cons (Zs1 k) (EnvOK.cons (Zrx k) (EnvOK.cons (Zwt k) (EnvOK.cons (ZkP k) (EnvOK.cons (Zrg k) (EnvOK.cons (Zn9 k) (EnvOK.cons (Zn8 k) (EnvOK.cons (Zki k) (EnvOK.cons (ZqX k) (EnvOK.nil mixed)))))))))))))))))))
noncomputable def Z9J : Code := (findLoop 0 Z1r).getD .skip
theorem Ztt (k : Nat) (x : Zcx.D) : Z4M.lp (k + 1) x = loopK Z6 Z4M 0 Z9J k x := by kernel_rfl
theorem ZsY (k : Nat) : LOK Try.prog Z6 k Z9J := LOK.by [] (by kernel_rfl) AllOK.nil
theorem Zt2 (x : Zcx.D) : Z4M.lp 0 x = none := by kernel_rfl
theorem Zqg (k : Nat) : EOK Try.prog Z6 k Z4M.E (.block 0 (.loop Z9J)) := Zp T_ok Z2t Zt2 Ztt ZsY k
noncomputable def Z9C : Code := (findLoop 2 Z1r).getD .skip
theorem Zsb (k : Nat) (x : Zcy.D) : Z52.lp (k + 1) x = loopK Z6 Z52 2 Z9C k x := by kernel_rfl
theorem Zrs (k : Nat) : LOK Try.prog Z6 k Z9C := LOK.by [] (by kernel_rfl) AllOK.nil
theorem ZsC (x : Zcy.D) : Z52.lp 0 x = none := by kernel_rfl
theorem Zqk (k : Nat) : EOK Try.prog Z6 k Z52.E (.block 2 (.loop Z9C)) := Zp T_ok Z2t ZsC Zsb Zrs k
noncomputable def Z7X : Code := (findCut 18 Z1r).getD .skip
theorem ZoN (k : Nat) (i : Z1k.inp.D) : Z1k.lp k i = exec Z6 k Z7X (Z1k.inp.st Z6.n i) (outK Z6 Z1k) (fun _ _ => none) Z1k.mkB := by kernel_rfl
theorem ZnJ (k : Nat) : EOK Try.prog Z6 k Z1k.E Z7X := Zjx (D := Z1k) T_ok (Z2t k) (ZoN k) (@LOK.by _ _ _ _ Z7X [(Z4M.E, .block 0 (.loop Z9J)), (Z52.E, .block 2 (.loop Z9C))] (by kernel_rfl) (AllOK.cons (Zqg k) (AllOK.cons (Zqk k) AllOK.nil)))
noncomputable def ZA : Code := (findCut 16 Z1r).getD .skip
def Zn (i : Z1.inp.D) (a0 a1 a2 : Bool) : Z1.inp.D := (i.1, i.2.1, i.2.2.1, i.2.2.2.1, i.2.2.2.2.1, i.2.2.2.2.2.1, i.2.2.2.2.2.2.1, a0, i.2.2.2.2.2.2.2.2.1, i.2.2.2.2.2.2.2.2.2.1, a1, a2, i.2.2.2.2.2.2.2.2.2.2.2.2)
theorem Zjg (k : Nat) (i : Z1.inp.D) : Z1.lp k (Zn i true true true) = exec Z6 k ZA (Z1.inp.st Z6.n (Zn i true true true)) (outK Z6 Z1) (fun _ _ => none) Z1.mkB := by kernel_rfl
theorem Zjp (k : Nat) (i : Z1.inp.D) : Z1.lp k (Zn i true true false) = exec Z6 k ZA (Z1.inp.st Z6.n (Zn i true true false)) (outK Z6 Z1) (fun _ _ => none) Z1.mkB := by kernel_rfl
theorem ZjM (k : Nat) (i : Z1.inp.D) : Z1.lp k (Zn i true false true) = exec Z6 k ZA (Z1.inp.st Z6.n (Zn i true false true)) (outK Z6 Z1) (fun _ _ => none) Z1.mkB := by kernel_rfl
theorem Zj8 (k : Nat) (i : Z1.inp.D) : Z1.lp k (Zn i true false false) = exec Z6 k ZA (Z1.inp.st Z6.n (Zn i true false false)) (outK Z6 Z1) (fun _ _ => none) Z1.mkB := by kernel_rfl
theorem Zjw (k : Nat) (i : Z1.inp.D) : Z1.lp k (Zn i false true true) = exec Z6 k ZA (Z1.inp.st Z6.n (Zn i false true true)) (outK Z6 Z1) (fun _ _ => none) Z1.mkB := by kernel_rfl
theorem Zji (k : Nat) (i : Z1.inp.D) : Z1.lp k (Zn i false true false) = exec Z6 k ZA (Z1.inp.st Z6.n (Zn i false true false)) (outK Z6 Z1) (fun _ _ => none) Z1.mkB := by kernel_rfl
theorem ZjC (k : Nat) (i : Z1.inp.D) : Z1.lp k (Zn i false false true) = exec Z6 k ZA (Z1.inp.st Z6.n (Zn i false false true)) (outK Z6 Z1) (fun _ _ => none) Z1.mkB := by kernel_rfl
theorem Zk7 (k : Nat) (i : Z1.inp.D) : Z1.lp k (Zn i false false false) = exec Z6 k ZA (Z1.inp.st Z6.n (Zn i false false false)) (outK Z6 Z1) (fun _ _ => none) Z1.mkB := by kernel_rfl
theorem Zoz (k : Nat) (i : Z1.inp.D) : ∀ a0 a1 a2 : Bool, Z1.lp k (Zn i a0 a1 a2) = exec Z6 k ZA (Z1.inp.st Z6.n (Zn i a0 a1 a2)) (outK Z6 Z1) (fun _ _ => none) Z1.mkB
 | true, true, true => Zjg k i
 | true, true, false => Zjp k i
 | true, false, true => ZjM k i
 | true, false, false => Zj8 k i
 | false, true, true => Zjw k i
 | false, true, false => Zji k i
 | false, false, true => ZjC k i
 | false, false, false => Zk7 k i
theorem ZoK (k : Nat) (i : Z1.inp.D) : Z1.lp k i = exec Z6 k ZA (Z1.inp.st Z6.n i) (outK Z6 Z1) (fun _ _ => none) Z1.mkB :=
 Eq.subst (motive := fun x => Z1.lp k x = exec Z6 k ZA (Z1.inp.st Z6.n x) (outK Z6 Z1) (fun _ _ => none) Z1.mkB) (show Zn i i.2.2.2.2.2.2.2.1 i.2.2.2.2.2.2.2.2.2.2.1 i.2.2.2.2.2.2.2.2.2.2.2.1 = i from rfl) (Zoz k i i.2.2.2.2.2.2.2.1 i.2.2.2.2.2.2.2.2.2.2.1 i.2.2.2.2.2.2.2.2.2.2.2.1)
theorem ZnR (k : Nat) : EOK Try.prog Z6 k Z1.E ZA := Zjx (D := Z1) T_ok (Z2t k) (ZoK k) (@LOK.by _ _ _ _ ZA [(Z1k.E, Z7X)] (by kernel_rfl) (AllOK.cons (ZnJ k) AllOK.nil))
noncomputable def Z7V : Code := (findCut 40 Z1r).getD .skip
theorem Zp2 (k : Nat) (i : Z1m.inp.D) : Z1m.lp k i = exec Z6 k Z7V (Z1m.inp.st Z6.n i) (outK Z6 Z1m) (fun _ _ => none) Z1m.mkB := by kernel_rfl
theorem ZnX (k : Nat) : EOK Try.prog Z6 k Z1m.E Z7V := Zjx (D := Z1m) T_ok (Z2t k) (Zp2 k) (@LOK.by _ _ _ _ Z7V [] (by kernel_rfl) AllOK.nil)
noncomputable def Z7N : Code := (findCut 37 Z1r).getD .skip
theorem Zoe (k : Nat) (i : Z1j.inp.D) : Z1j.lp k i = exec Z6 k Z7N (Z1j.inp.st Z6.n i) (outK Z6 Z1j) (fun _ _ => none) Z1j.mkB := by kernel_rfl
theorem Znx (k : Nat) : EOK Try.prog Z6 k Z1j.E Z7N := Zjx (D := Z1j) T_ok (Z2t k) (Zoe k) (@LOK.by _ _ _ _ Z7N [(Z1m.E, Z7V)] (by kernel_rfl) (AllOK.cons (ZnX k) AllOK.nil))
noncomputable def Z7O : Code := (findCut 14 Z1r).getD .skip
theorem Zp0 (k : Nat) (i : Z1n.inp.D) : Z1n.lp k i = exec Z6 k Z7O (Z1n.inp.st Z6.n i) (outK Z6 Z1n) (fun _ _ => none) Z1n.mkB := by kernel_rfl
theorem Zni (k : Nat) : EOK Try.prog Z6 k Z1n.E Z7O := Zjx (D := Z1n) T_ok (Z2t k) (Zp0 k) (@LOK.by _ _ _ _ Z7O [(Z1.E, ZA), (Z1j.E, Z7N)] (by kernel_rfl) (AllOK.cons (ZnR k) (AllOK.cons (Znx k) AllOK.nil)))
noncomputable def Z7R : Code := (findCut 10 Z1r).getD .skip
theorem ZoG (k : Nat) (i : Z1o.inp.D) : Z1o.lp k i = exec Z6 k Z7R (Z1o.inp.st Z6.n i) (outK Z6 Z1o) (fun _ _ => none) Z1o.mkB := by kernel_rfl
theorem ZmF (k : Nat) : EOK Try.prog Z6 k Z1o.E Z7R := Zjx (D := Z1o) T_ok (Z2t k) (ZoG k) (@LOK.by _ _ _ _ Z7R [(Z1n.E, Z7O)] (by kernel_rfl) (AllOK.cons (Zni k) AllOK.nil))
noncomputable def Z8L : Code := (findCut 6 Z1r).getD .skip
theorem Zqr (k : Nat) (i : Z1D.inp.D) : Z1D.lp k i = exec Z6 k Z8L (Z1D.inp.st Z6.n i) (outK Z6 Z1D) (fun _ _ => none) Z1D.mkB := by kernel_rfl
theorem Zod (k : Nat) : EOK Try.prog Z6 k Z1D.E Z8L := Zjx (D := Z1D) T_ok (Z2t k) (Zqr k) (@LOK.by _ _ _ _ Z8L [(Z1o.E, Z7R)] (by kernel_rfl) (AllOK.cons (ZmF k) AllOK.nil))
theorem Zyq (k : Nat) (x : Tup Z3j.ps) : Z3j.f (k + 1) x = fnK Z3j Z6 Z1r k x := by kernel_rfl
theorem ZxN (x : Tup Z3j.ps) : Z3j.f 0 x = none := by kernel_rfl
theorem ZxL (k : Nat) : LOK Try.prog Z6 k Z1r := LOK.by [(Z1D.E, Z8L)] (by kernel_rfl) (AllOK.cons (Zod k) AllOK.nil)
theorem Zye (k : Nat) : SoundAt Try.prog k 6 Z3j.E := @Ze Try.prog Z3j Z6 6 Try.f6 Z1r (by kernel_rfl) (by kernel_rfl) (by kernel_rfl) Try.func6 (by kernel_rfl) (by kernel_rfl) (by kernel_rfl) T_ok Z2t ZxL ZxN Zyq k
end
end Go.Proofs.Ytgjmhbjdhihgaaa.Vs

set_option linter.unusedVariables false
set_option linter.unusedSimpArgs false
namespace Go.Proofs.Ytgjmhbjdhihgaaa.Vs
open Go.RowKit
theorem ZsA (b : BoardD) (hb : b.2.2.length ≤ 1000) (t : List Int) (ht : t.length ≤ 1000) (s : List FallD) (hs : s.length ≤ 1000) (P : List (List Int)) (v1 : List Int) : ∀ (r pre : List FaultD), (∀ f ∈ r, Z1T b [f] t s = (true, true)) → (pre ++ r).length ≤ 1000000 →
    Ev (fun k => Z5m k b.1 b.2.1 b.2.2 t s P (pre ++ r) v1 ((pre ++ r).length : Int) (pre.length : Int)) (LR.go (b.1, b.2.1, b.2.2, t, s, P, v1))
  | [], pre, hr, hn => by
    refine Ev.succ ?_
    simp only [Z5m, Zz, decide_false, Bool.false_eq_true, if_false]
    exact Ev.some _
  | f :: r, pre, hr, hn => by
    have ih := ZsA b hb t ht s hs P v1 r (pre ++ [f]) (fun g hg => hr g (List.mem_cons_of_mem _ hg)) (by simpa using hn)
    have e := Z8G b [f] t s (by omega) (by simp) (by omega) (by omega)
    rw [hr f (List.mem_cons_self ..)] at e
    refine Ev.succ ?_
    simp only [Z5m, Zs, ZN, decide_true, if_true, Int.toNat_natCast, Zo]
    rw [Zq pre f r (by omega)]
    rw [← Zh] at ih
    refine Ev.bind e ?_
    simp only [Bool.not_true, Bool.false_eq_true, if_false]
    exact ih
theorem ZsT (b : BoardD) (hb : b.2.2.length ≤ 1000) (t : List Int) (ht : t.length ≤ 1000) (s : List FallD) (hs : s.length ≤ 1000) (A : List FaultD) (v1 : List Int) : ∀ (r pre : List (List Int)), (∀ x ∈ r, ∃ m n : Nat, m < A.length ∧ n < A.length ∧ x = [(m : Int), (n : Int)] ∧ Z1T b [List.getD A m (0, 0, 0), List.getD A n (0, 0, 0)] t s = (true, true)) → (pre ++ r).length ≤ 1000000 →
    Ev (fun k => Z5q k b.1 b.2.1 b.2.2 t s A (pre ++ r) v1 ((pre ++ r).length : Int) (pre.length : Int)) (LR.go v1)
  | [], pre, hr, hn => by
    refine Ev.succ ?_
    simp only [Z5q, Zz, decide_false, Bool.false_eq_true, if_false]
    exact Ev.some _
  | x :: r, pre, hr, hn => by
    have ih := ZsT b hb t ht s hs A v1 r (pre ++ [x]) (fun g hg => hr g (List.mem_cons_of_mem _ hg)) (by simpa using hn)
    obtain ⟨m, n, hm, hn2, rfl, he⟩ := hr x (List.mem_cons_self ..)
    have e := Z8G b [List.getD A m (0, 0, 0), List.getD A n (0, 0, 0)] t s (by omega) (by simp) (by omega) (by omega)
    rw [he] at e
    refine Ev.succ ?_
    have g0 : List.getD [(m : Int), (n : Int)] (Int.toNat 0) 0 = (m : Int) := rfl
    have g1 : List.getD [(m : Int), (n : Int)] (Int.toNat 1) 0 = (n : Int) := rfl
    have l0 : (0 : Int) < (([(m : Int), (n : Int)].length : Nat) : Int) := by simp
    have l1 : (1 : Int) < (([(m : Int), (n : Int)].length : Nat) : Int) := by simp
    have p0 : (0 : Int) ≤ (m : Int) := by omega
    have p1 : (0 : Int) ≤ (n : Int) := by omega
    have q0 : (m : Int) < (A.length : Int) := by omega
    have q1 : (n : Int) < (A.length : Int) := by omega
    simp only [Z5q, Zs, ZN, decide_true, if_true, Int.toNat_natCast, Zo, g0, g1, l0, l1, p0, p1, q0, q1]
    rw [Zq pre [(m : Int), (n : Int)] r (by omega)]
    rw [← Zh] at ih
    refine Ev.ite (fun _ => Ev.some _) (fun _ => ?_)
    refine Ev.bind e ?_
    simp only [Bool.not_true, Bool.false_eq_true, if_false]
    exact ih
theorem Zzd (b : BoardD) (hb : b.2.2.length ≤ 1000) (t : List Int) (ht : t.length ≤ 1000) (s : List FallD) (hs : s.length ≤ 1000) (hok : seenOK b t s = true) (v1 : List Int) :
    Ev (fun k => Z4 k b.1 b.2.1 b.2.2 t s (singlesOf b t s) (pairsOf b t s) v1) (LR.go v1) := by
  obtain ⟨hbo, _, _, _, _⟩ := Z4U hok
  have hpc := Z7S hbo
  have hsl := Zvk hbo t s
  have hpl : (pairsOf b t s).length ≤ 72900 := by
    have := Zjn b t s
    unfold Z1Z at this
    rw [hok] at this
    exact this.1
  have e0 := ZsA b hb t ht s hs (pairsOf b t s) v1 (singlesOf b t s) [] (fun f hf => ZDK hok hf) (by simp; omega)
  have e2 := ZsT b hb t ht s hs (possFrom b.2.1 0 b.2.2) v1 (pairsOf b t s) [] (fun x hx => ZEC hok hx) (by simp; omega)
  have i1 := Zn5 b (by omega)
  have i2 := Zn3 b (by omega)
  rw [if_pos hbo] at i1 i2
  simp only [List.nil_append, List.length_nil, Int.natCast_zero] at e0 e2
  simp only [Z4]
  refine Ev.bind e0 (Ev.go (Ev.bind i1 (Ev.bind i2 ?_)))
  simp only [Bool.not_true, Bool.false_eq_true, if_false]
  refine Ev.bind (Zhi _ _ (by omega)) ?_
  simp only [decide_true, Bool.not_true, Bool.false_eq_true, if_false]
  exact Ev.bind e2 (Ev.go (Ev.some _))
theorem ZBH (p0 p1 : List Int) (h0 : p0.length ≤ 9223372036854775807) (b0 : ∀ x ∈ p0, 0 ≤ x ∧ x ≤ 255) (h1 : p1.length ≤ 9223372036854775807) (b1 : ∀ x ∈ p1, 0 ≤ x ∧ x ≤ 255) : Ev (fun k => ZfF k p0 p1) true := by
 have c0 : Cur p0 0 6000 := ⟨b0, h0, by omega, by omega⟩
 have c1 : Cur p1 0 6000 := ⟨b1, h1, by omega, by omega⟩
 refine Ev.succ ?_
 simp only [ZfF]
 obtain ⟨v, hv⟩ := ZDg p0 p1
 refine Ev.bind hv (Ev.ite (fun _ => Ev.some _) (fun _ => ?_))
 obtain ⟨⟨b, t, s⟩, e0, bl, tl, sl⟩ := Zsc p0 c0
 simp only at bl tl sl
 refine Ev.bind e0 (Ev.bind (ZqE b t s (by omega) (by omega) (by omega)) (Ev.bind (ZqF b t s (by omega) (by omega) (by omega)) (Ev.bind (a := true) ?_ (Ev.some _))))
 simp only [Zcg]
 refine Ev.bind (ZuN b t s (by omega) (by omega) (by omega)) (Ev.bind (ZtT b t s (by omega) (by omega) (by omega)) (Ev.bind (ZsE b t s (by omega) (by omega) (by omega)) (Ev.bind (Ztd b t s (by omega) (by omega) (by omega)) (Ev.bind (a := true) ?_ (Ev.some _)))))
 simp only [ZbH]
 refine Ev.bind (ZsD b t s (by omega) (by omega) (by omega)) (Ev.bind (Zs0 b t s (by omega) (by omega) (by omega)) ?_)
 simp only [beq_self_eq_true, Bool.not_true, Bool.false_eq_true, if_false]
 have sl1 : (Z2T b t s).1.length ≤ 1000 := by
  unfold Z2T
  cases hok : seenOK b t s with
  | false => simp
  | true => have := Zvk (Z4U hok).1 t s; simp only [if_true]; omega
 have pl1 := Zjn b t s
 have ul1 := Zuz b t s
 refine Ev.bind (Zhi _ _ (by omega)) ?_
 simp only [decide_true, Bool.not_true, Bool.false_eq_true, if_false]
 refine Ev.bind (ZwV _ _ (by omega) (fun z hz => by
  have hsz := pl1.2.1
  have : ∀ {l : List (List Int)}, z ∈ l → (z.length : Int) ≤ szRows l := by
   intro l
   induction l with
   | nil => intro h; cases h
   | cons y r ih =>
    intro h
    have := ZpL r
    simp only [szRows]
    rcases List.mem_cons.1 h with rfl | h
    ·omega
    ·have := ih h; omega
  have := this hz
  omega)) ?_
 simp only [decide_true, ne_eq, not_true_eq_false, decide_false, Bool.not_true, Bool.false_eq_true, if_false]
 refine Ev.bind (Zl9 _ _ (by omega)) ?_
 have s1 : (Z2T b t s).2 = seenOK b t s := by unfold Z2T; cases seenOK b t s <;> rfl
 have s2 : (Z1Z b t s).2 = seenOK b t s := by unfold Z1Z; cases seenOK b t s <;> rfl
 have s3 : (Z3J b t s).2 = seenOK b t s := by unfold Z3J; cases seenOK b t s <;> rfl
 simp only [decide_true, s1, s2, s3, beq_self_eq_true, Bool.not_true, Bool.false_eq_true, if_false]
 have c37 : Ev (fun k => Z5V k p1) true := by
  obtain ⟨⟨u, l, x, y⟩, e1, ul, ll, xl, yl⟩ := Zt0 p1 c1
  simp only at ul ll xl yl
  simp only [Z5V]
  refine Ev.bind e1 (Ev.bind (Z8G u l x y (by omega) (by omega) (by omega) (by omega)) (Ev.bind (ZqS u l x y (by omega) (by omega) (by omega) (by omega)) (Ev.bind (a := true) ?_ (Ev.some _))))
  simp only [ZbJ, beq_self_eq_true, if_true]
  exact Ev.some _
 cases hok : seenOK b t s with
 | false =>
  have r3 : Z3I b t s = (0, false) := by unfold Z3I; rw [hok]; rfl
  simp only [r3, Bool.false_eq_true, if_false]
  refine Ev.bind (a := true) ?_ (Ev.some _)
  simp only [Z4j, Bool.false_eq_true, if_false]
  exact Ev.bind c37 (Ev.some _)
 | true =>
  have tail : Ev (fun k => Option.bind (Z4 k b.1 b.2.1 b.2.2 t s (singlesOf b t s) (pairsOf b t s) p1) fun z => LR.on z (fun y => some (LR.go y)) fun r => some (LR.ret r)) (LR.go p1 : LR (List Int) Bool) :=
   Ev.bind (Zzd b (by omega) t (by omega) s (by omega) hok p1) (Ev.go (Ev.some _))
  have r1 : (Z2T b t s).1 = singlesOf b t s := by unfold Z2T; rw [hok]; rfl
  have r2 : (Z1Z b t s).1 = pairsOf b t s := by unfold Z1Z; rw [hok]; rfl
  have r4 : (Z3J b t s).1 = diffsFrom 0 (endsOf b [] t) s := by unfold Z3J; rw [hok]; rfl
  have hlen : s.length = (endsOf b [] t).length := by rw [Z6w]; exact (Z4U hok).2.2.2.2
  have hd := Zxn 0 (endsOf b [] t) s hlen
  have r3 : Z3I b t s = if endsOf b [] t = s then (0, true) else if ((singlesOf b t s).length : Int) > 0 then (1, true) else if ((pairsOf b t s).length : Int) > 0 then (2, true) else (0, false) := by unfold Z3I; rw [if_pos hok]
  have mid : Ev (fun k => Z4j k b.1 b.2.1 b.2.2 t s (singlesOf b t s) (pairsOf b t s) (diffsFrom 0 (endsOf b [] t) s) p1 true (Z3I b t s).2 (Z3I b t s).1) true := by
   have ex := Z8G b [] t s (by omega) (by simp) (by omega) (by omega)
   have rx : Z1T b [] t s = (decide (endsOf b [] t = s), true) := by
    unfold Z1T
    rw [hok]
    rfl
   rw [rx] at ex
   simp only [Z4j, if_true]
   refine Ev.bind ex (Ev.bind (a := LR.go p1) ?_ (Ev.go (Ev.bind c37 (Ev.some _))))
   simp only [ZbR]
   have n01 : ¬ ((0 : Int) = 1) := by decide
   have n02 : ¬ ((0 : Int) = 2) := by decide
   have n10 : ¬ ((1 : Int) = 0) := by decide
   have n12 : ¬ ((1 : Int) = 2) := by decide
   have n20 : ¬ ((2 : Int) = 0) := by decide
   have n21 : ¬ ((2 : Int) = 1) := by decide
   have bft : (false == true) = false := rfl
   have btf : (true == false) = false := rfl
   by_cases hn : endsOf b [] t = s
   ·have hz : ((diffsFrom 0 (endsOf b [] t) s).length : Int) = 0 := by have := hd.2 hn; omega
    have hz' : ((diffsFrom 0 s s).length : Int) = 0 := by rw [hn] at hz; exact hz
    rw [if_pos hn] at r3
    simp only [r3, hz, hn, hz', decide_true, beq_self_eq_true, Bool.not_true, Bool.false_eq_true, if_true, if_false, n01, n02, decide_false]
    first | exact tail | skip
   ·have hz : ¬ ((diffsFrom 0 (endsOf b [] t) s).length : Int) = 0 := fun h => hn (hd.1 (by omega))
    rw [if_neg hn] at r3
    by_cases hs : ((singlesOf b t s).length : Int) > 0
    ·have hs0 : ¬ ((singlesOf b t s).length : Int) = 0 := by omega
     rw [if_pos hs] at r3
     simp only [r3, hz, hn, hs, hs0, decide_true, decide_false, beq_self_eq_true, Bool.not_true, Bool.not_false, Bool.false_eq_true, if_true, if_false, n10, n12, bft, btf]
     first | exact tail | skip
    ·have hs0 : ((singlesOf b t s).length : Int) = 0 := by omega
     rw [if_neg hs] at r3
     by_cases hp : ((pairsOf b t s).length : Int) > 0
     ·rw [if_pos hp] at r3
      have z0 : ¬ ((0 : Int) > 0) := by decide
      simp only [r3, hz, hn, hs0, hp, z0, decide_true, decide_false, beq_self_eq_true, Bool.not_true, Bool.not_false, Bool.false_eq_true, if_true, if_false, n20, n21, bft, btf]
      first | exact tail | skip
     ·rw [if_neg hp] at r3
      have z0 : ¬ ((0 : Int) > 0) := by decide
      simp only [r3, hz, hn, hs0, hp, z0, decide_true, decide_false, beq_self_eq_true, Bool.not_true, Bool.not_false, Bool.false_eq_true, if_true, if_false, bft, btf]
      first | exact tail | skip
  simp only [r1, r2, r4, Bool.not_true, Bool.false_eq_true, if_false]
  exact Ev.ite (fun _ => Ev.bind mid (Ev.some _)) (fun _ => Ev.bind mid (Ev.some _))
end Go.Proofs.Ytgjmhbjdhihgaaa.Vs
