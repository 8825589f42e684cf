/- The proof, part 11. -/
import Derived.Test.Ytgjmhbjdhihgaaaqgm9
set_option linter.unusedVariables false
set_option linter.unusedSimpArgs false
namespace Go.Proofs.Ytgjmhbjdhihgaaa.Vs
open Go.RowKit
def casesL (b : BoardD) (T : List (List Int)) : List (List (List FallD)) := T.map (endsOf b []) :: (possFrom b.2.1 0 b.2.2).map fun f => T.map (endsOf b [f])
theorem Zn8 (b : BoardD) (hb : boardOK b = true) (T : List (List Int)) (hT : ∀ t ∈ T, t.length ≤ 1000 ∧ colsOK b t) (hn : T.length ≤ 1000) : ∀ (r pre : List FaultD) (acc : List (List (List FallD))), (∀ f ∈ r, faultsOK b (-1) [f] = true) → (pre ++ r).length ≤ 1000 → acc.length ≤ pre.length + 1 → Ev (fun k => Z7a k b.1 b.2.1 b.2.2 acc (pre ++ r) T ((pre ++ r).length : Int) (pre.length : Int)) (acc ++ r.map fun f => T.map (endsOf b [f]))
 | [], pre, acc, hf, hl, ha => by
  refine Ev.succ ?_
  simp only [Z7a, Zo, decide_false, Bool.false_eq_true, if_false]
  exact Ev.of (by simp)
 | f :: r, pre, acc, hf, hl, ha => by
  have ih := Zn8 b hb T hT hn r (pre ++ [f]) (acc ++ [T.map (endsOf b [f])]) (fun g hg => hf g (List.mem_cons_of_mem _ hg)) (by simpa using hl) (by simp; omega)
  rw [← Z5] at ih
  have hal : acc.length + 1 ≤ 140737488355328 / 24 := by simp at hl; omega
  refine Ev.succ ?_
  simp only [Z7a, Ze, Zq, decide_true, if_true, Int.toNat_natCast, Z9, List.length_singleton, hal]
  rw [Zi pre f r (by omega)]
  refine Ev.bind (ZaS b hb [f] (hf f (List.mem_cons_self ..)) (by simp) T hT hn) ?_
  refine ih.congr ?_
  simp
theorem ZqA (b : BoardD) (hb : boardOK b = true) (T : List (List Int)) (hT : ∀ t ∈ T, t.length ≤ 1000 ∧ colsOK b t) (hn : T.length ≤ 1000) : Ev (fun k => Zc5 k b T) (casesL b T) := by
 have hp := ZeW hb
 refine Ev.succ ?_
 simp only [Zc5]
 refine Ev.bind (ZaS b hb [] rfl (by simp) T hT hn) (Ev.bind (ZfJ b hb) ?_)
 exact Ev.bind (Zn8 b hb T hT hn (possFrom b.2.1 0 b.2.2) [] [T.map (endsOf b [])] (fun f hf => ZAO hb hf) (by simp; omega) (by simp)) (Ev.some _)
theorem ZlG (b : BoardD) (hb : boardOK b = true) (T : List (List Int)) (hT : ∀ t ∈ T, t.length ≤ 1000 ∧ colsOK b t) (hn : T.length ≤ 1000) : ∀ (r pre : List FaultD) (acc : List (List (List FallD))), (∀ f ∈ r, faultsOK b (-1) [f] = true) → (pre ++ r).length ≤ 1000 → acc.length ≤ pre.length + 1 → Ev (fun k => Z6z k b.1 b.2.1 b.2.2 acc (pre ++ r) T ((pre ++ r).length : Int) (pre.length : Int)) (acc ++ r.map fun f => T.map (endsOf b [f]))
 | [], pre, acc, hf, hl, ha => by
  refine Ev.succ ?_
  simp only [Z6z, Zo, decide_false, Bool.false_eq_true, if_false]
  exact Ev.of (by simp)
 | f :: r, pre, acc, hf, hl, ha => by
  have ih := ZlG b hb T hT hn r (pre ++ [f]) (acc ++ [T.map (endsOf b [f])]) (fun g hg => hf g (List.mem_cons_of_mem _ hg)) (by simpa using hl) (by simp; omega)
  rw [← Z5] at ih
  have hal : acc.length + 1 ≤ 140737488355328 / 24 := by simp at hl; omega
  refine Ev.succ ?_
  simp only [Z6z, Ze, Zq, decide_true, if_true, Int.toNat_natCast, Z9, List.length_singleton, hal]
  rw [Zi pre f r (by omega)]
  refine Ev.bind (Zb2 b hb [f] (hf f (List.mem_cons_self ..)) (by simp) T hT hn) ?_
  refine ih.congr ?_
  simp
theorem Zie (b : BoardD) (hb : boardOK b = true) (T : List (List Int)) (hT : ∀ t ∈ T, t.length ≤ 1000 ∧ colsOK b t) (hn : T.length ≤ 1000) : Ev (fun k => Z8h k b T) (casesL b T) := by
 have hp := ZeW hb
 refine Ev.succ ?_
 simp only [Z8h]
 refine Ev.bind (Zb2 b hb [] rfl (by simp) T hT hn) (Ev.bind (ZqP b hb) ?_)
 exact Ev.bind (ZlG b hb T hT hn (possFrom b.2.1 0 b.2.2) [] [T.map (endsOf b [])] (fun f hf => ZAO hb hf) (by simp; omega) (by simp)) (Ev.some _)
structure Tab (C : List (List (List FallD))) (n : Nat) (L : Nat → Nat) : Prop where
 len : C.length ≤ 1000
 pos : 0 < C.length
 row : ∀ k, k < C.length → (List.getD C k []).length = n
 cell : ∀ k t, k < C.length → t < n → (List.getD (List.getD C k []) t []).length = L t
 small : ∀ t, t < n → L t ≤ 1000
theorem Zco {b : BoardD} (hb : boardOK b = true) {T : List (List Int)} (hT : ∀ t ∈ T, t.length ≤ 1000 ∧ colsOK b t) : Tab (casesL b T) T.length (fun t => (List.getD T t []).length) := by
 have hp := ZeW hb
 have hrow : ∀ row ∈ casesL b T, ∃ l, row = T.map (endsOf b l) := by
  intro row hr
  rcases List.mem_cons.1 hr with rfl | hr
  ·exact ⟨[], rfl⟩
  ·obtain ⟨f, _, rfl⟩ := List.mem_map.1 hr
   exact ⟨[f], rfl⟩
 have get : ∀ k, k < (casesL b T).length → ∃ l, List.getD (casesL b T) k [] = T.map (endsOf b l) := by
  intro k hk
  have : List.getD (casesL b T) k [] ∈ casesL b T := by simp [List.getD, List.getElem?_eq_getElem hk]
  exact hrow _ this
 refine ⟨by simp [casesL]; omega, by simp [casesL], fun k hk => ?_, fun k t hk ht => ?_, fun t ht => ?_⟩
 ·obtain ⟨l, hl⟩ := get k hk
  rw [hl, List.length_map]
 ·obtain ⟨l, hl⟩ := get k hk
  rw [hl]
  simp only [List.getD, List.getElem?_map, List.getElem?_eq_getElem ht, Option.map_some, Option.getD_some]
  exact Z7C _ _ _
 ·have : List.getD T t [] ∈ T := by simp [List.getD, List.getElem?_eq_getElem ht]
  exact (hT _ this).1
def cellC (C : List (List (List FallD))) (t k : Nat) : List FallD := List.getD (List.getD C k []) t []
def keyC (C : List (List (List FallD))) (ch : List Int) (k : Nat) : List (List FallD) := ch.map fun t => cellC C t.toNat k
theorem ZEL {C : List (List (List FallD))} {ch : List Int} {i j : Nat} : keyC C ch i = keyC C ch j ↔ ∀ t ∈ ch, cellC C t.toNat i = cellC C t.toNat j := by
 unfold keyC
 rw [List.map_inj_left]
def chOK (ch : List Int) (n : Nat) : Prop := ∀ t ∈ ch, 0 ≤ t ∧ t < (n : Int)
theorem Zoc {C : List (List (List FallD))} {n : Nat} {L : Nat → Nat} (hC : Tab C n L) (i j : Nat) (hi : i < C.length) (hj : j < C.length) : ∀ (r pre : List Int), chOK r n → (pre ++ r).length ≤ 1000 → Ev (fun k => Z7j k (List.getD C i []) (List.getD C j []) (pre ++ r) ((pre ++ r).length : Int) (pre.length : Int)) (if keyC C r i = keyC C r j then LR.go () else LR.ret false)
 | [], pre, hr, hl => by
  refine Ev.succ ?_
  simp only [Z7j, Zo, decide_false, Bool.false_eq_true, if_false, keyC, List.map_nil, if_true]
  exact Ev.some _
 | t :: r, pre, hr, hl => by
  obtain ⟨t0, tn⟩ := hr t (List.mem_cons_self ..)
  have ih := Zoc hC i j hi hj r (pre ++ [t]) (fun x hx => hr x (List.mem_cons_of_mem _ hx)) (by simpa using hl)
  have h1 : t < ((List.getD C i []).length : Int) := by rw [hC.row i hi]; exact tn
  have h2 : t < ((List.getD C j []).length : Int) := by rw [hC.row j hj]; exact tn
  have c1 := hC.cell i t.toNat hi (by omega)
  have c3 := hC.small t.toNat (by omega)
  refine Ev.succ ?_
  simp only [Z7j, Ze, Zq, decide_true, if_true, Int.toNat_natCast, Z9, t0, h1, h2]
  rw [Zi pre t r (by omega)]
  rw [← Z5] at ih
  refine Ev.bind (Z4k _ _ (by omega)) (Ev.ite (fun h => ?_) (fun h => ?_))
  ·have h : ¬ cellC C t.toNat i = cellC C t.toNat j := nd h
   rw [if_neg (fun hh => h (ZEL.1 hh t (List.mem_cons_self ..)))]
   exact Ev.some _
  ·have h : cellC C t.toNat i = cellC C t.toNat j := yd h
   refine ih.congr ?_
   have hk : keyC C (t :: r) i = keyC C (t :: r) j ↔ keyC C r i = keyC C r j := by simp only [keyC, List.map_cons, h, List.cons.injEq, true_and]
   by_cases h9 : keyC C r i = keyC C r j
   ·rw [if_pos h9, if_pos (hk.2 h9)]
   ·rw [if_neg h9, if_neg (fun h => h9 (hk.1 h))]
theorem ZrB {C : List (List (List FallD))} {n : Nat} {L : Nat → Nat} (hC : Tab C n L) (i j : Nat) (hi : i < C.length) (hj : j < C.length) (ch : List Int) (hch : chOK ch n) (hl : ch.length ≤ 1000) : Ev (fun k => Zc0 k (List.getD C i []) (List.getD C j []) ch) (decide (keyC C ch i = keyC C ch j)) := by
 refine Ev.succ ?_
 simp only [Zc0]
 refine Ev.bind (Zoc hC i j hi hj ch [] hch (by simpa using hl)) ?_
 by_cases h : keyC C ch i = keyC C ch j
 ·rw [if_pos h, decide_eq_true h]; exact Ev.go (Ev.some _)
 ·rw [if_neg h, decide_eq_false h]; exact Ev.ret (Ev.some _)
def rangeI (n : Nat) : List Int := (List.range n).map fun (j : Nat) => (j : Int)
theorem Zp2 (n : Nat) : chOK (rangeI n) n := fun t ht => by
 obtain ⟨j, hj, rfl⟩ := List.mem_map.1 ht
 have := List.mem_range.1 hj
 omega
theorem Zcs (n : Nat) : (rangeI n).length = n := by simp [rangeI]
theorem ZAD (n : Nat) : rangeI (n + 1) = rangeI n ++ [(n : Int)] := by simp [rangeI, List.range_succ]
theorem Zs2 (n : Nat) (hn : n ≤ 1000) : ∀ (d i : Nat), i + d = n → Ev (fun k => Z9O k (rangeI i) (n : Int) (i : Int)) (rangeI n)
 | 0, i, h => by
  obtain rfl : i = n := by omega
  refine Ev.succ ?_
  simp only [Z9O, Int.lt_irrefl, decide_false, Bool.false_eq_true, if_false]
  exact Ev.some _
 | d + 1, i, h => by
  have h1 : (i : Int) < n := by omega
  have h2 : wrap64 ((i : Int) + 1) = ((i + 1 : Nat) : Int) := by rw [w64 (by omega) (by omega)]; omega
  have hal : i + 1 ≤ 140737488355328 / 8 := by omega
  refine Ev.succ ?_
  simp only [Z9O, h1, decide_true, if_true, List.length_singleton, Zcs, hal, h2]
  rw [← ZAD]
  exact Zs2 n hn d (i + 1) (by omega)
theorem ZxY (T : List (List Int)) (hn : T.length ≤ 1000) : Ev (fun k => Zey k T) (rangeI T.length) := by
 refine Ev.succ ?_
 simp only [Zey]
 exact Ev.bind (Zs2 T.length hn T.length 0 (by omega)) (Ev.some _)
theorem ZjO (n : Nat) (hn : n ≤ 1000) : ∀ (d i : Nat), i + d = n → Ev (fun k => Z5F k (rangeI i) (n : Int) (i : Int)) (rangeI n)
 | 0, i, h => by
  obtain rfl : i = n := by omega
  refine Ev.succ ?_
  simp only [Z5F, Int.lt_irrefl, decide_false, Bool.false_eq_true, if_false]
  exact Ev.some _
 | d + 1, i, h => by
  have h1 : (i : Int) < n := by omega
  have h2 : wrap64 ((i : Int) + 1) = ((i + 1 : Nat) : Int) := by rw [w64 (by omega) (by omega)]; omega
  have hal : i + 1 ≤ 140737488355328 / 8 := by omega
  refine Ev.succ ?_
  simp only [Z5F, h1, decide_true, if_true, List.length_singleton, Zcs, hal, h2]
  rw [← ZAD]
  exact ZjO n hn d (i + 1) (by omega)
theorem Znh (T : List (List Int)) (hn : T.length ≤ 1000) : Ev (fun k => Za5 k T) (rangeI T.length) := by
 refine Ev.succ ?_
 simp only [Za5]
 exact Ev.bind (ZjO T.length hn T.length 0 (by omega)) (Ev.some _)
theorem ZdD {C : List (List (List FallD))} {n : Nat} {L : Nat → Nat} (hC : Tab C n L) (ch : List Int) (hch : chOK ch n) (hl : ch.length ≤ 1000) : ∀ (d i : Nat) (acc : List Int), i + 1 + d = C.length → acc.length ≤ i → Ev (fun k => Z3d k acc C ch ((i + 1 : Nat) : Int)) (acc ++ idxFrom (fun j => !decide (keyC C ch 0 = keyC C ch (j + 1))) i d)
 | 0, i, acc, h, ha => by
  have : ¬ ((i + 1 : Nat) : Int) < (C.length : Int) := by omega
  refine Ev.succ ?_
  simp only [Z3d, this, decide_false, Bool.false_eq_true, if_false, idxFrom, List.append_nil]
  exact Ev.some _
 | d + 1, i, acc, h, ha => by
  have hcl := hC.len
  have h1 : ((i + 1 : Nat) : Int) < (C.length : Int) := by omega
  have h0 : (0 : Int) < (C.length : Int) := by omega
  have h2 : (0 : Int) ≤ ((i + 1 : Nat) : Int) := by omega
  have h4 : wrap64 (((i + 1 : Nat) : Int) + 1) = ((i + 1 + 1 : Nat) : Int) := by rw [w64 (by omega) (by omega)]; omega
  have h5 : wrap64 (((i + 1 : Nat) : Int) - 1) = (i : Int) := by rw [w64 (by omega) (by omega)]; omega
  have hal : acc.length + 1 ≤ 140737488355328 / 8 := by omega
  refine Ev.succ ?_
  simp only [Z3d, h1, h0, h2, h4, h5, decide_true, if_true, List.length_singleton, hal, Int.toNat_natCast, Int.toNat_zero, idxFrom]
  refine Ev.bind (ZrB hC 0 (i + 1) (by omega) (by omega) ch hch hl) (Ev.ite (fun hh => ?_) (fun hh => ?_))
  ·refine (ZdD hC ch hch hl d (i + 1) (acc ++ [(i : Int)]) (by omega) (by simp; omega)).congr ?_
   rw [if_pos hh]; simp
  ·refine (ZdD hC ch hch hl d (i + 1) acc (by omega) (by omega)).congr ?_
   rw [if_neg hh]
theorem Zz6 {C : List (List (List FallD))} {n : Nat} {L : Nat → Nat} (hC : Tab C n L) (ch : List Int) (hch : chOK ch n) (hl : ch.length ≤ 1000) : Ev (fun k => ZbJ k C ch) (idxFrom (fun j => !decide (keyC C ch 0 = keyC C ch (j + 1))) 0 (C.length - 1)) := by
 have hp := hC.pos
 refine Ev.succ ?_
 simp only [ZbJ]
 exact Ev.bind (ZdD hC ch hch hl (C.length - 1) 0 [] (by omega) (by simp)) (Ev.some _)
def markC (C : List (List (List FallD))) (t k : Nat) : Int := (fstOf (cellC C t) k : Int)
theorem Znu {C : List (List (List FallD))} {n : Nat} {L : Nat → Nat} (hC : Tab C n L) (o2 : List (List Int)) (o3 : List Int) (T : List (List Int)) (i t : Nat) (hi : i < C.length) (ht : t < n) (v16 v17 v23 v24 : Int) : ∀ (d j : Nat), j + d = i →
    Ev (fun k => Z7f k C o2 o3 T (i : Int) (i : Int) (t : Int) (j : Int) v16 v17 v23 v24) (C, o2, o3, T, (i : Int), (i : Int), (fstR (cellC C t) i d j : Int), v16, v17, v23, v24)
  | 0, j, h => by
    obtain rfl : j = i := by omega
    refine Ev.succ ?_
    simp only [Z7f, Int.lt_irrefl, decide_false, Bool.false_eq_true, if_false, fstR]
    exact Ev.some _
  | d + 1, j, h => by
    have hcl := hC.len
    have h1 : (j : Int) < i := by omega
    have h2 : (t : Int) < ((List.getD C i []).length : Int) := by rw [hC.row i hi]; omega
    have h3 : (j : Int) < (C.length : Int) := by omega
    have h4 : (t : Int) < ((List.getD C j []).length : Int) := by rw [hC.row j (by omega)]; omega
    have h5 : wrap64 ((j : Int) + 1) = ((j + 1 : Nat) : Int) := by rw [w64 (by omega) (by omega)]; omega
    have c1 := hC.cell i t hi ht
    have c2 := hC.cell j t (by omega) ht
    have c3 := hC.small t ht
    have hn := ZfT 0 (cellC C t i) (cellC C t j) (by unfold cellC; omega)
    have ih := Znu hC o2 o3 T i t hi ht v16 v17 v23 v24 d (j + 1) (by omega)
    refine Ev.succ ?_
    simp only [Z7f, h1, h2, h3, h4, h5, decide_true, if_true, Int.natCast_nonneg, Int.toNat_natCast, fstR]
    refine Ev.bind (Zkz _ _ (by omega) (by omega)) (Ev.ite (fun hh => ?_) (fun hh => ?_))
    · have hne : ¬ cellC C t j = cellC C t i := fun hq => by
        have : ixOf (diffIx 0 (cellC C t i) (cellC C t j)) ≥ 0 := of_decide_eq_true hh
        rw [hn.2 hq.symm] at this
        simp [ixOf] at this
      rw [if_neg hne]
      exact ih
    · have heq : cellC C t j = cellC C t i := by
        have : ixOf (diffIx 0 (cellC C t i) (cellC C t j)) < 0 := by
          have : ¬ ixOf (diffIx 0 (cellC C t i) (cellC C t j)) ≥ 0 := fun hq => hh (decide_eq_true hq)
          omega
        exact (hn.1 ((ZH6 _).1 this)).symm
      rw [if_pos heq]
      exact Ev.some _
def marksRow (C : List (List (List FallD))) (i n : Nat) : List Int := (List.range n).map fun t => markC C t i
theorem Zig (C : List (List (List FallD))) (i n : Nat) : (marksRow C i n).length = n := by simp [marksRow]
theorem ZG9 (C : List (List (List FallD))) (i n : Nat) : marksRow C i (n + 1) = marksRow C i n ++ [markC C n i] := by simp [marksRow, List.range_succ]
theorem ZnI {C : List (List (List FallD))} {n : Nat} {L : Nat → Nat} (hC : Tab C n L) (hn : n ≤ 1000) (o2 : List (List Int)) (T : List (List Int)) (i : Nat) (hi : i < C.length) (v16 v17 : Int) : ∀ (d t : Nat), t + d = n →
    Ev (fun k => Z79 k C o2 (marksRow C i t) T (i : Int) (i : Int) v16 v17 (n : Int) (t : Int)) (C, o2, marksRow C i n, T, v16, v17)
  | 0, t, h => by
    obtain rfl : t = n := by omega
    refine Ev.succ ?_
    simp only [Z79, Int.lt_irrefl, decide_false, Bool.false_eq_true, if_false]
    exact Ev.some _
  | d + 1, t, h => by
    have h1 : (t : Int) < n := by omega
    have h5 : wrap64 ((t : Int) + 1) = ((t + 1 : Nat) : Int) := by rw [w64 (by omega) (by omega)]; omega
    have hal : t + 1 ≤ 140737488355328 / 8 := by omega
    have ih := ZnI hC hn o2 T i hi v16 v17 d (t + 1) (by omega)
    refine Ev.succ ?_
    simp only [Z79, h1, decide_true, if_true]
    refine Ev.bind (Znu hC o2 (marksRow C i t) T i t hi (by omega) v16 v17 (n : Int) (t : Int) i 0 (by omega)) ?_
    simp only [List.length_singleton, Zig, hal, if_true, h5]
    rw [ZG9] at ih
    exact ih
def marksM (C : List (List (List FallD))) (n m : Nat) : List (List Int) := (List.range m).map fun i => marksRow C i n
theorem ZeQ (C : List (List (List FallD))) (n m : Nat) : (marksM C n m).length = m := by simp [marksM]
theorem ZIf (C : List (List (List FallD))) (n m : Nat) : marksM C n (m + 1) = marksM C n m ++ [marksRow C m n] := by simp [marksM, List.range_succ]
theorem Ztu (C : List (List (List FallD))) (n m i : Nat) (hi : i < m) : List.getD (marksM C n m) i [] = marksRow C i n := by simp [marksM, List.getD, List.getElem?_map, List.getElem?_range hi]
theorem Zom (C : List (List (List FallD))) (n i t : Nat) (ht : t < n) : List.getD (marksRow C i n) t 0 = markC C t i := by simp [marksRow, List.getD, List.getElem?_map, List.getElem?_range ht]
theorem ZmK {C : List (List (List FallD))} {n : Nat} {L : Nat → Nat} (hC : Tab C n L) (hn : n ≤ 1000) (T : List (List Int)) (hT : T.length = n) : ∀ (d i : Nat), i + d = C.length →
    Ev (fun k => Z76 k C (marksM C n i) T (C.length : Int) (i : Int)) (marksM C n C.length)
  | 0, i, h => by
    obtain rfl : i = C.length := by omega
    refine Ev.succ ?_
    simp only [Z76, Int.lt_irrefl, decide_false, Bool.false_eq_true, if_false]
    exact Ev.some _
  | d + 1, i, h => by
    have hcl := hC.len
    have h1 : (i : Int) < (C.length : Int) := by omega
    have h5 : wrap64 ((i : Int) + 1) = ((i + 1 : Nat) : Int) := by rw [w64 (by omega) (by omega)]; omega
    have hal : i + 1 ≤ 140737488355328 / 24 := by omega
    have ih := ZmK hC hn T hT d (i + 1) (by omega)
    refine Ev.succ ?_
    simp only [Z76, h1, decide_true, if_true, Int.natCast_nonneg, hT]
    refine Ev.bind (ZnI hC hn (marksM C n i) T i (by omega) (C.length : Int) (i : Int) n 0 (by omega)) ?_
    simp only [List.length_singleton, ZeQ, hal, if_true, h5]
    rw [ZIf] at ih
    exact ih
theorem Zs3 (b : BoardD) (hb : boardOK b = true) (T : List (List Int)) (hT : ∀ t ∈ T, t.length ≤ 1000 ∧ colsOK b t) (hn : T.length ≤ 1000) : Ev (fun k => ZbZ k b T) (marksM (casesL b T) T.length (casesL b T).length) := by
 refine Ev.succ ?_
 simp only [ZbZ]
 exact Ev.bind (ZqA b hb T hT hn) (Ev.bind (ZmK (Zco hb hT) hn T rfl (casesL b T).length 0 (by omega)) (Ev.some _))
theorem ZJs {C : List (List (List FallD))} {t k : Nat} : markC C t k ≠ 0 ↔ ¬ cellC C t 0 = cellC C t k := by
 unfold markC
 have h := Zel (cellC C t) (f := 0) (j := k)
 have h0 : isFirst (cellC C t) 0 = true := by simp [isFirst]
 constructor
 ·intro h1 h2
  exact h1 (by rw [h.2 ⟨h0, h2.symm⟩]; rfl)
 ·intro h1 h2
  have h3 : fstOf (cellC C t) k = 0 := by omega
  exact h1 (h.1 h3).2.symm
theorem ZKb {C : List (List (List FallD))} {t i j : Nat} : markC C t i = markC C t j ↔ cellC C t i = cellC C t j := by
 unfold markC
 have hi := (Zel (cellC C t) (f := fstOf (cellC C t) i) (j := i)).1 rfl
 have hj := (Zel (cellC C t) (f := fstOf (cellC C t) j) (j := j)).1 rfl
 constructor
 ·intro h
  have h3 : fstOf (cellC C t) i = fstOf (cellC C t) j := by omega
  rw [hi.2, h3, ← hj.2]
 ·intro h
  have h3 : fstOf (cellC C t) i = fstOf (cellC C t) j := (Zel (cellC C t)).2 ⟨hj.1, h.trans hj.2⟩
  rw [h3]
def detP (C : List (List (List FallD))) (ch : List Int) (i : Nat) (pre : List Int) (j : Nat) : Bool := (decide (j + 1 < i) && !decide (keyC C ch 0 = keyC C ch (j + 1))) || (decide (j + 1 = i) && !decide (keyC C pre 0 = keyC C pre i))
theorem ZiY {C : List (List (List FallD))} {n : Nat} {L : Nat → Nat} (hC : Tab C n L) (ch : List Int) (i : Nat) (hi : i < C.length) (M : List (List Int)) (v11 v12 : Int) : ∀ (r pre : List Int), chOK r n → (pre ++ r).length ≤ 1000 →
    Ev (fun k => Z3b k (idxFrom (detP C ch i pre) 0 (C.length - 1)) ch (i : Int) (marksRow C i n) M v11 v12 (pre ++ r) ((pre ++ r).length : Int) (pre.length : Int)) (idxFrom (detP C ch i (pre ++ r)) 0 (C.length - 1), ch, M, v11, v12)
  | [], pre, hr, hl => by
    refine Ev.succ ?_
    simp only [Z3b, Zo, Int.lt_irrefl, decide_false, Bool.false_eq_true, if_false, List.append_nil]
    exact Ev.some _
  | t :: r, pre, hr, hl => by
    have hcl := hC.len
    obtain ⟨t0, tn⟩ := hr t (List.mem_cons_self ..)
    have ih := ZiY hC ch i hi M v11 v12 r (pre ++ [t]) (fun x hx => hr x (List.mem_cons_of_mem _ hx)) (by simpa using hl)
    have h1 : t < ((marksRow C i n).length : Int) := by rw [Zig]; exact tn
    have hg := Zom C n i t.toNat (by omega)
    have hz := ZJs (C := C) (t := t.toNat) (k := i)
    have hlen := Zq9 (detP C ch i pre) (C.length - 1) 0
    refine Ev.succ ?_
    simp only [Z3b, Ze, Zq, decide_true, if_true, Int.toNat_natCast, Z9, t0, h1, hg]
    rw [Zi pre t r (by omega)]
    rw [← Z5] at ih
    have hk : ∀ j, keyC C (pre ++ [t]) 0 = keyC C (pre ++ [t]) j ↔ keyC C pre 0 = keyC C pre j ∧ cellC C t.toNat 0 = cellC C t.toNat j := by
      intro j
      rw [ZEL, ZEL]
      constructor
      · intro h2
        exact ⟨fun x hx => h2 x (List.mem_append_left _ hx), h2 t (List.mem_append_right _ (List.mem_singleton.2 rfl))⟩
      · rintro ⟨h2, h3⟩ x hx
        rcases List.mem_append.1 hx with hx | hx
        · exact h2 x hx
        · rw [List.mem_singleton.1 hx]; exact h3
    refine Ev.ite (fun hh => ?_) (fun hh => ?_)
    · have hne := hz.1 (by simpa using hh)
      have hi0 : 0 < i := by
        rcases Nat.eq_zero_or_pos i with h0 | h0
        · subst h0; exact (hne rfl).elim
        · exact h0
      have h5 : wrap64 ((i : Int) - 1) = ((i - 1 : Nat) : Int) := by rw [w64 (by omega) (by omega)]; omega
      have hput : putL (idxFrom (detP C ch i pre) 0 (C.length - 1)) ((i - 1 : Nat) : Int) = idxFrom (detP C ch i (pre ++ [t])) 0 (C.length - 1) := by
        rw [ZHn (detP C ch i pre) (i - 1) (C.length - 1) 0 (by omega) (by omega)]
        refine Z8A _ _ (fun j _ _ => ?_)
        unfold detP
        by_cases hj : j = i - 1
        · subst hj
          have e1 : i - 1 + 1 = i := by omega
          have hn2 : ¬ keyC C (pre ++ [t]) 0 = keyC C (pre ++ [t]) i := fun h2 => hne ((hk i).1 h2).2
          simp [e1, hn2]
        · have e1 : ¬ j + 1 = i := by omega
          have e2 : (j == i - 1) = false := by simp; omega
          simp [e1, e2]
      rw [h5]
      refine Ev.bind (ZH8 _ _ (by omega)) ?_
      rw [hput]
      exact ih
    · have heq : cellC C t.toNat 0 = cellC C t.toNat i := by
        by_cases hc : cellC C t.toNat 0 = cellC C t.toNat i
        · exact hc
        · exact (hh (by simpa using hz.2 hc)).elim
      have hsame : idxFrom (detP C ch i pre) 0 (C.length - 1) = idxFrom (detP C ch i (pre ++ [t])) 0 (C.length - 1) := by
        refine Z8A _ _ (fun j _ _ => ?_)
        unfold detP
        have : (keyC C (pre ++ [t]) 0 = keyC C (pre ++ [t]) i) ↔ (keyC C pre 0 = keyC C pre i) := ⟨fun h2 => ((hk i).1 h2).1, fun h2 => (hk i).2 ⟨h2, heq⟩⟩
        simp only [this]
      rw [hsame]
      exact ih
theorem ZiX {C : List (List (List FallD))} {n : Nat} {L : Nat → Nat} (hC : Tab C n L) (ch : List Int) (hch : chOK ch n) (hl : ch.length ≤ 1000) : ∀ (d i : Nat), i + d = C.length →
    Ev (fun k => Z4J k (idxFrom (detP C ch i []) 0 (C.length - 1)) ch (marksM C n C.length) (C.length : Int) (i : Int)) (idxFrom (fun j => !decide (keyC C ch 0 = keyC C ch (j + 1))) 0 (C.length - 1))
  | 0, i, h => by
    obtain rfl : i = C.length := by omega
    refine Ev.succ ?_
    simp only [Z4J, Int.lt_irrefl, decide_false, Bool.false_eq_true, if_false]
    refine Ev.of ?_
    congr 1
    refine Z8A _ _ (fun j _ hj => ?_)
    unfold detP
    have h1 : j + 1 < C.length := by omega
    have h2 : ¬ j + 1 = C.length := by omega
    simp [h1, h2]
  | d + 1, i, h => by
    have hcl := hC.len
    have h1 : (i : Int) < (C.length : Int) := by omega
    have h2 : (i : Int) < ((marksM C n C.length).length : Int) := by rw [ZeQ]; exact h1
    have h5 : wrap64 ((i : Int) + 1) = ((i + 1 : Nat) : Int) := by rw [w64 (by omega) (by omega)]; omega
    have ih := ZiX hC ch hch hl d (i + 1) (by omega)
    have hstep : idxFrom (detP C ch (i + 1) []) 0 (C.length - 1) = idxFrom (detP C ch i ch) 0 (C.length - 1) := by
      refine Z8A _ _ (fun j _ _ => ?_)
      unfold detP
      by_cases hj : j + 1 = i
      · subst hj
        have e2 : j + 1 < j + 1 + 1 := by omega
        simp [e2, keyC]
      · have e1 : (j + 1 < i + 1) ↔ (j + 1 < i) := by omega
        simp only [hj, e1, decide_false, Bool.false_and, Bool.or_false, keyC, List.map_nil, decide_true, Bool.not_true, Bool.and_false]
    rw [hstep] at ih
    refine Ev.succ ?_
    simp only [Z4J, h1, h2, decide_true, if_true, Int.natCast_nonneg, Int.toNat_natCast, Ztu C n C.length i (by omega)]
    have h8 := ZiY hC ch i (by omega) (marksM C n C.length) (C.length : Int) (i : Int) ch [] hch (by simpa using hl)
    simp only [List.nil_append, List.length_nil, Int.natCast_zero] at h8
    refine Ev.bind h8 ?_
    simp only [h5]
    exact ih
theorem ZyS {C : List (List (List FallD))} {n : Nat} {L : Nat → Nat} (hC : Tab C n L) (ch : List Int) (hch : chOK ch n) (hl : ch.length ≤ 1000) : Ev (fun k => ZbO k (marksM C n C.length) ch) (idxFrom (fun j => !decide (keyC C ch 0 = keyC C ch (j + 1))) 0 (C.length - 1)) := by
 have h0 : idxFrom (detP C ch 0 []) 0 (C.length - 1) = [] := by
  rw [Z8A (q := fun _ => false) _ _ (fun j _ _ => by simp [detP]), ZwL]
 have h8 := ZiX hC ch hch hl C.length 0 (by omega)
 rw [h0] at h8
 refine Ev.succ ?_
 simp only [ZbO, ZeQ]
 exact Ev.bind h8 (Ev.some _)
def ZN (b : BoardD) (T : List (List Int)) : List Int × Bool := if (smallB b && testsOK b T) then (idxFrom (fun j => !decide (keyC (casesL b T) (rangeI T.length) 0 = keyC (casesL b T) (rangeI T.length) (j + 1))) 0 ((casesL b T).length - 1), true) else ([], false)
theorem ZqI (b : BoardD) (T : List (List Int)) (h0 : b.2.2.length ≤ 9223372036854775806) (h1 : T.length ≤ 9223372036854775806) (hx : ∀ x ∈ T, x.length ≤ 9223372036854775806) : Ev (fun k => Z8q k b T) (ZN b T) := by
 refine Ev.succ ?_
 simp only [Z8q]
 unfold ZN
 refine Ev.bind (a := (smallB b && testsOK b T)) (Z9K b T h0 h1 hx) ?_
 cases g0 : (smallB b && testsOK b T) with
 | false => simp only [Bool.not_false, if_true, Bool.false_eq_true, if_false, Bool.false_and, Bool.and_false]; exact Ev.some _
 | true =>
  simp only [Bool.not_true, Bool.false_eq_true, if_false, if_true, Bool.and_self]
  obtain ⟨hb, hn, hT⟩ := Z2B g0
  have hT1 : ∀ t ∈ T, t.length ≤ 1000 ∧ colsOK b t := fun t ht => ⟨by have := (hT t ht).1; omega, (hT t ht).2⟩
  have hC := Zco hb hT1
  exact Ev.bind (Zs3 b hb T hT1 (by omega)) (Ev.bind (ZxY T (by omega)) (Ev.bind (ZyS hC _ (Zp2 _) (by rw [Zcs]; omega)) (Ev.some _)))
theorem Zss (b : BoardD) (T : List (List Int)) (h0 : b.2.2.length ≤ 9223372036854775806) (h1 : T.length ≤ 9223372036854775806) (hx : ∀ x ∈ T, x.length ≤ 9223372036854775806) : Ev (fun k => Z8o k b T) (ZN b T) := by
 refine Ev.succ ?_
 simp only [Z8o]
 unfold ZN
 refine Ev.bind (a := (smallB b && testsOK b T)) (Z86 b T h0 h1 hx) ?_
 cases g0 : (smallB b && testsOK b T) with
 | false => simp only [Bool.not_false, if_true, Bool.false_eq_true, if_false, Bool.false_and, Bool.and_false]; exact Ev.some _
 | true =>
  simp only [Bool.not_true, Bool.false_eq_true, if_false, if_true, Bool.and_self]
  obtain ⟨hb, hn, hT⟩ := Z2B g0
  have hT1 : ∀ t ∈ T, t.length ≤ 1000 ∧ colsOK b t := fun t ht => ⟨by have := (hT t ht).1; omega, (hT t ht).2⟩
  have hC := Zco hb hT1
  exact Ev.bind (Zie b hb T hT1 (by omega)) (Ev.bind (Znh T (by omega)) (Ev.bind (Zz6 hC _ (Zp2 _) (by rw [Zcs]; omega)) (Ev.some _)))
theorem Zxf {b : BoardD} (hb : boardOK b = true) (T : List (List Int)) : (casesL b T).length ≤ 271 := by
 have := ZeW hb
 simp [casesL]; omega
theorem Zhv (b : BoardD) (T : List (List Int)) : (ZN b T).1.length ≤ 271 := by
 unfold ZN
 split
 ·rename_i h
  have h1 := Zxf (Z2B h).1 T
  have h2 := Zq9 (fun j => !decide (keyC (casesL b T) (rangeI T.length) 0 = keyC (casesL b T) (rangeI T.length) (j + 1))) ((casesL b T).length - 1) 0
  exact Nat.le_trans h2 (by omega)
 ·simp
end Go.Proofs.Ytgjmhbjdhihgaaa.Vs

set_option linter.unusedVariables false
set_option linter.unusedSimpArgs false
namespace Go.Proofs.Ytgjmhbjdhihgaaa.Vs
open Go.RowKit
theorem Zk7 {C : List (List (List FallD))} {n : Nat} {L : Nat → Nat} (hC : Tab C n L) (o1 : List Int) (v1 : List Int) (i j : Nat) (hi : i < C.length) (hj : j < C.length) (v12 : List (List Int)) (v13 v14 : Int) : ∀ (r pre : List Int) (same : Bool), chOK r n → (pre ++ r).length ≤ 1000 →
    Ev (fun k => Z3D k o1 (marksM C n C.length) v1 (i : Int) (marksRow C i n) (j : Int) same v12 v13 v14 (pre ++ r) ((pre ++ r).length : Int) (pre.length : Int)) (o1, marksM C n C.length, v1, (i : Int), marksRow C i n, (j : Int), same && decide (keyC C r i = keyC C r j), v12, v13, v14)
  | [], pre, same, hr, hl => by
    refine Ev.succ ?_
    simp only [Z3D, Zo, decide_false, Bool.false_eq_true, if_false, keyC, List.map_nil, decide_true, Bool.and_true]
    exact Ev.some _
  | t :: r, pre, same, hr, hl => by
    obtain ⟨t0, tn⟩ := hr t (List.mem_cons_self ..)
    have ih := fun s => Zk7 hC o1 v1 i j hi hj v12 v13 v14 r (pre ++ [t]) s (fun x hx => hr x (List.mem_cons_of_mem _ hx)) (by simpa using hl)
    simp only [← Z5] at ih
    have h1 : t < ((marksRow C i n).length : Int) := by rw [Zig]; exact tn
    have h2 : (j : Int) < ((marksM C n C.length).length : Int) := by rw [ZeQ]; omega
    have h3 : t < ((marksRow C j n).length : Int) := by rw [Zig]; exact tn
    have hg1 := Zom C n i t.toNat (by omega)
    have hg2 := Zom C n j t.toNat (by omega)
    have hm := ZKb (C := C) (t := t.toNat) (i := i) (j := j)
    have hk : keyC C (t :: r) i = keyC C (t :: r) j ↔ cellC C t.toNat i = cellC C t.toNat j ∧ keyC C r i = keyC C r j := by simp only [keyC, List.map_cons, List.cons.injEq]
    refine Ev.succ ?_
    simp only [Z3D, Ze, Zq, decide_true, if_true, Int.toNat_natCast, Z9, t0, h1, h2, Ztu C n C.length j hj, h3, hg1, hg2]
    rw [Zi pre t r (by omega)]
    cases same with
    | true =>
      simp only [if_true, Bool.true_and]
      refine (ih _).congr ?_
      simp only [hm, hk, Bool.decide_and]
    | false =>
      simp only [Bool.false_eq_true, if_false, Bool.false_and]
      exact (ih false).congr (by simp)
theorem Zkq {C : List (List (List FallD))} {n : Nat} {L : Nat → Nat} (hC : Tab C n L) (ch : List Int) (hch : chOK ch n) (hl : ch.length ≤ 1000) (o1 : List Int) (i : Nat) (hi : i < C.length) (v12 : List (List Int)) (v13 v14 : Int) : ∀ (d j : Nat), j + d = i →
    Ev (fun k => Z5s k o1 (marksM C n C.length) ch (i : Int) (marksRow C i n) (j : Int) v12 v13 v14) (o1, marksM C n C.length, ch, (fstR (keyC C ch) i d j : Int), v12, v13, v14)
  | 0, j, h => by
    obtain rfl : j = i := by omega
    refine Ev.succ ?_
    simp only [Z5s, Int.lt_irrefl, decide_false, Bool.false_eq_true, if_false, fstR]
    exact Ev.some _
  | d + 1, j, h => by
    have hcl := hC.len
    have h1 : (j : Int) < i := by omega
    have h5 : wrap64 ((j : Int) + 1) = ((j + 1 : Nat) : Int) := by rw [w64 (by omega) (by omega)]; omega
    have h8 := Zk7 hC o1 ch i j hi (by omega) v12 v13 v14 ch [] true hch (by simpa using hl)
    simp only [List.nil_append, List.length_nil, Int.natCast_zero, Bool.true_and] at h8
    have ih := Zkq hC ch hch hl o1 i hi v12 v13 v14 d (j + 1) (by omega)
    refine Ev.succ ?_
    simp only [Z5s, h1, decide_true, if_true]
    refine Ev.bind h8 (Ev.ite (fun hh => ?_) (fun hh => ?_))
    · have hh : keyC C ch i = keyC C ch j := of_decide_eq_true hh
      simp only [fstR]
      rw [if_pos hh.symm]
      exact Ev.some _
    · have hh : ¬ keyC C ch i = keyC C ch j := fun hq => hh (decide_eq_true hq)
      simp only [fstR, h5]
      rw [if_neg (fun hq => hh hq.symm)]
      exact ih
def classI (C : List (List (List FallD))) (ch : List Int) (m : Nat) : List Int := (List.range m).map fun k => (fstOf (keyC C ch) k : Int)
theorem Zmj (C : List (List (List FallD))) (ch : List Int) (m : Nat) : (classI C ch m).length = m := by simp [classI]
theorem ZI9 (C : List (List (List FallD))) (ch : List Int) (m : Nat) : classI C ch (m + 1) = classI C ch m ++ [(fstOf (keyC C ch) m : Int)] := by simp [classI, List.range_succ]
theorem ZJe (C : List (List (List FallD))) (ch : List Int) {m k : Nat} (hk : k < m) : List.getD (classI C ch m) k 0 = (fstOf (keyC C ch) k : Int) := by simp [classI, List.getD, List.getElem?_map, List.getElem?_range hk]
theorem Zkl {C : List (List (List FallD))} {n : Nat} {L : Nat → Nat} (hC : Tab C n L) (ch : List Int) (hch : chOK ch n) (hl : ch.length ≤ 1000) : ∀ (d i : Nat), i + d = C.length →
    Ev (fun k => Z5C k (classI C ch i) (marksM C n C.length) ch (marksM C n C.length) (C.length : Int) (i : Int)) (classI C ch C.length)
  | 0, i, h => by
    obtain rfl : i = C.length := by omega
    refine Ev.succ ?_
    simp only [Z5C, Int.lt_irrefl, decide_false, Bool.false_eq_true, if_false]
    exact Ev.some _
  | d + 1, i, h => by
    have hcl := hC.len
    have h1 : (i : Int) < (C.length : Int) := by omega
    have h2 : (i : Int) < ((marksM C n C.length).length : Int) := by rw [ZeQ]; exact h1
    have h5 : wrap64 ((i : Int) + 1) = ((i + 1 : Nat) : Int) := by rw [w64 (by omega) (by omega)]; omega
    have hal : i + 1 ≤ 140737488355328 / 8 := by omega
    have ih := Zkl hC ch hch hl d (i + 1) (by omega)
    rw [ZI9] at ih
    refine Ev.succ ?_
    simp only [Z5C, h1, h2, decide_true, if_true, Int.natCast_nonneg, Int.toNat_natCast, Ztu C n C.length i (by omega)]
    refine Ev.bind (Zkq hC ch hch hl (classI C ch i) i (by omega) (marksM C n C.length) (C.length : Int) (i : Int) i 0 (by omega)) ?_
    simp only [List.length_singleton, Zmj, hal, if_true, h5]
    exact ih
theorem ZBv {C : List (List (List FallD))} {n : Nat} {L : Nat → Nat} (hC : Tab C n L) (ch : List Int) (hch : chOK ch n) (hl : ch.length ≤ 1000) : Ev (fun k => Zcq k (marksM C n C.length) ch) (classI C ch C.length) := by
 refine Ev.succ ?_
 simp only [Zcq, ZeQ]
 have h8 := Zkl hC ch hch hl C.length 0 (by omega)
 exact Ev.bind h8 (Ev.some _)
def listF (C : List (List (List FallD))) (ch : List Int) (f m : Nat) : List Int := ((List.range m).filter fun j => decide (fstOf (keyC C ch) j = f)).map fun (j : Nat) => (j : Int) - 1
theorem ZJ3 (C : List (List (List FallD))) (ch : List Int) (f m : Nat) : listF C ch f (m + 1) = listF C ch f m ++ (if fstOf (keyC C ch) m = f then [(m : Int) - 1] else []) := by
 unfold listF
 rw [List.range_succ, List.filter_append, List.map_append]
 congr 1
 by_cases h : fstOf (keyC C ch) m = f <;> simp [List.filter, h]
theorem ZJD (C : List (List (List FallD))) (ch : List Int) (f m : Nat) : (listF C ch f m).length ≤ m := by
 unfold listF
 rw [List.length_map]
 exact Nat.le_trans (List.length_filter_le _ _) (by simp)
theorem ZmO (C : List (List (List FallD))) (ch : List Int) (m : Nat) (hm : m ≤ 1000) (o1 : List (List Int)) (f : Nat) (v9 v10 : Int) : ∀ (d i : Nat), i + d = m →
    Ev (fun k => Z5e k o1 (listF C ch f i) (classI C ch m) (f : Int) v9 v10 (classI C ch m) (m : Int) (i : Int)) (o1, listF C ch f m, classI C ch m, v9, v10)
  | 0, i, h => by
    obtain rfl : i = m := by omega
    refine Ev.succ ?_
    simp only [Z5e, Int.lt_irrefl, decide_false, Bool.false_eq_true, if_false]
    exact Ev.some _
  | d + 1, i, h => by
    have h1 : (i : Int) < (m : Int) := by omega
    have h2 : (i : Int) < ((classI C ch m).length : Int) := by rw [Zmj]; exact h1
    have h5 : wrap64 ((i : Int) + 1) = ((i + 1 : Nat) : Int) := by rw [w64 (by omega) (by omega)]; omega
    have h6 : wrap64 ((i : Int) - 1) = (i : Int) - 1 := by rw [w64 (by omega) (by omega)]
    have hll := ZJD C ch f i
    have hal : (listF C ch f i).length + 1 ≤ 140737488355328 / 8 := by omega
    have ih := ZmO C ch m hm o1 f v9 v10 d (i + 1) (by omega)
    rw [ZJ3] at ih
    refine Ev.succ ?_
    simp only [Z5e, h1, h2, decide_true, if_true, Int.natCast_nonneg, Int.toNat_natCast, ZJe C ch (show i < m by omega), List.length_singleton, hal, h5, h6]
    refine Ev.ite (fun hh => ?_) (fun hh => ?_)
    · have hh : ((fstOf (keyC C ch) i : Nat) : Int) = f := of_decide_eq_true hh
      rw [if_pos (by omega)] at ih
      exact ih
    · have hh : ¬ ((fstOf (keyC C ch) i : Nat) : Int) = f := fun hq => hh (decide_eq_true hq)
      rw [if_neg (by omega), List.append_nil] at ih
      exact ih
def listsP (C : List (List (List FallD))) (ch : List Int) (m i : Nat) : List (List Int) := ((List.range i).map fun f => listF C ch f m).filter fun l => !l.isEmpty
theorem ZIh (C : List (List (List FallD))) (ch : List Int) (m i : Nat) : listsP C ch m (i + 1) = listsP C ch m i ++ (if (listF C ch i m).length > 0 then [listF C ch i m] else []) := by
 unfold listsP
 rw [List.range_succ, List.map_append, List.filter_append]
 congr 1
 cases h : listF C ch i m with
 | nil => simp [h]
 | cons x r => simp [h]
theorem ZJ7 (C : List (List (List FallD))) (ch : List Int) (m i : Nat) : (listsP C ch m i).length ≤ i :=
 Nat.le_trans (List.length_filter_le _ _) (by simp)
theorem Zof (C : List (List (List FallD))) (ch : List Int) (m : Nat) (hm : m ≤ 1000) : ∀ (d i : Nat), i + d = m →
    Ev (fun k => Z5f k (listsP C ch m i) (classI C ch m) (m : Int) (i : Int)) (listsP C ch m m)
  | 0, i, h => by
    obtain rfl : i = m := by omega
    refine Ev.succ ?_
    simp only [Z5f, Int.lt_irrefl, decide_false, Bool.false_eq_true, if_false]
    exact Ev.some _
  | d + 1, i, h => by
    have h1 : (i : Int) < (m : Int) := by omega
    have h5 : wrap64 ((i : Int) + 1) = ((i + 1 : Nat) : Int) := by rw [w64 (by omega) (by omega)]; omega
    have hll := ZJ7 C ch m i
    have hal : (listsP C ch m i).length + 1 ≤ 140737488355328 / 24 := by omega
    have ih := Zof C ch m hm d (i + 1) (by omega)
    rw [ZIh] at ih
    have h8 := ZmO C ch m hm (listsP C ch m i) i (m : Int) (i : Int) m 0 (by omega)
    rw [show listF C ch i 0 = [] from rfl] at h8
    refine Ev.succ ?_
    simp only [Z5f, h1, decide_true, if_true, Zmj]
    refine Ev.bind h8 ?_
    simp only [List.length_singleton, hal, if_true, h5]
    refine Ev.ite (fun hh => ?_) (fun hh => ?_)
    · have hh : ((listF C ch i m).length : Int) > 0 := of_decide_eq_true hh
      rw [if_pos (by omega)] at ih
      exact ih
    · have hh : ¬ ((listF C ch i m).length : Int) > 0 := fun hq => hh (decide_eq_true hq)
      rw [if_neg (by omega), List.append_nil] at ih
      exact ih
theorem ZF9 (C : List (List (List FallD))) (ch : List Int) (m : Nat) (hm : m ≤ 1000) : Ev (fun k => Zf0 k (classI C ch m)) (classesL (keyC C ch) m) := by
 have h0 : listsP C ch m m = classesL (keyC C ch) m := ZGE (keyC C ch) m
 have h8 := Zof C ch m hm m 0 (by omega)
 rw [h0] at h8
 refine Ev.succ ?_
 simp only [Zf0, Zmj]
 exact Ev.bind h8 (Ev.some _)
theorem ZIb {α : Type} [DecidableEq α] (key : Nat → α) (n f : Nat) : (members key n f).length ≤ n := by
 unfold members
 rw [List.length_map]
 exact Nat.le_trans (List.length_filter_le _ _) (by simp)
theorem Zyi {α : Type} [DecidableEq α] (key : Nat → α) (n : Nat) : (classesL key n).length ≤ n := by
 unfold classesL firsts
 rw [List.length_map]
 exact Nat.le_trans (List.length_filter_le _ _) (by simp)
theorem Zxm {α : Type} [DecidableEq α] (key : Nat → α) (n : Nat) : ∀ x ∈ classesL key n, x.length ≤ n := by
 intro x hx
 obtain ⟨f, _, rfl⟩ := List.mem_map.1 hx
 exact ZIb key n f
theorem Zkw {C : List (List (List FallD))} {n : Nat} {L : Nat → Nat} (hC : Tab C n L) (ch : List Int) (hch : chOK ch n) (hl : ch.length ≤ 1000) (i : Nat) (hi : i < C.length) (v10 v11 : Int) : ∀ (F pre : List Nat), firsts (keyC C ch) i = pre ++ F →
    Ev (fun k => Z5B k (classesL (keyC C ch) i) C ch (i : Int) (pre.length : Int) v10 v11) (classesL (keyC C ch) i, C, ch, (i : Int), ((pre.length + placeIx (keyC C ch) (keyC C ch i) F : Nat) : Int), v10, v11)
  | [], pre, h => by
    have hlen : (classesL (keyC C ch) i).length = pre.length := by unfold classesL; rw [List.length_map, h]; simp
    refine Ev.succ ?_
    simp only [Z5B, hlen, Int.lt_irrefl, decide_false, Bool.false_eq_true, if_false, placeIx]
    exact Ev.some _
  | f :: F, pre, h => by
    have hcl := hC.len
    have hf : f ∈ firsts (keyC C ch) i := by rw [h]; simp
    obtain ⟨hfi, _⟩ := ZjS (keyC C ch) hf
    obtain ⟨r, hr⟩ := ZtZ (keyC C ch) hf
    have hlen : (classesL (keyC C ch) i).length = pre.length + (F.length + 1) := by unfold classesL; rw [List.length_map, h]; simp
    have hfl : (firsts (keyC C ch) i).length ≤ i := by unfold firsts; exact Nat.le_trans (List.length_filter_le _ _) (by simp)
    have hpl : pre.length ≤ i := by rw [h] at hfl; simp at hfl; omega
    have h1 : (pre.length : Int) < ((classesL (keyC C ch) i).length : Int) := by omega
    have hg : List.getD (classesL (keyC C ch) i) pre.length [] = ((f : Int) - 1) :: r := by
      unfold classesL
      rw [h]
      simp [List.getD, List.getElem?_map, hr]
    have h5 : wrap64 ((pre.length : Int) + 1) = (((pre ++ [f]).length : Nat) : Int) := by rw [w64 (by omega) (by omega)]; simp
    have h6 : wrap64 ((f : Int) - 1 + 1) = (f : Int) := by rw [w64 (by omega) (by omega)]; omega
    have h7 : (0 : Int) < ((((f : Int) - 1) :: r).length : Int) := by simp
    have h8 : (f : Int) < (C.length : Int) := by omega
    have h9 : (i : Int) < (C.length : Int) := by omega
    have ih := Zkw hC ch hch hl i hi v10 v11 F (pre ++ [f]) (by rw [h]; simp)
    refine Ev.succ ?_
    simp only [Z5B, h1, decide_true, if_true, Int.natCast_nonneg, Int.toNat_natCast, hg, h7, Int.toNat_zero, List.getD_cons_zero, h6, h8, h9, h5]
    refine Ev.bind (ZrB hC f i (by omega) hi ch hch hl) (Ev.ite (fun hh => ?_) (fun hh => ?_))
    · have hh : ¬ keyC C ch f = keyC C ch i := nd hh
      refine ih.congr ?_
      simp only [placeIx, if_neg hh, List.length_append, List.length_singleton]
      congr 5
      omega
    · have hh : keyC C ch f = keyC C ch i := yd hh
      simp only [placeIx, if_pos hh, Nat.add_zero]
      exact Ev.some _
theorem ZjM {C : List (List (List FallD))} {n : Nat} {L : Nat → Nat} (hC : Tab C n L) (ch : List Int) (hch : chOK ch n) (hl : ch.length ≤ 1000) : ∀ (d i : Nat), i + d = C.length →
    Ev (fun k => Z3y k (classesL (keyC C ch) i) C ch (C.length : Int) (i : Int)) (classesL (keyC C ch) C.length)
  | 0, i, h => by
    obtain rfl : i = C.length := by omega
    refine Ev.succ ?_
    simp only [Z3y, Int.lt_irrefl, decide_false, Bool.false_eq_true, if_false]
    exact Ev.some _
  | d + 1, i, h => by
    have hcl := hC.len
    have h1 : (i : Int) < (C.length : Int) := by omega
    have h5 : wrap64 ((i : Int) + 1) = ((i + 1 : Nat) : Int) := by rw [w64 (by omega) (by omega)]; omega
    have h6 : wrap64 ((i : Int) - 1) = (i : Int) - 1 := by rw [w64 (by omega) (by omega)]
    have hlen : (classesL (keyC C ch) i).length = (firsts (keyC C ch) i).length := by unfold classesL; rw [List.length_map]
    have hle := Zyi (keyC C ch) i
    have hpl := ZtG (keyC C ch) (keyC C ch i) (firsts (keyC C ch) i)
    have ih := ZjM hC ch hch hl d (i + 1) (by omega)
    have h8 := Zkw hC ch hch hl i (by omega) (C.length : Int) (i : Int) (firsts (keyC C ch) i) [] rfl
    simp only [List.length_nil, Int.natCast_zero, Nat.zero_add] at h8
    refine Ev.succ ?_
    simp only [Z3y, h1, decide_true, if_true]
    refine Ev.bind h8 ?_
    simp only [h5, h6, Int.natCast_nonneg, if_true, Int.toNat_natCast]
    refine Ev.ite (fun hh => ?_) (fun hh => ?_)
    · have hh : ((placeIx (keyC C ch) (keyC C ch i) (firsts (keyC C ch) i) : Nat) : Int) = ((classesL (keyC C ch) i).length : Int) := of_decide_eq_true hh
      have hp : placeIx (keyC C ch) (keyC C ch i) (firsts (keyC C ch) i) = (firsts (keyC C ch) i).length := by omega
      have hnew := ZAH (keyC C ch) hp
      have hp2 : placeIx (keyC C ch) (keyC C ch i) (firsts (keyC C ch) i) = (classesL (keyC C ch) i).length := by omega
      have g1 : (classesL (keyC C ch) i).length + 1 ≤ 140737488355328 / 24 := by omega
      have g2 : (((classesL (keyC C ch) i).length : Nat) : Int) < (((classesL (keyC C ch) i) ++ [[]]).length : Int) := by simp; omega
      have g3 : List.getD (classesL (keyC C ch) i ++ [[]]) (classesL (keyC C ch) i).length [] = [] := Z9 _ _ _ _
      have g4 : ([] : List Int).length + [(i : Int) - 1].length ≤ 140737488355328 / 8 := by simp
      have g5 : List.set (classesL (keyC C ch) i ++ [[]]) (classesL (keyC C ch) i).length ([] ++ [(i : Int) - 1]) = classesL (keyC C ch) (i + 1) := by rw [Zsn, hnew]; rfl
      simp only [hp2, g1, g2, g3, g4, g5, if_true]
      exact ih
    · have hh : ¬ ((placeIx (keyC C ch) (keyC C ch i) (firsts (keyC C ch) i) : Nat) : Int) = ((classesL (keyC C ch) i).length : Int) := fun hq => hh (decide_eq_true hq)
      have hp : placeIx (keyC C ch) (keyC C ch i) (firsts (keyC C ch) i) < (firsts (keyC C ch) i).length := by omega
      have hold := ZAs (keyC C ch) hp
      have g2 : ((placeIx (keyC C ch) (keyC C ch i) (firsts (keyC C ch) i) : Nat) : Int) < ((classesL (keyC C ch) i).length : Int) := by omega
      have hm : (List.getD (classesL (keyC C ch) i) (placeIx (keyC C ch) (keyC C ch i) (firsts (keyC C ch) i)) []).length ≤ i := by
        have : List.getD (classesL (keyC C ch) i) (placeIx (keyC C ch) (keyC C ch i) (firsts (keyC C ch) i)) [] ∈ classesL (keyC C ch) i := by simp [List.getD, List.getElem?_eq_getElem (show placeIx (keyC C ch) (keyC C ch i) (firsts (keyC C ch) i) < (classesL (keyC C ch) i).length by omega)]
        exact Zxm _ _ _ this
      have g4 : (List.getD (classesL (keyC C ch) i) (placeIx (keyC C ch) (keyC C ch i) (firsts (keyC C ch) i)) []).length + [(i : Int) - 1].length ≤ 140737488355328 / 8 := by rw [List.length_singleton]; omega
      simp only [g2, g4, ← hold, if_true]
      exact ih
theorem ZBV {C : List (List (List FallD))} {n : Nat} {L : Nat → Nat} (hC : Tab C n L) (ch : List Int) (hch : chOK ch n) (hl : ch.length ≤ 1000) : Ev (fun k => Zd7 k C ch) (classesL (keyC C ch) C.length) := by
 refine Ev.succ ?_
 simp only [Zd7]
 have h8 := ZjM hC ch hch hl C.length 0 (by omega)
 exact Ev.bind h8 (Ev.some _)
def Z6 (b : BoardD) (T : List (List Int)) : List (List Int) × Bool := if (smallB b && testsOK b T) then (classesL (keyC (casesL b T) (rangeI T.length)) (casesL b T).length, true) else ([], false)
theorem Zvd (b : BoardD) (T : List (List Int)) (h0 : b.2.2.length ≤ 9223372036854775806) (h1 : T.length ≤ 9223372036854775806) (hx : ∀ x ∈ T, x.length ≤ 9223372036854775806) : Ev (fun k => Zav k b T) (Z6 b T) := by
 refine Ev.succ ?_
 simp only [Zav]
 unfold Z6
 refine Ev.bind (a := (smallB b && testsOK b T)) (Z9K b T h0 h1 hx) ?_
 cases g0 : (smallB b && testsOK b T) with
 | false => simp only [Bool.not_false, if_true, Bool.false_eq_true, if_false, Bool.false_and, Bool.and_false]; exact Ev.some _
 | true =>
  simp only [Bool.not_true, Bool.false_eq_true, if_false, if_true, Bool.and_self]
  obtain ⟨hb, hn, hT⟩ := Z2B g0
  have hT1 : ∀ t ∈ T, t.length ≤ 1000 ∧ colsOK b t := fun t ht => ⟨by have := (hT t ht).1; omega, (hT t ht).2⟩
  have hC := Zco hb hT1
  exact Ev.bind (Zs3 b hb T hT1 (by omega)) (Ev.bind (ZxY T (by omega)) (Ev.bind (ZBv hC _ (Zp2 _) (by rw [Zcs]; omega)) (Ev.bind (ZF9 _ _ _ hC.len) (Ev.some _))))
theorem ZvW (b : BoardD) (T : List (List Int)) (h0 : b.2.2.length ≤ 9223372036854775806) (h1 : T.length ≤ 9223372036854775806) (hx : ∀ x ∈ T, x.length ≤ 9223372036854775806) : Ev (fun k => Zal k b T) (Z6 b T) := by
 refine Ev.succ ?_
 simp only [Zal]
 unfold Z6
 refine Ev.bind (a := (smallB b && testsOK b T)) (Z86 b T h0 h1 hx) ?_
 cases g0 : (smallB b && testsOK b T) with
 | false => simp only [Bool.not_false, if_true, Bool.false_eq_true, if_false, Bool.false_and, Bool.and_false]; exact Ev.some _
 | true =>
  simp only [Bool.not_true, Bool.false_eq_true, if_false, if_true, Bool.and_self]
  obtain ⟨hb, hn, hT⟩ := Z2B g0
  have hT1 : ∀ t ∈ T, t.length ≤ 1000 ∧ colsOK b t := fun t ht => ⟨by have := (hT t ht).1; omega, (hT t ht).2⟩
  have hC := Zco hb hT1
  exact Ev.bind (Zie b hb T hT1 (by omega)) (Ev.bind (Znh T (by omega)) (Ev.bind (ZBV hC _ (Zp2 _) (by rw [Zcs]; omega)) (Ev.some _)))
theorem ZjT (b : BoardD) (T : List (List Int)) : (Z6 b T).1.length ≤ 271 ∧ szRows (Z6 b T).1 ≤ 73441 ∧ ∀ x ∈ (Z6 b T).1, x.length ≤ 9223372036854775806 := by
 unfold Z6
 split
 ·rename_i h
  have h1 := Zxf (Z2B h).1 T
  have h2 := Zyi (keyC (casesL b T) (rangeI T.length)) (casesL b T).length
  have h3 : ∀ x ∈ classesL (keyC (casesL b T) (rangeI T.length)) (casesL b T).length, x.length ≤ 271 := fun x hx => Nat.le_trans (Zxm _ _ x hx) h1
  have h4 := ZFb h3
  refine ⟨Nat.le_trans h2 h1, ?_, fun x hx => by have := h3 x hx; omega⟩
  show szRows (classesL (keyC (casesL b T) (rangeI T.length)) (casesL b T).length) ≤ 73441
  omega
 ·exact ⟨by simp, by simp [szRows], fun x hx => by simp at hx⟩
def likeC (C : List (List (List FallD))) (E : List (List FallD)) (n k : Nat) : Bool := (List.range n).all fun t => decide (cellC C t k = List.getD E t [])
def likes (C : List (List (List FallD))) (E : List (List FallD)) (n m : Nat) : List Int := ((List.range m).filter (likeC C E n)).map fun (j : Nat) => (j : Int) - 1
theorem ZCX (C : List (List (List FallD))) (E : List (List FallD)) (n m : Nat) : likes C E n (m + 1) = likes C E n m ++ (if likeC C E n m then [(m : Int) - 1] else []) := by
 unfold likes
 rw [List.range_succ, List.filter_append, List.map_append]
 congr 1
 cases h : likeC C E n m <;> simp [List.filter, h]
theorem ZxS (C : List (List (List FallD))) (E : List (List FallD)) (n m : Nat) : (likes C E n m).length ≤ m := by
 unfold likes
 rw [List.length_map]
 exact Nat.le_trans (List.length_filter_le _ _) (by simp)
theorem ZiB (b : BoardD) (T0 : List (List Int)) (E0 : List (List FallD)) : ∀ (r pre : List (List Int)) (s pre' : List (List FallD)), s.length = r.length → pre'.length = pre.length → (pre ++ r).length ≤ 1000 → Ev (fun k => Z4S k b.1 b.2.1 b.2.2 T0 (pre' ++ s) (pre ++ r) ((pre ++ r).length : Int) (pre.length : Int)) (if r.map List.length = s.map List.length then LR.go (b.1, b.2.1, b.2.2, T0, pre' ++ s) else LR.ret ([], false))
 | [], pre, s, pre', h, hp, hl => by
  obtain rfl : s = [] := List.eq_nil_of_length_eq_zero h
  refine Ev.succ ?_
  simp only [Z4S, Zo, decide_false, Bool.false_eq_true, if_false, List.map_nil, if_true]
  exact Ev.some _
 | x :: r, pre, [], pre', h, hp, hl => by simp at h
 | x :: r, pre, y :: s, pre', h, hp, hl => by
  have ih := ZiB b T0 E0 r (pre ++ [x]) s (pre' ++ [y]) (by simpa using h) (by simpa using hp) (by simpa using hl)
  have l2 : (pre.length : Int) < ((pre' ++ y :: s).length : Int) := by rw [← hp]; exact Ze _ _ _
  have g2 : List.getD (pre' ++ y :: s) pre.length [] = y := by rw [← hp]; exact Z9 _ _ _ _
  refine Ev.succ ?_
  simp only [Z4S, Ze, Zq, l2, decide_true, if_true, Int.toNat_natCast, Z9, g2]
  rw [Zi pre x r (by omega)]
  rw [← Z5, ← Z5] at ih
  refine Ev.ite (fun hh => ?_) (fun hh => ?_)
  ·have hh : (y.length : Int) ≠ (x.length : Int) := of_decide_eq_true hh
   rw [if_neg (by simp; intro h9; omega)]
   exact Ev.some _
  ·have hh : y.length = x.length := by
    by_cases h9 : (y.length : Int) ≠ (x.length : Int)
    ·exact (hh (decide_eq_true h9)).elim
    ·omega
   refine ih.congr ?_
   simp [hh]
theorem ZiF {C : List (List (List FallD))} {n : Nat} {L : Nat → Nat} (hC : Tab C n L) (hn : n ≤ 1000) (E : List (List FallD)) (hE : E.length = n) (hEL : ∀ t, t < n → (List.getD E t []).length = L t) (T : List (List Int)) (o1 : List Int) (i : Nat) (hi : i < C.length) (v45 v46 : Int) : ∀ (d t : Nat) (like : Bool), t + d = n →
    Ev (fun k => Z3h k o1 C T E (i : Int) (i : Int) like v45 v46 (n : Int) (t : Int)) (o1, C, T, E, (i : Int), like && (List.range' t d).all (fun t => decide (cellC C t i = List.getD E t [])), v45, v46)
  | 0, t, like, h => by
    obtain rfl : t = n := by omega
    refine Ev.succ ?_
    simp only [Z3h, Int.lt_irrefl, decide_false, Bool.false_eq_true, if_false, List.range'_zero, List.all_nil, Bool.and_true]
    exact Ev.some _
  | d + 1, t, like, h => by
    have h1 : (t : Int) < n := by omega
    have h2 : (t : Int) < ((List.getD C i []).length : Int) := by rw [hC.row i hi]; exact h1
    have h3 : (t : Int) < (E.length : Int) := by omega
    have h5 : wrap64 ((t : Int) + 1) = ((t + 1 : Nat) : Int) := by rw [w64 (by omega) (by omega)]; omega
    have c1 := hC.cell i t hi (by omega)
    have c2 := hEL t (by omega)
    have c3 := hC.small t (by omega)
    have ih := fun s => ZiF hC hn E hE hEL T o1 i hi v45 v46 d (t + 1) s (by omega)
    refine Ev.succ ?_
    simp only [Z3h, h1, h2, h3, h5, decide_true, if_true, Int.natCast_nonneg, Int.toNat_natCast]
    cases like with
    | true =>
      simp only [if_true, Bool.true_and]
      have hdn := ZfT 0 (cellC C t i) (List.getD E t []) (by unfold cellC; omega)
      refine Ev.bind (Zkz _ _ (by omega) (by omega)) ?_
      refine (ih _).congr ?_
      have hq : decide (ixOf (diffIx 0 (List.getD (List.getD C i []) t []) (List.getD E t [])) < 0) = decide (cellC C t i = List.getD E t []) := decide_eq_decide.2 ((ZH6 _).trans hdn)
      rw [hq]
      simp only [List.range'_succ, List.all_cons]
    | false =>
      simp only [Bool.false_eq_true, if_false, Bool.false_and]
      exact (ih false).congr (by simp)
theorem ZiJ {C : List (List (List FallD))} {n : Nat} {L : Nat → Nat} (hC : Tab C n L) (hn : n ≤ 1000) (E : List (List FallD)) (hE : E.length = n) (hEL : ∀ t, t < n → (List.getD E t []).length = L t) (T : List (List Int)) (hT : T.length = n) : ∀ (d i : Nat), i + d = C.length →
    Ev (fun k => Z3a k (likes C E n i) C T E (C.length : Int) (i : Int)) (likes C E n C.length)
  | 0, i, h => by
    obtain rfl : i = C.length := by omega
    refine Ev.succ ?_
    simp only [Z3a, Int.lt_irrefl, decide_false, Bool.false_eq_true, if_false]
    exact Ev.some _
  | d + 1, i, h => by
    have hcl := hC.len
    have h1 : (i : Int) < (C.length : Int) := by omega
    have h5 : wrap64 ((i : Int) + 1) = ((i + 1 : Nat) : Int) := by rw [w64 (by omega) (by omega)]; omega
    have h6 : wrap64 ((i : Int) - 1) = (i : Int) - 1 := by rw [w64 (by omega) (by omega)]
    have hll := ZxS C E n i
    have hal : (likes C E n i).length + 1 ≤ 140737488355328 / 8 := by omega
    have ih := ZiJ hC hn E hE hEL T hT d (i + 1) (by omega)
    rw [ZCX] at ih
    have h8 := ZiF hC hn E hE hEL T (likes C E n i) i (by omega) (C.length : Int) (i : Int) n 0 true (by omega)
    rw [← List.range_eq_range', Bool.true_and, show (List.range n).all (fun t => decide (cellC C t i = List.getD E t [])) = likeC C E n i from rfl] at h8
    refine Ev.succ ?_
    simp only [Z3a, h1, decide_true, if_true, Int.natCast_nonneg, hT]
    refine Ev.bind h8 ?_
    simp only [List.length_singleton, hal, if_true, h5, h6]
    refine Ev.ite (fun hh => ?_) (fun hh => ?_)
    · have hh : likeC C E n i = true := hh
      rw [if_pos hh] at ih
      exact ih
    · have hh : ¬ likeC C E n i = true := hh
      rw [if_neg hh, List.append_nil] at ih
      exact ih
theorem ZiD (b : BoardD) (T0 : List (List Int)) (E0 : List (List FallD)) : ∀ (r pre : List (List Int)) (s pre' : List (List FallD)), s.length = r.length → pre'.length = pre.length → (pre ++ r).length ≤ 1000 → Ev (fun k => Z4O k b.1 b.2.1 b.2.2 T0 (pre' ++ s) (pre ++ r) ((pre ++ r).length : Int) (pre.length : Int)) (if r.map List.length = s.map List.length then LR.go (b.1, b.2.1, b.2.2, T0, pre' ++ s) else LR.ret ([], false))
 | [], pre, s, pre', h, hp, hl => by
  obtain rfl : s = [] := List.eq_nil_of_length_eq_zero h
  refine Ev.succ ?_
  simp only [Z4O, Zo, decide_false, Bool.false_eq_true, if_false, List.map_nil, if_true]
  exact Ev.some _
 | x :: r, pre, [], pre', h, hp, hl => by simp at h
 | x :: r, pre, y :: s, pre', h, hp, hl => by
  have ih := ZiD b T0 E0 r (pre ++ [x]) s (pre' ++ [y]) (by simpa using h) (by simpa using hp) (by simpa using hl)
  have l2 : (pre.length : Int) < ((pre' ++ y :: s).length : Int) := by rw [← hp]; exact Ze _ _ _
  have g2 : List.getD (pre' ++ y :: s) pre.length [] = y := by rw [← hp]; exact Z9 _ _ _ _
  refine Ev.succ ?_
  simp only [Z4O, Ze, Zq, l2, decide_true, if_true, Int.toNat_natCast, Z9, g2]
  rw [Zi pre x r (by omega)]
  rw [← Z5, ← Z5] at ih
  refine Ev.ite (fun hh => ?_) (fun hh => ?_)
  ·have hh : (y.length : Int) ≠ (x.length : Int) := of_decide_eq_true hh
   rw [if_neg (by simp; intro h9; omega)]
   exact Ev.some _
  ·have hh : y.length = x.length := by
    by_cases h9 : (y.length : Int) ≠ (x.length : Int)
    ·exact (hh (decide_eq_true h9)).elim
    ·omega
   refine ih.congr ?_
   simp [hh]
theorem ZiN {C : List (List (List FallD))} {n : Nat} {L : Nat → Nat} (hC : Tab C n L) (hn : n ≤ 1000) (E : List (List FallD)) (hE : E.length = n) (hEL : ∀ t, t < n → (List.getD E t []).length = L t) (T : List (List Int)) (o1 : List Int) (i : Nat) (hi : i < C.length) (v45 v46 : Int) : ∀ (d t : Nat) (like : Bool), t + d = n →
    Ev (fun k => Z39 k o1 C T E (i : Int) (i : Int) like v45 v46 (n : Int) (t : Int)) (o1, C, T, E, (i : Int), like && (List.range' t d).all (fun t => decide (cellC C t i = List.getD E t [])), v45, v46)
  | 0, t, like, h => by
    obtain rfl : t = n := by omega
    refine Ev.succ ?_
    simp only [Z39, Int.lt_irrefl, decide_false, Bool.false_eq_true, if_false, List.range'_zero, List.all_nil, Bool.and_true]
    exact Ev.some _
  | d + 1, t, like, h => by
    have h1 : (t : Int) < n := by omega
    have h2 : (t : Int) < ((List.getD C i []).length : Int) := by rw [hC.row i hi]; exact h1
    have h3 : (t : Int) < (E.length : Int) := by omega
    have h5 : wrap64 ((t : Int) + 1) = ((t + 1 : Nat) : Int) := by rw [w64 (by omega) (by omega)]; omega
    have c1 := hC.cell i t hi (by omega)
    have c2 := hEL t (by omega)
    have c3 := hC.small t (by omega)
    have ih := fun s => ZiN hC hn E hE hEL T o1 i hi v45 v46 d (t + 1) s (by omega)
    refine Ev.succ ?_
    simp only [Z39, h1, h2, h3, h5, decide_true, if_true, Int.natCast_nonneg, Int.toNat_natCast]
    cases like with
    | true =>
      simp only [if_true, Bool.true_and]
      refine Ev.bind (Z4k _ _ (by omega)) ?_
      refine (ih _).congr ?_
      simp only [List.range'_succ, List.all_cons]
      rfl
    | false =>
      simp only [Bool.false_eq_true, if_false, Bool.false_and]
      exact (ih false).congr (by simp)
theorem Ziw {C : List (List (List FallD))} {n : Nat} {L : Nat → Nat} (hC : Tab C n L) (hn : n ≤ 1000) (E : List (List FallD)) (hE : E.length = n) (hEL : ∀ t, t < n → (List.getD E t []).length = L t) (T : List (List Int)) (hT : T.length = n) : ∀ (d i : Nat), i + d = C.length →
    Ev (fun k => Z36 k (likes C E n i) C T E (C.length : Int) (i : Int)) (likes C E n C.length)
  | 0, i, h => by
    obtain rfl : i = C.length := by omega
    refine Ev.succ ?_
    simp only [Z36, Int.lt_irrefl, decide_false, Bool.false_eq_true, if_false]
    exact Ev.some _
  | d + 1, i, h => by
    have hcl := hC.len
    have h1 : (i : Int) < (C.length : Int) := by omega
    have h5 : wrap64 ((i : Int) + 1) = ((i + 1 : Nat) : Int) := by rw [w64 (by omega) (by omega)]; omega
    have h6 : wrap64 ((i : Int) - 1) = (i : Int) - 1 := by rw [w64 (by omega) (by omega)]
    have hll := ZxS C E n i
    have hal : (likes C E n i).length + 1 ≤ 140737488355328 / 8 := by omega
    have ih := Ziw hC hn E hE hEL T hT d (i + 1) (by omega)
    rw [ZCX] at ih
    have h8 := ZiN hC hn E hE hEL T (likes C E n i) i (by omega) (C.length : Int) (i : Int) n 0 true (by omega)
    rw [← List.range_eq_range', Bool.true_and, show (List.range n).all (fun t => decide (cellC C t i = List.getD E t [])) = likeC C E n i from rfl] at h8
    refine Ev.succ ?_
    simp only [Z36, h1, decide_true, if_true, Int.natCast_nonneg, hT]
    refine Ev.bind h8 ?_
    simp only [List.length_singleton, hal, if_true, h5, h6]
    refine Ev.ite (fun hh => ?_) (fun hh => ?_)
    · have hh : likeC C E n i = true := hh
      rw [if_pos hh] at ih
      exact ih
    · have hh : ¬ likeC C E n i = true := hh
      rw [if_neg hh, List.append_nil] at ih
      exact ih
def Z7S (b : BoardD) (T : List (List Int)) (E : List (List FallD)) : List Int × Bool := if (smallB b && testsOK b T) then (if T.map List.length = E.map List.length then (likes (casesL b T) E T.length (casesL b T).length, true) else ([], false)) else ([], false)
theorem Zz2 (b : BoardD) (T : List (List Int)) (E : List (List FallD)) (h0 : b.2.2.length ≤ 9223372036854775806) (h1 : T.length ≤ 9223372036854775806) (hx : ∀ x ∈ T, x.length ≤ 9223372036854775806) : Ev (fun k => ZbG k b T E) (Z7S b T E) := by
 refine Ev.succ ?_
 simp only [ZbG]
 unfold Z7S
 refine Ev.bind (a := (smallB b && testsOK b T)) (Z9K b T h0 h1 hx) ?_
 cases g0 : (smallB b && testsOK b T) with
 | false => simp only [Bool.not_false, if_true, Bool.false_eq_true, if_false, Bool.false_and, Bool.and_false]; exact Ev.some _
 | true =>
  simp only [Bool.not_true, Bool.false_eq_true, if_false, if_true, Bool.and_self]
  obtain ⟨hb, hn, hT⟩ := Z2B g0
  have hT1 : ∀ t ∈ T, t.length ≤ 1000 ∧ colsOK b t := fun t ht => ⟨by have := (hT t ht).1; omega, (hT t ht).2⟩
  have hC := Zco hb hT1
  refine Ev.ite (fun hh => ?_) (fun hh => ?_)
  ·have hh : (E.length : Int) ≠ (T.length : Int) := of_decide_eq_true hh
   rw [if_neg (fun h9 => hh (by have := congrArg List.length h9; simp at this; omega))]
   exact Ev.some _
  have hEl : E.length = T.length := by
   by_cases h9 : (E.length : Int) ≠ (T.length : Int)
   ·exact (hh (decide_eq_true h9)).elim
   ·omega
  have h8 := ZiB b T E T [] E [] hEl rfl (by simp; omega)
  simp only [List.nil_append, List.length_nil, Int.natCast_zero] at h8
  refine Ev.bind h8 ?_
  by_cases h9 : T.map List.length = E.map List.length
  ·rw [if_pos h9, if_pos h9]
   have hEL : ∀ t, t < T.length → (List.getD E t []).length = (List.getD T t []).length := fun t ht => by
    have := congrArg (fun l => List.getD l t 0) h9
    simp only [List.getD, List.getElem?_map, List.getElem?_eq_getElem ht, List.getElem?_eq_getElem (show t < E.length by omega), Option.map_some, Option.getD_some] at this ⊢
    exact this.symm
   refine Ev.go (Ev.bind (ZqA b hb T hT1 (by omega)) ?_)
   exact Ev.bind (ZiJ hC (by omega) E hEl hEL T rfl (casesL b T).length 0 (by omega)) (Ev.some _)
  ·rw [if_neg h9, if_neg h9]
   exact Ev.ret (Ev.some _)
theorem ZlK (b : BoardD) (T : List (List Int)) (E : List (List FallD)) (h0 : b.2.2.length ≤ 9223372036854775806) (h1 : T.length ≤ 9223372036854775806) (hx : ∀ x ∈ T, x.length ≤ 9223372036854775806) : Ev (fun k => Z91 k b T E) (Z7S b T E) := by
 refine Ev.succ ?_
 simp only [Z91]
 unfold Z7S
 refine Ev.bind (a := (smallB b && testsOK b T)) (Z86 b T h0 h1 hx) ?_
 cases g0 : (smallB b && testsOK b T) with
 | false => simp only [Bool.not_false, if_true, Bool.false_eq_true, if_false, Bool.false_and, Bool.and_false]; exact Ev.some _
 | true =>
  simp only [Bool.not_true, Bool.false_eq_true, if_false, if_true, Bool.and_self]
  obtain ⟨hb, hn, hT⟩ := Z2B g0
  have hT1 : ∀ t ∈ T, t.length ≤ 1000 ∧ colsOK b t := fun t ht => ⟨by have := (hT t ht).1; omega, (hT t ht).2⟩
  have hC := Zco hb hT1
  refine Ev.ite (fun hh => ?_) (fun hh => ?_)
  ·have hh : (E.length : Int) ≠ (T.length : Int) := of_decide_eq_true hh
   rw [if_neg (fun h9 => hh (by have := congrArg List.length h9; simp at this; omega))]
   exact Ev.some _
  have hEl : E.length = T.length := by
   by_cases h9 : (E.length : Int) ≠ (T.length : Int)
   ·exact (hh (decide_eq_true h9)).elim
   ·omega
  have h8 := ZiD b T E T [] E [] hEl rfl (by simp; omega)
  simp only [List.nil_append, List.length_nil, Int.natCast_zero] at h8
  refine Ev.bind h8 ?_
  by_cases h9 : T.map List.length = E.map List.length
  ·rw [if_pos h9, if_pos h9]
   have hEL : ∀ t, t < T.length → (List.getD E t []).length = (List.getD T t []).length := fun t ht => by
    have := congrArg (fun l => List.getD l t 0) h9
    simp only [List.getD, List.getElem?_map, List.getElem?_eq_getElem ht, List.getElem?_eq_getElem (show t < E.length by omega), Option.map_some, Option.getD_some] at this ⊢
    exact this.symm
   refine Ev.go (Ev.bind (Zie b hb T hT1 (by omega)) ?_)
   exact Ev.bind (Ziw hC (by omega) E hEl hEL T rfl (casesL b T).length 0 (by omega)) (Ev.some _)
  ·rw [if_neg h9, if_neg h9]
   exact Ev.ret (Ev.some _)
theorem ZAJ (b : BoardD) (T : List (List Int)) (E : List (List FallD)) : (Z7S b T E).1.length ≤ 271 := by
 unfold Z7S
 split
 ·rename_i h
  have h1 := Zxf (Z2B h).1 T
  split
  ·exact Nat.le_trans (ZxS _ _ _ _) h1
  ·simp
 ·simp
end Go.Proofs.Ytgjmhbjdhihgaaa.Vs

set_option linter.unusedVariables false
set_option linter.unusedSimpArgs false
namespace Go.Proofs.Ytgjmhbjdhihgaaa.Vs
open Go.RowKit
def faultOf (P : List FaultD) (x : Int) : List FaultD := if x ≥ 0 then [List.getD P x.toNat (0, 0, 0)] else []
theorem ZIJ (b : BoardD) (T : List (List Int)) {k : Nat} (hk : k < (casesL b T).length) : List.getD (casesL b T) k [] = T.map (endsOf b (faultOf (possFrom b.2.1 0 b.2.2) ((k : Int) - 1))) := by
 cases k with
 | zero => simp [casesL, faultOf]
 | succ k =>
  have hk2 : k < (possFrom b.2.1 0 b.2.2).length := by simp [casesL] at hk; omega
  have h1 : ((k + 1 : Nat) : Int) - 1 = (k : Int) := by omega
  have h2 : (k : Int) ≥ 0 := by omega
  simp only [casesL, List.getD_cons_succ, h1, faultOf, h2, if_true, Int.toNat_natCast]
  simp [List.getD, List.getElem?_map, List.getElem?_eq_getElem hk2]
theorem ZHt {α : Type} (d : α) (l : List α) {n : Nat} (h : l.length = n) : (List.range n).map (fun t => List.getD l t d) = l := by
 subst h
 refine List.ext_getElem (by simp) (fun i h1 h2 => ?_)
 simp [List.getD, List.getElem?_eq_getElem h2]
theorem ZIF {C : List (List (List FallD))} {n k : Nat} (h : (List.getD C k []).length = n) : keyC C (rangeI n) k = List.getD C k [] := by
 unfold keyC rangeI
 rw [List.map_map]
 exact ZHt [] _ h
theorem ZJO {C : List (List (List FallD))} {E : List (List FallD)} {n k : Nat} (h : E.length = n) : likeC C E n k = decide (keyC C (rangeI n) k = E) := by
 rw [Bool.eq_iff_iff, decide_eq_true_eq]
 unfold likeC keyC rangeI
 rw [List.map_map, List.all_eq_true]
 have e : E = (List.range n).map (fun t => List.getD E t []) := (ZHt [] E h).symm
 constructor
 ·intro hh
  rw [e]
  refine List.map_congr_left (fun t ht => ?_)
  have := of_decide_eq_true (hh t ht)
  exact this
 ·intro hh t ht
  apply decide_eq_true
  have h2 := hh.trans e
  have := List.map_inj_left.1 h2 t ht
  exact this
theorem ZGr {C : List (List (List FallD))} {n m f : Nat} (h : (keyC C (rangeI n) f).length = n) : likes C (keyC C (rangeI n) f) n m = members (keyC C (rangeI n)) m f := by
 unfold likes members
 congr 1
 exact List.filter_congr (fun j _ => ZJO h)
theorem Zuf {α : Type} : ∀ (l r : List (List α)), szRows (l ++ r) = szRows l + szRows r
 | [], r => by simp [szRows]
 | x :: l, r => by
  have := Zuf l r
  simp only [List.cons_append, szRows]
  omega
theorem ZDM (y : Int) : ∀ (l : List (List Int)) (i : Nat), i < l.length → szRows (List.set l i (List.getD l i [] ++ [y])) = szRows l + 1
 | [], i, h => by simp at h
 | x :: l, 0, h => by simp [szRows]; omega
 | x :: l, i + 1, h => by
  have := ZDM y l i (by simpa using h)
  simp only [List.set_cons_succ, List.getD_cons_succ, szRows]
  omega
theorem Zsh {α : Type} [DecidableEq α] (key : Nat → α) : ∀ (n : Nat), szRows (classesL key n) = n
 | 0 => by simp [classesL, firsts, szRows]
 | n + 1 => by
  have ih := Zsh key n
  by_cases h : placeIx key (key n) (firsts key n) < (firsts key n).length
  ·rw [ZAs key h, ZDM _ _ _ (by simpa [classesL] using h), ih]
   omega
  ·have h2 : placeIx key (key n) (firsts key n) = (firsts key n).length := Nat.le_antisymm (ZtG key _ _) (by omega)
   rw [ZAH key h2, Zuf, ih]
   simp [szRows]
theorem ZIe {α : Type} [DecidableEq α] (key : Nat → α) (n f : Nat) : List.Pairwise (fun a c : Int => a < c) (members key n f) := by
 unfold members
 refine List.Pairwise.map _ (fun a c hac => ?_) (List.Pairwise.filter _ List.pairwise_lt_range)
 omega
theorem ZAF {α : Type} [DecidableEq α] (key : Nat → α) (n : Nat) : ∃ r, firsts key (n + 1) = 0 :: r := by
 unfold firsts
 rw [List.range_succ_eq_map]
 have : isFirst key 0 = true := by simp [isFirst]
 rw [List.filter_cons_of_pos this]
 exact ⟨_, rfl⟩
structure ClassOK (b : BoardD) (T : List (List Int)) (det : List Int) (P : List FaultD) (i : Nat) (cls : List Int) : Prop where
 some : cls ≠ []
 asc : List.Pairwise (fun a c : Int => a < c) cls
 same : ∃ E, (∀ x ∈ cls, x < (P.length : Int) ∧ T.map (endsOf b (faultOf P x)) = E ∧ decide (x ∈ det) = decide ((i : Int) > 0)) ∧ Z7S b T E = (cls, true)
theorem ZJS {b : BoardD} {T : List (List Int)} (g0 : (smallB b && testsOK b T) = true) {i : Nat} {cls : List Int} (h : (Z6 b T).1[i]? = some cls) :
    ClassOK b T (ZN b T).1 (possFrom b.2.1 0 b.2.2) i cls := by
  obtain ⟨hb, hn, hT⟩ := Z2B g0
  have tab := Zco hb (T := T) (fun t ht => ⟨by have := (hT t ht).1; omega, (hT t ht).2⟩)
  have hm : (casesL b T).length = (possFrom b.2.1 0 b.2.2).length + 1 := by simp [casesL]
  unfold Z6 at h
  unfold ZN
  simp only [g0, if_true] at h ⊢
  unfold classesL at h
  rw [List.getElem?_map, Option.map_eq_some_iff] at h
  obtain ⟨f, hf, rfl⟩ := h
  have hfm : f ∈ firsts (keyC (casesL b T) (rangeI T.length)) (casesL b T).length := List.mem_of_getElem? hf
  obtain ⟨r, hr⟩ := ZtZ _ hfm
  have hfl := (ZjS _ hfm).1
  have kl : (keyC (casesL b T) (rangeI T.length) f).length = T.length := by unfold keyC; rw [List.length_map, Zcs]
  refine ⟨by rw [hr]; simp, ZIe _ _ _, keyC (casesL b T) (rangeI T.length) f, fun x hx => ?_, ?_⟩
  · unfold members at hx
    obtain ⟨k, hk, rfl⟩ := List.mem_map.1 hx
    obtain ⟨hk1, hk2⟩ := List.mem_filter.1 hk
    have hk1 := List.mem_range.1 hk1
    have hk2 := of_decide_eq_true hk2
    refine ⟨by omega, ?_, ?_⟩
    · rw [← ZIJ b T hk1, ← hk2, ZIF (tab.row k hk1)]
    · -- detected or not
      obtain ⟨r0, hr0⟩ := ZAF (keyC (casesL b T) (rangeI T.length)) (possFrom b.2.1 0 b.2.2).length
      rw [← hm] at hr0
      have hpw := Zp4 (keyC (casesL b T) (rangeI T.length)) (casesL b T).length
      rw [hr0] at hf hpw
      have h0 := (List.pairwise_cons.1 hpw).1
      apply decide_eq_decide.2
      cases i with
      | zero =>
        have : f = 0 := by simpa using hf.symm
        subst this
        constructor
        · intro hd
          exfalso
          have hge := Zhk _ _ _ _ hd
          obtain ⟨j, rfl⟩ : ∃ j, k = j + 1 := ⟨k - 1, by omega⟩
          have e1 : ((j + 1 : Nat) : Int) - 1 = (j : Int) := by omega
          rw [e1] at hd
          have := (ZpS _ _ 0 j (by omega) (by omega)).1 hd
          simp only [Bool.not_eq_true', decide_eq_false_iff_not] at this
          exact this hk2.symm
        · intro h; omega
      | succ i =>
        have hfr : f ∈ r0 := by
          rw [List.getElem?_cons_succ] at hf
          exact List.mem_of_getElem? hf
        have hne := h0 f hfr
        constructor
        · intro _; omega
        · intro _
          have hk0 : k ≠ 0 := fun h => hne (by rw [← hk2, h])
          obtain ⟨j, rfl⟩ : ∃ j, k = j + 1 := ⟨k - 1, by omega⟩
          have e1 : ((j + 1 : Nat) : Int) - 1 = (j : Int) := by omega
          rw [e1]
          refine (ZpS _ _ 0 j (by omega) (by omega)).2 ?_
          simp only [Bool.not_eq_true', decide_eq_false_iff_not]
          exact fun h => hne (h.trans hk2)
  · have hl : T.map List.length = (keyC (casesL b T) (rangeI T.length) f).map List.length := by
      rw [ZIF (tab.row f hfl), ZIJ b T hfl, List.map_map]
      refine List.map_congr_left (fun t _ => ?_)
      exact (Z7C _ _ _).symm
    unfold Z7S
    rw [if_pos g0, if_pos hl, ZGr kl]
theorem ZG5 {b : BoardD} {T : List (List Int)} (g0 : (smallB b && testsOK b T) = true) : ∃ c r, (Z6 b T).1 = ((-1) :: c) :: r := by
 unfold Z6
 simp only [g0, if_true]
 have hm : (casesL b T).length = (possFrom b.2.1 0 b.2.2).length + 1 := by simp [casesL]
 rw [hm]
 unfold classesL
 obtain ⟨r0, hr0⟩ := ZAF (keyC (casesL b T) (rangeI T.length)) (possFrom b.2.1 0 b.2.2).length
 obtain ⟨r, hr⟩ := ZtZ (keyC (casesL b T) (rangeI T.length)) (n := (possFrom b.2.1 0 b.2.2).length + 1) (f := 0) (by rw [hr0]; exact List.mem_cons_self ..)
 rw [hr0, List.map_cons, hr]
 exact ⟨_, _, rfl⟩
theorem ZI1 {b : BoardD} {T : List (List Int)} (g0 : (smallB b && testsOK b T) = true) : szRows (Z6 b T).1 = (possFrom b.2.1 0 b.2.2).length + 1 := by
 unfold Z6
 simp only [g0, if_true]
 rw [Zsh]
 simp [casesL]
end Go.Proofs.Ytgjmhbjdhihgaaa.Vs

set_option linter.unusedVariables false
set_option linter.unusedSimpArgs false
namespace Go.Proofs.Ytgjmhbjdhihgaaa.Vs
open Go.RowKit
def Zgt (b : BoardD) (l : List FaultD) (t : List Int) : List FallD × BoardD × Bool := if entriesOK b t && faultsB b l then (endsOf b l t, (b.1, b.2.1, leftOf b l t), true) else ([], (0, 0, []), false)
theorem Zxl (b : BoardD) (l : List FaultD) (t : List Int) (h0 : b.2.2.length ≤ 9223372036854775806) (h1 : l.length ≤ 9223372036854775806) (h2 : t.length ≤ 9223372036854775806) : Ev (fun k => Zbf k b l t) (Zgt b l t) := by
 refine Ev.succ ?_
 simp only [Zbf]
 unfold Zgt
 refine Ev.bind (a := entriesOK b t) (Ziy b t h0 h2) ?_
 cases g0 : entriesOK b t with
 | false => simp only [Bool.not_false, if_true, Bool.false_eq_true, if_false, Bool.false_and, Bool.and_false]; exact Ev.some _
 | true =>
  simp only [Bool.not_true, Bool.false_eq_true, if_false, if_true, Bool.and_self]
  obtain ⟨hb, ht, hc⟩ := ZJ5 g0
  refine Ev.bind (a := faultsB b l) (Zd4 b hb l h1) ?_
  cases g1 : faultsB b l with
  | false => simp only [Bool.not_false, if_true, Bool.false_eq_true, if_false, Bool.false_and, Bool.and_false]; exact Ev.some _
  | true =>
   simp only [Bool.not_true, Bool.false_eq_true, if_false, if_true, Bool.and_self]
   obtain ⟨hl4, hl⟩ := Z9e g1
   exact Ev.bind (Zk8 b hb l hl h1 t (by omega) hc) (Ev.some _)
end Go.Proofs.Ytgjmhbjdhihgaaa.Vs

set_option linter.unusedVariables false
set_option linter.unusedSimpArgs false
namespace Go.Proofs.Ytgjmhbjdhihgaaa.Vs
open Go.RowKit
theorem ZjR (b : BoardD) (l m : List FaultD) : ∀ (r : List (List Int)) (pre pre' : List (List FallD)), (∀ t ∈ r, t.length ≤ 1000) → pre'.length = pre.length → (pre ++ r.map (endsOf b l)).length ≤ 1000 → Ev (fun k => Z5l k (pre' ++ r.map (endsOf b m)) (pre ++ r.map (endsOf b l)) ((pre ++ r.map (endsOf b l)).length : Int) (pre.length : Int)) (if r.map (endsOf b l) = r.map (endsOf b m) then LR.go () else LR.ret (true, true))
 | [], pre, pre', ht, hp, hln => by
  refine Ev.succ ?_
  simp only [Z5l, List.map_nil, Zo, decide_false, Bool.false_eq_true, if_false, if_true]
  exact Ev.some _
 | t :: r, pre, pre', ht, hp, hln => by
  simp only [List.map_cons] at hln ⊢
  have e1 := Z7C b l t
  have e2 := Z7C b m t
  have t1 := ht t (List.mem_cons_self ..)
  generalize hx : endsOf b l t = x at *
  generalize hy : endsOf b m t = y at *
  have ih := ZjR b l m r (pre ++ [x]) (pre' ++ [y]) (fun z hz => ht z (List.mem_cons_of_mem _ hz)) (by simpa using hp) (by simpa using hln)
  have l2 : (pre.length : Int) < ((pre' ++ y :: r.map (endsOf b m)).length : Int) := by rw [← hp]; exact Ze _ _ _
  have g2 : List.getD (pre' ++ y :: r.map (endsOf b m)) pre.length [] = y := by rw [← hp]; exact Z9 _ _ _ _
  refine Ev.succ ?_
  simp only [Z5l, Ze, Zq, l2, decide_true, if_true, Int.toNat_natCast, Z9, g2]
  rw [Zi pre x (r.map (endsOf b l)) (by omega)]
  rw [← Z5, ← Z5] at ih
  have hn := ZfT 0 x y (by omega)
  refine Ev.bind (Zkz x y (by omega) (by omega)) (Ev.ite (fun h => ?_) (fun h => ?_))
  ·have hxy : ¬ x = y := fun hh => by rw [hn.2 hh] at h; simp [ixOf] at h
   rw [if_neg (fun hh => hxy (List.cons.inj hh).1)]
   exact Ev.some _
  ·have hxy : x = y := hn.1 ((ZH6 _).1 (by simp only [decide_eq_true_eq] at h; omega))
   refine ih.congr ?_
   simp [hxy]
theorem Zkr (b : BoardD) (l m : List FaultD) : ∀ (r : List (List Int)) (pre pre' : List (List FallD)), (∀ t ∈ r, t.length ≤ 1000) → pre'.length = pre.length → (pre ++ r.map (endsOf b l)).length ≤ 1000 → Ev (fun k => Z5x k (pre ++ r.map (endsOf b l)) (pre' ++ r.map (endsOf b m)) ((pre ++ r.map (endsOf b l)).length : Int) (pre.length : Int)) (if r.map (endsOf b l) = r.map (endsOf b m) then LR.go () else LR.ret (true, true))
 | [], pre, pre', ht, hp, hln => by
  refine Ev.succ ?_
  simp only [Z5x, List.map_nil, Zo, decide_false, Bool.false_eq_true, if_false, if_true]
  exact Ev.some _
 | t :: r, pre, pre', ht, hp, hln => by
  simp only [List.map_cons] at hln ⊢
  have e1 := Z7C b l t
  have e2 := Z7C b m t
  have t1 := ht t (List.mem_cons_self ..)
  generalize hx : endsOf b l t = x at *
  generalize hy : endsOf b m t = y at *
  have ih := Zkr b l m r (pre ++ [x]) (pre' ++ [y]) (fun z hz => ht z (List.mem_cons_of_mem _ hz)) (by simpa using hp) (by simpa using hln)
  have l2 : (pre.length : Int) < ((pre' ++ y :: r.map (endsOf b m)).length : Int) := by rw [← hp]; exact Ze _ _ _
  have g2 : List.getD (pre' ++ y :: r.map (endsOf b m)) pre.length [] = y := by rw [← hp]; exact Z9 _ _ _ _
  refine Ev.succ ?_
  simp only [Z5x, Ze, Zq, l2, decide_true, if_true, Int.toNat_natCast, Z9, g2]
  rw [Zi pre x (r.map (endsOf b l)) (by omega)]
  rw [← Z5, ← Z5] at ih
  refine Ev.bind (Z4k x y (by omega)) (Ev.ite (fun h => ?_) (fun h => ?_))
  ·have hxy : ¬ x = y := nd h
   rw [if_neg (fun hh => hxy (List.cons.inj hh).1)]
   exact Ev.some _
  ·have hxy : x = y := yd h
   refine ih.congr ?_
   simp [hxy]
def Z5R (b : BoardD) (T : List (List Int)) (l m : List FaultD) : Bool × Bool := if (smallB b && testsOK b T) && (faultsB b l && faultsB b m) then (!decide (T.map (endsOf b l) = T.map (endsOf b m)), true) else (false, false)
theorem ZBR (b : BoardD) (T : List (List Int)) (l m : List FaultD) (h0 : b.2.2.length ≤ 9223372036854775806) (h1 : T.length ≤ 9223372036854775806) (hx : ∀ x ∈ T, x.length ≤ 9223372036854775806) (h2 : l.length ≤ 9223372036854775806) (h3 : m.length ≤ 9223372036854775806) : Ev (fun k => Zcv k b T l m) (Z5R b T l m) := by
 refine Ev.succ ?_
 simp only [Zcv]
 unfold Z5R
 refine Ev.bind (a := (smallB b && testsOK b T)) (Z9K b T h0 h1 hx) ?_
 cases g0 : (smallB b && testsOK b T) with
 | false => simp only [Bool.not_false, if_true, Bool.false_eq_true, if_false, Bool.false_and, Bool.and_false]; exact Ev.some _
 | true =>
  simp only [Bool.not_true, Bool.false_eq_true, if_false, if_true, Bool.and_self]
  obtain ⟨hb, hn, hT⟩ := Z2B g0
  refine Ev.bind (a := faultsB b l) (Zg5 b hb l h2) ?_
  cases g1 : faultsB b l with
  | false => simp only [Bool.not_false, if_true, Bool.false_eq_true, if_false, Bool.false_and, Bool.and_false]; exact Ev.some _
  | true =>
   simp only [Bool.not_true, Bool.false_eq_true, if_false, if_true, Bool.and_self]
   obtain ⟨l4, lg⟩ := Z9e g1
   refine Ev.bind (a := faultsB b m) (Zg5 b hb m h3) ?_
   cases g2 : faultsB b m with
   | false => simp only [Bool.not_false, if_true, Bool.false_eq_true, if_false, Bool.false_and, Bool.and_false]; exact Ev.some _
   | true =>
    simp only [Bool.not_true, Bool.false_eq_true, if_false, if_true, Bool.and_self]
    obtain ⟨m4, mg⟩ := Z9e g2
    have hT1 : ∀ t ∈ T, t.length ≤ 1000 ∧ colsOK b t := fun t ht => ⟨by have := (hT t ht).1; omega, (hT t ht).2⟩
    refine Ev.bind (ZaS b hb l lg h2 T hT1 (by omega)) (Ev.bind (ZaS b hb m mg h3 T hT1 (by omega)) ?_)
    refine Ev.bind (ZjR b l m T [] [] (fun t ht => (hT1 t ht).1) rfl (by simp; omega)) ?_
    by_cases he : T.map (endsOf b l) = T.map (endsOf b m)
    ·rw [if_pos he, decide_eq_true he]; exact Ev.go (Ev.some _)
    ·rw [if_neg he, decide_eq_false he]; exact Ev.ret (Ev.some _)
theorem ZnS (b : BoardD) (T : List (List Int)) (l m : List FaultD) (h0 : b.2.2.length ≤ 9223372036854775806) (h1 : T.length ≤ 9223372036854775806) (hx : ∀ x ∈ T, x.length ≤ 9223372036854775806) (h2 : l.length ≤ 9223372036854775806) (h3 : m.length ≤ 9223372036854775806) : Ev (fun k => Z9R k b T l m) (Z5R b T l m) := by
 refine Ev.succ ?_
 simp only [Z9R]
 unfold Z5R
 refine Ev.bind (a := (smallB b && testsOK b T)) (Z86 b T h0 h1 hx) ?_
 cases g0 : (smallB b && testsOK b T) with
 | false => simp only [Bool.not_false, if_true, Bool.false_eq_true, if_false, Bool.false_and, Bool.and_false]; exact Ev.some _
 | true =>
  simp only [Bool.not_true, Bool.false_eq_true, if_false, if_true, Bool.and_self]
  obtain ⟨hb, hn, hT⟩ := Z2B g0
  refine Ev.bind (a := faultsB b l) (Zd4 b hb l h2) ?_
  cases g1 : faultsB b l with
  | false => simp only [Bool.not_false, if_true, Bool.false_eq_true, if_false, Bool.false_and, Bool.and_false]; exact Ev.some _
  | true =>
   simp only [Bool.not_true, Bool.false_eq_true, if_false, if_true, Bool.and_self]
   obtain ⟨l4, lg⟩ := Z9e g1
   refine Ev.bind (a := faultsB b m) (Zd4 b hb m h3) ?_
   cases g2 : faultsB b m with
   | false => simp only [Bool.not_false, if_true, Bool.false_eq_true, if_false, Bool.false_and, Bool.and_false]; exact Ev.some _
   | true =>
    simp only [Bool.not_true, Bool.false_eq_true, if_false, if_true, Bool.and_self]
    obtain ⟨m4, mg⟩ := Z9e g2
    have hT1 : ∀ t ∈ T, t.length ≤ 1000 ∧ colsOK b t := fun t ht => ⟨by have := (hT t ht).1; omega, (hT t ht).2⟩
    refine Ev.bind (Zb2 b hb l lg h2 T hT1 (by omega)) (Ev.bind (Zb2 b hb m mg h3 T hT1 (by omega)) ?_)
    refine Ev.bind (Zkr b l m T [] [] (fun t ht => (hT1 t ht).1) rfl (by simp; omega)) ?_
    by_cases he : T.map (endsOf b l) = T.map (endsOf b m)
    ·rw [if_pos he, decide_eq_true he]; exact Ev.go (Ev.some _)
    ·rw [if_neg he, decide_eq_false he]; exact Ev.ret (Ev.some _)
end Go.Proofs.Ytgjmhbjdhihgaaa.Vs

set_option linter.unusedVariables false
set_option linter.unusedSimpArgs false
namespace Go.Proofs.Ytgjmhbjdhihgaaa.Vs
open Go.RowKit
theorem ZHE {l : List Int} (h : ∀ x ∈ l, Wf (.int .u8) x) : ∀ x ∈ l, 0 ≤ x ∧ x ≤ 255 := by
 intro x hx
 have h2 : (Lit.int .u8 x).wf = true := h x hx
 simp only [Lit.wf, Bool.and_eq_true, decide_eq_true_eq] at h2
 have e1 : IntKind.u8.min = 0 := by decide
 have e2 : IntKind.u8.max = 255 := by decide
 omega
def Cur (code : List Int) (at' n : Int) : Prop := (∀ x ∈ code, 0 ≤ x ∧ x ≤ 255) ∧ code.length ≤ 9223372036854775807 ∧ 0 ≤ at' ∧ at' + n ≤ 4611686018427387904
theorem Cur.to {code : List Int} {at' n at2 m : Int} (h : Cur code at' n) (h1 : at' ≤ at2) (h2 : at2 + m ≤ at' + n) : Cur code at2 m := ⟨h.1, h.2.1, by have := h.2.2.1; omega, by have := h.2.2.2; omega⟩
theorem Zqm (n : Int) (h0 : 0 ≤ n) (h1 : n < 2 ^ 64) : IntKind.u64.wrap n = n := by
 have : (2 : Int) ^ 64 = 18446744073709551616 := by decide
 simp [IntKind.wrap, IntKind.bits, IntKind.signed]
 omega
theorem and255 (x : Int) : 0 ≤ bits BinOp.and IntKind.u64 x 255 ∧ bits BinOp.and IntKind.u64 x 255 ≤ 255 := by
 unfold bits
 simp only
 have h : ((BitVec.ofInt IntKind.u64.bits x &&& BitVec.ofInt IntKind.u64.bits 255).toNat) ≤ 255 := by
  rw [BitVec.toNat_and]
  exact Nat.and_le_right
 have h2 : ((2 : Int) ^ 64) = 18446744073709551616 := by decide
 rw [Zqm _ (Int.natCast_nonneg _) (by omega)]
 omega
theorem ZFi {l : List Int} {i : Int} (h : i < (l.length : Int)) (h0 : 0 ≤ i) : List.getD l i.toNat 0 ∈ l := by
 have hi : i.toNat < l.length := by omega
 simp only [List.getD, List.getElem?_eq_getElem hi, Option.getD_some]
 exact List.getElem_mem hi
def seedN (s b : Int) : Int := IntKind.wrap IntKind.u64 (IntKind.wrap IntKind.u64 (IntKind.wrap IntKind.u64 (s * 6364136223846793005) + IntKind.wrap IntKind.u64 b) + 1442695040888963407)
theorem ZJg {code : List Int} {at' : Int} (seed : Int) (h : Cur code at' 1) : ∃ v s, Ev (fun k => Z6t k (code, at', seed)) (v, at' + 1, s) ∧ 0 ≤ v ∧ v ≤ 255 := by
 obtain ⟨hb, hl, h0, h1⟩ := h
 have w1 : wrap64 (at' + 1) = at' + 1 := w64 (by omega) (by omega)
 have big : ∀ x : Int, 0 ≤ wrap64 (bits BinOp.and IntKind.u64 x 255) ∧ wrap64 (bits BinOp.and IntKind.u64 x 255) ≤ 255 := fun x => by
  have := and255 x
  rw [w64 (by omega) (by omega)]
  exact this
 by_cases hin : at' < (code.length : Int)
 ·have hx := hb _ (ZFi hin h0)
  have w2 : wrap64 (List.getD code at'.toNat 0) = List.getD code at'.toNat 0 := w64 (by omega) (by omega)
  have hle : at' + 1 ≤ (code.length : Int) := by omega
  refine ⟨List.getD code at'.toNat 0, seedN seed (List.getD code at'.toNat 0), Ev.succ ?_, hx.1, hx.2⟩
  simp only [Z6t, hin, h0, w1, hle, decide_true, if_true, w2]
  exact Ev.some _
 ·have hle : ¬ at' + 1 ≤ (code.length : Int) := by omega
  refine ⟨wrap64 (bits BinOp.and IntKind.u64 (Int.fdiv (seedN seed 0) (2 ^ min (Int.toNat 40) (IntKind.bits IntKind.u64))) 255), seedN seed 0, Ev.succ ?_, (big _).1, (big _).2⟩
  simp only [Z6t, hin, w1, hle, decide_false, Bool.false_eq_true, if_false]
  exact Ev.some _
theorem ZDD {code : List Int} {at' : Int} (seed n : Int) (h : Cur code at' 2) : ∃ v at2 s, Ev (fun k => Z1 k (code, at', seed) n) (v, at2, s) ∧ at' ≤ at2 ∧ at2 ≤ at' + 2 ∧ 0 ≤ v ∧ (n ≤ 1 → v = 0) ∧ (1 < n → v < n) := by
 by_cases hn : n ≤ 1
 ·refine ⟨0, at', seed, Ev.succ ?_, by omega, by omega, by omega, fun _ => rfl, fun h => by omega⟩
  simp only [Z1, hn, decide_true, if_true]
  exact Ev.some _
 ·obtain ⟨v1, s1, e1, b1, b2⟩ := ZJg seed (h.to (at2 := at') (m := 1) (by omega) (by omega))
  by_cases hb : n > 200
  ·obtain ⟨v2, s2, e2, b3, b4⟩ := ZJg s1 (h.to (at2 := at' + 1) (m := 1) (by omega) (by omega))
   have hp : 0 ≤ v1 * 256 + v2 := by omega
   refine ⟨Int.tmod (v1 * 256 + v2) n, at' + 1 + 1, s2, Ev.succ ?_, by omega, by omega, Int.tmod_nonneg _ hp, fun h => by omega, fun _ => Int.tmod_lt_of_pos _ (by omega)⟩
   have hn0 : ¬ n = 0 := by omega
   simp only [Z1, hn, decide_false, Bool.false_eq_true, if_false]
   refine Ev.bind e1 ?_
   simp only [hb, decide_true, if_true]
   refine Ev.bind e2 ?_
   simp only [hn0, if_false]
   rw [w64 (n := v1 * 256) (by omega) (by omega), w64 (n := v1 * 256 + v2) (by omega) (by omega)]
   exact Ev.some _
  ·refine ⟨Int.tmod v1 n, at' + 1, s1, Ev.succ ?_, by omega, by omega, Int.tmod_nonneg _ b1, fun h => by omega, fun _ => Int.tmod_lt_of_pos _ (by omega)⟩
   have hn0 : ¬ n = 0 := by omega
   simp only [Z1, hn, decide_false, Bool.false_eq_true, if_false]
   refine Ev.bind e1 ?_
   simp only [hb, decide_false, Bool.false_eq_true, if_false, hn0]
   exact Ev.some _
theorem ZgX {code : List Int} {at' : Int} (seed : Int) (l : List Int) (hl : 0 < l.length) (h : Cur code at' 2) : ∃ v at2 s, Ev (fun k => Zh k (code, at', seed) l) (v, at2, s) ∧ at' ≤ at2 ∧ at2 ≤ at' + 2 ∧ v ∈ l := by
 obtain ⟨v, at2, s, e1, b1, b2, b3, b4, b5⟩ := ZDD seed (l.length : Int) h
 have hlt : v < (l.length : Int) := by
  by_cases h1 : (l.length : Int) ≤ 1
  ·rw [b4 h1]; omega
  ·exact b5 (by omega)
 refine ⟨List.getD l v.toNat 0, at2, s, Ev.succ ?_, b1, b2, ZFi hlt b3⟩
 simp only [Zh]
 refine Ev.bind e1 ?_
 simp only [b3, hlt, if_true]
 exact Ev.some _
end Go.Proofs.Ytgjmhbjdhihgaaa.Vs

set_option linter.unusedVariables false
set_option linter.unusedSimpArgs false
namespace Go.Proofs.Ytgjmhbjdhihgaaa.Vs
open Go.RowKit
theorem ZCB {code : List Int} {at' : Int} (seed n : Int) (h : Cur code at' 2) : ∃ b at2 s, Ev (fun k => ZO k (code, at', seed) n) (b, at2, s) ∧ at' ≤ at2 ∧ at2 ≤ at' + 2 := by
 obtain ⟨v, at2, s, e1, b1, b2, _⟩ := ZDD seed n h
 refine ⟨decide (v = 0), at2, s, Ev.succ ?_, b1, b2⟩
 simp only [ZO]
 exact Ev.bind e1 (Ev.some _)
theorem ZgY {code : List Int} {at' : Int} (seed n : Int) (h : Cur code at' 2) (hn : 0 < n) : ∃ v at2 s, Ev (fun k => Z1 k (code, at', seed) n) (v, at2, s) ∧ at' ≤ at2 ∧ at2 ≤ at' + 2 ∧ 0 ≤ v ∧ v < n := by
 obtain ⟨v, at2, s, e1, b1, b2, b3, b4, b5⟩ := ZDD seed n h
 refine ⟨v, at2, s, e1, b1, b2, b3, ?_⟩
 by_cases h1 : n ≤ 1
 ·rw [b4 h1]; exact hn
 ·exact b5 (by omega)
end Go.Proofs.Ytgjmhbjdhihgaaa.Vs

set_option linter.unusedVariables false
set_option linter.unusedSimpArgs false
namespace Go.Proofs.Ytgjmhbjdhihgaaa.Vs
open Go.RowKit
theorem ZwM : ∀ (d : Nat) (v : Int) (acc : List (Int × Int)), v + d = 8 → 0 ≤ v → (acc.length : Int) ≤ 2 * v → (0 < v → 0 < acc.length) → ∃ l, Ev (fun k => Z5E k acc v) l ∧ 0 < l.length ∧ l.length ≤ 16
 | 0, v, acc, hv, h0, h1, h2 => by
  have hn : ¬ v ≤ 7 := by omega
  refine ⟨acc, Ev.succ ?_, h2 (by omega), by omega⟩
  simp only [Z5E, hn, decide_false, Bool.false_eq_true, if_false]
  exact Ev.some _
 | d + 1, v, acc, hv, h0, h1, h2 => by
  have hle : v ≤ 7 := by omega
  have hw : wrap64 (v + 1) = v + 1 := w64 (by omega) (by omega)
  have hal : acc.length + 1 ≤ 140737488355328 / 16 := by omega
  have hal2 : (acc ++ [(v, (0 : Int))]).length + 1 ≤ 140737488355328 / 16 := by simp; omega
  have ht := Zae (v, 1)
  cases hb : turning (v, 1) with
  | true =>
   rw [hb] at ht
   obtain ⟨l, e1, g1, g2⟩ := ZwM d (v + 1) (acc ++ [(v, 0)] ++ [(v, 1)]) (by omega) (by omega) (by simp; omega) (by simp)
   refine ⟨l, Ev.succ ?_, g1, g2⟩
   simp only [Z5E, hle, decide_true, if_true, List.length_singleton, hal, hw]
   refine Ev.bind ht ?_
   simp only [if_true, hal2]
   exact e1
  | false =>
   rw [hb] at ht
   obtain ⟨l, e1, g1, g2⟩ := ZwM d (v + 1) (acc ++ [(v, 0)]) (by omega) (by omega) (by simp; omega) (by simp)
   refine ⟨l, Ev.succ ?_, g1, g2⟩
   simp only [Z5E, hle, decide_true, if_true, List.length_singleton, hal, hw]
   refine Ev.bind ht ?_
   simp only [Bool.false_eq_true, if_false]
   exact e1
theorem ZJu {code : List Int} {at' : Int} (seed : Int) (h : Cur code at' 2) : ∃ x at2 s, Ev (fun k => Z4j k (code, at', seed)) (x, at2, s) ∧ at' ≤ at2 ∧ at2 ≤ at' + 2 := by
 obtain ⟨l, e0, g1, g2⟩ := ZwM 8 0 [] (by omega) (by omega) (by simp) (by omega)
 obtain ⟨v, at2, s, e1, b1, b2, b3, b4⟩ := ZgY seed (l.length : Int) h (by omega)
 refine ⟨(List.getD l v.toNat (0, 0)), at2, s, Ev.succ ?_, b1, b2⟩
 have hp : Ev (fun k => ZhI k) l := by
  refine Ev.succ ?_
  simp only [ZhI]
  exact Ev.bind e0 (Ev.some _)
 simp only [Z4j]
 refine Ev.bind hp (Ev.bind e1 ?_)
 simp only [b3, b4, if_true]
 exact Ev.some _
theorem ZJk {code : List Int} {at' : Int} (seed : Int) (h : Cur code at' 6) : ∃ x at2 s, Ev (fun k => Z1p k (code, at', seed)) (x, at2, s) ∧ at' ≤ at2 ∧ at2 ≤ at' + 6 := by
 obtain ⟨x, a0, s0, e0, b1, b2⟩ := ZJu seed (h.to (at2 := at') (m := 2) (by omega) (by omega))
 obtain ⟨v, a1, s1, e1, b3, b4, _⟩ := ZgY s0 20 (h.to (at2 := a0) (m := 2) (by omega) (by omega)) (by omega)
 by_cases h0 : v = 0
 ·obtain ⟨y, a2, s2, e2, b5, b6, _⟩ := ZgX s1 [-1, 8] (by simp) (h.to (at2 := a1) (m := 2) (by omega) (by omega))
  refine ⟨(y, x.2), a2, s2, Ev.succ ?_, by omega, by omega⟩
  simp only [Z1p]
  refine Ev.bind e0 (Ev.bind e1 ?_)
  simp only [h0, decide_true, if_true]
  exact Ev.bind e2 (Ev.some _)
 ·by_cases h1 : v = 1
  ·obtain ⟨y, a2, s2, e2, b5, b6, _⟩ := ZgX s1 [-1, 1, 2] (by simp) (h.to (at2 := a1) (m := 2) (by omega) (by omega))
   refine ⟨(x.1, y), a2, s2, Ev.succ ?_, by omega, by omega⟩
   simp only [Z1p]
   refine Ev.bind e0 (Ev.bind e1 ?_)
   subst h1
   simp only [h0, decide_true, decide_false, Bool.false_eq_true, if_false, if_true]
   exact Ev.bind e2 (Ev.some _)
  ·refine ⟨(x.1, x.2), a1, s1, Ev.succ ?_, by omega, by omega⟩
   simp only [Z1p]
   refine Ev.bind e0 (Ev.bind e1 ?_)
   simp only [h0, h1, decide_false, Bool.false_eq_true, if_false]
   exact Ev.some _
theorem ZAw (code : List Int) (n : Nat) (hn : n ≤ 1000) (v1 v2 v8 b30 b31 b50 b51 : Int) (o4 : List (Int × Int)) (hw : wrap64 (v1 * v2) = (n : Int)) : ∀ (d : Nat) (acc : List (Int × Int)) (at' seed : Int), acc.length + d = n → Cur code at' (10 * d) → ∃ at2 s l, Ev (fun k => Zc k at' seed code b30 b31 o4 b50 b51 acc v1 v2 v8) (at2, s, code, b30, b31, o4, b50, b51, l) ∧ l.length = n ∧ at' ≤ at2 ∧ at2 ≤ at' + 10 * d
 | 0, acc, at', seed, h, hc => by
  have hlt : ¬ (acc.length : Int) < (n : Int) := by omega
  refine ⟨at', seed, acc, Ev.succ ?_, by omega, by omega, by omega⟩
  simp only [Zc, hw, hlt, decide_false, Bool.false_eq_true, if_false]
  exact Ev.some _
 | d + 1, acc, at', seed, h, hc => by
  have hlt : (acc.length : Int) < (n : Int) := by omega
  have hal : acc.length + 1 ≤ 140737488355328 / 16 := by omega
  have step : ∀ (x : Int × Int) (a1 s1 : Int), at' ≤ a1 → a1 ≤ at' + 10 → ∃ at2 s l, Ev (fun k => Zc k a1 s1 code b30 b31 o4 b50 b51 (acc ++ [x]) v1 v2 v8) (at2, s, code, b30, b31, o4, b50, b51, l) ∧ l.length = n ∧ at' ≤ at2 ∧ at2 ≤ at' + 10 * ((d + 1 : Nat) : Int) := by
   intro x a1 s1 g1 g2
   obtain ⟨a2, s2, l, e, c1, c2, c3⟩ := ZAw code n hn v1 v2 v8 b30 b31 b50 b51 o4 hw d (acc ++ [x]) a1 s1 (by simp; omega) (hc.to (at2 := a1) (by omega) (by omega))
   exact ⟨a2, s2, l, e, c1, by omega, by omega⟩
  have part : ∀ (a1 s1 : Int), at' ≤ a1 → a1 ≤ at' + 4 → ∃ at2 s l, Ev (fun k => Option.bind (Z4j k (code, a1, s1)) fun z2 => if decide (z2.1.1 = 5) = true then Option.bind (ZO k (code, z2.2.1, z2.2.2) 3) fun z3 => if (!z3.1) = true then Option.bind (Z1 k (code, z3.2.1, z3.2.2) 2) fun z4 => Zc k z4.2.1 z4.2.2 code b30 b31 o4 b50 b51 (acc ++ [(3, z4.1)]) v1 v2 v8 else Zc k z3.2.1 z3.2.2 code b30 b31 o4 b50 b51 (acc ++ [(z2.1.1, z2.1.2)]) v1 v2 v8 else Zc k z2.2.1 z2.2.2 code b30 b31 o4 b50 b51 (acc ++ [(z2.1.1, z2.1.2)]) v1 v2 v8) (at2, s, code, b30, b31, o4, b50, b51, l) ∧ l.length = n ∧ at' ≤ at2 ∧ at2 ≤ at' + 10 * ((d + 1 : Nat) : Int) := by
   intro a1 s1 g1 g2
   obtain ⟨x, a2, s2, e2, b1, b2⟩ := ZJu s1 (hc.to (at2 := a1) (m := 2) (by omega) (by omega))
   by_cases hx : x.1 = 5
   ·obtain ⟨q, a3, s3, e3, b3, b4⟩ := ZCB s2 3 (hc.to (at2 := a2) (m := 2) (by omega) (by omega))
    cases q with
    | true =>
     obtain ⟨a5, s5, l, e5, c1, c2, c3⟩ := step (x.1, x.2) a3 s3 (by omega) (by omega)
     refine ⟨a5, s5, l, Ev.bind e2 ?_, c1, c2, c3⟩
     simp only [hx, decide_true, if_true]
     refine Ev.bind e3 ?_
     simp only [Bool.not_true, Bool.false_eq_true, if_false]
     rw [hx] at e5
     exact e5
    | false =>
     obtain ⟨v, a4, s4, e4, b5, b6, _⟩ := ZgY s3 2 (hc.to (at2 := a3) (m := 2) (by omega) (by omega)) (by omega)
     obtain ⟨a5, s5, l, e5, c1, c2, c3⟩ := step (3, v) a4 s4 (by omega) (by omega)
     refine ⟨a5, s5, l, Ev.bind e2 ?_, c1, c2, c3⟩
     simp only [hx, decide_true, if_true]
     refine Ev.bind e3 ?_
     simp only [Bool.not_false, if_true]
     exact Ev.bind e4 e5
   ·obtain ⟨a5, s5, l, e5, c1, c2, c3⟩ := step (x.1, x.2) a2 s2 (by omega) (by omega)
    refine ⟨a5, s5, l, Ev.bind e2 ?_, c1, c2, c3⟩
    simp only [hx, decide_false, Bool.false_eq_true, if_false]
    exact e5
  obtain ⟨q, a1, s1, e1, b1, b2⟩ := ZCB seed v8 (hc.to (at2 := at') (m := 2) (by omega) (by omega))
  cases q with
  | true =>
   obtain ⟨a5, s5, l, e5, c1, c2, c3⟩ := part a1 s1 b1 (by omega)
   refine ⟨a5, s5, l, Ev.succ ?_, c1, c2, c3⟩
   simp only [Zc, hw, hlt, decide_true, if_true]
   refine Ev.bind e1 ?_
   simp only [if_true, List.length_singleton, hal]
   exact e5
  | false =>
   obtain ⟨q2, a2, s2, e2, b3, b4⟩ := ZCB s1 3 (hc.to (at2 := a1) (m := 2) (by omega) (by omega))
   cases q2 with
   | true =>
    obtain ⟨a5, s5, l, e5, c1, c2, c3⟩ := part a2 s2 (by omega) (by omega)
    refine ⟨a5, s5, l, Ev.succ ?_, c1, c2, c3⟩
    simp only [Zc, hw, hlt, decide_true, if_true]
    refine Ev.bind e1 ?_
    simp only [Bool.false_eq_true, if_false]
    refine Ev.bind e2 ?_
    simp only [if_true, List.length_singleton, hal]
    exact e5
   | false =>
    obtain ⟨a5, s5, l, e5, c1, c2, c3⟩ := step (0, 0) a2 s2 (by omega) (by omega)
    refine ⟨a5, s5, l, Ev.succ ?_, c1, c2, c3⟩
    simp only [Zc, hw, hlt, decide_true, if_true]
    refine Ev.bind e1 ?_
    simp only [Bool.false_eq_true, if_false]
    refine Ev.bind e2 ?_
    simp only [Bool.false_eq_true, if_false, List.length_singleton, hal, if_true]
    exact e5
theorem ZwS {code : List Int} {at' : Int} (seed r c : Int) (n : Nat) (hw : wrap64 (r * c) = (n : Int)) (hn : n ≤ 100) (h : Cur code at' 1010) : ∃ l at2 s, Ev (fun k => Z1o k (code, at', seed) r c) ((r, c, l), at2, s) ∧ at' ≤ at2 ∧ at2 ≤ at' + 1010 ∧ l.length = n := by
 obtain ⟨v, a0, s0, e0, b1, b2, _⟩ := ZgX seed [1, 2, 2] (by simp) (h.to (at2 := at') (m := 2) (by omega) (by omega))
 obtain ⟨a1, s1, l, e1, c1, c2, c3⟩ := ZAw code n (by omega) r c v 0 0 r c [] hw n [] a0 s0 (by simp) (h.to (at2 := a0) (by omega) (by omega))
 refine ⟨l, a1, s1, Ev.succ ?_, by omega, by omega, c1⟩
 simp only [Z1o]
 exact Ev.bind e0 (Ev.bind e1 (Ev.some _))
theorem Zyp {r c : Int} (r1 : 1 ≤ r) (r2 : r ≤ 10) (c1 : 1 ≤ c) (c2 : c ≤ 9) : 1 ≤ r * c ∧ r * c ≤ 90 := by
 have h1 : r * c ≤ 10 * 9 := Int.mul_le_mul r2 c2 (by omega) (by omega)
 have h2 : 1 * 1 ≤ r * c := Int.mul_le_mul r1 c1 (by omega) (by omega)
 omega
theorem ZK1 {code : List Int} {at' : Int} (seed : Int) (h : Cur code at' 1020) : ∃ r c l at2 s, Ev (fun k => Z7K k (code, at', seed)) ((r, c, l), at2, s) ∧ at' ≤ at2 ∧ at2 ≤ at' + 1020 ∧ 1 ≤ r ∧ r ≤ 10 ∧ 1 ≤ c ∧ c ≤ 9 ∧ (l.length : Int) = r * c := by
 obtain ⟨q, a0, s0, e0, b1, b2⟩ := ZCB seed 20 (h.to (at2 := at') (m := 2) (by omega) (by omega))
 cases q with
 | true =>
  obtain ⟨r, a1, s1, e1, b3, b4, b5⟩ := ZgX s0 [1, 10] (by simp) (h.to (at2 := a0) (m := 2) (by omega) (by omega))
  obtain ⟨c, a2, s2, e2, b6, b7, b8⟩ := ZgX s1 [1, 9] (by simp) (h.to (at2 := a1) (m := 2) (by omega) (by omega))
  simp only [List.mem_cons, List.not_mem_nil, or_false] at b5 b8
  have hp := Zyp (r := r) (c := c) (by omega) (by omega) (by omega) (by omega)
  obtain ⟨l, a3, s3, e3, c1, c2, c3⟩ := ZwS s2 r c (r * c).toNat (by rw [w64 (by omega) (by omega)]; omega) (by omega) (h.to (at2 := a2) (by omega) (by omega))
  refine ⟨r, c, l, a3, s3, Ev.succ ?_, by omega, by omega, by omega, by omega, by omega, by omega, by omega⟩
  simp only [Z7K]
  refine Ev.bind e0 ?_
  simp only [if_true]
  exact Ev.bind e1 (Ev.bind e2 (Ev.bind e3 (Ev.some _)))
 | false =>
  obtain ⟨r, a1, s1, e1, b3, b4, b5, b6⟩ := ZgY s0 5 (h.to (at2 := a0) (m := 2) (by omega) (by omega)) (by omega)
  obtain ⟨c, a2, s2, e2, b7, b8, b9, b10⟩ := ZgY s1 5 (h.to (at2 := a1) (m := 2) (by omega) (by omega)) (by omega)
  have w1 : wrap64 (1 + r) = 1 + r := w64 (by omega) (by omega)
  have w2 : wrap64 (1 + c) = 1 + c := w64 (by omega) (by omega)
  have hp := Zyp (r := 1 + r) (c := 1 + c) (by omega) (by omega) (by omega) (by omega)
  obtain ⟨l, a3, s3, e3, c1, c2, c3⟩ := ZwS s2 (1 + r) (1 + c) ((1 + r) * (1 + c)).toNat (by rw [w64 (by omega) (by omega)]; omega) (by omega) (h.to (at2 := a2) (by omega) (by omega))
  refine ⟨1 + r, 1 + c, l, a3, s3, Ev.succ ?_, by omega, by omega, by omega, by omega, by omega, by omega, by omega⟩
  simp only [Z7K]
  refine Ev.bind e0 ?_
  simp only [Bool.false_eq_true, if_false]
  refine Ev.bind e1 (Ev.bind e2 ?_)
  simp only [w1, w2]
  exact Ev.bind e3 (Ev.some _)
theorem ZJ0 {code : List Int} {at' : Int} (seed : Int) (h : Cur code at' 1040) : ∃ b at2 s, Ev (fun k => ZA k (code, at', seed)) (b, at2, s) ∧ at' ≤ at2 ∧ at2 ≤ at' + 1040 ∧ b.2.2.length ≤ 91 := by
 obtain ⟨r, c, l, a0, s0, e0, b1, b2, r1, r2, c1, c2, hl⟩ := ZK1 seed (h.to (at2 := at') (by omega) (by omega))
 obtain ⟨v, a1, s1, e1, b3, b4, _⟩ := ZgY s0 36 (h.to (at2 := a0) (m := 2) (by omega) (by omega)) (by omega)
 have hp := Zyp r1 r2 c1 c2
 by_cases v0 : v = 0
 ·subst v0
  obtain ⟨x, a2, s2, e2, b5, b6, _⟩ := ZgX s1 [0, wrap64 (r + 1), 10, 11] (by simp) (h.to (at2 := a1) (m := 2) (by omega) (by omega))
  refine ⟨(x, c, l), a2, s2, Ev.succ ?_, by omega, by omega, by dsimp only; omega⟩
  simp only [ZA]
  refine Ev.bind e0 (Ev.bind e1 ?_)
  simp only [decide_true, if_true]
  exact Ev.bind e2 (Ev.some _)
 by_cases v1 : v = 1
 ·subst v1
  obtain ⟨x, a2, s2, e2, b5, b6, _⟩ := ZgX s1 [0, wrap64 (c + 1), 9, 10] (by simp) (h.to (at2 := a1) (m := 2) (by omega) (by omega))
  refine ⟨(r, x, l), a2, s2, Ev.succ ?_, by omega, by omega, by dsimp only; omega⟩
  simp only [ZA]
  refine Ev.bind e0 (Ev.bind e1 ?_)
  simp only [v0, decide_true, decide_false, Bool.false_eq_true, if_false, if_true]
  exact Ev.bind e2 (Ev.some _)
 by_cases v2 : v = 2
 ·subst v2
  obtain ⟨i, a2, s2, e2, b5, b6, b7, b8⟩ := ZgY s1 (l.length : Int) (h.to (at2 := a1) (m := 2) (by omega) (by omega)) (by omega)
  obtain ⟨x, a3, s3, e3, b9, b10⟩ := ZJk s2 (h.to (at2 := a2) (by omega) (by omega))
  have hg : Ev (fun k => Z1v k a1 s1 code 0 0 [] r c l) (a3, s3, code, 0, 0, [], r, c, List.set l i.toNat (x.1, x.2)) := by
   simp only [Z1v]
   refine Ev.bind e2 (Ev.bind e3 ?_)
   simp only [b7, b8, if_true]
   exact Ev.some _
  refine ⟨(r, c, List.set l i.toNat (x.1, x.2)), a3, s3, Ev.succ ?_, by omega, by omega, by dsimp only; rw [List.length_set]; omega⟩
  simp only [ZA]
  refine Ev.bind e0 (Ev.bind e1 ?_)
  simp only [v0, v1, decide_true, decide_false, Bool.false_eq_true, if_false, if_true]
  exact Ev.bind hg (Ev.some _)
 by_cases v3 : v = 3
 ·subst v3
  have h1 : 1 ≤ (l.length : Int) := by omega
  refine ⟨(r, c, List.drop (Int.toNat 1) l), a1, s1, Ev.succ ?_, by omega, by omega, by dsimp only; rw [List.length_drop]; omega⟩
  simp only [ZA]
  refine Ev.bind e0 (Ev.bind e1 ?_)
  simp only [v0, v1, v2, decide_true, decide_false, Bool.false_eq_true, if_false, if_true, h1, Int.le_refl]
  exact Ev.some _
 by_cases v4 : v = 4
 ·subst v4
  refine ⟨(11, 2, List.replicate (Int.toNat 22) (0, 0)), a1, s1, Ev.succ ?_, by omega, by omega, by dsimp only; rw [List.length_replicate]; decide⟩
  simp only [ZA]
  refine Ev.bind e0 (Ev.bind e1 ?_)
  simp only [v0, v1, v2, v3, decide_true, decide_false, Bool.false_eq_true, if_false, if_true]
  exact Ev.some _
 by_cases v5 : v = 5
 ·subst v5
  refine ⟨(2, 10, List.replicate (Int.toNat 20) (0, 0)), a1, s1, Ev.succ ?_, by omega, by omega, by dsimp only; rw [List.length_replicate]; decide⟩
  simp only [ZA]
  refine Ev.bind e0 (Ev.bind e1 ?_)
  simp only [v0, v1, v2, v3, v4, decide_true, decide_false, Bool.false_eq_true, if_false, if_true]
  exact Ev.some _
 refine ⟨(r, c, l), a1, s1, Ev.succ ?_, by omega, by omega, by dsimp only; omega⟩
 simp only [ZA]
 refine Ev.bind e0 (Ev.bind e1 ?_)
 simp only [v0, v1, v2, v3, v4, v5, decide_false, Bool.false_eq_true, if_false]
 exact Ev.some _
end Go.Proofs.Ytgjmhbjdhihgaaa.Vs

set_option linter.unusedVariables false
set_option linter.unusedSimpArgs false
namespace Go.Proofs.Ytgjmhbjdhihgaaa.Vs
open Go.RowKit
theorem ZKm (a b : Int) : ∃ m, Ev (fun k => ZaQ k a b) m ∧ a ≤ m ∧ (m = a ∨ m = b) := by
 by_cases h : a > b
 ·refine ⟨a, Ev.succ ?_, by omega, .inl rfl⟩
  simp only [ZaQ, h, decide_true, if_true]
  exact Ev.some _
 ·refine ⟨b, Ev.succ ?_, by omega, .inr rfl⟩
  simp only [ZaQ, h, decide_false, Bool.false_eq_true, if_false]
  exact Ev.some _
end Go.Proofs.Ytgjmhbjdhihgaaa.Vs

set_option linter.unusedVariables false
set_option linter.unusedSimpArgs false
namespace Go.Proofs.Ytgjmhbjdhihgaaa.Vs
open Go.RowKit
end Go.Proofs.Ytgjmhbjdhihgaaa.Vs

set_option linter.unusedVariables false
set_option linter.unusedSimpArgs false
namespace Go.Proofs.Ytgjmhbjdhihgaaa.Vs
open Go.RowKit
def EvP {α : Type} (f : Nat → Option α) (Q : α → Prop) : Prop := ∃ v, Ev f v ∧ Q v
section
variable {α β : Type} {f g : Nat → Option α} {Q : α → Prop} {Q1 : β → Prop}
theorem EvP.some {v : α} (h : Q v) : EvP (fun _ => some v) Q := ⟨v, Ev.some v, h⟩
theorem EvP.succ (h : EvP (fun k => f (k + 1)) Q) : EvP f Q := by
 obtain ⟨v, h1, h2⟩ := h
 exact ⟨v, Ev.succ h1, h2⟩
theorem EvP.bind {x : Nat → Option β} {y : β → Nat → Option α} (h : EvP x Q1) (h2 : ∀ a, Q1 a → EvP (y a) Q) : EvP (fun k => Option.bind (x k) fun z => y z k) Q := by
 obtain ⟨a, h1, h3⟩ := h
 obtain ⟨v, h4, h5⟩ := h2 a h3
 exact ⟨v, Ev.bind h1 h4, h5⟩
theorem EvP.ite {c : Prop} [Decidable c] (h1 : c → EvP f Q) (h2 : ¬ c → EvP g Q) : EvP (fun k => if c then f k else g k) Q := by
 by_cases hc : c
 ·simp only [if_pos hc]; exact h1 hc
 ·simp only [if_neg hc]; exact h2 hc
theorem EvP.guard {c : Prop} [Decidable c] (hc : c) (h : EvP f Q) : EvP (fun k => if c then f k else none) Q := by
 simp only [if_pos hc]; exact h
theorem EvP.mono {Q' : α → Prop} (h : EvP f Q) (hq : ∀ v, Q v → Q' v) : EvP f Q' := by
 obtain ⟨v, h1, h2⟩ := h
 exact ⟨v, h1, hq v h2⟩
theorem EvP.ev {v : α} (h : Ev f v) (hq : Q v) : EvP f Q := ⟨v, h, hq⟩
end
section
variable {code : List Int} {at' seed : Int}
theorem Z4d (n : Int) (h : Cur code at' 2) (hn : 0 < n) : EvP (fun k => Z1 k (code, at', seed) n) (fun r => at' ≤ r.2.1 ∧ r.2.1 ≤ at' + 2 ∧ 0 ≤ r.1 ∧ r.1 < n) := by
 obtain ⟨v, a, s, e, h1, h2, h3, h4⟩ := ZgY seed n h hn
 exact ⟨_, e, h1, h2, h3, h4⟩
theorem ZK8 (n : Int) (h : Cur code at' 2) : EvP (fun k => Z1 k (code, at', seed) n) (fun r => at' ≤ r.2.1 ∧ r.2.1 ≤ at' + 2 ∧ 0 ≤ r.1) := by
 obtain ⟨v, a, s, e, h1, h2, h3, _⟩ := ZDD seed n h
 exact ⟨_, e, h1, h2, h3⟩
theorem ZDl (n : Int) (h : Cur code at' 2) : EvP (fun k => ZO k (code, at', seed) n) (fun r => at' ≤ r.2.1 ∧ r.2.1 ≤ at' + 2) := by
 obtain ⟨v, a, s, e, h1, h2⟩ := ZCB seed n h
 exact ⟨_, e, h1, h2⟩
theorem ZII (l : List Int) (hl : 0 < l.length) (h : Cur code at' 2) : EvP (fun k => Zh k (code, at', seed) l) (fun r => at' ≤ r.2.1 ∧ r.2.1 ≤ at' + 2 ∧ r.1 ∈ l) := by
 obtain ⟨v, a, s, e, h1, h2, h3⟩ := ZgX seed l hl h
 exact ⟨_, e, h1, h2, h3⟩
theorem ZDE (h : Cur code at' 1040) : EvP (fun k => ZA k (code, at', seed)) (fun r => at' ≤ r.2.1 ∧ r.2.1 ≤ at' + 1040 ∧ r.1.2.2.length ≤ 91) := by
 obtain ⟨x, a, s, e, h1, h2, h3⟩ := ZJ0 seed h
 exact ⟨_, e, h1, h2, h3⟩
end
end Go.Proofs.Ytgjmhbjdhihgaaa.Vs

set_option linter.unusedVariables false
set_option linter.unusedSimpArgs false
namespace Go.Proofs.Ytgjmhbjdhihgaaa.Vs
open Go.RowKit
theorem two64 : (2 : Int) ^ 64 = 18446744073709551616 := by decide
theorem and1 (x : Int) : bits BinOp.and IntKind.i64 x 1 = 0 ∨ bits BinOp.and IntKind.i64 x 1 = 1 := by
 unfold bits
 simp only
 have h : ((BitVec.ofInt IntKind.i64.bits x &&& BitVec.ofInt IntKind.i64.bits 1).toNat) ≤ 1 := by
  rw [BitVec.toNat_and]
  exact Nat.and_le_right
 generalize (BitVec.ofInt IntKind.i64.bits x &&& BitVec.ofInt IntKind.i64.bits 1).toNat = m at h
 have : m = 0 ∨ m = 1 := by omega
 rcases this with rfl | rfl
 ·left; decide
 ·right; decide
theorem ZKd (s v : Int) (h0 : 0 ≤ v) (h1 : v ≤ 100) : EvP (fun k => ZhO k s v) (fun b => b = 0 ∨ b = 1) := by
 refine EvP.succ ?_
 have hw : IntKind.wrap IntKind.u64 v = v := Zqm v h0 (by rw [two64]; omega)
 have hn : ¬ v < 0 := by omega
 simp only [ZhO, hw, hn, if_false]
 exact EvP.some (and1 _)
theorem ZAy (n : Nat) (hn : n ≤ 4) (set d1 d2 e1 e2 : Int) (o2 : List CellD) : ∀ (d i : Nat) (o : List CellD), i + d = n → o.length = 6 * n → (∀ x ∈ o, cellOK x = true) →
    EvP (fun k => Z71 k d1 d2 o2 e1 e2 o (n : Int) set (i : Int)) (fun r => r.2.2.2.1 = e1 ∧ r.2.2.2.2.1 = e2 ∧ r.2.2.2.2.2.length = 6 * n ∧ ∀ x ∈ r.2.2.2.2.2, cellOK x = true)
  | 0, i, o, h, ho, hx => by
    refine EvP.succ ?_
    have hlt : ¬ (i : Int) < (n : Int) := by omega
    simp only [Z71, hlt, decide_false, Bool.false_eq_true, if_false]
    exact EvP.some ⟨rfl, rfl, ho, hx⟩
  | d + 1, i, o, h, ho, hx => by
    refine EvP.succ ?_
    have hlt : (i : Int) < (n : Int) := by omega
    have w1 : wrap64 (wrap64 (6 * (i : Int)) + 1) = ((6 * i + 1 : Nat) : Int) := by rw [w64 (n := 6 * (i : Int)) (by omega) (by omega), w64 (by omega) (by omega)]; omega
    have w2 : wrap64 (wrap64 (6 * (i : Int)) + 5) = ((6 * i + 5 : Nat) : Int) := by rw [w64 (n := 6 * (i : Int)) (by omega) (by omega), w64 (by omega) (by omega)]; omega
    have w3 : wrap64 ((i : Int) + 1) = ((i + 1 : Nat) : Int) := by rw [w64 (by omega) (by omega)]; omega
    simp only [Z71, hlt, decide_true, if_true, w1, w2, w3, Int.toNat_natCast]
    refine EvP.bind (ZKd set (i : Int) (by omega) (by omega)) (fun z hz => ?_)
    refine EvP.guard (by omega) (EvP.guard (by omega) (EvP.guard (by omega) (EvP.guard (by rw [List.length_set]; omega) ?_)))
    refine ZAy n hn set d1 d2 e1 e2 o2 d (i + 1) _ (by omega) (by rw [List.length_set, List.length_set]; exact ho) (fun x hx' => ?_)
    rcases List.mem_or_eq_of_mem_set hx' with h1 | rfl
    · rcases List.mem_or_eq_of_mem_set h1 with h2 | rfl
      · exact hx x h2
      · rcases hz with rfl | rfl <;> decide
    · decide
theorem ZJv (n set : Int) (h1 : 1 ≤ n) (h4 : n ≤ 4) : EvP (fun k => Zfb k n set) (fun b => b.1 = 2 * n ∧ b.2.1 = 3 ∧ (b.2.2.length : Int) = 6 * n ∧ ∀ x ∈ b.2.2, cellOK x = true) := by
 refine EvP.succ ?_
 have w1 : wrap64 (6 * n) = 6 * n := w64 (by omega) (by omega)
 have w2 : wrap64 (2 * n) = 2 * n := w64 (by omega) (by omega)
 obtain ⟨m, rfl⟩ : ∃ m : Nat, n = (m : Int) := ⟨n.toNat, by omega⟩
 simp only [Zfb, w1, w2]
 refine EvP.guard (by omega) (EvP.guard (by omega) ?_)
 refine EvP.bind (ZAy m (by omega) set 0 0 (2 * (m : Int)) 3 [] m 0 (List.replicate (6 * (m : Int)).toNat (0, 0)) (by omega) (by rw [List.length_replicate]; omega) (fun x hx => by rw [(List.mem_replicate.1 hx).2]; decide)) (fun r hr => ?_)
 exact EvP.some ⟨hr.1, hr.2.1, by have := hr.2.2.1; dsimp only; omega, hr.2.2.2⟩
section
variable {code : List Int} {at' seed : Int}
end
end Go.Proofs.Ytgjmhbjdhihgaaa.Vs

set_option linter.unusedVariables false
set_option linter.unusedSimpArgs false
namespace Go.Proofs.Ytgjmhbjdhihgaaa.Vs
open Go.RowKit
theorem ZKl (a b : Int) : EvP (fun k => ZaQ k a b) (fun m => a ≤ m) := by
 obtain ⟨m, e, h, _⟩ := ZKm a b
 exact ⟨m, e, h⟩
theorem ZHa (C i : Int) (x : CellD) : 0 < (kindsAt C i x).length := by
 unfold kindsAt
 rw [List.length_map]
 refine List.length_pos_of_mem (a := 2) (List.mem_filter.2 ⟨by simp, ?_⟩)
 simp [fits]
theorem ZJz {b : BoardD} (hb : boardOK b = true) : 0 < (possFrom b.2.1 0 b.2.2).length := by
 obtain ⟨g1, g2, g3, g4, g5, g6⟩ := Z1k hb
 have hpp := Z1a g1 g2 g3 g4
 have hp : 0 < b.1 * b.2.1 := Int.mul_pos (by omega) (by omega)
 cases hc : b.2.2 with
 | nil => rw [hc] at g5; simp only [List.length_nil] at g5; omega
 | cons x r =>
  simp only [possFrom, List.length_append]
  have := ZHa b.2.1 0 x
  omega
section
variable {code : List Int} {at' seed : Int}
theorem Zxp (r c : Int) (n : Nat) (hw : wrap64 (r * c) = (n : Int)) (hn : n ≤ 100) (h : Cur code at' 1010) : EvP (fun k => Z1o k (code, at', seed) r c) (fun z => at' ≤ z.2.1 ∧ z.2.1 ≤ at' + 1010 ∧ z.1.2.2.length = n) := by
 obtain ⟨l, a, s, e, h1, h2, h3⟩ := ZwS seed r c n hw hn h
 exact ⟨_, e, h1, h2, h3⟩
theorem Zyl (code : List Int) (b30 b31 b50 b51 : Int) (o4 : List CellD) : ∀ (d i : Nat) (o6 : List CellD) (at' seed : Int), i + d = 9 → o6.length = 9 → Cur code at' (2 * d) →
    EvP (fun k => Z2x k at' seed code b30 b31 o4 b50 b51 o6 9 (i : Int)) (fun z => ∃ a s l, z = (a, s, code, b30, b31, o4, b50, b51, l) ∧ l.length = 9 ∧ at' ≤ a ∧ a ≤ at' + 2 * d)
  | 0, i, o6, at', seed, h, hl, hc => by
    refine EvP.succ ?_
    have hlt : ¬ (i : Int) < 9 := by omega
    simp only [Z2x, hlt, decide_false, Bool.false_eq_true, if_false]
    exact EvP.some ⟨at', seed, o6, rfl, hl, by omega, by omega⟩
  | d + 1, i, o6, at', seed, h, hl, hc => by
    refine EvP.succ ?_
    have hlt : (i : Int) < 9 := by omega
    simp only [Z2x, hlt, decide_true, if_true]
    refine EvP.bind (Q1 := fun z => ∃ a s l, z = (a, s, code, b30, b31, o4, b50, b51, l, (9 : Int), (i : Int)) ∧ l.length = 9 ∧ at' ≤ a ∧ a ≤ at' + 2) ?_ (fun z hz => ?_)
    · simp only [Z25]
      refine EvP.bind (Z4d 2 (hc.to (by omega) (by omega)) (by omega)) (fun y hy => ?_)
      refine EvP.guard (by omega) (EvP.guard (by omega) (EvP.some ⟨y.2.1, y.2.2, _, rfl, by rw [List.length_set]; exact hl, by omega, by omega⟩))
    · obtain ⟨a, s, l, rfl, h1, h2, h3⟩ := hz
      have w : wrap64 ((i : Int) + 1) = ((i + 1 : Nat) : Int) := by rw [w64 (by omega) (by omega)]; omega
      dsimp only
      rw [w]
      refine (Zyl code b30 b31 b50 b51 o4 d (i + 1) l a s (by omega) h1 (hc.to (by omega) (by omega))).mono (fun z hz => ?_)
      obtain ⟨a2, s2, l2, e, g1, g2, g3⟩ := hz
      exact ⟨a2, s2, l2, e, g1, by omega, by omega⟩
theorem Zyj (code : List Int) (n : Nat) (hn : n ≤ 1000) (b30 b31 b50 b51 : Int) (o4 : List CellD) : ∀ (d i : Nat) (o6 : List CellD) (v7 at' seed : Int), i + d = n → o6.length = n → Cur code at' (2 * d) →
    EvP (fun k => Z1m k at' seed code b30 b31 o4 b50 b51 o6 v7 (n : Int) (i : Int)) (fun z => ∃ a s l, z = (a, s, code, b30, b31, o4, b50, b51, l) ∧ l.length = n ∧ at' ≤ a ∧ a ≤ at' + 2 * d)
  | 0, i, o6, v7, at', seed, h, hl, hc => by
    refine EvP.succ ?_
    have hlt : ¬ (i : Int) < (n : Int) := by omega
    simp only [Z1m, hlt, decide_false, Bool.false_eq_true, if_false]
    exact EvP.some ⟨at', seed, o6, rfl, hl, by omega, by omega⟩
  | d + 1, i, o6, v7, at', seed, h, hl, hc => by
    refine EvP.succ ?_
    have hlt : (i : Int) < (n : Int) := by omega
    have w : wrap64 ((i : Int) + 1) = ((i + 1 : Nat) : Int) := by rw [w64 (by omega) (by omega)]; omega
    have ih := fun (o6 : List CellD) (v7 a s : Int) (h1 : o6.length = n) (h2 : at' ≤ a) (h3 : a ≤ at' + 2) => (Zyj code n hn b30 b31 b50 b51 o4 d (i + 1) o6 v7 a s (by omega) h1 (hc.to (by omega) (by omega))).mono (Q' := fun z => ∃ a s l, z = (a, s, code, b30, b31, o4, b50, b51, l) ∧ l.length = n ∧ at' ≤ a ∧ a ≤ at' + 2 * ((d + 1 : Nat) : Int)) (fun z hz => by
      obtain ⟨a2, s2, l2, e, g1, g2, g3⟩ := hz
      exact ⟨a2, s2, l2, e, g1, by omega, by omega⟩)
    simp only [Z1m, hlt, decide_true, if_true, w]
    refine EvP.guard (by omega) (EvP.guard (by omega) ?_)
    refine EvP.bind (EvP.ev (Q := fun _ => True) (Zae _) trivial) (fun q _ => ?_)
    refine EvP.ite (fun _ => EvP.ite (fun _ => ?_) (fun _ => ih _ _ _ _ hl (by omega) (by omega))) (fun _ => ih _ _ _ _ hl (by omega) (by omega))
    refine EvP.bind (Q1 := fun z => ∃ a s l, z = (a, s, code, b30, b31, o4, b50, b51, l, wrap64 (v7 + 1), (n : Int), (i : Int)) ∧ l.length = n ∧ at' ≤ a ∧ a ≤ at' + 2) ?_ (fun z hz => ?_)
    · simp only [Z1Y]
      refine EvP.bind (ZII _ (by simp) (hc.to (by omega) (by omega))) (fun y hy => ?_)
      refine EvP.guard (by omega) (EvP.guard (by omega) (EvP.some ⟨y.2.1, y.2.2, _, rfl, by rw [List.length_set]; exact hl, by omega, by omega⟩))
    · obtain ⟨a, s, l, rfl, h1, h2, h3⟩ := hz
      dsimp only
      rw [w]
      exact ih _ _ _ _ h1 h2 h3
theorem ZJf (h : Cur code at' 1300) : EvP (fun k => Z8v k (code, at', seed)) (fun r => at' ≤ r.2.1 ∧ r.2.1 ≤ at' + 1300 ∧ r.1.2.2.length ≤ 91) := by
 refine EvP.succ ?_
 simp only [Z8v]
 refine EvP.bind (Z4d 8 (h.to (by omega) (by omega)) (by omega)) (fun z0 h0 => ?_)
 refine EvP.ite (fun _ => ?_) (fun _ => EvP.ite (fun _ => ?_) (fun _ => EvP.ite (fun _ => ?_) (fun _ => ?_)))
 ·refine EvP.bind (ZDE (h.to (by omega) (by omega))) (fun z4 h4 => ?_)
  exact EvP.some ⟨by dsimp only; omega, by dsimp only; omega, h4.2.2⟩
 ·refine EvP.bind (Z4d 3 (h.to (by omega) (by omega)) (by omega)) (fun z2 h2 => ?_)
  have w0 : wrap64 (1 + z2.1) = 1 + z2.1 := w64 (by omega) (by omega)
  have w1 : IntKind.wrap IntKind.u64 (1 + z2.1) = 1 + z2.1 := Zqm _ (by omega) (by rw [two64]; omega)
  have hn : ¬ (1 + z2.1 < 0) := by omega
  simp only [w0, w1, hn, if_false]
  refine EvP.bind (ZK8 _ (h.to (by omega) (by omega))) (fun z1 h1 => ?_)
  refine EvP.bind (ZJv _ _ (by omega) (by omega)) (fun z3 h3 => ?_)
  exact EvP.some ⟨by dsimp only; omega, by dsimp only; omega, by dsimp only; omega⟩
 ·have e9 : (List.replicate (Int.toNat 9) ((0, 0) : CellD)).length = 9 := by rw [List.length_replicate]; rfl
  have c9 : (((List.replicate (Int.toNat 9) ((0, 0) : CellD)).length : Nat) : Int) = 9 := by rw [e9]; rfl
  rw [c9]
  refine EvP.bind (Zyl code 0 0 3 3 [] 9 0 _ z0.2.1 z0.2.2 (by omega) e9 (h.to (by omega) (by omega))) (fun z hz => ?_)
  obtain ⟨a, s, l, rfl, h1, h2, h3⟩ := hz
  dsimp only
  refine EvP.bind (ZDl 3 (h.to (by omega) (by omega))) (fun z10 h10 => ?_)
  refine EvP.bind (Q1 := fun z => ∃ a s l, z = (a, s, code, 0, 0, [], 3, 3, l) ∧ l.length = 9 ∧ at' ≤ a ∧ a ≤ at' + 1000) ?_ (fun z hz => ?_)
  ·simp only [Z95]
   refine EvP.ite (fun _ => ?_) (fun _ => EvP.some ⟨z10.2.1, z10.2.2, l, rfl, h1, by omega, by omega⟩)
   simp only [Z23]
   refine EvP.bind (Q1 := fun z => ∃ a s l, z = (a, s, code, 0, 0, [], 3, 3, l) ∧ l.length = 9 ∧ at' ≤ a ∧ a ≤ at' + 1000) ?_ (fun z hz => by obtain ⟨a, s, l, rfl, h1, h2, h3⟩ := hz; exact EvP.some ⟨a, s, l, rfl, h1, h2, h3⟩)
   refine EvP.bind (Z4d 9 (h.to (by omega) (by omega)) (by omega)) (fun y hy => ?_)
   exact EvP.guard (by omega) (EvP.guard (by omega) (EvP.some ⟨y.2.1, y.2.2, _, rfl, by rw [List.length_set]; exact h1, by omega, by omega⟩))
  ·obtain ⟨a, s, l, rfl, h1, h2, h3⟩ := hz
   exact EvP.some ⟨by dsimp only; omega, by dsimp only; omega, by dsimp only; omega⟩
 ·refine EvP.bind (Z4d 4 (h.to (by omega) (by omega)) (by omega)) (fun z16 h16 => ?_)
  refine EvP.bind (Z4d 4 (h.to (by omega) (by omega)) (by omega)) (fun z17 h17 => ?_)
  have w0 : wrap64 (1 + z16.1) = 1 + z16.1 := w64 (by omega) (by omega)
  have w1 : wrap64 (1 + z17.1) = 1 + z17.1 := w64 (by omega) (by omega)
  have hp := Zyp (r := 1 + z16.1) (c := 1 + z17.1) (by omega) (by omega) (by omega) (by omega)
  rw [w0, w1]
  refine EvP.bind (Zxp _ _ ((1 + z16.1) * (1 + z17.1)).toNat (by rw [w64 (by omega) (by omega)]; omega) (by omega) (h.to (by omega) (by omega))) (fun z18 h18 => ?_)
  refine EvP.bind (Zyj code z18.1.2.2.length (by omega) 0 0 z18.1.1 z18.1.2.1 [] z18.1.2.2.length 0 z18.1.2.2 0 z18.2.1 z18.2.2 (by omega) rfl (h.to (by omega) (by omega))) (fun z hz => ?_)
  obtain ⟨a, s, l, rfl, h1, h2, h3⟩ := hz
  exact EvP.some ⟨by dsimp only; omega, by dsimp only; omega, by dsimp only; omega⟩
def TestsIn (T : List (List Int)) : Prop := T.length ≤ 11 ∧ ∀ x ∈ T, x.length ≤ 9
theorem ZDK (code : List Int) (b30 b31 b50 b51 : Int) (o4 o6 : List CellD) (o7 : List (List Int)) (v6 v8 : Int) : ∀ (d : Nat) (o8 : List Int) (at' seed : Int), v8 ≤ ((o8.length + d : Nat) : Int) → o8.length + d ≤ 9 → Cur code at' (2 * d) →
    EvP (fun k => Z3t k at' seed code b30 b31 o4 b50 b51 o6 o7 o8 v6 v8) (fun z => ∃ a s l, z = (a, s, code, b30, b31, o4, b50, b51, o6, o7, l, v6) ∧ l.length ≤ 9 ∧ at' ≤ a ∧ a ≤ at' + 2 * d)
  | 0, o8, at', seed, h, hl, hc => by
    refine EvP.succ ?_
    have hlt : ¬ (o8.length : Int) < v8 := by omega
    simp only [Z3t, hlt, decide_false, Bool.false_eq_true, if_false]
    exact EvP.some ⟨at', seed, o8, rfl, by omega, by omega, by omega⟩
  | d + 1, o8, at', seed, h, hl, hc => by
    refine EvP.succ ?_
    simp only [Z3t]
    refine EvP.ite (fun _ => ?_) (fun _ => EvP.some ⟨at', seed, o8, rfl, by omega, by omega, by omega⟩)
    refine EvP.bind (ZKl 1 b51) (fun m hm => ?_)
    refine EvP.bind (Z4d m (hc.to (by omega) (by omega)) (by omega)) (fun y hy => ?_)
    refine EvP.guard (by simp only [List.length_cons, List.length_nil]; omega) ?_
    refine (ZDK code b30 b31 b50 b51 o4 o6 o7 v6 v8 d (o8 ++ [y.1]) y.2.1 y.2.2 (by simp; omega) (by simp; omega) (hc.to (by omega) (by omega))).mono (fun z hz => ?_)
    obtain ⟨a2, s2, l2, e, g1, g2, g3⟩ := hz
    exact ⟨a2, s2, l2, e, g1, by omega, by omega⟩
theorem ZCO (code : List Int) (b30 b31 b50 b51 : Int) (o4 o6 : List CellD) (v6 : Int) : ∀ (d : Nat) (o7 : List (List Int)) (at' seed : Int), v6 ≤ ((o7.length + d : Nat) : Int) → o7.length + d ≤ 11 → o7.length ≤ max v6 0 → (∀ x ∈ o7, x.length ≤ 9) → Cur code at' (40 * d) →
    EvP (fun k => Z3p k at' seed code b30 b31 o4 b50 b51 o6 o7 v6) (fun z => ∃ a s l, z = (a, s, code, b30, b31, o4, b50, b51, o6, l, v6) ∧ TestsIn l ∧ (l.length : Int) = max v6 0 ∧ at' ≤ a ∧ a ≤ at' + 40 * d)
  | 0, o7, at', seed, h, hl, hv, hx, hc => by
    refine EvP.succ ?_
    have hlt : ¬ (o7.length : Int) < v6 := by omega
    simp only [Z3p, hlt, decide_false, Bool.false_eq_true, if_false]
    exact EvP.some ⟨at', seed, o7, rfl, ⟨by omega, hx⟩, by omega, by omega, by omega⟩
  | d + 1, o7, at', seed, h, hl, hv, hx, hc => by
    refine EvP.succ ?_
    simp only [Z3p, decide_eq_true_eq]
    refine EvP.ite (fun hlt => ?_) (fun hlt => EvP.some ⟨at', seed, o7, rfl, ⟨by omega, hx⟩, by omega, by omega, by omega⟩)
    refine EvP.bind (Z4d 4 (hc.to (by omega) (by omega)) (by omega)) (fun z11 h11 => ?_)
    refine EvP.bind (ZDl 12 (hc.to (by omega) (by omega))) (fun z12 h12 => ?_)
    refine EvP.bind (Q1 := fun z => ∃ a s m : Int, z = (a, s, code, b30, b31, o4, b50, b51, o6, o7, [], v6, m) ∧ m ≤ 9 ∧ at' ≤ a ∧ a ≤ at' + 8) ?_ (fun z hz => ?_)
    · simp only [ZaE]
      refine EvP.ite (fun _ => ?_) (fun _ => EvP.some ⟨z12.2.1, z12.2.2, z11.1, rfl, by omega, by omega, by omega⟩)
      refine EvP.bind (Z4d 2 (hc.to (by omega) (by omega)) (by omega)) (fun z13 h13 => ?_)
      refine EvP.bind (Z4d 2 (hc.to (by omega) (by omega)) (by omega)) (fun z14 h14 => EvP.some ⟨z14.2.1, z14.2.2, _, rfl, ?_, by omega, by omega⟩)
      have h1 : z13.1 = 0 ∨ z13.1 = 1 := by omega
      have h2 : z14.1 = 0 ∨ z14.1 = 1 := by omega
      rcases h1 with e1 | e1 <;> rcases h2 with e2 | e2 <;> rw [e1, e2, w64 (n := _ * _) (by omega) (by omega), w64 (by omega) (by omega)] <;> decide
    · obtain ⟨a, s, m, rfl, h1, h2, h3⟩ := hz
      dsimp only
      refine EvP.bind (ZDK code b30 b31 b50 b51 o4 o6 o7 v6 m 9 [] a s (by simpa using h1) (by simp) (hc.to (by omega) (by omega))) (fun z hz => ?_)
      obtain ⟨a2, s2, l2, rfl, g1, g2, g3⟩ := hz
      dsimp only
      refine EvP.guard (by simp only [List.length_cons, List.length_nil]; omega) ?_
      refine (ZCO code b30 b31 b50 b51 o4 o6 v6 d (o7 ++ [l2]) a2 s2 (by simp; omega) (by simp; omega) (by simp; omega) (fun x hx' => ?_) (hc.to (by omega) (by omega))).mono (fun z hz => ?_)
      · rcases List.mem_append.1 hx' with h5 | h5
        · exact hx x h5
        · rw [List.mem_singleton.1 h5]; exact g1
      · obtain ⟨a4, s4, l4, e, k1, k2, k3, k4⟩ := hz
        exact ⟨a4, s4, l4, e, k1, k2, by omega, by omega⟩
theorem ZtV (h : Cur code at' 5000) : EvP (fun k => Z38 k (code, at', seed)) (fun r => at' ≤ r.2.2.1 ∧ r.2.2.1 ≤ at' + 5000 ∧ r.1.2.2.length ≤ 91 ∧ TestsIn r.2.1) := by
 refine EvP.succ ?_
 simp only [Z38]
 refine EvP.bind (ZJf (h.to (by omega) (by omega))) (fun z0 h0 => ?_)
 refine EvP.bind (Z4d 20 (h.to (by omega) (by omega)) (by omega)) (fun z1 h1 => ?_)
 refine EvP.bind (Q1 := fun z => ∃ a s : Int, ∃ b : BoardD, z = (a, s, code, 0, 0, [], b.1, b.2.1, b.2.2) ∧ at' ≤ a ∧ a ≤ at' + 4000 ∧ b.2.2.length ≤ 91) ?_ (fun z hz => ?_)
 ·simp only [ZaB]
  refine EvP.ite (fun _ => ?_) (fun _ => EvP.ite (fun _ => ?_) (fun _ => EvP.some ⟨z1.2.1, z1.2.2, z0.1, rfl, by omega, by omega, h0.2.2⟩))
  ·exact EvP.bind (ZDE (h.to (by omega) (by omega))) (fun z2 h2 => EvP.some ⟨z2.2.1, z2.2.2, z2.1, rfl, by omega, by omega, h2.2.2⟩)
  ·refine EvP.bind (Zxp 6 5 30 (by rw [w64 (by omega) (by omega)]; rfl) (by omega) (h.to (by omega) (by omega))) (fun z3 h3 => ?_)
   refine EvP.bind (ZDl 3 (h.to (by omega) (by omega))) (fun z4 h4 => ?_)
   refine EvP.ite (fun _ => ?_) (fun _ => EvP.some ⟨z4.2.1, z4.2.2, z3.1, rfl, by omega, by omega, by omega⟩)
   exact EvP.bind (Zxp 8 4 32 (by rw [w64 (by omega) (by omega)]; rfl) (by omega) (h.to (by omega) (by omega))) (fun z5 h5 => EvP.some ⟨z5.2.1, z5.2.2, z5.1, rfl, by omega, by omega, by omega⟩)
 obtain ⟨a3, s3, b, rfl, q1, q2, q3⟩ := hz
 dsimp only
 refine EvP.bind (Z4d 4 (h.to (by omega) (by omega)) (by omega)) (fun z7 h7 => ?_)
 refine EvP.bind (ZDl 16 (h.to (by omega) (by omega))) (fun z8 h8 => ?_)
 refine EvP.bind (Q1 := fun z => ∃ a s n : Int, z = (a, s, code, 0, 0, [], b.1, b.2.1, b.2.2, [], n) ∧ 0 ≤ n ∧ n ≤ 11 ∧ at' ≤ a ∧ a ≤ at' + 4010) ?_ (fun z hz => ?_)
 ·simp only [ZaC]
  refine EvP.ite (fun _ => ?_) (fun _ => EvP.some ⟨z8.2.1, z8.2.2, z7.1, rfl, by omega, by omega, by omega, by omega⟩)
  refine EvP.bind (Z4d 2 (h.to (by omega) (by omega)) (by omega)) (fun z9 h9 => ?_)
  have w : wrap64 (10 + z9.1) = 10 + z9.1 := w64 (by omega) (by omega)
  rw [w]
  exact EvP.some ⟨z9.2.1, z9.2.2, _, rfl, by omega, by omega, by omega, by omega⟩
 obtain ⟨a4, s4, n, rfl, n1, n2, q4, q5⟩ := hz
 dsimp only
 refine EvP.bind (ZCO code 0 0 b.1 b.2.1 [] b.2.2 n 11 [] a4 s4 (by simpa using n2) (by simp) (by simp; omega) (fun x hx => by cases hx) (h.to (by omega) (by omega))) (fun z hz => ?_)
 obtain ⟨a5, s5, T, rfl, t1, t2, q6, q7⟩ := hz
 dsimp only
 refine EvP.ite (fun hn => ?_) (fun _ => EvP.some ⟨by dsimp only; omega, by dsimp only; omega, q3, t1⟩)
 simp only [decide_eq_true_eq] at hn
 refine EvP.bind (ZDl 24 (h.to (by omega) (by omega))) (fun z20 h20 => ?_)
 refine EvP.ite (fun _ => ?_) (fun _ => EvP.some ⟨by dsimp only; omega, by dsimp only; omega, q3, t1⟩)
 refine EvP.bind (Q1 := fun z => ∃ a s T, z = (a, s, code, 0, 0, [], b.1, b.2.1, b.2.2, T) ∧ TestsIn T ∧ at' ≤ a ∧ a ≤ at' + 5000) ?_ (fun z hz => ?_)
 ·simp only [Z2A]
  refine EvP.bind (Z4d n (h.to (by omega) (by omega)) (by omega)) (fun y hy => ?_)
  refine EvP.bind (ZII _ (by simp) (h.to (by omega) (by omega))) (fun x hx => ?_)
  refine EvP.guard (by omega) (EvP.guard (by omega) (EvP.some ⟨x.2.1, x.2.2, _, rfl, ⟨by rw [List.length_set]; exact t1.1, fun u hu => ?_⟩, by omega, by omega⟩))
  rcases List.mem_or_eq_of_mem_set hu with h1 | rfl
  ·exact t1.2 u h1
  ·simp
 ·obtain ⟨a, s, T2, rfl, h1, h2, h3⟩ := hz
  exact EvP.some ⟨by dsimp only; omega, by dsimp only; omega, q3, h1⟩
theorem Zmg (b : BoardD) (hb0 : b.2.2.length ≤ 1000) (h : Cur code at' 6) : EvP (fun k => Z8 k (code, at', seed) b) (fun r => r.1.length ≤ 2 ∧ at' ≤ r.2.1 ∧ r.2.1 ≤ at' + 6) := by
 refine EvP.succ ?_
 simp only [Z8]
 refine EvP.bind (EvP.ev (Q := fun v => v = boardOK b) (ZkY b (by omega)) rfl) (fun v hv => ?_)
 subst hv
 cases hb : boardOK b with
 | false =>
  simp only [Bool.not_false, if_true]
  exact EvP.some ⟨by simp, by dsimp only; omega, by dsimp only; omega⟩
 | true =>
  simp only [Bool.not_true, Bool.false_eq_true, if_false]
  refine EvP.bind (EvP.ev (Q := fun v => v = possFrom b.2.1 0 b.2.2) (ZfJ b hb) rfl) (fun all ha => ?_)
  subst ha
  have hall := ZeW hb
  have hone := ZJz hb
  refine EvP.bind (Z4d 6 (h.to (by omega) (by omega)) (by omega)) (fun z2 h2 => ?_)
  refine EvP.ite (fun _ => EvP.some ⟨by simp, by dsimp only; omega, by dsimp only; omega⟩) (fun _ => EvP.ite (fun _ => ?_) (fun _ => ?_))
  ·refine EvP.bind (Z4d _ (h.to (by omega) (by omega)) (by omega)) (fun z3 h3 => ?_)
   refine EvP.guard (by omega) (EvP.guard (by omega) ?_)
   refine EvP.bind (Z4d _ (h.to (by omega) (by omega)) (by omega)) (fun z4 h4 => ?_)
   exact EvP.guard (by omega) (EvP.guard (by omega) (EvP.some ⟨by simp, by dsimp only; omega, by dsimp only; omega⟩))
  ·refine EvP.bind (Z4d _ (h.to (by omega) (by omega)) (by omega)) (fun z3 h3 => ?_)
   exact EvP.guard (by omega) (EvP.guard (by omega) (EvP.some ⟨by simp, by dsimp only; omega, by dsimp only; omega⟩))
end
theorem Zs1 (code : List Int) (h : Cur code 0 6000) : EvP (fun k => Z6P k code) (fun r => r.1.2.2.length ≤ 91 ∧ TestsIn r.2) := by
 refine EvP.succ ?_
 simp only [Z6P]
 exact EvP.bind (ZtV (h.to (by omega) (by omega))) (fun z hz => EvP.some ⟨hz.2.2.1, hz.2.2.2⟩)
theorem ZwH (code : List Int) (h : Cur code 0 6000) : EvP (fun k => Z6M k code) (fun r => r.1.2.2.length ≤ 91 ∧ TestsIn r.2) := by
 refine EvP.succ ?_
 simp only [Z6M]
 exact EvP.bind (Zs1 code h) (fun z hz => EvP.some hz)
theorem ZER (code : List Int) (h : Cur code 0 6000) : EvP (fun k => Zas k code) (fun r => r.1.2.2.length ≤ 91 ∧ r.2.1.length ≤ 2 ∧ TestsIn r.2.2) := by
 refine EvP.succ ?_
 simp only [Zas]
 refine EvP.bind (ZtV (h.to (by omega) (by omega))) (fun z hz => ?_)
 refine EvP.bind (Q1 := fun y => y.2.2.1.length ≤ 91 ∧ y.2.2.2.1.length ≤ 2 ∧ TestsIn y.2.2.2.2) ?_ (fun y hy => EvP.some hy)
 simp only [Z2U]
 exact EvP.bind (Zmg _ (by dsimp only; omega) (h.to (by omega) (by omega))) (fun y hy => EvP.some ⟨hz.2.2.1, hy.1, hz.2.2.2⟩)
theorem ZE8 (code : List Int) (h : Cur code 0 6000) : EvP (fun k => Z9r k code) (fun r => r.1.2.2.length ≤ 91 ∧ TestsIn r.2.1 ∧ r.2.2.1.length ≤ 2 ∧ r.2.2.2.length ≤ 2) := by
 refine EvP.succ ?_
 simp only [Z9r]
 refine EvP.bind (ZtV (h.to (by omega) (by omega))) (fun z hz => ?_)
 refine EvP.bind (Q1 := fun y => y.2.2.1.length ≤ 91 ∧ TestsIn y.2.2.2.1 ∧ y.2.2.2.2.1.length ≤ 2 ∧ y.2.2.2.2.2.length ≤ 2) ?_ (fun y hy => EvP.some hy)
 simp only [Z2y]
 refine EvP.bind (Zmg _ (by dsimp only; omega) (h.to (by omega) (by omega))) (fun y hy => ?_)
 exact EvP.bind (Zmg _ (by dsimp only; omega) (h.to (by omega) (by omega))) (fun x hx => EvP.some ⟨hz.2.2.1, hz.2.2.2, hy.1, hx.1⟩)
def EndsIn (E : List (List FallD)) : Prop := E.length ≤ 1000 ∧ ∀ x ∈ E, x.length ≤ 1000
theorem ZBu (code : List Int) (h : Cur code 0 6000) : EvP (fun k => Z7X k code) (fun r => r.1.2.2.length ≤ 91 ∧ TestsIn r.2.1 ∧ EndsIn r.2.2) := by
 refine EvP.succ ?_
 simp only [Z7X]
 refine EvP.bind (ZtV (h.to (by omega) (by omega))) (fun z0 h0 => ?_)
 refine EvP.bind (Zmg z0.1 (by omega) (h.to (by omega) (by omega))) (fun z1 h1 => ?_)
 have hT := h0.2.2.2
 have none' : EndsIn [] := ⟨by simp, fun x hx => by cases hx⟩
 refine EvP.bind (EvP.ev (Q := fun v => v = (smallB z0.1 && testsOK z0.1 z0.2.1)) (Z9K z0.1 z0.2.1 (by omega) (by have := hT.1; omega) (fun x hx => by have := hT.2 x hx; omega)) rfl) (fun v hv => ?_)
 subst hv
 cases g0 : (smallB z0.1 && testsOK z0.1 z0.2.1) with
 | false => simp only [Bool.not_false, if_true]; exact EvP.some ⟨h0.2.2.1, hT, none'⟩
 | true =>
  obtain ⟨hb, hn, hT2⟩ := Z2B g0
  simp only [Bool.not_true, Bool.false_eq_true, if_false]
  refine EvP.bind (EvP.ev (Q := fun v => v = faultsB z0.1 z1.1) (Zg5 z0.1 hb z1.1 (by omega)) rfl) (fun v hv => ?_)
  subst hv
  cases g1 : faultsB z0.1 z1.1 with
  | false => simp only [Bool.not_false, if_true]; exact EvP.some ⟨h0.2.2.1, hT, none'⟩
  | true =>
   obtain ⟨h4, hf⟩ := Z9e g1
   simp only [Bool.not_true, Bool.false_eq_true, if_false]
   refine EvP.bind (EvP.ev (Q := fun v => v = z0.2.1.map (endsOf z0.1 z1.1)) (ZaS z0.1 hb z1.1 hf (by omega) z0.2.1 (fun t ht => ⟨by have := (hT2 t ht).1; omega, (hT2 t ht).2⟩) (by omega)) rfl) (fun E hE => ?_)
   have hE1 : E.length ≤ 10 := by rw [hE, List.length_map]; exact hn
   have hE2 : ∀ x ∈ E, x.length ≤ 8 := fun x hx => by
    rw [hE] at hx
    obtain ⟨t, ht, rfl⟩ := List.mem_map.1 hx
    rw [Z7C]
    exact (hT2 t ht).1
   clear hE
   have hE3 : EndsIn E := ⟨by omega, fun x hx => by have := hE2 x hx; omega⟩
   refine EvP.ite (fun hp => ?_) (fun _ => EvP.some ⟨h0.2.2.1, hT, hE3⟩)
   simp only [decide_eq_true_eq] at hp
   refine EvP.bind (Z4d 10 (h.to (by omega) (by omega)) (by omega)) (fun z5 h5 => ?_)
   refine EvP.ite (fun _ => ?_) (fun _ => EvP.ite (fun _ => ?_) (fun _ => EvP.ite (fun _ => ?_) (fun _ => EvP.some ⟨h0.2.2.1, hT, hE3⟩)))
   ·refine EvP.guard (by omega) (EvP.guard (by omega) (EvP.some ⟨h0.2.2.1, hT, ?_, fun x hx => hE3.2 x (List.mem_of_mem_drop hx)⟩))
    dsimp only
    rw [List.length_drop]
    omega
   ·refine EvP.bind (Z4d _ (h.to (by omega) (by omega)) (by omega)) (fun z6 h6 => ?_)
    refine EvP.guard (by omega) (EvP.guard (by omega) ?_)
    refine EvP.ite (fun hq => ?_) (fun _ => EvP.some ⟨h0.2.2.1, hT, hE3⟩)
    simp only [decide_eq_true_eq] at hq
    refine EvP.bind (Q1 := fun y => y.2.2.2.2.2.1.length ≤ 91 ∧ TestsIn y.2.2.2.2.2.2.1 ∧ EndsIn y.2.2.2.2.2.2.2) ?_ (fun y hy => EvP.some hy)
    simp only [Z20]
    refine EvP.guard (by omega) (EvP.guard (by omega) ?_)
    refine EvP.bind (Z4d _ (h.to (by omega) (by omega)) (by omega)) (fun z7 h7 => ?_)
    refine EvP.bind (Z4d 3 (h.to (by omega) (by omega)) (by omega)) (fun z8 h8 => ?_)
    refine EvP.guard (by omega) (EvP.guard (by omega) (EvP.some ⟨h0.2.2.1, hT, ?_, fun x hx => ?_⟩))
    ·dsimp only
     rw [List.length_set]
     omega
    ·rcases List.mem_or_eq_of_mem_set hx with h9 | rfl
     ·exact hE3.2 x h9
     ·rw [List.length_set]
      have hi : z6.1.toNat < E.length := by omega
      rw [List.getD, List.getElem?_eq_getElem hi]
      exact hE3.2 _ (List.getElem_mem hi)
   ·have hi : Int.toNat 0 < E.length := by simp; omega
    have h10 : (List.getD E (Int.toNat 0) []).length ≤ 8 := by
     rw [List.getD, List.getElem?_eq_getElem hi]
     exact hE2 _ (List.getElem_mem hi)
    refine EvP.guard (by omega) (EvP.guard (by simp only [List.length_cons, List.length_nil]; omega) (EvP.guard (by omega) (EvP.some ⟨h0.2.2.1, hT, ?_, fun x hx => ?_⟩)))
    ·dsimp only
     rw [List.length_set]
     omega
    ·rcases List.mem_or_eq_of_mem_set hx with h9 | rfl
     ·exact hE3.2 x h9
     ·simp; simp at h10; omega
end Go.Proofs.Ytgjmhbjdhihgaaa.Vs

set_option linter.unusedVariables false
set_option linter.unusedSimpArgs false
namespace Go.Proofs.Ytgjmhbjdhihgaaa.Vs
open Go.RowKit
theorem Zsp : ∀ (r s pre q : List Int), r.length = s.length → pre.length = q.length → (pre ++ r).length ≤ 1000000 → Ev (fun k => Z9z k (pre ++ r) (q ++ s) ((pre ++ r).length : Int) (pre.length : Int)) (if r = s then LR.go () else LR.ret false)
 | [], s, pre, q, h, hq, hl => by
  obtain rfl : s = [] := List.eq_nil_of_length_eq_zero h.symm
  refine Ev.succ ?_
  simp only [Z9z, Zo, decide_false, Bool.false_eq_true, if_false, if_true]
  exact Ev.some _
 | x :: r, [], pre, q, h, hq, hl => by simp at h
 | x :: r, y :: s, pre, q, h, hq, hl => by
  have ih := Zsp r s (pre ++ [x]) (q ++ [y]) (by simpa using h) (by simpa using hq) (by simpa using hl)
  have l2 : (pre.length : Int) < ((q ++ y :: s).length : Int) := by rw [hq]; exact Ze _ _ _
  have g2 : List.getD (q ++ y :: s) pre.length 0 = y := by rw [hq]; exact Z9 _ _ _ _
  refine Ev.succ ?_
  simp only [Z9z, Ze, Zq, l2, decide_true, if_true, Int.toNat_natCast, Z9, g2]
  rw [Zi pre x r (by omega)]
  rw [← Z5, ← Z5] at ih
  refine Ev.ite (fun hh => ?_) (fun hh => ?_)
  ·simp only [decide_eq_true_eq] at hh
   rw [if_neg (fun he => hh (List.cons.inj he).1)]
   exact Ev.some _
  ·simp only [decide_eq_true_eq, Decidable.not_not] at hh
   refine ih.congr ?_
   simp [hh]
theorem Zik (a c : List Int) (ha : a.length ≤ 1000000) : Ev (fun k => Za9 k a c) (decide (a = c)) := by
 refine Ev.succ ?_
 simp only [Za9]
 refine Ev.ite (fun h => ?_) (fun h => ?_)
 ·simp only [decide_eq_true_eq] at h
  rw [decide_eq_false (fun he => h (by rw [he]))]
  exact Ev.some _
 ·simp only [decide_eq_true_eq, Decidable.not_not] at h
  refine Ev.bind (Zsp a c [] [] (by omega) rfl (by simpa using ha)) ?_
  by_cases he : a = c
  ·rw [if_pos he, decide_eq_true he]; exact Ev.go (Ev.some _)
  ·rw [if_neg he, decide_eq_false he]; exact Ev.ret (Ev.some _)
theorem Zpm : ∀ (r s pre q : List FallD), r.length = s.length → pre.length = q.length → (pre ++ r).length ≤ 1000000 → Ev (fun k => Z8m k (pre ++ r) (q ++ s) ((pre ++ r).length : Int) (pre.length : Int)) (if r = s then LR.go () else LR.ret false)
 | [], s, pre, q, h, hq, hl => by
  obtain rfl : s = [] := List.eq_nil_of_length_eq_zero h.symm
  refine Ev.succ ?_
  simp only [Z8m, Zo, decide_false, Bool.false_eq_true, if_false, if_true]
  exact Ev.some _
 | x :: r, [], pre, q, h, hq, hl => by simp at h
 | x :: r, y :: s, pre, q, h, hq, hl => by
  have ih := Zpm r s (pre ++ [x]) (q ++ [y]) (by simpa using h) (by simpa using hq) (by simpa using hl)
  have l2 : (pre.length : Int) < ((q ++ y :: s).length : Int) := by rw [hq]; exact Ze _ _ _
  have g2 : List.getD (q ++ y :: s) pre.length (0, 0, 0) = y := by rw [hq]; exact Z9 _ _ _ _
  refine Ev.succ ?_
  simp only [Z8m, Ze, Zq, l2, decide_true, if_true, Int.toNat_natCast, Z9, g2]
  rw [Zi pre x r (by omega)]
  rw [← Z5, ← Z5] at ih
  have e : (decide (x.1 = y.1) && (decide (x.2.1 = y.2.1) && (decide (x.2.2 = y.2.2) && true))) = decide (x = y) := by
   rw [Bool.eq_iff_iff]
   simp [Prod.ext_iff]
  rw [e]
  by_cases hh : x = y
  ·simp only [hh, decide_true, Bool.not_true, Bool.false_eq_true, if_false]
   rw [hh] at ih
   refine ih.congr ?_
   simp
  ·simp only [hh, decide_false, Bool.not_false, if_true]
   rw [if_neg (fun he => hh (List.cons.inj he).1)]
   exact Ev.some _
theorem Zuq (a c : List FallD) (ha : a.length ≤ 1000000) : Ev (fun k => Zdj k a c) (decide (a = c)) := by
 refine Ev.succ ?_
 simp only [Zdj]
 refine Ev.ite (fun h => ?_) (fun h => ?_)
 ·simp only [decide_eq_true_eq] at h
  rw [decide_eq_false (fun he => h (by rw [he]))]
  exact Ev.some _
 ·simp only [decide_eq_true_eq, Decidable.not_not] at h
  refine Ev.bind (Zpm a c [] [] (by omega) rfl (by simpa using ha)) ?_
  by_cases he : a = c
  ·rw [if_pos he, decide_eq_true he]; exact Ev.go (Ev.some _)
  ·rw [if_neg he, decide_eq_false he]; exact Ev.ret (Ev.some _)
theorem Zpj : ∀ (r s pre q : List (List Int)), r.length = s.length → pre.length = q.length → (pre ++ r).length ≤ 1000000 → (∀ x ∈ r, x.length ≤ 1000000) → Ev (fun k => Z89 k (pre ++ r) (q ++ s) ((pre ++ r).length : Int) (pre.length : Int)) (if r = s then LR.go () else LR.ret false)
 | [], s, pre, q, h, hq, hl, hx => by
  obtain rfl : s = [] := List.eq_nil_of_length_eq_zero h.symm
  refine Ev.succ ?_
  simp only [Z89, Zo, decide_false, Bool.false_eq_true, if_false, if_true]
  exact Ev.some _
 | x :: r, [], pre, q, h, hq, hl, hx => by simp at h
 | x :: r, y :: s, pre, q, h, hq, hl, hx => by
  have ih := Zpj r s (pre ++ [x]) (q ++ [y]) (by simpa using h) (by simpa using hq) (by simpa using hl) (fun z hz => hx z (List.mem_cons_of_mem _ hz))
  have l2 : (pre.length : Int) < ((q ++ y :: s).length : Int) := by rw [hq]; exact Ze _ _ _
  have g2 : List.getD (q ++ y :: s) pre.length [] = y := by rw [hq]; exact Z9 _ _ _ _
  refine Ev.succ ?_
  simp only [Z89, Ze, Zq, l2, decide_true, if_true, Int.toNat_natCast, Z9, g2]
  rw [Zi pre x r (by omega)]
  rw [← Z5, ← Z5] at ih
  refine Ev.bind (Zik x y (hx x (List.mem_cons_self ..))) ?_
  by_cases hh : x = y
  ·simp only [hh, decide_true, Bool.not_true, Bool.false_eq_true, if_false]
   rw [hh] at ih
   refine ih.congr ?_
   simp
  ·simp only [hh, decide_false, Bool.not_false, if_true]
   rw [if_neg (fun he => hh (List.cons.inj he).1)]
   exact Ev.some _
theorem ZFB (a c : List (List Int)) (ha : a.length ≤ 1000000) (hx : ∀ x ∈ a, x.length ≤ 1000000) : Ev (fun k => Zgp k a c) (decide (a = c)) := by
 refine Ev.succ ?_
 simp only [Zgp]
 refine Ev.ite (fun h => ?_) (fun h => ?_)
 ·simp only [decide_eq_true_eq] at h
  rw [decide_eq_false (fun he => h (by rw [he]))]
  exact Ev.some _
 ·simp only [decide_eq_true_eq, Decidable.not_not] at h
  refine Ev.bind (Zpj a c [] [] (by omega) rfl (by simpa using ha) hx) ?_
  by_cases he : a = c
  ·rw [if_pos he, decide_eq_true he]; exact Ev.go (Ev.some _)
  ·rw [if_neg he, decide_eq_false he]; exact Ev.ret (Ev.some _)
theorem Zqs : ∀ (r s pre q : List (List FallD)), r.length = s.length → pre.length = q.length → (pre ++ r).length ≤ 1000000 → (∀ x ∈ r, x.length ≤ 1000000) → Ev (fun k => Z9E k (pre ++ r) (q ++ s) ((pre ++ r).length : Int) (pre.length : Int)) (if r = s then LR.go () else LR.ret false)
 | [], s, pre, q, h, hq, hl, hx => by
  obtain rfl : s = [] := List.eq_nil_of_length_eq_zero h.symm
  refine Ev.succ ?_
  simp only [Z9E, Zo, decide_false, Bool.false_eq_true, if_false, if_true]
  exact Ev.some _
 | x :: r, [], pre, q, h, hq, hl, hx => by simp at h
 | x :: r, y :: s, pre, q, h, hq, hl, hx => by
  have ih := Zqs r s (pre ++ [x]) (q ++ [y]) (by simpa using h) (by simpa using hq) (by simpa using hl) (fun z hz => hx z (List.mem_cons_of_mem _ hz))
  have l2 : (pre.length : Int) < ((q ++ y :: s).length : Int) := by rw [hq]; exact Ze _ _ _
  have g2 : List.getD (q ++ y :: s) pre.length [] = y := by rw [hq]; exact Z9 _ _ _ _
  refine Ev.succ ?_
  simp only [Z9E, Ze, Zq, l2, decide_true, if_true, Int.toNat_natCast, Z9, g2]
  rw [Zi pre x r (by omega)]
  rw [← Z5, ← Z5] at ih
  refine Ev.bind (Zuq x y (hx x (List.mem_cons_self ..))) ?_
  by_cases hh : x = y
  ·simp only [hh, decide_true, Bool.not_true, Bool.false_eq_true, if_false]
   rw [hh] at ih
   refine ih.congr ?_
   simp
  ·simp only [hh, decide_false, Bool.not_false, if_true]
   rw [if_neg (fun he => hh (List.cons.inj he).1)]
   exact Ev.some _
theorem Z7P (a c : List (List FallD)) (ha : a.length ≤ 1000000) (hx : ∀ x ∈ a, x.length ≤ 1000000) : Ev (fun k => Z3v k a c) (decide (a = c)) := by
 refine Ev.succ ?_
 simp only [Z3v]
 refine Ev.ite (fun h => ?_) (fun h => ?_)
 ·simp only [decide_eq_true_eq] at h
  rw [decide_eq_false (fun he => h (by rw [he]))]
  exact Ev.some _
 ·simp only [decide_eq_true_eq, Decidable.not_not] at h
  refine Ev.bind (Zqs a c [] [] (by omega) rfl (by simpa using ha) hx) ?_
  by_cases he : a = c
  ·rw [if_pos he, decide_eq_true he]; exact Ev.go (Ev.some _)
  ·rw [if_neg he, decide_eq_false he]; exact Ev.ret (Ev.some _)
theorem ZuE (x : Int) : ∀ (r pre : List Int), (pre ++ r).length ≤ 1000000 → Ev (fun k => ZaP k x (pre ++ r) ((pre ++ r).length : Int) (pre.length : Int)) (if x ∈ r then LR.ret true else LR.go ())
 | [], pre, hl => by
  refine Ev.succ ?_
  simp only [ZaP, Zo, decide_false, Bool.false_eq_true, if_false, List.not_mem_nil]
  exact Ev.some _
 | y :: r, pre, hl => by
  have ih := ZuE x r (pre ++ [y]) (by simpa using hl)
  refine Ev.succ ?_
  simp only [ZaP, Ze, Zq, decide_true, if_true, Int.toNat_natCast, Z9]
  rw [Zi pre y r (by omega)]
  rw [← Z5] at ih
  refine Ev.ite (fun hh => ?_) (fun hh => ?_)
  ·simp only [decide_eq_true_eq] at hh
   rw [if_pos (by rw [hh]; exact List.mem_cons_self ..)]
   exact Ev.some _
  ·simp only [decide_eq_true_eq] at hh
   refine ih.congr ?_
   have : ¬ x = y := fun h => hh h.symm
   simp [this]
theorem ZjE (l : List Int) (x : Int) (hl : l.length ≤ 1000000) : Ev (fun k => Zbi k l x) (decide (x ∈ l)) := by
 refine Ev.succ ?_
 simp only [Zbi]
 refine Ev.bind (ZuE x l [] (by simpa using hl)) ?_
 by_cases he : x ∈ l
 ·rw [if_pos he, decide_eq_true he]; exact Ev.ret (Ev.some _)
 ·rw [if_neg he, decide_eq_false he]; exact Ev.go (Ev.some _)
end Go.Proofs.Ytgjmhbjdhihgaaa.Vs

set_option linter.unusedVariables false
set_option linter.unusedSimpArgs false
namespace Go.Proofs.Ytgjmhbjdhihgaaa.Vs
open Go.RowKit
theorem ZDs (b : BoardD) (l : List (List Int)) (hb : b.2.2.length ≤ 9223372036854775806) (hl : l.length ≤ 9223372036854775806) (hx : ∀ x ∈ l, x.length ≤ 9223372036854775806) : Ev (fun k => ZdY k b l) (smallB b && testsOK b l, smallB b) := by
 refine Ev.succ ?_
 simp only [ZdY]
 refine Ev.bind (Zuh b hb) ?_
 cases hs : smallB b with
 | false => simp only [Bool.not_false, if_true, Bool.false_and]; exact Ev.some _
 | true =>
  have hbo : boardOK b = true := by unfold smallB at hs; simp only [Bool.and_eq_true] at hs; exact hs.1
  simp only [Bool.not_true, Bool.false_eq_true, if_false, Bool.true_and]
  exact Ev.bind (Zrw b hbo l hl hx) (Ev.some _)
theorem ZDA (b : BoardD) (l : List (List Int)) (hb : b.2.2.length ≤ 9223372036854775806) (hl : l.length ≤ 9223372036854775806) (hx : ∀ x ∈ l, x.length ≤ 9223372036854775806) : Ev (fun k => ZdT k b l) (smallB b && testsOK b l, smallB b) := by
 refine Ev.succ ?_
 simp only [ZdT]
 refine Ev.bind (Zf1 b hb) ?_
 cases hbo : boardOK b with
 | false => simp only [Bool.not_false, if_true, smallB, hbo, Bool.false_and]; exact Ev.some _
 | true =>
  simp only [Bool.not_true, Bool.false_eq_true, if_false]
  refine Ev.ite (fun h => Ev.of ?_) (fun h => ?_)
  ·simp only [decide_eq_true_eq] at h
   have : ¬ b.2.2.length ≤ 30 := by omega
   simp [smallB, this]
  ·simp only [decide_eq_true_eq] at h
   have h3 : b.2.2.length ≤ 30 := by omega
   refine Ev.bind (Z86 b l hb hl hx) (Ev.of ?_)
   simp [smallB, hbo, h3]
end Go.Proofs.Ytgjmhbjdhihgaaa.Vs
