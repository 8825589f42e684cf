/- The proof, part 9. -/
import Derived.Test.Ytcpefeojijlmoaaqnxtm7
set_option linter.unusedVariables false
set_option linter.unusedSimpArgs false
namespace Go.Proofs.Ytcpefeojijlmoaa.Vs
open Go.RowKit
def lastE (b : BoardD) (t : List Int) (c : Int) (f : FaultD) : FallD := List.getD (endsOf b [f] (t ++ [c])) t.length (0, 0, 0)
def addE (acc : List FallD) (x : FallD) : List FallD := if x ∈ acc then acc else acc ++ [x]
def distE (b : BoardD) (t : List Int) (c : Int) : List FaultD → List FallD → List FallD
  | [], acc => acc
  | f :: r, acc => distE b t c r (addE acc (lastE b t c f))
def keyE (x : FallD) : List Int × Bool := ([x.1, x.2.1, x.2.2], true)
theorem put_keys (x : FallD) : ∀ (acc : List FallD), putK [x.1, x.2.1, x.2.2] true (acc.map keyE) = (addE acc x).map keyE
  | [] => by simp [putK, addE, keyE]
  | y :: r => by
    have ih := put_keys x r
    obtain ⟨x1, x2, x3⟩ := x
    obtain ⟨y1, y2, y3⟩ := y
    by_cases h : (y1, y2, y3) = (x1, x2, x3)
    · injection h with h1 h2; injection h2 with h2 h3
      subst h1 h2 h3
      simp [putK, addE, keyE]
    · have h1 : ¬ ([y1, y2, y3] = [x1, x2, x3]) := fun h2 => h (by
        injection h2 with h3 h4; injection h4 with h5 h6; injection h6 with h7 h8
        subst h3 h5 h7; rfl)
      have h2 : ¬ ((x1, x2, x3) = (y1, y2, y3)) := fun h3 => h h3.symm
      simp only [List.map_cons, putK]
      rw [if_neg (show ¬ (keyE (y1, y2, y3)).1 = [x1, x2, x3] from h1), ih]
      unfold addE
      by_cases h3 : (x1, x2, x3) ∈ r
      · rw [if_pos h3, if_pos (List.mem_cons_of_mem _ h3)]; rfl
      · rw [if_neg h3, if_neg (fun h4 => (List.mem_cons.1 h4).elim h2 h3)]; rfl
theorem addE_len (acc : List FallD) (x : FallD) : (addE acc x).length ≤ acc.length + 1 := by
  unfold addE; split <;> simp
theorem cols_snoc {b : BoardD} {t : List Int} {c : Int} (hc : colsOK b t) (h : 0 ≤ c ∧ c < b.2.1) : colsOK b (t ++ [c]) := fun x hx => by
  rcases List.mem_append.1 hx with hx | hx
  · exact hc x hx
  · rw [List.mem_singleton.1 hx]; exact h
theorem e_impl_splitsCauses_0 (b : BoardD) (hb : boardOK b = true) (t : List Int) (ht : t.length ≤ 500) (c : Int) (hc : colsOK b (t ++ [c])) : ∀ (r pre : List FaultD) (acc : List FallD), (∀ f ∈ r, faultsOK b (-1) [f] = true) → (pre ++ r).length ≤ 1000 → Ev (fun k => f_impl_splitsCauses_0 k b.1 b.2.1 b.2.2 (acc.map keyE) (t ++ [c]) (pre ++ r) ((pre ++ r).length : Int) (pre.length : Int)) ((distE b t c r acc).map keyE)
  | [], pre, acc, hf, hl => by
    refine Ev.succ ?_
    simp only [f_impl_splitsCauses_0, nlt_end, decide_false, Bool.false_eq_true, if_false]
    exact Ev.of (by simp [distE])
  | f :: r, pre, acc, hf, hl => by
    have ih := e_impl_splitsCauses_0 b hb t ht c hc r (pre ++ [f]) (addE acc (lastE b t c f)) (fun g hg => hf g (List.mem_cons_of_mem _ hg)) (by simpa using hl)
    simp only [← shift_mid] at ih
    have h1 := e_impl_faultyDrops b hb [f] (hf f (List.mem_cons_self ..)) (by simp) (t ++ [c]) (by simp; omega) hc
    have hn : (endsOf b [f] (t ++ [c])).length = t.length + 1 := by rw [endsOf_len]; simp
    have hw : wrap64 (((endsOf b [f] (t ++ [c])).length : Int) - 1) = (t.length : Int) := by rw [hn, w64 (by omega) (by omega)]; omega
    have hlt : (t.length : Int) < ((endsOf b [f] (t ++ [c])).length : Int) := by rw [hn]; omega
    have hge : (0 : Int) ≤ (t.length : Int) := by omega
    refine Ev.succ ?_
    simp only [f_impl_splitsCauses_0, lt_mid, ge_mid, decide_true, if_true, Int.toNat_natCast, getD_mid]
    rw [next_mid pre f r (by omega)]
    refine Ev.bind h1 ?_
    change Ev (fun k => if 0 ≤ wrap64 (((endsOf b [f] (t ++ [c])).length : Int) - 1) then if wrap64 (((endsOf b [f] (t ++ [c])).length : Int) - 1) < ((endsOf b [f] (t ++ [c])).length : Int) then f_impl_splitsCauses_0 k b.1 b.2.1 b.2.2 (putK [(List.getD (endsOf b [f] (t ++ [c])) (Int.toNat (wrap64 (((endsOf b [f] (t ++ [c])).length : Int) - 1))) (0, 0, 0)).1, (List.getD (endsOf b [f] (t ++ [c])) (Int.toNat (wrap64 (((endsOf b [f] (t ++ [c])).length : Int) - 1))) (0, 0, 0)).2.1, (List.getD (endsOf b [f] (t ++ [c])) (Int.toNat (wrap64 (((endsOf b [f] (t ++ [c])).length : Int) - 1))) (0, 0, 0)).2.2] true (acc.map keyE)) (t ++ [c]) (pre ++ f :: r) ((pre ++ f :: r).length : Int) ((pre ++ [f]).length : Int) else none else none) _
    rw [hw]
    simp only [hlt, hge, if_true, Int.toNat_natCast]
    rw [show List.getD (endsOf b [f] (t ++ [c])) t.length (0, 0, 0) = lastE b t c f from rfl, put_keys]
    exact ih
theorem e_impl_splitsCauses (b : BoardD) (hb : boardOK b = true) (t : List Int) (ht : t.length ≤ 500) (c : Int) (hc : colsOK b (t ++ [c])) (l : List FaultD) (hf : ∀ f ∈ l, faultsOK b (-1) [f] = true) (hl : l.length ≤ 1000) : Ev (fun k => f_impl_splitsCauses k b l t c) ((distE b t c l []).length : Int) := by
  refine Ev.succ ?_
  have h1 : 0 + t.length ≤ 140737488355328 / 8 := by omega
  have h2 : t.length + 1 ≤ 140737488355328 / 8 := by omega
  simp only [f_impl_splitsCauses, h1, h2, List.length_singleton, if_true]
  refine Ev.bind (e_impl_splitsCauses_0 b hb t ht c hc l [] [] hf (by simpa using hl)) ?_
  exact Ev.of (by simp)
end Go.Proofs.Ytcpefeojijlmoaa.Vs

set_option linter.unusedVariables false
set_option linter.unusedSimpArgs false
namespace Go.Proofs.Ytcpefeojijlmoaa.Vs
open Go.RowKit
theorem e_spec_l1Own (l : List Int) (h : l.length ≤ 1000000) : Ev (fun k => f_spec_l1Own k l) l := by
  have h1 : 0 + l.length ≤ 140737488355328 / 8 := by omega
  refine Ev.succ ?_
  simp only [f_spec_l1Own, h1, if_true]
  exact Ev.some _
theorem e_spec_dgSplits_g5 (b : BoardD) (hb : boardOK b = true) (t : List Int) (ht : t.length ≤ 500) (c : Int) (hc : colsOK b (t ++ [c])) (f : FaultD) (hf : faultsOK b (-1) [f] = true) (o2 : List FallD) (v18 : List FaultD) (v19 v20 : Int) : Ev (fun k => f_spec_dgSplits_g5 k b.1 b.2.1 b.2.2 o2 f.1 f.2.1 f.2.2 t c v18 v19 v20) (b.1, b.2.1, b.2.2, o2, endsOf b [f] (t ++ [c]), t, c, v18, v19, v20) := by
  have h1 := e_spec_faAll b hb [f] hf (by simp) (t ++ [c]) (by simp; omega) hc
  have h2 : t.length + 1 ≤ 140737488355328 / 8 := by omega
  simp only [f_spec_dgSplits_g5]
  refine Ev.bind (e_spec_l1Own t (by omega)) ?_
  simp only [h2, List.length_singleton, if_true]
  exact Ev.bind h1 (Ev.some _)
theorem triple_dec (y x : FallD) : (decide (y.1 = x.1) && (decide (y.2.1 = x.2.1) && (decide (y.2.2 = x.2.2) && true))) = decide (y = x) := by
  obtain ⟨y1, y2, y3⟩ := y
  obtain ⟨x1, x2, x3⟩ := x
  simp only [Prod.mk.injEq, Bool.and_true, Bool.decide_and]
theorem e_spec_dgSplits_2 (b1 b2 : Int) (b3 : List CellD) (x : FallD) (t : List Int) (c : Int) (v18 : List FaultD) (v19 v20 : Int) : ∀ (r pre : List FallD) (q : Bool), (pre ++ r).length ≤ 1000000 → Ev (fun k => f_spec_dgSplits_2 k b1 b2 b3 (pre ++ r) x.1 x.2.1 x.2.2 t c q v18 v19 v20 ((pre ++ r).length : Int) (pre.length : Int)) (b1, b2, b3, pre ++ r, x.1, x.2.1, x.2.2, t, c, q || decide (x ∈ r), v18, v19, v20)
  | [], pre, q, hl => by
    refine Ev.succ ?_
    simp only [f_spec_dgSplits_2, nlt_end, decide_false, Bool.false_eq_true, if_false]
    exact Ev.of (by simp)
  | y :: r, pre, q, hl => by
    have ih := fun q => e_spec_dgSplits_2 b1 b2 b3 x t c v18 v19 v20 r (pre ++ [y]) q (by simpa using hl)
    simp only [← shift_mid] at ih
    refine Ev.succ ?_
    simp only [f_spec_dgSplits_2, lt_mid, ge_mid, decide_true, if_true, Int.toNat_natCast, getD_mid, triple_dec]
    rw [next_mid pre y r (by omega)]
    refine Ev.ite (fun h => ?_) (fun h => ?_)
    · subst h
      refine (ih true).congr ?_
      simp
    · have h : q = false := by simpa using h
      subst h
      refine (ih (decide (y = x))).congr ?_
      have h1 : (x = y) = (y = x) := propext ⟨Eq.symm, Eq.symm⟩
      simp only [Bool.false_or, List.mem_cons, Bool.decide_or, h1]
theorem e_spec_dgSplits_0 (b : BoardD) (hb : boardOK b = true) (t : List Int) (ht : t.length ≤ 500) (c : Int) (hc : colsOK b (t ++ [c])) : ∀ (r pre : List FaultD) (acc : List FallD), (∀ f ∈ r, faultsOK b (-1) [f] = true) → (pre ++ r).length ≤ 1000 → acc.length ≤ pre.length → Ev (fun k => f_spec_dgSplits_0 k b.1 b.2.1 b.2.2 acc t c (pre ++ r) ((pre ++ r).length : Int) (pre.length : Int)) (distE b t c r acc)
  | [], pre, acc, hf, hl, ha => by
    refine Ev.succ ?_
    simp only [f_spec_dgSplits_0, nlt_end, decide_false, Bool.false_eq_true, if_false]
    exact Ev.of (by simp [distE])
  | f :: r, pre, acc, hf, hl, ha => by
    have hk := addE_len acc (lastE b t c f)
    have ih := e_spec_dgSplits_0 b hb t ht c hc r (pre ++ [f]) (addE acc (lastE b t c f)) (fun g hg => hf g (List.mem_cons_of_mem _ hg)) (by simpa using hl) (by simp; omega)
    simp only [← shift_mid] at ih
    have h1 := e_spec_dgSplits_g5 b hb t ht c hc f (hf f (List.mem_cons_self ..)) acc (pre ++ f :: r) ((pre ++ f :: r).length : Int) (pre.length : Int)
    have hn : (endsOf b [f] (t ++ [c])).length = t.length + 1 := by rw [endsOf_len]; simp
    have hw : wrap64 (((endsOf b [f] (t ++ [c])).length : Int) - 1) = (t.length : Int) := by rw [hn, w64 (by omega) (by omega)]; omega
    have hlt : (t.length : Int) < ((endsOf b [f] (t ++ [c])).length : Int) := by rw [hn]; omega
    have hge : (0 : Int) ≤ (t.length : Int) := by omega
    have hal : acc.length + 1 ≤ 140737488355328 / 24 := by simp at hl; omega
    have h2 := e_spec_dgSplits_2 b.1 b.2.1 b.2.2 (lastE b t c f) t c (pre ++ f :: r) ((pre ++ f :: r).length : Int) (pre.length : Int) acc [] false (by simp at hl ⊢; omega)
    refine Ev.succ ?_
    simp only [f_spec_dgSplits_0, lt_mid, ge_mid, decide_true, if_true, Int.toNat_natCast, getD_mid]
    refine Ev.bind h1 ?_
    dsimp only
    rw [hw]
    simp only [hlt, hge, if_true, Int.toNat_natCast]
    rw [show List.getD (endsOf b [f] (t ++ [c])) t.length (0, 0, 0) = lastE b t c f from rfl]
    refine Ev.bind h2 ?_
    dsimp only [List.nil_append]
    rw [next_mid pre f r (by omega)]
    simp only [Bool.false_or, List.length_singleton, hal, if_true]
    by_cases h : lastE b t c f ∈ acc
    · have e : addE acc (lastE b t c f) = acc := if_pos h
      rw [e] at ih
      simp only [h, decide_true, Bool.not_true, Bool.false_eq_true, if_false, distE, e]
      exact ih
    · have e : addE acc (lastE b t c f) = acc ++ [lastE b t c f] := if_neg h
      rw [e] at ih
      simp only [h, decide_false, Bool.not_false, if_true, distE, e]
      exact ih
theorem e_spec_dgSplits (b : BoardD) (hb : boardOK b = true) (t : List Int) (ht : t.length ≤ 500) (c : Int) (hc : colsOK b (t ++ [c])) (l : List FaultD) (hf : ∀ f ∈ l, faultsOK b (-1) [f] = true) (hl : l.length ≤ 1000) : Ev (fun k => f_spec_dgSplits k b l t c) ((distE b t c l []).length : Int) := by
  refine Ev.succ ?_
  simp only [f_spec_dgSplits]
  exact Ev.bind (e_spec_dgSplits_0 b hb t ht c hc l [] [] hf (by simpa using hl) (by simp)) (Ev.some _)
theorem singles_ok {b : BoardD} (hb : boardOK b = true) (t : List Int) (s : List FallD) : ∀ f ∈ singlesOf b t s, faultsOK b (-1) [f] = true := fun f hf => poss_one hb (List.mem_filter.1 hf).1
def r_SplitsCauses (b : BoardD) (t : List Int) (s : List FallD) (c : Int) : Int × Bool := if seenOK b t s then (if 0 ≤ c ∧ c < b.2.1 then (if (singlesOf b t s).length = 0 then (0, false) else (((distE b t c (singlesOf b t s) []).length : Int), true)) else (0, false)) else (0, false)
theorem e_spec_SplitsCauses (b : BoardD) (t : List Int) (s : List FallD) (c : Int) (h0 : b.2.2.length ≤ 9223372036854775806) (h2 : t.length ≤ 9223372036854775806) (h3 : s.length ≤ 9223372036854775806) : Ev (fun k => f_spec_SplitsCauses k b t s c) (r_SplitsCauses b t s c) := by
  refine Ev.succ ?_
  simp only [f_spec_SplitsCauses]
  unfold r_SplitsCauses
  refine Ev.bind (a := seenOK b t s) (e_spec_dgGood b t s h0 h2 h3) ?_
  cases g0 : seenOK b t s with
  | false => simp only [Bool.not_false, if_true, Bool.false_eq_true, if_false]; exact Ev.some _
  | true =>
    simp only [Bool.not_true, Bool.false_eq_true, if_false, if_true]
    obtain ⟨hb, h24, ht, hc, hs⟩ := seen_ok g0
    have hn := singles_len hb t s
    have hcol := (board_ok hb).2.2
    have hw : wrap64 (b.2.1 - 1) = b.2.1 - 1 := w64 (by omega) (by omega)
    rw [hw]
    refine Ev.bind (e_spec_l1In c 0 (b.2.1 - 1)) ?_
    by_cases h : 0 ≤ c ∧ c < b.2.1
    · have h' : 0 ≤ c ∧ c ≤ b.2.1 - 1 := by omega
      simp only [h, h', and_self, decide_true, Bool.not_true, Bool.false_eq_true, if_false, if_true]
      refine Ev.bind (e_spec_dgSingle b hb t (by omega) hc s hs) ?_
      by_cases h4 : (singlesOf b t s).length = 0
      · simp only [h4, Int.natCast_zero, Int.ofNat_zero, decide_true, if_true]; exact Ev.some _
      · have h5 : ¬ (((singlesOf b t s).length : Int) = 0) := by omega
        simp only [h4, h5, decide_false, Bool.false_eq_true, if_false]
        exact Ev.bind (e_spec_dgSplits b hb t (by omega) c (cols_snoc hc h) _ (singles_ok hb t s) (by omega)) (Ev.some _)
    · have h' : ¬ (0 ≤ c ∧ c ≤ b.2.1 - 1) := by omega
      simp only [h, h', decide_false, Bool.not_false, if_true, if_false]; exact Ev.some _
theorem e_impl_SplitsCauses (b : BoardD) (t : List Int) (s : List FallD) (c : Int) (h0 : b.2.2.length ≤ 9223372036854775806) (h2 : t.length ≤ 9223372036854775806) (h3 : s.length ≤ 9223372036854775806) : Ev (fun k => f_impl_SplitsCauses k b t s c) (r_SplitsCauses b t s c) := by
  refine Ev.succ ?_
  simp only [f_impl_SplitsCauses]
  unfold r_SplitsCauses
  refine Ev.bind (a := seenOK b t s) (e_impl_isSeen b t s h0 h2 h3) ?_
  cases g0 : seenOK b t s with
  | false => simp only [Bool.not_false, if_true, Bool.false_eq_true, if_false]; exact Ev.some _
  | true =>
    simp only [Bool.not_true, Bool.false_eq_true, if_false, if_true]
    obtain ⟨hb, h24, ht, hc, hs⟩ := seen_ok g0
    have hn := singles_len hb t s
    refine Ev.ite (fun h => ?_) (fun h => ?_)
    · simp only [decide_eq_true_eq] at h
      rw [if_neg (show ¬ (0 ≤ c ∧ c < b.2.1) by omega)]; exact Ev.some _
    · simp only [decide_eq_true_eq] at h
      refine Ev.ite (fun h1 => ?_) (fun h1 => ?_)
      · simp only [decide_eq_true_eq] at h1
        rw [if_neg (show ¬ (0 ≤ c ∧ c < b.2.1) by omega)]; exact Ev.some _
      · simp only [decide_eq_true_eq] at h1
        have hcc : 0 ≤ c ∧ c < b.2.1 := by omega
        rw [if_pos hcc]
        refine Ev.bind (e_impl_singleCauses b hb t (by omega) hc s hs) ?_
        by_cases h4 : (singlesOf b t s).length = 0
        · simp only [h4, Int.natCast_zero, Int.ofNat_zero, decide_true, if_true]; exact Ev.some _
        · have h5 : ¬ (((singlesOf b t s).length : Int) = 0) := by omega
          simp only [h4, h5, decide_false, Bool.false_eq_true, if_false]
          exact Ev.bind (e_impl_splitsCauses b hb t (by omega) c (cols_snoc hc hcc) _ (singles_ok hb t s) (by omega)) (Ev.some _)
/-! ### The marble that splits most -/
def bmR (n : Nat → Int) : Nat → Nat → Int → Int → Int × Int
  | 0, _, b, m => (b, m)
  | d + 1, i, b, m => if n i > m then bmR n d (i + 1) (i : Int) (n i) else bmR n d (i + 1) b m
theorem e_impl_BestNextMarble_0 (b : BoardD) (hb : boardOK b = true) (t : List Int) (ht : t.length ≤ 400) (hc : colsOK b t) (l : List FaultD) (hf : ∀ f ∈ l, faultsOK b (-1) [f] = true) (hl : l.length ≤ 1000) : ∀ (d i : Nat) (v m : Int), ((i + d : Nat) : Int) = b.2.1 → Ev (fun k => f_impl_BestNextMarble_0 k b.1 b.2.1 b.2.2 l t v m (i : Int)) (bmR (fun j => ((distE b t (j : Int) l []).length : Int)) d i v m)
  | 0, i, v, m, h => by
    have hi : ¬ ((i : Int) < b.2.1) := by omega
    refine Ev.succ ?_
    simp only [f_impl_BestNextMarble_0, hi, decide_false, Bool.false_eq_true, if_false, bmR]
    exact Ev.some _
  | d + 1, i, v, m, h => by
    have hi : (i : Int) < b.2.1 := by omega
    have hcol := (board_ok hb).2.2
    have hw : wrap64 ((i : Int) + 1) = ((i + 1 : Nat) : Int) := by rw [w64 (by omega) (by omega)]; omega
    refine Ev.succ ?_
    simp only [f_impl_BestNextMarble_0, hi, decide_true, if_true, bmR, hw]
    refine Ev.bind (e_impl_splitsCauses b hb t (by omega) (i : Int) (cols_snoc hc ⟨by omega, hi⟩) l hf hl) ?_
    refine Ev.ite (fun h1 => ?_) (fun h1 => ?_)
    · simp only [decide_eq_true_eq] at h1; rw [if_pos h1]; exact e_impl_BestNextMarble_0 b hb t ht hc l hf hl d (i + 1) _ _ (by omega)
    · simp only [decide_eq_true_eq] at h1; rw [if_neg h1]; exact e_impl_BestNextMarble_0 b hb t ht hc l hf hl d (i + 1) _ _ (by omega)
theorem e_spec_BestNextMarble_0 (b : BoardD) (hb : boardOK b = true) (t : List Int) (ht : t.length ≤ 400) (hc : colsOK b t) (l : List FaultD) (hf : ∀ f ∈ l, faultsOK b (-1) [f] = true) (hl : l.length ≤ 1000) : ∀ (d i : Nat) (v m : Int), ((i + d : Nat) : Int) = b.2.1 → Ev (fun k => f_spec_BestNextMarble_0 k b.1 b.2.1 b.2.2 l t v m (i : Int)) (bmR (fun j => ((distE b t (j : Int) l []).length : Int)) d i v m)
  | 0, i, v, m, h => by
    have hi : ¬ ((i : Int) < b.2.1) := by omega
    refine Ev.succ ?_
    simp only [f_spec_BestNextMarble_0, hi, decide_false, Bool.false_eq_true, if_false, bmR]
    exact Ev.some _
  | d + 1, i, v, m, h => by
    have hi : (i : Int) < b.2.1 := by omega
    have hcol := (board_ok hb).2.2
    have hw : wrap64 ((i : Int) + 1) = ((i + 1 : Nat) : Int) := by rw [w64 (by omega) (by omega)]; omega
    refine Ev.succ ?_
    simp only [f_spec_BestNextMarble_0, hi, decide_true, if_true, bmR, hw]
    refine Ev.bind (e_spec_dgSplits b hb t (by omega) (i : Int) (cols_snoc hc ⟨by omega, hi⟩) l hf hl) ?_
    refine Ev.ite (fun h1 => ?_) (fun h1 => ?_)
    · simp only [decide_eq_true_eq] at h1; rw [if_pos h1]; exact e_spec_BestNextMarble_0 b hb t ht hc l hf hl d (i + 1) _ _ (by omega)
    · simp only [decide_eq_true_eq] at h1; rw [if_neg h1]; exact e_spec_BestNextMarble_0 b hb t ht hc l hf hl d (i + 1) _ _ (by omega)
def r_BestNextMarble (b : BoardD) (t : List Int) (s : List FallD) : Int × Int × Bool := if seenOK b t s then (if (singlesOf b t s).length = 0 then (0, 0, false) else ((bmR (fun j => ((distE b t (j : Int) (singlesOf b t s) []).length : Int)) b.2.1.toNat 0 0 0).1, (bmR (fun j => ((distE b t (j : Int) (singlesOf b t s) []).length : Int)) b.2.1.toNat 0 0 0).2, true)) else (0, 0, false)
theorem e_spec_BestNextMarble (b : BoardD) (t : List Int) (s : List FallD) (h0 : b.2.2.length ≤ 9223372036854775806) (h2 : t.length ≤ 9223372036854775806) (h3 : s.length ≤ 9223372036854775806) : Ev (fun k => f_spec_BestNextMarble k b t s) (r_BestNextMarble b t s) := by
  refine Ev.succ ?_
  simp only [f_spec_BestNextMarble]
  unfold r_BestNextMarble
  refine Ev.bind (a := seenOK b t s) (e_spec_dgGood b t s h0 h2 h3) ?_
  cases g0 : seenOK b t s with
  | false => simp only [Bool.not_false, if_true, Bool.false_eq_true, if_false]; exact Ev.some _
  | true =>
    simp only [Bool.not_true, Bool.false_eq_true, if_false, if_true]
    obtain ⟨hb, h24, ht, hc, hs⟩ := seen_ok g0
    have hn := singles_len hb t s
    have hcol := (board_ok hb).2.2
    refine Ev.bind (e_spec_dgSingle b hb t (by omega) hc s hs) ?_
    by_cases h4 : (singlesOf b t s).length = 0
    · simp only [h4, Int.natCast_zero, Int.ofNat_zero, decide_true, if_true]; exact Ev.some _
    · have h5 : ¬ (((singlesOf b t s).length : Int) = 0) := by omega
      simp only [h4, h5, decide_false, Bool.false_eq_true, if_false]
      exact Ev.bind (e_spec_BestNextMarble_0 b hb t (by omega) hc _ (singles_ok hb t s) (by omega) b.2.1.toNat 0 0 0 (by omega)) (Ev.some _)
theorem e_impl_BestNextMarble (b : BoardD) (t : List Int) (s : List FallD) (h0 : b.2.2.length ≤ 9223372036854775806) (h2 : t.length ≤ 9223372036854775806) (h3 : s.length ≤ 9223372036854775806) : Ev (fun k => f_impl_BestNextMarble k b t s) (r_BestNextMarble b t s) := by
  refine Ev.succ ?_
  simp only [f_impl_BestNextMarble]
  unfold r_BestNextMarble
  refine Ev.bind (a := seenOK b t s) (e_impl_isSeen b t s h0 h2 h3) ?_
  cases g0 : seenOK b t s with
  | false => simp only [Bool.not_false, if_true, Bool.false_eq_true, if_false]; exact Ev.some _
  | true =>
    simp only [Bool.not_true, Bool.false_eq_true, if_false, if_true]
    obtain ⟨hb, h24, ht, hc, hs⟩ := seen_ok g0
    have hn := singles_len hb t s
    have hcol := (board_ok hb).2.2
    refine Ev.bind (e_impl_singleCauses b hb t (by omega) hc s hs) ?_
    by_cases h4 : (singlesOf b t s).length = 0
    · simp only [h4, Int.natCast_zero, Int.ofNat_zero, decide_true, if_true]; exact Ev.some _
    · have h5 : ¬ (((singlesOf b t s).length : Int) = 0) := by omega
      simp only [h4, h5, decide_false, Bool.false_eq_true, if_false]
      exact Ev.bind (e_impl_BestNextMarble_0 b hb t (by omega) hc _ (singles_ok hb t s) (by omega) b.2.1.toNat 0 0 0 (by omega)) (Ev.some _)
theorem law_FnExactSplitsCauses (p0 : BoardD) (p1 : List Int) (p2 : List FallD) (p3 : Int) (h0 : p0.2.2.length ≤ 9223372036854775807) (h1 : p1.length ≤ 9223372036854775807) (h2 : p2.length ≤ 9223372036854775807) : Ev (fun k => f_laws_FnExactSplitsCauses k p0 p1 p2 p3) true := by
  refine Ev.succ ?_
  simp only [f_laws_FnExactSplitsCauses]
  by_cases q1 : (p1.length : Int) > 1048576
  · simp only [q1, decide_true, if_true]; exact Ev.some _
  simp only [q1, decide_false, Bool.false_eq_true, if_false]
  refine Ev.bind (e_laws_szBoard _ _ (by first | omega | (dsimp only; omega)) (by first | omega | (dsimp only; omega)) (by first | omega | (dsimp only; omega))) ?_
  by_cases q2 : (1048576 : Int) - (p0.2.2.length : Int) < 0
  · simp only [q2, if_true]; exact Ev.some _
  simp only [q2, if_false, decide_false, Bool.false_eq_true]
  refine Ev.bind (e_laws_szFallS _ _ (by first | omega | (dsimp only; omega)) (by first | omega | (dsimp only; omega)) (by first | omega | (dsimp only; omega))) ?_
  by_cases q3 : (1048576 : Int) - (p0.2.2.length : Int) - (p2.length : Int) < 0
  · simp only [q3, if_true]; exact Ev.some _
  simp only [q3, if_false, decide_false, Bool.false_eq_true]
  have es := e_spec_SplitsCauses p0 p1 p2 p3 (by omega) (by omega) (by omega)
  have ei := e_impl_SplitsCauses p0 p1 p2 p3 (by omega) (by omega) (by omega)
  generalize r_SplitsCauses p0 p1 p2 p3 = R at es ei
  refine Ev.bind (e_laws_toBoard _ (by first | omega | (dsimp only; omega))) ?_
  refine Ev.bind (e_laws_toIntS _ (by first | omega | (dsimp only; omega))) ?_
  refine Ev.bind (e_laws_toFallS _ (by first | omega | (dsimp only; omega))) ?_
  refine Ev.bind es ?_
  refine Ev.bind (e_laws_toBoard _ (by first | omega | (dsimp only; omega))) ?_
  refine Ev.bind (e_laws_toIntS _ (by first | omega | (dsimp only; omega))) ?_
  refine Ev.bind (e_laws_toFallS _ (by first | omega | (dsimp only; omega))) ?_
  refine Ev.bind ei ?_
  simp only [decide_true, beq_self_eq_true, ne_eq, not_true_eq_false, decide_false, Bool.not_true, Bool.false_eq_true, if_false]
  refine Ev.bind (e_laws_toBoard _ (by first | omega | (dsimp only; omega))) ?_
  refine Ev.bind (e_laws_eqBoard _ _ (by first | omega | (dsimp only; omega))) ?_
  simp only [decide_true, beq_self_eq_true, ne_eq, not_true_eq_false, decide_false, Bool.not_true, Bool.false_eq_true, if_false]
  refine Ev.bind (e_laws_toIntS _ (by first | omega | (dsimp only; omega))) ?_
  refine Ev.bind (e_laws_eqIntS _ _ (by first | omega | (dsimp only; omega))) ?_
  simp only [decide_true, beq_self_eq_true, ne_eq, not_true_eq_false, decide_false, Bool.not_true, Bool.false_eq_true, if_false]
  refine Ev.bind (e_laws_toFallS _ (by first | omega | (dsimp only; omega))) ?_
  refine Ev.bind (e_laws_eqFallS _ _ (by first | omega | (dsimp only; omega))) ?_
  simp only [decide_true, beq_self_eq_true, ne_eq, not_true_eq_false, decide_false, Bool.not_true, Bool.false_eq_true, if_false]
  exact Ev.some _
theorem law_FnExactBestNextMarble (p0 : BoardD) (p1 : List Int) (p2 : List FallD) (h0 : p0.2.2.length ≤ 9223372036854775807) (h1 : p1.length ≤ 9223372036854775807) (h2 : p2.length ≤ 9223372036854775807) : Ev (fun k => f_laws_FnExactBestNextMarble k p0 p1 p2) true := by
  refine Ev.succ ?_
  simp only [f_laws_FnExactBestNextMarble]
  by_cases q1 : (p1.length : Int) > 1048576
  · simp only [q1, decide_true, if_true]; exact Ev.some _
  simp only [q1, decide_false, Bool.false_eq_true, if_false]
  refine Ev.bind (e_laws_szBoard _ _ (by first | omega | (dsimp only; omega)) (by first | omega | (dsimp only; omega)) (by first | omega | (dsimp only; omega))) ?_
  by_cases q2 : (1048576 : Int) - (p0.2.2.length : Int) < 0
  · simp only [q2, if_true]; exact Ev.some _
  simp only [q2, if_false, decide_false, Bool.false_eq_true]
  refine Ev.bind (e_laws_szFallS _ _ (by first | omega | (dsimp only; omega)) (by first | omega | (dsimp only; omega)) (by first | omega | (dsimp only; omega))) ?_
  by_cases q3 : (1048576 : Int) - (p0.2.2.length : Int) - (p2.length : Int) < 0
  · simp only [q3, if_true]; exact Ev.some _
  simp only [q3, if_false, decide_false, Bool.false_eq_true]
  have es := e_spec_BestNextMarble p0 p1 p2 (by omega) (by omega) (by omega)
  have ei := e_impl_BestNextMarble p0 p1 p2 (by omega) (by omega) (by omega)
  generalize r_BestNextMarble p0 p1 p2 = R at es ei
  refine Ev.bind (e_laws_toBoard _ (by first | omega | (dsimp only; omega))) ?_
  refine Ev.bind (e_laws_toIntS _ (by first | omega | (dsimp only; omega))) ?_
  refine Ev.bind (e_laws_toFallS _ (by first | omega | (dsimp only; omega))) ?_
  refine Ev.bind es ?_
  refine Ev.bind (e_laws_toBoard _ (by first | omega | (dsimp only; omega))) ?_
  refine Ev.bind (e_laws_toIntS _ (by first | omega | (dsimp only; omega))) ?_
  refine Ev.bind (e_laws_toFallS _ (by first | omega | (dsimp only; omega))) ?_
  refine Ev.bind ei ?_
  simp only [decide_true, beq_self_eq_true, ne_eq, not_true_eq_false, decide_false, Bool.not_true, Bool.false_eq_true, if_false]
  refine Ev.bind (e_laws_toBoard _ (by first | omega | (dsimp only; omega))) ?_
  refine Ev.bind (e_laws_eqBoard _ _ (by first | omega | (dsimp only; omega))) ?_
  simp only [decide_true, beq_self_eq_true, ne_eq, not_true_eq_false, decide_false, Bool.not_true, Bool.false_eq_true, if_false]
  refine Ev.bind (e_laws_toIntS _ (by first | omega | (dsimp only; omega))) ?_
  refine Ev.bind (e_laws_eqIntS _ _ (by first | omega | (dsimp only; omega))) ?_
  simp only [decide_true, beq_self_eq_true, ne_eq, not_true_eq_false, decide_false, Bool.not_true, Bool.false_eq_true, if_false]
  refine Ev.bind (e_laws_toFallS _ (by first | omega | (dsimp only; omega))) ?_
  refine Ev.bind (e_laws_eqFallS _ _ (by first | omega | (dsimp only; omega))) ?_
  simp only [decide_true, beq_self_eq_true, ne_eq, not_true_eq_false, decide_false, Bool.not_true, Bool.false_eq_true, if_false]
  exact Ev.some _
end Go.Proofs.Ytcpefeojijlmoaa.Vs
