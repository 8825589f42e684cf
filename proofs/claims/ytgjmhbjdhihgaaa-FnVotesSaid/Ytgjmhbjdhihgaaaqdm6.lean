/- The proof, part 7. -/
import Derived.Test.Ytgjmhbjdhihgaaaqdm5
set_option linter.unusedVariables false
set_option linter.unusedSimpArgs false
namespace Go.Proofs.Ytgjmhbjdhihgaaa.Vs
open Go.RowKit
/-! ### Ties -/
def occ : List Int → Int → Int
  | [], _ => 0
  | x :: r, v => (if x = v then 1 else 0) + occ r v
theorem occ_in : ∀ (r : List Int) (v : Int), 0 ≤ occ r v ∧ occ r v ≤ (r.length : Int)
  | [], v => by simp [occ]
  | x :: r, v => by
    have := occ_in r v
    simp only [occ, List.length_cons]
    split <;> omega
theorem cnt_get : ∀ (r c : List Int) (v : Nat), c.length = 10 → (∀ x ∈ r, 0 ≤ x ∧ x ≤ 9) → List.getD (cnt r c) v 0 = List.getD c v 0 + occ r (v : Int)
  | [], c, v, hc, hr => by simp [cnt, occ]
  | x :: r, c, v, hc, hr => by
    obtain ⟨x0, x9⟩ := hr x (List.mem_cons_self ..)
    simp only [cnt, occ]
    rw [cnt_get r _ v (by simpa using hc) (fun y hy => hr y (List.mem_cons_of_mem _ hy)), getD_set c x.toNat v _ (by omega)]
    by_cases h : v = x.toNat
    · have h2 : x = (v : Int) := by omega
      rw [if_pos h, if_pos h2, h]
      omega
    · have h2 : ¬ x = (v : Int) := by omega
      rw [if_neg h, if_neg h2]
      omega
theorem counts_get {l : List Int} (h : ∀ x ∈ l, 0 ≤ x ∧ x ≤ 9) (v : Nat) : List.getD (countsOf l) v 0 = occ l (v : Int) := by
  unfold countsOf
  rw [cnt_get l zeros v rfl h]
  have := getD_repl 10 v (0 : Int)
  unfold zeros
  omega
/-- How many of ten numbers are m. -/
def sev (g : Nat → Int) (m : Int) : Nat → Nat → Int → Int
  | 0, _, n => n
  | d + 1, i, n => sev g m d (i + 1) (if g i = m then n + 1 else n)
theorem sev_congr {g g' : Nat → Int} (h : ∀ i, g i = g' i) (m : Int) : ∀ (d i : Nat) (n : Int), sev g m d i n = sev g' m d i n
  | 0, _, _ => rfl
  | d + 1, i, n => by simp only [sev, h i, sev_congr h m d]
theorem e_impl_TieCount_2 (R : List (List Int)) (n k0 : Nat) (hk : k0 < n) (v4 v20 v21 : Int) : ∀ (r pre : List (List Int)) (c : List Int), c.length = 10 → (∀ x ∈ r, x.length = n ∧ ∀ y ∈ x, 0 ≤ y ∧ y ≤ 9) → Small c (pre.length : Int) → (pre ++ r).length ≤ 1000 → Ev (fun k => f_impl_TieCount_2 k (List.getD c 0 0) (List.getD c 1 0) (List.getD c 2 0) (List.getD c 3 0) (List.getD c 4 0) (List.getD c 5 0) (List.getD c 6 0) (List.getD c 7 0) (List.getD c 8 0) (List.getD c 9 0) R v4 (k0 : Int) v20 v21 (pre ++ r) ((pre ++ r).length : Int) (pre.length : Int)) (List.getD (cnt (colOf r k0) c) 0 0, List.getD (cnt (colOf r k0) c) 1 0, List.getD (cnt (colOf r k0) c) 2 0, List.getD (cnt (colOf r k0) c) 3 0, List.getD (cnt (colOf r k0) c) 4 0, List.getD (cnt (colOf r k0) c) 5 0, List.getD (cnt (colOf r k0) c) 6 0, List.getD (cnt (colOf r k0) c) 7 0, List.getD (cnt (colOf r k0) c) 8 0, List.getD (cnt (colOf r k0) c) 9 0, R, v4, (k0 : Int), v20, v21)
  | [], pre, c, hc, hr, hs, hl => by
    refine Ev.succ ?_
    simp only [f_impl_TieCount_2, nlt_end, decide_false, Bool.false_eq_true, if_false, colOf, List.map_nil, cnt]
    exact Ev.some _
  | x :: r, pre, c, hc, hr, hs, hl => by
    obtain ⟨xn, xd⟩ := hr x (List.mem_cons_self ..)
    have hm : List.getD x k0 0 ∈ x := by simp [List.getD, List.getElem?_eq_getElem (show k0 < x.length by omega)]
    obtain ⟨y0, y9⟩ := xd _ hm
    have hkx : (k0 : Int) < (x.length : Int) := by omega
    generalize hy : List.getD x k0 0 = y at *
    have hx : y.toNat < c.length := by omega
    have h1 : y < ((10 : Nat) : Int) := by omega
    have hsx := hs y.toNat
    have hlen : pre.length + 1 ≤ 1000 := by simp at hl; omega
    have ih := e_impl_TieCount_2 R n k0 hk v4 v20 v21 r (pre ++ [x]) (List.set c y.toNat (List.getD c y.toNat 0 + 1)) (by simpa using hc) (fun z hz => hr z (List.mem_cons_of_mem _ hz)) (by have := hs.set hx (x := 1) (by omega); simpa using this) (by simpa using hl)
    refine Ev.succ ?_
    simp only [f_impl_TieCount_2, lt_mid, ge_mid, decide_true, if_true, Int.toNat_natCast, getD_mid, Int.natCast_nonneg, hkx, hy, y0, h1, ten hc, hx]
    rw [next_mid pre x r (by omega), w64 (n := List.getD c y.toNat 0 + 1) (by omega) (by omega)]
    rw [← shift_mid] at ih
    refine (show Ev _ _ from ih).congr ?_
    simp only [colOf, List.map_cons, cnt, hy]
theorem e_impl_TieCount_4 {c : List Int} (hc : c.length = 10) (R : List (List Int)) (v4 m v20 v21 : Int) : ∀ (d i : Nat) (n : Int), i + d = 10 → 0 ≤ n → n ≤ i → Ev (fun k => f_impl_TieCount_4 k R v4 m n v20 v21 (List.getD c 0 0) (List.getD c 1 0) (List.getD c 2 0) (List.getD c 3 0) (List.getD c 4 0) (List.getD c 5 0) (List.getD c 6 0) (List.getD c 7 0) (List.getD c 8 0) (List.getD c 9 0) (i : Int)) (R, v4, sev (fun i => List.getD c i 0) m d i n, v20, v21)
  | 0, i, n, h, h0, h1 => by
    have : ¬ (i : Int) < 10 := by omega
    refine Ev.succ ?_
    simp only [f_impl_TieCount_4, this, decide_false, Bool.false_eq_true, if_false, sev]
    exact Ev.some _
  | d + 1, i, n, h, h0, h1 => by
    have g1 : (i : Int) < 10 := by omega
    have g2 : (i : Int) < ((10 : Nat) : Int) := by omega
    have g4 : wrap64 ((i : Int) + 1) = ((i + 1 : Nat) : Int) := by rw [w64 (by omega) (by omega)]; omega
    have g5 : wrap64 (n + 1) = n + 1 := w64 (by omega) (by omega)
    refine Ev.succ ?_
    simp only [f_impl_TieCount_4, ten hc, g1, g2, g4, g5, decide_true, if_true, Int.natCast_nonneg, Int.toNat_natCast, sev]
    refine Ev.ite (fun hh => ?_) (fun hh => ?_)
    · rw [if_pos (of_decide_eq_true hh)]
      exact e_impl_TieCount_4 hc R v4 m v20 v21 d (i + 1) (n + 1) (by omega) (by omega) (by omega)
    · rw [if_neg (fun h9 => hh (decide_eq_true h9))]
      exact e_impl_TieCount_4 hc R v4 m v20 v21 d (i + 1) n (by omega) h0 (by omega)
theorem e_spec_TieCount_4 (R : List (List Int)) (v4 v8 v9 v v20 v21 : Int) (l : List Int) : ∀ (r pre : List Int) (n : Int), 0 ≤ n → n ≤ (pre.length : Int) → (pre ++ r).length ≤ 1000 → l = pre ++ r → Ev (fun k => f_spec_TieCount_4 k l R v4 v8 v9 v n v20 v21 (l.length : Int) (pre.length : Int)) (l, R, v4, v8, v9, v, n + occ r v, v20, v21)
  | [], pre, n, h0, h1, hl, he => by
    subst he
    refine Ev.succ ?_
    simp only [f_spec_TieCount_4, nlt_end, decide_false, Bool.false_eq_true, if_false, occ, Int.add_zero]
    exact Ev.some _
  | x :: r, pre, n, h0, h1, hl, he => by
    have hlen : pre.length + 1 ≤ 1000 := by simp at hl; omega
    have ih := fun n' h0 h1 => e_spec_TieCount_4 R v4 v8 v9 v v20 v21 l r (pre ++ [x]) n' h0 h1 (by simpa using hl) (by simpa using he)
    have g5 : wrap64 (n + 1) = n + 1 := w64 (by omega) (by omega)
    subst he
    refine Ev.succ ?_
    simp only [f_spec_TieCount_4, lt_mid, ge_mid, decide_true, if_true, Int.toNat_natCast, getD_mid, g5]
    rw [next_mid pre x r (by omega)]
    refine Ev.ite (fun hh => ?_) (fun hh => ?_)
    · have hh := of_decide_eq_true hh
      refine (ih (n + 1) (by omega) (by simp; omega)).congr ?_
      simp only [occ, if_pos hh, Int.add_assoc]
    · have hh : ¬ x = v := fun h9 => hh (decide_eq_true h9)
      refine (ih n (by omega) (by simp; omega)).congr ?_
      simp only [occ, if_neg hh, Int.zero_add]
theorem e_spec_TieCount_2 (R : List (List Int)) (v4 m v20 v21 : Int) (l : List Int) (hl : l.length ≤ 1000) : ∀ (d i : Nat) (n : Int), i + d = 10 → 0 ≤ n → n ≤ i → Ev (fun k => f_spec_TieCount_2 k l R v4 m n (i : Int) v20 v21) (R, v4, sev (fun i => occ l (i : Int)) m d i n, v20, v21)
  | 0, i, n, h, h0, h1 => by
    have : ¬ (i : Int) ≤ 9 := by omega
    refine Ev.succ ?_
    simp only [f_spec_TieCount_2, this, decide_false, Bool.false_eq_true, if_false, sev]
    exact Ev.some _
  | d + 1, i, n, h, h0, h1 => by
    have g1 : (i : Int) ≤ 9 := by omega
    have g4 : wrap64 ((i : Int) + 1) = ((i + 1 : Nat) : Int) := by rw [w64 (by omega) (by omega)]; omega
    have g5 : wrap64 (n + 1) = n + 1 := w64 (by omega) (by omega)
    have h8 := e_spec_TieCount_4 R v4 m n (i : Int) v20 v21 l l [] 0 (by omega) (by simp) (by simpa using hl) rfl
    simp only [List.length_nil, Int.natCast_zero, Int.zero_add] at h8
    refine Ev.succ ?_
    simp only [f_spec_TieCount_2, g1, decide_true, if_true]
    refine Ev.bind h8 ?_
    simp only [g4, g5, sev]
    refine Ev.ite (fun hh => ?_) (fun hh => ?_)
    · rw [if_pos (of_decide_eq_true hh)]
      exact e_spec_TieCount_2 R v4 m v20 v21 l hl d (i + 1) (n + 1) (by omega) (by omega) (by omega)
    · rw [if_neg (fun h9 => hh (decide_eq_true h9))]
      exact e_spec_TieCount_2 R v4 m v20 v21 l hl d (i + 1) n (by omega) h0 (by omega)
def tieB (R : List (List Int)) (i : Nat) : Bool := decide (sev (fun v => List.getD (countsOf (colOf R i)) v 0) (manyOf (colOf R i)) 10 0 0 > 1)
def tieF (R : List (List Int)) : Nat → Nat → Int → Int
  | 0, _, n => n
  | d + 1, i, n => tieF R d (i + 1) (if tieB R i then n + 1 else n)
theorem e_impl_TieCount_0 (R : List (List Int)) (n : Nat) (hn : n ≤ 1000) (hR : ∀ x ∈ R, x.length = n ∧ ∀ y ∈ x, 0 ≤ y ∧ y ≤ 9) (hl : R.length ≤ 1000) : ∀ (d i : Nat) (v4 : Int), i + d = n → 0 ≤ v4 → v4 ≤ i → Ev (fun k => f_impl_TieCount_0 k R v4 (n : Int) (i : Int)) (tieF R d i v4)
  | 0, i, v4, h, h0, h1 => by
    obtain rfl : i = n := by omega
    refine Ev.succ ?_
    simp only [f_impl_TieCount_0, Int.lt_irrefl, decide_false, Bool.false_eq_true, if_false, tieF]
    exact Ev.some _
  | d + 1, i, v4, h, h0, h1 => by
    have g1 : (i : Int) < n := by omega
    have g4 : wrap64 ((i : Int) + 1) = ((i + 1 : Nat) : Int) := by rw [w64 (by omega) (by omega)]; omega
    have g5 : wrap64 (v4 + 1) = v4 + 1 := w64 (by omega) (by omega)
    have hcd := col_digs (k := i) (by omega) hR
    have h2 := e_impl_TieCount_2 R n i (by omega) v4 (n : Int) (i : Int) R [] zeros rfl hR small_zeros (by simpa using hl)
    have h4 := e_impl_TieCount_4 (counts_len (colOf R i)) R v4 (manyOf (colOf R i)) (n : Int) (i : Int) 10 0 0 rfl (by omega) (by omega)
    refine Ev.succ ?_
    simp only [f_impl_TieCount_0, g1, decide_true, if_true]
    refine Ev.bind h2 (Ev.bind (e_impl_column R n i (by omega) (fun x hx => (hR x hx).1) hl) (Ev.bind (e_impl_mostVoted (colOf R i) hcd (by rw [col_len]; exact hl)) (Ev.bind h4 ?_)))
    simp only [g4, g5, tieF]
    refine Ev.ite (fun hh => ?_) (fun hh => ?_)
    · have hh : tieB R i = true := hh
      rw [if_pos hh]
      exact e_impl_TieCount_0 R n hn hR hl d (i + 1) (v4 + 1) (by omega) (by omega) (by omega)
    · have hh : ¬ tieB R i = true := hh
      rw [if_neg hh]
      exact e_impl_TieCount_0 R n hn hR hl d (i + 1) v4 (by omega) h0 (by omega)
theorem e_spec_TieCount_0 (R : List (List Int)) (n : Nat) (hn : n ≤ 1000) (hR : ∀ x ∈ R, x.length = n ∧ ∀ y ∈ x, 0 ≤ y ∧ y ≤ 9) (hl : R.length ≤ 1000) : ∀ (d i : Nat) (v4 : Int), i + d = n → 0 ≤ v4 → v4 ≤ i → Ev (fun k => f_spec_TieCount_0 k R v4 (n : Int) (i : Int)) (tieF R d i v4)
  | 0, i, v4, h, h0, h1 => by
    obtain rfl : i = n := by omega
    refine Ev.succ ?_
    simp only [f_spec_TieCount_0, Int.lt_irrefl, decide_false, Bool.false_eq_true, if_false, tieF]
    exact Ev.some _
  | d + 1, i, v4, h, h0, h1 => by
    have g1 : (i : Int) < n := by omega
    have g4 : wrap64 ((i : Int) + 1) = ((i + 1 : Nat) : Int) := by rw [w64 (by omega) (by omega)]; omega
    have g5 : wrap64 (v4 + 1) = v4 + 1 := w64 (by omega) (by omega)
    have hcd := col_digs (k := i) (by omega) hR
    have h4 := e_spec_TieCount_2 R v4 (manyOf (colOf R i)) (n : Int) (i : Int) (colOf R i) (by rw [col_len]; exact hl) 10 0 0 rfl (by omega) (by omega)
    refine Ev.succ ?_
    simp only [f_spec_TieCount_0, g1, decide_true, if_true]
    refine Ev.bind (e_spec_voPlace R n i (by omega) (fun x hx => (hR x hx).1) hl) (Ev.bind (e_spec_voMost (colOf R i) hcd (by rw [col_len]; exact hl)) (Ev.bind h4 ?_))
    have hs : sev (fun j => occ (colOf R i) (j : Int)) (manyOf (colOf R i)) 10 0 0 = sev (fun v => List.getD (countsOf (colOf R i)) v 0) (manyOf (colOf R i)) 10 0 0 := sev_congr (fun j => (counts_get hcd j).symm) _ _ _ _
    simp only [g4, g5, tieF, hs]
    refine Ev.ite (fun hh => ?_) (fun hh => ?_)
    · have hh : tieB R i = true := hh
      rw [if_pos hh]
      exact e_spec_TieCount_0 R n hn hR hl d (i + 1) (v4 + 1) (by omega) (by omega) (by omega)
    · have hh : ¬ tieB R i = true := hh
      rw [if_neg hh]
      exact e_spec_TieCount_0 R n hn hR hl d (i + 1) v4 (by omega) h0 (by omega)
def r_TieCount (R : List (List Int)) : Int × Bool := if rowsOK R then (tieF R (List.getD R 0 []).length 0 0, true) else (0, false)
theorem e_spec_TieCount (R : List (List Int)) (h0 : R.length ≤ 9223372036854775806) (hx : ∀ x ∈ R, x.length ≤ 9223372036854775806) : Ev (fun k => f_spec_TieCount k R) (r_TieCount R) := by
  refine Ev.succ ?_
  simp only [f_spec_TieCount]
  unfold r_TieCount
  refine Ev.bind (a := rowsOK R) (e_spec_voRows R hx h0) ?_
  cases g0 : rowsOK R with
  | false => simp only [Bool.not_false, if_true, Bool.false_eq_true, if_false, Bool.false_and, Bool.and_false]; exact Ev.some _
  | true =>
    simp only [Bool.not_true, Bool.false_eq_true, if_false, if_true, Bool.and_self]
    obtain ⟨k1, k2, k3, k4⟩ := rows_ok g0
    have h00 : (0 : Int) < (R.length : Int) := by omega
    simp only [h00, if_true, Int.toNat_zero]
    exact Ev.bind (e_spec_TieCount_0 R (List.getD R 0 []).length (by omega) k4 (by omega) _ 0 0 (by omega) (by omega) (by omega)) (Ev.some _)
theorem e_impl_TieCount (R : List (List Int)) (h0 : R.length ≤ 9223372036854775806) (hx : ∀ x ∈ R, x.length ≤ 9223372036854775806) : Ev (fun k => f_impl_TieCount k R) (r_TieCount R) := by
  refine Ev.succ ?_
  simp only [f_impl_TieCount]
  unfold r_TieCount
  refine Ev.bind (a := rowsOK R) (e_impl_areRows R hx h0) ?_
  cases g0 : rowsOK R with
  | false => simp only [Bool.not_false, if_true, Bool.false_eq_true, if_false, Bool.false_and, Bool.and_false]; exact Ev.some _
  | true =>
    simp only [Bool.not_true, Bool.false_eq_true, if_false, if_true, Bool.and_self]
    obtain ⟨k1, k2, k3, k4⟩ := rows_ok g0
    have h00 : (0 : Int) < (R.length : Int) := by omega
    simp only [h00, if_true, Int.toNat_zero]
    exact Ev.bind (e_impl_TieCount_0 R (List.getD R 0 []).length (by omega) k4 (by omega) _ 0 0 (by omega) (by omega) (by omega)) (Ev.some _)
end Go.Proofs.Ytgjmhbjdhihgaaa.Vs

set_option linter.unusedVariables false
set_option linter.unusedSimpArgs false
namespace Go.Proofs.Ytgjmhbjdhihgaaa.Vs
open Go.RowKit
/-! ### Weights -/
def wsum : List Int → List Int → List Int → List Int
  | x :: vs, q :: ws, c => wsum vs ws (List.set c x.toNat (List.getD c x.toNat 0 + q))
  | _, _, c => c
theorem wsum_len : ∀ (vs ws c : List Int), (wsum vs ws c).length = c.length
  | [], _, _ => rfl
  | _ :: _, [], _ => rfl
  | x :: vs, q :: ws, c => by simp [wsum, wsum_len vs ws]
theorem Small.wide {c : List Int} {n m : Int} (h : Small c n) (hn : n ≤ m) : Small c m := fun i => by have := h i; omega
def wok (q : Int) : Bool := decide (0 ≤ q ∧ q ≤ 100)
theorem e_impl_WeightedVote_0 : ∀ (r pre vs vp c : List Int), vs.length = r.length → vp.length = pre.length → c.length = 10 → (∀ x ∈ vs, 0 ≤ x ∧ x ≤ 9) → Small c (100 * (pre.length : Int)) → (pre ++ r).length ≤ 1000 → Ev (fun k => f_impl_WeightedVote_0 k (List.getD c 0 0) (List.getD c 1 0) (List.getD c 2 0) (List.getD c 3 0) (List.getD c 4 0) (List.getD c 5 0) (List.getD c 6 0) (List.getD c 7 0) (List.getD c 8 0) (List.getD c 9 0) (vp ++ vs) (pre ++ r) ((pre ++ r).length : Int) (pre.length : Int)) (if r.all wok then LR.go (List.getD (wsum vs r c) 0 0, List.getD (wsum vs r c) 1 0, List.getD (wsum vs r c) 2 0, List.getD (wsum vs r c) 3 0, List.getD (wsum vs r c) 4 0, List.getD (wsum vs r c) 5 0, List.getD (wsum vs r c) 6 0, List.getD (wsum vs r c) 7 0, List.getD (wsum vs r c) 8 0, List.getD (wsum vs r c) 9 0, vp ++ vs) else LR.ret (0, false))
  | [], pre, vs, vp, c, h, hp, hc, hd, hs, hl => by
    obtain rfl : vs = [] := List.eq_nil_of_length_eq_zero h
    refine Ev.succ ?_
    simp only [f_impl_WeightedVote_0, nlt_end, decide_false, Bool.false_eq_true, if_false, List.all_nil, if_true, wsum]
    exact Ev.some _
  | q :: r, pre, [], vp, c, h, hp, hc, hd, hs, hl => by simp at h
  | q :: r, pre, x :: vs, vp, c, h, hp, hc, hd, hs, hl => by
    obtain ⟨x0, x9⟩ := hd x (List.mem_cons_self ..)
    have hx : x.toNat < c.length := by omega
    have h1 : x < ((10 : Nat) : Int) := by omega
    have hsx := hs x.toNat
    have hlen : pre.length + 1 ≤ 1000 := by simp at hl; omega
    have l2 : (pre.length : Int) < ((vp ++ x :: vs).length : Int) := by rw [← hp]; exact lt_mid _ _ _
    have g2 : List.getD (vp ++ x :: vs) pre.length 0 = x := by rw [← hp]; exact getD_mid _ _ _ _
    refine Ev.succ ?_
    simp only [f_impl_WeightedVote_0, lt_mid, ge_mid, l2, decide_true, if_true, Int.toNat_natCast, getD_mid, g2, x0, h1, ten hc, hx]
    rw [next_mid pre q r (by omega)]
    refine Ev.ite (fun hh => ?_) (fun hh => Ev.ite (fun hh2 => ?_) (fun hh2 => ?_))
    · have hh := of_decide_eq_true hh
      have hq : wok q = false := by unfold wok; apply decide_eq_false; omega
      simp only [List.all_cons, hq, Bool.false_and, Bool.false_eq_true, if_false]
      exact Ev.some _
    · have hh2 := of_decide_eq_true hh2
      have hq : wok q = false := by unfold wok; apply decide_eq_false; omega
      simp only [List.all_cons, hq, Bool.false_and, Bool.false_eq_true, if_false]
      exact Ev.some _
    · have hh : ¬ q < 0 := fun h9 => hh (decide_eq_true h9)
      have hh2 : ¬ q > 100 := fun h9 => hh2 (decide_eq_true h9)
      have hq : wok q = true := by unfold wok; apply decide_eq_true; omega
      have ih := e_impl_WeightedVote_0 r (pre ++ [q]) vs (vp ++ [x]) (List.set c x.toNat (List.getD c x.toNat 0 + q)) (by simpa using h) (by simpa using hp) (by simpa using hc) (fun y hy => hd y (List.mem_cons_of_mem _ hy)) ((hs.set hx (x := q) (by omega)).wide (by simp; omega)) (by simpa using hl)
      rw [w64 (n := List.getD c x.toNat 0 + q) (by omega) (by omega)]
      rw [← shift_mid, ← shift_mid] at ih
      refine (show Ev _ _ from ih).congr ?_
      simp only [List.all_cons, hq, Bool.true_and, wsum]
theorem e_spec_WeightedVote_0 (V : List Int) (v7 : Int) : ∀ (vs vp r pre c : List Int), vs.length = r.length → vp.length = pre.length → c.length = 10 → (∀ x ∈ vs, 0 ≤ x ∧ x ≤ 9) → (∀ q ∈ r, wok q = true) → Small c (100 * (vp.length : Int)) → (vp ++ vs).length ≤ 1000 → Ev (fun k => f_spec_WeightedVote_0 k c V (pre ++ r) v7 (vp ++ vs) ((vp ++ vs).length : Int) (vp.length : Int)) (wsum vs r c, V, v7)
  | [], vp, r, pre, c, h, hp, hc, hd, hr, hs, hl => by
    obtain rfl : r = [] := List.eq_nil_of_length_eq_zero h.symm
    refine Ev.succ ?_
    simp only [f_spec_WeightedVote_0, nlt_end, decide_false, Bool.false_eq_true, if_false, wsum]
    exact Ev.some _
  | x :: vs, vp, [], pre, c, h, hp, hc, hd, hr, hs, hl => by simp at h
  | x :: vs, vp, q :: r, pre, c, h, hp, hc, hd, hr, hs, hl => by
    obtain ⟨x0, x9⟩ := hd x (List.mem_cons_self ..)
    have hx : x.toNat < c.length := by omega
    have h1 : x < (c.length : Int) := by omega
    have hsx := hs x.toNat
    have hq : 0 ≤ q ∧ q ≤ 100 := by have := hr q (List.mem_cons_self ..); unfold wok at this; exact of_decide_eq_true this
    have hlen : vp.length + 1 ≤ 1000 := by simp at hl; omega
    have l2 : (vp.length : Int) < ((pre ++ q :: r).length : Int) := by rw [hp]; exact lt_mid _ _ _
    have g2 : List.getD (pre ++ q :: r) vp.length 0 = q := by rw [hp]; exact getD_mid _ _ _ _
    have ih := e_spec_WeightedVote_0 V v7 vs (vp ++ [x]) r (pre ++ [q]) (List.set c x.toNat (List.getD c x.toNat 0 + q)) (by simpa using h) (by simpa using hp) (by simpa using hc) (fun y hy => hd y (List.mem_cons_of_mem _ hy)) (fun y hy => hr y (List.mem_cons_of_mem _ hy)) ((hs.set hx (x := q) (by omega)).wide (by simp; omega)) (by simpa using hl)
    refine Ev.succ ?_
    simp only [f_spec_WeightedVote_0, lt_mid, ge_mid, l2, decide_true, if_true, Int.toNat_natCast, getD_mid, g2, x0, h1]
    rw [next_mid vp x vs (by omega), w64 (n := List.getD c x.toNat 0 + q) (by omega) (by omega)]
    rw [← shift_mid, ← shift_mid] at ih
    exact ih
def wbest (c V : List Int) : Nat → Nat → Int → Int
  | 0, _, b => b
  | d + 1, i, b => wbest c V d (i + 1) (if (i : Int) ∈ V then (if b < 0 then (i : Int) else if List.getD c i 0 > List.getD c b.toNat 0 then (i : Int) else b) else b)
theorem e_slices_Index_int_int_0 (n : Int) : ∀ (r pre : List Int), (pre ++ r).length ≤ 1000000 → ∃ z, Ev (fun k => f_slices_Index_int_int_0 k (pre ++ r) n ((pre ++ r).length : Int) (pre.length : Int)) z ∧ ((z = LR.go () ∧ n ∉ r) ∨ ∃ i : Nat, z = LR.ret (i : Int) ∧ n ∈ r)
  | [], pre, hl => by
    refine ⟨LR.go (), Ev.succ ?_, .inl ⟨rfl, by simp⟩⟩
    simp only [f_slices_Index_int_int_0, nlt_end, decide_false, Bool.false_eq_true, if_false]
    exact Ev.some _
  | x :: r, pre, hl => by
    by_cases hx : n = x
    · refine ⟨LR.ret (pre.length : Int), Ev.succ ?_, .inr ⟨pre.length, rfl, by rw [hx]; exact List.mem_cons_self ..⟩⟩
      simp only [f_slices_Index_int_int_0, lt_mid, ge_mid, decide_true, if_true, Int.toNat_natCast, getD_mid, hx]
      exact Ev.some _
    · obtain ⟨z, ih, hz⟩ := e_slices_Index_int_int_0 n r (pre ++ [x]) (by simpa using hl)
      refine ⟨z, Ev.succ ?_, ?_⟩
      · simp only [f_slices_Index_int_int_0, lt_mid, ge_mid, decide_true, if_true, Int.toNat_natCast, getD_mid, hx, decide_false, Bool.false_eq_true, if_false]
        rw [next_mid pre x r (by omega)]
        rw [← shift_mid] at ih
        exact ih
      · rcases hz with ⟨h1, h2⟩ | ⟨i, h1, h2⟩
        · exact .inl ⟨h1, fun h => by rcases List.mem_cons.1 h with h | h; exact hx h; exact h2 h⟩
        · exact .inr ⟨i, h1, List.mem_cons_of_mem _ h2⟩
theorem e_slices_Contains_int_int (l : List Int) (n : Int) (hl : l.length ≤ 1000000) : Ev (fun k => f_slices_Contains_int_int k l n) (decide (n ∈ l)) := by
  obtain ⟨z, hz, h⟩ := e_slices_Index_int_int_0 n l [] (by simpa using hl)
  have hi : Ev (fun k => f_slices_Index_int_int k l n) (match z with | LR.go _ => (-1 : Int) | LR.ret y => y) := by
    refine Ev.succ ?_
    simp only [f_slices_Index_int_int]
    refine Ev.bind hz ?_
    cases z with
    | go y => exact Ev.go (Ev.some _)
    | ret y => exact Ev.ret (Ev.some _)
  refine Ev.succ ?_
  simp only [f_slices_Contains_int_int]
  refine Ev.bind hi (Ev.of ?_)
  rcases h with ⟨rfl, h2⟩ | ⟨i, rfl, h2⟩
  · simp [h2]
  · simp [h2]
theorem e_spec_l1Has_v (n : Int) : ∀ (r pre : List Int), (pre ++ r).length ≤ 1000000 → Ev (fun k => f_spec_l1Has_0 k n (pre ++ r) ((pre ++ r).length : Int) (pre.length : Int)) (if n ∈ r then LR.ret true else LR.go ())
  | [], pre, hl => by
    refine Ev.succ ?_
    simp only [f_spec_l1Has_0, nlt_end, decide_false, Bool.false_eq_true, if_false, List.not_mem_nil]
    exact Ev.some _
  | x :: r, pre, hl => by
    have ih := e_spec_l1Has_v n r (pre ++ [x]) (by simpa using hl)
    refine Ev.succ ?_
    simp only [f_spec_l1Has_0, lt_mid, ge_mid, decide_true, if_true, Int.toNat_natCast, getD_mid]
    rw [next_mid pre x r (by omega)]
    rw [← shift_mid] at ih
    refine Ev.ite (fun h => ?_) (fun h => ?_)
    · simp only [decide_eq_true_eq] at h
      rw [if_pos (by rw [h]; exact List.mem_cons_self ..)]
      exact Ev.some _
    · simp only [decide_eq_true_eq] at h
      refine ih.congr ?_
      have : (n ∈ x :: r) ↔ n ∈ r := by rw [List.mem_cons]; exact ⟨fun h2 => h2.elim (fun h3 => (h h3.symm).elim) id, .inr⟩
      simp only [this]
theorem e_spec_l1Has_w (l : List Int) (n : Int) (hl : l.length ≤ 1000000) : Ev (fun k => f_spec_l1Has k l n) (decide (n ∈ l)) := by
  refine Ev.succ ?_
  simp only [f_spec_l1Has]
  refine Ev.bind (e_spec_l1Has_v n l [] (by simpa using hl)) ?_
  by_cases h : n ∈ l
  · rw [if_pos h, decide_eq_true h]; exact Ev.ret (Ev.some _)
  · rw [if_neg h, decide_eq_false h]; exact Ev.go (Ev.some _)
theorem e_impl_WeightedVote_2 {c : List Int} (hc : c.length = 10) (V : List Int) (hV : V.length ≤ 1000) : ∀ (d i : Nat) (b : Int), i + d = 10 → b < 10 → Ev (fun k => f_impl_WeightedVote_2 k (List.getD c 0 0) (List.getD c 1 0) (List.getD c 2 0) (List.getD c 3 0) (List.getD c 4 0) (List.getD c 5 0) (List.getD c 6 0) (List.getD c 7 0) (List.getD c 8 0) (List.getD c 9 0) V b (i : Int)) (wbest c V d i b)
  | 0, i, b, h, h1 => by
    have : ¬ (i : Int) < 10 := by omega
    refine Ev.succ ?_
    simp only [f_impl_WeightedVote_2, this, decide_false, Bool.false_eq_true, if_false, wbest]
    exact Ev.some _
  | d + 1, i, b, h, h1 => by
    have g1 : (i : Int) < 10 := by omega
    have g2 : (i : Int) < ((10 : Nat) : Int) := by omega
    have g3 : b < ((10 : Nat) : Int) := by omega
    have g6 : i < c.length := by omega
    have g4 : wrap64 ((i : Int) + 1) = ((i + 1 : Nat) : Int) := by rw [w64 (by omega) (by omega)]; omega
    refine Ev.succ ?_
    simp only [f_impl_WeightedVote_2, ten hc, g1, g2, g3, g4, g6, decide_true, if_true, Int.natCast_nonneg, Int.toNat_natCast, wbest]
    refine Ev.bind (e_slices_Contains_int_int V (i : Int) (by omega)) (Ev.ite (fun hh => Ev.ite (fun hb => ?_) (fun hb => ?_)) (fun hh => ?_))
    · rw [if_pos (of_decide_eq_true hh), if_pos (of_decide_eq_true hb)]
      exact e_impl_WeightedVote_2 hc V hV d (i + 1) i (by omega) (by omega)
    · have hb : ¬ b < 0 := fun h9 => hb (decide_eq_true h9)
      have b0 : 0 ≤ b := by omega
      have g5 : b.toNat < c.length := by omega
      rw [if_pos (of_decide_eq_true hh), if_neg hb]
      simp only [b0, g5, if_true]
      refine Ev.ite (fun hg => ?_) (fun hg => ?_)
      · rw [if_pos (of_decide_eq_true hg)]
        exact e_impl_WeightedVote_2 hc V hV d (i + 1) i (by omega) (by omega)
      · rw [if_neg (fun h9 => hg (decide_eq_true h9))]
        exact e_impl_WeightedVote_2 hc V hV d (i + 1) b (by omega) h1
    · rw [if_neg (fun h9 => hh (decide_eq_true h9))]
      exact e_impl_WeightedVote_2 hc V hV d (i + 1) b (by omega) h1
theorem e_spec_WeightedVote_2 {c : List Int} (hc : c.length = 10) (V : List Int) (hV : V.length ≤ 1000) : ∀ (d i : Nat) (b : Int), i + d = 10 → b < 10 → Ev (fun k => f_spec_WeightedVote_2 k c V b 10 (i : Int)) (wbest c V d i b)
  | 0, i, b, h, h1 => by
    have : ¬ (i : Int) < 10 := by omega
    refine Ev.succ ?_
    simp only [f_spec_WeightedVote_2, this, decide_false, Bool.false_eq_true, if_false, wbest]
    exact Ev.some _
  | d + 1, i, b, h, h1 => by
    have g1 : (i : Int) < 10 := by omega
    have g2 : (i : Int) < (c.length : Int) := by omega
    have g3 : b < (c.length : Int) := by omega
    have g4 : wrap64 ((i : Int) + 1) = ((i + 1 : Nat) : Int) := by rw [w64 (by omega) (by omega)]; omega
    refine Ev.succ ?_
    simp only [f_spec_WeightedVote_2, g1, g2, g3, g4, decide_true, if_true, Int.natCast_nonneg, Int.toNat_natCast, wbest]
    refine Ev.bind (e_spec_l1Has_w V (i : Int) (by omega)) (Ev.ite (fun hh => Ev.ite (fun hb => ?_) (fun hb => ?_)) (fun hh => ?_))
    · rw [if_pos (of_decide_eq_true hh), if_pos (of_decide_eq_true hb)]
      exact e_spec_WeightedVote_2 hc V hV d (i + 1) i (by omega) (by omega)
    · have hb : ¬ b < 0 := fun h9 => hb (decide_eq_true h9)
      have b0 : 0 ≤ b := by omega
      rw [if_pos (of_decide_eq_true hh), if_neg hb]
      simp only [b0, if_true]
      refine Ev.ite (fun hg => ?_) (fun hg => ?_)
      · rw [if_pos (of_decide_eq_true hg)]
        exact e_spec_WeightedVote_2 hc V hV d (i + 1) i (by omega) (by omega)
      · rw [if_neg (fun h9 => hg (decide_eq_true h9))]
        exact e_spec_WeightedVote_2 hc V hV d (i + 1) b (by omega) h1
    · rw [if_neg (fun h9 => hh (decide_eq_true h9))]
      exact e_spec_WeightedVote_2 hc V hV d (i + 1) b (by omega) h1
def r_WeightedVote (l ws : List Int) : Int × Bool := if votesOK l then (if ws.length = l.length then (if ws.all wok then (wbest (wsum l ws zeros) l 10 0 (-1), true) else (0, false)) else (0, false)) else (0, false)
theorem e_spec_WeightedVote (l ws : List Int) (h0 : l.length ≤ 9223372036854775806) (h1 : ws.length ≤ 9223372036854775806) : Ev (fun k => f_spec_WeightedVote k l ws) (r_WeightedVote l ws) := by
  refine Ev.succ ?_
  simp only [f_spec_WeightedVote]
  unfold r_WeightedVote
  refine Ev.bind (a := votesOK l) (e_spec_voVotes l h0) ?_
  cases g0 : votesOK l with
  | false => simp only [Bool.not_false, if_true, Bool.false_eq_true, if_false]; exact Ev.some _
  | true =>
    obtain ⟨h9, hd⟩ := votes_ok g0
    simp only [Bool.not_true, Bool.false_eq_true, if_false, if_true]
    refine Ev.ite (fun hh => ?_) (fun hh => ?_)
    · have hh : (ws.length : Int) ≠ (l.length : Int) := of_decide_eq_true hh
      rw [if_neg (by omega)]; exact Ev.some _
    · have hh : ws.length = l.length := by
        by_cases h8 : (ws.length : Int) ≠ (l.length : Int)
        · exact (hh (decide_eq_true h8)).elim
        · omega
      rw [if_pos hh]
      refine Ev.bind (a := ws.all wok) (e_spec_l1All ws 0 100 h1) ?_
      cases g1 : ws.all wok with
      | false => simp only [Bool.not_false, if_true, Bool.false_eq_true, if_false]; exact Ev.some _
      | true =>
        simp only [Bool.not_true, Bool.false_eq_true, if_false, if_true]
        have h8 := e_spec_WeightedVote_0 l (-1) l [] ws [] zeros hh.symm rfl rfl hd (List.all_eq_true.1 g1) (small_zeros.wide (by simp)) (by simp; omega)
        refine Ev.bind h8 ?_
        have hwl : (wsum l ws zeros).length = 10 := by rw [wsum_len]; rfl
        have h7 := e_spec_WeightedVote_2 hwl l (by omega) 10 0 (-1) rfl (by omega)
        show Ev (fun k => Option.bind (f_spec_WeightedVote_2 k (wsum l ws zeros) l (-1) ((wsum l ws zeros).length : Int) 0) _) _
        rw [hwl]
        exact Ev.bind h7 (Ev.some _)
theorem e_impl_WeightedVote (l ws : List Int) (h0 : l.length ≤ 9223372036854775806) (h1 : ws.length ≤ 9223372036854775806) : Ev (fun k => f_impl_WeightedVote k l ws) (r_WeightedVote l ws) := by
  refine Ev.succ ?_
  simp only [f_impl_WeightedVote]
  unfold r_WeightedVote
  refine Ev.bind (a := votesOK l) (e_impl_areVotes l h0) ?_
  cases g0 : votesOK l with
  | false => simp only [Bool.not_false, if_true, Bool.false_eq_true, if_false]; exact Ev.some _
  | true =>
    obtain ⟨h9, hd⟩ := votes_ok g0
    simp only [Bool.not_true, Bool.false_eq_true, if_false, if_true]
    refine Ev.ite (fun hh => ?_) (fun hh => ?_)
    · have hh : (ws.length : Int) ≠ (l.length : Int) := of_decide_eq_true hh
      rw [if_neg (by omega)]; exact Ev.some _
    · have hh : ws.length = l.length := by
        by_cases h8 : (ws.length : Int) ≠ (l.length : Int)
        · exact (hh (decide_eq_true h8)).elim
        · omega
      rw [if_pos hh]
      have h8 := e_impl_WeightedVote_0 ws [] l [] zeros hh.symm rfl rfl hd (small_zeros.wide (by simp)) (by simp; omega)
      refine Ev.bind h8 ?_
      cases g1 : ws.all wok with
      | false => simp only [Bool.false_eq_true, if_false]; exact Ev.ret (Ev.some _)
      | true =>
        simp only [if_true]
        have hwl : (wsum l ws zeros).length = 10 := by rw [wsum_len]; rfl
        have h7 := e_impl_WeightedVote_2 hwl l (by omega) 10 0 (-1) rfl (by omega)
        exact Ev.go (Ev.bind h7 (Ev.some _))
end Go.Proofs.Ytgjmhbjdhihgaaa.Vs

set_option linter.unusedVariables false
set_option linter.unusedSimpArgs false
namespace Go.Proofs.Ytgjmhbjdhihgaaa.Vs
open Go.RowKit
theorem bytes_of {l : List Int} (h : ∀ x ∈ l, Wf (.int .u8) x) : ∀ x ∈ l, 0 ≤ x ∧ x ≤ 255 := by
  intro x hx
  have h2 : (Lit.int .u8 x).wf = true := h x hx
  simp only [Lit.wf, Bool.and_eq_true, decide_eq_true_eq] at h2
  have e1 : IntKind.u8.min = 0 := by decide
  have e2 : IntKind.u8.max = 255 := by decide
  omega
/-- A cursor that can be drawn from: bytes, and room for n more steps. -/
def Cur (code : List Int) (at' n : Int) : Prop := (∀ x ∈ code, 0 ≤ x ∧ x ≤ 255) ∧ code.length ≤ 9223372036854775807 ∧ 0 ≤ at' ∧ at' + n ≤ 4611686018427387904
theorem Cur.to {code : List Int} {at' n at2 m : Int} (h : Cur code at' n) (h1 : at' ≤ at2) (h2 : at2 + m ≤ at' + n) : Cur code at2 m := ⟨h.1, h.2.1, by have := h.2.2.1; omega, by have := h.2.2.2; omega⟩
theorem wrap_u64_in (n : Int) (h0 : 0 ≤ n) (h1 : n < 2 ^ 64) : IntKind.u64.wrap n = n := by
  have : (2 : Int) ^ 64 = 18446744073709551616 := by decide
  simp [IntKind.wrap, IntKind.bits, IntKind.signed]
  omega
theorem and255 (x : Int) : 0 ≤ bits BinOp.and IntKind.u64 x 255 ∧ bits BinOp.and IntKind.u64 x 255 ≤ 255 := by
  unfold bits
  simp only
  have h : ((BitVec.ofInt IntKind.u64.bits x &&& BitVec.ofInt IntKind.u64.bits 255).toNat) ≤ 255 := by
    rw [BitVec.toNat_and]
    exact Nat.and_le_right
  have h2 : ((2 : Int) ^ 64) = 18446744073709551616 := by decide
  rw [wrap_u64_in _ (Int.natCast_nonneg _) (by omega)]
  omega
theorem getD_memI {l : List Int} {i : Int} (h : i < (l.length : Int)) (h0 : 0 ≤ i) : List.getD l i.toNat 0 ∈ l := by
  have hi : i.toNat < l.length := by omega
  simp only [List.getD, List.getElem?_eq_getElem hi, Option.getD_some]
  exact List.getElem_mem hi
def seedN (s b : Int) : Int := IntKind.wrap IntKind.u64 (IntKind.wrap IntKind.u64 (IntKind.wrap IntKind.u64 (s * 6364136223846793005) + IntKind.wrap IntKind.u64 b) + 1442695040888963407)
theorem e_next {code : List Int} {at' : Int} (seed : Int) (h : Cur code at' 1) : ∃ v s, Ev (fun k => f_spec_l1Cur_next k (code, at', seed)) (v, at' + 1, s) ∧ 0 ≤ v ∧ v ≤ 255 := by
  obtain ⟨hb, hl, h0, h1⟩ := h
  have w1 : wrap64 (at' + 1) = at' + 1 := w64 (by omega) (by omega)
  have big : ∀ x : Int, 0 ≤ wrap64 (bits BinOp.and IntKind.u64 x 255) ∧ wrap64 (bits BinOp.and IntKind.u64 x 255) ≤ 255 := fun x => by
    have := and255 x
    rw [w64 (by omega) (by omega)]
    exact this
  by_cases hin : at' < (code.length : Int)
  · have hx := hb _ (getD_memI hin h0)
    have w2 : wrap64 (List.getD code at'.toNat 0) = List.getD code at'.toNat 0 := w64 (by omega) (by omega)
    have hle : at' + 1 ≤ (code.length : Int) := by omega
    refine ⟨List.getD code at'.toNat 0, seedN seed (List.getD code at'.toNat 0), Ev.succ ?_, hx.1, hx.2⟩
    simp only [f_spec_l1Cur_next, hin, h0, w1, hle, decide_true, if_true, w2]
    exact Ev.some _
  · have hle : ¬ at' + 1 ≤ (code.length : Int) := by omega
    refine ⟨wrap64 (bits BinOp.and IntKind.u64 (Int.fdiv (seedN seed 0) (2 ^ min (Int.toNat 40) (IntKind.bits IntKind.u64))) 255), seedN seed 0, Ev.succ ?_, (big _).1, (big _).2⟩
    simp only [f_spec_l1Cur_next, hin, w1, hle, decide_false, Bool.false_eq_true, if_false]
    exact Ev.some _
theorem e_pick {code : List Int} {at' : Int} (seed n : Int) (h : Cur code at' 2) : ∃ v at2 s, Ev (fun k => f_spec_l1Cur_pick k (code, at', seed) n) (v, at2, s) ∧ at' ≤ at2 ∧ at2 ≤ at' + 2 ∧ 0 ≤ v ∧ (n ≤ 1 → v = 0) ∧ (1 < n → v < n) := by
  by_cases hn : n ≤ 1
  · refine ⟨0, at', seed, Ev.succ ?_, by omega, by omega, by omega, fun _ => rfl, fun h => by omega⟩
    simp only [f_spec_l1Cur_pick, hn, decide_true, if_true]
    exact Ev.some _
  · obtain ⟨v1, s1, e1, b1, b2⟩ := e_next seed (h.to (at2 := at') (m := 1) (by omega) (by omega))
    by_cases hb : n > 200
    · obtain ⟨v2, s2, e2, b3, b4⟩ := e_next s1 (h.to (at2 := at' + 1) (m := 1) (by omega) (by omega))
      have hp : 0 ≤ v1 * 256 + v2 := by omega
      refine ⟨Int.tmod (v1 * 256 + v2) n, at' + 1 + 1, s2, Ev.succ ?_, by omega, by omega, Int.tmod_nonneg _ hp, fun h => by omega, fun _ => Int.tmod_lt_of_pos _ (by omega)⟩
      have hn0 : ¬ n = 0 := by omega
      simp only [f_spec_l1Cur_pick, hn, decide_false, Bool.false_eq_true, if_false]
      refine Ev.bind e1 ?_
      simp only [hb, decide_true, if_true]
      refine Ev.bind e2 ?_
      simp only [hn0, if_false]
      rw [w64 (n := v1 * 256) (by omega) (by omega), w64 (n := v1 * 256 + v2) (by omega) (by omega)]
      exact Ev.some _
    · refine ⟨Int.tmod v1 n, at' + 1, s1, Ev.succ ?_, by omega, by omega, Int.tmod_nonneg _ b1, fun h => by omega, fun _ => Int.tmod_lt_of_pos _ (by omega)⟩
      have hn0 : ¬ n = 0 := by omega
      simp only [f_spec_l1Cur_pick, hn, decide_false, Bool.false_eq_true, if_false]
      refine Ev.bind e1 ?_
      simp only [hb, decide_false, Bool.false_eq_true, if_false, hn0]
      exact Ev.some _
theorem e_among {code : List Int} {at' : Int} (seed : Int) (l : List Int) (hl : 0 < l.length) (h : Cur code at' 2) : ∃ v at2 s, Ev (fun k => f_spec_l1Cur_among k (code, at', seed) l) (v, at2, s) ∧ at' ≤ at2 ∧ at2 ≤ at' + 2 ∧ v ∈ l := by
  obtain ⟨v, at2, s, e1, b1, b2, b3, b4, b5⟩ := e_pick seed (l.length : Int) h
  have hlt : v < (l.length : Int) := by
    by_cases h1 : (l.length : Int) ≤ 1
    · rw [b4 h1]; omega
    · exact b5 (by omega)
  refine ⟨List.getD l v.toNat 0, at2, s, Ev.succ ?_, b1, b2, getD_memI hlt b3⟩
  simp only [f_spec_l1Cur_among]
  refine Ev.bind e1 ?_
  simp only [b3, hlt, if_true]
  exact Ev.some _
end Go.Proofs.Ytgjmhbjdhihgaaa.Vs

set_option linter.unusedVariables false
set_option linter.unusedSimpArgs false
namespace Go.Proofs.Ytgjmhbjdhihgaaa.Vs
open Go.RowKit
/-! ### The most voted is the least of the greatest -/
theorem best_least (c : List Int) : ∀ (d i : Nat) (b : Int), i + d = 10 → 0 ≤ b → b ≤ (i : Int) → (∀ j : Nat, j < i → List.getD c j 0 ≤ List.getD c b.toNat 0 ∧ (List.getD c j 0 = List.getD c b.toNat 0 → b ≤ (j : Int))) → ∀ j : Nat, j < 10 → List.getD c j 0 ≤ List.getD c (bestF c d i b).toNat 0 ∧ (List.getD c j 0 = List.getD c (bestF c d i b).toNat 0 → bestF c d i b ≤ (j : Int))
  | 0, i, b, h, h0, h1, hb, j, hj => by
    simp only [bestF]; exact hb j (by omega)
  | d + 1, i, b, h, h0, h1, hb, j, hj => by
    simp only [bestF]
    refine best_least c d (i + 1) _ (by omega) ?_ ?_ ?_ j hj
    · split <;> omega
    · split <;> omega
    · intro j hj
      split
      · rename_i hgt
        simp only [Int.toNat_natCast]
        rcases Nat.lt_or_ge j i with hlt | hge
        · have := hb j hlt; exact ⟨by omega, fun he => by omega⟩
        · obtain rfl : j = i := by omega
          exact ⟨by omega, fun _ => by omega⟩
      · rename_i hgt
        rcases Nat.lt_or_ge j i with hlt | hge
        · exact hb j hlt
        · obtain rfl : j = i := by omega
          exact ⟨by omega, fun _ => h1⟩
theorem most_least {l : List Int} (h : ∀ x ∈ l, 0 ≤ x ∧ x ≤ 9) (x : Int) (x0 : 0 ≤ x) (x9 : x ≤ 9) : occ l x ≤ manyOf l ∧ (occ l x = manyOf l → mostOf l ≤ x) := by
  have h1 := best_least (countsOf l) 10 0 0 rfl (by omega) (by omega) (fun j hj => by omega) x.toNat (by omega)
  have h2 := counts_get h x.toNat
  have h3 : ((x.toNat : Nat) : Int) = x := by omega
  rw [h2, h3] at h1
  exact h1
/-! ### Flips -/
def flipsOf (l : List Int) (x : Int) : Int := if 0 > (l.length : Int) / 2 + 1 - occ l x then 0 else (l.length : Int) / 2 + 1 - occ l x
def r_FlipsToWin (l : List Int) (x : Int) : Int × Bool := if votesOK l then (if 0 ≤ x ∧ x ≤ 9 then (flipsOf l x, true) else (0, false)) else (0, false)
theorem e_spec_FlipsToWin_0 (l : List Int) (x : Int) : ∀ (r pre : List Int) (n : Int), 0 ≤ n → n ≤ (pre.length : Int) → (pre ++ r).length ≤ 1000 → Ev (fun k => f_spec_FlipsToWin_0 k l x n (pre ++ r) ((pre ++ r).length : Int) (pre.length : Int)) (l, n + occ r x)
  | [], pre, n, h0, h1, hl => by
    refine Ev.succ ?_
    simp only [f_spec_FlipsToWin_0, nlt_end, decide_false, Bool.false_eq_true, if_false, occ, Int.add_zero]
    exact Ev.some _
  | y :: r, pre, n, h0, h1, hl => by
    have hlen : pre.length + 1 ≤ 1000 := by simp at hl; omega
    have w1 : wrap64 (n + 1) = n + 1 := w64 (by omega) (by omega)
    refine Ev.succ ?_
    simp only [f_spec_FlipsToWin_0, lt_mid, ge_mid, decide_true, if_true, Int.toNat_natCast, getD_mid, w1, occ]
    rw [next_mid pre y r (by omega)]
    refine Ev.ite (fun hh => ?_) (fun hh => ?_)
    · have hh : y = x := of_decide_eq_true hh
      have ih := e_spec_FlipsToWin_0 l x r (pre ++ [y]) (n + 1) (by omega) (by simp; omega) (by simpa using hl)
      rw [← shift_mid] at ih
      rw [if_pos hh, ← Int.add_assoc]
      exact ih
    · have hh : ¬ y = x := fun h => hh (decide_eq_true h)
      have ih := e_spec_FlipsToWin_0 l x r (pre ++ [y]) n (by omega) (by simp; omega) (by simpa using hl)
      rw [← shift_mid] at ih
      rw [if_neg hh, Int.zero_add]
      exact ih
theorem e_spec_FlipsToWin (l : List Int) (x : Int) (h0 : l.length ≤ 9223372036854775806) : Ev (fun k => f_spec_FlipsToWin k l x) (r_FlipsToWin l x) := by
  refine Ev.succ ?_
  simp only [f_spec_FlipsToWin]
  unfold r_FlipsToWin
  refine Ev.bind (a := votesOK l) (e_spec_voVotes l h0) ?_
  cases g0 : votesOK l with
  | false => simp only [Bool.not_false, if_true, Bool.false_eq_true, if_false]; exact Ev.some _
  | true =>
    obtain ⟨h9, hd⟩ := votes_ok g0
    simp only [Bool.not_true, Bool.false_eq_true, if_false, if_true]
    refine Ev.bind (e_spec_l1In x 0 9) ?_
    by_cases hx : 0 ≤ x ∧ x ≤ 9
    · simp only [hx, and_self, decide_true, Bool.not_true, Bool.false_eq_true, if_false, if_true]
      refine Ev.bind (e_spec_FlipsToWin_0 l x l [] 0 (by omega) (by simp) (by simp; omega)) ?_
      have hoc := occ_in l x
      have e1 : Int.tdiv (l.length : Int) 2 = (l.length : Int) / 2 := Int.tdiv_eq_ediv_of_nonneg (by omega)
      have e2 : wrap64 (wrap64 (wrap64 (Int.tdiv (l.length : Int) 2) + 1) - (0 + occ l x)) = (l.length : Int) / 2 + 1 - occ l x := by
        rw [e1, Int.zero_add, w64 (n := (l.length : Int) / 2) (by omega) (by omega), w64 (n := (l.length : Int) / 2 + 1) (by omega) (by omega), w64 (by omega) (by omega)]
      have hm : Ev (fun k => f_spec_l1Most k 0 ((l.length : Int) / 2 + 1 - occ l x)) (flipsOf l x) := by
        refine Ev.succ ?_
        simp only [f_spec_l1Most]
        unfold flipsOf
        refine Ev.of ?_
        by_cases h : (0 : Int) > (l.length : Int) / 2 + 1 - occ l x <;> simp [h]
      simp only [e2]
      exact Ev.bind hm (Ev.some _)
    · simp only [hx, decide_false, Bool.not_false, if_true, if_false]
      exact Ev.some _
theorem flips_right (l : List Int) (x : Int) (hv : votesOK l = true) (x0 : 0 ≤ x) (x9 : x ≤ 9) : ∃ n, r_FlipsToWin l x = (n, true) ∧ 0 ≤ n ∧ n ≤ 1000 ∧ ¬ 2 * (occ l x + n) ≤ (l.length : Int) ∧ (n > 0 → ¬ 2 * (occ l x + n - 1) > (l.length : Int)) := by
  have h9 := (votes_ok hv).1
  have hoc := occ_in l x
  refine ⟨flipsOf l x, ?_, ?_⟩
  · unfold r_FlipsToWin; rw [if_pos hv, if_pos ⟨x0, x9⟩]
  · unfold flipsOf
    split <;> refine ⟨by omega, by omega, by omega, by omega⟩
/-! ### Small functions of the law -/
theorem e_laws_sameInts_0 : ∀ (r s pre pre' : List Int), s.length = r.length → pre'.length = pre.length → (pre ++ r).length ≤ 9223372036854775806 → Ev (fun k => f_laws_sameInts_0 k (pre ++ r) (pre' ++ s) ((pre ++ r).length : Int) (pre.length : Int)) (if r = s then LR.go () else LR.ret false)
  | [], s, pre, pre', h, hp, hl => by
    obtain rfl : s = [] := List.eq_nil_of_length_eq_zero h
    refine Ev.succ ?_
    simp only [f_laws_sameInts_0, nlt_end, decide_false, Bool.false_eq_true, if_false, if_true]
    exact Ev.some _
  | x :: r, [], pre, pre', h, hp, hl => by simp at h
  | x :: r, y :: s, pre, pre', h, hp, hl => by
    have ih := e_laws_sameInts_0 r s (pre ++ [x]) (pre' ++ [y]) (by simpa using h) (by simpa using hp) (by simpa using hl)
    have l2 : (pre.length : Int) < ((pre' ++ y :: s).length : Int) := by rw [← hp]; exact lt_mid _ _ _
    have g2 : List.getD (pre' ++ y :: s) pre.length 0 = y := by rw [← hp]; exact getD_mid _ _ _ _
    refine Ev.succ ?_
    simp only [f_laws_sameInts_0, lt_mid, ge_mid, l2, decide_true, if_true, Int.toNat_natCast, getD_mid, g2]
    rw [next_mid pre x r (by omega)]
    rw [← shift_mid, ← shift_mid] at ih
    by_cases hxy : x = y
    · subst hxy
      simp only [ne_eq, not_true_eq_false, decide_false, Bool.false_eq_true, if_false]
      refine ih.congr ?_
      by_cases hrs : r = s <;> simp [hrs]
    · simp only [ne_eq, hxy, not_false_eq_true, decide_true, if_true]
      refine Ev.of ?_
      rw [if_neg (by intro hc; injection hc with h1 h2; exact hxy h1)]
theorem e_laws_sameInts (l m : List Int) (hl : l.length ≤ 9223372036854775806) : Ev (fun k => f_laws_sameInts k l m) (decide (l = m)) := by
  refine Ev.succ ?_
  simp only [f_laws_sameInts]
  by_cases h : l.length = m.length
  · have h8 := e_laws_sameInts_0 l m [] [] h.symm rfl (by simpa using hl)
    simp only [h, ne_eq, not_true_eq_false, decide_false, Bool.false_eq_true, if_false]
    simp only [List.nil_append, h, List.length_nil] at h8
    refine Ev.bind h8 ?_
    by_cases hlm : l = m
    · rw [if_pos hlm]; simp only [hlm, decide_true]; exact Ev.go (Ev.some _)
    · rw [if_neg hlm]; simp only [hlm, decide_false]; exact Ev.ret (Ev.some _)
  · have h2 : ¬ (l.length : Int) = (m.length : Int) := by omega
    have h3 : ¬ l = m := fun hc => h (by rw [hc])
    simp only [ne_eq, h2, not_false_eq_true, decide_true, if_true, h3, decide_false]
    exact Ev.some _
theorem e_laws_pIn_0 (n : Int) : ∀ (r pre : List Int), (pre ++ r).length ≤ 1000000 → Ev (fun k => f_laws_pIn_0 k n (pre ++ r) ((pre ++ r).length : Int) (pre.length : Int)) (if n ∈ r then LR.ret true else LR.go ())
  | [], pre, hl => by
    refine Ev.succ ?_
    simp only [f_laws_pIn_0, nlt_end, decide_false, Bool.false_eq_true, if_false, List.not_mem_nil]
    exact Ev.some _
  | x :: r, pre, hl => by
    have ih := e_laws_pIn_0 n r (pre ++ [x]) (by simpa using hl)
    refine Ev.succ ?_
    simp only [f_laws_pIn_0, lt_mid, ge_mid, decide_true, if_true, Int.toNat_natCast, getD_mid]
    rw [next_mid pre x r (by omega)]
    rw [← shift_mid] at ih
    refine Ev.ite (fun h => ?_) (fun h => ?_)
    · simp only [decide_eq_true_eq] at h
      rw [if_pos (by rw [h]; exact List.mem_cons_self ..)]
      exact Ev.some _
    · simp only [decide_eq_true_eq] at h
      refine ih.congr ?_
      have : (n ∈ x :: r) ↔ n ∈ r := by rw [List.mem_cons]; exact ⟨fun h2 => h2.elim (fun h3 => (h h3.symm).elim) id, .inr⟩
      simp only [this]
theorem e_laws_pIn (l : List Int) (n : Int) (hl : l.length ≤ 1000000) : Ev (fun k => f_laws_pIn k l n) (decide (n ∈ l)) := by
  refine Ev.succ ?_
  simp only [f_laws_pIn]
  refine Ev.bind (e_laws_pIn_0 n l [] (by simpa using hl)) ?_
  by_cases h : n ∈ l
  · rw [if_pos h, decide_eq_true h]; exact Ev.ret (Ev.some _)
  · rw [if_neg h, decide_eq_false h]; exact Ev.go (Ev.some _)
/-! ### Suspects and ties -/
theorem odds_mem (R : List (List Int)) (v : List Int) (n i : Nat) (h : i < n) : ((i : Int) ∈ odds R v n) ↔ ¬ List.getD R i [] = v := by
  unfold odds oddB
  simp only [List.mem_map, List.mem_filter, List.mem_range, Bool.not_eq_true', decide_eq_false_iff_not]
  constructor
  · rintro ⟨j, ⟨_, hj⟩, he⟩
    obtain rfl : j = i := by omega
    exact hj
  · exact fun hi => ⟨i, ⟨h, hi⟩, rfl⟩
theorem tieF_in (R : List (List Int)) : ∀ (d i : Nat) (n : Int), n ≤ tieF R d i n ∧ tieF R d i n ≤ n + d
  | 0, _, n => by simp only [tieF]; omega
  | d + 1, i, n => by
    simp only [tieF]
    split
    · have := tieF_in R d (i + 1) (n + 1); omega
    · have := tieF_in R d (i + 1) n; omega
theorem one_tie (x : List Int) (i : Nat) (h : 0 ≤ List.getD x i 0 ∧ List.getD x i 0 ≤ 9) : tieB [x] i = false ∧ mostOf (colOf [x] i) = List.getD x i 0 := by
  have e : colOf [x] i = [List.getD x i 0] := rfl
  unfold tieB
  rw [e]
  generalize List.getD x i 0 = y at h ⊢
  have hy : y = 0 ∨ y = 1 ∨ y = 2 ∨ y = 3 ∨ y = 4 ∨ y = 5 ∨ y = 6 ∨ y = 7 ∨ y = 8 ∨ y = 9 := by omega
  rcases hy with rfl | rfl | rfl | rfl | rfl | rfl | rfl | rfl | rfl | rfl <;> exact ⟨by decide, by decide⟩
theorem one_tieF (x : List Int) (hx : ∀ y ∈ x, 0 ≤ y ∧ y ≤ 9) : ∀ (d i : Nat) (n : Int), i + d = x.length → tieF [x] d i n = n
  | 0, i, n, h => rfl
  | d + 1, i, n, h => by
    have hm : List.getD x i 0 ∈ x := by simp [List.getD, List.getElem?_eq_getElem (show i < x.length by omega)]
    simp only [tieF, (one_tie x i (hx _ hm)).1, Bool.false_eq_true, if_false]
    exact one_tieF x hx d (i + 1) n (by omega)
theorem one_voted (x : List Int) (hx : ∀ y ∈ x, 0 ≤ y ∧ y ≤ 9) : votedF [x] x.length = x := by
  apply List.ext_getElem
  · exact votedF_len _ _
  · intro i h1 h2
    have hm : List.getD x i 0 ∈ x := by simp [List.getD, List.getElem?_eq_getElem h2]
    have := (one_tie x i (hx _ hm)).2
    simp only [votedF, List.getElem_map, List.getElem_range, this]
    simp [List.getD, List.getElem?_eq_getElem h2]
theorem rows_one {R : List (List Int)} (hR : rowsOK R = true) (h1 : (R.length : Int) = 1) : tieF R (List.getD R 0 []).length 0 0 = 0 ∧ (odds R (votedF R (List.getD R 0 []).length) R.length).length = 0 := by
  obtain ⟨_, _, _, k⟩ := rows_ok hR
  match R, h1, k with
  | [x], _, k =>
    have hx : ∀ y ∈ x, 0 ≤ y ∧ y ≤ 9 := (k x (List.mem_cons_self ..)).2
    have e : List.getD [x] 0 [] = x := rfl
    rw [e, one_tieF x hx _ 0 0 (by omega), one_voted x hx]
    refine ⟨rfl, ?_⟩
    simp [odds, oddB, List.range_succ, List.filter]
/-! ### The weighted one is among the votes -/
theorem wbest_in (c V : List Int) : ∀ (d i : Nat) (b : Int), i + d = 10 → (b ∈ V ∨ b < 0 ∧ ∃ j : Nat, i ≤ j ∧ j < 10 ∧ (j : Int) ∈ V) → wbest c V d i b ∈ V
  | 0, i, b, h, hb => by
    rcases hb with hb | ⟨_, j, h1, h2, _⟩
    · exact hb
    · omega
  | d + 1, i, b, h, hb => by
    simp only [wbest]
    apply wbest_in c V d (i + 1) _ (by omega)
    by_cases hi : (i : Int) ∈ V
    · rw [if_pos hi]
      left
      rcases hb with hb | ⟨hb, _⟩
      · split
        · exact hi
        · split
          · exact hi
          · exact hb
      · rw [if_pos hb]; exact hi
    · rw [if_neg hi]
      rcases hb with hb | ⟨hb, j, h1, h2, h3⟩
      · exact .inl hb
      · refine .inr ⟨hb, j, ?_, h2, h3⟩
        rcases Nat.lt_or_ge i j with h4 | h4
        · omega
        · obtain rfl : j = i := by omega
          exact (hi h3).elim
theorem weighted_in (l w : List Int) (h : (r_WeightedVote l w).2 = true) : (r_WeightedVote l w).1 ∈ l := by
  unfold r_WeightedVote at h ⊢
  split at h
  · rename_i hv
    rw [if_pos hv]
    have hv2 : 1 ≤ l.length := by unfold votesOK at hv; simp only [Bool.and_eq_true, decide_eq_true_eq] at hv; exact hv.1.1
    obtain ⟨h9, hd⟩ := votes_ok hv
    split at h
    · rename_i hl
      rw [if_pos hl]
      split at h
      · rename_i hw
        rw [if_pos hw]
        refine wbest_in _ _ 10 0 _ rfl (.inr ⟨by omega, ?_⟩)
        match l, hv2, hd with
        | x :: r, _, hd =>
          have hx := hd x (List.mem_cons_self ..)
          refine ⟨x.toNat, by omega, by omega, ?_⟩
          rw [show ((x.toNat : Nat) : Int) = x by omega]
          exact List.mem_cons_self ..
      · cases h
    · cases h
  · cases h
end Go.Proofs.Ytgjmhbjdhihgaaa.Vs

set_option linter.unusedVariables false
set_option linter.unusedSimpArgs false
namespace Go.Proofs.Ytgjmhbjdhihgaaa.Vs
open Go.RowKit
theorem e_one {code : List Int} {at' : Int} (seed n : Int) (h : Cur code at' 2) : ∃ b at2 s, Ev (fun k => f_spec_l1Cur_one k (code, at', seed) n) (b, at2, s) ∧ at' ≤ at2 ∧ at2 ≤ at' + 2 := by
  obtain ⟨v, at2, s, e1, b1, b2, _⟩ := e_pick seed n h
  refine ⟨decide (v = 0), at2, s, Ev.succ ?_, b1, b2⟩
  simp only [f_spec_l1Cur_one]
  exact Ev.bind e1 (Ev.some _)
theorem e_pick' {code : List Int} {at' : Int} (seed n : Int) (h : Cur code at' 2) (hn : 0 < n) : ∃ v at2 s, Ev (fun k => f_spec_l1Cur_pick k (code, at', seed) n) (v, at2, s) ∧ at' ≤ at2 ∧ at2 ≤ at' + 2 ∧ 0 ≤ v ∧ v < n := by
  obtain ⟨v, at2, s, e1, b1, b2, b3, b4, b5⟩ := e_pick seed n h
  refine ⟨v, at2, s, e1, b1, b2, b3, ?_⟩
  by_cases h1 : n ≤ 1
  · rw [b4 h1]; exact hn
  · exact b5 (by omega)
theorem e_votes_0 (code : List Int) (n : Nat) (hn : n ≤ 1000) : ∀ (d : Nat) (acc : List Int) (at' seed : Int), acc.length + d = n → Cur code at' (4 * d) → ∃ at2 s l, Ev (fun k => f_spec_l1Cur_votes_0 k at' seed code acc (n : Int)) (at2, s, code, l, (n : Int)) ∧ l.length = n ∧ at' ≤ at2 ∧ at2 ≤ at' + 4 * d
  | 0, acc, at', seed, h, hc => by
    have hlt : ¬ (acc.length : Int) < (n : Int) := by omega
    refine ⟨at', seed, acc, Ev.succ ?_, by omega, by omega, by omega⟩
    simp only [f_spec_l1Cur_votes_0, hlt, decide_false, Bool.false_eq_true, if_false]
    exact Ev.some _
  | d + 1, acc, at', seed, h, hc => by
    have hlt : (acc.length : Int) < (n : Int) := by omega
    obtain ⟨v, a1, s1, e1, b1, b2, _⟩ := e_pick' seed 10 (hc.to (at2 := at') (m := 2) (by omega) (by omega)) (by omega)
    obtain ⟨x, a2, s2, e2, b3, b4, _⟩ := e_among s1 [0, 1, 1, 2, 9, v] (by simp) (hc.to (at2 := a1) (m := 2) (by omega) (by omega))
    obtain ⟨a3, s3, l, e3, b5, b6, b7⟩ := e_votes_0 code n hn d (acc ++ [x]) a2 s2 (by simp; omega) (hc.to (at2 := a2) (by omega) (by omega))
    have hal : acc.length + 1 ≤ 140737488355328 / 8 := by omega
    refine ⟨a3, s3, l, Ev.succ ?_, b5, by omega, by omega⟩
    simp only [f_spec_l1Cur_votes_0, hlt, decide_true, if_true]
    refine Ev.bind e1 (Ev.bind e2 ?_)
    simp only [List.length_singleton, hal, if_true]
    exact e3
theorem e_votes {code : List Int} {at' : Int} (seed : Int) (h : Cur code at' 60) : ∃ l at2 s, Ev (fun k => f_spec_l1Cur_votes k (code, at', seed)) (l, at2, s) ∧ at' ≤ at2 ∧ at2 ≤ at' + 60 ∧ l.length ≤ 10 := by
  obtain ⟨v0, a0, s0, e0, b1, b2, b3, b4⟩ := e_pick' seed 6 (h.to (at2 := at') (m := 2) (by omega) (by omega)) (by omega)
  obtain ⟨q, a1, s1, e1, b5, b6⟩ := e_one s0 16 (h.to (at2 := a0) (m := 2) (by omega) (by omega))
  have hw : wrap64 (1 + v0) = 1 + v0 := w64 (by omega) (by omega)
  have hj : ∃ (a2 s2 : Int) (n : Nat), Ev (fun k => f_spec_l1Cur_votes_j9 k a1 s1 code [] (wrap64 (1 + v0)) q) (a2, s2, code, [], (n : Int)) ∧ a1 ≤ a2 ∧ a2 ≤ a1 + 2 ∧ n ≤ 10 := by
    simp only [f_spec_l1Cur_votes_j9, hw]
    cases q with
    | true =>
      obtain ⟨x, a2, s2, e2, b7, b8, b9⟩ := e_among s1 [0, 9, 10] (by simp) (h.to (at2 := a1) (m := 2) (by omega) (by omega))
      simp only [List.mem_cons, List.not_mem_nil, or_false] at b9
      refine ⟨a2, s2, x.toNat, ?_, b7, b8, by omega⟩
      simp only [if_true]
      rw [show ((x.toNat : Nat) : Int) = x by omega]
      exact Ev.bind e2 (Ev.some _)
    | false =>
      refine ⟨a1, s1, (1 + v0).toNat, ?_, by omega, by omega, by omega⟩
      simp only [Bool.false_eq_true, if_false]
      rw [show (((1 + v0).toNat : Nat) : Int) = 1 + v0 by omega]
      exact Ev.some _
  obtain ⟨a2, s2, n, e2, b7, b8, b9⟩ := hj
  obtain ⟨a3, s3, l, e3, c1, c2, c3⟩ := e_votes_0 code n (by omega) n [] a2 s2 (by simp) (h.to (at2 := a2) (by omega) (by omega))
  by_cases hn : (n : Int) > 0
  · obtain ⟨q2, a4, s4, e4, c4, c5⟩ := e_one s3 20 (h.to (at2 := a3) (m := 2) (by omega) (by omega))
    cases q2 with
    | false =>
      refine ⟨l, a4, s4, Ev.succ ?_, by omega, by omega, by omega⟩
      simp only [f_spec_l1Cur_votes]
      refine Ev.bind e0 (Ev.bind e1 (Ev.bind e2 (Ev.bind e3 ?_)))
      simp only [hn, decide_true, if_true]
      refine Ev.bind e4 ?_
      simp only [Bool.false_eq_true, if_false]
      exact Ev.some _
    | true =>
      obtain ⟨v, a5, s5, e5, c6, c7, c8, c9⟩ := e_pick' s4 (n : Int) (h.to (at2 := a4) (m := 2) (by omega) (by omega)) hn
      obtain ⟨x, a6, s6, e6, d1, d2, _⟩ := e_among s5 [-1, 10] (by simp) (h.to (at2 := a5) (m := 2) (by omega) (by omega))
      have hvl : v < (l.length : Int) := by omega
      refine ⟨List.set l v.toNat x, a6, s6, Ev.succ ?_, by omega, by omega, by rw [List.length_set]; omega⟩
      simp only [f_spec_l1Cur_votes]
      refine Ev.bind e0 (Ev.bind e1 (Ev.bind e2 (Ev.bind e3 ?_)))
      simp only [hn, decide_true, if_true]
      refine Ev.bind e4 ?_
      simp only [if_true]
      refine Ev.bind e5 (Ev.bind e6 ?_)
      simp only [c8, hvl, if_true]
      exact Ev.some _
  · refine ⟨l, a3, s3, Ev.succ ?_, by omega, by omega, by omega⟩
    simp only [f_spec_l1Cur_votes]
    refine Ev.bind e0 (Ev.bind e1 (Ev.bind e2 (Ev.bind e3 ?_)))
    simp only [hn, decide_false, Bool.false_eq_true, if_false]
    exact Ev.some _
theorem e_DrawMostVoted (code : List Int) (h : Cur code 0 60) : ∃ l, Ev (fun k => f_spec_DrawMostVoted k code) l ∧ l.length ≤ 10 := by
  obtain ⟨l, a, s, e, _, _, hl⟩ := e_votes 0 h
  refine ⟨l, Ev.succ ?_, hl⟩
  simp only [f_spec_DrawMostVoted]
  exact Ev.bind e (Ev.some _)
theorem e_DrawFlipsToWin (code : List Int) (h : Cur code 0 70) : ∃ l x, Ev (fun k => f_spec_DrawFlipsToWin k code) (l, x) ∧ l.length ≤ 10 := by
  obtain ⟨l, a, s, e, b1, b2, hl⟩ := e_votes 0 (h.to (at2 := 0) (m := 60) (by omega) (by omega))
  obtain ⟨v, a1, s1, e1, b3, b4, _⟩ := e_among s [10, -1] (by simp) (h.to (at2 := a) (m := 2) (by omega) (by omega))
  obtain ⟨x, a2, s2, e2, _⟩ := e_among s1 [0, 1, 2, 9, v] (by simp) (h.to (at2 := a1) (m := 2) (by omega) (by omega))
  refine ⟨l, x, Ev.succ ?_, hl⟩
  simp only [f_spec_DrawFlipsToWin]
  exact Ev.bind e (Ev.bind e1 (Ev.bind e2 (Ev.some _)))
theorem e_DrawWeightedVote_0 (code l : List Int) (hl : l.length ≤ 1000) : ∀ (d i : Nat) (acc : List Int) (at' seed : Int), i + d = l.length → acc.length = i → Cur code at' (4 * d) → ∃ at2 s w, Ev (fun k => f_spec_DrawWeightedVote_0 k code at' seed l acc (l.length : Int) (i : Int)) (code, at2, s, l, w) ∧ w.length = l.length ∧ at' ≤ at2 ∧ at2 ≤ at' + 4 * d
  | 0, i, acc, at', seed, h, ha, hc => by
    have hlt : ¬ (i : Int) < (l.length : Int) := by omega
    refine ⟨at', seed, acc, Ev.succ ?_, by omega, by omega, by omega⟩
    simp only [f_spec_DrawWeightedVote_0, hlt, decide_false, Bool.false_eq_true, if_false]
    exact Ev.some _
  | d + 1, i, acc, at', seed, h, ha, hc => by
    have hlt : (i : Int) < (l.length : Int) := by omega
    have h5 : wrap64 ((i : Int) + 1) = ((i + 1 : Nat) : Int) := by rw [w64 (by omega) (by omega)]; omega
    obtain ⟨v, a1, s1, e1, b1, b2, _⟩ := e_pick' seed 30 (hc.to (at2 := at') (m := 2) (by omega) (by omega)) (by omega)
    obtain ⟨x, a2, s2, e2, b3, b4, _⟩ := e_among s1 [0, 1, 1, 5, 100, v] (by simp) (hc.to (at2 := a1) (m := 2) (by omega) (by omega))
    obtain ⟨a3, s3, w, e3, b5, b6, b7⟩ := e_DrawWeightedVote_0 code l hl d (i + 1) (acc ++ [x]) a2 s2 (by omega) (by simp; omega) (hc.to (at2 := a2) (by omega) (by omega))
    have hal : acc.length + 1 ≤ 140737488355328 / 8 := by omega
    refine ⟨a3, s3, w, Ev.succ ?_, b5, by omega, by omega⟩
    simp only [f_spec_DrawWeightedVote_0, hlt, decide_true, if_true]
    refine Ev.bind e1 (Ev.bind e2 ?_)
    simp only [List.length_singleton, hal, if_true, h5]
    exact e3
theorem e_DrawWeightedVote (code : List Int) (h : Cur code 0 200) : ∃ l w, Ev (fun k => f_spec_DrawWeightedVote k code) (l, w) ∧ l.length ≤ 10 ∧ w.length ≤ 10 := by
  obtain ⟨l, a, s, e, b1, b2, hl⟩ := e_votes 0 (h.to (at2 := 0) (m := 60) (by omega) (by omega))
  obtain ⟨a1, s1, w, e1, b3, b4, b5⟩ := e_DrawWeightedVote_0 code l (by omega) l.length 0 [] a s (by omega) rfl (h.to (at2 := a) (by omega) (by omega))
  by_cases hw : (w.length : Int) > 0
  · obtain ⟨v, a2, s2, e2, b6, b7, _⟩ := e_pick' s1 24 (h.to (at2 := a1) (m := 2) (by omega) (by omega)) (by omega)
    by_cases hv0 : v = 0
    · obtain ⟨x, a3, s3, e3, _⟩ := e_among s2 [-1, 101] (by simp) (h.to (at2 := a2) (m := 2) (by omega) (by omega))
      have hw2 : 0 < (w.length : Int) := hw
      refine ⟨l, List.set w 0 x, Ev.succ ?_, hl, by rw [List.length_set]; omega⟩
      simp only [f_spec_DrawWeightedVote]
      refine Ev.bind e (Ev.bind e1 ?_)
      simp only [hw, decide_true, if_true]
      refine Ev.bind e2 ?_
      simp only [hv0, decide_true, if_true]
      refine Ev.bind e3 ?_
      simp only [hw2, if_true]
      exact Ev.some _
    · by_cases hv1 : v = 1
      · have hw2 : 1 ≤ (w.length : Int) := hw
        refine ⟨l, List.drop (Int.toNat 1) w, Ev.succ ?_, hl, by rw [List.length_drop]; omega⟩
        simp only [f_spec_DrawWeightedVote]
        refine Ev.bind e (Ev.bind e1 ?_)
        simp only [hw, decide_true, if_true]
        refine Ev.bind e2 ?_
        subst hv1
        simp only [hv0, decide_true, decide_false, Bool.false_eq_true, if_false, if_true, hw2, Int.le_refl]
        exact Ev.some _
      · refine ⟨l, w, Ev.succ ?_, hl, by omega⟩
        simp only [f_spec_DrawWeightedVote]
        refine Ev.bind e (Ev.bind e1 ?_)
        simp only [hw, decide_true, if_true]
        refine Ev.bind e2 ?_
        simp only [hv0, hv1, decide_false, Bool.false_eq_true, if_false]
        exact Ev.some _
  · refine ⟨l, w, Ev.succ ?_, hl, by omega⟩
    simp only [f_spec_DrawWeightedVote]
    refine Ev.bind e (Ev.bind e1 ?_)
    simp only [hw, decide_false, Bool.false_eq_true, if_false]
    exact Ev.some _
theorem e_voteRows_0 (code : List Int) (n : Nat) (hn : n ≤ 1000) : ∀ (d : Nat) (acc : List Int) (at' seed : Int), acc.length + d = n → Cur code at' (2 * d) → ∃ at2 s l, Ev (fun k => f_spec_l1Cur_voteRows_0 k at' seed code acc (n : Int)) (at2, s, code, l, (n : Int)) ∧ l.length = n ∧ at' ≤ at2 ∧ at2 ≤ at' + 2 * d
  | 0, acc, at', seed, h, hc => by
    have hlt : ¬ (acc.length : Int) < (n : Int) := by omega
    refine ⟨at', seed, acc, Ev.succ ?_, by omega, by omega, by omega⟩
    simp only [f_spec_l1Cur_voteRows_0, hlt, decide_false, Bool.false_eq_true, if_false]
    exact Ev.some _
  | d + 1, acc, at', seed, h, hc => by
    have hlt : (acc.length : Int) < (n : Int) := by omega
    obtain ⟨v, a1, s1, e1, b1, b2, _⟩ := e_pick' seed 10 (hc.to (at2 := at') (m := 2) (by omega) (by omega)) (by omega)
    obtain ⟨a3, s3, l, e3, b5, b6, b7⟩ := e_voteRows_0 code n hn d (acc ++ [v]) a1 s1 (by simp; omega) (hc.to (at2 := a1) (by omega) (by omega))
    have hal : acc.length + 1 ≤ 140737488355328 / 8 := by omega
    refine ⟨a3, s3, l, Ev.succ ?_, b5, by omega, by omega⟩
    simp only [f_spec_l1Cur_voteRows_0, hlt, decide_true, if_true]
    refine Ev.bind e1 ?_
    simp only [List.length_singleton, hal, if_true]
    exact e3
theorem e_voteRows_2 (code first : List Int) (n m : Nat) (hn : first.length = n) (hn1 : n ≤ 1000) (hm : m ≤ 1000) : ∀ (d : Nat) (acc : List (List Int)) (at' seed : Int), acc.length + d = m → (∀ x ∈ acc, x.length = n) → Cur code at' (6 * d) → ∃ at2 s R, Ev (fun k => f_spec_l1Cur_voteRows_2 k at' seed code first acc (n : Int) (m : Int)) (at2, s, code, R, (n : Int), (m : Int)) ∧ R.length = m ∧ (∀ x ∈ R, x.length = n) ∧ at' ≤ at2 ∧ at2 ≤ at' + 6 * d
  | 0, acc, at', seed, h, hx, hc => by
    have hlt : ¬ (acc.length : Int) < (m : Int) := by omega
    refine ⟨at', seed, acc, Ev.succ ?_, by omega, hx, by omega, by omega⟩
    simp only [f_spec_l1Cur_voteRows_2, hlt, decide_false, Bool.false_eq_true, if_false]
    exact Ev.some _
  | d + 1, acc, at', seed, h, hx, hc => by
    have hlt : (acc.length : Int) < (m : Int) := by omega
    have hal : acc.length + 1 ≤ 140737488355328 / 24 := by omega
    have hall : 0 + first.length ≤ 140737488355328 / 8 := by omega
    have hown : Ev (fun k => f_spec_l1Own k first) first := by
      refine Ev.succ ?_
      simp only [f_spec_l1Own, hall, if_true]
      exact Ev.some _
    have add : ∀ z : List Int, z.length = n → ∀ x ∈ acc ++ [z], x.length = n := by
      intro z hz x hxm
      rcases List.mem_append.1 hxm with h1 | h1
      · exact hx x h1
      · rw [List.mem_singleton.1 h1]; exact hz
    by_cases hn0 : (n : Int) > 0
    · obtain ⟨q, a1, s1, e1, b1, b2⟩ := e_one seed 3 (hc.to (at2 := at') (m := 2) (by omega) (by omega))
      cases q with
      | true =>
        obtain ⟨v, a2, s2, e2, b3, b4, b5, b6⟩ := e_pick' s1 (n : Int) (hc.to (at2 := a1) (m := 2) (by omega) (by omega)) hn0
        obtain ⟨x, a3, s3, e3, b7, b8, _⟩ := e_pick' s2 10 (hc.to (at2 := a2) (m := 2) (by omega) (by omega)) (by omega)
        have hvl : v < (first.length : Int) := by omega
        obtain ⟨a4, s4, R, e4, c1, c2, c3, c4⟩ := e_voteRows_2 code first n m hn hn1 hm d (acc ++ [List.set first v.toNat x]) a3 s3 (by simp; omega) (add _ (by rw [List.length_set]; exact hn)) (hc.to (at2 := a3) (by omega) (by omega))
        refine ⟨a4, s4, R, Ev.succ ?_, c1, c2, by omega, by omega⟩
        simp only [f_spec_l1Cur_voteRows_2, hlt, decide_true, if_true]
        refine Ev.bind hown ?_
        simp only [hn0, decide_true, if_true]
        refine Ev.bind e1 ?_
        simp only [if_true]
        refine Ev.bind e2 (Ev.bind e3 ?_)
        simp only [b5, hvl, List.length_singleton, hal, if_true]
        exact e4
      | false =>
        obtain ⟨a4, s4, R, e4, c1, c2, c3, c4⟩ := e_voteRows_2 code first n m hn hn1 hm d (acc ++ [first]) a1 s1 (by simp; omega) (add _ hn) (hc.to (at2 := a1) (by omega) (by omega))
        refine ⟨a4, s4, R, Ev.succ ?_, c1, c2, by omega, by omega⟩
        simp only [f_spec_l1Cur_voteRows_2, hlt, decide_true, if_true]
        refine Ev.bind hown ?_
        simp only [hn0, decide_true, if_true]
        refine Ev.bind e1 ?_
        simp only [Bool.false_eq_true, if_false, List.length_singleton, hal, if_true]
        exact e4
    · obtain ⟨a4, s4, R, e4, c1, c2, c3, c4⟩ := e_voteRows_2 code first n m hn hn1 hm d (acc ++ [first]) at' seed (by simp; omega) (add _ hn) (hc.to (at2 := at') (by omega) (by omega))
      refine ⟨a4, s4, R, Ev.succ ?_, c1, c2, by omega, by omega⟩
      simp only [f_spec_l1Cur_voteRows_2, hlt, decide_true, if_true]
      refine Ev.bind hown ?_
      simp only [hn0, decide_false, Bool.false_eq_true, if_false, List.length_singleton, hal, if_true]
      exact e4
end Go.Proofs.Ytgjmhbjdhihgaaa.Vs

set_option linter.unusedVariables false
set_option linter.unusedSimpArgs false
namespace Go.Proofs.Ytgjmhbjdhihgaaa.Vs
open Go.RowKit
theorem e_DrawVotedRows (code : List Int) (h : Cur code 0 200) : ∃ R, Ev (fun k => f_spec_DrawVotedRows k code) R ∧ R.length ≤ 10 ∧ ∀ x ∈ R, x.length ≤ 41 := by
  obtain ⟨v0, a0, s0, e0, b1, b2, b3, b4⟩ := e_pick' 0 6 (h.to (at2 := 0) (m := 2) (by omega) (by omega)) (by omega)
  obtain ⟨q, a1, s1, e1, b5, b6⟩ := e_one s0 20 (h.to (at2 := a0) (m := 2) (by omega) (by omega))
  have hj : ∃ (a2 s2 : Int) (n : Nat), Ev (fun k => f_spec_l1Cur_voteRows_j11 k a1 s1 code [] v0 q) (a2, s2, code, [], (n : Int)) ∧ a1 ≤ a2 ∧ a2 ≤ a1 + 2 ∧ n ≤ 41 := by
    simp only [f_spec_l1Cur_voteRows_j11]
    cases q with
    | true =>
      obtain ⟨x, a2, s2, e2, b7, b8, b9, b10⟩ := e_pick' s1 2 (h.to (at2 := a1) (m := 2) (by omega) (by omega)) (by omega)
      refine ⟨a2, s2, (40 + x).toNat, ?_, b7, b8, by omega⟩
      simp only [if_true]
      refine Ev.bind e2 ?_
      rw [show (((40 + x).toNat : Nat) : Int) = wrap64 (40 + x) by rw [w64 (by omega) (by omega)]; omega]
      exact Ev.some _
    | false =>
      refine ⟨a1, s1, v0.toNat, ?_, by omega, by omega, by omega⟩
      simp only [Bool.false_eq_true, if_false]
      rw [show ((v0.toNat : Nat) : Int) = v0 by omega]
      exact Ev.some _
  obtain ⟨a2, s2, n, e2, b7, b8, b9⟩ := hj
  obtain ⟨a3, s3, first, e3, c1, c2, c3⟩ := e_voteRows_0 code n (by omega) n [] a2 s2 (by simp) (h.to (at2 := a2) (by omega) (by omega))
  obtain ⟨m0, a4, s4, e4, c4, c5, c6, c7⟩ := e_pick' s3 5 (h.to (at2 := a3) (m := 2) (by omega) (by omega)) (by omega)
  obtain ⟨q2, a5, s5, e5, c8, c9⟩ := e_one s4 16 (h.to (at2 := a4) (m := 2) (by omega) (by omega))
  have hw : wrap64 (1 + m0) = 1 + m0 := w64 (by omega) (by omega)
  have hj2 : ∃ (a6 s6 : Int) (m : Nat), Ev (fun k => f_spec_l1Cur_voteRows_j28 k a5 s5 code first [] (n : Int) (wrap64 (1 + m0)) q2) (a6, s6, code, first, [], (n : Int), (m : Int)) ∧ a5 ≤ a6 ∧ a6 ≤ a5 + 2 ∧ m ≤ 10 := by
    simp only [f_spec_l1Cur_voteRows_j28, hw]
    cases q2 with
    | true =>
      obtain ⟨x, a6, s6, e6, d1, d2, d3⟩ := e_among s5 [0, 9, 10] (by simp) (h.to (at2 := a5) (m := 2) (by omega) (by omega))
      simp only [List.mem_cons, List.not_mem_nil, or_false] at d3
      refine ⟨a6, s6, x.toNat, ?_, d1, d2, by omega⟩
      simp only [if_true]
      rw [show ((x.toNat : Nat) : Int) = x by omega]
      exact Ev.bind e6 (Ev.some _)
    | false =>
      refine ⟨a5, s5, (1 + m0).toNat, ?_, by omega, by omega, by omega⟩
      simp only [Bool.false_eq_true, if_false]
      rw [show (((1 + m0).toNat : Nat) : Int) = 1 + m0 by omega]
      exact Ev.some _
  obtain ⟨a6, s6, m, e6, d1, d2, d3⟩ := hj2
  obtain ⟨a7, s7, R, e7, d4, d5, d6, d7⟩ := e_voteRows_2 code first n m c1 (by omega) (by omega) m [] a6 s6 (by simp) (by simp) (h.to (at2 := a6) (by omega) (by omega))
  have hx : ∀ x ∈ R, x.length ≤ 41 := fun x hx => by have := d5 x hx; omega
  have done : ∀ (k0 : List (List Int)) (aa ss : Int), Ev (fun k => f_spec_l1Cur_voteRows k (code, 0, 0)) (k0, aa, ss) → Ev (fun k => f_spec_DrawVotedRows k code) k0 := by
    intro k0 aa ss he
    refine Ev.succ ?_
    simp only [f_spec_DrawVotedRows]
    exact Ev.bind he (Ev.some _)
  by_cases hm : (m : Int) > 0
  · by_cases hn : (n : Int) > 0
    · obtain ⟨v, a8, s8, e8, d8, d9, _⟩ := e_pick' s7 24 (h.to (at2 := a7) (m := 2) (by omega) (by omega)) (by omega)
      by_cases hv0 : v = 0
      · obtain ⟨x, a9, s9, e9, _⟩ := e_among s8 [-1, 10] (by simp) (h.to (at2 := a8) (m := 2) (by omega) (by omega))
        have hR0 : 0 < (R.length : Int) := by omega
        have hm0 : List.getD R (Int.toNat 0) [] ∈ R := by
          have : 0 < R.length := by omega
          simp [List.getD, List.getElem?_eq_getElem this]
        have hl0 : 0 < ((List.getD R (Int.toNat 0) []).length : Int) := by rw [d5 _ hm0]; exact hn
        refine ⟨List.set R (Int.toNat 0) (List.set (List.getD R (Int.toNat 0) []) (Int.toNat 0) x), done _ a9 s9 (Ev.succ ?_), by rw [List.length_set]; omega, ?_⟩
        · simp only [f_spec_l1Cur_voteRows]
          refine Ev.bind e0 (Ev.bind e1 (Ev.bind e2 (Ev.bind e3 (Ev.bind e4 (Ev.bind e5 (Ev.bind e6 (Ev.bind e7 ?_)))))))
          simp only [hm, hn, decide_true, if_true]
          refine Ev.bind e8 ?_
          simp only [hv0, decide_true, if_true]
          have hg : Ev (fun k => f_spec_l1Cur_voteRows_g19 k a8 s8 code R) (a9, s9, code, List.set R (Int.toNat 0) (List.set (List.getD R (Int.toNat 0) []) (Int.toNat 0) x)) := by
            simp only [f_spec_l1Cur_voteRows_g19, hR0, if_true]
            refine Ev.bind e9 ?_
            simp only [hl0, if_true]
            exact Ev.some _
          exact Ev.bind hg (Ev.some _)
        · intro y hy
          rcases List.mem_or_eq_of_mem_set hy with h1 | h1
          · exact hx y h1
          · rw [h1, List.length_set]; exact hx _ hm0
      · by_cases hv1 : v = 1
        · have hw1 : wrap64 ((m : Int) - 1) = ((m - 1 : Nat) : Int) := by rw [w64 (by omega) (by omega)]; omega
          have g1 : ((m - 1 : Nat) : Int) < (R.length : Int) := by omega
          have hm1 : List.getD R (m - 1) [] ∈ R := by
            have : m - 1 < R.length := by omega
            simp [List.getD, List.getElem?_eq_getElem this]
          have hl1 : 1 ≤ ((List.getD R (m - 1) []).length : Int) := by rw [d5 _ hm1]; omega
          refine ⟨List.set R (m - 1) (List.drop (Int.toNat 1) (List.getD R (m - 1) [])), done _ a8 s8 (Ev.succ ?_), by rw [List.length_set]; omega, ?_⟩
          · simp only [f_spec_l1Cur_voteRows]
            refine Ev.bind e0 (Ev.bind e1 (Ev.bind e2 (Ev.bind e3 (Ev.bind e4 (Ev.bind e5 (Ev.bind e6 (Ev.bind e7 ?_)))))))
            simp only [hm, hn, decide_true, if_true]
            refine Ev.bind e8 ?_
            subst hv1
            simp only [hv0, decide_true, decide_false, Bool.false_eq_true, if_false, if_true, hw1, Int.natCast_nonneg, Int.toNat_natCast, g1, hl1, Int.le_refl]
            exact Ev.some _
          · intro y hy
            rcases List.mem_or_eq_of_mem_set hy with h1 | h1
            · exact hx y h1
            · rw [h1, List.length_drop]; have := hx _ hm1; omega
        · refine ⟨R, done _ a8 s8 (Ev.succ ?_), by omega, hx⟩
          simp only [f_spec_l1Cur_voteRows]
          refine Ev.bind e0 (Ev.bind e1 (Ev.bind e2 (Ev.bind e3 (Ev.bind e4 (Ev.bind e5 (Ev.bind e6 (Ev.bind e7 ?_)))))))
          simp only [hm, hn, decide_true, if_true]
          refine Ev.bind e8 ?_
          simp only [hv0, hv1, decide_false, Bool.false_eq_true, if_false]
          exact Ev.some _
    · refine ⟨R, done _ a7 s7 (Ev.succ ?_), by omega, hx⟩
      simp only [f_spec_l1Cur_voteRows]
      refine Ev.bind e0 (Ev.bind e1 (Ev.bind e2 (Ev.bind e3 (Ev.bind e4 (Ev.bind e5 (Ev.bind e6 (Ev.bind e7 ?_)))))))
      simp only [hm, hn, decide_true, decide_false, Bool.false_eq_true, if_false, if_true]
      exact Ev.some _
  · refine ⟨R, done _ a7 s7 (Ev.succ ?_), by omega, hx⟩
    simp only [f_spec_l1Cur_voteRows]
    refine Ev.bind e0 (Ev.bind e1 (Ev.bind e2 (Ev.bind e3 (Ev.bind e4 (Ev.bind e5 (Ev.bind e6 (Ev.bind e7 ?_)))))))
    simp only [hm, decide_false, Bool.false_eq_true, if_false]
    exact Ev.some _
/-! ### Flips of the impl -/
theorem e_impl_FlipsToWin_0 (l : List Int) (x : Int) : ∀ (r pre : List Int) (n : Int), 0 ≤ n → n ≤ (pre.length : Int) → (pre ++ r).length ≤ 1000 → Ev (fun k => f_impl_FlipsToWin_0 k l x n (pre ++ r) ((pre ++ r).length : Int) (pre.length : Int)) (l, n + occ r x)
  | [], pre, n, h0, h1, hl => by
    refine Ev.succ ?_
    simp only [f_impl_FlipsToWin_0, nlt_end, decide_false, Bool.false_eq_true, if_false, occ, Int.add_zero]
    exact Ev.some _
  | y :: r, pre, n, h0, h1, hl => by
    have hlen : pre.length + 1 ≤ 1000 := by simp at hl; omega
    have w1 : wrap64 (n + 1) = n + 1 := w64 (by omega) (by omega)
    refine Ev.succ ?_
    simp only [f_impl_FlipsToWin_0, lt_mid, ge_mid, decide_true, if_true, Int.toNat_natCast, getD_mid, w1, occ]
    rw [next_mid pre y r (by omega)]
    refine Ev.ite (fun hh => ?_) (fun hh => ?_)
    · have hh : y = x := of_decide_eq_true hh
      have ih := e_impl_FlipsToWin_0 l x r (pre ++ [y]) (n + 1) (by omega) (by simp; omega) (by simpa using hl)
      rw [← shift_mid] at ih
      rw [if_pos hh, ← Int.add_assoc]
      exact ih
    · have hh : ¬ y = x := fun h => hh (decide_eq_true h)
      have ih := e_impl_FlipsToWin_0 l x r (pre ++ [y]) n (by omega) (by simp; omega) (by simpa using hl)
      rw [← shift_mid] at ih
      rw [if_neg hh, Int.zero_add]
      exact ih
theorem e_impl_FlipsToWin (l : List Int) (x : Int) (h0 : l.length ≤ 9223372036854775806) : Ev (fun k => f_impl_FlipsToWin k l x) (r_FlipsToWin l x) := by
  refine Ev.succ ?_
  simp only [f_impl_FlipsToWin]
  unfold r_FlipsToWin
  refine Ev.bind (a := votesOK l) (e_impl_areVotes l h0) ?_
  cases g0 : votesOK l with
  | false => simp only [Bool.not_false, if_true, Bool.false_eq_true, if_false]; exact Ev.some _
  | true =>
    obtain ⟨h9, hd⟩ := votes_ok g0
    simp only [Bool.not_true, Bool.false_eq_true, if_false, if_true]
    by_cases h1 : x < 0
    · have : ¬ (0 ≤ x ∧ x ≤ 9) := by omega
      simp only [h1, this, decide_true, if_true, if_false]; exact Ev.some _
    · by_cases h2 : x > 9
      · have : ¬ (0 ≤ x ∧ x ≤ 9) := by omega
        simp only [h1, h2, this, decide_true, decide_false, Bool.false_eq_true, if_true, if_false]; exact Ev.some _
      · have hx : 0 ≤ x ∧ x ≤ 9 := by omega
        simp only [h1, h2, hx, and_self, decide_false, Bool.false_eq_true, if_true, if_false]
        refine Ev.bind (e_impl_FlipsToWin_0 l x l [] 0 (by omega) (by simp) (by simp; omega)) ?_
        have hoc := occ_in l x
        have e1 : Int.tdiv (l.length : Int) 2 = (l.length : Int) / 2 := Int.tdiv_eq_ediv_of_nonneg (by omega)
        have e2 : wrap64 (wrap64 (wrap64 (Int.tdiv (l.length : Int) 2) + 1) - (0 + occ l x)) = (l.length : Int) / 2 + 1 - occ l x := by
          rw [e1, Int.zero_add, w64 (n := (l.length : Int) / 2) (by omega) (by omega), w64 (n := (l.length : Int) / 2 + 1) (by omega) (by omega), w64 (by omega) (by omega)]
        simp only [e2, maxS_eq]
        refine Ev.of ?_
        unfold flipsOf
        have hm : (if (l.length : Int) / 2 + 1 - occ l x > 0 then (l.length : Int) / 2 + 1 - occ l x else 0) = if 0 > (l.length : Int) / 2 + 1 - occ l x then 0 else (l.length : Int) / 2 + 1 - occ l x := by split <;> split <;> omega
        rw [hm]
/-! ### The law -/
theorem e_FnVotes_2 (v1 : List Int) (v9 v10 x v17 : Int) (v18 : Bool) : ∀ (r pre : List Int) (n : Int), 0 ≤ n → n ≤ (pre.length : Int) → (pre ++ r).length ≤ 1000 → Ev (fun k => f_laws_FnVotes_2 k (pre ++ r) v1 v9 v10 x v17 v18 n ((pre ++ r).length : Int) (pre.length : Int)) (pre ++ r, v1, v9, v10, x, v17, v18, n + occ r x)
  | [], pre, n, h0, h1, hl => by
    refine Ev.succ ?_
    simp only [f_laws_FnVotes_2, nlt_end, decide_false, Bool.false_eq_true, if_false, occ, Int.add_zero]
    exact Ev.some _
  | y :: r, pre, n, h0, h1, hl => by
    have hlen : pre.length + 1 ≤ 1000 := by simp at hl; omega
    have w1 : wrap64 (n + 1) = n + 1 := w64 (by omega) (by omega)
    refine Ev.succ ?_
    simp only [f_laws_FnVotes_2, lt_mid, ge_mid, decide_true, if_true, Int.toNat_natCast, getD_mid, w1, occ]
    rw [next_mid pre y r (by omega)]
    refine Ev.ite (fun hh => ?_) (fun hh => ?_)
    · have hh : y = x := of_decide_eq_true hh
      have ih := e_FnVotes_2 v1 v9 v10 x v17 v18 r (pre ++ [y]) (n + 1) (by omega) (by simp; omega) (by simpa using hl)
      rw [← shift_mid] at ih
      rw [if_pos hh, ← Int.add_assoc]
      exact ih
    · have hh : ¬ y = x := fun h => hh (decide_eq_true h)
      have ih := e_FnVotes_2 v1 v9 v10 x v17 v18 r (pre ++ [y]) n (by omega) (by simp; omega) (by simpa using hl)
      rw [← shift_mid] at ih
      rw [if_neg hh, Int.zero_add]
      exact ih
theorem e_FnVotes_0 (l p1 : List Int) (hv : votesOK l = true) : ∀ (d : Nat) (x : Int), x + d = 10 → 0 ≤ x → Ev (fun k => f_laws_FnVotes_0 k l p1 (mostOf l) (manyOf l) x) (LR.go p1)
  | 0, x, hx, h0 => by
    have hn : ¬ x ≤ 9 := by omega
    refine Ev.succ ?_
    simp only [f_laws_FnVotes_0, hn, decide_false, Bool.false_eq_true, if_false]
    exact Ev.some _
  | d + 1, x, hx, h0 => by
    have hle : x ≤ 9 := by omega
    obtain ⟨h9, hd⟩ := votes_ok hv
    have ih := e_FnVotes_0 l p1 hv d (x + 1) (by omega) (by omega)
    obtain ⟨n, hr, n0, n1, r1, r2⟩ := flips_right l x hv h0 hle
    have hi := e_impl_FlipsToWin l x (by omega)
    rw [hr] at hi
    have h2 := e_FnVotes_2 p1 (mostOf l) (manyOf l) x n true l [] 0 (by omega) (by simp) (by simp; omega)
    rw [Int.zero_add] at h2
    obtain ⟨m1, m2⟩ := most_least hd x h0 hle
    have hoc := occ_in l x
    generalize occ l x = o at h2 r1 r2 m1 m2 hoc
    have wx : wrap64 (x + 1) = x + 1 := w64 (by omega) (by omega)
    have q1 : ¬ n < 0 := by omega
    have wa : wrap64 (o + n) = o + n := w64 (by omega) (by omega)
    have wb : wrap64 (2 * (o + n)) = 2 * (o + n) := w64 (by omega) (by omega)
    have q4 : ¬ o > manyOf l := by omega
    refine Ev.succ ?_
    simp only [f_laws_FnVotes_0, hle, decide_true, if_true]
    refine Ev.bind hi (Ev.bind h2 ?_)
    by_cases hn : n > 0
    · have wc : wrap64 (o + n - 1) = o + n - 1 := w64 (by omega) (by omega)
      have wd : wrap64 (2 * (o + n - 1)) = 2 * (o + n - 1) := w64 (by omega) (by omega)
      have q3 := r2 hn
      by_cases he : o = manyOf l
      · have q5 : ¬ x < mostOf l := by have := m2 he; omega
        subst he
        simp only [eq_self, Bool.not_true, Bool.false_eq_true, if_false, List.nil_append, q1, wa, wb, r1, hn, wc, wd, q3, q4, q5, wx, decide_true, decide_false, if_true]
        exact ih
      · simp only [Bool.not_true, Bool.false_eq_true, if_false, List.nil_append, q1, wa, wb, r1, hn, wc, wd, q3, q4, he, wx, decide_true, decide_false, if_true]
        exact ih
    · by_cases he : o = manyOf l
      · have q5 : ¬ x < mostOf l := by have := m2 he; omega
        subst he
        simp only [eq_self, Bool.not_true, Bool.false_eq_true, if_false, List.nil_append, q1, wa, wb, r1, hn, q4, q5, wx, decide_true, decide_false, if_true]
        exact ih
      · simp only [Bool.not_true, Bool.false_eq_true, if_false, List.nil_append, q1, wa, wb, r1, hn, q4, he, wx, decide_true, decide_false, if_true]
        exact ih
theorem e_FnVotes_4 (R : List (List Int)) (v p1 : List Int) (t : Int) (hl : R.length ≤ 1000) (hx : ∀ x ∈ R, x.length ≤ 1000) : ∀ (d i : Nat), i + d = R.length → Ev (fun k => f_laws_FnVotes_4 k R v (odds R v R.length) p1 t (R.length : Int) (i : Int)) (LR.go (R, v, odds R v R.length, p1, t))
  | 0, i, h => by
    have hn : ¬ (i : Int) < (R.length : Int) := by omega
    refine Ev.succ ?_
    simp only [f_laws_FnVotes_4, hn, decide_false, Bool.false_eq_true, if_false]
    exact Ev.some _
  | d + 1, i, h => by
    have hlt : (i : Int) < (R.length : Int) := by omega
    have h5 : wrap64 ((i : Int) + 1) = ((i + 1 : Nat) : Int) := by rw [w64 (by omega) (by omega)]; omega
    have ih := e_FnVotes_4 R v p1 t hl hx d (i + 1) (by omega)
    have hol := odds_len R v R.length
    have hm := odds_mem R v R.length i (by omega)
    have hmem : List.getD R i [] ∈ R := by simp [List.getD, List.getElem?_eq_getElem (show i < R.length by omega)]
    have hxl := hx _ hmem
    refine Ev.succ ?_
    simp only [f_laws_FnVotes_4, hlt, decide_true, if_true, Int.natCast_nonneg, Int.toNat_natCast, h5]
    refine Ev.bind (e_laws_pIn _ _ (by omega)) (Ev.bind (e_laws_sameInts _ _ (by omega)) ?_)
    have hne : (decide ((i : Int) ∈ odds R v R.length) == decide (List.getD R i [] = v)) = false := by
      by_cases hq : List.getD R i [] = v
      · have : ¬ (i : Int) ∈ odds R v R.length := fun h9 => hm.1 h9 hq
        rw [decide_eq_false this, decide_eq_true hq]; rfl
      · rw [decide_eq_true (hm.2 hq), decide_eq_false hq]; rfl
    simp only [hne, Bool.false_eq_true, if_false]
    exact ih
theorem e_FnVotes_u (p1 : List Int) (cur : Cur p1 0 300) : Ev (fun k => f_laws_FnVotes_u k p1) true := by
  obtain ⟨l, w, e1, g1, g2⟩ := e_DrawWeightedVote p1 (cur.to (at2 := 0) (by omega) (by omega))
  obtain ⟨c, x, e2, g3⟩ := e_DrawFlipsToWin p1 (cur.to (at2 := 0) (by omega) (by omega))
  simp only [f_laws_FnVotes_u]
  refine Ev.bind e1 (Ev.bind (e_impl_WeightedVote l w (by omega) (by omega)) (Ev.bind (e_spec_WeightedVote l w (by omega) (by omega)) (Ev.bind e2 (Ev.bind (e_impl_FlipsToWin c x (by omega)) (Ev.bind (e_spec_FlipsToWin c x (by omega)) ?_)))))
  simp only [beq_self_eq_true, if_true, decide_true]
  cases hr : (r_WeightedVote l w).2 with
  | false => simp only [Bool.not_false, if_true]; exact Ev.some _
  | true =>
    have hin := weighted_in l w hr
    simp only [Bool.not_true, Bool.false_eq_true, if_false]
    refine Ev.bind (e_laws_pIn _ _ (by omega)) ?_
    simp only [hin, decide_true, if_true]
    exact Ev.some _
theorem e_FnVotes_t (p1 : List Int) (cur : Cur p1 0 300) : Ev (fun k => f_laws_FnVotes_t k p1) true := by
  obtain ⟨R, e1, g1, g2⟩ := e_DrawVotedRows p1 (cur.to (at2 := 0) (by omega) (by omega))
  have hx : ∀ x ∈ R, x.length ≤ 9223372036854775806 := fun x h => by have := g2 x h; omega
  have hx2 : ∀ x ∈ R, x.length ≤ 1000 := fun x h => by have := g2 x h; omega
  simp only [f_laws_FnVotes_t, G_laws_FnVotes]
  refine Ev.bind e1 (Ev.bind (e_impl_VotedRows R (by omega) hx) (Ev.bind (e_spec_VotedRows R (by omega) hx) (Ev.bind (e_impl_SuspectCopies R (by omega) hx) (Ev.bind (e_spec_SuspectCopies R (by omega) hx) (Ev.bind (e_impl_TieCount R (by omega) hx) (Ev.bind (e_spec_TieCount R (by omega) hx) ?_))))))
  have l1 := r_VotedRows_len R
  have l2 := r_SuspectCopies_len R
  simp only [beq_self_eq_true, Bool.not_true, Bool.false_eq_true, if_false]
  refine Ev.bind (e_laws_sameInts _ _ (by omega)) ?_
  simp only [decide_true, Bool.not_true, Bool.false_eq_true, if_false]
  refine Ev.bind (e_laws_sameInts _ _ (by omega)) ?_
  simp only [decide_true, Bool.not_true, Bool.false_eq_true, if_false, ne_eq, not_true_eq_false, decide_false]
  have hs : (r_SuspectCopies R).2 = (r_VotedRows R).2 := by unfold r_SuspectCopies r_VotedRows; split <;> rfl
  have ht : (r_TieCount R).2 = (r_VotedRows R).2 := by unfold r_TieCount r_VotedRows; split <;> rfl
  simp only [hs, ht, beq_self_eq_true, Bool.not_true, Bool.false_eq_true, if_false]
  have hj : Ev (fun k => f_laws_FnVotes_j258 k R (r_VotedRows R).1 (r_SuspectCopies R).1 p1 (r_TieCount R).1 (r_VotedRows R).2) (LR.go p1) := by
    simp only [f_laws_FnVotes_j258]
    cases hok : rowsOK R with
    | false =>
      have e : (r_VotedRows R).2 = false := by unfold r_VotedRows; rw [hok]; rfl
      simp only [e, Bool.false_eq_true, if_false]
      exact Ev.some _
    | true =>
      have e : r_VotedRows R = (votedF R (List.getD R 0 []).length, true) := by unfold r_VotedRows; rw [if_pos hok]
      have e2 : r_SuspectCopies R = (odds R (votedF R (List.getD R 0 []).length) R.length, true) := by unfold r_SuspectCopies; rw [if_pos hok]
      have e3 : r_TieCount R = (tieF R (List.getD R 0 []).length 0 0, true) := by unfold r_TieCount; rw [if_pos hok]
      have hti := tieF_in R (List.getD R 0 []).length 0 0
      have hvl := votedF_len R (List.getD R 0 []).length
      rw [e, e2, e3]
      simp only [if_true]
      refine Ev.bind (e_FnVotes_4 R _ p1 _ (by omega) hx2 R.length 0 (by omega)) (Ev.go ?_)
      have t1 : ¬ tieF R (List.getD R 0 []).length 0 0 < 0 := by omega
      have t2 : ¬ tieF R (List.getD R 0 []).length 0 0 > ((votedF R (List.getD R 0 []).length).length : Int) := by omega
      simp only [t1, t2, decide_false, Bool.false_eq_true, if_false]
      by_cases ho : (R.length : Int) = 1
      · obtain ⟨o1, o2⟩ := rows_one hok ho
        simp only [ho, o1, o2, decide_true, if_true, ne_eq, not_true_eq_false, decide_false, Bool.false_eq_true, if_false, Int.natCast_zero, Int.ofNat_zero]
        exact Ev.some _
      · simp only [ho, decide_false, Bool.false_eq_true, if_false]
        exact Ev.some _
  exact Ev.bind hj (Ev.go (e_FnVotes_u p1 cur))
theorem law_FnVotes (p0 p1 : List Int) (h0 : p0.length ≤ 9223372036854775807) (b0 : ∀ x ∈ p0, 0 ≤ x ∧ x ≤ 255) (h1 : p1.length ≤ 9223372036854775807) (b1 : ∀ x ∈ p1, 0 ≤ x ∧ x ≤ 255) : Ev (fun k => f_laws_FnVotes k p0 p1) true := by
  have cur0 : Cur p0 0 60 := ⟨b0, h0, by omega, by omega⟩
  have cur1 : Cur p1 0 300 := ⟨b1, h1, by omega, by omega⟩
  refine Ev.succ ?_
  simp only [f_laws_FnVotes, F_laws_FnVotes]
  have hbig : ∃ b, Ev (fun k => f_laws_big k p0 p1) b := by
    by_cases hb : (p0.length : Int) > 1048576
    · exact ⟨true, Ev.succ (by simp only [f_laws_big, hb, decide_true, if_true]; exact Ev.some _)⟩
    · exact ⟨_, Ev.succ (by simp only [f_laws_big, hb, decide_false, Bool.false_eq_true, if_false]; exact Ev.some _)⟩
  obtain ⟨bg, hbg⟩ := hbig
  refine Ev.bind hbg ?_
  refine Ev.ite (fun _ => Ev.some _) (fun _ => ?_)
  obtain ⟨l, e1, g1⟩ := e_DrawMostVoted p0 cur0
  refine Ev.bind e1 (Ev.bind (e_impl_MostVoted l (by omega)) (Ev.bind (e_spec_MostVoted l (by omega)) (Ev.bind (e_impl_MajorityOf l (by omega)) (Ev.bind (e_spec_MajorityOf l (by omega)) ?_))))
  have ht := e_FnVotes_t p1 cur1
  simp only [beq_self_eq_true, Bool.not_true, Bool.false_eq_true, if_false, ne_eq, not_true_eq_false, decide_false]
  cases hok : votesOK l with
  | false =>
    have e : r_MostVoted l = (0, 0, false) := by unfold r_MostVoted; rw [hok]; rfl
    have e2 : r_MajorityOf l = (0, false) := by unfold r_MajorityOf; rw [hok]; rfl
    have hj : Ev (fun k => f_laws_FnVotes_j119 k l p1 0 0 false) (LR.go p1) := by
      simp only [f_laws_FnVotes_j119, Bool.false_eq_true, if_false]
      exact Ev.some _
    rw [e, e2]
    simp only [beq_self_eq_true, Bool.not_true, Bool.false_eq_true, if_false]
    exact Ev.bind hj (Ev.go ht)
  | true =>
    obtain ⟨h9, hd⟩ := votes_ok hok
    have hmi := many_in hd
    have e : r_MostVoted l = (mostOf l, manyOf l, true) := by unfold r_MostVoted; rw [if_pos hok]
    have hj : Ev (fun k => f_laws_FnVotes_j119 k l p1 (mostOf l) (manyOf l) true) (LR.go p1) := by
      simp only [f_laws_FnVotes_j119, if_true]
      exact Ev.bind (e_FnVotes_0 l p1 hok 10 0 (by omega) (by omega)) (Ev.go (Ev.some _))
    have hw : wrap64 (2 * manyOf l) = 2 * manyOf l := w64 (by omega) (by omega)
    by_cases hm : 2 * manyOf l ≤ (l.length : Int)
    · have e2 : r_MajorityOf l = (0, false) := by unfold r_MajorityOf; rw [if_pos hok, if_pos hm]
      have hng : ¬ 2 * manyOf l > (l.length : Int) := by omega
      rw [e, e2]
      simp only [hw, hng, decide_false, beq_self_eq_true, Bool.not_true, Bool.false_eq_true, if_false, if_true]
      exact Ev.bind hj (Ev.go ht)
    · have e2 : r_MajorityOf l = (mostOf l, true) := by unfold r_MajorityOf; rw [if_pos hok, if_neg hm]
      have hng : 2 * manyOf l > (l.length : Int) := by omega
      rw [e, e2]
      simp only [hw, hng, decide_true, beq_self_eq_true, Bool.not_true, Bool.false_eq_true, if_false, if_true, ne_eq, not_true_eq_false, decide_false]
      exact Ev.bind hj (Ev.go ht)
end Go.Proofs.Ytgjmhbjdhihgaaa.Vs
