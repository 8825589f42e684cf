/- The proof, part 8. -/
import Derived.Test.Ytjjlmnbmpgfcbaaqbm6
set_option linter.unusedVariables false
set_option linter.unusedSimpArgs false
namespace Go.Proofs.Ytjjlmnbmpgfcbaa.Vs
open Go.RowKit
/-! ### The states before one -/
def befs (to : Int) : List Int → Int → List Int
  | [], _ => []
  | x :: r, m => (if x = to then [m] else []) ++ befs to r (m + 1)
theorem befs_in (to : Int) : ∀ (l : List Int) (m : Int), ∀ n ∈ befs to l m, m ≤ n ∧ n < m + (l.length : Int)
  | [], m, n, h => by cases h
  | x :: r, m, n, h => by
    simp only [befs, List.mem_append] at h
    simp only [List.length_cons]
    rcases h with h | h
    · split at h
      · rw [List.mem_singleton.1 h]; omega
      · cases h
    · have := befs_in to r (m + 1) n h; omega
theorem e_spec_rvBefore_0 (to : Int) : ∀ (r pre w : List Int), w.length ≤ pre.length → (pre ++ r).length ≤ 1000000 → Ev (fun k => f_spec_rvBefore_0 k w to (pre ++ r) ((pre ++ r).length : Int) (pre.length : Int)) (w ++ befs to r pre.length)
  | [], pre, w, hw, hl => by
    refine Ev.succ ?_
    simp only [f_spec_rvBefore_0, nlt_end, decide_false, Bool.false_eq_true, if_false]
    exact (Ev.some _).congr (by simp [befs])
  | x :: r, pre, w, hw, hl => by
    have hwl : w.length + 1 ≤ 140737488355328 / 8 := by simp at hl; omega
    have hcast : ((pre ++ [x]).length : Int) = (pre.length : Int) + 1 := by simp
    have ih := fun w' hw' => e_spec_rvBefore_0 to r (pre ++ [x]) w' hw' (by simpa using hl)
    rw [← shift_mid, hcast] at ih
    refine Ev.succ ?_
    simp only [f_spec_rvBefore_0, lt_mid, ge_mid, decide_true, if_true, Int.toNat_natCast, getD_mid, List.length_singleton, hwl, decide_eq_true_eq]
    rw [next_mid pre x r (by omega), hcast]
    by_cases hx : x = to
    · simp only [if_pos hx, if_true]
      refine (ih (w ++ [(pre.length : Int)]) (by simp; omega)).congr ?_
      simp [befs, hx]
    · simp only [if_neg hx]
      refine (ih w (by simp; omega)).congr ?_
      simp [befs, hx]
theorem e_spec_rvBefore (next : List Int) (to : Int) (hl : next.length ≤ 1000000) : Ev (fun k => f_spec_rvBefore k next to) (befs to next 0) := by
  refine Ev.succ ?_
  simp only [f_spec_rvBefore]
  exact Ev.bind (e_spec_rvBefore_0 to next [] [] (Nat.le_refl _) (by simpa using hl)) (Ev.some _)
def inState (b : BoardD) (n : Int) : BoardD := (b.1, b.2.1, stateN b n)
theorem pow_cast_lt {n u : Nat} (h : n < 2 ^ u) : (n : Int) < 2 ^ u := by rw [← cast_pow]; exact Int.ofNat_lt.2 h
theorem e_impl_BoardsBefore_0 (b : BoardD) (hb : boardOK b = true) (hu : (unitsP b).length ≤ 10) (to : Int) : ∀ (r pre : List Int) (w : List BoardD), w.length ≤ pre.length → (pre ++ r).length = 2 ^ (unitsP b).length → Ev (fun k => f_impl_BoardsBefore_0 k b.1 b.2.1 b.2.2 w [pre ++ r] to 0 ((pre ++ r).length : Int) (pre.length : Int)) (w ++ (befs to r pre.length).map (inState b))
  | [], pre, w, hw, hl => by
    refine Ev.succ ?_
    simp only [f_impl_BoardsBefore_0, nlt_end, decide_false, Bool.false_eq_true, if_false]
    exact (Ev.some _).congr (by simp [befs])
  | x :: r, pre, w, hw, hl => by
    have hp := two_pow_small hu
    have hpl : pre.length < 2 ^ (unitsP b).length := by rw [← hl]; simp
    have hl2 : (pre ++ x :: r).length ≤ 1000 * 1000 := by omega
    have hwl : w.length + 1 ≤ 140737488355328 / 40 := by omega
    have hcast : ((pre ++ [x]).length : Int) = (pre.length : Int) + 1 := by simp
    have hg : List.getD [pre ++ x :: r] (Int.toNat 0) [] = pre ++ x :: r := rfl
    have hlt := pow_cast_lt hpl
    have ih := fun w' hw' => e_impl_BoardsBefore_0 b hb hu to r (pre ++ [x]) w' hw' (by simpa using hl)
    rw [← shift_mid, hcast] at ih
    refine Ev.succ ?_
    simp only [f_impl_BoardsBefore_0, hg, lt_mid, ge_mid, decide_true, if_true, Int.toNat_natCast, getD_mid, decide_eq_true_eq]
    rw [next_mid pre x r (by omega), hcast]
    by_cases hx : x = to
    · simp only [if_pos hx]
      refine Ev.bind (e_impl_BoardInState b hb (by omega) (pre.length : Int) (Int.natCast_nonneg _) hlt) ?_
      simp only [List.length_singleton, hwl, if_true]
      refine (ih (w ++ [inState b pre.length]) (by simp; omega)).congr ?_
      simp [befs, hx]
    · simp only [if_neg hx]
      refine (ih w (by simp; omega)).congr ?_
      simp [befs, hx]
def beforeN (b : BoardD) (c : Int) : List Int := befs (numB b) (nextL b c) 0
theorem before_in (b : BoardD) (c : Int) : ∀ n ∈ beforeN b c, 0 ≤ n ∧ n < 2 ^ (unitsP b).length := by
  intro n hn
  have := befs_in (numB b) (nextL b c) 0 n hn
  rw [nextL_len, cast_pow] at this
  omega
def r_BoardsBefore (b : BoardD) (c : Int) : List BoardD × Bool := if backOK b c then ((beforeN b c).map (inState b), true) else ([], false)
theorem e_impl_BoardsBefore (b : BoardD) (c : Int) (h0 : b.2.2.length ≤ 9223372036854775806) : Ev (fun k => f_impl_BoardsBefore k b c) (r_BoardsBefore b c) := by
  refine Ev.succ ?_
  simp only [f_impl_BoardsBefore]
  unfold r_BoardsBefore
  refine Ev.bind (e_impl_goesBack b c h0) ?_
  cases g0 : backOK b c with
  | false => simp only [Bool.not_false, if_true, Bool.false_eq_true, if_false]; exact Ev.some _
  | true =>
    obtain ⟨hb, k1, k2, hu⟩ := back_ok g0
    simp only [Bool.not_true, Bool.false_eq_true, if_false, if_true]
    refine Ev.bind (e_impl_bitsOf b hb) (Ev.bind (a := numB b) (e_impl_numberOf _ (bits_are (cells_bits hb) (units_units b)) (by rw [bitsP_len]; omega)) ?_)
    refine Ev.bind (e_impl_numbersAfter b hb hu [c] (fun x hx => by rw [List.mem_singleton.1 hx]; exact ⟨k1, k2⟩) (by simp)) ?_
    have hl : (0 : Int) < ((List.map (nextL b) [c]).length : Int) := by simp
    have hg : List.getD (List.map (nextL b) [c]) (Int.toNat 0) [] = nextL b c := rfl
    simp only [hl, if_true, hg]
    have h := e_impl_BoardsBefore_0 b hb hu (numB b) (nextL b c) [] [] (Nat.le_refl _) (by rw [List.nil_append, nextL_len])
    exact Ev.bind h (Ev.some _)
def noB : BoardD := (0, 0, [])
def r_Only (b : BoardD) (c : Int) : BoardD × Bool := match beforeN b c with | [n] => (inState b n, true) | _ => (noB, false)
def r_OnlyBefore (b : BoardD) (c : Int) : BoardD × Bool := if backOK b c then r_Only b c else (noB, false)
theorem e_impl_OnlyBefore (b : BoardD) (c : Int) (h0 : b.2.2.length ≤ 9223372036854775806) : Ev (fun k => f_impl_OnlyBefore k b c) (r_OnlyBefore b c) := by
  refine Ev.succ ?_
  simp only [f_impl_OnlyBefore]
  refine Ev.bind (e_impl_BoardsBefore b c h0) ?_
  unfold r_BoardsBefore r_OnlyBefore
  cases g0 : backOK b c with
  | false => simp only [Bool.not_false, if_true, Bool.false_eq_true, if_false]; exact Ev.some _
  | true =>
    simp only [if_true, Bool.not_true, Bool.false_eq_true, if_false]
    unfold r_Only
    match hm : beforeN b c with
    | [] => simp only [List.map_nil, List.length_nil]; exact Ev.some _
    | [n] => simp only [List.map_cons, List.map_nil, List.length_singleton]; exact Ev.some _
    | n :: n' :: r =>
      have h1 : (((List.map (inState b) (n :: n' :: r)).length : Nat) : Int) ≠ 1 := by simp; omega
      simp only [ne_eq] at h1
      simp only [h1, ne_eq, not_false_eq_true, decide_true, if_true]
      exact Ev.some _
theorem e_spec_rvOnly (b : BoardD) (hb : boardOK b = true) (hu : (unitsP b).length ≤ 10) (c : Int) (k1 : 0 ≤ c) (k2 : c < b.2.1) : Ev (fun k => f_spec_rvOnly k b c) (r_Only b c) := by
  have hs := nextL_small b hu c
  have hp := two_pow_small hu
  refine Ev.succ ?_
  simp only [f_spec_rvOnly]
  refine Ev.bind (e_spec_rvNext b hb hu c k1 k2) (Ev.bind (a := numB b) (e_spec_saNumber b hb (by omega)) (Ev.bind (a := beforeN b c) (e_spec_rvBefore _ _ (by omega)) ?_))
  have hin := before_in b c
  unfold r_Only
  match hm : beforeN b c, hin with
  | [], hin => simp only [List.length_nil]; exact Ev.some _
  | [n], hin =>
    obtain ⟨n0, n1⟩ := hin n (List.mem_singleton.2 rfl)
    have hn40 : n < 1099511627776 := by rw [← cast_pow] at n1; exact Int.lt_of_lt_of_le n1 (by omega)
    have hsi := e_spec_saIn b hb (by omega) n n0 hn40
    have hg : List.getD [n] (Int.toNat 0) 0 = n := rfl
    simp only [List.length_singleton, hg]
    exact Ev.bind hsi (Ev.some _)
  | n :: n' :: r, hin =>
    have h1 : (((n :: n' :: r).length : Nat) : Int) ≠ 1 := by simp; omega
    simp only [ne_eq] at h1
    simp only [h1, ne_eq, not_false_eq_true, decide_true, if_true]
    exact Ev.some _
theorem e_spec_OnlyBefore (b : BoardD) (c : Int) (h0 : b.2.2.length ≤ 9223372036854775806) : Ev (fun k => f_spec_OnlyBefore k b c) (r_OnlyBefore b c) := by
  refine Ev.succ ?_
  simp only [f_spec_OnlyBefore]
  unfold r_OnlyBefore
  refine Ev.bind (e_spec_rvHas b c h0) ?_
  cases g0 : backOK b c with
  | false => simp only [Bool.not_false, if_true, Bool.false_eq_true, if_false]; exact Ev.some _
  | true =>
    obtain ⟨hb, k1, k2, hu⟩ := back_ok g0
    simp only [Bool.not_true, Bool.false_eq_true, if_false, if_true]
    exact Ev.bind (e_spec_rvOnly b hb hu c k1 k2) (Ev.some _)
theorem only_len (b : BoardD) (hl : b.2.2.length ≤ 1048576) (c : Int) : (r_OnlyBefore b c).1.2.2.length ≤ 1048576 := by
  unfold r_OnlyBefore r_Only
  split
  · split
    · simp only [inState, stateN_len]; exact hl
    · simp [noB]
  · simp [noB]
theorem law_FnExactOnlyBefore (p0 : BoardD) (p1 : Int) (h0 : p0.2.2.length ≤ 9223372036854775807) : Ev (fun k => f_laws_FnExactOnlyBefore k p0 p1) true := by
  refine Ev.succ ?_
  simp only [f_laws_FnExactOnlyBefore]
  refine Ev.bind (e_laws_szBoard _ _ (by first | omega | (dsimp only; omega)) (by first | omega | (dsimp only; omega)) (by first | omega | (dsimp only; omega))) ?_
  by_cases q1 : (1048576 : Int) - (p0.2.2.length : Int) < 0
  · simp only [q1, if_true]; exact Ev.some _
  simp only [q1, if_false, decide_false, Bool.false_eq_true]
  have es := e_spec_OnlyBefore p0 p1 (by omega)
  have ei := e_impl_OnlyBefore p0 p1 (by omega)
  have hlen := only_len p0 (by omega) p1
  generalize r_OnlyBefore p0 p1 = R at es ei hlen
  refine Ev.bind (e_laws_toBoard _ (by first | omega | (dsimp only; omega))) ?_
  refine Ev.bind es ?_
  refine Ev.bind (e_laws_toBoard _ (by first | omega | (dsimp only; omega))) ?_
  refine Ev.bind ei ?_
  refine Ev.bind (e_laws_eqBoard _ _ (by first | omega | (dsimp only; omega))) ?_
  simp only [decide_true, beq_self_eq_true, ne_eq, not_true_eq_false, decide_false, Bool.not_true, Bool.false_eq_true, if_false]
  refine Ev.bind (e_laws_toBoard _ (by first | omega | (dsimp only; omega))) ?_
  refine Ev.bind (e_laws_eqBoard _ _ (by first | omega | (dsimp only; omega))) ?_
  simp only [decide_true, beq_self_eq_true, ne_eq, not_true_eq_false, decide_false, Bool.not_true, Bool.false_eq_true, if_false]
  refine Ev.bind (e_laws_markBoard _ _ (by first | omega | (dsimp only; omega)) (by first | omega | (dsimp only; omega))) ?_
  try dsimp only
  refine Ev.ite (fun h => by simp only [decide_eq_true_eq] at h; omega) (fun h => ?_)
  refine Ev.bind (e_laws_eqBoard _ _ (by first | omega | (dsimp only; omega))) ?_
  simp only [decide_true, beq_self_eq_true, ne_eq, not_true_eq_false, decide_false, Bool.not_true, Bool.false_eq_true, if_false]
  refine Ev.bind (e_laws_markBoard _ _ (by first | omega | (dsimp only; omega)) (by first | omega | (dsimp only; omega))) ?_
  try dsimp only
  refine Ev.bind (e_laws_heldBoard _ _ _ _ (by first | omega | (dsimp only; omega)) (by first | omega | (dsimp only; omega))) ?_
  try dsimp only
  refine Ev.ite (fun h => by simp only [decide_eq_true_eq] at h; omega) (fun h => ?_)
  simp only [decide_true, beq_self_eq_true, ne_eq, not_true_eq_false, decide_false, Bool.not_true, Bool.false_eq_true, if_false]
  refine Ev.bind (e_laws_toBoard _ (by first | omega | (dsimp only; omega))) ?_
  refine Ev.bind ei ?_
  refine Ev.bind (e_laws_eqBoard _ _ (by first | omega | (dsimp only; omega))) ?_
  simp only [decide_true, beq_self_eq_true, ne_eq, not_true_eq_false, decide_false, Bool.not_true, Bool.false_eq_true, if_false]
  refine Ev.bind (e_laws_heldBoard _ _ _ _ (by first | omega | (dsimp only; omega)) (by first | omega | (dsimp only; omega))) ?_
  try dsimp only
  refine Ev.ite (fun h => by simp only [decide_eq_true_eq] at h; omega) (fun h => ?_)
  simp only [decide_true, beq_self_eq_true, ne_eq, not_true_eq_false, decide_false, Bool.not_true, Bool.false_eq_true, if_false]
  exact Ev.some _
end Go.Proofs.Ytjjlmnbmpgfcbaa.Vs

set_option linter.unusedVariables false
set_option linter.unusedSimpArgs false
namespace Go.Proofs.Ytjjlmnbmpgfcbaa.Vs
open Go.RowKit
/-! ### Marbles undone -/
def undoP (b : BoardD) : List Int → Int → Option Int
  | [], i => some i
  | c :: r, i => match befs i (nextL b c) 0 with | [n] => undoP b r n | _ => none
def scan (to : Int) : List Int → Int → Int → Option Int
  | [], _, v => some v
  | x :: r, m, v => if x = to then (if v ≥ 0 then none else scan to r (m + 1) m) else scan to r (m + 1) v
theorem scan_some (to : Int) : ∀ (l : List Int) (m v : Int), 0 ≤ v → scan to l m v = if befs to l m = [] then some v else none
  | [], m, v, hv => by simp [scan, befs]
  | x :: r, m, v, hv => by
    simp only [scan, befs]
    by_cases hx : x = to
    · simp [hx, hv]
    · simp only [hx, if_false, List.nil_append]
      exact scan_some to r (m + 1) v hv
theorem scan_befs (to : Int) : ∀ (l : List Int) (m : Int), 0 ≤ m → scan to l m (-1) = match befs to l m with | [] => some (-1) | [n] => some n | _ => none
  | [], m, hm => by simp [scan, befs]
  | x :: r, m, hm => by
    simp only [scan, befs]
    by_cases hx : x = to
    · simp only [hx, if_true, List.singleton_append]
      rw [if_neg (by omega), scan_some to r (m + 1) m hm]
      cases hb : befs to r (m + 1) with
      | nil => simp
      | cons y s => simp
    · simp only [hx, if_false, List.nil_append]
      exact scan_befs to r (m + 1) (by omega)
theorem e_impl_UndoMarbles_0 (b : BoardD) (c1 c2 : Int) (c3 : List CellD) (t : List Int) : ∀ (r pre : List Int), (pre ++ r).length ≤ 1000000 → Ev (fun k => f_impl_UndoMarbles_0 k b.1 b.2.1 b.2.2 c1 c2 c3 t (pre ++ r) ((pre ++ r).length : Int) (pre.length : Int)) (if r.all (fun n => decide (0 ≤ n ∧ n ≤ b.2.1 - 1)) then LR.go (b.1, b.2.1, b.2.2, c1, c2, c3, t) else LR.ret (noB, false))
  | [], pre, hl => by
    refine Ev.succ ?_
    simp only [f_impl_UndoMarbles_0, nlt_end, decide_false, Bool.false_eq_true, if_false, List.all_nil, if_true]
    exact Ev.some _
  | x :: r, pre, hl => by
    have ih := e_impl_UndoMarbles_0 b c1 c2 c3 t r (pre ++ [x]) (by simpa using hl)
    rw [← shift_mid] at ih
    refine Ev.succ ?_
    simp only [f_impl_UndoMarbles_0, lt_mid, ge_mid, decide_true, if_true, Int.toNat_natCast, getD_mid]
    rw [next_mid pre x r (by omega)]
    by_cases h1 : x < 0
    · have : ¬ (0 ≤ x ∧ x ≤ b.2.1 - 1) := by omega
      simp only [h1, decide_true, if_true, List.all_cons, this, decide_false, Bool.false_and, Bool.false_eq_true, if_false]
      exact Ev.some _
    · by_cases h2 : x ≥ b.2.1
      · have : ¬ (0 ≤ x ∧ x ≤ b.2.1 - 1) := by omega
        simp only [h1, h2, decide_true, if_true, List.all_cons, this, decide_false, Bool.false_and, Bool.false_eq_true, if_false]
        exact Ev.some _
      · have : 0 ≤ x ∧ x ≤ b.2.1 - 1 := by omega
        simp only [h1, h2, this, and_self, decide_true, List.all_cons, Bool.true_and, decide_false, Bool.false_eq_true, if_false]
        exact ih
theorem e_impl_UndoMarbles_4 (b1 b2 : Int) (b3 : List CellD) (c1 c2 : Int) (c3 : List CellD) (o4 : List (List Int)) (to v10 : Int) (i : Nat) (l : List Int) (hg : List.getD o4 i [] = l) (hl : l.length ≤ 1000000) : ∀ (r pre : List Int) (v : Int), pre ++ r = l → Ev (fun k => f_impl_UndoMarbles_4 k b1 b2 b3 c1 c2 c3 o4 to v10 v (i : Int) (l.length : Int) (pre.length : Int)) (match scan to r pre.length v with | some x => LR.go (b1, b2, b3, c1, c2, c3, o4, v10, x) | none => LR.ret (noB, false))
  | [], pre, v, hp => by
    have hn : ¬ (pre.length : Int) < (l.length : Int) := by rw [← hp]; exact nlt_end pre
    refine Ev.succ ?_
    simp only [f_impl_UndoMarbles_4, hn, decide_false, Bool.false_eq_true, if_false, scan]
    exact Ev.some _
  | x :: r, pre, v, hp => by
    have hlt : (pre.length : Int) < (l.length : Int) := by rw [← hp]; exact lt_mid pre x r
    have hx : List.getD l pre.length 0 = x := by rw [← hp]; exact getD_mid _ _ _ _
    have hcast : ((pre ++ [x]).length : Int) = (pre.length : Int) + 1 := by simp
    have ih := fun v' => e_impl_UndoMarbles_4 b1 b2 b3 c1 c2 c3 o4 to v10 i l hg hl r (pre ++ [x]) v' (by rw [← hp]; simp)
    rw [hcast] at ih
    refine Ev.succ ?_
    simp only [f_impl_UndoMarbles_4, Int.toNat_natCast, hg, hlt, ge_mid, decide_true, if_true, hx, scan, decide_eq_true_eq]
    rw [next_mid pre x r (by rw [hp]; omega), hcast]
    by_cases hxt : x = to
    · simp only [hxt, if_true]
      by_cases hv : v ≥ 0
      · simp only [hv, if_true]; exact Ev.some _
      · simp only [hv, if_false]; exact ih _
    · simp only [hxt, if_false]; exact ih _
theorem e_impl_UndoMarbles_2 (b : BoardD) (hu : (unitsP b).length ≤ 10) (c1 c2 : Int) (c3 : List CellD) : ∀ (r done : List Int) (i : Int), (r.reverse ++ done).length ≤ 1000 → 0 ≤ i → Ev (fun k => f_impl_UndoMarbles_2 k b.1 b.2.1 b.2.2 c1 c2 c3 ((r.reverse ++ done).map (nextL b)) i ((r.length : Int) - 1)) (match undoP b r i with | some n => LR.go (b.1, b.2.1, b.2.2, c1, c2, c3, n) | none => LR.ret (noB, false))
  | [], done, i, hl, hi => by
    refine Ev.succ ?_
    have : ¬ (((([] : List Int).length : Nat) : Int) - 1 ≥ 0) := by simp
    simp only [f_impl_UndoMarbles_2, this, decide_false, Bool.false_eq_true, if_false, undoP]
    exact Ev.some _
  | c :: r, done, i, hl, hi => by
    have hs := nextL_small b hu c
    have e1 : (((c :: r).length : Nat) : Int) - 1 = (r.length : Int) := by simp
    have hge : (r.length : Int) ≥ 0 := Int.natCast_nonneg _
    have hsh : (c :: r).reverse ++ done = r.reverse ++ c :: done := by simp
    have hlen : (r.length : Int) < ((List.map (nextL b) (r.reverse ++ c :: done)).length : Int) := by simp; omega
    have hg : List.getD (List.map (nextL b) (r.reverse ++ c :: done)) r.length [] = nextL b c := by
      rw [List.map_append, List.map_cons]
      simp
    have h4 := e_impl_UndoMarbles_4 b.1 b.2.1 b.2.2 c1 c2 c3 (List.map (nextL b) (r.reverse ++ c :: done)) i (r.length : Int) r.length (nextL b c) hg (by omega) (nextL b c) [] (-1) rfl
    have hz : ((([] : List Int).length : Nat) : Int) = 0 := rfl
    rw [hz, scan_befs i (nextL b c) 0 (Int.le_refl 0)] at h4
    have hin := befs_in i (nextL b c) 0
    have hll : r.length ≤ 1000 := by rw [hsh] at hl; simp at hl; omega
    rw [e1, hsh]
    refine Ev.succ ?_
    simp only [f_impl_UndoMarbles_2, hge, decide_true, if_true, hlen, Int.toNat_natCast, hg]
    refine Ev.bind h4 ?_
    simp only [undoP]
    match hm : befs i (nextL b c) 0, hin with
    | [], hin =>
      refine Ev.go ?_
      simp only [show ((-1 : Int) < 0) by omega, decide_true, if_true]
      exact Ev.some _
    | [n], hin =>
      obtain ⟨n0, _⟩ := hin n (List.mem_singleton.2 rfl)
      have hn : ¬ n < 0 := by omega
      refine Ev.go ?_
      simp only [hn, decide_false, Bool.false_eq_true, if_false]
      rw [w64 (n := (r.length : Int) - 1) (by omega) (by omega)]
      exact e_impl_UndoMarbles_2 b hu c1 c2 c3 r (c :: done) n (by rw [hsh] at hl; exact hl) n0
    | n :: n' :: s, hin => exact Ev.ret (Ev.some _)
theorem e_spec_UndoMarbles_0 (b : BoardD) (hb : boardOK b = true) (hu : (unitsP b).length ≤ 10) (d1 d2 : Int) (d3 : List CellD) : ∀ (r done : List Int) (i : Int), colsOK b r → (r.reverse ++ done).length ≤ 1000 → 0 ≤ i → i < 2 ^ (unitsP b).length → Ev (fun k => f_spec_UndoMarbles_0 k d1 d2 d3 b.1 b.2.1 (stateN b i) (r.reverse ++ done) ((r.length : Int) - 1)) (match undoP b r i with | some n => LR.go (d1, d2, d3, inState b n) | none => LR.ret (noB, false))
  | [], done, i, hc, hl, hi, hi2 => by
    refine Ev.succ ?_
    have : ¬ (((([] : List Int).length : Nat) : Int) - 1 ≥ 0) := by simp
    simp only [f_spec_UndoMarbles_0, this, decide_false, Bool.false_eq_true, if_false, undoP]
    exact Ev.some _
  | c :: r, done, i, hc, hl, hi, hi2 => by
    obtain ⟨k1, k2⟩ := hc c (List.mem_cons_self ..)
    have e1 : (((c :: r).length : Nat) : Int) - 1 = (r.length : Int) := by simp
    have hge : (r.length : Int) ≥ 0 := Int.natCast_nonneg _
    have hsh : (c :: r).reverse ++ done = r.reverse ++ c :: done := by simp
    have hlen : (r.length : Int) < ((r.reverse ++ c :: done).length : Int) := by simp; omega
    have hg : List.getD (r.reverse ++ c :: done) r.length 0 = c := by
      simp
    have hll : r.length ≤ 1000 := by rw [hsh] at hl; simp at hl; omega
    have hon := e_spec_rvOnly (inState b i) (stateN_ok b hb i) (by rw [show unitsP (inState b i) = unitsP b from stateN_units b hb i]; exact hu) c k1 k2
    have hbe : beforeN (inState b i) c = befs i (nextL b c) 0 := by
      unfold beforeN
      rw [show nextL (inState b i) c = nextL b c from nextL_state b hb c i, show numB (inState b i) = i from numB_stateN b hb i hi hi2]
    have hin := befs_in i (nextL b c) 0
    rw [nextL_len, cast_pow] at hin
    rw [e1, hsh]
    unfold r_Only at hon
    rw [hbe] at hon
    refine Ev.succ ?_
    simp only [f_spec_UndoMarbles_0, hge, decide_true, if_true, f_spec_UndoMarbles_g7, hlen, Int.toNat_natCast, hg, undoP]
    refine Ev.bind (Ev.bind hon (Ev.some _)) ?_
    match hm : befs i (nextL b c) 0, hin with
    | [], hin => simp only [Bool.not_false, if_true]; exact Ev.some _
    | [n], hin =>
      obtain ⟨n0, n1⟩ := hin n (List.mem_singleton.2 rfl)
      simp only [Bool.not_true, Bool.false_eq_true, if_false, inState]
      rw [w64 (n := (r.length : Int) - 1) (by omega) (by omega), stateN_stateN b hb]
      exact e_spec_UndoMarbles_0 b hb hu d1 d2 d3 r (c :: done) n (fun y hy => hc y (List.mem_cons_of_mem _ hy)) (by rw [hsh] at hl; exact hl) n0 (by omega)
    | n :: n' :: s, hin => simp only [Bool.not_false, if_true]; exact Ev.some _
theorem undoP_in (b : BoardD) : ∀ (r : List Int) (i n : Int), 0 ≤ i → i < 2 ^ (unitsP b).length → undoP b r i = some n → 0 ≤ n ∧ n < 2 ^ (unitsP b).length
  | [], i, n, h0, h1, h => by
    simp only [undoP] at h
    injection h with h
    subst h
    exact ⟨h0, h1⟩
  | c :: r, i, n, h0, h1, h => by
    simp only [undoP] at h
    split at h
    · rename_i m hm
      have hin := befs_in i (nextL b c) 0 m (by rw [hm]; simp)
      rw [nextL_len, cast_pow] at hin
      exact undoP_in b r m n hin.1 (by omega) h
    · cases h
def undoOK (b : BoardD) (t : List Int) : Bool := boardOK b && decide ((unitsP b).length ≤ 10) && decide (t.length ≤ 20) && t.all (fun n => decide (0 ≤ n ∧ n ≤ b.2.1 - 1))
def r_UndoMarbles (b : BoardD) (t : List Int) : BoardD × Bool := if undoOK b t then (match undoP b t.reverse (numB b) with | some n => (inState b n, true) | none => (noB, false)) else (noB, false)
theorem e_impl_UndoMarbles (b : BoardD) (t : List Int) (h0 : b.2.2.length ≤ 9223372036854775806) (h1 : t.length ≤ 9223372036854775806) : Ev (fun k => f_impl_UndoMarbles k b t) (r_UndoMarbles b t) := by
  refine Ev.succ ?_
  simp only [f_impl_UndoMarbles]
  unfold r_UndoMarbles undoOK
  refine Ev.bind (e_impl_IsBoard b h0) ?_
  cases hb : boardOK b with
  | false => simp only [Bool.not_false, if_true, Bool.false_eq_true, if_false, Bool.false_and]; exact Ev.some _
  | true =>
    simp only [Bool.not_true, Bool.false_eq_true, if_false, Bool.true_and]
    refine Ev.bind (e_impl_unitsOf b hb) ?_
    by_cases hu : (unitsP b).length ≤ 10
    · have hu' : ¬ ((unitsP b).length : Int) > 10 := by omega
      simp only [hu, hu', decide_true, decide_false, Bool.true_and, Bool.false_eq_true, if_false]
      by_cases ht : t.length ≤ 20
      · have ht' : ¬ (t.length : Int) > 20 := by omega
        simp only [ht, ht', decide_true, decide_false, Bool.true_and, Bool.false_eq_true, if_false]
        refine Ev.bind (e_impl_UndoMarbles_0 b 0 0 [] t t [] (by simp; omega)) ?_
        cases ha : t.all (fun n => decide (0 ≤ n ∧ n ≤ b.2.1 - 1)) with
        | false => simp only [Bool.false_eq_true, if_false]; exact Ev.ret (Ev.some _)
        | true =>
          simp only [if_true]
          have hc : colsOK b t := fun c hc => by
            have := List.all_eq_true.1 ha c hc
            simp only [decide_eq_true_eq] at this
            omega
          have hra := numB_range b hb
          refine Ev.go ?_
          refine Ev.bind (e_impl_numbersAfter b hb hu t hc (by omega)) ?_
          refine Ev.bind (e_impl_bitsOf b hb) (Ev.bind (a := numB b) (e_impl_numberOf _ (bits_are (cells_bits hb) (units_units b)) (by rw [bitsP_len]; omega)) ?_)
          have h2 := e_impl_UndoMarbles_2 b hu 0 0 [] t.reverse [] (numB b) (by simp; omega) hra.1
          simp only [List.reverse_reverse, List.append_nil, List.length_reverse] at h2
          simp only
          rw [w64 (n := (t.length : Int) - 1) (by omega) (by omega)]
          refine Ev.bind h2 ?_
          cases hd : undoP b t.reverse (numB b) with
          | none => exact Ev.ret (Ev.some _)
          | some n =>
            have hn := undoP_in b _ _ _ hra.1 hra.2 hd
            exact Ev.go (Ev.bind (e_impl_BoardInState b hb (by omega) n hn.1 hn.2) (Ev.some _))
      · have ht' : (t.length : Int) > 20 := by omega
        simp only [ht, ht', decide_true, decide_false, Bool.false_and, Bool.false_eq_true, if_false, if_true]; exact Ev.some _
    · have hu' : ((unitsP b).length : Int) > 10 := by omega
      simp only [hu, hu', decide_true, decide_false, Bool.false_and, Bool.false_eq_true, if_false, if_true]; exact Ev.some _
theorem e_spec_UndoMarbles (b : BoardD) (t : List Int) (h0 : b.2.2.length ≤ 9223372036854775806) (h1 : t.length ≤ 9223372036854775806) : Ev (fun k => f_spec_UndoMarbles k b t) (r_UndoMarbles b t) := by
  refine Ev.succ ?_
  simp only [f_spec_UndoMarbles]
  unfold r_UndoMarbles undoOK
  refine Ev.bind (e_spec_rvHas b 0 h0) ?_
  have hbk : backOK b 0 = (boardOK b && decide ((unitsP b).length ≤ 10)) := by
    unfold backOK
    cases hb : boardOK b with
    | false => rfl
    | true =>
      have := board_ok hb
      have h2 : (0 : Int) ≤ 0 ∧ (0 : Int) < b.2.1 := by omega
      simp only [h2, and_self, decide_true, Bool.true_and]
  rw [hbk]
  cases hb : boardOK b with
  | false => simp only [Bool.not_false, if_true, Bool.false_eq_true, if_false, Bool.false_and]; exact Ev.some _
  | true =>
    simp only [Bool.true_and]
    by_cases hu : (unitsP b).length ≤ 10
    · simp only [hu, decide_true, Bool.true_and, Bool.not_true, Bool.false_eq_true, if_false]
      by_cases ht : t.length ≤ 20
      · have ht' : ¬ (t.length : Int) > 20 := by omega
        have hcol := (board_ok hb).2.2
        simp only [ht, ht', decide_true, decide_false, Bool.true_and, Bool.false_eq_true, if_false]
        rw [w64 (n := b.2.1 - 1) (by omega) (by omega)]
        refine Ev.bind (e_spec_l1All t 0 (b.2.1 - 1) h1) ?_
        cases ha : t.all (fun n => decide (0 ≤ n ∧ n ≤ b.2.1 - 1)) with
        | false => simp only [Bool.not_false, if_true, Bool.false_eq_true, if_false]; exact Ev.some _
        | true =>
          simp only [Bool.not_true, Bool.false_eq_true, if_false, if_true]
          have hc : colsOK b t := fun c hc => by
            have := List.all_eq_true.1 ha c hc
            simp only [decide_eq_true_eq] at this
            omega
          have hra := numB_range b hb
          obtain ⟨g1, g2, g3, g4, g5, g6⟩ := board_ok hb
          have hpp := prod_small g1 g2 g3 g4
          refine Ev.bind (e_spec_boOwn b (by omega)) ?_
          have h2 := e_spec_UndoMarbles_0 b hb hu 0 0 [] t.reverse [] (numB b) (fun c hx => hc c (List.mem_reverse.1 hx)) (by simp; omega) hra.1 hra.2
          rw [stateN_numB b hb] at h2
          simp only [List.reverse_reverse, List.append_nil, List.length_reverse] at h2
          rw [w64 (n := (t.length : Int) - 1) (by omega) (by omega)]
          refine Ev.bind h2 ?_
          cases hd : undoP b t.reverse (numB b) with
          | none => exact Ev.ret (Ev.some _)
          | some n => exact Ev.go (Ev.some _)
      · have ht' : (t.length : Int) > 20 := by omega
        simp only [ht, ht', decide_true, decide_false, Bool.false_and, Bool.false_eq_true, if_false, if_true]; exact Ev.some _
    · simp only [hu, decide_false, Bool.false_and, Bool.not_false, if_true, Bool.false_eq_true, if_false]; exact Ev.some _
theorem undo_len (b : BoardD) (hl : b.2.2.length ≤ 1048576) (t : List Int) : (r_UndoMarbles b t).1.2.2.length ≤ 1048576 := by
  unfold r_UndoMarbles
  split
  · split
    · simp only [inState, stateN_len]; exact hl
    · simp [noB]
  · simp [noB]
theorem law_FnExactUndoMarbles (p0 : BoardD) (p1 : List Int) (h0 : p0.2.2.length ≤ 9223372036854775807) (h1 : p1.length ≤ 9223372036854775807) : Ev (fun k => f_laws_FnExactUndoMarbles k p0 p1) true := by
  refine Ev.succ ?_
  simp only [f_laws_FnExactUndoMarbles]
  by_cases q1 : (p1.length : Int) > 1048576
  · simp only [q1, decide_true, if_true]; exact Ev.some _
  simp only [q1, decide_false, Bool.false_eq_true, if_false]
  refine Ev.bind (e_laws_szBoard _ _ (by first | omega | (dsimp only; omega)) (by first | omega | (dsimp only; omega)) (by first | omega | (dsimp only; omega))) ?_
  by_cases q2 : (1048576 : Int) - (p0.2.2.length : Int) < 0
  · simp only [q2, if_true]; exact Ev.some _
  simp only [q2, if_false, decide_false, Bool.false_eq_true]
  have es := e_spec_UndoMarbles p0 p1 (by omega) (by omega)
  have ei := e_impl_UndoMarbles p0 p1 (by omega) (by omega)
  have hlen := undo_len p0 (by omega) p1
  generalize r_UndoMarbles p0 p1 = R at es ei hlen
  refine Ev.bind (e_laws_toBoard _ (by first | omega | (dsimp only; omega))) ?_
  refine Ev.bind (e_laws_toIntS _ (by first | omega | (dsimp only; omega))) ?_
  refine Ev.bind es ?_
  refine Ev.bind (e_laws_toBoard _ (by first | omega | (dsimp only; omega))) ?_
  refine Ev.bind (e_laws_toIntS _ (by first | omega | (dsimp only; omega))) ?_
  refine Ev.bind ei ?_
  refine Ev.bind (e_laws_eqBoard _ _ (by first | omega | (dsimp only; omega))) ?_
  simp only [decide_true, beq_self_eq_true, ne_eq, not_true_eq_false, decide_false, Bool.not_true, Bool.false_eq_true, if_false]
  refine Ev.bind (e_laws_toBoard _ (by first | omega | (dsimp only; omega))) ?_
  refine Ev.bind (e_laws_eqBoard _ _ (by first | omega | (dsimp only; omega))) ?_
  simp only [decide_true, beq_self_eq_true, ne_eq, not_true_eq_false, decide_false, Bool.not_true, Bool.false_eq_true, if_false]
  refine Ev.bind (e_laws_toIntS _ (by first | omega | (dsimp only; omega))) ?_
  refine Ev.bind (e_laws_eqIntS _ _ (by first | omega | (dsimp only; omega))) ?_
  simp only [decide_true, beq_self_eq_true, ne_eq, not_true_eq_false, decide_false, Bool.not_true, Bool.false_eq_true, if_false]
  refine Ev.bind (e_laws_markBoard _ _ (by first | omega | (dsimp only; omega)) (by first | omega | (dsimp only; omega))) ?_
  try dsimp only
  refine Ev.bind (e_laws_markIntS _ _ (by first | omega | (dsimp only; omega)) (by first | omega | (dsimp only; omega))) ?_
  try dsimp only
  refine Ev.ite (fun h => by simp only [decide_eq_true_eq] at h; omega) (fun h => ?_)
  refine Ev.bind (e_laws_eqBoard _ _ (by first | omega | (dsimp only; omega))) ?_
  simp only [decide_true, beq_self_eq_true, ne_eq, not_true_eq_false, decide_false, Bool.not_true, Bool.false_eq_true, if_false]
  refine Ev.bind (e_laws_markBoard _ _ (by first | omega | (dsimp only; omega)) (by first | omega | (dsimp only; omega))) ?_
  try dsimp only
  refine Ev.bind (e_laws_heldBoard _ _ _ _ (by first | omega | (dsimp only; omega)) (by first | omega | (dsimp only; omega))) ?_
  try dsimp only
  refine Ev.ite (fun h => by simp only [decide_eq_true_eq] at h; omega) (fun h => ?_)
  simp only [decide_true, beq_self_eq_true, ne_eq, not_true_eq_false, decide_false, Bool.not_true, Bool.false_eq_true, if_false]
  refine Ev.bind (e_laws_toBoard _ (by first | omega | (dsimp only; omega))) ?_
  refine Ev.bind (e_laws_toIntS _ (by first | omega | (dsimp only; omega))) ?_
  refine Ev.bind ei ?_
  refine Ev.bind (e_laws_eqBoard _ _ (by first | omega | (dsimp only; omega))) ?_
  simp only [decide_true, beq_self_eq_true, ne_eq, not_true_eq_false, decide_false, Bool.not_true, Bool.false_eq_true, if_false]
  refine Ev.bind (e_laws_heldBoard _ _ _ _ (by first | omega | (dsimp only; omega)) (by first | omega | (dsimp only; omega))) ?_
  try dsimp only
  refine Ev.ite (fun h => by simp only [decide_eq_true_eq] at h; omega) (fun h => ?_)
  simp only [decide_true, beq_self_eq_true, ne_eq, not_true_eq_false, decide_false, Bool.not_true, Bool.false_eq_true, if_false]
  exact Ev.some _
end Go.Proofs.Ytjjlmnbmpgfcbaa.Vs
