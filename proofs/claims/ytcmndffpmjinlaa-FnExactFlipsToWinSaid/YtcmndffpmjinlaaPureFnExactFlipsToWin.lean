/- For all votes and every value, the program's FlipsToWin returns what the reference's FlipsToWin returns, and the votes stay as they are. No condition beyond the statement's own. -/
import Derived.Test.YtcmndffpmjinlaaPFnExactFlipsToWinx2
import Derived.Test.YtcmndffpmjinlaaWSized
namespace Go.Proofs.Ytcmndffpmjinlaa.Pure
open Go.RowKit Go.Proofs.Ytcmndffpmjinlaa.PFnExactFlipsToWin Go.Proofs.YtcmndffpmjinlaaW.PrintWords Go.Proofs.YtcmndffpmjinlaaW.PrintLast

theorem Ev.pos {α : Type} {c : Prop} [Decidable c] {g f : Nat → Option α} {r : α} (h : c) (k : Ev g r) : Ev (fun n => if c then g n else f n) r := by
  simpa only [if_pos h] using k
theorem Ev.neg {α : Type} {c : Prop} [Decidable c] {g f : Nat → Option α} {r : α} (h : ¬ c) (k : Ev f r) : Ev (fun n => if c then g n else f n) r := by
  simpa only [if_neg h] using k
theorem Ev.call {α β : Type} {x : Option α} {f : Nat → α → Option β} {a : α} {r : β} (h : x = some a) (k : Ev (fun n => f n a) r) : Ev (fun n => x.bind (f n)) r := by
  subst h
  exact k
theorem rd_mid (pre : List Int) (x : Int) (suf : List Int) : rd (pre ++ x :: suf) (pre.length : Int) = x := by simp [rd]
theorem next_at (pre : List Int) (x : Int) (suf : List Int) (h : (pre ++ x :: suf).length ≤ 1048576) : wrap64 ((pre.length : Int) + 1) = ((pre ++ [x]).length : Int) := by
  simp at h ⊢
  unfold wrap64
  omega

def good (l : List Int) : Bool := l.all fun x => decide (0 ≤ x ∧ x ≤ 9)

theorem all_ev (l : List Int) (hl : l.length ≤ 1048576) : ∀ (suf pre : List Int), l = pre ++ suf → Ev (fun k => spec_l1All.l0 k 0 9 l (l.length : Int) (pre.length : Int)) (good suf)
  | [], pre, h => by
    have e : pre.length = l.length := by simp [h]
    refine Ev.step (fun k => by rw [spec_l1All.l0]) ?_
    exact Ev.neg (by omega) (Ev.now _)
  | x :: suf, pre, h => by
    have e : pre.length < l.length := by simp [h]
    have hr : rd l (pre.length : Int) = x := by rw [h]; exact rd_mid ..
    have hn : wrap64 ((pre.length : Int) + 1) = ((pre ++ [x]).length : Int) := next_at pre x suf (by rw [← h]; exact hl)
    refine Ev.step (fun k => by rw [spec_l1All.l0]) ?_
    rw [hr, hn]
    refine Ev.pos (by omega) (Ev.pos (by omega) (Ev.pos (by omega) ?_))
    by_cases h0 : x ≥ 0
    · by_cases h1 : x ≤ 9
      · refine Ev.call (a := true) (by simp [spec_l1In.f, h0, h1]) (Ev.pos rfl ?_)
        have h2 : good (x :: suf) = good suf := by simp [good]; omega
        rw [h2]
        exact all_ev l hl suf (pre ++ [x]) (by simp [h])
      · refine Ev.call (a := false) (by simp [spec_l1In.f, h1]) (Ev.neg (by simp) ?_)
        have h2 : good (x :: suf) = false := by simp [good]; omega
        rw [h2]
        exact Ev.now _
    · refine Ev.call (a := false) (by simp [spec_l1In.f, h0]) (Ev.neg (by simp) ?_)
      have h2 : good (x :: suf) = false := by simp [good]; omega
      rw [h2]
      exact Ev.now _
theorem dig_ev (l : List Int) (hl : l.length ≤ 1048576) : ∀ (suf pre : List Int), l = pre ++ suf → Ev (fun k => impl_areDigits.l0 k l (l.length : Int) (pre.length : Int)) (good suf)
  | [], pre, h => by
    have e : pre.length = l.length := by simp [h]
    refine Ev.step (fun k => by rw [impl_areDigits.l0]) ?_
    exact Ev.neg (by omega) (Ev.now _)
  | x :: suf, pre, h => by
    have e : pre.length < l.length := by simp [h]
    have hr : rd l (pre.length : Int) = x := by rw [h]; exact rd_mid ..
    have hn : wrap64 ((pre.length : Int) + 1) = ((pre ++ [x]).length : Int) := next_at pre x suf (by rw [← h]; exact hl)
    refine Ev.step (fun k => by rw [impl_areDigits.l0]) ?_
    rw [hr, hn]
    refine Ev.pos (by omega) (Ev.pos (by omega) (Ev.pos (by omega) ?_))
    by_cases h0 : x < 0
    · have h2 : good (x :: suf) = false := by simp [good]; omega
      rw [h2]
      exact Ev.pos h0 (Ev.now _)
    · refine Ev.neg h0 ?_
      by_cases h1 : x > 9
      · have h2 : good (x :: suf) = false := by simp [good]; omega
        rw [h2]
        exact Ev.pos h1 (Ev.now _)
      · have h2 : good (x :: suf) = good suf := by simp [good]; omega
        rw [h2]
        exact Ev.neg h1 (dig_ev l hl suf (pre ++ [x]) (by simp [h]))
def cnt (v : Int) (l : List Int) : Int := (l.filter (· = v)).length
theorem cnt_le (v : Int) (l : List Int) : 0 ≤ cnt v l ∧ cnt v l ≤ l.length := by
  unfold cnt
  have := List.length_filter_le (fun x : Int => decide (x = v)) l
  omega
theorem cnt_cons (v x : Int) (l : List Int) : cnt v (x :: l) = (if x = v then 1 else 0) + cnt v l := by
  unfold cnt
  by_cases h : x = v <;> simp [h]; omega
def flips (n c : Int) : Int := if 0 > n / 2 + 1 - c then 0 else n / 2 + 1 - c
theorem spec_ev (l : List Int) (v : Int) (hl : l.length ≤ 1048576) : ∀ (suf pre : List Int) (c : Int), l = pre ++ suf → 0 ≤ c → c ≤ pre.length → Ev (fun k => spec_FlipsToWin.l0 k l v c l (l.length : Int) (pre.length : Int)) (flips l.length (c + cnt v suf), true)
  | [], pre, c, h, hc, hp => by
    have e : pre.length = l.length := by simp [h]
    refine Ev.step (fun k => by rw [spec_FlipsToWin.l0]) ?_
    refine Ev.neg (by omega) ?_
    have e1 : wrap64 ((wrap64 ((wrap64 ((l.length : Int) / 2)) + 1)) - c) = (l.length : Int) / 2 + 1 - c := by unfold wrap64; omega
    rw [e1]
    refine Ev.call (a := flips l.length (c + cnt v [])) ?_ (Ev.now _)
    simp only [spec_l1Most.f, flips, cnt, List.filter_nil, List.length_nil, Int.natCast_zero, Int.add_zero]
    split <;> rfl
  | x :: suf, pre, c, h, hc, hp => by
    have e : pre.length < l.length := by simp [h]
    have hr : rd l (pre.length : Int) = x := by rw [h]; exact rd_mid ..
    have hn : wrap64 ((pre.length : Int) + 1) = ((pre ++ [x]).length : Int) := next_at pre x suf (by rw [← h]; exact hl)
    refine Ev.step (fun k => by rw [spec_FlipsToWin.l0]) ?_
    rw [hr, hn]
    refine Ev.pos (by omega) (Ev.pos (by omega) (Ev.pos (by omega) ?_))
    by_cases h0 : x = v
    · have h2 : c + cnt v (x :: suf) = (c + 1) + cnt v suf := by rw [cnt_cons, if_pos h0]; omega
      have h3 : wrap64 (c + 1) = c + 1 := by unfold wrap64; omega
      rw [h2, h3]
      exact Ev.pos h0 (spec_ev l v hl suf (pre ++ [x]) (c + 1) (by simp [h]) (by omega) (by simp; omega))
    · have h2 : c + cnt v (x :: suf) = c + cnt v suf := by rw [cnt_cons, if_neg h0]; omega
      rw [h2]
      exact Ev.neg h0 (spec_ev l v hl suf (pre ++ [x]) c (by simp [h]) (by omega) (by simp; omega))
theorem impl_ev (l : List Int) (v : Int) (hl : l.length ≤ 1048576) : ∀ (suf pre : List Int) (c : Int), l = pre ++ suf → 0 ≤ c → c ≤ pre.length → Ev (fun k => impl_FlipsToWin.l0 k l v c l (l.length : Int) (pre.length : Int)) (flips l.length (c + cnt v suf), true)
  | [], pre, c, h, hc, hp => by
    have e : pre.length = l.length := by simp [h]
    refine Ev.step (fun k => by rw [impl_FlipsToWin.l0]) ?_
    refine Ev.neg (by omega) ?_
    have e1 : wrap64 ((wrap64 ((wrap64 ((l.length : Int) / 2)) + 1)) - c) = (l.length : Int) / 2 + 1 - c := by unfold wrap64; omega
    rw [e1]
    have e2 : mx 0 ((l.length : Int) / 2 + 1 - c) = flips l.length (c + cnt v []) := by
      simp only [flips, cnt, List.filter_nil, List.length_nil, Int.natCast_zero, Int.add_zero]
      unfold mx
      split <;> split <;> omega
    rw [e2]
    exact Ev.now _
  | x :: suf, pre, c, h, hc, hp => by
    have e : pre.length < l.length := by simp [h]
    have hr : rd l (pre.length : Int) = x := by rw [h]; exact rd_mid ..
    have hn : wrap64 ((pre.length : Int) + 1) = ((pre ++ [x]).length : Int) := next_at pre x suf (by rw [← h]; exact hl)
    refine Ev.step (fun k => by rw [impl_FlipsToWin.l0]) ?_
    rw [hr, hn]
    refine Ev.pos (by omega) (Ev.pos (by omega) (Ev.pos (by omega) ?_))
    by_cases h0 : x = v
    · have h2 : c + cnt v (x :: suf) = (c + 1) + cnt v suf := by rw [cnt_cons, if_pos h0]; omega
      have h3 : wrap64 (c + 1) = c + 1 := by unfold wrap64; omega
      rw [h2, h3]
      exact Ev.pos h0 (impl_ev l v hl suf (pre ++ [x]) (c + 1) (by simp [h]) (by omega) (by simp; omega))
    · have h2 : c + cnt v (x :: suf) = c + cnt v suf := by rw [cnt_cons, if_neg h0]; omega
      rw [h2]
      exact Ev.neg h0 (impl_ev l v hl suf (pre ++ [x]) c (by simp [h]) (by omega) (by simp; omega))
theorem copy_ev (l : List Int) (hl : l.length ≤ 1048576) : ∀ (suf pre : List Int), l = pre ++ suf → Ev (fun k => laws_toIntS.l0 k l (pre ++ List.replicate suf.length 0) (pre.length : Int)) l
  | [], pre, h => by
    have e : pre.length = l.length := by simp [h]
    refine Ev.step (fun k => by rw [laws_toIntS.l0]) ?_
    refine Ev.neg (by omega) ?_
    have e1 : pre ++ List.replicate ([] : List Int).length 0 = l := by simp [h]
    rw [e1]
    exact Ev.now _
  | x :: suf, pre, h => by
    have e : pre.length < l.length := by simp [h]
    have hr : rd l (pre.length : Int) = x := by rw [h]; exact rd_mid ..
    have hn : wrap64 ((pre.length : Int) + 1) = ((pre ++ [x]).length : Int) := next_at pre x suf (by rw [← h]; exact hl)
    refine Ev.step (fun k => by rw [laws_toIntS.l0]) ?_
    rw [hr, hn]
    refine Ev.pos (by omega) (Ev.pos (by omega) (Ev.pos (by simp; omega) ?_))
    have e1 : (pre ++ List.replicate (x :: suf).length 0).set ((pre.length : Int)).toNat x = (pre ++ [x]) ++ List.replicate suf.length 0 := by
      simp [List.replicate_succ]
    rw [e1]
    exact copy_ev l hl suf (pre ++ [x]) (by simp [h])
theorem toIntS_ev (l : List Int) (hl : l.length ≤ 1048576) : Ev (fun k => laws_toIntS.f k l) l := by
  have h := copy_ev l hl l [] rfl
  unfold laws_toIntS.f
  refine Ev.pos (by omega) (Ev.pos (by omega) ?_)
  simpa using h
theorem eq_ev (l : List Int) (hl : l.length ≤ 1048576) : ∀ (suf pre : List Int), l = pre ++ suf → Ev (fun k => laws_eqIntS.l0 k l l (pre.length : Int)) true
  | [], pre, h => by
    have e : pre.length = l.length := by simp [h]
    refine Ev.step (fun k => by rw [laws_eqIntS.l0]) ?_
    exact Ev.neg (by omega) (Ev.now _)
  | x :: suf, pre, h => by
    have e : pre.length < l.length := by simp [h]
    have hn : wrap64 ((pre.length : Int) + 1) = ((pre ++ [x]).length : Int) := next_at pre x suf (by rw [← h]; exact hl)
    refine Ev.step (fun k => by rw [laws_eqIntS.l0]) ?_
    rw [hn]
    exact Ev.pos (by omega) (Ev.pos (by omega) (Ev.pos (by omega) (Ev.pos rfl (eq_ev l hl suf (pre ++ [x]) (by simp [h])))))
theorem eqIntS_ev (l : List Int) (hl : l.length ≤ 1048576) : Ev (fun k => laws_eqIntS.f k l l) true := by
  unfold laws_eqIntS.f
  exact Ev.pos rfl (eq_ev l hl l [] rfl)
def answer (l : List Int) (v : Int) : Int × Bool := if 1 ≤ l.length ∧ l.length ≤ 9 ∧ good l = true ∧ 0 ≤ v ∧ v ≤ 9 then (flips l.length (cnt v l), true) else (0, false)
theorem spec_tells (l : List Int) (v : Int) (hl : l.length ≤ 1048576) : Ev (fun k => spec_FlipsToWin.f k l v) (answer l v) := by
  have no : ¬ (1 ≤ l.length ∧ l.length ≤ 9 ∧ good l = true ∧ 0 ≤ v ∧ v ≤ 9) → Ev (fun k => spec_FlipsToWin.j0 k l v true) (answer l v) := fun h => by
    rw [answer, if_neg h]
    exact Ev.step (fun k => by rw [spec_FlipsToWin.j0]) (Ev.pos rfl (Ev.now _))
  have votes : Ev (fun k => spec_voVotes.f k l) (decide (1 ≤ l.length ∧ l.length ≤ 9) && good l) := by
    unfold spec_voVotes.f
    by_cases h : 1 ≤ l.length ∧ l.length ≤ 9
    · refine Ev.call (a := true) (by rw [spec_l1In.f, if_pos (by omega), decide_eq_true (by omega)]) (Ev.pos rfl (Ev.bind (all_ev l hl l [] rfl) ?_))
      simp only [h, and_self, decide_true, Bool.true_and]
      exact Ev.now _
    · refine Ev.call (a := false) (by simp only [spec_l1In.f]; split <;> first | rfl | (simp; omega)) (Ev.neg (by simp) ?_)
      simp only [h, decide_false, Bool.false_and]
      exact Ev.now _
  unfold spec_FlipsToWin.f
  refine Ev.bind votes ?_
  by_cases h : 1 ≤ l.length ∧ l.length ≤ 9 ∧ good l = true
  · refine Ev.pos (by simp [h]) ?_
    by_cases h1 : 0 ≤ v ∧ v ≤ 9
    · refine Ev.call (a := true) (by rw [spec_l1In.f, if_pos (by omega), decide_eq_true (by omega)]) (Ev.step (fun k => by rw [spec_FlipsToWin.j0]) (Ev.neg (by simp) ?_))
      have h2 := spec_ev l v hl l [] 0 rfl (by omega) (by simp)
      rw [answer, if_pos ⟨h.1, h.2.1, h.2.2, h1.1, h1.2⟩]
      simpa using h2
    · exact Ev.call (a := false) (by simp only [spec_l1In.f]; split <;> first | rfl | (simp; omega)) (no (fun hh => by have := hh.2.2.2; omega))
  · exact Ev.neg (by simp only [Bool.and_eq_true, decide_eq_true_eq]; intro h1; exact h ⟨h1.1.1, h1.1.2, h1.2⟩) (no (fun h1 => h ⟨h1.1, h1.2.1, h1.2.2.1⟩))
theorem impl_tells (l : List Int) (v : Int) (hl : l.length ≤ 1048576) : Ev (fun k => impl_FlipsToWin.f k l v) (answer l v) := by
  have no : ¬ (1 ≤ l.length ∧ l.length ≤ 9 ∧ good l = true ∧ 0 ≤ v ∧ v ≤ 9) → Ev (fun k => impl_FlipsToWin.j0 k l v true) (answer l v) := fun h => by
    rw [answer, if_neg h]
    exact Ev.step (fun k => by rw [impl_FlipsToWin.j0]) (Ev.pos rfl (Ev.now _))
  have votes : Ev (fun k => impl_areVotes.f k l) (decide (1 ≤ l.length ∧ l.length ≤ 9) && good l) := by
    unfold impl_areVotes.f
    by_cases h : 1 ≤ l.length
    · by_cases h1 : l.length ≤ 9
      · refine Ev.pos (by omega) (Ev.pos (by omega) (Ev.bind (dig_ev l hl l [] rfl) ?_))
        simp only [h, h1, and_self, decide_true, Bool.true_and]
        exact Ev.now _
      · refine Ev.pos (by omega) (Ev.neg (by omega) ?_)
        simp only [h1, and_false, decide_false, Bool.false_and]
        exact Ev.now _
    · refine Ev.neg (by omega) ?_
      simp only [h, false_and, decide_false, Bool.false_and]
      exact Ev.now _
  unfold impl_FlipsToWin.f
  refine Ev.bind votes ?_
  by_cases h : 1 ≤ l.length ∧ l.length ≤ 9 ∧ good l = true
  · refine Ev.pos (by simp [h]) ?_
    by_cases h0 : v < 0
    · exact Ev.pos h0 (no (fun hh => by have := hh.2.2.2; omega))
    · refine Ev.neg h0 ?_
      by_cases h1 : v > 9
      · simp only [h1, decide_true]
        exact no (fun hh => by have := hh.2.2.2; omega)
      · simp only [h1, decide_false]
        refine Ev.step (fun k => by rw [impl_FlipsToWin.j0]) (Ev.neg (by simp) ?_)
        have h2 := impl_ev l v hl l [] 0 rfl (by omega) (by simp)
        rw [answer, if_pos ⟨h.1, h.2.1, h.2.2, by omega, by omega⟩]
        simpa using h2
  · exact Ev.neg (by simp only [Bool.and_eq_true, decide_eq_true_eq]; intro h1; exact h ⟨h1.1.1, h1.1.2, h1.2⟩) (no (fun h1 => h ⟨h1.1, h1.2.1, h1.2.2.1⟩))
theorem FnExactFlipsToWin : laws_FnExactFlipsToWin.Pure := by
  intro l v _ _ _ _
  refine Ev.rounds (r := true) ?_
  unfold laws_FnExactFlipsToWin.f
  by_cases hl : (l.length : Int) > 1048576
  · exact Ev.pos hl (Ev.now _)
  · have hl' : l.length ≤ 1048576 := by omega
    refine Ev.neg hl (Ev.bind (toIntS_ev l hl') (Ev.bind (spec_tells l v hl') (Ev.bind (toIntS_ev l hl') (Ev.bind (impl_tells l v hl') (Ev.pos rfl ?_)))))
    simp only [bne_self_eq_false]
    exact Ev.step (fun k => by rw [laws_FnExactFlipsToWin.j0]) (Ev.neg (by simp) (Ev.bind (toIntS_ev l hl') (Ev.bind (eqIntS_ev l hl') (Ev.pos rfl (Ev.now _)))))

end Go.Proofs.Ytcmndffpmjinlaa.Pure
namespace Go.Proofs.Ytcmndffpmjinlaa
/-- The row calls this law by this name. -/
theorem PrintWords.sized_ints {H : Type} {enc : TypeId × Value → H} {P : Program} {W : World} {base : Nat} {spare : Nat → Bool} {held : Bool} {t e : TypeId} {k : IntKind} {a : Option Addr} {len cap : Nat} {d : DataW H} {ps : List MemPlace} {ts : List TypeId} {ds : List (DataW H)} {j : Nat}
    (hsz : (DataW.weightsEach P ts ds).all (· ≤ reachBytes) = true) (ht : ts[j]? = some t) (hd : ds[j]? = some d) (hu : P.underlying t = some (.slice e)) (he : P.underlying e = some (.int k)) (hc : P.cellsOf e = 1) {B : Nat} (hB : P.bytesOf e = B)
    (h : DataW.Trod enc P W base spare held t (.slice a len cap) d ps) : len * B ≤ 140737488351232 :=
  Go.Proofs.YtcmndffpmjinlaaW.PrintWords.sized_ints hsz ht hd hu he hc hB h
end Go.Proofs.Ytcmndffpmjinlaa
