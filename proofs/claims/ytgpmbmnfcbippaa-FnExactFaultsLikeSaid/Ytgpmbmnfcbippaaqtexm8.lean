/- The proof, part 9. -/
import Derived.Test.Ytgpmbmnfcbippaaqtexm7
set_option linter.unusedVariables false
set_option linter.unusedSimpArgs false
namespace Go.Proofs.Ytgpmbmnfcbippaa.Vs
open Go.RowKit
/-! ### Classes -/
theorem e_spec_tsClasses_4 {C : List (List (List FallD))} {n : Nat} {L : Nat → Nat} (hC : Tab C n L) (o1 : List Int) (v1 : List Int) (i j : Nat) (hi : i < C.length) (hj : j < C.length) (v12 : List (List Int)) (v13 v14 : Int) : ∀ (r pre : List Int) (same : Bool), chOK r n → (pre ++ r).length ≤ 1000 →
    Ev (fun k => f_spec_tsClasses_4 k o1 (marksM C n C.length) v1 (i : Int) (marksRow C i n) (j : Int) same v12 v13 v14 (pre ++ r) ((pre ++ r).length : Int) (pre.length : Int)) (o1, marksM C n C.length, v1, (i : Int), marksRow C i n, (j : Int), same && decide (keyC C r i = keyC C r j), v12, v13, v14)
  | [], pre, same, hr, hl => by
    refine Ev.succ ?_
    simp only [f_spec_tsClasses_4, nlt_end, decide_false, Bool.false_eq_true, if_false, keyC, List.map_nil, decide_true, Bool.and_true]
    exact Ev.some _
  | t :: r, pre, same, hr, hl => by
    obtain ⟨t0, tn⟩ := hr t (List.mem_cons_self ..)
    have ih := fun s => e_spec_tsClasses_4 hC o1 v1 i j hi hj v12 v13 v14 r (pre ++ [t]) s (fun x hx => hr x (List.mem_cons_of_mem _ hx)) (by simpa using hl)
    simp only [← shift_mid] at ih
    have h1 : t < ((marksRow C i n).length : Int) := by rw [marksRow_len]; exact tn
    have h2 : (j : Int) < ((marksM C n C.length).length : Int) := by rw [marksM_len]; omega
    have h3 : t < ((marksRow C j n).length : Int) := by rw [marksRow_len]; exact tn
    have hg1 := marksRow_get C n i t.toNat (by omega)
    have hg2 := marksRow_get C n j t.toNat (by omega)
    have hm := mark_eq (C := C) (t := t.toNat) (i := i) (j := j)
    have hk : keyC C (t :: r) i = keyC C (t :: r) j ↔ cellC C t.toNat i = cellC C t.toNat j ∧ keyC C r i = keyC C r j := by simp only [keyC, List.map_cons, List.cons.injEq]
    refine Ev.succ ?_
    simp only [f_spec_tsClasses_4, lt_mid, ge_mid, decide_true, if_true, Int.toNat_natCast, getD_mid, t0, h1, h2, marksM_get C n C.length j hj, h3, hg1, hg2]
    rw [next_mid pre t r (by omega)]
    cases same with
    | true =>
      simp only [if_true, Bool.true_and]
      refine (ih _).congr ?_
      simp only [hm, hk, Bool.decide_and]
    | false =>
      simp only [Bool.false_eq_true, if_false, Bool.false_and]
      exact (ih false).congr (by simp)
theorem e_spec_tsClasses_2 {C : List (List (List FallD))} {n : Nat} {L : Nat → Nat} (hC : Tab C n L) (ch : List Int) (hch : chOK ch n) (hl : ch.length ≤ 1000) (o1 : List Int) (i : Nat) (hi : i < C.length) (v12 : List (List Int)) (v13 v14 : Int) : ∀ (d j : Nat), j + d = i →
    Ev (fun k => f_spec_tsClasses_2 k o1 (marksM C n C.length) ch (i : Int) (marksRow C i n) (j : Int) v12 v13 v14) (o1, marksM C n C.length, ch, (fstR (keyC C ch) i d j : Int), v12, v13, v14)
  | 0, j, h => by
    obtain rfl : j = i := by omega
    refine Ev.succ ?_
    simp only [f_spec_tsClasses_2, Int.lt_irrefl, decide_false, Bool.false_eq_true, if_false, fstR]
    exact Ev.some _
  | d + 1, j, h => by
    have hcl := hC.len
    have h1 : (j : Int) < i := by omega
    have h5 : wrap64 ((j : Int) + 1) = ((j + 1 : Nat) : Int) := by rw [w64 (by omega) (by omega)]; omega
    have h8 := e_spec_tsClasses_4 hC o1 ch i j hi (by omega) v12 v13 v14 ch [] true hch (by simpa using hl)
    simp only [List.nil_append, List.length_nil, Int.natCast_zero, Bool.true_and] at h8
    have ih := e_spec_tsClasses_2 hC ch hch hl o1 i hi v12 v13 v14 d (j + 1) (by omega)
    refine Ev.succ ?_
    simp only [f_spec_tsClasses_2, h1, decide_true, if_true]
    refine Ev.bind h8 (Ev.ite (fun hh => ?_) (fun hh => ?_))
    · have hh : keyC C ch i = keyC C ch j := of_decide_eq_true hh
      simp only [fstR]
      rw [if_pos hh.symm]
      exact Ev.some _
    · have hh : ¬ keyC C ch i = keyC C ch j := fun hq => hh (decide_eq_true hq)
      simp only [fstR, h5]
      rw [if_neg (fun hq => hh hq.symm)]
      exact ih
def classI (C : List (List (List FallD))) (ch : List Int) (m : Nat) : List Int := (List.range m).map fun k => (fstOf (keyC C ch) k : Int)
theorem classI_len (C : List (List (List FallD))) (ch : List Int) (m : Nat) : (classI C ch m).length = m := by simp [classI]
theorem classI_succ (C : List (List (List FallD))) (ch : List Int) (m : Nat) : classI C ch (m + 1) = classI C ch m ++ [(fstOf (keyC C ch) m : Int)] := by simp [classI, List.range_succ]
theorem classI_get (C : List (List (List FallD))) (ch : List Int) {m k : Nat} (hk : k < m) : List.getD (classI C ch m) k 0 = (fstOf (keyC C ch) k : Int) := by simp [classI, List.getD, List.getElem?_map, List.getElem?_range hk]
theorem e_spec_tsClasses_0 {C : List (List (List FallD))} {n : Nat} {L : Nat → Nat} (hC : Tab C n L) (ch : List Int) (hch : chOK ch n) (hl : ch.length ≤ 1000) : ∀ (d i : Nat), i + d = C.length →
    Ev (fun k => f_spec_tsClasses_0 k (classI C ch i) (marksM C n C.length) ch (marksM C n C.length) (C.length : Int) (i : Int)) (classI C ch C.length)
  | 0, i, h => by
    obtain rfl : i = C.length := by omega
    refine Ev.succ ?_
    simp only [f_spec_tsClasses_0, Int.lt_irrefl, decide_false, Bool.false_eq_true, if_false]
    exact Ev.some _
  | d + 1, i, h => by
    have hcl := hC.len
    have h1 : (i : Int) < (C.length : Int) := by omega
    have h2 : (i : Int) < ((marksM C n C.length).length : Int) := by rw [marksM_len]; exact h1
    have h5 : wrap64 ((i : Int) + 1) = ((i + 1 : Nat) : Int) := by rw [w64 (by omega) (by omega)]; omega
    have hal : i + 1 ≤ 140737488355328 / 8 := by omega
    have ih := e_spec_tsClasses_0 hC ch hch hl d (i + 1) (by omega)
    rw [classI_succ] at ih
    refine Ev.succ ?_
    simp only [f_spec_tsClasses_0, h1, h2, decide_true, if_true, Int.natCast_nonneg, Int.toNat_natCast, marksM_get C n C.length i (by omega)]
    refine Ev.bind (e_spec_tsClasses_2 hC ch hch hl (classI C ch i) i (by omega) (marksM C n C.length) (C.length : Int) (i : Int) i 0 (by omega)) ?_
    simp only [List.length_singleton, classI_len, hal, if_true, h5]
    exact ih
theorem e_spec_tsClasses {C : List (List (List FallD))} {n : Nat} {L : Nat → Nat} (hC : Tab C n L) (ch : List Int) (hch : chOK ch n) (hl : ch.length ≤ 1000) : Ev (fun k => f_spec_tsClasses k (marksM C n C.length) ch) (classI C ch C.length) := by
  refine Ev.succ ?_
  simp only [f_spec_tsClasses, marksM_len]
  have h8 := e_spec_tsClasses_0 hC ch hch hl C.length 0 (by omega)
  exact Ev.bind h8 (Ev.some _)
def listF (C : List (List (List FallD))) (ch : List Int) (f m : Nat) : List Int := ((List.range m).filter fun j => decide (fstOf (keyC C ch) j = f)).map fun (j : Nat) => (j : Int) - 1
theorem listF_succ (C : List (List (List FallD))) (ch : List Int) (f m : Nat) : listF C ch f (m + 1) = listF C ch f m ++ (if fstOf (keyC C ch) m = f then [(m : Int) - 1] else []) := by
  unfold listF
  rw [List.range_succ, List.filter_append, List.map_append]
  congr 1
  by_cases h : fstOf (keyC C ch) m = f <;> simp [List.filter, h]
theorem listF_len (C : List (List (List FallD))) (ch : List Int) (f m : Nat) : (listF C ch f m).length ≤ m := by
  unfold listF
  rw [List.length_map]
  exact Nat.le_trans (List.length_filter_le _ _) (by simp)
theorem e_spec_tsLists_2 (C : List (List (List FallD))) (ch : List Int) (m : Nat) (hm : m ≤ 1000) (o1 : List (List Int)) (f : Nat) (v9 v10 : Int) : ∀ (d i : Nat), i + d = m →
    Ev (fun k => f_spec_tsLists_2 k o1 (listF C ch f i) (classI C ch m) (f : Int) v9 v10 (classI C ch m) (m : Int) (i : Int)) (o1, listF C ch f m, classI C ch m, v9, v10)
  | 0, i, h => by
    obtain rfl : i = m := by omega
    refine Ev.succ ?_
    simp only [f_spec_tsLists_2, Int.lt_irrefl, decide_false, Bool.false_eq_true, if_false]
    exact Ev.some _
  | d + 1, i, h => by
    have h1 : (i : Int) < (m : Int) := by omega
    have h2 : (i : Int) < ((classI C ch m).length : Int) := by rw [classI_len]; exact h1
    have h5 : wrap64 ((i : Int) + 1) = ((i + 1 : Nat) : Int) := by rw [w64 (by omega) (by omega)]; omega
    have h6 : wrap64 ((i : Int) - 1) = (i : Int) - 1 := by rw [w64 (by omega) (by omega)]
    have hll := listF_len C ch f i
    have hal : (listF C ch f i).length + 1 ≤ 140737488355328 / 8 := by omega
    have ih := e_spec_tsLists_2 C ch m hm o1 f v9 v10 d (i + 1) (by omega)
    rw [listF_succ] at ih
    refine Ev.succ ?_
    simp only [f_spec_tsLists_2, h1, h2, decide_true, if_true, Int.natCast_nonneg, Int.toNat_natCast, classI_get C ch (show i < m by omega), List.length_singleton, hal, h5, h6]
    refine Ev.ite (fun hh => ?_) (fun hh => ?_)
    · have hh : ((fstOf (keyC C ch) i : Nat) : Int) = f := of_decide_eq_true hh
      rw [if_pos (by omega)] at ih
      exact ih
    · have hh : ¬ ((fstOf (keyC C ch) i : Nat) : Int) = f := fun hq => hh (decide_eq_true hq)
      rw [if_neg (by omega), List.append_nil] at ih
      exact ih
def listsP (C : List (List (List FallD))) (ch : List Int) (m i : Nat) : List (List Int) := ((List.range i).map fun f => listF C ch f m).filter fun l => !l.isEmpty
theorem listsP_succ (C : List (List (List FallD))) (ch : List Int) (m i : Nat) : listsP C ch m (i + 1) = listsP C ch m i ++ (if (listF C ch i m).length > 0 then [listF C ch i m] else []) := by
  unfold listsP
  rw [List.range_succ, List.map_append, List.filter_append]
  congr 1
  cases h : listF C ch i m with
  | nil => simp [h]
  | cons x r => simp [h]
theorem listsP_len (C : List (List (List FallD))) (ch : List Int) (m i : Nat) : (listsP C ch m i).length ≤ i :=
  Nat.le_trans (List.length_filter_le _ _) (by simp)
theorem e_spec_tsLists_0 (C : List (List (List FallD))) (ch : List Int) (m : Nat) (hm : m ≤ 1000) : ∀ (d i : Nat), i + d = m →
    Ev (fun k => f_spec_tsLists_0 k (listsP C ch m i) (classI C ch m) (m : Int) (i : Int)) (listsP C ch m m)
  | 0, i, h => by
    obtain rfl : i = m := by omega
    refine Ev.succ ?_
    simp only [f_spec_tsLists_0, Int.lt_irrefl, decide_false, Bool.false_eq_true, if_false]
    exact Ev.some _
  | d + 1, i, h => by
    have h1 : (i : Int) < (m : Int) := by omega
    have h5 : wrap64 ((i : Int) + 1) = ((i + 1 : Nat) : Int) := by rw [w64 (by omega) (by omega)]; omega
    have hll := listsP_len C ch m i
    have hal : (listsP C ch m i).length + 1 ≤ 140737488355328 / 24 := by omega
    have ih := e_spec_tsLists_0 C ch m hm d (i + 1) (by omega)
    rw [listsP_succ] at ih
    have h8 := e_spec_tsLists_2 C ch m hm (listsP C ch m i) i (m : Int) (i : Int) m 0 (by omega)
    rw [show listF C ch i 0 = [] from rfl] at h8
    refine Ev.succ ?_
    simp only [f_spec_tsLists_0, h1, decide_true, if_true, classI_len]
    refine Ev.bind h8 ?_
    simp only [List.length_singleton, hal, if_true, h5]
    refine Ev.ite (fun hh => ?_) (fun hh => ?_)
    · have hh : ((listF C ch i m).length : Int) > 0 := of_decide_eq_true hh
      rw [if_pos (by omega)] at ih
      exact ih
    · have hh : ¬ ((listF C ch i m).length : Int) > 0 := fun hq => hh (decide_eq_true hq)
      rw [if_neg (by omega), List.append_nil] at ih
      exact ih
theorem e_spec_tsLists (C : List (List (List FallD))) (ch : List Int) (m : Nat) (hm : m ≤ 1000) : Ev (fun k => f_spec_tsLists k (classI C ch m)) (classesL (keyC C ch) m) := by
  have h0 : listsP C ch m m = classesL (keyC C ch) m := lists_classes (keyC C ch) m
  have h8 := e_spec_tsLists_0 C ch m hm m 0 (by omega)
  rw [h0] at h8
  refine Ev.succ ?_
  simp only [f_spec_tsLists, classI_len]
  exact Ev.bind h8 (Ev.some _)
theorem members_len {α : Type} [DecidableEq α] (key : Nat → α) (n f : Nat) : (members key n f).length ≤ n := by
  unfold members
  rw [List.length_map]
  exact Nat.le_trans (List.length_filter_le _ _) (by simp)
theorem classesL_len {α : Type} [DecidableEq α] (key : Nat → α) (n : Nat) : (classesL key n).length ≤ n := by
  unfold classesL firsts
  rw [List.length_map]
  exact Nat.le_trans (List.length_filter_le _ _) (by simp)
theorem classesL_mem {α : Type} [DecidableEq α] (key : Nat → α) (n : Nat) : ∀ x ∈ classesL key n, x.length ≤ n := by
  intro x hx
  obtain ⟨f, _, rfl⟩ := List.mem_map.1 hx
  exact members_len key n f
theorem e_impl_classesBy_2 {C : List (List (List FallD))} {n : Nat} {L : Nat → Nat} (hC : Tab C n L) (ch : List Int) (hch : chOK ch n) (hl : ch.length ≤ 1000) (i : Nat) (hi : i < C.length) (v10 v11 : Int) : ∀ (F pre : List Nat), firsts (keyC C ch) i = pre ++ F →
    Ev (fun k => f_impl_classesBy_2 k (classesL (keyC C ch) i) C ch (i : Int) (pre.length : Int) v10 v11) (classesL (keyC C ch) i, C, ch, (i : Int), ((pre.length + placeIx (keyC C ch) (keyC C ch i) F : Nat) : Int), v10, v11)
  | [], pre, h => by
    have hlen : (classesL (keyC C ch) i).length = pre.length := by unfold classesL; rw [List.length_map, h]; simp
    refine Ev.succ ?_
    simp only [f_impl_classesBy_2, hlen, Int.lt_irrefl, decide_false, Bool.false_eq_true, if_false, placeIx]
    exact Ev.some _
  | f :: F, pre, h => by
    have hcl := hC.len
    have hf : f ∈ firsts (keyC C ch) i := by rw [h]; simp
    obtain ⟨hfi, _⟩ := firsts_lt (keyC C ch) hf
    obtain ⟨r, hr⟩ := first_head (keyC C ch) hf
    have hlen : (classesL (keyC C ch) i).length = pre.length + (F.length + 1) := by unfold classesL; rw [List.length_map, h]; simp
    have hfl : (firsts (keyC C ch) i).length ≤ i := by unfold firsts; exact Nat.le_trans (List.length_filter_le _ _) (by simp)
    have hpl : pre.length ≤ i := by rw [h] at hfl; simp at hfl; omega
    have h1 : (pre.length : Int) < ((classesL (keyC C ch) i).length : Int) := by omega
    have hg : List.getD (classesL (keyC C ch) i) pre.length [] = ((f : Int) - 1) :: r := by
      unfold classesL
      rw [h]
      simp [List.getD, List.getElem?_map, hr]
    have h5 : wrap64 ((pre.length : Int) + 1) = (((pre ++ [f]).length : Nat) : Int) := by rw [w64 (by omega) (by omega)]; simp
    have h6 : wrap64 ((f : Int) - 1 + 1) = (f : Int) := by rw [w64 (by omega) (by omega)]; omega
    have h7 : (0 : Int) < ((((f : Int) - 1) :: r).length : Int) := by simp
    have h8 : (f : Int) < (C.length : Int) := by omega
    have h9 : (i : Int) < (C.length : Int) := by omega
    have ih := e_impl_classesBy_2 hC ch hch hl i hi v10 v11 F (pre ++ [f]) (by rw [h]; simp)
    refine Ev.succ ?_
    simp only [f_impl_classesBy_2, h1, decide_true, if_true, Int.natCast_nonneg, Int.toNat_natCast, hg, h7, Int.toNat_zero, List.getD_cons_zero, h6, h8, h9, h5]
    refine Ev.bind (e_impl_alikeBy hC f i (by omega) hi ch hch hl) (Ev.ite (fun hh => ?_) (fun hh => ?_))
    · have hh : ¬ keyC C ch f = keyC C ch i := nd hh
      refine ih.congr ?_
      simp only [placeIx, if_neg hh, List.length_append, List.length_singleton]
      congr 5
      omega
    · have hh : keyC C ch f = keyC C ch i := yd hh
      simp only [placeIx, if_pos hh, Nat.add_zero]
      exact Ev.some _
theorem e_impl_classesBy_0 {C : List (List (List FallD))} {n : Nat} {L : Nat → Nat} (hC : Tab C n L) (ch : List Int) (hch : chOK ch n) (hl : ch.length ≤ 1000) : ∀ (d i : Nat), i + d = C.length →
    Ev (fun k => f_impl_classesBy_0 k (classesL (keyC C ch) i) C ch (C.length : Int) (i : Int)) (classesL (keyC C ch) C.length)
  | 0, i, h => by
    obtain rfl : i = C.length := by omega
    refine Ev.succ ?_
    simp only [f_impl_classesBy_0, Int.lt_irrefl, decide_false, Bool.false_eq_true, if_false]
    exact Ev.some _
  | d + 1, i, h => by
    have hcl := hC.len
    have h1 : (i : Int) < (C.length : Int) := by omega
    have h5 : wrap64 ((i : Int) + 1) = ((i + 1 : Nat) : Int) := by rw [w64 (by omega) (by omega)]; omega
    have h6 : wrap64 ((i : Int) - 1) = (i : Int) - 1 := by rw [w64 (by omega) (by omega)]
    have hlen : (classesL (keyC C ch) i).length = (firsts (keyC C ch) i).length := by unfold classesL; rw [List.length_map]
    have hle := classesL_len (keyC C ch) i
    have hpl := placeIx_le (keyC C ch) (keyC C ch i) (firsts (keyC C ch) i)
    have ih := e_impl_classesBy_0 hC ch hch hl d (i + 1) (by omega)
    have h8 := e_impl_classesBy_2 hC ch hch hl i (by omega) (C.length : Int) (i : Int) (firsts (keyC C ch) i) [] rfl
    simp only [List.length_nil, Int.natCast_zero, Nat.zero_add] at h8
    refine Ev.succ ?_
    simp only [f_impl_classesBy_0, h1, decide_true, if_true]
    refine Ev.bind h8 ?_
    simp only [h5, h6, Int.natCast_nonneg, if_true, Int.toNat_natCast]
    refine Ev.ite (fun hh => ?_) (fun hh => ?_)
    · have hh : ((placeIx (keyC C ch) (keyC C ch i) (firsts (keyC C ch) i) : Nat) : Int) = ((classesL (keyC C ch) i).length : Int) := of_decide_eq_true hh
      have hp : placeIx (keyC C ch) (keyC C ch i) (firsts (keyC C ch) i) = (firsts (keyC C ch) i).length := by omega
      have hnew := classes_new (keyC C ch) hp
      have hp2 : placeIx (keyC C ch) (keyC C ch i) (firsts (keyC C ch) i) = (classesL (keyC C ch) i).length := by omega
      have g1 : (classesL (keyC C ch) i).length + 1 ≤ 140737488355328 / 24 := by omega
      have g2 : (((classesL (keyC C ch) i).length : Nat) : Int) < (((classesL (keyC C ch) i) ++ [[]]).length : Int) := by simp; omega
      have g3 : List.getD (classesL (keyC C ch) i ++ [[]]) (classesL (keyC C ch) i).length [] = [] := getD_mid _ _ _ _
      have g4 : ([] : List Int).length + [(i : Int) - 1].length ≤ 140737488355328 / 8 := by simp
      have g5 : List.set (classesL (keyC C ch) i ++ [[]]) (classesL (keyC C ch) i).length ([] ++ [(i : Int) - 1]) = classesL (keyC C ch) (i + 1) := by rw [set_mid, hnew]; rfl
      simp only [hp2, g1, g2, g3, g4, g5, if_true]
      exact ih
    · have hh : ¬ ((placeIx (keyC C ch) (keyC C ch i) (firsts (keyC C ch) i) : Nat) : Int) = ((classesL (keyC C ch) i).length : Int) := fun hq => hh (decide_eq_true hq)
      have hp : placeIx (keyC C ch) (keyC C ch i) (firsts (keyC C ch) i) < (firsts (keyC C ch) i).length := by omega
      have hold := classes_old (keyC C ch) hp
      have g2 : ((placeIx (keyC C ch) (keyC C ch i) (firsts (keyC C ch) i) : Nat) : Int) < ((classesL (keyC C ch) i).length : Int) := by omega
      have hm : (List.getD (classesL (keyC C ch) i) (placeIx (keyC C ch) (keyC C ch i) (firsts (keyC C ch) i)) []).length ≤ i := by
        have : List.getD (classesL (keyC C ch) i) (placeIx (keyC C ch) (keyC C ch i) (firsts (keyC C ch) i)) [] ∈ classesL (keyC C ch) i := by simp [List.getD, List.getElem?_eq_getElem (show placeIx (keyC C ch) (keyC C ch i) (firsts (keyC C ch) i) < (classesL (keyC C ch) i).length by omega)]
        exact classesL_mem _ _ _ this
      have g4 : (List.getD (classesL (keyC C ch) i) (placeIx (keyC C ch) (keyC C ch i) (firsts (keyC C ch) i)) []).length + [(i : Int) - 1].length ≤ 140737488355328 / 8 := by rw [List.length_singleton]; omega
      simp only [g2, g4, ← hold, if_true]
      exact ih
theorem e_impl_classesBy {C : List (List (List FallD))} {n : Nat} {L : Nat → Nat} (hC : Tab C n L) (ch : List Int) (hch : chOK ch n) (hl : ch.length ≤ 1000) : Ev (fun k => f_impl_classesBy k C ch) (classesL (keyC C ch) C.length) := by
  refine Ev.succ ?_
  simp only [f_impl_classesBy]
  have h8 := e_impl_classesBy_0 hC ch hch hl C.length 0 (by omega)
  exact Ev.bind h8 (Ev.some _)
def r_FaultClasses (b : BoardD) (T : List (List Int)) : List (List Int) × Bool := if (smallB b && testsOK b T) then (classesL (keyC (casesL b T) (rangeI T.length)) (casesL b T).length, true) else ([], false)
theorem e_spec_FaultClasses (b : BoardD) (T : List (List Int)) (h0 : b.2.2.length ≤ 9223372036854775806) (h1 : T.length ≤ 9223372036854775806) (hx : ∀ x ∈ T, x.length ≤ 9223372036854775806) : Ev (fun k => f_spec_FaultClasses k b T) (r_FaultClasses b T) := by
  refine Ev.succ ?_
  simp only [f_spec_FaultClasses]
  unfold r_FaultClasses
  refine Ev.bind (a := (smallB b && testsOK b T)) (e_spec_tsAsked b T h0 h1 hx) ?_
  cases g0 : (smallB b && testsOK b T) with
  | false => simp only [Bool.not_false, if_true, Bool.false_eq_true, if_false, Bool.false_and, Bool.and_false]; exact Ev.some _
  | true =>
    simp only [Bool.not_true, Bool.false_eq_true, if_false, if_true, Bool.and_self]
    obtain ⟨hb, hn, hT⟩ := tests_ok g0
    have hT1 : ∀ t ∈ T, t.length ≤ 1000 ∧ colsOK b t := fun t ht => ⟨by have := (hT t ht).1; omega, (hT t ht).2⟩
    have hC := cases_tab hb hT1
    exact Ev.bind (e_spec_tsMarks b hb T hT1 (by omega)) (Ev.bind (e_spec_tsAll T (by omega)) (Ev.bind (e_spec_tsClasses hC _ (rangeI_ok _) (by rw [rangeI_len]; omega)) (Ev.bind (e_spec_tsLists _ _ _ hC.len) (Ev.some _))))
theorem e_impl_FaultClasses (b : BoardD) (T : List (List Int)) (h0 : b.2.2.length ≤ 9223372036854775806) (h1 : T.length ≤ 9223372036854775806) (hx : ∀ x ∈ T, x.length ≤ 9223372036854775806) : Ev (fun k => f_impl_FaultClasses k b T) (r_FaultClasses b T) := by
  refine Ev.succ ?_
  simp only [f_impl_FaultClasses]
  unfold r_FaultClasses
  refine Ev.bind (a := (smallB b && testsOK b T)) (e_impl_areTests b T h0 h1 hx) ?_
  cases g0 : (smallB b && testsOK b T) with
  | false => simp only [Bool.not_false, if_true, Bool.false_eq_true, if_false, Bool.false_and, Bool.and_false]; exact Ev.some _
  | true =>
    simp only [Bool.not_true, Bool.false_eq_true, if_false, if_true, Bool.and_self]
    obtain ⟨hb, hn, hT⟩ := tests_ok g0
    have hT1 : ∀ t ∈ T, t.length ≤ 1000 ∧ colsOK b t := fun t ht => ⟨by have := (hT t ht).1; omega, (hT t ht).2⟩
    have hC := cases_tab hb hT1
    exact Ev.bind (e_impl_caseEnds b hb T hT1 (by omega)) (Ev.bind (e_impl_everyTest T (by omega)) (Ev.bind (e_impl_classesBy hC _ (rangeI_ok _) (by rw [rangeI_len]; omega)) (Ev.some _)))
theorem r_FaultClasses_len (b : BoardD) (T : List (List Int)) : (r_FaultClasses b T).1.length ≤ 271 ∧ szRows (r_FaultClasses b T).1 ≤ 73441 ∧ ∀ x ∈ (r_FaultClasses b T).1, x.length ≤ 9223372036854775806 := by
  unfold r_FaultClasses
  split
  · rename_i h
    have h1 := cases_len (tests_ok h).1 T
    have h2 := classesL_len (keyC (casesL b T) (rangeI T.length)) (casesL b T).length
    have h3 : ∀ x ∈ classesL (keyC (casesL b T) (rangeI T.length)) (casesL b T).length, x.length ≤ 271 := fun x hx => Nat.le_trans (classesL_mem _ _ x hx) h1
    have h4 := szRows_le h3
    refine ⟨Nat.le_trans h2 h1, ?_, fun x hx => by have := h3 x hx; omega⟩
    show szRows (classesL (keyC (casesL b T) (rangeI T.length)) (casesL b T).length) ≤ 73441
    omega
  · exact ⟨by simp, by simp [szRows], fun x hx => by simp at hx⟩
theorem law_FnExactFaultClasses (p0 : BoardD) (p1 : List (List Int)) (h0 : p0.2.2.length ≤ 9223372036854775807) (h1 : p1.length ≤ 9223372036854775807) (g1 : ∀ x ∈ p1, x.length ≤ 9223372036854775807) : Ev (fun k => f_laws_FnExactFaultClasses k p0 p1) true := by
  refine Ev.succ ?_
  simp only [f_laws_FnExactFaultClasses]
  refine Ev.bind (e_laws_szBoard _ _ (by first | omega | (dsimp only; omega)) (by first | omega | (dsimp only; omega)) (by first | omega | (dsimp only; omega))) ?_
  by_cases q1 : (1048576 : Int) - (p0.2.2.length : Int) < 0
  · simp only [q1, if_true]; exact Ev.some _
  simp only [q1, if_false, decide_false, Bool.false_eq_true]
  refine Ev.bind (e_laws_szIntSS _ _ (by omega) (by omega) (by omega) g1) ?_
  by_cases q2 : (1048576 : Int) - (p0.2.2.length : Int) - (p1.length : Int) < 0
  · simp only [q2, if_true]; exact Ev.some _
  simp only [q2, if_false]
  by_cases r2 : (1048576 : Int) - (p0.2.2.length : Int) - (p1.length : Int) - szRows p1 < 0
  · simp only [r2, if_true]; exact Ev.some _
  simp only [r2, if_false, decide_false, Bool.false_eq_true]
  have y1 := szRows_nonneg p1
  have u1 : ∀ x ∈ p1, x.length ≤ 1048576 := fun x hx => by have := szRows_mem hx; omega
  have v1 : ∀ x ∈ p1, x.length ≤ 9223372036854775806 := fun x hxl => by have := u1 x hxl; omega
  have es := e_spec_FaultClasses p0 p1 (by omega) (by omega) (by assumption)
  have ei := e_impl_FaultClasses p0 p1 (by omega) (by omega) (by assumption)
  obtain ⟨hr, hr2, hrv⟩ := r_FaultClasses_len p0 p1
  have hrp := szRows_nonneg (r_FaultClasses p0 p1).1
  generalize r_FaultClasses p0 p1 = R at es ei hr hr2 hrv hrp
  refine Ev.bind (e_laws_toBoard _ (by first | omega | (dsimp only; omega))) ?_
  refine Ev.bind (e_laws_toIntSS _ (by first | omega | (dsimp only; omega)) (by assumption)) ?_
  refine Ev.bind es ?_
  refine Ev.bind (e_laws_toBoard _ (by first | omega | (dsimp only; omega))) ?_
  refine Ev.bind (e_laws_toIntSS _ (by first | omega | (dsimp only; omega)) (by assumption)) ?_
  refine Ev.bind ei ?_
  refine Ev.bind (e_laws_eqIntSS _ _ (by first | omega | (dsimp only; omega)) (by assumption)) ?_
  simp only [decide_true, beq_self_eq_true, ne_eq, not_true_eq_false, decide_false, Bool.not_true, Bool.false_eq_true, if_false]
  refine Ev.bind (e_laws_toBoard _ (by first | omega | (dsimp only; omega))) ?_
  refine Ev.bind (e_laws_eqBoard _ _ (by first | omega | (dsimp only; omega))) ?_
  simp only [decide_true, beq_self_eq_true, ne_eq, not_true_eq_false, decide_false, Bool.not_true, Bool.false_eq_true, if_false]
  refine Ev.bind (e_laws_toIntSS _ (by first | omega | (dsimp only; omega)) (by assumption)) ?_
  refine Ev.bind (e_laws_eqIntSS _ _ (by first | omega | (dsimp only; omega)) (by assumption)) ?_
  simp only [decide_true, beq_self_eq_true, ne_eq, not_true_eq_false, decide_false, Bool.not_true, Bool.false_eq_true, if_false]
  refine Ev.bind (e_laws_markBoard _ _ (by first | omega | (dsimp only; omega)) (by first | omega | (dsimp only; omega))) ?_
  try dsimp only
  refine Ev.bind (e_laws_markIntSS _ _ (by first | omega | (dsimp only; omega)) (by first | omega | (dsimp only; omega)) (by first | omega | (dsimp only; omega))) ?_
  try dsimp only
  refine Ev.ite (fun h => by simp only [decide_eq_true_eq] at h; omega) (fun h => ?_)
  refine Ev.bind (e_laws_eqIntSS _ _ (by first | omega | (dsimp only; omega)) (by assumption)) ?_
  simp only [decide_true, beq_self_eq_true, ne_eq, not_true_eq_false, decide_false, Bool.not_true, Bool.false_eq_true, if_false]
  refine Ev.bind (e_laws_markIntSS _ _ (by first | omega | (dsimp only; omega)) (by first | omega | (dsimp only; omega)) (by first | omega | (dsimp only; omega))) ?_
  try dsimp only
  refine Ev.bind (e_laws_heldIntSS _ _ (by first | omega | (dsimp only; omega)) (by first | omega | (dsimp only; omega)) (by first | omega | (dsimp only; omega))) ?_
  try dsimp only
  refine Ev.ite (fun h => by simp only [decide_eq_true_eq] at h; omega) (fun h => ?_)
  simp only [decide_true, beq_self_eq_true, ne_eq, not_true_eq_false, decide_false, Bool.not_true, Bool.false_eq_true, if_false]
  refine Ev.bind (e_laws_toBoard _ (by first | omega | (dsimp only; omega))) ?_
  refine Ev.bind (e_laws_toIntSS _ (by first | omega | (dsimp only; omega)) (by assumption)) ?_
  refine Ev.bind ei ?_
  refine Ev.bind (e_laws_eqIntSS _ _ (by first | omega | (dsimp only; omega)) (by assumption)) ?_
  simp only [decide_true, beq_self_eq_true, ne_eq, not_true_eq_false, decide_false, Bool.not_true, Bool.false_eq_true, if_false]
  refine Ev.bind (e_laws_heldIntSS _ _ (by first | omega | (dsimp only; omega)) (by first | omega | (dsimp only; omega)) (by first | omega | (dsimp only; omega))) ?_
  try dsimp only
  refine Ev.ite (fun h => by simp only [decide_eq_true_eq] at h; omega) (fun h => ?_)
  simp only [decide_true, beq_self_eq_true, ne_eq, not_true_eq_false, decide_false, Bool.not_true, Bool.false_eq_true, if_false]
  exact Ev.some _
/-! ### Cases with given ends -/
def likeC (C : List (List (List FallD))) (E : List (List FallD)) (n k : Nat) : Bool := (List.range n).all fun t => decide (cellC C t k = List.getD E t [])
def likes (C : List (List (List FallD))) (E : List (List FallD)) (n m : Nat) : List Int := ((List.range m).filter (likeC C E n)).map fun (j : Nat) => (j : Int) - 1
theorem likes_succ (C : List (List (List FallD))) (E : List (List FallD)) (n m : Nat) : likes C E n (m + 1) = likes C E n m ++ (if likeC C E n m then [(m : Int) - 1] else []) := by
  unfold likes
  rw [List.range_succ, List.filter_append, List.map_append]
  congr 1
  cases h : likeC C E n m <;> simp [List.filter, h]
theorem likes_len (C : List (List (List FallD))) (E : List (List FallD)) (n m : Nat) : (likes C E n m).length ≤ m := by
  unfold likes
  rw [List.length_map]
  exact Nat.le_trans (List.length_filter_le _ _) (by simp)
theorem e_spec_FaultsLike_0 (b : BoardD) (T0 : List (List Int)) (E0 : List (List FallD)) : ∀ (r pre : List (List Int)) (s pre' : List (List FallD)), s.length = r.length → pre'.length = pre.length → (pre ++ r).length ≤ 1000 → Ev (fun k => f_spec_FaultsLike_0 k b.1 b.2.1 b.2.2 T0 (pre' ++ s) (pre ++ r) ((pre ++ r).length : Int) (pre.length : Int)) (if r.map List.length = s.map List.length then LR.go (b.1, b.2.1, b.2.2, T0, pre' ++ s) else LR.ret ([], false))
  | [], pre, s, pre', h, hp, hl => by
    obtain rfl : s = [] := List.eq_nil_of_length_eq_zero h
    refine Ev.succ ?_
    simp only [f_spec_FaultsLike_0, nlt_end, decide_false, Bool.false_eq_true, if_false, List.map_nil, if_true]
    exact Ev.some _
  | x :: r, pre, [], pre', h, hp, hl => by simp at h
  | x :: r, pre, y :: s, pre', h, hp, hl => by
    have ih := e_spec_FaultsLike_0 b T0 E0 r (pre ++ [x]) s (pre' ++ [y]) (by simpa using h) (by simpa using hp) (by simpa using hl)
    have l2 : (pre.length : Int) < ((pre' ++ y :: s).length : Int) := by rw [← hp]; exact lt_mid _ _ _
    have g2 : List.getD (pre' ++ y :: s) pre.length [] = y := by rw [← hp]; exact getD_mid _ _ _ _
    refine Ev.succ ?_
    simp only [f_spec_FaultsLike_0, lt_mid, ge_mid, l2, decide_true, if_true, Int.toNat_natCast, getD_mid, g2]
    rw [next_mid pre x r (by omega)]
    rw [← shift_mid, ← shift_mid] at ih
    refine Ev.ite (fun hh => ?_) (fun hh => ?_)
    · have hh : (y.length : Int) ≠ (x.length : Int) := of_decide_eq_true hh
      rw [if_neg (by simp; intro h9; omega)]
      exact Ev.some _
    · have hh : y.length = x.length := by
        by_cases h9 : (y.length : Int) ≠ (x.length : Int)
        · exact (hh (decide_eq_true h9)).elim
        · omega
      refine ih.congr ?_
      simp [hh]
theorem e_spec_FaultsLike_4 {C : List (List (List FallD))} {n : Nat} {L : Nat → Nat} (hC : Tab C n L) (hn : n ≤ 1000) (E : List (List FallD)) (hE : E.length = n) (hEL : ∀ t, t < n → (List.getD E t []).length = L t) (T : List (List Int)) (o1 : List Int) (i : Nat) (hi : i < C.length) (v45 v46 : Int) : ∀ (d t : Nat) (like : Bool), t + d = n →
    Ev (fun k => f_spec_FaultsLike_4 k o1 C T E (i : Int) (i : Int) like v45 v46 (n : Int) (t : Int)) (o1, C, T, E, (i : Int), like && (List.range' t d).all (fun t => decide (cellC C t i = List.getD E t [])), v45, v46)
  | 0, t, like, h => by
    obtain rfl : t = n := by omega
    refine Ev.succ ?_
    simp only [f_spec_FaultsLike_4, Int.lt_irrefl, decide_false, Bool.false_eq_true, if_false, List.range'_zero, List.all_nil, Bool.and_true]
    exact Ev.some _
  | d + 1, t, like, h => by
    have h1 : (t : Int) < n := by omega
    have h2 : (t : Int) < ((List.getD C i []).length : Int) := by rw [hC.row i hi]; exact h1
    have h3 : (t : Int) < (E.length : Int) := by omega
    have h5 : wrap64 ((t : Int) + 1) = ((t + 1 : Nat) : Int) := by rw [w64 (by omega) (by omega)]; omega
    have c1 := hC.cell i t hi (by omega)
    have c2 := hEL t (by omega)
    have c3 := hC.small t (by omega)
    have ih := fun s => e_spec_FaultsLike_4 hC hn E hE hEL T o1 i hi v45 v46 d (t + 1) s (by omega)
    refine Ev.succ ?_
    simp only [f_spec_FaultsLike_4, h1, h2, h3, h5, decide_true, if_true, Int.natCast_nonneg, Int.toNat_natCast]
    cases like with
    | true =>
      simp only [if_true, Bool.true_and]
      have hdn := diffIx_none 0 (cellC C t i) (List.getD E t []) (by unfold cellC; omega)
      refine Ev.bind (e_spec_faSame _ _ (by omega) (by omega)) ?_
      refine (ih _).congr ?_
      have hq : decide (ixOf (diffIx 0 (List.getD (List.getD C i []) t []) (List.getD E t [])) < 0) = decide (cellC C t i = List.getD E t []) := decide_eq_decide.2 ((ix_neg _).trans hdn)
      rw [hq]
      simp only [List.range'_succ, List.all_cons]
    | false =>
      simp only [Bool.false_eq_true, if_false, Bool.false_and]
      exact (ih false).congr (by simp)
theorem e_spec_FaultsLike_2 {C : List (List (List FallD))} {n : Nat} {L : Nat → Nat} (hC : Tab C n L) (hn : n ≤ 1000) (E : List (List FallD)) (hE : E.length = n) (hEL : ∀ t, t < n → (List.getD E t []).length = L t) (T : List (List Int)) (hT : T.length = n) : ∀ (d i : Nat), i + d = C.length →
    Ev (fun k => f_spec_FaultsLike_2 k (likes C E n i) C T E (C.length : Int) (i : Int)) (likes C E n C.length)
  | 0, i, h => by
    obtain rfl : i = C.length := by omega
    refine Ev.succ ?_
    simp only [f_spec_FaultsLike_2, Int.lt_irrefl, decide_false, Bool.false_eq_true, if_false]
    exact Ev.some _
  | d + 1, i, h => by
    have hcl := hC.len
    have h1 : (i : Int) < (C.length : Int) := by omega
    have h5 : wrap64 ((i : Int) + 1) = ((i + 1 : Nat) : Int) := by rw [w64 (by omega) (by omega)]; omega
    have h6 : wrap64 ((i : Int) - 1) = (i : Int) - 1 := by rw [w64 (by omega) (by omega)]
    have hll := likes_len C E n i
    have hal : (likes C E n i).length + 1 ≤ 140737488355328 / 8 := by omega
    have ih := e_spec_FaultsLike_2 hC hn E hE hEL T hT d (i + 1) (by omega)
    rw [likes_succ] at ih
    have h8 := e_spec_FaultsLike_4 hC hn E hE hEL T (likes C E n i) i (by omega) (C.length : Int) (i : Int) n 0 true (by omega)
    rw [← List.range_eq_range', Bool.true_and, show (List.range n).all (fun t => decide (cellC C t i = List.getD E t [])) = likeC C E n i from rfl] at h8
    refine Ev.succ ?_
    simp only [f_spec_FaultsLike_2, h1, decide_true, if_true, Int.natCast_nonneg, hT]
    refine Ev.bind h8 ?_
    simp only [List.length_singleton, hal, if_true, h5, h6]
    refine Ev.ite (fun hh => ?_) (fun hh => ?_)
    · have hh : likeC C E n i = true := hh
      rw [if_pos hh] at ih
      exact ih
    · have hh : ¬ likeC C E n i = true := hh
      rw [if_neg hh, List.append_nil] at ih
      exact ih
theorem e_impl_FaultsLike_0 (b : BoardD) (T0 : List (List Int)) (E0 : List (List FallD)) : ∀ (r pre : List (List Int)) (s pre' : List (List FallD)), s.length = r.length → pre'.length = pre.length → (pre ++ r).length ≤ 1000 → Ev (fun k => f_impl_FaultsLike_0 k b.1 b.2.1 b.2.2 T0 (pre' ++ s) (pre ++ r) ((pre ++ r).length : Int) (pre.length : Int)) (if r.map List.length = s.map List.length then LR.go (b.1, b.2.1, b.2.2, T0, pre' ++ s) else LR.ret ([], false))
  | [], pre, s, pre', h, hp, hl => by
    obtain rfl : s = [] := List.eq_nil_of_length_eq_zero h
    refine Ev.succ ?_
    simp only [f_impl_FaultsLike_0, nlt_end, decide_false, Bool.false_eq_true, if_false, List.map_nil, if_true]
    exact Ev.some _
  | x :: r, pre, [], pre', h, hp, hl => by simp at h
  | x :: r, pre, y :: s, pre', h, hp, hl => by
    have ih := e_impl_FaultsLike_0 b T0 E0 r (pre ++ [x]) s (pre' ++ [y]) (by simpa using h) (by simpa using hp) (by simpa using hl)
    have l2 : (pre.length : Int) < ((pre' ++ y :: s).length : Int) := by rw [← hp]; exact lt_mid _ _ _
    have g2 : List.getD (pre' ++ y :: s) pre.length [] = y := by rw [← hp]; exact getD_mid _ _ _ _
    refine Ev.succ ?_
    simp only [f_impl_FaultsLike_0, lt_mid, ge_mid, l2, decide_true, if_true, Int.toNat_natCast, getD_mid, g2]
    rw [next_mid pre x r (by omega)]
    rw [← shift_mid, ← shift_mid] at ih
    refine Ev.ite (fun hh => ?_) (fun hh => ?_)
    · have hh : (y.length : Int) ≠ (x.length : Int) := of_decide_eq_true hh
      rw [if_neg (by simp; intro h9; omega)]
      exact Ev.some _
    · have hh : y.length = x.length := by
        by_cases h9 : (y.length : Int) ≠ (x.length : Int)
        · exact (hh (decide_eq_true h9)).elim
        · omega
      refine ih.congr ?_
      simp [hh]
theorem e_impl_FaultsLike_4 {C : List (List (List FallD))} {n : Nat} {L : Nat → Nat} (hC : Tab C n L) (hn : n ≤ 1000) (E : List (List FallD)) (hE : E.length = n) (hEL : ∀ t, t < n → (List.getD E t []).length = L t) (T : List (List Int)) (o1 : List Int) (i : Nat) (hi : i < C.length) (v45 v46 : Int) : ∀ (d t : Nat) (like : Bool), t + d = n →
    Ev (fun k => f_impl_FaultsLike_4 k o1 C T E (i : Int) (i : Int) like v45 v46 (n : Int) (t : Int)) (o1, C, T, E, (i : Int), like && (List.range' t d).all (fun t => decide (cellC C t i = List.getD E t [])), v45, v46)
  | 0, t, like, h => by
    obtain rfl : t = n := by omega
    refine Ev.succ ?_
    simp only [f_impl_FaultsLike_4, Int.lt_irrefl, decide_false, Bool.false_eq_true, if_false, List.range'_zero, List.all_nil, Bool.and_true]
    exact Ev.some _
  | d + 1, t, like, h => by
    have h1 : (t : Int) < n := by omega
    have h2 : (t : Int) < ((List.getD C i []).length : Int) := by rw [hC.row i hi]; exact h1
    have h3 : (t : Int) < (E.length : Int) := by omega
    have h5 : wrap64 ((t : Int) + 1) = ((t + 1 : Nat) : Int) := by rw [w64 (by omega) (by omega)]; omega
    have c1 := hC.cell i t hi (by omega)
    have c2 := hEL t (by omega)
    have c3 := hC.small t (by omega)
    have ih := fun s => e_impl_FaultsLike_4 hC hn E hE hEL T o1 i hi v45 v46 d (t + 1) s (by omega)
    refine Ev.succ ?_
    simp only [f_impl_FaultsLike_4, h1, h2, h3, h5, decide_true, if_true, Int.natCast_nonneg, Int.toNat_natCast]
    cases like with
    | true =>
      simp only [if_true, Bool.true_and]
      refine Ev.bind (e_slices_Equal_impl_Fall_impl_Fall _ _ (by omega)) ?_
      refine (ih _).congr ?_
      simp only [List.range'_succ, List.all_cons]
      rfl
    | false =>
      simp only [Bool.false_eq_true, if_false, Bool.false_and]
      exact (ih false).congr (by simp)
theorem e_impl_FaultsLike_2 {C : List (List (List FallD))} {n : Nat} {L : Nat → Nat} (hC : Tab C n L) (hn : n ≤ 1000) (E : List (List FallD)) (hE : E.length = n) (hEL : ∀ t, t < n → (List.getD E t []).length = L t) (T : List (List Int)) (hT : T.length = n) : ∀ (d i : Nat), i + d = C.length →
    Ev (fun k => f_impl_FaultsLike_2 k (likes C E n i) C T E (C.length : Int) (i : Int)) (likes C E n C.length)
  | 0, i, h => by
    obtain rfl : i = C.length := by omega
    refine Ev.succ ?_
    simp only [f_impl_FaultsLike_2, Int.lt_irrefl, decide_false, Bool.false_eq_true, if_false]
    exact Ev.some _
  | d + 1, i, h => by
    have hcl := hC.len
    have h1 : (i : Int) < (C.length : Int) := by omega
    have h5 : wrap64 ((i : Int) + 1) = ((i + 1 : Nat) : Int) := by rw [w64 (by omega) (by omega)]; omega
    have h6 : wrap64 ((i : Int) - 1) = (i : Int) - 1 := by rw [w64 (by omega) (by omega)]
    have hll := likes_len C E n i
    have hal : (likes C E n i).length + 1 ≤ 140737488355328 / 8 := by omega
    have ih := e_impl_FaultsLike_2 hC hn E hE hEL T hT d (i + 1) (by omega)
    rw [likes_succ] at ih
    have h8 := e_impl_FaultsLike_4 hC hn E hE hEL T (likes C E n i) i (by omega) (C.length : Int) (i : Int) n 0 true (by omega)
    rw [← List.range_eq_range', Bool.true_and, show (List.range n).all (fun t => decide (cellC C t i = List.getD E t [])) = likeC C E n i from rfl] at h8
    refine Ev.succ ?_
    simp only [f_impl_FaultsLike_2, h1, decide_true, if_true, Int.natCast_nonneg, hT]
    refine Ev.bind h8 ?_
    simp only [List.length_singleton, hal, if_true, h5, h6]
    refine Ev.ite (fun hh => ?_) (fun hh => ?_)
    · have hh : likeC C E n i = true := hh
      rw [if_pos hh] at ih
      exact ih
    · have hh : ¬ likeC C E n i = true := hh
      rw [if_neg hh, List.append_nil] at ih
      exact ih
def r_FaultsLike (b : BoardD) (T : List (List Int)) (E : List (List FallD)) : List Int × Bool := if (smallB b && testsOK b T) then (if T.map List.length = E.map List.length then (likes (casesL b T) E T.length (casesL b T).length, true) else ([], false)) else ([], false)
theorem e_spec_FaultsLike (b : BoardD) (T : List (List Int)) (E : List (List FallD)) (h0 : b.2.2.length ≤ 9223372036854775806) (h1 : T.length ≤ 9223372036854775806) (hx : ∀ x ∈ T, x.length ≤ 9223372036854775806) : Ev (fun k => f_spec_FaultsLike k b T E) (r_FaultsLike b T E) := by
  refine Ev.succ ?_
  simp only [f_spec_FaultsLike]
  unfold r_FaultsLike
  refine Ev.bind (a := (smallB b && testsOK b T)) (e_spec_tsAsked b T h0 h1 hx) ?_
  cases g0 : (smallB b && testsOK b T) with
  | false => simp only [Bool.not_false, if_true, Bool.false_eq_true, if_false, Bool.false_and, Bool.and_false]; exact Ev.some _
  | true =>
    simp only [Bool.not_true, Bool.false_eq_true, if_false, if_true, Bool.and_self]
    obtain ⟨hb, hn, hT⟩ := tests_ok g0
    have hT1 : ∀ t ∈ T, t.length ≤ 1000 ∧ colsOK b t := fun t ht => ⟨by have := (hT t ht).1; omega, (hT t ht).2⟩
    have hC := cases_tab hb hT1
    refine Ev.ite (fun hh => ?_) (fun hh => ?_)
    · have hh : (E.length : Int) ≠ (T.length : Int) := of_decide_eq_true hh
      rw [if_neg (fun h9 => hh (by have := congrArg List.length h9; simp at this; omega))]
      exact Ev.some _
    have hEl : E.length = T.length := by
      by_cases h9 : (E.length : Int) ≠ (T.length : Int)
      · exact (hh (decide_eq_true h9)).elim
      · omega
    have h8 := e_spec_FaultsLike_0 b T E T [] E [] hEl rfl (by simp; omega)
    simp only [List.nil_append, List.length_nil, Int.natCast_zero] at h8
    refine Ev.bind h8 ?_
    by_cases h9 : T.map List.length = E.map List.length
    · rw [if_pos h9, if_pos h9]
      have hEL : ∀ t, t < T.length → (List.getD E t []).length = (List.getD T t []).length := fun t ht => by
        have := congrArg (fun l => List.getD l t 0) h9
        simp only [List.getD, List.getElem?_map, List.getElem?_eq_getElem ht, List.getElem?_eq_getElem (show t < E.length by omega), Option.map_some, Option.getD_some] at this ⊢
        exact this.symm
      refine Ev.go (Ev.bind (e_spec_tsCases b hb T hT1 (by omega)) ?_)
      exact Ev.bind (e_spec_FaultsLike_2 hC (by omega) E hEl hEL T rfl (casesL b T).length 0 (by omega)) (Ev.some _)
    · rw [if_neg h9, if_neg h9]
      exact Ev.ret (Ev.some _)
theorem e_impl_FaultsLike (b : BoardD) (T : List (List Int)) (E : List (List FallD)) (h0 : b.2.2.length ≤ 9223372036854775806) (h1 : T.length ≤ 9223372036854775806) (hx : ∀ x ∈ T, x.length ≤ 9223372036854775806) : Ev (fun k => f_impl_FaultsLike k b T E) (r_FaultsLike b T E) := by
  refine Ev.succ ?_
  simp only [f_impl_FaultsLike]
  unfold r_FaultsLike
  refine Ev.bind (a := (smallB b && testsOK b T)) (e_impl_areTests b T h0 h1 hx) ?_
  cases g0 : (smallB b && testsOK b T) with
  | false => simp only [Bool.not_false, if_true, Bool.false_eq_true, if_false, Bool.false_and, Bool.and_false]; exact Ev.some _
  | true =>
    simp only [Bool.not_true, Bool.false_eq_true, if_false, if_true, Bool.and_self]
    obtain ⟨hb, hn, hT⟩ := tests_ok g0
    have hT1 : ∀ t ∈ T, t.length ≤ 1000 ∧ colsOK b t := fun t ht => ⟨by have := (hT t ht).1; omega, (hT t ht).2⟩
    have hC := cases_tab hb hT1
    refine Ev.ite (fun hh => ?_) (fun hh => ?_)
    · have hh : (E.length : Int) ≠ (T.length : Int) := of_decide_eq_true hh
      rw [if_neg (fun h9 => hh (by have := congrArg List.length h9; simp at this; omega))]
      exact Ev.some _
    have hEl : E.length = T.length := by
      by_cases h9 : (E.length : Int) ≠ (T.length : Int)
      · exact (hh (decide_eq_true h9)).elim
      · omega
    have h8 := e_impl_FaultsLike_0 b T E T [] E [] hEl rfl (by simp; omega)
    simp only [List.nil_append, List.length_nil, Int.natCast_zero] at h8
    refine Ev.bind h8 ?_
    by_cases h9 : T.map List.length = E.map List.length
    · rw [if_pos h9, if_pos h9]
      have hEL : ∀ t, t < T.length → (List.getD E t []).length = (List.getD T t []).length := fun t ht => by
        have := congrArg (fun l => List.getD l t 0) h9
        simp only [List.getD, List.getElem?_map, List.getElem?_eq_getElem ht, List.getElem?_eq_getElem (show t < E.length by omega), Option.map_some, Option.getD_some] at this ⊢
        exact this.symm
      refine Ev.go (Ev.bind (e_impl_caseEnds b hb T hT1 (by omega)) ?_)
      exact Ev.bind (e_impl_FaultsLike_2 hC (by omega) E hEl hEL T rfl (casesL b T).length 0 (by omega)) (Ev.some _)
    · rw [if_neg h9, if_neg h9]
      exact Ev.ret (Ev.some _)
theorem r_FaultsLike_len (b : BoardD) (T : List (List Int)) (E : List (List FallD)) : (r_FaultsLike b T E).1.length ≤ 271 := by
  unfold r_FaultsLike
  split
  · rename_i h
    have h1 := cases_len (tests_ok h).1 T
    split
    · exact Nat.le_trans (likes_len _ _ _ _) h1
    · simp
  · simp
theorem law_FnExactFaultsLike (p0 : BoardD) (p1 : List (List Int)) (p2 : List (List FallD)) (h0 : p0.2.2.length ≤ 9223372036854775807) (h1 : p1.length ≤ 9223372036854775807) (g1 : ∀ x ∈ p1, x.length ≤ 9223372036854775807) (h2 : p2.length ≤ 9223372036854775807) (g2 : ∀ x ∈ p2, x.length ≤ 9223372036854775807) : Ev (fun k => f_laws_FnExactFaultsLike k p0 p1 p2) true := by
  refine Ev.succ ?_
  simp only [f_laws_FnExactFaultsLike]
  refine Ev.bind (e_laws_szBoard _ _ (by first | omega | (dsimp only; omega)) (by first | omega | (dsimp only; omega)) (by first | omega | (dsimp only; omega))) ?_
  by_cases q1 : (1048576 : Int) - (p0.2.2.length : Int) < 0
  · simp only [q1, if_true]; exact Ev.some _
  simp only [q1, if_false, decide_false, Bool.false_eq_true]
  refine Ev.bind (e_laws_szIntSS _ _ (by omega) (by omega) (by omega) g1) ?_
  by_cases q2 : (1048576 : Int) - (p0.2.2.length : Int) - (p1.length : Int) < 0
  · simp only [q2, if_true]; exact Ev.some _
  simp only [q2, if_false]
  by_cases r2 : (1048576 : Int) - (p0.2.2.length : Int) - (p1.length : Int) - szRows p1 < 0
  · simp only [r2, if_true]; exact Ev.some _
  simp only [r2, if_false, decide_false, Bool.false_eq_true]
  have y1 := szRows_nonneg p1
  have u1 : ∀ x ∈ p1, x.length ≤ 1048576 := fun x hx => by have := szRows_mem hx; omega
  have v1 : ∀ x ∈ p1, x.length ≤ 9223372036854775806 := fun x hxl => by have := u1 x hxl; omega
  refine Ev.bind (e_laws_szFallSS _ _ (by omega) (by omega) (by omega) g2) ?_
  by_cases q3 : (1048576 : Int) - (p0.2.2.length : Int) - (p1.length : Int) - szRows p1 - (p2.length : Int) < 0
  · simp only [q3, if_true]; exact Ev.some _
  simp only [q3, if_false]
  by_cases r3 : (1048576 : Int) - (p0.2.2.length : Int) - (p1.length : Int) - szRows p1 - (p2.length : Int) - szRows p2 < 0
  · simp only [r3, if_true]; exact Ev.some _
  simp only [r3, if_false, decide_false, Bool.false_eq_true]
  have y2 := szRows_nonneg p2
  have u2 : ∀ x ∈ p2, x.length ≤ 1048576 := fun x hx => by have := szRows_mem hx; omega
  have v2 : ∀ x ∈ p2, x.length ≤ 9223372036854775806 := fun x hxl => by have := u2 x hxl; omega
  have es := e_spec_FaultsLike p0 p1 p2 (by omega) (by omega) (by assumption)
  have ei := e_impl_FaultsLike p0 p1 p2 (by omega) (by omega) (by assumption)
  have hr := r_FaultsLike_len p0 p1 p2
  generalize r_FaultsLike p0 p1 p2 = R at es ei hr
  refine Ev.bind (e_laws_toBoard _ (by first | omega | (dsimp only; omega))) ?_
  refine Ev.bind (e_laws_toIntSS _ (by first | omega | (dsimp only; omega)) (by assumption)) ?_
  refine Ev.bind (e_laws_toFallSS _ (by first | omega | (dsimp only; omega)) (by assumption)) ?_
  refine Ev.bind es ?_
  refine Ev.bind (e_laws_toBoard _ (by first | omega | (dsimp only; omega))) ?_
  refine Ev.bind (e_laws_toIntSS _ (by first | omega | (dsimp only; omega)) (by assumption)) ?_
  refine Ev.bind (e_laws_toFallSS _ (by first | omega | (dsimp only; omega)) (by assumption)) ?_
  refine Ev.bind ei ?_
  refine Ev.bind (e_laws_eqIntS _ _ (by first | omega | (dsimp only; omega))) ?_
  simp only [decide_true, beq_self_eq_true, ne_eq, not_true_eq_false, decide_false, Bool.not_true, Bool.false_eq_true, if_false]
  refine Ev.bind (e_laws_toBoard _ (by first | omega | (dsimp only; omega))) ?_
  refine Ev.bind (e_laws_eqBoard _ _ (by first | omega | (dsimp only; omega))) ?_
  simp only [decide_true, beq_self_eq_true, ne_eq, not_true_eq_false, decide_false, Bool.not_true, Bool.false_eq_true, if_false]
  refine Ev.bind (e_laws_toIntSS _ (by first | omega | (dsimp only; omega)) (by assumption)) ?_
  refine Ev.bind (e_laws_eqIntSS _ _ (by first | omega | (dsimp only; omega)) (by assumption)) ?_
  simp only [decide_true, beq_self_eq_true, ne_eq, not_true_eq_false, decide_false, Bool.not_true, Bool.false_eq_true, if_false]
  refine Ev.bind (e_laws_toFallSS _ (by first | omega | (dsimp only; omega)) (by assumption)) ?_
  refine Ev.bind (e_laws_eqFallSS _ _ (by first | omega | (dsimp only; omega)) (by assumption)) ?_
  simp only [decide_true, beq_self_eq_true, ne_eq, not_true_eq_false, decide_false, Bool.not_true, Bool.false_eq_true, if_false]
  refine Ev.bind (e_laws_markBoard _ _ (by first | omega | (dsimp only; omega)) (by first | omega | (dsimp only; omega))) ?_
  try dsimp only
  refine Ev.bind (e_laws_markIntSS _ _ (by first | omega | (dsimp only; omega)) (by first | omega | (dsimp only; omega)) (by first | omega | (dsimp only; omega))) ?_
  try dsimp only
  refine Ev.bind (e_laws_markFallSS _ _ (by first | omega | (dsimp only; omega)) (by first | omega | (dsimp only; omega)) (by first | omega | (dsimp only; omega))) ?_
  try dsimp only
  refine Ev.ite (fun h => by simp only [decide_eq_true_eq] at h; omega) (fun h => ?_)
  refine Ev.bind (e_laws_eqIntS _ _ (by first | omega | (dsimp only; omega))) ?_
  simp only [decide_true, beq_self_eq_true, ne_eq, not_true_eq_false, decide_false, Bool.not_true, Bool.false_eq_true, if_false]
  refine Ev.bind (e_laws_markIntS _ _ (by first | omega | (dsimp only; omega)) (by first | omega | (dsimp only; omega))) ?_
  try dsimp only
  refine Ev.bind (e_laws_heldIntS _ _ (by first | omega | (dsimp only; omega)) (by first | omega | (dsimp only; omega))) ?_
  try dsimp only
  refine Ev.ite (fun h => by simp only [decide_eq_true_eq] at h; omega) (fun h => ?_)
  simp only [decide_true, beq_self_eq_true, ne_eq, not_true_eq_false, decide_false, Bool.not_true, Bool.false_eq_true, if_false]
  refine Ev.bind (e_laws_toBoard _ (by first | omega | (dsimp only; omega))) ?_
  refine Ev.bind (e_laws_toIntSS _ (by first | omega | (dsimp only; omega)) (by assumption)) ?_
  refine Ev.bind (e_laws_toFallSS _ (by first | omega | (dsimp only; omega)) (by assumption)) ?_
  refine Ev.bind ei ?_
  refine Ev.bind (e_laws_eqIntS _ _ (by first | omega | (dsimp only; omega))) ?_
  simp only [decide_true, beq_self_eq_true, ne_eq, not_true_eq_false, decide_false, Bool.not_true, Bool.false_eq_true, if_false]
  refine Ev.bind (e_laws_heldIntS _ _ (by first | omega | (dsimp only; omega)) (by first | omega | (dsimp only; omega))) ?_
  try dsimp only
  refine Ev.ite (fun h => by simp only [decide_eq_true_eq] at h; omega) (fun h => ?_)
  simp only [decide_true, beq_self_eq_true, ne_eq, not_true_eq_false, decide_false, Bool.not_true, Bool.false_eq_true, if_false]
  exact Ev.some _
end Go.Proofs.Ytgpmbmnfcbippaa.Vs
