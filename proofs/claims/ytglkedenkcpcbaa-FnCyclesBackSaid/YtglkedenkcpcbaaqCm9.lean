/- The proof, part 10. -/
import Derived.Test.YtglkedenkcpcbaaqCm8
set_option linter.unusedVariables false
set_option linter.unusedSimpArgs false
namespace Go.Proofs.Ytglkedenkcpcbaa.Vs
open Go.RowKit
def afterN (b : BoardD) (c n : Int) : List CellD := (fallOf b (groupsOf b) (kindsB b []) c (stateN b n)).2
def nextN (b : BoardD) (c n : Int) : Int := numP (bitsP (afterN b c n) (unitsP b))
def nextL (b : BoardD) (c : Int) : List Int := (List.range (2 ^ (unitsP b).length)).map fun (n : Nat) => nextN b c (n : Int)
theorem Z6J (b : BoardD) (c : Int) : (nextL b c).length = 2 ^ (unitsP b).length := by simp [nextL]
theorem Zb9 (b : BoardD) (hb : boardOK b = true) (c n : Int) : (∀ x ∈ afterN b c n, cellOK x = true) ∧ (afterN b c n).map Prod.fst = b.2.2.map Prod.fst ∧ (afterN b c n).length = b.2.2.length := by
 have h := Z9Z b hb n
 have h2 := (ZAT b (groupsOf b) (kindsB b []) c h.1).trans h.2
 exact ⟨Zst b (groupsOf b) (kindsB b []) c h.1, h2, Z9T h2⟩
theorem ZAs (b : BoardD) (hb : boardOK b = true) (c n : Int) : boardOK (b.1, b.2.1, afterN b c n) = true := Zvu hb (Zb9 b hb c n).2.2 (Zb9 b hb c n).1
theorem ZlX (b : BoardD) (hb : boardOK b = true) (c n : Int) : unitsP (b.1, b.2.1, afterN b c n) = unitsP b := Zfa (b := (b.1, b.2.1, afterN b c n)) (b' := b) rfl rfl (Zb9 b hb c n).2.1
theorem ZyM (b : BoardD) (hb : boardOK b = true) (c n : Int) : nextN b c n = numB (b.1, b.2.1, afterN b c n) := by
 unfold nextN numB
 rw [ZlX b hb]
theorem ZuN (b : BoardD) (hb : boardOK b = true) (c n : Int) : 0 ≤ nextN b c n ∧ nextN b c n < 2 ^ (unitsP b).length := by
 rw [ZyM b hb]
 have := Z7H (b.1, b.2.1, afterN b c n) (ZAs b hb c n)
 rw [ZlX b hb] at this
 exact this
theorem ZdO {u : Nat} (h : u ≤ 10) : 0 < 2 ^ u ∧ 2 ^ u ≤ 1024 := ⟨Nat.two_pow_pos u, by have : 2 ^ u ≤ 2 ^ 10 := Nat.pow_le_pow_right (by omega) h; omega⟩
theorem small40 {m : Nat} (h : m ≤ 1024) : (m : Int) < 1099511627776 := by omega
theorem Z4X (u : Nat) : ((2 ^ u : Nat) : Int) = (2 : Int) ^ u := by simp
theorem ZBU (b : BoardD) (hb : boardOK b = true) (c : Int) : ∀ x ∈ nextL b c, 0 ≤ x ∧ x < ((nextL b c).length : Int) := by
 intro x hx
 obtain ⟨n, hn, rfl⟩ := List.mem_map.1 hx
 have := ZuN b hb c n
 rw [Z6J, Z4X]
 exact this
theorem ZjJ (b : BoardD) (hb : boardOK b = true) (c : Int) (hc : 0 ≤ c) (hc2 : c < b.2.1) : Ev (fun k => Z9N k b c) ((fallOf b (groupsOf b) (kindsB b []) c b.2.2).1, b.1, b.2.1, (fallOf b (groupsOf b) (kindsB b []) c b.2.2).2) := by
 obtain ⟨p, hp⟩ := ZBD b hb (groupsOf b) (Z3j b) c hc hc2
 refine Ev.succ ?_
 simp only [Z9N, Z6O, Z6P]
 refine Ev.bind (Ev.bind (Zlg b hb) (Ev.bind hp (Ev.some _))) ?_
 exact Ev.bind (Ev.some _) (Ev.some _)
theorem Zls (b : BoardD) (hb : boardOK b = true) (hu : (unitsP b).length ≤ 10) : Ev (fun k => ZbE k b) ((2 ^ (unitsP b).length : Nat) : Int) := by
 refine Ev.succ ?_
 simp only [ZbE]
 refine Ev.bind (Z5Y b hb) ?_
 rw [ZvF (Int.natCast_nonneg _) (by omega), ZC1 (by omega), Z4X]
 exact Ev.some _
theorem ZwB (f : Nat → Int) (m : Nat) : (List.range m).map f ++ [f m] = (List.range (m + 1)).map f := by rw [List.range_succ]; simp
theorem Zlx (b : BoardD) (hb : boardOK b = true) (hu : (unitsP b).length ≤ 10) (c : Int) (hc : 0 ≤ c) (hc2 : c < b.2.1) : ∀ (r m : Nat), m + r = 2 ^ (unitsP b).length →
    Ev (fun k => Z6Q k b.1 b.2.1 b.2.2 ((List.range m).map fun (n : Nat) => nextN b c (n : Int)) c (m : Int)) (nextL b c)
  | 0, m, hm => by
    refine Ev.succ ?_
    simp only [Z6Q]
    refine Ev.bind (Zls b hb hu) ?_
    have : ¬ (m : Int) < ((2 ^ (unitsP b).length : Nat) : Int) := by omega
    simp only [this, decide_false, Bool.false_eq_true, if_false]
    refine (Ev.some _).congr ?_
    rw [Nat.add_zero] at hm
    rw [hm]; rfl
  | r + 1, m, hm => by
    have hp := ZdO hu
    have hlt : (m : Int) < ((2 ^ (unitsP b).length : Nat) : Int) := by omega
    have hml : m + 1 ≤ 140737488355328 / 8 := by omega
    have hw : wrap64 ((m : Int) + 1) = ((m + 1 : Nat) : Int) := by rw [w64 (by omega) (by omega)]; omega
    have hrun := ZjJ (b.1, b.2.1, stateN b m) (Zrd b hb m) c hc hc2
    rw [ZpV b hb, ZuK (b := (b.1, b.2.1, stateN b m)) (b' := b) rfl (Zay b m), ZuL (b := (b.1, b.2.1, stateN b m)) (b' := b) rfl rfl] at hrun
    have hnum := Z93 (b.1, b.2.1, afterN b c m) (ZAs b hb c m) (by rw [ZlX b hb]; omega)
    refine Ev.succ ?_
    simp only [Z6Q]
    refine Ev.bind (Zls b hb hu) ?_
    simp only [hlt, decide_true, if_true]
    refine Ev.bind (ZBH b hb (by omega) m (Int.natCast_nonneg _) (by omega)) (Ev.bind hrun (Ev.bind hnum ?_))
    simp only [List.length_map, List.length_range, List.length_singleton, hml, if_true]
    rw [show numP (bitsP (b.1, b.2.1, afterN b c m).2.2 (unitsP (b.1, b.2.1, afterN b c m))) = nextN b c m from (ZyM b hb c m).symm, ZwB (fun (n : Nat) => nextN b c (n : Int)) m, hw]
    exact Zlx b hb hu c hc hc2 r (m + 1) (by omega)
theorem ZdG (b : BoardD) (hb : boardOK b = true) (hu : (unitsP b).length ≤ 10) (c : Int) (hc : 0 ≤ c) (hc2 : c < b.2.1) : Ev (fun k => Z7l k b c) (nextL b c) := by
 refine Ev.succ ?_
 simp only [Z7l]
 exact Ev.bind (Zlx b hb hu c hc hc2 _ 0 (Nat.zero_add _)) (Ev.some _)
theorem Zeu (b1 b2 : Int) (b3 : List CellD) (o3 : List Int) (o4 : List (List Int)) (d1 d2 : Int) (o : List CellD) (v8 v9 v10 : Int) (v21 : List Int) (v22 v23 v39 v40 : Int) : ∀ (r pre : List (List Int)) (done rest : List Int), Heads r o.length → (pre ++ r).length ≤ 1000 → done.length = pre.length → rest.length = r.length →
    Ev (fun k => Z38 k b1 b2 b3 (pre ++ r) o3 o4 d1 d2 o (done ++ rest) v8 v9 v10 v21 v22 v23 v39 v40 ((pre ++ r).length : Int) (pre.length : Int)) (b1, b2, b3, pre ++ r, o3, o4, done ++ bitsP o r, v8, v9, v10, v21, v22, v23, v39, v40)
  | [], pre, done, rest, hh, hl, hd, hr => by
    obtain rfl : rest = [] := List.eq_nil_of_length_eq_zero hr
    refine Ev.succ ?_
    simp only [Z38, Zx, decide_false, Bool.false_eq_true, if_false, bitsP, List.map_nil]
    exact Ev.some _
  | u :: r, pre, done, [], hh, hl, hd, hr => by simp at hr
  | u :: r, pre, done, y :: rest, hh, hl, hd, hr => by
    obtain ⟨p1, p2, p3⟩ := hh u (List.mem_cons_self ..)
    have p1' : (0 : Int) < (u.length : Int) := by omega
    have hlt2 : (pre.length : Int) < ((done ++ y :: rest).length : Int) := by simp; omega
    have hset : List.set (done ++ y :: rest) pre.length (bitOf o u) = (done ++ [bitOf o u]) ++ rest := by rw [← hd, Za6]; simp
    have ih := Zeu b1 b2 b3 o3 o4 d1 d2 o v8 v9 v10 v21 v22 v23 v39 v40 r (pre ++ [u]) (done ++ [bitOf o u]) rest (fun v hv => hh v (List.mem_cons_of_mem _ hv)) (by simpa using hl) (by simp [hd]) (by simpa using hr)
    refine Ev.succ ?_
    simp only [Z38, Zk, ZA, decide_true, if_true, Int.toNat_natCast, Za, Int.toNat_zero, p1', p2, p3, hlt2]
    rw [show (List.getD o (List.getD u 0 0).toNat (0, 0)).2 = bitOf o u from rfl, hset, Zj pre u r (by omega)]
    rw [← Z6] at ih
    refine ih.congr ?_
    simp [bitsP]
theorem Zej (b : BoardD) (hb : boardOK b = true) (hu : (unitsP b).length ≤ 10) (c : Int) (hc : 0 ≤ c) (hc2 : c < b.2.1) (A B : List (List Int)) (v21 : List Int) (v22 v23 : Int) : ∀ (r m : Nat) (rest : List Int), m + r = 2 ^ (unitsP b).length → rest.length = r →
    Ev (fun k => Z39 k b.1 b.2.1 b.2.2 (unitsP b) (groupsOf b) (A ++ (((List.range m).map fun (n : Nat) => nextN b c (n : Int)) ++ rest) :: B) (A.length : Int) c v21 v22 v23 ((2 ^ (unitsP b).length : Nat) : Int) (m : Int)) (b.1, b.2.1, b.2.2, unitsP b, groupsOf b, A ++ nextL b c :: B, v21, v22, v23)
  | 0, m, rest, hm, hr => by
    obtain rfl : rest = [] := List.eq_nil_of_length_eq_zero hr
    refine Ev.succ ?_
    have : ¬ (m : Int) < ((2 ^ (unitsP b).length : Nat) : Int) := by omega
    simp only [Z39, this, decide_false, Bool.false_eq_true, if_false]
    refine (Ev.some _).congr ?_
    rw [Nat.add_zero] at hm
    rw [hm, List.append_nil]; rfl
  | r + 1, m, [], hm, hr => by simp at hr
  | r + 1, m, y :: rest, hm, hr => by
    obtain ⟨g1, g2, g3, g4, g5, g6⟩ := Zr hb
    have hpp := ZU g1 g2 g3 g4
    have hp := ZdO hu
    have hlt : (m : Int) < ((2 ^ (unitsP b).length : Nat) : Int) := by omega
    have hw : wrap64 ((m : Int) + 1) = ((m + 1 : Nat) : Int) := by rw [w64 (by omega) (by omega)]; omega
    have hul : (unitsP b).length * 8 ≤ 281474976710656 := by omega
    have hm40 : (m : Int) < 1099511627776 := small40 (Nat.le_trans (Nat.le.intro hm) hp.2)
    obtain ⟨p, hdrop⟩ := Zun b hb (groupsOf b) (Z3j b) c hc hc2 (stateN b m) (Zay b m) (Z9Z b hb m).1
    have h4 := Zeu b.1 b.2.1 b.2.2 (groupsOf b) (A ++ (((List.range m).map fun (n : Nat) => nextN b c (n : Int)) ++ y :: rest) :: B) b.1 b.2.1 (afterN b c m) (A.length : Int) c (m : Int) v21 v22 v23 ((2 ^ (unitsP b).length : Nat) : Int) (m : Int) (unitsP b) [] [] (List.replicate (unitsP b).length 0) (by rw [(Zb9 b hb c m).2.2]; exact (ZO b).heads) (by simp; omega) rfl (by simp)
    have hbits : ∀ x ∈ bitsP (afterN b c m) (unitsP b), isBit x := ZbM (fun x hx => Zg5 ((Zb9 b hb c m).1 x hx)) (by rw [(Zb9 b hb c m).2.2]; exact ZO b)
    have hAl : (A.length : Int) < ((A ++ (((List.range m).map fun (n : Nat) => nextN b c (n : Int)) ++ y :: rest) :: B).length : Int) := by simp; omega
    have hml : (m : Int) < ((((List.range m).map fun (n : Nat) => nextN b c (n : Int)) ++ y :: rest).length : Int) := by simp; omega
    have hset : List.set (((List.range m).map fun (n : Nat) => nextN b c (n : Int)) ++ y :: rest) m (nextN b c m) = ((List.range (m + 1)).map fun (n : Nat) => nextN b c (n : Int)) ++ rest := by
      have := Za6 ((List.range m).map fun (n : Nat) => nextN b c (n : Int)) y (nextN b c m) rest
      rw [List.length_map, List.length_range] at this
      rw [this, ← ZwB (fun (n : Nat) => nextN b c (n : Int)) m]
      simp
    refine Ev.succ ?_
    simp only [Z39, hlt, decide_true, if_true]
    refine Ev.bind (Zea b (by omega)) ?_
    refine Ev.bind (Zy6 (m : Int) (Int.natCast_nonneg m) hm40 (unitsP b).length (Nat.le_trans hu (by decide))) ?_
    refine Ev.bind (Zyb b.1 b.2.1 b.2.2 (unitsP b) _ (ZO b) (Z4b hb) (Zlv b hb) (by omega) (Z6D _ _)) ?_
    refine Ev.bind hdrop ?_
    simp only [Int.toNat_natCast, hul, if_true]
    refine Ev.bind h4 ?_
    simp only [List.nil_append, ZA, hAl, if_true]
    refine Ev.bind (Z8S _ hbits (by rw [Z8K]; omega)) ?_
    simp only [Int.toNat_natCast, Za, Int.natCast_nonneg, hml, if_true]
    rw [show numP (bitsP (afterN b c m) (unitsP b)) = nextN b c m from rfl, hset, Za6, hw]
    exact Zej b hb hu c hc hc2 A B v21 v22 v23 r (m + 1) rest (by omega) (by simpa using hr)
theorem Zez (b : BoardD) (hb : boardOK b = true) (hu : (unitsP b).length ≤ 10) : ∀ (r pre : List Int), colsOK b r → (pre ++ r).length ≤ 1000 → ∀ (A B : List (List Int)), A.length = pre.length → B.length = r.length →
    Ev (fun k => Z3d k b.1 b.2.1 b.2.2 (unitsP b) (groupsOf b) (A ++ B) (pre ++ r) ((pre ++ r).length : Int) (pre.length : Int)) (A ++ r.map (nextL b))
  | [], pre, hc, hl, A, B, hA, hB => by
    obtain rfl : B = [] := List.eq_nil_of_length_eq_zero hB
    refine Ev.succ ?_
    simp only [Z3d, Zx, decide_false, Bool.false_eq_true, if_false]
    exact Ev.some _
  | c :: r, pre, hc, hl, A, [], hA, hB => by simp at hB
  | c :: r, pre, hc, hl, A, y :: B, hA, hB => by
    obtain ⟨k1, k2⟩ := hc c (List.mem_cons_self ..)
    have hp := ZdO hu
    have h1 : (0 : Int) ≤ 2 ^ (unitsP b).length := by rw [← Z4X]; omega
    have h2 : (2 ^ (unitsP b).length) * 8 ≤ 281474976710656 := by omega
    have h3 : (pre.length : Int) < ((A ++ y :: B).length : Int) := by simp; omega
    have htn : Int.toNat ((2 : Int) ^ (unitsP b).length) = 2 ^ (unitsP b).length := by rw [← Z4X, Int.toNat_natCast]
    have hset : List.set (A ++ y :: B) pre.length (List.replicate (2 ^ (unitsP b).length) 0) = A ++ List.replicate (2 ^ (unitsP b).length) 0 :: B := by rw [← hA, Za6]
    have h4 : (pre.length : Int) < ((A ++ List.replicate (2 ^ (unitsP b).length) (0 : Int) :: B).length : Int) := by simp; omega
    have hget : List.getD (A ++ List.replicate (2 ^ (unitsP b).length) (0 : Int) :: B) pre.length [] = List.replicate (2 ^ (unitsP b).length) 0 := by rw [← hA]; exact Za _ _ _ _
    have ih := Zez b hb hu r (pre ++ [c]) (fun x hx => hc x (List.mem_cons_of_mem _ hx)) (by simpa using hl) (A ++ [nextL b c]) B (by simp [hA]) (by simpa using hB)
    refine Ev.succ ?_
    simp only [Z3d, Zk, ZA, decide_true, if_true, Int.toNat_natCast, Za, ZC1 (u := (unitsP b).length) (by omega), h1, htn, h2, h3, hset, h4, hget, List.length_replicate]
    have h2' := Zej b hb hu c k1 k2 A B (pre ++ c :: r) ((pre ++ c :: r).length : Int) (pre.length : Int) (2 ^ (unitsP b).length) 0 (List.replicate (2 ^ (unitsP b).length) 0) (by omega) (by simp)
    simp only [List.range_zero, List.map_nil, List.nil_append, hA] at h2'
    refine Ev.bind h2' ?_
    simp only
    rw [Zj pre c r (by omega)]
    rw [← Z6, ← Z6] at ih
    refine ih.congr ?_
    simp
theorem Z8f (b : BoardD) (hb : boardOK b = true) (hu : (unitsP b).length ≤ 10) (t : List Int) (hc : colsOK b t) (ht : t.length ≤ 1000) : Ev (fun k => Z2Z k b t) (t.map (nextL b)) := by
 have hm : t.length * 24 ≤ 281474976710656 := by omega
 refine Ev.succ ?_
 simp only [Z2Z]
 refine Ev.bind (Za7 b hb) (Ev.bind (Zbd b hb) ?_)
 simp only [Int.toNat_natCast, hm, if_true]
 exact Ev.bind (Zez b hb hu t [] hc (by simpa using ht) [] (List.replicate t.length []) rfl (by simp)) (Ev.some _)
end Go.Proofs.Ytglkedenkcpcbaa.Vs

set_option linter.unusedVariables false
set_option linter.unusedSimpArgs false
namespace Go.Proofs.Ytglkedenkcpcbaa.Vs
open Go.RowKit
end Go.Proofs.Ytglkedenkcpcbaa.Vs

set_option linter.unusedVariables false
set_option linter.unusedSimpArgs false
namespace Go.Proofs.Ytglkedenkcpcbaa.Vs
open Go.RowKit
def backOK (b : BoardD) (c : Int) : Bool := boardOK b && decide (0 ≤ c ∧ c < b.2.1) && decide ((unitsP b).length ≤ 10)
theorem Z8y {b : BoardD} {c : Int} (h : backOK b c = true) : boardOK b = true ∧ 0 ≤ c ∧ c < b.2.1 ∧ (unitsP b).length ≤ 10 := by
 simp only [backOK, Bool.and_eq_true, decide_eq_true_eq] at h
 exact ⟨h.1.1, h.1.2.1, h.1.2.2, h.2⟩
theorem Zfq (b : BoardD) (c : Int) (hl : b.2.2.length ≤ 9223372036854775806) : Ev (fun k => Z88 k b c) (backOK b c) := by
 refine Ev.succ ?_
 simp only [Z88]
 refine Ev.bind (ZjI b c hl) ?_
 unfold backOK
 cases h : boardOK b && decide (0 ≤ c ∧ c < b.2.1) with
 | false => simp only [Bool.false_eq_true, if_false, Bool.false_and]; exact Ev.some _
 | true =>
  have hb : boardOK b = true := by simp only [Bool.and_eq_true] at h; exact h.1
  simp only [if_true, Bool.true_and]
  refine Ev.bind (Z5Y b hb) ?_
  refine (Ev.some _).congr ?_
  simp only [decide_eq_decide]
  omega
theorem Zbq (b : BoardD) (c : Int) (hl : b.2.2.length ≤ 9223372036854775806) : Ev (fun k => Z4S k b c) (backOK b c) := by
 refine Ev.succ ?_
 simp only [Z4S]
 refine Ev.bind (ZhF b c hl) ?_
 unfold backOK
 cases h : boardOK b && decide (0 ≤ c ∧ c < b.2.1) with
 | false => simp only [Bool.false_eq_true, if_false, Bool.false_and]; exact Ev.some _
 | true =>
  have hb : boardOK b = true := by simp only [Bool.and_eq_true] at h; exact h.1
  simp only [if_true, Bool.true_and]
  refine Ev.bind (Za7 b hb) ?_
  refine (Ev.some _).congr ?_
  simp only [decide_eq_decide]
  omega
def trip (next : List Int) (to : Int) : Nat → Int → Int → Option Int
 | 0, _, _ => none
 | r + 1, at', n => if List.getD next at'.toNat 0 = to then some n else trip next to r (List.getD next at'.toNat 0) (n + 1)
def inside (next : List Int) : Prop := ∀ x ∈ next, 0 ≤ x ∧ x < (next.length : Int)
theorem ZgY {next : List Int} (h : inside next) {i : Int} (h0 : 0 ≤ i) (h1 : i < (next.length : Int)) : 0 ≤ List.getD next i.toNat 0 ∧ List.getD next i.toNat 0 < (next.length : Int) := h _ (Zat (by omega) 0)
theorem Zyt (next : List Int) (to : Int) : ∀ (r : Nat) (i n x : Int), trip next to r i n = some x → n ≤ x
 | 0, _, _, _, h => by cases h
 | r + 1, i, n, x, h => by
  simp only [trip] at h
  split at h
  ·injection h with h; omega
  ·have := Zyt next to r _ _ _ h; omega
theorem ZgD (next : List Int) (to : Int) (hn : inside next) (hl : next.length ≤ 1000000) : ∀ (r : Nat) (at' : Int) (n : Nat), n + r = next.length + 1 → 0 ≤ at' → at' < (next.length : Int) → Ev (fun k => Z4w k next to at' (n : Int)) (match trip next to r at' n with | some x => LR.ret (x, true) | none => LR.go ())
 | 0, at', n, h, h0, h1 => by
  refine Ev.succ ?_
  have : ¬ (n : Int) ≤ (next.length : Int) := by omega
  simp only [Z4w, this, decide_false, Bool.false_eq_true, if_false, trip]
  exact Ev.some _
 | r + 1, at', n, h, h0, h1 => by
  have hle : (n : Int) ≤ (next.length : Int) := by omega
  have hin := ZgY hn h0 h1
  have hw : wrap64 ((n : Int) + 1) = ((n + 1 : Nat) : Int) := by rw [w64 (by omega) (by omega)]; omega
  refine Ev.succ ?_
  simp only [Z4w, hle, decide_true, if_true, h0, h1, trip]
  by_cases ha : List.getD next at'.toNat 0 = to
  ·simp only [ha, decide_true, if_true]; exact Ev.some _
  ·simp only [ha, decide_false, Bool.false_eq_true, if_false, hw]
   exact ZgD next to hn hl r _ (n + 1) (by omega) hin.1 hin.2
theorem Zjf (next : List Int) (to : Int) (hn : inside next) (hl : next.length ≤ 1000000) : ∀ (r : Nat) (at' : Int) (n : Nat), n + r = next.length + 1 → 0 ≤ at' → at' < (next.length : Int) → Ev (fun k => Z5J k next to at' (n : Int)) (match trip next to r at' n with | some x => LR.ret x | none => LR.go ())
 | 0, at', n, h, h0, h1 => by
  refine Ev.succ ?_
  have : ¬ (n : Int) ≤ (next.length : Int) := by omega
  simp only [Z5J, this, decide_false, Bool.false_eq_true, if_false, trip]
  exact Ev.some _
 | r + 1, at', n, h, h0, h1 => by
  have hle : (n : Int) ≤ (next.length : Int) := by omega
  have hin := ZgY hn h0 h1
  have hw : wrap64 ((n : Int) + 1) = ((n + 1 : Nat) : Int) := by rw [w64 (by omega) (by omega)]; omega
  refine Ev.succ ?_
  simp only [Z5J, hle, decide_true, if_true, h0, h1, trip]
  by_cases ha : List.getD next at'.toNat 0 = to
  ·simp only [ha, decide_true, if_true]; exact Ev.some _
  ·simp only [ha, decide_false, Bool.false_eq_true, if_false, hw]
   exact Zjf next to hn hl r _ (n + 1) (by omega) hin.1 hin.2
theorem Zei (next : List Int) (hn : inside next) (hl : next.length ≤ 1000000) (at' to : Int) (h0 : 0 ≤ at') (h1 : at' < (next.length : Int)) : Ev (fun k => Z5L k next at' to) (match trip next to next.length at' 1 with | some x => (x, true) | none => (0, false)) := by
 have h := ZgD next to hn hl next.length at' 1 (by omega) h0 h1
 refine Ev.succ ?_
 simp only [Z5L]
 refine Ev.bind h ?_
 cases ht : trip next to next.length at' 1 with
 | none => simp only [show ((1 : Nat) : Int) = 1 from rfl, ht]; exact Ev.go (Ev.some _)
 | some x => simp only [show ((1 : Nat) : Int) = 1 from rfl, ht]; exact Ev.ret (Ev.some _)
theorem ZmV (next : List Int) (hn : inside next) (hl : next.length ≤ 1000000) (at' : Int) (h0 : 0 ≤ at') (h1 : at' < (next.length : Int)) : Ev (fun k => Za1 k next at') (match trip next at' next.length at' 1 with | some x => x | none => 0) := by
 have h := Zjf next at' hn hl next.length at' 1 (by omega) h0 h1
 refine Ev.succ ?_
 simp only [Za1]
 refine Ev.bind h ?_
 cases ht : trip next at' next.length at' 1 with
 | none => simp only [show ((1 : Nat) : Int) = 1 from rfl, ht]; exact Ev.go (Ev.some _)
 | some x => simp only [show ((1 : Nat) : Int) = 1 from rfl, ht]; exact Ev.ret (Ev.some _)
def onCycle (next : List Int) (m : Int) : Bool := (trip next m next.length m 1).isSome
def cycL (next : List Int) : Nat → Int → List Int
 | 0, _ => []
 | r + 1, m => (if onCycle next m then [m] else []) ++ cycL next r (m + 1)
theorem ZoI (next : List Int) : ∀ (r : Nat) (m : Int), (cycL next r m).length ≤ r
 | 0, _ => Nat.le_refl _
 | r + 1, m => by
  have := ZoI next r (m + 1)
  simp only [cycL, List.length_append]
  split <;> simp <;> omega
theorem Z8t (next : List Int) (hn : inside next) (hl : next.length ≤ 1000000) : ∀ (r m : Nat) (o : List Int), m + r = next.length → o.length ≤ m → Ev (fun k => Z1r k [next] o 0 (next.length : Int) (m : Int)) (o ++ cycL next r m)
 | 0, m, o, h, ho => by
  refine Ev.succ ?_
  have : ¬ (m : Int) < (next.length : Int) := by omega
  simp only [Z1r, this, decide_false, Bool.false_eq_true, if_false, cycL, List.append_nil]
  exact Ev.some _
 | r + 1, m, o, h, ho => by
  have hlt : (m : Int) < (next.length : Int) := by omega
  have hw : wrap64 ((m : Int) + 1) = ((m + 1 : Nat) : Int) := by rw [w64 (by omega) (by omega)]; omega
  have hol : o.length + 1 ≤ 140737488355328 / 8 := by omega
  refine Ev.succ ?_
  simp only [Z1r, hlt, decide_true, if_true]
  refine Ev.bind (Zei next hn hl m m (Int.natCast_nonneg _) hlt) ?_
  cases ht : trip next m next.length m 1 with
  | none =>
   have hc : onCycle next m = false := by simp [onCycle, ht]
   simp only [Bool.false_eq_true, if_false, hw]
   refine (Z8t next hn hl r (m + 1) o (by omega) (by omega)).congr ?_
   simp [cycL, hc]
  | some x =>
   have hc : onCycle next m = true := by simp [onCycle, ht]
   simp only [if_true, List.length_singleton, hol, hw]
   refine (Z8t next hn hl r (m + 1) (o ++ [(m : Int)]) (by omega) (by simp; omega)).congr ?_
   simp [cycL, hc]
theorem Z8n (next : List Int) (hn : inside next) (hl : next.length ≤ 1000000) : ∀ (r m : Nat) (o : List Int), m + r = next.length → o.length ≤ m → Ev (fun k => Z1s k next o (next.length : Int) (m : Int)) (o ++ cycL next r m)
 | 0, m, o, h, ho => by
  refine Ev.succ ?_
  have : ¬ (m : Int) < (next.length : Int) := by omega
  simp only [Z1s, this, decide_false, Bool.false_eq_true, if_false, cycL, List.append_nil]
  exact Ev.some _
 | r + 1, m, o, h, ho => by
  have hlt : (m : Int) < (next.length : Int) := by omega
  have hw : wrap64 ((m : Int) + 1) = ((m + 1 : Nat) : Int) := by rw [w64 (by omega) (by omega)]; omega
  have hol : o.length + 1 ≤ 140737488355328 / 8 := by omega
  refine Ev.succ ?_
  simp only [Z1s, hlt, decide_true, if_true]
  refine Ev.bind (ZmV next hn hl m (Int.natCast_nonneg _) hlt) ?_
  cases ht : trip next m next.length m 1 with
  | none =>
   have hc : onCycle next m = false := by simp [onCycle, ht]
   simp only [show ¬ ((0 : Int) > 0) by omega, decide_false, Bool.false_eq_true, if_false, hw]
   refine (Z8n next hn hl r (m + 1) o (by omega) (by omega)).congr ?_
   simp [cycL, hc]
  | some x =>
   have hc : onCycle next m = true := by simp [onCycle, ht]
   have hx : x > 0 := by have := Zyt next m _ _ _ _ ht; omega
   simp only [hx, decide_true, if_true, List.length_singleton, hol, hw]
   refine (Z8n next hn hl r (m + 1) (o ++ [(m : Int)]) (by omega) (by simp; omega)).congr ?_
   simp [cycL, hc]
theorem Z4N (b : BoardD) (hb : boardOK b = true) (c : Int) : inside (nextL b c) := ZBU b hb c
theorem Z4K (b : BoardD) (hu : (unitsP b).length ≤ 10) (c : Int) : (nextL b c).length ≤ 1024 ∧ 0 < (nextL b c).length := by
 have := ZdO hu
 rw [Z6J]
 omega
def Z4g (b : BoardD) (c : Int) : List Int × Bool := if backOK b c then (cycL (nextL b c) (nextL b c).length 0, true) else ([], false)
theorem ZmI (b : BoardD) (c : Int) (h0 : b.2.2.length ≤ 9223372036854775806) : Ev (fun k => Z6S k b c) (Z4g b c) := by
 refine Ev.succ ?_
 simp only [Z6S]
 unfold Z4g
 refine Ev.bind (Zbq b c h0) ?_
 cases g0 : backOK b c with
 | false => simp only [Bool.not_false, if_true, Bool.false_eq_true, if_false]; exact Ev.some _
 | true =>
  obtain ⟨hb, k1, k2, hu⟩ := Z8y g0
  have hs := Z4K b hu c
  simp only [Bool.not_true, Bool.false_eq_true, if_false, if_true]
  refine Ev.bind (Z8f b hb hu [c] (fun x hx => by rw [List.mem_singleton.1 hx]; exact ⟨k1, k2⟩) (by simp)) ?_
  have hl : (0 : Int) < ((List.map (nextL b) [c]).length : Int) := by simp
  have hg : List.getD (List.map (nextL b) [c]) (Int.toNat 0) [] = nextL b c := rfl
  simp only [hl, if_true, hg]
  have h := Z8t (nextL b c) (Z4N b hb c) (by omega) (nextL b c).length 0 [] (by omega) (Nat.le_refl _)
  exact Ev.bind h (Ev.some _)
theorem ZnP (b : BoardD) (c : Int) (h0 : b.2.2.length ≤ 9223372036854775806) : Ev (fun k => Z7a k b c) (Z4g b c) := by
 refine Ev.succ ?_
 simp only [Z7a]
 unfold Z4g
 refine Ev.bind (Zfq b c h0) ?_
 cases g0 : backOK b c with
 | false => simp only [Bool.not_false, if_true, Bool.false_eq_true, if_false]; exact Ev.some _
 | true =>
  obtain ⟨hb, k1, k2, hu⟩ := Z8y g0
  have hs := Z4K b hu c
  simp only [Bool.not_true, Bool.false_eq_true, if_false, if_true]
  refine Ev.bind (ZdG b hb hu c k1 k2) ?_
  have h := Z8n (nextL b c) (Z4N b hb c) (by omega) (nextL b c).length 0 [] (by omega) (Nat.le_refl _)
  exact Ev.bind h (Ev.some _)
theorem ZCj (b : BoardD) (c : Int) : (Z4g b c).1.length ≤ 1024 := by
 unfold Z4g
 split
 ·rename_i h
  obtain ⟨hb, k1, k2, hu⟩ := Z8y h
  have h1 := ZoI (nextL b c) (nextL b c).length 0
  have h2 := Z4K b hu c
  simp only
  omega
 ·simp
end Go.Proofs.Ytglkedenkcpcbaa.Vs

set_option linter.unusedVariables false
set_option linter.unusedSimpArgs false
namespace Go.Proofs.Ytglkedenkcpcbaa.Vs
open Go.RowKit
end Go.Proofs.Ytglkedenkcpcbaa.Vs

set_option linter.unusedVariables false
set_option linter.unusedSimpArgs false
namespace Go.Proofs.Ytglkedenkcpcbaa.Vs
open Go.RowKit
end Go.Proofs.Ytglkedenkcpcbaa.Vs

set_option linter.unusedVariables false
set_option linter.unusedSimpArgs false
namespace Go.Proofs.Ytglkedenkcpcbaa.Vs
open Go.RowKit
section
variable {code : List Int} {at' seed : Int}
theorem Zx3 (b : BoardD) (h : Cur code at' 6) : EvP (fun k => Z1o k (code, at', seed) b) (fun r => at' ≤ r.2.1 ∧ r.2.1 ≤ at' + 6) := by
 obtain ⟨v, a, s, e, h1, h2⟩ := ZCx seed b h
 exact ⟨_, e, h1, h2⟩
theorem ZD6 (r c : Int) (n : Nat) (hw : wrap64 (r * c) = (n : Int)) (hn : n ≤ 100) (h : Cur code at' 1010) : EvP (fun k => Z2w k (code, at', seed) r c) (fun z => at' ≤ z.2.1 ∧ z.2.1 ≤ at' + 1010 ∧ z.1.2.2.length = n) := by
 obtain ⟨l, a, s, e, h1, h2, h3⟩ := Zr8 seed r c n hw hn h
 exact ⟨_, e, h1, h2, h3⟩
theorem Zp7 (code : List Int) (b30 b31 b50 b51 v4 : Int) (o4 : List CellD) : ∀ (d : Nat) (o6 : List CellD) (at' seed : Int), o6.length + d = 18 → Cur code at' (2 * d) →
    EvP (fun k => ZP k at' seed code b30 b31 o4 b50 b51 o6 v4) (fun z => ∃ a s l, z = (a, s, code, b30, b31, o4, b50, b51, l) ∧ l.length = 18 ∧ at' ≤ a ∧ a ≤ at' + 2 * d)
  | 0, o6, at', seed, h, hc => by
    refine EvP.succ ?_
    have hlt : ¬ (o6.length : Int) < 18 := by omega
    simp only [ZP, hlt, decide_false, Bool.false_eq_true, if_false]
    exact EvP.some ⟨at', seed, o6, rfl, by omega, by omega, by omega⟩
  | d + 1, o6, at', seed, h, hc => by
    refine EvP.succ ?_
    have hlt : (o6.length : Int) < 18 := by omega
    have step : ∀ (x : CellD) (a s : Int), at' ≤ a → a ≤ at' + 2 → EvP (fun k => ZP k a s code b30 b31 o4 b50 b51 (o6 ++ [x]) v4) (fun z => ∃ a s l, z = (a, s, code, b30, b31, o4, b50, b51, l) ∧ l.length = 18 ∧ at' ≤ a ∧ a ≤ at' + 2 * ((d + 1 : Nat) : Int)) := fun x a s h1 h2 => by
      refine (Zp7 code b30 b31 b50 b51 v4 o4 d (o6 ++ [x]) a s (by simp; omega) (hc.to (by omega) (by omega))).mono (fun z hz => ?_)
      obtain ⟨a2, s2, l, e, k1, k2, k3⟩ := hz
      exact ⟨a2, s2, l, e, k1, by omega, by omega⟩
    simp only [ZP, hlt, decide_true, if_true]
    refine EvP.ite (fun _ => ?_) (fun _ => ?_)
    · refine EvP.bind (Zh1 2 (hc.to (by omega) (by omega)) (by omega)) (fun z hz => ?_)
      exact EvP.guard (by simp only [List.length_cons, List.length_nil]; omega) (step _ _ _ (by omega) (by omega))
    · exact EvP.guard (by simp only [List.length_cons, List.length_nil]; omega) (step _ _ _ (by omega) (by omega))
theorem ZBQ (h : Cur code at' 1700) : EvP (fun k => Z6u k (code, at', seed)) (fun r => at' ≤ r.2.1 ∧ r.2.1 ≤ at' + 1700 ∧ r.1.2.2.length ≤ 91) := by
 refine EvP.succ ?_
 simp only [Z6u]
 refine EvP.bind (ZsE 6 (h.to (by omega) (by omega))) (fun z0 h0 => ?_)
 refine EvP.ite (fun _ => ?_) (fun _ => ?_)
 ·refine EvP.bind (Zh1 2 (h.to (by omega) (by omega)) (by omega)) (fun z1 h1 => ?_)
  refine EvP.bind (Zp7 code 0 0 3 6 _ [] 18 [] _ _ (by simp) (h.to (by omega) (by omega))) (fun z hz => ?_)
  obtain ⟨a, s, l, rfl, h2, h3, h4⟩ := hz
  exact EvP.some ⟨by dsimp only; omega, by dsimp only; omega, by dsimp only; omega⟩
 ·refine EvP.bind (ZDe (h.to (by omega) (by omega))) (fun z4 h4 => ?_)
  exact EvP.some ⟨by dsimp only; omega, by dsimp only; omega, h4.2.2⟩
theorem Zpy (code : List Int) (b30 b31 b50 b51 : Int) (o4 : List CellD) : ∀ (d i : Nat) (o6 : List CellD) (at' seed : Int), i + d = 12 → 1 ≤ d → o6.length = 12 → Cur code at' (4 * d) →
    EvP (fun k => Z3h k at' seed code b30 b31 o4 b50 b51 o6 (i : Int)) (fun z => ∃ a s l, z = (a, s, code, b30, b31, o4, b50, b51, l) ∧ l.length = 12 ∧ at' ≤ a ∧ a ≤ at' + 4 * d)
  | 0, i, o6, at', seed, h, h1, hl, hc => by omega
  | d + 1, i, o6, at', seed, h, h1, hl, hc => by
    refine EvP.succ ?_
    simp only [Z3h]
    refine EvP.bind (Zh1 2 (hc.to (by omega) (by omega)) (by omega)) (fun z1 hz1 => ?_)
    have w : wrap64 (10 + z1.1) = 10 + z1.1 := w64 (by omega) (by omega)
    have w2 : wrap64 ((i : Int) + 1) = ((i + 1 : Nat) : Int) := by rw [w64 (by omega) (by omega)]; omega
    rw [w]
    refine EvP.ite (fun g => ?_) (fun _ => EvP.some ⟨_, _, o6, rfl, hl, by omega, by omega⟩)
    simp only [decide_eq_true_eq] at g
    refine EvP.bind (Q1 := fun z => ∃ a s l, z = (a, s, code, b30, b31, o4, b50, b51, l, (i : Int)) ∧ l.length = 12 ∧ at' ≤ a ∧ a ≤ at' + 4) ?_ (fun z hz => ?_)
    · simp only [Z1X]
      refine EvP.bind (Zh1 2 (hc.to (by omega) (by omega)) (by omega)) (fun y hy => ?_)
      exact EvP.guard (by omega) (EvP.guard (by omega) (EvP.some ⟨_, _, _, rfl, by rw [List.length_set]; exact hl, by omega, by omega⟩))
    · obtain ⟨a, s, l, rfl, k1, k2, k3⟩ := hz
      dsimp only
      rw [w2]
      refine (Zpy code b30 b31 b50 b51 o4 d (i + 1) l a s (by omega) (by omega) k1 (hc.to (by omega) (by omega))).mono (fun z hz => ?_)
      obtain ⟨a2, s2, l2, e, g1, g2, g3⟩ := hz
      exact ⟨a2, s2, l2, e, g1, by omega, by omega⟩
theorem Zpq (code : List Int) (n : Nat) (hn : n ≤ 100) (b30 b31 b50 b51 : Int) (o4 : List CellD) : ∀ (d i : Nat) (o6 : List CellD) (at' seed : Int), i + d = n → o6.length = n → Cur code at' (4 * d) →
    EvP (fun k => ZQ k at' seed code b30 b31 o4 b50 b51 o6 (n : Int) (i : Int)) (fun z => ∃ a s l, z = (a, s, code, b30, b31, o4, b50, b51, l) ∧ l.length = n ∧ at' ≤ a ∧ a ≤ at' + 4 * d)
  | 0, i, o6, at', seed, h, hl, hc => by
    refine EvP.succ ?_
    have hlt : ¬ (i : Int) < (n : Int) := by omega
    simp only [ZQ, hlt, decide_false, Bool.false_eq_true, if_false]
    exact EvP.some ⟨at', seed, o6, rfl, hl, by omega, by omega⟩
  | d + 1, i, o6, at', seed, h, hl, hc => by
    refine EvP.succ ?_
    have hlt : (i : Int) < (n : Int) := by omega
    have w2 : wrap64 ((i : Int) + 1) = ((i + 1 : Nat) : Int) := by rw [w64 (by omega) (by omega)]; omega
    have step : ∀ (l : List CellD) (a s : Int), l.length = n → at' ≤ a → a ≤ at' + 4 → EvP (fun k => ZQ k a s code b30 b31 o4 b50 b51 l (n : Int) ((i + 1 : Nat) : Int)) (fun z => ∃ a s l, z = (a, s, code, b30, b31, o4, b50, b51, l) ∧ l.length = n ∧ at' ≤ a ∧ a ≤ at' + 4 * ((d + 1 : Nat) : Int)) := fun l a s k1 k2 k3 => by
      refine (Zpq code n hn b30 b31 b50 b51 o4 d (i + 1) l a s (by omega) k1 (hc.to (by omega) (by omega))).mono (fun z hz => ?_)
      obtain ⟨a2, s2, l2, e, g1, g2, g3⟩ := hz
      exact ⟨a2, s2, l2, e, g1, by omega, by omega⟩
    simp only [ZQ, hlt, decide_true, if_true]
    refine EvP.bind (ZsE 4 (hc.to (by omega) (by omega))) (fun z1 hz1 => ?_)
    refine EvP.ite (fun _ => ?_) (fun _ => ?_)
    · refine EvP.bind (Q1 := fun z => ∃ a s l, z = (a, s, code, b30, b31, o4, b50, b51, l, (n : Int), (i : Int)) ∧ l.length = n ∧ at' ≤ a ∧ a ≤ at' + 4) ?_ (fun z hz => ?_)
      · simp only [Z1w]
        refine EvP.bind (ZDB [6, 7, 3] (by simp) (hc.to (by omega) (by omega))) (fun y hy => ?_)
        exact EvP.guard (by omega) (EvP.guard (by omega) (EvP.some ⟨_, _, _, rfl, by rw [List.length_set]; exact hl, by omega, by omega⟩))
      · obtain ⟨a, s, l, rfl, k1, k2, k3⟩ := hz
        dsimp only
        rw [w2]
        exact step l a s k1 k2 k3
    · rw [w2]
      exact step o6 _ _ hl (by omega) (by omega)
theorem Zur (h : Cur code at' 2000) : EvP (fun k => Z45 k (code, at', seed)) (fun r => at' ≤ r.2.1 ∧ r.2.1 ≤ at' + 2000 ∧ r.1.2.2.length ≤ 91) := by
 refine EvP.succ ?_
 simp only [Z45]
 refine EvP.bind (ZsE 20 (h.to (by omega) (by omega))) (fun z0 h0 => ?_)
 refine EvP.ite (fun _ => ?_) (fun _ => ?_)
 ·refine EvP.bind (Zpy code 0 0 3 4 [] 12 0 (List.replicate (Int.toNat 12) (0, 0)) _ _ (by omega) (by omega) (by rw [List.length_replicate]; rfl) (h.to (by omega) (by omega))) (fun z hz => ?_)
  obtain ⟨a, s, l, rfl, k1, k2, k3⟩ := hz
  exact EvP.some ⟨by dsimp only; omega, by dsimp only; omega, by dsimp only; omega⟩
 ·refine EvP.bind (ZsE 12 (h.to (by omega) (by omega))) (fun z7 h7 => ?_)
  refine EvP.ite (fun _ => ?_) (fun _ => ?_)
  ·exact EvP.bind (ZBQ (h.to (by omega) (by omega))) (fun z8 h8 => EvP.some ⟨by dsimp only; omega, by dsimp only; omega, h8.2.2⟩)
  ·refine EvP.bind (Zh1 4 (h.to (by omega) (by omega)) (by omega)) (fun z9 h9 => ?_)
   refine EvP.bind (Zh1 3 (h.to (by omega) (by omega)) (by omega)) (fun z10 h10 => ?_)
   have w1 : wrap64 (1 + z9.1) = 1 + z9.1 := w64 (by omega) (by omega)
   have w2 : wrap64 (1 + z10.1) = 1 + z10.1 := w64 (by omega) (by omega)
   have hp : 0 ≤ (1 + z9.1) * (1 + z10.1) ∧ (1 + z9.1) * (1 + z10.1) ≤ 12 := by
    constructor
    ·exact Int.mul_nonneg (by omega) (by omega)
    ·have h1 : (1 + z9.1) * (1 + z10.1) ≤ 4 * (1 + z10.1) := Int.mul_le_mul_of_nonneg_right (by omega) (by omega)
     omega
   rw [w1, w2]
   generalize hq : (1 + z9.1) * (1 + z10.1) = q at hp
   refine EvP.bind (ZD6 (1 + z9.1) (1 + z10.1) q.toNat (by rw [hq, w64 (by omega) (by omega)]; omega) (by omega) (h.to (by omega) (by omega))) (fun z11 h11 => ?_)
   refine EvP.bind (Zpq code z11.1.2.2.length (by omega) 0 0 z11.1.1 z11.1.2.1 [] z11.1.2.2.length 0 z11.1.2.2 z11.2.1 z11.2.2 (by omega) rfl (h.to (by omega) (by omega))) (fun z hz => ?_)
   obtain ⟨a, s, l, rfl, k1, k2, k3⟩ := hz
   exact EvP.some ⟨by dsimp only; omega, by dsimp only; omega, by dsimp only; omega⟩
end
theorem Zrb (code : List Int) (h : Cur code 0 6000) : EvP (fun k => Z5C k code) (fun r => r.1.2.2.length ≤ 91) := by
 refine EvP.succ ?_
 simp only [Z5C]
 refine EvP.bind (Zur (h.to (by omega) (by omega))) (fun z0 h0 => ?_)
 refine EvP.bind (Q1 := fun y => y.2.2.1.length ≤ 91) ?_ (fun y hy => EvP.some hy)
 simp only [Z1x]
 exact EvP.bind (Zx3 _ (h.to (by omega) (by omega))) (fun y hy => EvP.some h0.2.2)
theorem Zvi (code : List Int) (h : Cur code 0 6000) : EvP (fun k => Z6N k code) (fun r => r.1.2.2.length ≤ 91) := by
 refine EvP.succ ?_
 simp only [Z6N]
 exact EvP.bind (Zrb code h) (fun y hy => EvP.some hy)
theorem Zew (b10 b11 : Int) (o2 : List CellD) (b30 b31 : Int) (o4 : List CellD) (code : List Int) (b51 b52 b60 b61 : Int) (o7 : List CellD) (c : Int) (h0 : 0 ≤ c) : ∀ (d : Nat) (b : BoardD), boardOK b = true → c < b.2.1 → d ≤ 1000 →
    EvP (fun k => Z1y k b10 b11 o2 b30 b31 o4 code b51 b52 b60 b61 o7 b.1 b.2.1 b.2.2 c (d : Int)) (fun z => ∃ l, z = (b10, b11, o2, b30, b31, o4, code, b51, b52, b60, b61, o7, b.1, b.2.1, l, c) ∧ l.length = b.2.2.length)
  | 0, b, hb, hc, hd => by
    refine EvP.succ ?_
    have hlt : ¬ ((0 : Nat) : Int) > 0 := by omega
    simp only [Z1y, hlt, decide_false, Bool.false_eq_true, if_false]
    exact EvP.some ⟨b.2.2, rfl, rfl⟩
  | d + 1, b, hb, hc, hd => by
    refine EvP.succ ?_
    have hlt : ((d + 1 : Nat) : Int) > 0 := by omega
    have w : wrap64 (((d + 1 : Nat) : Int) - 1) = (d : Int) := by rw [w64 (by omega) (by omega)]; omega
    have hx : ∀ y ∈ b.2.2, cellOK y = true := (Zr hb).2.2.2.2.2
    have hlen : (fallOf b (groupsOf b) (kindsB b []) c b.2.2).2.length = b.2.2.length := ZyD b _ _ _ _ _ _ _
    simp only [Z1y, hlt, decide_true, if_true, w]
    refine EvP.bind (EvP.ev (Q := fun v => v = ((fallOf b (groupsOf b) (kindsB b []) c b.2.2).1, b.1, b.2.1, (fallOf b (groupsOf b) (kindsB b []) c b.2.2).2)) (ZjJ b hb c h0 hc) rfl) (fun v hv => ?_)
    subst hv
    refine (Zew b10 b11 o2 b30 b31 o4 code b51 b52 b60 b61 o7 c h0 d (b.1, b.2.1, (fallOf b (groupsOf b) (kindsB b []) c b.2.2).2) (Zvu hb hlen (Zst b _ _ c hx)) hc (by omega)).mono (fun z hz => ?_)
    obtain ⟨l, e, hl⟩ := hz
    exact ⟨l, e, by rw [hl]; exact hlen⟩
theorem ZqE (code : List Int) (h : Cur code 0 6000) : EvP (fun k => Z53 k code) (fun r => r.1.2.2.length ≤ 91 ∧ r.2.1.2.2.length ≤ 91) := by
 refine EvP.succ ?_
 simp only [Z53]
 refine EvP.bind (Zur (h.to (by omega) (by omega))) (fun z0 h0 => ?_)
 obtain ⟨b, a0, s0⟩ := z0
 simp only at h0
 refine EvP.bind (Zx3 _ (h.to (by dsimp only; omega) (by dsimp only; omega))) (fun z1 h1 => ?_)
 obtain ⟨c, a1, s1⟩ := z1
 dsimp only at h1
 dsimp only
 refine EvP.bind (EvP.ev (Q := fun v => v = (boardOK b && decide (0 ≤ c ∧ c < b.2.1))) (ZjI b c (by omega)) rfl) (fun v hv => ?_)
 subst hv
 have any : ∀ (a s : Int), 0 ≤ a → a ≤ 3000 → EvP (fun k => Option.bind (Zy k 0 0 [] 0 0 [] code a s b.1 b.2.1 b.2.2 c) fun z6 => some ((z6.1, z6.2.1, z6.2.2.1), (z6.2.2.2.1, z6.2.2.2.2.1, z6.2.2.2.2.2.1), z6.2.2.2.2.2.2)) (fun r => r.1.2.2.length ≤ 91 ∧ r.2.1.2.2.length ≤ 91) := by
  intro a s k1 k2
  refine EvP.bind (Q1 := fun y => y.2.2.1.length ≤ 91 ∧ y.2.2.2.2.2.1.length ≤ 91) ?_ (fun y hy => EvP.some hy)
  simp only [Zy]
  exact EvP.bind (ZCB (h.to (by omega) (by omega))) (fun y hy => EvP.some ⟨h0.2.2, hy.2.2⟩)
 cases hok : boardOK b && decide (0 ≤ c ∧ c < b.2.1) with
 | false => simp only [Bool.not_false, if_true]; exact any _ _ (by omega) (by omega)
 | true =>
  simp only [Bool.and_eq_true, decide_eq_true_eq] at hok
  obtain ⟨hb, c0, c1⟩ := hok
  have hpos : 0 < b.2.2.length := by
   obtain ⟨g1, g2, g3, g4, g5, g6⟩ := Zr hb
   have hp : 0 < b.1 * b.2.1 := Int.mul_pos (by omega) (by omega)
   omega
  simp only [Bool.not_true, Bool.false_eq_true, if_false]
  refine EvP.bind (ZsE 8 (h.to (by omega) (by omega))) (fun z7 h7 => ?_)
  refine EvP.ite (fun _ => any _ _ (by omega) (by omega)) (fun _ => ?_)
  refine EvP.bind (EvP.ev (Q := fun v => v = b) (Zf6 b (by omega)) rfl) (fun v hv => ?_)
  subst hv
  refine EvP.bind (Zh1 9 (h.to (by omega) (by omega)) (by omega)) (fun z10 h10 => ?_)
  obtain ⟨m, hm⟩ : ∃ m : Nat, z10.1 = (m : Int) := ⟨z10.1.toNat, by omega⟩
  rw [hm]
  refine EvP.bind (Zew 0 0 [] 0 0 [] code z10.2.1 z10.2.2 v.1 v.2.1 v.2.2 c c0 m v hb c1 (by omega)) (fun z hz => ?_)
  obtain ⟨l, rfl, hl⟩ := hz
  dsimp only
  refine EvP.bind (ZsE 6 (h.to (by omega) (by omega))) (fun z13 h13 => ?_)
  have fin : ∀ (l : List CellD), l.length ≤ 91 → EvP (fun k => Option.bind (Zu k 0 0 [] 0 0 [] v.1 v.2.1 v.2.2 v.1 v.2.1 l c) fun z22 => some ((z22.1, z22.2.1, z22.2.2.1), (z22.2.2.2.1, z22.2.2.2.2.1, z22.2.2.2.2.2.1), z22.2.2.2.2.2.2)) (fun r => r.1.2.2.length ≤ 91 ∧ r.2.1.2.2.length ≤ 91) := by
   intro l hl
   refine EvP.bind (Q1 := fun y => y.2.2.1.length ≤ 91 ∧ y.2.2.2.2.2.1.length ≤ 91) ?_ (fun y hy => EvP.some hy)
   simp only [Zu]
   exact EvP.some ⟨h0.2.2, hl⟩
  refine EvP.ite (fun _ => ?_) (fun _ => fin l (by omega))
  refine EvP.bind (Q1 := fun y => ∃ l : List CellD, y = (0, 0, [], 0, 0, [], v.1, v.2.1, v.2.2, v.1, v.2.1, l, c) ∧ l.length ≤ 91) ?_ (fun y hy => ?_)
  ·simp only [Z1b]
   refine EvP.bind (Zh1 _ (h.to (by omega) (by omega)) (by omega)) (fun z14 h14 => ?_)
   refine EvP.bind (ZDR (h.to (by omega) (by omega))) (fun z15 h15 => ?_)
   exact EvP.guard (by omega) (EvP.guard (by omega) (EvP.some ⟨_, rfl, by rw [List.length_set]; omega⟩))
  ·obtain ⟨l2, rfl, hl2⟩ := hy
   exact fin l2 hl2
end Go.Proofs.Ytglkedenkcpcbaa.Vs

set_option linter.unusedVariables false
set_option linter.unusedSimpArgs false
namespace Go.Proofs.Ytglkedenkcpcbaa.Vs
open Go.RowKit
def partAt (L : List CellD) (m : Int) : Int := (List.getD L m.toNat (0, 0)).1
def grpAt (G : List Int) (m : Int) : Nat := (List.getD G m.toNat 0).toNat
def sameU (L : List CellD) (G : List Int) (i m : Int) : Prop := i = m ∨ (partAt L i = 6 ∧ partAt L m = 6 ∧ grpAt G i = grpAt G m)
structure UnitsAre (L : List CellD) (G : List Int) (p : Nat) (N : List Int) (o : List (List Int)) : Prop where
 cover : ∀ m : Nat, m < p → turning (List.getD L m (0, 0)) = true → ∃ u ∈ o, (m : Int) ∈ u
 same : ∀ u ∈ o, ∀ i ∈ u, ∀ m ∈ u, sameU L G i m
 gear : ∀ m : Nat, m < p → partAt L m = 6 → 0 ≤ List.getD N (grpAt G m) 0 ∧ (m : Int) ∈ List.getD o (List.getD N (grpAt G m) 0).toNat []
 nums : ∀ g : Nat, g < N.length → 0 ≤ List.getD N g 0 → (List.getD N g 0).toNat < o.length ∧ List.getD o (List.getD N g 0).toNat [] ≠ [] ∧ ∀ i ∈ List.getD o (List.getD N g 0).toNat [], partAt L i = 6 ∧ grpAt G i = g
theorem Zba {o : List (List Int)} {x : List Int} {k : Nat} (h : k < o.length) : List.getD (o ++ [x]) k [] = List.getD o k [] := by
 simp [List.getD, List.getElem?_append_left h]
theorem ZuO {o : List (List Int)} {x : List Int} : List.getD (o ++ [x]) o.length [] = x := by simp [List.getD]
theorem ZyI {o : List (List Int)} {k : Nat} (h : k < o.length) : List.getD o k [] ∈ o := by
 rw [List.getD, List.getElem?_eq_getElem h]
 exact List.getElem_mem h
theorem UnitsAre.skip {L : List CellD} {G : List Int} {p : Nat} {N : List Int} {o : List (List Int)} (h : UnitsAre L G p N o) (ht : turning (List.getD L p (0, 0)) = false) : UnitsAre L G (p + 1) N o := by
 have h6 : partAt L p ≠ 6 := by
  intro h6
  unfold partAt at h6
  rw [Int.toNat_natCast] at h6
  unfold turning at ht
  rw [h6] at ht
  simp at ht
 refine ⟨fun m hm hmt => ?_, h.same, fun m hm h6m => ?_, h.nums⟩
 ·rcases Nat.lt_or_eq_of_le (Nat.le_of_lt_succ hm) with h1 | h1
  ·exact h.cover m h1 hmt
  ·rw [h1, ht] at hmt; cases hmt
 ·rcases Nat.lt_or_eq_of_le (Nat.le_of_lt_succ hm) with h1 | h1
  ·exact h.gear m h1 h6m
  ·rw [h1] at h6m; exact (h6 h6m).elim
theorem UnitsAre.lone {L : List CellD} {G : List Int} {p : Nat} {N : List Int} {o : List (List Int)} (h : UnitsAre L G p N o) (hN : ∀ m : Nat, m < p → partAt L m = 6 → grpAt G m < N.length) (h3 : partAt L p = 3) : UnitsAre L G (p + 1) N (o ++ [[(p : Int)]]) := by
 refine ⟨fun m hm hmt => ?_, fun u hu i hi m hm => ?_, fun m hm h6m => ?_, fun g hg h0 => ?_⟩
 ·rcases Nat.lt_or_eq_of_le (Nat.le_of_lt_succ hm) with h1 | h1
  ·obtain ⟨u, hu, hmu⟩ := h.cover m h1 hmt
   exact ⟨u, List.mem_append_left _ hu, hmu⟩
  ·exact ⟨[(p : Int)], by simp, by rw [h1]; simp⟩
 ·rcases List.mem_append.1 hu with hu | hu
  ·exact h.same u hu i hi m hm
  ·rw [List.mem_singleton.1 hu] at hi hm
   exact .inl ((List.mem_singleton.1 hi).trans (List.mem_singleton.1 hm).symm)
 ·rcases Nat.lt_or_eq_of_le (Nat.le_of_lt_succ hm) with h1 | h1
  ·obtain ⟨a, c⟩ := h.gear m h1 h6m
   obtain ⟨d, _, _⟩ := h.nums _ (hN m h1 h6m) a
   exact ⟨a, by rw [Zba d]; exact c⟩
  ·rw [h1, h3] at h6m; cases h6m
 ·obtain ⟨a, c, d⟩ := h.nums g hg h0
  exact ⟨by rw [List.length_append, List.length_singleton]; omega, by rw [Zba a]; exact c, by rw [Zba a]; exact d⟩
theorem UnitsAre.fresh {L : List CellD} {G : List Int} {p : Nat} {N : List Int} {o : List (List Int)} (h : UnitsAre L G p N o) (hN : ∀ m : Nat, m < p + 1 → partAt L m = 6 → grpAt G m < N.length) (h6 : partAt L p = 6) (hneg : List.getD N (grpAt G p) 0 < 0) : UnitsAre L G (p + 1) (List.set N (grpAt G p) (o.length : Int)) (o ++ [[(p : Int)]]) := by
 have hgp := hN p (by omega) h6
 have setD : ∀ g : Nat, List.getD (List.set N (grpAt G p) (o.length : Int)) g 0 = if g = grpAt G p then (o.length : Int) else List.getD N g 0 := by
  intro g
  simp only [List.getD, List.getElem?_set]
  by_cases hg : g = grpAt G p
  ·subst hg; simp [hgp]
  ·have : ¬ grpAt G p = g := fun h => hg h.symm
   simp [hg, this]
 refine ⟨fun m hm hmt => ?_, fun u hu i hi m hm => ?_, fun m hm h6m => ?_, fun g hg h0 => ?_⟩
 ·rcases Nat.lt_or_eq_of_le (Nat.le_of_lt_succ hm) with h1 | h1
  ·obtain ⟨u, hu, hmu⟩ := h.cover m h1 hmt
   exact ⟨u, List.mem_append_left _ hu, hmu⟩
  ·exact ⟨[(p : Int)], by simp, by rw [h1]; simp⟩
 ·rcases List.mem_append.1 hu with hu | hu
  ·exact h.same u hu i hi m hm
  ·rw [List.mem_singleton.1 hu] at hi hm
   exact .inl ((List.mem_singleton.1 hi).trans (List.mem_singleton.1 hm).symm)
 ·rw [setD]
  rcases Nat.lt_or_eq_of_le (Nat.le_of_lt_succ hm) with h1 | h1
  ·obtain ⟨a, c⟩ := h.gear m h1 h6m
   have hne : ¬ grpAt G m = grpAt G p := fun he => by rw [he] at a; omega
   rw [if_neg hne]
   obtain ⟨d, _, _⟩ := h.nums _ (hN m (by omega) h6m) a
   exact ⟨a, by rw [Zba d]; exact c⟩
  ·subst h1
   rw [if_pos rfl, Int.toNat_natCast, ZuO]
   exact ⟨by omega, by simp⟩
 ·rw [setD] at h0 ⊢
  rw [List.length_set] at hg
  by_cases he : g = grpAt G p
  ·rw [if_pos he, Int.toNat_natCast, ZuO]
   refine ⟨by simp, by simp, fun i hi => ?_⟩
   rw [List.mem_singleton.1 hi]
   exact ⟨h6, he.symm⟩
  ·rw [if_neg he] at h0 ⊢
   obtain ⟨a, c, d⟩ := h.nums g hg h0
   exact ⟨by rw [List.length_append, List.length_singleton]; omega, by rw [Zba a]; exact c, by rw [Zba a]; exact d⟩
theorem Zdb {o : List (List Int)} {k j : Nat} {x : List Int} (hk : k < o.length) : List.getD (List.set o k x) j [] = if j = k then x else List.getD o j [] := by
 simp only [List.getD, List.getElem?_set]
 by_cases h : j = k
 ·subst h; simp [hk]
 ·have : ¬ k = j := fun h2 => h h2.symm
  simp [h, this]
theorem UnitsAre.join {L : List CellD} {G : List Int} {p : Nat} {N : List Int} {o : List (List Int)} (h : UnitsAre L G p N o) (hN : ∀ m : Nat, m < p + 1 → partAt L m = 6 → grpAt G m < N.length) (h6 : partAt L p = 6) (hpos : 0 ≤ List.getD N (grpAt G p) 0) :
    UnitsAre L G (p + 1) N (List.set o (List.getD N (grpAt G p) 0).toNat (List.getD o (List.getD N (grpAt G p) 0).toNat [] ++ [(p : Int)])) := by
  obtain ⟨hk, hne, hmem⟩ := h.nums _ (hN p (by omega) h6) hpos
  generalize hK : (List.getD N (grpAt G p) 0).toNat = k at *
  have grow : ∀ (j : Nat) (i : Int), i ∈ List.getD o j [] → i ∈ List.getD (List.set o k (List.getD o k [] ++ [(p : Int)])) j [] := by
    intro j i hi
    rw [Zdb hk]
    split
    · rename_i he
      rw [he] at hi
      exact List.mem_append_left _ hi
    · exact hi
  refine ⟨fun m hm hmt => ?_, fun u hu i hi m hm => ?_, fun m hm h6m => ?_, fun g hg h0 => ?_⟩
  · have hself : (p : Int) ∈ List.getD (List.set o k (List.getD o k [] ++ [(p : Int)])) k [] := by rw [Zdb hk, if_pos rfl]; simp
    rcases Nat.lt_or_eq_of_le (Nat.le_of_lt_succ hm) with h1 | h1
    · obtain ⟨u, hu, hmu⟩ := h.cover m h1 hmt
      obtain ⟨j, hj⟩ := List.getElem?_of_mem hu
      have hjl := (List.getElem?_eq_some_iff.1 hj).1
      have e : List.getD o j [] = u := by rw [List.getD, hj]; rfl
      exact ⟨_, ZyI (k := j) (by rw [List.length_set]; exact hjl), grow j _ (by rw [e]; exact hmu)⟩
    · rw [h1]
      exact ⟨_, ZyI (k := k) (by rw [List.length_set]; exact hk), hself⟩
  · rcases List.mem_or_eq_of_mem_set hu with hu | rfl
    · exact h.same u hu i hi m hm
    · have g6 : ∀ i ∈ List.getD o k [] ++ [(p : Int)], partAt L i = 6 ∧ grpAt G i = grpAt G p := by
        intro i hi
        rcases List.mem_append.1 hi with hi | hi
        · exact hmem i hi
        · rw [List.mem_singleton.1 hi]; exact ⟨h6, rfl⟩
      exact .inr ⟨(g6 i hi).1, (g6 m hm).1, (g6 i hi).2.trans (g6 m hm).2.symm⟩
  · rcases Nat.lt_or_eq_of_le (Nat.le_of_lt_succ hm) with h1 | h1
    · obtain ⟨a, c⟩ := h.gear m h1 h6m
      exact ⟨a, grow _ _ c⟩
    · subst h1
      refine ⟨hpos, ?_⟩
      rw [hK, Zdb hk, if_pos rfl]
      simp
  · obtain ⟨a, c, d⟩ := h.nums g hg h0
    rw [List.length_set]
    refine ⟨a, ?_, fun i hi => ?_⟩
    · rw [Zdb hk]
      split
      · simp
      · exact c
    · rw [Zdb hk] at hi
      split at hi
      · rename_i he
        rcases List.mem_append.1 hi with hi | hi
        · exact d i (by rw [he]; exact hi)
        · rw [List.mem_singleton.1 hi]
          obtain ⟨y, hy⟩ := List.exists_mem_of_ne_nil _ hne
          have e1 := (hmem y hy).2
          have e2 := (d y (by rw [he]; exact hy)).2
          exact ⟨h6, e1.symm.trans e2⟩
      · exact d i hi
theorem ZuG (b : BoardD) : ∀ (r pre : List CellD) (N : List Int) (o : List (List Int)), pre ++ r = b.2.2 → N.length = b.2.2.length → UnitsAre b.2.2 (groupsOf b) pre.length N o →
    ∃ N', UnitsAre b.2.2 (groupsOf b) b.2.2.length N' (unitsGo (groupsOf b) pre.length r N o) ∧ N'.length = b.2.2.length
  | [], pre, N, o, hp, hN, h => by
    rw [List.append_nil] at hp
    subst hp
    exact ⟨N, h, hN⟩
  | x :: r, pre, N, o, hp, hN, h => by
    have hlt : pre.length < b.2.2.length := by rw [← hp]; simp
    have hx : List.getD b.2.2 pre.length (0, 0) = x := by rw [← hp]; exact Za _ _ _ _
    have hpx : partAt b.2.2 (pre.length : Int) = x.1 := by unfold partAt; rw [Int.toNat_natCast, hx]
    have hcast : ((pre ++ [x]).length : Int) = (pre.length : Int) + 1 := by simp
    have hcastN : (pre ++ [x]).length = pre.length + 1 := by simp
    have hp' : (pre ++ [x]) ++ r = b.2.2 := by rw [← hp]; simp
    have ih := fun N o h1 h2 => ZuG b r (pre ++ [x]) N o hp' h1 h2
    rw [hcast, hcastN] at ih
    have hG : ∀ m : Nat, m < pre.length + 1 → partAt b.2.2 m = 6 → grpAt (groupsOf b) m < N.length := by
      intro m hm h6
      have hml : m < b.2.2.length := by omega
      have hg : geared (List.getD b.2.2 m (0, 0)) = true := by
        unfold partAt at h6
        rw [Int.toNat_natCast] at h6
        unfold geared
        rw [h6]
        rfl
      have h1 := Z8x b hml hg
      have h2 := Zc7 b _ (Zat (l := groupsOf b) (i := m) (by rw [Z3j]; exact hml) 0)
      unfold grpAt
      rw [Int.toNat_natCast, hN]
      omega
    have hgrp : (List.getD (groupsOf b) pre.length 0).toNat = grpAt (groupsOf b) (pre.length : Int) := by unfold grpAt; rw [Int.toNat_natCast]
    simp only [unitsGo, Int.toNat_natCast, hgrp]
    split
    · rename_i h3
      exact ih _ _ hN (h.lone (fun m hm => hG m (by omega)) (hpx.trans h3))
    · rename_i h3
      split
      · rename_i h6
        split
        · rename_i hneg
          exact ih _ _ (by simpa using hN) (h.fresh hG (hpx.trans h6) hneg)
        · rename_i hneg
          exact ih _ _ hN (h.join hG (hpx.trans h6) (by omega))
      · rename_i h6
        exact ih _ _ hN (h.skip (by rw [hx]; simp [turning, h3, h6]))
theorem ZCU (b : BoardD) : ∃ N, UnitsAre b.2.2 (groupsOf b) b.2.2.length N (unitsP b) ∧ N.length = b.2.2.length := by
 refine ZuG b b.2.2 [] (List.replicate b.2.2.length (-1)) [] rfl (by simp) ⟨fun m hm => by simp at hm, fun u hu => by simp at hu, fun m hm => by simp at hm, fun g hg h0 => ?_⟩
 exfalso
 simp at hg
 simp [List.getD, hg] at h0
theorem ZAW (b : BoardD) {a : Nat} (ha : a < b.2.2.length) (ht : turning (List.getD b.2.2 a (0, 0)) = true) : ∃ u ∈ unitsP b, (a : Int) ∈ u ∧ ∀ i : Nat, i < b.2.2.length → ((i : Int) ∈ u ↔ sameU b.2.2 (groupsOf b) i a) := by
 obtain ⟨N, h, hNl⟩ := ZCU b
 obtain ⟨u, hu, hau⟩ := h.cover a ha ht
 refine ⟨u, hu, hau, fun i hi => ⟨fun hiu => h.same u hu _ hiu _ hau, fun hs => ?_⟩⟩
 rcases hs with he | ⟨h1, h2, h3⟩
 ·rw [he]; exact hau
 ·obtain ⟨a1, a2⟩ := h.gear i hi h1
  obtain ⟨c1, c2⟩ := h.gear a ha h2
  rw [h3] at a1 a2
  obtain ⟨f, hf⟩ := (Z9m b).1.no
  obtain ⟨k, hk⟩ := List.getElem?_of_mem hu
  have e1 := hf k u hk _ hau
  have hgl : grpAt (groupsOf b) (a : Int) < N.length := by
   have hg : geared (List.getD b.2.2 a (0, 0)) = true := by
    unfold partAt at h2
    rw [Int.toNat_natCast] at h2
    unfold geared
    rw [h2]
    rfl
   have h1 := Z8x b ha hg
   have h2 := Zc7 b _ (Zat (l := groupsOf b) (i := a) (by rw [Z3j]; exact ha) 0)
   unfold grpAt
   rw [Int.toNat_natCast, hNl]
   omega
  obtain ⟨d1, _, _⟩ := h.nums _ hgl c1
  have hgetK : ∀ K : Nat, K < (unitsP b).length → (unitsP b)[K]? = some (List.getD (unitsP b) K []) := by
   intro K hK
   rw [List.getD, List.getElem?_eq_getElem hK]; rfl
  have hget := hgetK _ d1
  have e2 := hf _ _ hget _ c2
  have : k = (List.getD N (grpAt (groupsOf b) (a : Int)) 0).toNat := e1.symm.trans e2
  rw [this] at hk
  have : u = List.getD (unitsP b) (List.getD N (grpAt (groupsOf b) (a : Int)) 0).toNat [] := by
   rw [hget] at hk
   exact (Option.some.inj hk).symm
  rw [this]
  exact a2
end Go.Proofs.Ytglkedenkcpcbaa.Vs

set_option linter.unusedVariables false
set_option linter.unusedSimpArgs false
namespace Go.Proofs.Ytglkedenkcpcbaa.Vs
open Go.RowKit
theorem ZDp {o : List CellD} {i : Nat} (h : i < o.length) : o[i]? = some (cellAt o (i : Int)) := by
 simp [cellAt, List.getD, List.getElem?_eq_getElem h]
theorem ZyF {o L : List CellD} (h : o.map Prod.fst = L.map Prod.fst) (m : Int) : (cellAt o m).1 = partAt L m := Zhe h _
theorem ZBt (b : BoardD) {o : List CellD} (hp : o.map Prod.fst = b.2.2.map Prod.fst) {a : Nat} (ha : a < b.2.2.length) (ht : turning (List.getD o a (0, 0)) = true) :
    ∃ u ∈ unitsP b, stepAt (groupsOf b) (kindsB b []) a o = turnU u o := by
  have hlen := Z9T hp
  have hpa : (List.getD o a (0, 0)).1 = partAt b.2.2 (a : Int) := by
    have := ZyF hp (a : Int)
    unfold cellAt at this
    rw [Int.toNat_natCast] at this
    exact this
  have htL : turning (List.getD b.2.2 a (0, 0)) = true := by
    unfold turning at ht ⊢
    rw [hpa] at ht
    unfold partAt at ht
    rw [Int.toNat_natCast] at ht
    exact ht
  obtain ⟨u, hu, hau, hall⟩ := ZAW b ha htL
  have U := (Z9m b).1.units
  refine ⟨u, hu, ZyJ (by rw [Zck, Z21]) (fun m h0 h1 => ?_)⟩
  rw [Zck] at h1
  obtain ⟨i, rfl⟩ : ∃ i : Nat, m = (i : Int) := ⟨m.toNat, by omega⟩
  have hi : i < o.length := by omega
  rw [Z4U u o i (fun j hj => by have := U.on u hu j hj; omega) (U.once u hu) h0]
  have e : cellAt (stepAt (groupsOf b) (kindsB b []) a o) (i : Int) = if (i = a ∨ ((List.getD o a (0, 0)).1 = 6 ∧ (cellAt o (i : Int)).1 = 6 ∧ List.getD (groupsOf b) i 0 = List.getD (groupsOf b) a 0)) then flipC (cellAt o (i : Int)) else cellAt o (i : Int) := by
    unfold stepAt
    rw [if_pos ht]
    unfold turnAt
    have := Zc4 (groupsOf b) (kindsB b []) a (List.getD o a (0, 0)).1 o 0 i
    rw [ZDp hi, Option.map_some, Nat.zero_add] at this
    have hk := Ziu b i
    have k01 : ¬ (0 : Int) = 1 := by decide
    simp only [hk, k01, not_false_eq_true, and_true, ne_eq] at this
    unfold cellAt at this ⊢
    simp only [List.getD, Int.toNat_natCast] at this ⊢
    rw [this]
    rfl
  rw [e]
  have hiff : (i = a ∨ ((List.getD o a (0, 0)).1 = 6 ∧ (cellAt o (i : Int)).1 = 6 ∧ List.getD (groupsOf b) i 0 = List.getD (groupsOf b) a 0)) ↔ (i : Int) ∈ u := by
    rw [hall i (by omega)]
    rw [ZyF hp, hpa]
    unfold sameU
    have nn : ∀ j : Nat, j < b.2.2.length → partAt b.2.2 (j : Int) = 6 → 0 ≤ List.getD (groupsOf b) j 0 := by
      intro j hj h6
      refine Z8x b hj ?_
      unfold partAt at h6
      rw [Int.toNat_natCast] at h6
      unfold geared
      rw [h6]
      rfl
    unfold grpAt
    simp only [Int.toNat_natCast]
    constructor
    · rintro (h | ⟨h2, h3, h4⟩)
      · left; omega
      · right; exact ⟨h3, h2, by rw [h4]⟩
    · rintro (h | ⟨h2, h3, h4⟩)
      · left; omega
      · right
        have := nn i (by omega) h2
        have := nn a ha h3
        exact ⟨h3, h2, by omega⟩
  by_cases hm : (i : Int) ∈ u
  · rw [if_pos hm, if_pos (hiff.2 hm)]
  · rw [if_neg hm, if_neg (fun h => hm (hiff.1 h))]
structure InSt (b : BoardD) (o : List CellD) : Prop where
 parts : o.map Prod.fst = b.2.2.map Prod.fst
 cells : ∀ x ∈ o, cellOK x = true
 whole : setGo (unitsP b) (bitsP o (unitsP b)) b.2.2 = o
theorem ZxB {b : BoardD} {u v : List Int} (hu : u ∈ unitsP b) (hv : v ∈ unitsP b) {m : Int} (h1 : m ∈ u) (h2 : m ∈ v) : u = v := by
 obtain ⟨f, hf⟩ := (Z9m b).1.no
 obtain ⟨k, hk⟩ := List.getElem?_of_mem hu
 obtain ⟨j, hj⟩ := List.getElem?_of_mem hv
 have e1 := hf k u hk m h1
 have e2 := hf j v hj m h2
 have : k = j := by omega
 rw [this, hj] at hk
 exact (Option.some.inj hk).symm
theorem InSt.step {b : BoardD} (hb : boardOK b = true) {o : List CellD} (h : InSt b o) (a : Nat) : InSt b (stepAt (groupsOf b) (kindsB b []) a o) := by
 have hlen := Z9T h.parts
 by_cases ht : turning (List.getD o a (0, 0)) = true
 ·have ha : a < b.2.2.length := by
   rcases Nat.lt_or_ge a o.length with h1 | h1
   ·omega
   ·exfalso
    have : List.getD o a (0, 0) = (0, 0) := by simp [List.getD, List.getElem?_eq_none h1]
    rw [this] at ht
    simp [turning] at ht
  refine ⟨(Zr4 _ _ _ _).trans h.parts, Zl3 _ _ h.cells, ?_⟩
  obtain ⟨u, hu, he⟩ := ZBt b h.parts ha ht
  rw [he]
  have U := (Z9m b).1.units
  have Uo : ∀ w ∈ unitsP b, ∀ j ∈ w, 0 ≤ j ∧ j < (o.length : Int) := fun w hw j hj => by have := U.on w hw j hj; omega
  refine ZyJ (by rw [Zlm, Z21]; omega) (fun m h0 h1 => ?_)
  rw [Zlm] at h1
  rw [Z4U u o m (fun j hj => Uo u hu j hj) (U.once u hu) h0]
  have ho : ∀ m : Int, cellAt o m = cellAt (setGo (unitsP b) (bitsP o (unitsP b)) b.2.2) m := fun m => by rw [h.whole]
  rcases ZDD (unitsP b) m with hm | ⟨k, v, hv, hm⟩
  ·rw [Zen _ _ _ _ U h0 hm, if_neg (hm u hu), ho, Zen _ _ _ _ U h0 hm]
  ·have hvm := List.mem_of_getElem? hv
   have bit : ∀ o' : List CellD, (bitsP o' (unitsP b))[k]? = some (bitOf o' v) := fun o' => by unfold bitsP; rw [List.getElem?_map, hv]; rfl
   rw [ZjK _ _ _ _ k v _ U hv (bit _) hm, ho m, ZjK _ _ _ _ k v _ U hv (bit _) hm]
   have hin := Zg9 (U.some v hvm)
   have hon := Uo v hvm _ hin
   have hbo : isBit (bitOf o v) := Zg5 (h.cells _ (Z8z hon.1 hon.2 (0, 0)))
   have hon2 := U.on v hvm _ hin
   have hbL : isBit (bitOf b.2.2 v) := Zg5 ((Zr hb).2.2.2.2.2 _ (Z8z hon2.1 hon2.2 (0, 0)))
   by_cases hmu : m ∈ u
   ·have huv : v = u := ZxB hvm hu hm hmu
    subst huv
    rw [if_pos hmu]
    have hbt : bitOf (turnU v o) v = 1 - bitOf o v := by
     unfold bitOf
     rw [Z4U v o _ (fun j hj => Uo v hvm j hj) (U.once v hvm) hon.1, if_pos hin]
     rfl
    rw [hbt]
    generalize bitOf o v = x at hbo ⊢
    generalize bitOf b.2.2 v = y at hbL ⊢
    rcases hbo with rfl | rfl <;> rcases hbL with rfl | rfl <;> simp [ZCW]
   ·rw [if_neg hmu]
    have hnot : List.getD v 0 0 ∉ u := fun hh => hmu (by rw [← ZxB hvm hu hin hh]; exact hm)
    have hbt : bitOf (turnU u o) v = bitOf o v := by
     unfold bitOf
     rw [Z4U u o _ (fun j hj => Uo u hu j hj) (U.once u hu) hon.1, if_neg hnot]
    rw [hbt]
 ·have : stepAt (groupsOf b) (kindsB b []) a o = o := by unfold stepAt; rw [if_neg ht]
  rw [this]
  exact h
theorem InSt.fallL {b : BoardD} (hb : boardOK b = true) : ∀ (n : Nat) (row col side : Int) (o : List CellD), InSt b o → InSt b (fallEnd b (Vs.fallL b (groupsOf b) (kindsB b []) n row col side o)).2
 | 0, _, _, _, o, h => h
 | n + 1, row, col, side, o, h => by
  unfold Vs.fallL
  dsimp only
  repeat' split
  all_goals first | exact h | exact InSt.fallL hb n _ _ _ _ (h.step hb _) | exact h.step hb _
theorem InSt.fall {b : BoardD} (hb : boardOK b = true) {o : List CellD} (h : InSt b o) (c : Int) : InSt b (fallOf b (groupsOf b) (kindsB b []) c o).2 := InSt.fallL hb _ _ _ _ _ h
theorem InSt.state (b : BoardD) (hb : boardOK b = true) (n : Int) : InSt b (stateN b n) := by
 have h := Z9Z b hb n
 refine ⟨h.2, h.1, ?_⟩
 unfold stateN
 rw [ZwW (Z9m b).1.units (Z6D _ _) (Zs5 _ _) (fun c hc => Zg5 ((Zr hb).2.2.2.2.2 c hc))]
theorem InSt.bits {b : BoardD} {o : List CellD} (h : InSt b o) : ∀ x ∈ bitsP o (unitsP b), isBit x := by
 intro x hx
 obtain ⟨u, hu, rfl⟩ := List.mem_map.1 hx
 have U := (Z9m b).1.units
 have hon := U.on u hu _ (Zg9 (U.some u hu))
 have hlen := Z9T h.parts
 exact Zg5 (h.cells _ (Z8z hon.1 (by omega) (0, 0)))
theorem InSt.number {b : BoardD} {o : List CellD} (h : InSt b o) : stateN b (numP (bitsP o (unitsP b))) = o := by
 unfold stateN
 have := ZoC (bitsP o (unitsP b)) h.bits
 rw [show (bitsP o (unitsP b)).length = (unitsP b).length by simp [bitsP]] at this
 rw [this]
 exact h.whole
theorem InSt.inj {b : BoardD} {o o' : List CellD} (h : InSt b o) (h' : InSt b o') (he : numP (bitsP o (unitsP b)) = numP (bitsP o' (unitsP b))) : o = o' := by
 rw [← h.number, ← h'.number, he]
theorem ZBI (b : BoardD) (hb : boardOK b = true) (c n : Int) : afterN b c n = stateN b (nextN b c n) := ((InSt.state b hb n).fall hb c).number.symm
end Go.Proofs.Ytglkedenkcpcbaa.Vs

set_option linter.unusedVariables false
set_option linter.unusedSimpArgs false
namespace Go.Proofs.Ytglkedenkcpcbaa.Vs
open Go.RowKit
def befs (to : Int) : List Int → Int → List Int
 | [], _ => []
 | x :: r, m => (if x = to then [m] else []) ++ befs to r (m + 1)
theorem ZC9 (to : Int) : ∀ (l : List Int) (m : Int), ∀ n ∈ befs to l m, m ≤ n ∧ n < m + (l.length : Int)
 | [], m, n, h => by cases h
 | x :: r, m, n, h => by
  simp only [befs, List.mem_append] at h
  simp only [List.length_cons]
  rcases h with h | h
  ·split at h
   ·rw [List.mem_singleton.1 h]; omega
   ·cases h
  ·have := ZC9 to r (m + 1) n h; omega
def inState (b : BoardD) (n : Int) : BoardD := (b.1, b.2.1, stateN b n)
end Go.Proofs.Ytglkedenkcpcbaa.Vs

set_option linter.unusedVariables false
set_option linter.unusedSimpArgs false
namespace Go.Proofs.Ytglkedenkcpcbaa.Vs
open Go.RowKit
end Go.Proofs.Ytglkedenkcpcbaa.Vs

set_option linter.unusedVariables false
set_option linter.unusedSimpArgs false
namespace Go.Proofs.Ytglkedenkcpcbaa.Vs
open Go.RowKit
def sumN (f : Nat → Nat) : Nat → Nat
 | 0 => 0
 | n + 1 => sumN f n + f n
theorem ZAF (f g : Nat → Nat) : ∀ n, sumN (fun i => f i + g i) n = sumN f n + sumN g n
 | 0 => rfl
 | n + 1 => by
  simp only [sumN, ZAF f g n]
  omega
theorem ZAA (m : Nat) : ∀ n, sumN (fun i => if i = m then 1 else 0) n = if m < n then 1 else 0
 | 0 => by simp [sumN]
 | n + 1 => by
  simp only [sumN, ZAA m n]
  by_cases h1 : m < n
  ·have : ¬ n = m := by omega
   have h2 : m < n + 1 := by omega
   simp [h1, h2, this]
  ·by_cases h2 : n = m
   ·have h3 : m < n + 1 := by omega
    simp [h2]
   ·have h3 : ¬ m < n + 1 := by omega
    simp [h1, h2, h3]
theorem ZwC {f g : Nat → Nat} : ∀ n, (∀ i, i < n → f i = g i) → sumN f n = sumN g n
 | 0, _ => rfl
 | n + 1, h => by
  simp only [sumN]
  rw [ZwC n (fun i hi => h i (by omega)), h n (by omega)]
theorem ZCb {f : Nat → Nat} : ∀ n, (∀ i, i < n → f i ≤ 1) → sumN f n ≤ n
 | 0, _ => Nat.le_refl _
 | n + 1, h => by
  have := ZCb n (fun i hi => h i (by omega))
  have := h n (by omega)
  simp only [sumN]
  omega
theorem ZAj (N : Nat) : ∀ (l : List Int) (m : Int), (∀ x ∈ l, 0 ≤ x ∧ x < (N : Int)) → sumN (fun n => (befs (n : Int) l m).length) N = l.length
 | [], m, h => by
  have : ∀ n, sumN (fun _ => 0) n = 0 := by
   intro n
   induction n with
   | zero => rfl
   | succ n ih => simp only [sumN, ih]
  simpa [befs] using this N
 | x :: r, m, h => by
  have ih := ZAj N r (m + 1) (fun y hy => h y (List.mem_cons_of_mem _ hy))
  obtain ⟨h0, h1⟩ := h x (List.mem_cons_self ..)
  have e : ∀ n : Nat, (befs (n : Int) (x :: r) m).length = (if n = x.toNat then 1 else 0) + (befs (n : Int) r (m + 1)).length := by
   intro n
   simp only [befs, List.length_append]
   by_cases hn : n = x.toNat
   ·have hx : x = (n : Int) := by omega
    rw [if_pos hx, if_pos hn]
    rfl
   ·have hx : ¬ x = (n : Int) := fun he => hn (by omega)
    rw [if_neg hx, if_neg hn]
    rfl
  rw [ZwC N (fun i _ => e i), ZAF, ih, ZAA, if_pos (by omega)]
  simp
  omega
theorem Zws (to : Int) : ∀ (l : List Int) (m n : Int), n ∈ befs to l m ↔ ∃ i : Nat, i < l.length ∧ n = m + (i : Int) ∧ List.getD l i 0 = to
 | [], m, n => by simp [befs]
 | x :: r, m, n => by
  have ih := Zws to r (m + 1) n
  simp only [befs, List.mem_append, ih]
  constructor
  ·rintro (h | ⟨i, h1, h2, h3⟩)
   ·split at h
    ·rename_i hx
     exact ⟨0, by simp, by rw [List.mem_singleton.1 h]; simp, by rw [List.getD_cons_zero]; exact hx⟩
    ·cases h
   ·exact ⟨i + 1, by simp; omega, by omega, by rw [List.getD_cons_succ]; exact h3⟩
  ·rintro ⟨i, h1, h2, h3⟩
   cases i with
   | zero =>
    left
    rw [List.getD_cons_zero] at h3
    rw [if_pos h3]
    simp at h2
    simp [h2]
   | succ i =>
    right
    rw [List.getD_cons_succ] at h3
    exact ⟨i, by simp at h1; omega, by omega, h3⟩
def itN (next : List Int) : Nat → Int → Int
 | 0, i => i
 | k + 1, i => itN next k (List.getD next i.toNat 0)
theorem Zn9 (next : List Int) : ∀ (a c : Nat) (i : Int), itN next (a + c) i = itN next c (itN next a i)
 | 0, c, i => by simp [itN]
 | a + 1, c, i => by
  rw [show a + 1 + c = (a + c) + 1 by omega]
  simp only [itN]
  exact Zn9 next a c _
theorem Zo3 {next : List Int} (h : inside next) : ∀ (k : Nat) {i : Int}, 0 ≤ i → i < (next.length : Int) → 0 ≤ itN next k i ∧ itN next k i < (next.length : Int)
 | 0, i, h0, h1 => ⟨h0, h1⟩
 | k + 1, i, h0, h1 => by
  have := ZgY h h0 h1
  exact Zo3 h k this.1 this.2
theorem Ziq (next : List Int) (to : Int) : ∀ (r : Nat) (i n x : Int), trip next to r i n = some x → ∃ k : Nat, 1 ≤ k ∧ k ≤ r ∧ x = n + (k : Int) - 1 ∧ itN next k i = to ∧ ∀ j : Nat, 1 ≤ j → j < k → itN next j i ≠ to
 | 0, i, n, x, h => by simp [trip] at h
 | r + 1, i, n, x, h => by
  simp only [trip] at h
  split at h
  ·rename_i he
   injection h with h
   exact ⟨1, by omega, by omega, by omega, he, fun j h1 h2 => by omega⟩
  ·rename_i he
   obtain ⟨k, h1, h2, h3, h4, h5⟩ := Ziq next to r _ _ x h
   refine ⟨k + 1, by omega, by omega, by omega, h4, fun j g1 g2 => ?_⟩
   obtain ⟨j, rfl⟩ : ∃ j', j = j' + 1 := ⟨j - 1, by omega⟩
   cases j with
   | zero => exact he
   | succ j => exact h5 (j + 1) (by omega) (by omega)
theorem Zx9 (next : List Int) (to : Int) : ∀ (r : Nat) (i n : Int) (k : Nat), 1 ≤ k → k ≤ r → itN next k i = to → (trip next to r i n).isSome = true
 | 0, i, n, k, h1, h2, h3 => by omega
 | r + 1, i, n, k, h1, h2, h3 => by
  simp only [trip]
  split
  ·rfl
  ·rename_i he
   obtain ⟨k, rfl⟩ : ∃ k', k = k' + 1 := ⟨k - 1, by omega⟩
   cases k with
   | zero => exact (he h3).elim
   | succ k => exact Zx9 next to r _ _ (k + 1) (by omega) (by omega) h3
theorem ZmC (next : List Int) (m : Int) : onCycle next m = true ↔ ∃ k : Nat, 1 ≤ k ∧ k ≤ next.length ∧ itN next k m = m := by
 unfold onCycle
 constructor
 ·intro h
  obtain ⟨x, hx⟩ := Option.isSome_iff_exists.1 h
  obtain ⟨k, h1, h2, _, h4, _⟩ := Ziq next m _ _ _ x hx
  exact ⟨k, h1, h2, h4⟩
 ·rintro ⟨k, h1, h2, h3⟩
  exact Zx9 next m _ _ _ k h1 h2 h3
theorem ZAQ {next : List Int} {m : Int} (h : onCycle next m = true) : onCycle next (List.getD next m.toNat 0) = true := by
 obtain ⟨k, h1, h2, h3⟩ := (ZmC next m).1 h
 refine (ZmC next _).2 ⟨k, h1, h2, ?_⟩
 have e1 : itN next (1 + k) m = itN next k (List.getD next m.toNat 0) := Zn9 next 1 k m
 have e2 : itN next (k + 1) m = itN next 1 (itN next k m) := Zn9 next k 1 m
 rw [show 1 + k = k + 1 by omega, e2, h3] at e1
 exact e1.symm
theorem ZCl {next : List Int} (h : inside next) (hl : 0 < next.length) : ∃ m : Nat, m < next.length ∧ onCycle next (m : Int) = true := by
 by_cases hd : ∃ i j : Nat, i < j ∧ j ≤ next.length ∧ itN next i 0 = itN next j 0
 ·obtain ⟨i, j, hij, hj, he⟩ := hd
  have hin := Zo3 h i (i := 0) (by omega) (by omega)
  refine ⟨(itN next i 0).toNat, by omega, ?_⟩
  have hc : (((itN next i 0).toNat : Nat) : Int) = itN next i 0 := by omega
  rw [hc]
  refine (ZmC next _).2 ⟨j - i, by omega, by omega, ?_⟩
  rw [← Zn9, show i + (j - i) = j by omega]
  exact he.symm
 ·exfalso
  have hne : ∀ i j : Nat, i < j → j ≤ next.length → itN next i 0 ≠ itN next j 0 := fun i j h1 h2 h3 => hd ⟨i, j, h1, h2, h3⟩
  let w : List Int := (List.range (next.length + 1)).map fun k => itN next k 0
  have hwl : w.length = next.length + 1 := by simp [w]
  have hw : ∀ x ∈ w, 0 ≤ x ∧ x < ((next.length : Nat) : Int) := by
   intro x hx
   obtain ⟨k, hk, rfl⟩ := List.mem_map.1 hx
   exact Zo3 h k (by omega) (by omega)
  have hs := ZAj next.length w 0 hw
  have hone : ∀ n : Nat, n < next.length → (befs (n : Int) w 0).length ≤ 1 := by
   intro n hn
   rcases hb : befs (n : Int) w 0 with _ | ⟨a, _ | ⟨c, r⟩⟩
   ·simp
   ·simp
   ·exfalso
    have key : ∀ (l : List Int) (m : Int), List.Pairwise (fun x y : Int => x < y) (befs (n : Int) l m) := by
     intro l
     induction l with
     | nil => intro m; exact List.Pairwise.nil
     | cons x r ih =>
      intro m
      simp only [befs]
      refine List.pairwise_append.2 ⟨by split <;> simp, ih (m + 1), fun p hp q hq => ?_⟩
      split at hp
      ·have := (ZC9 (n : Int) r (m + 1) q hq).1
       rw [List.mem_singleton.1 hp]
       omega
      ·cases hp
    have hp := key w 0
    rw [hb] at hp
    have hac := (List.pairwise_cons.1 hp).1 c (List.mem_cons_self ..)
    have ha : a ∈ befs (n : Int) w 0 := by rw [hb]; exact List.mem_cons_self ..
    have hc : c ∈ befs (n : Int) w 0 := by rw [hb]; exact List.mem_cons_of_mem _ (List.mem_cons_self ..)
    obtain ⟨i, i1, i2, i3⟩ := (Zws (n : Int) w 0 a).1 ha
    obtain ⟨j, j1, j2, j3⟩ := (Zws (n : Int) w 0 c).1 hc
    have get : ∀ i : Nat, i < w.length → List.getD w i 0 = itN next i 0 := by
     intro i hi
     have hi2 : i < next.length + 1 := by omega
     simp [w, List.getD, List.getElem?_map, List.getElem?_range hi2]
    rw [get i i1] at i3
    rw [get j j1] at j3
    exact hne i j (by omega) (by omega) (i3.trans j3.symm)
  have := ZCb next.length hone
  omega
theorem Zjb (next : List Int) : ∀ (r : Nat) (m x : Int), x ∈ cycL next r m ↔ m ≤ x ∧ x < m + (r : Int) ∧ onCycle next x = true
 | 0, m, x => by
  simp only [cycL, List.not_mem_nil, false_iff]
  omega
 | r + 1, m, x => by
  have ih := Zjb next r (m + 1) x
  simp only [cycL, List.mem_append, ih]
  constructor
  ·rintro (h | ⟨h1, h2, h3⟩)
   ·split at h
    ·rename_i hc
     rw [List.mem_singleton.1 h]
     exact ⟨by omega, by omega, hc⟩
    ·cases h
   ·exact ⟨by omega, by omega, h3⟩
  ·rintro ⟨h1, h2, h3⟩
   by_cases hx : x = m
   ·left
    subst hx
    rw [if_pos h3]
    simp
   ·right
    exact ⟨by omega, by omega, h3⟩
end Go.Proofs.Ytglkedenkcpcbaa.Vs

set_option linter.unusedVariables false
set_option linter.unusedSimpArgs false
namespace Go.Proofs.Ytglkedenkcpcbaa.Vs
open Go.RowKit
def turnSt (L M : List CellD) : List (List Int) → List CellD → List CellD
 | [], o => o
 | u :: r, o => turnSt L M r (if cellAt L (List.getD u 0 0) = cellAt M (List.getD u 0 0) then o else turnU u o)
theorem Zcs (L M : List CellD) : ∀ (r : List (List Int)) (o : List CellD), (turnSt L M r o).length = o.length
 | [], _ => rfl
 | u :: r, o => by
  simp only [turnSt]
  rw [Zcs L M r]
  split
  ·rfl
  ·exact Z21 u o
theorem ZiQ (x y : CellD) : (decide (x.1 = y.1) && (decide (x.2 = y.2) && true)) = decide (x = y) := by
 obtain ⟨a, b⟩ := x
 obtain ⟨c, d⟩ := y
 by_cases h1 : a = c <;> by_cases h2 : b = d <;> simp [h1, h2]
theorem Zf5 (b1 b2 : Int) (b3 : List CellD) (c1 c2 : Int) (c3 : List CellD) (o3 : List Int) (d1 d2 : Int) (us : List (List Int)) (v17 v18 v42 : Int) (v43 : Int) (u : List Int) (hu : List.getD us v42.toNat [] = u) : ∀ (r pre : List Int) (o : List CellD), pre ++ r = u → v43 = (u.length : Int) → (∀ c ∈ o, isBit c.2) → (∀ m ∈ r, 0 ≤ m ∧ m < (o.length : Int)) → u.length ≤ 1000 →
    Ev (fun k => Z3y k b1 b2 b3 c1 c2 c3 o3 d1 d2 o us v17 v18 v42 v43 (pre.length : Int)) (b1, b2, b3, c1, c2, c3, o3, d1, d2, turnU r o, us, v17, v18)
  | [], pre, o, hp, h43, ho, hr, hl => by
    have hn : ¬ (pre.length : Int) < v43 := by rw [h43, ← hp]; exact Zx pre
    refine Ev.succ ?_
    simp only [Z3y, hn, decide_false, Bool.false_eq_true, if_false]
    exact Ev.some _
  | m :: r, pre, o, hp, h43, ho, hr, hl => by
    obtain ⟨h0, h1⟩ := hr m (List.mem_cons_self ..)
    have hlt : (pre.length : Int) < v43 := by rw [h43, ← hp]; exact Zk pre m r
    have hlt2 : (pre.length : Int) < (u.length : Int) := by rw [← hp]; exact Zk pre m r
    have hg : List.getD u pre.length 0 = m := by rw [← hp]; exact Za _ _ _ _
    have ih := Zf5 b1 b2 b3 c1 c2 c3 o3 d1 d2 us v17 v18 v42 v43 u hu r (pre ++ [m]) (flipAt o m) (by rw [← hp]; simp) h43 (Zgl ho h0 h1) (fun i hi => by have := hr i (List.mem_cons_of_mem _ hi); simpa [flipAt] using this) hl
    refine Ev.succ ?_
    simp only [Z3y, hu, hlt, hlt2, ZA, decide_true, if_true, Int.toNat_natCast, hg, h0, h1]
    rw [ZAm ho h0 h1, Zj pre m r (by rw [hp]; omega)]
    exact ih
theorem ZaB (L M : List CellD) (hM : M.length = L.length) (b1 b2 c1 c2 d1 d2 : Int) : ∀ (r pre : List (List Int)) (o : List CellD) (w : List Int), o.length = L.length → Units r o.length → (∀ c ∈ o, isBit c.2) → (∀ u ∈ r, u.length ≤ 1000) → (pre ++ r).length ≤ 1000 → w.length ≤ pre.length →
    ∃ w', Ev (fun k => Z1K k b1 b2 L c1 c2 M w d1 d2 o (pre ++ r) ((pre ++ r).length : Int) (pre.length : Int)) (c1, c2, M, w', d1, d2, turnSt L M r o)
  | [], pre, o, w, hL, hU, ho, hr, hl, hw => by
    refine ⟨w, Ev.succ ?_⟩
    simp only [Z1K, Zx, decide_false, Bool.false_eq_true, if_false]
    exact Ev.some _
  | u :: r, pre, o, w, hL, hU, ho, hr, hl, hw => by
    have hon := hU.on u (List.mem_cons_self ..)
    obtain ⟨p1, p2, p3⟩ := hU.heads u (List.mem_cons_self ..)
    rw [hL] at p3
    have p4 : List.getD u 0 0 < (M.length : Int) := by omega
    have p1' : (0 : Int) < (u.length : Int) := by omega
    by_cases hc : cellAt L (List.getD u 0 0) = cellAt M (List.getD u 0 0)
    · obtain ⟨w', ih⟩ := ZaB L M hM b1 b2 c1 c2 d1 d2 r (pre ++ [u]) o w hL hU.tail ho (fun v hv => hr v (List.mem_cons_of_mem _ hv)) (by simpa using hl) (by simp; omega)
      rw [← Z6] at ih
      refine ⟨w', Ev.succ ?_⟩
      have hc' : decide (List.getD L (List.getD u 0 0).toNat (0, 0) = List.getD M (List.getD u 0 0).toNat (0, 0)) = true := by simpa [cellAt] using hc
      simp only [Z1K, Zk, ZA, decide_true, if_true, Int.toNat_natCast, Za, Int.toNat_zero, p1', p2, p3, p4, ZiQ, hc', turnSt, hc]
      rw [Zj pre u r (by omega)]
      exact ih
    · have hwl : w.length + 1 ≤ 140737488355328 / 8 := by simp at hl; omega
      obtain ⟨w', ih⟩ := ZaB L M hM b1 b2 c1 c2 d1 d2 r (pre ++ [u]) (turnU u o) (w ++ [(pre.length : Int)]) (by rw [Z21]; exact hL) (by rw [Z21]; exact hU.tail) (Zf1 u o ho hon) (fun v hv => hr v (List.mem_cons_of_mem _ hv)) (by simpa using hl) (by simp; omega)
      rw [← Z6] at ih
      refine ⟨w', Ev.succ ?_⟩
      have hc' : decide (List.getD L (List.getD u 0 0).toNat (0, 0) = List.getD M (List.getD u 0 0).toNat (0, 0)) = false := by simpa [cellAt] using hc
      simp only [Z1K, Zk, ZA, decide_true, if_true, Int.toNat_natCast, Za, Int.toNat_zero, p1', p2, p3, p4, ZiQ, hc', turnSt, hc, Bool.false_eq_true, if_false, List.length_singleton, hwl]
      refine Ev.bind (Zf5 b1 b2 L c1 c2 M (w ++ [(pre.length : Int)]) d1 d2 (pre ++ u :: r) _ _ (pre.length : Int) _ u (by rw [Int.toNat_natCast]; exact Za _ _ _ _) u [] o rfl rfl ho hon (hr u (List.mem_cons_self ..))) ?_
      simp only
      rw [Zj pre u r (by omega)]
      exact ih
theorem ZcF (L M : List CellD) (hM : M.length = L.length) (b1 b2 c1 c2 d1 d2 : Int) : ∀ (r pre : List (List Int)) (o : List CellD) (w : List Int), o.length = L.length → Units r o.length → (∀ c ∈ o, isBit c.2) → (∀ u ∈ r, u.length ≤ 1000) → (pre ++ r).length ≤ 1000 → w.length ≤ pre.length →
    ∃ w', Ev (fun k => Z2X k b1 b2 L c1 c2 M d1 d2 o w (pre ++ r) ((pre ++ r).length : Int) (pre.length : Int)) (c1, c2, M, d1, d2, turnSt L M r o, w')
  | [], pre, o, w, hL, hU, ho, hr, hl, hw => by
    refine ⟨w, Ev.succ ?_⟩
    simp only [Z2X, Zx, decide_false, Bool.false_eq_true, if_false]
    exact Ev.some _
  | u :: r, pre, o, w, hL, hU, ho, hr, hl, hw => by
    have hon := hU.on u (List.mem_cons_self ..)
    obtain ⟨p1, p2, p3⟩ := hU.heads u (List.mem_cons_self ..)
    rw [hL] at p3
    have p4 : List.getD u 0 0 < (M.length : Int) := by omega
    have p1' : (0 : Int) < (u.length : Int) := by omega
    by_cases hc : cellAt L (List.getD u 0 0) = cellAt M (List.getD u 0 0)
    · obtain ⟨w', ih⟩ := ZcF L M hM b1 b2 c1 c2 d1 d2 r (pre ++ [u]) o w hL hU.tail ho (fun v hv => hr v (List.mem_cons_of_mem _ hv)) (by simpa using hl) (by simp; omega)
      rw [← Z6] at ih
      refine ⟨w', Ev.succ ?_⟩
      have hc' : decide (List.getD L (List.getD u 0 0).toNat (0, 0) = List.getD M (List.getD u 0 0).toNat (0, 0)) = true := by simpa [cellAt] using hc
      simp only [Z2X, Zk, ZA, decide_true, if_true, Int.toNat_natCast, Za, Int.toNat_zero, p1', p2, p3, p4, ZiQ, hc', turnSt, hc, Bool.not_true, Bool.false_eq_true, if_false]
      rw [Zj pre u r (by omega)]
      exact ih
    · have hwl : w.length + 1 ≤ 140737488355328 / 8 := by simp at hl; omega
      obtain ⟨w', ih⟩ := ZcF L M hM b1 b2 c1 c2 d1 d2 r (pre ++ [u]) (turnU u o) (w ++ [(pre.length : Int)]) (by rw [Z21]; exact hL) (by rw [Z21]; exact hU.tail) (Zf1 u o ho hon) (fun v hv => hr v (List.mem_cons_of_mem _ hv)) (by simpa using hl) (by simp; omega)
      rw [← Z6] at ih
      refine ⟨w', Ev.succ ?_⟩
      have hc' : decide (List.getD L (List.getD u 0 0).toNat (0, 0) = List.getD M (List.getD u 0 0).toNat (0, 0)) = false := by simpa [cellAt] using hc
      simp only [Z2X, Zk, ZA, decide_true, if_true, Int.toNat_natCast, Za, Int.toNat_zero, p1', p2, p3, p4, ZiQ, hc', turnSt, hc, Bool.not_false, Bool.false_eq_true, if_false, List.length_singleton, hwl]
      refine Ev.bind (Zpt d1 d2 o u ho hon (hr u (List.mem_cons_self ..))) ?_
      rw [Zj pre u r (by omega)]
      exact ih
theorem ZgS (R C R' C' : Int) : ∀ (r s pre pre' : List CellD), s.length = r.length → pre'.length = pre.length → (pre ++ r).length ≤ 1000 → Ev (fun k => Z4t k R C (pre ++ r) R' C' (pre' ++ s) ((pre ++ r).length : Int) (pre.length : Int)) (if r = s then LR.go () else LR.ret false)
 | [], s, pre, pre', h, hp, hl => by
  obtain rfl : s = [] := List.eq_nil_of_length_eq_zero h
  refine Ev.succ ?_
  simp only [Z4t, Zx, decide_false, Bool.false_eq_true, if_false, if_true]
  exact Ev.some _
 | x :: r, [], pre, pre', h, hp, hl => by simp at h
 | x :: r, y :: s, pre, pre', h, hp, hl => by
  have ih := ZgS R C R' C' r s (pre ++ [x]) (pre' ++ [y]) (by simpa using h) (by simpa using hp) (by simpa using hl)
  have l2 : (pre.length : Int) < ((pre' ++ y :: s).length : Int) := by rw [← hp]; exact Zk _ _ _
  have g2 : List.getD (pre' ++ y :: s) pre.length (0, 0) = y := by rw [← hp]; exact Za _ _ _ _
  refine Ev.succ ?_
  simp only [Z4t, Zk, ZA, l2, decide_true, if_true, Int.toNat_natCast, Za, g2, ZiQ]
  rw [Zj pre x r (by omega)]
  rw [← Z6, ← Z6] at ih
  by_cases hxy : x = y
  ·subst hxy
   simp only [decide_true, Bool.not_true, Bool.false_eq_true, if_false]
   refine ih.congr ?_
   by_cases hrs : r = s <;> simp [hrs]
  ·simp only [hxy, decide_false, Bool.not_false, if_true]
   refine Ev.of ?_
   rw [if_neg (by intro hc; injection hc with h1 h2; exact hxy h1)]
theorem Zvn (R C : Int) (o M : List CellD) (h : M.length = o.length) (hl : o.length ≤ 1000) : Ev (fun k => ZaJ k (R, C, o) (R, C, M)) (decide (o = M)) := by
 have hlen : ¬ ((o.length : Int) ≠ (M.length : Int)) := by omega
 refine Ev.succ ?_
 simp only [ZaJ, ne_eq, not_true_eq_false, decide_false, Bool.false_eq_true, if_false, h]
 have h0 := ZgS R C R C o M [] [] h rfl (by simpa using hl)
 refine Ev.bind h0 ?_
 by_cases hoM : o = M
 ·simp only [hoM, if_true, decide_true]; exact Ev.go (Ev.some _)
 ·simp only [hoM, if_false, decide_false]; exact Ev.ret (Ev.some _)
def diffs : List CellD → List CellD → Int → List Int
 | x :: r, y :: s, i => (if x = y then [] else [i]) ++ diffs r s (i + 1)
 | _, _, _ => []
theorem Zyz : ∀ (r s : List CellD) (i : Int), s.length = r.length → ((diffs r s i).length = 0 ↔ r = s)
 | [], s, i, h => by
  obtain rfl : s = [] := List.eq_nil_of_length_eq_zero h
  simp [diffs]
 | x :: r, [], i, h => by simp at h
 | x :: r, y :: s, i, h => by
  have ih := Zyz r s (i + 1) (by simpa using h)
  simp only [diffs]
  by_cases hxy : x = y
  ·subst hxy
   simp only [if_true, List.nil_append]
   rw [ih]
   simp
  ·simp [hxy]
theorem ZeU (R C : Int) : ∀ (r s pre pre' : List CellD) (w : List Int), s.length = r.length → pre'.length = pre.length → (pre ++ r).length ≤ 1000 → w.length ≤ pre.length → Ev (fun k => Z2v k R C (pre' ++ s) w (pre ++ r) ((pre ++ r).length : Int) (pre.length : Int)) (w ++ diffs r s pre.length)
 | [], s, pre, pre', w, h, hp, hl, hw => by
  obtain rfl : s = [] := List.eq_nil_of_length_eq_zero h
  refine Ev.succ ?_
  simp only [Z2v, Zx, decide_false, Bool.false_eq_true, if_false]
  exact (Ev.some _).congr (by simp [diffs])
 | x :: r, [], pre, pre', w, h, hp, hl, hw => by simp at h
 | x :: r, y :: s, pre, pre', w, h, hp, hl, hw => by
  have ih := fun w' hw' => ZeU R C r s (pre ++ [x]) (pre' ++ [y]) w' (by simpa using h) (by simpa using hp) (by simpa using hl) hw'
  have l2 : (pre.length : Int) < ((pre' ++ y :: s).length : Int) := by rw [← hp]; exact Zk _ _ _
  have g2 : List.getD (pre' ++ y :: s) pre.length (0, 0) = y := by rw [← hp]; exact Za _ _ _ _
  have hwl : w.length + 1 ≤ 140737488355328 / 8 := by simp at hl; omega
  have hcast : ((pre ++ [x]).length : Int) = (pre.length : Int) + 1 := by simp
  refine Ev.succ ?_
  simp only [Z2v, Zk, ZA, l2, decide_true, if_true, Int.toNat_natCast, Za, g2, ZiQ, List.length_singleton, hwl]
  rw [Zj pre x r (by omega)]
  rw [← Z6, ← Z6, hcast] at ih
  rw [hcast]
  by_cases hxy : x = y
  ·subst hxy
   simp only [decide_true, Bool.not_true, Bool.false_eq_true, if_false]
   refine (ih w (by simp; omega)).congr ?_
   simp [diffs]
  ·simp only [hxy, decide_false, Bool.not_false, if_true]
   refine (ih (w ++ [(pre.length : Int)]) (by simp; omega)).congr ?_
   simp [diffs, hxy]
theorem ZqJ (R C R' C' : Int) (o M : List CellD) (h : M.length = o.length) (hl : o.length ≤ 1000) : Ev (fun k => Z8T k (R, C, o) (R', C', M)) (diffs o M 0) := by
 refine Ev.succ ?_
 simp only [Z8T]
 exact Ev.bind (ZeU R' C' o M [] [] [] h rfl (by simpa using hl) (Nat.le_refl _)) (Ev.some _)
def statesOf (a b : BoardD) : Bool := decide (turnSt a.2.2 b.2.2 (unitsP a) a.2.2 = b.2.2)
theorem Zae {b : BoardD} (hb : boardOK b = true) : b.2.2.length ≤ 90 := by
 obtain ⟨g1, g2, g3, g4, g5, g6⟩ := Zr hb
 have hpp := ZU g1 g2 g3 g4
 omega
theorem ZAV {a b : BoardD} (ha : boardOK a = true) (hb : boardOK b = true) (h1 : a.1 = b.1) (h2 : a.2.1 = b.2.1) : b.2.2.length = a.2.2.length := by
 have e1 := (Zr ha).2.2.2.2.1
 have e2 := (Zr hb).2.2.2.2.1
 rw [h1, h2] at e1
 omega
theorem ZrH (a b : BoardD) (ha : boardOK a = true) (hb : boardOK b = true) (h1 : a.1 = b.1) (h2 : a.2.1 = b.2.1) : ∃ w, Ev (fun k => Z8Y k a b) (w, statesOf a b) := by
 have hlen := ZAV ha hb h1 h2
 have hal := Zae ha
 have hul := Zgp a ha
 obtain ⟨w, hw⟩ := ZaB a.2.2 b.2.2 hlen a.1 a.2.1 b.1 b.2.1 a.1 a.2.1 (unitsP a) [] a.2.2 [] rfl (ZO a) (Z4b ha) (Zlv a ha) (by simp; omega) (Nat.le_refl _)
 have hs := Zvn a.1 a.2.1 (turnSt a.2.2 b.2.2 (unitsP a) a.2.2) b.2.2 (by rw [Zcs]; exact hlen) (by rw [Zcs]; omega)
 rw [show (a.1, a.2.1, b.2.2) = (b.1, b.2.1, b.2.2) by rw [h1, h2]] at hs
 refine ⟨if statesOf a b then w else [], Ev.succ ?_⟩
 simp only [Z8Y]
 refine Ev.bind (Zea a (by omega)) (Ev.bind (Za7 a ha) (Ev.bind hw (Ev.bind hs ?_)))
 unfold statesOf
 cases hd : decide (turnSt a.2.2 b.2.2 (unitsP a) a.2.2 = b.2.2) with
 | false => simp only [Bool.not_false, if_true, Bool.false_eq_true, if_false]; exact Ev.some _
 | true => simp only [Bool.not_true, Bool.false_eq_true, if_false, if_true]; exact Ev.some _
theorem ZwN (a b : BoardD) (ha : boardOK a = true) (hb : boardOK b = true) (h1 : a.1 = b.1) (h2 : a.2.1 = b.2.1) : ∃ w, Ev (fun k => Zbz k a b) (w, statesOf a b) := by
 have hlen := ZAV ha hb h1 h2
 have hal := Zae ha
 have hul := Zgp a ha
 obtain ⟨w, hw⟩ := ZcF a.2.2 b.2.2 hlen a.1 a.2.1 b.1 b.2.1 a.1 a.2.1 (unitsP a) [] a.2.2 [] rfl (ZO a) (Z4b ha) (Zlv a ha) (by simp; omega) (Nat.le_refl _)
 have hs := ZqJ a.1 a.2.1 b.1 b.2.1 (turnSt a.2.2 b.2.2 (unitsP a) a.2.2) b.2.2 (by rw [Zcs]; exact hlen) (by rw [Zcs]; omega)
 have hd := Zyz (turnSt a.2.2 b.2.2 (unitsP a) a.2.2) b.2.2 0 (by rw [Zcs]; exact hlen)
 refine ⟨w, Ev.succ ?_⟩
 simp only [Zbz]
 refine Ev.bind (Zf6 a (by omega)) (Ev.bind (Z5Y a ha) (Ev.bind hw (Ev.bind hs ?_)))
 refine (Ev.some _).congr ?_
 simp only [statesOf]
 congr 1
 rw [decide_eq_decide, ← hd]
 omega
theorem Zup : ∀ (u : List Int) (o : List CellD), (∀ m ∈ u, 0 ≤ m ∧ m < (o.length : Int)) → (turnU u o).map Prod.fst = o.map Prod.fst
 | [], o, h => rfl
 | m :: u, o, h => by
  obtain ⟨h0, h1⟩ := h m (List.mem_cons_self ..)
  have hil : m.toNat < o.length := by omega
  have hp : (flipAt o m).map Prod.fst = o.map Prod.fst := by
   unfold flipAt
   rw [List.map_set]
   apply List.ext_getElem?
   intro j
   rw [List.getElem?_set]
   split
   ·rename_i hij
    subst hij
    simp [cellAt, flipC, List.getD, List.getElem?_eq_getElem hil, hil]
   ·rfl
  exact (Zup u (flipAt o m) (fun i hi => by have := h i (List.mem_cons_of_mem _ hi); simpa [flipAt] using this)).trans hp
theorem ZeK (L M : List CellD) : ∀ (r : List (List Int)) (o : List CellD), (∀ u ∈ r, ∀ m ∈ u, 0 ≤ m ∧ m < (o.length : Int)) → (turnSt L M r o).map Prod.fst = o.map Prod.fst
 | [], o, h => rfl
 | u :: r, o, h => by
  simp only [turnSt]
  split
  ·exact ZeK L M r o (fun v hv => h v (List.mem_cons_of_mem _ hv))
  ·exact (ZeK L M r (turnU u o) (fun v hv m hm => by rw [Z21]; exact h v (List.mem_cons_of_mem _ hv) m hm)).trans (Zup u o (h u (List.mem_cons_self ..)))
theorem Zfp {a b : BoardD} (h1 : a.1 = b.1) (h2 : a.2.1 = b.2.1) (h : statesOf a b = true) : unitsP b = unitsP a := by
 have h' : turnSt a.2.2 b.2.2 (unitsP a) a.2.2 = b.2.2 := by simpa [statesOf] using h
 refine (Zfa h1 h2 ?_).symm
 rw [← h']
 exact (ZeK a.2.2 b.2.2 (unitsP a) a.2.2 (ZO a).on).symm
theorem Zda (b : BoardD) (hb : boardOK b = true) (hu : (unitsP b).length ≤ 40) (next : List Int) (hn : inside next) (hl : next.length ≤ 1000000) : ∀ (r : Nat) (at' : Int) (n : Nat), n + r = next.length → 0 ≤ at' → at' < (next.length : Int) → Ev (fun k => Z2I k b.1 b.2.1 b.2.2 next at' (n : Int)) (if at' = numB b then LR.ret ((n : Int), true) else match trip next (numB b) r at' ((n : Int) + 1) with | some x => LR.ret (x, true) | none => LR.go ())
 | r, at', n, h, h0, h1 => by
  have hle : (n : Int) ≤ (next.length : Int) := by omega
  have hin := ZgY hn h0 h1
  have hw : wrap64 ((n : Int) + 1) = ((n + 1 : Nat) : Int) := by rw [w64 (by omega) (by omega)]; omega
  have hc : ((n + 1 : Nat) : Int) = (n : Int) + 1 := by omega
  refine Ev.succ ?_
  simp only [Z2I, hle, decide_true, if_true, h0, h1]
  refine Ev.bind (a := numB b) (Z93 b hb hu) ?_
  by_cases ha : at' = numB b
  ·simp only [ha, decide_true, if_true]; exact Ev.some _
  ·simp only [ha, decide_false, Bool.false_eq_true, if_false, hw]
   cases r with
   | zero =>
    refine Ev.succ ?_
    have : ¬ ((n + 1 : Nat) : Int) ≤ (next.length : Int) := by omega
    simp only [Z2I, this, decide_false, Bool.false_eq_true, if_false, trip]
    exact Ev.some _
   | succ r =>
    refine (Zda b hb hu next hn hl r _ (n + 1) (by omega) hin.1 hin.2).congr ?_
    simp only [trip, hc]
    by_cases hz : List.getD next at'.toNat 0 = numB b
    ·simp only [hz, if_true]
    ·simp only [hz, if_false]
def Z94 (a b : BoardD) (c : Int) : Int × Bool := if backOK a c && (boardOK b && decide (a.1 = b.1 ∧ a.2.1 = b.2.1)) && statesOf a b then (if numB a = numB b then (0, true) else match trip (nextL a c) (numB b) (nextL a c).length (numB a) 1 with | some x => (x, true) | none => (0, false)) else (0, false)
theorem ZzM (a b : BoardD) (h0 : a.2.2.length ≤ 9223372036854775806) (h1 : b.2.2.length ≤ 9223372036854775806) : Ev (fun k => ZdE k a b) (boardOK a && (boardOK b && decide (a.1 = b.1 ∧ a.2.1 = b.2.1))) := by
 refine Ev.succ ?_
 simp only [ZdE]
 refine Ev.bind (Zds a h0) ?_
 cases ha : boardOK a with
 | false => simp only [Bool.false_eq_true, if_false, Bool.false_and]; exact Ev.some _
 | true =>
  simp only [if_true, Bool.true_and]
  refine Ev.bind (Zds b h1) ?_
  cases hb : boardOK b with
  | false => simp only [Bool.false_eq_true, if_false, Bool.false_and]; exact Ev.some _
  | true =>
   simp only [if_true, Bool.true_and]
   by_cases e1 : a.1 = b.1
   ·simp only [e1, decide_true, if_true, true_and]; exact Ev.some _
   ·simp only [e1, decide_false, Bool.false_eq_true, if_false, false_and]; exact Ev.some _
theorem Zos (a b : BoardD) (c : Int) (h0 : a.2.2.length ≤ 9223372036854775806) (h1 : b.2.2.length ≤ 9223372036854775806) : Ev (fun k => Z7A k a b c) (Z94 a b c) := by
 refine Ev.succ ?_
 simp only [Z7A]
 unfold Z94
 refine Ev.bind (Zfq a c h0) ?_
 cases g0 : backOK a c with
 | false => simp only [Bool.not_false, if_true, Bool.false_eq_true, if_false, Bool.false_and]; exact Ev.some _
 | true =>
  obtain ⟨ha, k1, k2, hu⟩ := Z8y g0
  have hs := Z4K a hu c
  simp only [Bool.not_true, Bool.false_eq_true, if_false, if_true, Bool.true_and]
  refine Ev.bind (ZzM a b h0 h1) ?_
  rw [ha, Bool.true_and]
  cases g1 : boardOK b && decide (a.1 = b.1 ∧ a.2.1 = b.2.1) with
  | false => simp only [Bool.not_false, if_true, Bool.false_eq_true, if_false, Bool.false_and]; exact Ev.some _
  | true =>
   simp only [Bool.and_eq_true, decide_eq_true_eq] at g1
   obtain ⟨hb, e1, e2⟩ := g1
   obtain ⟨w, hw⟩ := ZwN a b ha hb e1 e2
   simp only [Bool.not_true, Bool.false_eq_true, if_false, if_true, Bool.true_and]
   refine Ev.bind hw ?_
   cases g2 : statesOf a b with
   | false => simp only [Bool.not_false, if_true, Bool.false_eq_true, if_false]; exact Ev.some _
   | true =>
    simp only [Bool.not_true, Bool.false_eq_true, if_false, if_true]
    have hub := Zfp e1 e2 g2
    have hra := Z7H a ha
    refine Ev.bind (ZdG a ha hu c k1 k2) (Ev.bind (a := numB a) (Z93 a ha (by omega)) ?_)
    have h := Zda b hb (by rw [hub]; omega) (nextL a c) (Z4N a ha c) (by omega) (nextL a c).length (numB a) 0 (by omega) hra.1 (by rw [Z6J, Z4X]; exact hra.2)
    refine Ev.bind h ?_
    by_cases e : numB a = numB b
    ·simp only [e, if_true]; exact Ev.ret (Ev.some _)
    ·simp only [e, if_false, show ((0 : Nat) : Int) + 1 = 1 from rfl]
     cases trip (nextL a c) (numB b) (nextL a c).length (numB a) 1 with
     | none => exact Ev.go (Ev.some _)
     | some x => exact Ev.ret (Ev.some _)
theorem ZoD (a b : BoardD) (c : Int) (h0 : a.2.2.length ≤ 9223372036854775806) (h1 : b.2.2.length ≤ 9223372036854775806) : Ev (fun k => Z7J k a b c) (Z94 a b c) := by
 refine Ev.succ ?_
 simp only [Z7J]
 unfold Z94
 refine Ev.bind (Zbq a c h0) ?_
 cases g0 : backOK a c with
 | false => simp only [Bool.not_false, if_true, Bool.false_eq_true, if_false, Bool.false_and]; exact Ev.some _
 | true =>
  obtain ⟨ha, k1, k2, hu⟩ := Z8y g0
  have hs := Z4K a hu c
  simp only [Bool.not_true, Bool.false_eq_true, if_false, if_true, Bool.true_and]
  refine Ev.bind (Zgf b h1) ?_
  cases hb : boardOK b with
  | false => simp only [Bool.not_false, if_true, Bool.false_eq_true, if_false, Bool.false_and]; exact Ev.some _
  | true =>
   simp only [Bool.not_true, Bool.false_eq_true, if_false, if_true, Bool.true_and]
   refine Ev.bind (Za7 b hb) ?_
   by_cases hbu : ((unitsP b).length : Int) > 10
   ·simp only [hbu, decide_true, if_true]
    refine (Ev.some _).congr ?_
    rw [if_neg]
    intro hc
    simp only [Bool.and_eq_true, decide_eq_true_eq] at hc
    have := Zfp hc.1.1 hc.1.2 hc.2
    rw [this] at hbu
    omega
   ·simp only [hbu, decide_false, Bool.false_eq_true, if_false]
    by_cases e1 : a.1 = b.1
    ·by_cases e2 : a.2.1 = b.2.1
     ·obtain ⟨w, hw⟩ := ZrH a b ha hb e1 e2
      simp only [e1, e2, ne_eq, not_true_eq_false, decide_false, Bool.false_eq_true, if_false, and_self, decide_true, Bool.true_and]
      rw [show (b.1, b.2.1, a.2.2) = a by rw [← e1, ← e2]]
      refine Ev.bind hw ?_
      cases g2 : statesOf a b with
      | false => simp only [Bool.not_false, if_true, Bool.false_eq_true, if_false]; exact Ev.some _
      | true =>
       simp only [Bool.not_true, Bool.false_eq_true, if_false, if_true]
       have hub := Zfp e1 e2 g2
       have hra := Z7H a ha
       refine Ev.bind (ZdC a ha) (Ev.bind (a := numB a) (Z8S _ (ZbM (Z4b ha) (ZO a)) (by rw [Z8K]; omega)) ?_)
       refine Ev.bind (ZdC b hb) (Ev.bind (a := numB b) (Z8S _ (ZbM (Z4b hb) (ZO b)) (by rw [Z8K, hub]; omega)) ?_)
       by_cases e : numB a = numB b
       ·simp only [e, decide_true, if_true]; exact Ev.some _
       ·simp only [e, decide_false, Bool.false_eq_true, if_false]
        refine Ev.bind (Z8f a ha hu [c] (fun x hx => by rw [List.mem_singleton.1 hx]; exact ⟨k1, k2⟩) (by simp)) ?_
        have hl : (0 : Int) < ((List.map (nextL a) [c]).length : Int) := by simp
        have hg : List.getD (List.map (nextL a) [c]) (Int.toNat 0) [] = nextL a c := rfl
        simp only [hl, if_true, hg]
        refine Ev.bind (Zei (nextL a c) (Z4N a ha c) (by omega) (numB a) (numB b) hra.1 (by rw [Z6J, Z4X]; exact hra.2)) ?_
        exact Ev.some _
     ·simp only [e1, e2, ne_eq, not_true_eq_false, not_false_eq_true, decide_false, decide_true, Bool.false_eq_true, if_false, if_true, and_false, Bool.false_and]; exact Ev.some _
    ·simp only [e1, ne_eq, not_false_eq_true, decide_true, decide_false, if_true, false_and, Bool.false_and, Bool.false_eq_true, if_false]; exact Ev.some _
end Go.Proofs.Ytglkedenkcpcbaa.Vs

set_option linter.unusedVariables false
set_option linter.unusedSimpArgs false
namespace Go.Proofs.Ytglkedenkcpcbaa.Vs
open Go.RowKit
def afterB (b : BoardD) (c : Int) : BoardD := (faRunOf b [] c).2
theorem ZAK (b : BoardD) (hb : boardOK b = true) : inState b (numB b) = b := by
 unfold inState
 rw [Zux b hb]
theorem Zyi (b : BoardD) (hb : boardOK b = true) {n : Int} (h0 : 0 ≤ n) (h1 : n < 2 ^ (unitsP b).length) : numB (inState b n) = n := ZBb b hb n h0 h1
theorem ZyQ (b : BoardD) (hb : boardOK b = true) (n c : Int) : afterB (inState b n) c = inState b (nextN b c n) := by
 unfold afterB faRunOf inState
 rw [← ZBI b hb]
 show (b.1, b.2.1, (fallOf (b.1, b.2.1, stateN b n) (groupsOf (b.1, b.2.1, stateN b n)) (kindsB (b.1, b.2.1, stateN b n) []) c (stateN b n)).2) = _
 rw [ZpV b hb, ZuK (b := (b.1, b.2.1, stateN b n)) (b' := b) rfl (Zay b n), ZuL (b := (b.1, b.2.1, stateN b n)) (b' := b) rfl rfl]
 rfl
theorem ZBC (b : BoardD) (hb : boardOK b = true) (c : Int) : afterB b c = inState b (nextN b c (numB b)) := by
 have := ZyQ b hb (numB b) c
 rw [ZAK b hb] at this
 exact this
theorem ZDq (b : BoardD) (c : Int) {n : Nat} (h : n < 2 ^ (unitsP b).length) : List.getD (nextL b c) n 0 = nextN b c (n : Int) := by
 unfold nextL
 simp [List.getD, List.getElem?_map, List.getElem?_range h]
theorem ZyT (b : BoardD) (c : Int) {n : Int} (h0 : 0 ≤ n) (h1 : n < 2 ^ (unitsP b).length) : List.getD (nextL b c) n.toNat 0 = nextN b c n := by
 rw [ZDq b c (by rw [← Int.ofNat_lt, Z4X]; omega)]
 congr 1
 omega
theorem ZoU (L M : List CellD) (hp : M.map Prod.fst = L.map Prod.fst) : ∀ (r : List (List Int)) (o : List CellD), Units r o.length → (∀ u ∈ r, bitOf o u = bitOf L u) → turnSt L M r o = setGo r (bitsP M r) o
 | [], o, h, hb => rfl
 | u :: r, o, h, hb => by
  show turnSt L M r (if cellAt L (List.getD u 0 0) = cellAt M (List.getD u 0 0) then o else turnU u o) = setGo r (bitsP M r) (if bitOf o u = bitOf M u then o else turnU u o)
  have hpart : (cellAt L (List.getD u 0 0)).1 = (cellAt M (List.getD u 0 0)).1 := (Zhe hp _).symm
  have hiff : cellAt L (List.getD u 0 0) = cellAt M (List.getD u 0 0) ↔ bitOf o u = bitOf M u := by
   rw [hb u (List.mem_cons_self ..)]
   unfold bitOf
   constructor
   ·intro h; rw [h]
   ·intro h; exact Prod.ext hpart h
  by_cases hc : bitOf o u = bitOf M u
  ·rw [if_pos hc, if_pos (hiff.2 hc)]
   exact ZoU L M hp r o h.tail (fun v hv => hb v (List.mem_cons_of_mem _ hv))
  ·rw [if_neg hc, if_neg (fun hh => hc (hiff.1 hh))]
   refine ZoU L M hp r _ (by rw [Z21]; exact h.tail) (fun v hv => ?_)
   rw [Zjy h rfl hv]
   exact hb v (List.mem_cons_of_mem _ hv)
theorem ZCJ {a b : BoardD} (ha : boardOK a = true) (hb : boardOK b = true) (h1 : a.1 = b.1) (h2 : a.2.1 = b.2.1) (h : statesOf a b = true) : InSt a b.2.2 := by
 unfold statesOf at h
 have h := of_decide_eq_true h
 have U := (Z9m a).1.units
 have hp : b.2.2.map Prod.fst = a.2.2.map Prod.fst := by
  rw [← h]
  exact ZeK _ _ _ _ (fun u hu m hm => U.on u hu m hm)
 refine ⟨hp, (Zr hb).2.2.2.2.2, ?_⟩
 rw [← ZoU a.2.2 b.2.2 hp (unitsP a) a.2.2 U (fun _ _ => rfl)]
 exact h
theorem ZCw {a b : BoardD} (ha : boardOK a = true) (hb : boardOK b = true) (h1 : a.1 = b.1) (h2 : a.2.1 = b.2.1) (h : statesOf a b = true) : inState a (numB b) = b := by
 have hi := ZCJ ha hb h1 h2 h
 have hu : unitsP b = unitsP a := Zfa h1.symm h2.symm hi.parts
 unfold inState numB
 rw [hu, hi.number, h1, h2]
theorem ZBO (b : BoardD) (hb : boardOK b = true) {n m : Int} (n0 : 0 ≤ n) (n1 : n < 2 ^ (unitsP b).length) (m0 : 0 ≤ m) (m1 : m < 2 ^ (unitsP b).length) (h : inState b n = inState b m) : n = m := by
 rw [← Zyi b hb n0 n1, ← Zyi b hb m0 m1, h]
end Go.Proofs.Ytglkedenkcpcbaa.Vs

set_option linter.unusedVariables false
set_option linter.unusedSimpArgs false
namespace Go.Proofs.Ytglkedenkcpcbaa.Vs
open Go.RowKit
def Z87 (b : BoardD) (c : Int) : List Int × Bool := if backOK b c then (nextL b c, true) else ([], false)
theorem ZtL (b : BoardD) (c : Int) (h0 : b.2.2.length ≤ 9223372036854775806) : Ev (fun k => Z9s k b c) (Z87 b c) := by
 refine Ev.succ ?_
 simp only [Z9s]
 unfold Z87
 refine Ev.bind (Zbq b c h0) ?_
 cases g0 : backOK b c with
 | false => simp only [Bool.not_false, if_true, Bool.false_eq_true, if_false]; exact Ev.some _
 | true =>
  obtain ⟨hb, k1, k2, hu⟩ := Z8y g0
  simp only [Bool.not_true, Bool.false_eq_true, if_false, if_true]
  refine Ev.bind (Z8f b hb hu [c] (fun x hx => by rw [List.mem_singleton.1 hx]; exact ⟨k1, k2⟩) (by simp)) ?_
  have hl : (0 : Int) < ((List.map (nextL b) [c]).length : Int) := by simp
  have hg : List.getD (List.map (nextL b) [c]) (Int.toNat 0) [] = nextL b c := rfl
  simp only [hl, if_true, hg]
  exact Ev.some _
theorem Zu8 (b : BoardD) (c : Int) (h0 : b.2.2.length ≤ 9223372036854775806) : Ev (fun k => Z9C k b c) (Z87 b c) := by
 refine Ev.succ ?_
 simp only [Z9C]
 unfold Z87
 refine Ev.bind (Zfq b c h0) ?_
 cases g0 : backOK b c with
 | false => simp only [Bool.not_false, if_true, Bool.false_eq_true, if_false]; exact Ev.some _
 | true =>
  obtain ⟨hb, k1, k2, hu⟩ := Z8y g0
  simp only [Bool.not_true, Bool.false_eq_true, if_false, if_true]
  exact Ev.bind (ZdG b hb hu c k1 k2) (Ev.some _)
def cycR (next : List Int) (n : Int) : Int × Bool := match trip next n next.length n 1 with | some x => (x, true) | none => (0, false)
theorem ZDG (next : List Int) (n : Int) : (cycR next n).2 = onCycle next n := by
 unfold cycR onCycle
 cases trip next n next.length n 1 <;> rfl
def Zdh (b : BoardD) (c : Int) : Int × Bool := if backOK b c then cycR (nextL b c) (numB b) else (0, false)
theorem Zwo (b : BoardD) (c : Int) (h0 : b.2.2.length ≤ 9223372036854775806) : Ev (fun k => ZaF k b c) (Zdh b c) := by
 refine Ev.succ ?_
 simp only [ZaF]
 unfold Zdh cycR
 refine Ev.bind (Zbq b c h0) ?_
 cases g0 : backOK b c with
 | false => simp only [Bool.not_false, if_true, Bool.false_eq_true, if_false]; exact Ev.some _
 | true =>
  obtain ⟨hb, k1, k2, hu⟩ := Z8y g0
  have hs := Z4K b hu c
  have hra := Z7H b hb
  simp only [Bool.not_true, Bool.false_eq_true, if_false, if_true]
  refine Ev.bind (ZdC b hb) (Ev.bind (a := numB b) (Z8S _ (ZbM (Z4b hb) (ZO b)) (by rw [Z8K]; omega)) ?_)
  refine Ev.bind (Z8f b hb hu [c] (fun x hx => by rw [List.mem_singleton.1 hx]; exact ⟨k1, k2⟩) (by simp)) ?_
  have hl : (0 : Int) < ((List.map (nextL b) [c]).length : Int) := by simp
  have hg : List.getD (List.map (nextL b) [c]) (Int.toNat 0) [] = nextL b c := rfl
  simp only [hl, if_true, hg]
  exact Ev.bind (Zei (nextL b c) (Z4N b hb c) (by omega) (numB b) (numB b) hra.1 (by rw [Z6J, Z4X]; exact hra.2)) (Ev.some _)
theorem ZvH (b : BoardD) (c : Int) (h0 : b.2.2.length ≤ 9223372036854775806) : Ev (fun k => Zao k b c) (Zdh b c) := by
 refine Ev.succ ?_
 simp only [Zao]
 unfold Zdh cycR
 refine Ev.bind (Zfq b c h0) ?_
 cases g0 : backOK b c with
 | false => simp only [Bool.not_false, if_true, Bool.false_eq_true, if_false]; exact Ev.some _
 | true =>
  obtain ⟨hb, k1, k2, hu⟩ := Z8y g0
  have hs := Z4K b hu c
  have hra := Z7H b hb
  simp only [Bool.not_true, Bool.false_eq_true, if_false, if_true]
  refine Ev.bind (ZdG b hb hu c k1 k2) (Ev.bind (a := numB b) (Z93 b hb (by omega)) ?_)
  refine Ev.bind (ZmV (nextL b c) (Z4N b hb c) (by omega) (numB b) hra.1 (by rw [Z6J, Z4X]; exact hra.2)) ?_
  refine (Ev.some _).congr ?_
  cases ht : trip (nextL b c) (numB b) (nextL b c).length (numB b) 1 with
  | none => rfl
  | some x =>
   have := Zyt _ _ _ _ _ _ ht
   simp
   omega
theorem Zh7 (b : BoardD) (hb : boardOK b = true) (hu : (unitsP b).length ≤ 16) : Ev (fun k => Z3g k b) (numB b, true) := by
 have hl := Zae hb
 have hn : ¬ ((bitsP b.2.2 (unitsP b)).length : Int) > 16 := by rw [Z8K]; omega
 refine Ev.succ ?_
 simp only [Z3g]
 refine Ev.bind (Zgf b (by omega)) ?_
 simp only [hb, Bool.not_true, Bool.false_eq_true, if_false]
 refine Ev.bind (ZdC b hb) ?_
 simp only [hn, decide_false, Bool.false_eq_true, if_false]
 exact Ev.bind (a := numB b) (Z8S _ (ZbM (Z4b hb) (ZO b)) (by rw [Z8K]; omega)) (Ev.some _)
theorem Zr2 (b : BoardD) (hb : boardOK b = true) (hu : (unitsP b).length ≤ 16) : Ev (fun k => Z6A k b) (numB b, true) := by
 have hl := Zae hb
 have hn : ((unitsP b).length : Int) ≤ 16 := by omega
 have hs : Ev (fun k => Zcl k b) true := by
  refine Ev.succ ?_
  simp only [Zcl]
  refine Ev.bind (Zds b (by omega)) ?_
  simp only [hb, if_true]
  refine Ev.bind (Z5Y b hb) ?_
  simp only [hn, decide_true]
  exact Ev.some _
 refine Ev.succ ?_
 simp only [Z6A]
 refine Ev.bind hs ?_
 simp only [Bool.not_true, Bool.false_eq_true, if_false]
 exact Ev.bind (a := numB b) (Z93 b hb (by omega)) (Ev.some _)
theorem ZhP (b : BoardD) (hb : boardOK b = true) (c : Int) (hc : 0 ≤ c) (hc2 : c < b.2.1) : Ev (fun k => Z5k k b c) (afterB b c, true) := by
 have hl := Zae hb
 obtain ⟨p, hdrop⟩ := Zun b hb (groupsOf b) (Z3j b) c hc hc2 b.2.2 rfl (Zr hb).2.2.2.2.2
 refine Ev.succ ?_
 simp only [Z5k]
 refine Ev.bind (ZhF b c (by omega)) ?_
 simp only [hb, hc, hc2, and_self, decide_true, Bool.true_and, Bool.not_true, Bool.false_eq_true, if_false]
 refine Ev.bind (Zea b (by omega)) (Ev.bind (Zbd b hb) (Ev.bind hdrop ?_))
 exact Ev.some _
theorem ZgH (b : BoardD) (hb : boardOK b = true) (c : Int) (hc : 0 ≤ c) (hc2 : c < b.2.1) : Ev (fun k => Z5j k b c) (afterB b c, true) := by
 have hl := Zae hb
 refine Ev.succ ?_
 simp only [Z5j]
 refine Ev.bind (ZjI b c (by omega)) ?_
 simp only [hb, hc, hc2, and_self, decide_true, Bool.true_and, Bool.not_true, Bool.false_eq_true, if_false]
 exact Ev.bind (ZjJ b hb c hc hc2) (Ev.some _)
end Go.Proofs.Ytglkedenkcpcbaa.Vs

set_option linter.unusedVariables false
set_option linter.unusedSimpArgs false
namespace Go.Proofs.Ytglkedenkcpcbaa.Vs
open Go.RowKit
theorem ZCz (p q : List Int) : ∃ v, Ev (fun k => ZeR k p q) v := by
 cases h : gtS (p.length : Int) 1048576 with
 | true => exact ⟨true, Ev.succ (by simp only [ZeR, h, if_true]; exact Ev.some _)⟩
 | false => exact ⟨_, Ev.succ (by simp only [ZeR, h, Bool.false_eq_true, if_false]; exact Ev.some _)⟩
theorem Zi1 : ∀ (r s pre q : List Int), r.length = s.length → pre.length = q.length → (pre ++ r).length ≤ 1000000 → Ev (fun k => Z57 k (pre ++ r) (q ++ s) ((pre ++ r).length : Int) (pre.length : Int)) (if r = s then LR.go () else LR.ret false)
 | [], s, pre, q, h, hq, hl => by
  obtain rfl : s = [] := List.eq_nil_of_length_eq_zero h.symm
  refine Ev.succ ?_
  simp only [Z57, Zx, decide_false, Bool.false_eq_true, if_false, if_true]
  exact Ev.some _
 | x :: r, [], pre, q, h, hq, hl => by simp at h
 | x :: r, y :: s, pre, q, h, hq, hl => by
  have ih := Zi1 r s (pre ++ [x]) (q ++ [y]) (by simpa using h) (by simpa using hq) (by simpa using hl)
  have l2 : (pre.length : Int) < ((q ++ y :: s).length : Int) := by rw [hq]; exact Zk _ _ _
  have g2 : List.getD (q ++ y :: s) pre.length 0 = y := by rw [hq]; exact Za _ _ _ _
  refine Ev.succ ?_
  simp only [Z57, Zk, ZA, l2, decide_true, if_true, Int.toNat_natCast, Za, g2]
  rw [Zj pre x r (by omega)]
  rw [← Z6, ← Z6] at ih
  refine Ev.ite (fun hh => ?_) (fun hh => ?_)
  ·simp only [decide_eq_true_eq] at hh
   rw [if_neg (fun he => hh (List.cons.inj he).1)]
   exact Ev.some _
  ·simp only [decide_eq_true_eq, Decidable.not_not] at hh
   refine ih.congr ?_
   simp [hh]
theorem Zlf (a c : List Int) (ha : a.length ≤ 1000000) : Ev (fun k => Z96 k a c) (decide (a = c)) := by
 refine Ev.succ ?_
 simp only [Z96]
 refine Ev.ite (fun h => ?_) (fun h => ?_)
 ·simp only [decide_eq_true_eq] at h
  rw [decide_eq_false (fun he => h (by rw [he]))]
  exact Ev.some _
 ·simp only [decide_eq_true_eq, Decidable.not_not] at h
  refine Ev.bind (Zi1 a c [] [] (by omega) rfl (by simpa using ha)) ?_
  by_cases he : a = c
  ·rw [if_pos he, decide_eq_true he]; exact Ev.go (Ev.some _)
  ·rw [if_neg he, decide_eq_false he]; exact Ev.ret (Ev.some _)
theorem ZDr (x y : Int × Int) : (decide (x.1 = y.1) && (decide (x.2 = y.2) && true)) = decide (x = y) := by
 rw [Bool.eq_iff_iff]
 simp [Prod.ext_iff]
theorem ZfN (a1 a2 c1 c2 : Int) : ∀ (r s pre q : List CellD), r.length = s.length → pre.length = q.length → (pre ++ r).length ≤ 2000000 → Ev (fun k => Z3W k a1 a2 (pre ++ r) c1 c2 (q ++ s) ((pre ++ r).length : Int) (pre.length : Int)) (if r = s then LR.go () else LR.ret false)
 | [], s, pre, q, h, hq, hl => by
  obtain rfl : s = [] := List.eq_nil_of_length_eq_zero h.symm
  refine Ev.succ ?_
  simp only [Z3W, Zx, decide_false, Bool.false_eq_true, if_false, if_true]
  exact Ev.some _
 | x :: r, [], pre, q, h, hq, hl => by simp at h
 | x :: r, y :: s, pre, q, h, hq, hl => by
  have ih := ZfN a1 a2 c1 c2 r s (pre ++ [x]) (q ++ [y]) (by simpa using h) (by simpa using hq) (by simpa using hl)
  have l2 : (pre.length : Int) < ((q ++ y :: s).length : Int) := by rw [hq]; exact Zk _ _ _
  have g2 : List.getD (q ++ y :: s) pre.length (0, 0) = y := by rw [hq]; exact Za _ _ _ _
  refine Ev.succ ?_
  simp only [Z3W, Zk, ZA, l2, decide_true, if_true, Int.toNat_natCast, Za, g2, ZDr]
  rw [Zj pre x r (by omega)]
  rw [← Z6, ← Z6] at ih
  by_cases hh : x = y
  ·simp only [hh, decide_true, Bool.not_true, Bool.false_eq_true, if_false]
   rw [hh] at ih
   refine ih.congr ?_
   simp
  ·simp only [hh, decide_false, Bool.not_false, if_true]
   rw [if_neg (fun he => hh (List.cons.inj he).1)]
   exact Ev.some _
theorem Z9F (a c : BoardD) (ha : a.2.2.length ≤ 2000000) : Ev (fun k => Z25 k a c) (decide (a = c)) := by
 refine Ev.succ ?_
 simp only [Z25]
 refine Ev.ite (fun h => ?_) (fun h1 => Ev.ite (fun h => ?_) (fun h2 => Ev.ite (fun h => ?_) (fun h3 => ?_)))
 ·simp only [decide_eq_true_eq] at h
  rw [decide_eq_false (fun he => h (by rw [he]))]
  exact Ev.some _
 ·simp only [decide_eq_true_eq] at h
  rw [decide_eq_false (fun he => h (by rw [he]))]
  exact Ev.some _
 ·simp only [decide_eq_true_eq] at h
  rw [decide_eq_false (fun he => h (by rw [he]))]
  exact Ev.some _
 ·simp only [decide_eq_true_eq, Decidable.not_not] at h1 h2 h3
  refine Ev.bind (ZfN a.1 a.2.1 c.1 c.2.1 a.2.2 c.2.2 [] [] (by omega) rfl (by simpa using ha)) ?_
  by_cases he : a.2.2 = c.2.2
  ·have : a = c := Prod.ext h1 (Prod.ext h2 he)
   rw [if_pos he, decide_eq_true this]; exact Ev.go (Ev.some _)
  ·rw [if_neg he, decide_eq_false (fun e => he (by rw [e]))]; exact Ev.ret (Ev.some _)
theorem Zsz (x : Int) : ∀ (r pre : List Int), (pre ++ r).length ≤ 1000000 → Ev (fun k => Za5 k x (pre ++ r) ((pre ++ r).length : Int) (pre.length : Int)) (if x ∈ r then LR.ret true else LR.go ())
 | [], pre, hl => by
  refine Ev.succ ?_
  simp only [Za5, Zx, decide_false, Bool.false_eq_true, if_false, List.not_mem_nil]
  exact Ev.some _
 | y :: r, pre, hl => by
  have ih := Zsz x r (pre ++ [y]) (by simpa using hl)
  refine Ev.succ ?_
  simp only [Za5, Zk, ZA, decide_true, if_true, Int.toNat_natCast, Za]
  rw [Zj pre y r (by omega)]
  rw [← Z6] at ih
  by_cases h : y = x
  ·simp only [h, decide_true, if_true, List.mem_cons, true_or]; exact Ev.some _
  ·have h' : ¬ x = y := fun e => h e.symm
   simp only [h, decide_false, Bool.false_eq_true, if_false]
   refine ih.congr ?_
   simp [h']
theorem Zxu (l : List Int) (x : Int) (hl : l.length ≤ 1000000) : Ev (fun k => Zcd k l x) (decide (x ∈ l)) := by
 refine Ev.succ ?_
 simp only [Zcd]
 refine Ev.bind (Zsz x l [] (by simpa using hl)) ?_
 by_cases h : x ∈ l
 ·rw [if_pos h, decide_eq_true h]; exact Ev.ret (Ev.some _)
 ·rw [if_neg h, decide_eq_false h]; exact Ev.go (Ev.some _)
end Go.Proofs.Ytglkedenkcpcbaa.Vs

set_option linter.unusedVariables false
set_option linter.unusedSimpArgs false
namespace Go.Proofs.Ytglkedenkcpcbaa.Vs
open Go.RowKit
theorem ZAX (next : List Int) (i : Nat) (n : Int) : List.getD next (itN next i n).toNat 0 = itN next (i + 1) n := by
 rw [Zn9 next i 1 n]
 rfl
theorem ZjA (next states p1 : List Int) (hin : inside next) {n : Int} (n0 : 0 ≤ n) (n1 : n < (next.length : Int)) (m : Nat) (hm : itN next m n = n) (hf : ∀ j : Nat, 1 ≤ j → j < m → itN next j n ≠ n) (hl : m ≤ 1000000) : ∀ (r i : Nat), i + r = m →
    Ev (fun k => Z34 k next states p1 (m : Int) n (itN next i n) ((i : Int) + 1)) (LR.go (next, states, p1))
  | 0, i, h => by
    refine Ev.succ ?_
    have hlt : ¬ (i : Int) + 1 ≤ (m : Int) := by omega
    simp only [Z34, hlt, decide_false, Bool.false_eq_true, if_false]
    exact Ev.some _
  | r + 1, i, h => by
    refine Ev.succ ?_
    have hlt : (i : Int) + 1 ≤ (m : Int) := by omega
    have hr := Zo3 hin i n0 n1
    have w : wrap64 ((i : Int) + 1 + 1) = ((i + 1 : Nat) : Int) + 1 := by rw [w64 (by omega) (by omega)]; omega
    have e : decide (itN next (i + 1) n = n) = decide ((i : Int) + 1 = (m : Int)) := by
      rw [decide_eq_decide]
      by_cases hi : i + 1 = m
      · rw [hi]; exact ⟨fun _ => by omega, fun _ => hm⟩
      · exact ⟨fun h2 => (hf (i + 1) (by omega) (by omega) h2).elim, fun h2 => by omega⟩
    simp only [Z34, hlt, decide_true, if_true, hr.1, hr.2, ZAX, e, beq_self_eq_true, Bool.not_true, Bool.false_eq_true, if_false, w]
    exact ZjA next states p1 hin n0 n1 m hm hf hl r (i + 1) (by omega)
theorem Zq8 (next states p1 : List Int) (hin : inside next) (hl : next.length ≤ 1000000) {n : Int} (n0 : 0 ≤ n) (n1 : n < (next.length : Int)) : Ev (fun k => Z2e k next states p1 (cycR next n).1 n (cycR next n).2) (LR.go (next, states, p1)) := by
 unfold cycR
 cases ht : trip next n next.length n 1 with
 | none =>
  simp only [Z2e, Bool.false_eq_true, if_false]
  exact Ev.some _
 | some x =>
  obtain ⟨m, h1, h2, h3, h4, h5⟩ := Ziq next n _ _ _ x ht
  obtain rfl : x = (m : Int) := by omega
  have h := ZjA next states p1 hin n0 n1 m h4 h5 (by omega) m 0 (by omega)
  simp only [itN, Int.natCast_zero, Int.zero_add] at h
  simp only [Z2e, if_true]
  exact Ev.bind h (Ev.go (Ev.some _))
theorem Zkc (next p1 : List Int) (hin : inside next) (hl : next.length ≤ 1000000) (states : List Int) (hs : states = cycL next next.length 0) : ∀ (r pre : List Int), pre ++ r = states →
    Ev (fun k => Z26 k next states p1 (states.length : Int) (pre.length : Int)) (LR.go p1)
  | [], pre, h => by
    subst h
    refine Ev.succ ?_
    simp only [Z26, Zx, decide_false, Bool.false_eq_true, if_false]
    exact Ev.some _
  | x :: r, pre, h => by
    have hsl : states.length ≤ 1000000 := by rw [hs]; have := ZoI next next.length 0; omega
    have hx : x ∈ states := by rw [← h]; simp
    have hx2 := hx
    rw [hs, Zjb] at hx2
    obtain ⟨x0, x1, x2⟩ := hx2
    have x1' : x < (next.length : Int) := by omega
    have hy : List.getD next x.toNat 0 ∈ states := by
      have hi := ZgY hin x0 x1'
      rw [hs, Zjb]
      exact ⟨hi.1, by omega, ZAQ x2⟩
    have ih := Zkc next p1 hin hl states hs r (pre ++ [x]) (by simpa using h)
    have l1 : (pre.length : Int) < (states.length : Int) := by rw [← h]; exact Zk _ _ _
    have g1 : List.getD states pre.length 0 = x := by rw [← h]; exact Za _ _ _ _
    have w : wrap64 ((pre.length : Int) + 1) = ((pre ++ [x]).length : Int) := by rw [w64 (by omega) (by omega)]; simp
    refine Ev.succ ?_
    simp only [Z26, l1, ZA, decide_true, if_true, Int.toNat_natCast, g1, x0, x1', w]
    refine Ev.bind (Zxu states _ hsl) ?_
    simp only [hy, decide_true, Bool.not_true, Bool.false_eq_true, if_false]
    exact ih
theorem Zsd : Ev (fun k => Z1t k) true := by
 simp only [Z1t]
 exact Ev.some _
theorem ZjT (a t : BoardD) (ha : boardOK a = true) (c : Int) (c0 : 0 ≤ c) (c1 : c < a.2.1) (m : Nat) (hm : m ≤ 1000000) (hne : ∀ j : Nat, j < m → inState a (itN (nextL a c) j (numB a)) ≠ t) : ∀ (r i : Nat), i + r = m →
    Ev (fun k => Z2b k t.1 t.2.1 t.2.2 a.1 a.2.1 (stateN a (itN (nextL a c) i (numB a))) c (m : Int) (i : Int)) (LR.go (t.1, t.2.1, t.2.2, a.1, a.2.1, stateN a (itN (nextL a c) m (numB a))))
  | 0, i, h => by
    obtain rfl : i = m := by omega
    refine Ev.succ ?_
    have hlt : ¬ (i : Int) < (i : Int) := by omega
    simp only [Z2b, hlt, decide_false, Bool.false_eq_true, if_false]
    exact Ev.some _
  | r + 1, i, h => by
    refine Ev.succ ?_
    have hlt : (i : Int) < (m : Int) := by omega
    have hra := Z7H a ha
    have hin := Zo3 (Z4N a ha c) i hra.1 (by rw [Z6J, Z4X]; exact hra.2)
    rw [Z6J, Z4X] at hin
    have hl := Zae ha
    have hsl : (stateN a (itN (nextL a c) i (numB a))).length ≤ 90 := by rw [Zay]; exact hl
    have hsl2 : (stateN a (itN (nextL a c) (i + 1) (numB a))).length ≤ 90 := by rw [Zay]; exact hl
    have w : wrap64 ((i : Int) + 1) = ((i + 1 : Nat) : Int) := by rw [w64 (by omega) (by omega)]; omega
    have hok : boardOK (a.1, a.2.1, stateN a (itN (nextL a c) i (numB a))) = true := Zrd a ha _
    have e1 := ZhP (a.1, a.2.1, stateN a (itN (nextL a c) i (numB a))) hok c c0 c1
    have e2 := ZgH (a.1, a.2.1, stateN a (itN (nextL a c) i (numB a))) hok c c0 c1
    have ea : afterB (a.1, a.2.1, stateN a (itN (nextL a c) i (numB a))) c = (a.1, a.2.1, stateN a (itN (nextL a c) (i + 1) (numB a))) := by
      rw [← ZAX, ZyT a c hin.1 hin.2]
      exact ZyQ a ha _ c
    rw [ea] at e1 e2
    have hd : ¬ ((a.1, a.2.1, stateN a (itN (nextL a c) i (numB a))) : BoardD) = (t.1, t.2.1, t.2.2) := hne i (by omega)
    simp only [Z2b, hlt, decide_true, if_true]
    refine Ev.bind (Z9F (a.1, a.2.1, stateN a (itN (nextL a c) i (numB a))) (t.1, t.2.1, t.2.2) (by dsimp only; omega)) ?_
    rw [decide_eq_false hd]
    simp only [Bool.false_eq_true, if_false]
    refine Ev.bind e1 (Ev.bind e2 ?_)
    simp only [Bool.not_true, Bool.false_eq_true, if_false]
    refine Ev.bind (Z9F _ _ (by dsimp only; omega)) ?_
    simp only [decide_true, Bool.not_true, Bool.false_eq_true, if_false, w]
    exact ZjT a t ha c c0 c1 m hm hne r (i + 1) (by omega)
theorem Zsj (p1 : List Int) (h1 : Cur p1 0 6000) : Ev (fun k => Z10 k p1) true := by
 obtain ⟨⟨a, t, c⟩, e0, g1, g2⟩ := ZqE p1 h1
 simp only at g1 g2
 simp only [Z10]
 refine Ev.bind e0 (Ev.bind (ZoD a t c (by omega) (by omega)) (Ev.bind (Zos a t c (by omega) (by omega)) ?_))
 simp only [beq_self_eq_true, Bool.not_true, Bool.false_eq_true, if_false, ne_eq, not_true_eq_false, decide_false]
 have none' : Ev (fun k => Option.bind (Z1t k) fun z31 => some z31) true := Ev.bind Zsd (Ev.some _)
 unfold Z94
 cases hg : backOK a c && (boardOK t && decide (a.1 = t.1 ∧ a.2.1 = t.2.1)) && statesOf a t with
 | false => simp only [Bool.false_eq_true, if_false]; exact none'
 | true =>
  simp only [Bool.and_eq_true, decide_eq_true_eq] at hg
  obtain ⟨⟨g0, ht, d1, d2⟩, hst⟩ := hg
  obtain ⟨ha, k1, k2, hu⟩ := Z8y g0
  have hs := Z4K a hu c
  have hnum := ZCw ha ht d1 d2 hst
  have hra := Z7H a ha
  have hrt := Z7H t ht
  rw [Zfp d1 d2 hst] at hrt
  have done : ∀ (m : Nat), m ≤ 1000000 → itN (nextL a c) m (numB a) = numB t → (∀ j : Nat, j < m → itN (nextL a c) j (numB a) ≠ numB t) → Ev (fun k => Option.bind (Z2b k t.1 t.2.1 t.2.2 a.1 a.2.1 a.2.2 c (m : Int) 0) fun z28 => LR.on z28 (fun y28 => Option.bind (Z25 k (Prod.fst y28.2.2.2, Prod.fst y28.2.2.2.2, Prod.snd y28.2.2.2.2) (Prod.fst y28, Prod.fst y28.2, Prod.fst y28.2.2)) fun z29 => if (!z29) = true then some false else Option.bind (Z1t k) fun z30 => some z30) fun r28 => some r28) true := by
   intro m hm h1 h2
   have hne : ∀ j : Nat, j < m → inState a (itN (nextL a c) j (numB a)) ≠ t := by
    intro j hj he
    have hin := Zo3 (Z4N a ha c) j hra.1 (by rw [Z6J, Z4X]; exact hra.2)
    rw [Z6J, Z4X] at hin
    rw [← hnum] at he
    exact h2 j hj (ZBO a ha hin.1 hin.2 hrt.1 hrt.2 he)
   have h4 := ZjT a t ha c k1 k2 m hm hne m 0 (by omega)
   simp only [itN, Int.natCast_zero, Zux a ha] at h4
   rw [h1] at h4
   refine Ev.bind h4 (Ev.go ?_)
   have et : ((a.1, a.2.1, stateN a (numB t)) : BoardD) = (t.1, t.2.1, t.2.2) := hnum
   refine Ev.bind (Z9F (a.1, a.2.1, stateN a (numB t)) (t.1, t.2.1, t.2.2) (by dsimp only; rw [Zay]; omega)) ?_
   rw [decide_eq_true et]
   simp only [Bool.not_true, Bool.false_eq_true, if_false]
   exact none'
  simp only [if_true]
  by_cases e : numB a = numB t
  ·simp only [e, if_true]
   exact done 0 (by omega) (by simpa [itN] using e) (fun j hj => by omega)
  ·simp only [e, if_false]
   cases hx : trip (nextL a c) (numB t) (nextL a c).length (numB a) 1 with
   | none => simp only [Bool.false_eq_true, if_false]; exact none'
   | some x =>
    obtain ⟨m, h1, h2, h3, h4, h5⟩ := Ziq _ _ _ _ _ x hx
    obtain rfl : x = (m : Int) := by omega
    simp only [if_true]
    refine done m (by omega) h4 (fun j hj => ?_)
    cases j with
    | zero => simpa [itN] using e
    | succ j => exact h5 (j + 1) (by omega) hj
theorem ZCe (b : BoardD) (hb : boardOK b = true) (c : Int) : numB (afterB b c) = nextN b c (numB b) ∧ boardOK (afterB b c) = true ∧ unitsP (afterB b c) = unitsP b := by
 have hr := ZuN b hb c (numB b)
 rw [ZBC b hb c]
 exact ⟨Zyi b hb hr.1 hr.2, Zrd b hb _, Zsk b hb _⟩
theorem Zvp (p0 p1 : List Int) (h0 : p0.length ≤ 9223372036854775807) (b0 : ∀ x ∈ p0, 0 ≤ x ∧ x ≤ 255) (h1 : p1.length ≤ 9223372036854775807) (b1 : ∀ x ∈ p1, 0 ≤ x ∧ x ≤ 255) : Ev (fun k => Zbh k p0 p1) true := by
 have c0 : Cur p0 0 6000 := ⟨b0, h0, by omega, by omega⟩
 have c1 : Cur p1 0 6000 := ⟨b1, h1, by omega, by omega⟩
 obtain ⟨v, hv⟩ := ZCz p0 p1
 refine Ev.succ ?_
 simp only [Zbh]
 refine Ev.bind hv ?_
 refine Ev.ite (fun _ => Ev.some _) (fun _ => ?_)
 obtain ⟨⟨b, c⟩, e0, g1⟩ := Zvi p0 c0
 simp only at g1
 refine Ev.bind e0 (Ev.bind (ZtL b c (by omega)) (Ev.bind (Zu8 b c (by omega)) (Ev.bind (Zwo b c (by omega)) (Ev.bind (ZvH b c (by omega)) (Ev.bind (ZmI b c (by omega)) (Ev.bind (ZnP b c (by omega)) (Ev.bind (a := true) ?_ (Ev.some _))))))))
 have c34 : Ev (fun k => Option.bind (Z10 k p1) fun z33 => some z33) true := Ev.bind (Zsj p1 c1) (Ev.some _)
 simp only [Z8o, beq_self_eq_true, Bool.not_true, Bool.false_eq_true, if_false]
 have hst := ZCj b c
 have hnl : (Z87 b c).1.length ≤ 1000000 := by
  unfold Z87
  cases g0 : backOK b c with
  | false => simp
  | true =>
   obtain ⟨hb, k1, k2, hu⟩ := Z8y g0
   have hs := Z4K b hu c
   simp only [if_true]
   omega
 refine Ev.bind (Zlf _ _ hnl) ?_
 simp only [decide_true, Bool.not_true, Bool.false_eq_true, if_false, ne_eq, not_true_eq_false, decide_false]
 refine Ev.bind (Zlf _ _ (by omega)) ?_
 simp only [decide_true, Bool.not_true, Bool.false_eq_true, if_false]
 unfold Z87 Zdh Z4g
 cases g0 : backOK b c with
 | false =>
  simp only [Bool.false_eq_true, if_false, beq_self_eq_true, Bool.not_true]
  exact c34
 | true =>
  obtain ⟨hb, k1, k2, hu⟩ := Z8y g0
  have hs := Z4K b hu c
  have hra := Z7H b hb
  have hra2 : numB b < ((nextL b c).length : Int) := by rw [Z6J, Z4X]; exact hra.2
  have hin := Z4N b hb c
  obtain ⟨a1, a2, a3⟩ := ZCe b hb c
  have hal := Zae a2
  have hcl := ZoI (nextL b c) (nextL b c).length 0
  have hmem : decide (numB b ∈ cycL (nextL b c) (nextL b c).length 0) = (cycR (nextL b c) (numB b)).2 := by
   rw [ZDG, Bool.eq_iff_iff, decide_eq_true_eq, Zjb]
   exact ⟨fun h => h.2.2, fun h => ⟨hra.1, by omega, h⟩⟩
  have hsome : ¬ (((cycL (nextL b c) (nextL b c).length 0).length : Int) = 0) := by
   obtain ⟨m, hm, hon⟩ := ZCl hin hs.2
   have hx : (m : Int) ∈ cycL (nextL b c) (nextL b c).length 0 := (Zjb _ _ _ _).2 ⟨by omega, by omega, hon⟩
   have := List.length_pos_of_mem hx
   omega
  have e5 := Zh7 (afterB b c) a2 (by rw [a3]; omega)
  rw [a1] at e5
  have hj := Zq8 (nextL b c) (cycL (nextL b c) (nextL b c).length 0) p1 hin (by omega) hra.1 hra2
  have h2 := Zkc (nextL b c) p1 hin (by omega) _ rfl (cycL (nextL b c) (nextL b c).length 0) [] rfl
  simp only [if_true, beq_self_eq_true, Bool.not_true, Bool.false_eq_true, if_false]
  refine Ev.ite (fun _ => ?_) (fun _ => ?_)
  all_goals
   refine Ev.bind (Zh7 b hb (by omega)) (Ev.bind (Zr2 b hb (by omega)) (Ev.bind (ZhP b hb c k1 k2) (Ev.bind (ZgH b hb c k1 k2) (Ev.bind e5 ?_))))
   simp only [Bool.not_true, Bool.false_eq_true, if_false, ne_eq, not_true_eq_false, decide_false]
   refine Ev.bind (Z9F _ _ (by dsimp only; omega)) ?_
   simp only [decide_true, Bool.not_true, Bool.false_eq_true, if_false, hra.1, hra2, if_true, ZyT b c hra.1 hra.2, not_true_eq_false, decide_false]
   refine Ev.bind (Zxu _ _ (by omega)) ?_
   simp only [hmem, beq_self_eq_true, Bool.not_true, Bool.false_eq_true, if_false, hsome, decide_false]
   refine Ev.bind hj (Ev.go ?_)
   refine Ev.bind h2 (Ev.go ?_)
   exact c34
end Go.Proofs.Ytglkedenkcpcbaa.Vs
